/- Pieces of lists: the program's readable, piece, StoreAll. -/
import Derived.Test.YtbcfbkcadceniaaDoorSValS
namespace Go.Proofs.YtbcfbkcadceniaaDoor
set_option linter.unusedVariables false
set_option linter.unusedSimpArgs false
open Go.RowKit

def EnsRet (xs : List En) (w : World) (e : Ending) (w' : World) : Prop :=
  ∃ (A : Option Addr) (n c : Nat), e = .returned (.slice A n c) ∧ Row enCells 4 w' w'.heap.size A n xs ∧ n ≤ c ∧ Hid (A = none → c = 0) ∧ Below w.heap.size w w'
def EvsRet (xs : List Ev) (w : World) (e : Ending) (w' : World) : Prop :=
  ∃ (A : Option Addr) (n c : Nat), e = .returned (.slice A n c) ∧ Row evCells 3 w' w'.heap.size A n xs ∧ n ≤ c ∧ Hid (A = none → c = 0) ∧ Below w.heap.size w w'
theorem ens_ret {w w' : World} {v : Value} {base n : Nat} {xs : List En} (hl : xs.length = n) (h : w'.ownsRow base 35 4 v n (xs.flatMap enCells)) (hb : Below w.heap.size w w') : EnsRet xs w (.returned v) w' := by
  obtain ⟨A, c, rfl, h1, h2, h3, _⟩ := Row.of_own h hl
  exact ⟨A, n, c, rfl, h3, h1, Lib.hid h2, hb⟩
theorem evs_ret {w w' : World} {v : Value} {base n : Nat} {xs : List Ev} (hl : xs.length = n) (h : w'.ownsRow base 33 3 v n (xs.flatMap evCells)) (hb : Below w.heap.size w w') : EvsRet xs w (.returned v) w' := by
  obtain ⟨A, c, rfl, h1, h2, h3, _⟩ := Row.of_own h hl
  exact ⟨A, n, c, rfl, h3, h1, Lib.hid h2, hb⟩
def rdOk (a m : Int) : Bool := decide (0 ≤ a ∧ a ≤ 99) && decide (0 ≤ m ∧ m ≤ 99)

theorem rdOk_no {a m : Int} (h : ¬ (0 ≤ a ∧ a ≤ 99 ∧ 0 ≤ m ∧ m ≤ 99)) : rdOk a m = false := by
  cases e : rdOk a m with
  | false => rfl
  | true => unfold rdOk at e; rw [Bool.and_eq_true, decide_eq_true_eq, decide_eq_true_eq] at e; exact absurd ⟨e.1.1, e.1.2, e.2.1, e.2.2⟩ h
theorem rdOk_iff {a m : Int} : rdOk a m = true ↔ (0 ≤ a ∧ a ≤ 99) ∧ 0 ≤ m ∧ m ≤ 99 := by unfold rdOk; rw [Bool.and_eq_true, decide_eq_true_eq, decide_eq_true_eq]

theorem readable_any (a m : Int) (w : World) :
    Calls Tryd.prog 66 #[.int .i64 a, .int .i64 m] w fun e w' => e = .returned (.bool (rdOk a m)) ∧ w = w' := by
  by_cases h1 : 0 ≤ a
  · by_cases h2 : a ≤ 99
    · by_cases h3 : 0 ≤ m
      · by_cases h4 : m ≤ 99
        all_goals
          go_enter Tryd.func66, Tryd.ntmps66
          go_wp2
          go_ret
          exact ⟨ret_bool (by simp [rdOk, h1, h2, h3, h4]), rfl⟩
      · go_enter Tryd.func66, Tryd.ntmps66
        go_wp2
        go_ret
        exact ⟨ret_bool (rdOk_no (by omega)).symm, rfl⟩
    · go_enter Tryd.func66, Tryd.ntmps66
      go_wp2
      go_ret
      exact ⟨ret_bool (rdOk_no (by omega)).symm, rfl⟩
  · go_enter Tryd.func66, Tryd.ntmps66
    go_wp2
    go_ret
    exact ⟨ret_bool (rdOk_no (by omega)).symm, rfl⟩

def pieceL {α : Type} (l : List α) (a m : Nat) : List α := (l.drop a).take m
theorem piece_cut {α : Type} {l : List α} {a m n lo hi : Nat} (hl : l.length = n) (h1 : lo = min a n) (h2 : hi = min (a + m) n) : (l.drop lo).take (hi - lo) = pieceL l a m ∧ lo ≤ hi ∧ hi ≤ n := by
  subst h1 h2 hl
  refine ⟨?_, by omega, by omega⟩
  unfold pieceL
  apply List.ext_getElem?
  intro i
  rw [List.getElem?_take, List.getElem?_take, List.getElem?_drop, List.getElem?_drop]
  by_cases ha : a ≤ l.length
  · rw [Nat.min_eq_left ha]
    by_cases hi : i < m
    · rw [if_pos hi]
      by_cases hj : i < min (a + m) l.length - a
      · rw [if_pos hj]
      · rw [if_neg hj, List.getElem?_eq_none (by omega)]
    · rw [if_neg hi, if_neg (by omega)]
  · rw [Nat.min_eq_right (by omega), if_neg (by omega)]
    by_cases hi : i < m
    · rw [if_pos hi, List.getElem?_eq_none (by omega)]
    · rw [if_neg hi]
theorem piece_len {α : Type} (l : List α) (a m : Nat) : (pieceL l a m).length ≤ l.length ∧ (pieceL l a m).length ≤ m := by
  unfold pieceL; rw [List.length_take, List.length_drop]; omega

set_option maxRecDepth 100000 in
set_option maxHeartbeats 4000000 in
theorem pieceEv_any (A : Option Addr) (n c : Nat) (xs : List Ev) (a m : Nat) (w : World) (h : Row evCells 3 w w.heap.size A n xs) (hnc : n ≤ c) (hnil : A = none → c = 0) (hnb : n ≤ 1000000) (ha : a ≤ 99) (hm : m ≤ 99) :
    Calls Tryd.prog 67 #[.slice A n c, .int .i64 a, .int .i64 m] w (EvsRet (pieceL xs a m) w) := by
  have Hl := Lib.hid h.1
  obtain ⟨lo, hlo⟩ : ∃ lo, lo = min a n := ⟨_, rfl⟩
  obtain ⟨hi, hhi⟩ : ∃ hi, hi = min (a + m) n := ⟨_, rfl⟩
  obtain ⟨p1, p2, p3⟩ := piece_cut Hl.out hlo hhi
  have e1 : min (a : Int) (n : Int) = (lo : Int) := by omega
  have e2 : min ((a : Int) + (m : Int)) (n : Int) = (hi : Int) := by omega
  have hc := h.cut (cap := c) evCells_len lo hi p2 p3 hnc
  rw [p1] at hc
  obtain ⟨A2, hif, Hc, Hn2⟩ : ∃ A2, (if c = lo then A else Option.map (fun x => x.add (lo * 3)) A) = A2 ∧ Hid (Row evCells 3 w w.heap.size A2 (hi - lo) (pieceL xs a m)) ∧ Hid (A2 = none → c - lo = 0) := by
    refine ⟨_, rfl, Lib.hid hc, Lib.hid fun e => ?_⟩
    split at e
    · omega
    · rw [Option.map_eq_none_iff] at e
      have := hnil e
      omega
  have Hp := Lib.hid (And.intro p2 p3)
  have hhi1 : hi ≤ 1000000 := by omega
  have q1 : (lo : Int) ≤ (hi : Int) := by omega
  have q2 : (hi : Int) ≤ (c : Int) := by omega
  clear h hc p1 hlo hhi
  go_enter Tryd.func67, Tryd.ntmps67
  go_wp2_with (first
    | (at_builtin; go_must (refine app_src elemEv _ rfl _ _ rfl w.heap.size _ 0 [] rfl (World.ownsRow_lit w #[] 0 (Nat.le_refl _) (Nat.zero_le _) rfl) A2 (hi - lo) (c - lo) w.heap.size ((pieceL xs a m).flatMap evCells) rfl Hn2.out (Hc.out.2.below ((Below.refl _ _).alloc (Nat.le_refl _) _)) (evs_one _) ?_ ?_ ?_ ?_); omega; omega; (show w.heap.size ≤ (w.alloc _).heap.size; simp); intro v' w4 own4 grow4 or4))
  go_ret
  have hb4 : Below w.heap.size w w4 := ((Below.refl _ _).alloc (Nat.le_refl _) (.cells #[] 33)).grown grow4 (by simp) (fun k hk => by injection hk with e; rw [← e]; exact Nat.le_refl _)
  rw [Nat.zero_add, List.nil_append] at own4
  exact evs_ret Hc.out.1 own4 hb4
end Go.Proofs.YtbcfbkcadceniaaDoor
