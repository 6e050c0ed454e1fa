/- Pieces of lists: the program's readable, piece, StoreAll. -/
import Derived.Test.YtnfncnpnkmjjeaaDoorSValS
namespace Go.Proofs.YtnfncnpnkmjjeaaDoor
set_option linter.unusedVariables false
set_option linter.unusedSimpArgs false
open Go.RowKit

def EnsRet (xs : List En) (w : World) (e : Ending) (w' : World) : Prop :=
  ∃ (A : Option Addr) (n c : Nat), e = .returned (.slice A n c) ∧ Row enCells 4 w' w'.heap.size A n xs ∧ n ≤ c ∧ Hid (A = none → c = 0) ∧ Below w.heap.size w w'
def EvsRet (xs : List Ev) (w : World) (e : Ending) (w' : World) : Prop :=
  ∃ (A : Option Addr) (n c : Nat), e = .returned (.slice A n c) ∧ Row evCells 3 w' w'.heap.size A n xs ∧ n ≤ c ∧ Hid (A = none → c = 0) ∧ Below w.heap.size w w'
theorem ens_ret {w w' : World} {v : Value} {base n : Nat} {xs : List En} (hl : xs.length = n) (h : w'.ownsRow base 44 4 v n (xs.flatMap enCells)) (hb : Below w.heap.size w w') : EnsRet xs w (.returned v) w' := by
  obtain ⟨A, c, rfl, h1, h2, h3, _⟩ := Row.of_own h hl
  exact ⟨A, n, c, rfl, h3, h1, Lib.hid h2, hb⟩
theorem evs_ret {w w' : World} {v : Value} {base n : Nat} {xs : List Ev} (hl : xs.length = n) (h : w'.ownsRow base 42 3 v n (xs.flatMap evCells)) (hb : Below w.heap.size w w') : EvsRet xs w (.returned v) w' := by
  obtain ⟨A, c, rfl, h1, h2, h3, _⟩ := Row.of_own h hl
  exact ⟨A, n, c, rfl, h3, h1, Lib.hid h2, hb⟩
def rdOk (a m : Int) : Bool := decide (0 ≤ a ∧ a ≤ 99) && decide (0 ≤ m ∧ m ≤ 99)

theorem rdOk_no {a m : Int} (h : ¬ (0 ≤ a ∧ a ≤ 99 ∧ 0 ≤ m ∧ m ≤ 99)) : rdOk a m = false := by
  cases e : rdOk a m with
  | false => rfl
  | true => unfold rdOk at e; rw [Bool.and_eq_true, decide_eq_true_eq, decide_eq_true_eq] at e; exact absurd ⟨e.1.1, e.1.2, e.2.1, e.2.2⟩ h
theorem rdOk_iff {a m : Int} : rdOk a m = true ↔ (0 ≤ a ∧ a ≤ 99) ∧ 0 ≤ m ∧ m ≤ 99 := by unfold rdOk; rw [Bool.and_eq_true, decide_eq_true_eq, decide_eq_true_eq]

def pieceL {α : Type} (l : List α) (a m : Nat) : List α := (l.drop a).take m
theorem piece_cut {α : Type} {l : List α} {a m n lo hi : Nat} (hl : l.length = n) (h1 : lo = min a n) (h2 : hi = min (a + m) n) : (l.drop lo).take (hi - lo) = pieceL l a m ∧ lo ≤ hi ∧ hi ≤ n := by
  subst h1 h2 hl
  refine ⟨?_, by omega, by omega⟩
  unfold pieceL
  apply List.ext_getElem?
  intro i
  rw [List.getElem?_take, List.getElem?_take, List.getElem?_drop, List.getElem?_drop]
  by_cases ha : a ≤ l.length
  · rw [Nat.min_eq_left ha]
    by_cases hi : i < m
    · rw [if_pos hi]
      by_cases hj : i < min (a + m) l.length - a
      · rw [if_pos hj]
      · rw [if_neg hj, List.getElem?_eq_none (by omega)]
    · rw [if_neg hi, if_neg (by omega)]
  · rw [Nat.min_eq_right (by omega), if_neg (by omega)]
    by_cases hi : i < m
    · rw [if_pos hi, List.getElem?_eq_none (by omega)]
    · rw [if_neg hi]
theorem piece_len {α : Type} (l : List α) (a m : Nat) : (pieceL l a m).length ≤ l.length ∧ (pieceL l a m).length ≤ m := by
  unfold pieceL; rw [List.length_take, List.length_drop]; omega

end Go.Proofs.YtnfncnpnkmjjeaaDoor
