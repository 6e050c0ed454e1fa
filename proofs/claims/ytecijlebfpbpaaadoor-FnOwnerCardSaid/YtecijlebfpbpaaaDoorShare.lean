/- The stripes of a member: the program's. -/
import Derived.Test.YtecijlebfpbpaaaDoorGroup
import Derived.Test.YtecijlebfpbpaaaDoorOwn
import Derived.Deep.RegionHeld3
import Derived.Deep.DeepMust
namespace Go.Proofs.YtecijlebfpbpaaaDoor
set_option linter.unusedVariables false
set_option linter.unusedSimpArgs false
open Go.RowKit

theorem elemInt : Elem Tryd.prog 40 3 (.int .i64 0) 1 8 := ⟨Tryd.underlying40, by kernel_rfl, rfl, by decide, by decide⟩
def ownerOf (ms : List ByteArray) (k : Nat) : ByteArray := nth ms (k % ms.length)

set_option maxHeartbeats 2000000 in
theorem owner_any (st : Int) (A : Option Addr) (n c : Nat) (ms : List ByteArray) (k : Nat) (w : World) (h : Strs w w.heap.size A n ms) (hn0 : 0 < n) (hn : n ≤ 1000000) (hk : k ≤ 1000000) :
    Calls Tryd.prog 44 #[.agg #[.int .i64 st, .slice A n c], .int .i64 k] w fun e w' => e = .returned (.string (ownerOf ms k)) ∧ Below w.heap.size w w' := by
  have hl := h.len
  obtain ⟨b, off, rfl, hb, hx⟩ := h.at_ hn0
  have hkn : k % n < n := Nat.mod_lt _ hn0
  obtain ⟨s, hs⟩ : ∃ s, ms[k % n]? = some s := ⟨_, nth_get (by rw [hl]; exact hkn)⟩
  have Hs := Lib.hid (show ownerOf ms k = s by unfold ownerOf; rw [hl]; exact nth_of hs)
  have hc := hx _ s hs
  have hm : (k : Int).tmod (n : Int) = ((k % n : Nat) : Int) := by rw [Int.tmod_eq_emod_of_nonneg (by omega)]; rfl
  have hm2 : (k : Int) % (n : Int) = ((k % n : Nat) : Int) := rfl
  obtain ⟨q, hq⟩ : ∃ q, k % n = q := ⟨_, rfl⟩
  rw [hq] at hm hm2 hc hkn
  have hqn : (q : Int) < (n : Int) := by omega
  have hcb := (World.cell?_alloc_lt w (.cells #[.int .i64 st, .slice (some ⟨b, off, none⟩) n c] 64) hb (a := ⟨b, off + q, none⟩)).trans hc
  have hn1 : ((n : Int) == 0) = false := beq_eq_false_iff_ne.2 (by omega)
  have hn2 : ¬ (n : Int) = 0 := by omega
  clear hx hs h hl hq
  go_enter Tryd.func44, Tryd.ntmps44
  go_wp2_with fail
  go_quiet (fail)
  go_wp2_with fail
  go_ret
  exact ⟨by rw [Hs.out]; rfl, below_drew_n ((Below.refl _ _).alloc (Nat.le_refl _) _) _⟩

set_option maxHeartbeats 2000000 in
theorem share1_any (st : Int) (A : Option Addr) (n c : Nat) (ms : List ByteArray) (m : ByteArray) (k gt gm : Nat) (w : World) (h : Strs w w.heap.size A n ms) (hn0 : 0 < n) (hn : n ≤ 1000000) (hk : k ≤ 1000000)
    (hT : Blk w gt 64 #[.int .i64 st, .slice A n c]) (hM : Blk w gm 9 #[.string m]) :
    Calls Tryd.prog 61 #[.int .i64 k, .pointer (some ⟨gt, 0, none⟩), .pointer (some ⟨gm, 0, none⟩)] w fun e w' => e = .returned (.bool (decide (ownerOf ms k = m))) ∧ Below w.heap.size w w' := by
  have t0 := hT.cell 0
  have t1 := hT.cell 1
  have m0 := hM.cell 0
  have HO := Lib.hid (owner_any st A n c ms k w.drew h hn0 hn hk)
  have HT := Lib.hid hT
  have HM := Lib.hid hM
  obtain ⟨s, hs⟩ : ∃ s, ownerOf ms k = s := ⟨_, rfl⟩
  rw [hs] at HO ⊢
  clear h hT hM hs
  by_cases hsm : s = m
  · subst hsm
    have e1 : (s.toList == s.toList) = true := beq_self_eq_true _
    have Hd := Lib.hid (decide_eq_true (rfl : s = s))
    go_enter Tryd.func61, Tryd.ntmps61
    go_wp2_with fail
    go_region_held3 (fun w' => w'.cell? ⟨gt, 0, none⟩ = some (.int .i64 st) ∧ w'.cell? ⟨gt, 1, none⟩ = some (.slice A n c) ∧ w'.cell? ⟨gm, 0, none⟩ = some (.string s)) (first | exact ⟨t0, t1, m0⟩ | exact ⟨u0, u1, v0⟩) (first
      | (go_at_call 44; ((with_reducible refine HO.out.mono ?_); rintro e w2 ⟨rfl, hb2⟩; have hb3 := below_undrew hb2; have u0 := (HT.out.next hb3).cell 0; have u1 := (HT.out.next hb3).cell 1; have v0 := (HM.out.next hb3).cell 0)))
    all_goals
      clear t0 t1 m0 u0 u1 v0
      go_wp2_with fail
      go_ret
      exact ⟨by rw [Hd.out]; rfl, hb3⟩
  · have e1 : (s.toList == m.toList) = false := toList_ne hsm
    have Hd := Lib.hid (decide_eq_false hsm)
    clear hsm
    go_enter Tryd.func61, Tryd.ntmps61
    go_wp2_with fail
    go_region_held3 (fun w' => w'.cell? ⟨gt, 0, none⟩ = some (.int .i64 st) ∧ w'.cell? ⟨gt, 1, none⟩ = some (.slice A n c) ∧ w'.cell? ⟨gm, 0, none⟩ = some (.string m)) (first | exact ⟨t0, t1, m0⟩ | exact ⟨u0, u1, v0⟩) (first
      | (go_at_call 44; ((with_reducible refine HO.out.mono ?_); rintro e w2 ⟨rfl, hb2⟩; have hb3 := below_undrew hb2; have u0 := (HT.out.next hb3).cell 0; have u1 := (HT.out.next hb3).cell 1; have v0 := (HM.out.next hb3).cell 0)))
    all_goals
      clear t0 t1 m0 u0 u1 v0
      go_wp2_with fail
      go_ret
      exact ⟨by rw [Hd.out]; rfl, hb3⟩

/-- the stripes below i whose owner is m. -/
def shareL (ms : List ByteArray) (m : ByteArray) (i : Nat) : List Nat := (List.range i).filter fun j => decide (ownerOf ms j = m)
def intCells (k : Nat) : List Value := [.int .i64 k]
theorem intCells_len (k : Nat) : (intCells k).length = 1 := rfl
theorem shareL_succ (ms : List ByteArray) (m : ByteArray) (i : Nat) : shareL ms m (i + 1) = shareL ms m i ++ (if ownerOf ms i = m then [i] else []) := by
  unfold shareL
  rw [List.range_succ, List.filter_append]
  by_cases h : ownerOf ms i = m <;> simp [h]
theorem shareL_len (ms : List ByteArray) (m : ByteArray) (i : Nat) : (shareL ms m i).length ≤ i := by
  unfold shareL; exact Nat.le_trans (List.length_filter_le _ _) (by simp)
def IntsRet (l : List Nat) (w : World) (e : Ending) (w' : World) : Prop :=
  ∃ (A : Option Addr) (n c : Nat), e = .returned (.slice A n c) ∧ Row intCells 1 w' w'.heap.size A n l ∧ n ≤ c ∧ Below w.heap.size w w'
theorem ints_ret {w w' : World} {v : Value} {base n : Nat} {l : List Nat} (hl : l.length = n) (h : w'.ownsRow base 3 1 v n (l.flatMap intCells)) (hb : Below w.heap.size w w') : IntsRet l w (.returned v) w' := by
  obtain ⟨A, c, rfl, h1, _, h3, _⟩ := Row.of_own h hl
  exact ⟨A, n, c, rfl, h3, h1, hb⟩

theorem lit_own {w : World} {g base : Nat} {T : TypeId} (hg : g = w.heap.size) (hb : base ≤ w.heap.size) : (w.alloc (.cells #[] T)).ownsRow base T 1 (.slice (some ⟨g, 0, none⟩) 0 0) 0 [] := by
  subst hg
  exact World.ownsRow_lit w #[] 0 hb (Nat.zero_le _) rfl
theorem groupOk_st' {st : Int} {ms : List ByteArray} (h : groupOk st ms = true) : (1 ≤ st ∧ st ≤ 8) ∧ (1 ≤ ms.length ∧ ms.length ≤ 6) := by
  unfold groupOk at h
  rw [Bool.and_eq_true, Bool.and_eq_true, decide_eq_true_eq, decide_eq_true_eq] at h
  exact h.1
set_option maxRecDepth 100000 in
set_option maxHeartbeats 4000000 in
theorem pick38_any (st : Nat) (A : Option Addr) (n c : Nat) (ms : List ByteArray) (m : ByteArray) (gt gm : Nat) (w : World) (h : Strs w w.heap.size A n ms) (hn0 : 0 < n) (hn : n ≤ 1000000) (hst : st ≤ 1000)
    (hT : Blk w gt 64 #[.int .i64 st, .slice A n c]) (hM : Blk w gm 9 #[.string m]) :
    Calls Tryd.prog 60 #[.agg #[.int .i64 st], .func (.func 61) #[] #[.pointer (some ⟨gt, 0, none⟩), .pointer (some ⟨gm, 0, none⟩)]] w (IntsRet (shareL ms m st) w) := by
  go_enter Tryd.func60, Tryd.ntmps60
  go_wp2_with fail
  have H := Lib.hid h
  have HT := Lib.hid hT
  have HM := Lib.hid hM
  have O1 := Lib.hid (lit_own (T := 3) (w := w.alloc (.cells #[.int .i64 st] 62)) (g := w.heap.size + 1) (base := w.heap.size + 1) (by simp) (by simp))
  have Hb1 := Lib.hid (((Below.refl w.heap.size w).alloc (Nat.le_refl _) (.cells #[.int .i64 st] 62)).alloc (by simp) (.cells #[] 3))
  clear h hT hM
  go_loopw [5, 10] (fun v i wr => ∃ k : Nat, k ≤ st ∧ i = .int .i64 k ∧ wr.ownsRow (w.heap.size + 1) 3 1 v (shareL ms m k).length ((shareL ms m k).flatMap intCells) ∧ Below w.heap.size w wr ∧ w.heap.size + 1 ≤ wr.heap.size) (fun _ i _ => st - (intOf i).toNat)
  case atStart => exact ⟨0, Nat.zero_le _, rfl, O1.out, Hb1.out, by simp⟩
  case round =>
    obtain ⟨k, hk, rfl, hown, hnx, hz⟩ := hrel
    have Hown := Lib.hid hown
    have Hnx := Lib.hid hnx
    by_cases hlt : k < st
    · have hlt' : (k : Int) < (st : Int) := by omega
      have HC := Lib.hid (share1_any st A n c ms m k gt gm wr (H.out.next hnx) hn0 hn (by omega) (HT.out.next hnx) (HM.out.next hnx))
      have Hsu := Lib.hid (shareL_succ ms m k)
      have hsl := shareL_len ms m k
      clear hown hnx
      by_cases ho : ownerOf ms k = m
      · rw [decide_eq_true ho] at HC
        rw [if_pos ho] at Hsu
        clear ho
        go_wp2_with (first
          | (go_at_call 61; ((with_reducible refine HC.out.mono ?_); rintro e w2 ⟨rfl, hb2⟩; have O2 := own_next Hown.out hb2; have hz2 := hb2.size; have Hn2 := Lib.hid (bt Hnx.out hb2)))
          | (at_builtin; go_must (refine app_one elemInt w2 rfl _ _ rfl (w.heap.size + 1) _ (shareL ms m k).length ((shareL ms m k).flatMap intCells) rfl (by exact O2) [.int .i64 k] rfl rfl ?_ ?_ ?_ ?_); (intro x hx; simp at hx; subst hx; rfl); omega; omega; intro v' w4 own4 grow4 or4))
        have hb4 := own_below' O2 (Nat.le_succ _) Hn2.out Hn2.out.size grow4
        have hz4 := grow4.size
        have own5 : w4.ownsRow (w.heap.size + 1) 3 1 v' (shareL ms m (k + 1)).length ((shareL ms m (k + 1)).flatMap intCells) := by
          rw [Hsu.out, List.flatMap_append, List.length_append]
          simpa [intCells] using own4
        clear own4 grow4 or4 O2 hb2
        go_roundw
        case rel => exact ⟨k + 1, by omega, by go_num, own5, hb4, by omega⟩
        case measure => simp [intOf]; omega
      · rw [decide_eq_false ho] at HC
        rw [if_neg ho, List.append_nil] at Hsu
        clear ho
        go_wp2_with (first
          | (go_at_call 61; ((with_reducible refine HC.out.mono ?_); rintro e w2 ⟨rfl, hb2⟩; have O2 := own_next Hown.out hb2; have hz2 := hb2.size; have Hn2 := Lib.hid (bt Hnx.out hb2)))
          | fail)
        have own5 := O2
        rw [← Hsu.out] at own5
        clear O2 hb2
        go_roundw
        case rel => exact ⟨k + 1, by omega, by go_num, own5, Hn2.out, by omega⟩
        case measure => simp [intOf]; omega
    · obtain rfl : k = st := by omega
      have hlt' : ¬ (k : Int) < (k : Int) := by omega
      clear hown hnx
      go_wp2_with fail
      go_ret
      exact ints_ret rfl Hown.out Hnx.out

theorem teamOf_any (st : Int) (A : Option Addr) (n c : Nat) (w : World) :
    Calls Tryd.prog 43 #[.agg #[.int .i64 st, .slice A n c]] w fun e w' => e = .returned (.agg #[.int .i64 st, .slice A n c]) ∧ Below w.heap.size w w' := by
  go_enter Tryd.func43, Tryd.ntmps43
  go_wp2_with fail
  exact bodyPost_ret (v := .agg #[.int .i64 st, .slice A n c]) (by simp [results, Tryd.results43, go_sem]) rfl ⟨rfl, ((Below.refl _ _).alloc (Nat.le_refl _) _).alloc (by simp) _⟩
def groupShare (st : Int) (ms : List ByteArray) (m : ByteArray) : List Nat := if groupOk st ms then shareL ms m st.toNat else []
set_option maxRecDepth 100000 in
set_option maxHeartbeats 4000000 in
theorem groupShare_any (st : Int) (A : Option Addr) (n c : Nat) (ms : List ByteArray) (m : ByteArray) (w : World) (h : Strs w w.heap.size A n ms) (hsm : AllSmall ms) (hnb : n ≤ 1000000) :
    Calls Tryd.prog 26 #[.agg #[.int .i64 st, .slice A n c], .string m] w (IntsRet (groupShare st ms m) w) := by
  have V := Lib.hid (groupValid_any st A n c ms _ (h.boxed2 (.cells #[.int .i64 st, .slice A n c] 27) (.cells #[.string m] 9)) hsm (by omega))
  have H := Lib.hid h
  have Hl := Lib.hid h.len
  clear h
  cases hg : groupOk st ms with
  | false =>
    rw [hg] at V
    have Hr := Lib.hid (show groupShare st ms m = [] by unfold groupShare; rw [hg]; rfl)
    go_enter Tryd.func26, Tryd.ntmps26
    go_wp2_with (go_at_call 42; ((with_reducible refine V.out.mono ?_); rintro e w1 ⟨rfl, hb1⟩; obtain ⟨B0, B1, hw1, hz1⟩ := boxes2 hb1))
    go_ret
    rw [Hr.out]
    exact ⟨_, 0, 0, rfl, Row.nil _ _ _, Nat.le_refl _, hw1.alloc hw1.size _⟩
  | true =>
    rw [hg] at V
    have Hr := Lib.hid (show groupShare st ms m = shareL ms m st.toNat by unfold groupShare; rw [hg]; rfl)
    have hst := Lib.hid (groupOk_st' hg)
    have hn1 : 1 ≤ n := by have := hst.out.2; rw [Hl.out] at this; exact this.1
    obtain ⟨s', rfl⟩ : ∃ s' : Nat, st = (s' : Int) := ⟨st.toNat, by have := hst.out.1; omega⟩
    go_enter Tryd.func26, Tryd.ntmps26
    go_wp2_with (first
      | (go_at_call 42; ((with_reducible refine V.out.mono ?_); rintro e w1 ⟨rfl, hb1⟩; obtain ⟨B0, B1, hw1, hz1⟩ := boxes2 hb1; have j0 := B0.cell 0; have j1 := B0.cell 1))
      | (go_at_call 43; (refine (teamOf_any s' A n c w1).mono ?_; rintro e w2 ⟨rfl, hb2⟩; have Hw2 := Lib.hid (bt hw1 hb2); have HB2 := Lib.hid (B1.next hb2); have HP := Lib.hid (pick38_any s' A n c ms m w2.heap.size (w.heap.size + 1) _ ((H.out.next (bt hw1 hb2)).boxed1 (.cells #[.int .i64 (s' : Int), .slice A n c] 64)) hn1 hnb (by have := hst.out.1; omega) (Blk.new w2 _ _) ((B1.next hb2).alloc _))))
      | (go_at_call 60; ((with_reducible refine HP.out.mono ?_); rintro e w3 ⟨A3, n3, c3, rfl, hr3, hc3, hb3⟩)))
    go_ret
    rw [Hr.out, Int.toNat_natCast]
    exact ⟨A3, n3, c3, rfl, hr3, hc3, bt (Hw2.out.alloc Hw2.out.size _) hb3⟩
end Go.Proofs.YtecijlebfpbpaaaDoor
