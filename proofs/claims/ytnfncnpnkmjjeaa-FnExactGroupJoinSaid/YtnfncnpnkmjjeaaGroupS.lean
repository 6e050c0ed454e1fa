/- The reference's test of a group. -/
import Derived.Test.YtnfncnpnkmjjeaaGroup
namespace Go.Proofs.Ytnfncnpnkmjjeaa
set_option linter.unusedVariables false
set_option linter.unusedSimpArgs false
open Go.RowKit

theorem below_box {w wr : World} {o : Obj} (h : Below (w.heap.size + 1) (w.alloc o) wr) : Below w.heap.size w wr :=
  ((Below.refl w.heap.size w).alloc (Nat.le_refl _) o).trans (h.mono (by omega))
theorem box_cell {w wr : World} {cs : Array Value} {t : TypeId} (h : Below (w.heap.size + 1) (w.alloc (.cells cs t)) wr) (i : Nat) (u : Value) (hu : cs[i]? = some u) : wr.cell? ⟨w.heap.size, i, none⟩ = some u :=
  (h.cell (p := ⟨w.heap.size, i, none⟩) (by simp)).trans (by rw [cell_of_row _ _ _ _ _ (0, 0) (heap_alloc_new w _)]; exact hu)
theorem old_cell {w wr : World} {o : Obj} (h : Below (w.heap.size + 1) (w.alloc o) wr) {b i : Nat} {u : Value} (hb : b < w.heap.size) (hu : w.cell? ⟨b, i, none⟩ = some u) : wr.cell? ⟨b, i, none⟩ = some u :=
  (h.cell (p := ⟨b, i, none⟩) (by show b < _; omega)).trans ((World.cell?_alloc_lt w o _ hb).trans hu)

set_option maxHeartbeats 2000000 in
theorem groupValidS_any (st : Int) (A : Option Addr) (n c : Nat) (ms : List ByteArray) (w : World) (h : Strs w w.heap.size A n ms) (hsm : AllSmall ms) (hnb : n ≤ 1000000000) :
    Calls Try.prog 12 #[.agg #[.int .i64 st, .slice A n c]] w fun e w' => e = .returned (.bool (groupOk st ms)) ∧ Below w.heap.size w w' := by
  have Hlen := Lib.hid h.len
  go_enter Try.func12, Try.ntmps12
  go_wp2_with fail
  go_loopw [3] (fun i wr => ∃ k : Nat, k ≤ n ∧ i = .int .i64 k ∧ Below (w.heap.size + 1) (w.alloc (.cells #[.int .i64 st, .slice A n c] 26)) wr ∧ Hid (∀ j, j < k → memberOk ms j = true)) (fun i _ => n - (intOf i).toNat)
  case atStart => exact ⟨0, Nat.zero_le _, rfl, Below.refl _ _, fun j hj => absurd hj (by omega)⟩
  case round =>
    obtain ⟨k, hk, rfl, hnx, Hall⟩ := hrel
    have Hnx := Lib.hid hnx
    have b0 : wr.cell? ⟨w.heap.size, 0, none⟩ = some (.int .i64 st) := box_cell hnx 0 _ rfl
    have b1 : wr.cell? ⟨w.heap.size, 1, none⟩ = some (.slice A n c) := box_cell hnx 1 _ rfl
    by_cases hlt : k < n
    · obtain ⟨b, off, rfl, hb, hx⟩ := h.at_ (by omega)
      obtain ⟨s, hs⟩ : ∃ s, ms[k]? = some s := ⟨_, nth_get (by rw [Hlen.out]; exact hlt)⟩
      have hc := old_cell hnx hb (hx k s hs)
      have Hs := Lib.hid hs
      have Hx := Lib.hid hx
      have hsz := hsm.at_ hs
      clear hs hx hnx h
      cases hw : wordOk s.data.toList with
      | false =>
        have Hn := Lib.hid (groupOk_at (st := st) (ms := ms) k (by rw [Hlen.out]; exact hlt) (by unfold memberOk; rw [nth_of Hs.out, hw]; rfl))
        go_wp2_with fail
        go_quiet ((go_at_call 13; exact quiet_left (l1Word_any s _ hsz)))
        go_wp2_with fail
        go_ret
        exact ⟨ret_bool Hn.out.symm, below_drew_n (below_box Hnx.out) _⟩
      | true =>
        by_cases hk0 : k = 0
        · subst hk0
          have hc0 : wr.cell? ⟨b, off, none⟩ = some (.string s) := hc
          have Hm := Lib.hid (show memberOk ms 0 = true by unfold memberOk; rw [nth_of Hs.out, hw]; rfl)
          have g0 : decide ((0 : Int) < ((0 : Nat) : Int)) = false := rfl
          go_wp2_with fail
          go_quiet ((go_at_call 13; exact quiet_left (l1Word_any s _ hsz)))
          go_wp2_with fail
          go_roundw
          case rel => exact ⟨1, by omega, by go_num, below_drew_n Hnx.out _, fun j hj => by rw [show j = 0 by omega]; exact Hm.out⟩
          case measure => simp [intOf]; omega
        · obtain ⟨m, rfl⟩ : ∃ m, k = m + 1 := ⟨k - 1, by omega⟩
          obtain ⟨t, ht⟩ : ∃ t, ms[m]? = some t := ⟨_, nth_get (by rw [Hlen.out]; omega)⟩
          have hc2 := old_cell Hnx.out hb (Hx.out m t ht)
          have Ht := Lib.hid ht
          clear ht hk0
          have Hmo := Lib.hid (show memberOk ms (m + 1) = ltB t s by
            unfold memberOk
            rw [nth_of Hs.out, Nat.add_sub_cancel, nth_of Ht.out, hw, decide_eq_false (by omega)]
            simp)
          have e0 : IntKind.i64.wrap ((m : Int) + 1 - 1) = (m : Int) := by rw [show (m : Int) + 1 - 1 = m by omega]; exact IntWalk.i64_in _ (by omega)
          have e1 : (0 : Int) < (m : Int) + 1 := by omega
          have e2 : ((m : Int) + 1).toNat = m + 1 := by omega
          cases hl : ltB t s with
          | true =>
            rw [hl] at Hmo
            have e3 : Op.bytesLess t.toList s.toList = true := hl
            clear hl
            go_wp2_with fail
            go_quiet ((go_at_call 13; exact quiet_left (l1Word_any s _ hsz)))
            go_wp2_with fail
            go_roundw
            case rel => exact ⟨m + 1 + 1, by omega, by go_num, below_drew_n Hnx.out _, fun j hj => by
              rcases Nat.lt_succ_iff_lt_or_eq.1 hj with h' | rfl
              · exact Hall.out j h'
              · exact Hmo.out⟩
            case measure => simp [intOf]; omega
          | false =>
            rw [hl] at Hmo
            have Hn := Lib.hid (groupOk_at (st := st) (ms := ms) (m + 1) (by rw [Hlen.out]; exact hlt) Hmo.out)
            have e3 : Op.bytesLess t.toList s.toList = false := hl
            clear hl
            go_wp2_with fail
            go_quiet ((go_at_call 13; exact quiet_left (l1Word_any s _ hsz)))
            go_wp2_with fail
            go_ret
            exact ⟨ret_bool Hn.out.symm, below_drew_n (below_box Hnx.out) _⟩
    · clear h hnx
      by_cases h1 : 1 ≤ st ∧ st ≤ 8
      · have d1 : (decide (1 ≤ st) && decide (st ≤ 8)) = true := by rw [decide_eq_true h1.1, decide_eq_true h1.2]; rfl
        by_cases h2 : 1 ≤ n ∧ n ≤ 6
        · have d2 : (decide (1 ≤ (n : Int)) && decide ((n : Int) ≤ 6)) = true := by rw [decide_eq_true (by omega), decide_eq_true (by omega)]; rfl
          have Hn := Lib.hid (groupOk_yes (st := st) (ms := ms) h1 (by rw [Hlen.out]; exact h2) (fun j hj => Hall.out j (by rw [Hlen.out] at hj; omega)))
          obtain ⟨h1, h1'⟩ := h1
          obtain ⟨h2, h2'⟩ := h2
          go_wp2_with (go_at_call 24; refine (l6In_any _ _ _ _).mono ?_; rintro e w' ⟨rfl, rfl⟩)
          go_ret
          exact ⟨by rw [Hn.out]; simp, below_box Hnx.out⟩
        · have d2 : (decide (1 ≤ (n : Int)) && decide ((n : Int) ≤ 6)) = false := by rw [Bool.and_eq_false_iff, decide_eq_false_iff_not, decide_eq_false_iff_not]; omega
          have Hn := Lib.hid (groupOk_len (st := st) (ms := ms) (by rw [Hlen.out]; exact h2))
          obtain ⟨h1, h1'⟩ := h1
          clear h2
          go_wp2_with (go_at_call 24; refine (l6In_any _ _ _ _).mono ?_; rintro e w' ⟨rfl, rfl⟩)
          go_ret
          exact ⟨by rw [Hn.out]; simp, below_box Hnx.out⟩
      · have d1 : (decide (1 ≤ st) && decide (st ≤ 8)) = false := by rw [Bool.and_eq_false_iff, decide_eq_false_iff_not, decide_eq_false_iff_not]; omega
        have Hn := Lib.hid (groupOk_st (ms := ms) h1)
        clear h1
        go_wp2_with (go_at_call 24; refine (l6In_any _ _ _ _).mono ?_; rintro e w' ⟨rfl, rfl⟩)
        go_ret
        exact ⟨ret_bool Hn.out.symm, below_box Hnx.out⟩
end Go.Proofs.Ytnfncnpnkmjjeaa
