/- The walk of laws.FnAll. -/
import Derived.Test.YtihgdebfjoooeaaDoorDrawSA
import Derived.Test.YtihgdebfjoooeaaDoorStAll
import Derived.Test.YtihgdebfjoooeaaDoorSameEn
namespace Go.Proofs.YtihgdebfjoooeaaDoor
open Go.RowKit

theorem EnB.small {xs : List En} (h : ∀ x ∈ xs, EnB x) : SmallEns xs := fun x hx => by
  have := h x hx
  unfold maxLen
  exact ⟨by have := this.1; omega, by have := this.2.1; omega⟩
theorem storeAll_len (xs : List En) (a m : Int) : (storeAll xs a m).length ≤ xs.length := by
  unfold storeAll
  split
  · exact (piece_len _ _ _).1
  · exact Nat.zero_le _
theorem storeAll_pos {xs : List En} {a m : Int} (h : 0 < (storeAll xs a m).length) : ∃ a' m' : Nat, a = a' ∧ m = m' ∧ storeAll xs a m = pieceL xs a' m' ∧ a' + (storeAll xs a m).length ≤ xs.length ∧ ((storeAll xs a m).length = m' ∨ a' + (storeAll xs a m).length = xs.length) ∧ (xs.drop a').take (storeAll xs a m).length = storeAll xs a m ∧ m' ≤ 99 ∧ a' ≤ 99 := by
  cases hok : (storeOk xs && rdOk a m) with
  | false => rw [storeAll_no hok] at h; exact absurd h (by simp)
  | true =>
    obtain ⟨h1, h2⟩ := Bool.and_eq_true_iff.1 hok
    obtain ⟨⟨a1, a2⟩, m1, m2⟩ := rdOk_iff.1 h2
    have e := storeAll_yes h1 h2
    rw [e] at h ⊢
    have hl : (pieceL xs a.toNat m.toNat).length = min m.toNat (xs.length - a.toNat) := by unfold pieceL; rw [List.length_take, List.length_drop]
    refine ⟨a.toNat, m.toNat, by omega, by omega, rfl, by omega, by omega, ?_, by omega, by omega⟩
    rw [hl]
    unfold pieceL
    by_cases hm : m.toNat ≤ xs.length - a.toNat
    · rw [Nat.min_eq_left hm]
    · rw [Nat.min_eq_right (by omega), List.take_of_length_le (by rw [List.length_drop]; omega), List.take_of_length_le (by rw [List.length_drop]; omega)]

set_option maxRecDepth 100000 in
set_option maxHeartbeats 8000000 in
theorem law_FnAll (A : Option Addr) (n c : Nat) (w : World) (h : Code w A n c) (hg : GE w) :
    Calls Tryd.prog 6 #[.slice A n c] w fun e w' => e = .returned (.bool true) ∧ Below w.heap.size w w' := by
  have hn := h.2.1
  unfold maxLen at hn
  by_cases hbig : (1048576 : Int) < n
  · go_enter Tryd.func6, Tryd.ntmps6
    go_wp2_with fail
    go_ret
    exact ⟨rfl, Below.refl _ _⟩
  have HC := Lib.hid h
  clear h
  go_enter Tryd.func6, Tryd.ntmps6
  go_wp2_with fail
  refine (drawStoreAll_any A n c _ HC.out).mono ?_
  rintro e w1 ⟨Ax, k, cx, xs, a, m, rfl, hrow, HB, hk, hkc, Hnil, ha1, ha2, hm1, hm2, hb1⟩
  have HR1 := Lib.hid hrow
  have Hl := Lib.hid hrow.1
  have G1 := Lib.hid (hg.below hb1)
  have Hb1 := Lib.hid hb1
  have Hsm := Lib.hid (EnB.small HB.out)
  clear hrow hb1 hg
  go_wp2_with fail
  refine (storeAll_any Ax k cx xs a m _ HR1.out Hsm.out hkc Hnil.out (by omega) G1.out).mono ?_
  rintro e w2 ⟨A2, l, c2, rfl, hr2, hc2, Hn2, hb2⟩
  have HO2 := Lib.hid hr2
  have Hll := Lib.hid hr2.1
  have HR2 := Lib.hid (HR1.out.next hb2)
  have Hb2 := Lib.hid (bt Hb1.out hb2)
  have hlk : l ≤ 30 := by have := storeAll_len xs a m; rw [Hll.out, Hl.out] at this; omega
  clear hb2 hr2
  go_wp2_with fail
  refine (storeAllS_any Ax k cx xs a m _ HR2.out Hsm.out (by omega)).mono ?_
  rintro e w3 ⟨A3, l3, c3, rfl, hr3, hc3, Hn3, hb3⟩
  have hl3 : l3 = l := by rw [← hr3.1, Hll.out]
  subst hl3
  have HW3 := Lib.hid hr3
  have HR3 := Lib.hid (HR2.out.next hb3)
  have HO3 := Lib.hid (HO2.out.next hb3)
  have Hb3 := Lib.hid (bt Hb2.out hb3)
  have S3 := Lib.hid (sameEntries_any A2 A3 l3 c2 l3 c3 _ _ _ HO3.out HW3.out (by omega) (by omega))
  rw [sameL_refl] at S3
  clear hb3 hr3
  go_wp2_with fail
  with_reducible refine S3.out.mono ?_
  rintro e w4 ⟨rfl, hb4⟩
  have HR4 := Lib.hid (HR3.out.next hb4)
  have HO4 := Lib.hid (HO3.out.next hb4)
  have HW4 := Lib.hid (HW3.out.next hb4)
  have Hb4 := Lib.hid (bt Hb3.out hb4)
  clear hb4
  by_cases hl0 : l3 = 0
  · subst hl0
    have S4 := Lib.hid (sameEntries_any A2 A3 0 c2 0 c3 _ _ _ HO4.out HW4.out (by omega) (by omega))
    rw [sameL_refl] at S4
    go_wp2_with fail
    with_reducible refine S4.out.mono ?_
    rintro e w5 ⟨rfl, hb5⟩
    go_wp2_with fail
    go_ret
    exact ⟨rfl, bt Hb4.out hb5⟩
  · have hl1 : ((l3 : Int) == 0) = false := beq_eq_false_iff_ne.2 (by omega)
    obtain ⟨a', m', rfl, rfl, he, h1, h2, h3, h4, h5⟩ := storeAll_pos (xs := xs) (a := a) (m := m) (by rw [Hll.out]; omega)
    rw [Hll.out, Hl.out] at h1
    rw [Hll.out, Hl.out] at h2
    rw [Hll.out] at h3
    obtain ⟨b, off, rfl, hbb, _⟩ := HR4.out.at_ enCells_len (by omega)
    have hcut := HR4.out.cut (cap := cx) enCells_len a' (a' + l3) (by omega) (by omega) hkc
    rw [show a' + l3 - a' = l3 by omega, h3] at hcut
    rw [if_neg (show ¬ cx = a' by omega), show (some (⟨b, off, none⟩ : Addr)).map (·.add (a' * 4)) = some ⟨b, off + a' * 4, none⟩ by simp [Addr.add]] at hcut
    have HC4 := Lib.hid hcut
    have S4 := Lib.hid (sameEntries_any (some ⟨b, off + a' * 4, none⟩) A2 l3 (cx - a') l3 c2 _ _ _ HC4.out HO4.out (by omega) (by omega))
    rw [sameL_refl] at S4
    have q1 : (a' : Int) + (l3 : Int) ≤ (k : Int) := by omega
    have q2 : (a' : Int) + (l3 : Int) ≤ (cx : Int) := by omega
    have q3 : ((a' : Int) + (l3 : Int)).toNat - a' = l3 := by omega
    have q4 : (a' : Int) ≤ (a' : Int) + (l3 : Int) := by omega
    have q5 : (0 : Int) ≤ (a' : Int) + (l3 : Int) := by omega
    clear hcut h3 he h1
    have H2 := Lib.hid h2
    clear h2
    by_cases hm : l3 = m'
    · have t1 : ((l3 : Int) == (m' : Int)) = true := beq_iff_eq.2 (by omega)
      clear hm
      go_wp2_with fail
      with_reducible refine S4.out.mono ?_
      rintro e w5 ⟨rfl, hb5⟩
      go_wp2_with fail
      go_ret
      exact ⟨rfl, bt Hb4.out hb5⟩
    · have t1 : ((l3 : Int) == (m' : Int)) = false := beq_eq_false_iff_ne.2 (by omega)
      have t2 : ((a' : Int) + (l3 : Int) == (k : Int)) = true := beq_iff_eq.2 (by rcases H2.out with h | h <;> omega)
      clear hm
      go_wp2_with fail
      with_reducible refine S4.out.mono ?_
      rintro e w5 ⟨rfl, hb5⟩
      go_wp2_with fail
      go_ret
      exact ⟨rfl, bt Hb4.out hb5⟩
end Go.Proofs.YtihgdebfjoooeaaDoor
