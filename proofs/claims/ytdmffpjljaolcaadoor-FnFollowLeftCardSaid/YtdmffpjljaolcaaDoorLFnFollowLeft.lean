/- The walk of laws.FnFollowLeft. -/
import Derived.Test.YtdmffpjljaolcaaDoorDrawBo
import Derived.Test.YtdmffpjljaolcaaDoorFolR
import Derived.Test.YtdmffpjljaolcaaDoorLive
namespace Go.Proofs.YtdmffpjljaolcaaDoor
set_option linter.unusedVariables false
set_option linter.unusedSimpArgs false
open Go.RowKit

set_option maxRecDepth 100000 in
set_option maxHeartbeats 8000000 in
theorem law_FnFollowLeft (A : Option Addr) (n c : Nat) (w : World) (h : Code w A n c) (hg : GE w) :
    Calls Tryd.prog 8 #[.slice A n c] w fun e w' => e = .returned (.bool true) ∧ Below w.heap.size w w' := by
  have hn := h.2.1
  unfold maxLen at hn
  by_cases hbig : (1048576 : Int) < n
  · go_enter Tryd.func8, Tryd.ntmps8
    go_wp2_with fail
    go_ret
    exact ⟨rfl, Below.refl _ _⟩
  have HC := Lib.hid h
  have L0 := (Live.since (Below.refl w.heap.size w)).and (Live.ge hg)
  clear h hg
  go_enter Tryd.func8, Tryd.ntmps8
  go_wp2_with fail
  refine (drawFollowLeft_any A n c _ HC.out).mono ?_
  rintro e w1 ⟨Ax, k, cx, xs, Ay, m, cy, ys, rfl, hrow, hrow', HB, HE, hk, hm, hkc, hmc, Hnil, Hnil', hb1⟩
  have L1 := ((L0.next hb1).and (Live.row hrow)).and (Live.row hrow')
  have Hsx := Lib.hid (EnB.small HB.out)
  have Hsy := HE
  have Hl := Lib.hid hrow.1
  have Hm := Lib.hid hrow'.1
  clear hrow hrow' hb1 L0
  have F1 := Lib.hid (fun W H H' G => followLeft_any Ax Ay k cx m cy xs ys W H H' Hsx.out Hsy.out (by omega) (by omega) G)
  have F2 := Lib.hid (fun W H H' => followLeftS_any Ax Ay k cx m cy xs ys W H H' Hsx.out Hsy.out (by omega) (by omega))
  have hpos := @followLeft_pos xs ys
  have hall := @followRun_all xs ys
  have R := Lib.hid (fun W H H' G => followRun_any Ax Ay k cx m cy xs ys 99 W H H' Hsx.out Hsy.out hkc hmc Hnil.out Hnil'.out (by omega) (by omega) (by omega) (by omega) G)
  obtain ⟨x, hx⟩ : ∃ x, followLeft xs ys = x := ⟨_, rfl⟩
  rw [hx] at F1 F2 hpos hall
  clear hx
  go_wp2_with fail
  refine (F1.out _ L1.now.1.2 L1.now.2 L1.now.1.1.2).mono ?_
  rintro e w2 ⟨rfl, hb2⟩
  have L2 := L1.next hb2
  clear hb2 L1
  go_wp2_with fail
  refine (F2.out _ L2.now.1.2 L2.now.2).mono ?_
  rintro e w3 ⟨rfl, hb3⟩
  have L3 := L2.next hb3
  clear hb3 L2
  by_cases hneg : x < 0
  · clear hpos hall
    go_wp2_with fail
    go_ret
    exact ⟨by simp, L3.now.1.1.1⟩
  · obtain ⟨h1, h2, h3, h4, h5, h6⟩ := hpos (by omega)
    rw [hall (by omega)] at R
    rw [Hl.out, Hm.out] at h4
    rw [Hl.out, Hm.out] at h6
    subst h4
    clear h1 h2 h3 h5 hpos hall
    go_wp2_with fail
    refine (R.out _ L3.now.1.2 L3.now.2 L3.now.1.1.2).mono ?_
    rintro e w4 ⟨A4, l4, c4, rfl, hr4, hc4, Hn4, hb4⟩
    simp only at hr4
    obtain rfl : l4 = k := by rw [← hr4.1, Hl.out]
    have L4 := (L3.next hb4).and (Live.row hr4)
    clear hb4 hr4 L3
    have S4 := Lib.hid (fun W H H' => sameEntries_any A4 Ax l4 c4 l4 cx xs xs W H H' (by omega) (by omega))
    rw [sameL_refl] at S4
    go_wp2_with (go_at_call 18; (with_reducible refine (S4.out _ L4.now.2 L4.now.1.1.2).mono ?_); rintro e w5 ⟨rfl, hb5⟩; have L5 := L4.next hb5)
    go_ret
    exact ⟨by simp, L5.now.1.1.1.1⟩
end Go.Proofs.YtdmffpjljaolcaaDoor
