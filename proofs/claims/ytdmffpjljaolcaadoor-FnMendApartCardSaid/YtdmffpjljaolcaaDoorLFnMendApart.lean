/- The walk of laws.FnMendApart. -/
import Derived.Test.YtdmffpjljaolcaaDoorDrawBo
import Derived.Test.YtdmffpjljaolcaaDoorFolR
import Derived.Test.YtdmffpjljaolcaaDoorLive
namespace Go.Proofs.YtdmffpjljaolcaaDoor
set_option linter.unusedVariables false
set_option linter.unusedSimpArgs false
open Go.RowKit

set_option maxRecDepth 100000 in
set_option maxHeartbeats 8000000 in
theorem law_FnMendApart (A : Option Addr) (n c : Nat) (w : World) (h : Code w A n c) (hg : GE w) :
    Calls Tryd.prog 12 #[.slice A n c] w fun e w' => e = .returned (.bool true) ∧ Below w.heap.size w w' := by
  have hn := h.2.1
  unfold maxLen at hn
  by_cases hbig : (1048576 : Int) < n
  · go_enter Tryd.func12, Tryd.ntmps12
    go_wp2_with fail
    go_ret
    exact ⟨rfl, Below.refl _ _⟩
  have HC := Lib.hid h
  have L0 := (Live.since (Below.refl w.heap.size w)).and (Live.ge hg)
  clear h hg
  go_enter Tryd.func12, Tryd.ntmps12
  go_wp2_with fail
  refine (drawFollowMend_any A n c _ HC.out).mono ?_
  rintro e w1 ⟨Ax, k, cx, xs, Ay, m, cy, ys, rfl, hrow, hrow', HB, HE, hk, hm, hkc, hmc, Hnil, Hnil', hb1⟩
  have L1 := ((L0.next hb1).and (Live.row hrow)).and (Live.row hrow')
  have Hsx := Lib.hid (EnB.small HB.out)
  have Hsy := HE
  have Hl := Lib.hid hrow.1
  have Hm := Lib.hid hrow'.1
  clear hrow hrow' hb1 L0
  have F1 := Lib.hid (fun W H H' G => followMend_any Ax Ay k cx m cy xs ys W H H' Hsx.out Hsy.out hkc hmc Hnil.out Hnil'.out (by omega) (by omega) G)
  have F2 := Lib.hid (fun W H H' => followMendS_any Ax Ay k cx m cy xs ys W H H' Hsx.out Hsy.out hkc hmc Hnil.out Hnil'.out (by omega) (by omega))
  obtain ⟨p, hp⟩ : ∃ p, followMend xs ys = p := ⟨_, rfl⟩
  have hpl : p.1.length ≤ 60 := by rw [← hp]; have := followMend_len xs ys; have := Hl.out; have := Hm.out; omega
  rw [hp] at F1 F2
  have Hp := Lib.hid hp
  obtain ⟨zs, ok⟩ := p
  clear hp
  go_wp2_with fail
  refine (F1.out _ L1.now.1.2 L1.now.2 L1.now.1.1.2).mono ?_
  rintro e w2 ⟨A2, l, c2, rfl, hr2, hc2, Hn2, hb2⟩
  simp only at hr2 hpl
  have L2 := (L1.next hb2).and (Live.row hr2)
  have Hl2 := Lib.hid hr2.1
  have hl60 : l ≤ 60 := by rw [← hr2.1]; exact hpl
  clear hb2 hr2 L1
  go_wp2_with fail
  refine (F2.out _ L2.now.1.1.2 L2.now.1.2).mono ?_
  rintro e w3 ⟨A3, l3, c3, rfl, hr3, hc3, Hn3, hb3⟩
  simp only at hr3
  obtain rfl : l3 = l := by rw [← hr3.1, Hl2.out]
  have L3 := (L2.next hb3).and (Live.row hr3)
  clear hb3 hr3 L2
  have S3 := Lib.hid (fun W H H' => sameEntries_any A2 A3 l3 c2 l3 c3 zs zs W H H' (by omega) (by omega))
  rw [sameL_refl] at S3
  cases ok
  · go_wp2_with fail
    with_reducible refine (S3.out _ L3.now.1.2 L3.now.2).mono ?_
    rintro e w4 ⟨rfl, hb4⟩
    have L4 := L3.next hb4
    clear hb4 L3 F1 F2
    go_wp2_with fail
    with_reducible refine (S3.out _ L4.now.1.2 L4.now.2).mono ?_
    rintro e w5 ⟨rfl, hb5⟩
    go_wp2_with fail
    go_ret
    exact ⟨rfl, (L4.next hb5).now.1.1.1.1.1⟩
  obtain ⟨h1, h2, h3, h4, h5, h6⟩ := followMend_is (a := xs) (b := ys) (by rw [Hp.out])
  rw [Hp.out] at h3
  have z1 : zs = xs.take (commonL xs ys) := (Prod.mk.inj h3).1
  obtain ⟨g1, g2⟩ := followMend_apart h1 h2
  obtain ⟨q, hq⟩ : ∃ q, commonL xs ys = q := ⟨_, rfl⟩
  rw [hq] at z1 h5 h6 g1 g2
  rw [Hl.out] at h5 g2
  rw [Hm.out] at h6 g2
  have hlq : l3 = q := by rw [← Hl2.out, z1, List.length_take, Hl.out]; omega
  subst hlq
  have FA := Lib.hid (fun W H H' G => followApart_any Ax Ay k cx m cy xs ys W H H' Hsx.out Hsy.out (by omega) (by omega) G)
  obtain ⟨v, hv⟩ : ∃ v, followApart xs ys = v := ⟨_, rfl⟩
  rw [hv] at FA g1 g2
  clear h1 h2 h3 h4 hq z1 hv
  go_wp2_with fail
  with_reducible refine (S3.out _ L3.now.1.2 L3.now.2).mono ?_
  rintro e w4 ⟨rfl, hb4⟩
  have L4 := L3.next hb4
  clear hb4 L3 F1 F2
  go_wp2_with fail
  refine (FA.out _ L4.now.1.1.1.2 L4.now.1.1.2 L4.now.1.1.1.1.2).mono ?_
  rintro e w5 ⟨rfl, hb5⟩
  have L5 := L4.next hb5
  by_cases hv0 : 0 ≤ v
  · obtain rfl := g1 hv0
    clear g1 g2
    go_wp2_with fail
    go_ret
    exact ⟨by simp, L5.now.1.1.1.1.1⟩
  · have g3 := g2 (by omega)
    have g4 : (l3 : Int) = min (k : Int) (m : Int) := by omega
    have g5 : ((l3 : Int) == min (k : Int) (m : Int)) = true := beq_iff_eq.2 g4
    clear g1 g2 g3 g4
    go_wp2_with fail
    go_ret
    exact ⟨by simp [g5], L5.now.1.1.1.1.1⟩
end Go.Proofs.YtdmffpjljaolcaaDoor
