/- The walk of laws.FnMend. -/
import Derived.Test.YtdmffpjljaolcaaDoorDrawBo
import Derived.Test.YtdmffpjljaolcaaDoorFolR
import Derived.Test.YtdmffpjljaolcaaDoorLive
namespace Go.Proofs.YtdmffpjljaolcaaDoor
set_option linter.unusedVariables false
set_option linter.unusedSimpArgs false
open Go.RowKit

set_option maxRecDepth 100000 in
set_option maxHeartbeats 8000000 in
theorem law_FnMend (A : Option Addr) (n c : Nat) (w : World) (h : Code w A n c) (hg : GE w) :
    Calls Tryd.prog 11 #[.slice A n c] w fun e w' => e = .returned (.bool true) ∧ Below w.heap.size w w' := by
  have hn := h.2.1
  unfold maxLen at hn
  by_cases hbig : (1048576 : Int) < n
  · go_enter Tryd.func11, Tryd.ntmps11
    go_wp2_with fail
    go_ret
    exact ⟨rfl, Below.refl _ _⟩
  have HC := Lib.hid h
  have L0 := (Live.since (Below.refl w.heap.size w)).and (Live.ge hg)
  clear h hg
  go_enter Tryd.func11, Tryd.ntmps11
  go_wp2_with fail
  refine (drawFollowMend_any A n c _ HC.out).mono ?_
  rintro e w1 ⟨Ax, k, cx, xs, Ay, m, cy, ys, rfl, hrow, hrow', HB, HE, hk, hm, hkc, hmc, Hnil, Hnil', hb1⟩
  have L1 := ((L0.next hb1).and (Live.row hrow)).and (Live.row hrow')
  have Hsx := Lib.hid (EnB.small HB.out)
  have Hsy := HE
  have Hl := Lib.hid hrow.1
  have Hm := Lib.hid hrow'.1
  clear hrow hrow' hb1 L0
  have F1 := Lib.hid (fun W H H' G => followMend_any Ax Ay k cx m cy xs ys W H H' Hsx.out Hsy.out hkc hmc Hnil.out Hnil'.out (by omega) (by omega) G)
  have F2 := Lib.hid (fun W H H' => followMendS_any Ax Ay k cx m cy xs ys W H H' Hsx.out Hsy.out hkc hmc Hnil.out Hnil'.out (by omega) (by omega))
  obtain ⟨p, hp⟩ : ∃ p, followMend xs ys = p := ⟨_, rfl⟩
  have hpl : p.1.length ≤ 60 := by rw [← hp]; have := followMend_len xs ys; have := Hl.out; have := Hm.out; omega
  rw [hp] at F1 F2
  have Hp := Lib.hid hp
  obtain ⟨zs, ok⟩ := p
  clear hp
  go_wp2_with fail
  refine (F1.out _ L1.now.1.2 L1.now.2 L1.now.1.1.2).mono ?_
  rintro e w2 ⟨A2, l, c2, rfl, hr2, hc2, Hn2, hb2⟩
  simp only at hr2 hpl
  have L2 := (L1.next hb2).and (Live.row hr2)
  have Hl2 := Lib.hid hr2.1
  have hl60 : l ≤ 60 := by rw [← hr2.1]; exact hpl
  clear hb2 hr2 L1
  go_wp2_with fail
  refine (F2.out _ L2.now.1.1.2 L2.now.1.2).mono ?_
  rintro e w3 ⟨A3, l3, c3, rfl, hr3, hc3, Hn3, hb3⟩
  simp only at hr3
  obtain rfl : l3 = l := by rw [← hr3.1, Hl2.out]
  have L3 := (L2.next hb3).and (Live.row hr3)
  clear hb3 hr3 L2
  have S3 := Lib.hid (fun W H H' => sameEntries_any A2 A3 l3 c2 l3 c3 zs zs W H H' (by omega) (by omega))
  rw [sameL_refl] at S3
  cases ok
  · go_wp2_with fail
    with_reducible refine (S3.out _ L3.now.1.2 L3.now.2).mono ?_
    rintro e w4 ⟨rfl, hb4⟩
    have L4 := L3.next hb4
    clear hb4 L3 F1 F2
    go_wp2_with fail
    with_reducible refine (S3.out _ L4.now.1.2 L4.now.2).mono ?_
    rintro e w5 ⟨rfl, hb5⟩
    go_wp2_with fail
    go_ret
    exact ⟨rfl, (L4.next hb5).now.1.1.1.1.1⟩
  obtain ⟨h1, h2, h3, h4, h5, h6⟩ := followMend_is (a := xs) (b := ys) (by rw [Hp.out])
  rw [Hp.out] at h3 h4
  have z1 : zs = xs.take (commonL xs ys) := (Prod.mk.inj h3).1
  have z2 : zs = ys.take (commonL xs ys) := (Prod.mk.inj h4).1
  obtain ⟨q, hq⟩ : ∃ q, commonL xs ys = q := ⟨_, rfl⟩
  rw [hq] at z1 z2 h5 h6
  rw [Hl.out] at h5
  rw [Hm.out] at h6
  have hlq : l3 = q := by rw [← Hl2.out, z1, List.length_take, Hl.out]; omega
  have hfl := followLeft_of_take h1 q (by rw [Hl.out]; exact h5)
  rw [← z1, Hl.out] at hfl
  have Hz1 := Lib.hid z1
  have Hz2 := Lib.hid z2
  have Hsz : Hid (SmallEns zs) := Lib.hid fun y hy => Hsx.out y (List.mem_of_mem_take (by rw [z1] at hy; exact hy))
  subst hlq
  have FL := Lib.hid (fun W H H' G => followLeft_any Ax A2 k cx l3 c2 xs zs W H H' Hsx.out Hsz.out (by omega) (by omega) G)
  rw [hfl] at FL
  have S5 := Lib.hid (fun W H H' => sameEntries_any Ay A2 l3 cy l3 c2 zs zs W H H' (by omega) (by omega))
  rw [sameL_refl] at S5
  have S6 := Lib.hid (fun W H H' => sameEntries_any Ax A2 l3 cx l3 c2 zs zs W H H' (by omega) (by omega))
  rw [sameL_refl] at S6
  have T1 := Lib.hid (fun W (H : Row enCells 4 W W.heap.size Ay m ys) => (by rw [Hz2.out]; exact H.first enCells_len l3 h6 : Row enCells 4 W W.heap.size Ay l3 zs))
  have T2 := Lib.hid (fun W (H : Row enCells 4 W W.heap.size Ax k xs) => (by rw [Hz1.out]; exact H.first enCells_len l3 h5 : Row enCells 4 W W.heap.size Ax l3 zs))
  have g1 : (k : Int) - (l3 : Int) ≥ 0 := by omega
  have g2 : l3 ≤ cy := by omega
  have g3 : l3 ≤ cx := by omega
  clear h1 h2 h3 h4 hq hfl z1 z2
  go_wp2_with fail
  with_reducible refine (S3.out _ L3.now.1.2 L3.now.2).mono ?_
  rintro e w4 ⟨rfl, hb4⟩
  have L4 := L3.next hb4
  clear hb4 L3 F1 F2
  go_wp2_with (first
    | (go_at_call 31; refine (FL.out _ L4.now.1.1.1.2 L4.now.1.2 L4.now.1.1.1.1.2).mono ?_; rintro e w5 ⟨rfl, hb5⟩; have L5 := L4.next hb5)
    | (go_at_call 18; (with_reducible refine (S5.out _ (T1.out _ L5.now.1.1.2) L5.now.1.2).mono ?_); rintro e w6 ⟨rfl, hb6⟩; have L6 := L5.next hb6)
    | (go_at_call 18; (with_reducible refine (S6.out _ (T2.out _ L6.now.1.1.1.2) L6.now.1.2).mono ?_); rintro e w7 ⟨rfl, hb7⟩; have L7 := L6.next hb7))
  go_ret
  exact ⟨by simp, L7.now.1.1.1.1.1⟩
end Go.Proofs.YtdmffpjljaolcaaDoor
