/- The walk of laws.FnFollowOn. -/
import Derived.Test.YtdmffpjljaolcaaDoorDrawBoM
import Derived.Test.YtdmffpjljaolcaaDoorFolR
import Derived.Test.YtdmffpjljaolcaaDoorLive
namespace Go.Proofs.YtdmffpjljaolcaaDoor
set_option linter.unusedVariables false
set_option linter.unusedSimpArgs false
open Go.RowKit

set_option maxRecDepth 100000 in
set_option maxHeartbeats 8000000 in
theorem law_FnFollowOn (A : Option Addr) (n c : Nat) (A' : Option Addr) (n' c' : Nat) (w : World) (h : Code w A n c) (h' : Code w A' n' c') (hg : GE w) :
    Calls Tryd.prog 10 #[.slice A n c, .slice A' n' c'] w fun e w' => e = .returned (.bool true) ∧ Below w.heap.size w w' := by
  have hn := h.2.1
  have hn' := h'.2.1
  unfold maxLen at hn hn'
  by_cases hbig : (1048576 : Int) < n
  · go_enter Tryd.func10, Tryd.ntmps10
    go_wp2_with fail
    go_ret
    exact ⟨rfl, Below.refl _ _⟩
  by_cases hbig' : (1048576 : Int) < n'
  · go_enter Tryd.func10, Tryd.ntmps10
    go_wp2_with fail
    go_ret
    exact ⟨rfl, Below.refl _ _⟩
  have HC := Lib.hid h
  have L0 := (Live.since (Below.refl w.heap.size w)).and (Live.ge hg)
  clear h h' hg
  go_enter Tryd.func10, Tryd.ntmps10
  go_wp2_with fail
  refine (drawFollowRun_any A n c _ HC.out).mono ?_
  rintro e w1 ⟨Ax, k, cx, xs, Ay, m, cy, ys, mm, rfl, hrow, hrow', HB, HE, hk, hm, hkc, hmc, Hnil, Hnil', hmm1, hmm2, hb1⟩
  have L1 := ((L0.next hb1).and (Live.row hrow)).and (Live.row hrow')
  have Hsx := Lib.hid (EnB.small HB.out)
  have Hsy := HE
  have Hl := Lib.hid hrow.1
  have Hm := Lib.hid hrow'.1
  clear hrow hrow' hb1 L0
  have F1 := Lib.hid (fun W H H' G => followRun_any Ax Ay k cx m cy xs ys mm W H H' Hsx.out Hsy.out hkc hmc Hnil.out Hnil'.out (by omega) (by omega) (by omega) (by omega) G)
  have F2 := Lib.hid (fun W H H' => followRunS_any Ax Ay k cx m cy xs ys mm W H H' Hsx.out Hsy.out hkc hmc Hnil.out Hnil'.out (by omega) (by omega) (by omega) (by omega))
  obtain ⟨p, hp⟩ : ∃ p, followRun xs ys mm = p := ⟨_, rfl⟩
  have hpl : p.1.length ≤ 60 := by rw [← hp]; have := followRun_len xs ys mm; have := Hl.out; have := Hm.out; omega
  rw [hp] at F1 F2
  have Hp := Lib.hid hp
  obtain ⟨zs, ok⟩ := p
  clear hp
  go_wp2_with fail
  refine (F1.out _ L1.now.1.2 L1.now.2 L1.now.1.1.2).mono ?_
  rintro e w2 ⟨A2, l, c2, rfl, hr2, hc2, Hn2, hb2⟩
  simp only at hr2 hpl
  have L2 := (L1.next hb2).and (Live.row hr2)
  have Hl2 := Lib.hid hr2.1
  have hl60 : l ≤ 60 := by rw [← hr2.1]; exact hpl
  clear hb2 hr2 L1
  go_wp2_with fail
  refine (F2.out _ L2.now.1.1.2 L2.now.1.2).mono ?_
  rintro e w3 ⟨A3, l3, c3, rfl, hr3, hc3, Hn3, hb3⟩
  simp only at hr3
  obtain rfl : l3 = l := by rw [← hr3.1, Hl2.out]
  have L3 := (L2.next hb3).and (Live.row hr3)
  clear hb3 hr3 L2
  have S3 := Lib.hid (fun W H H' => sameEntries_any A2 A3 l3 c2 l3 c3 zs zs W H H' (by omega) (by omega))
  rw [sameL_refl] at S3
  cases ok
  · go_wp2_with fail
    with_reducible refine (S3.out _ L3.now.1.2 L3.now.2).mono ?_
    rintro e w4 ⟨rfl, hb4⟩
    have L4 := L3.next hb4
    clear hb4 L3 F1 F2
    go_wp2_with fail
    with_reducible refine (S3.out _ L4.now.1.2 L4.now.2).mono ?_
    rintro e w5 ⟨rfl, hb5⟩
    go_wp2_with fail
    go_ret
    exact ⟨rfl, (L4.next hb5).now.1.1.1.1.1⟩
  obtain ⟨h1, h2, h3, h4, h5, h6, h7, h8⟩ := followRun_is (a := xs) (b := ys) (m := mm) (by rw [Hp.out])
  rw [Hp.out] at h6
  have z1 : zs = xs.take (ys.length + mm.toNat) := (Prod.mk.inj h6).1
  rw [Hm.out] at z1 h7 h8
  rw [Hl.out] at h8
  obtain ⟨q, rfl⟩ : ∃ q : Nat, mm = (q : Int) := ⟨mm.toNat, by omega⟩
  rw [Int.toNat_natCast] at z1
  obtain ⟨kk, hkk⟩ : ∃ kk, kk = n' % (q + 1) := ⟨_, rfl⟩
  have hk1 : kk ≤ q := by have := Nat.mod_lt n' (show 0 < q + 1 by omega); omega
  have e1 : (n' : Int) % ((q : Int) + 1) = (kk : Int) := by rw [hkk]; first | exact (Int.natCast_emod n' (q + 1)).symm | exact (Int.ofNat_emod n' (q + 1)).symm | simp
  have r1 := followRun_yes h1 h2 h3 (m := (kk : Int)) (by omega)
  rw [Hm.out, Int.toNat_natCast] at r1
  obtain ⟨en, hen⟩ : ∃ en, en = min (m + kk) k := ⟨_, rfl⟩
  have e2 : xs.take (m + kk) = xs.take en := by rw [hen, List.take_eq_take_iff, Hl.out]; omega
  rw [e2] at r1
  have r2 := followRun_on h1 en (by rw [Hl.out]; omega) (q - kk) (by omega)
  have e3 : xs.take (en + (q - kk)) = zs := by rw [z1, List.take_eq_take_iff, Hl.out]; omega
  rw [e3] at r2
  have Hlen : Hid ((xs.take en).length = en) := Lib.hid (by rw [List.length_take, Hl.out]; omega)
  have hen1 : en ≤ k := by omega
  have R1 := Lib.hid (fun W H H' G => followRun_any Ax Ay k cx m cy xs ys (kk : Int) W H H' Hsx.out Hsy.out hkc hmc Hnil.out Hnil'.out (by omega) (by omega) (by omega) (by omega) G)
  rw [r1] at R1
  have Hst : Hid (SmallEns (xs.take en)) := Lib.hid fun y hy => Hsx.out y (List.mem_of_mem_take hy)
  have R2 := Lib.hid (fun A5 c5 hc5 hn5 W H H' G => followRun_any Ax A5 k cx en c5 xs (xs.take en) ((q - kk : Nat) : Int) W H H' Hsx.out Hst.out hkc hc5 Hnil.out hn5 (by omega) (by omega) (by omega) (by omega) G)
  rw [r2] at R2
  have e4 : ((q - kk : Nat) : Int) = (q : Int) - (kk : Int) := by omega
  rw [e4] at R2
  have S6 := Lib.hid (fun A6 c6 W H H' => sameEntries_any A6 A2 l3 c6 l3 c2 zs zs W H H' (by omega) (by omega))
  rw [sameL_refl] at S6
  clear h1 h2 h3 h6 h7 h8 z1 hkk r1 r2 hen e2 e3 e4
  go_wp2_with fail
  with_reducible refine (S3.out _ L3.now.1.2 L3.now.2).mono ?_
  rintro e w4 ⟨rfl, hb4⟩
  have L4 := L3.next hb4
  clear hb4 L3 F1 F2
  go_wp2_with fail
  refine (R1.out _ L4.now.1.1.1.2 L4.now.1.1.2 L4.now.1.1.1.1.2).mono ?_
  rintro e w5 ⟨A5, n5, c5, rfl, hr5, hc5, Hn5, hb5⟩
  simp only at hr5
  obtain rfl : n5 = en := by rw [← hr5.1, Hlen.out]
  have L5 := (L4.next hb5).and (Live.row hr5)
  clear hr5 hb5 L4
  go_wp2_with fail
  refine (R2.out A5 c5 hc5 Hn5.out _ L5.now.1.1.1.1.2 L5.now.2 L5.now.1.1.1.1.1.2).mono ?_
  rintro e w6 ⟨A6, n6, c6, rfl, hr6, hc6, Hn6, hb6⟩
  simp only at hr6
  obtain rfl : n6 = l3 := by rw [← hr6.1, Hl2.out]
  have L6 := (L5.next hb6).and (Live.row hr6)
  clear hr6 hb6 L5
  go_wp2_with (go_at_call 18; (with_reducible refine (S6.out _ _ _ L6.now.2 L6.now.1.1.1.2).mono ?_); rintro e w7 ⟨rfl, hb7⟩; have L7 := L6.next hb7)
  go_ret
  exact ⟨by simp, L7.now.1.1.1.1.1.1.1⟩
end Go.Proofs.YtdmffpjljaolcaaDoor
