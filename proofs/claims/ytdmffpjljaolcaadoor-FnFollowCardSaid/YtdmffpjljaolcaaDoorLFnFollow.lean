/- The walk of laws.FnFollow. -/
import Derived.Test.YtdmffpjljaolcaaDoorDrawBoM
import Derived.Test.YtdmffpjljaolcaaDoorFolR
import Derived.Test.YtdmffpjljaolcaaDoorLive
namespace Go.Proofs.YtdmffpjljaolcaaDoor
set_option linter.unusedVariables false
set_option linter.unusedSimpArgs false
open Go.RowKit

set_option maxRecDepth 100000 in
set_option maxHeartbeats 8000000 in
theorem law_FnFollow (A : Option Addr) (n c : Nat) (w : World) (h : Code w A n c) (hg : GE w) :
    Calls Tryd.prog 7 #[.slice A n c] w fun e w' => e = .returned (.bool true) ∧ Below w.heap.size w w' := by
  have hn := h.2.1
  unfold maxLen at hn
  by_cases hbig : (1048576 : Int) < n
  · go_enter Tryd.func7, Tryd.ntmps7
    go_wp2_with fail
    go_ret
    exact ⟨rfl, Below.refl _ _⟩
  have HC := Lib.hid h
  have L0 := (Live.since (Below.refl w.heap.size w)).and (Live.ge hg)
  clear h hg
  go_enter Tryd.func7, Tryd.ntmps7
  go_wp2_with fail
  refine (drawFollowRun_any A n c _ HC.out).mono ?_
  rintro e w1 ⟨Ax, k, cx, xs, Ay, m, cy, ys, mm, rfl, hrow, hrow', HB, HE, hk, hm, hkc, hmc, Hnil, Hnil', hmm1, hmm2, hb1⟩
  have L1 := ((L0.next hb1).and (Live.row hrow)).and (Live.row hrow')
  have Hsx := Lib.hid (EnB.small HB.out)
  have Hsy := HE
  have Hl := Lib.hid hrow.1
  have Hm := Lib.hid hrow'.1
  clear hrow hrow' hb1 L0
  have F1 := Lib.hid (fun W H H' G => followRun_any Ax Ay k cx m cy xs ys mm W H H' Hsx.out Hsy.out hkc hmc Hnil.out Hnil'.out (by omega) (by omega) (by omega) (by omega) G)
  have F2 := Lib.hid (fun W H H' => followRunS_any Ax Ay k cx m cy xs ys mm W H H' Hsx.out Hsy.out hkc hmc Hnil.out Hnil'.out (by omega) (by omega) (by omega) (by omega))
  obtain ⟨p, hp⟩ : ∃ p, followRun xs ys mm = p := ⟨_, rfl⟩
  have hpl : p.1.length ≤ 60 := by rw [← hp]; have := followRun_len xs ys mm; have := Hl.out; have := Hm.out; omega
  rw [hp] at F1 F2
  have Hp := Lib.hid hp
  obtain ⟨zs, ok⟩ := p
  clear hp
  go_wp2_with fail
  refine (F1.out _ L1.now.1.2 L1.now.2 L1.now.1.1.2).mono ?_
  rintro e w2 ⟨A2, l, c2, rfl, hr2, hc2, Hn2, hb2⟩
  simp only at hr2 hpl
  have L2 := (L1.next hb2).and (Live.row hr2)
  have Hl2 := Lib.hid hr2.1
  have hl60 : l ≤ 60 := by rw [← hr2.1]; exact hpl
  clear hb2 hr2 L1
  go_wp2_with fail
  refine (F2.out _ L2.now.1.1.2 L2.now.1.2).mono ?_
  rintro e w3 ⟨A3, l3, c3, rfl, hr3, hc3, Hn3, hb3⟩
  simp only at hr3
  obtain rfl : l3 = l := by rw [← hr3.1, Hl2.out]
  have L3 := (L2.next hb3).and (Live.row hr3)
  clear hb3 hr3 L2
  have S3 := Lib.hid (fun W H H' => sameEntries_any A2 A3 l3 c2 l3 c3 zs zs W H H' (by omega) (by omega))
  rw [sameL_refl] at S3
  cases ok
  · go_wp2_with fail
    with_reducible refine (S3.out _ L3.now.1.2 L3.now.2).mono ?_
    rintro e w4 ⟨rfl, hb4⟩
    have L4 := L3.next hb4
    clear hb4 L3 F1 F2
    go_wp2_with fail
    with_reducible refine (S3.out _ L4.now.1.2 L4.now.2).mono ?_
    rintro e w5 ⟨rfl, hb5⟩
    go_wp2_with fail
    go_ret
    exact ⟨rfl, (L4.next hb5).now.1.1.1.1.1⟩
  obtain ⟨h1, h2, h3, h4, h5, h6, h7, h8⟩ := followRun_is (a := xs) (b := ys) (m := mm) (by rw [Hp.out])
  rw [Hp.out] at h6
  have z1 : zs = xs.take (ys.length + mm.toNat) := (Prod.mk.inj h6).1
  rw [Hm.out] at z1 h7 h8
  rw [Hl.out] at h8
  obtain ⟨q, rfl⟩ : ∃ q : Nat, mm = (q : Int) := ⟨mm.toNat, by omega⟩
  rw [Int.toNat_natCast] at z1
  have hlq : l3 = min (m + q) k := by rw [← Hl2.out, z1, List.length_take, Hl.out]
  have g1 : l3 ≤ k := by omega
  have g2 : m ≤ l3 := by omega
  have g3 : l3 ≤ m + q := by omega
  have z2 : zs = xs.take l3 := by
    rw [z1, hlq, List.take_eq_take_iff, Hl.out]; omega
  have z3 : ys = zs.take m := by rw [z2, List.take_take, Nat.min_eq_left g2]; exact h7
  have Hz2 := Lib.hid z2
  have Hz3 := Lib.hid z3
  have S5 := Lib.hid (fun W H H' => sameEntries_any Ax A2 l3 cx l3 c2 zs zs W H H' (by omega) (by omega))
  rw [sameL_refl] at S5
  have S6 := Lib.hid (fun W H H' => sameEntries_any A2 Ay m c2 m cy ys ys W H H' (by omega) (by omega))
  rw [sameL_refl] at S6
  have T1 := Lib.hid (fun W (H : Row enCells 4 W W.heap.size Ax k xs) => (by rw [Hz2.out]; exact H.first enCells_len l3 g1 : Row enCells 4 W W.heap.size Ax l3 zs))
  have T2 := Lib.hid (fun W (H : Row enCells 4 W W.heap.size A2 l3 zs) => (by have := H.first enCells_len m g2; rw [← Hz3.out] at this; exact this : Row enCells 4 W W.heap.size A2 m ys))
  have g4 : l3 ≤ cx := by omega
  have g5 : m ≤ c2 := by omega
  have g6 : (l3 : Int) - (m : Int) ≤ (q : Int) := by omega
  clear h1 h2 h3 h6 h7 z1 z2 z3 hlq
  go_wp2_with fail
  with_reducible refine (S3.out _ L3.now.1.2 L3.now.2).mono ?_
  rintro e w4 ⟨rfl, hb4⟩
  have L4 := L3.next hb4
  clear hb4 L3 F1 F2
  go_wp2_with (first
    | (go_at_call 18; (with_reducible refine (S5.out _ (T1.out _ L4.now.1.1.1.2) L4.now.1.2).mono ?_); rintro e w6 ⟨rfl, hb6⟩; have L6 := L4.next hb6)
    | (go_at_call 18; (with_reducible refine (S6.out _ (T2.out _ L6.now.1.2) L6.now.1.1.2).mono ?_); rintro e w7 ⟨rfl, hb7⟩; have L7 := L6.next hb7))
  go_ret
  exact ⟨by simp, L7.now.1.1.1.1.1⟩
end Go.Proofs.YtdmffpjljaolcaaDoor
