/- The walk of laws.FnWrite. -/
import Derived.Test.YtihgdebfjoooeaaDoorDrawWd
import Derived.Test.YtihgdebfjoooeaaDoorWriteS
import Derived.Test.YtihgdebfjoooeaaDoorSameEn
namespace Go.Proofs.YtihgdebfjoooeaaDoor
set_option linter.unusedVariables false
set_option linter.unusedSimpArgs false
open Go.RowKit

set_option maxRecDepth 100000 in
set_option maxHeartbeats 8000000 in
theorem law_FnWrite (A : Option Addr) (n c : Nat) (w : World) (h : Code w A n c) (hg : GE w) :
    Calls Tryd.prog 3 #[.slice A n c] w fun e w' => e = .returned (.bool true) ∧ Below w.heap.size w w' := by
  have hn := h.2.1
  unfold maxLen at hn
  by_cases hbig : (1048576 : Int) < n
  · go_enter Tryd.func3, Tryd.ntmps3
    go_wp2_with fail
    go_ret
    exact ⟨rfl, Below.refl _ _⟩
  have HC := Lib.hid h
  have L0 := (Live.since (Below.refl w.heap.size w)).and (Live.ge hg)
  clear h hg
  go_enter Tryd.func3, Tryd.ntmps3
  go_wp2_with fail
  refine (drawStoreWrite_any A n c _ HC.out).mono ?_
  rintro e w1 ⟨Ax, k, cx, xs, s, x, Ae, m, ce, es, rfl, hrow, hrow', HB, HE, hk, hm, hkc, hmc, Hnil, Hnil', hs, hx1, hx2, hb1⟩
  have L1 := ((L0.next hb1).and (Live.row hrow)).and (Live.row hrow')
  have Hsm := Lib.hid (EnB.small HB.out)
  have Hse : Hid (∀ e ∈ es, e.kind.size ≤ maxLen) := Lib.hid fun e he => small60 (HE.out e he).1
  have hs' : s.size ≤ maxLen := small60 hs
  have Hl := Lib.hid hrow.1
  have Hm := Lib.hid hrow'.1
  clear hrow hrow' hb1 L0
  have F1 := Lib.hid (fun W H H' G => storeWrite_any Ax k cx xs s x Ae m ce es W H H' Hsm.out Hse.out hs' (by omega) hmc (by omega) Hnil.out (by omega) (by omega) G)
  have F2 := Lib.hid (fun W H H' => storeWriteS_any Ax k cx xs s x Ae m ce es W H H' Hsm.out Hse.out hs' (by omega) hmc (by omega) Hnil.out (by omega) (by omega))
  obtain ⟨p, hp⟩ : ∃ p, storeWrite xs s x es = p := ⟨_, rfl⟩
  have hpl : p.1.length ≤ 60 := by rw [← hp]; have := storeWrite_len xs s x es; have := Hl.out; have := Hm.out; omega
  rw [hp] at F1 F2
  have Hp := Lib.hid hp
  obtain ⟨ys, cd⟩ := p
  clear hp
  go_wp2_with fail
  refine (F1.out _ L1.now.1.2 L1.now.2 L1.now.1.1.2).mono ?_
  rintro e w2 ⟨A2, l, c2, rfl, hr2, hc2, Hn2, hb2⟩
  simp only at hr2 hpl
  have L2 := (L1.next hb2).and (Live.row hr2)
  have Hl2 := Lib.hid hr2.1
  have hl60 : l ≤ 60 := by rw [← hr2.1]; exact hpl
  clear hb2 hr2 L1
  go_wp2_with fail
  refine (F2.out _ L2.now.1.1.2 L2.now.1.2).mono ?_
  rintro e w3 ⟨A3, l3, c3, rfl, hr3, hc3, Hn3, hb3⟩
  simp only at hr3
  obtain rfl : l3 = l := by rw [← hr3.1, Hl2.out]
  have L3 := (L2.next hb3).and (Live.row hr3)
  clear hb3 hr3 L2
  have S3 := Lib.hid (fun W H H' => sameEntries_any A2 A3 l3 c2 l3 c3 ys ys W H H' (by omega) (by omega))
  rw [sameL_refl] at S3
  go_wp2_with fail
  with_reducible refine (S3.out _ L3.now.1.2 L3.now.2).mono ?_
  rintro e w4 ⟨rfl, hb4⟩
  have L4 := L3.next hb4
  clear hb4 L3 F1 F2
  by_cases hcd : cd = 0
  rotate_left
  · have hcd' : (cd == 0) = false := beq_eq_false_iff_ne.2 hcd
    have hcd2 : (cd != 0) = true := by rw [bne, hcd']; rfl
    clear hcd
    go_wp2_with fail
    with_reducible refine (S3.out _ L4.now.1.2 L4.now.2).mono ?_
    rintro e w5 ⟨rfl, hb5⟩
    go_wp2_with fail
    go_ret
    exact ⟨rfl, (L4.next hb5).now.1.1.1.1.1⟩
  subst hcd
  obtain ⟨h1, h2⟩ := storeWrite_0 (xs := xs) (s := s) (x := x) (es := es) (by rw [Hp.out])
  rw [Hp.out] at h1
  obtain rfl : ys = longer xs s es := (Prod.mk.inj h1).1
  have Hsml : Hid (SmallEns (longer xs s es)) := Lib.hid fun y hy => by
    rcases List.mem_append.1 hy with h1 | h1
    · exact Hsm.out y h1
    · obtain ⟨e, he, rfl⟩ := List.mem_map.1 h1; exact ⟨hs', Hse.out e he⟩
  have WR := Lib.hid (fun W H H' G => storeWrite_any A2 l3 c2 (longer xs s es) s x Ae m ce es W H H' Hsml.out Hse.out hs' (by omega) hmc (by omega) Hn2.out (by omega) (by omega) G)
  rw [h2] at WR
  clear h1 h2
  go_wp2_with (first
    | (go_at_call 16; refine (WR.out _ L4.now.1.2 L4.now.1.1.2 L4.now.1.1.1.1.2).mono ?_; rintro e w5 ⟨A5, n5, c5, rfl, hr5, hc5, Hn5, hb5⟩; simp only at hr5; obtain rfl : n5 = l3 := (by rw [← hr5.1, Hl2.out]); have L5 := (L4.next hb5).and (Live.row hr5); have S5 := sameEntries_any A5 A2 n5 c5 n5 c2 _ _ _ hr5 L5.now.1.1.2 (by omega) (by omega); rw [sameL_refl] at S5; have HS5 := Lib.hid S5; clear S5 hr5)
    | (go_at_call 18; with_reducible refine HS5.out.mono ?_; rintro e w7 ⟨rfl, hb7⟩))
  go_ret
  exact ⟨rfl, (L5.next hb7).now.1.1.1.1.1.1⟩
end Go.Proofs.YtihgdebfjoooeaaDoor
