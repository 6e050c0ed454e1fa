/- The walk of laws.FnFollowLeftApart. -/
import Derived.Test.YtdmffpjljaolcaaDoorDrawBo
import Derived.Test.YtdmffpjljaolcaaDoorFol
import Derived.Test.YtdmffpjljaolcaaDoorSVal
import Derived.Test.YtdmffpjljaolcaaDoorLive
namespace Go.Proofs.YtdmffpjljaolcaaDoor
set_option linter.unusedVariables false
set_option linter.unusedSimpArgs false
open Go.RowKit

set_option maxRecDepth 100000 in
set_option maxHeartbeats 8000000 in
theorem law_FnFollowLeftApart (A : Option Addr) (n c : Nat) (w : World) (h : Code w A n c) (hg : GE w) :
    Calls Tryd.prog 9 #[.slice A n c] w fun e w' => e = .returned (.bool true) ∧ Below w.heap.size w w' := by
  have hn := h.2.1
  unfold maxLen at hn
  by_cases hbig : (1048576 : Int) < n
  · go_enter Tryd.func9, Tryd.ntmps9
    go_wp2_with fail
    go_ret
    exact ⟨rfl, Below.refl _ _⟩
  have HC := Lib.hid h
  have L0 := (Live.since (Below.refl w.heap.size w)).and (Live.ge hg)
  clear h hg
  go_enter Tryd.func9, Tryd.ntmps9
  go_wp2_with fail
  refine (drawFollowApart_any A n c _ HC.out).mono ?_
  rintro e w1 ⟨Ax, k, cx, xs, Ay, m, cy, ys, rfl, hrow, hrow', HB, HE, hk, hm, hkc, hmc, Hnil, Hnil', hb1⟩
  have L1 := ((L0.next hb1).and (Live.row hrow)).and (Live.row hrow')
  have Hsx := Lib.hid (EnB.small HB.out)
  have Hsy := HE
  have Hl := Lib.hid hrow.1
  have Hm := Lib.hid hrow'.1
  clear hrow hrow' hb1 L0
  have F1 := Lib.hid (fun W H H' G => followApart_any Ax Ay k cx m cy xs ys W H H' Hsx.out Hsy.out (by omega) (by omega) G)
  have F2 := Lib.hid (fun W H H' => followApartS_any Ax Ay k cx m cy xs ys W H H' Hsx.out Hsy.out (by omega) (by omega))
  have hpos := @followApart_pos xs ys
  obtain ⟨x, hx⟩ : ∃ x, followApart xs ys = x := ⟨_, rfl⟩
  have hleft := @followApart_left xs ys
  rw [hx] at F1 F2 hpos hleft
  clear hx
  go_wp2_with fail
  refine (F1.out _ L1.now.1.2 L1.now.2 L1.now.1.1.2).mono ?_
  rintro e w2 ⟨rfl, hb2⟩
  have L2 := L1.next hb2
  clear hb2 L1
  go_wp2_with fail
  refine (F2.out _ L2.now.1.2 L2.now.2).mono ?_
  rintro e w3 ⟨rfl, hb3⟩
  have L3 := L2.next hb3
  clear hb3 L2
  by_cases hneg : x < 0
  · clear hpos hleft
    go_wp2_with fail
    go_ret
    exact ⟨by simp, L3.now.1.1.1⟩
  obtain ⟨g1, g2⟩ := hleft (by omega)
  have F5 := Lib.hid (fun W H H' G => followLeft_any Ax Ay k cx m cy xs ys W H H' Hsx.out Hsy.out (by omega) (by omega) G)
  have F6 := Lib.hid (fun W H H' G => followLeft_any Ay Ax m cy k cx ys xs W H H' Hsy.out Hsx.out (by omega) (by omega) G)
  rw [g1] at F5
  rw [g2] at F6
  clear g1 g2 hpos hleft
  go_wp2_with (first
    | (go_at_call 31; (with_reducible refine (F5.out _ L3.now.1.2 L3.now.2 L3.now.1.1.2).mono ?_); rintro e w4 ⟨rfl, hb4⟩; have L4 := L3.next hb4)
    | (go_at_call 31; (with_reducible refine (F6.out _ L4.now.2 L4.now.1.2 L4.now.1.1.2).mono ?_); rintro e w5 ⟨rfl, hb5⟩; have L5 := L4.next hb5))
  go_ret
  exact ⟨by simp, L5.now.1.1.1⟩
end Go.Proofs.YtdmffpjljaolcaaDoor
