/- The walk of laws.FnApartBoth. -/
import Derived.Test.YtdmffpjljaolcaaDoorDrawBo
import Derived.Test.YtdmffpjljaolcaaDoorFol
import Derived.Test.YtdmffpjljaolcaaDoorSVal
import Derived.Test.YtdmffpjljaolcaaDoorLive
namespace Go.Proofs.YtdmffpjljaolcaaDoor
set_option linter.unusedVariables false
set_option linter.unusedSimpArgs false
open Go.RowKit

set_option maxRecDepth 100000 in
set_option maxHeartbeats 8000000 in
theorem law_FnApartBoth (A : Option Addr) (n c : Nat) (w : World) (h : Code w A n c) (hg : GE w) :
    Calls Tryd.prog 4 #[.slice A n c] w fun e w' => e = .returned (.bool true) ∧ Below w.heap.size w w' := by
  have hn := h.2.1
  unfold maxLen at hn
  by_cases hbig : (1048576 : Int) < n
  · go_enter Tryd.func4, Tryd.ntmps4
    go_wp2_with fail
    go_ret
    exact ⟨rfl, Below.refl _ _⟩
  have HC := Lib.hid h
  have L0 := (Live.since (Below.refl w.heap.size w)).and (Live.ge hg)
  clear h hg
  go_enter Tryd.func4, Tryd.ntmps4
  go_wp2_with fail
  refine (drawFollowApart_any A n c _ HC.out).mono ?_
  rintro e w1 ⟨Ax, k, cx, xs, Ay, m, cy, ys, rfl, hrow, hrow', HB, HE, hk, hm, hkc, hmc, Hnil, Hnil', hb1⟩
  have L1 := ((L0.next hb1).and (Live.row hrow)).and (Live.row hrow')
  have Hsx := Lib.hid (EnB.small HB.out)
  have Hsy := HE
  have Hl := Lib.hid hrow.1
  have Hm := Lib.hid hrow'.1
  clear hrow hrow' hb1 L0
  have F1 := Lib.hid (fun W H H' G => followApart_any Ax Ay k cx m cy xs ys W H H' Hsx.out Hsy.out (by omega) (by omega) G)
  have F2 := Lib.hid (fun W H H' => followApartS_any Ax Ay k cx m cy xs ys W H H' Hsx.out Hsy.out (by omega) (by omega))
  have F3 := Lib.hid (fun W H G => followApart_any Ax Ax k cx k cx xs xs W H H Hsx.out Hsx.out (by omega) (by omega) G)
  have F4 := Lib.hid (fun W H H' G => followApart_any Ay Ax m cy k cx ys xs W H H' Hsy.out Hsx.out (by omega) (by omega) G)
  have V := Lib.hid (fun W H G => storeValid_any Ax k cx xs W H Hsx.out (by omega) G)
  rw [followApart_symm xs ys] at F4
  rw [followApart_self] at F3
  obtain ⟨x, hx⟩ : ∃ x, followApart xs ys = x := ⟨_, rfl⟩
  rw [hx] at F1 F2 F4
  clear hx
  go_wp2_with fail
  refine (F1.out _ L1.now.1.2 L1.now.2 L1.now.1.1.2).mono ?_
  rintro e w2 ⟨rfl, hb2⟩
  have L2 := L1.next hb2
  clear hb2 L1
  go_wp2_with fail
  refine (F2.out _ L2.now.1.2 L2.now.2).mono ?_
  rintro e w3 ⟨rfl, hb3⟩
  have L3 := L2.next hb3
  clear hb3 L2
  cases hv : storeOk xs
  all_goals
    rw [hv] at F3 V
    simp only [Bool.false_eq_true, if_false, if_true] at F3
    clear hv
    go_wp2_with fail
    refine (F3.out _ L3.now.1.2 L3.now.1.1.2).mono ?_
    rintro e w4 ⟨rfl, hb4⟩
    have L4 := L3.next hb4
    clear hb4 L3
    go_wp2_with (first
      | (go_at_call 16; refine (F4.out _ L4.now.2 L4.now.1.2 L4.now.1.1.2).mono ?_; rintro e w5 ⟨rfl, hb5⟩; have L5 := L4.next hb5)
      | (go_at_call 19; refine (V.out _ L5.now.1.2 L5.now.1.1.2).mono ?_; rintro e w6 ⟨rfl, hb6⟩; have L6 := L5.next hb6))
    go_ret
    exact ⟨by simp, L6.now.1.1.1⟩
end Go.Proofs.YtdmffpjljaolcaaDoor
