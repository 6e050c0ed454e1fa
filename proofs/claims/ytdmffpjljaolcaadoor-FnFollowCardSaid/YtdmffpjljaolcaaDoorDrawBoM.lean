/- Drawn pairs of stores and how many. -/
import Derived.Test.YtdmffpjljaolcaaDoorDrawBo
namespace Go.Proofs.YtdmffpjljaolcaaDoor
set_option linter.unusedVariables false
set_option linter.unusedSimpArgs false
open Go.RowKit

set_option maxHeartbeats 2000000 in
theorem drawFollowRun_any (A : Option Addr) (n c : Nat) (w : World) (h : Code w A n c) :
    Calls Tryd.prog 27 #[.slice A n c] w (BothManyDrawn w) := by
  go_enter Tryd.func27, Tryd.ntmps27
  go_wp2_with fail
  refine (open_any A n c _ h).mono ?_
  rintro e w1 ⟨r, rfl, hr, hb1, h1⟩
  clear h
  have hr1 := h1.lt
  go_wp2_with fail
  refine (l92Both_any r 0 _ h1 (by omega)).mono ?_
  rintro e w2 ⟨v, k, xs, u, m, ys, rfl, hl, O, HB, hk, hlm, U, HE, hm, hg2, h2⟩
  have hb2 := drawn_below hr hb1 hg2.out
  obtain ⟨Av, cv, rfl⟩ := own_slice_n O.out
  obtain ⟨Au, cu, rfl⟩ := own_slice_n U.out
  clear hg2 hb1 h1
  go_wp2_with fail
  refine (pick_any r _ _ _ h2 (by omega) (by omega)).mono ?_
  rintro e w3 ⟨x, rfl, hx, hg3, h3⟩
  have hx := hx (by omega)
  have hb3 := drawn_below hr hb2 hg3
  have O3 := Lib.hid (own_rd O.out hr1 hg3)
  have U3 := Lib.hid (own_rd U.out hr1 hg3)
  clear hg3 h2 hb2
  go_wp2_with fail
  refine (pick_any r _ _ _ h3 (by omega) (by omega)).mono ?_
  rintro e w4 ⟨y, rfl, hy, hg4, h4⟩
  have hy := hy (by omega)
  have hb4 := drawn_below hr hb3 hg4
  have O4 := own_rd O3.out hr1 hg4
  have U4 := own_rd U3.out hr1 hg4
  clear hg4 h3 hb3 h4
  obtain ⟨A', c', e1, q1, q2, q3, _⟩ := Row.of_own O4 hl.out
  obtain ⟨rfl, -, rfl⟩ : Av = A' ∧ k = k ∧ cv = c' := by injection e1 with a b c; exact ⟨a, rfl, c⟩
  obtain ⟨B', d', e2, p1, p2, p3, _⟩ := Row.of_own U4 hlm.out
  obtain ⟨rfl, -, rfl⟩ : Au = B' ∧ m = m ∧ cu = d' := by injection e2 with a b c; exact ⟨a, rfl, c⟩
  have Hq := Lib.hid q2
  have Hp := Lib.hid p2
  have Hr := Lib.hid (And.intro q3 p3)
  have y29 : (y : Int) / 29 ≤ 1 := by omega
  have y0 : (0 : Int) ≤ (y : Int) / 29 := by omega
  clear e1 e2 q2 q3 p2 p3 O4 U4
  go_wp2_with fail
  refine bodyPost_ret (v := .tuple #[.slice Av k cv, .slice Au m cu, .int .i64 ((x : Int) - (y : Int) / 29 * 6)]) (by simp [results, Tryd.results27, go_sem]) rfl ?_
  exact ⟨Av, k, cv, xs, Au, m, cu, ys, _, rfl, Hr.out.1, Hr.out.2, HB, HE, hk, hm, q1, p1, Hq, Hp, by omega, by omega, hb4⟩
end Go.Proofs.YtdmffpjljaolcaaDoor
