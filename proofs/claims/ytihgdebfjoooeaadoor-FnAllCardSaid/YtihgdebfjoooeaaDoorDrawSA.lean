/- Drawn stores with a position and how many. -/
import Derived.Test.YtihgdebfjoooeaaDoorDrawSV
namespace Go.Proofs.YtihgdebfjoooeaaDoor
open Go.RowKit

def EnsInts (w : World) (e : Ending) (w' : World) : Prop :=
  ∃ (A : Option Addr) (n c : Nat) (xs : List En) (a m : Int), e = .returned (.tuple #[.slice A n c, .int .i64 a, .int .i64 m]) ∧ Row enCells 4 w' w'.heap.size A n xs ∧ Hid (∀ x ∈ xs, EnB x) ∧ n ≤ 30 ∧ n ≤ c ∧ Hid (A = none → c = 0) ∧ -1000 ≤ a ∧ a ≤ 1000 ∧ -1000 ≤ m ∧ m ≤ 1000 ∧ Below w.heap.size w w'
set_option maxRecDepth 100000 in
set_option maxHeartbeats 4000000 in
theorem drawStoreAll_any (A : Option Addr) (n c : Nat) (w : World) (h : Code w A n c) :
    Calls Tryd.prog 23 #[.slice A n c] w (EnsInts w) := by
  go_enter Tryd.func23, Tryd.ntmps23
  go_wp2_with fail
  refine (open_any A n c _ h).mono ?_
  rintro e w1 ⟨r, rfl, hr, hb1, h1⟩
  clear h
  have hr1 := h1.lt
  go_wp2_with fail
  refine (l91Store_any r 0 _ h1 (by omega)).mono ?_
  rintro e w2 ⟨v, k, xs, rfl, hl, hown, HB, hk, hg2, h2⟩
  have hb2 := drawn_below hr hb1 hg2
  have HO := Lib.hid hown
  have Hl := Lib.hid hl
  clear hg2 hb1 h1 hown hl
  obtain ⟨Av, cv, rfl⟩ : ∃ Av cv, v = .slice Av k cv := by obtain ⟨A', c', e, _⟩ := Row.of_own HO.out Hl.out; exact ⟨A', c', e⟩
  go_wp2_with fail
  refine (pick_any r _ _ _ h2 (by omega) (by omega)).mono ?_
  rintro e w3 ⟨x, rfl, hx, hg3, h3⟩
  have hx := hx (by omega)
  have hb3 := drawn_below hr hb2 hg3
  have O3 := Lib.hid (own_rd HO.out hr1 hg3)
  clear hg3 h2 hb2
  go_wp2_with fail
  refine (pick_any r _ _ _ h3 (by omega) (by omega)).mono ?_
  rintro e w4 ⟨y, rfl, hy, hg4, h4⟩
  have hy := hy (by omega)
  have hb4 := drawn_below hr hb3 hg4
  have O4 := Lib.hid (own_rd O3.out hr1 hg4)
  clear hg4 h3 hb3
  go_wp2_with fail
  refine (pick_any r _ _ _ h4 (by omega) (by omega)).mono ?_
  rintro e w5 ⟨z, rfl, hz, hg5, h5⟩
  have hz := hz (by omega)
  have hb5 := drawn_below hr hb4 hg5
  have O5 := Lib.hid (own_rd O4.out hr1 hg5)
  clear hg5 h4 hb4
  go_wp2_with fail
  refine (pick_any r _ _ _ h5 (by omega) (by omega)).mono ?_
  rintro e w6 ⟨u, rfl, hu, hg6, h6⟩
  have hu := hu (by omega)
  have hb6 := drawn_below hr hb5 hg6
  have O6 := own_rd O5.out hr1 hg6
  clear hg6 h5 hb5 h6
  obtain ⟨A', c', e', h1', h2', h3', _⟩ := Row.of_own O6 Hl.out
  obtain ⟨rfl, _, rfl⟩ := (Value.slice.injEq _ _ _ _ _ _).mp e'
  go_wp2_with fail
  go_ret3
  exact ⟨_, _, _, xs, _, _, rfl, h3', HB, hk, h1', Lib.hid h2', by omega, by omega, by omega, by omega, hb6⟩
end Go.Proofs.YtihgdebfjoooeaaDoor
