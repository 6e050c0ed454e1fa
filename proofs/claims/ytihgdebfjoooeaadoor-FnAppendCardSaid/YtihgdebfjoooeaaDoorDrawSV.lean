/- Drawn stores, handed to the statements. -/
import Derived.Test.YtihgdebfjoooeaaDoorDrawSt
namespace Go.Proofs.YtihgdebfjoooeaaDoor
set_option linter.unusedVariables false
set_option linter.unusedSimpArgs false
open Go.RowKit

def EnsDrawn (w : World) (e : Ending) (w' : World) : Prop :=
  ∃ (A : Option Addr) (n c : Nat) (xs : List En), e = .returned (.slice A n c) ∧ Row enCells 4 w' w'.heap.size A n xs ∧ Hid (∀ x ∈ xs, EnB x) ∧ n ≤ 30 ∧ n ≤ c ∧ Hid (A = none → c = 0) ∧ Below w.heap.size w w'
theorem ens_drawn {w w' : World} {v : Value} {base n : Nat} {xs : List En} (hl : xs.length = n) (h : w'.ownsRow base 36 4 v n (xs.flatMap enCells)) (hb : Hid (∀ x ∈ xs, EnB x)) (hn : n ≤ 30) (hbb : Below w.heap.size w w') : EnsDrawn w (.returned v) w' := by
  obtain ⟨A, c, rfl, h1, h2, h3, _⟩ := Row.of_own h hl
  exact ⟨A, n, c, xs, rfl, h3, hb, hn, h1, Lib.hid h2, hbb⟩

set_option maxRecDepth 100000 in
set_option maxHeartbeats 4000000 in
theorem drawStoreValid_any (A : Option Addr) (n c : Nat) (w : World) (h : Code w A n c) :
    Calls Tryd.prog 19 #[.slice A n c] w (EnsDrawn w) := by
  go_enter Tryd.func19, Tryd.ntmps19
  go_wp2_with fail
  refine (open_any A n c _ h).mono ?_
  rintro e w1 ⟨r, rfl, hr, hb1, h1⟩
  clear h
  have hr1 := h1.lt
  go_wp2_with fail
  refine (l91Store_any r 0 _ h1 (by omega)).mono ?_
  rintro e w2 ⟨v, k, xs, rfl, hl, hown, HB, hk, hg2, h2⟩
  have hb2 := drawn_below hr hb1 hg2
  have HO := Lib.hid hown
  have Hl := Lib.hid hl
  have hb1' := hb1
  clear hg2 hb1 h1 hown hl
  by_cases hk0 : 0 < k
  · obtain ⟨g, cap, rfl, hgb⟩ := own_head HO.out hk0
    have hk0' : (0 : Int) < (k : Int) := by omega
    go_wp2_with fail
    refine (pick_any r _ _ _ h2 (by omega) (by omega)).mono ?_
    rintro e w3 ⟨x, rfl, hx, hg3, h3⟩
    have hb3 := drawn_below hr hb2 hg3
    have O3 := Lib.hid (own_rd HO.out hr1 hg3)
    clear hg3 h2 hb2
    by_cases hx0 : x = 0
    · have e0 : ((x : Int) == 0) = true := by rw [hx0]; rfl
      clear hx0 hx
      go_wp2_with fail
      refine (pick_any r _ _ _ h3 (by omega) (by omega)).mono ?_
      rintro e w4 ⟨y, rfl, hy, hg4, h4⟩
      have hy := hy (by omega)
      have hb4 := drawn_below hr hb3 hg4
      have O4 := Lib.hid (own_rd O3.out hr1 hg4)
      clear hg4 h3 hb3
      go_wp2_with fail
      refine (l91Name_any r _ _ h4 (by omega)).mono ?_
      rintro e w5 ⟨s, rfl, hs, hg5, h5⟩
      have hb5 := drawn_below hr hb4 hg5
      have O5 := own_rd O4.out hr1 hg5
      have Hb5 := Lib.hid hb5
      clear hg5 h4 h5 hb4 hb5
      have hxk : xs[y]? = some (nx xs y) := nx_get (by rw [Hl.out]; omega)
      have d0 : w5.cell? ⟨g, y * 4, none⟩ = some (.string (nx xs y).name) := (O5.cellAt (y * 4 + 0) (by omega)).trans (flat_get enCells_len xs y 0 _ hxk (by omega))
      have f0 := O5.frozenAt (y * 4)
      have HO5 := Lib.hid O5
      clear O5 hxk
      go_wp2_with fail
      go_ret
      obtain ⟨s1, g1⟩ := HO5.out.stored (y * 4) (.string s)
      rw [set_flat_name xs y s (by rw [Hl.out]; omega)] at s1
      refine ens_drawn (by rw [List.length_set, Hl.out]) s1 (Lib.hid (enB_set HB.out ⟨hs, (HB.out _ (nx_mem (by rw [Hl.out]; omega))).2⟩)) hk ?_
      exact Hb5.out.setCell (by show w.heap.size ≤ g; have := hb1'.size; omega) _
    · have e0 : ((x : Int) == 0) = false := beq_eq_false_iff_ne.2 (by omega)
      clear hx0 hx
      go_wp2_with fail
      go_ret
      exact ens_drawn Hl.out O3.out HB hk hb3
  · have hk0' : ¬ (0 : Int) < (k : Int) := by omega
    have hd : decide ((0 : Int) < (k : Int)) = false := decide_eq_false hk0'
    obtain ⟨Av, cv, rfl⟩ : ∃ Av cv, v = .slice Av k cv := by obtain ⟨A', c', e, _⟩ := Row.of_own HO.out Hl.out; exact ⟨A', c', e⟩
    go_wp2_with fail
    go_ret
    exact ens_drawn Hl.out HO.out HB hk hb2
end Go.Proofs.YtihgdebfjoooeaaDoor
