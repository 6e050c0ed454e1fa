/- Drawn stores with a name that is often there. -/
import Derived.Test.YtbcfbkcadceniaaDoorDrawSV
import Derived.Test.YtbcfbkcadceniaaDoorSVal
namespace Go.Proofs.YtbcfbkcadceniaaDoor
set_option linter.unusedVariables false
set_option linter.unusedSimpArgs false
open Go.RowKit

theorem EnB.small {xs : List En} (h : ∀ x ∈ xs, EnB x) : SmallEns xs := fun x hx => ⟨small60 (h x hx).1, small60 (h x hx).2.1⟩
theorem stream_B {xs : List En} {s : ByteArray} (h : ∀ x ∈ xs, EnB x) : ∀ e ∈ streamOf xs s, EvB e := fun _ he => (h _ (streamOf_mem.1 he)).2
/-- a drawn store and a name. -/
def InPost (r M : Nat) (w : World) (e : Ending) (w' : World) : Prop :=
  ∃ (v : Value) (n : Nat) (xs : List En) (s : ByteArray), e = .returned (.tuple #[v, .string s]) ∧ xs.length = n ∧ w'.ownsRow w.heap.size 35 4 v n (xs.flatMap enCells) ∧ Hid (∀ x ∈ xs, EnB x) ∧ n ≤ 30 ∧ s.size ≤ 60 ∧ w.grownBy w' (some r) ∧ Rd w' r M

theorem own_slice_n {w : World} {base size n : Nat} {e : TypeId} {v : Value} {xs : List Value} (h : w.ownsRow base e size v n xs) : ∃ A c, v = .slice A n c := by
  rcases h.2 with ⟨rfl, rfl⟩ | ⟨g, cap, cur, rfl, _⟩ <;> exact ⟨_, _, rfl⟩
theorem name_cell {w : World} {base k g cap : Nat} {xs : List En} (hl : xs.length = k) (HB : ∀ x ∈ xs, EnB x) (h : w.ownsRow base 35 4 (.slice (some ⟨g, 0, none⟩) k cap) k (xs.flatMap enCells)) {y : Nat} (hy : y < k) :
    ∃ s, Hid (s.size ≤ 60) ∧ w.cell? ⟨g, y * 4, none⟩ = some (.string s) := by
  have hxk : xs[y]? = some (nx xs y) := nx_get (by rw [hl]; omega)
  exact ⟨(nx xs y).name, Lib.hid (HB _ (nx_mem (by rw [hl]; omega))).1, (h.cellAt (y * 4 + 0) (by omega)).trans (flat_get enCells_len xs y 0 _ hxk (by omega))⟩
set_option maxRecDepth 100000 in
set_option maxHeartbeats 4000000 in
theorem l91In_any (r N : Nat) (w : World) (h : Rd w r N) (hN : N ≤ 700000) :
    Calls Tryd.prog 59 #[.pointer (some ⟨r, 0, none⟩)] w (InPost r (N + 300) w) := by
  have hr := h.lt
  go_enter Tryd.func59, Tryd.ntmps59
  go_wp2_with fail
  refine (l91Store_any r N _ h (by omega)).mono ?_
  rintro e w2 ⟨v, k, xs, rfl, hl, hown, HB, hk, hg2, h2⟩
  have HO := Lib.hid hown
  have HG := Lib.hid hg2
  have Hl := Lib.hid hl
  obtain ⟨Av, cv, rfl⟩ := own_slice_n hown
  clear hg2 hown hl h
  by_cases hk0 : k = 0
  · subst hk0
    go_wp2_with fail
    refine (l91Name_any r _ _ h2 (by omega)).mono ?_
    rintro e w3 ⟨s, rfl, hs, hg3, h3⟩
    have O3 := Lib.hid (own_rd HO.out hr hg3)
    have G3 := Lib.hid (grow_trans HG.out hg3)
    have H3 := Lib.hid h3
    clear hg3 h3 h2
    go_wp2_with fail
    go_ret2
    exact ⟨_, 0, xs, s, rfl, Hl.out, O3.out, HB, hk, hs, G3.out, H3.out.more (by omega)⟩
  · have e0 : ((k : Int) == 0) = false := beq_eq_false_iff_ne.2 (by omega)
    obtain ⟨g, cap, hv, hgb⟩ := own_head HO.out (by omega)
    obtain ⟨rfl, -, rfl⟩ : Av = some ⟨g, 0, none⟩ ∧ k = k ∧ cv = cap := by injection hv with a b c; exact ⟨a, rfl, c⟩
    clear hv
    go_wp2_with fail
    refine (pick_any r _ _ _ h2 (by omega) (by omega)).mono ?_
    rintro e w3 ⟨x, rfl, hx, hg3, h3⟩
    have hx := hx (by omega)
    have O3 := Lib.hid (own_rd HO.out hr hg3)
    have G3 := Lib.hid (grow_trans HG.out hg3)
    clear hg3 h2
    by_cases hx0 : x = 0
    · subst hx0
      go_wp2_with fail
      refine (l91Name_any r _ _ h3 (by omega)).mono ?_
      rintro e w4 ⟨s, rfl, hs, hg4, h4⟩
      have O4 := Lib.hid (own_rd O3.out hr hg4)
      have G4 := Lib.hid (grow_trans G3.out hg4)
      have H4 := Lib.hid h4
      clear hg4 h3 h4
      go_wp2_with fail
      go_ret2
      exact ⟨_, k, xs, s, rfl, Hl.out, O4.out, HB, hk, hs, G4.out, H4.out.more (by omega)⟩
    · have e1 : ((x : Int) == 0) = false := beq_eq_false_iff_ne.2 (by omega)
      clear hx0
      have H3 := Lib.hid h3
      clear h3 hx
      go_wp2_with fail
      go_region_law (go_simp; go_at_call 54; refine (pick_any r _ _ _ (rd_drewN H3.out 1) (by omega) (by omega)).mono ?_; rintro e w4 ⟨y, rfl, hy, hg4, h4⟩; have hy := hy (by omega); have O4 := own_rd (show w3.drew.ownsRow w.heap.size 35 4 _ k (xs.flatMap enCells) from O3.out) hr hg4; have G4 := Lib.hid (grow_trans (grow_drewN G3.out 1) hg4); have H4 := Lib.hid h4; obtain ⟨s, Hs, d0⟩ := name_cell Hl.out HB.out O4 (show y < k by omega); have HO4 := Lib.hid O4; clear hg4 h4 O4)
      all_goals
        go_wp2_with fail
        go_ret2
        exact ⟨_, k, xs, s, rfl, Hl.out, HO4.out, HB, hk, Hs.out, G4.out, H4.out.more (by omega)⟩

/-- a drawn store and a name, handed to a statement. -/
def EnsName (w : World) (e : Ending) (w' : World) : Prop :=
  ∃ (A : Option Addr) (n c : Nat) (xs : List En) (s : ByteArray), e = .returned (.tuple #[.slice A n c, .string s]) ∧ Row enCells 4 w' w'.heap.size A n xs ∧ Hid (∀ x ∈ xs, EnB x) ∧ n ≤ 30 ∧ n ≤ c ∧ Hid (A = none → c = 0) ∧ s.size ≤ 60 ∧ Below w.heap.size w w'
end Go.Proofs.YtbcfbkcadceniaaDoor
