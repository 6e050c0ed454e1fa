/- When a subscriber is valid: the program's and the reference's. -/
import Derived.Test.YtbcfbkcadceniaaDoorPSub
import Derived.Test.YtbcfbkcadceniaaDoorFoldV
import Derived.Test.YtbcfbkcadceniaaDoorStAll
namespace Go.Proofs.YtbcfbkcadceniaaDoor
set_option linter.unusedVariables false
set_option linter.unusedSimpArgs false
open Go.RowKit

def sbCells (s : Sb) : Array Value := #[.string s.cat, .int .i64 s.at_]
/-- subscribers that are drawn and made are not great. -/
def SbB (s : Sb) : Prop := s.cat.size ≤ maxLen ∧ -1000000 ≤ s.at_ ∧ s.at_ ≤ 1000000
theorem subOk_cat {c : ByteArray} {a : Int} (h : c ≠ ⟨#[]⟩) : subOk ⟨c, a⟩ = (wordOk c.data.toList && decide (0 ≤ a ∧ a ≤ 100)) := by
  unfold subOk; rw [decide_eq_false (p := c = ⟨#[]⟩) h]; rfl
theorem subOk_all {a : Int} : subOk ⟨⟨#[]⟩, a⟩ = decide (0 ≤ a ∧ a ≤ 100) := by
  unfold subOk; rw [decide_eq_true (p := (⟨#[]⟩ : ByteArray) = ⟨#[]⟩) rfl]; rfl
set_option maxHeartbeats 4000000 in
theorem subValid_any (cat : ByteArray) (at_ : Int) (w : World) (hB : SbB ⟨cat, at_⟩) :
    Calls Tryd.prog 69 #[.agg #[.string cat, .int .i64 at_]] w fun r w' => r = .returned (.bool (subOk ⟨cat, at_⟩)) ∧ Below w.heap.size w w' := by
  obtain ⟨b1, b2, b3⟩ := hB
  simp only at b1 b2 b3
  by_cases hl : cat = ⟨#[]⟩
  · subst hl
    rw [subOk_all]
    by_cases h1 : 0 ≤ at_
    · by_cases h2 : at_ ≤ 100
      · have Hn : Hid (decide (0 ≤ at_ ∧ at_ ≤ 100) = true) := Lib.hid (decide_eq_true ⟨h1, h2⟩)
        go_enter Tryd.func69, Tryd.ntmps69
        go_wp2_with fail
        go_ret
        first | exact ⟨ret_bool Hn.out.symm, (Below.refl _ _).alloc (Nat.le_refl _) _⟩ | exact ⟨rfl, (Below.refl _ _).alloc (Nat.le_refl _) _⟩ | exact ⟨ret_bool (by rw [Hn.out]; rfl), (Below.refl _ _).alloc (Nat.le_refl _) _⟩ | exact ⟨ret_bool (by simp), (Below.refl _ _).alloc (Nat.le_refl _) _⟩
      · have h2d : decide (at_ ≤ 100) = false := decide_eq_false h2
        have Hn : Hid (decide (0 ≤ at_ ∧ at_ ≤ 100) = false) := Lib.hid (decide_eq_false (by omega))
        go_enter Tryd.func69, Tryd.ntmps69
        go_wp2_with fail
        go_ret
        first | exact ⟨ret_bool Hn.out.symm, (Below.refl _ _).alloc (Nat.le_refl _) _⟩ | exact ⟨rfl, (Below.refl _ _).alloc (Nat.le_refl _) _⟩ | exact ⟨ret_bool (by rw [Hn.out]; rfl), (Below.refl _ _).alloc (Nat.le_refl _) _⟩ | exact ⟨ret_bool (by simp), (Below.refl _ _).alloc (Nat.le_refl _) _⟩
    · have h1d : decide (at_ ≥ 0) = false := decide_eq_false h1
      have Hn : Hid (decide (0 ≤ at_ ∧ at_ ≤ 100) = false) := Lib.hid (decide_eq_false (by omega))
      go_enter Tryd.func69, Tryd.ntmps69
      go_wp2_with fail
      go_ret
      first | exact ⟨ret_bool Hn.out.symm, (Below.refl _ _).alloc (Nat.le_refl _) _⟩ | exact ⟨rfl, (Below.refl _ _).alloc (Nat.le_refl _) _⟩ | exact ⟨ret_bool (by rw [Hn.out]; rfl), (Below.refl _ _).alloc (Nat.le_refl _) _⟩ | exact ⟨ret_bool (by simp), (Below.refl _ _).alloc (Nat.le_refl _) _⟩
  · rw [subOk_cat hl]
    have hl2 : (cat.toList == ([] : List UInt8)) = false := by rw [empty_iff]; exact decide_eq_false hl
    have hl3 : ¬ cat.toList = [] := by intro e; rw [e] at hl2; cases hl2
    clear hl
    cases hw : wordOk cat.data.toList with
    | false =>
      go_enter Tryd.func69, Tryd.ntmps69
      go_wp2_with (go_at_call 84; refine (wordValid_any _ _ b1).mono ?_; rw [hw]; rintro e w' ⟨rfl, rfl⟩)
      go_ret
      exact ⟨rfl, (Below.refl _ _).alloc (Nat.le_refl _) _⟩
    | true =>
      by_cases h1 : 0 ≤ at_
      · by_cases h2 : at_ ≤ 100
        · have Hn : Hid (decide (0 ≤ at_ ∧ at_ ≤ 100) = true) := Lib.hid (decide_eq_true ⟨h1, h2⟩)
          go_enter Tryd.func69, Tryd.ntmps69
          go_wp2_with (go_at_call 84; refine (wordValid_any _ _ b1).mono ?_; rw [hw]; rintro e w' ⟨rfl, rfl⟩)
          go_ret
          first | exact ⟨ret_bool Hn.out.symm, (Below.refl _ _).alloc (Nat.le_refl _) _⟩ | exact ⟨rfl, (Below.refl _ _).alloc (Nat.le_refl _) _⟩ | exact ⟨ret_bool (by rw [Hn.out]; rfl), (Below.refl _ _).alloc (Nat.le_refl _) _⟩ | exact ⟨ret_bool (by simp), (Below.refl _ _).alloc (Nat.le_refl _) _⟩
        · have h2d : decide (at_ ≤ 100) = false := decide_eq_false h2
          have Hn : Hid (decide (0 ≤ at_ ∧ at_ ≤ 100) = false) := Lib.hid (decide_eq_false (by omega))
          go_enter Tryd.func69, Tryd.ntmps69
          go_wp2_with (go_at_call 84; refine (wordValid_any _ _ b1).mono ?_; rw [hw]; rintro e w' ⟨rfl, rfl⟩)
          go_ret
          first | exact ⟨ret_bool Hn.out.symm, (Below.refl _ _).alloc (Nat.le_refl _) _⟩ | exact ⟨rfl, (Below.refl _ _).alloc (Nat.le_refl _) _⟩ | exact ⟨ret_bool (by rw [Hn.out]; rfl), (Below.refl _ _).alloc (Nat.le_refl _) _⟩ | exact ⟨ret_bool (by simp), (Below.refl _ _).alloc (Nat.le_refl _) _⟩
      · have h1d : decide (at_ ≥ 0) = false := decide_eq_false h1
        have Hn : Hid (decide (0 ≤ at_ ∧ at_ ≤ 100) = false) := Lib.hid (decide_eq_false (by omega))
        go_enter Tryd.func69, Tryd.ntmps69
        go_wp2_with (go_at_call 84; refine (wordValid_any _ _ b1).mono ?_; rw [hw]; rintro e w' ⟨rfl, rfl⟩)
        go_ret
        first | exact ⟨ret_bool Hn.out.symm, (Below.refl _ _).alloc (Nat.le_refl _) _⟩ | exact ⟨rfl, (Below.refl _ _).alloc (Nat.le_refl _) _⟩ | exact ⟨ret_bool (by rw [Hn.out]; rfl), (Below.refl _ _).alloc (Nat.le_refl _) _⟩ | exact ⟨ret_bool (by simp), (Below.refl _ _).alloc (Nat.le_refl _) _⟩
set_option maxHeartbeats 4000000 in
theorem subValidS_any (cat : ByteArray) (at_ : Int) (w : World) (hB : SbB ⟨cat, at_⟩) :
    Calls Tryd.prog 72 #[.agg #[.string cat, .int .i64 at_]] w fun r w' => r = .returned (.bool (subOk ⟨cat, at_⟩)) ∧ Below w.heap.size w w' := by
  obtain ⟨b1, b2, b3⟩ := hB
  simp only at b1 b2 b3
  have V := Lib.hid (fun W => l6In_at at_ 0 100 W)
  by_cases hl : cat = ⟨#[]⟩
  · subst hl
    rw [subOk_all]
    cases hd : decide (0 ≤ at_ ∧ at_ ≤ 100)
    all_goals
      rw [hd] at V
      clear hd
      go_enter Tryd.func72, Tryd.ntmps72
      go_wp2_with (go_at_call 52; with_reducible refine (V.out _).mono ?_; rintro e w' ⟨rfl, rfl⟩)
      go_ret
      exact ⟨rfl, (Below.refl _ _).alloc (Nat.le_refl _) _⟩
  · rw [subOk_cat hl]
    have hl2 : (cat.toList == ([] : List UInt8)) = false := by rw [empty_iff]; exact decide_eq_false hl
    have hl3 : ¬ cat.toList = [] := by intro e; rw [e] at hl2; cases hl2
    clear hl
    cases hd : decide (0 ≤ at_ ∧ at_ ≤ 100)
    all_goals
      rw [hd] at V
      clear hd
      cases hw : wordOk cat.data.toList
      all_goals
        go_enter Tryd.func72, Tryd.ntmps72
        go_wp2_with (first
          | (go_at_call 81; refine (l1Word_any _ _ b1).mono ?_; rw [hw]; rintro e w' ⟨rfl, rfl⟩)
          | (go_at_call 52; with_reducible refine (V.out _).mono ?_; rintro e w' ⟨rfl, rfl⟩))
        go_ret
        exact ⟨rfl, (Below.refl _ _).alloc (Nat.le_refl _) _⟩
end Go.Proofs.YtbcfbkcadceniaaDoor
