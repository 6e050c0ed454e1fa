/- Folds: when they are valid, and how one goes on: the program's and the reference's. -/
import Derived.Test.YtbcfbkcadceniaaDoorPFold
import Derived.Test.YtbcfbkcadceniaaDoorEv
import Derived.Test.YtbcfbkcadceniaaDoorEvs
import Derived.Test.YtbcfbkcadceniaaDoorLive
import Derived.Test.YtbcfbkcadceniaaDoorOnQ
namespace Go.Proofs.YtbcfbkcadceniaaDoor
set_option linter.unusedVariables false
set_option linter.unusedSimpArgs false
open Go.RowKit

def fdCells (f : Fd) : Array Value := #[.int .i64 f.ver, .int .i64 f.sum, .string f.last]
/-- folds that are drawn and made are not great. -/
def FdB (f : Fd) : Prop := -1000000 ≤ f.ver ∧ f.ver ≤ 1000000 ∧ -100000000000 ≤ f.sum ∧ f.sum ≤ 100000000000 ∧ f.last.size ≤ maxLen
theorem foldOk_0 {f : Fd} (h : f.ver = -1) : foldOk f = (decide (f.sum = 0) && decide (f.last = ⟨#[]⟩)) := by unfold foldOk; rw [if_pos h]
theorem foldOk_1 {f : Fd} (h : f.ver ≠ -1) : foldOk f = ((decide (0 ≤ f.ver ∧ f.ver ≤ 23) && decide (0 ≤ f.sum ∧ f.sum ≤ 999 * (f.ver + 1))) && wordOk f.last.data.toList) := by unfold foldOk; rw [if_neg h]
theorem empty_iff {s : ByteArray} : (s.toList == ([] : List UInt8)) = decide (s = ⟨#[]⟩) := by
  have e0 : (⟨#[]⟩ : ByteArray).toList = [] := str_nil rfl
  by_cases h : s = ⟨#[]⟩
  · rw [h, e0]; rfl
  · rw [decide_eq_false h]
    have := toList_ne h
    rwa [e0] at this
set_option maxHeartbeats 4000000 in
theorem foldValid_any (ver sum : Int) (last : ByteArray) (w : World) (hB : FdB ⟨ver, sum, last⟩) :
    Calls Tryd.prog 62 #[.agg #[.int .i64 ver, .int .i64 sum, .string last]] w fun r w' => r = .returned (.bool (foldOk ⟨ver, sum, last⟩)) ∧ Below w.heap.size w w' := by
  obtain ⟨b1, b2, b3, b4, b5⟩ := hB
  simp only at b1 b2 b3 b4 b5
  by_cases hv : ver = -1
  · subst hv
    have Hr := Lib.hid (foldOk_0 (f := ⟨-1, sum, last⟩) rfl)
    by_cases hs : sum = 0
    · subst hs
      by_cases hl : last = ⟨#[]⟩
      · subst hl
        go_enter Tryd.func62, Tryd.ntmps62
        go_wp2_with fail
        go_ret
        exact ⟨ret_bool (by rw [Hr.out]; rfl), (Below.refl _ _).alloc (Nat.le_refl _) _⟩
      · have hl2 : (last.toList == ([] : List UInt8)) = false := by rw [empty_iff]; exact decide_eq_false hl
        have hl3 : ¬ last.toList = [] := by intro e; rw [e] at hl2; cases hl2
        have Hn : Hid (foldOk ⟨-1, 0, last⟩ = false) := Lib.hid (by rw [Hr.out, decide_eq_false hl]; simp)
        clear hl
        go_enter Tryd.func62, Tryd.ntmps62
        go_wp2_with fail
        go_ret
        exact ⟨ret_bool (by rw [Hn.out]), (Below.refl _ _).alloc (Nat.le_refl _) _⟩
    · have hs2 : (sum == 0) = false := beq_eq_false_iff_ne.2 hs
      have Hn : Hid (foldOk ⟨-1, sum, last⟩ = false) := Lib.hid (by rw [Hr.out, decide_eq_false hs]; rfl)
      clear hs
      go_enter Tryd.func62, Tryd.ntmps62
      go_wp2_with fail
      go_ret
      exact ⟨ret_bool (by rw [Hn.out]), (Below.refl _ _).alloc (Nat.le_refl _) _⟩
  · have hv2 : (ver == -1) = false := beq_eq_false_iff_ne.2 hv
    have Hr := Lib.hid (foldOk_1 (f := ⟨ver, sum, last⟩) hv)
    by_cases h1 : 0 ≤ ver ∧ ver ≤ 23
    · obtain ⟨h1, h1'⟩ := h1
      by_cases h2 : 0 ≤ sum
      · by_cases h3 : sum ≤ 999 * (ver + 1)
        · have h3' : sum ≤ (ver + 1) * 999 := by omega
          have Hn : Hid (foldOk ⟨ver, sum, last⟩ = wordOk last.data.toList) := Lib.hid (by rw [Hr.out, decide_eq_true (p := 0 ≤ ver ∧ ver ≤ 23) (by omega), decide_eq_true (p := 0 ≤ sum ∧ sum ≤ 999 * (ver + 1)) (by omega)]; rfl)
          cases hw : wordOk last.data.toList
          all_goals
            go_enter Tryd.func62, Tryd.ntmps62
            go_wp2_with (go_at_call 84; refine (wordValid_any _ _ b5).mono ?_; rw [hw]; rintro e w' ⟨rfl, rfl⟩)
            go_ret
            exact ⟨ret_bool (by rw [Hn.out, hw]), (Below.refl _ _).alloc (Nat.le_refl _) _⟩
        · have h3' : ¬ sum ≤ (ver + 1) * 999 := by omega
          have Hn : Hid (foldOk ⟨ver, sum, last⟩ = false) := Lib.hid (by rw [Hr.out, decide_eq_false (p := 0 ≤ sum ∧ sum ≤ 999 * (ver + 1)) (by omega)]; simp)
          have h3d : decide (sum ≤ (ver + 1) * 999) = false := decide_eq_false h3'
          go_enter Tryd.func62, Tryd.ntmps62
          go_wp2_with fail
          go_ret
          exact ⟨ret_bool (by rw [Hn.out]), (Below.refl _ _).alloc (Nat.le_refl _) _⟩
      · have Hn : Hid (foldOk ⟨ver, sum, last⟩ = false) := Lib.hid (by rw [Hr.out, decide_eq_false (p := 0 ≤ sum ∧ sum ≤ 999 * (ver + 1)) (by omega)]; simp)
        have h2d : decide (sum ≥ 0) = false := decide_eq_false h2
        go_enter Tryd.func62, Tryd.ntmps62
        go_wp2_with fail
        go_ret
        exact ⟨ret_bool (by rw [Hn.out]), (Below.refl _ _).alloc (Nat.le_refl _) _⟩
    · have Hn : Hid (foldOk ⟨ver, sum, last⟩ = false) := Lib.hid (by rw [Hr.out, decide_eq_false h1]; rfl)
      have h1a : ver < 0 ∨ 23 < ver := by omega
      clear h1
      rcases h1a with h1 | h1
      all_goals
        go_enter Tryd.func62, Tryd.ntmps62
        go_wp2_with fail
        go_ret
        exact ⟨ret_bool Hn.out.symm, (Below.refl _ _).alloc (Nat.le_refl _) _⟩
end Go.Proofs.YtbcfbkcadceniaaDoor
