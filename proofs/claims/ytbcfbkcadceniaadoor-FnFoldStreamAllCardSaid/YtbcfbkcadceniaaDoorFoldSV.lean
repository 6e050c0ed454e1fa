/- When a fold is valid: the reference's. -/
import Derived.Test.YtbcfbkcadceniaaDoorFoldV
import Derived.Test.YtbcfbkcadceniaaDoorStAll
namespace Go.Proofs.YtbcfbkcadceniaaDoor
set_option linter.unusedVariables false
set_option linter.unusedSimpArgs false
open Go.RowKit

set_option maxRecDepth 100000 in
set_option maxHeartbeats 4000000 in
theorem foldValidS_any (ver sum : Int) (last : ByteArray) (w : World) (hB : FdB ⟨ver, sum, last⟩) :
    Calls Tryd.prog 64 #[.agg #[.int .i64 ver, .int .i64 sum, .string last]] w fun r w' => r = .returned (.bool (foldOk ⟨ver, sum, last⟩)) ∧ Below w.heap.size w w' := by
  obtain ⟨b1, b2, b3, b4, b5⟩ := hB
  simp only at b1 b2 b3 b4 b5
  by_cases hv : ver = -1
  · subst hv
    have Hr := Lib.hid (foldOk_0 (f := ⟨-1, sum, last⟩) rfl)
    by_cases hs : sum = 0
    · subst hs
      by_cases hl : last = ⟨#[]⟩
      · subst hl
        go_enter Tryd.func64, Tryd.ntmps64
        go_wp2_with fail
        go_ret
        exact ⟨ret_bool (by rw [Hr.out]; rfl), (Below.refl _ _).alloc (Nat.le_refl _) _⟩
      · have hl2 : (last.toList == ([] : List UInt8)) = false := by rw [empty_iff]; exact decide_eq_false hl
        have hl3 : ¬ last.toList = [] := by intro e; rw [e] at hl2; cases hl2
        have Hn : Hid (foldOk ⟨-1, 0, last⟩ = false) := Lib.hid (by rw [Hr.out, decide_eq_false hl]; simp)
        clear hl
        go_enter Tryd.func64, Tryd.ntmps64
        go_wp2_with fail
        go_ret
        exact ⟨ret_bool (by rw [Hn.out]), (Below.refl _ _).alloc (Nat.le_refl _) _⟩
    · have hs2 : (sum == 0) = false := beq_eq_false_iff_ne.2 hs
      have Hn : Hid (foldOk ⟨-1, sum, last⟩ = false) := Lib.hid (by rw [Hr.out, decide_eq_false hs]; rfl)
      clear hs
      go_enter Tryd.func64, Tryd.ntmps64
      go_wp2_with fail
      go_ret
      exact ⟨ret_bool (by rw [Hn.out]), (Below.refl _ _).alloc (Nat.le_refl _) _⟩
  · have hv2 : (ver == -1) = false := beq_eq_false_iff_ne.2 hv
    have Hr := Lib.hid (foldOk_1 (f := ⟨ver, sum, last⟩) hv)
    have V1 := Lib.hid (fun W => l6In_at ver 0 23 W)
    have V2 := Lib.hid (fun W => l6In_at sum 0 (999 * (ver + 1)) W)
    have V3 := Lib.hid (fun W => l1Word_any last W b5)
    have Hx : Hid (foldOk ⟨ver, sum, last⟩ = ((decide (0 ≤ ver ∧ ver ≤ 23) && decide (0 ≤ sum ∧ sum ≤ 999 * (ver + 1))) && wordOk last.data.toList)) := Lib.hid Hr.out
    rw [Hx.out]
    cases g1 : decide (0 ≤ ver ∧ ver ≤ 23)
    all_goals rw [g1] at V1
    all_goals cases g2 : decide (0 ≤ sum ∧ sum ≤ 999 * (ver + 1))
    all_goals rw [g2] at V2
    all_goals
      clear g1 g2
      go_enter Tryd.func64, Tryd.ntmps64
      go_wp2_with (first
        | (go_at_call 52; first | (with_reducible refine (V1.out _).mono ?_; rintro e w' ⟨rfl, rfl⟩) | (with_reducible refine (V2.out _).mono ?_; rintro e w' ⟨rfl, rfl⟩))
        | (go_at_call 81; refine (V3.out _).mono ?_; rintro e w' ⟨rfl, rfl⟩))
      go_ret
      exact ⟨by simp, (Below.refl _ _).alloc (Nat.le_refl _) _⟩
end Go.Proofs.YtbcfbkcadceniaaDoor
