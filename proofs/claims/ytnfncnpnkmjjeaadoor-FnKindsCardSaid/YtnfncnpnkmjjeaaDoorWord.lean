/- The word test of the program and of the reference: 1 to 6 small letters. -/
import Derived.Test.YtnfncnpnkmjjeaaDoorProg
import Derived.Test.YtnfncnpnkmjjeaaDoorBase
import Derived.Test.YtnfncnpnkmjjeaaDoorPlain
namespace Go.Proofs.YtnfncnpnkmjjeaaDoor
set_option linter.unusedVariables false
set_option linter.unusedSimpArgs false
open Go.RowKit

set_option maxHeartbeats 400000 in
theorem wordValid_any (s : ByteArray) (w : World) (hs : s.size ≤ maxLen) :
    Calls Tryd.prog 41 #[.string s] w fun e w' => e = .returned (.bool (wordOk s.data.toList)) ∧ w = w' := by
  unfold maxLen at hs
  by_cases h1 : (s.size : Int) < 1
  · go_enter Tryd.func41, Tryd.ntmps41
    go_wp2
    go_ret
    exact ⟨ret_bool (wordOk_len (by omega)).symm, rfl⟩
  by_cases h2 : (6 : Int) < s.size
  · go_enter Tryd.func41, Tryd.ntmps41
    go_wp2
    go_ret
    exact ⟨ret_bool (wordOk_len (by omega)).symm, rfl⟩
  go_enter Tryd.func41, Tryd.ntmps41
  go_wp2
  go_loop [3] (fun i => ∃ k : Nat, k ≤ s.size ∧ i = .int .i64 k ∧ ∀ j (h : j < s.size), j < k → letter s[j] = true) (fun i => s.size - (intOf i).toNat)
  case atStart => exact ⟨0, Nat.zero_le _, rfl, fun j h hj => absurd hj (by omega)⟩
  case round =>
    obtain ⟨k, hk, rfl, hall⟩ := hrel
    have Hall := Lib.hid hall
    clear hall
    by_cases hlt : k < s.size
    · by_cases hc : letter s[k] = true
      · have hc' := hc
        simp only [letter, decide_eq_true_eq] at hc'
        obtain ⟨c1, c2⟩ := hc'
        go_wp2
        all_goals
          go_round
          case rel => exact ⟨k + 1, by omega, by go_num, fun j h hj => by
            rcases Nat.lt_succ_iff_lt_or_eq.1 hj with h' | rfl
            · exact Hall.out j h h'
            · exact hc⟩
          case measure => simp [intOf]; omega
      · have hc' : ¬ (97 ≤ (s[k].toNat : Int) ∧ (s[k].toNat : Int) ≤ 122) := by simpa [letter] using hc
        go_wp2
        all_goals first
          | (go_ret; exact ⟨ret_bool (wordOk_no k hlt (by simpa using hc)).symm, rfl⟩)
          | (exfalso; omega)
    · go_wp2
      go_ret
      exact ⟨ret_bool (wordOk_yes (by omega) (by omega) (fun j h => Hall.out j h (by omega))).symm, rfl⟩

/-- the reference's range test. -/
theorem l6In_any (n lo hi : Int) (w : World) :
    Calls Tryd.prog 46 #[.int .i64 n, .int .i64 lo, .int .i64 hi] w fun e w' => e = .returned (.bool (decide (lo ≤ n) && decide (n ≤ hi))) ∧ w = w' := by
  by_cases h1 : lo ≤ n <;> by_cases h2 : n ≤ hi
  all_goals
    go_enter Tryd.func46, Tryd.ntmps46
    go_wp2
    go_ret
    exact ⟨ret_bool (by simp [h1, h2]), rfl⟩

set_option maxHeartbeats 400000 in
theorem l1Word_any (s : ByteArray) (w : World) (hs : s.size ≤ maxLen) :
    Calls Tryd.prog 45 #[.string s] w fun e w' => e = .returned (.bool (wordOk s.data.toList)) ∧ w = w' := by
  unfold maxLen at hs
  go_enter Tryd.func45, Tryd.ntmps45
  go_wp2
  go_loop [3] (fun i => ∃ k : Nat, k ≤ s.size ∧ i = .int .i64 k ∧ ∀ j (h : j < s.size), j < k → letter s[j] = true) (fun i => s.size - (intOf i).toNat)
  case atStart => exact ⟨0, Nat.zero_le _, rfl, fun j h hj => absurd hj (by omega)⟩
  case round =>
    obtain ⟨k, hk, rfl, hall⟩ := hrel
    have Hall := Lib.hid hall
    clear hall
    by_cases hlt : k < s.size
    · by_cases hc : letter s[k] = true
      · have hc' := hc
        simp only [letter, decide_eq_true_eq] at hc'
        obtain ⟨c1, c2⟩ := hc'
        go_wp2
        all_goals
          go_round
          case rel => exact ⟨k + 1, by omega, by go_num, fun j h hj => by
            rcases Nat.lt_succ_iff_lt_or_eq.1 hj with h' | rfl
            · exact Hall.out j h h'
            · exact hc⟩
          case measure => simp [intOf]; omega
      · have hc' : ¬ (97 ≤ (s[k].toNat : Int) ∧ (s[k].toNat : Int) ≤ 122) := by simpa [letter] using hc
        go_wp2
        all_goals first
          | (go_ret; exact ⟨ret_bool (wordOk_no k hlt (by simpa using hc)).symm, rfl⟩)
          | (exfalso; omega)
    · go_wp2_with (go_at_call 46; refine (l6In_any _ _ _ _).mono ?_; rintro e w' ⟨rfl, rfl⟩)
      go_ret
      exact ⟨ret_bool (wordOk_all (fun j h => Hall.out j h (by omega))).symm, rfl⟩
end Go.Proofs.YtnfncnpnkmjjeaaDoor
