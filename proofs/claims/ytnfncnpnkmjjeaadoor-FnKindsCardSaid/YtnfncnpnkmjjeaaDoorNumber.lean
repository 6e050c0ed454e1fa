/- Numbers in digits: the program's numberFrom, the reference's l1Number. -/
import Derived.Test.YtnfncnpnkmjjeaaDoorWord
namespace Go.Proofs.YtnfncnpnkmjjeaaDoor
set_option linter.unusedVariables false
set_option linter.unusedSimpArgs false
open Go.RowKit

def numVal (l : List UInt8) (most : Nat) : Nat := (numFrom l most).getD 0
theorem take_snoc (s : ByteArray) (k : Nat) (h : k < s.size) : s.data.toList.take (k + 1) = s.data.toList.take k ++ [s[k]] := by
  rw [List.take_succ_eq_append_getElem (by simpa using h)]; rfl

set_option maxHeartbeats 1000000 in
theorem numberFrom_any (s : ByteArray) (most : Nat) (w : World) (hs : s.size ≤ maxLen) (hm : most ≤ 1000000) :
    Calls Tryd.prog 61 #[.string s, .int .i64 most] w fun e w' => e = .returned (.tuple #[.int .i64 (numVal s.data.toList most), .bool (numFrom s.data.toList most).isSome]) ∧ w = w' := by
  unfold maxLen at hs
  by_cases h0 : s.size = 0
  · have he := str_nil h0
    have hf : numFrom s.data.toList most = none := by
      rw [ByteArray.toList_eq] at he; rw [he]; rfl
    have Hf := Lib.hid hf
    clear hf
    go_enter Tryd.func61, Tryd.ntmps61
    go_wp2_with fail
    go_ret2
    exact ⟨by rw [numVal, Hf.out]; rfl, rfl⟩
  have he := str_cons h0
  have he' := str_ne h0
  have hp : 0 < s.size := by omega
  by_cases h1 : 1 < s.size ∧ (s[0]'hp).toNat = 48
  · obtain ⟨h1, h2⟩ := h1
    have hf : numFrom s.data.toList most = none := numFrom_lead h1 h2
    have Hf := Lib.hid hf
    clear hf
    have h2' : (((s[0]'hp).toNat : Int) == 48) = true := by rw [h2]; rfl
    go_enter Tryd.func61, Tryd.ntmps61
    go_wp2_with fail
    go_ret2
    exact ⟨by rw [numVal, Hf.out]; rfl, rfl⟩
  have Hlead := Lib.hid (show s.size ≤ 1 ∨ (s[0]'hp).toNat ≠ 48 by omega)
  by_cases hz : 1 < s.size
  all_goals
    try (have hb : (((s[0]'hp).toNat : Int) == 48) = false := beq_eq_false_iff_ne.2 (by omega))
    clear h1
    go_enter Tryd.func61, Tryd.ntmps61
    go_wp2_with fail
    go_loop [6, 7] (fun n i => ∃ k v : Nat, k ≤ s.size ∧ i = .int .i64 k ∧ n = .int .i64 v ∧ v ≤ most ∧ Hid (v = val (s.data.toList.take k) ∧ ∀ j (h : j < s.size), j < k → digit s[j] = true)) (fun _ i => s.size - (intOf i).toNat)
    case atStart => exact ⟨0, 0, Nat.zero_le _, rfl, rfl, Nat.zero_le _, rfl, fun j h hj => absurd hj (by omega)⟩
    case round =>
      obtain ⟨k, v, hk, rfl, rfl, hv, Hall⟩ := hrel
      by_cases hlt : k < s.size
      · by_cases hc : digit s[k] = true
        · have hc' := hc
          simp only [digit, decide_eq_true_eq] at hc'
          obtain ⟨c1, c2⟩ := hc'
          have hval : val (s.data.toList.take (k + 1)) = v * 10 + (s[k].toNat - 48) := by rw [take_snoc s k hlt, val_snoc, Hall.out.1]
          have Hval := Lib.hid hval
          clear hval
          by_cases hbig : (most : Int) < (v : Int) * 10 + ((s[k].toNat : Int) - 48)
          · go_wp2_with fail
            go_ret2
            exact ⟨by rw [numVal, numFrom_big (k + 1) (by rw [Hval.out]; omega)]; rfl, rfl⟩
          · go_wp2_with fail
            go_round
            case rel => exact ⟨k + 1, v * 10 + (s[k].toNat - 48), by omega, by go_num, by go_num, by omega, Hval.out.symm, fun j h hj => by
              rcases Nat.lt_succ_iff_lt_or_eq.1 hj with h' | rfl
              · exact Hall.out.2 j h h'
              · exact hc⟩
            case measure => simp [intOf]; omega
        · have hc' : ¬ (48 ≤ (s[k].toNat : Int) ∧ (s[k].toNat : Int) ≤ 57) := by simpa [digit] using hc
          go_wp2_with fail
          all_goals first
            | (go_ret2; exact ⟨by rw [numVal, numFrom_bad k hlt (by simpa using hc)]; rfl, rfl⟩)
            | (exfalso; omega)
      · have hval : numFrom s.data.toList most = some v := by
          have e : s.data.toList.take k = s.data.toList := List.take_of_length_le (by rw [str_len]; omega)
          have h1 := Hall.out.1
          rw [e] at h1
          rw [h1]
          refine numFrom_good hp Hlead.out ?_ (by omega)
          rw [List.all_eq_true]
          intro c hc
          obtain ⟨j, hj, rfl⟩ := List.mem_iff_getElem.1 hc
          exact Hall.out.2 j (by simpa using hj) (by rw [str_len] at hj; omega)
        have Hval := Lib.hid hval
        clear hval
        go_wp2_with fail
        go_ret2
        exact ⟨by rw [numVal, Hval.out]; rfl, rfl⟩
end Go.Proofs.YtnfncnpnkmjjeaaDoor
