/- The reference's names: l1Number, l2At, NameOf, NameParts, NameValid. -/
import Derived.Test.YtnfncnpnkmjjeaaDoorNumber
import Derived.Test.YtnfncnpnkmjjeaaDoorDec
namespace Go.Proofs.YtnfncnpnkmjjeaaDoor
set_option linter.unusedVariables false
set_option linter.unusedSimpArgs false
open Go.RowKit

theorem num5_bad {s : ByteArray} (k : Nat) (h : k < s.size) (hk : digit s[k] = false) : num5 s.data.toList = -1 := by
  unfold num5
  rw [if_neg]
  rintro ⟨_, _, h'⟩
  rw [List.all_eq_true] at h'
  have := h' s[k] (List.mem_iff_getElem.2 ⟨k, by simpa using h, rfl⟩)
  exact Bool.false_ne_true (hk.symm.trans this)
theorem num5_len {s : ByteArray} (h : ¬ (1 ≤ (s.size : Int) ∧ (s.size : Int) ≤ 5)) : num5 s.data.toList = -1 := by
  unfold num5
  rw [if_neg]
  rintro ⟨h1, h2, _⟩
  rw [str_len] at h1 h2
  omega
theorem val_bound (l : List UInt8) (h : l.all digit = true) : val l + 1 ≤ 10 ^ l.length := by
  suffices H : ∀ k : Nat, ∀ l : List UInt8, l.length = k → l.all digit = true → val l + 1 ≤ 10 ^ k from H _ l rfl h
  intro k
  induction k with
  | zero => intro l hl _; rw [List.eq_nil_of_length_eq_zero hl]; exact Nat.le_refl _
  | succ k ih =>
    intro l hl hd
    rcases List.eq_nil_or_concat l with rfl | ⟨l', c, rfl⟩
    · simp at hl
    · rw [List.concat_eq_append] at hl hd ⊢
      rw [List.all_append, Bool.and_eq_true] at hd
      obtain ⟨j, hj, hc, hcn⟩ := digit_is (by simpa using hd.2 : digit c = true)
      have := ih l' (by simpa using hl) hd.1
      rw [val_snoc, hcn, Nat.pow_succ]
      omega

set_option maxHeartbeats 1000000 in
theorem l1Number_any (s : ByteArray) (w : World) (hs : s.size ≤ maxLen) :
    Calls Tryd.prog 59 #[.string s] w fun e w' => e = .returned (.int .i64 (num5 s.data.toList)) ∧ w = w' := by
  unfold maxLen at hs
  by_cases h : 1 ≤ (s.size : Int) ∧ (s.size : Int) ≤ 5
  · obtain ⟨h1, h2⟩ := h
    have d1 : decide (1 ≤ (s.size : Int)) = true := decide_eq_true h1
    have d2 : decide ((s.size : Int) ≤ 5) = true := decide_eq_true h2
    go_enter Tryd.func59, Tryd.ntmps59
    go_wp2_with (go_at_call 46; refine (l6In_any _ _ _ _).mono ?_; rintro e w' ⟨rfl, rfl⟩)
    go_loop [3, 4] (fun n i => ∃ k v : Nat, k ≤ s.size ∧ i = .int .i64 k ∧ n = .int .i64 v ∧ v ≤ 100000 ∧ Hid (v = val (s.data.toList.take k) ∧ ∀ j (h : j < s.size), j < k → digit s[j] = true)) (fun _ i => s.size - (intOf i).toNat)
    case atStart => exact ⟨0, 0, Nat.zero_le _, rfl, rfl, Nat.zero_le _, rfl, fun j h hj => absurd hj (by omega)⟩
    case round =>
      obtain ⟨k, v, hk, rfl, rfl, hv, Hall⟩ := hrel
      by_cases hlt : k < s.size
      · by_cases hc : digit s[k] = true
        · have hc' := hc
          simp only [digit, decide_eq_true_eq] at hc'
          obtain ⟨c1, c2⟩ := hc'
          have Hval := Lib.hid (show val (s.data.toList.take (k + 1)) = v * 10 + (s[k].toNat - 48) by rw [take_snoc s k hlt, val_snoc, Hall.out.1])
          have Hd : Hid ((s.data.toList.take (k + 1)).all digit = true) := by
            show (s.data.toList.take (k + 1)).all digit = true
            have h1 : (s.data.toList.take k).all digit = true := by
              rw [List.all_eq_true]
              intro c hc
              obtain ⟨j, hj, rfl⟩ := List.mem_iff_getElem.1 hc
              rw [List.getElem_take]
              exact Hall.out.2 j (by rw [List.length_take, str_len] at hj; omega) (by rw [List.length_take] at hj; omega)
            rw [take_snoc s k hlt, List.all_append, List.all_cons, hc, h1]
            rfl
          have hb : v * 10 + (s[k].toNat - 48) ≤ 100000 := by
            have h1 := val_bound _ Hd.out
            rw [Hval.out] at h1
            have h2 : (s.data.toList.take (k + 1)).length ≤ 5 := by rw [List.length_take, str_len]; omega
            have h3 := Nat.pow_le_pow_right (show 0 < 10 by omega) h2
            omega
          go_wp2_with fail
          go_round
          case rel => exact ⟨k + 1, v * 10 + (s[k].toNat - 48), by omega, by go_num, by go_num, by omega, Hval.out.symm, fun j h hj => by
            rcases Nat.lt_succ_iff_lt_or_eq.1 hj with h' | rfl
            · exact Hall.out.2 j h h'
            · exact hc⟩
          case measure => simp [intOf]; omega
        · have hc' : ¬ (48 ≤ (s[k].toNat : Int) ∧ (s[k].toNat : Int) ≤ 57) := by simpa [digit] using hc
          go_wp2_with fail
          all_goals first
            | (go_ret; exact ⟨ret_int (num5_bad k hlt (by simpa using hc)).symm, rfl⟩)
            | (exfalso; omega)
      · have Hval := Lib.hid (show num5 s.data.toList = v by
          have e : s.data.toList.take k = s.data.toList := List.take_of_length_le (by rw [str_len]; omega)
          have h1 := Hall.out.1
          rw [e] at h1
          unfold num5
          have h2 : s.data.toList.all digit = true := by
            rw [List.all_eq_true]
            intro c hc
            obtain ⟨j, hj, rfl⟩ := List.mem_iff_getElem.1 hc
            exact Hall.out.2 j (by simpa using hj) (by rw [str_len] at hj; omega)
          rw [if_pos ⟨by rw [str_len]; omega, by rw [str_len]; omega, h2⟩, h1])
        go_wp2_with fail
        go_ret
        exact ⟨ret_int Hval.out.symm, rfl⟩
  · have Hn := Lib.hid (num5_len h)
    have hb : (decide (1 ≤ (s.size : Int)) && decide ((s.size : Int) ≤ 5)) = false := by
      rw [Bool.and_eq_false_iff, decide_eq_false_iff_not, decide_eq_false_iff_not]; omega
    go_enter Tryd.func59, Tryd.ntmps59
    go_wp2_with (go_at_call 46; refine (l6In_any _ _ _ _).mono ?_; rintro e w' ⟨rfl, rfl⟩)
    go_ret
    exact ⟨ret_int Hn.out.symm, rfl⟩

set_option maxHeartbeats 1000000 in
theorem l2At_any (s : ByteArray) (w : World) (hs : s.size ≤ maxLen) :
    Calls Tryd.prog 58 #[.string s] w fun e w' => e = .returned (.int .i64 (Lib.indexByte s.data.toList 45)) ∧ w = w' := by
  unfold maxLen at hs
  go_enter Tryd.func58, Tryd.ntmps58
  go_wp2_with fail
  go_loop [3] (fun i => ∃ k : Nat, k ≤ s.size ∧ i = .int .i64 k ∧ Hid (∀ j, j < k → s.data.toList[j]? ≠ some 45)) (fun i => s.size - (intOf i).toNat)
  case atStart => exact ⟨0, Nat.zero_le _, rfl, fun j hj => absurd hj (by omega)⟩
  case round =>
    obtain ⟨k, hk, rfl, Hall⟩ := hrel
    by_cases hlt : k < s.size
    · have hget : s.data.toList[k]? = some s[k] := by rw [List.getElem?_eq_getElem (by simpa using hlt)]; rfl
      have Hget := Lib.hid hget
      clear hget
      by_cases hc : s[k].toNat = 45
      · have hb : ((s[k].toNat : Int) == 45) = true := by rw [hc]; rfl
        have Hn := Lib.hid (indexByte_at (c := 45) (show s.data.toList[k]? = some 45 by rw [Hget.out, show s[k] = 45 from UInt8.toNat_inj.1 hc]) Hall.out)
        clear hc
        go_wp2_with fail
        go_ret
        exact ⟨ret_int Hn.out.symm, rfl⟩
      · have hb : ((s[k].toNat : Int) == 45) = false := beq_eq_false_iff_ne.2 (by omega)
        have Hn := Lib.hid (show ∀ j, j < k + 1 → s.data.toList[j]? ≠ some 45 from fun j hj => by
          rcases Nat.lt_succ_iff_lt_or_eq.1 hj with h' | rfl
          · exact Hall.out j h'
          · rw [Hget.out]; intro e; injection e with e; exact hc (by rw [e]; rfl))
        clear hc
        go_wp2_with fail
        go_round
        case rel => exact ⟨k + 1, by omega, by go_num, Hn.out⟩
        case measure => simp [intOf]; omega
    · have Hn := Lib.hid (indexByte_no (l := s.data.toList) (c := 45) (fun j hj => Hall.out j (by rw [str_len] at hj; omega)))
      go_wp2_with fail
      go_ret
      exact ⟨ret_int Hn.out.symm, rfl⟩

theorem nameOf_bytes (c : ByteArray) (n : Nat) : c ++ ⟨#[45]⟩ ++ ⟨(Lib.decDigits n).toArray⟩ = (⟨(nameOf c.data.toList n).toArray⟩ : ByteArray) := by
  apply ByteArray.ext
  apply Array.ext'
  simp [nameOf]
theorem wordOk_size {l : List UInt8} (h : wordOk l = true) : 1 ≤ l.length ∧ l.length ≤ 6 := by
  unfold wordOk at h
  simp only [Bool.and_eq_true, decide_eq_true_eq] at h
  exact h.1

set_option maxHeartbeats 1000000 in
theorem nameOfS_any (c : ByteArray) (n : Int) (w : World) (hs : c.size ≤ maxLen) :
    Calls Tryd.prog 52 #[.string c, .int .i64 n] w fun e w' => e = .returned (.string ⟨(nameOfS c.data.toList n).toArray⟩) ∧ Below w.heap.size w w' := by
  have hs' := hs
  unfold maxLen at hs
  by_cases h : wordOk c.data.toList = true
  · by_cases h0 : 0 ≤ n ∧ n ≤ 999
    · obtain ⟨h0, h1⟩ := h0
      have hn : nameOfS c.data.toList n = nameOf c.data.toList n.toNat := by unfold nameOfS; rw [if_pos ⟨h, h0, h1⟩]
      have Hn := Lib.hid hn
      clear hn
      have hsz := (wordOk_size h).2
      rw [str_len] at hsz
      have hl3 : (Lib.decDigits n.toNat).length ≤ 3 := dec_len3 (by omega)
      go_enter Tryd.func52, Tryd.ntmps52
      go_wp2_with (first
        | (go_at_call 45; refine (l1Word_any _ _ hs').mono ?_; rintro e w' ⟨rfl, rfl⟩)
        | (go_at_call 46; refine (l6In_any _ _ _ _).mono ?_; rintro e w' ⟨rfl, rfl⟩)
        | (go_at_call 64; refine (l6Dec_any n.toNat _ _ (by omega) (by omega)).mono ?_; rintro e w' ⟨rfl, hb⟩))
      go_ret
      refine ⟨?_, hb⟩
      rw [Hn.out, ← nameOf_bytes]
      rfl
    · have hn : nameOfS c.data.toList n = [] := by unfold nameOfS; rw [if_neg (fun hh => h0 hh.2)]
      have Hn := Lib.hid hn
      clear hn
      have hb : (decide (0 ≤ n) && decide (n ≤ 999)) = false := by
        rw [Bool.and_eq_false_iff, decide_eq_false_iff_not, decide_eq_false_iff_not]; omega
      go_enter Tryd.func52, Tryd.ntmps52
      go_wp2_with (first
        | (go_at_call 45; refine (l1Word_any _ _ hs').mono ?_; rintro e w' ⟨rfl, rfl⟩)
        | (go_at_call 46; refine (l6In_any _ _ _ _).mono ?_; rintro e w' ⟨rfl, rfl⟩))
      go_ret
      exact ⟨by rw [Hn.out]; rfl, Below.refl _ _⟩
  · have h : wordOk c.data.toList = false := by simpa using h
    have hn : nameOfS c.data.toList n = [] := by unfold nameOfS; rw [if_neg (fun hh => by rw [h] at hh; exact Bool.false_ne_true hh.1)]
    have Hn := Lib.hid hn
    clear hn
    go_enter Tryd.func52, Tryd.ntmps52
    go_wp2_with (first
      | (go_at_call 45; refine (l1Word_any _ _ hs').mono ?_; rintro e w' ⟨rfl, rfl⟩))
    go_ret
    exact ⟨by rw [Hn.out]; rfl, Below.refl _ _⟩
end Go.Proofs.YtnfncnpnkmjjeaaDoor
