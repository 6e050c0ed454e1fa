/- Followers that take entries and are mended, plainly. -/
import Derived.Test.YtdmffpjljaolcaaDoorPFol
import Derived.Test.YtdmffpjljaolcaaDoorPRead
namespace Go.Proofs.YtdmffpjljaolcaaDoor
set_option linter.unusedVariables false
set_option linter.unusedSimpArgs false

theorem storeOk_take {l : List En} (h : storeOk l = true) (k : Nat) : storeOk (l.take k) = true := by
  obtain ⟨h1, h2, h3⟩ := storeOk_iff.1 h
  exact storeOk_iff.2 ⟨by rw [List.length_take]; omega, fun x hx => h2 x (List.mem_of_mem_take hx), h3.sublist (List.take_sublist _ _)⟩
theorem commonL_of_take (a : List En) (k : Nat) (hk : k ≤ a.length) : commonL a (a.take k) = k :=
  commonL_at (fun j hj => (nx_take hj).symm) hk (by rw [List.length_take]; omega) (.inr (.inl (by rw [List.length_take]; omega)))
/-- a follower is the leader's beginning. -/
theorem follow_take {a b : List En} (h : b.length ≤ commonL a b) : b = a.take b.length := by
  obtain ⟨h1, h2, _, _⟩ := commonL_is a b
  have e : commonL a b = b.length := by omega
  have := commonL_take a b
  rw [e, List.take_length] at this
  exact this.symm
theorem followLeft_of_take {a : List En} (h : storeOk a = true) (k : Nat) (hk : k ≤ a.length) : followLeft a (a.take k) = (a.length : Int) - k := by
  rw [followLeft_yes h (storeOk_take h k) (by rw [commonL_of_take a k hk, List.length_take]; omega), List.length_take, Nat.min_eq_left hk]
theorem followLeft_pos {a b : List En} (h : 0 ≤ followLeft a b) : storeOk a = true ∧ storeOk b = true ∧ b.length ≤ commonL a b ∧ followLeft a b = (a.length : Int) - b.length ∧ b = a.take b.length ∧ b.length ≤ a.length := by
  cases h1 : (storeOk a && storeOk b) && decide (b.length ≤ commonL a b) with
  | false => rw [followLeft_no h1] at h; omega
  | true =>
    rw [Bool.and_eq_true, Bool.and_eq_true, decide_eq_true_eq] at h1
    have := (commonL_is a b).1
    exact ⟨h1.1.1, h1.1.2, h1.2, followLeft_yes h1.1.1 h1.1.2 h1.2, follow_take h1.2, by omega⟩
theorem followLeft_neg {a b : List En} (h : ((storeOk a && storeOk b) && decide (b.length ≤ commonL a b)) = false) : followLeft a b < 0 := by rw [followLeft_no h]; omega

theorem followRun_no {a b : List En} {m : Int} (h : (((storeOk a && storeOk b) && decide (b.length ≤ commonL a b)) && decide (0 ≤ m ∧ m ≤ 99)) = false) : followRun a b m = ([], false) := by unfold followRun; rw [h]; rfl
theorem followRun_yes {a b : List En} {m : Int} (h1 : storeOk a = true) (h2 : storeOk b = true) (h3 : b.length ≤ commonL a b) (h4 : 0 ≤ m ∧ m ≤ 99) : followRun a b m = (a.take (b.length + m.toNat), true) := by unfold followRun; rw [h1, h2, decide_eq_true h3, decide_eq_true h4]; rfl
theorem followRun_left_no {a b : List En} {m : Int} (h : followLeft a b < 0) : followRun a b m = ([], false) := by
  refine followRun_no ?_
  cases h1 : (storeOk a && storeOk b) && decide (b.length ≤ commonL a b) with
  | false => rfl
  | true =>
    rw [Bool.and_eq_true, Bool.and_eq_true, decide_eq_true_eq] at h1
    have := (commonL_is a b).1
    rw [followLeft_yes h1.1.1 h1.1.2 h1.2] at h
    omega
theorem followRun_many_no {a b : List En} {m : Int} (h : ¬ (0 ≤ m ∧ m ≤ 99)) : followRun a b m = ([], false) := followRun_no (by rw [decide_eq_false h]; simp)
/-- what the program hands on: the follower and a piece of the leader behind it. -/
theorem followRun_piece {a b : List En} {m : Nat} (h : 0 ≤ followLeft a b) (hm : m ≤ 99) : followRun a b m = (b ++ pieceL a b.length m, true) := by
  obtain ⟨h1, h2, h3, _, h5, h6⟩ := followLeft_pos h
  rw [followRun_yes h1 h2 h3 (by omega), Int.toNat_natCast]
  congr 1
  unfold pieceL
  conv => rhs; lhs; rw [h5]
  rw [List.take_add]
theorem followRun_len (a b : List En) (m : Int) : (followRun a b m).1.length ≤ a.length := by
  unfold followRun
  split
  · rw [List.length_take]; omega
  · exact Nat.zero_le _
theorem followRun_is {a b : List En} {m : Int} (h : (followRun a b m).2 = true) : storeOk a = true ∧ storeOk b = true ∧ b.length ≤ commonL a b ∧ 0 ≤ m ∧ m ≤ 99 ∧ followRun a b m = (a.take (b.length + m.toNat), true) ∧ b = a.take b.length ∧ b.length ≤ a.length := by
  cases h1 : ((storeOk a && storeOk b) && decide (b.length ≤ commonL a b)) && decide (0 ≤ m ∧ m ≤ 99) with
  | false => rw [followRun_no h1] at h; cases h
  | true =>
    rw [Bool.and_eq_true, Bool.and_eq_true, Bool.and_eq_true, decide_eq_true_eq, decide_eq_true_eq] at h1
    have := (commonL_is a b).1
    exact ⟨h1.1.1.1, h1.1.1.2, h1.1.2, h1.2.1, h1.2.2, followRun_yes h1.1.1.1 h1.1.1.2 h1.1.2 h1.2, follow_take h1.1.2, by omega⟩
/-- following from what was followed. -/
theorem followRun_on {a : List En} (h : storeOk a = true) (q : Nat) (hq : q ≤ a.length) (m : Nat) (hm : m ≤ 99) : followRun a (a.take q) m = (a.take (q + m), true) := by
  rw [followRun_yes h (storeOk_take h q) (by rw [commonL_of_take a q hq, List.length_take]; omega) (by omega), List.length_take, Nat.min_eq_left hq, Int.toNat_natCast]
theorem followRun_all {a b : List En} (h : 0 ≤ followLeft a b) : followRun a b 99 = (a, true) := by
  obtain ⟨h1, h2, h3, _⟩ := followLeft_pos h
  rw [followRun_yes h1 h2 h3 (by omega), List.take_of_length_le]
  have := storeOk_24 h1
  show a.length ≤ b.length + 99
  omega
theorem followMend_no {a b : List En} (h : (storeOk a && storeOk b) = false) : followMend a b = ([], false) := by unfold followMend; rw [h]; rfl
theorem followMend_yes {a b : List En} (h1 : storeOk a = true) (h2 : storeOk b = true) : followMend a b = (b.take (commonL a b), true) := by unfold followMend; rw [h1, h2]; rfl
theorem followMend_len (a b : List En) : (followMend a b).1.length ≤ b.length := by
  unfold followMend
  split
  · rw [List.length_take]; omega
  · exact Nat.zero_le _
theorem followMend_is {a b : List En} (h : (followMend a b).2 = true) : storeOk a = true ∧ storeOk b = true ∧ followMend a b = (a.take (commonL a b), true) ∧ followMend a b = (b.take (commonL a b), true) ∧ commonL a b ≤ a.length ∧ commonL a b ≤ b.length := by
  cases h1 : storeOk a && storeOk b with
  | false => rw [followMend_no h1] at h; cases h
  | true =>
    rw [Bool.and_eq_true] at h1
    obtain ⟨q1, q2, _, _⟩ := commonL_is a b
    exact ⟨h1.1, h1.2, by rw [commonL_take]; exact followMend_yes h1.1 h1.2, followMend_yes h1.1 h1.2, q1, q2⟩
/-- how much is left of a mended follower. -/
theorem followMend_apart {a b : List En} (h1 : storeOk a = true) (h2 : storeOk b = true) : (0 ≤ followApart a b → followApart a b = (commonL a b : Int)) ∧ (followApart a b < 0 → commonL a b = min a.length b.length) := by
  refine ⟨fun h => (followApart_pos h).2.2.1, fun h => ?_⟩
  obtain ⟨q1, q2, _, _⟩ := commonL_is a b
  by_cases e : commonL a b = a.length ∨ commonL a b = b.length
  · rcases e with e | e <;> omega
  · rw [followApart_mid h1 h2 (fun x => e (.inl x)) (fun x => e (.inr x))] at h; omega
end Go.Proofs.YtdmffpjljaolcaaDoor
