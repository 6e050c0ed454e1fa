/- Leaders and followers, plainly: how far two stores are the same. -/
import Derived.Test.YtdmffpjljaolcaaDoorPStore
namespace Go.Proofs.YtdmffpjljaolcaaDoor
set_option linter.unusedVariables false
set_option linter.unusedSimpArgs false

/-- how many entries two lists have in common at their beginnings. -/
def commonL : List En → List En → Nat
  | x :: xs, y :: ys => if x = y then commonL xs ys + 1 else 0
  | _, _ => 0
theorem commonL_at {a b : List En} {k : Nat} (h : ∀ j, j < k → nx a j = nx b j) (h1 : k ≤ a.length) (h2 : k ≤ b.length) (he : k = a.length ∨ k = b.length ∨ nx a k ≠ nx b k) : commonL a b = k := by
  induction a generalizing b k with
  | nil => simp at h1; subst h1; cases b <;> rfl
  | cons x xs ih =>
    cases b with
    | nil => simp at h2; subst h2; rfl
    | cons y ys =>
      unfold commonL
      cases k with
      | zero =>
        rw [if_neg]
        rcases he with he | he | he
        · simp at he
        · simp at he
        · exact he
      | succ k =>
        rw [if_pos (show x = y from h 0 (by omega)), ih (b := ys) (k := k) (fun j hj => h (j + 1) (by omega)) (by simpa using h1) (by simpa using h2) ?_]
        rcases he with he | he | he
        · exact .inl (by simpa using he)
        · exact .inr (.inl (by simpa using he))
        · exact .inr (.inr he)
theorem commonL_is (a b : List En) : commonL a b ≤ a.length ∧ commonL a b ≤ b.length ∧ (∀ j, j < commonL a b → nx a j = nx b j) ∧ (commonL a b < a.length → commonL a b < b.length → nx a (commonL a b) ≠ nx b (commonL a b)) := by
  induction a generalizing b with
  | nil => cases b <;> exact ⟨Nat.zero_le _, Nat.zero_le _, fun j hj => absurd hj (Nat.not_lt_zero _), fun h => absurd h (Nat.not_lt_zero _)⟩
  | cons x xs ih =>
    cases b with
    | nil => exact ⟨Nat.zero_le _, Nat.zero_le _, fun j hj => absurd hj (Nat.not_lt_zero _), fun _ h => absurd h (Nat.not_lt_zero _)⟩
    | cons y ys =>
      unfold commonL
      by_cases hxy : x = y
      · rw [if_pos hxy]
        obtain ⟨h1, h2, h3, h4⟩ := ih ys
        refine ⟨by simpa using h1, by simpa using h2, fun j hj => ?_, fun a b => h4 (by simpa using a) (by simpa using b)⟩
        cases j with
        | zero => exact hxy
        | succ j => exact h3 j (by omega)
      · rw [if_neg hxy]
        exact ⟨Nat.zero_le _, Nat.zero_le _, fun j hj => absurd hj (Nat.not_lt_zero _), fun _ _ => hxy⟩
theorem commonL_symm (a b : List En) : commonL a b = commonL b a := by
  obtain ⟨h1, h2, h3, h4⟩ := commonL_is a b
  refine (commonL_at (fun j hj => (h3 j hj).symm) h2 h1 ?_).symm
  by_cases e1 : commonL a b < a.length
  · by_cases e2 : commonL a b < b.length
    · exact .inr (.inr fun e => h4 e1 e2 e.symm)
    · exact .inl (by omega)
  · exact .inr (.inl (by omega))
theorem commonL_self (a : List En) : commonL a a = a.length := commonL_at (fun _ _ => rfl) (Nat.le_refl _) (Nat.le_refl _) (.inl rfl)
theorem commonL_take (a b : List En) : a.take (commonL a b) = b.take (commonL a b) := by
  obtain ⟨h1, h2, h3, _⟩ := commonL_is a b
  apply List.ext_getElem
  · rw [List.length_take, List.length_take]; omega
  · intro j h4 h5
    rw [List.length_take] at h4 h5
    rw [List.getElem_take, List.getElem_take, ← nx_eq (by omega), ← nx_eq (by omega)]
    exact h3 j (by omega)
def followApart (a b : List En) : Int := if storeOk a && storeOk b then (if commonL a b = a.length ∨ commonL a b = b.length then -1 else (commonL a b : Int)) else -2
theorem followApart_no {a b : List En} (h : (storeOk a && storeOk b) = false) : followApart a b = -2 := by unfold followApart; rw [h]; rfl
theorem followApart_end {a b : List En} (h : storeOk a = true) (h' : storeOk b = true) (he : commonL a b = a.length ∨ commonL a b = b.length) : followApart a b = -1 := by unfold followApart; rw [h, h', if_pos (show (true && true) = true from rfl), if_pos he]
theorem followApart_mid {a b : List En} (h : storeOk a = true) (h' : storeOk b = true) (h1 : commonL a b ≠ a.length) (h2 : commonL a b ≠ b.length) : followApart a b = (commonL a b : Int) := by unfold followApart; rw [h, h', if_pos (show (true && true) = true from rfl), if_neg (fun e => e.elim h1 h2)]
theorem followApart_symm (a b : List En) : followApart b a = followApart a b := by
  unfold followApart
  rw [commonL_symm b a, Bool.and_comm]
  congr 1
  by_cases h : commonL a b = a.length ∨ commonL a b = b.length
  · rw [if_pos h, if_pos h.symm]
  · rw [if_neg h, if_neg (fun e => h e.symm)]
theorem followApart_self (a : List En) : followApart a a = if storeOk a then -1 else -2 := by
  cases h : storeOk a with
  | false => rw [followApart_no (by rw [h]; rfl)]; rfl
  | true => rw [followApart_end h h (.inl (commonL_self a))]; rfl
def followLeft (a b : List En) : Int := if (storeOk a && storeOk b) && decide (b.length ≤ commonL a b) then (a.length : Int) - b.length else -1
theorem followLeft_no {a b : List En} (h : ((storeOk a && storeOk b) && decide (b.length ≤ commonL a b)) = false) : followLeft a b = -1 := by unfold followLeft; rw [h]; rfl
theorem followLeft_yes {a b : List En} (h1 : storeOk a = true) (h2 : storeOk b = true) (h3 : b.length ≤ commonL a b) : followLeft a b = (a.length : Int) - b.length := by unfold followLeft; rw [h1, h2, decide_eq_true h3]; rfl
/-- two stores that are apart: where. -/
theorem followApart_pos {a b : List En} (h : 0 ≤ followApart a b) : storeOk a = true ∧ storeOk b = true ∧ followApart a b = (commonL a b : Int) ∧ commonL a b < a.length ∧ commonL a b < b.length := by
  cases h1 : storeOk a with
  | false => rw [followApart_no (by rw [h1]; rfl)] at h; omega
  | true =>
    cases h2 : storeOk b with
    | false => rw [followApart_no (by rw [h2]; simp)] at h; omega
    | true =>
      by_cases e : commonL a b = a.length ∨ commonL a b = b.length
      · rw [followApart_end h1 h2 e] at h; omega
      · obtain ⟨q1, q2, _⟩ := commonL_is a b
        have e1 : commonL a b ≠ a.length := fun x => e (.inl x)
        have e2 : commonL a b ≠ b.length := fun x => e (.inr x)
        exact ⟨rfl, rfl, followApart_mid h1 h2 e1 e2, by omega, by omega⟩
theorem followApart_left {a b : List En} (h : 0 ≤ followApart a b) : followLeft a b = -1 ∧ followLeft b a = -1 := by
  obtain ⟨h1, h2, h3, h4, h5⟩ := followApart_pos h
  refine ⟨followLeft_no (by rw [decide_eq_false (by omega)]; simp), followLeft_no (by rw [commonL_symm, decide_eq_false (by omega)]; simp)⟩
def followRun (a b : List En) (m : Int) : List En × Bool := if ((storeOk a && storeOk b) && decide (b.length ≤ commonL a b)) && decide (0 ≤ m ∧ m ≤ 99) then (a.take (b.length + m.toNat), true) else ([], false)
def followMend (a b : List En) : List En × Bool := if storeOk a && storeOk b then (b.take (commonL a b), true) else ([], false)
end Go.Proofs.YtdmffpjljaolcaaDoor
