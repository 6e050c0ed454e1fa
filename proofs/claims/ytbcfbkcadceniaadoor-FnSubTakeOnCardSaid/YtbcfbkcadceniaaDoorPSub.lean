/- Who reads a category from a position on, plainly. -/
import Derived.Test.YtbcfbkcadceniaaDoorPRead
namespace Go.Proofs.YtbcfbkcadceniaaDoor
set_option linter.unusedVariables false
set_option linter.unusedSimpArgs false

structure Sb where
  cat : ByteArray
  at_ : Int
  deriving DecidableEq, Inhabited
def subOk (s : Sb) : Bool := (decide (s.cat = ⟨#[]⟩) || wordOk s.cat.data.toList) && decide (0 ≤ s.at_ ∧ s.at_ ≤ 100)
/-- an entry is of a category, or all are wanted. -/
def fits (c : ByteArray) (x : En) : Bool := decide (c = ⟨#[]⟩) || decide (c.data.toList = pCat x.name.data.toList)
theorem fits_all (x : En) : fits ⟨#[]⟩ x = true := rfl
def subLeft (xs : List En) (s : Sb) : Int := if storeOk xs && subOk s then (((xs.drop s.at_.toNat).filter (fits s.cat)).length : Int) else -1
theorem subLeft_no {xs : List En} {s : Sb} (h : (storeOk xs && subOk s) = false) : subLeft xs s = -1 := by unfold subLeft; rw [h]; rfl
theorem subLeft_yes {xs : List En} {s : Sb} (h1 : storeOk xs = true) (h2 : subOk s = true) : subLeft xs s = ((xs.drop s.at_.toNat).filter (fits s.cat)).length := by unfold subLeft; rw [h1, h2]; rfl
theorem subLeft_pos {xs : List En} {s : Sb} (h : 0 ≤ subLeft xs s) : storeOk xs = true ∧ subOk s = true := by
  cases h1 : storeOk xs && subOk s with
  | false => rw [subLeft_no h1] at h; omega
  | true => rw [Bool.and_eq_true] at h1; exact h1
theorem subOk_iff {s : Sb} : subOk s = true ↔ (s.cat = ⟨#[]⟩ ∨ wordOk s.cat.data.toList = true) ∧ 0 ≤ s.at_ ∧ s.at_ ≤ 100 := by unfold subOk; rw [Bool.and_eq_true, Bool.or_eq_true, decide_eq_true_eq, decide_eq_true_eq]
theorem subLeft_all {xs : List En} (h : storeOk xs = true) : subLeft xs ⟨⟨#[]⟩, 0⟩ = xs.length := by
  rw [subLeft_yes h rfl]
  show (((xs.drop 0).filter (fits ⟨#[]⟩)).length : Int) = _
  rw [List.drop_zero, List.filter_eq_self.2 (fun x _ => fits_all x)]
theorem subLeft_le {xs : List En} {s : Sb} (h : 0 ≤ subLeft xs s) : subLeft xs s ≤ xs.length := by
  obtain ⟨h1, h2⟩ := subLeft_pos h
  rw [subLeft_yes h1 h2]
  have h3 := List.length_filter_le (fits s.cat) (xs.drop s.at_.toNat)
  rw [List.length_drop] at h3
  omega
/-- the entries taken, at most so many, and how many were gone through. -/
def subRun (c : ByteArray) : List En → Nat → List En × Nat
  | _, 0 => ([], 0)
  | [], _ + 1 => ([], 0)
  | x :: l, m + 1 => if fits c x then (x :: (subRun c l m).1, (subRun c l m).2 + 1) else ((subRun c l (m + 1)).1, (subRun c l (m + 1)).2 + 1)
theorem subRun_zero (c : ByteArray) (l : List En) : subRun c l 0 = ([], 0) := by cases l <;> rfl
theorem subRun_nil (c : ByteArray) (m : Nat) : subRun c [] m = ([], 0) := by cases m <;> rfl
theorem subRun_is {c : ByteArray} {l : List En} {m q : Nat} (h1 : q ≤ l.length) (h2 : ∀ p, p < q → ((l.take p).filter (fits c)).length < m) (h3 : q = l.length ∨ ((l.take q).filter (fits c)).length = m) : subRun c l m = ((l.take q).filter (fits c), q) := by
  induction l generalizing m q with
  | nil =>
    obtain rfl : q = 0 := by simpa using h1
    cases m <;> rfl
  | cons x l ih =>
    cases m with
    | zero =>
      cases q with
      | zero => rw [subRun_zero]; rfl
      | succ q => exact absurd (h2 0 (by omega)) (by simp)
    | succ m =>
      cases q with
      | zero => rcases h3 with h3 | h3 <;> simp at h3
      | succ q =>
        unfold subRun
        by_cases hf : fits c x = true
        · have := ih (m := m) (q := q) (by simpa using h1) (fun p hp => by
            have := h2 (p + 1) (by omega)
            rw [List.take_succ_cons, List.filter_cons_of_pos hf, List.length_cons] at this
            omega) (by
            rcases h3 with h3 | h3
            · exact .inl (by simpa using h3)
            · rw [List.take_succ_cons, List.filter_cons_of_pos hf, List.length_cons] at h3
              exact .inr (by omega))
          rw [if_pos hf, this, List.take_succ_cons, List.filter_cons_of_pos hf]
        · have := ih (m := m + 1) (q := q) (by simpa using h1) (fun p hp => by
            have := h2 (p + 1) (by omega)
            rwa [List.take_succ_cons, List.filter_cons_of_neg hf] at this) (by
            rcases h3 with h3 | h3
            · exact .inl (by simpa using h3)
            · rw [List.take_succ_cons, List.filter_cons_of_neg hf] at h3
              exact .inr h3)
          rw [if_neg hf, this, List.take_succ_cons, List.filter_cons_of_neg hf]
theorem subRun_len (c : ByteArray) (l : List En) (m : Nat) : (subRun c l m).1.length ≤ m ∧ (subRun c l m).2 ≤ l.length ∧ (subRun c l m).1 = (l.take (subRun c l m).2).filter (fits c) ∧ ((subRun c l m).1.length < m → (subRun c l m).2 = l.length) := by
  induction l generalizing m with
  | nil => cases m <;> simp [subRun]
  | cons x l ih =>
    cases m with
    | zero => simp [subRun]
    | succ m =>
      unfold subRun
      by_cases hf : fits c x = true
      · obtain ⟨h1, h2, h3, h4⟩ := ih m
        rw [if_pos hf]
        refine ⟨by simpa using h1, by simpa using h2, ?_, fun h => ?_⟩
        · show x :: (subRun c l m).1 = _
          rw [List.take_succ_cons, List.filter_cons_of_pos hf, ← h3]
        · have h : (subRun c l m).1.length + 1 < m + 1 := by simpa using h
          have := h4 (by omega)
          simpa using this
      · obtain ⟨h1, h2, h3, h4⟩ := ih (m + 1)
        rw [if_neg hf]
        refine ⟨h1, by simpa using h2, ?_, fun h => ?_⟩
        · show (subRun c l (m + 1)).1 = _
          rw [List.take_succ_cons, List.filter_cons_of_neg hf]
          exact h3
        · have := h4 h
          simpa using this
/-- taking goes on. -/
theorem subRun_on (c : ByteArray) (l : List En) (k m : Nat) (hk : k ≤ m) : subRun c l m = ((subRun c l k).1 ++ (subRun c (l.drop (subRun c l k).2) (m - k)).1, (subRun c l k).2 + (subRun c (l.drop (subRun c l k).2) (m - k)).2) := by
  induction l generalizing k m with
  | nil => simp [subRun_nil]
  | cons x l ih =>
    cases k with
    | zero => rw [subRun_zero]; simp
    | succ k =>
      cases m with
      | zero => omega
      | succ m =>
        rw [subRun.eq_3, subRun.eq_3]
        by_cases hf : fits c x = true
        · rw [if_pos hf, if_pos hf, ih k m (by omega)]
          simp only [List.drop_succ_cons, Nat.add_sub_add_right, List.cons_append]
          congr 1
          omega
        · rw [if_neg hf, if_neg hf, ih (k + 1) (m + 1) hk]
          simp only [List.drop_succ_cons]
          congr 1
          omega
def subTake (xs : List En) (s : Sb) (m : Int) : List En × Sb × Bool :=
  if (storeOk xs && subOk s) && decide (0 ≤ m ∧ m ≤ 99) then ((subRun s.cat (xs.drop s.at_.toNat) m.toNat).1, ⟨s.cat, s.at_ + (subRun s.cat (xs.drop s.at_.toNat) m.toNat).2⟩, true) else ([], ⟨⟨#[]⟩, 0⟩, false)
theorem subTake_no {xs : List En} {s : Sb} {m : Int} (h : ((storeOk xs && subOk s) && decide (0 ≤ m ∧ m ≤ 99)) = false) : subTake xs s m = ([], ⟨⟨#[]⟩, 0⟩, false) := by unfold subTake; rw [h]; rfl
theorem subTake_yes {xs : List En} {s : Sb} {m : Nat} (h1 : storeOk xs = true) (h2 : subOk s = true) (h3 : m ≤ 99) : subTake xs s m = ((subRun s.cat (xs.drop s.at_.toNat) m).1, ⟨s.cat, s.at_ + (subRun s.cat (xs.drop s.at_.toNat) m).2⟩, true) := by
  unfold subTake; rw [h1, h2, decide_eq_true (by omega), Int.toNat_natCast]; rfl
end Go.Proofs.YtbcfbkcadceniaaDoor
