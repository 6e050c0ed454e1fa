/- The stripes of names, plainly: ascending, each once. -/
import Derived.Test.YtecijlebfpbpaaaDoorPStore
import Derived.Test.YtecijlebfpbpaaaDoorNamesT
namespace Go.Proofs.YtecijlebfpbpaaaDoor
set_option linter.unusedVariables false
set_option linter.unusedSimpArgs false

theorem sorted_ext {a b : List Nat} (ha : a.Pairwise (· < ·)) (hb : b.Pairwise (· < ·)) (h : ∀ x, x ∈ a ↔ x ∈ b) : a = b := by
  induction a generalizing b with
  | nil =>
    cases b with
    | nil => rfl
    | cons y b => exact absurd ((h y).2 (by simp)) (by simp)
  | cons x a ih =>
    cases b with
    | nil => exact absurd ((h x).1 (by simp)) (by simp)
    | cons y b =>
      obtain ⟨a1, a2⟩ := List.pairwise_cons.1 ha
      obtain ⟨b1, b2⟩ := List.pairwise_cons.1 hb
      have hxy : x = y := by
        rcases List.mem_cons.1 ((h x).1 (by simp)) with h1 | h1
        · exact h1
        · rcases List.mem_cons.1 ((h y).2 (by simp)) with h2 | h2
          · exact h2.symm
          · have := b1 x h1
            have := a1 y h2
            omega
      subst hxy
      rw [ih a2 b2 fun z => ⟨fun hz => ?_, fun hz => ?_⟩]
      · rcases List.mem_cons.1 ((h z).1 (by simp [hz])) with h1 | h1
        · have := a1 z hz; omega
        · exact h1
      · rcases List.mem_cons.1 ((h z).2 (by simp [hz])) with h1 | h1
        · have := b1 z hz; omega
        · exact h1
/-- the stripes that names have, of so many. -/
def strSet (ss : List ByteArray) (n : Nat) : List Nat := (List.range n).filter fun k => ss.any fun s => decide (stripeOf s.data.toList n = k)
theorem range_sorted (n : Nat) (p : Nat → Bool) : ((List.range n).filter p).Pairwise (· < ·) := List.Pairwise.filter _ List.pairwise_lt_range
theorem strSet_sorted (ss : List ByteArray) (n : Nat) : (strSet ss n).Pairwise (· < ·) := range_sorted n _
theorem strSet_mem {ss : List ByteArray} {n x : Nat} (hn : 1 ≤ n) : x ∈ strSet ss n ↔ ∃ s ∈ ss, stripeOf s.data.toList n = x := by
  unfold strSet
  rw [List.mem_filter, List.mem_range, List.any_eq_true]
  constructor
  · rintro ⟨_, s, hs, h⟩
    exact ⟨s, hs, of_decide_eq_true h⟩
  · rintro ⟨s, hs, h⟩
    exact ⟨by rw [← h]; exact Nat.mod_lt _ (by omega), s, hs, decide_eq_true h⟩
theorem strSet_le (ss : List ByteArray) (n : Nat) : (strSet ss n).length ≤ n := by
  unfold strSet
  have := List.length_filter_le (fun k => ss.any fun s => decide (stripeOf s.data.toList n = k)) (List.range n)
  rwa [List.length_range] at this
/-- one put among ascending numbers. -/
def putN : List Nat → Nat → List Nat
  | [], n => [n]
  | x :: l, n => if x = n then x :: l else if n < x then n :: x :: l else x :: putN l n
theorem putN_mem {l : List Nat} {n x : Nat} : x ∈ putN l n ↔ x = n ∨ x ∈ l := by
  induction l with
  | nil => simp [putN]
  | cons y l ih =>
    unfold putN
    split
    · rename_i h; subst h; simp
    · split
      · simp
      · rw [List.mem_cons, ih, List.mem_cons]
        constructor
        · rintro (h | h | h)
          · exact .inr (.inl h)
          · exact .inl h
          · exact .inr (.inr h)
        · rintro (h | h | h)
          · exact .inr (.inl h)
          · exact .inl h
          · exact .inr (.inr h)
theorem putN_sorted {l : List Nat} (n : Nat) (h : l.Pairwise (· < ·)) : (putN l n).Pairwise (· < ·) := by
  induction l with
  | nil => exact List.pairwise_singleton _ _
  | cons y l ih =>
    obtain ⟨h1, h2⟩ := List.pairwise_cons.1 h
    unfold putN
    split
    · exact h
    · split
      · refine List.pairwise_cons.2 ⟨fun z hz => ?_, h⟩
        rcases List.mem_cons.1 hz with rfl | hz
        · assumption
        · have := h1 z hz; omega
      · refine List.pairwise_cons.2 ⟨fun z hz => ?_, ih h2⟩
        rcases putN_mem.1 hz with rfl | hz
        · omega
        · exact h1 z hz
theorem putN_len (l : List Nat) (n : Nat) : (putN l n).length ≤ l.length + 1 := by
  induction l with
  | nil => simp [putN]
  | cons y l ih =>
    unfold putN
    split
    · simp
    · split
      · simp
      · simp only [List.length_cons]; omega
theorem strSet_put (ss : List ByteArray) (s : ByteArray) {n : Nat} (hn : 1 ≤ n) : putN (strSet ss n) (stripeOf s.data.toList n) = strSet (ss ++ [s]) n := by
  refine sorted_ext (putN_sorted _ (strSet_sorted _ _)) (strSet_sorted _ _) fun x => ?_
  rw [putN_mem, strSet_mem hn, strSet_mem hn]
  constructor
  · rintro (h | ⟨t, ht, h⟩)
    · exact ⟨s, by simp, h.symm⟩
    · exact ⟨t, by simp [ht], h⟩
  · rintro ⟨t, ht, h⟩
    rcases List.mem_append.1 ht with ht | ht
    · exact .inr ⟨t, ht, h⟩
    · rw [List.mem_singleton] at ht; subst ht; exact .inl h.symm
theorem strSet_len {ss : List ByteArray} {n : Nat} (hn : 1 ≤ n) : ∀ k, k ≤ ss.length → (strSet (ss.take k) n).length ≤ k := by
  intro k
  induction k with
  | zero => intro _; rw [List.take_zero]; unfold strSet; simp
  | succ k ih =>
    intro hk
    rw [List.take_succ_eq_append_getElem (by omega), ← strSet_put _ _ hn]
    have := putN_len (strSet (ss.take k) n) (stripeOf ss[k].data.toList n)
    have := ih (by omega)
    omega
theorem strSet_rev (ss : List ByteArray) {n : Nat} (hn : 1 ≤ n) : strSet ss.reverse n = strSet ss n := by
  refine sorted_ext (strSet_sorted _ _) (strSet_sorted _ _) fun x => ?_
  rw [strSet_mem hn, strSet_mem hn]
  simp only [List.mem_reverse]
/-- the reference's way, step by step. -/
def stepN (n : Nat) (s : Bool × List Nat) (x : Nat) : Bool × List Nat :=
  let s1 := if s.1 = false ∧ n ≤ x then (true, s.2 ++ [n]) else s
  if x = n then s1 else (s1.1, s1.2 ++ [x])
def runN (n : Nat) (l : List Nat) (k : Nat) : Bool × List Nat := (l.take k).foldl (stepN n) (false, [])
def endN (n : Nat) (s : Bool × List Nat) : List Nat := if s.1 then s.2 else s.2 ++ [n]
theorem runN_succ {n : Nat} {l : List Nat} {k : Nat} (h : k < l.length) : runN n l (k + 1) = stepN n (runN n l k) (nx l k) := by
  unfold runN; rw [take_nx h, List.foldl_append]; rfl
theorem stepN_rest {n : Nat} {l : List Nat} (h : ∀ y ∈ l, n < y) (acc : List Nat) : l.foldl (stepN n) (true, acc) = (true, acc ++ l) := by
  induction l generalizing acc with
  | nil => simp
  | cons x l ih =>
    have hx := h x (by simp)
    rw [List.foldl_cons]
    have : stepN n (true, acc) x = (true, acc ++ [x]) := by unfold stepN; simp; omega
    rw [this, ih (fun y hy => h y (by simp [hy]))]
    simp
theorem runN_put_acc {n : Nat} {l : List Nat} (h : l.Pairwise (· < ·)) (acc : List Nat) : endN n (l.foldl (stepN n) (false, acc)) = acc ++ putN l n := by
  induction l generalizing acc with
  | nil => rfl
  | cons x l ih =>
    obtain ⟨h1, h2⟩ := List.pairwise_cons.1 h
    rw [List.foldl_cons]
    unfold putN
    by_cases hx : x = n
    · subst hx
      have : stepN x (false, acc) x = (true, acc ++ [x]) := by unfold stepN; simp
      rw [this, stepN_rest h1, if_pos rfl]
      simp [endN]
    · rw [if_neg hx]
      by_cases hlt : n < x
      · have : stepN n (false, acc) x = (true, acc ++ [n] ++ [x]) := by simp only [stepN]; rw [if_neg hx, if_pos ⟨trivial, Nat.le_of_lt hlt⟩]
        rw [this, stepN_rest (fun y hy => by have := h1 y hy; omega), if_pos hlt]
        simp [endN]
      · have : stepN n (false, acc) x = (false, acc ++ [x]) := by simp only [stepN]; rw [if_neg hx, if_neg (fun e => by omega)]
        rw [this, ih h2, if_neg hlt]
        simp
theorem runN_put {n : Nat} {l : List Nat} (h : l.Pairwise (· < ·)) : endN n (runN n l l.length) = putN l n := by
  unfold runN; rw [List.take_length, runN_put_acc h]; rfl
theorem runN_len (n : Nat) (l : List Nat) (k : Nat) : (runN n l k).2.length ≤ 2 * k := by
  unfold runN
  have : ∀ (m : List Nat) (s : Bool × List Nat), (m.foldl (stepN n) s).2.length ≤ s.2.length + 2 * m.length := by
    intro m
    induction m with
    | nil => intro s; simp
    | cons x m ih =>
      intro s
      rw [List.foldl_cons]
      have := ih (stepN n s x)
      have h2 : (stepN n s x).2.length ≤ s.2.length + 2 := by
        unfold stepN
        split <;> split <;> simp
      simp only [List.length_cons]
      omega
  have h := this (l.take k) (false, [])
  rw [List.length_take] at h
  simp only [List.length_nil] at h
  omega
/-- what is told of names and a number of stripes. -/
def stripesOf (ss : List ByteArray) (n : Int) : List Nat := if (1 ≤ n ∧ n ≤ 8) ∧ ∀ s ∈ ss, nameOk s.data.toList = true then strSet ss n.toNat else []
end Go.Proofs.YtecijlebfpbpaaaDoor
