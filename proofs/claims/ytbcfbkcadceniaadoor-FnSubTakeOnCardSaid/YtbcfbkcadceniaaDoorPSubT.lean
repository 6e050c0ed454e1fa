/- Taking entries one after another, plainly. -/
import Derived.Test.YtbcfbkcadceniaaDoorPSub2
namespace Go.Proofs.YtbcfbkcadceniaaDoor
set_option linter.unusedVariables false
set_option linter.unusedSimpArgs false

/-- what is taken when k entries from the place a on have been gone through. -/
def subGo (xs : List En) (c : ByteArray) (a k : Nat) : List En := ((xs.drop a).take k).filter (fits c)
theorem subGo_succ {xs : List En} {c : ByteArray} {a k : Nat} (h : a + k < xs.length) : subGo xs c a (k + 1) = subGo xs c a k ++ if fits c (nx xs (a + k)) then [nx xs (a + k)] else [] := by
  have h1 : k < (xs.drop a).length := by rw [List.length_drop]; omega
  have e : nx (xs.drop a) k = nx xs (a + k) := by
    have h3 : (xs.drop a)[k]? = xs[a + k]? := by rw [List.getElem?_drop]
    have h4 := nx_get h1
    rw [h3, nx_get h] at h4
    exact (Option.some.inj h4).symm
  unfold subGo
  rw [take_nx h1, List.filter_append, e]
  by_cases hf : fits c (nx xs (a + k)) = true
  · rw [if_pos hf, List.filter_cons_of_pos hf]; rfl
  · rw [if_neg hf, List.filter_cons_of_neg hf]; rfl
theorem subGo_zero (xs : List En) (c : ByteArray) (a : Nat) : subGo xs c a 0 = [] := rfl
theorem subGo_le (xs : List En) (c : ByteArray) (a k : Nat) : (subGo xs c a k).length ≤ k := by
  have h1 := List.length_filter_le (fits c) ((xs.drop a).take k)
  have h2 := List.length_take_le k (xs.drop a)
  unfold subGo; omega
/-- it has never been full before. -/
def NotFull (xs : List En) (c : ByteArray) (a m k : Nat) : Prop := ∀ p, p < k → (subGo xs c a p).length ≠ m
theorem notFull_lt {xs : List En} {c : ByteArray} {a m k : Nat} (h : NotFull xs c a m k) (hk : a + k ≤ xs.length) : ∀ p, p < k → (subGo xs c a p).length < m := by
  intro p
  induction p with
  | zero =>
    intro hp
    have := h 0 hp
    rw [subGo_zero] at this ⊢
    simp only [List.length_nil] at this ⊢
    omega
  | succ p ih =>
    intro hp
    have h1 := ih (by omega)
    have h2 := h (p + 1) hp
    rw [subGo_succ (by omega), List.length_append] at h2 ⊢
    split at h2 <;> simp only [List.length_nil, List.length_cons] at h2 ⊢ <;> split <;> simp_all <;> omega
theorem notFull_le {xs : List En} {c : ByteArray} {a m k : Nat} (h : NotFull xs c a m k) (hk : a + k ≤ xs.length ∨ k = 0) : (subGo xs c a k).length ≤ m := by
  cases k with
  | zero => rw [subGo_zero]; exact Nat.zero_le _
  | succ k =>
    rcases hk with hk | hk
    · have h1 := notFull_lt h hk k (by omega)
      rw [subGo_succ (by omega), List.length_append]
      split <;> simp only [List.length_nil, List.length_cons] <;> omega
    · omega
theorem subGo_is {xs : List En} {c : ByteArray} {a m k : Nat} (h : NotFull xs c a m k) (hk : a + k ≤ xs.length ∨ k = 0) (he : xs.length ≤ a + k ∨ (subGo xs c a k).length = m) : subRun c (xs.drop a) m = (subGo xs c a k, k) := by
  rcases hk with hk | rfl
  · exact subRun_is (by rw [List.length_drop]; omega) (fun p hp => notFull_lt h hk p hp) (by
      rcases he with he | he
      · exact .inl (by rw [List.length_drop]; omega)
      · exact .inr he)
  · rcases he with he | he
    · rw [List.drop_of_length_le (by omega), subRun_nil]
      unfold subGo; rw [List.drop_of_length_le (by omega)]; rfl
    · rw [subGo_zero] at he ⊢
      obtain rfl : m = 0 := by simpa using he.symm
      rw [subRun_zero]
theorem notFull_zero (xs : List En) (c : ByteArray) (a m : Nat) : NotFull xs c a m 0 := fun p hp => absurd hp (by omega)
theorem notFull_succ {xs : List En} {c : ByteArray} {a m k : Nat} (h : NotFull xs c a m k) (h2 : (subGo xs c a k).length ≠ m) : NotFull xs c a m (k + 1) := fun p hp => by
  rcases Nat.lt_succ_iff_lt_or_eq.1 hp with h' | rfl
  · exact h p h'
  · exact h2
theorem subTake_go {xs : List En} {cat : ByteArray} {a m k : Nat} (h1 : storeOk xs = true) (h2 : subOk ⟨cat, (a : Int)⟩ = true) (h3 : m ≤ 99) (h : NotFull xs cat a m k) (hk : a + k ≤ xs.length ∨ k = 0) (he : xs.length ≤ a + k ∨ (subGo xs cat a k).length = m) :
    subTake xs ⟨cat, (a : Int)⟩ (m : Int) = (subGo xs cat a k, ⟨cat, ((a + k : Nat) : Int)⟩, true) := by
  rw [subTake_yes h1 h2 h3]
  show ((subRun cat (xs.drop (a : Int).toNat) m).1, (⟨cat, (a : Int) + (subRun cat (xs.drop (a : Int).toNat) m).2⟩ : Sb), true) = _
  rw [Int.toNat_natCast, subGo_is h hk he]
  simp
end Go.Proofs.YtbcfbkcadceniaaDoor
