/- Who reads a category, plainly: what is taken, what is left behind it. -/
import Derived.Test.YtbcfbkcadceniaaDoorPSub
namespace Go.Proofs.YtbcfbkcadceniaaDoor
set_option linter.unusedVariables false
set_option linter.unusedSimpArgs false

theorem store_24 {xs : List En} (h : storeOk xs = true) : xs.length ≤ 24 := (storeOk_streams.1 h).1
theorem subRun_room {c : ByteArray} {l : List En} {m : Nat} (h : l.length < m) : subRun c l m = (l.filter (fits c), l.length) := by
  obtain ⟨h1, h2, h3, h4⟩ := subRun_len c l m
  have h5 : (subRun c l m).1.length < m := by
    rw [h3]
    have h6 := List.length_filter_le (fits c) (l.take (subRun c l m).2)
    have h7 := List.length_take_le' (subRun c l m).2 l
    omega
  have h8 := h4 h5
  rw [h8, List.take_length] at h3
  exact Prod.ext h3 h8
/-- the subscriber behind the entries that it has taken. -/
def subNext (xs : List En) (s : Sb) (m : Nat) : Sb := ⟨s.cat, s.at_ + (subRun s.cat (xs.drop s.at_.toNat) m).2⟩
def subOut (xs : List En) (s : Sb) (m : Nat) : List En := (subRun s.cat (xs.drop s.at_.toNat) m).1
theorem subTake_is {xs : List En} {s : Sb} {m : Nat} (h1 : storeOk xs = true) (h2 : subOk s = true) (h3 : m ≤ 99) : subTake xs s m = (subOut xs s m, subNext xs s m, true) := subTake_yes h1 h2 h3
theorem subNext_nat {xs : List En} {s : Sb} {m : Nat} (h2 : subOk s = true) : (subNext xs s m).at_.toNat = s.at_.toNat + (subRun s.cat (xs.drop s.at_.toNat) m).2 := by
  have := (subOk_iff.1 h2).2
  unfold subNext
  show (s.at_ + _).toNat = _
  omega
theorem subNext_ok {xs : List En} {s : Sb} {m : Nat} (h1 : storeOk xs = true) (h2 : subOk s = true) : subOk (subNext xs s m) = true := by
  obtain ⟨k0, k1, k2⟩ := subOk_iff.1 h2
  have h3 := (subRun_len s.cat (xs.drop s.at_.toNat) m).2.1
  rw [List.length_drop] at h3
  have h4 := store_24 h1
  refine subOk_iff.2 ⟨k0, ?_, ?_⟩
  · show 0 ≤ s.at_ + _; omega
  · show s.at_ + _ ≤ 100; omega
theorem subOut_len (xs : List En) (s : Sb) (m : Nat) : (subOut xs s m).length ≤ m := (subRun_len _ _ _).1
theorem subNext_ge (xs : List En) (s : Sb) (m : Nat) : s.at_ ≤ (subNext xs s m).at_ := by unfold subNext; show s.at_ ≤ s.at_ + _; omega
/-- whatever is taken is of the category. -/
theorem subOut_fits {xs : List En} {s : Sb} {m : Nat} {x : En} (h : x ∈ subOut xs s m) : fits s.cat x = true ∧ x ∈ xs := by
  unfold subOut at h
  rw [(subRun_len _ _ _).2.2.1] at h
  obtain ⟨h1, h2⟩ := List.mem_filter.1 h
  exact ⟨h2, List.mem_of_mem_drop (List.mem_of_mem_take h1)⟩
theorem subTake_on {xs : List En} {s : Sb} {k m : Nat} (h2 : subOk s = true) (hk : k ≤ m) : subOut xs s m = subOut xs s k ++ subOut xs (subNext xs s k) (m - k) ∧ subNext xs (subNext xs s k) (m - k) = subNext xs s m := by
  have h := subRun_on s.cat (xs.drop s.at_.toNat) k m hk
  have e : xs.drop (subNext xs s k).at_.toNat = (xs.drop s.at_.toNat).drop (subRun s.cat (xs.drop s.at_.toNat) k).2 := by
    rw [subNext_nat h2, List.drop_drop]
  constructor
  · unfold subOut
    rw [h, e]; rfl
  · have e2 : (subNext xs (subNext xs s k) (m - k)).at_ = (subNext xs s m).at_ := by
      show s.at_ + ((subRun s.cat (xs.drop s.at_.toNat) k).2 : Int) + ((subRun s.cat (xs.drop (subNext xs s k).at_.toNat) (m - k)).2 : Int) = s.at_ + ((subRun s.cat (xs.drop s.at_.toNat) m).2 : Int)
      rw [e, h]
      show _ = s.at_ + (((subRun s.cat (xs.drop s.at_.toNat) k).2 + (subRun s.cat ((xs.drop s.at_.toNat).drop (subRun s.cat (xs.drop s.at_.toNat) k).2) (m - k)).2 : Nat) : Int)
      omega
    have e3 : ∀ a b : Sb, a.cat = b.cat → a.at_ = b.at_ → a = b := by rintro ⟨_, _⟩ ⟨_, _⟩ rfl rfl; rfl
    exact e3 _ _ rfl e2
theorem subLeft_next {xs : List En} {s : Sb} {m : Nat} (h1 : storeOk xs = true) (h2 : subOk s = true) : subLeft xs (subNext xs s m) = subLeft xs s - (subOut xs s m).length := by
  rw [subLeft_yes h1 (subNext_ok h1 h2), subLeft_yes h1 h2, subNext_nat h2, ← List.drop_drop]
  have h3 := (subRun_len s.cat (xs.drop s.at_.toNat) m).2.2.1
  unfold subOut
  have h4 : (xs.drop s.at_.toNat).filter (fits s.cat) = (subRun s.cat (xs.drop s.at_.toNat) m).1 ++ ((xs.drop s.at_.toNat).drop (subRun s.cat (xs.drop s.at_.toNat) m).2).filter (fits s.cat) := by
    have h5 : (subRun s.cat (xs.drop s.at_.toNat) m).1 ++ ((xs.drop s.at_.toNat).drop (subRun s.cat (xs.drop s.at_.toNat) m).2).filter (fits s.cat) = ((xs.drop s.at_.toNat).take (subRun s.cat (xs.drop s.at_.toNat) m).2).filter (fits s.cat) ++ ((xs.drop s.at_.toNat).drop (subRun s.cat (xs.drop s.at_.toNat) m).2).filter (fits s.cat) := by rw [← h3]
    rw [h5, ← List.filter_append, List.take_append_drop]
  rw [h4, List.length_append]
  show ((((xs.drop s.at_.toNat).drop (subRun s.cat (xs.drop s.at_.toNat) m).2).filter (fits s.cat)).length : Int) = _
  omega
/-- who took less than it might has gone through all. -/
theorem subTake_all {xs : List En} {s : Sb} {m : Nat} (h1 : storeOk xs = true) (h2 : subOk s = true) (h : (subOut xs s m).length ≠ m) : subLeft xs (subNext xs s m) = 0 ∧ ((subNext xs s m).at_ = xs.length ∨ (subNext xs s m).at_ = s.at_) := by
  obtain ⟨k0, k1, k2⟩ := subOk_iff.1 h2
  obtain ⟨g1, g2, g3, g4⟩ := subRun_len s.cat (xs.drop s.at_.toNat) m
  unfold subOut at h
  have g5 := g4 (by omega)
  rw [List.length_drop] at g5
  constructor
  · rw [subLeft_yes h1 (subNext_ok h1 h2), subNext_nat h2, g5, List.drop_of_length_le (by omega)]
    rfl
  · unfold subNext
    show s.at_ + _ = _ ∨ s.at_ + _ = _
    rw [g5]
    omega
theorem subLeft_99 {xs : List En} {s : Sb} (h1 : storeOk xs = true) (h2 : subOk s = true) : subLeft xs s = (subOut xs s 99).length := by
  have := store_24 h1
  unfold subOut
  rw [subLeft_yes h1 h2, subRun_room (by rw [List.length_drop]; omega)]
theorem subTake_len (xs : List En) (s : Sb) (m : Int) : (subTake xs s m).1.length ≤ xs.length := by
  cases h : (storeOk xs && subOk s) && decide (0 ≤ m ∧ m ≤ 99) with
  | false => rw [subTake_no h]; exact Nat.zero_le _
  | true =>
    rw [Bool.and_eq_true, Bool.and_eq_true, decide_eq_true_eq] at h
    obtain ⟨⟨h1, h2⟩, h3⟩ := h
    obtain ⟨k, rfl⟩ : ∃ k : Nat, m = (k : Int) := ⟨m.toNat, by omega⟩
    rw [subTake_is h1 h2 (by omega)]
    show (subRun s.cat (xs.drop s.at_.toNat) k).1.length ≤ xs.length
    obtain ⟨g1, g2, g3, g4⟩ := subRun_len s.cat (xs.drop s.at_.toNat) k
    rw [g3]
    have h6 := List.length_filter_le (fits s.cat) ((xs.drop s.at_.toNat).take (subRun s.cat (xs.drop s.at_.toNat) k).2)
    have h7 := List.length_take_le' (subRun s.cat (xs.drop s.at_.toNat) k).2 (xs.drop s.at_.toNat)
    rw [List.length_drop] at h7
    omega
/-- what a taking that went well says. -/
theorem subTake_ok {xs : List En} {s s' : Sb} {m : Int} {ys : List En} (h : subTake xs s m = (ys, s', true)) : storeOk xs = true ∧ subOk s = true ∧ 0 ≤ m ∧ m ≤ 99 ∧ ys = subOut xs s m.toNat ∧ s' = subNext xs s m.toNat := by
  cases h0 : (storeOk xs && subOk s) && decide (0 ≤ m ∧ m ≤ 99) with
  | false => rw [subTake_no h0] at h; injection h with _ h; injection h with _ h; cases h
  | true =>
    rw [Bool.and_eq_true, Bool.and_eq_true, decide_eq_true_eq] at h0
    obtain ⟨⟨h1, h2⟩, h3⟩ := h0
    obtain ⟨k, rfl⟩ : ∃ k : Nat, m = (k : Int) := ⟨m.toNat, by omega⟩
    rw [subTake_is h1 h2 (by omega)] at h
    injection h with e1 h
    injection h with e2 h
    exact ⟨h1, h2, h3.1, h3.2, by rw [Int.toNat_natCast]; exact e1.symm, by rw [Int.toNat_natCast]; exact e2.symm⟩
end Go.Proofs.YtbcfbkcadceniaaDoor
