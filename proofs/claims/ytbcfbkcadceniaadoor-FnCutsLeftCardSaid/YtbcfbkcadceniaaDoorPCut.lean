/- Cuts, plainly: when they are valid, from where a stream is kept, what is read of it. -/
import Derived.Test.YtbcfbkcadceniaaDoorPRead
namespace Go.Proofs.YtbcfbkcadceniaaDoor
set_option linter.unusedVariables false
set_option linter.unusedSimpArgs false

structure Cut where
  name : ByteArray
  at_ : Int
  deriving DecidableEq, Inhabited
def cutOne (c : Cut) : Bool := nameOk c.name.data.toList && decide (1 ≤ c.at_ ∧ c.at_ ≤ 24)
/-- a cut is of a name and a number, and behind the one ahead of it. -/
def cutAt (l : List Cut) (k : Nat) : Bool := cutOne (nx l k) && (decide (k = 0) || ltB (nx l (k - 1)).name (nx l k).name)
def cutsOk (l : List Cut) : Bool := decide (l.length ≤ 12) && allB l.length (cutAt l)
theorem cutsOk_len {l : List Cut} (h : 12 < l.length) : cutsOk l = false := by unfold cutsOk; rw [decide_eq_false (by omega)]; rfl
theorem cutsOk_at {l : List Cut} (k : Nat) (h : k < l.length) (hk : cutAt l k = false) : cutsOk l = false := by unfold cutsOk; rw [allB_no k h hk]; simp
theorem cutsOk_yes {l : List Cut} (h : l.length ≤ 12) (h2 : ∀ k, k < l.length → cutAt l k = true) : cutsOk l = true := by unfold cutsOk; rw [decide_eq_true h, allB_yes h2]; rfl
theorem cutsOk_iff {l : List Cut} : cutsOk l = true ↔ l.length ≤ 12 ∧ ∀ k, k < l.length → cutAt l k = true := by
  unfold cutsOk; rw [Bool.and_eq_true, decide_eq_true_eq, allB_iff]
theorem cutOne_no {c : Cut} (h : ¬ (1 ≤ c.at_ ∧ c.at_ ≤ 24)) : cutOne c = false := by unfold cutOne; rw [decide_eq_false h]; simp
theorem cutOne_name {c : Cut} (h : nameOk c.name.data.toList = false) : cutOne c = false := by unfold cutOne; rw [h]; rfl
theorem cutOne_yes {c : Cut} (h : nameOk c.name.data.toList = true) (h2 : 1 ≤ c.at_ ∧ c.at_ ≤ 24) : cutOne c = true := by unfold cutOne; rw [h, decide_eq_true h2]; rfl
theorem cutOne_iff {c : Cut} : cutOne c = true ↔ nameOk c.name.data.toList = true ∧ 1 ≤ c.at_ ∧ c.at_ ≤ 24 := by unfold cutOne; rw [Bool.and_eq_true, decide_eq_true_eq]
theorem cutAt_one {l : List Cut} {k : Nat} (h : cutOne (nx l k) = false) : cutAt l k = false := by unfold cutAt; rw [h]; rfl
theorem cutAt_0 {l : List Cut} (h : cutOne (nx l 0) = true) : cutAt l 0 = true := by unfold cutAt; rw [h]; rfl
theorem cutAt_s {l : List Cut} {m : Nat} (h : cutOne (nx l (m + 1)) = true) : cutAt l (m + 1) = ltB (nx l m).name (nx l (m + 1)).name := by
  unfold cutAt; rw [h, Nat.add_sub_cancel, decide_eq_false (by omega)]; simp
/-- valid cuts ascend. -/
theorem cuts_lt {l : List Cut} (h : cutsOk l = true) {i j : Nat} (hij : i < j) (hj : j < l.length) : ltB (nx l i).name (nx l j).name = true := by
  have hs : ∀ m, m + 1 < l.length → ltB (nx l m).name (nx l (m + 1)).name = true := fun m hm => by
    have := (cutsOk_iff.1 h).2 (m + 1) hm
    unfold cutAt at this
    rw [Nat.add_sub_cancel, decide_eq_false (by omega), Bool.false_or, Bool.and_eq_true] at this
    exact this.2
  induction j with
  | zero => omega
  | succ j ih =>
    by_cases e : i = j
    · rw [e]; exact hs j hj
    · exact ltB_trans (ih (by omega) (by omega)) (hs j hj)
theorem cuts_ne {l : List Cut} (h : cutsOk l = true) {i j : Nat} (hi : i < l.length) (hj : j < l.length) (hne : i ≠ j) : (nx l i).name ≠ (nx l j).name := by
  rcases Nat.lt_or_gt_of_ne hne with h1 | h1
  · exact ltB_ne (cuts_lt h h1 hj)
  · exact fun e => ltB_ne (cuts_lt h h1 hi) e.symm
/-- from where a stream is kept: the first cut of its name. -/
def cutFrom (l : List Cut) (s : ByteArray) : Int := ((l.find? fun c => decide (c.name = s)).map (·.at_)).getD 0
theorem cutFrom_at {l : List Cut} {s : ByteArray} (k : Nat) (h : k < l.length) (hk : (nx l k).name = s) (hn : ∀ j, j < k → (nx l j).name ≠ s) : cutFrom l s = (nx l k).at_ := by
  unfold cutFrom
  have e : l.find? (fun c => decide (c.name = s)) = some (nx l k) := by
    induction l generalizing k with
    | nil => simp at h
    | cons c l ih =>
      cases k with
      | zero => rw [List.find?_cons_of_pos (by exact decide_eq_true hk)]; rfl
      | succ k =>
        have h0 : c.name ≠ s := hn 0 (by omega)
        rw [List.find?_cons_of_neg (by simpa using h0)]
        exact ih k (by simpa using h) hk (fun j hj => hn (j + 1) (by omega))
  rw [e]; rfl
theorem cutFrom_none {l : List Cut} {s : ByteArray} (hn : ∀ j, j < l.length → (nx l j).name ≠ s) : cutFrom l s = 0 := by
  unfold cutFrom
  rw [List.find?_eq_none.2]; rfl
  intro c hc
  obtain ⟨i, hi, rfl⟩ := List.mem_iff_getElem.1 hc
  have := hn i hi
  rw [nx_eq hi] at this
  simpa using this
theorem cutFrom_range {l : List Cut} (h : cutsOk l = true) (s : ByteArray) : 0 ≤ cutFrom l s ∧ cutFrom l s ≤ 24 := by
  by_cases he : ∃ k, k < l.length ∧ (nx l k).name = s
  · obtain ⟨k, hk, e⟩ := he
    rw [cutFrom_at k hk e (fun j hj => e ▸ cuts_ne h (by omega) hk (by omega))]
    have := (cutsOk_iff.1 h).2 k hk
    unfold cutAt at this
    rw [Bool.and_eq_true] at this
    have := cutOne_iff.1 this.1
    omega
  · rw [cutFrom_none (fun j hj e => he ⟨j, hj, e⟩)]; omega
/-- the last cut of a name among the first k. -/
def cutLast (l : List Cut) (s : ByteArray) : Nat → Int
  | 0 => 0
  | k + 1 => if (nx l k).name = s then (nx l k).at_ else cutLast l s k
theorem cutLast_yes {l : List Cut} {s : ByteArray} {k : Nat} (h : (nx l k).name = s) : cutLast l s (k + 1) = (nx l k).at_ := if_pos h
theorem cutLast_no {l : List Cut} {s : ByteArray} {k : Nat} (h : (nx l k).name ≠ s) : cutLast l s (k + 1) = cutLast l s k := if_neg h
theorem cutLast_is {l : List Cut} (h : cutsOk l = true) (s : ByteArray) : cutLast l s l.length = cutFrom l s := by
  have h1 : ∀ k, k ≤ l.length → (∀ j, j < k → (nx l j).name ≠ s) → cutLast l s k = 0 := fun k => by
    induction k with
    | zero => intros; rfl
    | succ k ih =>
      intro hk hn
      rw [cutLast_no (hn k (by omega))]
      exact ih (by omega) (fun j hj => hn j (by omega))
  by_cases he : ∃ k, k < l.length ∧ (nx l k).name = s
  · obtain ⟨k, hk, e⟩ := he
    rw [cutFrom_at k hk e (fun j hj => e ▸ cuts_ne h (by omega) hk (by omega))]
    have h2 : ∀ q, k < q → q ≤ l.length → cutLast l s q = (nx l k).at_ := fun q => by
      induction q with
      | zero => intro hq; omega
      | succ q ih =>
        intro hq hq2
        by_cases hqk : q = k
        · subst hqk; exact cutLast_yes e
        · rw [cutLast_no (e ▸ cuts_ne h (by omega) hk hqk)]
          exact ih (by omega) (by omega)
    exact h2 _ hk (Nat.le_refl _)
  · rw [h1 _ (Nat.le_refl _) (fun j hj e => he ⟨j, hj, e⟩), cutFrom_none (fun j hj e => he ⟨j, hj, e⟩)]
/-- what is kept of a stream. -/
def cutsRead (xs : List En) (l : List Cut) (s : ByteArray) : List Ev := if (storeOk xs && cutsOk l) && nameOk s.data.toList then (streamOf xs s).drop (cutFrom l s).toNat else []
theorem cutsRead_no {xs : List En} {l : List Cut} {s : ByteArray} (h : ((storeOk xs && cutsOk l) && nameOk s.data.toList) = false) : cutsRead xs l s = [] := by unfold cutsRead; rw [h]; rfl
theorem cutsRead_yes {xs : List En} {l : List Cut} {s : ByteArray} (h1 : storeOk xs = true) (h2 : cutsOk l = true) (h3 : nameOk s.data.toList = true) : cutsRead xs l s = (streamOf xs s).drop (cutFrom l s).toNat := by unfold cutsRead; rw [h1, h2, h3]; rfl
theorem drop_piece {xs : List En} {s : ByteArray} (h : storeOk xs = true) (a : Nat) : pieceL (streamOf xs s) a 99 = (streamOf xs s).drop a := by
  have := stream_24 (s := s) h
  unfold pieceL
  exact List.take_of_length_le (by rw [List.length_drop]; omega)
theorem cutsRead_read {xs : List En} {l : List Cut} {s : ByteArray} (h1 : storeOk xs = true) (h2 : cutsOk l = true) (h3 : nameOk s.data.toList = true) : cutsRead xs l s = storeRead xs s (cutFrom l s) 99 := by
  have := cutFrom_range h2 s
  rw [cutsRead_yes h1 h2 h3, storeRead_yes h1 h3 (rdOk_iff.2 (by omega))]
  exact (drop_piece h1 _).symm
theorem cutsRead_len (xs : List En) (l : List Cut) (s : ByteArray) : (cutsRead xs l s).length ≤ (streamOf xs s).length := by
  unfold cutsRead
  split
  · rw [List.length_drop]; omega
  · exact Nat.zero_le _
theorem cutsRead_valid {xs : List En} {l : List Cut} {s : ByteArray} (h : (cutsRead xs l s).length ≠ 0) : storeOk xs = true ∧ cutsOk l = true ∧ nameOk s.data.toList = true := by
  cases h1 : (storeOk xs && cutsOk l) && nameOk s.data.toList with
  | false => rw [cutsRead_no h1] at h; exact absurd rfl h
  | true => rw [Bool.and_eq_true, Bool.and_eq_true] at h1; exact ⟨h1.1.1, h1.1.2, h1.2⟩
theorem cutsOk_nil : cutsOk [] = true := rfl
theorem cutsRead_nil {xs : List En} {s : ByteArray} (h1 : storeOk xs = true) (h3 : nameOk s.data.toList = true) : cutsRead xs [] s = storeRead xs s 0 99 := by
  rw [cutsRead_read h1 cutsOk_nil h3]; rfl
end Go.Proofs.YtbcfbkcadceniaaDoor
