/- Appending to a stream, writing again, finding an event, plainly. -/
import Derived.Test.YtlaolhhkchgakaaDoorPRead
import Derived.Test.YtlaolhhkchgakaaDoorExpH
namespace Go.Proofs.YtlaolhhkchgakaaDoor
set_option linter.unusedVariables false
set_option linter.unusedSimpArgs false

def writeOk (xs : List En) (s : ByteArray) (x : Int) (es : List Ev) : Bool := (((storeOk xs && nameOk s.data.toList) && expOk x) && evsOk es) && decide (es ≠ [])
theorem writeOk_iff {xs : List En} {s : ByteArray} {x : Int} {es : List Ev} : writeOk xs s x es = true ↔ storeOk xs = true ∧ nameOk s.data.toList = true ∧ expOk x = true ∧ evsOk es = true ∧ es ≠ [] := by
  unfold writeOk
  rw [Bool.and_eq_true, Bool.and_eq_true, Bool.and_eq_true, Bool.and_eq_true, decide_eq_true_eq]
  exact ⟨fun ⟨⟨⟨⟨a, b⟩, c⟩, d⟩, e⟩ => ⟨a, b, c, d, e⟩, fun ⟨a, b, c, d, e⟩ => ⟨⟨⟨⟨a, b⟩, c⟩, d⟩, e⟩⟩
/-- the entries with events of a stream behind them. -/
def longer (xs : List En) (s : ByteArray) (es : List Ev) : List En := xs ++ es.map fun e => ⟨s, e⟩
theorem longer_nil (xs : List En) (s : ByteArray) : longer xs s [] = xs := by unfold longer; simp
theorem longer_len (xs : List En) (s : ByteArray) (es : List Ev) : (longer xs s es).length = xs.length + es.length := by unfold longer; rw [List.length_append, List.length_map]
theorem longer_snoc (xs : List En) (s : ByteArray) (es : List Ev) (k : Nat) (h : k < es.length) : longer xs s (es.take (k + 1)) = longer xs s (es.take k) ++ [⟨s, nx es k⟩] := by
  unfold longer; rw [take_nx h, List.map_append, List.append_assoc]; rfl
theorem streamOf_longer (xs : List En) (s : ByteArray) (es : List Ev) : streamOf (longer xs s es) s = streamOf xs s ++ es := by
  have h : ∀ es : List Ev, streamOf (es.map fun e => (⟨s, e⟩ : En)) s = es := fun es => by
    induction es with
    | nil => rfl
    | cons e es ih =>
      have e1 : streamOf ((⟨s, e⟩ : En) :: es.map fun e => (⟨s, e⟩ : En)) s = e :: streamOf (es.map fun e => (⟨s, e⟩ : En)) s := by unfold streamOf; rw [List.filter_cons_of_pos (by simp)]; rfl
      rw [List.map_cons, e1, ih]
  unfold longer
  rw [streamOf_app, h]
def storeAppend (xs : List En) (s : ByteArray) (x : Int) (es : List Ev) : List En × Int :=
  if writeOk xs s x es then
    if expHolds x (((streamOf xs s).length : Int) - 1) then
      if storeOk (longer xs s es) then (longer xs s es, 0) else ([], 2)
    else (xs, 1)
  else ([], 2)
theorem storeAppend_bad {xs : List En} {s : ByteArray} {x : Int} {es : List Ev} (h : writeOk xs s x es = false) : storeAppend xs s x es = ([], 2) := by unfold storeAppend; rw [h]; rfl
theorem storeAppend_wrong {xs : List En} {s : ByteArray} {x : Int} {es : List Ev} (h : writeOk xs s x es = true) (h2 : expHolds x (((streamOf xs s).length : Int) - 1) = false) : storeAppend xs s x es = (xs, 1) := by unfold storeAppend; rw [h, h2]; rfl
theorem storeAppend_full {xs : List En} {s : ByteArray} {x : Int} {es : List Ev} (h : writeOk xs s x es = true) (h2 : expHolds x (((streamOf xs s).length : Int) - 1) = true) (h3 : storeOk (longer xs s es) = false) : storeAppend xs s x es = ([], 2) := by unfold storeAppend; rw [h, h2, h3]; rfl
theorem storeAppend_fine {xs : List En} {s : ByteArray} {x : Int} {es : List Ev} (h : writeOk xs s x es = true) (h2 : expHolds x (((streamOf xs s).length : Int) - 1) = true) (h3 : storeOk (longer xs s es) = true) : storeAppend xs s x es = (longer xs s es, 0) := by unfold storeAppend; rw [h, h2, h3]; rfl
theorem storeAppend_len (xs : List En) (s : ByteArray) (x : Int) (es : List Ev) : (storeAppend xs s x es).1.length ≤ xs.length + es.length := by
  unfold storeAppend
  split
  · split
    · split
      · exact Nat.le_of_eq (longer_len _ _ _)
      · exact Nat.zero_le _
    · exact Nat.le_add_right _ _
  · exact Nat.zero_le _
theorem storeAppend_0 {xs : List En} {s : ByteArray} {x : Int} {es : List Ev} (h : (storeAppend xs s x es).2 = 0) : writeOk xs s x es = true ∧ expHolds x (((streamOf xs s).length : Int) - 1) = true ∧ storeOk (longer xs s es) = true ∧ storeAppend xs s x es = (longer xs s es, 0) := by
  cases h1 : writeOk xs s x es with
  | false => rw [storeAppend_bad h1] at h; exact absurd h (by decide)
  | true =>
    cases h2 : expHolds x (((streamOf xs s).length : Int) - 1) with
    | false => rw [storeAppend_wrong h1 h2] at h; exact absurd h (show ¬ ((1 : Int) = 0) by decide)
    | true =>
      cases h3 : storeOk (longer xs s es) with
      | false => rw [storeAppend_full h1 h2 h3] at h; exact absurd h (by decide)
      | true => exact ⟨rfl, rfl, rfl, storeAppend_fine h1 h2 h3⟩
theorem storeAppend_1 {xs : List En} {s : ByteArray} {x : Int} {es : List Ev} (h : (storeAppend xs s x es).2 = 1) : writeOk xs s x es = true ∧ expHolds x (((streamOf xs s).length : Int) - 1) = false ∧ storeAppend xs s x es = (xs, 1) := by
  cases h1 : writeOk xs s x es with
  | false => rw [storeAppend_bad h1] at h; exact absurd h (by decide)
  | true =>
    cases h2 : expHolds x (((streamOf xs s).length : Int) - 1) with
    | false => exact ⟨rfl, rfl, storeAppend_wrong h1 h2⟩
    | true =>
      cases h3 : storeOk (longer xs s es) with
      | false => rw [storeAppend_full h1 h2 h3] at h; exact absurd h (by decide)
      | true => rw [storeAppend_fine h1 h2 h3] at h; exact absurd h (show ¬ ((0 : Int) = 1) by decide)
theorem evsOk_len24 {l : List Ev} (h : evsOk l = true) : l.length ≤ 24 := (evsOk_iff.1 h).1
theorem storeVersion_of {xs : List En} {s : ByteArray} {x : Int} {es : List Ev} (h : writeOk xs s x es = true) : storeVersion xs s = ((streamOf xs s).length : Int) - 1 := by
  obtain ⟨h1, h2, _⟩ := writeOk_iff.1 h
  exact storeVersion_yes h1 h2
/-- what was appended is read behind the version. -/
theorem append_read {xs : List En} {s : ByteArray} {x : Int} {es : List Ev} (h : (storeAppend xs s x es).2 = 0) : storeRead (longer xs s es) s (storeVersion xs s + 1) 99 = es := by
  obtain ⟨h1, _, h3, _⟩ := storeAppend_0 h
  obtain ⟨q1, q2, _, q4, _⟩ := writeOk_iff.1 h1
  have hl := stream_24 (s := s) h3
  have he := evsOk_len24 q4
  rw [streamOf_longer, List.length_append] at hl
  rw [storeVersion_of h1, storeRead_yes h3 q2 (rdOk_iff.2 (by omega)), streamOf_longer]
  have e1 : (((streamOf xs s).length : Int) - 1 + 1).toNat = (streamOf xs s).length := by omega
  rw [e1]
  unfold pieceL
  rw [List.drop_left, List.take_of_length_le (by show es.length ≤ 99; omega)]
/-- of two that expect the same the second is wrong. -/
theorem append_two {xs : List En} {s : ByteArray} {x : Int} {es fs : List Ev} (h : (storeAppend xs s x es).2 = 0) (hx : x ≠ -2) (hf : evsOk fs = true) (hf2 : fs ≠ []) : storeAppend (longer xs s es) s x fs = (longer xs s es, 1) := by
  obtain ⟨h1, h2, h3, _⟩ := storeAppend_0 h
  obtain ⟨q1, q2, q3, q4, q5⟩ := writeOk_iff.1 h1
  have hl := stream_24 (s := s) h3
  have hl0 := stream_24 (s := s) q1
  refine storeAppend_wrong (writeOk_iff.2 ⟨h3, q2, q3, hf, hf2⟩) ?_
  rw [streamOf_longer, List.length_append] at hl ⊢
  rw [expHolds_eq hx q3 (by omega)] at h2 ⊢
  have h2 := of_decide_eq_true h2
  have : 0 < es.length := List.length_pos_iff.2 q5
  exact decide_eq_false (by omega)

/-! ### events that stand in a stream -/
def hereB (all : List Ev) (i : Nat) (es : List Ev) : Bool := decide (i + es.length ≤ all.length) && decide ((all.drop i).take es.length = es)
theorem hereB_iff {all : List Ev} {i : Nat} {es : List Ev} : hereB all i es = true ↔ i + es.length ≤ all.length ∧ (all.drop i).take es.length = es := by unfold hereB; rw [Bool.and_eq_true, decide_eq_true_eq, decide_eq_true_eq]
theorem hereB_long {all : List Ev} {i : Nat} {es : List Ev} (h : ¬ i + es.length ≤ all.length) : hereB all i es = false := by unfold hereB; rw [decide_eq_false h]; rfl
theorem hereB_at {all : List Ev} {i : Nat} {es : List Ev} (j : Nat) (hj : j < es.length) (h : nx all (i + j) ≠ nx es j) : hereB all i es = false := by
  cases e : hereB all i es with
  | false => rfl
  | true =>
    obtain ⟨h1, h2⟩ := hereB_iff.1 e
    apply absurd _ h
    rw [nx_eq hj, nx_eq (by omega)]
    conv => rhs; rw [List.getElem_of_eq h2.symm (by exact hj)]
    rw [List.getElem_take, List.getElem_drop]
theorem hereB_yes {all : List Ev} {i : Nat} {es : List Ev} (h : i + es.length ≤ all.length) (h2 : ∀ j, j < es.length → nx all (i + j) = nx es j) : hereB all i es = true := by
  refine hereB_iff.2 ⟨h, ?_⟩
  apply List.ext_getElem
  · rw [List.length_take, List.length_drop]; omega
  · intro j h3 h4
    have := h2 j h4
    rw [nx_eq h4, nx_eq (by omega)] at this
    rw [List.getElem_take, List.getElem_drop, this]
theorem hereB_nx {all : List Ev} {i : Nat} {es : List Ev} (h : hereB all i es = true) (j : Nat) (hj : j < es.length) : nx all (i + j) = nx es j := by
  by_cases e : nx all (i + j) = nx es j
  · exact e
  · rw [hereB_at j hj e] at h; cases h
theorem hereB_take {all : List Ev} {i : Nat} {es : List Ev} (h : hereB all i es = true) (k : Nat) (hk : k ≤ es.length) : hereB all i (es.take k) = true := by
  have h1 := (hereB_iff.1 h).1
  have hl : (es.take k).length = k := by rw [List.length_take]; omega
  refine hereB_yes (by rw [hl]; omega) fun j hj => ?_
  rw [hl] at hj
  rw [nx_take hj]
  exact hereB_nx h j (by omega)
def anyHere (all : List Ev) (es : List Ev) : Bool := (List.range all.length).any fun i => hereB all i es
theorem anyHere_iff {all es : List Ev} : anyHere all es = true ↔ ∃ i, i < all.length ∧ hereB all i es = true := by
  unfold anyHere; rw [List.any_eq_true]; exact ⟨fun ⟨i, h1, h2⟩ => ⟨i, List.mem_range.1 h1, h2⟩, fun ⟨i, h1, h2⟩ => ⟨i, List.mem_range.2 h1, h2⟩⟩
theorem anyHere_no {all es : List Ev} (h : ∀ i, i < all.length → hereB all i es = false) : anyHere all es = false := by
  cases e : anyHere all es with
  | false => rfl
  | true => obtain ⟨i, h1, h2⟩ := anyHere_iff.1 e; rw [h i h1] at h2; cases h2
def wasIn (all : List Ev) (x : Int) (es : List Ev) : Bool := if x = -2 then anyHere all es else hereB all (x + 1).toNat es
def storeWas (xs : List En) (s : ByteArray) (x : Int) (es : List Ev) : Bool := writeOk xs s x es && wasIn (streamOf xs s) x es
theorem storeWas_bad {xs : List En} {s : ByteArray} {x : Int} {es : List Ev} (h : writeOk xs s x es = false) : storeWas xs s x es = false := by unfold storeWas; rw [h]; rfl
theorem storeWas_ok {xs : List En} {s : ByteArray} {x : Int} {es : List Ev} (h : writeOk xs s x es = true) : storeWas xs s x es = wasIn (streamOf xs s) x es := by unfold storeWas; rw [h]; rfl
theorem wasIn_x {all : List Ev} {x : Int} {es : List Ev} (h : x ≠ -2) : wasIn all x es = hereB all (x + 1).toNat es := by unfold wasIn; rw [if_neg h]
theorem wasIn_any {all : List Ev} {es : List Ev} : wasIn all (-2) es = anyHere all es := by unfold wasIn; rw [if_pos rfl]
/-- where events that were appended stand. -/
theorem storeWas_at {xs : List En} {s : ByteArray} {x : Int} {es : List Ev} (h : storeWas xs s x es = true) : writeOk xs s x es = true ∧ ∃ i, i < (streamOf xs s).length ∧ hereB (streamOf xs s) i es = true ∧ (x = -2 ∨ (i : Int) = x + 1) := by
  cases h1 : writeOk xs s x es with
  | false => rw [storeWas_bad h1] at h; cases h
  | true =>
    refine ⟨rfl, ?_⟩
    rw [storeWas_ok h1] at h
    obtain ⟨q1, q2, q3, q4, q5⟩ := writeOk_iff.1 h1
    have hp : 0 < es.length := List.length_pos_iff.2 q5
    by_cases hx : x = -2
    · subst hx
      rw [wasIn_any] at h
      obtain ⟨i, h2, h3⟩ := anyHere_iff.1 h
      exact ⟨i, h2, h3, .inl rfl⟩
    · rw [wasIn_x hx] at h
      have h2 := (hereB_iff.1 h).1
      have h3 := expOk_iff.1 q3
      exact ⟨_, by omega, h, .inr (by omega)⟩
theorem storeWas_any {xs : List En} {s : ByteArray} {x : Int} {es : List Ev} (h : storeWas xs s x es = true) : storeWas xs s (-2) es = true := by
  obtain ⟨h1, i, h2, h3, _⟩ := storeWas_at h
  obtain ⟨q1, q2, q3, q4, q5⟩ := writeOk_iff.1 h1
  rw [storeWas_ok (writeOk_iff.2 ⟨q1, q2, (expOk_yes (by omega) (by omega)).symm, q4, q5⟩), wasIn_any]
  exact anyHere_iff.2 ⟨i, h2, h3⟩
theorem evsOk_take {es : List Ev} (h : evsOk es = true) (k : Nat) : evsOk (es.take k) = true := by
  obtain ⟨h1, h2, h3⟩ := evsOk_iff.1 h
  exact evsOk_iff.2 ⟨by rw [List.length_take]; omega, fun e he => h2 e (List.mem_of_mem_take he), h3.sublist (List.take_sublist _ _)⟩
theorem storeWas_take {xs : List En} {s : ByteArray} {x : Int} {es : List Ev} (h : storeWas xs s x es = true) (k : Nat) (hk : 1 ≤ k) (hk2 : k ≤ es.length) : storeWas xs s x (es.take k) = true := by
  obtain ⟨h1, i, h2, h3, h4⟩ := storeWas_at h
  obtain ⟨q1, q2, q3, q4, q5⟩ := writeOk_iff.1 h1
  have hw : writeOk xs s x (es.take k) = true := writeOk_iff.2 ⟨q1, q2, q3, evsOk_take q4 k, fun e => by
    have : (es.take k).length = 0 := by rw [e]; rfl
    rw [List.length_take] at this
    omega⟩
  rw [storeWas_ok hw]
  rw [storeWas_ok h1] at h
  by_cases hx : x = -2
  · subst hx
    rw [wasIn_any] at h ⊢
    obtain ⟨i, h2, h3⟩ := anyHere_iff.1 h
    exact anyHere_iff.2 ⟨i, h2, hereB_take h3 k hk2⟩
  · rw [wasIn_x hx] at h ⊢
    exact hereB_take h k hk2
def storeWrite (xs : List En) (s : ByteArray) (x : Int) (es : List Ev) : List En × Int := if storeWas xs s x es then (xs, 3) else storeAppend xs s x es
theorem storeWrite_was {xs : List En} {s : ByteArray} {x : Int} {es : List Ev} (h : storeWas xs s x es = true) : storeWrite xs s x es = (xs, 3) := by unfold storeWrite; rw [h]; rfl
theorem storeWrite_not {xs : List En} {s : ByteArray} {x : Int} {es : List Ev} (h : storeWas xs s x es = false) : storeWrite xs s x es = storeAppend xs s x es := by unfold storeWrite; rw [h]; rfl
/-- what was written is written once. -/
theorem write_once {xs : List En} {s : ByteArray} {x : Int} {es : List Ev} (h : (storeAppend xs s x es).2 = 0) : storeWas (longer xs s es) s x es = true := by
  obtain ⟨h1, h2, h3, _⟩ := storeAppend_0 h
  obtain ⟨q1, q2, q3, q4, q5⟩ := writeOk_iff.1 h1
  rw [storeWas_ok (writeOk_iff.2 ⟨h3, q2, q3, q4, q5⟩), streamOf_longer]
  have hh : hereB (streamOf xs s ++ es) (streamOf xs s).length es = true := hereB_iff.2 ⟨by rw [List.length_append]; exact Nat.le_refl _, by rw [List.drop_left, List.take_length]⟩
  have hp : 0 < es.length := List.length_pos_iff.2 q5
  have hl0 := stream_24 (s := s) q1
  by_cases hx : x = -2
  · subst hx
    rw [wasIn_any]
    exact anyHere_iff.2 ⟨_, by rw [List.length_append]; omega, hh⟩
  · rw [wasIn_x hx]
    rw [expHolds_eq hx q3 (by omega)] at h2
    have h2 := of_decide_eq_true h2
    rw [show (x + 1).toNat = (streamOf xs s).length by omega]
    exact hh

theorem storeWrite_len (xs : List En) (s : ByteArray) (x : Int) (es : List Ev) : (storeWrite xs s x es).1.length ≤ xs.length + es.length := by
  unfold storeWrite
  split
  · exact Nat.le_add_right _ _
  · exact storeAppend_len _ _ _ _
theorem storeAppend_code (xs : List En) (s : ByteArray) (x : Int) (es : List Ev) : (storeAppend xs s x es).2 ≠ 3 := by
  unfold storeAppend
  split
  · split
    · split
      · exact (by decide : ¬ (0 : Int) = 3)
      · exact (by decide : ¬ (2 : Int) = 3)
    · exact (by decide : ¬ (1 : Int) = 3)
  · exact (by decide : ¬ (2 : Int) = 3)
theorem storeWrite_3 {xs : List En} {s : ByteArray} {x : Int} {es : List Ev} (h : (storeWrite xs s x es).2 = 3) : storeWas xs s x es = true ∧ storeWrite xs s x es = (xs, 3) := by
  cases e : storeWas xs s x es with
  | true => exact ⟨rfl, storeWrite_was e⟩
  | false => rw [storeWrite_not e] at h; exact absurd h (storeAppend_code _ _ _ _)
theorem storeWrite_0 {xs : List En} {s : ByteArray} {x : Int} {es : List Ev} (h : (storeWrite xs s x es).2 = 0) : storeWrite xs s x es = (longer xs s es, 0) ∧ storeWrite (longer xs s es) s x es = (longer xs s es, 3) := by
  cases e : storeWas xs s x es with
  | true => rw [storeWrite_was e] at h; exact absurd h (by decide : ¬ (3 : Int) = 0)
  | false =>
    rw [storeWrite_not e] at h ⊢
    exact ⟨(storeAppend_0 h).2.2.2, storeWrite_was (write_once h)⟩

/-! ### finding an event by its id -/
def findAt (l : List Ev) (id : Int) : Int := match l.findIdx? (fun e => decide (e.id = id)) with | some i => i | none => -1
def storeFind (xs : List En) (s : ByteArray) (id : Int) : Int := if storeOk xs then findAt (streamOf xs s) id else -1
theorem storeFind_no {xs : List En} {s : ByteArray} {id : Int} (h : storeOk xs = false) : storeFind xs s id = -1 := by unfold storeFind; rw [h]; rfl
theorem storeFind_yes {xs : List En} {s : ByteArray} {id : Int} (h : storeOk xs = true) : storeFind xs s id = findAt (streamOf xs s) id := by unfold storeFind; rw [h]; rfl
theorem findAt_at {l : List Ev} {id : Int} {k : Nat} (hk : k < l.length) (h : (nx l k).id = id) (h2 : ∀ j, j < k → (nx l j).id ≠ id) : findAt l id = k := by
  unfold findAt
  have : l.findIdx? (fun e => decide (e.id = id)) = some k := by
    rw [List.findIdx?_eq_some_iff_getElem]
    refine ⟨hk, by rw [← nx_eq hk]; exact decide_eq_true h, fun j hj => ?_⟩
    rw [← nx_eq (by omega)]
    simpa using h2 j hj
  rw [this]
theorem findAt_none {l : List Ev} {id : Int} (h : ∀ j, j < l.length → (nx l j).id ≠ id) : findAt l id = -1 := by
  unfold findAt
  have : l.findIdx? (fun e => decide (e.id = id)) = none := by
    rw [List.findIdx?_eq_none_iff]
    intro e he
    obtain ⟨j, hj, rfl⟩ := List.mem_iff_getElem.1 he
    rw [← nx_eq hj]
    exact decide_eq_false (h j hj)
  rw [this]
theorem findAt_pos {l : List Ev} {id : Int} (h : 0 ≤ findAt l id) : ∃ k, k < l.length ∧ findAt l id = k ∧ (nx l k).id = id := by
  unfold findAt at h ⊢
  cases e : l.findIdx? (fun e => decide (e.id = id)) with
  | none => rw [e] at h; exact absurd h (by decide)
  | some k =>
    obtain ⟨hk, h1, _⟩ := List.findIdx?_eq_some_iff_getElem.1 e
    exact ⟨k, hk, rfl, by rw [nx_eq hk]; exact of_decide_eq_true h1⟩
theorem findAt_neg {l : List Ev} {id : Int} : (findAt l id = -1) ↔ ∀ e ∈ l, e.id ≠ id := by
  unfold findAt
  cases e : l.findIdx? (fun e => decide (e.id = id)) with
  | none =>
    rw [List.findIdx?_eq_none_iff] at e
    exact ⟨fun _ x hx => of_decide_eq_false (e x hx), fun _ => rfl⟩
  | some k =>
    obtain ⟨hk, h1, _⟩ := List.findIdx?_eq_some_iff_getElem.1 e
    refine ⟨fun h => absurd h ?_, fun h => absurd (of_decide_eq_true h1) (h _ (List.getElem_mem hk))⟩
    show ¬ ((k : Int) = -1)
    omega
/-- events with different ids: one is found where it stands. -/
theorem findAt_here {l : List Ev} (h : l.Pairwise fun a b => a.id ≠ b.id) {i : Nat} (hi : i < l.length) : findAt l (nx l i).id = i := by
  refine findAt_at hi rfl fun j hj => ?_
  rw [nx_eq hi, nx_eq (by omega)]
  exact List.pairwise_iff_getElem.1 h j i (by omega) hi hj
end Go.Proofs.YtlaolhhkchgakaaDoor
