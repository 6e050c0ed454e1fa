/- What is left behind cuts, plainly: the positions that are kept; they are those of what is read. -/
import Derived.Test.YtbcfbkcadceniaaDoorPCut
namespace Go.Proofs.YtbcfbkcadceniaaDoor
set_option linter.unusedVariables false
set_option linter.unusedSimpArgs false

def cntOf (l : List En) (s : ByteArray) : Nat := (streamOf l s).length
theorem cntOf_snoc (l : List En) (x : En) (s : ByteArray) : cntOf (l ++ [x]) s = if x.name = s then cntOf l s + 1 else cntOf l s := by
  unfold cntOf
  rw [streamOf_app, List.length_append]
  by_cases h : x.name = s
  · rw [if_pos h]
    have : streamOf [x] s = [x.ev] := by unfold streamOf; rw [List.filter_cons_of_pos (by simpa using h)]; rfl
    rw [this]; rfl
  · rw [if_neg h]
    have : streamOf [x] s = [] := by unfold streamOf; rw [List.filter_cons_of_neg (by simpa using h)]; rfl
    rw [this]; rfl
/-- an entry is kept: its number is not below its stream's cut. -/
def keptAt (xs : List En) (cs : List Cut) (k : Nat) : Bool := decide (cutFrom cs (nx xs k).name ≤ (cntOf (xs.take k) (nx xs k).name : Int))
def keptTo (xs : List En) (cs : List Cut) (k : Nat) : List Nat := (List.range k).filter (keptAt xs cs)
theorem keptTo_succ (xs : List En) (cs : List Cut) (k : Nat) : keptTo xs cs (k + 1) = keptTo xs cs k ++ if keptAt xs cs k then [k] else [] := by
  unfold keptTo
  rw [List.range_succ, List.filter_append]
  by_cases h : keptAt xs cs k = true
  · rw [if_pos h, List.filter_cons_of_pos h]; rfl
  · rw [if_neg h, List.filter_cons_of_neg h]; rfl
theorem keptTo_len (xs : List En) (cs : List Cut) (k : Nat) : (keptTo xs cs k).length ≤ k := by
  have := List.length_filter_le (keptAt xs cs) (List.range k)
  rw [List.length_range] at this
  exact this
theorem keptTo_lt {xs : List En} {cs : List Cut} {k j : Nat} (h : j ∈ keptTo xs cs k) : j < k := List.mem_range.1 (List.mem_filter.1 h).1
theorem keptTo_asc (xs : List En) (cs : List Cut) (k : Nat) : (keptTo xs cs k).Pairwise (· < ·) := (List.pairwise_lt_range).sublist List.filter_sublist
def cutsLeft (xs : List En) (cs : List Cut) : List Nat := if storeOk xs && cutsOk cs then keptTo xs cs xs.length else []
theorem cutsLeft_no {xs : List En} {cs : List Cut} (h : (storeOk xs && cutsOk cs) = false) : cutsLeft xs cs = [] := by unfold cutsLeft; rw [h]; rfl
theorem cutsLeft_yes {xs : List En} {cs : List Cut} (h1 : storeOk xs = true) (h2 : cutsOk cs = true) : cutsLeft xs cs = keptTo xs cs xs.length := by unfold cutsLeft; rw [h1, h2]; rfl
/-- the events of a stream at these positions. -/
def evsAt (xs : List En) (s : ByteArray) (js : List Nat) : List Ev := (js.filter fun j => decide ((nx xs j).name = s)).map fun j => (nx xs j).ev
theorem evsAt_app (xs : List En) (s : ByteArray) (a b : List Nat) : evsAt xs s (a ++ b) = evsAt xs s a ++ evsAt xs s b := by unfold evsAt; rw [List.filter_append, List.map_append]
theorem evsAt_one (xs : List En) (s : ByteArray) (j : Nat) : evsAt xs s [j] = if (nx xs j).name = s then [(nx xs j).ev] else [] := by
  unfold evsAt
  by_cases h : (nx xs j).name = s
  · rw [if_pos h, List.filter_cons_of_pos (by exact decide_eq_true h)]; rfl
  · rw [if_neg h, List.filter_cons_of_neg (by simpa using h)]; rfl
theorem take_en {xs : List En} {k : Nat} (hk : k < xs.length) : xs.take (k + 1) = xs.take k ++ [nx xs k] := by rw [List.take_succ_eq_append_getElem hk, nx_eq hk]
theorem kept_evs {xs : List En} {cs : List Cut} {s : ByteArray} (h0 : 0 ≤ cutFrom cs s) (k : Nat) (hk : k ≤ xs.length) : evsAt xs s (keptTo xs cs k) = (streamOf (xs.take k) s).drop (cutFrom cs s).toNat := by
  induction k with
  | zero => show [] = _; rw [List.take_zero]; exact (List.drop_eq_nil_of_le (Nat.zero_le _)).symm
  | succ k ih =>
    have ih := ih (by omega)
    rw [keptTo_succ, evsAt_app, ih, take_en (by omega), streamOf_app]
    by_cases hn : (nx xs k).name = s
    · have e1 : streamOf [nx xs k] s = [(nx xs k).ev] := by unfold streamOf; rw [List.filter_cons_of_pos (by simpa using hn)]; rfl
      rw [e1]
      by_cases hf : keptAt xs cs k = true
      · rw [if_pos hf, evsAt_one, if_pos hn]
        have h1 := of_decide_eq_true hf
        rw [hn] at h1
        unfold cntOf at h1
        rw [List.drop_append_of_le_length (by omega)]
      · rw [if_neg hf]
        have h1 : ¬ (cutFrom cs (nx xs k).name ≤ (cntOf (xs.take k) (nx xs k).name : Int)) := fun h => hf (decide_eq_true h)
        rw [hn] at h1
        unfold cntOf at h1
        rw [List.drop_eq_nil_of_le (by omega), List.drop_eq_nil_of_le (by rw [List.length_append, List.length_singleton]; omega)]
        rfl
    · have e1 : streamOf [nx xs k] s = [] := by unfold streamOf; rw [List.filter_cons_of_neg (by simpa using hn)]; rfl
      rw [e1, List.append_nil]
      have e2 : evsAt xs s (if keptAt xs cs k = true then [k] else []) = [] := by
        split
        · rw [evsAt_one, if_neg hn]
        · rfl
      rw [e2, List.append_nil]
theorem cutsLeft_read {xs : List En} {cs : List Cut} {s : ByteArray} (h1 : storeOk xs = true) (h2 : cutsOk cs = true) (h3 : nameOk s.data.toList = true) : evsAt xs s (cutsLeft xs cs) = cutsRead xs cs s := by
  rw [cutsLeft_yes h1 h2, cutsRead_yes h1 h2 h3, kept_evs (cutFrom_range h2 s).1 _ (Nat.le_refl _), List.take_length]
end Go.Proofs.YtbcfbkcadceniaaDoor
