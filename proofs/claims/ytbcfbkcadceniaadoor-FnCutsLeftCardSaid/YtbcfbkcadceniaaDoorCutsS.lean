/- What is kept of a stream: the reference's. -/
import Derived.Test.YtbcfbkcadceniaaDoorCutsR
namespace Go.Proofs.YtbcfbkcadceniaaDoor
set_option linter.unusedVariables false
set_option linter.unusedSimpArgs false
open Go.RowKit

theorem drop_row {W : World} {A : Option Addr} {k c f lo : Nat} {st : List Ev} (H : Row evCells 3 W W.heap.size A k st) (hc : k ≤ c) (hk : st.length = k) (hlo : lo = min f k) : Row evCells 3 W W.heap.size (if c = lo then A else Option.map (fun x => x.add (lo * 3)) A) (k - lo) (st.drop f) := by
  have h1 := H.cut (cap := c) evCells_len lo k (by omega) (Nat.le_refl _) hc
  have e : (st.drop lo).take (k - lo) = st.drop f := by
    rw [List.take_of_length_le (by rw [List.length_drop, hk]; omega), hlo]
    by_cases hf : f ≤ k
    · rw [Nat.min_eq_left hf]
    · rw [Nat.min_eq_right (by omega), List.drop_eq_nil_of_le (by omega), List.drop_eq_nil_of_le (by omega)]
  rw [e] at h1
  exact h1
theorem drop_nil {A : Option Addr} {c lo : Nat} (h : A = none → c = 0) (e : (if c = lo then A else Option.map (fun x : Addr => x.add (lo * 3)) A) = none) : c - lo = 0 := by
  split at e
  · omega
  · rw [Option.map_eq_none_iff] at e
    have := h e
    omega
end Go.Proofs.YtbcfbkcadceniaaDoor
