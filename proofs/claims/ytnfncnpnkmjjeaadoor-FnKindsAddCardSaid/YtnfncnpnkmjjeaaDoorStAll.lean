/- All entries from a position on: the program's and the reference's. -/
import Derived.Test.YtnfncnpnkmjjeaaDoorPiece
namespace Go.Proofs.YtnfncnpnkmjjeaaDoor
set_option linter.unusedVariables false
set_option linter.unusedSimpArgs false
open Go.RowKit

def storeAll (xs : List En) (a m : Int) : List En := if storeOk xs && rdOk a m then pieceL xs a.toNat m.toNat else []
theorem storeAll_no {xs : List En} {a m : Int} (h : (storeOk xs && rdOk a m) = false) : storeAll xs a m = [] := by unfold storeAll; rw [h]; rfl
theorem storeAll_yes {xs : List En} {a m : Int} (h1 : storeOk xs = true) (h2 : rdOk a m = true) : storeAll xs a m = pieceL xs a.toNat m.toNat := by unfold storeAll; rw [h1, h2]; rfl
theorem ens_none {w : World} (W : World) (hb : Below W.heap.size W w) : EnsRet [] W (.returned (.slice (some ⟨w.heap.size, 0, none⟩) 0 0)) (w.alloc (.cells #[] 44)) :=
  ⟨_, 0, 0, rfl, Row.nil _ _ _, Nat.le_refl _, Lib.hid (fun e => by cases e), hb.alloc hb.size _⟩
theorem evs_none {w : World} (W : World) (hb : Below W.heap.size W w) : EvsRet [] W (.returned (.slice (some ⟨w.heap.size, 0, none⟩) 0 0)) (w.alloc (.cells #[] 42)) :=
  ⟨_, 0, 0, rfl, Row.nil _ _ _, Nat.le_refl _, Lib.hid (fun e => by cases e), hb.alloc hb.size _⟩
theorem EnsRet.after {xs : List En} {w w1 w2 : World} {e : Ending} (hb : Below w.heap.size w w1) (h : EnsRet xs w1 e w2) : EnsRet xs w e w2 := by
  obtain ⟨A, n, c, h1, h2, h3, h4, h5⟩ := h
  exact ⟨A, n, c, h1, h2, h3, h4, bt hb h5⟩
theorem EvsRet.after {xs : List Ev} {w w1 w2 : World} {e : Ending} (hb : Below w.heap.size w w1) (h : EvsRet xs w1 e w2) : EvsRet xs w e w2 := by
  obtain ⟨A, n, c, h1, h2, h3, h4, h5⟩ := h
  exact ⟨A, n, c, h1, h2, h3, h4, bt hb h5⟩


theorem pieceL_succ {α : Type} [Inhabited α] {l : List α} {a k : Nat} (h : a + k < l.length) : pieceL l a (k + 1) = pieceL l a k ++ [nx l (a + k)] := by
  unfold pieceL
  rw [List.take_succ_eq_append_getElem (by rw [List.length_drop]; omega), List.getElem_drop, nx_eq h]
theorem pieceL_end {α : Type} {l : List α} {a k m : Nat} (hk : k ≤ m) (h : l.length ≤ a + k ∨ k = m) : pieceL l a k = pieceL l a m := by
  rcases h with h | h
  · unfold pieceL
    rw [List.take_of_length_le (by rw [List.length_drop]; omega), List.take_of_length_le (by rw [List.length_drop]; omega)]
  · rw [h]
theorem l6In_at (x lo hi : Int) (W : World) : Calls Tryd.prog 46 #[.int .i64 x, .int .i64 lo, .int .i64 hi] W fun e w' => e = .returned (.bool (decide (lo ≤ x ∧ x ≤ hi))) ∧ W = w' := by
  have h := l6In_any x lo hi W
  rwa [show (decide (lo ≤ x) && decide (x ≤ hi)) = decide (lo ≤ x ∧ x ≤ hi) by simp] at h

end Go.Proofs.YtnfncnpnkmjjeaaDoor
