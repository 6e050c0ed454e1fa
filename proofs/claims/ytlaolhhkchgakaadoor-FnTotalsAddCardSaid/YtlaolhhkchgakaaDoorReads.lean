/- The version of a stream, and reading it: the program's and the reference's. -/
import Derived.Test.YtlaolhhkchgakaaDoorStAll
import Derived.Test.YtlaolhhkchgakaaDoorLive
namespace Go.Proofs.YtlaolhhkchgakaaDoor
set_option linter.unusedVariables false
set_option linter.unusedSimpArgs false
open Go.RowKit

def storeVersion (xs : List En) (s : ByteArray) : Int := if storeOk xs && nameOk s.data.toList then ((streamOf xs s).length : Int) - 1 else -2
theorem storeVersion_no {xs : List En} {s : ByteArray} (h : (storeOk xs && nameOk s.data.toList) = false) : storeVersion xs s = -2 := by unfold storeVersion; rw [h]; rfl
theorem storeVersion_yes {xs : List En} {s : ByteArray} (h1 : storeOk xs = true) (h2 : nameOk s.data.toList = true) : storeVersion xs s = ((streamOf xs s).length : Int) - 1 := by unfold storeVersion; rw [h1, h2]; rfl
def storeRead (xs : List En) (s : ByteArray) (a m : Int) : List Ev := if (storeOk xs && nameOk s.data.toList) && rdOk a m then pieceL (streamOf xs s) a.toNat m.toNat else []
theorem storeRead_no {xs : List En} {s : ByteArray} {a m : Int} (h : ((storeOk xs && nameOk s.data.toList) && rdOk a m) = false) : storeRead xs s a m = [] := by unfold storeRead; rw [h]; rfl
theorem storeRead_yes {xs : List En} {s : ByteArray} {a m : Int} (h1 : storeOk xs = true) (h2 : nameOk s.data.toList = true) (h3 : rdOk a m = true) : storeRead xs s a m = pieceL (streamOf xs s) a.toNat m.toNat := by unfold storeRead; rw [h1, h2, h3]; rfl

/-- the slice that the map of streams has at a name. -/
theorem Streams.slice {w : World} {base b n : Nat} {l : List En} {D : DataW Value} {g : ByteArray → Value} (S : Streams w base b n l D g) (s : ByteArray) (hs : s.size ≤ maxLen) :
    ∃ A c k, k = (streamOf l s).length ∧ (Instr.lookup 91 (.map (some b)) (.string s) false).run Tryd.prog w = .ok (.slice A k c) w ∧ k ≤ c ∧ Hid (A = none → c = 0) ∧ Row evCells 3 w w.heap.size A k (streamOf l s) := by
  obtain ⟨A, c, hg, hnc, hnil, hrow, _⟩ := Row.of_own (S.row s) rfl
  have l1 := S.get s hs
  rw [hg] at l1
  exact ⟨A, c, _, rfl, l1, hnc, Lib.hid hnil, hrow⟩





end Go.Proofs.YtlaolhhkchgakaaDoor
