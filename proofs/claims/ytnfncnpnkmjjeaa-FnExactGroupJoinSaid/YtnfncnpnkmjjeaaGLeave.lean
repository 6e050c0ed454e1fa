/- Leaving a group: the program's and the reference's. -/
import Derived.Test.YtnfncnpnkmjjeaaGroupS
import Derived.Deep.RegionLaw
import Derived.Deep.DeepMust
import Derived.Test.YtnfncnpnkmjjeaaAppStr
namespace Go.Proofs.Ytnfncnpnkmjjeaa
set_option linter.unusedVariables false
set_option linter.unusedSimpArgs false
open Go.RowKit

def leaveMs (ms : List ByteArray) (m : ByteArray) : List ByteArray := ms.filter fun x => decide (x ≠ m)
def leaveOk (st : Int) (ms : List ByteArray) (m : ByteArray) : Bool := groupOk st ms && decide ((leaveMs ms m).length ≠ ms.length) && groupOk st (leaveMs ms m)
/-- what a call returns that gives a group and tells whether it succeeded. -/
def GroupRet (ok : Bool) (st : Int) (ms : List ByteArray) (w : World) (e : Ending) (w' : World) : Prop :=
  ∃ A n c, e = .returned (.tuple #[.agg #[.int .i64 (if ok then st else 0), .slice A n c], .bool ok]) ∧ Strs w' w'.heap.size A n (if ok then ms else []) ∧ Below w.heap.size w w'

theorem GroupRet.no {ok : Bool} {st : Int} {ms : List ByteArray} {w w' : World} (h : ok = false) (hb : Below w.heap.size w w') : GroupRet ok st ms w (.returned (.tuple #[.agg #[.int .i64 0, .slice none 0 0], .bool false])) w' := by
  subst h; exact ⟨none, 0, 0, rfl, Strs.nil _ _ _, hb⟩
theorem GroupRet.yes {ok : Bool} {st : Int} {ms : List ByteArray} {w w' : World} {A : Option Addr} {n c : Nat} (h : ok = true) (hs : Strs w' w'.heap.size A n ms) (hb : Below w.heap.size w w') : GroupRet ok st ms w (.returned (.tuple #[.agg #[.int .i64 st, .slice A n c], .bool true])) w' := by
  subst h; exact ⟨A, n, c, rfl, hs, hb⟩
theorem leaveMs_snoc (ms : List ByteArray) (m : ByteArray) (k : Nat) (s : ByteArray) (h : ms[k]? = some s) :
    leaveMs (ms.take (k + 1)) m = leaveMs (ms.take k) m ++ (if s = m then [] else [s]) := by
  obtain ⟨hl, e⟩ := List.getElem?_eq_some_iff.1 h
  unfold leaveMs
  rw [List.take_succ_eq_append_getElem hl, List.filter_append, e]
  by_cases hs : s = m <;> simp [hs]
theorem leaveMs_len (ms : List ByteArray) (m : ByteArray) (k : Nat) : (leaveMs (ms.take k) m).length ≤ k :=
  Nat.le_trans (List.length_filter_le _ _) (by rw [List.length_take]; omega)

end Go.Proofs.Ytnfncnpnkmjjeaa
