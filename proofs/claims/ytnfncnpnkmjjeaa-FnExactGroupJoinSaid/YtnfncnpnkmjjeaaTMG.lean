/- The exact laws' marks in a group's list. -/
import Derived.Test.YtnfncnpnkmjjeaaTMark
import Derived.Test.YtnfncnpnkmjjeaaTG
namespace Go.Proofs.Ytnfncnpnkmjjeaa
set_option linter.unusedVariables false
set_option linter.unusedSimpArgs false
open Go.RowKit

theorem grown_al {w w1 : World} {o : Obj} {row : Option Nat} (h : (w.alloc o).grownBy w1 row) : w.grownBy w1 row :=
  ⟨h.os, h.tape, h.output, Nat.le_trans (by simp) h.size, fun i hi hne => (h.block i (by simp; omega) hne).trans (Below.heap_alloc w o i hi)⟩
theorem Free.alloc {w : World} {A : Option Addr} (h : Free w A) (o : Obj) : Free (w.alloc o) A := fun p hp => by
  obtain ⟨cs, hB⟩ := h p hp
  exact ⟨cs, hB.alloc o⟩
set_option maxRecDepth 100000 in
set_option maxHeartbeats 4000000 in
theorem markGroup_any (st : Int) (A : Option Addr) (n c k : Nat) (ms : List ByteArray) (w : World) (h : Strs w w.heap.size A n ms) (hf : Free w A) (hnb : n ≤ 2000000) (hk1 : 1 ≤ k) (hk : k ≤ 1000000) :
    Calls Try.prog 9 #[.agg #[.int .i64 st, .slice A n c], .int .i64 (k : Int)] w (MarkRet A n k w) := by
  have MS := Lib.hid (markStringS_any A n c k ms _ (h.boxed1 (.cells #[.int .i64 st, .slice A n c] 26)) (hf.alloc _) hnb hk1 hk)
  clear h hf
  go_enter Try.func9, Try.ntmps9
  go_wp2_with (go_at_call 22; (with_reducible refine MS.out.mono ?_); (rintro e w1 ⟨rfl, hs1, hf1, hg1⟩; have H1 := Lib.hid (And.intro hs1 (And.intro hf1 (grown_al hg1))); clear hs1 hf1 hg1))
  go_ret
  exact ⟨rfl, H1.out⟩
set_option maxRecDepth 100000 in
set_option maxHeartbeats 4000000 in
theorem heldGroup_any (st : Int) (A : Option Addr) (n c k : Nat) (w : World) (h : Strs w w.heap.size A n (marks k n)) (hnb : n ≤ 2000000) (hk1 : 1 ≤ k) (hk : k ≤ 1000000) :
    Calls Try.prog 10 #[.agg #[.int .i64 st, .slice A n c], .int .i64 (k : Int)] w fun e w' => e = .returned (.int .i64 ((k + n : Nat) : Int)) ∧ Below w.heap.size w w' := by
  have MS := Lib.hid (heldStringS_any A n c k _ (h.boxed1 (.cells #[.int .i64 st, .slice A n c] 26)) hnb hk1 hk)
  have hlt : ¬ ((k + n : Nat) : Int) < 0 := by omega
  clear h
  go_enter Try.func10, Try.ntmps10
  go_wp2_with (go_at_call 23; (with_reducible refine MS.out.mono ?_); (rintro e w1 ⟨rfl, hb1⟩))
  go_ret
  exact ⟨rfl, (boxes1 hb1).2.1⟩
end Go.Proofs.Ytnfncnpnkmjjeaa
