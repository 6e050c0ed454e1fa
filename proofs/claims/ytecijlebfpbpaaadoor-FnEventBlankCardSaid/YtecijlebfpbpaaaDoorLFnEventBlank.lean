/- The walk of laws.FnEventBlank. -/
import Derived.Test.YtecijlebfpbpaaaDoorLFnEventFrom
namespace Go.Proofs.YtecijlebfpbpaaaDoor
set_option linter.unusedVariables false
set_option linter.unusedSimpArgs false
open Go.RowKit

set_option maxRecDepth 100000 in
set_option maxHeartbeats 8000000 in
theorem law_FnEventBlank (A : Option Addr) (n c : Nat) (w : World) (h : Code w A n c) (hm : ML w) :
    Calls Tryd.prog 4 #[.slice A n c] w fun e w' => e = .returned (.bool true) ∧ Below w.heap.size w w' := by
  have hn := h.2.1
  unfold maxLen at hn
  by_cases hbig : (1048576 : Int) < n
  · go_enter Tryd.func4, Tryd.ntmps4
    go_wp2_with fail
    go_ret
    exact ⟨rfl, Below.refl _ _⟩
  have HC := Lib.hid h
  have L0 := (Live.since (Below.refl w.heap.size w)).and (show Live w ML from fun W hW => hm.below hW)
  clear h hm
  go_enter Tryd.func4, Tryd.ntmps4
  go_wp2_with fail
  refine (drawEventFrom_any A n c _ HC.out).mono ?_
  rintro e w1 ⟨s, rfl, hs, hb1⟩
  have L1 := L0.next hb1
  have FI := Lib.hid (fun W M => eventFrom_any s W (by omega) M)
  have FS := Lib.hid (fun W => eventFromS_any s W (by omega))
  clear hb1 L0
  cases ho : evFrom s.data.toList with
  | none =>
    rw [ho, fromRet_none] at FI FS
    clear ho
    go_wp2_with fail
    refine (FI.out _ L1.now.2).mono ?_
    rintro e w2 ⟨rfl, hb2⟩
    have L2 := ((L1.next hb2).next ((Below.refl _ _).alloc (Nat.le_refl _) (.cells #[.int .i64 0, .string ⟨#[]⟩, .int .i64 0] 34))).and (Live.blk (Blk.new w2 34 #[.int .i64 0, .string ⟨#[]⟩, .int .i64 0]))
    clear hb2 L1
    go_wp2_with fail
    refine (FS.out _).mono ?_
    rintro e w3 ⟨rfl, hb3⟩
    have hlt := (L2.next hb3).now.2.lt
    have L3 := ((L2.next hb3).next ((Below.refl _ _).alloc (Nat.le_refl _) (.cells #[.int .i64 0, .string ⟨#[]⟩, .int .i64 0] 34))).and (Live.blk (Blk.new w3 34 #[.int .i64 0, .string ⟨#[]⟩, .int .i64 0]))
    have hn1 : ¬ w2.heap.size = w3.heap.size := by omega
    have a0 := L3.now.1.2.cell 0
    have a1 := L3.now.1.2.cell 1
    have a2 := L3.now.1.2.cell 2
    have b0 := L3.now.2.cell 0
    have b1 := L3.now.2.cell 1
    have b2 := L3.now.2.cell 2
    clear hb3 L2
    go_wp2_with fail
    go_ret
    exact ⟨by first | rfl | simp, L3.now.1.1.1⟩
  | some ev =>
    have q1 := evFrom_behind ho
    have q2 := evFrom_ahead ho
    have q3 := evFrom_zero ho
    have F1 := Lib.hid (fun W M => eventFrom_any (s ++ ⟨#[32]⟩) W (by rw [ByteArray.size_append]; show s.size + 1 ≤ 1000; omega) M)
    have F2 := Lib.hid (fun W M => eventFrom_any (⟨#[32]⟩ ++ s) W (by rw [ByteArray.size_append]; show 1 + s.size ≤ 1000; omega) M)
    have F3 := Lib.hid (fun W M => eventFrom_any (⟨#[48]⟩ ++ s) W (by rw [ByteArray.size_append]; show 1 + s.size ≤ 1000; omega) M)
    rw [show (s ++ ⟨#[32]⟩).data.toList = s.data.toList ++ [32] by simp, q1, fromRet_none] at F1
    rw [show ((⟨#[32]⟩ : ByteArray) ++ s).data.toList = 32 :: s.data.toList by simp, q2, fromRet_none] at F2
    rw [show ((⟨#[48]⟩ : ByteArray) ++ s).data.toList = 48 :: s.data.toList by simp, q3, fromRet_none] at F3
    obtain ⟨id, kind, data⟩ := ev
    rw [ho] at FI FS
    have FI2 : Hid (∀ W, ML W → Calls Tryd.prog 17 #[.string s] W fun e w' => e = .returned (.tuple #[.agg #[.int .i64 id, .string kind, .int .i64 data], .bool true]) ∧ Below W.heap.size W w') := Lib.hid (fun W M => FI.out W M)
    have FS2 : Hid (∀ W, Calls Tryd.prog 18 #[.string s] W fun e w' => e = .returned (.tuple #[.agg #[.int .i64 id, .string kind, .int .i64 data], .bool true]) ∧ Below W.heap.size W w') := Lib.hid (fun W => FS.out W)
    have ek : (kind.toList == kind.toList) = true := beq_self_eq_true _
    clear FI FS ho q1 q2 q3
    go_wp2_with fail
    refine (FI2.out _ L1.now.2).mono ?_
    rintro e w2 ⟨rfl, hb2⟩
    have L2 := ((L1.next hb2).next ((Below.refl _ _).alloc (Nat.le_refl _) (.cells #[.int .i64 id, .string kind, .int .i64 data] 34))).and (Live.blk (Blk.new w2 34 #[.int .i64 id, .string kind, .int .i64 data]))
    clear hb2 L1
    go_wp2_with fail
    refine (FS2.out _).mono ?_
    rintro e w3 ⟨rfl, hb3⟩
    have hlt := (L2.next hb3).now.2.lt
    have L3 := ((L2.next hb3).next ((Below.refl _ _).alloc (Nat.le_refl _) (.cells #[.int .i64 id, .string kind, .int .i64 data] 34))).and (Live.blk (Blk.new w3 34 #[.int .i64 id, .string kind, .int .i64 data]))
    have hn1 : ¬ w2.heap.size = w3.heap.size := by omega
    have a0 := L3.now.1.2.cell 0
    have a1 := L3.now.1.2.cell 1
    have a2 := L3.now.1.2.cell 2
    have b0 := L3.now.2.cell 0
    have b1 := L3.now.2.cell 1
    have b2 := L3.now.2.cell 2
    clear hb3 L2
    go_wp2_with (first
      | (go_at_call 17; (with_reducible refine (F1.out _ L3.now.1.1.2).mono ?_); (rintro e w4 ⟨rfl, hb4⟩; have L4 := (L3.next hb4).next ((Below.refl _ _).alloc (Nat.le_refl _) (.cells #[.int .i64 0, .string ⟨#[]⟩, .int .i64 0] 34))))
      | (go_at_call 17; (with_reducible refine (F2.out _ L4.now.1.1.2).mono ?_); (rintro e w5 ⟨rfl, hb5⟩; have L5 := (L4.next hb5).next ((Below.refl _ _).alloc (Nat.le_refl _) (.cells #[.int .i64 0, .string ⟨#[]⟩, .int .i64 0] 34))))
      | (go_at_call 17; (with_reducible refine (F3.out _ L5.now.1.1.2).mono ?_); (rintro e w6 ⟨rfl, hb6⟩; have L6 := (L5.next hb6).next ((Below.refl _ _).alloc (Nat.le_refl _) (.cells #[.int .i64 0, .string ⟨#[]⟩, .int .i64 0] 34)))))
    go_ret
    exact ⟨by first | rfl | simp, L6.now.1.1.1⟩
end Go.Proofs.YtecijlebfpbpaaaDoor
