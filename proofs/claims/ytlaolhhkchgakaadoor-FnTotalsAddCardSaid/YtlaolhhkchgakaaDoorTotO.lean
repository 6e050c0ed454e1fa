/- The total of an entry: the program's and the reference's. -/
import Derived.Test.YtlaolhhkchgakaaDoorTotPS
import Derived.Test.YtlaolhhkchgakaaDoorNamesI
import Derived.Test.YtlaolhhkchgakaaDoorCatS
namespace Go.Proofs.YtlaolhhkchgakaaDoor
set_option linter.unusedVariables false
set_option linter.unusedSimpArgs false
open Go.RowKit

theorem blk_next (w : World) (o : Obj) (t : TypeId) (cs : Array Value) : Blk ((w.alloc o).alloc (.cells cs t)) (w.heap.size + 1) t cs := by have := Blk.new (w.alloc o) t cs; simpa using this
set_option maxRecDepth 100000 in
set_option maxHeartbeats 4000000 in
theorem totalOf_any (name kind : ByteArray) (id data : Int) (w : World) (hn : name.size ≤ maxLen) (hg : GE w) :
    Calls Tryd.prog 34 #[.agg #[.string name, .int .i64 id, .string kind, .int .i64 data]] w fun e w' => e = .returned (.agg #[.string (catOf name), .int .i64 1, .int .i64 data]) ∧ Below w.heap.size w w' := by
  have hb0 : Below w.heap.size w ((w.alloc (.cells #[.string name, .int .i64 id, .string kind, .int .i64 data] 35)).alloc (.cells #[.string ⟨#[]⟩, .int .i64 0, .int .i64 0] 29)) := ((Below.refl _ _).alloc (Nat.le_refl _) _).alloc (by simp) _
  have L : Live ((w.alloc (.cells #[.string name, .int .i64 id, .string kind, .int .i64 data] 35)).alloc (.cells #[.string ⟨#[]⟩, .int .i64 0, .int .i64 0] 29)) fun W => ((Below w.heap.size w W ∧ GE W) ∧ Blk W w.heap.size 35 #[.string name, .int .i64 id, .string kind, .int .i64 data]) ∧ Blk W (w.heap.size + 1) 29 #[.string ⟨#[]⟩, .int .i64 0, .int .i64 0] := (((Live.since hb0).and (Live.ge (hg.below hb0))).and (Live.blk ((Blk.new w _ _).alloc _))).and (Live.blk (blk_next w _ _ _))
  have V := Lib.hid (nameParts_any name _ hn L.now.1.1.2)
  clear hb0 hg
  go_enter Tryd.func34, Tryd.ntmps34
  go_wp2_with fail
  refine V.out.mono ?_
  rintro e w1 ⟨⟨c, rfl, hc⟩, hb1⟩
  have L1 := L.next hb1
  have c0 := L1.now.1.2.cell 0
  have c1 := L1.now.1.2.cell 1
  have c2 := L1.now.1.2.cell 2
  have c3 := L1.now.1.2.cell 3
  have d0 := L1.now.2.cell 0
  have d1 := L1.now.2.cell 1
  have d2 := L1.now.2.cell 2
  have f0 := L1.now.2.frozen 0
  have f1 := L1.now.2.frozen 1
  have f2 := L1.now.2.frozen 2
  obtain rfl := catOf_is hc
  clear L hb1 V hc
  go_wp2_with fail
  refine bodyPost_ret (v := .agg #[.string (catOf name), .int .i64 1, .int .i64 data]) (by simp [results, Tryd.results34, go_sem, d0, d1, d2]) rfl ?_
  exact ⟨rfl, ((L1.now.1.1.1.setCell (p := ⟨w.heap.size + 1, 0, none⟩) (Nat.le_succ _) _).setCell (p := ⟨w.heap.size + 1, 1, none⟩) (Nat.le_succ _) _).setCell (p := ⟨w.heap.size + 1, 2, none⟩) (Nat.le_succ _) _⟩
set_option maxRecDepth 100000 in
set_option maxHeartbeats 4000000 in
theorem l16Of_any (name kind : ByteArray) (id data : Int) (w : World) (hn : name.size ≤ maxLen) (hok : nameOk name.data.toList = true) :
    Calls Tryd.prog 36 #[.agg #[.string name, .int .i64 id, .string kind, .int .i64 data]] w fun e w' => e = .returned (.agg #[.string (catOf name), .int .i64 1, .int .i64 data]) ∧ Below w.heap.size w w' := by
  have hb0 : Below w.heap.size w ((w.alloc (.cells #[.string name, .int .i64 id, .string kind, .int .i64 data] 35)).alloc (.cells #[.string ⟨#[]⟩, .int .i64 0, .int .i64 0] 29)) := ((Below.refl _ _).alloc (Nat.le_refl _) _).alloc (by simp) _
  obtain ⟨w0, hw0⟩ : ∃ w0, (w.alloc (.cells #[.string name, .int .i64 id, .string kind, .int .i64 data] 35)).alloc (.cells #[.string ⟨#[]⟩, .int .i64 0, .int .i64 0] 29) = w0 := ⟨_, rfl⟩
  have L0 : Live w0 fun W => (Below w.heap.size w W ∧ Blk W w.heap.size 35 #[.string name, .int .i64 id, .string kind, .int .i64 data]) ∧ Blk W (w.heap.size + 1) 29 #[.string ⟨#[]⟩, .int .i64 0, .int .i64 0] := by
    rw [← hw0]
    exact ((Live.since hb0).and (Live.blk ((Blk.new w _ _).alloc _))).and (Live.blk (blk_next w _ _ _))
  have HW := Lib.hid hw0
  have V := Lib.hid (fun W => l2Category_any name W hn hok)
  have V1 := Lib.hid (V.out w0.drew)
  have c0 : w0.drew.cell? ⟨w.heap.size, 0, none⟩ = some (.string name) := L0.now.1.2.cell 0
  have c3 : w0.drew.cell? ⟨w.heap.size, 3, none⟩ = some (.int .i64 data) := L0.now.1.2.cell 3
  have d0 : w0.drew.cell? ⟨w.heap.size + 1, 0, none⟩ = some (.string ⟨#[]⟩) := L0.now.2.cell 0
  have d1 : w0.drew.cell? ⟨w.heap.size + 1, 1, none⟩ = some (.int .i64 0) := L0.now.2.cell 1
  have d2 : w0.drew.cell? ⟨w.heap.size + 1, 2, none⟩ = some (.int .i64 0) := L0.now.2.cell 2
  have f0 : w0.drew.frozen? ⟨w.heap.size + 1, 0, none⟩ = false := L0.now.2.frozen 0
  have f1 : w0.drew.frozen? ⟨w.heap.size + 1, 1, none⟩ = false := L0.now.2.frozen 1
  have f2 : w0.drew.frozen? ⟨w.heap.size + 1, 2, none⟩ = false := L0.now.2.frozen 2
  have g1 : w0.cell? ⟨w.heap.size + 1, 1, none⟩ = some (.int .i64 0) := L0.now.2.cell 1
  have g2 : w0.cell? ⟨w.heap.size + 1, 2, none⟩ = some (.int .i64 0) := L0.now.2.cell 2
  have h1 : w0.frozen? ⟨w.heap.size + 1, 1, none⟩ = false := L0.now.2.frozen 1
  have h2 : w0.frozen? ⟨w.heap.size + 1, 2, none⟩ = false := L0.now.2.frozen 2
  clear hb0 hw0 V hok
  go_enter Tryd.func36, Tryd.ntmps36
  go_wp2_with fail
  rw [HW.out]
  go_region_law (go_simp; go_at_call 63; (with_reducible refine V1.out.mono ?_); (rintro e w9 ⟨⟨c, rfl, hc⟩, rfl⟩; obtain rfl := catOf_is hc.out))
  all_goals
    have BZ := (((L0.now.2.set_ 0 (.string (catOf name))).set_ 1 (.int .i64 1)).set_ 2 (.int .i64 data))
    have y0 := BZ.cell 0
    have y1 := BZ.cell 1
    have y2 := BZ.cell 2
    go_wp2_with fail
    refine bodyPost_ret (v := .agg #[.string (catOf name), .int .i64 1, .int .i64 data]) (by simp [results, Tryd.results36, go_sem, g1, g2, y0, y1, y2]) rfl ?_
    exact ⟨rfl, (((L0.now.1.1.setCell (p := ⟨w.heap.size + 1, 0, none⟩) (Nat.le_succ _) _).setCell (p := ⟨w.heap.size + 1, 1, none⟩) (Nat.le_succ _) _).setCell (p := ⟨w.heap.size + 1, 2, none⟩) (Nat.le_succ _) _).drew⟩
end Go.Proofs.YtlaolhhkchgakaaDoor
