/- The walk of laws.FnExactGroupOwner. -/
import Derived.Test.YtnfncnpnkmjjeaaDoorTG
import Derived.Test.YtnfncnpnkmjjeaaDoorOwnO
import Derived.Deep.RegionLaw
namespace Go.Proofs.YtnfncnpnkmjjeaaDoor
set_option linter.unusedVariables false
set_option linter.unusedSimpArgs false
open Go.RowKit

set_option maxRecDepth 100000 in
set_option maxHeartbeats 8000000 in
theorem law_FnExactGroupOwner (st : Int) (A : Option Addr) (n c : Nat) (ms : List ByteArray) (s : ByteArray) (w : World) (h : Strs w w.heap.size A n ms) (hsm : AllSmall ms) (hs : s.size ≤ maxLen) (hnb : n ≤ maxLen) (hg : GE w) :
    Calls Tryd.prog 3 #[.agg #[.int .i64 st, .slice A n c], .string s] w fun e w' => e = .returned (.bool true) ∧ Below w.heap.size w w' := by
  have hb0 : Below w.heap.size w (w.alloc (.cells #[.int .i64 st, .slice A n c] 24)) := (Below.refl _ _).alloc (Nat.le_refl _) _
  have L0 : Live (w.alloc (.cells #[.int .i64 st, .slice A n c] 24)) fun W => ((Below w.heap.size w W ∧ Strs W W.heap.size A n ms) ∧ GE W) ∧ Blk W w.heap.size 24 #[.int .i64 st, .slice A n c] := (((Live.since hb0).and (Live.strs (h.next hb0))).and (Live.ge (hg.below hb0))).and (Live.blk (Blk.new w _ _))
  have Hs := Lib.hid hsm
  have Hn := Lib.hid hnb
  have Hl := Lib.hid h.len
  have Hsz := Lib.hid hs
  have a0 := L0.now.2.cell 0
  have a1 := L0.now.2.cell 1
  clear h hsm hnb hs hg hb0
  by_cases hbig : (1048576 : Int) < (s.size : Int)
  · go_enter Tryd.func3, Tryd.ntmps3
    go_wp2_with fail
    go_ret
    exact ⟨rfl, L0.now.1.1.1⟩
  have SZ := Lib.hid (szGroup_any st A n c ms 1048576 _ L0.now.1.1.2 Hs.out Hn.out (by omega) (by omega))
  go_enter Tryd.func3, Tryd.ntmps3
  go_upto_region 5 with (go_at_call 7; (with_reducible refine SZ.out.mono ?_); (rintro e w1 ⟨r, rfl, hr0, hr1, hr2, hb1⟩; have L1 := L0.next hb1))
  by_cases hr : r < 0
  · go_wp2_with fail
    go_ret
    exact ⟨rfl, L1.now.1.1.1⟩
  have hnn : n ≤ 2000000 := by have := hr0 (by omega); omega
  have a0 := L1.now.2.cell 0
  have a1 := L1.now.2.cell 1
  clear hb1 L0 hr0 hr1 hr2
  have TGc := Lib.hid (fun W H => toGroup_any st A n c ms W H hnn)
  have P1 := Lib.hid (TGc.out _ L1.now.1.1.2)
  go_upto_region 8 with (first
    | (go_at_call 9; (with_reducible refine P1.out.mono ?_); (rintro e w2 ⟨A2, n2, c2, rfl, ⟨-, rfl⟩, hs2, hb2⟩; have L2 := (L1.next hb2).and (Live.strs hs2); have Q2 := Lib.hid (groupOwnerS_any st A2 ms.length c2 ms s w2 hs2 Hs.out Hsz.out (by rw [Hl.out]; exact hnn))))
    | (go_at_call 8; (with_reducible refine Q2.out.mono ?_); (rintro e w3 ⟨rfl, hb3⟩; have L3 := L2.next hb3)))
  have a0 := L3.now.1.2.cell 0
  have a1 := L3.now.1.2.cell 1
  clear hb2 hb3 hs2 L1 L2 P1 Q2
  have P3 := Lib.hid (TGc.out _ L3.now.1.1.1.2)
  go_upto_region 9 with (go_at_call 9; (with_reducible refine P3.out.mono ?_); (rintro e w4 ⟨A4, n4, c4, rfl, ⟨-, rfl⟩, hs4, hb4⟩; have L4 := (((L3.next hb4).and (Live.strs hs4)).next ((Below.refl _ _).alloc (Nat.le_refl _) (.cells #[.int .i64 st, .slice A4 ms.length c4] 27))).and (Live.blk (Blk.new w4 27 #[.int .i64 st, .slice A4 ms.length c4]))))
  clear a0 a1
  have a0 := L4.now.1.1.1.2.cell 0
  have a1 := L4.now.1.1.1.2.cell 1
  have b0 := L4.now.2.cell 0
  have b1 := L4.now.2.cell 1
  have P4 := Lib.hid (groupOwner_any st A4 ms.length c4 ms s _ L4.now.1.2 Hs.out Hsz.out (by rw [Hl.out]; exact hnn) L4.now.1.1.1.1.2)
  clear hb4 hs4 L3 P3
  obtain ⟨o, ho⟩ : ∃ o, groupOwner st ms s = o := ⟨_, rfl⟩
  rw [ho] at P4
  rw [ho]
  clear ho
  have el : (o.toList == o.toList) = true := beq_self_eq_true _
  have el2 : (o.toList != o.toList) = false := by simp
  go_upto_region 12 with (go_at_call 10; (with_reducible refine P4.out.mono ?_); (rintro e w5 ⟨rfl, hb5⟩; have L5 := L4.next hb5))
  have LD := L5.next ((Below.refl _ _).drew)
  clear a0 a1 b0 b1 hb5 L4
  have a0 : w5.drew.cell? ⟨w.heap.size, 0, none⟩ = some (.int .i64 st) := LD.now.1.1.1.2.cell 0
  have a1 : w5.drew.cell? ⟨w.heap.size, 1, none⟩ = some (.slice A n c) := LD.now.1.1.1.2.cell 1
  have b0 : w5.drew.cell? ⟨w4.heap.size, 0, none⟩ = some (.int .i64 st) := LD.now.2.cell 0
  have b1 : w5.drew.cell? ⟨w4.heap.size, 1, none⟩ = some (.slice A4 ms.length c4) := LD.now.2.cell 1
  have P5 := Lib.hid (TGc.out w5.drew LD.now.1.1.1.1.1.2)
  go_region_law (first
    | (go_simp; go_at_call 9; (with_reducible refine P5.out.mono ?_); (rintro e w6 ⟨A6, n6, c6, rfl, ⟨-, rfl⟩, hs6, hb6⟩; have L6 := (LD.next hb6).and (Live.strs hs6); have d0 := L6.now.1.2.cell 0; have d1 := L6.now.1.2.cell 1; have P6 := Lib.hid (eqGroup_any st A4 A6 ms.length c4 ms.length c6 ms w6 L6.now.1.1.2 L6.now.2 (by rw [Hl.out]; omega) (by rw [Hl.out]; omega)); clear hs6))
    | (go_simp; go_at_call 11; (with_reducible refine P6.out.mono ?_); (rintro e w7 ⟨rfl, hb7⟩)))
  all_goals
    go_wp2_with fail
    go_ret
    exact ⟨rfl, (L6.next hb7).now.1.1.1.1.1.1.1⟩
end Go.Proofs.YtnfncnpnkmjjeaaDoor
