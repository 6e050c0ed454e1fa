/- Drawing a category and a number. -/
import Derived.Test.YtecijlebfpbpaaaDoorDrawN
import Derived.Deep.QuietTactic
import Derived.BigQuiet
import Derived.Deep.DeepMust
import Derived.Deep.RegionLaw
import Derived.Test.YtecijlebfpbpaaaDoorSl
namespace Go.Proofs.YtecijlebfpbpaaaDoor
set_option linter.unusedVariables false
set_option linter.unusedSimpArgs false
open Go.RowKit
theorem of_blk {r N g n : Nat} {cs : Array Value} {T : TypeId} {w : World} (h : Rd w r N) (hN : N ≤ 1000000) (hg : w.heap[g]? = some (.cells cs T (0, 0))) (hne : g ≠ r) (hn : cs.size = n) (h1 : 1 ≤ n) (h2 : n ≤ 1000) (hok : strsOk cs = true) :
    Calls Tryd.prog 49 #[.pointer (some ⟨r, 0, none⟩), .slice (some ⟨g, 0, none⟩) n n] w (StrPost r (N + 1) w) := by
  subst hn
  exact of_any r N g 0 cs.size cs.size _ h hN hne h1 h2 (strs_lit hg hok)
def fourInts : Array Value := #[.int .i64 (-1), .int .i64 0, .int .i64 999, .int .i64 1000]
theorem four_at {y : Nat} (h : y < 4) : ∃ v : Int, fourInts[y]? = some (.int .i64 v) ∧ -1000 ≤ v ∧ v ≤ 1000 := by
  obtain rfl | rfl | rfl | rfl : y = 0 ∨ y = 1 ∨ y = 2 ∨ y = 3 := by omega
  · exact ⟨-1, rfl, by omega, by omega⟩
  · exact ⟨0, rfl, by omega, by omega⟩
  · exact ⟨999, rfl, by omega, by omega⟩
  · exact ⟨1000, rfl, by omega, by omega⟩
theorem blk_grown {w w' : World} {r g : Nat} {o : Obj} (h : w.heap[g]? = some o) (hg : w.grownBy w' (some r)) (hne : g ≠ r) : w'.heap[g]? = some o :=
  (hg.block g (Array.getElem?_eq_some_iff.1 h).1 (fun e => hne (Option.some.inj e))).trans h
set_option maxRecDepth 100000 in
set_option maxHeartbeats 4000000 in
theorem drawNameOf_any (A : Option Addr) (n c : Nat) (w : World) (h : Code w A n c) :
    Calls Tryd.prog 27 #[.slice A n c] w (StrIntDrawn w) := by
  go_enter Tryd.func27, Tryd.ntmps27
  go_wp2_with fail
  refine (open_any A n c _ h).mono ?_
  rintro e w1 ⟨r, rfl, hr, hb1, h1⟩
  clear h
  go_wp2_with fail
  refine (pick_any r 0 _ _ h1 (by omega) (by omega)).mono ?_
  rintro e w2 ⟨x, rfl, hx, hg2, h2⟩
  have hb2 := drawn_below hr hb1 hg2
  by_cases hz : x = 0
  · have hb : ((x : Int) == 0) = true := by rw [hz]; rfl
    clear hz
    go_wp2_with fail
    have hr2 := h2.lt
    obtain ⟨S, hS⟩ : ∃ S : Array Value, S = #[.string ⟨#[]⟩, .string ⟨#[97, 98, 99, 100, 101, 102, 103]⟩, .string ⟨#[65]⟩, .string ⟨#[97, 45]⟩, .string ⟨#[97, 98, 99, 100, 101, 102]⟩] := ⟨_, rfl⟩
    have hsz : (w2.alloc (.cells fourInts 3)).heap.size = w2.heap.size + 1 := by simp
    have hsz2 : (w2.alloc (.cells S 9)).heap.size = w2.heap.size + 1 := by simp
    have B1 : Blk ((w2.alloc (.cells S 9)).drew) w2.heap.size 9 S := Blk.new w2 9 S
    have B1' : Blk (((w2.alloc (.cells S 9)).alloc (.cells fourInts 3)).drew) w2.heap.size 9 S := (Blk.new w2 9 S).alloc _
    have B2 : Blk (((w2.alloc (.cells S 9)).alloc (.cells fourInts 3)).drew) (w2.heap.size + 1) 3 fourInts := by have := Blk.new (w2.alloc (.cells S 9)) 3 fourInts; rw [hsz2] at this; exact this
    have B3 : Blk (((w2.alloc (.cells fourInts 3)).alloc (.cells S 9)).drew) (w2.heap.size + 1) 9 S := by have := Blk.new (w2.alloc (.cells fourInts 3)) 9 S; rw [hsz] at this; exact this
    have B4 : Blk (((w2.alloc (.cells fourInts 3)).alloc (.cells S 9)).drew) w2.heap.size 3 fourInts := (Blk.new w2 3 fourInts).alloc _
    have hok : strsOk S = true := by rw [hS]; kernel_rfl
    have hs5 : S.size = 5 := by rw [hS]; rfl
    have G2 := Lib.hid hg2
    have PA : Hid (Calls Tryd.prog 49 #[.pointer (some ⟨r, 0, none⟩), .slice (some ⟨w2.heap.size, 0, none⟩) 5 5] ((w2.alloc (.cells S 9)).drew) (StrPost r (0 + 1 + 1) ((w2.alloc (.cells S 9)).drew))) := Lib.hid (of_blk (rd_drewN (rd_alloc h2 _) 1) (by omega) B1 (show w2.heap.size ≠ r by omega) hs5 (by omega) (by omega) hok)
    have PB : Hid (Calls Tryd.prog 49 #[.pointer (some ⟨r, 0, none⟩), .slice (some ⟨w2.heap.size, 0, none⟩) 5 5] (((w2.alloc (.cells S 9)).alloc (.cells fourInts 3)).drew) (StrPost r (0 + 1 + 1) (((w2.alloc (.cells S 9)).alloc (.cells fourInts 3)).drew))) := Lib.hid (of_blk (rd_drewN (rd_alloc (rd_alloc h2 _) _) 1) (by omega) B1' (show w2.heap.size ≠ r by omega) hs5 (by omega) (by omega) hok)
    have PC : Hid (Calls Tryd.prog 49 #[.pointer (some ⟨r, 0, none⟩), .slice (some ⟨w2.heap.size + 1, 0, none⟩) 5 5] (((w2.alloc (.cells fourInts 3)).alloc (.cells S 9)).drew) (StrPost r (0 + 1 + 1) (((w2.alloc (.cells fourInts 3)).alloc (.cells S 9)).drew))) := Lib.hid (of_blk (rd_drewN (rd_alloc (rd_alloc h2 _) _) 1) (by omega) B3 (show w2.heap.size + 1 ≠ r by omega) hs5 (by omega) (by omega) hok)
    have HB2 := Lib.hid B2
    have HB4 := Lib.hid B4
    have Hb1 := Lib.hid hb1
    have GA := Lib.hid (grow_drewN (grow_alloc hg2 (.cells S 9)) 1)
    have GB := Lib.hid (grow_drewN (grow_alloc (grow_alloc hg2 (.cells S 9)) (.cells fourInts 3)) 1)
    have GC := Lib.hid (grow_drewN (grow_alloc (grow_alloc hg2 (.cells fourInts 3)) (.cells S 9)) 1)
    subst hS
    unfold fourInts at PB PC HB2 HB4 GB GC
    clear B1 B1' B2 B3 B4 hok hs5 hb2 h2 hg2 h1 hb1 hsz hsz2 hx
    go_region_law (first
      | (go_simp; go_at_call 49; (with_reducible refine PA.out.mono ?_); (rintro e w3 ⟨s, rfl, hs, hg3, h3⟩; have G3 := Lib.hid (grow_alloc (grow_trans GA.out hg3) (.cells #[.int .i64 (-1), .int .i64 0, .int .i64 999, .int .i64 1000] 3)); have PK := Lib.hid (pick_any r _ 4 _ (rd_alloc h3 (.cells #[.int .i64 (-1), .int .i64 0, .int .i64 999, .int .i64 1000] 3)) (by omega) (by omega)); have HI := Lib.hid (Blk.new w3 3 #[.int .i64 (-1), .int .i64 0, .int .i64 999, .int .i64 1000]); have hr3 := h3.lt; have PK0 := Lib.hid (pick_any r _ 4 w3 h3 (by omega) (by omega)); have G30 := Lib.hid (grow_trans GA.out hg3); clear hg3 h3))
      | (go_simp; go_at_call 49; (with_reducible refine PB.out.mono ?_); (rintro e w3 ⟨s, rfl, hs, hg3, h3⟩; have G3 := Lib.hid (grow_trans GB.out hg3); have PK := Lib.hid (pick_any r _ 4 _ h3 (by omega) (by omega)); have HI := Lib.hid (blk_grown HB2.out hg3 (by omega)); have hr3 := h3.lt; clear hg3 h3))
      | (go_simp; go_at_call 49; (with_reducible refine PC.out.mono ?_); (rintro e w3 ⟨s, rfl, hs, hg3, h3⟩; have G3 := Lib.hid (grow_trans GC.out hg3); have PK := Lib.hid (pick_any r _ 4 _ h3 (by omega) (by omega)); have HI := Lib.hid (blk_grown HB4.out hg3 (by omega)); have hr3 := h3.lt; clear hg3 h3))
      | (go_simp; go_at_call 48; (with_reducible refine PK0.out.mono ?_); (rintro e w4 ⟨y, rfl, hy, hg4, h4⟩; have hy := hy (by omega); obtain ⟨v, hv, hv1, hv2⟩ := four_at (y := y) (by omega); have G4 := Lib.hid (grow_alloc (grow_trans G30.out hg4) (.cells #[.int .i64 (-1), .int .i64 0, .int .i64 999, .int .i64 1000] 3)); have cI := (Blk.cell (Blk.new w4 3 #[.int .i64 (-1), .int .i64 0, .int .i64 999, .int .i64 1000]) y).trans hv; clear hg4 h4))
      | (go_simp; go_at_call 48; (with_reducible refine PK.out.mono ?_); (rintro e w4 ⟨y, rfl, hy, hg4, h4⟩; have hy := hy (by omega); obtain ⟨v, hv, hv1, hv2⟩ := four_at (y := y) (by omega); have B4 := blk_grown HI.out hg4 (by omega); have G4 := Lib.hid (grow_trans G3.out hg4); have cI := (Blk.cell B4 y).trans hv; clear hg4 h4 B4)))
    all_goals
      go_wp2_with fail
      go_ret2
      exact ⟨s, v, rfl, hs, hv1, hv2, drawn_below hr Hb1.out G4.out⟩
  · have hb : ((x : Int) == 0) = false := beq_eq_false_iff_ne.2 (by omega)
    clear hz
    go_wp2_with fail
    refine (of_lit r (0 + 1) 3 _ _ _ h2 (by omega) rfl (by omega) (by omega) (by kernel_rfl)).mono ?_
    rintro e w3 ⟨s, rfl, hs, hg3, h3⟩
    have hb3 := drawn_below hr hb2 hg3
    go_wp2_with fail
    refine (pick_any r _ _ _ h3 (by omega) (by omega)).mono ?_
    rintro e w4 ⟨y, rfl, hy, hg4, h4⟩
    have hb4 := drawn_below hr hb3 hg4
    have hy := hy (by omega)
    go_wp2_with fail
    refine (pick_any r _ _ _ h4 (by omega) (by omega)).mono ?_
    rintro e w5 ⟨z, rfl, hz, hg5, h5⟩
    have hb5 := drawn_below hr hb4 hg5
    have hz := hz (by omega)
    clear h1 h2 h3 h4 h5 hg2 hg3 hg4 hg5 hb1 hb2 hb3 hb4
    have hm : (y : Int) * (1 + (z : Int)) ≤ 199 * 5 := Int.mul_le_mul (by omega) (by omega) (by omega) (by omega)
    have hm0 : 0 ≤ (y : Int) * (1 + (z : Int)) := Int.mul_nonneg (by omega) (by omega)
    go_wp2_with fail
    go_ret2
    exact ⟨s, _, rfl, hs, by omega, by omega, hb5⟩
end Go.Proofs.YtecijlebfpbpaaaDoor
