/- Drawn stores with a subscriber and how many. -/
import Derived.Test.YtbcfbkcadceniaaDoorDrawSb
import Derived.Deep.RegionLaw
namespace Go.Proofs.YtbcfbkcadceniaaDoor
set_option linter.unusedVariables false
set_option linter.unusedSimpArgs false
open Go.RowKit

/-- a drawn store, a subscriber and how many, handed to a statement. -/
def EnsSubMany (w : World) (e : Ending) (w' : World) : Prop :=
  ∃ (A : Option Addr) (n c : Nat) (xs : List En) (cat : ByteArray) (at_ m : Int), e = .returned (.tuple #[.slice A n c, .agg #[.string cat, .int .i64 at_], .int .i64 m]) ∧ Row enCells 4 w' w'.heap.size A n xs ∧ Hid (∀ x ∈ xs, EnB x) ∧ n ≤ 30 ∧ n ≤ c ∧ Hid (A = none → c = 0) ∧ Hid (SbS ⟨cat, at_⟩) ∧ -10 ≤ m ∧ m ≤ 10 ∧ Below w.heap.size w w'
set_option maxRecDepth 100000 in
set_option maxHeartbeats 4000000 in
theorem drawSubTake_any (A : Option Addr) (n c : Nat) (w : World) (h : Code w A n c) :
    Calls Tryd.prog 39 #[.slice A n c] w (EnsSubMany w) := by
  have hb0 : Below w.heap.size w (w.alloc (.cells #[.string ⟨#[]⟩, .int .i64 0] 60)) := (Below.refl _ _).alloc (Nat.le_refl _) _
  have L0 : Live (w.alloc (.cells #[.string ⟨#[]⟩, .int .i64 0] 60)) fun W => Below w.heap.size w W ∧ Blk W w.heap.size 60 #[.string ⟨#[]⟩, .int .i64 0] := (Live.since hb0).and (Live.blk (Blk.new w _ _))
  have hc := h.below hb0
  clear h hb0
  go_enter Tryd.func39, Tryd.ntmps39
  go_wp2_with fail
  refine (open_any A n c _ hc).mono ?_
  rintro e w1 ⟨r, rfl, hr, hb1, h1⟩
  have hr0 : w.heap.size < r := by simp at hr; omega
  clear hc
  generalize w.alloc (.cells #[.string ⟨#[]⟩, .int .i64 0] 60) = w0 at *
  go_wp2_with fail
  refine (l91Store_any r 0 _ h1 (by omega)).mono ?_
  rintro e w2 ⟨v, k, xs, rfl, hl, hown, HB, hk, hg2, h2⟩
  obtain ⟨A', c', rfl, hkc, hnil, hrow, hbase⟩ := Row.of_own hown hl
  have hr1 := h1.lt
  have Hb := Lib.hid hbase
  have Hn := Lib.hid hnil
  clear hown h1 hl
  go_wp2_with fail
  refine (l92Sub_any r _ _ h2 (by omega)).mono ?_
  rintro e w3 ⟨cat, at_, rfl, hsb, hg3, h3⟩
  have hG3 := grow_trans hg2 hg3
  have R3 := (hrow.grown (Nat.le_refl _) hg3 (fun p hp e => by have := Hb.out p hp; injection e with e; omega)).more hg3.size
  have HS := Lib.hid hsb
  have hr3 := h3.lt
  have HX := Lib.hid (Blk.new w3 60 #[.string cat, .int .i64 at_])
  have H3 := Lib.hid (rd_alloc h3 (.cells #[.string cat, .int .i64 at_] 60))
  have G3 := Lib.hid (grow_alloc hG3 (.cells #[.string cat, .int .i64 at_] 60))
  have HR := Lib.hid (R3.next ((Below.refl _ _).alloc (Nat.le_refl _) (.cells #[.string cat, .int .i64 at_] 60)))
  have hw0 : w0.heap.size ≤ w3.heap.size := Nat.le_trans hb1.size hG3.size
  have hwz : w.heap.size < w3.heap.size := by have := L0.now.2.lt; omega
  have L3 := Lib.hid (L0.next (drawn_below hr hb1 G3.out))
  clear hrow h2 hg3 h3 hsb hg2 R3
  go_wp2_with fail
  have hx0 := HX.out.cell 0
  have hx1 := HX.out.cell 1
  have z0 := L3.out.now.2.cell 0
  have z1 := L3.out.now.2.cell 1
  have y0 := L3.out.now.2.frozen 0
  have y1 := L3.out.now.2.frozen 1
  have P1 : Hid (Calls Tryd.prog 54 #[.pointer (some ⟨r, 0, none⟩), .int .i64 6] ((w3.alloc (.cells #[.string cat, .int .i64 at_] 60)).drew) (PickPost r (0 + 200 + 3) 6 ((w3.alloc (.cells #[.string cat, .int .i64 at_] 60)).drew))) := Lib.hid (pick_any r (0 + 200 + 3) 6 _ (rd_drewN H3.out 1) (by omega) (by omega))
  go_region_law (first
    | (go_simp; go_at_call 54; (with_reducible refine P1.out.mono ?_); go_must (rintro e w4 ⟨x, rfl, hx, hg4, h4⟩; have hx := hx (by omega); have X4 := blk_grew (show Blk ((w3.alloc (.cells #[.string cat, .int .i64 at_] 60)).drew) w3.heap.size 60 #[.string cat, .int .i64 at_] from HX.out) hg4 (by omega); have G4 := Lib.hid (grow_trans (grow_drewN G3.out 1) hg4); have H4 := Lib.hid h4; have L4 := Lib.hid (L0.next (drawn_below hr hb1 G4.out)); have d0 := X4.cell 0; have d1 := X4.cell 1; have u0 := L4.out.now.2.cell 0; have u1 := L4.out.now.2.cell 1; have v0 := L4.out.now.2.frozen 0; have v1 := L4.out.now.2.frozen 1; have P2 := Lib.hid (pick_any r _ 30 _ H4.out (by omega) (by omega)); clear h4))
    | (go_simp; go_at_call 54; (with_reducible refine P2.out.mono ?_); go_must (rintro e w5 ⟨y, rfl, hy, hg5, h5⟩; have hy := hy (by omega); have X5 := blk_grew X4 hg5 (by omega); have G5 := Lib.hid (grow_trans G4.out hg5); have L5 := Lib.hid (L0.next (drawn_below hr hb1 G5.out)); have a0 := X5.cell 0; have a1 := X5.cell 1; have p0 := L5.out.now.2.cell 0; have p1 := L5.out.now.2.cell 1; have q0 := L5.out.now.2.frozen 0; have q1 := L5.out.now.2.frozen 1; have y29 : (y : Int) / 29 ≤ 1 := (by omega); have y0' : (0 : Int) ≤ (y : Int) / 29 := (by omega); clear h5)))
  all_goals
    have R4 := ((show Row enCells 4 ((w3.alloc (.cells #[.string cat, .int .i64 at_] 60)).drew) ((w3.alloc (.cells #[.string cat, .int .i64 at_] 60)).drew).heap.size A' k xs from HR.out).grown (Nat.le_refl _) hg4 (fun p hp e => by have := Hb.out p hp; injection e with e; omega)).more hg4.size
    have R5 := (R4.grown (Nat.le_refl _) hg5 (fun p hp e => by have := Hb.out p hp; injection e with e; omega)).more hg5.size
    have hw1 : IntKind.i64.wrap ((y : Int) / 29) = (y : Int) / 29 := IntWalk.i64_in _ (by omega)
    have hw2 : IntKind.i64.wrap ((y : Int) / 29 * 6) = (y : Int) / 29 * 6 := IntWalk.i64_in _ (by omega)
    have hw3 : IntKind.i64.wrap ((x : Int) - (y : Int) / 29 * 6) = (x : Int) - (y : Int) / 29 * 6 := IntWalk.i64_in _ (by omega)
    rw [hw1, hw2, hw3]
    have hm1 : -10 ≤ (x : Int) - (y : Int) / 29 * 6 := by omega
    have hm2 : (x : Int) - (y : Int) / 29 * 6 ≤ 10 := by omega
    generalize (x : Int) - (y : Int) / 29 * 6 = mm at *
    have hA : ∀ p, A' = some p → w.heap.size < p.block := fun p hp => by have := Hb.out p hp; omega
    have RR := row_self2 (row_self2 (o := 0) R5 hA (.string cat)) (o := 1) hA (.int .i64 at_)
    have BB := (L5.out.now.1.setCell (p := ⟨w.heap.size, 0, none⟩) (Nat.le_refl _) (.string cat)).setCell (p := ⟨w.heap.size, 1, none⟩) (Nat.le_refl _) (.int .i64 at_)
    have HRR := Lib.hid RR
    have HBB := Lib.hid BB
    clear RR BB R4 R5 hg4 hg5 hw1 hw2 hw3
    go_wp2_with fail
    refine bodyPost_ret (v := .tuple #[.slice A' k c', .agg #[.string cat, .int .i64 at_], .int .i64 mm]) (by simp [results, Tryd.results39, go_sem, p0, p1]) rfl ?_
    exact ⟨A', k, c', xs, cat, at_, mm, rfl, HRR.out, HB, hk, hkc, Hn, HS, hm1, hm2, HBB.out⟩
end Go.Proofs.YtbcfbkcadceniaaDoor
