/- Two rows of the same cuts are the same; drawn cuts with a cut. -/
import Derived.Test.YtbcfbkcadceniaaDoorPutSC
namespace Go.Proofs.YtbcfbkcadceniaaDoor
set_option linter.unusedVariables false
set_option linter.unusedSimpArgs false
open Go.RowKit

set_option maxRecDepth 100000 in
set_option maxHeartbeats 4000000 in
theorem sameCuts_self (A B : Option Addr) (n c d : Nat) (cs : List Cut) (w : World) (h : Row cutCells 2 w w.heap.size A n cs) (h' : Row cutCells 2 w w.heap.size B n cs) (hnb : n ≤ 1000000) :
    Calls Tryd.prog 28 #[.slice A n c, .slice B n d] w fun e w' => e = .returned (.bool true) ∧ Below w.heap.size w w' := by
  have L0 := ((Live.since (Below.refl w.heap.size w)).and (Live.row h)).and (Live.row h')
  have e0 : (((n : Nat) : Int) != ((n : Nat) : Int)) = false := by simp
  clear h h'
  go_enter Tryd.func28, Tryd.ntmps28
  go_wp2_with fail
  go_loopw [5] (fun i wr => ∃ k : Nat, k ≤ n ∧ i = .int .i64 (k : Int) ∧ Live wr fun W => (Below w.heap.size w W ∧ Row cutCells 2 W W.heap.size A n cs) ∧ Row cutCells 2 W W.heap.size B n cs) (fun i _ => n - (intOf i).toNat)
  case atStart => exact ⟨0, Nat.zero_le _, rfl, L0⟩
  case round =>
    obtain ⟨k, hk, rfl, L⟩ := hrel
    by_cases hlt : k < n
    · have hlt' : (k : Int) < (n : Int) := by omega
      obtain ⟨b, off, rfl, hb, -⟩ := L.now.1.2.cut_at (by omega)
      obtain ⟨b', off', rfl, hb', -⟩ := L.now.2.cut_at (by omega)
      have c0 := fun (x : On wr) => ((L.next x.below).now.1.2.cut_at2 k hlt).1
      have c1 := fun (x : On wr) => ((L.next x.below).now.1.2.cut_at2 k hlt).2
      have d0 := fun (x : On wr) => ((L.next x.below).now.2.cut_at2 k hlt).1
      have d1 := fun (x : On wr) => ((L.next x.below).now.2.cut_at2 k hlt).2
      have hs : ((nx cs k).name.toList == (nx cs k).name.toList) = true := beq_self_eq_true _
      have hi : ((nx cs k).at_ == (nx cs k).at_) = true := beq_self_eq_true _
      go_wp2_with fail
      refine wp_region_on (by kernel_rfl) (by kernel_rfl) ?_
      repeat (go_big_quiet_step (fail))
      refine wpQuiet_nil ?_
      intro w4 hw'
      obtain ⟨⟨w4b, hb4⟩, hw''⟩ := hw'
      obtain rfl : w4 = w4b := hw''
      go_wp2_with fail
      go_roundw
      case rel => exact ⟨k + 1, by omega, by go_num, L.next hb4⟩
      case measure => simp [intOf]; omega
    · have hlt' : ¬ (k : Int) < (n : Int) := by omega
      go_wp2_with fail
      go_ret
      exact ⟨rfl, L.now.1.1⟩
def CutDrawn (w : World) (e : Ending) (w' : World) : Prop :=
  ∃ (B : Option Addr) (m d : Nat) (cs : List Cut) (s : ByteArray) (v : Int), e = .returned (.tuple #[.slice B m d, .agg #[.string s, .int .i64 v]]) ∧ Row cutCells 2 w' w'.heap.size B m cs ∧ Hid (SmallCuts cs) ∧ m ≤ 6 ∧ m ≤ d ∧ Hid (B = none → d = 0) ∧ s.size ≤ 60 ∧ Below w.heap.size w w'
set_option maxRecDepth 100000 in
set_option maxHeartbeats 4000000 in
theorem drawCutsPut_any (A : Option Addr) (n c : Nat) (w : World) (h : Code w A n c) :
    Calls Tryd.prog 25 #[.slice A n c] w (CutDrawn w) := by
  have hb0 : Below w.heap.size w (w.alloc (.cells #[.string ⟨#[]⟩, .int .i64 0] 42)) := (Below.refl _ _).alloc (Nat.le_refl _) _
  have L0 : Live (w.alloc (.cells #[.string ⟨#[]⟩, .int .i64 0] 42)) fun W => Below w.heap.size w W ∧ Blk W w.heap.size 42 #[.string ⟨#[]⟩, .int .i64 0] := (Live.since hb0).and (Live.blk (Blk.new w _ _))
  have hc := h.below hb0
  clear h hb0
  go_enter Tryd.func25, Tryd.ntmps25
  go_wp2_with fail
  refine (open_any A n c _ hc).mono ?_
  rintro e w1 ⟨r, rfl, hr, hb1, h1⟩
  have hr0 : w.heap.size < r := by simp at hr; omega
  clear hc
  generalize w.alloc (.cells #[.string ⟨#[]⟩, .int .i64 0] 42) = w0 at *
  go_wp2_with fail
  refine (l92Cuts_any r 0 _ h1 (by omega)).mono ?_
  rintro e w3 ⟨u, m, cs, rfl, hlm, U, HS, hm, hg3, h3⟩
  obtain ⟨B, d, rfl, p1, p2, p3, hbase⟩ := Row.of_own U.out hlm.out
  have hr1 := h1.lt
  have Hb := Lib.hid hbase
  have Hn := Lib.hid p2
  have hg3' := hg3.out
  clear U h1
  go_wp2_with fail
  refine (l91Name_any r _ _ h3 (by omega)).mono ?_
  rintro e w4 ⟨s, rfl, hs, hg4, h4⟩
  have R4 := (p3.grown (Nat.le_refl _) hg4 (fun p hp e => by have := Hb.out p hp; injection e with e; omega)).more hg4.size
  have G4 := grow_trans hg3' hg4
  clear h3 hg4 p3 hg3'
  go_wp2_with fail
  refine (pick_any r _ _ _ h4 (by omega) (by omega)).mono ?_
  rintro e w5 ⟨x, rfl, hx, hg5, h5⟩
  have hx := hx (by omega)
  have R5 := (R4.grown (Nat.le_refl _) hg5 (fun p hp e => by have := Hb.out p hp; injection e with e; omega)).more hg5.size
  have G5 := grow_trans G4 hg5
  clear h4 hg5 R4 G4
  go_wp2_with fail
  refine (pick_any r _ _ _ h5 (by omega) (by omega)).mono ?_
  rintro e w6 ⟨y, rfl, hy, hg6, h6⟩
  have hy := hy (by omega)
  have R6 := Lib.hid ((R5.grown (Nat.le_refl _) hg6 (fun p hp e => by have := Hb.out p hp; injection e with e; omega)).more hg6.size)
  have L6 := L0.next (drawn_below hr hb1 (grow_trans G5 hg6))
  have z0 := L6.now.2.cell 0
  have z1 := L6.now.2.cell 1
  have y0 := L6.now.2.frozen 0
  have y1 := L6.now.2.frozen 1
  have y11 : (y : Int) / 11 ≤ 1 := by omega
  have y10 : (0 : Int) ≤ (y : Int) / 11 := by omega
  clear h5 hg6 R5 G5 h6
  go_wp2_with fail
  refine bodyPost_ret (v := .tuple #[.slice B m d, .agg #[.string s, .int .i64 ((x : Int) + (y : Int) / 11 * 20)]]) (by simp [results, Tryd.results25, go_sem, z0, z1]) rfl ?_
  have hA : ∀ p, B = some p → p.block ≠ w.heap.size := fun p hp => by have := Hb.out p hp; omega
  have one : ∀ (X : World) (o : Nat) (v : Value), Row cutCells 2 X X.heap.size B m cs → Row cutCells 2 (X.setCell ⟨w.heap.size, o, none⟩ v) (X.setCell ⟨w.heap.size, o, none⟩ v).heap.size B m cs := fun X o v h =>
    have hg : X.grownBy (X.setCell ⟨w.heap.size, o, none⟩ v) (some w.heap.size) := ⟨rfl, rfl, rfl, by simp, fun i hi hne => Below.heap_setCell X ⟨w.heap.size, o, none⟩ v i (fun e => hne (by rw [e]))⟩
    (h.grown (Nat.le_refl _) hg (fun p hp e => hA p hp (Option.some.inj e).symm)).more hg.size
  exact ⟨B, m, d, cs, s, _, rfl, one _ _ _ (one _ _ _ R6.out), Lib.hid HS.out.small, hm, p1, Hn, hs, (L6.now.1.setCell (p := ⟨w.heap.size, 0, none⟩) (Nat.le_refl _) _).setCell (p := ⟨w.heap.size, 1, none⟩) (Nat.le_refl _) _⟩
end Go.Proofs.YtbcfbkcadceniaaDoor
