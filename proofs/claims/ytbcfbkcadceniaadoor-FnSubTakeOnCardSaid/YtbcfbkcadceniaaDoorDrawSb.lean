/- Drawn subscribers. -/
import Derived.Test.YtbcfbkcadceniaaDoorSubV
import Derived.Test.YtbcfbkcadceniaaDoorDrawIn
namespace Go.Proofs.YtbcfbkcadceniaaDoor
set_option linter.unusedVariables false
set_option linter.unusedSimpArgs false
open Go.RowKit

def SbS (s : Sb) : Prop := s.cat.size ≤ 60 ∧ -1 ≤ s.at_ ∧ s.at_ ≤ 101
theorem SbS.big {s : Sb} (h : SbS s) : SbB s := ⟨small60 h.1, by have := h.2; omega, by have := h.2; omega⟩
def SbPost (r M : Nat) (w : World) (e : Ending) (w' : World) : Prop :=
  ∃ (cat : ByteArray) (at_ : Int), e = .returned (.agg #[.string cat, .int .i64 at_]) ∧ SbS ⟨cat, at_⟩ ∧ w.grownBy w' (some r) ∧ Rd w' r M
theorem lit_ats {w w' : World} {r : Nat} {t : TypeId} (hg : (w.alloc (.cells #[.int .i64 (-1), .int .i64 100, .int .i64 101] t)).grownBy w' (some r)) (hr : r < w.heap.size) {z : Nat} (hz : z < 3) :
    ∃ v : Int, w'.cell? ⟨w.heap.size, z, none⟩ = some (.int .i64 v) ∧ -1 ≤ v ∧ v ≤ 101 := by
  have B := blk_grew (Blk.new w t #[.int .i64 (-1), .int .i64 100, .int .i64 101]) hg (by omega)
  rcases (show z = 0 ∨ z = 1 ∨ z = 2 by omega) with rfl | rfl | rfl
  · exact ⟨-1, B.cell 0, by omega, by omega⟩
  · exact ⟨100, B.cell 1, by omega, by omega⟩
  · exact ⟨101, B.cell 2, by omega, by omega⟩
theorem sbs_of {c : ByteArray} {v : Int} (h1 : -1 ≤ v) (h2 : v ≤ 101) (h5 : c.size ≤ 60) : SbS ⟨c, v⟩ := ⟨h5, h1, h2⟩
set_option maxRecDepth 100000 in
set_option maxHeartbeats 4000000 in
theorem l92Sub_any (r N : Nat) (w : World) (h : Rd w r N) (hN : N ≤ 900000) :
    Calls Tryd.prog 68 #[.pointer (some ⟨r, 0, none⟩)] w (SbPost r (N + 3) w) := by
  have hr := h.lt
  go_enter Tryd.func68, Tryd.ntmps68
  go_wp2_with fail
  refine (pick_any r N _ _ (rd_alloc h _) (by omega) (by omega)).mono ?_
  rintro e w1 ⟨x, rfl, hx, hg1, h1⟩
  have hx := hx (by omega)
  have A1 := blk_grew (Blk.new w 60 #[.string ⟨#[]⟩, .int .i64 0]) hg1 (by omega)
  have hG1 := grow_trans (grow_alloc (grow_refl w r) _) hg1
  clear h hg1
  by_cases z0 : x = 0
  · have e0 : ((x : Int) == 0) = true := by rw [z0]; rfl
    clear z0
    go_wp2_with fail
    refine (of_lit r _ 3 _ _ _ h1 (by omega) rfl (by omega) (by omega) (by kernel_rfl)).mono ?_
    rintro e w2 ⟨s, rfl, hs, hg2, h2⟩
    have A2 := blk_grew A1 hg2 (by omega)
    have hG2 := grow_trans hG1 hg2
    have hr2 := h2.lt
    have hA2 := A2.lt
    clear h1 hg2 A1 hG1
    go_wp2_with fail
    refine (pick_any r _ _ _ (rd_alloc h2 _) (by omega) (by omega)).mono ?_
    rintro e w3 ⟨z, rfl, hz, hg3, h3⟩
    have hz := hz (by omega)
    obtain ⟨v, hv, hv1, hv2⟩ := lit_ats hg3 hr2 (z := z) (by omega)
    have A3 := blk_grew (A2.alloc _) hg3 (by omega)
    have hG3 := Lib.hid (grow_trans (grow_alloc hG2 _) hg3)
    have H3 := Lib.hid h3
    have k0 := A3.cell 0
    have k1 := A3.cell 1
    have f0 := A3.frozen 0
    have f1 := A3.frozen 1
    clear h2 hg3 A2 hG2 h3
    go_wp2_with fail
    refine bodyPost_ret (v := .agg #[.string s, .int .i64 v]) (by simp [results, Tryd.results68, go_sem, k0, k1]) rfl ?_
    refine ⟨_, _, rfl, sbs_of hv1 hv2 hs, ?_, ?_⟩
    · exact grow_set (grow_set hG3.out (by exact Nat.le_refl _) _) (by exact Nat.le_refl _) _
    · exact (rd_set (rd_set H3.out (by exact hr) _) (by exact hr) _).more (by omega)
  have e0 : ((x : Int) == 0) = false := beq_eq_false_iff_ne.2 (by omega)
  clear z0
  go_wp2_with fail
  refine (of_lit r _ 5 _ _ _ h1 (by omega) rfl (by omega) (by omega) (by kernel_rfl)).mono ?_
  rintro e w2 ⟨s, rfl, hs, hg2, h2⟩
  have A2 := blk_grew A1 hg2 (by omega)
  have hG2 := grow_trans hG1 hg2
  clear h1 hg2 A1 hG1
  go_wp2_with fail
  refine (pick_any r _ _ _ h2 (by omega) (by omega)).mono ?_
  rintro e w3 ⟨z, rfl, hz, hg3, h3⟩
  have hz := hz (by omega)
  have A3 := blk_grew A2 hg3 (by omega)
  have hG3 := Lib.hid (grow_trans hG2 hg3)
  have H3 := Lib.hid h3
  have k0 := A3.cell 0
  have k1 := A3.cell 1
  have f0 := A3.frozen 0
  have f1 := A3.frozen 1
  clear h2 hg3 A2 hG2 h3
  go_wp2_with fail
  refine bodyPost_ret (v := .agg #[.string s, .int .i64 z]) (by simp [results, Tryd.results68, go_sem, k0, k1]) rfl ?_
  refine ⟨_, _, rfl, sbs_of (by omega) (by omega) hs, ?_, ?_⟩
  · exact grow_set (grow_set hG3.out (by exact Nat.le_refl _) _) (by exact Nat.le_refl _) _
  · exact (rd_set (rd_set H3.out (by exact hr) _) (by exact hr) _).more (by omega)
/-- a drawn store and a subscriber, handed to a statement. -/
def EnsSub (w : World) (e : Ending) (w' : World) : Prop :=
  ∃ (A : Option Addr) (n c : Nat) (xs : List En) (cat : ByteArray) (at_ : Int), e = .returned (.tuple #[.slice A n c, .agg #[.string cat, .int .i64 at_]]) ∧ Row enCells 4 w' w'.heap.size A n xs ∧ Hid (∀ x ∈ xs, EnB x) ∧ n ≤ 30 ∧ n ≤ c ∧ Hid (A = none → c = 0) ∧ Hid (SbS ⟨cat, at_⟩) ∧ Below w.heap.size w w'
theorem row_self2 {W : World} {A : Option Addr} {k g o : Nat} {xs : List En} (H : Row enCells 4 W W.heap.size A k xs) (hA : ∀ p, A = some p → g < p.block) (u : Value) : Row enCells 4 (W.setCell ⟨g, o, none⟩ u) (W.setCell ⟨g, o, none⟩ u).heap.size A k xs := by
  have hg : W.grownBy (W.setCell ⟨g, o, none⟩ u) (some g) := ⟨rfl, rfl, rfl, by simp, fun i hi hne => Below.heap_setCell W ⟨g, o, none⟩ u i (fun e => hne (by rw [e]))⟩
  exact (H.grown (Nat.le_refl _) hg (fun p hp e => by have := hA p hp; injection e with e; omega)).more hg.size
set_option maxRecDepth 100000 in
set_option maxHeartbeats 4000000 in
theorem drawSubLeft_any (A : Option Addr) (n c : Nat) (w : World) (h : Code w A n c) :
    Calls Tryd.prog 35 #[.slice A n c] w (EnsSub w) := by
  have hb0 : Below w.heap.size w (w.alloc (.cells #[.string ⟨#[]⟩, .int .i64 0] 60)) := (Below.refl _ _).alloc (Nat.le_refl _) _
  have L0 : Live (w.alloc (.cells #[.string ⟨#[]⟩, .int .i64 0] 60)) fun W => Below w.heap.size w W ∧ Blk W w.heap.size 60 #[.string ⟨#[]⟩, .int .i64 0] := (Live.since hb0).and (Live.blk (Blk.new w _ _))
  have hc := h.below hb0
  clear h hb0
  go_enter Tryd.func35, Tryd.ntmps35
  go_wp2_with fail
  refine (open_any A n c _ hc).mono ?_
  rintro e w1 ⟨r, rfl, hr, hb1, h1⟩
  have hr0 : w.heap.size < r := by simp at hr; omega
  clear hc
  generalize w.alloc (.cells #[.string ⟨#[]⟩, .int .i64 0] 60) = w0 at *
  go_wp2_with fail
  refine (l91Store_any r 0 _ h1 (by omega)).mono ?_
  rintro e w2 ⟨v, k, xs, rfl, hl, hown, HB, hk, hg2, h2⟩
  obtain ⟨A', c', rfl, hkc, hnil, hrow, hbase⟩ := Row.of_own hown hl
  have hr1 := h1.lt
  have Hb := Lib.hid hbase
  have Hn := Lib.hid hnil
  clear hown h1 hl
  go_wp2_with fail
  refine (l92Sub_any r _ _ h2 (by omega)).mono ?_
  rintro e w3 ⟨cat, at_, rfl, hsb, hg3, h3⟩
  have HB3 := Lib.hid (drawn_below hr hb1 (grow_trans hg2 hg3))
  have R3 := (hrow.grown (Nat.le_refl _) hg3 (fun p hp e => by have := Hb.out p hp; injection e with e; omega)).more hg3.size
  have L3 := L0.next HB3.out
  have HS := Lib.hid hsb
  have z0 := L3.now.2.cell 0
  have z1 := L3.now.2.cell 1
  have y0 := L3.now.2.frozen 0
  have y1 := L3.now.2.frozen 1
  clear hrow h2 hg3 h3 hsb hg2
  go_wp2_with fail
  refine bodyPost_ret (v := .tuple #[.slice A' k c', .agg #[.string cat, .int .i64 at_]]) (by simp [results, Tryd.results35, go_sem, z0, z1]) rfl ?_
  have hA : ∀ p, A' = some p → w.heap.size < p.block := fun p hp => by have := Hb.out p hp; omega
  exact ⟨A', k, c', xs, cat, at_, rfl, row_self2 (row_self2 R3 hA _) hA _, HB, hk, hkc, Hn, HS, (L3.now.1.setCell (p := ⟨w.heap.size, 0, none⟩) (Nat.le_refl _) _).setCell (p := ⟨w.heap.size, 1, none⟩) (Nat.le_refl _) _⟩
end Go.Proofs.YtbcfbkcadceniaaDoor
