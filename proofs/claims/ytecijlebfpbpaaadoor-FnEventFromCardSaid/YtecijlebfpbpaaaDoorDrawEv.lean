/- Drawn events. -/
import Derived.Test.YtecijlebfpbpaaaDoorDrawN
import Derived.Test.YtecijlebfpbpaaaDoorStreams
namespace Go.Proofs.YtecijlebfpbpaaaDoor
set_option linter.unusedVariables false
set_option linter.unusedSimpArgs false
open Go.RowKit

def EvB (e : Ev) : Prop := e.kind.size ≤ 60 ∧ -100000 ≤ e.id ∧ e.id ≤ 100000 ∧ -100000 ≤ e.data ∧ e.data ≤ 100000
def EnB (x : En) : Prop := x.name.size ≤ 60 ∧ EvB x.ev
/-- a drawn event. -/
def EvPost (r M : Nat) (w : World) (e : Ending) (w' : World) : Prop :=
  ∃ (id : Int) (kind : ByteArray) (data : Int), e = .returned (.agg #[.int .i64 id, .string kind, .int .i64 data]) ∧ EvB ⟨id, kind, data⟩ ∧ w.grownBy w' (some r) ∧ Rd w' r M
def intsOk (cs : Array Value) : Bool := cs.all fun | .int .i64 v => decide (-100000 ≤ v) && decide (v ≤ 100000) | _ => false
theorem ints_lit {cs : Array Value} (hok : intsOk cs = true) {z : Nat} (hz : z < cs.size) : ∃ v : Int, cs[z]? = some (.int .i64 v) ∧ -100000 ≤ v ∧ v ≤ 100000 := by
  have h := (Array.all_eq_true.1 hok) z hz
  rw [Array.getElem?_eq_getElem hz]
  split at h
  · rename_i v e
    rw [Bool.and_eq_true, decide_eq_true_eq, decide_eq_true_eq] at h
    exact ⟨v, by rw [e], h.1, h.2⟩
  · cases h
theorem blk_grew {w w' : World} {r g : Nat} {t : TypeId} {cs : Array Value} (h : Blk w g t cs) (hg : w.grownBy w' (some r)) (hne : g ≠ r) : Blk w' g t cs := h.grown hg (fun e => hne (Option.some.inj e))
/-- a place in a list of numbers that was just laid. -/
theorem lit_ints {w w' : World} {r : Nat} {t : TypeId} {cs : Array Value} (hg : (w.alloc (.cells cs t)).grownBy w' (some r)) (hr : r < w.heap.size) (hok : intsOk cs = true) {z : Nat} (hz : z < cs.size) :
    ∃ v : Int, w'.cell? ⟨w.heap.size, z, none⟩ = some (.int .i64 v) ∧ -100000 ≤ v ∧ v ≤ 100000 := by
  obtain ⟨v, h1, h2⟩ := ints_lit hok hz
  exact ⟨v, ((blk_grew (Blk.new w t cs) hg (by omega)).cell z).trans h1, h2⟩

def evZ : Array Value := #[.int .i64 0, .string ⟨#[]⟩, .int .i64 0]
set_option maxHeartbeats 4000000 in
theorem l91Event_any (r N : Nat) (w : World) (h : Rd w r N) (hN : N ≤ 900000) :
    Calls Tryd.prog 47 #[.pointer (some ⟨r, 0, none⟩)] w (EvPost r (N + 6) w) := by
  have hr := h.lt
  go_enter Tryd.func47, Tryd.ntmps47
  go_wp2_with fail
  refine (pick_any r N _ _ (rd_alloc h _) (by omega) (by omega)).mono ?_
  rintro e w1 ⟨x, rfl, hx, hg1, h1⟩
  have hx := hx (by omega)
  have A1 := blk_grew (Blk.new w 34 #[.int .i64 0, .string ⟨#[]⟩, .int .i64 0]) hg1 (by omega)
  have hG1 := grow_trans (grow_alloc (grow_refl w r) _) hg1
  clear h hg1
  go_wp2_with fail
  refine (of_lit r (N + 1) 4 _ _ _ h1 (by omega) rfl (by omega) (by omega) (by kernel_rfl)).mono ?_
  rintro e w2 ⟨s, rfl, hs, hg2, h2⟩
  have A2 := blk_grew A1 hg2 (by omega)
  have hG2 := grow_trans hG1 hg2
  clear h1 hg2 A1 hG1
  go_wp2_with fail
  refine (pick_any r _ _ _ h2 (by omega) (by omega)).mono ?_
  rintro e w3 ⟨y, rfl, hy, hg3, h3⟩
  have hy := hy (by omega)
  have A3 := blk_grew A2 hg3 (by omega)
  have hG3 := grow_trans hG2 hg3
  have hr3 := h3.lt
  have hz3 := hG3.size
  have hA3 := A3.lt
  clear h2 hg3 A2 hG2
  go_wp2_with fail
  refine (pick_any r _ _ _ (rd_alloc h3 _) (by omega) (by omega)).mono ?_
  rintro e w4 ⟨z, rfl, hz, hg4, h4⟩
  have hz := hz (by omega)
  have B4 := blk_grew (Blk.new w3 34 #[.int .i64 (1 + (x : Int)), .string s, .int .i64 y]) hg4 (by omega)
  have A4 := blk_grew (A3.alloc _) hg4 (by omega)
  have hG4 := grow_trans (grow_alloc hG3 _) hg4
  have hr4 := h4.lt
  have hB4 := B4.lt
  clear hg4 A3 hG3 h3
  have a0 := A4.frozen 0
  have a1 := A4.frozen 1
  have a2 := A4.frozen 2
  have b0 := A4.cell 0
  have b1 := A4.cell 1
  have b2 := A4.cell 2
  have c0 := B4.cell 0
  have c1 := B4.cell 1
  have c2 := B4.cell 2
  have HG4 := Lib.hid hG4
  have H4 := Lib.hid h4
  have hEv : EvB ⟨1 + (x : Int), s, (y : Int)⟩ := ⟨hs, by show (-100000 : Int) ≤ 1 + (x : Int); omega, by show 1 + (x : Int) ≤ 100000; omega, by show (-100000 : Int) ≤ (y : Int); omega, by show (y : Int) ≤ 100000; omega⟩
  have HEv := Lib.hid hEv
  have hr0 : r < w.heap.size := hr
  have hgg : w.heap.size < w3.heap.size := hA3
  clear hEv hG4 h4
  by_cases z0 : z = 0
  · have e0 : ((z : Int) == 0) = true := by rw [z0]; rfl
    clear z0
    go_wp2_with fail
    refine (pick_any r _ _ _ (rd_alloc H4.out _) (by omega) (by omega)).mono ?_
    rintro e w5 ⟨u, rfl, hu, hg5, h5⟩
    have hu := hu (by omega)
    obtain ⟨v, hv, hv1, hv2⟩ := lit_ints hg5 hr4 (by kernel_rfl) (z := u) (by show u < 3; omega)
    have A5 := blk_grew (A4.alloc _) hg5 (by omega)
    have B5 := blk_grew (B4.alloc _) hg5 (by omega)
    have HG5 := Lib.hid (grow_trans (grow_alloc HG4.out _) hg5)
    have H5 := Lib.hid h5
    have d0 := B5.cell 0
    have d1 := B5.cell 1
    have d2 := B5.cell 2
    have df := B5.frozen 0
    have k0 := A5.cell 0
    have k1 := A5.cell 1
    have k2 := A5.cell 2
    have f0 := A5.frozen 0
    have f1 := A5.frozen 1
    have f2 := A5.frozen 2
    clear hg5 h5 a0 a1 a2 b0 b1 b2 c0 c1 c2 A4 B4
    go_wp2_with fail
    refine bodyPost_ret (v := .agg #[.int .i64 v, .string s, .int .i64 y]) (by simp [results, Tryd.results47, go_sem, k0, k1, k2]) rfl ?_
    refine ⟨_, _, _, rfl, ⟨HEv.out.1, hv1, hv2, HEv.out.2.2.2⟩, ?_, ?_⟩
    · exact grow_set (grow_set (grow_set (grow_set HG5.out (by show w.heap.size ≤ w3.heap.size; omega) _) (by exact Nat.le_refl _) _) (by exact Nat.le_refl _) _) (by exact Nat.le_refl _) _
    · exact (rd_set (rd_set (rd_set (rd_set H5.out (by show r < w3.heap.size; omega) _) (by exact hr0) _) (by exact hr0) _) (by exact hr0) _).more (by omega)
  have e0 : ((z : Int) == 0) = false := beq_eq_false_iff_ne.2 (by omega)
  by_cases z1 : z = 1
  · have e1 : ((z : Int) == 1) = true := by rw [z1]; rfl
    clear z1 z0
    go_wp2_with fail
    refine (of_lit r _ 5 _ _ _ H4.out (by omega) rfl (by omega) (by omega) (by kernel_rfl)).mono ?_
    rintro e w5 ⟨u, rfl, hu, hg5, h5⟩
    have A5 := blk_grew A4 hg5 (by omega)
    have B5 := blk_grew B4 hg5 (by omega)
    have HG5 := Lib.hid (grow_trans HG4.out hg5)
    have H5 := Lib.hid h5
    have d0 := B5.cell 0
    have d1 := B5.cell 1
    have d2 := B5.cell 2
    have df := B5.frozen 1
    have k0 := A5.cell 0
    have k1 := A5.cell 1
    have k2 := A5.cell 2
    have f0 := A5.frozen 0
    have f1 := A5.frozen 1
    have f2 := A5.frozen 2
    clear hg5 h5 a0 a1 a2 b0 b1 b2 c0 c1 c2 A4 B4
    go_wp2_with fail
    refine bodyPost_ret (v := .agg #[.int .i64 (1 + (x : Int)), .string u, .int .i64 y]) (by simp [results, Tryd.results47, go_sem, k0, k1, k2]) rfl ?_
    refine ⟨_, _, _, rfl, ⟨hu, HEv.out.2⟩, ?_, ?_⟩
    · exact grow_set (grow_set (grow_set (grow_set HG5.out (by show w.heap.size ≤ w3.heap.size; omega) _) (by exact Nat.le_refl _) _) (by exact Nat.le_refl _) _) (by exact Nat.le_refl _) _
    · exact (rd_set (rd_set (rd_set (rd_set H5.out (by show r < w3.heap.size; omega) _) (by exact hr0) _) (by exact hr0) _) (by exact hr0) _).more (by omega)
  have e1 : ((z : Int) == 1) = false := beq_eq_false_iff_ne.2 (by omega)
  by_cases z2 : z = 2
  · have e2 : ((z : Int) == 2) = true := by rw [z2]; rfl
    clear z2 z1 z0
    go_wp2_with fail
    refine (pick_any r _ _ _ (rd_alloc H4.out _) (by omega) (by omega)).mono ?_
    rintro e w5 ⟨u, rfl, hu, hg5, h5⟩
    have hu := hu (by omega)
    obtain ⟨v, hv, hv1, hv2⟩ := lit_ints hg5 hr4 (by kernel_rfl) (z := u) (by show u < 3; omega)
    have A5 := blk_grew (A4.alloc _) hg5 (by omega)
    have B5 := blk_grew (B4.alloc _) hg5 (by omega)
    have HG5 := Lib.hid (grow_trans (grow_alloc HG4.out _) hg5)
    have H5 := Lib.hid h5
    have d0 := B5.cell 0
    have d1 := B5.cell 1
    have d2 := B5.cell 2
    have df := B5.frozen 2
    have k0 := A5.cell 0
    have k1 := A5.cell 1
    have k2 := A5.cell 2
    have f0 := A5.frozen 0
    have f1 := A5.frozen 1
    have f2 := A5.frozen 2
    clear hg5 h5 a0 a1 a2 b0 b1 b2 c0 c1 c2 A4 B4
    go_wp2_with fail
    refine bodyPost_ret (v := .agg #[.int .i64 (1 + (x : Int)), .string s, .int .i64 v]) (by simp [results, Tryd.results47, go_sem, k0, k1, k2]) rfl ?_
    refine ⟨_, _, _, rfl, ⟨HEv.out.1, HEv.out.2.1, HEv.out.2.2.1, hv1, hv2⟩, ?_, ?_⟩
    · exact grow_set (grow_set (grow_set (grow_set HG5.out (by show w.heap.size ≤ w3.heap.size; omega) _) (by exact Nat.le_refl _) _) (by exact Nat.le_refl _) _) (by exact Nat.le_refl _) _
    · exact (rd_set (rd_set (rd_set (rd_set H5.out (by show r < w3.heap.size; omega) _) (by exact hr0) _) (by exact hr0) _) (by exact hr0) _).more (by omega)
  have e2 : ((z : Int) == 2) = false := beq_eq_false_iff_ne.2 (by omega)
  clear z2 z1 z0
  go_wp2_with fail
  refine bodyPost_ret (v := .agg #[.int .i64 (1 + (x : Int)), .string s, .int .i64 y]) (by simp [results, Tryd.results47, go_sem, b0, b1, b2]) rfl ?_
  refine ⟨_, _, _, rfl, HEv.out, ?_, ?_⟩
  · exact grow_set (grow_set (grow_set HG4.out (by exact Nat.le_refl _) _) (by exact Nat.le_refl _) _) (by exact Nat.le_refl _) _
  · exact (rd_set (rd_set (rd_set H4.out (by exact hr0) _) (by exact hr0) _) (by exact hr0) _).more (by omega)
end Go.Proofs.YtecijlebfpbpaaaDoor
