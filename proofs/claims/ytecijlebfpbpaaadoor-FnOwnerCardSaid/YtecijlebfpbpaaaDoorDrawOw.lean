/- A drawn group and the name of a stream. -/
import Derived.Test.YtecijlebfpbpaaaDoorDrawGM
import Derived.Test.YtecijlebfpbpaaaDoorDrawN
namespace Go.Proofs.YtecijlebfpbpaaaDoor
set_option linter.unusedVariables false
set_option linter.unusedSimpArgs false
open Go.RowKit

set_option maxRecDepth 100000 in
set_option maxHeartbeats 8000000 in
theorem drawGroupOwner_any (A : Option Addr) (n c : Nat) (w : World) (h : Code w A n c) :
    Calls Tryd.prog 25 #[.slice A n c] w (GrpStr w) := by
  have HC := Lib.hid (h.below ((Below.refl w.heap.size w).alloc (Nat.le_refl _) (.cells #[.int .i64 0, .slice none 0 0] 27)))
  clear h
  go_enter Tryd.func25, Tryd.ntmps25
  go_wp2_with fail
  refine (open_any A n c _ HC.out).mono ?_
  rintro e w1 ⟨r, rfl, hr, hb1, h1⟩
  have hlr := h1.lt
  obtain ⟨Z1, hw1, hz1⟩ := boxes1 hb1
  have hrw : w.heap.size + 1 ≤ r := by simpa using hr
  clear hb1 hr
  go_wp2_with fail
  refine (l92Group_any r 0 _ h1 (by omega)).mono ?_
  rintro e w2 ⟨st, v, k, ms, rfl, hl, hown, HS, hk, hg2, h2, hst1, hst2⟩
  have Z2 := blk_grew' Z1 hg2 (by omega)
  have hw2 := drawn_below' (by omega) hw1 hg2
  obtain ⟨A', c', rfl, hnc, _⟩ := strs_own hown
  have B2 := Blk.new w2 27 #[.int .i64 st, .slice A' k c']
  have hz2 := hg2.size
  have hlr2 := h2.lt
  have HO3 := Lib.hid (hown.alloc (.cells #[.int .i64 st, .slice A' k c'] 27))
  have H3 := Lib.hid (rd_alloc h2 (.cells #[.int .i64 st, .slice A' k c'] 27))
  have HB3 := Lib.hid B2
  have HZ3 := Lib.hid (Z2.alloc (.cells #[.int .i64 st, .slice A' k c'] 27))
  have Hw3 := Lib.hid (hw2.alloc hw2.size (.cells #[.int .i64 st, .slice A' k c'] 27))
  clear hg2 h2 hown Z2 hw2 B2 h1 Z1 hw1
  have b0 := HB3.out.cell 0
  have b1 := HB3.out.cell 1
  have a0 := HZ3.out.cell 0
  have a1 := HZ3.out.cell 1
  have a0f := HZ3.out.frozen 0
  have a1f := HZ3.out.frozen 1
  have hnr : w.heap.size ≠ r := by omega
  have hnr2 : w2.heap.size ≠ r := by omega
  have hn20 : w2.heap.size ≠ w.heap.size := by omega
  have b4 := fun u u' => ((HB3.out.far (p := ⟨w.heap.size, 0, none⟩) hn20 u).far (p := ⟨w.heap.size, 1, none⟩) hn20 u').cell 0
  have b5 := fun u u' => ((HB3.out.far (p := ⟨w.heap.size, 0, none⟩) hn20 u).far (p := ⟨w.heap.size, 1, none⟩) hn20 u').cell 1
  have HA := Lib.hid (l91Name_any r _ (w2.alloc (.cells #[.int .i64 st, .slice A' k c'] 27)).drew H3.out (by omega))
  go_wp2_with fail
  go_region_held3 (fun w' => w'.cell? ⟨w2.heap.size, 0, none⟩ = some (.int .i64 st) ∧ w'.cell? ⟨w2.heap.size, 1, none⟩ = some (.slice A' k c')) (first | exact ⟨b0, b1⟩ | exact ⟨t0, t1⟩ | exact ⟨t2 _ _, t3 _ _⟩ | exact ⟨b4 _ _, b5 _ _⟩ | go_keep) (first
    | (go_at_call 55; ((with_reducible refine HA.out.mono ?_); rintro e w4 ⟨s, rfl, hs, hg4, h4⟩; have hg5 := grow_undrew hg4; have B4 := blk_grew' HB3.out hg5 hnr2; have Z4 := blk_grew' HZ3.out hg5 hnr; have t0 := B4.cell 0; have t1 := B4.cell 1; have z0 := Z4.cell 0; have z1 := Z4.cell 1; have zf0 := Z4.frozen 0; have zf1 := Z4.frozen 1; have t2 := fun u u' => ((B4.far (p := ⟨w.heap.size, 0, none⟩) hn20 u).far (p := ⟨w.heap.size, 1, none⟩) hn20 u').cell 0; have t3 := fun u u' => ((B4.far (p := ⟨w.heap.size, 0, none⟩) hn20 u).far (p := ⟨w.heap.size, 1, none⟩) hn20 u').cell 1)))
  have O4 := own_rd' (HO3.out) (by omega) hg5
  have Hw4 := Lib.hid (drawn_below' (r := r) (by omega) (Hw3.out) hg5)
  clear t0 t1 t2 t3 b4 b5 b0 b1 a0 a1 a0f a1f
  go_wp2_with fail
  refine bodyPost_ret (v := .tuple #[.agg #[.int .i64 st, .slice A' k c'], .string s]) (by simp [results, Tryd.results25, go_sem, z0, z1]) rfl ?_
  refine ⟨st, A', k, c', ms, s, rfl, ?_, HS, hk, hs, hst1, hst2, (Hw4.out.setCell (by exact Nat.le_refl _) _).setCell (by exact Nat.le_refl _) _⟩
  exact grp_own O4 (by omega) _ _
end Go.Proofs.YtecijlebfpbpaaaDoor
