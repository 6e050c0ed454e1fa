/- Drawn groups with a member. -/
import Derived.Test.YtecijlebfpbpaaaDrawG
import Derived.Test.YtecijlebfpbpaaaGLeave
import Derived.Deep.RegionHeld3
namespace Go.Proofs.Ytecijlebfpbpaaa
set_option linter.unusedVariables false
set_option linter.unusedSimpArgs false
open Go.RowKit

theorem grow_undrew {w w2 : World} {row : Option Nat} (h : w.drew.grownBy w2 row) : w.grownBy w2 row := ⟨h.os, h.tape, h.output, h.size, h.block⟩
/-- a text out of a list that was laid before. -/
theorem of_blk {r N g n : Nat} {cs : Array Value} {T : TypeId} {w : World} (h : Rd w r N) (hN : N ≤ 1000000) (hg : Blk w g T cs) (hne : g ≠ r) (hn : cs.size = n) (h1 : 1 ≤ n) (h2 : n ≤ 1000) (hok : strsOk cs = true) :
    Calls Try.prog 32 #[.pointer (some ⟨r, 0, none⟩), .slice (some ⟨g, 0, none⟩) n n] w (StrPost r (N + 1) w) := by
  subst hn
  exact of_any r N g 0 cs.size cs.size _ h hN hne h1 h2 (strs_lit hg hok)
theorem of_lit' (r N n : Nat) (cs : Array Value) (T : TypeId) (w : World) (h : Rd w r N) (hN : N ≤ 1000000) (hn : cs.size = n) (h1 : 1 ≤ n) (h2 : n ≤ 1000) (hok : strsOk cs = true) :
    Calls Try.prog 32 #[.pointer (some ⟨r, 0, none⟩), .slice (some ⟨w.heap.size, 0, none⟩) n n] (w.alloc (.cells cs T)) (StrPost r (N + 1) w) := by
  refine (of_blk (rd_alloc h _) hN (Blk.new w T cs) (by have := h.lt; omega) hn h1 h2 hok).mono ?_
  rintro e w' ⟨s, he, hs, hg, hr⟩
  exact ⟨s, he, hs, grow_trans (grow_alloc (grow_refl w r) _) hg, hr⟩
theorem of_lit_at (r N n g : Nat) (cs : Array Value) (T : TypeId) (w : World) (hg : g = w.heap.size) (h : Rd w r N) (hN : N ≤ 1000000) (hn : cs.size = n) (h1 : 1 ≤ n) (h2 : n ≤ 1000) (hok : strsOk cs = true) :
    Calls Try.prog 32 #[.pointer (some ⟨r, 0, none⟩), .slice (some ⟨g, 0, none⟩) n n] (w.alloc (.cells cs T)) (StrPost r (N + 1) w) := by
  subst hg; exact of_lit' r N n cs T w h hN hn h1 h2 hok
theorem strs_own {w : World} {base n : Nat} {v : Value} {ms : List ByteArray} (h : w.ownsRow base 9 1 v n (ms.map Value.string)) : ∃ A c, v = .slice A n c ∧ n ≤ c ∧ Strs w w.heap.size A n ms := by
  obtain ⟨A, c, e, h1, h2, _⟩ := Sl.of_own h
  exact ⟨A, c, e, h1, h2⟩
theorem own_cell {w : World} {base n c : Nat} {A : Option Addr} {ms : List ByteArray} (h : w.ownsRow base 9 1 (.slice A n c) n (ms.map Value.string)) (hn : 0 < n) : ∃ g, A = some ⟨g, 0, none⟩ ∧ ∀ j s, ms[j]? = some s → w.cell? ⟨g, j, none⟩ = some (.string s) := by
  rcases h.2 with ⟨h4, h0⟩ | ⟨g, cap, cur, h4, _⟩
  · omega
  · simp only [Value.slice.injEq] at h4
    obtain ⟨rfl, _, rfl⟩ := h4
    refine ⟨g, rfl, fun j s hs => ?_⟩
    have hl : ms.length = n := by simpa using h.1
    have hj := (List.getElem?_eq_some_iff.1 hs).1
    rw [h.cellAt j (by omega), List.getElem?_map, hs]; rfl

set_option maxRecDepth 100000 in
set_option maxHeartbeats 8000000 in
theorem l92Member_any (r N base : Nat) (st : Int) (v : Value) (n : Nat) (ms : List ByteArray) (w : World) (h : Rd w r N) (hN : N ≤ 800000) (hown : w.ownsRow base 9 1 v n (ms.map Value.string)) (hr : r < base) (hs : Small60 ms) (hn : n ≤ 1000) :
    Calls Try.prog 33 #[.pointer (some ⟨r, 0, none⟩), .agg #[.int .i64 st, v]] w (StrPost r (N + 3) w) := by
  have hlr := h.lt
  obtain ⟨A, c, rfl, hnc, _⟩ := strs_own hown
  have Hl := Lib.hid (show ms.length = n by simpa using hown.1)
  have HO := Lib.hid hown
  have Hs := Lib.hid hs
  clear hown hs
  by_cases hn0 : 0 < n
  · obtain ⟨g, rfl, hcell⟩ := own_cell HO.out hn0
    have hn0' : (0 : Int) < (n : Int) := by omega
    have Hcell := Lib.hid hcell
    clear hcell
    go_enter Try.func33, Try.ntmps33
    go_wp2_with fail
    refine (pick_any r _ _ _ (rd_alloc h _) (by omega) (by omega)).mono ?_
    rintro e w1 ⟨x, rfl, hx, hg1, h1⟩
    have B1 := blk_grew' (Blk.new w 26 #[.int .i64 st, .slice (some ⟨g, 0, none⟩) n c]) hg1 (by omega)
    have O1 := own_rd' (HO.out.alloc (.cells #[.int .i64 st, .slice (some ⟨g, 0, none⟩) n c] 26)) (by omega) hg1
    have hG1 := Lib.hid (grow_trans (grow_alloc (grow_refl w r) _) hg1)
    have H1 := Lib.hid h1
    clear h hg1 h1
    by_cases hx0 : 0 < x
    · have hx0' : (0 : Int) < (x : Int) := by omega
      have b1 := B1.cell 1
      have HO1 := Lib.hid O1
      have HB1 := Lib.hid B1
      clear O1 B1 hx
      go_wp2_with fail
      have P := Lib.hid (pick_any r _ n w1.drew H1.out (by omega) (by omega))
      have hlr1 := H1.out.lt
      have hn1 : (1 : Int) ≤ (n : Int) := by omega
      have hne : w.heap.size ≠ r := by omega
      have Hget : Hid (∀ (w2 : World) (y : Nat), w1.grownBy w2 (some r) → (y : Int) < (n : Int) → ∃ s : ByteArray, s.size ≤ 60 ∧ w2.cell? ⟨g, y, none⟩ = some (.string s)) := Lib.hid fun w2 y hg2 hy => by
        have hO2 := own_rd' HO1.out hr hg2
        obtain ⟨g', e', hc'⟩ := own_cell hO2 hn0
        obtain rfl : g = g' := by injection e' with e1; injection e1
        have hyl : y < ms.length := by rw [Hl.out]; omega
        exact ⟨ms[y], Hs.out _ (List.getElem_mem hyl), hc' y _ (List.getElem?_eq_getElem hyl)⟩
      go_region_with (go_at_call 31; ((with_reducible refine P.out.mono ?_); rintro e w2 ⟨y, rfl, hy, hg2, h2⟩; have hy2 := hy hn1; have hg2' : w1.grownBy w2 (some r) := grow_undrew hg2; have t1 : w2.cell? ⟨w.heap.size, 1, none⟩ = some (.slice (some ⟨g, 0, none⟩) n c) := (blk_grew' HB1.out hg2' hne).cell 1; obtain ⟨s, hs60, hsc⟩ := Hget.out w2 y hg2' hy2))
      all_goals
        clear b1 t1
        go_wp2_with fail
        go_ret
        exact ⟨s, rfl, hs60, grow_trans hG1.out hg2', h2.more (by omega)⟩
    · have hx0' : ¬ (0 : Int) < (x : Int) := by omega
      have hd : decide ((0 : Int) < (x : Int)) = false := decide_eq_false hx0'
      clear hx B1 O1
      go_wp2_with fail
      refine (of_lit' r _ 4 #[.string ⟨#[122, 111, 101]⟩, .string ⟨#[98, 111, 98]⟩, .string ⟨#[65]⟩, .string ⟨#[101, 118, 101]⟩] 9 _ H1.out (by omega) rfl (by omega) (by omega) (by kernel_rfl)).mono ?_
      rintro e w2 ⟨s, rfl, hs, hg2, h2⟩
      go_wp2_with fail
      go_ret
      exact ⟨s, rfl, hs, grow_trans hG1.out hg2, h2.more (by omega)⟩
  · have hn0' : ¬ (0 : Int) < (n : Int) := by omega
    have hd : decide ((0 : Int) < (n : Int)) = false := decide_eq_false hn0'
    have hG1 : w.grownBy (w.alloc (.cells #[.int .i64 st, .slice A n c] 26)) (some r) := grow_alloc (grow_refl w r) _
    have HG1 := Lib.hid hG1
    have H1 := Lib.hid (rd_alloc h (.cells #[.int .i64 st, .slice A n c] 26))
    clear hG1 h
    go_enter Try.func33, Try.ntmps33
    go_wp2_with fail
    refine (of_lit_at r _ 4 (w.heap.size + 1) #[.string ⟨#[122, 111, 101]⟩, .string ⟨#[98, 111, 98]⟩, .string ⟨#[65]⟩, .string ⟨#[101, 118, 101]⟩] 9 _ (by simp) H1.out (by omega) rfl (by omega) (by omega) (by kernel_rfl)).mono ?_
    rintro e w2 ⟨s, rfl, hs, hg2, h2⟩
    go_wp2_with fail
    go_ret
    exact ⟨s, rfl, hs, grow_trans HG1.out hg2, h2.more (by omega)⟩

/-- a drawn group and a text. -/
def GrpStr (w : World) (e : Ending) (w' : World) : Prop :=
  ∃ (st : Int) (A : Option Addr) (n c : Nat) (ms : List ByteArray) (s : ByteArray), e = .returned (.tuple #[.agg #[.int .i64 st, .slice A n c], .string s]) ∧ Strs w' w'.heap.size A n ms ∧ Hid (Small60 ms) ∧ n ≤ 30 ∧ s.size ≤ 60 ∧ -1000 ≤ st ∧ st ≤ 1000 ∧ Below w.heap.size w w'
theorem drawn_below' {w w1 w2 : World} {r : Nat} (hr : w.heap.size ≤ r) (hb : Below w.heap.size w w1) (hg : w1.grownBy w2 (some r)) : Below w.heap.size w w2 :=
  hb.trans (grow_to_below hg hr hb.size)

theorem grp_own {w4 : World} {g base n c : Nat} {A : Option Addr} {ms : List ByteArray} (h : w4.ownsRow base 9 1 (.slice A n c) n (ms.map Value.string)) (hg : g < base) (u u' : Value) :
    Strs ((w4.setCell ⟨g, 0, none⟩ u).setCell ⟨g, 1, none⟩ u') ((w4.setCell ⟨g, 0, none⟩ u).setCell ⟨g, 1, none⟩ u').heap.size A n ms := by
  have hne : ∀ {w : World}, w.ownsRow base 9 1 (.slice A n c) n (ms.map Value.string) → (Value.slice A n c).ownBlock ≠ some g := fun h e => by have := (h.lt g e).1; omega
  have h2 := own_far (own_far h ⟨g, 0, none⟩ u (hne h)) ⟨g, 1, none⟩ u' (hne h)
  obtain ⟨A', c', e, _, hs⟩ := strs_own h2
  obtain ⟨rfl, _⟩ := (Value.slice.injEq _ _ _ _ _ _).mp e
  exact hs
set_option maxRecDepth 100000 in
set_option maxHeartbeats 8000000 in
theorem drawGroupJoin_any (A : Option Addr) (n c : Nat) (w : World) (h : Code w A n c) :
    Calls Try.prog 12 #[.slice A n c] w (GrpStr w) := by
  have HC := Lib.hid (h.below ((Below.refl w.heap.size w).alloc (Nat.le_refl _) (.cells #[.int .i64 0, .slice none 0 0] 26)))
  clear h
  go_enter Try.func12, Try.ntmps12
  go_wp2_with fail
  refine (open_any A n c _ HC.out).mono ?_
  rintro e w1 ⟨r, rfl, hr, hb1, h1⟩
  have hlr := h1.lt
  obtain ⟨Z1, hw1, hz1⟩ := boxes1 hb1
  have hrw : w.heap.size + 1 ≤ r := by simpa using hr
  clear hb1 hr
  go_wp2_with fail
  refine (l92Group_any r 0 _ h1 (by omega)).mono ?_
  rintro e w2 ⟨st, v, k, ms, rfl, hl, hown, HS, hk, hg2, h2, hst1, hst2⟩
  have Z2 := blk_grew' Z1 hg2 (by omega)
  have hw2 := drawn_below' (by omega) hw1 hg2
  obtain ⟨A', c', rfl, hnc, _⟩ := strs_own hown
  have B2 := Blk.new w2 26 #[.int .i64 st, .slice A' k c']
  have hz2 := hg2.size
  have hlr2 := h2.lt
  have HO2 := Lib.hid (hown.alloc (.cells #[.int .i64 st, .slice A' k c'] 26))
  have H2 := Lib.hid (rd_alloc h2 (.cells #[.int .i64 st, .slice A' k c'] 26))
  have HB2 := Lib.hid B2
  have HZ2 := Lib.hid (Z2.alloc (.cells #[.int .i64 st, .slice A' k c'] 26))
  have Hw2 := Lib.hid (hw2.alloc hw2.size (.cells #[.int .i64 st, .slice A' k c'] 26))
  clear hg2 h2 hown Z2 hw2 B2 h1 Z1 hw1
  go_wp2_with fail
  refine (pick_any r _ _ _ H2.out (by omega) (by omega)).mono ?_
  rintro e w3 ⟨x, rfl, hx, hg3, h3⟩
  have hx := hx (by omega)
  have HB3 := Lib.hid (blk_grew' HB2.out hg3 (by omega))
  have HZ3 := Lib.hid (blk_grew' HZ2.out hg3 (by omega))
  have HO3 := Lib.hid (own_rd' HO2.out (by omega) hg3)
  have Hw3 := Lib.hid (drawn_below' (by omega) Hw2.out hg3)
  have H3 := Lib.hid h3
  have hz3 := Hw3.out.size
  have hl3 := HB3.out.lt
  have hlr3 := h3.lt
  clear hg3 h3
  by_cases hx0 : 0 < x
  · have hx0' : (0 : Int) < (x : Int) := by omega
    have b0 := HB3.out.cell 0
    have b1 := HB3.out.cell 1
    have a0 := HZ3.out.cell 0
    have a1 := HZ3.out.cell 1
    have a0f := HZ3.out.frozen 0
    have a1f := HZ3.out.frozen 1
    have hnr : w.heap.size ≠ r := by omega
    have hnr2 : w2.heap.size ≠ r := by omega
    have hn20 : w2.heap.size ≠ w.heap.size := by omega
    have b2 := fun o => (HB3.out.alloc o).cell 0
    have b3 := fun o => (HB3.out.alloc o).cell 1
    have b4 := fun u u' => ((HB3.out.far (p := ⟨w.heap.size, 0, none⟩) hn20 u).far (p := ⟨w.heap.size, 1, none⟩) hn20 u').cell 0
    have b5 := fun u u' => ((HB3.out.far (p := ⟨w.heap.size, 0, none⟩) hn20 u).far (p := ⟨w.heap.size, 1, none⟩) hn20 u').cell 1
    have HA := Lib.hid (of_blk (g := w3.heap.size) (w := (w3.alloc (.cells #[.string ⟨#[122, 111, 101]⟩, .string ⟨#[98, 111, 98]⟩, .string ⟨#[97, 108]⟩, .string ⟨#[66, 97, 100]⟩] 9)).drew) (n := 4) (rd_alloc H3.out _) (by omega) (Blk.new w3 _ _) (by omega) rfl (by omega) (by omega) (by kernel_rfl))
    go_wp2_with fail
    go_region_held3 (fun w' => w'.cell? ⟨w2.heap.size, 0, none⟩ = some (.int .i64 st) ∧ w'.cell? ⟨w2.heap.size, 1, none⟩ = some (.slice A' k c')) (first | exact ⟨b0, b1⟩ | exact ⟨b2 _, b3 _⟩ | exact ⟨t0, t1⟩ | exact ⟨t2 _ _, t3 _ _⟩ | exact ⟨b4 _ _, b5 _ _⟩ | go_keep) (first
      | (go_at_call 32; ((with_reducible refine HA.out.mono ?_); rintro e w4 ⟨s, rfl, hs, hg4, h4⟩; have hg5 := grow_undrew hg4; have B4 := blk_grew' (HB3.out.alloc _) hg5 hnr2; have Z4 := blk_grew' (HZ3.out.alloc _) hg5 hnr; have t0 := B4.cell 0; have t1 := B4.cell 1; have z0 := Z4.cell 0; have z1 := Z4.cell 1; have zf0 := Z4.frozen 0; have zf1 := Z4.frozen 1; have t2 := fun u u' => ((B4.far (p := ⟨w.heap.size, 0, none⟩) hn20 u).far (p := ⟨w.heap.size, 1, none⟩) hn20 u').cell 0; have t3 := fun u u' => ((B4.far (p := ⟨w.heap.size, 0, none⟩) hn20 u).far (p := ⟨w.heap.size, 1, none⟩) hn20 u').cell 1)))
    have O4 := own_rd' (HO3.out.alloc _) (by omega) hg5
    have Hw4 := Lib.hid (drawn_below' (r := r) (by omega) (Hw3.out.alloc Hw3.out.size _) hg5)
    clear t0 t1 t2 t3 b2 b3 b4 b5 b0 b1 a0 a1 a0f a1f
    go_wp2_with fail
    refine bodyPost_ret (v := .tuple #[.agg #[.int .i64 st, .slice A' k c'], .string s]) (by simp [results, Try.results12, go_sem, z0, z1]) rfl ?_
    refine ⟨st, A', k, c', ms, s, rfl, ?_, HS, hk, hs, hst1, hst2, (Hw4.out.setCell (by exact Nat.le_refl _) _).setCell (by exact Nat.le_refl _) _⟩
    exact grp_own O4 (by omega) _ _
  · have hx0' : ¬ (0 : Int) < (x : Int) := by omega
    have b0 := HB3.out.cell 0
    have b1 := HB3.out.cell 1
    have a0 := HZ3.out.cell 0
    have a1 := HZ3.out.cell 1
    have a0f := HZ3.out.frozen 0
    have a1f := HZ3.out.frozen 1
    have hnr : w.heap.size ≠ r := by omega
    have hnr2 : w2.heap.size ≠ r := by omega
    have hn20 : w2.heap.size ≠ w.heap.size := by omega
    have b4 := fun u u' => ((HB3.out.far (p := ⟨w.heap.size, 0, none⟩) hn20 u).far (p := ⟨w.heap.size, 1, none⟩) hn20 u').cell 0
    have b5 := fun u u' => ((HB3.out.far (p := ⟨w.heap.size, 0, none⟩) hn20 u).far (p := ⟨w.heap.size, 1, none⟩) hn20 u').cell 1
    have HA := Lib.hid (l92Member_any r _ (w1.heap.size + 1) st (.slice A' k c') k ms w3.drew H3.out (by omega) HO3.out (by omega) HS.out (by omega))
    go_wp2_with fail
    go_region_held3 (fun w' => w'.cell? ⟨w2.heap.size, 0, none⟩ = some (.int .i64 st) ∧ w'.cell? ⟨w2.heap.size, 1, none⟩ = some (.slice A' k c')) (first | exact ⟨b0, b1⟩ | exact ⟨t0, t1⟩ | exact ⟨t2 _ _, t3 _ _⟩ | exact ⟨b4 _ _, b5 _ _⟩ | go_keep) (first
      | (go_at_call 33; ((with_reducible refine HA.out.mono ?_); rintro e w4 ⟨s, rfl, hs, hg4, h4⟩; have hg5 := grow_undrew hg4; have B4 := blk_grew' HB3.out hg5 hnr2; have Z4 := blk_grew' HZ3.out hg5 hnr; have t0 := B4.cell 0; have t1 := B4.cell 1; have z0 := Z4.cell 0; have z1 := Z4.cell 1; have zf0 := Z4.frozen 0; have zf1 := Z4.frozen 1; have t2 := fun u u' => ((B4.far (p := ⟨w.heap.size, 0, none⟩) hn20 u).far (p := ⟨w.heap.size, 1, none⟩) hn20 u').cell 0; have t3 := fun u u' => ((B4.far (p := ⟨w.heap.size, 0, none⟩) hn20 u).far (p := ⟨w.heap.size, 1, none⟩) hn20 u').cell 1)))
    have O4 := own_rd' (HO3.out) (by omega) hg5
    have Hw4 := Lib.hid (drawn_below' (r := r) (by omega) (Hw3.out) hg5)
    clear t0 t1 t2 t3 b4 b5 b0 b1 a0 a1 a0f a1f
    go_wp2_with fail
    refine bodyPost_ret (v := .tuple #[.agg #[.int .i64 st, .slice A' k c'], .string s]) (by simp [results, Try.results12, go_sem, z0, z1]) rfl ?_
    refine ⟨st, A', k, c', ms, s, rfl, ?_, HS, hk, hs, hst1, hst2, (Hw4.out.setCell (by exact Nat.le_refl _) _).setCell (by exact Nat.le_refl _) _⟩
    exact grp_own O4 (by omega) _ _
end Go.Proofs.Ytecijlebfpbpaaa
