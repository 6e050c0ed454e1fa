/- Drawn groups and members. -/
import Derived.Test.YtecijlebfpbpaaaDraw1
import Derived.Test.YtecijlebfpbpaaaAppStr
import Derived.Test.YtecijlebfpbpaaaGroup
import Derived.Deep.DeepMust
namespace Go.Proofs.Ytecijlebfpbpaaa
set_option linter.unusedVariables false
set_option linter.unusedSimpArgs false
open Go.RowKit

def Small60 (ms : List ByteArray) : Prop := ∀ m ∈ ms, m.size ≤ 60
theorem Small60.all {ms : List ByteArray} (h : Small60 ms) : AllSmall ms := fun m hm => by have := h m hm; unfold maxLen; omega
/-- a drawn group: its members are a row of the call's own. -/
def GrpPost (r M : Nat) (w : World) (e : Ending) (w' : World) : Prop :=
  ∃ (st : Int) (v : Value) (n : Nat) (ms : List ByteArray), e = .returned (.agg #[.int .i64 st, v]) ∧ ms.length = n ∧ w'.ownsRow (w.heap.size + 1) 9 1 v n (ms.map Value.string) ∧ Hid (Small60 ms) ∧ n ≤ 30 ∧ w.grownBy w' (some r) ∧ Rd w' r M ∧ -1000 ≤ st ∧ st ≤ 1000
theorem blk_grew' {w w' : World} {r g : Nat} {t : TypeId} {cs : Array Value} (h : Blk w g t cs) (hg : w.grownBy w' (some r)) (hne : g ≠ r) : Blk w' g t cs := h.grown hg (fun e => hne (Option.some.inj e))
theorem own_rd' {w w' : World} {r base size n : Nat} {e : TypeId} {v : Value} {xs : List Value} (h : w.ownsRow base e size v n xs) (hr : r < base) (hg : w.grownBy w' (some r)) : w'.ownsRow base e size v n xs := by
  refine h.kept hg ?_
  cases hb : v.ownBlock with
  | none => exact .inl rfl
  | some k => exact .inr (fun e => by have := (h.lt k hb).1; injection e; omega)
theorem own_grown' {a w w' : World} {r base size n : Nat} {e : TypeId} {v : Value} {xs : List Value} (h : w.ownsRow base e size v n xs) (hb : a.heap.size ≤ base) (hg : a.grownBy w (some r)) (hg2 : w.grownBy w' v.ownBlock) : a.grownBy w' (some r) :=
  ⟨hg2.os.trans hg.os, hg2.tape.trans hg.tape, hg2.output.trans hg.output, Nat.le_trans hg.size hg2.size, fun i hi hne => (hg2.block i (Nat.lt_of_lt_of_le hi hg.size) (fun e => by have := (h.lt i e.symm).1; omega)).trans (hg.block i hi hne)⟩
theorem rd_own' {w w' : World} {r N base size n : Nat} {e : TypeId} {v : Value} {xs : List Value} (h : w.ownsRow base e size v n xs) (hr : r < base) (hrd : Rd w r N) (hg2 : w.grownBy w' v.ownBlock) : Rd w' r N :=
  hrd.keep fun k hk => hg2.block k (by have := hrd.lt; omega) (fun e => by have := (h.lt k e.symm).1; omega)
theorem blk_at {w : World} {g : Nat} {T : TypeId} {cs : Array Value} (hg : g = w.heap.size) : Blk (w.alloc (.cells cs T)) g T cs := by subst hg; exact Blk.new w T cs
theorem zero_ne {w : World} {base size n : Nat} {e : TypeId} {v : Value} {xs : List Value} (h : w.ownsRow (base + 1) e size v n xs) : some base ≠ v.ownBlock := fun e => by have := (h.lt base e.symm).1; omega
theorem own_ne_z {w : World} {base size n : Nat} {e : TypeId} {v : Value} {xs : List Value} (h : w.ownsRow (base + 1) e size v n xs) : v.ownBlock ≠ some base := fun e => by have := (h.lt base e).1; omega
theorem two_ints {w w' : World} {r : Nat} {t : TypeId} (hg : (w.alloc (.cells #[.int .i64 0, .int .i64 9] t)).grownBy w' (some r)) (hr : r < w.heap.size) {z : Nat} (hz : z < 2) :
    ∃ v : Int, w'.cell? ⟨w.heap.size, z, none⟩ = some (.int .i64 v) ∧ -1000 ≤ v ∧ v ≤ 1000 := by
  have hB := blk_grew' (Blk.new w t #[.int .i64 0, .int .i64 9]) hg (by omega)
  obtain rfl | rfl : z = 0 ∨ z = 1 := by omega
  · exact ⟨0, hB.cell 0, by omega, by omega⟩
  · exact ⟨9, hB.cell 1, by omega, by omega⟩
def zeroGrp : Array Value := #[.int .i64 0, .slice none 0 0]

set_option maxRecDepth 100000 in
set_option maxHeartbeats 8000000 in
theorem l92Group_any (r N : Nat) (w : World) (h : Rd w r N) (hN : N ≤ 800000) :
    Calls Try.prog 30 #[.pointer (some ⟨r, 0, none⟩)] w (GrpPost r (N + 20) w) := by
  have hr := h.lt
  go_enter Try.func30, Try.ntmps30
  go_wp2_with fail
  refine (pick_any r N _ _ (rd_alloc h _) (by omega) (by omega)).mono ?_
  rintro e w1 ⟨x, rfl, hx, hg1, h1⟩
  have hx := hx (by omega)
  have A1 := blk_grew' (Blk.new w 26 #[.int .i64 0, .slice none 0 0]) hg1 (by omega)
  have hG1 := Lib.hid (grow_trans (grow_alloc (grow_refl w r) _) hg1)
  have h1 := Lib.hid h1
  have hlt1 := A1.lt
  have O1 := Lib.hid (((World.ownsRow_lit (base := w.heap.size + 1) (e := 9) (size := 1) w1 #[] 0 (by omega) (Nat.zero_le _) rfl).alloc (.cells #[.int .i64 (1 + (x : Int)), .slice (some ⟨w1.heap.size, 0, none⟩) 0 0] 26)))
  have HA1 := Lib.hid A1
  clear h hg1 A1
  go_wp2_with fail
  have hst : -1000 ≤ 1 + (x : Int) ∧ 1 + (x : Int) ≤ 1000 := by omega
  have P2 : Hid (Blk (((w1.alloc (.cells #[] 9)).alloc (.cells #[.int .i64 (1 + (x : Int)), .slice (some ⟨w1.heap.size, 0, none⟩) 0 0] 26)).alloc (.cells #[.string ⟨#[97, 110, 110]⟩, .string ⟨#[98, 111, 98]⟩, .string ⟨#[99, 121]⟩, .string ⟨#[100, 97, 110]⟩, .string ⟨#[101, 118, 101]⟩, .string ⟨#[102, 108, 111]⟩, .string ⟨#[103, 105, 108]⟩] 9)) (w1.heap.size + 1) 26 #[.int .i64 (1 + (x : Int)), .slice (some ⟨w1.heap.size, 0, none⟩) 0 0] ∧ Blk (((w1.alloc (.cells #[] 9)).alloc (.cells #[.int .i64 (1 + (x : Int)), .slice (some ⟨w1.heap.size, 0, none⟩) 0 0] 26)).alloc (.cells #[.string ⟨#[97, 110, 110]⟩, .string ⟨#[98, 111, 98]⟩, .string ⟨#[99, 121]⟩, .string ⟨#[100, 97, 110]⟩, .string ⟨#[101, 118, 101]⟩, .string ⟨#[102, 108, 111]⟩, .string ⟨#[103, 105, 108]⟩] 9)) (w1.heap.size + 1 + 1) 9 #[.string ⟨#[97, 110, 110]⟩, .string ⟨#[98, 111, 98]⟩, .string ⟨#[99, 121]⟩, .string ⟨#[100, 97, 110]⟩, .string ⟨#[101, 118, 101]⟩, .string ⟨#[102, 108, 111]⟩, .string ⟨#[103, 105, 108]⟩] ∧ Blk (((w1.alloc (.cells #[] 9)).alloc (.cells #[.int .i64 (1 + (x : Int)), .slice (some ⟨w1.heap.size, 0, none⟩) 0 0] 26)).alloc (.cells #[.string ⟨#[97, 110, 110]⟩, .string ⟨#[98, 111, 98]⟩, .string ⟨#[99, 121]⟩, .string ⟨#[100, 97, 110]⟩, .string ⟨#[101, 118, 101]⟩, .string ⟨#[102, 108, 111]⟩, .string ⟨#[103, 105, 108]⟩] 9)) w.heap.size 26 #[.int .i64 0, .slice none 0 0] ∧
      (((w1.alloc (.cells #[] 9)).alloc (.cells #[.int .i64 (1 + (x : Int)), .slice (some ⟨w1.heap.size, 0, none⟩) 0 0] 26)).alloc (.cells #[.string ⟨#[97, 110, 110]⟩, .string ⟨#[98, 111, 98]⟩, .string ⟨#[99, 121]⟩, .string ⟨#[100, 97, 110]⟩, .string ⟨#[101, 118, 101]⟩, .string ⟨#[102, 108, 111]⟩, .string ⟨#[103, 105, 108]⟩] 9)).ownsRow (w.heap.size + 1) 9 1 (.slice (some ⟨w1.heap.size, 0, none⟩) 0 0) 0 [] ∧ w.grownBy (((w1.alloc (.cells #[] 9)).alloc (.cells #[.int .i64 (1 + (x : Int)), .slice (some ⟨w1.heap.size, 0, none⟩) 0 0] 26)).alloc (.cells #[.string ⟨#[97, 110, 110]⟩, .string ⟨#[98, 111, 98]⟩, .string ⟨#[99, 121]⟩, .string ⟨#[100, 97, 110]⟩, .string ⟨#[101, 118, 101]⟩, .string ⟨#[102, 108, 111]⟩, .string ⟨#[103, 105, 108]⟩] 9)) (some r) ∧ Rd (((w1.alloc (.cells #[] 9)).alloc (.cells #[.int .i64 (1 + (x : Int)), .slice (some ⟨w1.heap.size, 0, none⟩) 0 0] 26)).alloc (.cells #[.string ⟨#[97, 110, 110]⟩, .string ⟨#[98, 111, 98]⟩, .string ⟨#[99, 121]⟩, .string ⟨#[100, 97, 110]⟩, .string ⟨#[101, 118, 101]⟩, .string ⟨#[102, 108, 111]⟩, .string ⟨#[103, 105, 108]⟩] 9)) r (N + 1)) := Lib.hid
    ⟨(blk_at (w := w1.alloc (.cells #[] 9)) (by simp)).alloc _, blk_at (by simp), ((HA1.out.alloc _).alloc _).alloc _, O1.out.alloc _, grow_alloc (grow_alloc (grow_alloc hG1.out _) _) _, rd_alloc (rd_alloc (rd_alloc h1.out _) _) _⟩
  clear O1 HA1 hG1 h1
  have hgn : (Value.slice (some ⟨w1.heap.size, 0, none⟩) 0 0).ownBlock ≠ some (w1.heap.size + 1) := fun e => absurd (Option.some.inj e) (Nat.ne_of_lt (Nat.lt_succ_self _))
  have hgn2 : (Value.slice (some ⟨w1.heap.size, 0, none⟩) 0 0).ownBlock ≠ some (w1.heap.size + 1 + 1) := fun e => absurd (Option.some.inj e) (Nat.ne_of_lt (Nat.lt_succ_of_lt (Nat.lt_succ_self _)))
  generalize ((w1.alloc (.cells #[] 9)).alloc (.cells #[.int .i64 (1 + (x : Int)), .slice (some ⟨w1.heap.size, 0, none⟩) 0 0] 26)).alloc (.cells #[.string ⟨#[97, 110, 110]⟩, .string ⟨#[98, 111, 98]⟩, .string ⟨#[99, 121]⟩, .string ⟨#[100, 97, 110]⟩, .string ⟨#[101, 118, 101]⟩, .string ⟨#[102, 108, 111]⟩, .string ⟨#[103, 105, 108]⟩] 9) = w2 at *
  have hnl : strsOk #[.string ⟨#[97, 110, 110]⟩, .string ⟨#[98, 111, 98]⟩, .string ⟨#[99, 121]⟩, .string ⟨#[100, 97, 110]⟩, .string ⟨#[101, 118, 101]⟩, .string ⟨#[102, 108, 111]⟩, .string ⟨#[103, 105, 108]⟩] = true := by kernel_rfl
  have Hnl := Lib.hid hnl
  clear hnl
  go_loopw [5] (fun i wr => ∃ (k : Nat) (v : Value) (ms : List ByteArray), k ≤ 7 ∧ i = .int .i64 k ∧ Hid (ms.length ≤ k) ∧ Blk wr (w1.heap.size + 1) 26 #[.int .i64 (1 + (x : Int)), v] ∧ Blk wr (w1.heap.size + 1 + 1) 9 #[.string ⟨#[97, 110, 110]⟩, .string ⟨#[98, 111, 98]⟩, .string ⟨#[99, 121]⟩, .string ⟨#[100, 97, 110]⟩, .string ⟨#[101, 118, 101]⟩, .string ⟨#[102, 108, 111]⟩, .string ⟨#[103, 105, 108]⟩] ∧ Blk wr w.heap.size 26 #[.int .i64 0, .slice none 0 0] ∧
      wr.ownsRow (w.heap.size + 1) 9 1 v ms.length (ms.map Value.string) ∧ Hid (v.ownBlock ≠ some (w1.heap.size + 1) ∧ v.ownBlock ≠ some (w1.heap.size + 1 + 1)) ∧ Hid (Small60 ms) ∧ w.grownBy wr (some r) ∧ Rd wr r (N + 1 + k)) (fun i _ => 7 - (intOf i).toNat)
  case atStart => exact ⟨0, _, [], by omega, rfl, Lib.hid (Nat.zero_le _), P2.out.1, P2.out.2.1, P2.out.2.2.1, P2.out.2.2.2.1, Lib.hid ⟨hgn, hgn2⟩, Lib.hid (fun m hm => by cases hm), P2.out.2.2.2.2.1, P2.out.2.2.2.2.2⟩
  case round =>
    obtain ⟨k, v, ms, hk, rfl, Hml, hB, hNb, hZ, hown, Hvb, HS, hG, hrd⟩ := hrel
    have hlw := hG.size
    have hlB := hB.lt
    have hlN := hNb.lt
    have hrr := hrd.lt
    have HG := Lib.hid hG
    by_cases hlt : k < 7
    · have hlt' : (k : Int) < 7 := by omega
      go_wp2_with fail
      refine (pick_any r _ _ _ hrd (by omega) (by omega)).mono ?_
      rintro e w3 ⟨y, rfl, hy, hg3, h3⟩
      have B3 := blk_grew' hB hg3 (by omega)
      have N3 := blk_grew' hNb hg3 (by omega)
      have Z3 := blk_grew' hZ hg3 (by omega)
      have O3 := own_rd' hown (by omega) hg3
      have HG3 := Lib.hid (grow_trans HG.out hg3)
      have H3 := Lib.hid h3
      have hz3 := HG3.out.size
      clear hB hNb hZ hown hrd hg3 h3 hG HG
      by_cases y0 : y = 0
      · have e0 : ((y : Int) == 0) = true := by rw [y0]; rfl
        clear y0 hy
        obtain ⟨s, hs, hs60⟩ := strs_lit N3 Hnl.out k (by show k < 7; omega)
        rw [Nat.zero_add] at hs
        have q1 := B3.cell 1
        have qa := fun o => (B3.alloc o).cell 1
        have hl3 := B3.lt
        obtain ⟨A', c', rfl, hnc, _, _⟩ := Sl.of_own O3
        have HO := Lib.hid O3
        have HB3 := Lib.hid B3
        have HN3 := Lib.hid N3
        have HZ3 := Lib.hid Z3
        have hmle := Hml.out
        clear O3 B3 N3 Z3
        go_wp2_with fail
        go_region_law (go_must (refine app_step w3.drew ?_ (.tmp 22) (.tmp 27) ?_ (w.heap.size + 1) (.slice A' ms.length c') ms.length ms ?_ HO.out s ?_ ?_ ?_ ?_; rfl; rfl; rfl; rfl; omega; (show _ ≤ w3.heap.size; omega)); intro v' w4 hown' hgrow hor; have hob4 := Blk.grown (w := w3.drew) HB3.out hgrow (fun e => Hvb.out.1 e.symm); have hN4 := Blk.grown (w := w3.drew) HN3.out hgrow (fun e => Hvb.out.2 e.symm); have hZ4 := Blk.grown (w := w3.drew) HZ3.out hgrow (zero_ne HO.out); have qf4 := hob4.frozen 1; have q4 := hob4.cell 1; obtain ⟨A2, c2, rfl, hnc2, hsl2, hA2⟩ := Sl.of_own hown')
        all_goals
          have hob5 := hob4.set_ 1 (.slice A2 (ms.length + 1) c2)
          have hne2 : (Value.slice A2 (ms.length + 1) c2).ownBlock ≠ some (w1.heap.size + 1) ∧ (Value.slice A2 (ms.length + 1) c2).ownBlock ≠ some (w1.heap.size + 1 + 1) := by
            rcases hor with e | e
            · rw [e]; exact Hvb.out
            · rw [e]
              exact ⟨fun e' => by have := Option.some.inj e'; have : w3.drew.heap.size = w3.heap.size := rfl; omega, fun e' => by have := Option.some.inj e'; have : w3.drew.heap.size = w3.heap.size := rfl; omega⟩
          have hown5 := own_far hown' ⟨w1.heap.size + 1, 1, none⟩ (.slice A2 (ms.length + 1) c2) hne2.1
          have hN5 := hN4.far (p := ⟨w1.heap.size + 1, 1, none⟩) (show w1.heap.size + 1 + 1 ≠ w1.heap.size + 1 by omega) (.slice A2 (ms.length + 1) c2)
          have hZ5 := hZ4.far (p := ⟨w1.heap.size + 1, 1, none⟩) (show w.heap.size ≠ w1.heap.size + 1 by omega) (.slice A2 (ms.length + 1) c2)
          have hG4 : w.grownBy w4 (some r) := own_grown' HO.out (Nat.le_succ _) HG3.out (show w3.grownBy w4 _ from ⟨hgrow.os, hgrow.tape, hgrow.output, hgrow.size, hgrow.block⟩)
          have hG5 := grow_set hG4 (p := ⟨w1.heap.size + 1, 1, none⟩) (show w.heap.size ≤ w1.heap.size + 1 by omega) (.slice A2 (ms.length + 1) c2)
          have hr4 : Rd w4 r _ := rd_own' HO.out (by omega) H3.out (show w3.grownBy w4 _ from ⟨hgrow.os, hgrow.tape, hgrow.output, hgrow.size, hgrow.block⟩)
          have hr5 := rd_set hr4 (p := ⟨w1.heap.size + 1, 1, none⟩) (show r < w1.heap.size + 1 by omega) (.slice A2 (ms.length + 1) c2)
          have HS' : Hid (Small60 (ms ++ [s])) := Lib.hid fun m hm => by
            rcases List.mem_append.1 hm with h1 | h1
            · exact HS.out m h1
            · rw [List.mem_singleton] at h1; rw [h1]; exact hs60
          clear qa q4 qf4 hgrow q1
          go_wp2_with fail
          go_roundw
          case rel => exact ⟨k + 1, _, ms ++ [s], by omega, by go_num, Lib.hid (by rw [List.length_append]; simp; omega), hob5, hN5, hZ5, by rw [List.length_append]; exact hown5, Lib.hid hne2, HS', hG5, hr5.more (by omega)⟩
          case measure => simp [intOf]; omega
      · have e0 : ((y : Int) == 0) = false := beq_eq_false_iff_ne.2 (by omega)
        clear y0 hy
        go_wp2_with fail
        go_roundw
        case rel => exact ⟨k + 1, _, ms, by omega, by go_num, Lib.hid (by have := Hml.out; omega), B3, N3, Z3, O3, Hvb, HS, HG3.out, H3.out.more (by omega)⟩
        case measure => simp [intOf]; omega
    · obtain rfl : k = 7 := by omega
      have hmle := Hml.out
      have HS60 := HS
      go_wp2_with fail
      refine (pick_any r _ _ _ hrd (by omega) (by omega)).mono ?_
      rintro e w3 ⟨y, rfl, hy, hg3, h3⟩
      have B3 := blk_grew' hB hg3 (by omega)
      have Z3 := blk_grew' hZ hg3 (by omega)
      have O3 := own_rd' hown (by omega) hg3
      have HG3 := Lib.hid (grow_trans HG.out hg3)
      have H3 := Lib.hid h3
      have hz3 := HG3.out.size
      clear hB hNb hZ hown hrd hg3 h3 hG HG
      obtain ⟨A', c', rfl, hnc, _, _⟩ := Sl.of_own O3
      have hlr3 := H3.out.lt
      by_cases y0 : y = 0
      · have e0 : ((y : Int) == 0) = true := by rw [y0]; rfl
        clear y0 hy
        go_wp2_with fail
        refine (pick_any r _ _ _ (rd_alloc H3.out _) (by omega) (by omega)).mono ?_
        rintro e w5 ⟨u, rfl, hu, hg5, h5⟩
        have hu := hu (by omega)
        obtain ⟨q, hq, hq1, hq2⟩ := two_ints hg5 hlr3 (z := u) (by omega)
        have B5 := blk_grew' (B3.alloc _) hg5 (by omega)
        have Z5 := blk_grew' (Z3.alloc _) hg5 (by omega)
        have O5 := own_rd' (O3.alloc _) (by omega) hg5
        have HG5 := Lib.hid (grow_trans (grow_alloc HG3.out _) hg5)
        have H5 := Lib.hid h5
        have d0 := B5.cell 0
        have d1 := B5.cell 1
        have df := B5.frozen 0
        have k0 := Z5.cell 0
        have k1 := Z5.cell 1
        have f0 := Z5.frozen 0
        have f1 := Z5.frozen 1
        have hb5 := B5.lt
        clear hg5 h5
        go_wp2_with fail
        refine bodyPost_ret (v := .agg #[.int .i64 q, .slice A' ms.length c']) (by simp [results, Try.results30, go_sem, k0, k1]) rfl ?_
        refine ⟨q, _, ms.length, ms, rfl, rfl, ?_, HS60, by omega, ?_, ?_, hq1, hq2⟩
        · exact own_far (own_far (own_far O5 _ _ (fun e => Hvb.out.1 e)) _ _ (own_ne_z O5)) _ _ (own_ne_z O5)
        · exact grow_set (grow_set (grow_set HG5.out (by show w.heap.size ≤ w1.heap.size + 1; omega) _) (by exact Nat.le_refl _) _) (by exact Nat.le_refl _) _
        · exact (rd_set (rd_set (rd_set H5.out (by show r < w1.heap.size + 1; omega) _) (by exact hr) _) (by exact hr) _).more (by omega)
      have e0 : ((y : Int) == 0) = false := beq_eq_false_iff_ne.2 (by omega)
      by_cases y1 : y = 1
      · have e1 : ((y : Int) == 1) = true := by rw [y1]; rfl
        clear y1 y0 hy
        have HO := Lib.hid O3
        have d1 := B3.cell 1
        have da := fun o => (B3.alloc o).cell 1
        have HB3 := Lib.hid B3
        have HZ3 := Lib.hid Z3
        have hb3 := B3.lt
        clear O3 B3 Z3
        go_wp2_with (first
          | (at_builtin; go_must (refine app_strB w3 rfl _ _ rfl (w.heap.size + 1) _ ms.length ms rfl (by exact HO.out) ⟨#[97, 110, 110]⟩ rfl ?_ ?_ ?_); omega; omega; intro v' w5 hown' hgrow hor; have B5 := HB3.out.grown hgrow (fun e => Hvb.out.1 e.symm); have Z5 := HZ3.out.grown hgrow (zero_ne HO.out); have q0 := B5.cell 0; have q1 := B5.cell 1; have qf := B5.frozen 1; have k0 := Z5.cell 0; have k1 := Z5.cell 1; have f0 := Z5.frozen 0; have f1 := Z5.frozen 1; obtain ⟨A2, c2, rfl, hnc2, hsl2, hA2⟩ := Sl.of_own hown'))
        refine bodyPost_ret (v := .agg #[.int .i64 (1 + (x : Int)), .slice A2 (ms.length + 1) c2]) (by simp [results, Try.results30, go_sem, k0, k1]) rfl ?_
        have hG5 := own_grown' HO.out (Nat.le_succ _) HG3.out hgrow
        have hr5 := rd_own' HO.out (by omega) H3.out hgrow
        have hne5 : (Value.slice A2 (ms.length + 1) c2).ownBlock ≠ some (w1.heap.size + 1) := by
          rcases hor with e | e
          · rw [e]; exact Hvb.out.1
          · rw [e]; exact fun e' => by have := Option.some.inj e'; omega
        refine ⟨_, _, ms.length + 1, ms ++ [⟨#[97, 110, 110]⟩], rfl, by rw [List.length_append]; rfl, ?_, Lib.hid ?_, by omega, ?_, ?_, hst.1, hst.2⟩
        · exact own_far (own_far (own_far hown' _ _ hne5) _ _ (own_ne_z hown')) _ _ (own_ne_z hown')
        · intro m hm
          rcases List.mem_append.1 hm with h1 | h1
          · exact HS60.out m h1
          · rw [List.mem_singleton] at h1; rw [h1]; decide
        · exact grow_set (grow_set (grow_set hG5 (by show w.heap.size ≤ w1.heap.size + 1; omega) _) (by exact Nat.le_refl _) _) (by exact Nat.le_refl _) _
        · exact (rd_set (rd_set (rd_set hr5 (by show r < w1.heap.size + 1; omega) _) (by exact hr) _) (by exact hr) _).more (by omega)
      have e1 : ((y : Int) == 1) = false := beq_eq_false_iff_ne.2 (by omega)
      clear y1 y0 hy
      have d0 := B3.cell 0
      have d1 := B3.cell 1
      have k0 := Z3.cell 0
      have k1 := Z3.cell 1
      have f0 := Z3.frozen 0
      have f1 := Z3.frozen 1
      go_wp2_with fail
      refine bodyPost_ret (v := .agg #[.int .i64 (1 + (x : Int)), .slice A' ms.length c']) (by simp [results, Try.results30, go_sem, k0, k1]) rfl ?_
      refine ⟨_, _, ms.length, ms, rfl, rfl, ?_, HS60, by omega, ?_, ?_, hst.1, hst.2⟩
      · exact own_far (own_far O3 _ _ (own_ne_z O3)) _ _ (own_ne_z O3)
      · exact grow_set (grow_set HG3.out (by exact Nat.le_refl _) _) (by exact Nat.le_refl _) _
      · exact (rd_set (rd_set H3.out (by exact hr) _) (by exact hr) _).more (by omega)
end Go.Proofs.Ytecijlebfpbpaaa
