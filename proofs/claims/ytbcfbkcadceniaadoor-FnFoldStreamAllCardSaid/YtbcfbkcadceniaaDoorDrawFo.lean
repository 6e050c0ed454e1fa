/- Drawn folds. -/
import Derived.Test.YtbcfbkcadceniaaDoorFoldS
import Derived.Test.YtbcfbkcadceniaaDoorDrawIn
namespace Go.Proofs.YtbcfbkcadceniaaDoor
set_option linter.unusedVariables false
set_option linter.unusedSimpArgs false
open Go.RowKit

def FdPost (r M : Nat) (w : World) (e : Ending) (w' : World) : Prop :=
  ∃ (ver sum : Int) (last : ByteArray), e = .returned (.agg #[.int .i64 ver, .int .i64 sum, .string last]) ∧ FdS ⟨ver, sum, last⟩ ∧ w.grownBy w' (some r) ∧ Rd w' r M
theorem lit_vers {w w' : World} {r : Nat} {t : TypeId} (hg : (w.alloc (.cells #[.int .i64 (-1), .int .i64 23, .int .i64 24] t)).grownBy w' (some r)) (hr : r < w.heap.size) {z : Nat} (hz : z < 3) :
    ∃ v : Int, w'.cell? ⟨w.heap.size, z, none⟩ = some (.int .i64 v) ∧ -1 ≤ v ∧ v ≤ 24 := by
  have B := blk_grew (Blk.new w t #[.int .i64 (-1), .int .i64 23, .int .i64 24]) hg (by omega)
  rcases (show z = 0 ∨ z = 1 ∨ z = 2 by omega) with rfl | rfl | rfl
  · exact ⟨-1, B.cell 0, by omega, by omega⟩
  · exact ⟨23, B.cell 1, by omega, by omega⟩
  · exact ⟨24, B.cell 2, by omega, by omega⟩
theorem fds_of {v s : Int} {l : ByteArray} (h1 : -1 ≤ v) (h2 : v ≤ 24) (h3 : 0 ≤ s) (h4 : s ≤ 600) (h5 : l.size ≤ 60) : FdS ⟨v, s, l⟩ := ⟨show -10000 ≤ v by omega, show v ≤ 10000 by omega, show -10000000000 ≤ s by omega, show s ≤ 10000000000 by omega, h5⟩
set_option maxRecDepth 100000 in
set_option maxHeartbeats 4000000 in
theorem l92Fold_any (r N : Nat) (w : World) (h : Rd w r N) (hN : N ≤ 900000) :
    Calls Tryd.prog 61 #[.pointer (some ⟨r, 0, none⟩)] w (FdPost r (N + 6) w) := by
  have hr := h.lt
  go_enter Tryd.func61, Tryd.ntmps61
  go_wp2_with fail
  refine (pick_any r N _ _ (rd_alloc h _) (by omega) (by omega)).mono ?_
  rintro e w1 ⟨x, rfl, hx, hg1, h1⟩
  have hx := hx (by omega)
  have A1 := blk_grew (Blk.new w 50 #[.int .i64 0, .int .i64 0, .string ⟨#[]⟩]) hg1 (by omega)
  have hG1 := grow_trans (grow_alloc (grow_refl w r) _) hg1
  clear h hg1
  by_cases z0 : x = 0
  · have e0 : ((x : Int) == 0) = true := by rw [z0]; rfl
    clear z0
    have f0 := A1.frozen 0
    have f1 := A1.frozen 1
    have f2 := A1.frozen 2
    have b0 := A1.cell 0
    have b1 := A1.cell 1
    have b2 := A1.cell 2
    go_wp2_with fail
    refine bodyPost_ret (v := .agg #[.int .i64 (-1), .int .i64 0, .string ⟨#[]⟩]) (by simp [results, Tryd.results61, go_sem, b0, b1, b2]) rfl ?_
    refine ⟨_, _, _, rfl, ⟨show (-10000 : Int) ≤ -1 by omega, show (-1 : Int) ≤ 10000 by omega, show (-10000000000 : Int) ≤ 0 by omega, show (0 : Int) ≤ 10000000000 by omega, Nat.zero_le _⟩, ?_, ?_⟩
    · exact grow_set (grow_set (grow_set hG1 (by exact Nat.le_refl _) _) (by exact Nat.le_refl _) _) (by exact Nat.le_refl _) _
    · exact (rd_set (rd_set (rd_set h1 (by exact hr) _) (by exact hr) _) (by exact hr) _).more (by omega)
  have e0 : ((x : Int) == 0) = false := beq_eq_false_iff_ne.2 (by omega)
  clear z0
  go_wp2_with fail
  refine (pick_any r _ _ _ h1 (by omega) (by omega)).mono ?_
  rintro e w2 ⟨y, rfl, hy, hg2, h2⟩
  have hy := hy (by omega)
  have A2 := blk_grew A1 hg2 (by omega)
  have hG2 := grow_trans hG1 hg2
  clear h1 hg2 A1 hG1
  go_wp2_with fail
  refine (of_lit r _ 2 _ _ _ h2 (by omega) rfl (by omega) (by omega) (by kernel_rfl)).mono ?_
  rintro e w3 ⟨s, rfl, hs, hg3, h3⟩
  have A3 := blk_grew A2 hg3 (by omega)
  have hG3 := grow_trans hG2 hg3
  have hA3 := A3.lt
  have hr3 := h3.lt
  clear h2 hg3 A2 hG2
  have B3 := Blk.new w3 50 #[.int .i64 y, .int .i64 0, .string s]
  have a3 := A3.alloc (.cells #[.int .i64 y, .int .i64 0, .string s] 50)
  have h3a := rd_alloc h3 (.cells #[.int .i64 y, .int .i64 0, .string s] 50)
  have hG3a := grow_alloc hG3 (.cells #[.int .i64 y, .int .i64 0, .string s] 50)
  go_wp2_with fail
  have H3 := Lib.hid h3a
  have HA := Lib.hid a3
  have HB := Lib.hid B3
  have HG := Lib.hid hG3a
  clear h3 A3 B3 a3 h3a hG3 hG3a
  go_region_law (go_simp; go_at_call 54; refine (pick_any r _ _ _ (rd_drewN H3.out 1) (by omega) (by omega)).mono ?_; rintro e w4 ⟨z, rfl, hz, hg4, h4⟩; have hz := hz (by omega); have B4 := blk_grew (w := (w3.alloc (.cells #[.int .i64 y, .int .i64 0, .string s] 50)).drew) HB.out hg4 (by omega); have A4 := blk_grew (w := (w3.alloc (.cells #[.int .i64 y, .int .i64 0, .string s] 50)).drew) HA.out hg4 (by omega); have G4 := Lib.hid (grow_trans (grow_drewN HG.out 1) hg4); have H4 := Lib.hid h4; have p0 : (0 : Int) ≤ (z : Int) * ((y : Int) + 1) := Int.mul_nonneg (by omega) (by omega); have p1 : (z : Int) * ((y : Int) + 1) ≤ 200 * 3 := Int.mul_le_mul (by omega) (by omega) (by omega) (by omega); have d0 := B4.cell 0; have d1 := B4.cell 1; have d2 := B4.cell 2; have df := B4.frozen 1; clear hg4 h4)
  all_goals
    rw [show IntKind.i64.wrap ((y : Int) + 1) = (y : Int) + 1 from IntWalk.i64_in _ (by omega), show IntKind.i64.wrap ((z : Int) * ((y : Int) + 1)) = (z : Int) * ((y : Int) + 1) from IntWalk.i64_in _ (by omega)]
    have p2 : (z : Int) * ((y : Int) + 1) ≤ 600 := p1
    clear p1 d0 d1 d2 df hz
    generalize (z : Int) * ((y : Int) + 1) = q at *
    have B5 := B4.set_ 1 (.int .i64 q)
    have A5 := A4.far (p := ⟨w3.heap.size, 1, none⟩) (by show w.heap.size ≠ w3.heap.size; omega) (.int .i64 q)
    have G5 := Lib.hid (grow_set G4.out (p := ⟨w3.heap.size, 1, none⟩) (by show w.heap.size ≤ w3.heap.size; omega) (.int .i64 q))
    have H5 := Lib.hid (rd_set H4.out (p := ⟨w3.heap.size, 1, none⟩) (by show r < w3.heap.size; omega) (.int .i64 q))
    have l5 := B5.lt
    clear B4 A4 G4 H4
    generalize w4.setCell ⟨w3.heap.size, 1, none⟩ (.int .i64 q) = w5 at *
    go_wp2_with fail
    refine (pick_any r _ _ _ H5.out (by omega) (by omega)).mono ?_
    rintro e w6 ⟨u, rfl, hu, hg6, h6⟩
    have hu := hu (by omega)
    have A6 := blk_grew A5 hg6 (by omega)
    have B6 := blk_grew B5 hg6 (by omega)
    have G6 := Lib.hid (grow_trans G5.out hg6)
    have H6 := Lib.hid h6
    have hr6 := h6.lt
    clear A5 B5 G5 H5 h6 hg6
    by_cases z0 : u = 0
    · have e1 : ((u : Int) == 0) = true := by rw [z0]; rfl
      have e2 : ((u : Int) == 1) = false := by rw [z0]; rfl
      clear z0
      go_wp2_with fail
      refine (pick_any r _ _ _ (rd_alloc H6.out _) (by omega) (by omega)).mono ?_
      rintro e w7 ⟨t, rfl, ht, hg7, h7⟩
      have ht := ht (by omega)
      obtain ⟨v, hv, hv1, hv2⟩ := lit_vers hg7 hr6 (z := t) (by omega)
      have A7 := blk_grew (A6.alloc _) hg7 (by omega)
      have B7 := blk_grew (B6.alloc _) hg7 (by omega)
      have G7 := Lib.hid (grow_trans (grow_alloc G6.out _) hg7)
      have H7 := Lib.hid h7
      have d0 := B7.cell 0
      have d1 := B7.cell 1
      have d2 := B7.cell 2
      have df := B7.frozen 0
      have k0 := A7.cell 0
      have k1 := A7.cell 1
      have k2 := A7.cell 2
      have f0 := A7.frozen 0
      have f1 := A7.frozen 1
      have f2 := A7.frozen 2
      clear hg7 h7 A6 B6
      go_wp2_with fail
      refine bodyPost_ret (v := .agg #[.int .i64 v, .int .i64 q, .string s]) (by simp [results, Tryd.results61, go_sem, k0, k1, k2]) rfl ?_
      refine ⟨_, _, _, rfl, fds_of hv1 hv2 p0 p2 hs, ?_, ?_⟩
      · exact grow_set (grow_set (grow_set (grow_set G7.out (by show w.heap.size ≤ w3.heap.size; omega) _) (by exact Nat.le_refl _) _) (by exact Nat.le_refl _) _) (by exact Nat.le_refl _) _
      · exact (rd_set (rd_set (rd_set (rd_set H7.out (by show r < w3.heap.size; omega) _) (by exact hr) _) (by exact hr) _) (by exact hr) _).more (by omega)
    have e1 : ((u : Int) == 0) = false := beq_eq_false_iff_ne.2 (by omega)
    have d0 := B6.cell 0
    have d1 := B6.cell 1
    have d2 := B6.cell 2
    have df := B6.frozen 2
    have k0 := A6.cell 0
    have k1 := A6.cell 1
    have k2 := A6.cell 2
    have f0 := A6.frozen 0
    have f1 := A6.frozen 1
    have f2 := A6.frozen 2
    by_cases z1 : u = 1
    · have e2 : ((u : Int) == 1) = true := by rw [z1]; rfl
      clear z0 z1
      go_wp2_with fail
      refine bodyPost_ret (v := .agg #[.int .i64 y, .int .i64 q, .string ⟨#[]⟩]) (by simp [results, Tryd.results61, go_sem, k0, k1, k2]) rfl ?_
      refine ⟨_, _, _, rfl, fds_of (by omega) (by omega) p0 p2 (Nat.zero_le _), ?_, ?_⟩
      · exact grow_set (grow_set (grow_set (grow_set G6.out (by show w.heap.size ≤ w3.heap.size; omega) _) (by exact Nat.le_refl _) _) (by exact Nat.le_refl _) _) (by exact Nat.le_refl _) _
      · exact (rd_set (rd_set (rd_set (rd_set H6.out (by show r < w3.heap.size; omega) _) (by exact hr) _) (by exact hr) _) (by exact hr) _).more (by omega)
    have e2 : ((u : Int) == 1) = false := beq_eq_false_iff_ne.2 (by omega)
    clear z0 z1
    go_wp2_with fail
    refine bodyPost_ret (v := .agg #[.int .i64 y, .int .i64 q, .string s]) (by simp [results, Tryd.results61, go_sem, k0, k1, k2]) rfl ?_
    refine ⟨_, _, _, rfl, fds_of (by omega) (by omega) p0 p2 hs, ?_, ?_⟩
    · exact grow_set (grow_set (grow_set G6.out (by exact Nat.le_refl _) _) (by exact Nat.le_refl _) _) (by exact Nat.le_refl _) _
    · exact (rd_set (rd_set (rd_set H6.out (by exact hr) _) (by exact hr) _) (by exact hr) _).more (by omega)
/-- a drawn store, a name and a fold, handed to a statement. -/
def EnsFold (w : World) (e : Ending) (w' : World) : Prop :=
  ∃ (A : Option Addr) (n c : Nat) (xs : List En) (s : ByteArray) (ver sum : Int) (last : ByteArray), e = .returned (.tuple #[.slice A n c, .string s, .agg #[.int .i64 ver, .int .i64 sum, .string last]]) ∧ Row enCells 4 w' w'.heap.size A n xs ∧ Hid (∀ x ∈ xs, EnB x) ∧ n ≤ 30 ∧ n ≤ c ∧ Hid (A = none → c = 0) ∧ s.size ≤ 60 ∧ Hid (FdS ⟨ver, sum, last⟩) ∧ Below w.heap.size w w'
theorem fds_first {es : List Ev} (h : ∀ e ∈ es, EvB e) (j : Nat) (hl : es.length ≤ 30) : FdS (foldOn ⟨-1, 0, ⟨#[]⟩⟩ (es.take j)) := by
  have h2 := foldOn_B (es := es.take j) (fun e he => h e (List.mem_of_mem_take he)) (f := ⟨-1, 0, ⟨#[]⟩⟩) ⟨show (-10000 : Int) ≤ -1 by omega, show (-1 : Int) ≤ 10000 by omega, show (-10000000000 : Int) ≤ 0 by omega, show (0 : Int) ≤ 10000000000 by omega, Nat.zero_le _⟩
  have h3 : (es.take j).length ≤ 30 := Nat.le_trans (List.length_take_le' _ _) hl
  obtain ⟨p1, p2, p3, p4⟩ := h2
  simp only at p1 p2 p3
  exact ⟨by omega, by omega, by omega, by omega, p4⟩
theorem take_row {W : World} {A : Option Addr} {k c j : Nat} {st : List Ev} (H : Row evCells 3 W W.heap.size A k st) (hc : k ≤ c) (hj : j ≤ k) : Row evCells 3 W W.heap.size A j (st.take j) := by
  have h1 := H.cut (cap := c) evCells_len 0 j (Nat.zero_le _) hj hc
  have e : (if c = 0 then A else Option.map (fun x => x.add (0 * 3)) A) = A := by
    split
    · rfl
    · cases A <;> simp [Addr.add]
  rw [e, Nat.sub_zero, List.drop_zero] at h1
  exact h1
theorem row_self {W : World} {A : Option Addr} {k g o : Nat} {xs : List En} (H : Row enCells 4 W W.heap.size A k xs) (hA : ∀ p, A = some p → g < p.block) (u : Value) : Row enCells 4 (W.setCell ⟨g, o, none⟩ u) (W.setCell ⟨g, o, none⟩ u).heap.size A k xs := by
  have hg : W.grownBy (W.setCell ⟨g, o, none⟩ u) (some g) := ⟨rfl, rfl, rfl, by simp, fun i hi hne => Below.heap_setCell W ⟨g, o, none⟩ u i (fun e => hne (by rw [e]))⟩
  exact (H.grown (Nat.le_refl _) hg (fun p hp e => by have := hA p hp; injection e with e; omega)).more hg.size
theorem ens_fold {W w : World} {A : Option Addr} {k c : Nat} {xs : List En} {s : ByteArray} {ver sum : Int} {last : ByteArray} (R : Row enCells 4 W W.heap.size A k xs) (hA : ∀ p, A = some p → w.heap.size < p.block) (HB : Hid (∀ x ∈ xs, EnB x)) (hk : k ≤ 30) (hkc : k ≤ c) (Hn : Hid (A = none → c = 0)) (hs : s.size ≤ 60) (HF : Hid (FdS ⟨ver, sum, last⟩)) (hb : Below w.heap.size w W) :
    EnsFold w (.returned (.tuple #[.slice A k c, .string s, .agg #[.int .i64 ver, .int .i64 sum, .string last]])) (((W.setCell ⟨w.heap.size, 0, none⟩ (.int .i64 ver)).setCell ⟨w.heap.size, 1, none⟩ (.int .i64 sum)).setCell ⟨w.heap.size, 2, none⟩ (.string last)) :=
  ⟨A, k, c, xs, s, ver, sum, last, rfl, row_self (row_self (row_self R hA _) hA _) hA _, HB, hk, hkc, Hn, hs, HF, ((hb.setCell (p := ⟨w.heap.size, 0, none⟩) (Nat.le_refl _) _).setCell (p := ⟨w.heap.size, 1, none⟩) (Nat.le_refl _) _).setCell (p := ⟨w.heap.size, 2, none⟩) (Nat.le_refl _) _⟩
set_option maxRecDepth 100000 in
set_option maxHeartbeats 4000000 in
theorem drawFoldStream_any (A : Option Addr) (n c : Nat) (w : World) (h : Code w A n c) :
    Calls Tryd.prog 29 #[.slice A n c] w (EnsFold w) := by
  have hb0 : Below w.heap.size w (w.alloc (.cells #[.int .i64 0, .int .i64 0, .string ⟨#[]⟩] 50)) := (Below.refl _ _).alloc (Nat.le_refl _) _
  have L0 : Live (w.alloc (.cells #[.int .i64 0, .int .i64 0, .string ⟨#[]⟩] 50)) fun W => Below w.heap.size w W ∧ Blk W w.heap.size 50 #[.int .i64 0, .int .i64 0, .string ⟨#[]⟩] := (Live.since hb0).and (Live.blk (Blk.new w _ _))
  have hc := h.below hb0
  clear h hb0
  go_enter Tryd.func29, Tryd.ntmps29
  go_wp2_with fail
  refine (open_any A n c _ hc).mono ?_
  rintro e w1 ⟨r, rfl, hr, hb1, h1⟩
  have hr0 : w.heap.size < r := by simp at hr; omega
  clear hc
  generalize w.alloc (.cells #[.int .i64 0, .int .i64 0, .string ⟨#[]⟩] 50) = w0 at *
  go_wp2_with fail
  refine (l91In_any r 0 _ h1 (by omega)).mono ?_
  rintro e w2 ⟨v, k, xs, s, rfl, hl, hown, HB, hk, hs, hg2, h2⟩
  obtain ⟨A', c', rfl, hkc, hnil, hrow, hbase⟩ := Row.of_own hown hl
  have HG2 := Lib.hid hg2
  have hr2 := h2.lt
  have Hb := Lib.hid hbase
  have Hn := Lib.hid hnil
  have Hl := Lib.hid hl
  have hr1 := h1.lt
  clear hown h1 hg2
  go_wp2_with fail
  refine (l4Events_new A' k c' xs s w2 hrow (by omega)).mono ?_
  rintro e w3 ⟨A4, m, c4, rfl, hrow4, hmc, Hnil4, Hnew, hb3⟩
  have hm : m ≤ 30 := by have := hrow4.1; have := streamOf_len xs s; omega
  have R3 := hrow.next hb3
  have HG3 := Lib.hid (grow_below HG2.out hb3)
  have h3 : Rd w3 r (0 + 300) := h2.keep fun k hk => hb3.block k (by omega)
  have hr3 := h3.lt
  have Hl4 := Lib.hid hrow4.1
  clear hrow h2
  go_wp2_with fail
  refine (pick_any r _ _ _ h3 (by omega) (by omega)).mono ?_
  rintro e w4 ⟨x, rfl, hx, hg4, h4⟩
  have hx := hx (by omega)
  have R4 := (R3.grown (Nat.le_refl _) hg4 (fun p hp e => by have := Hb.out p hp; injection e with e; omega)).more hg4.size
  have E4 := (hrow4.grown (Nat.le_refl _) hg4 (fun p hp e => by have := Hnew.out p hp; injection e with e; omega)).more hg4.size
  have HG4 := Lib.hid (grow_trans HG3.out hg4)
  have hif : (if c4 = 0 then A4 else Option.map (fun x => x.add 0) A4) = A4 := by
    split
    · rfl
    · cases A4 <;> simp [Addr.add]
  clear R3 HG3 HG2 hg4 hrow4 h3 hb3
  by_cases hx0 : x = 0
  · have e0 : ¬ (0 : Int) < (x : Int) := by omega
    clear hx0
    go_wp2_with fail
    refine (l92Fold_any r _ _ h4 (by omega)).mono ?_
    rintro e w5 ⟨ver, sum, last, rfl, hf, hg5, h5⟩
    have R5 := (R4.grown (Nat.le_refl _) hg5 (fun p hp e => by have := Hb.out p hp; injection e with e; omega)).more hg5.size
    have HB5 := Lib.hid (drawn_below hr hb1 (grow_trans HG4.out hg5))
    have L5 := L0.next HB5.out
    have HF := Lib.hid hf
    have z0 := L5.now.2.cell 0
    have z1 := L5.now.2.cell 1
    have z2 := L5.now.2.cell 2
    have y0 := L5.now.2.frozen 0
    have y1 := L5.now.2.frozen 1
    have y2 := L5.now.2.frozen 2
    clear R4 E4 h4 hg5 h5 hf
    go_wp2_with fail
    refine bodyPost_ret (v := .tuple #[.slice A' k c', .string s, .agg #[.int .i64 ver, .int .i64 sum, .string last]]) (by simp [results, Tryd.results29, go_sem, z0, z1, z2]) rfl ?_
    exact ens_fold R5 (fun p hp => by have := Hb.out p hp; omega) HB hk hkc Hn hs HF L5.now.1
  · have e0 : (0 : Int) < (x : Int) := by omega
    clear hx0
    go_wp2_with fail
    refine (pick_any r _ _ _ h4 (by omega) (by omega)).mono ?_
    rintro e w5 ⟨j, rfl, hj, hg5, h5⟩
    have hj := hj (by omega)
    have hjm : j ≤ m := by omega
    have hjm2 : (j : Int) ≤ (m : Int) := by omega
    have R5 := (R4.grown (Nat.le_refl _) hg5 (fun p hp e => by have := Hb.out p hp; injection e with e; omega)).more hg5.size
    have E5 := (E4.grown (Nat.le_refl _) hg5 (fun p hp e => by have := Hnew.out p hp; injection e with e; omega)).more hg5.size
    have HB5 := Lib.hid (drawn_below hr hb1 (grow_trans HG4.out hg5))
    have L5 := (L0.next HB5.out).and (Live.row R5)
    have ON := Lib.hid (l21On_any (-1) 0 ⟨#[]⟩ A4 j c4 ((streamOf xs s).take j) w5 (take_row E5 hmc hjm) (fun e he => stream_B HB.out e (List.mem_of_mem_take he)) ⟨show (-10000 : Int) ≤ -1 by omega, show (-1 : Int) ≤ 10000 by omega, show (-10000000000 : Int) ≤ 0 by omega, show (0 : Int) ≤ 10000000000 by omega, Nat.zero_le _⟩ (by omega))
    have HF := Lib.hid (fds_first (es := streamOf xs s) (stream_B HB.out) j (by rw [Hl4.out]; exact hm))
    obtain ⟨⟨v', s', l'⟩, hF⟩ : ∃ F, foldOn ⟨-1, 0, ⟨#[]⟩⟩ ((streamOf xs s).take j) = F := ⟨_, rfl⟩
    rw [hF] at ON HF
    clear R4 E4 E5 R5 h4 hg5 h5 hF hj
    go_wp2_with (go_at_call 60; refine ON.out.mono ?_; rintro e w6 ⟨rfl, hb6⟩; unfold fdCells; have L6 := L5.next hb6; have z0 := L6.now.1.2.cell 0; have z1 := L6.now.1.2.cell 1; have z2 := L6.now.1.2.cell 2; have y0 := L6.now.1.2.frozen 0; have y1 := L6.now.1.2.frozen 1; have y2 := L6.now.1.2.frozen 2)
    refine bodyPost_ret (v := .tuple #[.slice A' k c', .string s, .agg #[.int .i64 v', .int .i64 s', .string l']]) (by simp [results, Tryd.results29, go_sem, z0, z1, z2]) rfl ?_
    exact ens_fold L6.now.2 (fun p hp => by have := Hb.out p hp; omega) HB hk hkc Hn hs HF L6.now.1.1
end Go.Proofs.YtbcfbkcadceniaaDoor
