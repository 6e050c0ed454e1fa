/- Drawn totals, and an entry. -/
import Derived.Test.YtlaolhhkchgakaaDoorDrawIn
import Derived.Test.YtlaolhhkchgakaaDoorTotPS
import Derived.Deep.RegionLaw
namespace Go.Proofs.YtlaolhhkchgakaaDoor
set_option linter.unusedVariables false
set_option linter.unusedSimpArgs false
open Go.RowKit

def TotSm (t : Tot) : Prop := t.cat.size ≤ 60 ∧ (0 ≤ t.many ∧ t.many ≤ 100) ∧ 0 ≤ t.sum ∧ t.sum ≤ 100000
def TotsSm (l : List Tot) : Prop := ∀ c ∈ l, TotSm c
theorem TotsSm.big {l : List Tot} (h : TotsSm l) : TotsB l := fun t ht => ⟨small60 (h t ht).1, ⟨by have := (h t ht).2.1; omega, by have := (h t ht).2.1; omega⟩, by have := (h t ht).2.2; omega, by have := (h t ht).2.2; omega⟩
theorem TotsSm.small {l : List Tot} (h : TotsSm l) : SmallTots l := fun t ht => small60 (h t ht).1
theorem set_flat_tot (l : List Tot) (j : Nat) (x : Int) (h : j < l.length) :
    (l.flatMap totCells).set (j * 3 + 1) (.int .i64 x) = (l.set j ⟨(nx l j).cat, x, (nx l j).sum⟩).flatMap totCells := by
  induction l generalizing j with
  | nil => exact absurd h (by simp)
  | cons a l ih =>
    cases j with
    | zero => rfl
    | succ j =>
      rw [List.set_cons_succ, List.flatMap_cons, List.flatMap_cons, show (j + 1) * 3 + 1 = (totCells a).length + (j * 3 + 1) by rw [totCells_len]; omega, List.set_append_right _ _ (by omega), Nat.add_sub_cancel_left, ih j (by simpa using h)]
      rfl
def TotsPost (r M : Nat) (w : World) (e : Ending) (w' : World) : Prop :=
  ∃ (v : Value) (n : Nat) (cs : List Tot), e = .returned v ∧ Hid (cs.length = n) ∧ Hid (w'.ownsRow w.heap.size 29 3 v n (cs.flatMap totCells)) ∧ Hid (TotsSm cs) ∧ n ≤ 5 ∧ Hid (w.grownBy w' (some r)) ∧ Rd w' r M
def totNames : Array Value := #[.string ⟨#[97]⟩, .string ⟨#[97, 99, 99, 116]⟩, .string ⟨#[98, 101, 101]⟩, .string ⟨#[99, 97, 114, 116]⟩, .string ⟨#[122, 111, 111]⟩]
theorem three_manys {w w' : World} {r : Nat} {t : TypeId} (hg : (w.alloc (.cells #[.int .i64 0, .int .i64 99, .int .i64 100] t)).grownBy w' (some r)) (hr : r < w.heap.size) {z : Nat} (hz : z < 3) :
    ∃ v : Int, Hid (0 ≤ v ∧ v ≤ 100) ∧ w'.cell? ⟨w.heap.size, z, none⟩ = some (.int .i64 v) := by
  have hB := blk_grew (Blk.new w t #[.int .i64 0, .int .i64 99, .int .i64 100]) hg (by omega)
  obtain rfl | rfl | rfl : z = 0 ∨ z = 1 ∨ z = 2 := by omega
  · exact ⟨0, Lib.hid (by decide), hB.cell 0⟩
  · exact ⟨99, Lib.hid (by decide), hB.cell 1⟩
  · exact ⟨100, Lib.hid (by decide), hB.cell 2⟩
theorem many_fit (a b : Nat) (ha : a < 5) (hb : b < 6) : ∃ m : Nat, Hid (m ≤ 85) ∧ wrap64 (1 + wrap64 ((a : Int) * (1 + (b : Int) / 5 * 20))) = (m : Int) := by
  have h5 : b / 5 ≤ 1 := by omega
  have h6 : a * (1 + b / 5 * 20) ≤ 4 * 21 := Nat.mul_le_mul (by omega) (by omega)
  refine ⟨1 + a * (1 + b / 5 * 20), Lib.hid (by omega), ?_⟩
  have e : (a : Int) * (1 + (b : Int) / 5 * 20) = ((a * (1 + b / 5 * 20) : Nat) : Int) := by
    rw [Int.natCast_mul, show ((1 + b / 5 * 20 : Nat) : Int) = 1 + (b : Int) / 5 * 20 by omega]
  rw [e]
  generalize a * (1 + b / 5 * 20) = K at *
  rw [IntWalk.wrap64_in (K : Int) ⟨by omega, by omega⟩, IntWalk.wrap64_in _ ⟨by omega, by omega⟩]
  omega
theorem sum_fit (z m : Nat) (hz : z < 200) (hm : m ≤ 85) : ∃ s : Nat, Hid (s ≤ 100000) ∧ wrap64 ((z : Int) * (m : Int)) = (s : Int) ∧ IntKind.i64.wrap ((z : Int) * (m : Int)) = (s : Int) := by
  have h6 : z * m ≤ 199 * 85 := Nat.mul_le_mul (by omega) hm
  refine ⟨z * m, Lib.hid (by omega), ?_, ?_⟩
  · rw [← Int.natCast_mul, IntWalk.wrap64_in _ ⟨by omega, by omega⟩]
  · rw [← Int.natCast_mul, IntWalk.i64_in _ (by omega)]
set_option maxRecDepth 100000 in
set_option maxHeartbeats 8000000 in
theorem l92Totals_any (r N : Nat) (w : World) (h : Rd w r N) (hN : N ≤ 800000) :
    Calls Tryd.prog 46 #[.pointer (some ⟨r, 0, none⟩)] w (TotsPost r (N + 30) w) := by
  have hr := h.lt
  have P2 : Hid (Blk ((w.alloc (.cells #[] 29)).alloc (.cells totNames 9)) (w.heap.size + 1) 9 totNames ∧ ((w.alloc (.cells #[] 29)).alloc (.cells totNames 9)).ownsRow w.heap.size 29 3 (.slice (some ⟨w.heap.size, 0, none⟩) 0 0) 0 [] ∧ w.grownBy ((w.alloc (.cells #[] 29)).alloc (.cells totNames 9)) (some r) ∧ Rd ((w.alloc (.cells #[] 29)).alloc (.cells totNames 9)) r N) := Lib.hid
    ⟨by have := Blk.new (w.alloc (.cells #[] 29)) 9 totNames; simpa using this, (World.ownsRow_lit (base := w.heap.size) (e := 29) (size := 3) w #[] 0 (Nat.le_refl _) (Nat.zero_le _) rfl).alloc _, grow_alloc (grow_alloc (grow_refl w r) _) _, rd_alloc (rd_alloc h _) _⟩
  have Hnl : Hid (strsOk totNames = true) := Lib.hid (by kernel_rfl)
  clear h
  go_enter Tryd.func46, Tryd.ntmps46
  go_wp2_with fail
  unfold totNames at P2
  generalize (w.alloc (.cells #[] 29)).alloc (.cells #[.string ⟨#[97]⟩, .string ⟨#[97, 99, 99, 116]⟩, .string ⟨#[98, 101, 101]⟩, .string ⟨#[99, 97, 114, 116]⟩, .string ⟨#[122, 111, 111]⟩] 9) = w2 at *
  go_loopw [3, 5] (fun u i wr => ∃ (k : Nat) (v : Value) (cs : List Tot), k ≤ 5 ∧ i = .int .i64 k ∧ v = u ∧ Hid (cs.length ≤ k) ∧ Hid (Blk wr (w.heap.size + 1) 9 totNames) ∧ Hid (wr.ownsRow w.heap.size 29 3 v cs.length (cs.flatMap totCells)) ∧ Hid (v.ownBlock ≠ some (w.heap.size + 1)) ∧ Hid (TotsSm cs) ∧ Hid (w.grownBy wr (some r)) ∧ Hid (Rd wr r (N + 4 * k))) (fun _ i _ => 5 - (intOf i).toNat)
  case atStart => exact ⟨0, _, [], by omega, rfl, rfl, Lib.hid (Nat.zero_le _), Lib.hid P2.out.1, Lib.hid P2.out.2.1, Lib.hid (fun e => by have := Option.some.inj e; simp only at this; omega), Lib.hid (fun c hc => by cases hc), Lib.hid P2.out.2.2.1, Lib.hid P2.out.2.2.2⟩
  case round =>
    obtain ⟨k, v, cs, hk, rfl, rfl, Hml, HN, HO, Hvb, HS, HG, HR⟩ := hrel
    have hlw := HG.out.size
    have hlN := HN.out.lt
    have hmle := Hml.out
    by_cases hlt : k < 5
    · have hlt' : (k : Int) < 5 := by omega
      go_wp2_with fail
      refine (pick_any r _ _ _ HR.out (by omega) (by omega)).mono ?_
      rintro e w3 ⟨y, rfl, hy, hg3, h3⟩
      have N3 := Lib.hid (blk_grew HN.out hg3 (by omega))
      have O3 := Lib.hid (own_rd HO.out hr hg3)
      have G3 := Lib.hid (grow_trans HG.out hg3)
      have H3 := Lib.hid h3
      have hz3 := G3.out.size
      clear hg3 h3
      by_cases y0 : y = 0
      · have e0 : ((y : Int) == 0) = true := by rw [y0]; rfl
        clear y0 hy
        go_wp2_with fail
        refine (pick_any r _ _ _ H3.out (by omega) (by omega)).mono ?_
        rintro e w4 ⟨p, rfl, hp, hg4, h4⟩
        have hp := hp (by omega)
        have N4 := Lib.hid (blk_grew N3.out hg4 (by omega))
        have O4 := Lib.hid (own_rd O3.out hr hg4)
        have G4 := Lib.hid (grow_trans G3.out hg4)
        have H4 := Lib.hid h4
        clear hg4 h4
        go_wp2_with fail
        refine (pick_any r _ _ _ H4.out (by omega) (by omega)).mono ?_
        rintro e w5 ⟨q, rfl, hq, hg5, h5⟩
        have hq := hq (by omega)
        have N5 := Lib.hid (blk_grew N4.out hg5 (by omega))
        have O5 := Lib.hid (own_rd O4.out hr hg5)
        have G5 := Lib.hid (grow_trans G4.out hg5)
        have H5 := Lib.hid h5
        clear hg5 h5
        obtain ⟨mm, Hmm, hmm⟩ := many_fit p q (by omega) (by omega)
        have Fit := Lib.hid (fun z hz => sum_fit z mm hz Hmm.out)
        obtain ⟨s, hs, hs60⟩ := strs_lit N5.out Hnl.out k (by show k < 5; omega)
        rw [Nat.zero_add] at hs
        have hz5 := G5.out.size
        go_wp2_with fail
        rw [hmm]
        clear hmm
        go_region_law (first
          | (go_simp; go_at_call 55; go_must (refine (pick_any r (N + 4 * k + 1 + 1 + 1) _ _ (rd_drewN H5.out 1) (by omega) (by omega)).mono ?_; rintro e w6 ⟨z, rfl, hz, hg6, h6⟩; have hz := hz (by omega); obtain ⟨sm, Hsm, hs1, hs2⟩ := Fit.out z (by omega); have O6 := Lib.hid (own_rd (show w5.drew.ownsRow w.heap.size 29 3 v cs.length (cs.flatMap totCells) from O5.out) hr hg6); have G6 := Lib.hid (grow_trans (grow_drewN G5.out 1) hg6); have H6 := Lib.hid h6; have N6 := Lib.hid (blk_grew (show Blk w5.drew (w.heap.size + 1) 9 totNames from N5.out) hg6 (by omega)); have s6 : w6.cell? ⟨w.heap.size + 1, k, none⟩ = some (.string s) := (hg6.cell (show w5.drew.cell? ⟨w.heap.size + 1, k, none⟩ = some (.string s) from hs) (fun e => by have := Option.some.inj e; simp only at this; omega)); have hz6 := G6.out.size; clear hg6 h6))
          | (go_must (refine app_one_step elemTot w6 ?_ (.tmp 27) (.tmp 38) ?_ w.heap.size v cs.length (cs.flatMap totCells) ?_ O6.out [.string s, .int .i64 (mm : Int), .int .i64 (sm : Int)] ?_ ?_ ?_ ?_ ?_ ?_; rfl; rfl; rfl; rfl; rfl; (intro u hu; simp at hu; rcases hu with rfl | rfl | rfl <;> rfl); omega; (exact hz6); intro v' w7 own7 grow7 or7)))
        all_goals
          have own8 : w7.ownsRow w.heap.size 29 3 v' (cs ++ [(⟨s, mm, sm⟩ : Tot)]).length ((cs ++ [(⟨s, mm, sm⟩ : Tot)]).flatMap totCells) := by
            rw [flatT_snoc, List.length_append]
            exact own7
          have G7 := own_grown O6.out (Nat.le_refl _) G6.out grow7
          have R7 := rd_own O6.out hr H6.out grow7
          have N7 := N6.out.grown grow7 (fun e => Hvb.out e.symm)
          have hvb7 : v'.ownBlock ≠ some (w.heap.size + 1) := by
            rcases or7 with e | e
            · rw [e]; exact Hvb.out
            · rw [e]; intro e'; have := Option.some.inj e'; have := N6.out.lt; omega
          have HS' : Hid (TotsSm (cs ++ [(⟨s, mm, sm⟩ : Tot)])) := Lib.hid fun c hc => by
            rcases List.mem_append.1 hc with h1 | h1
            · exact HS.out c h1
            · rw [List.mem_singleton] at h1; rw [h1]
              have := Hmm.out
              have := Hsm.out
              exact ⟨hs60, ⟨by show (0 : Int) ≤ (mm : Int); omega, by show (mm : Int) ≤ 100; omega⟩, by show (0 : Int) ≤ (sm : Int); omega, by show (sm : Int) ≤ 100000; omega⟩
          have HF := Lib.hid (And.intro own8 (And.intro G7 (And.intro R7 (And.intro N7 hvb7))))
          clear own7 grow7 or7 own8 G7 R7 N7 hvb7 s6
          try clear hs
          go_wp2_with fail
          go_roundw
          case rel => exact ⟨k + 1, _, cs ++ [⟨s, mm, sm⟩], by omega, by go_num, rfl, Lib.hid (by rw [List.length_append]; simp; omega), Lib.hid HF.out.2.2.2.1, Lib.hid HF.out.1, Lib.hid HF.out.2.2.2.2, HS', Lib.hid HF.out.2.1, Lib.hid (HF.out.2.2.1.more (by omega))⟩
          case measure => simp [intOf]; omega
      · have e0 : ((y : Int) == 0) = false := beq_eq_false_iff_ne.2 (by omega)
        clear y0 hy
        go_wp2_with fail
        go_roundw
        case rel => exact ⟨k + 1, _, cs, by omega, by go_num, rfl, Lib.hid (by omega), N3, O3, Hvb, HS, G3, Lib.hid (H3.out.more (by omega))⟩
        case measure => simp [intOf]; omega
    · obtain rfl : k = 5 := by omega
      obtain ⟨Av, cv, rfl⟩ := own_slice_n HO.out
      clear HN Hvb
      by_cases hk0 : 0 < cs.length
      · have hk0' : (0 : Int) < (cs.length : Int) := by omega
        obtain ⟨g, cap, hv, hgb⟩ := own_head HO.out hk0
        obtain ⟨rfl, -, rfl⟩ : Av = some ⟨g, 0, none⟩ ∧ cs.length = cs.length ∧ cv = cap := by injection hv with a b c; exact ⟨a, rfl, c⟩
        clear hv
        go_wp2_with fail
        refine (pick_any r _ _ _ HR.out (by omega) (by omega)).mono ?_
        rintro e w3 ⟨y, rfl, hy, hg3, h3⟩
        have O3 := Lib.hid (own_rd HO.out hr hg3)
        have G3 := Lib.hid (grow_trans HG.out hg3)
        have H3 := Lib.hid h3
        clear hg3 h3
        by_cases y0 : y = 0
        · have e0 : ((y : Int) == 0) = true := by rw [y0]; rfl
          clear y0 hy
          go_wp2_with fail
          refine (pick_any r _ _ _ H3.out (by omega) (by omega)).mono ?_
          rintro e w4 ⟨j, rfl, hj, hg4, h4⟩
          have hj := hj (by omega)
          have O4 := Lib.hid (own_rd O3.out hr hg4)
          have G4 := Lib.hid (grow_trans G3.out hg4)
          have hr4 := h4.lt
          have H4 := Lib.hid (rd_alloc h4 (.cells #[.int .i64 0, .int .i64 99, .int .i64 100] 3))
          clear hg4 h4
          go_wp2_with fail
          refine (pick_any r _ _ _ H4.out (by omega) (by omega)).mono ?_
          rintro e w5 ⟨z, rfl, hz, hg5, h5⟩
          have hz := hz (by omega)
          obtain ⟨x, Hx, hx⟩ := three_manys hg5 hr4 (z := z) (by omega)
          have O5 := own_rd (O4.out.alloc (.cells #[.int .i64 0, .int .i64 99, .int .i64 100] 3)) hr hg5
          have G5 := Lib.hid (grow_trans (grow_alloc G4.out (.cells #[.int .i64 0, .int .i64 99, .int .i64 100] 3)) hg5)
          have H5 := Lib.hid h5
          have f1 := O5.frozenAt (j * 3 + 1)
          have hck : cs[j]? = some (nx cs j) := nx_get (by omega)
          have d1 : w5.cell? ⟨g, j * 3 + 1, none⟩ = some (.int .i64 (nx cs j).many) := (O5.cellAt (j * 3 + 1) (by omega)).trans (flat_get totCells_len cs j 1 _ hck (by omega))
          have HO5 := Lib.hid O5
          clear hg5 h5 O5 hck
          go_wp2_with fail
          go_ret
          obtain ⟨s1, g1⟩ := HO5.out.stored (j * 3 + 1) (.int .i64 x)
          rw [set_flat_tot cs j x (by omega)] at s1
          refine ⟨_, cs.length, _, rfl, Lib.hid (by rw [List.length_set]), Lib.hid s1, Lib.hid ?_, by omega, Lib.hid (own_grown HO5.out (Nat.le_refl _) G5.out g1), (rd_own HO5.out hr H5.out g1).more (by omega)⟩
          intro c hc
          rcases List.mem_or_eq_of_mem_set hc with h1 | h1
          · exact HS.out c h1
          · rw [h1]
            have := HS.out _ (nx_mem (l := cs) (k := j) (by omega))
            exact ⟨this.1, Hx.out, this.2.2⟩
        · have e0 : ((y : Int) == 0) = false := beq_eq_false_iff_ne.2 (by omega)
          clear y0 hy
          go_wp2_with fail
          go_ret
          exact ⟨_, cs.length, cs, rfl, Lib.hid rfl, O3, HS, by omega, G3, H3.out.more (by omega)⟩
      · have hk0' : ¬ (0 : Int) < (cs.length : Int) := by omega
        have hd : decide ((0 : Int) < (cs.length : Int)) = false := decide_eq_false hk0'
        go_wp2_with fail
        go_ret
        exact ⟨_, cs.length, cs, rfl, Lib.hid rfl, HO, HS, by omega, HG, HR.out.more (by omega)⟩

set_option maxRecDepth 100000 in
set_option maxHeartbeats 4000000 in
theorem drawTotalsOf_any (A : Option Addr) (n c : Nat) (w : World) (h : Code w A n c) :
    Calls Tryd.prog 10 #[.slice A n c] w (EnsDrawn w) := by
  go_enter Tryd.func10, Tryd.ntmps10
  go_wp2_with fail
  refine (open_any A n c _ h).mono ?_
  rintro e w1 ⟨r, rfl, hr, hb1, h1⟩
  clear h
  go_wp2_with fail
  refine (l91Store_any r 0 _ h1 (by omega)).mono ?_
  rintro e w2 ⟨v, k, xs, rfl, hl, hown, HB, hk, hg2, h2⟩
  have hb2 := drawn_below hr hb1 hg2
  go_wp2_with fail
  go_ret
  exact ens_drawn hl hown HB hk hb2
theorem row_self3 {W : World} {A : Option Addr} {k g o : Nat} {xs : List Tot} (H : Row totCells 3 W W.heap.size A k xs) (hA : ∀ p, A = some p → g < p.block) (u : Value) : Row totCells 3 (W.setCell ⟨g, o, none⟩ u) (W.setCell ⟨g, o, none⟩ u).heap.size A k xs := by
  have hg : W.grownBy (W.setCell ⟨g, o, none⟩ u) (some g) := ⟨rfl, rfl, rfl, by simp, fun i hi hne => Below.heap_setCell W ⟨g, o, none⟩ u i (fun e => hne (by rw [e]))⟩
  exact (H.grown (Nat.le_refl _) hg (fun p hp e => by have := hA p hp; injection e with e; omega)).more hg.size
/-- drawn totals and an entry, handed to a statement. -/
def TotsEn (w : World) (e : Ending) (w' : World) : Prop :=
  ∃ (A : Option Addr) (n c : Nat) (ts : List Tot) (name : ByteArray) (id : Int) (kind : ByteArray) (data : Int), e = .returned (.tuple #[.slice A n c, .agg #[.string name, .int .i64 id, .string kind, .int .i64 data]]) ∧ Row totCells 3 w' w'.heap.size A n ts ∧ Hid (TotsSm ts) ∧ Hid (EnB ⟨name, ⟨id, kind, data⟩⟩) ∧ n ≤ 5 ∧ n ≤ c ∧ Hid (A = none → c = 0) ∧ Below w.heap.size w w'
set_option maxRecDepth 100000 in
set_option maxHeartbeats 4000000 in
theorem drawTotalsAdd_any (A : Option Addr) (n c : Nat) (w : World) (h : Code w A n c) :
    Calls Tryd.prog 21 #[.slice A n c] w (TotsEn w) := by
  have hb0 : Below w.heap.size w (w.alloc (.cells #[.string ⟨#[]⟩, .int .i64 0, .string ⟨#[]⟩, .int .i64 0] 35)) := (Below.refl _ _).alloc (Nat.le_refl _) _
  have L0 : Live (w.alloc (.cells #[.string ⟨#[]⟩, .int .i64 0, .string ⟨#[]⟩, .int .i64 0] 35)) fun W => Below w.heap.size w W ∧ Blk W w.heap.size 35 #[.string ⟨#[]⟩, .int .i64 0, .string ⟨#[]⟩, .int .i64 0] := (Live.since hb0).and (Live.blk (Blk.new w _ _))
  have hc := h.below hb0
  clear h hb0
  go_enter Tryd.func21, Tryd.ntmps21
  go_wp2_with fail
  refine (open_any A n c _ hc).mono ?_
  rintro e w1 ⟨r, rfl, hr, hb1, h1⟩
  have hr0 : w.heap.size < r := by simp at hr; omega
  clear hc
  generalize w.alloc (.cells #[.string ⟨#[]⟩, .int .i64 0, .string ⟨#[]⟩, .int .i64 0] 35) = w0 at *
  go_wp2_with fail
  refine (l92Totals_any r 0 _ h1 (by omega)).mono ?_
  rintro e w2 ⟨v, k, ts, rfl, Hl, Hown, HB, hk, Hg2, h2⟩
  obtain ⟨A', c', rfl, hkc, hnil, hrow, hbase⟩ := Row.of_own Hown.out Hl.out
  have hr1 := h1.lt
  have Hb := Lib.hid hbase
  have Hn := Lib.hid hnil
  have HR2 := Lib.hid hrow
  clear h1 hbase hnil hrow Hown
  go_wp2_with fail
  refine (l91Name_any r _ _ h2 (by omega)).mono ?_
  rintro e w3 ⟨name, rfl, hname, hg3, h3⟩
  have hfar : ∀ p, A' = some p → some r ≠ some p.block := fun p hp e => by have := Hb.out p hp; injection e with e; omega
  have Hfar := Lib.hid hfar
  have G3 := Lib.hid (grow_trans Hg2.out hg3)
  have R3 := Lib.hid ((HR2.out.grown (Nat.le_refl _) hg3 hfar).more hg3.size)
  clear h2 hg3 hfar
  go_wp2_with fail
  refine (l91Event_any r _ _ h3 (by omega)).mono ?_
  rintro e w4 ⟨id, kind, data, rfl, hev, hg4, h4⟩
  have G4 := Lib.hid (grow_trans G3.out hg4)
  have R4 := (R3.out.grown (Nat.le_refl _) hg4 Hfar.out).more hg4.size
  have L4 := L0.next (drawn_below hr hb1 G4.out)
  have HE := Lib.hid (show EnB ⟨name, ⟨id, kind, data⟩⟩ from ⟨hname, hev⟩)
  have hA : ∀ p, A' = some p → w.heap.size < p.block := fun p hp => by have := Hb.out p hp; omega
  have z0 := L4.now.2.cell 0
  have z1 := L4.now.2.cell 1
  have z2 := L4.now.2.cell 2
  have z3 := L4.now.2.cell 3
  have y0 := L4.now.2.frozen 0
  have y1 := L4.now.2.frozen 1
  have y2 := L4.now.2.frozen 2
  have y3 := L4.now.2.frozen 3
  have RR := Lib.hid (row_self3 (row_self3 (row_self3 (row_self3 (o := 0) R4 hA (.string name)) (o := 1) hA (.int .i64 id)) (o := 2) hA (.string kind)) (o := 3) hA (.int .i64 data))
  have BB := Lib.hid ((((L4.now.1.setCell (p := ⟨w.heap.size, 0, none⟩) (Nat.le_refl _) (.string name)).setCell (p := ⟨w.heap.size, 1, none⟩) (Nat.le_refl _) (.int .i64 id)).setCell (p := ⟨w.heap.size, 2, none⟩) (Nat.le_refl _) (.string kind)).setCell (p := ⟨w.heap.size, 3, none⟩) (Nat.le_refl _) (.int .i64 data))
  clear R4 hA h3 h4 hg4 hev hname
  go_wp2_with fail
  refine bodyPost_ret (v := .tuple #[.slice A' k c', .agg #[.string name, .int .i64 id, .string kind, .int .i64 data]]) (by simp [results, Tryd.results21, go_sem, z0, z1, z2, z3]) rfl ?_
  exact ⟨A', k, c', ts, name, id, kind, data, rfl, RR.out, HB, HE, hk, hkc, Hn, BB.out⟩
end Go.Proofs.YtlaolhhkchgakaaDoor
