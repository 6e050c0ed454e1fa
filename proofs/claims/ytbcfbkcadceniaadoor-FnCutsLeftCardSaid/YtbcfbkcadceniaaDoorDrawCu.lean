/- Drawn cuts. -/
import Derived.Test.YtbcfbkcadceniaaDoorDrawIn
import Derived.Test.YtbcfbkcadceniaaDoorCuts
import Derived.Deep.RegionLaw
namespace Go.Proofs.YtbcfbkcadceniaaDoor
set_option linter.unusedVariables false
set_option linter.unusedSimpArgs false
open Go.RowKit

def Cuts60 (l : List Cut) : Prop := ∀ c ∈ l, c.name.size ≤ 60
theorem Cuts60.small {l : List Cut} (h : Cuts60 l) : SmallCuts l := fun c hc => small60 (h c hc)
theorem set_flat_cut (l : List Cut) (j : Nat) (x : Int) (h : j < l.length) :
    (l.flatMap cutCells).set (j * 2 + 1) (.int .i64 x) = (l.set j ⟨(nx l j).name, x⟩).flatMap cutCells := by
  induction l generalizing j with
  | nil => exact absurd h (by simp)
  | cons a l ih =>
    cases j with
    | zero => rfl
    | succ j =>
      rw [List.set_cons_succ, List.flatMap_cons, List.flatMap_cons, show (j + 1) * 2 + 1 = (cutCells a).length + (j * 2 + 1) by rw [cutCells_len]; omega, List.set_append_right _ _ (by omega), Nat.add_sub_cancel_left, ih j (by simpa using h)]
      rfl
def CutsPost (r M : Nat) (w : World) (e : Ending) (w' : World) : Prop :=
  ∃ (v : Value) (n : Nat) (cs : List Cut), e = .returned v ∧ Hid (cs.length = n) ∧ Hid (w'.ownsRow w.heap.size 42 2 v n (cs.flatMap cutCells)) ∧ Hid (Cuts60 cs) ∧ n ≤ 6 ∧ Hid (w.grownBy w' (some r)) ∧ Rd w' r M
def cutNames : Array Value := #[.string ⟨#[97, 45, 48]⟩, .string ⟨#[97, 45, 49]⟩, .string ⟨#[97, 99, 99, 116, 45, 48]⟩, .string ⟨#[97, 99, 99, 116, 45, 49]⟩, .string ⟨#[99, 97, 114, 116, 45, 48]⟩, .string ⟨#[99, 97, 114, 116, 45, 49]⟩]
theorem three_froms {w w' : World} {r : Nat} {t : TypeId} (hg : (w.alloc (.cells #[.int .i64 0, .int .i64 24, .int .i64 25] t)).grownBy w' (some r)) (hr : r < w.heap.size) {z : Nat} (hz : z < 3) :
    ∃ v : Int, w'.cell? ⟨w.heap.size, z, none⟩ = some (.int .i64 v) := by
  have hB := blk_grew (Blk.new w t #[.int .i64 0, .int .i64 24, .int .i64 25]) hg (by omega)
  obtain rfl | rfl | rfl : z = 0 ∨ z = 1 ∨ z = 2 := by omega
  · exact ⟨0, hB.cell 0⟩
  · exact ⟨24, hB.cell 1⟩
  · exact ⟨25, hB.cell 2⟩
set_option maxRecDepth 100000 in
set_option maxHeartbeats 8000000 in
theorem l92Cuts_any (r N : Nat) (w : World) (h : Rd w r N) (hN : N ≤ 800000) :
    Calls Tryd.prog 45 #[.pointer (some ⟨r, 0, none⟩)] w (CutsPost r (N + 20) w) := by
  have hr := h.lt
  have P2 : Hid (Blk ((w.alloc (.cells #[] 42)).alloc (.cells cutNames 9)) (w.heap.size + 1) 9 cutNames ∧ ((w.alloc (.cells #[] 42)).alloc (.cells cutNames 9)).ownsRow w.heap.size 42 2 (.slice (some ⟨w.heap.size, 0, none⟩) 0 0) 0 [] ∧ w.grownBy ((w.alloc (.cells #[] 42)).alloc (.cells cutNames 9)) (some r) ∧ Rd ((w.alloc (.cells #[] 42)).alloc (.cells cutNames 9)) r N) := Lib.hid
    ⟨by have := Blk.new (w.alloc (.cells #[] 42)) 9 cutNames; simpa using this, (World.ownsRow_lit (base := w.heap.size) (e := 42) (size := 2) w #[] 0 (Nat.le_refl _) (Nat.zero_le _) rfl).alloc _, grow_alloc (grow_alloc (grow_refl w r) _) _, rd_alloc (rd_alloc h _) _⟩
  have Hnl : Hid (strsOk cutNames = true) := Lib.hid (by kernel_rfl)
  clear h
  go_enter Tryd.func45, Tryd.ntmps45
  go_wp2_with fail
  unfold cutNames at P2
  generalize (w.alloc (.cells #[] 42)).alloc (.cells #[.string ⟨#[97, 45, 48]⟩, .string ⟨#[97, 45, 49]⟩, .string ⟨#[97, 99, 99, 116, 45, 48]⟩, .string ⟨#[97, 99, 99, 116, 45, 49]⟩, .string ⟨#[99, 97, 114, 116, 45, 48]⟩, .string ⟨#[99, 97, 114, 116, 45, 49]⟩] 9) = w2 at *
  go_loopw [3, 5] (fun u i wr => ∃ (k : Nat) (v : Value) (cs : List Cut), k ≤ 6 ∧ i = .int .i64 k ∧ v = u ∧ Hid (cs.length ≤ k) ∧ Hid (Blk wr (w.heap.size + 1) 9 cutNames) ∧ Hid (wr.ownsRow w.heap.size 42 2 v cs.length (cs.flatMap cutCells)) ∧ Hid (v.ownBlock ≠ some (w.heap.size + 1)) ∧ Hid (Cuts60 cs) ∧ Hid (w.grownBy wr (some r)) ∧ Hid (Rd wr r (N + 2 * k))) (fun _ i _ => 6 - (intOf i).toNat)
  case atStart => exact ⟨0, _, [], by omega, rfl, rfl, Lib.hid (Nat.zero_le _), Lib.hid P2.out.1, Lib.hid P2.out.2.1, Lib.hid (fun e => by have := Option.some.inj e; simp only at this; omega), Lib.hid (fun c hc => by cases hc), Lib.hid P2.out.2.2.1, Lib.hid P2.out.2.2.2⟩
  case round =>
    obtain ⟨k, v, cs, hk, rfl, rfl, Hml, HN, HO, Hvb, HS, HG, HR⟩ := hrel
    have hlw := HG.out.size
    have hlN := HN.out.lt
    have hmle := Hml.out
    by_cases hlt : k < 6
    · have hlt' : (k : Int) < 6 := by omega
      go_wp2_with fail
      refine (pick_any r _ _ _ HR.out (by omega) (by omega)).mono ?_
      rintro e w3 ⟨y, rfl, hy, hg3, h3⟩
      have N3 := Lib.hid (blk_grew HN.out hg3 (by omega))
      have O3 := Lib.hid (own_rd HO.out hr hg3)
      have G3 := Lib.hid (grow_trans HG.out hg3)
      have H3 := Lib.hid h3
      have hz3 := G3.out.size
      clear hg3 h3
      by_cases y0 : y = 0
      · have e0 : ((y : Int) == 0) = true := by rw [y0]; rfl
        clear y0 hy
        obtain ⟨s, hs, hs60⟩ := strs_lit N3.out Hnl.out k (by show k < 6; omega)
        rw [Nat.zero_add] at hs
        go_wp2_with fail
        go_region_law (first
          | (go_simp; go_at_call 54; go_must (refine (pick_any r (N + 2 * k + 1) _ _ (rd_drewN H3.out 1) (by omega) (by omega)).mono ?_; rintro e w4 ⟨z, rfl, hz, hg4, h4⟩; have hz := hz (by omega); have O4 := Lib.hid (own_rd (show w3.drew.ownsRow w.heap.size 42 2 v cs.length (cs.flatMap cutCells) from O3.out) hr hg4); have G4 := Lib.hid (grow_trans (grow_drewN G3.out 1) hg4); have H4 := Lib.hid h4; have N4 := Lib.hid (blk_grew (show Blk w3.drew (w.heap.size + 1) 9 cutNames from N3.out) hg4 (by omega)); have s4 : w4.cell? ⟨w.heap.size + 1, k, none⟩ = some (.string s) := (hg4.cell (show w3.drew.cell? ⟨w.heap.size + 1, k, none⟩ = some (.string s) from hs) (fun e => by have := Option.some.inj e; simp only at this; omega)); have hz4 := G4.out.size; clear hg4 h4))
          | (go_must (refine app_one_step elemCut w4 ?_ (.tmp 17) (.tmp 26) ?_ w.heap.size v cs.length (cs.flatMap cutCells) ?_ O4.out [.string s, .int .i64 (IntKind.i64.wrap (1 + (z : Int)))] ?_ ?_ ?_ ?_ ?_ ?_; rfl; rfl; rfl; rfl; rfl; (intro u hu; simp at hu; rcases hu with rfl | rfl <;> rfl); omega; (exact hz4); intro v' w5 own5 grow5 or5)))
        all_goals
          have own6 : w5.ownsRow w.heap.size 42 2 v' (cs ++ [(⟨s, IntKind.i64.wrap (1 + (z : Int))⟩ : Cut)]).length ((cs ++ [(⟨s, IntKind.i64.wrap (1 + (z : Int))⟩ : Cut)]).flatMap cutCells) := by
            rw [List.flatMap_append, List.length_append]
            simpa [cutCells] using own5
          have G5 := own_grown O4.out (Nat.le_refl _) G4.out grow5
          have R5 := rd_own O4.out hr H4.out grow5
          have N5 := N4.out.grown grow5 (fun e => Hvb.out e.symm)
          have hvb5 : v'.ownBlock ≠ some (w.heap.size + 1) := by
            rcases or5 with e | e
            · rw [e]; exact Hvb.out
            · rw [e]; intro e'; have := Option.some.inj e'; have := N4.out.lt; omega
          have HS' : Hid (Cuts60 (cs ++ [(⟨s, IntKind.i64.wrap (1 + (z : Int))⟩ : Cut)])) := Lib.hid fun c hc => by
            rcases List.mem_append.1 hc with h1 | h1
            · exact HS.out c h1
            · rw [List.mem_singleton] at h1; rw [h1]; exact hs60
          have HF := Lib.hid (And.intro own6 (And.intro G5 (And.intro R5 (And.intro N5 hvb5))))
          clear own5 grow5 or5 own6 G5 R5 N5 hvb5 s4
          try clear hs
          go_wp2_with fail
          go_roundw
          case rel => exact ⟨k + 1, _, cs ++ [⟨s, IntKind.i64.wrap (1 + (z : Int))⟩], by omega, by go_num, rfl, Lib.hid (by rw [List.length_append]; simp; omega), Lib.hid HF.out.2.2.2.1, Lib.hid HF.out.1, Lib.hid HF.out.2.2.2.2, HS', Lib.hid HF.out.2.1, Lib.hid (HF.out.2.2.1.more (by omega))⟩
          case measure => simp [intOf]; omega
      · have e0 : ((y : Int) == 0) = false := beq_eq_false_iff_ne.2 (by omega)
        clear y0 hy
        go_wp2_with fail
        go_roundw
        case rel => exact ⟨k + 1, _, cs, by omega, by go_num, rfl, Lib.hid (by omega), N3, O3, Hvb, HS, G3, Lib.hid (H3.out.more (by omega))⟩
        case measure => simp [intOf]; omega
    · obtain rfl : k = 6 := by omega
      obtain ⟨Av, cv, rfl⟩ := own_slice_n HO.out
      clear HN Hvb
      by_cases hk0 : 0 < cs.length
      · have hk0' : (0 : Int) < (cs.length : Int) := by omega
        obtain ⟨g, cap, hv, hgb⟩ := own_head HO.out hk0
        obtain ⟨rfl, -, rfl⟩ : Av = some ⟨g, 0, none⟩ ∧ cs.length = cs.length ∧ cv = cap := by injection hv with a b c; exact ⟨a, rfl, c⟩
        clear hv
        go_wp2_with fail
        refine (pick_any r _ _ _ HR.out (by omega) (by omega)).mono ?_
        rintro e w3 ⟨y, rfl, hy, hg3, h3⟩
        have O3 := Lib.hid (own_rd HO.out hr hg3)
        have G3 := Lib.hid (grow_trans HG.out hg3)
        have H3 := Lib.hid h3
        clear hg3 h3
        by_cases y0 : y = 0
        · have e0 : ((y : Int) == 0) = true := by rw [y0]; rfl
          clear y0 hy
          go_wp2_with fail
          refine (pick_any r _ _ _ H3.out (by omega) (by omega)).mono ?_
          rintro e w4 ⟨j, rfl, hj, hg4, h4⟩
          have hj := hj (by omega)
          have O4 := Lib.hid (own_rd O3.out hr hg4)
          have G4 := Lib.hid (grow_trans G3.out hg4)
          have hr4 := h4.lt
          have H4 := Lib.hid (rd_alloc h4 (.cells #[.int .i64 0, .int .i64 24, .int .i64 25] 3))
          clear hg4 h4
          go_wp2_with fail
          refine (pick_any r _ _ _ H4.out (by omega) (by omega)).mono ?_
          rintro e w5 ⟨z, rfl, hz, hg5, h5⟩
          have hz := hz (by omega)
          obtain ⟨x, hx⟩ := three_froms hg5 hr4 (z := z) (by omega)
          have O5 := own_rd (O4.out.alloc (.cells #[.int .i64 0, .int .i64 24, .int .i64 25] 3)) hr hg5
          have G5 := Lib.hid (grow_trans (grow_alloc G4.out (.cells #[.int .i64 0, .int .i64 24, .int .i64 25] 3)) hg5)
          have H5 := Lib.hid h5
          have f1 := O5.frozenAt (j * 2 + 1)
          have hck : cs[j]? = some (nx cs j) := nx_get (by omega)
          have d1 : w5.cell? ⟨g, j * 2 + 1, none⟩ = some (.int .i64 (nx cs j).at_) := (O5.cellAt (j * 2 + 1) (by omega)).trans (flat_get cutCells_len cs j 1 _ hck (by omega))
          have HO5 := Lib.hid O5
          clear hg5 h5 O5 hck
          go_wp2_with fail
          go_ret
          obtain ⟨s1, g1⟩ := HO5.out.stored (j * 2 + 1) (.int .i64 x)
          rw [set_flat_cut cs j x (by omega)] at s1
          refine ⟨_, cs.length, _, rfl, Lib.hid (by rw [List.length_set]), Lib.hid s1, Lib.hid ?_, by omega, Lib.hid (own_grown HO5.out (Nat.le_refl _) G5.out g1), (rd_own HO5.out hr H5.out g1).more (by omega)⟩
          intro c hc
          rcases List.mem_or_eq_of_mem_set hc with h1 | h1
          · exact HS.out c h1
          · rw [h1]; show (nx cs j).name.size ≤ 60; exact HS.out _ (nx_mem (by omega))
        · have e0 : ((y : Int) == 0) = false := beq_eq_false_iff_ne.2 (by omega)
          clear y0 hy
          go_wp2_with fail
          go_ret
          exact ⟨_, cs.length, cs, rfl, Lib.hid rfl, O3, HS, by omega, G3, H3.out.more (by omega)⟩
      · have hk0' : ¬ (0 : Int) < (cs.length : Int) := by omega
        have hd : decide ((0 : Int) < (cs.length : Int)) = false := decide_eq_false hk0'
        go_wp2_with fail
        go_ret
        exact ⟨_, cs.length, cs, rfl, Lib.hid rfl, HO, HS, by omega, HG, HR.out.more (by omega)⟩

end Go.Proofs.YtbcfbkcadceniaaDoor
