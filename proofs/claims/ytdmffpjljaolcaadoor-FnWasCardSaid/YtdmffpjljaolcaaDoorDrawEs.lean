/- Drawn lists of events. -/
import Derived.Test.YtdmffpjljaolcaaDoorDrawIn
import Derived.Test.YtdmffpjljaolcaaDoorEv
namespace Go.Proofs.YtdmffpjljaolcaaDoor
set_option linter.unusedVariables false
set_option linter.unusedSimpArgs false
open Go.RowKit

/-- drawn events, in memory of the call's own. -/
def EvsPost (r M : Nat) (w : World) (e : Ending) (w' : World) : Prop :=
  ∃ (v : Value) (n : Nat) (es : List Ev), e = .returned v ∧ es.length = n ∧ w'.ownsRow w.heap.size 29 3 v n (es.flatMap evCells) ∧ Hid (∀ e ∈ es, EvB e) ∧ n ≤ 10 ∧ w.grownBy w' (some r) ∧ Rd w' r M
theorem evB_snoc {es : List Ev} {e : Ev} (h : ∀ e ∈ es, EvB e) (he : EvB e) : ∀ x ∈ es ++ [e], EvB x := fun x hx => by
  rcases List.mem_append.1 hx with h1 | h1
  · exact h x h1
  · rw [List.mem_singleton] at h1; rw [h1]; exact he

set_option maxRecDepth 100000 in
set_option maxHeartbeats 8000000 in
theorem l91Events_any (r N mo : Nat) (w : World) (h : Rd w r N) (hN : N ≤ 700000) (hmo : mo ≤ 9) :
    Calls Tryd.prog 84 #[.pointer (some ⟨r, 0, none⟩), .int .i64 mo] w (EvsPost r (N + 200) w) := by
  have hr := h.lt
  go_enter Tryd.func84, Tryd.ntmps84
  go_wp2_with fail
  refine (pick_any r N _ _ (rd_alloc h _) (by omega) (by omega)).mono ?_
  rintro e w1 ⟨nn, rfl, hx, hg1, h1⟩
  have hnn : nn ≤ 10 := by have := hx (by omega); omega
  have O1 := Lib.hid (own_rd (World.ownsRow_lit (base := w.heap.size) (e := 29) (size := 3) w #[] 0 (Nat.le_refl _) (Nat.zero_le _) rfl) hr hg1)
  have G1 := Lib.hid (grow_trans (grow_alloc (grow_refl w r) _) hg1)
  have H1 := Lib.hid h1
  clear h hg1 h1 hx
  go_wp2_with fail
  go_loopw [5, 7] (fun v i wr => ∃ (k : Nat) (es : List Ev), k ≤ nn ∧ i = .int .i64 k ∧ Hid (es.length = k) ∧ wr.ownsRow w.heap.size 29 3 v k (es.flatMap evCells) ∧ Hid (∀ e ∈ es, EvB e) ∧ w.grownBy wr (some r) ∧ Rd wr r (N + 1 + 8 * k)) (fun _ i _ => nn - (intOf i).toNat)
  case atStart => exact ⟨0, [], Nat.zero_le _, rfl, Lib.hid rfl, O1.out, Lib.hid (fun x hx => by cases hx), G1.out, H1.out⟩
  case round =>
    obtain ⟨k, es, hk, rfl, Hl, hown, HB, hG, hrd⟩ := hrel
    have hsz := Lib.hid hG.size
    have Hown := Lib.hid hown
    have HG := Lib.hid hG
    have Hrd := Lib.hid hrd
    clear hown hG hrd
    by_cases hlt : k < nn
    · have hlt' : (k : Int) < (nn : Int) := by omega
      go_wp2_with fail
      refine (l91Event_any r _ _ Hrd.out (by omega)).mono ?_
      rintro e w2 ⟨id, kind, data, rfl, hE, hg2, h2⟩
      have HE := Lib.hid hE
      have O2 := Lib.hid (own_rd Hown.out hr hg2)
      have G2 := Lib.hid (grow_trans HG.out hg2)
      have hr2 := h2.lt
      have B2 := Lib.hid (Blk.new w2 29 #[.int .i64 id, .string kind, .int .i64 data])
      have H2 := Lib.hid (rd_alloc h2 (.cells #[.int .i64 id, .string kind, .int .i64 data] 29))
      have O2a := Lib.hid (O2.out.alloc (.cells #[.int .i64 id, .string kind, .int .i64 data] 29))
      have G2a := Lib.hid (grow_alloc G2.out (.cells #[.int .i64 id, .string kind, .int .i64 data] 29))
      have Hob := Lib.hid (fun b hb => (O2.out.lt b hb).2)
      have hz2 : w.heap.size ≤ w2.heap.size := G2.out.size
      clear hg2 h2 hE
      go_wp2_with fail
      refine (pick_any r _ _ _ H2.out (by omega) (by omega)).mono ?_
      rintro e w3 ⟨x, rfl, hx, hg3, h3⟩
      have O3 := Lib.hid (own_rd O2a.out hr hg3)
      have G3 := Lib.hid (grow_trans G2a.out hg3)
      have H3 := Lib.hid h3
      have B3 := Lib.hid (blk_grew B2.out hg3 (show w2.heap.size ≠ r by omega))
      have b0 := B3.out.cell 0
      have b1 := B3.out.cell 1
      have b2 := B3.out.cell 2
      have hz3 := G3.out.size
      clear hg3 h3 hx
      by_cases hx0 : (0 : Int) < (x : Int)
      · cases hv : evOk ⟨id, kind, data⟩ with
        | true =>
          have EV := Lib.hid (evValidS_any id kind data w3 (small60 HE.out.1))
          rw [hv] at EV
          go_wp2_with fail
          refine EV.out.mono ?_
          rintro e w4 ⟨rfl, hb4⟩
          have O4 := Lib.hid (own_next O3.out hb4)
          have G4 := Lib.hid (grow_below G3.out hb4)
          have H4 := Lib.hid (H3.out.below hb4)
          have B4 := Lib.hid (B3.out.next hb4)
          clear hb4 b0 b1 b2
          go_wp2_with fail
          refine (pick_any r _ _ _ H4.out (by omega) (by omega)).mono ?_
          rintro e w5 ⟨y, rfl, hy, hg5, h5⟩
          have hy := hy (by omega)
          have O5 := Lib.hid (own_rd O4.out hr hg5)
          have G5 := Lib.hid (grow_trans G4.out hg5)
          have H5 := Lib.hid h5
          have B5 := Lib.hid (blk_grew B4.out hg5 (show w2.heap.size ≠ r by omega))
          have f0 := B5.out.frozen 0
          have b0 := B5.out.cell 0
          have b1 := B5.out.cell 1
          have b2 := B5.out.cell 2
          have hz5 := G5.out.size
          clear hg5 h5
          have O6 := Lib.hid (own_far O5.out ⟨w2.heap.size, 0, none⟩ (.int .i64 (10 * ((k : Int) + 1) + (y : Int))) (fun e => Nat.lt_irrefl _ (Hob.out _ e)))
          have G6 := Lib.hid (grow_set G5.out (p := ⟨w2.heap.size, 0, none⟩) hz2 (.int .i64 (10 * ((k : Int) + 1) + (y : Int))))
          have H6 := Lib.hid (rd_set H5.out (p := ⟨w2.heap.size, 0, none⟩) hr2 (.int .i64 (10 * ((k : Int) + 1) + (y : Int))))
          have hz6 : w.heap.size ≤ (w5.setCell ⟨w2.heap.size, 0, none⟩ (.int .i64 (10 * ((k : Int) + 1) + (y : Int)))).heap.size := G6.out.size
          go_wp2_with (first
            | (at_builtin; go_must (refine app_at elemEv (w5.setCell ⟨w2.heap.size, 0, none⟩ (.int .i64 (10 * ((k : Int) + 1) + (y : Int)))) rfl _ _ rfl w.heap.size _ k (es.flatMap evCells) rfl (by exact O6.out) [.int .i64 (10 * ((k : Int) + 1) + (y : Int)), .string kind, .int .i64 data] w5.heap.size rfl ?_ rfl ?_ ?_ ?_ ?_); (simp); (intro x hx; simp at hx; rcases hx with rfl | rfl | rfl <;> rfl); omega; (exact hz6); intro v' wa hown' hgrow hor))
          have hG' := own_grown O6.out (Nat.le_refl _) G6.out hgrow
          have h9' := rd_own O6.out hr H6.out hgrow
          have HB' := Lib.hid (evB_snoc (e := ⟨10 * ((k : Int) + 1) + (y : Int), kind, data⟩) HB.out ⟨HE.out.1, by show (-100000 : Int) ≤ 10 * ((k : Int) + 1) + (y : Int); omega, by show 10 * ((k : Int) + 1) + (y : Int) ≤ 100000; omega, HE.out.2.2.2⟩)
          have hown2 : wa.ownsRow w.heap.size 29 3 v' (k + 1) ((es ++ [(⟨10 * ((k : Int) + 1) + (y : Int), kind, data⟩ : Ev)]).flatMap evCells) := by
            rw [List.flatMap_append]
            simpa [evCells] using hown'
          clear hown' hgrow hor
          go_roundw
          case rel => exact ⟨k + 1, _, by omega, by go_num, Lib.hid (by rw [List.length_append, Hl.out]; rfl), hown2, HB', hG', h9'.more (by omega)⟩
          case measure => simp [intOf]; omega
        | false =>
          have EV := Lib.hid (evValidS_any id kind data w3 (small60 HE.out.1))
          rw [hv] at EV
          go_wp2_with fail
          refine EV.out.mono ?_
          rintro e w4 ⟨rfl, hb4⟩
          have O4 := Lib.hid (own_next O3.out hb4)
          have G4 := Lib.hid (grow_below G3.out hb4)
          have H4 := Lib.hid (H3.out.below hb4)
          have B4 := Lib.hid (B3.out.next hb4)
          clear hb4 b0 b1 b2
          have b0 := B4.out.cell 0
          have b1 := B4.out.cell 1
          have b2 := B4.out.cell 2
          have hz4 := G4.out.size
          go_wp2_with (first
            | (at_builtin; go_must (refine app_one elemEv w4 rfl _ _ rfl w.heap.size _ k (es.flatMap evCells) rfl (by exact O4.out) [.int .i64 id, .string kind, .int .i64 data] rfl rfl ?_ ?_ ?_ ?_); (intro x hx; simp at hx; rcases hx with rfl | rfl | rfl <;> rfl); omega; (exact hz4); intro v' wa hown' hgrow hor))
          have hG' := own_grown O4.out (Nat.le_refl _) G4.out hgrow
          have h9' := rd_own O4.out hr H4.out hgrow
          have HB' := Lib.hid (evB_snoc (e := ⟨id, kind, data⟩) HB.out HE.out)
          have hown2 : wa.ownsRow w.heap.size 29 3 v' (k + 1) ((es ++ [(⟨id, kind, data⟩ : Ev)]).flatMap evCells) := by
            rw [List.flatMap_append]
            simpa [evCells] using hown'
          clear hown' hgrow hor
          go_roundw
          case rel => exact ⟨k + 1, _, by omega, by go_num, Lib.hid (by rw [List.length_append, Hl.out]; rfl), hown2, HB', hG', h9'.more (by omega)⟩
          case measure => simp [intOf]; omega
      · have hx1 : decide ((0 : Int) < (x : Int)) = false := decide_eq_false hx0
        go_wp2_with (first
          | (at_builtin; go_must (refine app_one elemEv w3 rfl _ _ rfl w.heap.size _ k (es.flatMap evCells) rfl (by exact O3.out) [.int .i64 id, .string kind, .int .i64 data] rfl rfl ?_ ?_ ?_ ?_); (intro x hx; simp at hx; rcases hx with rfl | rfl | rfl <;> rfl); omega; (exact hz3); intro v' wa hown' hgrow hor))
        have hG' := own_grown O3.out (Nat.le_refl _) G3.out hgrow
        have h9' := rd_own O3.out hr H3.out hgrow
        have HB' := Lib.hid (evB_snoc (e := ⟨id, kind, data⟩) HB.out HE.out)
        have hown2 : wa.ownsRow w.heap.size 29 3 v' (k + 1) ((es ++ [(⟨id, kind, data⟩ : Ev)]).flatMap evCells) := by
          rw [List.flatMap_append]
          simpa [evCells] using hown'
        clear hown' hgrow hor
        go_roundw
        case rel => exact ⟨k + 1, _, by omega, by go_num, Lib.hid (by rw [List.length_append, Hl.out]; rfl), hown2, HB', hG', h9'.more (by omega)⟩
        case measure => simp [intOf]; omega
    · obtain rfl : k = nn := by omega
      have hlt' : ¬ (k : Int) < (k : Int) := by omega
      go_wp2_with fail
      go_ret
      exact ⟨_, k, es, rfl, Hl.out, Hown.out, HB, hnn, HG.out, Hrd.out.more (by omega)⟩
end Go.Proofs.YtdmffpjljaolcaaDoor
