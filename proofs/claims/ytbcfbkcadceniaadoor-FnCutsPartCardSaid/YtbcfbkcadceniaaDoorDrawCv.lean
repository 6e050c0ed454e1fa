/- Drawn cuts, handed to the statements. -/
import Derived.Test.YtbcfbkcadceniaaDoorDrawCu
namespace Go.Proofs.YtbcfbkcadceniaaDoor
set_option linter.unusedVariables false
set_option linter.unusedSimpArgs false
open Go.RowKit

theorem cutsOk_pw {l : List Cut} : cutsOk l = true ↔ l.length ≤ 12 ∧ (∀ c ∈ l, cutOne c = true) ∧ l.Pairwise (fun a b => ltB a.name b.name = true) := by
  constructor
  · intro h
    obtain ⟨h1, h2⟩ := cutsOk_iff.1 h
    refine ⟨h1, fun c hc => ?_, ?_⟩
    · obtain ⟨i, hi, rfl⟩ := List.mem_iff_getElem.1 hc
      have := h2 i hi
      unfold cutAt at this
      rw [Bool.and_eq_true] at this
      rw [← nx_eq hi]
      exact this.1
    · rw [List.pairwise_iff_getElem]
      intro i j hi hj hij
      rw [← nx_eq hi, ← nx_eq hj]
      exact cuts_lt h hij hj
  · rintro ⟨h1, h2, h3⟩
    refine cutsOk_iff.2 ⟨h1, fun k hk => ?_⟩
    have hc := h2 _ (nx_mem hk)
    cases k with
    | zero => exact cutAt_0 hc
    | succ m =>
      rw [cutAt_s hc, nx_eq hk, nx_eq (by omega)]
      exact List.pairwise_iff_getElem.1 h3 m (m + 1) (by omega) hk (by omega)
theorem cutsPart_yes {l : List Cut} (j : Nat) (h : cutsOk l = true) : cutsOk (l.take j ++ l.drop (j + 1)) = true := by
  obtain ⟨h1, h2, h3⟩ := cutsOk_pw.1 h
  have hs : (l.take j ++ l.drop (j + 1)).Sublist l := by
    have e : l.take j ++ l.drop j = l := List.take_append_drop j l
    have h4 : (l.drop (j + 1)).Sublist (l.drop j) := by
      rw [show l.drop (j + 1) = (l.drop j).drop 1 by rw [List.drop_drop]]
      exact List.drop_sublist _ _
    have := (List.Sublist.refl (l.take j)).append h4
    rwa [e] at this
  exact cutsOk_pw.2 ⟨Nat.le_trans hs.length_le h1, fun x hx => h2 x (hs.mem hx), h3.sublist hs⟩
theorem cutsPart_no {l : List Cut} (j : Nat) (h : j < l.length) : cutsOk (l.take (j + 1) ++ l.drop j) = false := by
  cases e : cutsOk (l.take (j + 1) ++ l.drop j) with
  | false => rfl
  | true =>
    have h3 := (cutsOk_pw.1 e).2.2
    rw [List.pairwise_append] at h3
    have := h3.2.2 (nx l j) (by rw [take_nx h]; exact List.mem_append_right _ (List.mem_singleton.2 rfl)) (nx l j) (by rw [List.drop_eq_getElem_cons h, nx_eq h]; exact List.mem_cons_self ..)
    rw [ltB_irrefl] at this
    cases this
theorem set_flat_cutName (l : List Cut) (j : Nat) (s : ByteArray) (h : j < l.length) :
    (l.flatMap cutCells).set (j * 2) (.string s) = (l.set j ⟨s, (nx l j).at_⟩).flatMap cutCells := by
  induction l generalizing j with
  | nil => exact absurd h (by simp)
  | cons a l ih =>
    cases j with
    | zero => rfl
    | succ j =>
      rw [List.set_cons_succ, List.flatMap_cons, List.flatMap_cons, show (j + 1) * 2 = (cutCells a).length + j * 2 by rw [cutCells_len]; omega, List.set_append_right _ _ (by omega), Nat.add_sub_cancel_left, ih j (by simpa using h)]
      rfl
def CutsOnly (w : World) (e : Ending) (w' : World) : Prop :=
  ∃ (A : Option Addr) (n c : Nat) (cs : List Cut), e = .returned (.slice A n c) ∧ Row cutCells 2 w' w'.heap.size A n cs ∧ Hid (SmallCuts cs) ∧ n ≤ 6 ∧ n ≤ c ∧ Hid (A = none → c = 0) ∧ Below w.heap.size w w'
theorem cuts_only {w w' : World} {v : Value} {base n : Nat} {cs : List Cut} (hl : cs.length = n) (h : w'.ownsRow base 42 2 v n (cs.flatMap cutCells)) (hb : Cuts60 cs) (hn : n ≤ 6) (hbb : Below w.heap.size w w') : CutsOnly w (.returned v) w' := by
  obtain ⟨A, c, rfl, h1, h2, h3, _⟩ := Row.of_own h hl
  exact ⟨A, n, c, cs, rfl, h3, Lib.hid hb.small, hn, h1, Lib.hid h2, hbb⟩
set_option maxRecDepth 100000 in
set_option maxHeartbeats 4000000 in
theorem drawCutsValid_any (A : Option Addr) (n c : Nat) (w : World) (h : Code w A n c) :
    Calls Tryd.prog 23 #[.slice A n c] w (CutsOnly w) := by
  go_enter Tryd.func23, Tryd.ntmps23
  go_wp2_with fail
  refine (open_any A n c _ h).mono ?_
  rintro e w1 ⟨r, rfl, hr, hb1, h1⟩
  clear h
  have hr1 := h1.lt
  go_wp2_with fail
  refine (l92Cuts_any r 0 _ h1 (by omega)).mono ?_
  rintro e w2 ⟨v, k, cs, rfl, Hl, HO, HS, hk, hg2, h2⟩
  have hb2 := drawn_below hr hb1 hg2.out
  have hb1' := hb1
  clear hg2 hb1 h1
  by_cases hk0 : 0 < k
  · obtain ⟨g, cap, rfl, hgb⟩ := own_head HO.out hk0
    have hk0' : (0 : Int) < (k : Int) := by omega
    go_wp2_with fail
    refine (pick_any r _ _ _ h2 (by omega) (by omega)).mono ?_
    rintro e w3 ⟨x, rfl, hx, hg3, h3⟩
    have hb3 := drawn_below hr hb2 hg3
    have O3 := Lib.hid (own_rd HO.out hr1 hg3)
    clear hg3 h2 hb2
    by_cases hx0 : x = 0
    · have e0 : ((x : Int) == 0) = true := by rw [hx0]; rfl
      clear hx0 hx
      go_wp2_with fail
      refine (pick_any r _ _ _ h3 (by omega) (by omega)).mono ?_
      rintro e w4 ⟨y, rfl, hy, hg4, h4⟩
      have hy := hy (by omega)
      have hb4 := drawn_below hr hb3 hg4
      have O4 := Lib.hid (own_rd O3.out hr1 hg4)
      clear hg4 h3 hb3
      go_wp2_with fail
      refine (l91Name_any r _ _ h4 (by omega)).mono ?_
      rintro e w5 ⟨s, rfl, hs, hg5, h5⟩
      have hb5 := drawn_below hr hb4 hg5
      have O5 := own_rd O4.out hr1 hg5
      have Hb5 := Lib.hid hb5
      clear hg5 h4 h5 hb4 hb5
      have hxk : cs[y]? = some (nx cs y) := nx_get (by rw [Hl.out]; omega)
      have d0 : w5.cell? ⟨g, y * 2, none⟩ = some (.string (nx cs y).name) := (O5.cellAt (y * 2 + 0) (by omega)).trans (flat_get cutCells_len cs y 0 _ hxk (by omega))
      have f0 := O5.frozenAt (y * 2)
      have HO5 := Lib.hid O5
      clear O5 hxk
      go_wp2_with fail
      go_ret
      obtain ⟨s1, g1⟩ := HO5.out.stored (y * 2) (.string s)
      rw [set_flat_cutName cs y s (by rw [Hl.out]; omega)] at s1
      refine cuts_only (by rw [List.length_set, Hl.out]) s1 ?_ hk ?_
      · intro c hc
        rcases List.mem_or_eq_of_mem_set hc with h1 | h1
        · exact HS.out c h1
        · rw [h1]; exact hs
      · exact Hb5.out.setCell (by show w.heap.size ≤ g; have := hb1'.size; omega) _
    · have e0 : ((x : Int) == 0) = false := beq_eq_false_iff_ne.2 (by omega)
      clear hx0 hx
      go_wp2_with fail
      go_ret
      exact cuts_only Hl.out O3.out HS.out hk hb3
  · have hk0' : ¬ (0 : Int) < (k : Int) := by omega
    have hd : decide ((0 : Int) < (k : Int)) = false := decide_eq_false hk0'
    obtain ⟨Av, cv, rfl⟩ := own_slice_n HO.out
    go_wp2_with fail
    go_ret
    exact cuts_only Hl.out HO.out HS.out hk hb2
end Go.Proofs.YtbcfbkcadceniaaDoor
