/- Drawn stores. -/
import Derived.Test.YtnfncnpnkmjjeaaDoorDrawEv
import Derived.Deep.DeepMust
namespace Go.Proofs.YtnfncnpnkmjjeaaDoor
set_option linter.unusedVariables false
set_option linter.unusedSimpArgs false
open Go.RowKit

theorem set_flat (l : List En) (j : Nat) (x : En) (h : j < l.length) :
    ((((l.flatMap enCells).set (j * 4) (.string x.name)).set (j * 4 + 1) (.int .i64 x.ev.id)).set (j * 4 + 2) (.string x.ev.kind)).set (j * 4 + 3) (.int .i64 x.ev.data) = (l.set j x).flatMap enCells := by
  induction l generalizing j with
  | nil => exact absurd h (by simp)
  | cons a l ih =>
    cases j with
    | zero => rfl
    | succ j =>
      have e1 : ∀ (k : Nat) (u : Value) (m : List Value), (enCells a ++ m).set ((j + 1) * 4 + k) u = enCells a ++ m.set (j * 4 + k) u := fun k u m => by
        rw [List.set_append_right _ _ (by rw [enCells_len]; omega), enCells_len, show (j + 1) * 4 + k - 4 = j * 4 + k by omega]
      rw [List.flatMap_cons, List.set_cons_succ, List.flatMap_cons, ← ih j (by simpa using h)]
      have e0 := e1 0 (.string x.name) (l.flatMap enCells)
      rw [Nat.add_zero, Nat.add_zero] at e0
      rw [e0, e1, e1, e1]
      rfl
theorem set_flat_name (l : List En) (j : Nat) (s : ByteArray) (h : j < l.length) :
    (l.flatMap enCells).set (j * 4) (.string s) = (l.set j ⟨s, (nx l j).ev⟩).flatMap enCells := by
  induction l generalizing j with
  | nil => exact absurd h (by simp)
  | cons a l ih =>
    cases j with
    | zero => rfl
    | succ j =>
      have e1 : (enCells a ++ l.flatMap enCells).set ((j + 1) * 4) (.string s) = enCells a ++ (l.flatMap enCells).set (j * 4) (.string s) := by
        rw [List.set_append_right _ _ (by rw [enCells_len]; omega), enCells_len, show (j + 1) * 4 - 4 = j * 4 by omega]
      have e2 : nx (a :: l) (j + 1) = nx l j := by unfold nx; simp
      rw [List.flatMap_cons, List.set_cons_succ, List.flatMap_cons, e1, e2, ih j (by simpa using h)]

/-- a drawn store: a row of the call's own. -/
def EnsPost (r M : Nat) (w : World) (e : Ending) (w' : World) : Prop :=
  ∃ (v : Value) (n : Nat) (xs : List En), e = .returned v ∧ xs.length = n ∧ w'.ownsRow w.heap.size 44 4 v n (xs.flatMap enCells) ∧ Hid (∀ x ∈ xs, EnB x) ∧ n ≤ 30 ∧ w.grownBy w' (some r) ∧ Rd w' r M

theorem enB_set {xs : List En} (h : ∀ x ∈ xs, EnB x) {j : Nat} {x : En} (hx : EnB x) : ∀ y ∈ xs.set j x, EnB y := fun y hy => by
  rcases List.mem_or_eq_of_mem_set hy with h1 | h1
  · exact h y h1
  · rw [h1]; exact hx
theorem own_grown {a w w' : World} {r base size n : Nat} {e : TypeId} {v : Value} {xs : List Value} (h : w.ownsRow base e size v n xs) (hb : a.heap.size ≤ base) (hg : a.grownBy w (some r)) (hg2 : w.grownBy w' v.ownBlock) : a.grownBy w' (some r) :=
  ⟨hg2.os.trans hg.os, hg2.tape.trans hg.tape, hg2.output.trans hg.output, Nat.le_trans hg.size hg2.size, fun i hi hne => (hg2.block i (Nat.lt_of_lt_of_le hi hg.size) (fun e => by have := (h.lt i e.symm).1; omega)).trans (hg.block i hi hne)⟩
theorem rd_own {w w' : World} {r N base size n : Nat} {e : TypeId} {v : Value} {xs : List Value} (h : w.ownsRow base e size v n xs) (hr : r < base) (hrd : Rd w r N) (hg2 : w.grownBy w' v.ownBlock) : Rd w' r N :=
  hrd.keep fun k hk => hg2.block k (by have := hrd.lt; omega) (fun e => by have := (h.lt k e.symm).1; omega)
theorem own_rd {w w' : World} {r base size n : Nat} {e : TypeId} {v : Value} {xs : List Value} (h : w.ownsRow base e size v n xs) (hr : r < base) (hg : w.grownBy w' (some r)) : w'.ownsRow base e size v n xs := by
  refine h.kept hg ?_
  cases hb : v.ownBlock with
  | none => exact .inl rfl
  | some k => exact .inr (fun e => by have := (h.lt k hb).1; injection e; omega)

theorem own_head {w : World} {base size n : Nat} {e : TypeId} {v : Value} {xs : List Value} (h : w.ownsRow base e size v n xs) (hn : 0 < n) : ∃ g cap, v = .slice (some ⟨g, 0, none⟩) n cap ∧ base ≤ g := by
  rcases h.2 with ⟨_, h0⟩ | ⟨g, cap, cur, rfl, hb, _⟩
  · omega
  · exact ⟨g, cap, rfl, hb⟩
set_option maxRecDepth 100000 in
set_option maxHeartbeats 8000000 in
theorem l91Store_any (r N : Nat) (w : World) (h : Rd w r N) (hN : N ≤ 800000) :
    Calls Tryd.prog 33 #[.pointer (some ⟨r, 0, none⟩)] w (EnsPost r (N + 200) w) := by
  have hr := h.lt
  go_enter Tryd.func33, Tryd.ntmps33
  go_wp2_with fail
  refine (pick_any r N _ _ (rd_alloc h _) (by omega) (by omega)).mono ?_
  rintro e w1 ⟨x, rfl, hx, hg1, h1⟩
  have hx := hx (by omega)
  have O1 := own_rd (World.ownsRow_lit (base := w.heap.size) (e := 44) (size := 4) w #[] 0 (Nat.le_refl _) (Nat.zero_le _) rfl) hr hg1
  have hG1 := grow_trans (grow_alloc (grow_refl w r) _) hg1
  clear h hg1
  go_wp2_with fail
  refine (pick_any r _ _ _ h1 (by omega) (by omega)).mono ?_
  rintro e w2 ⟨z, rfl, hz, hg2, h2⟩
  have hz := hz (by omega)
  have O2 := own_rd O1 hr hg2
  have hG2 := grow_trans hG1 hg2
  clear h1 hg2 O1 hG1
  by_cases z0 : z = 0
  · have e0 : ((z : Int) == 0) = true := by rw [z0]; rfl
    clear z0
    go_wp2_with fail
    refine (pick_any r _ _ _ h2 (by omega) (by omega)).mono ?_
    rintro e w3 ⟨q, rfl, hq, hg3, h3⟩
    have hq := hq (by omega)
    have O3 := Lib.hid (own_rd O2 hr hg3)
    have hG3 := Lib.hid (grow_trans hG2 hg3)
    have h3 := Lib.hid h3
    clear h2 hg3 O2 hG2 e0 hz
    go_wp2_with fail
    have hc : (22 + (q : Int)) = ((22 + q : Nat) : Int) := by omega
    have hnn : 22 + q ≤ 25 := by omega
    rw [hc]
    clear hc hq hx
    generalize 22 + q = nn at *
    go_loopw [3, 5] (fun v i wr => ∃ (k : Nat) (xs : List En), k ≤ nn ∧ i = .int .i64 k ∧ Hid (xs.length = k) ∧ wr.ownsRow w.heap.size 44 4 v k (xs.flatMap enCells) ∧ Hid (∀ x ∈ xs, EnB x) ∧ w.grownBy wr (some r) ∧ Rd wr r (N + 3 + 5 * k)) (fun _ i _ => nn - (intOf i).toNat)
    case atStart => exact ⟨0, [], Nat.zero_le _, rfl, Lib.hid rfl, O3.out, Lib.hid (fun x hx => by cases hx), hG3.out, h3.out⟩
    case round =>
      obtain ⟨k, xs, hk, rfl, Hl, hown, HB, hG, hrd⟩ := hrel
      have hsz := Lib.hid hG.size
      have Hown := Lib.hid hown
      have HG := Lib.hid hG
      have Hrd := Lib.hid hrd
      clear hown hG hrd
      by_cases hlt : k < nn
      · have hlt' : (k : Int) < (nn : Int) := by omega
        go_wp2_with fail
        refine (of_lit r _ 3 _ _ _ Hrd.out (by omega) rfl (by omega) (by omega) (by kernel_rfl)).mono ?_
        rintro e w4 ⟨s, rfl, hs, hg4, h4⟩
        have P4 := Lib.hid (And.intro (own_rd Hown.out hr hg4) (grow_trans HG.out hg4))
        clear hg4
        go_wp2_with fail
        refine (pick_any r _ _ _ h4 (by omega) (by omega)).mono ?_
        rintro e w5 ⟨y, rfl, hy, hg5, h5⟩
        have hy := hy (by omega)
        have P5 := Lib.hid (And.intro (own_rd P4.out.1 hr hg5) (grow_trans P4.out.2 hg5))
        clear hg5 h4
        go_wp2_with fail
        refine (nameOfS_at s _ _ _ rfl (by unfold maxLen; omega)).mono ?_
        rintro e w6 ⟨u, rfl, hu, hb6⟩
        have hus : u.size ≤ 60 := by have := nameOfS_len s.data.toList y; rw [← hu, str_len] at this; exact this
        have hg6 : w5.grownBy w6 (some r) := grow_below (grow_refl _ _) hb6
        have h6 := h5.below hb6
        have P6 := Lib.hid (And.intro (own_rd P5.out.1 hr hg6) (grow_trans P5.out.2 hg6))
        clear hb6 hg6 h5 hu
        go_wp2_with fail
        refine (pick_any r _ _ _ h6 (by omega) (by omega)).mono ?_
        rintro e w7 ⟨a, rfl, ha, hg7, h7⟩
        have ha := ha (by omega)
        have P7 := Lib.hid (And.intro (own_rd P6.out.1 hr hg7) (grow_trans P6.out.2 hg7))
        clear hg7 h6
        go_wp2_with fail
        refine (of_lit r _ 3 _ _ _ h7 (by omega) rfl (by omega) (by omega) (by kernel_rfl)).mono ?_
        rintro e w8 ⟨t, rfl, ht, hg8, h8⟩
        have P8 := Lib.hid (And.intro (own_rd P7.out.1 hr hg8) (grow_trans P7.out.2 hg8))
        clear hg8 h7
        go_wp2_with fail
        refine (pick_any r _ _ _ h8 (by omega) (by omega)).mono ?_
        rintro e w9 ⟨c, rfl, hc, hg9, h9⟩
        have hc := hc (by omega)
        have P9 := Lib.hid (And.intro (own_rd P8.out.1 hr hg9) (grow_trans P8.out.2 hg9))
        have hz9 := P9.out.2.size
        have hr9 := h9.lt
        have H9 := Lib.hid h9
        clear hg9 h8 h9 P4 P5 P6 P7 P8
        have Ob := Lib.hid (P9.out.1.alloc (.cells #[.string u, .int .i64 ((k : Int) + 1 + (a : Int) * 100), .string t, .int .i64 c] 44))
        go_wp2_with (first
          | (at_builtin; go_must (refine app_at elemEn (w9.alloc (.cells #[.string u, .int .i64 ((k : Int) + 1 + (a : Int) * 100), .string t, .int .i64 c] 44)) rfl _ _ rfl w.heap.size _ k (xs.flatMap enCells) rfl (by exact Ob.out) [.string u, .int .i64 ((k : Int) + 1 + (a : Int) * 100), .string t, .int .i64 c] (w9.heap.size + 1) rfl ?_ rfl ?_ ?_ ?_ ?_); (simp); (intro x hx; simp at hx; rcases hx with rfl | rfl | rfl | rfl <;> rfl); omega; (show _ ≤ (w9.alloc _).heap.size; simp; omega); intro v' wa hown' hgrow hor))
        have hG' := own_grown Ob.out (Nat.le_refl _) (grow_alloc P9.out.2 _) hgrow
        have h9' := rd_own Ob.out hr (rd_alloc H9.out _) hgrow
        have HB' : Hid (∀ x ∈ xs ++ [(⟨u, ⟨(k : Int) + 1 + (a : Int) * 100, t, (c : Int)⟩⟩ : En)], EnB x) := Lib.hid fun x hx => by
          rcases List.mem_append.1 hx with h1 | h1
          · exact HB.out x h1
          · rw [List.mem_singleton] at h1
            subst h1
            exact ⟨hus, ht, by show (-100000 : Int) ≤ (k : Int) + 1 + (a : Int) * 100; omega, by show (k : Int) + 1 + (a : Int) * 100 ≤ 100000; omega, by show (-100000 : Int) ≤ (c : Int); omega, by show (c : Int) ≤ 100000; omega⟩
        have hown2 : wa.ownsRow w.heap.size 44 4 v' (k + 1) ((xs ++ [(⟨u, ⟨(k : Int) + 1 + (a : Int) * 100, t, (c : Int)⟩⟩ : En)]).flatMap enCells) := by
          rw [List.flatMap_append]
          simpa [enCells] using hown'
        clear hown' hgrow hor
        go_roundw
        case rel => exact ⟨k + 1, _, by omega, by go_num, Lib.hid (by rw [List.length_append, Hl.out]; rfl), hown2, HB', hG', h9'.more (by omega)⟩
        case measure => simp [intOf]; omega
      · obtain rfl : k = nn := by omega
        have hlt' : ¬ (k : Int) < (k : Int) := by omega
        by_cases h1n : 1 < k
        · have h1n' : (1 : Int) < (k : Int) := by omega
          go_wp2_with fail
          refine (pick_any r _ _ _ Hrd.out (by omega) (by omega)).mono ?_
          rintro e w4 ⟨y, rfl, hy, hg4, h4⟩
          have hown4 := own_rd Hown.out hr hg4
          have H4 := Lib.hid h4
          have HG4 := Lib.hid (grow_trans HG.out hg4)
          clear hg4 h4
          by_cases y0 : y = 0
          · have e0 : ((y : Int) == 0) = true := by rw [y0]; rfl
            clear y0 hy
            obtain ⟨g, cap, rfl, hgb⟩ := own_head hown4 (by omega)
            have hx0 : xs[0]? = some (nx xs 0) := nx_get (by rw [Hl.out]; omega)
            obtain ⟨⟨name, id, kind, data⟩, he0⟩ : ∃ e, nx xs 0 = e := ⟨_, rfl⟩
            rw [he0] at hx0
            have c0 : w4.cell? ⟨g, 0, none⟩ = some (.string name) := (hown4.cellAt 0 (by omega)).trans (flat_get enCells_len xs 0 0 _ hx0 (by omega))
            have c1 : w4.cell? ⟨g, 1, none⟩ = some (.int .i64 id) := (hown4.cellAt 1 (by omega)).trans (flat_get enCells_len xs 0 1 _ hx0 (by omega))
            have c2 : w4.cell? ⟨g, 2, none⟩ = some (.string kind) := (hown4.cellAt 2 (by omega)).trans (flat_get enCells_len xs 0 2 _ hx0 (by omega))
            have c3 : w4.cell? ⟨g, 3, none⟩ = some (.int .i64 data) := (hown4.cellAt 3 (by omega)).trans (flat_get enCells_len xs 0 3 _ hx0 (by omega))
            have hxk : xs[k - 1]? = some (nx xs (k - 1)) := nx_get (by rw [Hl.out]; omega)
            obtain ⟨⟨name2, id2, kind2, data2⟩, he2⟩ : ∃ e, nx xs (k - 1) = e := ⟨_, rfl⟩
            rw [he2] at hxk
            have d0 : w4.cell? ⟨g, (k - 1) * 4, none⟩ = some (.string name2) := (hown4.cellAt ((k - 1) * 4 + 0) (by omega)).trans (flat_get enCells_len xs (k - 1) 0 _ hxk (by omega))
            have d1 : w4.cell? ⟨g, (k - 1) * 4 + 1, none⟩ = some (.int .i64 id2) := (hown4.cellAt ((k - 1) * 4 + 1) (by omega)).trans (flat_get enCells_len xs (k - 1) 1 _ hxk (by omega))
            have d2 : w4.cell? ⟨g, (k - 1) * 4 + 2, none⟩ = some (.string kind2) := (hown4.cellAt ((k - 1) * 4 + 2) (by omega)).trans (flat_get enCells_len xs (k - 1) 2 _ hxk (by omega))
            have d3 : w4.cell? ⟨g, (k - 1) * 4 + 3, none⟩ = some (.int .i64 data2) := (hown4.cellAt ((k - 1) * 4 + 3) (by omega)).trans (flat_get enCells_len xs (k - 1) 3 _ hxk (by omega))
            have f0 := hown4.frozenAt ((k - 1) * 4)
            have f1 := hown4.frozenAt ((k - 1) * 4 + 1)
            have f2 := hown4.frozenAt ((k - 1) * 4 + 2)
            have f3 := hown4.frozenAt ((k - 1) * 4 + 3)
            have HO := Lib.hid hown4
            have Hk1 := Lib.hid (show k - 1 < xs.length by rw [Hl.out]; omega)
            have hbx := Lib.hid (HB.out _ (by rw [← he0]; exact nx_mem (by rw [Hl.out]; omega)) : EnB ⟨name, ⟨id, kind, data⟩⟩)
            clear hown4 hx0 he0 hxk he2
            go_wp2_with fail
            go_ret
            obtain ⟨s1, g1⟩ := HO.out.stored ((k - 1) * 4) (.string name)
            obtain ⟨s2, g2⟩ := s1.stored ((k - 1) * 4 + 1) (.int .i64 id)
            obtain ⟨s3, g3⟩ := s2.stored ((k - 1) * 4 + 2) (.string kind)
            obtain ⟨s4, g4⟩ := s3.stored ((k - 1) * 4 + 3) (.int .i64 data)
            have e1 := set_flat xs (k - 1) ⟨name, ⟨id, kind, data⟩⟩ Hk1.out
            simp only at e1
            rw [e1] at s4
            refine ⟨_, k, _, rfl, by rw [List.length_set, Hl.out], s4, Lib.hid (enB_set HB.out hbx.out), by omega, ?_, ?_⟩
            · exact own_grown HO.out (Nat.le_refl _) HG4.out (((g1.trans g2).trans g3).trans g4)
            · exact (rd_own HO.out hr H4.out (((g1.trans g2).trans g3).trans g4)).more (by omega)
          · have e0 : ((y : Int) == 0) = false := beq_eq_false_iff_ne.2 (by omega)
            clear y0 hy
            go_wp2_with fail
            go_ret
            exact ⟨_, k, xs, rfl, Hl.out, hown4, HB, by omega, HG4.out, H4.out.more (by omega)⟩
        · have h1n' : ¬ (1 : Int) < (k : Int) := by omega
          have hd : decide ((1 : Int) < (k : Int)) = false := decide_eq_false h1n'
          go_wp2_with fail
          go_ret
          exact ⟨_, k, xs, rfl, Hl.out, Hown.out, HB, by omega, HG.out, Hrd.out.more (by omega)⟩
  · have e0 : ((z : Int) == 0) = false := beq_eq_false_iff_ne.2 (by omega)
    have O3 := Lib.hid O2
    have hG3 := Lib.hid hG2
    have h3 := Lib.hid (h2.more (show N + 1 + 1 ≤ N + 3 by omega))
    clear z0 h2 O2 hG2 hz
    go_wp2_with fail
    have hnn : x ≤ 25 := by omega
    clear e0 hx
    generalize x = nn at *
    go_loopw [3, 5] (fun v i wr => ∃ (k : Nat) (xs : List En), k ≤ nn ∧ i = .int .i64 k ∧ Hid (xs.length = k) ∧ wr.ownsRow w.heap.size 44 4 v k (xs.flatMap enCells) ∧ Hid (∀ x ∈ xs, EnB x) ∧ w.grownBy wr (some r) ∧ Rd wr r (N + 3 + 5 * k)) (fun _ i _ => nn - (intOf i).toNat)
    case atStart => exact ⟨0, [], Nat.zero_le _, rfl, Lib.hid rfl, O3.out, Lib.hid (fun x hx => by cases hx), hG3.out, h3.out⟩
    case round =>
      obtain ⟨k, xs, hk, rfl, Hl, hown, HB, hG, hrd⟩ := hrel
      have hsz := Lib.hid hG.size
      have Hown := Lib.hid hown
      have HG := Lib.hid hG
      have Hrd := Lib.hid hrd
      clear hown hG hrd
      by_cases hlt : k < nn
      · have hlt' : (k : Int) < (nn : Int) := by omega
        go_wp2_with fail
        refine (of_lit r _ 3 _ _ _ Hrd.out (by omega) rfl (by omega) (by omega) (by kernel_rfl)).mono ?_
        rintro e w4 ⟨s, rfl, hs, hg4, h4⟩
        have P4 := Lib.hid (And.intro (own_rd Hown.out hr hg4) (grow_trans HG.out hg4))
        clear hg4
        go_wp2_with fail
        refine (pick_any r _ _ _ h4 (by omega) (by omega)).mono ?_
        rintro e w5 ⟨y, rfl, hy, hg5, h5⟩
        have hy := hy (by omega)
        have P5 := Lib.hid (And.intro (own_rd P4.out.1 hr hg5) (grow_trans P4.out.2 hg5))
        clear hg5 h4
        go_wp2_with fail
        refine (nameOfS_at s _ _ _ rfl (by unfold maxLen; omega)).mono ?_
        rintro e w6 ⟨u, rfl, hu, hb6⟩
        have hus : u.size ≤ 60 := by have := nameOfS_len s.data.toList y; rw [← hu, str_len] at this; exact this
        have hg6 : w5.grownBy w6 (some r) := grow_below (grow_refl _ _) hb6
        have h6 := h5.below hb6
        have P6 := Lib.hid (And.intro (own_rd P5.out.1 hr hg6) (grow_trans P5.out.2 hg6))
        clear hb6 hg6 h5 hu
        go_wp2_with fail
        refine (pick_any r _ _ _ h6 (by omega) (by omega)).mono ?_
        rintro e w7 ⟨a, rfl, ha, hg7, h7⟩
        have ha := ha (by omega)
        have P7 := Lib.hid (And.intro (own_rd P6.out.1 hr hg7) (grow_trans P6.out.2 hg7))
        clear hg7 h6
        go_wp2_with fail
        refine (of_lit r _ 3 _ _ _ h7 (by omega) rfl (by omega) (by omega) (by kernel_rfl)).mono ?_
        rintro e w8 ⟨t, rfl, ht, hg8, h8⟩
        have P8 := Lib.hid (And.intro (own_rd P7.out.1 hr hg8) (grow_trans P7.out.2 hg8))
        clear hg8 h7
        go_wp2_with fail
        refine (pick_any r _ _ _ h8 (by omega) (by omega)).mono ?_
        rintro e w9 ⟨c, rfl, hc, hg9, h9⟩
        have hc := hc (by omega)
        have P9 := Lib.hid (And.intro (own_rd P8.out.1 hr hg9) (grow_trans P8.out.2 hg9))
        have hz9 := P9.out.2.size
        have hr9 := h9.lt
        have H9 := Lib.hid h9
        clear hg9 h8 h9 P4 P5 P6 P7 P8
        have Ob := Lib.hid (P9.out.1.alloc (.cells #[.string u, .int .i64 ((k : Int) + 1 + (a : Int) * 100), .string t, .int .i64 c] 44))
        go_wp2_with (first
          | (at_builtin; go_must (refine app_at elemEn (w9.alloc (.cells #[.string u, .int .i64 ((k : Int) + 1 + (a : Int) * 100), .string t, .int .i64 c] 44)) rfl _ _ rfl w.heap.size _ k (xs.flatMap enCells) rfl (by exact Ob.out) [.string u, .int .i64 ((k : Int) + 1 + (a : Int) * 100), .string t, .int .i64 c] (w9.heap.size + 1) rfl ?_ rfl ?_ ?_ ?_ ?_); (simp); (intro x hx; simp at hx; rcases hx with rfl | rfl | rfl | rfl <;> rfl); omega; (show _ ≤ (w9.alloc _).heap.size; simp; omega); intro v' wa hown' hgrow hor))
        have hG' := own_grown Ob.out (Nat.le_refl _) (grow_alloc P9.out.2 _) hgrow
        have h9' := rd_own Ob.out hr (rd_alloc H9.out _) hgrow
        have HB' : Hid (∀ x ∈ xs ++ [(⟨u, ⟨(k : Int) + 1 + (a : Int) * 100, t, (c : Int)⟩⟩ : En)], EnB x) := Lib.hid fun x hx => by
          rcases List.mem_append.1 hx with h1 | h1
          · exact HB.out x h1
          · rw [List.mem_singleton] at h1
            subst h1
            exact ⟨hus, ht, by show (-100000 : Int) ≤ (k : Int) + 1 + (a : Int) * 100; omega, by show (k : Int) + 1 + (a : Int) * 100 ≤ 100000; omega, by show (-100000 : Int) ≤ (c : Int); omega, by show (c : Int) ≤ 100000; omega⟩
        have hown2 : wa.ownsRow w.heap.size 44 4 v' (k + 1) ((xs ++ [(⟨u, ⟨(k : Int) + 1 + (a : Int) * 100, t, (c : Int)⟩⟩ : En)]).flatMap enCells) := by
          rw [List.flatMap_append]
          simpa [enCells] using hown'
        clear hown' hgrow hor
        go_roundw
        case rel => exact ⟨k + 1, _, by omega, by go_num, Lib.hid (by rw [List.length_append, Hl.out]; rfl), hown2, HB', hG', h9'.more (by omega)⟩
        case measure => simp [intOf]; omega
      · obtain rfl : k = nn := by omega
        have hlt' : ¬ (k : Int) < (k : Int) := by omega
        by_cases h1n : 1 < k
        · have h1n' : (1 : Int) < (k : Int) := by omega
          go_wp2_with fail
          refine (pick_any r _ _ _ Hrd.out (by omega) (by omega)).mono ?_
          rintro e w4 ⟨y, rfl, hy, hg4, h4⟩
          have hown4 := own_rd Hown.out hr hg4
          have H4 := Lib.hid h4
          have HG4 := Lib.hid (grow_trans HG.out hg4)
          clear hg4 h4
          by_cases y0 : y = 0
          · have e0 : ((y : Int) == 0) = true := by rw [y0]; rfl
            clear y0 hy
            obtain ⟨g, cap, rfl, hgb⟩ := own_head hown4 (by omega)
            have hx0 : xs[0]? = some (nx xs 0) := nx_get (by rw [Hl.out]; omega)
            obtain ⟨⟨name, id, kind, data⟩, he0⟩ : ∃ e, nx xs 0 = e := ⟨_, rfl⟩
            rw [he0] at hx0
            have c0 : w4.cell? ⟨g, 0, none⟩ = some (.string name) := (hown4.cellAt 0 (by omega)).trans (flat_get enCells_len xs 0 0 _ hx0 (by omega))
            have c1 : w4.cell? ⟨g, 1, none⟩ = some (.int .i64 id) := (hown4.cellAt 1 (by omega)).trans (flat_get enCells_len xs 0 1 _ hx0 (by omega))
            have c2 : w4.cell? ⟨g, 2, none⟩ = some (.string kind) := (hown4.cellAt 2 (by omega)).trans (flat_get enCells_len xs 0 2 _ hx0 (by omega))
            have c3 : w4.cell? ⟨g, 3, none⟩ = some (.int .i64 data) := (hown4.cellAt 3 (by omega)).trans (flat_get enCells_len xs 0 3 _ hx0 (by omega))
            have hxk : xs[k - 1]? = some (nx xs (k - 1)) := nx_get (by rw [Hl.out]; omega)
            obtain ⟨⟨name2, id2, kind2, data2⟩, he2⟩ : ∃ e, nx xs (k - 1) = e := ⟨_, rfl⟩
            rw [he2] at hxk
            have d0 : w4.cell? ⟨g, (k - 1) * 4, none⟩ = some (.string name2) := (hown4.cellAt ((k - 1) * 4 + 0) (by omega)).trans (flat_get enCells_len xs (k - 1) 0 _ hxk (by omega))
            have d1 : w4.cell? ⟨g, (k - 1) * 4 + 1, none⟩ = some (.int .i64 id2) := (hown4.cellAt ((k - 1) * 4 + 1) (by omega)).trans (flat_get enCells_len xs (k - 1) 1 _ hxk (by omega))
            have d2 : w4.cell? ⟨g, (k - 1) * 4 + 2, none⟩ = some (.string kind2) := (hown4.cellAt ((k - 1) * 4 + 2) (by omega)).trans (flat_get enCells_len xs (k - 1) 2 _ hxk (by omega))
            have d3 : w4.cell? ⟨g, (k - 1) * 4 + 3, none⟩ = some (.int .i64 data2) := (hown4.cellAt ((k - 1) * 4 + 3) (by omega)).trans (flat_get enCells_len xs (k - 1) 3 _ hxk (by omega))
            have f0 := hown4.frozenAt ((k - 1) * 4)
            have f1 := hown4.frozenAt ((k - 1) * 4 + 1)
            have f2 := hown4.frozenAt ((k - 1) * 4 + 2)
            have f3 := hown4.frozenAt ((k - 1) * 4 + 3)
            have HO := Lib.hid hown4
            have Hk1 := Lib.hid (show k - 1 < xs.length by rw [Hl.out]; omega)
            have hbx := Lib.hid (HB.out _ (by rw [← he0]; exact nx_mem (by rw [Hl.out]; omega)) : EnB ⟨name, ⟨id, kind, data⟩⟩)
            clear hown4 hx0 he0 hxk he2
            go_wp2_with fail
            go_ret
            obtain ⟨s1, g1⟩ := HO.out.stored ((k - 1) * 4) (.string name)
            obtain ⟨s2, g2⟩ := s1.stored ((k - 1) * 4 + 1) (.int .i64 id)
            obtain ⟨s3, g3⟩ := s2.stored ((k - 1) * 4 + 2) (.string kind)
            obtain ⟨s4, g4⟩ := s3.stored ((k - 1) * 4 + 3) (.int .i64 data)
            have e1 := set_flat xs (k - 1) ⟨name, ⟨id, kind, data⟩⟩ Hk1.out
            simp only at e1
            rw [e1] at s4
            refine ⟨_, k, _, rfl, by rw [List.length_set, Hl.out], s4, Lib.hid (enB_set HB.out hbx.out), by omega, ?_, ?_⟩
            · exact own_grown HO.out (Nat.le_refl _) HG4.out (((g1.trans g2).trans g3).trans g4)
            · exact (rd_own HO.out hr H4.out (((g1.trans g2).trans g3).trans g4)).more (by omega)
          · have e0 : ((y : Int) == 0) = false := beq_eq_false_iff_ne.2 (by omega)
            clear y0 hy
            go_wp2_with fail
            go_ret
            exact ⟨_, k, xs, rfl, Hl.out, hown4, HB, by omega, HG4.out, H4.out.more (by omega)⟩
        · have h1n' : ¬ (1 : Int) < (k : Int) := by omega
          have hd : decide ((1 : Int) < (k : Int)) = false := decide_eq_false h1n'
          go_wp2_with fail
          go_ret
          exact ⟨_, k, xs, rfl, Hl.out, Hown.out, HB, by omega, HG.out, Hrd.out.more (by omega)⟩
end Go.Proofs.YtnfncnpnkmjjeaaDoor
