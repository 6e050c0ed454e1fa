/- The walk of laws.FnCutsPart. -/
import Derived.Test.YtbcfbkcadceniaaDoorDrawCv
import Derived.Test.YtbcfbkcadceniaaDoorRowX
import Derived.Laws.OwnMore
namespace Go.Proofs.YtbcfbkcadceniaaDoor
set_option linter.unusedVariables false
set_option linter.unusedSimpArgs false
open Go.RowKit

theorem below_own (w : World) {w4 : World} {n c : Nat} {o : Obj} (hg : (w.drew.alloc o).grownBy w4 (Value.slice (some ⟨w.heap.size, 0, none⟩) n c).ownBlock) : Below w.heap.size w w4 :=
  (((Below.refl w.heap.size w).drew).alloc (Nat.le_refl _) o).grown hg (by show w.heap.size ≤ (w.drew.alloc o).heap.size; simp) (fun k hk => by injection hk with e; rw [← e]; exact Nat.le_refl _)
set_option maxRecDepth 100000 in
set_option maxHeartbeats 8000000 in
theorem law_FnCutsPart (A : Option Addr) (n c : Nat) (A' : Option Addr) (n' c' : Nat) (w : World) (h : Code w A n c) (h' : Code w A' n' c') (hg : GE w) :
    Calls Tryd.prog 4 #[.slice A n c, .slice A' n' c'] w fun e w' => e = .returned (.bool true) ∧ Below w.heap.size w w' := by
  have hn := h.2.1
  have hn' := h'.2.1
  unfold maxLen at hn hn'
  by_cases hbig : (1048576 : Int) < n
  · go_enter Tryd.func4, Tryd.ntmps4
    go_wp2_with fail
    go_ret
    exact ⟨rfl, Below.refl _ _⟩
  by_cases hbig' : (1048576 : Int) < n'
  · go_enter Tryd.func4, Tryd.ntmps4
    go_wp2_with fail
    go_ret
    exact ⟨rfl, Below.refl _ _⟩
  have HC := Lib.hid h
  have L0 := (Live.since (Below.refl w.heap.size w)).and (Live.ge hg)
  clear h h' hg
  have hd : decide ((1048576 : Int) < n) = false := decide_eq_false hbig
  have hd' : decide ((1048576 : Int) < n') = false := decide_eq_false hbig'
  go_enter Tryd.func4, Tryd.ntmps4
  go_wp2_with fail
  refine (drawCutsValid_any A n c _ HC.out).mono ?_
  rintro e w1 ⟨Ax, k, cx, cs, rfl, hrow, Hsc, hk, hkc, Hnil, hb1⟩
  have L1 := (L0.next hb1).and (Live.row hrow)
  have Hl := Lib.hid hrow.1
  clear hrow hb1 L0
  have F1 := Lib.hid (fun W H G => cutsValid_any Ax k cx cs W H Hsc.out (by omega) G)
  have F2 := Lib.hid (fun W H => cutsValidS_any Ax k cx cs W H Hsc.out (by omega))
  go_wp2_with fail
  refine (F1.out _ L1.now.2 L1.now.1.2).mono ?_
  rintro e w2 ⟨rfl, hb2⟩
  have L2 := L1.next hb2
  clear hb2 L1
  go_wp2_with fail
  refine (F2.out _ L2.now.2).mono ?_
  rintro e w3 ⟨rfl, hb3⟩
  have L3 := L2.next hb3
  clear hb3 L2 F1 F2
  cases hok : cutsOk cs with
  | false =>
    go_wp2_with fail
    go_ret
    exact ⟨rfl, L3.now.1.1⟩
  | true =>
    by_cases hk0 : k = 0
    · subst hk0
      go_wp2_with fail
      go_ret
      exact ⟨rfl, L3.now.1.1⟩
    have hk1 : ((k : Int) == 0) = false := beq_eq_false_iff_ne.2 (by omega)
    have hk2 : (0 : Int) < k := by omega
    obtain ⟨b, off, rfl, hb, -⟩ := L3.now.2.cut_at (by omega)
    go_wp2_with fail
    obtain ⟨j, hj⟩ : ∃ j : Nat, (n' : Int) % (k : Int) = (j : Int) := ⟨n' % k, rfl⟩
    have hjk : j < k := by have := Int.emod_lt_of_pos (n' : Int) hk2; omega
    rw [hj]
    clear hj hd hd' hbig hbig'
    have hj1 : (0 : Int) ≤ (j : Int) := by omega
    have hj2 : (j : Int) ≤ (cx : Int) := by omega
    have hj3 : (j : Int) + 1 ≤ (k : Int) := by omega
    have hj4 : (0 : Int) ≤ (j : Int) + 1 := by omega
    have hj5 : (j : Int) + 1 ≤ (cx : Int) := by omega
    have hj6 : (j : Int) ≤ (k : Int) := by omega
    have hw1 : IntKind.i64.wrap ((j : Int) + 1) = (j : Int) + 1 := IntWalk.i64_in _ (by omega)
    have hw2 : ((j : Int) + 1).toNat = j + 1 := by omega
    have T1 := Lib.hid (fun W (H : Row cutCells 2 W W.heap.size (some ⟨b, off, none⟩) k cs) => H.first cutCells_len j (by omega))
    have T2 := Lib.hid (fun W (H : Row cutCells 2 W W.heap.size (some ⟨b, off, none⟩) k cs) => H.first cutCells_len (j + 1) (by omega))
    obtain ⟨off2, hif, Hd2⟩ : ∃ off2, (if cx = j + 1 then some (⟨b, off, none⟩ : Addr) else some ⟨b, off + (j + 1) * 2, none⟩) = some ⟨b, off2, none⟩ ∧ Hid (∀ W, Row cutCells 2 W W.heap.size (some ⟨b, off, none⟩) k cs → Row cutCells 2 W W.heap.size (some ⟨b, off2, none⟩) (k - (j + 1)) (cs.drop (j + 1))) := by
      have key : ∀ W, Row cutCells 2 W W.heap.size (some ⟨b, off, none⟩) k cs → Row cutCells 2 W W.heap.size (if cx = j + 1 then some ⟨b, off, none⟩ else (some (⟨b, off, none⟩ : Addr)).map (·.add ((j + 1) * 2))) (k - (j + 1)) (cs.drop (j + 1)) := fun W H => by
        have h2 := H.cut (cap := cx) cutCells_len (j + 1) k (by omega) (Nat.le_refl _) hkc
        rwa [List.take_of_length_le (by rw [List.length_drop, Hl.out]; exact Nat.le_refl _)] at h2
      by_cases hcj : cx = j + 1
      · refine ⟨off, by rw [if_pos hcj], Lib.hid fun W H => ?_⟩
        have := key W H
        rwa [if_pos hcj] at this
      · refine ⟨off + (j + 1) * 2, by rw [if_neg hcj], Lib.hid fun W H => ?_⟩
        have := key W H
        rw [if_neg hcj] at this
        simpa [Addr.add] using this
    have hne : ¬ cx = j := by omega
    have Hd1 : Hid (∀ W, Row cutCells 2 W W.heap.size (some ⟨b, off, none⟩) k cs → Row cutCells 2 W W.heap.size (some ⟨b, off + j * 2, none⟩) (k - j) (cs.drop j)) := Lib.hid fun W H => by
      have h2 := H.cut (cap := cx) cutCells_len j k (by omega) (Nat.le_refl _) hkc
      rw [List.take_of_length_le (by rw [List.length_drop, Hl.out]; exact Nat.le_refl _), if_neg hne] at h2
      have e3 : (⟨b, off, none⟩ : Addr).add (j * 2) = ⟨b, off + j * 2, none⟩ := by
        unfold Addr.add
        split <;> simp_all
      rwa [Option.map_some, e3] at h2
    go_region_law (first
      | (refine app_src_step elemCut _ ?_ (.tmp 45) (.tmp 48) ?_ w3.heap.size _ 0 [] ?_ (World.ownsRow_lit w3.drew #[] 0 (Nat.le_refl _) (Nat.zero_le _) rfl) (some ⟨b, off, none⟩) (j) cx w3.heap.size ((cs.take j).flatMap cutCells) ?_ ?_ ?_ (cuts_one _) ?_ ?_ ?_ ?_; rfl; rfl; rfl; rfl; (intro e; cases e); exact (T1.out _ L3.now.2).2.below ((Below.refl _ _).drew.alloc (Nat.le_refl _) _); omega; omega; (show w3.heap.size ≤ (w3.drew.alloc _).heap.size; simp); intro v4 w4 own4 grow4 or4)
      | (refine app_src_step elemCut w4 ?_ (.tmp 49) (.tmp 53) ?_ w3.heap.size v4 (0 + (j)) ([] ++ (cs.take j).flatMap cutCells) ?_ own4 (some ⟨b, off2, none⟩) (k - (j + 1)) (cx - (j + 1)) w3.heap.size ((cs.drop (j + 1)).flatMap cutCells) ?_ ?_ ?_ (cuts_one _) ?_ ?_ ?_ ?_; rfl; rfl; rfl; rfl; (intro e; cases e); exact (Hd2.out _ L3.now.2).2.below (below_own w3 grow4); omega; omega; (exact Nat.le_trans (show w3.heap.size ≤ (w3.drew.alloc _).heap.size by simp) grow4.size); intro v5 w5 own5 grow5 or5))
    all_goals
      have hb5 : Below w3.heap.size w3 w5 := own_below' own4 (Nat.le_refl _) (below_own w3 grow4) (below_own w3 grow4).size grow5
      have own5' : w5.ownsRow w3.heap.size 42 2 v5 (k - 1) ((cs.take j ++ cs.drop (j + 1)).flatMap cutCells) := by
        rw [List.flatMap_append, show k - 1 = 0 + j + (k - (j + 1)) by omega]
        simpa using own5
      obtain ⟨A5, c5, rfl, hc5, hn5, hr5, _⟩ := Row.of_own own5' (by rw [List.length_append, List.length_take, List.length_drop, Hl.out]; omega)
      have L5' := (L3.next hb5).and (Live.row hr5)
      have L5 : Live w5 fun W => ((Below w.heap.size w W ∧ GE W) ∧ Row cutCells 2 W W.heap.size A5 (k - 1) (cs.take j ++ cs.drop (j + 1))) ∧ Row cutCells 2 W W.heap.size (some ⟨b, off, none⟩) k cs := L5'.imp fun W q => ⟨⟨q.1.1, q.2⟩, q.1.2⟩
      clear own4 own5 own5' grow4 grow5 or4 or5 hb5 hr5 hn5 L5'
      go_wp2_with fail
      go_region_law (first
        | (refine app_src_step elemCut _ ?_ (.tmp 55) (.tmp 59) ?_ w5.heap.size _ 0 [] ?_ (World.ownsRow_lit w5.drew #[] 0 (Nat.le_refl _) (Nat.zero_le _) rfl) (some ⟨b, off, none⟩) (j + 1) cx w5.heap.size ((cs.take (j + 1)).flatMap cutCells) ?_ ?_ ?_ (cuts_one _) ?_ ?_ ?_ ?_; rfl; rfl; rfl; rfl; (intro e; cases e); exact (T2.out _ L5.now.2).2.below ((Below.refl _ _).drew.alloc (Nat.le_refl _) _); omega; omega; (show w5.heap.size ≤ (w5.drew.alloc _).heap.size; simp); intro v6 w6 own6 grow6 or6)
        | (refine app_src_step elemCut w6 ?_ (.tmp 60) (.tmp 63) ?_ w5.heap.size v6 (0 + (j + 1)) ([] ++ (cs.take (j + 1)).flatMap cutCells) ?_ own6 (some ⟨b, off + j * 2, none⟩) (k - j) (cx - j) w5.heap.size ((cs.drop j).flatMap cutCells) ?_ ?_ ?_ (cuts_one _) ?_ ?_ ?_ ?_; rfl; rfl; rfl; rfl; (intro e; cases e); exact (Hd1.out _ L5.now.2).2.below (below_own w5 grow6); omega; omega; (exact Nat.le_trans (show w5.heap.size ≤ (w5.drew.alloc _).heap.size by simp) grow6.size); intro v7 w7 own7 grow7 or7))
      all_goals
        have hb7 : Below w5.heap.size w5 w7 := own_below' own6 (Nat.le_refl _) (below_own w5 grow6) (below_own w5 grow6).size grow7
        have own7' : w7.ownsRow w5.heap.size 42 2 v7 (k + 1) ((cs.take (j + 1) ++ cs.drop j).flatMap cutCells) := by
          rw [List.flatMap_append, show k + 1 = 0 + (j + 1) + (k - j) by omega]
          simpa using own7
        obtain ⟨A7, c7, rfl, hc7, hn7, hr7, _⟩ := Row.of_own own7' (by rw [List.length_append, List.length_take, List.length_drop, Hl.out]; omega)
        have L7 := (L5.next hb7).and (Live.row hr7)
        have hs1 : SmallCuts (cs.take j ++ cs.drop (j + 1)) := fun x hx => by
          rcases List.mem_append.1 hx with h | h
          · exact Hsc.out x (List.mem_of_mem_take h)
          · exact Hsc.out x (List.mem_of_mem_drop h)
        have hs2 : SmallCuts (cs.take (j + 1) ++ cs.drop j) := fun x hx => by
          rcases List.mem_append.1 hx with h | h
          · exact Hsc.out x (List.mem_of_mem_take h)
          · exact Hsc.out x (List.mem_of_mem_drop h)
        have V1 := Lib.hid (fun W H G => cutsValid_any A5 (k - 1) c5 _ W H hs1 (by omega) G)
        rw [cutsPart_yes j hok] at V1
        have V2 := Lib.hid (fun W H G => cutsValid_any A7 (k + 1) c7 _ W H hs2 (by omega) G)
        rw [cutsPart_no j (by rw [Hl.out]; exact hjk)] at V2
        clear own6 own7 own7' grow6 grow7 or6 or7 hb7 hr7 hn7 hs1 hs2
        go_wp2_with fail
        refine (V1.out _ L7.now.1.1.2 L7.now.1.1.1.2).mono ?_
        rintro e w8 ⟨rfl, hb8⟩
        have L8 := L7.next hb8
        go_wp2_with fail
        refine (V2.out _ L8.now.2 L8.now.1.1.1.2).mono ?_
        rintro e w9 ⟨rfl, hb9⟩
        go_wp2_with fail
        go_ret
        exact ⟨rfl, (L8.next hb9).now.1.1.1.1⟩
end Go.Proofs.YtbcfbkcadceniaaDoor
