/- Putting a cut among cuts: the program's. -/
import Derived.Test.YtbcfbkcadceniaaDoorInsC
import Derived.Test.YtbcfbkcadceniaaDoorCutsR
import Derived.Test.YtbcfbkcadceniaaDoorDrawCu
import Derived.Test.YtbcfbkcadceniaaDoorApp
import Derived.BigRegion
namespace Go.Proofs.YtbcfbkcadceniaaDoor
set_option linter.unusedVariables false
set_option linter.unusedSimpArgs false
open Go.RowKit

def PutRet (p : List Cut × Bool) (w : World) (e : Ending) (w' : World) : Prop :=
  ∃ (A : Option Addr) (n c : Nat), e = .returned (.tuple #[.slice A n c, .bool p.2]) ∧ Row cutCells 2 w' w'.heap.size A n p.1 ∧ n ≤ c ∧ Hid (A = none → c = 0) ∧ Below w.heap.size w w'
theorem put_no {w : World} (W : World) {b : Bool} (hb : Below W.heap.size W w) : PutRet ([], b) W (.returned (.tuple #[.slice (some ⟨w.heap.size, 0, none⟩) 0 0, .bool b])) (w.alloc (.cells #[] 42)) :=
  ⟨_, 0, 0, rfl, Row.nil _ _ _, Nat.le_refl _, Lib.hid (fun e => by cases e), hb.alloc hb.size _⟩
theorem made_n (W : World) (N : Nat) : RowN (W.alloc (.cells (madeCells (Value.agg #[.string ⟨#[]⟩, .int .i64 0]).cells (N * 2)) 42)) W.heap.size N [] :=
  ⟨_, Blk.new W _ _, by rw [size_madeCells], rfl⟩
theorem RowC.set {w : World} {g n k : Nat} {cs : List Cut} (h : RowC w g n cs) (hk : k < n) (v : Int) : RowC (w.setCell ⟨g, k * 2 + 1, none⟩ (.int .i64 v)) g n (cs.set k ⟨(nx cs k).name, v⟩) := by
  obtain ⟨cur, hB, hs, hl, ht⟩ := h
  refine ⟨_, hB.set_ (k * 2 + 1) (.int .i64 v), by rw [Array.size_setIfInBounds]; exact hs, by rw [List.length_set]; exact hl, ?_⟩
  rw [Array.toList_setIfInBounds, List.take_set, ht]
  exact set_flat_cut cs k v (by rw [hl]; exact hk)
theorem cut_absent {l : List Cut} {s : ByteArray} (h : cutsOk l = true) (h0 : cutFrom l s = 0) : ∀ j, j < l.length → (nx l j).name ≠ s := fun j hj e => by
  have h1 := cutFrom_at j hj e (fun i hi => e ▸ cuts_ne h (by omega) hj (by omega))
  have h2 := cutOne_iff.1 ((cutsOk_iff2.1 h).2.2 _ (nx_mem hj))
  omega
theorem Live.rowc {w : World} {g n : Nat} {cs : List Cut} (h : RowC w g n cs) : Live w fun W => RowC W g n cs := fun _ hW => h.next hW
theorem small_put {l : List Cut} {c : Cut} (h : SmallCuts l) (hc : c.name.size ≤ maxLen) (i : Nat) : SmallCuts (l.take i ++ c :: l.drop i) := fun x hx => by
  rcases List.mem_append.1 hx with hx | hx
  · exact h x (List.mem_of_mem_take hx)
  · rcases List.mem_cons.1 hx with rfl | hx
    · exact hc
    · exact h x (List.mem_of_mem_drop hx)
set_option maxRecDepth 100000 in
set_option maxHeartbeats 8000000 in
theorem cutsPut_any (A : Option Addr) (n c : Nat) (cs : List Cut) (name : ByteArray) (at_ : Int) (w : World) (h : Row cutCells 2 w w.heap.size A n cs) (hsm : SmallCuts cs) (hs : name.size ≤ maxLen) (hnil : A = none → c = 0) (hnb : n ≤ 900) (hg : GE w) :
    Calls Tryd.prog 26 #[.slice A n c, .agg #[.string name, .int .i64 at_]] w (PutRet (cutsPut cs ⟨name, at_⟩) w) := by
  have Hl := Lib.hid h.1
  have Hnil := Lib.hid hnil
  have hb0 : Below w.heap.size w (w.alloc (.cells #[.string name, .int .i64 at_] 42)) := (Below.refl _ _).alloc (Nat.le_refl _) _
  have L : Live (w.alloc (.cells #[.string name, .int .i64 at_] 42)) fun W => ((Below w.heap.size w W ∧ GE W) ∧ Row cutCells 2 W W.heap.size A n cs) ∧ Blk W w.heap.size 42 #[.string name, .int .i64 at_] := (((Live.since hb0).and (Live.ge (hg.below hb0))).and (Live.row (h.next hb0))).and (Live.blk (Blk.new w _ _))
  have V1 := Lib.hid (fun W H G => cutsValid_any A n c cs W H hsm (by omega) G)
  have V2 := Lib.hid (fun W G => cutValid_any name at_ W hs G)
  have Hsm := Lib.hid hsm
  have G0 := Lib.hid hg
  clear h hb0 hg hsm hnil
  cases h1 : cutsOk cs with
  | false =>
    have Hr := Lib.hid (cutsPut_no (l := cs) (c := ⟨name, at_⟩) (by rw [h1]; rfl))
    rw [h1] at V1
    go_enter Tryd.func26, Tryd.ntmps26
    go_wp2_with (go_at_call 24; refine (V1.out _ L.now.1.2 L.now.1.1.2).mono ?_; rintro e w1 ⟨rfl, hb1⟩; have L1 := L.next hb1)
    go_ret2
    rw [Hr.out]
    exact put_no w L1.now.1.1.1
  | true =>
    rw [h1] at V1
    cases h2 : cutOne ⟨name, at_⟩ with
    | false =>
      have Hr := Lib.hid (cutsPut_no (l := cs) (c := ⟨name, at_⟩) (by rw [h2]; simp))
      rw [h2] at V2
      go_enter Tryd.func26, Tryd.ntmps26
      go_wp2_with (first
        | (go_at_call 24; refine (V1.out _ L.now.1.2 L.now.1.1.2).mono ?_; rintro e w1 ⟨rfl, hb1⟩; have L1 := L.next hb1; have c0 := L1.now.2.cell 0; have c1 := L1.now.2.cell 1)
        | (go_at_call 56; refine (V2.out _ L1.now.1.1.2).mono ?_; rintro e w2 ⟨rfl, hb2⟩; have L2 := L1.next hb2))
      go_ret2
      rw [Hr.out]
      exact put_no w L2.now.1.1.1
    | true =>
      rw [h2] at V2
      have mk := fun W => make_row elemCut (n + 1) (by omega) ((n : Int) + 1) (by omega) W
      have hw1 : IntKind.i64.wrap ((n : Int) + 1) = (n : Int) + 1 := IntWalk.i64_in _ (by omega)
      have Hso := Lib.hid (sorted_cs h1)
      have Hok := Lib.hid h1
      have Hoc := Lib.hid h2
      clear h1 h2
      go_enter Tryd.func26, Tryd.ntmps26
      go_wp2_with (first
        | (go_at_call 24; refine (V1.out _ L.now.1.2 L.now.1.1.2).mono ?_; rintro e w1 ⟨rfl, hb1⟩; have L1 := L.next hb1; have c0 := L1.now.2.cell 0; have c1 := L1.now.2.cell 1)
        | (go_at_call 56; refine (V2.out _ L1.now.1.1.2).mono ?_; rintro e w2 ⟨rfl, hb2⟩; have L2 := L1.next hb2; have Bm := Lib.hid ((Below.refl w2.heap.size w2).alloc (Nat.le_refl _) (.cells (madeCells (Value.agg #[.string ⟨#[]⟩, .int .i64 0]).cells ((n + 1) * 2)) 42)))
        | (at_builtin; go_must (refine fits_list _ rfl _ _ rfl w2.heap.size 0 (n + 1) n c [] cs (made_n w2 (n + 1)) rfl rfl A rfl Hnil.out ((L2.next Bm.out).now.1.2).2 (by omega) (by omega) ?_; intro w3 hR3 hg3; have hb3 : Below w2.heap.size w2 w3 := Bm.out.grown hg3 Bm.out.size (fun k hk => by injection hk with e; omega); rw [List.nil_append] at hR3; rw [Nat.zero_add]; have hC3 := hR3.c Hl.out; have Hb3 := Lib.hid hb3; have L3 := (L2.next hb3).and (Live.rowc hC3); have d0 := L3.now.1.2.cell 0; have d1 := L3.now.1.2.cell 1; have hlt2 := L2.now.2.lt))
        | (go_at_call 57; refine (cutOf_any (some ⟨w2.heap.size, 0, none⟩) n (n + 1) cs name w3 L3.now.2.row (by omega)).mono ?_; rintro e w4 ⟨rfl, ⟨k, b, off, hk, heq, rfl, Hf, Hs⟩ | ⟨rfl, Hf⟩⟩))
      · obtain ⟨rfl, rfl⟩ : w2.heap.size = b ∧ 0 = off := by injection heq with e; injection e with e1 e2; exact ⟨e1, e2⟩
        have hC := L3.now.2
        have HC := Lib.hid hC
        have cc := (hC.row.cut_at2 k hk).2
        rw [Nat.zero_add] at cc
        have fc := hC.frozen (k * 2 + 1)
        have HL3 := Lib.hid L3
        have hk' := hk
        have hmx : max (nx cs k).at_ at_ = max (nx cs k).at_ at_ := rfl
        have HR : Hid (cutsPut cs ⟨name, at_⟩ = (cs.set k ⟨(nx cs k).name, max (nx cs k).at_ at_⟩, true)) := Lib.hid (by
          have e1 := putCs_at (c := ⟨name, at_⟩) Hso.out (by rw [Hl.out]; exact hk) Hs.out Hf.out
          have e2 := put_at_ok (c := ⟨name, at_⟩) Hok.out Hoc.out (by rw [Hl.out]; exact hk) Hs.out
          rw [← e1] at e2
          rw [cutsPut_yes Hok.out Hoc.out e2, e1, Hs.out])
        clear hC hR3 hg3 hb3 heq mk L L1 L2 hb1 hb2 c0 c1 V1 V2 Bm
        go_region
        all_goals
          go_wp2_with fail
          go_ret2
          rw [HR.out]
          have hC5 := HC.out.set (k := k) hk (max (nx cs k).at_ at_)
          have hbz : w.heap.size ≤ w2.heap.size := by omega
          exact ⟨_, n, n + 1, rfl, hC5.row, by omega, Lib.hid (fun e => by cases e), (HL3.out.now.1.1.1.1.setCell (p := ⟨w2.heap.size, k * 2 + 1, none⟩) hbz _).drew⟩
      · have Hab := Lib.hid (cut_absent Hok.out Hf.out)
        have B3 := Lib.hid L3.now.2
        clear hR3 hg3 hb3 mk L L1 L2 hb1 hb2 c0 c1 d0 d1 V2 Bm
        go_loopw [8] (fun i wr => ∃ k : Nat, k ≤ n ∧ i = .int .i64 (k : Int) ∧ Hid (∀ j, j < k → ltB (nx cs j).name name = true) ∧ Hid (Below w2.heap.size w2 wr) ∧ Live wr fun W => (((Below w.heap.size w W ∧ GE W) ∧ Row cutCells 2 W W.heap.size A n cs) ∧ Blk W w.heap.size 42 #[.string name, .int .i64 at_]) ∧ RowC W w2.heap.size n cs) (fun i _ => n - (intOf i).toNat)
        case atStart => exact ⟨0, Nat.zero_le _, rfl, Lib.hid (fun j hj => absurd hj (by omega)), Hb3, L3⟩
        case round =>
          obtain ⟨k, hk, rfl, Hlt, HB, LW⟩ := hrel
          by_cases hlt : k < n
          · have hlt' : (k : Int) < (n : Int) := by omega
            have e0 := fun x : On wr => (show x.W.cell? ⟨w2.heap.size, k * 2, none⟩ = some (.string (nx cs k).name) from by have := ((LW.next x.below).now.2.row.cut_at2 k hlt).1; rw [Nat.zero_add] at this; exact this)
            have s0 := fun x : On wr => (show x.W.cell? ⟨w.heap.size, 0, none⟩ = some (.string name) from (LW.next x.below).now.1.2.cell 0)
            cases hll : ltB (nx cs k).name name with
            | true =>
              have e1 : Op.bytesLess (nx cs k).name.toList name.toList = true := hll
              have Hll := Lib.hid hll
              clear hll
              go_wp2_with fail
              refine wp_region_on (by kernel_rfl) (by kernel_rfl) ?_
              repeat (go_big_quiet_step (fail))
              refine wpQuiet_nil ?_
              intro w4 hw'
              obtain ⟨⟨w4b, hb4⟩, hw''⟩ := hw'
              obtain rfl : w4 = w4b := hw''
              go_wp2_with fail
              go_roundw
              case rel => exact ⟨k + 1, by omega, by go_num, Lib.hid (fun j hj => by
                rcases Nat.lt_succ_iff_lt_or_eq.1 hj with h' | rfl
                · exact Hlt.out j h'
                · exact Hll.out), Lib.hid (HB.out.trans (hb4.mono HB.out.size)), LW.next hb4⟩
              case measure => simp [intOf]; omega
            | false =>
              have e1 : Op.bytesLess (nx cs k).name.toList name.toList = false := hll
              have hgt : ltB name (nx cs k).name = true := by
                rcases ltB_tri (nx cs k).name name with h | h | h
                · rw [hll] at h; cases h
                · exact absurd h (Hab.out k (by rw [Hl.out]; exact hlt))
                · exact h
              have hgap := putCs_gap (l := cs) (c := ⟨name, at_⟩) Hso.out Hoc.out (by rw [Hl.out]; exact hk) Hf.out Hlt.out (fun _ => hgt)
              have Hgap := Lib.hid hgap
              clear hll hgt hgap
              go_wp2_with fail
              refine wp_region_on (by kernel_rfl) (by kernel_rfl) ?_
              repeat (go_big_quiet_step (fail))
              refine wpQuiet_nil ?_
              intro w4 hw'
              obtain ⟨⟨w4b, hb4⟩, hw''⟩ := hw'
              obtain rfl : w4 = w4b := hw''
              have L4 := LW.next hb4
              have HRW := Lib.hid L4.now.2
              have s4 := L4.now.1.2.cell 0
              have s5 := L4.now.1.2.cell 1
              have HBx := Lib.hid ((Below.refl _ _).alloc (Nat.le_refl w4.heap.size) (.cells #[.string name, .int .i64 at_] 42))
              have HB4 := Lib.hid (HB.out.trans (hb4.mono HB.out.size))
              have HBx2 := Lib.hid (HB4.out.trans (HBx.out.mono HB4.out.size))
              have hgl := HRW.out.lt
              have hbl := L4.now.1.2.lt
              have HA4 := Lib.hid L4.now.1.1.1.1
              have HG4 := Lib.hid L4.now.1.1.1.2
              have hlen6 : (cs.take k ++ (⟨name, at_⟩ : Cut) :: cs.drop k).length = n + 1 := by rw [List.length_append, List.length_cons, List.length_take, List.length_drop, Hl.out]; omega
              have Hsp := Lib.hid (small_put (c := ⟨name, at_⟩) Hsm.out hs k)
              have Hlen6 := Lib.hid hlen6
              have II := Lib.hid (insertCut_any w2.heap.size n k w4.heap.size cs ⟨name, at_⟩ (w4.alloc (.cells #[.string name, .int .i64 at_] 42)) (HRW.out.next (by exact HBx.out)) (Blk.new w4 _ _) (by omega) hk (by omega))
              clear hlen6 hb4 L4
              cases hbo : cutsOk (cs.take k ++ (⟨name, at_⟩ : Cut) :: cs.drop k) with
              | false =>
                have HR : Hid (cutsPut cs ⟨name, at_⟩ = ([], false)) := Lib.hid (cutsPut_no (by rw [Hgap.out, hbo]; simp))
                go_wp2_with (first
                  | (go_at_call 58; go_must (refine II.out.mono ?_; rintro e w6 ⟨rfl, hB6, hg6⟩; have hr6 := blk_row_whole hB6; rw [Hlen6.out] at hr6; have HW6 : Hid (Below w.heap.size w w6) := Lib.hid ((HA4.out.trans (HBx.out.mono HA4.out.size)).grown hg6 (by have := HBx.out.size; omega) (fun q hq => by injection hq with e; omega)); have CV := Lib.hid (cutsValid_any (some ⟨w2.heap.size, 0, none⟩) (n + 1) (n + 1) _ w6 hr6 Hsp.out (by omega) (G0.out.below HW6.out)); rw [hbo] at CV; have HR6 := Lib.hid hr6; clear hB6 hg6 hr6))
                  | (go_at_call 24; go_must (refine CV.out.mono ?_; rintro e w7 ⟨rfl, hb7⟩; have HB7 := Lib.hid (HW6.out.trans (hb7.mono HW6.out.size)); have HR7 := Lib.hid (HR6.out.next hb7); clear hb7)))
                go_ret2
                rw [HR.out]
                exact put_no w (HB7.out)
              | true =>
                have HR : Hid (cutsPut cs ⟨name, at_⟩ = (cs.take k ++ (⟨name, at_⟩ : Cut) :: cs.drop k, true)) := Lib.hid (by rw [cutsPut_yes Hok.out Hoc.out (by rw [Hgap.out]; exact hbo), Hgap.out])
                go_wp2_with (first
                  | (go_at_call 58; go_must (refine II.out.mono ?_; rintro e w6 ⟨rfl, hB6, hg6⟩; have hr6 := blk_row_whole hB6; rw [Hlen6.out] at hr6; have HW6 : Hid (Below w.heap.size w w6) := Lib.hid ((HA4.out.trans (HBx.out.mono HA4.out.size)).grown hg6 (by have := HBx.out.size; omega) (fun q hq => by injection hq with e; omega)); have CV := Lib.hid (cutsValid_any (some ⟨w2.heap.size, 0, none⟩) (n + 1) (n + 1) _ w6 hr6 Hsp.out (by omega) (G0.out.below HW6.out)); rw [hbo] at CV; have HR6 := Lib.hid hr6; clear hB6 hg6 hr6))
                  | (go_at_call 24; go_must (refine CV.out.mono ?_; rintro e w7 ⟨rfl, hb7⟩; have HB7 := Lib.hid (HW6.out.trans (hb7.mono HW6.out.size)); have HR7 := Lib.hid (HR6.out.next hb7); clear hb7)))
                go_ret2
                rw [HR.out]
                exact ⟨_, n + 1, n + 1, rfl, HR7.out, Nat.le_refl _, Lib.hid (fun e => by cases e), HB7.out⟩
          · obtain rfl : k = n := by omega
            have hlt' : ¬ (k : Int) < (k : Int) := by omega
            have Hgap := Lib.hid (putCs_gap (l := cs) (c := ⟨name, at_⟩) Hso.out Hoc.out (by rw [Hl.out]; exact Nat.le_refl _) Hf.out Hlt.out (fun h => by rw [Hl.out] at h; omega))
            have s0 := fun x : On wr => (show x.W.cell? ⟨w.heap.size, 0, none⟩ = some (.string name) from (LW.next x.below).now.1.2.cell 0)
            go_wp2_with fail
            refine wp_region_on (by kernel_rfl) (by kernel_rfl) ?_
            repeat (go_big_quiet_step (fail))
            refine wpQuiet_nil ?_
            intro w4 hw'
            obtain ⟨⟨w4b, hb4⟩, hw''⟩ := hw'
            obtain rfl : w4 = w4b := hw''
            have L4 := LW.next hb4
            have HRW := Lib.hid L4.now.2
            have s4 := L4.now.1.2.cell 0
            have s5 := L4.now.1.2.cell 1
            have HBx := Lib.hid ((Below.refl _ _).alloc (Nat.le_refl w4.heap.size) (.cells #[.string name, .int .i64 at_] 42))
            have HB4 := Lib.hid (HB.out.trans (hb4.mono HB.out.size))
            have HBx2 := Lib.hid (HB4.out.trans (HBx.out.mono HB4.out.size))
            have hgl := HRW.out.lt
            have hbl := L4.now.1.2.lt
            have HA4 := Lib.hid L4.now.1.1.1.1
            have HG4 := Lib.hid L4.now.1.1.1.2
            have hlen6 : (cs.take k ++ (⟨name, at_⟩ : Cut) :: cs.drop k).length = k + 1 := by rw [List.length_append, List.length_cons, List.length_take, List.length_drop, Hl.out]; omega
            have Hsp := Lib.hid (small_put (c := ⟨name, at_⟩) Hsm.out hs k)
            have Hlen6 := Lib.hid hlen6
            have II := Lib.hid (insertCut_any w2.heap.size k k w4.heap.size cs ⟨name, at_⟩ (w4.alloc (.cells #[.string name, .int .i64 at_] 42)) (HRW.out.next (by exact HBx.out)) (Blk.new w4 _ _) (by omega) hk (by omega))
            clear hlen6 hb4 L4
            cases hbo : cutsOk (cs.take k ++ (⟨name, at_⟩ : Cut) :: cs.drop k) with
            | false =>
              have HR : Hid (cutsPut cs ⟨name, at_⟩ = ([], false)) := Lib.hid (cutsPut_no (by rw [Hgap.out, hbo]; simp))
              go_wp2_with (first
                | (go_at_call 58; go_must (refine II.out.mono ?_; rintro e w6 ⟨rfl, hB6, hg6⟩; have hr6 := blk_row_whole hB6; rw [Hlen6.out] at hr6; have HW6 : Hid (Below w.heap.size w w6) := Lib.hid ((HA4.out.trans (HBx.out.mono HA4.out.size)).grown hg6 (by have := HBx.out.size; omega) (fun q hq => by injection hq with e; omega)); have CV := Lib.hid (cutsValid_any (some ⟨w2.heap.size, 0, none⟩) (k + 1) (k + 1) _ w6 hr6 Hsp.out (by omega) (G0.out.below HW6.out)); rw [hbo] at CV; have HR6 := Lib.hid hr6; clear hB6 hg6 hr6))
                | (go_at_call 24; go_must (refine CV.out.mono ?_; rintro e w7 ⟨rfl, hb7⟩; have HB7 := Lib.hid (HW6.out.trans (hb7.mono HW6.out.size)); have HR7 := Lib.hid (HR6.out.next hb7); clear hb7)))
              go_ret2
              rw [HR.out]
              exact put_no w (HB7.out)
            | true =>
              have HR : Hid (cutsPut cs ⟨name, at_⟩ = (cs.take k ++ (⟨name, at_⟩ : Cut) :: cs.drop k, true)) := Lib.hid (by rw [cutsPut_yes Hok.out Hoc.out (by rw [Hgap.out]; exact hbo), Hgap.out])
              go_wp2_with (first
                | (go_at_call 58; go_must (refine II.out.mono ?_; rintro e w6 ⟨rfl, hB6, hg6⟩; have hr6 := blk_row_whole hB6; rw [Hlen6.out] at hr6; have HW6 : Hid (Below w.heap.size w w6) := Lib.hid ((HA4.out.trans (HBx.out.mono HA4.out.size)).grown hg6 (by have := HBx.out.size; omega) (fun q hq => by injection hq with e; omega)); have CV := Lib.hid (cutsValid_any (some ⟨w2.heap.size, 0, none⟩) (k + 1) (k + 1) _ w6 hr6 Hsp.out (by omega) (G0.out.below HW6.out)); rw [hbo] at CV; have HR6 := Lib.hid hr6; clear hB6 hg6 hr6))
                | (go_at_call 24; go_must (refine CV.out.mono ?_; rintro e w7 ⟨rfl, hb7⟩; have HB7 := Lib.hid (HW6.out.trans (hb7.mono HW6.out.size)); have HR7 := Lib.hid (HR6.out.next hb7); clear hb7)))
              go_ret2
              rw [HR.out]
              exact ⟨_, k + 1, k + 1, rfl, HR7.out, Nat.le_refl _, Lib.hid (fun e => by cases e), HB7.out⟩
end Go.Proofs.YtbcfbkcadceniaaDoor
