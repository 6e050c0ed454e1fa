/- Putting a cut among cuts: the reference's. -/
import Derived.Test.YtbcfbkcadceniaaDoorPutI
namespace Go.Proofs.YtbcfbkcadceniaaDoor
set_option linter.unusedVariables false
set_option linter.unusedSimpArgs false
open Go.RowKit

theorem flat_snoc (l : List Cut) (x : Cut) : (l ++ [x]).flatMap cutCells = l.flatMap cutCells ++ [.string x.name, .int .i64 x.at_] := by rw [List.flatMap_append]; rfl
theorem small_putCs {l : List Cut} {name : ByteArray} {at_ : Int} (h : SmallCuts l) (hc : name.size ≤ maxLen) : SmallCuts (putCs l ⟨name, at_⟩) := fun x hx => by
  unfold putCs cutLt cutGt at hx
  rcases List.mem_append.1 hx with hx | hx
  · exact h x (List.mem_filter.1 hx).1
  · rcases List.mem_cons.1 hx with rfl | hx
    · exact hc
    · exact h x (List.mem_filter.1 hx).1
set_option maxRecDepth 100000 in
set_option maxHeartbeats 8000000 in
theorem cutsPutS_any (A : Option Addr) (n c : Nat) (cs : List Cut) (name : ByteArray) (at_ : Int) (w : World) (h : Row cutCells 2 w w.heap.size A n cs) (hsm : SmallCuts cs) (hs : name.size ≤ maxLen) (hnb : n ≤ 900) :
    Calls Tryd.prog 27 #[.slice A n c, .agg #[.string name, .int .i64 at_]] w (PutRet (cutsPut cs ⟨name, at_⟩) w) := by
  have Hl := Lib.hid h.1
  have H0 := Lib.hid h
  have hb0 : Below w.heap.size w (w.alloc (.cells #[.string name, .int .i64 at_] 42)) := (Below.refl _ _).alloc (Nat.le_refl _) _
  have L : Live (w.alloc (.cells #[.string name, .int .i64 at_] 42)) fun W => (Below w.heap.size w W ∧ Row cutCells 2 W W.heap.size A n cs) ∧ Blk W w.heap.size 42 #[.string name, .int .i64 at_] := ((Live.since hb0).and (Live.row (h.next hb0))).and (Live.blk (Blk.new w _ _))
  have V1 := Lib.hid (fun W H => cutsValidS_any A n c cs W H hsm (by omega))
  have V2 := Lib.hid (fun W (g : Nat) (H : Row cutCells 2 W W.heap.size (some ⟨g, 0, none⟩) 1 [⟨name, at_⟩]) => cutsValidS_any (some ⟨g, 0, none⟩) 1 1 [⟨name, at_⟩] W H (fun x hx => by rw [List.mem_singleton] at hx; rw [hx]; exact hs) (by omega))
  have R1 : Hid (∀ W : World, Row cutCells 2 (W.alloc (.cells #[.string name, .int .i64 at_] 42)) (W.alloc (.cells #[.string name, .int .i64 at_] 42)).heap.size (some ⟨W.heap.size, 0, none⟩) 1 [⟨name, at_⟩]) := Lib.hid (fun W => blk_row_whole (l := [⟨name, at_⟩]) (Blk.new W _ _))
  have Hsm := Lib.hid hsm
  clear h hb0 hsm
  rw [cutsOk_one] at V2
  cases h1 : cutsOk cs with
  | false =>
    have Hr := Lib.hid (cutsPut_no (l := cs) (c := ⟨name, at_⟩) (by rw [h1]; rfl))
    rw [h1] at V1
    go_enter Tryd.func27, Tryd.ntmps27
    go_wp2_with (go_at_call 20; refine (V1.out _ L.now.1.2).mono ?_; rintro e w1 ⟨rfl, hb1⟩; have L1 := L.next hb1)
    go_ret2
    rw [Hr.out]
    exact put_no w L1.now.1.1
  | true =>
    rw [h1] at V1
    cases h2 : cutOne ⟨name, at_⟩ with
    | false =>
      have Hr := Lib.hid (cutsPut_no (l := cs) (c := ⟨name, at_⟩) (by rw [h2]; simp))
      rw [h2] at V2
      go_enter Tryd.func27, Tryd.ntmps27
      go_wp2_with (first
        | (go_at_call 20; (with_reducible refine (V1.out _ L.now.1.2).mono ?_); (rintro e w1 ⟨rfl, hb1⟩; have L1 := L.next hb1; have c0 := L1.now.2.cell 0; have c1 := L1.now.2.cell 1))
        | (go_at_call 20; (with_reducible refine (V2.out _ _ (R1.out _)).mono ?_); (rintro e w2 ⟨rfl, hb2⟩; have L2 := (L1.next ((Below.refl _ _).alloc (Nat.le_refl _) (.cells #[.string name, .int .i64 at_] 42))).next hb2)))
      go_ret2
      rw [Hr.out]
      exact put_no w L2.now.1.1
    | true =>
      rw [h2] at V2
      have Hso := Lib.hid (sorted_cs h1)
      have Hok := Lib.hid h1
      have Hoc := Lib.hid h2
      have KF := Lib.hid (fun W H => l23From_any A n c cs name W H (by omega))
      clear h1 h2
      go_enter Tryd.func27, Tryd.ntmps27
      go_wp2_with (first
        | (go_at_call 20; (with_reducible refine (V1.out _ L.now.1.2).mono ?_); (rintro e w1 ⟨rfl, hb1⟩; have L1 := L.next hb1; have c0 := L1.now.2.cell 0; have c1 := L1.now.2.cell 1))
        | (go_at_call 20; (with_reducible refine (V2.out _ _ (R1.out _)).mono ?_); (rintro e w2 ⟨rfl, hb2⟩; have L2 := (L1.next ((Below.refl _ _).alloc (Nat.le_refl _) (.cells #[.string name, .int .i64 at_] 42))).next hb2; have d0 := L2.now.2.cell 0; have d1 := L2.now.2.cell 1; have df := L2.now.2.frozen 1)))
      -- the loop
      clear V1 V2 R1 L L1 hb1 hb2 c0 c1
      have K1 : Hid (Calls Tryd.prog 49 #[.slice A n c, .string name] w2.drew (fun e w' => e = .returned (.int .i64 (cutFrom cs name)) ∧ w2.drew = w')) := Lib.hid (KF.out w2.drew L2.now.1.2)
      have q0 : w2.drew.cell? ⟨w.heap.size, 0, none⟩ = some (.string name) := L2.now.2.cell 0
      have q1 : w2.drew.cell? ⟨w.heap.size, 1, none⟩ = some (.int .i64 at_) := L2.now.2.cell 1
      have qf : w2.drew.frozen? ⟨w.heap.size, 1, none⟩ = false := L2.now.2.frozen 1
      have HB2 := Lib.hid (L2.now.2)
      have HA2 := Lib.hid (L2.now.1.1)
      have HR2 := Lib.hid (L2.now.1.2)
      go_region_law (go_simp; go_at_call 49; (with_reducible refine K1.out.mono ?_); (rintro e w9 ⟨rfl, rfl⟩))
      all_goals
        have hz : w.heap.size < w2.heap.size := HB2.out.lt
        obtain ⟨w3, hw3⟩ : ∃ w3, w2.setCell ⟨w.heap.size, 1, none⟩ (.int .i64 (max at_ (cutFrom cs name))) = w3 := ⟨_, rfl⟩
        have hz3 : w2.heap.size = w3.heap.size := by rw [← hw3]; simp
        have B3 : Blk w3 w.heap.size 42 #[.string name, .int .i64 (max at_ (cutFrom cs name))] := by rw [← hw3]; exact HB2.out.set_ 1 _
        have A3 : Below w.heap.size w w3 := by rw [← hw3]; exact HA2.out.setCell (p := ⟨w.heap.size, 1, none⟩) (Nat.le_refl _) _
        have R3 : Row cutCells 2 w3 w3.heap.size A n cs := (H0.out.below A3).more A3.size
        have L3 : Live w3 fun W => (Below w.heap.size w W ∧ Row cutCells 2 W W.heap.size A n cs) ∧ Blk W w.heap.size 42 #[.string name, .int .i64 (max at_ (cutFrom cs name))] := ((Live.since A3).and (Live.row R3)).and (Live.blk B3)
        have O3 : (w3.alloc (.cells #[] 42)).ownsRow w3.heap.size 42 2 (.slice (some ⟨w3.heap.size, 0, none⟩) 0 0) 0 [] := World.ownsRow_lit w3 #[] 0 (Nat.le_refl _) (Nat.zero_le _) rfl
        have HO3 := Lib.hid O3
        have HZ := Lib.hid hz3
        have HW := Lib.hid hw3
        clear B3 A3 R3 q0 q1 qf K1 HB2 HA2 HR2 L2 d0 d1 df hw3 hz3 O3
        go_wp2_with fail
        rw [HW.out, HZ.out]
        go_loopw [6, 7, 8] (fun v d i wr => ∃ (k : Nat) (bd : Bool) (L : List Cut), k ≤ n ∧ i = .int .i64 (k : Int) ∧ d = .bool bd ∧ Hid (putOutC cs (⟨name, max at_ (cutFrom cs name)⟩ : Cut) bd k = L) ∧ Hid (PutIsC cs (⟨name, max at_ (cutFrom cs name)⟩ : Cut) bd k) ∧ wr.ownsRow w3.heap.size 42 2 v L.length (L.flatMap cutCells) ∧ Hid (Below w3.heap.size w3 wr)) (fun _ _ i _ => n - (intOf i).toNat)
        case atStart => exact ⟨0, false, [], Nat.zero_le _, rfl, rfl, Lib.hid rfl, Lib.hid (fun x hx => by cases hx), HO3.out, Lib.hid (((Below.refl _ _).alloc (Nat.le_refl _) _).drew)⟩
        case round =>
          obtain ⟨k, bd, L, hk, rfl, rfl, HL, HP, hown, HBW⟩ := hrel
          have hLk := putOutC_len cs (⟨name, max at_ (cutFrom cs name)⟩ : Cut) bd k
          rw [HL.out] at hLk
          have HO := Lib.hid hown
          clear hown
          by_cases hlt : k < n
          · have hlt' : (k : Int) < (n : Int) := by omega
            have hkl : k < cs.length := by rw [Hl.out]; exact hlt
            obtain ⟨b, off, rfl, hb, -⟩ := (L3.next HBW.out).now.1.2.cut_at (by omega)
            cases bd with
            | false =>
              by_cases hl : ltB (nx cs k).name name = true
              ·
                obtain ⟨p1, p2⟩ := putC_a (c := (⟨name, max at_ (cutFrom cs name)⟩ : Cut)) hkl HP.out hl
                rw [HL.out] at p2
                have P1 := Lib.hid p1
                have P2 := Lib.hid p2
                clear p1 p2
                have e1 : Op.bytesLess (nx cs k).name.toList name.toList = true := hl
                have e2 : ((nx cs k).name.toList == name.toList) = false := toList_ne (ltB_ne hl)
                clear hl
                have e0 := fun x : On wr => (show x.W.cell? ⟨b, off + k * 2, none⟩ = some (.string (nx cs k).name) from ((L3.next (HBW.out.trans (x.below.mono HBW.out.size))).now.1.2.cut_at2 k hlt).1)
                have s0 := fun x : On wr => (show x.W.cell? ⟨w.heap.size, 0, none⟩ = some (.string name) from (L3.next (HBW.out.trans (x.below.mono HBW.out.size))).now.2.cell 0)
                go_wp2_with fail
                refine wp_region_on (by kernel_rfl) (by kernel_rfl) ?_
                repeat (go_big_quiet_step (fail))
                refine wpQuiet_nil ?_
                intro w4 hw'
                obtain ⟨⟨w4b, hb4⟩, hw''⟩ := hw'
                obtain rfl : w4 = w4b := hw''
                have HB4 := Lib.hid (HBW.out.trans (hb4.mono HBW.out.size))
                have O4 := Lib.hid (own_next HO.out hb4)
                clear e0 s0
                have p0 := ((L3.next HB4.out).now.1.2.cut_at2 k hlt).1
                have p1 := ((L3.next HB4.out).now.1.2.cut_at2 k hlt).2
                have b0 := (L3.next HB4.out).now.2.cell 0
                have b1 := (L3.next HB4.out).now.2.cell 1
                have e0 := fun x : On w4 => (show x.W.cell? ⟨b, off + k * 2, none⟩ = some (.string (nx cs k).name) from ((L3.next (HB4.out.trans (x.below.mono HB4.out.size))).now.1.2.cut_at2 k hlt).1)
                have s0 := fun x : On w4 => (show x.W.cell? ⟨w.heap.size, 0, none⟩ = some (.string name) from (L3.next (HB4.out.trans (x.below.mono HB4.out.size))).now.2.cell 0)
                go_wp2_with fail
                refine wp_region_on (by kernel_rfl) (by kernel_rfl) ?_
                repeat (go_big_quiet_step (fail))
                refine wpQuiet_nil ?_
                intro w5 hw'
                obtain ⟨⟨w5b, hb5⟩, hw''⟩ := hw'
                obtain rfl : w5 = w5b := hw''
                have HB5 := Lib.hid (HB4.out.trans (hb5.mono HB4.out.size))
                have O5 := Lib.hid (own_next O4.out hb5)
                clear e0 s0 p0 p1 b0 b1
                have p0 := ((L3.next HB5.out).now.1.2.cut_at2 k hlt).1
                have p1 := ((L3.next HB5.out).now.1.2.cut_at2 k hlt).2
                have b0 := (L3.next HB5.out).now.2.cell 0
                have b1 := (L3.next HB5.out).now.2.cell 1
                go_wp2_with (at_builtin; go_must (refine app_one elemCut w5 rfl _ _ rfl w3.heap.size _ (L).length ((L).flatMap cutCells) rfl (by exact O5.out) [.string (nx cs k).name, .int .i64 (nx cs k).at_] rfl rfl ?_ ?_ ?_ ?_); (intro u hu; simp at hu; rcases hu with rfl | rfl <;> rfl); (first | omega | (simp only [List.length_append, List.length_cons, List.length_nil]; omega)); exact HB5.out.size; intro v' w9 own9 grow9 or9)
                have HBa5 := Lib.hid (own_below' O5.out (Nat.le_refl _) HB5.out HB5.out.size grow9)
                have Oa5 : Hid (w9.ownsRow w3.heap.size 42 2 v' (L ++ [(nx cs k : Cut)]).length ((L ++ [(nx cs k : Cut)]).flatMap cutCells)) := Lib.hid (by rw [flat_snoc, List.length_append]; exact own9)
                clear own9 grow9 or9 p0 p1 b0 b1
                go_roundw
                case rel => exact ⟨k + 1, false, L ++ [(nx cs k : Cut)], by omega, by go_num, rfl, Lib.hid (by rw [P2.out]), P1, Oa5.out, HBa5⟩
                case measure => simp [intOf]; omega
              · have e1 : Op.bytesLess (nx cs k).name.toList name.toList = false := by simpa [ltB] using hl
                by_cases he : (nx cs k).name = name
                ·
                  obtain ⟨p1, p2⟩ := putC_b (c := (⟨name, max at_ (cutFrom cs name)⟩ : Cut)) hkl HP.out he
                  rw [HL.out] at p2
                  have P1 := Lib.hid p1
                  have P2 := Lib.hid p2
                  clear p1 p2
                  have e2 : ((nx cs k).name.toList == name.toList) = true := by rw [he]; exact beq_self_eq_true _
                  clear hl he
                  have e0 := fun x : On wr => (show x.W.cell? ⟨b, off + k * 2, none⟩ = some (.string (nx cs k).name) from ((L3.next (HBW.out.trans (x.below.mono HBW.out.size))).now.1.2.cut_at2 k hlt).1)
                  have s0 := fun x : On wr => (show x.W.cell? ⟨w.heap.size, 0, none⟩ = some (.string name) from (L3.next (HBW.out.trans (x.below.mono HBW.out.size))).now.2.cell 0)
                  go_wp2_with fail
                  refine wp_region_on (by kernel_rfl) (by kernel_rfl) ?_
                  repeat (go_big_quiet_step (fail))
                  refine wpQuiet_nil ?_
                  intro w4 hw'
                  obtain ⟨⟨w4b, hb4⟩, hw''⟩ := hw'
                  obtain rfl : w4 = w4b := hw''
                  have HB4 := Lib.hid (HBW.out.trans (hb4.mono HBW.out.size))
                  have O4 := Lib.hid (own_next HO.out hb4)
                  clear e0 s0
                  have p0 := ((L3.next HB4.out).now.1.2.cut_at2 k hlt).1
                  have p1 := ((L3.next HB4.out).now.1.2.cut_at2 k hlt).2
                  have b0 := (L3.next HB4.out).now.2.cell 0
                  have b1 := (L3.next HB4.out).now.2.cell 1
                  go_wp2_with (at_builtin; go_must (refine app_one elemCut w4 rfl _ _ rfl w3.heap.size _ (L).length ((L).flatMap cutCells) rfl (by exact O4.out) [.string name, .int .i64 (max at_ (cutFrom cs name))] rfl rfl ?_ ?_ ?_ ?_); (intro u hu; simp at hu; rcases hu with rfl | rfl <;> rfl); (first | omega | (simp only [List.length_append, List.length_cons, List.length_nil]; omega)); exact HB4.out.size; intro v' w9 own9 grow9 or9)
                  have HBa4 := Lib.hid (own_below' O4.out (Nat.le_refl _) HB4.out HB4.out.size grow9)
                  have Oa4 : Hid (w9.ownsRow w3.heap.size 42 2 v' (L ++ [(⟨name, max at_ (cutFrom cs name)⟩ : Cut)]).length ((L ++ [(⟨name, max at_ (cutFrom cs name)⟩ : Cut)]).flatMap cutCells)) := Lib.hid (by rw [flat_snoc, List.length_append]; exact own9)
                  clear own9 grow9 or9 p0 p1 b0 b1
                  have e0 := fun x : On w9 => (show x.W.cell? ⟨b, off + k * 2, none⟩ = some (.string (nx cs k).name) from ((L3.next (HBa4.out.trans (x.below.mono HBa4.out.size))).now.1.2.cut_at2 k hlt).1)
                  have s0 := fun x : On w9 => (show x.W.cell? ⟨w.heap.size, 0, none⟩ = some (.string name) from (L3.next (HBa4.out.trans (x.below.mono HBa4.out.size))).now.2.cell 0)
                  go_wp2_with fail
                  refine wp_region_on (by kernel_rfl) (by kernel_rfl) ?_
                  repeat (go_big_quiet_step (fail))
                  refine wpQuiet_nil ?_
                  intro w6 hw'
                  obtain ⟨⟨w6b, hb6⟩, hw''⟩ := hw'
                  obtain rfl : w6 = w6b := hw''
                  have HB6 := Lib.hid (HBa4.out.trans (hb6.mono HBa4.out.size))
                  have O6 := Lib.hid (own_next Oa4.out hb6)
                  clear e0 s0
                  go_wp2_with fail
                  go_roundw
                  case rel => exact ⟨k + 1, true, L ++ [(⟨name, max at_ (cutFrom cs name)⟩ : Cut)], by omega, by go_num, rfl, Lib.hid (by rw [P2.out]), P1, O6.out, HB6⟩
                  case measure => simp [intOf]; omega
                ·
                  obtain ⟨p1, p2⟩ := putC_b2 (c := (⟨name, max at_ (cutFrom cs name)⟩ : Cut)) hkl HP.out ((ltB_tri (nx cs k).name name).elim (fun h => absurd h hl) (fun h => h.elim (fun h => absurd h he) id))
                  rw [HL.out] at p2
                  have P1 := Lib.hid p1
                  have P2 := Lib.hid p2
                  clear p1 p2
                  have e2 : ((nx cs k).name.toList == name.toList) = false := toList_ne he
                  clear hl he
                  have e0 := fun x : On wr => (show x.W.cell? ⟨b, off + k * 2, none⟩ = some (.string (nx cs k).name) from ((L3.next (HBW.out.trans (x.below.mono HBW.out.size))).now.1.2.cut_at2 k hlt).1)
                  have s0 := fun x : On wr => (show x.W.cell? ⟨w.heap.size, 0, none⟩ = some (.string name) from (L3.next (HBW.out.trans (x.below.mono HBW.out.size))).now.2.cell 0)
                  go_wp2_with fail
                  refine wp_region_on (by kernel_rfl) (by kernel_rfl) ?_
                  repeat (go_big_quiet_step (fail))
                  refine wpQuiet_nil ?_
                  intro w4 hw'
                  obtain ⟨⟨w4b, hb4⟩, hw''⟩ := hw'
                  obtain rfl : w4 = w4b := hw''
                  have HB4 := Lib.hid (HBW.out.trans (hb4.mono HBW.out.size))
                  have O4 := Lib.hid (own_next HO.out hb4)
                  clear e0 s0
                  have p0 := ((L3.next HB4.out).now.1.2.cut_at2 k hlt).1
                  have p1 := ((L3.next HB4.out).now.1.2.cut_at2 k hlt).2
                  have b0 := (L3.next HB4.out).now.2.cell 0
                  have b1 := (L3.next HB4.out).now.2.cell 1
                  go_wp2_with (at_builtin; go_must (refine app_one elemCut w4 rfl _ _ rfl w3.heap.size _ (L).length ((L).flatMap cutCells) rfl (by exact O4.out) [.string name, .int .i64 (max at_ (cutFrom cs name))] rfl rfl ?_ ?_ ?_ ?_); (intro u hu; simp at hu; rcases hu with rfl | rfl <;> rfl); (first | omega | (simp only [List.length_append, List.length_cons, List.length_nil]; omega)); exact HB4.out.size; intro v' w9 own9 grow9 or9)
                  have HBa4 := Lib.hid (own_below' O4.out (Nat.le_refl _) HB4.out HB4.out.size grow9)
                  have Oa4 : Hid (w9.ownsRow w3.heap.size 42 2 v' (L ++ [(⟨name, max at_ (cutFrom cs name)⟩ : Cut)]).length ((L ++ [(⟨name, max at_ (cutFrom cs name)⟩ : Cut)]).flatMap cutCells)) := Lib.hid (by rw [flat_snoc, List.length_append]; exact own9)
                  clear own9 grow9 or9 p0 p1 b0 b1
                  have p0 := ((L3.next HBa4.out).now.1.2.cut_at2 k hlt).1
                  have p1 := ((L3.next HBa4.out).now.1.2.cut_at2 k hlt).2
                  have b0 := (L3.next HBa4.out).now.2.cell 0
                  have b1 := (L3.next HBa4.out).now.2.cell 1
                  have e0 := fun x : On w9 => (show x.W.cell? ⟨b, off + k * 2, none⟩ = some (.string (nx cs k).name) from ((L3.next (HBa4.out.trans (x.below.mono HBa4.out.size))).now.1.2.cut_at2 k hlt).1)
                  have s0 := fun x : On w9 => (show x.W.cell? ⟨w.heap.size, 0, none⟩ = some (.string name) from (L3.next (HBa4.out.trans (x.below.mono HBa4.out.size))).now.2.cell 0)
                  go_wp2_with fail
                  refine wp_region_on (by kernel_rfl) (by kernel_rfl) ?_
                  repeat (go_big_quiet_step (fail))
                  refine wpQuiet_nil ?_
                  intro w6 hw'
                  obtain ⟨⟨w6b, hb6⟩, hw''⟩ := hw'
                  obtain rfl : w6 = w6b := hw''
                  have HB6 := Lib.hid (HBa4.out.trans (hb6.mono HBa4.out.size))
                  have O6 := Lib.hid (own_next Oa4.out hb6)
                  clear e0 s0 p0 p1 b0 b1
                  have p0 := ((L3.next HB6.out).now.1.2.cut_at2 k hlt).1
                  have p1 := ((L3.next HB6.out).now.1.2.cut_at2 k hlt).2
                  have b0 := (L3.next HB6.out).now.2.cell 0
                  have b1 := (L3.next HB6.out).now.2.cell 1
                  go_wp2_with (at_builtin; go_must (refine app_one elemCut w6 rfl _ _ rfl w3.heap.size _ (L ++ [(⟨name, max at_ (cutFrom cs name)⟩ : Cut)]).length ((L ++ [(⟨name, max at_ (cutFrom cs name)⟩ : Cut)]).flatMap cutCells) rfl (by exact O6.out) [.string (nx cs k).name, .int .i64 (nx cs k).at_] rfl rfl ?_ ?_ ?_ ?_); (intro u hu; simp at hu; rcases hu with rfl | rfl <;> rfl); (first | omega | (simp only [List.length_append, List.length_cons, List.length_nil]; omega)); exact HB6.out.size; intro v'b w9b own9b grow9b or9b)
                  have HBa6 := Lib.hid (own_below' O6.out (Nat.le_refl _) HB6.out HB6.out.size grow9b)
                  have Oa6 : Hid (w9b.ownsRow w3.heap.size 42 2 v'b (L ++ [(⟨name, max at_ (cutFrom cs name)⟩ : Cut)] ++ [(nx cs k : Cut)]).length ((L ++ [(⟨name, max at_ (cutFrom cs name)⟩ : Cut)] ++ [(nx cs k : Cut)]).flatMap cutCells)) := Lib.hid (by rw [flat_snoc, List.length_append]; exact own9b)
                  clear own9b grow9b or9b p0 p1 b0 b1
                  go_roundw
                  case rel => exact ⟨k + 1, true, L ++ [(⟨name, max at_ (cutFrom cs name)⟩ : Cut)] ++ [(nx cs k : Cut)], by omega, by go_num, rfl, Lib.hid (by rw [P2.out]), P1, Oa6.out, HBa6⟩
                  case measure => simp [intOf]; omega
            | true =>
              have hcc := (putC_c (c := (⟨name, max at_ (cutFrom cs name)⟩ : Cut)) Hso.out hkl HP.out)
              have e2 : ((nx cs k).name.toList == name.toList) = false := toList_ne (fun e => ltB_ne hcc.1 e.symm)
              obtain ⟨p1, p2⟩ := hcc.2
              rw [HL.out] at p2
              have P1 := Lib.hid p1
              have P2 := Lib.hid p2
              clear p1 p2
              clear hcc
              have e0 := fun x : On wr => (show x.W.cell? ⟨b, off + k * 2, none⟩ = some (.string (nx cs k).name) from ((L3.next (HBW.out.trans (x.below.mono HBW.out.size))).now.1.2.cut_at2 k hlt).1)
              have s0 := fun x : On wr => (show x.W.cell? ⟨w.heap.size, 0, none⟩ = some (.string name) from (L3.next (HBW.out.trans (x.below.mono HBW.out.size))).now.2.cell 0)
              go_wp2_with fail
              refine wp_region_on (by kernel_rfl) (by kernel_rfl) ?_
              repeat (go_big_quiet_step (fail))
              refine wpQuiet_nil ?_
              intro w4 hw'
              obtain ⟨⟨w4b, hb4⟩, hw''⟩ := hw'
              obtain rfl : w4 = w4b := hw''
              have HB4 := Lib.hid (HBW.out.trans (hb4.mono HBW.out.size))
              have O4 := Lib.hid (own_next HO.out hb4)
              clear e0 s0
              have p0 := ((L3.next HB4.out).now.1.2.cut_at2 k hlt).1
              have p1 := ((L3.next HB4.out).now.1.2.cut_at2 k hlt).2
              have b0 := (L3.next HB4.out).now.2.cell 0
              have b1 := (L3.next HB4.out).now.2.cell 1
              have e0 := fun x : On w4 => (show x.W.cell? ⟨b, off + k * 2, none⟩ = some (.string (nx cs k).name) from ((L3.next (HB4.out.trans (x.below.mono HB4.out.size))).now.1.2.cut_at2 k hlt).1)
              have s0 := fun x : On w4 => (show x.W.cell? ⟨w.heap.size, 0, none⟩ = some (.string name) from (L3.next (HB4.out.trans (x.below.mono HB4.out.size))).now.2.cell 0)
              go_wp2_with fail
              refine wp_region_on (by kernel_rfl) (by kernel_rfl) ?_
              repeat (go_big_quiet_step (fail))
              refine wpQuiet_nil ?_
              intro w5 hw'
              obtain ⟨⟨w5b, hb5⟩, hw''⟩ := hw'
              obtain rfl : w5 = w5b := hw''
              have HB5 := Lib.hid (HB4.out.trans (hb5.mono HB4.out.size))
              have O5 := Lib.hid (own_next O4.out hb5)
              clear e0 s0 p0 p1 b0 b1
              have p0 := ((L3.next HB5.out).now.1.2.cut_at2 k hlt).1
              have p1 := ((L3.next HB5.out).now.1.2.cut_at2 k hlt).2
              have b0 := (L3.next HB5.out).now.2.cell 0
              have b1 := (L3.next HB5.out).now.2.cell 1
              go_wp2_with (at_builtin; go_must (refine app_one elemCut w5 rfl _ _ rfl w3.heap.size _ (L).length ((L).flatMap cutCells) rfl (by exact O5.out) [.string (nx cs k).name, .int .i64 (nx cs k).at_] rfl rfl ?_ ?_ ?_ ?_); (intro u hu; simp at hu; rcases hu with rfl | rfl <;> rfl); (first | omega | (simp only [List.length_append, List.length_cons, List.length_nil]; omega)); exact HB5.out.size; intro v' w9 own9 grow9 or9)
              have HBa5 := Lib.hid (own_below' O5.out (Nat.le_refl _) HB5.out HB5.out.size grow9)
              have Oa5 : Hid (w9.ownsRow w3.heap.size 42 2 v' (L ++ [(nx cs k : Cut)]).length ((L ++ [(nx cs k : Cut)]).flatMap cutCells)) := Lib.hid (by rw [flat_snoc, List.length_append]; exact own9)
              clear own9 grow9 or9 p0 p1 b0 b1
              go_roundw
              case rel => exact ⟨k + 1, true, L ++ [(nx cs k : Cut)], by omega, by go_num, rfl, Lib.hid (by rw [P2.out]), P1, Oa5.out, HBa5⟩
              case measure => simp [intOf]; omega
          · obtain rfl : k = n := by omega
            have hlt' : ¬ (k : Int) < (k : Int) := by omega
            cases bd with
            | true =>
              have he := putC_end_yes (l := cs) (c := (⟨name, max at_ (cutFrom cs name)⟩ : Cut))
              rw [Hl.out, HL.out] at he
              have he2 : L = putCs cs ⟨name, at_⟩ := he
              clear he
              subst he2
              obtain ⟨A', c', rfl, hnc, hnil, hrow, hbase⟩ := Row.of_own HO.out rfl
              have Hn := Lib.hid hnil
              have HRow := Lib.hid hrow
              have HWB : Hid (Below w.heap.size w wr) := Lib.hid (L3.next HBW.out).now.1.1
              have CV := Lib.hid (cutsValidS_any A' (putCs cs ⟨name, at_⟩).length c' (putCs cs ⟨name, at_⟩) wr hrow (small_putCs Hsm.out hs) (by omega))
              clear hrow hnil hbase
              cases hbo : cutsOk (putCs cs ⟨name, at_⟩) with
              | false =>
                have HR : Hid (cutsPut cs ⟨name, at_⟩ = ([], false)) := Lib.hid (cutsPut_no (by rw [hbo]; simp))
                rw [hbo] at CV
                go_wp2_with (go_at_call 20; go_must (refine CV.out.mono ?_; rintro e wf ⟨rfl, hbf⟩))
                go_ret2
                rw [HR.out]
                exact put_no w (HWB.out.trans (hbf.mono HWB.out.size))
              | true =>
                have HR : Hid (cutsPut cs ⟨name, at_⟩ = (putCs cs ⟨name, at_⟩, true)) := Lib.hid (cutsPut_yes Hok.out Hoc.out hbo)
                rw [hbo] at CV
                go_wp2_with (go_at_call 20; go_must (refine CV.out.mono ?_; rintro e wf ⟨rfl, hbf⟩))
                go_ret2
                rw [HR.out]
                exact ⟨A', _, c', rfl, HRow.out.next hbf, hnc, Hn, HWB.out.trans (hbf.mono HWB.out.size)⟩
            | false =>
              have he := putC_end_no (l := cs) (c := (⟨name, max at_ (cutFrom cs name)⟩ : Cut)) (by rw [Hl.out]; exact HP.out)
              rw [Hl.out, HL.out] at he
              have he2 : L ++ [(⟨name, max at_ (cutFrom cs name)⟩ : Cut)] = putCs cs ⟨name, at_⟩ := he
              have He2 := Lib.hid he2
              clear he he2
              have b0 := (L3.next HBW.out).now.2.cell 0
              have b1 := (L3.next HBW.out).now.2.cell 1
              go_wp2_with (at_builtin; go_must (refine app_one elemCut wr rfl _ _ rfl w3.heap.size _ (L).length ((L).flatMap cutCells) rfl (by exact HO.out) [.string name, .int .i64 (max at_ (cutFrom cs name))] rfl rfl ?_ ?_ ?_ ?_); (intro u hu; simp at hu; rcases hu with rfl | rfl <;> rfl); (first | omega | (simp only [List.length_append, List.length_cons, List.length_nil]; omega)); exact HBW.out.size; intro v' w9 own9 grow9 or9)
              have HBa := Lib.hid (own_below' HO.out (Nat.le_refl _) HBW.out HBW.out.size grow9)
              have hPl : (putCs cs ⟨name, at_⟩).length ≤ 2 * k + 2 := by rw [← He2.out, List.length_append, List.length_singleton]; omega
              have Oa : Hid (w9.ownsRow w3.heap.size 42 2 v' (putCs cs ⟨name, at_⟩).length ((putCs cs ⟨name, at_⟩).flatMap cutCells)) := Lib.hid (by rw [← He2.out, flat_snoc, List.length_append]; exact own9)
              clear own9 grow9 or9 b0 b1
              obtain ⟨A', c', rfl, hnc, hnil, hrow, hbase⟩ := Row.of_own Oa.out rfl
              have Hn := Lib.hid hnil
              have HRow := Lib.hid hrow
              have HWB : Hid (Below w.heap.size w w9) := Lib.hid (L3.next HBa.out).now.1.1
              have CV := Lib.hid (cutsValidS_any A' (putCs cs ⟨name, at_⟩).length c' (putCs cs ⟨name, at_⟩) w9 hrow (small_putCs Hsm.out hs) (by omega))
              clear hrow hnil hbase
              cases hbo : cutsOk (putCs cs ⟨name, at_⟩) with
              | false =>
                have HR : Hid (cutsPut cs ⟨name, at_⟩ = ([], false)) := Lib.hid (cutsPut_no (by rw [hbo]; simp))
                rw [hbo] at CV
                go_wp2_with (go_at_call 20; go_must (refine CV.out.mono ?_; rintro e wf ⟨rfl, hbf⟩))
                go_ret2
                rw [HR.out]
                exact put_no w (HWB.out.trans (hbf.mono HWB.out.size))
              | true =>
                have HR : Hid (cutsPut cs ⟨name, at_⟩ = (putCs cs ⟨name, at_⟩, true)) := Lib.hid (cutsPut_yes Hok.out Hoc.out hbo)
                rw [hbo] at CV
                go_wp2_with (go_at_call 20; go_must (refine CV.out.mono ?_; rintro e wf ⟨rfl, hbf⟩))
                go_ret2
                rw [HR.out]
                exact ⟨A', _, c', rfl, HRow.out.next hbf, hnc, Hn, HWB.out.trans (hbf.mono HWB.out.size)⟩
end Go.Proofs.YtbcfbkcadceniaaDoor
