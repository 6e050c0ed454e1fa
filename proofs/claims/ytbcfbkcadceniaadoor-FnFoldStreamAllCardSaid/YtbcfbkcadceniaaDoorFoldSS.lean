/- Folds of streams: the reference's. -/
import Derived.Test.YtbcfbkcadceniaaDoorFoldI
import Derived.Test.YtbcfbkcadceniaaDoorFoldSV
import Derived.Test.YtbcfbkcadceniaaDoorFoldS
namespace Go.Proofs.YtbcfbkcadceniaaDoor
set_option linter.unusedVariables false
set_option linter.unusedSimpArgs false
open Go.RowKit

theorem foldGood_len {xs : List En} {s : ByteArray} {f : Fd} (h : ¬ f.ver + 1 ≤ (streamOf xs s).length) : foldGood xs s f = false := by
  unfold foldGood
  rw [decide_eq_false h]; simp
theorem below_undrew_f {w w' : World} (h : Below w.drew.heap.size w.drew w') : Below w.heap.size w w' := ⟨h.os, h.tape, h.output, h.size, h.block⟩
theorem drop_row_f {W : World} {A : Option Addr} {k c f : Nat} {st : List Ev} (H : Row evCells 3 W W.heap.size A k st) (hc : k ≤ c) (hk : st.length = k) (hlo : f ≤ k) : Row evCells 3 W W.heap.size (if c = f then A else Option.map (fun x => x.add (f * 3)) A) (k - f) (st.drop f) := by
  have h1 := H.cut (cap := c) evCells_len f k (by omega) (Nat.le_refl _) hc
  have e : (st.drop f).take (k - f) = st.drop f := List.take_of_length_le (by rw [List.length_drop, hk]; omega)
  rw [e] at h1
  exact h1
set_option maxRecDepth 100000 in
set_option maxHeartbeats 8000000 in
theorem foldStreamS_any (A : Option Addr) (n c : Nat) (xs : List En) (s : ByteArray) (ver sum : Int) (last : ByteArray) (w : World) (h : Row enCells 4 w w.heap.size A n xs) (hE : ∀ x ∈ xs, EnB x) (hs : s.size ≤ maxLen) (hf : FdS ⟨ver, sum, last⟩) (hnb : n ≤ 1000) :
    Calls Tryd.prog 31 #[.slice A n c, .string s, .agg #[.int .i64 ver, .int .i64 sum, .string last]] w (FsRet (foldStream xs s ⟨ver, sum, last⟩) w) := by
  have Hl := Lib.hid h.1
  have HE := Lib.hid hE
  have HF := Lib.hid hf
  have Hsl := Lib.hid (streamOf_len xs s)
  have hb0 : Below w.heap.size w ((w.alloc (.cells #[.int .i64 ver, .int .i64 sum, .string last] 50)).alloc (.cells #[.int .i64 0, .int .i64 0, .string ⟨#[]⟩] 50)) := ((Below.refl _ _).alloc (Nat.le_refl _) _).alloc (by simp) _
  have L : Live ((w.alloc (.cells #[.int .i64 ver, .int .i64 sum, .string last] 50)).alloc (.cells #[.int .i64 0, .int .i64 0, .string ⟨#[]⟩] 50)) fun W => ((Below w.heap.size w W ∧ Row enCells 4 W W.heap.size A n xs) ∧ Blk W w.heap.size 50 #[.int .i64 ver, .int .i64 sum, .string last]) ∧ Blk W (w.heap.size + 1) 50 #[.int .i64 0, .int .i64 0, .string ⟨#[]⟩] :=
    (((Live.since hb0).and (Live.row (h.next hb0))).and (Live.blk ((Blk.new w _ _).alloc _))).and (Live.blk (by have := Blk.new (w.alloc (.cells #[.int .i64 ver, .int .i64 sum, .string last] 50)) 50 #[.int .i64 0, .int .i64 0, .string ⟨#[]⟩]; simpa using this))
  have V1 := Lib.hid (fun W H => storeValidS_any A n c xs W H (EnB.small hE) (by omega))
  have V2 := Lib.hid (fun W => nameValidS_any s W hs)
  have V3 := Lib.hid (fun W => foldValidS_any ver sum last W hf.big)
  clear h hE hb0
  cases h1 : storeOk xs with
  | false =>
    have Hr := Lib.hid (foldStream_no (xs := xs) (s := s) (f := ⟨ver, sum, last⟩) (by rw [show foldGood xs s ⟨ver, sum, last⟩ = false from by unfold foldGood; rw [h1]; rfl]; rfl))
    rw [h1] at V1
    go_enter Tryd.func31, Tryd.ntmps31
    go_wp2_with (first
      | (go_at_call 19; refine (V1.out _ L.now.1.1.2).mono ?_; rintro e w1 ⟨rfl, hb1⟩; have L1 := L.next hb1; have z0 := L1.now.2.cell 0; have z1 := L1.now.2.cell 1; have z2 := L1.now.2.cell 2; have y0 := L1.now.2.frozen 0; have y1 := L1.now.2.frozen 1; have y2 := L1.now.2.frozen 2))
    refine bodyPost_ret (v := .tuple #[.agg #[.int .i64 0, .int .i64 0, .string ⟨#[]⟩], .int .i64 0, .bool false]) (by simp [results, Tryd.results31, go_sem, z0, z1, z2]) rfl ?_
    rw [Hr.out]
    exact ⟨rfl, ((L1.now.1.1.1.setCell (p := ⟨w.heap.size + 1, 0, none⟩) (Nat.le_succ _) _).setCell (p := ⟨w.heap.size + 1, 1, none⟩) (Nat.le_succ _) _).setCell (p := ⟨w.heap.size + 1, 2, none⟩) (Nat.le_succ _) _⟩
  | true =>
    rw [h1] at V1
    cases h2 : nameOk s.data.toList with
    | false =>
      have Hr := Lib.hid (foldStream_no (xs := xs) (s := s) (f := ⟨ver, sum, last⟩) (by rw [show foldGood xs s ⟨ver, sum, last⟩ = false from by unfold foldGood; rw [h2]; simp]; rfl))
      rw [h2] at V2
      go_enter Tryd.func31, Tryd.ntmps31
      go_wp2_with (first
        | (go_at_call 19; refine (V1.out _ L.now.1.1.2).mono ?_; rintro e w1 ⟨rfl, hb1⟩; have L1 := L.next hb1)
        | (go_at_call 50; refine (V2.out _).mono ?_; rintro e w2 ⟨rfl, hb2⟩; have L2 := L1.next hb2; have x0 := L2.now.1.2.cell 0; have x1 := L2.now.1.2.cell 1; have x2 := L2.now.1.2.cell 2; have z0 := L2.now.2.cell 0; have z1 := L2.now.2.cell 1; have z2 := L2.now.2.cell 2; have y0 := L2.now.2.frozen 0; have y1 := L2.now.2.frozen 1; have y2 := L2.now.2.frozen 2))
      refine bodyPost_ret (v := .tuple #[.agg #[.int .i64 0, .int .i64 0, .string ⟨#[]⟩], .int .i64 0, .bool false]) (by simp [results, Tryd.results31, go_sem, z0, z1, z2]) rfl ?_
      rw [Hr.out]
      exact ⟨rfl, ((L2.now.1.1.1.setCell (p := ⟨w.heap.size + 1, 0, none⟩) (Nat.le_succ _) _).setCell (p := ⟨w.heap.size + 1, 1, none⟩) (Nat.le_succ _) _).setCell (p := ⟨w.heap.size + 1, 2, none⟩) (Nat.le_succ _) _⟩
    | true =>
      rw [h2] at V2
      cases h3 : foldOk ⟨ver, sum, last⟩ with
      | false =>
        have Hr := Lib.hid (foldStream_no (xs := xs) (s := s) (f := ⟨ver, sum, last⟩) (by rw [show foldGood xs s ⟨ver, sum, last⟩ = false from by unfold foldGood; rw [h3]; simp]; rfl))
        rw [h3] at V3
        go_enter Tryd.func31, Tryd.ntmps31
        go_wp2_with (first
          | (go_at_call 19; refine (V1.out _ L.now.1.1.2).mono ?_; rintro e w1 ⟨rfl, hb1⟩; have L1 := L.next hb1)
          | (go_at_call 50; refine (V2.out _).mono ?_; rintro e w2 ⟨rfl, hb2⟩; have L2 := L1.next hb2; have x0 := L2.now.1.2.cell 0; have x1 := L2.now.1.2.cell 1; have x2 := L2.now.1.2.cell 2)
          | (go_at_call 64; with_reducible refine (V3.out _).mono ?_; rintro e w3 ⟨rfl, hb3⟩; have L3 := L2.next hb3; clear x0 x1 x2; have z0 := L3.now.2.cell 0; have z1 := L3.now.2.cell 1; have z2 := L3.now.2.cell 2; have y0 := L3.now.2.frozen 0; have y1 := L3.now.2.frozen 1; have y2 := L3.now.2.frozen 2))
        refine bodyPost_ret (v := .tuple #[.agg #[.int .i64 0, .int .i64 0, .string ⟨#[]⟩], .int .i64 0, .bool false]) (by simp [results, Tryd.results31, go_sem, z0, z1, z2]) rfl ?_
        rw [Hr.out]
        exact ⟨rfl, ((L3.now.1.1.1.setCell (p := ⟨w.heap.size + 1, 0, none⟩) (Nat.le_succ _) _).setCell (p := ⟨w.heap.size + 1, 1, none⟩) (Nat.le_succ _) _).setCell (p := ⟨w.heap.size + 1, 2, none⟩) (Nat.le_succ _) _⟩
      | true =>
        rw [h3] at V3
        have hv := foldOk_ver h3
        simp only at hv
        obtain ⟨f, hfv⟩ : ∃ f : Nat, ver + 1 = (f : Int) := ⟨(ver + 1).toNat, by omega⟩
        have EV := Lib.hid (fun W H => l4Events_any A n c xs s W H (by omega))
        by_cases h5 : ver + 1 ≤ (streamOf xs s).length
        ·
          have hg1 : foldGood xs s ⟨ver, sum, last⟩ = true := foldGood_iff.2 ⟨h1, h2, h3, h5⟩
          have e5 : (ver + 1).toNat = f := by omega
          have hzB : ∀ e ∈ (streamOf xs s).drop f, EvB e := fun e he => stream_B HE.out e (List.mem_of_mem_drop he)
          have FO := Lib.hid (fun B m d W H hm => l21On_any ver sum last B m d _ W H hzB HF.out hm)
          have hbd := foldOn_B hzB HF.out
          have hfl : f ≤ (streamOf xs s).length := by omega
          obtain ⟨⟨v', s', l'⟩, hF⟩ : ∃ F, foldOn ⟨ver, sum, last⟩ ((streamOf xs s).drop f) = F := ⟨_, rfl⟩
          rw [hF] at FO hbd
          obtain ⟨p1, p2, p3, p4⟩ := hbd
          obtain ⟨r1, r2, r3, r4, r5⟩ := HF.out
          simp only [List.length_drop] at p1 p2 p3 p4 r1 r2 r3 r4 r5
          have hsl := Hsl.out
          have hl := Hl.out
          have V4 := Lib.hid (fun W => foldValidS_any v' s' l' W ⟨show -1000000 ≤ v' by omega, show v' ≤ 1000000 by omega, show -100000000000 ≤ s' by omega, show s' ≤ 100000000000 by omega, small60 p4⟩)
          have HR : Hid (foldOk ⟨v', s', l'⟩ = false → foldStream xs s ⟨ver, sum, last⟩ = (foldZero, 0, false)) := Lib.hid fun hh => foldStream_no (by rw [hg1]; show foldOk (foldOn _ ((streamOf xs s).drop (ver + 1).toNat)) = false; rw [e5, hF]; exact hh)
          have HT : Hid (foldOk ⟨v', s', l'⟩ = true → foldStream xs s ⟨ver, sum, last⟩ = (⟨v', s', l'⟩, (streamOf xs s).length - ver - 1, true)) := Lib.hid fun hh => by
            rw [foldStream_yes (by rw [hg1]; show foldOk (foldOn _ ((streamOf xs s).drop (ver + 1).toNat)) = true; rw [e5, hF]; exact hh)]
            show (foldOn _ ((streamOf xs s).drop (ver + 1).toNat), _, _) = _
            rw [e5, hF]
          have HFL := Lib.hid hfl
          clear p1 p2 p3 p4 r1 r2 r3 r4 r5 hF hzB h1 h2 h3 h5 hg1 e5 hfl
          go_enter Tryd.func31, Tryd.ntmps31
          go_wp2_with (first
            | (go_at_call 19; refine (V1.out _ L.now.1.1.2).mono ?_; rintro e w1 ⟨rfl, hb1⟩; have L1 := L.next hb1)
            | (go_at_call 50; refine (V2.out _).mono ?_; rintro e w2 ⟨rfl, hb2⟩; have L2 := L1.next hb2; have x0 := L2.now.1.2.cell 0; have x1 := L2.now.1.2.cell 1; have x2 := L2.now.1.2.cell 2)
            | (go_at_call 64; with_reducible refine (V3.out _).mono ?_; rintro e w3 ⟨rfl, hb3⟩; have L3 := L2.next hb3; clear x0 x1 x2)
            | (go_at_call 48; go_must (refine (EV.out _ L3.now.1.1.2).mono ?_; rintro e w4 ⟨A4, k, c4, rfl, hrow4, hnc4, Hnil4, hb4⟩; have L4 := (L3.next hb4).and (Live.row hrow4); have Hk := Lib.hid hrow4.1; have hgt : ¬ (k : Int) < ver + 1 := (by rw [← hrow4.1]; have := HFL.out; omega); have hk4 : k ≤ 1000 := (by have := hrow4.1; omega); have hfk : f ≤ k := (by omega); obtain ⟨A5, hif, Hc5⟩ : ∃ A5, (if c4 = f then A4 else Option.map (fun x => x.add (f * 3)) A4) = A5 ∧ Hid (∀ W, Row evCells 3 W W.heap.size A4 k (streamOf xs s) → Row evCells 3 W W.heap.size A5 (k - f) ((streamOf xs s).drop f)) := ⟨_, rfl, Lib.hid fun W H => drop_row_f H hnc4 Hk.out hfk⟩; have hlc : (f : Int) ≤ (c4 : Int) := (by omega); have hlk' : (f : Int) ≤ (k : Int) := (by omega); have x0 := L4.now.1.1.2.cell 0; have x1 := L4.now.1.1.2.cell 1; have x2 := L4.now.1.1.2.cell 2; clear hrow4 hb4)))
          have FO2 : Hid (∀ W, Below w4.heap.size w4 W → Calls Tryd.prog 60 #[.agg #[.int .i64 ver, .int .i64 sum, .string last], .slice A5 (k - f) (c4 - f)] W fun e w' => e = .returned (.agg #[.int .i64 v', .int .i64 s', .string l']) ∧ Below w4.heap.size w4 w' ∧ Below W.heap.size W w') := Lib.hid (fun W hW => (FO.out A5 (k - f) (c4 - f) W (Hc5.out _ (L4.next hW).now.2) (by omega)).mono fun e w' ⟨q1, q2⟩ => ⟨q1, bt hW q2, q2⟩)
          have hzl := L4.now.1.2.lt
          have hzn1 : ¬ w.heap.size = w4.heap.size := by omega
          have hzn2 : ¬ w.heap.size + 1 = w4.heap.size := by omega
          have hzn3 : w.heap.size < w4.heap.size := by omega
          have hwf : IntKind.i64.wrap (f : Int) = (f : Int) := IntWalk.i64_in _ (by omega)
          go_region_law (go_simp; go_at_call 60; first
            | (with_reducible refine (FO2.out w4.drew ((Below.refl _ _).drew)).mono ?_; rintro e w5 ⟨rfl, hb4, hb5⟩; have L5 := L4.next hb4; have hl5 := L5.now.1.2.lt; have d0 := L5.now.1.1.2.cell 0; have d1 := L5.now.1.1.2.cell 1; have d2 := L5.now.1.1.2.cell 2)
            | (with_reducible refine (FO2.out (w4.alloc (.cells #[.int .i64 0, .int .i64 0, .string ⟨#[]⟩] 50)).drew (((Below.refl _ _).alloc (Nat.le_refl _) _).drew)).mono ?_; rintro e w5 ⟨rfl, hb4, hb5⟩; have L5 := L4.next hb4; have T5 := ((Live.blk (Blk.new w4 50 #[.int .i64 0, .int .i64 0, .string ⟨#[]⟩])).next (below_undrew_f hb5)).now; have d0 := L5.now.1.1.2.cell 0; have d1 := L5.now.1.1.2.cell 1; have d2 := L5.now.1.1.2.cell 2; have t0 := T5.cell 0; have t1 := T5.cell 1; have t2 := T5.cell 2; have q0 := T5.frozen 0; have q1 := T5.frozen 1; have q2 := T5.frozen 2))
          all_goals
            first
              | (have L6 := (L4.next (hb4.alloc hb4.size (.cells #[.int .i64 v', .int .i64 s', .string l'] 50))).and (Live.blk (Blk.new w5 50 #[.int .i64 v', .int .i64 s', .string l'])); obtain ⟨g, hg⟩ : ∃ g, w5.heap.size = g := ⟨_, rfl⟩; rw [hg] at L6 ⊢; generalize w5.alloc (.cells #[.int .i64 v', .int .i64 s', .string l'] 50) = w6 at *; have hgl : w.heap.size + 1 < g := (by omega))
              | (have L6 := (L4.next (((hb4.setCell (p := ⟨w4.heap.size, 0, none⟩) (Nat.le_refl _) (.int .i64 v')).setCell (p := ⟨w4.heap.size, 1, none⟩) (Nat.le_refl _) (.int .i64 s')).setCell (p := ⟨w4.heap.size, 2, none⟩) (Nat.le_refl _) (.string l'))).and (Live.blk (((T5.set_ 0 (.int .i64 v')).set_ 1 (.int .i64 s')).set_ 2 (.string l'))); obtain ⟨g, hg⟩ : ∃ g, w4.heap.size = g := ⟨_, rfl⟩; rw [hg] at L6 ⊢; generalize ((w5.setCell ⟨g, 0, none⟩ (.int .i64 v')).setCell ⟨g, 1, none⟩ (.int .i64 s')).setCell ⟨g, 2, none⟩ (.string l') = w6 at *; have hgl : w.heap.size + 1 < g := (by omega))
            have hg1 : ¬ g = w.heap.size + 1 := by omega
            have hg2 : ¬ w.heap.size + 1 = g := by omega
            have hg3 : ¬ w.heap.size = w.heap.size + 1 := by omega
            have m0 := L6.now.2.cell 0
            have m1 := L6.now.2.cell 1
            have m2 := L6.now.2.cell 2
            cases hfo : foldOk ⟨v', s', l'⟩ with
            | false =>
              have Hr := Lib.hid (HR.out hfo)
              rw [hfo] at V4
              go_wp2_with (go_at_call 64; with_reducible refine (V4.out _).mono ?_; rintro e w7 ⟨rfl, hb7⟩; have L7 := L6.next hb7; have z0 := L7.now.1.1.2.cell 0; have z1 := L7.now.1.1.2.cell 1; have z2 := L7.now.1.1.2.cell 2; have y0 := L7.now.1.1.2.frozen 0; have y1 := L7.now.1.1.2.frozen 1; have y2 := L7.now.1.1.2.frozen 2; have d0 := L7.now.2.cell 0; have d1 := L7.now.2.cell 1; have d2 := L7.now.2.cell 2; have k0 := L7.now.1.1.1.2.cell 0)
              refine bodyPost_ret (v := .tuple #[.agg #[.int .i64 0, .int .i64 0, .string ⟨#[]⟩], .int .i64 0, .bool false]) (by simp [results, Tryd.results31, go_sem, z0, z1, z2]) rfl ?_
              rw [Hr.out]; exact ⟨rfl, ((L7.now.1.1.1.1.1.setCell (p := ⟨w.heap.size + 1, 0, none⟩) (Nat.le_succ _) (.int .i64 0)).setCell (p := ⟨w.heap.size + 1, 1, none⟩) (Nat.le_succ _) (.int .i64 0)).setCell (p := ⟨w.heap.size + 1, 2, none⟩) (Nat.le_succ _) (.string ⟨#[]⟩)⟩
            | true =>
              have Hr := Lib.hid (HT.out hfo)
              rw [hfo] at V4
              go_wp2_with (go_at_call 64; with_reducible refine (V4.out _).mono ?_; rintro e w7 ⟨rfl, hb7⟩; have L7 := L6.next hb7; have z0 := L7.now.1.1.2.cell 0; have z1 := L7.now.1.1.2.cell 1; have z2 := L7.now.1.1.2.cell 2; have y0 := L7.now.1.1.2.frozen 0; have y1 := L7.now.1.1.2.frozen 1; have y2 := L7.now.1.1.2.frozen 2; have d0 := L7.now.2.cell 0; have d1 := L7.now.2.cell 1; have d2 := L7.now.2.cell 2; have k0 := L7.now.1.1.1.2.cell 0)
              have hw1 : IntKind.i64.wrap ((k : Int) - ver) = (k : Int) - ver := IntWalk.i64_in _ (by omega)
              have hw2 : IntKind.i64.wrap ((k : Int) - ver - 1) = (k : Int) - ver - 1 := IntWalk.i64_in _ (by omega)
              go_region
              all_goals
                go_wp2_with fail
                refine bodyPost_ret (v := .tuple #[.agg #[.int .i64 v', .int .i64 s', .string l'], .int .i64 ((k : Int) - ver - 1), .bool true]) (by simp [results, Tryd.results31, go_sem, z0, z1, z2]) rfl ?_
                rw [Hr.out]
                exact ⟨by rw [Hk.out]; rfl, (((L7.now.1.1.1.1.1.setCell (p := ⟨w.heap.size + 1, 0, none⟩) (Nat.le_succ _) (.int .i64 v')).setCell (p := ⟨w.heap.size + 1, 1, none⟩) (Nat.le_succ _) (.int .i64 s')).setCell (p := ⟨w.heap.size + 1, 2, none⟩) (Nat.le_succ _) (.string l')).drew⟩
        ·
          have Hr := Lib.hid (foldStream_no (xs := xs) (s := s) (f := ⟨ver, sum, last⟩) (by rw [show foldGood xs s ⟨ver, sum, last⟩ = false from foldGood_len h5]; rfl))
          have V5 := V3
          go_enter Tryd.func31, Tryd.ntmps31
          go_wp2_with (first
            | (go_at_call 19; refine (V1.out _ L.now.1.1.2).mono ?_; rintro e w1 ⟨rfl, hb1⟩; have L1 := L.next hb1)
            | (go_at_call 50; refine (V2.out _).mono ?_; rintro e w2 ⟨rfl, hb2⟩; have L2 := L1.next hb2; have x0 := L2.now.1.2.cell 0; have x1 := L2.now.1.2.cell 1; have x2 := L2.now.1.2.cell 2)
            | (go_at_call 64; with_reducible refine (V3.out _).mono ?_; rintro e w3 ⟨rfl, hb3⟩; have L3 := L2.next hb3; clear x0 x1 x2)
            | (go_at_call 48; go_must (refine (EV.out _ L3.now.1.1.2).mono ?_; rintro e w4 ⟨A4, k, c4, rfl, hrow4, hnc4, Hnil4, hb4⟩; have L4 := (L3.next hb4).and (Live.row hrow4); have Hk := Lib.hid hrow4.1; have hgt : (k : Int) < ver + 1 := (by rw [← hrow4.1]; omega); have hk4 : k ≤ 1000 := (by have := hrow4.1; have := Hsl.out; have := Hl.out; omega); have x0 := L4.now.1.1.2.cell 0; have z0 := L4.now.1.2.cell 0; have z1 := L4.now.1.2.cell 1; have z2 := L4.now.1.2.cell 2; have y0 := L4.now.1.2.frozen 0; have y1 := L4.now.1.2.frozen 1; have y2 := L4.now.1.2.frozen 2; clear hrow4 hb4)))
          refine bodyPost_ret (v := .tuple #[.agg #[.int .i64 0, .int .i64 0, .string ⟨#[]⟩], .int .i64 0, .bool false]) (by simp [results, Tryd.results31, go_sem, z0, z1, z2]) rfl ?_
          rw [Hr.out]
          exact ⟨rfl, ((L4.now.1.1.1.1.setCell (p := ⟨w.heap.size + 1, 0, none⟩) (Nat.le_succ _) _).setCell (p := ⟨w.heap.size + 1, 1, none⟩) (Nat.le_succ _) _).setCell (p := ⟨w.heap.size + 1, 2, none⟩) (Nat.le_succ _) _⟩
end Go.Proofs.YtbcfbkcadceniaaDoor
