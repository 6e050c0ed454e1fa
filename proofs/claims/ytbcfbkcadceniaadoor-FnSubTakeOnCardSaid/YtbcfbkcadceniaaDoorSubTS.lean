/- The next entries for a subscriber: the reference's. -/
import Derived.Test.YtbcfbkcadceniaaDoorPSubT
import Derived.Test.YtbcfbkcadceniaaDoorSubLS
import Derived.BigRegion
namespace Go.Proofs.YtbcfbkcadceniaaDoor
set_option linter.unusedVariables false
set_option linter.unusedSimpArgs false
open Go.RowKit

/-- what is returned: a row of entries, a subscriber, a word. -/
def SubRet (p : List En × Sb × Bool) (w : World) (e : Ending) (w' : World) : Prop :=
  ∃ (A : Option Addr) (n c : Nat), e = .returned (.tuple #[.slice A n c, .agg #[.string p.2.1.cat, .int .i64 p.2.1.at_], .bool p.2.2]) ∧ Row enCells 4 w' w'.heap.size A n p.1 ∧ n ≤ c ∧ Hid (A = none → c = 0) ∧ Below w.heap.size w w'
theorem row_sets {W : World} {A : Option Addr} {k g : Nat} {xs : List En} (H : Row enCells 4 W W.heap.size A k xs) (hA : ∀ p, A = some p → p.block ≠ g) (u u' : Value) : Row enCells 4 ((W.setCell ⟨g, 0, none⟩ u).setCell ⟨g, 1, none⟩ u') ((W.setCell ⟨g, 0, none⟩ u).setCell ⟨g, 1, none⟩ u').heap.size A k xs := by
  have one : ∀ (X : World) (o : Nat) (v : Value), Row enCells 4 X X.heap.size A k xs → Row enCells 4 (X.setCell ⟨g, o, none⟩ v) (X.setCell ⟨g, o, none⟩ v).heap.size A k xs := fun X o v h =>
    have hg : X.grownBy (X.setCell ⟨g, o, none⟩ v) (some g) := ⟨rfl, rfl, rfl, by simp, fun i hi hne => Below.heap_setCell X ⟨g, o, none⟩ v i (fun e => hne (by rw [e]))⟩
    (h.grown (Nat.le_refl _) hg (fun p hp e => hA p hp (Option.some.inj e).symm)).more hg.size
  exact one _ _ _ (one _ _ _ H)
theorem fits_snoc {xs : List En} {c : ByteArray} {a k : Nat} (h : a + k < xs.length) (hf : fits c (nx xs (a + k)) = true) : subGo xs c a (k + 1) = subGo xs c a k ++ [nx xs (a + k)] := by rw [subGo_succ h, if_pos hf]
theorem fits_skip {xs : List En} {c : ByteArray} {a k : Nat} (h : a + k < xs.length) (hf : fits c (nx xs (a + k)) = false) : subGo xs c a (k + 1) = subGo xs c a k := by rw [subGo_succ h, if_neg (by rw [hf]; decide), List.append_nil]
set_option maxRecDepth 100000 in
set_option maxHeartbeats 8000000 in
theorem subTakeS_any (A : Option Addr) (n c : Nat) (xs : List En) (cat : ByteArray) (at_ m : Int) (w : World) (h : Row enCells 4 w w.heap.size A n xs) (hsm : SmallEns xs) (hB : SbB ⟨cat, at_⟩) (hnb : n ≤ 1000) :
    Calls Tryd.prog 40 #[.slice A n c, .agg #[.string cat, .int .i64 at_], .int .i64 m] w (SubRet (subTake xs ⟨cat, at_⟩ m) w) := by
  have Hl := Lib.hid h.1
  have H0 := Lib.hid h
  have hb0 : Below w.heap.size w (((w.alloc (.cells #[.string cat, .int .i64 at_] 60)).alloc (.cells #[.string ⟨#[]⟩, .int .i64 0] 60)).alloc (.cells #[] 35)) := (((Below.refl _ _).alloc (Nat.le_refl _) _).alloc (by simp) _).alloc (by simp; omega) _
  have L : Live (((w.alloc (.cells #[.string cat, .int .i64 at_] 60)).alloc (.cells #[.string ⟨#[]⟩, .int .i64 0] 60)).alloc (.cells #[] 35)) fun W => ((Below w.heap.size w W ∧ Row enCells 4 W W.heap.size A n xs) ∧ Blk W w.heap.size 60 #[.string cat, .int .i64 at_]) ∧ Blk W (w.heap.size + 1) 60 #[.string ⟨#[]⟩, .int .i64 0] :=
    (((Live.since hb0).and (Live.row (h.next hb0))).and (Live.blk (((Blk.new w _ _).alloc _).alloc _))).and (Live.blk (by have := (Blk.new (w.alloc (.cells #[.string cat, .int .i64 at_] 60)) 60 #[.string ⟨#[]⟩, .int .i64 0]).alloc (.cells #[] 35); simpa using this))
  have O0 : ∀ W, Below (((w.alloc (.cells #[.string cat, .int .i64 at_] 60)).alloc (.cells #[.string ⟨#[]⟩, .int .i64 0] 60)).alloc (.cells #[] 35)).heap.size (((w.alloc (.cells #[.string cat, .int .i64 at_] 60)).alloc (.cells #[.string ⟨#[]⟩, .int .i64 0] 60)).alloc (.cells #[] 35)) W → W.ownsRow (w.heap.size + 2) 35 4 (.slice (some ⟨w.heap.size + 2, 0, none⟩) 0 0) 0 [] := fun W hW => by
    have := World.ownsRow_lit (base := w.heap.size + 2) (e := 35) (size := 4) ((w.alloc (.cells #[.string cat, .int .i64 at_] 60)).alloc (.cells #[.string ⟨#[]⟩, .int .i64 0] 60)) #[] 0 (by simp) (Nat.zero_le _) rfl
    have h2 := own_next this hW
    simpa using h2
  have V1 := Lib.hid (fun W H => storeValidS_any A n c xs W H hsm (by omega))
  have V2 := Lib.hid (fun W => subValidS_any cat at_ W hB)
  have V3 := Lib.hid (fun W => l6In_at m 0 99 W)
  have HO := Lib.hid O0
  clear h hb0 O0
  cases h1 : storeOk xs with
  | false =>
    rw [h1] at V1
    have Hr := Lib.hid (subTake_no (xs := xs) (s := ⟨cat, at_⟩) (m := m) (by rw [h1]; rfl))
    go_enter Tryd.func40, Tryd.ntmps40
    go_wp2_with (first
      | (go_at_call 19; refine (V1.out _ L.now.1.1.2).mono ?_; rintro e w1 ⟨rfl, hb1⟩; have L1 := L.next hb1; have c0 := L1.now.1.2.cell 0; have c1 := L1.now.1.2.cell 1; have z0 := L1.now.2.cell 0; have z1 := L1.now.2.cell 1; have y0 := L1.now.2.frozen 0; have y1 := L1.now.2.frozen 1))
    refine bodyPost_ret (v := .tuple #[.slice (some ⟨w.heap.size + 1 + 1, 0, none⟩) 0 0, .agg #[.string ⟨#[]⟩, .int .i64 0], .bool false]) (by simp [results, Tryd.results40, go_sem, z0, z1]) rfl ?_
    rw [Hr.out]
    exact ⟨_, 0, 0, rfl, Row.nil _ _ _, Nat.le_refl _, Lib.hid (fun e => by cases e), (L1.now.1.1.1.setCell (p := ⟨w.heap.size + 1, 0, none⟩) (Nat.le_succ _) _).setCell (p := ⟨w.heap.size + 1, 1, none⟩) (Nat.le_succ _) _⟩
  | true =>
    rw [h1] at V1
    cases h2 : subOk ⟨cat, at_⟩ with
    | false =>
      rw [h2] at V2
      have Hr := Lib.hid (subTake_no (xs := xs) (s := ⟨cat, at_⟩) (m := m) (by rw [h2]; simp))
      go_enter Tryd.func40, Tryd.ntmps40
      go_wp2_with (first
        | (go_at_call 19; refine (V1.out _ L.now.1.1.2).mono ?_; rintro e w1 ⟨rfl, hb1⟩; have L1 := L.next hb1; have c0 := L1.now.1.2.cell 0; have c1 := L1.now.1.2.cell 1; have z0 := L1.now.2.cell 0; have z1 := L1.now.2.cell 1; have y0 := L1.now.2.frozen 0; have y1 := L1.now.2.frozen 1)
        | (go_at_call 72; refine (V2.out _).mono ?_; rintro e w2 ⟨rfl, hb2⟩; have L2 := L1.next hb2; have HB2 := Lib.hid (bt hb1 hb2); have d1 := L2.now.1.2.cell 1; have z0 := L2.now.2.cell 0; have z1 := L2.now.2.cell 1; have y0 := L2.now.2.frozen 0; have y1 := L2.now.2.frozen 1))
      refine bodyPost_ret (v := .tuple #[.slice (some ⟨w.heap.size + 1 + 1, 0, none⟩) 0 0, .agg #[.string ⟨#[]⟩, .int .i64 0], .bool false]) (by simp [results, Tryd.results40, go_sem, z0, z1]) rfl ?_
      rw [Hr.out]
      exact ⟨_, 0, 0, rfl, Row.nil _ _ _, Nat.le_refl _, Lib.hid (fun e => by cases e), (L2.now.1.1.1.setCell (p := ⟨w.heap.size + 1, 0, none⟩) (Nat.le_succ _) _).setCell (p := ⟨w.heap.size + 1, 1, none⟩) (Nat.le_succ _) _⟩
    | true =>
      rw [h2] at V2
      cases h3 : decide (0 ≤ m ∧ m ≤ 99) with
      | false =>
        rw [h3] at V3
        have Hr := Lib.hid (subTake_no (xs := xs) (s := ⟨cat, at_⟩) (m := m) (by rw [h3]; simp))
        go_enter Tryd.func40, Tryd.ntmps40
        go_wp2_with (first
          | (go_at_call 19; refine (V1.out _ L.now.1.1.2).mono ?_; rintro e w1 ⟨rfl, hb1⟩; have L1 := L.next hb1; have c0 := L1.now.1.2.cell 0; have c1 := L1.now.1.2.cell 1; have z0 := L1.now.2.cell 0; have z1 := L1.now.2.cell 1; have y0 := L1.now.2.frozen 0; have y1 := L1.now.2.frozen 1)
          | (go_at_call 72; refine (V2.out _).mono ?_; rintro e w2 ⟨rfl, hb2⟩; have L2 := L1.next hb2; have HB2 := Lib.hid (bt hb1 hb2); have d1 := L2.now.1.2.cell 1; have z0 := L2.now.2.cell 0; have z1 := L2.now.2.cell 1; have y0 := L2.now.2.frozen 0; have y1 := L2.now.2.frozen 1)
          | (go_at_call 52; refine (V3.out _).mono ?_; rintro e w3 ⟨rfl, rfl⟩))
        refine bodyPost_ret (v := .tuple #[.slice (some ⟨w.heap.size + 1 + 1, 0, none⟩) 0 0, .agg #[.string ⟨#[]⟩, .int .i64 0], .bool false]) (by simp [results, Tryd.results40, go_sem, z0, z1]) rfl ?_
        rw [Hr.out]
        exact ⟨_, 0, 0, rfl, Row.nil _ _ _, Nat.le_refl _, Lib.hid (fun e => by cases e), (L2.now.1.1.1.setCell (p := ⟨w.heap.size + 1, 0, none⟩) (Nat.le_succ _) _).setCell (p := ⟨w.heap.size + 1, 1, none⟩) (Nat.le_succ _) _⟩
      | true =>
        rw [h3] at V3
        have h4 := of_decide_eq_true h3
        obtain ⟨-, k1, k2⟩ := subOk_iff.1 h2
        simp only at k1 k2
        have hen := Lib.hid (storeOk_streams.1 h1).2.1
        obtain ⟨a, rfl⟩ : ∃ a : Nat, at_ = (a : Int) := ⟨at_.toNat, by omega⟩
        obtain ⟨mm, rfl⟩ : ∃ mm : Nat, m = (mm : Int) := ⟨m.toNat, by omega⟩
        have hmm : mm ≤ 99 := by omega
        have Hr := Lib.hid (fun k x1 x2 x3 => subTake_go (xs := xs) (cat := cat) (a := a) (m := mm) (k := k) h1 h2 hmm x1 x2 x3)
        clear h1 h2 h3 h4 hB k1
        go_enter Tryd.func40, Tryd.ntmps40
        go_wp2_with (first
          | (go_at_call 19; refine (V1.out _ L.now.1.1.2).mono ?_; rintro e w1 ⟨rfl, hb1⟩; have L1 := L.next hb1; have c0 := L1.now.1.2.cell 0; have c1 := L1.now.1.2.cell 1; have z0 := L1.now.2.cell 0; have z1 := L1.now.2.cell 1; have y0 := L1.now.2.frozen 0; have y1 := L1.now.2.frozen 1)
          | (go_at_call 72; refine (V2.out _).mono ?_; rintro e w2 ⟨rfl, hb2⟩; have L2 := L1.next hb2; have HB2 := Lib.hid (bt hb1 hb2); have d1 := L2.now.1.2.cell 1; have z0 := L2.now.2.cell 0; have z1 := L2.now.2.cell 1; have y0 := L2.now.2.frozen 0; have y1 := L2.now.2.frozen 1)
          | (go_at_call 52; refine (V3.out _).mono ?_; rintro e w3 ⟨rfl, rfl⟩))
        clear V1 V2 V3 L L1 hb1 hb2 z0 z1 y0 y1 c0 c1
        have O2 : w2.ownsRow (w.heap.size + 2) 35 4 (.slice (some ⟨w.heap.size + 1 + 1, 0, none⟩) 0 0) 0 [] := HO.out _ HB2.out
        go_loopw [9, 10] (fun v i wr => ∃ p q : Nat, Hid (p = a + q) ∧ q ≤ n - a ∧ i = .int .i64 (p : Int) ∧ NotFull xs cat a mm q ∧ wr.ownsRow (w.heap.size + 2) 35 4 v (subGo xs cat a q).length ((subGo xs cat a q).flatMap enCells) ∧ Hid (Below w.heap.size w wr ∧ Blk wr w.heap.size 60 #[.string cat, .int .i64 (a : Int)] ∧ Blk wr (w.heap.size + 1) 60 #[.string ⟨#[]⟩, .int .i64 0])) (fun _ i _ => n - (intOf i).toNat)
        case atStart => exact ⟨a, 0, Lib.hid rfl, Nat.zero_le _, rfl, notFull_zero _ _ _ _, O2, Lib.hid ⟨L2.now.1.1.1, L2.now.1.2, L2.now.2⟩⟩
        case round =>
          obtain ⟨p, q, Hp, hq, rfl, hnf, hown, HW⟩ := hrel
          have hsub : a + q ≤ xs.length ∨ q = 0 := by rw [Hl.out]; omega
          have hfl := notFull_le hnf hsub
          obtain ⟨A', c', rfl, hnc, hnil, hrow, hbase⟩ := Row.of_own hown rfl
          have Hn := Lib.hid hnil
          have HRow := Lib.hid hrow
          have HBs := Lib.hid hbase
          have HO := Lib.hid hown
          have Hnf := Lib.hid hnf
          have Hsub := Lib.hid hsub
          have hpe := Hp.out
          clear hnil hrow hbase hnf hsub hown
          by_cases hlt : p < n
          · have hlt' : (p : Int) < (n : Int) := by omega
            by_cases hful : (subGo xs cat a q).length < mm
            · have hful' : (((subGo xs cat a q).length : Nat) : Int) < (mm : Int) := by omega
              have LW : Live wr fun W => (Below w.heap.size w W ∧ Row enCells 4 W W.heap.size A n xs) ∧ Blk W w.heap.size 60 #[.string cat, .int .i64 (a : Int)] ∧ Blk W (w.heap.size + 1) 60 #[.string ⟨#[]⟩, .int .i64 0] := fun W hW =>
                have hb := HW.out.1.trans (hW.mono HW.out.1.size)
                ⟨⟨hb, (H0.out.below hb).more hb.size⟩, HW.out.2.1.next hW, HW.out.2.2.next hW⟩
              have hxl : a + q < xs.length := by rw [Hl.out]; omega
              have hs : xs[p]? = some (nx xs p) := nx_get (by rw [Hl.out]; exact hlt)
              have hok := hen.out _ (List.mem_of_getElem? hs)
              have hsz := (hsm _ (List.mem_of_getElem? hs)).1
              have hno : nameOk (nx xs p).name.data.toList = true := by
                unfold enOk at hok
                rw [Bool.and_eq_true] at hok
                exact hok.1
              obtain ⟨b, off, rfl, hb, hx⟩ := LW.now.1.2.en_at (by omega)
              have V := Lib.hid (fun x : On wr => l14Fits_any cat (nx xs p).name (nx xs p).ev.kind (nx xs p).ev.id (nx xs p).ev.data x.W hsz hno)
              have hEta : (⟨(nx xs p).name, ⟨(nx xs p).ev.id, (nx xs p).ev.kind, (nx xs p).ev.data⟩⟩ : En) = nx xs p := rfl
              rw [hEta] at V
              have s0 := fun x : On wr => (show x.W.cell? ⟨w.heap.size, 0, none⟩ = some (.string cat) from (LW.next x.below).now.2.1.cell 0)
              have e0 := fun x : On wr => (show x.W.cell? ⟨b, off + p * 4, none⟩ = some (.string (nx xs p).name) from ((hx _ _ hs).below x.below hb).1)
              have e1 := fun x : On wr => ((hx _ _ hs).below x.below hb).2.1
              have e2 := fun x : On wr => ((hx _ _ hs).below x.below hb).2.2.1
              have e3 := fun x : On wr => ((hx _ _ hs).below x.below hb).2.2.2
              have Hnext := Lib.hid (notFull_succ Hnf.out (by omega))
              have hbq : (subGo xs cat a q).length ≤ 1000 := by omega
              have hsn1 := fun hf => fits_snoc (xs := xs) (c := cat) (a := a) (k := q) hxl hf
              have hsn2 := fun hf => fits_skip (xs := xs) (c := cat) (a := a) (k := q) hxl hf
              rw [← hpe] at hsn1 hsn2
              clear hok hno hs hx hEta hpe
              cases hf : fits cat (nx xs p)
              all_goals rw [hf] at V
              · have Hsn := Lib.hid (hsn2 hf)
                clear hsn1 hsn2 hf
                go_wp2_with fail
                refine wp_region_on (by kernel_rfl) (by kernel_rfl) ?_
                repeat (go_big_quiet_step ((go_at_call 73; exact On.calls (V.out _))))
                refine wpQuiet_nil ?_
                intro w4 hw'
                obtain ⟨⟨w4b, hb4⟩, hw''⟩ := hw'
                obtain rfl : w4 = w4b := hw''
                have L4 := LW.next hb4
                have O4 := Lib.hid (own_next HO.out hb4)
                go_wp2_with fail
                go_roundw
                case rel => exact ⟨p + 1, q + 1, Lib.hid (by have := Hp.out; omega), by have := Hp.out; omega, by go_num, Hnext.out, by rw [Hsn.out]; exact O4.out, Lib.hid ⟨L4.now.1.1, L4.now.2.1, L4.now.2.2⟩⟩
                case measure => simp [intOf]; omega
              · have Hsn := Lib.hid (hsn1 hf)
                clear hsn1 hsn2 hf
                go_wp2_with fail
                refine wp_region_on (by kernel_rfl) (by kernel_rfl) ?_
                repeat (go_big_quiet_step ((go_at_call 73; exact On.calls (V.out _))))
                refine wpQuiet_nil ?_
                intro w4 hw'
                obtain ⟨⟨w4b, hb4⟩, hw''⟩ := hw'
                obtain rfl : w4 = w4b := hw''
                have L4 := LW.next hb4
                have O4 := Lib.hid (own_next HO.out hb4)
                have B4 := Lib.hid L4.now.1.1
                have hz4 := B4.out.size
                have f0 := e0 ⟨w4, hb4⟩
                have f1 := e1 ⟨w4, hb4⟩
                have f2 := e2 ⟨w4, hb4⟩
                have f3 := e3 ⟨w4, hb4⟩
                have hz5 : w.heap.size + 2 ≤ w4.heap.size := by have := L4.now.2.2.lt; omega
                simp only at f0 f1 f2 f3
                clear e0 e1 e2 e3 s0
                go_wp2_with (at_builtin; go_must (refine app_one elemEn w4 rfl _ _ rfl (w.heap.size + 2) _ (subGo xs cat a q).length ((subGo xs cat a q).flatMap enCells) rfl (by exact O4.out) [.string (nx xs p).name, .int .i64 (nx xs p).ev.id, .string (nx xs p).ev.kind, .int .i64 (nx xs p).ev.data] rfl rfl ?_ ?_ ?_ ?_); (intro u hu; simp at hu; rcases hu with rfl | rfl | rfl | rfl <;> rfl); omega; omega; intro v' w5 own5 grow5 or5)
                have own6 : w5.ownsRow (w.heap.size + 2) 35 4 v' (subGo xs cat a (q + 1)).length ((subGo xs cat a (q + 1)).flatMap enCells) := by
                  rw [Hsn.out, List.flatMap_append, List.length_append]
                  simpa [enCells] using own5
                have hb5 : Below (w.heap.size + 2) w4 w5 := (Below.refl _ _).grown grow5 hz5 (fun k hk => (O4.out.lt k hk).1)
                have hB5 : Below w.heap.size w w5 := B4.out.trans (hb5.mono (by omega))
                have s5 := L4.now.2.1.below hb5 (by omega)
                have r5 := L4.now.2.2.below hb5 (by omega)
                go_roundw
                case rel => exact ⟨p + 1, q + 1, Lib.hid (by have := Hp.out; omega), by have := Hp.out; omega, by go_num, Hnext.out, own6, Lib.hid ⟨hB5, s5, r5⟩⟩
                case measure => simp [intOf]; omega
            · have hful' : ¬ (((subGo xs cat a q).length : Nat) : Int) < (mm : Int) := by omega
              have hR := Hr.out q Hnf.out Hsub.out (.inr (by omega))
              rw [← hpe] at hR
              have HR := Lib.hid hR
              clear hR hpe
              have hA : ∀ p, A' = some p → p.block ≠ w.heap.size + 1 := fun p hp => by have := HBs.out p hp; omega
              have HA := Lib.hid hA
              have s0 := HW.out.2.1.cell 0
              have s1 := HW.out.2.1.cell 1
              have z0 := HW.out.2.2.cell 0
              have z1 := HW.out.2.2.cell 1
              have y0 := HW.out.2.2.frozen 0
              have y1 := HW.out.2.2.frozen 1
              clear hA
              go_wp2_with fail
              go_region
              all_goals
                go_wp2_with fail
                refine bodyPost_ret (v := .tuple #[.slice A' (subGo xs cat a q).length c', .agg #[.string cat, .int .i64 (p : Int)], .bool true]) (by simp [results, Tryd.results40, go_sem, z0, z1]) rfl ?_
                rw [HR.out]
                exact ⟨A', _, c', rfl, row_sets HRow.out HA.out _ _, hnc, Hn, ((HW.out.1.setCell (p := ⟨w.heap.size + 1, 0, none⟩) (Nat.le_succ _) _).setCell (p := ⟨w.heap.size + 1, 1, none⟩) (Nat.le_succ _) _).drew⟩
          · have hlt' : ¬ (p : Int) < (n : Int) := by omega
            have hR := Hr.out q Hnf.out Hsub.out (.inl (by rw [Hl.out]; omega))
            rw [← hpe] at hR
            have HR := Lib.hid hR
            clear hR hpe
            have hA : ∀ p, A' = some p → p.block ≠ w.heap.size + 1 := fun p hp => by have := HBs.out p hp; omega
            have HA := Lib.hid hA
            have s0 := HW.out.2.1.cell 0
            have s1 := HW.out.2.1.cell 1
            have z0 := HW.out.2.2.cell 0
            have z1 := HW.out.2.2.cell 1
            have y0 := HW.out.2.2.frozen 0
            have y1 := HW.out.2.2.frozen 1
            clear hA
            go_wp2_with fail
            go_region
            all_goals
              go_wp2_with fail
              refine bodyPost_ret (v := .tuple #[.slice A' (subGo xs cat a q).length c', .agg #[.string cat, .int .i64 (p : Int)], .bool true]) (by simp [results, Tryd.results40, go_sem, z0, z1]) rfl ?_
              rw [HR.out]
              exact ⟨A', _, c', rfl, row_sets HRow.out HA.out _ _, hnc, Hn, ((HW.out.1.setCell (p := ⟨w.heap.size + 1, 0, none⟩) (Nat.le_succ _) _).setCell (p := ⟨w.heap.size + 1, 1, none⟩) (Nat.le_succ _) _).drew⟩
end Go.Proofs.YtbcfbkcadceniaaDoor
