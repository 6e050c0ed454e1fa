/- The walk of laws.FnTotalsEach. -/
import Derived.Test.YtlaolhhkchgakaaDoorLFnTotals
import Derived.BigRegion
namespace Go.Proofs.YtlaolhhkchgakaaDoor
set_option linter.unusedVariables false
set_option linter.unusedSimpArgs false
open Go.RowKit

theorem ofC_le {xs : List En} (h : ∀ x ∈ xs, EnB x) (c : ByteArray) (k : Nat) (hk : k ≤ 1000) : 0 ≤ (ofC xs c k).1 ∧ (ofC xs c k).1 ≤ 1000 ∧ -100000000 ≤ (ofC xs c k).2 ∧ (ofC xs c k).2 ≤ 100000000 := by
  unfold ofC
  have hf : ∀ x ∈ (xs.take k).filter (fun x => decide (catOf x.name = c)), EnB x := fun x hx => h x (List.mem_of_mem_take (List.mem_filter.1 hx).1)
  have h1 := sumD_le hf
  have h2 := List.length_filter_le (fun x => decide (catOf x.name = c)) (xs.take k)
  rw [List.length_take] at h2
  have h3 : ((xs.take k).filter (fun x => decide (catOf x.name = c))).length ≤ 1000 := by omega
  simp only
  omega
set_option maxRecDepth 100000 in
set_option maxHeartbeats 8000000 in
theorem law_FnTotalsEach (A : Option Addr) (n c : Nat) (B : Option Addr) (m d : Nat) (w : World) (h : Code w A n c) (h2 : Code w B m d) (hg : GE w) :
    Calls Tryd.prog 3 #[.slice A n c, .slice B m d] w fun e w' => e = .returned (.bool true) ∧ Below w.heap.size w w' := by
  have hn := h.2.1
  unfold maxLen at hn
  by_cases hbig : (1048576 : Int) < n
  · go_enter Tryd.func3, Tryd.ntmps3
    go_wp2_with fail
    go_ret
    exact ⟨rfl, Below.refl _ _⟩
  have hm := h2.2.1
  unfold maxLen at hm
  by_cases hbig2 : (1048576 : Int) < m
  · go_enter Tryd.func3, Tryd.ntmps3
    go_wp2_with fail
    go_ret
    exact ⟨rfl, Below.refl _ _⟩
  have HC := Lib.hid h
  have L0 := (Live.since (Below.refl w.heap.size w)).and (Live.ge hg)
  clear h h2 hg
  go_enter Tryd.func3, Tryd.ntmps3
  go_wp2_with fail
  refine (drawTotalsOf_any A n c _ HC.out).mono ?_
  rintro e w1 ⟨Ax, k, cx, xs, rfl, hrow, HE, hk, hkc, Hnil, hb1⟩
  have L1 := (L0.next hb1).and (Live.row hrow)
  have Hl := Lib.hid hrow.1
  have FI := Lib.hid (fun W H G => totsOf_any Ax k cx xs W H (EnB.small HE.out) (by omega) G)
  have FS := Lib.hid (fun W H => totsOfS_any Ax k cx xs W H (EnB.small HE.out) (by omega))
  obtain ⟨ts, hts⟩ : ∃ ts, totsOf xs = ts := ⟨_, rfl⟩
  rw [hts] at FI FS
  have Hts := Lib.hid hts
  have Hlen : Hid (ts.length ≤ 30) := Lib.hid (by
    rw [← hts]
    unfold totsOf
    split
    · have := totsTo_len xs xs.length (Nat.le_refl _); rw [Hl.out] at this ⊢; omega
    · exact Nat.zero_le _)
  clear hrow hb1 L0 hts
  go_wp2_with fail
  refine (FI.out _ L1.now.2 L1.now.1.2).mono ?_
  rintro e w2 ⟨Ao, no, co, rfl, hrow2, hnc2, Hn2, hb2⟩
  have L2 := (L1.next hb2).and (Live.row hrow2)
  have Hno : Hid (ts.length = no) := Lib.hid hrow2.1
  clear hrow2 hb2 L1
  go_wp2_with fail
  refine (FS.out _ L2.now.1.2).mono ?_
  rintro e w3 ⟨As, ns, cs, rfl, hrow3, hnc3, Hn3, hb3⟩
  obtain rfl : ns = no := hrow3.1.symm.trans Hno.out
  have L3 := (L2.next hb3).and (Live.row hrow3)
  have hns : ns ≤ 30 := by rw [← Hno.out]; exact Hlen.out
  have ST := Lib.hid (fun W H H' => sameTotals_any Ao As ns co ns cs ts ts W H H' (by omega) (by omega))
  rw [sameL_refl] at ST
  have ST1 := Lib.hid (ST.out _ L3.now.1.2 L3.now.2)
  clear hrow3 hb3 L2 FI FS
  by_cases hz : ns = 0
  · subst hz
    go_wp2_with (first
      | (go_at_call 13; (with_reducible refine ST1.out.mono ?_); (rintro e w4 ⟨rfl, hb4⟩; have L4 := L3.next hb4; have ST2 := Lib.hid (ST.out _ L4.now.1.2 L4.now.2)))
      | (go_at_call 13; (with_reducible refine ST2.out.mono ?_); (rintro e w9 ⟨rfl, hb9⟩)))
    go_ret
    exact ⟨rfl, (L4.next hb9).now.1.1.1.1⟩
  have hnz : ((ns : Int) == 0) = false := beq_eq_false_iff_ne.2 (by omega)
  have hnn : ¬ (ns : Int) = 0 := by omega
  have hok : storeOk xs = true := by
    cases e : storeOk xs with
    | true => rfl
    | false => rw [totsOf_no e] at Hts; rw [← Hts.out] at Hno; exact absurd Hno.out.symm hz
  obtain ⟨q, hq⟩ : ∃ q, m % ns = q := ⟨_, rfl⟩
  have hqk : q < ns := by rw [← hq]; exact Nat.mod_lt _ (by omega)
  have hrem : (m : Int).tmod (ns : Int) = (q : Int) := by rw [Int.tmod_eq_emod_of_nonneg (by omega), ← Int.natCast_emod, hq]
  have hqk' : (q : Int) < (ns : Int) := by omega
  have hwq : IntKind.i64.wrap (q : Int) = (q : Int) := IntWalk.i64_in _ (by omega)
  obtain ⟨b, off, rfl, hb, hx⟩ := L3.now.1.2.tot_at (by omega)
  have hql : q < ts.length := by rw [Hno.out]; exact hqk
  obtain ⟨h24, hen⟩ := store_entries hok
  have htot : ts = totsTo xs xs.length := by rw [← Hts.out, totsOf_yes hok]
  have hso : SortedTs ts := by rw [htot]; exact totsTo_sorted xs _ (Nat.le_refl _)
  have hoc := totsTo_ofC xs (nx ts q).cat xs.length (Nat.le_refl _)
  rw [← htot, totAtC, findT_mem hso (nx_mem hql), Hl.out] at hoc
  obtain ⟨cat, hcat⟩ : ∃ cat, (nx ts q).cat = cat := ⟨_, rfl⟩
  obtain ⟨t0, t1, t2⟩ := hx q hqk
  rw [hcat] at hoc t0
  have hoc1 : (nx ts q).many = (ofC xs cat k).1 := congrArg Prod.fst hoc
  have hoc2 : (nx ts q).sum = (ofC xs cat k).2 := congrArg Prod.snd hoc
  rw [hoc1] at t1
  rw [hoc2] at t2
  have NP := Lib.hid (fun (j : Nat) (hj : j < k) W G => nameParts_any (nx xs j).name W (EnB.small HE.out _ (nx_mem (by rw [Hl.out]; exact hj))).1 G)
  have T0 := Lib.hid (fun W (hW : Below w3.heap.size w3 W) => (hW.cell (p := ⟨b, off + q * 3, none⟩) hb).trans t0)
  have T1 := Lib.hid (fun W (hW : Below w3.heap.size w3 W) => (hW.cell (p := ⟨b, off + q * 3 + 1, none⟩) hb).trans t1)
  have T2 := Lib.hid (fun W (hW : Below w3.heap.size w3 W) => (hW.cell (p := ⟨b, off + q * 3 + 2, none⟩) hb).trans t2)
  obtain ⟨M, hM⟩ : ∃ M, (ofC xs cat k).1 = M := ⟨_, rfl⟩
  obtain ⟨S, hS⟩ : ∃ S, (ofC xs cat k).2 = S := ⟨_, rfl⟩
  have hMb := ofC_le HE.out cat k (by omega)
  rw [hM, hS] at hMb
  rw [hM] at T1
  rw [hS] at T2
  have HMS := Lib.hid (And.intro hM hS)
  obtain ⟨hM1, hM2, hS1, hS2⟩ := hMb
  clear hx hq hok h24 hen htot hso hoc hcat t0 t1 t2 hoc1 hoc2 hM hS hql hz
  go_wp2_with (first
    | (go_at_call 13; (with_reducible refine ST1.out.mono ?_); (rintro e w4 ⟨rfl, hb4⟩; have L4 := L3.next hb4; have t0 := T0.out w4 hb4; have t1 := T1.out w4 hb4; have t2 := T2.out w4 hb4)))
  have LB := (L4.next ((Below.refl _ _).alloc (Nat.le_refl _) (.cells #[.string cat, .int .i64 M, .int .i64 S] 29)))
  have O0 : ofC xs cat 0 = (0, 0) := by unfold ofC; rw [List.take_zero]; rfl
  have HB0 := Lib.hid (Blk.new w4 29 #[.string cat, .int .i64 M, .int .i64 S])
  have HBB := Lib.hid ((Below.refl w4.heap.size w4).alloc (Nat.le_refl _) (.cells #[.string cat, .int .i64 M, .int .i64 S] 29))
  clear t0 t1 t2 ST ST1 L3 hb4
  go_loopw [9] (fun i wr => ∃ j : Nat, j ≤ k ∧ i = .int .i64 (j : Int) ∧ Blk wr w4.heap.size 29 #[.string cat, .int .i64 (M - (ofC xs cat j).1), .int .i64 (S - (ofC xs cat j).2)] ∧ Hid (Below w4.heap.size w4 wr)) (fun i _ => k - (intOf i).toNat)
  case atStart => exact ⟨0, Nat.zero_le _, rfl, by rw [O0]; simpa using HB0.out, HBB⟩
  case round =>
    obtain ⟨j, hj, rfl, hblk, HB⟩ := hrel
    have LW := L4.next HB.out
    by_cases hlt : j < k
    · have hlt' : (j : Int) < (k : Int) := by omega
      obtain ⟨bx, offx, rfl, hbx, hx⟩ := L4.now.1.1.2.en_at (by omega)
      have c30 := (hx j _ (nx_get (by rw [Hl.out]; exact hlt))).2.2.2
      obtain ⟨c0, c1, c2, c3⟩ := (hx j _ (nx_get (by rw [Hl.out]; exact hlt))).below HB.out hbx
      have hjl : j < xs.length := by rw [Hl.out]; exact hlt
      have NP1 := Lib.hid (NP.out j hlt wr LW.now.1.1.1.2)
      have Hb0 := Lib.hid hblk
      have o1 := ofC_le HE.out cat j (by omega)
      have o2 := ofC_le HE.out cat (j + 1) (by omega)
      have hyes := @ofC_yes xs cat j hjl
      have hno := @ofC_no xs cat j hjl
      have hdat : (nx xs j).ev.data = (nx xs j).ev.data := rfl
      obtain ⟨⟨nm, ⟨id, kind, data⟩⟩, he⟩ : ∃ e, nx xs j = e := ⟨_, rfl⟩
      rw [he] at c0 c1 c2 c3 c30 NP1 hyes hno
      simp only at c0 c1 c2 c3 c30 hyes hno
      have Hx := Lib.hid (fun W (hW : Below wr.heap.size wr W) => (hW.cell (p := ⟨bx, offx + j * 4 + 3, none⟩) (Nat.lt_of_lt_of_le hbx HB.out.size)).trans c3)
      obtain ⟨⟨p1, p2⟩, hp⟩ : ∃ p, ofC xs cat j = p := ⟨_, rfl⟩
      obtain ⟨⟨r1, r2⟩, hr⟩ : ∃ r, ofC xs cat (j + 1) = r := ⟨_, rfl⟩
      rw [hp] at Hb0 o1 hyes hno
      rw [hr] at o2 hyes hno
      have Hr := Lib.hid hr
      simp only at Hb0 o1 o2 hyes hno
      obtain ⟨o11, o12, o13, o14⟩ := o1
      obtain ⟨o21, o22, o23, o24⟩ := o2
      clear hblk hx he hp hr hdat
      go_wp2_with fail
      refine NP1.out.mono ?_
      rintro e w6 ⟨⟨cc, rfl, hcc⟩, hb6⟩
      obtain rfl := catOf_is hcc
      have B6 := Hb0.out.next hb6
      have HB6 := Lib.hid (HB.out.trans (hb6.mono HB.out.size))
      have d0 := B6.cell 0
      have d1 := B6.cell 1
      have d2 := B6.cell 2
      have f1 := B6.frozen 1
      have f2 := B6.frozen 2
      have c3 := Hx.out w6 hb6
      have HBk := Lib.hid B6
      have hbne : ¬ bx = w4.heap.size := by omega
      have hbne2 : ¬ w4.heap.size = bx := by omega
      clear hcc B6
      by_cases hcat : catOf nm = cat
      · have hy := hyes hcat
        have hy1 : r1 = p1 + 1 := congrArg Prod.fst hy
        have hy2 : r2 = p2 + data := congrArg Prod.snd hy
        have e1 : ((catOf nm).toList == cat.toList) = true := by rw [hcat]; exact beq_self_eq_true _
        have hw1 : IntKind.i64.wrap (M - p1 - 1) = M - r1 := by rw [IntWalk.i64_in _ (by omega)]; omega
        have hw2 : IntKind.i64.wrap (S - p2 - data) = S - r2 := by rw [IntWalk.i64_in _ (by omega)]; omega
        clear hyes hno hy hy1 hy2 hcat
        go_wp2_with fail
        have B7 := HBk.out.set_ 1 (.int .i64 (M - r1))
        have HB7 := Lib.hid (HB6.out.setCell (p := ⟨w4.heap.size, 1, none⟩) (Nat.le_refl _) (.int .i64 (M - r1)))
        generalize w6.setCell ⟨w4.heap.size, 1, none⟩ (.int .i64 (M - r1)) = w7 at *
        have HBk7 := Lib.hid (show Blk w7 w4.heap.size 29 #[.string cat, .int .i64 (M - r1), .int .i64 (S - p2)] from B7)
        clear d0 d1 d2 f1 f2 c3 B7
        have d2 : w7.cell? ⟨w4.heap.size, 2, none⟩ = some (.int .i64 (S - p2)) := HBk7.out.cell 2
        have f2 := HBk7.out.frozen 2
        have c3 := (HB7.out.cell (p := ⟨bx, offx + j * 4 + 3, none⟩) hbx).trans c30
        have HBk8 := Lib.hid (show Blk (w7.setCell ⟨w4.heap.size, 2, none⟩ (.int .i64 (S - r2))) w4.heap.size 29 #[.string cat, .int .i64 (M - r1), .int .i64 (S - r2)] from HBk7.out.set_ 2 (.int .i64 (S - r2)))
        have HB8 := Lib.hid (HB7.out.setCell (p := ⟨w4.heap.size, 2, none⟩) (Nat.le_refl _) (.int .i64 (S - r2)))
        go_region
        all_goals
          go_wp2_with fail
          go_roundw
          case rel => exact ⟨j + 1, by omega, by go_num, by rw [Hr.out]; first | exact HBk8.out | exact HBk8.out.drewN 1, by first | exact HB8 | exact Lib.hid HB8.out.drew⟩
          case measure => simp [intOf]; omega
      · have hy := hno hcat
        have hy1 : r1 = p1 := congrArg Prod.fst hy
        have hy2 : r2 = p2 := congrArg Prod.snd hy
        have e1 : ((catOf nm).toList == cat.toList) = false := toList_ne hcat
        clear hyes hno hy hcat
        subst hy1 hy2
        go_wp2_with fail
        go_roundw
        case rel => exact ⟨j + 1, by omega, by go_num, by rw [Hr.out]; exact HBk.out, HB6⟩
        case measure => simp [intOf]; omega
    · obtain rfl : j = k := by omega
      have hlt' : ¬ (j : Int) < (j : Int) := by omega
      rw [HMS.out.1, HMS.out.2, Int.sub_self, Int.sub_self] at hblk
      have d1 := hblk.cell 1
      have d2 := hblk.cell 2
      go_wp2_with fail
      go_ret
      exact ⟨rfl, LW.now.1.1.1.1⟩
end Go.Proofs.YtlaolhhkchgakaaDoor
