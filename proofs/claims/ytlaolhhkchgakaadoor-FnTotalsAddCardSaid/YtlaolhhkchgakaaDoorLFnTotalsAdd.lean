/- The walk of laws.FnTotalsAdd. -/
import Derived.Test.YtlaolhhkchgakaaDoorLFnTotalsOne
import Derived.BigQuiet
namespace Go.Proofs.YtlaolhhkchgakaaDoor
set_option linter.unusedVariables false
set_option linter.unusedSimpArgs false
open Go.RowKit

theorem findRet_at {ts : List Tot} (s : ByteArray) : ∃ (ac : ByteArray) (ap : Bool), findRet (findT ts s) = .tuple #[.agg #[.string ac, .int .i64 (totAtC ts s).1, .int .i64 (totAtC ts s).2], .bool ap] := by
  unfold totAtC
  cases h : findT ts s with
  | none => exact ⟨_, _, rfl⟩
  | some t => exact ⟨_, _, rfl⟩
theorem totAtC_le {ts : List Tot} (h : TotsSm ts) (s : ByteArray) : 0 ≤ (totAtC ts s).1 ∧ (totAtC ts s).1 ≤ 100 ∧ 0 ≤ (totAtC ts s).2 ∧ (totAtC ts s).2 ≤ 100000 := by
  unfold totAtC
  cases hf : findT ts s with
  | none => exact ⟨by decide, by decide, by decide, by decide⟩
  | some t =>
    have := h t (List.mem_of_find?_eq_some hf)
    exact ⟨this.2.1.1, this.2.1.2, this.2.2.1, this.2.2.2⟩
set_option maxRecDepth 100000 in
set_option maxHeartbeats 8000000 in
theorem law_FnTotalsAdd (A : Option Addr) (n c : Nat) (w : World) (h : Code w A n c) (hg : GE w) :
    Calls Tryd.prog 5 #[.slice A n c] w fun e w' => e = .returned (.bool true) ∧ Below w.heap.size w w' := by
  have hn := h.2.1
  unfold maxLen at hn
  by_cases hbig : (1048576 : Int) < n
  · go_enter Tryd.func5, Tryd.ntmps5
    go_wp2_with fail
    go_ret
    exact ⟨rfl, Below.refl _ _⟩
  have HC := Lib.hid h
  have L0 := (Live.since (Below.refl w.heap.size w)).and (Live.ge hg)
  clear h hg
  go_enter Tryd.func5, Tryd.ntmps5
  go_wp2_with fail
  refine (drawTotalsAdd_any A n c _ HC.out).mono ?_
  rintro e w1 ⟨Ax, k, cx, ts, name, id, kind, data, rfl, hrow, HTS, HEN, hk, hkc, Hnil, hb1⟩
  have L1 := (((L0.next hb1).and (Live.row hrow)).next ((Below.refl _ _).alloc (Nat.le_refl _) (.cells #[.string name, .int .i64 id, .string kind, .int .i64 data] 35))).and (Live.blk (Blk.new w1 35 #[.string name, .int .i64 id, .string kind, .int .i64 data]))
  have a0 := L1.now.2.cell 0
  have a1 := L1.now.2.cell 1
  have a2 := L1.now.2.cell 2
  have a3 := L1.now.2.cell 3
  have Hl := Lib.hid hrow.1
  have FI := Lib.hid (fun W H G => totsAdd_any Ax k cx ts name kind id data W H HTS.out.small (small60 HEN.out.1) (small60 HEN.out.2.1) (by omega) hkc Hnil.out G)
  have FS := Lib.hid (fun W H => totsAddS_any Ax k cx ts name kind id data W H HTS.out.small (small60 HEN.out.1) (small60 HEN.out.2.1) (by omega))
  have hlen := totsAdd_len ts ⟨name, ⟨id, kind, data⟩⟩
  have hok0 := @totsAdd_ok ts ⟨name, ⟨id, kind, data⟩⟩
  obtain ⟨⟨zs, ok⟩, hp⟩ : ∃ p, totsAdd ts ⟨name, ⟨id, kind, data⟩⟩ = p := ⟨_, rfl⟩
  rw [hp] at FI FS hlen
  have HP := Lib.hid hp
  have Hok := Lib.hid (fun (e : ok = true) => hok0 (zs := zs) (by rw [hp, e]))
  have Hz1 : Hid (zs.length ≤ k + 1) := Lib.hid (by have : zs.length ≤ ts.length + 1 := hlen; rw [Hl.out] at this; omega)
  clear hrow hb1 L0 hp hlen hok0
  go_wp2_with fail
  refine (FI.out _ L1.now.1.2 L1.now.1.1.2).mono ?_
  rintro e w2 ⟨Ao, no, co, rfl, hrow2, hnc2, Hn2, hb2⟩
  have L2 := (L1.next hb2).and (Live.row hrow2)
  have Hno : Hid (zs.length = no) := Lib.hid hrow2.1
  have a0 := L2.now.1.2.cell 0
  have a1 := L2.now.1.2.cell 1
  have a2 := L2.now.1.2.cell 2
  have a3 := L2.now.1.2.cell 3
  clear hrow2 hb2 L1
  go_wp2_with fail
  refine (FS.out _ L2.now.1.1.2).mono ?_
  rintro e w3 ⟨As, ns, cs, rfl, hrow3, hnc3, Hn3, hb3⟩
  obtain rfl : ns = no := hrow3.1.symm.trans Hno.out
  have L3 := (L2.next hb3).and (Live.row hrow3)
  have hns : ns ≤ k + 1 := by rw [← Hno.out]; exact Hz1.out
  have ST := Lib.hid (fun W H H' => sameTotals_any Ao As ns co ns cs zs zs W H H' (by omega) (by omega))
  rw [sameL_refl] at ST
  have ST1 := Lib.hid (ST.out _ L3.now.1.2 L3.now.2)
  clear hrow3 hb3 L2 FI FS a0 a1 a2 a3
  cases ok with
  | false =>
    go_wp2_with (first
      | (go_at_call 13; (with_reducible refine ST1.out.mono ?_); (rintro e w4 ⟨rfl, hb4⟩; have L4 := L3.next hb4; have ST2 := Lib.hid (ST.out _ L4.now.1.2 L4.now.2)))
      | (go_at_call 13; (with_reducible refine ST2.out.mono ?_); (rintro e w9 ⟨rfl, hb9⟩)))
    go_ret
    exact ⟨rfl, (L4.next hb9).now.1.1.1.1.1⟩
  | true =>
    obtain ⟨o1, o2, o3, o4, o5⟩ := Hok.out rfl
    have hso := (totsOk_iff2.1 o1).2.1
    have hfz := totAtC_put (t := totOf ⟨name, ⟨id, kind, data⟩⟩) hso
    rw [← o3, show (totOf ⟨name, ⟨id, kind, data⟩⟩).cat = catOf name from rfl] at hfz
    have Hfo := Lib.hid (fun j (hj : j < k) (hne : (nx ts j).cat ≠ catOf name) => by
      have h1 := findT_other (l := ts) (t := totOf ⟨name, ⟨id, kind, data⟩⟩) (c := (nx ts j).cat) (fun e => hne e.symm)
      rw [← o3, findT_mem hso (nx_mem (by rw [Hl.out]; exact hj))] at h1
      exact h1)
    obtain ⟨ac, ap, hfa⟩ := findRet_at (ts := ts) (catOf name)
    obtain ⟨u1, u2, u3, u4⟩ := totAtC_le HTS.out (catOf name)
    obtain ⟨am, ham⟩ : ∃ am, (totAtC ts (catOf name)).1 = am := ⟨_, rfl⟩
    obtain ⟨az, has⟩ : ∃ az, (totAtC ts (catOf name)).2 = az := ⟨_, rfl⟩
    rw [ham, has] at hfa hfz
    rw [ham] at u1 u2
    rw [has] at u3 u4
    have hd1 := HEN.out.2.2.2.2
    simp only at hd1
    obtain ⟨hd1, hd2⟩ := hd1
    have TF1 := Lib.hid (fun W H => totsFind_any Ax k cx ts (catOf name) W H o1)
    have TF2 := Lib.hid (fun W H => totsFind_any Ao ns co zs (catOf name) W H o4)
    rw [hfa] at TF1
    rw [hfz] at TF2
    have TF2' : Hid (∀ W, Row totCells 3 W W.heap.size Ao ns zs → Calls Tryd.prog 24 #[.slice Ao ns co, .string (catOf name)] W fun e w' => e = .returned (.tuple #[.agg #[.string (catOf name), .int .i64 (am + 1), .int .i64 (az + data)], .bool true]) ∧ Below W.heap.size W w') := Lib.hid (fun W H => TF2.out W H)
    have TF3 := Lib.hid (fun (s : ByteArray) W H => totsFind_any Ao ns co zs s W H o4)
    have NP := Lib.hid (fun W G => nameParts_any name W (small60 HEN.out.1) G)
    clear o1 o2 o3 o4 o5 hso hfz hfa ham has TF2
    have hw1 : IntKind.i64.wrap (am + 1) = am + 1 := IntWalk.i64_in _ (by omega)
    have hw2 : IntKind.i64.wrap (az + data) = az + data := IntWalk.i64_in _ (by omega)
    have hw3 : IntKind.i64.wrap ((ns : Int) - (k : Int)) = (ns : Int) - (k : Int) := IntWalk.i64_in _ (by omega)
    have hle1 : (ns : Int) - (k : Int) ≤ 1 := by omega
    go_wp2_with (first
      | (go_at_call 13; (with_reducible refine ST1.out.mono ?_); (rintro e w4 ⟨rfl, hb4⟩; have L4 := L3.next hb4; have a0 := L4.now.1.1.2.cell 0))
      | (go_at_call 14; (with_reducible refine (NP.out _ L4.now.1.1.1.1.2).mono ?_); (rintro e w5 ⟨⟨cc, rfl, hcc⟩, hb5⟩; obtain rfl := catOf_is hcc; have L5 := L4.next hb5))
      | (go_at_call 24; (with_reducible refine (TF1.out _ L5.now.1.1.1.2).mono ?_); (rintro e w6 ⟨rfl, hb6⟩; have L6 := ((L5.next hb6).next ((Below.refl _ _).alloc (Nat.le_refl _) (.cells #[.string ac, .int .i64 am, .int .i64 az] 29))).and (Live.blk (Blk.new w6 29 #[.string ac, .int .i64 am, .int .i64 az]))))
      | (go_at_call 24; (with_reducible refine (TF2'.out _ L6.now.1.1.2).mono ?_); (rintro e w7 ⟨rfl, hb7⟩; have L7 := ((L6.next hb7).next ((Below.refl _ _).alloc (Nat.le_refl _) (.cells #[.string (catOf name), .int .i64 (am + 1), .int .i64 (az + data)] 29))).and (Live.blk (Blk.new w7 29 #[.string (catOf name), .int .i64 (am + 1), .int .i64 (az + data)])))))
    generalize catOf name = cn at *
    have L8 := Lib.hid L7
    clear L3 L4 L5 L6 hb4 hb5 hb6 hb7 a0 ST ST1 TF1 TF2' NP
    go_loopw [16] (fun i wr => ∃ j : Nat, j ≤ k ∧ i = .int .i64 (j : Int) ∧ Hid (Below (w7.alloc (.cells #[.string cn, .int .i64 (am + 1), .int .i64 (az + data)] 29)).heap.size (w7.alloc (.cells #[.string cn, .int .i64 (am + 1), .int .i64 (az + data)] 29)) wr)) (fun i _ => k - (intOf i).toNat)
    case atStart => exact ⟨0, Nat.zero_le _, rfl, Lib.hid (Below.refl _ _)⟩
    case round =>
      obtain ⟨j, hj, rfl, HB⟩ := hrel
      have LW := L8.out.next HB.out
      by_cases hlt : j < k
      · have hlt' : (j : Int) < (k : Int) := by omega
        obtain ⟨b, off, rfl, hb, hx⟩ := LW.now.1.1.1.1.1.2.tot_at (by omega)
        obtain ⟨c0, c1, c2⟩ := hx j hlt
        have Hf := Lib.hid (Hfo.out j hlt)
        obtain ⟨⟨xc, xm, xs⟩, he⟩ : ∃ e, nx ts j = e := ⟨_, rfl⟩
        rw [he] at c0 c1 c2 Hf
        simp only at c0 c1 c2 Hf
        clear hx he
        by_cases hc : xc = cn
        · have e1 : (xc.toList == cn.toList) = true := by rw [hc]; exact beq_self_eq_true _
          clear hc
          go_wp2_with fail
          go_roundw
          case rel => exact ⟨j + 1, by omega, by go_num, HB⟩
          case measure => simp [intOf]; omega
        · have e1 : (xc.toList == cn.toList) = false := toList_ne hc
          have T := TF3.out xc wr LW.now.1.1.1.2
          rw [Hf.out hc] at T
          have HT : Hid (Calls Tryd.prog 24 #[.slice Ao ns co, .string xc] wr fun e w' => e = .returned (.tuple #[.agg #[.string xc, .int .i64 xm, .int .i64 xs], .bool true]) ∧ Below wr.heap.size wr w') := Lib.hid T
          have Hat := Lib.hid (fun W (hW : Below wr.heap.size wr W) => (show TotAt wr b (off + j * 3) ⟨xc, xm, xs⟩ from ⟨c0, c1, c2⟩).below hW hb)
          have el : (xc.toList == xc.toList) = true := beq_self_eq_true _
          clear T hc
          go_wp2_with fail
          refine HT.out.mono ?_
          rintro e w8 ⟨rfl, hb8⟩
          have hB8 := hb8.alloc hb8.size (.cells #[.string xc, .int .i64 xm, .int .i64 xs] 29)
          have HB8 := Lib.hid (HB.out.trans (hB8.mono HB.out.size))
          obtain ⟨d0, d1, d2⟩ := Hat.out _ hB8
          simp only at d0 d1 d2
          have BZ := Blk.new w8 29 #[.string xc, .int .i64 xm, .int .i64 xs]
          have z0 := BZ.cell 0
          have z1 := BZ.cell 1
          have z2 := BZ.cell 2
          clear c0 c1 c2 hb8 hB8 BZ
          obtain ⟨w9, hw9⟩ : ∃ w9, w8.alloc (.cells #[.string xc, .int .i64 xm, .int .i64 xs] 29) = w9 := ⟨_, rfl⟩
          go_wp2_with fail
          rw [hw9] at HB8 d0 d1 d2 z0 z1 z2
          clear hw9
          go_quiet (fail)
          go_wp2_with fail
          go_roundw
          case rel => exact ⟨j + 1, by omega, by go_num, by exact Lib.hid (below_drew_n HB8.out _)⟩
          case measure => simp [intOf]; omega
      · obtain rfl : j = k := by omega
        have hlt' : ¬ (j : Int) < (j : Int) := by omega
        have p0 := LW.now.2.cell 1
        have p1 := LW.now.2.cell 2
        have q0 := LW.now.1.2.cell 1
        have q1 := LW.now.1.2.cell 2
        have r3 := LW.now.1.1.1.1.2.cell 3
        go_wp2_with fail
        go_ret
        exact ⟨by first | rfl | simp, LW.now.1.1.1.1.1.1.1⟩
end Go.Proofs.YtlaolhhkchgakaaDoor
