/- The walk of laws.FnStripes. -/
import Derived.Test.YtecijlebfpbpaaaDoorStrI
import Derived.Test.YtecijlebfpbpaaaDoorStrS
import Derived.Test.YtecijlebfpbpaaaDoorDrawStr
import Derived.Test.YtecijlebfpbpaaaDoorOwnO
namespace Go.Proofs.YtecijlebfpbpaaaDoor
set_option linter.unusedVariables false
set_option linter.unusedSimpArgs false
open Go.RowKit

theorem stripesOf_some {ss : List ByteArray} {st : Int} (h : stripesOf ss st ≠ []) : (1 ≤ st ∧ st ≤ 8) ∧ (∀ s ∈ ss, nameOk s.data.toList = true) ∧ stripesOf ss st = strSet ss st.toNat := by
  unfold stripesOf at h ⊢
  split at h
  · rename_i h1
    rw [if_pos h1]
    exact ⟨h1.1, h1.2, rfl⟩
  · exact absurd rfl h
theorem stripesOf_len (ss : List ByteArray) (st : Int) : (stripesOf ss st).length ≤ 8 := by
  unfold stripesOf
  split
  · rename_i h1
    have := strSet_le ss st.toNat
    omega
  · exact Nat.zero_le _
set_option maxRecDepth 100000 in
set_option maxHeartbeats 8000000 in
theorem law_FnStripes (A : Option Addr) (n c : Nat) (w : World) (h : Code w A n c) (hg : GE w) :
    Calls Tryd.prog 6 #[.slice A n c] w fun e w' => e = .returned (.bool true) ∧ Below w.heap.size w w' := by
  have hn := h.2.1
  unfold maxLen at hn
  by_cases hbig : (1048576 : Int) < n
  · go_enter Tryd.func6, Tryd.ntmps6
    go_wp2_with fail
    go_ret
    exact ⟨rfl, Below.refl _ _⟩
  have HC := Lib.hid h
  have L0 := (Live.since (Below.refl w.heap.size w)).and (Live.ge hg)
  clear h hg
  go_enter Tryd.func6, Tryd.ntmps6
  go_wp2_with fail
  refine (drawStripesOf_any A n c _ HC.out).mono ?_
  rintro e w1 ⟨Ax, k, cx, ss, st, rfl, hrow, HS, hk, hkc, hb1⟩
  have L1 := (L0.next hb1).and (Live.strs hrow)
  have Hl := Lib.hid hrow.len
  have FI := Lib.hid (fun W H G => stripesOf_any Ax k cx ss st W H HS.out.all (by omega) G)
  have FS := Lib.hid (fun W H => stripesOfS_any Ax k cx ss st W H HS.out.all (by omega))
  have hlen := stripesOf_len ss st
  have Hsome := Lib.hid (@stripesOf_some ss st)
  obtain ⟨ts, hts⟩ : ∃ ts, stripesOf ss st = ts := ⟨_, rfl⟩
  rw [hts] at FI FS hlen Hsome
  have Hlen := Lib.hid hlen
  clear hrow hb1 L0 hts hlen
  go_wp2_with fail
  refine (FI.out _ L1.now.2 L1.now.1.2).mono ?_
  rintro e w2 ⟨Ao, no, co, rfl, hrow2, hnc2, Hn2, hb2⟩
  have L2 := (L1.next hb2).and (Live.row hrow2)
  have Hno : Hid (ts.length = no) := Lib.hid hrow2.1
  clear hrow2 hb2 L1
  go_wp2_with fail
  refine (FS.out _ L2.now.1.2).mono ?_
  rintro e w3 ⟨As, ns, cs, rfl, hrow3, hnc3, Hn3, hb3⟩
  obtain rfl : ns = no := hrow3.1.symm.trans Hno.out
  have L3 := (L2.next hb3).and (Live.row hrow3)
  have hns : ns ≤ 8 := by rw [← Hno.out]; exact Hlen.out
  have ST := Lib.hid (fun W H H' => sameNums_self Ao As ns co cs ts W H H' (by omega))
  have ST1 := Lib.hid (ST.out _ L3.now.1.2 L3.now.2)
  clear hrow3 hb3 L2 FI FS
  by_cases hz : ns = 0
  · subst hz
    go_wp2_with (first
      | (go_at_call 22; (with_reducible refine ST1.out.mono ?_); (rintro e w4 ⟨rfl, hb4⟩; have L4 := L3.next hb4; have ST2 := Lib.hid (ST.out _ L4.now.1.2 L4.now.2)))
      | (go_at_call 22; (with_reducible refine ST2.out.mono ?_); (rintro e w9 ⟨rfl, hb9⟩)))
    go_ret
    exact ⟨rfl, (L4.next hb9).now.1.1.1.1⟩
  have hnz : ((ns : Int) == 0) = false := beq_eq_false_iff_ne.2 (by omega)
  have hnn : ¬ (ns : Int) = 0 := by omega
  obtain ⟨hst, hok, hts⟩ := Hsome.out (fun e => hz (by rw [← Hno.out, e]; rfl))
  obtain ⟨q, rfl⟩ : ∃ q : Nat, st = (q : Int) := ⟨st.toNat, by omega⟩
  rw [Int.toNat_natCast] at hts
  have hq1 : 1 ≤ q := by omega
  have hq8 : q ≤ 8 := by omega
  have Hsort := Lib.hid (strSet_sorted ss q)
  have hle1 := strSet_len (ss := ss) hq1 ss.length (Nat.le_refl _)
  rw [List.take_length] at hle1
  have hle2 := strSet_le ss q
  rw [← hts, Hno.out, Hl.out] at hle1
  rw [← hts, Hno.out] at hle2
  rw [← hts] at Hsort
  have hle1' : (ns : Int) ≤ (k : Int) := by omega
  have hle2' : (ns : Int) ≤ (q : Int) := by omega
  have NS := Lib.hid (fun (j : Nat) (hj : j < k) W (G : GE W) => nameStripe_at (nx ss j) q W (HS.out.all _ (nx_mem (by rw [Hl.out]; exact hj))) G (hok _ (nx_mem (by rw [Hl.out]; exact hj))) hq1 hq8)
  have HI := Lib.hid (fun (j : Nat) (hj : j < k) W H => hasInt_yes Ao ns co ts (stripeOf (nx ss j).data.toList q) W H (by omega) (by
    rw [hts]; exact (strSet_mem hq1).2 ⟨nx ss j, nx_mem (by rw [Hl.out]; exact hj), rfl⟩))
  clear hok hts hst hz Hsome
  go_wp2_with (go_at_call 22; (with_reducible refine ST1.out.mono ?_); (rintro e w4 ⟨rfl, hb4⟩; have L4 := L3.next hb4))
  clear ST ST1 L3 hb4
  go_loopw [7] (fun i wr => ∃ j : Nat, j ≤ ns ∧ 1 ≤ j ∧ i = .int .i64 (j : Int) ∧ Hid (Below w4.heap.size w4 wr)) (fun i _ => ns - (intOf i).toNat)
  case atStart => exact ⟨1, by omega, Nat.le_refl _, rfl, Lib.hid (Below.refl _ _)⟩
  case round =>
    obtain ⟨j, hj, hj1, rfl, HB⟩ := hrel
    have LW := L4.next HB.out
    by_cases hlt : j < ns
    · have hlt' : (j : Int) < (ns : Int) := by omega
      obtain ⟨b, off, rfl, hb, hx⟩ := LW.now.1.2.int_at (by omega)
      obtain ⟨j', rfl⟩ : ∃ j', j = j' + 1 := ⟨j - 1, by omega⟩
      have hl1 : j' + 1 < ts.length := by rw [Hno.out]; exact hlt
      have hxx := nx_get hl1
      have hyy := nx_get (l := ts) (k := j') (by omega)
      have hlt2 : nx ts j' < nx ts (j' + 1) := by
        have := List.pairwise_iff_getElem.1 Hsort.out j' (j' + 1) (by omega) hl1 (by omega)
        rw [nx_eq (by omega), nx_eq hl1]; exact this
      obtain ⟨x, hx1⟩ : ∃ x, nx ts (j' + 1) = x := ⟨_, rfl⟩
      obtain ⟨y, hy1⟩ : ∃ y, nx ts j' = y := ⟨_, rfl⟩
      rw [hx1] at hxx hlt2
      rw [hy1] at hyy hlt2
      have c0 := fun y0 : On wr => (show y0.W.cell? ⟨b, off + (j' + 1), none⟩ = some (.int .i64 (x : Int)) from (y0.below.cell (p := ⟨b, off + (j' + 1), none⟩) hb).trans (hx _ _ hxx))
      have c1 := fun y0 : On wr => (show y0.W.cell? ⟨b, off + j', none⟩ = some (.int .i64 (y : Int)) from (y0.below.cell (p := ⟨b, off + j', none⟩) hb).trans (hx _ _ hyy))
      have hge : decide ((y : Int) ≥ (x : Int)) = false := decide_eq_false (by omega)
      have hyx : ¬ (x : Int) ≤ (y : Int) := by omega
      have hi1 : ((j' + 1 : Nat) : Int) - 1 = (j' : Int) := by omega
      have hmi : (j' : Int) < (ns : Int) := by omega
      clear hx hxx hyy hx1 hy1 hlt2
      go_wp2_with fail
      refine wp_region_on (by kernel_rfl) (by kernel_rfl) ?_
      repeat (go_big_quiet_step (fail))
      refine wpQuiet_nil ?_
      intro w7 hw'
      obtain ⟨⟨w7b, hb7⟩, hw''⟩ := hw'
      obtain rfl : w7 = w7b := hw''
      go_wp2_with fail
      go_roundw
      case rel => exact ⟨j' + 1 + 1, by omega, by omega, by go_num, Lib.hid (HB.out.trans (hb7.mono HB.out.size))⟩
      case measure => simp [intOf]; omega
    · obtain rfl : j = ns := by omega
      have hlt' : ¬ (j : Int) < (j : Int) := by omega
      go_wp2_with fail
      go_loopw [8] (fun i wr => ∃ m : Nat, m ≤ k ∧ i = .int .i64 (m : Int) ∧ Hid (Below w4.heap.size w4 wr)) (fun i _ => k - (intOf i).toNat)
      case atStart => exact ⟨0, Nat.zero_le _, rfl, HB⟩
      case round =>
        obtain ⟨m, hm, rfl, HB2⟩ := hrel
        have LV := L4.next HB2.out
        by_cases hmt : m < k
        · have hmt' : (m : Int) < (k : Int) := by omega
          obtain ⟨b, off, rfl, hb, hx⟩ := LV.now.1.1.2.at_ (by omega)
          have c0 := hx m _ (nx_get (by rw [Hl.out]; exact hmt))
          have N1 := Lib.hid (NS.out m hmt _ LV.now.1.1.1.2)
          have H1 := Lib.hid (HI.out m hmt)
          clear hx
          go_wp2_with (first
            | (go_at_call 24; (with_reducible refine N1.out.mono ?_); (rintro e w5 ⟨rfl, hb5⟩; have L5 := LV.next hb5))
            | (go_at_call 23; (with_reducible refine (H1.out _ L5.now.1.2).mono ?_); (rintro e w6 ⟨rfl, hb6⟩)))
          go_roundw
          case rel => exact ⟨m + 1, by omega, by go_num, Lib.hid (HB2.out.trans ((bt hb5 hb6).mono HB2.out.size))⟩
          case measure => simp [intOf]; omega
        · obtain rfl : m = k := by omega
          have hmt' : ¬ (m : Int) < (m : Int) := by omega
          go_wp2_with fail
          go_ret
          exact ⟨by first | rfl | simp, LV.now.1.1.1.1⟩
end Go.Proofs.YtecijlebfpbpaaaDoor
