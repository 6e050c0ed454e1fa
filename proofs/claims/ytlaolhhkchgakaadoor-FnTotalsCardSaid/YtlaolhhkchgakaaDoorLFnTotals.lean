/- The walk of laws.FnTotals. -/
import Derived.Test.YtlaolhhkchgakaaDoorTotI
import Derived.Test.YtlaolhhkchgakaaDoorSameTo
import Derived.Test.YtlaolhhkchgakaaDoorDrawTo
namespace Go.Proofs.YtlaolhhkchgakaaDoor
set_option linter.unusedVariables false
set_option linter.unusedSimpArgs false
open Go.RowKit

theorem sumM_le {l : List Tot} (h : TotsB l) : -1000000 * (l.length : Int) ≤ sumM l ∧ sumM l ≤ 1000000 * (l.length : Int) := by
  unfold sumM
  induction l with
  | nil => simp
  | cons x l ih =>
    have := ih (fun y hy => h y (by simp [hy]))
    have hx := (h x (by simp)).2.1
    rw [List.map_cons, List.sum_cons, List.length_cons]
    omega
theorem sumS_le {l : List Tot} (h : TotsB l) : -1000000000 * (l.length : Int) ≤ sumS l ∧ sumS l ≤ 1000000000 * (l.length : Int) := by
  unfold sumS
  induction l with
  | nil => simp
  | cons x l ih =>
    have := ih (fun y hy => h y (by simp [hy]))
    have hx := (h x (by simp)).2.2
    rw [List.map_cons, List.sum_cons, List.length_cons]
    omega
theorem sumD_le {l : List En} (h : ∀ x ∈ l, EnB x) : -100000 * (l.length : Int) ≤ sumD l ∧ sumD l ≤ 100000 * (l.length : Int) := by
  unfold sumD
  induction l with
  | nil => simp
  | cons x l ih =>
    have := ih (fun y hy => h y (by simp [hy]))
    have hx := (h x (by simp)).2.2.2.2
    rw [List.map_cons, List.sum_cons, List.length_cons]
    omega
theorem sumM_snoc (l : List Tot) (x : Tot) : sumM (l ++ [x]) = sumM l + x.many := by simp [sumM]
theorem sumS_snoc (l : List Tot) (x : Tot) : sumS (l ++ [x]) = sumS l + x.sum := by simp [sumS]
theorem sumD_snoc (l : List En) (x : En) : sumD (l ++ [x]) = sumD l + x.ev.data := by simp [sumD]
theorem TotsB.take {l : List Tot} (h : TotsB l) (k : Nat) : TotsB (l.take k) := fun x hx => h x (List.mem_of_mem_take hx)
set_option maxRecDepth 100000 in
set_option maxHeartbeats 8000000 in
theorem law_FnTotals (A : Option Addr) (n c : Nat) (w : World) (h : Code w A n c) (hg : GE w) :
    Calls Tryd.prog 6 #[.slice A n c] w fun e w' => e = .returned (.bool true) ∧ Below w.heap.size w w' := by
  have hn := h.2.1
  unfold maxLen at hn
  by_cases hbig : (1048576 : Int) < n
  · go_enter Tryd.func6, Tryd.ntmps6
    go_wp2_with fail
    go_ret
    exact ⟨rfl, Below.refl _ _⟩
  have HC := Lib.hid h
  have L0 := (Live.since (Below.refl w.heap.size w)).and (Live.ge hg)
  clear h hg
  go_enter Tryd.func6, Tryd.ntmps6
  go_wp2_with fail
  refine (drawTotalsOf_any A n c _ HC.out).mono ?_
  rintro e w1 ⟨Ax, k, cx, xs, rfl, hrow, HE, hk, hkc, Hnil, hb1⟩
  have L1 := (L0.next hb1).and (Live.row hrow)
  have Hl := Lib.hid hrow.1
  have FI := Lib.hid (fun W H G => totsOf_any Ax k cx xs W H (EnB.small HE.out) (by omega) G)
  have FS := Lib.hid (fun W H => totsOfS_any Ax k cx xs W H (EnB.small HE.out) (by omega))
  have SV := Lib.hid (fun W H => storeValidS_any Ax k cx xs W H (EnB.small HE.out) (by omega))
  obtain ⟨ts, hts⟩ : ∃ ts, totsOf xs = ts := ⟨_, rfl⟩
  rw [hts] at FI FS
  have Hts := Lib.hid hts
  have Hlen : Hid (ts.length ≤ 30) := Lib.hid (by
    rw [← hts]
    unfold totsOf
    split
    · have := totsTo_len xs xs.length (Nat.le_refl _); rw [Hl.out] at this ⊢; omega
    · exact Nat.zero_le _)
  clear hrow hb1 L0 hts
  go_wp2_with fail
  refine (FI.out _ L1.now.2 L1.now.1.2).mono ?_
  rintro e w2 ⟨Ao, no, co, rfl, hrow2, hnc2, Hn2, hb2⟩
  have L2 := (L1.next hb2).and (Live.row hrow2)
  have Hno : Hid (ts.length = no) := Lib.hid hrow2.1
  clear hrow2 hb2 L1
  go_wp2_with fail
  refine (FS.out _ L2.now.1.2).mono ?_
  rintro e w3 ⟨As, ns, cs, rfl, hrow3, hnc3, Hn3, hb3⟩
  obtain rfl : ns = no := hrow3.1.symm.trans Hno.out
  have L3 := (L2.next hb3).and (Live.row hrow3)
  have hns : ns ≤ 30 := by rw [← Hno.out]; exact Hlen.out
  have ST := Lib.hid (fun W H H' => sameTotals_any Ao As ns co ns cs ts ts W H H' (by omega) (by omega))
  rw [sameL_refl] at ST
  have ST1 := Lib.hid (ST.out _ L3.now.1.2 L3.now.2)
  clear hrow3 hb3 L2 FI FS
  cases h1 : storeOk xs with
  | false =>
    rw [h1] at SV
    go_wp2_with (first
      | (go_at_call 13; (with_reducible refine ST1.out.mono ?_); (rintro e w4 ⟨rfl, hb4⟩; have L4 := L3.next hb4))
      | (go_at_call 19; refine (SV.out _ L4.now.1.1.2).mono ?_; rintro e w5 ⟨rfl, hb5⟩; have L5 := L4.next hb5; have ST2 := Lib.hid (ST.out _ L5.now.1.2 L5.now.2))
      | (go_at_call 13; (with_reducible refine ST2.out.mono ?_); (rintro e w9 ⟨rfl, hb9⟩)))
    go_ret
    exact ⟨rfl, (L5.next hb9).now.1.1.1.1⟩
  | true =>
  rw [h1] at SV
  obtain ⟨h24, hen⟩ := store_entries h1
  have htot : ts = totsTo xs xs.length := by rw [← Hts.out, totsOf_yes h1]
  have hok : totsOk ts = true := by rw [htot]; exact totsTo_ok hen _ (Nat.le_refl _) h24
  have Hok := Lib.hid hok
  have HTB := Lib.hid (totsOk_B hok)
  have HM : Hid (sumM ts = (k : Int)) := Lib.hid (by rw [htot, totsTo_sumM _ _ (Nat.le_refl _), Hl.out])
  have HS : Hid (sumS ts = sumD xs) := Lib.hid (by rw [htot, totsTo_sumS _ _ (Nat.le_refl _), List.take_length])
  have TV := Lib.hid (fun W H => totsValid_any Ao ns co ts W H (fun t ht => (HTB.out t ht).1) (by omega))
  rw [hok] at TV
  clear h24 hen htot hok h1
  go_wp2_with (first
    | (go_at_call 13; (with_reducible refine ST1.out.mono ?_); (rintro e w4 ⟨rfl, hb4⟩; have L4 := L3.next hb4))
    | (go_at_call 19; refine (SV.out _ L4.now.1.1.2).mono ?_; rintro e w5 ⟨rfl, hb5⟩; have L5 := L4.next hb5))
  clear ST ST1 SV L3 L4 hb4 hb5
  go_loop [6, 7, 8] (fun a b i => ∃ j : Nat, j ≤ ns ∧ i = .int .i64 (j : Int) ∧ a = .int .i64 (sumM (ts.take j)) ∧ b = .int .i64 (sumS (ts.take j))) (fun _ _ i => ns - (intOf i).toNat)
  case atStart => exact ⟨0, Nat.zero_le _, rfl, by rw [List.take_zero]; rfl, by rw [List.take_zero]; rfl⟩
  case round =>
    obtain ⟨j, hj, rfl, rfl, rfl⟩ := hrel
    by_cases hlt : j < ns
    · have hlt' : (j : Int) < (ns : Int) := by omega
      obtain ⟨b, off, rfl, hb, hx⟩ := L5.now.1.2.tot_at (by omega)
      obtain ⟨c0, c1, c2⟩ := hx j hlt
      have hjl : j < ts.length := by rw [Hno.out]; exact hlt
      have e1 := sumM_snoc (ts.take j) (nx ts j)
      have e2 := sumS_snoc (ts.take j) (nx ts j)
      rw [← take_nx hjl] at e1 e2
      have b1 := sumM_le (HTB.out.take (j + 1))
      have b2 := sumS_le (HTB.out.take (j + 1))
      have hl1 : (ts.take (j + 1)).length ≤ 30 := by rw [List.length_take]; omega
      have hw1 : IntKind.i64.wrap (sumM (ts.take j) + (nx ts j).many) = sumM (ts.take (j + 1)) := by rw [e1]; exact IntWalk.i64_in _ (by omega)
      have hw2 : IntKind.i64.wrap (sumS (ts.take j) + (nx ts j).sum) = sumS (ts.take (j + 1)) := by rw [e2]; exact IntWalk.i64_in _ (by omega)
      clear e1 e2 b1 b2 hl1 hx
      go_wp2_with fail
      go_round
      case rel => exact ⟨j + 1, by omega, by go_num, rfl, rfl⟩
      case measure => simp [intOf]; omega
    · obtain rfl : j = ns := by omega
      have hlt' : ¬ (j : Int) < (j : Int) := by omega
      rw [List.take_of_length_le (by rw [Hno.out]; exact Nat.le_refl _), HM.out, HS.out]
      go_wp2_with fail
      go_loop [7, 9] (fun b i => ∃ m : Nat, m ≤ k ∧ i = .int .i64 (m : Int) ∧ b = .int .i64 (sumD xs - sumD (xs.take m))) (fun _ i => k - (intOf i).toNat)
      case atStart => exact ⟨0, Nat.zero_le _, rfl, by rw [List.take_zero]; show _ = Value.int _ (_ - 0); rw [Int.sub_zero]⟩
      case round =>
        obtain ⟨m, hm, rfl, rfl⟩ := hrel
        by_cases hmt : m < k
        · have hmt' : (m : Int) < (k : Int) := by omega
          obtain ⟨b, off, rfl, hb, hx⟩ := L5.now.1.1.2.en_at (by omega)
          obtain ⟨c0, c1, c2, c3⟩ := hx m _ (nx_get (by rw [Hl.out]; exact hmt))
          have hml : m < xs.length := by rw [Hl.out]; exact hmt
          have e1 := sumD_snoc (xs.take m) (nx xs m)
          rw [← take_nx hml] at e1
          have b1 := sumD_le (l := xs.take (m + 1)) (fun x hx => HE.out x (List.mem_of_mem_take hx))
          have b2 := sumD_le (l := xs) HE.out
          have hl1 : (xs.take (m + 1)).length ≤ 30 := by rw [List.length_take]; omega
          have hl2 : xs.length ≤ 30 := by rw [Hl.out]; exact hk
          have hw1 : IntKind.i64.wrap (sumD xs - sumD (xs.take m) - (nx xs m).ev.data) = sumD xs - sumD (xs.take (m + 1)) := by rw [IntWalk.i64_in _ (by omega), e1]; omega
          clear e1 b1 b2 hl1 hl2 hx
          go_wp2_with fail
          go_round
          case rel => exact ⟨m + 1, by omega, by go_num, rfl⟩
          case measure => simp [intOf]; omega
        · obtain rfl : m = k := by omega
          have hmt' : ¬ (m : Int) < (m : Int) := by omega
          rw [List.take_of_length_le (by rw [Hl.out]; exact Nat.le_refl _), Int.sub_self]
          go_wp2_with (go_at_call 25; refine (TV.out _ L5.now.1.2).mono ?_; rintro e w6 ⟨rfl, hb6⟩)
          go_ret
          exact ⟨rfl, (L5.next hb6).now.1.1.1.1⟩
end Go.Proofs.YtlaolhhkchgakaaDoor
