/- The walk of laws.FnStripesOrder. -/
import Derived.Test.YtecijlebfpbpaaaDoorLFnStripes
namespace Go.Proofs.YtecijlebfpbpaaaDoor
set_option linter.unusedVariables false
set_option linter.unusedSimpArgs false
open Go.RowKit

theorem stripesOf_rev (ss : List ByteArray) (st : Int) : stripesOf ss.reverse st = stripesOf ss st := by
  unfold stripesOf
  by_cases h : (1 ≤ st ∧ st ≤ 8) ∧ ∀ s ∈ ss, nameOk s.data.toList = true
  · rw [if_pos h, if_pos ⟨h.1, fun s hs => h.2 s (List.mem_reverse.1 hs)⟩, strSet_rev ss (by omega)]
  · rw [if_neg h, if_neg (fun e => h ⟨e.1, fun s hs => e.2 s (List.mem_reverse.2 hs)⟩)]
theorem drop_rev {ss : List ByteArray} {j : Nat} (h : j < ss.length) : (ss.drop j).reverse = (ss.drop (j + 1)).reverse ++ [nx ss j] := by
  rw [nx_eq h, List.drop_eq_getElem_cons h, List.reverse_cons]
set_option maxRecDepth 100000 in
set_option maxHeartbeats 8000000 in
theorem law_FnStripesOrder (A : Option Addr) (n c : Nat) (w : World) (h : Code w A n c) (hg : GE w) :
    Calls Tryd.prog 5 #[.slice A n c] w fun e w' => e = .returned (.bool true) ∧ Below w.heap.size w w' := by
  have hn := h.2.1
  unfold maxLen at hn
  by_cases hbig : (1048576 : Int) < n
  · go_enter Tryd.func5, Tryd.ntmps5
    go_wp2_with fail
    go_ret
    exact ⟨rfl, Below.refl _ _⟩
  have HC := Lib.hid h
  have L0 := (Live.since (Below.refl w.heap.size w)).and (Live.ge hg)
  clear h hg
  go_enter Tryd.func5, Tryd.ntmps5
  go_wp2_with fail
  refine (drawStripesOf_any A n c _ HC.out).mono ?_
  rintro e w1 ⟨Ax, k, cx, ss, st, rfl, hrow, HS, hk, hkc, hb1⟩
  have L1 := (L0.next hb1).and (Live.strs hrow)
  have Hl := Lib.hid hrow.len
  have FI := Lib.hid (fun W H G => stripesOf_any Ax k cx ss st W H HS.out.all (by omega) G)
  have FS := Lib.hid (fun W H => stripesOfS_any Ax k cx ss st W H HS.out.all (by omega))
  have FR := Lib.hid (fun B d W (H : Strs W W.heap.size B k ss.reverse) G => stripesOf_any B k d ss.reverse st W H (fun x hx => HS.out.all x (List.mem_reverse.1 hx)) (by omega) G)
  rw [stripesOf_rev] at FR
  have hlen := stripesOf_len ss st
  obtain ⟨ts, hts⟩ : ∃ ts, stripesOf ss st = ts := ⟨_, rfl⟩
  rw [hts] at FI FS FR hlen
  have Hlen := Lib.hid hlen
  clear hrow hb1 L0 hts hlen
  go_wp2_with fail
  refine (FI.out _ L1.now.2 L1.now.1.2).mono ?_
  rintro e w2 ⟨Ao, no, co, rfl, hrow2, hnc2, Hn2, hb2⟩
  have L2 := (L1.next hb2).and (Live.row hrow2)
  have Hno : Hid (ts.length = no) := Lib.hid hrow2.1
  clear hrow2 hb2 L1
  go_wp2_with fail
  refine (FS.out _ L2.now.1.2).mono ?_
  rintro e w3 ⟨As, ns, cs, rfl, hrow3, hnc3, Hn3, hb3⟩
  obtain rfl : ns = no := hrow3.1.symm.trans Hno.out
  have L3 := (L2.next hb3).and (Live.row hrow3)
  have hns : ns ≤ 8 := by rw [← Hno.out]; exact Hlen.out
  have ST1 := Lib.hid (sameNums_self Ao As ns co cs ts _ L3.now.1.2 L3.now.2 (by omega))
  clear hrow3 hb3 L2 FI FS
  go_wp2_with (go_at_call 22; (with_reducible refine ST1.out.mono ?_); (rintro e w4 ⟨rfl, hb4⟩; have L4 := L3.next hb4))
  clear ST1 L3 hb4
  have O0 := Lib.hid (show (w4.alloc (.cells #[] 9)).ownsRow w4.heap.size 9 1 (.slice (some ⟨w4.heap.size, 0, none⟩) 0 0) 0 ((ss.drop k).reverse.map Value.string) from by rw [List.drop_eq_nil_of_le (by rw [Hl.out]; exact Nat.le_refl _)]; exact World.ownsRow_lit w4 #[] 0 (Nat.le_refl _) (Nat.zero_le _) rfl)
  have hw1 : IntKind.i64.wrap ((k : Int) - 1) = (k : Int) - 1 := IntWalk.i64_in _ (by omega)
  go_loopw [7, 8] (fun v i wr => ∃ j : Nat, j ≤ k ∧ i = .int .i64 ((j : Int) - 1) ∧ wr.ownsRow w4.heap.size 9 1 v (k - j) ((ss.drop j).reverse.map Value.string) ∧ Hid (Below w4.heap.size w4 wr)) (fun _ i _ => ((intOf i) + 1).toNat)
  case atStart => exact ⟨k, Nat.le_refl _, by first | rfl | (rw [hw1]), by rw [Nat.sub_self]; exact O0.out, Lib.hid ((Below.refl _ _).alloc (Nat.le_refl _) _)⟩
  case round =>
    obtain ⟨j, hj, rfl, hown, HB⟩ := hrel
    have HO := Lib.hid hown
    have LW := L4.next HB.out
    clear hown
    by_cases hj0 : 0 < j
    · obtain ⟨j', rfl⟩ : ∃ j', j = j' + 1 := ⟨j - 1, by omega⟩
      have hi1 : ((j' + 1 : Nat) : Int) - 1 = (j' : Int) := by omega
      rw [hi1]
      have hge : (0 : Int) ≤ (j' : Int) := by omega
      have hjk : (j' : Int) < (k : Int) := by omega
      obtain ⟨b, off, rfl, hb, hx⟩ := LW.now.1.1.2.at_ (by omega)
      have hjl : j' < ss.length := by rw [Hl.out]; omega
      have c0 := hx j' _ (nx_get hjl)
      have Hdr := Lib.hid (drop_rev hjl)
      have hkj : k - j' = k - (j' + 1) + 1 := by omega
      clear hx
      go_wp2_with (at_builtin; go_must (refine app_strB wr rfl _ _ rfl w4.heap.size _ (k - (j' + 1)) (ss.drop (j' + 1)).reverse rfl (by exact HO.out) (nx ss j') rfl ?_ ?_ ?_); omega; exact HB.out.size; intro v' w5 own5 grow5 or5)
      have HB5 := Lib.hid (own_below HO.out (Nat.le_refl _) HB.out HB.out.size grow5)
      rw [← Hdr.out, ← hkj] at own5
      have HO5 := Lib.hid own5
      clear own5 grow5 or5
      go_roundw
      case rel => exact ⟨j', by omega, by go_num, HO5.out, HB5⟩
      case measure => simp [intOf]
    · obtain rfl : j = 0 := by omega
      rw [List.drop_zero, Nat.sub_zero] at HO
      obtain ⟨Av, cv, rfl, q1, q2⟩ := strs_of HO.out
      have LL := (LW.and (Live.strs q2))
      have FR1 := Lib.hid (FR.out _ cv _ LL.now.2 LL.now.1.1.1.1.2)
      clear HO q1 q2
      go_wp2_with (first
        | (go_at_call 20; (with_reducible refine FR1.out.mono ?_); (rintro e w6 ⟨A6, n6, c6, rfl, hr6, hc6, Hn6, hb6⟩; obtain rfl : n6 = ns := (by rw [← hr6.1, ← Hno.out]); have L6 := (LL.next hb6).and (Live.row hr6); have SS := Lib.hid (sameNums_self A6 Ao n6 c6 co ts _ L6.now.2 L6.now.1.1.1.2 (by omega)); clear hr6))
        | (go_at_call 22; (with_reducible refine SS.out.mono ?_); (rintro e w7 ⟨rfl, hb7⟩)))
      go_ret
      exact ⟨rfl, (L6.next hb7).now.1.1.1.1.1.1⟩
end Go.Proofs.YtecijlebfpbpaaaDoor
