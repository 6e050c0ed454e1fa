/- The walk of laws.FnKinds. -/
import Derived.Test.YtnfncnpnkmjjeaaDoorKSpecK
import Derived.Test.YtnfncnpnkmjjeaaDoorKAdd
import Derived.Test.YtnfncnpnkmjjeaaDoorSameRo
import Derived.Test.YtnfncnpnkmjjeaaDoorDrawKi
namespace Go.Proofs.YtnfncnpnkmjjeaaDoor
set_option linter.unusedVariables false
set_option linter.unusedSimpArgs false
open Go.RowKit

theorem sumL_take {ks : List KRow} {i : Nat} {r : KRow} (h : ks[i]? = some r) : sumL (ks.take (i + 1)) = sumL (ks.take i) + r.ats.length := by
  obtain ⟨h1, h2⟩ := List.getElem?_eq_some_iff.1 h
  rw [List.take_succ_eq_append_getElem h1, h2]
  simp [sumL]
theorem sumL_app (a b : List KRow) : sumL (a ++ b) = sumL a + sumL b := by simp [sumL]
theorem kinds_facts {xs : List En} (hok : storeOk xs = true) : KOk (kindsOf xs) ∧ xs.length ≤ 24 ∧ (∀ r ∈ kindsOf xs, ∀ p ∈ r.ats, p < xs.length ∧ (nx xs p).ev.kind = r.key) ∧ sumL (kindsOf xs) = xs.length := by
  have h := hok
  unfold storeOk at h
  rw [Bool.and_eq_true, decide_eq_true_eq, allB_and, Bool.and_eq_true, allB_len (p := enOk), List.all_eq_true] at h
  rw [kindsOf_yes hok]
  exact ⟨kindsTo_ok h.2.1 _ (Nat.le_refl _) (by omega), h.1, fun r hr => (kindsTo_at xs _ r hr).2.2, kindsTo_sum _ _⟩
theorem kinds_small (xs : List En) (h : xs.length ≤ 30) : (kindsOf xs).length ≤ 30 ∧ ∀ r ∈ kindsOf xs, r.ats.length ≤ 100000 := by
  unfold kindsOf
  split
  · refine ⟨Nat.le_trans (kindsTo_len xs _) h, fun r hr => ?_⟩
    have := len_sum hr
    rw [kindsTo_sum] at this
    omega
  · exact ⟨Nat.zero_le _, fun r hr => by cases hr⟩
set_option maxRecDepth 100000 in
set_option maxHeartbeats 8000000 in
theorem law_FnKinds (A : Option Addr) (n c : Nat) (w : World) (h : Code w A n c) (hg : GE w) :
    Calls Tryd.prog 4 #[.slice A n c] w fun e w' => e = .returned (.bool true) ∧ Below w.heap.size w w' := by
  have hn := h.2.1
  unfold maxLen at hn
  by_cases hbig : (1048576 : Int) < n
  · go_enter Tryd.func4, Tryd.ntmps4
    go_wp2_with fail
    go_ret
    exact ⟨rfl, Below.refl _ _⟩
  have HC := Lib.hid h
  have L0 := (Live.since (Below.refl w.heap.size w)).and (Live.ge hg)
  clear h hg
  go_enter Tryd.func4, Tryd.ntmps4
  go_wp2_with fail
  refine (drawIndexKinds_any A n c _ HC.out).mono ?_
  rintro e w1 ⟨Ax, k, cx, xs, rfl, hrow, HE, hk, hkc, Hnil, hb1⟩
  have L1 := (L0.next hb1).and (Live.row hrow)
  have Hl := Lib.hid hrow.1
  have FI := Lib.hid (fun W H G => indexKinds_any Ax k cx xs W H (EnB.small HE.out) (by omega) G)
  have FS := Lib.hid (fun W H => indexKindsS_any Ax k cx xs W H (EnB.small HE.out) (by omega))
  have SV := Lib.hid (fun W H => storeValidS_any Ax k cx xs W H (EnB.small HE.out) (by omega))
  obtain ⟨hkl, hks⟩ := kinds_small xs (by rw [hrow.1]; omega)
  have HF := Lib.hid (@kinds_facts xs)
  obtain ⟨ks, hkk⟩ : ∃ ks, kindsOf xs = ks := ⟨_, rfl⟩
  rw [hkk] at FI FS HF hkl hks
  have HKS := Lib.hid hks
  clear hrow hb1 L0 hkk hks
  go_wp2_with fail
  refine (FI.out _ L1.now.2 L1.now.1.2).mono ?_
  rintro e w2 ⟨Ao, no, co, rfl, hk2, hnc2, Hn2, hb2⟩
  have L2 := (L1.next hb2).and (Live.kinds hk2)
  have Hno : Hid (ks.length = no) := Lib.hid hk2.len
  have hno : no ≤ 30 := by rw [← hk2.len]; exact hkl
  clear hk2 hb2 L1 hkl
  go_wp2_with fail
  refine (FS.out _ L2.now.1.2).mono ?_
  rintro e w3 ⟨As, ns, cs, rfl, hk3, hnc3, Hn3, hb3⟩
  have L3 := (L2.next hb3).and (Live.kinds hk3)
  have SR := Lib.hid (fun W H H' => sameRows_self Ao As no ns co cs ks W H H' (by omega) HKS.out)
  have SR1 := Lib.hid (SR.out _ L3.now.1.2 L3.now.2)
  clear hk3 hb3 L2 FI FS
  cases hok : storeOk xs with
  | false =>
    rw [hok] at SV
    go_wp2_with (first
      | (go_at_call 16; (with_reducible refine (SV.out _ L4.now.1.1.2).mono ?_); (rintro e w5 ⟨rfl, hb5⟩; have L5 := L4.next hb5; have SR2 := Lib.hid (SR.out _ L5.now.1.2 L5.now.2)))
      | (go_at_call 15; (with_reducible refine SR2.out.mono ?_); (rintro e w6 ⟨rfl, hb6⟩; have L6 := L5.next hb6))
      | (go_at_call 15; (with_reducible refine SR1.out.mono ?_); (rintro e w4 ⟨rfl, hb4⟩; have L4 := L3.next hb4)))
    go_ret
    exact ⟨rfl, L6.now.1.1.1.1⟩
  | true =>
    rw [hok] at SV
    obtain ⟨hkok, h24, hat, hsum⟩ := HF.out hok
    rw [Hl.out] at hsum
    have HKO := Lib.hid hkok
    have HAT := Lib.hid hat
    have HSUM := Lib.hid hsum
    clear hok hkok h24 hat hsum HF
    go_wp2_with (first
      | (go_at_call 16; (with_reducible refine (SV.out _ L4.now.1.1.2).mono ?_); (rintro e w5 ⟨rfl, hb5⟩; have L5 := L4.next hb5))
      | (go_at_call 15; (with_reducible refine SR1.out.mono ?_); (rintro e w4 ⟨rfl, hb4⟩; have L4 := L3.next hb4)))
    have L5' : Live w5 fun W => (Below w.heap.size w W ∧ Row enCells 4 W W.heap.size Ax k xs) ∧ Kinds W Ao no ks := L5.imp fun W q => ⟨⟨q.1.1.1.1, q.1.1.2⟩, q.1.2⟩
    clear L5 L4 L3 hb4 hb5 SV SR SR1
    go_loopw [6, 7] (fun s i wr => ∃ j : Nat, j ≤ no ∧ i = .int .i64 (j : Int) ∧ s = .int .i64 ((sumL (ks.take j) : Nat) : Int) ∧ Live wr fun W => (Below w.heap.size w W ∧ Row enCells 4 W W.heap.size Ax k xs) ∧ Kinds W Ao no ks) (fun _ i _ => no - (intOf i).toNat)
    case atStart => exact ⟨0, Nat.zero_le _, rfl, rfl, L5'⟩
    case round =>
      obtain ⟨j, hj, rfl, rfl, L⟩ := hrel
      by_cases hlt : j < no
      · have hlt' : (j : Int) < (no : Int) := by omega
        obtain ⟨r, hr⟩ : ∃ r, ks[j]? = some r := ⟨_, List.getElem?_eq_getElem (by rw [Hno.out]; exact hlt)⟩
        have Hsum := Lib.hid (sumL_take hr)
        have HR := Lib.hid hr
        have hrs := HKS.out r (List.mem_of_getElem? hr)
        have hs1 : sumL (ks.take j) ≤ 1000 := by
          have h1 : sumL ks = sumL (ks.take j) + sumL (ks.drop j) := by rw [← sumL_app, List.take_append_drop]
          have := HSUM.out
          omega
        obtain ⟨S, hS⟩ : ∃ S, sumL (ks.take j) = S := ⟨_, rfl⟩
        rw [hS] at Hsum hs1
        rw [hS]
        have hj30 : j ≤ 30 := by omega
        clear hr hS
        go_wp2_with fail
        go_loopw [6, 8] (fun s q wi => ∃ i : Nat, i ≤ r.ats.length ∧ q = .int .i64 (i : Int) ∧ s = .int .i64 ((S + i : Nat) : Int) ∧ Live wi fun W => (Below w.heap.size w W ∧ Row enCells 4 W W.heap.size Ax k xs) ∧ Kinds W Ao no ks) (fun _ q _ => r.ats.length - (intOf q).toNat)
        case atStart => exact ⟨0, Nat.zero_le _, rfl, rfl, L⟩
        case round =>
          obtain ⟨i, hi, rfl, rfl, LI⟩ := hrel
          obtain ⟨b, off, rfl, hb, hx⟩ := LI.now.2.at_ (by omega)
          obtain ⟨A1, n1, c1, p0, p1, -, -, hr1⟩ := hx j r HR.out
          obtain rfl : n1 = r.ats.length := hr1.1.symm
          have hjn0 : (0 : Int) ≤ (j : Int) := by omega
          by_cases hil : i < r.ats.length
          · have hil' : (i : Int) < (r.ats.length : Int) := by omega
            obtain ⟨b2, off2, rfl, hb2, hx2⟩ := hr1.int_at (by omega)
            obtain ⟨p, hp⟩ : ∃ p, r.ats[i]? = some p := ⟨_, List.getElem?_eq_getElem hil⟩
            have hpa := HAT.out r (List.mem_of_getElem? HR.out) p (List.mem_of_getElem? hp)
            rw [Hl.out] at hpa
            obtain ⟨hpk, hpkind⟩ := hpa
            obtain ⟨b3, off3, rfl, hb3, hx3⟩ := LI.now.1.2.en_at (by omega)
            have c0 := (hx3 p _ (nx_get (by rw [Hl.out]; exact hpk))).2.2.1
            rw [hpkind] at c0
            have z0 := hx2 i p hp
            have d0 := fun (y : On wr) => (show y.W.cell? ⟨b, off + j * 2, none⟩ = some (.string r.key) from (y.below.cell (p := ⟨b, off + j * 2, none⟩) hb).trans p0)
            have d1 := fun (y : On wr) => (show y.W.cell? ⟨b, off + j * 2 + 1, none⟩ = some (.slice (some ⟨b2, off2, none⟩) r.ats.length c1) from (y.below.cell (p := ⟨b, off + j * 2 + 1, none⟩) hb).trans p1)
            have d2 := fun (y : On wr) => (show y.W.cell? ⟨b2, off2 + i, none⟩ = some (.int .i64 (p : Int)) from (y.below.cell (p := ⟨b2, off2 + i, none⟩) hb2).trans z0)
            have d3 := fun (y : On wr) => (show y.W.cell? ⟨b3, off3 + p * 4 + 2, none⟩ = some (.string r.key) from (y.below.cell (p := ⟨b3, off3 + p * 4 + 2, none⟩) hb3).trans c0)
            have hpk' : (p : Int) < (k : Int) := by omega
            have hp0 : (0 : Int) ≤ (p : Int) := by omega
            have e1 : (r.key.toList == r.key.toList) = true := beq_self_eq_true _
            have e2 : (r.key.toList != r.key.toList) = false := by simp
            clear hx hx2 hx3 hp hpkind hr1
            go_wp2_with fail
            refine wp_region_on (by kernel_rfl) (by kernel_rfl) ?_
            repeat (go_big_quiet_step (fail))
            refine wpQuiet_nil ?_
            intro w6 hw'
            obtain ⟨⟨w6b, hb6⟩, hw''⟩ := hw'
            obtain rfl : w6 = w6b := hw''
            have L6 := LI.next hb6
            go_wp2_with fail
            go_roundw
            case rel => exact ⟨i + 1, by omega, by go_num, by go_num, L6⟩
            case measure => simp [intOf]; omega
          · obtain rfl : i = r.ats.length := by omega
            have hil' : ¬ (r.ats.length : Int) < (r.ats.length : Int) := by omega
            clear hx hr1
            go_wp2_with fail
            go_roundw
            case rel => exact ⟨j + 1, by omega, by go_num, by rw [Hsum.out], LI⟩
            case measure => simp [intOf]; omega
      · obtain rfl : j = no := by omega
        have hlt' : ¬ (j : Int) < (j : Int) := by omega
        have Hend : Hid (sumL (ks.take j) = k) := Lib.hid (by rw [← Hno.out, List.take_length]; exact HSUM.out)
        rw [Hend.out]
        have hkk : ((k : Int) == (k : Int)) = true := beq_self_eq_true _
        have IV := Lib.hid (indexValid_any Ao j co ks wr L.now.2 HKO.out (by omega) HKS.out)
        go_wp2_with (go_at_call 17; (with_reducible refine IV.out.mono ?_); (rintro e w7 ⟨rfl, hb7⟩))
        go_ret
        exact ⟨rfl, (L.next hb7).now.1.1⟩
end Go.Proofs.YtnfncnpnkmjjeaaDoor
