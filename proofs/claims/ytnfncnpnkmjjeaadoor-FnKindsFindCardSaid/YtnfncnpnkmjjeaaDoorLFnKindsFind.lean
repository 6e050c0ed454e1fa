/- The walk of laws.FnKindsFind. -/
import Derived.Test.YtnfncnpnkmjjeaaDoorLFnKinds
namespace Go.Proofs.YtnfncnpnkmjjeaaDoor
set_option linter.unusedVariables false
set_option linter.unusedSimpArgs false
open Go.RowKit

theorem kinds_has {xs : List En} (hok : storeOk xs = true) {q : Nat} (hq : q < xs.length) : ∃ r ∈ kindsOf xs, r.key = (nx xs q).ev.kind ∧ q ∈ r.ats := by
  rw [kindsOf_yes hok]
  exact kindsTo_has xs _ q hq
set_option maxRecDepth 100000 in
set_option maxHeartbeats 8000000 in
theorem law_FnKindsFind (A : Option Addr) (n c : Nat) (B : Option Addr) (m d : Nat) (w : World) (h : Code w A n c) (h2 : Code w B m d) (hg : GE w) :
    Calls Tryd.prog 6 #[.slice A n c, .slice B m d] w fun e w' => e = .returned (.bool true) ∧ Below w.heap.size w w' := by
  have hn := h.2.1
  unfold maxLen at hn
  by_cases hbig : (1048576 : Int) < n
  · go_enter Tryd.func6, Tryd.ntmps6
    go_wp2_with fail
    go_ret
    exact ⟨rfl, Below.refl _ _⟩
  have hm := h2.2.1
  unfold maxLen at hm
  by_cases hbig2 : (1048576 : Int) < m
  · go_enter Tryd.func6, Tryd.ntmps6
    go_wp2_with fail
    go_ret
    exact ⟨rfl, Below.refl _ _⟩
  have HC := Lib.hid h
  have L0 := (Live.since (Below.refl w.heap.size w)).and (Live.ge hg)
  clear h h2 hg
  go_enter Tryd.func6, Tryd.ntmps6
  go_wp2_with fail
  refine (drawIndexKinds_any A n c _ HC.out).mono ?_
  rintro e w1 ⟨Ax, k, cx, xs, rfl, hrow, HE, hk, hkc, Hnil, hb1⟩
  have L1 := (L0.next hb1).and (Live.row hrow)
  have Hl := Lib.hid hrow.1
  have FI := Lib.hid (fun W H G => indexKinds_any Ax k cx xs W H (EnB.small HE.out) (by omega) G)
  have FS := Lib.hid (fun W H => indexKindsS_any Ax k cx xs W H (EnB.small HE.out) (by omega))
  have SV := Lib.hid (fun W H => storeValidS_any Ax k cx xs W H (EnB.small HE.out) (by omega))
  obtain ⟨hkl, hks⟩ := kinds_small xs (by rw [hrow.1]; omega)
  have HF := Lib.hid (@kinds_facts xs)
  obtain ⟨ks, hkk⟩ : ∃ ks, kindsOf xs = ks := ⟨_, rfl⟩
  rw [hkk] at FI FS HF hkl hks
  have HKS := Lib.hid hks
  have Hks := Lib.hid hkk
  clear hrow hb1 L0 hkk hks
  go_wp2_with fail
  refine (FI.out _ L1.now.2 L1.now.1.2).mono ?_
  rintro e w2 ⟨Ao, no, co, rfl, hk2, hnc2, Hn2, hb2⟩
  have L2 := (L1.next hb2).and (Live.kinds hk2)
  have Hno : Hid (ks.length = no) := Lib.hid hk2.len
  have hno : no ≤ 30 := by rw [← hk2.len]; exact hkl
  clear hk2 hb2 L1 hkl
  go_wp2_with fail
  refine (FS.out _ L2.now.1.2).mono ?_
  rintro e w3 ⟨As, ns, cs, rfl, hk3, hnc3, Hn3, hb3⟩
  have L3 := (L2.next hb3).and (Live.kinds hk3)
  have SR := Lib.hid (fun W H H' => sameRows_self Ao As no ns co cs ks W H H' (by omega) HKS.out)
  have SR1 := Lib.hid (SR.out _ L3.now.1.2 L3.now.2)
  clear hk3 hb3 L2 FI FS
  cases hok : storeOk xs with
  | false =>
    rw [hok] at SV
    go_wp2_with (first
      | (go_at_call 16; (with_reducible refine (SV.out _ L4.now.1.1.2).mono ?_); (rintro e w5 ⟨rfl, hb5⟩; have L5 := L4.next hb5; have SR2 := Lib.hid (SR.out _ L5.now.1.2 L5.now.2)))
      | (go_at_call 15; (with_reducible refine SR2.out.mono ?_); (rintro e w6 ⟨rfl, hb6⟩; have L6 := L5.next hb6))
      | (go_at_call 15; (with_reducible refine SR1.out.mono ?_); (rintro e w4 ⟨rfl, hb4⟩; have L4 := L3.next hb4)))
    go_ret
    exact ⟨rfl, L6.now.1.1.1.1⟩
  | true =>
    rw [hok] at SV
    by_cases hk0 : k = 0
    · subst hk0
      go_wp2_with (first
        | (go_at_call 16; (with_reducible refine (SV.out _ L4.now.1.1.2).mono ?_); (rintro e w5 ⟨rfl, hb5⟩; have L5 := L4.next hb5; have SR2 := Lib.hid (SR.out _ L5.now.1.2 L5.now.2)))
        | (go_at_call 15; (with_reducible refine SR2.out.mono ?_); (rintro e w6 ⟨rfl, hb6⟩; have L6 := L5.next hb6))
        | (go_at_call 15; (with_reducible refine SR1.out.mono ?_); (rintro e w4 ⟨rfl, hb4⟩; have L4 := L3.next hb4)))
      go_ret
      exact ⟨rfl, L6.now.1.1.1.1⟩
    obtain ⟨hkok, h24, hat, hsum⟩ := HF.out hok
    obtain ⟨q, hq⟩ : ∃ q, m % k = q := ⟨_, rfl⟩
    have hqk : q < k := by rw [← hq]; exact Nat.mod_lt _ (by omega)
    have hrem : (m : Int).tmod (k : Int) = (q : Int) := by rw [Int.tmod_eq_emod_of_nonneg (by omega), ← Int.natCast_emod, hq]
    have hrem2 : (m : Int) % (k : Int) = (q : Int) := by rw [← Int.natCast_emod, hq]
    have hqk' : (q : Int) < (k : Int) := by omega
    have hq0 : (0 : Int) ≤ (q : Int) := by omega
    have hwq : IntKind.i64.wrap (q : Int) = (q : Int) := IntWalk.i64_in _ (by omega)
    have hkz : ((k : Int) == 0) = false := beq_eq_false_iff_ne.2 (by omega)
    have hkz2 : ¬ (k : Int) = 0 := by omega
    obtain ⟨r, hr, hrk, hrq⟩ := kinds_has hok (q := q) (by rw [Hl.out]; exact hqk)
    rw [Hks.out] at hr
    have HI := Lib.hid (fun W H => indexFind_any Ao no co ks r W H hkok hnc2 (by omega) HKS.out hr)
    have hrl := HKS.out r hr
    have Hrq := Lib.hid hrq
    have Hrk := Lib.hid hrk
    obtain ⟨b, off, rfl, hb, hx⟩ := L3.now.1.1.2.en_at (by omega)
    have c0 := (hx q _ (nx_get (by rw [Hl.out]; exact hqk))).2.2.1
    rw [← hrk] at c0
    clear hkok h24 hat hsum hok HF hr hrq hrk hx hq
    go_wp2_with (first
      | (go_at_call 16; (with_reducible refine (SV.out _ L4.now.1.1.2).mono ?_); (rintro e w5 ⟨rfl, hb5⟩; have L5 := L4.next hb5; have d0 := (hb5.cell (p := ⟨b, off + q * 4 + 2, none⟩) (Nat.lt_of_lt_of_le hb hb4.size)).trans b0; have I5 := Lib.hid (HI.out w5 L5.now.1.2)))
      | (go_at_call 15; (with_reducible refine SR1.out.mono ?_); (rintro e w4 ⟨rfl, hb4⟩; have L4 := L3.next hb4; have b0 := (hb4.cell (p := ⟨b, off + q * 4 + 2, none⟩) hb).trans c0))
      | (go_at_call 20; (with_reducible refine I5.out.mono ?_); (rintro e w6 ⟨A6, n6, c6, rfl, hr6, hb6⟩; have L6 := L5.next hb6; have H6 := Lib.hid (hasInt_yes A6 n6 c6 r.ats q w6 hr6 (by rw [← hr6.1]; omega) Hrq.out); clear hr6))
      | (go_at_call 19; (with_reducible refine H6.out.mono ?_); (rintro e w7 ⟨rfl, hb7⟩)))
    go_ret
    exact ⟨rfl, (L6.next hb7).now.1.1.1.1⟩
end Go.Proofs.YtnfncnpnkmjjeaaDoor
