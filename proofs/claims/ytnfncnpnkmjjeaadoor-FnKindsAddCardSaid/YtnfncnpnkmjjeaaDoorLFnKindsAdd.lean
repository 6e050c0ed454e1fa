/- The walk of laws.FnKindsAdd. -/
import Derived.Test.YtnfncnpnkmjjeaaDoorLFnKinds
import Derived.Test.YtnfncnpnkmjjeaaDoorRowX
import Derived.Deep.RegionHeld3
namespace Go.Proofs.YtnfncnpnkmjjeaaDoor
set_option linter.unusedVariables false
set_option linter.unusedSimpArgs false
open Go.RowKit

theorem storeOk_pre {l : List En} (h : storeOk l = true) (k : Nat) : storeOk (l.take k) = true := by
  unfold storeOk at h ⊢
  rw [Bool.and_eq_true, decide_eq_true_eq] at h ⊢
  refine ⟨by rw [List.length_take]; omega, allB_yes fun i hi => ?_⟩
  rw [List.length_take] at hi
  have e : ∀ j, j < k → nx (l.take k) j = nx l j := fun j hj => by unfold nx; rw [List.getElem?_take_of_lt hj]
  have h1 := allB_at h.2 (k := i) (by omega)
  rw [Bool.and_eq_true] at h1 ⊢
  refine ⟨by rw [e i (by omega)]; exact h1.1, allB_yes fun j hj => ?_⟩
  rw [e i (by omega), e j (by omega)]
  exact allB_at h1.2 hj
theorem kinds_pre {xs : List En} {m : Nat} (hok : storeOk xs = true) (hm : xs.length = m + 1) :
    kindsOf (xs.take m) = kindsTo xs m ∧ kindsOf xs = putK (kindsTo xs m) ⟨(nx xs m).ev.kind, [m]⟩ ∧ KOk (kindsTo xs m) ∧ wordOk (nx xs m).ev.kind.data.toList = true ∧ m ≤ 23 ∧ ∀ x ∈ kindsTo xs m, ∀ y ∈ x.ats, y < m := by
  have h := hok
  unfold storeOk at h
  rw [Bool.and_eq_true, decide_eq_true_eq, allB_and, Bool.and_eq_true, allB_len (p := enOk), List.all_eq_true] at h
  have hx := h.2.1 (nx xs m) (nx_mem (by omega))
  unfold enOk evOk at hx
  rw [Bool.and_eq_true, Bool.and_eq_true, Bool.and_eq_true] at hx
  refine ⟨?_, ?_, kindsTo_ok h.2.1 m (by omega) (by omega), hx.2.1.2, by omega, fun x hx y hy => ((kindsTo_at xs m x hx).2.2 y hy).1⟩
  · rw [kindsOf_yes (storeOk_pre hok m), List.length_take, Nat.min_eq_left (by omega)]
    exact kindsTo_take xs m m (Nat.le_refl _) (by omega)
  · rw [kindsOf_yes hok, hm]; rfl
set_option maxRecDepth 100000 in
set_option maxHeartbeats 8000000 in
theorem law_FnKindsAdd (A : Option Addr) (n c : Nat) (w : World) (h : Code w A n c) (hg : GE w) :
    Calls Tryd.prog 5 #[.slice A n c] w fun e w' => e = .returned (.bool true) ∧ Below w.heap.size w w' := by
  have hn := h.2.1
  unfold maxLen at hn
  by_cases hbig : (1048576 : Int) < n
  · go_enter Tryd.func5, Tryd.ntmps5
    go_wp2_with fail
    go_ret
    exact ⟨rfl, Below.refl _ _⟩
  have HC := Lib.hid h
  have L0 := (Live.since (Below.refl w.heap.size w)).and (Live.ge hg)
  clear h hg
  go_enter Tryd.func5, Tryd.ntmps5
  go_wp2_with fail
  refine (drawIndexKinds_any A n c _ HC.out).mono ?_
  rintro e w1 ⟨Ax, k, cx, xs, rfl, hrow, HE, hk, hkc, Hnil, hb1⟩
  have L1 := (L0.next hb1).and (Live.row hrow)
  have Hl := Lib.hid hrow.1
  have FI := Lib.hid (fun W H G => indexKinds_any Ax k cx xs W H (EnB.small HE.out) (by omega) G)
  have FS := Lib.hid (fun W H => indexKindsS_any Ax k cx xs W H (EnB.small HE.out) (by omega))
  have SV := Lib.hid (fun W H => storeValidS_any Ax k cx xs W H (EnB.small HE.out) (by omega))
  obtain ⟨hkl, hks⟩ := kinds_small xs (by rw [hrow.1]; omega)
  have HF := Lib.hid (@kinds_facts xs)
  obtain ⟨ks, hkk⟩ : ∃ ks, kindsOf xs = ks := ⟨_, rfl⟩
  rw [hkk] at FI FS HF hkl hks
  have HKS := Lib.hid hks
  have Hks := Lib.hid hkk
  clear hrow hb1 L0 hkk hks
  go_wp2_with fail
  refine (FI.out _ L1.now.2 L1.now.1.2).mono ?_
  rintro e w2 ⟨Ao, no, co, rfl, hk2, hnc2, Hn2, hb2⟩
  have L2 := (L1.next hb2).and (Live.kinds hk2)
  have Hno : Hid (ks.length = no) := Lib.hid hk2.len
  have hno : no ≤ 30 := by rw [← hk2.len]; exact hkl
  clear hk2 hb2 L1 hkl
  go_wp2_with fail
  refine (FS.out _ L2.now.1.2).mono ?_
  rintro e w3 ⟨As, ns, cs, rfl, hk3, hnc3, Hn3, hb3⟩
  have L3 := (L2.next hb3).and (Live.kinds hk3)
  have SR := Lib.hid (fun W H H' => sameRows_self Ao As no ns co cs ks W H H' (by omega) HKS.out)
  have SR1 := Lib.hid (SR.out _ L3.now.1.2 L3.now.2)
  clear hk3 hb3 L2 FI FS
  cases hok : storeOk xs with
  | false =>
    rw [hok] at SV
    go_wp2_with (first
      | (go_at_call 16; (with_reducible refine (SV.out _ L4.now.1.1.2).mono ?_); (rintro e w5 ⟨rfl, hb5⟩; have L5 := L4.next hb5; have SR2 := Lib.hid (SR.out _ L5.now.1.2 L5.now.2)))
      | (go_at_call 15; (with_reducible refine SR2.out.mono ?_); (rintro e w6 ⟨rfl, hb6⟩; have L6 := L5.next hb6))
      | (go_at_call 15; (with_reducible refine SR1.out.mono ?_); (rintro e w4 ⟨rfl, hb4⟩; have L4 := L3.next hb4)))
    go_ret
    exact ⟨rfl, L6.now.1.1.1.1⟩
  | true =>
    rw [hok] at SV
    by_cases hk0 : k = 0
    · subst hk0
      go_wp2_with (first
        | (go_at_call 16; (with_reducible refine (SV.out _ L4.now.1.1.2).mono ?_); (rintro e w5 ⟨rfl, hb5⟩; have L5 := L4.next hb5; have SR2 := Lib.hid (SR.out _ L5.now.1.2 L5.now.2)))
        | (go_at_call 15; (with_reducible refine SR2.out.mono ?_); (rintro e w6 ⟨rfl, hb6⟩; have L6 := L5.next hb6))
        | (go_at_call 15; (with_reducible refine SR1.out.mono ?_); (rintro e w4 ⟨rfl, hb4⟩; have L4 := L3.next hb4)))
      go_ret
      exact ⟨rfl, L6.now.1.1.1.1⟩
    obtain ⟨m, rfl⟩ : ∃ m, k = m + 1 := ⟨k - 1, by omega⟩
    have hkn : ((m + 1 : Nat) : Int) ≠ 0 := by omega
    have hkn2 : (((m + 1 : Nat) : Int) == 0) = false := beq_eq_false_iff_ne.2 hkn
    have hi1 : ((m + 1 : Nat) : Int) - 1 = (m : Int) := by omega
    obtain ⟨hp1, hp2, hp3, hp4, hp5, hp6⟩ := kinds_pre hok Hl.out
    have FI := Lib.hid (fun W H G => indexKinds_any Ax m cx (xs.take m) W H (fun x hx => EnB.small HE.out x (List.mem_of_mem_take hx)) (by omega) G)
    rw [hp1] at FI
    rw [Hks.out] at hp2
    have hsb : ∀ x ∈ kindsTo xs m, x.ats.length ≤ 100000 := fun x hx => by have := len_sum hx; rw [kindsTo_sum] at this; omega
    have hml := kindsTo_len xs m
    obtain ⟨zs, hzs⟩ : ∃ zs, kindsTo xs m = zs := ⟨_, rfl⟩
    rw [hzs] at FI hp2 hp3 hp6 hsb hml
    obtain ⟨kd, hkd⟩ : ∃ kd, (nx xs m).ev.kind = kd := ⟨_, rfl⟩
    rw [hkd] at hp2 hp4
    have IA := Lib.hid (fun (A' : Option Addr) (n' c' : Nat) W H (h1 : n' ≤ c') (h2 : n' ≤ 100000) => indexAdd_any A' n' c' zs kd m W H hp3 h1 h2 hsb hp4 (by omega) hp6)
    rw [← hp2] at IA
    have Hkd := Lib.hid hkd
    clear hp1 hp2 hp3 hp4 hp6 hsb hzs hkd hok HF
    go_upto_region 9 with (first
      | (go_at_call 16; (with_reducible refine (SV.out _ L4.now.1.1.2).mono ?_); (rintro e w5 ⟨rfl, hb5⟩; have L5 := L4.next hb5))
      | (go_at_call 15; (with_reducible refine SR1.out.mono ?_); (rintro e w4 ⟨rfl, hb4⟩; have L4 := L3.next hb4)))
    obtain ⟨b, off, rfl, hb, hx⟩ := L5.now.1.1.2.en_at (by omega)
    have c0 := (hx m _ (nx_get (by rw [Hl.out]; omega))).2.2.1
    rw [Hkd.out] at c0
    have LD := L5.next ((Below.refl _ _).drew)
    have d0 : w5.drew.cell? ⟨b, off + m * 4 + 2, none⟩ = some (.string kd) := c0
    have F1 := Lib.hid (FI.out w5.drew (LD.now.1.1.2.first enCells_len m (by omega)) LD.now.1.1.1.2)
    have hm0 : (0 : Int) ≤ (m : Int) := by omega
    have hm1 : (m : Int) ≤ (cx : Int) := by omega
    have hm2 : (m : Int) < ((m + 1 : Nat) : Int) := by omega
    have hm3 : (m : Int) < (m : Int) + 1 := by omega
    have hm4 : m < m + 1 := by omega
    clear hx hb4 hb5 L4 L3
    go_region_held3 (fun w' => w'.cell? ⟨b, off + m * 4 + 2, none⟩ = some (.string kd)) (first | exact c0 | exact d0 | exact d6 | exact d7) (first
      | (go_at_call 13; ((with_reducible refine F1.out.mono ?_); rintro e w6 ⟨A6, n6, c6, rfl, hk6, hc6, hn6, hb6⟩; have L6 := LD.next hb6; have d6 := (hb6.cell (p := ⟨b, off + m * 4 + 2, none⟩) hb).trans d0; have I6 := Lib.hid (IA.out A6 n6 c6 w6 hk6 hc6 (by have := hk6.len; omega)); have D6 := Lib.hid (fun W (hW : Below w6.heap.size w6 W) => (hW.cell (p := ⟨b, off + m * 4 + 2, none⟩) (Nat.lt_of_lt_of_le hb hb6.size)).trans d6); clear hk6 hc6 hn6))
      | (go_at_call 18; ((with_reducible refine I6.out.mono ?_); rintro e w7 ⟨A7, n7, c7, rfl, hk7, hc7, hn7, hb7⟩; have L7 := (L6.next hb7).and (Live.kinds hk7); have d7 := D6.out w7 hb7; have hn7' : n7 = no := hk7.len.symm.trans Hno.out; have S7 := Lib.hid (sameRows_self A7 Ao n7 no c7 co ks w7 L7.now.2 L7.now.1.1.2 (by omega) HKS.out); clear hk7 hc7 hn7 hn7')))
    all_goals
      go_wp2_with (go_at_call 15; (with_reducible refine S7.out.mono ?_); (rintro e w9 ⟨rfl, hb9⟩))
      go_ret
      exact ⟨rfl, (L7.next hb9).now.1.1.1.1.1⟩
end Go.Proofs.YtnfncnpnkmjjeaaDoor
