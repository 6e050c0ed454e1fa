/- The walk of laws.FnWasAny. -/
import Derived.Test.YtdmffpjljaolcaaDoorDrawWd
import Derived.Test.YtdmffpjljaolcaaDoorWasS
namespace Go.Proofs.YtdmffpjljaolcaaDoor
set_option linter.unusedVariables false
set_option linter.unusedSimpArgs false
open Go.RowKit

theorem row_take {W : World} {b o m ce q : Nat} {es : List Ev} (H : Row evCells 3 W W.heap.size (some ⟨b, o, none⟩) m es) (hq : q ≤ m) (hc : m ≤ ce) : Row evCells 3 W W.heap.size (some ⟨b, o, none⟩) q (es.take q) := by
  have h := H.cut (cap := ce) evCells_len 0 q (Nat.zero_le _) hq hc
  rw [show (if ce = 0 then some (⟨b, o, none⟩ : Addr) else (some ⟨b, o, none⟩ : Option Addr).map (·.add (0 * 3))) = some ⟨b, o, none⟩ by split <;> simp [Addr.add]] at h
  simpa using h
set_option maxRecDepth 100000 in
set_option maxHeartbeats 8000000 in
theorem law_FnWasAny (A : Option Addr) (n c : Nat) (A' : Option Addr) (n' c' : Nat) (w : World) (h : Code w A n c) (h' : Code w A' n' c') (hg : GE w) :
    Calls Tryd.prog 14 #[.slice A n c, .slice A' n' c'] w fun e w' => e = .returned (.bool true) ∧ Below w.heap.size w w' := by
  have hn := h.2.1
  have hn' := h'.2.1
  unfold maxLen at hn hn'
  by_cases hbig : (1048576 : Int) < n
  · go_enter Tryd.func14, Tryd.ntmps14
    go_wp2_with fail
    go_ret
    exact ⟨rfl, Below.refl _ _⟩
  by_cases hbig' : (1048576 : Int) < n'
  · go_enter Tryd.func14, Tryd.ntmps14
    go_wp2_with fail
    go_ret
    exact ⟨rfl, Below.refl _ _⟩
  have HC := Lib.hid h
  have L0 := (Live.since (Below.refl w.heap.size w)).and (Live.ge hg)
  clear h h' hg
  have hd : decide ((1048576 : Int) < n) = false := decide_eq_false hbig
  have hd' : decide ((1048576 : Int) < n') = false := decide_eq_false hbig'
  go_enter Tryd.func14, Tryd.ntmps14
  go_wp2_with fail
  refine (drawStoreWas_any A n c _ HC.out).mono ?_
  rintro e w1 ⟨Ax, k, cx, xs, s, x, Ae, m, ce, es, rfl, hrow, hrow', HB, HE, hk, hm, hkc, hmc, Hnil, Hnil', hs, hx1, hx2, hb1⟩
  have L1 := ((L0.next hb1).and (Live.row hrow)).and (Live.row hrow')
  have Hsm := Lib.hid (EnB.small HB.out)
  have Hse : Hid (∀ e ∈ es, e.kind.size ≤ maxLen) := Lib.hid fun e he => small60 (HE.out e he).1
  have hs' : s.size ≤ maxLen := small60 hs
  have Hl := Lib.hid hrow.1
  have Hm := Lib.hid hrow'.1
  clear hrow hrow' hb1 L0
  go_wp2_with fail
  refine (storeWasI_any Ax k cx xs s x Ae m ce es _ L1.now.1.2 L1.now.2 Hsm.out Hse.out hs' (by omega) hmc (by omega) L1.now.1.1.2).mono ?_
  rintro e w2 ⟨rfl, hb2⟩
  have L2 := L1.next hb2
  clear hb2 L1
  go_wp2_with fail
  refine (storeWasS_any Ax k cx xs s x Ae m ce es _ L2.now.1.2 L2.now.2 Hsm.out Hse.out hs' (by omega) (by omega)).mono ?_
  rintro e w3 ⟨rfl, hb3⟩
  have L3 := L2.next hb3
  clear hb3 L2
  cases hw : storeWas xs s x es with
  | false =>
    go_wp2_with fail
    go_ret
    exact ⟨rfl, L3.now.1.1.1⟩
  | true =>
    obtain ⟨hwo, i, hi1, hi2, hi3⟩ := storeWas_at hw
    obtain ⟨p1, p2, p3, p4, p5⟩ := writeOk_iff.1 hwo
    have hm1 : 1 ≤ m := by rw [← Hm.out]; exact List.length_pos_iff.2 p5
    obtain ⟨eb, eo, rfl, hec⟩ := ev_first L3.now.2 Hm.out hm1
    have W1 := storeWas_any hw
    have hm : (n' : Int).tmod (m : Int) = ((n' % m : Nat) : Int) := by rw [Int.tmod_eq_emod_of_nonneg (by omega)]; rfl
    have hm2 : (n' : Int) % (m : Int) = ((n' % m : Nat) : Int) := rfl
    have hmk : n' % m < m := Nat.mod_lt _ (by omega)
    obtain ⟨q, hq⟩ : ∃ q : Nat, n' % m = q := ⟨_, rfl⟩
    rw [hq] at hm hm2 hmk
    have W2 := storeWas_take hw (1 + q) (by omega) (by rw [Hm.out]; omega)
    have hm3 : ((m : Int) == 0) = false := beq_eq_false_iff_ne.2 (by omega)
    have hm4 : ¬ (m : Int) = 0 := by omega
    have C1 := Lib.hid (fun W H H' G => storeWasI_any Ax k cx xs s (-2) (some ⟨eb, eo, none⟩) m ce es W H H' Hsm.out Hse.out hs' (by omega) hmc (by omega) G)
    rw [W1] at C1
    have C2 := Lib.hid (fun W H H' G => storeWasI_any Ax k cx xs s x (some ⟨eb, eo, none⟩) (1 + q) ce (es.take (1 + q)) W H H' Hsm.out (fun e he => Hse.out e (List.mem_of_mem_take he)) hs' (by omega) (by omega) (by omega) G)
    rw [W2] at C2
    have hcut := fun (W : World) (H : Row evCells 3 W W.heap.size (some ⟨eb, eo, none⟩) m es) => row_take (q := 1 + q) H (by omega) hmc
    have Hcut := Lib.hid hcut
    have q1 : (1 : Int) + (q : Int) ≤ (m : Int) := by omega
    have q2 : (1 : Int) + (q : Int) ≤ (ce : Int) := by omega
    have q3 : ((1 : Int) + (q : Int)).toNat = 1 + q := by omega
    have q4 : (0 : Int) ≤ (1 : Int) + (q : Int) := by omega
    clear W1 W2 hcut hq hwo p1 p2 p3 p4 p5 hi1 hi2 hi3 hec hw
    go_wp2_with (first
      | (go_at_call 37; (with_reducible refine (C1.out _ L3.now.1.2 L3.now.2 L3.now.1.1.2).mono ?_); rintro e w4 ⟨rfl, hb4⟩; have L4 := L3.next hb4)
      | (go_at_call 37; (with_reducible refine (C2.out _ L4.now.1.2 (Hcut.out _ L4.now.2) L4.now.1.1.2).mono ?_); rintro e w5 ⟨rfl, hb5⟩; have L5 := L4.next hb5))
    go_ret
    exact ⟨rfl, L5.now.1.1.1⟩
end Go.Proofs.YtdmffpjljaolcaaDoor
