/- The walk of laws.FnWas. -/
import Derived.Test.YtdmffpjljaolcaaDoorDrawWd
import Derived.Test.YtdmffpjljaolcaaDoorWasS
import Derived.Test.YtdmffpjljaolcaaDoorSameEn
namespace Go.Proofs.YtdmffpjljaolcaaDoor
set_option linter.unusedVariables false
set_option linter.unusedSimpArgs false
open Go.RowKit

set_option maxRecDepth 100000 in
set_option maxHeartbeats 8000000 in
theorem law_FnWas (A : Option Addr) (n c : Nat) (w : World) (h : Code w A n c) (hg : GE w) :
    Calls Tryd.prog 13 #[.slice A n c] w fun e w' => e = .returned (.bool true) ∧ Below w.heap.size w w' := by
  have hn := h.2.1
  unfold maxLen at hn
  by_cases hbig : (1048576 : Int) < n
  · go_enter Tryd.func13, Tryd.ntmps13
    go_wp2_with fail
    go_ret
    exact ⟨rfl, Below.refl _ _⟩
  have HC := Lib.hid h
  have L0 := (Live.since (Below.refl w.heap.size w)).and (Live.ge hg)
  clear h hg
  go_enter Tryd.func13, Tryd.ntmps13
  go_wp2_with fail
  refine (drawStoreWas_any A n c _ HC.out).mono ?_
  rintro e w1 ⟨Ax, k, cx, xs, s, x, Ae, m, ce, es, rfl, hrow, hrow', HB, HE, hk, hm, hkc, hmc, Hnil, Hnil', hs, hx1, hx2, hb1⟩
  have L1 := ((L0.next hb1).and (Live.row hrow)).and (Live.row hrow')
  have Hsm := Lib.hid (EnB.small HB.out)
  have Hse : Hid (∀ e ∈ es, e.kind.size ≤ maxLen) := Lib.hid fun e he => small60 (HE.out e he).1
  have hs' : s.size ≤ maxLen := small60 hs
  have Hl := Lib.hid hrow.1
  have Hm := Lib.hid hrow'.1
  clear hrow hrow' hb1 L0
  go_wp2_with fail
  refine (storeWasI_any Ax k cx xs s x Ae m ce es _ L1.now.1.2 L1.now.2 Hsm.out Hse.out hs' (by omega) hmc (by omega) L1.now.1.1.2).mono ?_
  rintro e w2 ⟨rfl, hb2⟩
  have L2 := L1.next hb2
  clear hb2 L1
  go_wp2_with fail
  refine (storeWasS_any Ax k cx xs s x Ae m ce es _ L2.now.1.2 L2.now.2 Hsm.out Hse.out hs' (by omega) (by omega)).mono ?_
  rintro e w3 ⟨rfl, hb3⟩
  have L3 := L2.next hb3
  clear hb3 L2
  cases hw : storeWas xs s x es with
  | false =>
    go_wp2_with fail
    go_ret
    exact ⟨rfl, L3.now.1.1.1⟩
  | true =>
    obtain ⟨hwo, i, hi1, hi2, hi3⟩ := storeWas_at hw
    obtain ⟨p1, p2, p3, p4, p5⟩ := writeOk_iff.1 hwo
    have hm1 : 1 ≤ m := by rw [← Hm.out]; exact List.length_pos_iff.2 p5
    obtain ⟨eb, eo, rfl, hec⟩ := ev_first L3.now.2 Hm.out hm1
    have hids := (evsOk_iff.1 ((storeOk_streams.1 p1).2.2 s)).2.2
    have hl24 := stream_24 (s := s) p1
    obtain ⟨hh1, hh2⟩ := hereB_iff.1 hi2
    have hnx := hereB_nx hi2 0 (by rw [Hm.out]; omega)
    have hf : storeFind xs s (nx es 0).id = i := by
      rw [storeFind_yes p1, ← hnx]
      exact findAt_here hids (by omega)
    have hrd : storeRead xs s 0 99 = streamOf xs s := by
      rw [storeRead_yes p1 p2 (rdOk_iff.2 (by omega))]
      unfold pieceL
      rw [show (0 : Int).toNat = 0 from rfl, List.drop_zero, List.take_of_length_le (by show _ ≤ 99; omega)]
    rw [Hm.out] at hh1 hh2
    obtain ⟨l, hl⟩ : ∃ l, l = (streamOf xs s).length := ⟨_, rfl⟩
    rw [← hl] at hh1 hi1 hl24
    have Hll := Lib.hid hl
    have RD := Lib.hid (fun W H G => storeRead_any Ax k cx xs s 0 99 W H Hsm.out hs' (by omega) G)
    rw [hrd] at RD
    have FI := Lib.hid (fun W H G => storeFind_any Ax k cx xs s (nx es 0).id W H Hsm.out hs' (by omega) G)
    rw [hf] at FI
    have Hh2 := Lib.hid hh2
    have Hi3 := Lib.hid hi3
    have q0 : (0 : Int) ≤ (i : Int) := by omega
    have q1 : (i : Int) + (m : Int) ≤ (l : Int) := by omega
    have q3 : ((i : Int) + (m : Int)).toNat - i = m := by omega
    have q4 : (i : Int) ≤ (i : Int) + (m : Int) := by omega
    have q5 : (0 : Int) ≤ (i : Int) + (m : Int) := by omega
    clear hids hh1 hh2 hnx hf hrd hl hwo p1 p2 p3 p4 p5 hi2 hi3 hw hec
    have x0 := ev_first2 L3.now.2 Hm.out hm1
    go_wp2_with fail
    refine (RD.out _ L3.now.1.2 L3.now.1.1.2).mono ?_
    rintro e w4 ⟨A4, l4, c4, rfl, hr4, hc4, Hn4, hb4⟩
    obtain rfl : l4 = l := by rw [← hr4.1, Hll.out]
    have L4 := (L3.next hb4).and (Live.row hr4)
    clear x0 hr4 hb4
    have x0 := ev_first2 L4.now.1.2 Hm.out hm1
    go_wp2_with fail
    refine (FI.out _ L4.now.1.1.2 L4.now.1.1.1.2).mono ?_
    rintro e w5 ⟨rfl, hb5⟩
    have L5 := L4.next hb5
    clear x0 hb5
    obtain ⟨b4, o4, rfl, _, _⟩ := L5.now.2.at_ evCells_len (by omega)
    have hcut := L5.now.2.cut (cap := c4) evCells_len i (i + m) (by omega) (by omega) hc4
    rw [show i + m - i = m by omega, Hh2.out, if_neg (by omega), show (some (⟨b4, o4, none⟩ : Addr)).map (·.add (i * 3)) = some ⟨b4, o4 + i * 3, none⟩ by simp [Addr.add]] at hcut
    have S5 := sameEvents_any (some ⟨b4, o4 + i * 3, none⟩) (some ⟨eb, eo, none⟩) m (c4 - i) m ce es es w5 hcut L5.now.1.2 (by omega) (by omega)
    rw [sameL_refl] at S5
    have HS5 := Lib.hid S5
    have q2 : (i : Int) + (m : Int) ≤ (c4 : Int) := by omega
    have q6 : ¬ c4 = i := by omega
    clear S5 hcut
    by_cases hx : x = -2
    · have hx' : (x == -2) = true := beq_iff_eq.2 hx
      clear hx
      go_wp2_with (go_at_call 23; with_reducible refine HS5.out.mono ?_; rintro e w6 ⟨rfl, hb6⟩)
      go_ret
      exact ⟨rfl, (L5.next hb6).now.1.1.1.1⟩
    · have hx' : (x == -2) = false := beq_eq_false_iff_ne.2 hx
      have hix : (i : Int) = x + 1 := Hi3.out.resolve_left hx
      have hix2 : ((i : Int) == x + 1) = true := beq_iff_eq.2 hix
      obtain rfl : x = (i : Int) - 1 := by omega
      clear hx hix
      go_wp2_with (go_at_call 23; with_reducible refine HS5.out.mono ?_; rintro e w6 ⟨rfl, hb6⟩)
      go_ret
      exact ⟨rfl, (L5.next hb6).now.1.1.1.1⟩
end Go.Proofs.YtdmffpjljaolcaaDoor
