/- The walk of laws.FnCutsReadNone. -/
import Derived.Test.YtdmffpjljaolcaaDoorDrawCu
import Derived.Test.YtdmffpjljaolcaaDoorCutsS
import Derived.Test.YtdmffpjljaolcaaDoorSameEn
namespace Go.Proofs.YtdmffpjljaolcaaDoor
set_option linter.unusedVariables false
set_option linter.unusedSimpArgs false
open Go.RowKit

set_option maxRecDepth 100000 in
set_option maxHeartbeats 8000000 in
theorem law_FnCutsReadNone (A : Option Addr) (n c : Nat) (w : World) (h : Code w A n c) (hg : GE w) :
    Calls Tryd.prog 6 #[.slice A n c] w fun e w' => e = .returned (.bool true) ∧ Below w.heap.size w w' := by
  have hn := h.2.1
  unfold maxLen at hn
  by_cases hbig : (1048576 : Int) < n
  · go_enter Tryd.func6, Tryd.ntmps6
    go_wp2_with fail
    go_ret
    exact ⟨rfl, Below.refl _ _⟩
  have HC := Lib.hid h
  have L0 := (Live.since (Below.refl w.heap.size w)).and (Live.ge hg)
  clear h hg
  go_enter Tryd.func6, Tryd.ntmps6
  go_wp2_with fail
  refine (drawCutsRead_any A n c _ HC.out).mono ?_
  rintro e w1 ⟨Ax, k, cx, xs, Ac, m, cc, cs, s, rfl, hrow, hrow', HB, Hsc, hk, hm, hkc, hmc, Hnil, hs, hb1⟩
  have L1 := ((L0.next hb1).and (Live.row hrow)).and (Live.row hrow')
  have Hsm := Lib.hid (EnB.small HB.out)
  have hs' : s.size ≤ maxLen := small60 hs
  have Hl := Lib.hid hrow.1
  have Hm := Lib.hid hrow'.1
  clear hrow hrow' hb1 L0
  have F1 := Lib.hid (fun W H H' G => cutsRead_any Ax k cx xs Ac m cc cs s W H H' Hsm.out Hsc.out hs' (by omega) (by omega) G)
  have F2 := Lib.hid (fun W H H' => cutsReadS_any Ax k cx xs Ac m cc cs s W H H' Hsm.out Hsc.out hs' (by omega) (by omega))
  obtain ⟨zs, hz⟩ : ∃ zs, cutsRead xs cs s = zs := ⟨_, rfl⟩
  have hzl : zs.length ≤ 30 := by rw [← hz]; have := cutsRead_len xs cs s; have := streamOf_len xs s; rw [Hl.out] at this; omega
  rw [hz] at F1 F2
  have Hz := Lib.hid hz
  clear hz
  go_wp2_with fail
  refine (F1.out _ L1.now.1.2 L1.now.2 L1.now.1.1.2).mono ?_
  rintro e w2 ⟨A2, l, c2, rfl, hr2, hc2, Hn2, hb2⟩
  have L2 := (L1.next hb2).and (Live.row hr2)
  have Hl2 := Lib.hid hr2.1
  have hl30 : l ≤ 30 := by rw [← hr2.1]; exact hzl
  clear hb2 hr2 L1
  go_wp2_with fail
  refine (F2.out _ L2.now.1.1.2 L2.now.1.2).mono ?_
  rintro e w3 ⟨A3, l3, c3, rfl, hr3, hc3, Hn3, hb3⟩
  obtain rfl : l3 = l := by rw [← hr3.1, Hl2.out]
  have L3 := (L2.next hb3).and (Live.row hr3)
  clear hb3 hr3 L2
  have S3 := Lib.hid (fun W H H' => sameEvents_any A2 A3 l3 c2 l3 c3 zs zs W H H' (by omega) (by omega))
  rw [sameL_refl] at S3
  go_wp2_with fail
  with_reducible refine (S3.out _ L3.now.1.2 L3.now.2).mono ?_
  rintro e w4 ⟨rfl, hb4⟩
  have L4 := L3.next hb4
  clear hb4 L3 F1 F2
  have V := Lib.hid (fun W H => storeValidS_any Ax k cx xs W H Hsm.out (by omega))
  have NV := Lib.hid (fun W => nameValidS_any s W hs')
  cases h1 : storeOk xs with
  | false =>
    rw [h1] at V
    go_wp2_with fail
    refine (V.out _ L4.now.1.1.1.2).mono ?_
    rintro e w6 ⟨rfl, hb6⟩
    have L6 := L4.next hb6
    clear hb6 L4
    go_wp2_with fail
    with_reducible refine (S3.out _ L6.now.1.2 L6.now.2).mono ?_
    rintro e w5 ⟨rfl, hb5⟩
    go_wp2_with fail
    go_ret
    exact ⟨rfl, (L6.next hb5).now.1.1.1.1.1⟩
  | true =>
    rw [h1] at V
    go_wp2_with fail
    refine (V.out _ L4.now.1.1.1.2).mono ?_
    rintro e w6 ⟨rfl, hb6⟩
    have L6 := L4.next hb6
    clear hb6 L4
    cases h3 : nameOk s.data.toList with
    | false =>
      rw [h3] at NV
      go_wp2_with fail
      refine (NV.out _).mono ?_
      rintro e w7 ⟨rfl, hb7⟩
      have L7 := L6.next hb7
      clear hb7 L6
      go_wp2_with fail
      with_reducible refine (S3.out _ L7.now.1.2 L7.now.2).mono ?_
      rintro e w5 ⟨rfl, hb5⟩
      go_wp2_with fail
      go_ret
      exact ⟨rfl, (L7.next hb5).now.1.1.1.1.1⟩
    | true =>
      rw [h3] at NV
      have hnl := cutsRead_nil h1 h3
      have hrl : (storeRead xs s 0 99).length ≤ 30 ∧ zs.length ≤ (storeRead xs s 0 99).length := by
        rw [storeRead_yes h1 h3 (rdOk_iff.2 (by omega))]
        show (pieceL (streamOf xs s) 0 99).length ≤ 30 ∧ _ ≤ (pieceL (streamOf xs s) 0 99).length
        rw [drop_piece h1 0, List.drop_zero, ← Hz.out]
        have := streamOf_len xs s
        rw [Hl.out] at this
        exact ⟨by omega, cutsRead_len _ _ _⟩
      obtain ⟨ts, hts⟩ : ∃ ts, storeRead xs s 0 99 = ts := ⟨_, rfl⟩
      rw [hts] at hnl hrl
      obtain ⟨p, hp⟩ : ∃ p, p = ts.length := ⟨_, rfl⟩
      rw [← hp, Hl2.out] at hrl
      have Hp := Lib.hid hp
      have CR := Lib.hid (fun g W H H' G => cutsRead_any Ax k cx xs (some ⟨g, 0, none⟩) 0 0 [] s W H H' Hsm.out (fun c hc => by cases hc) hs' (by omega) (by omega) G)
      rw [hnl] at CR
      have RD := Lib.hid (fun W H G => storeRead_any Ax k cx xs s 0 99 W H Hsm.out hs' (by omega) G)
      rw [hts] at RD
      clear hnl hts hp h1 h3
      go_wp2_with fail
      refine (NV.out _).mono ?_
      rintro e w7 ⟨rfl, hb7⟩
      have L7 := L6.next hb7
      clear hb7 L6
      have LA := L7.next ((Below.refl w7.heap.size w7).alloc (Nat.le_refl _) (.cells #[] 41))
      go_wp2_with fail
      refine (CR.out _ _ LA.now.1.1.1.2 (Row.nil _ _ _) LA.now.1.1.1.1.2).mono ?_
      rintro e w8 ⟨A8, n8, c8, rfl, hr8, hc8, Hn8, hb8⟩
      obtain rfl : n8 = p := by rw [← hr8.1, Hp.out]
      have L8 := (LA.next hb8).and (Live.row hr8)
      clear hr8 hb8 LA L7
      obtain ⟨g1, g2⟩ := hrl
      have g3 : (l3 : Int) ≤ (n8 : Int) := by omega
      go_wp2_with (first
        | (go_at_call 24; refine (RD.out _ L8.now.1.1.1.1.2 L8.now.1.1.1.1.1.2).mono ?_; rintro e w9 ⟨A9, n9, c9, rfl, hr9, hc9, Hn9, hb9⟩; obtain rfl : n9 = n8 := (by rw [← hr9.1, Hp.out]); have L9 := (L8.next hb9).and (Live.row hr9); have S9 := sameEvents_any A8 A9 n9 c8 n9 c9 ts ts _ L9.now.1.2 hr9 (by omega) (by omega); rw [sameL_refl] at S9; have HS9 := Lib.hid S9; clear S9 hr9)
        | (go_at_call 23; with_reducible refine HS9.out.mono ?_; rintro e w10 ⟨rfl, hb10⟩))
      go_ret
      exact ⟨by simp, (L9.next hb10).now.1.1.1.1.1.1.1⟩
end Go.Proofs.YtdmffpjljaolcaaDoor
