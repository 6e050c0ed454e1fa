/- The walk of laws.FnCutsRead. -/
import Derived.Test.YtdmffpjljaolcaaDoorDrawCu
import Derived.Test.YtdmffpjljaolcaaDoorCutsS
import Derived.Test.YtdmffpjljaolcaaDoorSameEn
namespace Go.Proofs.YtdmffpjljaolcaaDoor
set_option linter.unusedVariables false
set_option linter.unusedSimpArgs false
open Go.RowKit

set_option maxRecDepth 100000 in
set_option maxHeartbeats 8000000 in
theorem law_FnCutsRead (A : Option Addr) (n c : Nat) (w : World) (h : Code w A n c) (hg : GE w) :
    Calls Tryd.prog 5 #[.slice A n c] w fun e w' => e = .returned (.bool true) ∧ Below w.heap.size w w' := by
  have hn := h.2.1
  unfold maxLen at hn
  by_cases hbig : (1048576 : Int) < n
  · go_enter Tryd.func5, Tryd.ntmps5
    go_wp2_with fail
    go_ret
    exact ⟨rfl, Below.refl _ _⟩
  have HC := Lib.hid h
  have L0 := (Live.since (Below.refl w.heap.size w)).and (Live.ge hg)
  clear h hg
  go_enter Tryd.func5, Tryd.ntmps5
  go_wp2_with fail
  refine (drawCutsRead_any A n c _ HC.out).mono ?_
  rintro e w1 ⟨Ax, k, cx, xs, Ac, m, cc, cs, s, rfl, hrow, hrow', HB, Hsc, hk, hm, hkc, hmc, Hnil, hs, hb1⟩
  have L1 := ((L0.next hb1).and (Live.row hrow)).and (Live.row hrow')
  have Hsm := Lib.hid (EnB.small HB.out)
  have hs' : s.size ≤ maxLen := small60 hs
  have Hl := Lib.hid hrow.1
  have Hm := Lib.hid hrow'.1
  clear hrow hrow' hb1 L0
  have F1 := Lib.hid (fun W H H' G => cutsRead_any Ax k cx xs Ac m cc cs s W H H' Hsm.out Hsc.out hs' (by omega) (by omega) G)
  have F2 := Lib.hid (fun W H H' => cutsReadS_any Ax k cx xs Ac m cc cs s W H H' Hsm.out Hsc.out hs' (by omega) (by omega))
  obtain ⟨zs, hz⟩ : ∃ zs, cutsRead xs cs s = zs := ⟨_, rfl⟩
  have hzl : zs.length ≤ 30 := by rw [← hz]; have := cutsRead_len xs cs s; have := streamOf_len xs s; rw [Hl.out] at this; omega
  rw [hz] at F1 F2
  have Hz := Lib.hid hz
  clear hz
  go_wp2_with fail
  refine (F1.out _ L1.now.1.2 L1.now.2 L1.now.1.1.2).mono ?_
  rintro e w2 ⟨A2, l, c2, rfl, hr2, hc2, Hn2, hb2⟩
  have L2 := (L1.next hb2).and (Live.row hr2)
  have Hl2 := Lib.hid hr2.1
  have hl30 : l ≤ 30 := by rw [← hr2.1]; exact hzl
  clear hb2 hr2 L1
  go_wp2_with fail
  refine (F2.out _ L2.now.1.1.2 L2.now.1.2).mono ?_
  rintro e w3 ⟨A3, l3, c3, rfl, hr3, hc3, Hn3, hb3⟩
  obtain rfl : l3 = l := by rw [← hr3.1, Hl2.out]
  have L3 := (L2.next hb3).and (Live.row hr3)
  clear hb3 hr3 L2
  have S3 := Lib.hid (fun W H H' => sameEvents_any A2 A3 l3 c2 l3 c3 zs zs W H H' (by omega) (by omega))
  rw [sameL_refl] at S3
  go_wp2_with fail
  with_reducible refine (S3.out _ L3.now.1.2 L3.now.2).mono ?_
  rintro e w4 ⟨rfl, hb4⟩
  have L4 := L3.next hb4
  clear hb4 L3 F1 F2
  by_cases hl0 : l3 = 0
  · subst hl0
    go_wp2_with fail
    with_reducible refine (S3.out _ L4.now.1.2 L4.now.2).mono ?_
    rintro e w5 ⟨rfl, hb5⟩
    go_wp2_with fail
    go_ret
    exact ⟨rfl, (L4.next hb5).now.1.1.1.1.1⟩
  have hl1 : ((l3 : Int) == 0) = false := beq_eq_false_iff_ne.2 (by omega)
  obtain ⟨v1, v2, v3⟩ := cutsRead_valid (xs := xs) (l := cs) (s := s) (by rw [Hz.out, Hl2.out]; exact hl0)
  have hlast := cutLast_is v2 s
  rw [Hm.out] at hlast
  have hrd := cutsRead_read v1 v2 v3
  rw [Hz.out, ← hlast] at hrd
  have HL := Lib.hid hrd
  have RD := Lib.hid (fun W H G => storeRead_any Ax k cx xs s (cutLast cs s m) 99 W H Hsm.out hs' (by omega) G)
  rw [← hrd] at RD
  have LL := L4.imp fun W q => (⟨⟨⟨⟨q.1.1.1.1.1, q.1.1.1.1.2⟩, q.1.1.1.2⟩, q.1.1.2⟩, q.1.2⟩ : (((Below w.heap.size w W ∧ GE W) ∧ Row enCells 4 W W.heap.size Ax k xs) ∧ Row cutCells 2 W W.heap.size Ac m cs) ∧ Row evCells 3 W W.heap.size A2 l3 zs)
  clear v1 v2 v3 hlast hrd L4 S3
  go_wp2_with fail
  go_loopw [8, 9] (fun u i wr => ∃ q : Nat, q ≤ m ∧ i = .int .i64 q ∧ u = .int .i64 (cutLast cs s q) ∧ Live wr fun W => (((Below w.heap.size w W ∧ GE W) ∧ Row enCells 4 W W.heap.size Ax k xs) ∧ Row cutCells 2 W W.heap.size Ac m cs) ∧ Row evCells 3 W W.heap.size A2 l3 zs) (fun _ i _ => m - (intOf i).toNat)
  case atStart => exact ⟨0, Nat.zero_le _, rfl, rfl, LL⟩
  case round =>
    obtain ⟨q, hq, rfl, rfl, L⟩ := hrel
    by_cases hqm : q < m
    · have hqm' : (q : Int) < (m : Int) := by omega
      obtain ⟨b, off, rfl, hb, hx⟩ := L.now.1.2.cut_at (by omega)
      obtain ⟨c0, c1⟩ := hx q hqm
      obtain ⟨⟨name, at_⟩, he⟩ : ∃ e, nx cs q = e := ⟨_, rfl⟩
      rw [he] at c0 c1
      simp only at c0 c1
      have He := Lib.hid he
      clear hx he
      by_cases hne : name = s
      · have e1 : (name.toList == s.toList) = true := by rw [hne]; exact beq_self_eq_true _
        have Hc := Lib.hid (show cutLast cs s (q + 1) = at_ from (cutLast_yes (by rw [He.out]; exact hne)).trans (by rw [He.out]))
        clear hne
        go_wp2_with fail
        go_roundw
        case rel => exact ⟨q + 1, by omega, by go_num, by rw [Hc.out], L⟩
        case measure => simp [intOf]; omega
      · have e1 : (name.toList == s.toList) = false := toList_ne hne
        have Hc := Lib.hid (show cutLast cs s (q + 1) = cutLast cs s q from cutLast_no (by rw [He.out]; exact hne))
        clear hne
        go_wp2_with fail
        go_roundw
        case rel => exact ⟨q + 1, by omega, by go_num, by rw [Hc.out], L⟩
        case measure => simp [intOf]; omega
    · obtain rfl : q = m := by omega
      have hqm' : ¬ (q : Int) < (q : Int) := by omega
      go_wp2_with (first
        | (go_at_call 24; refine (RD.out _ L.now.1.1.2 L.now.1.1.1.2).mono ?_; rintro e w6 ⟨A6, n6, c6, rfl, hr6, hc6, Hn6, hb6⟩; obtain rfl : n6 = l3 := (by rw [← hr6.1, Hl2.out]); have L6 := (L.next hb6).and (Live.row hr6); have S6 := sameEvents_any A6 A2 n6 c6 n6 c2 zs zs _ hr6 L6.now.1.2 (by omega) (by omega); rw [sameL_refl] at S6; have HS6 := Lib.hid S6; clear S6 hr6)
        | (go_at_call 23; with_reducible refine HS6.out.mono ?_; rintro e w7 ⟨rfl, hb7⟩))
      go_ret
      exact ⟨rfl, (L6.next hb7).now.1.1.1.1.1⟩
end Go.Proofs.YtdmffpjljaolcaaDoor
