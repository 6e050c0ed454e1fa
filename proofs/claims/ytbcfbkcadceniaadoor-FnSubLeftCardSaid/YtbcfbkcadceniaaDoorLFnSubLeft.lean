/- The walk of laws.FnSubLeft. -/
import Derived.Test.YtbcfbkcadceniaaDoorSubTJ
import Derived.Test.YtbcfbkcadceniaaDoorDrawSb
namespace Go.Proofs.YtbcfbkcadceniaaDoor
set_option linter.unusedVariables false
set_option linter.unusedSimpArgs false
open Go.RowKit

set_option maxRecDepth 100000 in
set_option maxHeartbeats 8000000 in
theorem law_FnSubLeft (A : Option Addr) (n c : Nat) (w : World) (h : Code w A n c) (hg : GE w) :
    Calls Tryd.prog 9 #[.slice A n c] w fun e w' => e = .returned (.bool true) ∧ Below w.heap.size w w' := by
  have hn := h.2.1
  unfold maxLen at hn
  by_cases hbig : (1048576 : Int) < n
  · go_enter Tryd.func9, Tryd.ntmps9
    go_wp2_with fail
    go_ret
    exact ⟨rfl, Below.refl _ _⟩
  have HC := Lib.hid h
  have L0 := (Live.since (Below.refl w.heap.size w)).and (Live.ge hg)
  clear h hg
  go_enter Tryd.func9, Tryd.ntmps9
  go_wp2_with fail
  refine (drawSubLeft_any A n c _ HC.out).mono ?_
  rintro e w1 ⟨Ax, k, cx, xs, cat, at_, rfl, hrow, HB, hk, hkc, Hnil, HS, hb1⟩
  have L1 := (((L0.next hb1).and (Live.row hrow)).next ((Below.refl _ _).alloc (Nat.le_refl _) (.cells #[.string cat, .int .i64 at_] 60))).and (Live.blk (Blk.new w1 60 #[.string cat, .int .i64 at_]))
  have a0 := L1.now.2.cell 0
  have a1 := L1.now.2.cell 1
  have Hl := Lib.hid hrow.1
  have FI := Lib.hid (fun W H G => subLeft_any Ax k cx xs cat at_ W H (EnB.small HB.out) HS.out.big (by omega) G)
  have FS := Lib.hid (fun W H => subLeftS_any Ax k cx xs cat at_ W H (EnB.small HB.out) HS.out.big (by omega))
  clear hrow hb1 L0
  obtain ⟨q, hq⟩ : ∃ q, subLeft xs ⟨cat, at_⟩ = q := ⟨_, rfl⟩
  rw [hq] at FI FS
  go_wp2_with fail
  refine (FI.out _ L1.now.1.2 L1.now.1.1.2).mono ?_
  rintro e w2 ⟨rfl, hb2⟩
  have L2 := L1.next hb2
  have a0 := L2.now.2.cell 0
  have a1 := L2.now.2.cell 1
  clear hb2
  go_wp2_with fail
  refine (FS.out _ L2.now.1.2).mono ?_
  rintro e w3 ⟨rfl, hb3⟩
  have L3 := L2.next hb3
  have a0 := L3.now.2.cell 0
  have a1 := L3.now.2.cell 1
  clear hb3 L1 L2
  by_cases hneg : q < 0
  · clear hq
    go_wp2_with fail
    go_ret
    exact ⟨rfl, L3.now.1.1.1⟩
  obtain ⟨h1, h2⟩ := subLeft_pos (xs := xs) (s := ⟨cat, at_⟩) (by rw [hq]; omega)
  have h99 := subLeft_99 h1 h2
  rw [hq] at h99
  have H99 := Lib.hid h99
  have ht := subTake_is (m := 99) h1 h2 (by omega)
  have F0 := Lib.hid (fun W H G => subTake_any Ax k cx xs cat at_ 99 W H (EnB.small HB.out) HS.out.big (by omega) G)
  rw [show subTake xs ⟨cat, at_⟩ 99 = (subOut xs ⟨cat, at_⟩ 99, subNext xs ⟨cat, at_⟩ 99, true) from ht] at F0
  clear h1 h2 ht hq FI FS h99
  go_wp2_with fail
  refine (F0.out _ L3.now.1.2 L3.now.1.1.2).mono ?_
  rintro e w4 ⟨Ao, no, co, rfl, hrow4, hnc4, Hn4, hb4⟩
  have L4 := L3.next hb4
  have hno : (subOut xs ⟨cat, at_⟩ 99).length = no := hrow4.1
  have h99 := H99.out
  rw [hno] at h99
  subst h99
  clear H99
  have hbe : ((no : Int) == (no : Int)) = true := beq_self_eq_true _
  clear hrow4 hno
  go_wp2_with fail
  go_ret
  exact ⟨by first | rfl | (simp) | (rw [hbe]), by first | exact L4.now.1.1.1 | exact L4.now.1.1.1.alloc L4.now.1.1.1.size _⟩
end Go.Proofs.YtbcfbkcadceniaaDoor
