/- The walk of laws.FnSubTakeAll. -/
import Derived.Test.YtbcfbkcadceniaaDoorSubTJ
import Derived.Test.YtbcfbkcadceniaaDoorDrawSt2
namespace Go.Proofs.YtbcfbkcadceniaaDoor
set_option linter.unusedVariables false
set_option linter.unusedSimpArgs false
open Go.RowKit

set_option maxRecDepth 100000 in
set_option maxHeartbeats 8000000 in
theorem law_FnSubTakeAll (A : Option Addr) (n c : Nat) (w : World) (h : Code w A n c) (hg : GE w) :
    Calls Tryd.prog 12 #[.slice A n c] w fun e w' => e = .returned (.bool true) ∧ Below w.heap.size w w' := by
  have hn := h.2.1
  unfold maxLen at hn
  by_cases hbig : (1048576 : Int) < n
  · go_enter Tryd.func12, Tryd.ntmps12
    go_wp2_with fail
    go_ret
    exact ⟨rfl, Below.refl _ _⟩
  have HC := Lib.hid h
  have L0 := (Live.since (Below.refl w.heap.size w)).and (Live.ge hg)
  clear h hg
  go_enter Tryd.func12, Tryd.ntmps12
  go_wp2_with fail
  refine (drawSubTake_any A n c _ HC.out).mono ?_
  rintro e w1 ⟨Ax, k, cx, xs, cat, at_, many, rfl, hrow, HB, hk, hkc, Hnil, HS, hm1, hm2, hb1⟩
  have L1 := (((L0.next hb1).and (Live.row hrow)).next ((Below.refl _ _).alloc (Nat.le_refl _) (.cells #[.string cat, .int .i64 at_] 60))).and (Live.blk (Blk.new w1 60 #[.string cat, .int .i64 at_]))
  have a0 := L1.now.2.cell 0
  have a1 := L1.now.2.cell 1
  have Hl := Lib.hid hrow.1
  have FI := Lib.hid (fun W H G => subTake_any Ax k cx xs cat at_ many W H (EnB.small HB.out) HS.out.big (by omega) G)
  have FS := Lib.hid (fun W H => subTakeS_any Ax k cx xs cat at_ many W H (EnB.small HB.out) HS.out.big (by omega))
  clear hrow hb1 L0
  obtain ⟨⟨ys, ⟨cat', at'⟩, ok⟩, hp⟩ : ∃ p, subTake xs ⟨cat, at_⟩ many = p := ⟨_, rfl⟩
  rw [hp] at FI FS
  have Hp := Lib.hid hp
  clear hp
  have hl : (cat'.toList == cat'.toList) = true := beq_self_eq_true _
  go_wp2_with fail
  refine (FI.out _ L1.now.1.2 L1.now.1.1.2).mono ?_
  rintro e w2 ⟨Ao, no, co, rfl, hrow2, hnc2, Hn2, hb2⟩
  have hlt1 := (L1.next hb2).now.2.lt
  have L2 := ((((L1.next hb2).and (Live.row hrow2))).next ((Below.refl _ _).alloc (Nat.le_refl _) (.cells #[.string cat', .int .i64 at'] 60))).and (Live.blk (Blk.new w2 60 #[.string cat', .int .i64 at']))
  have a0 := L2.now.1.1.2.cell 0
  have a1 := L2.now.1.1.2.cell 1
  have n1 : ¬ w1.heap.size = w2.heap.size := by omega
  have Hno : Hid (ys.length = no) := Lib.hid hrow2.1
  clear hrow2 hb2 L1
  go_wp2_with fail
  refine (FS.out _ L2.now.1.1.1.2).mono ?_
  rintro e w3 ⟨As, ns, cs, rfl, hrow3, hnc3, Hn3, hb3⟩
  obtain rfl : ns = no := hrow3.1.symm.trans Hno.out
  have hlt2 := (L2.next hb3).now.2.lt
  have L3 := ((((L2.next hb3).and (Live.row hrow3))).next ((Below.refl _ _).alloc (Nat.le_refl _) (.cells #[.string cat', .int .i64 at'] 60))).and (Live.blk (Blk.new w3 60 #[.string cat', .int .i64 at']))
  have n2 : ¬ w2.heap.size = w3.heap.size := by omega
  have n3 : ¬ w1.heap.size = w3.heap.size := by omega
  have a0 := L3.now.1.1.1.1.2.cell 0
  have a1 := L3.now.1.1.1.1.2.cell 1
  have b0 := L3.now.1.1.2.cell 0
  have b1 := L3.now.1.1.2.cell 1
  have c0 := L3.now.2.cell 0
  have c1 := L3.now.2.cell 1
  have hn30 : ns ≤ 1000000 := by
    rw [← Hno.out]
    have h1 := subTake_len xs ⟨cat, at_⟩ many
    rw [Hp.out] at h1
    have h2 : ys.length ≤ xs.length := h1
    rw [Hl.out] at h2
    omega
  have SE := Lib.hid (sameEntries_any Ao As ns co ns cs ys ys _ L3.now.1.1.1.2 L3.now.1.2 (by omega) (by omega))
  rw [sameL_refl] at SE
  clear hrow3 hb3 L2 FI FS
  cases ok with
  | false =>
    go_wp2_with (first
      | (go_at_call 41; refine SE.out.mono ?_; rintro e w4 ⟨rfl, hb4⟩; have L4 := L3.next hb4; have a0 := L4.now.1.1.1.1.2.cell 0; have a1 := L4.now.1.1.1.1.2.cell 1; have b0 := L4.now.1.1.2.cell 0; have b1 := L4.now.1.1.2.cell 1; have c0 := L4.now.2.cell 0; have c1 := L4.now.2.cell 1)
      | (go_at_call 41; refine (sameEntries_any Ao As ns co ns cs ys ys _ L4.now.1.1.1.2 L4.now.1.2 (by omega) (by omega)).mono ?_; rw [sameL_refl]; rintro e w5 ⟨rfl, hb5⟩; have L5 := L4.next hb5))
    go_ret
    exact ⟨rfl, L5.now.1.1.1.1.1.1.1⟩
  | true =>
    obtain ⟨g1, g2, g3, g4, g5, g6⟩ := subTake_ok Hp.out
    by_cases hful : (ns : Int) = many
    · have hf' : ((ns : Int) == many) = true := by rw [hful]; exact beq_self_eq_true _
      clear g1 g2 g5 g6 hful
      go_wp2_with (first
        | (go_at_call 41; refine SE.out.mono ?_; rintro e w4 ⟨rfl, hb4⟩; have L4 := L3.next hb4; have a0 := L4.now.1.1.1.1.2.cell 0; have a1 := L4.now.1.1.1.1.2.cell 1; have b0 := L4.now.1.1.2.cell 0; have b1 := L4.now.1.1.2.cell 1; have c0 := L4.now.2.cell 0; have c1 := L4.now.2.cell 1)
        | (go_at_call 41; refine (sameEntries_any Ao As ns co ns cs ys ys _ L4.now.1.1.1.2 L4.now.1.2 (by omega) (by omega)).mono ?_; rw [sameL_refl]; rintro e w5 ⟨rfl, hb5⟩; have L5 := L4.next hb5))
      go_ret
      exact ⟨rfl, L5.now.1.1.1.1.1.1.1⟩
    · have hf' : ((ns : Int) == many) = false := beq_eq_false_iff_ne.2 hful
      obtain ⟨e1, e2⟩ := subTake_all (m := many.toNat) g1 g2 (by rw [← g5, Hno.out]; omega)
      rw [← g6] at e1 e2
      simp only at e2
      rw [Hl.out] at e2
      have hS' : SbB ⟨cat', at'⟩ := by
        have h1 := subNext_ok (m := many.toNat) g1 g2
        rw [← g6] at h1
        have h2 := (subOk_iff.1 h1).2
        simp only at h2
        have e : cat' = cat := by injection g6
        rw [e]
        exact ⟨HS.out.big.1, by show -1000000 ≤ at'; omega, by show at' ≤ 1000000; omega⟩
      have V1 := Lib.hid (fun W H G => subLeft_any Ax k cx xs cat' at' W H (EnB.small HB.out) hS' (by omega) G)
      rw [e1] at V1
      clear g1 g2 g5 g6 hful e1 hS'
      by_cases hk1 : at' = (k : Int)
      · have q1 : (at' == (k : Int)) = true := by rw [hk1]; exact beq_self_eq_true _
        clear e2 hk1
        go_wp2_with (first
          | (go_at_call 41; refine SE.out.mono ?_; rintro e w4 ⟨rfl, hb4⟩; have L4 := L3.next hb4; have a0 := L4.now.1.1.1.1.2.cell 0; have a1 := L4.now.1.1.1.1.2.cell 1; have b0 := L4.now.1.1.2.cell 0; have b1 := L4.now.1.1.2.cell 1; have c0 := L4.now.2.cell 0; have c1 := L4.now.2.cell 1)
          | (go_at_call 36; refine (V1.out _ L4.now.1.1.1.1.1.2 L4.now.1.1.1.1.1.1.2).mono ?_; rintro e w5 ⟨rfl, hb5⟩; have L5 := L4.next hb5; have a0 := L5.now.1.1.1.1.2.cell 0; have a1 := L5.now.1.1.1.1.2.cell 1; have b0 := L5.now.1.1.2.cell 0; have b1 := L5.now.1.1.2.cell 1))
        go_ret
        exact ⟨by first | rfl | simp, L5.now.1.1.1.1.1.1.1⟩
      · have q1 : (at' == (k : Int)) = false := beq_eq_false_iff_ne.2 hk1
        have q2 : (at' == at_) = true := by rw [show at' = at_ from e2.resolve_left hk1]; exact beq_self_eq_true _
        clear e2 hk1
        go_wp2_with (first
          | (go_at_call 41; refine SE.out.mono ?_; rintro e w4 ⟨rfl, hb4⟩; have L4 := L3.next hb4; have a0 := L4.now.1.1.1.1.2.cell 0; have a1 := L4.now.1.1.1.1.2.cell 1; have b0 := L4.now.1.1.2.cell 0; have b1 := L4.now.1.1.2.cell 1; have c0 := L4.now.2.cell 0; have c1 := L4.now.2.cell 1)
          | (go_at_call 36; refine (V1.out _ L4.now.1.1.1.1.1.2 L4.now.1.1.1.1.1.1.2).mono ?_; rintro e w5 ⟨rfl, hb5⟩; have L5 := L4.next hb5; have a0 := L5.now.1.1.1.1.2.cell 0; have a1 := L5.now.1.1.1.1.2.cell 1; have b0 := L5.now.1.1.2.cell 0; have b1 := L5.now.1.1.2.cell 1))
        go_ret
        exact ⟨by first | rfl | simp, L5.now.1.1.1.1.1.1.1⟩
end Go.Proofs.YtbcfbkcadceniaaDoor
