/- The walk of laws.FnSubTake. -/
import Derived.Test.YtbcfbkcadceniaaDoorSubTJ
import Derived.Test.YtbcfbkcadceniaaDoorDrawSt2
namespace Go.Proofs.YtbcfbkcadceniaaDoor
set_option linter.unusedVariables false
set_option linter.unusedSimpArgs false
open Go.RowKit

set_option maxRecDepth 100000 in
set_option maxHeartbeats 8000000 in
theorem law_FnSubTake (A : Option Addr) (n c : Nat) (w : World) (h : Code w A n c) (hg : GE w) :
    Calls Tryd.prog 11 #[.slice A n c] w fun e w' => e = .returned (.bool true) ∧ Below w.heap.size w w' := by
  have hn := h.2.1
  unfold maxLen at hn
  by_cases hbig : (1048576 : Int) < n
  · go_enter Tryd.func11, Tryd.ntmps11
    go_wp2_with fail
    go_ret
    exact ⟨rfl, Below.refl _ _⟩
  have HC := Lib.hid h
  have L0 := (Live.since (Below.refl w.heap.size w)).and (Live.ge hg)
  clear h hg
  go_enter Tryd.func11, Tryd.ntmps11
  go_wp2_with fail
  refine (drawSubTake_any A n c _ HC.out).mono ?_
  rintro e w1 ⟨Ax, k, cx, xs, cat, at_, many, rfl, hrow, HB, hk, hkc, Hnil, HS, hm1, hm2, hb1⟩
  have L1 := (((L0.next hb1).and (Live.row hrow)).next ((Below.refl _ _).alloc (Nat.le_refl _) (.cells #[.string cat, .int .i64 at_] 60))).and (Live.blk (Blk.new w1 60 #[.string cat, .int .i64 at_]))
  have a0 := L1.now.2.cell 0
  have a1 := L1.now.2.cell 1
  have Hl := Lib.hid hrow.1
  have FI := Lib.hid (fun W H G => subTake_any Ax k cx xs cat at_ many W H (EnB.small HB.out) HS.out.big (by omega) G)
  have FS := Lib.hid (fun W H => subTakeS_any Ax k cx xs cat at_ many W H (EnB.small HB.out) HS.out.big (by omega))
  clear hrow hb1 L0
  obtain ⟨⟨ys, ⟨cat', at'⟩, ok⟩, hp⟩ : ∃ p, subTake xs ⟨cat, at_⟩ many = p := ⟨_, rfl⟩
  rw [hp] at FI FS
  have Hp := Lib.hid hp
  clear hp
  have hl : (cat'.toList == cat'.toList) = true := beq_self_eq_true _
  go_wp2_with fail
  refine (FI.out _ L1.now.1.2 L1.now.1.1.2).mono ?_
  rintro e w2 ⟨Ao, no, co, rfl, hrow2, hnc2, Hn2, hb2⟩
  have hlt1 := (L1.next hb2).now.2.lt
  have L2 := ((((L1.next hb2).and (Live.row hrow2))).next ((Below.refl _ _).alloc (Nat.le_refl _) (.cells #[.string cat', .int .i64 at'] 60))).and (Live.blk (Blk.new w2 60 #[.string cat', .int .i64 at']))
  have a0 := L2.now.1.1.2.cell 0
  have a1 := L2.now.1.1.2.cell 1
  have n1 : ¬ w1.heap.size = w2.heap.size := by omega
  have Hno : Hid (ys.length = no) := Lib.hid hrow2.1
  clear hrow2 hb2 L1
  go_wp2_with fail
  refine (FS.out _ L2.now.1.1.1.2).mono ?_
  rintro e w3 ⟨As, ns, cs, rfl, hrow3, hnc3, Hn3, hb3⟩
  obtain rfl : ns = no := hrow3.1.symm.trans Hno.out
  have hlt2 := (L2.next hb3).now.2.lt
  have L3 := ((((L2.next hb3).and (Live.row hrow3))).next ((Below.refl _ _).alloc (Nat.le_refl _) (.cells #[.string cat', .int .i64 at'] 60))).and (Live.blk (Blk.new w3 60 #[.string cat', .int .i64 at']))
  have n2 : ¬ w2.heap.size = w3.heap.size := by omega
  have n3 : ¬ w1.heap.size = w3.heap.size := by omega
  have a0 := L3.now.1.1.1.1.2.cell 0
  have a1 := L3.now.1.1.1.1.2.cell 1
  have b0 := L3.now.1.1.2.cell 0
  have b1 := L3.now.1.1.2.cell 1
  have c0 := L3.now.2.cell 0
  have c1 := L3.now.2.cell 1
  have hn30 : ns ≤ 1000000 := by
    rw [← Hno.out]
    have h1 := subTake_len xs ⟨cat, at_⟩ many
    rw [Hp.out] at h1
    have h2 : ys.length ≤ xs.length := h1
    rw [Hl.out] at h2
    omega
  have SE := Lib.hid (sameEntries_any Ao As ns co ns cs ys ys _ L3.now.1.1.1.2 L3.now.1.2 (by omega) (by omega))
  rw [sameL_refl] at SE
  clear hrow3 hb3 L2 FI FS
  cases ok with
  | false =>
    go_wp2_with (first
      | (go_at_call 41; refine SE.out.mono ?_; rintro e w4 ⟨rfl, hb4⟩; have L4 := L3.next hb4; have a0 := L4.now.1.1.1.1.2.cell 0; have a1 := L4.now.1.1.1.1.2.cell 1; have b0 := L4.now.1.1.2.cell 0; have b1 := L4.now.1.1.2.cell 1; have c0 := L4.now.2.cell 0; have c1 := L4.now.2.cell 1)
      | (go_at_call 41; refine (sameEntries_any Ao As ns co ns cs ys ys _ L4.now.1.1.1.2 L4.now.1.2 (by omega) (by omega)).mono ?_; rw [sameL_refl]; rintro e w5 ⟨rfl, hb5⟩; have L5 := L4.next hb5))
    go_ret
    exact ⟨rfl, L5.now.1.1.1.1.1.1.1⟩
  | true =>
    obtain ⟨g1, g2, g3, g4, g5, g6⟩ := subTake_ok Hp.out
    obtain rfl : cat' = cat := by injection g6
    have hlen : (ns : Int) ≤ many := by
      have := subOut_len xs ⟨cat', at_⟩ many.toNat
      rw [← g5, Hno.out] at this
      omega
    have hge : at_ ≤ at' := by
      have := subNext_ge xs ⟨cat', at_⟩ many.toNat
      rw [← g6] at this
      exact this
    have HF : Hid (∀ x ∈ ys, fits cat' x = true ∧ nameOk x.name.data.toList = true ∧ x.name.size ≤ maxLen) := Lib.hid fun x hx => by
      rw [g5] at hx
      obtain ⟨f1, f2⟩ := subOut_fits hx
      have h3 := (storeOk_streams.1 g1).2.1 x f2
      unfold enOk at h3
      rw [Bool.and_eq_true] at h3
      exact ⟨f1, h3.1, (EnB.small HB.out x f2).1⟩
    clear g1 g2 g5 g6
    go_wp2_with (first
      | (go_at_call 41; refine SE.out.mono ?_; rintro e w4 ⟨rfl, hb4⟩; have L4 := L3.next hb4; have a0 := L4.now.1.1.1.1.2.cell 0; have a1 := L4.now.1.1.1.1.2.cell 1; have b0 := L4.now.1.1.2.cell 0; have b1 := L4.now.1.1.2.cell 1; have c0 := L4.now.2.cell 0; have c1 := L4.now.2.cell 1))
    clear SE a0 a1 b0 b1 c0 c1 L3
    go_loopw [12] (fun i wr => ∃ j : Nat, j ≤ ns ∧ i = .int .i64 (j : Int) ∧ Live wr fun W => (((((Below w.heap.size w W ∧ GE W) ∧ Row enCells 4 W W.heap.size Ax k xs) ∧ Blk W w1.heap.size 60 #[.string cat', .int .i64 at_]) ∧ Row enCells 4 W W.heap.size Ao ns ys) ∧ Blk W w2.heap.size 60 #[.string cat', .int .i64 at'])) (fun i _ => ns - (intOf i).toNat)
    case atStart => exact ⟨0, Nat.zero_le _, rfl, L4.imp fun W q => q.1.1⟩
    case round =>
      obtain ⟨j, hj, rfl, LW⟩ := hrel
      by_cases hlt : j < ns
      · have hlt' : (j : Int) < (ns : Int) := by omega
        obtain ⟨b, off, rfl, hb, hx⟩ := LW.now.1.2.en_at (by omega)
        have hs : ys[j]? = some (nx ys j) := nx_get (by rw [Hno.out]; exact hlt)
        obtain ⟨f1, f2, f3⟩ := HF.out _ (List.mem_of_getElem? hs)
        have e0 := (hx _ _ hs).1
        have NP := Lib.hid (nameParts_any (nx ys j).name wr f3 LW.now.1.1.1.1.2)

        have Hf1 := Lib.hid f1
        clear hx hs f1 f3
        go_wp2_with fail
        refine NP.out.mono ?_
        rintro e w5 ⟨⟨cc, rfl, hcc⟩, hb5⟩
        have L5 := LW.next hb5
        have s0 := L5.now.1.1.2.cell 0
        by_cases hce : cat' = ⟨#[]⟩
        · have q2 : cat'.toList = [] := by rw [hce]; exact str_nil rfl
          have q1 : (cat'.toList == ([] : List UInt8)) = true := by rw [q2]; rfl
          clear hce hcc
          go_wp2_with fail
          go_roundw
          case rel => exact ⟨j + 1, by omega, by go_num, L5⟩
          case measure => simp [intOf]; omega
        · have hcm : cc = cat' := by
            have h1 := Hf1.out
            unfold fits at h1
            rw [decide_eq_false hce, Bool.false_or, decide_eq_true_eq] at h1
            exact bytes_same (hcc.trans h1.symm)
          subst hcm
          have q1 : (cc.toList == ([] : List UInt8)) = false := by rw [empty_iff]; exact decide_eq_false hce
          have q2 : ¬ cc.toList = [] := by intro e; rw [e] at q1; cases q1
          clear hce hcc
          go_wp2_with fail
          go_roundw
          case rel => exact ⟨j + 1, by omega, by go_num, L5⟩
          case measure => simp [intOf]; omega
      · have hlt' : ¬ (j : Int) < (ns : Int) := by omega
        have s0 := LW.now.1.1.2.cell 0
        have s1 := LW.now.1.1.2.cell 1
        have t0 := LW.now.2.cell 0
        have t1 := LW.now.2.cell 1
        go_wp2_with fail
        go_ret
        exact ⟨by first | rfl | simp [hlen, hge], LW.now.1.1.1.1.1⟩
end Go.Proofs.YtbcfbkcadceniaaDoor
