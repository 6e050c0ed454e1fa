/- The walk of laws.FnSubTakeOn. -/
import Derived.Test.YtbcfbkcadceniaaDoorSubTJ
import Derived.Test.YtbcfbkcadceniaaDoorDrawSt2
import Derived.Test.YtbcfbkcadceniaaDoorAppG
namespace Go.Proofs.YtbcfbkcadceniaaDoor
set_option linter.unusedVariables false
set_option linter.unusedSimpArgs false
open Go.RowKit

set_option maxRecDepth 100000 in
set_option maxHeartbeats 8000000 in
theorem law_FnSubTakeOn (A : Option Addr) (n c : Nat) (B : Option Addr) (m d : Nat) (w : World) (h : Code w A n c) (h2 : Code w B m d) (hg : GE w) :
    Calls Tryd.prog 14 #[.slice A n c, .slice B m d] w fun e w' => e = .returned (.bool true) ∧ Below w.heap.size w w' := by
  have hn := h.2.1
  unfold maxLen at hn
  by_cases hbig : (1048576 : Int) < n
  · go_enter Tryd.func14, Tryd.ntmps14
    go_wp2_with fail
    go_ret
    exact ⟨rfl, Below.refl _ _⟩
  have hm := h2.2.1
  unfold maxLen at hm
  by_cases hbig2 : (1048576 : Int) < m
  · go_enter Tryd.func14, Tryd.ntmps14
    go_wp2_with fail
    go_ret
    exact ⟨rfl, Below.refl _ _⟩
  have HC := Lib.hid h
  have L0 := (Live.since (Below.refl w.heap.size w)).and (Live.ge hg)
  clear h h2 hg
  go_enter Tryd.func14, Tryd.ntmps14
  go_wp2_with fail
  refine (drawSubTake_any A n c _ HC.out).mono ?_
  rintro e w1 ⟨Ax, k, cx, xs, cat, at_, many, rfl, hrow, HB, hk, hkc, Hnil, HS, hm1, hm2, hb1⟩
  have L1 := (((L0.next hb1).and (Live.row hrow)).next ((Below.refl _ _).alloc (Nat.le_refl _) (.cells #[.string cat, .int .i64 at_] 60))).and (Live.blk (Blk.new w1 60 #[.string cat, .int .i64 at_]))
  have a0 := L1.now.2.cell 0
  have a1 := L1.now.2.cell 1
  have Hl := Lib.hid hrow.1
  have FI := Lib.hid (fun W H G => subTake_any Ax k cx xs cat at_ many W H (EnB.small HB.out) HS.out.big (by omega) G)
  have FS := Lib.hid (fun W H => subTakeS_any Ax k cx xs cat at_ many W H (EnB.small HB.out) HS.out.big (by omega))
  clear hrow hb1 L0
  obtain ⟨⟨ys, ⟨cat', at'⟩, ok⟩, hp⟩ : ∃ p, subTake xs ⟨cat, at_⟩ many = p := ⟨_, rfl⟩
  rw [hp] at FI FS
  have Hp := Lib.hid hp
  clear hp
  have hl : (cat'.toList == cat'.toList) = true := beq_self_eq_true _
  go_wp2_with fail
  refine (FI.out _ L1.now.1.2 L1.now.1.1.2).mono ?_
  rintro e w2 ⟨Ao, no, co, rfl, hrow2, hnc2, Hn2, hb2⟩
  have hlt1 := (L1.next hb2).now.2.lt
  have L2 := ((((L1.next hb2).and (Live.row hrow2))).next ((Below.refl _ _).alloc (Nat.le_refl _) (.cells #[.string cat', .int .i64 at'] 60))).and (Live.blk (Blk.new w2 60 #[.string cat', .int .i64 at']))
  have a0 := L2.now.1.1.2.cell 0
  have a1 := L2.now.1.1.2.cell 1
  have n1 : ¬ w1.heap.size = w2.heap.size := by omega
  have Hno : Hid (ys.length = no) := Lib.hid hrow2.1
  clear hrow2 hb2 L1
  go_wp2_with fail
  refine (FS.out _ L2.now.1.1.1.2).mono ?_
  rintro e w3 ⟨As, ns, cs, rfl, hrow3, hnc3, Hn3, hb3⟩
  obtain rfl : ns = no := hrow3.1.symm.trans Hno.out
  have hlt2 := (L2.next hb3).now.2.lt
  have L3 := ((((L2.next hb3).and (Live.row hrow3))).next ((Below.refl _ _).alloc (Nat.le_refl _) (.cells #[.string cat', .int .i64 at'] 60))).and (Live.blk (Blk.new w3 60 #[.string cat', .int .i64 at']))
  have n2 : ¬ w2.heap.size = w3.heap.size := by omega
  have n3 : ¬ w1.heap.size = w3.heap.size := by omega
  have a0 := L3.now.1.1.1.1.2.cell 0
  have a1 := L3.now.1.1.1.1.2.cell 1
  have b0 := L3.now.1.1.2.cell 0
  have b1 := L3.now.1.1.2.cell 1
  have c0 := L3.now.2.cell 0
  have c1 := L3.now.2.cell 1
  have hn30 : ns ≤ 1000000 := by
    rw [← Hno.out]
    have h1 := subTake_len xs ⟨cat, at_⟩ many
    rw [Hp.out] at h1
    have h2 : ys.length ≤ xs.length := h1
    rw [Hl.out] at h2
    omega
  have SE := Lib.hid (sameEntries_any Ao As ns co ns cs ys ys _ L3.now.1.1.1.2 L3.now.1.2 (by omega) (by omega))
  rw [sameL_refl] at SE
  clear hrow3 hb3 L2 FI FS
  cases ok with
  | false =>
    go_wp2_with (first
      | (go_at_call 41; refine SE.out.mono ?_; rintro e w4 ⟨rfl, hb4⟩; have L4 := L3.next hb4; have a0 := L4.now.1.1.1.1.2.cell 0; have a1 := L4.now.1.1.1.1.2.cell 1; have b0 := L4.now.1.1.2.cell 0; have b1 := L4.now.1.1.2.cell 1; have c0 := L4.now.2.cell 0; have c1 := L4.now.2.cell 1)
      | (go_at_call 41; refine (sameEntries_any Ao As ns co ns cs ys ys _ L4.now.1.1.1.2 L4.now.1.2 (by omega) (by omega)).mono ?_; rw [sameL_refl]; rintro e w5 ⟨rfl, hb5⟩; have L5 := L4.next hb5))
    go_ret
    exact ⟨rfl, L5.now.1.1.1.1.1.1.1⟩
  | true =>
    obtain ⟨g1, g2, g3, g4, g5, g6⟩ := subTake_ok Hp.out
    obtain rfl : cat' = cat := by injection g6
    obtain ⟨mm, rfl⟩ : ∃ mm : Nat, many = (mm : Int) := ⟨many.toNat, by omega⟩
    rw [Int.toNat_natCast] at g5 g6
    have hmm : mm ≤ 99 := by omega
    obtain ⟨kk, hkk⟩ : ∃ kk, m % (mm + 1) = kk := ⟨_, rfl⟩
    have hkl : kk ≤ mm := by have := Nat.mod_lt m (show 0 < mm + 1 by omega); omega
    have hrem : (m : Int).tmod ((mm : Int) + 1) = (kk : Int) := by
      rw [Int.tmod_eq_emod_of_nonneg (by omega), show ((mm : Int) + 1) = ((mm + 1 : Nat) : Int) by omega, ← Int.natCast_emod, hkk]
    have hw1 : IntKind.i64.wrap ((mm : Int) + 1) = (mm : Int) + 1 := IntWalk.i64_in _ (by omega)
    have hw2 : IntKind.i64.wrap (kk : Int) = (kk : Int) := IntWalk.i64_in _ (by omega)
    have hw3 : IntKind.i64.wrap ((mm : Int) - (kk : Int)) = ((mm - kk : Nat) : Int) := by rw [IntWalk.i64_in _ (by omega)]; omega
    obtain ⟨o1, o2⟩ := subTake_on (xs := xs) (m := mm) g2 hkl
    have t1 := subTake_is (m := kk) g1 g2 (by omega)
    have g2' := subNext_ok (m := kk) g1 g2
    have t2 := subTake_is (m := mm - kk) g1 g2' (by omega)
    rw [← g5] at o1
    rw [← g6] at o2
    rw [o2] at t2
    obtain ⟨ya, hya⟩ : ∃ y, subOut xs ⟨cat', at_⟩ kk = y := ⟨_, rfl⟩
    obtain ⟨at2, hx⟩ : ∃ at2, subNext xs ⟨cat', at_⟩ kk = ⟨cat', at2⟩ := ⟨_, rfl⟩
    obtain ⟨yb, hyb⟩ : ∃ y, subOut xs ⟨cat', at2⟩ (mm - kk) = y := ⟨_, rfl⟩
    rw [hx, hyb, hya] at o1
    rw [hya, hx] at t1
    rw [hx, hyb] at t2
    rw [hx] at g2'
    have hS2 : SbB ⟨cat', at2⟩ := by
      have h2 := (subOk_iff.1 g2').2
      simp only at h2
      exact ⟨HS.out.big.1, by show -1000000 ≤ at2; omega, by show at2 ≤ 1000000; omega⟩
    have V1 := Lib.hid (fun W H G => subTake_any Ax k cx xs cat' at_ (kk : Int) W H (EnB.small HB.out) HS.out.big (by omega) G)
    have V2 := Lib.hid (fun W H G => subTake_any Ax k cx xs cat' at2 ((mm - kk : Nat) : Int) W H (EnB.small HB.out) hS2 (by omega) G)
    rw [t1] at V1
    rw [t2] at V2
    have O1 := Lib.hid o1
    clear g1 g2 g5 g6 o1 o2 t1 t2 hya hx hyb hS2 g2' Hp hkk
    go_wp2_with (first
      | (go_at_call 41; refine SE.out.mono ?_; rintro e w4 ⟨rfl, hb4⟩; have L4 := L3.next hb4; have a0 := L4.now.1.1.1.1.2.cell 0; have a1 := L4.now.1.1.1.1.2.cell 1; have b0 := L4.now.1.1.2.cell 0; have b1 := L4.now.1.1.2.cell 1; have c0 := L4.now.2.cell 0; have c1 := L4.now.2.cell 1))
    clear SE L3
    refine (V1.out _ L4.now.1.1.1.1.1.2 L4.now.1.1.1.1.1.1.2).mono ?_
    rintro e w5 ⟨Aa, na, ca, rfl, hrow5, hnc5, Hn5, hb5⟩
    have hlt3 := (L4.next hb5).now.2.lt
    have L5 := ((((L4.next hb5).and (Live.row hrow5))).next ((Below.refl _ _).alloc (Nat.le_refl _) (.cells #[.string cat', .int .i64 at2] 60))).and (Live.blk (Blk.new w5 60 #[.string cat', .int .i64 at2]))
    have Hna : Hid (ya.length = na) := Lib.hid hrow5.1
    have d0 := L5.now.2.cell 0
    have d1 := L5.now.2.cell 1
    clear hrow5 hb5
    go_wp2_with fail
    refine (V2.out _ L5.now.1.1.1.1.1.1.1.2 L5.now.1.1.1.1.1.1.1.1.2).mono ?_
    rintro e w6 ⟨Ab, nb, cb, rfl, hrow6, hnc6, Hn6, hb6⟩
    have hlt4 := (L5.next hb6).now.2.lt
    have L6 := ((((L5.next hb6).and (Live.row hrow6))).next ((Below.refl _ _).alloc (Nat.le_refl _) (.cells #[.string cat', .int .i64 at'] 60))).and (Live.blk (Blk.new w6 60 #[.string cat', .int .i64 at']))
    have Hnb : Hid (yb.length = nb) := Lib.hid hrow6.1
    have d0 := L6.now.2.cell 0
    have d1 := L6.now.2.cell 1
    have b0 := L6.now.1.1.1.1.1.1.2.cell 0
    have b1 := L6.now.1.1.1.1.1.1.2.cell 1
    clear hrow6 hb6 L4 L5
    have RA := Lib.hid (fun W (hW : Below (w6.alloc (.cells #[.string cat', .int .i64 at'] 60)).heap.size (w6.alloc (.cells #[.string cat', .int .i64 at'] 60)) W) => (L6.next hW).now.1.1.1.2)
    have RB := Lib.hid (fun W (hW : Below (w6.alloc (.cells #[.string cat', .int .i64 at'] 60)).heap.size (w6.alloc (.cells #[.string cat', .int .i64 at'] 60)) W) => (L6.next hW).now.1.2)
    have RO := Lib.hid (fun W (hW : Below (w6.alloc (.cells #[.string cat', .int .i64 at'] 60)).heap.size (w6.alloc (.cells #[.string cat', .int .i64 at'] 60)) W) => (L6.next hW).now.1.1.1.1.1.1.1.2)
    have hz7 : (w6.alloc (.cells #[.string cat', .int .i64 at'] 60)).heap.size = w6.heap.size + 1 := by simp
    have O7 : Hid (((w6.alloc (.cells #[.string cat', .int .i64 at'] 60)).alloc (.cells #[] 35)).ownsRow (w6.heap.size + 1) 35 4 (.slice (some ⟨w6.heap.size + 1, 0, none⟩) 0 0) 0 []) := by
      have := World.ownsRow_lit (base := w6.heap.size + 1) (e := 35) (size := 4) (w6.alloc (.cells #[.string cat', .int .i64 at'] 60)) #[] 0 (by rw [hz7]; exact Nat.le_refl _) (Nat.zero_le _) rfl
      rw [hz7] at this
      exact Lib.hid this
    have B7 := Lib.hid ((Below.refl _ _).alloc (Nat.le_refl (w6.alloc (.cells #[.string cat', .int .i64 at'] 60)).heap.size) (.cells #[] 35))
    have hsum : ns = na + nb := by rw [← Hno.out, O1.out, List.length_append, Hna.out, Hnb.out]
    have hna : na ≤ 1000000 := by omega
    have hnb : nb ≤ 1000000 := by omega
    have HsumL : Hid ((ya ++ yb).length = na + nb) := Lib.hid (by rw [List.length_append, Hna.out, Hnb.out])
    clear hsum
    go_wp2_with (first
      | (at_builtin; (refine app_src_g elemEn _ ?_ (.tmp 115) (.tmp 116) rfl (w6.heap.size + 1) _ 0 [] rfl (by exact O7.out) Aa na ca _ (ya.flatMap enCells) rfl Hn5.out (RA.out _ (by exact B7.out)).2 (ens_one _) ?_ ?_ ?_ ?_); (first | rfl | decide | (simp [Region.wanted])); omega; omega; (first | exact Nat.le_succ _ | simp); intro v8 w8 own8 grow8 or8; have B8 := Lib.hid (own_below' O7.out (by rw [hz7]; exact Nat.le_refl _) B7.out B7.out.size grow8); have O8 := Lib.hid own8)
      | (at_builtin; go_must ((refine app_src_g elemEn w8 ?_ (.tmp 117) (.tmp 118) rfl (w6.heap.size + 1) _ (0 + na) ([] ++ ya.flatMap enCells) rfl (by exact O8.out) Ab nb cb _ (yb.flatMap enCells) rfl Hn6.out (RB.out _ (by exact B8.out)).2 (ens_one _) ?_ ?_ ?_ ?_); (first | rfl | decide | (simp [Region.wanted])); omega; omega; (have := B8.out.size; rw [hz7] at this; exact this); intro v9 w9 own9 grow9 or9; have B9 := Lib.hid (own_below' O8.out (by rw [hz7]; exact Nat.le_refl _) B8.out B8.out.size grow9); have own9' : w9.ownsRow (w6.heap.size + 1) 35 4 v9 (na + nb) ((ya ++ yb).flatMap enCells) := (by rw [List.flatMap_append]; simpa using own9); obtain ⟨A9, c9, rfl, hc9, hn9, hr9, _⟩ := Row.of_own own9' HsumL.out; have SE9 := Lib.hid (sameEntries_any A9 Ao (na + nb) c9 ns co (ya ++ yb) ys w9 hr9 (RO.out _ B9.out) (by omega) (by omega)); rw [← O1.out, sameL_refl] at SE9))
      | (go_at_call 41; go_must (refine SE9.out.mono ?_; rintro e w10 ⟨rfl, hb10⟩)))
    go_ret
    exact ⟨by first | rfl | simp, (L6.next (B9.out.trans (hb10.mono B9.out.size))).now.1.1.1.1.1.1.1.1.1.1.1⟩
end Go.Proofs.YtbcfbkcadceniaaDoor
