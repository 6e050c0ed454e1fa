/- The walk of laws.FnFoldStreamAll. -/
import Derived.Test.YtbcfbkcadceniaaDoorFoldSS
import Derived.Test.YtbcfbkcadceniaaDoorDrawFo
namespace Go.Proofs.YtbcfbkcadceniaaDoor
set_option linter.unusedVariables false
set_option linter.unusedSimpArgs false
open Go.RowKit

theorem foldMore_first {xs : List En} {s : ByteArray} (h1 : storeOk xs = true) (j : Nat) : foldMore foldNone ((streamOf xs s).take j) = (foldOn foldNone ((streamOf xs s).take j), true) := by
  obtain ⟨e1, e2, e3⟩ := evsOk_iff.1 ((storeOk_streams.1 h1).2.2 s)
  have he : evsOk ((streamOf xs s).take j) = true := evsOk_iff.2 ⟨Nat.le_trans (List.length_take_le' _ _) e1, fun e he => e2 e (List.mem_of_mem_take he), e3.sublist (List.take_sublist _ _)⟩
  exact foldMore_yes (by rw [foldOk_none, he, foldOk_of (fun e h => e2 e (List.mem_of_mem_take h)) (Nat.le_trans (List.length_take_le' _ _) e1)]; rfl)
theorem foldMore_all {xs : List En} {s : ByteArray} (h1 : storeOk xs = true) : foldMore foldNone (streamOf xs s) = (foldOn foldNone (streamOf xs s), true) := by
  have := foldMore_first (s := s) h1 (streamOf xs s).length
  rwa [List.take_length] at this
set_option maxRecDepth 100000 in
set_option maxHeartbeats 8000000 in
theorem law_FnFoldStreamAll (A : Option Addr) (n c : Nat) (A' : Option Addr) (n' c' : Nat) (w : World) (h : Code w A n c) (h' : Code w A' n' c') (hg : GE w) :
    Calls Tryd.prog 8 #[.slice A n c, .slice A' n' c'] w fun e w' => e = .returned (.bool true) ∧ Below w.heap.size w w' := by
  have hn := h.2.1
  have hn' := h'.2.1
  unfold maxLen at hn hn'
  by_cases hbig : (1048576 : Int) < n
  · go_enter Tryd.func8, Tryd.ntmps8
    go_wp2_with fail
    go_ret
    exact ⟨rfl, Below.refl _ _⟩
  by_cases hbig' : (1048576 : Int) < n'
  · go_enter Tryd.func8, Tryd.ntmps8
    go_wp2_with fail
    go_ret
    exact ⟨rfl, Below.refl _ _⟩
  have hd : decide ((1048576 : Int) < n) = false := decide_eq_false hbig
  have hd' : decide ((1048576 : Int) < n') = false := decide_eq_false hbig'
  have HC := Lib.hid h
  have L0 := (Live.since (Below.refl w.heap.size w)).and (Live.ge hg)
  clear h h' hg
  go_enter Tryd.func8, Tryd.ntmps8
  go_wp2_with fail
  refine (drawFoldStream_any A n c _ HC.out).mono ?_
  rintro e w1 ⟨Ax, k, cx, xs, s, ver, sum, last, rfl, hrow, HB, hk, hkc, Hnil, hs, HF, hb1⟩
  have hs' : s.size ≤ maxLen := small60 hs
  have L1 := (((L0.next hb1).and (Live.row hrow)).next ((Below.refl _ _).alloc (Nat.le_refl _) (.cells #[.int .i64 ver, .int .i64 sum, .string last] 50))).and (Live.blk (Blk.new w1 50 #[.int .i64 ver, .int .i64 sum, .string last]))
  have a0 := L1.now.2.cell 0
  have a1 := L1.now.2.cell 1
  have a2 := L1.now.2.cell 2
  have FI := Lib.hid (fun W H G => foldStream_any Ax k cx xs s ver sum last W H HB.out hs' HF.out (by omega) G)
  have FS := Lib.hid (fun W H => foldStreamS_any Ax k cx xs s ver sum last W H HB.out hs' HF.out (by omega))
  have hver := @foldStream_ver xs s ⟨ver, sum, last⟩
  have his := @foldStream_is xs s ⟨ver, sum, last⟩
  obtain ⟨⟨⟨v', s', l'⟩, cnt, ok⟩, hp⟩ : ∃ p, foldStream xs s ⟨ver, sum, last⟩ = p := ⟨_, rfl⟩
  rw [hp] at FI FS hver his
  simp only at hver his
  have hl : (l'.toList == l'.toList) = true := beq_self_eq_true _
  clear hrow hb1 L0 hp
  have FI2 : Hid (∀ W, Row enCells 4 W W.heap.size Ax k xs → GE W → Calls Tryd.prog 30 #[.slice Ax k cx, .string s, .agg #[.int .i64 ver, .int .i64 sum, .string last]] W fun e w' => e = .returned (.tuple #[.agg #[.int .i64 v', .int .i64 s', .string l'], .int .i64 cnt, .bool ok]) ∧ Below W.heap.size W w') := Lib.hid (fun W H G => FI.out W H G)
  have FS2 : Hid (∀ W, Row enCells 4 W W.heap.size Ax k xs → Calls Tryd.prog 31 #[.slice Ax k cx, .string s, .agg #[.int .i64 ver, .int .i64 sum, .string last]] W fun e w' => e = .returned (.tuple #[.agg #[.int .i64 v', .int .i64 s', .string l'], .int .i64 cnt, .bool ok]) ∧ Below W.heap.size W w') := Lib.hid (fun W H => FS.out W H)
  clear FI FS
  go_wp2_with fail
  refine (FI2.out _ L1.now.1.2 L1.now.1.1.2).mono ?_
  rintro e w2 ⟨rfl, hb2⟩
  have L1' := L1.next hb2
  have hlt1 := L1'.now.2.lt
  have L2 := (L1'.next ((Below.refl _ _).alloc (Nat.le_refl _) (.cells #[.int .i64 v', .int .i64 s', .string l'] 50))).and (Live.blk (Blk.new w2 50 #[.int .i64 v', .int .i64 s', .string l']))
  have a0 := L1'.now.2.cell 0
  have a1 := L1'.now.2.cell 1
  have a2 := L1'.now.2.cell 2
  have n1 : ¬ w1.heap.size = w2.heap.size := by omega
  clear L1 hb2
  go_wp2_with fail
  refine (FS2.out _ L2.now.1.1.2).mono ?_
  rintro e w3 ⟨rfl, hb3⟩
  have L3 := L2.next hb3
  have hlt2 := L3.now.2.lt
  have n2 : ¬ w2.heap.size = w3.heap.size := by omega
  have n3 : ¬ w1.heap.size = w3.heap.size := by omega
  clear a0 a1 a2 L2 L1' hb3 FI2 FS2
  have m0 := L3.now.2.cell 0
  have m1 := L3.now.2.cell 1
  have m2 := L3.now.2.cell 2
  cases ok with
  | false =>
    clear hver his
    go_wp2_with fail
    go_ret
    exact ⟨rfl, L3.now.1.1.1.1.alloc L3.now.1.1.1.1.size _⟩
  | true =>
    obtain ⟨i1, i2, i3, i4, -⟩ := his rfl
    have hsl := stream_24 (s := s) i1
    have LB := L3.next ((Below.refl _ _).alloc (Nat.le_refl _) (.cells #[.int .i64 v', .int .i64 s', .string l'] 50))
    have LR := LB.imp (fun W q => q.1.1)
    have hrd := storeRead_drop (s := s) (v := -1) i1 i2 (by omega)
    rw [show (-1 : Int) + 1 = 0 from rfl] at hrd
    rw [show (0 : Int).toNat = 0 from rfl, List.drop_zero] at hrd
    have SR := Lib.hid (fun W H G => storeRead_any Ax k cx xs s 0 99 W H (EnB.small HB.out) hs' (by omega) G)
    rw [hrd] at SR
    have hE := stream_B (s := s) HB.out
    clear hver his LB L3 hrd i3 i4
    go_wp2_with fail
    refine (SR.out _ LR.now.2 LR.now.1.2).mono ?_
    rintro e w4 ⟨A5, n5, c5, rfl, hr5, hc5, Hn5, hb4⟩
    have L4 := (LR.next hb4).and (Live.row hr5)
    have hl5 := hr5.1
    have hn5 : n5 ≤ 24 := by omega
    obtain ⟨j, hj⟩ : ∃ j : Nat, (n' : Int) % ((n5 : Int) + 1) = (j : Int) := ⟨n' % (n5 + 1), by simp⟩
    have hjk : (j : Int) < (n5 : Int) + 1 := by rw [← hj]; exact Int.emod_lt_of_pos _ (by omega)
    have hj1 : j ≤ n5 := by omega
    have hj2 : (j : Int) ≤ (c5 : Int) := by omega
    have hj3 : (j : Int) ≤ (n5 : Int) := by omega
    have hj4 : (0 : Int) ≤ (j : Int) := by omega
    have hif : (if c5 = 0 then A5 else Option.map (fun x => x.add 0) A5) = A5 := by
      split
      · rfl
      · cases A5 <;> simp [Addr.add]
    obtain ⟨hk1, hf1⟩ := foldStream_first i1 i2 j (by omega)
    have hm1 := foldMore_first (s := s) i1 j
    have hm2 := foldMore_all (s := s) i1
    have hfd := fds_first hE j (by omega)
    rw [show (⟨-1, 0, ⟨#[]⟩⟩ : Fd) = foldNone from rfl] at hfd
    have F1 := Lib.hid (fun W H => foldOf_any A5 j c5 ((streamOf xs s).take j) W H (fun e he => hE e (List.mem_of_mem_take he)) (by omega) (by omega))
    have F2 := Lib.hid (fun W H => foldOf_any A5 n5 c5 (streamOf xs s) W H hE (by omega) hc5)
    rw [hm1] at F1
    rw [hm2] at F2
    obtain ⟨⟨v1, s1, l1⟩, hF1⟩ : ∃ F, foldOn foldNone ((streamOf xs s).take j) = F := ⟨_, rfl⟩
    obtain ⟨⟨v2, s2, l2⟩, hF2⟩ : ∃ F, foldOn foldNone (streamOf xs s) = F := ⟨_, rfl⟩
    rw [hF1] at F1 hfd hf1
    rw [hF2] at F2 hf1
    have F3 := Lib.hid (fun W H G => foldStream_any Ax k cx xs s v1 s1 l1 W H HB.out hs' hfd (by omega) G)
    rw [hf1] at F3
    have hl2 : (l2.toList == l2.toList) = true := beq_self_eq_true _
    clear hr5 hb4 LR SR hm1 hm2 hF1 hF2 hf1 hk1 hfd hE hl5 i1 i2 hsl
    go_wp2_with fail
    have F1' : Hid (∀ W, Row evCells 3 W W.heap.size A5 j ((streamOf xs s).take j) → Calls Tryd.prog 34 #[.slice A5 j c5] W fun e w' => e = .returned (.tuple #[.agg #[.int .i64 v1, .int .i64 s1, .string l1], .bool true]) ∧ Below W.heap.size W w') := Lib.hid (fun W H => F1.out W H)
    have F2' : Hid (∀ W, Row evCells 3 W W.heap.size A5 n5 (streamOf xs s) → Calls Tryd.prog 34 #[.slice A5 n5 c5] W fun e w' => e = .returned (.tuple #[.agg #[.int .i64 v2, .int .i64 s2, .string l2], .bool true]) ∧ Below W.heap.size W w') := Lib.hid (fun W H => F2.out W H)
    obtain ⟨cn, hcn⟩ : ∃ cn : Int, ((streamOf xs s).length : Int) - (j : Int) = cn := ⟨_, rfl⟩
    rw [hcn] at F3
    have F3' : Hid (∀ W, Row enCells 4 W W.heap.size Ax k xs → GE W → Calls Tryd.prog 30 #[.slice Ax k cx, .string s, .agg #[.int .i64 v1, .int .i64 s1, .string l1]] W fun e w' => e = .returned (.tuple #[.agg #[.int .i64 v2, .int .i64 s2, .string l2], .int .i64 cn, .bool true]) ∧ Below W.heap.size W w') := Lib.hid (fun W H G => F3.out W H G)
    clear F1 F2 F3 hcn hif m0 m1 m2
    refine (F1'.out _ (take_row L4.now.2 hc5 hj1)).mono ?_
    rintro e w5 ⟨rfl, hb5⟩
    have L5 := ((L4.next hb5).next ((Below.refl _ _).alloc (Nat.le_refl _) (.cells #[.int .i64 v1, .int .i64 s1, .string l1] 50))).and (Live.blk (Blk.new w5 50 #[.int .i64 v1, .int .i64 s1, .string l1]))
    clear hb5 L4
    go_wp2_with fail
    refine (F3'.out _ L5.now.1.1.2 L5.now.1.1.1.2).mono ?_
    rintro e w6 ⟨rfl, hb6⟩
    have L6 := (((L5.next hb6).next ((Below.refl _ _).alloc (Nat.le_refl _) (.cells #[.int .i64 v2, .int .i64 s2, .string l2] 50))).and (Live.blk (Blk.new w6 50 #[.int .i64 v2, .int .i64 s2, .string l2])))
    clear hb6 L5
    go_wp2_with fail
    refine (F2'.out _ L6.now.1.1.2).mono ?_
    rintro e w7 ⟨rfl, hb7⟩
    have L7 := L6.next hb7
    have hlt7 := L7.now.2.lt
    have n7 : ¬ w6.heap.size = w7.heap.size := by omega
    have t0 := L7.now.2.cell 0
    have t1 := L7.now.2.cell 1
    have t2 := L7.now.2.cell 2
    clear L6 hb7 n1 n2 n3
    go_wp2_with fail
    go_ret
    exact ⟨rfl, L7.now.1.1.1.1.1.alloc L7.now.1.1.1.1.1.size _⟩
end Go.Proofs.YtbcfbkcadceniaaDoor
