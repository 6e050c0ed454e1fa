/- The walk of laws.FnMovesLeave. -/
import Derived.Test.YtecijlebfpbpaaaDrawGM
import Derived.Test.YtecijlebfpbpaaaJoinI
import Derived.Test.YtecijlebfpbpaaaGLeaveS
import Derived.Test.YtecijlebfpbpaaaSame
import Derived.Test.YtecijlebfpbpaaaMoves
namespace Go.Proofs.Ytecijlebfpbpaaa
set_option linter.unusedVariables false
set_option linter.unusedSimpArgs false
open Go.RowKit

theorem GroupRet.f {st : Int} {ms : List ByteArray} {w w' : World} {e : Ending} (h : GroupRet false st ms w e w') :
    ∃ A n c, e = .returned (.tuple #[.agg #[.int .i64 0, .slice A n c], .bool false]) ∧ Strs w' w'.heap.size A n [] ∧ Below w.heap.size w w' := h
theorem GroupRet.t {st : Int} {ms : List ByteArray} {w w' : World} {e : Ending} (h : GroupRet true st ms w e w') :
    ∃ A n c, e = .returned (.tuple #[.agg #[.int .i64 st, .slice A n c], .bool true]) ∧ Strs w' w'.heap.size A n ms ∧ Below w.heap.size w w' := h
theorem same_grp (st : Int) (A B : Option Addr) (n c m d : Nat) (xs : List ByteArray) (w : World) (h : Strs w w.heap.size A n xs) (h' : Strs w w.heap.size B m xs) (hnb : n ≤ 1000000000) (hmb : m ≤ 1000000000) :
    Calls Try.prog 13 #[.agg #[.int .i64 st, .slice A n c], .agg #[.int .i64 st, .slice B m d]] w fun e w' => e = .returned (.bool true) ∧ Below w.heap.size w w' := by
  refine (sameGroup_any st st A B n c m d xs xs w h h' hnb hmb).mono ?_
  rintro e w' ⟨he, hb⟩
  refine ⟨?_, hb⟩
  rw [he, sameT_refl, decide_eq_true rfl]; rfl
theorem Strs.next2 {w w' : World} {A : Option Addr} {n : Nat} {ms : List ByteArray} (h : Strs w w.heap.size A n ms) (o : Obj) (hb : Below (w.alloc o).heap.size (w.alloc o) w') : Strs w' w'.heap.size A n ms := (h.boxed1 o).next hb
theorem Strs.len0 {w : World} {B n : Nat} {A : Option Addr} (h : Strs w B A n []) : n = 0 := by have := h.len; simpa using this.symm

set_option maxRecDepth 100000 in
set_option maxHeartbeats 8000000 in
theorem law_FnMovesLeave (A : Option Addr) (n c : Nat) (w : World) (h : Code w A n c) :
    Calls Try.prog 4 #[.slice A n c] w fun e w' => e = .returned (.bool true) ∧ Below w.heap.size w w' := by
  have hn := h.2.1
  unfold maxLen at hn
  by_cases hbig : (1048576 : Int) < n
  · go_enter Try.func4, Try.ntmps4
    go_wp2_with fail
    go_ret
    exact ⟨rfl, Below.refl _ _⟩
  have HC := Lib.hid h
  clear h
  go_enter Try.func4, Try.ntmps4
  go_wp2_with fail
  refine (drawGroupJoin_any A n c _ HC.out).mono ?_
  rintro e w1 ⟨st, A1, k, c1, ms, m, rfl, hs1, HS, hk, hm, hst1, hst2, hb1⟩
  have hm' : m.size ≤ maxLen := small60 hm
  have HSm := Lib.hid HS.out.all
  have HL := Lib.hid hs1.len
  have H1 := Lib.hid (hs1.boxed1 (.cells #[.int .i64 st, .slice A1 k c1] 26))
  have B1 := Blk.new w1 26 #[.int .i64 st, .slice A1 k c1]
  have HB1 := Lib.hid B1
  have Hw1 := Lib.hid (hb1.alloc hb1.size (.cells #[.int .i64 st, .slice A1 k c1] 26))
  clear hs1 hb1 B1
  go_wp2_with fail
  cases hj : joinOk st ms m with
  | false =>
    refine (groupJoin_any st A1 k c1 ms m _ H1.out HSm.out hm' (by omega)).mono ?_
    rw [hj]
    intro e w2 hret
    obtain ⟨A2, n2, c2, rfl, hs2, hb2⟩ := hret.f
    obtain rfl := hs2.len0
    have HB2 := Lib.hid ((HB1.out.next hb2).alloc (.cells #[.int .i64 0, .slice A2 0 c2] 26))
    have H2 := Lib.hid ((H1.out.step hb2).boxed1 (.cells #[.int .i64 0, .slice A2 0 c2] 26))
    have Hw2 := Lib.hid ((bt Hw1.out hb2).alloc (bt Hw1.out hb2).size (.cells #[.int .i64 0, .slice A2 0 c2] 26))
    have HO2 := Lib.hid (Blk.new w2 26 #[.int .i64 0, .slice A2 0 c2])
    have q0 := HB2.out.cell 0
    have q1 := HB2.out.cell 1
    clear hret hb2 hs2
    go_wp2_with fail
    refine (groupJoinS_any st A1 k c1 ms m _ H2.out HSm.out hm' (by omega)).mono ?_
    rw [hj]
    intro e w3 hret
    obtain ⟨A3, n3, c3, rfl, hs3, hb3⟩ := hret.f
    obtain rfl := hs3.len0
    have Hw3 := Lib.hid ((bt Hw2.out hb3).alloc (bt Hw2.out hb3).size (.cells #[.int .i64 0, .slice A3 0 c3] 26))
    have HO3 := Lib.hid ((HO2.out.next hb3).alloc (.cells #[.int .i64 0, .slice A3 0 c3] 26))
    have o0 := HO3.out.cell 0
    have o1 := HO3.out.cell 1
    have S0 := fun W => same_grp 0 A2 A3 0 c2 0 c3 [] W (Strs.nil _ _ _) (Strs.nil _ _ _) (by omega) (by omega)
    have HS0 := Lib.hid S0
    clear hret hb3 hs3 S0 q0 q1
    go_wp2_with fail
    refine (HS0.out _).mono ?_
    rintro e w4 ⟨rfl, hb4⟩
    have HO4 := Lib.hid (HO3.out.next hb4)
    have HP4 := Lib.hid ((Blk.new w3 26 #[.int .i64 0, .slice A3 0 c3]).next hb4)
    have p0 := HO4.out.cell 0
    have p1 := HO4.out.cell 1
    have r0 := HP4.out.cell 0
    have r1 := HP4.out.cell 1
    have Hw4 := Lib.hid (bt Hw3.out hb4)
    clear o0 o1 hb4
    go_wp2_with fail
    refine (HS0.out _).mono ?_
    rintro e w5 ⟨rfl, hb5⟩
    go_wp2_with fail
    go_ret
    exact ⟨rfl, bt Hw4.out hb5⟩
  | true =>
    obtain ⟨l1, l2, l3⟩ := joinLeave hj
    have hjl : (joinMs ms m).length ≤ 31 := by have := joinMs_len (joinOk_iff.1 hj).2.2.1; have := HL.out; omega
    have HJm : Hid (AllSmall (joinMs ms m)) := Lib.hid fun x hx => by
      rcases joinMs_mem hx with rfl | h
      · exact hm'
      · exact HSm.out x h
    have J1 := Lib.hid (groupJoin_any st A1 k c1 ms m _ H1.out HSm.out hm' (by omega))
    rw [hj] at J1
    refine J1.out.mono ?_
    intro e w2 hret
    obtain ⟨A2, n2, c2, rfl, hs2, hb2⟩ := hret.t
    have hn2 : n2 ≤ 31 := by rw [← hs2.len]; exact hjl
    have HB2 := Lib.hid ((HB1.out.next hb2).alloc (.cells #[.int .i64 st, .slice A2 n2 c2] 26))
    have H2 := Lib.hid ((H1.out.step hb2).boxed1 (.cells #[.int .i64 st, .slice A2 n2 c2] 26))
    have Hw2 := Lib.hid ((bt Hw1.out hb2).alloc (bt Hw1.out hb2).size (.cells #[.int .i64 st, .slice A2 n2 c2] 26))
    have HO2 := Lib.hid (Blk.new w2 26 #[.int .i64 st, .slice A2 n2 c2])
    have HJ2 := Lib.hid (hs2.boxed1 (.cells #[.int .i64 st, .slice A2 n2 c2] 26))
    have q0 := HB2.out.cell 0
    have q1 := HB2.out.cell 1
    clear hret hb2 hs2
    go_wp2_with fail
    have J2 := Lib.hid (groupJoinS_any st A1 k c1 ms m _ H2.out HSm.out hm' (by omega))
    rw [hj] at J2
    refine J2.out.mono ?_
    intro e w3 hret
    obtain ⟨A3, n3, c3, rfl, hs3, hb3⟩ := hret.t
    have hn3 : n3 ≤ 31 := by rw [← hs3.len]; exact hjl
    have Hw3 := Lib.hid ((bt Hw2.out hb3).alloc (bt Hw2.out hb3).size (.cells #[.int .i64 st, .slice A3 n3 c3] 26))
    have HB3 := Lib.hid ((HB2.out.next hb3).alloc (.cells #[.int .i64 st, .slice A3 n3 c3] 26))
    have HO3 := Lib.hid ((HO2.out.next hb3).alloc (.cells #[.int .i64 st, .slice A3 n3 c3] 26))
    have H3 := Lib.hid ((H2.out.step hb3).boxed1 (.cells #[.int .i64 st, .slice A3 n3 c3] 26))
    have HJ3 := Lib.hid ((HJ2.out.step hb3).boxed1 (.cells #[.int .i64 st, .slice A3 n3 c3] 26))
    have HK3 := Lib.hid (hs3.boxed1 (.cells #[.int .i64 st, .slice A3 n3 c3] 26))
    have o0 := HO3.out.cell 0
    have o1 := HO3.out.cell 1
    have HS3 := Lib.hid (same_grp st A2 A3 n2 c2 n3 c3 _ _ HJ3.out HK3.out (by omega) (by omega))
    clear hret hb3 hs3 q0 q1
    go_wp2_with fail
    refine (HS3.out).mono ?_
    rintro e w4 ⟨rfl, hb4⟩
    have HO4 := Lib.hid (HO3.out.next hb4)
    have HB4 := Lib.hid (HB3.out.next hb4)
    have H4 := Lib.hid (H3.out.step hb4)
    have HJ4 := Lib.hid (HJ3.out.step hb4)
    have Hw4 := Lib.hid (bt Hw3.out hb4)
    have p0 := HO4.out.cell 0
    have p1 := HO4.out.cell 1
    have J4 := Lib.hid (groupLeave_any st A2 n2 c2 (joinMs ms m) m _ HJ4.out HJm.out (by omega))
    rw [l1, l2] at J4
    clear o0 o1 hb4
    go_wp2_with fail
    refine J4.out.mono ?_
    intro e w5 hret
    obtain ⟨A5, n5, c5, rfl, hs5, hb5⟩ := hret.t
    have hn5 : n5 ≤ 30 := by have := hs5.len; have := HL.out; omega
    have HX5 := Lib.hid (Blk.new w5 26 #[.int .i64 st, .slice A5 n5 c5])
    have Hw5 := Lib.hid ((bt Hw4.out hb5).alloc (bt Hw4.out hb5).size (.cells #[.int .i64 st, .slice A5 n5 c5] 26))
    have HO5 := Lib.hid ((HO4.out.next hb5).alloc (.cells #[.int .i64 st, .slice A5 n5 c5] 26))
    have HB5 := Lib.hid ((HB4.out.next hb5).alloc (.cells #[.int .i64 st, .slice A5 n5 c5] 26))
    have H5 := Lib.hid ((H4.out.step hb5).boxed1 (.cells #[.int .i64 st, .slice A5 n5 c5] 26))
    have HJ5 := Lib.hid ((HJ4.out.step hb5).boxed1 (.cells #[.int .i64 st, .slice A5 n5 c5] 26))
    have HL5 := Lib.hid (hs5.boxed1 (.cells #[.int .i64 st, .slice A5 n5 c5] 26))
    have s0 := HO5.out.cell 0
    have s1 := HO5.out.cell 1
    have hst := (joinOk_iff.1 hj).1
    have hst' := (joinOk_iff.1 hj).2.2.2
    obtain ⟨s', rfl⟩ : ∃ s' : Nat, st = (s' : Int) := ⟨st.toNat, by have := (groupOk_st' hst).1; omega⟩
    have M1 := Lib.hid fun (W : World) (hW : Below (w5.alloc (.cells #[.int .i64 s', .slice A5 n5 c5] 26)).heap.size (w5.alloc (.cells #[.int .i64 s', .slice A5 n5 c5] 26)) W) =>
      groupMoves_any s' A1 A5 k c1 n5 c5 ms ms W (H5.out.next hW) HSm.out (by omega) (HL5.out.next hW) HSm.out (by omega) hst hst
    rw [movesL_same] at M1
    have M2 := Lib.hid fun (W : World) (hW : Below (w5.alloc (.cells #[.int .i64 s', .slice A5 n5 c5] 26)).heap.size (w5.alloc (.cells #[.int .i64 s', .slice A5 n5 c5] 26)) W) =>
      groupMoves_any s' A1 A2 k c1 n2 c2 ms (joinMs ms m) W (H5.out.next hW) HSm.out (by omega) (HJ5.out.next hW) HJm.out (by omega) hst hst'
    have hle : ((movesL ms (joinMs ms m) s').length : Int) ≤ (s' : Int) := by have := movesL_len ms (joinMs ms m) s'; omega
    obtain ⟨q, hq⟩ : ∃ q : Nat, (movesL ms (joinMs ms m) s').length = q := ⟨_, rfl⟩
    rw [hq] at M2 hle
    have t0 := HB5.out.cell 0
    have t1 := HB5.out.cell 1
    have x0 := HX5.out.cell 0
    have x1 := HX5.out.cell 1
    clear hret hb5 hs5 p0 p1 hst hst' hq
    go_wp2_with fail
    go_region_held3 (fun w' => w'.cell? ⟨w1.heap.size, 0, none⟩ = some (.int .i64 s') ∧ w'.cell? ⟨w1.heap.size, 1, none⟩ = some (.slice A1 k c1) ∧ w'.cell? ⟨w2.heap.size, 0, none⟩ = some (.int .i64 s') ∧ w'.cell? ⟨w2.heap.size, 1, none⟩ = some (.slice A2 n2 c2) ∧ w'.cell? ⟨w5.heap.size, 0, none⟩ = some (.int .i64 s') ∧ w'.cell? ⟨w5.heap.size, 1, none⟩ = some (.slice A5 n5 c5)) (first | exact ⟨t0, t1, s0, s1, x0, x1⟩ | exact ⟨T0, T1, S0, S1, X0, X1⟩ | exact ⟨Y0, Y1, Y2, Y3, Y4, Y5⟩) (first
      | (go_at_call 15; ((with_reducible refine (M1.out _ (Below.refl _ _).drew).mono ?_); rintro e w6 ⟨rfl, hb6⟩; have hb6' := below_undrew hb6; have T0 := (HB5.out.next hb6').cell 0; have T1 := (HB5.out.next hb6').cell 1; have S0 := (HO5.out.next hb6').cell 0; have S1 := (HO5.out.next hb6').cell 1; have X0 := (HX5.out.next hb6').cell 0; have X1 := (HX5.out.next hb6').cell 1))
      | (go_at_call 15; ((with_reducible refine (M2.out _ hb6').mono ?_); rintro e w7 ⟨rfl, hb7⟩; have hb7' := bt hb6' hb7; have Y0 := (HB5.out.next hb7').cell 0; have Y1 := (HB5.out.next hb7').cell 1; have Y2 := (HO5.out.next hb7').cell 0; have Y3 := (HO5.out.next hb7').cell 1; have Y4 := (HX5.out.next hb7').cell 0; have Y5 := (HX5.out.next hb7').cell 1)))
    all_goals
      go_wp2_with fail
      go_ret
      exact ⟨rfl, bt Hw5.out hb7'⟩
end Go.Proofs.Ytecijlebfpbpaaa
