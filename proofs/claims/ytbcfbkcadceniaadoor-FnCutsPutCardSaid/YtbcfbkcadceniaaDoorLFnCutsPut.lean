/- The walk of laws.FnCutsPut. -/
import Derived.Test.YtbcfbkcadceniaaDoorSameCu
namespace Go.Proofs.YtbcfbkcadceniaaDoor
set_option linter.unusedVariables false
set_option linter.unusedSimpArgs false
open Go.RowKit

set_option maxRecDepth 100000 in
set_option maxHeartbeats 8000000 in
theorem law_FnCutsPut (A : Option Addr) (n c : Nat) (w : World) (h : Code w A n c) (hg : GE w) :
    Calls Tryd.prog 5 #[.slice A n c] w fun e w' => e = .returned (.bool true) ∧ Below w.heap.size w w' := by
  have hn := h.2.1
  unfold maxLen at hn
  by_cases hbig : (1048576 : Int) < n
  · go_enter Tryd.func5, Tryd.ntmps5
    go_wp2_with fail
    go_ret
    exact ⟨rfl, Below.refl _ _⟩
  have HC := Lib.hid h
  have L0 := (Live.since (Below.refl w.heap.size w)).and (Live.ge hg)
  clear h hg
  go_enter Tryd.func5, Tryd.ntmps5
  go_wp2_with fail
  refine (drawCutsPut_any A n c _ HC.out).mono ?_
  rintro e w1 ⟨Bx, m, d, cs, s, at_, rfl, hrow, HS, hm, hmd, Hnil, hs, hb1⟩
  have hs' : s.size ≤ maxLen := small60 hs
  have L1 := (((L0.next hb1).and (Live.row hrow)).next ((Below.refl _ _).alloc (Nat.le_refl _) (.cells #[.string s, .int .i64 at_] 42))).and (Live.blk (Blk.new w1 42 #[.string s, .int .i64 at_]))
  have a0 := L1.now.2.cell 0
  have a1 := L1.now.2.cell 1
  have Hl := Lib.hid hrow.1
  have FI := Lib.hid (fun W H G => cutsPut_any Bx m d cs s at_ W H HS.out hs' Hnil.out (by omega) G)
  have FS := Lib.hid (fun W H => cutsPutS_any Bx m d cs s at_ W H HS.out hs' (by omega))
  clear hrow hb1 L0
  obtain ⟨⟨ps, ok⟩, hp⟩ : ∃ p, cutsPut cs ⟨s, at_⟩ = p := ⟨_, rfl⟩
  rw [hp] at FI FS
  have Hp := Lib.hid hp
  clear hp
  go_wp2_with fail
  refine (FI.out _ L1.now.1.2 L1.now.1.1.2).mono ?_
  rintro e w2 ⟨Ao, no, co, rfl, hrow2, hnc2, Hn2, hb2⟩
  have L2 := (L1.next hb2).and (Live.row hrow2)
  have a0 := L2.now.1.2.cell 0
  have a1 := L2.now.1.2.cell 1
  have Hno : Hid (ps.length = no) := Lib.hid hrow2.1
  clear hrow2 hb2 L1
  go_wp2_with fail
  refine (FS.out _ L2.now.1.1.2).mono ?_
  rintro e w3 ⟨As, ns, cx, rfl, hrow3, hnc3, Hn3, hb3⟩
  obtain rfl : ns = no := hrow3.1.symm.trans Hno.out
  have L3 := (L2.next hb3).and (Live.row hrow3)
  have a0 := L3.now.1.1.2.cell 0
  have a1 := L3.now.1.1.2.cell 1
  have hn30 : ns ≤ 20 := by
    rw [← Hno.out]
    have h1 := cutsPut_len cs ⟨s, at_⟩
    rw [Hp.out, Hl.out] at h1
    exact Nat.le_trans h1 (by omega)
  have SE := Lib.hid (sameCuts_self Ao As ns co cx ps _ L3.now.1.2 L3.now.2 (by omega))
  clear hrow3 hb3 L2 FI FS
  cases ok with
  | false =>
    go_wp2_with (first
      | (go_at_call 28; (with_reducible refine SE.out.mono ?_); (rintro e w4 ⟨rfl, hb4⟩; have L4 := L3.next hb4; have SE2 := Lib.hid (sameCuts_self Ao As ns co cx ps _ L4.now.1.2 L4.now.2 (by omega))))
      | (go_at_call 28; (with_reducible refine SE2.out.mono ?_); (rintro e w5 ⟨rfl, hb5⟩; have L5 := L4.next hb5)))
    go_ret
    exact ⟨rfl, L5.now.1.1.1.1.1⟩
  | true =>
    obtain ⟨g1, g2, g3, g4⟩ := cutsPut_is Hp.out
    go_wp2_with (go_at_call 28; refine SE.out.mono ?_; rintro e w4 ⟨rfl, hb4⟩)
    have L4 : Live w4 fun W => (((Below w.heap.size w W ∧ GE W) ∧ Row cutCells 2 W W.heap.size Bx m cs) ∧ Blk W w1.heap.size 42 #[.string s, .int .i64 at_]) ∧ Row cutCells 2 W W.heap.size Ao ns ps := (L3.next hb4).imp fun W q => q.1
    clear SE a0 a1 L3 hb4 Hp
    go_loopw [9, 10] (fun q i wr => ∃ k : Nat, k ≤ m ∧ i = .int .i64 (k : Int) ∧ q = .int .i64 (cutLast cs s k) ∧ Live wr fun W => (((Below w.heap.size w W ∧ GE W) ∧ Row cutCells 2 W W.heap.size Bx m cs) ∧ Blk W w1.heap.size 42 #[.string s, .int .i64 at_]) ∧ Row cutCells 2 W W.heap.size Ao ns ps) (fun _ i _ => m - (intOf i).toNat)
    case atStart => exact ⟨0, Nat.zero_le _, rfl, rfl, L4⟩
    case round =>
      obtain ⟨k, hk, rfl, rfl, L⟩ := hrel
      by_cases hlt : k < m
      · have hlt' : (k : Int) < (m : Int) := by omega
        obtain ⟨b, off, rfl, hb, -⟩ := L.now.1.1.2.cut_at (by omega)
        have c0 := fun (x : On wr) => ((L.next x.below).now.1.1.2.cut_at2 k hlt).1
        have s0 := fun (x : On wr) => (show x.W.cell? ⟨w1.heap.size, 0, none⟩ = some (.string s) from (L.next x.below).now.1.2.cell 0)
        by_cases hn1 : (nx cs k).name = s
        · have e1 : ((nx cs k).name.toList == s.toList) = true := by rw [hn1]; exact beq_self_eq_true _
          have Hlast := Lib.hid (cutLast_yes (l := cs) (s := s) (k := k) hn1)
          clear hn1
          go_wp2_with fail
          refine wp_region_on (by kernel_rfl) (by kernel_rfl) ?_
          repeat (go_big_quiet_step (fail))
          refine wpQuiet_nil ?_
          intro w5 hw'
          obtain ⟨⟨w5b, hb5⟩, hw''⟩ := hw'
          obtain rfl : w5 = w5b := hw''
          have L5 := L.next hb5
          have c1 := (L5.now.1.1.2.cut_at2 k hlt).2
          go_wp2_with fail
          go_roundw
          case rel => exact ⟨k + 1, by omega, by go_num, by rw [Hlast.out], L5⟩
          case measure => simp [intOf]; omega
        · have e1 : ((nx cs k).name.toList == s.toList) = false := toList_ne hn1
          have Hlast := Lib.hid (cutLast_no (l := cs) (s := s) (k := k) hn1)
          clear hn1
          go_wp2_with fail
          refine wp_region_on (by kernel_rfl) (by kernel_rfl) ?_
          repeat (go_big_quiet_step (fail))
          refine wpQuiet_nil ?_
          intro w5 hw'
          obtain ⟨⟨w5b, hb5⟩, hw''⟩ := hw'
          obtain rfl : w5 = w5b := hw''
          have L5 := L.next hb5
          go_wp2_with fail
          go_roundw
          case rel => exact ⟨k + 1, by omega, by go_num, by rw [Hlast.out], L5⟩
          case measure => simp [intOf]; omega
      · obtain rfl : k = m := by omega
        have hlt' : ¬ (k : Int) < (k : Int) := by omega
        have hla := cutLast_is g1 s
        rw [Hl.out] at hla
        rw [hla]
        clear hla
        have G3 := Lib.hid g3
        have G4 := Lib.hid g4
        clear g1 g2 g3 g4
        go_wp2_with fail
        go_loopw [11] (fun i wr => ∃ j : Nat, j ≤ ns ∧ i = .int .i64 (j : Int) ∧ Hid (∀ q, q < j → (nx ps q).name ≠ s) ∧ Live wr fun W => (((Below w.heap.size w W ∧ GE W) ∧ Row cutCells 2 W W.heap.size Bx k cs) ∧ Blk W w1.heap.size 42 #[.string s, .int .i64 at_]) ∧ Row cutCells 2 W W.heap.size Ao ns ps) (fun i _ => ns - (intOf i).toNat)
        case atStart => exact ⟨0, Nat.zero_le _, rfl, Lib.hid (fun q hq => absurd hq (by omega)), L⟩
        case round =>
          obtain ⟨j, hj, rfl, Hall, L6⟩ := hrel
          by_cases hlt2 : j < ns
          · have hlt2' : (j : Int) < (ns : Int) := by omega
            obtain ⟨b, off, rfl, hb, -⟩ := L6.now.2.cut_at (by omega)
            have c0 := fun (x : On wr) => ((L6.next x.below).now.2.cut_at2 j hlt2).1
            have s0 := fun (x : On wr) => (show x.W.cell? ⟨w1.heap.size, 0, none⟩ = some (.string s) from (L6.next x.below).now.1.2.cell 0)
            by_cases hn1 : (nx ps j).name = s
            · have e1 : ((nx ps j).name.toList == s.toList) = true := by rw [hn1]; exact beq_self_eq_true _
              have hat : (nx ps j).at_ = max (cutFrom cs s) at_ := by
                have := put_at_is (l := cs) (c := ⟨s, at_⟩) (k := j) G3.out (by rw [← G4.out, Hno.out]; exact hlt2) (by rw [← G4.out]; exact hn1)
                rw [← G4.out] at this
                rw [this, Int.max_comm]
              have e2 : ((nx ps j).at_ == max (cutFrom cs s) at_) = true := by rw [hat]; exact beq_self_eq_true _
              have hok := G3.out
              rw [← G4.out] at hok
              have Hok := Lib.hid hok
              have Hsm := Lib.hid (small_putCs (l := cs) (name := s) (at_ := at_) HS.out hs')
              rw [← G4.out] at Hsm
              clear hn1 hat hok
              go_wp2_with fail
              refine wp_region_on (by kernel_rfl) (by kernel_rfl) ?_
              repeat (go_big_quiet_step (fail))
              refine wpQuiet_nil ?_
              intro w7 hw'
              obtain ⟨⟨w7b, hb7⟩, hw''⟩ := hw'
              obtain rfl : w7 = w7b := hw''
              have L7 := L6.next hb7
              have CV := Lib.hid (fun x : On w7 => cutsValid_any _ ns co ps x.W (L7.next x.below).now.2 Hsm.out (by omega) (L7.next x.below).now.1.1.1.2)
              rw [Hok.out] at CV
              have d1 := fun (x : On w7) => ((L7.next x.below).now.2.cut_at2 j hlt2).2
              have s1 := fun (x : On w7) => (show x.W.cell? ⟨w1.heap.size, 1, none⟩ = some (.int .i64 at_) from (L7.next x.below).now.1.2.cell 1)
              clear c0 s0
              go_wp2_with fail
              refine wp_region_on (by kernel_rfl) (by kernel_rfl) ?_
              repeat (go_big_quiet_step ((go_at_call 24; exact On.calls (CV.out _))))
              refine wpQuiet_nil ?_
              intro w8 hw'
              obtain ⟨⟨w8b, hb8⟩, hw''⟩ := hw'
              obtain rfl : w8 = w8b := hw''
              have L8 := L7.next hb8
              go_wp2_with fail
              go_ret
              exact ⟨rfl, L8.now.1.1.1.1⟩
            · have e1 : ((nx ps j).name.toList == s.toList) = false := toList_ne hn1
              have Hn1 := Lib.hid hn1
              clear hn1
              go_wp2_with fail
              refine wp_region_on (by kernel_rfl) (by kernel_rfl) ?_
              repeat (go_big_quiet_step (fail))
              refine wpQuiet_nil ?_
              intro w7 hw'
              obtain ⟨⟨w7b, hb7⟩, hw''⟩ := hw'
              obtain rfl : w7 = w7b := hw''
              have L7 := L6.next hb7
              go_wp2_with fail
              go_roundw
              case rel => exact ⟨j + 1, by omega, by go_num, Lib.hid (fun q hq => by
                rcases Nat.lt_succ_iff_lt_or_eq.1 hq with h' | rfl
                · exact Hall.out q h'
                · exact Hn1.out), L7⟩
              case measure => simp [intOf]; omega
          · exact (put_there G3.out (fun q hq => by rw [← G4.out] at hq ⊢; exact Hall.out q (by rw [Hno.out] at hq; omega))).elim
end Go.Proofs.YtbcfbkcadceniaaDoor
