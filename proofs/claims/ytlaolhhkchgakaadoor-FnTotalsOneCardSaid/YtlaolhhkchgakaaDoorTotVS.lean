/- Valid totals: the reference's. -/
import Derived.Test.YtlaolhhkchgakaaDoorTotV
import Derived.Test.YtlaolhhkchgakaaDoorStAll
namespace Go.Proofs.YtlaolhhkchgakaaDoor
set_option linter.unusedVariables false
set_option linter.unusedSimpArgs false
open Go.RowKit

set_option maxRecDepth 100000 in
set_option maxHeartbeats 8000000 in
theorem totsValidS_any (A : Option Addr) (n c : Nat) (cs : List Tot) (w : World) (h : Row totCells 3 w w.heap.size A n cs) (hsm : SmallTots cs) (hnb : n ≤ 1000000) :
    Calls Tryd.prog 50 #[.slice A n c] w fun e w' => e = .returned (.bool (totsOk cs)) ∧ Below w.heap.size w w' := by
  have Hlen := Lib.hid h.1
  have L0 := (Live.since (Below.refl w.heap.size w)).and (Live.row h)
  have Hsm := Lib.hid hsm
  clear h hsm
  go_enter Tryd.func50, Tryd.ntmps50
  go_wp2_with fail
  go_loopw [3] (fun i wr => ∃ k : Nat, k ≤ n ∧ i = .int .i64 k ∧ (Live wr fun W => Below w.heap.size w W ∧ Row totCells 3 W W.heap.size A n cs) ∧ Hid (∀ j, j < k → totAt cs j = true)) (fun i _ => n - (intOf i).toNat)
  case atStart => exact ⟨0, Nat.zero_le _, rfl, L0, Lib.hid fun j hj => absurd hj (by omega)⟩
  case round =>
    obtain ⟨k, hk, rfl, L, Hall⟩ := hrel
    by_cases hlt : k < n
    · have hlt' : (k : Int) < (n : Int) := by omega
      obtain ⟨b, off, rfl, hb, hx⟩ := L.now.2.tot_at (by omega)
      obtain ⟨c0, c1, c2⟩ := hx k hlt
      have hs := Hsm.out (nx cs k) (nx_mem (by rw [Hlen.out]; exact hlt))
      obtain ⟨⟨name, many, sum⟩, he⟩ : ∃ e, nx cs k = e := ⟨_, rfl⟩
      rw [he] at c0 c1 c2 hs
      have He := Lib.hid he
      have hd : ((k : Int) > 0) = (0 < k) := by simp
      have LB := (L.next ((Below.refl _ _).alloc (Nat.le_refl _) (.cells #[.string name, .int .i64 many, .int .i64 sum] 29))).and (Live.blk (Blk.new wr 29 #[.string name, .int .i64 many, .int .i64 sum]))
      have WV := Lib.hid (fun (x : On (wr.alloc (.cells #[.string name, .int .i64 many, .int .i64 sum] 29))) => l1Word_any name x.W hs)
      have li := fun (x : On (wr.alloc (.cells #[.string name, .int .i64 many, .int .i64 sum] 29))) => l6In_at many 1 99 x.W
      have ls := fun (x : On (wr.alloc (.cells #[.string name, .int .i64 many, .int .i64 sum] 29))) => l6In_at sum 0 (999 * many) x.W
      have b0 := fun (x : On (wr.alloc (.cells #[.string name, .int .i64 many, .int .i64 sum] 29))) => (show x.W.cell? ⟨wr.heap.size, 0, none⟩ = some (.string name) from (LB.next x.below).now.2.cell 0)
      have b1 := fun (x : On (wr.alloc (.cells #[.string name, .int .i64 many, .int .i64 sum] 29))) => (show x.W.cell? ⟨wr.heap.size, 1, none⟩ = some (.int .i64 many) from (LB.next x.below).now.2.cell 1)
      have b2 := fun (x : On (wr.alloc (.cells #[.string name, .int .i64 many, .int .i64 sum] 29))) => (show x.W.cell? ⟨wr.heap.size, 2, none⟩ = some (.int .i64 sum) from (LB.next x.below).now.2.cell 2)
      clear hx he hd
      cases hok : totOne ⟨name, many, sum⟩ with
      | false =>
        have Hr := Lib.hid (totsOk_at (l := cs) k (by rw [Hlen.out]; exact hlt) (totAt_one (by rw [He.out]; exact hok)))
        cases hwo : wordOk name.data.toList with
        | false =>
          rw [hwo] at WV
          have LI := Lib.hid li
          have LS := Lib.hid ls
          clear li ls hok
          go_wp2_with fail
          refine wp_region_on (by kernel_rfl) (by kernel_rfl) ?_
          repeat (go_big_quiet_step ((first | (go_at_call 71; with_reducible exact On.same (WV.out _)) | (go_at_call 70; first | with_reducible exact On.same (LI.out _) | with_reducible exact On.same (LS.out _)))))
          refine wpQuiet_nil ?_
          intro _ hw'
          obtain ⟨⟨w2, hb2⟩, hw''⟩ := hw'
          subst hw''
          have L2 := LB.next hb2
          go_wp2_with fail
          go_ret
          exact ⟨ret_bool Hr.out.symm, L2.now.1.1⟩
        | true =>
          rw [hwo] at WV
          by_cases hd : 1 ≤ many ∧ many ≤ 99
          · have hds : decide (0 ≤ sum ∧ sum ≤ 999 * many) = false := decide_eq_false (fun h => by
              rw [totOne_iff.2 ⟨hwo, hd, h.1, by simp only; omega⟩] at hok; cases hok)
            have hmw : IntKind.i64.wrap (999 * many) = 999 * many := IntWalk.i64_in _ (by omega)
            rw [decide_eq_true hd] at li
            rw [hds] at ls
            have LI := Lib.hid li
            have LS := Lib.hid ls
            clear li ls hok hd hds
            go_wp2_with fail
            refine wp_region_on (by kernel_rfl) (by kernel_rfl) ?_
            repeat (go_big_quiet_step ((first | (go_at_call 71; with_reducible exact On.same (WV.out _)) | (go_at_call 70; first | with_reducible exact On.same (LI.out _) | with_reducible exact On.same (LS.out _)))))
            refine wpQuiet_nil ?_
            intro _ hw'
            obtain ⟨⟨w2, hb2⟩, hw''⟩ := hw'
            subst hw''
            have L2 := LB.next hb2
            go_wp2_with fail
            go_ret
            exact ⟨ret_bool Hr.out.symm, L2.now.1.1⟩
          · rw [decide_eq_false hd] at li
            have LI := Lib.hid li
            have LS := Lib.hid ls
            clear li ls hok hd
            go_wp2_with fail
            refine wp_region_on (by kernel_rfl) (by kernel_rfl) ?_
            repeat (go_big_quiet_step ((first | (go_at_call 71; with_reducible exact On.same (WV.out _)) | (go_at_call 70; first | with_reducible exact On.same (LI.out _) | with_reducible exact On.same (LS.out _)))))
            refine wpQuiet_nil ?_
            intro _ hw'
            obtain ⟨⟨w2, hb2⟩, hw''⟩ := hw'
            subst hw''
            have L2 := LB.next hb2
            go_wp2_with fail
            go_ret
            exact ⟨ret_bool Hr.out.symm, L2.now.1.1⟩
      | true =>
        obtain ⟨hwo, hd, hds1, hds2⟩ := totOne_iff.1 hok
        simp only at hwo hd hds1 hds2
        have hds : decide (0 ≤ sum ∧ sum ≤ 999 * many) = true := decide_eq_true ⟨hds1, by omega⟩
        have hmw : IntKind.i64.wrap (999 * many) = 999 * many := IntWalk.i64_in _ (by omega)
        rw [hwo] at WV
        rw [decide_eq_true hd] at li
        rw [hds] at ls
        have LI := Lib.hid li
        have LS := Lib.hid ls
        clear li ls hwo hd hds hds1 hds2
        by_cases hk0 : k = 0
        · subst hk0
          simp only [Nat.zero_mul, Nat.add_zero] at c0 c1 c2
          have Hm := Lib.hid (totAt_0 (l := cs) (by rw [He.out]; exact hok))
          go_wp2_with fail
          refine wp_region_on (by kernel_rfl) (by kernel_rfl) ?_
          repeat (go_big_quiet_step ((first | (go_at_call 71; with_reducible exact On.same (WV.out _)) | (go_at_call 70; first | with_reducible exact On.same (LI.out _) | with_reducible exact On.same (LS.out _)))))
          refine wpQuiet_nil ?_
          intro _ hw'
          obtain ⟨⟨w2, hb2⟩, hw''⟩ := hw'
          subst hw''
          have L2 := LB.next hb2
          go_wp2_with fail
          go_roundw
          case rel => exact ⟨1, by omega, by go_num, L2.imp (fun W q => q.1), Lib.hid fun j hj => by rw [show j = 0 by omega]; exact Hm.out⟩
          case measure => simp [intOf]; omega
        · obtain ⟨m, rfl⟩ : ∃ m, k = m + 1 := ⟨k - 1, by omega⟩
          have hm1 : m < n := by omega
          obtain ⟨⟨pn, pm, ps⟩, hp⟩ : ∃ e, nx cs m = e := ⟨_, rfl⟩
          have p0 := fun (x : On (wr.alloc (.cells #[.string name, .int .i64 many, .int .i64 sum] 29))) => (show x.W.cell? ⟨b, off + m * 3, none⟩ = some (.string pn) from by have := ((LB.next x.below).now.1.2.tot_at2 m hm1).1; rw [hp] at this; exact this)
          have hmo := totAt_s (l := cs) (m := m) (by rw [He.out]; exact hok)
          rw [hp, He.out] at hmo
          simp only at hmo
          have hi1 : ((m + 1 : Nat) : Int) - 1 = (m : Int) := by omega
          have hg1 : decide (((m + 1 : Nat) : Int) > 0) = true := decide_eq_true (by omega)
          have hmi : (m : Int) < (n : Int) := by omega
          have hm0 : (0 : Int) ≤ (m : Int) := by omega
          clear hp hk0
          cases hl : ltB pn name with
          | true =>
            rw [hl] at hmo
            have hne := Lib.hid (ltB_ne hl)
            have e1 : Op.bytesLess pn.toList name.toList = true := hl
            have e1' : Op.bytesLess name.toList pn.toList = false := ltB_asymm hl
            have e2 : (pn.toList == name.toList) = false := toList_ne hne.out
            have Hm := Lib.hid hmo
            clear hl hmo
            go_wp2_with fail
            refine wp_region_on (by kernel_rfl) (by kernel_rfl) ?_
            repeat (go_big_quiet_step ((first | (go_at_call 71; with_reducible exact On.same (WV.out _)) | (go_at_call 70; first | with_reducible exact On.same (LI.out _) | with_reducible exact On.same (LS.out _)))))
            refine wpQuiet_nil ?_
            intro _ hw'
            obtain ⟨⟨w2, hb2⟩, hw''⟩ := hw'
            subst hw''
            have L2 := LB.next hb2
            go_wp2_with fail
            go_roundw
            case rel => exact ⟨m + 1 + 1, by omega, by go_num, L2.imp (fun W q => q.1), Lib.hid fun j hj => by
              rcases Nat.lt_succ_iff_lt_or_eq.1 hj with h' | rfl
              · exact Hall.out j h'
              · exact Hm.out⟩
            case measure => simp [intOf]; omega
          | false =>
            rw [hl] at hmo
            have Hn := Lib.hid (totsOk_at (l := cs) (m + 1) (by rw [Hlen.out]; exact hlt) hmo)
            have e1 : Op.bytesLess pn.toList name.toList = false := hl
            clear hl hmo
            go_wp2_with fail
            refine wp_region_on (by kernel_rfl) (by kernel_rfl) ?_
            repeat (go_big_quiet_step ((first | (go_at_call 71; with_reducible exact On.same (WV.out _)) | (go_at_call 70; first | with_reducible exact On.same (LI.out _) | with_reducible exact On.same (LS.out _)))))
            refine wpQuiet_nil ?_
            intro _ hw'
            obtain ⟨⟨w2, hb2⟩, hw''⟩ := hw'
            subst hw''
            have L2 := LB.next hb2
            go_wp2_with fail
            go_ret
            exact ⟨ret_bool Hn.out.symm, L2.now.1.1⟩
    · obtain rfl : k = n := by omega
      by_cases h24 : k ≤ 24
      · have Hr := Lib.hid (totsOk_yes (l := cs) (by rw [Hlen.out]; omega) (fun j hj => Hall.out j (by rw [Hlen.out] at hj; omega)))
        have h24' : (k : Int) ≤ 24 := by omega
        go_wp2_with fail
        go_ret
        exact ⟨ret_bool (by rw [Hr.out]), L.now.1⟩
      · have Hr := Lib.hid (totsOk_len (l := cs) (by rw [Hlen.out]; omega))
        have h24' : ¬ (k : Int) ≤ 24 := by omega
        go_wp2_with fail
        go_ret
        exact ⟨ret_bool (by rw [Hr.out]), L.now.1⟩
end Go.Proofs.YtlaolhhkchgakaaDoor
