/- Valid totals: the program's and the reference's. -/
import Derived.Test.YtlaolhhkchgakaaDoorPTot
import Derived.Test.YtlaolhhkchgakaaDoorPiece
import Derived.Test.YtlaolhhkchgakaaDoorLive
import Derived.Test.YtlaolhhkchgakaaDoorNamesT
import Derived.Test.YtlaolhhkchgakaaDoorOnQ
import Derived.Deep.DeepMust
namespace Go.Proofs.YtlaolhhkchgakaaDoor
set_option linter.unusedVariables false
set_option linter.unusedSimpArgs false
open Go.RowKit

def totCells (t : Tot) : List Value := [.string t.cat, .int .i64 t.many, .int .i64 t.sum]
theorem totCells_len (t : Tot) : (totCells t).length = 3 := rfl
theorem tots_one (l : List Tot) : ∀ u ∈ l.flatMap totCells, u.oneCell' = true := by
  intro u hu
  obtain ⟨c, _, h⟩ := List.mem_flatMap.1 hu
  simp [totCells] at h
  rcases h with rfl | rfl | rfl <;> rfl
theorem elemTot : Elem Tryd.prog 25 29 (.agg #[.string ⟨#[]⟩, .int .i64 0, .int .i64 0]) 3 32 := ⟨Tryd.underlying25, by kernel_rfl, rfl, by decide, by decide⟩
def SmallTots (l : List Tot) : Prop := ∀ c ∈ l, c.cat.size ≤ maxLen
def TotAt (w : World) (b o : Nat) (t : Tot) : Prop := w.cell? ⟨b, o, none⟩ = some (.string t.cat) ∧ w.cell? ⟨b, o + 1, none⟩ = some (.int .i64 t.many) ∧ w.cell? ⟨b, o + 2, none⟩ = some (.int .i64 t.sum)
theorem Row.tot_at {w : World} {B n : Nat} {A : Option Addr} {l : List Tot} (h : Row totCells 3 w B A n l) (hn : 0 < n) : ∃ b off, A = some ⟨b, off, none⟩ ∧ b < B ∧ ∀ k, k < n → TotAt w b (off + k * 3) (nx l k) := by
  obtain ⟨b, off, e, hb, hx⟩ := h.at_ totCells_len hn
  exact ⟨b, off, e, hb, fun k hk => ⟨hx k _ (nx_get (by rw [h.1]; exact hk)) 0 _ rfl, hx k _ (nx_get (by rw [h.1]; exact hk)) 1 _ rfl, hx k _ (nx_get (by rw [h.1]; exact hk)) 2 _ rfl⟩⟩
theorem Row.tot_at2 {w : World} {B n : Nat} {b off : Nat} {l : List Tot} (h : Row totCells 3 w B (some ⟨b, off, none⟩) n l) (k : Nat) (hk : k < n) : TotAt w b (off + k * 3) (nx l k) := by
  obtain ⟨b', off', e, _, hx⟩ := h.tot_at (by omega)
  obtain rfl : b = b' := by injection e with e; injection e
  obtain rfl : off = off' := by injection e with e; injection e
  exact hx k hk
theorem TotAt.below {w w' : World} {B b o : Nat} {x : Tot} (h : TotAt w b o x) (hb : Below B w w') (hlt : b < B) : TotAt w' b o x :=
  ⟨(hb.cell (p := ⟨b, o, none⟩) hlt).trans h.1, (hb.cell (p := ⟨b, o + 1, none⟩) hlt).trans h.2.1, (hb.cell (p := ⟨b, o + 2, none⟩) hlt).trans h.2.2⟩

set_option maxHeartbeats 2000000 in
theorem totValid_any (cat : ByteArray) (many sum : Int) (w : World) (hs : cat.size ≤ maxLen) :
    Calls Tryd.prog 51 #[.agg #[.string cat, .int .i64 many, .int .i64 sum]] w fun r w' => r = .returned (.bool (totOne ⟨cat, many, sum⟩)) ∧ Below w.heap.size w w' := by
  have Hn := Lib.hid (fun h => totOne_no (t := ⟨cat, many, sum⟩) h)
  cases hw : wordOk cat.data.toList with
  | false =>
    have Hr : Hid (totOne ⟨cat, many, sum⟩ = false) := Lib.hid (Hn.out (fun h => by rw [hw] at h; exact absurd h.1 (by decide)))
    go_enter Tryd.func51, Tryd.ntmps51
    go_wp2_with (go_at_call 45; refine (wordValid_any _ _ hs).mono ?_; rw [hw]; rintro e w' ⟨rfl, rfl⟩)
    go_ret
    exact ⟨ret_bool Hr.out.symm, (Below.refl _ _).alloc (Nat.le_refl _) _⟩
  | true =>
    by_cases h1 : 1 ≤ many ∧ many ≤ 99
    · obtain ⟨h1, h1'⟩ := h1
      have Hw := Lib.hid hw
      by_cases h2 : 0 ≤ sum
      · by_cases h3 : sum ≤ many * 999
        · have Hr : Hid (totOne ⟨cat, many, sum⟩ = true) := Lib.hid (totOne_iff.2 ⟨hw, ⟨h1, h1'⟩, h2, h3⟩)
          go_enter Tryd.func51, Tryd.ntmps51
          go_wp2_with (go_at_call 45; refine (wordValid_any _ _ hs).mono ?_; rw [hw]; rintro e w' ⟨rfl, rfl⟩)
          go_ret
          exact ⟨ret_bool Hr.out.symm, (Below.refl _ _).alloc (Nat.le_refl _) _⟩
        · have Hr : Hid (totOne ⟨cat, many, sum⟩ = false) := Lib.hid (Hn.out (fun h => h3 h.2.2.2))
          have h3d : decide (sum ≤ many * 999) = false := decide_eq_false h3
          go_enter Tryd.func51, Tryd.ntmps51
          go_wp2_with (go_at_call 45; refine (wordValid_any _ _ hs).mono ?_; rw [hw]; rintro e w' ⟨rfl, rfl⟩)
          go_ret
          exact ⟨ret_bool Hr.out.symm, (Below.refl _ _).alloc (Nat.le_refl _) _⟩
      · have Hr : Hid (totOne ⟨cat, many, sum⟩ = false) := Lib.hid (Hn.out (fun h => h2 h.2.2.1))
        have h2d : decide (sum ≥ 0) = false := decide_eq_false h2
        go_enter Tryd.func51, Tryd.ntmps51
        go_wp2_with (go_at_call 45; refine (wordValid_any _ _ hs).mono ?_; rw [hw]; rintro e w' ⟨rfl, rfl⟩)
        go_ret
        exact ⟨ret_bool Hr.out.symm, (Below.refl _ _).alloc (Nat.le_refl _) _⟩
    · have Hr : Hid (totOne ⟨cat, many, sum⟩ = false) := Lib.hid (Hn.out (fun h => h1 h.2.1))
      have h1a : many < 1 ∨ 99 < many := by omega
      clear h1
      rcases h1a with h1 | h1
      all_goals
        go_enter Tryd.func51, Tryd.ntmps51
        go_wp2_with (go_at_call 45; refine (wordValid_any _ _ hs).mono ?_; rw [hw]; rintro e w' ⟨rfl, rfl⟩)
        go_ret
        exact ⟨ret_bool Hr.out.symm, (Below.refl _ _).alloc (Nat.le_refl _) _⟩

set_option maxRecDepth 100000 in
set_option maxHeartbeats 8000000 in
theorem totsValid_any (A : Option Addr) (n c : Nat) (cs : List Tot) (w : World) (h : Row totCells 3 w w.heap.size A n cs) (hsm : SmallTots cs) (hnb : n ≤ 1000000) :
    Calls Tryd.prog 25 #[.slice A n c] w fun e w' => e = .returned (.bool (totsOk cs)) ∧ Below w.heap.size w w' := by
  have Hlen := Lib.hid h.1
  by_cases h24 : (24 : Int) < n
  · have Hr := Lib.hid (totsOk_len (l := cs) (by rw [Hlen.out]; omega))
    go_enter Tryd.func25, Tryd.ntmps25
    go_wp2_with fail
    go_ret
    exact ⟨ret_bool Hr.out.symm, Below.refl _ _⟩
  have L0 := (Live.since (Below.refl w.heap.size w)).and (Live.row h)
  have Hsm := Lib.hid hsm
  clear h hsm
  go_enter Tryd.func25, Tryd.ntmps25
  go_wp2_with fail
  go_loopw [10] (fun i wr => ∃ k : Nat, k ≤ n ∧ i = .int .i64 k ∧ (Live wr fun W => Below w.heap.size w W ∧ Row totCells 3 W W.heap.size A n cs) ∧ Hid (∀ j, j < k → totAt cs j = true)) (fun i _ => n - (intOf i).toNat)
  case atStart => exact ⟨0, Nat.zero_le _, rfl, L0, Lib.hid fun j hj => absurd hj (by omega)⟩
  case round =>
    obtain ⟨k, hk, rfl, L, Hall⟩ := hrel
    by_cases hlt : k < n
    · have hlt' : (k : Int) < (n : Int) := by omega
      obtain ⟨b, off, rfl, hb, hx⟩ := L.now.2.tot_at (by omega)
      obtain ⟨c0, c1, c2⟩ := hx k hlt
      have hs := Hsm.out (nx cs k) (nx_mem (by rw [Hlen.out]; exact hlt))
      obtain ⟨⟨name, many, sum⟩, he⟩ : ∃ e, nx cs k = e := ⟨_, rfl⟩
      rw [he] at c0 c1 c2 hs
      have He := Lib.hid he
      have hd : ((k : Int) > 0) = (0 < k) := by simp
      have LB := (L.next ((Below.refl _ _).alloc (Nat.le_refl _) (.cells #[.string name, .int .i64 many, .int .i64 sum] 29))).and (Live.blk (Blk.new wr 29 #[.string name, .int .i64 many, .int .i64 sum]))
      have CV := Lib.hid (fun (x : On (wr.alloc (.cells #[.string name, .int .i64 many, .int .i64 sum] 29))) => totValid_any name many sum x.W hs)
      have b0 := fun (x : On (wr.alloc (.cells #[.string name, .int .i64 many, .int .i64 sum] 29))) => (show x.W.cell? ⟨wr.heap.size, 0, none⟩ = some (.string name) from (LB.next x.below).now.2.cell 0)
      have b1 := fun (x : On (wr.alloc (.cells #[.string name, .int .i64 many, .int .i64 sum] 29))) => (show x.W.cell? ⟨wr.heap.size, 1, none⟩ = some (.int .i64 many) from (LB.next x.below).now.2.cell 1)
      have b2 := fun (x : On (wr.alloc (.cells #[.string name, .int .i64 many, .int .i64 sum] 29))) => (show x.W.cell? ⟨wr.heap.size, 2, none⟩ = some (.int .i64 sum) from (LB.next x.below).now.2.cell 2)
      clear hx he hd
      cases hok : totOne ⟨name, many, sum⟩ with
      | false =>
        rw [hok] at CV
        have Hr := Lib.hid (totsOk_at (l := cs) k (by rw [Hlen.out]; exact hlt) (totAt_one (by rw [He.out]; exact hok)))
        go_wp2_with fail
        refine wp_region_on (by kernel_rfl) (by kernel_rfl) ?_
        repeat (go_big_quiet_step ((go_at_call 51; exact On.calls (CV.out _))))
        refine wpQuiet_nil ?_
        intro _ hw'
        obtain ⟨⟨w2, hb2⟩, hw''⟩ := hw'
        subst hw''
        have L2 := LB.next hb2
        go_wp2_with fail
        go_ret
        exact ⟨ret_bool Hr.out.symm, L2.now.1.1⟩
      | true =>
        rw [hok] at CV
        by_cases hk0 : k = 0
        · subst hk0
          simp only [Nat.zero_mul, Nat.add_zero] at c0 c1 c2
          have Hm := Lib.hid (totAt_0 (l := cs) (by rw [He.out]; exact hok))
          go_wp2_with fail
          refine wp_region_on (by kernel_rfl) (by kernel_rfl) ?_
          repeat (go_big_quiet_step ((go_at_call 51; exact On.calls (CV.out _))))
          refine wpQuiet_nil ?_
          intro _ hw'
          obtain ⟨⟨w2, hb2⟩, hw''⟩ := hw'
          subst hw''
          have L2 := LB.next hb2
          go_wp2_with fail
          go_roundw
          case rel => exact ⟨1, by omega, by go_num, L2.imp (fun W q => q.1), Lib.hid fun j hj => by rw [show j = 0 by omega]; exact Hm.out⟩
          case measure => simp [intOf]; omega
        · obtain ⟨m, rfl⟩ : ∃ m, k = m + 1 := ⟨k - 1, by omega⟩
          have hm1 : m < n := by omega
          obtain ⟨⟨pn, pm, ps⟩, hp⟩ : ∃ e, nx cs m = e := ⟨_, rfl⟩
          have p0 := fun (x : On (wr.alloc (.cells #[.string name, .int .i64 many, .int .i64 sum] 29))) => (show x.W.cell? ⟨b, off + m * 3, none⟩ = some (.string pn) from by have := ((LB.next x.below).now.1.2.tot_at2 m hm1).1; rw [hp] at this; exact this)
          have hmo := totAt_s (l := cs) (m := m) (by rw [He.out]; exact hok)
          rw [hp, He.out] at hmo
          simp only at hmo
          have hi1 : ((m + 1 : Nat) : Int) - 1 = (m : Int) := by omega
          have hg1 : decide (((m + 1 : Nat) : Int) > 0) = true := decide_eq_true (by omega)
          have hmi : (m : Int) < (n : Int) := by omega
          have hm0 : (0 : Int) ≤ (m : Int) := by omega
          clear hp hk0
          cases hl : ltB pn name with
          | true =>
            rw [hl] at hmo
            have hne := Lib.hid (ltB_ne hl)
            have e1 : Op.bytesLess name.toList pn.toList = false := ltB_asymm hl
            have e2 : (name.toList == pn.toList) = false := toList_ne (fun e => hne.out e.symm)
            have Hm := Lib.hid hmo
            clear hl hmo
            go_wp2_with fail
            refine wp_region_on (by kernel_rfl) (by kernel_rfl) ?_
            repeat (go_big_quiet_step ((go_at_call 51; exact On.calls (CV.out _))))
            refine wpQuiet_nil ?_
            intro _ hw'
            obtain ⟨⟨w2, hb2⟩, hw''⟩ := hw'
            subst hw''
            have L2 := LB.next hb2
            go_wp2_with fail
            go_roundw
            case rel => exact ⟨m + 1 + 1, by omega, by go_num, L2.imp (fun W q => q.1), Lib.hid fun j hj => by
              rcases Nat.lt_succ_iff_lt_or_eq.1 hj with h' | rfl
              · exact Hall.out j h'
              · exact Hm.out⟩
            case measure => simp [intOf]; omega
          | false =>
            rw [hl] at hmo
            have Hn := Lib.hid (totsOk_at (l := cs) (m + 1) (by rw [Hlen.out]; exact hlt) hmo)
            have hle : Op.bytesLess name.toList pn.toList = true ∨ name = pn := by
              rcases ltB_tri pn name with h | h | h
              · rw [hl] at h; cases h
              · exact .inr h.symm
              · exact .inl h
            clear hl hmo
            rcases hle with e1 | rfl
            all_goals
              go_wp2_with fail
              refine wp_region_on (by kernel_rfl) (by kernel_rfl) ?_
              repeat (go_big_quiet_step ((go_at_call 51; exact On.calls (CV.out _))))
              refine wpQuiet_nil ?_
              intro _ hw'
              obtain ⟨⟨w2, hb2⟩, hw''⟩ := hw'
              subst hw''
              have L2 := LB.next hb2
              go_wp2_with fail
              go_ret
              exact ⟨ret_bool Hn.out.symm, L2.now.1.1⟩
    · have Hr := Lib.hid (totsOk_yes (l := cs) (by rw [Hlen.out]; omega) (fun j hj => Hall.out j (by rw [Hlen.out] at hj; omega)))
      go_wp2_with fail
      go_ret
      exact ⟨ret_bool Hr.out.symm, L.now.1⟩

end Go.Proofs.YtlaolhhkchgakaaDoor
