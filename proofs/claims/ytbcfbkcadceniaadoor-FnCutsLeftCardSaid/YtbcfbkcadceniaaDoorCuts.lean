/- Valid cuts: the program's and the reference's. -/
import Derived.Test.YtbcfbkcadceniaaDoorPCut
import Derived.Test.YtbcfbkcadceniaaDoorPiece
import Derived.Test.YtbcfbkcadceniaaDoorLive
import Derived.Test.YtbcfbkcadceniaaDoorNamesT
import Derived.Test.YtbcfbkcadceniaaDoorOnQ
import Derived.Deep.DeepMust
namespace Go.Proofs.YtbcfbkcadceniaaDoor
set_option linter.unusedVariables false
set_option linter.unusedSimpArgs false
open Go.RowKit

def cutCells (c : Cut) : List Value := [.string c.name, .int .i64 c.at_]
theorem cutCells_len (c : Cut) : (cutCells c).length = 2 := rfl
theorem cuts_one (l : List Cut) : ∀ u ∈ l.flatMap cutCells, u.oneCell' = true := by
  intro u hu
  obtain ⟨c, _, h⟩ := List.mem_flatMap.1 hu
  simp [cutCells] at h
  rcases h with rfl | rfl <;> rfl
theorem elemCut : Elem Tryd.prog 24 42 (.agg #[.string ⟨#[]⟩, .int .i64 0]) 2 24 := ⟨Tryd.underlying24, by kernel_rfl, rfl, by decide, by decide⟩
def SmallCuts (l : List Cut) : Prop := ∀ c ∈ l, c.name.size ≤ maxLen
def CutAt (w : World) (b o : Nat) (c : Cut) : Prop := w.cell? ⟨b, o, none⟩ = some (.string c.name) ∧ w.cell? ⟨b, o + 1, none⟩ = some (.int .i64 c.at_)
theorem Row.cut_at {w : World} {B n : Nat} {A : Option Addr} {l : List Cut} (h : Row cutCells 2 w B A n l) (hn : 0 < n) : ∃ b off, A = some ⟨b, off, none⟩ ∧ b < B ∧ ∀ k, k < n → CutAt w b (off + k * 2) (nx l k) := by
  obtain ⟨b, off, e, hb, hx⟩ := h.at_ cutCells_len hn
  exact ⟨b, off, e, hb, fun k hk => ⟨hx k _ (nx_get (by rw [h.1]; exact hk)) 0 _ rfl, hx k _ (nx_get (by rw [h.1]; exact hk)) 1 _ rfl⟩⟩
theorem Row.cut_at2 {w : World} {B n : Nat} {b off : Nat} {l : List Cut} (h : Row cutCells 2 w B (some ⟨b, off, none⟩) n l) (k : Nat) (hk : k < n) : CutAt w b (off + k * 2) (nx l k) := by
  obtain ⟨b', off', e, _, hx⟩ := h.cut_at (by omega)
  obtain rfl : b = b' := by injection e with e; injection e
  obtain rfl : off = off' := by injection e with e; injection e
  exact hx k hk

set_option maxHeartbeats 2000000 in
theorem cutValid_any (name : ByteArray) (at_ : Int) (w : World) (hs : name.size ≤ maxLen) (hg : GE w) :
    Calls Tryd.prog 56 #[.agg #[.string name, .int .i64 at_]] w fun r w' => r = .returned (.bool (cutOne ⟨name, at_⟩)) ∧ Below w.heap.size w w' := by
  have hb0 : Below w.heap.size w (w.alloc (.cells #[.string name, .int .i64 at_] 42)) := (Below.refl _ _).alloc (Nat.le_refl _) _
  have NV := Lib.hid (nameValid_any name _ hs (hg.below hb0))
  have Hb0 := Lib.hid hb0
  clear hg hb0
  cases hn : nameOk name.data.toList with
  | false =>
    have Hr := Lib.hid (cutOne_name (c := ⟨name, at_⟩) hn)
    rw [hn] at NV
    go_enter Tryd.func56, Tryd.ntmps56
    go_wp2_with (go_at_call 53; refine NV.out.mono ?_; rintro e w1 ⟨rfl, hb1⟩)
    go_ret
    exact ⟨ret_bool Hr.out.symm, bt Hb0.out hb1⟩
  | true =>
    rw [hn] at NV
    by_cases h1 : 1 ≤ at_
    · by_cases h2 : at_ ≤ 24
      all_goals
        go_enter Tryd.func56, Tryd.ntmps56
        go_wp2_with (go_at_call 53; refine NV.out.mono ?_; rintro e w1 ⟨rfl, hb1⟩; have c1 := ((Blk.new w 42 #[.string name, .int .i64 at_]).next hb1).cell 1)
        go_ret
        exact ⟨ret_bool (by simp [cutOne, hn, h1, h2]), bt Hb0.out hb1⟩
    · go_enter Tryd.func56, Tryd.ntmps56
      go_wp2_with (go_at_call 53; refine NV.out.mono ?_; rintro e w1 ⟨rfl, hb1⟩; have c1 := ((Blk.new w 42 #[.string name, .int .i64 at_]).next hb1).cell 1)
      go_ret
      exact ⟨ret_bool (by simp [cutOne, hn]; omega), bt Hb0.out hb1⟩

set_option maxRecDepth 100000 in
set_option maxHeartbeats 8000000 in
theorem cutsValid_any (A : Option Addr) (n c : Nat) (cs : List Cut) (w : World) (h : Row cutCells 2 w w.heap.size A n cs) (hsm : SmallCuts cs) (hnb : n ≤ 1000000) (hg : GE w) :
    Calls Tryd.prog 24 #[.slice A n c] w fun e w' => e = .returned (.bool (cutsOk cs)) ∧ Below w.heap.size w w' := by
  have Hlen := Lib.hid h.1
  by_cases h12 : (12 : Int) < n
  · have Hr := Lib.hid (cutsOk_len (l := cs) (by rw [Hlen.out]; omega))
    go_enter Tryd.func24, Tryd.ntmps24
    go_wp2_with fail
    go_ret
    exact ⟨ret_bool Hr.out.symm, Below.refl _ _⟩
  have L0 := ((Live.since (Below.refl w.heap.size w)).and (Live.ge hg)).and (Live.row h)
  have Hsm := Lib.hid hsm
  clear h hsm hg
  go_enter Tryd.func24, Tryd.ntmps24
  go_wp2_with fail
  go_loopw [10] (fun i wr => ∃ k : Nat, k ≤ n ∧ i = .int .i64 k ∧ (Live wr fun W => (Below w.heap.size w W ∧ GE W) ∧ Row cutCells 2 W W.heap.size A n cs) ∧ Hid (∀ j, j < k → cutAt cs j = true)) (fun i _ => n - (intOf i).toNat)
  case atStart => exact ⟨0, Nat.zero_le _, rfl, L0, Lib.hid fun j hj => absurd hj (by omega)⟩
  case round =>
    obtain ⟨k, hk, rfl, L, Hall⟩ := hrel
    by_cases hlt : k < n
    · have hlt' : (k : Int) < (n : Int) := by omega
      obtain ⟨b, off, rfl, hb, hx⟩ := L.now.2.cut_at (by omega)
      obtain ⟨c0, c1⟩ := hx k hlt
      have hs := Hsm.out (nx cs k) (nx_mem (by rw [Hlen.out]; exact hlt))
      obtain ⟨⟨name, at_⟩, he⟩ : ∃ e, nx cs k = e := ⟨_, rfl⟩
      rw [he] at c0 c1 hs
      have He := Lib.hid he
      have hd : ((k : Int) > 0) = (0 < k) := by simp
      have LB := (L.next ((Below.refl _ _).alloc (Nat.le_refl _) (.cells #[.string name, .int .i64 at_] 42))).and (Live.blk (Blk.new wr 42 #[.string name, .int .i64 at_]))
      have CV := Lib.hid (fun (x : On (wr.alloc (.cells #[.string name, .int .i64 at_] 42))) => cutValid_any name at_ x.W hs (LB.next x.below).now.1.1.2)
      have b0 := fun (x : On (wr.alloc (.cells #[.string name, .int .i64 at_] 42))) => (show x.W.cell? ⟨wr.heap.size, 0, none⟩ = some (.string name) from (LB.next x.below).now.2.cell 0)
      have b1 := fun (x : On (wr.alloc (.cells #[.string name, .int .i64 at_] 42))) => (show x.W.cell? ⟨wr.heap.size, 1, none⟩ = some (.int .i64 at_) from (LB.next x.below).now.2.cell 1)
      clear hx he hd
      cases hok : cutOne ⟨name, at_⟩ with
      | false =>
        rw [hok] at CV
        have Hr := Lib.hid (cutsOk_at (l := cs) k (by rw [Hlen.out]; exact hlt) (cutAt_one (by rw [He.out]; exact hok)))
        go_wp2_with fail
        refine wp_region_on (by kernel_rfl) (by kernel_rfl) ?_
        repeat (go_big_quiet_step ((go_at_call 56; exact On.calls (CV.out _))))
        refine wpQuiet_nil ?_
        intro _ hw'
        obtain ⟨⟨w2, hb2⟩, hw''⟩ := hw'
        subst hw''
        have L2 := LB.next hb2
        go_wp2_with fail
        go_ret
        exact ⟨ret_bool Hr.out.symm, L2.now.1.1.1⟩
      | true =>
        rw [hok] at CV
        by_cases hk0 : k = 0
        · subst hk0
          simp only [Nat.zero_mul, Nat.add_zero] at c0 c1
          have Hm := Lib.hid (cutAt_0 (l := cs) (by rw [He.out]; exact hok))
          go_wp2_with fail
          refine wp_region_on (by kernel_rfl) (by kernel_rfl) ?_
          repeat (go_big_quiet_step ((go_at_call 56; exact On.calls (CV.out _))))
          refine wpQuiet_nil ?_
          intro _ hw'
          obtain ⟨⟨w2, hb2⟩, hw''⟩ := hw'
          subst hw''
          have L2 := LB.next hb2
          go_wp2_with fail
          go_roundw
          case rel => exact ⟨1, by omega, by go_num, L2.imp (fun W q => q.1), Lib.hid fun j hj => by rw [show j = 0 by omega]; exact Hm.out⟩
          case measure => simp [intOf]; omega
        · obtain ⟨m, rfl⟩ : ∃ m, k = m + 1 := ⟨k - 1, by omega⟩
          have hm1 : m < n := by omega
          obtain ⟨⟨pn, pa⟩, hp⟩ : ∃ e, nx cs m = e := ⟨_, rfl⟩
          have p0 := fun (x : On (wr.alloc (.cells #[.string name, .int .i64 at_] 42))) => (show x.W.cell? ⟨b, off + m * 2, none⟩ = some (.string pn) from by have := ((LB.next x.below).now.1.2.cut_at2 m hm1).1; rw [hp] at this; exact this)
          have hmo := cutAt_s (l := cs) (m := m) (by rw [He.out]; exact hok)
          rw [hp, He.out] at hmo
          simp only at hmo
          have hi1 : ((m + 1 : Nat) : Int) - 1 = (m : Int) := by omega
          have hg1 : decide (((m + 1 : Nat) : Int) > 0) = true := decide_eq_true (by omega)
          have hmi : (m : Int) < (n : Int) := by omega
          have hm0 : (0 : Int) ≤ (m : Int) := by omega
          clear hp hk0
          cases hl : ltB pn name with
          | true =>
            rw [hl] at hmo
            have hne := Lib.hid (ltB_ne hl)
            have e1 : Op.bytesLess name.toList pn.toList = false := ltB_asymm hl
            have e2 : (name.toList == pn.toList) = false := toList_ne (fun e => hne.out e.symm)
            have Hm := Lib.hid hmo
            clear hl hmo
            go_wp2_with fail
            refine wp_region_on (by kernel_rfl) (by kernel_rfl) ?_
            repeat (go_big_quiet_step ((go_at_call 56; exact On.calls (CV.out _))))
            refine wpQuiet_nil ?_
            intro _ hw'
            obtain ⟨⟨w2, hb2⟩, hw''⟩ := hw'
            subst hw''
            have L2 := LB.next hb2
            go_wp2_with fail
            go_roundw
            case rel => exact ⟨m + 1 + 1, by omega, by go_num, L2.imp (fun W q => q.1), Lib.hid fun j hj => by
              rcases Nat.lt_succ_iff_lt_or_eq.1 hj with h' | rfl
              · exact Hall.out j h'
              · exact Hm.out⟩
            case measure => simp [intOf]; omega
          | false =>
            rw [hl] at hmo
            have Hn := Lib.hid (cutsOk_at (l := cs) (m + 1) (by rw [Hlen.out]; exact hlt) hmo)
            have hle : Op.bytesLess name.toList pn.toList = true ∨ name = pn := by
              rcases ltB_tri pn name with h | h | h
              · rw [hl] at h; cases h
              · exact .inr h.symm
              · exact .inl h
            clear hl hmo
            rcases hle with e1 | rfl
            all_goals
              go_wp2_with fail
              refine wp_region_on (by kernel_rfl) (by kernel_rfl) ?_
              repeat (go_big_quiet_step ((go_at_call 56; exact On.calls (CV.out _))))
              refine wpQuiet_nil ?_
              intro _ hw'
              obtain ⟨⟨w2, hb2⟩, hw''⟩ := hw'
              subst hw''
              have L2 := LB.next hb2
              go_wp2_with fail
              go_ret
              exact ⟨ret_bool Hn.out.symm, L2.now.1.1.1⟩
    · have Hr := Lib.hid (cutsOk_yes (l := cs) (by rw [Hlen.out]; omega) (fun j hj => Hall.out j (by rw [Hlen.out] at hj; omega)))
      go_wp2_with fail
      go_ret
      exact ⟨ret_bool Hr.out.symm, L.now.1.1⟩

set_option maxRecDepth 100000 in
set_option maxHeartbeats 8000000 in
theorem cutsValidS_any (A : Option Addr) (n c : Nat) (cs : List Cut) (w : World) (h : Row cutCells 2 w w.heap.size A n cs) (hsm : SmallCuts cs) (hnb : n ≤ 1000000) :
    Calls Tryd.prog 20 #[.slice A n c] w fun e w' => e = .returned (.bool (cutsOk cs)) ∧ Below w.heap.size w w' := by
  have Hlen := Lib.hid h.1
  have L0 := (Live.since (Below.refl w.heap.size w)).and (Live.row h)
  have Hsm := Lib.hid hsm
  clear h hsm
  go_enter Tryd.func20, Tryd.ntmps20
  go_wp2_with fail
  go_loopw [3] (fun i wr => ∃ k : Nat, k ≤ n ∧ i = .int .i64 k ∧ (Live wr fun W => Below w.heap.size w W ∧ Row cutCells 2 W W.heap.size A n cs) ∧ Hid (∀ j, j < k → cutAt cs j = true)) (fun i _ => n - (intOf i).toNat)
  case atStart => exact ⟨0, Nat.zero_le _, rfl, L0, Lib.hid fun j hj => absurd hj (by omega)⟩
  case round =>
    obtain ⟨k, hk, rfl, L, Hall⟩ := hrel
    by_cases hlt : k < n
    · have hlt' : (k : Int) < (n : Int) := by omega
      obtain ⟨b, off, rfl, hb, hx⟩ := L.now.2.cut_at (by omega)
      have hs := Hsm.out (nx cs k) (nx_mem (by rw [Hlen.out]; exact hlt))
      obtain ⟨⟨name, at_⟩, he⟩ : ∃ e, nx cs k = e := ⟨_, rfl⟩
      have c0 := fun (x : On wr) => (show x.W.cell? ⟨b, off + k * 2, none⟩ = some (.string name) from by have := ((L.next x.below).now.2.cut_at2 k hlt).1; rw [he] at this; exact this)
      have c1 := fun (x : On wr) => (show x.W.cell? ⟨b, off + k * 2 + 1, none⟩ = some (.int .i64 at_) from by have := ((L.next x.below).now.2.cut_at2 k hlt).2; rw [he] at this; exact this)
      rw [he] at hs
      have He := Lib.hid he
      have NV := Lib.hid (fun (x : On wr) => nameValidS_any name x.W hs)
      have li := fun (x : On wr) => l6In_at at_ 1 24 x.W
      clear hx he
      cases hno : nameOk name.data.toList with
      | false =>
        rw [hno] at NV
        have Hr := Lib.hid (cutsOk_at (l := cs) k (by rw [Hlen.out]; exact hlt) (cutAt_one (by rw [He.out]; exact cutOne_name hno)))
        have LI := Lib.hid li
        clear li
        go_wp2_with fail
        refine wp_region_on (by kernel_rfl) (by kernel_rfl) ?_
        repeat (go_big_quiet_step (((first | (go_at_call 50; exact On.calls (NV.out _)) | (go_at_call 52; exact On.same (LI.out _))))))
        refine wpQuiet_nil ?_
        intro _ hw'
        obtain ⟨⟨w2, hb2⟩, hw''⟩ := hw'
        subst hw''
        have L2 := L.next hb2
        go_wp2_with fail
        go_ret
        exact ⟨ret_bool Hr.out.symm, L2.now.1⟩
      | true =>
        rw [hno] at NV
        cases hd : decide (1 ≤ at_ ∧ at_ ≤ 24) with
        | false =>
          rw [hd] at li
          have LI := Lib.hid li
          have Hr := Lib.hid (cutsOk_at (l := cs) k (by rw [Hlen.out]; exact hlt) (cutAt_one (by rw [He.out]; exact cutOne_no (of_decide_eq_false hd))))
          clear li hd
          go_wp2_with fail
          refine wp_region_on (by kernel_rfl) (by kernel_rfl) ?_
          repeat (go_big_quiet_step (((first | (go_at_call 50; exact On.calls (NV.out _)) | (go_at_call 52; exact On.same (LI.out _))))))
          refine wpQuiet_nil ?_
          intro _ hw'
          obtain ⟨⟨w2, hb2⟩, hw''⟩ := hw'
          subst hw''
          have L2 := L.next hb2
          go_wp2_with fail
          go_ret
          exact ⟨ret_bool Hr.out.symm, L2.now.1⟩
        | true =>
          rw [hd] at li
          have LI := Lib.hid li
          have hok : cutOne ⟨name, at_⟩ = true := cutOne_yes hno (of_decide_eq_true hd)
          clear li hd
          by_cases hk0 : k = 0
          · subst hk0
            simp only [Nat.zero_mul, Nat.add_zero] at c0 c1
            have Hm := Lib.hid (cutAt_0 (l := cs) (by rw [He.out]; exact hok))
            go_wp2_with fail
            refine wp_region_on (by kernel_rfl) (by kernel_rfl) ?_
            repeat (go_big_quiet_step (((first | (go_at_call 50; exact On.calls (NV.out _)) | (go_at_call 52; exact On.same (LI.out _))))))
            refine wpQuiet_nil ?_
            intro _ hw'
            obtain ⟨⟨w2, hb2⟩, hw''⟩ := hw'
            subst hw''
            have L2 := L.next hb2
            go_wp2_with fail
            go_roundw
            case rel => exact ⟨1, by omega, by go_num, L2, Lib.hid fun j hj => by rw [show j = 0 by omega]; exact Hm.out⟩
            case measure => simp [intOf]; omega
          · obtain ⟨m, rfl⟩ : ∃ m, k = m + 1 := ⟨k - 1, by omega⟩
            have hm1 : m < n := by omega
            obtain ⟨⟨pn, pa⟩, hp⟩ : ∃ e, nx cs m = e := ⟨_, rfl⟩
            have p0 := fun (x : On wr) => (show x.W.cell? ⟨b, off + m * 2, none⟩ = some (.string pn) from by have := ((L.next x.below).now.2.cut_at2 m hm1).1; rw [hp] at this; exact this)
            have hmo := cutAt_s (l := cs) (m := m) (by rw [He.out]; exact hok)
            rw [hp, He.out] at hmo
            simp only at hmo
            have hi1 : ((m + 1 : Nat) : Int) - 1 = (m : Int) := by omega
            have hg1 : decide (((m + 1 : Nat) : Int) > 0) = true := decide_eq_true (by omega)
            have hmi : (m : Int) < (n : Int) := by omega
            have hm0 : (0 : Int) ≤ (m : Int) := by omega
            clear hp hk0
            cases hl : ltB pn name with
            | true =>
              rw [hl] at hmo
              have hne := Lib.hid (ltB_ne hl)
              have e1 : Op.bytesLess pn.toList name.toList = true := hl
              have e1' : Op.bytesLess name.toList pn.toList = false := ltB_asymm hl
              have e2 : (pn.toList == name.toList) = false := toList_ne hne.out
              have Hm := Lib.hid hmo
              clear hl hmo
              go_wp2_with fail
              refine wp_region_on (by kernel_rfl) (by kernel_rfl) ?_
              repeat (go_big_quiet_step (((first | (go_at_call 50; exact On.calls (NV.out _)) | (go_at_call 52; exact On.same (LI.out _))))))
              refine wpQuiet_nil ?_
              intro _ hw'
              obtain ⟨⟨w2, hb2⟩, hw''⟩ := hw'
              subst hw''
              have L2 := L.next hb2
              go_wp2_with fail
              go_roundw
              case rel => exact ⟨m + 1 + 1, by omega, by go_num, L2, Lib.hid fun j hj => by
                rcases Nat.lt_succ_iff_lt_or_eq.1 hj with h' | rfl
                · exact Hall.out j h'
                · exact Hm.out⟩
              case measure => simp [intOf]; omega
            | false =>
              rw [hl] at hmo
              have Hn := Lib.hid (cutsOk_at (l := cs) (m + 1) (by rw [Hlen.out]; exact hlt) hmo)
              have e1 : Op.bytesLess pn.toList name.toList = false := hl
              clear hl hmo
              go_wp2_with fail
              refine wp_region_on (by kernel_rfl) (by kernel_rfl) ?_
              repeat (go_big_quiet_step (((first | (go_at_call 50; exact On.calls (NV.out _)) | (go_at_call 52; exact On.same (LI.out _))))))
              refine wpQuiet_nil ?_
              intro _ hw'
              obtain ⟨⟨w2, hb2⟩, hw''⟩ := hw'
              subst hw''
              have L2 := L.next hb2
              go_wp2_with fail
              go_ret
              exact ⟨ret_bool Hn.out.symm, L2.now.1⟩
    · obtain rfl : k = n := by omega
      by_cases h12 : k ≤ 12
      · have Hr := Lib.hid (cutsOk_yes (l := cs) (by rw [Hlen.out]; omega) (fun j hj => Hall.out j (by rw [Hlen.out] at hj; omega)))
        have h12' : (k : Int) ≤ 12 := by omega
        go_wp2_with fail
        go_ret
        exact ⟨ret_bool (by rw [Hr.out]), L.now.1⟩
      · have Hr := Lib.hid (cutsOk_len (l := cs) (by rw [Hlen.out]; omega))
        have h12' : ¬ (k : Int) ≤ 12 := by omega
        go_wp2_with fail
        go_ret
        exact ⟨ret_bool (by rw [Hr.out]), L.now.1⟩
end Go.Proofs.YtbcfbkcadceniaaDoor
