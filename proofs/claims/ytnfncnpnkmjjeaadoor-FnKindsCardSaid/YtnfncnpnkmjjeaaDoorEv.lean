/- An event's validity and an entry's: the program's and the reference's. -/
import Derived.Test.YtnfncnpnkmjjeaaDoorWord
import Derived.Test.YtnfncnpnkmjjeaaDoorNamesI
import Derived.Test.YtnfncnpnkmjjeaaDoorNamesT
import Derived.Test.YtnfncnpnkmjjeaaDoorStreams
namespace Go.Proofs.YtnfncnpnkmjjeaaDoor
set_option linter.unusedVariables false
set_option linter.unusedSimpArgs false
open Go.RowKit

theorem evOk_and {e : Ev} {a b c : Bool} (ha : decide (1 ≤ e.id ∧ e.id ≤ 9999) = a) (hb : wordOk e.kind.data.toList = b) (hc : decide (0 ≤ e.data ∧ e.data ≤ 999) = c) : evOk e = (a && b && c) := by unfold evOk; rw [ha, hb, hc]
theorem evOk_id {e : Ev} (h : ¬ (1 ≤ e.id ∧ e.id ≤ 9999)) : evOk e = false := by unfold evOk; rw [decide_eq_false h]; rfl
theorem evOk_kind {e : Ev} (h : wordOk e.kind.data.toList = false) : evOk e = false := by unfold evOk; rw [h]; simp
theorem evOk_data {e : Ev} (h : ¬ (0 ≤ e.data ∧ e.data ≤ 999)) : evOk e = false := by unfold evOk; rw [decide_eq_false h]; simp
theorem evOk_yes {e : Ev} (h1 : 1 ≤ e.id ∧ e.id ≤ 9999) (h2 : wordOk e.kind.data.toList = true) (h3 : 0 ≤ e.data ∧ e.data ≤ 999) : evOk e = true := by unfold evOk; rw [decide_eq_true h1, decide_eq_true h3, h2]; rfl

set_option maxHeartbeats 2000000 in
theorem evValid_any (id : Int) (kind : ByteArray) (data : Int) (w : World) (hs : kind.size ≤ maxLen) :
    Calls Tryd.prog 65 #[.agg #[.int .i64 id, .string kind, .int .i64 data]] w fun r w' => r = .returned (.bool (evOk ⟨id, kind, data⟩)) ∧ Below w.heap.size w w' := by
  by_cases h1 : 1 ≤ id
  · by_cases h2 : id ≤ 9999
    · cases hw : wordOk kind.data.toList with
      | false =>
        have Hr := Lib.hid (evOk_kind (e := ⟨id, kind, data⟩) hw)
        go_enter Tryd.func65, Tryd.ntmps65
        go_wp2_with (go_at_call 41; refine (wordValid_any _ _ hs).mono ?_; rw [hw]; rintro e w' ⟨rfl, rfl⟩)
        go_ret
        exact ⟨ret_bool Hr.out.symm, (Below.refl _ _).alloc (Nat.le_refl _) _⟩
      | true =>
        by_cases h3 : 0 ≤ data
        · by_cases h4 : data ≤ 999
          · have Hr := Lib.hid (evOk_yes (e := ⟨id, kind, data⟩) ⟨h1, h2⟩ hw ⟨h3, h4⟩)
            go_enter Tryd.func65, Tryd.ntmps65
            go_wp2_with (go_at_call 41; refine (wordValid_any _ _ hs).mono ?_; rw [hw]; rintro e w' ⟨rfl, rfl⟩)
            go_ret
            exact ⟨ret_bool Hr.out.symm, (Below.refl _ _).alloc (Nat.le_refl _) _⟩
          · have Hr := Lib.hid (evOk_data (e := ⟨id, kind, data⟩) (fun h => h4 h.2))
            go_enter Tryd.func65, Tryd.ntmps65
            go_wp2_with (go_at_call 41; refine (wordValid_any _ _ hs).mono ?_; rw [hw]; rintro e w' ⟨rfl, rfl⟩)
            go_ret
            exact ⟨ret_bool (by rw [Hr.out]; exact decide_eq_false (by omega)), (Below.refl _ _).alloc (Nat.le_refl _) _⟩
        · have Hr := Lib.hid (evOk_data (e := ⟨id, kind, data⟩) (fun h => h3 h.1))
          go_enter Tryd.func65, Tryd.ntmps65
          go_wp2_with (go_at_call 41; refine (wordValid_any _ _ hs).mono ?_; rw [hw]; rintro e w' ⟨rfl, rfl⟩)
          go_ret
          exact ⟨ret_bool Hr.out.symm, (Below.refl _ _).alloc (Nat.le_refl _) _⟩
    · have Hr := Lib.hid (evOk_id (e := ⟨id, kind, data⟩) (fun h => h2 h.2))
      go_enter Tryd.func65, Tryd.ntmps65
      go_wp2_with fail
      go_ret
      exact ⟨ret_bool Hr.out.symm, (Below.refl _ _).alloc (Nat.le_refl _) _⟩
  · have Hr := Lib.hid (evOk_id (e := ⟨id, kind, data⟩) (fun h => h1 h.1))
    go_enter Tryd.func65, Tryd.ntmps65
    go_wp2_with fail
    go_ret
    exact ⟨ret_bool Hr.out.symm, (Below.refl _ _).alloc (Nat.le_refl _) _⟩

set_option maxHeartbeats 1000000 in
theorem evValidS_any (id : Int) (kind : ByteArray) (data : Int) (w : World) (hs : kind.size ≤ maxLen) :
    Calls Tryd.prog 40 #[.agg #[.int .i64 id, .string kind, .int .i64 data]] w fun r w' => r = .returned (.bool (evOk ⟨id, kind, data⟩)) ∧ Below w.heap.size w w' := by
  have e1 : (decide (1 ≤ id) && decide (id ≤ 9999)) = decide (1 ≤ id ∧ id ≤ 9999) := by simp
  have e2 : (decide (0 ≤ data) && decide (data ≤ 999)) = decide (0 ≤ data ∧ data ≤ 999) := by simp
  cases h1 : decide (1 ≤ id ∧ id ≤ 9999) with
  | false =>
    have L1 := fun W => l6In_any id 1 9999 W
    rw [e1, h1] at L1
    have Hr := Lib.hid (evOk_id (e := ⟨id, kind, data⟩) (of_decide_eq_false h1))
    have HL1 := Lib.hid L1
    clear L1 e1 e2 h1
    go_enter Tryd.func40, Tryd.ntmps40
    go_wp2_with (go_at_call 46; refine (HL1.out _).mono ?_; rintro e w' ⟨rfl, rfl⟩)
    go_ret
    exact ⟨ret_bool Hr.out.symm, (Below.refl _ _).alloc (Nat.le_refl _) _⟩
  | true =>
    have L1 := fun W => l6In_any id 1 9999 W
    rw [e1, h1] at L1
    cases hw : wordOk kind.data.toList with
    | false =>
      have Hr := Lib.hid (evOk_kind (e := ⟨id, kind, data⟩) hw)
      have HL1 := Lib.hid L1
      clear L1 e1 e2 h1
      go_enter Tryd.func40, Tryd.ntmps40
      go_wp2_with (first
        | (go_at_call 46; refine (HL1.out _).mono ?_; rintro e w' ⟨rfl, rfl⟩)
        | (go_at_call 45; refine (l1Word_any _ _ hs).mono ?_; rw [hw]; rintro e w' ⟨rfl, rfl⟩))
      go_ret
      exact ⟨ret_bool Hr.out.symm, (Below.refl _ _).alloc (Nat.le_refl _) _⟩
    | true =>
      have L2 := fun W => l6In_any data 0 999 W
      rw [e2] at L2
      have Hr := Lib.hid (evOk_and (e := ⟨id, kind, data⟩) h1 hw rfl)
      have HL1 := Lib.hid L1
      have HL2 := Lib.hid L2
      clear L1 L2 e1 e2 h1
      go_enter Tryd.func40, Tryd.ntmps40
      go_wp2_with (first
        | (go_at_call 46; (with_reducible refine (HL1.out _).mono ?_); rintro e w' ⟨rfl, rfl⟩)
        | (go_at_call 46; (with_reducible refine (HL2.out _).mono ?_); rintro e w' ⟨rfl, rfl⟩)
        | (go_at_call 45; refine (l1Word_any _ _ hs).mono ?_; rw [hw]; rintro e w' ⟨rfl, rfl⟩))
      go_ret
      exact ⟨ret_bool (by rw [Hr.out]; simp), (Below.refl _ _).alloc (Nat.le_refl _) _⟩

set_option maxHeartbeats 1000000 in
theorem enValid_any (name : ByteArray) (id : Int) (kind : ByteArray) (data : Int) (w : World) (hn : name.size ≤ maxLen) (hs : kind.size ≤ maxLen) (hg : GE w) :
    Calls Tryd.prog 54 #[.agg #[.string name, .int .i64 id, .string kind, .int .i64 data]] w fun r w' => r = .returned (.bool (enOk ⟨name, ⟨id, kind, data⟩⟩)) ∧ Below w.heap.size w w' := by
  have hg1 : GE (w.alloc (.cells #[.string name, .int .i64 id, .string kind, .int .i64 data] 44)) := hg.below ((Below.refl _ _).alloc (Nat.le_refl _) _)
  have Hg := Lib.hid hg1
  cases hw : nameOk name.data.toList with
  | false =>
    have Hr := Lib.hid (show enOk ⟨name, ⟨id, kind, data⟩⟩ = false by unfold enOk; rw [hw]; rfl)
    go_enter Tryd.func54, Tryd.ntmps54
    go_wp2_with (go_at_call 28; refine (nameValid_any _ _ hn Hg.out).mono ?_; rw [hw]; rintro e w1 ⟨rfl, hb1⟩; obtain ⟨B0, hw1, hz1⟩ := boxes1 hb1)
    go_ret
    exact ⟨ret_bool Hr.out.symm, hw1⟩
  | true =>
    have Hr := Lib.hid (show enOk ⟨name, ⟨id, kind, data⟩⟩ = evOk ⟨id, kind, data⟩ by unfold enOk; rw [hw]; rfl)
    go_enter Tryd.func54, Tryd.ntmps54
    go_wp2_with (first
      | (go_at_call 28; refine (nameValid_any _ _ hn Hg.out).mono ?_; rw [hw]; rintro e w1 ⟨rfl, hb1⟩; obtain ⟨B0, hw1, hz1⟩ := boxes1 hb1; have j0 := B0.cell 0; have j1 := B0.cell 1; have j2 := B0.cell 2; have j3 := B0.cell 3)
      | (go_at_call 65; refine (evValid_any _ _ _ _ hs).mono ?_; rintro e w2 ⟨rfl, hb2⟩))
    go_ret
    exact ⟨ret_bool Hr.out.symm, hw1.trans (hb2.mono (by omega))⟩
end Go.Proofs.YtnfncnpnkmjjeaaDoor
