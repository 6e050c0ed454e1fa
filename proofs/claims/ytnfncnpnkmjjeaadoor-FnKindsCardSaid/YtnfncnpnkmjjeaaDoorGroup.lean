/- Valid groups: the program's test and the reference's. -/
import Derived.Test.YtnfncnpnkmjjeaaDoorWord
import Derived.Test.YtnfncnpnkmjjeaaDoorSl
import Derived.Deep.QuietTactic
import Derived.BigQuiet
namespace Go.Proofs.YtnfncnpnkmjjeaaDoor
set_option linter.unusedVariables false
set_option linter.unusedSimpArgs false
open Go.RowKit

def nth (ms : List ByteArray) (k : Nat) : ByteArray := (ms[k]?).getD ByteArray.empty
theorem nth_of {ms : List ByteArray} {k : Nat} {s : ByteArray} (h : ms[k]? = some s) : nth ms k = s := by unfold nth; rw [h]; rfl
theorem nth_get {ms : List ByteArray} {k : Nat} (h : k < ms.length) : ms[k]? = some (nth ms k) := by
  unfold nth; rw [List.getElem?_eq_getElem h]; rfl
/-- a member is a word, and behind the one ahead of it. -/
def memberOk (ms : List ByteArray) (k : Nat) : Bool := wordOk (nth ms k).data.toList && (decide (k = 0) || ltB (nth ms (k - 1)) (nth ms k))
def groupOk (st : Int) (ms : List ByteArray) : Bool := decide (1 ≤ st ∧ st ≤ 8) && decide (1 ≤ ms.length ∧ ms.length ≤ 6) && allB ms.length (memberOk ms)
theorem groupOk_st {st : Int} {ms : List ByteArray} (h : ¬ (1 ≤ st ∧ st ≤ 8)) : groupOk st ms = false := by unfold groupOk; rw [decide_eq_false h]; rfl
theorem groupOk_len {st : Int} {ms : List ByteArray} (h : ¬ (1 ≤ ms.length ∧ ms.length ≤ 6)) : groupOk st ms = false := by unfold groupOk; rw [decide_eq_false h]; simp
theorem groupOk_at {st : Int} {ms : List ByteArray} (k : Nat) (h : k < ms.length) (hk : memberOk ms k = false) : groupOk st ms = false := by unfold groupOk; rw [allB_no k h hk]; simp
theorem groupOk_yes {st : Int} {ms : List ByteArray} (h1 : 1 ≤ st ∧ st ≤ 8) (h2 : 1 ≤ ms.length ∧ ms.length ≤ 6) (h3 : ∀ k, k < ms.length → memberOk ms k = true) : groupOk st ms = true := by
  unfold groupOk; rw [decide_eq_true h1, decide_eq_true h2, allB_yes h3]; rfl

theorem stripesValidP_any (n : Int) (w : World) :
    Calls Tryd.prog 48 #[.int .i64 n] w fun e w' => e = .returned (.bool (decide (1 ≤ n) && decide (n ≤ 8))) ∧ w = w' := by
  by_cases h1 : 1 ≤ n <;> by_cases h2 : n ≤ 8
  all_goals
    go_enter Tryd.func48, Tryd.ntmps48
    go_wp2
    go_ret
    exact ⟨ret_bool (by simp [h1, h2]), rfl⟩

def AllSmall (ms : List ByteArray) : Prop := ∀ m ∈ ms, m.size ≤ maxLen
theorem AllSmall.at_ {ms : List ByteArray} (h : AllSmall ms) {k : Nat} {s : ByteArray} (hk : ms[k]? = some s) : s.size ≤ maxLen := h s (List.mem_of_getElem? hk)

set_option maxHeartbeats 2000000 in
theorem groupValid_any (st : Int) (A : Option Addr) (n c : Nat) (ms : List ByteArray) (w : World) (h : Strs w w.heap.size A n ms) (hsm : AllSmall ms) (hnb : n ≤ 1000000000) :
    Calls Tryd.prog 27 #[.agg #[.int .i64 st, .slice A n c]] w fun e w' => e = .returned (.bool (groupOk st ms)) ∧ Below w.heap.size w w' := by
  have hlen := h.len
  by_cases h1 : 1 ≤ st ∧ st ≤ 8
  · obtain ⟨h1, h1'⟩ := h1
    have d1 : (decide (1 ≤ st) && decide (st ≤ 8)) = true := by rw [decide_eq_true h1, decide_eq_true h1']; rfl
    by_cases h2 : 1 ≤ n ∧ n ≤ 6
    · obtain ⟨h2, h2'⟩ := h2
      obtain ⟨b, off, rfl, hb, hx⟩ := h.at_ (by omega)
      have Hx := Lib.hid hx
      have Hlen := Lib.hid hlen
      clear hx h hlen
      go_enter Tryd.func27, Tryd.ntmps27
      go_wp2_with (go_at_call 48; refine (stripesValidP_any _ _).mono ?_; rintro e w' ⟨rfl, rfl⟩)
      go_loop [24] (fun i => ∃ k : Nat, k ≤ n ∧ i = .int .i64 k ∧ Hid (∀ j, j < k → memberOk ms j = true)) (fun i => n - (intOf i).toNat)
      case atStart => exact ⟨0, Nat.zero_le _, rfl, fun j hj => absurd hj (by omega)⟩
      case round =>
        obtain ⟨k, hk, rfl, Hall⟩ := hrel
        by_cases hlt : k < n
        · obtain ⟨s, hs⟩ : ∃ s, ms[k]? = some s := ⟨_, nth_get (by rw [Hlen.out]; exact hlt)⟩
          have hc : ∀ o, (w.alloc o).cell? ⟨b, off + k, none⟩ = some (.string s) := fun o => (World.cell?_alloc_lt w o _ hb).trans (Hx.out k s hs)
          have Hs := Lib.hid hs
          have hsz := hsm.at_ hs
          clear hs
          cases hw : wordOk s.data.toList with
          | false =>
            have Hn := Lib.hid (groupOk_at (st := st) (ms := ms) k (by rw [Hlen.out]; exact hlt) (by unfold memberOk; rw [nth_of Hs.out, hw]; rfl))
            go_wp2_with (go_at_call 41; refine (wordValid_any _ _ hsz).mono ?_; rintro e w' ⟨rfl, rfl⟩)
            go_ret
            exact ⟨ret_bool Hn.out.symm, (Below.refl _ _).alloc (Nat.le_refl _) _⟩
          | true =>
            by_cases hk0 : k = 0
            · subst hk0
              have hc0 : ∀ o, (w.alloc o).cell? ⟨b, off, none⟩ = some (.string s) := hc
              have Hm := Lib.hid (show memberOk ms 0 = true by unfold memberOk; rw [nth_of Hs.out, hw]; rfl)
              go_wp2_with (go_at_call 41; refine (wordValid_any _ _ hsz).mono ?_; rintro e w' ⟨rfl, rfl⟩)
              go_round
              case rel => exact ⟨1, by omega, by go_num, fun j hj => by rw [show j = 0 by omega]; exact Hm.out⟩
              case measure => simp [intOf]; omega
            · obtain ⟨m, rfl⟩ : ∃ m, k = m + 1 := ⟨k - 1, by omega⟩
              obtain ⟨t, ht⟩ : ∃ t, ms[m]? = some t := ⟨_, nth_get (by rw [Hlen.out]; omega)⟩
              have hc2 : ∀ o, (w.alloc o).cell? ⟨b, off + m, none⟩ = some (.string t) := fun o => (World.cell?_alloc_lt w o _ hb).trans (Hx.out m t ht)
              have Ht := Lib.hid ht
              clear ht hk0
              have hmo : memberOk ms (m + 1) = ltB t s := by
                unfold memberOk
                rw [nth_of Hs.out, Nat.add_sub_cancel, nth_of Ht.out, hw, decide_eq_false (by omega)]
                simp
              have Hmo := Lib.hid hmo
              clear hmo
              cases hl : ltB t s with
              | true =>
                have hne := Lib.hid (ltB_ne hl)
                have e1 : Op.bytesLess s.toList t.toList = false := ltB_asymm hl
                have e2 : (s.toList == t.toList) = false := toList_ne (fun e => hne.out e.symm)
                rw [hl] at Hmo
                clear hl
                go_wp2_with (go_at_call 41; refine (wordValid_any _ _ hsz).mono ?_; rintro e w' ⟨rfl, rfl⟩)
                go_round
                case rel => exact ⟨m + 1 + 1, by omega, by go_num, fun j hj => by
                  rcases Nat.lt_succ_iff_lt_or_eq.1 hj with h' | rfl
                  · exact Hall.out j h'
                  · exact Hmo.out⟩
                case measure => simp [intOf]; omega
              | false =>
                rw [hl] at Hmo
                have Hn := Lib.hid (groupOk_at (st := st) (ms := ms) (m + 1) (by rw [Hlen.out]; exact hlt) Hmo.out)
                have hle : Op.bytesLess s.toList t.toList = true ∨ s = t := by
                  rcases ltB_tri s t with h | h | h
                  · exact .inl h
                  · exact .inr h
                  · rw [hl] at h; cases h
                clear hl
                rcases hle with e1 | rfl
                all_goals
                  go_wp2_with (go_at_call 41; refine (wordValid_any _ _ hsz).mono ?_; rintro e w' ⟨rfl, rfl⟩)
                  go_ret
                  exact ⟨ret_bool Hn.out.symm, (Below.refl _ _).alloc (Nat.le_refl _) _⟩
        · have Hn := Lib.hid (groupOk_yes (st := st) (ms := ms) ⟨h1, h1'⟩ (by rw [Hlen.out]; omega) (fun j hj => Hall.out j (by rw [Hlen.out] at hj; omega)))
          go_wp2_with fail
          go_ret
          exact ⟨ret_bool Hn.out.symm, (Below.refl _ _).alloc (Nat.le_refl _) _⟩
    · have Hn := Lib.hid (groupOk_len (st := st) (ms := ms) (by omega))
      have h2a : (n : Int) < 1 ∨ 6 < (n : Int) := by omega
      clear h h2 hlen
      rcases h2a with h2 | h2
      all_goals
        go_enter Tryd.func27, Tryd.ntmps27
        go_wp2_with (go_at_call 48; refine (stripesValidP_any _ _).mono ?_; rintro e w' ⟨rfl, rfl⟩)
        go_ret
        exact ⟨ret_bool Hn.out.symm, (Below.refl _ _).alloc (Nat.le_refl _) _⟩
  · have Hn := Lib.hid (groupOk_st (ms := ms) h1)
    have d1 : (decide (1 ≤ st) && decide (st ≤ 8)) = false := by rw [Bool.and_eq_false_iff, decide_eq_false_iff_not, decide_eq_false_iff_not]; omega
    clear h h1 hlen
    go_enter Tryd.func27, Tryd.ntmps27
    go_wp2_with (go_at_call 48; refine (stripesValidP_any _ _).mono ?_; rintro e w' ⟨rfl, rfl⟩)
    go_ret
    exact ⟨ret_bool Hn.out.symm, (Below.refl _ _).alloc (Nat.le_refl _) _⟩
end Go.Proofs.YtnfncnpnkmjjeaaDoor
