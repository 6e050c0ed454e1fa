/- Leaving a group: the reference's. -/
import Derived.Test.YtnfncnpnkmjjeaaGLeave
import Derived.StillTailTactics
namespace Go.Proofs.Ytnfncnpnkmjjeaa
set_option linter.unusedVariables false
set_option linter.unusedSimpArgs false
open Go.RowKit

def hasMs (ms : List ByteArray) (m : ByteArray) : Bool := ms.any fun x => decide (x = m)
theorem hasMs_iff (ms : List ByteArray) (m : ByteArray) : hasMs ms m = true ↔ m ∈ ms := by
  unfold hasMs; rw [List.any_eq_true]; simp
theorem hasMs_yes {ms : List ByteArray} {m : ByteArray} (h : m ∈ ms) : hasMs ms m = true := (hasMs_iff ms m).2 h
theorem hasMs_no {ms : List ByteArray} {m : ByteArray} (h : m ∉ ms) : hasMs ms m = false := by
  cases e : hasMs ms m with
  | false => rfl
  | true => exact absurd ((hasMs_iff ms m).1 e) h
theorem hasMs_leave (ms : List ByteArray) (m : ByteArray) : decide ((leaveMs ms m).length ≠ ms.length) = hasMs ms m := by
  induction ms with
  | nil => rfl
  | cons x l ih =>
    have hle : (leaveMs l m).length ≤ l.length := List.length_filter_le _ l
    by_cases hx : x = m
    · have e1 : leaveMs (x :: l) m = leaveMs l m := by unfold leaveMs; rw [List.filter_cons_of_neg (by simp [hx])]
      rw [e1, hasMs_yes (by rw [hx]; exact List.mem_cons_self), List.length_cons, decide_eq_true (by omega)]
    · have e1 : leaveMs (x :: l) m = x :: leaveMs l m := by unfold leaveMs; rw [List.filter_cons_of_pos (by simp [hx])]
      have e2 : hasMs (x :: l) m = hasMs l m := by unfold hasMs; rw [List.any_cons, decide_eq_false hx, Bool.false_or]
      rw [e1, e2, ← ih, List.length_cons, List.length_cons, decide_eq_decide]
      omega

set_option maxHeartbeats 2000000 in
theorem l33Has_any (st : Int) (A : Option Addr) (n c : Nat) (ms : List ByteArray) (m : ByteArray) (w : World) (h : Strs w w.heap.size A n ms) (hnb : n ≤ 1000000000) :
    Calls Try.prog 14 #[.agg #[.int .i64 st, .slice A n c], .string m] w fun e w' => e = .returned (.bool (hasMs ms m)) ∧ Below w.heap.size w w' := by
  have Hlen := Lib.hid h.len
  go_enter Try.func14, Try.ntmps14
  go_wp2_with fail
  go_loop [5] (fun i => ∃ k : Nat, k ≤ n ∧ i = .int .i64 k ∧ Hid (∀ j, j < k → ms[j]? ≠ some m)) (fun i => n - (intOf i).toNat)
  case atStart => exact ⟨0, Nat.zero_le _, rfl, fun j hj => absurd hj (by omega)⟩
  case round =>
    obtain ⟨k, hk, rfl, Hall⟩ := hrel
    by_cases hlt : k < n
    · obtain ⟨b, off, rfl, hb, hx⟩ := h.at_ (by omega)
      obtain ⟨s, hs⟩ : ∃ s, ms[k]? = some s := ⟨_, nth_get (by rw [Hlen.out]; exact hlt)⟩
      have hc : ∀ o, (w.alloc o).cell? ⟨b, off + k, none⟩ = some (.string s) := fun o => (World.cell?_alloc_lt w o _ hb).trans (hx k s hs)
      have Hs := Lib.hid hs
      clear hs hx h
      by_cases hsm : s = m
      · subst hsm
        have Hr := Lib.hid (show hasMs ms s = true from hasMs_yes (List.mem_of_getElem? Hs.out))
        have e1 : (s.toList == s.toList) = true := beq_self_eq_true _
        go_wp2_with fail
        go_ret
        exact ⟨by rw [Hr.out]; rfl, (Below.refl _ _).alloc (Nat.le_refl _) _⟩
      · have e2 : (s.toList == m.toList) = false := toList_ne hsm
        have Hn := Lib.hid hsm
        clear hsm
        go_wp2_with fail
        go_round
        case rel => exact ⟨k + 1, by omega, by go_num, fun j hj => by
          rcases Nat.lt_succ_iff_lt_or_eq.1 hj with h' | rfl
          · exact Hall.out j h'
          · rw [Hs.out]; exact fun e => Hn.out (Option.some.inj e)⟩
        case measure => simp [intOf]; omega
    · have Hr := Lib.hid (show hasMs ms m = false by
        refine hasMs_no fun hm => ?_
        obtain ⟨j, hj, e⟩ := List.getElem_of_mem hm
        exact Hall.out j (by rw [Hlen.out] at hj; omega) (by rw [List.getElem?_eq_getElem hj, e]))
      clear h
      go_wp2_with fail
      go_ret
      exact ⟨by rw [Hr.out]; rfl, (Below.refl _ _).alloc (Nat.le_refl _) _⟩

end Go.Proofs.Ytnfncnpnkmjjeaa
