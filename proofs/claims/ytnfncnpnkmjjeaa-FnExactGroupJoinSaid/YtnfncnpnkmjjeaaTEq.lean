/- The exact laws' comparison of lists of texts. -/
import Derived.Test.YtnfncnpnkmjjeaaGroup
import Derived.Deep.QuietTactic
namespace Go.Proofs.Ytnfncnpnkmjjeaa
set_option linter.unusedVariables false
set_option linter.unusedSimpArgs false
open Go.RowKit
theorem bdn {B : Nat} {a w : World} (h : Below B a w) (n : Nat) : Below B a (w.drewN n) := ⟨h.os, h.tape, h.output, h.size, h.block⟩
/-- are two lists of texts the same. -/
def eqT (a b : List ByteArray) : Bool := decide (a = b)
theorem eqT_len {a b : List ByteArray} (h : a.length ≠ b.length) : eqT a b = false := decide_eq_false (fun e => h (by rw [e]))
theorem eqT_at {a b : List ByteArray} (k : Nat) (h : a[k]? ≠ b[k]?) : eqT a b = false := decide_eq_false (fun e => h (by rw [e]))
theorem eqT_yes {a b : List ByteArray} (h : a.length = b.length) (h2 : ∀ k, k < a.length → a[k]? = b[k]?) : eqT a b = true := by
  refine decide_eq_true (List.ext_getElem? fun k => ?_)
  by_cases hk : k < a.length
  · exact h2 k hk
  · rw [List.getElem?_eq_none (by omega), List.getElem?_eq_none (by omega)]
theorem eqT_refl (a : List ByteArray) : eqT a a = true := decide_eq_true rfl

set_option maxRecDepth 100000 in
set_option maxHeartbeats 2000000 in
theorem eqStringS_any (A B : Option Addr) (n c m d : Nat) (xs ys : List ByteArray) (w : World) (h : Strs w w.heap.size A n xs) (h' : Strs w w.heap.size B m ys) (hnb : n ≤ 1000000000) (hmb : m ≤ 1000000000) :
    Calls Try.prog 21 #[.slice A n c, .slice B m d] w fun e w' => e = .returned (.bool (eqT xs ys)) ∧ Below w.heap.size w w' := by
  have Hla := Lib.hid h.len
  have Hlb := Lib.hid h'.len
  by_cases hnm : n = m
  · subst hnm
    have e0 : (((n : Nat) : Int) != ((n : Nat) : Int)) = false := by simp
    go_enter Try.func21, Try.ntmps21
    go_wp2_with fail
    go_loopw [5] (fun i wr => ∃ k : Nat, k ≤ n ∧ i = .int .i64 k ∧ Below w.heap.size w wr ∧ Hid (∀ j, j < k → xs[j]? = ys[j]?)) (fun i _ => n - (intOf i).toNat)
    case atStart => exact ⟨0, Nat.zero_le _, rfl, Below.refl _ _, fun j hj => absurd hj (by omega)⟩
    case round =>
      obtain ⟨k, hk, rfl, hnx, Hall⟩ := hrel
      have Hnx := Lib.hid hnx
      by_cases hlt : k < n
      · obtain ⟨b, off, rfl, hb, hx⟩ := h.at_ (by omega)
        obtain ⟨b', off', rfl, hb', hx'⟩ := h'.at_ (by omega)
        obtain ⟨s, hs⟩ : ∃ s, xs[k]? = some s := ⟨_, nth_get (by rw [Hla.out]; exact hlt)⟩
        obtain ⟨t, ht⟩ : ∃ t, ys[k]? = some t := ⟨_, nth_get (by rw [Hlb.out]; exact hlt)⟩
        have hc := (hnx.cell (p := ⟨b, off + k, none⟩) hb).trans (hx k s hs)
        have hc' := (hnx.cell (p := ⟨b', off' + k, none⟩) hb').trans (hx' k t ht)
        have Hs := Lib.hid hs
        have Ht := Lib.hid ht
        clear hs ht hx hx' h h' hnx
        by_cases hst : s = t
        · subst hst
          have e1 : (s.toList == s.toList) = true := beq_self_eq_true _
          go_wp2_with fail
          go_quiet (fail)
          go_wp2_with fail
          go_roundw
          case rel => exact ⟨k + 1, by omega, by go_num, bdn Hnx.out _, fun j hj => by
            rcases Nat.lt_succ_iff_lt_or_eq.1 hj with h' | rfl
            · exact Hall.out j h'
            · rw [Hs.out, Ht.out]⟩
          case measure => simp [intOf]; omega
        · have e1 : (s.toList == t.toList) = false := toList_ne hst
          have Hr := Lib.hid (eqT_at (a := xs) (b := ys) k (by rw [Hs.out, Ht.out]; exact fun e => hst (Option.some.inj e)))
          clear hst
          go_wp2_with fail
          go_quiet (fail)
          go_wp2_with fail
          go_ret
          exact ⟨ret_bool Hr.out.symm, bdn Hnx.out _⟩
      · have Hr := Lib.hid (eqT_yes (a := xs) (b := ys) (by rw [Hla.out, Hlb.out]) (fun j hj => Hall.out j (by rw [Hla.out] at hj; omega)))
        clear h h' hnx
        go_wp2_with fail
        go_ret
        exact ⟨ret_bool Hr.out.symm, Hnx.out⟩
  · have e0 : (((n : Nat) : Int) != ((m : Nat) : Int)) = true := by simp [bne, beq_eq_false_iff_ne]; omega
    have Hr := Lib.hid (eqT_len (a := xs) (b := ys) (by rw [Hla.out, Hlb.out]; exact hnm))
    clear hnm h h'
    go_enter Try.func21, Try.ntmps21
    go_wp2_with fail
    go_ret
    exact ⟨ret_bool Hr.out.symm, Below.refl _ _⟩

end Go.Proofs.Ytnfncnpnkmjjeaa
