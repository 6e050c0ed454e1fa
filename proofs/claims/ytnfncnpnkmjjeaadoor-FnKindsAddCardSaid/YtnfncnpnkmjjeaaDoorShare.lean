/- The stripes of a member: the program's. -/
import Derived.Test.YtnfncnpnkmjjeaaDoorGroup
import Derived.Test.YtnfncnpnkmjjeaaDoorOwn
import Derived.Deep.RegionHeld3
import Derived.Deep.DeepMust
namespace Go.Proofs.YtnfncnpnkmjjeaaDoor
set_option linter.unusedVariables false
set_option linter.unusedSimpArgs false
open Go.RowKit

theorem elemInt : Elem Tryd.prog 38 3 (.int .i64 0) 1 8 := ⟨Tryd.underlying38, by kernel_rfl, rfl, by decide, by decide⟩
def ownerOf (ms : List ByteArray) (k : Nat) : ByteArray := nth ms (k % ms.length)

set_option maxHeartbeats 2000000 in
theorem owner_any (st : Int) (A : Option Addr) (n c : Nat) (ms : List ByteArray) (k : Nat) (w : World) (h : Strs w w.heap.size A n ms) (hn0 : 0 < n) (hn : n ≤ 1000000) (hk : k ≤ 1000000) :
    Calls Tryd.prog 30 #[.agg #[.int .i64 st, .slice A n c], .int .i64 k] w fun e w' => e = .returned (.string (ownerOf ms k)) ∧ Below w.heap.size w w' := by
  have hl := h.len
  obtain ⟨b, off, rfl, hb, hx⟩ := h.at_ hn0
  have hkn : k % n < n := Nat.mod_lt _ hn0
  obtain ⟨s, hs⟩ : ∃ s, ms[k % n]? = some s := ⟨_, nth_get (by rw [hl]; exact hkn)⟩
  have Hs := Lib.hid (show ownerOf ms k = s by unfold ownerOf; rw [hl]; exact nth_of hs)
  have hc := hx _ s hs
  have hm : (k : Int).tmod (n : Int) = ((k % n : Nat) : Int) := by rw [Int.tmod_eq_emod_of_nonneg (by omega)]; rfl
  have hm2 : (k : Int) % (n : Int) = ((k % n : Nat) : Int) := rfl
  obtain ⟨q, hq⟩ : ∃ q, k % n = q := ⟨_, rfl⟩
  rw [hq] at hm hm2 hc hkn
  have hqn : (q : Int) < (n : Int) := by omega
  have hcb := (World.cell?_alloc_lt w (.cells #[.int .i64 st, .slice (some ⟨b, off, none⟩) n c] 61) hb (a := ⟨b, off + q, none⟩)).trans hc
  have hn1 : ((n : Int) == 0) = false := beq_eq_false_iff_ne.2 (by omega)
  have hn2 : ¬ (n : Int) = 0 := by omega
  clear hx hs h hl hq
  go_enter Tryd.func30, Tryd.ntmps30
  go_wp2_with fail
  go_quiet (fail)
  go_wp2_with fail
  go_ret
  exact ⟨by rw [Hs.out]; rfl, below_drew_n ((Below.refl _ _).alloc (Nat.le_refl _) _) _⟩

/-- the stripes below i whose owner is m. -/
def shareL (ms : List ByteArray) (m : ByteArray) (i : Nat) : List Nat := (List.range i).filter fun j => decide (ownerOf ms j = m)
def intCells (k : Nat) : List Value := [.int .i64 k]
theorem intCells_len (k : Nat) : (intCells k).length = 1 := rfl
theorem shareL_succ (ms : List ByteArray) (m : ByteArray) (i : Nat) : shareL ms m (i + 1) = shareL ms m i ++ (if ownerOf ms i = m then [i] else []) := by
  unfold shareL
  rw [List.range_succ, List.filter_append]
  by_cases h : ownerOf ms i = m <;> simp [h]
theorem shareL_len (ms : List ByteArray) (m : ByteArray) (i : Nat) : (shareL ms m i).length ≤ i := by
  unfold shareL; exact Nat.le_trans (List.length_filter_le _ _) (by simp)
def IntsRet (l : List Nat) (w : World) (e : Ending) (w' : World) : Prop :=
  ∃ (A : Option Addr) (n c : Nat), e = .returned (.slice A n c) ∧ Row intCells 1 w' w'.heap.size A n l ∧ n ≤ c ∧ Below w.heap.size w w'
theorem ints_ret {w w' : World} {v : Value} {base n : Nat} {l : List Nat} (hl : l.length = n) (h : w'.ownsRow base 3 1 v n (l.flatMap intCells)) (hb : Below w.heap.size w w') : IntsRet l w (.returned v) w' := by
  obtain ⟨A, c, rfl, h1, _, h3, _⟩ := Row.of_own h hl
  exact ⟨A, n, c, rfl, h3, h1, hb⟩

theorem lit_own {w : World} {g base : Nat} {T : TypeId} (hg : g = w.heap.size) (hb : base ≤ w.heap.size) : (w.alloc (.cells #[] T)).ownsRow base T 1 (.slice (some ⟨g, 0, none⟩) 0 0) 0 [] := by
  subst hg
  exact World.ownsRow_lit w #[] 0 hb (Nat.zero_le _) rfl
theorem groupOk_st' {st : Int} {ms : List ByteArray} (h : groupOk st ms = true) : (1 ≤ st ∧ st ≤ 8) ∧ (1 ≤ ms.length ∧ ms.length ≤ 6) := by
  unfold groupOk at h
  rw [Bool.and_eq_true, Bool.and_eq_true, decide_eq_true_eq, decide_eq_true_eq] at h
  exact h.1
theorem teamOf_any (st : Int) (A : Option Addr) (n c : Nat) (w : World) :
    Calls Tryd.prog 29 #[.agg #[.int .i64 st, .slice A n c]] w fun e w' => e = .returned (.agg #[.int .i64 st, .slice A n c]) ∧ Below w.heap.size w w' := by
  go_enter Tryd.func29, Tryd.ntmps29
  go_wp2_with fail
  exact bodyPost_ret (v := .agg #[.int .i64 st, .slice A n c]) (by simp [results, Tryd.results29, go_sem]) rfl ⟨rfl, ((Below.refl _ _).alloc (Nat.le_refl _) _).alloc (by simp) _⟩
end Go.Proofs.YtnfncnpnkmjjeaaDoor
