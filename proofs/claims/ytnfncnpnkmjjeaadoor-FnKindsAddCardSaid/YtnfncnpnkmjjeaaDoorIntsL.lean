/- The laws' comparison of numbers, and whether one is among them. -/
import Derived.Test.YtnfncnpnkmjjeaaDoorShare
import Derived.Test.YtnfncnpnkmjjeaaDoorLive
import Derived.Test.YtnfncnpnkmjjeaaDoorOnQ
import Derived.Test.YtnfncnpnkmjjeaaDoorPStore
namespace Go.Proofs.YtnfncnpnkmjjeaaDoor
set_option linter.unusedVariables false
set_option linter.unusedSimpArgs false
open Go.RowKit

theorem Row.int_at {w : World} {B n : Nat} {A : Option Addr} {l : List Nat} (h : Row intCells 1 w B A n l) (hn : 0 < n) : ∃ b off, A = some ⟨b, off, none⟩ ∧ b < B ∧ ∀ (k x : Nat), l[k]? = some x → w.cell? ⟨b, off + k, none⟩ = some (.int .i64 (x : Int)) := by
  obtain ⟨b, off, e, hb, hx⟩ := h.at_ intCells_len hn
  refine ⟨b, off, e, hb, fun k x hk => ?_⟩
  have := hx k x hk 0 _ rfl
  rw [Nat.mul_one, Nat.add_zero] at this
  exact this
set_option maxRecDepth 100000 in
set_option maxHeartbeats 4000000 in
theorem sameNums_self (A B : Option Addr) (n c d : Nat) (l : List Nat) (w : World) (h : Row intCells 1 w w.heap.size A n l) (h' : Row intCells 1 w w.heap.size B n l) (hnb : n ≤ 1000000) :
    Calls Tryd.prog 57 #[.slice A n c, .slice B n d] w fun e w' => e = .returned (.bool true) ∧ Below w.heap.size w w' := by
  have Hl := Lib.hid h.1
  have L0 := ((Live.since (Below.refl w.heap.size w)).and (Live.row h)).and (Live.row h')
  have e0 : (((n : Nat) : Int) != ((n : Nat) : Int)) = false := by simp
  clear h h'
  go_enter Tryd.func57, Tryd.ntmps57
  go_wp2_with fail
  go_loopw [5] (fun i wr => ∃ k : Nat, k ≤ n ∧ i = .int .i64 (k : Int) ∧ Live wr fun W => (Below w.heap.size w W ∧ Row intCells 1 W W.heap.size A n l) ∧ Row intCells 1 W W.heap.size B n l) (fun i _ => n - (intOf i).toNat)
  case atStart => exact ⟨0, Nat.zero_le _, rfl, L0⟩
  case round =>
    obtain ⟨k, hk, rfl, L⟩ := hrel
    by_cases hlt : k < n
    · have hlt' : (k : Int) < (n : Int) := by omega
      obtain ⟨b, off, rfl, hb, hx⟩ := L.now.1.2.int_at (by omega)
      obtain ⟨b', off', rfl, hb', hx'⟩ := L.now.2.int_at (by omega)
      obtain ⟨x, hxx⟩ : ∃ x, l[k]? = some x := ⟨_, List.getElem?_eq_getElem (by rw [Hl.out]; exact hlt)⟩
      have c0 := fun (y : On wr) => (show y.W.cell? ⟨b, off + k, none⟩ = some (.int .i64 (x : Int)) from (y.below.cell (p := ⟨b, off + k, none⟩) hb).trans (hx k x hxx))
      have d0 := fun (y : On wr) => (show y.W.cell? ⟨b', off' + k, none⟩ = some (.int .i64 (x : Int)) from (y.below.cell (p := ⟨b', off' + k, none⟩) hb').trans (hx' k x hxx))
      have hi : ((x : Int) == (x : Int)) = true := beq_self_eq_true _
      clear hx hx' hxx
      go_wp2_with fail
      refine wp_region_on (by kernel_rfl) (by kernel_rfl) ?_
      repeat (go_big_quiet_step (fail))
      refine wpQuiet_nil ?_
      intro w4 hw'
      obtain ⟨⟨w4b, hb4⟩, hw''⟩ := hw'
      obtain rfl : w4 = w4b := hw''
      go_wp2_with fail
      go_roundw
      case rel => exact ⟨k + 1, by omega, by go_num, L.next hb4⟩
      case measure => simp [intOf]; omega
    · have hlt' : ¬ (k : Int) < (n : Int) := by omega
      go_wp2_with fail
      go_ret
      exact ⟨rfl, L.now.1.1⟩
set_option maxRecDepth 100000 in
set_option maxHeartbeats 4000000 in
theorem hasInt_yes (A : Option Addr) (n c : Nat) (l : List Nat) (x : Nat) (w : World) (h : Row intCells 1 w w.heap.size A n l) (hnb : n ≤ 1000000) (hx : x ∈ l) :
    Calls Tryd.prog 19 #[.slice A n c, .int .i64 (x : Int)] w fun e w' => e = .returned (.bool true) ∧ Below w.heap.size w w' := by
  have Hl := Lib.hid h.1
  have L0 := (Live.since (Below.refl w.heap.size w)).and (Live.row h)
  have Hx := Lib.hid hx
  clear h hx
  go_enter Tryd.func19, Tryd.ntmps19
  go_wp2_with fail
  go_loopw [5] (fun i wr => ∃ k : Nat, k ≤ n ∧ i = .int .i64 (k : Int) ∧ (Live wr fun W => Below w.heap.size w W ∧ Row intCells 1 W W.heap.size A n l) ∧ Hid (∀ j : Nat, j < k → l[j]? ≠ some x)) (fun i _ => n - (intOf i).toNat)
  case atStart => exact ⟨0, Nat.zero_le _, rfl, L0, Lib.hid (fun j hj => absurd hj (by omega))⟩
  case round =>
    obtain ⟨k, hk, rfl, L, Hn⟩ := hrel
    by_cases hlt : k < n
    · have hlt' : (k : Int) < (n : Int) := by omega
      obtain ⟨b, off, rfl, hb, hx⟩ := L.now.2.int_at (by omega)
      obtain ⟨y, hy⟩ : ∃ y, l[k]? = some y := ⟨_, List.getElem?_eq_getElem (by rw [Hl.out]; exact hlt)⟩
      have c0 := hx k y hy
      have Hy := Lib.hid hy
      clear hx hy
      by_cases he : y = x
      · have e1 : ((y : Int) == (x : Int)) = true := by rw [he]; exact beq_self_eq_true _
        clear he
        go_wp2_with fail
        go_ret
        exact ⟨rfl, L.now.1⟩
      · have e1 : ((y : Int) == (x : Int)) = false := beq_eq_false_iff_ne.2 (by omega)
        have Hne := Lib.hid he
        clear he
        go_wp2_with fail
        go_roundw
        case rel => exact ⟨k + 1, by omega, by go_num, L, Lib.hid fun j hj => by
          rcases Nat.lt_succ_iff_lt_or_eq.1 hj with h' | rfl
          · exact Hn.out j h'
          · rw [Hy.out]; exact fun e => Hne.out (Option.some.inj e)⟩
        case measure => simp [intOf]; omega
    · exfalso
      obtain ⟨j, hj, e⟩ := List.mem_iff_getElem.1 Hx.out
      exact Hn.out j (by rw [Hl.out] at hj; omega) (by rw [List.getElem?_eq_getElem hj, e])
end Go.Proofs.YtnfncnpnkmjjeaaDoor
