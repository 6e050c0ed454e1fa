/- The laws' comparison of rows. -/
import Derived.Test.YtnfncnpnkmjjeaaDoorKRep
import Derived.Test.YtnfncnpnkmjjeaaDoorOnQ
namespace Go.Proofs.YtnfncnpnkmjjeaaDoor
set_option linter.unusedVariables false
set_option linter.unusedSimpArgs false
open Go.RowKit

theorem keys_same (s : ByteArray) : (s.toList == s.toList) = true := beq_self_eq_true _
set_option maxRecDepth 100000 in
set_option maxHeartbeats 4000000 in
theorem sameRow_self (key : ByteArray) (A B : Option Addr) (n c d : Nat) (l : List Nat) (w : World) (h : Row intCells 1 w w.heap.size A n l) (h' : Row intCells 1 w w.heap.size B n l) (hnb : n ≤ 1000000) :
    Calls Tryd.prog 39 #[.agg #[.string key, .slice A n c], .agg #[.string key, .slice B n d]] w fun e w' => e = .returned (.bool true) ∧ Below w.heap.size w w' := by
  have e1 := keys_same key
  have hb2 : Below w.heap.size w ((w.alloc (.cells #[.string key, .slice A n c] 40)).alloc (.cells #[.string key, .slice B n d] 40)) := ((Below.refl _ _).alloc (Nat.le_refl _) _).alloc (by simp) _
  have SN := Lib.hid (sameNums_self A B n c d l _ (h.next hb2) (h'.next hb2) hnb)
  clear h h' hb2
  go_enter Tryd.func39, Tryd.ntmps39
  go_wp2_with (go_at_call 57; (with_reducible refine SN.out.mono ?_); (rintro e w1 ⟨rfl, hb1⟩))
  go_ret
  exact ⟨rfl, (boxes2 hb1).2.2.1⟩
set_option maxRecDepth 100000 in
set_option maxHeartbeats 8000000 in
theorem sameRows_self (A B : Option Addr) (n m c d : Nat) (ks : List KRow) (w : World) (h : Kinds w A n ks) (h' : Kinds w B m ks) (hnb : n ≤ 100000) (hsb : ∀ x ∈ ks, x.ats.length ≤ 100000) :
    Calls Tryd.prog 15 #[.slice A n c, .slice B m d] w fun e w' => e = .returned (.bool true) ∧ Below w.heap.size w w' := by
  obtain rfl : n = m := h.len.symm.trans h'.len
  have Hl := Lib.hid h.len
  have HS := Lib.hid hsb
  have L0 := ((Live.since (Below.refl w.heap.size w)).and (Live.kinds h)).and (Live.kinds h')
  have e0 : (((n : Nat) : Int) != ((n : Nat) : Int)) = false := by simp
  clear h h' hsb
  go_enter Tryd.func15, Tryd.ntmps15
  go_wp2_with fail
  go_loopw [5] (fun i wr => ∃ k : Nat, k ≤ n ∧ i = .int .i64 (k : Int) ∧ Live wr fun W => (Below w.heap.size w W ∧ Kinds W A n ks) ∧ Kinds W B n ks) (fun i _ => n - (intOf i).toNat)
  case atStart => exact ⟨0, Nat.zero_le _, rfl, L0⟩
  case round =>
    obtain ⟨k, hk, rfl, L⟩ := hrel
    by_cases hlt : k < n
    · have hlt' : (k : Int) < (n : Int) := by omega
      obtain ⟨b, off, rfl, hb, hx⟩ := L.now.1.2.at_ (by omega)
      obtain ⟨b', off', rfl, hb', hx'⟩ := L.now.2.at_ (by omega)
      obtain ⟨r, hr⟩ : ∃ r, ks[k]? = some r := ⟨_, List.getElem?_eq_getElem (by rw [Hl.out]; exact hlt)⟩
      obtain ⟨A1, n1, c1, p0, p1, -, -, hr1⟩ := hx k r hr
      obtain ⟨A2, n2, c2, q0, q1, -, -, hr2⟩ := hx' k r hr
      obtain rfl : n1 = r.ats.length := hr1.1.symm
      obtain rfl : n2 = r.ats.length := hr2.1.symm
      have hn1 := HS.out r (List.mem_of_getElem? hr)
      have LR := (Live.row hr1).and (Live.row hr2)
      have c0 := fun (y : On wr) => (show y.W.cell? ⟨b, off + k * 2, none⟩ = some (.string r.key) from (y.below.cell (p := ⟨b, off + k * 2, none⟩) hb).trans p0)
      have c3 := fun (y : On wr) => (show y.W.cell? ⟨b, off + k * 2 + 1, none⟩ = some (.slice A1 r.ats.length c1) from (y.below.cell (p := ⟨b, off + k * 2 + 1, none⟩) hb).trans p1)
      have d0 := fun (y : On wr) => (show y.W.cell? ⟨b', off' + k * 2, none⟩ = some (.string r.key) from (y.below.cell (p := ⟨b', off' + k * 2, none⟩) hb').trans q0)
      have d1 := fun (y : On wr) => (show y.W.cell? ⟨b', off' + k * 2 + 1, none⟩ = some (.slice A2 r.ats.length c2) from (y.below.cell (p := ⟨b', off' + k * 2 + 1, none⟩) hb').trans q1)
      have SR := Lib.hid (fun (y : On wr) => sameRow_self r.key A1 A2 r.ats.length c1 c2 r.ats y.W (LR.next y.below).now.1 (LR.next y.below).now.2 (by omega))
      clear hx hx' hr p0 p1 q0 q1 hr1 hr2 LR
      go_wp2_with fail
      refine wp_region_on (by kernel_rfl) (by kernel_rfl) ?_
      repeat (go_big_quiet_step (first | (go_at_call 39; exact On.calls (SR.out _))))
      refine wpQuiet_nil ?_
      intro w4 hw'
      obtain ⟨⟨w4b, hb4⟩, hw''⟩ := hw'
      obtain rfl : w4 = w4b := hw''
      have L4 := L.next hb4
      go_wp2_with fail
      go_roundw
      case rel => exact ⟨k + 1, by omega, by go_num, L4⟩
      case measure => simp [intOf]; omega
    · obtain rfl : k = n := by omega
      have hlt' : ¬ (k : Int) < (k : Int) := by omega
      go_wp2_with fail
      go_ret
      exact ⟨rfl, L.now.1.1⟩
end Go.Proofs.YtnfncnpnkmjjeaaDoor
