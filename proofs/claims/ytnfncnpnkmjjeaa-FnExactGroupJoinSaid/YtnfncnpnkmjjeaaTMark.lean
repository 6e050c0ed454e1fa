/- The exact laws' marks: texts that a number gives, laid into a list and looked for in it. -/
import Derived.Test.YtnfncnpnkmjjeaaTStr
import Derived.Test.YtnfncnpnkmjjeaaWord
import Derived.Test.YtnfncnpnkmjjeaaLive
import Derived.Test.YtnfncnpnkmjjeaaOnQ
import Derived.Lib.SlBytesConst
import Derived.Deep.RegionWith
namespace Go.Proofs.Ytnfncnpnkmjjeaa
set_option linter.unusedVariables false
set_option linter.unusedSimpArgs false
open Go.RowKit

def txt (l : List UInt8) : ByteArray := ⟨l.toArray⟩
def markT (k : Nat) : ByteArray := txt (109 :: Lib.decDigits k)
theorem txt_app (a b : List UInt8) : txt a ++ txt b = txt (a ++ b) := by apply ByteArray.ext; simp [txt]
theorem txt_size (a : List UInt8) : (txt a).size = a.length := by simp [txt, ByteArray.size]
theorem markT_size {k : Nat} (h : k ≤ 9000000) : (markT k).size ≤ 8 := by
  have := dec_len_le k 6 (by omega)
  unfold markT
  rw [txt_size, List.length_cons]; omega
theorem byte1 (w : World) (x : Int) :
    (convert 49 9 (.slice (some ⟨w.heap.size, 0, none⟩) 1 1)).run Try.prog (w.alloc (.cells #[.int .u8 x] 5)) = .ok (.string ⟨#[UInt8.ofNat x.toNat]⟩) (w.alloc (.cells #[.int .u8 x] 5)) := by
  rw [run_convert_bytes_string _ _ _ _ _ _ _ Try.underlying49 Try.underlying5 Try.underlying9]
  rw [run_bytesToString (ns := [x])]
  · rfl
  · simp [loadCells, loadCellsFrom, go_sem]
/-- what is still to be written, ahead of what is written. -/
def ahead (k : Nat) : List UInt8 := if k = 0 then [] else Lib.decDigits k
theorem ahead_step {k : Nat} (h : 0 < k) (l : List UInt8) : ahead (k / 10) ++ (dch (k % 10) :: l) = ahead k ++ l := by
  unfold ahead
  by_cases h1 : k < 10
  · rw [if_pos (by omega), if_neg (by omega), dec_small h1, Nat.mod_eq_of_lt h1]; rfl
  · rw [if_neg (by omega), if_neg (by omega), dec_big h1, List.append_assoc]; rfl
theorem ahead_len {k : Nat} (h : k ≤ 9000000) : (ahead k).length ≤ 7 := by
  unfold ahead
  split
  · simp
  · exact dec_len_le k 6 (by omega)

set_option maxRecDepth 100000 in
set_option maxHeartbeats 4000000 in
theorem markText_any (K : Nat) (w : World) (h1 : 1 ≤ K) (hK : K ≤ 9000000) :
    Calls Try.prog 30 #[.int .i64 (K : Int)] w fun e w' => e = .returned (.string (markT K)) ∧ Below w.heap.size w w' := by
  have HA := Lib.hid (show ahead K = Lib.decDigits K by unfold ahead; rw [if_neg (by omega)])
  have Hlen := Lib.hid (ahead_len hK)
  have ob := byte1
  have hK0 : ¬ (K : Int) ≤ 0 := by omega
  go_enter Try.func30, Try.ntmps30
  go_wp2_with fail
  go_loopw [0, 3] (fun i s wr => ∃ (k : Nat) (l : List UInt8), k ≤ K ∧ i = .int .i64 (k : Int) ∧ s = .string (txt l) ∧ Hid (ahead k ++ l = ahead K) ∧ Hid (Below w.heap.size w wr)) (fun i _ _ => (intOf i).toNat)
  case atStart => exact ⟨K, [], Nat.le_refl _, rfl, rfl, Lib.hid (by simp), Lib.hid (Below.refl _ _)⟩
  case round =>
    obtain ⟨k, l, hk, rfl, rfl, HL, HB⟩ := hrel
    by_cases hp : 0 < k
    · have hp' : (0 : Int) < (k : Int) := by omega
      have q2 : (k : Int).tmod 10 = (k : Int) % 10 := Int.tmod_eq_emod_of_nonneg (by omega)
      have q5 : (k : Int).tdiv 10 = (k : Int) / 10 := Int.tdiv_eq_ediv_of_nonneg (by omega)
      have q3 : IntKind.i64.wrap (48 + (k : Int) % 10) = 48 + (k : Int) % 10 := IntWalk.i64_in _ (by omega)
      have q4 : IntKind.u8.wrap (48 + (k : Int) % 10) = 48 + (k : Int) % 10 := by rw [IntKind.wrap_u8]; omega
      have q1 : IntKind.i64.wrap ((k : Int) / 10) = (k : Int) / 10 := IntWalk.i64_in _ (by omega)
      have hll : l.length ≤ 7 := by
        have h1 := congrArg List.length HL.out
        have h2 := Hlen.out
        rw [List.length_append] at h1
        omega
      have hsz : (txt l).size ≤ 7 := by rw [txt_size]; exact hll
      have He := Lib.hid (show (⟨#[48 + UInt8.ofNat (k % 10)]⟩ : ByteArray) ++ txt l = txt (dch (k % 10) :: l) by
        have e : 48 + UInt8.ofNat (k % 10) = dch (k % 10) := by unfold dch; rw [UInt8.ofNat_add]; rfl
        rw [e]
        exact txt_app [dch (k % 10)] l)
      have Hst := Lib.hid (ahead_step hp l)
      go_wp2_with fail
      go_roundw
      case rel => exact ⟨k / 10, dch (k % 10) :: l, by omega, by go_num, by first | exact congrArg Value.string He.out | (simp; exact He.out), Lib.hid (Hst.out.trans HL.out), Lib.hid (HB.out.alloc HB.out.size _)⟩
      case measure => simp [intOf]; omega
    · obtain rfl : k = 0 := by omega
      have hll : l.length ≤ 7 := by
        have h1 := congrArg List.length HL.out
        have h2 := Hlen.out
        rw [List.length_append] at h1
        omega
      have hsz : (txt l).size ≤ 7 := by rw [txt_size]; exact hll
      have Hr := Lib.hid (show (⟨#[109]⟩ : ByteArray) ++ txt l = markT K by
        have h1 : l = Lib.decDigits K := by have := HL.out; rw [HA.out] at this; exact this
        unfold markT
        rw [← h1]
        exact txt_app [109] l)
      go_wp2_with fail
      go_ret
      exact ⟨congrArg (fun s => Ending.returned (.string s)) Hr.out, HB.out⟩

theorem markText_at (K : Nat) (x : Int) (w : World) (hx : x = (K : Int)) (h1 : 1 ≤ K) (hK : K ≤ 9000000) :
    Calls Try.prog 30 #[.int .i64 x] w fun e w' => e = .returned (.string (markT K)) ∧ Below w.heap.size w w' := by subst hx; exact markText_any K w h1 hK
/-! ### marks in a list -/
def marks (k n : Nat) : List ByteArray := (List.range n).map fun i => markT (k + i)
theorem marks_len (k n : Nat) : (marks k n).length = n := by simp [marks]
theorem marks_at {k n j : Nat} (h : j < n) : (marks k n)[j]? = some (markT (k + j)) := by simp [marks, h]
/-- the slice's block is one that can be written. -/
def Free (w : World) (A : Option Addr) : Prop := ∀ p, A = some p → ∃ cs, Blk w p.block 9 cs
theorem grown_set (w : World) (p : Addr) (u : Value) : w.grownBy (w.setCell p u) (some p.block) :=
  ⟨rfl, rfl, rfl, by simp, fun i _ hne => Below.heap_setCell w p u i (fun e => hne (by rw [e]))⟩
/-- marks laid into the first j places. -/
def MarkTo (w wr : World) (b off n k j : Nat) : Prop := w.grownBy wr (some b) ∧ ∃ cur, Blk wr b 9 cur ∧ off + n ≤ cur.size ∧ ∀ i, i < j → cur[off + i]? = some (.string (markT (k + i)))
theorem MarkTo.step {w wr : World} {b off n k j : Nat} (h : MarkTo w wr b off n k j) (hj : j < n) {W : World} (hW : Below wr.heap.size wr W) : MarkTo w (W.setCell ⟨b, off + j, none⟩ (.string (markT (k + j)))) b off n k (j + 1) := by
  obtain ⟨hg, cur, hB, hs, ha⟩ := h
  have hB2 := hB.next hW
  refine ⟨?_, _, hB2.set_ (off + j) _, by simpa using hs, fun i hi => ?_⟩
  · have h1 : wr.grownBy W (some b) := ⟨hW.os, hW.tape, hW.output, hW.size, fun k hk _ => hW.block k hk⟩
    exact (hg.trans h1).trans (grown_set W ⟨b, off + j, none⟩ _)
  · by_cases e : i = j
    · subst e
      rw [Array.getElem?_setIfInBounds]
      simp
      omega
    · rw [Array.getElem?_setIfInBounds_ne (by omega)]
      exact ha i (by omega)
theorem MarkTo.strs {w wr : World} {b off n k : Nat} (h : MarkTo w wr b off n k n) : Strs wr wr.heap.size (some ⟨b, off, none⟩) n (marks k n) := by
  obtain ⟨hg, cur, hB, hs, ha⟩ := h
  refine ⟨by simp [marks], fun _ => ⟨b, off, rfl, hB.lt, fun j hj => ?_⟩⟩
  have hj2 : j < n := by simpa [marks] using hj
  rw [hB.cell (off + j), ha j hj2]
  simp [marks]
def MarkRet (A : Option Addr) (n k : Nat) (w : World) (e : Ending) (w' : World) : Prop :=
  e = .returned (.int .i64 ((k + n : Nat) : Int)) ∧ Strs w' w'.heap.size A n (marks k n) ∧ Free w' A ∧ w.grownBy w' (A.map (·.block))
set_option maxRecDepth 100000 in
set_option maxHeartbeats 4000000 in
theorem markStringS_any (A : Option Addr) (n c k : Nat) (ms : List ByteArray) (w : World) (h : Strs w w.heap.size A n ms) (hf : Free w A) (hnb : n ≤ 2000000) (hk1 : 1 ≤ k) (hk : k ≤ 1000000) :
    Calls Try.prog 22 #[.slice A n c, .int .i64 (k : Int)] w (MarkRet A n k w) := by
  by_cases h0 : n = 0
  · subst h0
    have Hf := Lib.hid hf
    clear h hf
    have hz : Hid (w.grownBy w (A.map (·.block))) := Lib.hid ⟨rfl, rfl, rfl, Nat.le_refl _, fun _ _ _ => rfl⟩
    go_enter Try.func22, Try.ntmps22
    go_wp2_with fail
    go_loopw [1, 5] (fun a b wr => a = .int .i64 (k : Int) ∧ b = .int .i64 0 ∧ wr = w) (fun _ _ _ => 0)
    case atStart => exact ⟨rfl, rfl, rfl⟩
    case round =>
      obtain ⟨rfl, rfl, rfl⟩ := hrel
      go_wp2_with fail
      go_ret
      exact ⟨rfl, Strs.nil _ _ _, Hf.out, hz.out⟩
  obtain ⟨b, off, rfl, hb, hx⟩ := h.at_ (by omega)
  obtain ⟨cs0, hB0⟩ := hf _ rfl
  have Hm0 : Hid (MarkTo w w b off n k 0) := Lib.hid ⟨⟨rfl, rfl, rfl, Nat.le_refl _, fun _ _ _ => rfl⟩, cs0, hB0, by
    have hl := h.len
    obtain ⟨s, hs⟩ : ∃ s, ms[n - 1]? = some s := ⟨_, nth_get (by omega)⟩
    have h1 := hx (n - 1) s hs
    rw [hB0.cell] at h1
    have h2 := (Array.getElem?_eq_some_iff.1 h1).1
    omega, fun i hi => absurd hi (by omega)⟩
  clear h hf hx hB0
  go_enter Try.func22, Try.ntmps22
  go_wp2_with fail
  go_loopw [1, 5] (fun a i wr => ∃ j : Nat, j ≤ n ∧ a = .int .i64 ((k + j : Nat) : Int) ∧ i = .int .i64 (j : Int) ∧ Hid (MarkTo w wr b off n k j)) (fun _ i _ => n - (intOf i).toNat)
  case atStart => exact ⟨0, Nat.zero_le _, rfl, rfl, Hm0⟩
  case round =>
    obtain ⟨j, hj, rfl, rfl, HM⟩ := hrel
    by_cases hlt : j < n
    · have hlt' : (j : Int) < (n : Int) := by omega
      have MT := Lib.hid (markText_at (k + j) ((k : Int) + (j : Int)) wr (by omega) (by omega) (by omega))
      have hM := HM.out
      go_wp2_with (go_at_call 30; (with_reducible refine MT.out.mono ?_); (rintro e w2 ⟨rfl, hb2⟩; have HM2 := Lib.hid (HM.out.step hlt hb2); obtain ⟨_, cur, hB, hs, _⟩ := HM.out; have hB2 := hB.next hb2; have q0 := hB2.frozen (off + j); have q1 := hB2.cell (off + j); obtain ⟨v0, hv0⟩ : ∃ v0, cur[off + j]? = some v0 := ⟨_, Array.getElem?_eq_getElem (by omega)⟩; rw [hv0] at q1; clear hB hB2 hv0))
      go_roundw
      case rel => exact ⟨j + 1, by omega, by go_num, by go_num, HM2⟩
      case measure => simp [intOf]; omega
    · obtain rfl : j = n := by omega
      have hlt' : ¬ (j : Int) < (j : Int) := by omega
      go_wp2_with fail
      go_ret
      exact ⟨rfl, HM.out.strs, fun p hp => by obtain rfl := Option.some.inj hp; exact ⟨_, HM.out.2.choose_spec.1⟩, HM.out.1⟩
set_option maxRecDepth 100000 in
set_option maxHeartbeats 4000000 in
theorem heldStringS_any (A : Option Addr) (n c k : Nat) (w : World) (h : Strs w w.heap.size A n (marks k n)) (hnb : n ≤ 2000000) (hk1 : 1 ≤ k) (hk : k ≤ 1000000) :
    Calls Try.prog 23 #[.slice A n c, .int .i64 (k : Int)] w fun e w' => e = .returned (.int .i64 ((k + n : Nat) : Int)) ∧ Below w.heap.size w w' := by
  have L0 := (Live.since (Below.refl w.heap.size w)).and (Live.strs h)
  clear h
  go_enter Try.func23, Try.ntmps23
  go_wp2_with fail
  go_loopw [1, 5] (fun a i wr => ∃ j : Nat, j ≤ n ∧ a = .int .i64 ((k + j : Nat) : Int) ∧ i = .int .i64 (j : Int) ∧ Live wr fun W => Below w.heap.size w W ∧ Strs W W.heap.size A n (marks k n)) (fun _ i _ => n - (intOf i).toNat)
  case atStart => exact ⟨0, Nat.zero_le _, rfl, rfl, L0⟩
  case round =>
    obtain ⟨j, hj, rfl, rfl, L⟩ := hrel
    by_cases hlt : j < n
    · have hlt' : (j : Int) < (n : Int) := by omega
      obtain ⟨b, off, rfl, hb, hx⟩ := L.now.2.at_ (by omega)
      have hc := hx j _ (marks_at hlt)
      have c0 := fun (y : On wr) => (show y.W.cell? ⟨b, off + j, none⟩ = some (.string (markT (k + j))) from (y.below.cell (p := ⟨b, off + j, none⟩) hb).trans hc)
      have MT := Lib.hid (fun y : On wr => markText_any (k + j) y.W (by omega) (by omega))
      clear hx hc
      obtain ⟨t, ht⟩ : ∃ t, markT (k + j) = t := ⟨_, rfl⟩
      rw [ht] at MT
      simp only [ht] at c0
      have e1 : (t.toList != t.toList) = false := by simp
      go_wp2_with fail
      refine wp_region_on (by kernel_rfl) (by kernel_rfl) ?_
      repeat (go_big_quiet_step (first | (go_at_call 30; exact On.calls (MT.out _))))
      refine wpQuiet_nil ?_
      intro w4 hw'
      obtain ⟨⟨w4b, hb4⟩, hw''⟩ := hw'
      obtain rfl : w4 = w4b := hw''
      have L4 := L.next hb4
      go_wp2_with fail
      go_roundw
      case rel => exact ⟨j + 1, by omega, by go_num, by go_num, L4⟩
      case measure => simp [intOf]; omega
    · obtain rfl : j = n := by omega
      have hlt' : ¬ (j : Int) < (j : Int) := by omega
      go_wp2_with fail
      go_ret
      exact ⟨rfl, L.now.1⟩
end Go.Proofs.Ytnfncnpnkmjjeaa
