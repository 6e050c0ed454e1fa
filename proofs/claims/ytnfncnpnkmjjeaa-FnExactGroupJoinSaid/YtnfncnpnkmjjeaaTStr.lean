/- The exact laws' helpers on lists of texts: measured, copied, compared. -/
import Derived.Test.YtnfncnpnkmjjeaaGroup
import Derived.Laws.MakeOwn
import Derived.Laws.OwnMore
namespace Go.Proofs.Ytnfncnpnkmjjeaa
set_option linter.unusedVariables false
set_option linter.unusedSimpArgs false
open Go.RowKit

theorem infoStrT : (Try.prog.info? 9).map (fun i => (i.zero, i.size, i.bytes)) = some (some (.string ⟨#[]⟩), 1, 16) := by kernel_rfl
theorem make_strsN (n : Nat) (hn : n ≤ 2000000) (W : World) : (Instr.makeSlice 22 (.int .i64 n) (.int .i64 n)).run Try.prog W = .ok (.slice (some ⟨W.heap.size, 0, none⟩) n n) (W.alloc (.cells (madeCells #[.string ⟨#[]⟩] n) 9)) := by
  obtain ⟨i0, hi, iz0, iz1, iz2⟩ := info_parts infoStrT
  have h := run_make (P := Try.prog) (w := W) 22 9 i0 (.string ⟨#[]⟩) Try.underlying22 hi iz0 .i64 .i64 n n (by omega) (by omega) (by rw [iz2]; omega) (by omega)
  rw [h, iz1]
  simp [Value.cells]

/-- the first k texts are laid. -/
def Upto (w : World) (g n k : Nat) (ms : List ByteArray) : Prop := ∃ cur : Array Value, Blk w g 9 cur ∧ cur.size = n ∧ ∀ j s, j < k → ms[j]? = some s → cur[j]? = some (.string s)
theorem Upto.put {w : World} {g n k : Nat} {ms : List ByteArray} {s : ByteArray} (h : Upto w g n k ms) (hs : ms[k]? = some s) (hk : k < n) : Upto (w.setCell ⟨g, k, none⟩ (.string s)) g n (k + 1) ms := by
  obtain ⟨cur, hB, hsz, ha⟩ := h
  refine ⟨_, hB.set_ k (.string s), by simpa using hsz, fun j t hj ht => ?_⟩
  by_cases e : j = k
  · subst e
    rw [hs] at ht; obtain rfl := Option.some.inj ht
    rw [Array.getElem?_setIfInBounds]; simp [hsz, hk]
  · rw [Array.getElem?_setIfInBounds_ne (by omega)]; exact ha j t (by omega) ht
theorem Upto.drewN {w : World} {g n k : Nat} {ms : List ByteArray} (h : Upto w g n k ms) (q : Nat) : Upto (w.drewN q) g n k ms := h
theorem Upto.strs {w : World} {g n : Nat} {ms : List ByteArray} (h : Upto w g n n ms) (hl : ms.length = n) : Strs w w.heap.size (some ⟨g, 0, none⟩) n ms := by
  obtain ⟨cur, hB, hsz, ha⟩ := h
  refine ⟨by simpa using hl, fun _ => ⟨g, 0, rfl, hB.lt, fun j hj => ?_⟩⟩
  rw [List.length_map] at hj
  rw [Nat.zero_add, List.getElem_map, hB.cell j]
  exact ha j _ (by omega) (List.getElem?_eq_getElem _)

def StrsAt (ms : List ByteArray) (w : World) (e : Ending) (w' : World) : Prop :=
  ∃ (A : Option Addr) (n c : Nat), e = .returned (.slice A n c) ∧ (A = some ⟨w.heap.size, 0, none⟩ ∧ n = ms.length ∧ ∃ cs, Blk w' w.heap.size 9 cs) ∧ Strs w' w'.heap.size A n ms ∧ Below w.heap.size w w'

set_option maxRecDepth 100000 in
set_option maxHeartbeats 2000000 in
theorem toStringS_any (A : Option Addr) (n c : Nat) (ms : List ByteArray) (w : World) (h : Strs w w.heap.size A n ms) (hnb : n ≤ 2000000) :
    Calls Try.prog 16 #[.slice A n c] w (StrsAt ms w) := by
  have Hla := Lib.hid h.len
  have hm := make_strsN n hnb
  have Hm := Lib.hid hm
  go_enter Try.func16, Try.ntmps16
  go_wp2_with fail
  clear hm
  go_loopw [4] (fun i wr => ∃ k : Nat, k ≤ n ∧ i = .int .i64 k ∧ Below w.heap.size w wr ∧ Upto wr w.heap.size n k ms) (fun i _ => n - (intOf i).toNat)
  case atStart => exact ⟨0, Nat.zero_le _, rfl, (Below.refl _ _).alloc (Nat.le_refl _) _, _, Blk.new w _ _, by simp [madeCells], fun j _ hj _ => absurd hj (by omega)⟩
  case round =>
    obtain ⟨k, hk, rfl, hnx, hU⟩ := hrel
    have Hnx := Lib.hid hnx
    have HU := Lib.hid hU
    by_cases hlt : k < n
    · obtain ⟨b, off, rfl, hb, hx⟩ := h.at_ (by omega)
      obtain ⟨s, hs⟩ : ∃ s, ms[k]? = some s := ⟨_, nth_get (by rw [Hla.out]; exact hlt)⟩
      have hc := (hnx.cell (p := ⟨b, off + k, none⟩) hb).trans (hx k s hs)
      have Hs := Lib.hid hs
      obtain ⟨cur, hB, hsz, ha⟩ := hU
      have hfz := hB.frozen k
      have hcl := hB.cell k
      obtain ⟨v0, hv0⟩ : ∃ v0, cur[k]? = some v0 := ⟨_, Array.getElem?_eq_getElem (by omega)⟩
      rw [hv0] at hcl
      clear hs hx h hnx hB ha
      go_wp2_with fail
      go_roundw
      case rel => exact ⟨k + 1, by omega, by go_num, Hnx.out.setCell (Nat.le_refl _) _, HU.out.put Hs.out hlt⟩
      case measure => simp [intOf]; omega
    · obtain rfl : k = n := by omega
      clear h hnx hU
      go_wp2_with fail
      go_ret
      exact ⟨_, _, _, rfl, ⟨rfl, Hla.out.symm, by obtain ⟨cur, hB, _⟩ := HU.out; exact ⟨cur, hB⟩⟩, HU.out.strs Hla.out, Hnx.out⟩

set_option maxRecDepth 100000 in
set_option maxHeartbeats 2000000 in
theorem szStringS_any (A : Option Addr) (n c : Nat) (ms : List ByteArray) (q : Int) (w : World) (h : Strs w w.heap.size A n ms) (hsm : AllSmall ms) (hnb : n ≤ maxLen) (hq : 0 ≤ q) (hq2 : q ≤ 1048576) :
    Calls Try.prog 11 #[.slice A n c, .int .i64 q] w fun e w' => ∃ r : Int, e = .returned (.int .i64 r) ∧ (0 ≤ r → (n : Int) ≤ q) ∧ -1 ≤ r ∧ r ≤ q ∧ Below w.heap.size w w' := by
  have Hla := Lib.hid h.len
  unfold maxLen at hnb
  by_cases h0 : q - n < 0
  · have h0' : q - (n : Int) < 0 := h0
    go_enter Try.func11, Try.ntmps11
    go_wp2_with fail
    go_ret
    exact ⟨-1, rfl, by omega, by omega, by omega, Below.refl _ _⟩
  · have h0' : ¬ q - (n : Int) < 0 := h0
    go_enter Try.func11, Try.ntmps11
    go_wp2_with fail

    go_loopw [1, 5] (fun v i wr => ∃ (k : Nat) (r : Int), k ≤ n ∧ i = .int .i64 k ∧ v = .int .i64 r ∧ 0 ≤ r ∧ r ≤ q ∧ wr = w) (fun _ i _ => n - (intOf i).toNat)
    case atStart => exact ⟨0, q - n, Nat.zero_le _, rfl, by go_num, by omega, by omega, rfl⟩
    case round =>
      obtain ⟨k, r, hk, rfl, rfl, hr0, hr1, rfl⟩ := hrel
      by_cases hlt : k < n
      · obtain ⟨b, off, rfl, hb, hx⟩ := h.at_ (by omega)
        obtain ⟨s, hs⟩ : ∃ s, ms[k]? = some s := ⟨_, nth_get (by rw [Hla.out]; exact hlt)⟩
        have hc := hx k s hs
        have hsz := hsm.at_ hs
        unfold maxLen at hsz
        have Hh := Lib.hid h
        clear hs hx h
        by_cases hr : r - (s.size : Int) < 0
        · go_wp2_with fail
          go_ret
          exact ⟨-1, rfl, by omega, by omega, by omega, Below.refl _ _⟩
        · go_wp2_with fail
          go_roundw
          case rel => exact ⟨k + 1, r - s.size, by omega, by go_num, by go_num, by omega, by omega, by first | rfl | trivial⟩
          case measure => simp [intOf]; omega
      · obtain rfl : k = n := by omega
        clear h
        go_wp2_with fail
        go_ret
        exact ⟨r, rfl, by omega, by omega, by omega, Below.refl _ _⟩
end Go.Proofs.Ytnfncnpnkmjjeaa
