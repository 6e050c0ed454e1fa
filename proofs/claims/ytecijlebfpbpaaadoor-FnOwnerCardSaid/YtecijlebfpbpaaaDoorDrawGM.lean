/- Drawn groups with a member. -/
import Derived.Test.YtecijlebfpbpaaaDoorDrawG
import Derived.Test.YtecijlebfpbpaaaDoorGLeave
import Derived.Deep.RegionHeld3
namespace Go.Proofs.YtecijlebfpbpaaaDoor
set_option linter.unusedVariables false
set_option linter.unusedSimpArgs false
open Go.RowKit

theorem grow_undrew {w w2 : World} {row : Option Nat} (h : w.drew.grownBy w2 row) : w.grownBy w2 row := ⟨h.os, h.tape, h.output, h.size, h.block⟩
/-- a text out of a list that was laid before. -/
theorem of_blk {r N g n : Nat} {cs : Array Value} {T : TypeId} {w : World} (h : Rd w r N) (hN : N ≤ 1000000) (hg : Blk w g T cs) (hne : g ≠ r) (hn : cs.size = n) (h1 : 1 ≤ n) (h2 : n ≤ 1000) (hok : strsOk cs = true) :
    Calls Tryd.prog 49 #[.pointer (some ⟨r, 0, none⟩), .slice (some ⟨g, 0, none⟩) n n] w (StrPost r (N + 1) w) := by
  subst hn
  exact of_any r N g 0 cs.size cs.size _ h hN hne h1 h2 (strs_lit hg hok)
theorem of_lit' (r N n : Nat) (cs : Array Value) (T : TypeId) (w : World) (h : Rd w r N) (hN : N ≤ 1000000) (hn : cs.size = n) (h1 : 1 ≤ n) (h2 : n ≤ 1000) (hok : strsOk cs = true) :
    Calls Tryd.prog 49 #[.pointer (some ⟨r, 0, none⟩), .slice (some ⟨w.heap.size, 0, none⟩) n n] (w.alloc (.cells cs T)) (StrPost r (N + 1) w) := by
  refine (of_blk (rd_alloc h _) hN (Blk.new w T cs) (by have := h.lt; omega) hn h1 h2 hok).mono ?_
  rintro e w' ⟨s, he, hs, hg, hr⟩
  exact ⟨s, he, hs, grow_trans (grow_alloc (grow_refl w r) _) hg, hr⟩
theorem of_lit_at (r N n g : Nat) (cs : Array Value) (T : TypeId) (w : World) (hg : g = w.heap.size) (h : Rd w r N) (hN : N ≤ 1000000) (hn : cs.size = n) (h1 : 1 ≤ n) (h2 : n ≤ 1000) (hok : strsOk cs = true) :
    Calls Tryd.prog 49 #[.pointer (some ⟨r, 0, none⟩), .slice (some ⟨g, 0, none⟩) n n] (w.alloc (.cells cs T)) (StrPost r (N + 1) w) := by
  subst hg; exact of_lit' r N n cs T w h hN hn h1 h2 hok
theorem strs_own {w : World} {base n : Nat} {v : Value} {ms : List ByteArray} (h : w.ownsRow base 9 1 v n (ms.map Value.string)) : ∃ A c, v = .slice A n c ∧ n ≤ c ∧ Strs w w.heap.size A n ms := by
  obtain ⟨A, c, e, h1, h2, _⟩ := Sl.of_own h
  exact ⟨A, c, e, h1, h2⟩
theorem own_cell {w : World} {base n c : Nat} {A : Option Addr} {ms : List ByteArray} (h : w.ownsRow base 9 1 (.slice A n c) n (ms.map Value.string)) (hn : 0 < n) : ∃ g, A = some ⟨g, 0, none⟩ ∧ ∀ j s, ms[j]? = some s → w.cell? ⟨g, j, none⟩ = some (.string s) := by
  rcases h.2 with ⟨h4, h0⟩ | ⟨g, cap, cur, h4, _⟩
  · omega
  · simp only [Value.slice.injEq] at h4
    obtain ⟨rfl, _, rfl⟩ := h4
    refine ⟨g, rfl, fun j s hs => ?_⟩
    have hl : ms.length = n := by simpa using h.1
    have hj := (List.getElem?_eq_some_iff.1 hs).1
    rw [h.cellAt j (by omega), List.getElem?_map, hs]; rfl


/-- a drawn group and a text. -/
def GrpStr (w : World) (e : Ending) (w' : World) : Prop :=
  ∃ (st : Int) (A : Option Addr) (n c : Nat) (ms : List ByteArray) (s : ByteArray), e = .returned (.tuple #[.agg #[.int .i64 st, .slice A n c], .string s]) ∧ Strs w' w'.heap.size A n ms ∧ Hid (Small60 ms) ∧ n ≤ 30 ∧ s.size ≤ 60 ∧ -1000 ≤ st ∧ st ≤ 1000 ∧ Below w.heap.size w w'
theorem drawn_below' {w w1 w2 : World} {r : Nat} (hr : w.heap.size ≤ r) (hb : Below w.heap.size w w1) (hg : w1.grownBy w2 (some r)) : Below w.heap.size w w2 :=
  hb.trans (grow_to_below hg hr hb.size)

theorem grp_own {w4 : World} {g base n c : Nat} {A : Option Addr} {ms : List ByteArray} (h : w4.ownsRow base 9 1 (.slice A n c) n (ms.map Value.string)) (hg : g < base) (u u' : Value) :
    Strs ((w4.setCell ⟨g, 0, none⟩ u).setCell ⟨g, 1, none⟩ u') ((w4.setCell ⟨g, 0, none⟩ u).setCell ⟨g, 1, none⟩ u').heap.size A n ms := by
  have hne : ∀ {w : World}, w.ownsRow base 9 1 (.slice A n c) n (ms.map Value.string) → (Value.slice A n c).ownBlock ≠ some g := fun h e => by have := (h.lt g e).1; omega
  have h2 := own_far (own_far h ⟨g, 0, none⟩ u (hne h)) ⟨g, 1, none⟩ u' (hne h)
  obtain ⟨A', c', e, _, hs⟩ := strs_own h2
  obtain ⟨rfl, _⟩ := (Value.slice.injEq _ _ _ _ _ _).mp e
  exact hs
end Go.Proofs.YtecijlebfpbpaaaDoor
