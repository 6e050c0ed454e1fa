/- Drawing a text out of a list; opening a code. -/
import Derived.Test.YtnfncnpnkmjjeaaDoorRd
namespace Go.Proofs.YtnfncnpnkmjjeaaDoor
set_option linter.unusedVariables false
set_option linter.unusedSimpArgs false
open Go.RowKit

theorem grow_trans {a b c : World} {r : Nat} (h : a.grownBy b (some r)) (k : b.grownBy c (some r)) : a.grownBy c (some r) :=
  ⟨k.os.trans h.os, k.tape.trans h.tape, k.output.trans h.output, Nat.le_trans h.size k.size, fun i hi hne => (k.block i (Nat.lt_of_lt_of_le hi h.size) hne).trans (h.block i hi hne)⟩
theorem grow_refl (w : World) (r : Nat) : w.grownBy w (some r) := ⟨rfl, rfl, rfl, Nat.le_refl _, fun _ _ _ => rfl⟩
theorem grow_alloc {a w : World} {r : Nat} (h : a.grownBy w (some r)) (o : Obj) : a.grownBy (w.alloc o) (some r) :=
  grow_trans h (World.grownBy_alloc w o _)
theorem grow_drewN {a w : World} {r : Nat} (h : a.grownBy w (some r)) (n : Nat) : a.grownBy (w.drewN n) (some r) := ⟨h.os, h.tape, h.output, h.size, h.block⟩
theorem grow_below {a w w' : World} {r : Nat} (h : a.grownBy w (some r)) (hb : Below w.heap.size w w') : a.grownBy w' (some r) :=
  grow_trans h ⟨hb.os, hb.tape, hb.output, hb.size, fun i hi _ => hb.block i hi⟩
theorem grow_set {a w : World} {r : Nat} (h : a.grownBy w (some r)) {p : Addr} (hp : a.heap.size ≤ p.block) (u : Value) : a.grownBy (w.setCell p u) (some r) :=
  ⟨h.os, h.tape, h.output, by simpa [World.setCell] using h.size, fun i hi hne => (Below.heap_setCell w p u i (by omega)).trans (h.block i hi hne)⟩
theorem grow_to_below {a w : World} {r : Nat} (h : a.grownBy w (some r)) {B : Nat} (hB : B ≤ r) (hs : B ≤ a.heap.size) : Below B a w :=
  ⟨h.os, h.tape, h.output, h.size, fun i hi => h.block i (by omega) (fun e => by injection e; omega)⟩
theorem grow_cell {w w' : World} {r b o : Nat} {v : Value} (hg : w.grownBy w' (some r)) (hne : b ≠ r) (h : w.cell? ⟨b, o, none⟩ = some v) : w'.cell? ⟨b, o, none⟩ = some v :=
  hg.cell h (fun e => hne (by injection e))
theorem rd_alloc {w : World} {r N : Nat} (h : Rd w r N) (o : Obj) : Rd (w.alloc o) r N :=
  h.keep fun k hk => Below.heap_alloc w o k (by have := h.lt; omega)
theorem rd_set {w : World} {r N : Nat} (h : Rd w r N) {p : Addr} (hp : r < p.block) (u : Value) : Rd (w.setCell p u) r N :=
  h.keep fun k hk => Below.heap_setCell w p u k (by omega)
theorem rd_drewN {w : World} {r N : Nat} (h : Rd w r N) (n : Nat) : Rd (w.drewN n) r N := h

/-- a drawn text: not long. -/
def StrPost (r M : Nat) (w : World) (e : Ending) (w' : World) : Prop :=
  ∃ s : ByteArray, e = .returned (.string s) ∧ s.size ≤ 60 ∧ w.grownBy w' (some r) ∧ Rd w' r M

def strsOk (cs : Array Value) : Bool := cs.all fun | .string s => decide (s.size ≤ 60) | _ => false
theorem strs_lit {w : World} {g : Nat} {cs : Array Value} {T : TypeId} {x : Nat × Nat} (hg : w.heap[g]? = some (.cells cs T x)) (hok : strsOk cs = true) :
    ∀ i, i < cs.size → ∃ s : ByteArray, w.cell? ⟨g, 0 + i, none⟩ = some (.string s) ∧ s.size ≤ 60 := by
  intro i hi
  have h := (Array.all_eq_true.1 hok) i hi
  rw [Nat.zero_add, cell_of_row w g i cs T x hg, Array.getElem?_eq_getElem hi]
  split at h
  · rename_i s e; exact ⟨s, by rw [e], of_decide_eq_true h⟩
  · cases h

set_option maxHeartbeats 400000 in
theorem of_any (r N g off n c : Nat) (w : World) (h : Rd w r N) (hN : N ≤ 1000000) (hne : g ≠ r) (hn : 1 ≤ n) (hn2 : n ≤ 1000)
    (hok : ∀ i, i < n → ∃ s : ByteArray, w.cell? ⟨g, off + i, none⟩ = some (.string s) ∧ s.size ≤ 60) :
    Calls Tryd.prog 53 #[.pointer (some ⟨r, 0, none⟩), .slice (some ⟨g, off, none⟩) n c] w (StrPost r (N + 1) w) := by
  go_enter Tryd.func53, Tryd.ntmps53
  go_wp2_with fail
  refine (pick_any r N _ _ h hN (by omega)).mono ?_
  rintro e w1 ⟨x, rfl, hx, hgrow, hrd⟩
  have hx' := hx (by omega)
  obtain ⟨s, hc, hs⟩ := hok x (by omega)
  have hc1 := grow_cell hgrow hne hc
  clear hc hok hx h
  go_wp2_with fail
  go_ret
  exact ⟨s, rfl, hs, hgrow, hrd⟩

/-- what opening a code leaves: a reader in the new block, nothing else turned. -/
def OpenPost (w : World) (e : Ending) (w' : World) : Prop :=
  ∃ r : Nat, e = .returned (.pointer (some ⟨r, 0, none⟩)) ∧ w.heap.size ≤ r ∧ Below w.heap.size w w' ∧ Rd w' r 0

/-- a slice of bytes that came in. -/
def Code (w : World) (A : Option Addr) (n c : Nat) : Prop :=
  n ≤ c ∧ n ≤ maxLen ∧ (0 < n → ∃ b off, A = some ⟨b, off, none⟩ ∧ b < w.heap.size ∧ ∀ j, j < n → ∃ x : Nat, x ≤ 255 ∧ w.cell? ⟨b, off + j, none⟩ = some (.int .u8 x))
theorem Code.below {w w' : World} {A : Option Addr} {n c : Nat} (h : Code w A n c) (hb : Below w.heap.size w w') : Code w' A n c := by
  obtain ⟨h1, h2, h3⟩ := h
  refine ⟨h1, h2, fun hn => ?_⟩
  obtain ⟨b, off, e, hl, hx⟩ := h3 hn
  refine ⟨b, off, e, Nat.lt_of_lt_of_le hl hb.size, fun j hj => ?_⟩
  obtain ⟨x, hx1, hx2⟩ := hx j hj
  exact ⟨x, hx1, (hb.cell (p := ⟨b, off + j, none⟩) hl).trans hx2⟩

set_option maxHeartbeats 400000 in
theorem open_any (A : Option Addr) (n c : Nat) (w : World) (h : Code w A n c) :
    Calls Tryd.prog 34 #[.slice A n c] w (OpenPost w) := by
  obtain ⟨h1, h2, h3⟩ := h
  unfold maxLen at h2
  have mk : ∀ m : Nat, m ≤ n → m ≤ 2000 → OpenPost w (.returned (.pointer (some ⟨w.heap.size, 0, none⟩))) (w.alloc (.cells #[.slice A m c, .int .i64 (0 : Int)] 91)) := fun m hm hm2 => by
    refine ⟨w.heap.size, rfl, Nat.le_refl _, (Below.refl _ _).alloc (Nat.le_refl _) _, A, m, c, 0, 91, heap_alloc_new w _, Nat.le_refl _, hm2, fun hp => ?_⟩
    obtain ⟨b, off, e, hl, hx⟩ := h3 (by omega)
    refine ⟨b, off, e, hl, fun j hj => ?_⟩
    obtain ⟨x, hx1, hx2⟩ := hx j (by omega)
    exact ⟨x, hx1, (World.cell?_alloc_lt w _ _ (by exact hl)).trans hx2⟩
  have Mk := Lib.hid mk
  clear mk
  by_cases hl : (2000 : Int) < n
  · obtain ⟨b, off, rfl, hb, hx⟩ := h3 (by omega)
    go_enter Tryd.func34, Tryd.ntmps34
    go_wp2
    go_ret
    exact Mk.out 2000 (by omega) (by omega)
  · go_enter Tryd.func34, Tryd.ntmps34
    go_wp2
    go_ret
    exact Mk.out n (by omega) (by omega)
end Go.Proofs.YtnfncnpnkmjjeaaDoor
