/- A map from names to the events of their streams, which the call itself makes: what is looked up, what is put. -/
import Derived.Test.YtecijlebfpbpaaaDoorProg
import Derived.Test.YtecijlebfpbpaaaDoorPStore
import Derived.Test.YtecijlebfpbpaaaDoorOwn
import Derived.Maps.RangeWalk
import Derived.Maps.Views
namespace Go.Proofs.YtecijlebfpbpaaaDoor
set_option linter.unusedVariables false
set_option linter.unusedSimpArgs false
open Go.RowKit

def evCells (e : Ev) : List Value := [.int .i64 e.id, .string e.kind, .int .i64 e.data]
def enCells (x : En) : List Value := [.string x.name, .int .i64 x.ev.id, .string x.ev.kind, .int .i64 x.ev.data]
theorem evCells_len (e : Ev) : (evCells e).length = 3 := rfl
theorem enCells_len (x : En) : (enCells x).length = 4 := rfl
theorem ens_one (l : List En) : ∀ u ∈ l.flatMap enCells, u.oneCell' = true := by
  intro u hu
  obtain ⟨x, _, hx⟩ := List.mem_flatMap.1 hu
  simp only [enCells, List.mem_cons, List.not_mem_nil, or_false] at hx
  rcases hx with rfl | rfl | rfl | rfl <;> rfl
theorem evs_one (l : List Ev) : ∀ u ∈ l.flatMap evCells, u.oneCell' = true := by
  intro u hu
  obtain ⟨x, _, hx⟩ := List.mem_flatMap.1 hu
  simp only [evCells, List.mem_cons, List.not_mem_nil, or_false] at hx
  rcases hx with rfl | rfl | rfl <;> rfl
/-- an element that is a slice reads as itself. -/
def headElem (v : Value) : Option (DataW Value × List MemPlace) := match v with | .slice _ _ _ => some (.held v, []) | _ => none
def nilV : Value := .slice none 0 0
theorem headElem_slice {v : Value} (h : ∃ A n c, v = .slice A n c) : headElem v = some (.held v, []) := by obtain ⟨A, n, c, rfl⟩ := h; rfl
theorem headElem_inv {v : Value} {y : DataW Value × List MemPlace} (h : headElem v = some y) : (∃ A n c, v = .slice A n c) ∧ y = (.held v, []) := by
  cases v <;> simp [headElem] at h
  exact ⟨⟨_, _, _, rfl⟩, h.symm⟩
theorem own_slice {w : World} {base size n : Nat} {e : TypeId} {v : Value} {xs : List Value} (h : w.ownsRow base e size v n xs) : ∃ A n c, v = .slice A n c := by
  rcases h.2 with ⟨rfl, _⟩ | ⟨g, cap, cur, rfl, _⟩ <;> exact ⟨_, _, _, rfl⟩
theorem keyedStr : Maps.Keyed Tryd.prog 9 := Maps.string_keyed Tryd.underlying9

/-- block b is a map in which each name has a slice that owns the events of its stream in the entries l; no two lie in one row. -/
structure Streams (w : World) (base b n : Nat) (l : List En) (D : DataW Value) (g : ByteArray → Value) : Prop where
  map : w.ownsMap Tryd.prog 9 headElem b n D
  is : Maps.IsMap D
  lt : b < base
  look : ∀ s : ByteArray, D.atKey (.string s.data.toList) (.held nilV) = .held (g s)
  row : ∀ s, w.ownsRow base 34 3 (g s) (streamOf l s).length ((streamOf l s).flatMap evCells)
  apart : ∀ s t, s ≠ t → (g s).ownBlock = none ∨ (g s).ownBlock ≠ (g t).ownBlock

theorem Streams.made (w : World) : Streams (w.alloc (.map #[] 0)) (w.heap.size + 1) w.heap.size 0 [] (.map []) (fun _ => nilV) :=
  ⟨World.ownsMap_made _ _ _ _, Maps.isMap_empty, Nat.lt_succ_self _, fun _ => rfl, fun _ => World.ownsRow_nil _ _ _ _, fun _ _ _ => .inl rfl⟩
theorem Streams.blk {w : World} {base b n : Nat} {l : List En} {D : DataW Value} {g : ByteArray → Value} (S : Streams w base b n l D g) (s : ByteArray) (k : Nat) (h : (g s).ownBlock = some k) : base ≤ k ∧ k < w.heap.size := (S.row s).lt k h
theorem Streams.below {w w' : World} {base b n : Nat} {l : List En} {D : DataW Value} {g : ByteArray → Value} (S : Streams w base b n l D g) (hb : Below w.heap.size w w') : Streams w' base b n l D g := by
  have hg : w.grownBy w' none := ⟨hb.os, hb.tape, hb.output, hb.size, fun k hk _ => hb.block k hk⟩
  refine ⟨S.map.kept hg (by simp), S.is, S.lt, S.look, fun s => (S.row s).kept hg ?_, S.apart⟩
  cases h : (g s).ownBlock with
  | none => exact .inl rfl
  | some k => exact .inr (by simp)
theorem str_inj {s t : ByteArray} (h : (Lit.string s.data.toList) = .string t.data.toList) : s = t := bytes_same (by injection h)

theorem streams_below {B : Nat} {W w0 w w2 : World} {base b n : Nat} {l : List En} {D : DataW Value} {g : ByteArray → Value} (S : Streams w0 base b n l D g) (s : ByteArray) (hnx : Below B W w0) (hgr : w0.grownBy w (g s).ownBlock) (hg2 : w.grownBy w2 (some b)) (hB : B ≤ b) (hB2 : B ≤ w0.heap.size) : Below B W w2 :=
  (hnx.grown hgr hB2 (fun j hj => Nat.le_trans (Nat.le_trans hB (Nat.le_of_lt S.lt)) (S.blk s j hj).1)).grown hg2 (Nat.le_trans hB2 hgr.size) (fun j hj => by cases hj; exact hB)
end Go.Proofs.YtecijlebfpbpaaaDoor
