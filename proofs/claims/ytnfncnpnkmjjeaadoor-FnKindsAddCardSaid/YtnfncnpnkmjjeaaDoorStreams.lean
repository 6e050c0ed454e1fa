/- A map from names to the events of their streams, which the call itself makes: what is looked up, what is put. -/
import Derived.Test.YtnfncnpnkmjjeaaDoorProg
import Derived.Test.YtnfncnpnkmjjeaaDoorPStore
import Derived.Test.YtnfncnpnkmjjeaaDoorOwn
import Derived.Maps.RangeWalk
import Derived.Maps.Views
namespace Go.Proofs.YtnfncnpnkmjjeaaDoor
set_option linter.unusedVariables false
set_option linter.unusedSimpArgs false
open Go.RowKit

def evCells (e : Ev) : List Value := [.int .i64 e.id, .string e.kind, .int .i64 e.data]
def enCells (x : En) : List Value := [.string x.name, .int .i64 x.ev.id, .string x.ev.kind, .int .i64 x.ev.data]
theorem evCells_len (e : Ev) : (evCells e).length = 3 := rfl
theorem enCells_len (x : En) : (enCells x).length = 4 := rfl
theorem ens_one (l : List En) : ∀ u ∈ l.flatMap enCells, u.oneCell' = true := by
  intro u hu
  obtain ⟨x, _, hx⟩ := List.mem_flatMap.1 hu
  simp only [enCells, List.mem_cons, List.not_mem_nil, or_false] at hx
  rcases hx with rfl | rfl | rfl | rfl <;> rfl
theorem evs_one (l : List Ev) : ∀ u ∈ l.flatMap evCells, u.oneCell' = true := by
  intro u hu
  obtain ⟨x, _, hx⟩ := List.mem_flatMap.1 hu
  simp only [evCells, List.mem_cons, List.not_mem_nil, or_false] at hx
  rcases hx with rfl | rfl | rfl <;> rfl
theorem elemEv : Elem Tryd.prog 95 42 (.agg #[.int .i64 0, .string ⟨#[]⟩, .int .i64 0]) 3 32 := ⟨Tryd.underlying95, by kernel_rfl, rfl, by decide, by decide⟩
theorem elemEn : Elem Tryd.prog 32 44 (.agg #[.string ⟨#[]⟩, .int .i64 0, .string ⟨#[]⟩, .int .i64 0]) 4 48 := ⟨Tryd.underlying32, by kernel_rfl, rfl, by decide, by decide⟩

/-- an element that is a slice reads as itself. -/
def headElem (v : Value) : Option (DataW Value × List MemPlace) := match v with | .slice _ _ _ => some (.held v, []) | _ => none
def nilV : Value := .slice none 0 0
theorem headElem_slice {v : Value} (h : ∃ A n c, v = .slice A n c) : headElem v = some (.held v, []) := by obtain ⟨A, n, c, rfl⟩ := h; rfl
theorem headElem_inv {v : Value} {y : DataW Value × List MemPlace} (h : headElem v = some y) : (∃ A n c, v = .slice A n c) ∧ y = (.held v, []) := by
  cases v <;> simp [headElem] at h
  exact ⟨⟨_, _, _, rfl⟩, h.symm⟩
theorem own_slice {w : World} {base size n : Nat} {e : TypeId} {v : Value} {xs : List Value} (h : w.ownsRow base e size v n xs) : ∃ A n c, v = .slice A n c := by
  rcases h.2 with ⟨rfl, _⟩ | ⟨g, cap, cur, rfl, _⟩ <;> exact ⟨_, _, _, rfl⟩
theorem keyedStr : Maps.Keyed Tryd.prog 9 := Maps.string_keyed Tryd.underlying9

/-- block b is a map in which each name has a slice that owns the events of its stream in the entries l; no two lie in one row. -/
structure Streams (w : World) (base b n : Nat) (l : List En) (D : DataW Value) (g : ByteArray → Value) : Prop where
  map : w.ownsMap Tryd.prog 9 headElem b n D
  is : Maps.IsMap D
  lt : b < base
  look : ∀ s : ByteArray, D.atKey (.string s.data.toList) (.held nilV) = .held (g s)
  row : ∀ s, w.ownsRow base 42 3 (g s) (streamOf l s).length ((streamOf l s).flatMap evCells)
  apart : ∀ s t, s ≠ t → (g s).ownBlock = none ∨ (g s).ownBlock ≠ (g t).ownBlock

theorem Streams.made (w : World) : Streams (w.alloc (.map #[] 0)) (w.heap.size + 1) w.heap.size 0 [] (.map []) (fun _ => nilV) :=
  ⟨World.ownsMap_made _ _ _ _, Maps.isMap_empty, Nat.lt_succ_self _, fun _ => rfl, fun _ => World.ownsRow_nil _ _ _ _, fun _ _ _ => .inl rfl⟩
theorem Streams.blk {w : World} {base b n : Nat} {l : List En} {D : DataW Value} {g : ByteArray → Value} (S : Streams w base b n l D g) (s : ByteArray) (k : Nat) (h : (g s).ownBlock = some k) : base ≤ k ∧ k < w.heap.size := (S.row s).lt k h
theorem Streams.below {w w' : World} {base b n : Nat} {l : List En} {D : DataW Value} {g : ByteArray → Value} (S : Streams w base b n l D g) (hb : Below w.heap.size w w') : Streams w' base b n l D g := by
  have hg : w.grownBy w' none := ⟨hb.os, hb.tape, hb.output, hb.size, fun k hk _ => hb.block k hk⟩
  refine ⟨S.map.kept hg (by simp), S.is, S.lt, S.look, fun s => (S.row s).kept hg ?_, S.apart⟩
  cases h : (g s).ownBlock with
  | none => exact .inl rfl
  | some k => exact .inr (by simp)
theorem Streams.get {w : World} {base b n : Nat} {l : List En} {D : DataW Value} {g : ByteArray → Value} (S : Streams w base b n l D g) (s : ByteArray) (hs : s.size ≤ maxLen) :
    (Instr.lookup 93 (.map (some b)) (.string s) false).run Tryd.prog w = .ok (g s) w := by
  have hz : (zeroValue 95).run Tryd.prog w = .ok nilV w := by kernel_rfl
  obtain ⟨v, ps, hrun, hv⟩ := S.map.lookup keyedStr Tryd.underlying93 hz (zd := .held nilV) (zp := []) rfl (key := .string s) (kl := .string s.data.toList) (WideMaps.keyOf_string_mk Tryd.underlying9 hs)
  obtain ⟨_, e⟩ := headElem_inv hv
  rw [S.look s] at e
  have : g s = v := DataW.held.inj (Prod.mk.inj e).1
  rw [this]; exact hrun

theorem str_inj {s t : ByteArray} (h : (Lit.string s.data.toList) = .string t.data.toList) : s = t := bytes_same (by injection h)

/-- a slice is put at a name. -/
theorem put_run (w0 w : World) {base b n : Nat} {l : List En} {D : DataW Value} {g : ByteArray → Value} (S : Streams w0 base b n l D g) (s : ByteArray) (e : Ev) (v' : Value)
    (hs : s.size ≤ maxLen) (hn : n ≤ 1000000) (hgr : w0.grownBy w (g s).ownBlock) (hown' : w.ownsRow base 42 3 v' ((streamOf l s).length + 1) ((streamOf l s).flatMap evCells ++ evCells e))
    (hor : v'.ownBlock = (g s).ownBlock ∨ ∃ k, v'.ownBlock = some k ∧ w0.heap.size ≤ k) :
    ∃ w2 D' g', (Instr.mapUpdate 93 (.map (some b)) (.string s) v').run Tryd.prog w = .ok () w2 ∧ Streams w2 base b (n + 1) (l ++ [⟨s, e⟩]) D' g' ∧ w.grownBy w2 (some b) := by
  have hbne : some b ≠ (g s).ownBlock := fun e1 => by have := (S.blk s b e1.symm).1; have := S.lt; omega
  have hmap := S.map.kept hgr hbne
  obtain ⟨w2, hrun, hm2, hg2⟩ := hmap.update keyedStr Tryd.underlying93 (by unfold maxLen; omega) (key := .string s) (kl := .string s.data.toList) (WideMaps.keyOf_string_mk Tryd.underlying9 hs) (headElem_slice (own_slice hown'))
  refine ⟨w2, _, fun t => if t = s then v' else g t, hrun, ⟨hm2, S.is.put _ _, S.lt, fun t => ?_, fun t => ?_, fun t u htu => ?_⟩, hg2⟩
  · by_cases h : t = s
    · subst h
      rw [if_pos rfl, Maps.atKey_put_same S.is (show WideAt.IsKeyLit (.string t.data.toList) from trivial)]
    · rw [if_neg h, Maps.atKey_put_other (fun e1 => h (str_inj e1))]; exact S.look t
  · rw [streamOf_app]
    have h1 : ∀ k, v'.ownBlock = some k → base ≤ k := fun k hk => (hown'.lt k hk).1
    have hne : ∀ (z : Value) (q : Nat) (ys : List Value), w.ownsRow base 42 3 z q ys → z.ownBlock = none ∨ z.ownBlock ≠ some b := fun z q ys hz => by
      cases hzb : z.ownBlock with
      | none => exact .inl rfl
      | some k => exact .inr (fun e1 => by have := (hz.lt k hzb).1; have := S.lt; injection e1; omega)
    by_cases h : t = s
    · subst h
      have e1 : streamOf [(⟨t, e⟩ : En)] t = [e] := by simp [streamOf]
      rw [if_pos rfl, e1, List.length_append, List.flatMap_append]
      have := hown'.kept hg2 (hne _ _ _ hown')
      simpa using this
    · have e1 : streamOf [(⟨s, e⟩ : En)] t = [] := by unfold streamOf; rw [List.filter_cons_of_neg (by simpa using fun h2 => h h2.symm)]; rfl
      rw [if_neg h, e1, List.append_nil]
      have := (S.row t).kept hgr (S.apart t s h)
      exact this.kept hg2 (hne _ _ _ this)
  · have key : ∀ t, t ≠ s → (g t).ownBlock = none ∨ (g t).ownBlock ≠ v'.ownBlock := fun t ht => by
      rcases hor with e1 | ⟨k, e1, hk⟩
      · rw [e1]; exact S.apart t s ht
      · cases hz : (g t).ownBlock with
        | none => exact .inl rfl
        | some j => exact .inr (fun e2 => by have := (S.blk t j hz).2; rw [e1] at e2; injection e2; omega)
    by_cases h : t = s
    · by_cases h' : u = s
      · exact absurd (h.trans h'.symm) htu
      · rw [if_pos h, if_neg h']
        rcases key u h' with e1 | e1
        · cases hz : v'.ownBlock with
          | none => exact .inl rfl
          | some j => exact .inr (by rw [e1]; simp)
        · exact .inr e1.symm
    · by_cases h' : u = s
      · rw [if_neg h, if_pos h']; exact key t h
      · rw [if_neg h, if_neg h']; exact S.apart t u htu
/-- the same, as one step of a region that draws its order. -/
theorem put_step {ops : Array Oper} {o : Oper} {a : Act} {K : Act → World → Prop} {Q : Exit → Act → World → Prop} {E : Prop} (w0 w : World) (hg : o.guard = none) (m x v : Operand) (hop : o.op = Op.mapUpdate 93 m x v)
    {base b n : Nat} {l : List En} {D : DataW Value} {g : ByteArray → Value} (S : Streams w0 base b n l D g) (s : ByteArray) (e : Ev) (v' : Value) (hm : a.eval m = .map (some b)) (hx : a.eval x = .string s) (hv : a.eval v = v')
    (hs : s.size ≤ maxLen) (hn : n ≤ 1000000) (hgr : w0.grownBy w (g s).ownBlock) (hown' : w.ownsRow base 42 3 v' ((streamOf l s).length + 1) ((streamOf l s).flatMap evCells ++ evCells e))
    (hor : v'.ownBlock = (g s).ownBlock ∨ ∃ k, v'.ownBlock = some k ∧ w0.heap.size ≤ k)
    (hK : ∀ w2 D' g', Streams w2 base b (n + 1) (l ++ [⟨s, e⟩]) D' g' → w.grownBy w2 (some b) → K (a.put o.dst undef) w2) :
    if Region.wanted o (yielded ops a.tmps) = true then Oper.wp Tryd.prog o a w K Q else E := by
  have hw : Region.wanted o (yielded ops a.tmps) = true := by simp [Region.wanted, hg]
  rw [if_pos hw]
  obtain ⟨w2, D', g', hrun, h1, h2⟩ := put_run w0 w S s e v' hs hn hgr hown' hor
  unfold Oper.wp
  simp [execOp, hop, hm, hx, hv, hrun, Result.andThen]
  exact hK _ _ _ h1 h2
theorem streams_below {B : Nat} {W w0 w w2 : World} {base b n : Nat} {l : List En} {D : DataW Value} {g : ByteArray → Value} (S : Streams w0 base b n l D g) (s : ByteArray) (hnx : Below B W w0) (hgr : w0.grownBy w (g s).ownBlock) (hg2 : w.grownBy w2 (some b)) (hB : B ≤ b) (hB2 : B ≤ w0.heap.size) : Below B W w2 :=
  (hnx.grown hgr hB2 (fun j hj => Nat.le_trans (Nat.le_trans hB (Nat.le_of_lt S.lt)) (S.blk s j hj).1)).grown hg2 (Nat.le_trans hB2 hgr.size) (fun j hj => by cases hj; exact hB)
end Go.Proofs.YtnfncnpnkmjjeaaDoor
