/- Rows of an index in memory, and trees of them. -/
import Derived.Test.YtnfncnpnkmjjeaaDoorPKind
import Derived.Test.YtnfncnpnkmjjeaaDoorIntsL
namespace Go.Proofs.YtnfncnpnkmjjeaaDoor
set_option linter.unusedVariables false
set_option linter.unusedSimpArgs false
open Go.RowKit

/-- a row's cells: a text, and a slice by its header. -/
structure RV where
  key : ByteArray
  A : Option Addr
  n : Nat
  c : Nat
  deriving Inhabited
def RV.sl (r : RV) : Value := .slice r.A r.n r.c
def rvCells (r : RV) : List Value := [.string r.key, .slice r.A r.n r.c]
theorem rvCells_len (r : RV) : (rvCells r).length = 2 := rfl
theorem elemRow : Elem Tryd.prog 34 40 (.agg #[.string ⟨#[]⟩, .slice none 0 0]) 2 40 := ⟨Tryd.underlying34, by kernel_rfl, rfl, by decide, by decide⟩
theorem flatV_snoc (l : List RV) (x : RV) : (l ++ [x]).flatMap rvCells = l.flatMap rvCells ++ [.string x.key, .slice x.A x.n x.c] := by rw [List.flatMap_append]; rfl
theorem flatN_snoc (l : List Nat) (x : Nat) : (l ++ [x]).flatMap intCells = l.flatMap intCells ++ [.int .i64 (x : Int)] := by rw [List.flatMap_append]; rfl
theorem rv_one (x : RV) : ∀ u ∈ [Value.string x.key, .slice x.A x.n x.c], u.oneCell' = true := fun u hu => by simp at hu; rcases hu with rfl | rfl <;> rfl

inductive Two {α β : Type} (R : α → β → Prop) : List α → List β → Prop
  | nil : Two R [] []
  | cons {a b l m} : R a b → Two R l m → Two R (a :: l) (b :: m)
section
variable {α β : Type} {R S : α → β → Prop} {l l' : List α} {m m' : List β}
theorem Two.len (h : Two R l m) : l.length = m.length := by induction h with
  | nil => rfl
  | cons _ _ ih => simp [ih]
theorem Two.imp (h : Two R l m) (k : ∀ a ∈ l, ∀ b, R a b → S a b) : Two S l m := by
  induction h with
  | nil => exact .nil
  | cons h1 _ ih => exact .cons (k _ (by simp) _ h1) (ih fun a ha => k a (by simp [ha]))
theorem Two.app (h : Two R l m) (k : Two R l' m') : Two R (l ++ l') (m ++ m') := by
  induction h with
  | nil => exact k
  | cons h1 _ ih => exact .cons h1 ih
theorem Two.at_ (h : Two R l m) {k : Nat} {b : β} (hk : m[k]? = some b) : ∃ a, l[k]? = some a ∧ R a b := by
  induction h generalizing k with
  | nil => cases hk
  | cons h1 _ ih =>
    cases k with
    | zero => obtain rfl := Option.some.inj hk; exact ⟨_, rfl, h1⟩
    | succ k => exact ih (by simpa using hk)
theorem Two.take (h : Two R l m) (k : Nat) : Two R (l.take k) (m.take k) := by
  induction h generalizing k with
  | nil => simp; exact .nil
  | cons h1 _ ih => cases k with
    | zero => exact .nil
    | succ k => exact .cons h1 (ih k)
theorem Two.drop (h : Two R l m) (k : Nat) : Two R (l.drop k) (m.drop k) := by
  induction h generalizing k with
  | nil => simp; exact .nil
  | cons h1 h2 ih => cases k with
    | zero => exact .cons h1 h2
    | succ k => exact ih k
end
/-- a row's slice reads as its places. -/
def KR (w : World) (B : Nat) (r : RV) (x : KRow) : Prop := r.key = x.key ∧ r.n ≤ r.c ∧ (r.A = none → r.c = 0) ∧ Row intCells 1 w B r.A r.n x.ats
theorem KR.below {w w' : World} {B : Nat} {r : RV} {x : KRow} (h : KR w B r x) (hb : Below B w w') : KR w' B r x := ⟨h.1, h.2.1, h.2.2.1, h.2.2.2.below hb⟩
theorem KR.more {w : World} {B B' : Nat} {r : RV} {x : KRow} (h : KR w B r x) (hB : B ≤ B') : KR w B' r x := ⟨h.1, h.2.1, h.2.2.1, h.2.2.2.more hB⟩
/-- a slice of rows reads as rows. -/
def Kinds (w : World) (A : Option Addr) (n : Nat) (ks : List KRow) : Prop := ∃ rs, Row rvCells 2 w w.heap.size A n rs ∧ Two (KR w w.heap.size) rs ks
section
variable {w w' : World} {A : Option Addr} {n : Nat} {ks : List KRow}
theorem Kinds.next (h : Kinds w A n ks) (hb : Below w.heap.size w w') : Kinds w' A n ks := by
  obtain ⟨rs, h1, h2⟩ := h
  exact ⟨rs, h1.next hb, h2.imp fun a _ b hab => (hab.below hb).more hb.size⟩
theorem Live.kinds (h : Kinds w A n ks) : Live w fun W => Kinds W A n ks := fun _ hW => h.next hW
theorem Kinds.len (h : Kinds w A n ks) : ks.length = n := by
  obtain ⟨rs, h1, h2⟩ := h
  rw [← h2.len, h1.1]
theorem Kinds.nil (w : World) (A : Option Addr) : Kinds w A 0 [] := ⟨[], Row.nil _ _ _, .nil⟩
theorem Kinds.at_ (h : Kinds w A n ks) (hn : 0 < n) : ∃ b off, A = some ⟨b, off, none⟩ ∧ b < w.heap.size ∧ ∀ k x, ks[k]? = some x → ∃ A' n' c', w.cell? ⟨b, off + k * 2, none⟩ = some (.string x.key) ∧ w.cell? ⟨b, off + k * 2 + 1, none⟩ = some (.slice A' n' c') ∧ n' ≤ c' ∧ (A' = none → c' = 0) ∧ Row intCells 1 w w.heap.size A' n' x.ats := by
  obtain ⟨rs, h1, h2⟩ := h
  obtain ⟨b, off, e, hb, hx⟩ := h1.at_ rvCells_len hn
  refine ⟨b, off, e, hb, fun k x hk => ?_⟩
  obtain ⟨r, hr, hk1, hk2, hk3, hk4⟩ := h2.at_ hk
  refine ⟨r.A, r.n, r.c, ?_, ?_, hk2, hk3, hk4⟩
  · rw [← hk1]; exact hx k r hr 0 _ rfl
  · exact hx k r hr 1 _ rfl
theorem Kinds.cut {cap : Nat} (h : Kinds w A n ks) (lo hi : Nat) (h1 : lo ≤ hi) (h2 : hi ≤ n) (h3 : n ≤ cap) :
    Kinds w (if cap = lo then A else A.map (·.add (lo * 2))) (hi - lo) ((ks.drop lo).take (hi - lo)) := by
  obtain ⟨rs, k1, k2⟩ := h
  exact ⟨_, k1.cut rvCells_len lo hi h1 h2 h3, (k2.drop lo).take (hi - lo)⟩
end

/-! ### what stays but for some blocks -/
structure Kept (S : Nat → Prop) (w w' : World) : Prop where
  os : w'.os = w.os
  tape : w'.tape = w.tape
  output : w'.output = w.output
  size : w.heap.size ≤ w'.heap.size
  block : ∀ k, k < w.heap.size → ¬ S k → w'.heap[k]? = w.heap[k]?
section
variable {S T : Nat → Prop} {w w' w'' : World}
theorem Kept.refl (S : Nat → Prop) (w : World) : Kept S w w := ⟨rfl, rfl, rfl, Nat.le_refl _, fun _ _ _ => rfl⟩
theorem Kept.trans (h : Kept S w w') (k : Kept S w' w'') : Kept S w w'' :=
  ⟨k.os.trans h.os, k.tape.trans h.tape, k.output.trans h.output, Nat.le_trans h.size k.size, fun i hi hS => (k.block i (Nat.lt_of_lt_of_le hi h.size) hS).trans (h.block i hi hS)⟩
theorem Kept.imp (h : Kept S w w') (k : ∀ i, i < w.heap.size → S i → T i) : Kept T w w' := ⟨h.os, h.tape, h.output, h.size, fun i hi hS => h.block i hi fun hs => hS (k i hi hs)⟩
theorem Kept.below {B : Nat} (h : Kept S w w') (hS : ∀ i, S i → B ≤ i) (hB : B ≤ w.heap.size) : Below B w w' :=
  ⟨h.os, h.tape, h.output, h.size, fun i hi => h.block i (by omega) fun hs => by have := hS i hs; omega⟩
theorem Kept.of_below (h : Below w.heap.size w w') : Kept S w w' := ⟨h.os, h.tape, h.output, h.size, fun i hi _ => h.block i hi⟩
theorem Kept.of_grown {row : Option Nat} (h : w.grownBy w' row) (k : ∀ g, row = some g → S g ∨ w.heap.size ≤ g) : Kept S w w' :=
  ⟨h.os, h.tape, h.output, h.size, fun i hi hS => h.block i hi fun e => by rcases k i e.symm with h1 | h1; exact hS h1; omega⟩
theorem Kept.set_ (w : World) (p : Addr) (u : Value) (hS : S p.block) : Kept S w (w.setCell p u) :=
  ⟨rfl, rfl, rfl, by simp, fun i _ hs => Below.heap_setCell w p u i (fun e => hs (e ▸ hS))⟩
theorem Kept.alloc (w : World) (o : Obj) : Kept S w (w.alloc o) := Kept.of_below ((Below.refl _ _).alloc (Nat.le_refl _) o)
theorem Blk.kept {g : Nat} {t : TypeId} {cs : Array Value} (h : Blk w g t cs) (hk : Kept S w w') (hS : ¬ S g) : Blk w' g t cs := (hk.block g h.lt hS).trans h
theorem own_kept {base size n : Nat} {e : TypeId} {v : Value} {xs : List Value} (h : w.ownsRow base e size v n xs) (hk : Kept S w w') (hS : ∀ g, v.ownBlock = some g → ¬ S g) : w'.ownsRow base e size v n xs := by
  refine ⟨h.1, ?_⟩
  rcases h.2 with hn | ⟨g, cap, cur, rfl, hb, hgg, rest⟩
  · exact .inl hn
  · exact .inr ⟨g, cap, cur, rfl, hb, (hk.block g (Array.getElem?_eq_some_iff.1 hgg).1 (hS g rfl)).trans hgg, rest⟩
theorem own_base {base base' size n : Nat} {e : TypeId} {v : Value} {xs : List Value} (h : w.ownsRow base e size v n xs) (hb : base' ≤ base) : w.ownsRow base' e size v n xs := by
  refine ⟨h.1, ?_⟩
  rcases h.2 with hn | ⟨g, cap, cur, rfl, hg, rest⟩
  · exact .inl hn
  · exact .inr ⟨g, cap, cur, rfl, Nat.le_trans hb hg, rest⟩
end

/-! ### trees -/
inductive RT
  | leaf
  | node (b : Nat) (r : RV) (ats : List Nat) (l rr : RT)
namespace RT
def ptr : RT → Value
  | leaf => .pointer none
  | node b _ _ _ _ => .pointer (some ⟨b, 0, none⟩)
def rvs : RT → List RV
  | leaf => []
  | node _ r _ l rr => l.rvs ++ r :: rr.rvs
def rows : RT → List KRow
  | leaf => []
  | node _ r ats l rr => l.rows ++ ⟨r.key, ats⟩ :: rr.rows
def ownB (r : RV) : List Nat := (r.sl.ownBlock).toList
def fp : RT → List Nat
  | leaf => []
  | node b r _ l rr => b :: (ownB r ++ (l.fp ++ rr.fp))
def At (w : World) (base : Nat) : RT → Prop
  | leaf => True
  | node b r ats l rr => (Blk w b 98 #[.string r.key, .slice r.A r.n r.c, l.ptr, rr.ptr] ∧ base ≤ b) ∧ (w.ownsRow base 3 1 (.slice r.A r.n r.c) r.n (ats.flatMap intCells) ∧ ats.length = r.n) ∧ At w base l ∧ At w base rr
theorem fp_lt {w : World} {base : Nat} : ∀ {t : RT}, t.At w base → ∀ g ∈ t.fp, base ≤ g ∧ g < w.heap.size := by
  intro t
  induction t with
  | leaf => intro _ g hg; cases hg
  | node b r ats l rr ih1 ih2 =>
    rintro ⟨⟨h1, h2⟩, ⟨h3, _⟩, h4, h5⟩ g hg
    simp only [fp, List.mem_cons, List.mem_append] at hg
    rcases hg with rfl | hg | hg | hg
    · exact ⟨h2, h1.lt⟩
    · exact h3.lt g (by simpa [ownB, RV.sl] using hg)
    · exact ih1 h4 g hg
    · exact ih2 h5 g hg
theorem At.kept {S : Nat → Prop} {w w' : World} {base : Nat} (hk : Kept S w w') : ∀ {t : RT}, t.At w base → (∀ g ∈ t.fp, ¬ S g) → t.At w' base := by
  intro t
  induction t with
  | leaf => intro _ _; trivial
  | node b r ats l rr ih1 ih2 =>
    rintro ⟨⟨h1, h2⟩, ⟨h3, h3'⟩, h4, h5⟩ hS
    simp only [fp, List.mem_cons, List.mem_append] at hS
    exact ⟨⟨h1.kept hk (hS b (.inl rfl)), h2⟩, ⟨own_kept h3 hk (fun g hg => hS g (.inr (.inl (by simpa [ownB, RV.sl] using hg)))), h3'⟩, ih1 h4 (fun g hg => hS g (.inr (.inr (.inl hg)))), ih2 h5 (fun g hg => hS g (.inr (.inr (.inr hg))))⟩
theorem At.base {w : World} {base base' : Nat} (hb : base' ≤ base) : ∀ {t : RT}, t.At w base → t.At w base' := by
  intro t
  induction t with
  | leaf => intro _; trivial
  | node b r ats l rr ih1 ih2 =>
    rintro ⟨⟨h1, h2⟩, ⟨h3, h3'⟩, h4, h5⟩
    exact ⟨⟨h1, Nat.le_trans hb h2⟩, ⟨own_base h3 hb, h3'⟩, ih1 h4, ih2 h5⟩
theorem At.two {w : World} {base : Nat} : ∀ {t : RT}, t.At w base → Two (KR w w.heap.size) t.rvs t.rows := by
  intro t
  induction t with
  | leaf => intro _; exact .nil
  | node b r ats l rr ih1 ih2 =>
    rintro ⟨_, ⟨h3, h3'⟩, h4, h5⟩
    obtain ⟨A, c, e, h6, h7, h8, _⟩ := Row.of_own h3 h3'
    injection e with e1 e2 e3
    subst e1 e3
    exact (ih1 h4).app (.cons ⟨rfl, h6, h7, h8⟩ (ih2 h5))
theorem fp_rvs {t : RT} {r : RV} (h : r ∈ t.rvs) : ∀ g, r.sl.ownBlock = some g → g ∈ t.fp := by
  induction t with
  | leaf => cases h
  | node b r' ats l rr ih1 ih2 =>
    intro g hg
    simp only [fp, List.mem_cons, List.mem_append]
    rcases List.mem_append.1 h with h | h
    · exact .inr (.inr (.inl (ih1 h g hg)))
    · rcases List.mem_cons.1 h with rfl | h
      · exact .inr (.inl (by simp [ownB, hg]))
      · exact .inr (.inr (.inr (ih2 h g hg)))
theorem fp_len {t : RT} : t.rvs.length = t.rows.length := by
  induction t with
  | leaf => rfl
  | node b r' ats l rr ih1 ih2 => simp [rvs, rows, ih1, ih2]
end RT
end Go.Proofs.YtnfncnpnkmjjeaaDoor
