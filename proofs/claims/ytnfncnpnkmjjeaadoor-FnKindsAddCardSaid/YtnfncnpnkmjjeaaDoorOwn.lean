/- Slices of structs: lists of cells by a list of elements; a slice cut out of another; appending one element, or a slice from whatever source, to a row of the call's own. -/
import Derived.Test.YtnfncnpnkmjjeaaDoorSl
import Derived.Maps.AppendAt
import Derived.Laws.AppendOwnNone
import Derived.Deep.RegionLaw
namespace Go.Proofs.YtnfncnpnkmjjeaaDoor
set_option linter.unusedVariables false
set_option linter.unusedSimpArgs false
open Go.RowKit

section
variable {α : Type} {f : α → List Value} {size : Nat}
theorem flat_len (hf : ∀ x, (f x).length = size) (l : List α) : (l.flatMap f).length = l.length * size := by
  induction l with
  | nil => simp
  | cons a l ih => rw [List.flatMap_cons, List.length_append, ih, hf, List.length_cons, Nat.add_mul, Nat.one_mul, Nat.add_comm]
theorem flat_take (hf : ∀ x, (f x).length = size) (l : List α) (k : Nat) : (l.take k).flatMap f = (l.flatMap f).take (k * size) := by
  induction l generalizing k with
  | nil => simp
  | cons a l ih =>
    cases k with
    | zero => simp
    | succ k =>
      have h1 : (f a).length ≤ (k + 1) * size := by rw [hf, Nat.add_mul]; omega
      have h2 : (k + 1) * size - size = k * size := by rw [Nat.add_mul]; omega
      rw [List.take_succ_cons, List.flatMap_cons, List.flatMap_cons, ih, List.take_append, List.take_of_length_le h1, hf, h2]
theorem flat_drop (hf : ∀ x, (f x).length = size) (l : List α) (k : Nat) : (l.drop k).flatMap f = (l.flatMap f).drop (k * size) := by
  induction l generalizing k with
  | nil => simp
  | cons a l ih =>
    cases k with
    | zero => simp
    | succ k =>
      have h1 : (f a).length ≤ (k + 1) * size := by rw [hf, Nat.add_mul]; omega
      have h2 : (k + 1) * size - size = k * size := by rw [Nat.add_mul]; omega
      rw [List.drop_succ_cons, List.flatMap_cons, ih, List.drop_append, List.drop_of_length_le h1, hf, h2, List.nil_append]
theorem flat_get (hf : ∀ x, (f x).length = size) (l : List α) (k j : Nat) (x : α) (h : l[k]? = some x) (hj : j < size) : (l.flatMap f)[k * size + j]? = (f x)[j]? := by
  induction l generalizing k with
  | nil => cases h
  | cons a l ih =>
    cases k with
    | zero =>
      obtain rfl : a = x := by simpa using h
      rw [List.flatMap_cons, Nat.zero_mul, Nat.zero_add, List.getElem?_append_left (by rw [hf]; exact hj)]
    | succ k =>
      rw [List.flatMap_cons, List.getElem?_append_right (by rw [hf, Nat.add_mul]; omega), hf, show (k + 1) * size + j - size = k * size + j by rw [Nat.add_mul]; omega]
      exact ih k (by simpa using h)
end

theorem Sl.cut {w : World} {B size n cap : Nat} {A : Option Addr} {xs : List Value} (h : Sl w B size A n xs) (lo hi : Nat) (h1 : lo ≤ hi) (h2 : hi ≤ n) (h3 : n ≤ cap) :
    Sl w B size (if cap = lo then A else A.map (·.add (lo * size))) (hi - lo) ((xs.drop (lo * size)).take ((hi - lo) * size)) := by
  have hm1 : hi * size ≤ n * size := Nat.mul_le_mul_right _ h2
  have hm2 : (hi - lo) * size = hi * size - lo * size := Nat.sub_mul _ _ _
  refine ⟨by rw [List.length_take, List.length_drop, h.1]; omega, fun hp => ?_⟩
  obtain ⟨b, off, rfl, hb, hx⟩ := h.2 (by omega)
  rw [if_neg (by omega)]
  refine ⟨b, off + lo * size, by simp [Addr.add], hb, fun j hj => ?_⟩
  rw [List.length_take, List.length_drop] at hj
  have := hx (lo * size + j) (by omega)
  rw [show off + lo * size + j = off + (lo * size + j) by omega, this]
  simp

/-- the slice with address A and n elements reads as the list l, each element by its cells. -/
def Row {α : Type} (f : α → List Value) (size : Nat) (w : World) (B : Nat) (A : Option Addr) (n : Nat) (l : List α) : Prop := l.length = n ∧ Sl w B size A n (l.flatMap f)
section
variable {α : Type} {f : α → List Value} {size : Nat} {w w' : World} {B n : Nat} {A : Option Addr} {l : List α}
theorem Row.below (h : Row f size w B A n l) (hb : Below B w w') : Row f size w' B A n l := ⟨h.1, h.2.below hb⟩
theorem Row.more {B' : Nat} (h : Row f size w B A n l) (hB : B ≤ B') : Row f size w B' A n l := ⟨h.1, h.2.more hB⟩
theorem Row.next (h : Row f size w w.heap.size A n l) (hb : Below w.heap.size w w') : Row f size w' w'.heap.size A n l := ⟨h.1, h.2.next hb⟩
theorem Row.nil (w : World) (B : Nat) (A : Option Addr) : Row f size w B A 0 [] := ⟨rfl, Sl.nil _ _ _ _⟩
theorem Row.at_ (hf : ∀ x, (f x).length = size) (h : Row f size w B A n l) (hn : 0 < n) :
    ∃ b off, A = some ⟨b, off, none⟩ ∧ b < B ∧ ∀ k x, l[k]? = some x → ∀ j u, (f x)[j]? = some u → w.cell? ⟨b, off + (k * size + j), none⟩ = some u := by
  obtain ⟨b, off, e, hb, hx⟩ := h.2.2 hn
  refine ⟨b, off, e, hb, fun k x hk j u hu => ?_⟩
  have hj : j < size := by rw [← hf x]; exact (List.getElem?_eq_some_iff.1 hu).1
  have := flat_get hf l k j x hk hj
  rw [hu] at this
  obtain ⟨h1, h2⟩ := List.getElem?_eq_some_iff.1 this
  rw [hx _ h1, h2]
theorem Row.cut {cap : Nat} (hf : ∀ x, (f x).length = size) (h : Row f size w B A n l) (lo hi : Nat) (h1 : lo ≤ hi) (h2 : hi ≤ n) (h3 : n ≤ cap) :
    Row f size w B (if cap = lo then A else A.map (·.add (lo * size))) (hi - lo) ((l.drop lo).take (hi - lo)) := by
  refine ⟨by rw [List.length_take, List.length_drop, h.1]; omega, ?_⟩
  rw [flat_take hf, flat_drop hf]
  exact h.2.cut lo hi h1 h2 h3
theorem Row.of_own {base : Nat} {e : TypeId} {v : Value} (h : w.ownsRow base e size v n (l.flatMap f)) (hl : l.length = n) : ∃ A c, v = .slice A n c ∧ n ≤ c ∧ (A = none → c = 0) ∧ Row f size w w.heap.size A n l ∧ (∀ p, A = some p → base ≤ p.block) := by
  obtain ⟨A, c, e1, h1, h2, h3⟩ := Sl.of_own h
  refine ⟨A, c, e1, h1, fun e2 => ?_, ⟨hl, h2⟩, h3⟩
  subst e1 e2
  rcases h.2 with ⟨h4, _⟩ | ⟨g, cap, cur, h4, _⟩
  · injection h4
  · injection h4 with h5; cases h5
end

/-! ### appending -/
section
variable {P : Program} {TS T : TypeId} {z : Value} {size bytes : Nat}
/-- what is known of an element type: its zero value, how many cells, how many bytes. -/
def Elem (P : Program) (TS T : TypeId) (z : Value) (size bytes : Nat) : Prop :=
  P.underlying TS = some (.slice T) ∧ (P.info? T).map (fun i => (i.zero, i.size, i.bytes)) = some (some z, size, bytes) ∧ z.cells.size = size ∧ 0 < size ∧ bytes ≤ 1000

variable {ops : Array Oper} {rest : List Oper} {o : Oper} {a : Act} {Q : Exit → Act → World → Prop}
theorem app_src (E : Elem P TS T z size bytes) (w : World) (hgd : o.guard = none) (s x : Operand)
    (ho : o.op = .call { callee := .builtin .append, args := #[s, x], argTypes := #[TS, TS] }) (base : Nat) (v : Value) (n : Nat) (xs : List Value) (hs : a.eval s = v)
    (hown : w.ownsRow base T size v n xs) (A : Option Addr) (m c B : Nat) (news : List Value) (hx : a.eval x = .slice A m c) (hnil : A = none → c = 0) (hsl : Sl w B size A m news)
    (h1 : ∀ u ∈ news, u.oneCell' = true) (hn : n ≤ 1000000000) (hm : m ≤ 1000000000) (hbase : base ≤ w.heap.size)
    (h : ∀ v' w', w'.ownsRow base T size v' (n + m) (xs ++ news) → w.grownBy w' v.ownBlock → (v'.ownBlock = v.ownBlock ∨ v'.ownBlock = some w.heap.size) → wpList P ops Q rest (a.put o.dst v') w') :
    wpList P ops Q (o :: rest) a w := by
  obtain ⟨hu, hinfo, hzs, hsz, hby⟩ := E
  obtain ⟨i0, hi, iz0, iz1, iz2⟩ := info_parts hinfo
  have hbb : (n + m) * bytes ≤ 140737488355328 := Nat.le_trans (Nat.mul_le_mul (show n + m ≤ 2000000000 by omega) hby) (by decide)
  cases A with
  | none =>
    obtain rfl := hnil rfl
    obtain rfl : m = 0 := by
      cases m with
      | zero => rfl
      | succ m => obtain ⟨b, off, e, _⟩ := hsl.2 (by omega); cases e
    have hnews : news = [] := List.eq_nil_of_length_eq_zero (by rw [hsl.1, Nat.zero_mul])
    subst hnews
    refine wpList_append_own_none hgd s x TS ho base T i0 size hu hi v n xs hs hown hx ?_
    refine h v w (by simpa using hown) ⟨rfl, rfl, rfl, Nat.le_refl _, fun _ _ _ => rfl⟩ (.inl rfl)
  | some ad =>
    have hcells : ∀ j u, news[j]? = some u → w.cell? (ad.add j) = some u := fun j u hj => by
      obtain ⟨hj1, hj2⟩ := List.getElem?_eq_some_iff.1 hj
      have hmp : 0 < m := by
        cases m with
        | zero => rw [hsl.1] at hj1; simp at hj1
        | succ m => omega
      obtain ⟨b, off, e, hb, hxx⟩ := hsl.2 hmp
      obtain rfl := Option.some.inj e
      have e2 : (⟨b, off, none⟩ : Addr).add j = ⟨b, off + j, none⟩ := by simp [Addr.add]
      rw [e2, hxx j hj1, hj2]
    refine wpList_append_own_at w hgd s x TS ho base T i0 z size bytes hu hi iz0 iz1 iz2 hzs hsz v n xs hs hown ad m c news hx hsl.1 hcells h1 (by unfold maxLen; omega) hbb hbase ?_
    intro v' w' h2 h3 _ h4
    exact h v' w' h2 h3 h4

/-- the same, as one step of a region that draws its order. -/
theorem app_src_step {K : Act → World → Prop} {F : Prop} (E : Elem P TS T z size bytes) (w : World) (hgd : o.guard = none) (s x : Operand)
    (ho : o.op = .call { callee := .builtin .append, args := #[s, x], argTypes := #[TS, TS] }) (base : Nat) (v : Value) (n : Nat) (xs : List Value) (hs : a.eval s = v)
    (hown : w.ownsRow base T size v n xs) (A : Option Addr) (m c B : Nat) (news : List Value) (hx : a.eval x = .slice A m c) (hnil : A = none → c = 0) (hsl : Sl w B size A m news)
    (h1 : ∀ u ∈ news, u.oneCell' = true) (hn : n ≤ 1000000000) (hm : m ≤ 1000000000) (hbase : base ≤ w.heap.size)
    (h : ∀ v' w', w'.ownsRow base T size v' (n + m) (xs ++ news) → w.grownBy w' v.ownBlock → (v'.ownBlock = v.ownBlock ∨ v'.ownBlock = some w.heap.size) → K (a.put o.dst v') w') :
    if Region.wanted o (yielded ops a.tmps) = true then Oper.wp P o a w K Q else F := by
  have hw : Region.wanted o (yielded ops a.tmps) = true := by simp [Region.wanted, hgd]
  rw [if_pos hw]
  obtain ⟨hu, hinfo, hzs, hsz, hby⟩ := E
  obtain ⟨i0, hi, iz0, iz1, iz2⟩ := info_parts hinfo
  have hbb : (n + m) * bytes ≤ 140737488355328 := Nat.le_trans (Nat.mul_le_mul (show n + m ≤ 2000000000 by omega) hby) (by decide)
  cases A with
  | none =>
    obtain rfl := hnil rfl
    obtain rfl : m = 0 := by
      cases m with
      | zero => rfl
      | succ m => obtain ⟨b, off, e, _⟩ := hsl.2 (by omega); cases e
    have hnews : news = [] := List.eq_nil_of_length_eq_zero (by rw [hsl.1, Nat.zero_mul])
    subst hnews
    have hrun := run_append_owned_none (P := P) (w := w) base TS o.type T i0 size hu hi v n xs hown
    unfold Oper.wp
    simp [execOp, ho, resolve, invoke, builtin, hs, hx, hrun, Result.andThen]
    exact h v w (by simpa using hown) ⟨rfl, rfl, rfl, Nat.le_refl _, fun _ _ _ => rfl⟩ (.inl rfl)
  | some ad =>
    have hcells : ∀ j u, news[j]? = some u → w.cell? (ad.add j) = some u := fun j u hj => by
      obtain ⟨hj1, hj2⟩ := List.getElem?_eq_some_iff.1 hj
      have hmp : 0 < m := by
        cases m with
        | zero => rw [hsl.1] at hj1; simp at hj1
        | succ m => omega
      obtain ⟨b, off, e, hb, hxx⟩ := hsl.2 hmp
      obtain rfl := Option.some.inj e
      have e2 : (⟨b, off, none⟩ : Addr).add j = ⟨b, off + j, none⟩ := by simp [Addr.add]
      rw [e2, hxx j hj1, hj2]
    obtain ⟨v', w', hr, h2, h3, _, h5⟩ := run_append_own_at (P := P) w base TS o.type T i0 z size bytes hu hi iz0 iz1 iz2 hzs hsz v n xs hown ad m c news hsl.1 hcells h1 (by unfold maxLen; omega) hbb hbase
    unfold Oper.wp execOp
    simp only [ho, resolve, invoke, builtin, Sem.run_bind, Sem.run_pure, Result.andThen_ok, List.map_toArray, List.map_cons, List.map_nil, hs, hx, hr]
    exact h v' w' h2 h3 h5

theorem cells_new (w : World) (cs : List Value) (t : TypeId) : ∀ j u, cs[j]? = some u → (w.alloc (.cells cs.toArray t)).cell? ((⟨w.heap.size, 0, none⟩ : Addr).add j) = some u := by
  intro j u hj
  have e2 : (⟨w.heap.size, 0, none⟩ : Addr).add j = ⟨w.heap.size, j, none⟩ := by simp only [Addr.add, Nat.zero_add]; split <;> simp_all
  rw [e2, cell_of_row _ _ _ _ _ (0, 0) (heap_alloc_new w _)]
  simpa using hj

theorem app_one (E : Elem P TS T z size bytes) (wr : World) (hgd : o.guard = none) (s x : Operand)
    (ho : o.op = .call { callee := .builtin .append, args := #[s, x], argTypes := #[TS, TS] }) (base : Nat) (v : Value) (n : Nat) (xs : List Value) (hs : a.eval s = v)
    (hown : wr.ownsRow base T size v n xs) (cs : List Value) (hx : a.eval x = .slice (some ⟨wr.heap.size, 0, none⟩) 1 1) (hcs : cs.length = size)
    (h1 : ∀ u ∈ cs, u.oneCell' = true) (hn : n ≤ 1000000000) (hbase : base ≤ wr.heap.size)
    (h : ∀ v' w', w'.ownsRow base T size v' (n + 1) (xs ++ cs) → wr.grownBy w' v.ownBlock → (v'.ownBlock = v.ownBlock ∨ v'.ownBlock = some (wr.heap.size + 1)) → wpList P ops Q rest (a.put o.dst v') w') :
    wpList P ops Q (o :: rest) a (wr.alloc (.cells cs.toArray T)) := by
  obtain ⟨hu, hinfo, hzs, hsz, hby⟩ := E
  obtain ⟨i0, hi, iz0, iz1, iz2⟩ := info_parts hinfo
  have hbb : (n + 1) * bytes ≤ 140737488355328 := Nat.le_trans (Nat.mul_le_mul (show n + 1 ≤ 2000000000 by omega) hby) (by decide)
  refine wpList_append_own_at _ hgd s x TS ho base T i0 z size bytes hu hi iz0 iz1 iz2 hzs hsz v n xs hs (hown.alloc _) ⟨wr.heap.size, 0, none⟩ 1 1 cs hx (by rw [hcs, Nat.one_mul]) (cells_new wr cs T) h1 (by unfold maxLen; omega) hbb (by simp; omega) ?_
  intro v' w' h2 h3 _ h4
  exact h v' w' h2 ((World.grownBy_alloc wr _ _).trans h3) (by simpa using h4)
/-- the same, where the new block's number is spelled otherwise. -/
theorem app_at (E : Elem P TS T z size bytes) (wr : World) (hgd : o.guard = none) (s x : Operand)
    (ho : o.op = .call { callee := .builtin .append, args := #[s, x], argTypes := #[TS, TS] }) (base : Nat) (v : Value) (n : Nat) (xs : List Value) (hs : a.eval s = v)
    (hown : wr.ownsRow base T size v n xs) (cs : List Value) (g : Nat) (hx : a.eval x = .slice (some ⟨g, 0, none⟩) 1 1) (hg : g = wr.heap.size) (hcs : cs.length = size)
    (h1 : ∀ u ∈ cs, u.oneCell' = true) (hn : n ≤ 1000000000) (hbase : base ≤ wr.heap.size)
    (h : ∀ v' w', w'.ownsRow base T size v' (n + 1) (xs ++ cs) → wr.grownBy w' v.ownBlock → (v'.ownBlock = v.ownBlock ∨ v'.ownBlock = some (wr.heap.size + 1)) → wpList P ops Q rest (a.put o.dst v') w') :
    wpList P ops Q (o :: rest) a (wr.alloc (.cells cs.toArray T)) := by
  subst hg
  exact app_one E wr hgd s x ho base v n xs hs hown cs hx hcs h1 hn hbase h
/-- the same, as one step of a region that draws its order. -/
theorem app_one_step {K : Act → World → Prop} {F : Prop} (E : Elem P TS T z size bytes) (wr : World) (hgd : o.guard = none) (s x : Operand)
    (ho : o.op = .call { callee := .builtin .append, args := #[s, x], argTypes := #[TS, TS] }) (base : Nat) (v : Value) (n : Nat) (xs : List Value) (hs : a.eval s = v)
    (hown : wr.ownsRow base T size v n xs) (cs : List Value) (hx : a.eval x = .slice (some ⟨wr.heap.size, 0, none⟩) 1 1) (hcs : cs.length = size)
    (h1 : ∀ u ∈ cs, u.oneCell' = true) (hn : n ≤ 1000000000) (hbase : base ≤ wr.heap.size)
    (h : ∀ v' w', w'.ownsRow base T size v' (n + 1) (xs ++ cs) → wr.grownBy w' v.ownBlock → (v'.ownBlock = v.ownBlock ∨ v'.ownBlock = some (wr.heap.size + 1)) → K (a.put o.dst v') w') :
    if Region.wanted o (yielded ops a.tmps) = true then Oper.wp P o a (wr.alloc (.cells cs.toArray T)) K Q else F := by
  have hw : Region.wanted o (yielded ops a.tmps) = true := by simp [Region.wanted, hgd]
  rw [if_pos hw]
  obtain ⟨hu, hinfo, hzs, hsz, hby⟩ := E
  obtain ⟨i0, hi, iz0, iz1, iz2⟩ := info_parts hinfo
  have hbb : (n + 1) * bytes ≤ 140737488355328 := Nat.le_trans (Nat.mul_le_mul (show n + 1 ≤ 2000000000 by omega) hby) (by decide)
  obtain ⟨v', w', hr, h2, h3, _, h5⟩ := run_append_own_at (P := P) (wr.alloc (.cells cs.toArray T)) base TS o.type T i0 z size bytes hu hi iz0 iz1 iz2 hzs hsz v n xs (hown.alloc _) ⟨wr.heap.size, 0, none⟩ 1 1 cs (by rw [hcs, Nat.one_mul]) (cells_new wr cs T) h1 (by unfold maxLen; omega) hbb (by simp; omega)
  unfold Oper.wp execOp
  simp only [ho, resolve, invoke, builtin, Sem.run_bind, Sem.run_pure, Result.andThen_ok, List.map_toArray, List.map_cons, List.map_nil, hs, hx, hr]
  exact h v' w' h2 ((World.grownBy_alloc wr _ _).trans h3) (by simpa using h5)
end
theorem own_below' {w w' : World} {B base size n : Nat} {e : TypeId} {v : Value} {xs : List Value} (h : w.ownsRow base e size v n xs) (hB : B ≤ base) {W : World} (hb : Below B W w) (hbs : B ≤ w.heap.size) (hg : w.grownBy w' v.ownBlock) : Below B W w' :=
  hb.grown hg hbs (fun k hk => Nat.le_trans hB (h.lt k hk).1)
theorem Sl.grown {w w' : World} {B size n : Nat} {A : Option Addr} {xs : List Value} {row : Option Nat} (h : Sl w B size A n xs) (hB : B ≤ w.heap.size) (hg : w.grownBy w' row) (hne : ∀ p, A = some p → row ≠ some p.block) : Sl w' B size A n xs := by
  refine ⟨h.1, fun hn => ?_⟩
  obtain ⟨b, off, e, hl, hx⟩ := h.2 hn
  have h1 := hne _ e
  refine ⟨b, off, e, hl, fun j hj => ?_⟩
  rw [← hx j hj]
  exact World.cell?_of_block (hg.block b (by omega) (fun e => h1 e.symm))
theorem Row.grown {α : Type} {f : α → List Value} {size : Nat} {w w' : World} {B n : Nat} {A : Option Addr} {l : List α} {row : Option Nat} (h : Row f size w B A n l) (hB : B ≤ w.heap.size) (hg : w.grownBy w' row) (hne : ∀ p, A = some p → row ≠ some p.block) : Row f size w' B A n l := ⟨h.1, h.2.grown hB hg hne⟩
theorem own_far {w : World} {base size n : Nat} {e : TypeId} {v : Value} {xs : List Value} (h : w.ownsRow base e size v n xs) (p : Addr) (u : Value) (hv : v.ownBlock ≠ some p.block) : (w.setCell p u).ownsRow base e size v n xs :=
  h.kept (row := some p.block) ⟨rfl, rfl, rfl, by simp, fun i hi hne => Below.heap_setCell w p u i (fun e => hne (by rw [e]))⟩ (.inr hv)
theorem own_next {w w' : World} {base size n : Nat} {e : TypeId} {v : Value} {xs : List Value} (h : w.ownsRow base e size v n xs) (hb : Below w.heap.size w w') : w'.ownsRow base e size v n xs := by
  refine h.kept (row := none) ⟨hb.os, hb.tape, hb.output, hb.size, fun k hk _ => hb.block k hk⟩ ?_
  cases hv : v.ownBlock with
  | none => exact .inl rfl
  | some k => exact .inr (by simp)
end Go.Proofs.YtnfncnpnkmjjeaaDoor
