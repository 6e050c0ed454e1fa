/- Slices that read as lists of cells; tests over all places; the order of texts. -/
import Derived.Test.YtnfncnpnkmjjeaaDoorBase
import Derived.Sort.Walk0
import Derived.Laws.OwnMore
namespace Go.Proofs.YtnfncnpnkmjjeaaDoor
set_option linter.unusedVariables false
set_option linter.unusedSimpArgs false
open Go.RowKit

/-- the slice with address A and n elements of 'size' cells holds the cells xs, in a block below B. -/
def Sl (w : World) (B size : Nat) (A : Option Addr) (n : Nat) (xs : List Value) : Prop :=
  xs.length = n * size ∧ (0 < n → ∃ b off, A = some ⟨b, off, none⟩ ∧ b < B ∧ ∀ j, (h : j < xs.length) → w.cell? ⟨b, off + j, none⟩ = some xs[j])
theorem Sl.below {w w' : World} {B size n : Nat} {A : Option Addr} {xs : List Value} (h : Sl w B size A n xs) (hb : Below B w w') : Sl w' B size A n xs := by
  refine ⟨h.1, fun hn => ?_⟩
  obtain ⟨b, off, e, hl, hx⟩ := h.2 hn
  exact ⟨b, off, e, hl, fun j hj => (hb.cell (p := ⟨b, off + j, none⟩) hl).trans (hx j hj)⟩
theorem Sl.more {w : World} {B B' size n : Nat} {A : Option Addr} {xs : List Value} (h : Sl w B size A n xs) (hB : B ≤ B') : Sl w B' size A n xs := by
  refine ⟨h.1, fun hn => ?_⟩
  obtain ⟨b, off, e, hl, hx⟩ := h.2 hn
  exact ⟨b, off, e, by omega, hx⟩
theorem Sl.next {w w' : World} {size n : Nat} {A : Option Addr} {xs : List Value} (h : Sl w w.heap.size size A n xs) (hb : Below w.heap.size w w') : Sl w' w'.heap.size size A n xs :=
  (h.below hb).more hb.size
theorem Sl.nil (w : World) (B size : Nat) (A : Option Addr) : Sl w B size A 0 [] := ⟨by simp, fun h => absurd h (by omega)⟩
theorem Sl.of_own {w : World} {base size n : Nat} {e : TypeId} {v : Value} {xs : List Value} (h : w.ownsRow base e size v n xs) : ∃ A c, v = .slice A n c ∧ n ≤ c ∧ Sl w w.heap.size size A n xs ∧ (∀ p, A = some p → base ≤ p.block) := by
  rcases h.2 with ⟨rfl, rfl⟩ | ⟨g, cap, cur, rfl, hb, hh, hnc, _, hs, ht⟩
  · have hx : xs = [] := List.eq_nil_of_length_eq_zero (by simpa using h.1)
    subst hx
    exact ⟨none, 0, rfl, Nat.le_refl _, Sl.nil _ _ _ _, fun p hp => nomatch hp⟩
  · refine ⟨_, cap, rfl, hnc, ⟨h.1, fun hn => ⟨g, 0, rfl, (Array.getElem?_eq_some_iff.1 hh).1, fun j hj => ?_⟩⟩, fun p hp => by obtain rfl := Option.some.inj hp; exact hb⟩
    rw [Nat.zero_add, cell_of_row w g j cur e (0, 0) hh]
    obtain ⟨u, hu⟩ : ∃ u, xs[j] = u := ⟨_, rfl⟩
    have h1 : xs[j]? = some u := by rw [List.getElem?_eq_getElem hj, hu]
    rw [hu]
    clear hu
    rw [← ht, List.getElem?_take] at h1
    split at h1
    · rw [← h1]; simp
    · cases h1

theorem Sl.far {w : World} {B size n : Nat} {A : Option Addr} {xs : List Value} (h : Sl w B size A n xs) (q : Addr) (u : Value) (hq : ∀ p, A = some p → p.block ≠ q.block) : Sl (w.setCell q u) B size A n xs := by
  refine ⟨h.1, fun hn => ?_⟩
  obtain ⟨b, off, e, hl, hx⟩ := h.2 hn
  have hne := hq _ e
  exact ⟨b, off, e, hl, fun j hj => (by rw [← hx j hj]; simp only [World.cell?, Below.heap_setCell w q u b hne])⟩
/-- a slice of texts. -/
def Strs (w : World) (B : Nat) (A : Option Addr) (n : Nat) (ss : List ByteArray) : Prop := Sl w B 1 A n (ss.map Value.string)
theorem Strs.len {w : World} {B n : Nat} {A : Option Addr} {ss : List ByteArray} (h : Strs w B A n ss) : ss.length = n := by simpa using h.1
theorem Strs.at_ {w : World} {B n : Nat} {A : Option Addr} {ss : List ByteArray} (h : Strs w B A n ss) (hn : 0 < n) :
    ∃ b off, A = some ⟨b, off, none⟩ ∧ b < B ∧ ∀ j s, ss[j]? = some s → w.cell? ⟨b, off + j, none⟩ = some (.string s) := by
  obtain ⟨b, off, e, hl, hx⟩ := h.2 hn
  refine ⟨b, off, e, hl, fun j s hs => ?_⟩
  obtain ⟨hj, e2⟩ := List.getElem?_eq_some_iff.1 hs
  rw [hx j (by simpa using hj)]
  simp [e2]

/-! ### tests over all places -/
def allB (n : Nat) (p : Nat → Bool) : Bool := (List.range n).all p
theorem allB_no {n : Nat} {p : Nat → Bool} (k : Nat) (h : k < n) (hk : p k = false) : allB n p = false := by
  unfold allB; rw [List.all_eq_false]; exact ⟨k, List.mem_range.2 h, by rw [hk]; decide⟩
theorem allB_yes {n : Nat} {p : Nat → Bool} (h : ∀ k, k < n → p k = true) : allB n p = true := by
  unfold allB; rw [List.all_eq_true]; exact fun k hk => h k (List.mem_range.1 hk)
theorem allB_at {n : Nat} {p : Nat → Bool} (h : allB n p = true) {k : Nat} (hk : k < n) : p k = true := by
  unfold allB at h; rw [List.all_eq_true] at h; exact h k (List.mem_range.2 hk)
theorem allB_iff {n : Nat} {p : Nat → Bool} : allB n p = true ↔ ∀ k, k < n → p k = true := ⟨fun h _ hk => allB_at h hk, allB_yes⟩

/-! ### the order of texts, byte by byte -/
def ltB (a b : ByteArray) : Bool := Op.bytesLess a.toList b.toList
theorem ltB_iff (a b : ByteArray) : ltB a b = true ↔ a.data.toList < b.data.toList := by
  unfold ltB; rw [bytesLess_eq, ByteArray.toList_eq, ByteArray.toList_eq, decide_eq_true_eq]
theorem ltB_irrefl (a : ByteArray) : ltB a a = false := by
  cases h : ltB a a with
  | false => rfl
  | true => exact absurd ((ltB_iff a a).1 h) (List.lt_irrefl _)
theorem ltB_trans {a b c : ByteArray} (h : ltB a b = true) (k : ltB b c = true) : ltB a c = true :=
  (ltB_iff a c).2 (List.lt_trans ((ltB_iff a b).1 h) ((ltB_iff b c).1 k))
theorem ltB_asymm {a b : ByteArray} (h : ltB a b = true) : ltB b a = false := by
  cases k : ltB b a with
  | false => rfl
  | true => exact absurd (ltB_trans h k) (by rw [ltB_irrefl]; decide)
theorem ltB_ne {a b : ByteArray} (h : ltB a b = true) : a ≠ b := fun e => by rw [e, ltB_irrefl] at h; cases h
theorem bytes_same {s t : ByteArray} (h : s.data.toList = t.data.toList) : s = t := by
  apply ByteArray.ext
  exact Array.ext' h
theorem ltB_tri (a b : ByteArray) : ltB a b = true ∨ a = b ∨ ltB b a = true := by
  rw [ltB_iff, ltB_iff]
  by_cases h : a.data.toList < b.data.toList
  · exact .inl h
  · by_cases k : b.data.toList < a.data.toList
    · exact .inr (.inr k)
    · exact .inr (.inl (bytes_same (List.le_antisymm (List.not_lt.1 k) (List.not_lt.1 h))))
theorem toList_ne {a b : ByteArray} (h : a ≠ b) : (a.toList == b.toList) = false := by
  rw [ByteArray.toList_eq, ByteArray.toList_eq]; exact beq_eq_false_iff_ne.2 (fun e => h (bytes_same e))

/-! ### blocks that are known whole -/
def Blk (w : World) (g : Nat) (t : TypeId) (cs : Array Value) : Prop := w.heap[g]? = some (.cells cs t (0, 0))
section
variable {w w' : World} {g : Nat} {t : TypeId} {cs : Array Value}
theorem Blk.lt (h : Blk w g t cs) : g < w.heap.size := (Array.getElem?_eq_some_iff.1 h).1
theorem Blk.cell (h : Blk w g t cs) (i : Nat) : w.cell? ⟨g, i, none⟩ = cs[i]? := cell_of_row w g i cs t (0, 0) h
theorem Blk.frozen (h : Blk w g t cs) (i : Nat) : w.frozen? ⟨g, i, none⟩ = false := by unfold Blk at h; simp [World.frozen?, h]
theorem Blk.new (w : World) (t : TypeId) (cs : Array Value) : Blk (w.alloc (.cells cs t)) w.heap.size t cs := heap_alloc_new w _
theorem Blk.drewN (h : Blk w g t cs) (n : Nat) : Blk (w.drewN n) g t cs := h
theorem Blk.alloc (h : Blk w g t cs) (o : Obj) : Blk (w.alloc o) g t cs := (Below.heap_alloc w o g h.lt).trans h
theorem Blk.set_ (h : Blk w g t cs) (i : Nat) (u : Value) : Blk (w.setCell ⟨g, i, none⟩ u) g t (cs.setIfInBounds i u) := by
  unfold Blk at h ⊢
  simp [World.setCell, Array.getElem?_modify, h]
theorem Blk.far (h : Blk w g t cs) {p : Addr} (hp : g ≠ p.block) (u : Value) : Blk (w.setCell p u) g t cs := (Below.heap_setCell w p u g hp).trans h
theorem Blk.below {B : Nat} (h : Blk w g t cs) (hb : Below B w w') (hg : g < B) : Blk w' g t cs := (hb.block g hg).trans h
theorem Blk.next (h : Blk w g t cs) (hb : Below w.heap.size w w') : Blk w' g t cs := h.below hb h.lt
theorem Blk.grown {row : Option Nat} (h : Blk w g t cs) (hb : w.grownBy w' row) (hg : some g ≠ row) : Blk w' g t cs := (hb.block g h.lt hg).trans h
end
/-- two boxes that were laid ahead of a call, behind it. -/
theorem boxes2 {w w1 : World} {c0 c1 : Array Value} {t0 t1 : TypeId} (hb : Below ((w.alloc (.cells c0 t0)).alloc (.cells c1 t1)).heap.size ((w.alloc (.cells c0 t0)).alloc (.cells c1 t1)) w1) :
    Blk w1 w.heap.size t0 c0 ∧ Blk w1 (w.heap.size + 1) t1 c1 ∧ Below w.heap.size w w1 ∧ w.heap.size + 2 ≤ w1.heap.size := by
  have e1 : (w.alloc (.cells c0 t0)).heap.size = w.heap.size + 1 := by simp
  have e2 : ((w.alloc (.cells c0 t0)).alloc (.cells c1 t1)).heap.size = w.heap.size + 2 := by simp
  refine ⟨((Blk.new w t0 c0).alloc _).next hb, ?_, ?_, by rw [← e2]; exact hb.size⟩
  · have := Blk.new (w.alloc (.cells c0 t0)) t1 c1
    rw [e1] at this
    exact this.next hb
  · exact (((Below.refl w.heap.size w).alloc (Nat.le_refl _) _).alloc (by simp) _).trans (hb.mono (by rw [e2]; omega))
theorem boxes1 {w w1 : World} {c0 : Array Value} {t0 : TypeId} (hb : Below (w.alloc (.cells c0 t0)).heap.size (w.alloc (.cells c0 t0)) w1) :
    Blk w1 w.heap.size t0 c0 ∧ Below w.heap.size w w1 ∧ w.heap.size + 1 ≤ w1.heap.size := by
  have e1 : (w.alloc (.cells c0 t0)).heap.size = w.heap.size + 1 := by simp
  refine ⟨(Blk.new w t0 c0).next hb, ?_, by rw [← e1]; exact hb.size⟩
  exact ((Below.refl w.heap.size w).alloc (Nat.le_refl _) _).trans (hb.mono (by rw [e1]; omega))
theorem Strs.boxed2 {w : World} {A : Option Addr} {n : Nat} {ms : List ByteArray} (h : Strs w w.heap.size A n ms) (o1 o2 : Obj) : Strs ((w.alloc o1).alloc o2) ((w.alloc o1).alloc o2).heap.size A n ms :=
  Sl.next h (((Below.refl _ _).alloc (Nat.le_refl _) _).alloc (by simp) _)
theorem Strs.boxed1 {w : World} {A : Option Addr} {n : Nat} {ms : List ByteArray} (h : Strs w w.heap.size A n ms) (o1 : Obj) : Strs (w.alloc o1) (w.alloc o1).heap.size A n ms :=
  Sl.next h ((Below.refl _ _).alloc (Nat.le_refl _) _)
theorem Strs.next {w w' : World} {A : Option Addr} {n : Nat} {ms : List ByteArray} (h : Strs w w.heap.size A n ms) (hb : Below w.heap.size w w') : Strs w' w'.heap.size A n ms := Sl.next h hb
theorem Strs.nil (w : World) (B : Nat) (A : Option Addr) : Strs w B A 0 [] := Sl.nil _ _ _ _
end Go.Proofs.YtnfncnpnkmjjeaaDoor
