/- Events, entries and stores, plainly: when they are valid, what the stream of a name is. -/
import Derived.Test.YtnfncnpnkmjjeaaDoorPlain
import Derived.Test.YtnfncnpnkmjjeaaDoorSl
namespace Go.Proofs.YtnfncnpnkmjjeaaDoor
set_option linter.unusedVariables false
set_option linter.unusedSimpArgs false

structure Ev where
  id : Int
  kind : ByteArray
  data : Int
  deriving DecidableEq, Inhabited
structure En where
  name : ByteArray
  ev : Ev
  deriving DecidableEq, Inhabited

/-- the element at a place. -/
def nx {α : Type} [Inhabited α] (l : List α) (k : Nat) : α := (l[k]?).getD default
theorem nx_of {α : Type} [Inhabited α] {l : List α} {k : Nat} {x : α} (h : l[k]? = some x) : nx l k = x := by unfold nx; rw [h]; rfl
theorem nx_get {α : Type} [Inhabited α] {l : List α} {k : Nat} (h : k < l.length) : l[k]? = some (nx l k) := by unfold nx; rw [List.getElem?_eq_getElem h]; rfl
theorem nx_eq {α : Type} [Inhabited α] {l : List α} {k : Nat} (h : k < l.length) : nx l k = l[k] := by unfold nx; rw [List.getElem?_eq_getElem h]; rfl
theorem nx_mem {α : Type} [Inhabited α] {l : List α} {k : Nat} (h : k < l.length) : nx l k ∈ l := by rw [nx_eq h]; exact List.getElem_mem h
theorem take_nx {α : Type} [Inhabited α] {l : List α} {k : Nat} (h : k < l.length) : l.take (k + 1) = l.take k ++ [nx l k] := by
  rw [List.take_succ_eq_append_getElem h, nx_eq h]
theorem nx_take {α : Type} [Inhabited α] {l : List α} {k n : Nat} (h : k < n) : nx (l.take n) k = nx l k := by unfold nx; rw [List.getElem?_take, if_pos h]

def evOk (e : Ev) : Bool := decide (1 ≤ e.id ∧ e.id ≤ 9999) && wordOk e.kind.data.toList && decide (0 ≤ e.data ∧ e.data ≤ 999)
def enOk (x : En) : Bool := nameOk x.name.data.toList && evOk x.ev
/-- events: each valid, none with the id of one ahead of it, at most 24. -/
def evsOk (l : List Ev) : Bool := decide (l.length ≤ 24) && allB l.length fun i => evOk (nx l i) && allB i fun k => decide ((nx l k).id ≠ (nx l i).id)
def sameId (a b : En) : Bool := decide (a.name = b.name) && decide (a.ev.id = b.ev.id)
def storeOk (l : List En) : Bool := decide (l.length ≤ 24) && allB l.length fun i => enOk (nx l i) && allB i fun k => !sameId (nx l k) (nx l i)
/-- the events of a stream. -/
def streamOf (l : List En) (s : ByteArray) : List Ev := (l.filter fun x => decide (x.name = s)).map (·.ev)

theorem allB_len {α : Type} [Inhabited α] {l : List α} {p : α → Bool} : allB l.length (fun i => p (nx l i)) = l.all p := by
  rw [Bool.eq_iff_iff, allB_iff, List.all_eq_true]
  constructor
  · intro h x hx
    obtain ⟨i, hi, rfl⟩ := List.mem_iff_getElem.1 hx
    rw [← nx_eq hi]; exact h i hi
  · intro h k hk; exact h _ (nx_mem hk)
theorem allB_and {n : Nat} {p q : Nat → Bool} : (allB n fun i => p i && q i) = (allB n p && allB n q) := by
  rw [Bool.eq_iff_iff, Bool.and_eq_true, allB_iff, allB_iff, allB_iff]
  constructor
  · intro h; exact ⟨fun k hk => (Bool.and_eq_true_iff.1 (h k hk)).1, fun k hk => (Bool.and_eq_true_iff.1 (h k hk)).2⟩
  · intro h k hk; rw [h.1 k hk, h.2 k hk]; rfl
theorem allB_pairs {α : Type} [Inhabited α] {l : List α} {r : α → α → Bool} : (allB l.length fun i => allB i fun k => r (nx l k) (nx l i)) = true ↔ l.Pairwise fun a b => r a b = true := by
  rw [List.pairwise_iff_getElem, allB_iff]
  constructor
  · intro h i j hi hj hij
    have := allB_at (h j hj) hij
    rwa [nx_eq hi, nx_eq hj] at this
  · intro h j hj
    refine allB_yes fun i hij => ?_
    rw [nx_eq hj, nx_eq (Nat.lt_trans hij hj)]
    exact h i j _ hj hij
theorem evsOk_iff {l : List Ev} : evsOk l = true ↔ l.length ≤ 24 ∧ (∀ e ∈ l, evOk e = true) ∧ l.Pairwise fun a b => a.id ≠ b.id := by
  unfold evsOk
  rw [Bool.and_eq_true, allB_and, Bool.and_eq_true, allB_len (p := evOk), allB_pairs (l := l) (r := fun a b : Ev => decide (a.id ≠ b.id)), List.all_eq_true, decide_eq_true_eq]
  simp only [decide_eq_true_eq]
theorem storeOk_iff {l : List En} : storeOk l = true ↔ l.length ≤ 24 ∧ (∀ x ∈ l, enOk x = true) ∧ l.Pairwise fun a b => ¬ (a.name = b.name ∧ a.ev.id = b.ev.id) := by
  unfold storeOk
  rw [Bool.and_eq_true, allB_and, Bool.and_eq_true, allB_len (p := enOk), allB_pairs (l := l) (r := fun a b : En => !sameId a b), List.all_eq_true, decide_eq_true_eq]
  have e : (fun a b : En => (!sameId a b) = true) = fun a b => ¬ (a.name = b.name ∧ a.ev.id = b.ev.id) := by
    funext a b; simp only [sameId, Bool.not_eq_true', Bool.and_eq_false_iff, decide_eq_false_iff_not, eq_iff_iff]; exact (Decidable.not_and_iff_not_or_not).symm
  rw [e]
theorem streamOf_len (l : List En) (s : ByteArray) : (streamOf l s).length ≤ l.length := by
  unfold streamOf; rw [List.length_map]; exact List.length_filter_le _ _
theorem streamOf_mem {l : List En} {s : ByteArray} {e : Ev} : e ∈ streamOf l s ↔ ⟨s, e⟩ ∈ l := by
  unfold streamOf
  rw [List.mem_map]
  constructor
  · rintro ⟨⟨n, e'⟩, h, rfl⟩
    rw [List.mem_filter] at h
    have := of_decide_eq_true h.2
    subst this
    exact h.1
  · intro h
    exact ⟨⟨s, e⟩, List.mem_filter.2 ⟨h, decide_eq_true rfl⟩, rfl⟩
theorem streamOf_pairs {l : List En} : (l.Pairwise fun a b => ¬ (a.name = b.name ∧ a.ev.id = b.ev.id)) ↔ ∀ s, (streamOf l s).Pairwise fun a b => a.id ≠ b.id := by
  unfold streamOf
  constructor
  · intro h s
    rw [List.pairwise_map, List.pairwise_filter]
    refine h.imp ?_
    intro a b hab ha hb e
    exact hab ⟨(of_decide_eq_true ha).trans (of_decide_eq_true hb).symm, e⟩
  · intro h
    rw [List.pairwise_iff_getElem]
    rintro i j hi hj hij ⟨e1, e2⟩
    have h' := h l[i].name
    rw [List.pairwise_map, List.pairwise_filter, List.pairwise_iff_getElem] at h'
    exact h' i j hi hj hij (decide_eq_true rfl) (decide_eq_true e1.symm) e2
/-- a store is valid where all entries are and each stream has valid events. -/
theorem storeOk_streams {l : List En} : storeOk l = true ↔ l.length ≤ 24 ∧ (∀ x ∈ l, enOk x = true) ∧ ∀ s, evsOk (streamOf l s) = true := by
  rw [storeOk_iff, streamOf_pairs]
  constructor
  · rintro ⟨h1, h2, h3⟩
    refine ⟨h1, h2, fun s => evsOk_iff.2 ⟨Nat.le_trans (streamOf_len l s) h1, fun e he => ?_, h3 s⟩⟩
    have := h2 _ (streamOf_mem.1 he)
    exact (Bool.and_eq_true_iff.1 this).2
  · rintro ⟨h1, h2, h3⟩
    exact ⟨h1, h2, fun s => (evsOk_iff.1 (h3 s)).2.2⟩
theorem streamOf_snoc (l : List En) (k : Nat) (h : k < l.length) (s : ByteArray) : streamOf (l.take (k + 1)) s = if (nx l k).name = s then streamOf (l.take k) s ++ [(nx l k).ev] else streamOf (l.take k) s := by
  unfold streamOf
  rw [take_nx h, List.filter_append, List.map_append]
  by_cases e : (nx l k).name = s <;> simp [e]
theorem streamOf_app (l m : List En) (s : ByteArray) : streamOf (l ++ m) s = streamOf l s ++ streamOf m s := by
  unfold streamOf; rw [List.filter_append, List.map_append]
end Go.Proofs.YtnfncnpnkmjjeaaDoor
