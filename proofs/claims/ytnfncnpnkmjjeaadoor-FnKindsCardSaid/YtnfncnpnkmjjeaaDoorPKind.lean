/- The rows of all kinds, plainly: one place put among rows, the rows of a store; trees of rows. -/
import Derived.Test.YtnfncnpnkmjjeaaDoorPStore
namespace Go.Proofs.YtnfncnpnkmjjeaaDoor
set_option linter.unusedVariables false
set_option linter.unusedSimpArgs false

structure KRow where
  key : ByteArray
  ats : List Nat
  deriving Inhabited
def SortedK (l : List KRow) : Prop := l.Pairwise fun a b => ltB a.key b.key = true
/-! ### one put among rows -/
def addK (s t : KRow) : KRow := ⟨s.key, s.ats ++ t.ats⟩
def putK : List KRow → KRow → List KRow
  | [], t => [t]
  | x :: l, t => if x.key = t.key then addK x t :: l else if ltB t.key x.key = true then t :: x :: l else x :: putK l t
theorem putK_nil (t : KRow) : putK [] t = [t] := rfl
theorem putK_same {x t : KRow} (l : List KRow) (h : x.key = t.key) : putK (x :: l) t = addK x t :: l := by unfold putK; rw [if_pos h]
theorem putK_gt {x t : KRow} (l : List KRow) (h : ltB t.key x.key = true) : putK (x :: l) t = t :: x :: l := by
  unfold putK; rw [if_neg (fun e => ltB_ne h e.symm), if_pos h]
theorem putK_lt1 {x t : KRow} (l : List KRow) (h : ltB x.key t.key = true) : putK (x :: l) t = x :: putK l t := by
  rw [putK, if_neg (ltB_ne h), if_neg (by rw [ltB_asymm h]; decide)]
theorem putK_lt {a : List KRow} {t : KRow} (b : List KRow) (h : ∀ y ∈ a, ltB y.key t.key = true) : putK (a ++ b) t = a ++ putK b t := by
  induction a with
  | nil => rfl
  | cons x a ih => rw [List.cons_append, putK_lt1 _ (h x (by simp)), ih (fun y hy => h y (by simp [hy])), List.cons_append]
theorem putK_tri (x t : KRow) (l : List KRow) : (x.key = t.key ∧ putK (x :: l) t = addK x t :: l) ∨ (ltB t.key x.key = true ∧ putK (x :: l) t = t :: x :: l) ∨ (ltB x.key t.key = true ∧ putK (x :: l) t = x :: putK l t) := by
  rcases ltB_tri x.key t.key with h | h | h
  · exact .inr (.inr ⟨h, putK_lt1 l h⟩)
  · exact .inl ⟨h, putK_same l h⟩
  · exact .inr (.inl ⟨h, putK_gt l h⟩)
theorem putK_len (l : List KRow) (t : KRow) : l.length ≤ (putK l t).length ∧ (putK l t).length ≤ l.length + 1 := by
  induction l with
  | nil => exact ⟨Nat.zero_le _, Nat.le_refl _⟩
  | cons x l ih => rcases putK_tri x t l with ⟨_, e⟩ | ⟨_, e⟩ | ⟨_, e⟩ <;> rw [e] <;> simp only [List.length_cons] <;> omega
theorem putK_mem {l : List KRow} {t y : KRow} (h : y ∈ putK l t) : y ∈ l ∨ y = t ∨ ∃ x ∈ l, x.key = t.key ∧ y = addK x t := by
  induction l with
  | nil => exact .inr (.inl (List.mem_singleton.1 h))
  | cons x l ih =>
    rcases putK_tri x t l with ⟨h1, e⟩ | ⟨_, e⟩ | ⟨_, e⟩
    · rw [e] at h
      rcases List.mem_cons.1 h with h | h
      · exact .inr (.inr ⟨x, by simp, h1, h⟩)
      · exact .inl (by simp [h])
    · rw [e] at h
      rcases List.mem_cons.1 h with h | h
      · exact .inr (.inl h)
      · exact .inl h
    · rw [e] at h
      rcases List.mem_cons.1 h with h | h
      · exact .inl (by simp [h])
      · rcases ih h with h | h | ⟨z, h1, h2⟩
        · exact .inl (by simp [h])
        · exact .inr (.inl h)
        · exact .inr (.inr ⟨z, by simp [h1], h2⟩)
theorem putK_key {l : List KRow} {t y : KRow} (h : y ∈ putK l t) : (∃ x ∈ l, x.key = y.key) ∨ y.key = t.key := by
  rcases putK_mem h with h | h | ⟨x, h1, h2, h3⟩
  · exact .inl ⟨y, h, rfl⟩
  · exact .inr (by rw [h])
  · exact .inl ⟨x, h1, by rw [h3]; rfl⟩
theorem putK_sorted {l : List KRow} (t : KRow) (h : SortedK l) : SortedK (putK l t) := by
  induction l with
  | nil => exact List.pairwise_singleton _ _
  | cons x l ih =>
    obtain ⟨h1, h2⟩ := List.pairwise_cons.1 h
    rcases putK_tri x t l with ⟨_, e⟩ | ⟨hl, e⟩ | ⟨hl, e⟩
    · rw [e]; exact List.pairwise_cons.2 ⟨h1, h2⟩
    · rw [e]
      refine List.pairwise_cons.2 ⟨fun y hy => ?_, h⟩
      rcases List.mem_cons.1 hy with hy | hy
      · rw [hy]; exact hl
      · exact ltB_trans hl (h1 y hy)
    · rw [e]
      refine List.pairwise_cons.2 ⟨fun y hy => ?_, ih h2⟩
      rcases putK_key hy with ⟨z, hz, e⟩ | e
      · rw [← e]; exact h1 z hz
      · rw [e]; exact hl
/-! ### the reference's way, step by step -/
def stepK (t : KRow) (s : Bool × List KRow) (x : KRow) : Bool × List KRow :=
  if x.key = t.key then (true, s.2 ++ [addK x t]) else if s.1 = false ∧ ltB t.key x.key = true then (true, s.2 ++ [t] ++ [x]) else (s.1, s.2 ++ [x])
def runK (t : KRow) (l : List KRow) (k : Nat) : Bool × List KRow := (l.take k).foldl (stepK t) (false, [])
def endK (t : KRow) (s : Bool × List KRow) : List KRow := if s.1 then s.2 else s.2 ++ [t]
theorem runK_succ {t : KRow} {l : List KRow} {k : Nat} (h : k < l.length) : runK t l (k + 1) = stepK t (runK t l k) (nx l k) := by
  unfold runK; rw [take_nx h, List.foldl_append]; rfl
theorem stepK_rest {t : KRow} {l : List KRow} (h : ∀ y ∈ l, y.key ≠ t.key) (acc : List KRow) : l.foldl (stepK t) (true, acc) = (true, acc ++ l) := by
  induction l generalizing acc with
  | nil => simp
  | cons x l ih =>
    rw [List.foldl_cons]
    have : stepK t (true, acc) x = (true, acc ++ [x]) := by unfold stepK; rw [if_neg (h x (by simp)), if_neg (by simp)]
    rw [this, ih (fun y hy => h y (by simp [hy]))]
    simp
theorem runK_put_acc {t : KRow} {l : List KRow} (h : SortedK l) (acc : List KRow) : endK t (l.foldl (stepK t) (false, acc)) = acc ++ putK l t := by
  induction l generalizing acc with
  | nil => rfl
  | cons x l ih =>
    obtain ⟨h1, h2⟩ := List.pairwise_cons.1 h
    rw [List.foldl_cons]
    rcases putK_tri x t l with ⟨hx, e⟩ | ⟨hl, e⟩ | ⟨hl, e⟩
    · have : stepK t (false, acc) x = (true, acc ++ [addK x t]) := by unfold stepK; rw [if_pos hx]
      rw [this, stepK_rest (fun y hy => fun k => ltB_ne (h1 y hy) (hx.trans k.symm)), e]
      simp [endK]
    · have : stepK t (false, acc) x = (true, acc ++ [t] ++ [x]) := by unfold stepK; rw [if_neg (fun k => ltB_ne hl k.symm), if_pos ⟨rfl, hl⟩]
      rw [this, stepK_rest (fun y hy => fun k => ltB_ne (ltB_trans hl (h1 y hy)) k.symm), e]
      simp [endK]
    · have : stepK t (false, acc) x = (false, acc ++ [x]) := by unfold stepK; rw [if_neg (ltB_ne hl), if_neg (by rw [ltB_asymm hl]; simp)]
      rw [this, ih h2, e]
      simp
theorem runK_put {t : KRow} {l : List KRow} (h : SortedK l) : endK t (runK t l l.length) = putK l t := by
  unfold runK; rw [List.take_length, runK_put_acc h]; rfl
theorem runK_len (t : KRow) (l : List KRow) (k : Nat) : (runK t l k).2.length ≤ 2 * k := by
  unfold runK
  have : ∀ (m : List KRow) (s : Bool × List KRow), (m.foldl (stepK t) s).2.length ≤ s.2.length + 2 * m.length := by
    intro m
    induction m with
    | nil => intro s; simp
    | cons x m ih =>
      intro s
      rw [List.foldl_cons]
      have := ih (stepK t s x)
      have h2 : (stepK t s x).2.length ≤ s.2.length + 2 := by
        unfold stepK
        split
        · simp
        · split <;> simp
      simp only [List.length_cons]
      omega
  have h := this (l.take k) (false, [])
  rw [List.length_take] at h
  simp only [List.length_nil] at h
  omega


theorem putK_app {x t : KRow} (a b : List KRow) (h : ltB t.key x.key = true) : putK (a ++ x :: b) t = putK a t ++ x :: b := by
  induction a with
  | nil => rw [List.nil_append, putK_gt _ h]; rfl
  | cons y a ih =>
    rw [List.cons_append]
    rcases ltB_tri y.key t.key with e | e | e
    · rw [putK_lt1 _ e, putK_lt1 _ e, ih]; rfl
    · rw [putK_same _ e, putK_same _ e]; rfl
    · rw [putK_gt _ e, putK_gt _ e]; rfl

/-! ### the rows of a store -/
def kindsTo (xs : List En) : Nat → List KRow
  | 0 => []
  | k + 1 => putK (kindsTo xs k) ⟨(nx xs k).ev.kind, [k]⟩
def kindsOf (xs : List En) : List KRow := if storeOk xs then kindsTo xs xs.length else []
theorem kindsOf_no {xs : List En} (h : storeOk xs = false) : kindsOf xs = [] := by unfold kindsOf; rw [h]; rfl
theorem kindsOf_yes {xs : List En} (h : storeOk xs = true) : kindsOf xs = kindsTo xs xs.length := by unfold kindsOf; rw [h]; rfl
theorem kindsTo_sorted (xs : List En) (k : Nat) : SortedK (kindsTo xs k) := by
  induction k with
  | zero => exact List.Pairwise.nil
  | succ k ih => exact putK_sorted _ ih
theorem kindsTo_len (xs : List En) (k : Nat) : (kindsTo xs k).length ≤ k := by
  induction k with
  | zero => exact Nat.le_refl _
  | succ k ih =>
    have := (putK_len (kindsTo xs k) ⟨(nx xs k).ev.kind, [k]⟩).2
    show (putK _ _).length ≤ _
    omega
theorem kindsTo_at (xs : List En) (k : Nat) : ∀ r ∈ kindsTo xs k, r.ats ≠ [] ∧ r.ats.Pairwise (· < ·) ∧ ∀ p ∈ r.ats, p < k ∧ (nx xs p).ev.kind = r.key := by
  induction k with
  | zero => intro r hr; cases hr
  | succ k ih =>
    intro r hr
    rcases putK_mem hr with h | rfl | ⟨x, hx, hk, rfl⟩
    · obtain ⟨h1, h2, h3⟩ := ih r h
      exact ⟨h1, h2, fun p hp => ⟨by have := (h3 p hp).1; omega, (h3 p hp).2⟩⟩
    · refine ⟨by simp, List.pairwise_singleton _ _, fun p hp => ?_⟩
      obtain rfl := List.mem_singleton.1 hp
      exact ⟨by omega, rfl⟩
    · obtain ⟨h1, h2, h3⟩ := ih x hx
      refine ⟨by simp [addK], ?_, fun p hp => ?_⟩
      · refine List.pairwise_append.2 ⟨h2, List.pairwise_singleton _ _, fun a ha b hb => ?_⟩
        obtain rfl := List.mem_singleton.1 hb
        exact (h3 a ha).1
      · rcases List.mem_append.1 hp with hp | hp
        · exact ⟨by have := (h3 p hp).1; omega, (h3 p hp).2⟩
        · obtain rfl := List.mem_singleton.1 hp
          exact ⟨by omega, hk.symm⟩
def sumL (l : List KRow) : Nat := (l.map fun r => r.ats.length).sum
theorem putK_sum (l : List KRow) (t : KRow) : sumL (putK l t) = sumL l + t.ats.length := by
  unfold sumL
  induction l with
  | nil => simp [putK]
  | cons x l ih => rcases putK_tri x t l with ⟨_, e⟩ | ⟨_, e⟩ | ⟨_, e⟩ <;> rw [e] <;> simp only [List.map_cons, List.sum_cons, addK, List.length_append] <;> omega
theorem kindsTo_sum (xs : List En) (k : Nat) : sumL (kindsTo xs k) = k := by
  induction k with
  | zero => rfl
  | succ k ih => exact (putK_sum _ _).trans (by rw [ih]; rfl)
theorem putK_keep {l : List KRow} {t r : KRow} (h : r ∈ l) : ∃ y ∈ putK l t, y.key = r.key ∧ ∀ p ∈ r.ats, p ∈ y.ats := by
  induction l with
  | nil => cases h
  | cons x l ih =>
    rcases putK_tri x t l with ⟨_, e⟩ | ⟨_, e⟩ | ⟨_, e⟩ <;> rw [e]
    · rcases List.mem_cons.1 h with rfl | h
      · exact ⟨_, List.mem_cons_self, rfl, fun p hp => List.mem_append_left _ hp⟩
      · exact ⟨r, List.mem_cons_of_mem _ h, rfl, fun p hp => hp⟩
    · exact ⟨r, List.mem_cons_of_mem _ h, rfl, fun p hp => hp⟩
    · rcases List.mem_cons.1 h with rfl | h
      · exact ⟨r, List.mem_cons_self, rfl, fun p hp => hp⟩
      · obtain ⟨y, hy, h1, h2⟩ := ih h
        exact ⟨y, List.mem_cons_of_mem _ hy, h1, h2⟩
theorem putK_new (l : List KRow) (t : KRow) : ∃ y ∈ putK l t, y.key = t.key ∧ ∀ p ∈ t.ats, p ∈ y.ats := by
  induction l with
  | nil => exact ⟨t, List.mem_cons_self, rfl, fun p hp => hp⟩
  | cons x l ih =>
    rcases putK_tri x t l with ⟨hx, e⟩ | ⟨_, e⟩ | ⟨_, e⟩ <;> rw [e]
    · exact ⟨_, List.mem_cons_self, hx, fun p hp => List.mem_append_right _ hp⟩
    · exact ⟨t, List.mem_cons_self, rfl, fun p hp => hp⟩
    · obtain ⟨y, hy, h1, h2⟩ := ih
      exact ⟨y, List.mem_cons_of_mem _ hy, h1, h2⟩
theorem kindsTo_has (xs : List En) (k j : Nat) (hj : j < k) : ∃ r ∈ kindsTo xs k, r.key = (nx xs j).ev.kind ∧ j ∈ r.ats := by
  induction k with
  | zero => omega
  | succ k ih =>
    by_cases e : j = k
    · subst e
      obtain ⟨y, hy, h1, h2⟩ := putK_new (kindsTo xs j) ⟨(nx xs j).ev.kind, [j]⟩
      exact ⟨y, hy, h1, h2 j List.mem_cons_self⟩
    · obtain ⟨r, hr, h1, h2⟩ := ih (by omega)
      obtain ⟨y, hy, h3, h4⟩ := putK_keep (t := ⟨(nx xs k).ev.kind, [k]⟩) hr
      exact ⟨y, hy, h3.trans h1, h4 j h2⟩
/-- what makes rows valid. -/
structure KOk (l : List KRow) : Prop where
  sorted : SortedK l
  key : ∀ r ∈ l, wordOk r.key.data.toList = true
  some_ : ∀ r ∈ l, r.ats ≠ []
  asc : ∀ r ∈ l, r.ats.Pairwise (· < ·)
  few : ∀ r ∈ l, ∀ p ∈ r.ats, p ≤ 99
  once : ∀ r ∈ l, ∀ y ∈ l, ∀ p, p ∈ r.ats → p ∈ y.ats → r.key = y.key
theorem kindsTo_ok {xs : List En} (h : ∀ x ∈ xs, enOk x = true) (k : Nat) (hk : k ≤ xs.length) (hb : k ≤ 100) : KOk (kindsTo xs k) := by
  have hat := kindsTo_at xs k
  refine ⟨kindsTo_sorted xs k, fun r hr => ?_, fun r hr => (hat r hr).1, fun r hr => (hat r hr).2.1, fun r hr p hp => by have := ((hat r hr).2.2 p hp).1; omega, fun r hr y hy p hp hq => ?_⟩
  · obtain ⟨h1, _, h3⟩ := hat r hr
    obtain ⟨p, hp⟩ := List.exists_mem_of_ne_nil _ h1
    have hpk := h3 p hp
    have he := h (nx xs p) (nx_mem (by omega))
    unfold enOk evOk at he
    rw [Bool.and_eq_true, Bool.and_eq_true, Bool.and_eq_true] at he
    rw [← hpk.2]
    exact he.2.1.2
  · rw [← ((hat r hr).2.2 p hp).2, ((hat y hy).2.2 p hq).2]
theorem kindsTo_take (xs : List En) (k m : Nat) (h : k ≤ m) (hm : m ≤ xs.length) : kindsTo (xs.take m) k = kindsTo xs k := by
  induction k with
  | zero => rfl
  | succ k ih =>
    have e : nx (xs.take m) k = nx xs k := by unfold nx; rw [List.getElem?_take_of_lt (by omega)]
    show putK _ _ = putK _ _
    rw [ih (by omega), e]
theorem find_row {l : List KRow} (h : SortedK l) {a b : KRow} (ha : a ∈ l) (hb : b ∈ l) (e : a.key = b.key) : a = b := by
  induction l with
  | nil => cases ha
  | cons x l ih =>
    obtain ⟨h1, h2⟩ := List.pairwise_cons.1 h
    rcases List.mem_cons.1 ha with ha | ha <;> rcases List.mem_cons.1 hb with hb | hb
    · rw [ha, hb]
    · exact absurd (ha ▸ e) (ltB_ne (h1 b hb))
    · exact absurd (hb ▸ e.symm) (ltB_ne (h1 a ha))
    · exact ih h2 ha hb
end Go.Proofs.YtnfncnpnkmjjeaaDoor
