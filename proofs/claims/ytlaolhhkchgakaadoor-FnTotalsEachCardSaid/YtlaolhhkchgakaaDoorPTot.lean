/- Totals, plainly: when they are valid, one put among them, those of a store. -/
import Derived.Test.YtlaolhhkchgakaaDoorPStore
namespace Go.Proofs.YtlaolhhkchgakaaDoor
set_option linter.unusedVariables false
set_option linter.unusedSimpArgs false

structure Tot where
  cat : ByteArray
  many : Int
  sum : Int
  deriving DecidableEq, Inhabited
def totOne (t : Tot) : Bool := wordOk t.cat.data.toList && (decide (1 ≤ t.many ∧ t.many ≤ 99) && decide (0 ≤ t.sum ∧ t.sum ≤ t.many * 999))
def totAt (l : List Tot) (k : Nat) : Bool := totOne (nx l k) && (decide (k = 0) || ltB (nx l (k - 1)).cat (nx l k).cat)
def totsOk (l : List Tot) : Bool := decide (l.length ≤ 24) && allB l.length (totAt l)
theorem totsOk_len {l : List Tot} (h : 24 < l.length) : totsOk l = false := by unfold totsOk; rw [decide_eq_false (by omega)]; rfl
theorem totsOk_at {l : List Tot} (k : Nat) (h : k < l.length) (hk : totAt l k = false) : totsOk l = false := by unfold totsOk; rw [allB_no k h hk]; simp
theorem totsOk_yes {l : List Tot} (h : l.length ≤ 24) (h2 : ∀ k, k < l.length → totAt l k = true) : totsOk l = true := by unfold totsOk; rw [decide_eq_true h, allB_yes h2]; rfl
theorem totsOk_iff {l : List Tot} : totsOk l = true ↔ l.length ≤ 24 ∧ ∀ k, k < l.length → totAt l k = true := by
  unfold totsOk; rw [Bool.and_eq_true, decide_eq_true_eq, allB_iff]
theorem totOne_iff {t : Tot} : totOne t = true ↔ wordOk t.cat.data.toList = true ∧ (1 ≤ t.many ∧ t.many ≤ 99) ∧ 0 ≤ t.sum ∧ t.sum ≤ t.many * 999 := by
  unfold totOne; rw [Bool.and_eq_true, Bool.and_eq_true, decide_eq_true_eq, decide_eq_true_eq]
theorem totOne_no {t : Tot} (h : ¬ (wordOk t.cat.data.toList = true ∧ (1 ≤ t.many ∧ t.many ≤ 99) ∧ 0 ≤ t.sum ∧ t.sum ≤ t.many * 999)) : totOne t = false := by
  cases e : totOne t with
  | false => rfl
  | true => exact absurd (totOne_iff.1 e) h
theorem totAt_one {l : List Tot} {k : Nat} (h : totOne (nx l k) = false) : totAt l k = false := by unfold totAt; rw [h]; rfl
theorem totAt_0 {l : List Tot} (h : totOne (nx l 0) = true) : totAt l 0 = true := by unfold totAt; rw [h]; rfl
theorem totAt_s {l : List Tot} {m : Nat} (h : totOne (nx l (m + 1)) = true) : totAt l (m + 1) = ltB (nx l m).cat (nx l (m + 1)).cat := by
  unfold totAt; rw [h, Nat.add_sub_cancel, decide_eq_false (by omega)]; simp

def SortedTs (l : List Tot) : Prop := l.Pairwise fun a b => ltB a.cat b.cat = true
theorem tots_lt {l : List Tot} (h : totsOk l = true) {i j : Nat} (hij : i < j) (hj : j < l.length) : ltB (nx l i).cat (nx l j).cat = true := by
  have hs : ∀ m, m + 1 < l.length → ltB (nx l m).cat (nx l (m + 1)).cat = true := fun m hm => by
    have := (totsOk_iff.1 h).2 (m + 1) hm
    unfold totAt at this
    rw [Nat.add_sub_cancel, decide_eq_false (by omega), Bool.false_or, Bool.and_eq_true] at this
    exact this.2
  induction j with
  | zero => omega
  | succ j ih =>
    by_cases e : i = j
    · rw [e]; exact hs j hj
    · exact ltB_trans (ih (by omega) (by omega)) (hs j hj)
theorem totsOk_iff2 {l : List Tot} : totsOk l = true ↔ l.length ≤ 24 ∧ SortedTs l ∧ ∀ c ∈ l, totOne c = true := by
  constructor
  · intro h
    refine ⟨(totsOk_iff.1 h).1, ?_, fun c hc => ?_⟩
    · refine List.pairwise_iff_getElem.2 fun i j hi hj hij => ?_
      have := tots_lt h hij hj
      rwa [nx_eq hi, nx_eq hj] at this
    · obtain ⟨k, hk, rfl⟩ := List.mem_iff_getElem.1 hc
      have := (totsOk_iff.1 h).2 k hk
      unfold totAt at this
      rw [Bool.and_eq_true, nx_eq hk] at this
      exact this.1
  · rintro ⟨h1, h2, h3⟩
    refine totsOk_yes h1 fun k hk => ?_
    have hm : totOne (nx l k) = true := by rw [nx_eq hk]; exact h3 _ (List.getElem_mem hk)
    cases k with
    | zero => exact totAt_0 hm
    | succ k =>
      rw [totAt_s hm, nx_eq hk, nx_eq (by omega)]
      exact List.pairwise_iff_getElem.1 h2 k (k + 1) (by omega) hk (by omega)

/-! ### one put among totals -/
def addT (s t : Tot) : Tot := ⟨s.cat, s.many + t.many, s.sum + t.sum⟩
def putT : List Tot → Tot → List Tot
  | [], t => [t]
  | x :: l, t => if x.cat = t.cat then addT x t :: l else if ltB t.cat x.cat = true then t :: x :: l else x :: putT l t
theorem putT_nil (t : Tot) : putT [] t = [t] := rfl
theorem putT_same {x t : Tot} (l : List Tot) (h : x.cat = t.cat) : putT (x :: l) t = addT x t :: l := by unfold putT; rw [if_pos h]
theorem putT_gt {x t : Tot} (l : List Tot) (h : ltB t.cat x.cat = true) : putT (x :: l) t = t :: x :: l := by
  unfold putT; rw [if_neg (fun e => ltB_ne h e.symm), if_pos h]
theorem putT_lt1 {x t : Tot} (l : List Tot) (h : ltB x.cat t.cat = true) : putT (x :: l) t = x :: putT l t := by
  rw [putT, if_neg (ltB_ne h), if_neg (by rw [ltB_asymm h]; decide)]
theorem putT_lt {a : List Tot} {t : Tot} (b : List Tot) (h : ∀ y ∈ a, ltB y.cat t.cat = true) : putT (a ++ b) t = a ++ putT b t := by
  induction a with
  | nil => rfl
  | cons x a ih => rw [List.cons_append, putT_lt1 _ (h x (by simp)), ih (fun y hy => h y (by simp [hy])), List.cons_append]
theorem putT_tri (x t : Tot) (l : List Tot) : (x.cat = t.cat ∧ putT (x :: l) t = addT x t :: l) ∨ (ltB t.cat x.cat = true ∧ putT (x :: l) t = t :: x :: l) ∨ (ltB x.cat t.cat = true ∧ putT (x :: l) t = x :: putT l t) := by
  rcases ltB_tri x.cat t.cat with h | h | h
  · exact .inr (.inr ⟨h, putT_lt1 l h⟩)
  · exact .inl ⟨h, putT_same l h⟩
  · exact .inr (.inl ⟨h, putT_gt l h⟩)
theorem putT_len (l : List Tot) (t : Tot) : l.length ≤ (putT l t).length ∧ (putT l t).length ≤ l.length + 1 := by
  induction l with
  | nil => exact ⟨Nat.zero_le _, Nat.le_refl _⟩
  | cons x l ih => rcases putT_tri x t l with ⟨_, e⟩ | ⟨_, e⟩ | ⟨_, e⟩ <;> rw [e] <;> simp only [List.length_cons] <;> omega
theorem putT_mem {l : List Tot} {t y : Tot} (h : y ∈ putT l t) : y ∈ l ∨ y = t ∨ ∃ x ∈ l, x.cat = t.cat ∧ y = addT x t := by
  induction l with
  | nil => exact .inr (.inl (List.mem_singleton.1 h))
  | cons x l ih =>
    rcases putT_tri x t l with ⟨h1, e⟩ | ⟨_, e⟩ | ⟨_, e⟩
    · rw [e] at h
      rcases List.mem_cons.1 h with h | h
      · exact .inr (.inr ⟨x, by simp, h1, h⟩)
      · exact .inl (by simp [h])
    · rw [e] at h
      rcases List.mem_cons.1 h with h | h
      · exact .inr (.inl h)
      · exact .inl h
    · rw [e] at h
      rcases List.mem_cons.1 h with h | h
      · exact .inl (by simp [h])
      · rcases ih h with h | h | ⟨z, h1, h2⟩
        · exact .inl (by simp [h])
        · exact .inr (.inl h)
        · exact .inr (.inr ⟨z, by simp [h1], h2⟩)
theorem putT_cat {l : List Tot} {t y : Tot} (h : y ∈ putT l t) : (∃ x ∈ l, x.cat = y.cat) ∨ y.cat = t.cat := by
  rcases putT_mem h with h | h | ⟨x, h1, h2, h3⟩
  · exact .inl ⟨y, h, rfl⟩
  · exact .inr (by rw [h])
  · exact .inl ⟨x, h1, by rw [h3]; rfl⟩
theorem putT_sorted {l : List Tot} (t : Tot) (h : SortedTs l) : SortedTs (putT l t) := by
  induction l with
  | nil => exact List.pairwise_singleton _ _
  | cons x l ih =>
    obtain ⟨h1, h2⟩ := List.pairwise_cons.1 h
    rcases putT_tri x t l with ⟨_, e⟩ | ⟨hl, e⟩ | ⟨hl, e⟩
    · rw [e]; exact List.pairwise_cons.2 ⟨h1, h2⟩
    · rw [e]
      refine List.pairwise_cons.2 ⟨fun y hy => ?_, h⟩
      rcases List.mem_cons.1 hy with hy | hy
      · rw [hy]; exact hl
      · exact ltB_trans hl (h1 y hy)
    · rw [e]
      refine List.pairwise_cons.2 ⟨fun y hy => ?_, ih h2⟩
      rcases putT_cat hy with ⟨z, hz, e⟩ | e
      · rw [← e]; exact h1 z hz
      · rw [e]; exact hl
def sumM (l : List Tot) : Int := (l.map (·.many)).sum
def sumS (l : List Tot) : Int := (l.map (·.sum)).sum
theorem putT_sumM (l : List Tot) (t : Tot) : sumM (putT l t) = sumM l + t.many := by
  unfold sumM
  induction l with
  | nil => simp [putT]
  | cons x l ih => rcases putT_tri x t l with ⟨_, e⟩ | ⟨_, e⟩ | ⟨_, e⟩ <;> rw [e] <;> simp only [List.map_cons, List.sum_cons, addT] <;> omega
theorem putT_sumS (l : List Tot) (t : Tot) : sumS (putT l t) = sumS l + t.sum := by
  unfold sumS
  induction l with
  | nil => simp [putT]
  | cons x l ih => rcases putT_tri x t l with ⟨_, e⟩ | ⟨_, e⟩ | ⟨_, e⟩ <;> rw [e] <;> simp only [List.map_cons, List.sum_cons, addT] <;> omega
/-- the total of a category. -/
def findT (l : List Tot) (c : ByteArray) : Option Tot := l.find? fun t => decide (t.cat = c)
theorem findT_yes {l : List Tot} {x : Tot} {c : ByteArray} (h : x.cat = c) : findT (x :: l) c = some x := List.find?_cons_of_pos (by exact decide_eq_true h)
theorem findT_no {l : List Tot} {x : Tot} {c : ByteArray} (h : x.cat ≠ c) : findT (x :: l) c = findT l c := List.find?_cons_of_neg (by simpa using h)
theorem findT_none {l : List Tot} {c : ByteArray} (h : ∀ y ∈ l, y.cat ≠ c) : findT l c = none := List.find?_eq_none.2 fun y hy => by simpa using h y hy
theorem findT_mem {l : List Tot} (h : SortedTs l) {x : Tot} (hx : x ∈ l) : findT l x.cat = some x := by
  induction l with
  | nil => cases hx
  | cons y l ih =>
    obtain ⟨h1, h2⟩ := List.pairwise_cons.1 h
    rcases List.mem_cons.1 hx with rfl | hx
    · exact findT_yes rfl
    · rw [findT_no (ltB_ne (h1 x hx))]; exact ih h2 hx
theorem findT_at {l : List Tot} {c : ByteArray} (k : Nat) (h : k < l.length) (hk : (nx l k).cat = c) (hn : ∀ j, j < k → (nx l j).cat ≠ c) : findT l c = some (nx l k) := by
  induction l generalizing k with
  | nil => simp at h
  | cons x l ih =>
    cases k with
    | zero => exact findT_yes hk
    | succ k =>
      rw [findT_no (x := x) (hn 0 (by omega))]
      exact ih k (by simpa using h) hk (fun j hj => hn (j + 1) (by omega))
theorem findT_non {l : List Tot} {c : ByteArray} (hn : ∀ j, j < l.length → (nx l j).cat ≠ c) : findT l c = none := findT_none fun y hy => by
  obtain ⟨i, hi, rfl⟩ := List.mem_iff_getElem.1 hy
  have := hn i hi
  rwa [nx_eq hi] at this
theorem findT_other {l : List Tot} {t : Tot} {c : ByteArray} (hc : t.cat ≠ c) : findT (putT l t) c = findT l c := by
  induction l with
  | nil => rw [putT_nil, findT_no hc]
  | cons x l ih =>
    rcases putT_tri x t l with ⟨h, e⟩ | ⟨_, e⟩ | ⟨_, e⟩
    · rw [e, findT_no (show (addT x t).cat ≠ c from fun k => hc (h.symm.trans k)), findT_no (fun k => hc (h.symm.trans k))]
    · rw [e, findT_no hc]
    · rw [e]
      by_cases hx : x.cat = c
      · rw [findT_yes hx, findT_yes hx]
      · rw [findT_no hx, findT_no hx, ih]
/-- what is told of a category: nothing, where there is none. -/
def totAtC (l : List Tot) (c : ByteArray) : Int × Int := ((findT l c).map fun t => (t.many, t.sum)).getD (0, 0)
theorem totAtC_put {l : List Tot} {t : Tot} (h : SortedTs l) : findT (putT l t) t.cat = some ⟨t.cat, (totAtC l t.cat).1 + t.many, (totAtC l t.cat).2 + t.sum⟩ := by
  unfold totAtC
  induction l with
  | nil => rw [putT_nil, findT_yes rfl]; simp [findT]
  | cons x l ih =>
    obtain ⟨h1, h2⟩ := List.pairwise_cons.1 h
    rcases putT_tri x t l with ⟨hx, e⟩ | ⟨hl, e⟩ | ⟨hl, e⟩
    · rw [e, findT_yes (show (addT x t).cat = t.cat from hx), findT_yes hx]
      simp [addT, hx]
    · rw [e, findT_yes rfl, findT_none (l := x :: l) (fun y hy => by
        rcases List.mem_cons.1 hy with hy | hy
        · rw [hy]; exact fun e => ltB_ne hl e.symm
        · exact fun e => ltB_ne (ltB_trans hl (h1 y hy)) e.symm)]
      simp
    · rw [e, findT_no (ltB_ne hl), findT_no (ltB_ne hl)]
      exact ih h2
/-! ### the reference's way, step by step -/
def stepP (t : Tot) (s : Bool × List Tot) (x : Tot) : Bool × List Tot :=
  if x.cat = t.cat then (true, s.2 ++ [addT x t]) else if s.1 = false ∧ ltB t.cat x.cat = true then (true, s.2 ++ [t] ++ [x]) else (s.1, s.2 ++ [x])
def runP (t : Tot) (l : List Tot) (k : Nat) : Bool × List Tot := (l.take k).foldl (stepP t) (false, [])
def endP (t : Tot) (s : Bool × List Tot) : List Tot := if s.1 then s.2 else s.2 ++ [t]
theorem runP_succ {t : Tot} {l : List Tot} {k : Nat} (h : k < l.length) : runP t l (k + 1) = stepP t (runP t l k) (nx l k) := by
  unfold runP; rw [take_nx h, List.foldl_append]; rfl
theorem stepP_rest {t : Tot} {l : List Tot} (h : ∀ y ∈ l, y.cat ≠ t.cat) (acc : List Tot) : l.foldl (stepP t) (true, acc) = (true, acc ++ l) := by
  induction l generalizing acc with
  | nil => simp
  | cons x l ih =>
    rw [List.foldl_cons]
    have : stepP t (true, acc) x = (true, acc ++ [x]) := by unfold stepP; rw [if_neg (h x (by simp)), if_neg (by simp)]
    rw [this, ih (fun y hy => h y (by simp [hy]))]
    simp
theorem runP_put_acc {t : Tot} {l : List Tot} (h : SortedTs l) (acc : List Tot) : endP t (l.foldl (stepP t) (false, acc)) = acc ++ putT l t := by
  induction l generalizing acc with
  | nil => rfl
  | cons x l ih =>
    obtain ⟨h1, h2⟩ := List.pairwise_cons.1 h
    rw [List.foldl_cons]
    rcases putT_tri x t l with ⟨hx, e⟩ | ⟨hl, e⟩ | ⟨hl, e⟩
    · have : stepP t (false, acc) x = (true, acc ++ [addT x t]) := by unfold stepP; rw [if_pos hx]
      rw [this, stepP_rest (fun y hy => fun k => ltB_ne (h1 y hy) (hx.trans k.symm)), e]
      simp [endP]
    · have : stepP t (false, acc) x = (true, acc ++ [t] ++ [x]) := by unfold stepP; rw [if_neg (fun k => ltB_ne hl k.symm), if_pos ⟨rfl, hl⟩]
      rw [this, stepP_rest (fun y hy => fun k => ltB_ne (ltB_trans hl (h1 y hy)) k.symm), e]
      simp [endP]
    · have : stepP t (false, acc) x = (false, acc ++ [x]) := by unfold stepP; rw [if_neg (ltB_ne hl), if_neg (by rw [ltB_asymm hl]; simp)]
      rw [this, ih h2, e]
      simp
theorem runP_put {t : Tot} {l : List Tot} (h : SortedTs l) : endP t (runP t l l.length) = putT l t := by
  unfold runP; rw [List.take_length, runP_put_acc h]; rfl
theorem runP_len (t : Tot) (l : List Tot) (k : Nat) : (runP t l k).2.length ≤ 2 * k := by
  unfold runP
  have : ∀ (m : List Tot) (s : Bool × List Tot), (m.foldl (stepP t) s).2.length ≤ s.2.length + 2 * m.length := by
    intro m
    induction m with
    | nil => intro s; simp
    | cons x m ih =>
      intro s
      rw [List.foldl_cons]
      have := ih (stepP t s x)
      have h2 : (stepP t s x).2.length ≤ s.2.length + 2 := by
        unfold stepP
        split
        · simp
        · split <;> simp
      simp only [List.length_cons]
      omega
  have h := this (l.take k) (false, [])
  rw [List.length_take] at h
  simp only [List.length_nil] at h
  omega

/-! ### the totals of a store -/
def catOf (s : ByteArray) : ByteArray := ⟨(pCat s.data.toList).toArray⟩
theorem catOf_is {s c : ByteArray} (h : c.data.toList = pCat s.data.toList) : c = catOf s := bytes_same (by rw [h]; rfl)
theorem catOf_word {s : ByteArray} (h : nameOk s.data.toList = true) : wordOk (catOf s).data.toList = true := by
  show wordOk (pCat s.data.toList) = true
  unfold nameOk at h
  unfold pCat
  unfold nameParts at h ⊢
  split
  · rename_i h1; rw [if_pos h1] at h; cases h
  · rename_i h1
    rw [if_neg h1] at h
    split
    · rename_i h2
      cases hn : numFrom (s.data.toList.drop ((Lib.indexByte s.data.toList 45).toNat + 1)) 999 with
      | none => rw [if_pos h2, hn] at h; cases h
      | some n => exact h2
    · rename_i h2; rw [if_neg h2] at h; cases h
def totOf (x : En) : Tot := ⟨catOf x.name, 1, x.ev.data⟩
theorem totOf_ok {x : En} (h : enOk x = true) : totOne (totOf x) = true := by
  unfold enOk evOk at h
  rw [Bool.and_eq_true, Bool.and_eq_true, Bool.and_eq_true, decide_eq_true_eq, decide_eq_true_eq] at h
  refine totOne_iff.2 ⟨catOf_word h.1, ?_, ?_, ?_⟩ <;> simp only [totOf] <;> omega
def totsTo (xs : List En) (k : Nat) : List Tot := (xs.take k).foldl (fun l x => putT l (totOf x)) []
theorem totsTo_zero (xs : List En) : totsTo xs 0 = [] := by unfold totsTo; rw [List.take_zero]; rfl
theorem totsTo_succ {xs : List En} {k : Nat} (h : k < xs.length) : totsTo xs (k + 1) = putT (totsTo xs k) (totOf (nx xs k)) := by
  unfold totsTo; rw [take_nx h, List.foldl_append]; rfl
def totsOf (xs : List En) : List Tot := if storeOk xs then totsTo xs xs.length else []
theorem totsOf_no {xs : List En} (h : storeOk xs = false) : totsOf xs = [] := by unfold totsOf; rw [h]; rfl
theorem totsOf_yes {xs : List En} (h : storeOk xs = true) : totsOf xs = totsTo xs xs.length := by unfold totsOf; rw [h]; rfl
theorem totsTo_sorted (xs : List En) (k : Nat) (hk : k ≤ xs.length) : SortedTs (totsTo xs k) := by
  induction k with
  | zero => rw [totsTo_zero]; exact List.Pairwise.nil
  | succ k ih => rw [totsTo_succ (by omega)]; exact putT_sorted _ (ih (by omega))
theorem totsTo_len (xs : List En) (k : Nat) (hk : k ≤ xs.length) : (totsTo xs k).length ≤ k := by
  induction k with
  | zero => rw [totsTo_zero]; exact Nat.le_refl _
  | succ k ih =>
    rw [totsTo_succ (by omega)]
    have := (putT_len (totsTo xs k) (totOf (nx xs k))).2
    have := ih (by omega)
    omega
theorem totsTo_one {xs : List En} (h : ∀ x ∈ xs, enOk x = true) (k : Nat) (hk : k ≤ xs.length) : ∀ t ∈ totsTo xs k, wordOk t.cat.data.toList = true ∧ (1 ≤ t.many ∧ t.many ≤ k) ∧ 0 ≤ t.sum ∧ t.sum ≤ t.many * 999 := by
  induction k with
  | zero => rw [totsTo_zero]; intro t ht; cases ht
  | succ k ih =>
    rw [totsTo_succ (by omega)]
    intro t ht
    have ho := totOne_iff.1 (totOf_ok (h _ (nx_mem (l := xs) (k := k) (by omega))))
    have hm : (totOf (nx xs k)).many = 1 := rfl
    rcases putT_mem ht with ht | rfl | ⟨x, hx, _, rfl⟩
    · have := ih (by omega) t ht
      exact ⟨this.1, ⟨this.2.1.1, by omega⟩, this.2.2⟩
    · exact ⟨ho.1, ⟨by omega, by omega⟩, ho.2.2⟩
    · have := ih (by omega) x hx
      refine ⟨this.1, ⟨?_, ?_⟩, ?_, ?_⟩ <;> simp only [addT] <;> omega
theorem totsTo_ok {xs : List En} (h : ∀ x ∈ xs, enOk x = true) (k : Nat) (hk : k ≤ xs.length) (hb : k ≤ 24) : totsOk (totsTo xs k) = true := by
  refine totsOk_iff2.2 ⟨Nat.le_trans (totsTo_len xs k hk) hb, totsTo_sorted xs k hk, fun t ht => ?_⟩
  have := totsTo_one h k hk t ht
  exact totOne_iff.2 ⟨this.1, ⟨this.2.1.1, by omega⟩, this.2.2⟩
def sumD (l : List En) : Int := (l.map (·.ev.data)).sum
theorem totsTo_sumM (xs : List En) (k : Nat) (hk : k ≤ xs.length) : sumM (totsTo xs k) = k := by
  induction k with
  | zero => rw [totsTo_zero]; rfl
  | succ k ih => rw [totsTo_succ (by omega), putT_sumM, ih (by omega)]; simp [totOf]
theorem totsTo_sumS (xs : List En) (k : Nat) (hk : k ≤ xs.length) : sumS (totsTo xs k) = sumD (xs.take k) := by
  induction k with
  | zero => rw [totsTo_zero]; rfl
  | succ k ih => rw [totsTo_succ (by omega), putT_sumS, ih (by omega), take_nx (by omega)]; simp [sumD, totOf]
/-- how many entries of a category there are among the first k, and their sum. -/
def ofC (xs : List En) (c : ByteArray) (k : Nat) : Int × Int := (((xs.take k).filter fun x => decide (catOf x.name = c)).length, sumD ((xs.take k).filter fun x => decide (catOf x.name = c)))
theorem ofC_yes {xs : List En} {c : ByteArray} {k : Nat} (hk : k < xs.length) (h : catOf (nx xs k).name = c) : ofC xs c (k + 1) = ((ofC xs c k).1 + 1, (ofC xs c k).2 + (nx xs k).ev.data) := by
  unfold ofC
  rw [take_nx hk, List.filter_append, List.filter_cons_of_pos (by exact decide_eq_true h)]
  simp [sumD]
theorem ofC_no {xs : List En} {c : ByteArray} {k : Nat} (hk : k < xs.length) (h : catOf (nx xs k).name ≠ c) : ofC xs c (k + 1) = ofC xs c k := by
  unfold ofC
  rw [take_nx hk, List.filter_append, List.filter_cons_of_neg (by simpa using h)]
  simp
theorem totsTo_ofC (xs : List En) (c : ByteArray) (k : Nat) (hk : k ≤ xs.length) : totAtC (totsTo xs k) c = ofC xs c k := by
  induction k with
  | zero => rw [totsTo_zero]; rfl
  | succ k ih =>
    rw [totsTo_succ (by omega)]
    by_cases h : catOf (nx xs k).name = c
    · rw [ofC_yes (by omega) h, ← ih (by omega)]
      have := totAtC_put (t := totOf (nx xs k)) (totsTo_sorted xs k (by omega))
      rw [show (totOf (nx xs k)).cat = c from h] at this
      rw [totAtC, this]
      rfl
    · rw [ofC_no (by omega) h, ← ih (by omega), totAtC, findT_other (show (totOf (nx xs k)).cat ≠ c from h)]
      rfl
end Go.Proofs.YtlaolhhkchgakaaDoor
