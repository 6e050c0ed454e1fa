/- A cut is put among cuts, plainly: what comes out, step by step and at once; what it says of the other cuts. -/
import Derived.Test.YtbcfbkcadceniaaDoorPCut
namespace Go.Proofs.YtbcfbkcadceniaaDoor
set_option linter.unusedVariables false
set_option linter.unusedSimpArgs false

def SortedCs (l : List Cut) : Prop := l.Pairwise fun a b => ltB a.name b.name = true
theorem cutsOk_iff2 {l : List Cut} : cutsOk l = true ↔ l.length ≤ 12 ∧ SortedCs l ∧ ∀ c ∈ l, cutOne c = true := by
  constructor
  · intro h
    refine ⟨(cutsOk_iff.1 h).1, ?_, fun c hc => ?_⟩
    · refine List.pairwise_iff_getElem.2 fun i j hi hj hij => ?_
      have := cuts_lt h hij hj
      rwa [nx_eq hi, nx_eq hj] at this
    · obtain ⟨k, hk, rfl⟩ := List.mem_iff_getElem.1 hc
      have := (cutsOk_iff.1 h).2 k hk
      unfold cutAt at this
      rw [Bool.and_eq_true, nx_eq hk] at this
      exact this.1
  · rintro ⟨h1, h2, h3⟩
    refine cutsOk_yes h1 fun k hk => ?_
    have hm : cutOne (nx l k) = true := by rw [nx_eq hk]; exact h3 _ (List.getElem_mem hk)
    cases k with
    | zero => exact cutAt_0 hm
    | succ k =>
      rw [cutAt_s hm, nx_eq hk, nx_eq (by omega)]
      exact List.pairwise_iff_getElem.1 h2 k (k + 1) (by omega) hk (by omega)
theorem cutsOk_one (c : Cut) : cutsOk [c] = cutOne c := by
  cases h : cutOne c with
  | true => exact cutsOk_iff2.2 ⟨by simp, List.pairwise_singleton _ _, by simpa using h⟩
  | false =>
    cases k : cutsOk [c] with
    | false => rfl
    | true => rw [(cutsOk_iff2.1 k).2.2 c (by simp)] at h; cases h
def cutLt (l : List Cut) (s : ByteArray) : List Cut := l.filter fun x => ltB x.name s
def cutGt (l : List Cut) (s : ByteArray) : List Cut := l.filter fun x => ltB s x.name
theorem cut_gap {a b : List Cut} {s : ByteArray} (ha : ∀ y ∈ a, ltB y.name s = true) (hb : ∀ y ∈ b, ltB s y.name = true) : cutLt (a ++ b) s = a ∧ cutGt (a ++ b) s = b := by
  unfold cutLt cutGt
  rw [List.filter_append, List.filter_append]
  constructor
  · rw [List.filter_eq_self.2 ha, List.filter_eq_nil_iff.2 (fun x hx => by rw [ltB_asymm (hb x hx)]; decide), List.append_nil]
  · rw [List.filter_eq_self.2 hb, List.filter_eq_nil_iff.2 (fun x hx => by rw [ltB_asymm (ha x hx)]; decide), List.nil_append]
theorem cut_split {a b : List Cut} {x : Cut} {s : ByteArray} (hx : x.name = s) (ha : ∀ y ∈ a, ltB y.name s = true) (hb : ∀ y ∈ b, ltB s y.name = true) : cutLt (a ++ x :: b) s = a ∧ cutGt (a ++ x :: b) s = b := by
  obtain ⟨h1, h2⟩ := cut_gap ha hb
  unfold cutLt cutGt at *
  rw [List.filter_append] at h1 h2
  rw [List.filter_append, List.filter_append, List.filter_cons_of_neg (by rw [hx, ltB_irrefl]; decide), List.filter_cons_of_neg (by rw [hx, ltB_irrefl]; decide)]
  exact ⟨h1, h2⟩
/-- the cut that stands there in the end: never less than before. -/
def cutNew (l : List Cut) (c : Cut) : Cut := ⟨c.name, max c.at_ (cutFrom l c.name)⟩
def putCs (l : List Cut) (c : Cut) : List Cut := cutLt l c.name ++ cutNew l c :: cutGt l c.name
def cutsPut (l : List Cut) (c : Cut) : List Cut × Bool := if (cutsOk l && cutOne c) && cutsOk (putCs l c) then (putCs l c, true) else ([], false)
theorem cutsPut_no {l : List Cut} {c : Cut} (h : ((cutsOk l && cutOne c) && cutsOk (putCs l c)) = false) : cutsPut l c = ([], false) := by
  unfold cutsPut; rw [if_neg (by rw [h]; decide)]
theorem cutsPut_yes {l : List Cut} {c : Cut} (h1 : cutsOk l = true) (h2 : cutOne c = true) (h3 : cutsOk (putCs l c) = true) : cutsPut l c = (putCs l c, true) := by
  unfold cutsPut; rw [h1, h2, h3]; rfl
theorem cutsPut_ok {l : List Cut} {c : Cut} (h : (cutsPut l c).2 = true) : cutsOk l = true ∧ cutOne c = true ∧ cutsOk (putCs l c) = true := by
  cases h1 : (cutsOk l && cutOne c) && cutsOk (putCs l c) with
  | false => rw [cutsPut_no h1] at h; cases h
  | true => rw [Bool.and_eq_true, Bool.and_eq_true] at h1; exact ⟨h1.1.1, h1.1.2, h1.2⟩
theorem sorted_cs {l : List Cut} (h : cutsOk l = true) : SortedCs l := (cutsOk_iff2.1 h).2.1
theorem take_drop_cs {l : List Cut} {k : Nat} (hk : k < l.length) : l = l.take k ++ nx l k :: l.drop (k + 1) := by
  rw [nx_eq hk, ← List.drop_eq_getElem_cons hk, List.take_append_drop]
theorem lt_of_take {l : List Cut} (hs : SortedCs l) {k : Nat} (hk : k < l.length) : (∀ y ∈ l.take k, ltB y.name (nx l k).name = true) ∧ ∀ y ∈ l.drop (k + 1), ltB (nx l k).name y.name = true := by
  have h := hs
  rw [take_drop_cs hk] at h
  obtain ⟨-, h2, h3⟩ := List.pairwise_append.1 h
  exact ⟨fun y hy => h3 y hy _ List.mem_cons_self, fun y hy => (List.pairwise_cons.1 h2).1 y hy⟩
/-- there is a cut of the name: it alone is changed. -/
theorem putCs_at {l : List Cut} {c : Cut} {k : Nat} (hs : SortedCs l) (hk : k < l.length) (hn : (nx l k).name = c.name) (hf : cutFrom l c.name = (nx l k).at_) : putCs l c = l.set k ⟨c.name, max (nx l k).at_ c.at_⟩ := by
  obtain ⟨h1, h2⟩ := lt_of_take hs hk
  rw [hn] at h1 h2
  obtain ⟨e1, e2⟩ := cut_split hn h1 h2
  rw [← take_drop_cs hk] at e1 e2
  unfold putCs cutNew
  rw [e1, e2, hf, List.set_eq_take_append_cons_drop, if_pos hk, Int.max_comm]
theorem put_at_ok {l : List Cut} {c : Cut} {k : Nat} (h : cutsOk l = true) (hc : cutOne c = true) (hk : k < l.length) (hn : (nx l k).name = c.name) : cutsOk (l.set k ⟨c.name, max (nx l k).at_ c.at_⟩) = true := by
  obtain ⟨h1, h2, h3⟩ := cutsOk_iff2.1 h
  have hm := cutOne_iff.1 (h3 (nx l k) (nx_mem hk))
  have hc' := cutOne_iff.1 hc
  refine cutsOk_iff2.2 ⟨by rw [List.length_set]; exact h1, ?_, fun x hx => ?_⟩
  · have e : (l.set k ⟨c.name, max (nx l k).at_ c.at_⟩).map (·.name) = l.map (·.name) := by
      rw [List.map_set]
      have : c.name = (l.map (·.name))[k]'(by simpa using hk) := by rw [List.getElem_map, ← nx_eq hk, hn]
      rw [show (⟨c.name, max (nx l k).at_ c.at_⟩ : Cut).name = c.name from rfl, this, List.set_getElem_self]
    have g : ∀ m : List Cut, SortedCs m ↔ (m.map (·.name)).Pairwise fun a b => ltB a b = true := fun m => by unfold SortedCs; rw [List.pairwise_map]
    rw [g, e, ← g]
    exact h2
  · rcases List.mem_or_eq_of_mem_set hx with hx | rfl
    · exact h3 x hx
    · exact cutOne_yes hc'.1 (by simp only; omega)
/-- there is none: the new cut goes between. -/
theorem putCs_gap {l : List Cut} {c : Cut} {k : Nat} (hs : SortedCs l) (hc : cutOne c = true) (hk : k ≤ l.length) (h0 : cutFrom l c.name = 0) (h1 : ∀ j, j < k → ltB (nx l j).name c.name = true) (h2 : k < l.length → ltB c.name (nx l k).name = true) : putCs l c = l.take k ++ c :: l.drop k := by
  have ha : ∀ y ∈ l.take k, ltB y.name c.name = true := fun y hy => by
    obtain ⟨i, hi, rfl⟩ := List.mem_iff_getElem.1 hy
    rw [List.length_take] at hi
    rw [List.getElem_take, ← nx_eq (by omega)]
    exact h1 i (by omega)
  have hb : ∀ y ∈ l.drop k, ltB c.name y.name = true := fun y hy => by
    obtain ⟨i, hi, rfl⟩ := List.mem_iff_getElem.1 hy
    rw [List.length_drop] at hi
    have hkl : k < l.length := by omega
    rw [List.getElem_drop]
    by_cases hi0 : i = 0
    · subst hi0
      have := h2 hkl
      rw [nx_eq hkl] at this
      simpa using this
    · have := List.pairwise_iff_getElem.1 hs k (k + i) hkl (by omega) (by omega)
      have h3 := h2 hkl
      rw [nx_eq hkl] at h3
      exact ltB_trans h3 this
  obtain ⟨e1, e2⟩ := cut_gap ha hb
  rw [List.take_append_drop] at e1 e2
  have hc' := cutOne_iff.1 hc
  unfold putCs cutNew
  rw [e1, e2, h0, Int.max_eq_left (by omega)]

/-! ### the reference's walk -/
def putOutC (l : List Cut) (c : Cut) (d : Bool) (k : Nat) : List Cut := if d then cutLt (l.take k) c.name ++ c :: cutGt (l.take k) c.name else l.take k
def PutIsC (l : List Cut) (c : Cut) (d : Bool) (k : Nat) : Prop := if d then ∃ j, j < k ∧ j < l.length ∧ ltB (nx l j).name c.name = false else ∀ x ∈ l.take k, ltB x.name c.name = true
theorem take_nx_cs {l : List Cut} {k : Nat} (hk : k < l.length) : l.take (k + 1) = l.take k ++ [nx l k] := by rw [List.take_succ_eq_append_getElem hk, nx_eq hk]
theorem putC_a {l : List Cut} {c : Cut} {k : Nat} (hk : k < l.length) (hi : PutIsC l c false k) (hx : ltB (nx l k).name c.name = true) : PutIsC l c false (k + 1) ∧ putOutC l c false (k + 1) = putOutC l c false k ++ [nx l k] := by
  refine ⟨?_, take_nx_cs hk⟩
  show ∀ x ∈ l.take (k + 1), ltB x.name c.name = true
  rw [take_nx_cs hk]
  intro y hy
  rcases List.mem_append.1 hy with hy | hy
  · exact hi y hy
  · obtain rfl := List.mem_singleton.1 hy; exact hx
theorem putC_b {l : List Cut} {c : Cut} {k : Nat} (hk : k < l.length) (hi : PutIsC l c false k) (hx : (nx l k).name = c.name) : PutIsC l c true (k + 1) ∧ putOutC l c true (k + 1) = putOutC l c false k ++ [c] := by
  refine ⟨⟨k, by omega, hk, by rw [hx]; exact ltB_irrefl _⟩, ?_⟩
  obtain ⟨e1, e2⟩ := cut_split (b := []) hx hi (fun y hy => by cases hy)
  show cutLt (l.take (k + 1)) c.name ++ c :: cutGt (l.take (k + 1)) c.name = l.take k ++ [c]
  rw [take_nx_cs hk, e1, e2]
theorem putC_b2 {l : List Cut} {c : Cut} {k : Nat} (hk : k < l.length) (hi : PutIsC l c false k) (hx : ltB c.name (nx l k).name = true) : PutIsC l c true (k + 1) ∧ putOutC l c true (k + 1) = putOutC l c false k ++ [c] ++ [nx l k] := by
  refine ⟨⟨k, by omega, hk, ltB_asymm hx⟩, ?_⟩
  obtain ⟨e1, e2⟩ := cut_gap (b := [nx l k]) hi (fun y hy => by obtain rfl := List.mem_singleton.1 hy; exact hx)
  show cutLt (l.take (k + 1)) c.name ++ c :: cutGt (l.take (k + 1)) c.name = l.take k ++ [c] ++ [nx l k]
  rw [take_nx_cs hk, e1, e2, List.append_assoc]; rfl
theorem putC_c {l : List Cut} {c : Cut} {k : Nat} (hs : SortedCs l) (hk : k < l.length) (hi : PutIsC l c true k) : ltB c.name (nx l k).name = true ∧ PutIsC l c true (k + 1) ∧ putOutC l c true (k + 1) = putOutC l c true k ++ [nx l k] := by
  obtain ⟨j, hj, hjl, hje⟩ := hi
  have hlt : ltB (nx l j).name (nx l k).name = true := by
    rw [nx_eq hjl, nx_eq hk]
    exact List.pairwise_iff_getElem.1 hs j k hjl hk hj
  have hx : ltB c.name (nx l k).name = true := by
    rcases ltB_tri (nx l j).name c.name with h | h | h
    · rw [hje] at h; cases h
    · rw [← h]; exact hlt
    · exact ltB_trans h hlt
  refine ⟨hx, ⟨j, by omega, hjl, hje⟩, ?_⟩
  show cutLt (l.take (k + 1)) c.name ++ c :: cutGt (l.take (k + 1)) c.name = cutLt (l.take k) c.name ++ c :: cutGt (l.take k) c.name ++ [nx l k]
  unfold cutLt cutGt
  rw [take_nx_cs hk, List.filter_append, List.filter_append, List.filter_cons_of_neg (by rw [ltB_asymm hx]; decide), List.filter_cons_of_pos (by exact hx)]
  simp
theorem putC_end_no {l : List Cut} {c : Cut} (hi : PutIsC l c false l.length) : putOutC l c false l.length ++ [c] = cutLt l c.name ++ c :: cutGt l c.name := by
  have h : ∀ x ∈ l.take l.length, ltB x.name c.name = true := hi
  rw [List.take_length] at h
  obtain ⟨e1, e2⟩ := cut_gap (b := []) h (fun y hy => by cases hy)
  rw [List.append_nil] at e1 e2
  show l.take l.length ++ [c] = _
  rw [List.take_length, e1, e2]
theorem putC_end_yes {l : List Cut} {c : Cut} : putOutC l c true l.length = cutLt l c.name ++ c :: cutGt l c.name := by
  show cutLt (l.take l.length) c.name ++ c :: cutGt (l.take l.length) c.name = _
  rw [List.take_length]
theorem putOutC_len (l : List Cut) (c : Cut) (d : Bool) (k : Nat) : (putOutC l c d k).length ≤ 2 * k + 1 := by
  unfold putOutC cutLt cutGt
  have h0 := List.length_take_le k l
  split
  · have h1 := List.length_filter_le (fun x => ltB x.name c.name) (l.take k)
    have h2 := List.length_filter_le (fun x => ltB c.name x.name) (l.take k)
    rw [List.length_append, List.length_cons]; omega
  · omega

/-! ### what the laws say -/
/-- the new cut is found, at its place. -/
theorem put_mid (l : List Cut) (c : Cut) : (cutLt l c.name).length < (putCs l c).length ∧ nx (putCs l c) (cutLt l c.name).length = cutNew l c := by
  have hk : (cutLt l c.name).length < (putCs l c).length := by unfold putCs; rw [List.length_append, List.length_cons]; omega
  have h2 : (putCs l c)[(cutLt l c.name).length]? = some (cutNew l c) := by
    unfold putCs
    rw [List.getElem?_append_right (Nat.le_refl _), Nat.sub_self]; rfl
  refine ⟨hk, ?_⟩
  have h3 := nx_get hk
  rw [h2] at h3
  exact (Option.some.inj h3).symm
theorem put_find {l : List Cut} {c : Cut} (h : cutsOk (putCs l c) = true) : ∃ k, k < (putCs l c).length ∧ nx (putCs l c) k = cutNew l c ∧ ∀ j, j < k → (nx (putCs l c) j).name ≠ c.name := by
  obtain ⟨hk, h2⟩ := put_mid l c
  refine ⟨_, hk, h2, fun j hj => ?_⟩
  have h1 := cuts_ne h (show j < (putCs l c).length by omega) hk (by omega)
  rw [h2] at h1
  exact h1
theorem cutFrom_put {l : List Cut} {c : Cut} (h : cutsOk (putCs l c) = true) : cutFrom (putCs l c) c.name = max c.at_ (cutFrom l c.name) := by
  obtain ⟨k, hk, e, hn⟩ := put_find h
  rw [cutFrom_at k hk (by rw [e]; rfl) hn, e]; rfl
theorem put_at_is {l : List Cut} {c : Cut} {k : Nat} (h : cutsOk (putCs l c) = true) (hk : k < (putCs l c).length) (hn : (nx (putCs l c) k).name = c.name) : (nx (putCs l c) k).at_ = max c.at_ (cutFrom l c.name) := by
  obtain ⟨k0, h1, e, h2⟩ := put_find h
  by_cases hkk : k = k0
  · subst hkk; rw [e]; rfl
  · have := cuts_ne h hk h1 hkk
    rw [e, hn] at this
    exact absurd rfl this
theorem put_there {l : List Cut} {c : Cut} (h : cutsOk (putCs l c) = true) (hn : ∀ k, k < (putCs l c).length → (nx (putCs l c) k).name ≠ c.name) : False := by
  obtain ⟨k0, h1, e, h2⟩ := put_find h
  exact hn k0 h1 (by rw [e]; rfl)
theorem cutsPut_len (l : List Cut) (c : Cut) : (cutsPut l c).1.length ≤ 2 * l.length + 1 := by
  cases h : (cutsOk l && cutOne c) && cutsOk (putCs l c) with
  | false => rw [cutsPut_no h]; exact Nat.zero_le _
  | true =>
    rw [Bool.and_eq_true, Bool.and_eq_true] at h
    rw [cutsPut_yes h.1.1 h.1.2 h.2]
    have h1 := List.length_filter_le (fun x : Cut => ltB x.name c.name) l
    have h2 := List.length_filter_le (fun x : Cut => ltB c.name x.name) l
    show (putCs l c).length ≤ _
    unfold putCs cutLt cutGt
    rw [List.length_append, List.length_cons]; omega
theorem cutsPut_is {l ps : List Cut} {c : Cut} (h : cutsPut l c = (ps, true)) : cutsOk l = true ∧ cutOne c = true ∧ cutsOk (putCs l c) = true ∧ ps = putCs l c := by
  obtain ⟨h1, h2, h3⟩ := cutsPut_ok (l := l) (c := c) (by rw [h])
  rw [cutsPut_yes h1 h2 h3] at h
  exact ⟨h1, h2, h3, by injection h with e; exact e.symm⟩
def otherCs (l : List Cut) (s : ByteArray) : List Cut := l.filter fun x => decide (x.name ≠ s)
theorem other_take {l : List Cut} {k : Nat} (hk : k < l.length) (s : ByteArray) : otherCs (l.take (k + 1)) s = if (nx l k).name = s then otherCs (l.take k) s else otherCs (l.take k) s ++ [nx l k] := by
  unfold otherCs
  rw [take_nx_cs hk, List.filter_append]
  by_cases h : (nx l k).name = s
  · rw [if_pos h, List.filter_cons_of_neg (by simp [h]), List.filter_nil, List.append_nil]
  · rw [if_neg h, List.filter_cons_of_pos (by exact decide_eq_true h), List.filter_nil]
theorem other_is {l : List Cut} {s : ByteArray} (hs : SortedCs l) : otherCs l s = cutLt l s ++ cutGt l s := by
  unfold otherCs cutLt cutGt
  induction l with
  | nil => rfl
  | cons a l ih =>
    have hs' := List.pairwise_cons.1 hs
    have ih := ih hs'.2
    rcases ltB_tri a.name s with h | h | h
    · rw [List.filter_cons_of_pos (by exact decide_eq_true (ltB_ne h)), List.filter_cons_of_pos (by exact h), List.filter_cons_of_neg (by rw [ltB_asymm h]; decide), ih]; rfl
    · rw [List.filter_cons_of_neg (by simp [h]), List.filter_cons_of_neg (by rw [h, ltB_irrefl]; decide), List.filter_cons_of_neg (by rw [h, ltB_irrefl]; decide), ih]
    · have e1 : l.filter (fun x => ltB x.name s) = [] := List.filter_eq_nil_iff.2 (fun x hx => by rw [ltB_asymm (ltB_trans h (hs'.1 x hx))]; decide)
      rw [List.filter_cons_of_pos (by exact decide_eq_true (fun e => ltB_ne h e.symm)), List.filter_cons_of_neg (by rw [ltB_asymm h]; decide), List.filter_cons_of_pos (by exact h), ih, e1]; rfl
theorem lt_put (l : List Cut) (c : Cut) : cutLt (putCs l c) c.name = cutLt l c.name ∧ cutGt (putCs l c) c.name = cutGt l c.name :=
  cut_split rfl (fun y hy => (List.mem_filter.1 hy).2) (fun y hy => (List.mem_filter.1 hy).2)
theorem other_put {l : List Cut} {c : Cut} (h1 : cutsOk l = true) (h2 : cutsOk (putCs l c) = true) : otherCs (putCs l c) c.name = otherCs l c.name := by
  obtain ⟨e1, e2⟩ := lt_put l c
  rw [other_is (sorted_cs h2), other_is (sorted_cs h1), e1, e2]
theorem put_again {l : List Cut} {c : Cut} (h : cutsOk (putCs l c) = true) (hc : cutOne c = true) : cutsPut (putCs l c) c = (putCs l c, true) := by
  obtain ⟨e1, e2⟩ := lt_put l c
  have e : putCs (putCs l c) c = putCs l c := by
    have : cutNew (putCs l c) c = cutNew l c := by
      unfold cutNew
      rw [cutFrom_put h]
      congr 1
      omega
    rw [show putCs (putCs l c) c = cutLt (putCs l c) c.name ++ cutNew (putCs l c) c :: cutGt (putCs l c) c.name from rfl, e1, e2, this]
    rfl
  rw [cutsPut_yes h hc (by rw [e]; exact h), e]
end Go.Proofs.YtbcfbkcadceniaaDoor
