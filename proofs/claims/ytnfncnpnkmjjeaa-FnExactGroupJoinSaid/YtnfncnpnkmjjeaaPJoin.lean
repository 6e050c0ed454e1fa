/- A member is put among ordered members, plainly. -/
import Derived.Test.YtnfncnpnkmjjeaaGLeaveS
namespace Go.Proofs.Ytnfncnpnkmjjeaa
set_option linter.unusedVariables false
set_option linter.unusedSimpArgs false

/-- ordered members with one more. -/
def joinMs (ms : List ByteArray) (m : ByteArray) : List ByteArray := ms.filter (fun x => ltB x m) ++ m :: ms.filter (fun x => ltB m x)
def SortedMs (ms : List ByteArray) : Prop := ms.Pairwise fun a b => ltB a b = true

theorem groupOk_all {st : Int} {ms : List ByteArray} (h : groupOk st ms = true) : (1 ≤ st ∧ st ≤ 8) ∧ (1 ≤ ms.length ∧ ms.length ≤ 6) ∧ ∀ k, k < ms.length → memberOk ms k = true := by
  unfold groupOk at h
  rw [Bool.and_eq_true, Bool.and_eq_true, decide_eq_true_eq, decide_eq_true_eq] at h
  exact ⟨h.1.1, h.1.2, fun k hk => allB_at h.2 hk⟩
theorem memberOk_word {ms : List ByteArray} {k : Nat} (h : memberOk ms k = true) : wordOk (nth ms k).data.toList = true := (Bool.and_eq_true_iff.1 h).1
theorem memberOk_lt {ms : List ByteArray} {k : Nat} (h : memberOk ms (k + 1) = true) : ltB (nth ms k) (nth ms (k + 1)) = true := by
  have := (Bool.and_eq_true_iff.1 h).2
  rw [decide_eq_false (by omega), Bool.false_or] at this
  exact this
theorem nth_eq {ms : List ByteArray} {k : Nat} (h : k < ms.length) : nth ms k = ms[k] := by unfold nth; rw [List.getElem?_eq_getElem h]; rfl
theorem sorted_of {ms : List ByteArray} (h : ∀ k, k < ms.length → memberOk ms k = true) : SortedMs ms := by
  have H : ∀ d i, i + d + 1 < ms.length → ltB (nth ms i) (nth ms (i + d + 1)) = true := by
    intro d
    induction d with
    | zero => intro i hi; exact memberOk_lt (h (i + 1) hi)
    | succ d ih =>
      intro i hi
      exact ltB_trans (ih i (by omega)) (memberOk_lt (h (i + (d + 1) + 1) hi))
  unfold SortedMs
  rw [List.pairwise_iff_getElem]
  intro i j hi hj hij
  have := H (j - i - 1) i (by omega)
  rw [show i + (j - i - 1) + 1 = j by omega, nth_eq hi, nth_eq hj] at this
  exact this
theorem ok_of_sorted {ms : List ByteArray} (hs : SortedMs ms) (hw : ∀ x ∈ ms, wordOk x.data.toList = true) : ∀ k, k < ms.length → memberOk ms k = true := by
  intro k hk
  unfold memberOk
  rw [hw _ (by rw [nth_eq hk]; exact List.getElem_mem hk)]
  cases k with
  | zero => rfl
  | succ k =>
    rw [decide_eq_false (by omega)]
    have := List.pairwise_iff_getElem.1 hs k (k + 1) (by omega) hk (by omega)
    rw [show k + 1 - 1 = k by omega, nth_eq hk, nth_eq (by omega), this]
    rfl
theorem groupOk_iff {st : Int} {ms : List ByteArray} : groupOk st ms = true ↔ (1 ≤ st ∧ st ≤ 8) ∧ (1 ≤ ms.length ∧ ms.length ≤ 6) ∧ SortedMs ms ∧ ∀ x ∈ ms, wordOk x.data.toList = true := by
  constructor
  · intro h
    obtain ⟨h1, h2, h3⟩ := groupOk_all h
    refine ⟨h1, h2, sorted_of h3, fun x hx => ?_⟩
    obtain ⟨k, hk, rfl⟩ := List.mem_iff_getElem.1 hx
    have := memberOk_word (h3 k hk)
    rwa [nth_eq hk] at this
  · rintro ⟨h1, h2, h3, h4⟩
    exact groupOk_yes h1 h2 (ok_of_sorted h3 h4)

theorem joinMs_mem {ms : List ByteArray} {m x : ByteArray} (h : x ∈ joinMs ms m) : x = m ∨ x ∈ ms := by
  unfold joinMs at h
  rcases List.mem_append.1 h with h | h
  · exact .inr (List.mem_filter.1 h).1
  · rcases List.mem_cons.1 h with h | h
    · exact .inl h
    · exact .inr (List.mem_filter.1 h).1
theorem mem_joinMs (ms : List ByteArray) (m : ByteArray) : m ∈ joinMs ms m := by unfold joinMs; simp
theorem filter_two (ms : List ByteArray) (m : ByteArray) (hm : m ∉ ms) : (ms.filter fun x => ltB x m).length + (ms.filter fun x => ltB m x).length = ms.length := by
  induction ms with
  | nil => rfl
  | cons a l ih =>
    have ih := ih (fun h => hm (List.mem_cons_of_mem _ h))
    have hne : a ≠ m := fun e => hm (by rw [e]; exact List.mem_cons_self)
    rcases ltB_tri a m with h | h | h
    · rw [List.filter_cons_of_pos (by exact h), List.filter_cons_of_neg (by rw [ltB_asymm h]; decide), List.length_cons, List.length_cons]; omega
    · exact absurd h hne
    · rw [List.filter_cons_of_neg (by rw [ltB_asymm h]; decide), List.filter_cons_of_pos (by exact h), List.length_cons, List.length_cons]; omega
theorem joinMs_len {ms : List ByteArray} {m : ByteArray} (hm : m ∉ ms) : (joinMs ms m).length = ms.length + 1 := by
  have := filter_two ms m hm
  unfold joinMs
  rw [List.length_append, List.length_cons]; omega
theorem joinMs_sorted {ms : List ByteArray} {m : ByteArray} (hs : SortedMs ms) : SortedMs (joinMs ms m) := by
  unfold joinMs SortedMs
  rw [List.pairwise_append]
  refine ⟨hs.sublist List.filter_sublist, ?_, ?_⟩
  · rw [List.pairwise_cons]
    exact ⟨fun x hx => (List.mem_filter.1 hx).2, hs.sublist List.filter_sublist⟩
  · intro a ha b hb
    have h1 : ltB a m = true := (List.mem_filter.1 ha).2
    rcases List.mem_cons.1 hb with rfl | hb
    · exact h1
    · exact ltB_trans h1 (List.mem_filter.1 hb).2
/-- sorted members split at a text that is none of them. -/
theorem sorted_split {ms : List ByteArray} {m : ByteArray} (hs : SortedMs ms) (hm : m ∉ ms) : ms = ms.filter (fun x => ltB x m) ++ ms.filter (fun x => ltB m x) := by
  induction ms with
  | nil => rfl
  | cons a l ih =>
    have hs' := List.pairwise_cons.1 hs
    have ih := ih hs'.2 (fun h => hm (List.mem_cons_of_mem _ h))
    have hne : a ≠ m := fun e => hm (by rw [e]; exact List.mem_cons_self)
    rcases ltB_tri a m with h | h | h
    · rw [List.filter_cons_of_pos (by exact h), List.filter_cons_of_neg (by rw [ltB_asymm h]; decide), List.cons_append, ← ih]
    · exact absurd h hne
    · have e1 : l.filter (fun x => ltB x m) = [] := by
        rw [List.filter_eq_nil_iff]
        intro x hx
        rw [ltB_asymm (ltB_trans h (hs'.1 x hx))]; decide
      have e2 : l.filter (fun x => ltB m x) = l := by
        rw [List.filter_eq_self]
        intro x hx
        exact ltB_trans h (hs'.1 x hx)
      rw [List.filter_cons_of_neg (by rw [ltB_asymm h]; decide), List.filter_cons_of_pos (by exact h), e1, e2]; rfl
theorem leave_join {ms : List ByteArray} {m : ByteArray} (hs : SortedMs ms) (hm : m ∉ ms) : leaveMs (joinMs ms m) m = ms := by
  have e : ∀ l : List ByteArray, m ∉ l → l.filter (fun x => decide (x ≠ m)) = l := fun l hl => by
    rw [List.filter_eq_self]
    intro x hx
    exact decide_eq_true (fun e => hl (by rw [← e]; exact hx))
  unfold leaveMs joinMs
  rw [List.filter_append, List.filter_cons_of_neg (by simp), e _ (fun h => hm (List.mem_filter.1 h).1), e _ (fun h => hm (List.mem_filter.1 h).1)]
  exact (sorted_split hs hm).symm

/-! ### the reference's walk: all that are less, then the new one, then the others -/
theorem put_less {ms : List ByteArray} {m : ByteArray} (h : ∀ x ∈ ms, ltB x m = true) : joinMs ms m = ms ++ [m] := by
  unfold joinMs
  rw [List.filter_eq_self.2 h, List.filter_eq_nil_iff.2 (fun x hx => by rw [ltB_asymm (h x hx)]; decide)]
theorem put_first {ms : List ByteArray} {m x : ByteArray} (h : ∀ y ∈ ms, ltB y m = true) (hx : ltB m x = true) : joinMs (ms ++ [x]) m = ms ++ [m] ++ [x] := by
  have e1 : [x].filter (fun y => ltB y m) = [] := by rw [List.filter_cons_of_neg (by rw [ltB_asymm hx]; decide)]; rfl
  have e2 : [x].filter (fun y => ltB m y) = [x] := by rw [List.filter_cons_of_pos (by exact hx)]; rfl
  have e3 : ms.filter (fun y => ltB m y) = [] := List.filter_eq_nil_iff.2 (fun y hy => by rw [ltB_asymm (h y hy)]; decide)
  unfold joinMs
  rw [List.filter_append, List.filter_append, List.filter_eq_self.2 h, e1, e2, e3]
  simp
theorem put_more {ms : List ByteArray} {m x : ByteArray} (hx : ltB m x = true) : joinMs (ms ++ [x]) m = joinMs ms m ++ [x] := by
  have e1 : [x].filter (fun y => ltB y m) = [] := by rw [List.filter_cons_of_neg (by rw [ltB_asymm hx]; decide)]; rfl
  have e2 : [x].filter (fun y => ltB m y) = [x] := by rw [List.filter_cons_of_pos (by exact hx)]; rfl
  unfold joinMs
  rw [List.filter_append, List.filter_append, e1, e2]
  simp
/-- what the reference has put out behind the first k members. -/
def putOut (ms : List ByteArray) (m : ByteArray) (d : Bool) (k : Nat) : List ByteArray := if d then joinMs (ms.take k) m else ms.take k
def PutIs (ms : List ByteArray) (m : ByteArray) (d : Bool) (k : Nat) : Prop := if d then ∃ x ∈ ms.take k, ltB m x = true else ∀ x ∈ ms.take k, ltB x m = true
theorem take_one {ms : List ByteArray} {k : Nat} {x : ByteArray} (h : ms[k]? = some x) : ms.take (k + 1) = ms.take k ++ [x] := by
  obtain ⟨hk, e⟩ := List.getElem?_eq_some_iff.1 h
  rw [List.take_succ_eq_append_getElem hk, e]
theorem put_a {ms : List ByteArray} {m x : ByteArray} {k : Nat} (h : ms[k]? = some x) (hi : PutIs ms m false k) (hx : ltB x m = true) :
    PutIs ms m false (k + 1) ∧ putOut ms m false (k + 1) = putOut ms m false k ++ [x] := by
  refine ⟨?_, take_one h⟩
  show ∀ y ∈ ms.take (k + 1), ltB y m = true
  rw [take_one h]
  intro y hy
  rcases List.mem_append.1 hy with hy | hy
  · exact hi y hy
  · obtain rfl := List.mem_singleton.1 hy; exact hx
theorem put_b {ms : List ByteArray} {m x : ByteArray} {k : Nat} (h : ms[k]? = some x) (hi : PutIs ms m false k) (hx : ltB m x = true) :
    PutIs ms m true (k + 1) ∧ putOut ms m true (k + 1) = putOut ms m false k ++ [m] ++ [x] := by
  refine ⟨?_, ?_⟩
  · show ∃ y ∈ ms.take (k + 1), ltB m y = true
    rw [take_one h]; exact ⟨x, by simp, hx⟩
  · show joinMs (ms.take (k + 1)) m = ms.take k ++ [m] ++ [x]
    rw [take_one h]; exact put_first hi hx
theorem put_c {ms : List ByteArray} {m x : ByteArray} {k : Nat} (hs : SortedMs ms) (h : ms[k]? = some x) (hi : PutIs ms m true k) :
    ltB m x = true ∧ PutIs ms m true (k + 1) ∧ putOut ms m true (k + 1) = putOut ms m true k ++ [x] := by
  obtain ⟨y, hy, hmy⟩ := (show ∃ y ∈ ms.take k, ltB m y = true from hi)
  obtain ⟨hk, e⟩ := List.getElem?_eq_some_iff.1 h
  have hx : ltB m x = true := by
    obtain ⟨i, hi2, rfl⟩ := List.mem_iff_getElem.1 hy
    rw [List.length_take] at hi2
    rw [List.getElem_take] at hmy
    have := List.pairwise_iff_getElem.1 hs i k (by omega) hk (by omega)
    rw [e] at this
    exact ltB_trans hmy this
  refine ⟨hx, ⟨y, by rw [take_one h]; exact List.mem_append_left _ hy, hmy⟩, ?_⟩
  show joinMs (ms.take (k + 1)) m = joinMs (ms.take k) m ++ [x]
  rw [take_one h]; exact put_more hx
theorem put_end_no {ms : List ByteArray} {m : ByteArray} (hi : PutIs ms m false ms.length) : putOut ms m false ms.length ++ [m] = joinMs ms m := by
  have h : ∀ x ∈ ms.take ms.length, ltB x m = true := hi
  show ms.take ms.length ++ [m] = _
  rw [List.take_length] at h ⊢
  exact (put_less h).symm
theorem put_end_yes {ms : List ByteArray} {m : ByteArray} : putOut ms m true ms.length = joinMs ms m := by
  show joinMs (ms.take ms.length) m = _
  rw [List.take_length]

/-! ### joining and leaving -/
def joinOk (st : Int) (ms : List ByteArray) (m : ByteArray) : Bool := groupOk st ms && wordOk m.data.toList && !hasMs ms m && groupOk st (joinMs ms m)
theorem joinOk_iff {st : Int} {ms : List ByteArray} {m : ByteArray} : joinOk st ms m = true ↔ groupOk st ms = true ∧ wordOk m.data.toList = true ∧ m ∉ ms ∧ groupOk st (joinMs ms m) = true := by
  have e : (!hasMs ms m) = true ↔ m ∉ ms := by rw [Bool.not_eq_true', ← Bool.not_eq_true, hasMs_iff]
  unfold joinOk
  rw [Bool.and_eq_true, Bool.and_eq_true, Bool.and_eq_true, e, and_assoc, and_assoc]
theorem leaveOk_iff {st : Int} {ms : List ByteArray} {m : ByteArray} : leaveOk st ms m = true ↔ groupOk st ms = true ∧ m ∈ ms ∧ groupOk st (leaveMs ms m) = true := by
  unfold leaveOk
  rw [hasMs_leave, Bool.and_eq_true, Bool.and_eq_true, hasMs_iff, and_assoc]
/-- who has joined can leave, and cannot join once more. -/
theorem joinLeave {st : Int} {ms : List ByteArray} {m : ByteArray} (h : joinOk st ms m = true) : leaveOk st (joinMs ms m) m = true ∧ leaveMs (joinMs ms m) m = ms ∧ joinOk st (joinMs ms m) m = false := by
  obtain ⟨h1, h2, h3, h4⟩ := joinOk_iff.1 h
  have hs := (groupOk_iff.1 h1).2.2.1
  have e := leave_join hs h3
  refine ⟨leaveOk_iff.2 ⟨h4, mem_joinMs ms m, by rw [e]; exact h1⟩, e, ?_⟩
  cases k : joinOk st (joinMs ms m) m with
  | false => rfl
  | true => exact absurd (mem_joinMs ms m) (joinOk_iff.1 k).2.2.1
/-- who leaves can join again. -/
theorem leaveJoin {st : Int} {ms : List ByteArray} {m : ByteArray} (h : leaveOk st ms m = true) : joinOk st (leaveMs ms m) m = true ∧ joinMs (leaveMs ms m) m = ms ∧ m ∉ leaveMs ms m := by
  obtain ⟨h1, h2, h3⟩ := leaveOk_iff.1 h
  obtain ⟨g1, g2, g3, g4⟩ := groupOk_iff.1 h1
  have hm : m ∉ leaveMs ms m := fun hx => by have := (List.mem_filter.1 hx).2; simp at this
  have e : joinMs (leaveMs ms m) m = ms := by
    have key : ∀ l : List ByteArray, SortedMs l → m ∈ l → joinMs (leaveMs l m) m = l := by
      intro l
      induction l with
      | nil => intro _ h; cases h
      | cons a l ih =>
        intro hs hml
        have hs' := List.pairwise_cons.1 hs
        by_cases ha : a = m
        · subst ha
          have hnl : a ∉ l := fun hx => by have := hs'.1 a hx; rw [ltB_irrefl] at this; cases this
          have e1 : leaveMs (a :: l) a = l := by
            unfold leaveMs
            rw [List.filter_cons_of_neg (by simp), List.filter_eq_self]
            exact fun x hx => decide_eq_true (fun e => hnl (by rw [← e]; exact hx))
          rw [e1]
          unfold joinMs
          rw [List.filter_eq_nil_iff.2 (fun x hx => by rw [ltB_asymm (hs'.1 x hx)]; decide), List.filter_eq_self.2 (fun x hx => hs'.1 x hx)]
          rfl
        · have hml' : m ∈ l := by
            rcases List.mem_cons.1 hml with h | h
            · exact absurd h.symm ha
            · exact h
          have e1 : leaveMs (a :: l) m = a :: leaveMs l m := by unfold leaveMs; rw [List.filter_cons_of_pos (by simp [ha])]
          have hlt := hs'.1 m hml'
          rw [e1]
          have ih := ih hs'.2 hml'
          unfold joinMs at ih ⊢
          rw [List.filter_cons_of_pos (by exact hlt), List.filter_cons_of_neg (by rw [ltB_asymm hlt]; decide), List.cons_append, ih]
    exact key ms g3 h2
  refine ⟨joinOk_iff.2 ⟨h3, ?_, hm, by rw [e]; exact h1⟩, e, hm⟩
  exact g4 m h2
end Go.Proofs.Ytnfncnpnkmjjeaa
