/- The plain laws on texts: words, numbers in digits, names. No program in sight. -/
import Derived.Lib.ItoaNum
import Derived.Lib.IndexLaws
import Derived.Lib.Strings
namespace Go.Proofs.YtnfncnpnkmjjeaaDoor
set_option linter.unusedVariables false
set_option linter.unusedSimpArgs false

def letter (c : UInt8) : Bool := decide (97 ≤ (c.toNat : Int) ∧ (c.toNat : Int) ≤ 122)
def wordOk (l : List UInt8) : Bool := decide (1 ≤ l.length) && decide (l.length ≤ 6) && l.all letter

theorem wordOk_no {s : ByteArray} (k : Nat) (h : k < s.size) (hk : letter s[k] = false) : wordOk s.data.toList = false := by
  unfold wordOk
  rw [Bool.and_eq_false_iff]
  right
  rw [List.all_eq_false]
  exact ⟨s[k], List.mem_iff_getElem.2 ⟨k, by simpa using h, rfl⟩, by rw [hk]; decide⟩
theorem wordOk_len {s : ByteArray} (h : ¬ (1 ≤ s.size ∧ s.size ≤ 6)) : wordOk s.data.toList = false := by
  unfold wordOk
  have e : s.data.toList.length = s.size := by simp
  rw [e]
  by_cases h1 : 1 ≤ s.size
  · rw [decide_eq_false (show ¬ s.size ≤ 6 from fun h2 => h ⟨h1, h2⟩)]; simp
  · rw [decide_eq_false h1]; simp
theorem wordOk_yes {s : ByteArray} (h1 : 1 ≤ s.size) (h2 : s.size ≤ 6) (hall : ∀ j (h : j < s.size), letter s[j] = true) : wordOk s.data.toList = true := by
  unfold wordOk
  have e : s.data.toList.length = s.size := by simp
  rw [e, decide_eq_true h1, decide_eq_true h2]
  simp only [Bool.true_and, List.all_eq_true]
  intro c hc
  obtain ⟨k, hk, rfl⟩ := List.mem_iff_getElem.1 hc
  exact hall k (by simpa using hk)

theorem wordOk_all {s : ByteArray} (hall : ∀ j (h : j < s.size), letter s[j] = true) : wordOk s.data.toList = (decide ((1 : Int) ≤ (s.size : Int)) && decide ((s.size : Int) ≤ 6)) := by
  by_cases h1 : 1 ≤ s.size
  · by_cases h2 : s.size ≤ 6
    · rw [wordOk_yes h1 h2 hall, decide_eq_true (by omega), decide_eq_true (by omega)]; rfl
    · rw [wordOk_len (fun h => h2 h.2), decide_eq_false (show ¬ (s.size : Int) ≤ 6 by omega)]; simp
  · rw [wordOk_len (fun h => h1 h.1), decide_eq_false (show ¬ (1 : Int) ≤ s.size by omega)]; simp


/-! ### numbers in digits -/
def digit (c : UInt8) : Bool := decide (48 ≤ (c.toNat : Int) ∧ (c.toNat : Int) ≤ 57)
def val (l : List UInt8) : Nat := l.foldl (fun n c => n * 10 + (c.toNat - 48)) 0
theorem val_snoc (l : List UInt8) (c : UInt8) : val (l ++ [c]) = val l * 10 + (c.toNat - 48) := by simp [val]
def numOk (l : List UInt8) : Bool := decide (l ≠ []) && (decide (l.length ≤ 1) || decide (l.head? ≠ some 48)) && l.all digit
def numFrom (l : List UInt8) (most : Nat) : Option Nat := if numOk l = true ∧ val l ≤ most then some (val l) else none

theorem foldl_ge (l : List UInt8) : ∀ a : Nat, a ≤ l.foldl (fun n (c : UInt8) => n * 10 + (c.toNat - 48)) a := by
  induction l with
  | nil => intro a; exact Nat.le_refl _
  | cons c l ih => intro a; exact Nat.le_trans (show a ≤ a * 10 + (c.toNat - 48) by omega) (ih _)
/-- a beginning tells no more than the whole. -/
theorem val_take_le (l : List UInt8) (k : Nat) : val (l.take k) ≤ val l := by
  have h : val l = (l.drop k).foldl (fun n (c : UInt8) => n * 10 + (c.toNat - 48)) (val (l.take k)) := by
    unfold val; rw [← List.foldl_append, List.take_append_drop]
  rw [h]; exact foldl_ge _ _

/-- the digit of a number below 10. -/
def dch (k : Nat) : UInt8 := UInt8.ofNat (48 + k)
theorem dch_nat {k : Nat} (h : k < 10) : (dch k).toNat = 48 + k := by unfold dch; rw [UInt8.toNat_ofNat']; exact Nat.mod_eq_of_lt (by omega)
theorem dch_digit {k : Nat} (h : k < 10) : digit (dch k) = true := by unfold digit; rw [dch_nat h]; exact decide_eq_true ⟨by omega, by omega⟩
theorem digit_is {c : UInt8} (h : digit c = true) : ∃ k, k < 10 ∧ c = dch k ∧ c.toNat = 48 + k := by
  have h := of_decide_eq_true h
  refine ⟨c.toNat - 48, by omega, ?_, by omega⟩
  apply UInt8.toNat_inj.1
  rw [dch_nat (by omega)]; omega

theorem dec_small {n : Nat} (h : n < 10) : Lib.decDigits n = [dch n] := by rw [Lib.decDigits, dif_pos h]; rfl
theorem dec_big {n : Nat} (h : ¬ n < 10) : Lib.decDigits n = Lib.decDigits (n / 10) ++ [dch (n % 10)] := by rw [Lib.decDigits, dif_neg h]; rfl
theorem head_app {α : Type} {l m : List α} (h : l ≠ []) : (l ++ m).head? = l.head? := by cases l with | nil => exact absurd rfl h | cons a l => rfl
theorem dec_ne (n : Nat) : Lib.decDigits n ≠ [] := by
  by_cases h : n < 10
  · rw [dec_small h]; simp
  · rw [dec_big h]; simp
theorem dec_val (n : Nat) : val (Lib.decDigits n) = n := by
  induction n using Nat.strongRecOn with
  | _ n ih =>
    by_cases h : n < 10
    · rw [dec_small h]; show 0 * 10 + ((dch n).toNat - 48) = n; rw [dch_nat h]; omega
    · rw [dec_big h, val_snoc, ih _ (by omega), dch_nat (by omega)]; omega
theorem dec_digits (n : Nat) : (Lib.decDigits n).all digit = true := by
  induction n using Nat.strongRecOn with
  | _ n ih =>
    by_cases h : n < 10
    · rw [dec_small h]; simp only [List.all_cons, List.all_nil, dch_digit h, Bool.and_true]
    · rw [dec_big h, List.all_append, ih _ (show n / 10 < n by omega)]; simp only [List.all_cons, List.all_nil, dch_digit (show n % 10 < 10 by omega), Bool.and_true]
theorem dec_head (n : Nat) : n = 0 ∨ (Lib.decDigits n).head? ≠ some 48 := by
  induction n using Nat.strongRecOn with
  | _ n ih =>
    by_cases h : n < 10
    · by_cases h0 : n = 0
      · exact .inl h0
      · right
        rw [dec_small h]
        intro e
        injection e with e
        have := congrArg UInt8.toNat e
        rw [dch_nat h] at this
        have e2 : (48 : UInt8).toNat = 48 := rfl
        omega
    · right
      rw [dec_big h, head_app (dec_ne _)]
      rcases ih (n / 10) (by omega) with e | e
      · omega
      · exact e
theorem dec_len_le (n k : Nat) (h : n < 10 ^ (k + 1)) : (Lib.decDigits n).length ≤ k + 1 := by
  induction k generalizing n with
  | zero => rw [dec_small (by simpa using h)]; simp
  | succ k ih =>
    by_cases h' : n < 10
    · rw [dec_small h']; simp
    · rw [dec_big h']
      have := ih (n / 10) (by rw [Nat.pow_succ] at h; omega)
      simp; omega
theorem dec_numOk (n : Nat) : numOk (Lib.decDigits n) = true := by
  unfold numOk
  rw [dec_digits, decide_eq_true (dec_ne n)]
  rcases dec_head n with rfl | h
  · rw [dec_small (by omega)]; rfl
  · simp [h]
/-- digits without a leading zero are the numeral of what they tell. -/
theorem numOk_dec (l : List UInt8) (h : numOk l = true) : Lib.decDigits (val l) = l := by
  suffices H : ∀ k : Nat, ∀ l : List UInt8, l.length = k → numOk l = true → Lib.decDigits (val l) = l from H _ l rfl h
  intro k
  induction k using Nat.strongRecOn with
  | _ k ih =>
    intro l hk h
    unfold numOk at h
    simp only [Bool.and_eq_true, decide_eq_true_eq, Bool.or_eq_true] at h
    obtain ⟨⟨hne, hz⟩, hd⟩ := h
    rcases List.eq_nil_or_concat l with rfl | ⟨l', c, rfl⟩
    · exact absurd rfl hne
    · rw [List.concat_eq_append] at hz hd hk ⊢
      rw [List.all_append, Bool.and_eq_true] at hd
      obtain ⟨hd1, hd2⟩ := hd
      obtain ⟨j, hj, hc, hcn⟩ := digit_is (by simpa using hd2 : digit c = true)
      rw [val_snoc, hcn]
      by_cases hl : l' = []
      · subst hl
        have e : val ([] : List UInt8) = 0 := rfl
        rw [e, dec_small (by omega), hc]
        simp
      · have hn : numOk l' = true := by
          unfold numOk
          rw [hd1, decide_eq_true hl]
          rcases hz with hz | hz
          · exfalso
            have : 0 < l'.length := List.length_pos_iff.2 hl
            rw [List.length_append, List.length_singleton] at hz; omega
          · rw [head_app hl] at hz
            simp [hz]
        have hl' : l'.length < k := by rw [← hk]; simp
        have hi := ih _ hl' l' rfl hn
        have hpos : val l' ≠ 0 := by
          intro e
          rw [e, dec_small (by omega)] at hi
          unfold numOk at hn
          simp only [Bool.and_eq_true, decide_eq_true_eq, Bool.or_eq_true] at hn
          rcases hz with hz | hz
          · have : 0 < l'.length := List.length_pos_iff.2 hl
            rw [List.length_append, List.length_singleton] at hz; omega
          · rw [← hi] at hz; exact hz rfl
        rw [dec_big (by omega), show (val l' * 10 + (48 + j - 48)) / 10 = val l' by omega, show (val l' * 10 + (48 + j - 48)) % 10 = j by omega, hi, hc]
theorem numFrom_iff (l : List UInt8) (most n : Nat) : numFrom l most = some n ↔ l = Lib.decDigits n ∧ n ≤ most := by
  unfold numFrom
  constructor
  · intro h
    split at h
    · rename_i hh
      injection h with h
      subst h
      exact ⟨(numOk_dec l hh.1).symm, hh.2⟩
    · cases h
  · rintro ⟨rfl, h⟩
    rw [if_pos ⟨dec_numOk n, by rw [dec_val]; exact h⟩, dec_val]
theorem numFrom_none (l : List UInt8) (most : Nat) (h : ∀ n, n ≤ most → l ≠ Lib.decDigits n) : numFrom l most = none := by
  cases e : numFrom l most with
  | none => rfl
  | some n => exact absurd ((numFrom_iff l most n).1 e).1 (h n ((numFrom_iff l most n).1 e).2)

theorem numFrom_lead {s : ByteArray} {most : Nat} (h1 : 1 < s.size) (h2 : (s[0]'(by omega)).toNat = 48) : numFrom s.data.toList most = none := by
  unfold numFrom
  rw [if_neg]
  rintro ⟨h, _⟩
  unfold numOk at h
  simp only [Bool.and_eq_true, decide_eq_true_eq, Bool.or_eq_true] at h
  have e : s.data.toList.length = s.size := by simp
  have e2 : s.data.toList.head? = some (s[0]'(by omega)) := by
    rw [List.head?_eq_getElem?, List.getElem?_eq_getElem (by omega)]; rfl
  rcases h.1.2 with h | h
  · omega
  · rw [e2] at h
    exact h (congrArg some (UInt8.toNat_inj.1 h2))

theorem numFrom_bad {s : ByteArray} {most : Nat} (k : Nat) (h : k < s.size) (hk : digit s[k] = false) : numFrom s.data.toList most = none := by
  unfold numFrom
  rw [if_neg]
  rintro ⟨h', _⟩
  unfold numOk at h'
  rw [Bool.and_eq_true, List.all_eq_true] at h'
  have := h'.2 s[k] (List.mem_iff_getElem.2 ⟨k, by simpa using h, rfl⟩)
  exact Bool.false_ne_true (hk.symm.trans this)
theorem numFrom_big {s : ByteArray} {most : Nat} (k : Nat) (h : most < val (s.data.toList.take k)) : numFrom s.data.toList most = none := by
  unfold numFrom
  rw [if_neg]
  rintro ⟨_, h'⟩
  have := val_take_le s.data.toList k
  omega
theorem numFrom_good {s : ByteArray} {most : Nat} (h0 : 0 < s.size) (hl : s.size ≤ 1 ∨ (s[0]'h0).toNat ≠ 48) (hall : s.data.toList.all digit = true) (hv : val s.data.toList ≤ most) : numFrom s.data.toList most = some (val s.data.toList) := by
  have e : s.data.toList.length = s.size := by simp
  have e2 : s.data.toList.head? = some (s[0]'h0) := by
    rw [List.head?_eq_getElem?, List.getElem?_eq_getElem (by omega)]; rfl
  unfold numFrom
  refine if_pos ⟨?_, hv⟩
  unfold numOk
  rw [hall, decide_eq_true (by intro h; rw [h] at e; simp at e; omega), e, e2]
  rcases hl with hl | hl
  · rw [decide_eq_true hl]; rfl
  · rw [decide_eq_true (show some (s[0]'h0) ≠ some 48 by intro h; injection h with h; exact hl (by rw [h]; rfl))]; simp

theorem indexByte_at {l : List UInt8} {c : UInt8} {k : Nat} (h : l[k]? = some c) (hb : ∀ j, j < k → l[j]? ≠ some c) : Lib.indexByte l c = k := by
  by_cases e : Lib.indexByte l c = -1
  · exact absurd h (Lib.indexByte_none e k)
  · obtain ⟨o, ho⟩ : ∃ o : Nat, Lib.indexByte l c = o := ⟨(Lib.indexByte l c).toNat, by have := Lib.indexByte_ge l c; omega⟩
    obtain ⟨h1, h2⟩ := Lib.indexByte_some ho
    rcases Nat.lt_trichotomy o k with hlt | rfl | hgt
    · exact absurd h1 (hb o hlt)
    · exact ho
    · exact absurd h (h2 k hgt)
theorem indexByte_no {l : List UInt8} {c : UInt8} (hb : ∀ j, j < l.length → l[j]? ≠ some c) : Lib.indexByte l c = -1 := by
  by_cases e : Lib.indexByte l c = -1
  · exact e
  · obtain ⟨o, ho⟩ : ∃ o : Nat, Lib.indexByte l c = o := ⟨(Lib.indexByte l c).toNat, by have := Lib.indexByte_ge l c; omega⟩
    obtain ⟨h1, _⟩ := Lib.indexByte_some ho
    obtain ⟨hl, _⟩ := List.getElem?_eq_some_iff.1 h1
    exact absurd h1 (hb o hl)
/-- the place of the first hyphen: none, or one in the text. -/
theorem hyphen (l : List UInt8) : Lib.indexByte l 45 = -1 ∨ ∃ o : Nat, Lib.indexByte l 45 = o ∧ o < l.length ∧ l = l.take o ++ 45 :: l.drop (o + 1) := by
  by_cases e : Lib.indexByte l 45 = -1
  · exact .inl e
  · obtain ⟨o, ho⟩ : ∃ o : Nat, Lib.indexByte l 45 = o := ⟨(Lib.indexByte l 45).toNat, by have := Lib.indexByte_ge l 45; omega⟩
    obtain ⟨h1, _⟩ := Lib.indexByte_some ho
    obtain ⟨hl, he⟩ := List.getElem?_eq_some_iff.1 h1
    refine .inr ⟨o, ho, hl, ?_⟩
    rw [← he, ← List.drop_eq_getElem_cons hl, List.take_append_drop]

/-! ### names: a word, a hyphen, a number up to 999 -/
def nameParts (l : List UInt8) : Option (List UInt8 × Nat) :=
  if Lib.indexByte l 45 < 0 then none
  else if wordOk (l.take (Lib.indexByte l 45).toNat) = true then (numFrom (l.drop ((Lib.indexByte l 45).toNat + 1)) 999).map fun n => (l.take (Lib.indexByte l 45).toNat, n)
  else none
def nameOk (l : List UInt8) : Bool := (nameParts l).isSome
def pCat (l : List UInt8) : List UInt8 := ((nameParts l).map (·.1)).getD []
def pNum (l : List UInt8) : Nat := ((nameParts l).map (·.2)).getD 0
def nameOf (c : List UInt8) (n : Nat) : List UInt8 := c ++ 45 :: Lib.decDigits n
/-- the reference's name: empty where a part is invalid. -/
def nameOfS (c : List UInt8) (n : Int) : List UInt8 := if wordOk c = true ∧ 0 ≤ n ∧ n ≤ 999 then nameOf c n.toNat else []
/-- the reference's number: at most five digits, or -1. -/
def num5 (l : List UInt8) : Int := if 1 ≤ l.length ∧ l.length ≤ 5 ∧ l.all digit = true then val l else -1

theorem nameParts_none {l : List UInt8} (h : Lib.indexByte l 45 = -1) : nameParts l = none := by
  unfold nameParts; rw [if_pos (by omega)]
theorem nameParts_some {l : List UInt8} {o : Nat} (h : Lib.indexByte l 45 = o) :
    nameParts l = if wordOk (l.take o) = true then (numFrom (l.drop (o + 1)) 999).map fun n => (l.take o, n) else none := by
  unfold nameParts; rw [if_neg (by omega), h, Int.toNat_natCast]
theorem dec_len3 {n : Nat} (h : n ≤ 999) : (Lib.decDigits n).length ≤ 3 := dec_len_le n 2 (by omega)
theorem num5_dec {n : Nat} (h : n ≤ 9999) : num5 (Lib.decDigits n) = n := by
  unfold num5
  have h1 := List.length_pos_iff.2 (dec_ne n)
  have h2 := dec_len_le n 3 (by omega)
  rw [if_pos ⟨by omega, by omega, dec_digits n⟩, dec_val]
/-- what the reference asks of a name is what the program asks. -/
theorem parts_ref {l : List UInt8} {o : Nat} (h : Lib.indexByte l 45 = o) (hl : l = l.take o ++ 45 :: l.drop (o + 1)) :
    nameParts l = if 0 ≤ num5 (l.drop (o + 1)) ∧ nameOfS (l.take o) (num5 (l.drop (o + 1))) = l then some (l.take o, (num5 (l.drop (o + 1))).toNat) else none := by
  rw [nameParts_some h]
  by_cases hw : wordOk (l.take o) = true
  · rw [if_pos hw]
    cases e : numFrom (l.drop (o + 1)) 999 with
    | some n =>
      obtain ⟨e1, e2⟩ := (numFrom_iff _ _ _).1 e
      have e3 : num5 (l.drop (o + 1)) = n := by rw [e1]; exact num5_dec (by omega)
      have e4 : nameOfS (l.take o) (n : Int) = l := by
        unfold nameOfS nameOf
        rw [if_pos ⟨hw, by omega, by omega⟩, Int.toNat_natCast, ← e1]
        exact hl.symm
      rw [e3, if_pos ⟨by omega, e4⟩]
      rfl
    | none =>
      rw [if_neg]
      · rfl
      · rintro ⟨h0, h1⟩
        unfold nameOfS at h1
        split at h1
        · rename_i hh
          unfold nameOf at h1
          have h2 : 45 :: Lib.decDigits (num5 (l.drop (o + 1))).toNat = 45 :: l.drop (o + 1) := List.append_cancel_left (h1.trans hl)
          injection h2 with _ h2
          have := (numFrom_iff (l.drop (o + 1)) 999 (num5 (l.drop (o + 1))).toNat).2 ⟨h2.symm, by omega⟩
          rw [e] at this
          cases this
        · rw [← h1] at hl
          simp at hl
  · rw [if_neg hw, if_neg]
    rintro ⟨_, h1⟩
    unfold nameOfS at h1
    rw [if_neg (fun hh => hw hh.1)] at h1
    rw [← h1] at hl
    simp at hl
end Go.Proofs.YtnfncnpnkmjjeaaDoor
