/- Events as texts, plainly: what is cut at blanks, the text of an event, the event of a text. -/
import Derived.Test.YtecijlebfpbpaaaDoorPStore
import Derived.Test.YtecijlebfpbpaaaDoorNamesT
import Derived.Lib.SplitLaws
namespace Go.Proofs.YtecijlebfpbpaaaDoor
set_option linter.unusedVariables false
set_option linter.unusedSimpArgs false

def consHead (c : UInt8) : List (List UInt8) → List (List UInt8)
  | [] => [[c]]
  | p :: ps => (c :: p) :: ps
/-- a text cut at its blanks. -/
def cutB : List UInt8 → List (List UInt8)
  | [] => [[]]
  | c :: l => if c = 32 then [] :: cutB l else consHead c (cutB l)
theorem cutB_blank (l : List UInt8) : cutB (32 :: l) = [] :: cutB l := by rw [cutB, if_pos rfl]
theorem cutB_cons {c : UInt8} (l : List UInt8) (h : c ≠ 32) : cutB (c :: l) = consHead c (cutB l) := by rw [cutB, if_neg h]
theorem cutB_some (l : List UInt8) : ∃ p ps, cutB l = p :: ps := by
  induction l with
  | nil => exact ⟨_, _, rfl⟩
  | cons c l ih =>
    by_cases h : c = 32
    · subst h; rw [cutB_blank]; exact ⟨_, _, rfl⟩
    · obtain ⟨p, ps, e⟩ := ih
      rw [cutB_cons l h, e]; exact ⟨_, _, rfl⟩
theorem cutB_app {a : List UInt8} (b : List UInt8) (h : ∀ c ∈ a, c ≠ 32) : cutB (a ++ 32 :: b) = a :: cutB b := by
  induction a with
  | nil => exact cutB_blank b
  | cons c a ih =>
    rw [List.cons_append, cutB_cons _ (h c (by simp)), ih (fun y hy => h y (by simp [hy]))]
    rfl
theorem cutB_one {a : List UInt8} (h : ∀ c ∈ a, c ≠ 32) : cutB a = [a] := by
  induction a with
  | nil => rfl
  | cons c a ih =>
    rw [cutB_cons _ (h c (by simp)), ih (fun y hy => h y (by simp [hy]))]
    rfl
def joinB : List (List UInt8) → List UInt8
  | [] => []
  | [p] => p
  | p :: q :: ps => p ++ 32 :: joinB (q :: ps)
theorem joinB_cutB (l : List UInt8) : joinB (cutB l) = l := by
  induction l with
  | nil => rfl
  | cons c l ih =>
    obtain ⟨p, ps, e⟩ := cutB_some l
    by_cases h : c = 32
    · subst h
      rw [cutB_blank, e]
      show [] ++ 32 :: joinB (p :: ps) = _
      rw [← e, ih]; rfl
    · rw [cutB_cons l h, e]
      rw [e] at ih
      show joinB ((c :: p) :: ps) = _
      cases ps with
      | nil =>
        have : p = l := ih
        rw [this]; rfl
      | cons q ps =>
        show (c :: p) ++ 32 :: joinB (q :: ps) = _
        have : p ++ 32 :: joinB (q :: ps) = l := ih
        rw [List.cons_append, this]
theorem cutB_three {l a b c : List UInt8} (h : cutB l = [a, b, c]) : l = a ++ 32 :: (b ++ 32 :: c) := by
  have := joinB_cutB l
  rw [h] at this
  exact this.symm
theorem index_blank (l : List UInt8) : Lib.index (32 :: l) [32] = ((0 : Nat) : Int) := by rw [Lib.index]; simp [List.isPrefixOf]
theorem split_cutB (l : List UInt8) : Lib.splitK [32] 0 (Lib.count l [32]) l = cutB l := by
  induction l with
  | nil => rw [Lib.count_miss (by simp [Lib.index])]; rfl
  | cons c l ih =>
    by_cases h : c = 32
    · subst h
      rw [Lib.count_cons_eq, Nat.add_comm, cutB_blank, Lib.splitK, if_neg (by rw [index_blank]; decide), index_blank]
      simp only [Int.toNat_natCast, Nat.zero_add, List.take_zero, List.length_cons, List.length_nil, List.drop_succ_cons, List.drop_zero]
      rw [ih]
    · rw [Lib.count_cons_ne c 32 l h, cutB_cons l h, ← ih]
      have hp : ([32] : List UInt8).isPrefixOf (c :: l) = false := by simp [List.isPrefixOf, Ne.symm h]
      have hix : Lib.index (c :: l) [32] = if Lib.index l [32] == -1 then -1 else Lib.index l [32] + 1 := by rw [Lib.index, hp]; simp
      cases hk : Lib.count l [32] with
      | zero => rfl
      | succ k =>
        have hm : ¬ Lib.index l [32] = -1 := fun e => by rw [Lib.count_miss e] at hk; cases hk
        have hge := Lib.index_ge l [32]
        obtain ⟨j, hj⟩ : ∃ j : Nat, Lib.index l [32] = j := ⟨(Lib.index l [32]).toNat, by omega⟩
        rw [if_neg (fun e => hm (beq_iff_eq.1 e)), hj] at hix
        rw [Lib.splitK, Lib.splitK, if_neg (by rw [hix]; exact fun e => by have := beq_iff_eq.1 e; omega), if_neg (by rw [hj]; exact fun e => by have := beq_iff_eq.1 e; omega), hix, hj]
        have e1 : ((j : Int) + 1).toNat = j + 1 := by omega
        rw [e1, Int.toNat_natCast]
        simp only [Nat.add_zero, List.length_cons, List.length_nil, Nat.zero_add, List.take_succ_cons, List.drop_succ_cons, consHead]

/-! ### the text of an event -/
def evText (e : Ev) : List UInt8 := Lib.decDigits e.id.toNat ++ 32 :: (e.kind.data.toList ++ 32 :: Lib.decDigits e.data.toNat)
/-- the reference's: empty where the event is invalid. -/
def evTextS (e : Ev) : List UInt8 := if evOk e then evText e else []
def evFrom (l : List UInt8) : Option Ev :=
  match cutB l with
  | [a, b, c] => if (numFrom a 9999).isSome && (numFrom c 999).isSome && evOk ⟨((numFrom a 9999).getD 0 : Nat), ⟨b.toArray⟩, ((numFrom c 999).getD 0 : Nat)⟩ then some ⟨((numFrom a 9999).getD 0 : Nat), ⟨b.toArray⟩, ((numFrom c 999).getD 0 : Nat)⟩ else none
  | _ => none
theorem digit_no32 {l : List UInt8} (h : l.all digit = true) : ∀ c ∈ l, c ≠ 32 := fun c hc e => by
  have := List.all_eq_true.1 h c hc
  subst e
  revert this
  decide
theorem word_no32 {l : List UInt8} (h : wordOk l = true) : ∀ c ∈ l, c ≠ 32 := fun c hc e => by
  unfold wordOk at h
  rw [Bool.and_eq_true] at h
  have := List.all_eq_true.1 h.2 c hc
  subst e
  revert this
  decide
theorem evOk_iff {e : Ev} : evOk e = true ↔ (1 ≤ e.id ∧ e.id ≤ 9999) ∧ wordOk e.kind.data.toList = true ∧ 0 ≤ e.data ∧ e.data ≤ 999 := by
  unfold evOk
  rw [Bool.and_eq_true, Bool.and_eq_true, decide_eq_true_eq, decide_eq_true_eq]
  constructor
  · rintro ⟨⟨a, b⟩, c⟩; exact ⟨a, b, c⟩
  · rintro ⟨a, b, c⟩; exact ⟨⟨a, b⟩, c⟩
theorem cutB_text {e : Ev} (h : evOk e = true) : cutB (evText e) = [Lib.decDigits e.id.toNat, e.kind.data.toList, Lib.decDigits e.data.toNat] := by
  unfold evText
  rw [cutB_app _ (digit_no32 (dec_digits _)), cutB_app _ (word_no32 (evOk_iff.1 h).2.1), cutB_one (digit_no32 (dec_digits _))]
theorem evFrom_text {e : Ev} (h : evOk e = true) : evFrom (evText e) = some e := by
  obtain ⟨h1, h2, h3⟩ := evOk_iff.1 h
  have e1 : numFrom (Lib.decDigits e.id.toNat) 9999 = some e.id.toNat := (numFrom_iff _ _ _).2 ⟨rfl, by omega⟩
  have e2 : numFrom (Lib.decDigits e.data.toNat) 999 = some e.data.toNat := (numFrom_iff _ _ _).2 ⟨rfl, by omega⟩
  have e3 : (⟨((e.id.toNat : Nat) : Int), ⟨e.kind.data.toList.toArray⟩, ((e.data.toNat : Nat) : Int)⟩ : Ev) = e := by
    obtain ⟨id, kind, data⟩ := e
    simp only at h1 h3
    show (⟨((id.toNat : Nat) : Int), ⟨kind.data.toList.toArray⟩, ((data.toNat : Nat) : Int)⟩ : Ev) = ⟨id, kind, data⟩
    rw [Int.toNat_of_nonneg (by omega), Int.toNat_of_nonneg (by omega)]
  unfold evFrom
  rw [cutB_text h]
  simp only [e1, e2, Option.isSome_some, Option.getD_some, Bool.true_and, e3, h]
  rfl
theorem evFrom_some {l : List UInt8} {e : Ev} (h : evFrom l = some e) : evOk e = true ∧ evText e = l ∧ cutB l = [Lib.decDigits e.id.toNat, e.kind.data.toList, Lib.decDigits e.data.toNat] := by
  unfold evFrom at h
  split at h
  · rename_i a b c hc
    split at h
    · rename_i hh
      rw [Bool.and_eq_true, Bool.and_eq_true] at hh
      obtain ⟨⟨h1, h2⟩, h3⟩ := hh
      obtain ⟨i, hi⟩ := Option.isSome_iff_exists.1 h1
      obtain ⟨d, hd⟩ := Option.isSome_iff_exists.1 h2
      rw [hi, hd] at h h3
      injection h with h
      simp only [Option.getD_some] at h h3
      subst h
      have ea := ((numFrom_iff _ _ _).1 hi).1
      have ec := ((numFrom_iff _ _ _).1 hd).1
      have hl := cutB_three hc
      refine ⟨h3, ?_, ?_⟩
      · unfold evText
        simp only [Int.toNat_natCast]
        rw [hl, ea, ec]
      · simp only [Int.toNat_natCast]
        rw [hc, ea, ec]
    · cases h
  · cases h
/-- the reference's answer is the same. -/
theorem evFrom_ref {l a b c : List UInt8} (h : cutB l = [a, b, c]) : (evTextS ⟨num5 a, ⟨b.toArray⟩, num5 c⟩ = l ↔ (evFrom l).isSome = true) ∧ (∀ e, evFrom l = some e → e = ⟨num5 a, ⟨b.toArray⟩, num5 c⟩) := by
  have hback : ∀ e, evFrom l = some e → e = ⟨num5 a, ⟨b.toArray⟩, num5 c⟩ ∧ evOk e = true ∧ evText e = l := by
    intro e he
    obtain ⟨h1, h2, h3⟩ := evFrom_some he
    rw [h] at h3
    injection h3 with ha h3
    injection h3 with hb h3
    injection h3 with hc _
    obtain ⟨o1, o2, o3⟩ := evOk_iff.1 h1
    refine ⟨?_, h1, h2⟩
    rw [ha, hb, hc, num5_dec (by omega), num5_dec (by omega), Int.toNat_of_nonneg (by omega), Int.toNat_of_nonneg (by omega)]
  refine ⟨⟨fun ht => ?_, fun hs => ?_⟩, fun e he => (hback e he).1⟩
  · unfold evTextS at ht
    split at ht
    · rename_i hk
      rw [← ht, evFrom_text hk]; rfl
    · rw [← ht] at h; cases h
  · obtain ⟨e, he⟩ := Option.isSome_iff_exists.1 hs
    obtain ⟨h1, h2, h3⟩ := hback e he
    rw [← h1]
    unfold evTextS
    rw [if_pos h2]; exact h3
theorem evFrom_not3 {l : List UInt8} (h : (cutB l).length ≠ 3) : evFrom l = none := by
  unfold evFrom
  split
  · rename_i hc; rw [hc] at h; exact absurd rfl h
  · rfl
theorem evFrom_behind {l : List UInt8} {e : Ev} (h : evFrom l = some e) : evFrom (l ++ [32]) = none := by
  obtain ⟨h1, h2, _⟩ := evFrom_some h
  refine evFrom_not3 ?_
  have : l ++ [32] = Lib.decDigits e.id.toNat ++ 32 :: (e.kind.data.toList ++ 32 :: (Lib.decDigits e.data.toNat ++ 32 :: [])) := by rw [← h2]; simp [evText]
  rw [this, cutB_app _ (digit_no32 (dec_digits _)), cutB_app _ (word_no32 (evOk_iff.1 h1).2.1), cutB_app _ (digit_no32 (dec_digits _))]
  simp [cutB]
theorem evFrom_ahead {l : List UInt8} {e : Ev} (h : evFrom l = some e) : evFrom (32 :: l) = none := by
  obtain ⟨_, _, h3⟩ := evFrom_some h
  refine evFrom_not3 ?_
  rw [cutB_blank, h3]
  simp
theorem evFrom_zero {l : List UInt8} {e : Ev} (h : evFrom l = some e) : evFrom (48 :: l) = none := by
  obtain ⟨_, _, h3⟩ := evFrom_some h
  unfold evFrom
  rw [cutB_cons _ (by decide), h3]
  have hn : numFrom (48 :: Lib.decDigits e.id.toNat) 9999 = none := numFrom_none _ _ fun n _ he => by
    rcases dec_head n with rfl | hd
    · rw [show Lib.decDigits 0 = [dch 0] from dec_small (by omega)] at he
      injection he with _ he
      exact dec_ne _ he
    · rw [← he] at hd; exact hd rfl
  simp only [consHead, hn, Option.isSome_none, Bool.false_and]
  rfl
end Go.Proofs.YtecijlebfpbpaaaDoor
