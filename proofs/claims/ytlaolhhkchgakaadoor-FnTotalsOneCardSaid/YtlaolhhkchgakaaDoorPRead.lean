/- Reading a stream in pieces, plainly: what the statements on versions and reading ask. -/
import Derived.Test.YtlaolhhkchgakaaDoorReads2
namespace Go.Proofs.YtlaolhhkchgakaaDoor
set_option linter.unusedVariables false
set_option linter.unusedSimpArgs false

theorem pieceL_length {α : Type} (l : List α) (a m : Nat) : (pieceL l a m).length = min m (l.length - a) := by unfold pieceL; rw [List.length_take, List.length_drop]
theorem storeOk_24 {l : List En} (h : storeOk l = true) : l.length ≤ 24 := (storeOk_iff.1 h).1
theorem stream_24 {l : List En} {s : ByteArray} (h : storeOk l = true) : (streamOf l s).length ≤ 24 := Nat.le_trans (streamOf_len l s) (storeOk_24 h)
theorem storeVersion_pos {xs : List En} {s : ByteArray} (h : 0 ≤ storeVersion xs s) : storeOk xs = true ∧ nameOk s.data.toList = true ∧ storeVersion xs s = ((streamOf xs s).length : Int) - 1 ∧ 1 ≤ (streamOf xs s).length ∧ (streamOf xs s).length ≤ 24 := by
  cases h1 : storeOk xs with
  | false => rw [storeVersion_no (by rw [h1]; rfl)] at h; omega
  | true =>
    cases h2 : nameOk s.data.toList with
    | false => rw [storeVersion_no (by rw [h2]; simp)] at h; omega
    | true =>
      rw [storeVersion_yes h1 h2] at h
      exact ⟨rfl, rfl, storeVersion_yes h1 h2, by omega, stream_24 h1⟩
theorem storeRead_ver {xs : List En} {s : ByteArray} (h : 0 ≤ storeVersion xs s) : (storeRead xs s (storeVersion xs s) 99).length = 1 ∧ (storeRead xs s 0 99).length = (streamOf xs s).length ∧ storeVersion xs s + 1 = ((streamOf xs s).length : Int) := by
  obtain ⟨h1, h2, h3, h4, h5⟩ := storeVersion_pos h
  rw [h3]
  rw [storeRead_yes h1 h2 (rdOk_iff.2 (by omega)), storeRead_yes h1 h2 (rdOk_iff.2 (by omega)), pieceL_length, pieceL_length]
  refine ⟨?_, ?_, by omega⟩
  · show min (99 : Int).toNat _ = 1
    omega
  · show min (99 : Int).toNat ((streamOf xs s).length - (0 : Int).toNat) = _
    omega
theorem storeRead_pos {xs : List En} {s : ByteArray} {a m : Int} (h : (storeRead xs s a m).length ≠ 0) :
    ∃ a' m' : Nat, a = a' ∧ m = m' ∧ storeOk xs = true ∧ nameOk s.data.toList = true ∧ storeRead xs s a m = pieceL (streamOf xs s) a' m' ∧ a' ≤ 99 ∧ m' ≤ 99 ∧ a' + (storeRead xs s a m).length ≤ (streamOf xs s).length ∧ (streamOf xs s).length ≤ 24 ∧ (storeRead xs s a m).length ≤ m' := by
  cases h1 : storeOk xs with
  | false => rw [storeRead_no (by rw [h1]; rfl)] at h; exact absurd rfl h
  | true =>
    cases h2 : nameOk s.data.toList with
    | false => rw [storeRead_no (by rw [h2]; simp)] at h; exact absurd rfl h
    | true =>
      cases h3 : rdOk a m with
      | false => rw [storeRead_no (by rw [h3]; simp)] at h; exact absurd rfl h
      | true =>
        obtain ⟨⟨a1, a2⟩, m1, m2⟩ := rdOk_iff.1 h3
        have e := storeRead_yes h1 h2 h3 (s := s)
        rw [e, pieceL_length] at h
        refine ⟨a.toNat, m.toNat, by omega, by omega, rfl, rfl, e, by omega, by omega, ?_, stream_24 h1, ?_⟩
        · rw [e, pieceL_length]; omega
        · rw [e, pieceL_length]; omega
theorem pieceL_split {α : Type} (l : List α) (a m k : Nat) (hk : k ≤ m) : pieceL l a k ++ pieceL l (a + k) (m - k) = pieceL l a m := by
  unfold pieceL
  rw [← List.drop_drop, ← List.take_add, Nat.add_sub_cancel' hk]
/-- reading goes on: both pieces together. -/
theorem storeRead_on {xs : List En} {s : ByteArray} {a m : Nat} {k : Nat} (h1 : storeOk xs = true) (h2 : nameOk s.data.toList = true) (ha : a + k ≤ 99) (hm : m ≤ 99) (hk : k ≤ m) :
    storeRead xs s a k ++ storeRead xs s ((a + k : Nat) : Int) ((m - k : Nat) : Int) = storeRead xs s a m := by
  rw [storeRead_yes h1 h2 (rdOk_iff.2 (by omega)), storeRead_yes h1 h2 (rdOk_iff.2 (by omega)), storeRead_yes h1 h2 (rdOk_iff.2 (by omega))]
  simp only [Int.toNat_natCast]
  exact pieceL_split _ _ _ _ hk

/-- how many of the events ys are met, one behind the other, in the entries xs. -/
def metL (s : ByteArray) (ys : List Ev) : List En → Nat → Nat
  | [], n => n
  | x :: xs, n => if ys[n]? = some x.ev ∧ x.name = s then metL s ys xs (n + 1) else metL s ys xs n
theorem metL_all (s : ByteArray) (ys : List Ev) (xs : List En) (n : Nat) (hn : n ≤ ys.length) (h : (ys.drop n).Sublist (streamOf xs s)) : metL s ys xs n = ys.length := by
  induction xs generalizing n with
  | nil =>
    have : ys.drop n = [] := by simpa [streamOf] using h
    rw [List.drop_eq_nil_iff] at this
    show n = _
    omega
  | cons x xs ih =>
    unfold metL
    by_cases hx : x.name = s
    · have e1 : streamOf (x :: xs) s = x.ev :: streamOf xs s := by unfold streamOf; rw [List.filter_cons_of_pos (by simpa using hx)]; rfl
      rw [e1] at h
      by_cases hy : ys[n]? = some x.ev
      · rw [if_pos ⟨hy, hx⟩]
        obtain ⟨hlt, e2⟩ := List.getElem?_eq_some_iff.1 hy
        refine ih (n + 1) hlt ?_
        rw [List.drop_eq_getElem_cons hlt, e2] at h
        exact List.Sublist.of_cons_cons h
      · rw [if_neg (fun h => hy h.1)]
        refine ih n hn ?_
        rcases Nat.lt_or_ge n ys.length with hlt | hge
        · rw [List.drop_eq_getElem_cons hlt] at h ⊢
          rcases List.sublist_cons_iff.1 h with h | ⟨r, h1, _⟩
          · exact h
          · exact absurd (by rw [List.getElem?_eq_getElem hlt, (List.cons.inj h1).1]) hy
        · rw [List.drop_eq_nil_of_le hge]; exact List.nil_sublist _
    · have e1 : streamOf (x :: xs) s = streamOf xs s := by unfold streamOf; rw [List.filter_cons_of_neg (by simpa using hx)]
      rw [e1] at h
      rw [if_neg (fun h => hx h.2)]
      exact ih n hn h
theorem pieceL_sublist {α : Type} (l : List α) (a m : Nat) : (pieceL l a m).Sublist l := (List.take_sublist _ _).trans (List.drop_sublist _ _)
theorem metL_take (s : ByteArray) (ys : List Ev) (xs : List En) (k : Nat) (hk : k < xs.length) (n : Nat) : metL s ys (xs.take (k + 1)) n = if ys[metL s ys (xs.take k) n]? = some (nx xs k).ev ∧ (nx xs k).name = s then metL s ys (xs.take k) n + 1 else metL s ys (xs.take k) n := by
  rw [take_nx hk]
  generalize xs.take k = zs
  induction zs generalizing n with
  | nil => rfl
  | cons z zs ih =>
    rw [List.cons_append]
    unfold metL
    split
    · exact ih _
    · exact ih _
end Go.Proofs.YtlaolhhkchgakaaDoor
