/- The program's NameOf; names and their parts. -/
import Derived.Test.YtecijlebfpbpaaaDoorNamesI
import Derived.Test.YtecijlebfpbpaaaDoorShelf
import Derived.Lib.LaidTab
namespace Go.Proofs.YtecijlebfpbpaaaDoor
set_option linter.unusedVariables false
set_option linter.unusedSimpArgs false
open Go.RowKit

theorem tabGlobal : Tryd.prog.globalNamed "internal/strconv.uint64pow10" = some 2 := by kernel_rfl
/-- the table of powers lies in its variable. -/
def GT (w : World) : Prop := Lib.TabIs Tryd.prog w "internal/strconv.uint64pow10" .u64 Lib.pow10Tab
theorem GT.below {w w' : World} (h : GT w) (hb : Below w.heap.size w w') : GT w' := by
  have h0 := h.cell tabGlobal 0 (by decide)
  have hlt := World.block_lt_of_cell? w _ h0
  unfold GT Lib.TabIs World.var? at h ⊢
  simp only [tabGlobal, Option.bind_some] at h ⊢
  rw [hb.block _ hlt]
  exact h
theorem below_grow (w : World) (k : Nat) (os : Array Obj) : Below w.heap.size w (Sort.grow (w.drewN k) os) :=
  ⟨rfl, rfl, rfl, by simp [Sort.grow, World.drewN], fun i hi => by simp [Sort.grow, World.drewN, Array.getElem?_append, hi]⟩
theorem itoa_nat (n : Nat) : Lib.itoa n = Lib.decDigits n := by
  unfold Lib.itoa; rw [if_neg (by omega), Int.toNat_natCast]

/-! ### names and their parts, plainly -/
theorem word_no45 {c : List UInt8} (h : wordOk c = true) (j : Nat) : c[j]? ≠ some 45 := by
  intro e
  have hm := List.mem_of_getElem? e
  unfold wordOk at h
  simp at h
  have := h.2 45 hm
  revert this
  decide
theorem nameParts_of {c : List UInt8} {n : Nat} (hc : wordOk c = true) (hn : n ≤ 999) : nameParts (nameOf c n) = some (c, n) := by
  have hi : Lib.indexByte (nameOf c n) 45 = c.length := by
    refine indexByte_at ?_ ?_
    · unfold nameOf; simp
    · intro j hj
      unfold nameOf
      rw [List.getElem?_append_left hj]
      exact word_no45 hc j
  rw [nameParts_some hi]
  have h1 : (nameOf c n).take c.length = c := by unfold nameOf; exact List.take_left' rfl
  have h2 : (nameOf c n).drop (c.length + 1) = Lib.decDigits n := by
    unfold nameOf
    rw [show c.length + 1 = c.length + 1 from rfl, ← List.drop_drop, List.drop_left' rfl]
    rfl
  rw [h1, h2, if_pos hc, (numFrom_iff _ _ _).2 ⟨rfl, hn⟩]
  rfl
theorem nameParts_back {l c : List UInt8} {n : Nat} (h : nameParts l = some (c, n)) : nameOf c n = l ∧ wordOk c = true ∧ n ≤ 999 := by
  rcases hyphen l with h0 | ⟨o, ho, _, hl⟩
  · rw [nameParts_none h0] at h; cases h
  · rw [nameParts_some ho] at h
    split at h
    · rename_i hw
      cases e : numFrom (l.drop (o + 1)) 999 with
      | none => rw [e] at h; cases h
      | some m =>
        rw [e] at h
        injection h with h
        injection h with h1 h2
        subst h1 h2
        obtain ⟨e1, e2⟩ := (numFrom_iff _ _ _).1 e
        refine ⟨?_, hw, e2⟩
        unfold nameOf
        rw [← e1]
        exact hl.symm
    · cases h

set_option maxHeartbeats 2000000 in
theorem nameOfP_any (c : ByteArray) (n : Int) (w : World) (hs : c.size ≤ maxLen) (ht : GT w) :
    Calls Tryd.prog 28 #[.string c, .int .i64 n] w fun e w' => e = .returned (.string ⟨(nameOfS c.data.toList n).toArray⟩) ∧ Below w.heap.size w w' := by
  have hs' := hs
  unfold maxLen at hs
  by_cases h : wordOk c.data.toList = true
  · by_cases h0 : 0 ≤ n ∧ n ≤ 999
    · obtain ⟨m, rfl⟩ : ∃ m : Nat, n = m := ⟨n.toNat, by omega⟩
      obtain ⟨h0, h1⟩ := h0
      have hn : nameOfS c.data.toList m = nameOf c.data.toList m := by unfold nameOfS; rw [if_pos ⟨h, h0, h1⟩]; rfl
      have Hn := Lib.hid hn
      clear hn
      have hsz := (wordOk_size h).2
      rw [str_len] at hsz
      have hl3 : (Lib.decDigits m).length ≤ 3 := dec_len3 (by omega)
      have it := Tryd.strconv_Itoa m (by omega) (by omega) w ht
      rw [itoa_nat] at it
      go_enter Tryd.func28, Tryd.ntmps28
      go_wp2_with (first
        | (go_at_call 62; refine (wordValid_any _ _ hs').mono ?_; rintro e w' ⟨rfl, rfl⟩)
        | (go_at_call 63; refine it.mono ?_; rintro e w' ⟨rfl, k, os, rfl⟩))
      go_ret
      refine ⟨?_, below_grow _ _ _⟩
      rw [Hn.out, ← nameOf_bytes]
      rfl
    · have hn : nameOfS c.data.toList n = [] := by unfold nameOfS; rw [if_neg (fun hh => h0 hh.2)]
      have Hn := Lib.hid hn
      clear hn
      by_cases h1 : n < 0
      all_goals
        try (have h2 : 999 < n := by omega)
        clear h0
        go_enter Tryd.func28, Tryd.ntmps28
        go_wp2_with (first
          | (go_at_call 62; refine (wordValid_any _ _ hs').mono ?_; rintro e w' ⟨rfl, rfl⟩))
        go_ret
        exact ⟨by rw [Hn.out]; rfl, Below.refl _ _⟩
  · have h : wordOk c.data.toList = false := by simpa using h
    have hn : nameOfS c.data.toList n = [] := by unfold nameOfS; rw [if_neg (fun hh => by rw [h] at hh; exact Bool.false_ne_true hh.1)]
    have Hn := Lib.hid hn
    clear hn
    go_enter Tryd.func28, Tryd.ntmps28
    go_wp2_with (first
      | (go_at_call 62; refine (wordValid_any _ _ hs').mono ?_; rintro e w' ⟨rfl, rfl⟩))
    go_ret
    exact ⟨by rw [Hn.out]; rfl, Below.refl _ _⟩
end Go.Proofs.YtecijlebfpbpaaaDoor
