/- What a subscriber wants: the reference's. -/
import Derived.Test.YtbcfbkcadceniaaDoorSubW
namespace Go.Proofs.YtbcfbkcadceniaaDoor
set_option linter.unusedVariables false
set_option linter.unusedSimpArgs false
open Go.RowKit

theorem pCat_take {l : List UInt8} {o : Nat} (h : nameOk l = true) (ho : Lib.indexByte l 45 = (o : Int)) : pCat l = l.take o := by
  unfold nameOk at h
  unfold pCat
  unfold nameParts at h ⊢
  rw [ho] at h ⊢
  rw [if_neg (by omega)] at h ⊢
  split at h
  · rename_i h1
    rw [if_pos h1]
    rw [Int.toNat_natCast] at h ⊢
    cases hn : numFrom (l.drop (o + 1)) 999 with
    | none => rw [hn] at h; cases h
    | some n => rfl
  · cases h
set_option maxRecDepth 100000 in
set_option maxHeartbeats 4000000 in
theorem l2Category_any (s : ByteArray) (w : World) (hs : s.size ≤ maxLen) (hok : nameOk s.data.toList = true) :
    Calls Tryd.prog 87 #[.string s] w fun e w' => (∃ c : ByteArray, e = .returned (.string c) ∧ Hid (c.data.toList = pCat s.data.toList)) ∧ w = w' := by
  have hs' := hs
  unfold maxLen at hs
  rcases hyphen s.data.toList with hn | ⟨o, ho, hlt, hcut⟩
  · have := nameParts_none hn
    unfold nameOk at hok
    rw [this] at hok; cases hok
  · have Hp := Lib.hid (pCat_take hok ho)
    have l2 := l2At_any s
    rw [ho] at l2
    rw [str_len] at hlt
    clear ho hcut hok
    go_enter Tryd.func87, Tryd.ntmps87
    go_wp2_with (go_at_call 94; refine (l2 _ hs').mono ?_; rintro e w' ⟨rfl, rfl⟩)
    go_ret
    exact ⟨⟨s.extract 0 o, rfl, Lib.hid (by rw [Hp.out, extract_to])⟩, rfl⟩
set_option maxRecDepth 100000 in
set_option maxHeartbeats 4000000 in
theorem l14Fits_any (cat name kind : ByteArray) (id data : Int) (w : World) (hn : name.size ≤ maxLen) (hok : nameOk name.data.toList = true) :
    Calls Tryd.prog 73 #[.string cat, .agg #[.string name, .int .i64 id, .string kind, .int .i64 data]] w fun e w' => e = .returned (.bool (fits cat ⟨name, ⟨id, kind, data⟩⟩)) ∧ Below w.heap.size w w' := by
  have V := Lib.hid (fun W => l2Category_any name W hn hok)
  clear hok
  by_cases hl : cat = ⟨#[]⟩
  · subst hl
    go_enter Tryd.func73, Tryd.ntmps73
    go_wp2_with fail
    go_ret
    exact ⟨rfl, (Below.refl _ _).alloc (Nat.le_refl _) _⟩
  · have hl2 : (cat.toList == ([] : List UInt8)) = false := by rw [empty_iff]; exact decide_eq_false hl
    have hl3 : ¬ cat.toList = [] := by intro e; rw [e] at hl2; cases hl2
    have Hl := Lib.hid hl
    clear hl
    go_enter Tryd.func73, Tryd.ntmps73
    go_wp2_with fail
    refine (V.out _).mono ?_
    rintro e w1 ⟨⟨c, rfl, hc⟩, rfl⟩
    by_cases hcc : cat = c
    · subst hcc
      have Hf := Lib.hid (fits_at (x := ⟨name, ⟨id, kind, data⟩⟩) hc.out)
      go_wp2_with fail
      go_ret
      exact ⟨ret_bool (by rw [Hf.out]), (Below.refl _ _).alloc (Nat.le_refl _) _⟩
    · have Hf := Lib.hid (fits_no (x := ⟨name, ⟨id, kind, data⟩⟩) Hl.out hcc hc.out)
      have hcn : (c.toList == cat.toList) = false := toList_ne (fun e => hcc e.symm)
      clear hcc
      go_wp2_with fail
      go_ret
      exact ⟨ret_bool Hf.out.symm, (Below.refl _ _).alloc (Nat.le_refl _) _⟩
end Go.Proofs.YtbcfbkcadceniaaDoor
