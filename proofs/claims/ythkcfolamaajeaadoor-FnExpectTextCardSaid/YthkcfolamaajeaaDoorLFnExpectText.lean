/- The walks of laws.FnExpectText and laws.FnExpectFrom. -/
import Derived.Test.YthkcfolamaajeaaDoorDrawN
import Derived.Test.YthkcfolamaajeaaDoorExpect
namespace Go.Proofs.YthkcfolamaajeaaDoor
open Go.RowKit

theorem numFrom_dec {n most : Nat} (h : n ≤ most) : numFrom (Lib.decDigits n) most = some n := (numFrom_iff _ _ _).2 ⟨rfl, h⟩
theorem dec_not_any (n : Nat) : Lib.decDigits n ≠ bAny := by
  intro e
  have := dec_digits n
  rw [e] at this
  exact absurd this (by decide)
theorem dec_not_none (n : Nat) : Lib.decDigits n ≠ bNone := by
  intro e
  have := dec_digits n
  rw [e] at this
  exact absurd this (by decide)
/-- a text that is not empty has its version. -/
theorem expText_from {n : Int} (h : expText n ≠ []) : -2 ≤ n ∧ n ≤ 23 ∧ expFrom (expText n) = some n := by
  have h0 : -2 ≤ n ∧ n ≤ 23 := by
    by_cases h1 : -2 ≤ n ∧ n ≤ 23
    · exact h1
    · exact absurd (expText_no (by omega)) h
  refine ⟨h0.1, h0.2, ?_⟩
  by_cases h2 : n = -2
  · subst h2; exact expFrom_any
  by_cases h3 : n = -1
  · subst h3; exact expFrom_none
  obtain ⟨m, rfl⟩ : ∃ m : Nat, n = m := ⟨n.toNat, by omega⟩
  rw [expText_num (by omega), expFrom_num (dec_not_any m) (dec_not_none m), numFrom_dec (by omega)]
  rfl
/-- a version that a text has is valid and has the text. -/
theorem expFrom_text {l : List UInt8} {n : Int} (h : expFrom l = some n) : -2 ≤ n ∧ n ≤ 23 ∧ expText n = l := by
  by_cases h1 : l = bAny
  · subst h1; rw [expFrom_any] at h; injection h with h; subst h; exact ⟨by omega, by omega, rfl⟩
  by_cases h2 : l = bNone
  · subst h2; rw [expFrom_none] at h; injection h with h; subst h; exact ⟨by omega, by omega, rfl⟩
  rw [expFrom_num h1 h2] at h
  cases e : numFrom l 23 with
  | none => rw [e] at h; cases h
  | some m =>
    rw [e] at h
    injection h with h
    obtain ⟨e1, e2⟩ := (numFrom_iff _ _ _).1 e
    subst h
    show -2 ≤ (m : Int) ∧ (m : Int) ≤ 23 ∧ expText (m : Int) = l
    exact ⟨by omega, by omega, by rw [expText_num e2, e1]⟩
theorem expText_len (n : Int) : (expText n).length ≤ 60 := by
  by_cases h : expText n = []
  · rw [h]; simp
  · obtain ⟨h1, h2, _⟩ := expText_from h
    by_cases h2 : n = -2
    · subst h2; decide
    by_cases h3 : n = -1
    · subst h3; decide
    obtain ⟨m, rfl⟩ : ∃ m : Nat, n = m := ⟨n.toNat, by omega⟩
    rw [expText_num (by omega)]
    have := dec_len3 (n := m) (by omega)
    omega

def IntDrawn (w : World) (e : Ending) (w' : World) : Prop := ∃ k : Int, e = .returned (.int .i64 k) ∧ -1000 ≤ k ∧ k ≤ 1000 ∧ Below w.heap.size w w'
set_option maxHeartbeats 1000000 in
theorem drawExpectText_any (A : Option Addr) (n c : Nat) (w : World) (h : Code w A n c) :
    Calls Tryd.prog 15 #[.slice A n c] w (IntDrawn w) := by
  go_enter Tryd.func15, Tryd.ntmps15
  go_wp2_with fail
  refine (open_any A n c _ h).mono ?_
  rintro e w1 ⟨r, rfl, hr, hb1, h1⟩
  clear h
  go_wp2_with fail
  refine (pick_any r 0 _ _ h1 (by omega) (by omega)).mono ?_
  rintro e w2 ⟨x, rfl, hx, hg2, h2⟩
  have hx := hx (by omega)
  go_wp2_with fail
  go_ret
  exact ⟨_, rfl, by omega, by omega, drawn_below hr hb1 hg2⟩

set_option maxHeartbeats 1000000 in
theorem law_FnExpectText (A : Option Addr) (n c : Nat) (w : World) (h : Code w A n c) (_ht : Lib.TabIs Tryd.prog w "internal/strconv.uint64pow10" .u64 Lib.pow10Tab) :
    Calls Tryd.prog 4 #[.slice A n c] w fun e w' => e = .returned (.bool true) ∧ Below w.heap.size w w' := by
  have hn := h.2.1
  unfold maxLen at hn
  by_cases hbig : (1048576 : Int) < n
  · go_enter Tryd.func4, Tryd.ntmps4
    go_wp2_with fail
    go_ret
    exact ⟨rfl, Below.refl _ _⟩
  · have h1 := Lib.hid h
    clear h
    go_enter Tryd.func4, Tryd.ntmps4
    go_wp2_with fail
    refine (drawExpectText_any A n c _ h1.out).mono ?_
    rintro e w1 ⟨k, rfl, hk1, hk2, hb1⟩
    go_wp2_with fail
    refine (expectText_any k _).mono ?_
    rintro e w2 ⟨t, rfl, ht, hb2⟩
    have Ht := Lib.hid ht
    clear ht
    go_wp2_with fail
    refine (expectTextS_any k _).mono ?_
    rintro e w3 ⟨u, rfl, hu, hb3⟩
    obtain rfl : u = t := bytes_of (hu.trans Ht.out.symm)
    clear hu
    by_cases he : expText k = []
    · have hz : u.toList = [] := by rw [ByteArray.toList_eq, Ht.out, he]
      clear he
      go_wp2_with fail
      go_ret
      exact ⟨rfl, bt (bt hb1 hb2) hb3⟩
    · have hz : u.toList.isEmpty = false := by
        rw [ByteArray.toList_eq, Ht.out]
        cases e : expText k with
        | nil => exact absurd e he
        | cons a l => rfl
      have hz2 : ¬ u.toList = [] := fun e => by rw [e] at hz; cases hz
      obtain ⟨k1, k2, k3⟩ := expText_from he
      have hsz : u.size ≤ maxLen := by
        have := expText_len k
        rw [← Ht.out, str_len] at this
        exact small60 this
      have Hf := Lib.hid (fun W => expectFrom_any u W hsz)
      have Hv := Lib.hid (fun W => expectValid_any k W)
      rw [← expOk_yes k1 k2] at Hv
      unfold ExpFromRet at Hf
      rw [Ht.out, k3] at Hf
      clear he k3
      go_wp2_with (first
        | (go_at_call 18; refine (Hf.out _).mono ?_; rintro e w4 ⟨rfl, hb4⟩)
        | (go_at_call 19; refine (Hv.out _).mono ?_; rintro e w5 ⟨rfl, rfl⟩))
      go_ret
      exact ⟨rfl, bt (bt (bt hb1 hb2) hb3) hb4⟩

set_option maxHeartbeats 1000000 in
theorem drawExpectFrom_any (A : Option Addr) (n c : Nat) (w : World) (h : Code w A n c) :
    Calls Tryd.prog 26 #[.slice A n c] w (StrDrawn w) := by
  go_enter Tryd.func26, Tryd.ntmps26
  go_wp2_with fail
  refine (open_any A n c _ h).mono ?_
  rintro e w1 ⟨r, rfl, hr, hb1, h1⟩
  clear h
  go_wp2_with fail
  refine (pick_any r 0 _ _ h1 (by omega) (by omega)).mono ?_
  rintro e w2 ⟨x, rfl, hx, hg2, h2⟩
  have hb2 := drawn_below hr hb1 hg2
  by_cases hz : x = 0
  · have hb : ((x : Int) == 0) = true := by rw [hz]; rfl
    clear hz
    go_wp2_with fail
    refine (of_lit r (0 + 1) 7 _ _ _ h2 (by omega) rfl (by omega) (by omega) (by kernel_rfl)).mono ?_
    rintro e w3 ⟨s, rfl, hs, hg3, h3⟩
    go_wp2_with fail
    go_ret
    exact ⟨s, rfl, hs, drawn_below hr hb2 hg3⟩
  · have hb : ((x : Int) == 0) = false := beq_eq_false_iff_ne.2 (by omega)
    clear hz
    go_wp2_with fail
    refine (pick_any r _ _ _ h2 (by omega) (by omega)).mono ?_
    rintro e w3 ⟨y, rfl, hy, hg3, h3⟩
    have hb3 := drawn_below hr hb2 hg3
    have hy := hy (by omega)
    go_wp2_with fail
    refine (expectTextS_any _ _).mono ?_
    rintro e w4 ⟨s, rfl, hs, hb4⟩
    go_wp2_with fail
    go_ret
    exact ⟨s, rfl, by have := expText_len ((y : Int) - 2); rw [← hs, str_len] at this; exact this, bt hb3 hb4⟩

set_option maxHeartbeats 1000000 in
theorem law_FnExpectFrom (A : Option Addr) (n c : Nat) (w : World) (h : Code w A n c) (_ht : Lib.TabIs Tryd.prog w "internal/strconv.uint64pow10" .u64 Lib.pow10Tab) :
    Calls Tryd.prog 8 #[.slice A n c] w fun e w' => e = .returned (.bool true) ∧ Below w.heap.size w w' := by
  have hn := h.2.1
  unfold maxLen at hn
  by_cases hbig : (1048576 : Int) < n
  · go_enter Tryd.func8, Tryd.ntmps8
    go_wp2_with fail
    go_ret
    exact ⟨rfl, Below.refl _ _⟩
  · have h1 := Lib.hid h
    clear h
    go_enter Tryd.func8, Tryd.ntmps8
    go_wp2_with fail
    refine (drawExpectFrom_any A n c _ h1.out).mono ?_
    rintro e w1 ⟨s, rfl, hs, hb1⟩
    have H1 := Lib.hid (fun W => expectFrom_any s W (small60 hs))
    have H2 := Lib.hid (fun W => expectFromS_any s W (small60 hs))
    unfold ExpFromRet at H1 H2
    cases hx : expFrom s.data.toList with
    | none =>
      rw [hx] at H1 H2
      clear hx
      go_wp2_with (first
        | (go_at_call 18; refine (H1.out _).mono ?_; rintro e w2 ⟨rfl, hb2⟩)
        | (go_at_call 27; refine (H2.out _).mono ?_; rintro e w3 ⟨rfl, hb3⟩))
      go_ret
      exact ⟨rfl, bt (bt hb1 hb2) hb3⟩
    | some k =>
      obtain ⟨k1, k2, k3⟩ := expFrom_text hx
      rw [hx] at H1 H2
      clear hx
      have Hk := Lib.hid k3
      have Hv := Lib.hid (fun W => expectValid_any k W)
      rw [← expOk_yes k1 k2] at Hv
      clear k3
      go_wp2_with (first
        | (go_at_call 18; refine (H1.out _).mono ?_; rintro e w2 ⟨rfl, hb2⟩)
        | (go_at_call 27; refine (H2.out _).mono ?_; rintro e w3 ⟨rfl, hb3⟩)
        | (go_at_call 19; refine (Hv.out _).mono ?_; rintro e w5 ⟨rfl, rfl⟩)
        | (go_at_call 16; refine (expectText_any _ _).mono ?_; rintro e w4 ⟨u, rfl, hu, hb4⟩; rw [Hk.out] at hu; obtain rfl := bytes_of hu; clear hu))
      go_ret
      exact ⟨by simp, bt (bt (bt hb1 hb2) hb3) hb4⟩
end Go.Proofs.YthkcfolamaajeaaDoor
