/- Expected versions. -/
import Derived.Test.YthkcfolamaajeaaDoorNamesT
import Derived.Test.YthkcfolamaajeaaDoorShelf
namespace Go.Proofs.YthkcfolamaajeaaDoor
open Go.RowKit

def bAny : List UInt8 := [97, 110, 121]
def bNone : List UInt8 := [110, 111, 110, 101]
def expText (n : Int) : List UInt8 := if n = -2 then bAny else if n = -1 then bNone else if 0 ≤ n ∧ n ≤ 23 then Lib.decDigits n.toNat else []

theorem expText_no {n : Int} (h : n < -2 ∨ 23 < n) : expText n = [] := by unfold expText; rw [if_neg (by omega), if_neg (by omega), if_neg (by omega)]
theorem expText_num {n : Nat} (h : n ≤ 23) : expText (n : Int) = Lib.decDigits n := by
  unfold expText; rw [if_neg (by omega), if_neg (by omega), if_pos (by omega), Int.toNat_natCast]

/-! ### what the type switches find -/
theorem as_aa (w : World) : (Instr.typeAssert (.iface 97 (.agg #[])) 64 97 true).run Tryd.prog w = .ok (.tuple #[.agg #[], .bool true]) w := by kernel_rfl
theorem as_na (w : World) : (Instr.typeAssert (.iface 98 (.agg #[])) 64 97 true).run Tryd.prog w = .ok (.tuple #[.agg #[], .bool false]) w := by kernel_rfl
theorem as_nn (w : World) : (Instr.typeAssert (.iface 98 (.agg #[])) 64 98 true).run Tryd.prog w = .ok (.tuple #[.agg #[], .bool true]) w := by kernel_rfl
theorem as_la (n : Int) (w : World) : (Instr.typeAssert (.iface 99 (.int .i64 n)) 64 97 true).run Tryd.prog w = .ok (.tuple #[.agg #[], .bool false]) w := by kernel_rfl
theorem as_ln (n : Int) (w : World) : (Instr.typeAssert (.iface 99 (.int .i64 n)) 64 98 true).run Tryd.prog w = .ok (.tuple #[.agg #[], .bool false]) w := by kernel_rfl
theorem as_ll (n : Int) (w : World) : (Instr.typeAssert (.iface 99 (.int .i64 n)) 64 99 true).run Tryd.prog w = .ok (.tuple #[.int .i64 n, .bool true]) w := by kernel_rfl
theorem as_0a (w : World) : (Instr.typeAssert .nilIface 64 97 true).run Tryd.prog w = .ok (.tuple #[.agg #[], .bool false]) w := by kernel_rfl
theorem as_0n (w : World) : (Instr.typeAssert .nilIface 64 98 true).run Tryd.prog w = .ok (.tuple #[.agg #[], .bool false]) w := by kernel_rfl
theorem as_0l (w : World) : (Instr.typeAssert .nilIface 64 99 true).run Tryd.prog w = .ok (.tuple #[.int .i64 0, .bool false]) w := by kernel_rfl

set_option maxRecDepth 100000 in
set_option maxHeartbeats 1000000 in
theorem expectText_any (n : Int) (w : World) :
    Calls Tryd.prog 16 #[.int .i64 n] w (StrRet (expText n) w) := by
  have k1 := as_aa
  have k2 := as_na
  have k3 := as_nn
  have k4 := as_la
  have k5 := as_ln
  have k6 := as_ll
  have k7 := as_0a
  have k8 := as_0n
  have k9 := as_0l
  by_cases h2 : n = -2
  · subst h2
    go_enter Tryd.func16, Tryd.ntmps16
    go_wp2_with (first | go_in)
    go_ret
    exact ⟨_, rfl, rfl, by repeat (first | exact Below.refl _ _ | refine Below.alloc ?_ (by simp) _)⟩
  by_cases h3 : n = -1
  · subst h3
    clear h2
    go_enter Tryd.func16, Tryd.ntmps16
    go_wp2_with (first | go_in)
    go_ret
    exact ⟨_, rfl, rfl, by repeat (first | exact Below.refl _ _ | refine Below.alloc ?_ (by simp) _)⟩
  have b2 : (n == -2) = false := beq_eq_false_iff_ne.2 h2
  have b3 : (n == -1) = false := beq_eq_false_iff_ne.2 h3
  by_cases h4 : 0 ≤ n ∧ n ≤ 23
  · obtain ⟨m, rfl⟩ : ∃ m : Nat, n = m := ⟨n.toNat, by omega⟩
    have Hn := Lib.hid (expText_num (n := m) (by omega))
    obtain ⟨h4, h5⟩ := h4
    clear h2 h3
    go_enter Tryd.func16, Tryd.ntmps16
    go_wp2_with (first
      | (go_at_call 71; refine (Tryd.strconv_Itoa_small m (by omega) _).mono ?_; rintro e w' ⟨rfl, rfl⟩)
      | go_in)
    go_ret
    exact ⟨_, rfl, by rw [Hn.out], Below.refl _ _⟩
  · have Hn := Lib.hid (expText_no (n := n) (by omega))
    by_cases h5 : n < 0
    all_goals
      try (have h6 : 23 < n := by omega)
      clear h2 h3 h4
      go_enter Tryd.func16, Tryd.ntmps16
      go_wp2_with (first | go_in)
      go_ret
      exact ⟨_, rfl, by rw [Hn.out], by repeat (first | exact Below.refl _ _ | refine Below.alloc ?_ (by simp) _)⟩

def expOk (n : Int) : Bool := decide (-2 ≤ n ∧ n ≤ 23)
theorem expOk_yes {n : Int} (h : -2 ≤ n) (h' : n ≤ 23) : true = expOk n := by unfold expOk; rw [decide_eq_true ⟨h, h'⟩]
theorem expOk_no {n : Int} (h : n < -2 ∨ 23 < n) : false = expOk n := by unfold expOk; rw [decide_eq_false (by omega)]

set_option maxHeartbeats 1000000 in
theorem expectValid_any (n : Int) (w : World) :
    Calls Tryd.prog 19 #[.int .i64 n] w fun e w' => e = .returned (.bool (expOk n)) ∧ w = w' := by
  by_cases h2 : n = -2
  · subst h2
    go_enter Tryd.func19, Tryd.ntmps19
    go_wp2_with (first | go_in)
    go_ret
    exact ⟨rfl, rfl⟩
  by_cases h3 : n = -1
  · subst h3
    clear h2
    go_enter Tryd.func19, Tryd.ntmps19
    go_wp2_with (first | go_in)
    go_ret
    exact ⟨rfl, rfl⟩
  have b2 : (n == -2) = false := beq_eq_false_iff_ne.2 h2
  have b3 : (n == -1) = false := beq_eq_false_iff_ne.2 h3
  by_cases h5 : n < 0
  · have Hv := Lib.hid (expOk_no (n := n) (by omega))
    clear h2 h3
    go_enter Tryd.func19, Tryd.ntmps19
    go_wp2_with (first | go_in)
    go_ret
    exact ⟨ret_bool Hv.out, rfl⟩
  by_cases h6 : n ≤ 23
  · have Hv := Lib.hid (expOk_yes (n := n) (by omega) (by omega))
    clear h2 h3
    go_enter Tryd.func19, Tryd.ntmps19
    go_wp2_with (first | go_in)
    go_ret
    exact ⟨ret_bool Hv.out, rfl⟩
  · have Hv := Lib.hid (expOk_no (n := n) (by omega))
    clear h2 h3
    go_enter Tryd.func19, Tryd.ntmps19
    go_wp2_with (first | go_in)
    go_ret
    exact ⟨ret_bool Hv.out, rfl⟩

/-! ### the reference's -/
theorem expectValidS_any (n : Int) (w : World) :
    Calls Tryd.prog 45 #[.int .i64 n] w fun e w' => e = .returned (.bool (expOk n)) ∧ w = w' := by
  have Hv := Lib.hid (show (decide (-2 ≤ n) && decide (n ≤ 23)) = expOk n by unfold expOk; rw [Bool.eq_iff_iff]; simp)
  go_enter Tryd.func45, Tryd.ntmps45
  go_wp2_with (go_at_call 50; refine (l6In_any _ _ _ _).mono ?_; rintro e w' ⟨rfl, rfl⟩)
  go_ret
  exact ⟨ret_bool Hv.out, rfl⟩

set_option maxRecDepth 100000 in
set_option maxHeartbeats 1000000 in
theorem expectTextS_any (n : Int) (w : World) :
    Calls Tryd.prog 17 #[.int .i64 n] w (StrRet (expText n) w) := by
  by_cases h : -2 ≤ n ∧ n ≤ 23
  · have Hv := Lib.hid (fun W => expectValidS_any n W)
    rw [← expOk_yes h.1 h.2] at Hv
    by_cases h2 : n = -2
    · subst h2
      go_enter Tryd.func17, Tryd.ntmps17
      go_wp2_with (go_at_call 45; refine (Hv.out _).mono ?_; rintro e w' ⟨rfl, rfl⟩)
      go_ret
      exact ⟨_, rfl, rfl, Below.refl _ _⟩
    by_cases h3 : n = -1
    · subst h3
      clear h2
      go_enter Tryd.func17, Tryd.ntmps17
      go_wp2_with (go_at_call 45; refine (Hv.out _).mono ?_; rintro e w' ⟨rfl, rfl⟩)
      go_ret
      exact ⟨_, rfl, rfl, Below.refl _ _⟩
    have b2 : (n == -2) = false := beq_eq_false_iff_ne.2 h2
    have b3 : (n == -1) = false := beq_eq_false_iff_ne.2 h3
    obtain ⟨m, rfl⟩ : ∃ m : Nat, n = m := ⟨n.toNat, by omega⟩
    have Hn := Lib.hid (expText_num (n := m) (by omega))
    obtain ⟨h4, h5⟩ := h
    clear h2 h3
    go_enter Tryd.func17, Tryd.ntmps17
    go_wp2_with (first
      | (go_at_call 45; refine (Hv.out _).mono ?_; rintro e w' ⟨rfl, rfl⟩)
      | (go_at_call 46; refine (l6Dec_any m _ _ rfl (by omega)).mono ?_; rintro e w' ⟨rfl, hb⟩))
    go_ret
    exact ⟨_, rfl, by rw [Hn.out], hb⟩
  · have Hn := Lib.hid (expText_no (n := n) (by omega))
    have Hv := Lib.hid (fun W => expectValidS_any n W)
    rw [← expOk_no (n := n) (by omega)] at Hv
    clear h
    go_enter Tryd.func17, Tryd.ntmps17
    go_wp2_with (go_at_call 45; refine (Hv.out _).mono ?_; rintro e w' ⟨rfl, rfl⟩)
    go_ret
    exact ⟨_, rfl, by rw [Hn.out], Below.refl _ _⟩

/-- the expected version with a text. -/
def expFrom (l : List UInt8) : Option Int := if l = bAny then some (-2) else if l = bNone then some (-1) else (numFrom l 23).map fun n => (n : Int)
def ExpFromRet (l : List UInt8) (w : World) (e : Ending) (w' : World) : Prop := e = .returned (.tuple #[.int .i64 ((expFrom l).getD 0), .bool (expFrom l).isSome]) ∧ Below w.heap.size w w'
theorem expFrom_any : expFrom bAny = some (-2) := by unfold expFrom; rw [if_pos rfl]
theorem expFrom_none : expFrom bNone = some (-1) := by unfold expFrom; rw [if_neg (by decide), if_pos rfl]
theorem expFrom_num {l : List UInt8} (h1 : l ≠ bAny) (h2 : l ≠ bNone) : expFrom l = (numFrom l 23).map fun n => (n : Int) := by
  unfold expFrom; rw [if_neg h1, if_neg h2]
theorem bytes_lit {s : ByteArray} {l : List UInt8} (h : s.data.toList = l) : s = ⟨l.toArray⟩ := bytes_of (by rw [h])
theorem neq_lit {s : ByteArray} {l : List UInt8} (h : s.data.toList ≠ l) : (s.toList == l) = false := by
  rw [ByteArray.toList_eq]; exact beq_eq_false_iff_ne.2 h

set_option maxHeartbeats 1000000 in
theorem expectFrom_any (s : ByteArray) (w : World) (hs : s.size ≤ maxLen) :
    Calls Tryd.prog 18 #[.string s] w (ExpFromRet s.data.toList w) := by
  by_cases h1 : s.data.toList = bAny
  · obtain rfl := bytes_lit h1
    clear h1
    go_enter Tryd.func18, Tryd.ntmps18
    go_wp2_with fail
    go_ret2
    exact ⟨by rw [expFrom_any]; rfl, Below.refl _ _⟩
  by_cases h2 : s.data.toList = bNone
  · obtain rfl := bytes_lit h2
    clear h1 h2
    go_enter Tryd.func18, Tryd.ntmps18
    go_wp2_with fail
    go_ret2
    exact ⟨by rw [expFrom_none]; rfl, Below.refl _ _⟩
  have b1 : (s.toList == [97, 110, 121]) = false := neq_lit h1
  have b2 : (s.toList == [110, 111, 110, 101]) = false := neq_lit h2
  have Hf := Lib.hid (expFrom_num h1 h2)
  clear h1 h2
  go_enter Tryd.func18, Tryd.ntmps18
  go_wp2_with fail
  refine (numberFrom_any s 23 _ hs (by omega)).mono ?_
  rintro e w' ⟨rfl, rfl⟩
  go_wp2_with fail
  go_ret2
  refine ⟨?_, Below.refl _ _⟩
  rw [Hf.out]
  unfold numVal
  cases numFrom s.data.toList 23 <;> rfl

theorem expFrom_ref {l : List UInt8} (h1 : l ≠ bAny) (h2 : l ≠ bNone) :
    expFrom l = if 0 ≤ num5 l ∧ expText (num5 l) = l then some (num5 l) else none := by
  rw [expFrom_num h1 h2]
  cases e : numFrom l 23 with
  | some n =>
    obtain ⟨e1, e2⟩ := (numFrom_iff _ _ _).1 e
    have e3 : num5 l = n := by rw [e1]; exact num5_dec (by omega)
    rw [e3, if_pos ⟨by omega, by rw [expText_num e2, e1]⟩]
    rfl
  | none =>
    rw [if_neg]
    · rfl
    · rintro ⟨h3, h4⟩
      by_cases h5 : num5 l ≤ 23
      · have h6 : numFrom l 23 = some (num5 l).toNat := (numFrom_iff _ _ _).2 ⟨by
          rw [← expText_num (n := (num5 l).toNat) (by omega), Int.toNat_of_nonneg h3]; exact h4.symm, by omega⟩
        rw [e] at h6
        cases h6
      · rw [expText_no (by omega)] at h4
        rw [← h4] at h3
        exact absurd h3 (by decide)
set_option maxHeartbeats 1000000 in
theorem expectFromS_any (s : ByteArray) (w : World) (hs : s.size ≤ maxLen) :
    Calls Tryd.prog 27 #[.string s] w (ExpFromRet s.data.toList w) := by
  by_cases h1 : s.data.toList = bAny
  · obtain rfl := bytes_lit h1
    clear h1
    go_enter Tryd.func27, Tryd.ntmps27
    go_wp2_with fail
    go_ret2
    exact ⟨by rw [expFrom_any]; rfl, Below.refl _ _⟩
  by_cases h2 : s.data.toList = bNone
  · obtain rfl := bytes_lit h2
    clear h1 h2
    go_enter Tryd.func27, Tryd.ntmps27
    go_wp2_with fail
    go_ret2
    exact ⟨by rw [expFrom_none]; rfl, Below.refl _ _⟩
  have b1 : (s.toList == [97, 110, 121]) = false := neq_lit h1
  have b2 : (s.toList == [110, 111, 110, 101]) = false := neq_lit h2
  have Hf := Lib.hid (expFrom_ref h1 h2)
  clear h1 h2
  have n5 := fun W => l1Number_any s W hs
  generalize num5 s.data.toList = N at n5 Hf
  by_cases hN : N < 0
  · go_enter Tryd.func27, Tryd.ntmps27
    go_wp2_with (go_at_call 55; refine (n5 _).mono ?_; rintro e w' ⟨rfl, rfl⟩)
    go_ret2
    exact ⟨by rw [Hf.out, if_neg (by omega)]; rfl, Below.refl _ _⟩
  · by_cases hE : expText N = s.data.toList
    · have HE := Lib.hid hE
      clear hE
      go_enter Tryd.func27, Tryd.ntmps27
      go_wp2_with (first
        | (go_at_call 55; refine (n5 _).mono ?_; rintro e w' ⟨rfl, rfl⟩)
        | (go_at_call 17; refine (expectTextS_any _ _).mono ?_; rintro e w' ⟨u, rfl, hu, hb⟩; rw [HE.out] at hu; obtain rfl := bytes_of hu; clear hu))
      go_ret2
      exact ⟨by rw [Hf.out, if_pos ⟨by omega, HE.out⟩]; rfl, hb⟩
    · have HE := Lib.hid hE
      clear hE
      go_enter Tryd.func27, Tryd.ntmps27
      go_wp2_with (first
        | (go_at_call 55; refine (n5 _).mono ?_; rintro e w' ⟨rfl, rfl⟩)
        | (go_at_call 17; refine (expectTextS_any _ _).mono ?_; rintro e w' ⟨u, rfl, hu, hb⟩; have hx := str_eq (s := u) (t := s) (by rw [hu]; exact HE.out); clear hu))
      go_ret2
      exact ⟨by rw [Hf.out, if_neg (fun h => HE.out h.2)]; rfl, hb⟩
end Go.Proofs.YthkcfolamaajeaaDoor
