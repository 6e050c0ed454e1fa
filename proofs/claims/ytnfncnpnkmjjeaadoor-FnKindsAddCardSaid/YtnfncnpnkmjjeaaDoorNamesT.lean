/- The reference's NameParts, NameValid, NameStripe. -/
import Derived.Test.YtnfncnpnkmjjeaaDoorNamesS
namespace Go.Proofs.YtnfncnpnkmjjeaaDoor
set_option linter.unusedVariables false
set_option linter.unusedSimpArgs false
open Go.RowKit

theorem bytes_of {s t : ByteArray} (h : s.data.toList = t.data.toList) : s = t := by
  apply ByteArray.ext
  exact Array.ext' h
theorem mk_list (s : ByteArray) : (⟨s.data.toList.toArray⟩ : ByteArray) = s := bytes_of (by simp)
theorem str_eq {s t : ByteArray} (h : s.data.toList ≠ t.data.toList) : (s.toList == t.toList) = false := by
  rw [ByteArray.toList_eq, ByteArray.toList_eq]; exact beq_eq_false_iff_ne.2 h
theorem l1Number_at (t : ByteArray) (l : List UInt8) (w : World) (h : t.data.toList = l) (hs : t.size ≤ maxLen) :
    Calls Tryd.prog 59 #[.string t] w fun e w' => e = .returned (.int .i64 (num5 l)) ∧ w = w' := by
  subst h; exact l1Number_any t w hs
theorem nameOfS_at (t : ByteArray) (l : List UInt8) (n : Int) (w : World) (h : t.data.toList = l) (hs : t.size ≤ maxLen) :
    Calls Tryd.prog 52 #[.string t, .int .i64 n] w fun e w' => ∃ u : ByteArray, e = .returned (.string u) ∧ u.data.toList = nameOfS l n ∧ Below w.heap.size w w' := by
  subst h
  exact (nameOfS_any t n w hs).mono fun e w' ⟨he, hb⟩ => ⟨_, he, by simp, hb⟩
theorem extract_to (s : ByteArray) (o : Nat) : (s.extract 0 o).data.toList = s.data.toList.take o := by simp
theorem extract_from (s : ByteArray) (o : Nat) : (s.extract o s.size).data.toList = s.data.toList.drop o := by
  rw [ByteArray.data_extract, Array.toList_extract]
  simp only [List.extract]
  rw [List.take_of_length_le (by rw [List.length_drop, str_len]; exact Nat.le_refl _)]

/-- what a call that tells the parts of a name returns. -/
def PartsRet (l : List UInt8) (e : Ending) : Prop := ∃ c : ByteArray, e = .returned (.tuple #[.string c, .int .i64 (pNum l), .bool (nameOk l)]) ∧ c.data.toList = pCat l
theorem PartsRet.no {l : List UInt8} (h : nameParts l = none) : PartsRet l (.returned (.tuple #[.string ⟨#[]⟩, .int .i64 0, .bool false])) :=
  ⟨⟨#[]⟩, by unfold pNum nameOk; rw [h]; rfl, by unfold pCat; rw [h]; rfl⟩
theorem PartsRet.yes {l : List UInt8} {c : ByteArray} {n : Nat} {m : Int} (h : nameParts l = some (c.data.toList, n)) (hm : m = n) : PartsRet l (.returned (.tuple #[.string c, .int .i64 m, .bool true])) :=
  ⟨c, by unfold pNum nameOk; rw [h, hm]; rfl, by unfold pCat; rw [h]; rfl⟩

set_option maxHeartbeats 1000000 in
theorem namePartsS_any (s : ByteArray) (w : World) (hs : s.size ≤ maxLen) :
    Calls Tryd.prog 47 #[.string s] w fun e w' => PartsRet s.data.toList e ∧ Below w.heap.size w w' := by
  have hs' := hs
  unfold maxLen at hs
  rcases hyphen s.data.toList with hn | ⟨o, ho, hlt, hcut⟩
  · have Hn := Lib.hid (nameParts_none hn)
    have l2 := l2At_any s
    rw [hn] at l2
    clear hn
    go_enter Tryd.func47, Tryd.ntmps47
    go_wp2_with (go_at_call 58; refine (l2 _ hs').mono ?_; rintro e w' ⟨rfl, rfl⟩)
    go_ret3
    exact ⟨PartsRet.no Hn.out, Below.refl _ _⟩
  · have Hr := Lib.hid (parts_ref ho hcut)
    have l2 := l2At_any s
    rw [ho] at l2
    rw [str_len] at hlt
    have Hc := Lib.hid hcut
    clear ho hcut
    have hsz : (s.extract (o + 1) s.size).size ≤ maxLen := by unfold maxLen; rw [ByteArray.size_extract]; omega
    have hsz2 : (s.extract 0 o).size ≤ maxLen := by unfold maxLen; rw [ByteArray.size_extract]; omega
    have n5 := fun W => l1Number_at (s.extract (o + 1) s.size) _ W (extract_from s (o + 1)) hsz
    have nO := fun n W => nameOfS_at (s.extract 0 o) _ n W (extract_to s o) hsz2
    generalize num5 (s.data.toList.drop (o + 1)) = N at n5 Hr
    by_cases hN : N < 0
    · go_enter Tryd.func47, Tryd.ntmps47
      go_wp2_with (first
        | (go_at_call 58; refine (l2 _ hs').mono ?_; rintro e w' ⟨rfl, rfl⟩)
        | (go_at_call 59; refine (n5 _).mono ?_; rintro e w' ⟨rfl, rfl⟩))
      go_ret3
      exact ⟨PartsRet.no (by rw [Hr.out, if_neg (by omega)]), Below.refl _ _⟩
    · by_cases hE : nameOfS (s.data.toList.take o) N = s.data.toList
      · have HE := Lib.hid hE
        clear hE
        go_enter Tryd.func47, Tryd.ntmps47
        go_wp2_with (first
          | (go_at_call 58; refine (l2 _ hs').mono ?_; rintro e w' ⟨rfl, rfl⟩)
          | (go_at_call 59; refine (n5 _).mono ?_; rintro e w' ⟨rfl, rfl⟩)
          | (go_at_call 52; refine (nO _ _).mono ?_; rintro e w' ⟨u, rfl, hu, hb⟩; rw [HE.out] at hu; obtain rfl := bytes_of hu; clear hu))
        go_ret3
        exact ⟨PartsRet.yes (n := N.toNat) (by rw [Hr.out, if_pos ⟨by omega, HE.out⟩, extract_to]) (by omega), hb⟩
      · have HE := Lib.hid hE
        clear hE
        go_enter Tryd.func47, Tryd.ntmps47
        go_wp2_with (first
          | (go_at_call 58; refine (l2 _ hs').mono ?_; rintro e w' ⟨rfl, rfl⟩)
          | (go_at_call 59; refine (n5 _).mono ?_; rintro e w' ⟨rfl, rfl⟩)
          | (go_at_call 52; refine (nO _ _).mono ?_; rintro e w' ⟨u, rfl, hu, hb⟩; have hx := str_eq (s := u) (t := s) (by rw [hu]; exact HE.out); clear hu))
        go_ret3
        exact ⟨PartsRet.no (by rw [Hr.out, if_neg (fun h => HE.out h.2)]), hb⟩

set_option maxHeartbeats 400000 in
theorem nameValidS_any (s : ByteArray) (w : World) (hs : s.size ≤ maxLen) :
    Calls Tryd.prog 23 #[.string s] w fun e w' => e = .returned (.bool (nameOk s.data.toList)) ∧ Below w.heap.size w w' := by
  go_enter Tryd.func23, Tryd.ntmps23
  go_wp2_with (go_at_call 47; refine (namePartsS_any _ _ hs).mono ?_; rintro e w' ⟨⟨c, rfl, hc⟩, hb⟩)
  go_ret
  exact ⟨rfl, hb⟩

/-! ### stripes -/
def mixName (l : List UInt8) : Nat := l.foldl (fun a (c : UInt8) => (31 * a + c.toNat) % 9973) 5
def stripeOf (l : List UInt8) (n : Nat) : Nat := mixName l % n
theorem mixName_snoc (l : List UInt8) (c : UInt8) : mixName (l ++ [c]) = (31 * mixName l + c.toNat) % 9973 := by simp [mixName]
theorem byte_lt (c : UInt8) : c.toNat < 256 := c.toNat_lt

set_option maxHeartbeats 400000 in
theorem l2Stripe_any (s : ByteArray) (n : Nat) (w : World) (hs : s.size ≤ maxLen) (hn : 1 ≤ n) (hn2 : n ≤ 1000) :
    Calls Tryd.prog 25 #[.string s, .int .i64 n] w fun e w' => e = .returned (.int .i64 (stripeOf s.data.toList n)) ∧ w = w' := by
  unfold maxLen at hs
  go_enter Tryd.func25, Tryd.ntmps25
  go_wp2_with fail
  go_loop [5, 6] (fun a i => ∃ k v : Nat, k ≤ s.size ∧ i = .int .i64 k ∧ a = .int .i64 v ∧ v ≤ 10000 ∧ Hid (v = mixName (s.data.toList.take k))) (fun _ i => s.size - (intOf i).toNat)
  case atStart => exact ⟨0, 5, Nat.zero_le _, rfl, rfl, by omega, rfl⟩
  case round =>
    obtain ⟨k, v, hk, rfl, rfl, hv, Hv⟩ := hrel
    by_cases hlt : k < s.size
    · have hb := byte_lt s[k]
      go_wp2_with fail
      go_round
      case rel => exact ⟨k + 1, (31 * v + s[k].toNat) % 9973, by omega, by go_num, by go_num, by omega, by show _ = _; rw [take_snoc s k hlt, mixName_snoc, Hv.out]⟩
      case measure => simp [intOf]; omega
    · have Hm := Lib.hid (show v = mixName s.data.toList by rw [Hv.out, List.take_of_length_le (by rw [str_len]; omega)])
      go_wp2_with fail
      go_ret
      exact ⟨ret_int (by rw [stripeOf, ← Hm.out]; rfl), rfl⟩

/-- the stripe of a name, -1 where an argument is invalid. -/
def nameStripe (l : List UInt8) (n : Int) : Int := if nameOk l = true ∧ 1 ≤ n ∧ n ≤ 8 then stripeOf l n.toNat else -1

end Go.Proofs.YtnfncnpnkmjjeaaDoor
