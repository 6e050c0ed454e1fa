/- The program's names: nameSplit, NameValid, NameParts, NameStripe. -/
import Derived.Test.YtnfncnpnkmjjeaaDoorNamesT
import Derived.Test.YtnfncnpnkmjjeaaDoorIs
import Derived.Test.YtnfncnpnkmjjeaaDoorShelf
import Derived.Deep.QuietTactic
import Derived.BigQuiet
namespace Go.Proofs.YtnfncnpnkmjjeaaDoor
set_option linter.unusedVariables false
set_option linter.unusedSimpArgs false
open Go.RowKit

/-- the program's sentinel lies in its variable. -/
def GE (w : World) : Prop := ∃ a : Addr, w.cell? ⟨0, 0, none⟩ = some (.iface 126 (.pointer (some a)))
theorem GE.below {w w' : World} (h : GE w) (hb : Below w.heap.size w w') : GE w' := by
  obtain ⟨a, h⟩ := h
  exact ⟨a, (hb.cell (World.block_lt_of_cell? w _ h)).trans h⟩
theorem below_drewN {B : Nat} {a w : World} (h : Below B a w) (n : Nat) : Below B a (w.drewN n) := ⟨h.os, h.tape, h.output, h.size, h.block⟩

set_option maxHeartbeats 1000000 in
theorem cut_no (s : ByteArray) (w : World) (h : Lib.indexByte s.data.toList 45 = -1) :
    Calls Tryd.prog 60 #[.string s, .string ⟨#[45]⟩] w fun e w' => e = .returned (.tuple #[.string s, .string ⟨#[]⟩, .bool false]) ∧ w = w' := by
  have l2 := fun W => Tryd.stringslite_Index_one s 45 W
  rw [h] at l2
  have L2 := Lib.hid l2
  clear l2 h
  go_enter Tryd.func60, Tryd.ntmps60
  go_wp2_with (first | (go_at_call 67; refine (L2.out _).mono ?_; rintro e w' ⟨rfl, rfl⟩) | go_in)
  go_ret3
  go_wp2_with fail
  go_ret3
  exact ⟨rfl, rfl⟩

set_option maxHeartbeats 1000000 in
theorem cut_yes (s : ByteArray) (o : Nat) (w : World) (hs : s.size ≤ maxLen) (h : Lib.indexByte s.data.toList 45 = o) (ho : o < s.size) :
    Calls Tryd.prog 60 #[.string s, .string ⟨#[45]⟩] w fun e w' => e = .returned (.tuple #[.string (s.extract 0 o), .string (s.extract (o + 1) s.size), .bool true]) ∧ ∃ k, w' = w.drewN k := by
  have l2 := fun W => Tryd.stringslite_Index_one s 45 W
  rw [h] at l2
  have L2 := Lib.hid l2
  clear l2 h
  unfold maxLen at hs
  have e1 : IntKind.i64.wrap ((o : Int) + 1) = (o : Int) + 1 := IntWalk.i64_in _ (by omega)
  go_enter Tryd.func60, Tryd.ntmps60
  go_wp2_with (first | (go_at_call 67; refine (L2.out _).mono ?_; rintro e w' ⟨rfl, rfl⟩) | go_in)
  go_quiet (fail)
  go_wp2_with fail
  go_ret3
  go_wp2_with fail
  go_ret3
  exact ⟨rfl, _, rfl⟩

/-- what splitting a name returns: its parts and no error, or the sentinel. -/
def SplitRet (l : List UInt8) (a : Addr) (e : Ending) : Prop :=
  (nameOk l = true ∧ ∃ c : ByteArray, e = .returned (.tuple #[.string c, .int .i64 (pNum l), .nilIface]) ∧ c.data.toList = pCat l) ∨
  (nameOk l = false ∧ e = .returned (.tuple #[.string ⟨#[]⟩, .int .i64 0, .iface 126 (.pointer (some a))]))
theorem SplitRet.no {l : List UInt8} {a : Addr} (h : nameParts l = none) : SplitRet l a (.returned (.tuple #[.string ⟨#[]⟩, .int .i64 0, .iface 126 (.pointer (some a))])) :=
  .inr ⟨by unfold nameOk; rw [h]; rfl, rfl⟩
theorem SplitRet.yes {l : List UInt8} {a : Addr} {c : ByteArray} {n : Nat} {m : Int} (h : nameParts l = some (c.data.toList, n)) (hm : m = n) : SplitRet l a (.returned (.tuple #[.string c, .int .i64 m, .nilIface])) :=
  .inl ⟨by unfold nameOk; rw [h]; rfl, c, by unfold pNum; rw [h, hm]; rfl, by unfold pCat; rw [h]; rfl⟩

theorem wordValid_at (t : ByteArray) (l : List UInt8) (w : World) (h : t.data.toList = l) (hs : t.size ≤ maxLen) :
    Calls Tryd.prog 41 #[.string t] w fun e w' => e = .returned (.bool (wordOk l)) ∧ w = w' := by
  subst h; exact wordValid_any t w hs
theorem numberFrom_at (t : ByteArray) (l : List UInt8) (m : Nat) (w : World) (h : t.data.toList = l) (hs : t.size ≤ maxLen) (hm : m ≤ 1000000) :
    Calls Tryd.prog 61 #[.string t, .int .i64 m] w fun e w' => e = .returned (.tuple #[.int .i64 (numVal l m), .bool (numFrom l m).isSome]) ∧ w = w' := by
  subst h; exact numberFrom_any t m w hs hm

set_option maxHeartbeats 1000000 in
theorem nameSplit_any (s : ByteArray) (a : Addr) (w : World) (hs : s.size ≤ maxLen) (ha : w.cell? ⟨0, 0, none⟩ = some (.iface 126 (.pointer (some a)))) :
    Calls Tryd.prog 49 #[.string s] w fun e w' => SplitRet s.data.toList a e ∧ Below w.heap.size w w' := by
  rcases hyphen s.data.toList with hn | ⟨o, ho, hlt, hcut⟩
  · have Hn := Lib.hid (nameParts_none hn)
    have Hc := Lib.hid (fun W => cut_no s W hn)
    clear hn
    go_enter Tryd.func49, Tryd.ntmps49
    go_wp2_with (go_at_call 60; refine (Hc.out _).mono ?_; rintro e w' ⟨rfl, rfl⟩)
    go_quiet (fail)
    go_wp2_with fail
    go_ret3
    exact ⟨SplitRet.no Hn.out, below_drewN (Below.refl _ _) _⟩
  · have Hr := Lib.hid (nameParts_some ho)
    rw [str_len] at hlt
    have Hc := Lib.hid (fun W => cut_yes s o W hs ho hlt)
    clear ho hcut
    unfold maxLen at hs
    have hsz : (s.extract (o + 1) s.size).size ≤ maxLen := by unfold maxLen; rw [ByteArray.size_extract]; omega
    have hsz2 : (s.extract 0 o).size ≤ maxLen := by unfold maxLen; rw [ByteArray.size_extract]; omega
    have Hw := Lib.hid (fun W => wordValid_at (s.extract 0 o) _ W (extract_to s o) hsz2)
    have Hf := Lib.hid (fun W => numberFrom_at (s.extract (o + 1) s.size) _ 999 W (extract_from s (o + 1)) hsz (by omega))
    cases hw : wordOk (s.data.toList.take o) with
    | false =>
      rw [hw] at Hw Hr
      go_enter Tryd.func49, Tryd.ntmps49
      go_wp2_with (first
        | (go_at_call 60; refine (Hc.out _).mono ?_; rintro e w' ⟨rfl, k1, rfl⟩)
        | (go_at_call 41; refine (Hw.out _).mono ?_; rintro e w' ⟨rfl, rfl⟩))
      go_quiet (fail)
      go_wp2_with fail
      go_ret3
      exact ⟨SplitRet.no (by rw [Hr.out, if_neg (by decide)]), below_drewN (below_drewN (Below.refl _ _) _) _⟩
    | true =>
      rw [hw] at Hw Hr
      cases hf : numFrom (s.data.toList.drop (o + 1)) 999 with
      | none =>
        unfold numVal at Hf
        rw [hf] at Hf Hr
        clear hw hf
        go_enter Tryd.func49, Tryd.ntmps49
        go_wp2_with (first
          | (go_at_call 60; refine (Hc.out _).mono ?_; rintro e w' ⟨rfl, k1, rfl⟩)
          | (go_at_call 41; refine (Hw.out _).mono ?_; rintro e w' ⟨rfl, rfl⟩)
          | (go_at_call 61; refine (Hf.out _).mono ?_; rintro e w' ⟨rfl, rfl⟩))
        go_quiet (fail)
        go_wp2_with fail
        go_ret3
        exact ⟨SplitRet.no (by rw [Hr.out]; rfl), below_drewN (below_drewN (Below.refl _ _) _) _⟩
      | some n =>
        unfold numVal at Hf
        rw [hf] at Hf Hr
        clear hw hf
        go_enter Tryd.func49, Tryd.ntmps49
        go_wp2_with (first
          | (go_at_call 60; refine (Hc.out _).mono ?_; rintro e w' ⟨rfl, k1, rfl⟩)
          | (go_at_call 41; refine (Hw.out _).mono ?_; rintro e w' ⟨rfl, rfl⟩)
          | (go_at_call 61; refine (Hf.out _).mono ?_; rintro e w' ⟨rfl, rfl⟩))
        go_ret3
        exact ⟨SplitRet.yes (n := n) (by rw [Hr.out, extract_to]; rfl) rfl, below_drewN (Below.refl _ _) _⟩

set_option maxHeartbeats 400000 in
theorem nameValid_any (s : ByteArray) (w : World) (hs : s.size ≤ maxLen) (hg : GE w) :
    Calls Tryd.prog 28 #[.string s] w fun e w' => e = .returned (.bool (nameOk s.data.toList)) ∧ Below w.heap.size w w' := by
  obtain ⟨a, ha⟩ := hg
  go_enter Tryd.func28, Tryd.ntmps28
  go_wp2_with fail
  refine (nameSplit_any _ a _ hs ha).mono ?_
  rintro e w' ⟨hs | hs, hb⟩
  · obtain ⟨ho, c, rfl, hc⟩ := hs
    have ha' := (hb.cell (World.block_lt_of_cell? w _ ha)).trans ha
    go_wp2_with (go_at_call 50; refine (is_nil _ _).mono ?_; rintro e w' ⟨rfl, rfl⟩)
    go_ret
    exact ⟨by rw [ho]; rfl, hb⟩
  · obtain ⟨ho, rfl⟩ := hs
    have ha' := (hb.cell (World.block_lt_of_cell? w _ ha)).trans ha
    go_wp2_with (go_at_call 50; refine (is_same _ _).mono ?_; rintro e w' ⟨rfl, rfl⟩)
    go_ret
    exact ⟨by rw [ho]; rfl, hb⟩


theorem stripesValid_any (n : Int) (w : World) :
    Calls Tryd.prog 48 #[.int .i64 n] w fun e w' => e = .returned (.bool (decide (1 ≤ n) && decide (n ≤ 8))) ∧ w = w' := by
  by_cases h1 : 1 ≤ n <;> by_cases h2 : n ≤ 8
  all_goals
    go_enter Tryd.func48, Tryd.ntmps48
    go_wp2
    go_ret
    exact ⟨ret_bool (by simp [h1, h2]), rfl⟩

set_option maxHeartbeats 1000000 in
theorem nameStripe_any (s : ByteArray) (n : Int) (w : World) (hs : s.size ≤ maxLen) (hg : GE w) :
    Calls Tryd.prog 31 #[.string s, .int .i64 n] w fun e w' => e = .returned (.int .i64 (nameStripe s.data.toList n)) ∧ Below w.heap.size w w' := by
  have hs' := hs
  unfold maxLen at hs
  by_cases h : nameOk s.data.toList = true
  · by_cases h0 : 1 ≤ n ∧ n ≤ 8
    · have Hn := Lib.hid (show nameStripe s.data.toList n = stripeOf s.data.toList n.toNat by unfold nameStripe; rw [if_pos ⟨h, h0⟩])
      obtain ⟨h0, h1⟩ := h0
      obtain ⟨m, rfl⟩ : ∃ m : Nat, n = m := ⟨n.toNat, by omega⟩
      have Hv := Lib.hid (fun W G => nameValid_any s W hs' G)
      rw [h] at Hv
      clear h
      go_enter Tryd.func31, Tryd.ntmps31
      go_wp2_with (first
        | (go_at_call 28; refine (Hv.out _ hg).mono ?_; rintro e w' ⟨rfl, hb⟩)
        | (go_at_call 48; refine (stripesValid_any _ _).mono ?_; rintro e w' ⟨rfl, rfl⟩))
      go_loop [5, 6] (fun a i => ∃ k v : Nat, k ≤ s.size ∧ i = .int .i64 k ∧ a = .int .i64 v ∧ v ≤ 10000 ∧ Hid (v = mixName (s.data.toList.take k))) (fun _ i => s.size - (intOf i).toNat)
      case atStart => exact ⟨0, 5, Nat.zero_le _, rfl, rfl, by omega, rfl⟩
      case round =>
        obtain ⟨k, v, hk, rfl, rfl, hv, Hv⟩ := hrel
        by_cases hlt : k < s.size
        · have hb := byte_lt s[k]
          go_wp2_with fail
          go_round
          case rel => exact ⟨k + 1, (31 * v + s[k].toNat) % 9973, by omega, by go_num, by go_num, by omega, by show _ = _; rw [take_snoc s k hlt, mixName_snoc, Hv.out]⟩
          case measure => simp [intOf]; omega
        · have Hm := Lib.hid (show v = mixName s.data.toList by rw [Hv.out, List.take_of_length_le (by rw [str_len]; omega)])
          go_wp2_with fail
          go_ret
          exact ⟨ret_int (by rw [Hn.out, stripeOf, ← Hm.out, Int.toNat_natCast]; rfl), hb⟩
    · have Hn := Lib.hid (show nameStripe s.data.toList n = -1 by unfold nameStripe; rw [if_neg (fun hh => h0 hh.2)])
      have hb : (decide (1 ≤ n) && decide (n ≤ 8)) = false := by
        rw [Bool.and_eq_false_iff, decide_eq_false_iff_not, decide_eq_false_iff_not]; omega
      go_enter Tryd.func31, Tryd.ntmps31
      go_wp2_with (first
        | (go_at_call 28; refine (nameValid_any _ _ hs' hg).mono ?_; rintro e w' ⟨rfl, hb⟩)
        | (go_at_call 48; refine (stripesValid_any _ _).mono ?_; rintro e w' ⟨rfl, rfl⟩))
      go_ret
      exact ⟨ret_int Hn.out.symm, hb⟩
  · have h : nameOk s.data.toList = false := by simpa using h
    have Hn := Lib.hid (show nameStripe s.data.toList n = -1 by unfold nameStripe; rw [if_neg (fun hh => by rw [h] at hh; exact Bool.false_ne_true hh.1)])
    go_enter Tryd.func31, Tryd.ntmps31
    go_wp2_with (first
      | (go_at_call 28; refine (nameValid_any _ _ hs' hg).mono ?_; rintro e w' ⟨rfl, hb⟩))
    go_ret
    exact ⟨ret_int Hn.out.symm, hb⟩
end Go.Proofs.YtnfncnpnkmjjeaaDoor
