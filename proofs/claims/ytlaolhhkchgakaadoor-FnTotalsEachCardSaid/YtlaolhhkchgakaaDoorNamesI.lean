/- The program's names: nameSplit, NameValid, NameParts, NameStripe. -/
import Derived.Test.YtlaolhhkchgakaaDoorNamesT
import Derived.Test.YtlaolhhkchgakaaDoorIs
import Derived.Test.YtlaolhhkchgakaaDoorShelf
import Derived.Deep.QuietTactic
import Derived.BigQuiet
namespace Go.Proofs.YtlaolhhkchgakaaDoor
set_option linter.unusedVariables false
set_option linter.unusedSimpArgs false
open Go.RowKit

/-- the program's sentinel lies in its variable. -/
def GE (w : World) : Prop := ∃ a : Addr, w.cell? ⟨0, 0, none⟩ = some (.iface 130 (.pointer (some a)))
theorem GE.below {w w' : World} (h : GE w) (hb : Below w.heap.size w w') : GE w' := by
  obtain ⟨a, h⟩ := h
  exact ⟨a, (hb.cell (World.block_lt_of_cell? w _ h)).trans h⟩
theorem below_drewN {B : Nat} {a w : World} (h : Below B a w) (n : Nat) : Below B a (w.drewN n) := ⟨h.os, h.tape, h.output, h.size, h.block⟩

set_option maxHeartbeats 1000000 in
theorem cut_no (s : ByteArray) (w : World) (h : Lib.indexByte s.data.toList 45 = -1) :
    Calls Tryd.prog 64 #[.string s, .string ⟨#[45]⟩] w fun e w' => e = .returned (.tuple #[.string s, .string ⟨#[]⟩, .bool false]) ∧ w = w' := by
  have l2 := fun W => Tryd.stringslite_Index_one s 45 W
  rw [h] at l2
  have L2 := Lib.hid l2
  clear l2 h
  go_enter Tryd.func64, Tryd.ntmps64
  go_wp2_with (first | (go_at_call 78; refine (L2.out _).mono ?_; rintro e w' ⟨rfl, rfl⟩) | go_in)
  go_ret3
  go_wp2_with fail
  go_ret3
  exact ⟨rfl, rfl⟩

set_option maxHeartbeats 1000000 in
theorem cut_yes (s : ByteArray) (o : Nat) (w : World) (hs : s.size ≤ maxLen) (h : Lib.indexByte s.data.toList 45 = o) (ho : o < s.size) :
    Calls Tryd.prog 64 #[.string s, .string ⟨#[45]⟩] w fun e w' => e = .returned (.tuple #[.string (s.extract 0 o), .string (s.extract (o + 1) s.size), .bool true]) ∧ ∃ k, w' = w.drewN k := by
  have l2 := fun W => Tryd.stringslite_Index_one s 45 W
  rw [h] at l2
  have L2 := Lib.hid l2
  clear l2 h
  unfold maxLen at hs
  have e1 : IntKind.i64.wrap ((o : Int) + 1) = (o : Int) + 1 := IntWalk.i64_in _ (by omega)
  go_enter Tryd.func64, Tryd.ntmps64
  go_wp2_with (first | (go_at_call 78; refine (L2.out _).mono ?_; rintro e w' ⟨rfl, rfl⟩) | go_in)
  go_quiet (fail)
  go_wp2_with fail
  go_ret3
  go_wp2_with fail
  go_ret3
  exact ⟨rfl, _, rfl⟩

/-- what splitting a name returns: its parts and no error, or the sentinel. -/
def SplitRet (l : List UInt8) (a : Addr) (e : Ending) : Prop :=
  (nameOk l = true ∧ ∃ c : ByteArray, e = .returned (.tuple #[.string c, .int .i64 (pNum l), .nilIface]) ∧ c.data.toList = pCat l) ∨
  (nameOk l = false ∧ e = .returned (.tuple #[.string ⟨#[]⟩, .int .i64 0, .iface 130 (.pointer (some a))]))
theorem SplitRet.no {l : List UInt8} {a : Addr} (h : nameParts l = none) : SplitRet l a (.returned (.tuple #[.string ⟨#[]⟩, .int .i64 0, .iface 130 (.pointer (some a))])) :=
  .inr ⟨by unfold nameOk; rw [h]; rfl, rfl⟩
theorem SplitRet.yes {l : List UInt8} {a : Addr} {c : ByteArray} {n : Nat} {m : Int} (h : nameParts l = some (c.data.toList, n)) (hm : m = n) : SplitRet l a (.returned (.tuple #[.string c, .int .i64 m, .nilIface])) :=
  .inl ⟨by unfold nameOk; rw [h]; rfl, c, by unfold pNum; rw [h, hm]; rfl, by unfold pCat; rw [h]; rfl⟩

theorem wordValid_at (t : ByteArray) (l : List UInt8) (w : World) (h : t.data.toList = l) (hs : t.size ≤ maxLen) :
    Calls Tryd.prog 45 #[.string t] w fun e w' => e = .returned (.bool (wordOk l)) ∧ w = w' := by
  subst h; exact wordValid_any t w hs
theorem numberFrom_at (t : ByteArray) (l : List UInt8) (m : Nat) (w : World) (h : t.data.toList = l) (hs : t.size ≤ maxLen) (hm : m ≤ 1000000) :
    Calls Tryd.prog 65 #[.string t, .int .i64 m] w fun e w' => e = .returned (.tuple #[.int .i64 (numVal l m), .bool (numFrom l m).isSome]) ∧ w = w' := by
  subst h; exact numberFrom_any t m w hs hm

set_option maxHeartbeats 1000000 in
theorem nameSplit_any (s : ByteArray) (a : Addr) (w : World) (hs : s.size ≤ maxLen) (ha : w.cell? ⟨0, 0, none⟩ = some (.iface 130 (.pointer (some a)))) :
    Calls Tryd.prog 37 #[.string s] w fun e w' => SplitRet s.data.toList a e ∧ Below w.heap.size w w' := by
  rcases hyphen s.data.toList with hn | ⟨o, ho, hlt, hcut⟩
  · have Hn := Lib.hid (nameParts_none hn)
    have Hc := Lib.hid (fun W => cut_no s W hn)
    clear hn
    go_enter Tryd.func37, Tryd.ntmps37
    go_wp2_with (go_at_call 64; refine (Hc.out _).mono ?_; rintro e w' ⟨rfl, rfl⟩)
    go_quiet (fail)
    go_wp2_with fail
    go_ret3
    exact ⟨SplitRet.no Hn.out, below_drewN (Below.refl _ _) _⟩
  · have Hr := Lib.hid (nameParts_some ho)
    rw [str_len] at hlt
    have Hc := Lib.hid (fun W => cut_yes s o W hs ho hlt)
    clear ho hcut
    unfold maxLen at hs
    have hsz : (s.extract (o + 1) s.size).size ≤ maxLen := by unfold maxLen; rw [ByteArray.size_extract]; omega
    have hsz2 : (s.extract 0 o).size ≤ maxLen := by unfold maxLen; rw [ByteArray.size_extract]; omega
    have Hw := Lib.hid (fun W => wordValid_at (s.extract 0 o) _ W (extract_to s o) hsz2)
    have Hf := Lib.hid (fun W => numberFrom_at (s.extract (o + 1) s.size) _ 999 W (extract_from s (o + 1)) hsz (by omega))
    cases hw : wordOk (s.data.toList.take o) with
    | false =>
      rw [hw] at Hw Hr
      go_enter Tryd.func37, Tryd.ntmps37
      go_wp2_with (first
        | (go_at_call 64; refine (Hc.out _).mono ?_; rintro e w' ⟨rfl, k1, rfl⟩)
        | (go_at_call 45; refine (Hw.out _).mono ?_; rintro e w' ⟨rfl, rfl⟩))
      go_quiet (fail)
      go_wp2_with fail
      go_ret3
      exact ⟨SplitRet.no (by rw [Hr.out, if_neg (by decide)]), below_drewN (below_drewN (Below.refl _ _) _) _⟩
    | true =>
      rw [hw] at Hw Hr
      cases hf : numFrom (s.data.toList.drop (o + 1)) 999 with
      | none =>
        unfold numVal at Hf
        rw [hf] at Hf Hr
        clear hw hf
        go_enter Tryd.func37, Tryd.ntmps37
        go_wp2_with (first
          | (go_at_call 64; refine (Hc.out _).mono ?_; rintro e w' ⟨rfl, k1, rfl⟩)
          | (go_at_call 45; refine (Hw.out _).mono ?_; rintro e w' ⟨rfl, rfl⟩)
          | (go_at_call 65; refine (Hf.out _).mono ?_; rintro e w' ⟨rfl, rfl⟩))
        go_quiet (fail)
        go_wp2_with fail
        go_ret3
        exact ⟨SplitRet.no (by rw [Hr.out]; rfl), below_drewN (below_drewN (Below.refl _ _) _) _⟩
      | some n =>
        unfold numVal at Hf
        rw [hf] at Hf Hr
        clear hw hf
        go_enter Tryd.func37, Tryd.ntmps37
        go_wp2_with (first
          | (go_at_call 64; refine (Hc.out _).mono ?_; rintro e w' ⟨rfl, k1, rfl⟩)
          | (go_at_call 45; refine (Hw.out _).mono ?_; rintro e w' ⟨rfl, rfl⟩)
          | (go_at_call 65; refine (Hf.out _).mono ?_; rintro e w' ⟨rfl, rfl⟩))
        go_ret3
        exact ⟨SplitRet.yes (n := n) (by rw [Hr.out, extract_to]; rfl) rfl, below_drewN (Below.refl _ _) _⟩

set_option maxHeartbeats 400000 in
theorem nameValid_any (s : ByteArray) (w : World) (hs : s.size ≤ maxLen) (hg : GE w) :
    Calls Tryd.prog 72 #[.string s] w fun e w' => e = .returned (.bool (nameOk s.data.toList)) ∧ Below w.heap.size w w' := by
  obtain ⟨a, ha⟩ := hg
  go_enter Tryd.func72, Tryd.ntmps72
  go_wp2_with fail
  refine (nameSplit_any _ a _ hs ha).mono ?_
  rintro e w' ⟨hs | hs, hb⟩
  · obtain ⟨ho, c, rfl, hc⟩ := hs
    have ha' := (hb.cell (World.block_lt_of_cell? w _ ha)).trans ha
    go_wp2_with (go_at_call 38; refine (is_nil _ _).mono ?_; rintro e w' ⟨rfl, rfl⟩)
    go_ret
    exact ⟨by rw [ho]; rfl, hb⟩
  · obtain ⟨ho, rfl⟩ := hs
    have ha' := (hb.cell (World.block_lt_of_cell? w _ ha)).trans ha
    go_wp2_with (go_at_call 38; refine (is_same _ _).mono ?_; rintro e w' ⟨rfl, rfl⟩)
    go_ret
    exact ⟨by rw [ho]; rfl, hb⟩

set_option maxHeartbeats 400000 in
theorem nameParts_any (s : ByteArray) (w : World) (hs : s.size ≤ maxLen) (hg : GE w) :
    Calls Tryd.prog 14 #[.string s] w fun e w' => PartsRet s.data.toList e ∧ Below w.heap.size w w' := by
  obtain ⟨a, ha⟩ := hg
  go_enter Tryd.func14, Tryd.ntmps14
  go_wp2_with fail
  refine (nameSplit_any _ a _ hs ha).mono ?_
  rintro e w' ⟨hs | hs, hb⟩
  · obtain ⟨ho, c, rfl, hc⟩ := hs
    have Ho := Lib.hid ho
    have Hc := Lib.hid hc
    clear ho hc
    have ha' := (hb.cell (World.block_lt_of_cell? w _ ha)).trans ha
    go_wp2_with (go_at_call 38; refine (is_nil _ _).mono ?_; rintro e w' ⟨rfl, rfl⟩)
    go_ret3
    exact ⟨⟨c, by rw [Ho.out]; rfl, Hc.out⟩, hb⟩
  · obtain ⟨ho, rfl⟩ := hs
    have Ho := Lib.hid ho
    clear ho
    have ha' := (hb.cell (World.block_lt_of_cell? w _ ha)).trans ha
    go_wp2_with (go_at_call 38; refine (is_same _ _).mono ?_; rintro e w' ⟨rfl, rfl⟩)
    go_ret3
    exact ⟨PartsRet.no (by have := Ho.out; unfold nameOk at this; simpa using this), hb⟩

end Go.Proofs.YtlaolhhkchgakaaDoor
