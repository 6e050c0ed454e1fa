/- A text cut at its blanks: the reference's. -/
import Derived.Test.YtecijlebfpbpaaaDoorEvT
import Derived.Test.YtecijlebfpbpaaaDoorAppStr
namespace Go.Proofs.YtecijlebfpbpaaaDoor
set_option linter.unusedVariables false
set_option linter.unusedSimpArgs false
open Go.RowKit

theorem extract_mid (s : ByteArray) (f i : Nat) : (s.extract f i).data.toList = (s.data.toList.drop f).take (i - f) := by
  rw [ByteArray.data_extract, Array.toList_extract, List.extract]
theorem strs_of' {w : World} {base n : Nat} {v : Value} {ms : List ByteArray} (h : w.ownsRow base 9 1 v n (ms.map Value.string)) : ∃ A c, v = .slice A n c ∧ n ≤ c ∧ Strs w w.heap.size A n ms := by
  obtain ⟨A, c, e, h1, h2, _⟩ := Sl.of_own h
  exact ⟨A, c, e, h1, h2⟩
/-- pieces of a text are returned. -/
def PiecesRet (l : List (List UInt8)) (w : World) (e : Ending) (w' : World) : Prop :=
  ∃ (A : Option Addr) (n c : Nat) (ss : List ByteArray), e = .returned (.slice A n c) ∧ Strs w' w'.heap.size A n ss ∧ Hid (ss.map (fun s => s.data.toList) = l) ∧ Below w.heap.size w w'
set_option maxRecDepth 100000 in
set_option maxHeartbeats 8000000 in
theorem l1Cut_any (s : ByteArray) (w : World) (hs : s.size ≤ 1000) :
    Calls Tryd.prog 53 #[.string s] w (PiecesRet (cutB s.data.toList) w) := by
  have O0 := Lib.hid (show (w.alloc (.cells #[] 9)).ownsRow w.heap.size 9 1 (.slice (some ⟨w.heap.size, 0, none⟩) 0 0) 0 (([] : List ByteArray).map Value.string) from World.ownsRow_lit w #[] 0 (Nat.le_refl _) (Nat.zero_le _) rfl)
  have Hsl := Lib.hid (str_len s)
  go_enter Tryd.func53, Tryd.ntmps53
  go_wp2_with fail
  go_loopw [3, 4, 5] (fun v a i wr => ∃ (k f : Nat) (ss : List ByteArray), k ≤ s.size ∧ f ≤ k ∧ i = .int .i64 (k : Int) ∧ a = .int .i64 (f : Int) ∧ wr.ownsRow w.heap.size 9 1 v ss.length (ss.map Value.string) ∧ Hid (ss.length ≤ k) ∧ Hid (cutB s.data.toList = ss.map (fun s => s.data.toList) ++ cutB (s.data.toList.drop f)) ∧ Hid (∀ c ∈ (s.data.toList.drop f).take (k - f), c ≠ 32) ∧ Hid (Below w.heap.size w wr)) (fun _ _ i _ => s.size - (intOf i).toNat)
  case atStart => exact ⟨0, 0, [], Nat.zero_le _, Nat.le_refl _, rfl, rfl, O0.out, Lib.hid (Nat.le_refl _), Lib.hid (by simp), Lib.hid (fun c hc => by simp at hc), Lib.hid ((Below.refl _ _).alloc (Nat.le_refl _) _)⟩
  case round =>
    obtain ⟨k, f, ss, hk, hf, rfl, rfl, hown, Hn, Hc, Hno, HB⟩ := hrel
    have HO := Lib.hid hown
    have hn := Hn.out
    clear hown
    by_cases hlt : k < s.size
    · have hlt' : (k : Int) < (s.size : Int) := by omega
      have hfk : (f : Int) ≤ (k : Int) := by omega
      have hks : (k : Int) ≤ (s.size : Int) := by omega
      have hkl : k < s.data.toList.length := by rw [Hsl.out]; exact hlt
      have Hat : Hid (s.data.toList[k]? = some s[k]) := Lib.hid (by rw [List.getElem?_eq_getElem hkl]; rfl)
      have Hsplit : Hid (s.data.toList.drop f = (s.data.toList.drop f).take (k - f) ++ s[k] :: s.data.toList.drop (k + 1)) := Lib.hid (by
        have e1 := List.take_append_drop (k - f) (s.data.toList.drop f)
        rw [List.drop_drop, show f + (k - f) = k by omega, List.drop_eq_getElem_cons hkl] at e1
        exact e1.symm)
      by_cases hc : s[k].toNat = 32
      · have e1 : ((s[k].toNat : Int) == 32) = true := by rw [hc]; rfl
        have Hc32 : Hid (s[k] = 32) := Lib.hid (UInt8.toNat_inj.1 hc)
        clear hc
        go_wp2_with (at_builtin; go_must (refine app_strB wr rfl _ _ rfl w.heap.size _ ss.length ss rfl (by exact HO.out) (s.extract f k) rfl ?_ ?_ ?_); omega; exact HB.out.size; intro v' w5 own5 grow5 or5)
        have HB5 := Lib.hid (own_below HO.out (Nat.le_refl _) HB.out HB.out.size grow5)
        have HO5 : Hid (w5.ownsRow w.heap.size 9 1 v' (ss ++ [s.extract f k]).length ((ss ++ [s.extract f k]).map Value.string)) := Lib.hid (by rw [List.length_append]; exact own5)
        clear own5 grow5 or5
        go_roundw
        case rel => exact ⟨k + 1, k + 1, ss ++ [s.extract f k], by omega, Nat.le_refl _, by go_num, by go_num, HO5.out, Lib.hid (by rw [List.length_append]; simp; omega), Lib.hid (by
          rw [Hc.out, Hsplit.out, Hc32.out, cutB_app _ Hno.out, List.map_append, List.append_assoc]
          show _ = _ ++ ((s.extract f k).data.toList :: _)
          rw [extract_mid]
          rfl), Lib.hid (fun c hc => by simp at hc), HB5⟩
        case measure => simp [intOf]; omega
      · have e1 : ((s[k].toNat : Int) == 32) = false := beq_eq_false_iff_ne.2 (by omega)
        have Hc32 : Hid (s[k] ≠ 32) := Lib.hid (fun e => hc (by rw [e]; rfl))
        clear hc
        go_wp2_with fail
        go_roundw
        case rel => exact ⟨k + 1, f, ss, by omega, by omega, by go_num, rfl, HO.out, Lib.hid (by omega), Hc, Lib.hid (fun c hc => by
          have e2 : (s.data.toList.drop f).take (k + 1 - f) = (s.data.toList.drop f).take (k - f) ++ [s[k]] := by
            rw [show k + 1 - f = (k - f) + 1 by omega, List.take_succ_eq_append_getElem (by rw [List.length_drop]; omega)]
            congr 2
            rw [List.getElem_drop]
            have := Hat.out
            rw [List.getElem?_eq_getElem hkl] at this
            have e3 := Option.some.inj this
            rw [← e3]
            congr 1
            omega
          rw [e2] at hc
          rcases List.mem_append.1 hc with h | h
          · exact Hno.out c h
          · rw [List.mem_singleton] at h; rw [h]; exact Hc32.out), HB⟩
        case measure => simp [intOf]; omega
    · obtain rfl : k = s.size := by omega
      have hlt' : ¬ (s.size : Int) < (s.size : Int) := by omega
      have hfk : (f : Int) ≤ (s.size : Int) := by omega
      have Hall : Hid (cutB (s.data.toList.drop f) = [s.data.toList.drop f]) := Lib.hid (cutB_one (fun c hc => Hno.out c (by rw [List.take_of_length_le (by rw [List.length_drop, Hsl.out]; exact Nat.le_refl _)]; exact hc)))
      go_wp2_with (at_builtin; go_must (refine app_strB wr rfl _ _ rfl w.heap.size _ ss.length ss rfl (by exact HO.out) (s.extract f s.size) rfl ?_ ?_ ?_); omega; exact HB.out.size; intro v' w5 own5 grow5 or5)
      have HB5 := Lib.hid (own_below HO.out (Nat.le_refl _) HB.out HB.out.size grow5)
      go_ret
      obtain ⟨Av, cv, rfl, q1, q2⟩ := strs_of' own5
      exact ⟨Av, _, cv, _, rfl, q2, Lib.hid (by rw [Hc.out, Hall.out, List.map_append]; show _ ++ [(s.extract f s.size).data.toList] = _; rw [extract_from]), HB5.out⟩
end Go.Proofs.YtecijlebfpbpaaaDoor
