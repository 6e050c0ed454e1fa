/- The laws' comparison of totals. -/
import Derived.Test.YtlaolhhkchgakaaDoorTotV
import Derived.Test.YtlaolhhkchgakaaDoorSameEn
namespace Go.Proofs.YtlaolhhkchgakaaDoor
set_option linter.unusedVariables false
set_option linter.unusedSimpArgs false
open Go.RowKit

theorem Row.tot_atE {w : World} {B n : Nat} {A : Option Addr} {xs : List Tot} (h : Row totCells 3 w B A n xs) (hn : 0 < n) : ∃ b off, A = some ⟨b, off, none⟩ ∧ b < B ∧ ∀ k x, xs[k]? = some x → TotAt w b (off + k * 3) x := by
  obtain ⟨b, off, e, hb, hx⟩ := h.at_ totCells_len hn
  exact ⟨b, off, e, hb, fun k x hk => ⟨hx k x hk 0 _ rfl, hx k x hk 1 _ rfl, hx k x hk 2 _ rfl⟩⟩
set_option maxRecDepth 100000 in
set_option maxHeartbeats 8000000 in
theorem sameTotals_any (A B : Option Addr) (n c m d : Nat) (xs ys : List Tot) (w : World) (h : Row totCells 3 w w.heap.size A n xs) (h' : Row totCells 3 w w.heap.size B m ys) (hnb : n ≤ 1000000000) (hmb : m ≤ 1000000000) :
    Calls Tryd.prog 13 #[.slice A n c, .slice B m d] w fun e w' => e = .returned (.bool (sameL xs ys)) ∧ Below w.heap.size w w' := by
  have Hla := Lib.hid h.1
  have Hlb := Lib.hid h'.1
  by_cases hnm : n = m
  · subst hnm
    have e0 : (((n : Nat) : Int) != ((n : Nat) : Int)) = false := by simp
    go_enter Tryd.func13, Tryd.ntmps13
    go_wp2_with fail
    go_loopw [5] (fun i wr => ∃ k : Nat, k ≤ n ∧ i = .int .i64 k ∧ Below w.heap.size w wr ∧ Hid (∀ j, j < k → xs[j]? = ys[j]?)) (fun i _ => n - (intOf i).toNat)
    case atStart => exact ⟨0, Nat.zero_le _, rfl, Below.refl _ _, fun j hj => absurd hj (by omega)⟩
    case round =>
      obtain ⟨k, hk, rfl, hnx, Hall⟩ := hrel
      have Hnx := Lib.hid hnx
      by_cases hlt : k < n
      · have hlt' : (k : Int) < (n : Int) := by omega
        obtain ⟨b, off, rfl, hb, hx⟩ := h.tot_atE (by omega)
        obtain ⟨b', off', rfl, hb', hx'⟩ := h'.tot_atE (by omega)
        have hs : xs[k]? = some (nx xs k) := nx_get (by rw [Hla.out]; exact hlt)
        have ht : ys[k]? = some (nx ys k) := nx_get (by rw [Hlb.out]; exact hlt)
        obtain ⟨⟨k1, i1, d1⟩, he1⟩ : ∃ e, nx xs k = e := ⟨_, rfl⟩
        obtain ⟨⟨k2, i2, d2⟩, he2⟩ : ∃ e, nx ys k = e := ⟨_, rfl⟩
        rw [he1] at hs
        rw [he2] at ht
        obtain ⟨c0, c1, c2⟩ := (hx k _ hs).below hnx hb
        obtain ⟨f0, f1, f2⟩ := (hx' k _ ht).below hnx hb'
        have Hs := Lib.hid hs
        have Ht := Lib.hid ht
        have Hno := Lib.hid (fun (hne : (⟨k1, i1, d1⟩ : Tot) ≠ ⟨k2, i2, d2⟩) => sameL_at (a := xs) (b := ys) k (by rw [Hs.out, Ht.out]; exact fun e => hne (Option.some.inj e)))
        clear hs ht hx hx' h h' hnx he1 he2
        by_cases q2 : i1 = i2
        · subst q2
          by_cases q3 : k1 = k2
          · subst q3
            by_cases q4 : d1 = d2
            · subst q4
              go_wp2_with fail
              go_quiet (fail)
              go_wp2_with fail
              go_roundw
              case rel => exact ⟨k + 1, by omega, by go_num, below_drew_n Hnx.out _, fun j hj => by
                rcases Nat.lt_succ_iff_lt_or_eq.1 hj with h' | rfl
                · exact Hall.out j h'
                · rw [Hs.out, Ht.out]⟩
              case measure => simp [intOf]; omega
            · have Hr := Lib.hid (Hno.out (fun e => q4 (by injection e)))
              go_wp2_with fail
              go_quiet (fail)
              go_wp2_with fail
              go_ret
              exact ⟨ret_bool Hr.out.symm, below_drew_n Hnx.out _⟩
          · have Hr := Lib.hid (Hno.out (fun e => q3 (by injection e)))
            have q3' : ¬ k1.toList = k2.toList := fun e => q3 (bytes_same (by rwa [ByteArray.toList_eq, ByteArray.toList_eq] at e))
            clear q3
            go_wp2_with fail
            go_quiet (fail)
            go_wp2_with fail
            go_ret
            exact ⟨ret_bool Hr.out.symm, below_drew_n Hnx.out _⟩
        · have Hr := Lib.hid (Hno.out (fun e => q2 (by injection e)))
          go_wp2_with fail
          go_quiet (fail)
          go_wp2_with fail
          go_ret
          exact ⟨ret_bool Hr.out.symm, below_drew_n Hnx.out _⟩
      · have Hr := Lib.hid (sameL_yes (a := xs) (b := ys) (by rw [Hla.out, Hlb.out]) (fun j hj => Hall.out j (by rw [Hla.out] at hj; omega)))
        have hlt' : ¬ (k : Int) < (n : Int) := by omega
        clear h h' hnx
        go_wp2_with fail
        go_ret
        exact ⟨ret_bool Hr.out.symm, Hnx.out⟩
  · have e0 : (((n : Nat) : Int) != ((m : Nat) : Int)) = true := by simp [bne, beq_eq_false_iff_ne]; omega
    have Hr := Lib.hid (sameL_len (a := xs) (b := ys) (by rw [Hla.out, Hlb.out]; exact hnm))
    clear hnm h h'
    go_enter Tryd.func13, Tryd.ntmps13
    go_wp2_with fail
    go_ret
    exact ⟨ret_bool Hr.out.symm, Below.refl _ _⟩
end Go.Proofs.YtlaolhhkchgakaaDoor
