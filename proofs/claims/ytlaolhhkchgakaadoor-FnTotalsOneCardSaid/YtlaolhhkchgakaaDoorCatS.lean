/- The category of a name: the reference's. -/
import Derived.Test.YtlaolhhkchgakaaDoorNamesT
import Derived.Test.YtlaolhhkchgakaaDoorLive
namespace Go.Proofs.YtlaolhhkchgakaaDoor
set_option linter.unusedVariables false
set_option linter.unusedSimpArgs false
open Go.RowKit

theorem pCat_take {l : List UInt8} {o : Nat} (h : nameOk l = true) (ho : Lib.indexByte l 45 = (o : Int)) : pCat l = l.take o := by
  unfold nameOk at h
  unfold pCat
  unfold nameParts at h ⊢
  rw [ho] at h ⊢
  rw [if_neg (by omega)] at h ⊢
  split at h
  · rename_i h1
    rw [if_pos h1]
    rw [Int.toNat_natCast] at h ⊢
    cases hn : numFrom (l.drop (o + 1)) 999 with
    | none => rw [hn] at h; cases h
    | some n => rfl
  · cases h
set_option maxRecDepth 100000 in
set_option maxHeartbeats 4000000 in
theorem l2Category_any (s : ByteArray) (w : World) (hs : s.size ≤ maxLen) (hok : nameOk s.data.toList = true) :
    Calls Tryd.prog 63 #[.string s] w fun e w' => (∃ c : ByteArray, e = .returned (.string c) ∧ Hid (c.data.toList = pCat s.data.toList)) ∧ w = w' := by
  have hs' := hs
  unfold maxLen at hs
  rcases hyphen s.data.toList with hn | ⟨o, ho, hlt, hcut⟩
  · have := nameParts_none hn
    unfold nameOk at hok
    rw [this] at hok; cases hok
  · have Hp := Lib.hid (pCat_take hok ho)
    have l2 := l2At_any s
    rw [ho] at l2
    rw [str_len] at hlt
    clear ho hcut hok
    go_enter Tryd.func63, Tryd.ntmps63
    go_wp2_with (go_at_call 75; refine (l2 _ hs').mono ?_; rintro e w' ⟨rfl, rfl⟩)
    go_ret
    exact ⟨⟨s.extract 0 o, rfl, Lib.hid (by rw [Hp.out, extract_to])⟩, rfl⟩
end Go.Proofs.YtlaolhhkchgakaaDoor
