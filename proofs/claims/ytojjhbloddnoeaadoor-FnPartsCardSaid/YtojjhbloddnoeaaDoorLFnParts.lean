/- The walk of laws.FnParts. -/
import Derived.Test.YtojjhbloddnoeaaDoorDrawN
import Derived.Test.YtojjhbloddnoeaaDoorNamesOf
import Derived.Test.YtojjhbloddnoeaaDoorSl
namespace Go.Proofs.YtojjhbloddnoeaaDoor
open Go.RowKit

theorem pCat_len (l : List UInt8) (h : nameOk l = true) : (pCat l).length < l.length ∧ nameOfS (pCat l) (pNum l) = l := by
  unfold nameOk at h
  obtain ⟨⟨c, n⟩, hp⟩ := Option.isSome_iff_exists.1 h
  obtain ⟨h1, h2, h3⟩ := nameParts_back hp
  have e1 : pCat l = c := by unfold pCat; rw [hp]; rfl
  have e2 : pNum l = n := by unfold pNum; rw [hp]; rfl
  rw [e1, e2]
  refine ⟨?_, ?_⟩
  · rw [← h1]; unfold nameOf; simp
  · unfold nameOfS; rw [if_pos ⟨h2, by omega, by omega⟩, Int.toNat_natCast]; exact h1

set_option maxHeartbeats 1000000 in
theorem law_FnParts (A : Option Addr) (n c : Nat) (w : World) (h : Code w A n c) (hg : GE w) (ht : GT w) :
    Calls Tryd.prog 7 #[.slice A n c] w fun e w' => e = .returned (.bool true) ∧ Below w.heap.size w w' := by
  have hn := h.2.1
  unfold maxLen at hn
  by_cases hbig : (1048576 : Int) < n
  · go_enter Tryd.func7, Tryd.ntmps7
    go_wp2_with fail
    go_ret
    exact ⟨rfl, Below.refl _ _⟩
  · have h1 := Lib.hid h
    clear h
    go_enter Tryd.func7, Tryd.ntmps7
    go_wp2_with fail
    refine (drawNameParts_any A n c _ h1.out).mono ?_
    rintro e w1 ⟨s, rfl, hs, hb1⟩
    have g1 := hg.below hb1
    have t1 := GT.below ht hb1
    go_wp2_with fail
    refine (nameParts_any s _ (small60 hs) g1).mono ?_
    rintro e w2 ⟨⟨u, rfl, hu⟩, hb2⟩
    have g2 := g1.below hb2
    have t2 := GT.below t1 hb2
    go_wp2_with fail
    refine (namePartsS_any s _ (small60 hs)).mono ?_
    rintro e w3 ⟨⟨v, rfl, hv⟩, hb3⟩
    have g3 := g2.below hb3
    have t3 := GT.below t2 hb3
    obtain rfl : u = v := bytes_same (hu.trans hv.symm)
    clear hv
    have hx := pCat_len s.data.toList
    rw [← hu] at hx
    have Hx := Lib.hid hx
    clear hx hu
    cases hok : nameOk s.data.toList with
    | false =>
      clear Hx
      go_wp2_with fail
      go_ret
      exact ⟨rfl, bt (bt hb1 hb2) hb3⟩
    | true =>
      obtain ⟨x1, x2⟩ := Hx.out hok
      rw [str_len, str_len] at x1
      have hsz := small60 hs
      have N1 := Lib.hid (fun W G => nameOfP_any u (pNum s.data.toList) W (Nat.le_trans (Nat.le_of_lt x1) hsz) G)
      rw [x2] at N1
      have e1 : (⟨s.data.toList.toArray⟩ : ByteArray) = s := by simp
      rw [e1] at N1
      clear x2 e1 Hx hok
      go_wp2_with fail
      refine (N1.out _ t3).mono ?_
      rintro e w4 ⟨rfl, hb4⟩
      go_wp2_with fail
      go_ret
      exact ⟨rfl, bt (bt (bt hb1 hb2) hb3) hb4⟩
end Go.Proofs.YtojjhbloddnoeaaDoor
