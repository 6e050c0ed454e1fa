/- Reading a stream: the program's and the reference's. -/
import Derived.Test.YtbcfbkcadceniaaDoorReads
namespace Go.Proofs.YtbcfbkcadceniaaDoor
set_option linter.unusedVariables false
set_option linter.unusedSimpArgs false
open Go.RowKit

set_option maxRecDepth 100000 in
set_option maxHeartbeats 4000000 in
theorem storeRead_any (A : Option Addr) (n c : Nat) (xs : List En) (s : ByteArray) (a m : Int) (w : World) (h : Row enCells 4 w w.heap.size A n xs) (hsm : SmallEns xs) (hs : s.size ≤ maxLen) (hnb : n ≤ 1000000) (hg : GE w) :
    Calls Tryd.prog 33 #[.slice A n c, .string s, .int .i64 a, .int .i64 m] w (EvsRet (storeRead xs s a m) w) := by
  have H := Lib.hid h
  have Hg := Lib.hid hg
  have Hsm := Lib.hid hsm
  have Hsl := Lib.hid (streamOf_len xs s)
  have Hl := Lib.hid h.1
  have V := Lib.hid (storeValid_any A n c xs w h hsm hnb hg)
  clear h hg hsm
  cases hok : storeOk xs with
  | false =>
    have Hr := Lib.hid (storeRead_no (xs := xs) (s := s) (a := a) (m := m) (by rw [hok]; rfl))
    rw [hok] at V
    go_enter Tryd.func33, Tryd.ntmps33
    go_wp2_with (go_at_call 46; refine V.out.mono ?_; rintro e w1 ⟨rfl, hb1⟩)
    go_ret
    rw [Hr.out]
    exact evs_none w hb1
  | true =>
    rw [hok] at V
    cases hno : nameOk s.data.toList with
    | false =>
      have Hr := Lib.hid (storeRead_no (xs := xs) (s := s) (a := a) (m := m) (by rw [hno]; simp))
      go_enter Tryd.func33, Tryd.ntmps33
      go_wp2_with (first
        | (go_at_call 46; refine V.out.mono ?_; rintro e w1 ⟨rfl, hb1⟩)
        | (go_at_call 53; refine (nameValid_any _ _ hs (Hg.out.below hb1)).mono ?_; rw [hno]; rintro e w2 ⟨rfl, hb2⟩))
      go_ret
      rw [Hr.out]
      exact evs_none w (bt hb1 hb2)
    | true =>
      cases hrd : rdOk a m with
      | false =>
        have Hr := Lib.hid (storeRead_no (xs := xs) (s := s) (a := a) (m := m) (by rw [hrd]; simp))
        have R := fun W => readable_any a m W
        rw [hrd] at R
        have HR := Lib.hid R
        clear R
        go_enter Tryd.func33, Tryd.ntmps33
        go_wp2_with (first
          | (go_at_call 46; refine V.out.mono ?_; rintro e w1 ⟨rfl, hb1⟩)
          | (go_at_call 53; refine (nameValid_any _ _ hs (Hg.out.below hb1)).mono ?_; rw [hno]; rintro e w2 ⟨rfl, hb2⟩)
          | (go_at_call 66; refine (HR.out _).mono ?_; rintro e w3 ⟨rfl, rfl⟩))
        go_ret
        rw [Hr.out]
        exact evs_none w (bt hb1 hb2)
      | true =>
        have Hr := Lib.hid (storeRead_yes hok hno hrd)
        obtain ⟨⟨a1, a2⟩, m1, m2⟩ := rdOk_iff.1 hrd
        have R := fun W => readable_any a m W
        rw [hrd] at R
        have HR := Lib.hid R
        clear R
        obtain ⟨a', rfl⟩ : ∃ a' : Nat, a = (a' : Int) := ⟨a.toNat, by omega⟩
        obtain ⟨m', rfl⟩ : ∃ m' : Nat, m = (m' : Int) := ⟨m.toNat, by omega⟩
        rw [Int.toNat_natCast, Int.toNat_natCast] at Hr
        go_enter Tryd.func33, Tryd.ntmps33
        go_wp2_with (first
          | (go_at_call 46; refine V.out.mono ?_; rintro e w1 ⟨rfl, hb1⟩)
          | (go_at_call 53; refine (nameValid_any _ _ hs (Hg.out.below hb1)).mono ?_; rw [hno]; rintro e w2 ⟨rfl, hb2⟩)
          | (go_at_call 66; refine (HR.out _).mono ?_; rintro e w3 ⟨rfl, rfl⟩)
          | (go_at_call 65; go_must (refine (streamsOf_any A n c xs _ (H.out.next (bt hb1 hb2)) (fun x hx => (Hsm.out x hx).1) hnb).mono ?_; rintro e w3 ⟨b, base, q, D, g, rfl, S, hq, hb3⟩; obtain ⟨A', c', k, hk, l1, hnc', Hnil', hrow'⟩ := S.slice s hs; have Hrow := Lib.hid hrow'; have hk2 : k ≤ 1000000 := (by rw [hk]; have := Hsl.out; rw [Hl.out] at this; omega); clear hk))
          | (go_at_call 67; go_must (refine (pieceEv_any A' k c' (streamOf xs s) a' m' _ Hrow.out hnc' Hnil'.out hk2 (by omega) (by omega)).mono ?_; rintro e w4 ⟨A4, n4, c4, rfl, hr4, hc4, hn4, hb4⟩)))
        go_ret
        rw [Hr.out]
        exact ⟨A4, n4, c4, rfl, hr4, hc4, hn4, bt (bt (bt hb1 hb2) hb3) hb4⟩

end Go.Proofs.YtbcfbkcadceniaaDoor
