/- What was appended before; writing again: the reference's. -/
import Derived.Test.YtdmffpjljaolcaaDoorWas
namespace Go.Proofs.YtdmffpjljaolcaaDoor
set_option linter.unusedVariables false
set_option linter.unusedSimpArgs false
open Go.RowKit

set_option maxRecDepth 100000 in
set_option maxHeartbeats 8000000 in
theorem storeWasS_any (A : Option Addr) (n c : Nat) (xs : List En) (s : ByteArray) (x : Int) (A' : Option Addr) (m d : Nat) (es : List Ev) (w : World) (h : Row enCells 4 w w.heap.size A n xs) (h' : Row evCells 3 w w.heap.size A' m es) (hsm : SmallEns xs) (hse : ∀ e ∈ es, e.kind.size ≤ maxLen) (hs : s.size ≤ maxLen) (hnb : n ≤ 1000000) (hmb : m ≤ 1000000) :
    Calls Tryd.prog 38 #[.slice A n c, .string s, .int .i64 x, .slice A' m d] w fun e w' => e = .returned (.bool (storeWas xs s x es)) ∧ Below w.heap.size w w' := by
  have L := ((Live.since (Below.refl w.heap.size w)).and (Live.row h)).and (Live.row h')
  have Hl := Lib.hid h'.1
  have Hsx := Lib.hid (streamOf_len xs s)
  have Hlx := Lib.hid h.1
  have V := Lib.hid (storeValidS_any A n c xs w h hsm hnb)
  have X := Lib.hid (fun W => expectValidS_any x W)
  have E := Lib.hid (fun W H => eventsValidS_any A' m d es W H hse hmb)
  clear h h' hsm hse
  cases hok : storeOk xs with
  | false =>
    rw [hok] at V
    have Hr := Lib.hid (storeWas_bad (show writeOk xs s x es = false by unfold writeOk; rw [hok]; simp))
    go_enter Tryd.func38, Tryd.ntmps38
    go_wp2_with (first
      | (go_at_call 25; refine V.out.mono ?_; rintro e w1 ⟨rfl, hb1⟩; have L1 := L.next hb1))
    go_ret
    exact ⟨ret_bool Hr.out.symm, L1.now.1.1⟩
  | true =>
    rw [hok] at V
    cases hno : nameOk s.data.toList with
    | false =>
      have Hr := Lib.hid (storeWas_bad (show writeOk xs s x es = false by unfold writeOk; rw [hno]; simp))
      go_enter Tryd.func38, Tryd.ntmps38
      go_wp2_with (first
        | (go_at_call 25; refine V.out.mono ?_; rintro e w1 ⟨rfl, hb1⟩; have L1 := L.next hb1)
        | (go_at_call 26; refine (nameValidS_any _ _ hs).mono ?_; rw [hno]; rintro e w2 ⟨rfl, hb2⟩; have L2 := L1.next hb2))
      go_ret
      exact ⟨ret_bool Hr.out.symm, L2.now.1.1⟩
    | true =>
      cases hxo : expOk x with
      | false =>
        rw [hxo] at X
        have Hr := Lib.hid (storeWas_bad (show writeOk xs s x es = false by unfold writeOk; rw [hxo]; simp))
        go_enter Tryd.func38, Tryd.ntmps38
        go_wp2_with (first
          | (go_at_call 25; refine V.out.mono ?_; rintro e w1 ⟨rfl, hb1⟩; have L1 := L.next hb1)
          | (go_at_call 26; refine (nameValidS_any _ _ hs).mono ?_; rw [hno]; rintro e w2 ⟨rfl, hb2⟩; have L2 := L1.next hb2)
          | (go_at_call 68; refine (X.out _).mono ?_; rintro e w3 ⟨rfl, rfl⟩))
        go_ret
        exact ⟨ret_bool Hr.out.symm, L2.now.1.1⟩
      | true =>
        rw [hxo] at X
        cases heo : evsOk es with
        | false =>
          rw [heo] at E
          have Hr := Lib.hid (storeWas_bad (show writeOk xs s x es = false by unfold writeOk; rw [heo]; simp))
          go_enter Tryd.func38, Tryd.ntmps38
          go_wp2_with (first
            | (go_at_call 25; refine V.out.mono ?_; rintro e w1 ⟨rfl, hb1⟩; have L1 := L.next hb1)
            | (go_at_call 26; refine (nameValidS_any _ _ hs).mono ?_; rw [hno]; rintro e w2 ⟨rfl, hb2⟩; have L2 := L1.next hb2)
            | (go_at_call 68; refine (X.out _).mono ?_; rintro e w3 ⟨rfl, rfl⟩)
            | (go_at_call 69; refine (E.out _ L2.now.2).mono ?_; rintro e w4 ⟨rfl, hb4⟩; have L4 := L2.next hb4))
          go_ret
          exact ⟨ret_bool Hr.out.symm, L4.now.1.1⟩
        | true =>
          rw [heo] at E
          by_cases hm0 : m = 0
          · subst hm0
            have Hr := Lib.hid (storeWas_bad (show writeOk xs s x es = false by unfold writeOk; rw [decide_eq_false (fun h : es ≠ [] => h (List.eq_nil_of_length_eq_zero Hl.out))]; simp))
            go_enter Tryd.func38, Tryd.ntmps38
            go_wp2_with (first
              | (go_at_call 25; refine V.out.mono ?_; rintro e w1 ⟨rfl, hb1⟩; have L1 := L.next hb1)
              | (go_at_call 26; refine (nameValidS_any _ _ hs).mono ?_; rw [hno]; rintro e w2 ⟨rfl, hb2⟩; have L2 := L1.next hb2)
              | (go_at_call 68; refine (X.out _).mono ?_; rintro e w3 ⟨rfl, rfl⟩)
              | (go_at_call 69; refine (E.out _ L2.now.2).mono ?_; rintro e w4 ⟨rfl, hb4⟩; have L4 := L2.next hb4))
            go_ret
            exact ⟨ret_bool Hr.out.symm, L4.now.1.1⟩
          · have hm1 : ((m : Int) == 0) = false := beq_eq_false_iff_ne.2 (by omega)
            have hw : writeOk xs s x es = true := writeOk_iff.2 ⟨hok, hno, hxo, heo, fun e => hm0 (by rw [← Hl.out, e]; rfl)⟩
            have Hr := Lib.hid (storeWas_ok hw)
            have hx3 := expOk_iff.1 hxo
            clear hw
            by_cases hx : x = -2
            · subst hx
              rw [wasIn_any] at Hr
              go_enter Tryd.func38, Tryd.ntmps38
              go_wp2_with (first
                | (go_at_call 25; refine V.out.mono ?_; rintro e w1 ⟨rfl, hb1⟩; have L1 := L.next hb1)
                | (go_at_call 26; refine (nameValidS_any _ _ hs).mono ?_; rw [hno]; rintro e w2 ⟨rfl, hb2⟩; have L2 := L1.next hb2)
                | (go_at_call 68; refine (X.out _).mono ?_; rintro e w3 ⟨rfl, rfl⟩)
                | (go_at_call 69; refine (E.out _ L2.now.2).mono ?_; rintro e w4 ⟨rfl, hb4⟩; have L4 := L2.next hb4)
                | (go_at_call 53; go_must (refine (l4Events_any A n c xs s _ L4.now.1.2 hnb).mono ?_; rintro e w5 ⟨A5, k, c5, rfl, hr5, hc5, Hn5, hb5⟩; have L5 := (L4.next hb5).and (Live.row hr5); have hk2 : k ≤ 1000000 := (by rw [← hr5.1]; have := Hsx.out; rw [Hlx.out] at this; omega); clear hr5)))
              have Hkk := Lib.hid (show (streamOf xs s).length = k from L5.now.2.1)
              go_loopw [10] (fun i wr => ∃ j : Nat, j ≤ k ∧ i = .int .i64 j ∧ (Live wr fun W => (Below w.heap.size w W ∧ Row evCells 3 W W.heap.size A' m es) ∧ Row evCells 3 W W.heap.size A5 k (streamOf xs s)) ∧ Hid (∀ q, q < j → hereB (streamOf xs s) q es = false)) (fun i _ => k - (intOf i).toNat)
              case atStart => exact ⟨0, Nat.zero_le _, rfl, L5.imp (fun W q => ⟨⟨q.1.1.1, q.1.2⟩, q.2⟩), Lib.hid fun j hj => absurd hj (by omega)⟩
              case round =>
                obtain ⟨j, hj, rfl, Lr, Hall⟩ := hrel
                by_cases hlt : j < k
                · have hlt' : (j : Int) < (k : Int) := by omega
                  have ST := Lib.hid (l5Here_any A5 k c5 (streamOf xs s) j A' m d es wr Lr.now.2 Lr.now.1.2 hk2 hmb (by omega))
                  cases hb : hereB (streamOf xs s) j es with
                  | true =>
                    rw [hb] at ST
                    have Hy := Lib.hid (anyHere_iff.2 ⟨j, by rw [Hkk.out]; exact hlt, hb⟩)
                    go_wp2_with (go_at_call 70; refine ST.out.mono ?_; rintro e w7 ⟨rfl, hb7⟩)
                    go_ret
                    exact ⟨ret_bool (by rw [Hr.out, Hy.out]), (Lr.next hb7).now.1.1⟩
                  | false =>
                    rw [hb] at ST
                    have Hb := Lib.hid hb
                    go_wp2_with (go_at_call 70; refine ST.out.mono ?_; rintro e w7 ⟨rfl, hb7⟩)
                    have L7 := Lr.next hb7
                    clear hb7
                    go_roundw
                    case rel => exact ⟨j + 1, by omega, by go_num, L7, fun q hq => by
                      rcases Nat.lt_succ_iff_lt_or_eq.1 hq with h' | rfl
                      · exact Hall.out q h'
                      · exact Hb.out⟩
                    case measure => simp [intOf]; omega
                · obtain rfl : j = k := by omega
                  have hlt' : ¬ (j : Int) < (j : Int) := by omega
                  have Hn := Lib.hid (anyHere_no (all := streamOf xs s) (es := es) (fun q hq => Hall.out q (by rw [Hkk.out] at hq; exact hq)))
                  go_wp2_with fail
                  go_ret
                  exact ⟨ret_bool (by rw [Hr.out, Hn.out]), Lr.now.1.1⟩
            · have hx0 : (x == -2) = false := beq_eq_false_iff_ne.2 hx
              have hx1 : (x != -2) = true := by rw [bne, hx0]; rfl
              rw [wasIn_x hx] at Hr
              obtain ⟨a, ha⟩ : ∃ a : Nat, x + 1 = (a : Int) := ⟨(x + 1).toNat, by omega⟩
              have ha2 : a ≤ 1000000 := by omega
              rw [ha, Int.toNat_natCast] at Hr
              obtain rfl : x = (a : Int) - 1 := by omega
              have ha3 : (a : Int) - 1 + 1 = (a : Int) := by omega
              clear ha hx
              go_enter Tryd.func38, Tryd.ntmps38
              go_wp2_with (first
                | (go_at_call 25; refine V.out.mono ?_; rintro e w1 ⟨rfl, hb1⟩; have L1 := L.next hb1)
                | (go_at_call 26; refine (nameValidS_any _ _ hs).mono ?_; rw [hno]; rintro e w2 ⟨rfl, hb2⟩; have L2 := L1.next hb2)
                | (go_at_call 68; refine (X.out _).mono ?_; rintro e w3 ⟨rfl, rfl⟩)
                | (go_at_call 69; refine (E.out _ L2.now.2).mono ?_; rintro e w4 ⟨rfl, hb4⟩; have L4 := L2.next hb4)
                | (go_at_call 53; go_must (refine (l4Events_any A n c xs s _ L4.now.1.2 hnb).mono ?_; rintro e w5 ⟨A5, k, c5, rfl, hr5, hc5, Hn5, hb5⟩; have L5 := (L4.next hb5).and (Live.row hr5); have hk2 : k ≤ 1000000 := (by rw [← hr5.1]; have := Hsx.out; rw [Hlx.out] at this; omega); clear hr5))
                | (go_at_call 70; go_must (refine (l5Here_any A5 k c5 (streamOf xs s) a A' m d es _ L5.now.2 L5.now.1.2 hk2 hmb ha2).mono ?_; rintro e w6 ⟨rfl, hb6⟩)))
              go_ret
              exact ⟨ret_bool Hr.out.symm, (L5.next hb6).now.1.1.1⟩
end Go.Proofs.YtdmffpjljaolcaaDoor
