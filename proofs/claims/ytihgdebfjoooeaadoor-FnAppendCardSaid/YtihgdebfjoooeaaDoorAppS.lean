/- Appending to a store: the reference's. -/
import Derived.Test.YtihgdebfjoooeaaDoorApp
namespace Go.Proofs.YtihgdebfjoooeaaDoor
set_option linter.unusedVariables false
set_option linter.unusedSimpArgs false
open Go.RowKit

set_option maxRecDepth 100000 in
set_option maxHeartbeats 4000000 in
theorem l4Append_any (A : Option Addr) (n c : Nat) (xs : List En) (s : ByteArray) (A' : Option Addr) (m d : Nat) (es : List Ev) (w : World) (h : Row enCells 4 w w.heap.size A n xs) (h' : Row evCells 3 w w.heap.size A' m es) (hnil : A = none → c = 0) (hnb : n ≤ 400000) (hmb : m ≤ 400000) :
    Calls Tryd.prog 69 #[.slice A n c, .string s, .slice A' m d] w (EnsRet (longer xs s es) w) := by
  have H := Lib.hid h
  have H' := Lib.hid h'
  have Hl := Lib.hid h.1
  have Hl' := Lib.hid h'.1
  have Hnil := Lib.hid hnil
  have Om := Lib.hid (World.ownsRow_lit (base := w.heap.size) (e := 36) (size := 4) w #[] 0 (Nat.le_refl _) (Nat.zero_le _) rfl)
  have Bm := Lib.hid ((Below.refl w.heap.size w).alloc (Nat.le_refl _) (.cells #[] 36))
  clear h h' hnil
  go_enter Tryd.func69, Tryd.ntmps69
  go_wp2_with (first
    | (at_builtin; refine app_src elemEn _ rfl (.tmp 9) (.tmp 10) rfl w.heap.size _ 0 [] rfl Om.out A n c w.heap.size _ rfl Hnil.out (H.out.2.below Bm.out) (ens_one _) ?_ ?_ ?_ ?_; omega; omega; (exact Bm.out.size); intro v7 w7 own7 grow7 or7; have B7 := own_below' Om.out (Nat.le_refl _) Bm.out Bm.out.size grow7))
  rw [Nat.zero_add, List.nil_append] at own7
  have O7 := Lib.hid own7
  have HB7 := Lib.hid B7
  clear own7 grow7 or7 B7
  go_loopw [7, 8] (fun v i wr => ∃ k : Nat, k ≤ m ∧ i = .int .i64 k ∧ wr.ownsRow w.heap.size 36 4 v (n + k) ((longer xs s (es.take k)).flatMap enCells) ∧ Below w.heap.size w wr) (fun _ i _ => m - (intOf i).toNat)
  case atStart => exact ⟨0, Nat.zero_le _, rfl, by simpa [longer] using O7.out, HB7.out⟩
  case round =>
    obtain ⟨k, hk, rfl, hown, hnx⟩ := hrel
    have hsz := Lib.hid hnx.size
    have Hown := Lib.hid hown
    have Hnx := Lib.hid hnx
    by_cases hlt : k < m
    · obtain ⟨b, off, rfl, hb, hx⟩ := H'.out.at_ evCells_len (by omega)
      have hke : es[k]? = some (nx es k) := nx_get (by rw [Hl'.out]; exact hlt)
      have Hsn := Lib.hid (longer_snoc xs s es k (by rw [Hl'.out]; exact hlt))
      obtain ⟨⟨id, kind, data⟩, he⟩ : ∃ e, nx es k = e := ⟨_, rfl⟩
      rw [he] at hke Hsn
      have c0 : wr.cell? ⟨b, off + k * 3, none⟩ = some (.int .i64 id) := (hnx.cell (p := ⟨b, off + (k * 3 + 0), none⟩) hb).trans (hx _ _ hke 0 _ rfl)
      have c1 : wr.cell? ⟨b, off + k * 3 + 1, none⟩ = some (.string kind) := (hnx.cell (p := ⟨b, off + (k * 3 + 1), none⟩) hb).trans (hx _ _ hke 1 _ rfl)
      have c2 : wr.cell? ⟨b, off + k * 3 + 2, none⟩ = some (.int .i64 data) := (hnx.cell (p := ⟨b, off + (k * 3 + 2), none⟩) hb).trans (hx _ _ hke 2 _ rfl)
      have hlt' : (k : Int) < (m : Int) := by omega
      clear hke he hx hown hnx
      go_wp2_with (first
        | (at_builtin; go_must (refine app_one elemEn wr rfl _ _ rfl w.heap.size _ (n + k) ((longer xs s (es.take k)).flatMap enCells) rfl (by exact Hown.out) [.string s, .int .i64 id, .string kind, .int .i64 data] rfl rfl ?_ ?_ ?_ ?_); (intro x hx; simp at hx; rcases hx with rfl | rfl | rfl | rfl <;> rfl); omega; (exact hsz.out); intro v' w4 own4 grow4 or4))
      have hb4 := own_below' Hown.out (Nat.le_refl _) Hnx.out hsz.out grow4
      have own5 : w4.ownsRow w.heap.size 36 4 v' (n + (k + 1)) ((longer xs s (es.take (k + 1))).flatMap enCells) := by
        rw [Hsn.out, List.flatMap_append, ← Nat.add_assoc]
        simpa [enCells] using own4
      clear own4 grow4 or4
      go_roundw
      case rel => exact ⟨k + 1, by omega, by go_num, own5, hb4⟩
      case measure => simp [intOf]; omega
    · obtain rfl : k = m := by omega
      have hx := Lib.hid (show es.take k = es by rw [← Hl'.out]; exact List.take_length)
      have hlt' : ¬ (k : Int) < (k : Int) := by omega
      clear hown hnx
      rw [hx.out] at Hown
      go_wp2_with fail
      go_ret
      exact ens_ret (by rw [longer_len, Hl.out, Hl'.out]) Hown.out Hnx.out

set_option maxRecDepth 100000 in
set_option maxHeartbeats 8000000 in
theorem storeAppendS_any (A : Option Addr) (n c : Nat) (xs : List En) (s : ByteArray) (x : Int) (A' : Option Addr) (m d : Nat) (es : List Ev) (w : World) (h : Row enCells 4 w w.heap.size A n xs) (h' : Row evCells 3 w w.heap.size A' m es) (hsm : SmallEns xs) (hse : ∀ e ∈ es, e.kind.size ≤ maxLen) (hs : s.size ≤ maxLen) (hnb : n ≤ 1000000) (hmd : m ≤ d) (hmb : m ≤ 1000000) (hnil : A = none → c = 0) (hn4 : n ≤ 400000) (hm4 : m ≤ 400000) :
    Calls Tryd.prog 39 #[.slice A n c, .string s, .int .i64 x, .slice A' m d] w (EnsIntRet (storeAppend xs s x es) w) := by
  have L := ((Live.since (Below.refl w.heap.size w)).and (Live.row h)).and (Live.row h')
  have Hl := Lib.hid h'.1
  have Hsx := Lib.hid (streamOf_len xs s)
  have Hlx := Lib.hid h.1
  have V := Lib.hid (storeValidS_any A n c xs w h hsm hnb)
  have X := Lib.hid (fun W => expectValidS_any x W)
  have E := Lib.hid (fun W H => eventsValidS_any A' m d es W H hse hmb)
  have Hnil := Lib.hid hnil
  have Hsml : Hid (SmallEns (longer xs s es)) := Lib.hid fun y hy => by
    rcases List.mem_append.1 hy with h1 | h1
    · exact hsm y h1
    · obtain ⟨e, he, rfl⟩ := List.mem_map.1 h1; exact ⟨hs, hse e he⟩
  have Hll := Lib.hid (show (longer xs s es).length = n + m by rw [longer_len, h.1, h'.1])
  clear h h' hsm hse hnil
  cases hok : storeOk xs with
  | false =>
    rw [hok] at V
    have Hr := Lib.hid (storeAppend_bad (show writeOk xs s x es = false by unfold writeOk; rw [hok]; simp))
    go_enter Tryd.func39, Tryd.ntmps39
    go_wp2_with (first
      | (go_at_call 21; (with_reducible refine V.out.mono ?_); rintro e w1 ⟨rfl, hb1⟩; have L1 := L.next hb1))
    go_ret2
    rw [Hr.out]
    exact ens_int0 w L1.now.1.1
  | true =>
    rw [hok] at V
    cases hno : nameOk s.data.toList with
    | false =>
      have Hr := Lib.hid (storeAppend_bad (show writeOk xs s x es = false by unfold writeOk; rw [hno]; simp))
      go_enter Tryd.func39, Tryd.ntmps39
      go_wp2_with (first
        | (go_at_call 21; (with_reducible refine V.out.mono ?_); rintro e w1 ⟨rfl, hb1⟩; have L1 := L.next hb1)
        | (go_at_call 37; refine (nameValidS_any _ _ hs).mono ?_; rw [hno]; rintro e w2 ⟨rfl, hb2⟩; have L2 := L1.next hb2))
      go_ret2
      rw [Hr.out]
      exact ens_int0 w L2.now.1.1
    | true =>
      cases hxo : expOk x with
      | false =>
        rw [hxo] at X
        have Hr := Lib.hid (storeAppend_bad (show writeOk xs s x es = false by unfold writeOk; rw [hxo]; simp))
        go_enter Tryd.func39, Tryd.ntmps39
        go_wp2_with (first
          | (go_at_call 21; (with_reducible refine V.out.mono ?_); rintro e w1 ⟨rfl, hb1⟩; have L1 := L.next hb1)
          | (go_at_call 37; refine (nameValidS_any _ _ hs).mono ?_; rw [hno]; rintro e w2 ⟨rfl, hb2⟩; have L2 := L1.next hb2)
          | (go_at_call 66; refine (X.out _).mono ?_; rintro e w3 ⟨rfl, rfl⟩))
        go_ret2
        rw [Hr.out]
        exact ens_int0 w L2.now.1.1
      | true =>
        rw [hxo] at X
        cases heo : evsOk es with
        | false =>
          rw [heo] at E
          have Hr := Lib.hid (storeAppend_bad (show writeOk xs s x es = false by unfold writeOk; rw [heo]; simp))
          go_enter Tryd.func39, Tryd.ntmps39
          go_wp2_with (first
            | (go_at_call 21; (with_reducible refine V.out.mono ?_); rintro e w1 ⟨rfl, hb1⟩; have L1 := L.next hb1)
            | (go_at_call 37; refine (nameValidS_any _ _ hs).mono ?_; rw [hno]; rintro e w2 ⟨rfl, hb2⟩; have L2 := L1.next hb2)
            | (go_at_call 66; refine (X.out _).mono ?_; rintro e w3 ⟨rfl, rfl⟩)
            | (go_at_call 67; refine (E.out _ L2.now.2).mono ?_; rintro e w4 ⟨rfl, hb4⟩; have L4 := L2.next hb4))
          go_ret2
          rw [Hr.out]
          exact ens_int0 w L4.now.1.1
        | true =>
          rw [heo] at E
          by_cases hm0 : m = 0
          · subst hm0
            have Hr := Lib.hid (storeAppend_bad (show writeOk xs s x es = false by unfold writeOk; rw [decide_eq_false (fun h : es ≠ [] => h (List.eq_nil_of_length_eq_zero Hl.out))]; simp))
            go_enter Tryd.func39, Tryd.ntmps39
            go_wp2_with (first
              | (go_at_call 21; (with_reducible refine V.out.mono ?_); rintro e w1 ⟨rfl, hb1⟩; have L1 := L.next hb1)
              | (go_at_call 37; refine (nameValidS_any _ _ hs).mono ?_; rw [hno]; rintro e w2 ⟨rfl, hb2⟩; have L2 := L1.next hb2)
              | (go_at_call 66; refine (X.out _).mono ?_; rintro e w3 ⟨rfl, rfl⟩)
              | (go_at_call 67; refine (E.out _ L2.now.2).mono ?_; rintro e w4 ⟨rfl, hb4⟩; have L4 := L2.next hb4))
            go_ret2
            rw [Hr.out]
            exact ens_int0 w L4.now.1.1
          · have hm1 : ((m : Int) == 0) = false := beq_eq_false_iff_ne.2 (by omega)
            have hw : writeOk xs s x es = true := writeOk_iff.2 ⟨hok, hno, hxo, heo, fun e => hm0 (by rw [← Hl.out, e]; rfl)⟩
            have A1 := @storeAppend_wrong xs s x es hw
            have A2 := @storeAppend_full xs s x es hw
            have A3 := @storeAppend_fine xs s x es hw
            obtain ⟨q, hq⟩ : ∃ q, q = (streamOf xs s).length := ⟨_, rfl⟩
            have hq2 : q ≤ 1000000 := by have := Hsx.out; rw [Hlx.out] at this; omega
            rw [← hq] at A1 A2 A3
            have Hq := Lib.hid hq
            have XH := Lib.hid (fun W => expectHoldsS_any x ((q : Int) - 1) W)
            clear hq hm0 hw
            cases hx : expHolds x ((q : Int) - 1) with
            | false =>
              have Hr := Lib.hid (A1 hx)
              rw [hx] at XH
              clear A1 A2 A3
              go_enter Tryd.func39, Tryd.ntmps39
              go_wp2_with (first
                | (go_at_call 21; (with_reducible refine V.out.mono ?_); rintro e w1 ⟨rfl, hb1⟩; have L1 := L.next hb1)
                | (go_at_call 37; refine (nameValidS_any _ _ hs).mono ?_; rw [hno]; rintro e w2 ⟨rfl, hb2⟩; have L2 := L1.next hb2)
                | (go_at_call 66; refine (X.out _).mono ?_; rintro e w3 ⟨rfl, rfl⟩)
                | (go_at_call 67; refine (E.out _ L2.now.2).mono ?_; rintro e w4 ⟨rfl, hb4⟩; have L4 := L2.next hb4)
                | (go_at_call 60; go_must (refine (l4Events_any A n c xs s _ L4.now.1.2 hnb).mono ?_; rintro e w5 ⟨A5, n5, c5, rfl, hr5, hc5, Hn5, hb5⟩; obtain rfl : n5 = q := (by rw [← hr5.1, Hq.out]); have L5 := L4.next hb5; clear hr5))
                | (go_at_call 68; refine (XH.out _).mono ?_; rintro e w6 ⟨rfl, rfl⟩)
                | (at_builtin; refine app_src elemEn (w5.alloc (.cells #[] 36)) rfl (.tmp 43) (.tmp 44) rfl w5.heap.size _ 0 [] rfl (World.ownsRow_lit w5 #[] 0 (Nat.le_refl _) (Nat.zero_le _) rfl) A n c w5.heap.size (xs.flatMap enCells) rfl Hnil.out (L5.now.1.2.2.below ((Below.refl _ _).alloc (Nat.le_refl _) _)) (ens_one _) ?_ ?_ ?_ ?_; omega; omega; (exact ((Below.refl w5.heap.size w5).alloc (Nat.le_refl _) (.cells #[] 36)).size); intro v7 w7 own7 grow7 or7; have B7 := own_below' (World.ownsRow_lit (base := w5.heap.size) (e := 36) (size := 4) w5 #[] 0 (Nat.le_refl _) (Nat.zero_le _) rfl) (Nat.le_refl _) ((Below.refl w5.heap.size w5).alloc (Nat.le_refl _) (.cells #[] 36)) ((Below.refl w5.heap.size w5).alloc (Nat.le_refl _) (.cells #[] 36)).size grow7))
              go_ret2
              rw [Hr.out]
              rw [Nat.zero_add, List.nil_append] at own7
              obtain ⟨A7, c7, rfl, q1, q2, q3, _⟩ := Row.of_own own7 Hlx.out
              exact ens_int q3 q1 (Lib.hid q2) (L5.next B7).now.1.1
            | true =>
              rw [hx] at XH
              have EW := Lib.hid (fun W H H' => l4Append_any A n c xs s A' m d es W H H' Hnil.out hn4 hm4)
              cases hy : storeOk (longer xs s es) with
              | false =>
                have Hr := Lib.hid (A2 hx hy)
                clear A1 A2 A3
                go_enter Tryd.func39, Tryd.ntmps39
                go_wp2_with (first
                  | (go_at_call 21; (with_reducible refine V.out.mono ?_); rintro e w1 ⟨rfl, hb1⟩; have L1 := L.next hb1)
                  | (go_at_call 37; refine (nameValidS_any _ _ hs).mono ?_; rw [hno]; rintro e w2 ⟨rfl, hb2⟩; have L2 := L1.next hb2)
                  | (go_at_call 66; refine (X.out _).mono ?_; rintro e w3 ⟨rfl, rfl⟩)
                  | (go_at_call 67; refine (E.out _ L2.now.2).mono ?_; rintro e w4 ⟨rfl, hb4⟩; have L4 := L2.next hb4)
                  | (go_at_call 60; go_must (refine (l4Events_any A n c xs s _ L4.now.1.2 hnb).mono ?_; rintro e w5 ⟨A5, n5, c5, rfl, hr5, hc5, Hn5, hb5⟩; obtain rfl : n5 = q := (by rw [← hr5.1, Hq.out]); have L5 := L4.next hb5; clear hr5))
                  | (go_at_call 68; refine (XH.out _).mono ?_; rintro e w6 ⟨rfl, rfl⟩)
                  | (go_at_call 69; go_must (refine (EW.out _ L5.now.1.2 L5.now.2).mono ?_; rintro e w7 ⟨A7, n7, c7, rfl, hr7, hc7, Hn7, hb7⟩; have L7 := L5.next hb7; have hn77 : n7 ≤ 1000000 := (by rw [← hr7.1, Hll.out]; omega)))
                  | (go_at_call 21; refine (storeValidS_any A7 n7 c7 _ _ hr7 Hsml.out hn77).mono ?_; rw [hy]; rintro e w8 ⟨rfl, hb8⟩))
                go_ret2
                rw [Hr.out]
                exact ens_int0 w (L7.next hb8).now.1.1
              | true =>
                have Hr := Lib.hid (A3 hx hy)
                clear A1 A2 A3
                go_enter Tryd.func39, Tryd.ntmps39
                go_wp2_with (first
                  | (go_at_call 21; (with_reducible refine V.out.mono ?_); rintro e w1 ⟨rfl, hb1⟩; have L1 := L.next hb1)
                  | (go_at_call 37; refine (nameValidS_any _ _ hs).mono ?_; rw [hno]; rintro e w2 ⟨rfl, hb2⟩; have L2 := L1.next hb2)
                  | (go_at_call 66; refine (X.out _).mono ?_; rintro e w3 ⟨rfl, rfl⟩)
                  | (go_at_call 67; refine (E.out _ L2.now.2).mono ?_; rintro e w4 ⟨rfl, hb4⟩; have L4 := L2.next hb4)
                  | (go_at_call 60; go_must (refine (l4Events_any A n c xs s _ L4.now.1.2 hnb).mono ?_; rintro e w5 ⟨A5, n5, c5, rfl, hr5, hc5, Hn5, hb5⟩; obtain rfl : n5 = q := (by rw [← hr5.1, Hq.out]); have L5 := L4.next hb5; clear hr5))
                  | (go_at_call 68; refine (XH.out _).mono ?_; rintro e w6 ⟨rfl, rfl⟩)
                  | (go_at_call 69; go_must (refine (EW.out _ L5.now.1.2 L5.now.2).mono ?_; rintro e w7 ⟨A7, n7, c7, rfl, hr7, hc7, Hn7, hb7⟩; have L7 := L5.next hb7; have hn77 : n7 ≤ 1000000 := (by rw [← hr7.1, Hll.out]; omega)))
                  | (go_at_call 21; refine (storeValidS_any A7 n7 c7 _ _ hr7 Hsml.out hn77).mono ?_; rw [hy]; rintro e w8 ⟨rfl, hb8⟩))
                go_ret2
                rw [Hr.out]
                exact ens_int (hr7.next hb8) hc7 Hn7 (L7.next hb8).now.1.1
end Go.Proofs.YtihgdebfjoooeaaDoor
