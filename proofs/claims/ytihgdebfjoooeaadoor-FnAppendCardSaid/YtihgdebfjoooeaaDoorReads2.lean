/- Reading a stream: the program's and the reference's. -/
import Derived.Test.YtihgdebfjoooeaaDoorReads
namespace Go.Proofs.YtihgdebfjoooeaaDoor
set_option linter.unusedVariables false
set_option linter.unusedSimpArgs false
open Go.RowKit

set_option maxRecDepth 100000 in
set_option maxHeartbeats 4000000 in
theorem storeRead_any (A : Option Addr) (n c : Nat) (xs : List En) (s : ByteArray) (a m : Int) (w : World) (h : Row enCells 4 w w.heap.size A n xs) (hsm : SmallEns xs) (hs : s.size ≤ maxLen) (hnb : n ≤ 1000000) (hg : GE w) :
    Calls Tryd.prog 29 #[.slice A n c, .string s, .int .i64 a, .int .i64 m] w (EvsRet (storeRead xs s a m) w) := by
  have H := Lib.hid h
  have Hg := Lib.hid hg
  have Hsm := Lib.hid hsm
  have Hsl := Lib.hid (streamOf_len xs s)
  have Hl := Lib.hid h.1
  have V := Lib.hid (storeValid_any A n c xs w h hsm hnb hg)
  clear h hg hsm
  cases hok : storeOk xs with
  | false =>
    have Hr := Lib.hid (storeRead_no (xs := xs) (s := s) (a := a) (m := m) (by rw [hok]; rfl))
    rw [hok] at V
    go_enter Tryd.func29, Tryd.ntmps29
    go_wp2_with (go_at_call 20; refine V.out.mono ?_; rintro e w1 ⟨rfl, hb1⟩)
    go_ret
    rw [Hr.out]
    exact evs_none w hb1
  | true =>
    rw [hok] at V
    cases hno : nameOk s.data.toList with
    | false =>
      have Hr := Lib.hid (storeRead_no (xs := xs) (s := s) (a := a) (m := m) (by rw [hno]; simp))
      go_enter Tryd.func29, Tryd.ntmps29
      go_wp2_with (first
        | (go_at_call 20; refine V.out.mono ?_; rintro e w1 ⟨rfl, hb1⟩)
        | (go_at_call 59; refine (nameValid_any _ _ hs (Hg.out.below hb1)).mono ?_; rw [hno]; rintro e w2 ⟨rfl, hb2⟩))
      go_ret
      rw [Hr.out]
      exact evs_none w (bt hb1 hb2)
    | true =>
      cases hrd : rdOk a m with
      | false =>
        have Hr := Lib.hid (storeRead_no (xs := xs) (s := s) (a := a) (m := m) (by rw [hrd]; simp))
        have R := fun W => readable_any a m W
        rw [hrd] at R
        have HR := Lib.hid R
        clear R
        go_enter Tryd.func29, Tryd.ntmps29
        go_wp2_with (first
          | (go_at_call 20; refine V.out.mono ?_; rintro e w1 ⟨rfl, hb1⟩)
          | (go_at_call 59; refine (nameValid_any _ _ hs (Hg.out.below hb1)).mono ?_; rw [hno]; rintro e w2 ⟨rfl, hb2⟩)
          | (go_at_call 55; refine (HR.out _).mono ?_; rintro e w3 ⟨rfl, rfl⟩))
        go_ret
        rw [Hr.out]
        exact evs_none w (bt hb1 hb2)
      | true =>
        have Hr := Lib.hid (storeRead_yes hok hno hrd)
        obtain ⟨⟨a1, a2⟩, m1, m2⟩ := rdOk_iff.1 hrd
        have R := fun W => readable_any a m W
        rw [hrd] at R
        have HR := Lib.hid R
        clear R
        obtain ⟨a', rfl⟩ : ∃ a' : Nat, a = (a' : Int) := ⟨a.toNat, by omega⟩
        obtain ⟨m', rfl⟩ : ∃ m' : Nat, m = (m' : Int) := ⟨m.toNat, by omega⟩
        rw [Int.toNat_natCast, Int.toNat_natCast] at Hr
        go_enter Tryd.func29, Tryd.ntmps29
        go_wp2_with (first
          | (go_at_call 20; refine V.out.mono ?_; rintro e w1 ⟨rfl, hb1⟩)
          | (go_at_call 59; refine (nameValid_any _ _ hs (Hg.out.below hb1)).mono ?_; rw [hno]; rintro e w2 ⟨rfl, hb2⟩)
          | (go_at_call 55; refine (HR.out _).mono ?_; rintro e w3 ⟨rfl, rfl⟩)
          | (go_at_call 48; go_must (refine (streamsOf_any A n c xs _ (H.out.next (bt hb1 hb2)) (fun x hx => (Hsm.out x hx).1) hnb).mono ?_; rintro e w3 ⟨b, base, q, D, g, rfl, S, hq, hb3⟩; obtain ⟨A', c', k, hk, l1, hnc', Hnil', hrow'⟩ := S.slice s hs; have Hrow := Lib.hid hrow'; have hk2 : k ≤ 1000000 := (by rw [hk]; have := Hsl.out; rw [Hl.out] at this; omega); clear hk))
          | (go_at_call 61; go_must (refine (pieceEv_any A' k c' (streamOf xs s) a' m' _ Hrow.out hnc' Hnil'.out hk2 (by omega) (by omega)).mono ?_; rintro e w4 ⟨A4, n4, c4, rfl, hr4, hc4, hn4, hb4⟩)))
        go_ret
        rw [Hr.out]
        exact ⟨A4, n4, c4, rfl, hr4, hc4, hn4, bt (bt (bt hb1 hb2) hb3) hb4⟩

set_option maxRecDepth 100000 in
set_option maxHeartbeats 4000000 in
theorem storeReadS_any (A : Option Addr) (n c : Nat) (xs : List En) (s : ByteArray) (a m : Int) (w : World) (h : Row enCells 4 w w.heap.size A n xs) (hsm : SmallEns xs) (hs : s.size ≤ maxLen) (hnb : n ≤ 1000000) :
    Calls Tryd.prog 31 #[.slice A n c, .string s, .int .i64 a, .int .i64 m] w (EvsRet (storeRead xs s a m) w) := by
  have hba : Below w.heap.size w (w.alloc (.cells #[] 34)) := (Below.refl _ _).alloc (Nat.le_refl _) _
  have H := Lib.hid h
  have Hl := Lib.hid h.1
  have Hsl := Lib.hid (streamOf_len xs s)
  have V := Lib.hid (storeValidS_any A n c xs _ (h.next hba) hsm hnb)
  have Hba := Lib.hid hba
  clear h hba
  cases hok : storeOk xs with
  | false =>
    have Hr := Lib.hid (storeRead_no (xs := xs) (s := s) (a := a) (m := m) (by rw [hok]; rfl))
    rw [hok] at V
    go_enter Tryd.func31, Tryd.ntmps31
    go_wp2_with (go_at_call 21; refine V.out.mono ?_; rintro e w1 ⟨rfl, hb1⟩)
    go_ret
    rw [Hr.out]
    exact ⟨_, 0, 0, rfl, Row.nil _ _ _, Nat.le_refl _, Lib.hid (fun e => by cases e), bt Hba.out hb1⟩
  | true =>
    rw [hok] at V
    cases hno : nameOk s.data.toList with
    | false =>
      have Hr := Lib.hid (storeRead_no (xs := xs) (s := s) (a := a) (m := m) (by rw [hno]; simp))
      go_enter Tryd.func31, Tryd.ntmps31
      go_wp2_with (first
        | (go_at_call 21; refine V.out.mono ?_; rintro e w1 ⟨rfl, hb1⟩)
        | (go_at_call 37; refine (nameValidS_any _ _ hs).mono ?_; rw [hno]; rintro e w2 ⟨rfl, hb2⟩))
      go_ret
      rw [Hr.out]
      exact ⟨_, 0, 0, rfl, Row.nil _ _ _, Nat.le_refl _, Lib.hid (fun e => by cases e), bt Hba.out (bt hb1 hb2)⟩
    | true =>
      cases hra : decide (0 ≤ a ∧ a ≤ 99) with
      | false =>
        have Hr := Lib.hid (storeRead_no (xs := xs) (s := s) (a := a) (m := m) (by unfold rdOk; rw [hra]; simp))
        have R := fun W => l6In_at a 0 99 W
        rw [hra] at R
        have HR := Lib.hid R
        clear R
        go_enter Tryd.func31, Tryd.ntmps31
        go_wp2_with (first
          | (go_at_call 21; refine V.out.mono ?_; rintro e w1 ⟨rfl, hb1⟩)
          | (go_at_call 37; refine (nameValidS_any _ _ hs).mono ?_; rw [hno]; rintro e w2 ⟨rfl, hb2⟩)
          | (go_at_call 57; (with_reducible refine (HR.out _).mono ?_); rintro e w3 ⟨rfl, rfl⟩))
        go_ret
        rw [Hr.out]
        exact ⟨_, 0, 0, rfl, Row.nil _ _ _, Nat.le_refl _, Lib.hid (fun e => by cases e), bt Hba.out (bt hb1 hb2)⟩
      | true =>
        have R := fun W => l6In_at a 0 99 W
        rw [hra] at R
        have HR := Lib.hid R
        clear R
        cases hrm : decide (0 ≤ m ∧ m ≤ 99) with
        | false =>
          have Hr := Lib.hid (storeRead_no (xs := xs) (s := s) (a := a) (m := m) (by unfold rdOk; rw [hrm]; simp))
          have R := fun W => l6In_at m 0 99 W
          rw [hrm] at R
          have HR2 := Lib.hid R
          clear R
          go_enter Tryd.func31, Tryd.ntmps31
          go_wp2_with (first
            | (go_at_call 21; refine V.out.mono ?_; rintro e w1 ⟨rfl, hb1⟩)
            | (go_at_call 37; refine (nameValidS_any _ _ hs).mono ?_; rw [hno]; rintro e w2 ⟨rfl, hb2⟩)
            | (go_at_call 57; (with_reducible refine (HR.out _).mono ?_); rintro e w3 ⟨rfl, rfl⟩)
            | (go_at_call 57; (with_reducible refine (HR2.out _).mono ?_); rintro e w3 ⟨rfl, rfl⟩))
          go_ret
          rw [Hr.out]
          exact ⟨_, 0, 0, rfl, Row.nil _ _ _, Nat.le_refl _, Lib.hid (fun e => by cases e), bt Hba.out (bt hb1 hb2)⟩
        | true =>
          have hrd : rdOk a m = true := by unfold rdOk; rw [hra, hrm]; rfl
          have Hr := Lib.hid (storeRead_yes hok hno hrd)
          obtain ⟨⟨a1, a2⟩, m1, m2⟩ := rdOk_iff.1 hrd
          have R := fun W => l6In_at m 0 99 W
          rw [hrm] at R
          have HR2 := Lib.hid R
          clear R hra hrm
          obtain ⟨a', rfl⟩ : ∃ a' : Nat, a = (a' : Int) := ⟨a.toNat, by omega⟩
          obtain ⟨m', rfl⟩ : ∃ m' : Nat, m = (m' : Int) := ⟨m.toNat, by omega⟩
          rw [Int.toNat_natCast, Int.toNat_natCast] at Hr
          have O0 := Lib.hid (World.ownsRow_lit (base := w.heap.size) (e := 34) (size := 3) w #[] 0 (Nat.le_refl _) (Nat.zero_le _) rfl)
          go_enter Tryd.func31, Tryd.ntmps31
          go_wp2_with (first
            | (go_at_call 21; refine V.out.mono ?_; rintro e w1 ⟨rfl, hb1⟩)
            | (go_at_call 37; refine (nameValidS_any _ _ hs).mono ?_; rw [hno]; rintro e w2 ⟨rfl, hb2⟩)
            | (go_at_call 57; (with_reducible refine (HR.out _).mono ?_); rintro e w3 ⟨rfl, rfl⟩)
            | (go_at_call 57; (with_reducible refine (HR2.out _).mono ?_); rintro e w3 ⟨rfl, rfl⟩)
            | (go_at_call 60; go_must (refine (l4Events_new A n c xs s _ (H.out.next (bt Hba.out (bt hb1 hb2))) hnb).mono ?_; rintro e w3 ⟨A', k, c', rfl, hrow', hnc', Hnil', Hnew, hb3⟩)))
          have HR3 := Lib.hid hrow'
          have Hk := Lib.hid hrow'.1
          have hk2 : k ≤ 1000000 := by rw [← hrow'.1]; have := Hsl.out; rw [Hl.out] at this; omega
          have Hb3 := Lib.hid (bt Hba.out (bt (bt hb1 hb2) hb3))
          have O3 := Lib.hid (own_next O0.out (bt (bt hb1 hb2) hb3))
          have Hz3 := Lib.hid Hb3.out.size
          have Hap : Hid (∀ p, A' = some p → w.heap.size < p.block) := Lib.hid fun p hp => by
            have h1 := Hnew.out p hp
            have h2 := (bt hb1 hb2).size
            have h3 : (w.alloc (.cells #[] 34)).heap.size = w.heap.size + 1 := by simp
            omega
          clear hb1 hb2 hb3 hrow'
          go_loopw [9, 11] (fun v i wr => ∃ j : Nat, j ≤ m' ∧ i = .int .i64 ((a' + j : Nat) : Int) ∧ wr.ownsRow w.heap.size 34 3 v (pieceL (streamOf xs s) a' j).length ((pieceL (streamOf xs s) a' j).flatMap evCells) ∧ Below w.heap.size w wr ∧ Row evCells 3 wr w3.heap.size A' k (streamOf xs s) ∧ w3.heap.size ≤ wr.heap.size ∧ Hid (v.ownBlock = some w.heap.size ∨ ∃ g, v.ownBlock = some g ∧ w3.heap.size ≤ g)) (fun _ i _ => a' + m' - (intOf i).toNat)
          case atStart => exact ⟨0, Nat.zero_le _, rfl, by simpa [pieceL] using O3.out, Hb3.out, HR3.out, Nat.le_refl _, Lib.hid (.inl rfl)⟩
          case round =>
            obtain ⟨j, hj, rfl, hown, hnx, hrw, hz3, Hob⟩ := hrel
            have Hrw := Lib.hid hrw
            have hsz := Lib.hid hnx.size
            have Hown := Lib.hid hown
            have Hnx := Lib.hid hnx
            have hpl := (piece_len (streamOf xs s) a' j).1
            rw [Hk.out] at hpl
            by_cases hlt : a' + j < k
            · by_cases hkm : j < m'
              · obtain ⟨b, off, rfl, hb, hx⟩ := hrw.at_ evCells_len (by omega)
                have hke : (streamOf xs s)[a' + j]? = some (nx (streamOf xs s) (a' + j)) := nx_get (by rw [Hk.out]; exact hlt)
                have Hsn := Lib.hid (pieceL_succ (l := streamOf xs s) (a := a') (k := j) (by rw [Hk.out]; exact hlt))
                obtain ⟨⟨id, kind, data⟩, he⟩ : ∃ e, nx (streamOf xs s) (a' + j) = e := ⟨_, rfl⟩
                rw [he] at hke Hsn
                have c0 : wr.cell? ⟨b, off + (a' + j) * 3, none⟩ = some (.int .i64 id) := hx _ _ hke 0 _ rfl
                have c1 : wr.cell? ⟨b, off + (a' + j) * 3 + 1, none⟩ = some (.string kind) := hx _ _ hke 1 _ rfl
                have c2 : wr.cell? ⟨b, off + (a' + j) * 3 + 2, none⟩ = some (.int .i64 data) := hx _ _ hke 2 _ rfl
                have t1 : ((a' + j : Nat) : Int) < (k : Int) := by omega
                have t2 : ((a' + j : Nat) : Int) < (a' : Int) + (m' : Int) := by omega
                have Hbb := Lib.hid hb
                clear hke he hx hown hnx hrw
                generalize hi : a' + j = i at *
                have hin : i ≤ 1000000 := by omega
                have hpn : (pieceL (streamOf xs s) a' j).length ≤ 1000000 := by omega
                go_wp2_with (first
                  | (at_builtin; go_must (refine app_one elemEv wr rfl _ _ rfl w.heap.size _ (pieceL (streamOf xs s) a' j).length ((pieceL (streamOf xs s) a' j).flatMap evCells) rfl (by exact Hown.out) [.int .i64 id, .string kind, .int .i64 data] rfl rfl ?_ ?_ ?_ ?_); (intro x hx; simp at hx; rcases hx with rfl | rfl | rfl <;> rfl); omega; (exact hsz.out); intro v' w4 own4 grow4 or4))
                have hb4 := own_below' Hown.out (Nat.le_refl _) Hnx.out hsz.out grow4
                have hrw4 : Row evCells 3 w4 w3.heap.size (some ⟨b, off, none⟩) k (streamOf xs s) := Hrw.out.grown hz3 grow4 (fun p hp => by
                  obtain rfl := Option.some.inj hp
                  have h1 := Hap.out _ rfl
                  have h2 := Hbb.out
                  intro h
                  rcases Hob.out with e | ⟨g, e, hg⟩
                  · have h3 := e.symm.trans h; injection h3 with h3; simp only at h1 h3; omega
                  · have h3 := e.symm.trans h; injection h3 with h3; simp only at h1 h3; omega)
                have hob4 : v'.ownBlock = some w.heap.size ∨ ∃ g, v'.ownBlock = some g ∧ w3.heap.size ≤ g := by
                  rcases or4 with e | e
                  · rw [e]; exact Hob.out
                  · exact .inr ⟨_, e, by omega⟩
                have hz4 := grow4.size
                have own5 : w4.ownsRow w.heap.size 34 3 v' (pieceL (streamOf xs s) a' (j + 1)).length ((pieceL (streamOf xs s) a' (j + 1)).flatMap evCells) := by
                  rw [Hsn.out, List.flatMap_append, List.length_append]
                  simpa [evCells] using own4
                clear own4 grow4 or4
                go_roundw
                case rel => exact ⟨j + 1, by omega, by rw [← hi]; go_num, own5, hb4, hrw4, by omega, Lib.hid hob4⟩
                case measure => simp [intOf]; omega
              · have t1 : ((a' + j : Nat) : Int) < (k : Int) := by omega
                have t2 : ¬ ((a' + j : Nat) : Int) < (a' : Int) + (m' : Int) := by omega
                have t3 : decide (((a' + j : Nat) : Int) < (a' : Int) + (m' : Int)) = false := decide_eq_false t2
                have He := Lib.hid (pieceL_end (l := streamOf xs s) (a := a') hj (.inr (show j = m' by omega)))
                clear hown hnx hrw
                generalize hi : a' + j = i at *
                go_wp2_with fail
                go_ret
                rw [Hr.out, ← He.out]
                exact evs_ret rfl Hown.out Hnx.out
            · have t1 : ¬ ((a' + j : Nat) : Int) < (k : Int) := by omega
              have t3 : decide (((a' + j : Nat) : Int) < (k : Int)) = false := decide_eq_false t1
              have He := Lib.hid (pieceL_end (l := streamOf xs s) (a := a') hj (.inl (by rw [Hk.out]; omega)))
              clear hown hnx hrw
              generalize hi : a' + j = i at *
              go_wp2_with fail
              go_ret
              rw [Hr.out, ← He.out]
              exact evs_ret rfl Hown.out Hnx.out
end Go.Proofs.YtihgdebfjoooeaaDoor
