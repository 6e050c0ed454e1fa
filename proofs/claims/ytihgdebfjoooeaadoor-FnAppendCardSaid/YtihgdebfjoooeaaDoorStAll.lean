/- All entries from a position on: the program's and the reference's. -/
import Derived.Test.YtihgdebfjoooeaaDoorPiece
namespace Go.Proofs.YtihgdebfjoooeaaDoor
set_option linter.unusedVariables false
set_option linter.unusedSimpArgs false
open Go.RowKit

def storeAll (xs : List En) (a m : Int) : List En := if storeOk xs && rdOk a m then pieceL xs a.toNat m.toNat else []
theorem storeAll_no {xs : List En} {a m : Int} (h : (storeOk xs && rdOk a m) = false) : storeAll xs a m = [] := by unfold storeAll; rw [h]; rfl
theorem storeAll_yes {xs : List En} {a m : Int} (h1 : storeOk xs = true) (h2 : rdOk a m = true) : storeAll xs a m = pieceL xs a.toNat m.toNat := by unfold storeAll; rw [h1, h2]; rfl
theorem ens_none {w : World} (W : World) (hb : Below W.heap.size W w) : EnsRet [] W (.returned (.slice (some ⟨w.heap.size, 0, none⟩) 0 0)) (w.alloc (.cells #[] 36)) :=
  ⟨_, 0, 0, rfl, Row.nil _ _ _, Nat.le_refl _, Lib.hid (fun e => by cases e), hb.alloc hb.size _⟩
theorem evs_none {w : World} (W : World) (hb : Below W.heap.size W w) : EvsRet [] W (.returned (.slice (some ⟨w.heap.size, 0, none⟩) 0 0)) (w.alloc (.cells #[] 34)) :=
  ⟨_, 0, 0, rfl, Row.nil _ _ _, Nat.le_refl _, Lib.hid (fun e => by cases e), hb.alloc hb.size _⟩
theorem EnsRet.after {xs : List En} {w w1 w2 : World} {e : Ending} (hb : Below w.heap.size w w1) (h : EnsRet xs w1 e w2) : EnsRet xs w e w2 := by
  obtain ⟨A, n, c, h1, h2, h3, h4, h5⟩ := h
  exact ⟨A, n, c, h1, h2, h3, h4, bt hb h5⟩
theorem EvsRet.after {xs : List Ev} {w w1 w2 : World} {e : Ending} (hb : Below w.heap.size w w1) (h : EvsRet xs w1 e w2) : EvsRet xs w e w2 := by
  obtain ⟨A, n, c, h1, h2, h3, h4, h5⟩ := h
  exact ⟨A, n, c, h1, h2, h3, h4, bt hb h5⟩

set_option maxRecDepth 100000 in
set_option maxHeartbeats 4000000 in
theorem storeAll_any (A : Option Addr) (n c : Nat) (xs : List En) (a m : Int) (w : World) (h : Row enCells 4 w w.heap.size A n xs) (hsm : SmallEns xs) (hnc : n ≤ c) (hnil : A = none → c = 0) (hnb : n ≤ 1000000) (hg : GE w) :
    Calls Tryd.prog 24 #[.slice A n c, .int .i64 a, .int .i64 m] w (EnsRet (storeAll xs a m) w) := by
  have H := Lib.hid h
  have HN := Lib.hid hnil
  have V := Lib.hid (storeValid_any A n c xs w h hsm hnb hg)
  clear h hnil hg
  cases hok : storeOk xs with
  | false =>
    have Hr := Lib.hid (storeAll_no (xs := xs) (a := a) (m := m) (by rw [hok]; rfl))
    rw [hok] at V
    go_enter Tryd.func24, Tryd.ntmps24
    go_wp2_with (go_at_call 20; refine V.out.mono ?_; rintro e w1 ⟨rfl, hb1⟩)
    go_ret
    rw [Hr.out]
    exact ens_none w hb1
  | true =>
    rw [hok] at V
    cases hrd : rdOk a m with
    | false =>
      have Hr := Lib.hid (storeAll_no (xs := xs) (a := a) (m := m) (by rw [hrd]; simp))
      have R := fun W => readable_any a m W
      rw [hrd] at R
      have HR := Lib.hid R
      clear R
      go_enter Tryd.func24, Tryd.ntmps24
      go_wp2_with (first
        | (go_at_call 20; refine V.out.mono ?_; rintro e w1 ⟨rfl, hb1⟩)
        | (go_at_call 55; refine (HR.out _).mono ?_; rintro e w2 ⟨rfl, rfl⟩))
      go_ret
      rw [Hr.out]
      exact ens_none w hb1
    | true =>
      have Hr := Lib.hid (storeAll_yes hok hrd)
      obtain ⟨⟨a1, a2⟩, m1, m2⟩ := rdOk_iff.1 hrd
      have R := fun W => readable_any a m W
      rw [hrd] at R
      have HR := Lib.hid R
      clear R
      obtain ⟨a', rfl⟩ : ∃ a' : Nat, a = (a' : Int) := ⟨a.toNat, by omega⟩
      obtain ⟨m', rfl⟩ : ∃ m' : Nat, m = (m' : Int) := ⟨m.toNat, by omega⟩
      go_enter Tryd.func24, Tryd.ntmps24
      go_wp2_with (first
        | (go_at_call 20; refine V.out.mono ?_; rintro e w1 ⟨rfl, hb1⟩)
        | (go_at_call 55; refine (HR.out _).mono ?_; rintro e w2 ⟨rfl, rfl⟩)
        | (go_at_call 56; go_must (refine (pieceEn_any A n c xs a' m' _ (H.out.next hb1) hnc HN.out hnb (by omega) (by omega)).mono ?_; rintro e w3 ⟨A3, n3, c3, rfl, hr3, hc3, hn3, hb3⟩)))
      go_ret
      rw [Hr.out, Int.toNat_natCast, Int.toNat_natCast]
      exact ⟨A3, n3, c3, rfl, hr3, hc3, hn3, bt hb1 hb3⟩

theorem pieceL_succ {α : Type} [Inhabited α] {l : List α} {a k : Nat} (h : a + k < l.length) : pieceL l a (k + 1) = pieceL l a k ++ [nx l (a + k)] := by
  unfold pieceL
  rw [List.take_succ_eq_append_getElem (by rw [List.length_drop]; omega), List.getElem_drop, nx_eq h]
theorem pieceL_end {α : Type} {l : List α} {a k m : Nat} (hk : k ≤ m) (h : l.length ≤ a + k ∨ k = m) : pieceL l a k = pieceL l a m := by
  rcases h with h | h
  · unfold pieceL
    rw [List.take_of_length_le (by rw [List.length_drop]; omega), List.take_of_length_le (by rw [List.length_drop]; omega)]
  · rw [h]
theorem l6In_at (x lo hi : Int) (W : World) : Calls Tryd.prog 57 #[.int .i64 x, .int .i64 lo, .int .i64 hi] W fun e w' => e = .returned (.bool (decide (lo ≤ x ∧ x ≤ hi))) ∧ W = w' := by
  have h := l6In_any x lo hi W
  rwa [show (decide (lo ≤ x) && decide (x ≤ hi)) = decide (lo ≤ x ∧ x ≤ hi) by simp] at h

set_option maxRecDepth 100000 in
set_option maxHeartbeats 4000000 in
theorem storeAllS_any (A : Option Addr) (n c : Nat) (xs : List En) (a m : Int) (w : World) (h : Row enCells 4 w w.heap.size A n xs) (hsm : SmallEns xs) (hnb : n ≤ 1000000) :
    Calls Tryd.prog 25 #[.slice A n c, .int .i64 a, .int .i64 m] w (EnsRet (storeAll xs a m) w) := by
  have hba : Below w.heap.size w (w.alloc (.cells #[] 36)) := (Below.refl _ _).alloc (Nat.le_refl _) _
  have H := Lib.hid h
  have Hl := Lib.hid h.1
  have V := Lib.hid (storeValidS_any A n c xs _ (h.next hba) hsm hnb)
  have Hba := Lib.hid hba
  clear h hba
  cases hok : storeOk xs with
  | false =>
    have Hr := Lib.hid (storeAll_no (xs := xs) (a := a) (m := m) (by rw [hok]; rfl))
    rw [hok] at V
    go_enter Tryd.func25, Tryd.ntmps25
    go_wp2_with (go_at_call 21; refine V.out.mono ?_; rintro e w1 ⟨rfl, hb1⟩)
    go_ret
    rw [Hr.out]
    exact ⟨_, 0, 0, rfl, Row.nil _ _ _, Nat.le_refl _, Lib.hid (fun e => by cases e), bt Hba.out hb1⟩
  | true =>
    rw [hok] at V
    cases hra : decide (0 ≤ a ∧ a ≤ 99) with
    | false =>
      have Hr := Lib.hid (storeAll_no (xs := xs) (a := a) (m := m) (by unfold rdOk; rw [hra]; simp))
      have R := fun W => l6In_at a 0 99 W
      rw [hra] at R
      have HR := Lib.hid R
      clear R
      go_enter Tryd.func25, Tryd.ntmps25
      go_wp2_with (first
        | (go_at_call 21; refine V.out.mono ?_; rintro e w1 ⟨rfl, hb1⟩)
        | (go_at_call 57; (with_reducible refine (HR.out _).mono ?_); rintro e w2 ⟨rfl, rfl⟩))
      go_ret
      rw [Hr.out]
      exact ⟨_, 0, 0, rfl, Row.nil _ _ _, Nat.le_refl _, Lib.hid (fun e => by cases e), bt Hba.out hb1⟩
    | true =>
      have R := fun W => l6In_at a 0 99 W
      rw [hra] at R
      have HR := Lib.hid R
      clear R
      cases hrm : decide (0 ≤ m ∧ m ≤ 99) with
      | false =>
        have Hr := Lib.hid (storeAll_no (xs := xs) (a := a) (m := m) (by unfold rdOk; rw [hrm]; simp))
        have R := fun W => l6In_at m 0 99 W
        rw [hrm] at R
        have HR2 := Lib.hid R
        clear R
        go_enter Tryd.func25, Tryd.ntmps25
        go_wp2_with (first
          | (go_at_call 21; refine V.out.mono ?_; rintro e w1 ⟨rfl, hb1⟩)
          | (go_at_call 57; (with_reducible refine (HR.out _).mono ?_); rintro e w2 ⟨rfl, rfl⟩)
          | (go_at_call 57; (with_reducible refine (HR2.out _).mono ?_); rintro e w2 ⟨rfl, rfl⟩))
        go_ret
        rw [Hr.out]
        exact ⟨_, 0, 0, rfl, Row.nil _ _ _, Nat.le_refl _, Lib.hid (fun e => by cases e), bt Hba.out hb1⟩
      | true =>
        have hrd : rdOk a m = true := by unfold rdOk; rw [hra, hrm]; rfl
        have Hr := Lib.hid (storeAll_yes hok hrd)
        obtain ⟨⟨a1, a2⟩, m1, m2⟩ := rdOk_iff.1 hrd
        have R := fun W => l6In_at m 0 99 W
        rw [hrm] at R
        have HR2 := Lib.hid R
        clear R hra hrm
        obtain ⟨a', rfl⟩ : ∃ a' : Nat, a = (a' : Int) := ⟨a.toNat, by omega⟩
        obtain ⟨m', rfl⟩ : ∃ m' : Nat, m = (m' : Int) := ⟨m.toNat, by omega⟩
        have O0 := Lib.hid (World.ownsRow_lit (base := w.heap.size) (e := 36) (size := 4) w #[] 0 (Nat.le_refl _) (Nat.zero_le _) rfl)
        go_enter Tryd.func25, Tryd.ntmps25
        go_wp2_with (first
          | (go_at_call 21; refine V.out.mono ?_; rintro e w1 ⟨rfl, hb1⟩)
          | (go_at_call 57; (with_reducible refine (HR.out _).mono ?_); rintro e w2 ⟨rfl, rfl⟩)
          | (go_at_call 57; (with_reducible refine (HR2.out _).mono ?_); rintro e w2 ⟨rfl, rfl⟩))
        have Hb1 := Lib.hid (bt Hba.out hb1)
        have O1 := Lib.hid (O0.out.kept (row := none) (w' := w1) ⟨hb1.os, hb1.tape, hb1.output, hb1.size, fun k hk _ => hb1.block k hk⟩ (.inr (by simp [Value.ownBlock])))
        clear hb1
        go_loopw [7, 8] (fun v i wr => ∃ k : Nat, k ≤ m' ∧ i = .int .i64 ((a' + k : Nat) : Int) ∧ wr.ownsRow w.heap.size 36 4 v (pieceL xs a' k).length ((pieceL xs a' k).flatMap enCells) ∧ Below w.heap.size w wr) (fun _ i _ => a' + m' - (intOf i).toNat)
        case atStart => exact ⟨0, Nat.zero_le _, rfl, by simpa [pieceL] using O1.out, Hb1.out⟩
        case round =>
          obtain ⟨k, hk, rfl, hown, hnx⟩ := hrel
          have hsz := Lib.hid hnx.size
          have Hown := Lib.hid hown
          have Hnx := Lib.hid hnx
          have hpl := (piece_len xs a' k).1
          rw [Hl.out] at hpl
          by_cases hlt : a' + k < n
          · by_cases hkm : k < m'
            · obtain ⟨b, off, rfl, hb, hx⟩ := H.out.at_ enCells_len (by omega)
              have hke : xs[a' + k]? = some (nx xs (a' + k)) := nx_get (by rw [Hl.out]; exact hlt)
              have Hsn := Lib.hid (pieceL_succ (l := xs) (a := a') (k := k) (by rw [Hl.out]; exact hlt))
              obtain ⟨⟨name, id, kind, data⟩, he⟩ : ∃ e, nx xs (a' + k) = e := ⟨_, rfl⟩
              rw [he] at hke Hsn
              have c0 : wr.cell? ⟨b, off + (a' + k) * 4, none⟩ = some (.string name) := (hnx.cell (p := ⟨b, off + ((a' + k) * 4 + 0), none⟩) hb).trans (hx _ _ hke 0 _ rfl)
              have c1 : wr.cell? ⟨b, off + (a' + k) * 4 + 1, none⟩ = some (.int .i64 id) := (hnx.cell (p := ⟨b, off + ((a' + k) * 4 + 1), none⟩) hb).trans (hx _ _ hke 1 _ rfl)
              have c2 : wr.cell? ⟨b, off + (a' + k) * 4 + 2, none⟩ = some (.string kind) := (hnx.cell (p := ⟨b, off + ((a' + k) * 4 + 2), none⟩) hb).trans (hx _ _ hke 2 _ rfl)
              have c3 : wr.cell? ⟨b, off + (a' + k) * 4 + 3, none⟩ = some (.int .i64 data) := (hnx.cell (p := ⟨b, off + ((a' + k) * 4 + 3), none⟩) hb).trans (hx _ _ hke 3 _ rfl)
              have t1 : ((a' + k : Nat) : Int) < (n : Int) := by omega
              have t2 : ((a' + k : Nat) : Int) < (a' : Int) + (m' : Int) := by omega
              clear hke he hx hown hnx
              generalize hi : a' + k = i at *
              have hin : i ≤ 1000000 := by omega
              have hpn : (pieceL xs a' k).length ≤ 1000000 := by omega
              go_wp2_with (first
                | (at_builtin; go_must (refine app_one elemEn wr rfl _ _ rfl w.heap.size _ (pieceL xs a' k).length ((pieceL xs a' k).flatMap enCells) rfl (by exact Hown.out) [.string name, .int .i64 id, .string kind, .int .i64 data] rfl rfl ?_ ?_ ?_ ?_); (intro x hx; simp at hx; rcases hx with rfl | rfl | rfl | rfl <;> rfl); omega; (exact hsz.out); intro v' w4 own4 grow4 or4))
              have hb4 := own_below' Hown.out (Nat.le_refl _) Hnx.out hsz.out grow4
              have own5 : w4.ownsRow w.heap.size 36 4 v' (pieceL xs a' (k + 1)).length ((pieceL xs a' (k + 1)).flatMap enCells) := by
                rw [Hsn.out, List.flatMap_append, List.length_append]
                simpa [enCells] using own4
              clear own4 grow4 or4
              go_roundw
              case rel => exact ⟨k + 1, by omega, by rw [← hi]; go_num, own5, hb4⟩
              case measure => simp [intOf]; omega
            · have t1 : ((a' + k : Nat) : Int) < (n : Int) := by omega
              have t2 : ¬ ((a' + k : Nat) : Int) < (a' : Int) + (m' : Int) := by omega
              have t3 : decide (((a' + k : Nat) : Int) < (a' : Int) + (m' : Int)) = false := decide_eq_false t2
              have He := Lib.hid (pieceL_end (l := xs) (a := a') hk (.inr (show k = m' by omega)))
              clear hown hnx
              generalize hi : a' + k = i at *
              go_wp2_with fail
              go_ret
              rw [Hr.out, Int.toNat_natCast, Int.toNat_natCast, ← He.out]
              exact ens_ret rfl Hown.out Hnx.out
          · have t1 : ¬ ((a' + k : Nat) : Int) < (n : Int) := by omega
            have t3 : decide (((a' + k : Nat) : Int) < (n : Int)) = false := decide_eq_false t1
            have He := Lib.hid (pieceL_end (l := xs) (a := a') hk (.inl (by rw [Hl.out]; omega)))
            clear hown hnx
            generalize hi : a' + k = i at *
            go_wp2_with fail
            go_ret
            rw [Hr.out, Int.toNat_natCast, Int.toNat_natCast, ← He.out]
            exact ens_ret rfl Hown.out Hnx.out
end Go.Proofs.YtihgdebfjoooeaaDoor
