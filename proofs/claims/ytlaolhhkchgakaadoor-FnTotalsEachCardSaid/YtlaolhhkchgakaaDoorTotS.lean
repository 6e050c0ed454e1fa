/- The totals of a store: the reference's. -/
import Derived.Test.YtlaolhhkchgakaaDoorTotO
import Derived.Test.YtlaolhhkchgakaaDoorStAll
import Derived.Test.YtlaolhhkchgakaaDoorSValS
import Derived.Test.YtlaolhhkchgakaaDoorSameEn
namespace Go.Proofs.YtlaolhhkchgakaaDoor
set_option linter.unusedVariables false
set_option linter.unusedSimpArgs false
open Go.RowKit

theorem word_small {s : ByteArray} (h : wordOk s.data.toList = true) : s.size ≤ maxLen := by
  unfold wordOk at h
  rw [Bool.and_eq_true, Bool.and_eq_true, decide_eq_true_eq, decide_eq_true_eq] at h
  have := h.1.2
  rw [str_len] at this
  unfold maxLen
  omega
theorem totOne_B {t : Tot} (h : totOne t = true) : TotB t := by
  obtain ⟨h1, h2, h3⟩ := totOne_iff.1 h
  exact ⟨word_small h1, ⟨by omega, by omega⟩, by omega, by omega⟩
theorem totsOk_B {l : List Tot} (h : totsOk l = true) : TotsB l := fun t ht => totOne_B ((totsOk_iff2.1 h).2.2 t ht)
theorem store_entries {xs : List En} (h : storeOk xs = true) : xs.length ≤ 24 ∧ ∀ x ∈ xs, enOk x = true := by
  unfold storeOk at h
  rw [Bool.and_eq_true, decide_eq_true_eq, allB_and, Bool.and_eq_true, allB_len (p := enOk), List.all_eq_true] at h
  exact ⟨h.1, h.2.1⟩
set_option maxRecDepth 100000 in
set_option maxHeartbeats 8000000 in
theorem totsOfS_any (A : Option Addr) (n c : Nat) (xs : List En) (w : World) (h : Row enCells 4 w w.heap.size A n xs) (hsm : SmallEns xs) (hnb : n ≤ 400000) :
    Calls Tryd.prog 12 #[.slice A n c] w (TotsRet (totsOf xs) w) := by
  have Hl := Lib.hid h.1
  have L0 := (Live.since (Below.refl w.heap.size w)).and (Live.row h)
  have SV := Lib.hid (fun W H => storeValidS_any A n c xs W H hsm (by omega))
  have Hsm := Lib.hid hsm
  clear h hsm
  have O0 : Row totCells 3 (w.alloc (.cells #[] 29)) (w.alloc (.cells #[] 29)).heap.size (some ⟨w.heap.size, 0, none⟩) 0 (totsTo xs 0) := by rw [totsTo_zero]; exact Row.nil _ _ _
  have LL := Lib.hid ((L0.next ((Below.refl _ _).alloc (Nat.le_refl _) (.cells #[] 29))).and (Live.row O0))
  clear O0
  go_enter Tryd.func12, Tryd.ntmps12
  go_wp2_with fail
  go_loopw [3, 4] (fun v i wr => ∃ (k : Nat) (Av : Option Addr) (nv cv : Nat), k ≤ n ∧ i = .int .i64 (k : Int) ∧ v = .slice Av nv cv ∧ Hid (storeOk xs = false → k = 0) ∧ nv ≤ cv ∧ Hid (Av = none → cv = 0) ∧ Live wr fun W => (Below w.heap.size w W ∧ Row enCells 4 W W.heap.size A n xs) ∧ Row totCells 3 W W.heap.size Av nv (totsTo xs k)) (fun _ i _ => n - (intOf i).toNat)
  case atStart => exact ⟨0, _, 0, 0, Nat.zero_le _, rfl, rfl, Lib.hid (fun _ => rfl), Nat.le_refl _, Lib.hid (fun e => by cases e), LL.out⟩
  case round =>
    obtain ⟨k, Av, nv, cv, hk, rfl, rfl, Hk, hcv, Hnv, L⟩ := hrel
    by_cases hlt : k < n
    · have hlt' : (k : Int) < (n : Int) := by omega
      have SV1 := Lib.hid (SV.out _ L.now.1.2)
      cases hok : storeOk xs with
      | false =>
        obtain rfl := Hk.out hok
        have Hr := Lib.hid (totsOf_no hok)
        have Hz := Lib.hid (totsTo_zero xs)
        rw [hok] at SV1
        clear hok
        go_wp2_with (go_at_call 19; (with_reducible refine SV1.out.mono ?_); (rintro e w1 ⟨rfl, hb1⟩; have L1 := L.next hb1))
        go_ret
        rw [Hr.out, ← Hz.out]
        exact ⟨Av, nv, cv, rfl, L1.now.2, hcv, Hnv, L1.now.1.1⟩
      | true =>
        obtain ⟨h24, hen⟩ := store_entries hok
        rw [hok] at SV1
        have hxk := hen (nx xs k) (nx_mem (by rw [Hl.out]; exact hlt))
        have hTB := totsOk_B (totsTo_ok hen k (by rw [Hl.out]; exact hk) (by rw [Hl.out] at h24; omega))
        have hTs := totsTo_sorted xs k (by rw [Hl.out]; exact hk)
        have hlen := totsTo_len xs k (by rw [Hl.out]; exact hk)
        have hnv : nv ≤ 900 := by rw [← L.now.2.1]; rw [Hl.out] at h24; omega
        have hto := totOne_B (totOf_ok hxk)
        have Hsucc := Lib.hid (totsTo_succ (xs := xs) (k := k) (by rw [Hl.out]; exact hlt))
        have hnm : nameOk (nx xs k).name.data.toList = true := by unfold enOk at hxk; rw [Bool.and_eq_true] at hxk; exact hxk.1
        have hsz := (Hsm.out (nx xs k) (nx_mem (by rw [Hl.out]; exact hlt))).1
        obtain ⟨b, off, rfl, hb, hx⟩ := L.now.1.2.en_at (by omega)
        obtain ⟨c0, c1, c2, c3⟩ := hx k _ (nx_get (by rw [Hl.out]; exact hlt))
        obtain ⟨⟨name, id, kind, data⟩, he⟩ : ∃ e, nx xs k = e := ⟨_, rfl⟩
        rw [he] at c0 c1 c2 c3 hto Hsucc hnm hsz
        simp only at c0 c1 c2 c3 hnm hsz
        have OF := Lib.hid (fun W => l16Of_any name kind id data W hsz hnm)
        have PT := Lib.hid (fun W H => l16Put_any Av nv cv (totsTo xs k) (catOf name) 1 data W H hTB hto hTs hnv)
        have Hok := Lib.hid hok
        clear hen hxk hTB hTs hlen hnv hto hnm hsz he hx hok
        go_wp2_with (first
          | (go_at_call 19; (with_reducible refine SV1.out.mono ?_); (rintro e w1 ⟨rfl, hb1⟩; have L1 := L.next hb1; have e0 := (hb1.cell (p := ⟨b, off + k * 4, none⟩) hb).trans c0; have e1 := (hb1.cell (p := ⟨b, off + k * 4 + 1, none⟩) hb).trans c1; have e2 := (hb1.cell (p := ⟨b, off + k * 4 + 2, none⟩) hb).trans c2; have e3 := (hb1.cell (p := ⟨b, off + k * 4 + 3, none⟩) hb).trans c3))
          | (go_at_call 36; (with_reducible refine (OF.out _).mono ?_); (rintro e w2 ⟨rfl, hb2⟩; have L2 := L1.next hb2))
          | (go_at_call 35; (with_reducible refine (PT.out _ L2.now.2).mono ?_); (rintro e w3 ⟨A3, n3, c3', rfl, hr3, hc3, Hn3, hb3⟩; have L3 := (L2.next hb3).imp (fun W q => q.1); have L4 := L3.and (Live.row hr3))))
        go_roundw
        case rel => exact ⟨k + 1, A3, n3, c3', by omega, by go_num, rfl, Lib.hid (fun e => by cases e), hc3, Hn3, L4.imp (fun W q => ⟨q.1, by rw [Hsucc.out]; exact q.2⟩)⟩
        case measure => simp [intOf]; omega
    · obtain rfl : k = n := by omega
      have hlt' : ¬ (k : Int) < (k : Int) := by omega
      have Hr : Hid (totsOf xs = totsTo xs k) := by
        cases hok : storeOk xs with
        | false => rw [totsOf_no hok, Hk.out hok, totsTo_zero]; exact Lib.hid rfl
        | true => rw [totsOf_yes hok, Hl.out]; exact Lib.hid rfl
      go_wp2_with fail
      go_ret
      rw [Hr.out]
      exact ⟨Av, nv, cv, rfl, L.now.2, hcv, Hnv, L.now.1.1⟩
end Go.Proofs.YtlaolhhkchgakaaDoor
