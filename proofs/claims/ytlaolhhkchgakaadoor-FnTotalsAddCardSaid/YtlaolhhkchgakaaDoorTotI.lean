/- The totals of a store, totals joined, an entry added, a total found: the program's; an entry added: the reference's. -/
import Derived.Test.YtlaolhhkchgakaaDoorTotJ
import Derived.Test.YtlaolhhkchgakaaDoorTotS
namespace Go.Proofs.YtlaolhhkchgakaaDoor
set_option linter.unusedVariables false
set_option linter.unusedSimpArgs false
open Go.RowKit

theorem one_row {W : World} {t : Tot} : Row totCells 3 (W.alloc (.cells #[.string t.cat, .int .i64 t.many, .int .i64 t.sum] 29)) (W.alloc (.cells #[.string t.cat, .int .i64 t.many, .int .i64 t.sum] 29)).heap.size (some ⟨W.heap.size, 0, none⟩) 1 [t] := by
  refine ⟨rfl, rfl, fun _ => ⟨W.heap.size, 0, rfl, by simp, fun j hj => ?_⟩⟩
  have hj3 : j < 3 := by simpa [totCells] using hj
  have B := Blk.new W 29 #[.string t.cat, .int .i64 t.many, .int .i64 t.sum]
  have hc := B.cell (0 + j)
  rw [hc]
  obtain rfl | rfl | rfl : j = 0 ∨ j = 1 ∨ j = 2 := by omega
  all_goals rfl
set_option maxRecDepth 100000 in
set_option maxHeartbeats 8000000 in
theorem totsOf_any (A : Option Addr) (n c : Nat) (xs : List En) (w : World) (h : Row enCells 4 w w.heap.size A n xs) (hsm : SmallEns xs) (hnb : n ≤ 400000) (hg : GE w) :
    Calls Tryd.prog 11 #[.slice A n c] w (TotsRet (totsOf xs) w) := by
  have Hl := Lib.hid h.1
  have L0 := ((Live.since (Below.refl w.heap.size w)).and (Live.row h)).and (Live.ge hg)
  have SV := Lib.hid (fun W H G => storeValid_any A n c xs W H hsm (by omega) G)
  have Hsm := Lib.hid hsm
  clear h hsm hg
  have O0 : Row totCells 3 (w.alloc (.cells #[] 29)) (w.alloc (.cells #[] 29)).heap.size (some ⟨w.heap.size, 0, none⟩) 0 (totsTo xs 0) := by rw [totsTo_zero]; exact Row.nil _ _ _
  have LL := Lib.hid ((L0.next ((Below.refl _ _).alloc (Nat.le_refl _) (.cells #[] 29))).and (Live.row O0))
  have SV1 := Lib.hid (SV.out _ LL.out.now.1.1.2 LL.out.now.1.2)
  clear O0
  cases hok : storeOk xs with
  | false =>
    rw [hok] at SV1
    have Hr := Lib.hid (totsOf_no hok)
    have Hz := Lib.hid (totsTo_zero xs)
    go_enter Tryd.func11, Tryd.ntmps11
    go_wp2_with (go_at_call 32; (with_reducible refine SV1.out.mono ?_); (rintro e w1 ⟨rfl, hb1⟩; have L1 := LL.out.next hb1))
    go_ret
    rw [Hr.out, ← Hz.out]
    exact ⟨_, 0, 0, rfl, L1.now.2, Nat.le_refl _, Lib.hid (fun e => by cases e), L1.now.1.1.1⟩
  | true =>
    rw [hok] at SV1
    obtain ⟨h24, hen⟩ := store_entries hok
    have H24 := Lib.hid h24
    have Hen := Lib.hid hen
    have Hok := Lib.hid hok
    clear h24 hen hok
    go_enter Tryd.func11, Tryd.ntmps11
    go_wp2_with (go_at_call 32; (with_reducible refine SV1.out.mono ?_); (rintro e w1 ⟨rfl, hb1⟩; have L1 := LL.out.next hb1))
    go_loopw [3, 13] (fun v i wr => ∃ (k : Nat) (Av : Option Addr) (nv cv : Nat), k ≤ n ∧ i = .int .i64 (k : Int) ∧ v = .slice Av nv cv ∧ nv ≤ cv ∧ Hid (Av = none → cv = 0) ∧ Live wr fun W => ((Below w.heap.size w W ∧ Row enCells 4 W W.heap.size A n xs) ∧ GE W) ∧ Row totCells 3 W W.heap.size Av nv (totsTo xs k)) (fun _ i _ => n - (intOf i).toNat)
    case atStart => exact ⟨0, _, 0, 0, Nat.zero_le _, rfl, rfl, Nat.le_refl _, Lib.hid (fun e => by cases e), L1⟩
    case round =>
      obtain ⟨k, Av, nv, cv, hk, rfl, rfl, hcv, Hnv, L⟩ := hrel
      by_cases hlt : k < n
      · have hlt' : (k : Int) < (n : Int) := by omega
        have hen := Hen.out
        have h24 := H24.out
        have hxk := hen (nx xs k) (nx_mem (by rw [Hl.out]; exact hlt))
        have hTB := totsOk_B (totsTo_ok hen k (by rw [Hl.out]; exact hk) (by rw [Hl.out] at h24; omega))
        have hlen := totsTo_len xs k (by rw [Hl.out]; exact hk)
        have hnv : nv ≤ 900 := by rw [← L.now.2.1]; rw [Hl.out] at h24; omega
        have hto := totOne_B (totOf_ok hxk)
        have Hsucc := Lib.hid (totsTo_succ (xs := xs) (k := k) (by rw [Hl.out]; exact hlt))
        have hsz := (Hsm.out (nx xs k) (nx_mem (by rw [Hl.out]; exact hlt))).1
        obtain ⟨b, off, rfl, hb, hx⟩ := L.now.1.1.2.en_at (by omega)
        obtain ⟨c0, c1, c2, c3⟩ := hx k _ (nx_get (by rw [Hl.out]; exact hlt))
        obtain ⟨⟨name, id, kind, data⟩, he⟩ : ∃ e, nx xs k = e := ⟨_, rfl⟩
        rw [he] at c0 c1 c2 c3 hto Hsucc hsz
        simp only at c0 c1 c2 c3 hsz
        have LB := L.next ((Below.refl _ _).alloc (Nat.le_refl _) (.cells #[.string name, .int .i64 id, .string kind, .int .i64 data] 35))
        have OF := Lib.hid (totalOf_any name kind id data _ hsz LB.now.1.2)
        have JT := Lib.hid (fun W B' H H' => totalsJoined_any Av B' nv cv 1 (totsTo xs k) ⟨catOf name, 1, data⟩ W H H' hTB hto hnv hcv Hnv.out (Nat.le_refl _))
        clear hen hxk hTB hlen hnv hto hsz he hx
        go_wp2_with (first
          | (go_at_call 34; (with_reducible refine OF.out.mono ?_); (rintro e w2 ⟨rfl, hb2⟩; have L2 := (LB.next hb2).next ((Below.refl _ _).alloc (Nat.le_refl _) (.cells #[.string (catOf name), .int .i64 1, .int .i64 data] 29)); have R2 := Lib.hid (@one_row w2 ⟨catOf name, 1, data⟩)))
          | (go_at_call 33; (with_reducible refine (JT.out _ _ L2.now.2 R2.out).mono ?_); (rintro e w3 ⟨A3, n3, c3', rfl, hr3, hc3, Hn3, hb3⟩; have L3 := (L2.next hb3).imp (fun W q => q.1); have L4 := L3.and (Live.row hr3))))
        go_roundw
        case rel => exact ⟨k + 1, A3, n3, c3', by omega, by go_num, rfl, hc3, Hn3, L4.imp (fun W q => ⟨q.1, by rw [Hsucc.out]; exact q.2⟩)⟩
        case measure => simp [intOf]; omega
      · obtain rfl : k = n := by omega
        have hlt' : ¬ (k : Int) < (k : Int) := by omega
        have Hr : Hid (totsOf xs = totsTo xs k) := Lib.hid (by rw [totsOf_yes Hok.out, Hl.out])
        go_wp2_with fail
        go_ret
        rw [Hr.out]
        exact ⟨Av, nv, cv, rfl, L.now.2, hcv, Hnv, L.now.1.1.1⟩
end Go.Proofs.YtlaolhhkchgakaaDoor
