/- The rows of a store: the reference's. -/
import Derived.Test.YtnfncnpnkmjjeaaDoorKSpec
namespace Go.Proofs.YtnfncnpnkmjjeaaDoor
set_option linter.unusedVariables false
set_option linter.unusedSimpArgs false
open Go.RowKit

set_option maxRecDepth 100000 in
set_option maxHeartbeats 8000000 in
theorem indexKindsS_any (A : Option Addr) (n c : Nat) (xs : List En) (w : World) (h : Row enCells 4 w w.heap.size A n xs) (hsm : SmallEns xs) (hnb : n ≤ 400000) :
    Calls Tryd.prog 14 #[.slice A n c] w (KindsRet (kindsOf xs) w) := by
  have Hl := Lib.hid h.1
  have L0 := (Live.since (Below.refl w.heap.size w)).and (Live.row h)
  have SV := Lib.hid (fun W H => storeValidS_any A n c xs W H hsm (by omega))
  clear h hsm
  have LL := Lib.hid ((L0.next ((Below.refl _ _).alloc (Nat.le_refl _) (.cells #[] 40))).and (Live.kinds (Kinds.nil _ (some ⟨w.heap.size, 0, none⟩))))
  go_enter Tryd.func14, Tryd.ntmps14
  go_wp2_with fail
  go_loopw [3, 4] (fun v i wr => ∃ (k : Nat) (Av : Option Addr) (nv cv : Nat), k ≤ n ∧ i = .int .i64 (k : Int) ∧ v = .slice Av nv cv ∧ Hid (storeOk xs = false → k = 0) ∧ nv ≤ cv ∧ Hid (Av = none → cv = 0) ∧ Live wr fun W => (Below w.heap.size w W ∧ Row enCells 4 W W.heap.size A n xs) ∧ Kinds W Av nv (kindsTo xs k)) (fun _ i _ => n - (intOf i).toNat)
  case atStart => exact ⟨0, _, 0, 0, Nat.zero_le _, rfl, rfl, Lib.hid (fun _ => rfl), Nat.le_refl _, Lib.hid (fun e => by cases e), LL.out⟩
  case round =>
    obtain ⟨k, Av, nv, cv, hk, rfl, rfl, Hk, hcv, Hnv, L⟩ := hrel
    by_cases hlt : k < n
    · have hlt' : (k : Int) < (n : Int) := by omega
      have SV1 := Lib.hid (SV.out _ L.now.1.2)
      cases hok : storeOk xs with
      | false =>
        obtain rfl := Hk.out hok
        have Hr := Lib.hid (kindsOf_no hok)
        rw [hok] at SV1
        clear hok
        go_wp2_with (go_at_call 16; (with_reducible refine SV1.out.mono ?_); (rintro e w1 ⟨rfl, hb1⟩; have L1 := L.next hb1))
        go_ret
        rw [Hr.out]
        exact ⟨Av, nv, cv, rfl, L1.now.2, hcv, Hnv, L1.now.1.1⟩
      | true =>
        have h24 : xs.length ≤ 24 := by unfold storeOk at hok; rw [Bool.and_eq_true, decide_eq_true_eq] at hok; exact hok.1
        rw [hok] at SV1
        have hTs := kindsTo_sorted xs k
        have hlen := kindsTo_len xs k
        have hnv : nv ≤ 1000 := by rw [← L.now.2.len]; rw [Hl.out] at h24; omega
        have hsb : ∀ x ∈ kindsTo xs k, x.ats.length ≤ 100000 := fun x hx => by have := len_sum hx; rw [kindsTo_sum] at this; rw [Hl.out] at h24; omega
        have Hsucc := Lib.hid (show putK (kindsTo xs k) ⟨(nx xs k).ev.kind, [k]⟩ = kindsTo xs (k + 1) from rfl)
        obtain ⟨b, off, rfl, hb, hx⟩ := L.now.1.2.en_at (by omega)
        obtain ⟨c0, c1, c2, c3⟩ := hx k _ (nx_get (by rw [Hl.out]; exact hlt))
        obtain ⟨⟨name, id, kind, data⟩, he⟩ : ∃ e, nx xs k = e := ⟨_, rfl⟩
        rw [he] at c0 c1 c2 c3 Hsucc
        simp only at c0 c1 c2 c3
        have PT := Lib.hid (fun W H => l22Add_any Av nv cv (kindsTo xs k) kind k W H hTs hnv hsb)
        have Hok := Lib.hid hok
        clear hTs hlen hnv hsb he hx hok h24
        go_wp2_with (first
          | (go_at_call 16; (with_reducible refine SV1.out.mono ?_); (rintro e w1 ⟨rfl, hb1⟩; have L1 := L.next hb1; have e2 := (hb1.cell (p := ⟨b, off + k * 4 + 2, none⟩) hb).trans c2))
          | (go_at_call 38; (with_reducible refine (PT.out _ L1.now.2).mono ?_); (rintro e w3 ⟨A3, n3, c3', rfl, hr3, hc3, Hn3, hb3⟩; have L3 := (L1.next hb3).imp (fun W q => q.1); have L4 := L3.and (Live.kinds hr3))))
        go_roundw
        case rel => exact ⟨k + 1, A3, n3, c3', by omega, by go_num, rfl, Lib.hid (fun e => by first | (cases e; done) | (rw [Hok.out] at e; cases e)), hc3, Hn3, L4.imp (fun W q => ⟨q.1, by rw [← Hsucc.out]; exact q.2⟩)⟩
        case measure => simp [intOf]; omega
    · obtain rfl : k = n := by omega
      have hlt' : ¬ (k : Int) < (k : Int) := by omega
      have Hr : Hid (kindsOf xs = kindsTo xs k) := by
        cases hok : storeOk xs with
        | false => rw [kindsOf_no hok, Hk.out hok]; exact Lib.hid rfl
        | true => rw [kindsOf_yes hok, Hl.out]; exact Lib.hid rfl
      go_wp2_with fail
      go_ret
      rw [Hr.out]
      exact ⟨Av, nv, cv, rfl, L.now.2, hcv, Hnv, L.now.1.1⟩
end Go.Proofs.YtnfncnpnkmjjeaaDoor
