/- The walk of laws.FnVersion. -/
import Derived.Test.YtihgdebfjoooeaaDoorDrawIn
import Derived.Test.YtihgdebfjoooeaaDoorPRead
namespace Go.Proofs.YtihgdebfjoooeaaDoor
open Go.RowKit

set_option maxRecDepth 100000 in
set_option maxHeartbeats 4000000 in
theorem law_FnVersion (A : Option Addr) (n c : Nat) (w : World) (h : Code w A n c) (hg : GE w) :
    Calls Tryd.prog 7 #[.slice A n c] w fun e w' => e = .returned (.bool true) ∧ Below w.heap.size w w' := by
  have hn := h.2.1
  unfold maxLen at hn
  by_cases hbig : (1048576 : Int) < n
  · go_enter Tryd.func7, Tryd.ntmps7
    go_wp2_with fail
    go_ret
    exact ⟨rfl, Below.refl _ _⟩
  have HC := Lib.hid h
  have L0 := (Live.since (Below.refl w.heap.size w)).and (Live.ge hg)
  clear h hg
  go_enter Tryd.func7, Tryd.ntmps7
  go_wp2_with fail
  refine (drawStoreVersion_any A n c _ HC.out).mono ?_
  rintro e w1 ⟨Ax, k, cx, xs, s, rfl, hrow, HB, hk, hkc, Hnil, hs, hb1⟩
  have L1 := (L0.next hb1).and (Live.row hrow)
  have Hsm := Lib.hid (EnB.small HB.out)
  have hs' : s.size ≤ maxLen := small60 hs
  have Hl := Lib.hid hrow.1
  clear hrow hb1 L0
  go_wp2_with fail
  refine (storeVersion_any Ax k cx xs s _ L1.now.2 Hsm.out hs' (by omega) L1.now.1.2).mono ?_
  rintro e w2 ⟨rfl, hb2⟩
  have L2 := L1.next hb2
  clear hb2 L1
  go_wp2_with fail
  refine (storeVersionS_any Ax k cx xs s _ L2.now.2 Hsm.out hs' (by omega)).mono ?_
  rintro e w3 ⟨rfl, hb3⟩
  have L3 := L2.next hb3
  clear hb3 L2
  have hv := @storeRead_ver xs s
  obtain ⟨x, hx⟩ : ∃ x, x = storeVersion xs s := ⟨_, rfl⟩
  rw [← hx] at hv ⊢
  clear hx
  by_cases hneg : x < 0
  · clear hv
    go_wp2_with fail
    go_ret
    exact ⟨rfl, L3.now.1.1⟩
  · obtain ⟨v1, v2, v3⟩ := hv (by omega)
    obtain ⟨l, hl⟩ : ∃ l, l = (streamOf xs s).length := ⟨_, rfl⟩
    rw [← hl] at v2 v3
    obtain rfl : x = (l : Int) - 1 := by omega
    have R1 := Lib.hid (fun W H G => storeRead_any Ax k cx xs s ((l : Int) - 1) 99 W H Hsm.out hs' (by omega) G)
    have R2 := Lib.hid (fun W H G => storeRead_any Ax k cx xs s 0 99 W H Hsm.out hs' (by omega) G)
    have hl1 : 1 ≤ l := by omega
    have hl2 : l ≤ 30 := by have := streamOf_len xs s; rw [← hl, Hl.out] at this; omega
    clear v3 hl
    have V1 := Lib.hid v1
    have V2 := Lib.hid v2
    clear v1 v2
    go_wp2_with fail
    refine (R1.out _ L3.now.2 L3.now.1.2).mono ?_
    rintro e w4 ⟨A4, n4, c4, rfl, hr4, hc4, Hn4, hb4⟩
    obtain rfl : n4 = 1 := by rw [← hr4.1]; exact V1.out
    have L4 := L3.next hb4
    clear hr4 hb4
    go_wp2_with fail
    refine (R2.out _ L4.now.2 L4.now.1.2).mono ?_
    rintro e w5 ⟨A5, n5, c5, rfl, hr5, hc5, Hn5, hb5⟩
    obtain rfl : n5 = l := by rw [← hr5.1]; exact V2.out
    have L5 := L4.next hb5
    clear hr5 hb5
    go_wp2_with fail
    go_ret
    exact ⟨rfl, L5.now.1.1⟩
end Go.Proofs.YtihgdebfjoooeaaDoor
