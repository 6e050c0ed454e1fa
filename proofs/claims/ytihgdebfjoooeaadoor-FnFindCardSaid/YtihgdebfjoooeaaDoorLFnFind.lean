/- The walk of laws.FnFind. -/
import Derived.Test.YtihgdebfjoooeaaDoorDrawRd
import Derived.Test.YtihgdebfjoooeaaDoorFind
import Derived.Test.YtihgdebfjoooeaaDoorReads2
namespace Go.Proofs.YtihgdebfjoooeaaDoor
open Go.RowKit

theorem pieceL_one {α : Type} [Inhabited α] {l : List α} {k : Nat} (h : k < l.length) : pieceL l k 1 = [nx l k] := by
  unfold pieceL
  rw [List.drop_eq_getElem_cons h, List.take_succ_cons, List.take_zero, nx_eq h]
theorem find_pos {xs : List En} {s : ByteArray} {id : Int} (h : 0 ≤ storeFind xs s id) :
    ∃ k : Nat, storeFind xs s id = k ∧ storeRead xs s k 1 = [nx (streamOf xs s) k] ∧ (nx (streamOf xs s) k).id = id ∧ (k : Int) ≤ storeVersion xs s ∧ k ≤ 24 := by
  cases h1 : storeOk xs with
  | false => rw [storeFind_no h1] at h; exact absurd h (by decide)
  | true =>
    rw [storeFind_yes h1] at h ⊢
    obtain ⟨k, hk, e1, e2⟩ := findAt_pos h
    have hl := stream_24 (s := s) h1
    have hn : nameOk s.data.toList = true := by
      have h3 := (storeOk_iff.1 h1).2.1 _ (streamOf_mem.1 (nx_mem hk))
      unfold enOk at h3
      exact (Bool.and_eq_true_iff.1 h3).1
    refine ⟨k, e1, ?_, e2, ?_, by omega⟩
    · rw [storeRead_yes h1 hn (rdOk_iff.2 (by omega)), Int.toNat_natCast]
      exact pieceL_one hk
    · rw [storeVersion_yes h1 hn]; omega

set_option maxRecDepth 100000 in
set_option maxHeartbeats 4000000 in
theorem law_FnFind (A : Option Addr) (n c : Nat) (w : World) (h : Code w A n c) (hg : GE w) :
    Calls Tryd.prog 12 #[.slice A n c] w fun e w' => e = .returned (.bool true) ∧ Below w.heap.size w w' := by
  have hn := h.2.1
  unfold maxLen at hn
  by_cases hbig : (1048576 : Int) < n
  · go_enter Tryd.func12, Tryd.ntmps12
    go_wp2_with fail
    go_ret
    exact ⟨rfl, Below.refl _ _⟩
  have HC := Lib.hid h
  have L0 := (Live.since (Below.refl w.heap.size w)).and (Live.ge hg)
  clear h hg
  go_enter Tryd.func12, Tryd.ntmps12
  go_wp2_with fail
  refine (drawStoreFind_any A n c _ HC.out).mono ?_
  rintro e w1 ⟨Ax, k, cx, xs, s, id, rfl, hrow, HB, hk, hkc, Hnil, hs, hi1, hi2, hb1⟩
  have L1 := (L0.next hb1).and (Live.row hrow)
  have Hsm := Lib.hid (EnB.small HB.out)
  have hs' : s.size ≤ maxLen := small60 hs
  clear hrow hb1 L0
  go_wp2_with fail
  refine (storeFind_any Ax k cx xs s id _ L1.now.2 Hsm.out hs' (by omega) L1.now.1.2).mono ?_
  rintro e w2 ⟨rfl, hb2⟩
  have L2 := L1.next hb2
  clear hb2 L1
  go_wp2_with fail
  refine (storeFindS_any Ax k cx xs s id _ L2.now.2 Hsm.out (by omega)).mono ?_
  rintro e w3 ⟨rfl, hb3⟩
  have L3 := L2.next hb3
  clear hb3 L2
  have hv := @find_pos xs s id
  obtain ⟨x, hx⟩ : ∃ x, x = storeFind xs s id := ⟨_, rfl⟩
  rw [← hx] at hv ⊢
  clear hx
  by_cases hneg : x < 0
  · clear hv
    go_wp2_with fail
    go_ret
    exact ⟨rfl, L3.now.1.1⟩
  · obtain ⟨q, rfl, hq1, hq2, hq3, hq4⟩ := hv (by omega)
    have RD := Lib.hid (fun W H G => storeRead_any Ax k cx xs s (q : Int) 1 W H Hsm.out hs' (by omega) G)
    have SV := Lib.hid (fun W H G => storeVersion_any Ax k cx xs s W H Hsm.out hs' (by omega) G)
    rw [hq1] at RD
    obtain ⟨v, hv⟩ : ∃ v, storeVersion xs s = v := ⟨_, rfl⟩
    rw [hv] at SV hq3
    obtain ⟨⟨i, kind, data⟩, he⟩ : ∃ e, nx (streamOf xs s) q = e := ⟨_, rfl⟩
    rw [he] at RD hq2
    simp only at hq2
    subst hq2
    have hge : (v ≥ (q : Int)) := hq3
    clear hq1 hv he
    go_wp2_with fail
    refine (RD.out _ L3.now.2 L3.now.1.2).mono ?_
    rintro e w4 ⟨A4, n4, c4, rfl, hr4, hc4, Hn4, hb4⟩
    obtain rfl : n4 = 1 := by rw [← hr4.1]; rfl
    have L4 := L3.next hb4
    obtain ⟨b, off, rfl, hb, hxx⟩ := hr4.at_ evCells_len (by omega)
    have c0 : w4.cell? ⟨b, off, none⟩ = some (.int .i64 i) := hxx 0 _ rfl 0 _ rfl
    clear hr4 hb4 hxx
    go_wp2_with (go_at_call 27; refine (SV.out _ L4.now.2 L4.now.1.2).mono ?_; rintro e w5 ⟨rfl, hb5⟩)
    go_ret
    exact ⟨by simp, (L4.next hb5).now.1.1⟩
end Go.Proofs.YtihgdebfjoooeaaDoor
