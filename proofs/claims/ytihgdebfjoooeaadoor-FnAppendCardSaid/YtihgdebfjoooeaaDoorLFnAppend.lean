/- The walk of laws.FnAppend. -/
import Derived.Test.YtihgdebfjoooeaaDoorDrawWd
import Derived.Test.YtihgdebfjoooeaaDoorAppS
import Derived.Test.YtihgdebfjoooeaaDoorSameEn
namespace Go.Proofs.YtihgdebfjoooeaaDoor
set_option linter.unusedVariables false
set_option linter.unusedSimpArgs false
open Go.RowKit

theorem Row.first {α : Type} {f : α → List Value} {size : Nat} {w : World} {B n : Nat} {A : Option Addr} {l : List α} (hf : ∀ x, (f x).length = size) (h : Row f size w B A n l) (hi : Nat) (h2 : hi ≤ n) : Row f size w B A hi (l.take hi) := by
  have hm : hi * size ≤ n * size := Nat.mul_le_mul_right _ h2
  refine ⟨by rw [List.length_take, h.1]; omega, ?_⟩
  rw [flat_take hf]
  refine ⟨by rw [List.length_take, h.2.1]; omega, fun hp => ?_⟩
  obtain ⟨b, off, e, hb, hx⟩ := h.2.2 (by omega)
  refine ⟨b, off, e, hb, fun j hj => ?_⟩
  rw [List.length_take] at hj
  rw [hx j (by omega), List.getElem_take]
theorem longer_take (xs : List En) (s : ByteArray) (es : List Ev) : (longer xs s es).take xs.length = xs := by unfold longer; exact List.take_left
theorem longer_get (xs : List En) (s : ByteArray) (es : List Ev) (q : Nat) (h : q < es.length) : (longer xs s es)[xs.length + q]? = some ⟨s, nx es q⟩ := by
  unfold longer
  rw [List.getElem?_append_right (by omega), Nat.add_sub_cancel_left, List.getElem?_map, nx_get h]; rfl
set_option maxRecDepth 100000 in
set_option maxHeartbeats 8000000 in
theorem law_FnAppend (A : Option Addr) (n c : Nat) (w : World) (h : Code w A n c) (hg : GE w) :
    Calls Tryd.prog 13 #[.slice A n c] w fun e w' => e = .returned (.bool true) ∧ Below w.heap.size w w' := by
  have hn := h.2.1
  unfold maxLen at hn
  by_cases hbig : (1048576 : Int) < n
  · go_enter Tryd.func13, Tryd.ntmps13
    go_wp2_with fail
    go_ret
    exact ⟨rfl, Below.refl _ _⟩
  have HC := Lib.hid h
  have L0 := (Live.since (Below.refl w.heap.size w)).and (Live.ge hg)
  clear h hg
  go_enter Tryd.func13, Tryd.ntmps13
  go_wp2_with fail
  refine (drawStoreAppend_any A n c _ HC.out).mono ?_
  rintro e w1 ⟨Ax, k, cx, xs, s, x, Ae, m, ce, es, rfl, hrow, hrow', HB, HE, hk, hm, hkc, hmc, Hnil, Hnil', hs, hx1, hx2, hb1⟩
  have L1 := ((L0.next hb1).and (Live.row hrow)).and (Live.row hrow')
  have Hsm := Lib.hid (EnB.small HB.out)
  have Hse : Hid (∀ e ∈ es, e.kind.size ≤ maxLen) := Lib.hid fun e he => small60 (HE.out e he).1
  have hs' : s.size ≤ maxLen := small60 hs
  have Hl := Lib.hid hrow.1
  have Hm := Lib.hid hrow'.1
  clear hrow hrow' hb1 L0
  have F1 := Lib.hid (fun W H H' G => storeAppend_any Ax k cx xs s x Ae m ce es W H H' Hsm.out Hse.out hs' (by omega) hmc (by omega) Hnil.out (by omega) (by omega) G)
  have F2 := Lib.hid (fun W H H' => storeAppendS_any Ax k cx xs s x Ae m ce es W H H' Hsm.out Hse.out hs' (by omega) hmc (by omega) Hnil.out (by omega) (by omega))
  obtain ⟨p, hp⟩ : ∃ p, storeAppend xs s x es = p := ⟨_, rfl⟩
  have hpl : p.1.length ≤ 60 := by rw [← hp]; have := storeAppend_len xs s x es; have := Hl.out; have := Hm.out; omega
  rw [hp] at F1 F2
  have Hp := Lib.hid hp
  obtain ⟨ys, cd⟩ := p
  clear hp
  go_wp2_with fail
  refine (F1.out _ L1.now.1.2 L1.now.2 L1.now.1.1.2).mono ?_
  rintro e w2 ⟨A2, l, c2, rfl, hr2, hc2, Hn2, hb2⟩
  simp only at hr2 hpl
  have L2 := (L1.next hb2).and (Live.row hr2)
  have Hl2 := Lib.hid hr2.1
  have hl60 : l ≤ 60 := by rw [← hr2.1]; exact hpl
  clear hb2 hr2 L1
  go_wp2_with fail
  refine (F2.out _ L2.now.1.1.2 L2.now.1.2).mono ?_
  rintro e w3 ⟨A3, l3, c3, rfl, hr3, hc3, Hn3, hb3⟩
  simp only at hr3
  obtain rfl : l3 = l := by rw [← hr3.1, Hl2.out]
  have L3 := (L2.next hb3).and (Live.row hr3)
  clear hb3 hr3 L2
  have S3 := Lib.hid (fun W H H' => sameEntries_any A2 A3 l3 c2 l3 c3 ys ys W H H' (by omega) (by omega))
  rw [sameL_refl] at S3
  go_wp2_with fail
  with_reducible refine (S3.out _ L3.now.1.2 L3.now.2).mono ?_
  rintro e w4 ⟨rfl, hb4⟩
  have L4 := L3.next hb4
  clear hb4 L3 F1 F2
  by_cases hcd : cd = 0
  rotate_left
  · have hcd' : (cd == 0) = false := beq_eq_false_iff_ne.2 hcd
    have hcd2 : (cd != 0) = true := by rw [bne, hcd']; rfl
    clear hcd
    go_wp2_with fail
    with_reducible refine (S3.out _ L4.now.1.2 L4.now.2).mono ?_
    rintro e w5 ⟨rfl, hb5⟩
    go_wp2_with fail
    go_ret
    exact ⟨rfl, (L4.next hb5).now.1.1.1.1.1⟩
  subst hcd
  have h0 : (storeAppend xs s x es).2 = 0 := by rw [Hp.out]
  obtain ⟨h1, h2, h3, h4⟩ := storeAppend_0 h0
  rw [Hp.out] at h4
  obtain rfl : ys = longer xs s es := (Prod.mk.inj h4).1
  have Hsml : Hid (SmallEns (longer xs s es)) := Lib.hid fun y hy => by
    rcases List.mem_append.1 hy with h1 | h1
    · exact Hsm.out y h1
    · obtain ⟨e, he, rfl⟩ := List.mem_map.1 h1; exact ⟨hs', Hse.out e he⟩
  have hlm : l3 = k + m := by rw [← Hl2.out, longer_len, Hl.out, Hm.out]
  have Htk : Hid ((longer xs s es).take k = xs) := Lib.hid (by rw [← Hl.out]; exact longer_take xs s es)
  have Hget : Hid (∀ q, q < m → (longer xs s es)[k + q]? = some ⟨s, nx es q⟩) := Lib.hid fun q hq => by rw [← Hl.out]; exact longer_get xs s es q (by rw [Hm.out]; exact hq)
  have SV := Lib.hid (fun W H G => storeValid_any A2 l3 c2 (longer xs s es) W H Hsml.out (by omega) G)
  rw [h3] at SV
  have S5 := Lib.hid (fun W H H' => sameEntries_any A2 Ax k c2 k cx xs xs W H H' (by omega) (by omega))
  rw [sameL_refl] at S5
  have hkc2 : k ≤ c2 := by omega
  have LL := L4.imp fun W q => (⟨⟨⟨⟨q.1.1.1.1.1, q.1.1.1.1.2⟩, q.1.1.1.2⟩, q.1.2⟩, q.1.1.2⟩ : (((Below w.heap.size w W ∧ GE W) ∧ Row enCells 4 W W.heap.size Ax k xs) ∧ Row enCells 4 W W.heap.size A2 l3 (longer xs s es)) ∧ Row evCells 3 W W.heap.size Ae m es)
  clear h0 h1 h2 h3 h4 L4 S3
  subst hlm
  go_wp2_with fail
  go_loopw [12] (fun i wr => ∃ q : Nat, q ≤ m ∧ i = .int .i64 q ∧ Live wr fun W => (((Below w.heap.size w W ∧ GE W) ∧ Row enCells 4 W W.heap.size Ax k xs) ∧ Row enCells 4 W W.heap.size A2 (k + m) (longer xs s es)) ∧ Row evCells 3 W W.heap.size Ae m es) (fun i _ => m - (intOf i).toNat)
  case atStart => exact ⟨0, Nat.zero_le _, rfl, LL⟩
  case round =>
    obtain ⟨q, hq, rfl, L⟩ := hrel
    by_cases hqm : q < m
    · have hqm' : (q : Int) < (m : Int) := by omega
      obtain ⟨b, off, rfl, hb, hx⟩ := L.now.1.2.en_at (by omega)
      obtain ⟨b', off', rfl, hb', hx'⟩ := L.now.2.ev_at (by omega)
      have hs1 := Hget.out q hqm
      have ht1 : es[q]? = some (nx es q) := nx_get (by rw [Hm.out]; exact hqm)
      obtain ⟨⟨i2, k2, d2⟩, he2⟩ : ∃ e, nx es q = e := ⟨_, rfl⟩
      rw [he2] at hs1 ht1
      obtain ⟨c0, c1, c2', c3⟩ := hx (k + q) _ hs1
      obtain ⟨f0, f1, f2⟩ := hx' q _ ht1
      have t0 : (k : Int) + (q : Int) = ((k + q : Nat) : Int) := by omega
      have t1 : IntKind.i64.wrap ((k : Int) + (q : Int)) = (k : Int) + (q : Int) := IntWalk.i64_in _ (by omega)
      have t2 : (0 : Int) ≤ (k : Int) + (q : Int) := by omega
      have t3 : ((k : Int) + (q : Int)).toNat = k + q := by omega
      have t4 : ¬ ((k : Int) + (q : Int) ≥ ((k + m : Nat) : Int)) := by omega
      have t5 : (k : Int) + (q : Int) < ((k + m : Nat) : Int) := by omega
      clear hs1 ht1 hx hx' he2 t0
      go_wp2_with fail
      go_quiet (fail)
      go_wp2_with fail
      go_roundw
      case rel => exact ⟨q + 1, by omega, by go_num, L.next (below_drew_n (Below.refl _ _) _)⟩
      case measure => simp [intOf]; omega
    · obtain rfl : q = m := by omega
      have hqm' : ¬ (q : Int) < (q : Int) := by omega
      go_wp2_with (first
        | (go_at_call 20; refine (SV.out _ L.now.1.2 L.now.1.1.1.2).mono ?_; rintro e w5 ⟨rfl, hb5⟩; have L5 := L.next hb5)
        | (go_at_call 18; with_reducible refine (S5.out _ (by have := L5.now.1.2.first enCells_len k (by omega); rwa [Htk.out] at this) L5.now.1.1.2).mono ?_; rintro e w7 ⟨rfl, hb7⟩))
      go_ret
      exact ⟨by simp, (L5.next hb7).now.1.1.1.1⟩
end Go.Proofs.YtihgdebfjoooeaaDoor
