/- The walk of laws.FnFindNone. -/
import Derived.Test.YtihgdebfjoooeaaDoorDrawRd
import Derived.Test.YtihgdebfjoooeaaDoorFind
import Derived.Test.YtihgdebfjoooeaaDoorReads2
namespace Go.Proofs.YtihgdebfjoooeaaDoor
open Go.RowKit

def anyId (xs : List En) (s : ByteArray) (id : Int) : Bool := xs.any fun x => decide (x.name = s) && decide (x.ev.id = id)
theorem anyId_snoc (xs : List En) (s : ByteArray) (id : Int) (q : Nat) (h : q < xs.length) : anyId (xs.take (q + 1)) s id = (anyId (xs.take q) s id || (decide ((nx xs q).name = s) && decide ((nx xs q).ev.id = id))) := by
  unfold anyId
  rw [take_nx h, List.any_append, List.any_cons, List.any_nil, Bool.or_false]
theorem find_any {xs : List En} {s : ByteArray} {id : Int} (h : storeOk xs = true) : (storeFind xs s id == -1) = !anyId xs s id := by
  rw [storeFind_yes h, Bool.eq_iff_iff, beq_iff_eq, findAt_neg, Bool.not_eq_true']
  unfold anyId
  rw [List.any_eq_false]
  constructor
  · rintro h1 ⟨n, e⟩ hx h2
    rw [Bool.and_eq_true, decide_eq_true_eq, decide_eq_true_eq] at h2
    simp only at h2
    obtain ⟨rfl, h3⟩ := h2
    exact h1 e (streamOf_mem.2 hx) h3
  · intro h1 e he h2
    refine h1 _ (streamOf_mem.1 he) ?_
    rw [Bool.and_eq_true, decide_eq_true_eq, decide_eq_true_eq]
    exact ⟨rfl, h2⟩

set_option maxRecDepth 100000 in
set_option maxHeartbeats 4000000 in
theorem law_FnFindNone (A : Option Addr) (n c : Nat) (w : World) (h : Code w A n c) (hg : GE w) :
    Calls Tryd.prog 11 #[.slice A n c] w fun e w' => e = .returned (.bool true) ∧ Below w.heap.size w w' := by
  have hn := h.2.1
  unfold maxLen at hn
  by_cases hbig : (1048576 : Int) < n
  · go_enter Tryd.func11, Tryd.ntmps11
    go_wp2_with fail
    go_ret
    exact ⟨rfl, Below.refl _ _⟩
  have HC := Lib.hid h
  have L0 := (Live.since (Below.refl w.heap.size w)).and (Live.ge hg)
  clear h hg
  go_enter Tryd.func11, Tryd.ntmps11
  go_wp2_with fail
  refine (drawStoreFind_any A n c _ HC.out).mono ?_
  rintro e w1 ⟨Ax, k, cx, xs, s, id, rfl, hrow, HB, hk, hkc, Hnil, hs, hi1, hi2, hb1⟩
  have L1 := (L0.next hb1).and (Live.row hrow)
  have Hl := Lib.hid hrow.1
  have Hsm := Lib.hid (EnB.small HB.out)
  have hs' : s.size ≤ maxLen := small60 hs
  clear hrow hb1 L0
  go_wp2_with fail
  refine (storeFind_any Ax k cx xs s id _ L1.now.2 Hsm.out hs' (by omega) L1.now.1.2).mono ?_
  rintro e w2 ⟨rfl, hb2⟩
  have L2 := L1.next hb2
  clear hb2 L1
  go_wp2_with fail
  refine (storeFindS_any Ax k cx xs s id _ L2.now.2 Hsm.out (by omega)).mono ?_
  rintro e w3 ⟨rfl, hb3⟩
  have L3 := L2.next hb3
  clear hb3 L2
  have hfa := @find_any xs s id
  obtain ⟨x, hx⟩ : ∃ x, x = storeFind xs s id := ⟨_, rfl⟩
  rw [← hx] at hfa ⊢
  clear hx
  have V := Lib.hid (fun W H => storeValidS_any Ax k cx xs W H Hsm.out (by omega))
  cases hok : storeOk xs with
  | false =>
    rw [hok] at V
    clear hfa
    go_wp2_with (go_at_call 21; refine (V.out _ L3.now.2).mono ?_; rintro e w4 ⟨rfl, hb4⟩; have L4 := L3.next hb4)
    go_ret
    exact ⟨rfl, L4.now.1.1⟩
  | true =>
    rw [hok] at V
    have Hfa := Lib.hid (hfa hok)
    clear hfa
    cases hno : nameOk s.data.toList with
    | false =>
      go_wp2_with (first
        | (go_at_call 21; refine (V.out _ L3.now.2).mono ?_; rintro e w4 ⟨rfl, hb4⟩; have L4 := L3.next hb4)
        | (go_at_call 37; refine (nameValidS_any _ _ hs').mono ?_; rw [hno]; rintro e w5 ⟨rfl, hb5⟩; have L5 := L4.next hb5))
      go_ret
      exact ⟨rfl, L5.now.1.1⟩
    | true =>
      go_wp2_with (first
        | (go_at_call 21; refine (V.out _ L3.now.2).mono ?_; rintro e w4 ⟨rfl, hb4⟩; have L4 := L3.next hb4)
        | (go_at_call 37; refine (nameValidS_any _ _ hs').mono ?_; rw [hno]; rintro e w5 ⟨rfl, hb5⟩; have L5 := L4.next hb5))
      go_loopw [8, 9] (fun u i wr => ∃ (q : Nat) (b : Bool), q ≤ k ∧ u = .bool b ∧ i = .int .i64 q ∧ Hid (anyId (xs.take q) s id = b) ∧ Live wr fun W => (Below w.heap.size w W ∧ GE W) ∧ Row enCells 4 W W.heap.size Ax k xs) (fun _ i _ => k - (intOf i).toNat)
      case atStart => exact ⟨0, false, Nat.zero_le _, rfl, rfl, Lib.hid rfl, L5⟩
      case round =>
        obtain ⟨q, b, hq, rfl, rfl, Hb, L⟩ := hrel
        by_cases hqk : q < k
        · have hqk' : (q : Int) < (k : Int) := by omega
          have hst := anyId_snoc xs s id q (by rw [Hl.out]; exact hqk)
          rw [Hb.out] at hst
          cases b with
          | true =>
            have Hst := Lib.hid (hst.trans (Bool.true_or _))
            clear hst
            go_wp2_with fail
            go_roundw
            case rel => exact ⟨q + 1, true, by omega, rfl, by go_num, Hst, L⟩
            case measure => simp [intOf]; omega
          | false =>
            rw [Bool.false_or] at hst
            obtain ⟨b0, off, rfl, hb0, hx⟩ := L.now.2.at_ enCells_len (by omega)
            have hke : xs[q]? = some (nx xs q) := nx_get (by rw [Hl.out]; exact hqk)
            obtain ⟨⟨name, i, kind, data⟩, he⟩ : ∃ e, nx xs q = e := ⟨_, rfl⟩
            rw [he] at hke hst
            have c0 : wr.cell? ⟨b0, off + q * 4, none⟩ = some (.string name) := hx _ _ hke 0 _ rfl
            have c1 : wr.cell? ⟨b0, off + q * 4 + 1, none⟩ = some (.int .i64 i) := hx _ _ hke 1 _ rfl
            clear hke he hx
            simp only at hst
            by_cases hns : name = s
            · subst hns
              have e1 : (name.toList == name.toList) = true := beq_self_eq_true _
              rw [decide_eq_true rfl, Bool.true_and] at hst
              by_cases hid : i = id
              · subst hid
                have Hst := Lib.hid (hst.trans (decide_eq_true rfl))
                clear hst
                go_wp2_with fail
                go_roundw
                case rel => exact ⟨q + 1, true, by omega, rfl, by go_num, Hst, L⟩
                case measure => simp [intOf]; omega
              · have e2 : (i == id) = false := beq_eq_false_iff_ne.2 hid
                have Hst := Lib.hid (hst.trans (decide_eq_false hid))
                clear hst hid
                go_wp2_with fail
                go_roundw
                case rel => exact ⟨q + 1, false, by omega, rfl, by go_num, Hst, L⟩
                case measure => simp [intOf]; omega
            · have e1 : (name.toList == s.toList) = false := toList_ne hns
              rw [decide_eq_false hns, Bool.false_and] at hst
              have Hst := Lib.hid hst
              clear hst hns
              go_wp2_with fail
              go_roundw
              case rel => exact ⟨q + 1, false, by omega, rfl, by go_num, Hst, L⟩
              case measure => simp [intOf]; omega
        · obtain rfl : q = k := by omega
          have hqk' : ¬ (q : Int) < (q : Int) := by omega
          have ht := Lib.hid (show xs.take q = xs by rw [← Hl.out]; exact List.take_length)
          have hfin : (x == -1) = !b := by rw [Hfa.out, ← Hb.out, ht.out]
          clear Hfa
          cases b with
          | true =>
            go_wp2_with fail
            go_ret
            exact ⟨by simp_all, L.now.1.1⟩
          | false =>
            go_wp2_with fail
            go_ret
            exact ⟨by simp_all, L.now.1.1⟩
end Go.Proofs.YtihgdebfjoooeaaDoor
