/- The walk of laws.FnReadOrder. -/
import Derived.Test.YtihgdebfjoooeaaDoorLFnRead
namespace Go.Proofs.YtihgdebfjoooeaaDoor
open Go.RowKit

set_option maxRecDepth 100000 in
set_option maxHeartbeats 8000000 in
theorem law_FnReadOrder (A : Option Addr) (n c : Nat) (w : World) (h : Code w A n c) (hg : GE w) :
    Calls Tryd.prog 10 #[.slice A n c] w fun e w' => e = .returned (.bool true) ∧ Below w.heap.size w w' := by
  have hn := h.2.1
  unfold maxLen at hn
  by_cases hbig : (1048576 : Int) < n
  · go_enter Tryd.func10, Tryd.ntmps10
    go_wp2_with fail
    go_ret
    exact ⟨rfl, Below.refl _ _⟩
  have HC := Lib.hid h
  have L0 := (Live.since (Below.refl w.heap.size w)).and (Live.ge hg)
  clear h hg
  go_enter Tryd.func10, Tryd.ntmps10
  go_wp2_with fail
  refine (drawStoreRead_any A n c _ HC.out).mono ?_
  rintro e w1 ⟨Ax, k, cx, xs, s, a, m, rfl, hrow, HB, hk, hkc, Hnil, hs, ha1, ha2, hm1, hm2, hb1⟩
  have L1 := (L0.next hb1).and (Live.row hrow)
  have Hsm := Lib.hid (EnB.small HB.out)
  have hs' : s.size ≤ maxLen := small60 hs
  have Hl := Lib.hid hrow.1
  clear hrow hb1 L0
  go_wp2_with fail
  refine (storeRead_any Ax k cx xs s a m _ L1.now.2 Hsm.out hs' (by omega) L1.now.1.2).mono ?_
  rintro e w2 ⟨A2, l, c2, rfl, hr2, hc2, Hn2, hb2⟩
  have L2 := (L1.next hb2).and (Live.row hr2)
  have Hl2 := Lib.hid hr2.1
  have hlk : l ≤ 30 := by have := storeRead_len xs s a m; rw [Hl2.out, Hl.out] at this; omega
  clear hb2 hr2 L1
  go_wp2_with fail
  refine (storeReadS_any Ax k cx xs s a m _ L2.now.1.2 Hsm.out hs' (by omega)).mono ?_
  rintro e w3 ⟨A3, l3, c3, rfl, hr3, hc3, Hn3, hb3⟩
  obtain rfl : l3 = l := by rw [← hr3.1, Hl2.out]
  have L3 := (L2.next hb3).and (Live.row hr3)
  clear hb3 hr3 L2
  have S3 := Lib.hid (fun W H H' => sameEvents_any A2 A3 l3 c2 l3 c3 (storeRead xs s a m) (storeRead xs s a m) W H H' (by omega) (by omega))
  rw [sameL_refl] at S3
  go_wp2_with fail
  with_reducible refine (S3.out _ L3.now.1.2 L3.now.2).mono ?_
  rintro e w4 ⟨rfl, hb4⟩
  have L4 := L3.next hb4
  clear hb4 L3
  by_cases hl0 : l3 = 0
  · subst hl0
    go_wp2_with fail
    with_reducible refine (S3.out _ L4.now.1.2 L4.now.2).mono ?_
    rintro e w5 ⟨rfl, hb5⟩
    go_wp2_with fail
    go_ret
    exact ⟨rfl, (L4.next hb5).now.1.1.1.1⟩
  · obtain ⟨a', m', rfl, rfl, h1, h2, h3, h4, h5, h6, h7, h8⟩ := storeRead_pos (xs := xs) (s := s) (a := a) (m := m) (by rw [Hl2.out]; exact hl0)
    have hl1 : ((l3 : Int) == 0) = false := beq_eq_false_iff_ne.2 (by omega)
    have Hall := Lib.hid (metL_all s (storeRead xs s a' m') xs 0 (Nat.zero_le _) (by rw [h3]; exact pieceL_sublist _ _ _))
    clear h1 h2 h3 h6 h7 h8
    obtain ⟨ys, hys⟩ : ∃ ys, storeRead xs s a' m' = ys := ⟨_, rfl⟩
    rw [hys] at Hall L4 Hl2
    clear hys S3
    have L5 : Live w4 fun W => (Below w.heap.size w W ∧ Row enCells 4 W W.heap.size Ax k xs) ∧ Row evCells 3 W W.heap.size A2 l3 ys := L4.imp fun W q => ⟨⟨q.1.1.1.1, q.1.1.2⟩, q.1.2⟩
    clear L4
    go_wp2_with fail
    go_loopw [9, 10] (fun u i wr => ∃ q j : Nat, q ≤ k ∧ j ≤ l3 ∧ u = .int .i64 j ∧ i = .int .i64 q ∧ Hid (metL s ys (xs.take q) 0 = j) ∧ Live wr fun W => (Below w.heap.size w W ∧ Row enCells 4 W W.heap.size Ax k xs) ∧ Row evCells 3 W W.heap.size A2 l3 ys) (fun _ i _ => k - (intOf i).toNat)
    case atStart => exact ⟨0, 0, Nat.zero_le _, Nat.zero_le _, rfl, rfl, Lib.hid rfl, L5⟩
    case round =>
      obtain ⟨q, j, hq, hj, rfl, rfl, Hmet, L⟩ := hrel
      by_cases hqk : q < k
      · have hqk' : (q : Int) < (k : Int) := by omega
        have Hst := metL_take s ys xs q (by rw [Hl.out]; exact hqk) 0
        rw [Hmet.out] at Hst
        by_cases hjl : j < l3
        · have hjl' : (j : Int) < (l3 : Int) := by omega
          obtain ⟨b, off, rfl, hb, hx⟩ := L.now.1.2.en_at (by omega)
          obtain ⟨b', off', rfl, hb', hx'⟩ := L.now.2.ev_at (by omega)
          have hs1 : xs[q]? = some (nx xs q) := nx_get (by rw [Hl.out]; exact hqk)
          have ht1 : ys[j]? = some (nx ys j) := nx_get (by rw [Hl2.out]; exact hjl)
          obtain ⟨⟨n1, i1, k1, d1⟩, he1⟩ : ∃ e, nx xs q = e := ⟨_, rfl⟩
          obtain ⟨⟨i2, k2, d2⟩, he2⟩ : ∃ e, nx ys j = e := ⟨_, rfl⟩
          rw [he1] at hs1 Hst
          rw [he2] at ht1
          rw [ht1] at Hst
          obtain ⟨c0, c1, c2, c3⟩ := hx q _ hs1
          obtain ⟨f0, f1, f2⟩ := hx' j _ ht1
          have Hn := Lib.hid (fun hne : ¬ (some (⟨i2, k2, d2⟩ : Ev) = some ⟨i1, k1, d1⟩ ∧ n1 = s) => Hst.trans (if_neg hne))
          have Hy := Lib.hid (fun he : (some (⟨i2, k2, d2⟩ : Ev) = some ⟨i1, k1, d1⟩ ∧ n1 = s) => Hst.trans (if_pos he))
          clear hs1 ht1 hx hx' he1 he2 Hst
          by_cases q1 : n1 = s
          · subst q1
            by_cases q2 : i1 = i2
            · subst q2
              by_cases q3 : k1 = k2
              · subst q3
                by_cases q4 : d1 = d2
                · subst q4
                  have Hr := Lib.hid (Hy.out ⟨rfl, rfl⟩)
                  go_wp2_with fail
                  go_quiet (fail)
                  go_wp2_with fail
                  go_roundw
                  case rel => exact ⟨q + 1, j + 1, by omega, by omega, by go_num, by go_num, Hr, L.next (below_drew_n (Below.refl _ _) _)⟩
                  case measure => simp [intOf]; omega
                · have Hr := Lib.hid (Hn.out (fun e => q4 (by have := Option.some.inj e.1; injection this with _ _ e3; exact e3.symm)))
                  go_wp2_with fail
                  go_quiet (fail)
                  go_wp2_with fail
                  go_roundw
                  case rel => exact ⟨q + 1, j, by omega, by omega, by go_num, by go_num, Hr, L.next (below_drew_n (Below.refl _ _) _)⟩
                  case measure => simp [intOf]; omega
              · have Hr := Lib.hid (Hn.out (fun e => q3 (by have := Option.some.inj e.1; injection this with _ e3 _; exact e3.symm)))
                have q3' : ¬ k1.toList = k2.toList := fun e => q3 (bytes_same (by rwa [ByteArray.toList_eq, ByteArray.toList_eq] at e))
                clear q3
                go_wp2_with fail
                go_quiet (fail)
                go_wp2_with fail
                go_roundw
                case rel => exact ⟨q + 1, j, by omega, by omega, by go_num, by go_num, Hr, L.next (below_drew_n (Below.refl _ _) _)⟩
                case measure => simp [intOf]; omega
            · have Hr := Lib.hid (Hn.out (fun e => q2 (by have := Option.some.inj e.1; injection this with e3 _ _; exact e3.symm)))
              go_wp2_with fail
              go_quiet (fail)
              go_wp2_with fail
              go_roundw
              case rel => exact ⟨q + 1, j, by omega, by omega, by go_num, by go_num, Hr, L.next (below_drew_n (Below.refl _ _) _)⟩
              case measure => simp [intOf]; omega
          · have Hr := Lib.hid (Hn.out (fun e => q1 e.2))
            have q1' : ¬ n1.toList = s.toList := fun e => q1 (bytes_same (by rwa [ByteArray.toList_eq, ByteArray.toList_eq] at e))
            clear q1
            go_wp2_with fail
            go_quiet (fail)
            go_wp2_with fail
            go_roundw
            case rel => exact ⟨q + 1, j, by omega, by omega, by go_num, by go_num, Hr, L.next (below_drew_n (Below.refl _ _) _)⟩
            case measure => simp [intOf]; omega
        · obtain rfl : j = l3 := by omega
          have hjl' : ¬ (j : Int) < (j : Int) := by omega
          clear Hst
          go_wp2_with fail
          go_ret
          exact ⟨by simp, L.now.1.1⟩
      · obtain rfl : q = k := by omega
        have hqk' : ¬ (q : Int) < (q : Int) := by omega
        have ht := Lib.hid (show xs.take q = xs by rw [← Hl.out]; exact List.take_length)
        have hjl : j = l3 := by
          have := Hmet.out
          rw [ht.out, Hall.out, Hl2.out] at this
          exact this.symm
        subst hjl
        go_wp2_with fail
        go_ret
        exact ⟨by simp, L.now.1.1⟩
end Go.Proofs.YtihgdebfjoooeaaDoor
