/- The walk of laws.FnRead. -/
import Derived.Test.YtihgdebfjoooeaaDoorDrawRd
import Derived.Test.YtihgdebfjoooeaaDoorPRead
import Derived.Test.YtihgdebfjoooeaaDoorSameEn
namespace Go.Proofs.YtihgdebfjoooeaaDoor
open Go.RowKit

theorem evs_join {es fs gs : List Ev} {base : Nat} {w : World} {v : Value} {n m l : Nat} (h : w.ownsRow base 34 3 v (0 + n + m) ([] ++ es.flatMap evCells ++ fs.flatMap evCells)) (h1 : es ++ fs = gs) (h2 : gs.length = l) :
    ∃ A c, v = .slice A l c ∧ Row evCells 3 w w.heap.size A l gs := by
  rw [List.nil_append, ← List.flatMap_append, h1] at h
  have hl : 0 + n + m = l := by
    have h3 := h.1
    rw [flat_len evCells_len, h2] at h3
    omega
  rw [hl] at h
  obtain ⟨A, c, e, _, _, h3, _⟩ := Row.of_own h h2
  exact ⟨A, c, e, h3⟩
theorem storeRead_len (xs : List En) (s : ByteArray) (a m : Int) : (storeRead xs s a m).length ≤ xs.length := by
  unfold storeRead
  split
  · exact Nat.le_trans (piece_len _ _ _).1 (streamOf_len _ _)
  · exact Nat.zero_le _

set_option maxRecDepth 100000 in
set_option maxHeartbeats 8000000 in
theorem law_FnRead (A : Option Addr) (n c : Nat) (A' : Option Addr) (n' c' : Nat) (w : World) (h : Code w A n c) (h' : Code w A' n' c') (hg : GE w) :
    Calls Tryd.prog 8 #[.slice A n c, .slice A' n' c'] w fun e w' => e = .returned (.bool true) ∧ Below w.heap.size w w' := by
  have hn := h.2.1
  have hn' := h'.2.1
  unfold maxLen at hn hn'
  by_cases hbig : (1048576 : Int) < n
  · go_enter Tryd.func8, Tryd.ntmps8
    go_wp2_with fail
    go_ret
    exact ⟨rfl, Below.refl _ _⟩
  by_cases hbig' : (1048576 : Int) < n'
  · go_enter Tryd.func8, Tryd.ntmps8
    go_wp2_with fail
    go_ret
    exact ⟨rfl, Below.refl _ _⟩
  have HC := Lib.hid h
  have L0 := (Live.since (Below.refl w.heap.size w)).and (Live.ge hg)
  clear h h' hg
  have hd : decide ((1048576 : Int) < n) = false := decide_eq_false hbig
  have hd' : decide ((1048576 : Int) < n') = false := decide_eq_false hbig'
  go_enter Tryd.func8, Tryd.ntmps8
  go_wp2_with fail
  refine (drawStoreRead_any A n c _ HC.out).mono ?_
  rintro e w1 ⟨Ax, k, cx, xs, s, a, m, rfl, hrow, HB, hk, hkc, Hnil, hs, ha1, ha2, hm1, hm2, hb1⟩
  have L1 := (L0.next hb1).and (Live.row hrow)
  have Hsm := Lib.hid (EnB.small HB.out)
  have hs' : s.size ≤ maxLen := small60 hs
  have Hl := Lib.hid hrow.1
  clear hrow hb1 L0
  go_wp2_with fail
  refine (storeRead_any Ax k cx xs s a m _ L1.now.2 Hsm.out hs' (by omega) L1.now.1.2).mono ?_
  rintro e w2 ⟨A2, l, c2, rfl, hr2, hc2, Hn2, hb2⟩
  have L2 := (L1.next hb2).and (Live.row hr2)
  have Hl2 := Lib.hid hr2.1
  have hlk : l ≤ 30 := by have := storeRead_len xs s a m; rw [Hl2.out, Hl.out] at this; omega
  clear hb2 hr2 L1
  go_wp2_with fail
  refine (storeReadS_any Ax k cx xs s a m _ L2.now.1.2 Hsm.out hs' (by omega)).mono ?_
  rintro e w3 ⟨A3, l3, c3, rfl, hr3, hc3, Hn3, hb3⟩
  obtain rfl : l3 = l := by rw [← hr3.1, Hl2.out]
  have L3 := (L2.next hb3).and (Live.row hr3)
  clear hb3 hr3 L2
  have S3 := Lib.hid (fun W H H' => sameEvents_any A2 A3 l3 c2 l3 c3 (storeRead xs s a m) (storeRead xs s a m) W H H' (by omega) (by omega))
  rw [sameL_refl] at S3
  go_wp2_with fail
  with_reducible refine (S3.out _ L3.now.1.2 L3.now.2).mono ?_
  rintro e w4 ⟨rfl, hb4⟩
  have L4 := L3.next hb4
  clear hb4 L3
  by_cases hl0 : l3 = 0
  · subst hl0
    go_wp2_with fail
    with_reducible refine (S3.out _ L4.now.1.2 L4.now.2).mono ?_
    rintro e w5 ⟨rfl, hb5⟩
    go_wp2_with fail
    go_ret
    exact ⟨rfl, (L4.next hb5).now.1.1.1.1⟩
  · obtain ⟨a', m', rfl, rfl, h1, h2, h3, h4, h5, h6, h7, h8⟩ := storeRead_pos (xs := xs) (s := s) (a := a) (m := m) (by rw [Hl2.out]; exact hl0)
    rw [Hl2.out] at h6 h8
    have hl1 : ((l3 : Int) == 0) = false := beq_eq_false_iff_ne.2 (by omega)
    have hl2 : (0 : Int) < (l3 : Int) := by omega
    have hm : (n' : Int).tmod (l3 : Int) = ((n' % l3 : Nat) : Int) := by rw [Int.tmod_eq_emod_of_nonneg (by omega)]; rfl
    have hm2 : (n' : Int) % (l3 : Int) = ((n' % l3 : Nat) : Int) := rfl
    have hmk : n' % l3 < l3 := Nat.mod_lt _ (by omega)
    obtain ⟨q, hq⟩ : ∃ q : Nat, n' % l3 = q := ⟨_, rfl⟩
    rw [hq] at hm hm2 hmk
    clear hq
    have Hon := Lib.hid (storeRead_on (xs := xs) (s := s) (a := a') (m := m') (k := 1 + q) h1 h2 (by omega) h5 (by omega))
    have R1 := Lib.hid (fun W H G => storeRead_any Ax k cx xs s a' ((1 + q : Nat) : Int) W H Hsm.out hs' (by omega) G)
    have R2 := Lib.hid (fun W H G => storeRead_any Ax k cx xs s ((a' + (1 + q) : Nat) : Int) ((m' - (1 + q) : Nat) : Int) W H Hsm.out hs' (by omega) G)
    have hqm : 1 + q ≤ m' := by omega
    have Hf := Lib.hid (And.intro h8 h6)
    clear h1 h2 h3 h6 h7
    go_wp2_with fail
    have x1 : ((1 + (q : Nat) : Nat) : Int) = 1 + (q : Int) := by omega
    have x2 : ((a' + (1 + q) : Nat) : Int) = (a' : Int) + (1 + (q : Int)) := by omega
    have x3 : ((m' - (1 + q) : Nat) : Int) = (m' : Int) - (1 + (q : Int)) := by omega
    rw [x1] at R1
    rw [x2, x3] at R2
    rw [x1, x2, x3] at Hon
    refine (R1.out _ L4.now.1.1.2 L4.now.1.1.1.2).mono ?_
    rintro e w5 ⟨A5, n5, c5, rfl, hr5, hc5, Hn5, hb5⟩
    have L5 := (L4.next hb5).and (Live.row hr5)
    clear hr5 hb5
    go_wp2_with fail
    refine (R2.out _ L5.now.1.1.1.2 L5.now.1.1.1.1.2).mono ?_
    rintro e w6 ⟨A6, n6, c6, rfl, hr6, hc6, Hn6, hb6⟩
    have L6 := (L5.next hb6).and (Live.row hr6)
    clear hr6 hb6
    have O6 := Lib.hid (World.ownsRow_lit (base := w6.heap.size) (e := 34) (size := 3) w6 #[] 0 (Nat.le_refl _) (Nat.zero_le _) rfl)
    have B6 := Lib.hid ((Below.refl w6.heap.size w6).alloc (Nat.le_refl _) (.cells #[] 34))
    have hn5 : n5 ≤ 30 := by have h := storeRead_len xs s a' (1 + (q : Int)); have h2 := L6.now.1.2.1; have := Hl.out; omega
    have hn6 : n6 ≤ 30 := by have h := storeRead_len xs s ((a' : Int) + (1 + (q : Int))) ((m' : Int) - (1 + (q : Int))); have h2 := L6.now.2.1; have := Hl.out; omega
    go_wp2_with (first
      | (at_builtin; refine app_src elemEv _ rfl (.tmp 71) (.tmp 72) rfl w6.heap.size _ 0 [] rfl O6.out A5 n5 c5 w6.heap.size _ rfl Hn5.out (L6.now.1.2.2.below B6.out) (evs_one _) ?_ ?_ ?_ ?_; omega; omega; (exact B6.out.size); intro v7 w7 own7 grow7 or7; have B7 := Lib.hid (own_below' O6.out (Nat.le_refl _) B6.out B6.out.size grow7))
      | (at_builtin; refine app_src elemEv w7 rfl (.tmp 73) (.tmp 74) rfl w6.heap.size v7 (0 + n5) _ rfl own7 A6 n6 c6 w6.heap.size _ rfl Hn6.out (L6.now.2.2.below B7.out) (evs_one _) ?_ ?_ ?_ ?_; omega; omega; (exact B7.out.size); intro v8 w8 own8 grow8 or8; have B8 := own_below' own7 (Nat.le_refl _) B7.out B7.out.size grow8; have L8 := L6.next B8; obtain ⟨A8, c8, rfl, hr8⟩ := evs_join own8 Hon.out Hl2.out; have S8 := sameEvents_any A8 A2 l3 c8 l3 c2 _ _ w8 hr8 L8.now.1.1.1.2 (by omega) (by omega); rw [sameL_refl] at S8; have H8 := Lib.hid S8; clear S8 hr8 own7 own8 grow7 grow8 or7 or8 B8)
      | (go_at_call 32; with_reducible refine H8.out.mono ?_; rintro e w9 ⟨rfl, hb9⟩))
    go_ret
    exact ⟨rfl, (L8.next hb9).now.1.1.1.1.1.1⟩
end Go.Proofs.YtihgdebfjoooeaaDoor
