/- The walk of laws.FnApart. -/
import Derived.Test.YtdmffpjljaolcaaDoorDrawBo
import Derived.Test.YtdmffpjljaolcaaDoorFol
import Derived.Test.YtdmffpjljaolcaaDoorSVal
import Derived.Test.YtdmffpjljaolcaaDoorLive
namespace Go.Proofs.YtdmffpjljaolcaaDoor
set_option linter.unusedVariables false
set_option linter.unusedSimpArgs false
open Go.RowKit

set_option maxRecDepth 100000 in
set_option maxHeartbeats 8000000 in
theorem sameEntriesQ_any (A B : Option Addr) (n c d : Nat) (xs : List En) (w : World) (h : Row enCells 4 w w.heap.size A n xs) (h' : Row enCells 4 w w.heap.size B n xs) (hnb : n ≤ 1000000000) :
    Calls Tryd.prog 18 #[.slice A n c, .slice B n d] w fun e w' => e = .returned (.bool true) ∧ ∃ q, w' = w.drewN q := by
  have Hla := Lib.hid h.1
  have e0 : (((n : Nat) : Int) != ((n : Nat) : Int)) = false := by simp
  go_enter Tryd.func18, Tryd.ntmps18
  go_wp2_with fail
  go_loopw [5] (fun i wr => ∃ k j : Nat, k ≤ n ∧ i = .int .i64 k ∧ wr = w.drewN j) (fun i _ => n - (intOf i).toNat)
  case atStart => exact ⟨0, 0, Nat.zero_le _, rfl, rfl⟩
  case round =>
    obtain ⟨k, j, hk, rfl, rfl⟩ := hrel
    by_cases hlt : k < n
    · have hlt' : (k : Int) < (n : Int) := by omega
      obtain ⟨b, off, rfl, hb, hx⟩ := h.en_at (by omega)
      obtain ⟨b', off', rfl, hb', hx'⟩ := h'.en_at (by omega)
      have hs : xs[k]? = some (nx xs k) := nx_get (by rw [Hla.out]; exact hlt)
      obtain ⟨⟨n1, i1, k1, d1⟩, he1⟩ : ∃ e, nx xs k = e := ⟨_, rfl⟩
      rw [he1] at hs
      obtain ⟨c0, c1, c2, c3⟩ := hx k _ hs
      obtain ⟨f0, f1, f2, f3⟩ := hx' k _ hs
      clear hs hx hx' h h' he1
      go_wp2_with fail
      go_quiet (fail)
      go_wp2_with fail
      go_roundw
      case rel => exact ⟨k + 1, _, by omega, by go_num, rfl⟩
      case measure => simp [intOf]; omega
    · have hlt' : ¬ (k : Int) < (n : Int) := by omega
      clear h h'
      go_wp2_with fail
      go_ret
      exact ⟨rfl, _, rfl⟩
theorem row_en {w : World} {B n : Nat} {b off : Nat} {xs : List En} (h : Row enCells 4 w B (some ⟨b, off, none⟩) n xs) (q : Nat) (hq : q < xs.length) : EnAt w b (off + q * 4) (nx xs q) := by
  obtain ⟨b', off', e, _, hx⟩ := h.en_at (by rw [← h.1]; omega)
  obtain rfl : b = b' := by injection e with e; injection e
  obtain rfl : off = off' := by injection e with e; injection e
  exact hx q _ (nx_get hq)
set_option maxRecDepth 100000 in
set_option maxHeartbeats 8000000 in
theorem law_FnApart (A : Option Addr) (n c : Nat) (w : World) (h : Code w A n c) (hg : GE w) :
    Calls Tryd.prog 3 #[.slice A n c] w fun e w' => e = .returned (.bool true) ∧ Below w.heap.size w w' := by
  have hn := h.2.1
  unfold maxLen at hn
  by_cases hbig : (1048576 : Int) < n
  · go_enter Tryd.func3, Tryd.ntmps3
    go_wp2_with fail
    go_ret
    exact ⟨rfl, Below.refl _ _⟩
  have HC := Lib.hid h
  have L0 := (Live.since (Below.refl w.heap.size w)).and (Live.ge hg)
  clear h hg
  go_enter Tryd.func3, Tryd.ntmps3
  go_wp2_with fail
  refine (drawFollowApart_any A n c _ HC.out).mono ?_
  rintro e w1 ⟨Ax, k, cx, xs, Ay, m, cy, ys, rfl, hrow, hrow', HB, HE, hk, hm, hkc, hmc, Hnil, Hnil', hb1⟩
  have L1 := ((L0.next hb1).and (Live.row hrow)).and (Live.row hrow')
  have Hsx := Lib.hid (EnB.small HB.out)
  have Hsy := HE
  have Hl := Lib.hid hrow.1
  have Hm := Lib.hid hrow'.1
  clear hrow hrow' hb1 L0
  have F1 := Lib.hid (fun W H H' G => followApart_any Ax Ay k cx m cy xs ys W H H' Hsx.out Hsy.out (by omega) (by omega) G)
  have F2 := Lib.hid (fun W H H' => followApartS_any Ax Ay k cx m cy xs ys W H H' Hsx.out Hsy.out (by omega) (by omega))
  have hpos := @followApart_pos xs ys
  obtain ⟨x, hx⟩ : ∃ x, followApart xs ys = x := ⟨_, rfl⟩
  rw [hx] at F1 F2 hpos
  clear hx
  go_wp2_with fail
  refine (F1.out _ L1.now.1.2 L1.now.2 L1.now.1.1.2).mono ?_
  rintro e w2 ⟨rfl, hb2⟩
  have L2 := L1.next hb2
  clear hb2 L1
  go_wp2_with fail
  refine (F2.out _ L2.now.1.2 L2.now.2).mono ?_
  rintro e w3 ⟨rfl, hb3⟩
  have L3 := L2.next hb3
  clear hb3 L2
  by_cases hneg : x < 0
  · clear hpos
    go_wp2_with fail
    go_ret
    exact ⟨by simp, L3.now.1.1.1⟩
  obtain ⟨h1, h2, h3, h4, h5⟩ := hpos (by omega)
  obtain ⟨_, _, _, h6⟩ := commonL_is xs ys
  have h7 := h6 h4 h5
  have h8 := commonL_take xs ys
  obtain ⟨q, hq⟩ : ∃ q, commonL xs ys = q := ⟨_, rfl⟩
  rw [hq] at h3 h4 h5 h7 h8
  subst h3
  rw [Hl.out] at h4
  rw [Hm.out] at h5
  have S5 := Lib.hid (fun W H H' => sameEntriesQ_any Ax Ay q cx cy (ys.take q) W H H' (by omega))
  have T1 := Lib.hid (fun W (H : Row enCells 4 W W.heap.size Ax k xs) => (by rw [← h8]; exact H.first enCells_len q (by omega) : Row enCells 4 W W.heap.size Ax q (ys.take q)))
  have T2 := Lib.hid (fun W (H : Row enCells 4 W W.heap.size Ay m ys) => H.first enCells_len q (by omega))
  have q1 : (q : Int) < (k : Int) := by omega
  have q2 : (q : Int) < (m : Int) := by omega
  have q3 : q ≤ cx := by omega
  have q4 : q ≤ cy := by omega
  obtain ⟨bx, ox, rfl, -, -⟩ := L3.now.1.2.en_at (by omega)
  obtain ⟨by_, oy, rfl, -, -⟩ := L3.now.2.en_at (by omega)
  have X1 := Lib.hid (fun W (H : Row enCells 4 W W.heap.size (some ⟨bx, ox, none⟩) k xs) => row_en H q (by rw [Hl.out]; exact h4))
  have X2 := Lib.hid (fun W (H : Row enCells 4 W W.heap.size (some ⟨by_, oy, none⟩) m ys) => row_en H q (by rw [Hm.out]; exact h5))
  obtain ⟨⟨n1, i1, k1, d1⟩, he1⟩ : ∃ e, nx xs q = e := ⟨_, rfl⟩
  obtain ⟨⟨n2, i2, k2, d2⟩, he2⟩ : ∃ e, nx ys q = e := ⟨_, rfl⟩
  rw [he1] at X1 h7
  rw [he2] at X2 h7
  obtain ⟨c0, c1, c2, c3⟩ := X1.out _ L3.now.1.2
  obtain ⟨f0, f1, f2, f3⟩ := X2.out _ L3.now.2
  clear h1 h2 h6 h8 hq he1 he2 hpos
  by_cases z1 : n1 = n2
  · subst z1
    by_cases z2 : i1 = i2
    · subst z2
      by_cases z3 : k1 = k2
      · subst z3
        by_cases z4 : d1 = d2
        · subst z4; exact absurd rfl h7
        · clear h7
          go_wp2_with fail
          go_quiet ((go_at_call 18; exact Calls.quiet_of (S5.out _ (T1.out _ (L3.next (below_drew_n (Below.refl _ _) _)).now.1.2) (T2.out _ (L3.next (below_drew_n (Below.refl _ _) _)).now.2))))
          go_wp2_with fail
          go_ret
          exact ⟨by simp, below_drew_n L3.now.1.1.1 _⟩
      · have z3' : ¬ k1.toList = k2.toList := fun e => z3 (bytes_same (by rwa [ByteArray.toList_eq, ByteArray.toList_eq] at e))
        clear h7 z3
        go_wp2_with fail
        go_quiet ((go_at_call 18; exact Calls.quiet_of (S5.out _ (T1.out _ (L3.next (below_drew_n (Below.refl _ _) _)).now.1.2) (T2.out _ (L3.next (below_drew_n (Below.refl _ _) _)).now.2))))
        go_wp2_with fail
        go_ret
        exact ⟨by simp, below_drew_n L3.now.1.1.1 _⟩
    · clear h7
      go_wp2_with fail
      go_quiet ((go_at_call 18; exact Calls.quiet_of (S5.out _ (T1.out _ (L3.next (below_drew_n (Below.refl _ _) _)).now.1.2) (T2.out _ (L3.next (below_drew_n (Below.refl _ _) _)).now.2))))
      go_wp2_with fail
      go_ret
      exact ⟨by simp, below_drew_n L3.now.1.1.1 _⟩
  · have z1' : ¬ n1.toList = n2.toList := fun e => z1 (bytes_same (by rwa [ByteArray.toList_eq, ByteArray.toList_eq] at e))
    clear h7 z1
    go_wp2_with fail
    go_quiet ((go_at_call 18; exact Calls.quiet_of (S5.out _ (T1.out _ (L3.next (below_drew_n (Below.refl _ _) _)).now.1.2) (T2.out _ (L3.next (below_drew_n (Below.refl _ _) _)).now.2))))
    go_wp2_with fail
    go_ret
    exact ⟨by simp, below_drew_n L3.now.1.1.1 _⟩
end Go.Proofs.YtdmffpjljaolcaaDoor
