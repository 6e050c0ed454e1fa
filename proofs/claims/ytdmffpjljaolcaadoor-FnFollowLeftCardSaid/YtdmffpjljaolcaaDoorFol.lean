/- How far two stores are the same, and who follows whom: the program's and the reference's. -/
import Derived.Test.YtdmffpjljaolcaaDoorSameEn
import Derived.Test.YtdmffpjljaolcaaDoorPFol
import Derived.Test.YtdmffpjljaolcaaDoorLive
import Derived.Test.YtdmffpjljaolcaaDoorSVal
import Derived.Test.YtdmffpjljaolcaaDoorSValS
namespace Go.Proofs.YtdmffpjljaolcaaDoor
set_option linter.unusedVariables false
set_option linter.unusedSimpArgs false
open Go.RowKit

set_option maxRecDepth 100000 in
set_option maxHeartbeats 8000000 in
theorem common_any (A B : Option Addr) (n c m d : Nat) (xs ys : List En) (w : World) (h : Row enCells 4 w w.heap.size A n xs) (h' : Row enCells 4 w w.heap.size B m ys) (hnb : n ≤ 1000000000) (hmb : m ≤ 1000000000) :
    Calls Tryd.prog 42 #[.slice A n c, .slice B m d] w fun e w' => e = .returned (.int .i64 (commonL xs ys : Nat)) ∧ Below w.heap.size w w' := by
  have Hla := Lib.hid h.1
  have Hlb := Lib.hid h'.1
  go_enter Tryd.func42, Tryd.ntmps42
  go_wp2_with fail
  go_loopw [5] (fun i wr => ∃ k : Nat, k ≤ n ∧ k ≤ m ∧ i = .int .i64 k ∧ Below w.heap.size w wr ∧ Hid (∀ j, j < k → nx xs j = nx ys j)) (fun i _ => n - (intOf i).toNat)
  case atStart => exact ⟨0, Nat.zero_le _, Nat.zero_le _, rfl, Below.refl _ _, fun j hj => absurd hj (by omega)⟩
  case round =>
    obtain ⟨k, hk, hkm, rfl, hnx, Hall⟩ := hrel
    have Hnx := Lib.hid hnx
    by_cases hlt : k < n
    · have hlt' : (k : Int) < (n : Int) := by omega
      have hltd : decide ((k : Int) < (n : Int)) = true := decide_eq_true hlt'
      by_cases hmt : k < m
      · have hmt' : (k : Int) < (m : Int) := by omega
        have hmtd : decide ((k : Int) < (m : Int)) = true := decide_eq_true hmt'
        obtain ⟨b, off, rfl, hb, hx⟩ := h.en_at (by omega)
        obtain ⟨b', off', rfl, hb', hx'⟩ := h'.en_at (by omega)
        have hs : xs[k]? = some (nx xs k) := nx_get (by rw [Hla.out]; exact hlt)
        have ht : ys[k]? = some (nx ys k) := nx_get (by rw [Hlb.out]; exact hmt)
        have Hat := Lib.hid (fun (hne : nx xs k ≠ nx ys k) => commonL_at (a := xs) (b := ys) Hall.out (by rw [Hla.out]; exact hk) (by rw [Hlb.out]; exact hkm) (.inr (.inr hne)))
        obtain ⟨⟨n1, i1, k1, d1⟩, he1⟩ : ∃ e, nx xs k = e := ⟨_, rfl⟩
        obtain ⟨⟨n2, i2, k2, d2⟩, he2⟩ : ∃ e, nx ys k = e := ⟨_, rfl⟩
        rw [he1] at hs Hat
        rw [he2] at ht Hat
        obtain ⟨c0, c1, c2, c3⟩ := (hx k _ hs).below hnx hb
        obtain ⟨f0, f1, f2, f3⟩ := (hx' k _ ht).below hnx hb'
        have Hee := Lib.hid (And.intro he1 he2)
        clear hs ht hx hx' h h' hnx he1 he2
        by_cases q1 : n1 = n2
        · subst q1
          by_cases q2 : i1 = i2
          · subst q2
            by_cases q3 : k1 = k2
            · subst q3
              by_cases q4 : d1 = d2
              · subst q4
                go_wp2_with fail
                go_quiet (fail)
                go_wp2_with fail
                go_roundw
                case rel => exact ⟨k + 1, by omega, by omega, by go_num, below_drew_n Hnx.out _, fun j hj => by
                  rcases Nat.lt_succ_iff_lt_or_eq.1 hj with h' | rfl
                  · exact Hall.out j h'
                  · rw [Hee.out.1, Hee.out.2]⟩
                case measure => simp [intOf]; omega
              · have Hr := Lib.hid (Hat.out (fun e => q4 (by injection e with _ e2; injection e2)))
                go_wp2_with fail
                go_quiet (fail)
                go_wp2_with fail
                go_ret
                exact ⟨ret_int (congrArg _ Hr.out.symm), below_drew_n Hnx.out _⟩
            · have Hr := Lib.hid (Hat.out (fun e => q3 (by injection e with _ e2; injection e2)))
              have q3' : ¬ k1.toList = k2.toList := fun e => q3 (bytes_same (by rwa [ByteArray.toList_eq, ByteArray.toList_eq] at e))
              clear q3
              go_wp2_with fail
              go_quiet (fail)
              go_wp2_with fail
              go_ret
              exact ⟨ret_int (congrArg _ Hr.out.symm), below_drew_n Hnx.out _⟩
          · have Hr := Lib.hid (Hat.out (fun e => q2 (by injection e with _ e2; injection e2)))
            go_wp2_with fail
            go_quiet (fail)
            go_wp2_with fail
            go_ret
            exact ⟨ret_int (congrArg _ Hr.out.symm), below_drew_n Hnx.out _⟩
        · have Hr := Lib.hid (Hat.out (fun e => q1 (by injection e)))
          have q1' : ¬ n1.toList = n2.toList := fun e => q1 (bytes_same (by rwa [ByteArray.toList_eq, ByteArray.toList_eq] at e))
          clear q1
          go_wp2_with fail
          go_quiet (fail)
          go_wp2_with fail
          go_ret
          exact ⟨ret_int (congrArg _ Hr.out.symm), below_drew_n Hnx.out _⟩
      · obtain rfl : k = m := by omega
        have hmt' : ¬ (k : Int) < (k : Int) := by omega
        have hmtd : decide ((k : Int) < (k : Int)) = false := decide_eq_false hmt'
        have Hr := Lib.hid (commonL_at (a := xs) (b := ys) Hall.out (by rw [Hla.out]; exact hk) (by rw [Hlb.out]; exact hkm) (.inr (.inl Hlb.out.symm)))
        clear h h' hnx hmt
        go_wp2_with fail
        go_quiet (fail)
        go_wp2_with fail
        go_ret
        exact ⟨ret_int (congrArg _ Hr.out.symm), below_drew_n Hnx.out _⟩
    · obtain rfl : k = n := by omega
      have hlt' : ¬ (k : Int) < (k : Int) := by omega
      have hltd : decide ((k : Int) < (k : Int)) = false := decide_eq_false hlt'
      have Hr := Lib.hid (commonL_at (a := xs) (b := ys) Hall.out (by rw [Hla.out]; exact hk) (by rw [Hlb.out]; exact hkm) (.inl Hla.out.symm))
      clear h h' hnx hlt
      go_wp2_with fail
      go_quiet (fail)
      go_wp2_with fail
      go_ret
      exact ⟨ret_int (congrArg _ Hr.out.symm), below_drew_n Hnx.out _⟩

set_option maxRecDepth 100000 in
set_option maxHeartbeats 8000000 in
theorem commonS_any (A B : Option Addr) (n c m d : Nat) (xs ys : List En) (w : World) (h : Row enCells 4 w w.heap.size A n xs) (h' : Row enCells 4 w w.heap.size B m ys) (hnb : n ≤ 1000000000) (hmb : m ≤ 1000000000) :
    Calls Tryd.prog 43 #[.slice A n c, .slice B m d] w fun e w' => e = .returned (.int .i64 (commonL xs ys : Nat)) ∧ Below w.heap.size w w' := by
  have Hla := Lib.hid h.1
  have Hlb := Lib.hid h'.1
  go_enter Tryd.func43, Tryd.ntmps43
  go_wp2_with fail
  go_loopw [5] (fun i wr => ∃ k : Nat, k ≤ n ∧ k ≤ m ∧ i = .int .i64 k ∧ Below w.heap.size w wr ∧ Hid (∀ j, j < k → nx xs j = nx ys j)) (fun i _ => n - (intOf i).toNat)
  case atStart => exact ⟨0, Nat.zero_le _, Nat.zero_le _, rfl, Below.refl _ _, fun j hj => absurd hj (by omega)⟩
  case round =>
    obtain ⟨k, hk, hkm, rfl, hnx, Hall⟩ := hrel
    have Hnx := Lib.hid hnx
    by_cases hlt : k < n
    · have hlt' : (k : Int) < (n : Int) := by omega
      have hltd : decide ((k : Int) < (n : Int)) = true := decide_eq_true hlt'
      by_cases hmt : k < m
      · have hmt' : (k : Int) < (m : Int) := by omega
        have hmtd : decide ((k : Int) < (m : Int)) = true := decide_eq_true hmt'
        obtain ⟨b, off, rfl, hb, hx⟩ := h.en_at (by omega)
        obtain ⟨b', off', rfl, hb', hx'⟩ := h'.en_at (by omega)
        have hs : xs[k]? = some (nx xs k) := nx_get (by rw [Hla.out]; exact hlt)
        have ht : ys[k]? = some (nx ys k) := nx_get (by rw [Hlb.out]; exact hmt)
        have Hat := Lib.hid (fun (hne : nx xs k ≠ nx ys k) => commonL_at (a := xs) (b := ys) Hall.out (by rw [Hla.out]; exact hk) (by rw [Hlb.out]; exact hkm) (.inr (.inr hne)))
        obtain ⟨⟨n1, i1, k1, d1⟩, he1⟩ : ∃ e, nx xs k = e := ⟨_, rfl⟩
        obtain ⟨⟨n2, i2, k2, d2⟩, he2⟩ : ∃ e, nx ys k = e := ⟨_, rfl⟩
        rw [he1] at hs Hat
        rw [he2] at ht Hat
        obtain ⟨c0, c1, c2, c3⟩ := (hx k _ hs).below hnx hb
        obtain ⟨f0, f1, f2, f3⟩ := (hx' k _ ht).below hnx hb'
        have Hee := Lib.hid (And.intro he1 he2)
        clear hs ht hx hx' h h' hnx he1 he2
        by_cases q1 : n1 = n2
        · subst q1
          by_cases q2 : i1 = i2
          · subst q2
            by_cases q3 : k1 = k2
            · subst q3
              by_cases q4 : d1 = d2
              · subst q4
                go_wp2_with fail
                go_quiet (fail)
                go_wp2_with fail
                go_roundw
                case rel => exact ⟨k + 1, by omega, by omega, by go_num, below_drew_n Hnx.out _, fun j hj => by
                  rcases Nat.lt_succ_iff_lt_or_eq.1 hj with h' | rfl
                  · exact Hall.out j h'
                  · rw [Hee.out.1, Hee.out.2]⟩
                case measure => simp [intOf]; omega
              · have Hr := Lib.hid (Hat.out (fun e => q4 (by injection e with _ e2; injection e2)))
                go_wp2_with fail
                go_quiet (fail)
                go_wp2_with fail
                go_ret
                exact ⟨ret_int (congrArg _ Hr.out.symm), below_drew_n Hnx.out _⟩
            · have Hr := Lib.hid (Hat.out (fun e => q3 (by injection e with _ e2; injection e2)))
              have q3' : ¬ k1.toList = k2.toList := fun e => q3 (bytes_same (by rwa [ByteArray.toList_eq, ByteArray.toList_eq] at e))
              clear q3
              go_wp2_with fail
              go_quiet (fail)
              go_wp2_with fail
              go_ret
              exact ⟨ret_int (congrArg _ Hr.out.symm), below_drew_n Hnx.out _⟩
          · have Hr := Lib.hid (Hat.out (fun e => q2 (by injection e with _ e2; injection e2)))
            go_wp2_with fail
            go_quiet (fail)
            go_wp2_with fail
            go_ret
            exact ⟨ret_int (congrArg _ Hr.out.symm), below_drew_n Hnx.out _⟩
        · have Hr := Lib.hid (Hat.out (fun e => q1 (by injection e)))
          have q1' : ¬ n1.toList = n2.toList := fun e => q1 (bytes_same (by rwa [ByteArray.toList_eq, ByteArray.toList_eq] at e))
          clear q1
          go_wp2_with fail
          go_quiet (fail)
          go_wp2_with fail
          go_ret
          exact ⟨ret_int (congrArg _ Hr.out.symm), below_drew_n Hnx.out _⟩
      · obtain rfl : k = m := by omega
        have hmt' : ¬ (k : Int) < (k : Int) := by omega
        have hmtd : decide ((k : Int) < (k : Int)) = false := decide_eq_false hmt'
        have Hr := Lib.hid (commonL_at (a := xs) (b := ys) Hall.out (by rw [Hla.out]; exact hk) (by rw [Hlb.out]; exact hkm) (.inr (.inl Hlb.out.symm)))
        clear h h' hnx hmt
        go_wp2_with fail
        go_quiet (fail)
        go_wp2_with fail
        go_ret
        exact ⟨ret_int (congrArg _ Hr.out.symm), below_drew_n Hnx.out _⟩
    · obtain rfl : k = n := by omega
      have hlt' : ¬ (k : Int) < (k : Int) := by omega
      have hltd : decide ((k : Int) < (k : Int)) = false := decide_eq_false hlt'
      have Hr := Lib.hid (commonL_at (a := xs) (b := ys) Hall.out (by rw [Hla.out]; exact hk) (by rw [Hlb.out]; exact hkm) (.inl Hla.out.symm))
      clear h h' hnx hlt
      go_wp2_with fail
      go_quiet (fail)
      go_wp2_with fail
      go_ret
      exact ⟨ret_int (congrArg _ Hr.out.symm), below_drew_n Hnx.out _⟩

set_option maxRecDepth 100000 in
set_option maxHeartbeats 4000000 in
theorem followApart_any (A B : Option Addr) (n c m d : Nat) (xs ys : List En) (w : World) (h : Row enCells 4 w w.heap.size A n xs) (h' : Row enCells 4 w w.heap.size B m ys) (hsm : SmallEns xs) (hsm2 : SmallEns ys) (hnb : n ≤ 1000000) (hmb : m ≤ 1000000) (hg : GE w) :
    Calls Tryd.prog 16 #[.slice A n c, .slice B m d] w fun e w' => e = .returned (.int .i64 (followApart xs ys)) ∧ Below w.heap.size w w' := by
  have L := (((Live.since (Below.refl w.heap.size w)).and (Live.ge hg)).and (Live.row h)).and (Live.row h')
  have Hla := Lib.hid h.1
  have Hlb := Lib.hid h'.1
  have V := Lib.hid (fun W H G => storeValid_any A n c xs W H hsm hnb G)
  have V2 := Lib.hid (fun W H G => storeValid_any B m d ys W H hsm2 hmb G)
  clear h h' hsm hsm2 hg
  cases h1 : storeOk xs with
  | false =>
    have Hr := Lib.hid (followApart_no (a := xs) (b := ys) (by rw [h1]; rfl))
    rw [h1] at V
    clear h1
    go_enter Tryd.func16, Tryd.ntmps16
    go_wp2_with (first
      | (go_at_call 19; (with_reducible refine (V.out _ L.now.1.2 L.now.1.1.2).mono ?_); rintro e w1 ⟨rfl, hb1⟩; have L1 := L.next hb1))
    go_ret
    exact ⟨ret_int Hr.out.symm, L1.now.1.1.1⟩
  | true =>
    rw [h1] at V
    cases h2 : storeOk ys with
    | false =>
      have Hr := Lib.hid (followApart_no (a := xs) (b := ys) (by rw [h2]; simp))
      rw [h2] at V2
      clear h1 h2
      go_enter Tryd.func16, Tryd.ntmps16
      go_wp2_with (first
      | (go_at_call 19; (with_reducible refine (V.out _ L.now.1.2 L.now.1.1.2).mono ?_); rintro e w1 ⟨rfl, hb1⟩; have L1 := L.next hb1)
      | (go_at_call 19; (with_reducible refine (V2.out _ L1.now.2 L1.now.1.1.2).mono ?_); rintro e w2 ⟨rfl, hb2⟩; have L2 := L1.next hb2))
      go_ret
      exact ⟨ret_int Hr.out.symm, L2.now.1.1.1⟩
    | true =>
      rw [h2] at V2
      obtain ⟨b1, b2, _, _⟩ := commonL_is xs ys
      rw [Hla.out] at b1
      rw [Hlb.out] at b2
      obtain ⟨q, hq⟩ : ∃ q, q = commonL xs ys := ⟨_, rfl⟩
      have CM := Lib.hid (fun W H H' => common_any A B n c m d xs ys W H H' (by omega) (by omega))
      rw [← hq] at CM b1 b2
      by_cases e1 : q = n
      · have Hr := Lib.hid (followApart_end h1 h2 (.inl (by rw [← hq, Hla.out]; exact e1)))
        have t1 : ((q : Int) == (n : Int)) = true := beq_iff_eq.2 (by omega)
        clear h1 h2 hq e1
        go_enter Tryd.func16, Tryd.ntmps16
        go_wp2_with (first
      | (go_at_call 19; (with_reducible refine (V.out _ L.now.1.2 L.now.1.1.2).mono ?_); rintro e w1 ⟨rfl, hb1⟩; have L1 := L.next hb1)
      | (go_at_call 19; (with_reducible refine (V2.out _ L1.now.2 L1.now.1.1.2).mono ?_); rintro e w2 ⟨rfl, hb2⟩; have L2 := L1.next hb2)
      | (go_at_call 42; refine (CM.out _ L2.now.1.2 L2.now.2).mono ?_; rintro e w3 ⟨rfl, hb3⟩; have L3 := L2.next hb3))
        go_ret
        exact ⟨ret_int Hr.out.symm, L3.now.1.1.1⟩
      · have t1 : ((q : Int) == (n : Int)) = false := beq_eq_false_iff_ne.2 (by omega)
        by_cases e2 : q = m
        · have Hr := Lib.hid (followApart_end h1 h2 (.inr (by rw [← hq, Hlb.out]; exact e2)))
          have t2 : ((q : Int) == (m : Int)) = true := beq_iff_eq.2 (by omega)
          clear h1 h2 hq e1 e2
          go_enter Tryd.func16, Tryd.ntmps16
          go_wp2_with (first
        | (go_at_call 19; (with_reducible refine (V.out _ L.now.1.2 L.now.1.1.2).mono ?_); rintro e w1 ⟨rfl, hb1⟩; have L1 := L.next hb1)
        | (go_at_call 19; (with_reducible refine (V2.out _ L1.now.2 L1.now.1.1.2).mono ?_); rintro e w2 ⟨rfl, hb2⟩; have L2 := L1.next hb2)
        | (go_at_call 42; refine (CM.out _ L2.now.1.2 L2.now.2).mono ?_; rintro e w3 ⟨rfl, hb3⟩; have L3 := L2.next hb3))
          go_ret
          exact ⟨ret_int Hr.out.symm, L3.now.1.1.1⟩
        · have t2 : ((q : Int) == (m : Int)) = false := beq_eq_false_iff_ne.2 (by omega)
          have Hr := Lib.hid (followApart_mid h1 h2 (by rw [← hq, Hla.out]; exact e1) (by rw [← hq, Hlb.out]; exact e2))
          rw [← hq] at Hr
          clear h1 h2 hq e1 e2
          go_enter Tryd.func16, Tryd.ntmps16
          go_wp2_with (first
        | (go_at_call 19; (with_reducible refine (V.out _ L.now.1.2 L.now.1.1.2).mono ?_); rintro e w1 ⟨rfl, hb1⟩; have L1 := L.next hb1)
        | (go_at_call 19; (with_reducible refine (V2.out _ L1.now.2 L1.now.1.1.2).mono ?_); rintro e w2 ⟨rfl, hb2⟩; have L2 := L1.next hb2)
        | (go_at_call 42; refine (CM.out _ L2.now.1.2 L2.now.2).mono ?_; rintro e w3 ⟨rfl, hb3⟩; have L3 := L2.next hb3))
          go_ret
          exact ⟨ret_int Hr.out.symm, L3.now.1.1.1⟩

set_option maxRecDepth 100000 in
set_option maxHeartbeats 4000000 in
theorem followLeft_any (A B : Option Addr) (n c m d : Nat) (xs ys : List En) (w : World) (h : Row enCells 4 w w.heap.size A n xs) (h' : Row enCells 4 w w.heap.size B m ys) (hsm : SmallEns xs) (hsm2 : SmallEns ys) (hnb : n ≤ 1000000) (hmb : m ≤ 1000000) (hg : GE w) :
    Calls Tryd.prog 31 #[.slice A n c, .slice B m d] w fun e w' => e = .returned (.int .i64 (followLeft xs ys)) ∧ Below w.heap.size w w' := by
  have L := (((Live.since (Below.refl w.heap.size w)).and (Live.ge hg)).and (Live.row h)).and (Live.row h')
  have Hla := Lib.hid h.1
  have Hlb := Lib.hid h'.1
  have V := Lib.hid (fun W H G => storeValid_any A n c xs W H hsm hnb G)
  have V2 := Lib.hid (fun W H G => storeValid_any B m d ys W H hsm2 hmb G)
  clear h h' hsm hsm2 hg
  cases h1 : storeOk xs with
  | false =>
    have Hr := Lib.hid (followLeft_no (a := xs) (b := ys) (by rw [h1]; rfl))
    rw [h1] at V
    clear h1
    go_enter Tryd.func31, Tryd.ntmps31
    go_wp2_with (first
      | (go_at_call 19; (with_reducible refine (V.out _ L.now.1.2 L.now.1.1.2).mono ?_); rintro e w1 ⟨rfl, hb1⟩; have L1 := L.next hb1))
    go_ret
    exact ⟨ret_int Hr.out.symm, L1.now.1.1.1⟩
  | true =>
    rw [h1] at V
    cases h2 : storeOk ys with
    | false =>
      have Hr := Lib.hid (followLeft_no (a := xs) (b := ys) (by rw [h2]; simp))
      rw [h2] at V2
      clear h1 h2
      go_enter Tryd.func31, Tryd.ntmps31
      go_wp2_with (first
      | (go_at_call 19; (with_reducible refine (V.out _ L.now.1.2 L.now.1.1.2).mono ?_); rintro e w1 ⟨rfl, hb1⟩; have L1 := L.next hb1)
      | (go_at_call 19; (with_reducible refine (V2.out _ L1.now.2 L1.now.1.1.2).mono ?_); rintro e w2 ⟨rfl, hb2⟩; have L2 := L1.next hb2))
      go_ret
      exact ⟨ret_int Hr.out.symm, L2.now.1.1.1⟩
    | true =>
      rw [h2] at V2
      obtain ⟨b1, b2, _, _⟩ := commonL_is xs ys
      rw [Hla.out] at b1
      rw [Hlb.out] at b2
      by_cases hc : m ≤ commonL xs ys
      · have Hr := Lib.hid (followLeft_yes h1 h2 (by rw [Hlb.out]; exact hc))
        rw [Hla.out, Hlb.out] at Hr
        obtain ⟨q, hq⟩ : ∃ q, q = commonL xs ys := ⟨_, rfl⟩
        have CM := Lib.hid (fun W H H' => common_any A B n c m d xs ys W H H' (by omega) (by omega))
        rw [← hq] at CM hc b1 b2
        have t1 : ¬ (q : Int) < (m : Int) := by omega
        clear h1 h2 hq
        go_enter Tryd.func31, Tryd.ntmps31
        go_wp2_with (first
      | (go_at_call 19; (with_reducible refine (V.out _ L.now.1.2 L.now.1.1.2).mono ?_); rintro e w1 ⟨rfl, hb1⟩; have L1 := L.next hb1)
      | (go_at_call 19; (with_reducible refine (V2.out _ L1.now.2 L1.now.1.1.2).mono ?_); rintro e w2 ⟨rfl, hb2⟩; have L2 := L1.next hb2)
      | (go_at_call 42; refine (CM.out _ L2.now.1.2 L2.now.2).mono ?_; rintro e w3 ⟨rfl, hb3⟩; have L3 := L2.next hb3))
        go_ret
        exact ⟨ret_int Hr.out.symm, L3.now.1.1.1⟩
      · have Hr := Lib.hid (followLeft_no (a := xs) (b := ys) (by rw [decide_eq_false (by rw [Hlb.out]; exact hc)]; simp))
        obtain ⟨q, hq⟩ : ∃ q, q = commonL xs ys := ⟨_, rfl⟩
        have CM := Lib.hid (fun W H H' => common_any A B n c m d xs ys W H H' (by omega) (by omega))
        rw [← hq] at CM hc b1 b2
        have t1 : (q : Int) < (m : Int) := by omega
        clear h1 h2 hq
        go_enter Tryd.func31, Tryd.ntmps31
        go_wp2_with (first
      | (go_at_call 19; (with_reducible refine (V.out _ L.now.1.2 L.now.1.1.2).mono ?_); rintro e w1 ⟨rfl, hb1⟩; have L1 := L.next hb1)
      | (go_at_call 19; (with_reducible refine (V2.out _ L1.now.2 L1.now.1.1.2).mono ?_); rintro e w2 ⟨rfl, hb2⟩; have L2 := L1.next hb2)
      | (go_at_call 42; refine (CM.out _ L2.now.1.2 L2.now.2).mono ?_; rintro e w3 ⟨rfl, hb3⟩; have L3 := L2.next hb3))
        go_ret
        exact ⟨ret_int Hr.out.symm, L3.now.1.1.1⟩

set_option maxRecDepth 100000 in
set_option maxHeartbeats 4000000 in
theorem followApartS_any (A B : Option Addr) (n c m d : Nat) (xs ys : List En) (w : World) (h : Row enCells 4 w w.heap.size A n xs) (h' : Row enCells 4 w w.heap.size B m ys) (hsm : SmallEns xs) (hsm2 : SmallEns ys) (hnb : n ≤ 1000000) (hmb : m ≤ 1000000) :
    Calls Tryd.prog 17 #[.slice A n c, .slice B m d] w fun e w' => e = .returned (.int .i64 (followApart xs ys)) ∧ Below w.heap.size w w' := by
  have L := ((Live.since (Below.refl w.heap.size w)).and (Live.row h)).and (Live.row h')
  have Hla := Lib.hid h.1
  have Hlb := Lib.hid h'.1
  have V := Lib.hid (fun W H => storeValidS_any A n c xs W H hsm hnb)
  have V2 := Lib.hid (fun W H => storeValidS_any B m d ys W H hsm2 hmb)
  clear h h' hsm hsm2
  cases h1 : storeOk xs with
  | false =>
    have Hr := Lib.hid (followApart_no (a := xs) (b := ys) (by rw [h1]; rfl))
    rw [h1] at V
    clear h1
    go_enter Tryd.func17, Tryd.ntmps17
    go_wp2_with (first
      | (go_at_call 25; (with_reducible refine (V.out _ L.now.1.2).mono ?_); rintro e w1 ⟨rfl, hb1⟩; have L1 := L.next hb1))
    go_ret
    exact ⟨ret_int Hr.out.symm, L1.now.1.1⟩
  | true =>
    rw [h1] at V
    cases h2 : storeOk ys with
    | false =>
      have Hr := Lib.hid (followApart_no (a := xs) (b := ys) (by rw [h2]; simp))
      rw [h2] at V2
      clear h1 h2
      go_enter Tryd.func17, Tryd.ntmps17
      go_wp2_with (first
      | (go_at_call 25; (with_reducible refine (V.out _ L.now.1.2).mono ?_); rintro e w1 ⟨rfl, hb1⟩; have L1 := L.next hb1)
      | (go_at_call 25; (with_reducible refine (V2.out _ L1.now.2).mono ?_); rintro e w2 ⟨rfl, hb2⟩; have L2 := L1.next hb2))
      go_ret
      exact ⟨ret_int Hr.out.symm, L2.now.1.1⟩
    | true =>
      rw [h2] at V2
      obtain ⟨b1, b2, _, _⟩ := commonL_is xs ys
      rw [Hla.out] at b1
      rw [Hlb.out] at b2
      obtain ⟨q, hq⟩ : ∃ q, q = commonL xs ys := ⟨_, rfl⟩
      have CM := Lib.hid (fun W H H' => commonS_any A B n c m d xs ys W H H' (by omega) (by omega))
      rw [← hq] at CM b1 b2
      by_cases e1 : q = n
      · have Hr := Lib.hid (followApart_end h1 h2 (.inl (by rw [← hq, Hla.out]; exact e1)))
        have t1 : ((q : Int) == (n : Int)) = true := beq_iff_eq.2 (by omega)
        clear h1 h2 hq e1
        go_enter Tryd.func17, Tryd.ntmps17
        go_wp2_with (first
      | (go_at_call 25; (with_reducible refine (V.out _ L.now.1.2).mono ?_); rintro e w1 ⟨rfl, hb1⟩; have L1 := L.next hb1)
      | (go_at_call 25; (with_reducible refine (V2.out _ L1.now.2).mono ?_); rintro e w2 ⟨rfl, hb2⟩; have L2 := L1.next hb2)
      | (go_at_call 43; refine (CM.out _ L2.now.1.2 L2.now.2).mono ?_; rintro e w3 ⟨rfl, hb3⟩; have L3 := L2.next hb3))
        go_ret
        exact ⟨ret_int Hr.out.symm, L3.now.1.1⟩
      · have t1 : ((q : Int) == (n : Int)) = false := beq_eq_false_iff_ne.2 (by omega)
        by_cases e2 : q = m
        · have Hr := Lib.hid (followApart_end h1 h2 (.inr (by rw [← hq, Hlb.out]; exact e2)))
          have t2 : ((q : Int) == (m : Int)) = true := beq_iff_eq.2 (by omega)
          clear h1 h2 hq e1 e2
          go_enter Tryd.func17, Tryd.ntmps17
          go_wp2_with (first
        | (go_at_call 25; (with_reducible refine (V.out _ L.now.1.2).mono ?_); rintro e w1 ⟨rfl, hb1⟩; have L1 := L.next hb1)
        | (go_at_call 25; (with_reducible refine (V2.out _ L1.now.2).mono ?_); rintro e w2 ⟨rfl, hb2⟩; have L2 := L1.next hb2)
        | (go_at_call 43; refine (CM.out _ L2.now.1.2 L2.now.2).mono ?_; rintro e w3 ⟨rfl, hb3⟩; have L3 := L2.next hb3))
          go_ret
          exact ⟨ret_int Hr.out.symm, L3.now.1.1⟩
        · have t2 : ((q : Int) == (m : Int)) = false := beq_eq_false_iff_ne.2 (by omega)
          have Hr := Lib.hid (followApart_mid h1 h2 (by rw [← hq, Hla.out]; exact e1) (by rw [← hq, Hlb.out]; exact e2))
          rw [← hq] at Hr
          clear h1 h2 hq e1 e2
          go_enter Tryd.func17, Tryd.ntmps17
          go_wp2_with (first
        | (go_at_call 25; (with_reducible refine (V.out _ L.now.1.2).mono ?_); rintro e w1 ⟨rfl, hb1⟩; have L1 := L.next hb1)
        | (go_at_call 25; (with_reducible refine (V2.out _ L1.now.2).mono ?_); rintro e w2 ⟨rfl, hb2⟩; have L2 := L1.next hb2)
        | (go_at_call 43; refine (CM.out _ L2.now.1.2 L2.now.2).mono ?_; rintro e w3 ⟨rfl, hb3⟩; have L3 := L2.next hb3))
          go_ret
          exact ⟨ret_int Hr.out.symm, L3.now.1.1⟩

set_option maxRecDepth 100000 in
set_option maxHeartbeats 4000000 in
theorem followLeftS_any (A B : Option Addr) (n c m d : Nat) (xs ys : List En) (w : World) (h : Row enCells 4 w w.heap.size A n xs) (h' : Row enCells 4 w w.heap.size B m ys) (hsm : SmallEns xs) (hsm2 : SmallEns ys) (hnb : n ≤ 1000000) (hmb : m ≤ 1000000) :
    Calls Tryd.prog 32 #[.slice A n c, .slice B m d] w fun e w' => e = .returned (.int .i64 (followLeft xs ys)) ∧ Below w.heap.size w w' := by
  have L := ((Live.since (Below.refl w.heap.size w)).and (Live.row h)).and (Live.row h')
  have Hla := Lib.hid h.1
  have Hlb := Lib.hid h'.1
  have V := Lib.hid (fun W H => storeValidS_any A n c xs W H hsm hnb)
  have V2 := Lib.hid (fun W H => storeValidS_any B m d ys W H hsm2 hmb)
  clear h h' hsm hsm2
  cases h1 : storeOk xs with
  | false =>
    have Hr := Lib.hid (followLeft_no (a := xs) (b := ys) (by rw [h1]; rfl))
    rw [h1] at V
    clear h1
    go_enter Tryd.func32, Tryd.ntmps32
    go_wp2_with (first
      | (go_at_call 25; (with_reducible refine (V.out _ L.now.1.2).mono ?_); rintro e w1 ⟨rfl, hb1⟩; have L1 := L.next hb1))
    go_ret
    exact ⟨ret_int Hr.out.symm, L1.now.1.1⟩
  | true =>
    rw [h1] at V
    cases h2 : storeOk ys with
    | false =>
      have Hr := Lib.hid (followLeft_no (a := xs) (b := ys) (by rw [h2]; simp))
      rw [h2] at V2
      clear h1 h2
      go_enter Tryd.func32, Tryd.ntmps32
      go_wp2_with (first
      | (go_at_call 25; (with_reducible refine (V.out _ L.now.1.2).mono ?_); rintro e w1 ⟨rfl, hb1⟩; have L1 := L.next hb1)
      | (go_at_call 25; (with_reducible refine (V2.out _ L1.now.2).mono ?_); rintro e w2 ⟨rfl, hb2⟩; have L2 := L1.next hb2))
      go_ret
      exact ⟨ret_int Hr.out.symm, L2.now.1.1⟩
    | true =>
      rw [h2] at V2
      obtain ⟨b1, b2, _, _⟩ := commonL_is xs ys
      rw [Hla.out] at b1
      rw [Hlb.out] at b2
      by_cases hc : m ≤ commonL xs ys
      · have Hr := Lib.hid (followLeft_yes h1 h2 (by rw [Hlb.out]; exact hc))
        rw [Hla.out, Hlb.out] at Hr
        obtain ⟨q, hq⟩ : ∃ q, q = commonL xs ys := ⟨_, rfl⟩
        have CM := Lib.hid (fun W H H' => commonS_any A B n c m d xs ys W H H' (by omega) (by omega))
        rw [← hq] at CM hc b1 b2
        have t1 : ¬ (q : Int) < (m : Int) := by omega
        clear h1 h2 hq
        go_enter Tryd.func32, Tryd.ntmps32
        go_wp2_with (first
      | (go_at_call 25; (with_reducible refine (V.out _ L.now.1.2).mono ?_); rintro e w1 ⟨rfl, hb1⟩; have L1 := L.next hb1)
      | (go_at_call 25; (with_reducible refine (V2.out _ L1.now.2).mono ?_); rintro e w2 ⟨rfl, hb2⟩; have L2 := L1.next hb2)
      | (go_at_call 43; refine (CM.out _ L2.now.1.2 L2.now.2).mono ?_; rintro e w3 ⟨rfl, hb3⟩; have L3 := L2.next hb3))
        go_ret
        exact ⟨ret_int Hr.out.symm, L3.now.1.1⟩
      · have Hr := Lib.hid (followLeft_no (a := xs) (b := ys) (by rw [decide_eq_false (by rw [Hlb.out]; exact hc)]; simp))
        obtain ⟨q, hq⟩ : ∃ q, q = commonL xs ys := ⟨_, rfl⟩
        have CM := Lib.hid (fun W H H' => commonS_any A B n c m d xs ys W H H' (by omega) (by omega))
        rw [← hq] at CM hc b1 b2
        have t1 : (q : Int) < (m : Int) := by omega
        clear h1 h2 hq
        go_enter Tryd.func32, Tryd.ntmps32
        go_wp2_with (first
      | (go_at_call 25; (with_reducible refine (V.out _ L.now.1.2).mono ?_); rintro e w1 ⟨rfl, hb1⟩; have L1 := L.next hb1)
      | (go_at_call 25; (with_reducible refine (V2.out _ L1.now.2).mono ?_); rintro e w2 ⟨rfl, hb2⟩; have L2 := L1.next hb2)
      | (go_at_call 43; refine (CM.out _ L2.now.1.2 L2.now.2).mono ?_; rintro e w3 ⟨rfl, hb3⟩; have L3 := L2.next hb3))
        go_ret
        exact ⟨ret_int Hr.out.symm, L3.now.1.1⟩
end Go.Proofs.YtdmffpjljaolcaaDoor
