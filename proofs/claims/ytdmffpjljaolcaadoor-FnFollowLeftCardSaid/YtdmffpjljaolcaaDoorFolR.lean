/- Taking entries and mending a follower: the program's and the reference's. -/
import Derived.Test.YtdmffpjljaolcaaDoorFol
import Derived.Test.YtdmffpjljaolcaaDoorFolP
import Derived.Test.YtdmffpjljaolcaaDoorPFol2
import Derived.Test.YtdmffpjljaolcaaDoorRowX
namespace Go.Proofs.YtdmffpjljaolcaaDoor
set_option linter.unusedVariables false
set_option linter.unusedSimpArgs false
open Go.RowKit

/-- entries and whether it is fine. -/
def OkRet (p : List En × Bool) (w : World) (e : Ending) (w' : World) : Prop :=
  ∃ (A : Option Addr) (n c : Nat), e = .returned (.tuple #[.slice A n c, .bool p.2]) ∧ Row enCells 4 w' w'.heap.size A n p.1 ∧ n ≤ c ∧ Hid (A = none → c = 0) ∧ Below w.heap.size w w'
theorem ok_none {w W : World} (hb : Below W.heap.size W w) : OkRet ([], false) W (.returned (.tuple #[.slice (some ⟨w.heap.size, 0, none⟩) 0 0, .bool false])) (w.alloc (.cells #[] 31)) :=
  ⟨_, 0, 0, rfl, Row.nil _ _ _, Nat.le_refl _, Lib.hid (fun e => by cases e), hb.alloc hb.size _⟩
theorem ok_own {W w' : World} {v : Value} {base n : Nat} {xs : List En} (hl : xs.length = n) (h : w'.ownsRow base 31 4 v n (xs.flatMap enCells)) (hb : Below W.heap.size W w') : OkRet (xs, true) W (.returned (.tuple #[v, .bool true])) w' := by
  obtain ⟨A, c, rfl, h1, h2, h3, _⟩ := Row.of_own h hl
  exact ⟨A, n, c, rfl, h3, h1, Lib.hid h2, hb⟩

set_option maxRecDepth 100000 in
set_option maxHeartbeats 8000000 in
theorem followMend_any (A B : Option Addr) (n c m d : Nat) (xs ys : List En) (w : World) (h : Row enCells 4 w w.heap.size A n xs) (h' : Row enCells 4 w w.heap.size B m ys) (hsm : SmallEns xs) (hsm2 : SmallEns ys) (hnc : n ≤ c) (hmd : m ≤ d) (hnil : A = none → c = 0) (hnil2 : B = none → d = 0) (hnb : n ≤ 400000) (hmb : m ≤ 400000) (hg : GE w) :
    Calls Tryd.prog 34 #[.slice A n c, .slice B m d] w (OkRet (followMend xs ys) w) := by
  have L := (((Live.since (Below.refl w.heap.size w)).and (Live.ge hg)).and (Live.row h)).and (Live.row h')
  have Hla := Lib.hid h.1
  have Hlb := Lib.hid h'.1
  have V := Lib.hid (fun W H G => storeValid_any A n c xs W H hsm (by omega) G)
  have V2 := Lib.hid (fun W H G => storeValid_any B m d ys W H hsm2 (by omega) G)
  have Hnil := Lib.hid hnil
  have Hnil2 := Lib.hid hnil2
  clear h h' hsm hsm2 hnil hnil2 hg
  cases h1 : storeOk xs with
  | false =>
    have Hr := Lib.hid (followMend_no (a := xs) (b := ys) (by rw [h1]; rfl))
    rw [h1] at V
    clear h1
    go_enter Tryd.func34, Tryd.ntmps34
    go_wp2_with (go_at_call 19; (with_reducible refine (V.out _ L.now.1.2 L.now.1.1.2).mono ?_); rintro e w1 ⟨rfl, hb1⟩; have L1 := L.next hb1)
    go_ret2
    rw [Hr.out]
    exact ok_none L1.now.1.1.1
  | true =>
    rw [h1] at V
    cases h2 : storeOk ys with
    | false =>
      have Hr := Lib.hid (followMend_no (a := xs) (b := ys) (by rw [h2]; simp))
      rw [h2] at V2
      clear h1 h2
      go_enter Tryd.func34, Tryd.ntmps34
      go_wp2_with (first
        | (go_at_call 19; (with_reducible refine (V.out _ L.now.1.2 L.now.1.1.2).mono ?_); rintro e w1 ⟨rfl, hb1⟩; have L1 := L.next hb1)
        | (go_at_call 19; (with_reducible refine (V2.out _ L1.now.2 L1.now.1.1.2).mono ?_); rintro e w2 ⟨rfl, hb2⟩; have L2 := L1.next hb2))
      go_ret2
      rw [Hr.out]
      exact ok_none L2.now.1.1.1
    | true =>
      rw [h2] at V2
      have Hr := Lib.hid (followMend_yes h1 h2)
      obtain ⟨b1, b2, _, _⟩ := commonL_is xs ys
      rw [Hla.out] at b1
      rw [Hlb.out] at b2
      obtain ⟨q, hq⟩ : ∃ q, q = commonL xs ys := ⟨_, rfl⟩
      have CM := Lib.hid (fun W H H' => common_any A B n c m d xs ys W H H' (by omega) (by omega))
      rw [← hq] at CM Hr b1 b2
      have hqd : (q : Int) ≤ (d : Int) := by omega
      have Hlt : Hid ((ys.take q).length = q) := Lib.hid (by rw [List.length_take, Hlb.out]; omega)
      clear h1 h2 hq
      go_enter Tryd.func34, Tryd.ntmps34
      go_wp2_with (first
        | (go_at_call 19; (with_reducible refine (V.out _ L.now.1.2 L.now.1.1.2).mono ?_); rintro e w1 ⟨rfl, hb1⟩; have L1 := L.next hb1)
        | (go_at_call 19; (with_reducible refine (V2.out _ L1.now.2 L1.now.1.1.2).mono ?_); rintro e w2 ⟨rfl, hb2⟩; have L2 := L1.next hb2)
        | (go_at_call 42; refine (CM.out _ L2.now.1.2 L2.now.2).mono ?_; rintro e w3 ⟨rfl, hb3⟩; have L3 := L2.next hb3)
        | (go_at_call 60; go_must (refine (passed_any none 0 0 [] B q d (ys.take q) _ (Row.nil _ _ _) (L3.now.2.first enCells_len q (by omega)) (fun _ => rfl) (by omega) (by omega)).mono ?_; rintro e w4 ⟨A4, n4, c4, rfl, hr4, hc4, Hn4, hb4⟩)))
      go_ret2
      rw [Hr.out]
      exact ⟨A4, n4, c4, rfl, by simpa using hr4, hc4, Hn4, (L3.next hb4).now.1.1.1⟩

set_option maxRecDepth 100000 in
set_option maxHeartbeats 8000000 in
theorem followMendS_any (A B : Option Addr) (n c m d : Nat) (xs ys : List En) (w : World) (h : Row enCells 4 w w.heap.size A n xs) (h' : Row enCells 4 w w.heap.size B m ys) (hsm : SmallEns xs) (hsm2 : SmallEns ys) (hnc : n ≤ c) (hmd : m ≤ d) (hnil : A = none → c = 0) (hnil2 : B = none → d = 0) (hnb : n ≤ 400000) (hmb : m ≤ 400000) :
    Calls Tryd.prog 35 #[.slice A n c, .slice B m d] w (OkRet (followMend xs ys) w) := by
  have L := ((Live.since (Below.refl w.heap.size w)).and (Live.row h)).and (Live.row h')
  have Hla := Lib.hid h.1
  have Hlb := Lib.hid h'.1
  have V := Lib.hid (fun W H => storeValidS_any A n c xs W H hsm (by omega))
  have V2 := Lib.hid (fun W H => storeValidS_any B m d ys W H hsm2 (by omega))
  have Hnil := Lib.hid hnil
  have Hnil2 := Lib.hid hnil2
  clear h h' hsm hsm2 hnil hnil2
  cases h1 : storeOk xs with
  | false =>
    have Hr := Lib.hid (followMend_no (a := xs) (b := ys) (by rw [h1]; rfl))
    rw [h1] at V
    clear h1
    go_enter Tryd.func35, Tryd.ntmps35
    go_wp2_with (go_at_call 25; (with_reducible refine (V.out _ L.now.1.2).mono ?_); rintro e w1 ⟨rfl, hb1⟩; have L1 := L.next hb1)
    go_ret2
    rw [Hr.out]
    exact ok_none L1.now.1.1
  | true =>
    rw [h1] at V
    cases h2 : storeOk ys with
    | false =>
      have Hr := Lib.hid (followMend_no (a := xs) (b := ys) (by rw [h2]; simp))
      rw [h2] at V2
      clear h1 h2
      go_enter Tryd.func35, Tryd.ntmps35
      go_wp2_with (first
        | (go_at_call 25; (with_reducible refine (V.out _ L.now.1.2).mono ?_); rintro e w1 ⟨rfl, hb1⟩; have L1 := L.next hb1)
        | (go_at_call 25; (with_reducible refine (V2.out _ L1.now.2).mono ?_); rintro e w2 ⟨rfl, hb2⟩; have L2 := L1.next hb2))
      go_ret2
      rw [Hr.out]
      exact ok_none L2.now.1.1
    | true =>
      rw [h2] at V2
      have Hr := Lib.hid (followMend_yes h1 h2)
      obtain ⟨b1, b2, _, _⟩ := commonL_is xs ys
      rw [Hla.out] at b1
      rw [Hlb.out] at b2
      obtain ⟨q, hq⟩ : ∃ q, q = commonL xs ys := ⟨_, rfl⟩
      have CM := Lib.hid (fun W H H' => commonS_any A B n c m d xs ys W H H' (by omega) (by omega))
      rw [← hq] at CM Hr b1 b2
      have hqd : (q : Int) ≤ (d : Int) := by omega
      have Hlt : Hid ((ys.take q).length = q) := Lib.hid (by rw [List.length_take, Hlb.out]; omega)
      clear h1 h2 hq
      go_enter Tryd.func35, Tryd.ntmps35
      go_wp2_with (first
        | (go_at_call 25; (with_reducible refine (V.out _ L.now.1.2).mono ?_); rintro e w1 ⟨rfl, hb1⟩; have L1 := L.next hb1)
        | (go_at_call 25; (with_reducible refine (V2.out _ L1.now.2).mono ?_); rintro e w2 ⟨rfl, hb2⟩; have L2 := L1.next hb2)
        | (go_at_call 43; have LA := L2.next ((Below.refl w2.heap.size w2).alloc (Nat.le_refl _) (.cells #[] 31)); refine (CM.out _ LA.now.1.2 LA.now.2).mono ?_; rintro e w3 ⟨rfl, hb3⟩; have L3 := LA.next hb3; have hz3 := hb3.size; have hza : (w2.alloc (.cells #[] 31)).heap.size = w2.heap.size + 1 := (by simp); have hzb : w2.heap.size ≤ w3.heap.size := (by omega); have O3 := Lib.hid (own_next (World.ownsRow_lit (base := w2.heap.size) (e := 31) (size := 4) w2 #[] 0 (Nat.le_refl _) (Nat.zero_le _) rfl) hb3); have B3 := Lib.hid (bt ((Below.refl w2.heap.size w2).alloc (Nat.le_refl _) (.cells #[] 31)) hb3); clear hza hz3)
        | (at_builtin; go_must (refine app_src elemEn _ rfl _ _ rfl w2.heap.size _ 0 [] rfl O3.out B q d w3.heap.size ((ys.take q).flatMap enCells) rfl Hnil2.out (L3.now.2.first enCells_len q (by omega)).2 (ens_one _) ?_ ?_ ?_ ?_); omega; omega; (exact hzb); intro v7 w7 own7 grow7 or7; have B7 := own_below' O3.out (Nat.le_refl _) B3.out hzb grow7))
      rw [Nat.zero_add, List.nil_append] at own7
      go_ret2
      rw [Hr.out]
      exact ok_own Hlt.out own7 (L2.next B7).now.1.1

set_option maxRecDepth 100000 in
set_option maxHeartbeats 8000000 in
theorem followRun_any (A B : Option Addr) (n c m d : Nat) (xs ys : List En) (mm : Int) (w : World) (h : Row enCells 4 w w.heap.size A n xs) (h' : Row enCells 4 w w.heap.size B m ys) (hsm : SmallEns xs) (hsm2 : SmallEns ys) (hnc : n ≤ c) (hmd : m ≤ d) (hnil : A = none → c = 0) (hnil2 : B = none → d = 0) (hnb : n ≤ 400000) (hmb : m ≤ 400000) (hm1 : -1000 ≤ mm) (hm2 : mm ≤ 1000) (hg : GE w) :
    Calls Tryd.prog 28 #[.slice A n c, .slice B m d, .int .i64 mm] w (OkRet (followRun xs ys mm) w) := by
  have L := (((Live.since (Below.refl w.heap.size w)).and (Live.ge hg)).and (Live.row h)).and (Live.row h')
  have Hla := Lib.hid h.1
  have Hlb := Lib.hid h'.1
  have V := Lib.hid (fun W H G => storeValid_any A n c xs W H hsm (by omega) G)
  have V2 := Lib.hid (fun W H G => storeValid_any B m d ys W H hsm2 (by omega) G)
  have FL := Lib.hid (fun W H H' G => followLeft_any A B n c m d xs ys W H H' hsm hsm2 (by omega) (by omega) G)
  have Hnil := Lib.hid hnil
  have Hnil2 := Lib.hid hnil2
  clear h h' hsm hsm2 hnil hnil2 hg
  by_cases hfl : followLeft xs ys < 0
  · have Hr := Lib.hid (followRun_left_no (m := mm) hfl)
    obtain ⟨v, hv⟩ : ∃ v, followLeft xs ys = v := ⟨_, rfl⟩
    rw [hv] at FL hfl
    clear hv
    go_enter Tryd.func28, Tryd.ntmps28
    go_wp2_with (go_at_call 31; refine (FL.out _ L.now.1.2 L.now.2 L.now.1.1.2).mono ?_; rintro e w1 ⟨rfl, hb1⟩; have L1 := L.next hb1)
    go_ret2
    rw [Hr.out]
    exact ok_none L1.now.1.1.1
  · have hfl0 : 0 ≤ followLeft xs ys := by omega
    obtain ⟨h1, h2, h3, h4, h5, h6⟩ := followLeft_pos hfl0
    have h24 := storeOk_24 h2
    rw [Hlb.out] at h24
    cases hrd : rdOk 0 mm with
    | false =>
      have Hr := Lib.hid (followRun_many_no (a := xs) (b := ys) (m := mm) (fun hh => by have := rdOk_iff.2 ⟨⟨Int.le_refl 0, by omega⟩, hh.1, hh.2⟩; rw [this] at hrd; cases hrd))
      have R := fun W => readable_any 0 mm W
      rw [hrd] at R
      have HR := Lib.hid R
      obtain ⟨v, hv⟩ : ∃ v, followLeft xs ys = v := ⟨_, rfl⟩
      rw [hv] at FL hfl hfl0
      clear hv R h1 h2 h3 h4 h5 h6
      go_enter Tryd.func28, Tryd.ntmps28
      go_wp2_with (first
        | (go_at_call 31; refine (FL.out _ L.now.1.2 L.now.2 L.now.1.1.2).mono ?_; rintro e w1 ⟨rfl, hb1⟩; have L1 := L.next hb1)
        | (go_at_call 55; refine (HR.out _).mono ?_; rintro e w3 ⟨rfl, rfl⟩))
      go_ret2
      rw [Hr.out]
      exact ok_none L1.now.1.1.1
    | true =>
      obtain ⟨_, hm3, hm4⟩ := rdOk_iff.1 hrd
      have R := fun W => readable_any 0 mm W
      rw [hrd] at R
      have HR := Lib.hid R
      obtain ⟨q, rfl⟩ : ∃ q : Nat, mm = (q : Int) := ⟨mm.toNat, by omega⟩
      have hr := followRun_piece hfl0 (show q ≤ 99 by omega)
      rw [Hlb.out] at hr
      have Hr := Lib.hid hr
      obtain ⟨v, hv⟩ : ∃ v, followLeft xs ys = v := ⟨_, rfl⟩
      rw [hv] at FL hfl hfl0
      have PL := Lib.hid (piece_len xs m q)
      clear hv R h1 h2 h3 h4 h5 h6 hr hrd
      go_enter Tryd.func28, Tryd.ntmps28
      go_wp2_with (first
        | (go_at_call 31; refine (FL.out _ L.now.1.2 L.now.2 L.now.1.1.2).mono ?_; rintro e w1 ⟨rfl, hb1⟩; have L1 := L.next hb1)
        | (go_at_call 55; refine (HR.out _).mono ?_; rintro e w3 ⟨rfl, rfl⟩)
        | (go_at_call 61; go_must (refine (pieceEn_any A n c xs m q _ L1.now.1.2 hnc Hnil.out (by omega) (by omega) (by omega)).mono ?_; rintro e w4 ⟨A4, n4, c4, rfl, hr4, hc4, Hn4, hb4⟩; have L4 := (L1.next hb4).and (Live.row hr4); have hn4 : n4 ≤ 400000 := (by rw [← hr4.1]; have := PL.out.1; rw [Hla.out] at this; omega); clear hr4))
        | (go_at_call 60; go_must (refine (passed_any B m d ys A4 n4 c4 (pieceL xs m q) _ L4.now.1.2 L4.now.2 Hnil2.out (by omega) hn4).mono ?_; rintro e w5 ⟨A5, n5, c5, rfl, hr5, hc5, Hn5, hb5⟩)))
      go_ret2
      rw [Hr.out]
      exact ⟨A5, n5, c5, rfl, hr5, hc5, Hn5, (L4.next hb5).now.1.1.1.1⟩

set_option maxRecDepth 100000 in
set_option maxHeartbeats 8000000 in
theorem followRunS_any (A B : Option Addr) (n c m d : Nat) (xs ys : List En) (mm : Int) (w : World) (h : Row enCells 4 w w.heap.size A n xs) (h' : Row enCells 4 w w.heap.size B m ys) (hsm : SmallEns xs) (hsm2 : SmallEns ys) (hnc : n ≤ c) (hmd : m ≤ d) (hnil : A = none → c = 0) (hnil2 : B = none → d = 0) (hnb : n ≤ 400000) (hmb : m ≤ 400000) (hm1 : -1000 ≤ mm) (hm2 : mm ≤ 1000) :
    Calls Tryd.prog 29 #[.slice A n c, .slice B m d, .int .i64 mm] w (OkRet (followRun xs ys mm) w) := by
  have L := ((Live.since (Below.refl w.heap.size w)).and (Live.row h)).and (Live.row h')
  have Hla := Lib.hid h.1
  have Hlb := Lib.hid h'.1
  have V := Lib.hid (fun W H => storeValidS_any A n c xs W H hsm (by omega))
  have V2 := Lib.hid (fun W H => storeValidS_any B m d ys W H hsm2 (by omega))
  have Hnil := Lib.hid hnil
  have Hnil2 := Lib.hid hnil2
  clear h h' hsm hsm2 hnil hnil2
  cases h1 : storeOk xs with
  | false =>
    have Hr := Lib.hid (followRun_no (a := xs) (b := ys) (m := mm) (by rw [h1]; rfl))
    rw [h1] at V
    clear h1
    go_enter Tryd.func29, Tryd.ntmps29
    go_wp2_with (go_at_call 25; (with_reducible refine (V.out _ L.now.1.2).mono ?_); rintro e w1 ⟨rfl, hb1⟩; have L1 := L.next hb1)
    go_ret2
    rw [Hr.out]
    exact ok_none L1.now.1.1
  | true =>
    rw [h1] at V
    cases h2 : storeOk ys with
    | false =>
      have Hr := Lib.hid (followRun_no (a := xs) (b := ys) (m := mm) (by rw [h2]; simp))
      rw [h2] at V2
      clear h1 h2
      go_enter Tryd.func29, Tryd.ntmps29
      go_wp2_with (first
        | (go_at_call 25; (with_reducible refine (V.out _ L.now.1.2).mono ?_); rintro e w1 ⟨rfl, hb1⟩; have L1 := L.next hb1)
        | (go_at_call 25; (with_reducible refine (V2.out _ L1.now.2).mono ?_); rintro e w2 ⟨rfl, hb2⟩; have L2 := L1.next hb2))
      go_ret2
      rw [Hr.out]
      exact ok_none L2.now.1.1
    | true =>
      rw [h2] at V2
      have R := fun W => l6In_at mm 0 99 W
      cases hd : decide (0 ≤ mm ∧ mm ≤ 99) with
      | false =>
        have Hr := Lib.hid (followRun_no (a := xs) (b := ys) (m := mm) (by rw [hd]; simp))
        rw [hd] at R
        have HI := Lib.hid R
        clear h1 h2 R hd
        go_enter Tryd.func29, Tryd.ntmps29
        go_wp2_with (first
          | (go_at_call 25; (with_reducible refine (V.out _ L.now.1.2).mono ?_); rintro e w1 ⟨rfl, hb1⟩; have L1 := L.next hb1)
          | (go_at_call 25; (with_reducible refine (V2.out _ L1.now.2).mono ?_); rintro e w2 ⟨rfl, hb2⟩; have L2 := L1.next hb2)
          | (go_at_call 62; (with_reducible refine (HI.out _).mono ?_); rintro e w3 ⟨rfl, rfl⟩))
        go_ret2
        rw [Hr.out]
        exact ok_none L2.now.1.1
      | true =>
        rw [hd] at R
        have HI := Lib.hid R
        have hmm := of_decide_eq_true hd
        obtain ⟨b1, b2, _, _⟩ := commonL_is xs ys
        rw [Hla.out] at b1
        rw [Hlb.out] at b2
        by_cases hc : ys.length ≤ commonL xs ys
        · have hr := followRun_yes h1 h2 hc hmm
          rw [Hlb.out] at hr hc
          obtain ⟨q, hq⟩ : ∃ q, q = commonL xs ys := ⟨_, rfl⟩
          have CM := Lib.hid (fun W H H' => commonS_any A B n c m d xs ys W H H' (by omega) (by omega))
          rw [← hq] at CM hc b1 b2
          have t1 : ¬ (q : Int) < (m : Int) := by omega
          obtain ⟨p, rfl⟩ : ∃ p : Nat, mm = (p : Int) := ⟨mm.toNat, by omega⟩
          rw [Int.toNat_natCast] at hr
          obtain ⟨en, hen⟩ : ∃ en, en = min (m + p) n := ⟨_, rfl⟩
          have e1 : min ((m : Int) + (p : Int)) (n : Int) = (en : Int) := by omega
          have e2 : xs.take (m + p) = xs.take en := by rw [hen, List.take_eq_take_iff, Hla.out]; omega
          rw [e2] at hr
          have Hr := Lib.hid hr
          have hec : (en : Int) ≤ (c : Int) := by omega
          have hen1 : en ≤ n := by omega
          have Hlt : Hid ((xs.take en).length = en) := Lib.hid (by rw [List.length_take, Hla.out]; omega)
          clear h1 h2 R hd hq hr e2 hen hmm
          go_enter Tryd.func29, Tryd.ntmps29
          go_wp2_with (first
            | (go_at_call 25; (with_reducible refine (V.out _ L.now.1.2).mono ?_); rintro e w1 ⟨rfl, hb1⟩; have L1 := L.next hb1)
            | (go_at_call 25; (with_reducible refine (V2.out _ L1.now.2).mono ?_); rintro e w2 ⟨rfl, hb2⟩; have L2 := L1.next hb2)
            | (go_at_call 62; (with_reducible refine (HI.out _).mono ?_); rintro e w3 ⟨rfl, rfl⟩)
            | (go_at_call 43; refine (CM.out _ L2.now.1.2 L2.now.2).mono ?_; rintro e w4 ⟨rfl, hb4⟩; have L4 := L2.next hb4)
            | (at_builtin; go_must (refine app_src elemEn _ rfl _ _ rfl w4.heap.size _ 0 [] rfl (World.ownsRow_lit (base := w4.heap.size) (e := 31) (size := 4) w4 #[] 0 (Nat.le_refl _) (Nat.zero_le _) rfl) A en c w4.heap.size ((xs.take en).flatMap enCells) rfl Hnil.out ((L4.now.1.2.first enCells_len en hen1).2.below ((Below.refl _ _).alloc (Nat.le_refl _) _)) (ens_one _) ?_ ?_ ?_ ?_); omega; omega; (show w4.heap.size ≤ (w4.alloc _).heap.size; simp); intro v7 w7 own7 grow7 or7))
          rw [Nat.zero_add, List.nil_append] at own7
          have B7 : Below w4.heap.size w4 w7 := ((Below.refl _ _).alloc (Nat.le_refl _) (.cells #[] 31)).grown grow7 (by simp) (fun k hk => by injection hk with e; rw [← e]; exact Nat.le_refl _)
          go_ret2
          rw [Hr.out]
          exact ok_own Hlt.out own7 (L4.next B7).now.1.1
        · have Hr := Lib.hid (followRun_no (a := xs) (b := ys) (m := mm) (by rw [decide_eq_false hc]; simp))
          rw [Hlb.out] at hc
          obtain ⟨q, hq⟩ : ∃ q, q = commonL xs ys := ⟨_, rfl⟩
          have CM := Lib.hid (fun W H H' => commonS_any A B n c m d xs ys W H H' (by omega) (by omega))
          rw [← hq] at CM hc b1 b2
          have t1 : (q : Int) < (m : Int) := by omega
          clear h1 h2 R hd hq
          go_enter Tryd.func29, Tryd.ntmps29
          go_wp2_with (first
            | (go_at_call 25; (with_reducible refine (V.out _ L.now.1.2).mono ?_); rintro e w1 ⟨rfl, hb1⟩; have L1 := L.next hb1)
            | (go_at_call 25; (with_reducible refine (V2.out _ L1.now.2).mono ?_); rintro e w2 ⟨rfl, hb2⟩; have L2 := L1.next hb2)
            | (go_at_call 62; (with_reducible refine (HI.out _).mono ?_); rintro e w3 ⟨rfl, rfl⟩)
            | (go_at_call 43; refine (CM.out _ L2.now.1.2 L2.now.2).mono ?_; rintro e w4 ⟨rfl, hb4⟩; have L4 := L2.next hb4))
          go_ret2
          rw [Hr.out]
          exact ok_none L4.now.1.1
end Go.Proofs.YtdmffpjljaolcaaDoor
