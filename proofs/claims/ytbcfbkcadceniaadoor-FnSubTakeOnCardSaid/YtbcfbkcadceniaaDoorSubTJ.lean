/- The next entries for a subscriber: the program's walk. -/
import Derived.Test.YtbcfbkcadceniaaDoorSubTI
namespace Go.Proofs.YtbcfbkcadceniaaDoor
set_option linter.unusedVariables false
set_option linter.unusedSimpArgs false
open Go.RowKit Go.Shelf

attribute [local go_sem] Oper.semAt_some

set_option maxRecDepth 100000 in
set_option maxHeartbeats 8000000 in
theorem subTake_any (A : Option Addr) (n c : Nat) (xs : List En) (cat : ByteArray) (at_ m : Int) (w : World) (h : Row enCells 4 w w.heap.size A n xs) (hsm : SmallEns xs) (hB : SbB ⟨cat, at_⟩) (hnb : n ≤ 1000) (hg : GE w) :
    Calls Tryd.prog 38 #[.slice A n c, .agg #[.string cat, .int .i64 at_], .int .i64 m] w (SubRet (subTake xs ⟨cat, at_⟩ m) w) := by
  have Hl := Lib.hid h.1
  have H0 := Lib.hid h
  have hb0 : Below w.heap.size w (((w.alloc (.cells #[.string cat, .int .i64 at_] 60)).alloc (.cells #[.int .i64 m] 3)).alloc (.cells #[.string ⟨#[]⟩, .int .i64 0] 60)) := (((Below.refl _ _).alloc (Nat.le_refl _) _).alloc (by simp) _).alloc (by simp; omega) _
  have L : Live (((w.alloc (.cells #[.string cat, .int .i64 at_] 60)).alloc (.cells #[.int .i64 m] 3)).alloc (.cells #[.string ⟨#[]⟩, .int .i64 0] 60)) fun W => ((((Below w.heap.size w W ∧ Row enCells 4 W W.heap.size A n xs) ∧ GE W) ∧ Blk W w.heap.size 60 #[.string cat, .int .i64 at_]) ∧ Blk W (w.heap.size + 1) 3 #[.int .i64 m]) ∧ Blk W (w.heap.size + 1 + 1) 60 #[.string ⟨#[]⟩, .int .i64 0] :=
    (((((Live.since hb0).and (Live.row (h.next hb0))).and (Live.ge (hg.below hb0))).and (Live.blk (((Blk.new w _ _).alloc _).alloc _))).and (Live.blk (by have := (Blk.new (w.alloc (.cells #[.string cat, .int .i64 at_] 60)) 3 #[.int .i64 m]).alloc (.cells #[.string ⟨#[]⟩, .int .i64 0] 60); simpa using this))).and (Live.blk (by have := Blk.new ((w.alloc (.cells #[.string cat, .int .i64 at_] 60)).alloc (.cells #[.int .i64 m] 3)) 60 #[.string ⟨#[]⟩, .int .i64 0]; simpa using this))
  have V1 := Lib.hid (fun W H G => storeValid_any A n c xs W H hsm (by omega) G)
  have V2 := Lib.hid (fun W => subValid_any cat at_ W hB)
  have V3 := Lib.hid (fun W => readable_any 0 m W)
  have hrd : rdOk 0 m = decide (0 ≤ m ∧ m ≤ 99) := by
    rw [Bool.eq_iff_iff, rdOk_iff, decide_eq_true_eq]; omega
  rw [hrd] at V3
  have G0 := Lib.hid hg
  clear h hb0 hg hrd
  cases h1 : storeOk xs with
  | false =>
    rw [h1] at V1
    have Hr := Lib.hid (subTake_no (xs := xs) (s := ⟨cat, at_⟩) (m := m) (by rw [h1]; rfl))
    go_enter Tryd.func38, Tryd.ntmps38
    go_wp2_with (first
      | (go_at_call 46; refine (V1.out _ L.now.1.1.1.1.2 L.now.1.1.1.2).mono ?_; rintro e w1 ⟨rfl, hb1⟩; have L1 := L.next hb1; have HB1 := Lib.hid hb1; have c0 := L1.now.1.1.2.cell 0; have c1 := L1.now.1.1.2.cell 1; have m0 := L1.now.1.2.cell 0; have LE := L1.next ((Below.refl _ _).alloc (Nat.le_refl _) (.cells #[] 35)); have z0 := LE.now.2.cell 0; have z1 := LE.now.2.cell 1; have y0 := LE.now.2.frozen 0; have y1 := LE.now.2.frozen 1))
    refine bodyPost_ret (v := .tuple #[.slice (some ⟨w1.heap.size, 0, none⟩) 0 0, .agg #[.string ⟨#[]⟩, .int .i64 0], .bool false]) (by simp [results, Tryd.results38, go_sem, z0, z1]) rfl ?_
    rw [Hr.out]
    exact ⟨_, 0, 0, rfl, Row.nil _ _ _, Nat.le_refl _, Lib.hid (fun e => by cases e), ((L1.now.1.1.1.1.1.alloc L1.now.1.1.1.1.1.size _).setCell (p := ⟨w.heap.size + 1 + 1, 0, none⟩) (by show w.heap.size ≤ w.heap.size + 1 + 1; omega) _).setCell (p := ⟨w.heap.size + 1 + 1, 1, none⟩) (by show w.heap.size ≤ w.heap.size + 1 + 1; omega) _⟩
  | true =>
    rw [h1] at V1
    cases h2 : subOk ⟨cat, at_⟩ with
    | false =>
      rw [h2] at V2
      have Hr := Lib.hid (subTake_no (xs := xs) (s := ⟨cat, at_⟩) (m := m) (by rw [h2]; simp))
      go_enter Tryd.func38, Tryd.ntmps38
      go_wp2_with (first
        | (go_at_call 46; refine (V1.out _ L.now.1.1.1.1.2 L.now.1.1.1.2).mono ?_; rintro e w1 ⟨rfl, hb1⟩; have L1 := L.next hb1; have HB1 := Lib.hid hb1; have c0 := L1.now.1.1.2.cell 0; have c1 := L1.now.1.1.2.cell 1; have m0 := L1.now.1.2.cell 0; have LE := L1.next ((Below.refl _ _).alloc (Nat.le_refl _) (.cells #[] 35)); have z0 := LE.now.2.cell 0; have z1 := LE.now.2.cell 1; have y0 := LE.now.2.frozen 0; have y1 := LE.now.2.frozen 1)
        | (go_at_call 69; refine (V2.out _).mono ?_; rintro e w2 ⟨rfl, hb2⟩; have L2 := L1.next hb2; have m0 := L2.now.1.2.cell 0; have LE := L2.next ((Below.refl _ _).alloc (Nat.le_refl _) (.cells #[] 35)); have z0 := LE.now.2.cell 0; have z1 := LE.now.2.cell 1; have y0 := LE.now.2.frozen 0; have y1 := LE.now.2.frozen 1))
      refine bodyPost_ret (v := .tuple #[.slice (some ⟨w2.heap.size, 0, none⟩) 0 0, .agg #[.string ⟨#[]⟩, .int .i64 0], .bool false]) (by simp [results, Tryd.results38, go_sem, z0, z1]) rfl ?_
      rw [Hr.out]
      exact ⟨_, 0, 0, rfl, Row.nil _ _ _, Nat.le_refl _, Lib.hid (fun e => by cases e), ((L2.now.1.1.1.1.1.alloc L2.now.1.1.1.1.1.size _).setCell (p := ⟨w.heap.size + 1 + 1, 0, none⟩) (by show w.heap.size ≤ w.heap.size + 1 + 1; omega) _).setCell (p := ⟨w.heap.size + 1 + 1, 1, none⟩) (by show w.heap.size ≤ w.heap.size + 1 + 1; omega) _⟩
    | true =>
      rw [h2] at V2
      cases h3 : decide (0 ≤ m ∧ m ≤ 99) with
      | false =>
        rw [h3] at V3
        have Hr := Lib.hid (subTake_no (xs := xs) (s := ⟨cat, at_⟩) (m := m) (by rw [h3]; simp))
        go_enter Tryd.func38, Tryd.ntmps38
        go_wp2_with (first
          | (go_at_call 46; refine (V1.out _ L.now.1.1.1.1.2 L.now.1.1.1.2).mono ?_; rintro e w1 ⟨rfl, hb1⟩; have L1 := L.next hb1; have HB1 := Lib.hid hb1; have c0 := L1.now.1.1.2.cell 0; have c1 := L1.now.1.1.2.cell 1; have m0 := L1.now.1.2.cell 0; have LE := L1.next ((Below.refl _ _).alloc (Nat.le_refl _) (.cells #[] 35)); have z0 := LE.now.2.cell 0; have z1 := LE.now.2.cell 1; have y0 := LE.now.2.frozen 0; have y1 := LE.now.2.frozen 1)
          | (go_at_call 69; refine (V2.out _).mono ?_; rintro e w2 ⟨rfl, hb2⟩; have L2 := L1.next hb2; have m0 := L2.now.1.2.cell 0; have LE := L2.next ((Below.refl _ _).alloc (Nat.le_refl _) (.cells #[] 35)); have z0 := LE.now.2.cell 0; have z1 := LE.now.2.cell 1; have y0 := LE.now.2.frozen 0; have y1 := LE.now.2.frozen 1)
          | (go_at_call 66; refine (V3.out _).mono ?_; rintro e w3 ⟨rfl, rfl⟩))
        refine bodyPost_ret (v := .tuple #[.slice (some ⟨w2.heap.size, 0, none⟩) 0 0, .agg #[.string ⟨#[]⟩, .int .i64 0], .bool false]) (by simp [results, Tryd.results38, go_sem, z0, z1]) rfl ?_
        rw [Hr.out]
        exact ⟨_, 0, 0, rfl, Row.nil _ _ _, Nat.le_refl _, Lib.hid (fun e => by cases e), ((L2.now.1.1.1.1.1.alloc L2.now.1.1.1.1.1.size _).setCell (p := ⟨w.heap.size + 1 + 1, 0, none⟩) (by show w.heap.size ≤ w.heap.size + 1 + 1; omega) _).setCell (p := ⟨w.heap.size + 1 + 1, 1, none⟩) (by show w.heap.size ≤ w.heap.size + 1 + 1; omega) _⟩
      | true =>
        rw [h3] at V3
        have h4 := of_decide_eq_true h3
        obtain ⟨-, k1, k2⟩ := subOk_iff.1 h2
        simp only at k1 k2
        obtain ⟨a, rfl⟩ : ∃ a : Nat, at_ = (a : Int) := ⟨at_.toNat, by omega⟩
        obtain ⟨mm, rfl⟩ : ∃ mm : Nat, m = (mm : Int) := ⟨m.toNat, by omega⟩
        have hmm : mm ≤ 99 := by omega
        have ha : a ≤ 1000 := by omega
        have Hr := Lib.hid (fun k x1 x2 x3 => subTake_go (xs := xs) (cat := cat) (a := a) (m := mm) (k := k) h1 h2 hmm x1 x2 x3)
        clear h1 h2 h3 h4 hB k1 k2
        refine (callsIn_wide (n := 6)).1 ?_
        refine callsIn_of_wp_marks Tryd.func38 rfl trivial ?_ rfl
        simp only [Tryd.ntmps38, List.size_toArray, List.length_cons, List.length_nil, Nat.reduceAdd, Nat.reduceSub, Array.replicate_succ, Array.replicate_zero, List.push_toArray, List.append_toArray, List.nil_append, List.cons_append]
        gi_wp2_with (first
          | (refine ⟨trivial, ?_⟩; gi_at_call 46; refine (callsIn_wide.2 (V1.out _ L.now.1.1.1.1.2 L.now.1.1.1.2)).mono ?_; rintro e w1 ⟨rfl, hb1⟩; have L1 := L.next hb1; have HB1 := Lib.hid hb1; have c0 := L1.now.1.1.2.cell 0; have c1 := L1.now.1.1.2.cell 1; have m0 := L1.now.1.2.cell 0; have LE := L1.next ((Below.refl _ _).alloc (Nat.le_refl _) (.cells #[] 35)); have z0 := LE.now.2.cell 0; have z1 := LE.now.2.cell 1; have y0 := LE.now.2.frozen 0; have y1 := LE.now.2.frozen 1)
          | (refine ⟨trivial, ?_⟩; gi_at_call 69; refine (callsIn_wide.2 (V2.out _)).mono ?_; rintro e w2 ⟨rfl, hb2⟩; have L2 := L1.next hb2; have m0 := L2.now.1.2.cell 0; have L2' := (L2.next ((Below.refl _ _).alloc (Nat.le_refl _) (.cells #[] 35))).next ((Below.refl _ _).alloc (Nat.le_refl _) (.cells #[.slice (some ⟨w2.heap.size, 0, none⟩) 0 0] 23)); have d1 : ((w2.alloc (.cells #[] 35)).alloc (.cells #[.slice (some ⟨w2.heap.size, 0, none⟩) 0 0] 23)).cell? ⟨w.heap.size, 1, none⟩ = some (.int .i64 (a : Int)) := L2'.now.1.1.2.cell 1; have LE := L2.next ((Below.refl _ _).alloc (Nat.le_refl _) (.cells #[] 35)); have z0 := LE.now.2.cell 0; have z1 := LE.now.2.cell 1; have y0 := LE.now.2.frozen 0; have y1 := LE.now.2.frozen 1)
          | (refine ⟨trivial, ?_⟩; gi_at_call 66; refine (callsIn_wide.2 (V3.out _)).mono ?_; rintro e w3 ⟨rfl, rfl⟩)
          | (refine ⟨trivial, ?_⟩; gi_at_call 70; refine (from_in Fence.wide _ trivial rfl _ _ _ _ _).mono ?_; rintro e w4 ⟨rfl, rfl⟩))
        have hw2 : w.heap.size + 3 ≤ w2.heap.size := by have := L2.now.2.lt; omega
        have hB0 : Below w2.heap.size w2 ((((w2.alloc (.cells #[] 35)).alloc (.cells #[.slice (some ⟨w2.heap.size, 0, none⟩) 0 0] 23)).alloc (.cells #[.slice A n c] 23)).alloc (.cells #[.int .i64 (a : Int)] 3)) := ((((Below.refl _ w2).alloc (Nat.le_refl _) _).alloc (by simp) _).alloc (by simp; omega) _).alloc (by simp; omega) _
        have hsz : ((((w2.alloc (.cells #[] 35)).alloc (.cells #[.slice (some ⟨w2.heap.size, 0, none⟩) 0 0] 23)).alloc (.cells #[.slice A n c] 23)).alloc (.cells #[.int .i64 (a : Int)] 3)).heap.size = w2.heap.size + 4 := by simp
        have bT : Blk ((((w2.alloc (.cells #[] 35)).alloc (.cells #[.slice (some ⟨w2.heap.size, 0, none⟩) 0 0] 23)).alloc (.cells #[.slice A n c] 23)).alloc (.cells #[.int .i64 (a : Int)] 3)) (w2.heap.size + 1) 23 #[.slice (some ⟨w2.heap.size, 0, none⟩) 0 0] := by
          have := ((Blk.new (w2.alloc (.cells #[] 35)) 23 #[.slice (some ⟨w2.heap.size, 0, none⟩) 0 0]).alloc (.cells #[.slice A n c] 23)).alloc (.cells #[.int .i64 (a : Int)] 3)
          simpa using this
        have bA : Blk ((((w2.alloc (.cells #[] 35)).alloc (.cells #[.slice (some ⟨w2.heap.size, 0, none⟩) 0 0] 23)).alloc (.cells #[.slice A n c] 23)).alloc (.cells #[.int .i64 (a : Int)] 3)) (w2.heap.size + 1 + 1) 23 #[.slice A n c] := by
          have := (Blk.new ((w2.alloc (.cells #[] 35)).alloc (.cells #[.slice (some ⟨w2.heap.size, 0, none⟩) 0 0] 23)) 23 #[.slice A n c]).alloc (.cells #[.int .i64 (a : Int)] 3)
          simpa using this
        have bF : Blk ((((w2.alloc (.cells #[] 35)).alloc (.cells #[.slice (some ⟨w2.heap.size, 0, none⟩) 0 0] 23)).alloc (.cells #[.slice A n c] 23)).alloc (.cells #[.int .i64 (a : Int)] 3)) (w2.heap.size + 1 + 1 + 1) 3 #[.int .i64 (a : Int)] := by
          have := Blk.new (((w2.alloc (.cells #[] 35)).alloc (.cells #[.slice (some ⟨w2.heap.size, 0, none⟩) 0 0] 23)).alloc (.cells #[.slice A n c] 23)) 3 #[.int .i64 (a : Int)]
          simpa using this
        have hown : ((((w2.alloc (.cells #[] 35)).alloc (.cells #[.slice (some ⟨w2.heap.size, 0, none⟩) 0 0] 23)).alloc (.cells #[.slice A n c] 23)).alloc (.cells #[.int .i64 (a : Int)] 3)).ownsRow w2.heap.size 35 4 (.slice (some ⟨w2.heap.size, 0, none⟩) 0 0) 0 [] := (((World.ownsRow_lit (base := w2.heap.size) (e := 35) (size := 4) w2 #[] 0 (Nat.le_refl _) (Nat.zero_le _) rfl).alloc _).alloc _).alloc _
        have L5 := L2.next hB0
        clear L LE L1 L2' HB1 hb1 hb2 V1 V2 V3 c0 c1 m0 z0 z1 y0 y1 d1
        obtain ⟨W0, hW0⟩ : ∃ W0, (((w2.alloc (.cells #[] 35)).alloc (.cells #[.slice (some ⟨w2.heap.size, 0, none⟩) 0 0] 23)).alloc (.cells #[.slice A n c] 23)).alloc (.cells #[.int .i64 (a : Int)] 3) = W0 := ⟨_, rfl⟩
        rw [hW0] at hB0 hsz bT bA bF hown L5 ⊢
        clear hW0
        have hlen := Hl.out
        have hnr := L5.now.1.1.1.1.1
        refine wpIn_rangeFunc_ownH (α := Nat) rfl (by omega) (gf := 86) (lb := #[.pointer (some ⟨w2.heap.size + 1 + 1 + 1, 0, none⟩), .pointer (some ⟨w2.heap.size + 1 + 1, 0, none⟩)]) rfl trivial (enters_of Tryd.func86 (by kernel_rfl) rfl)
          (from_stops Fence.wide _ trivial rfl (by omega) (w2.heap.size + 1 + 1) (w2.heap.size + 1 + 1 + 1) w.heap.size A n c a xs hnb ha W0 (by omega) (by omega) (by omega) (bF.cell 0) ⟨bA.cell 0, H0.out.below hnr⟩)
          Keeps.trans (Keeps.putObj (by omega) (by omega)) (Below.refl _ _) (fun _ => rfl)
          (fun pre W => (∃ v, Blk W (w2.heap.size + 1) 23 #[v] ∧ W.ownsRow w2.heap.size 35 4 v (fitL xs cat pre).length ((fitL xs cat pre).flatMap enCells)) ∧ Blk W (w2.heap.size + 1 + 1) 23 #[.slice A n c] ∧ Blk W w.heap.size 60 #[.string cat, .int .i64 (sAt a pre)] ∧ Blk W (w.heap.size + 1) 3 #[.int .i64 (mm : Int)] ∧ Blk W (w.heap.size + 1 + 1) 60 #[.string ⟨#[]⟩, .int .i64 0] ∧ NeverFull xs cat mm pre ∧ Below w.heap.size w W)
          (fun cc pre W => cc = .exit 0 ∧ ∃ ini x, pre = ini ++ [x] ∧ (fitL xs cat ini).length = mm ∧ (∃ v, Blk W (w2.heap.size + 1) 23 #[v] ∧ W.ownsRow w2.heap.size 35 4 v (fitL xs cat ini).length ((fitL xs cat ini).flatMap enCells)) ∧ Blk W (w2.heap.size + 1 + 1) 23 #[.slice A n c] ∧ Blk W w.heap.size 60 #[.string cat, .int .i64 (sAt a ini)] ∧ Blk W (w.heap.size + 1) 3 #[.int .i64 (mm : Int)] ∧ Blk W (w.heap.size + 1 + 1) 60 #[.string ⟨#[]⟩, .int .i64 0] ∧ NeverFull xs cat mm ini ∧ Below w.heap.size w W)
          (fun s X Y row hs hg hr => by
            obtain ⟨⟨v, q1, q2⟩, q3, q4, q5, q6, q7, q8⟩ := hs
            exact ⟨⟨v, blk_own _ _ _ (fun (_ : Unit) => _) () X Y row q1 hg hr, own_from q2 hg hr⟩, blk_own _ _ _ (fun (_ : Unit) => _) () X Y row q3 hg hr, blk_own _ _ _ (fun (_ : Unit) => _) () X Y row q4 hg hr, blk_own _ _ _ (fun (_ : Unit) => _) () X Y row q5 hg hr, blk_own _ _ _ (fun (_ : Unit) => _) () X Y row q6 hg hr, q7, ownFrom_below (β := Unit) (Nat.le_refl _) (by omega) () X Y row q8 hg hr⟩)
          (fun cc s X Y row hs hg hr => by
            obtain ⟨e1, ini, x, e2, e3, ⟨v, q1, q2⟩, q3, q4, q5, q6, q7, q8⟩ := hs
            exact ⟨e1, ini, x, e2, e3, ⟨v, blk_own _ _ _ (fun (_ : Unit) => _) () X Y row q1 hg hr, own_from q2 hg hr⟩, blk_own _ _ _ (fun (_ : Unit) => _) () X Y row q3 hg hr, blk_own _ _ _ (fun (_ : Unit) => _) () X Y row q4 hg hr, blk_own _ _ _ (fun (_ : Unit) => _) () X Y row q5 hg hr, blk_own _ _ _ (fun (_ : Unit) => _) () X Y row q6 hg hr, q7, ownFrom_below (β := Unit) (Nat.le_refl _) (by omega) () X Y row q8 hg hr⟩)
          ⟨⟨_, bT, hown⟩, bA, L5.now.1.1.2, L5.now.1.2, L5.now.2, neverFull_nil _ _ _, hnr⟩
          (fun x a' W => ∃ Bx, Blk W Bx 35 #[.string (nx xs x).name, .int .i64 (nx xs x).ev.id, .string (nx xs x).ev.kind, .int .i64 (nx xs x).ev.data] ∧ a' = { tmps := #[.slice A n c, .agg #[.string cat, .int .i64 (a : Int)], .int .i64 (mm : Int), undef, .pointer (some ⟨w.heap.size, 0, none⟩), .pointer (some ⟨w.heap.size + 1, 0, none⟩), .slice none 0 0, .pointer (some ⟨w.heap.size + 1 + 1, 0, none⟩), .bool false, .pointer (some ⟨w2.heap.size + 1, 0, none⟩), .int .i64 (x : Int), .pointer (some ⟨Bx, 0, none⟩), .slice A n c, .bool true, .bool false, .bool false, .agg #[.string cat, .int .i64 (a : Int)], .bool true, .bool false, .bool false, .bool false, .int .i64 (mm : Int), .bool true, .bool false, .bool false, undef, undef, .slice (some ⟨w2.heap.size, 0, none⟩) 0 0, .slice A n c, .pointer (some ⟨w.heap.size, 1, none⟩), .int .i64 (a : Int), .func (.func 86) #[] #[.pointer (some ⟨w2.heap.size + 1 + 1 + 1, 0, none⟩), .pointer (some ⟨w2.heap.size + 1 + 1, 0, none⟩)], .int .i64 (x : Int), .agg #[.string (nx xs x).name, .int .i64 (nx xs x).ev.id, .string (nx xs x).ev.kind, .int .i64 (nx xs x).ev.data], undef, undef, undef, undef, undef, undef, undef, undef, undef, undef, undef, undef, undef, undef, undef, undef], defers := [] })
          (fun x a' _ X Y row hs hg hr => by obtain ⟨Bx, h2, h3⟩ := hs; exact ⟨Bx, blk_own _ Bx _ (fun (_ : Unit) => #[.string (nx xs x).name, .int .i64 (nx xs x).ev.id, .string (nx xs x).ev.kind, .int .i64 (nx xs x).ev.data]) () X Y row h2 hg hr, h3⟩)
          ?assign ?body ?done ?stop
        case assign =>
          rintro l pre x W K ⟨⟨v, q1, q2⟩, q3, q4, q5, q6, q7, q8⟩ hK
          unfold entArgs
          gi_wp2
          have hb : Below W.heap.size W (W.alloc (.cells #[.string (nx xs x).name, .int .i64 (nx xs x).ev.id, .string (nx xs x).ev.kind, .int .i64 (nx xs x).ev.data] 35)) := (Below.refl _ _).alloc (Nat.le_refl _) _
          exact hK _ _ (below_others hb _) (Keeps.of_below hb q8.size) ⟨⟨v, q1.alloc _, q2.alloc _⟩, q3.alloc _, q4.alloc _, q5.alloc _, q6.alloc _, q7, q8.trans (hb.mono q8.size)⟩ ⟨W.heap.size, Blk.new W _ _, rfl⟩
        case body =>
          rintro l pre x a' W hl ⟨r, hr⟩ ⟨⟨v, q1, q2⟩, q3, q4, q5, q6, q7, q8⟩ ⟨Bx, bX, rfl⟩ hlt
          obtain ⟨A', c', rfl, hnc, hnil, hrow, hbase⟩ := Row.of_own q2 rfl
          have Q1 := Lib.hid q1
          have Q2 := Lib.hid q2
          have Q3 := Lib.hid q3
          have Q4 := Lib.hid q4
          have Q5 := Lib.hid q5
          have Q6 := Lib.hid q6
          have Q7 := Lib.hid q7
          have Q8 := Lib.hid q8
          have t0 := q1.cell 0
          have m0 := q5.cell 0
          have hle := fitL_le xs cat pre
          clear q1 q2 q3 q4 q5 q6 q7 q8 hrow hbase hnil
          by_cases hfu : (fitL xs cat pre).length = mm
          · have ef : ((((fitL xs cat pre).length : Nat) : Int) == (mm : Int)) = true := by rw [hfu]; exact beq_self_eq_true _
            have Hfu := Lib.hid hfu
            clear hfu
            gi_wp2
            exact ⟨KeepsFrom.refl _ _, rfl, pre, x, rfl, Hfu.out, ⟨_, Q1.out, Q2.out⟩, Q3.out, Q4.out, Q5.out, Q6.out, Q7.out, Q8.out⟩
          · have ef : ((((fitL xs cat pre).length : Nat) : Int) == (mm : Int)) = false := beq_eq_false_iff_ne.2 (by omega)
            have Hnf := Lib.hid (neverFull_snoc (x := x) Q7.out hfu)
            have x0 := bX.cell 0
            have x1 := bX.cell 1
            have x2 := bX.cell 2
            have x3 := bX.cell 3
            have s0 := Q4.out.cell 0
            have s1 := Q4.out.cell 1
            have gW := L2.now.1.1.1.2
            have V := Lib.hid (wants_any cat (nx xs x).name (nx xs x).ev.kind (sAt a pre) (nx xs x).ev.id (nx xs x).ev.data W (small_nx hsm x) (G0.out.below Q8.out))
            rw [show (⟨(nx xs x).name, ⟨(nx xs x).ev.id, (nx xs x).ev.kind, (nx xs x).ev.data⟩⟩ : En) = nx xs x from rfl] at V
            have hsn := fitL_snoc xs cat pre x
            have hnT : ¬ w.heap.size = w2.heap.size + 1 := by omega
            have Hat := Lib.hid (sAt_snoc a pre x)
            clear gW hfu
            cases hf : fits cat (nx xs x)
            all_goals
              rw [hf] at V hsn
              simp only [Bool.false_eq_true, if_false, if_true, List.append_nil] at hsn
              have Hsn := Lib.hid hsn
              clear hsn
            · gi_wp2_with (refine ⟨trivial, ?_⟩; gi_at_call 71; refine (CallsIn.inRound l (callsIn_wide.2 V.out)).mono ?_; rintro e w4 ⟨rfl, hb4⟩; have s4 := (Q4.out.next hb4).cell 1; have f4 := (Q4.out.next hb4).frozen 1)
              have O4 := own_next Q2.out hb4
              have S4 := Q4.out.next hb4
              have hz := Q8.out.size
              refine ⟨(below_others hb4 _).trans ((KeepsOthers.setCell _ _ _).from _), (Keeps.of_below hb4 Q8.out.size).trans (Keeps.set _ (Nat.le_refl _) (by show w2.heap.size + 1 + 1 ≠ w.heap.size; omega)), ⟨_, (Q1.out.next hb4).far (by show w2.heap.size + 1 ≠ w.heap.size; omega) _, ?_⟩, (Q3.out.next hb4).far (by show w2.heap.size + 1 + 1 ≠ w.heap.size; omega) _, ?_, (Q5.out.next hb4).far (by show w.heap.size + 1 ≠ w.heap.size; omega) _, (Q6.out.next hb4).far (by show w.heap.size + 1 + 1 ≠ w.heap.size; omega) _, Hnf.out, (Q8.out.trans (hb4.mono Q8.out.size)).setCell (p := ⟨w.heap.size, 1, none⟩) (Nat.le_refl _) _⟩
              · rw [Hsn.out]; exact own_far O4 _ _ (own_ne O4 S4 (by decide))
              · rw [Hat.out]; exact S4.set_ 1 _
            · gi_wp2_with (first
                | (refine ⟨trivial, ?_⟩; gi_at_call 71; refine (CallsIn.inRound l (callsIn_wide.2 V.out)).mono ?_; rintro e w4 ⟨rfl, hb4⟩; have t4 := (Q1.out.next hb4).cell 0; have y0 := (bX.next hb4).cell 0; have y1 := (bX.next hb4).cell 1; have y2 := (bX.next hb4).cell 2; have y3 := (bX.next hb4).cell 3; have O4 := Lib.hid (own_next Q2.out hb4); have B4 := Lib.hid (Q8.out.trans (hb4.mono Q8.out.size)); have hz4 := hb4.size; have hz5 := Q1.out.lt)
                | (gi_at_builtin; go_must (refine app_in elemEn w4 rfl _ _ rfl w2.heap.size _ (fitL xs cat pre).length ((fitL xs cat pre).flatMap enCells) rfl (by exact O4.out) [.string (nx xs x).name, .int .i64 (nx xs x).ev.id, .string (nx xs x).ev.kind, .int .i64 (nx xs x).ev.data] rfl rfl ?_ ?_ ?_ ?_); (intro u hu; simp at hu; rcases hu with rfl | rfl | rfl | rfl <;> rfl); omega; omega; intro v' w5 own5 grow5 or5; obtain ⟨g', cap', rfl⟩ := ownsRow_succ own5; have T5 := (Q1.out.next hb4).grown grow5 (fun e => own_ne O4.out (Q1.out.next hb4) (by decide) e.symm); have S5 := (Q4.out.next hb4).grown grow5 (fun e => own_ne O4.out (Q4.out.next hb4) (by decide) e.symm); have t5 := T5.cell 0; have g5 := T5.frozen 0; have s5 := S5.cell 1; have f5 := S5.frozen 1))
              have hb5 : Below w.heap.size w4 w5 := (Below.refl _ _).grown grow5 (by have := Q8.out.size; omega) (fun k hk => by have := (O4.out.lt k hk).1; omega)
              have A4 := Q3.out.next hb4
              have A5 := A4.grown grow5 (fun e => own_ne O4.out A4 (by decide) e.symm)
              have M4 := Q5.out.next hb4
              have M5 := M4.grown grow5 (fun e => own_ne O4.out M4 (by decide) e.symm)
              have Z4 := Q6.out.next hb4
              have Z5 := Z4.grown grow5 (fun e => own_ne O4.out Z4 (by decide) e.symm)
              have hz := Q8.out.size
              have kp5 : Keeps w.heap.size (w2.heap.size + 1 + 1) w4 w5 := ⟨hb5, fun hl => grow5.block _ hl (fun e => own_ne O4.out A4 (by decide) e.symm)⟩
              have own6 : w5.ownsRow w2.heap.size 35 4 (.slice (some ⟨g', 0, none⟩) ((fitL xs cat pre).length + 1) cap') (fitL xs cat (pre ++ [x])).length ((fitL xs cat (pre ++ [x])).flatMap enCells) := by
                rw [Hsn.out, List.flatMap_append, List.length_append]
                simpa [enCells] using own5
              have T6 := T5.set_ 0 (.slice (some ⟨g', 0, none⟩) ((fitL xs cat pre).length + 1) cap')
              have S6 := S5.far (p := ⟨w2.heap.size + 1, 0, none⟩) (by show w.heap.size ≠ w2.heap.size + 1; omega) (.slice (some ⟨g', 0, none⟩) ((fitL xs cat pre).length + 1) cap')
              have own7 := own_far own6 ⟨w2.heap.size + 1, 0, none⟩ (.slice (some ⟨g', 0, none⟩) ((fitL xs cat pre).length + 1) cap') (own_ne own6 T5 (by decide))
              refine ⟨(((below_others hb4 _).trans ((own_others O4.out grow5).from _)).trans ((KeepsOthers.setCell _ _ _).from _)).trans ((KeepsOthers.setCell _ _ _).from _), (((Keeps.of_below hb4 Q8.out.size).trans kp5).trans (Keeps.set _ (by show w.heap.size ≤ w2.heap.size + 1; omega) (by show w2.heap.size + 1 + 1 ≠ w2.heap.size + 1; omega))).trans (Keeps.set _ (Nat.le_refl _) (by show w2.heap.size + 1 + 1 ≠ w.heap.size; omega)), ⟨_, T6.far (by show w2.heap.size + 1 ≠ w.heap.size; omega) _, own_far own7 _ _ (own_ne own7 S6 (by decide))⟩, (A5.far (by show w2.heap.size + 1 + 1 ≠ w2.heap.size + 1; omega) _).far (by show w2.heap.size + 1 + 1 ≠ w.heap.size; omega) _, ?_, (M5.far (by show w.heap.size + 1 ≠ w2.heap.size + 1; omega) _).far (by show w.heap.size + 1 ≠ w.heap.size; omega) _, (Z5.far (by show w.heap.size + 1 + 1 ≠ w2.heap.size + 1; omega) _).far (by show w.heap.size + 1 + 1 ≠ w.heap.size; omega) _, Hnf.out, ((B4.out.trans hb5).setCell (p := ⟨w2.heap.size + 1, 0, none⟩) (by show w.heap.size ≤ w2.heap.size + 1; omega) _).setCell (p := ⟨w.heap.size, 1, none⟩) (Nat.le_refl _) _⟩
              rw [Hat.out]; exact S6.set_ 1 _
        case done =>
          rintro D ys W hD rfl ⟨⟨v, q1, q2⟩, q3, q4, q5, q6, q7, q8⟩ hK
          have hk1 : a + (n - a) ≤ xs.length ∨ n - a = 0 := by omega
          have hfl : fitL xs cat (upTo a (n - a)) = subGo xs cat a (n - a) := by
            rcases hk1 with h | h
            · exact fitL_upTo h
            · rw [h]; rfl
          have hnf : NotFull xs cat a mm (n - a) := by
            rcases hk1 with h | h
            · exact neverFull_not q7 h
            · rw [h]; exact notFull_zero _ _ _ _
          have HR := Lib.hid (Hr.out (n - a) hnf hk1 (.inl (by omega)))
          have hs : sAt a (upTo a (n - a)) = ((a + (n - a) : Nat) : Int) := sAt_upTo (by omega)
          obtain ⟨p, hp⟩ : ∃ p : Nat, a + (n - a) = p := ⟨_, rfl⟩
          rw [hp] at hs HR
          rw [hs] at q4
          rw [hfl] at q2
          generalize subGo xs cat a (n - a) = st at *
          clear hs hp hfl hnf hk1 q7
          obtain ⟨A', c', rfl, hnc, hnil, hrow, hbase⟩ := Row.of_own q2 rfl
          have Hn := Lib.hid hnil
          have HRow := Lib.hid hrow
          have hA : ∀ p, A' = some p → p.block ≠ w.heap.size + 1 + 1 := fun p hp => by have := hbase p hp; omega
          have HA := Lib.hid hA
          have t0 := q1.cell 0
          have s0 := q4.cell 0
          have s1 := q4.cell 1
          have z0 := q6.cell 0
          have z1 := q6.cell 1
          have y0 := q6.frozen 0
          have y1 := q6.frozen 1
          have X := Lib.hid (fun (p : Int) => sub_end (w := w) (cat := cat) (p := p) q2 hrow q6 hK hA (by omega) (by omega) (by omega) q8)
          clear hA hrow hbase hnil q1 q2 q3 q4 q5 q6 q8 L2 L5 bT bA bF hown hnr
          gi_wp2
          gi_region
          all_goals
            gi_wp2
            obtain ⟨X1, X2, X3, X4⟩ := X.out (p : Int)
            have w0 := X2.cell 0
            have w1' := X2.cell 1
            refine ⟨by simp, .inl ⟨_, _, rfl, run_takeDeferred X1, ?_⟩⟩
            refine ⟨.tuple #[.slice A' st.length c', .agg #[.string cat, .int .i64 (p : Int)], .bool true], by simp [results, Tryd.results38, go_sem, w0, w1'], ?_⟩
            rw [HR.out]
            exact ⟨A', _, c', rfl, X3, hnc, Hn, X4⟩
        case stop =>
          rintro D cc pre W hD ⟨k, hk, rfl⟩ ⟨rfl, ini, x, e2, e3, ⟨v, q1, q2⟩, q3, q4, q5, q6, q7, q8⟩ hK
          obtain ⟨k', rfl⟩ : ∃ k', k = k' + 1 := by
            cases k with
            | zero => simp [upTo] at e2
            | succ k' => exact ⟨k', rfl⟩
          rw [upTo_succ] at e2
          obtain ⟨rfl, e5⟩ := List.append_inj' e2 rfl
          clear e2 e5
          have hk2 : a + k' ≤ xs.length := by omega
          have HR := Lib.hid (Hr.out k' (neverFull_not q7 hk2) (.inl hk2) (.inr (by rw [← fitL_upTo hk2]; exact e3)))
          have hs : sAt a (upTo a k') = ((a + k' : Nat) : Int) := sAt_upTo (by omega)
          obtain ⟨p, hp⟩ : ∃ p : Nat, a + k' = p := ⟨_, rfl⟩
          rw [hp] at hs HR
          rw [hs] at q4
          rw [fitL_upTo hk2] at q2
          generalize subGo xs cat a k' = st at *
          clear hs hp hk2 q7 e3
          obtain ⟨A', c', rfl, hnc, hnil, hrow, hbase⟩ := Row.of_own q2 rfl
          have Hn := Lib.hid hnil
          have HRow := Lib.hid hrow
          have hA : ∀ p, A' = some p → p.block ≠ w.heap.size + 1 + 1 := fun p hp => by have := hbase p hp; omega
          have HA := Lib.hid hA
          have t0 := q1.cell 0
          have s0 := q4.cell 0
          have s1 := q4.cell 1
          have z0 := q6.cell 0
          have z1 := q6.cell 1
          have y0 := q6.frozen 0
          have y1 := q6.frozen 1
          have X := Lib.hid (fun (p : Int) => sub_end (w := w) (cat := cat) (p := p) q2 hrow q6 hK hA (by omega) (by omega) (by omega) q8)
          clear hA hrow hbase hnil q1 q2 q3 q4 q5 q6 q8 L2 L5 bT bA bF hown hnr
          gi_wp2
          gi_region
          all_goals
            gi_wp2
            obtain ⟨X1, X2, X3, X4⟩ := X.out (p : Int)
            have w0 := X2.cell 0
            have w1' := X2.cell 1
            refine ⟨by simp, .inl ⟨_, _, rfl, run_takeDeferred X1, ?_⟩⟩
            refine ⟨.tuple #[.slice A' st.length c', .agg #[.string cat, .int .i64 (p : Int)], .bool true], by simp [results, Tryd.results38, go_sem, w0, w1'], ?_⟩
            rw [HR.out]
            exact ⟨A', _, c', rfl, X3, hnc, Hn, X4⟩
end Go.Proofs.YtbcfbkcadceniaaDoor
