/- How much is left for a subscriber: the program's. -/
import Derived.Test.YtbcfbkcadceniaaDoorSubE
import Derived.Test.YtbcfbkcadceniaaDoorSubLS
import Derived.Test.YtbcfbkcadceniaaDoorSVal
namespace Go.Proofs.YtbcfbkcadceniaaDoor
set_option linter.unusedVariables false
set_option linter.unusedSimpArgs false
open Go.RowKit Go.Shelf

attribute [local go_sem] Oper.semAt_some

/-- how many of the entries at these places fit. -/
def fitN (xs : List En) (c : ByteArray) (pre : List Nat) : Nat := ((pre.map (nx xs)).filter (fits c)).length
theorem fitN_snoc (xs : List En) (c : ByteArray) (pre : List Nat) (x : Nat) : fitN xs c (pre ++ [x]) = fitN xs c pre + if fits c (nx xs x) then 1 else 0 := by
  unfold fitN
  rw [List.map_append, List.filter_append, List.length_append]
  by_cases h : fits c (nx xs x) = true
  · rw [if_pos h, List.map_singleton, List.filter_cons_of_pos h]; rfl
  · rw [if_neg h, List.map_singleton, List.filter_cons_of_neg h]; rfl
theorem fitN_le (xs : List En) (c : ByteArray) (pre : List Nat) : fitN xs c pre ≤ pre.length := by
  have := List.length_filter_le (fits c) (pre.map (nx xs))
  rw [List.length_map] at this
  exact this
theorem upTo_map (xs : List En) (a k : Nat) (h : a + k ≤ xs.length) : (upTo a k).map (nx xs) = (xs.drop a).take k := by
  induction k with
  | zero => rfl
  | succ k ih =>
    rw [upTo_succ, List.map_append, ih (by omega)]
    have h1 : k < (xs.drop a).length := by rw [List.length_drop]; omega
    rw [take_nx h1, List.map_singleton]
    congr 2
    have h3 : (xs.drop a)[k]? = xs[a + k]? := by rw [List.getElem?_drop]
    have h4 := nx_get h1
    rw [h3, nx_get (by omega)] at h4
    exact Option.some.inj h4
theorem upTo_all (xs : List En) (a : Nat) : (upTo a (xs.length - a)).map (nx xs) = xs.drop a := by
  by_cases h : a ≤ xs.length
  · rw [upTo_map xs a _ (by omega)]
    exact List.take_of_length_le (by rw [List.length_drop]; omega)
  · rw [show xs.length - a = 0 by omega, List.drop_of_length_le (by omega)]; rfl
/-- each entry's name is small, also where there is none. -/
theorem small_nx {xs : List En} (h : SmallEns xs) (x : Nat) : (nx xs x).name.size ≤ maxLen := by
  by_cases hx : x < xs.length
  · exact (h _ (nx_mem hx)).1
  · unfold nx
    rw [List.getElem?_eq_none (by omega)]
    exact Nat.zero_le _

theorem blk_own {β : Type} (B g : Nat) (t : TypeId) (cs : β → Array Value) : OwnFrom B (fun (s : β) W => Blk W g t (cs s)) := fun s W W' row hs hg hr => hs.grown hg (fun e => by
  obtain ⟨_, o, ho, hc⟩ := hr g e.symm
  unfold Blk at hs
  rw [hs] at ho
  obtain rfl := Option.some.inj ho
  cases hc)
theorem below_others {X Y : World} (h : Below X.heap.size X Y) (B : Nat) : KeepsFrom B X Y := (others_below h).from B

set_option maxRecDepth 100000 in
set_option maxHeartbeats 8000000 in
theorem subLeft_any (A : Option Addr) (n c : Nat) (xs : List En) (cat : ByteArray) (at_ : Int) (w : World) (h : Row enCells 4 w w.heap.size A n xs) (hsm : SmallEns xs) (hB : SbB ⟨cat, at_⟩) (hnb : n ≤ 1000) (hg : GE w) :
    Calls Tryd.prog 36 #[.slice A n c, .agg #[.string cat, .int .i64 at_]] w fun e w' => e = .returned (.int .i64 (subLeft xs ⟨cat, at_⟩)) ∧ Below w.heap.size w w' := by
  have Hl := Lib.hid h.1
  have hb0 : Below w.heap.size w (w.alloc (.cells #[.string cat, .int .i64 at_] 60)) := (Below.refl _ _).alloc (Nat.le_refl _) _
  have L : Live (w.alloc (.cells #[.string cat, .int .i64 at_] 60)) fun W => ((Below w.heap.size w W ∧ Row enCells 4 W W.heap.size A n xs) ∧ GE W) ∧ Blk W w.heap.size 60 #[.string cat, .int .i64 at_] := (((Live.since hb0).and (Live.row (h.next hb0))).and (Live.ge (hg.below hb0))).and (Live.blk (Blk.new w _ _))
  have V1 := Lib.hid (fun W H G => storeValid_any A n c xs W H hsm (by omega) G)
  have V2 := Lib.hid (fun W => subValid_any cat at_ W hB)
  clear h hb0 hg
  cases h1 : storeOk xs with
  | false =>
    have Hr := Lib.hid (subLeft_no (xs := xs) (s := ⟨cat, at_⟩) (by rw [h1]; rfl))
    rw [h1] at V1
    go_enter Tryd.func36, Tryd.ntmps36
    go_wp2_with (go_at_call 46; refine (V1.out _ L.now.1.1.2 L.now.1.2).mono ?_; rintro e w1 ⟨rfl, hb1⟩; have L1 := L.next hb1)
    go_ret
    exact ⟨ret_int Hr.out.symm, L1.now.1.1.1⟩
  | true =>
    rw [h1] at V1
    cases h2 : subOk ⟨cat, at_⟩ with
    | false =>
      have Hr := Lib.hid (subLeft_no (xs := xs) (s := ⟨cat, at_⟩) (by rw [h2]; simp))
      rw [h2] at V2
      go_enter Tryd.func36, Tryd.ntmps36
      go_wp2_with (first
        | (go_at_call 46; refine (V1.out _ L.now.1.1.2 L.now.1.2).mono ?_; rintro e w1 ⟨rfl, hb1⟩; have L1 := L.next hb1; have c0 := L1.now.2.cell 0; have c1 := L1.now.2.cell 1)
        | (go_at_call 69; refine (V2.out _).mono ?_; rintro e w2 ⟨rfl, hb2⟩; have L2 := L1.next hb2))
      go_ret
      exact ⟨ret_int Hr.out.symm, L2.now.1.1.1⟩
    | true =>
      rw [h2] at V2
      obtain ⟨-, k1, k2⟩ := subOk_iff.1 h2
      simp only at k1 k2
      obtain ⟨a, rfl⟩ : ∃ a : Nat, at_ = (a : Int) := ⟨at_.toNat, by omega⟩
      have ha : a ≤ 1000 := by omega
      have Hr := Lib.hid (subLeft_yes (xs := xs) (s := ⟨cat, (a : Int)⟩) h1 h2)
      clear h1 h2 hB
      refine (callsIn_wide (n := 6)).1 ?_
      refine callsIn_of_wp_marks Tryd.func36 rfl trivial ?_ rfl
      simp only [Tryd.ntmps36, List.size_toArray, List.length_cons, List.length_nil, Nat.reduceAdd, Nat.reduceSub, Array.replicate_succ, Array.replicate_zero, List.push_toArray, List.append_toArray, List.nil_append, List.cons_append]
      gi_wp2_with (first
        | (refine ⟨trivial, ?_⟩; gi_at_call 46; refine (callsIn_wide.2 (V1.out _ L.now.1.1.2 L.now.1.2)).mono ?_; rintro e w1 ⟨rfl, hb1⟩; have L1 := L.next hb1; have c0 := L1.now.2.cell 0; have c1 := L1.now.2.cell 1)
        | (refine ⟨trivial, ?_⟩; gi_at_call 69; refine (callsIn_wide.2 (V2.out _)).mono ?_; rintro e w2 ⟨rfl, hb2⟩; have L2 := L1.next hb2; have L2' := L2.next ((Below.refl _ _).alloc (Nat.le_refl _) (.cells #[.int .i64 0] 3)); have d1 : (w2.alloc (.cells #[.int .i64 0] 3)).cell? ⟨w.heap.size, 1, none⟩ = some (.int .i64 (a : Int)) := L2'.now.2.cell 1)
        | (refine ⟨trivial, ?_⟩; gi_at_call 70; refine (from_in Fence.wide _ trivial rfl _ _ _ _ _).mono ?_; rintro e w3 ⟨rfl, rfl⟩))
      have bL := Blk.new w2 3 #[.int .i64 0]
      have bA := Blk.new (w2.alloc (.cells #[.int .i64 0] 3)) 23 #[.slice A n c]
      have bF := Blk.new ((w2.alloc (.cells #[.int .i64 0] 3)).alloc (.cells #[.slice A n c] 23)) 3 #[.int .i64 (a : Int)]
      simp only [World.size_alloc] at bA bF
      have bL' := (bL.alloc (.cells #[.slice A n c] 23)).alloc (.cells #[.int .i64 (a : Int)] 3)
      have bA' := bA.alloc (.cells #[.int .i64 (a : Int)] 3)
      have hB0 : Below w2.heap.size w2 (((w2.alloc (.cells #[.int .i64 0] 3)).alloc (.cells #[.slice A n c] 23)).alloc (.cells #[.int .i64 (a : Int)] 3)) := (((Below.refl _ w2).alloc (Nat.le_refl _) _).alloc (by simp) _).alloc (by simp; omega) _
      have hsz : (((w2.alloc (.cells #[.int .i64 0] 3)).alloc (.cells #[.slice A n c] 23)).alloc (.cells #[.int .i64 (a : Int)] 3)).heap.size = w2.heap.size + 3 := by simp
      obtain ⟨W0, hW0⟩ : ∃ W0, ((w2.alloc (.cells #[.int .i64 0] 3)).alloc (.cells #[.slice A n c] 23)).alloc (.cells #[.int .i64 (a : Int)] 3) = W0 := ⟨_, rfl⟩
      rw [hW0] at bL' bA' bF hB0 hsz ⊢
      clear hW0 bL bA d1 L2' c0 c1 hb1 hb2 L L1 V1 V2
      have hlen := Hl.out
      refine wpIn_rangeFunc_ownH (α := Nat) rfl (by omega) (gf := 86) (lb := #[.pointer (some ⟨w2.heap.size + 1 + 1, 0, none⟩), .pointer (some ⟨w2.heap.size + 1, 0, none⟩)]) rfl trivial (enters_of Tryd.func86 (by kernel_rfl) rfl)
        (from_stops Fence.wide _ trivial rfl (by omega) (w2.heap.size + 1) (w2.heap.size + 1 + 1) w2.heap.size A n c a xs hnb ha W0 (by omega) (by omega) (by omega) (bF.cell 0) ⟨bA'.cell 0, L2.now.1.1.2.below hB0⟩)
        Keeps.trans (Keeps.putObj (by omega) (by omega)) (Below.refl _ _) (fun _ => rfl)
        (fun pre W => Blk W w2.heap.size 3 #[.int .i64 ((fitN xs cat pre : Nat) : Int)] ∧ Below w2.heap.size w2 W)
        (fun _ _ _ => False)
        (OwnFrom.and (blk_own _ _ _ _) (ownFrom_below (Nat.le_refl _) (by omega)))
        (fun _ _ _ _ _ hs _ _ => hs)
        ⟨bL', hB0⟩
        (fun x a' W => ∃ Bx, Blk W Bx 35 #[.string (nx xs x).name, .int .i64 (nx xs x).ev.id, .string (nx xs x).ev.kind, .int .i64 (nx xs x).ev.data] ∧ a' = { tmps := #[.slice A n c, .agg #[.string cat, .int .i64 (a : Int)], undef, .pointer (some ⟨w.heap.size, 0, none⟩), .int .i64 0, .pointer (some ⟨w2.heap.size, 0, none⟩), undef, .pointer (some ⟨Bx, 0, none⟩), .slice A n c, .bool true, .bool false, .bool false, .agg #[.string cat, .int .i64 (a : Int)], .bool true, .bool false, .bool false, .slice A n c, .pointer (some ⟨w.heap.size, 1, none⟩), .int .i64 (a : Int), .func (.func 86) #[] #[.pointer (some ⟨w2.heap.size + 1 + 1, 0, none⟩), .pointer (some ⟨w2.heap.size + 1, 0, none⟩)], .int .i64 (x : Int), .agg #[.string (nx xs x).name, .int .i64 (nx xs x).ev.id, .string (nx xs x).ev.kind, .int .i64 (nx xs x).ev.data], undef, undef, undef, undef, undef, undef], defers := [] })
        (fun x a' _ X Y row hs hg hr => by obtain ⟨Bx, h2, h3⟩ := hs; exact ⟨Bx, blk_own _ Bx _ (fun (_ : Unit) => #[.string (nx xs x).name, .int .i64 (nx xs x).ev.id, .string (nx xs x).ev.kind, .int .i64 (nx xs x).ev.data]) () X Y row h2 hg hr, h3⟩)
        ?assign ?body ?done ?stop
      case assign =>
        rintro l pre x W K ⟨bS, hB⟩ hK
        unfold entArgs
        gi_wp2
        have hb : Below W.heap.size W (W.alloc (.cells #[.string (nx xs x).name, .int .i64 (nx xs x).ev.id, .string (nx xs x).ev.kind, .int .i64 (nx xs x).ev.data] 35)) := (Below.refl _ _).alloc (Nat.le_refl _) _
        exact hK _ _ (below_others hb _) (Keeps.of_below hb hB.size) ⟨bS.alloc _, hB.trans (hb.mono hB.size)⟩ ⟨W.heap.size, Blk.new W _ _, rfl⟩
      case body =>
        rintro l pre x a' W hl ⟨r, hr⟩ ⟨bS, hB⟩ ⟨Bx, bX, rfl⟩ hlt
        have L3 := L2.next hB
        have x0 := bX.cell 0
        have x1 := bX.cell 1
        have x2 := bX.cell 2
        have x3 := bX.cell 3
        have s0 := L3.now.2.cell 0
        have s1 := L3.now.2.cell 1
        have V := Lib.hid (wants_any cat (nx xs x).name (nx xs x).ev.kind (a : Int) (nx xs x).ev.id (nx xs x).ev.data W (small_nx hsm x) L3.now.1.2)
        rw [show (⟨(nx xs x).name, ⟨(nx xs x).ev.id, (nx xs x).ev.kind, (nx xs x).ev.data⟩⟩ : En) = nx xs x from rfl] at V
        have hsn := fitN_snoc xs cat pre x
        have hle := fitN_le xs cat pre
        cases hf : fits cat (nx xs x)
        all_goals
          rw [hf] at V hsn
          simp only [Bool.false_eq_true, if_false, if_true, Nat.add_zero] at hsn
          have Hsn := Lib.hid hsn
          clear hsn
          gi_wp2_with (refine ⟨trivial, ?_⟩; gi_at_call 71; refine (CallsIn.inRound l (callsIn_wide.2 V.out)).mono ?_; rintro e w4 ⟨rfl, hb4⟩; have bS4 := bS.next hb4; have c4 := bS4.cell 0; have f4 := bS4.frozen 0)
        · exact ⟨below_others hb4 _, Keeps.of_below hb4 hB.size, by rw [Hsn.out]; exact bS4, hB.trans (hb4.mono hB.size)⟩
        · have hw : IntKind.i64.wrap ((fitN xs cat pre : Nat) + 1 : Int) = ((fitN xs cat pre + 1 : Nat) : Int) := by rw [IntWalk.i64_in _ (by omega)]; omega
          first
            | rw [hw]
            | skip
          have hb5 := hB.trans (hb4.mono hB.size)
          exact ⟨(below_others hb4 _).trans ((KeepsOthers.setCell _ _ _).from _), (Keeps.of_below hb4 hB.size).trans (Keeps.set _ (Nat.le_refl _) (by show w2.heap.size + 1 ≠ w2.heap.size; omega)), by rw [Hsn.out]; first | exact bS4.set_ 0 _ | exact (bS4.set_ 0 (.int .i64 ((fitN xs cat pre + 1 : Nat) : Int))), hb5.setCell (p := ⟨w2.heap.size, 0, none⟩) (Nat.le_refl _) _⟩
      case done =>
        rintro D ys W hD rfl ⟨bS, hB⟩ hK
        have c4 := bS.cell 0
        have e5 : fitN xs cat (upTo a (n - a)) = ((xs.drop a).filter (fits cat)).length := by
          unfold fitN
          rw [← hlen, upTo_all]
        have Hq : Hid (subLeft xs ⟨cat, (a : Int)⟩ = (fitN xs cat (upTo a (n - a)) : Nat)) := Lib.hid (by rw [Hr.out, e5]; rfl)
        clear e5 Hr
        gi_wp2
        refine ⟨by simp, .inl ⟨_, _, rfl, run_takeDeferred hK, ?_⟩⟩
        have hB5 := (L2.next hB).now.1.1.1
        refine ⟨_, results_tmp rfl _ _ _, ?_, hB5.trans (belowK_b (w := w) (Nat.le_refl _) W D _ _ (by have := L2.now.1.1.1.size; omega) hK rfl rfl)⟩
        rw [Hq.out]; rfl
      case stop =>
        rintro D c pre W _ _ h _
        exact h.elim
end Go.Proofs.YtbcfbkcadceniaaDoor
