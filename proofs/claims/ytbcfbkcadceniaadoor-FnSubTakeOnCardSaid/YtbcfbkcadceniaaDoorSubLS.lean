/- How much is left for a subscriber: the reference's. UNDER WAY. -/
import Derived.Test.YtbcfbkcadceniaaDoorSubF
import Derived.Test.YtbcfbkcadceniaaDoorSValS
import Derived.Test.YtbcfbkcadceniaaDoorSameEn
namespace Go.Proofs.YtbcfbkcadceniaaDoor
set_option linter.unusedVariables false
set_option linter.unusedSimpArgs false
open Go.RowKit

theorem subLeft_snoc (xs : List En) (c : ByteArray) (a k : Nat) (ha : a ≤ k) (hk : k < xs.length) : (((xs.drop a).take (k + 1 - a)).filter (fits c)).length = (((xs.drop a).take (k - a)).filter (fits c)).length + if fits c (nx xs k) then 1 else 0 := by
  have e : (xs.drop a).take (k + 1 - a) = (xs.drop a).take (k - a) ++ [nx xs k] := by
    have h1 : k - a < (xs.drop a).length := by rw [List.length_drop]; omega
    have h2 := take_nx h1
    rw [show k - a + 1 = k + 1 - a by omega] at h2
    rw [h2]
    congr 2
    have h3 : (xs.drop a)[k - a]? = xs[k]? := by rw [List.getElem?_drop, show a + (k - a) = k by omega]
    have h4 := nx_get h1
    rw [h3, nx_get hk] at h4
    exact (Option.some.inj h4).symm
  rw [e, List.filter_append, List.length_append]
  by_cases hf : fits c (nx xs k) = true
  · rw [if_pos hf, List.filter_cons_of_pos hf]; rfl
  · rw [if_neg hf, List.filter_cons_of_neg hf]; rfl
theorem subLeft_end (xs : List En) (c : ByteArray) (a k : Nat) (hk : xs.length ≤ k) : ((xs.drop a).take (k - a)) = xs.drop a := List.take_of_length_le (by rw [List.length_drop]; omega)
set_option maxRecDepth 100000 in
set_option maxHeartbeats 4000000 in
theorem subLeftS_any (A : Option Addr) (n c : Nat) (xs : List En) (cat : ByteArray) (at_ : Int) (w : World) (h : Row enCells 4 w w.heap.size A n xs) (hsm : SmallEns xs) (hB : SbB ⟨cat, at_⟩) (hnb : n ≤ 1000) :
    Calls Tryd.prog 37 #[.slice A n c, .agg #[.string cat, .int .i64 at_]] w fun e w' => e = .returned (.int .i64 (subLeft xs ⟨cat, at_⟩)) ∧ Below w.heap.size w w' := by
  have Hl := Lib.hid h.1
  have hb0 : Below w.heap.size w (w.alloc (.cells #[.string cat, .int .i64 at_] 60)) := (Below.refl _ _).alloc (Nat.le_refl _) _
  have L : Live (w.alloc (.cells #[.string cat, .int .i64 at_] 60)) fun W => (Below w.heap.size w W ∧ Row enCells 4 W W.heap.size A n xs) ∧ Blk W w.heap.size 60 #[.string cat, .int .i64 at_] := ((Live.since hb0).and (Live.row (h.next hb0))).and (Live.blk (Blk.new w _ _))
  have V1 := Lib.hid (fun W H => storeValidS_any A n c xs W H hsm (by omega))
  have V2 := Lib.hid (fun W => subValidS_any cat at_ W hB)
  clear h hb0
  cases h1 : storeOk xs with
  | false =>
    have Hr := Lib.hid (subLeft_no (xs := xs) (s := ⟨cat, at_⟩) (by rw [h1]; rfl))
    rw [h1] at V1
    go_enter Tryd.func37, Tryd.ntmps37
    go_wp2_with (go_at_call 19; refine (V1.out _ L.now.1.2).mono ?_; rintro e w1 ⟨rfl, hb1⟩; have L1 := L.next hb1)
    go_ret
    exact ⟨ret_int Hr.out.symm, L1.now.1.1⟩
  | true =>
    rw [h1] at V1
    cases h2 : subOk ⟨cat, at_⟩ with
    | false =>
      have Hr := Lib.hid (subLeft_no (xs := xs) (s := ⟨cat, at_⟩) (by rw [h2]; simp))
      rw [h2] at V2
      go_enter Tryd.func37, Tryd.ntmps37
      go_wp2_with (first
        | (go_at_call 19; refine (V1.out _ L.now.1.2).mono ?_; rintro e w1 ⟨rfl, hb1⟩; have L1 := L.next hb1; have c0 := L1.now.2.cell 0; have c1 := L1.now.2.cell 1)
        | (go_at_call 72; refine (V2.out _).mono ?_; rintro e w2 ⟨rfl, hb2⟩; have L2 := L1.next hb2))
      go_ret
      exact ⟨ret_int Hr.out.symm, L2.now.1.1⟩
    | true =>
      rw [h2] at V2
      obtain ⟨-, k1, k2⟩ := subOk_iff.1 h2
      simp only at k1 k2
      have hen := (storeOk_streams.1 h1).2.1
      obtain ⟨a, rfl⟩ : ∃ a : Nat, at_ = (a : Int) := ⟨at_.toNat, by omega⟩
      have Hr := Lib.hid (subLeft_yes (xs := xs) (s := ⟨cat, (a : Int)⟩) h1 h2)
      go_enter Tryd.func37, Tryd.ntmps37
      go_wp2_with (first
        | (go_at_call 19; refine (V1.out _ L.now.1.2).mono ?_; rintro e w1 ⟨rfl, hb1⟩; have L1 := L.next hb1; have c0 := L1.now.2.cell 0; have c1 := L1.now.2.cell 1)
        | (go_at_call 72; refine (V2.out _).mono ?_; rintro e w2 ⟨rfl, hb2⟩; have L2 := L1.next hb2; have d0 := L2.now.2.cell 0; have d1 := L2.now.2.cell 1))
      go_loopw [5, 6] (fun q i wr => ∃ k : Nat, a ≤ k ∧ k ≤ max a n ∧ i = .int .i64 k ∧ q = .int .i64 ((((xs.drop a).take (k - a)).filter (fits cat)).length : Nat) ∧ (Live wr fun W => (Below w.heap.size w W ∧ Row enCells 4 W W.heap.size A n xs) ∧ Blk W w.heap.size 60 #[.string cat, .int .i64 a])) (fun _ i _ => n - (intOf i).toNat)
      case atStart => exact ⟨a, Nat.le_refl _, by omega, rfl, by rw [Nat.sub_self]; rfl, L2⟩
      case round =>
        obtain ⟨k, hak, hkn, rfl, rfl, LW⟩ := hrel
        by_cases hlt : k < n
        · have hlt' : (k : Int) < (n : Int) := by omega
          obtain ⟨b, off, rfl, hb, hx⟩ := LW.now.1.2.en_at (by omega)
          have hs : xs[k]? = some (nx xs k) := nx_get (by rw [Hl.out]; exact hlt)
          have hsn := Lib.hid (subLeft_snoc xs cat a k hak (by rw [Hl.out]; exact hlt))
          have hok := hen _ (List.mem_of_getElem? hs)
          have hsz := (hsm _ (List.mem_of_getElem? hs)).1
          obtain ⟨⟨name, id, kind, data⟩, he⟩ : ∃ e, nx xs k = e := ⟨_, rfl⟩
          rw [he] at hs hsn hok hsz
          have hno : nameOk name.data.toList = true := by
            unfold enOk at hok
            rw [Bool.and_eq_true] at hok
            exact hok.1
          have V := Lib.hid (fun x : On wr => l14Fits_any cat name kind id data x.W hsz hno)
          have e0 := fun x : On wr => (show x.W.cell? ⟨b, off + k * 4, none⟩ = some (.string name) from (((hx k _ hs).below x.below hb)).1)
          have s0 := fun x : On wr => (show x.W.cell? ⟨w.heap.size, 0, none⟩ = some (.string cat) from (LW.next x.below).now.2.cell 0)
          have e1 := fun x : On wr => ((hx k _ hs).below x.below hb).2.1
          have e2 := fun x : On wr => ((hx k _ hs).below x.below hb).2.2.1
          have e3 := fun x : On wr => ((hx k _ hs).below x.below hb).2.2.2
          clear hok hno hs he hx c0 c1 d0 d1 hb1 hb2 L L1 L2 V1 V2
          cases hf : fits cat ⟨name, ⟨id, kind, data⟩⟩
          all_goals
            rw [hf] at V hsn
            go_wp2_with fail
            refine wp_region_on (by kernel_rfl) (by kernel_rfl) ?_
            repeat (go_big_quiet_step ((go_at_call 73; exact On.calls (V.out _))))
            refine wpQuiet_nil ?_
            intro _ hw'
            obtain ⟨⟨w4, hb4⟩, hw''⟩ := hw'
            subst hw''
            have L4 := LW.next hb4
            have hsn2 := hsn.out
            simp only [Bool.false_eq_true, if_false, if_true, Nat.add_zero] at hsn2
            have hbq : (((xs.drop a).take (k - a)).filter (fits cat)).length ≤ 1000 := by
              have h5 := List.length_filter_le (fits cat) ((xs.drop a).take (k - a))
              have h6 := List.length_take_le (k - a) (xs.drop a)
              omega
            go_wp2_with fail
            go_roundw
            case rel => exact ⟨k + 1, by omega, by omega, by go_num, by rw [hsn2] <;> go_num, L4⟩
            case measure => simp [intOf]; omega
        · have hlt' : ¬ (k : Int) < (n : Int) := by omega
          have hend := subLeft_end xs cat a k (by rw [Hl.out]; omega)
          rw [hend]
          have Hq : Hid (subLeft xs ⟨cat, (a : Int)⟩ = (((xs.drop a).filter (fits cat)).length : Nat)) := Lib.hid (by rw [Hr.out]; rfl)
          clear hend Hr
          go_wp2_with fail
          go_ret
          exact ⟨ret_int Hq.out.symm, LW.now.1.1⟩
end Go.Proofs.YtbcfbkcadceniaaDoor
