/- What is left behind cuts: the program's. -/
import Derived.Test.YtbcfbkcadceniaaDoorCnts
import Derived.Test.YtbcfbkcadceniaaDoorCutsR
import Derived.Test.YtbcfbkcadceniaaDoorSVal
import Derived.Test.YtbcfbkcadceniaaDoorSameEn
namespace Go.Proofs.YtbcfbkcadceniaaDoor
set_option linter.unusedVariables false
set_option linter.unusedSimpArgs false
open Go.RowKit

def numCells (j : Nat) : List Value := [.int .i64 (j : Int)]
theorem numCells_len (j : Nat) : (numCells j).length = 1 := rfl
theorem elemNum : Elem Tryd.prog 27 3 (.int .i64 0) 1 8 := ⟨Tryd.underlying27, by kernel_rfl, rfl, by decide, by decide⟩
def NumsRet (l : List Nat) (w : World) (e : Ending) (w' : World) : Prop :=
  ∃ (A : Option Addr) (n c : Nat), e = .returned (.slice A n c) ∧ Row numCells 1 w' w'.heap.size A n l ∧ n ≤ c ∧ Hid (A = none → c = 0) ∧ Below w.heap.size w w'
theorem nums_own {W w : World} {base n : Nat} {v : Value} {l : List Nat} (h : W.ownsRow base 3 1 v n (l.flatMap numCells)) (hl : l.length = n) (hb : Below w.heap.size w W) : NumsRet l w (.returned v) W := by
  obtain ⟨A, c, rfl, h1, h2, h3, _⟩ := Row.of_own h hl
  exact ⟨A, n, c, rfl, h3, h1, Lib.hid h2, hb⟩
theorem nums_snoc (l : List Nat) (j : Nat) : (l ++ [j]).flatMap numCells = l.flatMap numCells ++ [.int .i64 (j : Int)] := by rw [List.flatMap_append]; rfl
theorem ow_ne {w : World} {base size n g : Nat} {v : Value} {xs : List Value} {cs : Array Value} (h : w.ownsRow base 3 size v n xs) (hb : Blk w g 35 cs) : v.ownBlock ≠ some g := fun hv => by
  rcases h.2 with ⟨rfl, _⟩ | ⟨g', cap, cur, rfl, _, hh, _⟩
  · simp [Value.ownBlock] at hv
  · obtain rfl : g' = g := by simpa [Value.ownBlock] using hv
    unfold Blk at hb
    rw [hb] at hh
    injection hh with hh
    injection hh with _ h2
    exact absurd h2 (by decide)
set_option maxRecDepth 100000 in
set_option maxHeartbeats 8000000 in
theorem cutsLeft_any (A : Option Addr) (n c : Nat) (xs : List En) (B : Option Addr) (m d : Nat) (cs : List Cut) (w : World) (h : Row enCells 4 w w.heap.size A n xs) (h' : Row cutCells 2 w w.heap.size B m cs) (hsm : SmallEns xs) (hsc : SmallCuts cs) (hnb : n ≤ 900) (hmb : m ≤ 900) (hg : GE w) :
    Calls Tryd.prog 16 #[.slice A n c, .slice B m d] w (NumsRet (cutsLeft xs cs) w) := by
  have Hl := Lib.hid h.1
  have hb0 : Below w.heap.size w (w.alloc (.cells #[] 3)) := (Below.refl _ _).alloc (Nat.le_refl _) _
  have L : Live (w.alloc (.cells #[] 3)) fun W => ((Below w.heap.size w W ∧ GE W) ∧ Row enCells 4 W W.heap.size A n xs) ∧ Row cutCells 2 W W.heap.size B m cs := (((Live.since hb0).and (Live.ge (hg.below hb0))).and (Live.row (h.next hb0))).and (Live.row (h'.next hb0))
  have O0 : (w.alloc (.cells #[] 3)).ownsRow w.heap.size 3 1 (.slice (some ⟨w.heap.size, 0, none⟩) 0 0) 0 [] := World.ownsRow_lit w #[] 0 (Nat.le_refl _) (Nat.zero_le _) rfl
  have HO0 := Lib.hid O0
  have V1 := Lib.hid (fun W H G => storeValid_any A n c xs W H hsm (by omega) G)
  have V2 := Lib.hid (fun W H G => cutsValid_any B m d cs W H hsc (by omega) G)
  have H0 := Lib.hid h
  have H0' := Lib.hid h'
  have Hsm := Lib.hid hsm
  clear h h' hb0 hg O0 hsc hsm
  cases h1 : storeOk xs with
  | false =>
    have Hr := Lib.hid (cutsLeft_no (xs := xs) (cs := cs) (by rw [h1]; rfl))
    rw [h1] at V1
    go_enter Tryd.func16, Tryd.ntmps16
    go_wp2_with (go_at_call 46; refine (V1.out _ L.now.1.2 L.now.1.1.2).mono ?_; rintro e w1 ⟨rfl, hb1⟩; have L1 := L.next hb1; have O1 := own_next HO0.out hb1)
    go_ret
    rw [Hr.out]
    exact nums_own (l := []) O1 rfl L1.now.1.1.1
  | true =>
    rw [h1] at V1
    cases h2 : cutsOk cs with
    | false =>
      have Hr := Lib.hid (cutsLeft_no (xs := xs) (cs := cs) (by rw [h2]; simp))
      rw [h2] at V2
      go_enter Tryd.func16, Tryd.ntmps16
      go_wp2_with (first
        | (go_at_call 46; refine (V1.out _ L.now.1.2 L.now.1.1.2).mono ?_; rintro e w1 ⟨rfl, hb1⟩; have L1 := L.next hb1; have O1 := own_next HO0.out hb1)
        | (go_at_call 24; refine (V2.out _ L1.now.2 L1.now.1.1.2).mono ?_; rintro e w2 ⟨rfl, hb2⟩; have L2 := L1.next hb2; have O2 := own_next O1 hb2))
      go_ret
      rw [Hr.out]
      exact nums_own (l := []) O2 rfl L2.now.1.1.1
    | true =>
      rw [h2] at V2
      have Hr := Lib.hid (cutsLeft_yes h1 h2)
      rw [Hl.out] at Hr
      clear h1 h2
      go_enter Tryd.func16, Tryd.ntmps16
      have hmm := @run_makeMap Tryd.prog
      go_wp2_with (first
        | (go_at_call 46; refine (V1.out _ L.now.1.2 L.now.1.1.2).mono ?_; rintro e w1 ⟨rfl, hb1⟩; have L1 := L.next hb1; have O1 := Lib.hid (own_next HO0.out hb1))
        | (go_at_call 24; refine (V2.out _ L1.now.2 L1.now.1.1.2).mono ?_; rintro e w2 ⟨rfl, hb2⟩; have L2 := L1.next hb2; have O2 := Lib.hid (own_next O1.out hb2)))
      have HA2 := Lib.hid L2.now.1.1.1
      have HM := Lib.hid (Cnts.made w2)
      have hmne : w.heap.size < w2.heap.size := by have := (O2.out.lt w.heap.size rfl).2; exact this
      clear L L1 V1 V2 hb1 hb2 O1 hmm
      go_loopw [5, 22] (fun v i wr => ∃ (k n' : Nat) (D : DataW Value), k ≤ n ∧ n' ≤ k ∧ i = .int .i64 (k : Int) ∧ wr.ownsRow w.heap.size 3 1 v (keptTo xs cs k).length ((keptTo xs cs k).flatMap numCells) ∧ Hid (Cnts wr w2.heap.size n' (xs.take k) D) ∧ Hid (v.ownBlock ≠ some w2.heap.size) ∧ Hid (Below w.heap.size w wr)) (fun _ i _ => n - (intOf i).toNat)
      case atStart => exact ⟨0, 0, _, Nat.zero_le _, Nat.le_refl _, rfl, O2.out.alloc _, HM, Lib.hid (fun e => by have := Option.some.inj e; simp only at this; omega), Lib.hid (HA2.out.alloc HA2.out.size _)⟩
      case round =>
        obtain ⟨k, n', D, hk, hn', rfl, hown, HC, Hne, HB⟩ := hrel
        have hkl := keptTo_len xs cs k
        have HO := Lib.hid hown
        clear hown
        by_cases hlt : k < n
        · have hlt' : (k : Int) < (n : Int) := by omega
          have hxl : k < xs.length := by rw [Hl.out]; exact hlt
          have hs : xs[k]? = some (nx xs k) := nx_get hxl
          have hns := (Hsm.out _ (List.mem_of_getElem? hs)).1
          have hkt : (xs.take k).length ≤ 1000 := by rw [List.length_take]; omega
          have R0 := H0.out.below HB.out
          obtain ⟨b, off, rfl, hb, hx⟩ := R0.en_at (by omega)
          obtain ⟨e0, e1, e2, e3⟩ := hx k _ hs
          have hbA : Below wr.heap.size wr (wr.alloc (.cells #[.string (nx xs k).name, .int .i64 (nx xs k).ev.id, .string (nx xs k).ev.kind, .int .i64 (nx xs k).ev.data] 35)) := (Below.refl _ _).alloc (Nat.le_refl _) _
          have HbA := Lib.hid hbA
          have HBA := Lib.hid (HB.out.trans (hbA.mono HB.out.size))
          have HXB := Lib.hid (Blk.new wr 35 #[.string (nx xs k).name, .int .i64 (nx xs k).ev.id, .string (nx xs k).ev.kind, .int .i64 (nx xs k).ev.data])
          have HCA := Lib.hid (HC.out.next hbA)
          have HOA := Lib.hid (own_next HO.out hbA)
          have s0 := fun x : On (wr.alloc (.cells #[.string (nx xs k).name, .int .i64 (nx xs k).ev.id, .string (nx xs k).ev.kind, .int .i64 (nx xs k).ev.data] 35)) => (show x.W.cell? ⟨wr.heap.size, 0, none⟩ = some (.string (nx xs k).name) from (HXB.out.next x.below).cell 0)
          have lk := fun x : On (wr.alloc (.cells #[.string (nx xs k).name, .int .i64 (nx xs k).ev.id, .string (nx xs k).ev.kind, .int .i64 (nx xs k).ev.data] 35)) => (HCA.out.next x.below).get (nx xs k).name hns hkt
          have KF := Lib.hid (fun x : On (wr.alloc (.cells #[.string (nx xs k).name, .int .i64 (nx xs k).ev.id, .string (nx xs k).ev.kind, .int .i64 (nx xs k).ev.data] 35)) => keptFrom_any B m d cs (nx xs k).name x.W (((H0'.out.below (HBA.out.trans (x.below.mono HBA.out.size))).more (HBA.out.trans (x.below.mono HBA.out.size)).size)) (by omega))
          have hcl : cntOf (xs.take k) (nx xs k).name ≤ 1000 := Nat.le_trans (streamOf_len _ _) hkt
          have hw1 : IntKind.i64.wrap ((cntOf (xs.take k) (nx xs k).name : Int) + 1) = (cntOf (xs.take k) (nx xs k).name : Int) + 1 := IntWalk.i64_in _ (by omega)
          have htk := take_en hxl
          have Htk := Lib.hid htk
          have hsucc := keptTo_succ xs cs k
          clear hs hx hbA htk
          by_cases hkp : keptAt xs cs k = true
          · have hge : cutFrom cs (nx xs k).name ≤ (cntOf (xs.take k) (nx xs k).name : Int) := of_decide_eq_true hkp
            rw [if_pos hkp] at hsucc
            have Hsucc := Lib.hid hsucc
            clear hsucc hkp
            go_wp2_with fail
            refine wp_region_on (by kernel_rfl) (by kernel_rfl) ?_
            repeat (go_big_quiet_step ((go_at_call 47; exact On.same (KF.out _))))
            refine wpQuiet_nil ?_
            intro w4 hw'
            obtain ⟨⟨w4b, hb4⟩, hw''⟩ := hw'
            obtain rfl : w4 = w4b := hw''
            have HB4 := Lib.hid (HBA.out.trans (hb4.mono HBA.out.size))
            have HC4 := Lib.hid (HCA.out.next hb4)
            have HO4 := Lib.hid (own_next HOA.out hb4)
            have hx4 := (HXB.out.next hb4).cell 0
            have X4 := HXB.out.next hb4
            have hm4 := HC4.out.lt
            clear s0 lk KF e0 e1 e2 e3
            have hkB : ¬ wr.heap.size = w2.heap.size := by have := HC.out.lt; omega
            go_wp2_with (first
              | (at_builtin; go_must (refine app_one elemNum w4 rfl _ _ rfl w.heap.size _ (keptTo xs cs k).length ((keptTo xs cs k).flatMap numCells) rfl (by exact HO4.out) [.int .i64 (k : Int)] rfl rfl ?_ ?_ ?_ ?_); (intro u hu; simp at hu; subst hu; rfl); omega; exact HB4.out.size; intro v' w5 own5 grow5 or5; have HB5 := Lib.hid (own_below' HO4.out (Nat.le_refl _) HB4.out HB4.out.size grow5); have HC5 := Lib.hid (HC4.out.kept grow5 (fun e => Hne.out e.symm)); have lk5 := HC5.out.get (nx xs k).name hns hkt; have hx5 := (X4.grown grow5 (fun e => ow_ne HO4.out X4 e.symm)).cell 0; have Hne5 : Hid (v'.ownBlock ≠ some w2.heap.size) := (Lib.hid (by rcases or5 with e | e; rw [e]; exact Hne.out; rw [e]; intro e'; have := Option.some.inj e'; omega)))
              | (at_mapUpdate; go_must (refine cnt_put w5 rfl _ _ _ rfl HC5.out (nx xs k) rfl rfl rfl hns hkt (by omega) ?_; intro w7 D' C7 g7)))
            have own6 : w5.ownsRow w.heap.size 3 1 v' (keptTo xs cs (k + 1)).length ((keptTo xs cs (k + 1)).flatMap numCells) := by
              rw [Hsucc.out, nums_snoc, List.length_append]
              exact own5
            have own7 := own6.kept g7 (.inr Hne5.out)
            have HB7 := HB5.out.grown g7 HB5.out.size (fun q hq => by injection hq with e; omega)
            go_roundw
            case rel => exact ⟨k + 1, n' + 1, D', by omega, by omega, by go_num, own7, Lib.hid (by rw [Htk.out]; exact C7), Hne5, Lib.hid HB7⟩
            case measure => simp [intOf]; omega
          · have hge : ¬ cutFrom cs (nx xs k).name ≤ (cntOf (xs.take k) (nx xs k).name : Int) := fun h => hkp (decide_eq_true h)
            rw [if_neg hkp, List.append_nil] at hsucc
            have Hsucc := Lib.hid hsucc
            clear hsucc hkp
            go_wp2_with fail
            refine wp_region_on (by kernel_rfl) (by kernel_rfl) ?_
            repeat (go_big_quiet_step ((go_at_call 47; exact On.same (KF.out _))))
            refine wpQuiet_nil ?_
            intro w4 hw'
            obtain ⟨⟨w4b, hb4⟩, hw''⟩ := hw'
            obtain rfl : w4 = w4b := hw''
            have HB4 := Lib.hid (HBA.out.trans (hb4.mono HBA.out.size))
            have HC4 := Lib.hid (HCA.out.next hb4)
            have HO4 := Lib.hid (own_next HOA.out hb4)
            have hx4 := (HXB.out.next hb4).cell 0
            have X4 := HXB.out.next hb4
            have hm4 := HC4.out.lt
            clear s0 lk KF e0 e1 e2 e3
            have lk4 := HC4.out.get (nx xs k).name hns hkt
            go_wp2_with (at_mapUpdate; go_must (refine cnt_put w4 rfl _ _ _ rfl HC4.out (nx xs k) rfl rfl rfl hns hkt (by omega) ?_; intro w7 D' C7 g7))
            have own7 := HO4.out.kept g7 (.inr Hne.out)
            have HB7 := HB4.out.grown g7 HB4.out.size (fun q hq => by injection hq with e; omega)
            go_roundw
            case rel => exact ⟨k + 1, n' + 1, D', by omega, by omega, by go_num, by rw [Hsucc.out]; exact own7, Lib.hid (by rw [Htk.out]; exact C7), Hne, Lib.hid HB7⟩
            case measure => simp [intOf]; omega
        · obtain rfl : k = n := by omega
          have hlt' : ¬ (k : Int) < (k : Int) := by omega
          go_wp2_with fail
          go_ret
          rw [Hr.out]
          exact nums_own HO.out rfl HB.out
end Go.Proofs.YtbcfbkcadceniaaDoor
