/- What is left behind cuts: the reference's; drawn stores with cuts. -/
import Derived.Test.YtbcfbkcadceniaaDoorLeftI
import Derived.Test.YtbcfbkcadceniaaDoorCutsS
import Derived.Test.YtbcfbkcadceniaaDoorDrawCu
import Derived.Test.YtbcfbkcadceniaaDoorRowX
import Derived.Deep.RegionLaw
namespace Go.Proofs.YtbcfbkcadceniaaDoor
set_option linter.unusedVariables false
set_option linter.unusedSimpArgs false
open Go.RowKit

set_option maxRecDepth 100000 in
set_option maxHeartbeats 8000000 in
theorem cutsLeftS_any (A : Option Addr) (n c : Nat) (xs : List En) (B : Option Addr) (m d : Nat) (cs : List Cut) (w : World) (h : Row enCells 4 w w.heap.size A n xs) (h' : Row cutCells 2 w w.heap.size B m cs) (hsm : SmallEns xs) (hsc : SmallCuts cs) (hnc : n ≤ c) (hnb : n ≤ 900) (hmb : m ≤ 900) :
    Calls Tryd.prog 17 #[.slice A n c, .slice B m d] w (NumsRet (cutsLeft xs cs) w) := by
  have Hl := Lib.hid h.1
  have hb0 : Below w.heap.size w (w.alloc (.cells #[] 3)) := (Below.refl _ _).alloc (Nat.le_refl _) _
  have L : Live (w.alloc (.cells #[] 3)) fun W => (Below w.heap.size w W ∧ Row enCells 4 W W.heap.size A n xs) ∧ Row cutCells 2 W W.heap.size B m cs := ((Live.since hb0).and (Live.row (h.next hb0))).and (Live.row (h'.next hb0))
  have O0 : (w.alloc (.cells #[] 3)).ownsRow w.heap.size 3 1 (.slice (some ⟨w.heap.size, 0, none⟩) 0 0) 0 [] := World.ownsRow_lit w #[] 0 (Nat.le_refl _) (Nat.zero_le _) rfl
  have HO0 := Lib.hid O0
  have V1 := Lib.hid (fun W H => storeValidS_any A n c xs W H hsm (by omega))
  have V2 := Lib.hid (fun W H => cutsValidS_any B m d cs W H hsc (by omega))
  have H0 := Lib.hid h
  have H0' := Lib.hid h'
  have Hsm := Lib.hid hsm
  clear h h' hb0 O0 hsc hsm
  cases h1 : storeOk xs with
  | false =>
    have Hr := Lib.hid (cutsLeft_no (xs := xs) (cs := cs) (by rw [h1]; rfl))
    rw [h1] at V1
    go_enter Tryd.func17, Tryd.ntmps17
    go_wp2_with (go_at_call 19; refine (V1.out _ L.now.1.2).mono ?_; rintro e w1 ⟨rfl, hb1⟩; have L1 := L.next hb1; have O1 := own_next HO0.out hb1)
    go_ret
    rw [Hr.out]
    exact nums_own (l := []) O1 rfl L1.now.1.1
  | true =>
    rw [h1] at V1
    cases h2 : cutsOk cs with
    | false =>
      have Hr := Lib.hid (cutsLeft_no (xs := xs) (cs := cs) (by rw [h2]; simp))
      rw [h2] at V2
      go_enter Tryd.func17, Tryd.ntmps17
      go_wp2_with (first
        | (go_at_call 19; refine (V1.out _ L.now.1.2).mono ?_; rintro e w1 ⟨rfl, hb1⟩; have L1 := L.next hb1; have O1 := own_next HO0.out hb1)
        | (go_at_call 20; refine (V2.out _ L1.now.2).mono ?_; rintro e w2 ⟨rfl, hb2⟩; have L2 := L1.next hb2; have O2 := own_next O1 hb2))
      go_ret
      rw [Hr.out]
      exact nums_own (l := []) O2 rfl L2.now.1.1
    | true =>
      rw [h2] at V2
      have Hr := Lib.hid (cutsLeft_yes h1 h2)
      rw [Hl.out] at Hr
      clear h1 h2
      go_enter Tryd.func17, Tryd.ntmps17
      go_wp2_with (first
        | (go_at_call 19; refine (V1.out _ L.now.1.2).mono ?_; rintro e w1 ⟨rfl, hb1⟩; have L1 := L.next hb1; have O1 := Lib.hid (own_next HO0.out hb1))
        | (go_at_call 20; refine (V2.out _ L1.now.2).mono ?_; rintro e w2 ⟨rfl, hb2⟩; have L2 := L1.next hb2; have O2 := Lib.hid (own_next O1.out hb2)))
      have HA2 := Lib.hid L2.now.1.1
      clear L L1 V1 V2 hb1 hb2 O1
      go_loopw [5, 6] (fun v i wr => ∃ k : Nat, k ≤ n ∧ i = .int .i64 (k : Int) ∧ wr.ownsRow w.heap.size 3 1 v (keptTo xs cs k).length ((keptTo xs cs k).flatMap numCells) ∧ Hid (Below w.heap.size w wr)) (fun _ i _ => n - (intOf i).toNat)
      case atStart => exact ⟨0, Nat.zero_le _, rfl, O2.out, HA2⟩
      case round =>
        obtain ⟨k, hk, rfl, hown, HB⟩ := hrel
        have hkl := keptTo_len xs cs k
        have HO := Lib.hid hown
        clear hown
        by_cases hlt : k < n
        · have hlt' : (k : Int) < (n : Int) := by omega
          have hxl : k < xs.length := by rw [Hl.out]; exact hlt
          have hs : xs[k]? = some (nx xs k) := nx_get hxl
          have R0 := H0.out.below HB.out
          obtain ⟨b, off, rfl, hb, hx⟩ := R0.en_at (by omega)
          have e0 : wr.drew.cell? ⟨b, off + k * 4, none⟩ = some (.string (nx xs k).name) := (hx k _ hs).1
          have hkc : (k : Int) ≤ (c : Int) := by omega
          have RT : Row enCells 4 wr.drew wr.drew.heap.size (some ⟨b, off, none⟩) k (xs.take k) := ((R0.first enCells_len k hk).more HB.out.size)
          have P1 : Hid (Calls Tryd.prog 48 #[.slice (some ⟨b, off, none⟩) k c, .string (nx xs k).name] wr.drew (EvsNew (streamOf (xs.take k) (nx xs k).name) wr.drew)) := Lib.hid (l4Events_new (some ⟨b, off, none⟩) k c (xs.take k) (nx xs k).name wr.drew RT (by omega))
          have hsucc := keptTo_succ xs cs k
          have Hx := Lib.hid (fun W (hW : Below wr.heap.size wr W) => (hW.cell (p := ⟨b, off + k * 4, none⟩) (by have := HB.out.size; show b < wr.heap.size; omega)).trans (hx k _ hs).1)
          clear hs hx RT
          by_cases hkp : keptAt xs cs k = true
          · have hge : cutFrom cs (nx xs k).name ≤ ((streamOf (xs.take k) (nx xs k).name).length : Int) := of_decide_eq_true hkp
            have Hge := Lib.hid hge
            rw [if_pos hkp] at hsucc
            have Hsucc := Lib.hid hsucc
            clear hsucc hkp hge
            go_wp2_with fail
            go_region_law (first
              | (go_simp; go_at_call 48; (with_reducible refine P1.out.mono ?_); (rintro e w4 ⟨A4, q4, c4, rfl, hrow4, hnc4, Hnil4, Hnew4, hb4⟩; have hge4 : cutFrom cs (nx xs k).name ≤ (q4 : Int) := (by rw [← hrow4.1]; exact Hge.out); have HB4 := Lib.hid (below_undrew hb4); have f0 := Hx.out w4 HB4.out; have HBB := Lib.hid (HB.out.trans (HB4.out.mono HB.out.size)); have P2 := Lib.hid (l23From_any B m d cs (nx xs k).name w4 ((H0'.out.below HBB.out).more HBB.out.size) (by omega))))
              | (go_simp; go_at_call 49; (with_reducible refine P2.out.mono ?_); (rintro e w5 ⟨rfl, rfl⟩)))
            all_goals
              have HO4 := Lib.hid (own_next HO.out HB4.out)
              go_wp2_with (at_builtin; go_must (refine app_one elemNum w4 rfl _ _ rfl w.heap.size _ (keptTo xs cs k).length ((keptTo xs cs k).flatMap numCells) rfl (by exact HO4.out) [.int .i64 (k : Int)] rfl rfl ?_ ?_ ?_ ?_); (intro u hu; simp at hu; subst hu; rfl); omega; exact HBB.out.size; intro v' w5 own5 grow5 or5)
              have HB5 := own_below' HO4.out (Nat.le_refl _) HBB.out HBB.out.size grow5
              have own6 : w5.ownsRow w.heap.size 3 1 v' (keptTo xs cs (k + 1)).length ((keptTo xs cs (k + 1)).flatMap numCells) := by
                rw [Hsucc.out, nums_snoc, List.length_append]
                exact own5
              go_roundw
              case rel => exact ⟨k + 1, by omega, by go_num, own6, Lib.hid HB5⟩
              case measure => simp [intOf]; omega
          · have hge : ¬ cutFrom cs (nx xs k).name ≤ ((streamOf (xs.take k) (nx xs k).name).length : Int) := fun h => hkp (decide_eq_true h)
            have Hge := Lib.hid hge
            rw [if_neg hkp, List.append_nil] at hsucc
            have Hsucc := Lib.hid hsucc
            clear hsucc hkp hge
            go_wp2_with fail
            go_region_law (first
              | (go_simp; go_at_call 48; (with_reducible refine P1.out.mono ?_); go_must (rintro e w4 ⟨A4, q4, c4, rfl, hrow4, hnc4, Hnil4, Hnew4, hb4⟩; have hge4 : ¬ cutFrom cs (nx xs k).name ≤ (q4 : Int) := (by rw [← hrow4.1]; have hq := Hge.out; omega); have HB4 := Lib.hid (below_undrew hb4); have f0 := Hx.out w4 HB4.out; have HBB := Lib.hid (HB.out.trans (HB4.out.mono HB.out.size)); have P2 := Lib.hid (l23From_any B m d cs (nx xs k).name w4 ((H0'.out.below HBB.out).more HBB.out.size) (by omega))))
              | (go_simp; go_at_call 49; (with_reducible refine P2.out.mono ?_); (rintro e w5 ⟨rfl, rfl⟩)))
            all_goals
              have HO4 := Lib.hid (own_next HO.out HB4.out)
              go_wp2_with fail
              go_roundw
              case rel => exact ⟨k + 1, by omega, by go_num, by rw [Hsucc.out]; exact HO4.out, HBB⟩
              case measure => simp [intOf]; omega
        · obtain rfl : k = n := by omega
          have hlt' : ¬ (k : Int) < (k : Int) := by omega
          go_wp2_with fail
          go_ret
          rw [Hr.out]
          exact nums_own HO.out rfl HB.out
def LeftDrawn (w : World) (e : Ending) (w' : World) : Prop :=
  ∃ (A : Option Addr) (n c : Nat) (xs : List En) (B : Option Addr) (m d : Nat) (cs : List Cut), e = .returned (.tuple #[.slice A n c, .slice B m d]) ∧ Row enCells 4 w' w'.heap.size A n xs ∧ Row cutCells 2 w' w'.heap.size B m cs ∧ Hid (∀ x ∈ xs, EnB x) ∧ Hid (SmallCuts cs) ∧ n ≤ 30 ∧ m ≤ 6 ∧ n ≤ c ∧ m ≤ d ∧ Hid (A = none → c = 0) ∧ Below w.heap.size w w'
set_option maxHeartbeats 2000000 in
theorem drawCutsLeft_any (A : Option Addr) (n c : Nat) (w : World) (h : Code w A n c) :
    Calls Tryd.prog 15 #[.slice A n c] w (LeftDrawn w) := by
  go_enter Tryd.func15, Tryd.ntmps15
  go_wp2_with fail
  refine (open_any A n c _ h).mono ?_
  rintro e w1 ⟨r, rfl, hr, hb1, h1⟩
  clear h
  have hr1 := h1.lt
  go_wp2_with fail
  refine (l91Store_any r 0 _ h1 (by omega)).mono ?_
  rintro e w2 ⟨v, k, xs, rfl, hl, hown, HB, hk, hg2, h2⟩
  have hb2 := drawn_below hr hb1 hg2
  have HO := Lib.hid hown
  have Hl := Lib.hid hl
  obtain ⟨Av, cv, rfl⟩ := own_slice_n hown
  clear hg2 hb1 h1 hown hl
  go_wp2_with fail
  refine (l92Cuts_any r _ _ h2 (by omega)).mono ?_
  rintro e w3 ⟨u, m, cs, rfl, hlm, U, HS, hm, hg3, h3⟩
  have hb3 := drawn_below hr hb2 hg3.out
  have O3 := own_rd HO.out hr1 hg3.out
  obtain ⟨A', c', e1, q1, q2, q3, _⟩ := Row.of_own O3 Hl.out
  obtain ⟨rfl, -, rfl⟩ : Av = A' ∧ k = k ∧ cv = c' := by injection e1 with a b c; exact ⟨a, rfl, c⟩
  obtain ⟨B, d, rfl, p1, p2, p3, _⟩ := Row.of_own U.out hlm.out
  have Hq := Lib.hid q2
  have HR := Lib.hid (And.intro q3 (And.intro p3 hb3))
  have Hsc := Lib.hid HS.out.small
  clear hg3 h2 hb2 e1 q2 q3 p2 p3 O3 U hb3 h3
  go_wp2_with fail
  go_ret2
  exact ⟨Av, k, cv, xs, B, m, d, cs, rfl, HR.out.1, HR.out.2.1, HB, Hsc, hk, hm, q1, p1, Hq, HR.out.2.2⟩
end Go.Proofs.YtbcfbkcadceniaaDoor
