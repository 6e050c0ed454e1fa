/- The stripes of names: the program's. -/
import Derived.Test.YtecijlebfpbpaaaDoorStrS
import Derived.Test.YtecijlebfpbpaaaDoorNamesI
namespace Go.Proofs.YtecijlebfpbpaaaDoor
set_option linter.unusedVariables false
set_option linter.unusedSimpArgs false
open Go.RowKit

/-- how many names have a stripe. -/
def cntS (ss : List ByteArray) (n j : Nat) : Nat := (ss.filter fun s => decide (stripeOf s.data.toList n = j)).length
theorem cntS_snoc (ss : List ByteArray) (s : ByteArray) (n j : Nat) : cntS (ss ++ [s]) n j = cntS ss n j + (if stripeOf s.data.toList n = j then 1 else 0) := by
  unfold cntS
  rw [List.filter_append, List.length_append]
  by_cases h : stripeOf s.data.toList n = j
  · rw [if_pos h, List.filter_cons_of_pos (by exact decide_eq_true h)]; rfl
  · rw [if_neg h, List.filter_cons_of_neg (by simpa using h)]; rfl
theorem cntS_le (ss : List ByteArray) (n j : Nat) : cntS ss n j ≤ ss.length := List.length_filter_le _ _
theorem cntS_pos {ss : List ByteArray} {n j : Nat} : 0 < cntS ss n j ↔ (ss.any fun s => decide (stripeOf s.data.toList n = j)) = true := by
  unfold cntS
  rw [List.length_pos_iff, List.any_eq_true]
  constructor
  · intro h
    obtain ⟨x, hx⟩ := List.exists_mem_of_ne_nil _ h
    exact ⟨x, (List.mem_filter.1 hx).1, (List.mem_filter.1 hx).2⟩
  · rintro ⟨x, hx, h⟩
    exact List.ne_nil_of_mem (List.mem_filter.2 ⟨hx, h⟩)
/-- the stripes below j that names have. -/
def strTo (ss : List ByteArray) (n j : Nat) : List Nat := (List.range j).filter fun k => ss.any fun s => decide (stripeOf s.data.toList n = k)
theorem strTo_succ (ss : List ByteArray) (n j : Nat) : strTo ss n (j + 1) = strTo ss n j ++ (if 0 < cntS ss n j then [j] else []) := by
  unfold strTo
  rw [List.range_succ, List.filter_append]
  by_cases h : 0 < cntS ss n j
  · rw [if_pos h, List.filter_cons_of_pos (p := fun k => ss.any fun s => decide (stripeOf s.data.toList n = k)) (cntS_pos.1 h)]; rfl
  · rw [if_neg h, List.filter_cons_of_neg (p := fun k => ss.any fun s => decide (stripeOf s.data.toList n = k)) (fun e => h (cntS_pos.2 e))]; rfl
theorem strTo_len (ss : List ByteArray) (n j : Nat) : (strTo ss n j).length ≤ j := by
  unfold strTo
  have := List.length_filter_le (fun k => ss.any fun s => decide (stripeOf s.data.toList n = k)) (List.range j)
  rwa [List.length_range] at this
theorem strTo_all (ss : List ByteArray) {n : Nat} (h1 : 1 ≤ n) (h8 : n ≤ 8) : strTo ss n 8 = strSet ss n := by
  refine sorted_ext (range_sorted 8 _) (strSet_sorted ss n) fun x => ?_
  rw [strSet_mem h1]
  unfold strTo
  rw [List.mem_filter, List.mem_range, List.any_eq_true]
  constructor
  · rintro ⟨_, s, hs, h⟩
    exact ⟨s, hs, of_decide_eq_true h⟩
  · rintro ⟨s, hs, h⟩
    exact ⟨by have : stripeOf s.data.toList n < n := Nat.mod_lt _ (by omega)
              omega, s, hs, decide_eq_true h⟩
/-- the box that counts. -/
def Cnt8 (w : World) (g : Nat) (ss : List ByteArray) (n : Nat) : Prop := ∃ arr : Array Value, Blk w g 81 arr ∧ arr.size = 8 ∧ ∀ j, j < 8 → arr[j]? = some (.int .i64 ((cntS ss n j : Nat) : Int))
theorem Cnt8.at_ {w : World} {g : Nat} {ss : List ByteArray} {n : Nat} (h : Cnt8 w g ss n) (j : Nat) (hj : j < 8) : w.cell? ⟨g, j, none⟩ = some (.int .i64 ((cntS ss n j : Nat) : Int)) ∧ w.frozen? ⟨g, j, none⟩ = false := by
  obtain ⟨arr, hb, _, hx⟩ := h
  exact ⟨(hb.cell j).trans (hx j hj), hb.frozen j⟩
theorem Cnt8.next {w w' : World} {g : Nat} {ss : List ByteArray} {n : Nat} (h : Cnt8 w g ss n) (hb : Below w.heap.size w w') : Cnt8 w' g ss n := by
  obtain ⟨arr, h1, h2, h3⟩ := h
  exact ⟨arr, h1.next hb, h2, h3⟩
theorem Cnt8.put {w : World} {g : Nat} {ss : List ByteArray} {n : Nat} (h : Cnt8 w g ss n) (s : ByteArray) (hj : stripeOf s.data.toList n < 8) : Cnt8 (w.setCell ⟨g, stripeOf s.data.toList n, none⟩ (.int .i64 (((cntS ss n (stripeOf s.data.toList n) : Nat) : Int) + 1))) g (ss ++ [s]) n := by
  obtain ⟨arr, h1, h2, h3⟩ := h
  refine ⟨_, h1.set_ _ _, by rw [Array.size_setIfInBounds]; exact h2, fun j hj8 => ?_⟩
  rw [cntS_snoc]
  by_cases e : stripeOf s.data.toList n = j
  · rw [if_pos e, e, Array.getElem?_setIfInBounds, if_pos rfl, if_pos (by omega)]; rfl
  · rw [if_neg e, Array.getElem?_setIfInBounds, if_neg e]; exact h3 j hj8
set_option maxRecDepth 100000 in
set_option maxHeartbeats 8000000 in
theorem stripesOf_any (A : Option Addr) (n c : Nat) (ss : List ByteArray) (st : Int) (w : World) (h : Strs w w.heap.size A n ss) (hsm : AllSmall ss) (hnb : n ≤ 900) (hg : GE w) :
    Calls Tryd.prog 20 #[.slice A n c, .int .i64 st] w (NumsNew (stripesOf ss st) w) := by
  have Hl := Lib.hid h.len
  have L0 := ((Live.since (Below.refl w.heap.size w)).and (Live.strs h)).and (Live.ge hg)
  have Hsm := Lib.hid hsm
  clear h hsm hg
  by_cases hst : 1 ≤ st ∧ st ≤ 8
  · obtain ⟨s1, s2⟩ := hst
    have hd : (decide (1 ≤ st) && decide (st ≤ 8)) = true := by rw [decide_eq_true s1, decide_eq_true s2]; rfl
    obtain ⟨q, rfl⟩ : ∃ q : Nat, st = (q : Int) := ⟨st.toNat, by omega⟩
    have hq1 : 1 ≤ q := by omega
    have hq8 : q ≤ 8 := by omega
    have Hd := Lib.hid hd
    clear hd
    have SV := Lib.hid (stripesValid_any (q : Int) w)
    rw [Hd.out] at SV
    go_enter Tryd.func20, Tryd.ntmps20
    go_wp2_with (go_at_call 56; (with_reducible refine SV.out.mono ?_); (rintro e w1 ⟨rfl, rfl⟩))
    have C0 : Cnt8 (w.alloc (.cells #[.int .i64 0, .int .i64 0, .int .i64 0, .int .i64 0, .int .i64 0, .int .i64 0, .int .i64 0, .int .i64 0] 81)) w.heap.size (ss.take 0) q := by
      refine ⟨_, Blk.new w _ _, rfl, fun j hj => ?_⟩
      rw [List.take_zero]
      obtain rfl | rfl | rfl | rfl | rfl | rfl | rfl | rfl : j = 0 ∨ j = 1 ∨ j = 2 ∨ j = 3 ∨ j = 4 ∨ j = 5 ∨ j = 6 ∨ j = 7 := by omega
      all_goals rfl
    have HC0 := Lib.hid C0
    clear C0
    go_loopw [17] (fun i wr => ∃ k : Nat, k ≤ n ∧ i = .int .i64 (k : Int) ∧ Hid (Cnt8 wr w.heap.size (ss.take k) q) ∧ Hid (∀ s ∈ ss.take k, nameOk s.data.toList = true) ∧ Hid (Below w.heap.size w wr)) (fun i _ => n - (intOf i).toNat)
    case atStart => exact ⟨0, Nat.zero_le _, rfl, HC0, Lib.hid (fun s hs => by simp at hs), Lib.hid ((Below.refl _ _).alloc (Nat.le_refl _) _)⟩
    case round =>
      obtain ⟨k, hk, rfl, HC, Hok, HB⟩ := hrel
      have LW := L0.next HB.out
      by_cases hlt : k < n
      · have hlt' : (k : Int) < (n : Int) := by omega
        have hkl : k < ss.length := by rw [Hl.out]; exact hlt
        obtain ⟨b, off, rfl, hb, hx⟩ := LW.now.1.2.at_ (by omega)
        have c0 := hx k _ (nx_get hkl)
        have NS := Lib.hid (nameStripe_any (nx ss k) (q : Int) wr (Hsm.out _ (nx_mem hkl)) LW.now.2)
        have Hbad := Lib.hid (fun h => stripesOf_bad (n := (q : Int)) k hkl h)
        have Hgd := Lib.hid (fun h => stripe_good (s := nx ss k) (n := (q : Int)) h)
        have His := Lib.hid (fun h => stripe_is (s := nx ss k) (n := (q : Int)) h)
        have Htk := Lib.hid (take_nx hkl)
        clear hx
        by_cases hneg : nameStripe (nx ss k).data.toList (q : Int) < 0
        · have Hr := Lib.hid (Hbad.out hneg)
          clear Hgd His
          go_wp2_with (go_at_call 24; (with_reducible refine NS.out.mono ?_); (rintro e w1 ⟨rfl, hb1⟩; have L1 := LW.next hb1))
          go_ret
          rw [Hr.out]
          exact ⟨_, 0, 0, rfl, Row.nil _ _ _, Nat.le_refl _, Lib.hid (fun e => by cases e), L1.now.1.1.alloc L1.now.1.1.size _⟩
        · obtain ⟨g1, g2⟩ := Hgd.out hneg
          rw [His.out hneg, Int.toNat_natCast] at NS
          have hj8 : stripeOf (nx ss k).data.toList q < 8 := by have : stripeOf (nx ss k).data.toList q < q := Nat.mod_lt _ (by omega); omega
          have hcl := cntS_le (ss.take k) q (stripeOf (nx ss k).data.toList q)
          rw [List.length_take] at hcl
          have PU := Lib.hid (fun W (H : Cnt8 W w.heap.size (ss.take k) q) => H.put (nx ss k) hj8)
          have At := Lib.hid (fun W (H : Cnt8 W w.heap.size (ss.take k) q) => H.at_ _ hj8)
          obtain ⟨j, hj⟩ : ∃ j, stripeOf (nx ss k).data.toList q = j := ⟨_, rfl⟩
          obtain ⟨ct, hct⟩ : ∃ ct, cntS (ss.take k) q j = ct := ⟨_, rfl⟩
          rw [hj] at NS hj8 hcl PU At
          rw [hct] at hcl PU At
          have hnn : ¬ ((j : Nat) : Int) < 0 := by omega
          have hj8' : (j : Int) < 8 := by omega
          have hw1 : IntKind.i64.wrap ((ct : Int) + 1) = (ct : Int) + 1 := IntWalk.i64_in _ (by omega)
          have Hg := Lib.hid g1
          clear hneg g1 g2 Hgd His Hbad hj hct
          go_wp2_with (go_at_call 24; (with_reducible refine NS.out.mono ?_); (rintro e w1 ⟨rfl, hb1⟩; have HC1 := Lib.hid (HC.out.next hb1); have HB1 := Lib.hid (HB.out.trans (hb1.mono HB.out.size)); obtain ⟨d0, f0⟩ := At.out w1 HC1.out))
          go_roundw
          case rel => exact ⟨k + 1, by omega, by go_num, by rw [Htk.out]; exact Lib.hid (PU.out w1 HC1.out), Lib.hid (fun s hs => by
            rw [Htk.out] at hs
            rcases List.mem_append.1 hs with h | h
            · exact Hok.out s h
            · rw [List.mem_singleton] at h; rw [h]; exact Hg.out), Lib.hid (HB1.out.setCell (p := ⟨w.heap.size, j, none⟩) (Nat.le_refl _) _)⟩
          case measure => simp [intOf]; omega
      · obtain rfl : k = n := by omega
        have hlt' : ¬ (k : Int) < (k : Int) := by omega
        have hall : ss.take k = ss := List.take_of_length_le (by rw [Hl.out]; exact Nat.le_refl _)
        rw [hall] at HC Hok
        have Hr : Hid (stripesOf ss (q : Int) = strTo ss q 8) := Lib.hid (by
          unfold stripesOf
          rw [if_pos ⟨⟨s1, s2⟩, Hok.out⟩, Int.toNat_natCast, strTo_all ss hq1 hq8])
        generalize wr = wA at *
        have O0 := Lib.hid (show (wA.alloc (.cells #[] 3)).ownsRow wA.heap.size 3 1 (.slice (some ⟨wA.heap.size, 0, none⟩) 0 0) (strTo ss q 0).length ((strTo ss q 0).flatMap intCells) from World.ownsRow_lit wA #[] 0 (Nat.le_refl _) (Nat.zero_le _) rfl)
        have HL8 := Lib.hid (strTo_len ss q)
        clear hall
        go_wp2_with fail
        go_loopw [9, 34] (fun v i wq => ∃ j : Nat, j ≤ 8 ∧ i = .int .i64 (j : Int) ∧ wq.ownsRow wA.heap.size 3 1 v (strTo ss q j).length ((strTo ss q j).flatMap intCells) ∧ Hid (Below wA.heap.size wA wq)) (fun _ i _ => 8 - (intOf i).toNat)
        case atStart => exact ⟨0, by omega, rfl, O0.out, Lib.hid ((Below.refl _ _).alloc (Nat.le_refl _) _)⟩
        case round =>
          obtain ⟨j, hj, rfl, hown, HB2⟩ := hrel
          have HO := Lib.hid hown
          clear hown
          by_cases hjt : j < 8
          · have hjt' : (j : Int) < 8 := by omega
            obtain ⟨d0, f0⟩ := (HC.out.next HB2.out).at_ j hjt
            have hsu := strTo_succ ss q j
            have hll := HL8.out j
            obtain ⟨ct, hct⟩ : ∃ ct, cntS ss q j = ct := ⟨_, rfl⟩
            rw [hct] at d0 hsu
            have Hsu := Lib.hid hsu
            clear hct hsu
            by_cases hp : 0 < ct
            · have hp' : (0 : Int) < (ct : Int) := by omega
              rw [if_pos hp] at Hsu
              clear hp
              go_wp2_with (at_builtin; go_must (refine app_one elemInt _ rfl _ _ rfl wA.heap.size _ (strTo ss q j).length ((strTo ss q j).flatMap intCells) rfl (by exact HO.out) [.int .i64 (j : Int)] rfl rfl ?_ ?_ ?_ ?_); (intro u hu; simp at hu; subst hu; rfl); omega; exact HB2.out.size; intro v' w9 own9 grow9 or9)
              have HB9 := Lib.hid (own_below' HO.out (Nat.le_refl _) HB2.out HB2.out.size grow9)
              rw [← flatI_snoc, ← Hsu.out] at own9
              have hl9 : (strTo ss q j).length + 1 = (strTo ss q (j + 1)).length := by rw [Hsu.out, List.length_append]; rfl
              rw [hl9] at own9
              have HO9 := Lib.hid own9
              clear own9 grow9 or9
              go_roundw
              case rel => exact ⟨j + 1, by omega, by go_num, HO9.out, HB9⟩
              case measure => simp [intOf]; omega
            · have hp' : ¬ (0 : Int) < (ct : Int) := by omega
              rw [if_neg hp, List.append_nil] at Hsu
              clear hp
              go_wp2_with fail
              go_roundw
              case rel => exact ⟨j + 1, by omega, by go_num, by rw [Hsu.out]; exact HO.out, HB2⟩
              case measure => simp [intOf]; omega
          · obtain rfl : j = 8 := by omega
            go_wp2_with fail
            go_ret
            rw [Hr.out]
            exact nums_new rfl HO.out (HB.out.trans (HB2.out.mono HB.out.size))
  · have hd : (decide (1 ≤ st) && decide (st ≤ 8)) = false := by
      rw [Bool.and_eq_false_iff, decide_eq_false_iff_not, decide_eq_false_iff_not]; omega
    have Hr := Lib.hid (show stripesOf ss st = [] by unfold stripesOf; rw [if_neg (fun e => hst e.1)])
    have SV := Lib.hid (stripesValid_any st w)
    rw [hd] at SV
    clear hd hst
    go_enter Tryd.func20, Tryd.ntmps20
    go_wp2_with (go_at_call 56; (with_reducible refine SV.out.mono ?_); (rintro e w1 ⟨rfl, rfl⟩))
    go_ret
    rw [Hr.out]
    exact ⟨_, 0, 0, rfl, Row.nil _ _ _, Nat.le_refl _, Lib.hid (fun e => by cases e), (Below.refl _ _).alloc (Nat.le_refl _) _⟩
end Go.Proofs.YtecijlebfpbpaaaDoor
