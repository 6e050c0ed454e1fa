/- The walk of laws.FnCutsLeft. -/
import Derived.Test.YtbcfbkcadceniaaDoorLeftS
namespace Go.Proofs.YtbcfbkcadceniaaDoor
set_option linter.unusedVariables false
set_option linter.unusedSimpArgs false
open Go.RowKit

theorem Row.num_at {w : World} {B n : Nat} {A : Option Addr} {l : List Nat} (h : Row numCells 1 w B A n l) (hn : 0 < n) : ∃ b off, A = some ⟨b, off, none⟩ ∧ b < B ∧ ∀ (k x : Nat), l[k]? = some x → w.cell? ⟨b, off + k, none⟩ = some (.int .i64 (x : Int)) := by
  obtain ⟨b, off, e, hb, hx⟩ := h.at_ numCells_len hn
  refine ⟨b, off, e, hb, fun k x hk => ?_⟩
  have := hx k x hk 0 _ rfl
  rw [Nat.mul_one, Nat.add_zero] at this
  exact this
set_option maxRecDepth 100000 in
set_option maxHeartbeats 4000000 in
theorem sameInts_self (A B : Option Addr) (n c d : Nat) (l : List Nat) (w : World) (h : Row numCells 1 w w.heap.size A n l) (h' : Row numCells 1 w w.heap.size B n l) (hnb : n ≤ 1000000) :
    Calls Tryd.prog 18 #[.slice A n c, .slice B n d] w fun e w' => e = .returned (.bool true) ∧ Below w.heap.size w w' := by
  have Hl := Lib.hid h.1
  have L0 := ((Live.since (Below.refl w.heap.size w)).and (Live.row h)).and (Live.row h')
  have e0 : (((n : Nat) : Int) != ((n : Nat) : Int)) = false := by simp
  clear h h'
  go_enter Tryd.func18, Tryd.ntmps18
  go_wp2_with fail
  go_loopw [5] (fun i wr => ∃ k : Nat, k ≤ n ∧ i = .int .i64 (k : Int) ∧ Live wr fun W => (Below w.heap.size w W ∧ Row numCells 1 W W.heap.size A n l) ∧ Row numCells 1 W W.heap.size B n l) (fun i _ => n - (intOf i).toNat)
  case atStart => exact ⟨0, Nat.zero_le _, rfl, L0⟩
  case round =>
    obtain ⟨k, hk, rfl, L⟩ := hrel
    by_cases hlt : k < n
    · have hlt' : (k : Int) < (n : Int) := by omega
      obtain ⟨b, off, rfl, hb, hx⟩ := L.now.1.2.num_at (by omega)
      obtain ⟨b', off', rfl, hb', hx'⟩ := L.now.2.num_at (by omega)
      obtain ⟨x, hxx⟩ : ∃ x, l[k]? = some x := ⟨_, List.getElem?_eq_getElem (by rw [Hl.out]; exact hlt)⟩
      have c0 := fun (y : On wr) => (show y.W.cell? ⟨b, off + k, none⟩ = some (.int .i64 (x : Int)) from (y.below.cell (p := ⟨b, off + k, none⟩) hb).trans (hx k x hxx))
      have d0 := fun (y : On wr) => (show y.W.cell? ⟨b', off' + k, none⟩ = some (.int .i64 (x : Int)) from (y.below.cell (p := ⟨b', off' + k, none⟩) hb').trans (hx' k x hxx))
      have hi : ((x : Int) == (x : Int)) = true := beq_self_eq_true _
      clear hx hx' hxx
      go_wp2_with fail
      refine wp_region_on (by kernel_rfl) (by kernel_rfl) ?_
      repeat (go_big_quiet_step (fail))
      refine wpQuiet_nil ?_
      intro w4 hw'
      obtain ⟨⟨w4b, hb4⟩, hw''⟩ := hw'
      obtain rfl : w4 = w4b := hw''
      go_wp2_with fail
      go_roundw
      case rel => exact ⟨k + 1, by omega, by go_num, L.next hb4⟩
      case measure => simp [intOf]; omega
    · have hlt' : ¬ (k : Int) < (n : Int) := by omega
      go_wp2_with fail
      go_ret
      exact ⟨rfl, L.now.1.1⟩
theorem evsAt_take {xs : List En} {s : ByteArray} {js : List Nat} {j x : Nat} (h : js[j]? = some x) : evsAt xs s (js.take (j + 1)) = evsAt xs s (js.take j) ++ if (nx xs x).name = s then [(nx xs x).ev] else [] := by
  obtain ⟨h1, h2⟩ := List.getElem?_eq_some_iff.1 h
  rw [List.take_succ_eq_append_getElem h1, h2, evsAt_app, evsAt_one]
theorem evsAt_len (xs : List En) (s : ByteArray) (js : List Nat) : (evsAt xs s js).length ≤ js.length := by
  unfold evsAt; rw [List.length_map]; exact List.length_filter_le _ _
set_option maxRecDepth 100000 in
set_option maxHeartbeats 8000000 in
theorem law_FnCutsLeft (A : Option Addr) (n c : Nat) (B : Option Addr) (m d : Nat) (w : World) (h : Code w A n c) (h2 : Code w B m d) (hg : GE w) :
    Calls Tryd.prog 3 #[.slice A n c, .slice B m d] w fun e w' => e = .returned (.bool true) ∧ Below w.heap.size w w' := by
  have hn := h.2.1
  unfold maxLen at hn
  by_cases hbig : (1048576 : Int) < n
  · go_enter Tryd.func3, Tryd.ntmps3
    go_wp2_with fail
    go_ret
    exact ⟨rfl, Below.refl _ _⟩
  have hm := h2.2.1
  unfold maxLen at hm
  by_cases hbig2 : (1048576 : Int) < m
  · go_enter Tryd.func3, Tryd.ntmps3
    go_wp2_with fail
    go_ret
    exact ⟨rfl, Below.refl _ _⟩
  have HC := Lib.hid h
  have L0 := (Live.since (Below.refl w.heap.size w)).and (Live.ge hg)
  clear h h2 hg
  go_enter Tryd.func3, Tryd.ntmps3
  go_wp2_with fail
  refine (drawCutsLeft_any A n c _ HC.out).mono ?_
  rintro e w1 ⟨Ax, k, cx, xs, Bx, p, dx, cs, rfl, hrow, hrowc, HE, HS, hk, hp, hkc, hpd, Hnil, hb1⟩
  have L1 := ((L0.next hb1).and (Live.row hrow)).and (Live.row hrowc)
  have Hl := Lib.hid hrow.1
  have FI := Lib.hid (fun W H H' G => cutsLeft_any Ax k cx xs Bx p dx cs W H H' (EnB.small HE.out) HS.out (by omega) (by omega) G)
  have FS := Lib.hid (fun W H H' => cutsLeftS_any Ax k cx xs Bx p dx cs W H H' (EnB.small HE.out) HS.out hkc (by omega) (by omega))
  have SV := Lib.hid (fun W H => storeValidS_any Ax k cx xs W H (EnB.small HE.out) (by omega))
  have CV := Lib.hid (fun W H => cutsValidS_any Bx p dx cs W H HS.out (by omega))
  obtain ⟨js, hj⟩ : ∃ js, cutsLeft xs cs = js := ⟨_, rfl⟩
  rw [hj] at FI FS
  have Hj := Lib.hid hj
  clear hrow hrowc hb1 L0 hj
  go_wp2_with fail
  refine (FI.out _ L1.now.1.2 L1.now.2 L1.now.1.1.2).mono ?_
  rintro e w2 ⟨Ao, no, co, rfl, hrow2, hnc2, Hn2, hb2⟩
  have L2 := (L1.next hb2).and (Live.row hrow2)
  have Hno : Hid (js.length = no) := Lib.hid hrow2.1
  clear hrow2 hb2 L1
  go_wp2_with fail
  refine (FS.out _ L2.now.1.1.2 L2.now.1.2).mono ?_
  rintro e w3 ⟨As, ns, cy, rfl, hrow3, hnc3, Hn3, hb3⟩
  obtain rfl : ns = no := hrow3.1.symm.trans Hno.out
  have L3 := (L2.next hb3).and (Live.row hrow3)
  have hns : ns ≤ 30 := by
    rw [← Hno.out, ← Hj.out]
    unfold cutsLeft
    split
    · have := keptTo_len xs cs xs.length; rw [Hl.out] at this ⊢; omega
    · exact Nat.zero_le _
  have SI := Lib.hid (fun W (hW : Below w3.heap.size w3 W) => sameInts_self Ao As ns co cy js W (L3.next hW).now.1.2 (L3.next hW).now.2 (by omega))
  clear hrow3 hb3 L2 FI FS
  have SI1 := Lib.hid (SI.out w3 (Below.refl _ _))
  cases h1 : storeOk xs with
  | false =>
    rw [h1] at SV
    go_wp2_with (first
      | (go_at_call 18; (with_reducible refine SI1.out.mono ?_); (rintro e w4 ⟨rfl, hb4⟩; have L4 := L3.next hb4; have B4 := Lib.hid hb4))
      | (go_at_call 19; refine (SV.out _ L4.now.1.1.1.2).mono ?_; rintro e w5 ⟨rfl, hb5⟩; have L5 := L4.next hb5; have B5 := Lib.hid (bt B4.out hb5); have SI2 := Lib.hid (SI.out w5 B5.out))
      | (go_at_call 18; (with_reducible refine SI2.out.mono ?_); (rintro e w9 ⟨rfl, hb9⟩)))
    go_ret
    exact ⟨rfl, (L5.next hb9).now.1.1.1.1.1⟩
  | true =>
  rw [h1] at SV
  cases h2 : cutsOk cs with
  | false =>
    rw [h2] at CV
    go_wp2_with (first
      | (go_at_call 18; (with_reducible refine SI1.out.mono ?_); (rintro e w4 ⟨rfl, hb4⟩; have L4 := L3.next hb4; have B4 := Lib.hid hb4))
      | (go_at_call 19; refine (SV.out _ L4.now.1.1.1.2).mono ?_; rintro e w5 ⟨rfl, hb5⟩; have L5 := L4.next hb5; have B5 := Lib.hid (bt B4.out hb5))
      | (go_at_call 20; refine (CV.out _ L5.now.1.1.2).mono ?_; rintro e w6 ⟨rfl, hb6⟩; have L6 := L5.next hb6; have B6 := Lib.hid (bt B5.out hb6); have SI2 := Lib.hid (SI.out w6 B6.out))
      | (go_at_call 18; (with_reducible refine SI2.out.mono ?_); (rintro e w9 ⟨rfl, hb9⟩)))
    go_ret
    exact ⟨rfl, (L6.next hb9).now.1.1.1.1.1⟩
  | true =>
  rw [h2] at CV
  by_cases hk0 : k = 0
  · subst hk0
    go_wp2_with (first
      | (go_at_call 18; (with_reducible refine SI1.out.mono ?_); (rintro e w4 ⟨rfl, hb4⟩; have L4 := L3.next hb4; have B4 := Lib.hid hb4))
      | (go_at_call 19; refine (SV.out _ L4.now.1.1.1.2).mono ?_; rintro e w5 ⟨rfl, hb5⟩; have L5 := L4.next hb5; have B5 := Lib.hid (bt B4.out hb5))
      | (go_at_call 20; refine (CV.out _ L5.now.1.1.2).mono ?_; rintro e w6 ⟨rfl, hb6⟩; have L6 := L5.next hb6; have B6 := Lib.hid (bt B5.out hb6); have SI2 := Lib.hid (SI.out w6 B6.out))
      | (go_at_call 18; (with_reducible refine SI2.out.mono ?_); (rintro e w9 ⟨rfl, hb9⟩)))
    go_ret
    exact ⟨rfl, (L6.next hb9).now.1.1.1.1.1⟩
  have hkz : ((k : Int) == 0) = false := beq_eq_false_iff_ne.2 (by omega)
  have hkn : ¬ (k : Int) = 0 := by omega
  obtain ⟨q, hq⟩ : ∃ q, m % k = q := ⟨_, rfl⟩
  have hqk : q < k := by rw [← hq]; exact Nat.mod_lt _ (by omega)
  have hrem : (m : Int).tmod (k : Int) = (q : Int) := by rw [Int.tmod_eq_emod_of_nonneg (by omega), ← Int.natCast_emod, hq]
  have hqk' : (q : Int) < (k : Int) := by omega
  have hwq : IntKind.i64.wrap (q : Int) = (q : Int) := IntWalk.i64_in _ (by omega)
  obtain ⟨b, off, rfl, hb, hx⟩ := L3.now.1.1.1.2.en_at (by omega)
  have Hx := Lib.hid (fun W (hW : Below w3.heap.size w3 W) (j : Nat) (hj : j < k) => (hx j _ (nx_get (by rw [Hl.out]; exact hj))).below hW hb)
  obtain ⟨s, hs⟩ : ∃ s, (nx xs q).name = s := ⟨_, rfl⟩
  have hmem : nx xs q ∈ xs := nx_mem (by rw [Hl.out]; exact hqk)
  have hss : s.size ≤ maxLen := by rw [← hs]; exact (EnB.small HE.out _ hmem).1
  have hok : nameOk s.data.toList = true := by
    have := (storeOk_streams.1 h1).2.1 _ hmem
    unfold enOk at this
    rw [Bool.and_eq_true, hs] at this
    exact this.1
  have HR := Lib.hid (cutsLeft_read (s := s) h1 h2 hok)
  rw [Hj.out] at HR
  have Hasc : Hid (js.Pairwise (· < ·) ∧ ∀ j ∈ js, j < k) := Lib.hid (by
    rw [← Hj.out, cutsLeft_yes h1 h2, Hl.out]
    exact ⟨keptTo_asc _ _ _, fun j hj => keptTo_lt hj⟩)
  have RD := Lib.hid (fun W H H' G => cutsRead_any (some ⟨b, off, none⟩) k cx xs Bx p dx cs s W H H' (EnB.small HE.out) HS.out hss (by omega) (by omega) G)
  clear hx hq hmem hok h1 h2 hk0
  go_wp2_with (first
    | (go_at_call 18; (with_reducible refine SI1.out.mono ?_); (rintro e w4 ⟨rfl, hb4⟩; have L4 := L3.next hb4; have B4 := Lib.hid hb4))
    | (go_at_call 19; refine (SV.out _ L4.now.1.1.1.2).mono ?_; rintro e w5 ⟨rfl, hb5⟩; have L5 := L4.next hb5; have B5 := Lib.hid (bt B4.out hb5))
    | (go_at_call 20; refine (CV.out _ L5.now.1.1.2).mono ?_; rintro e w6 ⟨rfl, hb6⟩; have L6 := L5.next hb6; have B6 := Lib.hid (bt B5.out hb6); have en0 : w6.cell? ⟨b, off + q * 4, none⟩ = some (.string s) := (by have := (Hx.out w6 B6.out q hqk).1; rw [hs] at this; exact this)))
  clear SI SI1 SV CV L3 L4 L5 hb4 hb5 hb6 en0
  go_loopw [10, 11] (fun v i wr => ∃ j : Nat, j ≤ ns ∧ i = .int .i64 (j : Int) ∧ wr.ownsRow w6.heap.size 33 3 v (evsAt xs s (js.take j)).length ((evsAt xs s (js.take j)).flatMap evCells) ∧ Hid (Below w6.heap.size w6 wr)) (fun _ i _ => ns - (intOf i).toNat)
  case atStart => exact ⟨0, Nat.zero_le _, rfl, World.ownsRow_lit w6 #[] 0 (Nat.le_refl _) (Nat.zero_le _) rfl, Lib.hid ((Below.refl _ _).alloc (Nat.le_refl _) _)⟩
  case round =>
    obtain ⟨j, hj, rfl, hown, HB⟩ := hrel
    have HO := Lib.hid hown
    have hlen : (evsAt xs s (js.take j)).length ≤ 1000 := Nat.le_trans (evsAt_len _ _ _) (by rw [List.length_take]; omega)
    clear hown
    by_cases hlt : j < ns
    · have hlt' : (j : Int) < (ns : Int) := by omega
      have hjl : j < js.length := by rw [Hno.out]; exact hlt
      obtain ⟨b1, off1, rfl, hb1, hc⟩ := L6.now.1.2.num_at (by omega)
      have Hc := Lib.hid hc
      obtain ⟨x, hxx⟩ : ∃ x, js[j]? = some x := ⟨_, List.getElem?_eq_getElem hjl⟩
      have hxk : x < k := Hasc.out.2 x (List.mem_of_getElem? hxx)
      have hxk' : (x : Int) < (k : Int) := by omega
      have Hxx := Lib.hid hxx
      clear hc hxx
      by_cases hj0 : j = 0
      · subst hj0
        have c0 := fun (y : On wr) => (show y.W.cell? ⟨b1, off1 + 0, none⟩ = some (.int .i64 (x : Int)) from ((HB.out.trans (y.below.mono HB.out.size)).cell (p := ⟨b1, off1 + 0, none⟩) hb1).trans (Hc.out 0 x Hxx.out))
        simp only [Nat.add_zero] at c0
        go_wp2_with fail
        refine wp_region_on (by kernel_rfl) (by kernel_rfl) ?_
        repeat (go_big_quiet_step (fail))
        refine wpQuiet_nil ?_
        intro w7 hw'
        obtain ⟨⟨w7b, hb7⟩, hw''⟩ := hw'
        obtain rfl : w7 = w7b := hw''
        have HB7 := Lib.hid (HB.out.trans (hb7.mono HB.out.size))
        have HO7 := Lib.hid (own_next HO.out hb7)
        have d0 : w7.cell? ⟨b1, off1 + 0, none⟩ = some (.int .i64 (x : Int)) := (HB7.out.cell (p := ⟨b1, off1 + 0, none⟩) hb1).trans (Hc.out 0 x Hxx.out)
        simp only [Nat.add_zero] at d0
        obtain ⟨f0, f1, f2, f3⟩ := Hx.out w7 (B6.out.trans (HB7.out.mono B6.out.size)) x hxk
        clear c0
        by_cases hnm : (nx xs x).name = s
        · have e1 : ((nx xs x).name.toList == s.toList) = true := by rw [hnm]; exact beq_self_eq_true _
          have htk := evsAt_take (xs := xs) (s := s) Hxx.out
          rw [if_pos hnm] at htk
          have Htk := Lib.hid htk
          clear htk
          rw [hnm] at f0
          have e1 : (s.toList == s.toList) = true := beq_self_eq_true _
          go_wp2_with (at_builtin; go_must (refine app_one elemEv w7 rfl _ _ rfl w6.heap.size _ (evsAt xs s (js.take 0)).length ((evsAt xs s (js.take 0)).flatMap evCells) rfl (by exact HO7.out) [.int .i64 (nx xs x).ev.id, .string (nx xs x).ev.kind, .int .i64 (nx xs x).ev.data] rfl rfl ?_ ?_ ?_ ?_); (intro u hu; simp at hu; rcases hu with rfl | rfl | rfl <;> rfl); omega; exact HB7.out.size; intro v' w9 own9 grow9 or9)
          have HB9 := Lib.hid (own_below' HO7.out (Nat.le_refl _) HB7.out HB7.out.size grow9)
          have own8 : w9.ownsRow w6.heap.size 33 3 v' (evsAt xs s (js.take (0 + 1))).length ((evsAt xs s (js.take (0 + 1))).flatMap evCells) := by
            rw [Htk.out, List.flatMap_append, List.length_append]
            simpa [evCells] using own9
          go_roundw
          case rel => exact ⟨0 + 1, by omega, by go_num, own8, HB9⟩
          case measure => simp [intOf]; omega
        · have e1 : ((nx xs x).name.toList == s.toList) = false := toList_ne hnm
          have htk := evsAt_take (xs := xs) (s := s) Hxx.out
          rw [if_neg hnm, List.append_nil] at htk
          have Htk := Lib.hid htk
          clear htk hnm
          go_wp2_with fail
          go_roundw
          case rel => exact ⟨0 + 1, by omega, by go_num, by rw [Htk.out]; exact HO7.out, HB7⟩
          case measure => simp [intOf]; omega
      · obtain ⟨j', rfl⟩ : ∃ j', j = j' + 1 := ⟨j - 1, by omega⟩
        obtain ⟨y, hyy⟩ : ∃ y, js[j']? = some y := ⟨_, List.getElem?_eq_getElem (by omega)⟩
        have hyx : ¬ (x : Int) ≤ (y : Int) := by
          obtain ⟨i1, i2⟩ := List.getElem?_eq_some_iff.1 hyy
          obtain ⟨i3, i4⟩ := List.getElem?_eq_some_iff.1 Hxx.out
          have := List.pairwise_iff_getElem.1 Hasc.out.1 j' (j' + 1) i1 i3 (by omega)
          rw [i2, i4] at this
          omega
        have hge : decide ((y : Int) ≥ (x : Int)) = false := decide_eq_false hyx
        have hi1 : ((j' + 1 : Nat) : Int) - 1 = (j' : Int) := by omega
        have hg1 : decide (((j' + 1 : Nat) : Int) > 0) = true := decide_eq_true (by omega)
        have hmi : (j' : Int) < (ns : Int) := by omega
        have Hyy := Lib.hid hyy
        clear hyy hj0
        have c0 := fun (y : On wr) => (show y.W.cell? ⟨b1, off1 + (j' + 1), none⟩ = some (.int .i64 (x : Int)) from ((HB.out.trans (y.below.mono HB.out.size)).cell (p := ⟨b1, off1 + (j' + 1), none⟩) hb1).trans (Hc.out (j' + 1) x Hxx.out))
        have c1 := fun (y0 : On wr) => (show y0.W.cell? ⟨b1, off1 + j', none⟩ = some (.int .i64 (y : Int)) from ((HB.out.trans (y0.below.mono HB.out.size)).cell (p := ⟨b1, off1 + j', none⟩) hb1).trans (Hc.out j' y Hyy.out))
        go_wp2_with fail
        refine wp_region_on (by kernel_rfl) (by kernel_rfl) ?_
        repeat (go_big_quiet_step (fail))
        refine wpQuiet_nil ?_
        intro w7 hw'
        obtain ⟨⟨w7b, hb7⟩, hw''⟩ := hw'
        obtain rfl : w7 = w7b := hw''
        have HB7 := Lib.hid (HB.out.trans (hb7.mono HB.out.size))
        have HO7 := Lib.hid (own_next HO.out hb7)
        have d0 : w7.cell? ⟨b1, off1 + (j' + 1), none⟩ = some (.int .i64 (x : Int)) := (HB7.out.cell (p := ⟨b1, off1 + (j' + 1), none⟩) hb1).trans (Hc.out (j' + 1) x Hxx.out)
        obtain ⟨f0, f1, f2, f3⟩ := Hx.out w7 (B6.out.trans (HB7.out.mono B6.out.size)) x hxk
        clear c0 c1
        by_cases hnm : (nx xs x).name = s
        · have e1 : ((nx xs x).name.toList == s.toList) = true := by rw [hnm]; exact beq_self_eq_true _
          have htk := evsAt_take (xs := xs) (s := s) Hxx.out
          rw [if_pos hnm] at htk
          have Htk := Lib.hid htk
          clear htk
          rw [hnm] at f0
          have e1 : (s.toList == s.toList) = true := beq_self_eq_true _
          go_wp2_with (at_builtin; go_must (refine app_one elemEv w7 rfl _ _ rfl w6.heap.size _ (evsAt xs s (js.take (j' + 1))).length ((evsAt xs s (js.take (j' + 1))).flatMap evCells) rfl (by exact HO7.out) [.int .i64 (nx xs x).ev.id, .string (nx xs x).ev.kind, .int .i64 (nx xs x).ev.data] rfl rfl ?_ ?_ ?_ ?_); (intro u hu; simp at hu; rcases hu with rfl | rfl | rfl <;> rfl); omega; exact HB7.out.size; intro v' w9 own9 grow9 or9)
          have HB9 := Lib.hid (own_below' HO7.out (Nat.le_refl _) HB7.out HB7.out.size grow9)
          have own8 : w9.ownsRow w6.heap.size 33 3 v' (evsAt xs s (js.take (j' + 1 + 1))).length ((evsAt xs s (js.take (j' + 1 + 1))).flatMap evCells) := by
            rw [Htk.out, List.flatMap_append, List.length_append]
            simpa [evCells] using own9
          go_roundw
          case rel => exact ⟨j' + 1 + 1, by omega, by go_num, own8, HB9⟩
          case measure => simp [intOf]; omega
        · have e1 : ((nx xs x).name.toList == s.toList) = false := toList_ne hnm
          have htk := evsAt_take (xs := xs) (s := s) Hxx.out
          rw [if_neg hnm, List.append_nil] at htk
          have Htk := Lib.hid htk
          clear htk hnm
          go_wp2_with fail
          go_roundw
          case rel => exact ⟨j' + 1 + 1, by omega, by go_num, by rw [Htk.out]; exact HO7.out, HB7⟩
          case measure => simp [intOf]; omega
    · obtain rfl : j = ns := by omega
      have hlt' : ¬ (j : Int) < (j : Int) := by omega
      have hall : js.take j = js := List.take_of_length_le (by rw [Hno.out]; exact Nat.le_refl _)
      rw [hall] at HO hlen
      rw [HR.out] at HO hlen
      obtain ⟨zs, hz⟩ : ∃ zs, cutsRead xs cs s = zs := ⟨_, rfl⟩
      rw [hz] at HO hlen
      have Hz := Lib.hid hz
      obtain ⟨Av, cv, rfl, q1, q2, q3, _⟩ := Row.of_own HO.out rfl
      have LL := (L6.next HB.out).and (Live.row q3)
      obtain ⟨nv, hnv⟩ : ∃ nv, zs.length = nv := ⟨_, rfl⟩
      have RD1 := RD.out wr LL.now.1.1.1.1.2 LL.now.1.1.1.2 LL.now.1.1.1.1.1.2
      rw [hz] at RD1
      have RDH := Lib.hid RD1
      have Hnv := Lib.hid hnv
      rw [hnv] at hlen LL
      rw [hnv]
      clear hall hz q1 q2 q3 HO hnv RD1
      go_wp2_with (first
        | (go_at_call 22; (with_reducible refine RDH.out.mono ?_); (rintro e w8 ⟨A8, n8, c8, rfl, hr8, hc8, Hn8, hb8⟩; obtain rfl : n8 = nv := (by rw [← hr8.1, Hnv.out]); have L8 := (LL.next hb8).and (Live.row hr8); have S8 := sameEvents_any Av A8 n8 cv n8 c8 zs zs _ L8.now.1.2 hr8 (by omega) (by omega); rw [sameL_refl] at S8; have HS8 := Lib.hid S8; clear S8 hr8))
        | (go_at_call 21; (with_reducible refine HS8.out.mono ?_); (rintro e w9 ⟨rfl, hb9⟩)))
      go_ret
      exact ⟨rfl, (L8.next hb9).now.1.1.1.1.1.1.1⟩
end Go.Proofs.YtbcfbkcadceniaaDoor
