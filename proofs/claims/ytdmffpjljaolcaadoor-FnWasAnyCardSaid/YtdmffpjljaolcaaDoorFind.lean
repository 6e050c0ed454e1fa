/- Finding an event by its id: the program's and the reference's. -/
import Derived.Test.YtdmffpjljaolcaaDoorPApp
import Derived.Test.YtdmffpjljaolcaaDoorIds
namespace Go.Proofs.YtdmffpjljaolcaaDoor
set_option linter.unusedVariables false
set_option linter.unusedSimpArgs false
open Go.RowKit

theorem stream_ids {xs : List En} {s : ByteArray} (h : storeOk xs = true) : ∀ e ∈ streamOf xs s, 1 ≤ e.id ∧ e.id ≤ 9999 := fun e he => by
  have h1 := (evsOk_iff.1 ((storeOk_streams.1 h).2.2 s)).2.1 e he
  unfold evOk at h1
  rw [Bool.and_eq_true, Bool.and_eq_true] at h1
  exact of_decide_eq_true h1.1.1
theorem findAt_hasnt {l : List Ev} {id : Int} (h : hasId l id = false) : findAt l id = -1 :=
  findAt_none fun _ hj e => of_decide_eq_false h ⟨_, nx_mem hj, e⟩

theorem find1_any (id : Int) (i : Int) (kind : ByteArray) (data : Int) (g : Nat) (w : World) (h : w.cell? ⟨g, 0, none⟩ = some (.int .i64 id)) :
    Calls Tryd.prog 72 #[.agg #[.int .i64 i, .string kind, .int .i64 data], .pointer (some ⟨g, 0, none⟩)] w fun e w' => e = .returned (.bool (i == id)) ∧ Below w.heap.size w w' := by
  have hc := (World.cell?_alloc_lt w (.cells #[.int .i64 i, .string kind, .int .i64 data] 29) (World.block_lt_of_cell? w _ h) (a := ⟨g, 0, none⟩)).trans h
  clear h
  go_enter Tryd.func72, Tryd.ntmps72
  go_wp2_with fail
  go_ret
  exact ⟨rfl, (Below.refl _ _).alloc (Nat.le_refl _) _⟩
set_option maxHeartbeats 4000000 in
theorem indexFunc_any (A : Option Addr) (n c : Nat) (es : List Ev) (id : Int) (g : Nat) (w : World) (h : Row evCells 3 w w.heap.size A n es) (hg : g < w.heap.size) (hc : w.cell? ⟨g, 0, none⟩ = some (.int .i64 id)) (hnb : n ≤ 1000000) :
    Calls Tryd.prog 71 #[.slice A n c, .func (.func 72) #[] #[.pointer (some ⟨g, 0, none⟩)]] w fun e w' => e = .returned (.int .i64 (findAt es id)) ∧ Below w.heap.size w w' := by
  have H := Lib.hid h
  have Hl := Lib.hid h.1
  have Hc := Lib.hid hc
  clear h hc
  go_enter Tryd.func71, Tryd.ntmps71
  go_wp2_with fail
  go_loopw [8] (fun i wr => ∃ k : Nat, k ≤ n ∧ i = .int .i64 k ∧ Below w.heap.size w wr ∧ Hid (∀ j, j < k → (nx es j).id ≠ id)) (fun i _ => n - (intOf i).toNat)
  case atStart => exact ⟨0, Nat.zero_le _, rfl, Below.refl _ _, Lib.hid fun j hj => absurd hj (by omega)⟩
  case round =>
    obtain ⟨k, hk, rfl, hnx, Hall⟩ := hrel
    have Hnx := Lib.hid hnx
    by_cases hlt : k < n
    · have hlt' : (k : Int) < (n : Int) := by omega
      obtain ⟨b, off, rfl, hb, hx⟩ := H.out.at_ evCells_len (by omega)
      have hke : es[k]? = some (nx es k) := nx_get (by rw [Hl.out]; exact hlt)
      have Hyes := Lib.hid (fun h => findAt_at (l := es) (id := id) (k := k) (by rw [Hl.out]; exact hlt) h Hall.out)
      obtain ⟨⟨i, kind, data⟩, he⟩ : ∃ e, nx es k = e := ⟨_, rfl⟩
      have He := Lib.hid he
      rw [he] at hke
      have c0 : wr.cell? ⟨b, off + k * 3, none⟩ = some (.int .i64 i) := (hnx.cell (p := ⟨b, off + (k * 3 + 0), none⟩) hb).trans (hx _ _ hke 0 _ rfl)
      have c1 : wr.cell? ⟨b, off + k * 3 + 1, none⟩ = some (.string kind) := (hnx.cell (p := ⟨b, off + (k * 3 + 1), none⟩) hb).trans (hx _ _ hke 1 _ rfl)
      have c2 : wr.cell? ⟨b, off + k * 3 + 2, none⟩ = some (.int .i64 data) := (hnx.cell (p := ⟨b, off + (k * 3 + 2), none⟩) hb).trans (hx _ _ hke 2 _ rfl)
      have F := Lib.hid (find1_any id i kind data g wr ((hnx.cell (p := ⟨g, 0, none⟩) hg).trans Hc.out))
      clear hke he hx hnx
      by_cases hid : i = id
      · rw [show (i == id) = true from beq_iff_eq.2 hid] at F
        have Hr := Lib.hid (Hyes.out (by rw [He.out]; exact hid))
        clear hid
        go_wp2_with (go_at_call 72; (with_reducible refine F.out.mono ?_); rintro e w1 ⟨rfl, hb1⟩)
        go_ret
        exact ⟨ret_int Hr.out.symm, bt Hnx.out hb1⟩
      · rw [show (i == id) = false from beq_eq_false_iff_ne.2 hid] at F
        have Hne := Lib.hid hid
        clear hid
        go_wp2_with (go_at_call 72; (with_reducible refine F.out.mono ?_); rintro e w1 ⟨rfl, hb1⟩)
        have hnw := Lib.hid (bt Hnx.out hb1)
        clear hb1 c0 c1 c2
        go_roundw
        case rel => exact ⟨k + 1, by omega, by go_num, hnw.out, fun j hj => by
          rcases Nat.lt_succ_iff_lt_or_eq.1 hj with h' | rfl
          · exact Hall.out j h'
          · rw [He.out]; exact Hne.out⟩
        case measure => simp [intOf]; omega
    · obtain rfl : k = n := by omega
      have hlt' : ¬ (k : Int) < (k : Int) := by omega
      have Hr := Lib.hid (findAt_none (l := es) (id := id) (fun j hj => Hall.out j (by rw [Hl.out] at hj; exact hj)))
      clear hnx
      go_wp2_with fail
      go_ret
      exact ⟨ret_int Hr.out.symm, Hnx.out⟩

set_option maxRecDepth 100000 in
set_option maxHeartbeats 4000000 in
theorem storeFind_any (A : Option Addr) (n c : Nat) (xs : List En) (s : ByteArray) (id : Int) (w : World) (h : Row enCells 4 w w.heap.size A n xs) (hsm : SmallEns xs) (hs : s.size ≤ maxLen) (hnb : n ≤ 1000000) (hg : GE w) :
    Calls Tryd.prog 39 #[.slice A n c, .string s, .int .i64 id] w fun e w' => e = .returned (.int .i64 (storeFind xs s id)) ∧ Below w.heap.size w w' := by
  have hba : Below w.heap.size w (w.alloc (.cells #[.int .i64 id] 3)) := (Below.refl _ _).alloc (Nat.le_refl _) _
  have L := (((Live.since hba).and (Live.ge (hg.below hba))).and (Live.row (h.next hba))).and (Live.blk (Blk.new w 3 #[.int .i64 id]))
  have V := Lib.hid (storeValid_any A n c xs _ (h.next hba) hsm hnb (hg.below hba))
  have Hsm := Lib.hid hsm
  have Hsl := Lib.hid (streamOf_len xs s)
  have Hlx := Lib.hid h.1
  clear h hg hsm hba
  cases hok : storeOk xs with
  | false =>
    have Hr := Lib.hid (storeFind_no (s := s) (id := id) hok)
    rw [hok] at V
    go_enter Tryd.func39, Tryd.ntmps39
    go_wp2_with (go_at_call 19; refine V.out.mono ?_; rintro e w1 ⟨rfl, hb1⟩; have L1 := L.next hb1)
    go_ret
    exact ⟨ret_int Hr.out.symm, L1.now.1.1.1⟩
  | true =>
    have Hr := Lib.hid (storeFind_yes (s := s) (id := id) hok)
    have Hids := Lib.hid (stream_ids (s := s) hok)
    rw [hok] at V
    cases hh : hasId (streamOf xs s) id with
    | false =>
      have Hn := Lib.hid (findAt_hasnt hh)
      go_enter Tryd.func39, Tryd.ntmps39
      go_wp2_with (first
        | (go_at_call 19; refine V.out.mono ?_; rintro e w1 ⟨rfl, hb1⟩; have L1 := L.next hb1)
        | (go_at_call 45; go_must (refine (streamsOf_any A n c xs _ L1.now.1.2 (fun x hx => (Hsm.out x hx).1) hnb).mono ?_; rintro e w3 ⟨b, base, q, D, g, rfl, S, hq, hb3⟩; obtain ⟨A3, c3, k, hk, l1, hnc3, Hnil3, hrow3⟩ := S.slice s hs; have L3 := (L1.next hb3).and (Live.row hrow3); have hk2 : k ≤ 1000000 := (by rw [hk]; have := Hsl.out; rw [Hlx.out] at this; omega); clear hk hrow3))
        | (go_at_call 66; go_must (refine (idsOf_any A3 k c3 _ _ L3.now.2 Hids.out hk2).mono ?_; rintro e w4 ⟨arr, rfl, HI, hb4⟩; have L4 := L3.next hb4; have hsz1 : (Tryd.prog.info? 80).map (·.size) = some (u64s arr).size := (by rw [u64s_size, HI.out.1]; kernel_rfl); have hsz2 : (Tryd.zeroCells80).size = (u64s arr).size := (by rw [zeros_are, u64s_size, u64s_size, HI.out.1]; rfl); have Bz := Blk.new w4 80 Tryd.zeroCells80))
        | (refine wpList_store_row rfl 80 (.tmp 8) (.tmp 17) rfl w4.heap.size (u64s arr) rfl rfl 80 Tryd.zeroCells80 Bz hsz1 hsz2 (u64s_one arr) ?_; have hb5 := below_setRow (g := w4.heap.size) ((Below.refl w4.heap.size w4).alloc (Nat.le_refl _) (.cells Tryd.zeroCells80 80)) (Nat.le_refl _) (u64s arr); have B5 := Lib.hid (show Blk ((w4.alloc (.cells Tryd.zeroCells80 80)).setRow w4.heap.size (u64s arr)) w4.heap.size 80 (u64s arr) from setRow_heap _ _ _ _ _ _ Bz); have L5 := L4.next hb5; clear hb5 Bz; generalize (w4.alloc (.cells Tryd.zeroCells80 80)).setRow w4.heap.size (u64s arr) = w5 at *; have x0 : w5.cell? ⟨w.heap.size, 0, none⟩ = some (.int .i64 id) := L5.now.1.2.cell 0)
        | (go_at_call 67; go_must (refine (has_any w4.heap.size arr (streamOf xs s) id w5 B5.out HI.out Hids.out).mono ?_; rw [hh]; rintro e w6 ⟨rfl, hb6⟩; have L6 := L5.next hb6)))
      go_ret
      exact ⟨ret_int (by rw [Hr.out, Hn.out]), L6.now.1.1.1.1⟩
    | true =>
      go_enter Tryd.func39, Tryd.ntmps39
      go_wp2_with (first
        | (go_at_call 19; refine V.out.mono ?_; rintro e w1 ⟨rfl, hb1⟩; have L1 := L.next hb1)
        | (go_at_call 45; go_must (refine (streamsOf_any A n c xs _ L1.now.1.2 (fun x hx => (Hsm.out x hx).1) hnb).mono ?_; rintro e w3 ⟨b, base, q, D, g, rfl, S, hq, hb3⟩; obtain ⟨A3, c3, k, hk, l1, hnc3, Hnil3, hrow3⟩ := S.slice s hs; have L3 := (L1.next hb3).and (Live.row hrow3); have hk2 : k ≤ 1000000 := (by rw [hk]; have := Hsl.out; rw [Hlx.out] at this; omega); clear hk hrow3))
        | (go_at_call 66; go_must (refine (idsOf_any A3 k c3 _ _ L3.now.2 Hids.out hk2).mono ?_; rintro e w4 ⟨arr, rfl, HI, hb4⟩; have L4 := L3.next hb4; have hsz1 : (Tryd.prog.info? 80).map (·.size) = some (u64s arr).size := (by rw [u64s_size, HI.out.1]; kernel_rfl); have hsz2 : (Tryd.zeroCells80).size = (u64s arr).size := (by rw [zeros_are, u64s_size, u64s_size, HI.out.1]; rfl); have Bz := Blk.new w4 80 Tryd.zeroCells80))
        | (refine wpList_store_row rfl 80 (.tmp 8) (.tmp 17) rfl w4.heap.size (u64s arr) rfl rfl 80 Tryd.zeroCells80 Bz hsz1 hsz2 (u64s_one arr) ?_; have hb5 := below_setRow (g := w4.heap.size) ((Below.refl w4.heap.size w4).alloc (Nat.le_refl _) (.cells Tryd.zeroCells80 80)) (Nat.le_refl _) (u64s arr); have B5 := Lib.hid (show Blk ((w4.alloc (.cells Tryd.zeroCells80 80)).setRow w4.heap.size (u64s arr)) w4.heap.size 80 (u64s arr) from setRow_heap _ _ _ _ _ _ Bz); have L5 := L4.next hb5; clear hb5 Bz; generalize (w4.alloc (.cells Tryd.zeroCells80 80)).setRow w4.heap.size (u64s arr) = w5 at *; have x0 : w5.cell? ⟨w.heap.size, 0, none⟩ = some (.int .i64 id) := L5.now.1.2.cell 0)
        | (go_at_call 67; go_must (refine (has_any w4.heap.size arr (streamOf xs s) id w5 B5.out HI.out Hids.out).mono ?_; rw [hh]; rintro e w6 ⟨rfl, hb6⟩; have L6 := L5.next hb6))
        | (go_at_call 71; go_must (refine (indexFunc_any A3 k c3 (streamOf xs s) id w.heap.size w6 L6.now.2 L6.now.1.2.lt (L6.now.1.2.cell 0) hk2).mono ?_; rintro e w7 ⟨rfl, hb7⟩)))
      go_ret
      exact ⟨ret_int (by rw [Hr.out]), (L6.next hb7).now.1.1.1.1⟩

end Go.Proofs.YtdmffpjljaolcaaDoor
