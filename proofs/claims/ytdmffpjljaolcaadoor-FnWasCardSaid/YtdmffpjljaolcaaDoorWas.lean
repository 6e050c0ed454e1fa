/- What was appended before; writing again: the program's. -/
import Derived.Test.YtdmffpjljaolcaaDoorApp
import Derived.Test.YtdmffpjljaolcaaDoorHere
import Derived.Test.YtdmffpjljaolcaaDoorFind
namespace Go.Proofs.YtdmffpjljaolcaaDoor
set_option linter.unusedVariables false
set_option linter.unusedSimpArgs false
open Go.RowKit

theorem here_has {all es : List Ev} {i : Nat} (h : hereB all i es = true) (h0 : es ≠ []) : ∃ e ∈ all, e.id = (nx es 0).id := by
  have hp : 0 < es.length := List.length_pos_iff.2 h0
  have h1 := hereB_nx h 0 hp
  have h2 := (hereB_iff.1 h).1
  exact ⟨_, nx_mem (l := all) (k := i + 0) (by omega), by rw [h1]⟩
theorem anyHere_has {all es : List Ev} (h0 : es ≠ []) (h : ¬ ∃ e ∈ all, e.id = (nx es 0).id) : anyHere all es = false :=
  anyHere_no fun i _ => by
    cases e : hereB all i es with
    | false => rfl
    | true => exact absurd (here_has e h0) h
theorem ev_first {w : World} {A : Option Addr} {m B : Nat} {es : List Ev} (h : Row evCells 3 w B A m es) (hl : es.length = m) (hm : 1 ≤ m) : ∃ b off, A = some ⟨b, off, none⟩ ∧ w.cell? ⟨b, off, none⟩ = some (.int .i64 (nx es 0).id) := by
  obtain ⟨b, off, rfl, _, hx⟩ := h.at_ evCells_len (by omega)
  have := hx 0 _ (nx_get (l := es) (k := 0) (by omega)) 0 _ rfl
  simp only [Nat.zero_mul, Nat.add_zero] at this
  exact ⟨b, off, rfl, this⟩
theorem ev_first2 {w : World} {b off m B : Nat} {es : List Ev} (h : Row evCells 3 w B (some ⟨b, off, none⟩) m es) (hl : es.length = m) (hm : 1 ≤ m) : w.cell? ⟨b, off, none⟩ = some (.int .i64 (nx es 0).id) := by
  obtain ⟨b', off', e, h1⟩ := ev_first h hl hm
  obtain rfl : b = b' := by injection e with e; injection e
  obtain rfl : off = off' := by injection e with e; injection e
  exact h1
set_option maxRecDepth 100000 in
set_option maxHeartbeats 8000000 in
theorem storeWasI_any (A : Option Addr) (n c : Nat) (xs : List En) (s : ByteArray) (x : Int) (A' : Option Addr) (m d : Nat) (es : List Ev) (w : World) (h : Row enCells 4 w w.heap.size A n xs) (h' : Row evCells 3 w w.heap.size A' m es) (hsm : SmallEns xs) (hse : ∀ e ∈ es, e.kind.size ≤ maxLen) (hs : s.size ≤ maxLen) (hnb : n ≤ 1000000) (hmd : m ≤ d) (hmb : m ≤ 1000000) (hg : GE w) :
    Calls Tryd.prog 37 #[.slice A n c, .string s, .int .i64 x, .slice A' m d] w fun e w' => e = .returned (.bool (storeWas xs s x es)) ∧ Below w.heap.size w w' := by
  have L := (((Live.since (Below.refl w.heap.size w)).and (Live.ge hg)).and (Live.row h)).and (Live.row h')
  have V := Lib.hid (writeValid_any A n c xs s x A' m d es w h h' hsm hse hs hnb hmd hmb hg)
  have Hsm := Lib.hid hsm
  have Hsl := Lib.hid (streamOf_len xs s)
  have Hlx := Lib.hid h.1
  have Hlm := Lib.hid h'.1
  clear h h' hsm hse hg
  cases hw : writeOk xs s x es with
  | false =>
    have Hr := Lib.hid (storeWas_bad hw)
    rw [hw] at V
    go_enter Tryd.func37, Tryd.ntmps37
    go_wp2_with (go_at_call 64; refine V.out.mono ?_; rintro e w1 ⟨rfl, hb1⟩)
    go_ret
    exact ⟨ret_bool Hr.out.symm, hb1⟩
  | true =>
    have Hr := Lib.hid (storeWas_ok hw)
    rw [hw] at V
    obtain ⟨q1, q2, q3, q4, q5⟩ := writeOk_iff.1 hw
    have hx3 := expOk_iff.1 q3
    have Hids := Lib.hid (stream_ids (s := s) q1)
    have H5 := Lib.hid q5
    have hm1 : 1 ≤ m := by rw [← Hlm.out]; exact List.length_pos_iff.2 q5
    clear q1 q2 q3 q4 q5
    obtain ⟨eb, eo, rfl, _⟩ := ev_first L.now.2 Hlm.out hm1
    by_cases hx : x = -2
    · subst hx
      rw [wasIn_any] at Hr
      cases hh : hasId (streamOf xs s) (nx es 0).id with
      | false =>
        have Hn := Lib.hid (anyHere_has H5.out (of_decide_eq_false hh))
        go_enter Tryd.func37, Tryd.ntmps37
        go_wp2_with (first
          | (go_at_call 64; refine V.out.mono ?_; rintro e w1 ⟨rfl, hb1⟩; have L1 := L.next hb1)
          | (go_at_call 45; go_must (refine (streamsOf_any A n c xs _ L1.now.1.2 (fun x hx => (Hsm.out x hx).1) hnb).mono ?_; rintro e w3 ⟨b, base, q, D, g, rfl, S, hq, hb3⟩; obtain ⟨A3, c3, k, hk, l1, hnc3, Hnil3, hrow3⟩ := S.slice s hs; have L3 := (L1.next hb3).and (Live.row hrow3); have hk2 : k ≤ 1000000 := (by rw [hk]; have := Hsl.out; rw [Hlx.out] at this; omega); have Hk := Lib.hid hk; clear hk hrow3))
          | (go_at_call 66; go_must (refine (idsOf_any A3 k c3 _ _ L3.now.2 Hids.out hk2).mono ?_; rintro e w4 ⟨arr, rfl, HI, hb4⟩; have L4 := L3.next hb4; have hsz1 : (Tryd.prog.info? 80).map (·.size) = some (u64s arr).size := (by rw [u64s_size, HI.out.1]; kernel_rfl); have hsz2 : (Tryd.zeroCells80).size = (u64s arr).size := (by rw [zeros_are, u64s_size, u64s_size, HI.out.1]; rfl); have Bz := Blk.new w4 80 Tryd.zeroCells80))
          | (refine wpList_store_row rfl 80 (.tmp 10) (.tmp 30) rfl w4.heap.size (u64s arr) rfl rfl 80 Tryd.zeroCells80 Bz hsz1 hsz2 (u64s_one arr) ?_; have hb5 := below_setRow (g := w4.heap.size) ((Below.refl w4.heap.size w4).alloc (Nat.le_refl _) (.cells Tryd.zeroCells80 80)) (Nat.le_refl _) (u64s arr); have B5 := Lib.hid (show Blk ((w4.alloc (.cells Tryd.zeroCells80 80)).setRow w4.heap.size (u64s arr)) w4.heap.size 80 (u64s arr) from setRow_heap _ _ _ _ _ _ Bz); have L5 := L4.next hb5; clear hb5 Bz; generalize (w4.alloc (.cells Tryd.zeroCells80 80)).setRow w4.heap.size (u64s arr) = w5 at *; have x0 := (ev_first2 L5.now.1.2 Hlm.out hm1))
          | (go_at_call 67; go_must (refine (has_any w4.heap.size arr (streamOf xs s) (nx es 0).id w5 B5.out HI.out Hids.out).mono ?_; rw [hh]; rintro e w6 ⟨rfl, hb6⟩; have L6 := L5.next hb6)))
        go_ret
        exact ⟨ret_bool (by rw [Hr.out, Hn.out]), L6.now.1.1.1.1⟩
      | true =>
        go_enter Tryd.func37, Tryd.ntmps37
        go_wp2_with (first
          | (go_at_call 64; refine V.out.mono ?_; rintro e w1 ⟨rfl, hb1⟩; have L1 := L.next hb1)
          | (go_at_call 45; go_must (refine (streamsOf_any A n c xs _ L1.now.1.2 (fun x hx => (Hsm.out x hx).1) hnb).mono ?_; rintro e w3 ⟨b, base, q, D, g, rfl, S, hq, hb3⟩; obtain ⟨A3, c3, k, hk, l1, hnc3, Hnil3, hrow3⟩ := S.slice s hs; have L3 := (L1.next hb3).and (Live.row hrow3); have hk2 : k ≤ 1000000 := (by rw [hk]; have := Hsl.out; rw [Hlx.out] at this; omega); have Hk := Lib.hid hk; clear hk hrow3))
          | (go_at_call 66; go_must (refine (idsOf_any A3 k c3 _ _ L3.now.2 Hids.out hk2).mono ?_; rintro e w4 ⟨arr, rfl, HI, hb4⟩; have L4 := L3.next hb4; have hsz1 : (Tryd.prog.info? 80).map (·.size) = some (u64s arr).size := (by rw [u64s_size, HI.out.1]; kernel_rfl); have hsz2 : (Tryd.zeroCells80).size = (u64s arr).size := (by rw [zeros_are, u64s_size, u64s_size, HI.out.1]; rfl); have Bz := Blk.new w4 80 Tryd.zeroCells80))
          | (refine wpList_store_row rfl 80 (.tmp 10) (.tmp 30) rfl w4.heap.size (u64s arr) rfl rfl 80 Tryd.zeroCells80 Bz hsz1 hsz2 (u64s_one arr) ?_; have hb5 := below_setRow (g := w4.heap.size) ((Below.refl w4.heap.size w4).alloc (Nat.le_refl _) (.cells Tryd.zeroCells80 80)) (Nat.le_refl _) (u64s arr); have B5 := Lib.hid (show Blk ((w4.alloc (.cells Tryd.zeroCells80 80)).setRow w4.heap.size (u64s arr)) w4.heap.size 80 (u64s arr) from setRow_heap _ _ _ _ _ _ Bz); have L5 := L4.next hb5; clear hb5 Bz; generalize (w4.alloc (.cells Tryd.zeroCells80 80)).setRow w4.heap.size (u64s arr) = w5 at *; have x0 := (ev_first2 L5.now.1.2 Hlm.out hm1))
          | (go_at_call 67; go_must (refine (has_any w4.heap.size arr (streamOf xs s) (nx es 0).id w5 B5.out HI.out Hids.out).mono ?_; rw [hh]; rintro e w6 ⟨rfl, hb6⟩; have L6 := L5.next hb6)))
        have Hkk := Lib.hid (show (streamOf xs s).length = k from L6.now.2.1)
        go_loopw [39] (fun i wr => ∃ j : Nat, j ≤ k ∧ i = .int .i64 j ∧ (Live wr fun W => (Below w.heap.size w W ∧ Row evCells 3 W W.heap.size (some ⟨eb, eo, none⟩) m es) ∧ Row evCells 3 W W.heap.size A3 k (streamOf xs s)) ∧ Hid (∀ q, q < j → hereB (streamOf xs s) q es = false)) (fun i _ => k - (intOf i).toNat)
        case atStart => exact ⟨0, Nat.zero_le _, rfl, L6.imp (fun W q => ⟨⟨q.1.1.1.1, q.1.2⟩, q.2⟩), Lib.hid fun j hj => absurd hj (by omega)⟩
        case round =>
          obtain ⟨j, hj, rfl, Lr, Hall⟩ := hrel
          by_cases hlt : j < k
          · have hlt' : (j : Int) < (k : Int) := by omega
            have ST := Lib.hid (standAt_any A3 k c3 (streamOf xs s) j (some ⟨eb, eo, none⟩) m d es wr Lr.now.2 Lr.now.1.2 hnc3 hk2 hmb (by omega))
            cases hb : hereB (streamOf xs s) j es with
            | true =>
              rw [hb] at ST
              have Hy := Lib.hid (anyHere_iff.2 ⟨j, by rw [Hkk.out]; exact hlt, hb⟩)
              go_wp2_with (go_at_call 65; refine ST.out.mono ?_; rintro e w7 ⟨rfl, hb7⟩)
              go_ret
              exact ⟨ret_bool (by rw [Hr.out, Hy.out]), (Lr.next hb7).now.1.1⟩
            | false =>
              rw [hb] at ST
              have Hb := Lib.hid hb
              go_wp2_with (go_at_call 65; refine ST.out.mono ?_; rintro e w7 ⟨rfl, hb7⟩)
              have L7 := Lr.next hb7
              clear hb7
              go_roundw
              case rel => exact ⟨j + 1, by omega, by go_num, L7, fun q hq => by
                rcases Nat.lt_succ_iff_lt_or_eq.1 hq with h' | rfl
                · exact Hall.out q h'
                · exact Hb.out⟩
              case measure => simp [intOf]; omega
          · obtain rfl : j = k := by omega
            have hlt' : ¬ (j : Int) < (j : Int) := by omega
            have Hn := Lib.hid (anyHere_no (all := streamOf xs s) (es := es) (fun q hq => Hall.out q (by rw [Hkk.out] at hq; exact hq)))
            go_wp2_with fail
            go_ret
            exact ⟨ret_bool (by rw [Hr.out, Hn.out]), Lr.now.1.1⟩
    · have hx0 : (x == -2) = false := beq_eq_false_iff_ne.2 hx
      have hx1 : (x != -2) = true := by rw [bne, hx0]; rfl
      rw [wasIn_x hx] at Hr
      obtain ⟨a, ha⟩ : ∃ a : Nat, x + 1 = (a : Int) := ⟨(x + 1).toNat, by omega⟩
      have ha2 : a ≤ 1000000 := by omega
      rw [ha, Int.toNat_natCast] at Hr
      obtain rfl : x = (a : Int) - 1 := by omega
      have ha3 : (a : Int) - 1 + 1 = (a : Int) := by omega
      clear ha hx
      go_enter Tryd.func37, Tryd.ntmps37
      go_wp2_with (first
        | (go_at_call 64; refine V.out.mono ?_; rintro e w1 ⟨rfl, hb1⟩; have L1 := L.next hb1)
        | (go_at_call 45; go_must (refine (streamsOf_any A n c xs _ L1.now.1.2 (fun x hx => (Hsm.out x hx).1) hnb).mono ?_; rintro e w3 ⟨b, base, q, D, g, rfl, S, hq, hb3⟩; obtain ⟨A3, c3, k, hk, l1, hnc3, Hnil3, hrow3⟩ := S.slice s hs; have L3 := (L1.next hb3).and (Live.row hrow3); have hk2 : k ≤ 1000000 := (by rw [hk]; have := Hsl.out; rw [Hlx.out] at this; omega); have Hk := Lib.hid hk; clear hk hrow3))
        | (go_at_call 65; go_must (refine (standAt_any A3 k c3 (streamOf xs s) a (some ⟨eb, eo, none⟩) m d es _ L3.now.2 L3.now.1.2 hnc3 hk2 hmb ha2).mono ?_; rintro e w4 ⟨rfl, hb4⟩)))
      go_ret
      exact ⟨ret_bool Hr.out.symm, (L3.next hb4).now.1.1.1.1⟩

end Go.Proofs.YtdmffpjljaolcaaDoor
