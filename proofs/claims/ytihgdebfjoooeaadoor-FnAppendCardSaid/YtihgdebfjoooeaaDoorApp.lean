/- Appending to a store: the program's and the reference's. -/
import Derived.Test.YtihgdebfjoooeaaDoorPApp
import Derived.Laws.MakeOwn
import Derived.Laws.OwnMore
namespace Go.Proofs.YtihgdebfjoooeaaDoor
set_option linter.unusedVariables false
set_option linter.unusedSimpArgs false
open Go.RowKit

theorem make_row {P : Program} {TS T : TypeId} {z : Value} {size bytes : Nat} (E : Elem P TS T z size bytes) (k : Nat) (hk : k ≤ 1000000) (x : Int) (hx : x = k) (W : World) :
    (Instr.makeSlice TS (.int .i64 0) (.int .i64 x)).run P W = .ok (.slice (some ⟨W.heap.size, 0, none⟩) 0 k) (W.alloc (.cells (madeCells z.cells (k * size)) T)) := by
  obtain ⟨hu, hinfo, hzs, hsz, hby⟩ := E
  obtain ⟨i0, hi, iz0, iz1, iz2⟩ := info_parts hinfo
  subst hx
  have hb : (i0.bytes : Int) * (k : Int) ≤ 281474976710656 := by
    rw [iz2, ← Int.natCast_mul]
    have : bytes * k ≤ 1000 * 1000000 := Nat.mul_le_mul hby hk
    omega
  have h := run_make (P := P) (w := W) TS T i0 z hu hi iz0 .i64 .i64 0 (k : Int) (by omega) (by omega) hb (by omega)
  rw [h, iz1]
  rfl
theorem made_own {T : TypeId} {z : Value} {size k base : Nat} (W : World) (hb : base ≤ W.heap.size) (hk : k ≤ 1000000) : (W.alloc (.cells (madeCells z.cells (k * size)) T)).ownsRow base T size (.slice (some ⟨W.heap.size, 0, none⟩) 0 k) 0 [] :=
  World.ownsRow_made W _ k hb (by unfold maxLen; omega) (size_madeCells _ _)
def EnsIntRet (p : List En × Int) (w : World) (e : Ending) (w' : World) : Prop :=
  ∃ (A : Option Addr) (n c : Nat), e = .returned (.tuple #[.slice A n c, .int .i64 p.2]) ∧ Row enCells 4 w' w'.heap.size A n p.1 ∧ n ≤ c ∧ Hid (A = none → c = 0) ∧ Below w.heap.size w w'
theorem ens_int {xs : List En} {k : Int} {w w' : World} {A : Option Addr} {n c : Nat} (h1 : Row enCells 4 w' w'.heap.size A n xs) (h2 : n ≤ c) (h3 : Hid (A = none → c = 0)) (h4 : Below w.heap.size w w') : EnsIntRet (xs, k) w (.returned (.tuple #[.slice A n c, .int .i64 k])) w' := ⟨A, n, c, rfl, h1, h2, h3, h4⟩
theorem ens_int0 {k : Int} {w : World} (W : World) (hb : Below W.heap.size W w) : EnsIntRet ([], k) W (.returned (.tuple #[.slice (some ⟨w.heap.size, 0, none⟩) 0 0, .int .i64 k])) (w.alloc (.cells #[] 36)) :=
  ⟨_, 0, 0, rfl, Row.nil _ _ _, Nat.le_refl _, Lib.hid (fun e => by cases e), hb.alloc hb.size _⟩

set_option maxHeartbeats 4000000 in
theorem writeValid_any (A : Option Addr) (n c : Nat) (xs : List En) (s : ByteArray) (x : Int) (A' : Option Addr) (m d : Nat) (es : List Ev) (w : World) (h : Row enCells 4 w w.heap.size A n xs) (h' : Row evCells 3 w w.heap.size A' m es) (hsm : SmallEns xs) (hse : ∀ e ∈ es, e.kind.size ≤ maxLen) (hs : s.size ≤ maxLen) (hnb : n ≤ 1000000) (hmd : m ≤ d) (hmb : m ≤ 1000000) (hg : GE w) :
    Calls Tryd.prog 51 #[.slice A n c, .string s, .int .i64 x, .slice A' m d] w fun e w' => e = .returned (.bool (writeOk xs s x es)) ∧ Below w.heap.size w w' := by
  have H' := Lib.hid h'
  have Hl := Lib.hid h'.1
  have Hg := Lib.hid hg
  have V := Lib.hid (storeValid_any A n c xs w h hsm hnb hg)
  have X := Lib.hid (fun W => expectValid_any x W)
  have E := Lib.hid (fun W H => eventsValid_any A' m d es W H hse hmd hmb)
  clear h h' hsm hse hg
  cases hok : storeOk xs with
  | false =>
    rw [hok] at V
    have Hr := Lib.hid (show writeOk xs s x es = false by unfold writeOk; rw [hok]; simp)
    go_enter Tryd.func51, Tryd.ntmps51
    go_wp2_with (first
      | (go_at_call 20; refine V.out.mono ?_; rintro e w1 ⟨rfl, hb1⟩))
    go_ret
    exact ⟨ret_bool Hr.out.symm, hb1⟩
  | true =>
    rw [hok] at V
    cases hno : nameOk s.data.toList with
    | false =>
      have Hr := Lib.hid (show writeOk xs s x es = false by unfold writeOk; rw [hno]; simp)
      go_enter Tryd.func51, Tryd.ntmps51
      go_wp2_with (first
        | (go_at_call 20; refine V.out.mono ?_; rintro e w1 ⟨rfl, hb1⟩)
        | (go_at_call 59; refine (nameValid_any _ _ hs (Hg.out.below hb1)).mono ?_; rw [hno]; rintro e w2 ⟨rfl, hb2⟩))
      go_ret
      exact ⟨ret_bool Hr.out.symm, (bt hb1 hb2)⟩
    | true =>
      cases hxo : expOk x with
      | false =>
        rw [hxo] at X
        have Hr := Lib.hid (show writeOk xs s x es = false by unfold writeOk; rw [hxo]; simp)
        go_enter Tryd.func51, Tryd.ntmps51
        go_wp2_with (first
          | (go_at_call 20; refine V.out.mono ?_; rintro e w1 ⟨rfl, hb1⟩)
          | (go_at_call 59; refine (nameValid_any _ _ hs (Hg.out.below hb1)).mono ?_; rw [hno]; rintro e w2 ⟨rfl, hb2⟩)
          | (go_at_call 76; refine (X.out _).mono ?_; rintro e w3 ⟨rfl, rfl⟩))
        go_ret
        exact ⟨ret_bool Hr.out.symm, (bt hb1 hb2)⟩
      | true =>
        rw [hxo] at X
        cases heo : evsOk es with
        | false =>
          rw [heo] at E
          have Hr := Lib.hid (show writeOk xs s x es = false by unfold writeOk; rw [heo]; simp)
          go_enter Tryd.func51, Tryd.ntmps51
          go_wp2_with (first
            | (go_at_call 20; refine V.out.mono ?_; rintro e w1 ⟨rfl, hb1⟩)
            | (go_at_call 59; refine (nameValid_any _ _ hs (Hg.out.below hb1)).mono ?_; rw [hno]; rintro e w2 ⟨rfl, hb2⟩)
            | (go_at_call 76; refine (X.out _).mono ?_; rintro e w3 ⟨rfl, rfl⟩)
            | (go_at_call 49; refine (E.out _ (H'.out.next (bt hb1 hb2))).mono ?_; rintro e w4 ⟨rfl, hb4⟩))
          go_ret
          exact ⟨ret_bool Hr.out.symm, (bt (bt hb1 hb2) hb4)⟩
        | true =>
          rw [heo] at E
          by_cases hm0 : m = 0
          · subst hm0
            have Hr := Lib.hid (show writeOk xs s x es = false by unfold writeOk; rw [decide_eq_false (fun h : es ≠ [] => h (List.eq_nil_of_length_eq_zero Hl.out))]; simp)
            go_enter Tryd.func51, Tryd.ntmps51
            go_wp2_with (first
              | (go_at_call 20; refine V.out.mono ?_; rintro e w1 ⟨rfl, hb1⟩)
              | (go_at_call 59; refine (nameValid_any _ _ hs (Hg.out.below hb1)).mono ?_; rw [hno]; rintro e w2 ⟨rfl, hb2⟩)
              | (go_at_call 76; refine (X.out _).mono ?_; rintro e w3 ⟨rfl, rfl⟩)
              | (go_at_call 49; refine (E.out _ (H'.out.next (bt hb1 hb2))).mono ?_; rintro e w4 ⟨rfl, hb4⟩))
            go_ret
            exact ⟨ret_bool Hr.out.symm, (bt (bt hb1 hb2) hb4)⟩
          · have hmp : (0 : Int) < (m : Int) := by omega
            have Hr := Lib.hid (show writeOk xs s x es = true from writeOk_iff.2 ⟨hok, hno, hxo, heo, fun e => hm0 (by rw [← Hl.out, e]; rfl)⟩)
            go_enter Tryd.func51, Tryd.ntmps51
            go_wp2_with (first
              | (go_at_call 20; refine V.out.mono ?_; rintro e w1 ⟨rfl, hb1⟩)
              | (go_at_call 59; refine (nameValid_any _ _ hs (Hg.out.below hb1)).mono ?_; rw [hno]; rintro e w2 ⟨rfl, hb2⟩)
              | (go_at_call 76; refine (X.out _).mono ?_; rintro e w3 ⟨rfl, rfl⟩)
              | (go_at_call 49; refine (E.out _ (H'.out.next (bt hb1 hb2))).mono ?_; rintro e w4 ⟨rfl, hb4⟩))
            go_ret
            exact ⟨ret_bool (by rw [Hr.out]; exact decide_eq_true (by omega)), (bt (bt hb1 hb2) hb4)⟩

set_option maxRecDepth 100000 in
set_option maxHeartbeats 4000000 in
theorem entriesWith_any (A : Option Addr) (n c : Nat) (xs : List En) (s : ByteArray) (A' : Option Addr) (m d : Nat) (es : List Ev) (w : World) (h : Row enCells 4 w w.heap.size A n xs) (h' : Row evCells 3 w w.heap.size A' m es) (hnil : A = none → c = 0) (hnb : n ≤ 400000) (hmb : m ≤ 400000) :
    Calls Tryd.prog 42 #[.slice A n c, .string s, .slice A' m d] w (EnsRet (longer xs s es) w) := by
  have H := Lib.hid h
  have H' := Lib.hid h'
  have Hl := Lib.hid h.1
  have Hl' := Lib.hid h'.1
  have Hnil := Lib.hid hnil
  have mk := fun W => make_row elemEn (n + m) (by omega) ((n : Int) + (m : Int)) (by omega) W
  have Om := Lib.hid (made_own (T := 36) (z := .agg #[.string ⟨#[]⟩, .int .i64 0, .string ⟨#[]⟩, .int .i64 0]) (size := 4) (k := n + m) w (Nat.le_refl w.heap.size) (by omega))
  have Bm := Lib.hid ((Below.refl w.heap.size w).alloc (Nat.le_refl _) (.cells (madeCells (Value.agg #[.string ⟨#[]⟩, .int .i64 0, .string ⟨#[]⟩, .int .i64 0]).cells ((n + m) * 4)) 36))
  clear h h' hnil
  go_enter Tryd.func42, Tryd.ntmps42
  go_wp2_with (first
    | (at_builtin; refine app_src elemEn _ rfl (.tmp 16) (.tmp 17) rfl w.heap.size _ 0 [] rfl Om.out A n c w.heap.size _ rfl Hnil.out (H.out.2.below Bm.out) (ens_one _) ?_ ?_ ?_ ?_; omega; omega; (exact Bm.out.size); intro v7 w7 own7 grow7 or7; have B7 := own_below' Om.out (Nat.le_refl _) Bm.out Bm.out.size grow7))
  rw [Nat.zero_add, List.nil_append] at own7
  have O7 := Lib.hid own7
  have HB7 := Lib.hid B7
  clear own7 grow7 or7 B7 mk
  go_loopw [7, 21] (fun v i wr => ∃ k : Nat, k ≤ m ∧ i = .int .i64 k ∧ wr.ownsRow w.heap.size 36 4 v (n + k) ((longer xs s (es.take k)).flatMap enCells) ∧ Below w.heap.size w wr) (fun _ i _ => m - (intOf i).toNat)
  case atStart => exact ⟨0, Nat.zero_le _, rfl, by simpa [longer] using O7.out, HB7.out⟩
  case round =>
    obtain ⟨k, hk, rfl, hown, hnx⟩ := hrel
    have hsz := Lib.hid hnx.size
    have Hown := Lib.hid hown
    have Hnx := Lib.hid hnx
    by_cases hlt : k < m
    · obtain ⟨b, off, rfl, hb, hx⟩ := H'.out.at_ evCells_len (by omega)
      have hke : es[k]? = some (nx es k) := nx_get (by rw [Hl'.out]; exact hlt)
      have Hsn := Lib.hid (longer_snoc xs s es k (by rw [Hl'.out]; exact hlt))
      obtain ⟨⟨id, kind, data⟩, he⟩ : ∃ e, nx es k = e := ⟨_, rfl⟩
      rw [he] at hke Hsn
      have c0 : wr.cell? ⟨b, off + k * 3, none⟩ = some (.int .i64 id) := (hnx.cell (p := ⟨b, off + (k * 3 + 0), none⟩) hb).trans (hx _ _ hke 0 _ rfl)
      have c1 : wr.cell? ⟨b, off + k * 3 + 1, none⟩ = some (.string kind) := (hnx.cell (p := ⟨b, off + (k * 3 + 1), none⟩) hb).trans (hx _ _ hke 1 _ rfl)
      have c2 : wr.cell? ⟨b, off + k * 3 + 2, none⟩ = some (.int .i64 data) := (hnx.cell (p := ⟨b, off + (k * 3 + 2), none⟩) hb).trans (hx _ _ hke 2 _ rfl)
      have hlt' : (k : Int) < (m : Int) := by omega
      have Ob := Lib.hid (Hown.out.alloc (.cells #[.int .i64 id, .string kind, .int .i64 data] 34))
      have Nb := Lib.hid (Hnx.out.alloc hsz.out (.cells #[.int .i64 id, .string kind, .int .i64 data] 34))
      clear hke he hx hown hnx
      go_wp2_with (first
        | (at_builtin; go_must (refine app_at elemEn (wr.alloc (.cells #[.int .i64 id, .string kind, .int .i64 data] 34)) rfl _ _ rfl w.heap.size _ (n + k) ((longer xs s (es.take k)).flatMap enCells) rfl (by exact Ob.out) [.string s, .int .i64 id, .string kind, .int .i64 data] (wr.heap.size + 1) rfl ?_ rfl ?_ ?_ ?_ ?_); (simp); (intro x hx; simp at hx; rcases hx with rfl | rfl | rfl | rfl <;> rfl); omega; (exact Nb.out.size); intro v' w4 own4 grow4 or4))
      have hb4 := own_below' Ob.out (Nat.le_refl _) Nb.out Nb.out.size grow4
      have own5 : w4.ownsRow w.heap.size 36 4 v' (n + (k + 1)) ((longer xs s (es.take (k + 1))).flatMap enCells) := by
        rw [Hsn.out, List.flatMap_append, ← Nat.add_assoc]
        simpa [enCells] using own4
      clear own4 grow4 or4
      go_roundw
      case rel => exact ⟨k + 1, by omega, by go_num, own5, hb4⟩
      case measure => simp [intOf]; omega
    · obtain rfl : k = m := by omega
      have hx := Lib.hid (show es.take k = es by rw [← Hl'.out]; exact List.take_length)
      have hlt' : ¬ (k : Int) < (k : Int) := by omega
      clear hown hnx
      rw [hx.out] at Hown
      go_wp2_with fail
      go_ret
      exact ens_ret (by rw [longer_len, Hl.out, Hl'.out]) Hown.out Hnx.out

set_option maxRecDepth 100000 in
set_option maxHeartbeats 4000000 in
theorem storeAppend_any (A : Option Addr) (n c : Nat) (xs : List En) (s : ByteArray) (x : Int) (A' : Option Addr) (m d : Nat) (es : List Ev) (w : World) (h : Row enCells 4 w w.heap.size A n xs) (h' : Row evCells 3 w w.heap.size A' m es) (hsm : SmallEns xs) (hse : ∀ e ∈ es, e.kind.size ≤ maxLen) (hs : s.size ≤ maxLen) (hnb : n ≤ 1000000) (hmd : m ≤ d) (hmb : m ≤ 1000000) (hnil : A = none → c = 0) (hn4 : n ≤ 400000) (hm4 : m ≤ 400000) (hg : GE w) :
    Calls Tryd.prog 33 #[.slice A n c, .string s, .int .i64 x, .slice A' m d] w (EnsIntRet (storeAppend xs s x es) w) := by
  have L := (((Live.since (Below.refl w.heap.size w)).and (Live.ge hg)).and (Live.row h)).and (Live.row h')
  have V := Lib.hid (writeValid_any A n c xs s x A' m d es w h h' hsm hse hs hnb hmd hmb hg)
  have SV := Lib.hid (fun W H G => storeVersion_any A n c xs s W H hsm hs hnb G)
  have Hnil := Lib.hid hnil
  have Hsml : Hid (SmallEns (longer xs s es)) := Lib.hid fun y hy => by
    rcases List.mem_append.1 hy with h1 | h1
    · exact hsm y h1
    · obtain ⟨e, he, rfl⟩ := List.mem_map.1 h1; exact ⟨hs, hse e he⟩
  have Hll := Lib.hid (show (longer xs s es).length = n + m by rw [longer_len, h.1, h'.1])
  clear h h' hsm hse hg hnil
  cases hw : writeOk xs s x es with
  | false =>
    have Hr := Lib.hid (storeAppend_bad hw)
    rw [hw] at V
    go_enter Tryd.func33, Tryd.ntmps33
    go_wp2_with (go_at_call 51; refine V.out.mono ?_; rintro e w1 ⟨rfl, hb1⟩)
    go_ret2
    rw [Hr.out]
    exact ens_int0 w hb1
  | true =>
    have hver := storeVersion_of hw
    rw [hw] at V
    have A1 := @storeAppend_wrong xs s x es hw
    have A2 := @storeAppend_full xs s x es hw
    have A3 := @storeAppend_fine xs s x es hw
    obtain ⟨v, hv⟩ : ∃ v, ((streamOf xs s).length : Int) - 1 = v := ⟨_, rfl⟩
    rw [hv] at hver A1 A2 A3
    rw [hver] at SV
    clear hv hver
    have XH := Lib.hid (fun W => expectHolds_any x v W)
    cases hx : expHolds x v with
    | false =>
      have Hr := Lib.hid (A1 hx)
      rw [hx] at XH
      clear A1 A2 A3
      go_enter Tryd.func33, Tryd.ntmps33
      go_wp2_with (first
        | (go_at_call 51; refine V.out.mono ?_; rintro e w1 ⟨rfl, hb1⟩; have L1 := L.next hb1)
        | (go_at_call 27; refine (SV.out _ L1.now.1.2 L1.now.1.1.2).mono ?_; rintro e w2 ⟨rfl, hb2⟩; have L2 := L1.next hb2)
        | (go_at_call 62; refine (XH.out _).mono ?_; rintro e w3 ⟨rfl, hb3⟩; have L3 := L2.next hb3)
        | (go_at_call 42; go_must (refine (entriesWith_any A n c xs s none 0 0 [] _ L3.now.1.2 (Row.nil _ _ _) Hnil.out hn4 (by omega)).mono ?_; rw [longer_nil]; rintro e w4 ⟨A4, n4, c4, rfl, hr4, hc4, Hn4, hb4⟩)))
      go_ret2
      rw [Hr.out]
      exact ens_int hr4 hc4 Hn4 (L3.next hb4).now.1.1.1
    | true =>
      rw [hx] at XH
      have EW := Lib.hid (fun W H H' => entriesWith_any A n c xs s A' m d es W H H' Hnil.out hn4 hm4)
      cases hy : storeOk (longer xs s es) with
      | false =>
        have Hr := Lib.hid (A2 hx hy)
        clear A1 A2 A3
        go_enter Tryd.func33, Tryd.ntmps33
        go_wp2_with (first
          | (go_at_call 51; refine V.out.mono ?_; rintro e w1 ⟨rfl, hb1⟩; have L1 := L.next hb1)
          | (go_at_call 27; refine (SV.out _ L1.now.1.2 L1.now.1.1.2).mono ?_; rintro e w2 ⟨rfl, hb2⟩; have L2 := L1.next hb2)
          | (go_at_call 62; refine (XH.out _).mono ?_; rintro e w3 ⟨rfl, hb3⟩; have L3 := L2.next hb3)
          | (go_at_call 42; go_must (refine (EW.out _ L3.now.1.2 L3.now.2).mono ?_; rintro e w4 ⟨A4, n4, c4, rfl, hr4, hc4, Hn4, hb4⟩; have L4 := L3.next hb4; have hn44 : n4 ≤ 1000000 := (by rw [← hr4.1, Hll.out]; omega)))
          | (go_at_call 20; go_must (refine (storeValid_any A4 n4 c4 _ _ hr4 Hsml.out hn44 L4.now.1.1.2).mono ?_; rw [hy]; rintro e w5 ⟨rfl, hb5⟩)))
        go_ret2
        rw [Hr.out]
        exact ens_int0 w (L4.next hb5).now.1.1.1
      | true =>
        have Hr := Lib.hid (A3 hx hy)
        clear A1 A2 A3
        go_enter Tryd.func33, Tryd.ntmps33
        go_wp2_with (first
          | (go_at_call 51; refine V.out.mono ?_; rintro e w1 ⟨rfl, hb1⟩; have L1 := L.next hb1)
          | (go_at_call 27; refine (SV.out _ L1.now.1.2 L1.now.1.1.2).mono ?_; rintro e w2 ⟨rfl, hb2⟩; have L2 := L1.next hb2)
          | (go_at_call 62; refine (XH.out _).mono ?_; rintro e w3 ⟨rfl, hb3⟩; have L3 := L2.next hb3)
          | (go_at_call 42; go_must (refine (EW.out _ L3.now.1.2 L3.now.2).mono ?_; rintro e w4 ⟨A4, n4, c4, rfl, hr4, hc4, Hn4, hb4⟩; have L4 := L3.next hb4; have hn44 : n4 ≤ 1000000 := (by rw [← hr4.1, Hll.out]; omega)))
          | (go_at_call 20; go_must (refine (storeValid_any A4 n4 c4 _ _ hr4 Hsml.out hn44 L4.now.1.1.2).mono ?_; rw [hy]; rintro e w5 ⟨rfl, hb5⟩)))
        go_ret2
        rw [Hr.out]
        exact ens_int (hr4.next hb5) hc4 Hn4 (L4.next hb5).now.1.1.1

end Go.Proofs.YtihgdebfjoooeaaDoor
