/- Totals joined with one, an entry added, a total found: the program's; an entry added: the reference's. -/
import Derived.Test.YtlaolhhkchgakaaDoorTotI
import Derived.Test.YtlaolhhkchgakaaDoorTotVS
namespace Go.Proofs.YtlaolhhkchgakaaDoor
set_option linter.unusedVariables false
set_option linter.unusedSimpArgs false
open Go.RowKit

def joinOne (ts : List Tot) (t : Tot) : List Tot × Bool := if totsOk (putT ts t) then (putT ts t, true) else ([], false)
def totsAdd (ts : List Tot) (x : En) : List Tot × Bool := if totsOk ts && enOk x then joinOne ts (totOf x) else ([], false)
theorem totsAdd_no {ts : List Tot} {x : En} (h : (totsOk ts && enOk x) = false) : totsAdd ts x = ([], false) := by unfold totsAdd; rw [h]; rfl
theorem totsAdd_yes {ts : List Tot} {x : En} (h1 : totsOk ts = true) (h2 : enOk x = true) : totsAdd ts x = joinOne ts (totOf x) := by unfold totsAdd; rw [h1, h2]; rfl
theorem joinOne_no {ts : List Tot} {t : Tot} (h : totsOk (putT ts t) = false) : joinOne ts t = ([], false) := by unfold joinOne; rw [h]; rfl
theorem joinOne_yes {ts : List Tot} {t : Tot} (h : totsOk (putT ts t) = true) : joinOne ts t = (putT ts t, true) := by unfold joinOne; rw [h]; rfl
theorem totsOk_one {t : Tot} (h : totOne t = true) : totsOk [t] = true := totsOk_iff2.2 ⟨by simp, List.pairwise_singleton _ _, fun c hc => by rw [List.mem_singleton] at hc; rw [hc]; exact h⟩
theorem putT_B {ts : List Tot} {t : Tot} (h : totsOk ts = true) (ht : totOne t = true) : ∀ x ∈ putT ts t, x.cat.size ≤ maxLen := fun x hx => by
  rcases putT_cat hx with ⟨y, hy, e⟩ | e
  · rw [← e]; exact (totsOk_B h y hy).1
  · rw [e]; exact (totOne_B ht).1
def TotsBoolRet (p : List Tot × Bool) (w : World) (e : Ending) (w' : World) : Prop :=
  ∃ (A : Option Addr) (n c : Nat), e = .returned (.tuple #[.slice A n c, .bool p.2]) ∧ Row totCells 3 w' w'.heap.size A n p.1 ∧ n ≤ c ∧ Hid (A = none → c = 0) ∧ Below w.heap.size w w'
theorem tots_none {w W : World} (hb : Below w.heap.size w W) : TotsBoolRet ([], false) w (.returned (.tuple #[.slice (some ⟨W.heap.size, 0, none⟩) 0 0, .bool false])) (W.alloc (.cells #[] 29)) :=
  ⟨_, 0, 0, rfl, Row.nil _ _ _, Nat.le_refl _, Lib.hid (fun e => by cases e), hb.alloc hb.size _⟩
set_option maxRecDepth 100000 in
set_option maxHeartbeats 4000000 in
theorem totsJoin_any (A B : Option Addr) (n c d : Nat) (ts : List Tot) (t : Tot) (w : World) (h : Row totCells 3 w w.heap.size A n ts) (h' : Row totCells 3 w w.heap.size B 1 [t]) (hok : totsOk ts = true) (ht : totOne t = true) (hnc : n ≤ c) (hnil : A = none → c = 0) (hd : 1 ≤ d) :
    Calls Tryd.prog 29 #[.slice A n c, .slice B 1 d] w (TotsBoolRet (joinOne ts t) w) := by
  have hn : n ≤ 24 := by rw [← h.1]; exact (totsOk_iff2.1 hok).1
  have L := ((Live.since (Below.refl w.heap.size w)).and (Live.row h)).and (Live.row h')
  have V1 := Lib.hid (fun W H => totsValid_any A n c ts W H (fun x hx => (totsOk_B hok x hx).1) (by omega))
  have V2 := Lib.hid (fun W H => totsValid_any B 1 d [t] W H (fun x hx => (totsOk_B (totsOk_one ht) x hx).1) (by omega))
  rw [hok] at V1
  rw [totsOk_one ht] at V2
  have JT := Lib.hid (fun W H H' => totalsJoined_any A B n c d ts t W H H' (totsOk_B hok) (totOne_B ht) (by omega) hnc hnil hd)
  have V3 := Lib.hid (fun A' n' c' W H hn' => totsValid_any A' n' c' (putT ts t) W H (putT_B hok ht) hn')
  have Hlen : Hid (∀ n', (putT ts t).length = n' → n' ≤ 1000000) := Lib.hid fun n' e => by
    have := (putT_len ts t).2
    rw [h.1] at this
    omega
  have Hno := Lib.hid (@joinOne_no ts t)
  have Hyes := Lib.hid (@joinOne_yes ts t)
  clear h h' hok ht hnil
  cases hp : totsOk (putT ts t) with
  | false =>
    rw [hp] at V3
    have Hr := Lib.hid (Hno.out hp)
    clear hp
    go_enter Tryd.func29, Tryd.ntmps29
    go_wp2_with (first
      | (go_at_call 25; (with_reducible refine (V1.out _ L.now.1.2).mono ?_); (rintro e w1 ⟨rfl, hb1⟩; have L1 := L.next hb1))
      | (go_at_call 25; (with_reducible refine (V2.out _ L1.now.2).mono ?_); (rintro e w2 ⟨rfl, hb2⟩; have L2 := L1.next hb2))
      | (go_at_call 33; (with_reducible refine (JT.out _ L2.now.1.2 L2.now.2).mono ?_); (rintro e w3 ⟨A3, n3, c3, rfl, hr3, hc3, Hn3, hb3⟩; have L3 := (L2.next hb3).and (Live.row hr3); have hn3 := Hlen.out n3 hr3.1; have V4 := Lib.hid (V3.out A3 n3 c3 _ hr3 hn3); clear hr3))
      | (go_at_call 25; (with_reducible refine V4.out.mono ?_); (rintro e w4 ⟨rfl, hb4⟩; have L4 := L3.next hb4)))
    go_ret2
    rw [Hr.out]
    exact tots_none L4.now.1.1.1
  | true =>
    rw [hp] at V3
    have Hr := Lib.hid (Hyes.out hp)
    clear hp
    go_enter Tryd.func29, Tryd.ntmps29
    go_wp2_with (first
      | (go_at_call 25; (with_reducible refine (V1.out _ L.now.1.2).mono ?_); (rintro e w1 ⟨rfl, hb1⟩; have L1 := L.next hb1))
      | (go_at_call 25; (with_reducible refine (V2.out _ L1.now.2).mono ?_); (rintro e w2 ⟨rfl, hb2⟩; have L2 := L1.next hb2))
      | (go_at_call 33; (with_reducible refine (JT.out _ L2.now.1.2 L2.now.2).mono ?_); (rintro e w3 ⟨A3, n3, c3, rfl, hr3, hc3, Hn3, hb3⟩; have L3 := (L2.next hb3).and (Live.row hr3); have hn3 := Hlen.out n3 hr3.1; have V4 := Lib.hid (V3.out A3 n3 c3 _ hr3 hn3); clear hr3))
      | (go_at_call 25; (with_reducible refine V4.out.mono ?_); (rintro e w4 ⟨rfl, hb4⟩; have L4 := L3.next hb4)))
    go_ret2
    rw [Hr.out]
    exact ⟨A3, n3, c3, rfl, L4.now.2, hc3, Hn3, L4.now.1.1.1⟩
set_option maxRecDepth 100000 in
set_option maxHeartbeats 4000000 in
theorem totsAdd_any (A : Option Addr) (n c : Nat) (ts : List Tot) (name kind : ByteArray) (id data : Int) (w : World) (h : Row totCells 3 w w.heap.size A n ts) (hsm : SmallTots ts) (hn : name.size ≤ maxLen) (hk : kind.size ≤ maxLen) (hnb : n ≤ 1000000) (hnc : n ≤ c) (hnil : A = none → c = 0) (hg : GE w) :
    Calls Tryd.prog 22 #[.slice A n c, .agg #[.string name, .int .i64 id, .string kind, .int .i64 data]] w (TotsBoolRet (totsAdd ts ⟨name, ⟨id, kind, data⟩⟩) w) := by
  have hb0 : Below w.heap.size w (w.alloc (.cells #[.string name, .int .i64 id, .string kind, .int .i64 data] 35)) := (Below.refl _ _).alloc (Nat.le_refl _) _
  have L : Live (w.alloc (.cells #[.string name, .int .i64 id, .string kind, .int .i64 data] 35)) fun W => ((Below w.heap.size w W ∧ Row totCells 3 W W.heap.size A n ts) ∧ GE W) ∧ Blk W w.heap.size 35 #[.string name, .int .i64 id, .string kind, .int .i64 data] := (((Live.since hb0).and (Live.row (h.next hb0))).and (Live.ge (hg.below hb0))).and (Live.blk (Blk.new w _ _))
  have V1 := Lib.hid (fun W H => totsValid_any A n c ts W H hsm hnb)
  have V2 := Lib.hid (fun W G => enValid_any name id kind data W hn hk G)
  have TO := Lib.hid (fun W G => totalOf_any name kind id data W hn G)
  have JT := Lib.hid (fun B W H H' x1 x2 => totsJoin_any A B n c 1 ts (totOf ⟨name, ⟨id, kind, data⟩⟩) W H H' x1 x2 hnc hnil (Nat.le_refl _))
  clear h hsm hnil hg hb0
  cases h1 : totsOk ts with
  | false =>
    have Hr := Lib.hid (totsAdd_no (ts := ts) (x := ⟨name, ⟨id, kind, data⟩⟩) (by rw [h1]; rfl))
    rw [h1] at V1
    go_enter Tryd.func22, Tryd.ntmps22
    go_wp2_with (go_at_call 25; (with_reducible refine (V1.out _ L.now.1.1.2).mono ?_); (rintro e w1 ⟨rfl, hb1⟩; have L1 := L.next hb1))
    go_ret2
    rw [Hr.out]
    exact tots_none L1.now.1.1.1
  | true =>
    rw [h1] at V1
    cases h2 : enOk ⟨name, ⟨id, kind, data⟩⟩ with
    | false =>
      have Hr := Lib.hid (totsAdd_no (ts := ts) (x := ⟨name, ⟨id, kind, data⟩⟩) (by rw [h2]; simp))
      rw [h2] at V2
      go_enter Tryd.func22, Tryd.ntmps22
      go_wp2_with (first
        | (go_at_call 25; (with_reducible refine (V1.out _ L.now.1.1.2).mono ?_); (rintro e w1 ⟨rfl, hb1⟩; have L1 := L.next hb1; have c0 := L1.now.2.cell 0; have c1 := L1.now.2.cell 1; have c2 := L1.now.2.cell 2; have c3 := L1.now.2.cell 3))
        | (go_at_call 49; (with_reducible refine (V2.out _ L1.now.1.2).mono ?_); (rintro e w2 ⟨rfl, hb2⟩; have L2 := L1.next hb2)))
      go_ret2
      rw [Hr.out]
      exact tots_none L2.now.1.1.1
    | true =>
      rw [h2] at V2
      have Hr := Lib.hid (totsAdd_yes h1 h2)
      have J2 := Lib.hid (fun B W H H' => JT.out B W H H' h1 (totOf_ok h2))
      obtain ⟨p, hp⟩ : ∃ p, joinOne ts (totOf ⟨name, ⟨id, kind, data⟩⟩) = p := ⟨_, rfl⟩
      rw [hp] at J2 Hr
      clear h1 h2 JT hp
      go_enter Tryd.func22, Tryd.ntmps22
      go_wp2_with (first
        | (go_at_call 25; (with_reducible refine (V1.out _ L.now.1.1.2).mono ?_); (rintro e w1 ⟨rfl, hb1⟩; have L1 := L.next hb1; have c0 := L1.now.2.cell 0; have c1 := L1.now.2.cell 1; have c2 := L1.now.2.cell 2; have c3 := L1.now.2.cell 3))
        | (go_at_call 49; (with_reducible refine (V2.out _ L1.now.1.2).mono ?_); (rintro e w2 ⟨rfl, hb2⟩; have L2 := L1.next hb2; have c0 := L2.now.2.cell 0; have c1 := L2.now.2.cell 1; have c2 := L2.now.2.cell 2; have c3 := L2.now.2.cell 3))
        | (go_at_call 34; (with_reducible refine (TO.out _ L2.now.1.2).mono ?_); (rintro e w3 ⟨rfl, hb3⟩; have L3 := (L2.next hb3).next ((Below.refl _ _).alloc (Nat.le_refl _) (.cells #[.string (catOf name), .int .i64 1, .int .i64 data] 29)); have R3 := Lib.hid (@one_row w3 ⟨catOf name, 1, data⟩)))
        | (go_at_call 29; (with_reducible refine (J2.out _ _ L3.now.1.1.2 R3.out).mono ?_); (rintro e w4 ⟨A4, n4, c4, rfl, hr4, hc4, Hn4, hb4⟩; have L4 := L3.next hb4)))
      go_ret2
      rw [Hr.out]
      exact ⟨A4, n4, c4, rfl, hr4, hc4, Hn4, L4.now.1.1.1⟩
set_option maxRecDepth 100000 in
set_option maxHeartbeats 4000000 in
theorem totsAddS_any (A : Option Addr) (n c : Nat) (ts : List Tot) (name kind : ByteArray) (id data : Int) (w : World) (h : Row totCells 3 w w.heap.size A n ts) (hsm : SmallTots ts) (hn : name.size ≤ maxLen) (hk : kind.size ≤ maxLen) (hnb : n ≤ 1000000) :
    Calls Tryd.prog 23 #[.slice A n c, .agg #[.string name, .int .i64 id, .string kind, .int .i64 data]] w (TotsBoolRet (totsAdd ts ⟨name, ⟨id, kind, data⟩⟩) w) := by
  have hb0 : Below w.heap.size w (w.alloc (.cells #[.string name, .int .i64 id, .string kind, .int .i64 data] 35)) := (Below.refl _ _).alloc (Nat.le_refl _) _
  have L : Live (w.alloc (.cells #[.string name, .int .i64 id, .string kind, .int .i64 data] 35)) fun W => (Below w.heap.size w W ∧ Row totCells 3 W W.heap.size A n ts) ∧ Blk W w.heap.size 35 #[.string name, .int .i64 id, .string kind, .int .i64 data] := ((Live.since hb0).and (Live.row (h.next hb0))).and (Live.blk (Blk.new w _ _))
  have V1 := Lib.hid (fun W H => totsValidS_any A n c ts W H hsm hnb)
  have V2 := Lib.hid (fun W => nameValidS_any name W hn)
  have V3 := Lib.hid (fun W => evValidS_any id kind data W hk)
  have TO := Lib.hid (fun W x => l16Of_any name kind id data W hn x)
  have Hl := Lib.hid h.1
  clear h hsm hb0
  cases h1 : totsOk ts with
  | false =>
    have Hr := Lib.hid (totsAdd_no (ts := ts) (x := ⟨name, ⟨id, kind, data⟩⟩) (by rw [h1]; rfl))
    rw [h1] at V1
    go_enter Tryd.func23, Tryd.ntmps23
    go_wp2_with (go_at_call 50; (with_reducible refine (V1.out _ L.now.1.2).mono ?_); (rintro e w1 ⟨rfl, hb1⟩; have L1 := L.next hb1))
    go_ret2
    rw [Hr.out]
    exact tots_none L1.now.1.1
  | true =>
    rw [h1] at V1
    cases h2 : nameOk name.data.toList with
    | false =>
      have Hr := Lib.hid (totsAdd_no (ts := ts) (x := ⟨name, ⟨id, kind, data⟩⟩) (by unfold enOk; rw [h2]; simp))
      rw [h2] at V2
      go_enter Tryd.func23, Tryd.ntmps23
      go_wp2_with (first
        | (go_at_call 50; (with_reducible refine (V1.out _ L.now.1.2).mono ?_); (rintro e w1 ⟨rfl, hb1⟩; have L1 := L.next hb1; have c0 := L1.now.2.cell 0))
        | (go_at_call 43; (with_reducible refine (V2.out _).mono ?_); (rintro e w2 ⟨rfl, hb2⟩; have L2 := L1.next hb2)))
      go_ret2
      rw [Hr.out]
      exact tots_none L2.now.1.1
    | true =>
      rw [h2] at V2
      cases h3 : evOk ⟨id, kind, data⟩ with
      | false =>
        have Hr := Lib.hid (totsAdd_no (ts := ts) (x := ⟨name, ⟨id, kind, data⟩⟩) (by unfold enOk; rw [h3]; simp))
        rw [h3] at V3
        go_enter Tryd.func23, Tryd.ntmps23
        go_wp2_with (first
          | (go_at_call 50; (with_reducible refine (V1.out _ L.now.1.2).mono ?_); (rintro e w1 ⟨rfl, hb1⟩; have L1 := L.next hb1; have c0 := L1.now.2.cell 0))
          | (go_at_call 43; (with_reducible refine (V2.out _).mono ?_); (rintro e w2 ⟨rfl, hb2⟩; have L2 := L1.next hb2; have c1 := L2.now.2.cell 1; have c2 := L2.now.2.cell 2; have c3 := L2.now.2.cell 3))
          | (go_at_call 44; (with_reducible refine (V3.out _).mono ?_); (rintro e w3 ⟨rfl, hb3⟩; have L3 := L2.next hb3)))
        go_ret2
        rw [Hr.out]
        exact tots_none L3.now.1.1
      | true =>
        rw [h3] at V3
        have hen : enOk ⟨name, ⟨id, kind, data⟩⟩ = true := by unfold enOk; rw [h2, h3]; rfl
        have Hr := Lib.hid (totsAdd_yes h1 hen)
        have TO2 := Lib.hid (fun W => TO.out W h2)
        have hn24 : n ≤ 24 := by rw [← Hl.out]; exact (totsOk_iff2.1 h1).1
        have hto : TotB ⟨catOf name, 1, data⟩ := totOne_B (t := totOf ⟨name, ⟨id, kind, data⟩⟩) (totOf_ok hen)
        have hso : SortedTs ts := (totsOk_iff2.1 h1).2.1
        have hn9 : n ≤ 900 := by omega
        have hTB := totsOk_B h1
        have PT2 := Lib.hid (fun W (H : Row totCells 3 W W.heap.size A n ts) => l16Put_any A n c ts (catOf name) 1 data W H hTB hto hso hn9)
        have V4 := Lib.hid (fun A' n' c' W H hn' => totsValidS_any A' n' c' (putT ts (totOf ⟨name, ⟨id, kind, data⟩⟩)) W H (putT_B h1 (totOf_ok hen)) hn')
        have Hlen : Hid (∀ n', (putT ts (totOf ⟨name, ⟨id, kind, data⟩⟩)).length = n' → n' ≤ 1000000) := Lib.hid fun n' e => by
          have := (putT_len ts (totOf ⟨name, ⟨id, kind, data⟩⟩)).2
          rw [Hl.out] at this
          omega
        have Hno := Lib.hid (@joinOne_no ts (totOf ⟨name, ⟨id, kind, data⟩⟩))
        have Hyes := Lib.hid (@joinOne_yes ts (totOf ⟨name, ⟨id, kind, data⟩⟩))
        obtain ⟨zs, hz⟩ : ∃ zs, putT ts (totOf ⟨name, ⟨id, kind, data⟩⟩) = zs := ⟨_, rfl⟩
        rw [hz] at V4 Hlen Hno Hyes
        have hz' : putT ts ⟨catOf name, 1, data⟩ = zs := hz
        rw [hz'] at PT2
        clear h1 h2 h3 hen TO hn24 hz hz' hto hso hn9 hTB
        cases h5 : totsOk zs with
        | false =>
          rw [h5] at V4
          have Hr2 := Lib.hid (Hr.out.trans (Hno.out h5))
          clear h5
          go_enter Tryd.func23, Tryd.ntmps23
          go_wp2_with (first
            | (go_at_call 50; (with_reducible refine (V1.out _ L.now.1.2).mono ?_); (rintro e w1 ⟨rfl, hb1⟩; have L1 := L.next hb1; have c0 := L1.now.2.cell 0))
            | (go_at_call 43; (with_reducible refine (V2.out _).mono ?_); (rintro e w2 ⟨rfl, hb2⟩; have L2 := L1.next hb2; have c1 := L2.now.2.cell 1; have c2 := L2.now.2.cell 2; have c3 := L2.now.2.cell 3))
            | (go_at_call 44; (with_reducible refine (V3.out _).mono ?_); (rintro e w3 ⟨rfl, hb3⟩; have L3 := L2.next hb3; have c0 := L3.now.2.cell 0; have c1 := L3.now.2.cell 1; have c2 := L3.now.2.cell 2; have c3 := L3.now.2.cell 3))
            | (go_at_call 36; (with_reducible refine (TO2.out _).mono ?_); (rintro e w4 ⟨rfl, hb4⟩; have L4 := L3.next hb4))
            | (go_at_call 35; (with_reducible refine (PT2.out _ L4.now.1.2).mono ?_); (rintro e w5 ⟨A5, n5, c5, rfl, hr5, hc5, Hn5, hb5⟩; have L5 := (L4.next hb5).and (Live.row hr5); have hn5 := Hlen.out n5 hr5.1; have V5 := Lib.hid (V4.out A5 n5 c5 _ hr5 hn5); clear hr5))
            | (go_at_call 50; (with_reducible refine V5.out.mono ?_); (rintro e w6 ⟨rfl, hb6⟩; have L6 := L5.next hb6)))
          go_ret2
          rw [Hr2.out]
          exact tots_none L6.now.1.1.1
        | true =>
          rw [h5] at V4
          have Hr2 := Lib.hid (Hr.out.trans (Hyes.out h5))
          clear h5
          go_enter Tryd.func23, Tryd.ntmps23
          go_wp2_with (first
            | (go_at_call 50; (with_reducible refine (V1.out _ L.now.1.2).mono ?_); (rintro e w1 ⟨rfl, hb1⟩; have L1 := L.next hb1; have c0 := L1.now.2.cell 0))
            | (go_at_call 43; (with_reducible refine (V2.out _).mono ?_); (rintro e w2 ⟨rfl, hb2⟩; have L2 := L1.next hb2; have c1 := L2.now.2.cell 1; have c2 := L2.now.2.cell 2; have c3 := L2.now.2.cell 3))
            | (go_at_call 44; (with_reducible refine (V3.out _).mono ?_); (rintro e w3 ⟨rfl, hb3⟩; have L3 := L2.next hb3; have c0 := L3.now.2.cell 0; have c1 := L3.now.2.cell 1; have c2 := L3.now.2.cell 2; have c3 := L3.now.2.cell 3))
            | (go_at_call 36; (with_reducible refine (TO2.out _).mono ?_); (rintro e w4 ⟨rfl, hb4⟩; have L4 := L3.next hb4))
            | (go_at_call 35; (with_reducible refine (PT2.out _ L4.now.1.2).mono ?_); (rintro e w5 ⟨A5, n5, c5, rfl, hr5, hc5, Hn5, hb5⟩; have L5 := (L4.next hb5).and (Live.row hr5); have hn5 := Hlen.out n5 hr5.1; have V5 := Lib.hid (V4.out A5 n5 c5 _ hr5 hn5); clear hr5))
            | (go_at_call 50; (with_reducible refine V5.out.mono ?_); (rintro e w6 ⟨rfl, hb6⟩; have L6 := L5.next hb6)))
          go_ret2
          rw [Hr2.out]
          exact ⟨A5, n5, c5, rfl, L6.now.2, hc5, Hn5, L6.now.1.1.1⟩
def findRet (o : Option Tot) : Value := match o with
  | some t => .tuple #[.agg #[.string t.cat, .int .i64 t.many, .int .i64 t.sum], .bool true]
  | none => .tuple #[.agg #[.string ⟨#[]⟩, .int .i64 0, .int .i64 0], .bool false]
set_option maxRecDepth 100000 in
set_option maxHeartbeats 4000000 in
theorem totsFind_any (A : Option Addr) (n c : Nat) (ts : List Tot) (s : ByteArray) (w : World) (h : Row totCells 3 w w.heap.size A n ts) (hok : totsOk ts = true) :
    Calls Tryd.prog 24 #[.slice A n c, .string s] w fun e w' => e = .returned (findRet (findT ts s)) ∧ Below w.heap.size w w' := by
  have hn : n ≤ 24 := by rw [← h.1]; exact (totsOk_iff2.1 hok).1
  have Hl := Lib.hid h.1
  have hb0 : Below w.heap.size w (w.alloc (.cells #[.string ⟨#[]⟩, .int .i64 0, .int .i64 0] 29)) := (Below.refl _ _).alloc (Nat.le_refl _) _
  have L : Live (w.alloc (.cells #[.string ⟨#[]⟩, .int .i64 0, .int .i64 0] 29)) fun W => (Below w.heap.size w W ∧ Row totCells 3 W W.heap.size A n ts) ∧ Blk W w.heap.size 29 #[.string ⟨#[]⟩, .int .i64 0, .int .i64 0] := ((Live.since hb0).and (Live.row (h.next hb0))).and (Live.blk (Blk.new w _ _))
  have V1 := Lib.hid (fun W H => totsValid_any A n c ts W H (fun x hx => (totsOk_B hok x hx).1) (by omega))
  rw [hok] at V1
  clear h hok hb0
  go_enter Tryd.func24, Tryd.ntmps24
  go_wp2_with (go_at_call 25; (with_reducible refine (V1.out _ L.now.1.2).mono ?_); (rintro e w1 ⟨rfl, hb1⟩; have L1 := L.next hb1))
  go_loopw [14] (fun i wr => ∃ k : Nat, k ≤ n ∧ i = .int .i64 (k : Int) ∧ (Live wr fun W => (Below w.heap.size w W ∧ Row totCells 3 W W.heap.size A n ts) ∧ Blk W w.heap.size 29 #[.string ⟨#[]⟩, .int .i64 0, .int .i64 0]) ∧ Hid (∀ j, j < k → (nx ts j).cat ≠ s)) (fun i _ => n - (intOf i).toNat)
  case atStart => exact ⟨0, Nat.zero_le _, rfl, L1, Lib.hid (fun j hj => absurd hj (by omega))⟩
  case round =>
    obtain ⟨k, hk, rfl, LW, Hall⟩ := hrel
    by_cases hlt : k < n
    · have hlt' : (k : Int) < (n : Int) := by omega
      obtain ⟨b, off, rfl, hb, hx⟩ := LW.now.1.2.tot_at (by omega)
      obtain ⟨c0, c1, c2⟩ := hx k hlt
      have Hat := Lib.hid (fun e => findT_at (l := ts) (c := s) k (by rw [Hl.out]; exact hlt) e Hall.out)
      obtain ⟨⟨xc, xm, xs⟩, he⟩ : ∃ e, nx ts k = e := ⟨_, rfl⟩
      rw [he] at c0 c1 c2 Hat
      have He := Lib.hid he
      simp only at c0 c1 c2 Hat
      have LB := (LW.next ((Below.refl _ _).alloc (Nat.le_refl _) (.cells #[.string xc, .int .i64 xm, .int .i64 xs] 29)))
      clear hx he
      by_cases hc : xc = s
      · have e1 : (xc.toList == s.toList) = true := by rw [hc]; exact beq_self_eq_true _
        have Hr := Lib.hid (Hat.out hc)
        have z0 := LB.now.2.cell 0
        have z1 := LB.now.2.cell 1
        have z2 := LB.now.2.cell 2
        have y0 := LB.now.2.frozen 0
        have y1 := LB.now.2.frozen 1
        have y2 := LB.now.2.frozen 2
        have BZ := ((LB.now.2.set_ 0 (.string xc)).set_ 1 (.int .i64 xm)).set_ 2 (.int .i64 xs)
        have x0 := BZ.cell 0
        have x1 := BZ.cell 1
        have x2 := BZ.cell 2
        clear hc
        go_wp2_with fail
        refine bodyPost_ret (v := .tuple #[.agg #[.string xc, .int .i64 xm, .int .i64 xs], .bool true]) (by simp [results, Tryd.results24, go_sem, x0, x1, x2]) rfl ?_
        rw [Hr.out]
        exact ⟨rfl, ((LB.now.1.1.setCell (p := ⟨w.heap.size, 0, none⟩) (Nat.le_refl _) _).setCell (p := ⟨w.heap.size, 1, none⟩) (Nat.le_refl _) _).setCell (p := ⟨w.heap.size, 2, none⟩) (Nat.le_refl _) _⟩
      · have e1 : (xc.toList == s.toList) = false := toList_ne hc
        have Hne := Lib.hid (show (nx ts k).cat ≠ s by rw [He.out]; exact hc)
        clear hc
        go_wp2_with fail
        go_roundw
        case rel => exact ⟨k + 1, by omega, by go_num, LB, Lib.hid fun j hj => by
          rcases Nat.lt_succ_iff_lt_or_eq.1 hj with h' | rfl
          · exact Hall.out j h'
          · exact Hne.out⟩
        case measure => simp [intOf]; omega
    · obtain rfl : k = n := by omega
      have hlt' : ¬ (k : Int) < (k : Int) := by omega
      have Hr := Lib.hid (findT_non (l := ts) (c := s) (fun j hj => Hall.out j (by rw [Hl.out] at hj; exact hj)))
      have z0 := LW.now.2.cell 0
      have z1 := LW.now.2.cell 1
      have z2 := LW.now.2.cell 2
      have y0 := LW.now.2.frozen 0
      have y1 := LW.now.2.frozen 1
      have y2 := LW.now.2.frozen 2
      have BZ := ((LW.now.2.set_ 0 (.string ⟨#[]⟩)).set_ 1 (.int .i64 0)).set_ 2 (.int .i64 0)
      have x0 := BZ.cell 0
      have x1 := BZ.cell 1
      have x2 := BZ.cell 2
      go_wp2_with fail
      refine bodyPost_ret (v := .tuple #[.agg #[.string ⟨#[]⟩, .int .i64 0, .int .i64 0], .bool false]) (by simp [results, Tryd.results24, go_sem, x0, x1, x2]) rfl ?_
      rw [Hr.out]
      exact ⟨rfl, ((LW.now.1.1.setCell (p := ⟨w.heap.size, 0, none⟩) (Nat.le_refl _) _).setCell (p := ⟨w.heap.size, 1, none⟩) (Nat.le_refl _) _).setCell (p := ⟨w.heap.size, 2, none⟩) (Nat.le_refl _) _⟩
end Go.Proofs.YtlaolhhkchgakaaDoor
