/- The event of a text: the program's and the reference's. -/
import Derived.Test.YtecijlebfpbpaaaDoorEvC
import Derived.Deep.RegionHeld3
namespace Go.Proofs.YtecijlebfpbpaaaDoor
set_option linter.unusedVariables false
set_option linter.unusedSimpArgs false
open Go.RowKit

/-- the library's own variable holds a number. -/
def ML (w : World) : Prop := ∃ m, w.cell? ⟨1, 0, none⟩ = some (.int .i64 m)
theorem ML.below {w w' : World} (h : ML w) (hb : Below w.heap.size w w') : ML w' := by
  obtain ⟨m, hm⟩ := h
  exact ⟨m, (hb.cell (World.block_lt_of_cell? w _ hm)).trans hm⟩
def fromRet (o : Option Ev) : Value := match o with
  | some e => .tuple #[.agg #[.int .i64 e.id, .string e.kind, .int .i64 e.data], .bool true]
  | none => .tuple #[.agg #[.int .i64 0, .string ⟨#[]⟩, .int .i64 0], .bool false]
theorem strs_lit3 {w : World} {l : List ByteArray} : Strs (w.alloc (.cells (l.map Value.string).toArray 9)) (w.alloc (.cells (l.map Value.string).toArray 9)).heap.size (some ⟨w.heap.size, 0, none⟩) l.length l := by
  refine ⟨by simp, fun _ => ⟨w.heap.size, 0, rfl, by simp, fun j hj => ?_⟩⟩
  have B := Blk.new w 9 (l.map Value.string).toArray
  rw [B.cell (0 + j), Nat.zero_add, List.getElem?_toArray, List.getElem?_eq_getElem hj]
theorem three_of {l : List (List UInt8)} {ss : List ByteArray} (h : ss.map (fun s => s.data.toList) = l) (h3 : ss.length = 3) : ∃ a b c : ByteArray, ss = [a, b, c] ∧ l = [a.data.toList, b.data.toList, c.data.toList] := by
  match ss, h3 with
  | [a, b, c], _ => exact ⟨a, b, c, rfl, h.symm⟩
/-- what the program makes of three pieces. -/
theorem evFrom_three {l : List UInt8} {a b c : ByteArray} (h : cutB l = [a.data.toList, b.data.toList, c.data.toList]) :
    evFrom l = if (numFrom a.data.toList 9999).isSome && (numFrom c.data.toList 999).isSome && evOk ⟨(numVal a.data.toList 9999 : Nat), b, (numVal c.data.toList 999 : Nat)⟩ then some ⟨(numVal a.data.toList 9999 : Nat), b, (numVal c.data.toList 999 : Nat)⟩ else none := by
  unfold evFrom numVal
  rw [h]
theorem piece_le {l a b c : List UInt8} (h : cutB l = [a, b, c]) : a.length ≤ l.length ∧ b.length ≤ l.length ∧ c.length ≤ l.length := by
  have := congrArg List.length (cutB_three h)
  simp only [List.length_append, List.length_cons] at this
  omega
set_option maxRecDepth 100000 in
set_option maxHeartbeats 8000000 in
theorem eventFrom_any (s : ByteArray) (w : World) (hs : s.size ≤ 1000) (hm : ML w) :
    Calls Tryd.prog 17 #[.string s] w fun e w' => e = .returned (fromRet (evFrom s.data.toList)) ∧ Below w.heap.size w w' := by
  have hb0 : Below w.heap.size w (w.alloc (.cells #[.int .i64 0, .string ⟨#[]⟩, .int .i64 0] 34)) := (Below.refl _ _).alloc (Nat.le_refl _) _
  have L0 := (Live.since hb0).and (Live.blk (Blk.new w 34 #[.int .i64 0, .string ⟨#[]⟩, .int .i64 0]))
  obtain ⟨m, hm⟩ := hm.below hb0
  obtain ⟨w0, hw0⟩ : ∃ w0, w.alloc (.cells #[.int .i64 0, .string ⟨#[]⟩, .int .i64 0] 34) = w0 := ⟨_, rfl⟩
  rw [hw0] at hm L0
  have SP := Lib.hid (Tryd.strings_Split s ⟨#[32]⟩ m w0 (by omega) hm (by decide))
  have hdata : ((Lib.splitB ⟨#[32]⟩ 0 (Lib.countB s ⟨#[32]⟩) s).map fun s => s.data.toList) = cutB s.data.toList := by
    rw [Lib.splitB_data]
    exact split_cutB s.data.toList
  have hlen : (Lib.splitB ⟨#[32]⟩ 0 (Lib.countB s ⟨#[32]⟩) s).length = Lib.countB s ⟨#[32]⟩ + 1 := Lib.splitB_all _ (by decide) 0 _ s rfl
  obtain ⟨ss, hss⟩ : ∃ ss, Lib.splitB ⟨#[32]⟩ 0 (Lib.countB s ⟨#[32]⟩) s = ss := ⟨_, rfl⟩
  rw [hss] at SP hdata hlen
  rw [← hlen] at SP
  have Hd := Lib.hid hdata
  have Hsl := Lib.hid (str_len s)
  have HW := Lib.hid hw0
  clear hss hlen hdata hm hb0 hw0
  by_cases h3 : ss.length = 3
  · obtain ⟨a, b, c, rfl, hcut⟩ := three_of Hd.out h3
    have hpl := piece_le hcut
    rw [str_len, str_len, str_len, str_len] at hpl
    obtain ⟨ha, hb, hc⟩ := hpl
    have Hfr := Lib.hid (evFrom_three hcut)
    have N1 : Hid (∀ W, Calls Tryd.prog 51 #[.string a, .int .i64 9999] W fun e w' => e = .returned (.tuple #[.int .i64 (numVal a.data.toList 9999 : Nat), .bool (numFrom a.data.toList 9999).isSome]) ∧ W = w') := Lib.hid (fun W => numberFrom_any a 9999 W (by unfold maxLen; omega) (by omega))
    have N2 : Hid (∀ W, Calls Tryd.prog 51 #[.string c, .int .i64 999] W fun e w' => e = .returned (.tuple #[.int .i64 (numVal c.data.toList 999 : Nat), .bool (numFrom c.data.toList 999).isSome]) ∧ W = w') := Lib.hid (fun W => numberFrom_any c 999 W (by unfold maxLen; omega) (by omega))
    obtain ⟨i, hi⟩ : ∃ i, numVal a.data.toList 9999 = i := ⟨_, rfl⟩
    obtain ⟨d, hd⟩ : ∃ d, numVal c.data.toList 999 = d := ⟨_, rfl⟩
    obtain ⟨bi, hbi⟩ : ∃ bi, (numFrom a.data.toList 9999).isSome = bi := ⟨_, rfl⟩
    obtain ⟨bd, hbd⟩ : ∃ bd, (numFrom c.data.toList 999).isSome = bd := ⟨_, rfl⟩
    rw [hi, hbi] at N1 Hfr
    rw [hd, hbd] at N2 Hfr
    have V := Lib.hid (fun W => evValid_any (i : Int) b (d : Int) W (by unfold maxLen; omega))
    have SP3 : Hid (Calls Tryd.prog 50 #[.string s, .string ⟨#[32]⟩] w0 fun e w' => e = .returned (.slice (some ⟨w0.heap.size, 0, none⟩) 3 3) ∧ w' = w0.alloc (.cells #[.string a, .string b, .string c] 9)) := Lib.hid SP.out
    have L1 := (L0.next ((Below.refl _ _).alloc (Nat.le_refl _) (.cells #[.string a, .string b, .string c] 9))).and (Live.blk (Blk.new w0 9 #[.string a, .string b, .string c]))
    clear hi hd hbi hbd hcut h3 Hd SP
    go_enter Tryd.func17, Tryd.ntmps17
    go_wp2_with fail
    rw [HW.out]
    refine SP3.out.mono ?_
    rintro e w1 ⟨rfl, rfl⟩
    generalize w0.alloc (.cells #[.string a, .string b, .string c] 9) = w1 at *
    have p0 := L1.now.2.cell 0
    have p1 := L1.now.2.cell 1
    have p2 := L1.now.2.cell 2
    have LE := (L1.next ((Below.refl _ _).alloc (Nat.le_refl _) (.cells #[.int .i64 (i : Int), .string b, .int .i64 (d : Int)] 34))).and (Live.blk (Blk.new w1 34 #[.int .i64 (i : Int), .string b, .int .i64 (d : Int)]))
    have Hbl : Hid (bi = false ∨ (bi = true ∧ bd = false) ∨ (bi = true ∧ bd = true)) := Lib.hid (by cases bi <;> cases bd <;> simp)
    rcases Hbl.out with rfl | ⟨rfl, rfl⟩ | ⟨rfl, rfl⟩
    · have Hr : Hid (evFrom s.data.toList = none) := Lib.hid (by rw [Hfr.out]; simp)
      go_wp2_with (first
        | (go_at_call 51; (with_reducible refine (N1.out _).mono ?_); (rintro e w' ⟨rfl, rfl⟩))
        | (go_at_call 51; (with_reducible refine (N2.out _).mono ?_); (rintro e w' ⟨rfl, rfl⟩; have ZZ := LE.now.1.1.2; have z0 := ZZ.cell 0; have z1 := ZZ.cell 1; have z2 := ZZ.cell 2; have y0 := ZZ.frozen 0; have y1 := ZZ.frozen 1; have y2 := ZZ.frozen 2)))
      have z0 := LE.now.1.1.2.cell 0
      have z1 := LE.now.1.1.2.cell 1
      have z2 := LE.now.1.1.2.cell 2
      have y0 := LE.now.1.1.2.frozen 0
      have y1 := LE.now.1.1.2.frozen 1
      have y2 := LE.now.1.1.2.frozen 2
      have BZ := ((LE.now.1.1.2.set_ 0 (.int .i64 0)).set_ 1 (.string ⟨#[]⟩)).set_ 2 (.int .i64 0)
      have x0 := BZ.cell 0
      have x1 := BZ.cell 1
      have x2 := BZ.cell 2
      go_wp2_with fail
      refine bodyPost_ret (v := .tuple #[.agg #[.int .i64 0, .string ⟨#[]⟩, .int .i64 0], .bool false]) (by simp [results, Tryd.results17, go_sem, x0, x1, x2]) rfl ?_
      rw [Hr.out]
      exact ⟨rfl, ((LE.now.1.1.1.setCell (p := ⟨w.heap.size, 0, none⟩) (Nat.le_refl _) _).setCell (p := ⟨w.heap.size, 1, none⟩) (Nat.le_refl _) _).setCell (p := ⟨w.heap.size, 2, none⟩) (Nat.le_refl _) _⟩
    · have Hr : Hid (evFrom s.data.toList = none) := Lib.hid (by rw [Hfr.out]; simp)
      go_wp2_with (first
        | (go_at_call 51; (with_reducible refine (N1.out _).mono ?_); (rintro e w' ⟨rfl, rfl⟩))
        | (go_at_call 51; (with_reducible refine (N2.out _).mono ?_); (rintro e w' ⟨rfl, rfl⟩; have ZZ := LE.now.1.1.2; have z0 := ZZ.cell 0; have z1 := ZZ.cell 1; have z2 := ZZ.cell 2; have y0 := ZZ.frozen 0; have y1 := ZZ.frozen 1; have y2 := ZZ.frozen 2)))
      have z0 := LE.now.1.1.2.cell 0
      have z1 := LE.now.1.1.2.cell 1
      have z2 := LE.now.1.1.2.cell 2
      have y0 := LE.now.1.1.2.frozen 0
      have y1 := LE.now.1.1.2.frozen 1
      have y2 := LE.now.1.1.2.frozen 2
      have BZ := ((LE.now.1.1.2.set_ 0 (.int .i64 0)).set_ 1 (.string ⟨#[]⟩)).set_ 2 (.int .i64 0)
      have x0 := BZ.cell 0
      have x1 := BZ.cell 1
      have x2 := BZ.cell 2
      go_wp2_with fail
      refine bodyPost_ret (v := .tuple #[.agg #[.int .i64 0, .string ⟨#[]⟩, .int .i64 0], .bool false]) (by simp [results, Tryd.results17, go_sem, x0, x1, x2]) rfl ?_
      rw [Hr.out]
      exact ⟨rfl, ((LE.now.1.1.1.setCell (p := ⟨w.heap.size, 0, none⟩) (Nat.le_refl _) _).setCell (p := ⟨w.heap.size, 1, none⟩) (Nat.le_refl _) _).setCell (p := ⟨w.heap.size, 2, none⟩) (Nat.le_refl _) _⟩
    · cases hv : evOk ⟨(i : Int), b, (d : Int)⟩ with
      | false =>
        rw [hv] at V Hfr
        have Hr : Hid (evFrom s.data.toList = none) := Lib.hid (by rw [Hfr.out]; simp)
        clear hv
        go_wp2_with (first
          | (go_at_call 51; (with_reducible refine (N1.out _).mono ?_); (rintro e w' ⟨rfl, rfl⟩))
          | (go_at_call 51; (with_reducible refine (N2.out _).mono ?_); (rintro e w' ⟨rfl, rfl⟩))
          | (go_at_call 52; (with_reducible refine (V.out _).mono ?_); (rintro e w3 ⟨rfl, hb3⟩; have L3 := LE.next hb3; have ZZ := L3.now.1.1.2; have z0 := ZZ.cell 0; have z1 := ZZ.cell 1; have z2 := ZZ.cell 2; have y0 := ZZ.frozen 0; have y1 := ZZ.frozen 1; have y2 := ZZ.frozen 2)))
        have z0 := L3.now.1.1.2.cell 0
        have z1 := L3.now.1.1.2.cell 1
        have z2 := L3.now.1.1.2.cell 2
        have y0 := L3.now.1.1.2.frozen 0
        have y1 := L3.now.1.1.2.frozen 1
        have y2 := L3.now.1.1.2.frozen 2
        have BZ := ((L3.now.1.1.2.set_ 0 (.int .i64 0)).set_ 1 (.string ⟨#[]⟩)).set_ 2 (.int .i64 0)
        have x0 := BZ.cell 0
        have x1 := BZ.cell 1
        have x2 := BZ.cell 2
        go_wp2_with fail
        refine bodyPost_ret (v := .tuple #[.agg #[.int .i64 0, .string ⟨#[]⟩, .int .i64 0], .bool false]) (by simp [results, Tryd.results17, go_sem, x0, x1, x2]) rfl ?_
        rw [Hr.out]
        exact ⟨rfl, ((L3.now.1.1.1.setCell (p := ⟨w.heap.size, 0, none⟩) (Nat.le_refl _) _).setCell (p := ⟨w.heap.size, 1, none⟩) (Nat.le_refl _) _).setCell (p := ⟨w.heap.size, 2, none⟩) (Nat.le_refl _) _⟩
      | true =>
        rw [hv] at V Hfr
        have Hr : Hid (evFrom s.data.toList = some ⟨(i : Int), b, (d : Int)⟩) := Lib.hid (by rw [Hfr.out]; rfl)
        clear hv
        go_wp2_with (first
          | (go_at_call 51; (with_reducible refine (N1.out _).mono ?_); (rintro e w' ⟨rfl, rfl⟩))
          | (go_at_call 51; (with_reducible refine (N2.out _).mono ?_); (rintro e w' ⟨rfl, rfl⟩))
          | (go_at_call 52; (with_reducible refine (V.out _).mono ?_); (rintro e w3 ⟨rfl, hb3⟩; have L3 := LE.next hb3; have ZZ := L3.now.1.1.2; have z0 := ZZ.cell 0; have z1 := ZZ.cell 1; have z2 := ZZ.cell 2; have y0 := ZZ.frozen 0; have y1 := ZZ.frozen 1; have y2 := ZZ.frozen 2; have e0 := L3.now.2.cell 0; have e1 := L3.now.2.cell 1; have e2 := L3.now.2.cell 2)))
        have z0 := L3.now.1.1.2.cell 0
        have z1 := L3.now.1.1.2.cell 1
        have z2 := L3.now.1.1.2.cell 2
        have y0 := L3.now.1.1.2.frozen 0
        have y1 := L3.now.1.1.2.frozen 1
        have y2 := L3.now.1.1.2.frozen 2
        have BZ := ((L3.now.1.1.2.set_ 0 (.int .i64 (i : Int))).set_ 1 (.string b)).set_ 2 (.int .i64 (d : Int))
        have x0 := BZ.cell 0
        have x1 := BZ.cell 1
        have x2 := BZ.cell 2
        go_wp2_with fail
        refine bodyPost_ret (v := .tuple #[.agg #[.int .i64 (i : Int), .string b, .int .i64 (d : Int)], .bool true]) (by simp [results, Tryd.results17, go_sem, x0, x1, x2]) rfl ?_
        rw [Hr.out]
        exact ⟨rfl, ((L3.now.1.1.1.setCell (p := ⟨w.heap.size, 0, none⟩) (Nat.le_refl _) _).setCell (p := ⟨w.heap.size, 1, none⟩) (Nat.le_refl _) _).setCell (p := ⟨w.heap.size, 2, none⟩) (Nat.le_refl _) _⟩
  · have Hr := Lib.hid (show evFrom s.data.toList = none from evFrom_not3 (by rw [← Hd.out, List.length_map]; exact h3))
    have h3' : ((ss.length : Int) != 3) = true := by simp only [bne, Bool.not_eq_true', beq_eq_false_iff_ne]; omega
    have L1 := L0.next ((Below.refl _ _).alloc (Nat.le_refl _) (.cells (ss.map Value.string).toArray 9))
    go_enter Tryd.func17, Tryd.ntmps17
    go_wp2_with fail
    rw [HW.out]
    refine SP.out.mono ?_
    rintro e w1 ⟨rfl, rfl⟩
    generalize w0.alloc (.cells (ss.map Value.string).toArray 9) = w1 at *
    have z0 := L1.now.2.cell 0
    have z1 := L1.now.2.cell 1
    have z2 := L1.now.2.cell 2
    have y0 := L1.now.2.frozen 0
    have y1 := L1.now.2.frozen 1
    have y2 := L1.now.2.frozen 2
    have BZ := ((L1.now.2.set_ 0 (.int .i64 0)).set_ 1 (.string ⟨#[]⟩)).set_ 2 (.int .i64 0)
    have x0 := BZ.cell 0
    have x1 := BZ.cell 1
    have x2 := BZ.cell 2
    go_wp2_with fail
    refine bodyPost_ret (v := .tuple #[.agg #[.int .i64 0, .string ⟨#[]⟩, .int .i64 0], .bool false]) (by simp [results, Tryd.results17, go_sem, x0, x1, x2]) rfl ?_
    rw [Hr.out]
    exact ⟨rfl, ((L1.now.1.setCell (p := ⟨w.heap.size, 0, none⟩) (Nat.le_refl _) _).setCell (p := ⟨w.heap.size, 1, none⟩) (Nat.le_refl _) _).setCell (p := ⟨w.heap.size, 2, none⟩) (Nat.le_refl _) _⟩
theorem evFrom_none_ref {l : List UInt8} {a b c : ByteArray} (h : cutB l = [a.data.toList, b.data.toList, c.data.toList]) (hs : (evFrom l).isSome = false) : evTextS ⟨num5 a.data.toList, b, num5 c.data.toList⟩ ≠ l := fun e => by
  have := (evFrom_ref h).1.1 e
  rw [hs] at this; cases this
theorem evFrom_some_ref {l : List UInt8} {a b c : ByteArray} (h : cutB l = [a.data.toList, b.data.toList, c.data.toList]) (hs : (evFrom l).isSome = true) : evTextS ⟨num5 a.data.toList, b, num5 c.data.toList⟩ = l ∧ evFrom l = some ⟨num5 a.data.toList, b, num5 c.data.toList⟩ := by
  refine ⟨(evFrom_ref h).1.2 hs, ?_⟩
  obtain ⟨e, he⟩ := Option.isSome_iff_exists.1 hs
  rw [he, (evFrom_ref h).2 e he]
set_option maxRecDepth 100000 in
set_option maxHeartbeats 8000000 in
theorem eventFromS_any (s : ByteArray) (w : World) (hs : s.size ≤ 1000) :
    Calls Tryd.prog 18 #[.string s] w fun e w' => e = .returned (fromRet (evFrom s.data.toList)) ∧ Below w.heap.size w w' := by
  have hb0 : Below w.heap.size w (w.alloc (.cells #[.int .i64 0, .string ⟨#[]⟩, .int .i64 0] 34)) := (Below.refl _ _).alloc (Nat.le_refl _) _
  have L0 := (Live.since hb0).and (Live.blk (Blk.new w 34 #[.int .i64 0, .string ⟨#[]⟩, .int .i64 0]))
  have Hsl := Lib.hid (str_len s)
  clear hb0
  go_enter Tryd.func18, Tryd.ntmps18
  go_wp2_with fail
  refine (l1Cut_any s _ hs).mono ?_
  rintro e w1 ⟨A, n, cp, ss, rfl, hss, Hd, hb1⟩
  have L1 := (L0.next hb1).and (Live.strs hss)
  have Hn := Lib.hid hss.len
  clear hss hb1
  by_cases h3 : n = 3
  · subst h3
    obtain ⟨a, b, c, rfl, hcut⟩ := three_of Hd.out Hn.out
    have hpl := piece_le hcut
    rw [str_len, str_len, str_len, str_len] at hpl
    obtain ⟨ha, hb, hc⟩ := hpl
    have Hno := Lib.hid (fun h => evFrom_none_ref hcut h)
    have Hyes := Lib.hid (fun h => evFrom_some_ref hcut h)
    have N1 := Lib.hid (fun W => l1Number_any a W (by unfold maxLen; omega))
    have N2 := Lib.hid (fun W => l1Number_any c W (by unfold maxLen; omega))
    obtain ⟨i, hi⟩ : ∃ i, num5 a.data.toList = i := ⟨_, rfl⟩
    obtain ⟨d, hd⟩ : ∃ d, num5 c.data.toList = d := ⟨_, rfl⟩
    rw [hi] at N1 Hno Hyes
    rw [hd] at N2 Hno Hyes
    have V := Lib.hid (fun W => eventTextS_any i b d W (by unfold maxLen; omega))
    obtain ⟨o, ho⟩ : ∃ o : ByteArray, txt (evTextS ⟨i, b, d⟩) = o := ⟨_, rfl⟩
    have Ho : Hid (o.data.toList = evTextS ⟨i, b, d⟩) := Lib.hid (by rw [← ho, txt_list])
    rw [ho] at V
    obtain ⟨g, off, rfl, hg, hx⟩ := L1.now.2.at_ (by omega)
    have p0 : w1.drew.cell? ⟨g, off, none⟩ = some (.string a) := hx 0 a rfl
    have p1 : w1.drew.cell? ⟨g, off + 1, none⟩ = some (.string b) := hx 1 b rfl
    have p2 : w1.drew.cell? ⟨g, off + 2, none⟩ = some (.string c) := hx 2 c rfl
    have q0 : w1.cell? ⟨g, off, none⟩ = some (.string a) := p0
    have q1 : w1.cell? ⟨g, off + 1, none⟩ = some (.string b) := p1
    have q2 : w1.cell? ⟨g, off + 2, none⟩ = some (.string c) := p2
    clear hi hd ho hcut Hd hx Hn
    go_wp2_with fail
    have hgn : ¬ g = w1.heap.size := by omega
    have hgn2 : ¬ w1.heap.size = g := by omega
    have r0 := fun o : Obj => (World.cell?_alloc_lt w1 o hg (a := ⟨g, off, none⟩)).trans q0
    have r1 := fun o : Obj => (World.cell?_alloc_lt w1 o hg (a := ⟨g, off + 1, none⟩)).trans q1
    have r2 := fun o : Obj => (World.cell?_alloc_lt w1 o hg (a := ⟨g, off + 2, none⟩)).trans q2
    go_region_held3 (fun w' => w'.cell? ⟨g, off, none⟩ = some (.string a) ∧ w'.cell? ⟨g, off + 1, none⟩ = some (.string b) ∧ w'.cell? ⟨g, off + 2, none⟩ = some (.string c)) (first | exact ⟨q0, q1, q2⟩ | exact ⟨r0 _, r1 _, r2 _⟩ | go_keep) (first
      | (go_at_call 54; ((with_reducible refine (N1.out _).mono ?_); rintro e w' ⟨rfl, rfl⟩))
      | (go_at_call 54; ((with_reducible refine (N2.out _).mono ?_); rintro e w' ⟨rfl, rfl⟩)))
    all_goals
      have LE := (L1.next (((Below.refl w1.heap.size w1).alloc (Nat.le_refl _) (.cells #[.int .i64 i, .string b, .int .i64 d] 34)).drew)).and (Live.blk (show Blk ((w1.alloc (.cells #[.int .i64 i, .string b, .int .i64 d] 34)).drew) w1.heap.size 34 #[.int .i64 i, .string b, .int .i64 d] from Blk.new w1 _ _))
      generalize (w1.alloc (.cells #[.int .i64 i, .string b, .int .i64 d] 34)).drew = w2 at *
      clear r0 r1 r2 p0 p1 p2 q0 q1 q2
      have e0 := LE.now.2.cell 0
      have e1 := LE.now.2.cell 1
      have e2 := LE.now.2.cell 2
      have Hb : Hid ((evFrom s.data.toList).isSome = false ∨ (evFrom s.data.toList).isSome = true) := Lib.hid (by cases (evFrom s.data.toList).isSome <;> simp)
      rcases Hb.out with hb | hb
      · have Hr : Hid (evFrom s.data.toList = none) := Lib.hid (by
          cases h : evFrom s.data.toList with
          | none => rfl
          | some e => rw [h] at hb; cases hb)
        have hos : o ≠ s := fun e => Hno.out hb (by rw [← Ho.out, e])
        have ho1 : (o.toList == s.toList) = false := toList_ne hos
        have ho2 : ¬ o.toList = s.toList := fun e => hos (bytes_same (by rwa [ByteArray.toList_eq, ByteArray.toList_eq] at e))
        clear hos hb
        go_wp2_with (go_at_call 34; (with_reducible refine (V.out _).mono ?_); (rintro e w3 ⟨rfl, hb3⟩; have L3 := LE.next hb3; have ZZ := L3.now.1.1.2; have z0 := ZZ.cell 0; have z1 := ZZ.cell 1; have z2 := ZZ.cell 2; have y0 := ZZ.frozen 0; have y1 := ZZ.frozen 1; have y2 := ZZ.frozen 2))
        have BZ := ((L3.now.1.1.2.set_ 0 (.int .i64 0)).set_ 1 (.string ⟨#[]⟩)).set_ 2 (.int .i64 0)
        have x0 := BZ.cell 0
        have x1 := BZ.cell 1
        have x2 := BZ.cell 2
        refine bodyPost_ret (v := .tuple #[.agg #[.int .i64 0, .string ⟨#[]⟩, .int .i64 0], .bool false]) (by simp [results, Tryd.results18, go_sem, x0, x1, x2]) rfl ?_
        rw [Hr.out]
        exact ⟨rfl, ((L3.now.1.1.1.setCell (p := ⟨w.heap.size, 0, none⟩) (Nat.le_refl _) _).setCell (p := ⟨w.heap.size, 1, none⟩) (Nat.le_refl _) _).setCell (p := ⟨w.heap.size, 2, none⟩) (Nat.le_refl _) _⟩
      · have Hr := Lib.hid (Hyes.out hb).2
        have hos : o = s := bytes_same (by rw [Ho.out]; exact (Hyes.out hb).1)
        subst hos
        have ho1 : (o.toList == o.toList) = true := beq_self_eq_true _
        clear hb
        go_wp2_with (go_at_call 34; (with_reducible refine (V.out _).mono ?_); (rintro e w3 ⟨rfl, hb3⟩; have L3 := LE.next hb3; have ZZ := L3.now.1.1.2; have z0 := ZZ.cell 0; have z1 := ZZ.cell 1; have z2 := ZZ.cell 2; have y0 := ZZ.frozen 0; have y1 := ZZ.frozen 1; have y2 := ZZ.frozen 2; have e0 := L3.now.2.cell 0; have e1 := L3.now.2.cell 1; have e2 := L3.now.2.cell 2))
        have BZ := ((L3.now.1.1.2.set_ 0 (.int .i64 i)).set_ 1 (.string b)).set_ 2 (.int .i64 d)
        have x0 := BZ.cell 0
        have x1 := BZ.cell 1
        have x2 := BZ.cell 2
        refine bodyPost_ret (v := .tuple #[.agg #[.int .i64 i, .string b, .int .i64 d], .bool true]) (by simp [results, Tryd.results18, go_sem, x0, x1, x2]) rfl ?_
        rw [Hr.out]
        exact ⟨rfl, ((L3.now.1.1.1.setCell (p := ⟨w.heap.size, 0, none⟩) (Nat.le_refl _) _).setCell (p := ⟨w.heap.size, 1, none⟩) (Nat.le_refl _) _).setCell (p := ⟨w.heap.size, 2, none⟩) (Nat.le_refl _) _⟩
  · have Hr := Lib.hid (show evFrom s.data.toList = none from evFrom_not3 (by rw [← Hd.out, List.length_map, Hn.out]; exact h3))
    have h3' : ((n : Int) != 3) = true := by simp only [bne, Bool.not_eq_true', beq_eq_false_iff_ne]; omega
    clear Hd h3
    have z0 := L1.now.1.2.cell 0
    have z1 := L1.now.1.2.cell 1
    have z2 := L1.now.1.2.cell 2
    have y0 := L1.now.1.2.frozen 0
    have y1 := L1.now.1.2.frozen 1
    have y2 := L1.now.1.2.frozen 2
    have BZ := ((L1.now.1.2.set_ 0 (.int .i64 0)).set_ 1 (.string ⟨#[]⟩)).set_ 2 (.int .i64 0)
    have x0 := BZ.cell 0
    have x1 := BZ.cell 1
    have x2 := BZ.cell 2
    go_wp2_with fail
    refine bodyPost_ret (v := .tuple #[.agg #[.int .i64 0, .string ⟨#[]⟩, .int .i64 0], .bool false]) (by simp [results, Tryd.results18, go_sem, x0, x1, x2]) rfl ?_
    rw [Hr.out]
    exact ⟨rfl, ((L1.now.1.1.setCell (p := ⟨w.heap.size, 0, none⟩) (Nat.le_refl _) _).setCell (p := ⟨w.heap.size, 1, none⟩) (Nat.le_refl _) _).setCell (p := ⟨w.heap.size, 2, none⟩) (Nat.le_refl _) _⟩
end Go.Proofs.YtecijlebfpbpaaaDoor
