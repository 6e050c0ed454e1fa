/- A fold goes on: the program's. -/
import Derived.Test.YtbcfbkcadceniaaDoorFoldS
namespace Go.Proofs.YtbcfbkcadceniaaDoor
set_option linter.unusedVariables false
set_option linter.unusedSimpArgs false
open Go.RowKit

theorem grow_own {w w' : World} {g : Nat} (h : w.grownBy w' (some g)) {B : Nat} {a : World} (hb : Below B a w) (hs : B ≤ w.heap.size) (hg : B ≤ g) : Below B a w' :=
  hb.grown h hs (fun k hk => by injection hk with e; omega)
theorem grow_self (w : World) (p : Addr) (u : Value) : w.grownBy (w.setCell p u) (some p.block) :=
  ⟨rfl, rfl, rfl, by simp, fun i hi hne => Below.heap_setCell w p u i (fun e => hne (by rw [e]))⟩
/-- one event more, in the closure's own cell. -/
def StepPost (g : Nat) (f : Fd) (w : World) (e : Ending) (w' : World) : Prop :=
  e = .returned (.agg (fdCells f)) ∧ Blk w' g 50 (fdCells f) ∧ w.grownBy w' (some g)
set_option maxRecDepth 100000 in
set_option maxHeartbeats 4000000 in
theorem folder1_any (g : Nat) (v s : Int) (l : ByteArray) (id : Int) (kind : ByteArray) (data : Int) (w : World) (hB : Blk w g 50 #[.int .i64 v, .int .i64 s, .string l]) (hv1 : -20000 ≤ v) (hv2 : v ≤ 20000) (hs1 : -11000000000 ≤ s) (hs2 : s ≤ 11000000000) (hd1 : -100000 ≤ data) (hd2 : data ≤ 100000) :
    Calls Tryd.prog 97 #[.agg #[.int .i64 id, .string kind, .int .i64 data], .pointer (some ⟨g, 0, none⟩)] w (StepPost g ⟨v + 1, s + data, kind⟩ w) := by
  have hlt := hB.lt
  have HB := Lib.hid hB
  have d0 : w.cell? ⟨g, 0, none⟩ = some (.int .i64 v) := hB.cell 0
  have d1 : w.cell? ⟨g, 1, none⟩ = some (.int .i64 s) := hB.cell 1
  have d2 : w.cell? ⟨g, 2, none⟩ = some (.string l) := hB.cell 2
  have f0 : w.frozen? ⟨g, 0, none⟩ = false := hB.frozen 0
  have f1 : w.frozen? ⟨g, 1, none⟩ = false := hB.frozen 1
  have f2 : w.frozen? ⟨g, 2, none⟩ = false := hB.frozen 2
  have hne : ¬ g = w.heap.size := by omega
  have hne2 : ¬ g = w.heap.size + 1 := by omega
  have hne3 : ¬ w.heap.size = g := by omega
  have hne4 : ¬ w.heap.size + 1 = g := by omega
  clear hB
  go_enter Tryd.func97, Tryd.ntmps97
  go_wp2_with fail
  refine bodyPost_ret (v := .agg #[.int .i64 (v + 1), .int .i64 (s + data), .string kind]) (by simp [results, Tryd.results97, go_sem]) rfl ?_
  refine ⟨rfl, ?_, ?_⟩
  · exact ((((HB.out.set_ 0 (.int .i64 (v + 1))).set_ 1 (.int .i64 (s + data))).set_ 2 (.string kind)).alloc _).alloc _
  · exact (((((grow_self w ⟨g, 0, none⟩ (.int .i64 (v + 1))).trans (grow_self _ ⟨g, 1, none⟩ (.int .i64 (s + data)))).trans (grow_self _ ⟨g, 2, none⟩ (.string kind))).trans (World.grownBy_alloc _ _ _)).trans (World.grownBy_alloc _ _ _))

theorem folder_any (v s : Int) (l : ByteArray) (w : World) :
    Calls Tryd.prog 85 #[.agg #[.int .i64 v, .int .i64 s, .string l]] w fun e w' => e = .returned (.func (.func 97) #[] #[.pointer (some ⟨w.heap.size, 0, none⟩)]) ∧ w' = w.alloc (.cells #[.int .i64 v, .int .i64 s, .string l] 50) := by
  go_enter Tryd.func85, Tryd.ntmps85
  go_wp2_with fail
  go_ret
  exact ⟨rfl, rfl⟩

/-- a fold that goes on with events, if all is valid. -/
def foldMore (f : Fd) (es : List Ev) : Fd × Bool := if (foldOk f && evsOk es) && foldOk (foldOn f es) then (foldOn f es, true) else (foldZero, false)
theorem foldMore_no {f : Fd} {es : List Ev} (h : ((foldOk f && evsOk es) && foldOk (foldOn f es)) = false) : foldMore f es = (foldZero, false) := by unfold foldMore; rw [h]; rfl
theorem foldMore_yes {f : Fd} {es : List Ev} (h : ((foldOk f && evsOk es) && foldOk (foldOn f es)) = true) : foldMore f es = (foldOn f es, true) := by unfold foldMore; rw [h]; rfl
def FdRet (p : Fd × Bool) (w : World) (e : Ending) (w' : World) : Prop := e = .returned (.tuple #[.agg (fdCells p.1), .bool p.2]) ∧ Below w.heap.size w w'
set_option maxRecDepth 100000 in
set_option maxHeartbeats 8000000 in
theorem foldOn_any (ver sum : Int) (last : ByteArray) (A : Option Addr) (m d : Nat) (es : List Ev) (w : World) (h : Row evCells 3 w w.heap.size A m es) (hE : ∀ e ∈ es, EvB e) (hf : FdS ⟨ver, sum, last⟩) (hm : m ≤ 1000) (hmd : m ≤ d) :
    Calls Tryd.prog 63 #[.agg #[.int .i64 ver, .int .i64 sum, .string last], .slice A m d] w (FdRet (foldMore ⟨ver, sum, last⟩ es) w) := by
  have Hl := Lib.hid h.1
  have H := Lib.hid h
  have HE := Lib.hid hE
  have HF := Lib.hid hf
  have hb0 : Below w.heap.size w ((w.alloc (.cells #[.int .i64 ver, .int .i64 sum, .string last] 50)).alloc (.cells #[.int .i64 0, .int .i64 0, .string ⟨#[]⟩] 50)) := ((Below.refl _ _).alloc (Nat.le_refl _) _).alloc (by simp) _
  have L : Live ((w.alloc (.cells #[.int .i64 ver, .int .i64 sum, .string last] 50)).alloc (.cells #[.int .i64 0, .int .i64 0, .string ⟨#[]⟩] 50)) fun W => ((Below w.heap.size w W ∧ Row evCells 3 W W.heap.size A m es) ∧ Blk W w.heap.size 50 #[.int .i64 ver, .int .i64 sum, .string last]) ∧ Blk W (w.heap.size + 1) 50 #[.int .i64 0, .int .i64 0, .string ⟨#[]⟩] :=
    (((Live.since hb0).and (Live.row (h.next hb0))).and (Live.blk ((Blk.new w _ _).alloc _))).and (Live.blk (by have := Blk.new (w.alloc (.cells #[.int .i64 ver, .int .i64 sum, .string last] 50)) 50 #[.int .i64 0, .int .i64 0, .string ⟨#[]⟩]; simpa using this))
  have FV := Lib.hid (fun W => foldValid_any ver sum last W hf.big)
  have EV := Lib.hid (fun W H => eventsValid_any A m d es W H (fun e he => small60 (hE e he).1) hmd (by omega))
  clear h hE hf hb0
  cases hok : foldOk ⟨ver, sum, last⟩ with
  | false =>
    have Hr := Lib.hid (foldMore_no (f := ⟨ver, sum, last⟩) (es := es) (by rw [hok]; rfl))
    rw [hok] at FV
    go_enter Tryd.func63, Tryd.ntmps63
    go_wp2_with (go_at_call 62; refine (FV.out _).mono ?_; rintro e w1 ⟨rfl, hb1⟩; have L1 := L.next hb1; have z0 := L1.now.2.cell 0; have z1 := L1.now.2.cell 1; have z2 := L1.now.2.cell 2; have y0 := L1.now.2.frozen 0; have y1 := L1.now.2.frozen 1; have y2 := L1.now.2.frozen 2)
    refine bodyPost_ret (v := .tuple #[.agg #[.int .i64 0, .int .i64 0, .string ⟨#[]⟩], .bool false]) (by simp [results, Tryd.results63, go_sem, z0, z1, z2]) rfl ?_
    rw [Hr.out]
    exact ⟨rfl, ((L1.now.1.1.1.setCell (p := ⟨w.heap.size + 1, 0, none⟩) (Nat.le_succ _) _).setCell (p := ⟨w.heap.size + 1, 1, none⟩) (Nat.le_succ _) _).setCell (p := ⟨w.heap.size + 1, 2, none⟩) (Nat.le_succ _) _⟩
  | true =>
    rw [hok] at FV
    cases hev : evsOk es with
    | false =>
      have Hr := Lib.hid (foldMore_no (f := ⟨ver, sum, last⟩) (es := es) (by rw [hev]; simp))
      rw [hev] at EV
      go_enter Tryd.func63, Tryd.ntmps63
      go_wp2_with (first
        | (go_at_call 62; refine (FV.out _).mono ?_; rintro e w1 ⟨rfl, hb1⟩; have L1 := L.next hb1)
        | (go_at_call 79; refine (EV.out _ L1.now.1.1.2).mono ?_; rintro e w2 ⟨rfl, hb2⟩; have L2 := L1.next hb2; have z0 := L2.now.2.cell 0; have z1 := L2.now.2.cell 1; have z2 := L2.now.2.cell 2; have y0 := L2.now.2.frozen 0; have y1 := L2.now.2.frozen 1; have y2 := L2.now.2.frozen 2))
      refine bodyPost_ret (v := .tuple #[.agg #[.int .i64 0, .int .i64 0, .string ⟨#[]⟩], .bool false]) (by simp [results, Tryd.results63, go_sem, z0, z1, z2]) rfl ?_
      rw [Hr.out]
      exact ⟨rfl, ((L2.now.1.1.1.setCell (p := ⟨w.heap.size + 1, 0, none⟩) (Nat.le_succ _) _).setCell (p := ⟨w.heap.size + 1, 1, none⟩) (Nat.le_succ _) _).setCell (p := ⟨w.heap.size + 1, 2, none⟩) (Nat.le_succ _) _⟩
    | true =>
      rw [hev] at EV
      go_enter Tryd.func63, Tryd.ntmps63
      go_wp2_with (first
        | (go_at_call 62; refine (FV.out _).mono ?_; rintro e w1 ⟨rfl, hb1⟩; have L1 := L.next hb1)
        | (go_at_call 79; refine (EV.out _ L1.now.1.1.2).mono ?_; rintro e w2 ⟨rfl, hb2⟩; have L2 := L1.next hb2; have x0 := L2.now.1.2.cell 0; have x1 := L2.now.1.2.cell 1; have x2 := L2.now.1.2.cell 2)
        | (go_at_call 85; refine (folder_any ver sum last _).mono ?_; rintro e w3 ⟨rfl, rfl⟩))
      have hgf := L2.now.2.lt
      have hba : Below w2.heap.size w2 (w2.alloc (.cells #[.int .i64 ver, .int .i64 sum, .string last] 50)) := (Below.refl _ _).alloc (Nat.le_refl _) _
      have LA := L2.next hba
      have BG := Lib.hid (Blk.new w2 50 #[.int .i64 ver, .int .i64 sum, .string last])
      obtain ⟨gf, hg0⟩ : ∃ gf, gf = w2.heap.size := ⟨_, rfl⟩
      rw [← hg0] at BG hgf ⊢
      have Hg0 := Lib.hid hg0
      have hg1 : gf ≠ w.heap.size := by omega
      have hg2 : gf ≠ w.heap.size + 1 := by omega
      have hg3 : w.heap.size ≤ gf := by omega
      clear x0 x1 x2 hb1 hb2 hba hg0
      generalize w2.alloc (.cells #[.int .i64 ver, .int .i64 sum, .string last] 50) = wa at *
      go_loopw [22] (fun i wr => ∃ k : Nat, k ≤ m ∧ i = .int .i64 k ∧ Hid (Blk wr w.heap.size 50 (fdCells (foldOn ⟨ver, sum, last⟩ (es.take k)))) ∧ Hid (Blk wr (w.heap.size + 1) 50 #[.int .i64 0, .int .i64 0, .string ⟨#[]⟩]) ∧ Hid (Blk wr gf 50 (fdCells (foldOn ⟨ver, sum, last⟩ (es.take k)))) ∧ Hid (Below w.heap.size w wr)) (fun i _ => m - (intOf i).toNat)
      case atStart => exact ⟨0, Nat.zero_le _, rfl, Lib.hid LA.now.1.2, Lib.hid LA.now.2, BG, Lib.hid LA.now.1.1.1⟩
      case round =>
        obtain ⟨k, hk, rfl, HB, HZ, HG, HW⟩ := hrel
        by_cases hlt : k < m
        · have hlt' : (k : Int) < (m : Int) := by omega
          obtain ⟨b, off, rfl, hb, hx⟩ := H.out.ev_at (by omega)
          have hs : es[k]? = some (nx es k) := nx_get (by rw [Hl.out]; exact hlt)
          have hee := HE.out _ (List.mem_of_getElem? hs)
          have hsn := foldOn_snoc ⟨ver, sum, last⟩ es k (by rw [Hl.out]; exact hlt)
          have hbd := foldOn_B (es := es.take k) (fun e he => HE.out e (List.mem_of_mem_take he)) HF.out
          rw [List.length_take, Hl.out, Nat.min_eq_left hk] at hbd
          obtain ⟨⟨v, s, l⟩, hF⟩ : ∃ F, foldOn ⟨ver, sum, last⟩ (es.take k) = F := ⟨_, rfl⟩
          rw [hF] at HB HG hsn hbd
          obtain ⟨⟨id, kind, data⟩, he⟩ : ∃ e, nx es k = e := ⟨_, rfl⟩
          rw [he] at hs hee hsn
          obtain ⟨q1, q2, q3, q4, q5⟩ := hee
          obtain ⟨p1, p2, p3, p4⟩ := hbd
          obtain ⟨r1, r2, r3, r4, r5⟩ := HF.out
          simp only at q1 q2 q3 q4 q5 p1 p2 p3 p4 r1 r2 r3 r4 r5
          obtain ⟨c0, c1, c2⟩ := (hx k _ hs).below HW.out hb
          have hne : ¬ b = w.heap.size := by omega
          have g1 : -20000 ≤ v ∧ v ≤ 20000 := by omega
          have g2 : -11000000000 ≤ s ∧ s ≤ 11000000000 := by omega
          have FD : Hid (∀ W, Blk W gf 50 #[.int .i64 v, .int .i64 s, .string l] → Calls Tryd.prog 97 #[.agg #[.int .i64 id, .string kind, .int .i64 data], .pointer (some ⟨gf, 0, none⟩)] W fun e w' => e = .returned (.agg #[.int .i64 (v + 1), .int .i64 (s + data), .string kind]) ∧ Blk w' gf 50 #[.int .i64 (v + 1), .int .i64 (s + data), .string kind] ∧ W.grownBy w' (some gf)) := Lib.hid (fun W H => folder1_any gf v s l id kind data W H g1.1 g1.2 g2.1 g2.2 q4 q5)
          have Hsn := Lib.hid hsn
          clear hsn hs hx hF he p1 p2 p3 p4 r1 r2 r3 r4 r5 q1 q2 q3 g1 g2 LA
          go_wp2_with (go_at_call 97; refine (FD.out _ (HG.out.alloc _)).mono ?_; rintro e w5 ⟨rfl, B5, g5⟩; have KB := Lib.hid ((HB.out.alloc _).grown g5 (fun e => hg1 (Option.some.inj e).symm)); have KZ := Lib.hid ((HZ.out.alloc _).grown g5 (fun e => hg2 (Option.some.inj e).symm)); have KW := Lib.hid (grow_own g5 (HW.out.alloc HW.out.size _) (by simp; have := HW.out.size; omega) hg3); have d0 := (show w5.cell? ⟨w.heap.size, 0, none⟩ = some (.int .i64 v) from KB.out.cell 0); have d1 := (show w5.cell? ⟨w.heap.size, 1, none⟩ = some (.int .i64 s) from KB.out.cell 1); have d2 := (show w5.cell? ⟨w.heap.size, 2, none⟩ = some (.string l) from KB.out.cell 2); have f0 := KB.out.frozen 0; have f1 := KB.out.frozen 1; have f2 := KB.out.frozen 2)

          go_roundw
          case rel => exact ⟨k + 1, by omega, by go_num, Lib.hid (by rw [Hsn.out]; exact ((KB.out.set_ 0 (.int .i64 (v + 1))).set_ 1 (.int .i64 (s + data))).set_ 2 (.string kind)), Lib.hid (((KZ.out.far (p := ⟨w.heap.size, 0, none⟩) (show w.heap.size + 1 ≠ w.heap.size by omega) (.int .i64 (v + 1))).far (p := ⟨w.heap.size, 1, none⟩) (show w.heap.size + 1 ≠ w.heap.size by omega) (.int .i64 (s + data))).far (p := ⟨w.heap.size, 2, none⟩) (show w.heap.size + 1 ≠ w.heap.size by omega) (.string kind)), Lib.hid (by rw [Hsn.out]; exact ((B5.far (p := ⟨w.heap.size, 0, none⟩) hg1 (.int .i64 (v + 1))).far (p := ⟨w.heap.size, 1, none⟩) hg1 (.int .i64 (s + data))).far (p := ⟨w.heap.size, 2, none⟩) hg1 (.string kind)), Lib.hid (((KW.out.setCell (p := ⟨w.heap.size, 0, none⟩) (Nat.le_refl _) (.int .i64 (v + 1))).setCell (p := ⟨w.heap.size, 1, none⟩) (Nat.le_refl _) (.int .i64 (s + data))).setCell (p := ⟨w.heap.size, 2, none⟩) (Nat.le_refl _) (.string kind))⟩
          case measure => simp [intOf]; omega
        · obtain rfl : k = m := by omega
          have hlt' : ¬ (k : Int) < (k : Int) := by omega
          have htk : es.take k = es := by rw [← Hl.out]; exact List.take_length
          rw [htk] at HB
          have hbd := foldOn_B (es := es) (fun e he => HE.out e he) HF.out
          rw [Hl.out] at hbd
          obtain ⟨⟨v, s, l⟩, hF⟩ : ∃ F, foldOn ⟨ver, sum, last⟩ es = F := ⟨_, rfl⟩
          rw [hF] at HB hbd
          obtain ⟨p1, p2, p3, p4⟩ := hbd
          obtain ⟨r1, r2, r3, r4, r5⟩ := HF.out
          simp only at p1 p2 p3 p4 r1 r2 r3 r4 r5
          have FZ := Lib.hid (fun W => foldValid_any v s l W ⟨show -1000000 ≤ v by omega, show v ≤ 1000000 by omega, show -100000000000 ≤ s by omega, show s ≤ 100000000000 by omega, small60 p4⟩)
          have d0 : wr.cell? ⟨w.heap.size, 0, none⟩ = some (.int .i64 v) := HB.out.cell 0
          have d1 : wr.cell? ⟨w.heap.size, 1, none⟩ = some (.int .i64 s) := HB.out.cell 1
          have d2 : wr.cell? ⟨w.heap.size, 2, none⟩ = some (.string l) := HB.out.cell 2
          have KL : Live wr fun W => (Below w.heap.size w W ∧ Blk W (w.heap.size + 1) 50 #[.int .i64 0, .int .i64 0, .string ⟨#[]⟩]) ∧ Blk W w.heap.size 50 #[.int .i64 v, .int .i64 s, .string l] := ((Live.since HW.out).and (Live.blk HZ.out)).and (Live.blk HB.out)
          cases hfo : foldOk ⟨v, s, l⟩ with
          | false =>
            have Hr := Lib.hid (foldMore_no (f := ⟨ver, sum, last⟩) (es := es) (by rw [hF, hfo]; simp))
            rw [hfo] at FZ
            clear hF htk p1 p2 p3 p4 r1 r2 r3 r4 r5 LA
            go_wp2_with (go_at_call 62; refine (FZ.out _).mono ?_; rintro e w6 ⟨rfl, hb6⟩; have L6 := KL.next hb6; have z0 := L6.now.1.2.cell 0; have z1 := L6.now.1.2.cell 1; have z2 := L6.now.1.2.cell 2; have y0 := L6.now.1.2.frozen 0; have y1 := L6.now.1.2.frozen 1; have y2 := L6.now.1.2.frozen 2)
            refine bodyPost_ret (v := .tuple #[.agg #[.int .i64 0, .int .i64 0, .string ⟨#[]⟩], .bool false]) (by simp [results, Tryd.results63, go_sem, z0, z1, z2]) rfl ?_
            rw [Hr.out]
            exact ⟨rfl, ((L6.now.1.1.setCell (p := ⟨w.heap.size + 1, 0, none⟩) (Nat.le_succ _) _).setCell (p := ⟨w.heap.size + 1, 1, none⟩) (Nat.le_succ _) _).setCell (p := ⟨w.heap.size + 1, 2, none⟩) (Nat.le_succ _) _⟩
          | true =>
            have Hr := Lib.hid (foldMore_yes (f := ⟨ver, sum, last⟩) (es := es) (by rw [hF, hfo, hok, hev]; rfl))
            rw [hF] at Hr
            rw [hfo] at FZ
            clear hF htk p1 p2 p3 p4 r1 r2 r3 r4 r5 LA
            go_wp2_with (go_at_call 62; refine (FZ.out _).mono ?_; rintro e w6 ⟨rfl, hb6⟩; have L6 := KL.next hb6; have x0 := L6.now.2.cell 0; have x1 := L6.now.2.cell 1; have x2 := L6.now.2.cell 2; have z0 := L6.now.1.2.cell 0; have z1 := L6.now.1.2.cell 1; have z2 := L6.now.1.2.cell 2; have y0 := L6.now.1.2.frozen 0; have y1 := L6.now.1.2.frozen 1; have y2 := L6.now.1.2.frozen 2)
            refine bodyPost_ret (v := .tuple #[.agg #[.int .i64 v, .int .i64 s, .string l], .bool true]) (by simp [results, Tryd.results63, go_sem, z0, z1, z2]) rfl ?_
            rw [Hr.out]
            exact ⟨rfl, ((L6.now.1.1.setCell (p := ⟨w.heap.size + 1, 0, none⟩) (Nat.le_succ _) _).setCell (p := ⟨w.heap.size + 1, 1, none⟩) (Nat.le_succ _) _).setCell (p := ⟨w.heap.size + 1, 2, none⟩) (Nat.le_succ _) _⟩
end Go.Proofs.YtbcfbkcadceniaaDoor
