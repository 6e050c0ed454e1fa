/- Folds of streams: the program's. -/
import Derived.Test.YtbcfbkcadceniaaDoorFoldO
import Derived.Test.YtbcfbkcadceniaaDoorReads2
import Derived.Test.YtbcfbkcadceniaaDoorDrawIn
namespace Go.Proofs.YtbcfbkcadceniaaDoor
set_option linter.unusedVariables false
set_option linter.unusedSimpArgs false
open Go.RowKit

theorem evsOk_drop {es : List Ev} (h : evsOk es = true) (k : Nat) : evsOk (es.drop k) = true := by
  obtain ⟨h1, h2, h3⟩ := evsOk_iff.1 h
  exact evsOk_iff.2 ⟨by rw [List.length_drop]; omega, fun e he => h2 e (List.mem_of_mem_drop he), h3.sublist (List.drop_sublist _ _)⟩
theorem foldMore_drop {xs : List En} {s : ByteArray} {f : Fd} (h1 : storeOk xs = true) (h2 : foldOk f = true) (k : Nat) : foldMore f ((streamOf xs s).drop k) = if foldOk (foldOn f ((streamOf xs s).drop k)) then (foldOn f ((streamOf xs s).drop k), true) else (foldZero, false) := by
  unfold foldMore
  rw [h2, evsOk_drop ((storeOk_streams.1 h1).2.2 s) k]; rfl
theorem storeRead_drop {xs : List En} {s : ByteArray} {v : Int} (h1 : storeOk xs = true) (h2 : nameOk s.data.toList = true) (hv : -1 ≤ v ∧ v ≤ 23) : storeRead xs s (v + 1) 99 = (streamOf xs s).drop (v + 1).toNat := by
  have hl := stream_24 (s := s) h1
  rw [storeRead_yes h1 h2 (rdOk_iff.2 (by omega))]
  show ((streamOf xs s).drop (v + 1).toNat).take (99 : Int).toNat = _
  exact List.take_of_length_le (by rw [List.length_drop, show (99 : Int).toNat = 99 from rfl]; omega)
set_option maxRecDepth 100000 in
set_option maxHeartbeats 4000000 in
theorem foldOf_any (A : Option Addr) (m d : Nat) (es : List Ev) (w : World) (h : Row evCells 3 w w.heap.size A m es) (hE : ∀ e ∈ es, EvB e) (hm : m ≤ 1000) (hmd : m ≤ d) :
    Calls Tryd.prog 34 #[.slice A m d] w (FdRet (foldMore foldNone es) w) := by
  have hba : Below w.heap.size w (w.alloc (.cells #[.int .i64 0, .int .i64 0, .string ⟨#[]⟩] 50)) := (Below.refl _ _).alloc (Nat.le_refl _) _
  have L : Live (w.alloc (.cells #[.int .i64 0, .int .i64 0, .string ⟨#[]⟩] 50)) fun W => (Below w.heap.size w W ∧ Row evCells 3 W W.heap.size A m es) ∧ Blk W w.heap.size 50 #[.int .i64 0, .int .i64 0, .string ⟨#[]⟩] := ((Live.since hba).and (Live.row (h.next hba))).and (Live.blk (Blk.new w _ _))
  have FO := Lib.hid (foldOn_any (-1) 0 ⟨#[]⟩ A m d es _ L.now.1.2 hE ⟨show (-10000 : Int) ≤ -1 by omega, show (-1 : Int) ≤ 10000 by omega, show (-10000000000 : Int) ≤ 0 by omega, show (0 : Int) ≤ 10000000000 by omega, Nat.zero_le _⟩ hm hmd)
  rw [show (⟨-1, 0, ⟨#[]⟩⟩ : Fd) = foldNone from rfl] at FO
  obtain ⟨⟨⟨v, s, l⟩, ok⟩, hp⟩ : ∃ p, foldMore foldNone es = p := ⟨_, rfl⟩
  rw [hp] at FO ⊢
  clear h hE hba hp
  go_enter Tryd.func34, Tryd.ntmps34
  go_wp2_with (go_at_call 63; refine FO.out.mono ?_; rintro e w1 ⟨rfl, hb1⟩; unfold fdCells; have L1 := L.next hb1; have z0 := L1.now.2.cell 0; have z1 := L1.now.2.cell 1; have z2 := L1.now.2.cell 2; have y0 := L1.now.2.frozen 0; have y1 := L1.now.2.frozen 1; have y2 := L1.now.2.frozen 2)
  refine bodyPost_ret (v := .tuple #[.agg #[.int .i64 v, .int .i64 s, .string l], .bool ok]) (by simp [results, Tryd.results34, go_sem, z0, z1, z2]) rfl ?_
  exact ⟨rfl, ((L1.now.1.1.setCell (p := ⟨w.heap.size, 0, none⟩) (Nat.le_refl _) _).setCell (p := ⟨w.heap.size, 1, none⟩) (Nat.le_refl _) _).setCell (p := ⟨w.heap.size, 2, none⟩) (Nat.le_refl _) _⟩

def FsRet (p : Fd × Int × Bool) (w : World) (e : Ending) (w' : World) : Prop := e = .returned (.tuple #[.agg (fdCells p.1), .int .i64 p.2.1, .bool p.2.2]) ∧ Below w.heap.size w w'
theorem foldGood_ver {xs : List En} {s : ByteArray} {f : Fd} (h1 : storeOk xs = true) (h2 : nameOk s.data.toList = true) (h : storeVersion xs s < f.ver) : foldGood xs s f = false := by
  rw [storeVersion_yes h1 h2] at h
  unfold foldGood
  rw [decide_eq_false (p := f.ver + 1 ≤ (streamOf xs s).length) (by omega)]; simp
set_option maxRecDepth 100000 in
set_option maxHeartbeats 8000000 in
theorem foldStream_any (A : Option Addr) (n c : Nat) (xs : List En) (s : ByteArray) (ver sum : Int) (last : ByteArray) (w : World) (h : Row enCells 4 w w.heap.size A n xs) (hE : ∀ x ∈ xs, EnB x) (hs : s.size ≤ maxLen) (hf : FdS ⟨ver, sum, last⟩) (hnb : n ≤ 1000) (hg : GE w) :
    Calls Tryd.prog 30 #[.slice A n c, .string s, .agg #[.int .i64 ver, .int .i64 sum, .string last]] w (FsRet (foldStream xs s ⟨ver, sum, last⟩) w) := by
  have Hl := Lib.hid h.1
  have HE := Lib.hid hE
  have HF := Lib.hid hf
  have Hsl := Lib.hid (streamOf_len xs s)
  have hb0 : Below w.heap.size w ((w.alloc (.cells #[.int .i64 ver, .int .i64 sum, .string last] 50)).alloc (.cells #[.int .i64 0, .int .i64 0, .string ⟨#[]⟩] 50)) := ((Below.refl _ _).alloc (Nat.le_refl _) _).alloc (by simp) _
  have L : Live ((w.alloc (.cells #[.int .i64 ver, .int .i64 sum, .string last] 50)).alloc (.cells #[.int .i64 0, .int .i64 0, .string ⟨#[]⟩] 50)) fun W => (((Below w.heap.size w W ∧ GE W) ∧ Row enCells 4 W W.heap.size A n xs) ∧ Blk W w.heap.size 50 #[.int .i64 ver, .int .i64 sum, .string last]) ∧ Blk W (w.heap.size + 1) 50 #[.int .i64 0, .int .i64 0, .string ⟨#[]⟩] :=
    ((((Live.since hb0).and (Live.ge (hg.below hb0))).and (Live.row (h.next hb0))).and (Live.blk ((Blk.new w _ _).alloc _))).and (Live.blk (by have := Blk.new (w.alloc (.cells #[.int .i64 ver, .int .i64 sum, .string last] 50)) 50 #[.int .i64 0, .int .i64 0, .string ⟨#[]⟩]; simpa using this))
  have C1 := fun x : On ((w.alloc (.cells #[.int .i64 ver, .int .i64 sum, .string last] 50)).alloc (.cells #[.int .i64 0, .int .i64 0, .string ⟨#[]⟩] 50)) => storeValid_any A n c xs x.W (L.next x.below).now.1.1.2 (EnB.small hE) (by omega) (L.next x.below).now.1.1.1.2
  have C2 := fun x : On ((w.alloc (.cells #[.int .i64 ver, .int .i64 sum, .string last] 50)).alloc (.cells #[.int .i64 0, .int .i64 0, .string ⟨#[]⟩] 50)) => nameValid_any s x.W hs (L.next x.below).now.1.1.1.2
  have C3 := fun x : On ((w.alloc (.cells #[.int .i64 ver, .int .i64 sum, .string last] 50)).alloc (.cells #[.int .i64 0, .int .i64 0, .string ⟨#[]⟩] 50)) => foldValid_any ver sum last x.W hf.big
  have C4 := fun x : On ((w.alloc (.cells #[.int .i64 ver, .int .i64 sum, .string last] 50)).alloc (.cells #[.int .i64 0, .int .i64 0, .string ⟨#[]⟩] 50)) => storeVersion_any A n c xs s x.W (L.next x.below).now.1.1.2 (EnB.small hE) hs (by omega) (L.next x.below).now.1.1.1.2
  have b0 := fun x : On ((w.alloc (.cells #[.int .i64 ver, .int .i64 sum, .string last] 50)).alloc (.cells #[.int .i64 0, .int .i64 0, .string ⟨#[]⟩] 50)) => (show x.W.cell? ⟨w.heap.size, 0, none⟩ = some (.int .i64 ver) from (L.next x.below).now.1.2.cell 0)
  have b1 := fun x : On ((w.alloc (.cells #[.int .i64 ver, .int .i64 sum, .string last] 50)).alloc (.cells #[.int .i64 0, .int .i64 0, .string ⟨#[]⟩] 50)) => (show x.W.cell? ⟨w.heap.size, 1, none⟩ = some (.int .i64 sum) from (L.next x.below).now.1.2.cell 1)
  have b2 := fun x : On ((w.alloc (.cells #[.int .i64 ver, .int .i64 sum, .string last] 50)).alloc (.cells #[.int .i64 0, .int .i64 0, .string ⟨#[]⟩] 50)) => (show x.W.cell? ⟨w.heap.size, 2, none⟩ = some (.string last) from (L.next x.below).now.1.2.cell 2)
  clear h hE hb0
  cases h1 : storeOk xs with
  | false =>
    have Hr := Lib.hid (foldStream_no (xs := xs) (s := s) (f := ⟨ver, sum, last⟩) (by rw [show foldGood xs s ⟨ver, sum, last⟩ = false from by unfold foldGood; rw [h1]; rfl]; rfl))
    rw [h1] at C1
    have V1 := Lib.hid C1
    have V2 := Lib.hid C2
    have V3 := Lib.hid C3
    have V4 := Lib.hid C4
    clear C1 C2 C3 C4
    go_enter Tryd.func30, Tryd.ntmps30
    go_wp2_with fail
    refine wp_region_on (by kernel_rfl) (by kernel_rfl) ?_
    repeat (go_big_quiet_step (first
      | (go_at_call 46; exact On.calls (V1.out _))
      | (go_at_call 53; exact On.calls (V2.out _))
      | (go_at_call 62; exact On.calls (V3.out _))
      | (go_at_call 32; exact On.calls (V4.out _))))
    refine wpQuiet_nil ?_
    intro _ hw'
    obtain ⟨⟨w2, hb2⟩, hw''⟩ := hw'
    subst hw''
    have L2 := L.next hb2
    have z0 := L2.now.2.cell 0
    have z1 := L2.now.2.cell 1
    have z2 := L2.now.2.cell 2
    have y0 := L2.now.2.frozen 0
    have y1 := L2.now.2.frozen 1
    have y2 := L2.now.2.frozen 2
    go_wp2_with fail
    refine bodyPost_ret (v := .tuple #[.agg #[.int .i64 0, .int .i64 0, .string ⟨#[]⟩], .int .i64 0, .bool false]) (by simp [results, Tryd.results30, go_sem, z0, z1, z2]) rfl ?_
    rw [Hr.out]
    exact ⟨rfl, ((L2.now.1.1.1.1.setCell (p := ⟨w.heap.size + 1, 0, none⟩) (Nat.le_succ _) _).setCell (p := ⟨w.heap.size + 1, 1, none⟩) (Nat.le_succ _) _).setCell (p := ⟨w.heap.size + 1, 2, none⟩) (Nat.le_succ _) _⟩
  | true =>
    rw [h1] at C1
    cases h2 : nameOk s.data.toList with
    | false =>
      have Hr := Lib.hid (foldStream_no (xs := xs) (s := s) (f := ⟨ver, sum, last⟩) (by rw [show foldGood xs s ⟨ver, sum, last⟩ = false from by unfold foldGood; rw [h2]; simp]; rfl))
      rw [h2] at C2
      have V1 := Lib.hid C1
      have V2 := Lib.hid C2
      have V3 := Lib.hid C3
      have V4 := Lib.hid C4
      clear C1 C2 C3 C4
      go_enter Tryd.func30, Tryd.ntmps30
      go_wp2_with fail
      refine wp_region_on (by kernel_rfl) (by kernel_rfl) ?_
      repeat (go_big_quiet_step (first
        | (go_at_call 46; exact On.calls (V1.out _))
        | (go_at_call 53; exact On.calls (V2.out _))
        | (go_at_call 62; exact On.calls (V3.out _))
        | (go_at_call 32; exact On.calls (V4.out _))))
      refine wpQuiet_nil ?_
      intro _ hw'
      obtain ⟨⟨w2, hb2⟩, hw''⟩ := hw'
      subst hw''
      have L2 := L.next hb2
      have z0 := L2.now.2.cell 0
      have z1 := L2.now.2.cell 1
      have z2 := L2.now.2.cell 2
      have y0 := L2.now.2.frozen 0
      have y1 := L2.now.2.frozen 1
      have y2 := L2.now.2.frozen 2
      go_wp2_with fail
      refine bodyPost_ret (v := .tuple #[.agg #[.int .i64 0, .int .i64 0, .string ⟨#[]⟩], .int .i64 0, .bool false]) (by simp [results, Tryd.results30, go_sem, z0, z1, z2]) rfl ?_
      rw [Hr.out]
      exact ⟨rfl, ((L2.now.1.1.1.1.setCell (p := ⟨w.heap.size + 1, 0, none⟩) (Nat.le_succ _) _).setCell (p := ⟨w.heap.size + 1, 1, none⟩) (Nat.le_succ _) _).setCell (p := ⟨w.heap.size + 1, 2, none⟩) (Nat.le_succ _) _⟩
    | true =>
      rw [h2] at C2
      cases h3 : foldOk ⟨ver, sum, last⟩ with
      | false =>
        have Hr := Lib.hid (foldStream_no (xs := xs) (s := s) (f := ⟨ver, sum, last⟩) (by rw [show foldGood xs s ⟨ver, sum, last⟩ = false from by unfold foldGood; rw [h3]; simp]; rfl))
        rw [h3] at C3
        have V1 := Lib.hid C1
        have V2 := Lib.hid C2
        have V3 := Lib.hid C3
        have V4 := Lib.hid C4
        clear C1 C2 C3 C4
        go_enter Tryd.func30, Tryd.ntmps30
        go_wp2_with fail
        refine wp_region_on (by kernel_rfl) (by kernel_rfl) ?_
        repeat (go_big_quiet_step (first
          | (go_at_call 46; exact On.calls (V1.out _))
          | (go_at_call 53; exact On.calls (V2.out _))
          | (go_at_call 62; exact On.calls (V3.out _))
          | (go_at_call 32; exact On.calls (V4.out _))))
        refine wpQuiet_nil ?_
        intro _ hw'
        obtain ⟨⟨w2, hb2⟩, hw''⟩ := hw'
        subst hw''
        have L2 := L.next hb2
        have z0 := L2.now.2.cell 0
        have z1 := L2.now.2.cell 1
        have z2 := L2.now.2.cell 2
        have y0 := L2.now.2.frozen 0
        have y1 := L2.now.2.frozen 1
        have y2 := L2.now.2.frozen 2
        go_wp2_with fail
        refine bodyPost_ret (v := .tuple #[.agg #[.int .i64 0, .int .i64 0, .string ⟨#[]⟩], .int .i64 0, .bool false]) (by simp [results, Tryd.results30, go_sem, z0, z1, z2]) rfl ?_
        rw [Hr.out]
        exact ⟨rfl, ((L2.now.1.1.1.1.setCell (p := ⟨w.heap.size + 1, 0, none⟩) (Nat.le_succ _) _).setCell (p := ⟨w.heap.size + 1, 1, none⟩) (Nat.le_succ _) _).setCell (p := ⟨w.heap.size + 1, 2, none⟩) (Nat.le_succ _) _⟩
      | true =>
        rw [h3] at C3
        by_cases h4 : storeVersion xs s < ver
        ·
          have Hr := Lib.hid (foldStream_no (xs := xs) (s := s) (f := ⟨ver, sum, last⟩) (by rw [show foldGood xs s ⟨ver, sum, last⟩ = false from foldGood_ver h1 h2 h4]; rfl))
          have hd : decide (storeVersion xs s < ver) = true := decide_eq_true h4
          have V1 := Lib.hid C1
          have V2 := Lib.hid C2
          have V3 := Lib.hid C3
          have V4 := Lib.hid C4
          clear C1 C2 C3 C4
          go_enter Tryd.func30, Tryd.ntmps30
          go_wp2_with fail
          refine wp_region_on (by kernel_rfl) (by kernel_rfl) ?_
          repeat (go_big_quiet_step (first
            | (go_at_call 46; exact On.calls (V1.out _))
            | (go_at_call 53; exact On.calls (V2.out _))
            | (go_at_call 62; exact On.calls (V3.out _))
            | (go_at_call 32; exact On.calls (V4.out _))))
          refine wpQuiet_nil ?_
          intro _ hw'
          obtain ⟨⟨w2, hb2⟩, hw''⟩ := hw'
          subst hw''
          have L2 := L.next hb2
          have z0 := L2.now.2.cell 0
          have z1 := L2.now.2.cell 1
          have z2 := L2.now.2.cell 2
          have y0 := L2.now.2.frozen 0
          have y1 := L2.now.2.frozen 1
          have y2 := L2.now.2.frozen 2
          go_wp2_with fail
          refine bodyPost_ret (v := .tuple #[.agg #[.int .i64 0, .int .i64 0, .string ⟨#[]⟩], .int .i64 0, .bool false]) (by simp [results, Tryd.results30, go_sem, z0, z1, z2]) rfl ?_
          rw [Hr.out]
          exact ⟨rfl, ((L2.now.1.1.1.1.setCell (p := ⟨w.heap.size + 1, 0, none⟩) (Nat.le_succ _) _).setCell (p := ⟨w.heap.size + 1, 1, none⟩) (Nat.le_succ _) _).setCell (p := ⟨w.heap.size + 1, 2, none⟩) (Nat.le_succ _) _⟩
        ·
          have hd : decide (storeVersion xs s < ver) = false := decide_eq_false h4
          have hv := foldOk_ver h3
          simp only at hv
          have h5 : ver + 1 ≤ (streamOf xs s).length := by rw [storeVersion_yes h1 h2] at h4; omega
          have hg1 : foldGood xs s ⟨ver, sum, last⟩ = true := foldGood_iff.2 ⟨h1, h2, h3, h5⟩
          have hz := storeRead_drop (s := s) h1 h2 hv
          have hmo := foldMore_drop (s := s) h1 h3 (ver + 1).toNat
          have SR := Lib.hid (fun W H G => storeRead_any A n c xs s (ver + 1) 99 W H (EnB.small HE.out) hs (by omega) G)
          rw [hz] at SR
          have hzB : ∀ e ∈ (streamOf xs s).drop (ver + 1).toNat, EvB e := fun e he => stream_B HE.out e (List.mem_of_mem_drop he)
          have hzl : (((streamOf xs s).drop (ver + 1).toNat).length : Int) = (streamOf xs s).length - ver - 1 := by rw [List.length_drop]; omega
          have FO := Lib.hid (fun B m d W H hm hmd => foldOn_any ver sum last B m d _ W H hzB HF.out hm hmd)
          have Hlen := Lib.hid hzl
          have q1 : ver + 1 ≤ 24 := by omega
          have q2 : 0 ≤ ver + 1 := by omega
          cases h6 : foldOk (foldOn ⟨ver, sum, last⟩ ((streamOf xs s).drop (ver + 1).toNat)) with
          | false =>
            have Hr := Lib.hid (foldStream_no (xs := xs) (s := s) (f := ⟨ver, sum, last⟩) (by rw [hg1]; exact h6))
            rw [hmo, h6] at FO
            simp only [Bool.false_eq_true, if_false] at FO
            obtain ⟨⟨v', s', l'⟩, hF⟩ : ∃ F, foldZero = F := ⟨_, rfl⟩
            rw [hF] at FO
            clear hz hmo hzB hzl h1 h2 h3 h4 h5 h6 hg1 hF
            have V1 := Lib.hid C1
            have V2 := Lib.hid C2
            have V3 := Lib.hid C3
            have V4 := Lib.hid C4
            clear C1 C2 C3 C4
            go_enter Tryd.func30, Tryd.ntmps30
            go_wp2_with fail
            refine wp_region_on (by kernel_rfl) (by kernel_rfl) ?_
            repeat (go_big_quiet_step (first
              | (go_at_call 46; exact On.calls (V1.out _))
              | (go_at_call 53; exact On.calls (V2.out _))
              | (go_at_call 62; exact On.calls (V3.out _))
              | (go_at_call 32; exact On.calls (V4.out _))))
            refine wpQuiet_nil ?_
            intro _ hw'
            obtain ⟨⟨w2, hb2⟩, hw''⟩ := hw'
            subst hw''
            have L2 := L.next hb2
            have d0 := L2.now.1.2.cell 0
            go_wp2_with fail
            refine (SR.out _ L2.now.1.1.2 L2.now.1.1.1.2).mono ?_
            rintro e w5 ⟨A5, n5, c5, rfl, hr5, hc5, Hn5, hb5⟩
            have L5 := (L2.next hb5).and (Live.row hr5)
            have hn5 : n5 ≤ 1000 := by have := hr5.1; have := Hlen.out; have := Hsl.out; have := Hl.out; omega
            have e0 : w5.cell? ⟨w.heap.size, 0, none⟩ = some (.int .i64 ver) := L5.now.1.1.2.cell 0
            have e1 : w5.cell? ⟨w.heap.size, 1, none⟩ = some (.int .i64 sum) := L5.now.1.1.2.cell 1
            have e2 : w5.cell? ⟨w.heap.size, 2, none⟩ = some (.string last) := L5.now.1.1.2.cell 2
            clear hr5 hb5 d0
            go_wp2_with (go_at_call 63; refine (FO.out A5 n5 c5 _ L5.now.2 hn5 hc5).mono ?_; rintro e w6 ⟨rfl, hb6⟩; unfold fdCells; have L6 := L5.next hb6; have k0 := L6.now.1.2.lt; have k1 : ¬ w.heap.size + 1 = w6.heap.size := (by omega); have k2 : ¬ w6.heap.size = w.heap.size + 1 := (by omega); have z0 := L6.now.1.2.cell 0; have z1 := L6.now.1.2.cell 1; have z2 := L6.now.1.2.cell 2; have y0 := L6.now.1.2.frozen 0; have y1 := L6.now.1.2.frozen 1; have y2 := L6.now.1.2.frozen 2)
            have BZ := (((L6.now.1.2.set_ 0 (.int .i64 0)).set_ 1 (.int .i64 0)).set_ 2 (.string ⟨#[]⟩)).alloc (.cells #[.int .i64 v', .int .i64 s', .string l'] 50)
            have zz0 := BZ.cell 0
            have zz1 := BZ.cell 1
            have zz2 := BZ.cell 2
            refine bodyPost_ret (v := .tuple #[.agg #[.int .i64 0, .int .i64 0, .string ⟨#[]⟩], .int .i64 0, .bool false]) (by simp [results, Tryd.results30, go_sem, zz0, zz1, zz2]) rfl ?_
            rw [Hr.out]
            have hB := ((L6.now.1.1.1.1.1.setCell (p := ⟨w.heap.size + 1, 0, none⟩) (Nat.le_succ _) (.int .i64 0)).setCell (p := ⟨w.heap.size + 1, 1, none⟩) (Nat.le_succ _) (.int .i64 0)).setCell (p := ⟨w.heap.size + 1, 2, none⟩) (Nat.le_succ _) (.string ⟨#[]⟩)
            exact ⟨rfl, hB.alloc hB.size _⟩
          | true =>
            have Hr := Lib.hid (foldStream_yes (xs := xs) (s := s) (f := ⟨ver, sum, last⟩) (by rw [hg1]; exact h6))
            rw [hmo, h6] at FO
            obtain ⟨⟨v', s', l'⟩, hF⟩ : ∃ F, foldOn ⟨ver, sum, last⟩ ((streamOf xs s).drop (ver + 1).toNat) = F := ⟨_, rfl⟩
            rw [hF] at FO Hr
            clear hz hmo hzB hzl h1 h2 h3 h4 h5 h6 hg1 hF
            have V1 := Lib.hid C1
            have V2 := Lib.hid C2
            have V3 := Lib.hid C3
            have V4 := Lib.hid C4
            clear C1 C2 C3 C4
            go_enter Tryd.func30, Tryd.ntmps30
            go_wp2_with fail
            refine wp_region_on (by kernel_rfl) (by kernel_rfl) ?_
            repeat (go_big_quiet_step (first
              | (go_at_call 46; exact On.calls (V1.out _))
              | (go_at_call 53; exact On.calls (V2.out _))
              | (go_at_call 62; exact On.calls (V3.out _))
              | (go_at_call 32; exact On.calls (V4.out _))))
            refine wpQuiet_nil ?_
            intro _ hw'
            obtain ⟨⟨w2, hb2⟩, hw''⟩ := hw'
            subst hw''
            have L2 := L.next hb2
            have d0 := L2.now.1.2.cell 0
            go_wp2_with fail
            refine (SR.out _ L2.now.1.1.2 L2.now.1.1.1.2).mono ?_
            rintro e w5 ⟨A5, n5, c5, rfl, hr5, hc5, Hn5, hb5⟩
            have L5 := (L2.next hb5).and (Live.row hr5)
            have hn5 : n5 ≤ 1000 := by have := hr5.1; have := Hlen.out; have := Hsl.out; have := Hl.out; omega
            have e0 : w5.cell? ⟨w.heap.size, 0, none⟩ = some (.int .i64 ver) := L5.now.1.1.2.cell 0
            have e1 : w5.cell? ⟨w.heap.size, 1, none⟩ = some (.int .i64 sum) := L5.now.1.1.2.cell 1
            have e2 : w5.cell? ⟨w.heap.size, 2, none⟩ = some (.string last) := L5.now.1.1.2.cell 2
            clear hr5 hb5 d0
            go_wp2_with (go_at_call 63; refine (FO.out A5 n5 c5 _ L5.now.2 hn5 hc5).mono ?_; rintro e w6 ⟨rfl, hb6⟩; unfold fdCells; have L6 := L5.next hb6; have k0 := L6.now.1.2.lt; have k1 : ¬ w.heap.size + 1 = w6.heap.size := (by omega); have k2 : ¬ w6.heap.size = w.heap.size + 1 := (by omega); have z0 := L6.now.1.2.cell 0; have z1 := L6.now.1.2.cell 1; have z2 := L6.now.1.2.cell 2; have y0 := L6.now.1.2.frozen 0; have y1 := L6.now.1.2.frozen 1; have y2 := L6.now.1.2.frozen 2)
            have BZ := (((L6.now.1.2.set_ 0 (.int .i64 v')).set_ 1 (.int .i64 s')).set_ 2 (.string l')).alloc (.cells #[.int .i64 v', .int .i64 s', .string l'] 50)
            have zz0 := BZ.cell 0
            have zz1 := BZ.cell 1
            have zz2 := BZ.cell 2
            refine bodyPost_ret (v := .tuple #[.agg #[.int .i64 v', .int .i64 s', .string l'], .int .i64 n5, .bool true]) (by simp [results, Tryd.results30, go_sem, zz0, zz1, zz2]) rfl ?_
            rw [Hr.out]
            have hB := ((L6.now.1.1.1.1.1.setCell (p := ⟨w.heap.size + 1, 0, none⟩) (Nat.le_succ _) (.int .i64 v')).setCell (p := ⟨w.heap.size + 1, 1, none⟩) (Nat.le_succ _) (.int .i64 s')).setCell (p := ⟨w.heap.size + 1, 2, none⟩) (Nat.le_succ _) (.string l')
            exact ⟨by rw [← Hlen.out, L6.now.2.1]; rfl, hB.alloc hB.size _⟩
end Go.Proofs.YtbcfbkcadceniaaDoor
