/- The walk of laws.FnEventFrom. -/
import Derived.Test.YtecijlebfpbpaaaDoorLFnEventText
import Derived.Test.YtecijlebfpbpaaaDoorDrawN
namespace Go.Proofs.YtecijlebfpbpaaaDoor
set_option linter.unusedVariables false
set_option linter.unusedSimpArgs false
open Go.RowKit

theorem rd_below {w w' : World} {r N : Nat} (h : Rd w r N) (hb : Below w.heap.size w w') : Rd w' r N :=
  h.keep fun k hk => hb.block k (by have := h.lt; omega)
theorem evFrom_small {l : List UInt8} {e : Ev} (h : evFrom l = some e) : evOk e = true ∧ evTextS e = l := by
  obtain ⟨h1, h2, _⟩ := evFrom_some h
  exact ⟨h1, by unfold evTextS; rw [if_pos h1]; exact h2⟩
set_option maxRecDepth 100000 in
set_option maxHeartbeats 4000000 in
theorem drawEventFrom_any (A : Option Addr) (n c : Nat) (w : World) (h : Code w A n c) :
    Calls Tryd.prog 16 #[.slice A n c] w (StrDrawn w) := by
  go_enter Tryd.func16, Tryd.ntmps16
  go_wp2_with fail
  refine (open_any A n c _ h).mono ?_
  rintro e w1 ⟨r, rfl, hr, hb1, h1⟩
  clear h
  go_wp2_with fail
  refine (l91Event_any r 0 _ h1 (by omega)).mono ?_
  rintro e w2 ⟨id, kind, data, rfl, hev, hg2, h2⟩
  have TS := Lib.hid (eventTextS_any id kind data w2 (small60 hev.1))
  have hlen := evTextS_len ⟨id, kind, data⟩
  rw [← txt_size] at hlen
  generalize txt (evTextS ⟨id, kind, data⟩) = s at *
  clear hev
  go_wp2_with fail
  refine TS.out.mono ?_
  rintro e w3 ⟨rfl, hb3⟩
  have H3 := Lib.hid (rd_below h2 hb3)
  have G3 := Lib.hid (grow_below hg2 hb3)
  have Hb1 := Lib.hid hb1
  clear h1 h2 hg2 hb3 TS hb1
  by_cases hs0 : s = ⟨#[]⟩
  · subst hs0
    go_wp2_with fail
    refine (of_lit r _ 9 _ _ _ H3.out (by omega) rfl (by omega) (by omega) (by kernel_rfl)).mono ?_
    rintro e w4 ⟨t, rfl, hts, hg4, h4⟩
    go_wp2_with fail
    go_ret
    exact ⟨t, rfl, hts, drawn_below hr Hb1.out (grow_trans G3.out hg4)⟩
  · have e3 : ¬ s.toList = [] := fun e => hs0 (bytes_same (by rw [ByteArray.toList_eq] at e; rw [e]))
    have e2 : (s.toList == ([] : List UInt8)) = false := beq_eq_false_iff_ne.2 e3
    clear hs0
    go_wp2_with fail
    refine (pick_any r _ _ _ H3.out (by omega) (by omega)).mono ?_
    rintro e w4 ⟨x, rfl, hx, hg4, h4⟩
    have G4 := Lib.hid (grow_trans G3.out hg4)
    have H4 := Lib.hid h4
    clear hg4 h4
    by_cases hx0 : x = 0
    · have e4 : ((x : Int) == 0) = true := by rw [hx0]; rfl
      clear hx0 hx
      go_wp2_with fail
      refine (of_lit r _ 9 _ _ _ H4.out (by omega) rfl (by omega) (by omega) (by kernel_rfl)).mono ?_
      rintro e w5 ⟨t, rfl, hts, hg5, h5⟩
      go_wp2_with fail
      go_ret
      exact ⟨t, rfl, hts, drawn_below hr Hb1.out (grow_trans G4.out hg5)⟩
    · have e4 : ((x : Int) == 0) = false := beq_eq_false_iff_ne.2 (by omega)
      clear hx0 hx
      go_wp2_with fail
      go_ret
      exact ⟨s, rfl, by omega, drawn_below hr Hb1.out G4.out⟩
/-- the place where both answers lie. -/
theorem fromRet_none : fromRet none = .tuple #[.agg #[.int .i64 0, .string ⟨#[]⟩, .int .i64 0], .bool false] := rfl
set_option maxHeartbeats 2000000 in
theorem eventValid_any (id : Int) (kind : ByteArray) (data : Int) (w : World) (hk : kind.size ≤ maxLen) :
    Calls Tryd.prog 35 #[.agg #[.int .i64 id, .string kind, .int .i64 data]] w fun e w' => e = .returned (.bool (evOk ⟨id, kind, data⟩)) ∧ Below w.heap.size w w' := by
  have hb0 : Below w.heap.size w (w.alloc (.cells #[.int .i64 id, .string kind, .int .i64 data] 34)) := (Below.refl _ _).alloc (Nat.le_refl _) _
  have V := Lib.hid (fun W => evValid_any id kind data W hk)
  have Hb := Lib.hid hb0
  clear hb0
  go_enter Tryd.func35, Tryd.ntmps35
  go_wp2_with (go_at_call 52; (with_reducible refine (V.out _).mono ?_); (rintro e w1 ⟨rfl, hb1⟩))
  go_ret
  exact ⟨rfl, Hb.out.trans (hb1.mono Hb.out.size)⟩
set_option maxRecDepth 100000 in
set_option maxHeartbeats 8000000 in
theorem law_FnEventFrom (A : Option Addr) (n c : Nat) (w : World) (h : Code w A n c) (ht : GT w) (hm : ML w) :
    Calls Tryd.prog 10 #[.slice A n c] w fun e w' => e = .returned (.bool true) ∧ Below w.heap.size w w' := by
  have hn := h.2.1
  unfold maxLen at hn
  by_cases hbig : (1048576 : Int) < n
  · go_enter Tryd.func10, Tryd.ntmps10
    go_wp2_with fail
    go_ret
    exact ⟨rfl, Below.refl _ _⟩
  have HC := Lib.hid h
  have L0 := ((Live.since (Below.refl w.heap.size w)).and (show Live w GT from fun W hW => GT.below ht hW)).and (show Live w ML from fun W hW => hm.below hW)
  clear h ht hm
  go_enter Tryd.func10, Tryd.ntmps10
  go_wp2_with fail
  refine (drawEventFrom_any A n c _ HC.out).mono ?_
  rintro e w1 ⟨s, rfl, hs, hb1⟩
  have L1 := L0.next hb1
  have FI := Lib.hid (fun W M => eventFrom_any s W (by omega) M)
  have FS := Lib.hid (fun W => eventFromS_any s W (by omega))
  have Hsm := Lib.hid (fun e => @evFrom_small s.data.toList e)
  clear hb1 L0
  cases ho : evFrom s.data.toList with
  | none =>
    rw [ho, fromRet_none] at FI FS
    clear Hsm ho
    go_wp2_with fail
    refine (FI.out _ L1.now.2).mono ?_
    rintro e w2 ⟨rfl, hb2⟩
    have L2 := ((L1.next hb2).next ((Below.refl _ _).alloc (Nat.le_refl _) (.cells #[.int .i64 0, .string ⟨#[]⟩, .int .i64 0] 34))).and (Live.blk (Blk.new w2 34 #[.int .i64 0, .string ⟨#[]⟩, .int .i64 0]))
    clear hb2 L1
    go_wp2_with fail
    refine (FS.out _).mono ?_
    rintro e w3 ⟨rfl, hb3⟩
    have hlt := (L2.next hb3).now.2.lt
    have L3 := ((L2.next hb3).next ((Below.refl _ _).alloc (Nat.le_refl _) (.cells #[.int .i64 0, .string ⟨#[]⟩, .int .i64 0] 34))).and (Live.blk (Blk.new w3 34 #[.int .i64 0, .string ⟨#[]⟩, .int .i64 0]))
    have hn1 : ¬ w2.heap.size = w3.heap.size := by omega
    have a0 := L3.now.1.2.cell 0
    have a1 := L3.now.1.2.cell 1
    have a2 := L3.now.1.2.cell 2
    have b0 := L3.now.2.cell 0
    have b1 := L3.now.2.cell 1
    have b2 := L3.now.2.cell 2
    clear hb3 L2
    go_wp2_with fail
    go_ret
    exact ⟨by first | rfl | simp, L3.now.1.1.1.1⟩
  | some ev =>
    obtain ⟨id, kind, data⟩ := ev
    obtain ⟨hok, htx⟩ := Hsm.out _ ho
    rw [ho] at FI FS
    have FI2 : Hid (∀ W, ML W → Calls Tryd.prog 17 #[.string s] W fun e w' => e = .returned (.tuple #[.agg #[.int .i64 id, .string kind, .int .i64 data], .bool true]) ∧ Below W.heap.size W w') := Lib.hid (fun W M => FI.out W M)
    have FS2 : Hid (∀ W, Calls Tryd.prog 18 #[.string s] W fun e w' => e = .returned (.tuple #[.agg #[.int .i64 id, .string kind, .int .i64 data], .bool true]) ∧ Below W.heap.size W w') := Lib.hid (fun W => FS.out W)
    have ek : (kind.toList == kind.toList) = true := beq_self_eq_true _
    have es : (s.toList == s.toList) = true := beq_self_eq_true _
    obtain ⟨i, d, h1, h2, h3, h4, h5⟩ := evOk_nat hok
    simp only at h1 h2 h5
    have V := Lib.hid (fun W => eventValid_any id kind data W (by unfold maxLen; omega))
    rw [hok] at V
    have X := Lib.hid (fun W T => eventText_any id kind data W (by unfold maxLen; omega) T)
    rw [htx, txt_of] at X
    clear FI FS Hsm ho hok htx h1 h2 h3 h4
    go_wp2_with fail
    refine (FI2.out _ L1.now.2).mono ?_
    rintro e w2 ⟨rfl, hb2⟩
    have L2 := ((L1.next hb2).next ((Below.refl _ _).alloc (Nat.le_refl _) (.cells #[.int .i64 id, .string kind, .int .i64 data] 34))).and (Live.blk (Blk.new w2 34 #[.int .i64 id, .string kind, .int .i64 data]))
    clear hb2 L1
    go_wp2_with fail
    refine (FS2.out _).mono ?_
    rintro e w3 ⟨rfl, hb3⟩
    have hlt := (L2.next hb3).now.2.lt
    have L3 := ((L2.next hb3).next ((Below.refl _ _).alloc (Nat.le_refl _) (.cells #[.int .i64 id, .string kind, .int .i64 data] 34))).and (Live.blk (Blk.new w3 34 #[.int .i64 id, .string kind, .int .i64 data]))
    have hn1 : ¬ w2.heap.size = w3.heap.size := by omega
    have a0 := L3.now.1.2.cell 0
    have a1 := L3.now.1.2.cell 1
    have a2 := L3.now.1.2.cell 2
    have b0 := L3.now.2.cell 0
    have b1 := L3.now.2.cell 1
    have b2 := L3.now.2.cell 2
    clear hb3 L2
    go_wp2_with (first
      | (go_at_call 35; (with_reducible refine (V.out _).mono ?_); (rintro e w4 ⟨rfl, hb4⟩; have L4 := L3.next hb4; have a0 := L4.now.1.2.cell 0; have a1 := L4.now.1.2.cell 1; have a2 := L4.now.1.2.cell 2))
      | (go_at_call 33; (with_reducible refine (X.out _ L4.now.1.1.1.2).mono ?_); (rintro e w5 ⟨rfl, hb5⟩)))
    go_ret
    exact ⟨by first | rfl | simp, (L4.next hb5).now.1.1.1.1⟩
end Go.Proofs.YtecijlebfpbpaaaDoor
