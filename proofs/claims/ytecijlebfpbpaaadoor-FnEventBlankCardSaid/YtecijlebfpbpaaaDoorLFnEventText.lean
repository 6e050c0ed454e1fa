/- The walk of laws.FnEventText. -/
import Derived.Test.YtecijlebfpbpaaaDoorEvF
import Derived.Test.YtecijlebfpbpaaaDoorDrawEv
namespace Go.Proofs.YtecijlebfpbpaaaDoor
set_option linter.unusedVariables false
set_option linter.unusedSimpArgs false
open Go.RowKit

/-- a drawn event, handed to a statement. -/
def EvDrawn (w : World) (e : Ending) (w' : World) : Prop := ∃ (id : Int) (kind : ByteArray) (data : Int), e = .returned (.agg #[.int .i64 id, .string kind, .int .i64 data]) ∧ EvB ⟨id, kind, data⟩ ∧ Below w.heap.size w w'
theorem evTextS_len (e : Ev) : (evTextS e).length ≤ 20 := by
  unfold evTextS
  split
  · rename_i h
    obtain ⟨i, d, h1, h2, h3, h4, h5⟩ := evOk_nat h
    have e1 := dec_len_le i 3 (by omega)
    have e2 := dec_len_le d 2 (by omega)
    have e3 := str_len e.kind
    unfold evText
    rw [h1, h2]
    simp only [Int.toNat_natCast, List.length_append, List.length_cons]
    omega
  · exact Nat.zero_le _
theorem evTextS_some {e : Ev} (h : evOk e = true) : evFrom (evTextS e) = some e := by unfold evTextS; rw [if_pos h]; exact evFrom_text h
theorem evTextS_ne {e : Ev} (h : evOk e = true) : evTextS e ≠ [] := by
  intro h2
  have := evTextS_some h
  rw [h2] at this
  revert this
  unfold evFrom
  simp [cutB]
theorem evTextS_no {e : Ev} (h : evOk e = false) : evTextS e = [] := by unfold evTextS; rw [h]; rfl
set_option maxRecDepth 100000 in
set_option maxHeartbeats 4000000 in
theorem drawEventText_any (A : Option Addr) (n c : Nat) (w : World) (h : Code w A n c) :
    Calls Tryd.prog 32 #[.slice A n c] w (EvDrawn w) := by
  have hb0 : Below w.heap.size w (w.alloc (.cells #[.int .i64 0, .string ⟨#[]⟩, .int .i64 0] 34)) := (Below.refl _ _).alloc (Nat.le_refl _) _
  have L0 := (Live.since hb0).and (Live.blk (Blk.new w 34 #[.int .i64 0, .string ⟨#[]⟩, .int .i64 0]))
  have hc := Lib.hid (h.below hb0)
  clear h hb0
  go_enter Tryd.func32, Tryd.ntmps32
  go_wp2_with fail
  refine (open_any A n c _ hc.out).mono ?_
  rintro e w1 ⟨r, rfl, hr, hb1, h1⟩
  generalize w.alloc (.cells #[.int .i64 0, .string ⟨#[]⟩, .int .i64 0] 34) = w0 at *
  go_wp2_with fail
  refine (l91Event_any r 0 _ h1 (by omega)).mono ?_
  rintro e w2 ⟨id, kind, data, rfl, hev, hg2, h2⟩
  have L2 := L0.next (hb1.trans (grow_to_below hg2 hr hb1.size))
  have z0 := L2.now.2.cell 0
  have z1 := L2.now.2.cell 1
  have z2 := L2.now.2.cell 2
  have y0 := L2.now.2.frozen 0
  have y1 := L2.now.2.frozen 1
  have y2 := L2.now.2.frozen 2
  have BZ := ((L2.now.2.set_ 0 (.int .i64 id)).set_ 1 (.string kind)).set_ 2 (.int .i64 data)
  have x0 := BZ.cell 0
  have x1 := BZ.cell 1
  have x2 := BZ.cell 2
  have HE := Lib.hid hev
  clear hev hg2 h1 h2 hb1
  go_wp2_with fail
  refine bodyPost_ret (v := .agg #[.int .i64 id, .string kind, .int .i64 data]) (by simp [results, Tryd.results32, go_sem, x0, x1, x2]) rfl ?_
  exact ⟨id, kind, data, rfl, HE.out, ((L2.now.1.setCell (p := ⟨w.heap.size, 0, none⟩) (Nat.le_refl _) _).setCell (p := ⟨w.heap.size, 1, none⟩) (Nat.le_refl _) _).setCell (p := ⟨w.heap.size, 2, none⟩) (Nat.le_refl _) _⟩
set_option maxRecDepth 100000 in
set_option maxHeartbeats 8000000 in
theorem law_FnEventText (A : Option Addr) (n c : Nat) (w : World) (h : Code w A n c) (ht : GT w) (hm : ML w) :
    Calls Tryd.prog 9 #[.slice A n c] w fun e w' => e = .returned (.bool true) ∧ Below w.heap.size w w' := by
  have hn := h.2.1
  unfold maxLen at hn
  by_cases hbig : (1048576 : Int) < n
  · go_enter Tryd.func9, Tryd.ntmps9
    go_wp2_with fail
    go_ret
    exact ⟨rfl, Below.refl _ _⟩
  have HC := Lib.hid h
  have L0 := ((Live.since (Below.refl w.heap.size w)).and (show Live w GT from fun W hW => GT.below ht hW)).and (show Live w ML from fun W hW => hm.below hW)
  clear h ht hm
  go_enter Tryd.func9, Tryd.ntmps9
  go_wp2_with fail
  refine (drawEventText_any A n c _ HC.out).mono ?_
  rintro e w1 ⟨id, kind, data, rfl, hev, hb1⟩
  have hk : kind.size ≤ maxLen := small60 hev.1
  have L1 := ((L0.next hb1).next ((Below.refl _ _).alloc (Nat.le_refl _) (.cells #[.int .i64 id, .string kind, .int .i64 data] 34))).and (Live.blk (Blk.new w1 34 #[.int .i64 id, .string kind, .int .i64 data]))
  have TI := Lib.hid (fun W T => eventText_any id kind data W hk T)
  have TS := Lib.hid (fun W => eventTextS_any id kind data W hk)
  have hlen := evTextS_len ⟨id, kind, data⟩
  have Hsome := Lib.hid (@evTextS_some ⟨id, kind, data⟩)
  have Hne := Lib.hid (@evTextS_ne ⟨id, kind, data⟩)
  have Hno := Lib.hid (@evTextS_no ⟨id, kind, data⟩)
  rw [← txt_size] at hlen
  obtain ⟨o, ho⟩ : ∃ o : ByteArray, txt (evTextS ⟨id, kind, data⟩) = o := ⟨_, rfl⟩
  have Ho : Hid (o.data.toList = evTextS ⟨id, kind, data⟩) := Lib.hid (by rw [← ho, txt_list])
  rw [ho] at TI TS hlen
  have a0 := L1.now.2.cell 0
  have a1 := L1.now.2.cell 1
  have a2 := L1.now.2.cell 2
  have el : (o.toList == o.toList) = true := beq_self_eq_true _
  clear hev hb1 L0 ho
  go_wp2_with fail
  refine (TI.out _ L1.now.1.1.2).mono ?_
  rintro e w2 ⟨rfl, hb2⟩
  have L2 := L1.next hb2
  have a0 := L2.now.2.cell 0
  have a1 := L2.now.2.cell 1
  have a2 := L2.now.2.cell 2
  clear hb2
  go_wp2_with fail
  refine (TS.out _).mono ?_
  rintro e w3 ⟨rfl, hb3⟩
  have L3 := L2.next hb3
  have a0 := L3.now.2.cell 0
  have a1 := L3.now.2.cell 1
  have a2 := L3.now.2.cell 2
  clear hb3 L1 L2 TI TS
  cases hv : evOk ⟨id, kind, data⟩ with
  | false =>
    have hnil : o = ⟨#[]⟩ := bytes_same (by rw [Ho.out, Hno.out hv])
    subst hnil
    clear hv
    go_wp2_with fail
    go_ret
    exact ⟨by first | rfl | simp, L3.now.1.1.1⟩
  | true =>
    have hne : o ≠ ⟨#[]⟩ := fun e => Hne.out hv (by rw [← Ho.out, e])
    have e3 : ¬ o.toList = [] := fun e => hne (bytes_same (by rw [ByteArray.toList_eq] at e; rw [e]))
    have e2 : (o.toList == ([] : List UInt8)) = false := beq_eq_false_iff_ne.2 e3
    have EF := Lib.hid (fun W M => eventFrom_any o W (by omega) M)
    rw [Ho.out, Hsome.out hv] at EF
    have EF2 : Hid (∀ W, ML W → Calls Tryd.prog 17 #[.string o] W fun e w' => e = .returned (.tuple #[.agg #[.int .i64 id, .string kind, .int .i64 data], .bool true]) ∧ Below W.heap.size W w') := Lib.hid (fun W M => EF.out W M)
    have ek : (kind.toList == kind.toList) = true := beq_self_eq_true _
    clear hv hne EF
    go_wp2_with fail
    refine (EF2.out _ L3.now.1.2).mono ?_
    rintro e w4 ⟨rfl, hb4⟩
    have L4 := ((L3.next hb4).next ((Below.refl _ _).alloc (Nat.le_refl _) (.cells #[.int .i64 id, .string kind, .int .i64 data] 34))).and (Live.blk (Blk.new w4 34 #[.int .i64 id, .string kind, .int .i64 data]))
    have a0 := L4.now.1.2.cell 0
    have a1 := L4.now.1.2.cell 1
    have a2 := L4.now.1.2.cell 2
    have b0 := L4.now.2.cell 0
    have b1 := L4.now.2.cell 1
    have b2 := L4.now.2.cell 2
    have hlt := (L3.next hb4).now.2.lt
    have hn1 : ¬ w1.heap.size = w4.heap.size := by omega
    clear hb4
    go_wp2_with fail
    go_ret
    exact ⟨by first | rfl | simp, L4.now.1.1.1.1⟩
end Go.Proofs.YtecijlebfpbpaaaDoor
