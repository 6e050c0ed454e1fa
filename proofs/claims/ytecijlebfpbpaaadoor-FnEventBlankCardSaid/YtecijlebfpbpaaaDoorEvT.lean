/- Events as texts: the program's and the reference's. -/
import Derived.Test.YtecijlebfpbpaaaDoorPText
import Derived.Test.YtecijlebfpbpaaaDoorNamesOf
import Derived.Test.YtecijlebfpbpaaaDoorDec
import Derived.Test.YtecijlebfpbpaaaDoorEv
import Derived.Test.YtecijlebfpbpaaaDoorOnQ
import Derived.Test.YtecijlebfpbpaaaDoorLive
namespace Go.Proofs.YtecijlebfpbpaaaDoor
set_option linter.unusedVariables false
set_option linter.unusedSimpArgs false
open Go.RowKit

def txt (l : List UInt8) : ByteArray := ⟨l.toArray⟩
theorem txt_list (l : List UInt8) : (txt l).data.toList = l := by simp [txt]
theorem txt_size (l : List UInt8) : (txt l).size = l.length := by simp [txt, ByteArray.size]
theorem txt_of (s : ByteArray) : txt s.data.toList = s := bytes_of (by simp [txt])
theorem itoa_any (n : Nat) (w : World) (hn : n ≤ 1000000) (ht : GT w) :
    Calls Tryd.prog 63 #[.int .i64 (n : Int)] w fun e w' => e = .returned (.string (txt (Lib.decDigits n))) ∧ Below w.heap.size w w' := by
  have it := Tryd.strconv_Itoa (n : Int) (by omega) (by omega) w ht
  rw [itoa_nat] at it
  refine it.mono ?_
  rintro e w' ⟨rfl, k, os, rfl⟩
  exact ⟨rfl, below_grow _ _ _⟩
theorem text_is (e : Ev) : txt (Lib.decDigits e.id.toNat) ++ ⟨#[32]⟩ ++ e.kind ++ ⟨#[32]⟩ ++ txt (Lib.decDigits e.data.toNat) = txt (evText e) := by
  apply bytes_of
  simp [txt, evText]
set_option maxRecDepth 100000 in
set_option maxHeartbeats 4000000 in
theorem evTextI_any (i : Nat) (kind : ByteArray) (d : Nat) (w : World) (hi : i ≤ 9999) (hk : kind.size ≤ 6) (hd : d ≤ 999) (ht : GT w) :
    Calls Tryd.prog 69 #[.agg #[.int .i64 (i : Int), .string kind, .int .i64 (d : Int)]] w fun e w' => e = .returned (.string (txt (evText ⟨i, kind, d⟩))) ∧ Below w.heap.size w w' := by
  have hb0 : Below w.heap.size w (w.alloc (.cells #[.int .i64 (i : Int), .string kind, .int .i64 (d : Int)] 34)) := (Below.refl _ _).alloc (Nat.le_refl _) _
  have L := (Live.since hb0).and (Live.blk (Blk.new w 34 #[.int .i64 (i : Int), .string kind, .int .i64 (d : Int)]))
  have T0 := GT.below ht hb0
  have c0 := fun x : On (w.alloc (.cells #[.int .i64 (i : Int), .string kind, .int .i64 (d : Int)] 34)) => (show x.W.cell? ⟨w.heap.size, 0, none⟩ = some (.int .i64 (i : Int)) from (L.next x.below).now.2.cell 0)
  have c1 := fun x : On (w.alloc (.cells #[.int .i64 (i : Int), .string kind, .int .i64 (d : Int)] 34)) => (show x.W.cell? ⟨w.heap.size, 1, none⟩ = some (.string kind) from (L.next x.below).now.2.cell 1)
  have c2 := fun x : On (w.alloc (.cells #[.int .i64 (i : Int), .string kind, .int .i64 (d : Int)] 34)) => (show x.W.cell? ⟨w.heap.size, 2, none⟩ = some (.int .i64 (d : Int)) from (L.next x.below).now.2.cell 2)
  have I1 := Lib.hid (fun x : On (w.alloc (.cells #[.int .i64 (i : Int), .string kind, .int .i64 (d : Int)] 34)) => itoa_any i x.W (by omega) (GT.below T0 x.below))
  have I2 := Lib.hid (fun x : On (w.alloc (.cells #[.int .i64 (i : Int), .string kind, .int .i64 (d : Int)] 34)) => itoa_any d x.W (by omega) (GT.below T0 x.below))
  have Hr := Lib.hid (text_is ⟨i, kind, d⟩)
  have h1 := dec_len_le i 3 (by omega)
  have h2 := dec_len_le d 2 (by omega)
  rw [← txt_size] at h1 h2
  simp only [Int.toNat_natCast] at Hr
  generalize txt (Lib.decDigits i) = a at *
  generalize txt (Lib.decDigits d) = b at *
  clear hb0
  go_enter Tryd.func69, Tryd.ntmps69
  go_wp2_with fail
  refine wp_region_on (by kernel_rfl) (by kernel_rfl) ?_
  repeat (go_big_quiet_step (first
    | (go_at_call 63; (with_reducible exact On.calls (I1.out _)))
    | (go_at_call 63; (with_reducible exact On.calls (I2.out _)))))
  refine wpQuiet_nil ?_
  intro w5 hw'
  obtain ⟨⟨w5b, hb5⟩, hw''⟩ := hw'
  obtain rfl : w5 = w5b := hw''
  have L5 := L.next hb5
  go_wp2_with fail
  go_ret
  rw [← Hr.out]
  exact ⟨rfl, L5.now.1⟩
set_option maxRecDepth 100000 in
set_option maxHeartbeats 4000000 in
theorem evTextS1_any (i : Nat) (kind : ByteArray) (d : Nat) (w : World) (hi : i ≤ 9999) (hk : kind.size ≤ 6) (hd : d ≤ 999) :
    Calls Tryd.prog 71 #[.agg #[.int .i64 (i : Int), .string kind, .int .i64 (d : Int)]] w fun e w' => e = .returned (.string (txt (evText ⟨i, kind, d⟩))) ∧ Below w.heap.size w w' := by
  have hb0 : Below w.heap.size w (w.alloc (.cells #[.int .i64 (i : Int), .string kind, .int .i64 (d : Int)] 34)) := (Below.refl _ _).alloc (Nat.le_refl _) _
  have L := (Live.since hb0).and (Live.blk (Blk.new w 34 #[.int .i64 (i : Int), .string kind, .int .i64 (d : Int)]))
  have c0 := fun x : On (w.alloc (.cells #[.int .i64 (i : Int), .string kind, .int .i64 (d : Int)] 34)) => (show x.W.cell? ⟨w.heap.size, 0, none⟩ = some (.int .i64 (i : Int)) from (L.next x.below).now.2.cell 0)
  have c1 := fun x : On (w.alloc (.cells #[.int .i64 (i : Int), .string kind, .int .i64 (d : Int)] 34)) => (show x.W.cell? ⟨w.heap.size, 1, none⟩ = some (.string kind) from (L.next x.below).now.2.cell 1)
  have c2 := fun x : On (w.alloc (.cells #[.int .i64 (i : Int), .string kind, .int .i64 (d : Int)] 34)) => (show x.W.cell? ⟨w.heap.size, 2, none⟩ = some (.int .i64 (d : Int)) from (L.next x.below).now.2.cell 2)
  have I1 := Lib.hid (fun x : On (w.alloc (.cells #[.int .i64 (i : Int), .string kind, .int .i64 (d : Int)] 34)) => (show Calls Tryd.prog 66 #[.int .i64 (i : Int)] x.W fun e w' => e = .returned (.string (txt (Lib.decDigits i))) ∧ Below x.W.heap.size x.W w' from l6Dec_any i (i : Int) x.W rfl (by omega)))
  have I2 := Lib.hid (fun x : On (w.alloc (.cells #[.int .i64 (i : Int), .string kind, .int .i64 (d : Int)] 34)) => (show Calls Tryd.prog 66 #[.int .i64 (d : Int)] x.W fun e w' => e = .returned (.string (txt (Lib.decDigits d))) ∧ Below x.W.heap.size x.W w' from l6Dec_any d (d : Int) x.W rfl (by omega)))
  have Hr := Lib.hid (text_is ⟨i, kind, d⟩)
  have h1 := dec_len_le i 3 (by omega)
  have h2 := dec_len_le d 2 (by omega)
  rw [← txt_size] at h1 h2
  simp only [Int.toNat_natCast] at Hr
  generalize txt (Lib.decDigits i) = a at *
  generalize txt (Lib.decDigits d) = b at *
  clear hb0
  go_enter Tryd.func71, Tryd.ntmps71
  go_wp2_with fail
  refine wp_region_on (by kernel_rfl) (by kernel_rfl) ?_
  repeat (go_big_quiet_step (first
    | (go_at_call 66; (with_reducible exact On.calls (I1.out _)))
    | (go_at_call 66; (with_reducible exact On.calls (I2.out _)))))
  refine wpQuiet_nil ?_
  intro w5 hw'
  obtain ⟨⟨w5b, hb5⟩, hw''⟩ := hw'
  obtain rfl : w5 = w5b := hw''
  have L5 := L.next hb5
  go_wp2_with fail
  go_ret
  rw [← Hr.out]
  exact ⟨rfl, L5.now.1⟩
theorem evOk_nat {e : Ev} (h : evOk e = true) : ∃ i d : Nat, e.id = (i : Int) ∧ e.data = (d : Int) ∧ i ≤ 9999 ∧ d ≤ 999 ∧ e.kind.size ≤ 6 := by
  obtain ⟨h1, h2, h3⟩ := evOk_iff.1 h
  have h4 := (wordOk_size h2).2
  rw [str_len] at h4
  exact ⟨e.id.toNat, e.data.toNat, by omega, by omega, by omega, by omega, h4⟩
set_option maxRecDepth 100000 in
set_option maxHeartbeats 4000000 in
theorem eventText_any (id : Int) (kind : ByteArray) (data : Int) (w : World) (hk : kind.size ≤ maxLen) (ht : GT w) :
    Calls Tryd.prog 33 #[.agg #[.int .i64 id, .string kind, .int .i64 data]] w fun e w' => e = .returned (.string (txt (evTextS ⟨id, kind, data⟩))) ∧ Below w.heap.size w w' := by
  have hb0 : Below w.heap.size w (w.alloc (.cells #[.int .i64 id, .string kind, .int .i64 data] 34)) := (Below.refl _ _).alloc (Nat.le_refl _) _
  have L := ((Live.since hb0).and (Live.blk (Blk.new w 34 #[.int .i64 id, .string kind, .int .i64 data])))
  have T0 := Lib.hid (GT.below ht hb0)
  have V := Lib.hid (fun W => evValid_any id kind data W hk)
  clear hb0
  cases hv : evOk ⟨id, kind, data⟩ with
  | false =>
    rw [hv] at V
    have Hr := Lib.hid (show evTextS ⟨id, kind, data⟩ = [] by unfold evTextS; rw [hv]; rfl)
    go_enter Tryd.func33, Tryd.ntmps33
    go_wp2_with (go_at_call 52; (with_reducible refine (V.out _).mono ?_); (rintro e w1 ⟨rfl, hb1⟩; have L1 := L.next hb1))
    go_ret
    rw [Hr.out]
    exact ⟨rfl, L1.now.1⟩
  | true =>
    rw [hv] at V
    have Hr := Lib.hid (show evTextS ⟨id, kind, data⟩ = evText ⟨id, kind, data⟩ by unfold evTextS; rw [hv]; rfl)
    obtain ⟨i, d, h1, h2, h3, h4, h5⟩ := evOk_nat hv
    simp only at h1 h2 h5
    subst h1 h2
    have X := Lib.hid (fun W T => evTextI_any i kind d W h3 h5 h4 T)
    clear hv
    go_enter Tryd.func33, Tryd.ntmps33
    go_wp2_with (first
      | (go_at_call 52; (with_reducible refine (V.out _).mono ?_); (rintro e w1 ⟨rfl, hb1⟩; have L1 := L.next hb1; have T1 := GT.below T0.out hb1; have c0 := L1.now.2.cell 0; have c1 := L1.now.2.cell 1; have c2 := L1.now.2.cell 2))
      | (go_at_call 69; (with_reducible refine (X.out _ T1).mono ?_); (rintro e w2 ⟨rfl, hb2⟩)))
    go_ret
    rw [Hr.out]
    exact ⟨rfl, (L1.next hb2).now.1⟩
set_option maxRecDepth 100000 in
set_option maxHeartbeats 4000000 in
theorem eventTextS_any (id : Int) (kind : ByteArray) (data : Int) (w : World) (hk : kind.size ≤ maxLen) :
    Calls Tryd.prog 34 #[.agg #[.int .i64 id, .string kind, .int .i64 data]] w fun e w' => e = .returned (.string (txt (evTextS ⟨id, kind, data⟩))) ∧ Below w.heap.size w w' := by
  have hb0 : Below w.heap.size w (w.alloc (.cells #[.int .i64 id, .string kind, .int .i64 data] 34)) := (Below.refl _ _).alloc (Nat.le_refl _) _
  have L := ((Live.since hb0).and (Live.blk (Blk.new w 34 #[.int .i64 id, .string kind, .int .i64 data])))
  have V := Lib.hid (fun W => evValidS_any id kind data W hk)
  clear hb0
  cases hv : evOk ⟨id, kind, data⟩ with
  | false =>
    rw [hv] at V
    have Hr := Lib.hid (show evTextS ⟨id, kind, data⟩ = [] by unfold evTextS; rw [hv]; rfl)
    go_enter Tryd.func34, Tryd.ntmps34
    go_wp2_with (go_at_call 70; (with_reducible refine (V.out _).mono ?_); (rintro e w1 ⟨rfl, hb1⟩; have L1 := L.next hb1))
    go_ret
    rw [Hr.out]
    exact ⟨rfl, L1.now.1⟩
  | true =>
    rw [hv] at V
    have Hr := Lib.hid (show evTextS ⟨id, kind, data⟩ = evText ⟨id, kind, data⟩ by unfold evTextS; rw [hv]; rfl)
    obtain ⟨i, d, h1, h2, h3, h4, h5⟩ := evOk_nat hv
    simp only at h1 h2 h5
    subst h1 h2
    have X := Lib.hid (fun W => evTextS1_any i kind d W h3 h5 h4)
    clear hv
    go_enter Tryd.func34, Tryd.ntmps34
    go_wp2_with (first
      | (go_at_call 70; (with_reducible refine (V.out _).mono ?_); (rintro e w1 ⟨rfl, hb1⟩; have L1 := L.next hb1; have c0 := L1.now.2.cell 0; have c1 := L1.now.2.cell 1; have c2 := L1.now.2.cell 2))
      | (go_at_call 71; (with_reducible refine (X.out _).mono ?_); (rintro e w2 ⟨rfl, hb2⟩)))
    go_ret
    rw [Hr.out]
    exact ⟨rfl, (L1.next hb2).now.1⟩
end Go.Proofs.YtecijlebfpbpaaaDoor
