/- The walk of laws.FnExactGroupJoin. -/
import Derived.Test.YtnfncnpnkmjjeaaTMG
import Derived.Test.YtnfncnpnkmjjeaaJoinI
import Derived.Deep.RegionLaw
import Derived.Deep.DeepCutAuto
namespace Go.Proofs.Ytnfncnpnkmjjeaa
set_option linter.unusedVariables false
set_option linter.unusedSimpArgs false
open Go.RowKit

theorem Live.strsB {w : World} {B n : Nat} {A : Option Addr} {ms : List ByteArray} (h : Strs w B A n ms) (hB : B ≤ w.heap.size) : Live w fun W => Strs W B A n ms := fun _ hW => Sl.below h (hW.mono hB)
theorem Live.free {w : World} {A : Option Addr} (h : Free w A) : Live w fun W => Free W A := fun W hW p hp => by
  obtain ⟨cs, hB⟩ := h p hp
  exact ⟨cs, hB.next hW⟩
theorem marked_below {w w' : World} {A : Option Addr} {B : Nat} (hg : w.grownBy w' (A.map (·.block))) (hA : ∀ p, A = some p → B ≤ p.block) (hB : B ≤ w.heap.size) : Below B w w' :=
  (Below.refl B w).grown hg hB (fun k hk => by
    cases A with
    | none => cases hk
    | some p => obtain rfl := Option.some.inj hk; exact hA p rfl)
theorem marked_ne {A : Option Addr} {g : Nat} (h : ∀ p, A = some p → p.block ≠ g) : some g ≠ A.map (·.block) := by
  cases A with
  | none => intro e; cases e
  | some p => intro e; exact h p rfl (Option.some.inj e).symm
theorem Free.grown {w w' : World} {A A' : Option Addr} (h : Free w A) (hg : w.grownBy w' (A'.map (·.block))) (hne : ∀ p, A = some p → ∀ q, A' = some q → q.block ≠ p.block) : Free w' A := fun p hp => by
  obtain ⟨cs, hB⟩ := h p hp
  exact ⟨cs, hB.grown hg (marked_ne (hne p hp))⟩
theorem joinL_len {st : Int} {ms : List ByteArray} {s : ByteArray} : (if joinOk st ms s = true then joinMs ms s else []).length ≤ 6 := by
  split
  · rename_i h
    unfold joinOk at h
    rw [Bool.and_eq_true] at h
    exact (groupOk_iff.1 h.2).2.1.2
  · simp
def GR (b : Bool) (st1 : Int) (ls : List ByteArray) (w : World) (e : Ending) (w' : World) : Prop :=
  ∃ A n c, e = .returned (.tuple #[.agg #[.int .i64 st1, .slice A n c], .bool b]) ∧ Strs w' w'.heap.size A n ls ∧ Below w.heap.size w w'
def GRO (b : Bool) (st1 : Int) (ls : List ByteArray) (w : World) (e : Ending) (w' : World) : Prop :=
  ∃ A n c, e = .returned (.tuple #[.agg #[.int .i64 st1, .slice A n c], .bool b]) ∧ Strs w' w'.heap.size A n ls ∧ (∀ p, A = some p → w.heap.size ≤ p.block ∧ ∃ cs, Blk w' p.block 9 cs) ∧ Below w.heap.size w w'
theorem gr_of {ok : Bool} {st : Int} {ms : List ByteArray} {w w' : World} {e : Ending} (h : GroupRet ok st ms w e w') : GR ok (if ok = true then st else 0) (if ok = true then ms else []) w e w' := h
theorem gro_of {ok : Bool} {st : Int} {ms : List ByteArray} {w w' : World} {e : Ending} (h : GroupRetO ok st ms w e w') : GRO ok (if ok = true then st else 0) (if ok = true then ms else []) w e w' := h
/-- what was given, and the reference's answer. -/
structure FBase (w : World) (st : Int) (A : Option Addr) (n c : Nat) (ms : List ByteArray) (st1 : Int) (ls : List ByteArray) (g6 : Nat) (A3 : Option Addr) (n3 c3 : Nat) (W : World) : Prop where
  since : Below w.heap.size w W
  strs : Strs W w.heap.size A n ms
  box : Blk W w.heap.size 24 #[.int .i64 st, .slice A n c]
  ref : Strs W g6 A3 n3 ls
  rbox : Blk W g6 26 #[.int .i64 st1, .slice A3 n3 c3]
  low : w.heap.size < g6
section
variable {w W W' : World} {st st1 : Int} {A A3 A4 A5 : Option Addr} {n c n3 c3 n5 c5 g6 g8 g9 c4 : Nat} {ms ls : List ByteArray}
theorem FBase.below {B : Nat} (h : FBase w st A n c ms st1 ls g6 A3 n3 c3 W) (hb : Below B W W') (hB : g6 < B) : FBase w st A n c ms st1 ls g6 A3 n3 c3 W' :=
  ⟨h.since.trans (hb.mono (by have := h.low; omega)), Sl.below h.strs (hb.mono (by have := h.low; omega)), h.box.below hb (by have := h.low; omega), Sl.below h.ref (hb.mono (by omega)), h.rbox.below hb hB, h.low⟩
/-- the program's answer besides. -/
structure FOne (g8 : Nat) (st1 : Int) (ls : List ByteArray) (g9 : Nat) (A5 : Option Addr) (n5 c5 : Nat) (W : World) : Prop where
  one : Strs W g9 A5 n5 ls
  free : Free W A5
  box : Blk W g9 26 #[.int .i64 st1, .slice A5 n5 c5]
  far : ∀ p, A5 = some p → g8 < p.block ∧ p.block < g9
theorem FOne.next (h : FOne g8 st1 ls g9 A5 n5 c5 W) (hb : Below W.heap.size W W') : FOne g8 st1 ls g9 A5 n5 c5 W' :=
  ⟨Sl.below h.one (hb.mono (by have := h.box.lt; omega)), fun p hp => by obtain ⟨cs, hB⟩ := h.free p hp; exact ⟨cs, hB.next hb⟩, h.box.next hb, h.far⟩
theorem FOne.marked (h : FOne g8 st1 ls g9 A5 n5 c5 W) (hg : W.grownBy W' (A4.map (·.block))) (hA : ∀ p, A4 = some p → p.block < g8) (h89 : g8 < g9) : FOne g8 st1 ls g9 A5 n5 c5 W' := by
  refine ⟨Sl.grown h.one (by have := h.box.lt; omega) hg (fun p hp => ?_), h.free.grown hg (fun p hp q hq => ?_), h.box.grown hg (marked_ne fun p hp => ?_), h.far⟩
  · have := (h.far p hp).1
    exact fun e => marked_ne (A := A4) (g := p.block) (fun q hq => by have := hA q hq; omega) e.symm
  · have := (h.far p hp).1
    have := hA q hq
    omega
  · have := hA p hp
    omega
end
set_option maxRecDepth 100000 in
set_option maxHeartbeats 8000000 in
theorem law_FnExactGroupJoin (st : Int) (A : Option Addr) (n c : Nat) (ms : List ByteArray) (s : ByteArray) (w : World) (h : Strs w w.heap.size A n ms) (hsm : AllSmall ms) (hs : s.size ≤ maxLen) (hnb : n ≤ maxLen) :
    Calls Try.prog 3 #[.agg #[.int .i64 st, .slice A n c], .string s] w fun e w' => e = .returned (.bool true) ∧ Below w.heap.size w w' := by
  have hb0 : Below w.heap.size w (w.alloc (.cells #[.int .i64 st, .slice A n c] 24)) := (Below.refl _ _).alloc (Nat.le_refl _) _
  have L0 : Live (w.alloc (.cells #[.int .i64 st, .slice A n c] 24)) fun W => (Below w.heap.size w W ∧ Strs W w.heap.size A n ms) ∧ Blk W w.heap.size 24 #[.int .i64 st, .slice A n c] := ((Live.since hb0).and (Live.strsB (Sl.below h hb0) hb0.size)).and (Live.blk (Blk.new w _ _))
  have Hs := Lib.hid hsm
  have Hn := Lib.hid hnb
  have Hl := Lib.hid h.len
  have Hsz := Lib.hid hs
  have a0 := L0.now.2.cell 0
  have a1 := L0.now.2.cell 1
  clear h hsm hnb hs hb0
  by_cases hbig : (1048576 : Int) < (s.size : Int)
  · go_enter Try.func3, Try.ntmps3
    go_wp2_with fail
    go_ret
    exact ⟨rfl, L0.now.1.1⟩
  have SZ := Lib.hid (szGroup_any st A n c ms 1048576 _ (Sl.more L0.now.1.2 L0.now.1.1.size) Hs.out Hn.out (by omega) (by omega))
  go_enter Try.func3, Try.ntmps3
  go_upto_region 5 with (go_at_call 4; (with_reducible refine SZ.out.mono ?_); (rintro e w1 ⟨r, rfl, hr0, hr1, hr2, hb1⟩; have L1 := L0.next hb1))
  by_cases hr : r < 0
  · go_wp2_with fail
    go_ret
    exact ⟨rfl, L1.now.1.1⟩
  have hnn : n ≤ 2000000 := by have := hr0 (by omega); omega
  have a0 := L1.now.2.cell 0
  have a1 := L1.now.2.cell 1
  clear hb1 L0 hr0 hr1 hr2
  have TGc := Lib.hid (fun W H => toGroup_any st A n c ms W H hnn)
  have JS := fun W B k d H (hk : k ≤ 2000000) => (groupJoinS_any st B k d ms s W H Hs.out Hsz.out hk).mono fun _ _ h => gr_of h
  have JI := fun W B k d H (hk : k ≤ 2000000) => (groupJoinO_any st B k d ms s W H Hs.out Hsz.out hk).mono fun _ _ h => gro_of h
  have h6 := joinL_len (st := st) (ms := ms) (s := s)
  generalize joinOk st ms s = ok at JS JI h6
  generalize (if ok = true then st else 0) = st1 at JS JI
  generalize (if ok = true then joinMs ms s else []) = ls at JS JI h6
  have HJS := Lib.hid JS
  have HJI := Lib.hid JI
  have H6 := Lib.hid h6
  clear JS JI h6
  have el : (ok != ok) = false := by simp
  have P1 := Lib.hid (TGc.out _ (Sl.more L1.now.1.2 L1.now.1.1.size))
  go_upto_region 8 with (first
    | (go_at_call 6; (with_reducible refine P1.out.mono ?_); (rintro e w2 ⟨A2, n2, c2, rfl, ⟨-, rfl⟩, hs2, hb2⟩; have L2 := L1.next hb2; have Q2 := Lib.hid (HJS.out w2 A2 ms.length c2 hs2 (by rw [Hl.out]; exact hnn))))
    | (go_at_call 5; (with_reducible refine Q2.out.mono ?_); (rintro e w3 ⟨A3, n3, c3, rfl, hs3, hb3⟩; have L3 := L2.next hb3; have Ls3 := Lib.hid hs3)))
  have hlow : w.heap.size < w3.heap.size := L3.now.2.lt
  have B3 := (Below.refl w3.heap.size w3).alloc (Nat.le_refl _) (.cells #[.int .i64 st1, .slice A3 n3 c3] 26)
  have F3 : FBase w st A n c ms st1 ls w3.heap.size A3 n3 c3 (w3.alloc (.cells #[.int .i64 st1, .slice A3 n3 c3] 26)) :=
    ⟨(L3.next B3).now.1.1, (L3.next B3).now.1.2, (L3.next B3).now.2, Sl.below Ls3.out B3, Blk.new w3 _ _, hlow⟩
  have hZ3 : (w3.alloc (.cells #[.int .i64 st1, .slice A3 n3 c3] 26)).heap.size = w3.heap.size + 1 := by simp
  have hn3 : Hid (n3 ≤ 6) := Lib.hid (by have := Ls3.out.len; have := H6.out; omega)
  clear a0 a1 hs2 hs3 hb2 hb3 L1 L2 L3 P1 Q2 Ls3 B3 hlow
  generalize w3.alloc (.cells #[.int .i64 st1, .slice A3 n3 c3] 26) = W3 at *
  generalize w3.heap.size = g6 at *
  have a0 := F3.box.cell 0
  have a1 := F3.box.cell 1
  have P3 := Lib.hid (TGc.out _ (Sl.more F3.strs F3.since.size))
  go_upto_region 9 with (go_at_call 6; (with_reducible refine P3.out.mono ?_); (rintro e w4 ⟨A4, n4, c4, rfl, ⟨hA4, rfl⟩, hs4, hb4⟩))
  have hA4' : Hid (∀ p, A4 = some p → g6 < p.block ∧ p.block < w4.heap.size) := Lib.hid fun p hp => by
    obtain ⟨h1, cs, h2⟩ := hA4 p hp
    exact ⟨by omega, h2.lt⟩
  have B4 := (Below.refl w4.heap.size w4).alloc (Nat.le_refl _) (.cells #[.int .i64 st, .slice A4 ms.length c4] 26)
  have F4 := (F3.below hb4 F3.rbox.lt).below B4 (Nat.lt_of_lt_of_le F3.rbox.lt hb4.size)
  have h48 : g6 < w4.heap.size := by have := hb4.size; have := F3.rbox.lt; omega
  have L8 := ((Live.strs (Sl.next hs4 B4)).and (Live.free (fun p hp => by obtain ⟨_, cs, h2⟩ := hA4 p hp; exact ⟨cs, h2.next B4⟩))).and (Live.blk (Blk.new w4 26 #[.int .i64 st, .slice A4 ms.length c4]))
  have hZ8 : (w4.alloc (.cells #[.int .i64 st, .slice A4 ms.length c4] 26)).heap.size = w4.heap.size + 1 := by simp
  clear a0 a1 F3 hZ3 P3 hA4 hs4 hb4 B4
  generalize w4.alloc (.cells #[.int .i64 st, .slice A4 ms.length c4] 26) = W8 at *
  generalize w4.heap.size = g8 at *
  have b0 := L8.now.2.cell 0
  have b1 := L8.now.2.cell 1
  have P4 := Lib.hid (HJI.out W8 A4 ms.length c4 L8.now.1.1 (by rw [Hl.out]; exact hnn))
  go_upto_region 10 with (go_at_call 7; (with_reducible refine P4.out.mono ?_); (rintro e w5 ⟨A5, n5, c5, rfl, hs5, hA5, hb5⟩))
  have hA5' : ∀ p, A5 = some p → g8 < p.block ∧ p.block < w5.heap.size := fun p hp => by
    obtain ⟨h1, cs, h2⟩ := hA5 p hp
    exact ⟨by omega, h2.lt⟩
  have B5 := (Below.refl w5.heap.size w5).alloc (Nat.le_refl _) (.cells #[.int .i64 st1, .slice A5 n5 c5] 26)
  have h89 : g8 < w5.heap.size := by have := hb5.size; omega
  have F5 := (F4.below hb5 (by omega)).below B5 (by omega)
  have L9 := (L8.next hb5).next B5
  have O9 : FOne g8 st1 ls w5.heap.size A5 n5 c5 (w5.alloc (.cells #[.int .i64 st1, .slice A5 n5 c5] 26)) :=
    ⟨Sl.below hs5 B5, fun p hp => by obtain ⟨_, cs, h2⟩ := hA5 p hp; exact ⟨cs, h2.next B5⟩, Blk.new w5 _ _, hA5'⟩
  have hn5 : Hid (n5 ≤ 6) := Lib.hid (by have := hs5.len; have := H6.out; omega)
  clear b0 b1 F4 L8 hZ8 P4 hA5 hs5 hb5 B5 hA5'
  generalize w5.alloc (.cells #[.int .i64 st1, .slice A5 n5 c5] 26) = W9 at *
  generalize w5.heap.size = g9 at *
  have c0 := F5.rbox.cell 0
  have c1 := F5.rbox.cell 1
  have d0 := O9.box.cell 0
  have d1 := O9.box.cell 1
  have E9 := Lib.hid (eqGroup_any st1 A5 A3 n5 c5 n3 c3 ls W9 (Sl.more O9.one (by have := O9.box.lt; omega)) (Sl.more F5.ref (by have := F5.rbox.lt; omega)) (by have := hn5.out; omega) (by have := hn3.out; omega))
  go_upto_region 12 with (go_at_call 8; (with_reducible refine E9.out.mono ?_); (rintro e w6 ⟨rfl, hb6⟩))
  have F6 := F5.below hb6 F5.rbox.lt
  have O6 := O9.next hb6
  have L6 := L9.next hb6
  clear c0 c1 d0 d1 E9 hb6 F5 O9 L9
  go_cut [52] (fun s52 wr => s52 = .bool false ∧ Below w6.heap.size w6 wr)
  case first =>
    have hdr : Below w6.heap.size w6 w6.drew := (Below.refl _ _).drew
    have FD := F6.below hdr F6.rbox.lt
    have LD := L6.next hdr
    have a0 : w6.drew.cell? ⟨w.heap.size, 0, none⟩ = some (.int .i64 st) := FD.box.cell 0
    have a1 : w6.drew.cell? ⟨w.heap.size, 1, none⟩ = some (.slice A n c) := FD.box.cell 1
    have b0 : w6.drew.cell? ⟨g8, 0, none⟩ = some (.int .i64 st) := LD.now.2.cell 0
    have b1 : w6.drew.cell? ⟨g8, 1, none⟩ = some (.slice A4 ms.length c4) := LD.now.2.cell 1
    have P5 := Lib.hid (TGc.out w6.drew (Sl.more FD.strs FD.since.size))
    go_region_law (first
      | (go_simp; go_at_call 6; (with_reducible refine P5.out.mono ?_); (rintro e w7 ⟨A6, n6, c6, rfl, ⟨-, rfl⟩, hs6, hb7⟩; have L7 := (LD.next hb7).and (Live.strs hs6); have d0 := L7.now.1.2.cell 0; have d1 := L7.now.1.2.cell 1; have P6 := Lib.hid (eqGroup_any st A4 A6 ms.length c4 ms.length c6 ms w7 L7.now.1.1.1 L7.now.2 (by rw [Hl.out]; omega) (by rw [Hl.out]; omega)); clear hs6))
      | (go_simp; go_at_call 8; (with_reducible refine P6.out.mono ?_); (rintro e w8 ⟨rfl, hb8⟩)))
    all_goals
      go_wp2_with fail
      go_meet
      case rel => exact ⟨rfl, hdr.trans ((hb7.mono hdr.size).trans (hb8.mono (Nat.le_trans hdr.size hb7.size)))⟩
  case rest =>
    obtain ⟨rfl, hbc⟩ := hcut
    have F7 := F6.below hbc F6.rbox.lt
    have O7 := O6.next hbc
    have L7 := L6.next hbc
    clear hbc F6 O6 L6
    have b0 := L7.now.2.cell 0
    have b1 := L7.now.2.cell 1
    obtain ⟨m4, h4⟩ : ∃ m4 : Int, ((1 + ms.length : Nat) : Int) = m4 := ⟨_, rfl⟩
    have h40 : ¬ m4 < 0 := by omega
    have M1 := Lib.hid (show Calls Try.prog 9 #[.agg #[.int .i64 st, .slice A4 ms.length c4], .int .i64 1] wc fun e w' => e = .returned (.int .i64 m4) ∧ wc.grownBy w' (A4.map (·.block)) from
      (markGroup_any st A4 ms.length c4 1 ms wc L7.now.1.1 L7.now.1.2 (by rw [Hl.out]; exact hnn) (by omega) (by omega)).mono fun e w' h => ⟨by rw [h.1, h4], h.2.2.2⟩)
    clear h4
    go_upto_region 16 with (go_at_call 9; (with_reducible refine M1.out.mono ?_); (rintro e w10 ⟨rfl, hg10⟩))
    have F10 := F7.below (marked_below (B := g6 + 1) hg10 (fun p hp => (hA4'.out p hp).1) F7.rbox.lt) (by omega)
    have O10 := O7.marked hg10 (fun p hp => (hA4'.out p hp).2) h89
    clear b0 b1 F7 O7 L7 M1 hg10
    have c0 := F10.rbox.cell 0
    have c1 := F10.rbox.cell 1
    have d0 := O10.box.cell 0
    have d1 := O10.box.cell 1
    have E10 := Lib.hid (eqGroup_any st1 A5 A3 n5 c5 n3 c3 ls w10 (Sl.more O10.one (by have := O10.box.lt; omega)) (Sl.more F10.ref (by have := F10.rbox.lt; omega)) (by have := hn5.out; omega) (by have := hn3.out; omega))
    go_upto_region 19 with (go_at_call 8; (with_reducible refine E10.out.mono ?_); (rintro e w11 ⟨rfl, hb11⟩))
    have F11 := F10.below hb11 F10.rbox.lt
    have O11 := O10.next hb11
    clear c0 c1 d0 d1 E10 hb11 F10 O10
    have d0 := O11.box.cell 0
    have d1 := O11.box.cell 1
    obtain ⟨m5, h5⟩ : ∃ m5 : Int, ((1 + n5 : Nat) : Int) = m5 := ⟨_, rfl⟩
    have h50 : ¬ m5 < 0 := by omega
    have h51 : (m5 != m5) = false := by simp
    have M2 := Lib.hid (show Calls Try.prog 9 #[.agg #[.int .i64 st1, .slice A5 n5 c5], .int .i64 1] w11 fun e w' => e = .returned (.int .i64 m5) ∧ Strs w' w'.heap.size A5 n5 (marks 1 n5) ∧ w11.grownBy w' (A5.map (·.block)) from
      (markGroup_any st1 A5 n5 c5 1 ls w11 (Sl.more O11.one (by have := O11.box.lt; omega)) O11.free (by have := hn5.out; omega) (by omega) (by omega)).mono fun e w' h => ⟨by rw [h.1, h5], h.2.1, h.2.2.2⟩)
    have HG := Lib.hid (show ∀ W, Strs W W.heap.size A5 n5 (marks 1 n5) → Calls Try.prog 10 #[.agg #[.int .i64 st1, .slice A5 n5 c5], .int .i64 1] W fun e w' => e = .returned (.int .i64 m5) ∧ Below W.heap.size W w' from
      fun W H => (heldGroup_any st1 A5 n5 c5 1 W H (by have := hn5.out; omega) (by omega) (by omega)).mono fun e w' h => ⟨by rw [h.1, h5], h.2⟩)
    clear h5
    go_upto_region 21 with (go_at_call 9; (with_reducible refine M2.out.mono ?_); (rintro e w12 ⟨rfl, hs12, hg12⟩))
    have F12 := F11.below (marked_below (B := g8 + 1) hg12 (fun p hp => (O11.far p hp).1) (by have := O11.box.lt; omega)) (by omega)
    have L12 := (Live.strs hs12).and (Live.blk (O11.box.grown hg12 (marked_ne fun p hp => by have := (O11.far p hp).2; omega)))
    clear d0 d1 F11 O11 M2 hs12 hg12
    have d0 := L12.now.2.cell 0
    have d1 := L12.now.2.cell 1
    have P12 := Lib.hid (HG.out w12 L12.now.1)
    go_upto_region 26 with (go_at_call 10; (with_reducible refine P12.out.mono ?_); (rintro e w13 ⟨rfl, hb13⟩))
    have F13 := F12.below hb13 F12.rbox.lt
    have L13 := L12.next hb13
    clear d0 d1 F12 L12 P12 hb13
    have a0 := F13.box.cell 0
    have a1 := F13.box.cell 1
    have P13 := Lib.hid (TGc.out w13 (Sl.more F13.strs F13.since.size))
    go_upto_region 27 with (first
      | (go_at_call 6; (with_reducible refine P13.out.mono ?_); (rintro e w14 ⟨A14, n14, c14, rfl, ⟨-, rfl⟩, hs14, hb14⟩; have F14 := F13.below hb14 F13.rbox.lt; have L14 := L13.next hb14; have P14 := Lib.hid (HJI.out w14 A14 ms.length c14 hs14 (by rw [Hl.out]; exact hnn))))
      | (go_at_call 7; (with_reducible refine P14.out.mono ?_); (rintro e w15 ⟨A15, n15, c15, rfl, hs15, -, hb15⟩; have F15 := F14.below hb15 F14.rbox.lt; have L15 := L14.next hb15)))
    have B15 := (Below.refl w15.heap.size w15).alloc (Nat.le_refl _) (.cells #[.int .i64 st1, .slice A15 n15 c15] 26)
    have F16 := F15.below B15 F15.rbox.lt
    have L16 := L15.next B15
    have hs16 := Sl.next hs15 B15
    have B16 := Blk.new w15 26 #[.int .i64 st1, .slice A15 n15 c15]
    have hn15 : Hid (n15 ≤ 6) := Lib.hid (by have := hs15.len; have := H6.out; omega)
    clear a0 a1 F13 L13 P13 F14 L14 P14 F15 L15 B15 hs14 hs15 hb14 hb15
    generalize w15.alloc (.cells #[.int .i64 st1, .slice A15 n15 c15] 26) = W16 at *
    generalize w15.heap.size = g15 at *
    have c0 := F16.rbox.cell 0
    have c1 := F16.rbox.cell 1
    have d0 := B16.cell 0
    have d1 := B16.cell 1
    have E16 := Lib.hid (eqGroup_any st1 A15 A3 n15 c15 n3 c3 ls W16 hs16 (Sl.more F16.ref (by have := F16.rbox.lt; omega)) (by have := hn15.out; omega) (by have := hn3.out; omega))
    clear hs16 B16
    go_upto_region 30 with (go_at_call 8; (with_reducible refine E16.out.mono ?_); (rintro e w17 ⟨rfl, hb17⟩))
    have F17 := F16.below hb17 F16.rbox.lt
    have L17 := L16.next hb17
    clear c0 c1 d0 d1 F16 L16 E16 hb17
    have d0 := L17.now.2.cell 0
    have d1 := L17.now.2.cell 1
    have P17 := Lib.hid (HG.out w17 L17.now.1)
    go_wp2_with (go_at_call 10; (with_reducible refine P17.out.mono ?_); (rintro e w18 ⟨rfl, hb18⟩))
    go_ret
    exact ⟨rfl, (F17.below hb18 F17.rbox.lt).since⟩
end Go.Proofs.Ytnfncnpnkmjjeaa
