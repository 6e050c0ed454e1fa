/- The walk of laws.FnFoldStream. -/
import Derived.Test.YtbcfbkcadceniaaDoorFoldSS
import Derived.Test.YtbcfbkcadceniaaDoorDrawFo
namespace Go.Proofs.YtbcfbkcadceniaaDoor
set_option linter.unusedVariables false
set_option linter.unusedSimpArgs false
open Go.RowKit

set_option maxRecDepth 100000 in
set_option maxHeartbeats 8000000 in
theorem law_FnFoldStream (A : Option Addr) (n c : Nat) (w : World) (h : Code w A n c) (hg : GE w) :
    Calls Tryd.prog 7 #[.slice A n c] w fun e w' => e = .returned (.bool true) ∧ Below w.heap.size w w' := by
  have hn := h.2.1
  unfold maxLen at hn
  by_cases hbig : (1048576 : Int) < n
  · go_enter Tryd.func7, Tryd.ntmps7
    go_wp2_with fail
    go_ret
    exact ⟨rfl, Below.refl _ _⟩
  have HC := Lib.hid h
  have L0 := (Live.since (Below.refl w.heap.size w)).and (Live.ge hg)
  clear h hg
  go_enter Tryd.func7, Tryd.ntmps7
  go_wp2_with fail
  refine (drawFoldStream_any A n c _ HC.out).mono ?_
  rintro e w1 ⟨Ax, k, cx, xs, s, ver, sum, last, rfl, hrow, HB, hk, hkc, Hnil, hs, HF, hb1⟩
  have hs' : s.size ≤ maxLen := small60 hs
  have L1 := (((L0.next hb1).and (Live.row hrow)).next ((Below.refl _ _).alloc (Nat.le_refl _) (.cells #[.int .i64 ver, .int .i64 sum, .string last] 50))).and (Live.blk (Blk.new w1 50 #[.int .i64 ver, .int .i64 sum, .string last]))
  have a0 := L1.now.2.cell 0
  have a1 := L1.now.2.cell 1
  have a2 := L1.now.2.cell 2
  have FI := Lib.hid (fun W H G => foldStream_any Ax k cx xs s ver sum last W H HB.out hs' HF.out (by omega) G)
  have FS := Lib.hid (fun W H => foldStreamS_any Ax k cx xs s ver sum last W H HB.out hs' HF.out (by omega))
  have hver := @foldStream_ver xs s ⟨ver, sum, last⟩
  have his := @foldStream_is xs s ⟨ver, sum, last⟩
  obtain ⟨⟨⟨v', s', l'⟩, cnt, ok⟩, hp⟩ : ∃ p, foldStream xs s ⟨ver, sum, last⟩ = p := ⟨_, rfl⟩
  rw [hp] at FI FS hver his
  simp only at hver his
  have hl : (l'.toList == l'.toList) = true := beq_self_eq_true _
  clear hrow hb1 L0 hp
  have FI2 : Hid (∀ W, Row enCells 4 W W.heap.size Ax k xs → GE W → Calls Tryd.prog 30 #[.slice Ax k cx, .string s, .agg #[.int .i64 ver, .int .i64 sum, .string last]] W fun e w' => e = .returned (.tuple #[.agg #[.int .i64 v', .int .i64 s', .string l'], .int .i64 cnt, .bool ok]) ∧ Below W.heap.size W w') := Lib.hid (fun W H G => FI.out W H G)
  have FS2 : Hid (∀ W, Row enCells 4 W W.heap.size Ax k xs → Calls Tryd.prog 31 #[.slice Ax k cx, .string s, .agg #[.int .i64 ver, .int .i64 sum, .string last]] W fun e w' => e = .returned (.tuple #[.agg #[.int .i64 v', .int .i64 s', .string l'], .int .i64 cnt, .bool ok]) ∧ Below W.heap.size W w') := Lib.hid (fun W H => FS.out W H)
  clear FI FS
  go_wp2_with fail
  refine (FI2.out _ L1.now.1.2 L1.now.1.1.2).mono ?_
  rintro e w2 ⟨rfl, hb2⟩
  have L1' := L1.next hb2
  have hlt1 := L1'.now.2.lt
  have L2 := (L1'.next ((Below.refl _ _).alloc (Nat.le_refl _) (.cells #[.int .i64 v', .int .i64 s', .string l'] 50))).and (Live.blk (Blk.new w2 50 #[.int .i64 v', .int .i64 s', .string l']))
  have a0 := L1'.now.2.cell 0
  have a1 := L1'.now.2.cell 1
  have a2 := L1'.now.2.cell 2
  have n1 : ¬ w1.heap.size = w2.heap.size := by omega
  clear L1 hb2
  go_wp2_with fail
  refine (FS2.out _ L2.now.1.1.2).mono ?_
  rintro e w3 ⟨rfl, hb3⟩
  have L3 := L2.next hb3
  have hlt2 := L3.now.2.lt
  have n2 : ¬ w2.heap.size = w3.heap.size := by omega
  have n3 : ¬ w1.heap.size = w3.heap.size := by omega
  clear a0 a1 a2 L2 L1' hb3 FI2 FS2
  have m0 := L3.now.2.cell 0
  have m1 := L3.now.2.cell 1
  have m2 := L3.now.2.cell 2
  cases ok with
  | false =>
    clear hver his
    go_wp2_with fail
    go_ret
    exact ⟨rfl, L3.now.1.1.1.1.alloc L3.now.1.1.1.1.size _⟩
  | true =>
    obtain ⟨e1, e2, e3⟩ := hver rfl
    obtain ⟨i1, i2, i3, i4, -⟩ := his rfl
    have hv := foldOk_ver i3
    simp only at hv
    have hsv := storeVersion_yes i1 i2
    have hsl := stream_24 (s := s) i1
    clear hver his
    rw [← e1] at hsv
    subst e2
    have LB := L3.next ((Below.refl _ _).alloc (Nat.le_refl _) (.cells #[.int .i64 v', .int .i64 s', .string l'] 50))
    have hw : IntKind.i64.wrap (v' - ver) = v' - ver := IntWalk.i64_in _ (by omega)
    have c6 := fun x : On (w3.alloc (.cells #[.int .i64 v', .int .i64 s', .string l'] 50)) => (show x.W.cell? ⟨w2.heap.size, 0, none⟩ = some (.int .i64 v') from (LB.next x.below).now.2.cell 0)
    have c5 := fun x : On (w3.alloc (.cells #[.int .i64 v', .int .i64 s', .string l'] 50)) => (show x.W.cell? ⟨w1.heap.size, 0, none⟩ = some (.int .i64 ver) from (LB.next x.below).now.1.2.cell 0)
    have V := fun x : On (w3.alloc (.cells #[.int .i64 v', .int .i64 s', .string l'] 50)) => storeVersion_any Ax k cx xs s x.W (LB.next x.below).now.1.1.2 (EnB.small HB.out) hs' (by omega) (LB.next x.below).now.1.1.1.2
    rw [← e1] at V
    have VH := Lib.hid V
    have hle : ver ≤ v' := by omega
    clear V e1 hsv i1 i2 i3 i4
    go_wp2_with fail
    refine wp_region_on (by kernel_rfl) (by kernel_rfl) ?_
    repeat (go_big_quiet_step ((go_at_call 32; exact On.calls (VH.out _))))
    refine wpQuiet_nil ?_
    intro _ hw'
    obtain ⟨⟨w4, hb4⟩, hw''⟩ := hw'
    subst hw''
    have L4 := LB.next hb4
    go_wp2_with fail
    go_ret
    exact ⟨rfl, L4.now.1.1.1.1⟩
end Go.Proofs.YtbcfbkcadceniaaDoor
