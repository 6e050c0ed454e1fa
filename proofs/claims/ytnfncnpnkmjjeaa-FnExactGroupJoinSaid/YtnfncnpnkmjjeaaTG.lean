/- The exact laws' helpers on groups: measured, copied, compared. -/
import Derived.Test.YtnfncnpnkmjjeaaTStr
import Derived.Test.YtnfncnpnkmjjeaaTEq
import Derived.Deep.DeepCutAuto
namespace Go.Proofs.Ytnfncnpnkmjjeaa
set_option linter.unusedVariables false
set_option linter.unusedSimpArgs false
open Go.RowKit

theorem boxes3 {w w1 : World} {c0 c1 c2 : Array Value} {t0 t1 t2 : TypeId} (hb : Below (((w.alloc (.cells c0 t0)).alloc (.cells c1 t1)).alloc (.cells c2 t2)).heap.size (((w.alloc (.cells c0 t0)).alloc (.cells c1 t1)).alloc (.cells c2 t2)) w1) :
    Blk w1 (w.heap.size + 1) t1 c1 ∧ Blk w1 (w.heap.size + 2) t2 c2 ∧ Below w.heap.size w w1 := by
  have e1 : (w.alloc (.cells c0 t0)).heap.size = w.heap.size + 1 := by simp
  have e2 : ((w.alloc (.cells c0 t0)).alloc (.cells c1 t1)).heap.size = w.heap.size + 2 := by simp
  have B1 := Blk.new (w.alloc (.cells c0 t0)) t1 c1
  have B2 := Blk.new ((w.alloc (.cells c0 t0)).alloc (.cells c1 t1)) t2 c2
  rw [e1] at B1
  rw [e2] at B2
  have h1 := (Below.refl w.heap.size w).alloc (Nat.le_refl _) (.cells c0 t0)
  have h2 := h1.alloc h1.size (.cells c1 t1)
  exact ⟨(B1.alloc _).next hb, B2.next hb, bt (h2.alloc h2.size (.cells c2 t2)) hb⟩

def GrpAt (st : Int) (ms : List ByteArray) (w : World) (e : Ending) (w' : World) : Prop :=
  ∃ (A : Option Addr) (n c : Nat), e = .returned (.agg #[.int .i64 st, .slice A n c]) ∧ ((∀ p, A = some p → w.heap.size ≤ p.block ∧ ∃ cs, Blk w' p.block 9 cs) ∧ n = ms.length) ∧ Strs w' w'.heap.size A n ms ∧ Below w.heap.size w w'

set_option maxRecDepth 100000 in
set_option maxHeartbeats 2000000 in
theorem toGroup_any (st : Int) (A : Option Addr) (n c : Nat) (ms : List ByteArray) (w : World) (h : Strs w w.heap.size A n ms) (hnb : n ≤ 2000000) :
    Calls Try.prog 6 #[.agg #[.int .i64 st, .slice A n c]] w (GrpAt st ms w) := by
  have H := Lib.hid h
  clear h
  go_enter Try.func6, Try.ntmps6
  go_wp2_with (go_at_call 16; (refine (toStringS_any A n c ms _ ((H.out.boxed2 _ _).boxed1 _) hnb).mono ?_); rintro e w1 ⟨A1, n1, c1, rfl, ⟨hA1, hn1, hf1⟩, hs1, hb1⟩; obtain ⟨B1, B2, hw1⟩ := boxes3 hb1; have x0 := B1.cell 0; have x1 := B1.cell 1; have y0 := B2.cell 0; have y1 := B2.cell 1; have x2 := B1.frozen 0; have x3 := B1.frozen 1; have y2 := B2.frozen 0; have y3 := B2.frozen 1; have HS := Lib.hid hs1; have HW := Lib.hid hw1; have HB1 := Lib.hid B1; have HA1 := Lib.hid hA1; have Hn1 := Lib.hid hn1; have Hf1 : Hid (∀ p : Addr, A1 = some p → ∃ cs, Blk w1 p.block 9 cs) := Lib.hid (fun p hp => (by rw [hA1] at hp; obtain rfl := Option.some.inj hp; exact hf1)); clear hs1 hb1 hw1 B1 B2 hA1 hn1 hf1)
  have hA2 : ∀ p, A1 = some p → p.block = w.heap.size + 3 := fun p hp => by
    rw [HA1.out] at hp
    obtain rfl := Option.some.inj hp
    simp
  refine bodyPost_ret (v := .agg #[.int .i64 st, .slice A1 n1 c1]) (results_cell_row Try.results6 _ _ (w.heap.size + 1) 26 #[.int .i64 st, .slice A1 n1 c1] (0, 0) _ rfl (by have := ((HB1.out.far (p := ⟨w.heap.size + 1 + 1, 1, none⟩) (by simp only []; omega) (.slice A1 n1 c1)).set_ 0 (.int .i64 st)).set_ 1 (.slice A1 n1 c1); simpa [Blk] using this) Try.underlying26 rfl (by kernel_rfl)) rfl ?_
  refine ⟨A1, n1, c1, rfl, ⟨fun p hp => ⟨by have := hA2 p hp; omega, ?_⟩, Hn1.out⟩, ?_, ?_⟩
  · obtain ⟨cs, hB⟩ := Hf1.out p hp
    have hp2 := hA2 p hp
    exact ⟨cs, ((hB.far (p := ⟨w.heap.size + 1 + 1, 1, none⟩) (by simp only []; omega) _).far (p := ⟨w.heap.size + 1, 0, none⟩) (by simp only []; omega) _).far (p := ⟨w.heap.size + 1, 1, none⟩) (by simp only []; omega) _⟩
  · have h1 := Sl.far (Sl.far (Sl.far HS.out ⟨w.heap.size + 1 + 1, 1, none⟩ (.slice A1 n1 c1) (fun p hp => by have := hA2 p hp; simp only []; omega)) ⟨w.heap.size + 1, 0, none⟩ (.int .i64 st) (fun p hp => by have := hA2 p hp; simp only []; omega)) ⟨w.heap.size + 1, 1, none⟩ (.slice A1 n1 c1) (fun p hp => by have := hA2 p hp; simp only []; omega)
    simpa [Strs] using h1
  · exact ((HW.out.setCell (by simp only []; omega) _).setCell (by simp only []; omega) _).setCell (by simp only []; omega) _

set_option maxRecDepth 100000 in
set_option maxHeartbeats 2000000 in
theorem szGroup_any (st : Int) (A : Option Addr) (n c : Nat) (ms : List ByteArray) (q : Int) (w : World) (h : Strs w w.heap.size A n ms) (hsm : AllSmall ms) (hnb : n ≤ maxLen) (hq : 0 ≤ q) (hq2 : q ≤ 1048576) :
    Calls Try.prog 4 #[.agg #[.int .i64 st, .slice A n c], .int .i64 q] w fun e w' => ∃ r : Int, e = .returned (.int .i64 r) ∧ (0 ≤ r → (n : Int) ≤ q) ∧ -1 ≤ r ∧ r ≤ q ∧ Below w.heap.size w w' := by
  have H := Lib.hid h
  have Hs := Lib.hid hsm
  have Hn := Lib.hid hnb
  clear h hsm hnb
  have hb0 : Below w.heap.size w (w.alloc (.cells #[.int .i64 st, .slice A n c] 24)) := (Below.refl _ _).alloc (Nat.le_refl _) _
  have Hb0 := Lib.hid hb0
  clear hb0
  by_cases hr : ∀ r : Int, 0 ≤ r
  · exact absurd (hr (-1)) (by omega)
  clear hr
  go_enter Try.func4, Try.ntmps4
  go_upto_region 2 with (go_at_call 11; (refine (szStringS_any A n c ms q _ (H.out.boxed1 _) Hs.out Hn.out hq hq2).mono ?_); rintro e w1 ⟨r, rfl, hr0, hr1, hr2, hb1⟩)
  by_cases hr : r < 0
  · go_wp2_with fail
    go_ret
    exact ⟨-1, rfl, by omega, by omega, by omega, bt Hb0.out hb1⟩
  · go_wp2_with fail
    go_ret
    refine ⟨r, rfl, ?_⟩
    first | exact ⟨hr0, hr1, hr2, bt Hb0.out hb1⟩ | exact ⟨hr1, hr2, bt Hb0.out hb1⟩

set_option maxHeartbeats 2000000 in
theorem eqGroup_any (st : Int) (A B : Option Addr) (n c m d : Nat) (xs : List ByteArray) (w : World) (h : Strs w w.heap.size A n xs) (h' : Strs w w.heap.size B m xs) (hnb : n ≤ 1000000000) (hmb : m ≤ 1000000000) :
    Calls Try.prog 8 #[.agg #[.int .i64 st, .slice A n c], .agg #[.int .i64 st, .slice B m d]] w fun e w' => e = .returned (.bool true) ∧ Below w.heap.size w w' := by
  have e0 : (st == st) = true := beq_self_eq_true _
  have Hd := Lib.hid (eqT_refl xs)
  go_enter Try.func8, Try.ntmps8
  go_wp2_with (go_at_call 21; refine (eqStringS_any A B n c m d xs xs _ (h.boxed2 _ _) (h'.boxed2 _ _) hnb hmb).mono ?_; rw [Hd.out]; rintro e w1 ⟨rfl, hb1⟩)
  go_ret
  exact ⟨rfl, (boxes2 hb1).2.2.1⟩
end Go.Proofs.Ytnfncnpnkmjjeaa
