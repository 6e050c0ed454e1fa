/- Appending to a store: the program's and the reference's. -/
import Derived.Test.YtdmffpjljaolcaaDoorPApp
import Derived.Laws.MakeOwn
import Derived.Laws.OwnMore
namespace Go.Proofs.YtdmffpjljaolcaaDoor
set_option linter.unusedVariables false
set_option linter.unusedSimpArgs false
open Go.RowKit

theorem make_row {P : Program} {TS T : TypeId} {z : Value} {size bytes : Nat} (E : Elem P TS T z size bytes) (k : Nat) (hk : k ≤ 1000000) (x : Int) (hx : x = k) (W : World) :
    (Instr.makeSlice TS (.int .i64 0) (.int .i64 x)).run P W = .ok (.slice (some ⟨W.heap.size, 0, none⟩) 0 k) (W.alloc (.cells (madeCells z.cells (k * size)) T)) := by
  obtain ⟨hu, hinfo, hzs, hsz, hby⟩ := E
  obtain ⟨i0, hi, iz0, iz1, iz2⟩ := info_parts hinfo
  subst hx
  have hb : (i0.bytes : Int) * (k : Int) ≤ 281474976710656 := by
    rw [iz2, ← Int.natCast_mul]
    have : bytes * k ≤ 1000 * 1000000 := Nat.mul_le_mul hby hk
    omega
  have h := run_make (P := P) (w := W) TS T i0 z hu hi iz0 .i64 .i64 0 (k : Int) (by omega) (by omega) hb (by omega)
  rw [h, iz1]
  rfl
theorem made_own {T : TypeId} {z : Value} {size k base : Nat} (W : World) (hb : base ≤ W.heap.size) (hk : k ≤ 1000000) : (W.alloc (.cells (madeCells z.cells (k * size)) T)).ownsRow base T size (.slice (some ⟨W.heap.size, 0, none⟩) 0 k) 0 [] :=
  World.ownsRow_made W _ k hb (by unfold maxLen; omega) (size_madeCells _ _)
def EnsIntRet (p : List En × Int) (w : World) (e : Ending) (w' : World) : Prop :=
  ∃ (A : Option Addr) (n c : Nat), e = .returned (.tuple #[.slice A n c, .int .i64 p.2]) ∧ Row enCells 4 w' w'.heap.size A n p.1 ∧ n ≤ c ∧ Hid (A = none → c = 0) ∧ Below w.heap.size w w'
theorem ens_int {xs : List En} {k : Int} {w w' : World} {A : Option Addr} {n c : Nat} (h1 : Row enCells 4 w' w'.heap.size A n xs) (h2 : n ≤ c) (h3 : Hid (A = none → c = 0)) (h4 : Below w.heap.size w w') : EnsIntRet (xs, k) w (.returned (.tuple #[.slice A n c, .int .i64 k])) w' := ⟨A, n, c, rfl, h1, h2, h3, h4⟩
theorem ens_int0 {k : Int} {w : World} (W : World) (hb : Below W.heap.size W w) : EnsIntRet ([], k) W (.returned (.tuple #[.slice (some ⟨w.heap.size, 0, none⟩) 0 0, .int .i64 k])) (w.alloc (.cells #[] 31)) :=
  ⟨_, 0, 0, rfl, Row.nil _ _ _, Nat.le_refl _, Lib.hid (fun e => by cases e), hb.alloc hb.size _⟩

set_option maxHeartbeats 4000000 in
theorem writeValid_any (A : Option Addr) (n c : Nat) (xs : List En) (s : ByteArray) (x : Int) (A' : Option Addr) (m d : Nat) (es : List Ev) (w : World) (h : Row enCells 4 w w.heap.size A n xs) (h' : Row evCells 3 w w.heap.size A' m es) (hsm : SmallEns xs) (hse : ∀ e ∈ es, e.kind.size ≤ maxLen) (hs : s.size ≤ maxLen) (hnb : n ≤ 1000000) (hmd : m ≤ d) (hmb : m ≤ 1000000) (hg : GE w) :
    Calls Tryd.prog 64 #[.slice A n c, .string s, .int .i64 x, .slice A' m d] w fun e w' => e = .returned (.bool (writeOk xs s x es)) ∧ Below w.heap.size w w' := by
  have H' := Lib.hid h'
  have Hl := Lib.hid h'.1
  have Hg := Lib.hid hg
  have V := Lib.hid (storeValid_any A n c xs w h hsm hnb hg)
  have X := Lib.hid (fun W => expectValid_any x W)
  have E := Lib.hid (fun W H => eventsValid_any A' m d es W H hse hmd hmb)
  clear h h' hsm hse hg
  cases hok : storeOk xs with
  | false =>
    rw [hok] at V
    have Hr := Lib.hid (show writeOk xs s x es = false by unfold writeOk; rw [hok]; simp)
    go_enter Tryd.func64, Tryd.ntmps64
    go_wp2_with (first
      | (go_at_call 19; refine V.out.mono ?_; rintro e w1 ⟨rfl, hb1⟩))
    go_ret
    exact ⟨ret_bool Hr.out.symm, hb1⟩
  | true =>
    rw [hok] at V
    cases hno : nameOk s.data.toList with
    | false =>
      have Hr := Lib.hid (show writeOk xs s x es = false by unfold writeOk; rw [hno]; simp)
      go_enter Tryd.func64, Tryd.ntmps64
      go_wp2_with (first
        | (go_at_call 19; refine V.out.mono ?_; rintro e w1 ⟨rfl, hb1⟩)
        | (go_at_call 50; refine (nameValid_any _ _ hs (Hg.out.below hb1)).mono ?_; rw [hno]; rintro e w2 ⟨rfl, hb2⟩))
      go_ret
      exact ⟨ret_bool Hr.out.symm, (bt hb1 hb2)⟩
    | true =>
      cases hxo : expOk x with
      | false =>
        rw [hxo] at X
        have Hr := Lib.hid (show writeOk xs s x es = false by unfold writeOk; rw [hxo]; simp)
        go_enter Tryd.func64, Tryd.ntmps64
        go_wp2_with (first
          | (go_at_call 19; refine V.out.mono ?_; rintro e w1 ⟨rfl, hb1⟩)
          | (go_at_call 50; refine (nameValid_any _ _ hs (Hg.out.below hb1)).mono ?_; rw [hno]; rintro e w2 ⟨rfl, hb2⟩)
          | (go_at_call 85; refine (X.out _).mono ?_; rintro e w3 ⟨rfl, rfl⟩))
        go_ret
        exact ⟨ret_bool Hr.out.symm, (bt hb1 hb2)⟩
      | true =>
        rw [hxo] at X
        cases heo : evsOk es with
        | false =>
          rw [heo] at E
          have Hr := Lib.hid (show writeOk xs s x es = false by unfold writeOk; rw [heo]; simp)
          go_enter Tryd.func64, Tryd.ntmps64
          go_wp2_with (first
            | (go_at_call 19; refine V.out.mono ?_; rintro e w1 ⟨rfl, hb1⟩)
            | (go_at_call 50; refine (nameValid_any _ _ hs (Hg.out.below hb1)).mono ?_; rw [hno]; rintro e w2 ⟨rfl, hb2⟩)
            | (go_at_call 85; refine (X.out _).mono ?_; rintro e w3 ⟨rfl, rfl⟩)
            | (go_at_call 46; refine (E.out _ (H'.out.next (bt hb1 hb2))).mono ?_; rintro e w4 ⟨rfl, hb4⟩))
          go_ret
          exact ⟨ret_bool Hr.out.symm, (bt (bt hb1 hb2) hb4)⟩
        | true =>
          rw [heo] at E
          by_cases hm0 : m = 0
          · subst hm0
            have Hr := Lib.hid (show writeOk xs s x es = false by unfold writeOk; rw [decide_eq_false (fun h : es ≠ [] => h (List.eq_nil_of_length_eq_zero Hl.out))]; simp)
            go_enter Tryd.func64, Tryd.ntmps64
            go_wp2_with (first
              | (go_at_call 19; refine V.out.mono ?_; rintro e w1 ⟨rfl, hb1⟩)
              | (go_at_call 50; refine (nameValid_any _ _ hs (Hg.out.below hb1)).mono ?_; rw [hno]; rintro e w2 ⟨rfl, hb2⟩)
              | (go_at_call 85; refine (X.out _).mono ?_; rintro e w3 ⟨rfl, rfl⟩)
              | (go_at_call 46; refine (E.out _ (H'.out.next (bt hb1 hb2))).mono ?_; rintro e w4 ⟨rfl, hb4⟩))
            go_ret
            exact ⟨ret_bool Hr.out.symm, (bt (bt hb1 hb2) hb4)⟩
          · have hmp : (0 : Int) < (m : Int) := by omega
            have Hr := Lib.hid (show writeOk xs s x es = true from writeOk_iff.2 ⟨hok, hno, hxo, heo, fun e => hm0 (by rw [← Hl.out, e]; rfl)⟩)
            go_enter Tryd.func64, Tryd.ntmps64
            go_wp2_with (first
              | (go_at_call 19; refine V.out.mono ?_; rintro e w1 ⟨rfl, hb1⟩)
              | (go_at_call 50; refine (nameValid_any _ _ hs (Hg.out.below hb1)).mono ?_; rw [hno]; rintro e w2 ⟨rfl, hb2⟩)
              | (go_at_call 85; refine (X.out _).mono ?_; rintro e w3 ⟨rfl, rfl⟩)
              | (go_at_call 46; refine (E.out _ (H'.out.next (bt hb1 hb2))).mono ?_; rintro e w4 ⟨rfl, hb4⟩))
            go_ret
            exact ⟨ret_bool (by rw [Hr.out]; exact decide_eq_true (by omega)), (bt (bt hb1 hb2) hb4)⟩

end Go.Proofs.YtdmffpjljaolcaaDoor
