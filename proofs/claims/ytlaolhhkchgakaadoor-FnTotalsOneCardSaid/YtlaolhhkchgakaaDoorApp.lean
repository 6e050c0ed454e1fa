/- Appending to a store: the program's and the reference's. -/
import Derived.Test.YtlaolhhkchgakaaDoorPApp
import Derived.Laws.MakeOwn
import Derived.Laws.OwnMore
namespace Go.Proofs.YtlaolhhkchgakaaDoor
set_option linter.unusedVariables false
set_option linter.unusedSimpArgs false
open Go.RowKit

theorem make_row {P : Program} {TS T : TypeId} {z : Value} {size bytes : Nat} (E : Elem P TS T z size bytes) (k : Nat) (hk : k ≤ 1000000) (x : Int) (hx : x = k) (W : World) :
    (Instr.makeSlice TS (.int .i64 0) (.int .i64 x)).run P W = .ok (.slice (some ⟨W.heap.size, 0, none⟩) 0 k) (W.alloc (.cells (madeCells z.cells (k * size)) T)) := by
  obtain ⟨hu, hinfo, hzs, hsz, hby⟩ := E
  obtain ⟨i0, hi, iz0, iz1, iz2⟩ := info_parts hinfo
  subst hx
  have hb : (i0.bytes : Int) * (k : Int) ≤ 281474976710656 := by
    rw [iz2, ← Int.natCast_mul]
    have : bytes * k ≤ 1000 * 1000000 := Nat.mul_le_mul hby hk
    omega
  have h := run_make (P := P) (w := W) TS T i0 z hu hi iz0 .i64 .i64 0 (k : Int) (by omega) (by omega) hb (by omega)
  rw [h, iz1]
  rfl
theorem made_own {T : TypeId} {z : Value} {size k base : Nat} (W : World) (hb : base ≤ W.heap.size) (hk : k ≤ 1000000) : (W.alloc (.cells (madeCells z.cells (k * size)) T)).ownsRow base T size (.slice (some ⟨W.heap.size, 0, none⟩) 0 k) 0 [] :=
  World.ownsRow_made W _ k hb (by unfold maxLen; omega) (size_madeCells _ _)
def EnsIntRet (p : List En × Int) (w : World) (e : Ending) (w' : World) : Prop :=
  ∃ (A : Option Addr) (n c : Nat), e = .returned (.tuple #[.slice A n c, .int .i64 p.2]) ∧ Row enCells 4 w' w'.heap.size A n p.1 ∧ n ≤ c ∧ Hid (A = none → c = 0) ∧ Below w.heap.size w w'
theorem ens_int {xs : List En} {k : Int} {w w' : World} {A : Option Addr} {n c : Nat} (h1 : Row enCells 4 w' w'.heap.size A n xs) (h2 : n ≤ c) (h3 : Hid (A = none → c = 0)) (h4 : Below w.heap.size w w') : EnsIntRet (xs, k) w (.returned (.tuple #[.slice A n c, .int .i64 k])) w' := ⟨A, n, c, rfl, h1, h2, h3, h4⟩
theorem ens_int0 {k : Int} {w : World} (W : World) (hb : Below W.heap.size W w) : EnsIntRet ([], k) W (.returned (.tuple #[.slice (some ⟨w.heap.size, 0, none⟩) 0 0, .int .i64 k])) (w.alloc (.cells #[] 35)) :=
  ⟨_, 0, 0, rfl, Row.nil _ _ _, Nat.le_refl _, Lib.hid (fun e => by cases e), hb.alloc hb.size _⟩

end Go.Proofs.YtlaolhhkchgakaaDoor
