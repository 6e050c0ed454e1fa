/- What every statement of this seat shares: how codes are opened, what the listed variable gives. -/
import Derived.Test.YtnfncnpnkmjjeaaDoorCards
import Derived.Test.YtnfncnpnkmjjeaaDoorTie
import Derived.Test.YtnfncnpnkmjjeaaDoorRows
import Derived.Test.YtnfncnpnkmjjeaaDoorChecked
import Derived.Test.YtnfncnpnkmjjeaaDoorDraw1
import Derived.WalkKit
import Derived.ProofKit
import Derived.OpenShut
import Derived.ChangeOld
import Derived.WalkSmall
import Derived.Deep.DeepHandedRow
import Derived.Lib.LaidTab
import Derived.Stop.LaidErr
import Derived.Test.YtnfncnpnkmjjeaaDoorNamesI
namespace Go.Proofs.YtnfncnpnkmjjeaaDoor
set_option linter.unusedVariables false
set_option linter.unusedSimpArgs false
open Go.ChangeShapes Go.WideShapes Go.ChangeAt Go.RowKit

theorem own : ownKnob Tryd.prog.godebug = none := by kernel_rfl
theorem laidOut : laidOutB Tryd.prog = true := by kernel_rfl
theorem cellsU8 : Tryd.prog.cellsOf 5 = 1 := by kernel_rfl

set_option maxRecDepth 100000 in
/-- a slice of bytes that came in is a code. -/
theorem code_of {H : Type} {enc : TypeId × Value → H} {W : World} {v : Value} {d : DataW H} {p : List MemPlace} {base : Nat}
    (hv : Value.okWide Tryd.prog W .any base 31 v) (h : DataW.Trod enc Tryd.prog W 0 (fun _ => true) true 31 v d p) :
    ∃ A n c, v = .slice A n c ∧ Code W A n c ∧ ∀ x ∈ p, x.block < W.heap.size := by
  have lt0 : ∀ x ∈ p, x.block < W.heap.size := by obtain ⟨m, hm⟩ := h; exact DataW.trod_lt m _ _ _ hm
  obtain ⟨a0, len0, cap0, rfl⟩ := okWide_slice Tryd.underlying31 hv
  refine ⟨a0, len0, cap0, rfl, ?_, lt0⟩
  obtain ⟨fuel, hf⟩ := h
  rcases open_ints Tryd.underlying31 Tryd.underlying5 cellsU8 hf with ⟨hcs, _⟩ | ⟨x, l, c, zs, hcs, _, hl, hm, hz, _, hcell, hwz⟩
  · simp [Value.cells] at hcs
    obtain ⟨rfl, rfl, rfl⟩ := hcs
    exact ⟨Nat.le_refl _, Nat.zero_le _, fun h => absurd h (by omega)⟩
  · simp [Value.cells] at hcs
    obtain ⟨rfl, rfl, rfl⟩ := hcs
    refine ⟨hl, Nat.le_trans hl hm, fun hn => ?_⟩
    have hzl : zs.length = cap0 := by simpa using hz
    obtain ⟨b, off, spot⟩ := x
    have hc0 := hcell 0 (by omega)
    have hspot : spot = none := by simpa [Addr.add] using World.cell?_spot hc0
    subst hspot
    have hb : b < W.heap.size := by simpa [Addr.add] using World.block_lt_of_cell? W _ hc0
    refine ⟨b, off, rfl, hb, fun j hj => ?_⟩
    have hc := hcell j (by omega)
    have hw := hwz (zs.getD j 0) (by rw [List.getD_eq_getElem?_getD, List.getElem?_eq_getElem (by omega)]; exact List.getElem_mem _)
    have hw2 : 0 ≤ zs.getD j 0 ∧ zs.getD j 0 ≤ 255 := by
      simpa [Lit.wf, IntKind.min, IntKind.max, IntKind.bits, IntKind.signed] using hw
    refine ⟨(zs.getD j 0).toNat, by omega, ?_⟩
    rw [Int.toNat_of_nonneg hw2.1, ← hc]
    congr 1
    unfold Addr.add
    split <;> simp_all

theorem gErr : Tryd.prog.globalNamed "loop.example/streambarrier/impl.errNoName" = some 0 := by kernel_rfl
theorem gErrType : (Tryd.prog.globals[0]?).map (·.type) = some 83 := by kernel_rfl
theorem cellsErr : Tryd.prog.cellsOf 152 = 1 := by kernel_rfl
theorem cellsStr : Tryd.prog.cellsOf 9 = 1 := by kernel_rfl
theorem starErr : "*" ++ "errors.errorString" = "*errors.errorString" := by decide
theorem rowErr (u : TypeId) (h : Tryd.prog.typeName? 3 u = some "*errors.errorString") : u = 126 :=
  typeName_ptr_named (nm := "errors.errorString") (by rw [starErr]; kernel_rfl) (by kernel_rfl) (by decide) u (by rw [starErr]; exact h)

/-- what a list that begins with the sentinel gives. -/
theorem err_of {W : World} {text : List UInt8} {r : List (String × DataW Unit)}
    (h : laidMet Tryd.prog (("loop.example/streambarrier/impl.errNoName", .iface "*errors.errorString" (.ptr (.agg [.lit (.string text)]))) :: r) W) :
    ∃ a : Addr, W.var? Tryd.prog "loop.example/streambarrier/impl.errNoName" = some #[.iface 126 (.pointer (some a))] := by
  obtain ⟨a, s, hv, _⟩ := laid_sentinel h gErr gErrType Tryd.underlying83 rowErr Tryd.underlying126 Tryd.underlying152 rfl rfl Tryd.underlying9 cellsErr cellsStr
  exact ⟨a, hv⟩
theorem ge_of {W : World} {a : Addr} (hv : W.var? Tryd.prog "loop.example/streambarrier/impl.errNoName" = some #[.iface 126 (.pointer (some a))]) : GE W :=
  ⟨a, by simpa using World.var?_cell gErr hv 0⟩
theorem lt_of_var {W : World} {a : Addr} (hv : W.var? Tryd.prog "loop.example/streambarrier/impl.errNoName" = some #[.iface 126 (.pointer (some a))]) : 0 < W.heap.size := by
  have h : W.cell? ⟨0, 0, none⟩ = some (.iface 126 (.pointer (some a))) := by simpa using World.var?_cell gErr hv 0
  exact World.block_lt_of_cell? W _ h

end Go.Proofs.YtnfncnpnkmjjeaaDoor
