/- A group that came in, opened: its number and its texts. -/
import Derived.Test.YtnfncnpnkmjjeaaFrame
import Derived.Test.YtnfncnpnkmjjeaaGroup
import Derived.SliceStrings
import Derived.ChangeSame
import Derived.ChangeMaps5
namespace Go.Proofs.Ytnfncnpnkmjjeaa
set_option linter.unusedVariables false
set_option linter.unusedSimpArgs false
open Go.ChangeShapes Go.WideShapes Go.ChangeAt Go.RowKit

theorem cellsG : Try.prog.cellsOf 24 = 2 := by kernel_rfl
theorem cellsGi : Try.prog.cellsOf 3 = 1 := by kernel_rfl
theorem cellsGs : Try.prog.cellsOf 9 = 1 := by kernel_rfl
theorem cellsGl : Try.prog.cellsOf 22 = 1 := by kernel_rfl
set_option maxRecDepth 100000 in
theorem group_of {H : Type} {enc : TypeId × Value → H} {W : World} {v : Value} {d : DataW H} {p : List MemPlace} {base : Nat}
    (hv : Value.okWide Try.prog W .any base 24 v) (h : DataW.Trod enc Try.prog W 0 (fun _ => true) true 24 v d p) :
    ∃ st A n c ms, v = .agg #[.int .i64 st, .slice A n c] ∧ Strs W W.heap.size A n ms ∧ AllSmall ms ∧ n ≤ maxLen ∧ ∀ x ∈ p, x.block < W.heap.size := by
  have lt0 : ∀ x ∈ p, x.block < W.heap.size := by obtain ⟨m, hm⟩ := h; exact DataW.trod_lt m _ _ _ hm
  obtain ⟨cs, rfl, hsz⟩ := okWide_struct Try.underlying24 hv
  rw [cellsG] at hsz
  obtain ⟨l⟩ := cs
  match l, hsz with
  | [c0, c1], _ =>
  obtain ⟨fuel, hf⟩ := h
  obtain ⟨y0, y1, m, hx, _, hy0, hy1⟩ := trod_struct2 Try.underlying24 hf
  obtain ⟨st, e0, rfl, _⟩ := DataW.trod_int Try.underlying3 hy0
  simp [Value.cells, cellsGi] at e0
  subst e0
  rcases open_strings Try.underlying22 Try.underlying9 cellsGs hy1 with ⟨hcs, _⟩ | ⟨x, n, c, ss, hcs, _, hl, hm, hn, _, hcell, hsm⟩
  · simp [Value.cells, cellsGl] at hcs
    subst hcs
    exact ⟨st, none, 0, 0, [], rfl, Strs.nil _ _ _, (fun m hm => by cases hm), Nat.zero_le _, lt0⟩
  · simp [Value.cells, cellsGl] at hcs
    subst hcs
    have hsl : ss.length = c := by simpa using hn
    refine ⟨st, some x, n, c, ss.take n, rfl, ⟨by simp; omega, fun hn0 => ?_⟩, fun s hs => hsm s (List.mem_of_mem_take hs), Nat.le_trans hl hm, lt0⟩
    obtain ⟨b, off, spot⟩ := x
    have hc0 := hcell 0 (by omega)
    have hspot : spot = none := by simpa [Addr.add] using World.cell?_spot hc0
    subst hspot
    have hb : b < W.heap.size := by simpa [Addr.add] using World.block_lt_of_cell? W _ hc0
    refine ⟨b, off, rfl, hb, fun j hj => ?_⟩
    have hj2 : j < n := by have := hj; simp at this; omega
    have hc := hcell j (by omega)
    have e : (⟨b, off, none⟩ : Addr).add j = ⟨b, off + j, none⟩ := by unfold Addr.add; split <;> simp_all
    rw [e] at hc
    rw [hc]
    simp [List.getD_eq_getElem?_getD, List.getElem?_eq_getElem (show j < ss.length by omega)]
end Go.Proofs.Ytnfncnpnkmjjeaa
