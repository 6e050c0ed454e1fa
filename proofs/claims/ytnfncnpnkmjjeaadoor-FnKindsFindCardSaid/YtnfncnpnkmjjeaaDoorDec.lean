/- The reference's decimal numeral. -/
import Derived.Test.YtnfncnpnkmjjeaaDoorWord
import Derived.Lib.SlBytesConst
import Derived.Deep.RegionWith
namespace Go.Proofs.YtnfncnpnkmjjeaaDoor
set_option linter.unusedVariables false
set_option linter.unusedSimpArgs false
open Go.RowKit

theorem one_byte (w : World) (x : Int) :
    (convert 31 9 (.slice (some ⟨w.heap.size, 0, none⟩) 1 1)).run Tryd.prog (w.alloc (.cells #[.int .u8 x] 5)) = .ok (.string ⟨#[UInt8.ofNat x.toNat]⟩) (w.alloc (.cells #[.int .u8 x] 5)) := by
  rw [run_convert_bytes_string _ _ _ _ _ _ _ Tryd.underlying31 Tryd.underlying5 Tryd.underlying9]
  rw [run_bytesToString (ns := [x])]
  · rfl
  · simp [loadCells, loadCellsFrom, go_sem]

theorem one_byte_at (w : World) (g : Nat) (x : Int) (hc : w.cell? ⟨g, 0, none⟩ = some (.int .u8 x)) :
    (convert 31 9 (.slice (some ⟨g, 0, none⟩) 1 1)).run Tryd.prog w = .ok (.string ⟨#[UInt8.ofNat x.toNat]⟩) w := by
  rw [run_convert_bytes_string _ _ _ _ _ _ _ Tryd.underlying31 Tryd.underlying5 Tryd.underlying9]
  rw [run_bytesToString (ns := [x])]
  · rfl
  · simp [loadCells, loadCellsFrom, go_sem, hc]
theorem one_byte_drew (w : World) (x : Int) :
    (convert 31 9 (.slice (some ⟨w.heap.size, 0, none⟩) 1 1)).run Tryd.prog (w.alloc (.cells #[.int .u8 x] 5)).drew = .ok (.string ⟨#[UInt8.ofNat x.toNat]⟩) (w.alloc (.cells #[.int .u8 x] 5)).drew :=
  one_byte_at _ w.heap.size x (by rw [show (w.alloc (.cells #[.int .u8 x] 5)).drew.cell? ⟨w.heap.size, 0, none⟩ = (w.alloc (.cells #[.int .u8 x] 5)).cell? ⟨w.heap.size, 0, none⟩ from rfl, cell_of_row _ _ _ _ _ (0, 0) (heap_alloc_new w _)]; rfl)
theorem one_byte_after {W w' : World} (hb : Below W.heap.size W w') (g : Nat) (x : Int) (hc : W.cell? ⟨g, 0, none⟩ = some (.int .u8 x)) (hg : g < W.heap.size) :
    (convert 31 9 (.slice (some ⟨g, 0, none⟩) 1 1)).run Tryd.prog w' = .ok (.string ⟨#[UInt8.ofNat x.toNat]⟩) w' :=
  one_byte_at w' g x ((hb.cell (p := ⟨g, 0, none⟩) hg).trans hc)

theorem one_byte_b {w w' : World} {x : Int} (hb : Below (w.alloc (.cells #[.int .u8 x] 5)).drew.heap.size (w.alloc (.cells #[.int .u8 x] 5)).drew w') :
    (convert 31 9 (.slice (some ⟨w.heap.size, 0, none⟩) 1 1)).run Tryd.prog w' = .ok (.string ⟨#[UInt8.ofNat x.toNat]⟩) w' :=
  one_byte_after hb w.heap.size x (by rw [show (w.alloc (.cells #[.int .u8 x] 5)).drew.cell? ⟨w.heap.size, 0, none⟩ = (w.alloc (.cells #[.int .u8 x] 5)).cell? ⟨w.heap.size, 0, none⟩ from rfl, cell_of_row _ _ _ _ _ (0, 0) (heap_alloc_new w _)]; rfl) (by show w.heap.size < (w.alloc _).heap.size; simp)

theorem below_b1 {w w' : World} (hb : Below w.drew.heap.size w.drew w') (o : Obj) : Below w.heap.size w (w'.alloc o) :=
  (((Below.refl w.heap.size w).drew).trans hb).alloc hb.size _
theorem below_b2 {w w' : World} {o : Obj} (hb : Below (w.alloc o).drew.heap.size (w.alloc o).drew w') : Below w.heap.size w w' :=
  (((Below.refl w.heap.size w).alloc (Nat.le_refl _) o).drew).trans (hb.mono (by show w.heap.size ≤ (w.alloc o).heap.size; simp))

theorem dec_str_small {n : Nat} (h : n < 10) : (⟨(Lib.decDigits n).toArray⟩ : ByteArray) = ⟨#[dch n]⟩ := by rw [dec_small h]

theorem dec_str_big {n : Nat} (h : ¬ n < 10) : (⟨(Lib.decDigits n).toArray⟩ : ByteArray) = ⟨(Lib.decDigits (n / 10)).toArray⟩ ++ ⟨#[dch (n % 10)]⟩ := by
  rw [dec_big h]
  apply ByteArray.ext
  simp

set_option maxHeartbeats 1000000 in
set_option maxRecDepth 100000 in
theorem l6Dec_any (n : Nat) : ∀ (m : Int) (w : World), m = n → n ≤ 1000000 →
    Calls Tryd.prog 64 #[.int .i64 m] w fun e w' => e = .returned (.string ⟨(Lib.decDigits n).toArray⟩) ∧ Below w.heap.size w w' := by
  induction n using Nat.strongRecOn with
  | _ n ih =>
    intro m w hm hn
    subst hm
    have ob := one_byte
    by_cases h : n < 10
    · have hd := Lib.hid (dec_str_small h)
      clear ih
      go_enter Tryd.func64, Tryd.ntmps64
      go_wp2_with fail
      go_ret
      exact ⟨by rw [hd.out]; rfl, (Below.refl _ _).alloc (Nat.le_refl _) _⟩
    · have hd := Lib.hid (dec_str_big h)
      have Ih := Lib.hid ih
      clear ih
      have hlen : (Lib.decDigits (n / 10)).length ≤ 7 := dec_len_le (n / 10) 6 (by omega)
      have ob2 := one_byte_drew
      have q1 : IntKind.i64.wrap ((n : Int) / 10) = (n : Int) / 10 := IntWalk.i64_in _ (by omega)
      have q2 : (n : Int).tmod 10 = (n : Int) % 10 := Int.tmod_eq_emod_of_nonneg (by omega)
      have q3 : IntKind.i64.wrap (48 + (n : Int) % 10) = 48 + (n : Int) % 10 := IntWalk.i64_in _ (by omega)
      have q4 : IntKind.u8.wrap (48 + (n : Int) % 10) = 48 + (n : Int) % 10 := by rw [IntKind.wrap_u8]; omega
      go_enter Tryd.func64, Tryd.ntmps64
      go_wp2_with fail
      go_region_with (go_at_call 64; refine (Ih.out (n / 10) (by omega) _ _ (by omega) (by omega)).mono ?_; rintro e w' ⟨rfl, hb⟩; try (have hx := one_byte_b hb))
      all_goals go_wp2_with fail
      all_goals go_ret
      all_goals first
        | exact ⟨by rw [hd.out]; simp [Act.put, dch], below_b1 hb _⟩
        | exact ⟨by rw [hd.out]; simp [Act.put, dch], below_b2 hb⟩
end Go.Proofs.YtnfncnpnkmjjeaaDoor
