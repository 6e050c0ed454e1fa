/- The reader of drawn codes: pick, of, open. -/
import Derived.Test.YtnfncnpnkmjjeaaDoorWord
import Derived.Deep.QuietTactic
import Derived.BigQuiet
import Derived.IntWalk
namespace Go.Proofs.YtnfncnpnkmjjeaaDoor
set_option linter.unusedVariables false
set_option linter.unusedSimpArgs false
open Go.RowKit

/-- the reader in block r: a slice of at most 2000 bytes that lie ahead of r, and a place of at most N. -/
def Rd (w : World) (r N : Nat) : Prop :=
  ∃ (A : Option Addr) (n c : Nat) (p : Nat) (T : TypeId), w.heap[r]? = some (.cells #[.slice A n c, .int .i64 p] T (0, 0)) ∧ p ≤ N ∧ n ≤ 2000 ∧
    (0 < n → ∃ b off, A = some ⟨b, off, none⟩ ∧ b < r ∧ ∀ j, j < n → ∃ x : Nat, x ≤ 255 ∧ w.cell? ⟨b, off + j, none⟩ = some (.int .u8 x))

theorem Rd.keep {w w' : World} {r N : Nat} (h : Rd w r N) (hk : ∀ k, k ≤ r → w'.heap[k]? = w.heap[k]?) : Rd w' r N := by
  obtain ⟨A, n, c, p, T, h1, h2, h3, h4⟩ := h
  refine ⟨A, n, c, p, T, (hk r (Nat.le_refl _)).trans h1, h2, h3, fun hn => ?_⟩
  obtain ⟨b, off, e, hb, hx⟩ := h4 hn
  refine ⟨b, off, e, hb, fun j hj => ?_⟩
  obtain ⟨x, hx1, hx2⟩ := hx j hj
  exact ⟨x, hx1, (World.cell?_of_block (w := w) (hk b (by omega))).trans hx2⟩
theorem Rd.more {w : World} {r N M : Nat} (h : Rd w r N) (hk : N ≤ M) : Rd w r M := by
  obtain ⟨A, n, c, p, T, h1, h2, h3, h4⟩ := h
  exact ⟨A, n, c, p, T, h1, by omega, h3, h4⟩
theorem Rd.lt {w : World} {r N : Nat} (h : Rd w r N) : r < w.heap.size := by
  obtain ⟨A, n, c, p, T, h1, h2, h3, h4⟩ := h
  exact (Array.getElem?_eq_some_iff.1 h1).1
theorem Rd.below {w w' : World} {r N : Nat} (h : Rd w r N) (hb : Below w.heap.size w w') : Rd w' r N :=
  h.keep fun k hk => hb.block k (by have := h.lt; omega)
theorem Rd.below1 {w w' : World} {r N : Nat} (h : Rd w r N) (hb : Below (r + 1) w w') : Rd w' r N :=
  h.keep fun k hk => hb.block k (by omega)

theorem i64_xor_nat (a b : Nat) (ha : a < 9223372036854775808) (hb : b < 9223372036854775808) : bits .xor .i64 (a : Int) (b : Int) = ((a ^^^ b : Nat) : Int) := by
  have ofInt : ∀ a : Nat, a < 9223372036854775808 → (BitVec.ofInt 64 (a : Int)).toNat = a := fun a ha => by
    rw [BitVec.ofInt_natCast, BitVec.toNat_ofNat]; exact Nat.mod_eq_of_lt (by omega)
  have hx : a ^^^ b < 2 ^ 63 := Nat.xor_lt_two_pow (by omega) (by omega)
  show IntKind.i64.wrap ((BitVec.ofInt 64 (a : Int) ^^^ BitVec.ofInt 64 (b : Int)).toNat : Int) = _
  rw [BitVec.toNat_xor, ofInt a ha, ofInt b hb, IntKind.wrap_i64]
  omega

theorem mix_nonneg (x y p n : Nat) (hx : x ≤ 255) (hy : y ≤ 255) (hp : p ≤ 1000000) :
    0 ≤ bits .xor .i64 (wrap64 ((x : Int) * 131 + (y : Int) * 1117 + (p : Int) * 29 + wrap64 (wrap64 ((p : Int) / (n : Int)) * 53)))
      (wrap64 ((wrap64 ((x : Int) * 131 + (y : Int) * 1117 + (p : Int) * 29 + wrap64 (wrap64 ((p : Int) / (n : Int)) * 53))).tdiv 64)) := by
  obtain ⟨q, hq, e0⟩ : ∃ q : Nat, q ≤ p ∧ (p : Int) / (n : Int) = (q : Int) := ⟨p / n, Nat.div_le_self p n, rfl⟩
  have w1 : wrap64 (q : Int) = q := IntWalk.wrap64_in _ ⟨by omega, by omega⟩
  have w2 : wrap64 ((q : Int) * 53) = (q : Int) * 53 := IntWalk.wrap64_in _ ⟨by omega, by omega⟩
  have w3 : wrap64 ((x : Int) * 131 + (y : Int) * 1117 + (p : Int) * 29 + (q : Int) * 53) = (x : Int) * 131 + (y : Int) * 1117 + (p : Int) * 29 + (q : Int) * 53 := IntWalk.wrap64_in _ ⟨by omega, by omega⟩
  rw [e0, w1, w2, w3]
  obtain ⟨z, hz⟩ : ∃ z : Nat, (x : Int) * 131 + (y : Int) * 1117 + (p : Int) * 29 + (q : Int) * 53 = z := ⟨((x : Int) * 131 + (y : Int) * 1117 + (p : Int) * 29 + (q : Int) * 53).toNat, by omega⟩
  have hz2 : z ≤ 1000000000 := by omega
  rw [hz, Int.tdiv_eq_ediv_of_nonneg (by omega), show (z : Int) / 64 = ((z / 64 : Nat) : Int) from rfl, IntWalk.wrap64_in _ ⟨by omega, by omega⟩, i64_xor_nat _ _ (by omega) (by omega)]
  omega

def PickPost (r N : Nat) (m : Int) (w : World) (e : Ending) (w' : World) : Prop :=
  ∃ x : Nat, e = .returned (.int .i64 x) ∧ (1 ≤ m → (x : Int) < m) ∧ w.grownBy w' (some r) ∧ Rd w' r (N + 1)
theorem PickPost.mk {r N : Nat} {m : Int} {w : World} {w' : World} (x : Int) (h0 : 0 ≤ x) (h : 1 ≤ m → x < m) (hw : w.grownBy w' (some r) ∧ Rd w' r (N + 1)) : PickPost r N m w (.returned (.int .i64 x)) w' :=
  ⟨x.toNat, by rw [Int.toNat_of_nonneg h0], by rw [Int.toNat_of_nonneg h0]; exact h, hw⟩

set_option maxHeartbeats 1000000 in
theorem pick_any (r N : Nat) (m : Int) (w : World) (h : Rd w r N) (hN : N ≤ 1000000) (hm : m ≤ 1000000000) :
    Calls Tryd.prog 51 #[.pointer (some ⟨r, 0, none⟩), .int .i64 m] w (PickPost r N m w) := by
  obtain ⟨A, n, c, p, T, h1, h2, h3, h4⟩ := h
  have c0 : w.cell? ⟨r, 0, none⟩ = some (.slice A n c) := by rw [cell_of_row w r 0 _ T (0, 0) h1]; rfl
  have c1 : w.cell? ⟨r, 1, none⟩ = some (.int .i64 p) := by rw [cell_of_row w r 1 _ T (0, 0) h1]; rfl
  have f1 : w.frozen? ⟨r, 1, none⟩ = false := by simp [World.frozen?, h1]
  have hset : ∀ k : Nat, w.grownBy ((w.setCell ⟨r, 1, none⟩ (.int .i64 ((p : Int) + 1))).drewN k) (some r) ∧ Rd ((w.setCell ⟨r, 1, none⟩ (.int .i64 ((p : Int) + 1))).drewN k) r (N + 1) := fun k => by
    refine ⟨⟨rfl, rfl, rfl, by simp [World.setCell, World.drewN], fun i hi hne => ?_⟩, ?_⟩
    · exact Below.heap_setCell w ⟨r, 1, none⟩ _ i (fun e => hne (by rw [e]))
    · refine ⟨A, n, c, p + 1, T, ?_, by omega, h3, fun hn => ?_⟩
      · show (w.setCell ⟨r, 1, none⟩ _).heap[r]? = _
        simp [World.setCell, Array.getElem?_modify, h1]
      · obtain ⟨b, off, e, hb, hx⟩ := h4 hn
        refine ⟨b, off, e, hb, fun j hj => ?_⟩
        obtain ⟨x, hx1, hx2⟩ := hx j hj
        refine ⟨x, hx1, ?_⟩
        show (w.setCell ⟨r, 1, none⟩ _).cell? _ = _
        rw [World.cell?_setCell_other _ _ _ _ (by intro e; injection e with e1 e2; omega)]
        exact hx2
  have Hset := Lib.hid hset
  clear hset
  by_cases hm1 : m < 1
  · go_enter Tryd.func51, Tryd.ntmps51
    go_wp2
    go_ret
    exact PickPost.mk 0 (by omega) (fun h => absurd h (by omega)) (Hset.out 0)
  by_cases hn : n = 0
  · subst hn
    go_enter Tryd.func51, Tryd.ntmps51
    go_wp2
    go_ret
    exact PickPost.mk 0 (by omega) (fun h => by omega) (Hset.out 0)
  by_cases hlt : p < n
  · obtain ⟨b, off, rfl, hb, hx⟩ := h4 (by omega)
    obtain ⟨x, hx1, hx2⟩ := hx p hlt
    go_enter Tryd.func51, Tryd.ntmps51
    go_wp2
    go_ret
    exact PickPost.mk _ (Int.emod_nonneg _ (by omega)) (fun _ => Int.emod_lt_of_pos _ (by omega)) (Hset.out 0)
  · obtain ⟨b, off, rfl, hb, hx⟩ := h4 (by omega)
    have hq1 : p % n < n := Nat.mod_lt _ (by omega)
    have hq2 : (p * 7 + 3) % n < n := Nat.mod_lt _ (by omega)
    obtain ⟨x, hx1, hx2⟩ := hx (p % n) hq1
    obtain ⟨y, hy1, hy2⟩ := hx ((p * 7 + 3) % n) hq2
    go_enter Tryd.func51, Tryd.ntmps51
    go_wp2
    have m1 : (p : Int).tmod (n : Int) = (p : Int) % (n : Int) := Int.tmod_eq_emod_of_nonneg (by omega)
    have g1 : (0 : Int) ≤ (p : Int) % n := by omega
    have g2 : (p : Int) % n < n := Int.emod_lt_of_pos _ (by omega)
    have g3 : ((p : Int) % n).toNat = p % n := by omega
    have e1 : IntKind.i64.wrap ((p : Int) * 7) = (p : Int) * 7 := IntWalk.i64_in _ (by omega)
    have e2 : IntKind.i64.wrap ((p : Int) * 7 + 3) = (p : Int) * 7 + 3 := IntWalk.i64_in _ (by omega)
    have m2 : ((p : Int) * 7 + 3).tmod (n : Int) = ((p : Int) * 7 + 3) % (n : Int) := Int.tmod_eq_emod_of_nonneg (by omega)
    have g4 : (0 : Int) ≤ ((p : Int) * 7 + 3) % n := Int.emod_nonneg _ (by omega)
    have g5 : ((p : Int) * 7 + 3) % n < n := Int.emod_lt_of_pos _ (by omega)
    have g6 : (((p : Int) * 7 + 3) % n).toNat = (p * 7 + 3) % n := by rw [show ((p : Int) * 7 + 3) = ((p * 7 + 3 : Nat) : Int) by omega, ← Int.natCast_emod, Int.toNat_natCast]
    have m3 : (p : Int).tdiv (n : Int) = ((p / n : Nat) : Int) := by rw [Int.tdiv_eq_ediv_of_nonneg (by omega)]; rfl
    have e3 : IntKind.i64.wrap ((x : Int) * 131) = (x : Int) * 131 := IntWalk.i64_in _ (by omega)
    have e4 : IntKind.i64.wrap ((y : Int) * 1117) = (y : Int) * 1117 := IntWalk.i64_in _ (by omega)
    go_quiet (fail)
    go_wp2_with fail
    go_ret
    exact PickPost.mk _ (Int.tmod_nonneg m (mix_nonneg x y p n hx1 hy1 (by omega))) (fun _ => Int.tmod_lt_of_pos _ (by omega)) (Hset.out nq)
end Go.Proofs.YtnfncnpnkmjjeaaDoor
