/- The entries from a place on, as a loop of one's own is handed them. -/
import Derived.Test.YtbcfbkcadceniaaDoorSubW
import Derived.Test.YtbcfbkcadceniaaDoorSameEn
import Derived.RangeFuncNested
import Derived.RangeFuncBound
import Derived.RangeFuncCalls
import Derived.RangeFuncLeaves
import Derived.Shelf.Abstract
import Derived.Shelf.RegionOpen
import Derived.RangeFuncBox
import Derived.OwnWalkIn
import Derived.TacticsInMore
import Derived.LoopNIn
import Derived.LoopIn
namespace Go.Proofs.YtbcfbkcadceniaaDoor
set_option linter.unusedVariables false
set_option linter.unusedSimpArgs false
open Go.RowKit Go.Shelf

attribute [local go_sem] Oper.semAt_some

def upTo (a k : Nat) : List Nat := (List.range k).map (a + ·)
theorem upTo_succ (a k : Nat) : upTo a (k + 1) = upTo a k ++ [a + k] := by simp [upTo, List.range_succ]
theorem upTo_len (a k : Nat) : (upTo a k).length = k := by simp [upTo]
theorem upTo_zero (a : Nat) : upTo a 0 = [] := rfl
/-- the list's box and the entries. -/
def Src (Bl n₀ : Nat) (A : Option Addr) (n c : Nat) (xs : List En) (W : World) : Prop := W.cell? ⟨Bl, 0, none⟩ = some (.slice A n c) ∧ Row enCells 4 W n₀ A n xs
def entArgs (xs : List En) (x : Nat) : Array Value := #[.int .i64 (x : Int), .agg #[.string (nx xs x).name, .int .i64 (nx xs x).ev.id, .string (nx xs x).ev.kind, .int .i64 (nx xs x).ev.data]]

set_option maxRecDepth 100000 in
set_option maxHeartbeats 4000000 in
theorem from1_in (F : Fence) (n : Nat) (h7 : F.fn 86) (hro : F.round = none) (hn : 1 ≤ n) (l Bl Bf n₀ : Nat) (A : Option Addr) (len cap a : Nat) (xs : List En) (hlen : len ≤ 1000) (Kp : World → World → Prop)
    (hKp : ∀ X Y, Kp X Y → Src Bl n₀ A len cap xs X → Src Bl n₀ A len cap xs Y) (J Jx : List Nat → World → Prop)
    (hY : ∀ pre x W, J pre W → pre.length < len - a → YieldAt F (n - 1) Tryd.prog l (entArgs xs x) W fun e W' =>
      (e = .returned (.bool true) ∧ J (pre ++ [x]) W' ∧ Kp W W') ∨ (e = .returned (.bool false) ∧ Jx (pre ++ [x]) W'))
    (W : World) (hBf : W.cell? ⟨Bf, 0, none⟩ = some (.int .i64 a)) (ha : a ≤ 1000) (hG : Src Bl n₀ A len cap xs W) (h0 : J [] W) :
    CallsIn F n Tryd.prog 86 #[.func (.yield l) #[] #[], .pointer (some ⟨Bf, 0, none⟩), .pointer (some ⟨Bl, 0, none⟩)] W fun e W' => (∃ v, e = .returned v) ∧
      ((∃ ys, ys = upTo a (len - a) ∧ J ys W') ∨ (∃ pre, (∃ k, k ≤ len - a ∧ pre = upTo a k) ∧ Jx pre W')) := by
  refine callsIn_of_wp Tryd.func86 rfl h7 ?_ hro
  simp only [Tryd.ntmps86, List.size_toArray, List.length_cons, List.length_nil, Nat.reduceAdd, Nat.reduceSub, Array.replicate_succ, Array.replicate_zero, List.push_toArray, List.append_toArray, List.nil_append, List.cons_append]
  gi_wp2
  gi_loopw [4] (fun i wr => ∃ p : Nat, a ≤ p ∧ p ≤ max a len ∧ i = .int .i64 (p : Int) ∧ J (upTo a (p - a)) wr ∧ Src Bl n₀ A len cap xs wr)
    (fun i _ => len - (intOf i).toNat)
  case atStart => exact ⟨a, Nat.le_refl _, by omega, rfl, by rw [Nat.sub_self]; exact h0, hG⟩
  case round =>
    obtain ⟨p, hap, hk, rfl, hJs, hS⟩ := hrel
    have cl := hS.1
    by_cases hlt : p < len
    · have hlt' : (p : Int) < (len : Int) := by omega
      obtain ⟨b, off, rfl, hb, hx⟩ := hS.2.en_at (by omega)
      obtain ⟨e0, e1, e2, e3⟩ := hx p _ (nx_get (by rw [hS.2.1]; exact hlt))
      obtain ⟨fn, tmps, assign, body, hy, hR⟩ := hY _ p wr hJs (by rw [upTo_len]; omega)
      unfold entArgs at hy
      have HS := Lib.hid hS
      have hs1 : upTo a (p + 1 - a) = upTo a (p - a) ++ [p] := by
        rw [show p + 1 - a = (p - a) + 1 by omega, upTo_succ, show a + (p - a) = p by omega]
      have Hs1 := Lib.hid hs1
      clear hx hS hs1
      gi_wp2
      refine hR.mono ?_
      rintro e W3 (⟨rfl, hJ3, hk3⟩ | ⟨rfl, hJx3⟩)
      · have hS3 := hKp _ _ hk3 HS.out
        have cl3 := hS3.1
        gi_wp2
        go_roundw
        case rel => exact ⟨p + 1, by omega, by omega, by simp, by rw [Hs1.out]; exact hJ3, hS3⟩
        case measure => simp [intOf]; omega
      · gi_wp2
        refine bodyPost_ret (results_none rfl _ _ _) rfl ?_
        exact ⟨⟨_, rfl⟩, .inr ⟨_, ⟨p + 1 - a, by omega, Hs1.out.symm⟩, hJx3⟩⟩
    · have hlt' : ¬ (p : Int) < (len : Int) := by omega
      have hpe : p - a = len - a := by omega
      have Hpe := Lib.hid hpe
      clear hpe
      gi_wp2
      go_end0
      first | exact ⟨⟨_, rfl⟩, .inl ⟨_, rfl, by rw [← Hpe.out]; exact hJs⟩⟩ | exact ⟨⟨_, rfl⟩, by rw [← Hpe.out]; exact .inl hJs⟩

set_option maxHeartbeats 1000000 in
/-- the maker: two boxes, and a function value that holds their addresses. -/
theorem from_in (F : Fence) (n : Nat) (h5 : F.fn 70) (hro : F.round = none) (A : Option Addr) (len cap a : Nat) (w : World) :
    CallsIn F n Tryd.prog 70 #[.slice A len cap, .int .i64 a] w fun e w' => e = .returned (.func (.func 86) #[] #[.pointer (some ⟨w.heap.size + 1, 0, none⟩), .pointer (some ⟨w.heap.size, 0, none⟩)]) ∧ w' = (w.alloc (.cells #[.slice A len cap] 23)).alloc (.cells #[.int .i64 a] 3) := by
  refine callsIn_of_wp Tryd.func70 rfl h5 ?_ hro
  simp only [Tryd.ntmps70, List.size_toArray, List.length_cons, List.length_nil, Nat.reduceAdd, Nat.reduceSub, Array.replicate_succ, Array.replicate_zero, List.push_toArray, List.append_toArray, List.nil_append, List.cons_append]
  gi_wp2
  go_ret
  exact ⟨rfl, rfl⟩

/-- what a round keeps: whatever lies below n₀, and the list's box. -/
def Keeps (n₀ Bl : Nat) (X Y : World) : Prop := Below n₀ X Y ∧ (Bl < X.heap.size → Y.heap[Bl]? = X.heap[Bl]?)
theorem Keeps.trans {n₀ Bl : Nat} {X Y Z : World} (h : Keeps n₀ Bl X Y) (k : Keeps n₀ Bl Y Z) : Keeps n₀ Bl X Z :=
  ⟨h.1.trans k.1, fun hl => (k.2 (Nat.lt_of_lt_of_le hl h.1.size)).trans (h.2 hl)⟩
theorem Keeps.putObj {n₀ Bl : Nat} {w : World} (hn : n₀ ≤ w.heap.size) (hB : Bl < w.heap.size) (W : World) (l : Nat) (o o' : Obj) (hl : w.heap.size ≤ l) (h : W.heap[l]? = some o) (h1 : o.isCells = false) (h2 : o.isWalk = false) : Keeps n₀ Bl W (W.putObj l o') :=
  ⟨belowK_b hn W l o o' hl h h1 h2, fun _ => World.putObj_heap_other (by omega)⟩
theorem Keeps.src {n₀ Bl : Nat} {A : Option Addr} {n c : Nat} {xs : List En} {X Y : World} (h : Keeps n₀ Bl X Y) (k : Src Bl n₀ A n c xs X) : Src Bl n₀ A n c xs Y := by
  have hl : Bl < X.heap.size := by
    have := k.1
    simp only [World.cell?] at this
    rcases Nat.lt_or_ge Bl X.heap.size with h1 | h1
    · exact h1
    · rw [Array.getElem?_eq_none h1] at this; cases this
  exact ⟨(World.cell?_of_block (a := ⟨Bl, 0, none⟩) (h.2 hl)).trans k.1, k.2.below h.1⟩
theorem Keeps.of_below {n₀ Bl : Nat} {X Y : World} (h : Below X.heap.size X Y) (hn : n₀ ≤ X.heap.size) : Keeps n₀ Bl X Y := ⟨h.mono hn, fun hl => h.block Bl hl⟩
theorem Keeps.set {n₀ Bl : Nat} {X : World} {p : Addr} (u : Value) (hp : n₀ ≤ p.block) (hne : Bl ≠ p.block) : Keeps n₀ Bl X (X.setCell p u) :=
  ⟨(Below.refl n₀ X).setCell hp u, fun _ => Below.heap_setCell X p u Bl hne⟩
theorem others_below {X Y : World} (h : Below X.heap.size X Y) : KeepsOthers X Y := KeepsOthers.of_grownBy (row := none) ⟨h.os, h.tape, h.output, h.size, fun i hi _ => h.block i hi⟩ (fun _ _ e => nomatch e)

theorem from_stops (F : Fence) (n : Nat) (h7 : F.fn 86) (hro : F.round = none) (hn : 1 ≤ n) (Bl Bf n₀ : Nat) (A : Option Addr) (len cap a : Nat) (xs : List En) (hlen : len ≤ 1000) (ha : a ≤ 1000) (w : World) (hn₀ : n₀ ≤ w.heap.size) (hBl : Bl < w.heap.size) (hBf : Bf < w.heap.size)
    (hc : w.cell? ⟨Bf, 0, none⟩ = some (.int .i64 a)) (hS : Src Bl n₀ A len cap xs w) :
    SeqStopsK F n Tryd.prog 86 #[.pointer (some ⟨Bf, 0, none⟩), .pointer (some ⟨Bl, 0, none⟩)] (entArgs xs) (Keeps n₀ Bl) (fun ys => ys = upTo a (len - a)) (fun pre => ∃ k, k ≤ len - a ∧ pre = upTo a k) (len - a) w := fun l J Jx W hW _ _ hY h0 =>
  from1_in F n h7 hro hn l Bl Bf n₀ A len cap a xs hlen (Keeps n₀ Bl) (fun X Y h k => h.src k) J Jx hY W ((hW.cell (p := ⟨Bf, 0, none⟩) hBf).trans hc) ha ⟨(hW.cell (p := ⟨Bl, 0, none⟩) hBl).trans hS.1, hS.2.below (hW.mono hn₀)⟩ h0
end Go.Proofs.YtbcfbkcadceniaaDoor
