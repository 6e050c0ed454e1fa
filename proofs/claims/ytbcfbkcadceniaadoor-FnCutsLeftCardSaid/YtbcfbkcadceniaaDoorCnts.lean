/- A map from names to how many events there were, which the call itself makes. -/
import Derived.Test.YtbcfbkcadceniaaDoorPLeft
import Derived.Test.YtbcfbkcadceniaaDoorStreams
import Derived.Test.YtbcfbkcadceniaaDoorOnQ
namespace Go.Proofs.YtbcfbkcadceniaaDoor
set_option linter.unusedVariables false
set_option linter.unusedSimpArgs false
open Go.RowKit

/-- block b is a map that has for each name how many entries of l bear it. -/
structure Cnts (w : World) (b n : Nat) (l : List En) (D : DataW Value) : Prop where
  map : w.ownsMap Tryd.prog 9 (plainElem Tryd.prog 3) b n D
  is : Maps.IsMap D
  lt : b < w.heap.size
  look : ∀ s : ByteArray, D.atKey (.string s.data.toList) (.lit (.int .i64 0)) = .lit (.int .i64 (cntOf l s))
theorem Cnts.made (w : World) : Cnts (w.alloc (.map #[] 0)) w.heap.size 0 [] (.map []) :=
  ⟨World.ownsMap_made _ _ _ _, Maps.isMap_empty, by simp, fun _ => rfl⟩
theorem Cnts.kept {w w' : World} {b n : Nat} {l : List En} {D : DataW Value} {row : Option Nat} (S : Cnts w b n l D) (hg : w.grownBy w' row) (hne : some b ≠ row) : Cnts w' b n l D :=
  ⟨S.map.kept hg hne, S.is, Nat.lt_of_lt_of_le S.lt hg.size, S.look⟩
theorem Cnts.next {w w' : World} {b n : Nat} {l : List En} {D : DataW Value} (S : Cnts w b n l D) (hb : Below w.heap.size w w') : Cnts w' b n l D :=
  S.kept (row := none) ⟨hb.os, hb.tape, hb.output, hb.size, fun k hk _ => hb.block k hk⟩ (by simp)
theorem plainInt (x : Int) (hx : -1000000 ≤ x ∧ x ≤ 1000000) : plainElem (H := Value) Tryd.prog 3 (.int .i64 x) = some (.lit (.int .i64 x), []) := plainElem_int Tryd.underlying3 (by
  have e1 : IntKind.i64.min = -9223372036854775808 := rfl
  have e2 : IntKind.i64.max = 9223372036854775807 := rfl
  show (decide (IntKind.i64.min ≤ x) && decide (x ≤ IntKind.i64.max)) = true
  rw [e1, e2, decide_eq_true (by omega), decide_eq_true (by omega)]; rfl)
theorem Cnts.get {w : World} {b n : Nat} {l : List En} {D : DataW Value} (S : Cnts w b n l D) (s : ByteArray) (hs : s.size ≤ maxLen) (hl : l.length ≤ 1000) :
    (Instr.lookup 75 (.map (some b)) (.string s) false).run Tryd.prog w = .ok (.int .i64 (cntOf l s)) w := by
  have hz : (zeroValue 3).run Tryd.prog w = .ok (.int .i64 0) w := by kernel_rfl
  obtain ⟨v, ps, hrun, hv⟩ := S.map.lookup keyedStr Tryd.underlying75 hz (zd := .lit (.int .i64 0)) (zp := []) (plainInt 0 (by omega)) (key := .string s) (kl := .string s.data.toList) (WideMaps.keyOf_string_mk Tryd.underlying9 hs)
  rw [S.look s] at hv
  obtain ⟨a, rfl, e, -⟩ := plainElem_int_inv Tryd.underlying3 hv
  have : (cntOf l s : Int) = a := (Lit.int.inj (DataW.lit.inj (Prod.mk.inj e).1)).2
  rw [this]; exact hrun
/-- one more is counted. -/
theorem Cnts.put {w : World} {b n : Nat} {l : List En} {D : DataW Value} (S : Cnts w b n l D) (x : En) (hs : x.name.size ≤ maxLen) (hl : l.length ≤ 1000) (hn : n ≤ 1000000) :
    ∃ w2 D', (Instr.mapUpdate 75 (.map (some b)) (.string x.name) (.int .i64 ((cntOf l x.name : Int) + 1))).run Tryd.prog w = .ok () w2 ∧ Cnts w2 b (n + 1) (l ++ [x]) D' ∧ w.grownBy w2 (some b) := by
  have hc : cntOf l x.name ≤ l.length := streamOf_len l x.name
  obtain ⟨w2, hrun, hm2, hg2⟩ := S.map.update keyedStr Tryd.underlying75 (by unfold maxLen; omega) (key := .string x.name) (kl := .string x.name.data.toList) (WideMaps.keyOf_string_mk Tryd.underlying9 hs) (plainInt ((cntOf l x.name : Int) + 1) (by omega))
  refine ⟨w2, _, hrun, ⟨hm2, S.is.put _ _, Nat.lt_of_lt_of_le S.lt hg2.size, fun t => ?_⟩, hg2⟩
  rw [cntOf_snoc]
  by_cases h : t = x.name
  · subst h
    rw [if_pos rfl, Maps.atKey_put_same S.is (show WideAt.IsKeyLit (.string x.name.data.toList) from trivial)]
    rfl
  · rw [if_neg (fun e => h e.symm), Maps.atKey_put_other (fun e1 => h (str_inj e1))]; exact S.look t
theorem cnt_put {ops : Array Oper} {rest : List Oper} {o : Oper} {a : Act} {Q : Exit → Act → World → Prop} (w : World) (hg : o.guard = none) (m x v : Operand) (hop : o.op = Op.mapUpdate 75 m x v)
    {b n : Nat} {l : List En} {D : DataW Value} (S : Cnts w b n l D) (y : En) (hm : a.eval m = .map (some b)) (hx : a.eval x = .string y.name) (hv : a.eval v = .int .i64 ((cntOf l y.name : Int) + 1)) (hs : y.name.size ≤ maxLen) (hl : l.length ≤ 1000) (hn : n ≤ 1000000)
    (hK : ∀ w2 D', Cnts w2 b (n + 1) (l ++ [y]) D' → w.grownBy w2 (some b) → wpList Tryd.prog ops Q rest (a.put o.dst undef) w2) : wpList Tryd.prog ops Q (o :: rest) a w := by
  obtain ⟨w2, D', hrun, h1, h2⟩ := S.put y hs hl hn
  refine wpList_plain hg fun K hKK => ?_
  unfold Oper.wp
  simp [execOp, hop, hm, hx, hv, hrun, Result.andThen]
  exact hKK _ _ (hK _ _ h1 h2)
end Go.Proofs.YtbcfbkcadceniaaDoor
