/- Appending a slice to a row of the call's own, where the operation stands behind a guard that says yes. -/
import Derived.Test.YtbcfbkcadceniaaDoorOwn
namespace Go.Proofs.YtbcfbkcadceniaaDoor
set_option linter.unusedVariables false
set_option linter.unusedSimpArgs false
open Go.RowKit

section
variable {P : Program} {TS T : TypeId} {z : Value} {size bytes : Nat} {ops : Array Oper} {rest : List Oper} {o : Oper} {a : Act} {Q : Exit → Act → World → Prop}
theorem app_src_g (E : Elem P TS T z size bytes) (w : World) (hw : Region.wanted o (yielded ops a.tmps) = true) (s x : Operand)
    (ho : o.op = .call { callee := .builtin .append, args := #[s, x], argTypes := #[TS, TS] }) (base : Nat) (v : Value) (n : Nat) (xs : List Value) (hs : a.eval s = v)
    (hown : w.ownsRow base T size v n xs) (A : Option Addr) (m c B : Nat) (news : List Value) (hx : a.eval x = .slice A m c) (hnil : A = none → c = 0) (hsl : Sl w B size A m news)
    (h1 : ∀ u ∈ news, u.oneCell' = true) (hn : n ≤ 1000000000) (hm : m ≤ 1000000000) (hbase : base ≤ w.heap.size)
    (h : ∀ v' w', w'.ownsRow base T size v' (n + m) (xs ++ news) → w.grownBy w' v.ownBlock → (v'.ownBlock = v.ownBlock ∨ v'.ownBlock = some w.heap.size) → wpList P ops Q rest (a.put o.dst v') w') :
    wpList P ops Q (o :: rest) a w := by
  refine wpList_step fun K hK => ?_
  rw [if_pos hw]
  obtain ⟨hu, hinfo, hzs, hsz, hby⟩ := E
  obtain ⟨i0, hi, iz0, iz1, iz2⟩ := info_parts hinfo
  have hbb : (n + m) * bytes ≤ 140737488355328 := Nat.le_trans (Nat.mul_le_mul (show n + m ≤ 2000000000 by omega) hby) (by decide)
  cases A with
  | none =>
    obtain rfl := hnil rfl
    obtain rfl : m = 0 := by
      cases m with
      | zero => rfl
      | succ m => obtain ⟨b, off, e, _⟩ := hsl.2 (by omega); cases e
    have hnews : news = [] := List.eq_nil_of_length_eq_zero (by rw [hsl.1, Nat.zero_mul])
    subst hnews
    have hrun := run_append_owned_none (P := P) (w := w) base TS o.type T i0 size hu hi v n xs hown
    unfold Oper.wp
    simp [execOp, ho, resolve, invoke, builtin, hs, hx, hrun, Result.andThen]
    exact hK _ _ (h v w (by simpa using hown) ⟨rfl, rfl, rfl, Nat.le_refl _, fun _ _ _ => rfl⟩ (.inl rfl))
  | some ad =>
    have hcells : ∀ j u, news[j]? = some u → w.cell? (ad.add j) = some u := fun j u hj => by
      obtain ⟨hj1, hj2⟩ := List.getElem?_eq_some_iff.1 hj
      have hmp : 0 < m := by
        cases m with
        | zero => rw [hsl.1] at hj1; simp at hj1
        | succ m => omega
      obtain ⟨b, off, e, hb, hxx⟩ := hsl.2 hmp
      obtain rfl := Option.some.inj e
      have e2 : (⟨b, off, none⟩ : Addr).add j = ⟨b, off + j, none⟩ := by simp [Addr.add]
      rw [e2, hxx j hj1, hj2]
    obtain ⟨v', w', hr, h2, h3, _, h5⟩ := run_append_own_at (P := P) w base TS o.type T i0 z size bytes hu hi iz0 iz1 iz2 hzs hsz v n xs hown ad m c news hsl.1 hcells h1 (by unfold maxLen; omega) hbb hbase
    unfold Oper.wp execOp
    simp only [ho, resolve, invoke, builtin, Sem.run_bind, Sem.run_pure, Result.andThen_ok, List.map_toArray, List.map_cons, List.map_nil, hs, hx, hr]
    exact hK _ _ (h v' w' h2 h3 h5)
end
end Go.Proofs.YtbcfbkcadceniaaDoor
