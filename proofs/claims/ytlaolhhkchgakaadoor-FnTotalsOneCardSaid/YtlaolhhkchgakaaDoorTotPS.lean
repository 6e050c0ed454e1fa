/- A total put among totals: the reference's. -/
import Derived.Test.YtlaolhhkchgakaaDoorTotV
namespace Go.Proofs.YtlaolhhkchgakaaDoor
set_option linter.unusedVariables false
set_option linter.unusedSimpArgs false
open Go.RowKit

/-- totals that are drawn and made are not great. -/
def TotB (t : Tot) : Prop := t.cat.size ≤ maxLen ∧ (-1000000 ≤ t.many ∧ t.many ≤ 1000000) ∧ -1000000000 ≤ t.sum ∧ t.sum ≤ 1000000000
def TotsB (l : List Tot) : Prop := ∀ t ∈ l, TotB t
def TotsRet (xs : List Tot) (w : World) (e : Ending) (w' : World) : Prop :=
  ∃ (A : Option Addr) (n c : Nat), e = .returned (.slice A n c) ∧ Row totCells 3 w' w'.heap.size A n xs ∧ n ≤ c ∧ Hid (A = none → c = 0) ∧ Below w.heap.size w w'
theorem tots_ret {w w' : World} {v : Value} {base n : Nat} {xs : List Tot} (hl : xs.length = n) (h : w'.ownsRow base 29 3 v n (xs.flatMap totCells)) (hb : Below w.heap.size w w') : TotsRet xs w (.returned v) w' := by
  obtain ⟨A, c, rfl, h1, h2, h3, _⟩ := Row.of_own h hl
  exact ⟨A, n, c, rfl, h3, h1, Lib.hid h2, hb⟩
theorem flatT_snoc (l : List Tot) (x : Tot) : (l ++ [x]).flatMap totCells = l.flatMap totCells ++ [.string x.cat, .int .i64 x.many, .int .i64 x.sum] := by rw [List.flatMap_append]; rfl
set_option maxRecDepth 100000 in
set_option maxHeartbeats 8000000 in
theorem l16Put_any (A : Option Addr) (n c : Nat) (ts : List Tot) (cat : ByteArray) (many sum : Int) (w : World) (h : Row totCells 3 w w.heap.size A n ts) (hB : TotsB ts) (ht : TotB ⟨cat, many, sum⟩) (hso : SortedTs ts) (hnb : n ≤ 900) :
    Calls Tryd.prog 35 #[.slice A n c, .agg #[.string cat, .int .i64 many, .int .i64 sum]] w (TotsRet (putT ts ⟨cat, many, sum⟩) w) := by
  have Hl := Lib.hid h.1
  have HBs := Lib.hid hB
  have Hso := Lib.hid hso
  obtain ⟨hc, ⟨hm1, hm2⟩, hs1, hs2⟩ := ht
  simp only at hc hm1 hm2 hs1 hs2
  have hb0 : Below w.heap.size w (w.alloc (.cells #[.string cat, .int .i64 many, .int .i64 sum] 29)) := (Below.refl _ _).alloc (Nat.le_refl _) _
  obtain ⟨w0, hw0⟩ : ∃ w0, w.alloc (.cells #[.string cat, .int .i64 many, .int .i64 sum] 29) = w0 := ⟨_, rfl⟩
  have L0 : Live w0 fun W => (Below w.heap.size w W ∧ Row totCells 3 W W.heap.size A n ts) ∧ Blk W w.heap.size 29 #[.string cat, .int .i64 many, .int .i64 sum] := by
    rw [← hw0]
    exact ((Live.since hb0).and (Live.row (h.next hb0))).and (Live.blk (Blk.new w _ _))
  have hz : w0.heap.size = w.heap.size + 1 := by rw [← hw0]; simp
  have HZ := Lib.hid hz
  have HW := Lib.hid hw0
  clear h hb0 hB hso hw0 hz
  go_enter Tryd.func35, Tryd.ntmps35
  go_wp2_with fail
  rw [HW.out, ← HZ.out]
  have O0 := Lib.hid (show (w0.alloc (.cells #[] 29)).ownsRow w0.heap.size 29 3 (.slice (some ⟨w0.heap.size, 0, none⟩) 0 0) 0 [] from World.ownsRow_lit w0 #[] 0 (Nat.le_refl _) (Nat.zero_le _) rfl)
  go_loopw [5, 6, 7] (fun v d i wr => ∃ (k : Nat) (bd : Bool) (L : List Tot), k ≤ n ∧ i = .int .i64 (k : Int) ∧ d = .bool bd ∧ Hid (runP ⟨cat, many, sum⟩ ts k = (bd, L)) ∧ wr.ownsRow w0.heap.size 29 3 v L.length (L.flatMap totCells) ∧ Hid (Below w0.heap.size w0 wr)) (fun _ _ i _ => n - (intOf i).toNat)
  case atStart => exact ⟨0, false, [], Nat.zero_le _, rfl, rfl, Lib.hid rfl, O0.out, Lib.hid ((Below.refl _ _).alloc (Nat.le_refl _) _)⟩
  case round =>
    obtain ⟨k, bd, L, hk, rfl, rfl, HL, hown, HBW⟩ := hrel
    have hLk := runP_len ⟨cat, many, sum⟩ ts k
    rw [HL.out] at hLk
    simp only at hLk
    have LW := L0.next HBW.out
    have z0 := LW.now.2.cell 0
    have z1 := LW.now.2.cell 1
    have z2 := LW.now.2.cell 2
    have hzw : w.heap.size < wr.heap.size := LW.now.2.lt
    have hne := Lib.hid (fun e => Nat.lt_irrefl _ (hown.lt wr.heap.size e).2)
    have hne2 := Lib.hid (fun e => (show False from by have := (hown.lt w.heap.size e).1; rw [HZ.out] at this; omega))
    have HO := Lib.hid hown
    clear hown
    by_cases hlt : k < n
    · have hlt' : (k : Int) < (n : Int) := by omega
      obtain ⟨b, off, rfl, hb, hx⟩ := LW.now.1.2.tot_at (by omega)
      obtain ⟨c0, c1, c2⟩ := hx k hlt
      have hbx := HBs.out (nx ts k) (nx_mem (by rw [Hl.out]; exact hlt))
      have hstep := runP_succ (t := ⟨cat, many, sum⟩) (l := ts) (k := k) (by rw [Hl.out]; exact hlt)
      rw [HL.out] at hstep
      obtain ⟨⟨xc, xm, xs⟩, he⟩ : ∃ e, nx ts k = e := ⟨_, rfl⟩
      rw [he] at c0 c1 c2 hbx hstep
      obtain ⟨hx1, ⟨hx2, hx3⟩, hx4, hx5⟩ := hbx
      simp only at c0 c1 c2 hx1 hx2 hx3 hx4 hx5
      clear he hx LW
      by_cases hsame : xc = cat
      · have Hst : Hid (runP ⟨cat, many, sum⟩ ts (k + 1) = (true, L ++ [⟨xc, xm + many, xs + sum⟩])) := Lib.hid (by rw [hstep]; unfold stepP; rw [if_pos hsame]; rfl)
        have e1 : (xc.toList == cat.toList) = true := by rw [hsame]; exact beq_self_eq_true _
        have hw1 : IntKind.i64.wrap (xm + many) = xm + many := IntWalk.i64_in _ (by omega)
        have hw2 : IntKind.i64.wrap (xs + sum) = xs + sum := IntWalk.i64_in _ (by omega)
        have OZ : Hid ((wr.alloc (.cells #[.string xc, .int .i64 (xm + many), .int .i64 (xs + sum)] 29)).ownsRow w0.heap.size 29 3 _ L.length (L.flatMap totCells)) := Lib.hid (HO.out.alloc _)
        have hsz : Hid (wr.heap.size + 1 = (wr.alloc (.cells #[.string xc, .int .i64 (xm + many), .int .i64 (xs + sum)] 29)).heap.size) := Lib.hid (by simp)
        have HBZ : Hid (Below w0.heap.size w0 (wr.alloc (.cells #[.string xc, .int .i64 (xm + many), .int .i64 (xs + sum)] 29))) := Lib.hid (HBW.out.alloc HBW.out.size _)
        clear hstep hsame
        go_wp2_with (at_builtin; go_must (refine app_one elemTot (wr.alloc (.cells #[.string xc, .int .i64 (xm + many), .int .i64 (xs + sum)] 29)) rfl _ _ rfl w0.heap.size _ (L).length ((L).flatMap totCells) rfl (by exact OZ.out) [.string xc, .int .i64 (xm + many), .int .i64 (xs + sum)] (by exact congrArg (fun b => Value.slice (some ⟨b, 0, none⟩) 1 1) hsz.out) rfl ?_ ?_ ?_ ?_); (intro u hu; simp at hu; rcases hu with rfl | rfl | rfl <;> rfl); (first | omega | (simp only [List.length_append, List.length_cons, List.length_nil]; omega)); exact HBZ.out.size; intro v' w9 own9 grow9 or9)
        have HB9 := Lib.hid (own_below' OZ.out (Nat.le_refl _) HBZ.out HBZ.out.size grow9)
        have O9 : Hid (w9.ownsRow w0.heap.size 29 3 v' (L ++ [(⟨xc, xm + many, xs + sum⟩ : Tot)]).length ((L ++ [(⟨xc, xm + many, xs + sum⟩ : Tot)]).flatMap totCells)) := Lib.hid (by rw [flatT_snoc, List.length_append]; exact own9)
        clear own9 grow9 or9
        go_roundw
        case rel => exact ⟨k + 1, true, _, by omega, by go_num, rfl, Hst, O9.out, HB9⟩
        case measure => simp [intOf]; omega
      · have e1 : (xc.toList == cat.toList) = false := toList_ne hsame
        have OA : Hid ((wr.alloc (.cells #[.string xc, .int .i64 xm, .int .i64 xs] 29)).ownsRow w0.heap.size 29 3 _ L.length (L.flatMap totCells)) := Lib.hid (HO.out.alloc _)
        have HBA : Hid (Below w0.heap.size w0 (wr.alloc (.cells #[.string xc, .int .i64 xm, .int .i64 xs] 29))) := Lib.hid (HBW.out.alloc HBW.out.size _)
        have hsz : Hid (wr.heap.size + 1 = (wr.alloc (.cells #[.string xc, .int .i64 xm, .int .i64 xs] 29)).heap.size) := Lib.hid (by simp)
        by_cases hg : bd = false ∧ ltB cat xc = true
        · obtain ⟨hbd, hg2⟩ := hg
          subst hbd
          have Hst : Hid (runP ⟨cat, many, sum⟩ ts (k + 1) = (true, L ++ [⟨cat, many, sum⟩] ++ [⟨xc, xm, xs⟩])) := Lib.hid (by rw [hstep]; unfold stepP; rw [if_neg hsame, if_pos ⟨rfl, hg2⟩])
          have e2 : Op.bytesLess xc.toList cat.toList = false := ltB_asymm hg2
          clear hstep hsame hg2
          go_wp2_with (first | (at_builtin; (refine app_one elemTot (wr.alloc (.cells #[.string xc, .int .i64 xm, .int .i64 xs] 29)) rfl _ _ rfl w0.heap.size _ (L).length ((L).flatMap totCells) rfl (by exact OA.out) [.string cat, .int .i64 many, .int .i64 sum] (by exact congrArg (fun b => Value.slice (some ⟨b, 0, none⟩) 1 1) hsz.out) rfl ?_ ?_ ?_ ?_); (intro u hu; simp at hu; rcases hu with rfl | rfl | rfl <;> rfl); (first | omega | (simp only [List.length_append, List.length_cons, List.length_nil]; omega)); exact HBA.out.size; intro v' w9 own9 grow9 or9; have HB9 := Lib.hid (own_below' OA.out (Nat.le_refl _) HBA.out HBA.out.size grow9); have O9 : Hid (w9.ownsRow w0.heap.size 29 3 v' (L ++ [(⟨cat, many, sum⟩ : Tot)]).length ((L ++ [(⟨cat, many, sum⟩ : Tot)]).flatMap totCells)) := Lib.hid (by rw [flatT_snoc, List.length_append]; exact own9); have B9 := Lib.hid ((Blk.new wr 29 #[.string xc, .int .i64 xm, .int .i64 xs]).grown grow9 (fun e => hne.out e.symm)); have q0 := B9.out.cell 0; have q1 := B9.out.cell 1; have q2 := B9.out.cell 2; clear own9 grow9 or9) | (at_builtin; go_must (refine app_one elemTot w9 rfl _ _ rfl w0.heap.size _ (L ++ [(⟨cat, many, sum⟩ : Tot)]).length ((L ++ [(⟨cat, many, sum⟩ : Tot)]).flatMap totCells) rfl (by exact O9.out) [.string xc, .int .i64 xm, .int .i64 xs] rfl rfl ?_ ?_ ?_ ?_); (intro u hu; simp at hu; rcases hu with rfl | rfl | rfl <;> rfl); (first | omega | (simp only [List.length_append, List.length_cons, List.length_nil]; omega)); exact HB9.out.size; intro v2 w10 own10 grow10 or10))
          have HB10 := Lib.hid (own_below' O9.out (Nat.le_refl _) HB9.out HB9.out.size grow10)
          have O10 : Hid (w10.ownsRow w0.heap.size 29 3 v2 (L ++ [(⟨cat, many, sum⟩ : Tot)] ++ [(⟨xc, xm, xs⟩ : Tot)]).length ((L ++ [(⟨cat, many, sum⟩ : Tot)] ++ [(⟨xc, xm, xs⟩ : Tot)]).flatMap totCells)) := Lib.hid (by rw [flatT_snoc, List.length_append]; exact own10)
          clear own10 grow10 or10
          go_roundw
          case rel => exact ⟨k + 1, true, _, by omega, by go_num, rfl, Hst, O10.out, HB10⟩
          case measure => simp [intOf]; omega
        · have Hst : Hid (runP ⟨cat, many, sum⟩ ts (k + 1) = (bd, L ++ [⟨xc, xm, xs⟩])) := Lib.hid (by rw [hstep]; unfold stepP; rw [if_neg hsame, if_neg hg])
          cases bd with
          | true =>
            clear hstep hsame hg
            go_wp2_with (at_builtin; go_must (refine app_one elemTot (wr.alloc (.cells #[.string xc, .int .i64 xm, .int .i64 xs] 29)) rfl _ _ rfl w0.heap.size _ (L).length ((L).flatMap totCells) rfl (by exact OA.out) [.string xc, .int .i64 xm, .int .i64 xs] (by exact congrArg (fun b => Value.slice (some ⟨b, 0, none⟩) 1 1) hsz.out) rfl ?_ ?_ ?_ ?_); (intro u hu; simp at hu; rcases hu with rfl | rfl | rfl <;> rfl); (first | omega | (simp only [List.length_append, List.length_cons, List.length_nil]; omega)); exact HBA.out.size; intro v' w9 own9 grow9 or9)
            have HB9 := Lib.hid (own_below' OA.out (Nat.le_refl _) HBA.out HBA.out.size grow9)
            have O9 : Hid (w9.ownsRow w0.heap.size 29 3 v' (L ++ [(⟨xc, xm, xs⟩ : Tot)]).length ((L ++ [(⟨xc, xm, xs⟩ : Tot)]).flatMap totCells)) := Lib.hid (by rw [flatT_snoc, List.length_append]; exact own9)
            clear own9 grow9 or9
            go_roundw
            case rel => exact ⟨k + 1, true, _, by omega, by go_num, rfl, Hst, O9.out, HB9⟩
            case measure => simp [intOf]; omega
          | false =>
            have e2 : Op.bytesLess xc.toList cat.toList = true := by
              rcases ltB_tri xc cat with e | e | e
              · exact e
              · exact absurd e hsame
              · exact absurd ⟨rfl, e⟩ hg
            clear hstep hsame hg
            go_wp2_with (at_builtin; go_must (refine app_one elemTot (wr.alloc (.cells #[.string xc, .int .i64 xm, .int .i64 xs] 29)) rfl _ _ rfl w0.heap.size _ (L).length ((L).flatMap totCells) rfl (by exact OA.out) [.string xc, .int .i64 xm, .int .i64 xs] (by exact congrArg (fun b => Value.slice (some ⟨b, 0, none⟩) 1 1) hsz.out) rfl ?_ ?_ ?_ ?_); (intro u hu; simp at hu; rcases hu with rfl | rfl | rfl <;> rfl); (first | omega | (simp only [List.length_append, List.length_cons, List.length_nil]; omega)); exact HBA.out.size; intro v' w9 own9 grow9 or9)
            have HB9 := Lib.hid (own_below' OA.out (Nat.le_refl _) HBA.out HBA.out.size grow9)
            have O9 : Hid (w9.ownsRow w0.heap.size 29 3 v' (L ++ [(⟨xc, xm, xs⟩ : Tot)]).length ((L ++ [(⟨xc, xm, xs⟩ : Tot)]).flatMap totCells)) := Lib.hid (by rw [flatT_snoc, List.length_append]; exact own9)
            clear own9 grow9 or9
            go_roundw
            case rel => exact ⟨k + 1, false, _, by omega, by go_num, rfl, Hst, O9.out, HB9⟩
            case measure => simp [intOf]; omega
    · obtain rfl : k = n := by omega
      have hlt' : ¬ (k : Int) < (k : Int) := by omega
      have Hp := Lib.hid (runP_put (t := ⟨cat, many, sum⟩) Hso.out)
      rw [Hl.out, HL.out] at Hp
      clear LW
      cases bd with
      | true =>
        have HP2 : Hid (L = putT ts ⟨cat, many, sum⟩) := Hp
        go_wp2_with fail
        go_ret
        rw [← HP2.out]
        exact tots_ret rfl HO.out ((HW.out ▸ (Below.refl w.heap.size w).alloc (Nat.le_refl _) _ : Below w.heap.size w w0).trans (HBW.out.mono (by rw [HZ.out]; omega)))
      | false =>
        have HP2 : Hid (L ++ [⟨cat, many, sum⟩] = putT ts ⟨cat, many, sum⟩) := Hp
        go_wp2_with (at_builtin; go_must (refine app_one elemTot wr rfl _ _ rfl w0.heap.size _ (L).length ((L).flatMap totCells) rfl (by exact HO.out) [.string cat, .int .i64 many, .int .i64 sum] rfl rfl ?_ ?_ ?_ ?_); (intro u hu; simp at hu; rcases hu with rfl | rfl | rfl <;> rfl); (first | omega | (simp only [List.length_append, List.length_cons, List.length_nil]; omega)); exact HBW.out.size; intro v' w9 own9 grow9 or9)
        have HB9 := Lib.hid (own_below' HO.out (Nat.le_refl _) HBW.out HBW.out.size grow9)
        have O9 : Hid (w9.ownsRow w0.heap.size 29 3 v' (L ++ [(⟨cat, many, sum⟩ : Tot)]).length ((L ++ [(⟨cat, many, sum⟩ : Tot)]).flatMap totCells)) := Lib.hid (by rw [flatT_snoc, List.length_append]; exact own9)
        clear own9 grow9 or9
        go_ret
        rw [← HP2.out]
        exact tots_ret rfl O9.out ((HW.out ▸ (Below.refl w.heap.size w).alloc (Nat.le_refl _) _ : Below w.heap.size w w0).trans (HB9.out.mono (by rw [HZ.out]; omega)))
end Go.Proofs.YtlaolhhkchgakaaDoor
