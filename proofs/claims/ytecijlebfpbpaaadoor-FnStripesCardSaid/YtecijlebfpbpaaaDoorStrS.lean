/- The stripes of names: the reference's. -/
import Derived.Test.YtecijlebfpbpaaaDoorIntsL
import Derived.Test.YtecijlebfpbpaaaDoorPStr
namespace Go.Proofs.YtecijlebfpbpaaaDoor
set_option linter.unusedVariables false
set_option linter.unusedSimpArgs false
open Go.RowKit

/-- numbers are returned, in a row that is new. -/
def NumsNew (l : List Nat) (w : World) (e : Ending) (w' : World) : Prop :=
  ∃ (A : Option Addr) (n c : Nat), e = .returned (.slice A n c) ∧ Row intCells 1 w' w'.heap.size A n l ∧ n ≤ c ∧ Hid (A = none → c = 0) ∧ Below w.heap.size w w'
theorem nums_new {w w' : World} {v : Value} {base n : Nat} {l : List Nat} (hl : l.length = n) (h : w'.ownsRow base 3 1 v n (l.flatMap intCells)) (hb : Below w.heap.size w w') : NumsNew l w (.returned v) w' := by
  obtain ⟨A, c, rfl, h1, h2, h3, _⟩ := Row.of_own h hl
  exact ⟨A, n, c, rfl, h3, h1, Lib.hid h2, hb⟩
theorem flatI_snoc (l : List Nat) (x : Nat) : (l ++ [x]).flatMap intCells = l.flatMap intCells ++ [.int .i64 (x : Int)] := by rw [List.flatMap_append]; rfl
set_option maxRecDepth 100000 in
set_option maxHeartbeats 8000000 in
theorem l11Put_any (A : Option Addr) (n c : Nat) (l : List Nat) (m : Nat) (w : World) (h : Row intCells 1 w w.heap.size A n l) (hso : l.Pairwise (· < ·)) (hnb : n ≤ 900) :
    Calls Tryd.prog 58 #[.slice A n c, .int .i64 (m : Int)] w (NumsNew (putN l m) w) := by
  have Hl := Lib.hid h.1
  have Hso := Lib.hid hso
  have L0 := (Live.since (Below.refl w.heap.size w)).and (Live.row h)
  have O0 := Lib.hid (show (w.alloc (.cells #[] 3)).ownsRow w.heap.size 3 1 (.slice (some ⟨w.heap.size, 0, none⟩) 0 0) 0 [] from World.ownsRow_lit w #[] 0 (Nat.le_refl _) (Nat.zero_le _) rfl)
  clear h hso
  go_enter Tryd.func58, Tryd.ntmps58
  go_wp2_with fail
  go_loopw [5, 6, 7] (fun v d i wr => ∃ (k : Nat) (bd : Bool) (L : List Nat), k ≤ n ∧ i = .int .i64 (k : Int) ∧ d = .bool bd ∧ Hid (runN m l k = (bd, L)) ∧ wr.ownsRow w.heap.size 3 1 v L.length (L.flatMap intCells) ∧ Hid (Below w.heap.size w wr)) (fun _ _ i _ => n - (intOf i).toNat)
  case atStart => exact ⟨0, false, [], Nat.zero_le _, rfl, rfl, Lib.hid rfl, O0.out, Lib.hid ((Below.refl _ _).alloc (Nat.le_refl _) _)⟩
  case round =>
    obtain ⟨k, bd, L, hk, rfl, rfl, HL, hown, HBW⟩ := hrel
    have hLk := runN_len m l k
    rw [HL.out] at hLk
    simp only at hLk
    have LW := L0.next HBW.out
    have HO := Lib.hid hown
    clear hown
    by_cases hlt : k < n
    · have hlt' : (k : Int) < (n : Int) := by omega
      obtain ⟨b, off, rfl, hb, hx⟩ := L0.now.2.int_at (by omega)
      have hkl : k < l.length := by rw [Hl.out]; exact hlt
      have hxk := hx k _ (nx_get hkl)
      have C0 := Lib.hid (fun W (hW : Below w.heap.size w W) => (hW.cell (p := ⟨b, off + k, none⟩) hb).trans hxk)
      have hstep := runN_succ (n := m) (l := l) (k := k) hkl
      rw [HL.out] at hstep
      obtain ⟨x, hxe⟩ : ∃ x, nx l k = x := ⟨_, rfl⟩
      rw [hxe] at C0 hstep
      have c0 := C0.out wr HBW.out
      clear hx hxk hxe LW
      have Hst : Hid (∀ b2 L2, stepN m (bd, L) x = (b2, L2) → runN m l (k + 1) = (b2, L2)) := Lib.hid (fun b2 L2 e => by rw [hstep]; exact e)
      clear hstep
      by_cases hsame : x = m
      · subst hsame
        have e1 : ((x : Int) != (x : Int)) = false := by simp
        have e2 : decide ((x : Int) ≥ (x : Int)) = true := decide_eq_true (Int.le_refl _)
        cases bd with
        | true =>
          have Hs2 := Lib.hid (Hst.out true L (by simp [stepN]))
          go_wp2_with fail
          go_roundw
          case rel => exact ⟨k + 1, true, L, by omega, by go_num, rfl, Hs2, HO.out, HBW⟩
          case measure => simp [intOf]; omega
        | false =>
          have Hs2 := Lib.hid (Hst.out true (L ++ [x]) (by simp [stepN]))
          go_wp2_with (at_builtin; go_must (refine app_one elemInt wr rfl _ _ rfl w.heap.size _ L.length (L.flatMap intCells) rfl (by exact HO.out) [.int .i64 (x : Int)] rfl rfl ?_ ?_ ?_ ?_); (intro u hu; simp at hu; subst hu; rfl); omega; exact HBW.out.size; intro v' w9 own9 grow9 or9; have HB9 := Lib.hid (own_below' HO.out (Nat.le_refl _) HBW.out HBW.out.size grow9); have c9 := C0.out w9 HB9.out)
          have O9 : Hid (w9.ownsRow w.heap.size 3 1 v' (L ++ [x]).length ((L ++ [x]).flatMap intCells)) := Lib.hid (by rw [flatI_snoc, List.length_append]; exact own9)
          clear own9 grow9 or9
          go_roundw
          case rel => exact ⟨k + 1, true, L ++ [x], by omega, by go_num, rfl, Hs2, O9.out, HB9⟩
          case measure => simp [intOf]; omega
      · have e1 : ((x : Int) != (m : Int)) = true := by simp only [bne, Bool.not_eq_true', beq_eq_false_iff_ne]; omega
        by_cases hg : bd = false ∧ m ≤ x
        · obtain ⟨hbd, hg2⟩ := hg
          subst hbd
          have e2 : decide ((x : Int) ≥ (m : Int)) = true := decide_eq_true (by omega)
          have e3 : (m : Int) ≤ (x : Int) := by omega
          have Hs2 := Lib.hid (Hst.out true (L ++ [m] ++ [x]) (by simp [stepN, hg2, hsame]))
          clear hg2 hsame
          go_wp2_with (first
            | (at_builtin; (refine app_one elemInt wr rfl _ _ rfl w.heap.size _ L.length (L.flatMap intCells) rfl (by exact HO.out) [.int .i64 (m : Int)] rfl rfl ?_ ?_ ?_ ?_); (intro u hu; simp at hu; subst hu; rfl); omega; exact HBW.out.size; intro v' w9 own9 grow9 or9; have HB9 := Lib.hid (own_below' HO.out (Nat.le_refl _) HBW.out HBW.out.size grow9); have c9 := C0.out w9 HB9.out; have O9 : Hid (w9.ownsRow w.heap.size 3 1 v' (L ++ [m]).length ((L ++ [m]).flatMap intCells)) := Lib.hid (by rw [flatI_snoc, List.length_append]; exact own9); clear own9 grow9 or9)
            | (at_builtin; go_must (refine app_one elemInt w9 rfl _ _ rfl w.heap.size _ (L ++ [m]).length ((L ++ [m]).flatMap intCells) rfl (by exact O9.out) [.int .i64 (x : Int)] rfl rfl ?_ ?_ ?_ ?_); (intro u hu; simp at hu; subst hu; rfl); (first | omega | (simp only [List.length_append, List.length_cons, List.length_nil]; omega)); exact HB9.out.size; intro v2 w10 own10 grow10 or10))
          have HB10 := Lib.hid (own_below' O9.out (Nat.le_refl _) HB9.out HB9.out.size grow10)
          have O10 : Hid (w10.ownsRow w.heap.size 3 1 v2 (L ++ [m] ++ [x]).length ((L ++ [m] ++ [x]).flatMap intCells)) := Lib.hid (by rw [flatI_snoc, List.length_append]; exact own10)
          clear own10 grow10 or10
          go_roundw
          case rel => exact ⟨k + 1, true, L ++ [m] ++ [x], by omega, by go_num, rfl, Hs2, O10.out, HB10⟩
          case measure => simp [intOf]; omega
        · have Hs2 := Lib.hid (Hst.out bd (L ++ [x]) (by simp only [stepN]; rw [if_neg hsame, if_neg hg]))
          have e2 : bd = true ∨ (bd = false ∧ ¬ (m : Int) ≤ (x : Int)) := by
            cases bd with
            | true => exact .inl rfl
            | false => exact .inr ⟨rfl, fun e => hg ⟨rfl, by omega⟩⟩
          clear hg hsame
          rcases e2 with rfl | ⟨rfl, e2⟩
          all_goals
            go_wp2_with (at_builtin; go_must (refine app_one elemInt wr rfl _ _ rfl w.heap.size _ L.length (L.flatMap intCells) rfl (by exact HO.out) [.int .i64 (x : Int)] rfl rfl ?_ ?_ ?_ ?_); (intro u hu; simp at hu; subst hu; rfl); omega; exact HBW.out.size; intro v' w9 own9 grow9 or9)
            have HB9 := Lib.hid (own_below' HO.out (Nat.le_refl _) HBW.out HBW.out.size grow9)
            have O9 : Hid (w9.ownsRow w.heap.size 3 1 v' (L ++ [x]).length ((L ++ [x]).flatMap intCells)) := Lib.hid (by rw [flatI_snoc, List.length_append]; exact own9)
            clear own9 grow9 or9
            go_roundw
            case rel => exact ⟨k + 1, _, L ++ [x], by omega, by go_num, rfl, Hs2, O9.out, HB9⟩
            case measure => simp [intOf]; omega
    · obtain rfl : k = n := by omega
      have hlt' : ¬ (k : Int) < (k : Int) := by omega
      have Hp := Lib.hid (runN_put (n := m) Hso.out)
      rw [Hl.out, HL.out] at Hp
      clear LW
      cases bd with
      | true =>
        have HP2 : Hid (L = putN l m) := Hp
        go_wp2_with fail
        go_ret
        rw [← HP2.out]
        exact nums_new rfl HO.out HBW.out
      | false =>
        have HP2 : Hid (L ++ [m] = putN l m) := Hp
        go_wp2_with (at_builtin; go_must (refine app_one elemInt wr rfl _ _ rfl w.heap.size _ L.length (L.flatMap intCells) rfl (by exact HO.out) [.int .i64 (m : Int)] rfl rfl ?_ ?_ ?_ ?_); (intro u hu; simp at hu; subst hu; rfl); omega; exact HBW.out.size; intro v' w9 own9 grow9 or9)
        have HB9 := Lib.hid (own_below' HO.out (Nat.le_refl _) HBW.out HBW.out.size grow9)
        have O9 : Hid (w9.ownsRow w.heap.size 3 1 v' (L ++ [m]).length ((L ++ [m]).flatMap intCells)) := Lib.hid (by rw [flatI_snoc, List.length_append]; exact own9)
        clear own9 grow9 or9
        go_ret
        rw [← HP2.out]
        exact nums_new rfl O9.out HB9.out
/-- the first names that are valid. -/
theorem stripesOf_bad {ss : List ByteArray} {n : Int} (k : Nat) (hk : k < ss.length) (h : nameStripe (nx ss k).data.toList n < 0) : stripesOf ss n = [] := by
  unfold stripesOf
  rw [if_neg]
  rintro ⟨h1, h2⟩
  unfold nameStripe at h
  rw [if_pos ⟨h2 _ (nx_mem hk), h1⟩] at h
  omega
theorem stripe_good {s : ByteArray} {n : Int} (h : ¬ nameStripe s.data.toList n < 0) : nameOk s.data.toList = true ∧ 1 ≤ n ∧ n ≤ 8 := by
  unfold nameStripe at h
  split at h
  · assumption
  · exact absurd (by decide) h
theorem stripe_is {s : ByteArray} {n : Int} (h : ¬ nameStripe s.data.toList n < 0) : nameStripe s.data.toList n = ((stripeOf s.data.toList n.toNat : Nat) : Int) := by
  unfold nameStripe
  rw [if_pos (stripe_good h)]
set_option maxRecDepth 100000 in
set_option maxHeartbeats 8000000 in
theorem stripesOfS_any (A : Option Addr) (n c : Nat) (ss : List ByteArray) (st : Int) (w : World) (h : Strs w w.heap.size A n ss) (hsm : AllSmall ss) (hnb : n ≤ 900) :
    Calls Tryd.prog 21 #[.slice A n c, .int .i64 st] w (NumsNew (stripesOf ss st) w) := by
  have Hl := Lib.hid h.len
  have L0 := (Live.since (Below.refl w.heap.size w)).and (Live.strs h)
  have Hsm := Lib.hid hsm
  clear h hsm
  have z0 : strSet (ss.take 0) st.toNat = [] := by rw [List.take_zero]; unfold strSet; simp
  have O0 : Row intCells 1 (w.alloc (.cells #[] 3)) (w.alloc (.cells #[] 3)).heap.size (some ⟨w.heap.size, 0, none⟩) 0 (strSet (ss.take 0) st.toNat) := by rw [z0]; exact Row.nil _ _ _
  have LL := Lib.hid ((L0.next ((Below.refl _ _).alloc (Nat.le_refl _) (.cells #[] 3))).and (Live.row O0))
  clear O0 z0
  go_enter Tryd.func21, Tryd.ntmps21
  go_wp2_with fail
  go_loopw [5, 6] (fun v i wr => ∃ (k : Nat) (Av : Option Addr) (nv cv : Nat), k ≤ n ∧ i = .int .i64 (k : Int) ∧ v = .slice Av nv cv ∧ Hid (0 < k → 1 ≤ st ∧ st ≤ 8) ∧ Hid (∀ s ∈ ss.take k, nameOk s.data.toList = true) ∧ nv ≤ cv ∧ Hid (Av = none → cv = 0) ∧ Live wr fun W => (Below w.heap.size w W ∧ Strs W W.heap.size A n ss) ∧ Row intCells 1 W W.heap.size Av nv (strSet (ss.take k) st.toNat)) (fun _ i _ => n - (intOf i).toNat)
  case atStart => exact ⟨0, _, 0, 0, Nat.zero_le _, rfl, rfl, Lib.hid (fun h => absurd h (by omega)), Lib.hid (fun s hs => by simp at hs), Nat.le_refl _, Lib.hid (fun e => by cases e), LL.out⟩
  case round =>
    obtain ⟨k, Av, nv, cv, hk, rfl, rfl, Hst, Hok, hcv, Hnv, L⟩ := hrel
    by_cases hlt : k < n
    · have hlt' : (k : Int) < (n : Int) := by omega
      have hkl : k < ss.length := by rw [Hl.out]; exact hlt
      obtain ⟨b, off, rfl, hb, hx⟩ := L.now.1.2.at_ (by omega)
      have c0 := hx k _ (nx_get hkl)
      have NS := Lib.hid (fun W => nameStripeS_any (nx ss k) st W (Hsm.out _ (nx_mem hkl)))
      have Hbad := Lib.hid (fun h => stripesOf_bad (n := st) k hkl h)
      have Hgd := Lib.hid (fun h => stripe_good (s := nx ss k) (n := st) h)
      have His := Lib.hid (fun h => stripe_is (s := nx ss k) (n := st) h)
      have Htk := Lib.hid (take_nx hkl)
      clear hx
      by_cases hneg : nameStripe (nx ss k).data.toList st < 0
      · have Hr := Lib.hid (Hbad.out hneg)
        clear Hgd His
        go_wp2_with (go_at_call 57; (with_reducible refine (NS.out _).mono ?_); (rintro e w1 ⟨rfl, hb1⟩; have L1 := L.next hb1))
        go_ret
        rw [Hr.out]
        exact ⟨_, 0, 0, rfl, Row.nil _ _ _, Nat.le_refl _, Lib.hid (fun e => by cases e), L1.now.1.1.alloc L1.now.1.1.size _⟩
      · obtain ⟨g1, g2⟩ := Hgd.out hneg
        rw [His.out hneg] at NS
        have hst1 : 1 ≤ st.toNat := by omega
        have hln := strSet_len (ss := ss) hst1 k (by omega)
        have hnv : nv ≤ 900 := by rw [← L.now.2.1]; omega
        have PT := Lib.hid (fun W H => l11Put_any Av nv cv (strSet (ss.take k) st.toNat) (stripeOf (nx ss k).data.toList st.toNat) W H (strSet_sorted _ _) hnv)
        rw [strSet_put _ _ hst1, ← Htk.out] at PT
        have hnn : ¬ ((stripeOf (nx ss k).data.toList st.toNat : Nat) : Int) < 0 := by omega
        have Hg := Lib.hid (And.intro g1 g2)
        clear hneg g1 g2 Hgd His Hbad hst1 hln
        go_wp2_with (first
          | (go_at_call 57; (with_reducible refine (NS.out _).mono ?_); (rintro e w1 ⟨rfl, hb1⟩; have L1 := L.next hb1))
          | (go_at_call 58; (with_reducible refine (PT.out _ L1.now.2).mono ?_); (rintro e w3 ⟨A3, n3, c3', rfl, hr3, hc3, Hn3, hb3⟩; have L3 := (L1.next hb3).imp (fun W q => q.1); have L4 := L3.and (Live.row hr3))))
        go_roundw
        case rel => exact ⟨k + 1, A3, n3, c3', by omega, by go_num, rfl, Lib.hid (fun _ => Hg.out.2), Lib.hid (fun s hs => by
          rw [Htk.out] at hs
          rcases List.mem_append.1 hs with h | h
          · exact Hok.out s h
          · rw [List.mem_singleton] at h; rw [h]; exact Hg.out.1), hc3, Hn3, L4⟩
        case measure => simp [intOf]; omega
    · obtain rfl : k = n := by omega
      have hlt' : ¬ (k : Int) < (k : Int) := by omega
      have hall : ss.take k = ss := List.take_of_length_le (by rw [Hl.out]; exact Nat.le_refl _)
      rw [hall] at L Hok
      have Hr : Hid (stripesOf ss st = strSet ss st.toNat) := Lib.hid (by
        unfold stripesOf
        by_cases h0 : 0 < k
        · rw [if_pos ⟨Hst.out h0, Hok.out⟩]
        · have : ss = [] := List.eq_nil_of_length_eq_zero (by rw [Hl.out]; omega)
          subst this
          split
          · rfl
          · unfold strSet; simp)
      go_wp2_with fail
      go_ret
      rw [Hr.out]
      exact ⟨Av, nv, cv, rfl, L.now.2, hcv, Hnv, L.now.1.1⟩
end Go.Proofs.YtecijlebfpbpaaaDoor
