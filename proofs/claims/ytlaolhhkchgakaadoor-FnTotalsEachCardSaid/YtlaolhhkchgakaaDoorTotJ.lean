/- Totals joined: the program's. -/
import Derived.Test.YtlaolhhkchgakaaDoorTotPS
import Derived.Test.YtlaolhhkchgakaaDoorApp
namespace Go.Proofs.YtlaolhhkchgakaaDoor
set_option linter.unusedVariables false
set_option linter.unusedSimpArgs false
open Go.RowKit

set_option maxHeartbeats 2000000 in
theorem joinKey_any (cat : ByteArray) (many sum : Int) (w : World) :
    Calls Tryd.prog 60 #[.agg #[.string cat, .int .i64 many, .int .i64 sum]] w fun e w' => e = .returned (.string cat) ∧ Below w.heap.size w w' := by
  go_enter Tryd.func60, Tryd.ntmps60
  go_wp2_with fail
  go_ret
  exact ⟨rfl, (Below.refl _ _).alloc (Nat.le_refl _) _⟩
set_option maxHeartbeats 2000000 in
theorem joinBoth_any (cat cat' : ByteArray) (many sum many' sum' : Int) (w : World) (h1 : TotB ⟨cat, many, sum⟩) (h2 : TotB ⟨cat', many', sum'⟩) :
    Calls Tryd.prog 61 #[.agg #[.string cat, .int .i64 many, .int .i64 sum], .agg #[.string cat', .int .i64 many', .int .i64 sum']] w fun e w' => e = .returned (.agg #[.string cat, .int .i64 (many + many'), .int .i64 (sum + sum')]) ∧ Below w.heap.size w w' := by
  obtain ⟨_, ⟨a1, a2⟩, a3, a4⟩ := h1
  obtain ⟨_, ⟨b1, b2⟩, b3, b4⟩ := h2
  simp only at a1 a2 a3 a4 b1 b2 b3 b4
  have hw1 : IntKind.i64.wrap (many + many') = many + many' := IntWalk.i64_in _ (by omega)
  have hw2 : IntKind.i64.wrap (sum + sum') = sum + sum' := IntWalk.i64_in _ (by omega)
  go_enter Tryd.func61, Tryd.ntmps61
  go_wp2_with fail
  have BZ := Blk.new ((w.alloc (.cells #[.string cat, .int .i64 many, .int .i64 sum] 29)).alloc (.cells #[.string cat', .int .i64 many', .int .i64 sum'] 29)) 29 #[.string cat, .int .i64 (many + many'), .int .i64 (sum + sum')]
  rw [show ((w.alloc (.cells #[.string cat, .int .i64 many, .int .i64 sum] 29)).alloc (.cells #[.string cat', .int .i64 many', .int .i64 sum'] 29)).heap.size = w.heap.size + 1 + 1 by simp] at BZ
  have y0 := BZ.cell 0
  have y1 := BZ.cell 1
  have y2 := BZ.cell 2
  refine bodyPost_ret (v := .agg #[.string cat, .int .i64 (many + many'), .int .i64 (sum + sum')]) (by simp [results, Tryd.results61, go_sem, y0, y1, y2]) rfl ?_
  exact ⟨rfl, (((Below.refl _ _).alloc (Nat.le_refl _) _).alloc (by simp) _).alloc (by simp; omega) _⟩
def lenV : Value → Nat | .slice _ n _ => n | _ => 0
theorem drop_nx {α : Type} [Inhabited α] {l : List α} {i : Nat} (h : i < l.length) : l.drop i = nx l i :: l.drop (i + 1) := by rw [nx_eq h]; exact List.drop_eq_getElem_cons h
theorem nx_drop {l : List Tot} {i : Nat} (h : i < l.length) : nx (l.drop i) 0 = nx l i := by rw [nx_eq (by rw [List.length_drop]; omega), nx_eq h]; simp
theorem tail_row {W : World} {B : Nat} {A : Option Addr} {k c : Nat} {st : List Tot} (H : Row totCells 3 W B A k st) (hc : k ≤ c) (hk : 1 ≤ k) : Row totCells 3 W B (if c = 1 then A else Option.map (fun x => x.add 3) A) (k - 1) (st.drop 1) := by
  have h1 := H.cut (cap := c) totCells_len 1 k (by omega) (Nat.le_refl _) hc
  have e : (st.drop 1).take (k - 1) = st.drop 1 := List.take_of_length_le (by rw [List.length_drop, H.1]; omega)
  rw [e] at h1
  exact h1
set_option maxRecDepth 100000 in
set_option maxHeartbeats 8000000 in
theorem joined_any (A B : Option Addr) (n c d : Nat) (ts : List Tot) (t : Tot) (w : World) (h : Row totCells 3 w w.heap.size A n ts) (h' : Row totCells 3 w w.heap.size B 1 [t]) (hB : TotsB ts) (ht : TotB t) (hnb : n ≤ 900) (hnc : n ≤ c) (hnil : A = none → c = 0) (hd : 1 ≤ d) :
    Calls Tryd.prog 62 #[.slice A n c, .slice B 1 d, .func (.func 60) #[] #[], .func (.func 61) #[] #[]] w (TotsRet (putT ts t) w) := by
  have hw1 : IntKind.i64.wrap ((n : Int) + 1) = (n : Int) + 1 := IntWalk.i64_in _ (by omega)
  have mk := fun W => make_row elemTot (n + 1) (by omega) ((n : Int) + 1) (by omega) W
  have Om := Lib.hid (made_own (T := 29) (z := .agg #[.string ⟨#[]⟩, .int .i64 0, .int .i64 0]) (size := 3) (k := n + 1) w (Nat.le_refl w.heap.size) (by omega))
  have Bm := Lib.hid ((Below.refl w.heap.size w).alloc (Nat.le_refl _) (.cells (madeCells (Value.agg #[.string ⟨#[]⟩, .int .i64 0, .int .i64 0]).cells ((n + 1) * 3)) 29))
  have HT := Lib.hid ht
  have HBs := Lib.hid hB
  have HA := Lib.hid h
  have HB := Lib.hid h'
  have Hl := Lib.hid h.1
  have Hnil := Lib.hid hnil
  have Hbn : Hid (B = none → d = 0) := Lib.hid fun e => by
    obtain ⟨b, off, e2, _⟩ := h'.tot_at (by omega)
    rw [e] at e2; cases e2
  clear h h' hB ht hnil
  go_enter Tryd.func62, Tryd.ntmps62
  go_wp2_with fail
  clear mk
  go_loopw [0, 1, 9] (fun a b v wr => ∃ (i na ca : Nat) (Aa : Option Addr) (L bl : List Tot) (Bb : Option Addr) (mb db : Nat), i + na = n ∧ na ≤ ca ∧ ca ≤ c ∧ a = .slice Aa na ca ∧ b = .slice Bb mb db ∧ mb ≤ db ∧ Hid (Aa = none → ca = 0) ∧ Hid (Bb = none → db = 0) ∧ Hid (Row totCells 3 w w.heap.size Aa na (ts.drop i)) ∧ Hid (Row totCells 3 w w.heap.size Bb mb bl) ∧ Hid (mb = 1 ∧ bl = [t] ∧ L = ts.take i ∧ (∀ y ∈ L, ltB y.cat t.cat = true) ∨ mb = 0 ∧ L ++ ts.drop i = putT ts t) ∧ wr.ownsRow w.heap.size 29 3 v L.length (L.flatMap totCells) ∧ Hid (Below w.heap.size w wr)) (fun a b _ _ => lenV a + lenV b)
  case atStart => exact ⟨0, n, c, A, [], [t], B, 1, d, by omega, hnc, Nat.le_refl _, rfl, rfl, hd, Hnil, Hbn, HA, HB, Lib.hid (.inl ⟨rfl, rfl, rfl, fun y hy => by cases hy⟩), Om.out, Bm⟩
  case round =>
    obtain ⟨i, na, ca, Aa, L, bl, Bb, mb, db, hin, hca, hcc, rfl, rfl, hdb, Hna, Hnb, HRa, HRb, Hor, hown, HBW⟩ := hrel
    have HO := Lib.hid hown
    clear hown
    by_cases hgo : 0 < na ∧ 0 < mb
    · obtain ⟨hna, hmb⟩ := hgo
      obtain ⟨rfl, rfl, hL, hlt⟩ : mb = 1 ∧ bl = [t] ∧ L = ts.take i ∧ ∀ y ∈ L, ltB y.cat t.cat = true := by
        rcases Hor.out with h | h
        · exact h
        · omega
      have hil : i < ts.length := by rw [Hl.out]; omega
      obtain ⟨⟨xc, xm, xs⟩, he⟩ : ∃ e, nx ts i = e := ⟨_, rfl⟩
      have hsp : ts = L ++ ⟨xc, xm, xs⟩ :: ts.drop (i + 1) := by rw [hL, ← he, ← drop_nx hil]; exact (List.take_append_drop i ts).symm
      have hput : putT ts t = L ++ putT (⟨xc, xm, xs⟩ :: ts.drop (i + 1)) t := by
        have := putT_lt (t := t) (⟨xc, xm, xs⟩ :: ts.drop (i + 1)) hlt
        rw [← hsp] at this
        exact this
      have hdr : ts.drop i = ⟨xc, xm, xs⟩ :: ts.drop (i + 1) := by rw [drop_nx hil, he]
      have htk : ts.take (i + 1) = L ++ [⟨xc, xm, xs⟩] := by rw [take_nx hil, he, hL]
      have hbx := HBs.out (nx ts i) (nx_mem hil)
      rw [he] at hbx
      have Hput := Lib.hid hput
      have Hdr := Lib.hid hdr
      have Htk := Lib.hid htk
      have Hlt := Lib.hid hlt
      have Hbx := Lib.hid hbx
      have Hll : Hid (L.length = i) := Lib.hid (by rw [hL, List.length_take]; omega)
      obtain ⟨b, off, rfl, hb, hx⟩ := HRa.out.tot_at hna
      obtain ⟨b', off', rfl, hb', hx'⟩ := HRb.out.tot_at hmb
      have Hc5 := Lib.hid (tail_row HRa.out hca hna)
      rw [List.drop_drop] at Hc5
      have Hn5 : Hid ((if ca = 1 then some (⟨b, off, none⟩ : Addr) else Option.map (fun x : Addr => x.add 3) (some (⟨b, off, none⟩ : Addr))) = none → ca - 1 = 0) := Lib.hid (fun e => by split at e <;> cases e)
      have Hm5 : Hid ((if db = 1 then some (⟨b', off', none⟩ : Addr) else Option.map (fun x : Addr => x.add 3) (some (⟨b', off', none⟩ : Addr))) = none → db - 1 = 0) := Lib.hid (fun e => by split at e <;> cases e)
      have Hd5 : Hid (Row totCells 3 w w.heap.size (if db = 1 then some (⟨b', off', none⟩ : Addr) else Option.map (fun x : Addr => x.add 3) (some (⟨b', off', none⟩ : Addr))) 0 []) := Lib.hid (Row.nil _ _ _)
      have c0 := hx 0 hna
      have d0 := hx' 0 hmb
      rw [nx_drop hil, he] at c0
      obtain ⟨tc, tm, tsm⟩ := t
      rw [show nx [(⟨tc, tm, tsm⟩ : Tot)] 0 = ⟨tc, tm, tsm⟩ from rfl] at d0
      simp only [Nat.zero_mul, Nat.add_zero] at c0 d0
      have hna' : (0 : Int) < (na : Int) := by omega
      have hmb' : (0 : Int) < ((1 : Nat) : Int) := by decide
      have hca1 : (1 : Int) ≤ (ca : Int) := by omega
      have hna1 : (1 : Int) ≤ (na : Int) := by omega
      have hcan : (na : Int) ≤ (ca : Int) := by omega
      have hdb1 : (1 : Int) ≤ (db : Int) := by omega
      have C0 := fun y : On wr => (show y.W.cell? ⟨b, off, none⟩ = some (.string xc) from ((HBW.out.trans (y.below.mono HBW.out.size)).cell (p := ⟨b, off, none⟩) hb).trans c0.1)
      have C1 := fun y : On wr => (show y.W.cell? ⟨b, off + 1, none⟩ = some (.int .i64 xm) from ((HBW.out.trans (y.below.mono HBW.out.size)).cell (p := ⟨b, off + 1, none⟩) hb).trans c0.2.1)
      have C2 := fun y : On wr => (show y.W.cell? ⟨b, off + 2, none⟩ = some (.int .i64 xs) from ((HBW.out.trans (y.below.mono HBW.out.size)).cell (p := ⟨b, off + 2, none⟩) hb).trans c0.2.2)
      have D0 := fun y : On wr => (show y.W.cell? ⟨b', off', none⟩ = some (.string tc) from ((HBW.out.trans (y.below.mono HBW.out.size)).cell (p := ⟨b', off', none⟩) hb').trans d0.1)
      have D1 := fun y : On wr => (show y.W.cell? ⟨b', off' + 1, none⟩ = some (.int .i64 tm) from ((HBW.out.trans (y.below.mono HBW.out.size)).cell (p := ⟨b', off' + 1, none⟩) hb').trans d0.2.1)
      have D2 := fun y : On wr => (show y.W.cell? ⟨b', off' + 2, none⟩ = some (.int .i64 tsm) from ((HBW.out.trans (y.below.mono HBW.out.size)).cell (p := ⟨b', off' + 2, none⟩) hb').trans d0.2.2)
      have K1 := Lib.hid (fun y : On wr => joinKey_any xc xm xs y.W)
      have K2 := Lib.hid (fun y : On wr => joinKey_any tc tm tsm y.W)
      clear hsp hput hdr htk hbx hL hlt he hx hx'
      go_wp2_with fail
      rcases ltB_tri xc tc with h1 | h1 | h1
      · have e1 : Op.bytesLess xc.toList tc.toList = true := h1
        have H1 := Lib.hid h1
        clear h1
        refine wp_region_on (by kernel_rfl) (by kernel_rfl) ?_
        repeat (go_big_quiet_step (first
          | (go_at_call 60; (with_reducible exact On.calls (K1.out _)))
          | (go_at_call 60; (with_reducible exact On.calls (K2.out _)))))
        refine wpQuiet_nil ?_
        intro w7 hw'
        obtain ⟨⟨w7b, hbw7⟩, hw''⟩ := hw'
        obtain rfl : w7 = w7b := hw''
        have HB7 := Lib.hid (HBW.out.trans (hbw7.mono HBW.out.size))
        have HO7 := Lib.hid (own_next HO.out hbw7)
        clear C0 C1 C2 D0 D1 D2 K1 K2
        have f0 := (HB7.out.cell (p := ⟨b, off, none⟩) hb).trans c0.1
        have f1 := (HB7.out.cell (p := ⟨b, off + 1, none⟩) hb).trans c0.2.1
        have f2 := (HB7.out.cell (p := ⟨b, off + 2, none⟩) hb).trans c0.2.2
        simp only at f0 f1 f2
        have g0 := (HB7.out.cell (p := ⟨b', off', none⟩) hb').trans d0.1
        have g1 := (HB7.out.cell (p := ⟨b', off' + 1, none⟩) hb').trans d0.2.1
        have g2 := (HB7.out.cell (p := ⟨b', off' + 2, none⟩) hb').trans d0.2.2
        simp only at g0 g1 g2
        go_wp2_with (at_builtin; go_must (refine app_one elemTot w7 rfl _ _ rfl w.heap.size _ L.length (L.flatMap totCells) rfl (by exact HO7.out) [.string xc, .int .i64 xm, .int .i64 xs] rfl rfl ?_ ?_ ?_ ?_); (intro u hu; simp at hu; rcases hu with rfl | rfl | rfl <;> rfl); (have := Hll.out; omega); exact HB7.out.size; intro v' w9 own9 grow9 or9)
        have HB9 := Lib.hid (own_below' HO7.out (Nat.le_refl _) HB7.out HB7.out.size grow9)
        have O9 : Hid (w9.ownsRow w.heap.size 29 3 v' (L ++ [(⟨xc, xm, xs⟩ : Tot)]).length ((L ++ [(⟨xc, xm, xs⟩ : Tot)]).flatMap totCells)) := Lib.hid (by rw [flatT_snoc, List.length_append]; exact own9)
        clear own9 grow9 or9
        go_wp2_with fail
        go_roundw
        case rel => exact ⟨i + 1, na - 1, ca - 1, _, L ++ [⟨xc, xm, xs⟩], [⟨tc, tm, tsm⟩], _, 1, db, by omega, by omega, by omega, rfl, rfl, hdb, Hn5, Hnb, Hc5, HRb, Lib.hid (.inl ⟨rfl, rfl, Htk.out.symm, fun y hy => by
          rcases List.mem_append.1 hy with h | h
          · exact Hlt.out y h
          · rw [List.mem_singleton] at h; rw [h]; exact H1.out⟩), O9.out, HB9⟩
        case measure => simp [lenV]; omega
      · subst h1
        have e1 : Op.bytesLess xc.toList xc.toList = false := ltB_irrefl xc
        have e2 : (xc.toList == xc.toList) = true := beq_self_eq_true _
        refine wp_region_on (by kernel_rfl) (by kernel_rfl) ?_
        repeat (go_big_quiet_step (first
          | (go_at_call 60; (with_reducible exact On.calls (K1.out _)))
          | (go_at_call 60; (with_reducible exact On.calls (K2.out _)))))
        refine wpQuiet_nil ?_
        intro w7 hw'
        obtain ⟨⟨w7b, hbw7⟩, hw''⟩ := hw'
        obtain rfl : w7 = w7b := hw''
        have HB7 := Lib.hid (HBW.out.trans (hbw7.mono HBW.out.size))
        have HO7 := Lib.hid (own_next HO.out hbw7)
        clear C0 C1 C2 D0 D1 D2 K1 K2
        have C0 := fun y : On w7 => (show y.W.cell? ⟨b, off, none⟩ = some (.string xc) from ((HB7.out.trans (y.below.mono HB7.out.size)).cell (p := ⟨b, off, none⟩) hb).trans c0.1)
        have C1 := fun y : On w7 => (show y.W.cell? ⟨b, off + 1, none⟩ = some (.int .i64 xm) from ((HB7.out.trans (y.below.mono HB7.out.size)).cell (p := ⟨b, off + 1, none⟩) hb).trans c0.2.1)
        have C2 := fun y : On w7 => (show y.W.cell? ⟨b, off + 2, none⟩ = some (.int .i64 xs) from ((HB7.out.trans (y.below.mono HB7.out.size)).cell (p := ⟨b, off + 2, none⟩) hb).trans c0.2.2)
        have D0 := fun y : On w7 => (show y.W.cell? ⟨b', off', none⟩ = some (.string xc) from ((HB7.out.trans (y.below.mono HB7.out.size)).cell (p := ⟨b', off', none⟩) hb').trans d0.1)
        have D1 := fun y : On w7 => (show y.W.cell? ⟨b', off' + 1, none⟩ = some (.int .i64 tm) from ((HB7.out.trans (y.below.mono HB7.out.size)).cell (p := ⟨b', off' + 1, none⟩) hb').trans d0.2.1)
        have D2 := fun y : On w7 => (show y.W.cell? ⟨b', off' + 2, none⟩ = some (.int .i64 tsm) from ((HB7.out.trans (y.below.mono HB7.out.size)).cell (p := ⟨b', off' + 2, none⟩) hb').trans d0.2.2)
        have K1 := Lib.hid (fun y : On w7 => joinKey_any xc xm xs y.W)
        have K2 := Lib.hid (fun y : On w7 => joinKey_any xc tm tsm y.W)
        go_wp2_with fail
        refine wp_region_on (by kernel_rfl) (by kernel_rfl) ?_
        repeat (go_big_quiet_step (first
          | (go_at_call 60; (with_reducible exact On.calls (K1.out _)))
          | (go_at_call 60; (with_reducible exact On.calls (K2.out _)))))
        refine wpQuiet_nil ?_
        intro w8 hw'
        obtain ⟨⟨w8b, hbw8⟩, hw''⟩ := hw'
        obtain rfl : w8 = w8b := hw''
        have HB8 := Lib.hid (HB7.out.trans (hbw8.mono HB7.out.size))
        have HO8 := Lib.hid (own_next HO7.out hbw8)
        clear C0 C1 C2 D0 D1 D2 K1 K2
        have f0 := (HB8.out.cell (p := ⟨b, off, none⟩) hb).trans c0.1
        have f1 := (HB8.out.cell (p := ⟨b, off + 1, none⟩) hb).trans c0.2.1
        have f2 := (HB8.out.cell (p := ⟨b, off + 2, none⟩) hb).trans c0.2.2
        simp only at f0 f1 f2
        have g0 := (HB8.out.cell (p := ⟨b', off', none⟩) hb').trans d0.1
        have g1 := (HB8.out.cell (p := ⟨b', off' + 1, none⟩) hb').trans d0.2.1
        have g2 := (HB8.out.cell (p := ⟨b', off' + 2, none⟩) hb').trans d0.2.2
        simp only at g0 g1 g2
        go_wp2_with fail
        have c8 := Lib.hid (And.intro f0 (And.intro f1 f2))
        have g8 := Lib.hid (And.intro g0 (And.intro g1 g2))
        clear f0 f1 f2 g0 g1 g2
        have f0 : w8.drew.cell? ⟨b, off, none⟩ = some (.string xc) := c8.out.1
        have f1 : w8.drew.cell? ⟨b, off + 1, none⟩ = some (.int .i64 xm) := c8.out.2.1
        have f2 : w8.drew.cell? ⟨b, off + 2, none⟩ = some (.int .i64 xs) := c8.out.2.2
        have g0 : w8.drew.cell? ⟨b', off', none⟩ = some (.string xc) := g8.out.1
        have g1 : w8.drew.cell? ⟨b', off' + 1, none⟩ = some (.int .i64 tm) := g8.out.2.1
        have g2 : w8.drew.cell? ⟨b', off' + 2, none⟩ = some (.int .i64 tsm) := g8.out.2.2
        have J3 := Lib.hid (joinBoth_any xc xc xm xs tm tsm w8.drew Hbx.out HT.out)
        have OD := Lib.hid (show w8.drew.ownsRow w.heap.size 29 3 _ L.length (L.flatMap totCells) from HO8.out)
        have HBD := Lib.hid (show Below w.heap.size w w8.drew from HB8.out.drew)
        have hll : L.length ≤ 1000000000 := by have := Hll.out; omega
        go_region_law (first
          | (go_simp; go_at_call 61; (with_reducible refine J3.out.mono ?_); (rintro e w4 ⟨rfl, hb4⟩; have O4 := Lib.hid (own_next OD.out hb4); have HB4 := Lib.hid (HBD.out.trans (hb4.mono HBD.out.size))))
          | (go_must (refine app_one_step elemTot w4 ?_ (.tmp 24) (.tmp 33) ?_ w.heap.size _ L.length (L.flatMap totCells) ?_ O4.out [.string xc, .int .i64 (xm + tm), .int .i64 (xs + tsm)] ?_ ?_ ?_ ?_ ?_ ?_; rfl; rfl; rfl; rfl; rfl; (intro u hu; simp at hu; rcases hu with rfl | rfl | rfl <;> rfl); (exact hll); (exact HB4.out.size); intro v' w9 own9 grow9 or9)))
        all_goals
          have HB9 := Lib.hid (own_below' O4.out (Nat.le_refl _) HB4.out HB4.out.size grow9)
          have O9 : Hid (w9.ownsRow w.heap.size 29 3 v' (L ++ [(⟨xc, xm + tm, xs + tsm⟩ : Tot)]).length ((L ++ [(⟨xc, xm + tm, xs + tsm⟩ : Tot)]).flatMap totCells)) := Lib.hid (by rw [flatT_snoc, List.length_append]; exact own9)
          clear own9 grow9 or9
          go_wp2_with fail
          go_roundw
          case rel => exact ⟨i + 1, na - 1, ca - 1, _, L ++ [⟨xc, xm + tm, xs + tsm⟩], [], _, 0, db - 1, by omega, by omega, by omega, rfl, rfl, by omega, Hn5, Hm5, Hc5, Hd5, Lib.hid (.inr ⟨rfl, by rw [Hput.out, putT_same (x := ⟨xc, xm, xs⟩) (t := ⟨xc, tm, tsm⟩) _ rfl, List.append_assoc]; rfl⟩), O9.out, HB9⟩
          case measure => simp [lenV]; omega
      · have e1 : Op.bytesLess xc.toList tc.toList = false := ltB_asymm h1
        have e2 : (xc.toList == tc.toList) = false := toList_ne (fun e => ltB_ne h1 e.symm)
        have H1 := Lib.hid h1
        clear h1
        refine wp_region_on (by kernel_rfl) (by kernel_rfl) ?_
        repeat (go_big_quiet_step (first
          | (go_at_call 60; (with_reducible exact On.calls (K1.out _)))
          | (go_at_call 60; (with_reducible exact On.calls (K2.out _)))))
        refine wpQuiet_nil ?_
        intro w7 hw'
        obtain ⟨⟨w7b, hbw7⟩, hw''⟩ := hw'
        obtain rfl : w7 = w7b := hw''
        have HB7 := Lib.hid (HBW.out.trans (hbw7.mono HBW.out.size))
        have HO7 := Lib.hid (own_next HO.out hbw7)
        clear C0 C1 C2 D0 D1 D2 K1 K2
        have C0 := fun y : On w7 => (show y.W.cell? ⟨b, off, none⟩ = some (.string xc) from ((HB7.out.trans (y.below.mono HB7.out.size)).cell (p := ⟨b, off, none⟩) hb).trans c0.1)
        have C1 := fun y : On w7 => (show y.W.cell? ⟨b, off + 1, none⟩ = some (.int .i64 xm) from ((HB7.out.trans (y.below.mono HB7.out.size)).cell (p := ⟨b, off + 1, none⟩) hb).trans c0.2.1)
        have C2 := fun y : On w7 => (show y.W.cell? ⟨b, off + 2, none⟩ = some (.int .i64 xs) from ((HB7.out.trans (y.below.mono HB7.out.size)).cell (p := ⟨b, off + 2, none⟩) hb).trans c0.2.2)
        have D0 := fun y : On w7 => (show y.W.cell? ⟨b', off', none⟩ = some (.string tc) from ((HB7.out.trans (y.below.mono HB7.out.size)).cell (p := ⟨b', off', none⟩) hb').trans d0.1)
        have D1 := fun y : On w7 => (show y.W.cell? ⟨b', off' + 1, none⟩ = some (.int .i64 tm) from ((HB7.out.trans (y.below.mono HB7.out.size)).cell (p := ⟨b', off' + 1, none⟩) hb').trans d0.2.1)
        have D2 := fun y : On w7 => (show y.W.cell? ⟨b', off' + 2, none⟩ = some (.int .i64 tsm) from ((HB7.out.trans (y.below.mono HB7.out.size)).cell (p := ⟨b', off' + 2, none⟩) hb').trans d0.2.2)
        have K1 := Lib.hid (fun y : On w7 => joinKey_any xc xm xs y.W)
        have K2 := Lib.hid (fun y : On w7 => joinKey_any tc tm tsm y.W)
        go_wp2_with fail
        refine wp_region_on (by kernel_rfl) (by kernel_rfl) ?_
        repeat (go_big_quiet_step (first
          | (go_at_call 60; (with_reducible exact On.calls (K1.out _)))
          | (go_at_call 60; (with_reducible exact On.calls (K2.out _)))))
        refine wpQuiet_nil ?_
        intro w8 hw'
        obtain ⟨⟨w8b, hbw8⟩, hw''⟩ := hw'
        obtain rfl : w8 = w8b := hw''
        have HB8 := Lib.hid (HB7.out.trans (hbw8.mono HB7.out.size))
        have HO8 := Lib.hid (own_next HO7.out hbw8)
        clear C0 C1 C2 D0 D1 D2 K1 K2
        have f0 := (HB8.out.cell (p := ⟨b, off, none⟩) hb).trans c0.1
        have f1 := (HB8.out.cell (p := ⟨b, off + 1, none⟩) hb).trans c0.2.1
        have f2 := (HB8.out.cell (p := ⟨b, off + 2, none⟩) hb).trans c0.2.2
        simp only at f0 f1 f2
        have g0 := (HB8.out.cell (p := ⟨b', off', none⟩) hb').trans d0.1
        have g1 := (HB8.out.cell (p := ⟨b', off' + 1, none⟩) hb').trans d0.2.1
        have g2 := (HB8.out.cell (p := ⟨b', off' + 2, none⟩) hb').trans d0.2.2
        simp only at g0 g1 g2
        go_wp2_with (at_builtin; go_must (refine app_one elemTot w8 rfl _ _ rfl w.heap.size _ L.length (L.flatMap totCells) rfl (by exact HO8.out) [.string tc, .int .i64 tm, .int .i64 tsm] rfl rfl ?_ ?_ ?_ ?_); (intro u hu; simp at hu; rcases hu with rfl | rfl | rfl <;> rfl); (have := Hll.out; omega); exact HB8.out.size; intro v' w9 own9 grow9 or9)
        have HB9 := Lib.hid (own_below' HO8.out (Nat.le_refl _) HB8.out HB8.out.size grow9)
        have O9 : Hid (w9.ownsRow w.heap.size 29 3 v' (L ++ [(⟨tc, tm, tsm⟩ : Tot)]).length ((L ++ [(⟨tc, tm, tsm⟩ : Tot)]).flatMap totCells)) := Lib.hid (by rw [flatT_snoc, List.length_append]; exact own9)
        clear own9 grow9 or9
        go_wp2_with fail
        go_roundw
        case rel => exact ⟨i, na, ca, _, L ++ [⟨tc, tm, tsm⟩], [], _, 0, db - 1, hin, hca, hcc, rfl, rfl, by omega, Hna, Hm5, HRa, Hd5, Lib.hid (.inr ⟨rfl, by rw [Hput.out, putT_gt _ H1.out, Hdr.out, List.append_assoc]; rfl⟩), O9.out, HB9⟩
        case measure => simp [lenV]
    · have Hfin : Hid (L ++ ts.drop i ++ bl = putT ts t ∧ L.length ≤ n + 1) := Lib.hid (by
        rcases Hor.out with ⟨h1, h2, h3, h4⟩ | ⟨h1, h2⟩
        · obtain rfl : na = 0 := by omega
          have hi : i = n := by omega
          have e1 : L = ts := by rw [h3, hi, ← Hl.out, List.take_length]
          have e2 : ts.drop i = [] := List.drop_eq_nil_of_le (by rw [hi, Hl.out]; exact Nat.le_refl _)
          rw [e1] at h4 ⊢
          refine ⟨?_, by rw [Hl.out]; omega⟩
          have := putT_lt (t := t) [] h4
          rw [List.append_nil] at this
          rw [e2, h2, this, List.append_nil]
          rfl
        · have e1 : bl = [] := List.eq_nil_of_length_eq_zero (by rw [HRb.out.1, h1])
          have e2 := (putT_len ts t).2
          rw [← h2, Hl.out, List.length_append] at e2
          exact ⟨by rw [e1, List.append_nil]; exact h2, by omega⟩)
      have hLn : L.length ≤ 1000 := by have := Hfin.out.2; omega
      have hnb' : na ≤ 900 := by omega
      have hmb1 : mb ≤ 1 := by
        rcases Hor.out with h | h
        · omega
        · omega
      have hor2 : na = 0 ∨ (0 < na ∧ mb = 0) := by omega
      clear Hor hgo
      rcases hor2 with rfl | ⟨hna, rfl⟩
      all_goals
        try (have hna' : (0 : Int) < (na : Int) := by omega)
        go_wp2_with (first
          | (at_builtin; (refine app_src elemTot _ rfl _ _ rfl w.heap.size _ L.length (L.flatMap totCells) rfl (by exact HO.out) Aa _ ca w.heap.size ((ts.drop i).flatMap totCells) (by rfl) Hna.out (HRa.out.2.below HBW.out) (tots_one _) ?_ ?_ ?_ ?_); omega; omega; (exact HBW.out.size); intro v7 w7 own7 grow7 or7; have HB7 := Lib.hid (own_below' HO.out (Nat.le_refl _) HBW.out HBW.out.size grow7); have HO7 := Lib.hid own7; clear own7 grow7 or7)
          | (at_builtin; (refine app_src elemTot _ rfl _ _ rfl w.heap.size _ _ _ rfl (by exact HO7.out) Bb _ db w.heap.size (bl.flatMap totCells) (by rfl) Hnb.out (HRb.out.2.below HB7.out) (tots_one _) ?_ ?_ ?_ ?_); omega; omega; (exact HB7.out.size); intro v8 w8 own8 grow8 or8))
        go_ret
        have HB8 := Lib.hid (own_below' HO7.out (Nat.le_refl _) HB7.out HB7.out.size grow8)
        rw [← Hfin.out.1]
        rw [← List.flatMap_append, ← List.flatMap_append] at own8
        exact tots_ret (by rw [List.length_append, List.length_append, HRa.out.1, HRb.out.1]) own8 HB8.out
set_option maxRecDepth 100000 in
set_option maxHeartbeats 4000000 in
theorem totalsJoined_any (A B : Option Addr) (n c d : Nat) (ts : List Tot) (t : Tot) (w : World) (h : Row totCells 3 w w.heap.size A n ts) (h' : Row totCells 3 w w.heap.size B 1 [t]) (hB : TotsB ts) (ht : TotB t) (hnb : n ≤ 900) (hnc : n ≤ c) (hnil : A = none → c = 0) (hd : 1 ≤ d) :
    Calls Tryd.prog 33 #[.slice A n c, .slice B 1 d] w (TotsRet (putT ts t) w) := by
  have J := Lib.hid (joined_any A B n c d ts t w h h' hB ht hnb hnc hnil hd)
  clear h h' hB ht hnil
  go_enter Tryd.func33, Tryd.ntmps33
  go_wp2_with fail
  refine J.out.mono ?_
  rintro e w1 ⟨A3, n3, c3, rfl, hr3, hc3, Hn3, hb3⟩
  go_wp2_with fail
  go_ret
  exact ⟨A3, n3, c3, rfl, hr3, hc3, Hn3, hb3⟩
end Go.Proofs.YtlaolhhkchgakaaDoor
