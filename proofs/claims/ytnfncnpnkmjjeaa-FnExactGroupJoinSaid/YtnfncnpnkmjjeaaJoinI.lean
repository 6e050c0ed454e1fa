/- Joining a group: the program's. -/
import Derived.Test.YtnfncnpnkmjjeaaInsBs
import Derived.Test.YtnfncnpnkmjjeaaJoinS
import Derived.Laws.MakeOwn
import Derived.Laws.OwnMore
namespace Go.Proofs.Ytnfncnpnkmjjeaa
set_option linter.unusedVariables false
set_option linter.unusedSimpArgs false
open Go.RowKit

theorem infoStr2 : (Try.prog.info? 9).map (fun i => (i.zero, i.size, i.bytes)) = some (some (.string ⟨#[]⟩), 1, 16) := by kernel_rfl
theorem make_strs (n : Nat) (hn : n ≤ 1000000) (W : World) : (Instr.makeSlice 22 (.int .i64 0) (.int .i64 ((n : Int) + 1))).run Try.prog W = .ok (.slice (some ⟨W.heap.size, 0, none⟩) 0 (n + 1)) (W.alloc (.cells (madeCells #[.string ⟨#[]⟩] (n + 1)) 9)) := by
  obtain ⟨i0, hi, iz0, iz1, iz2⟩ := info_parts infoStr2
  have h := run_make (P := Try.prog) (w := W) 22 9 i0 (.string ⟨#[]⟩) Try.underlying22 hi iz0 .i64 .i64 0 ((n : Int) + 1) (by omega) (by omega) (by rw [iz2]; omega) (by omega)
  rw [h, iz1]
  have e : ((n : Int) + 1).toNat = n + 1 := by omega
  rw [e]
  simp [Value.cells]
/-- appending within the room, as one step of a region that draws its order. -/
theorem fits_step {ops : Array Oper} {o : Oper} {a : Act} {K : Act → World → Prop} {Q : Exit → Act → World → Prop} {F : Prop} (w : World) (hgd : o.guard = none) (s x : Operand)
    (ho : o.op = .call { callee := .builtin .append, args := #[s, x], argTypes := #[22, 22] }) (g n : Nat) (ms : List ByteArray) (hB : ∃ cur, Blk w g 9 cur ∧ cur.size = n + 1) (hs : a.eval s = .slice (some ⟨g, 0, none⟩) 0 (n + 1)) (hn : n ≤ 1000000)
    (b off c : Nat) (hx : a.eval x = .slice (some ⟨b, off, none⟩) n c) (hsl : Strs w w.heap.size (some ⟨b, off, none⟩) n ms)
    (h : ∀ w', RowIs w' g n ms → w.grownBy w' (some g) → K (a.put o.dst (.slice (some ⟨g, 0, none⟩) n (n + 1))) w') :
    if Region.wanted o (yielded ops a.tmps) = true then Oper.wp Try.prog o a w K Q else F := by
  have hw : Region.wanted o (yielded ops a.tmps) = true := by simp [Region.wanted, hgd]
  rw [if_pos hw]
  obtain ⟨i0, hi, iz0, iz1, iz2⟩ := info_parts infoStr2
  obtain ⟨cur, hB, hsz⟩ := hB
  have hown : w.ownsRow 0 9 1 (.slice (some ⟨g, 0, none⟩) 0 (n + 1)) 0 [] := ⟨rfl, .inr ⟨g, n + 1, cur, rfl, Nat.zero_le _, hB, Nat.zero_le _, by unfold maxLen; omega, by omega, by simp⟩⟩
  obtain ⟨w', hr, h2, h3⟩ := run_append_fits (P := Try.prog) w 0 22 o.type 9 i0 1 Try.underlying22 hi iz1 g 0 (n + 1) [] hown ⟨b, off, none⟩ n c (ms.map Value.string) hsl.1
    (fun j u hj => by
      obtain ⟨hj1, hj2⟩ := List.getElem?_eq_some_iff.1 hj
      have hnp : 0 < n := by have := hsl.1; omega
      obtain ⟨b', off', e, hb, hxx⟩ := hsl.2 hnp
      obtain ⟨rfl, rfl, _⟩ := (Addr.mk.injEq _ _ _ _ _ _).mp (Option.some.inj e)
      have e2 : (⟨b, off, none⟩ : Addr).add j = ⟨b, off + j, none⟩ := by simp [Addr.add]
      rw [e2, hxx j hj1, hj2])
    (fun u hu => by obtain ⟨s, _, rfl⟩ := List.mem_map.1 hu; rfl) (by omega)
  unfold Oper.wp execOp
  simp only [ho, resolve, invoke, builtin, Sem.run_bind, Sem.run_pure, Result.andThen_ok, List.map_toArray, List.map_cons, List.map_nil, hs, hx, hr]
  rw [Nat.zero_add]
  rw [Nat.zero_add] at h2
  refine h w' ?_ h3
  rcases h2.2 with ⟨h4, _⟩ | ⟨g', cap', cur', h4, _, hg', _, _, hsz', ht'⟩
  · injection h4 with h5; cases h5
  · simp only [Value.slice.injEq, Option.some.injEq, Addr.mk.injEq, and_true, true_and] at h4
    obtain ⟨rfl, rfl⟩ := h4
    exact ⟨cur', hg', by omega, hsl.len, by simpa using ht'⟩

theorem RowIs.alloc {w : World} {g n : Nat} {ms : List ByteArray} (h : RowIs w g n ms) (o : Obj) : RowIs (w.alloc o) g n ms := by
  obtain ⟨cur, hB, h1, h2, h3⟩ := h
  exact ⟨cur, hB.alloc o, h1, h2, h3⟩
theorem le_al' {B : Nat} {w : World} (h : B ≤ w.heap.size) (o : Obj) : B ≤ (w.alloc o).heap.size := by simp; omega
theorem sz_al' (w : World) (o : Obj) : w.heap.size + 1 = (w.alloc o).heap.size := by simp
theorem sz_blk {w : World} {g : Nat} {T : TypeId} {cs : Array Value} (hg : g = w.heap.size) : Blk (w.alloc (.cells cs T)) g T cs := by subst hg; exact Blk.new w T cs
theorem Blk.grown_d {w w' : World} {g : Nat} {t : TypeId} {cs : Array Value} {row : Option Nat} (h : Blk w g t cs) (hb : w.drew.grownBy w' row) (hg : some g ≠ row) : Blk w' g t cs := Blk.grown (w := w.drew) h hb hg
theorem grow_eq {g : Nat} : ∀ k, some g = some k → g ≤ k := fun k hk => by injection hk with e; omega
theorem made_blk (n : Nat) (w : World) : ∃ cur, Blk (w.alloc (.cells (madeCells #[.string ⟨#[]⟩] (n + 1)) 9)).drew w.heap.size 9 cur ∧ cur.size = n + 1 :=
  ⟨_, Blk.new w _ _, by simp [madeCells]⟩
/-- a group is returned whose list lies in a block of the call's own. -/
def GroupRetO (ok : Bool) (st : Int) (ms : List ByteArray) (w : World) (e : Ending) (w' : World) : Prop :=
  ∃ A n c, e = .returned (.tuple #[.agg #[.int .i64 (if ok then st else 0), .slice A n c], .bool ok]) ∧ Strs w' w'.heap.size A n (if ok then ms else []) ∧ (∀ p, A = some p → w.heap.size ≤ p.block ∧ ∃ cs, Blk w' p.block 9 cs) ∧ Below w.heap.size w w'
theorem GroupRetO.no {ok : Bool} {st : Int} {ms : List ByteArray} {w w' : World} (h : ok = false) (hb : Below w.heap.size w w') : GroupRetO ok st ms w (.returned (.tuple #[.agg #[.int .i64 0, .slice none 0 0], .bool false])) w' := by
  subst h; exact ⟨none, 0, 0, rfl, Strs.nil _ _ _, fun p hp => (by cases hp), hb⟩
theorem GroupRetO.yes {ok : Bool} {st : Int} {ms : List ByteArray} {w w' : World} {A : Option Addr} {n c : Nat} (h : ok = true) (hs : Strs w' w'.heap.size A n ms) (hf : ∀ p, A = some p → w.heap.size ≤ p.block ∧ ∃ cs, Blk w' p.block 9 cs) (hb : Below w.heap.size w w') : GroupRetO ok st ms w (.returned (.tuple #[.agg #[.int .i64 st, .slice A n c], .bool true])) w' := by
  subst h; exact ⟨A, n, c, rfl, hs, hf, hb⟩
theorem GroupRetO.ret {ok : Bool} {st : Int} {ms : List ByteArray} {w w' : World} {e : Ending} (h : GroupRetO ok st ms w e w') : GroupRet ok st ms w e w' := by
  obtain ⟨A, n, c, h1, h2, _, h3⟩ := h
  exact ⟨A, n, c, h1, h2, h3⟩
set_option maxRecDepth 100000 in
set_option maxHeartbeats 8000000 in
theorem groupJoinO_any (st : Int) (A : Option Addr) (n c : Nat) (ms : List ByteArray) (m : ByteArray) (w : World) (h : Strs w w.heap.size A n ms) (hsm : AllSmall ms) (hm : m.size ≤ maxLen) (hnb2 : n ≤ 2000000) :
    Calls Try.prog 7 #[.agg #[.int .i64 st, .slice A n c], .string m] w (GroupRetO (joinOk st ms m) st (joinMs ms m) w) := by
  have Hlen := Lib.hid h.len
  have H := Lib.hid h
  have Hsm := Lib.hid hsm
  clear h hsm
  cases hg : groupOk st ms with
  | false =>
    have Hr := Lib.hid (joinOk_g (m := m) hg)
    go_enter Try.func7, Try.ntmps7
    go_wp2_with (first
      | (go_at_call 17; go_must (refine (groupValid_any st A n c ms _ (H.out.boxed2 _ _) Hsm.out (by omega)).mono ?_; rw [hg]; rintro e w1 ⟨rfl, hb1⟩; obtain ⟨B0, B1, hw1, hz1⟩ := boxes2 hb1; have k0 := B1.cell 0; have k1 := B1.cell 1; have f0 := B1.frozen 0; have f1 := B1.frozen 1)))
    refine bodyPost_ret (v := .tuple #[.agg #[.int .i64 0, .slice none 0 0], .bool false]) (by simp [results, Try.results7, go_sem, k0, k1]) rfl ?_
    exact GroupRetO.no Hr.out ((hw1.setCell (by show w.heap.size ≤ w.heap.size + 1; omega) _).setCell (by show w.heap.size ≤ w.heap.size + 1; omega) _)
  | true =>
    cases hw : wordOk m.data.toList with
    | false =>
      have Hr := Lib.hid (joinOk_w (st := st) (ms := ms) hw)
      go_enter Try.func7, Try.ntmps7
      go_wp2_with (first
        | (go_at_call 17; go_must (refine (groupValid_any st A n c ms _ (H.out.boxed2 _ _) Hsm.out (by omega)).mono ?_; rw [hg]; rintro e w1 ⟨rfl, hb1⟩; obtain ⟨B0, B1, hw1, hz1⟩ := boxes2 hb1; have k0 := B1.cell 0; have k1 := B1.cell 1; have f0 := B1.frozen 0; have f1 := B1.frozen 1))
        | (go_at_call 18; go_must (refine (wordValid_any m _ hm).mono ?_; rw [hw]; rintro e w2 ⟨rfl, rfl⟩)))
      refine bodyPost_ret (v := .tuple #[.agg #[.int .i64 0, .slice none 0 0], .bool false]) (by simp [results, Try.results7, go_sem, k0, k1]) rfl ?_
      exact GroupRetO.no Hr.out ((hw1.setCell (by show w.heap.size ≤ w.heap.size + 1; omega) _).setCell (by show w.heap.size ≤ w.heap.size + 1; omega) _)
    | true =>
      have Hso := Lib.hid (groupOk_iff.1 hg).2.2.1
      have hn6 := (groupOk_iff.1 hg).2.1
      rw [Hlen.out] at hn6
      have hnb : n ≤ 1000000 := by omega
      obtain ⟨b, off, rfl, hb, hx⟩ := H.out.at_ (by omega)
      have Hx := Lib.hid hx
      clear hx
      cases hh : hasMs ms m with
      | true =>
        have Hr := Lib.hid (joinOk_h (st := st) hh)
        go_enter Try.func7, Try.ntmps7
        go_wp2_with (first
          | (go_at_call 17; go_must (refine (groupValid_any st _ n c ms _ (H.out.boxed2 _ _) Hsm.out (by omega)).mono ?_; rw [hg]; rintro e w1 ⟨rfl, hb1⟩; obtain ⟨B0, B1, hw1, hz1⟩ := boxes2 hb1; have j0 := B0.cell 0; have j1 := B0.cell 1; have k0 := B1.cell 0; have k1 := B1.cell 1; have f0 := B1.frozen 0; have f1 := B1.frozen 1))
          | (go_at_call 18; go_must (refine (wordValid_any m _ hm).mono ?_; rw [hw]; rintro e wx ⟨rfl, rfl⟩))
          | (go_at_call 19; go_must (refine (binSearch_any b off n c ms m _ Hlen.out hnb Hso.out (fun j s hs => (hw1.cell (p := ⟨b, off + j, none⟩) hb).trans (Hx.out j s hs))).mono ?_; rw [hh]; rintro e w2 ⟨rfl, q, rfl⟩)))
        refine bodyPost_ret (v := .tuple #[.agg #[.int .i64 0, .slice none 0 0], .bool false]) (by simp [results, Try.results7, go_sem, k0, k1]) rfl ?_
        exact GroupRetO.no Hr.out (((below_drew_n hw1 q).setCell (by show w.heap.size ≤ w.heap.size + 1; omega) _).setCell (by show w.heap.size ≤ w.heap.size + 1; omega) _)
      | false =>
        have Hmm := Lib.hid (show m ∉ ms from fun e => by rw [hasMs_yes e] at hh; cases hh)
        have Hjl := Lib.hid (joinMs_len Hmm.out)
        have He := Lib.hid (joinOk_e hg hw hh)
        have Hjp := Lib.hid (join_place Hso.out Hmm.out)
        have hpn := placeOf_le ms m
        rw [Hlen.out] at hpn
        go_enter Try.func7, Try.ntmps7
        go_wp2_with (first
          | (go_at_call 17; go_must (refine (groupValid_any st _ n c ms _ (H.out.boxed2 _ _) Hsm.out (by omega)).mono ?_; rw [hg]; rintro e w1 ⟨rfl, hb1⟩; obtain ⟨B0, B1, hw1, hz1⟩ := boxes2 hb1; have j0 := B0.cell 0; have j1 := B0.cell 1))
          | (go_at_call 18; go_must (refine (wordValid_any m _ hm).mono ?_; rw [hw]; rintro e wx ⟨rfl, rfl⟩))
          | (go_at_call 19; go_must (refine (binSearch_any b off n c ms m _ Hlen.out hnb Hso.out (fun j s hs => (hw1.cell (p := ⟨b, off + j, none⟩) hb).trans (Hx.out j s hs))).mono ?_; rw [hh]; rintro e w2 ⟨rfl, q, rfl⟩)))
        have C0 := B0.drewN q
        have C1 := B1.drewN q
        have hw2 := below_drew_n hw1 q
        have hz2 : w.heap.size + 2 ≤ (w1.drewN q).heap.size := hz1
        clear j0 j1 B0 B1 hw1 hb1 hz1
        generalize w1.drewN q = w2 at *
        have mk := make_strs n hnb
        have Hms := Lib.hid (made_blk n w2)
        have i0 := C0.cell 0
        have i1 := C0.cell 1
        have s0 := fun o => (C0.alloc o).cell 0
        have s1 := fun o => (C0.alloc o).cell 1
        have H2 := Lib.hid (H.out.next hw2)
        have HC0 := Lib.hid C0
        have HC1 := Lib.hid C1
        have Hw2 := Lib.hid hw2
        have hn1 : IntKind.i64.wrap ((n : Int) + 1) = (n : Int) + 1 := IntWalk.i64_in _ (by omega)
        clear C0 C1 hw2
        go_wp2_with fail
        go_region_law (first
          | (refine fits_step ((w2.alloc (.cells (madeCells #[.string ⟨#[]⟩] (n + 1)) 9)).drew) ?_ (.tmp 32) (.tmp 34) ?_ w2.heap.size n ms Hms.out ?_ hnb b off c ?_ (H2.out.step (below_ad w2 _)) ?_; rfl; rfl; rfl; rfl; intro w3 hR3 hg3))
        all_goals
          have hb3 : Below w2.heap.size w2 w3 := (below_ad w2 _).grown hg3 (below_ad w2 _).size grow_eq
          have hz3 := hb3.size
          have HR3 := Lib.hid hR3
          have hlt3 : w2.heap.size < w3.heap.size := by obtain ⟨cur, hB, _⟩ := hR3; exact hB.lt
          have D0 := HC0.out.next hb3
          have k0 := D0.cell 0
          have k1 := fun o => (D0.alloc o).cell 0
          have k2 := fun o o' => ((D0.alloc o).alloc o').cell 0
          have hne3 : w3.heap.size ≠ w2.heap.size := by omega
          have hne5 : w3.heap.size + 1 ≠ w2.heap.size := by omega
          have hne4 : some (w3.heap.size + 1) ≠ some w2.heap.size := fun e => hne5 (Option.some.inj e)
          have hne6 : some w3.heap.size ≠ some w2.heap.size := fun e => hne3 (Option.some.inj e)
          have hne1 : w.heap.size ≠ w3.heap.size + 1 := by omega
          have hne2 : w.heap.size ≠ w3.heap.size := by omega
          have HAi := Lib.hid (insert_any w2.heap.size n (placeOf ms m) w3.heap.size ms m ((w3.alloc (.cells #[.string m] 9)).drew) (HR3.out.alloc (.cells #[.string m] 9)) (Blk.new w3 _ _) hne3 hpn hnb)
          have HBi := Lib.hid (insert_any w2.heap.size n (placeOf ms m) w3.heap.size ms m (((w3.alloc (.cells #[.string m] 9)).alloc (.cells #[.int .i64 0, .slice none 0 0] 26)).drew) ((HR3.out.alloc (.cells #[.string m] 9)).alloc (.cells #[.int .i64 0, .slice none 0 0] 26)) ((Blk.new w3 _ _).alloc _) hne3 hpn hnb)
          have HCi := Lib.hid (insert_any w2.heap.size n (placeOf ms m) (w3.heap.size + 1) ms m (((w3.alloc (.cells #[.int .i64 0, .slice none 0 0] 26)).alloc (.cells #[.string m] 9)).drew) ((HR3.out.alloc (.cells #[.int .i64 0, .slice none 0 0] 26)).alloc (.cells #[.string m] 9)) (sz_blk (w := w3.alloc (.cells #[.int .i64 0, .slice none 0 0] 26)) (sz_al' w3 _)) hne5 hpn hnb)
          clear s0 s1 mk hn1 i0 i1 hg3 hR3
          go_wp2_with fail
          go_region_held3 (fun w' => w'.cell? ⟨w.heap.size, 0, none⟩ = some (.int .i64 st)) (first | exact k0 | exact k1 _ | exact k2 _ _ | exact t0 | exact t1 _ | exact t4 _ _) (first
            | (go_at_call 20; ((with_reducible refine HAi.out.mono ?_); rintro e w4 ⟨rfl, hs4, hg4, cs4, hB4⟩; have hb4 : Below w2.heap.size w2 w4 := ((hb3.alloc hz3 (.cells #[.string m] 9)).drew).grown hg4 (le_al' hz3 _) grow_eq; have t0 : w4.cell? ⟨w.heap.size, 0, none⟩ = some (.int .i64 st) := (HC0.out.next hb4).cell 0; have t1 := fun o => ((HC0.out.next hb4).alloc o).cell 0))
            | (go_at_call 20; ((with_reducible refine HCi.out.mono ?_); rintro e w4 ⟨rfl, hs4, hg4, cs4, hB4⟩; have hb4 : Below w2.heap.size w2 w4 := (((hb3.alloc hz3 (.cells #[.int .i64 0, .slice none 0 0] 26)).alloc (le_al' hz3 _) (.cells #[.string m] 9)).drew).grown hg4 (le_al' (le_al' hz3 _) _) grow_eq; have t0 : w4.cell? ⟨w.heap.size, 0, none⟩ = some (.int .i64 st) := (HC0.out.next hb4).cell 0; have t1 := fun o => ((HC0.out.next hb4).alloc o).cell 0; have Zb : Blk w4 w3.heap.size _ _ := ((Blk.new w3 26 #[.int .i64 0, .slice none 0 0]).alloc (.cells #[.string m] 9)).grown_d hg4 hne6; have z0 := Zb.cell 0; have z1 := Zb.cell 1; have zf0 := Zb.frozen 0; have zf1 := Zb.frozen 1; have t4 := fun u u' => (((HC0.out.next hb4).far (p := ⟨w3.heap.size, 0, none⟩) hne2 u).far (p := ⟨w3.heap.size, 1, none⟩) hne2 u').cell 0))
            | (go_at_call 20; ((with_reducible refine HBi.out.mono ?_); rintro e w4 ⟨rfl, hs4, hg4, cs4, hB4⟩; have hb4 : Below w2.heap.size w2 w4 := (((hb3.alloc hz3 (.cells #[.string m] 9)).alloc (le_al' hz3 _) (.cells #[.int .i64 0, .slice none 0 0] 26)).drew).grown hg4 (le_al' (le_al' hz3 _) _) grow_eq; have t0 : w4.cell? ⟨w.heap.size, 0, none⟩ = some (.int .i64 st) := (HC0.out.next hb4).cell 0; have t1 := fun o => ((HC0.out.next hb4).alloc o).cell 0; have Zb : Blk w4 (w3.heap.size + 1) _ _ := (sz_blk (w := w3.alloc (.cells #[.string m] 9)) (cs := #[.int .i64 0, .slice none 0 0]) (T := 26) (sz_al' w3 _)).grown_d hg4 hne4; have z0 := Zb.cell 0; have z1 := Zb.cell 1; have zf0 := Zb.frozen 0; have zf1 := Zb.frozen 1; have t4 := fun u u' => (((HC0.out.next hb4).far (p := ⟨w3.heap.size + 1, 0, none⟩) hne1 u).far (p := ⟨w3.heap.size + 1, 1, none⟩) hne1 u').cell 0)))
        all_goals
          rw [← Hjp.out] at hs4
          have hs4' := hs4
          have Hw4 := Lib.hid (bt Hw2.out hb4)
          have HB1 := Lib.hid (HC1.out.next hb4)
          first
            | (have BG : Blk ((w4.setCell ⟨w3.heap.size + 1, 0, none⟩ (.int .i64 st)).setCell ⟨w3.heap.size + 1, 1, none⟩ (.slice (some ⟨w2.heap.size, 0, none⟩) (n + 1) (n + 1))) (w3.heap.size + 1) _ _ := (Zb.set_ 0 (.int .i64 st)).set_ 1 (.slice (some ⟨w2.heap.size, 0, none⟩) (n + 1) (n + 1))
               have HS := Lib.hid (show Strs ((w4.setCell ⟨w3.heap.size + 1, 0, none⟩ (.int .i64 st)).setCell ⟨w3.heap.size + 1, 1, none⟩ (.slice (some ⟨w2.heap.size, 0, none⟩) (n + 1) (n + 1))) _ _ _ (joinMs ms m) from Sl.more ((Sl.far hs4' ⟨w3.heap.size + 1, 0, none⟩ (.int .i64 st) (fun p hp => by obtain rfl := Option.some.inj hp; show w2.heap.size ≠ w3.heap.size + 1; omega)).far ⟨w3.heap.size + 1, 1, none⟩ (.slice (some ⟨w2.heap.size, 0, none⟩) (n + 1) (n + 1)) (fun p hp => by obtain rfl := Option.some.inj hp; show w2.heap.size ≠ w3.heap.size + 1; omega)) (B' := ((w4.setCell ⟨w3.heap.size + 1, 0, none⟩ (.int .i64 st)).setCell ⟨w3.heap.size + 1, 1, none⟩ (.slice (some ⟨w2.heap.size, 0, none⟩) (n + 1) (n + 1))).heap.size) (by simp))
               have HwZ := Lib.hid ((Hw4.out.setCell (p := ⟨w3.heap.size + 1, 0, none⟩) (by show w.heap.size ≤ w3.heap.size + 1; omega) (.int .i64 st)).setCell (p := ⟨w3.heap.size + 1, 1, none⟩) (by show w.heap.size ≤ w3.heap.size + 1; omega) (.slice (some ⟨w2.heap.size, 0, none⟩) (n + 1) (n + 1)))
               have HB1z := Lib.hid ((HB1.out.far (p := ⟨w3.heap.size + 1, 0, none⟩) (by show w.heap.size + 1 ≠ w3.heap.size + 1; omega) (.int .i64 st)).far (p := ⟨w3.heap.size + 1, 1, none⟩) (by show w.heap.size + 1 ≠ w3.heap.size + 1; omega) (.slice (some ⟨w2.heap.size, 0, none⟩) (n + 1) (n + 1)))
               have HBl := Lib.hid ((hB4.far (p := ⟨w3.heap.size + 1, 0, none⟩) (by show w2.heap.size ≠ w3.heap.size + 1; omega) (.int .i64 st)).far (p := ⟨w3.heap.size + 1, 1, none⟩) (by show w2.heap.size ≠ w3.heap.size + 1; omega) (.slice (some ⟨w2.heap.size, 0, none⟩) (n + 1) (n + 1)))
               clear z0 z1 zf0 zf1 Zb t4 t0 t1
               generalize (w4.setCell ⟨w3.heap.size + 1, 0, none⟩ (.int .i64 st)).setCell ⟨w3.heap.size + 1, 1, none⟩ (.slice (some ⟨w2.heap.size, 0, none⟩) (n + 1) (n + 1)) = wz at *)
            | (have BG : Blk ((w4.setCell ⟨w3.heap.size, 0, none⟩ (.int .i64 st)).setCell ⟨w3.heap.size, 1, none⟩ (.slice (some ⟨w2.heap.size, 0, none⟩) (n + 1) (n + 1))) (w3.heap.size) _ _ := (Zb.set_ 0 (.int .i64 st)).set_ 1 (.slice (some ⟨w2.heap.size, 0, none⟩) (n + 1) (n + 1))
               have HS := Lib.hid (show Strs ((w4.setCell ⟨w3.heap.size, 0, none⟩ (.int .i64 st)).setCell ⟨w3.heap.size, 1, none⟩ (.slice (some ⟨w2.heap.size, 0, none⟩) (n + 1) (n + 1))) _ _ _ (joinMs ms m) from Sl.more ((Sl.far hs4' ⟨w3.heap.size, 0, none⟩ (.int .i64 st) (fun p hp => by obtain rfl := Option.some.inj hp; show w2.heap.size ≠ w3.heap.size; omega)).far ⟨w3.heap.size, 1, none⟩ (.slice (some ⟨w2.heap.size, 0, none⟩) (n + 1) (n + 1)) (fun p hp => by obtain rfl := Option.some.inj hp; show w2.heap.size ≠ w3.heap.size; omega)) (B' := ((w4.setCell ⟨w3.heap.size, 0, none⟩ (.int .i64 st)).setCell ⟨w3.heap.size, 1, none⟩ (.slice (some ⟨w2.heap.size, 0, none⟩) (n + 1) (n + 1))).heap.size) (by simp))
               have HwZ := Lib.hid ((Hw4.out.setCell (p := ⟨w3.heap.size, 0, none⟩) (by show w.heap.size ≤ w3.heap.size; omega) (.int .i64 st)).setCell (p := ⟨w3.heap.size, 1, none⟩) (by show w.heap.size ≤ w3.heap.size; omega) (.slice (some ⟨w2.heap.size, 0, none⟩) (n + 1) (n + 1)))
               have HB1z := Lib.hid ((HB1.out.far (p := ⟨w3.heap.size, 0, none⟩) (by show w.heap.size + 1 ≠ w3.heap.size; omega) (.int .i64 st)).far (p := ⟨w3.heap.size, 1, none⟩) (by show w.heap.size + 1 ≠ w3.heap.size; omega) (.slice (some ⟨w2.heap.size, 0, none⟩) (n + 1) (n + 1)))
               have HBl := Lib.hid ((hB4.far (p := ⟨w3.heap.size, 0, none⟩) (by show w2.heap.size ≠ w3.heap.size; omega) (.int .i64 st)).far (p := ⟨w3.heap.size, 1, none⟩) (by show w2.heap.size ≠ w3.heap.size; omega) (.slice (some ⟨w2.heap.size, 0, none⟩) (n + 1) (n + 1)))
               clear z0 z1 zf0 zf1 Zb t4 t0 t1
               generalize (w4.setCell ⟨w3.heap.size, 0, none⟩ (.int .i64 st)).setCell ⟨w3.heap.size, 1, none⟩ (.slice (some ⟨w2.heap.size, 0, none⟩) (n + 1) (n + 1)) = wz at *)
            | (have BG := Blk.new w4 26 #[.int .i64 st, .slice (some ⟨w2.heap.size, 0, none⟩) (n + 1) (n + 1)]
               have HS := Lib.hid (Strs.boxed1 hs4 (.cells #[.int .i64 st, .slice (some ⟨w2.heap.size, 0, none⟩) (n + 1) (n + 1)] 26))
               have HwZ := Lib.hid (Hw4.out.alloc Hw4.out.size (.cells #[.int .i64 st, .slice (some ⟨w2.heap.size, 0, none⟩) (n + 1) (n + 1)] 26))
               have HB1z := Lib.hid (HB1.out.alloc (.cells #[.int .i64 st, .slice (some ⟨w2.heap.size, 0, none⟩) (n + 1) (n + 1)] 26))
               have HBl := Lib.hid (hB4.alloc (.cells #[.int .i64 st, .slice (some ⟨w2.heap.size, 0, none⟩) (n + 1) (n + 1)] 26))
               clear t0 t1
               generalize w4.alloc (.cells #[.int .i64 st, .slice (some ⟨w2.heap.size, 0, none⟩) (n + 1) (n + 1)] 26) = wz at *)
          have HBG := Lib.hid BG
          have g0 := BG.cell 0
          have g1 := BG.cell 1
          have Hsm' : Hid (AllSmall (joinMs ms m)) := Lib.hid fun x hx => by
            rcases joinMs_mem hx with rfl | h
            · exact hm
            · exact Hsm.out x h
          clear k0 k1 k2 hs4 hs4' hg4 hb4 hB4 BG HAi HBi HCi
          cases hgl : groupOk st (joinMs ms m) with
          | false =>
            have Hr := Lib.hid (He.out.trans hgl)
            go_wp2_with (first
              | (go_at_call 17; go_must (refine (groupValid_any st _ (n + 1) (n + 1) (joinMs ms m) _ HS.out Hsm'.out (by omega)).mono ?_; rw [hgl]; rintro e w5 ⟨rfl, hb5⟩; have E1 := HB1z.out.next hb5; have m0 := E1.cell 0; have m1 := E1.cell 1; have f0 := E1.frozen 0; have f1 := E1.frozen 1)))
            refine bodyPost_ret (v := .tuple #[.agg #[.int .i64 0, .slice none 0 0], .bool false]) (by simp [results, Try.results7, go_sem, m0, m1]) rfl ?_
            exact GroupRetO.no Hr.out (((bt HwZ.out hb5).setCell (by show w.heap.size ≤ w.heap.size + 1; omega) _).setCell (by show w.heap.size ≤ w.heap.size + 1; omega) _)
          | true =>
            have Hr := Lib.hid (He.out.trans hgl)
            go_wp2_with (first
              | (go_at_call 17; go_must (refine (groupValid_any st _ (n + 1) (n + 1) (joinMs ms m) _ HS.out Hsm'.out (by omega)).mono ?_; rw [hgl]; rintro e w5 ⟨rfl, hb5⟩; have E1 := HB1z.out.next hb5; have m0 := E1.cell 0; have m1 := E1.cell 1; have f0 := E1.frozen 0; have f1 := E1.frozen 1; have E2 := HBG.out.next hb5; have n0 := E2.cell 0; have n1 := E2.cell 1)))
            refine bodyPost_ret (v := .tuple #[.agg #[.int .i64 st, .slice (some ⟨w2.heap.size, 0, none⟩) (n + 1) (n + 1)], .bool true]) (by simp [results, Try.results7, go_sem, m0, m1]) rfl ?_
            refine GroupRetO.yes Hr.out ?_ (fun p hp => by obtain rfl := Option.some.inj hp; exact ⟨by show w.heap.size ≤ w2.heap.size; omega, _, ((HBl.out.next hb5).far (p := ⟨w.heap.size + 1, 0, none⟩) (by show w2.heap.size ≠ w.heap.size + 1; omega) _).far (p := ⟨w.heap.size + 1, 1, none⟩) (by show w2.heap.size ≠ w.heap.size + 1; omega) _⟩) (((bt HwZ.out hb5).setCell (by show w.heap.size ≤ w.heap.size + 1; omega) _).setCell (by show w.heap.size ≤ w.heap.size + 1; omega) _)
            have hs5 := HS.out.step hb5
            refine Sl.more ((Sl.far hs5 _ _ ?_).far _ _ ?_) (by simp)
            · intro p hp; obtain rfl := Option.some.inj hp; show w2.heap.size ≠ w.heap.size + 1; omega
            · intro p hp; obtain rfl := Option.some.inj hp; show w2.heap.size ≠ w.heap.size + 1; omega
theorem groupJoin_any (st : Int) (A : Option Addr) (n c : Nat) (ms : List ByteArray) (m : ByteArray) (w : World) (h : Strs w w.heap.size A n ms) (hsm : AllSmall ms) (hm : m.size ≤ maxLen) (hnb : n ≤ 2000000) :
    Calls Try.prog 7 #[.agg #[.int .i64 st, .slice A n c], .string m] w (GroupRet (joinOk st ms m) st (joinMs ms m) w) :=
  (groupJoinO_any st A n c ms m w h hsm hm hnb).mono fun _ _ h => h.ret
end Go.Proofs.Ytnfncnpnkmjjeaa
