/- Joining a group: the reference's. -/
import Derived.Test.YtnfncnpnkmjjeaaPut
import Derived.Deep.RegionWith
import Derived.Deep.RegionHeld3
namespace Go.Proofs.Ytnfncnpnkmjjeaa
set_option linter.unusedVariables false
set_option linter.unusedSimpArgs false
open Go.RowKit

theorem joinOk_g {st : Int} {ms : List ByteArray} {m : ByteArray} (h : groupOk st ms = false) : joinOk st ms m = false := by unfold joinOk; rw [h]; rfl
theorem joinOk_w {st : Int} {ms : List ByteArray} {m : ByteArray} (h : wordOk m.data.toList = false) : joinOk st ms m = false := by unfold joinOk; rw [h]; simp
theorem joinOk_h {st : Int} {ms : List ByteArray} {m : ByteArray} (h : hasMs ms m = true) : joinOk st ms m = false := by unfold joinOk; rw [h]; simp
theorem joinOk_e {st : Int} {ms : List ByteArray} {m : ByteArray} (h1 : groupOk st ms = true) (h2 : wordOk m.data.toList = true) (h3 : hasMs ms m = false) : joinOk st ms m = groupOk st (joinMs ms m) := by unfold joinOk; rw [h1, h2, h3]; rfl
theorem Strs.step {w w' : World} {A : Option Addr} {n : Nat} {ms : List ByteArray} (h : Strs w w.heap.size A n ms) (hb : Below w.heap.size w w') : Strs w' w'.heap.size A n ms := Sl.next h hb
theorem below_ad (w : World) (o : Obj) : Below w.heap.size w (w.alloc o).drew := ((Below.refl w.heap.size w).alloc (Nat.le_refl _) o).drew
theorem below_d (w : World) : Below w.heap.size w w.drew := (Below.refl w.heap.size w).drew
theorem below_adt {w w' : World} {o : Obj} (h : Below (w.alloc o).drew.heap.size (w.alloc o).drew w') : Below w.heap.size w w' := (below_ad w o).trans (h.mono (below_ad w o).size)

set_option maxRecDepth 100000 in
set_option maxHeartbeats 8000000 in
theorem groupJoinS_any (st : Int) (A : Option Addr) (n c : Nat) (ms : List ByteArray) (m : ByteArray) (w : World) (h : Strs w w.heap.size A n ms) (hsm : AllSmall ms) (hm : m.size ≤ maxLen) (hnb2 : n ≤ 2000000) :
    Calls Try.prog 5 #[.agg #[.int .i64 st, .slice A n c], .string m] w (GroupRet (joinOk st ms m) st (joinMs ms m) w) := by
  have Hlen := Lib.hid h.len
  have H := Lib.hid h
  have Hsm := Lib.hid hsm
  clear h hsm
  cases hg : groupOk st ms with
  | false =>
    have Hr := Lib.hid (joinOk_g (m := m) hg)
    go_enter Try.func5, Try.ntmps5
    go_wp2_with (first
      | (go_at_call 12; go_must (refine (groupValidS_any st A n c ms _ (H.out.boxed2 _ _) Hsm.out (by omega)).mono ?_; rw [hg]; rintro e w1 ⟨rfl, hb1⟩; obtain ⟨B0, B1, hw1, hz1⟩ := boxes2 hb1; have k0 := B1.cell 0; have k1 := B1.cell 1; have f0 := B1.frozen 0; have f1 := B1.frozen 1)))
    refine bodyPost_ret (v := .tuple #[.agg #[.int .i64 0, .slice none 0 0], .bool false]) (by simp [results, Try.results5, go_sem, k0, k1]) rfl ?_
    exact GroupRet.no Hr.out ((hw1.setCell (by show w.heap.size ≤ w.heap.size + 1; omega) _).setCell (by show w.heap.size ≤ w.heap.size + 1; omega) _)
  | true =>
    cases hw : wordOk m.data.toList with
    | false =>
      have Hr := Lib.hid (joinOk_w (st := st) (ms := ms) hw)
      go_enter Try.func5, Try.ntmps5
      go_wp2_with (first
        | (go_at_call 12; go_must (refine (groupValidS_any st A n c ms _ (H.out.boxed2 _ _) Hsm.out (by omega)).mono ?_; rw [hg]; rintro e w1 ⟨rfl, hb1⟩; obtain ⟨B0, B1, hw1, hz1⟩ := boxes2 hb1; have k0 := B1.cell 0; have k1 := B1.cell 1; have f0 := B1.frozen 0; have f1 := B1.frozen 1))
        | (go_at_call 13; go_must (refine (l1Word_any m _ hm).mono ?_; rw [hw]; rintro e w2 ⟨rfl, rfl⟩)))
      refine bodyPost_ret (v := .tuple #[.agg #[.int .i64 0, .slice none 0 0], .bool false]) (by simp [results, Try.results5, go_sem, k0, k1]) rfl ?_
      exact GroupRet.no Hr.out ((hw1.setCell (by show w.heap.size ≤ w.heap.size + 1; omega) _).setCell (by show w.heap.size ≤ w.heap.size + 1; omega) _)
    | true =>
      cases hh : hasMs ms m with
      | true =>
        have Hr := Lib.hid (joinOk_h (st := st) hh)
        go_enter Try.func5, Try.ntmps5
        go_wp2_with (first
          | (go_at_call 12; go_must (refine (groupValidS_any st A n c ms _ (H.out.boxed2 _ _) Hsm.out (by omega)).mono ?_; rw [hg]; rintro e w1 ⟨rfl, hb1⟩; obtain ⟨B0, B1, hw1, hz1⟩ := boxes2 hb1; have j0 := B0.cell 0; have j1 := B0.cell 1))
          | (go_at_call 13; go_must (refine (l1Word_any m _ hm).mono ?_; rw [hw]; rintro e wx ⟨rfl, rfl⟩))
          | (go_at_call 14; go_must (refine (l33Has_any st A n c ms m _ (H.out.next hw1) (by omega)).mono ?_; rw [hh]; rintro e w2 ⟨rfl, hb2⟩; have B2 := B1.next hb2; have k0 := B2.cell 0; have k1 := B2.cell 1; have f0 := B2.frozen 0; have f1 := B2.frozen 1)))
        refine bodyPost_ret (v := .tuple #[.agg #[.int .i64 0, .slice none 0 0], .bool false]) (by simp [results, Try.results5, go_sem, k0, k1]) rfl ?_
        exact GroupRet.no Hr.out (((hw1.trans (hb2.mono (by omega))).setCell (by show w.heap.size ≤ w.heap.size + 1; omega) _).setCell (by show w.heap.size ≤ w.heap.size + 1; omega) _)
      | false =>
        have Hso := Lib.hid (groupOk_iff.1 hg).2.2.1
        have Hmm := Lib.hid (show m ∉ ms from fun e => by rw [hasMs_yes e] at hh; cases hh)
        have Hjl := Lib.hid (joinMs_len Hmm.out)
        have He := Lib.hid (joinOk_e hg hw hh)
        have hn6 := Lib.hid (groupOk_iff.1 hg).2.1
        have hnb : n ≤ 1000000 := by have h1 := hn6.out; have h2 := Hlen.out; omega
        go_enter Try.func5, Try.ntmps5
        go_wp2_with (first
          | (go_at_call 12; go_must (refine (groupValidS_any st A n c ms _ (H.out.boxed2 _ _) Hsm.out (by omega)).mono ?_; rw [hg]; rintro e w1 ⟨rfl, hb1⟩; obtain ⟨B0, B1, hw1, hz1⟩ := boxes2 hb1; have j0 := B0.cell 0; have j1 := B0.cell 1))
          | (go_at_call 13; go_must (refine (l1Word_any m _ hm).mono ?_; rw [hw]; rintro e wx ⟨rfl, rfl⟩))
          | (go_at_call 14; go_must (refine (l33Has_any st A n c ms m _ (H.out.next hw1) (by omega)).mono ?_; rw [hh]; rintro e w2 ⟨rfl, hb2⟩; have C0 := B0.next hb2; have C1 := B1.next hb2; have i0 := C0.cell 0; have i1 := C0.cell 1)))
        have hw2 := hw1.trans (hb2.mono (by omega))
        have hz2 : w.heap.size + 2 ≤ w2.heap.size := by have := hb2.size; omega
        have H2 := Lib.hid (H.out.next hw2)
        have HC0 := Lib.hid C0
        have HC1 := Lib.hid C1
        have Hw2 := Lib.hid hw2
        have s0 := fun o => (C0.alloc o).cell 0
        have s1 := fun o => (C0.alloc o).cell 1
        clear hb1 hb2 B0 B1 j0 j1 hw1 hz1 C0 C1 hw2
        have hne0 : w.heap.size ≠ w2.heap.size := by omega
        have L1 := Lib.hid fun (X : World) (hX : Strs X X.heap.size A n ms) => l4Put_any A n c ms m X hX hnb Hso.out Hmm.out
        go_region_held3 (fun w' => w'.cell? ⟨w.heap.size, 0, none⟩ = some (.int .i64 st) ∧ w'.cell? ⟨w.heap.size, 1, none⟩ = some (.slice A n c)) (first | exact ⟨i0, i1⟩ | exact ⟨s0 _, s1 _⟩ | exact ⟨t0, t1⟩ | exact ⟨t2 _, t3 _⟩ | exact ⟨t4 _ _, t5 _ _⟩ | go_keep) (first | (go_at_call 15; (first | refine (L1.out _ (H2.out.step (below_ad w2 _))).mono ?_ | refine (L1.out _ (H2.out.step (below_d w2))).mono ?_); rintro e w3 ⟨A3, n3, c3, rfl, hnc3, hs3, hb3, hA3⟩; (first | (have hb3' : Below w2.heap.size w2 w3 := below_undrew hb3) | (have hb3' : Below w2.heap.size w2 w3 := below_adt hb3; have Z := (Blk.new w2 26 #[.int .i64 0, .slice none 0 0]).next (below_undrew hb3); have z0 : w3.cell? ⟨w2.heap.size, 0, none⟩ = some (.int .i64 0) := Z.cell 0; have z1 : w3.cell? ⟨w2.heap.size, 1, none⟩ = some (.slice none 0 0) := Z.cell 1; have zf0 := Z.frozen 0; have zf1 := Z.frozen 1)); have t0 : w3.cell? ⟨w.heap.size, 0, none⟩ = some (.int .i64 st) := (HC0.out.next hb3').cell 0; have t1 : w3.cell? ⟨w.heap.size, 1, none⟩ = some (.slice A n c) := (HC0.out.next hb3').cell 1; have t2 := fun o => ((HC0.out.next hb3').alloc o).cell 0; have t3 := fun o => ((HC0.out.next hb3').alloc o).cell 1; have t4 := fun u u' => (((HC0.out.next hb3').far (p := ⟨w2.heap.size, 0, none⟩) hne0 u).far (p := ⟨w2.heap.size, 1, none⟩) hne0 u').cell 0; have t5 := fun u u' => (((HC0.out.next hb3').far (p := ⟨w2.heap.size, 0, none⟩) hne0 u).far (p := ⟨w2.heap.size, 1, none⟩) hne0 u').cell 1))
        all_goals
          have hz3 := hb3'.size
          have hN3 : n3 ≤ 1000000 := by have := hs3.len; have := Hjl.out; have := hn6.out; omega
          have Hw3 := Lib.hid (bt Hw2.out hb3')
          have HB1 := Lib.hid (HC1.out.next hb3')
          first
            | (have BG := (Z.set_ 0 (.int .i64 st)).set_ 1 (.slice A3 n3 c3)
               have e0 : (w2.alloc (.cells #[.int .i64 0, .slice none 0 0] 26)).drew.heap.size = w2.heap.size + 1 := by show (w2.alloc _).heap.size = _; simp
               have HS := Lib.hid (show Strs _ _ A3 n3 (joinMs ms m) from Sl.more ((Sl.far hs3 ⟨w2.heap.size, 0, none⟩ (.int .i64 st) (fun p hp => by have h1 := hA3 p hp; rw [e0] at h1; show p.block ≠ w2.heap.size; omega)).far ⟨w2.heap.size, 1, none⟩ (.slice A3 n3 c3) (fun p hp => by have h1 := hA3 p hp; rw [e0] at h1; show p.block ≠ w2.heap.size; omega)) (B' := ((w3.setCell ⟨w2.heap.size, 0, none⟩ (.int .i64 st)).setCell ⟨w2.heap.size, 1, none⟩ (.slice A3 n3 c3)).heap.size) (by simp))
               have HwZ := Lib.hid ((Hw3.out.setCell (p := ⟨w2.heap.size, 0, none⟩) (by show w.heap.size ≤ w2.heap.size; omega) (.int .i64 st)).setCell (p := ⟨w2.heap.size, 1, none⟩) (by show w.heap.size ≤ w2.heap.size; omega) (.slice A3 n3 c3))
               have HB1z := Lib.hid ((HB1.out.far (p := ⟨w2.heap.size, 0, none⟩) (by show w.heap.size + 1 ≠ w2.heap.size; omega) (.int .i64 st)).far (p := ⟨w2.heap.size, 1, none⟩) (by show w.heap.size + 1 ≠ w2.heap.size; omega) (.slice A3 n3 c3))
               have hzz : w3.heap.size ≤ ((w3.setCell ⟨w2.heap.size, 0, none⟩ (.int .i64 st)).setCell ⟨w2.heap.size, 1, none⟩ (.slice A3 n3 c3)).heap.size := by simp
               clear z0 z1 zf0 zf1 Z e0 t4 t5 t2 t3
               generalize (w3.setCell ⟨w2.heap.size, 0, none⟩ (.int .i64 st)).setCell ⟨w2.heap.size, 1, none⟩ (.slice A3 n3 c3) = wz at *)
            | (have BG := Blk.new w3 26 #[.int .i64 st, .slice A3 n3 c3]
               have HS := Lib.hid (hs3.boxed1 (.cells #[.int .i64 st, .slice A3 n3 c3] 26))
               have HwZ := Lib.hid (Hw3.out.alloc Hw3.out.size (.cells #[.int .i64 st, .slice A3 n3 c3] 26))
               have HB1z := Lib.hid (HB1.out.alloc (.cells #[.int .i64 st, .slice A3 n3 c3] 26))
               have hzz : w3.heap.size ≤ (w3.alloc (.cells #[.int .i64 st, .slice A3 n3 c3] 26)).heap.size := by simp
               clear t4 t5 t2 t3
               generalize w3.alloc (.cells #[.int .i64 st, .slice A3 n3 c3] 26) = wz at *)
          have HBG := Lib.hid BG
          have g0 := BG.cell 0
          have g1 := BG.cell 1
          have hA3' : Hid (∀ p : Addr, A3 = some p → w.heap.size + 2 ≤ p.block) := Lib.hid fun p hp => by
            have h1 := hA3 p hp
            first
              | (have h2 : (w2.alloc (.cells #[.int .i64 0, .slice none 0 0] 26)).heap.size ≤ p.block := h1; simp at h2; omega)
              | (have h2 : w2.heap.size ≤ p.block := h1; omega)
          have Hsm' : Hid (AllSmall (joinMs ms m)) := Lib.hid fun x hx => by
            rcases joinMs_mem hx with rfl | h
            · exact hm
            · exact Hsm.out x h
          clear t0 t1 i0 i1 s0 s1 hb3 hb3' hs3 BG hA3
          cases hgl : groupOk st (joinMs ms m) with
          | false =>
            have Hr := Lib.hid (He.out.trans hgl)
            go_wp2_with (first
              | (go_at_call 12; go_must (refine (groupValidS_any st A3 n3 c3 (joinMs ms m) _ HS.out Hsm'.out (by omega)).mono ?_; rw [hgl]; rintro e w5 ⟨rfl, hb5⟩; have E1 := HB1z.out.next hb5; have m0 := E1.cell 0; have m1 := E1.cell 1; have f0 := E1.frozen 0; have f1 := E1.frozen 1)))
            refine bodyPost_ret (v := .tuple #[.agg #[.int .i64 0, .slice none 0 0], .bool false]) (by simp [results, Try.results5, go_sem, m0, m1]) rfl ?_
            exact GroupRet.no Hr.out (((bt HwZ.out hb5).setCell (by show w.heap.size ≤ w.heap.size + 1; omega) _).setCell (by show w.heap.size ≤ w.heap.size + 1; omega) _)
          | true =>
            have Hr := Lib.hid (He.out.trans hgl)
            go_wp2_with (first
              | (go_at_call 12; go_must (refine (groupValidS_any st A3 n3 c3 (joinMs ms m) _ HS.out Hsm'.out (by omega)).mono ?_; rw [hgl]; rintro e w5 ⟨rfl, hb5⟩; have E1 := HB1z.out.next hb5; have m0 := E1.cell 0; have m1 := E1.cell 1; have f0 := E1.frozen 0; have f1 := E1.frozen 1; have E2 := HBG.out.next hb5; have n0 := E2.cell 0; have n1 := E2.cell 1)))
            refine bodyPost_ret (v := .tuple #[.agg #[.int .i64 st, .slice A3 n3 c3], .bool true]) (by simp [results, Try.results5, go_sem, m0, m1]) rfl ?_
            refine GroupRet.yes Hr.out ?_ (((bt HwZ.out hb5).setCell (by show w.heap.size ≤ w.heap.size + 1; omega) _).setCell (by show w.heap.size ≤ w.heap.size + 1; omega) _)
            have hs5 := HS.out.step hb5
            refine Sl.more ((Sl.far hs5 _ _ ?_).far _ _ ?_) (by simp)
            · intro p hp; have := hA3'.out p hp; show p.block ≠ w.heap.size + 1; omega
            · intro p hp; have := hA3'.out p hp; show p.block ≠ w.heap.size + 1; omega
end Go.Proofs.Ytnfncnpnkmjjeaa
