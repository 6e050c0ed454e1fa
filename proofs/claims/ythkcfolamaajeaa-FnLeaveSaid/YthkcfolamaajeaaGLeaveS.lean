/- Leaving a group: the reference's. -/
import Derived.Test.YthkcfolamaajeaaGLeave
import Derived.StillTailTactics
namespace Go.Proofs.Ythkcfolamaajeaa
open Go.RowKit

def hasMs (ms : List ByteArray) (m : ByteArray) : Bool := ms.any fun x => decide (x = m)
theorem hasMs_iff (ms : List ByteArray) (m : ByteArray) : hasMs ms m = true ↔ m ∈ ms := by
  unfold hasMs; rw [List.any_eq_true]; simp
theorem hasMs_yes {ms : List ByteArray} {m : ByteArray} (h : m ∈ ms) : hasMs ms m = true := (hasMs_iff ms m).2 h
theorem hasMs_no {ms : List ByteArray} {m : ByteArray} (h : m ∉ ms) : hasMs ms m = false := by
  cases e : hasMs ms m with
  | false => rfl
  | true => exact absurd ((hasMs_iff ms m).1 e) h
theorem hasMs_leave (ms : List ByteArray) (m : ByteArray) : decide ((leaveMs ms m).length ≠ ms.length) = hasMs ms m := by
  induction ms with
  | nil => rfl
  | cons x l ih =>
    have hle : (leaveMs l m).length ≤ l.length := List.length_filter_le _ l
    by_cases hx : x = m
    · have e1 : leaveMs (x :: l) m = leaveMs l m := by unfold leaveMs; rw [List.filter_cons_of_neg (by simp [hx])]
      rw [e1, hasMs_yes (by rw [hx]; exact List.mem_cons_self), List.length_cons, decide_eq_true (by omega)]
    · have e1 : leaveMs (x :: l) m = x :: leaveMs l m := by unfold leaveMs; rw [List.filter_cons_of_pos (by simp [hx])]
      have e2 : hasMs (x :: l) m = hasMs l m := by unfold hasMs; rw [List.any_cons, decide_eq_false hx, Bool.false_or]
      rw [e1, e2, ← ih, List.length_cons, List.length_cons, decide_eq_decide]
      omega

set_option maxHeartbeats 2000000 in
theorem l33Has_any (st : Int) (A : Option Addr) (n c : Nat) (ms : List ByteArray) (m : ByteArray) (w : World) (h : Strs w w.heap.size A n ms) (hnb : n ≤ 1000000000) :
    Calls Try.prog 32 #[.agg #[.int .i64 st, .slice A n c], .string m] w fun e w' => e = .returned (.bool (hasMs ms m)) ∧ Below w.heap.size w w' := by
  have Hlen := Lib.hid h.len
  go_enter Try.func32, Try.ntmps32
  go_wp2_with fail
  go_loop [5] (fun i => ∃ k : Nat, k ≤ n ∧ i = .int .i64 k ∧ Hid (∀ j, j < k → ms[j]? ≠ some m)) (fun i => n - (intOf i).toNat)
  case atStart => exact ⟨0, Nat.zero_le _, rfl, fun j hj => absurd hj (by omega)⟩
  case round =>
    obtain ⟨k, hk, rfl, Hall⟩ := hrel
    by_cases hlt : k < n
    · obtain ⟨b, off, rfl, hb, hx⟩ := h.at_ (by omega)
      obtain ⟨s, hs⟩ : ∃ s, ms[k]? = some s := ⟨_, nth_get (by rw [Hlen.out]; exact hlt)⟩
      have hc : ∀ o, (w.alloc o).cell? ⟨b, off + k, none⟩ = some (.string s) := fun o => (World.cell?_alloc_lt w o _ hb).trans (hx k s hs)
      have Hs := Lib.hid hs
      clear hs hx h
      by_cases hsm : s = m
      · subst hsm
        have Hr := Lib.hid (show hasMs ms s = true from hasMs_yes (List.mem_of_getElem? Hs.out))
        have e1 : (s.toList == s.toList) = true := beq_self_eq_true _
        go_wp2_with fail
        go_ret
        exact ⟨by rw [Hr.out]; rfl, (Below.refl _ _).alloc (Nat.le_refl _) _⟩
      · have e2 : (s.toList == m.toList) = false := toList_ne hsm
        have Hn := Lib.hid hsm
        clear hsm
        go_wp2_with fail
        go_round
        case rel => exact ⟨k + 1, by omega, by go_num, fun j hj => by
          rcases Nat.lt_succ_iff_lt_or_eq.1 hj with h' | rfl
          · exact Hall.out j h'
          · rw [Hs.out]; exact fun e => Hn.out (Option.some.inj e)⟩
        case measure => simp [intOf]; omega
    · have Hr := Lib.hid (show hasMs ms m = false by
        refine hasMs_no fun hm => ?_
        obtain ⟨j, hj, e⟩ := List.getElem_of_mem hm
        exact Hall.out j (by rw [Hlen.out] at hj; omega) (by rw [List.getElem?_eq_getElem hj, e]))
      clear h
      go_wp2_with fail
      go_ret
      exact ⟨by rw [Hr.out]; rfl, (Below.refl _ _).alloc (Nat.le_refl _) _⟩

set_option maxHeartbeats 4000000 in
theorem groupLeaveS_any (st : Int) (A : Option Addr) (n c : Nat) (ms : List ByteArray) (m : ByteArray) (w : World) (h : Strs w w.heap.size A n ms) (hsm : AllSmall ms) (hnb : n ≤ 1000000000) :
    Calls Try.prog 13 #[.agg #[.int .i64 st, .slice A n c], .string m] w (GroupRet (leaveOk st ms m) st (leaveMs ms m) w) := by
  have Hlen := Lib.hid h.len
  have H := Lib.hid h
  have Hsm := Lib.hid hsm
  have Hl := Lib.hid (show leaveOk st ms m = (groupOk st ms && hasMs ms m && groupOk st (leaveMs ms m)) by unfold leaveOk; rw [hasMs_leave])
  clear h hsm
  cases hg : groupOk st ms with
  | false =>
    have Hr := Lib.hid (show leaveOk st ms m = false by rw [Hl.out, hg]; rfl)
    go_enter Try.func13, Try.ntmps13
    go_wp2_with (first
      | (go_at_call 30; go_must (refine (groupValidS_any st A n c ms _ (H.out.boxed2 _ _) Hsm.out hnb).mono ?_; rw [hg]; rintro e w1 ⟨rfl, hb1⟩; obtain ⟨B0, B1, hw1, hz1⟩ := boxes2 hb1; have k0 := B1.cell 0; have k1 := B1.cell 1; have f0 := B1.frozen 0; have f1 := B1.frozen 1)))
    refine bodyPost_ret (v := .tuple #[.agg #[.int .i64 0, .slice none 0 0], .bool false]) (by simp [results, Try.results13, go_sem, k0, k1]) rfl ?_
    exact GroupRet.no Hr.out ((hw1.setCell (by show w.heap.size ≤ w.heap.size + 1; omega) _).setCell (by show w.heap.size ≤ w.heap.size + 1; omega) _)
  | true =>
    cases hh : hasMs ms m with
    | false =>
      have Hr := Lib.hid (show leaveOk st ms m = false by rw [Hl.out, hg, hh]; rfl)
      go_enter Try.func13, Try.ntmps13
      go_wp2_with (first
        | (go_at_call 30; go_must (refine (groupValidS_any st A n c ms _ (H.out.boxed2 _ _) Hsm.out hnb).mono ?_; rw [hg]; rintro e w1 ⟨rfl, hb1⟩; obtain ⟨B0, B1, hw1, hz1⟩ := boxes2 hb1; have j0 := B0.cell 0; have j1 := B0.cell 1))
        | (go_at_call 32; go_must (refine (l33Has_any st A n c ms m _ (H.out.next hw1) hnb).mono ?_; rw [hh]; rintro e w2 ⟨rfl, hb2⟩; have B2 := B1.next hb2; have k0 := B2.cell 0; have k1 := B2.cell 1; have f0 := B2.frozen 0; have f1 := B2.frozen 1)))
      refine bodyPost_ret (v := .tuple #[.agg #[.int .i64 0, .slice none 0 0], .bool false]) (by simp [results, Try.results13, go_sem, k0, k1]) rfl ?_
      exact GroupRet.no Hr.out (((hw1.trans (hb2.mono (by omega))).setCell (by show w.heap.size ≤ w.heap.size + 1; omega) _).setCell (by show w.heap.size ≤ w.heap.size + 1; omega) _)
    | true =>
      go_enter Try.func13, Try.ntmps13
      go_wp2_with (first
        | (go_at_call 30; go_must (refine (groupValidS_any st A n c ms _ (H.out.boxed2 _ _) Hsm.out hnb).mono ?_; rw [hg]; rintro e w1 ⟨rfl, hb1⟩; obtain ⟨B0, B1, hw1, hz1⟩ := boxes2 hb1; have j0 := B0.cell 0; have j1 := B0.cell 1))
        | (go_at_call 32; go_must (refine (l33Has_any st A n c ms m _ (H.out.next hw1) hnb).mono ?_; rw [hh]; rintro e w2 ⟨rfl, hb2⟩; have C0 := B0.next hb2; have C1 := B1.next hb2; have i0 := C0.cell 0; have i1 := C0.cell 1)))
      have hw2 := hw1.trans (hb2.mono (by omega))
      have hz2 : w.heap.size + 2 ≤ w2.heap.size := by have := hb2.size; omega
      clear hb1 hb2 B0 B1 j0 j1 hw1 hz1
      go_loopw [7] (fun i wr => ∃ (k : Nat) (v : Value), k ≤ n ∧ i = .int .i64 k ∧ Blk wr (w2.heap.size + 1) 25 #[.int .i64 st, v] ∧ wr.ownsRow (w.heap.size + 2) 9 1 v (leaveMs (ms.take k) m).length ((leaveMs (ms.take k) m).map Value.string) ∧ v.ownBlock ≠ some (w2.heap.size + 1) ∧ Below (w.heap.size + 2) w2 wr) (fun i _ => n - (intOf i).toNat)
      case atStart =>
        refine ⟨0, .slice (some ⟨w2.heap.size, 0, none⟩) 0 0, Nat.zero_le _, rfl, ?_, ?_, ?_, ?_⟩
        · have := Blk.new (w2.alloc (.cells #[] 9)) 25 #[.int .i64 st, .slice (some ⟨w2.heap.size, 0, none⟩) 0 0]
          simpa using this
        · exact (World.ownsRow_lit w2 #[] 0 hz2 (Nat.zero_le _) rfl).alloc _
        · intro e; have := Option.some.inj e; simp at this
        · exact ((Below.refl _ _).alloc hz2 _).alloc (by simp; omega) _
      case round =>
        obtain ⟨k, v, hk, rfl, hob, hown, hvb, hnx⟩ := hrel
        have hL := leaveMs_len ms m k
        obtain ⟨A', c', rfl, hnc, hsl, hA⟩ := Sl.of_own hown
        have hsz := hnx.size
        have q0 := hob.cell 0
        have q1 := hob.cell 1
        have qf := hob.frozen 1
        have D0 := C0.below hnx (by omega)
        have p0 := D0.cell 0
        have p1 := D0.cell 1
        by_cases hlt : k < n
        · obtain ⟨b, off, rfl, hb, hx⟩ := H.out.at_ (by omega)
          obtain ⟨s, hs⟩ : ∃ s, ms[k]? = some s := ⟨_, nth_get (by rw [Hlen.out]; exact hlt)⟩
          have hc : wr.cell? ⟨b, off + k, none⟩ = some (.string s) := (hnx.cell (p := ⟨b, off + k, none⟩) (by show b < _; omega)).trans ((hw2.cell (p := ⟨b, off + k, none⟩) hb).trans (hx k s hs))
          have Hsn := Lib.hid (leaveMs_snoc ms m k s hs)
          clear hx hs hsl
          by_cases hsm : s = m
          · subst hsm
            have e1 : (s.toList == s.toList) = true := beq_self_eq_true _
            have E1 := Lib.hid (show (leaveMs (ms.take (k + 1)) s) = leaveMs (ms.take k) s by rw [Hsn.out, if_pos rfl, List.append_nil])
            go_wp2_with fail
            go_roundw
            case rel => exact ⟨k + 1, _, by omega, by go_num, hob, by rw [E1.out]; exact hown, hvb, hnx⟩
            case measure => simp [intOf]; omega
          · have e2 : (s.toList == m.toList) = false := toList_ne hsm
            have E1 := Lib.hid (show leaveMs (ms.take (k + 1)) m = leaveMs (ms.take k) m ++ [s] by rw [Hsn.out, if_neg hsm])
            clear hsm
            go_wp2_with fail
            have qa : ∀ o, (wr.alloc o).cell? ⟨w2.heap.size + 1, 1, none⟩ = some (.slice A' (leaveMs (ms.take k) m).length c') := fun o => (hob.alloc o).cell 1
            go_region_law (go_must (refine app_step wr.drew ?_ (.tmp 37) (.tmp 43) ?_ (w.heap.size + 2) (.slice A' (leaveMs (ms.take k) m).length c') (leaveMs (ms.take k) m).length (leaveMs (ms.take k) m) ?_ hown s ?_ ?_ ?_ ?_; rfl; rfl; rfl; rfl; omega; (show _ ≤ wr.heap.size; omega)); intro v' w4 hown' hgrow hor; have hob4 := Blk.grown (w := wr.drew) hob hgrow (fun e => hvb e.symm); have qf4 := hob4.frozen 1; have q4 := hob4.cell 1; obtain ⟨A2, c2, rfl, hnc2, hsl2, hA2⟩ := Sl.of_own hown')
            all_goals
              have hob5 := hob4.set_ 1 (.slice A2 ((leaveMs (ms.take k) m).length + 1) c2)
              have hne2 : (Value.slice A2 ((leaveMs (ms.take k) m).length + 1) c2).ownBlock ≠ some (w2.heap.size + 1) := by
                rcases hor with e | e
                · rw [e]; exact hvb
                · rw [e]; intro e'; have := Option.some.inj e'; have : wr.drew.heap.size = wr.heap.size := rfl; have := hob.lt; omega
              have hown5 := own_far hown' ⟨w2.heap.size + 1, 1, none⟩ (.slice A2 ((leaveMs (ms.take k) m).length + 1) c2) hne2
              have hnx5 : Below (w.heap.size + 2) w2 (w4.setCell ⟨w2.heap.size + 1, 1, none⟩ (.slice A2 ((leaveMs (ms.take k) m).length + 1) c2)) := (own_below hown (Nat.le_refl _) hnx (by omega) (show wr.grownBy w4 _ from ⟨hgrow.os, hgrow.tape, hgrow.output, hgrow.size, hgrow.block⟩)).setCell (by show w.heap.size + 2 ≤ w2.heap.size + 1; omega) _
              clear qa q4 qf4 hgrow
              go_wp2_with fail
              go_roundw
              case rel => exact ⟨k + 1, _, by omega, by go_num, hob5, by rw [E1.out, List.length_append]; exact hown5, hne2, hnx5⟩
              case measure => simp [intOf]; omega
        · obtain rfl : k = n := by omega
          have Hms := Lib.hid (show ms.take k = ms by rw [← Hlen.out]; exact List.take_length)
          rw [Hms.out] at hsl hL hnc hown hob hvb q0 q1
          obtain ⟨L, HL⟩ : ∃ L, Hid ((leaveMs ms m).length = L) := ⟨_, Lib.hid rfl⟩
          rw [HL.out] at hsl hL hnc hown hob hvb q0 q1
          have D1 := C1.below hnx (by omega)
          have hw3 : Below w.heap.size w wr := hw2.trans (hnx.mono (by omega))
          have Hsl := Lib.hid (show Strs wr wr.heap.size A' L (leaveMs ms m) from hsl)
          have Hsm' : Hid (AllSmall (leaveMs ms m)) := Lib.hid fun x hx => Hsm.out x (List.mem_filter.1 hx).1
          have hz3 : w.heap.size + 2 ≤ wr.heap.size := by omega
          clear hsl hown hnx hlt
          cases hgl : groupOk st (leaveMs ms m) with
          | false =>
            have Hr := Lib.hid (show leaveOk st ms m = false by rw [Hl.out, hg, hh, hgl]; rfl)
            go_wp2_with (first
              | (go_at_call 30; go_must (refine (groupValidS_any st A' L c' (leaveMs ms m) _ Hsl.out Hsm'.out (by omega)).mono ?_; rw [hgl]; rintro e w5 ⟨rfl, hb5⟩; have E1 := D1.next hb5; have m0 := E1.cell 0; have m1 := E1.cell 1; have f0 := E1.frozen 0; have f1 := E1.frozen 1)))
            refine bodyPost_ret (v := .tuple #[.agg #[.int .i64 0, .slice none 0 0], .bool false]) (by simp [results, Try.results13, go_sem, m0, m1]) rfl ?_
            exact GroupRet.no Hr.out (((hw3.trans (hb5.mono (by omega))).setCell (by show w.heap.size ≤ w.heap.size + 1; omega) _).setCell (by show w.heap.size ≤ w.heap.size + 1; omega) _)
          | true =>
            have Hr := Lib.hid (show leaveOk st ms m = true by rw [Hl.out, hg, hh, hgl]; rfl)
            go_wp2_with (first
              | (go_at_call 30; go_must (refine (groupValidS_any st A' L c' (leaveMs ms m) _ Hsl.out Hsm'.out (by omega)).mono ?_; rw [hgl]; rintro e w5 ⟨rfl, hb5⟩; have E1 := D1.next hb5; have m0 := E1.cell 0; have m1 := E1.cell 1; have f0 := E1.frozen 0; have f1 := E1.frozen 1; have E2 := hob.next hb5; have n0 := E2.cell 0; have n1 := E2.cell 1)))
            have hw5 := ((hw3.trans (hb5.mono (by omega : w.heap.size ≤ wr.heap.size))).setCell (p := ⟨w.heap.size + 1, 0, none⟩) (by show w.heap.size ≤ w.heap.size + 1; omega) (.int .i64 st)).setCell (p := ⟨w.heap.size + 1, 1, none⟩) (by show w.heap.size ≤ w.heap.size + 1; omega) (.slice A' L c')
            refine bodyPost_ret (v := .tuple #[.agg #[.int .i64 st, .slice A' L c'], .bool true]) (by simp [results, Try.results13, go_sem, m0, m1]) rfl ?_
            refine GroupRet.yes Hr.out ?_ hw5
            have hs3 := Hsl.out.next hb5
            refine Sl.more ((Sl.far hs3 _ _ ?_).far _ _ ?_) (by simp)
            · intro p hp; have := hA p hp; show p.block ≠ w.heap.size + 1; omega
            · intro p hp; have := hA p hp; show p.block ≠ w.heap.size + 1; omega
end Go.Proofs.Ythkcfolamaajeaa
