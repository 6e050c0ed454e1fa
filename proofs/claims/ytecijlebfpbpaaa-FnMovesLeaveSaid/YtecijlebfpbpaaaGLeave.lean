/- Leaving a group: the program's and the reference's. -/
import Derived.Test.YtecijlebfpbpaaaGroupS
import Derived.Deep.RegionLaw
import Derived.Deep.DeepMust
import Derived.Test.YtecijlebfpbpaaaAppStr
namespace Go.Proofs.Ytecijlebfpbpaaa
set_option linter.unusedVariables false
set_option linter.unusedSimpArgs false
open Go.RowKit

def leaveMs (ms : List ByteArray) (m : ByteArray) : List ByteArray := ms.filter fun x => decide (x ≠ m)
def leaveOk (st : Int) (ms : List ByteArray) (m : ByteArray) : Bool := groupOk st ms && decide ((leaveMs ms m).length ≠ ms.length) && groupOk st (leaveMs ms m)
/-- what a call returns that gives a group and tells whether it succeeded. -/
def GroupRet (ok : Bool) (st : Int) (ms : List ByteArray) (w : World) (e : Ending) (w' : World) : Prop :=
  ∃ A n c, e = .returned (.tuple #[.agg #[.int .i64 (if ok then st else 0), .slice A n c], .bool ok]) ∧ Strs w' w'.heap.size A n (if ok then ms else []) ∧ Below w.heap.size w w'

theorem GroupRet.no {ok : Bool} {st : Int} {ms : List ByteArray} {w w' : World} (h : ok = false) (hb : Below w.heap.size w w') : GroupRet ok st ms w (.returned (.tuple #[.agg #[.int .i64 0, .slice none 0 0], .bool false])) w' := by
  subst h; exact ⟨none, 0, 0, rfl, Strs.nil _ _ _, hb⟩
theorem GroupRet.yes {ok : Bool} {st : Int} {ms : List ByteArray} {w w' : World} {A : Option Addr} {n c : Nat} (h : ok = true) (hs : Strs w' w'.heap.size A n ms) (hb : Below w.heap.size w w') : GroupRet ok st ms w (.returned (.tuple #[.agg #[.int .i64 st, .slice A n c], .bool true])) w' := by
  subst h; exact ⟨A, n, c, rfl, hs, hb⟩
theorem leaveMs_snoc (ms : List ByteArray) (m : ByteArray) (k : Nat) (s : ByteArray) (h : ms[k]? = some s) :
    leaveMs (ms.take (k + 1)) m = leaveMs (ms.take k) m ++ (if s = m then [] else [s]) := by
  obtain ⟨hl, e⟩ := List.getElem?_eq_some_iff.1 h
  unfold leaveMs
  rw [List.take_succ_eq_append_getElem hl, List.filter_append, e]
  by_cases hs : s = m <;> simp [hs]
theorem leaveMs_len (ms : List ByteArray) (m : ByteArray) (k : Nat) : (leaveMs (ms.take k) m).length ≤ k :=
  Nat.le_trans (List.length_filter_le _ _) (by rw [List.length_take]; omega)

set_option maxHeartbeats 4000000 in
theorem groupLeave_any (st : Int) (A : Option Addr) (n c : Nat) (ms : List ByteArray) (m : ByteArray) (w : World) (h : Strs w w.heap.size A n ms) (hsm : AllSmall ms) (hnb : n ≤ 1000000000) :
    Calls Try.prog 14 #[.agg #[.int .i64 st, .slice A n c], .string m] w (GroupRet (leaveOk st ms m) st (leaveMs ms m) w) := by
  have Hlen := Lib.hid h.len
  have H := Lib.hid h
  have Hsm := Lib.hid hsm
  clear h hsm
  cases hg : groupOk st ms with
  | false =>
    have Hr := Lib.hid (show leaveOk st ms m = false by unfold leaveOk; rw [hg]; rfl)
    go_enter Try.func14, Try.ntmps14
    go_wp2_with fail
    refine (groupValid_any st A n c ms _ (H.out.boxed2 _ _) Hsm.out hnb).mono ?_
    rintro e w1 ⟨rfl, hb1⟩
    obtain ⟨B0, B1, hw1, hz1⟩ := boxes2 hb1
    have k0 : w1.cell? ⟨w.heap.size + 1, 0, none⟩ = some (.int .i64 0) := B1.cell 0
    have k1 : w1.cell? ⟨w.heap.size + 1, 1, none⟩ = some (.slice none 0 0) := B1.cell 1
    have f0 := B1.frozen 0
    have f1 := B1.frozen 1
    go_wp2_with fail
    refine bodyPost_ret (v := .tuple #[.agg #[.int .i64 0, .slice none 0 0], .bool false]) (by simp [results, Try.results14, go_sem, k0, k1]) rfl ?_
    exact GroupRet.no Hr.out ((hw1.setCell (by show w.heap.size ≤ w.heap.size + 1; omega) _).setCell (by show w.heap.size ≤ w.heap.size + 1; omega) _)
  | true =>
    go_enter Try.func14, Try.ntmps14
    go_wp2_with fail
    refine (groupValid_any st A n c ms _ (H.out.boxed2 _ _) Hsm.out hnb).mono ?_
    rw [hg]
    rintro e w1 ⟨rfl, hb1⟩
    obtain ⟨B0, B1, hw1, hz1⟩ := boxes2 hb1
    have j1 : ∀ o, (w1.alloc o).cell? ⟨w.heap.size, 1, none⟩ = some (.slice A n c) := fun o => (B0.alloc o).cell 1
    clear hb1
    go_wp2_with fail
    go_loopw [6, 18] (fun v i wr => ∃ k : Nat, k ≤ n ∧ i = .int .i64 k ∧ wr.ownsRow (w.heap.size + 2) 9 1 v (leaveMs (ms.take k) m).length ((leaveMs (ms.take k) m).map Value.string) ∧ Below (w.heap.size + 2) w1 wr) (fun _ i _ => n - (intOf i).toNat)
    case atStart =>
      exact ⟨0, Nat.zero_le _, rfl, World.ownsRow_lit w1 #[] 0 hz1 (Nat.zero_le _) rfl, (Below.refl _ _).alloc hz1 _⟩
    case round =>
      obtain ⟨k, hk, rfl, hown, hnx⟩ := hrel
      have hL := leaveMs_len ms m k
      obtain ⟨A', c', rfl, hnc, hsl, hA⟩ := Sl.of_own hown
      by_cases hlt : k < n
      · obtain ⟨b, off, rfl, hb, hx⟩ := H.out.at_ (by omega)
        obtain ⟨s, hs⟩ : ∃ s, ms[k]? = some s := ⟨_, nth_get (by rw [Hlen.out]; exact hlt)⟩
        have hc : wr.cell? ⟨b, off + k, none⟩ = some (.string s) := (hnx.cell (p := ⟨b, off + k, none⟩) (by show b < _; omega)).trans ((hw1.cell (p := ⟨b, off + k, none⟩) hb).trans (hx k s hs))
        have Hsn := Lib.hid (leaveMs_snoc ms m k s hs)
        have Hnx := Lib.hid hnx
        have Hown := Lib.hid hown
        clear hx hs hnx hsl
        by_cases hsm : s = m
        · subst hsm
          have e1 : (leaveMs (ms.take (k + 1)) s) = leaveMs (ms.take k) s := by rw [Hsn.out, if_pos rfl, List.append_nil]
          have E1 := Lib.hid e1
          clear e1 hown
          go_wp2_with fail
          go_roundw
          case rel => exact ⟨k + 1, by omega, by go_num, by rw [E1.out]; exact Hown.out, Hnx.out⟩
          case measure => simp [intOf]; omega
        · have e2 : (s.toList == m.toList) = false := toList_ne hsm
          have E1 := Lib.hid (show leaveMs (ms.take (k + 1)) m = leaveMs (ms.take k) m ++ [s] by rw [Hsn.out, if_neg hsm])
          clear hsm
          go_wp2_with (first
            | (at_builtin; go_must (refine app_str wr rfl _ _ rfl (w.heap.size + 2) (.slice A' (leaveMs (ms.take k) m).length c') (leaveMs (ms.take k) m).length (leaveMs (ms.take k) m) rfl (by exact Hown.out) s rfl (by omega) (by have := Hnx.out.size; omega) ?_); intro v' w2 hown' hgrow))
          have hb2 := own_below hown (Nat.le_refl _) Hnx.out (by have := Hnx.out.size; omega) hgrow
          refine ⟨⟨k + 1, by omega, by go_num, by rw [E1.out, List.length_append]; exact hown', hb2⟩, ?_⟩
          simp [intOf]; omega
      · obtain rfl : k = n := by omega
        have Hms := Lib.hid (show ms.take k = ms by rw [← Hlen.out]; exact List.take_length)
        rw [Hms.out] at hsl hL hnc
        obtain ⟨L, HL⟩ : ∃ L, Hid ((leaveMs ms m).length = L) := ⟨_, Lib.hid rfl⟩
        have e3 : (leaveMs (ms.take k) m).length = L := by rw [Hms.out]; exact HL.out
        rw [HL.out] at hsl hL hnc
        rw [e3]
        have hw2 : Below w.heap.size w wr := hw1.trans (hnx.mono (by omega))
        have Hsl := Lib.hid (show Strs wr wr.heap.size A' L (leaveMs ms m) from hsl)
        have k0 : ∀ o, (wr.alloc o).cell? ⟨w.heap.size, 0, none⟩ = some (.int .i64 st) := fun o => ((B0.below hnx (by omega)).alloc o).cell 0
        have k1 : ∀ o, (wr.alloc o).cell? ⟨w.heap.size, 1, none⟩ = some (.slice A k c) := fun o => ((B0.below hnx (by omega)).alloc o).cell 1
        have kk0 : wr.cell? ⟨w.heap.size, 0, none⟩ = some (.int .i64 st) := (B0.below hnx (by omega)).cell 0
        have B1' := B1.below hnx (by omega)
        have hz2 : w.heap.size + 2 ≤ wr.heap.size := by have := hnx.size; omega
        clear e3 hnx hsl hown B0 B1 j1 hw1
        by_cases hLk : L = k
        · have d1 : ((L : Int) == (k : Int)) = true := beq_iff_eq.2 (by omega)
          have Hr := Lib.hid (show leaveOk st ms m = false by unfold leaveOk; rw [HL.out, Hlen.out, hLk]; simp)
          have m0 : ∀ o, (wr.alloc o).cell? ⟨w.heap.size + 1, 0, none⟩ = some (.int .i64 0) := fun o => (B1'.alloc o).cell 0
          have m1 : ∀ o, (wr.alloc o).cell? ⟨w.heap.size + 1, 1, none⟩ = some (.slice none 0 0) := fun o => (B1'.alloc o).cell 1
          have f0 : ∀ o, (wr.alloc o).frozen? ⟨w.heap.size + 1, 0, none⟩ = false := fun o => (B1'.alloc o).frozen 0
          have f1 : ∀ o, (wr.alloc o).frozen? ⟨w.heap.size + 1, 1, none⟩ = false := fun o => (B1'.alloc o).frozen 1
          clear hLk
          go_wp2_with fail
          refine bodyPost_ret (v := .tuple #[.agg #[.int .i64 0, .slice none 0 0], .bool false]) (by simp [results, Try.results14, go_sem, m0, m1]) rfl ?_
          exact GroupRet.no Hr.out (((hw2.alloc (by omega) _).setCell (by show w.heap.size ≤ w.heap.size + 1; omega) _).setCell (by show w.heap.size ≤ w.heap.size + 1; omega) _)
        · have d1 : ((L : Int) == (k : Int)) = false := beq_eq_false_iff_ne.2 (by omega)
          have Hd := Lib.hid (show leaveOk st ms m = groupOk st (leaveMs ms m) by unfold leaveOk; rw [HL.out, Hlen.out, hg, decide_eq_true hLk]; simp)
          clear hLk
          have Hsm' : Hid (AllSmall (leaveMs ms m)) := Lib.hid fun x hx => Hsm.out x (List.mem_filter.1 hx).1
          cases hgl : groupOk st (leaveMs ms m) with
          | false =>
            have Hr := Lib.hid (Hd.out.trans hgl)
            go_wp2_with (first
              | (go_at_call 22; go_must (refine (groupValid_any st A' L c' (leaveMs ms m) _ (Hsl.out.boxed1 _) Hsm'.out (by omega)).mono ?_; rw [hgl]; rintro e w3 ⟨rfl, hb3⟩; obtain ⟨C0, hb4, hz3⟩ := boxes1 hb3; have B3 := B1'.next hb4; have m0 := B3.cell 0; have m1 := B3.cell 1; have f0 := B3.frozen 0; have f1 := B3.frozen 1; clear hb3)))
            refine bodyPost_ret (v := .tuple #[.agg #[.int .i64 0, .slice none 0 0], .bool false]) (by simp [results, Try.results14, go_sem, m0, m1]) rfl ?_
            exact GroupRet.no Hr.out (((hw2.trans (hb4.mono (by omega))).setCell (by show w.heap.size ≤ w.heap.size + 1; omega) _).setCell (by show w.heap.size ≤ w.heap.size + 1; omega) _)
          | true =>
            have Hr := Lib.hid (Hd.out.trans hgl)
            go_wp2_with (first
              | (go_at_call 22; go_must (refine (groupValid_any st A' L c' (leaveMs ms m) _ (Hsl.out.boxed1 _) Hsm'.out (by omega)).mono ?_; rw [hgl]; rintro e w3 ⟨rfl, hb3⟩; obtain ⟨C0, hb4, hz3⟩ := boxes1 hb3; have B3 := B1'.next hb4; have m0 := B3.cell 0; have m1 := B3.cell 1; have f0 := B3.frozen 0; have f1 := B3.frozen 1; have n0 := C0.cell 0; have n1 := C0.cell 1; clear hb3)))
            have hne : w.heap.size + 1 ≠ wr.heap.size := by omega
            have hw5 := ((hw2.trans (hb4.mono (by omega : w.heap.size ≤ wr.heap.size))).setCell (p := ⟨w.heap.size + 1, 0, none⟩) (by show w.heap.size ≤ w.heap.size + 1; omega) (.int .i64 st)).setCell (p := ⟨w.heap.size + 1, 1, none⟩) (by show w.heap.size ≤ w.heap.size + 1; omega) (.slice A' L c')
            refine bodyPost_ret (v := .tuple #[.agg #[.int .i64 st, .slice A' L c'], .bool true]) (by simp [results, Try.results14, go_sem, m0, m1]) rfl ?_
            refine GroupRet.yes Hr.out ?_ hw5
            have hs3 := Hsl.out.next hb4
            have hz5 := hw5.size
            refine Sl.more ((Sl.far hs3 _ _ ?_).far _ _ ?_) (by simp)
            · intro p hp; have := hA p hp; show p.block ≠ w.heap.size + 1; omega
            · intro p hp; have := hA p hp; show p.block ≠ w.heap.size + 1; omega
end Go.Proofs.Ytecijlebfpbpaaa
