/- The version of a stream, and reading it: the program's and the reference's. -/
import Derived.Test.YtbcfbkcadceniaaDoorStAll
import Derived.Test.YtbcfbkcadceniaaDoorLive
namespace Go.Proofs.YtbcfbkcadceniaaDoor
set_option linter.unusedVariables false
set_option linter.unusedSimpArgs false
open Go.RowKit

def storeVersion (xs : List En) (s : ByteArray) : Int := if storeOk xs && nameOk s.data.toList then ((streamOf xs s).length : Int) - 1 else -2
theorem storeVersion_no {xs : List En} {s : ByteArray} (h : (storeOk xs && nameOk s.data.toList) = false) : storeVersion xs s = -2 := by unfold storeVersion; rw [h]; rfl
theorem storeVersion_yes {xs : List En} {s : ByteArray} (h1 : storeOk xs = true) (h2 : nameOk s.data.toList = true) : storeVersion xs s = ((streamOf xs s).length : Int) - 1 := by unfold storeVersion; rw [h1, h2]; rfl
def storeRead (xs : List En) (s : ByteArray) (a m : Int) : List Ev := if (storeOk xs && nameOk s.data.toList) && rdOk a m then pieceL (streamOf xs s) a.toNat m.toNat else []
theorem storeRead_no {xs : List En} {s : ByteArray} {a m : Int} (h : ((storeOk xs && nameOk s.data.toList) && rdOk a m) = false) : storeRead xs s a m = [] := by unfold storeRead; rw [h]; rfl
theorem storeRead_yes {xs : List En} {s : ByteArray} {a m : Int} (h1 : storeOk xs = true) (h2 : nameOk s.data.toList = true) (h3 : rdOk a m = true) : storeRead xs s a m = pieceL (streamOf xs s) a.toNat m.toNat := by unfold storeRead; rw [h1, h2, h3]; rfl

/-- the slice that the map of streams has at a name. -/
theorem Streams.slice {w : World} {base b n : Nat} {l : List En} {D : DataW Value} {g : ByteArray → Value} (S : Streams w base b n l D g) (s : ByteArray) (hs : s.size ≤ maxLen) :
    ∃ A c k, k = (streamOf l s).length ∧ (Instr.lookup 93 (.map (some b)) (.string s) false).run Tryd.prog w = .ok (.slice A k c) w ∧ k ≤ c ∧ Hid (A = none → c = 0) ∧ Row evCells 3 w w.heap.size A k (streamOf l s) := by
  obtain ⟨A, c, hg, hnc, hnil, hrow, _⟩ := Row.of_own (S.row s) rfl
  have l1 := S.get s hs
  rw [hg] at l1
  exact ⟨A, c, _, rfl, l1, hnc, Lib.hid hnil, hrow⟩

set_option maxHeartbeats 4000000 in
theorem storeVersion_any (A : Option Addr) (n c : Nat) (xs : List En) (s : ByteArray) (w : World) (h : Row enCells 4 w w.heap.size A n xs) (hsm : SmallEns xs) (hs : s.size ≤ maxLen) (hnb : n ≤ 1000000) (hg : GE w) :
    Calls Tryd.prog 32 #[.slice A n c, .string s] w fun e w' => e = .returned (.int .i64 (storeVersion xs s)) ∧ Below w.heap.size w w' := by
  have H := Lib.hid h
  have Hg := Lib.hid hg
  have Hsm := Lib.hid hsm
  have Hsl := Lib.hid (streamOf_len xs s)
  have Hl := Lib.hid h.1
  have V := Lib.hid (storeValid_any A n c xs w h hsm hnb hg)
  clear h hg hsm
  cases hok : storeOk xs with
  | false =>
    have Hr := Lib.hid (storeVersion_no (xs := xs) (s := s) (by rw [hok]; rfl))
    rw [hok] at V
    go_enter Tryd.func32, Tryd.ntmps32
    go_wp2_with (go_at_call 46; refine V.out.mono ?_; rintro e w1 ⟨rfl, hb1⟩)
    go_ret
    exact ⟨ret_int Hr.out.symm, hb1⟩
  | true =>
    rw [hok] at V
    cases hno : nameOk s.data.toList with
    | false =>
      have Hr := Lib.hid (storeVersion_no (xs := xs) (s := s) (by rw [hno]; simp))
      go_enter Tryd.func32, Tryd.ntmps32
      go_wp2_with (first
        | (go_at_call 46; refine V.out.mono ?_; rintro e w1 ⟨rfl, hb1⟩)
        | (go_at_call 53; refine (nameValid_any _ _ hs (Hg.out.below hb1)).mono ?_; rw [hno]; rintro e w2 ⟨rfl, hb2⟩))
      go_ret
      exact ⟨ret_int Hr.out.symm, bt hb1 hb2⟩
    | true =>
      have Hr := Lib.hid (storeVersion_yes hok hno)
      go_enter Tryd.func32, Tryd.ntmps32
      go_wp2_with (first
        | (go_at_call 46; refine V.out.mono ?_; rintro e w1 ⟨rfl, hb1⟩)
        | (go_at_call 53; refine (nameValid_any _ _ hs (Hg.out.below hb1)).mono ?_; rw [hno]; rintro e w2 ⟨rfl, hb2⟩)
        | (go_at_call 65; go_must (refine (streamsOf_any A n c xs _ (H.out.next (bt hb1 hb2)) (fun x hx => (Hsm.out x hx).1) hnb).mono ?_; rintro e w3 ⟨b, base, m, D, g, rfl, S, hm, hb3⟩; obtain ⟨A', c', k, hk, l1, hnc', Hnil', hrow'⟩ := S.slice s hs; have Hk := Lib.hid hk; have hk2 : k ≤ 1000000 := by rw [hk]; have := Hsl.out; rw [Hl.out] at this; omega)))
      go_ret
      exact ⟨ret_int (by rw [Hr.out]), bt (bt hb1 hb2) hb3⟩


/-- events in memory of the call's own. -/
def EvsNew (xs : List Ev) (w : World) (e : Ending) (w' : World) : Prop :=
  ∃ (A : Option Addr) (n c : Nat), e = .returned (.slice A n c) ∧ Row evCells 3 w' w'.heap.size A n xs ∧ n ≤ c ∧ Hid (A = none → c = 0) ∧ Hid (∀ p, A = some p → w.heap.size ≤ p.block) ∧ Below w.heap.size w w'
set_option maxHeartbeats 4000000 in
theorem l4Events_new (A : Option Addr) (n c : Nat) (xs : List En) (s : ByteArray) (w : World) (h : Row enCells 4 w w.heap.size A n xs) (hnb : n ≤ 1000000) :
    Calls Tryd.prog 48 #[.slice A n c, .string s] w (EvsNew (streamOf xs s) w) := by
  have Hl := Lib.hid h.1
  have H := Lib.hid h
  have O0 := Lib.hid (World.ownsRow_lit (base := w.heap.size) (e := 33) (size := 3) w #[] 0 (Nat.le_refl _) (Nat.zero_le _) rfl)
  have B0 := Lib.hid ((Below.refl w.heap.size w).alloc (Nat.le_refl _) (.cells #[] 33))
  clear h
  go_enter Tryd.func48, Tryd.ntmps48
  go_wp2_with fail
  go_loopw [5, 6] (fun v i wr => ∃ k : Nat, k ≤ n ∧ i = .int .i64 k ∧ wr.ownsRow w.heap.size 33 3 v (streamOf (xs.take k) s).length ((streamOf (xs.take k) s).flatMap evCells) ∧ Below w.heap.size w wr) (fun _ i _ => n - (intOf i).toNat)
  case atStart => exact ⟨0, Nat.zero_le _, rfl, O0.out, B0.out⟩
  case round =>
    obtain ⟨k, hk, rfl, hown, hnx⟩ := hrel
    have hsz := Lib.hid hnx.size
    have Hown := Lib.hid hown
    have Hnx := Lib.hid hnx
    have hpl := Nat.le_trans (streamOf_len (xs.take k) s) (List.length_take_le k xs)
    by_cases hlt : k < n
    · obtain ⟨b, off, rfl, hb, hx⟩ := H.out.at_ enCells_len (by omega)
      have hke : xs[k]? = some (nx xs k) := nx_get (by rw [Hl.out]; exact hlt)
      have Hsn := Lib.hid (streamOf_snoc xs k (by rw [Hl.out]; exact hlt) s)
      obtain ⟨⟨name, id, kind, data⟩, he⟩ : ∃ e, nx xs k = e := ⟨_, rfl⟩
      rw [he] at hke Hsn
      have c0 : wr.cell? ⟨b, off + k * 4, none⟩ = some (.string name) := (hnx.cell (p := ⟨b, off + (k * 4 + 0), none⟩) hb).trans (hx _ _ hke 0 _ rfl)
      have c1 : wr.cell? ⟨b, off + k * 4 + 1, none⟩ = some (.int .i64 id) := (hnx.cell (p := ⟨b, off + (k * 4 + 1), none⟩) hb).trans (hx _ _ hke 1 _ rfl)
      have c2 : wr.cell? ⟨b, off + k * 4 + 1 + 1, none⟩ = some (.string kind) := (hnx.cell (p := ⟨b, off + (k * 4 + 2), none⟩) hb).trans (hx _ _ hke 2 _ rfl)
      have c3 : wr.cell? ⟨b, off + k * 4 + 1 + 2, none⟩ = some (.int .i64 data) := (hnx.cell (p := ⟨b, off + (k * 4 + 3), none⟩) hb).trans (hx _ _ hke 3 _ rfl)
      have hkn : (k : Int) < (n : Int) := by omega
      clear hke he hx hown hnx
      by_cases hns : name = s
      · subst hns
        have e1 : (name.toList == name.toList) = true := beq_self_eq_true _
        rw [if_pos rfl] at Hsn
        go_wp2_with (first
          | (at_builtin; go_must (refine app_one elemEv wr rfl _ _ rfl w.heap.size _ (streamOf (xs.take k) name).length ((streamOf (xs.take k) name).flatMap evCells) rfl (by exact Hown.out) [.int .i64 id, .string kind, .int .i64 data] rfl rfl ?_ ?_ ?_ ?_); (intro x hx; simp at hx; rcases hx with rfl | rfl | rfl <;> rfl); omega; (exact hsz.out); intro v' w4 own4 grow4 or4))
        have hb4 := own_below' Hown.out (Nat.le_refl _) Hnx.out hsz.out grow4
        have own5 : w4.ownsRow w.heap.size 33 3 v' (streamOf (xs.take (k + 1)) name).length ((streamOf (xs.take (k + 1)) name).flatMap evCells) := by
          rw [Hsn.out, List.flatMap_append, List.length_append]
          simpa [evCells] using own4
        clear own4 grow4 or4
        go_roundw
        case rel => exact ⟨k + 1, by omega, by go_num, own5, hb4⟩
        case measure => simp [intOf]; omega
      · have e1 : (name.toList == s.toList) = false := toList_ne hns
        rw [if_neg hns] at Hsn
        clear hns
        go_wp2_with fail
        go_roundw
        case rel => exact ⟨k + 1, by omega, by go_num, by rw [Hsn.out]; exact Hown.out, Hnx.out⟩
        case measure => simp [intOf]; omega
    · obtain rfl : k = n := by omega
      have hx := Lib.hid (show xs.take k = xs by rw [← Hl.out]; exact List.take_length)
      have hkn : ¬ (k : Int) < (k : Int) := by omega
      clear hown hnx
      rw [hx.out] at Hown
      go_wp2_with fail
      go_ret
      obtain ⟨A', c', rfl, q1, q2, q3, q4⟩ := Row.of_own Hown.out rfl
      exact ⟨A', _, c', rfl, q3, q1, Lib.hid q2, Lib.hid q4, Hnx.out⟩
theorem l4Events_any (A : Option Addr) (n c : Nat) (xs : List En) (s : ByteArray) (w : World) (h : Row enCells 4 w w.heap.size A n xs) (hnb : n ≤ 1000000) :
    Calls Tryd.prog 48 #[.slice A n c, .string s] w (EvsRet (streamOf xs s) w) :=
  (l4Events_new A n c xs s w h hnb).mono fun _ _ ⟨A', n', c', h1, h2, h3, h4, _, h5⟩ => ⟨A', n', c', h1, h2, h3, h4, h5⟩


end Go.Proofs.YtbcfbkcadceniaaDoor
