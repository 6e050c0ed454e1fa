/- The reference's putting of a text among ordered texts. -/
import Derived.Test.YtnfncnpnkmjjeaaPJoin
import Derived.Test.YtnfncnpnkmjjeaaAppStr
namespace Go.Proofs.Ytnfncnpnkmjjeaa
set_option linter.unusedVariables false
set_option linter.unusedSimpArgs false
open Go.RowKit

def StrsRet (l : List ByteArray) (w : World) (e : Ending) (w' : World) : Prop :=
  ∃ A n c, e = .returned (.slice A n c) ∧ n ≤ c ∧ Strs w' w'.heap.size A n l ∧ Below w.heap.size w w' ∧ ∀ p, A = some p → w.heap.size ≤ p.block

set_option maxHeartbeats 4000000 in
theorem l4Put_any (A : Option Addr) (n c : Nat) (ms : List ByteArray) (m : ByteArray) (w : World) (h : Strs w w.heap.size A n ms) (hnb : n ≤ 1000000) (hso : SortedMs ms) (hm : m ∉ ms) :
    Calls Try.prog 15 #[.slice A n c, .string m] w (StrsRet (joinMs ms m) w) := by
  have Hlen := Lib.hid h.len
  have H := Lib.hid h
  have Hso := Lib.hid hso
  have Hm := Lib.hid hm
  clear h hso hm
  go_enter Try.func15, Try.ntmps15
  go_wp2_with fail
  go_loopw [5, 6, 7] (fun v d i wr => ∃ (k : Nat) (b : Bool) (L : List ByteArray), k ≤ n ∧ i = .int .i64 k ∧ d = .bool b ∧ Hid (putOut ms m b k = L) ∧ Hid (PutIs ms m b k) ∧ L.length ≤ k + 1 ∧ wr.ownsRow w.heap.size 9 1 v L.length (L.map Value.string) ∧ Below w.heap.size w wr) (fun _ _ i _ => n - (intOf i).toNat)
  case atStart =>
    exact ⟨0, false, [], Nat.zero_le _, rfl, rfl, Lib.hid rfl, Lib.hid (fun x hx => by cases hx), by simp, World.ownsRow_lit w #[] 0 (Nat.le_refl _) (Nat.zero_le _) rfl, (Below.refl _ _).alloc (Nat.le_refl _) _⟩
  case round =>
    obtain ⟨k, bd, L, hk, rfl, rfl, HL, HP, hLk, hown, hnx⟩ := hrel
    by_cases hlt : k < n
    · obtain ⟨b, off, rfl, hb, hx⟩ := H.out.at_ (by omega)
      obtain ⟨s, hs⟩ : ∃ s, ms[k]? = some s := ⟨_, nth_get (by rw [Hlen.out]; exact hlt)⟩
      have hc : wr.cell? ⟨b, off + k, none⟩ = some (.string s) := (hnx.cell (p := ⟨b, off + k, none⟩) hb).trans (hx k s hs)
      have hsz := hnx.size
      have Hs := Lib.hid hs
      have Hx := Lib.hid hx
      have Hne := Lib.hid (show s ≠ m from fun e => Hm.out (by rw [← e]; exact List.mem_of_getElem? Hs.out))
      have Hnx := Lib.hid hnx
      have Hown := Lib.hid hown
      have e2 : (s.toList == m.toList) = false := toList_ne Hne.out
      clear hx hs hnx hown
      have hne : (s.toList != m.toList) = true := by rw [bne, e2]; rfl
      have HC := Lib.hid (show ∀ wz, Below w.heap.size w wz → wz.cell? ⟨b, off + k, none⟩ = some (.string s) from fun wz hz => (hz.cell (p := ⟨b, off + k, none⟩) hb).trans (Hx.out k s Hs.out))
      cases bd with
      | false =>
        by_cases hl : ltB s m = true
        · have e1 : Op.bytesLess s.toList m.toList = true := hl
          obtain ⟨p1, p2⟩ := put_a Hs.out HP.out hl
          rw [HL.out] at p2
          have P1 := Lib.hid p1
          have P2 := Lib.hid p2
          clear hl p1 p2
          go_wp2_with (first
            | (at_builtin; go_must (refine app_str wr rfl _ _ rfl w.heap.size _ L.length L rfl (by exact Hown.out) s rfl ?_ ?_ ?_); omega; omega; intro v' w2 hown' hgrow))
          have hb2 := own_below Hown.out (Nat.le_refl _) Hnx.out (by omega) hgrow
          clear hgrow
          go_roundw
          case rel => exact ⟨k + 1, false, L ++ [s], by omega, by go_num, rfl, P2, P1, by rw [List.length_append]; simp; omega, by rw [List.length_append]; exact hown', hb2⟩
          case measure => simp [intOf]; omega
        · have hl' : ltB m s = true := by
            rcases ltB_tri s m with h | h | h
            · exact absurd h hl
            · exact absurd h Hne.out
            · exact h
          have e1 : Op.bytesLess s.toList m.toList = false := by simpa [ltB] using hl
          obtain ⟨p1, p2⟩ := put_b Hs.out HP.out hl'
          rw [HL.out] at p2
          have P1 := Lib.hid p1
          have P2 := Lib.hid p2
          clear hl hl' p1 p2
          have hLk2 : L.length ≤ k := by rw [← HL.out]; exact List.length_take_le k ms
          have hL1 : (L ++ [m]).length = L.length + 1 := by simp
          have HL1 := Lib.hid hL1
          clear hL1
          go_wp2_with (first
            | (at_builtin; refine app_str wr rfl _ _ rfl w.heap.size _ L.length L rfl (by exact Hown.out) m rfl ?_ ?_ ?_; omega; omega; intro v2 w2 hown2 hgrow2; have hn2 := own_below Hown.out (Nat.le_refl _) Hnx.out hsz hgrow2; have hc2 := HC.out w2 hn2; have hz2 := hn2.size)
            | (at_builtin; refine app_str w2 rfl _ _ rfl w.heap.size _ (L.length + 1) (L ++ [m]) rfl (by exact hown2) s rfl ?_ ?_ ?_; omega; omega; intro v3 w3 hown3 hgrow3))
          have hn3 := own_below hown2 (Nat.le_refl _) hn2 hz2 hgrow3
          clear hgrow2 hgrow3 hown2 hc2
          go_roundw
          case rel => exact ⟨k + 1, true, L ++ [m] ++ [s], by omega, by go_num, rfl, P2, P1, by rw [List.length_append, HL1.out]; simp; omega, by rw [List.length_append, HL1.out]; exact hown3, hn3⟩
          case measure => simp [intOf]; omega
      | true =>
        obtain ⟨hl', p1, p2⟩ := put_c Hso.out Hs.out HP.out
        rw [HL.out] at p2
        have P1 := Lib.hid p1
        have P2 := Lib.hid p2
        clear hl' p1 p2
        go_wp2_with (first
          | (at_builtin; go_must (refine app_str wr rfl _ _ rfl w.heap.size _ L.length L rfl (by exact Hown.out) s rfl ?_ ?_ ?_); omega; omega; intro v' w2 hown' hgrow))
        have hb2 := own_below Hown.out (Nat.le_refl _) Hnx.out (by omega) hgrow
        clear hgrow
        go_roundw
        case rel => exact ⟨k + 1, true, L ++ [s], by omega, by go_num, rfl, P2, P1, by rw [List.length_append]; simp; omega, by rw [List.length_append]; exact hown', hb2⟩
        case measure => simp [intOf]; omega
    · obtain rfl : k = n := by omega
      have hsz := hnx.size
      have Hnx := Lib.hid hnx
      have Hown := Lib.hid hown
      clear hnx hown
      cases bd with
      | false =>
        have p2 := put_end_no (ms := ms) (m := m) (by rw [Hlen.out]; exact HP.out)
        rw [Hlen.out, HL.out] at p2
        have P2 := Lib.hid p2
        clear p2
        go_wp2_with (first
          | (at_builtin; go_must (refine app_str wr rfl _ _ rfl w.heap.size _ L.length L rfl (by exact Hown.out) m rfl ?_ ?_ ?_); omega; omega; intro v' w2 hown' hgrow))
        have hb2 := own_below Hown.out (Nat.le_refl _) Hnx.out (by omega) hgrow
        clear hgrow
        go_wp2_with fail
        obtain ⟨A', c', rfl, hnc, hsl, hA⟩ := Sl.of_own hown'
        go_ret
        exact ⟨A', L.length + 1, c', rfl, hnc, by rw [← P2.out]; exact hsl, hb2, hA⟩
      | true =>
        have p2 := put_end_yes (ms := ms) (m := m)
        rw [Hlen.out, HL.out] at p2
        have P2 := Lib.hid p2
        clear p2
        obtain ⟨A', c', rfl, hnc, hsl, hA⟩ := Sl.of_own Hown.out
        go_wp2_with fail
        go_ret
        exact ⟨A', L.length, c', rfl, hnc, by rw [← P2.out]; exact hsl, Hnx.out, hA⟩
end Go.Proofs.Ytnfncnpnkmjjeaa
