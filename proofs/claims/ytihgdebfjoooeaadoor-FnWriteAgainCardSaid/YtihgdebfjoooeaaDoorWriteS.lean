/- Writing again: the reference's. -/
import Derived.Test.YtihgdebfjoooeaaDoorWasS
import Derived.Test.YtihgdebfjoooeaaDoorAppS
namespace Go.Proofs.YtihgdebfjoooeaaDoor
set_option linter.unusedVariables false
set_option linter.unusedSimpArgs false
open Go.RowKit

set_option maxRecDepth 100000 in
set_option maxHeartbeats 4000000 in
theorem storeWriteS_any (A : Option Addr) (n c : Nat) (xs : List En) (s : ByteArray) (x : Int) (A' : Option Addr) (m d : Nat) (es : List Ev) (w : World) (h : Row enCells 4 w w.heap.size A n xs) (h' : Row evCells 3 w w.heap.size A' m es) (hsm : SmallEns xs) (hse : ∀ e ∈ es, e.kind.size ≤ maxLen) (hs : s.size ≤ maxLen) (hnb : n ≤ 1000000) (hmd : m ≤ d) (hmb : m ≤ 1000000) (hnil : A = none → c = 0) (hn4 : n ≤ 400000) (hm4 : m ≤ 400000) :
    Calls Tryd.prog 17 #[.slice A n c, .string s, .int .i64 x, .slice A' m d] w (EnsIntRet (storeWrite xs s x es) w) := by
  have L := ((Live.since (Below.refl w.heap.size w)).and (Live.row h)).and (Live.row h')
  have Hlx := Lib.hid h.1
  have V := Lib.hid (storeWasS_any A n c xs s x A' m d es w h h' hsm hse hs hnb hmb)
  have AP := Lib.hid (fun W H H' => storeAppendS_any A n c xs s x A' m d es W H H' hsm hse hs hnb hmd hmb hnil hn4 hm4)
  have Hnil := Lib.hid hnil
  clear h h' hsm hse hnil
  cases hw : storeWas xs s x es with
  | true =>
    have Hr := Lib.hid (storeWrite_was hw)
    rw [hw] at V
    go_enter Tryd.func17, Tryd.ntmps17
    go_wp2_with (first
      | (go_at_call 43; refine V.out.mono ?_; rintro e w5 ⟨rfl, hb1⟩; have L5 := L.next hb1)
      | (at_builtin; refine app_src elemEn (w5.alloc (.cells #[] 36)) rfl (.tmp 15) (.tmp 16) rfl w5.heap.size _ 0 [] rfl (World.ownsRow_lit w5 #[] 0 (Nat.le_refl _) (Nat.zero_le _) rfl) A n c w5.heap.size (xs.flatMap enCells) rfl Hnil.out (L5.now.1.2.2.below ((Below.refl _ _).alloc (Nat.le_refl _) _)) (ens_one _) ?_ ?_ ?_ ?_; omega; omega; (exact ((Below.refl w5.heap.size w5).alloc (Nat.le_refl _) (.cells #[] 36)).size); intro v7 w7 own7 grow7 or7; have B7 := own_below' (World.ownsRow_lit (base := w5.heap.size) (e := 36) (size := 4) w5 #[] 0 (Nat.le_refl _) (Nat.zero_le _) rfl) (Nat.le_refl _) ((Below.refl w5.heap.size w5).alloc (Nat.le_refl _) (.cells #[] 36)) ((Below.refl w5.heap.size w5).alloc (Nat.le_refl _) (.cells #[] 36)).size grow7))
    go_ret2
    rw [Hr.out]
    rw [Nat.zero_add, List.nil_append] at own7
    obtain ⟨A7, c7, rfl, q1, q2, q3, _⟩ := Row.of_own own7 Hlx.out
    exact ens_int q3 q1 (Lib.hid q2) (L5.next B7).now.1.1
  | false =>
    have Hr := Lib.hid (storeWrite_not hw)
    rw [hw] at V
    go_enter Tryd.func17, Tryd.ntmps17
    go_wp2_with (first
      | (go_at_call 43; refine V.out.mono ?_; rintro e w1 ⟨rfl, hb1⟩; have L1 := L.next hb1)
      | (go_at_call 39; go_must (refine (AP.out _ L1.now.1.2 L1.now.2).mono ?_; rintro e w4 ⟨A4, n4, c4, rfl, hr4, hc4, Hn4, hb4⟩)))
    go_ret2
    rw [Hr.out]
    exact ⟨A4, n4, c4, rfl, hr4, hc4, Hn4, (L1.next hb4).now.1.1⟩
end Go.Proofs.YtihgdebfjoooeaaDoor
