/- Drawn names. -/
import Derived.Test.YtecijlebfpbpaaaDoorDraw1
import Derived.Test.YtecijlebfpbpaaaDoorNamesT
namespace Go.Proofs.YtecijlebfpbpaaaDoor
set_option linter.unusedVariables false
set_option linter.unusedSimpArgs false
open Go.RowKit

/-- a text out of a list that was just laid. -/
theorem of_lit (r N n : Nat) (cs : Array Value) (T : TypeId) (w : World) (h : Rd w r N) (hN : N ≤ 1000000) (hn : cs.size = n) (h1 : 1 ≤ n) (h2 : n ≤ 1000) (hok : strsOk cs = true) :
    Calls Tryd.prog 49 #[.pointer (some ⟨r, 0, none⟩), .slice (some ⟨w.heap.size, 0, none⟩) n n] (w.alloc (.cells cs T)) (StrPost r (N + 1) w) := by
  subst hn
  refine (of_any r N w.heap.size 0 cs.size cs.size _ (rd_alloc h _) hN (by have := h.lt; omega) h1 h2 (strs_lit (heap_alloc_new w _) hok)).mono ?_
  rintro e w' ⟨s, he, hs, hg, hr⟩
  exact ⟨s, he, hs, grow_trans (grow_alloc (grow_refl w r) _) hg, hr⟩

theorem StrPost.after {r M : Nat} {w w1 w2 : World} {e : Ending} (h : w.grownBy w1 (some r)) (hp : StrPost r M w1 e w2) : StrPost r M w e w2 := by
  obtain ⟨s, he, hs, hg, hr⟩ := hp
  exact ⟨s, he, hs, grow_trans h hg, hr⟩
theorem StrPost.more {r M M' : Nat} {w w2 : World} {e : Ending} (hp : StrPost r M w e w2) (h : M ≤ M') : StrPost r M' w e w2 := by
  obtain ⟨s, he, hs, hg, hr⟩ := hp
  exact ⟨s, he, hs, hg, hr.more h⟩
theorem nameOfS_len (l : List UInt8) (n : Int) : (nameOfS l n).length ≤ 60 := by
  unfold nameOfS
  split
  · rename_i h
    have h1 := (wordOk_size h.1).2
    have h2 := dec_len3 (n := n.toNat) (by omega)
    unfold nameOf
    simp
    omega
  · simp

set_option maxHeartbeats 1000000 in
theorem l91Name_any (r N : Nat) (w : World) (h : Rd w r N) (hN : N ≤ 900000) :
    Calls Tryd.prog 55 #[.pointer (some ⟨r, 0, none⟩)] w (StrPost r (N + 4) w) := by
  go_enter Tryd.func55, Tryd.ntmps55
  go_wp2_with fail
  refine (pick_any r N _ _ h (by omega) (by omega)).mono ?_
  rintro e w1 ⟨x, rfl, hx, hg1, h1⟩
  clear h
  by_cases hz : x = 0
  · have hb : ((x : Int) == 0) = true := by rw [hz]; rfl
    clear hz
    go_wp2_with fail
    refine (of_lit r (N + 1) 7 _ _ _ h1 (by omega) rfl (by omega) (by omega) (by kernel_rfl)).mono ?_
    rintro e w2 ⟨s, rfl, hs, hg2, h2⟩
    go_wp2_with fail
    go_ret
    exact ⟨s, rfl, hs, grow_trans hg1 hg2, h2.more (by omega)⟩
  · have hb : ((x : Int) == 0) = false := beq_eq_false_iff_ne.2 (by omega)
    clear hz
    go_wp2_with fail
    refine (of_lit r (N + 1) 3 _ _ _ h1 (by omega) rfl (by omega) (by omega) (by kernel_rfl)).mono ?_
    rintro e w2 ⟨s, rfl, hs, hg2, h2⟩
    go_wp2_with fail
    refine (pick_any r (N + 1 + 1) _ _ h2 (by omega) (by omega)).mono ?_
    rintro e w3 ⟨y, rfl, hy, hg3, h3⟩
    go_wp2_with fail
    refine (nameOfS_at s _ _ _ rfl (by unfold maxLen; omega)).mono ?_
    rintro e w4 ⟨u, rfl, hu, hb4⟩
    go_wp2_with fail
    go_ret
    exact ⟨u, rfl, by have := nameOfS_len s.data.toList y; rw [← hu, str_len] at this; exact this, grow_below (grow_trans (grow_trans hg1 hg2) hg3) hb4, (h3.below hb4).more (by omega)⟩

/-- a text that was drawn from a code. -/
def StrDrawn (w : World) (e : Ending) (w' : World) : Prop := ∃ s : ByteArray, e = .returned (.string s) ∧ s.size ≤ 60 ∧ Below w.heap.size w w'
theorem drawn_below {w w1 w2 : World} {r : Nat} (hr : w.heap.size ≤ r) (hb : Below w.heap.size w w1) (hg : w1.grownBy w2 (some r)) : Below w.heap.size w w2 :=
  hb.trans (grow_to_below hg hr hb.size)

def StrIntDrawn (w : World) (e : Ending) (w' : World) : Prop := ∃ (s : ByteArray) (k : Int), e = .returned (.tuple #[.string s, .int .i64 k]) ∧ s.size ≤ 60 ∧ -1000 ≤ k ∧ k ≤ 1000 ∧ Below w.heap.size w w'

end Go.Proofs.YtecijlebfpbpaaaDoor
