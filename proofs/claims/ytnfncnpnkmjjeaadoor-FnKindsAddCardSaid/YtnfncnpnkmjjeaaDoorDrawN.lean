/- Drawn names. -/
import Derived.Test.YtnfncnpnkmjjeaaDoorDraw1
import Derived.Test.YtnfncnpnkmjjeaaDoorNamesT
namespace Go.Proofs.YtnfncnpnkmjjeaaDoor
set_option linter.unusedVariables false
set_option linter.unusedSimpArgs false
open Go.RowKit

/-- a text out of a list that was just laid. -/
theorem of_lit (r N n : Nat) (cs : Array Value) (T : TypeId) (w : World) (h : Rd w r N) (hN : N ≤ 1000000) (hn : cs.size = n) (h1 : 1 ≤ n) (h2 : n ≤ 1000) (hok : strsOk cs = true) :
    Calls Tryd.prog 53 #[.pointer (some ⟨r, 0, none⟩), .slice (some ⟨w.heap.size, 0, none⟩) n n] (w.alloc (.cells cs T)) (StrPost r (N + 1) w) := by
  subst hn
  refine (of_any r N w.heap.size 0 cs.size cs.size _ (rd_alloc h _) hN (by have := h.lt; omega) h1 h2 (strs_lit (heap_alloc_new w _) hok)).mono ?_
  rintro e w' ⟨s, he, hs, hg, hr⟩
  exact ⟨s, he, hs, grow_trans (grow_alloc (grow_refl w r) _) hg, hr⟩

theorem StrPost.after {r M : Nat} {w w1 w2 : World} {e : Ending} (h : w.grownBy w1 (some r)) (hp : StrPost r M w1 e w2) : StrPost r M w e w2 := by
  obtain ⟨s, he, hs, hg, hr⟩ := hp
  exact ⟨s, he, hs, grow_trans h hg, hr⟩
theorem StrPost.more {r M M' : Nat} {w w2 : World} {e : Ending} (hp : StrPost r M w e w2) (h : M ≤ M') : StrPost r M' w e w2 := by
  obtain ⟨s, he, hs, hg, hr⟩ := hp
  exact ⟨s, he, hs, hg, hr.more h⟩
theorem nameOfS_len (l : List UInt8) (n : Int) : (nameOfS l n).length ≤ 60 := by
  unfold nameOfS
  split
  · rename_i h
    have h1 := (wordOk_size h.1).2
    have h2 := dec_len3 (n := n.toNat) (by omega)
    unfold nameOf
    simp
    omega
  · simp

/-- a text that was drawn from a code. -/
def StrDrawn (w : World) (e : Ending) (w' : World) : Prop := ∃ s : ByteArray, e = .returned (.string s) ∧ s.size ≤ 60 ∧ Below w.heap.size w w'
theorem drawn_below {w w1 w2 : World} {r : Nat} (hr : w.heap.size ≤ r) (hb : Below w.heap.size w w1) (hg : w1.grownBy w2 (some r)) : Below w.heap.size w w2 :=
  hb.trans (grow_to_below hg hr hb.size)

def StrIntDrawn (w : World) (e : Ending) (w' : World) : Prop := ∃ (s : ByteArray) (k : Int), e = .returned (.tuple #[.string s, .int .i64 k]) ∧ s.size ≤ 60 ∧ -1000 ≤ k ∧ k ≤ 1000 ∧ Below w.heap.size w w'

end Go.Proofs.YtnfncnpnkmjjeaaDoor
