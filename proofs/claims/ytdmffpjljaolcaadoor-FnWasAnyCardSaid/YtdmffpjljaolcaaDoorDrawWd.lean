/- Drawn writes, handed to the statements. -/
import Derived.Test.YtdmffpjljaolcaaDoorDrawWr
namespace Go.Proofs.YtdmffpjljaolcaaDoor
set_option linter.unusedVariables false
set_option linter.unusedSimpArgs false
open Go.RowKit

def WrDrawn (w : World) (e : Ending) (w' : World) : Prop :=
  ∃ (A : Option Addr) (n c : Nat) (xs : List En) (s : ByteArray) (x : Int) (A' : Option Addr) (m d : Nat) (es : List Ev), e = .returned (.tuple #[.slice A n c, .string s, .int .i64 x, .slice A' m d]) ∧ Row enCells 4 w' w'.heap.size A n xs ∧ Row evCells 3 w' w'.heap.size A' m es ∧ Hid (∀ y ∈ xs, EnB y) ∧ Hid (∀ e ∈ es, EvB e) ∧ n ≤ 30 ∧ m ≤ 30 ∧ n ≤ c ∧ m ≤ d ∧ Hid (A = none → c = 0) ∧ Hid (A' = none → d = 0) ∧ s.size ≤ 60 ∧ -1000 ≤ x ∧ x ≤ 1000 ∧ Below w.heap.size w w'
theorem wr_drawn {w w1 w2 : World} {r n m : Nat} {v u : Value} {xs : List En} {s : ByteArray} {x : Int} {es : List Ev} (hr : w.heap.size ≤ r) (hb1 : Below w.heap.size w w1) (hg : w1.grownBy w2 (some r)) (O : w2.ownsRow w1.heap.size 31 4 v n (xs.flatMap enCells)) (U : w2.ownsRow w1.heap.size 29 3 u m (es.flatMap evCells)) (hl : xs.length = n) (hlm : es.length = m) (HB : Hid (∀ y ∈ xs, EnB y)) (HE : Hid (∀ e ∈ es, EvB e)) (hn : n ≤ 30) (hm : m ≤ 30) (hs : s.size ≤ 60) (h1 : -1000 ≤ x) (h2 : x ≤ 1000) :
    WrDrawn w (.returned (.tuple #[v, .string s, .int .i64 x, u])) w2 := by
  obtain ⟨A, c, rfl, p1, p2, p3, _⟩ := Row.of_own O hl
  obtain ⟨A', d, rfl, q1, q2, q3, _⟩ := Row.of_own U hlm
  exact ⟨A, n, c, xs, s, x, A', m, d, es, rfl, p3, q3, HB, HE, hn, hm, p1, q1, Lib.hid p2, Lib.hid q2, hs, h1, h2, drawn_below hr hb1 hg⟩
set_option maxHeartbeats 2000000 in
theorem drawStoreWas_any (A : Option Addr) (n c : Nat) (w : World) (h : Code w A n c) :
    Calls Tryd.prog 36 #[.slice A n c] w (WrDrawn w) := by
  go_enter Tryd.func36, Tryd.ntmps36
  go_wp2_with fail
  refine (open_any A n c _ h).mono ?_
  rintro e w1 ⟨r, rfl, hr, hb1, h1⟩
  clear h
  have hr1 := h1.lt
  go_wp2_with fail
  refine (l91Write_any r 0 6 _ h1 (by omega)).mono ?_
  rintro e w2 ⟨v, k, xs, s, x, u, m, es, rfl, hl, O, HB, hk, hs, hx1, hx2, hlm, U, HE, hm, hg2, h2⟩
  obtain ⟨Av, cv, rfl⟩ := own_slice_n O.out
  obtain ⟨Au, cu, rfl⟩ := own_slice_n U.out
  clear h1
  go_wp2_with fail
  refine bodyPost_ret (v := .tuple #[.slice Av k cv, .string s, .int .i64 x, .slice Au m cu]) (by simp [results, Tryd.results36, go_sem]) rfl ?_
  exact wr_drawn hr hb1 hg2.out O.out U.out hl.out hlm.out HB HE hk hm hs hx1 hx2
end Go.Proofs.YtdmffpjljaolcaaDoor
