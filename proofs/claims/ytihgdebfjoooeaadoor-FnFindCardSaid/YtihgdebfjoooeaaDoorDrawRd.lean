/- Drawn stores with a name, a number and how many. -/
import Derived.Test.YtihgdebfjoooeaaDoorDrawIn
import Derived.Test.YtihgdebfjoooeaaDoorReads
namespace Go.Proofs.YtihgdebfjoooeaaDoor
open Go.RowKit

def EnsNameInts (w : World) (e : Ending) (w' : World) : Prop :=
  ∃ (A : Option Addr) (n c : Nat) (xs : List En) (s : ByteArray) (a m : Int), e = .returned (.tuple #[.slice A n c, .string s, .int .i64 a, .int .i64 m]) ∧ Row enCells 4 w' w'.heap.size A n xs ∧ Hid (∀ x ∈ xs, EnB x) ∧ n ≤ 30 ∧ n ≤ c ∧ Hid (A = none → c = 0) ∧ s.size ≤ 60 ∧ -1000 ≤ a ∧ a ≤ 1000 ∧ -1000 ≤ m ∧ m ≤ 1000 ∧ Below w.heap.size w w'
set_option maxRecDepth 100000 in
set_option maxHeartbeats 4000000 in
theorem drawStoreRead_any (A : Option Addr) (n c : Nat) (w : World) (h : Code w A n c) :
    Calls Tryd.prog 30 #[.slice A n c] w (EnsNameInts w) := by
  go_enter Tryd.func30, Tryd.ntmps30
  go_wp2_with fail
  refine (open_any A n c _ h).mono ?_
  rintro e w1 ⟨r, rfl, hr, hb1, h1⟩
  clear h
  have hr1 := h1.lt
  go_wp2_with fail
  refine (l91In_any r 0 _ h1 (by omega)).mono ?_
  rintro e w2 ⟨v, k, xs, s, rfl, hl, hown, HB, hk, hs, hg2, h2⟩
  have hb2 := drawn_below hr hb1 hg2
  have HO := Lib.hid hown
  have Hl := Lib.hid hl
  obtain ⟨Av, cv, rfl⟩ := own_slice_n hown
  clear hg2 hb1 h1 hown hl
  go_wp2_with fail
  refine (pick_any r _ _ _ h2 (by omega) (by omega)).mono ?_
  rintro e w3 ⟨x, rfl, hx, hg3, h3⟩
  have hx := hx (by omega)
  have hb3 := drawn_below hr hb2 hg3
  have O3 := Lib.hid (own_rd HO.out hr1 hg3)
  clear hg3 h2 hb2
  go_wp2_with fail
  refine (pick_any r _ _ _ h3 (by omega) (by omega)).mono ?_
  rintro e w4 ⟨y, rfl, hy, hg4, h4⟩
  have hy := hy (by omega)
  have hb4 := drawn_below hr hb3 hg4
  have O4 := Lib.hid (own_rd O3.out hr1 hg4)
  clear hg4 h3 hb3
  go_wp2_with fail
  refine (pick_any r _ _ _ h4 (by omega) (by omega)).mono ?_
  rintro e w5 ⟨z, rfl, hz, hg5, h5⟩
  have hz := hz (by omega)
  have hb5 := drawn_below hr hb4 hg5
  have O5 := Lib.hid (own_rd O4.out hr1 hg5)
  clear hg5 h4 hb4
  go_wp2_with fail
  refine (pick_any r _ _ _ h5 (by omega) (by omega)).mono ?_
  rintro e w6 ⟨u, rfl, hu, hg6, h6⟩
  have hu := hu (by omega)
  have hb6 := drawn_below hr hb5 hg6
  have O6 := own_rd O5.out hr1 hg6
  clear hg6 h5 hb5 h6
  obtain ⟨A', c', e1, q1, q2, q3, _⟩ := Row.of_own O6 Hl.out
  obtain ⟨rfl, -, rfl⟩ : Av = A' ∧ k = k ∧ cv = c' := by injection e1 with a b c; exact ⟨a, rfl, c⟩
  have Hq := Lib.hid q2
  have Hb := Lib.hid hb6
  have HR := Lib.hid q3
  clear q2 O6 e1 hb6 q3
  go_wp2_with fail
  refine bodyPost_ret (v := .tuple #[.slice Av k cv, .string s, .int .i64 ((x : Int) - (y : Int) / 29 * 4), .int .i64 ((z : Int) + (u : Int) / 19 * 96)]) (by simp [results, Tryd.results30, go_sem]) rfl ?_
  exact ⟨Av, k, cv, xs, s, _, _, rfl, HR.out, HB, hk, q1, Hq, hs, by omega, by omega, by omega, by omega, Hb.out⟩
def EnsNameInt (w : World) (e : Ending) (w' : World) : Prop :=
  ∃ (A : Option Addr) (n c : Nat) (xs : List En) (s : ByteArray) (a : Int), e = .returned (.tuple #[.slice A n c, .string s, .int .i64 a]) ∧ Row enCells 4 w' w'.heap.size A n xs ∧ Hid (∀ x ∈ xs, EnB x) ∧ n ≤ 30 ∧ n ≤ c ∧ Hid (A = none → c = 0) ∧ s.size ≤ 60 ∧ -100000 ≤ a ∧ a ≤ 100000 ∧ Below w.heap.size w w'
theorem nameInt_mk {w w4 : World} {Av : Option Addr} {k cv base : Nat} {xs : List En} {s : ByteArray} {a : Int} (O4 : w4.ownsRow base 36 4 (.slice Av k cv) k (xs.flatMap enCells)) (hl : xs.length = k) (HB : Hid (∀ x ∈ xs, EnB x)) (hk : k ≤ 30) (hs : s.size ≤ 60) (h1 : -100000 ≤ a) (h2 : a ≤ 100000) (hb : Below w.heap.size w w4) :
    EnsNameInt w (.returned (.tuple #[.slice Av k cv, .string s, .int .i64 a])) w4 := by
  obtain ⟨A', c', e1, q1, q2, q3, _⟩ := Row.of_own O4 hl
  obtain ⟨rfl, -, rfl⟩ : Av = A' ∧ k = k ∧ cv = c' := by injection e1 with a b c; exact ⟨a, rfl, c⟩
  exact ⟨Av, k, cv, xs, s, a, rfl, q3, HB, hk, q1, Lib.hid q2, hs, h1, h2, hb⟩
theorem ev_cell {w w' : World} {B r n b off m y : Nat} {es : List Ev} (h : Row evCells 3 w B (some ⟨b, off, none⟩) n es) (hE : ∀ e ∈ es, EvB e) (hm : es.length = m) (hy : y < m) (hB : B ≤ w.heap.size) (hr : r ≠ b) (hg : w.grownBy w' (some r)) :
    ∃ v : Int, w'.cell? ⟨b, off + y * 3, none⟩ = some (.int .i64 v) ∧ -100000 ≤ v ∧ v ≤ 100000 := by
  have hn : 0 < n := by have := h.1; omega
  obtain ⟨b', off', e, hb, hx⟩ := (h.grown hB hg (fun p hp => by obtain rfl := Option.some.inj hp; intro e; exact hr (Option.some.inj e))).at_ evCells_len hn
  obtain ⟨rfl, rfl, -⟩ : b = b' ∧ off = off' ∧ True := by injection e with e; injection e with e1 e2; exact ⟨e1, e2, trivial⟩
  have := hE _ (nx_mem (l := es) (k := y) (by omega))
  exact ⟨_, hx y _ (nx_get (by omega)) 0 _ rfl, this.2.1, this.2.2.1⟩
set_option maxRecDepth 100000 in
set_option maxHeartbeats 4000000 in
theorem drawStoreFind_any (A : Option Addr) (n c : Nat) (w : World) (h : Code w A n c) :
    Calls Tryd.prog 34 #[.slice A n c] w (EnsNameInt w) := by
  go_enter Tryd.func34, Tryd.ntmps34
  go_wp2_with fail
  refine (open_any A n c _ h).mono ?_
  rintro e w1 ⟨r, rfl, hr, hb1, h1⟩
  clear h
  have hr1 := h1.lt
  go_wp2_with fail
  refine (l91In_any r 0 _ h1 (by omega)).mono ?_
  rintro e w2 ⟨v, k, xs, s, rfl, hl, hown, HB, hk, hs, hg2, h2⟩
  have hb2 := drawn_below hr hb1 hg2
  have HO := Lib.hid hown
  have Hl := Lib.hid hl
  obtain ⟨Av, cv, rfl⟩ := own_slice_n hown
  obtain ⟨_, _, e1, q1, q2, q3, _⟩ := Row.of_own hown hl
  obtain ⟨rfl, -, rfl⟩ : Av = _ ∧ k = k ∧ cv = _ := by injection e1 with a b c; exact ⟨a, rfl, c⟩
  have HR := Lib.hid q3
  have Hsl := Lib.hid (streamOf_len xs s)
  clear hg2 hb1 h1 hown hl e1 q2 q3
  go_wp2_with fail
  refine (l4Events_new Av k cv xs s _ HR.out (by omega)).mono ?_
  rintro e w3 ⟨A3, m, c3, rfl, hr3, hc3, hn3, Hnew, hb3⟩
  have hrz := h2.lt
  have H3 := Lib.hid (h2.below hb3)
  have O3 := Lib.hid (own_next HO.out hb3)
  have Hw3 := Lib.hid (bt hb2 hb3)
  have HR3 := Lib.hid hr3
  have Hm := Lib.hid hr3.1
  have hm30 : m ≤ 30 := by rw [← hr3.1]; have := Hsl.out; rw [Hl.out] at this; omega
  have HE := Lib.hid (stream_B (s := s) HB.out)
  clear hb3 hb2 h2 hr3
  by_cases hm0 : 0 < m
  · have hm0' : (0 : Int) < (m : Int) := by omega
    obtain ⟨b, off, rfl, hb, _⟩ := HR3.out.at_ evCells_len hm0
    have Hrb := Lib.hid (show r ≠ b by have := Hnew.out _ rfl; simp only at this; omega)
    go_wp2_with fail
    refine (pick_any r _ _ _ H3.out (by omega) (by omega)).mono ?_
    rintro e w4 ⟨x, rfl, hx, hg4, h4⟩
    have hx := hx (by omega)
    have Hw4 := Lib.hid (drawn_below hr Hw3.out hg4)
    have O4 := Lib.hid (own_rd O3.out hr1 hg4)
    have H4 := Lib.hid h4
    have Hg4 := Lib.hid hg4
    clear hg4 h4
    by_cases hx0 : (0 : Int) < (x : Int)
    · go_wp2_with fail
      go_region_law (go_simp; go_at_call 45; refine (pick_any r _ _ _ (rd_drewN H4.out 1) (by omega) (by omega)).mono ?_; rintro e w5 ⟨y, rfl, hy, hg5, h5⟩; have hy := hy (by omega); have O5 := Lib.hid (own_rd (show w4.drew.ownsRow w1.heap.size 36 4 _ k (xs.flatMap enCells) from O4.out) hr1 hg5); have Hw5 := Lib.hid (drawn_below hr (below_drew_n Hw4.out 1) hg5); obtain ⟨v, hv, hv1, hv2⟩ := ev_cell HR3.out HE.out Hm.out (show y < m by omega) (Nat.le_refl _) Hrb.out (grow_trans (grow_drewN Hg4.out 1) hg5); clear hg5 h5)
      all_goals
        go_wp2_with fail
        go_ret3
        exact nameInt_mk O5.out Hl.out HB hk hs hv1 hv2 Hw5.out
    · go_wp2_with fail
      refine (pick_any r _ _ _ H4.out (by omega) (by omega)).mono ?_
      rintro e w5 ⟨y, rfl, hy, hg5, h5⟩
      have hy := hy (by omega)
      have O5 := Lib.hid (own_rd O4.out hr1 hg5)
      have Hw5 := Lib.hid (drawn_below hr Hw4.out hg5)
      clear hg5 h5
      go_wp2_with fail
      go_ret3
      exact nameInt_mk O5.out Hl.out HB hk hs (by omega) (by omega) Hw5.out
  · obtain rfl : m = 0 := by omega
    go_wp2_with fail
    refine (pick_any r _ _ _ H3.out (by omega) (by omega)).mono ?_
    rintro e w5 ⟨y, rfl, hy, hg5, h5⟩
    have hy := hy (by omega)
    have O5 := Lib.hid (own_rd O3.out hr1 hg5)
    have Hw5 := Lib.hid (drawn_below hr Hw3.out hg5)
    clear hg5 h5
    go_wp2_with fail
    go_ret3
    exact nameInt_mk O5.out Hl.out HB hk hs (by omega) (by omega) Hw5.out
end Go.Proofs.YtihgdebfjoooeaaDoor
