/- Drawn names and a number of stripes. -/
import Derived.Test.YtecijlebfpbpaaaDoorDrawN
import Derived.Test.YtecijlebfpbpaaaDoorDrawG
import Derived.Test.YtecijlebfpbpaaaDoorAppStr
namespace Go.Proofs.YtecijlebfpbpaaaDoor
set_option linter.unusedVariables false
set_option linter.unusedSimpArgs false
open Go.RowKit

theorem strs_of {w : World} {base n : Nat} {v : Value} {ms : List ByteArray} (h : w.ownsRow base 9 1 v n (ms.map Value.string)) : ∃ A c, v = .slice A n c ∧ n ≤ c ∧ Strs w w.heap.size A n ms := by
  obtain ⟨A, c, e, h1, h2, _⟩ := Sl.of_own h
  exact ⟨A, c, e, h1, h2⟩
/-- drawn names and a number of stripes. -/
def StrsInt (w : World) (e : Ending) (w' : World) : Prop :=
  ∃ (A : Option Addr) (n c : Nat) (ss : List ByteArray) (st : Int), e = .returned (.tuple #[.slice A n c, .int .i64 st]) ∧ Strs w' w'.heap.size A n ss ∧ Hid (Small60 ss) ∧ n ≤ 4 ∧ n ≤ c ∧ Below w.heap.size w w'
set_option maxRecDepth 100000 in
set_option maxHeartbeats 4000000 in
theorem drawStripesOf_any (A : Option Addr) (n c : Nat) (w : World) (h : Code w A n c) :
    Calls Tryd.prog 19 #[.slice A n c] w (StrsInt w) := by
  go_enter Tryd.func19, Tryd.ntmps19
  go_wp2_with fail
  refine (open_any A n c _ h).mono ?_
  rintro e w1 ⟨r, rfl, hr, hb1, h1⟩
  have hr1 := h1.lt
  have O1 := Lib.hid (show (w1.alloc (.cells #[] 9)).ownsRow w1.heap.size 9 1 (.slice (some ⟨w1.heap.size, 0, none⟩) 0 0) 0 (([] : List ByteArray).map Value.string) from World.ownsRow_lit w1 #[] 0 (Nat.le_refl _) (Nat.zero_le _) rfl)
  have H1 := Lib.hid (rd_alloc h1 (.cells #[] 9))
  have G1 := Lib.hid (grow_alloc (grow_refl w1 r) (.cells #[] 9))
  have Hb1 := Lib.hid hb1
  clear h h1 hb1
  go_wp2_with fail
  refine (pick_any r 0 _ _ H1.out (by omega) (by omega)).mono ?_
  rintro e w2 ⟨y, rfl, hy, hg2, h2⟩
  have hy := hy (by omega)
  have O2 := Lib.hid (own_rd' O1.out hr1 hg2)
  have G2 := Lib.hid (grow_trans G1.out hg2)
  have H2 := Lib.hid h2
  clear hg2 h2
  go_wp2_with fail
  go_loopw [5, 7] (fun v i wr => ∃ (k : Nat) (ss : List ByteArray), k ≤ y ∧ i = .int .i64 (k : Int) ∧ Hid (ss.length = k) ∧ Hid (Small60 ss) ∧ wr.ownsRow w1.heap.size 9 1 v k (ss.map Value.string) ∧ Hid (w1.grownBy wr (some r)) ∧ Hid (Rd wr r (1 + 5 * k))) (fun _ i _ => y - (intOf i).toNat)
  case atStart => exact ⟨0, [], Nat.zero_le _, rfl, Lib.hid rfl, Lib.hid (fun s hs => by cases hs), O2.out, G2, H2⟩
  case round =>
    obtain ⟨k, ss, hk, rfl, Hl, HS, hown, HG, HR⟩ := hrel
    have HO := Lib.hid hown
    clear hown
    by_cases hlt : k < y
    · have hlt' : (k : Int) < (y : Int) := by omega
      have NA := Lib.hid (l91Name_any r _ wr HR.out (by omega))
      go_wp2_with (first
        | (go_at_call 55; ((with_reducible refine NA.out.mono ?_); rintro e w3 ⟨s, rfl, hs, hg3, h3⟩; have O3 := Lib.hid (own_rd' HO.out hr1 hg3); have G3 := Lib.hid (grow_trans HG.out hg3); have H3 := Lib.hid h3; clear hg3 h3))
        | (at_builtin; go_must (refine app_strB w3 rfl _ _ rfl w1.heap.size _ k ss rfl (by exact O3.out) s rfl ?_ ?_ ?_); omega; exact G3.out.size; intro v' w4 own4 grow4 or4))
      have G4 := Lib.hid (own_grown' O3.out (Nat.le_refl _) G3.out grow4)
      have R4 := Lib.hid (rd_own' O3.out hr1 H3.out grow4)
      have HO4 := Lib.hid own4
      clear own4 grow4 or4
      go_roundw
      case rel => exact ⟨k + 1, ss ++ [s], by omega, by go_num, Lib.hid (by rw [List.length_append, Hl.out]; rfl), Lib.hid (fun t ht => by
        rcases List.mem_append.1 ht with h | h
        · exact HS.out t h
        · rw [List.mem_singleton] at h; rw [h]; exact hs), HO4.out, G4, Lib.hid (R4.out.more (by omega))⟩
      case measure => simp [intOf]; omega
    · obtain rfl : k = y := by omega
      have hlt' : ¬ (k : Int) < (k : Int) := by omega
      go_wp2_with fail
      refine (pick_any r _ _ _ HR.out (by omega) (by omega)).mono ?_
      rintro e w4 ⟨x, rfl, hx, hg4, h4⟩
      have hx := hx (by omega)
      have O4 := Lib.hid (own_rd' HO.out hr1 hg4)
      have G4 := Lib.hid (grow_trans HG.out hg4)
      have H4 := Lib.hid h4
      clear hg4 h4
      go_wp2_with fail
      refine (pick_any r _ _ _ H4.out (by omega) (by omega)).mono ?_
      rintro e w5 ⟨z, rfl, hz, hg5, h5⟩
      have hz := hz (by omega)
      have O5 := Lib.hid (own_rd' O4.out hr1 hg5)
      have G5 := Lib.hid (grow_trans G4.out hg5)
      clear hg5 h5
      obtain ⟨Av, cv, rfl, q1, q2⟩ := strs_of O5.out
      have Hq := Lib.hid q2
      clear q2
      go_wp2_with fail
      go_ret2
      exact ⟨Av, k, cv, ss, _, rfl, Hq.out, HS, by omega, q1, drawn_below hr Hb1.out G5.out⟩
end Go.Proofs.YtecijlebfpbpaaaDoor
