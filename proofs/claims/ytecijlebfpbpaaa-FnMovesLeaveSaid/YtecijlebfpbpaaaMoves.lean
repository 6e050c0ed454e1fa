/- How many stripes move: the program's. -/
import Derived.Test.YtecijlebfpbpaaaShare
import Derived.Deep.DeepCutAuto
namespace Go.Proofs.Ytecijlebfpbpaaa
set_option linter.unusedVariables false
set_option linter.unusedSimpArgs false
open Go.RowKit

def movesL (ms ms' : List ByteArray) (i : Nat) : List Nat := (List.range i).filter fun j => decide (ownerOf ms j ≠ ownerOf ms' j)
theorem movesL_succ (ms ms' : List ByteArray) (i : Nat) : movesL ms ms' (i + 1) = movesL ms ms' i ++ (if ownerOf ms i ≠ ownerOf ms' i then [i] else []) := by
  unfold movesL
  rw [List.range_succ, List.filter_append]
  by_cases h : ownerOf ms i = ownerOf ms' i <;> simp [h]
theorem movesL_len (ms ms' : List ByteArray) (i : Nat) : (movesL ms ms' i).length ≤ i := by
  unfold movesL; exact Nat.le_trans (List.length_filter_le _ _) (by simp)
theorem movesL_same (ms : List ByteArray) (i : Nat) : movesL ms ms i = [] := by
  unfold movesL; rw [List.filter_eq_nil_iff]; intro j _; simp

set_option maxHeartbeats 2000000 in
theorem moves1_any (st st' : Int) (A A' : Option Addr) (n c n' c' : Nat) (ms ms' : List ByteArray) (k ga gb : Nat) (w : World) (h : Strs w w.heap.size A n ms) (hn0 : 0 < n) (hn : n ≤ 1000000) (h' : Strs w w.heap.size A' n' ms') (hn0' : 0 < n') (hn' : n' ≤ 1000000) (hk : k ≤ 1000000)
    (hT : Blk w ga 57 #[.int .i64 st, .slice A n c]) (hT' : Blk w gb 57 #[.int .i64 st', .slice A' n' c']) :
    Calls Try.prog 37 #[.int .i64 k, .pointer (some ⟨ga, 0, none⟩), .pointer (some ⟨gb, 0, none⟩)] w fun e w' => e = .returned (.bool (decide (ownerOf ms k ≠ ownerOf ms' k))) ∧ Below w.heap.size w w' := by
  have t0 := hT.cell 0
  have t1 := hT.cell 1
  have s0 := hT'.cell 0
  have s1 := hT'.cell 1
  have HO := Lib.hid (owner_any st A n c ms k w.drew h hn0 hn hk)
  have HP : Hid (∀ W, Below w.heap.size w W → Calls Try.prog 38 #[.agg #[.int .i64 st', .slice A' n' c'], .int .i64 k] W fun e w' => e = .returned (.string (ownerOf ms' k)) ∧ Below W.heap.size W w') := Lib.hid fun W hW => owner_any st' A' n' c' ms' k W (h'.next hW) hn0' hn' hk
  have HT := Lib.hid hT
  have HT' := Lib.hid hT'
  obtain ⟨s, hs⟩ : ∃ s, ownerOf ms k = s := ⟨_, rfl⟩
  obtain ⟨s', hs'⟩ : ∃ s, ownerOf ms' k = s := ⟨_, rfl⟩
  rw [hs] at HO ⊢
  rw [hs'] at HP ⊢
  clear h h' hT hT' hs hs'
  by_cases hsm : s = s'
  · subst hsm
    have e1 : (s.toList == s.toList) = true := beq_self_eq_true _
    have Hd := Lib.hid (decide_eq_false (fun h : s ≠ s => h rfl))
    go_enter Try.func37, Try.ntmps37
    go_wp2_with fail
    go_region_held3 (fun w' => w'.cell? ⟨ga, 0, none⟩ = some (.int .i64 st) ∧ w'.cell? ⟨ga, 1, none⟩ = some (.slice A n c) ∧ w'.cell? ⟨gb, 0, none⟩ = some (.int .i64 st') ∧ w'.cell? ⟨gb, 1, none⟩ = some (.slice A' n' c')) (first | exact ⟨t0, t1, s0, s1⟩ | exact ⟨u0, u1, v0, v1⟩ | exact ⟨x0, x1, y0, y1⟩) (first
      | (go_at_call 38; ((with_reducible refine HO.out.mono ?_); rintro e w2 ⟨rfl, hb2⟩; have hb3 := below_undrew hb2; have u0 := (HT.out.next hb3).cell 0; have u1 := (HT.out.next hb3).cell 1; have v0 := (HT'.out.next hb3).cell 0; have v1 := (HT'.out.next hb3).cell 1))
      | (go_at_call 38; ((with_reducible refine (HP.out _ hb3).mono ?_); rintro e w4 ⟨rfl, hb4⟩; have hb5 := bt hb3 hb4; have x0 := (HT.out.next hb5).cell 0; have x1 := (HT.out.next hb5).cell 1; have y0 := (HT'.out.next hb5).cell 0; have y1 := (HT'.out.next hb5).cell 1)))
    all_goals
      clear t0 t1 s0 s1 u0 u1 v0 v1 x0 x1 y0 y1
      go_wp2_with fail
      go_ret
      exact ⟨by rw [Hd.out]; rfl, hb5⟩
  · have e1 : (s.toList == s'.toList) = false := toList_ne hsm
    have Hd := Lib.hid (decide_eq_true (show s ≠ s' from hsm))
    clear hsm
    go_enter Try.func37, Try.ntmps37
    go_wp2_with fail
    go_region_held3 (fun w' => w'.cell? ⟨ga, 0, none⟩ = some (.int .i64 st) ∧ w'.cell? ⟨ga, 1, none⟩ = some (.slice A n c) ∧ w'.cell? ⟨gb, 0, none⟩ = some (.int .i64 st') ∧ w'.cell? ⟨gb, 1, none⟩ = some (.slice A' n' c')) (first | exact ⟨t0, t1, s0, s1⟩ | exact ⟨u0, u1, v0, v1⟩ | exact ⟨x0, x1, y0, y1⟩) (first
      | (go_at_call 38; ((with_reducible refine HO.out.mono ?_); rintro e w2 ⟨rfl, hb2⟩; have hb3 := below_undrew hb2; have u0 := (HT.out.next hb3).cell 0; have u1 := (HT.out.next hb3).cell 1; have v0 := (HT'.out.next hb3).cell 0; have v1 := (HT'.out.next hb3).cell 1))
      | (go_at_call 38; ((with_reducible refine (HP.out _ hb3).mono ?_); rintro e w4 ⟨rfl, hb4⟩; have hb5 := bt hb3 hb4; have x0 := (HT.out.next hb5).cell 0; have x1 := (HT.out.next hb5).cell 1; have y0 := (HT'.out.next hb5).cell 0; have y1 := (HT'.out.next hb5).cell 1)))
    all_goals
      clear t0 t1 s0 s1 u0 u1 v0 v1 x0 x1 y0 y1
      go_wp2_with fail
      go_ret
      exact ⟨by rw [Hd.out]; rfl, hb5⟩

set_option maxRecDepth 100000 in
set_option maxHeartbeats 4000000 in
theorem pick45_any (st : Nat) (A A' : Option Addr) (n c n' c' : Nat) (ms ms' : List ByteArray) (st' : Int) (ga gb : Nat) (w : World) (h : Strs w w.heap.size A n ms) (hn0 : 0 < n) (hn : n ≤ 1000000) (h' : Strs w w.heap.size A' n' ms') (hn0' : 0 < n') (hn' : n' ≤ 1000000) (hst : st ≤ 1000)
    (hT : Blk w ga 57 #[.int .i64 st, .slice A n c]) (hT' : Blk w gb 57 #[.int .i64 st', .slice A' n' c']) :
    Calls Try.prog 36 #[.agg #[.int .i64 st], .func (.func 37) #[] #[.pointer (some ⟨ga, 0, none⟩), .pointer (some ⟨gb, 0, none⟩)]] w (IntsRet (movesL ms ms' st) w) := by
  go_enter Try.func36, Try.ntmps36
  go_wp2_with fail
  have H := Lib.hid h
  have H' := Lib.hid h'
  have HT := Lib.hid hT
  have HM := Lib.hid hT'
  have O1 := Lib.hid (lit_own (T := 3) (w := w.alloc (.cells #[.int .i64 st] 55)) (g := w.heap.size + 1) (base := w.heap.size + 1) (by simp) (by simp))
  have Hb1 := Lib.hid (((Below.refl w.heap.size w).alloc (Nat.le_refl _) (.cells #[.int .i64 st] 55)).alloc (by simp) (.cells #[] 3))
  clear h h' hT hT'
  go_loopw [5, 10] (fun v i wr => ∃ k : Nat, k ≤ st ∧ i = .int .i64 k ∧ wr.ownsRow (w.heap.size + 1) 3 1 v (movesL ms ms' k).length ((movesL ms ms' k).flatMap intCells) ∧ Below w.heap.size w wr ∧ w.heap.size + 1 ≤ wr.heap.size) (fun _ i _ => st - (intOf i).toNat)
  case atStart => exact ⟨0, Nat.zero_le _, rfl, O1.out, Hb1.out, by simp⟩
  case round =>
    obtain ⟨k, hk, rfl, hown, hnx, hz⟩ := hrel
    have Hown := Lib.hid hown
    have Hnx := Lib.hid hnx
    by_cases hlt : k < st
    · have hlt' : (k : Int) < (st : Int) := by omega
      have HC := Lib.hid (moves1_any st st' A A' n c n' c' ms ms' k ga gb wr (H.out.next hnx) hn0 hn (H'.out.next hnx) hn0' hn' (by omega) (HT.out.next hnx) (HM.out.next hnx))
      have Hsu := Lib.hid (movesL_succ ms ms' k)
      have hsl := movesL_len ms ms' k
      clear hown hnx
      by_cases ho : ownerOf ms k ≠ ownerOf ms' k
      · rw [decide_eq_true ho] at HC
        rw [if_pos ho] at Hsu
        clear ho
        go_wp2_with (first
          | (go_at_call 37; ((with_reducible refine HC.out.mono ?_); rintro e w2 ⟨rfl, hb2⟩; have O2 := own_next Hown.out hb2; have hz2 := hb2.size; have Hn2 := Lib.hid (bt Hnx.out hb2)))
          | (at_builtin; go_must (refine app_one elemInt w2 rfl _ _ rfl (w.heap.size + 1) _ (movesL ms ms' k).length ((movesL ms ms' k).flatMap intCells) rfl (by exact O2) [.int .i64 k] rfl rfl ?_ ?_ ?_ ?_); (intro x hx; simp at hx; subst hx; rfl); omega; omega; intro v' w4 own4 grow4 or4))
        have hb4 := own_below' O2 (Nat.le_succ _) Hn2.out Hn2.out.size grow4
        have hz4 := grow4.size
        have own5 : w4.ownsRow (w.heap.size + 1) 3 1 v' (movesL ms ms' (k + 1)).length ((movesL ms ms' (k + 1)).flatMap intCells) := by
          rw [Hsu.out, List.flatMap_append, List.length_append]
          simpa [intCells] using own4
        clear own4 grow4 or4 O2 hb2
        go_roundw
        case rel => exact ⟨k + 1, by omega, by go_num, own5, hb4, by omega⟩
        case measure => simp [intOf]; omega
      · rw [decide_eq_false ho] at HC
        rw [if_neg ho, List.append_nil] at Hsu
        clear ho
        go_wp2_with (first
          | (go_at_call 37; ((with_reducible refine HC.out.mono ?_); rintro e w2 ⟨rfl, hb2⟩; have O2 := own_next Hown.out hb2; have hz2 := hb2.size; have Hn2 := Lib.hid (bt Hnx.out hb2)))
          | fail)
        have own5 := O2
        rw [← Hsu.out] at own5
        clear O2 hb2
        go_roundw
        case rel => exact ⟨k + 1, by omega, by go_num, own5, Hn2.out, by omega⟩
        case measure => simp [intOf]; omega
    · obtain rfl : k = st := by omega
      have hlt' : ¬ (k : Int) < (k : Int) := by omega
      clear hown hnx
      go_wp2_with fail
      go_ret
      exact ints_ret rfl Hown.out Hnx.out

theorem mv_keep {w' : World} {g g' : Nat} {T : TypeId} {v u v' u' : Value} (h : Blk w' g T #[v, u]) (h' : Blk w' g' T #[v', u']) :
    w'.cell? ⟨g, 0, none⟩ = some v ∧ w'.cell? ⟨g, 1, none⟩ = some u ∧ w'.cell? ⟨g', 0, none⟩ = some v' ∧ w'.cell? ⟨g', 1, none⟩ = some u' := ⟨h.cell 0, h.cell 1, h'.cell 0, h'.cell 1⟩
theorem blk_new_at (w : World) (t : TypeId) (cs : Array Value) {g : Nat} (hg : g = w.heap.size) : Blk (w.alloc (.cells cs t)) g t cs := by subst hg; exact Blk.new w t cs
theorem blk_set2 {w : World} {g : Nat} {T : TypeId} {u v : Value} (h : Blk w g T #[.int .i64 0, .slice none 0 0]) : Blk ((w.setCell ⟨g, 0, none⟩ u).setCell ⟨g, 1, none⟩ v) g T #[u, v] := by
  have := (h.set_ 0 u).set_ 1 v
  simpa using this
theorem below_al {w W : World} (h : Below w.heap.size w W) (o : Obj) : Below w.heap.size w (W.alloc o) := h.alloc h.size o
theorem below_set {w W : World} (h : Below w.heap.size w W) {p : Addr} (u : Value) (hp : w.heap.size ≤ p.block) : Below w.heap.size w (W.setCell p u) := h.setCell hp u
theorem below_dr {w W : World} (h : Below w.heap.size w W) : Below w.heap.size w W.drew := h.drew
theorem blk_drew {w : World} {g : Nat} {T : TypeId} {cs : Array Value} (h : Blk w g T cs) : Blk w.drew g T cs := h
theorem blk_two (w : World) (o : Obj) (t : TypeId) (cs : Array Value) : Blk ((w.alloc o).alloc (.cells cs t)) (w.heap.size + 1) t cs := by have := Blk.new (w.alloc o) t cs; simpa using this
def movesOk (st st' : Int) (ms ms' : List ByteArray) : Bool := groupOk st ms && groupOk st' ms' && decide (st = st')
def groupMoves (st st' : Int) (ms ms' : List ByteArray) : Int := if movesOk st st' ms ms' then (movesL ms ms' st.toNat).length else -1
set_option maxRecDepth 100000 in
set_option maxHeartbeats 4000000 in
theorem groupMoves_any (st : Nat) (A A' : Option Addr) (n c n' c' : Nat) (ms ms' : List ByteArray) (w : World) (h : Strs w w.heap.size A n ms) (hsm : AllSmall ms) (hnb : n ≤ 1000000) (h' : Strs w w.heap.size A' n' ms') (hsm' : AllSmall ms') (hnb' : n' ≤ 1000000) (hg : groupOk st ms = true) (hg' : groupOk st ms' = true) :
    Calls Try.prog 15 #[.agg #[.int .i64 st, .slice A n c], .agg #[.int .i64 st, .slice A' n' c']] w fun e w' => e = .returned (.int .i64 (movesL ms ms' st).length) ∧ Below w.heap.size w w' := by
  have hst := Lib.hid (groupOk_st' hg)
  have hst2 := Lib.hid (groupOk_st' hg')
  have hn1 : 1 ≤ n := by have h1 := hst.out.2; rw [h.len] at h1; exact h1.1
  have hn1' : 1 ≤ n' := by have h1 := hst2.out.2; rw [h'.len] at h1; exact h1.1
  have V := Lib.hid (groupValid_any st A n c ms _ (h.boxed2 (.cells #[.int .i64 st, .slice A n c] 26) (.cells #[.int .i64 st, .slice A' n' c'] 26)) hsm (by omega))
  have V' : Hid (∀ W, Below w.heap.size w W → Calls Try.prog 22 #[.agg #[.int .i64 st, .slice A' n' c']] W fun e w' => e = .returned (.bool true) ∧ Below W.heap.size W w') := Lib.hid fun W hW => by
    have := groupValid_any st A' n' c' ms' W (h'.next hW) hsm' (by omega)
    rwa [hg'] at this
  have H := Lib.hid h
  have H' := Lib.hid h'
  rw [hg] at V
  have hs8 : st ≤ 1000 := by have := hst.out.1; omega
  clear h h' hsm hsm' hg hg'
  go_enter Try.func15, Try.ntmps15
  go_wp2_with (first
    | (go_at_call 22; ((with_reducible refine V.out.mono ?_); rintro e w1 ⟨rfl, hb1⟩; obtain ⟨B0, B1, hw1, hz1⟩ := boxes2 hb1; have HB0 := Lib.hid B0; have HB1 := Lib.hid B1; have j0 := B0.cell 0; have j1 := B0.cell 1; have k0 := B1.cell 0; have k1 := B1.cell 1; clear B0 B1))
    | (go_at_call 22; ((with_reducible refine (V'.out _ hw1).mono ?_); rintro e w2 ⟨rfl, hb2⟩; have HC0 := Lib.hid (HB0.out.next hb2); have HC1 := Lib.hid (HB1.out.next hb2); have l0 := HC0.out.cell 0; have l1 := HC0.out.cell 1; have m0 := HC1.out.cell 0; have m1 := HC1.out.cell 1; have hw2 := bt hw1 hb2; clear j0 j1 k0 k1)))
  have HD0 : Hid (Blk w2.drew w.heap.size 26 #[.int .i64 st, .slice A n c]) := Lib.hid HC0.out
  have HD1 : Hid (Blk w2.drew (w.heap.size + 1) 26 #[.int .i64 st, .slice A' n' c']) := Lib.hid HC1.out
  have hz2 : w.heap.size + 2 ≤ w2.drew.heap.size := by have := hw2.size; have := HC1.out.lt; show w.heap.size + 2 ≤ w2.heap.size; omega
  have hz2' : w.heap.size + 2 ≤ w2.heap.size := hz2
  have Hw2 : Hid (Below w.heap.size w w2.drew) := Lib.hid (below_drew_n hw2 1)
  have Hw2' : Hid (Below w.heap.size w w2) := Lib.hid hw2
  clear hw2 hw1 hz1 hb2
  have TA := Lib.hid (fun W => teamOf_any (st : Int) A n c W)
  have TB := Lib.hid (fun W => teamOf_any (st : Int) A' n' c' W)
  go_cut [5, 6] (fun s5 s6 wr => ∃ g5 g6 : Nat, s5 = .pointer (some ⟨g5, 0, none⟩) ∧ s6 = .pointer (some ⟨g6, 0, none⟩) ∧ Blk wr g5 57 #[.int .i64 st, .slice A n c] ∧ Blk wr g6 57 #[.int .i64 st, .slice A' n' c'] ∧ Below w.heap.size w wr)
  case first =>
    go_region_held3 (fun w' => w'.cell? ⟨w.heap.size, 0, none⟩ = some (.int .i64 st) ∧ w'.cell? ⟨w.heap.size, 1, none⟩ = some (.slice A n c) ∧ w'.cell? ⟨w.heap.size + 1, 0, none⟩ = some (.int .i64 st) ∧ w'.cell? ⟨w.heap.size + 1, 1, none⟩ = some (.slice A' n' c')) (first | exact ⟨l0, l1, m0, m1⟩ | exact mv_keep (T := 26) (by (repeat' first | (with_reducible exact Hid.out (by assumption)) | (with_reducible refine blk_drew ?_) | (with_reducible exact Blk.new _ _ _) | (with_reducible refine Blk.alloc ?_ _) | (with_reducible refine Blk.far ?_ (by simp only [World.alloc, Array.size_push]; omega) _))) (by (repeat' first | (with_reducible exact Hid.out (by assumption)) | (with_reducible refine blk_drew ?_) | (with_reducible exact Blk.new _ _ _) | (with_reducible refine Blk.alloc ?_ _) | (with_reducible refine Blk.far ?_ (by simp only [World.alloc, Array.size_push]; omega) _)))) (first
      | (go_at_call 35; ((with_reducible refine (TA.out w2.drew).mono ?_); rintro e w3 ⟨rfl, hb3⟩; have HE0 := Lib.hid (Blk.next (show Blk w2.drew w.heap.size 26 #[.int .i64 st, .slice A n c] from (by (repeat' first | (with_reducible exact Hid.out (by assumption)) | (with_reducible refine blk_drew ?_) | (with_reducible exact Blk.new _ _ _) | (with_reducible refine Blk.alloc ?_ _) | (with_reducible refine Blk.far ?_ (by simp only [World.alloc, Array.size_push]; omega) _)))) hb3); have HE1 := Lib.hid (Blk.next (show Blk w2.drew (w.heap.size + 1) 26 #[.int .i64 st, .slice A' n' c'] from (by (repeat' first | (with_reducible exact Hid.out (by assumption)) | (with_reducible refine blk_drew ?_) | (with_reducible exact Blk.new _ _ _) | (with_reducible refine Blk.alloc ?_ _) | (with_reducible refine Blk.far ?_ (by simp only [World.alloc, Array.size_push]; omega) _)))) hb3); have hq := hb3; have hz3 := HE1.out.lt; have hzb3 := hb3.size; (try (have Q1l := BQ1.out.lt; have Q1n : w2.heap.size ≠ w3.heap.size := (by omega); have Q1m : w3.heap.size ≠ w2.heap.size := (by omega)))))
      | (go_at_call 35; ((with_reducible refine (TA.out (w2.alloc (.cells #[.int .i64 0, .slice none 0 0] 57)).drew).mono ?_); rintro e w3 ⟨rfl, hb3⟩; have HE0 := Lib.hid (Blk.next (show Blk (w2.alloc (.cells #[.int .i64 0, .slice none 0 0] 57)).drew w.heap.size 26 #[.int .i64 st, .slice A n c] from (by (repeat' first | (with_reducible exact Hid.out (by assumption)) | (with_reducible refine blk_drew ?_) | (with_reducible exact Blk.new _ _ _) | (with_reducible refine Blk.alloc ?_ _) | (with_reducible refine Blk.far ?_ (by simp only [World.alloc, Array.size_push]; omega) _)))) hb3); have HE1 := Lib.hid (Blk.next (show Blk (w2.alloc (.cells #[.int .i64 0, .slice none 0 0] 57)).drew (w.heap.size + 1) 26 #[.int .i64 st, .slice A' n' c'] from (by (repeat' first | (with_reducible exact Hid.out (by assumption)) | (with_reducible refine blk_drew ?_) | (with_reducible exact Blk.new _ _ _) | (with_reducible refine Blk.alloc ?_ _) | (with_reducible refine Blk.far ?_ (by simp only [World.alloc, Array.size_push]; omega) _)))) hb3); have BQ1 := Lib.hid (Blk.next (show Blk (w2.alloc (.cells #[.int .i64 0, .slice none 0 0] 57)).drew w2.heap.size 57 #[.int .i64 0, .slice none 0 0] from Blk.new w2 _ _) hb3); have hz3 := HE1.out.lt; have hzb3 := hb3.size; (try (have Q1l := BQ1.out.lt; have Q1n : w2.heap.size ≠ w3.heap.size := (by omega); have Q1m : w3.heap.size ≠ w2.heap.size := (by omega)))))
      | (go_at_call 35; ((with_reducible refine (TA.out ((w2.alloc (.cells #[.int .i64 0, .slice none 0 0] 57)).alloc (.cells #[.int .i64 0, .slice none 0 0] 57)).drew).mono ?_); rintro e w3 ⟨rfl, hb3⟩; have HE0 := Lib.hid (Blk.next (show Blk ((w2.alloc (.cells #[.int .i64 0, .slice none 0 0] 57)).alloc (.cells #[.int .i64 0, .slice none 0 0] 57)).drew w.heap.size 26 #[.int .i64 st, .slice A n c] from (by (repeat' first | (with_reducible exact Hid.out (by assumption)) | (with_reducible refine blk_drew ?_) | (with_reducible exact Blk.new _ _ _) | (with_reducible refine Blk.alloc ?_ _) | (with_reducible refine Blk.far ?_ (by simp only [World.alloc, Array.size_push]; omega) _)))) hb3); have HE1 := Lib.hid (Blk.next (show Blk ((w2.alloc (.cells #[.int .i64 0, .slice none 0 0] 57)).alloc (.cells #[.int .i64 0, .slice none 0 0] 57)).drew (w.heap.size + 1) 26 #[.int .i64 st, .slice A' n' c'] from (by (repeat' first | (with_reducible exact Hid.out (by assumption)) | (with_reducible refine blk_drew ?_) | (with_reducible exact Blk.new _ _ _) | (with_reducible refine Blk.alloc ?_ _) | (with_reducible refine Blk.far ?_ (by simp only [World.alloc, Array.size_push]; omega) _)))) hb3); have BQ1 := Lib.hid (Blk.next (show Blk ((w2.alloc (.cells #[.int .i64 0, .slice none 0 0] 57)).alloc (.cells #[.int .i64 0, .slice none 0 0] 57)).drew w2.heap.size 57 #[.int .i64 0, .slice none 0 0] from (Blk.new w2 _ _).alloc _) hb3); have BQ2 := Lib.hid (Blk.next (show Blk ((w2.alloc (.cells #[.int .i64 0, .slice none 0 0] 57)).alloc (.cells #[.int .i64 0, .slice none 0 0] 57)).drew (w2.heap.size + 1) 57 #[.int .i64 0, .slice none 0 0] from blk_two w2 _ _ _) hb3); have hz3 := HE1.out.lt; have hzb3 := hb3.size; (try (have Q1l := BQ1.out.lt; have Q1n : w2.heap.size ≠ w3.heap.size := (by omega); have Q1m : w3.heap.size ≠ w2.heap.size := (by omega)))))
      | (go_at_call 35; ((with_reducible refine (TB.out w3).mono ?_); rintro e w4 ⟨rfl, hb4⟩; have HF0 := Lib.hid (Blk.next (show Blk w3 w.heap.size 26 #[.int .i64 st, .slice A n c] from (by (repeat' first | (with_reducible exact Hid.out (by assumption)) | (with_reducible refine blk_drew ?_) | (with_reducible exact Blk.new _ _ _) | (with_reducible refine Blk.alloc ?_ _) | (with_reducible refine Blk.far ?_ (by simp only [World.alloc, Array.size_push]; omega) _)))) hb4); have HF1 := Lib.hid (Blk.next (show Blk w3 (w.heap.size + 1) 26 #[.int .i64 st, .slice A' n' c'] from (by (repeat' first | (with_reducible exact Hid.out (by assumption)) | (with_reducible refine blk_drew ?_) | (with_reducible exact Blk.new _ _ _) | (with_reducible refine Blk.alloc ?_ _) | (with_reducible refine Blk.far ?_ (by simp only [World.alloc, Array.size_push]; omega) _)))) hb4); have hz4 := HF1.out.lt; have hzb4 := hb4.size; (try (have R1 := Lib.hid (BQ1.out.next hb4); have R1c0 := R1.out.cell 0; have R1c1 := R1.out.cell 1; have R1f0 := R1.out.frozen 0; have R1f1 := R1.out.frozen 1; have R1l := R1.out.lt; have R1n : w2.heap.size ≠ w4.heap.size := (by omega); have R1m : w4.heap.size ≠ w2.heap.size := (by omega))); (try (have R2 := Lib.hid (BQ2.out.next hb4); have R2c0 := R2.out.cell 0; have R2c1 := R2.out.cell 1; have R2f0 := R2.out.frozen 0; have R2f1 := R2.out.frozen 1; have R2l := R2.out.lt))))
      | (go_at_call 35; ((with_reducible refine (TB.out (w3.alloc (.cells #[.int .i64 0, .slice none 0 0] 57))).mono ?_); rintro e w4 ⟨rfl, hb4⟩; have HF0 := Lib.hid (Blk.next (show Blk (w3.alloc (.cells #[.int .i64 0, .slice none 0 0] 57)) w.heap.size 26 #[.int .i64 st, .slice A n c] from (by (repeat' first | (with_reducible exact Hid.out (by assumption)) | (with_reducible refine blk_drew ?_) | (with_reducible exact Blk.new _ _ _) | (with_reducible refine Blk.alloc ?_ _) | (with_reducible refine Blk.far ?_ (by simp only [World.alloc, Array.size_push]; omega) _)))) hb4); have HF1 := Lib.hid (Blk.next (show Blk (w3.alloc (.cells #[.int .i64 0, .slice none 0 0] 57)) (w.heap.size + 1) 26 #[.int .i64 st, .slice A' n' c'] from (by (repeat' first | (with_reducible exact Hid.out (by assumption)) | (with_reducible refine blk_drew ?_) | (with_reducible exact Blk.new _ _ _) | (with_reducible refine Blk.alloc ?_ _) | (with_reducible refine Blk.far ?_ (by simp only [World.alloc, Array.size_push]; omega) _)))) hb4); have hz4 := HF1.out.lt; have hzb4 := hb4.size; (try (have R1 := Lib.hid ((BQ1.out.alloc (.cells #[.int .i64 0, .slice none 0 0] 57)).next hb4); have R1c0 := R1.out.cell 0; have R1c1 := R1.out.cell 1; have R1f0 := R1.out.frozen 0; have R1f1 := R1.out.frozen 1; have R1l := R1.out.lt; have R1n : w2.heap.size ≠ w4.heap.size := (by omega); have R1m : w4.heap.size ≠ w2.heap.size := (by omega))); have R3 := Lib.hid ((Blk.new w3 57 #[.int .i64 0, .slice none 0 0]).next hb4); have R3c0 := R3.out.cell 0; have R3c1 := R3.out.cell 1; have R3f0 := R3.out.frozen 0; have R3f1 := R3.out.frozen 1; have R3l := R3.out.lt; have R3n : w3.heap.size ≠ w4.heap.size := (by omega); have R3m : w4.heap.size ≠ w3.heap.size := (by omega)))
      | (go_at_call 35; ((with_reducible refine (TB.out ((w3.alloc (.cells #[.int .i64 0, .slice none 0 0] 57)).alloc (.cells #[.int .i64 0, .slice none 0 0] 57))).mono ?_); rintro e w4 ⟨rfl, hb4⟩; have HF0 := Lib.hid (Blk.next (show Blk ((w3.alloc (.cells #[.int .i64 0, .slice none 0 0] 57)).alloc (.cells #[.int .i64 0, .slice none 0 0] 57)) w.heap.size 26 #[.int .i64 st, .slice A n c] from (by (repeat' first | (with_reducible exact Hid.out (by assumption)) | (with_reducible refine blk_drew ?_) | (with_reducible exact Blk.new _ _ _) | (with_reducible refine Blk.alloc ?_ _) | (with_reducible refine Blk.far ?_ (by simp only [World.alloc, Array.size_push]; omega) _)))) hb4); have HF1 := Lib.hid (Blk.next (show Blk ((w3.alloc (.cells #[.int .i64 0, .slice none 0 0] 57)).alloc (.cells #[.int .i64 0, .slice none 0 0] 57)) (w.heap.size + 1) 26 #[.int .i64 st, .slice A' n' c'] from (by (repeat' first | (with_reducible exact Hid.out (by assumption)) | (with_reducible refine blk_drew ?_) | (with_reducible exact Blk.new _ _ _) | (with_reducible refine Blk.alloc ?_ _) | (with_reducible refine Blk.far ?_ (by simp only [World.alloc, Array.size_push]; omega) _)))) hb4); have hz4 := HF1.out.lt; have hzb4 := hb4.size; have R3 := Lib.hid (((Blk.new w3 57 #[.int .i64 0, .slice none 0 0]).alloc (.cells #[.int .i64 0, .slice none 0 0] 57)).next hb4); have R3c0 := R3.out.cell 0; have R3c1 := R3.out.cell 1; have R3f0 := R3.out.frozen 0; have R3f1 := R3.out.frozen 1; have R3l := R3.out.lt; have R3n : w3.heap.size ≠ w4.heap.size := (by omega); have R3m : w4.heap.size ≠ w3.heap.size := (by omega); have R4 := Lib.hid ((blk_two w3 (.cells #[.int .i64 0, .slice none 0 0] 57) 57 #[.int .i64 0, .slice none 0 0]).next hb4); have R4c0 := R4.out.cell 0; have R4c1 := R4.out.cell 1; have R4f0 := R4.out.frozen 0; have R4f1 := R4.out.frozen 1; have R4l := R4.out.lt)))
    all_goals
      go_wp2_with fail
      go_meet
      case rel =>
        refine ⟨_, _, rfl, rfl, ?_, ?_, ?_⟩
        · repeat' first | (with_reducible exact Hid.out (by assumption)) | (with_reducible exact blk_new_at _ _ _ (by simp)) | (with_reducible refine blk_set2 ?_) | (with_reducible refine Blk.alloc ?_ _) | (with_reducible refine Blk.far ?_ (by simp only []; omega) _) | (with_reducible refine blk_drew ?_)
        · repeat' first | (with_reducible exact Hid.out (by assumption)) | (with_reducible exact blk_new_at _ _ _ (by simp)) | (with_reducible refine blk_set2 ?_) | (with_reducible refine Blk.alloc ?_ _) | (with_reducible refine Blk.far ?_ (by simp only []; omega) _) | (with_reducible refine blk_drew ?_)
        · repeat' first | (with_reducible exact Hid.out (by assumption)) | (with_reducible refine below_al ?_ _) | (with_reducible refine below_set ?_ _ (by simp only []; omega)) | (with_reducible refine below_dr ?_) | (with_reducible refine bt ?_ hb4) | (with_reducible refine bt ?_ hb3)
  case rest =>
    obtain ⟨g5, g6, rfl, rfl, hG, hM, hb⟩ := hcut
    have PK := Lib.hid (pick45_any st A A' n c n' c' ms ms' st g5 g6 wc (H.out.next hb) hn1 hnb (H'.out.next hb) hn1' hnb' hs8 hG hM)
    have c5 := hG.cell 0
    have Hb := Lib.hid hb
    clear hG hM hb
    go_wp2_with (first
      | (go_at_call 36; ((with_reducible refine PK.out.mono ?_); rintro e w5 ⟨A5, n5, c5, rfl, hr5, hc5, hb5⟩; have hl5 := Lib.hid hr5.1; clear hr5))
      | fail)
    go_ret
    exact ⟨by rw [hl5.out]; rfl, bt Hb.out hb5⟩
end Go.Proofs.Ytecijlebfpbpaaa
