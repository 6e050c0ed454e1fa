/- Events that stand in a stream from a number on: the program's and the reference's. -/
import Derived.Test.YtdmffpjljaolcaaDoorSameEn
import Derived.Test.YtdmffpjljaolcaaDoorPApp
namespace Go.Proofs.YtdmffpjljaolcaaDoor
set_option linter.unusedVariables false
set_option linter.unusedSimpArgs false
open Go.RowKit

set_option maxRecDepth 100000 in
set_option maxHeartbeats 8000000 in
theorem eqEvs_any (A B : Option Addr) (n c m d : Nat) (xs ys : List Ev) (w : World) (h : Row evCells 3 w w.heap.size A n xs) (h' : Row evCells 3 w w.heap.size B m ys) (hnb : n ≤ 1000000000) (hmb : m ≤ 1000000000) :
    Calls Tryd.prog 86 #[.slice A n c, .slice B m d] w fun e w' => e = .returned (.bool (sameL xs ys)) ∧ Below w.heap.size w w' := by
  have Hla := Lib.hid h.1
  have Hlb := Lib.hid h'.1
  by_cases hnm : n = m
  · subst hnm
    have e0 : (((n : Nat) : Int) != ((n : Nat) : Int)) = false := by simp
    go_enter Tryd.func86, Tryd.ntmps86
    go_wp2_with fail
    go_loopw [13] (fun i wr => ∃ k : Nat, k ≤ n ∧ i = .int .i64 k ∧ Below w.heap.size w wr ∧ Hid (∀ j, j < k → xs[j]? = ys[j]?)) (fun i _ => n - (intOf i).toNat)
    case atStart => exact ⟨0, Nat.zero_le _, rfl, Below.refl _ _, fun j hj => absurd hj (by omega)⟩
    case round =>
      obtain ⟨k, hk, rfl, hnx, Hall⟩ := hrel
      have Hnx := Lib.hid hnx
      by_cases hlt : k < n
      · have hlt' : (k : Int) < (n : Int) := by omega
        obtain ⟨b, off, rfl, hb, hx⟩ := h.ev_at (by omega)
        obtain ⟨b', off', rfl, hb', hx'⟩ := h'.ev_at (by omega)
        have hs : xs[k]? = some (nx xs k) := nx_get (by rw [Hla.out]; exact hlt)
        have ht : ys[k]? = some (nx ys k) := nx_get (by rw [Hlb.out]; exact hlt)
        obtain ⟨⟨i1, k1, d1⟩, he1⟩ : ∃ e, nx xs k = e := ⟨_, rfl⟩
        obtain ⟨⟨i2, k2, d2⟩, he2⟩ : ∃ e, nx ys k = e := ⟨_, rfl⟩
        rw [he1] at hs
        rw [he2] at ht
        obtain ⟨c0, c1, c2⟩ := (hx k _ hs).below hnx hb
        obtain ⟨f0, f1, f2⟩ := (hx' k _ ht).below hnx hb'
        have Hs := Lib.hid hs
        have Ht := Lib.hid ht
        have Hno := Lib.hid (fun (hne : (⟨i1, k1, d1⟩ : Ev) ≠ ⟨i2, k2, d2⟩) => sameL_at (a := xs) (b := ys) k (by rw [Hs.out, Ht.out]; exact fun e => hne (Option.some.inj e)))
        clear hs ht hx hx' h h' hnx he1 he2
        by_cases q2 : i1 = i2
        · subst q2
          by_cases q3 : k1 = k2
          · subst q3
            by_cases q4 : d1 = d2
            · subst q4
              go_wp2_with fail
              go_quiet (fail)
              go_wp2_with fail
              go_roundw
              case rel => exact ⟨k + 1, by omega, by go_num, below_drew_n Hnx.out _, fun j hj => by
                rcases Nat.lt_succ_iff_lt_or_eq.1 hj with h' | rfl
                · exact Hall.out j h'
                · rw [Hs.out, Ht.out]⟩
              case measure => simp [intOf]; omega
            · have Hr := Lib.hid (Hno.out (fun e => q4 (by injection e)))
              go_wp2_with fail
              go_quiet (fail)
              go_wp2_with fail
              go_ret
              exact ⟨ret_bool Hr.out.symm, below_drew_n Hnx.out _⟩
          · have Hr := Lib.hid (Hno.out (fun e => q3 (by injection e)))
            have q3' : ¬ k1.toList = k2.toList := fun e => q3 (bytes_same (by rwa [ByteArray.toList_eq, ByteArray.toList_eq] at e))
            clear q3
            go_wp2_with fail
            go_quiet (fail)
            go_wp2_with fail
            go_ret
            exact ⟨ret_bool Hr.out.symm, below_drew_n Hnx.out _⟩
        · have Hr := Lib.hid (Hno.out (fun e => q2 (by injection e)))
          go_wp2_with fail
          go_quiet (fail)
          go_wp2_with fail
          go_ret
          exact ⟨ret_bool Hr.out.symm, below_drew_n Hnx.out _⟩
      · have Hr := Lib.hid (sameL_yes (a := xs) (b := ys) (by rw [Hla.out, Hlb.out]) (fun j hj => Hall.out j (by rw [Hla.out] at hj; omega)))
        have hlt' : ¬ (k : Int) < (n : Int) := by omega
        clear h h' hnx
        go_wp2_with fail
        go_ret
        exact ⟨ret_bool Hr.out.symm, Hnx.out⟩
  · have e0 : (((n : Nat) : Int) != ((m : Nat) : Int)) = true := by simp [bne, beq_eq_false_iff_ne]; omega
    have Hr := Lib.hid (sameL_len (a := xs) (b := ys) (by rw [Hla.out, Hlb.out]; exact hnm))
    clear hnm h h'
    go_enter Tryd.func86, Tryd.ntmps86
    go_wp2_with fail
    go_ret
    exact ⟨ret_bool Hr.out.symm, Below.refl _ _⟩

set_option maxRecDepth 100000 in
set_option maxHeartbeats 2000000 in
theorem standAt_any (A : Option Addr) (n c : Nat) (all : List Ev) (a : Nat) (A' : Option Addr) (m d : Nat) (es : List Ev) (w : World) (h : Row evCells 3 w w.heap.size A n all) (h' : Row evCells 3 w w.heap.size A' m es) (hnc : n ≤ c) (hnb : n ≤ 1000000) (hmb : m ≤ 1000000) (ha : a ≤ 1000000) :
    Calls Tryd.prog 65 #[.slice A n c, .int .i64 a, .slice A' m d] w fun e w' => e = .returned (.bool (hereB all a es)) ∧ Below w.heap.size w w' := by
  have Hl := Lib.hid h.1
  have Hl' := Lib.hid h'.1
  by_cases hle : a + m ≤ n
  · have hc := h.cut (cap := c) evCells_len a (a + m) (by omega) hle hnc
    rw [show a + m - a = m by omega] at hc
    obtain ⟨A2, hif, Hc⟩ : ∃ A2, (if c = a then A else Option.map (fun x => x.add (a * 3)) A) = A2 ∧ Hid (Row evCells 3 w w.heap.size A2 m ((all.drop a).take m)) := ⟨_, rfl, Lib.hid hc⟩
    have Hr := Lib.hid (show hereB all a es = sameL ((all.drop a).take m) es by unfold hereB sameL; rw [Hl'.out, decide_eq_true (by rw [Hl.out]; exact hle)]; rfl)
    have EQ := Lib.hid (eqEvs_any A2 A' m (c - a) m d _ es w Hc.out h' (by omega) (by omega))
    have q1 : (a : Int) + (m : Int) ≤ (n : Int) := by omega
    have q2 : (a : Int) + (m : Int) ≤ (c : Int) := by omega
    have q3 : ((a : Int) + (m : Int)).toNat - a = m := by omega
    have q4 : (a : Int) ≤ (a : Int) + (m : Int) := by omega
    have q5 : (0 : Int) ≤ (a : Int) + (m : Int) := by omega
    clear h h' hc
    go_enter Tryd.func65, Tryd.ntmps65
    go_wp2_with (go_at_call 86; refine EQ.out.mono ?_; rintro e w1 ⟨rfl, hb1⟩)
    go_ret
    exact ⟨ret_bool Hr.out.symm, hb1⟩
  · have Hr := Lib.hid (hereB_long (all := all) (i := a) (es := es) (by rw [Hl.out, Hl'.out]; exact hle))
    have q1 : ¬ (a : Int) + (m : Int) ≤ (n : Int) := by omega
    have q2 : decide ((a : Int) + (m : Int) ≤ (n : Int)) = false := decide_eq_false q1
    clear h h' hle
    go_enter Tryd.func65, Tryd.ntmps65
    go_wp2_with fail
    go_ret
    exact ⟨ret_bool Hr.out.symm, Below.refl _ _⟩

set_option maxRecDepth 100000 in
set_option maxHeartbeats 8000000 in
theorem l5Here_any (A : Option Addr) (n c : Nat) (all : List Ev) (a : Nat) (A' : Option Addr) (m d : Nat) (es : List Ev) (w : World) (h : Row evCells 3 w w.heap.size A n all) (h' : Row evCells 3 w w.heap.size A' m es) (hnb : n ≤ 1000000) (hmb : m ≤ 1000000) (ha : a ≤ 1000000) :
    Calls Tryd.prog 70 #[.slice A n c, .int .i64 a, .slice A' m d] w fun e w' => e = .returned (.bool (hereB all a es)) ∧ Below w.heap.size w w' := by
  have Hl := Lib.hid h.1
  have Hl' := Lib.hid h'.1
  by_cases hle : a + m ≤ n
  · have q1 : ¬ (n : Int) < (a : Int) + (m : Int) := by omega
    go_enter Tryd.func70, Tryd.ntmps70
    go_wp2_with fail
    go_loopw [7] (fun i wr => ∃ k : Nat, k ≤ m ∧ i = .int .i64 k ∧ Below w.heap.size w wr ∧ Hid (∀ j, j < k → nx all (a + j) = nx es j)) (fun i _ => m - (intOf i).toNat)
    case atStart => exact ⟨0, Nat.zero_le _, rfl, Below.refl _ _, Lib.hid fun j hj => absurd hj (by omega)⟩
    case round =>
      obtain ⟨k, hk, rfl, hnx, Hall⟩ := hrel
      have Hnx := Lib.hid hnx
      by_cases hlt : k < m
      · have hlt' : (k : Int) < (m : Int) := by omega
        obtain ⟨b, off, rfl, hb, hx⟩ := h.ev_at (by omega)
        obtain ⟨b', off', rfl, hb', hx'⟩ := h'.ev_at (by omega)
        have hs : all[a + k]? = some (nx all (a + k)) := nx_get (by rw [Hl.out]; omega)
        have ht : es[k]? = some (nx es k) := nx_get (by rw [Hl'.out]; exact hlt)
        obtain ⟨⟨i1, k1, d1⟩, he1⟩ : ∃ e, nx all (a + k) = e := ⟨_, rfl⟩
        obtain ⟨⟨i2, k2, d2⟩, he2⟩ : ∃ e, nx es k = e := ⟨_, rfl⟩
        have Hno := Lib.hid (fun (hne : (⟨i1, k1, d1⟩ : Ev) ≠ ⟨i2, k2, d2⟩) => hereB_at (all := all) (i := a) (es := es) k (by rw [Hl'.out]; exact hlt) (by rw [he1, he2]; exact hne))
        have Heq := Lib.hid (And.intro he1 he2)
        rw [he1] at hs
        rw [he2] at ht
        obtain ⟨c0, c1, c2⟩ := (hx (a + k) _ hs).below hnx hb
        obtain ⟨f0, f1, f2⟩ := (hx' k _ ht).below hnx hb'
        have t1 : (a : Int) + (k : Int) = ((a + k : Nat) : Int) := by omega
        have t2 : ((a : Int) + (k : Int)).toNat = a + k := by omega
        have t3 : (a : Int) + (k : Int) < (n : Int) := by omega
        have t4 : (0 : Int) ≤ (a : Int) + (k : Int) := by omega
        clear hs ht hx hx' h h' hnx he1 he2 t1
        by_cases q2 : i1 = i2
        · subst q2
          by_cases q3 : k1 = k2
          · subst q3
            by_cases q4 : d1 = d2
            · subst q4
              go_wp2_with fail
              go_quiet (fail)
              go_wp2_with fail
              go_roundw
              case rel => exact ⟨k + 1, by omega, by go_num, below_drew_n Hnx.out _, fun j hj => by
                rcases Nat.lt_succ_iff_lt_or_eq.1 hj with h' | rfl
                · exact Hall.out j h'
                · rw [Heq.out.1, Heq.out.2]⟩
              case measure => simp [intOf]; omega
            · have Hr := Lib.hid (Hno.out (fun e => q4 (by injection e)))
              go_wp2_with fail
              go_quiet (fail)
              go_wp2_with fail
              go_ret
              exact ⟨ret_bool Hr.out.symm, below_drew_n Hnx.out _⟩
          · have Hr := Lib.hid (Hno.out (fun e => q3 (by injection e)))
            have q3' : ¬ k1.toList = k2.toList := fun e => q3 (bytes_same (by rwa [ByteArray.toList_eq, ByteArray.toList_eq] at e))
            clear q3
            go_wp2_with fail
            go_quiet (fail)
            go_wp2_with fail
            go_ret
            exact ⟨ret_bool Hr.out.symm, below_drew_n Hnx.out _⟩
        · have Hr := Lib.hid (Hno.out (fun e => q2 (by injection e)))
          go_wp2_with fail
          go_quiet (fail)
          go_wp2_with fail
          go_ret
          exact ⟨ret_bool Hr.out.symm, below_drew_n Hnx.out _⟩
      · have Hr := Lib.hid (hereB_yes (all := all) (i := a) (es := es) (by rw [Hl.out, Hl'.out]; exact hle) (fun j hj => Hall.out j (by rw [Hl'.out] at hj; omega)))
        have hlt' : ¬ (k : Int) < (m : Int) := by omega
        clear h h' hnx
        go_wp2_with fail
        go_ret
        exact ⟨ret_bool Hr.out.symm, Hnx.out⟩
  · have Hr := Lib.hid (hereB_long (all := all) (i := a) (es := es) (by rw [Hl.out, Hl'.out]; exact hle))
    have q1 : (n : Int) < (a : Int) + (m : Int) := by omega
    clear h h' hle
    go_enter Tryd.func70, Tryd.ntmps70
    go_wp2_with fail
    go_ret
    exact ⟨ret_bool Hr.out.symm, Below.refl _ _⟩
end Go.Proofs.YtdmffpjljaolcaaDoor
