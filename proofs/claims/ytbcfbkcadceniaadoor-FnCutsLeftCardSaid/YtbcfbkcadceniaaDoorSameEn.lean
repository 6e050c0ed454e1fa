/- The laws' comparisons of entries and of events. -/
import Derived.Test.YtbcfbkcadceniaaDoorPiece
import Derived.Laws.StructEq
namespace Go.Proofs.YtbcfbkcadceniaaDoor
set_option linter.unusedVariables false
set_option linter.unusedSimpArgs false
open Go.RowKit

def sameL {α : Type} [DecidableEq α] (a b : List α) : Bool := decide (a = b)
theorem sameL_len {α : Type} [DecidableEq α] {a b : List α} (h : a.length ≠ b.length) : sameL a b = false := decide_eq_false (fun e => h (by rw [e]))
theorem sameL_at {α : Type} [DecidableEq α] {a b : List α} (k : Nat) (h : a[k]? ≠ b[k]?) : sameL a b = false := decide_eq_false (fun e => h (by rw [e]))
theorem sameL_yes {α : Type} [DecidableEq α] {a b : List α} (h : a.length = b.length) (h2 : ∀ k, k < a.length → a[k]? = b[k]?) : sameL a b = true := by
  refine decide_eq_true (List.ext_getElem? fun k => ?_)
  by_cases hk : k < a.length
  · exact h2 k hk
  · rw [List.getElem?_eq_none (by omega), List.getElem?_eq_none (by omega)]
theorem sameL_refl {α : Type} [DecidableEq α] (a : List α) : sameL a a = true := decide_eq_true rfl
theorem sameL_eq {α : Type} [DecidableEq α] {a b : List α} (h : sameL a b = true) : a = b := of_decide_eq_true h
/-- how an entry's cells stand for the walk: at whatever address. -/
def EnAt (w : World) (b o : Nat) (x : En) : Prop := w.cell? ⟨b, o, none⟩ = some (.string x.name) ∧ w.cell? ⟨b, o + 1, none⟩ = some (.int .i64 x.ev.id) ∧ w.cell? ⟨b, o + 2, none⟩ = some (.string x.ev.kind) ∧ w.cell? ⟨b, o + 3, none⟩ = some (.int .i64 x.ev.data)
def EvAt (w : World) (b o : Nat) (x : Ev) : Prop := w.cell? ⟨b, o, none⟩ = some (.int .i64 x.id) ∧ w.cell? ⟨b, o + 1, none⟩ = some (.string x.kind) ∧ w.cell? ⟨b, o + 2, none⟩ = some (.int .i64 x.data)
theorem Row.en_at {w : World} {B n : Nat} {A : Option Addr} {xs : List En} (h : Row enCells 4 w B A n xs) (hn : 0 < n) : ∃ b off, A = some ⟨b, off, none⟩ ∧ b < B ∧ ∀ k x, xs[k]? = some x → EnAt w b (off + k * 4) x := by
  obtain ⟨b, off, e, hb, hx⟩ := h.at_ enCells_len hn
  exact ⟨b, off, e, hb, fun k x hk => ⟨hx k x hk 0 _ rfl, hx k x hk 1 _ rfl, hx k x hk 2 _ rfl, hx k x hk 3 _ rfl⟩⟩
theorem Row.ev_at {w : World} {B n : Nat} {A : Option Addr} {xs : List Ev} (h : Row evCells 3 w B A n xs) (hn : 0 < n) : ∃ b off, A = some ⟨b, off, none⟩ ∧ b < B ∧ ∀ k x, xs[k]? = some x → EvAt w b (off + k * 3) x := by
  obtain ⟨b, off, e, hb, hx⟩ := h.at_ evCells_len hn
  exact ⟨b, off, e, hb, fun k x hk => ⟨hx k x hk 0 _ rfl, hx k x hk 1 _ rfl, hx k x hk 2 _ rfl⟩⟩
theorem EnAt.below {w w' : World} {B b o : Nat} {x : En} (h : EnAt w b o x) (hb : Below B w w') (hlt : b < B) : EnAt w' b o x :=
  ⟨(hb.cell (p := ⟨b, o, none⟩) hlt).trans h.1, (hb.cell (p := ⟨b, o + 1, none⟩) hlt).trans h.2.1, (hb.cell (p := ⟨b, o + 2, none⟩) hlt).trans h.2.2.1, (hb.cell (p := ⟨b, o + 3, none⟩) hlt).trans h.2.2.2⟩
theorem EvAt.below {w w' : World} {B b o : Nat} {x : Ev} (h : EvAt w b o x) (hb : Below B w w') (hlt : b < B) : EvAt w' b o x :=
  ⟨(hb.cell (p := ⟨b, o, none⟩) hlt).trans h.1, (hb.cell (p := ⟨b, o + 1, none⟩) hlt).trans h.2.1, (hb.cell (p := ⟨b, o + 2, none⟩) hlt).trans h.2.2⟩

set_option maxRecDepth 100000 in
set_option maxHeartbeats 8000000 in
theorem sameEntries_any (A B : Option Addr) (n c m d : Nat) (xs ys : List En) (w : World) (h : Row enCells 4 w w.heap.size A n xs) (h' : Row enCells 4 w w.heap.size B m ys) (hnb : n ≤ 1000000000) (hmb : m ≤ 1000000000) :
    Calls Tryd.prog 41 #[.slice A n c, .slice B m d] w fun e w' => e = .returned (.bool (sameL xs ys)) ∧ Below w.heap.size w w' := by
  have Hla := Lib.hid h.1
  have Hlb := Lib.hid h'.1
  by_cases hnm : n = m
  · subst hnm
    have e0 : (((n : Nat) : Int) != ((n : Nat) : Int)) = false := by simp
    go_enter Tryd.func41, Tryd.ntmps41
    go_wp2_with fail
    go_loopw [5] (fun i wr => ∃ k : Nat, k ≤ n ∧ i = .int .i64 k ∧ Below w.heap.size w wr ∧ Hid (∀ j, j < k → xs[j]? = ys[j]?)) (fun i _ => n - (intOf i).toNat)
    case atStart => exact ⟨0, Nat.zero_le _, rfl, Below.refl _ _, fun j hj => absurd hj (by omega)⟩
    case round =>
      obtain ⟨k, hk, rfl, hnx, Hall⟩ := hrel
      have Hnx := Lib.hid hnx
      by_cases hlt : k < n
      · have hlt' : (k : Int) < (n : Int) := by omega
        obtain ⟨b, off, rfl, hb, hx⟩ := h.en_at (by omega)
        obtain ⟨b', off', rfl, hb', hx'⟩ := h'.en_at (by omega)
        have hs : xs[k]? = some (nx xs k) := nx_get (by rw [Hla.out]; exact hlt)
        have ht : ys[k]? = some (nx ys k) := nx_get (by rw [Hlb.out]; exact hlt)
        obtain ⟨⟨n1, i1, k1, d1⟩, he1⟩ : ∃ e, nx xs k = e := ⟨_, rfl⟩
        obtain ⟨⟨n2, i2, k2, d2⟩, he2⟩ : ∃ e, nx ys k = e := ⟨_, rfl⟩
        rw [he1] at hs
        rw [he2] at ht
        obtain ⟨c0, c1, c2, c3⟩ := (hx k _ hs).below hnx hb
        obtain ⟨f0, f1, f2, f3⟩ := (hx' k _ ht).below hnx hb'
        have Hs := Lib.hid hs
        have Ht := Lib.hid ht
        have Hno := Lib.hid (fun (hne : (⟨n1, i1, k1, d1⟩ : En) ≠ ⟨n2, i2, k2, d2⟩) => sameL_at (a := xs) (b := ys) k (by rw [Hs.out, Ht.out]; exact fun e => hne (Option.some.inj e)))
        clear hs ht hx hx' h h' hnx he1 he2
        by_cases q1 : n1 = n2
        · subst q1
          by_cases q2 : i1 = i2
          · subst q2
            by_cases q3 : k1 = k2
            · subst q3
              by_cases q4 : d1 = d2
              · subst q4
                go_wp2_with fail
                go_quiet (fail)
                go_wp2_with fail
                go_roundw
                case rel => exact ⟨k + 1, by omega, by go_num, below_drew_n Hnx.out _, fun j hj => by
                  rcases Nat.lt_succ_iff_lt_or_eq.1 hj with h' | rfl
                  · exact Hall.out j h'
                  · rw [Hs.out, Ht.out]⟩
                case measure => simp [intOf]; omega
              · have Hr := Lib.hid (Hno.out (fun e => q4 (by injection e with _ e2; injection e2)))
                go_wp2_with fail
                go_quiet (fail)
                go_wp2_with fail
                go_ret
                exact ⟨ret_bool Hr.out.symm, below_drew_n Hnx.out _⟩
            · have Hr := Lib.hid (Hno.out (fun e => q3 (by injection e with _ e2; injection e2)))
              have q3' : ¬ k1.toList = k2.toList := fun e => q3 (bytes_same (by rwa [ByteArray.toList_eq, ByteArray.toList_eq] at e))
              clear q3
              go_wp2_with fail
              go_quiet (fail)
              go_wp2_with fail
              go_ret
              exact ⟨ret_bool Hr.out.symm, below_drew_n Hnx.out _⟩
          · have Hr := Lib.hid (Hno.out (fun e => q2 (by injection e with _ e2; injection e2)))
            go_wp2_with fail
            go_quiet (fail)
            go_wp2_with fail
            go_ret
            exact ⟨ret_bool Hr.out.symm, below_drew_n Hnx.out _⟩
        · have Hr := Lib.hid (Hno.out (fun e => q1 (by injection e)))
          have q1' : ¬ n1.toList = n2.toList := fun e => q1 (bytes_same (by rwa [ByteArray.toList_eq, ByteArray.toList_eq] at e))
          clear q1
          go_wp2_with fail
          go_quiet (fail)
          go_wp2_with fail
          go_ret
          exact ⟨ret_bool Hr.out.symm, below_drew_n Hnx.out _⟩
      · have Hr := Lib.hid (sameL_yes (a := xs) (b := ys) (by rw [Hla.out, Hlb.out]) (fun j hj => Hall.out j (by rw [Hla.out] at hj; omega)))
        have hlt' : ¬ (k : Int) < (n : Int) := by omega
        clear h h' hnx
        go_wp2_with fail
        go_ret
        exact ⟨ret_bool Hr.out.symm, Hnx.out⟩
  · have e0 : (((n : Nat) : Int) != ((m : Nat) : Int)) = true := by simp [bne, beq_eq_false_iff_ne]; omega
    have Hr := Lib.hid (sameL_len (a := xs) (b := ys) (by rw [Hla.out, Hlb.out]; exact hnm))
    clear hnm h h'
    go_enter Tryd.func41, Tryd.ntmps41
    go_wp2_with fail
    go_ret
    exact ⟨ret_bool Hr.out.symm, Below.refl _ _⟩
set_option maxRecDepth 100000 in
set_option maxHeartbeats 8000000 in
theorem sameEvents_any (A B : Option Addr) (n c m d : Nat) (xs ys : List Ev) (w : World) (h : Row evCells 3 w w.heap.size A n xs) (h' : Row evCells 3 w w.heap.size B m ys) (hnb : n ≤ 1000000000) (hmb : m ≤ 1000000000) :
    Calls Tryd.prog 21 #[.slice A n c, .slice B m d] w fun e w' => e = .returned (.bool (sameL xs ys)) ∧ Below w.heap.size w w' := by
  have Hla := Lib.hid h.1
  have Hlb := Lib.hid h'.1
  by_cases hnm : n = m
  · subst hnm
    have e0 : (((n : Nat) : Int) != ((n : Nat) : Int)) = false := by simp
    go_enter Tryd.func21, Tryd.ntmps21
    go_wp2_with fail
    go_loopw [5] (fun i wr => ∃ k : Nat, k ≤ n ∧ i = .int .i64 k ∧ Below w.heap.size w wr ∧ Hid (∀ j, j < k → xs[j]? = ys[j]?)) (fun i _ => n - (intOf i).toNat)
    case atStart => exact ⟨0, Nat.zero_le _, rfl, Below.refl _ _, fun j hj => absurd hj (by omega)⟩
    case round =>
      obtain ⟨k, hk, rfl, hnx, Hall⟩ := hrel
      have Hnx := Lib.hid hnx
      by_cases hlt : k < n
      · have hlt' : (k : Int) < (n : Int) := by omega
        obtain ⟨b, off, rfl, hb, hx⟩ := h.ev_at (by omega)
        obtain ⟨b', off', rfl, hb', hx'⟩ := h'.ev_at (by omega)
        have hs : xs[k]? = some (nx xs k) := nx_get (by rw [Hla.out]; exact hlt)
        have ht : ys[k]? = some (nx ys k) := nx_get (by rw [Hlb.out]; exact hlt)
        obtain ⟨⟨i1, k1, d1⟩, he1⟩ : ∃ e, nx xs k = e := ⟨_, rfl⟩
        obtain ⟨⟨i2, k2, d2⟩, he2⟩ : ∃ e, nx ys k = e := ⟨_, rfl⟩
        rw [he1] at hs
        rw [he2] at ht
        obtain ⟨c0, c1, c2⟩ := (hx k _ hs).below hnx hb
        obtain ⟨f0, f1, f2⟩ := (hx' k _ ht).below hnx hb'
        have Hs := Lib.hid hs
        have Ht := Lib.hid ht
        have Hno := Lib.hid (fun (hne : (⟨i1, k1, d1⟩ : Ev) ≠ ⟨i2, k2, d2⟩) => sameL_at (a := xs) (b := ys) k (by rw [Hs.out, Ht.out]; exact fun e => hne (Option.some.inj e)))
        clear hs ht hx hx' h h' hnx he1 he2
        by_cases q2 : i1 = i2
        · subst q2
          by_cases q3 : k1 = k2
          · subst q3
            by_cases q4 : d1 = d2
            · subst q4
              go_wp2_with fail
              go_quiet (fail)
              go_wp2_with fail
              go_roundw
              case rel => exact ⟨k + 1, by omega, by go_num, below_drew_n Hnx.out _, fun j hj => by
                rcases Nat.lt_succ_iff_lt_or_eq.1 hj with h' | rfl
                · exact Hall.out j h'
                · rw [Hs.out, Ht.out]⟩
              case measure => simp [intOf]; omega
            · have Hr := Lib.hid (Hno.out (fun e => q4 (by injection e)))
              go_wp2_with fail
              go_quiet (fail)
              go_wp2_with fail
              go_ret
              exact ⟨ret_bool Hr.out.symm, below_drew_n Hnx.out _⟩
          · have Hr := Lib.hid (Hno.out (fun e => q3 (by injection e)))
            have q3' : ¬ k1.toList = k2.toList := fun e => q3 (bytes_same (by rwa [ByteArray.toList_eq, ByteArray.toList_eq] at e))
            clear q3
            go_wp2_with fail
            go_quiet (fail)
            go_wp2_with fail
            go_ret
            exact ⟨ret_bool Hr.out.symm, below_drew_n Hnx.out _⟩
        · have Hr := Lib.hid (Hno.out (fun e => q2 (by injection e)))
          go_wp2_with fail
          go_quiet (fail)
          go_wp2_with fail
          go_ret
          exact ⟨ret_bool Hr.out.symm, below_drew_n Hnx.out _⟩
      · have Hr := Lib.hid (sameL_yes (a := xs) (b := ys) (by rw [Hla.out, Hlb.out]) (fun j hj => Hall.out j (by rw [Hla.out] at hj; omega)))
        have hlt' : ¬ (k : Int) < (n : Int) := by omega
        clear h h' hnx
        go_wp2_with fail
        go_ret
        exact ⟨ret_bool Hr.out.symm, Hnx.out⟩
  · have e0 : (((n : Nat) : Int) != ((m : Nat) : Int)) = true := by simp [bne, beq_eq_false_iff_ne]; omega
    have Hr := Lib.hid (sameL_len (a := xs) (b := ys) (by rw [Hla.out, Hlb.out]; exact hnm))
    clear hnm h h'
    go_enter Tryd.func21, Tryd.ntmps21
    go_wp2_with fail
    go_ret
    exact ⟨ret_bool Hr.out.symm, Below.refl _ _⟩
end Go.Proofs.YtbcfbkcadceniaaDoor
