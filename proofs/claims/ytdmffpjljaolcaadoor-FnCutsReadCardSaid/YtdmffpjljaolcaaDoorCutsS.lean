/- What is kept of a stream: the reference's. -/
import Derived.Test.YtdmffpjljaolcaaDoorCutsR
namespace Go.Proofs.YtdmffpjljaolcaaDoor
set_option linter.unusedVariables false
set_option linter.unusedSimpArgs false
open Go.RowKit

theorem drop_row {W : World} {A : Option Addr} {k c f lo : Nat} {st : List Ev} (H : Row evCells 3 W W.heap.size A k st) (hc : k ≤ c) (hk : st.length = k) (hlo : lo = min f k) : Row evCells 3 W W.heap.size (if c = lo then A else Option.map (fun x => x.add (lo * 3)) A) (k - lo) (st.drop f) := by
  have h1 := H.cut (cap := c) evCells_len lo k (by omega) (Nat.le_refl _) hc
  have e : (st.drop lo).take (k - lo) = st.drop f := by
    rw [List.take_of_length_le (by rw [List.length_drop, hk]; omega), hlo]
    by_cases hf : f ≤ k
    · rw [Nat.min_eq_left hf]
    · rw [Nat.min_eq_right (by omega), List.drop_eq_nil_of_le (by omega), List.drop_eq_nil_of_le (by omega)]
  rw [e] at h1
  exact h1
theorem drop_nil {A : Option Addr} {c lo : Nat} (h : A = none → c = 0) (e : (if c = lo then A else Option.map (fun x : Addr => x.add (lo * 3)) A) = none) : c - lo = 0 := by
  split at e
  · omega
  · rw [Option.map_eq_none_iff] at e
    have := h e
    omega
set_option maxRecDepth 100000 in
set_option maxHeartbeats 8000000 in
theorem cutsReadS_any (A : Option Addr) (n c : Nat) (xs : List En) (B : Option Addr) (m d : Nat) (cs : List Cut) (s : ByteArray) (w : World) (h : Row enCells 4 w w.heap.size A n xs) (h' : Row cutCells 2 w w.heap.size B m cs) (hsm : SmallEns xs) (hsc : SmallCuts cs) (hs : s.size ≤ maxLen) (hnb : n ≤ 400000) (hmb : m ≤ 400000) :
    Calls Tryd.prog 22 #[.slice A n c, .slice B m d, .string s] w (EvsRet (cutsRead xs cs s) w) := by
  have L := ((Live.since (Below.refl w.heap.size w)).and (Live.row h)).and (Live.row h')
  have V := Lib.hid (fun W H => storeValidS_any A n c xs W H hsm (by omega))
  have V2 := Lib.hid (fun W H => cutsValidS_any B m d cs W H hsc (by omega))
  have V3 := Lib.hid (fun W => nameValidS_any s W hs)
  have Hlx := Lib.hid h.1
  clear h h' hsm hsc
  cases h1 : storeOk xs with
  | false =>
    have Hr := Lib.hid (cutsRead_no (xs := xs) (l := cs) (s := s) (by rw [h1]; rfl))
    rw [h1] at V
    go_enter Tryd.func22, Tryd.ntmps22
    go_wp2_with (go_at_call 25; refine (V.out _ L.now.1.2).mono ?_; rintro e w1 ⟨rfl, hb1⟩)
    go_ret
    rw [Hr.out]
    exact evs_none w hb1
  | true =>
    rw [h1] at V
    cases h2 : cutsOk cs with
    | false =>
      have Hr := Lib.hid (cutsRead_no (xs := xs) (l := cs) (s := s) (by rw [h2]; simp))
      rw [h2] at V2
      go_enter Tryd.func22, Tryd.ntmps22
      go_wp2_with (first
        | (go_at_call 25; refine (V.out _ L.now.1.2).mono ?_; rintro e w1 ⟨rfl, hb1⟩; have L1 := L.next hb1)
        | (go_at_call 52; refine (V2.out _ L1.now.2).mono ?_; rintro e w2 ⟨rfl, hb2⟩; have L2 := L1.next hb2))
      go_ret
      rw [Hr.out]
      exact evs_none w L2.now.1.1
    | true =>
      rw [h2] at V2
      cases h3 : nameOk s.data.toList with
      | false =>
        have Hr := Lib.hid (cutsRead_no (xs := xs) (l := cs) (s := s) (by rw [h3]; simp))
        rw [h3] at V3
        go_enter Tryd.func22, Tryd.ntmps22
        go_wp2_with (first
          | (go_at_call 25; refine (V.out _ L.now.1.2).mono ?_; rintro e w1 ⟨rfl, hb1⟩; have L1 := L.next hb1)
          | (go_at_call 52; refine (V2.out _ L1.now.2).mono ?_; rintro e w2 ⟨rfl, hb2⟩; have L2 := L1.next hb2)
          | (go_at_call 26; refine (V3.out _).mono ?_; rintro e w3 ⟨rfl, hb3⟩; have L3 := L2.next hb3))
        go_ret
        rw [Hr.out]
        exact evs_none w L3.now.1.1
      | true =>
        have hr := cutsRead_yes (xs := xs) (l := cs) (s := s) h1 h2 h3
        have hfr := cutFrom_range h2 s
        rw [h3] at V3
        have KF := Lib.hid (fun W H => l23From_any B m d cs s W H (by omega))
        obtain ⟨f, hf⟩ : ∃ f : Nat, cutFrom cs s = (f : Int) := ⟨(cutFrom cs s).toNat, by omega⟩
        rw [hf] at KF hr hfr
        rw [Int.toNat_natCast] at hr
        have Hsl := Lib.hid (streamOf_len xs s)
        clear h1 h2 h3 hf
        obtain ⟨st, hst⟩ : ∃ st, streamOf xs s = st := ⟨_, rfl⟩
        have EV := Lib.hid (fun W H => l4Events_new A n c xs s W H (by omega))
        rw [hst] at EV hr Hsl
        have Hr := Lib.hid hr
        clear hst hr
        go_enter Tryd.func22, Tryd.ntmps22
        go_wp2_with (first
          | (go_at_call 25; refine (V.out _ L.now.1.2).mono ?_; rintro e w1 ⟨rfl, hb1⟩; have L1 := L.next hb1)
          | (go_at_call 52; refine (V2.out _ L1.now.2).mono ?_; rintro e w2 ⟨rfl, hb2⟩; have L2 := L1.next hb2)
          | (go_at_call 26; refine (V3.out _).mono ?_; rintro e w3 ⟨rfl, hb3⟩; have L3 := L2.next hb3)
          | (go_at_call 53; go_must (refine (EV.out _ L3.now.1.2).mono ?_; rintro e w4 ⟨A4, k, c4, rfl, hrow4, hnc4, Hnil4, Hnew4, hb4⟩; have L4 := (L3.next hb4).and (Live.row hrow4); have Hk := Lib.hid hrow4.1; have hk4 : k ≤ 400000 := (by rw [← hrow4.1]; have := Hsl.out; rw [Hlx.out] at this; omega); obtain ⟨lo, hlo⟩ : ∃ lo, lo = min f k := ⟨_, rfl⟩; have e1 : min (f : Int) (k : Int) = (lo : Int) := (by omega); have hlk : lo ≤ k := (by omega); obtain ⟨A5, hif, Hc5, Hn5⟩ : ∃ A5, (if c4 = lo then A4 else Option.map (fun x => x.add (lo * 3)) A4) = A5 ∧ Hid (∀ W, Row evCells 3 W W.heap.size A4 k st → Row evCells 3 W W.heap.size A5 (k - lo) (st.drop f)) ∧ Hid (A5 = none → c4 - lo = 0) := ⟨_, rfl, Lib.hid fun W H => drop_row H hnc4 Hk.out hlo, Lib.hid fun e => drop_nil Hnil4.out e⟩; have hlc : (lo : Int) ≤ (c4 : Int) := (by omega); have hlk' : (lo : Int) ≤ (k : Int) := (by omega); clear hlo hrow4 hb4))
          | (go_at_call 54; refine (KF.out _ (L4.next ((Below.refl w4.heap.size w4).alloc (Nat.le_refl _) (.cells #[] 29))).now.1.2).mono ?_; rintro e w5 ⟨rfl, rfl⟩)
          | (at_builtin; go_must (refine app_src elemEv _ rfl _ _ rfl w4.heap.size _ 0 [] rfl (World.ownsRow_lit (base := w4.heap.size) (e := 29) (size := 3) w4 #[] 0 (Nat.le_refl _) (Nat.zero_le _) rfl) A5 (k - lo) (c4 - lo) w4.heap.size ((st.drop f).flatMap evCells) rfl Hn5.out ((Hc5.out _ L4.now.2).2.below ((Below.refl _ _).alloc (Nat.le_refl _) _)) (evs_one _) ?_ ?_ ?_ ?_); omega; omega; (show w4.heap.size ≤ (w4.alloc _).heap.size; simp); intro v7 w7 own7 grow7 or7))
        rw [Nat.zero_add, List.nil_append] at own7
        have B7 : Below w4.heap.size w4 w7 := ((Below.refl _ _).alloc (Nat.le_refl _) (.cells #[] 29)).grown grow7 (by simp) (fun k hk => by injection hk with e; rw [← e]; exact Nat.le_refl _)
        go_ret
        rw [Hr.out]
        exact evs_ret (Hc5.out _ L4.now.2).1 own7 (L4.next B7).now.1.1.1
end Go.Proofs.YtdmffpjljaolcaaDoor
