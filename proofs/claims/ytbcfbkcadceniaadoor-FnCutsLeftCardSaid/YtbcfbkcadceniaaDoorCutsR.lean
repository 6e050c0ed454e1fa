/- What is kept of a stream: the program's and the reference's. -/
import Derived.Test.YtbcfbkcadceniaaDoorCuts
import Derived.Test.YtbcfbkcadceniaaDoorReads2
namespace Go.Proofs.YtbcfbkcadceniaaDoor
set_option linter.unusedVariables false
set_option linter.unusedSimpArgs false
open Go.RowKit

/-- where the cut of a name is, or nowhere. -/
def CutPtr (cs : List Cut) (s : ByteArray) (A : Option Addr) (n : Nat) (w : World) (e : Ending) (w' : World) : Prop :=
  w = w' ∧ ((∃ (k b off : Nat), k < n ∧ A = some ⟨b, off, none⟩ ∧ e = .returned (.pointer (some ⟨b, off + k * 2, none⟩)) ∧ Hid (cutFrom cs s = (nx cs k).at_) ∧ Hid ((nx cs k).name = s)) ∨ (e = .returned (.pointer none) ∧ Hid (cutFrom cs s = 0)))
theorem cutPtr_at {cs : List Cut} {s : ByteArray} {n k b off : Nat} {w : World} (hk : k < n) (hf : cutFrom cs s = (nx cs k).at_) (hs : (nx cs k).name = s) : CutPtr cs s (some ⟨b, off, none⟩) n w (.returned (.pointer (some ⟨b, off + k * 2, none⟩))) w := by
  refine And.intro rfl (Or.inl ?_)
  exact ⟨k, b, off, hk, rfl, rfl, Lib.hid hf, Lib.hid hs⟩
theorem cutPtr_no {cs : List Cut} {s : ByteArray} {n : Nat} {A : Option Addr} {w : World} (hf : cutFrom cs s = 0) : CutPtr cs s A n w (.returned (.pointer none)) w := And.intro rfl (Or.inr ⟨rfl, Lib.hid hf⟩)
set_option maxRecDepth 100000 in
set_option maxHeartbeats 2000000 in
theorem cutOf_any (A : Option Addr) (n c : Nat) (cs : List Cut) (s : ByteArray) (w : World) (h : Row cutCells 2 w w.heap.size A n cs) (hnb : n ≤ 1000000) :
    Calls Tryd.prog 57 #[.slice A n c, .string s] w (CutPtr cs s A n w) := by
  have Hlen := Lib.hid h.1
  go_enter Tryd.func57, Tryd.ntmps57
  go_wp2_with fail
  go_loop [8] (fun i => ∃ k : Nat, k ≤ n ∧ i = .int .i64 k ∧ Hid (∀ j, j < k → (nx cs j).name ≠ s)) (fun i => n - (intOf i).toNat)
  case atStart => exact ⟨0, Nat.zero_le _, rfl, Lib.hid fun j hj => absurd hj (by omega)⟩
  case round =>
    obtain ⟨k, hk, rfl, Hall⟩ := hrel
    by_cases hlt : k < n
    · have hlt' : (k : Int) < (n : Int) := by omega
      obtain ⟨b, off, rfl, hb, hx⟩ := h.cut_at (by omega)
      obtain ⟨c0, -⟩ := hx k hlt
      obtain ⟨⟨name, at_⟩, he⟩ : ∃ e, nx cs k = e := ⟨_, rfl⟩
      rw [he] at c0
      simp only at c0
      have He := Lib.hid he
      clear hx he
      by_cases hn : name = s
      · subst hn
        have Hf := Lib.hid (cutFrom_at (l := cs) (s := name) k (by rw [Hlen.out]; exact hlt) (by rw [He.out]) Hall.out)
        go_wp2_with fail
        go_ret
        exact cutPtr_at hlt Hf.out (by rw [He.out])
      · have hn' : (name.toList == s.toList) = false := toList_ne hn
        have Hn := Lib.hid hn
        clear hn
        go_wp2_with fail
        go_round
        case rel => exact ⟨k + 1, by omega, by go_num, Lib.hid fun j hj => by
          rcases Nat.lt_succ_iff_lt_or_eq.1 hj with h' | rfl
          · exact Hall.out j h'
          · rw [He.out]; exact Hn.out⟩
        case measure => simp [intOf]; omega
    · obtain rfl : k = n := by omega
      have hlt' : ¬ (k : Int) < (k : Int) := by omega
      have Hf := Lib.hid (cutFrom_none (l := cs) (s := s) (fun j hj => Hall.out j (by rw [Hlen.out] at hj; exact hj)))
      go_wp2_with fail
      go_ret
      exact cutPtr_no Hf.out
set_option maxRecDepth 100000 in
set_option maxHeartbeats 2000000 in
theorem keptFrom_any (A : Option Addr) (n c : Nat) (cs : List Cut) (s : ByteArray) (w : World) (h : Row cutCells 2 w w.heap.size A n cs) (hnb : n ≤ 1000000) :
    Calls Tryd.prog 47 #[.slice A n c, .string s] w fun e w' => e = .returned (.int .i64 (cutFrom cs s)) ∧ w = w' := by
  have C := Lib.hid (cutOf_any A n c cs s w h hnb)
  go_enter Tryd.func47, Tryd.ntmps47
  go_wp2_with fail
  refine C.out.mono ?_
  rintro e w1 ⟨rfl, ⟨k, b, off, hk, rfl, rfl, Hf, Hs⟩ | ⟨rfl, Hf⟩⟩
  · have c1 := (h.cut_at2 k hk).2
    go_wp2_with fail
    go_ret
    exact ⟨ret_int Hf.out.symm, rfl⟩
  · go_wp2_with fail
    go_ret
    exact ⟨ret_int Hf.out.symm, rfl⟩
set_option maxRecDepth 100000 in
set_option maxHeartbeats 2000000 in
theorem l23From_any (A : Option Addr) (n c : Nat) (cs : List Cut) (s : ByteArray) (w : World) (h : Row cutCells 2 w w.heap.size A n cs) (hnb : n ≤ 1000000) :
    Calls Tryd.prog 49 #[.slice A n c, .string s] w fun e w' => e = .returned (.int .i64 (cutFrom cs s)) ∧ w = w' := by
  have Hlen := Lib.hid h.1
  go_enter Tryd.func49, Tryd.ntmps49
  go_wp2_with fail
  go_loop [5] (fun i => ∃ k : Nat, k ≤ n ∧ i = .int .i64 k ∧ Hid (∀ j, j < k → (nx cs j).name ≠ s)) (fun i => n - (intOf i).toNat)
  case atStart => exact ⟨0, Nat.zero_le _, rfl, Lib.hid fun j hj => absurd hj (by omega)⟩
  case round =>
    obtain ⟨k, hk, rfl, Hall⟩ := hrel
    by_cases hlt : k < n
    · have hlt' : (k : Int) < (n : Int) := by omega
      obtain ⟨b, off, rfl, hb, hx⟩ := h.cut_at (by omega)
      obtain ⟨c0, c1⟩ := hx k hlt
      obtain ⟨⟨name, at_⟩, he⟩ : ∃ e, nx cs k = e := ⟨_, rfl⟩
      rw [he] at c0 c1
      simp only at c0 c1
      have He := Lib.hid he
      clear hx he
      by_cases hn : name = s
      · subst hn
        have Hf := Lib.hid (cutFrom_at (l := cs) (s := name) k (by rw [Hlen.out]; exact hlt) (by rw [He.out]) Hall.out)
        go_wp2_with fail
        go_ret
        exact ⟨ret_int (by rw [Hf.out, He.out]), rfl⟩
      · have hn' : (name.toList == s.toList) = false := toList_ne hn
        have Hn := Lib.hid hn
        clear hn
        go_wp2_with fail
        go_round
        case rel => exact ⟨k + 1, by omega, by go_num, Lib.hid fun j hj => by
          rcases Nat.lt_succ_iff_lt_or_eq.1 hj with h' | rfl
          · exact Hall.out j h'
          · rw [He.out]; exact Hn.out⟩
        case measure => simp [intOf]; omega
    · obtain rfl : k = n := by omega
      have hlt' : ¬ (k : Int) < (k : Int) := by omega
      have Hf := Lib.hid (cutFrom_none (l := cs) (s := s) (fun j hj => Hall.out j (by rw [Hlen.out] at hj; exact hj)))
      go_wp2_with fail
      go_ret
      exact ⟨ret_int Hf.out.symm, rfl⟩
set_option maxRecDepth 100000 in
set_option maxHeartbeats 4000000 in
theorem cutsRead_any (A : Option Addr) (n c : Nat) (xs : List En) (B : Option Addr) (m d : Nat) (cs : List Cut) (s : ByteArray) (w : World) (h : Row enCells 4 w w.heap.size A n xs) (h' : Row cutCells 2 w w.heap.size B m cs) (hsm : SmallEns xs) (hsc : SmallCuts cs) (hs : s.size ≤ maxLen) (hnb : n ≤ 400000) (hmb : m ≤ 400000) (hg : GE w) :
    Calls Tryd.prog 22 #[.slice A n c, .slice B m d, .string s] w (EvsRet (cutsRead xs cs s) w) := by
  have L := (((Live.since (Below.refl w.heap.size w)).and (Live.ge hg)).and (Live.row h)).and (Live.row h')
  have V := Lib.hid (fun W H G => storeValid_any A n c xs W H hsm (by omega) G)
  have V2 := Lib.hid (fun W H G => cutsValid_any B m d cs W H hsc (by omega) G)
  have V3 := Lib.hid (fun W G => nameValid_any s W hs G)
  have SR := Lib.hid (fun W H G => storeRead_any A n c xs s (cutFrom cs s) 99 W H hsm hs (by omega) G)
  clear h h' hsm hsc hg
  cases h1 : storeOk xs with
  | false =>
    have Hr := Lib.hid (cutsRead_no (xs := xs) (l := cs) (s := s) (by rw [h1]; rfl))
    rw [h1] at V
    go_enter Tryd.func22, Tryd.ntmps22
    go_wp2_with (go_at_call 46; refine (V.out _ L.now.1.2 L.now.1.1.2).mono ?_; rintro e w1 ⟨rfl, hb1⟩)
    go_ret
    rw [Hr.out]
    exact evs_none w hb1
  | true =>
    rw [h1] at V
    cases h2 : cutsOk cs with
    | false =>
      have Hr := Lib.hid (cutsRead_no (xs := xs) (l := cs) (s := s) (by rw [h2]; simp))
      rw [h2] at V2
      go_enter Tryd.func22, Tryd.ntmps22
      go_wp2_with (first
        | (go_at_call 46; refine (V.out _ L.now.1.2 L.now.1.1.2).mono ?_; rintro e w1 ⟨rfl, hb1⟩; have L1 := L.next hb1)
        | (go_at_call 24; refine (V2.out _ L1.now.2 L1.now.1.1.2).mono ?_; rintro e w2 ⟨rfl, hb2⟩; have L2 := L1.next hb2))
      go_ret
      rw [Hr.out]
      exact evs_none w L2.now.1.1.1
    | true =>
      rw [h2] at V2
      cases h3 : nameOk s.data.toList with
      | false =>
        have Hr := Lib.hid (cutsRead_no (xs := xs) (l := cs) (s := s) (by rw [h3]; simp))
        rw [h3] at V3
        go_enter Tryd.func22, Tryd.ntmps22
        go_wp2_with (first
          | (go_at_call 46; refine (V.out _ L.now.1.2 L.now.1.1.2).mono ?_; rintro e w1 ⟨rfl, hb1⟩; have L1 := L.next hb1)
          | (go_at_call 24; refine (V2.out _ L1.now.2 L1.now.1.1.2).mono ?_; rintro e w2 ⟨rfl, hb2⟩; have L2 := L1.next hb2)
          | (go_at_call 53; refine (V3.out _ L2.now.1.1.2).mono ?_; rintro e w3 ⟨rfl, hb3⟩; have L3 := L2.next hb3))
        go_ret
        rw [Hr.out]
        exact evs_none w L3.now.1.1.1
      | true =>
        have Hr := Lib.hid (cutsRead_read h1 h2 h3)
        rw [h3] at V3
        have KF := Lib.hid (fun W H => keptFrom_any B m d cs s W H (by omega))
        obtain ⟨zs, hz⟩ : ∃ zs, storeRead xs s (cutFrom cs s) 99 = zs := ⟨_, rfl⟩
        rw [hz] at SR Hr
        obtain ⟨fr, hf⟩ : ∃ fr, cutFrom cs s = fr := ⟨_, rfl⟩
        rw [hf] at SR KF
        clear h1 h2 h3 hz hf
        go_enter Tryd.func22, Tryd.ntmps22
        go_wp2_with (first
          | (go_at_call 46; refine (V.out _ L.now.1.2 L.now.1.1.2).mono ?_; rintro e w1 ⟨rfl, hb1⟩; have L1 := L.next hb1)
          | (go_at_call 24; refine (V2.out _ L1.now.2 L1.now.1.1.2).mono ?_; rintro e w2 ⟨rfl, hb2⟩; have L2 := L1.next hb2)
          | (go_at_call 53; refine (V3.out _ L2.now.1.1.2).mono ?_; rintro e w3 ⟨rfl, hb3⟩; have L3 := L2.next hb3)
          | (go_at_call 47; refine (KF.out _ L3.now.2).mono ?_; rintro e w4 ⟨rfl, rfl⟩)
          | (go_at_call 33; go_must (refine (SR.out _ L3.now.1.2 L3.now.1.1.2).mono ?_; rintro e w5 ⟨A5, n5, c5, rfl, hr5, hc5, Hn5, hb5⟩)))
        go_ret
        rw [Hr.out]
        exact ⟨A5, n5, c5, rfl, hr5, hc5, Hn5, (L3.next hb5).now.1.1.1⟩
end Go.Proofs.YtbcfbkcadceniaaDoor
