/- The walk of laws.FnName. -/
import Derived.Test.YtecijlebfpbpaaaDoorDrawNo
import Derived.Test.YtecijlebfpbpaaaDoorNamesOf
import Derived.Test.YtecijlebfpbpaaaDoorSl
namespace Go.Proofs.YtecijlebfpbpaaaDoor
set_option linter.unusedVariables false
set_option linter.unusedSimpArgs false
open Go.RowKit

set_option maxRecDepth 100000 in
set_option maxHeartbeats 4000000 in
theorem law_FnName (A : Option Addr) (n c : Nat) (w : World) (h : Code w A n c) (hg : GE w) (ht : GT w) :
    Calls Tryd.prog 8 #[.slice A n c] w fun e w' => e = .returned (.bool true) ∧ Below w.heap.size w w' := by
  have hn := h.2.1
  unfold maxLen at hn
  by_cases hbig : (1048576 : Int) < n
  · go_enter Tryd.func8, Tryd.ntmps8
    go_wp2_with fail
    go_ret
    exact ⟨rfl, Below.refl _ _⟩
  have h1 := Lib.hid h
  clear h
  go_enter Tryd.func8, Tryd.ntmps8
  go_wp2_with fail
  refine (drawNameOf_any A n c _ h1.out).mono ?_
  rintro e w1 ⟨s, k, rfl, hs, hk1, hk2, hb1⟩
  have hs' := small60 hs
  have g1 := hg.below hb1
  have t1 := GT.below ht hb1
  have Hok := Lib.hid (fun (hc : wordOk s.data.toList = true) (h0 : 0 ≤ k) (h9 : k ≤ 999) => nameParts_of (c := s.data.toList) (n := k.toNat) hc (by omega))
  have Hof := Lib.hid (fun hh => (show nameOfS s.data.toList k = nameOf s.data.toList k.toNat from if_pos hh))
  have Hof0 := Lib.hid (fun hh => (show nameOfS s.data.toList k = [] from if_neg hh))
  obtain ⟨o, ho⟩ : ∃ o : ByteArray, (⟨(nameOfS s.data.toList k).toArray⟩ : ByteArray) = o := ⟨_, rfl⟩
  have Ho : Hid (o.data.toList = nameOfS s.data.toList k) := Lib.hid (by rw [← ho])
  have NP := Lib.hid (fun W T => nameOfP_any s k W hs' T)
  have NS := Lib.hid (fun W => nameOfS_any s k W hs')
  rw [ho] at NP NS
  have el : (o.toList == o.toList) = true := beq_self_eq_true _
  clear ho
  go_wp2_with fail
  refine (NP.out _ t1).mono ?_
  rintro e w2 ⟨rfl, hb2⟩
  have g2 := g1.below hb2
  go_wp2_with fail
  refine (NS.out _).mono ?_
  rintro e w3 ⟨rfl, hb3⟩
  have g3 := g2.below hb3
  by_cases hv : wordOk s.data.toList = true ∧ 0 ≤ k ∧ k ≤ 999
  · have hp := Hok.out hv.1 hv.2.1 hv.2.2
    rw [← Hof.out hv, ← Ho.out] at hp
    have hsz : o.size ≤ 10 := by
      have e1 := Ho.out
      rw [Hof.out hv] at e1
      have e2 := congrArg List.length e1
      rw [str_len] at e2
      have e3 := (wordOk_size hv.1).2
      have e4 := dec_len3 (n := k.toNat) (by omega)
      unfold nameOf at e2
      simp only [List.length_append, List.length_cons] at e2
      omega
    have hno : nameOk o.data.toList = true := by unfold nameOk; rw [hp]; rfl
    have hpc : pCat o.data.toList = s.data.toList := by unfold pCat; rw [hp]; rfl
    have hpn : ((pNum o.data.toList : Nat) : Int) = k := by
      have : pNum o.data.toList = k.toNat := by unfold pNum; rw [hp]; rfl
      rw [this]; omega
    have hne : o ≠ ⟨#[]⟩ := by
      intro e
      rw [e] at hno
      revert hno
      decide
    have e3 : ¬ o.toList = [] := fun e => hne (bytes_same (by rw [ByteArray.toList_eq] at e; rw [e]))
    have e2 : (o.toList == ([] : List UInt8)) = false := beq_eq_false_iff_ne.2 e3
    have PA := Lib.hid (fun W G => nameParts_any o W (by unfold maxLen; omega) G)
    have NV := Lib.hid (fun W G => nameValid_any o W (by unfold maxLen; omega) G)
    rw [hno] at NV
    have Hpc := Lib.hid hpc
    have Hpn := Lib.hid hpn
    have Hno := Lib.hid hno
    clear hp hsz hno hpc hpn hne hv Hok Hof Hof0
    go_wp2_with fail
    refine (PA.out _ g3).mono ?_
    rintro e w4 ⟨⟨u, rfl, hu⟩, hb4⟩
    have g4 := g3.below hb4
    rw [Hpc.out] at hu
    obtain rfl := bytes_same hu
    rw [Hpn.out, Hno.out]
    have eu : (u.toList == u.toList) = true := beq_self_eq_true _
    have ek : (k == k) = true := beq_self_eq_true _
    clear hu
    go_wp2_with (go_at_call 31; (with_reducible refine (NV.out _ g4).mono ?_); (rintro e w5 ⟨rfl, hb5⟩))
    go_ret
    exact ⟨rfl, bt (bt (bt (bt hb1 hb2) hb3) hb4) hb5⟩
  · have hnil : o = ⟨#[]⟩ := bytes_same (by rw [Ho.out, Hof0.out hv])
    subst hnil
    clear hv Hok Hof Hof0
    go_wp2_with fail
    go_ret
    exact ⟨by first | rfl | simp, bt (bt hb1 hb2) hb3⟩
end Go.Proofs.YtecijlebfpbpaaaDoor
