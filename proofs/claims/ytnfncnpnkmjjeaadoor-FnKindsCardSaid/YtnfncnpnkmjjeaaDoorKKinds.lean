/- The rows of a store: the program's. -/
import Derived.Test.YtnfncnpnkmjjeaaDoorKBehind
import Derived.Test.YtnfncnpnkmjjeaaDoorStAll
import Derived.Test.YtnfncnpnkmjjeaaDoorSameEn
namespace Go.Proofs.YtnfncnpnkmjjeaaDoor
set_option linter.unusedVariables false
set_option linter.unusedSimpArgs false
open Go.RowKit

def KindsRet (ks : List KRow) (w : World) (e : Ending) (w' : World) : Prop :=
  ∃ (A : Option Addr) (n c : Nat), e = .returned (.slice A n c) ∧ Kinds w' A n ks ∧ n ≤ c ∧ Hid (A = none → c = 0) ∧ Below w.heap.size w w'
theorem kinds_nil {w W : World} (hb : Below w.heap.size w W) : KindsRet [] w (.returned (.slice (some ⟨W.heap.size, 0, none⟩) 0 0)) (W.alloc (.cells #[] 40)) :=
  ⟨_, 0, 0, rfl, Kinds.nil _ _, Nat.le_refl _, Lib.hid (fun e => by cases e), hb.alloc hb.size _⟩
theorem len_sum {l : List KRow} {x : KRow} (h : x ∈ l) : x.ats.length ≤ sumL l := by
  induction l with
  | nil => cases h
  | cons y l ih =>
    have e : sumL (y :: l) = y.ats.length + sumL l := by simp [sumL]
    rcases List.mem_cons.1 h with rfl | h
    · omega
    · have := ih h; omega
/-- a tree's rows behind none. -/
theorem kinds_end {t : RT} {w W W' : World} {base : Nat} {e : Ending} (hT : t.At W base) (hb : Below w.heap.size w W)
    (h : BehindRet t [] (.slice (some ⟨W.heap.size, 0, none⟩) 0 0) 0 W.heap.size (W.alloc (.cells #[] 40)) e W') : KindsRet t.rows w e W' := by
  obtain ⟨v, rfl, ho, hk, _⟩ := h
  have hbal : Below W.heap.size W (W.alloc (.cells #[] 40)) := (Below.refl _ _).alloc (Nat.le_refl _) _
  have hT1 : t.At (W.alloc (.cells #[] 40)) base := hT.kept (S := fun _ => False) (Kept.of_below hbal) (fun _ _ k => k)
  have hT2 := hT1.kept hk (fun g hg e => by
    have h1 : some W.heap.size = some g := e
    have h2 := (RT.fp_lt hT g hg).2
    have h3 := Option.some.inj h1
    omega)
  have hb2 : Below W.heap.size W W' := hbal.trans (hk.below (fun i hi => by
    have h1 : some W.heap.size = some i := hi
    have := Option.some.inj h1
    omega) hbal.size)
  rw [Nat.zero_add, List.nil_append] at ho
  obtain ⟨A, c, rfl, h1, h2, h3, _⟩ := Row.of_own ho rfl
  exact ⟨A, t.rvs.length, c, rfl, ⟨t.rvs, h3, hT2.two⟩, h1, Lib.hid h2, bt hb hb2⟩
theorem behind_end (t : RT) (base : Nat) (w W : World) (hT : t.At W base) (hb : Below w.heap.size w W) (hn : t.rvs.length ≤ 1000000) :
    Calls Tryd.prog 37 #[t.ptr, .slice (some ⟨W.heap.size, 0, none⟩) 0 0] (W.alloc (.cells #[] 40)) (KindsRet t.rows w) := by
  have hbal : Below W.heap.size W (W.alloc (.cells #[] 40)) := (Below.refl _ _).alloc (Nat.le_refl _) _
  have hT1 : t.At (W.alloc (.cells #[] 40)) base := hT.kept (S := fun _ => False) (Kept.of_below hbal) (fun _ _ k => k)
  refine (behind_any t [] (.slice (some ⟨W.heap.size, 0, none⟩) 0 0) 0 W.heap.size base _ hT1 ?_ ?_ hbal.size (by omega)).mono fun e W' h => kinds_end hT hb h
  · exact World.ownsRow_lit W #[] 0 (Nat.le_refl _) (Nat.zero_le _) rfl
  · intro g hg k
    have h1 : some W.heap.size = some g := hg
    have h2 := (RT.fp_lt hT g k).2
    have h3 := Option.some.inj h1
    omega
/-- a tree that is the call's own, holding rows. -/
def Grown (w : World) (v : Value) (ks : List KRow) (W : World) : Prop := ∃ t : RT, v = t.ptr ∧ t.At W w.heap.size ∧ t.fp.Nodup ∧ t.rows = ks ∧ Below w.heap.size w W
theorem Grown.next {w W W' : World} {v : Value} {ks : List KRow} (h : Grown w v ks W) (hb : Below W.heap.size W W') : Grown w v ks W' := by
  obtain ⟨t, h1, h2, h3, h4, h5⟩ := h
  exact ⟨t, h1, h2.kept (S := fun _ => False) (Kept.of_below hb) (fun _ _ k => k), h3, h4, bt h5 hb⟩
theorem Grown.is {w W : World} {v : Value} {ks : List KRow} (h : Grown w v ks W) : ∃ o, v = .pointer o := by
  obtain ⟨t, h1, _⟩ := h
  rw [h1]; exact RT.ptr_is t
theorem grown_with {w W : World} {v : Value} {ks : List KRow} {key : ByteArray} {p : Nat} (h : Grown w v ks W) (hs : SortedK ks) (hsm : ∀ x ∈ ks, x.ats.length ≤ 1000000) :
    Calls Tryd.prog 36 #[v, .string key, .int .i64 (p : Int)] W fun e W' => ∃ v', e = .returned v' ∧ Grown w v' (putK ks ⟨key, [p]⟩) W' := by
  obtain ⟨t, rfl, h2, h3, rfl, h5⟩ := h
  refine (with_any t key p w.heap.size W h2 h5.size h3 hs hsm).mono ?_
  rintro e W' ⟨t', rfl, q1, q2, _, q4, q5⟩
  exact ⟨_, rfl, t', rfl, q1, q2, q4, h5.trans (q5.below (fun i hi => (RT.fp_lt h2 i hi).1) h5.size)⟩
theorem grown_end {w W : World} {v : Value} {ks : List KRow} (h : Grown w v ks W) (hn : ks.length ≤ 1000000) :
    Calls Tryd.prog 37 #[v, .slice (some ⟨W.heap.size, 0, none⟩) 0 0] (W.alloc (.cells #[] 40)) (KindsRet ks w) := by
  obtain ⟨t, rfl, h2, h3, rfl, h5⟩ := h
  exact behind_end t w.heap.size w W h2 h5 (by rw [RT.fp_len]; exact hn)
set_option maxRecDepth 100000 in
set_option maxHeartbeats 8000000 in
theorem indexKinds_any (A : Option Addr) (n c : Nat) (xs : List En) (w : World) (h : Row enCells 4 w w.heap.size A n xs) (hsm : SmallEns xs) (hnb : n ≤ 400000) (hg : GE w) :
    Calls Tryd.prog 13 #[.slice A n c] w (KindsRet (kindsOf xs) w) := by
  have Hl := Lib.hid h.1
  have SV := Lib.hid (storeValid_any A n c xs w h hsm (by omega) hg)
  have Hrow := Lib.hid h
  clear h hsm hg
  cases hok : storeOk xs with
  | false =>
    rw [hok] at SV
    have Hr := Lib.hid (kindsOf_no hok)
    go_enter Tryd.func13, Tryd.ntmps13
    go_wp2_with (go_at_call 35; (with_reducible refine SV.out.mono ?_); (rintro e w1 ⟨rfl, hb1⟩))
    go_ret
    rw [Hr.out]
    exact kinds_nil hb1
  | true =>
    rw [hok] at SV
    have Hr := Lib.hid (kindsOf_yes hok)
    have h24 : xs.length ≤ 24 := by unfold storeOk at hok; rw [Bool.and_eq_true, decide_eq_true_eq] at hok; exact hok.1
    rw [Hl.out] at h24 Hr
    clear hok
    go_enter Tryd.func13, Tryd.ntmps13
    go_wp2_with (go_at_call 35; (with_reducible refine SV.out.mono ?_); (rintro e w1 ⟨rfl, hb1⟩))
    go_loopw [3, 12] (fun v i wr => ∃ k : Nat, k ≤ n ∧ i = .int .i64 (k : Int) ∧ Hid (Grown w v (kindsTo xs k) wr)) (fun _ i _ => n - (intOf i).toNat)
    case atStart => exact ⟨0, Nat.zero_le _, rfl, Lib.hid ⟨.leaf, rfl, trivial, List.nodup_nil, rfl, hb1⟩⟩
    case round =>
      obtain ⟨k, hk, rfl, HG⟩ := hrel
      have hlen := kindsTo_len xs k
      obtain ⟨o, rfl⟩ := HG.out.is
      by_cases hlt : k < n
      · have hlt' : (k : Int) < (n : Int) := by omega
        obtain ⟨t0, -, -, -, -, hbr⟩ := HG.out
        obtain ⟨b, off, rfl, hb, hx⟩ := (Hrow.out.below hbr).en_at (by omega)
        obtain ⟨c0, c1, c2, c3⟩ := hx k _ (nx_get (by rw [Hl.out]; exact hlt))
        have Hs := Lib.hid (show ∀ x ∈ kindsTo xs k, x.ats.length ≤ 1000000 from fun x hx => by have := len_sum hx; rw [kindsTo_sum] at this; omega)
        have Hstep := Lib.hid (show putK (kindsTo xs k) ⟨(nx xs k).ev.kind, [k]⟩ = kindsTo xs (k + 1) from rfl)
        obtain ⟨⟨name, id, kind, data⟩, he⟩ : ∃ e, nx xs k = e := ⟨_, rfl⟩
        rw [he] at c0 c1 c2 c3 Hstep
        simp only at c0 c1 c2 c3
        have hbz := Lib.hid (show b < wr.heap.size from Nat.lt_of_lt_of_le hb hbr.size)
        have GW := Lib.hid (grown_with (key := kind) (p := k) (HG.out.next ((Below.refl _ _).alloc (Nat.le_refl _) (.cells #[.string name, .int .i64 id, .string kind, .int .i64 data] 44))) (kindsTo_sorted xs k) Hs.out)
        clear hx he hlen hbr
        go_wp2_with (go_at_call 36; (with_reducible refine GW.out.mono ?_); (rintro e w2 ⟨v', rfl, hG2⟩; have HG2 := Lib.hid hG2; obtain ⟨o', rfl⟩ := hG2.is; clear hG2))
        go_roundw
        case rel => exact ⟨k + 1, by omega, by go_num, by rw [← Hstep.out]; exact HG2⟩
        case measure => simp [intOf]; omega
      · obtain rfl : k = n := by omega
        have hlt' : ¬ (k : Int) < (k : Int) := by omega
        have GE_ := Lib.hid (grown_end HG.out (by omega))
        go_wp2_with (go_at_call 37; (with_reducible refine GE_.out.mono ?_); (rintro e w2 ⟨A2, n2, c2, rfl, hk2, hc2, hn2, hb2⟩; have HK2 := Lib.hid (And.intro hk2 (And.intro hc2 (And.intro hn2 hb2))); clear hk2 hc2 hn2 hb2))
        go_ret
        rw [Hr.out]
        exact ⟨A2, n2, c2, rfl, HK2.out⟩
end Go.Proofs.YtnfncnpnkmjjeaaDoor
