/- The walk of laws.FnStripeHalf. -/
import Derived.Test.YthkcfolamaajeaaDoorLFnStripe
import Derived.Deep.RegionWith
namespace Go.Proofs.YthkcfolamaajeaaDoor
open Go.RowKit

set_option maxHeartbeats 1000000 in
theorem law_FnStripeHalf (A : Option Addr) (n c : Nat) (w : World) (h : Code w A n c) (hg : GE w) :
    Calls Tryd.prog 6 #[.slice A n c] w fun e w' => e = .returned (.bool true) ∧ Below w.heap.size w w' := by
  have hn := h.2.1
  unfold maxLen at hn
  by_cases hbig : (1048576 : Int) < n
  · go_enter Tryd.func6, Tryd.ntmps6
    go_wp2_with fail
    go_ret
    exact ⟨rfl, Below.refl _ _⟩
  · have h1 := Lib.hid h
    clear h
    go_enter Tryd.func6, Tryd.ntmps6
    go_wp2_with fail
    refine (drawNameStripe_any A n c _ h1.out).mono ?_
    rintro e w1 ⟨s, k, rfl, hs, hk1, hk2, hb1⟩
    have g1 := hg.below hb1
    go_wp2_with fail
    refine (nameStripe_any s k _ (small60 hs) g1).mono ?_
    rintro e w2 ⟨rfl, hb2⟩
    have g2 := g1.below hb2
    go_wp2_with fail
    refine (nameStripeS_any s k _ (small60 hs)).mono ?_
    rintro e w3 ⟨rfl, hb3⟩
    have g3 := g2.below hb3
    have Hx := Lib.hid (@nameStripe_half s.data.toList k)
    by_cases hneg : nameStripe s.data.toList k < 0
    · obtain ⟨x, hx0⟩ : ∃ x, x = nameStripe s.data.toList k := ⟨_, rfl⟩
      rw [← hx0] at hneg ⊢
      clear hx0
      go_wp2_with fail
      go_ret
      exact ⟨rfl, bt (bt hb1 hb2) hb3⟩
    · have hok := nameStripe_of (l := s.data.toList) (n := k) (by omega)
      obtain ⟨_, hk3, hk4⟩ := hok
      obtain ⟨x, hx0⟩ : ∃ x, x = nameStripe s.data.toList k := ⟨_, rfl⟩
      rw [← hx0] at Hx hneg ⊢
      clear hx0
      by_cases he : k % 2 = 0
      · obtain ⟨e1, e2, e3⟩ := Hx.out (by omega) he
        have N1 := Lib.hid (fun W G => nameStripe_any s (k / 2) W (small60 hs) G)
        rw [e3] at N1
        have E0 : (k % 2 != 0) = false := by rw [he]; rfl
        clear e3 he Hx
        have q1 : k.tdiv 2 = k / 2 := Int.tdiv_eq_ediv_of_nonneg (by omega)
        have q2 : IntKind.i64.wrap (k / 2) = k / 2 := IntWalk.i64_in _ (by omega)
        have q3 : x.tmod (k / 2) = x % (k / 2) := Int.tmod_eq_emod_of_nonneg (by omega)
        have q4 : ¬ k / 2 = 0 := by omega
        go_wp2_with fail
        go_region_with (go_at_call 21; refine (N1.out _ ?_).mono ?_; exact g3; rintro e w4 ⟨rfl, hb4⟩)
        all_goals go_wp2_with fail
        all_goals go_ret
        all_goals exact ⟨by simp [Act.put], bt (bt (bt hb1 hb2) hb3) (below_undrew hb4)⟩
      · have E0 : (k % 2 != 0) = true := by rw [bne_iff_ne]; exact he
        clear he Hx
        go_wp2_with fail
        go_ret
        exact ⟨rfl, bt (bt hb1 hb2) hb3⟩
end Go.Proofs.YthkcfolamaajeaaDoor
