/- The walk of laws.FnStripe. -/
import Derived.Test.YthkcfolamaajeaaDoorDrawN
import Derived.Test.YthkcfolamaajeaaDoorNamesI
namespace Go.Proofs.YthkcfolamaajeaaDoor
open Go.RowKit

theorem nameStripe_yes {l : List UInt8} {n : Int} (h1 : nameOk l = true) (h2 : 1 ≤ n) (h3 : n ≤ 8) : nameStripe l n = stripeOf l n.toNat := by
  unfold nameStripe; rw [if_pos ⟨h1, h2, h3⟩]
theorem nameStripe_of {l : List UInt8} {n : Int} (h : 0 ≤ nameStripe l n) : nameOk l = true ∧ 1 ≤ n ∧ n ≤ 8 := by
  unfold nameStripe at h
  split at h
  · assumption
  · omega
theorem nameStripe_lt {l : List UInt8} {n : Int} (h : 0 ≤ nameStripe l n) : nameOk l = true ∧ 1 ≤ n ∧ n ≤ 8 ∧ nameStripe l n < n ∧ nameStripe l 1 = 0 := by
  obtain ⟨h1, h2, h3⟩ := nameStripe_of h
  rw [nameStripe_yes h1 (n := 1) (by omega) (by omega), nameStripe_yes h1 h2 h3]
  have : stripeOf l n.toNat < n.toNat := Nat.mod_lt _ (by omega)
  refine ⟨h1, h2, h3, by omega, ?_⟩
  show ((stripeOf l 1 : Nat) : Int) = 0
  unfold stripeOf
  omega
/-- half the stripes are half the remainder. -/
theorem nameStripe_half {l : List UInt8} {n : Int} (h : 0 ≤ nameStripe l n) (he : n % 2 = 0) : 2 ≤ n ∧ n ≤ 8 ∧ nameStripe l (n / 2) = nameStripe l n % (n / 2) := by
  obtain ⟨h1, h2, h3⟩ := nameStripe_of h
  rw [nameStripe_yes h1 (n := n / 2) (by omega) (by omega), nameStripe_yes h1 h2 h3]
  refine ⟨by omega, h3, ?_⟩
  obtain ⟨m, rfl⟩ : ∃ m : Nat, n = 2 * (m : Int) := ⟨(n / 2).toNat, by omega⟩
  rw [show (2 * (m : Int)) / 2 = (m : Int) by omega, show (2 * (m : Int)).toNat = m * 2 by omega, Int.toNat_natCast]
  unfold stripeOf
  rw [← Int.natCast_emod, Nat.mod_mul_right_mod]

set_option maxHeartbeats 1000000 in
theorem law_FnStripe (A : Option Addr) (n c : Nat) (w : World) (h : Code w A n c) (hg : GE w) :
    Calls Tryd.prog 5 #[.slice A n c] w fun e w' => e = .returned (.bool true) ∧ Below w.heap.size w w' := by
  have hn := h.2.1
  unfold maxLen at hn
  by_cases hbig : (1048576 : Int) < n
  · go_enter Tryd.func5, Tryd.ntmps5
    go_wp2_with fail
    go_ret
    exact ⟨rfl, Below.refl _ _⟩
  · have h1 := Lib.hid h
    clear h
    go_enter Tryd.func5, Tryd.ntmps5
    go_wp2_with fail
    refine (drawNameStripe_any A n c _ h1.out).mono ?_
    rintro e w1 ⟨s, k, rfl, hs, hk1, hk2, hb1⟩
    have g1 := hg.below hb1
    go_wp2_with fail
    refine (nameStripe_any s k _ (small60 hs) g1).mono ?_
    rintro e w2 ⟨rfl, hb2⟩
    have g2 := g1.below hb2
    go_wp2_with fail
    refine (nameStripeS_any s k _ (small60 hs)).mono ?_
    rintro e w3 ⟨rfl, hb3⟩
    have g3 := g2.below hb3
    have hx := @nameStripe_lt s.data.toList k
    have N1 := Lib.hid (fun W G => nameStripe_any s 1 W (small60 hs) G)
    obtain ⟨y, hy⟩ : ∃ y, y = nameStripe s.data.toList 1 := ⟨_, rfl⟩
    rw [← hy] at N1 hx
    clear hy
    obtain ⟨x, hx0⟩ : ∃ x, x = nameStripe s.data.toList k := ⟨_, rfl⟩
    rw [← hx0] at hx ⊢
    clear hx0
    by_cases hneg : x < 0
    · clear hx
      go_wp2_with fail
      go_ret
      exact ⟨rfl, bt (bt hb1 hb2) hb3⟩
    · obtain ⟨_, x1, x2, x3, x4⟩ := hx (by omega)
      subst x4
      go_wp2_with fail
      refine (N1.out _ g3).mono ?_
      rintro e w4 ⟨rfl, hb4⟩
      go_wp2_with fail
      go_ret
      exact ⟨rfl, bt (bt (bt hb1 hb2) hb3) hb4⟩
end Go.Proofs.YthkcfolamaajeaaDoor
