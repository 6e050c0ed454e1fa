/- The walk of laws.FnNameValid. -/
import Derived.Test.YthkcfolamaajeaaDoorDrawN
import Derived.Test.YthkcfolamaajeaaDoorNamesI
namespace Go.Proofs.YthkcfolamaajeaaDoor
open Go.RowKit

set_option maxHeartbeats 1000000 in
theorem law_FnNameValid (A : Option Addr) (n c : Nat) (w : World) (h : Code w A n c) (hg : GE w) :
    Calls Tryd.prog 3 #[.slice A n c] w fun e w' => e = .returned (.bool true) ∧ Below w.heap.size w w' := by
  have hn := h.2.1
  unfold maxLen at hn
  by_cases hbig : (1048576 : Int) < n
  · go_enter Tryd.func3, Tryd.ntmps3
    go_wp2_with fail
    go_ret
    exact ⟨rfl, Below.refl _ _⟩
  · have h1 := Lib.hid h
    clear h
    go_enter Tryd.func3, Tryd.ntmps3
    go_wp2_with fail
    refine (drawNameValid_any A n c _ h1.out).mono ?_
    rintro e w1 ⟨s, rfl, hs, hb1⟩
    have g1 := hg.below hb1
    go_wp2_with fail
    refine (nameValid_any s _ (small60 hs) g1).mono ?_
    rintro e w2 ⟨rfl, hb2⟩
    have g2 := g1.below hb2
    go_wp2_with fail
    refine (nameValidS_any s _ (small60 hs)).mono ?_
    rintro e w3 ⟨rfl, hb3⟩
    have g3 := g2.below hb3
    go_wp2_with fail
    refine (nameParts_any s _ (small60 hs) g3).mono ?_
    rintro e w4 ⟨⟨u, rfl, hu⟩, hb4⟩
    clear hu
    go_wp2_with fail
    go_ret
    exact ⟨rfl, bt (bt (bt hb1 hb2) hb3) hb4⟩
end Go.Proofs.YthkcfolamaajeaaDoor
