/- A drawn store for the rows of kinds. -/
import Derived.Test.YtnfncnpnkmjjeaaDoorDrawIn
import Derived.Deep.RegionLaw
namespace Go.Proofs.YtnfncnpnkmjjeaaDoor
set_option linter.unusedVariables false
set_option linter.unusedSimpArgs false
open Go.RowKit

set_option maxRecDepth 100000 in
set_option maxHeartbeats 4000000 in
theorem drawIndexKinds_any (A : Option Addr) (n c : Nat) (w : World) (h : Code w A n c) :
    Calls Tryd.prog 12 #[.slice A n c] w (EnsDrawn w) := by
  go_enter Tryd.func12, Tryd.ntmps12
  go_wp2_with fail
  refine (open_any A n c _ h).mono ?_
  rintro e w1 ⟨r, rfl, hr, hb1, h1⟩
  clear h
  go_wp2_with fail
  refine (l91Store_any r 0 _ h1 (by omega)).mono ?_
  rintro e w2 ⟨v, k, xs, rfl, hl, hown, HB, hk, hg2, h2⟩
  have hb2 := drawn_below hr hb1 hg2
  go_wp2_with fail
  go_ret
  exact ens_drawn hl hown HB hk hb2
end Go.Proofs.YtnfncnpnkmjjeaaDoor
