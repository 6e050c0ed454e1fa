/- What a subscriber wants, and the entries from a place on. -/
import Derived.Test.YtbcfbkcadceniaaDoorSubV
import Derived.Test.YtbcfbkcadceniaaDoorNamesI
import Derived.Test.YtbcfbkcadceniaaDoorLive
namespace Go.Proofs.YtbcfbkcadceniaaDoor
set_option linter.unusedVariables false
set_option linter.unusedSimpArgs false
open Go.RowKit

theorem fits_no {cat c : ByteArray} {x : En} (h1 : cat ≠ ⟨#[]⟩) (h2 : cat ≠ c) (hc : c.data.toList = pCat x.name.data.toList) : fits cat x = false := by
  unfold fits
  rw [decide_eq_false h1, decide_eq_false (p := cat.data.toList = pCat x.name.data.toList) (fun e => h2 (by
    rw [← hc] at e
    exact ByteArray.ext (Array.toList_inj.1 e)))]; rfl
theorem fits_at {c : ByteArray} {x : En} (hc : c.data.toList = pCat x.name.data.toList) : fits c x = true := by
  unfold fits
  rw [decide_eq_true (p := c.data.toList = pCat x.name.data.toList) hc]; simp
set_option maxRecDepth 100000 in
set_option maxHeartbeats 4000000 in
theorem wants_any (cat name kind : ByteArray) (at_ id data : Int) (w : World) (hn : name.size ≤ maxLen) (hg : GE w) :
    Calls Tryd.prog 71 #[.agg #[.string cat, .int .i64 at_], .agg #[.string name, .int .i64 id, .string kind, .int .i64 data]] w fun e w' => e = .returned (.bool (fits cat ⟨name, ⟨id, kind, data⟩⟩)) ∧ Below w.heap.size w w' := by
  have hb0 : Below w.heap.size w ((w.alloc (.cells #[.string cat, .int .i64 at_] 60)).alloc (.cells #[.string name, .int .i64 id, .string kind, .int .i64 data] 35)) := ((Below.refl _ _).alloc (Nat.le_refl _) _).alloc (by simp) _
  have L : Live ((w.alloc (.cells #[.string cat, .int .i64 at_] 60)).alloc (.cells #[.string name, .int .i64 id, .string kind, .int .i64 data] 35)) fun W => (Below w.heap.size w W ∧ GE W) ∧ Blk W w.heap.size 60 #[.string cat, .int .i64 at_] := ((Live.since hb0).and (Live.ge (hg.below hb0))).and (Live.blk ((Blk.new w _ _).alloc _))
  have V := Lib.hid (nameParts_any name _ hn L.now.1.2)
  clear hb0 hg
  go_enter Tryd.func71, Tryd.ntmps71
  go_wp2_with fail
  refine V.out.mono ?_
  rintro e w1 ⟨⟨c, rfl, hc⟩, hb1⟩
  have L1 := L.next hb1
  have c0 := L1.now.2.cell 0
  clear L hb1 V
  by_cases hl : cat = ⟨#[]⟩
  · subst hl
    go_wp2_with fail
    go_ret
    exact ⟨rfl, L1.now.1.1⟩
  · have hl2 : (cat.toList == ([] : List UInt8)) = false := by rw [empty_iff]; exact decide_eq_false hl
    have hl3 : ¬ cat.toList = [] := by intro e; rw [e] at hl2; cases hl2
    by_cases hcc : cat = c
    · subst hcc
      have Hf := Lib.hid (fits_at (x := ⟨name, ⟨id, kind, data⟩⟩) hc)
      clear hl hc
      go_wp2_with fail
      go_ret
      exact ⟨ret_bool (by rw [Hf.out]), L1.now.1.1⟩
    · have Hf := Lib.hid (fits_no (x := ⟨name, ⟨id, kind, data⟩⟩) hl hcc hc)
      have hcn : (cat.toList == c.toList) = false := toList_ne hcc
      clear hl hc hcc
      go_wp2_with fail
      go_ret
      exact ⟨ret_bool Hf.out.symm, L1.now.1.1⟩
end Go.Proofs.YtbcfbkcadceniaaDoor
