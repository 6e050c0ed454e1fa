/- A fold goes on: the reference's. -/
import Derived.Test.YtbcfbkcadceniaaDoorFoldV
import Derived.Test.YtbcfbkcadceniaaDoorDrawEv
import Derived.Test.YtbcfbkcadceniaaDoorSameEn
import Derived.BigRegion
namespace Go.Proofs.YtbcfbkcadceniaaDoor
set_option linter.unusedVariables false
set_option linter.unusedSimpArgs false
open Go.RowKit

/-- small folds. -/
def FdS (f : Fd) : Prop := -10000 ≤ f.ver ∧ f.ver ≤ 10000 ∧ -10000000000 ≤ f.sum ∧ f.sum ≤ 10000000000 ∧ f.last.size ≤ 60
theorem FdS.big {f : Fd} (h : FdS f) : FdB f := ⟨by have := h.1; omega, by have := h.2.1; omega, by have := h.2.2.1; omega, by have := h.2.2.2.1; omega, small60 h.2.2.2.2⟩
theorem foldOn_B {es : List Ev} (h : ∀ e ∈ es, EvB e) {f : Fd} (hf : FdS f) : (foldOn f es).ver = f.ver + es.length ∧ f.sum - 100000 * es.length ≤ (foldOn f es).sum ∧ (foldOn f es).sum ≤ f.sum + 100000 * es.length ∧ (foldOn f es).last.size ≤ 60 := by
  refine ⟨foldOn_ver f es, ?_⟩
  have key : ∀ (es : List Ev) (f : Fd), (∀ e ∈ es, EvB e) → f.last.size ≤ 60 → f.sum - 100000 * es.length ≤ (foldOn f es).sum ∧ (foldOn f es).sum ≤ f.sum + 100000 * es.length ∧ (foldOn f es).last.size ≤ 60 := fun es => by
    induction es with
    | nil => intro f _ hl; exact ⟨by simp [foldOn], by simp [foldOn], hl⟩
    | cons e es ih =>
      intro f he hl
      obtain ⟨q1, q2, q3, q4, q5⟩ := he e (List.mem_cons_self ..)
      obtain ⟨a, b, c⟩ := ih (foldStep f e) (fun x hx => he x (List.mem_cons_of_mem _ hx)) q1
      have e1 : foldOn f (e :: es) = foldOn (foldStep f e) es := rfl
      have e2 : (foldStep f e).sum = f.sum + e.data := rfl
      rw [e1, List.length_cons]
      rw [e2] at a b
      exact ⟨by omega, by omega, c⟩
  exact key es f h hf.2.2.2.2
set_option maxRecDepth 100000 in
set_option maxHeartbeats 4000000 in
theorem l21On_any (ver sum : Int) (last : ByteArray) (A : Option Addr) (m d : Nat) (es : List Ev) (w : World) (h : Row evCells 3 w w.heap.size A m es) (hE : ∀ e ∈ es, EvB e) (hf : FdS ⟨ver, sum, last⟩) (hm : m ≤ 1000) :
    Calls Tryd.prog 60 #[.agg #[.int .i64 ver, .int .i64 sum, .string last], .slice A m d] w fun e w' => e = .returned (.agg (fdCells (foldOn ⟨ver, sum, last⟩ es))) ∧ Below w.heap.size w w' := by
  have Hl := Lib.hid h.1
  have H := Lib.hid h
  have HE := Lib.hid hE
  have HF := Lib.hid hf
  have B0 : Hid (Blk ((w.alloc (.cells #[.int .i64 ver, .int .i64 sum, .string last] 50)).alloc (.cells #[.int .i64 0, .int .i64 0, .string ⟨#[]⟩] 50)) w.heap.size 50 #[.int .i64 ver, .int .i64 sum, .string last] ∧ Blk ((w.alloc (.cells #[.int .i64 ver, .int .i64 sum, .string last] 50)).alloc (.cells #[.int .i64 0, .int .i64 0, .string ⟨#[]⟩] 50)) (w.heap.size + 1) 50 #[.int .i64 0, .int .i64 0, .string ⟨#[]⟩] ∧ Below w.heap.size w ((w.alloc (.cells #[.int .i64 ver, .int .i64 sum, .string last] 50)).alloc (.cells #[.int .i64 0, .int .i64 0, .string ⟨#[]⟩] 50))) := Lib.hid
    ⟨(Blk.new w _ _).alloc _, by have := Blk.new (w.alloc (.cells #[.int .i64 ver, .int .i64 sum, .string last] 50)) 50 #[.int .i64 0, .int .i64 0, .string ⟨#[]⟩]; simpa using this, ((Below.refl _ _).alloc (Nat.le_refl _) _).alloc (by simp) _⟩
  clear h hE hf
  go_enter Tryd.func60, Tryd.ntmps60
  go_wp2_with fail
  generalize (w.alloc (.cells #[.int .i64 ver, .int .i64 sum, .string last] 50)).alloc (.cells #[.int .i64 0, .int .i64 0, .string ⟨#[]⟩] 50) = w0 at *
  go_loopw [5] (fun i wr => ∃ k : Nat, k ≤ m ∧ i = .int .i64 k ∧ Hid (Blk wr w.heap.size 50 (fdCells (foldOn ⟨ver, sum, last⟩ (es.take k)))) ∧ Hid (Blk wr (w.heap.size + 1) 50 #[.int .i64 0, .int .i64 0, .string ⟨#[]⟩]) ∧ Hid (Below w.heap.size w wr)) (fun i _ => m - (intOf i).toNat)
  case atStart => exact ⟨0, Nat.zero_le _, rfl, Lib.hid B0.out.1, Lib.hid B0.out.2.1, Lib.hid B0.out.2.2⟩
  case round =>
    obtain ⟨k, hk, rfl, HB, HZ, HW⟩ := hrel
    by_cases hlt : k < m
    · have hlt' : (k : Int) < (m : Int) := by omega
      obtain ⟨b, off, rfl, hb, hx⟩ := H.out.ev_at (by omega)
      have hs : es[k]? = some (nx es k) := nx_get (by rw [Hl.out]; exact hlt)
      have hee := HE.out _ (List.mem_of_getElem? hs)
      have hsn := foldOn_snoc ⟨ver, sum, last⟩ es k (by rw [Hl.out]; exact hlt)
      have hbd := foldOn_B (es := es.take k) (fun e he => HE.out e (List.mem_of_mem_take he)) HF.out
      rw [List.length_take, Hl.out, Nat.min_eq_left hk] at hbd
      obtain ⟨⟨v, s, l⟩, hF⟩ : ∃ F, foldOn ⟨ver, sum, last⟩ (es.take k) = F := ⟨_, rfl⟩
      rw [hF] at HB hsn hbd
      obtain ⟨⟨id, kind, data⟩, he⟩ : ∃ e, nx es k = e := ⟨_, rfl⟩
      rw [he] at hs hee hsn
      obtain ⟨q1, q2, q3, q4, q5⟩ := hee
      obtain ⟨p1, p2, p3, p4⟩ := hbd
      obtain ⟨r1, r2, r3, r4, r5⟩ := HF.out
      simp only at q1 q2 q3 q4 q5 p1 p2 p3 p4 r1 r2 r3 r4 r5
      obtain ⟨c0, c1, c2⟩ := (hx k _ hs).below HW.out hb
      have d0 : wr.cell? ⟨w.heap.size, 0, none⟩ = some (.int .i64 v) := HB.out.cell 0
      have d1 : wr.cell? ⟨w.heap.size, 1, none⟩ = some (.int .i64 s) := HB.out.cell 1
      have d2 : wr.cell? ⟨w.heap.size, 2, none⟩ = some (.string l) := HB.out.cell 2
      have f0 := HB.out.frozen 0
      have f1 := HB.out.frozen 1
      have f2 := HB.out.frozen 2
      have hne : ¬ b = w.heap.size := by omega
      have g1 : -20000 ≤ v ∧ v ≤ 20000 := by omega
      have g2 : -11000000000 ≤ s ∧ s ≤ 11000000000 := by omega
      obtain ⟨g1a, g1b⟩ := g1
      obtain ⟨g2a, g2b⟩ := g2
      have Hsn := Lib.hid hsn
      clear hsn hs hx hF he p1 p2 p3 p4 r1 r2 r3 r4 r5 q1 q2 q3
      go_wp2_with fail
      go_region
      all_goals
        go_wp2_with fail
        go_roundw
        case rel => exact ⟨k + 1, by omega, by go_num, Lib.hid (by rw [Hsn.out]; exact ((HB.out.set_ 0 (.int .i64 (v + 1))).set_ 1 (.int .i64 (s + data))).set_ 2 (.string kind)), Lib.hid (((HZ.out.far (p := ⟨w.heap.size, 0, none⟩) (show w.heap.size + 1 ≠ w.heap.size by omega) (.int .i64 (v + 1))).far (p := ⟨w.heap.size, 1, none⟩) (show w.heap.size + 1 ≠ w.heap.size by omega) (.int .i64 (s + data))).far (p := ⟨w.heap.size, 2, none⟩) (show w.heap.size + 1 ≠ w.heap.size by omega) (.string kind)), Lib.hid ((((HW.out.setCell (p := ⟨w.heap.size, 0, none⟩) (Nat.le_refl _) (.int .i64 (v + 1))).setCell (p := ⟨w.heap.size, 1, none⟩) (Nat.le_refl _) (.int .i64 (s + data))).setCell (p := ⟨w.heap.size, 2, none⟩) (Nat.le_refl _) (.string kind)).drew)⟩
        case measure => simp [intOf]; omega
    · obtain rfl : k = m := by omega
      have hlt' : ¬ (k : Int) < (k : Int) := by omega
      have htk : es.take k = es := by rw [← Hl.out]; exact List.take_length
      rw [htk] at HB
      obtain ⟨⟨v, s, l⟩, hF⟩ : ∃ F, foldOn ⟨ver, sum, last⟩ es = F := ⟨_, rfl⟩
      rw [hF] at HB
      have Hf := Lib.hid hF
      clear hF htk
      have d0 : wr.cell? ⟨w.heap.size, 0, none⟩ = some (.int .i64 v) := HB.out.cell 0
      have d1 : wr.cell? ⟨w.heap.size, 1, none⟩ = some (.int .i64 s) := HB.out.cell 1
      have d2 : wr.cell? ⟨w.heap.size, 2, none⟩ = some (.string l) := HB.out.cell 2
      have e0 := HZ.out.cell 0
      have e1 := HZ.out.cell 1
      have e2 := HZ.out.cell 2
      have f0 := HZ.out.frozen 0
      have f1 := HZ.out.frozen 1
      have f2 := HZ.out.frozen 2
      go_wp2_with fail
      refine bodyPost_ret (v := .agg #[.int .i64 v, .int .i64 s, .string l]) (by simp [results, Tryd.results60, go_sem, e0, e1, e2]) rfl ?_
      refine ⟨by rw [Hf.out]; rfl, ?_⟩
      exact ((HW.out.setCell (p := ⟨w.heap.size + 1, 0, none⟩) (Nat.le_succ _) _).setCell (p := ⟨w.heap.size + 1, 1, none⟩) (Nat.le_succ _) _).setCell (p := ⟨w.heap.size + 1, 2, none⟩) (Nat.le_succ _) _
end Go.Proofs.YtbcfbkcadceniaaDoor
