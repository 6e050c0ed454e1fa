/- Folds of streams, plainly. -/
import Derived.Test.YtbcfbkcadceniaaDoorPRead
namespace Go.Proofs.YtbcfbkcadceniaaDoor
set_option linter.unusedVariables false
set_option linter.unusedSimpArgs false

structure Fd where
  ver : Int
  sum : Int
  last : ByteArray
  deriving DecidableEq, Inhabited
def foldZero : Fd := ⟨0, 0, ⟨#[]⟩⟩
def foldNone : Fd := ⟨-1, 0, ⟨#[]⟩⟩
def foldStep (f : Fd) (e : Ev) : Fd := ⟨f.ver + 1, f.sum + e.data, e.kind⟩
def foldOn (f : Fd) (es : List Ev) : Fd := es.foldl foldStep f
def foldOk (f : Fd) : Bool := if f.ver = -1 then decide (f.sum = 0) && decide (f.last = ⟨#[]⟩) else (decide (0 ≤ f.ver ∧ f.ver ≤ 23) && decide (0 ≤ f.sum ∧ f.sum ≤ 999 * (f.ver + 1))) && wordOk f.last.data.toList
theorem foldOn_snoc (f : Fd) (es : List Ev) (k : Nat) (h : k < es.length) : foldOn f (es.take (k + 1)) = foldStep (foldOn f (es.take k)) (nx es k) := by
  unfold foldOn; rw [take_nx h, List.foldl_append]; rfl
theorem foldOn_app (f : Fd) (es fs : List Ev) : foldOn f (es ++ fs) = foldOn (foldOn f es) fs := by unfold foldOn; rw [List.foldl_append]
theorem foldOn_ver (f : Fd) (es : List Ev) : (foldOn f es).ver = f.ver + es.length := by
  induction es generalizing f with
  | nil => simp [foldOn]
  | cons e es ih =>
    have := ih (foldStep f e)
    unfold foldOn at this ⊢
    rw [List.foldl_cons, this]
    show f.ver + 1 + _ = _
    rw [List.length_cons]; omega
theorem foldOn_sum {es : List Ev} (h : ∀ e ∈ es, evOk e = true) (f : Fd) : f.sum ≤ (foldOn f es).sum ∧ (foldOn f es).sum ≤ f.sum + 999 * es.length := by
  induction es generalizing f with
  | nil => simp [foldOn]
  | cons e es ih =>
    have he := h e (List.mem_cons_self ..)
    have hd : 0 ≤ e.data ∧ e.data ≤ 999 := by
      unfold evOk at he
      rw [Bool.and_eq_true, decide_eq_true_eq] at he
      exact he.2
    have := ih (fun x hx => h x (List.mem_cons_of_mem _ hx)) (foldStep f e)
    have e1 : foldOn f (e :: es) = foldOn (foldStep f e) es := rfl
    have e2 : (foldStep f e).sum = f.sum + e.data := rfl
    rw [e1, List.length_cons]
    rw [e2] at this
    omega
theorem foldOn_last {es : List Ev} (h : es ≠ []) (f : Fd) : ∃ e ∈ es, (foldOn f es).last = e.kind := by
  induction es generalizing f with
  | nil => exact absurd rfl h
  | cons e es ih =>
    by_cases hn : es = []
    · subst hn; exact ⟨e, List.mem_cons_self .., rfl⟩
    · obtain ⟨x, hx, hl⟩ := ih hn (foldStep f e)
      exact ⟨x, List.mem_cons_of_mem _ hx, hl⟩
theorem foldOk_none : foldOk foldNone = true := by unfold foldOk foldNone; rfl
/-- the fold of valid events, not more than there may be, is valid. -/
theorem foldOk_of {es : List Ev} (h : ∀ e ∈ es, evOk e = true) (hl : es.length ≤ 24) : foldOk (foldOn foldNone es) = true := by
  by_cases hn : es = []
  · subst hn; exact foldOk_none
  · have h1 := foldOn_ver foldNone es
    have h2 := foldOn_sum h foldNone
    obtain ⟨e, he, h3⟩ := foldOn_last hn foldNone
    have hp := List.length_pos_iff.2 hn
    have hk : wordOk e.kind.data.toList = true := by
      have := h e he
      unfold evOk at this
      rw [Bool.and_eq_true, Bool.and_eq_true] at this
      exact this.1.2
    have e1 : foldNone.ver = -1 := rfl
    have e2 : foldNone.sum = 0 := rfl
    rw [e1] at h1
    rw [e2] at h2
    unfold foldOk
    rw [if_neg (by omega), h3, hk, decide_eq_true (by omega), decide_eq_true (by omega)]; rfl
def foldGood (xs : List En) (s : ByteArray) (f : Fd) : Bool := ((storeOk xs && nameOk s.data.toList) && foldOk f) && decide (f.ver + 1 ≤ (streamOf xs s).length)
/-- a fold that goes on with a stream, how many events it takes, and whether it is fine. -/
def foldStream (xs : List En) (s : ByteArray) (f : Fd) : Fd × Int × Bool :=
  if foldGood xs s f && foldOk (foldOn f ((streamOf xs s).drop (f.ver + 1).toNat)) then (foldOn f ((streamOf xs s).drop (f.ver + 1).toNat), (streamOf xs s).length - f.ver - 1, true) else (foldZero, 0, false)
theorem foldStream_no {xs : List En} {s : ByteArray} {f : Fd} (h : (foldGood xs s f && foldOk (foldOn f ((streamOf xs s).drop (f.ver + 1).toNat))) = false) : foldStream xs s f = (foldZero, 0, false) := by unfold foldStream; rw [h]; rfl
theorem foldStream_yes {xs : List En} {s : ByteArray} {f : Fd} (h : (foldGood xs s f && foldOk (foldOn f ((streamOf xs s).drop (f.ver + 1).toNat))) = true) : foldStream xs s f = (foldOn f ((streamOf xs s).drop (f.ver + 1).toNat), (streamOf xs s).length - f.ver - 1, true) := by unfold foldStream; rw [h]; rfl
theorem foldOk_ver {f : Fd} (h : foldOk f = true) : -1 ≤ f.ver ∧ f.ver ≤ 23 := by
  unfold foldOk at h
  split at h
  · omega
  · rw [Bool.and_eq_true, Bool.and_eq_true, decide_eq_true_eq] at h; omega
theorem foldGood_iff {xs : List En} {s : ByteArray} {f : Fd} : foldGood xs s f = true ↔ storeOk xs = true ∧ nameOk s.data.toList = true ∧ foldOk f = true ∧ f.ver + 1 ≤ (streamOf xs s).length := by
  unfold foldGood
  rw [Bool.and_eq_true, Bool.and_eq_true, Bool.and_eq_true, decide_eq_true_eq]
  exact ⟨fun ⟨⟨⟨a, b⟩, c⟩, d⟩ => ⟨a, b, c, d⟩, fun ⟨a, b, c, d⟩ => ⟨⟨⟨a, b⟩, c⟩, d⟩⟩
theorem foldStream_is {xs : List En} {s : ByteArray} {f : Fd} (h : (foldStream xs s f).2.2 = true) : storeOk xs = true ∧ nameOk s.data.toList = true ∧ foldOk f = true ∧ f.ver + 1 ≤ (streamOf xs s).length ∧
    foldStream xs s f = (foldOn f ((streamOf xs s).drop (f.ver + 1).toNat), (streamOf xs s).length - f.ver - 1, true) := by
  cases h1 : foldGood xs s f && foldOk (foldOn f ((streamOf xs s).drop (f.ver + 1).toNat)) with
  | false => rw [foldStream_no h1] at h; cases h
  | true =>
    have h2 := foldStream_yes h1
    rw [Bool.and_eq_true] at h1
    obtain ⟨q1, q2, q3, q4⟩ := foldGood_iff.1 h1.1
    exact ⟨q1, q2, q3, q4, h2⟩
/-- its version is the stream's. -/
theorem foldStream_ver {xs : List En} {s : ByteArray} {f : Fd} (h : (foldStream xs s f).2.2 = true) : (foldStream xs s f).1.ver = storeVersion xs s ∧ (foldStream xs s f).2.1 = (foldStream xs s f).1.ver - f.ver ∧ 0 ≤ (foldStream xs s f).2.1 := by
  obtain ⟨h1, h2, h3, h4, h5⟩ := foldStream_is h
  have hv := foldOk_ver h3
  rw [h5]
  simp only
  rw [foldOn_ver, List.length_drop, storeVersion_yes h1 h2]
  omega
/-- a fold of the first events goes on to the fold of all. -/
theorem foldStream_first {xs : List En} {s : ByteArray} (h1 : storeOk xs = true) (h2 : nameOk s.data.toList = true) (j : Nat) (hj : j ≤ (streamOf xs s).length) :
    foldOk (foldOn foldNone ((streamOf xs s).take j)) = true ∧ foldStream xs s (foldOn foldNone ((streamOf xs s).take j)) = (foldOn foldNone (streamOf xs s), (streamOf xs s).length - (j : Int), true) := by
  have hl := stream_24 (s := s) h1
  have he : ∀ e ∈ streamOf xs s, evOk e = true := fun e he => (evsOk_iff.1 ((storeOk_streams.1 h1).2.2 s)).2.1 e he
  have hok := foldOk_of (es := (streamOf xs s).take j) (fun e h => he e (List.mem_of_mem_take h)) (by rw [List.length_take]; omega)
  have hv := foldOn_ver foldNone ((streamOf xs s).take j)
  have e1 : foldNone.ver = -1 := rfl
  rw [e1, List.length_take, Nat.min_eq_left hj] at hv
  refine ⟨hok, ?_⟩
  have hg : foldGood xs s (foldOn foldNone ((streamOf xs s).take j)) = true := foldGood_iff.2 ⟨h1, h2, hok, by omega⟩
  have ed : ((foldOn foldNone ((streamOf xs s).take j)).ver + 1).toNat = j := by omega
  have ea : foldOn (foldOn foldNone ((streamOf xs s).take j)) ((streamOf xs s).drop j) = foldOn foldNone (streamOf xs s) := by rw [← foldOn_app, List.take_append_drop]
  rw [foldStream_yes (by rw [hg, ed, ea, foldOk_of he hl]; rfl), ed, ea, hv]
  congr 2
  omega
end Go.Proofs.YtbcfbkcadceniaaDoor
