/- slices.BinarySearch and slices.Insert at texts, laid over this dump out of the library's theorems; what they give for ordered members. -/
import Derived.Test.YtnfncnpnkmjjeaaPJoin
import Derived.Test.YtnfncnpnkmjjeaaOwn
import Derived.Shelf.Spec.SearchS
import Derived.Shelf.Spec.SlicesInsert
import Derived.Deep.Upon
import Derived.Deep.MidRow
namespace Go.Proofs.Ytnfncnpnkmjjeaa
set_option linter.unusedVariables false
set_option linter.unusedSimpArgs false
open Go.RowKit Go.Shelf

def bsRen : Go.Shelf.Ren := ⟨fun | 26 => 19 | 33 => 26 | 34 => 27 | 38 => 31 | n => n, fun | 0 => 0 | 3 => 3 | 4 => 4 | 9 => 9 | 24 => 22 | 40 => 45 | n => n, fun | n => n⟩
theorem bsLaid : Go.Proofs.Lays2.n26 Try.prog bsRen := {
  mixed := by kernel_rfl
  f26 := Try.func19.trans (congrArg some (by kernel_rfl))
  f33 := Try.func26.trans (congrArg some (by kernel_rfl))
  f34 := Try.func27.trans (congrArg some (by kernel_rfl))
  f38 := Try.func31.trans (congrArg some (by kernel_rfl))
  t0 := Try.underlying0
  a0 := Try.isAgg0
  z0 := Try.sizeOf0
  v0 := Try.zeroValue0
  t3 := Try.underlying3
  a3 := Try.isAgg3
  z3 := Try.sizeOf3
  v3 := Try.zeroValue3
  t4 := Try.underlying4
  a4 := Try.isAgg4
  z4 := Try.sizeOf4
  v4 := Try.zeroValue4
  t9 := Try.underlying9
  a9 := Try.isAgg9
  z9 := Try.sizeOf9
  v9 := Try.zeroValue9
  t24 := Try.underlying22
  a24 := Try.isAgg22
  z24 := Try.sizeOf22
  v24 := Try.zeroValue22
  t40 := Try.underlying45
  a40 := Try.isAgg45
  z40 := Try.sizeOf45
  v40 := Try.zeroValue45 }
def inRen : Go.Shelf.Ren := ⟨fun | 22 => 20 | 17 => 33 | 29 => 28 | 30 => 29 | 36 => 32 | n => n, fun | 0 => 0 | 3 => 3 | 4 => 4 | 9 => 9 | 24 => 22 | n => n, fun | n => n⟩
theorem inLaid : Go.Proofs.Lays2.n22 Try.prog inRen := {
  mixed := by kernel_rfl
  f17 := Try.func33.trans (congrArg some (by kernel_rfl))
  f22 := Try.func20.trans (congrArg some (by kernel_rfl))
  f29 := Try.func28.trans (congrArg some (by kernel_rfl))
  f30 := Try.func29.trans (congrArg some (by kernel_rfl))
  f36 := Try.func32.trans (congrArg some (by kernel_rfl))
  t0 := Try.underlying0
  a0 := Try.isAgg0
  z0 := Try.sizeOf0
  v0 := Try.zeroValue0
  t3 := Try.underlying3
  a3 := Try.isAgg3
  z3 := Try.sizeOf3
  v3 := Try.zeroValue3
  t4 := Try.underlying4
  a4 := Try.isAgg4
  z4 := Try.sizeOf4
  v4 := Try.zeroValue4
  t9 := Try.underlying9
  a9 := Try.isAgg9
  z9 := Try.sizeOf9
  v9 := Try.zeroValue9
  t24 := Try.underlying22
  a24 := Try.isAgg22
  z24 := Try.sizeOf22
  v24 := Try.zeroValue22
  i9 := by kernel_rfl }

/-! ### where a text belongs among ordered members -/
def placeOf (ms : List ByteArray) (m : ByteArray) : Nat := (ms.filter fun x => ltB x m).length
theorem placeOf_le (ms : List ByteArray) (m : ByteArray) : placeOf ms m ≤ ms.length := List.length_filter_le _ _
theorem split_at {ms : List ByteArray} {m : ByteArray} (hs : SortedMs ms) : ms = ms.filter (fun x => ltB x m) ++ ms.filter (fun x => !ltB x m) := by
  induction ms with
  | nil => rfl
  | cons a l ih =>
    have hs' := List.pairwise_cons.1 hs
    have ih := ih hs'.2
    cases h : ltB a m with
    | true => rw [List.filter_cons_of_pos (by exact h), List.filter_cons_of_neg (by rw [h]; decide), List.cons_append, ← ih]
    | false =>
      have hl : ∀ x ∈ l, ltB x m = false := fun x hx => by
        cases k : ltB x m with
        | false => rfl
        | true => rw [ltB_trans (hs'.1 x hx) k] at h; cases h
      have e1 : l.filter (fun x => ltB x m) = [] := List.filter_eq_nil_iff.2 (fun x hx => by rw [hl x hx]; decide)
      have e2 : l.filter (fun x => !ltB x m) = l := List.filter_eq_self.2 (fun x hx => by rw [hl x hx]; rfl)
      rw [List.filter_cons_of_neg (by rw [h]; decide), List.filter_cons_of_pos (by rw [h]; rfl), e1, e2]; rfl
theorem place_lt {ms : List ByteArray} {m : ByteArray} (hs : SortedMs ms) {t : Nat} (ht : t < placeOf ms m) {x : ByteArray} (hx : ms[t]? = some x) : ltB x m = true := by
  rw [split_at (m := m) hs, List.getElem?_append_left ht] at hx
  exact (List.mem_filter.1 (List.mem_of_getElem? hx)).2
theorem place_ge {ms : List ByteArray} {m : ByteArray} (hs : SortedMs ms) {t : Nat} (ht : placeOf ms m ≤ t) {x : ByteArray} (hx : ms[t]? = some x) : ltB x m = false := by
  rw [split_at (m := m) hs, List.getElem?_append_right ht] at hx
  have := (List.mem_filter.1 (List.mem_of_getElem? hx)).2
  simpa using this
theorem place_is {ms : List ByteArray} {m : ByteArray} (hs : SortedMs ms) : (∃ h : placeOf ms m < ms.length, ms[placeOf ms m] = m) ↔ m ∈ ms := by
  constructor
  · rintro ⟨h, e⟩; rw [← e]; exact List.getElem_mem h
  · intro hm
    obtain ⟨i, hi, e⟩ := List.mem_iff_getElem.1 hm
    have hge : placeOf ms m ≤ i := by
      apply Classical.byContradiction
      intro hlt
      have := place_lt hs (show i < placeOf ms m by omega) (List.getElem?_eq_getElem hi)
      rw [e, ltB_irrefl] at this; cases this
    have hp : placeOf ms m < ms.length := by omega
    refine ⟨hp, ?_⟩
    have h1 := place_ge hs (Nat.le_refl _) (List.getElem?_eq_getElem hp)
    rcases Nat.lt_or_eq_of_le hge with h | h
    · have h2 := List.pairwise_iff_getElem.1 hs _ i hp hi h
      rw [e] at h2
      rw [h2] at h1; cases h1
    · have h3 : ms[placeOf ms m] = ms[i] := by simp only [h]
      exact h3.trans e
theorem join_place {ms : List ByteArray} {m : ByteArray} (hs : SortedMs ms) (hm : m ∉ ms) : joinMs ms m = ms.take (placeOf ms m) ++ m :: ms.drop (placeOf ms m) := by
  have e0 := split_at (m := m) hs
  have e1 : ms.filter (fun x => !ltB x m) = ms.filter (fun x => ltB m x) := by
    apply List.filter_congr
    intro x hx
    rcases ltB_tri x m with h | h | h
    · rw [h, ltB_asymm h]; rfl
    · exact absurd (h ▸ hx) hm
    · rw [h, ltB_asymm h]; rfl
  have e2 : ms.take (placeOf ms m) = ms.filter (fun x => ltB x m) :=
    (congrArg (List.take (placeOf ms m)) e0).trans (List.take_left' rfl)
  have e3 : ms.drop (placeOf ms m) = ms.filter (fun x => !ltB x m) :=
    (congrArg (List.drop (placeOf ms m)) e0).trans (List.drop_left' rfl)
  rw [e2, e3, e1]; rfl

theorem binSearch_any (b off n c : Nat) (ms : List ByteArray) (m : ByteArray) (w : World) (hlen : ms.length = n) (hn : n ≤ 1000000) (hs : SortedMs ms) (hc : ∀ j s, ms[j]? = some s → w.cell? ⟨b, off + j, none⟩ = some (.string s)) :
    Calls Try.prog 19 #[.slice (some ⟨b, off, none⟩) n c, .string m] w fun e w' => e = .returned (.tuple #[.int .i64 (placeOf ms m : Nat), .bool (hasMs ms m)]) ∧ ∃ q, w' = w.drewN q := by
  have hless : ∀ t, t < n → (if t < n then nth ms t else m) = nth ms t := fun t ht => if_pos ht
  have h := Any2.slices_BinarySearch_string bsLaid b off n c (fun t => if t < n then nth ms t else m) m w (by omega) (fun j hj => by rw [if_pos hj]; exact hc j _ (nth_get (by rw [hlen]; exact hj)))
  have hgo : Lib.bsGo (fun t => Op.bytesLess (if t < n then nth ms t else m).toList m.toList) n 0 n = placeOf ms m := by
    refine Lib.bsGo_spec _ _ (fun t ht => ?_) (fun t ht => ?_) n 0 n (by omega) (Nat.zero_le _) (by rw [← hlen]; exact placeOf_le ms m)
    · have htn : t < n := by have := placeOf_le ms m; omega
      rw [if_pos htn]
      exact place_lt hs ht (nth_get (by rw [hlen]; exact htn))
    · by_cases htn : t < n
      · rw [if_pos htn]
        exact place_ge hs ht (nth_get (by rw [hlen]; exact htn))
      · rw [if_neg htn]; exact ltB_irrefl m
  refine h.mono fun e w' ⟨he, hw⟩ => ⟨?_, hw⟩
  rw [he, hgo]
  congr 4
  have : decide (placeOf ms m < n ∧ (if placeOf ms m < n then nth ms (placeOf ms m) else m) = m) = hasMs ms m := by
    rw [Bool.eq_iff_iff, decide_eq_true_eq, hasMs_iff, ← place_is hs]
    constructor
    · rintro ⟨h1, h2⟩
      rw [if_pos h1, nth_eq (by rw [hlen]; exact h1)] at h2
      exact ⟨by rw [hlen]; exact h1, h2⟩
    · rintro ⟨h1, h2⟩
      rw [hlen] at h1
      exact ⟨h1, by rw [if_pos h1, nth_eq (by rw [hlen]; exact h1)]; exact h2⟩
  rw [this]

/-! ### a row with room for one more -/
theorem grown_setCells (w : World) (b o : Nat) (vs : List Value) : w.grownBy (w.setCells b o vs) (some b) := by
  induction vs generalizing w o with
  | nil => exact ⟨rfl, rfl, rfl, Nat.le_refl _, fun _ _ _ => rfl⟩
  | cons v vs ih =>
    have h1 : w.grownBy (w.setCell ⟨b, o, none⟩ v) (some b) := ⟨rfl, rfl, rfl, by simp, fun k _ hk => Below.heap_setCell w ⟨b, o, none⟩ v k (fun e => hk (by rw [e]))⟩
    exact h1.trans (ih _ _)
def RowIs (w : World) (g n : Nat) (ms : List ByteArray) : Prop := ∃ cur : Array Value, Blk w g 9 cur ∧ cur.size = n + 1 ∧ ms.length = n ∧ cur.toList.take n = ms.map Value.string
theorem RowIs.cell {w : World} {g n : Nat} {ms : List ByteArray} (h : RowIs w g n ms) {j : Nat} {s : ByteArray} (hs : ms[j]? = some s) : w.cell? ⟨g, j, none⟩ = some (.string s) := by
  obtain ⟨cur, hB, hsz, hl, ht⟩ := h
  have hj := (List.getElem?_eq_some_iff.1 hs).1
  have h1 : (ms.map Value.string)[j]? = some (.string s) := by rw [List.getElem?_map, hs]; rfl
  rw [← ht, List.getElem?_take, if_pos (by omega)] at h1
  rw [hB.cell j]
  simpa using h1
theorem RowIs.some_ {w : World} {g n : Nat} {ms : List ByteArray} (h : RowIs w g n ms) {j : Nat} (hj : j < n + 1) : (w.cell? ⟨g, j, none⟩).isSome = true := by
  obtain ⟨cur, hB, hsz, hl, ht⟩ := h
  rw [hB.cell j, Array.getElem?_eq_getElem (by omega)]; rfl
theorem shape_of {w : World} {g k : Nat} {T : TypeId} {cs : Array Value} (h : Blk w g T cs) (hk : cs.size = k) : w.shape? g = some (T, k) := by
  unfold Blk at h
  unfold World.shape?
  rw [h, ← hk]
set_option maxHeartbeats 1000000 in
theorem blk_setCells {g : Nat} {T : TypeId} (vs : List Value) : ∀ (w : World) (o : Nat) (cs : Array Value), Blk w g T cs → ∃ cs', Blk (w.setCells g o vs) g T cs' := by
  induction vs with
  | nil => intro w o cs h; exact ⟨cs, h⟩
  | cons v vs ih => intro w o cs h; exact ih _ _ _ (h.set_ o v)
theorem insert_any (g n i vb : Nat) (ms : List ByteArray) (m : ByteArray) (w : World) (hR : RowIs w g n ms) (hV : Blk w vb 9 #[.string m]) (hne : vb ≠ g) (hi : i ≤ n) (hn : n ≤ 1000000) :
    Calls Try.prog 20 #[.slice (some ⟨g, 0, none⟩) n (n + 1), .int .i64 i, .slice (some ⟨vb, 0, none⟩) 1 1] w fun e w' =>
      e = .returned (.slice (some ⟨g, 0, none⟩) (n + 1) (n + 1)) ∧ Strs w' w'.heap.size (some ⟨g, 0, none⟩) (n + 1) (ms.take i ++ m :: ms.drop i) ∧ w.grownBy w' (some g) ∧ ∃ cs, Blk w' g 9 cs := by
  have hR' := hR
  obtain ⟨cur, hB, hsz, hl, _⟩ := hR'
  have hvs : ∀ j v, [Value.string m][j]? = some v → w.cell? ⟨vb, 0 + j, none⟩ = some v := fun j v hj => by
    rw [Nat.zero_add, hV.cell j]
    match j, hj with
    | 0, hj => exact hj
  have h1v : ∀ v ∈ [Value.string m], v.oneCell' = true := fun v hv => by rw [List.mem_singleton] at hv; rw [hv]; rfl
  have fin : ∀ w' : World, w.grownBy w' (some g) → (∀ j, j < i → w'.cell? ⟨g, j, none⟩ = w.cell? ⟨g, j, none⟩) → w'.cell? ⟨g, i, none⟩ = some (.string m) → (∀ j s, ms[i + j]? = some s → w'.cell? ⟨g, i + 1 + j, none⟩ = some (.string s)) → Strs w' w'.heap.size (some ⟨g, 0, none⟩) (n + 1) (ms.take i ++ m :: ms.drop i) := by
    intro w' hg c1 c2 c3
    refine ⟨by simp; omega, fun _ => ⟨g, 0, rfl, Nat.lt_of_lt_of_le hB.lt hg.size, fun j hj => ?_⟩⟩
    rw [List.length_map] at hj
    rw [Nat.zero_add, List.getElem_map]
    by_cases h1 : j < i
    · rw [c1 j h1, List.getElem_append_left (by rw [List.length_take]; omega), List.getElem_take]
      exact hR.cell (List.getElem?_eq_getElem (by omega))
    · rw [List.getElem_append_right (by rw [List.length_take]; omega)]
      have e1 : (ms.take i).length = i := by rw [List.length_take]; omega
      by_cases h2 : j = i
      · subst h2
        simp only [e1, Nat.sub_self, List.getElem_cons_zero]
        exact c2
      · have h3 := c3 (j - i - 1) ((ms.drop i)[j - i - 1]'(by rw [List.length_append, List.length_cons, List.length_take, List.length_drop] at hj; rw [List.length_drop]; omega)) (by rw [List.getElem_drop]; exact List.getElem?_eq_getElem _)
        rw [show i + 1 + (j - i - 1) = j by omega] at h3
        rw [h3]
        congr 2
        rw [List.getElem_cons]
        simp only [e1]
        rw [dif_neg (by omega)]
  by_cases hin : i < n
  · have h := Any2.slices_Insert_string_shift inLaid g 0 n (n + 1) i vb 0 1 1 (ms.map Value.string) [.string m] w hin (by omega) (Nat.le_refl _) (by omega) hne (by rw [List.length_map, hl]) rfl
      (fun j v hj => by
        rw [List.getElem?_map] at hj
        obtain ⟨s, hs, rfl⟩ := Option.map_eq_some_iff.1 hj
        rw [Nat.zero_add]; exact hR.cell hs)
      (fun j hj => by rw [Nat.zero_add]; exact hR.some_ hj) (fun j hj => by rw [Nat.zero_add]; exact hB.frozen j) hvs
      (fun v hv => by obtain ⟨s, _, rfl⟩ := List.mem_map.1 hv; rfl) h1v
      9 9 1 (n + 1) (shape_of hV rfl) (shape_of hB hsz) (by omega) (hV.frozen 0) (hV.frozen 1)
    refine h.mono fun e w' ⟨he, hw⟩ => ⟨he, ?_, ?_, ?_⟩
    · subst hw
      refine fin _ ?_ (fun j hj => ?_) ?_ (fun j s hs => ?_)
      · exact (show w.grownBy w.drew (some g) from ⟨rfl, rfl, rfl, Nat.le_refl _, fun _ _ _ => rfl⟩).trans ((grown_setCells _ _ _ _).trans (grown_setCells _ _ _ _))
      · rw [World.cell?_setCells_out _ _ _ _ _ (fun _ _ => .inl (by show j < 0 + i; omega)), World.cell?_setCells_out _ _ _ _ _ (fun _ _ => .inl (by show j < 0 + (i + 1); omega))]; rfl
      · have := World.cell?_setCells_in g [Value.string m] (0 + i) (w.drew.setCells g (0 + (i + 1)) ((ms.map Value.string).drop i)) (fun j hj => World.isSome_setCells _ _ _ _ _ (by rw [List.length_singleton] at hj; rw [show 0 + i + j = i by omega]; exact hR.some_ (by omega))) 0 (by simp)
        simpa using this
      · have hj := (List.getElem?_eq_some_iff.1 hs).1
        rw [World.cell?_setCells_out _ _ _ _ _ (fun _ _ => .inr (by show 0 + i + 1 ≤ i + 1 + j; omega))]
        have hd : ((ms.map Value.string).drop i).length = n - i := by rw [List.length_drop, List.length_map, hl]
        have := World.cell?_setCells_in g ((ms.map Value.string).drop i) (0 + (i + 1)) w.drew (fun j hj => by rw [hd] at hj; rw [show 0 + (i + 1) + j = i + 1 + j by omega]; exact hR.some_ (by omega)) j (by rw [hd]; omega)
        rw [show 0 + (i + 1) + j = i + 1 + j by omega] at this
        rw [this, List.getElem_drop, List.getElem_map]
        obtain ⟨h1, h2⟩ := List.getElem?_eq_some_iff.1 hs
        rw [h2]
    · subst hw
      exact (show w.grownBy w.drew (some g) from ⟨rfl, rfl, rfl, Nat.le_refl _, fun _ _ _ => rfl⟩).trans ((grown_setCells _ _ _ _).trans (grown_setCells _ _ _ _))
    · subst hw
      obtain ⟨cs1, h1⟩ := blk_setCells ((ms.map Value.string).drop i) w.drew (0 + (i + 1)) cur hB
      exact blk_setCells _ _ _ _ h1
  · obtain rfl : i = n := by omega
    have h := Any2.slices_Insert_string_end_room inLaid g 0 i (i + 1) vb 0 1 1 [.string m] w (by omega) (Nat.le_refl _) (by omega) rfl
      (fun j hj => by rw [show 0 + i + j = i by omega]; exact hR.some_ (by omega)) (fun j hj => by rw [show 0 + i + j = i by omega]; exact hB.frozen i) hvs h1v
    refine h.mono fun e w' ⟨he, hw⟩ => ⟨he, ?_, ?_, ?_⟩
    · subst hw
      refine fin _ (grown_setCells _ _ _ _) (fun j hj => ?_) ?_ (fun j s hs => ?_)
      · rw [World.cell?_setCells_out _ _ _ _ _ (fun _ _ => .inl (by show j < 0 + i; omega))]
      · have := World.cell?_setCells_in g [Value.string m] (0 + i) w (fun j hj => by rw [List.length_singleton] at hj; rw [show 0 + i + j = i by omega]; exact hR.some_ (by omega)) 0 (by simp)
        simpa using this
      · exact absurd (List.getElem?_eq_some_iff.1 hs).1 (by omega)
    · subst hw; exact grown_setCells _ _ _ _
    · subst hw; exact blk_setCells _ _ _ _ hB
end Go.Proofs.Ytnfncnpnkmjjeaa
