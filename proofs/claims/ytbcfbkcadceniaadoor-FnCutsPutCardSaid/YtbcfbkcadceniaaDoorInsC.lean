/- slices.Insert at cuts, where there is room: walked over this dump. -/
import Derived.Test.YtbcfbkcadceniaaDoorPPut
import Derived.Test.YtbcfbkcadceniaaDoorCuts
import Derived.Shelf.Spec.SlicesInsert
import Derived.Laws.CopyRow
import Derived.Laws.OwnMore
namespace Go.Proofs.YtbcfbkcadceniaaDoor
set_option linter.unusedVariables false
set_option linter.unusedSimpArgs false
open Go.RowKit Go.Shelf

def flatC (l : List Cut) : List Value := l.flatMap cutCells
theorem flatC_len (l : List Cut) : (flatC l).length = l.length * 2 := flat_len cutCells_len l
theorem flatC_one (l : List Cut) : ∀ u ∈ flatC l, u.oneCell' = true := cuts_one l
theorem flatC_take (l : List Cut) (k : Nat) : flatC (l.take k) = (flatC l).take (k * 2) := flat_take cutCells_len l k
theorem flatC_drop (l : List Cut) (k : Nat) : flatC (l.drop k) = (flatC l).drop (k * 2) := flat_drop cutCells_len l k
theorem flatC_app (a b : List Cut) : flatC (a ++ b) = flatC a ++ flatC b := by unfold flatC; rw [List.flatMap_append]
/-- copying whole elements into a row that is known. -/
theorem run_copy_rows {P : Program} (w : World) (dT sT ty elem : TypeId) (size g o dLen dCap : Nat) (a : Addr) (sLen sCap : Nat) (cur : Array Value) (t : TypeId) (cs : List Value)
    (hu : P.underlying dT = some (.slice elem)) (hs : (P.info? elem).map (·.size) = some size)
    (hg : w.heap[g]? = some (.cells cur t (0, 0))) (hn : cs.length = Nat.min sLen dLen * size)
    (hsrc : ∀ j v, cs[j]? = some v → w.cell? (a.add j) = some v) (hfit : o + cs.length ≤ cur.size) (h1 : ∀ v ∈ cs, v.oneCell' = true) :
    (Builtin.copy_ #[dT, sT] ty #[.slice (some ⟨g, o, none⟩) dLen dCap, .slice (some a) sLen sCap]).run P w =
      .ok (goInt (Nat.min sLen dLen)) (w.setRow g (cur.toList.take o ++ cs ++ cur.toList.drop (o + cs.length)).toArray) := by
  have hl := run_loadCells_list (P := P) w a cs hsrc
  have hst := run_storeCells_at P g o t cs 0 cur w hg (by simpa using hfit) h1
  cases hq : P.info? elem with
  | none => simp [hq] at hs
  | some i =>
    have hi : i.size = size := by simpa [hq] using hs
    simp [Builtin.copy_, run_underlying hu, Builtin.lenOf, Builtin.firstCells, sizeOf, typeInfo, hq, hi, ← hn, hl, hst]
/-- a row of cuts with room for one more. -/
def RowC (w : World) (g n : Nat) (cs : List Cut) : Prop := ∃ cur, Blk w g 42 cur ∧ cur.size = (n + 1) * 2 ∧ cs.length = n ∧ cur.toList.take (n * 2) = flatC cs
theorem RowC.cell {w : World} {g n : Nat} {cs : List Cut} (h : RowC w g n cs) {j : Nat} {v : Value} (hj : (flatC cs)[j]? = some v) : w.cell? ⟨g, j, none⟩ = some v := by
  obtain ⟨cur, hB, hs, hl, ht⟩ := h
  rw [hB.cell j, ← Array.getElem?_toList]
  rw [← ht] at hj
  rw [List.getElem?_take] at hj
  split at hj
  · exact hj
  · cases hj
theorem RowC.row {w : World} {g n : Nat} {cs : List Cut} (h : RowC w g n cs) : Row cutCells 2 w w.heap.size (some ⟨g, 0, none⟩) n cs := by
  obtain ⟨cur, hB, hs, hl, ht⟩ := h
  refine ⟨hl, ?_, fun _ => ⟨g, 0, rfl, hB.lt, fun j hj => ?_⟩⟩
  · have := flatC_len cs
    unfold flatC at this
    rw [this, hl]
  · rw [Nat.zero_add]
    exact RowC.cell ⟨cur, hB, hs, hl, ht⟩ (List.getElem?_eq_getElem hj)
theorem RowC.frozen {w : World} {g n : Nat} {cs : List Cut} (h : RowC w g n cs) (j : Nat) : w.frozen? ⟨g, j, none⟩ = false := by
  obtain ⟨cur, hB, _⟩ := h; exact hB.frozen j
theorem RowC.next {w w' : World} {g n : Nat} {cs : List Cut} (h : RowC w g n cs) (hb : Below w.heap.size w w') : RowC w' g n cs := by
  obtain ⟨cur, hB, h1, h2, h3⟩ := h; exact ⟨cur, hB.next hb, h1, h2, h3⟩
theorem RowC.lt {w : World} {g n : Nat} {cs : List Cut} (h : RowC w g n cs) : g < w.heap.size := by obtain ⟨cur, hB, _⟩ := h; exact hB.lt
theorem shape_blk {w : World} {g k : Nat} {T : TypeId} {cur : Array Value} (h : Blk w g T cur) (hk : cur.size = k) : w.shape? g = some (T, k) := by
  unfold Blk at h
  simp [World.shape?, h, hk]
theorem blk_row_whole {w : World} {g : Nat} {l : List Cut} (h : Blk w g 42 (flatC l).toArray) : Row cutCells 2 w w.heap.size (some ⟨g, 0, none⟩) l.length l := by
  refine ⟨rfl, flatC_len l, fun _ => ⟨g, 0, rfl, h.lt, fun j hj => ?_⟩⟩
  rw [Nat.zero_add, h.cell j]
  simp [flatC, List.getElem?_eq_getElem hj]

theorem grown_setRow (w : World) (g : Nat) (cs : Array Value) : w.grownBy (w.setRow g cs) (some g) := ⟨rfl, rfl, rfl, by simp, fun k _ hk => setRow_other w g k _ (fun e => hk (by rw [e]))⟩
theorem infoCut : (Tryd.prog.info? 42).map (fun i => (i.zero, i.size, i.bytes)) = some (some (.agg #[.string ⟨#[]⟩, .int .i64 0]), 2, 24) := by kernel_rfl
/-- a row of N elements' room, its first ones known. -/
def RowN (w : World) (g N : Nat) (l : List Cut) : Prop := ∃ cur, Blk w g 42 cur ∧ cur.size = N * 2 ∧ cur.toList.take (l.length * 2) = flatC l
theorem RowN.c {w : World} {g n : Nat} {l : List Cut} (h : RowN w g (n + 1) l) (hl : l.length = n) : RowC w g n l := by
  obtain ⟨cur, h1, h2, h3⟩ := h; exact ⟨cur, h1, h2, hl, by rw [← hl]; exact h3⟩
theorem RowC.n {w : World} {g n : Nat} {l : List Cut} (h : RowC w g n l) : RowN w g (n + 1) l := by
  obtain ⟨cur, h1, h2, h3, h4⟩ := h; exact ⟨cur, h1, h2, by rw [h3]; exact h4⟩
theorem RowN.whole {w : World} {g N : Nat} {l : List Cut} (h : RowN w g N l) (hl : l.length = N) : Blk w g 42 (flatC l).toArray := by
  obtain ⟨cur, h1, h2, h3⟩ := h
  have e : cur = (flatC l).toArray := by
    rw [← h3, List.take_of_length_le (by rw [Array.length_toList, h2, hl]; omega)]
  rw [← e]; exact h1
theorem fits_run (w : World) (ty : TypeId) (g k N m c : Nat) (l l2 : List Cut) (ad : Addr) (hR : RowN w g N l) (hk : l.length = k) (hm : l2.length = m) (hroom : k + m ≤ N) (hN : N ≤ 1000000) (hsrc : ∀ j u, (flatC l2)[j]? = some u → w.cell? (ad.add j) = some u) :
    ∃ w', (Builtin.append_ #[24, 24] ty #[.slice (some ⟨g, 0, none⟩) k N, .slice (some ad) m c]).run Tryd.prog w = .ok (.slice (some ⟨g, 0, none⟩) (k + m) N) w' ∧ RowN w' g N (l ++ l2) ∧ w.grownBy w' (some g) := by
  obtain ⟨i0, hi, iz0, iz1, iz2⟩ := info_parts infoCut
  obtain ⟨cur, hB, hs, ht⟩ := hR
  have hown : w.ownsRow 0 42 2 (.slice (some ⟨g, 0, none⟩) k N) k (flatC l) := ⟨by rw [flatC_len, hk], .inr ⟨g, N, cur, rfl, Nat.zero_le _, hB, by omega, by unfold maxLen; omega, hs, by rw [← hk]; exact ht⟩⟩
  obtain ⟨w', hr, h2, h3⟩ := run_append_fits (P := Tryd.prog) w 0 24 ty 42 i0 2 Tryd.underlying24 hi iz1 g k N (flatC l) hown ad m c (flatC l2) (by rw [flatC_len, hm]) hsrc (flatC_one l2) hroom
  refine ⟨w', hr, ?_, h3⟩
  rcases h2.2 with ⟨h4, _⟩ | ⟨g', cap', cur', h4, _, hg', _, _, hsz', ht'⟩
  · injection h4 with h5; cases h5
  · simp only [Value.slice.injEq, Option.some.injEq, Addr.mk.injEq, and_true, true_and] at h4
    obtain ⟨rfl, rfl⟩ := h4
    exact ⟨cur', hg', hsz', by rw [List.length_append, hk, hm, ht', flatC_app]⟩
theorem fits_list {ops : Array Oper} {rest : List Oper} {o : Oper} {a : Act} {Q : Exit → Act → World → Prop} (w : World) (hgd : o.guard = none) (s x : Operand)
    (ho : o.op = .call { callee := .builtin .append, args := #[s, x], argTypes := #[24, 24] }) (g k N m c : Nat) (l l2 : List Cut) (hR : RowN w g N l) (hs : a.eval s = .slice (some ⟨g, 0, none⟩) k N) (hk : l.length = k) (A : Option Addr) (hx : a.eval x = .slice A m c) (hnil : A = none → c = 0) (hsl : Sl w w.heap.size 2 A m (flatC l2)) (hroom : k + m ≤ N) (hN : N ≤ 1000000)
    (h : ∀ w', RowN w' g N (l ++ l2) → w.grownBy w' (some g) → wpList Tryd.prog ops Q rest (a.put o.dst (.slice (some ⟨g, 0, none⟩) (k + m) N)) w') :
    wpList Tryd.prog ops Q (o :: rest) a w := by
  have hm : l2.length = m := by have := hsl.1; rw [flatC_len] at this; omega
  cases A with
  | none =>
    obtain rfl := hnil rfl
    obtain rfl : m = 0 := by
      cases m with
      | zero => rfl
      | succ m => obtain ⟨b, off, e, _⟩ := hsl.2 (by omega); cases e
    obtain rfl : l2 = [] := List.eq_nil_of_length_eq_zero hm
    obtain ⟨i0, hi, iz0, iz1, iz2⟩ := info_parts infoCut
    obtain ⟨cur, hB, hs', ht⟩ := hR
    have hown : w.ownsRow 0 42 2 (.slice (some ⟨g, 0, none⟩) k N) k (flatC l) := ⟨by rw [flatC_len, hk], .inr ⟨g, N, cur, rfl, Nat.zero_le _, hB, by omega, by unfold maxLen; omega, hs', by rw [← hk]; exact ht⟩⟩
    refine wpList_append_own_none hgd s x 24 ho 0 42 i0 2 Tryd.underlying24 hi _ k (flatC l) hs hown hx ?_
    exact h w (by rw [List.append_nil]; exact ⟨cur, hB, hs', ht⟩) ⟨rfl, rfl, rfl, Nat.le_refl _, fun _ _ _ => rfl⟩
  | some ad =>
    obtain ⟨w', hr, h2, h3⟩ := fits_run w o.type g k N m c l l2 ad hR hk hm hroom hN (fun j u hj => by
      obtain ⟨hj1, hj2⟩ := List.getElem?_eq_some_iff.1 hj
      have hmp : 0 < m := by rw [flatC_len] at hj1; omega
      obtain ⟨b, off, e, hb, hxx⟩ := hsl.2 hmp
      obtain rfl := Option.some.inj e
      have e2 : (⟨b, off, none⟩ : Addr).add j = ⟨b, off + j, none⟩ := by simp [Addr.add]
      rw [e2, hxx j hj1, hj2])
    refine wpList_plain hgd fun K hK => ?_
    unfold Oper.wp execOp
    simp only [ho, resolve, invoke, builtin, Sem.run_bind, Sem.run_pure, Result.andThen_ok, List.map_toArray, List.map_cons, List.map_nil, hs, hx, hr]
    exact hK _ _ (h w' h2 h3)

set_option maxHeartbeats 4000000 in
set_option maxRecDepth 100000 in
theorem insertCut_any (g n i vb : Nat) (cs : List Cut) (c : Cut) (w : World) (hR : RowC w g n cs) (hV : Blk w vb 42 #[.string c.name, .int .i64 c.at_]) (hne : vb ≠ g) (hi : i ≤ n) (hn : n ≤ 1000) :
    Calls Tryd.prog 58 #[.slice (some ⟨g, 0, none⟩) n (n + 1), .int .i64 i, .slice (some ⟨vb, 0, none⟩) 1 1] w fun e w' =>
      e = .returned (.slice (some ⟨g, 0, none⟩) (n + 1) (n + 1)) ∧ Blk w' g 42 (flatC (cs.take i ++ c :: cs.drop i)).toArray ∧ w.grownBy w' (some g) := by
  obtain ⟨cur, hB, hsz, hcl, htk⟩ := hR
  have hsz2 : (Tryd.prog.info? 42).map (·.size) = some 2 := by kernel_rfl
  have hf1 : ∀ k, (cs.drop k).length = n - k := fun k => by rw [List.length_drop, hcl]
  have hv2 : ∀ j v, (cutCells c)[j]? = some v → w.cell? ⟨vb, j, none⟩ = some v := fun j v hj => by
    rw [hV.cell j]
    match j, hj with
    | 0, hj => exact hj
    | 1, hj => exact hj
  by_cases hin : i < n
  · have hov : ∀ lb cb, (callFunc 82 #[.slice (some ⟨vb, 0, none⟩) 1 1, .slice (some ⟨g, (i + 1) * 2, none⟩) lb cb]).run Tryd.prog w = .ok (.value (.bool false)) w := fun lb cb => by
      rw [run_callFunc_extern Tryd.func82 (by kernel_rfl) (by kernel_rfl) (by kernel_rfl) (e := Extern.SlicesOverlaps.overlaps #[24, 24] #[4]) (by kernel_rfl),
        Lib.run_overlaps_apart w 24 4 42 Tryd.underlying24 2 Tryd.sizeOf42 ⟨vb, 0, none⟩ ⟨g, (i + 1) * 2, none⟩ 1 1 lb cb hne 42 42 2 ((n + 1) * 2) (shape_blk hV rfl) (shape_blk hB hsz) (by omega) (hV.frozen 0) (hV.frozen 2)]
      rfl
    have hk1 : Nat.min (n + 1 - i) (n - i) = n - i := by simp only [Nat.min_def]; split <;> omega
    have hk2 : Nat.min 1 (n + 1 - i) = 1 := by simp only [Nat.min_def]; split <;> omega
    obtain ⟨l1, hl1⟩ : ∃ l1, l1 = cur.toList.take ((i + 1) * 2) ++ flatC (cs.drop i) ++ cur.toList.drop ((i + 1) * 2 + (flatC (cs.drop i)).length) := ⟨_, rfl⟩
    have hfd : (flatC (cs.drop i)).length = (n - i) * 2 := by rw [flatC_len, hf1]
    have hcp1 : ∀ ty dc sc, (Builtin.copy_ #[24, 24] ty #[.slice (some ⟨g, (i + 1) * 2, none⟩) (n - i) dc, .slice (some ⟨g, i * 2, none⟩) (n + 1 - i) sc]).run Tryd.prog w.drew = .ok (goInt (n - i : Nat)) (w.drew.setRow g l1.toArray) := fun ty dc sc => by
      have := run_copy_rows (P := Tryd.prog) w.drew 24 24 ty 42 2 g ((i + 1) * 2) (n - i) dc ⟨g, i * 2, none⟩ (n + 1 - i) sc cur 42 (flatC (cs.drop i)) Tryd.underlying24 hsz2 hB (by rw [hk1, hfd])
        (fun j v hj => by
          have e2 : (⟨g, i * 2, none⟩ : Addr).add j = ⟨g, i * 2 + j, none⟩ := by simp [Addr.add]
          rw [e2]
          rw [flatC_drop, List.getElem?_drop] at hj
          exact RowC.cell ⟨cur, hB, hsz, hcl, htk⟩ hj)
        (by rw [hfd, hsz]; omega) (flatC_one _)
      rw [hk1, ← hl1] at this
      exact this
    have hl1s : l1.length = (n + 1) * 2 := by
      rw [hl1, List.length_append, List.length_append, List.length_take, List.length_drop, hfd, Array.length_toList, hsz]; omega
    obtain ⟨W1, hW1⟩ : ∃ W1, W1 = w.drew.setRow g l1.toArray := ⟨_, rfl⟩
    have hB1 : Blk W1 g 42 l1.toArray := by rw [hW1]; exact setRow_heap w.drew g cur _ _ _ hB
    have hV1 : ∀ j, W1.cell? ⟨vb, j, none⟩ = w.cell? ⟨vb, j, none⟩ := fun j => by rw [hW1]; exact World.cell?_of_block (setRow_other w.drew g vb _ (fun e => hne e))
    obtain ⟨l2, hl2⟩ : ∃ l2, l2 = l1.take (i * 2) ++ cutCells c ++ l1.drop (i * 2 + 2) := ⟨_, rfl⟩
    have hcp2 : ∀ ty dc, (Builtin.copy_ #[24, 24] ty #[.slice (some ⟨g, i * 2, none⟩) (n + 1 - i) dc, .slice (some ⟨vb, 0, none⟩) 1 1]).run Tryd.prog W1 = .ok (goInt (1 : Nat)) (W1.setRow g l2.toArray) := fun ty dc => by
      have := run_copy_rows (P := Tryd.prog) W1 24 24 ty 42 2 g (i * 2) (n + 1 - i) dc ⟨vb, 0, none⟩ 1 1 l1.toArray 42 (cutCells c) Tryd.underlying24 hsz2 hB1 (by rw [hk2]; rfl)
        (fun j v hj => by
          have e2 : (⟨vb, 0, none⟩ : Addr).add j = ⟨vb, j, none⟩ := by unfold Addr.add; split <;> simp_all
          rw [e2, hV1]
          exact hv2 j v hj)
        (by rw [cutCells_len]; simp only [List.size_toArray, hl1s]; omega) (fun u hu => by simp [cutCells] at hu; rcases hu with rfl | rfl <;> rfl)
      rw [hk2, cutCells_len] at this
      rw [hl2]
      simpa using this
    have hfin : l2 = flatC (cs.take i ++ c :: cs.drop i) := by
      have e1 : l1.take (i * 2) = flatC (cs.take i) := by
        rw [hl1, List.append_assoc, List.take_append_of_le_length (by rw [List.length_take, Array.length_toList, hsz]; omega), List.take_take, flatC_take, ← htk, List.take_take]
        congr 1
        simp only [Nat.min_def]; split <;> split <;> omega
      have e2 : l1.drop (i * 2 + 2) = flatC (cs.drop i) := by
        have e3 : (cur.toList.take ((i + 1) * 2)).length = i * 2 + 2 := by rw [List.length_take, Array.length_toList, hsz]; omega
        have e4 : cur.toList.drop ((i + 1) * 2 + (flatC (cs.drop i)).length) = [] := List.drop_eq_nil_of_le (by rw [hfd, Array.length_toList, hsz]; omega)
        rw [hl1, e4, List.append_nil, List.drop_left' e3]
      rw [hl2, e1, e2, flatC_app]
      show flatC (cs.take i) ++ cutCells c ++ flatC (cs.drop i) = flatC (cs.take i) ++ (cutCells c ++ flatC (cs.drop i))
      rw [List.append_assoc]
    rw [← hW1] at hcp1
    have mixed : Tryd.prog.follows .mixedOrders = true := by kernel_rfl
    have hw1 : IntKind.i64.wrap ((i : Int) + 1) = (i : Int) + 1 := by rw [IntKind.wrap_i64]; omega
    have hz2 : ¬ ((i : Int) = (n : Int)) := by omega
    have hb1 : (0 : Int) ≤ (i : Int) + 1 := by omega
    have hb2 : ¬ (n = i) := by omega
    have hb3 : (i : Int) ≤ (n : Int) + 1 := by omega
    have hb4 : ¬ (n + 1 = i) := by omega
    have hHB1 := Lib.hid hB1
    have Hfin := Lib.hid hfin
    have HW1 := Lib.hid hW1
    clear hB1 hfin hl1 hl2 hW1 hV1 hv2 hV htk hf1 hfd hl1s hk1 hk2
    go_enter Tryd.func58, Tryd.ntmps58
    go_wp2_with (simp only [hov])
    go_region_law_o (refine step_copy_runI rfl _ _ 24 24 rfl _ _ (by simp [Act.eval, Act.put]) (by simp [Act.eval, Act.put]) (hcp1 _ _ _) ?_)
    all_goals
      go_wp2_with (at_builtin; refine wpList_copy_runI _ rfl _ _ 24 24 rfl _ _ rfl rfl (hcp2 _ _) ?_)
      go_ret
      refine ⟨rfl, by rw [← Hfin.out]; exact setRow_heap W1 g l1.toArray _ _ _ hHB1.out, ?_⟩
      have g1 : w.grownBy W1 (some g) := by rw [HW1.out]; exact (show w.grownBy w.drew (some g) from ⟨rfl, rfl, rfl, Nat.le_refl _, fun _ _ _ => rfl⟩).trans (grown_setRow _ _ _)
      exact g1.trans (grown_setRow _ _ _)
  · obtain rfl : i = n := by omega
    have HR := Lib.hid (RowC.n (w := w) (g := g) (n := i) (l := cs) ⟨cur, hB, hsz, hcl, htk⟩)
    have HS : Hid (Sl w w.heap.size 2 (some ⟨vb, 0, none⟩) 1 (flatC [c])) := Lib.hid ⟨rfl, fun _ => ⟨vb, 0, rfl, hV.lt, fun j hj => by
      rw [Nat.zero_add]
      exact hv2 j _ (List.getElem?_eq_getElem hj)⟩⟩
    have hz2 : ((i : Int) == (i : Int)) = true := beq_self_eq_true _
    clear hv2 hV htk hB
    go_enter Tryd.func58, Tryd.ntmps58
    go_wp2_with (at_builtin; go_must (refine fits_list w rfl _ _ rfl g i (i + 1) 1 1 cs [c] HR.out rfl hcl (some ⟨vb, 0, none⟩) rfl (fun e => by cases e) HS.out (Nat.le_refl _) (by omega) ?_; intro w2 hR2 hg2))
    go_ret
    refine ⟨rfl, ?_, hg2⟩
    rw [List.take_of_length_le (by omega), List.drop_of_length_le (by omega)]
    exact hR2.whole (by simp [hcl])
end Go.Proofs.YtbcfbkcadceniaaDoor
