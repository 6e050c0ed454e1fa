/- Sets of ids, a bit for each: the program's. -/
import Derived.Test.YtdmffpjljaolcaaDoorSVal
import Derived.Laws.Tables
import Derived.Laws.CopyOwn
import Derived.BigRegion
import Derived.IntWalk
namespace Go.Proofs.YtdmffpjljaolcaaDoor
set_option linter.unusedVariables false
set_option linter.unusedSimpArgs false
open Go.RowKit

def u64s (arr : List Nat) : Array Value := (arr.map fun x : Nat => Value.int .u64 (x : Int)).toArray
/-- the numbers hold a bit for each id of the events. -/
def IdSet (arr : List Nat) (es : List Ev) : Prop := arr.length = 157 ∧ (∀ a ∈ arr, a < 2 ^ 64) ∧ ∀ i : Nat, i ≤ 9999 → ((arr.getD (i / 64) 0).testBit (i % 64) = true ↔ ∃ e ∈ es, e.id = (i : Int))
def ids0 : List Nat := List.replicate 157 0
theorem idSet_0 : IdSet ids0 [] := by
  refine ⟨rfl, fun a ha => ?_, fun i hi => ?_⟩
  · rw [List.eq_of_mem_replicate ha]; decide
  · have : ids0.getD (i / 64) 0 = 0 := by
      unfold ids0
      rw [List.getD_eq_getElem?_getD, List.getElem?_replicate]
      split <;> rfl
    rw [this, Nat.zero_testBit]
    simp
theorem idSet_snoc {arr : List Nat} {es : List Ev} (h : IdSet arr es) (e : Ev) (j : Nat) (hj : e.id = (j : Int)) (hj2 : j ≤ 9999) : IdSet (arr.set (j / 64) (arr.getD (j / 64) 0 ||| 2 ^ (j % 64))) (es ++ [e]) := by
  obtain ⟨h1, h2, h3⟩ := h
  have hq : j / 64 < arr.length := by rw [h1]; omega
  refine ⟨by rw [List.length_set, h1], fun a ha => ?_, fun i hi => ?_⟩
  · rcases List.mem_or_eq_of_mem_set ha with h4 | h4
    · exact h2 a h4
    · rw [h4]
      refine Nat.or_lt_two_pow (h2 _ ?_) (Nat.pow_lt_pow_right (by decide) (Nat.mod_lt _ (by decide)))
      rw [List.getD_eq_getElem?_getD, List.getElem?_eq_getElem hq]; exact List.getElem_mem hq
  · have h4 := h3 i hi
    rw [List.getD_eq_getElem?_getD, List.getElem?_set]
    have hi' : i / 64 < arr.length := by rw [h1]; omega
    by_cases hq2 : j / 64 = i / 64
    · rw [if_pos hq2, if_pos hq, Option.getD_some, hq2, Nat.testBit_or, Bool.or_eq_true, h4, Nat.testBit_two_pow]
      constructor
      · rintro (⟨e', he, h5⟩ | h5)
        · exact ⟨e', List.mem_append_left _ he, h5⟩
        · have := of_decide_eq_true h5
          exact ⟨e, by simp, by rw [hj]; omega⟩
      · rintro ⟨e', he, h5⟩
        rcases List.mem_append.1 he with h6 | h6
        · exact .inl ⟨e', h6, h5⟩
        · rw [List.mem_singleton] at h6
          subst h6
          exact .inr (decide_eq_true (by omega))
    · rw [if_neg hq2, ← List.getD_eq_getElem?_getD, h4]
      constructor
      · rintro ⟨e', he, h5⟩; exact ⟨e', List.mem_append_left _ he, h5⟩
      · rintro ⟨e', he, h5⟩
        rcases List.mem_append.1 he with h6 | h6
        · exact ⟨e', h6, h5⟩
        · rw [List.mem_singleton] at h6
          subst h6
          exfalso; apply hq2; omega
theorem bits_or_u64 (a s : Nat) (ha : a < 2 ^ 64) (hs : s < 64) : bits .or .u64 (a : Int) (IntKind.u64.wrap (2 ^ s)) = ((a ||| 2 ^ s : Nat) : Int) := by
  have h2 : (2 : Nat) ^ s < 2 ^ 64 := Nat.pow_lt_pow_right (by decide) hs
  have e0 : ((2 : Int) ^ s) = ((2 ^ s : Nat) : Int) := by simp
  rw [e0]
  generalize 2 ^ s = p at h2
  have e1 : IntKind.u64.wrap (p : Int) = (p : Int) := IntWalk.u64_in _ (by omega)
  rw [e1]
  have ofInt : ∀ a : Nat, a < 2 ^ 64 → (BitVec.ofInt 64 (a : Int)).toNat = a := fun a ha => by
    rw [BitVec.ofInt_natCast, BitVec.toNat_ofNat]; exact Nat.mod_eq_of_lt ha
  have hx : a ||| p < 2 ^ 64 := Nat.or_lt_two_pow ha h2
  show IntKind.u64.wrap ((BitVec.ofInt 64 (a : Int) ||| BitVec.ofInt 64 (p : Int)).toNat : Int) = _
  rw [BitVec.toNat_or, ofInt a ha, ofInt _ h2]
  exact IntWalk.u64_in _ (by omega)
theorem bits_and_u64 (a s : Nat) (ha : a < 2 ^ 64) (hs : s < 64) : (bits .and .u64 (a : Int) (IntKind.u64.wrap (2 ^ s)) != 0) = a.testBit s := by
  have h2 : (2 : Nat) ^ s < 2 ^ 64 := Nat.pow_lt_pow_right (by decide) hs
  have h3 : 0 < (2 : Nat) ^ s := Nat.two_pow_pos s
  have h4 : a &&& 2 ^ s = (a.testBit s).toNat * 2 ^ s := by
    apply Nat.eq_of_testBit_eq
    intro i
    rw [Nat.testBit_and, Nat.testBit_two_pow]
    by_cases hi : s = i
    · subst hi
      rw [decide_eq_true rfl, Bool.and_true]
      cases a.testBit s with
      | false => simp
      | true => rw [Bool.toNat_true, Nat.one_mul, Nat.testBit_two_pow_self]
    · rw [decide_eq_false hi, Bool.and_false]
      cases a.testBit s with
      | false => simp
      | true => rw [Bool.toNat_true, Nat.one_mul, Nat.testBit_two_pow_of_ne hi]
  have e0 : ((2 : Int) ^ s) = ((2 ^ s : Nat) : Int) := by simp
  rw [e0]
  generalize 2 ^ s = p at h2 h3 h4
  have e1 : IntKind.u64.wrap (p : Int) = (p : Int) := IntWalk.u64_in _ (by omega)
  rw [e1]
  have ofInt : ∀ a : Nat, a < 2 ^ 64 → (BitVec.ofInt 64 (a : Int)).toNat = a := fun a ha => by
    rw [BitVec.ofInt_natCast, BitVec.toNat_ofNat]; exact Nat.mod_eq_of_lt ha
  have hx : a &&& p < 2 ^ 64 := Nat.lt_of_le_of_lt Nat.and_le_left ha
  have e2 : bits .and .u64 (a : Int) (p : Int) = ((a &&& p : Nat) : Int) := by
    show IntKind.u64.wrap ((BitVec.ofInt 64 (a : Int) &&& BitVec.ofInt 64 (p : Int)).toNat : Int) = _
    rw [BitVec.toNat_and, ofInt a ha, ofInt _ h2]
    exact IntWalk.u64_in _ (by omega)
  rw [e2, h4]
  cases a.testBit s with
  | false => simp
  | true =>
    rw [Bool.toNat_true, Nat.one_mul]
    have : ((p : Int) == 0) = false := beq_eq_false_iff_ne.2 (by omega)
    rw [bne, this]; rfl
theorem u64s_size (arr : List Nat) : (u64s arr).size = arr.length := by simp [u64s]
theorem u64s_set (arr : List Nat) (q a : Nat) : (u64s arr).setIfInBounds q (.int .u64 (a : Int)) = u64s (arr.set q a) := by
  unfold u64s
  rw [List.setIfInBounds_toArray, List.map_set]
theorem u64s_one (arr : List Nat) : (u64s arr).all (·.oneCell') = true := by
  unfold u64s
  rw [List.all_toArray, List.all_map, List.all_eq_true]
  intro x _
  rfl
def IdsRet (es : List Ev) (w : World) (e : Ending) (w' : World) : Prop := ∃ arr : List Nat, e = .returned (.agg (u64s arr)) ∧ Hid (IdSet arr es) ∧ Below w.heap.size w w'
theorem zeros_are : Tryd.zeroCells80 = u64s ids0 := by kernel_rfl

set_option maxRecDepth 100000 in
set_option maxHeartbeats 4000000 in
theorem idsOf_any (A : Option Addr) (n c : Nat) (es : List Ev) (w : World) (h : Row evCells 3 w w.heap.size A n es) (hE : ∀ e ∈ es, 1 ≤ e.id ∧ e.id ≤ 9999) (hnb : n ≤ 1000000) :
    Calls Tryd.prog 66 #[.slice A n c] w (IdsRet es w) := by
  have H := Lib.hid h
  have Hl := Lib.hid h.1
  have HE := Lib.hid hE
  clear h hE
  go_enter Tryd.func66, Tryd.ntmps66
  go_wp2_with fail
  have Bz := Lib.hid (show Blk ((w.alloc (.cells Tryd.zeroCells80 80)).alloc (.cells Tryd.zeroCells80 80)) w.heap.size 80 (u64s ids0) from by rw [← zeros_are]; exact (Blk.new w _ _).alloc _)
  have Bi := Lib.hid (show Blk ((w.alloc (.cells Tryd.zeroCells80 80)).alloc (.cells Tryd.zeroCells80 80)) (w.heap.size + 1) 80 (u64s ids0) from by rw [← zeros_are]; have := Blk.new (w.alloc (.cells Tryd.zeroCells80 80)) 80 Tryd.zeroCells80; simpa using this)
  have Hb := Lib.hid (((Below.refl w.heap.size w).alloc (Nat.le_refl _) (.cells Tryd.zeroCells80 80)).alloc (by simp) (.cells Tryd.zeroCells80 80))
  go_loopw [8] (fun i wr => ∃ (k : Nat) (arr : List Nat), k ≤ n ∧ i = .int .i64 k ∧ Hid (IdSet arr (es.take k)) ∧ Blk wr (w.heap.size + 1) 80 (u64s arr) ∧ Blk wr w.heap.size 80 (u64s ids0) ∧ Below w.heap.size w wr) (fun i _ => n - (intOf i).toNat)
  case atStart => exact ⟨0, ids0, Nat.zero_le _, rfl, Lib.hid idSet_0, Bi.out, Bz.out, Hb.out⟩
  case round =>
    obtain ⟨k, arr, hk, rfl, HI, B1, B0, hnx⟩ := hrel
    have HB1 := Lib.hid B1
    have HB0 := Lib.hid B0
    have Hnx := Lib.hid hnx
    have hsz := B1.lt
    by_cases hlt : k < n
    · have hlt' : (k : Int) < (n : Int) := by omega
      obtain ⟨b, off, rfl, hb, hx⟩ := H.out.at_ evCells_len (by omega)
      have hke : es[k]? = some (nx es k) := nx_get (by rw [Hl.out]; exact hlt)
      have Htk := Lib.hid (take_nx (l := es) (k := k) (by rw [Hl.out]; exact hlt))
      have hid := HE.out _ (nx_mem (l := es) (k := k) (by rw [Hl.out]; exact hlt))
      obtain ⟨⟨id, kind, data⟩, he⟩ : ∃ e, nx es k = e := ⟨_, rfl⟩
      rw [he] at hke hid Htk
      have c0 : wr.cell? ⟨b, off + k * 3, none⟩ = some (.int .i64 id) := (hnx.cell (p := ⟨b, off + (k * 3 + 0), none⟩) hb).trans (hx _ _ hke 0 _ rfl)
      have c1 : wr.cell? ⟨b, off + k * 3 + 1, none⟩ = some (.string kind) := (hnx.cell (p := ⟨b, off + (k * 3 + 1), none⟩) hb).trans (hx _ _ hke 1 _ rfl)
      have c2 : wr.cell? ⟨b, off + k * 3 + 2, none⟩ = some (.int .i64 data) := (hnx.cell (p := ⟨b, off + (k * 3 + 2), none⟩) hb).trans (hx _ _ hke 2 _ rfl)
      obtain ⟨j, rfl⟩ : ∃ j : Nat, id = (j : Int) := ⟨id.toNat, by simp only at hid; omega⟩
      have hj1 : 1 ≤ j := by simp only at hid; omega
      have hj2 : j ≤ 9999 := by simp only at hid; omega
      clear hke he hx hnx hid B0 B1
      obtain ⟨q, hq⟩ : ∃ q : Nat, q = j / 64 := ⟨_, rfl⟩
      obtain ⟨s, hs⟩ : ∃ s : Nat, s = j % 64 := ⟨_, rfl⟩
      have d1 : (j : Int) / 64 = (q : Int) := by omega
      have d2 : (j : Int).tdiv 64 = (q : Int) := by rw [Int.tdiv_eq_ediv_of_nonneg (by omega)]; exact d1
      have d3 : (j : Int) % 64 = (s : Int) := by omega
      have d4 : (j : Int).tmod 64 = (s : Int) := by rw [Int.tmod_eq_emod_of_nonneg (by omega)]; exact d3
      have hq1 : q < 157 := by omega
      have hs1 : s < 64 := by omega
      obtain ⟨a, ha⟩ : ∃ a, a = arr.getD q 0 := ⟨_, rfl⟩
      have hal : q < arr.length := by rw [HI.out.1]; exact hq1
      have hcell : (u64s arr)[q]? = some (.int .u64 (a : Int)) := by unfold u64s; rw [ha, List.getD_eq_getElem?_getD, List.getElem?_eq_getElem hal]; simp [hal]
      have a64 : a < 2 ^ 64 := by rw [ha, List.getD_eq_getElem?_getD, List.getElem?_eq_getElem hal]; exact HI.out.2.1 _ (List.getElem_mem hal)
      have Ba := HB1.out.alloc (.cells #[.int .i64 (j : Int), .string kind, .int .i64 data] 29)
      have ca : ((wr.alloc (.cells #[.int .i64 (j : Int), .string kind, .int .i64 data] 29)).drew).cell? ⟨w.heap.size + 1, q, none⟩ = some (.int .u64 (a : Int)) := (Ba.cell q).trans hcell
      have fa : ((wr.alloc (.cells #[.int .i64 (j : Int), .string kind, .int .i64 data] 29)).drew).frozen? ⟨w.heap.size + 1, q, none⟩ = false := Ba.frozen q
      have cb : ((wr.alloc (.cells #[.int .i64 (j : Int), .string kind, .int .i64 data] 29)).drew).cell? ⟨wr.heap.size, 0, none⟩ = some (.int .i64 (j : Int)) := (Blk.new wr _ _).cell 0
      have Hj := Lib.hid (And.intro hq (And.intro hs ha))
      clear hq hs ha hcell hal Ba
      go_wp2_with fail
      go_region
      all_goals
        have hor := bits_or_u64 a s a64 hs1
        have B1' : Blk (((wr.setCell ⟨w.heap.size + 1, q, none⟩ (.int .u64 (bits .or .u64 (a : Int) (IntKind.u64.wrap (2 ^ s))))).alloc (.cells #[.int .i64 (j : Int), .string kind, .int .i64 data] 29)).drew) (w.heap.size + 1) 80 (u64s (arr.set q (a ||| 2 ^ s))) := by
          rw [hor, ← u64s_set]
          exact ((HB1.out.set_ q _).alloc _).drewN 1
        have B0' : Blk (((wr.setCell ⟨w.heap.size + 1, q, none⟩ (.int .u64 (bits .or .u64 (a : Int) (IntKind.u64.wrap (2 ^ s))))).alloc (.cells #[.int .i64 (j : Int), .string kind, .int .i64 data] 29)).drew) w.heap.size 80 (u64s ids0) :=
          ((HB0.out.far (by show w.heap.size ≠ w.heap.size + 1; omega) _).alloc _).drewN 1
        have Hn' : Below w.heap.size w (((wr.setCell ⟨w.heap.size + 1, q, none⟩ (.int .u64 (bits .or .u64 (a : Int) (IntKind.u64.wrap (2 ^ s))))).alloc (.cells #[.int .i64 (j : Int), .string kind, .int .i64 data] 29)).drew) :=
          below_drew_n ((Hnx.out.setCell (p := ⟨w.heap.size + 1, q, none⟩) (by show w.heap.size ≤ w.heap.size + 1; omega) _).alloc (by simp; omega) _) 1
        have HI' : Hid (IdSet (arr.set q (a ||| 2 ^ s)) (es.take (k + 1))) := Lib.hid (by
          have := idSet_snoc HI.out ⟨(j : Int), kind, data⟩ j rfl hj2
          rw [← Hj.out.1, ← Hj.out.2.1, ← Hj.out.2.2, ← Htk.out] at this
          exact this)
        clear hor ca fa cb c0 c1 c2
        go_wp2_with fail
        go_roundw
        case rel => exact ⟨k + 1, _, by omega, by go_num, HI', B1', B0', Hn'⟩
        case measure => simp [intOf]; omega
    · obtain rfl : k = n := by omega
      have hlt' : ¬ (k : Int) < (k : Int) := by omega
      have ht := Lib.hid (show es.take k = es by rw [← Hl.out]; exact List.take_length)
      rw [ht.out] at HI
      clear B1 B0 hnx
      have hsz1 : (Tryd.prog.info? 80).map (·.size) = some (u64s arr).size := by rw [u64s_size, HI.out.1]; kernel_rfl
      have hsz2 : (u64s ids0).size = (u64s arr).size := by rw [u64s_size, u64s_size, HI.out.1]; rfl
      go_wp2_with (first
        | (refine wpList_load_row rfl 80 (.tmp 3) rfl (w.heap.size + 1) rfl 80 (u64s arr) (0, 0) _ HB1.out Tryd.underlying80 rfl hsz1 ?_)
        | (refine wpList_store_row rfl 80 (.tmp 2) (.tmp 24) rfl w.heap.size (u64s arr) rfl rfl 80 (u64s ids0) HB0.out hsz1 hsz2 (u64s_one arr) ?_))
      refine bodyPost_ret (v := .agg (u64s arr)) (results_cell_row Tryd.results66 _ _ w.heap.size 80 (u64s arr) (0, 0) _ rfl (setRow_heap wr w.heap.size (u64s ids0) (u64s arr) 80 (0, 0) HB0.out) Tryd.underlying80 rfl hsz1) rfl ?_
      exact ⟨arr, rfl, HI, below_setRow Hnx.out (Nat.le_refl _) _⟩

/-- the numbers have the bit of an id. -/
theorem idSet_has {arr : List Nat} {es : List Ev} (h : IdSet arr es) (i : Nat) (hi : i ≤ 9999) : ((arr.getD (i / 64) 0).testBit (i % 64)) = decide (∃ e ∈ es, e.id = (i : Int)) := by
  have := h.2.2 i hi
  cases e : (arr.getD (i / 64) 0).testBit (i % 64) with
  | true => exact (decide_eq_true (this.1 e)).symm
  | false => exact (decide_eq_false (fun h2 => by rw [this.2 h2] at e; cases e)).symm
def hasId (es : List Ev) (id : Int) : Bool := decide (∃ e ∈ es, e.id = id)
theorem hasId_out {es : List Ev} {id : Int} (hE : ∀ e ∈ es, 1 ≤ e.id ∧ e.id ≤ 9999) (h : ¬ (1 ≤ id ∧ id ≤ 9999)) : hasId es id = false := decide_eq_false fun ⟨e, he, h2⟩ => h (h2 ▸ hE e he)
set_option maxRecDepth 100000 in
set_option maxHeartbeats 4000000 in
theorem has_any (g : Nat) (arr : List Nat) (es : List Ev) (id : Int) (w : World) (h : Blk w g 80 (u64s arr)) (hI : IdSet arr es) (hE : ∀ e ∈ es, 1 ≤ e.id ∧ e.id ≤ 9999) :
    Calls Tryd.prog 67 #[.pointer (some ⟨g, 0, none⟩), .int .i64 id] w fun e w' => e = .returned (.bool (hasId es id)) ∧ Below w.heap.size w w' := by
  by_cases h1 : 1 ≤ id
  · by_cases h2 : id ≤ 9999
    · obtain ⟨j, rfl⟩ : ∃ j : Nat, id = (j : Int) := ⟨id.toNat, by omega⟩
      obtain ⟨q, hq⟩ : ∃ q : Nat, q = j / 64 := ⟨_, rfl⟩
      obtain ⟨s, hs⟩ : ∃ s : Nat, s = j % 64 := ⟨_, rfl⟩
      have d1 : (j : Int) / 64 = (q : Int) := by omega
      have d2 : (j : Int).tdiv 64 = (q : Int) := by rw [Int.tdiv_eq_ediv_of_nonneg (by omega)]; exact d1
      have d3 : (j : Int) % 64 = (s : Int) := by omega
      have d4 : (j : Int).tmod 64 = (s : Int) := by rw [Int.tmod_eq_emod_of_nonneg (by omega)]; exact d3
      have hq1 : q < 157 := by omega
      have hs1 : s < 64 := by omega
      obtain ⟨a, ha⟩ : ∃ a, a = arr.getD q 0 := ⟨_, rfl⟩
      have hal : q < arr.length := by rw [hI.1]; exact hq1
      have hcell : (u64s arr)[q]? = some (.int .u64 (a : Int)) := by unfold u64s; rw [ha, List.getD_eq_getElem?_getD, List.getElem?_eq_getElem hal]; simp [hal]
      have a64 : a < 2 ^ 64 := by rw [ha, List.getD_eq_getElem?_getD, List.getElem?_eq_getElem hal]; exact hI.2.1 _ (List.getElem_mem hal)
      have hb := idSet_has hI j (by omega)
      rw [← hq, ← hs, ← ha] at hb
      have Hb := Lib.hid hb
      have ca : w.drew.cell? ⟨g, q, none⟩ = some (.int .u64 (a : Int)) := (h.cell q).trans hcell
      have ca2 : w.cell? ⟨g, q, none⟩ = some (.int .u64 (a : Int)) := (h.cell q).trans hcell
      clear hq hs ha hcell hal hb h hI hE
      go_enter Tryd.func67, Tryd.ntmps67
      go_wp2_with fail
      go_quiet (fail)
      go_wp2_with fail
      go_ret
      exact ⟨ret_bool (by rw [bits_and_u64 a s a64 hs1]; exact Hb.out), below_drew_n (Below.refl _ _) _⟩
    · have Hr := Lib.hid (hasId_out hE (fun h => h2 h.2))
      have hd : decide (id ≤ 9999) = false := decide_eq_false h2
      clear h hI hE
      go_enter Tryd.func67, Tryd.ntmps67
      go_wp2_with fail
      go_quiet (fail)
      go_wp2_with fail
      go_ret
      exact ⟨ret_bool Hr.out.symm, below_drew_n (Below.refl _ _) _⟩
  · have Hr := Lib.hid (hasId_out hE (fun h => h1 h.1))
    have hd : decide (1 ≤ id) = false := decide_eq_false h1
    clear h hI hE
    go_enter Tryd.func67, Tryd.ntmps67
    go_wp2_with fail
    go_quiet (fail)
    go_wp2_with fail
    go_ret
    exact ⟨ret_bool Hr.out.symm, below_drew_n (Below.refl _ _) _⟩
end Go.Proofs.YtdmffpjljaolcaaDoor
