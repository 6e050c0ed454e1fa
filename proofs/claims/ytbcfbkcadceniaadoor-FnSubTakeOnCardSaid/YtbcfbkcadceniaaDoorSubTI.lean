/- The next entries for a subscriber: the program's. -/
import Derived.Test.YtbcfbkcadceniaaDoorSubI
import Derived.Test.YtbcfbkcadceniaaDoorSubTS
import Derived.Maps.OwnIn
import Derived.RegionIn
import Derived.Test.YtbcfbkcadceniaaDoorPiece
namespace Go.Proofs.YtbcfbkcadceniaaDoor
set_option linter.unusedVariables false
set_option linter.unusedSimpArgs false
open Go.RowKit Go.Shelf

attribute [local go_sem] Oper.semAt_some

/-- the entries at these places that fit. -/
def fitL (xs : List En) (c : ByteArray) (pre : List Nat) : List En := (pre.map (nx xs)).filter (fits c)
theorem fitL_snoc (xs : List En) (c : ByteArray) (pre : List Nat) (x : Nat) : fitL xs c (pre ++ [x]) = fitL xs c pre ++ if fits c (nx xs x) then [nx xs x] else [] := by
  unfold fitL
  rw [List.map_append, List.filter_append]
  by_cases h : fits c (nx xs x) = true
  · rw [if_pos h, List.map_singleton, List.filter_cons_of_pos h]; rfl
  · rw [if_neg h, List.map_singleton, List.filter_cons_of_neg h]; rfl
theorem fitL_le (xs : List En) (c : ByteArray) (pre : List Nat) : (fitL xs c pre).length ≤ pre.length := by
  have := List.length_filter_le (fits c) (pre.map (nx xs))
  rw [List.length_map] at this
  exact this
theorem fitL_upTo {xs : List En} {c : ByteArray} {a k : Nat} (h : a + k ≤ xs.length) : fitL xs c (upTo a k) = subGo xs c a k := by unfold fitL subGo; rw [upTo_map xs a k h]
theorem upTo_take (a : Nat) {k p : Nat} (h : p ≤ k) : (upTo a k).take p = upTo a p := by
  unfold upTo
  rw [← List.map_take, List.take_range, Nat.min_eq_left h]
/-- where the subscriber is behind these places. -/
def sAt (a : Nat) (pre : List Nat) : Int := match pre.getLast? with | none => (a : Int) | some x => wrap64 ((x : Int) + 1)
theorem sAt_snoc (a : Nat) (pre : List Nat) (x : Nat) : sAt a (pre ++ [x]) = wrap64 ((x : Int) + 1) := by unfold sAt; rw [List.getLast?_concat]
theorem sAt_upTo {a k : Nat} (h : a + k ≤ 2000) : sAt a (upTo a k) = ((a + k : Nat) : Int) := by
  cases k with
  | zero => rfl
  | succ k => rw [upTo_succ, sAt_snoc, IntWalk.wrap64_in _ ⟨by omega, by omega⟩]; omega
/-- it has never been full before. -/
def NeverFull (xs : List En) (c : ByteArray) (m : Nat) (pre : List Nat) : Prop := ∀ p, p < pre.length → (fitL xs c (pre.take p)).length ≠ m
theorem neverFull_nil (xs : List En) (c : ByteArray) (m : Nat) : NeverFull xs c m [] := fun p hp => absurd hp (by simp)
theorem neverFull_snoc {xs : List En} {c : ByteArray} {m : Nat} {pre : List Nat} {x : Nat} (h : NeverFull xs c m pre) (h2 : (fitL xs c pre).length ≠ m) : NeverFull xs c m (pre ++ [x]) := fun p hp => by
  rw [List.length_append, List.length_singleton] at hp
  rcases Nat.lt_succ_iff_lt_or_eq.1 hp with h' | rfl
  · rw [List.take_append_of_le_length (by omega)]; exact h p h'
  · rw [List.take_left]; exact h2
theorem neverFull_not {xs : List En} {c : ByteArray} {a m k : Nat} (h : NeverFull xs c m (upTo a k)) (hk : a + k ≤ xs.length) : NotFull xs c a m k := fun p hp => by
  have := h p (by rw [upTo_len]; exact hp)
  rwa [upTo_take a (by omega), fitL_upTo (by omega)] at this
section
variable {w w' : World} {B base size n : Nat} {e : TypeId} {v : Value} {xs : List Value}
theorem own_cells (h : w.ownsRow base e size v n xs) {g : Nat} (hv : v.ownBlock = some g) : ∃ cur, w.heap[g]? = some (.cells cur e (0, 0)) := by
  rcases h.2 with ⟨rfl, _⟩ | ⟨g', cap, cur, rfl, _, hh, _⟩
  · simp [Value.ownBlock] at hv
  · obtain rfl : g' = g := by simpa [Value.ownBlock] using hv
    exact ⟨cur, hh⟩
theorem own_ne {g : Nat} {t : TypeId} {cs : Array Value} (h : w.ownsRow base e size v n xs) (hb : Blk w g t cs) (ht : t ≠ e) : v.ownBlock ≠ some g := fun hv => by
  obtain ⟨cur, hh⟩ := own_cells h hv
  unfold Blk at hb
  rw [hb] at hh
  injection hh with hh
  injection hh with _ h2
  exact ht h2
theorem own_from {row : Option Nat} (h : w.ownsRow base e size v n xs) (hg : w.grownBy w' row) (hr : ∀ r, row = some r → B ≤ r ∧ ∃ o : Obj, w.heap[r]? = some o ∧ o.isCells = false) : w'.ownsRow base e size v n xs := by
  refine h.kept hg ?_
  cases hv : v.ownBlock with
  | none => exact .inl rfl
  | some k =>
    refine .inr fun e' => ?_
    obtain ⟨cur, hh⟩ := own_cells h hv
    obtain ⟨_, o, ho, hc⟩ := hr k e'.symm
    rw [hh] at ho
    obtain rfl := Option.some.inj ho
    cases hc
theorem own_others (h : w.ownsRow base e size v n xs) (hg : w.grownBy w' v.ownBlock) : KeepsOthers w w' := KeepsOthers.of_grownBy hg (fun j o ej hj => by
  obtain ⟨cur, hh⟩ := own_cells h ej
  rw [hh] at hj
  obtain rfl := Option.some.inj hj
  rfl)
end
/-- appending one element, in a walk inside a fence. -/
theorem app_in {F : Fence} {nF : Nat} {P : Program} {TS T : TypeId} {z : Value} {size bytes : Nat} {ops : Array Oper} {rest : List Oper} {o : Oper} {a : Act} {Q : Exit → Act → World → Prop} (E : Elem P TS T z size bytes) (wr : World) (hgd : o.guard = none) (s x : Operand)
    (ho : o.op = .call { callee := .builtin .append, args := #[s, x], argTypes := #[TS, TS] }) (base : Nat) (v : Value) (n : Nat) (xs : List Value) (hs : a.eval s = v)
    (hown : wr.ownsRow base T size v n xs) (cs : List Value) (hx : a.eval x = .slice (some ⟨wr.heap.size, 0, none⟩) 1 1) (hcs : cs.length = size)
    (h1 : ∀ u ∈ cs, u.oneCell' = true) (hn : n ≤ 1000000000) (hbase : base ≤ wr.heap.size)
    (h : ∀ v' w', w'.ownsRow base T size v' (n + 1) (xs ++ cs) → wr.grownBy w' v.ownBlock → (v'.ownBlock = v.ownBlock ∨ v'.ownBlock = some (wr.heap.size + 1)) → wpListIn F nF P ops Q rest (a.put o.dst v') w') :
    wpListIn F nF P ops Q (o :: rest) a (wr.alloc (.cells cs.toArray T)) := by
  obtain ⟨hu, hinfo, hzs, hsz, hby⟩ := E
  obtain ⟨i0, hi, iz0, iz1, iz2⟩ := info_parts hinfo
  have hbb : (n + 1) * bytes ≤ 140737488355328 := Nat.le_trans (Nat.mul_le_mul (show n + 1 ≤ 2000000000 by omega) hby) (by decide)
  refine wpListIn_append_own_at _ hgd s x TS ho base T i0 z size bytes hu hi iz0 iz1 iz2 hzs hsz v n xs hs (hown.alloc _) ⟨wr.heap.size, 0, none⟩ 1 1 cs hx (by rw [hcs, Nat.one_mul]) (cells_new wr cs T) h1 (by unfold maxLen; omega) hbb (by simp; omega) ?_
  intro v' w' h2 h3 _ h4
  exact h v' w' h2 ((World.grownBy_alloc wr _ _).trans h3) (by simpa using h4)
theorem ne_of_deferred {W : World} {D base size n c : Nat} {e : TypeId} {A : Option Addr} {xs : List Value} (h : W.ownsRow base e size (.slice A n c) n xs) (hK : W.heap[D]? = some (.deferred (some []))) : ∀ p, A = some p → some D ≠ some p.block := fun p hp hd => by
  obtain rfl := Option.some.inj hd
  obtain ⟨cur, hh⟩ := own_cells h (g := p.block) (by rw [hp]; rfl)
  rw [hK] at hh
  cases Option.some.inj hh
/-- what a function leaves that ran a loop over the entries and returns a row and a subscriber. -/
theorem sub_end {W w : World} {D g base k c : Nat} {A : Option Addr} {xs : List En} {cat : ByteArray} {p : Int} (own : W.ownsRow base 35 4 (.slice A k c) k (xs.flatMap enCells)) (hrow : Row enCells 4 W W.heap.size A k xs) (Z : Blk W g 60 #[.string ⟨#[]⟩, .int .i64 0]) (hK : W.heap[D]? = some (.deferred (some []))) (hA : ∀ q, A = some q → q.block ≠ g) (hw : w.heap.size ≤ g) (hD : w.heap.size ≤ D) (hne : g ≠ D) (hb : Below w.heap.size w W) :
    (((W.setCell ⟨g, 0, none⟩ (.string cat)).setCell ⟨g, 1, none⟩ (.int .i64 p)).drew).heap[D]? = some (.deferred (some [])) ∧ Blk ((((W.setCell ⟨g, 0, none⟩ (.string cat)).setCell ⟨g, 1, none⟩ (.int .i64 p)).drew).putObj D (.deferred none)) g 60 #[.string cat, .int .i64 p] ∧
      Row enCells 4 ((((W.setCell ⟨g, 0, none⟩ (.string cat)).setCell ⟨g, 1, none⟩ (.int .i64 p)).drew).putObj D (.deferred none)) ((((W.setCell ⟨g, 0, none⟩ (.string cat)).setCell ⟨g, 1, none⟩ (.int .i64 p)).drew).putObj D (.deferred none)).heap.size A k xs ∧ Below w.heap.size w ((((W.setCell ⟨g, 0, none⟩ (.string cat)).setCell ⟨g, 1, none⟩ (.int .i64 p)).drew).putObj D (.deferred none)) := by
  have k1 : (((W.setCell ⟨g, 0, none⟩ (.string cat)).setCell ⟨g, 1, none⟩ (.int .i64 p)).drew).heap[D]? = some (.deferred (some [])) :=
    ((KeepsOthers.setCell W ⟨g, 0, none⟩ (.string cat)).trans (KeepsOthers.setCell _ ⟨g, 1, none⟩ (.int .i64 p))).same D _ hK rfl
  have z1 : Blk (((W.setCell ⟨g, 0, none⟩ (.string cat)).setCell ⟨g, 1, none⟩ (.int .i64 p)).drew) g 60 #[.string cat, .int .i64 p] := (Z.set_ 0 _).set_ 1 _
  have r1 : Row enCells 4 (((W.setCell ⟨g, 0, none⟩ (.string cat)).setCell ⟨g, 1, none⟩ (.int .i64 p)).drew) (((W.setCell ⟨g, 0, none⟩ (.string cat)).setCell ⟨g, 1, none⟩ (.int .i64 p)).drew).heap.size A k xs := row_sets hrow hA _ _
  have b1 : Below w.heap.size w (((W.setCell ⟨g, 0, none⟩ (.string cat)).setCell ⟨g, 1, none⟩ (.int .i64 p)).drew) := ((hb.setCell (p := ⟨g, 0, none⟩) hw _).setCell (p := ⟨g, 1, none⟩) hw _).drew
  have nd := ne_of_deferred own hK
  generalize ((W.setCell ⟨g, 0, none⟩ (.string cat)).setCell ⟨g, 1, none⟩ (.int .i64 p)).drew = X at *
  have hg := grownBy_putObj' X D (.deferred none)
  exact ⟨k1, z1.grown hg (fun e => hne (Option.some.inj e)), (r1.grown (Nat.le_refl _) hg nd).more hg.size, b1.trans (belowK_b (w := w) (Nat.le_refl _) X D _ _ hD k1 rfl rfl)⟩
end Go.Proofs.YtbcfbkcadceniaaDoor
