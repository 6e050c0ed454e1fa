/- Drawn writes: a store, a name, an expected version, events. -/
import Derived.Test.YtdmffpjljaolcaaDoorDrawEs
import Derived.Test.YtdmffpjljaolcaaDoorReads
namespace Go.Proofs.YtdmffpjljaolcaaDoor
set_option linter.unusedVariables false
set_option linter.unusedSimpArgs false
open Go.RowKit

def WrPost (r M : Nat) (w : World) (e : Ending) (w' : World) : Prop :=
  ∃ (v : Value) (n : Nat) (xs : List En) (s : ByteArray) (x : Int) (u : Value) (m : Nat) (es : List Ev), e = .returned (.tuple #[v, .string s, .int .i64 x, u]) ∧ Hid (xs.length = n) ∧ Hid (w'.ownsRow w.heap.size 31 4 v n (xs.flatMap enCells)) ∧ Hid (∀ y ∈ xs, EnB y) ∧ n ≤ 30 ∧ s.size ≤ 60 ∧ -1000 ≤ x ∧ x ≤ 1000 ∧
    Hid (es.length = m) ∧ Hid (w'.ownsRow w.heap.size 29 3 u m (es.flatMap evCells)) ∧ Hid (∀ e ∈ es, EvB e) ∧ m ≤ 30 ∧ Hid (w.grownBy w' (some r)) ∧ Rd w' r M
theorem four_at {a b c d : Int} {z : Nat} (hz : z < 4) (ha : -1000 ≤ a ∧ a ≤ 1000) (hb : -1000 ≤ b ∧ b ≤ 1000) (hc : -1000 ≤ c ∧ c ≤ 1000) (hd : -1000 ≤ d ∧ d ≤ 1000) :
    ∃ v : Int, (#[Value.int .i64 a, .int .i64 b, .int .i64 c, .int .i64 d])[z]? = some (.int .i64 v) ∧ -1000 ≤ v ∧ v ≤ 1000 := by
  match z, hz with
  | 0, _ => exact ⟨a, rfl, ha⟩
  | 1, _ => exact ⟨b, rfl, hb⟩
  | 2, _ => exact ⟨c, rfl, hc⟩
  | 3, _ => exact ⟨d, rfl, hd⟩
theorem three_at {a b c : Int} {z : Nat} (hz : z < 3) (ha : -1000 ≤ a ∧ a ≤ 1000) (hb : -1000 ≤ b ∧ b ≤ 1000) (hc : -1000 ≤ c ∧ c ≤ 1000) :
    ∃ v : Int, (#[Value.int .i64 a, .int .i64 b, .int .i64 c])[z]? = some (.int .i64 v) ∧ -1000 ≤ v ∧ v ≤ 1000 := by
  match z, hz with
  | 0, _ => exact ⟨a, rfl, ha⟩
  | 1, _ => exact ⟨b, rfl, hb⟩
  | 2, _ => exact ⟨c, rfl, hc⟩
theorem own_more {w : World} {base base' size n : Nat} {e : TypeId} {v : Value} {xs : List Value} (h : w.ownsRow base e size v n xs) (hb : base' ≤ base) : w.ownsRow base' e size v n xs := by
  refine ⟨h.1, ?_⟩
  rcases h.2 with h | ⟨g, cap, cur, h1, h2, h3⟩
  · exact .inl h
  · exact .inr ⟨g, cap, cur, h1, Nat.le_trans hb h2, h3⟩
theorem set_flat_id (l : List Ev) (j : Nat) (x : Int) (h : j < l.length) :
    (l.flatMap evCells).set (j * 3) (.int .i64 x) = (l.set j ⟨x, (nx l j).kind, (nx l j).data⟩).flatMap evCells := by
  induction l generalizing j with
  | nil => exact absurd h (by simp)
  | cons a l ih =>
    cases j with
    | zero => rfl
    | succ j =>
      rw [List.set_cons_succ, List.flatMap_cons, List.flatMap_cons, show (j + 1) * 3 = (evCells a).length + j * 3 by rw [evCells_len]; omega, List.set_append_right _ _ (by omega), Nat.add_sub_cancel_left, ih j (by simpa using h)]
      rfl
theorem evB_set {es : List Ev} (h : ∀ e ∈ es, EvB e) {j : Nat} {x : Ev} (hx : EvB x) : ∀ y ∈ es.set j x, EvB y := fun y hy => by
  rcases List.mem_or_eq_of_mem_set hy with h1 | h1
  · exact h y h1
  · rw [h1]; exact hx

/-- what is known of the world while a write is drawn. -/
def WInv (w w3 : World) (r M : Nat) (v : Value) (n : Nat) (xs : List En) (A3 : Option Addr) (q : Nat) (st : List Ev) (B8 : Nat) (W : World) : Prop :=
  Rd W r M ∧ W.ownsRow w.heap.size 31 4 v n (xs.flatMap enCells) ∧ w.grownBy W (some r) ∧ Row evCells 3 W w3.heap.size A3 q st ∧ w3.heap.size ≤ W.heap.size ∧ B8 ≤ W.heap.size
section
variable {w w3 W W' : World} {r M n q B8 : Nat} {v : Value} {xs : List En} {A3 : Option Addr} {st : List Ev}
theorem WInv.alloc (h : WInv w w3 r M v n xs A3 q st B8 W) (o : Obj) : WInv w w3 r M v n xs A3 q st B8 (W.alloc o) := by
  obtain ⟨h1, h2, h3, h4, h5, h6⟩ := h
  refine ⟨rd_alloc h1 o, h2.alloc o, grow_alloc h3 o, ?_, by simp; omega, by simp; omega⟩
  exact h4.grown h5 (World.grownBy_alloc W o none) (fun _ _ e => nomatch e)
theorem WInv.drew (h : WInv w w3 r M v n xs A3 q st B8 W) : WInv w w3 r M v n xs A3 q st B8 W.drew := by
  obtain ⟨h1, h2, h3, h4, h5, h6⟩ := h
  exact ⟨rd_drewN h1 1, h2, grow_drewN h3 1, ⟨h4.1, h4.2⟩, h5, h6⟩
theorem WInv.size (h : WInv w w3 r M v n xs A3 q st B8 W) : B8 ≤ W.heap.size := h.2.2.2.2.2
theorem WInv.app (h : WInv w w3 r M v n xs A3 q st B8 W) {vb : Option Nat} (hg : W.grownBy W' vb) (hvb : ∀ k, vb = some k → B8 ≤ k) (hr : r < B8) (hv : ∀ b, v.ownBlock = some b → b < B8) (h38 : w3.heap.size ≤ B8) (hw : w.heap.size ≤ B8) : WInv w w3 r M v n xs A3 q st B8 W' := by
  obtain ⟨h1, h2, h3, h4, h5, h6⟩ := h
  refine ⟨h1.keep fun k hk => hg.block k (by have := h1.lt; omega) (fun e => by have := hvb k e.symm; omega), h2.kept hg ?_, ?_, ?_, Nat.le_trans h5 hg.size, Nat.le_trans h6 hg.size⟩
  · cases hb : v.ownBlock with
    | none => exact .inl rfl
    | some k => exact .inr (fun e => by have := hvb k e.symm; have := hv k hb; omega)
  · exact ⟨hg.os.trans h3.os, hg.tape.trans h3.tape, hg.output.trans h3.output, Nat.le_trans h3.size hg.size, fun i hi hne => (hg.block i (Nat.lt_of_lt_of_le hi h3.size) (fun e => by have := hvb i e.symm; omega)).trans (h3.block i hi hne)⟩
  · refine ⟨h4.1, h4.2.1, fun hn => ?_⟩
    obtain ⟨b, off, e, hl, hx⟩ := h4.2.2 hn
    exact ⟨b, off, e, hl, fun j hj => by rw [← hx j hj]; exact World.cell?_of_block (hg.block b (by omega) (fun e => by have := hvb b e.symm; omega))⟩
theorem pickInv (hI : WInv w w3 r M v n xs A3 q st B8 W) (hM : M ≤ 900000) (m : Int) (hm : m ≤ 1000000) (hr : r < w.heap.size) (hA : ∀ p, A3 = some p → some r ≠ some p.block) :
    Calls Tryd.prog 59 #[.pointer (some ⟨r, 0, none⟩), .int .i64 m] W fun e w' => ∃ x : Nat, e = .returned (.int .i64 x) ∧ (1 ≤ m → (x : Int) < m) ∧ Hid (WInv w w3 r (M + 1) v n xs A3 q st B8 w') ∧
      Hid (∀ (g : Nat) (T : TypeId) (cs : Array Value), g ≠ r → Blk W g T cs → Blk w' g T cs) ∧ Hid (∀ (base size k : Nat) (T : TypeId) (u : Value) (ys : List Value), r < base → W.ownsRow base T size u k ys → w'.ownsRow base T size u k ys) := by
  obtain ⟨h1, h2, h3, h4, h5, h6⟩ := hI
  refine (pick_any r M m W h1 (by omega) (by omega)).mono ?_
  rintro e w' ⟨x, rfl, hx, hg, h⟩
  refine ⟨x, rfl, hx, Lib.hid ⟨h, own_rd h2 hr hg, grow_trans h3 hg, h4.grown h5 hg hA, Nat.le_trans h5 hg.size, Nat.le_trans h6 hg.size⟩, Lib.hid fun g T cs hne hb => blk_grew hb hg hne, Lib.hid fun base size k T u ys hb ho => own_rd ho hb hg⟩
end
theorem have_then {P Q : Prop} (h : P) (k : P → Q) : Q := k h
theorem Blk.drew1 {w : World} {g : Nat} {t : TypeId} {cs : Array Value} (h : Blk w g t cs) : Blk w.drew g t cs := h
theorem Blk.newd (w : World) (t : TypeId) (cs : Array Value) : Blk (w.drew.alloc (.cells cs t)) w.heap.size t cs := Blk.new w.drew t cs
theorem Blk.new1 (w : World) (o : Obj) (t : TypeId) (cs : Array Value) : Blk ((w.alloc o).alloc (.cells cs t)) (w.heap.size + 1) t cs := by have := Blk.new (w.alloc o) t cs; simpa using this
theorem Blk.new1d (w : World) (o : Obj) (t : TypeId) (cs : Array Value) : Blk ((w.drew.alloc o).alloc (.cells cs t)) (w.heap.size + 1) t cs := Blk.new1 w.drew o t cs
theorem own_ge {g B k : Nat} (h : (Value.slice (some ⟨g, 0, none⟩) 0 0).ownBlock = some k) (hB : B ≤ g) : B ≤ k := by
  have := Option.some.inj (show some g = some k from h)
  omega
theorem own_ne {g g' : Nat} (h : some g = (Value.slice (some ⟨g', 0, none⟩) 0 0).ownBlock) (hn : g ≠ g') : False := hn (Option.some.inj (show some g = some g' from h))
theorem wr_mk {w w3 W : World} {r M M' n q B8 m : Nat} {v u : Value} {xs : List En} {A3 : Option Addr} {st : List Ev} {s : ByteArray} {x : Int} {es : List Ev} (h : WInv w w3 r M v n xs A3 q st B8 W) (ho : W.ownsRow B8 29 3 u (0 + m) ([] ++ es.flatMap evCells)) (hB : w.heap.size ≤ B8) (hl : Hid (xs.length = n)) (HB : Hid (∀ y ∈ xs, EnB y)) (hn : n ≤ 30) (hs : s.size ≤ 60) (h1 : -1000 ≤ x) (h2 : x ≤ 1000) (hE : ∀ e ∈ es, EvB e) (hm : m ≤ 30) (hlen : es.length = m) (hM : M ≤ M') :
    WrPost r M' w (.returned (.tuple #[v, .string s, .int .i64 x, u])) W := by
  obtain ⟨q1, q2, q3, q4, q5, q6⟩ := h
  rw [Nat.zero_add, List.nil_append] at ho
  exact ⟨v, n, xs, s, x, u, m, es, rfl, hl, Lib.hid q2, HB, hn, hs, h1, h2, Lib.hid hlen, Lib.hid (own_more ho hB), Lib.hid hE, hm, Lib.hid q3, q1.more hM⟩
theorem WInv.more {w w3 W : World} {r M M' n q B8 : Nat} {v : Value} {xs : List En} {A3 : Option Addr} {st : List Ev} (h : WInv w w3 r M v n xs A3 q st B8 W) (hM : M ≤ M') : WInv w w3 r M' v n xs A3 q st B8 W := ⟨h.1.more hM, h.2⟩
theorem WInv.cut {w w3 W : World} {r M n q B8 b3 off3 c3 : Nat} {v : Value} {xs : List En} {st : List Ev} (h : WInv w w3 r M v n xs (some ⟨b3, off3, none⟩) q st B8 W) (fr dl : Nat) (hf : fr + 1 + dl ≤ q) (hc : q ≤ c3) :
    Sl W w3.heap.size 3 (some ⟨b3, off3 + fr * 3, none⟩) (1 + dl) (((st.drop fr).take (1 + dl)).flatMap evCells) := by
  have h4 := h.2.2.2.1.cut (cap := c3) evCells_len fr (fr + 1 + dl) (by omega) hf hc
  rw [if_neg (by omega), show fr + 1 + dl - fr = 1 + dl by omega, show (some (⟨b3, off3, none⟩ : Addr)).map (·.add (fr * 3)) = some ⟨b3, off3 + fr * 3, none⟩ by simp [Addr.add]] at h4
  exact h4.2
theorem own_blk0 {W : World} {g base size : Nat} {T : TypeId} (h : Blk W g T #[]) (hb : base ≤ g) : W.ownsRow base T size (.slice (some ⟨g, 0, none⟩) 0 0) 0 [] :=
  ⟨by simp, .inr ⟨g, 0, #[], rfl, hb, h, Nat.le_refl _, Nat.zero_le _, by simp, by simp⟩⟩

set_option maxRecDepth 100000 in
set_option maxHeartbeats 16000000 in
theorem l91Write_any (r N ag : Nat) (w : World) (h : Rd w r N) (hN : N ≤ 300000) :
    Calls Tryd.prog 63 #[.pointer (some ⟨r, 0, none⟩), .int .i64 ag] w (WrPost r (N + 1000) w) := by
  have hr := h.lt
  go_enter Tryd.func63, Tryd.ntmps63
  go_wp2_with fail
  refine (l91In_any r N _ h (by omega)).mono ?_
  rintro e w2 ⟨v, n, xs, s, rfl, hl, hown, HB, hn, hs, hg2, h2⟩
  have HO2 := Lib.hid hown
  have HG2 := Lib.hid hg2
  have Hl := Lib.hid hl
  obtain ⟨Av, cv, rfl⟩ := own_slice_n hown
  obtain ⟨_, _, e1, q1, q2, q3, _⟩ := Row.of_own hown hl
  obtain ⟨rfl, -, rfl⟩ : Av = _ ∧ n = n ∧ cv = _ := by injection e1 with a b c; exact ⟨a, rfl, c⟩
  have HR := Lib.hid q3
  have Hsl := Lib.hid (streamOf_len xs s)
  have hrz := h2.lt
  clear hg2 hown hl e1 q1 q2 q3 h
  go_wp2_with fail
  refine (l4Events_new Av n cv xs s _ HR.out (by omega)).mono ?_
  rintro e w3 ⟨A3, q, c3, rfl, hr3, hc3, hn3, Hnew, hb3⟩
  have H3 := Lib.hid (h2.below hb3)
  have O3 := Lib.hid (own_next HO2.out hb3)
  have G3 := Lib.hid (grow_below HG2.out hb3)
  have HR3 := Lib.hid hr3
  have Hq := Lib.hid hr3.1
  have hq30 : q ≤ 30 := by rw [← hr3.1]; have := Hsl.out; rw [Hl.out] at this; omega
  have HE := Lib.hid (stream_B (s := s) HB.out)
  have Hrb : Hid (∀ p, A3 = some p → some r ≠ some p.block) := Lib.hid fun p hp e => by have h1 := Hnew.out p hp; injection e with e; omega
  clear hb3 h2 hr3 Hnew
  go_wp2_with fail
  refine (pick_any r _ _ _ H3.out (by omega) (by omega)).mono ?_
  rintro e w4 ⟨p, rfl, hp, hg4, h4⟩
  have hp := hp (by omega)
  have O4 := Lib.hid (own_rd O3.out hr hg4)
  have G4 := Lib.hid (grow_trans G3.out hg4)
  have R4 := Lib.hid (HR3.out.grown (Nat.le_refl _) hg4 Hrb.out)
  have hz34 := hg4.size
  have hr4 := h4.lt
  have H4 := Lib.hid (rd_alloc h4 (.cells #[.int .i64 ((q : Int) - 1), .int .i64 (-2), .int .i64 ((p : Int) - 2), .int .i64 ((q : Int) - 1)] 3))
  clear hg4 h4
  go_wp2_with fail
  refine (pick_any r _ _ _ H4.out (by omega) (by omega)).mono ?_
  rintro e w5 ⟨z, rfl, hz, hg5, h5⟩
  have hz := hz (by omega)
  obtain ⟨x, hx, hx1, hx2⟩ := four_at (a := (q : Int) - 1) (b := -2) (c := (p : Int) - 2) (d := (q : Int) - 1) (show z < 4 by omega) (by omega) (by omega) (by omega) (by omega)
  have hc5 : w5.cell? ⟨w4.heap.size, z, none⟩ = some (.int .i64 x) := ((blk_grew (Blk.new w4 3 _) hg5 (by omega)).cell z).trans hx
  have O5 := Lib.hid (own_rd (O4.out.alloc _) hr hg5)
  have G5 := Lib.hid (grow_trans (grow_alloc G4.out _) hg5)
  have R5 := Lib.hid ((R4.out.grown hz34 (World.grownBy_alloc w4 _ (some r)) Hrb.out).grown (Nat.le_trans hz34 (World.grownBy_alloc w4 (.cells #[.int .i64 ((q : Int) - 1), .int .i64 (-2), .int .i64 ((p : Int) - 2), .int .i64 ((q : Int) - 1)] 3) none).size) hg5 Hrb.out)
  have hz5 : w3.heap.size ≤ w5.heap.size := Nat.le_trans (Nat.le_trans hz34 (World.grownBy_alloc w4 (.cells #[.int .i64 ((q : Int) - 1), .int .i64 (-2), .int .i64 ((p : Int) - 2), .int .i64 ((q : Int) - 1)] 3) none).size) hg5.size
  have H5 := Lib.hid h5
  clear hg5 h5 hx
  by_cases hq0 : 0 < q
  · have hq0' : (0 : Int) < (q : Int) := by omega
    go_wp2_with fail
    refine (pick_any r _ _ _ H5.out (by omega) (by omega)).mono ?_
    rintro e w6 ⟨y, rfl, hy, hg6, h6⟩
    have hy := hy (by omega)
    have O6 := Lib.hid (own_rd O5.out hr hg6)
    have G6 := Lib.hid (grow_trans G5.out hg6)
    have R6 := Lib.hid (R5.out.grown hz5 hg6 Hrb.out)
    have hz6 : w3.heap.size ≤ w6.heap.size := Nat.le_trans hz5 hg6.size
    have H6 := Lib.hid h6
    clear hg6 h6 hc5
    by_cases hya : (y : Int) < (ag : Int)
    · go_wp2_with fail
      refine (pick_any r _ _ _ H6.out (by omega) (by omega)).mono ?_
      rintro e w7 ⟨fr, rfl, hfr, hg7, h7⟩
      have hfr := hfr (by omega)
      have O7 := Lib.hid (own_rd O6.out hr hg7)
      have G7 := Lib.hid (grow_trans G6.out hg7)
      have R7 := Lib.hid (R6.out.grown hz6 hg7 Hrb.out)
      have hz7 : w3.heap.size ≤ w7.heap.size := Nat.le_trans hz6 hg7.size
      have H7 := Lib.hid h7
      clear hg7 h7
      go_wp2_with fail
      refine (pick_any r _ _ _ H7.out (by omega) (by omega)).mono ?_
      rintro e w8 ⟨dl, rfl, hdl, hg8, h8⟩
      have hdl := hdl (by omega)
      have O8 := Lib.hid (own_rd O7.out hr hg8)
      have G8 := Lib.hid (grow_trans G7.out hg8)
      have R8 := Lib.hid (R7.out.grown hz7 hg8 Hrb.out)
      have hz8 : w3.heap.size ≤ w8.heap.size := Nat.le_trans hz7 hg8.size
      have H8 := Lib.hid h8
      clear hg8 h8
      have I8 : Hid (WInv w w3 r (N + 950) (.slice Av n cv) n xs A3 q (streamOf xs s) w8.heap.size w8) := Lib.hid ⟨H8.out.more (by omega), O8.out, G8.out, R8.out, hz8, Nat.le_refl _⟩
      have hr8 := H8.out.lt
      have Hv8 := Lib.hid (fun b hb => (O8.out.lt b hb).2)
      have hw8 := G8.out.size
      obtain ⟨b3, off3, rfl, hb3, _⟩ := R8.out.at_ evCells_len hq0
      have s1 : (fr : Int) ≤ (fr : Int) + 1 + (dl : Int) := by omega
      have s2 : (fr : Int) + 1 + (dl : Int) ≤ (c3 : Int) := by omega
      have s3 : ((fr : Int) + 1 + (dl : Int)).toNat - fr = 1 + dl := by omega
      have s4 : ¬ c3 = fr := by omega
      have s6 : IntKind.i64.wrap ((fr : Int) - 1) = (fr : Int) - 1 := IntWalk.i64_in _ (by omega)
      have s5 : (0 : Int) ≤ (fr : Int) + 1 + (dl : Int) := by omega
      go_wp2_with fail
      go_region_law (first
        | (go_simp; go_at_call 59; go_must (refine (pickInv (w := w) (w3 := w3) (M := N + 950) (v := .slice Av n cv) (n := n) (xs := xs) (A3 := some ⟨b3, off3, none⟩) (q := q) (st := streamOf xs s) (B8 := w8.heap.size) ?_ ?_ 3 (by omega) hr Hrb.out).mono ?_; (repeat' first | (with_reducible exact Ia.out) | (with_reducible exact Ip.out) | (with_reducible exact I8.out) | (with_reducible refine WInv.alloc ?_ _) | (with_reducible refine WInv.drew ?_)); omega; rintro e w9 ⟨z9, rfl, hz9, Ip, KB, KO⟩; have hz98 := WInv.size Ip.out; have hz9 := hz9 (by omega); obtain ⟨x9, hx9, hx91, hx92⟩ := three_at (a := (fr : Int) - 1) (b := -2) (c := x) (show z9 < 3 by omega) (by omega) (by omega) (by omega); (first | (refine have_then (P := Blk w9 (w8.heap.size) 3 #[.int .i64 ((fr : Int) - 1), .int .i64 (-2), .int .i64 x]) ?_ ?_; (refine KB.out _ _ _ ?_ ?_; omega; (repeat' first | (with_reducible exact b3q) | (with_reducible exact b3p) | (with_reducible exact b0p) | (with_reducible exact Blk.new _ _ _) | (with_reducible exact Blk.newd _ _ _) | (with_reducible refine Blk.drew1 ?_) | (exact Blk.newd _ _ _) | (exact Blk.new _ _ _) | (exact Blk.new1 _ _ _ _) | (exact Blk.new1d _ _ _ _) | (with_reducible refine Blk.alloc ?_ _))); intro b3p; have hlt3 := b3p.lt; have c9 := (b3p.cell z9).trans hx9; have c9a := fun o => ((b3p.alloc o).cell z9).trans hx9) | (refine have_then (P := Blk w9 (w8.heap.size + 1) 3 #[.int .i64 ((fr : Int) - 1), .int .i64 (-2), .int .i64 x]) ?_ ?_; (refine KB.out _ _ _ ?_ ?_; omega; (repeat' first | (with_reducible exact b3q) | (with_reducible exact b3p) | (with_reducible exact b0p) | (with_reducible exact Blk.new _ _ _) | (with_reducible exact Blk.newd _ _ _) | (with_reducible refine Blk.drew1 ?_) | (exact Blk.newd _ _ _) | (exact Blk.new _ _ _) | (exact Blk.new1 _ _ _ _) | (exact Blk.new1d _ _ _ _) | (with_reducible refine Blk.alloc ?_ _))); intro b3p; have hlt3 := b3p.lt; have c9 := (b3p.cell z9).trans hx9; have c9a := fun o => ((b3p.alloc o).cell z9).trans hx9) | (refine have_then (P := Blk w9 (w75.heap.size) 3 #[.int .i64 ((fr : Int) - 1), .int .i64 (-2), .int .i64 x]) ?_ ?_; (refine KB.out _ _ _ ?_ ?_; omega; (repeat' first | (with_reducible exact b3q) | (with_reducible exact b3p) | (with_reducible exact b0p) | (with_reducible exact Blk.new _ _ _) | (with_reducible exact Blk.newd _ _ _) | (with_reducible refine Blk.drew1 ?_) | (exact Blk.newd _ _ _) | (exact Blk.new _ _ _) | (exact Blk.new1 _ _ _ _) | (exact Blk.new1d _ _ _ _) | (with_reducible refine Blk.alloc ?_ _))); intro b3p; have hlt3 := b3p.lt; have c9 := (b3p.cell z9).trans hx9; have c9a := fun o => ((b3p.alloc o).cell z9).trans hx9) | skip); (first | (refine have_then (P := Blk w9 (w8.heap.size) 29 #[]) ?_ ?_; (refine KB.out _ _ _ ?_ ?_; omega; (repeat' first | (with_reducible exact b3q) | (with_reducible exact b3p) | (with_reducible exact b0p) | (with_reducible exact Blk.new _ _ _) | (with_reducible exact Blk.newd _ _ _) | (with_reducible refine Blk.drew1 ?_) | (exact Blk.newd _ _ _) | (exact Blk.new _ _ _) | (exact Blk.new1 _ _ _ _) | (exact Blk.new1d _ _ _ _) | (with_reducible refine Blk.alloc ?_ _))); intro b0p; have hlt0 := b0p.lt) | (refine have_then (P := Blk w9 (w8.heap.size + 1) 29 #[]) ?_ ?_; (refine KB.out _ _ _ ?_ ?_; omega; (repeat' first | (with_reducible exact b3q) | (with_reducible exact b3p) | (with_reducible exact b0p) | (with_reducible exact Blk.new _ _ _) | (with_reducible exact Blk.newd _ _ _) | (with_reducible refine Blk.drew1 ?_) | (exact Blk.newd _ _ _) | (exact Blk.new _ _ _) | (exact Blk.new1 _ _ _ _) | (exact Blk.new1d _ _ _ _) | (with_reducible refine Blk.alloc ?_ _))); intro b0p; have hlt0 := b0p.lt) | skip); (first | (refine have_then (KO.out w8.heap.size 3 (0 + (1 + dl)) 29 v75 ([] ++ (((streamOf xs s).drop fr).take (1 + dl)).flatMap evCells) ?_ ?_) ?_; omega; (repeat' first | (with_reducible exact oap) | (with_reducible exact own75) | (with_reducible refine World.ownsRow.alloc ?_ _)); intro oap) | skip)))
        | (refine app_src_step elemEv _ ?_ (.tmp 70) (.tmp 74) ?_ w8.heap.size (.slice (some ⟨w8.heap.size, 0, none⟩) 0 0) 0 [] ?_ ?_ (some ⟨b3, off3 + fr * 3, none⟩) (1 + dl) (c3 - fr) w3.heap.size ((((streamOf xs s).drop fr).take (1 + dl)).flatMap evCells) ?_ ?_ ?_ (evs_one _) ?_ ?_ ?_ ?_; rfl; rfl; rfl; (refine own_blk0 ?_ ?_; (repeat' first | (with_reducible exact b3q) | (with_reducible exact b3p) | (with_reducible exact b0p) | (with_reducible exact Blk.new _ _ _) | (with_reducible exact Blk.newd _ _ _) | (with_reducible refine Blk.drew1 ?_) | (exact Blk.newd _ _ _) | (exact Blk.new _ _ _) | (exact Blk.new1 _ _ _ _) | (exact Blk.new1d _ _ _ _) | (with_reducible refine Blk.alloc ?_ _)); (first | exact Nat.le_refl _ | exact Nat.le_succ _ | omega)); rfl; (intro e; cases e); (refine WInv.cut (w := w) (w3 := w3) (r := r) (M := N + 950) (q := q) (B8 := w8.heap.size) (c3 := c3) (v := .slice Av n cv) (n := n) (xs := xs) ?_ fr dl ?_ hc3; (repeat' first | (with_reducible exact Ia.out) | (with_reducible exact Ip.out) | (with_reducible exact I8.out) | (with_reducible refine WInv.alloc ?_ _) | (with_reducible refine WInv.drew ?_)); omega); omega; omega; (refine WInv.size (w := w) (w3 := w3) (r := r) (M := N + 950) (q := q) (v := .slice Av n cv) (n := n) (xs := xs) (A3 := some ⟨b3, off3, none⟩) (st := streamOf xs s) ?_; (repeat' first | (with_reducible exact Ia.out) | (with_reducible exact Ip.out) | (with_reducible exact I8.out) | (with_reducible refine WInv.alloc ?_ _) | (with_reducible refine WInv.drew ?_))); intro v75 w75 own75 grow75 or75; (refine have_then (P := Hid (WInv w w3 r (N + 950) (.slice Av n cv) n xs (some ⟨b3, off3, none⟩) q (streamOf xs s) w8.heap.size w75)) ?_ ?_; (refine Lib.hid (WInv.app ?_ grow75 ?_ hr8 Hv8.out hz8 hw8); (repeat' first | (with_reducible exact Ia.out) | (with_reducible exact Ip.out) | (with_reducible exact I8.out) | (with_reducible refine WInv.alloc ?_ _) | (with_reducible refine WInv.drew ?_)); (intro k hk; refine own_ge hk ?_; (first | exact Nat.le_refl _ | exact Nat.le_succ _ | omega))); intro Ia; have hz758 := WInv.size Ia.out); (first | (refine have_then (P := Blk w75 (w8.heap.size) 3 #[.int .i64 ((fr : Int) - 1), .int .i64 (-2), .int .i64 x]) ?_ ?_; (refine Blk.grown ?_ grow75 ?_; (repeat' first | (with_reducible exact b3q) | (with_reducible exact b3p) | (with_reducible exact b0p) | (with_reducible exact Blk.new _ _ _) | (with_reducible exact Blk.newd _ _ _) | (with_reducible refine Blk.drew1 ?_) | (exact Blk.newd _ _ _) | (exact Blk.new _ _ _) | (exact Blk.new1 _ _ _ _) | (exact Blk.new1d _ _ _ _) | (with_reducible refine Blk.alloc ?_ _)); (intro e; refine own_ne e ?_; omega)); intro b3q) | (refine have_then (P := Blk w75 (w8.heap.size + 1) 3 #[.int .i64 ((fr : Int) - 1), .int .i64 (-2), .int .i64 x]) ?_ ?_; (refine Blk.grown ?_ grow75 ?_; (repeat' first | (with_reducible exact b3q) | (with_reducible exact b3p) | (with_reducible exact b0p) | (with_reducible exact Blk.new _ _ _) | (with_reducible exact Blk.newd _ _ _) | (with_reducible refine Blk.drew1 ?_) | (exact Blk.newd _ _ _) | (exact Blk.new _ _ _) | (exact Blk.new1 _ _ _ _) | (exact Blk.new1d _ _ _ _) | (with_reducible refine Blk.alloc ?_ _)); (intro e; refine own_ne e ?_; omega)); intro b3q) | (refine have_then (P := Blk w75 (w9.heap.size) 3 #[.int .i64 ((fr : Int) - 1), .int .i64 (-2), .int .i64 x]) ?_ ?_; (refine Blk.grown ?_ grow75 ?_; (repeat' first | (with_reducible exact b3q) | (with_reducible exact b3p) | (with_reducible exact b0p) | (with_reducible exact Blk.new _ _ _) | (with_reducible exact Blk.newd _ _ _) | (with_reducible refine Blk.drew1 ?_) | (exact Blk.newd _ _ _) | (exact Blk.new _ _ _) | (exact Blk.new1 _ _ _ _) | (exact Blk.new1d _ _ _ _) | (with_reducible refine Blk.alloc ?_ _)); (intro e; refine own_ne e ?_; omega)); intro b3q) | (refine have_then (P := Blk w75 (w9.heap.size + 1) 3 #[.int .i64 ((fr : Int) - 1), .int .i64 (-2), .int .i64 x]) ?_ ?_; (refine Blk.grown ?_ grow75 ?_; (repeat' first | (with_reducible exact b3q) | (with_reducible exact b3p) | (with_reducible exact b0p) | (with_reducible exact Blk.new _ _ _) | (with_reducible exact Blk.newd _ _ _) | (with_reducible refine Blk.drew1 ?_) | (exact Blk.newd _ _ _) | (exact Blk.new _ _ _) | (exact Blk.new1 _ _ _ _) | (exact Blk.new1d _ _ _ _) | (with_reducible refine Blk.alloc ?_ _)); (intro e; refine own_ne e ?_; omega)); intro b3q) | skip); (first | (have c75 := (b3q.cell z9).trans hx9; have c75a := fun o => ((b3q.alloc o).cell z9).trans hx9) | skip))
        | (refine app_src_step elemEv _ ?_ (.tmp 70) (.tmp 74) ?_ w8.heap.size (.slice (some ⟨w8.heap.size + 1, 0, none⟩) 0 0) 0 [] ?_ ?_ (some ⟨b3, off3 + fr * 3, none⟩) (1 + dl) (c3 - fr) w3.heap.size ((((streamOf xs s).drop fr).take (1 + dl)).flatMap evCells) ?_ ?_ ?_ (evs_one _) ?_ ?_ ?_ ?_; rfl; rfl; rfl; (refine own_blk0 ?_ ?_; (repeat' first | (with_reducible exact b3q) | (with_reducible exact b3p) | (with_reducible exact b0p) | (with_reducible exact Blk.new _ _ _) | (with_reducible exact Blk.newd _ _ _) | (with_reducible refine Blk.drew1 ?_) | (exact Blk.newd _ _ _) | (exact Blk.new _ _ _) | (exact Blk.new1 _ _ _ _) | (exact Blk.new1d _ _ _ _) | (with_reducible refine Blk.alloc ?_ _)); (first | exact Nat.le_refl _ | exact Nat.le_succ _ | omega)); rfl; (intro e; cases e); (refine WInv.cut (w := w) (w3 := w3) (r := r) (M := N + 950) (q := q) (B8 := w8.heap.size) (c3 := c3) (v := .slice Av n cv) (n := n) (xs := xs) ?_ fr dl ?_ hc3; (repeat' first | (with_reducible exact Ia.out) | (with_reducible exact Ip.out) | (with_reducible exact I8.out) | (with_reducible refine WInv.alloc ?_ _) | (with_reducible refine WInv.drew ?_)); omega); omega; omega; (refine WInv.size (w := w) (w3 := w3) (r := r) (M := N + 950) (q := q) (v := .slice Av n cv) (n := n) (xs := xs) (A3 := some ⟨b3, off3, none⟩) (st := streamOf xs s) ?_; (repeat' first | (with_reducible exact Ia.out) | (with_reducible exact Ip.out) | (with_reducible exact I8.out) | (with_reducible refine WInv.alloc ?_ _) | (with_reducible refine WInv.drew ?_))); intro v75 w75 own75 grow75 or75; (refine have_then (P := Hid (WInv w w3 r (N + 950) (.slice Av n cv) n xs (some ⟨b3, off3, none⟩) q (streamOf xs s) w8.heap.size w75)) ?_ ?_; (refine Lib.hid (WInv.app ?_ grow75 ?_ hr8 Hv8.out hz8 hw8); (repeat' first | (with_reducible exact Ia.out) | (with_reducible exact Ip.out) | (with_reducible exact I8.out) | (with_reducible refine WInv.alloc ?_ _) | (with_reducible refine WInv.drew ?_)); (intro k hk; refine own_ge hk ?_; (first | exact Nat.le_refl _ | exact Nat.le_succ _ | omega))); intro Ia; have hz758 := WInv.size Ia.out); (first | (refine have_then (P := Blk w75 (w8.heap.size) 3 #[.int .i64 ((fr : Int) - 1), .int .i64 (-2), .int .i64 x]) ?_ ?_; (refine Blk.grown ?_ grow75 ?_; (repeat' first | (with_reducible exact b3q) | (with_reducible exact b3p) | (with_reducible exact b0p) | (with_reducible exact Blk.new _ _ _) | (with_reducible exact Blk.newd _ _ _) | (with_reducible refine Blk.drew1 ?_) | (exact Blk.newd _ _ _) | (exact Blk.new _ _ _) | (exact Blk.new1 _ _ _ _) | (exact Blk.new1d _ _ _ _) | (with_reducible refine Blk.alloc ?_ _)); (intro e; refine own_ne e ?_; omega)); intro b3q) | (refine have_then (P := Blk w75 (w8.heap.size + 1) 3 #[.int .i64 ((fr : Int) - 1), .int .i64 (-2), .int .i64 x]) ?_ ?_; (refine Blk.grown ?_ grow75 ?_; (repeat' first | (with_reducible exact b3q) | (with_reducible exact b3p) | (with_reducible exact b0p) | (with_reducible exact Blk.new _ _ _) | (with_reducible exact Blk.newd _ _ _) | (with_reducible refine Blk.drew1 ?_) | (exact Blk.newd _ _ _) | (exact Blk.new _ _ _) | (exact Blk.new1 _ _ _ _) | (exact Blk.new1d _ _ _ _) | (with_reducible refine Blk.alloc ?_ _)); (intro e; refine own_ne e ?_; omega)); intro b3q) | (refine have_then (P := Blk w75 (w9.heap.size) 3 #[.int .i64 ((fr : Int) - 1), .int .i64 (-2), .int .i64 x]) ?_ ?_; (refine Blk.grown ?_ grow75 ?_; (repeat' first | (with_reducible exact b3q) | (with_reducible exact b3p) | (with_reducible exact b0p) | (with_reducible exact Blk.new _ _ _) | (with_reducible exact Blk.newd _ _ _) | (with_reducible refine Blk.drew1 ?_) | (exact Blk.newd _ _ _) | (exact Blk.new _ _ _) | (exact Blk.new1 _ _ _ _) | (exact Blk.new1d _ _ _ _) | (with_reducible refine Blk.alloc ?_ _)); (intro e; refine own_ne e ?_; omega)); intro b3q) | (refine have_then (P := Blk w75 (w9.heap.size + 1) 3 #[.int .i64 ((fr : Int) - 1), .int .i64 (-2), .int .i64 x]) ?_ ?_; (refine Blk.grown ?_ grow75 ?_; (repeat' first | (with_reducible exact b3q) | (with_reducible exact b3p) | (with_reducible exact b0p) | (with_reducible exact Blk.new _ _ _) | (with_reducible exact Blk.newd _ _ _) | (with_reducible refine Blk.drew1 ?_) | (exact Blk.newd _ _ _) | (exact Blk.new _ _ _) | (exact Blk.new1 _ _ _ _) | (exact Blk.new1d _ _ _ _) | (with_reducible refine Blk.alloc ?_ _)); (intro e; refine own_ne e ?_; omega)); intro b3q) | skip); (first | (have c75 := (b3q.cell z9).trans hx9; have c75a := fun o => ((b3q.alloc o).cell z9).trans hx9) | skip))
        | (refine app_src_step elemEv _ ?_ (.tmp 70) (.tmp 74) ?_ w8.heap.size (.slice (some ⟨w9.heap.size, 0, none⟩) 0 0) 0 [] ?_ ?_ (some ⟨b3, off3 + fr * 3, none⟩) (1 + dl) (c3 - fr) w3.heap.size ((((streamOf xs s).drop fr).take (1 + dl)).flatMap evCells) ?_ ?_ ?_ (evs_one _) ?_ ?_ ?_ ?_; rfl; rfl; rfl; (refine own_blk0 ?_ ?_; (repeat' first | (with_reducible exact b3q) | (with_reducible exact b3p) | (with_reducible exact b0p) | (with_reducible exact Blk.new _ _ _) | (with_reducible exact Blk.newd _ _ _) | (with_reducible refine Blk.drew1 ?_) | (exact Blk.newd _ _ _) | (exact Blk.new _ _ _) | (exact Blk.new1 _ _ _ _) | (exact Blk.new1d _ _ _ _) | (with_reducible refine Blk.alloc ?_ _)); (first | exact Nat.le_refl _ | exact Nat.le_succ _ | omega)); rfl; (intro e; cases e); (refine WInv.cut (w := w) (w3 := w3) (r := r) (M := N + 950) (q := q) (B8 := w8.heap.size) (c3 := c3) (v := .slice Av n cv) (n := n) (xs := xs) ?_ fr dl ?_ hc3; (repeat' first | (with_reducible exact Ia.out) | (with_reducible exact Ip.out) | (with_reducible exact I8.out) | (with_reducible refine WInv.alloc ?_ _) | (with_reducible refine WInv.drew ?_)); omega); omega; omega; (refine WInv.size (w := w) (w3 := w3) (r := r) (M := N + 950) (q := q) (v := .slice Av n cv) (n := n) (xs := xs) (A3 := some ⟨b3, off3, none⟩) (st := streamOf xs s) ?_; (repeat' first | (with_reducible exact Ia.out) | (with_reducible exact Ip.out) | (with_reducible exact I8.out) | (with_reducible refine WInv.alloc ?_ _) | (with_reducible refine WInv.drew ?_))); intro v75 w75 own75 grow75 or75; (refine have_then (P := Hid (WInv w w3 r (N + 950) (.slice Av n cv) n xs (some ⟨b3, off3, none⟩) q (streamOf xs s) w8.heap.size w75)) ?_ ?_; (refine Lib.hid (WInv.app ?_ grow75 ?_ hr8 Hv8.out hz8 hw8); (repeat' first | (with_reducible exact Ia.out) | (with_reducible exact Ip.out) | (with_reducible exact I8.out) | (with_reducible refine WInv.alloc ?_ _) | (with_reducible refine WInv.drew ?_)); (intro k hk; refine own_ge hk ?_; (first | exact Nat.le_refl _ | exact Nat.le_succ _ | omega))); intro Ia; have hz758 := WInv.size Ia.out); (first | (refine have_then (P := Blk w75 (w8.heap.size) 3 #[.int .i64 ((fr : Int) - 1), .int .i64 (-2), .int .i64 x]) ?_ ?_; (refine Blk.grown ?_ grow75 ?_; (repeat' first | (with_reducible exact b3q) | (with_reducible exact b3p) | (with_reducible exact b0p) | (with_reducible exact Blk.new _ _ _) | (with_reducible exact Blk.newd _ _ _) | (with_reducible refine Blk.drew1 ?_) | (exact Blk.newd _ _ _) | (exact Blk.new _ _ _) | (exact Blk.new1 _ _ _ _) | (exact Blk.new1d _ _ _ _) | (with_reducible refine Blk.alloc ?_ _)); (intro e; refine own_ne e ?_; omega)); intro b3q) | (refine have_then (P := Blk w75 (w8.heap.size + 1) 3 #[.int .i64 ((fr : Int) - 1), .int .i64 (-2), .int .i64 x]) ?_ ?_; (refine Blk.grown ?_ grow75 ?_; (repeat' first | (with_reducible exact b3q) | (with_reducible exact b3p) | (with_reducible exact b0p) | (with_reducible exact Blk.new _ _ _) | (with_reducible exact Blk.newd _ _ _) | (with_reducible refine Blk.drew1 ?_) | (exact Blk.newd _ _ _) | (exact Blk.new _ _ _) | (exact Blk.new1 _ _ _ _) | (exact Blk.new1d _ _ _ _) | (with_reducible refine Blk.alloc ?_ _)); (intro e; refine own_ne e ?_; omega)); intro b3q) | (refine have_then (P := Blk w75 (w9.heap.size) 3 #[.int .i64 ((fr : Int) - 1), .int .i64 (-2), .int .i64 x]) ?_ ?_; (refine Blk.grown ?_ grow75 ?_; (repeat' first | (with_reducible exact b3q) | (with_reducible exact b3p) | (with_reducible exact b0p) | (with_reducible exact Blk.new _ _ _) | (with_reducible exact Blk.newd _ _ _) | (with_reducible refine Blk.drew1 ?_) | (exact Blk.newd _ _ _) | (exact Blk.new _ _ _) | (exact Blk.new1 _ _ _ _) | (exact Blk.new1d _ _ _ _) | (with_reducible refine Blk.alloc ?_ _)); (intro e; refine own_ne e ?_; omega)); intro b3q) | (refine have_then (P := Blk w75 (w9.heap.size + 1) 3 #[.int .i64 ((fr : Int) - 1), .int .i64 (-2), .int .i64 x]) ?_ ?_; (refine Blk.grown ?_ grow75 ?_; (repeat' first | (with_reducible exact b3q) | (with_reducible exact b3p) | (with_reducible exact b0p) | (with_reducible exact Blk.new _ _ _) | (with_reducible exact Blk.newd _ _ _) | (with_reducible refine Blk.drew1 ?_) | (exact Blk.newd _ _ _) | (exact Blk.new _ _ _) | (exact Blk.new1 _ _ _ _) | (exact Blk.new1d _ _ _ _) | (with_reducible refine Blk.alloc ?_ _)); (intro e; refine own_ne e ?_; omega)); intro b3q) | skip); (first | (have c75 := (b3q.cell z9).trans hx9; have c75a := fun o => ((b3q.alloc o).cell z9).trans hx9) | skip))
        | (refine app_src_step elemEv _ ?_ (.tmp 70) (.tmp 74) ?_ w8.heap.size (.slice (some ⟨w9.heap.size + 1, 0, none⟩) 0 0) 0 [] ?_ ?_ (some ⟨b3, off3 + fr * 3, none⟩) (1 + dl) (c3 - fr) w3.heap.size ((((streamOf xs s).drop fr).take (1 + dl)).flatMap evCells) ?_ ?_ ?_ (evs_one _) ?_ ?_ ?_ ?_; rfl; rfl; rfl; (refine own_blk0 ?_ ?_; (repeat' first | (with_reducible exact b3q) | (with_reducible exact b3p) | (with_reducible exact b0p) | (with_reducible exact Blk.new _ _ _) | (with_reducible exact Blk.newd _ _ _) | (with_reducible refine Blk.drew1 ?_) | (exact Blk.newd _ _ _) | (exact Blk.new _ _ _) | (exact Blk.new1 _ _ _ _) | (exact Blk.new1d _ _ _ _) | (with_reducible refine Blk.alloc ?_ _)); (first | exact Nat.le_refl _ | exact Nat.le_succ _ | omega)); rfl; (intro e; cases e); (refine WInv.cut (w := w) (w3 := w3) (r := r) (M := N + 950) (q := q) (B8 := w8.heap.size) (c3 := c3) (v := .slice Av n cv) (n := n) (xs := xs) ?_ fr dl ?_ hc3; (repeat' first | (with_reducible exact Ia.out) | (with_reducible exact Ip.out) | (with_reducible exact I8.out) | (with_reducible refine WInv.alloc ?_ _) | (with_reducible refine WInv.drew ?_)); omega); omega; omega; (refine WInv.size (w := w) (w3 := w3) (r := r) (M := N + 950) (q := q) (v := .slice Av n cv) (n := n) (xs := xs) (A3 := some ⟨b3, off3, none⟩) (st := streamOf xs s) ?_; (repeat' first | (with_reducible exact Ia.out) | (with_reducible exact Ip.out) | (with_reducible exact I8.out) | (with_reducible refine WInv.alloc ?_ _) | (with_reducible refine WInv.drew ?_))); intro v75 w75 own75 grow75 or75; (refine have_then (P := Hid (WInv w w3 r (N + 950) (.slice Av n cv) n xs (some ⟨b3, off3, none⟩) q (streamOf xs s) w8.heap.size w75)) ?_ ?_; (refine Lib.hid (WInv.app ?_ grow75 ?_ hr8 Hv8.out hz8 hw8); (repeat' first | (with_reducible exact Ia.out) | (with_reducible exact Ip.out) | (with_reducible exact I8.out) | (with_reducible refine WInv.alloc ?_ _) | (with_reducible refine WInv.drew ?_)); (intro k hk; refine own_ge hk ?_; (first | exact Nat.le_refl _ | exact Nat.le_succ _ | omega))); intro Ia; have hz758 := WInv.size Ia.out); (first | (refine have_then (P := Blk w75 (w8.heap.size) 3 #[.int .i64 ((fr : Int) - 1), .int .i64 (-2), .int .i64 x]) ?_ ?_; (refine Blk.grown ?_ grow75 ?_; (repeat' first | (with_reducible exact b3q) | (with_reducible exact b3p) | (with_reducible exact b0p) | (with_reducible exact Blk.new _ _ _) | (with_reducible exact Blk.newd _ _ _) | (with_reducible refine Blk.drew1 ?_) | (exact Blk.newd _ _ _) | (exact Blk.new _ _ _) | (exact Blk.new1 _ _ _ _) | (exact Blk.new1d _ _ _ _) | (with_reducible refine Blk.alloc ?_ _)); (intro e; refine own_ne e ?_; omega)); intro b3q) | (refine have_then (P := Blk w75 (w8.heap.size + 1) 3 #[.int .i64 ((fr : Int) - 1), .int .i64 (-2), .int .i64 x]) ?_ ?_; (refine Blk.grown ?_ grow75 ?_; (repeat' first | (with_reducible exact b3q) | (with_reducible exact b3p) | (with_reducible exact b0p) | (with_reducible exact Blk.new _ _ _) | (with_reducible exact Blk.newd _ _ _) | (with_reducible refine Blk.drew1 ?_) | (exact Blk.newd _ _ _) | (exact Blk.new _ _ _) | (exact Blk.new1 _ _ _ _) | (exact Blk.new1d _ _ _ _) | (with_reducible refine Blk.alloc ?_ _)); (intro e; refine own_ne e ?_; omega)); intro b3q) | (refine have_then (P := Blk w75 (w9.heap.size) 3 #[.int .i64 ((fr : Int) - 1), .int .i64 (-2), .int .i64 x]) ?_ ?_; (refine Blk.grown ?_ grow75 ?_; (repeat' first | (with_reducible exact b3q) | (with_reducible exact b3p) | (with_reducible exact b0p) | (with_reducible exact Blk.new _ _ _) | (with_reducible exact Blk.newd _ _ _) | (with_reducible refine Blk.drew1 ?_) | (exact Blk.newd _ _ _) | (exact Blk.new _ _ _) | (exact Blk.new1 _ _ _ _) | (exact Blk.new1d _ _ _ _) | (with_reducible refine Blk.alloc ?_ _)); (intro e; refine own_ne e ?_; omega)); intro b3q) | (refine have_then (P := Blk w75 (w9.heap.size + 1) 3 #[.int .i64 ((fr : Int) - 1), .int .i64 (-2), .int .i64 x]) ?_ ?_; (refine Blk.grown ?_ grow75 ?_; (repeat' first | (with_reducible exact b3q) | (with_reducible exact b3p) | (with_reducible exact b0p) | (with_reducible exact Blk.new _ _ _) | (with_reducible exact Blk.newd _ _ _) | (with_reducible refine Blk.drew1 ?_) | (exact Blk.newd _ _ _) | (exact Blk.new _ _ _) | (exact Blk.new1 _ _ _ _) | (exact Blk.new1d _ _ _ _) | (with_reducible refine Blk.alloc ?_ _)); (intro e; refine own_ne e ?_; omega)); intro b3q) | skip); (first | (have c75 := (b3q.cell z9).trans hx9; have c75a := fun o => ((b3q.alloc o).cell z9).trans hx9) | skip))
        | (refine app_src_step elemEv _ ?_ (.tmp 70) (.tmp 74) ?_ w8.heap.size (.slice (some ⟨w8.heap.size, 0, none⟩) 0 0) 0 [] ?_ ?_ (some ⟨b3, off3 + fr * 3, none⟩) (1 + dl) (c3 - fr) w3.heap.size ((((streamOf xs s).drop fr).take (1 + dl)).flatMap evCells) ?_ ?_ ?_ (evs_one _) ?_ ?_ ?_ ?_; rfl; rfl; rfl; (refine own_blk0 ?_ ?_; (repeat' first | (with_reducible exact b3q) | (with_reducible exact b3p) | (with_reducible exact b0p) | (with_reducible exact Blk.new _ _ _) | (with_reducible exact Blk.newd _ _ _) | (with_reducible refine Blk.drew1 ?_) | (exact Blk.newd _ _ _) | (exact Blk.new _ _ _) | (exact Blk.new1 _ _ _ _) | (exact Blk.new1d _ _ _ _) | (with_reducible refine Blk.alloc ?_ _)); (first | exact Nat.le_refl _ | exact Nat.le_succ _ | omega)); rfl; (intro e; cases e); (refine WInv.cut (w := w) (w3 := w3) (r := r) (M := N + 950 + 1) (q := q) (B8 := w8.heap.size) (c3 := c3) (v := .slice Av n cv) (n := n) (xs := xs) ?_ fr dl ?_ hc3; (repeat' first | (with_reducible exact Ia.out) | (with_reducible exact Ip.out) | (with_reducible exact I8.out) | (with_reducible refine WInv.alloc ?_ _) | (with_reducible refine WInv.drew ?_)); omega); omega; omega; (refine WInv.size (w := w) (w3 := w3) (r := r) (M := N + 950 + 1) (q := q) (v := .slice Av n cv) (n := n) (xs := xs) (A3 := some ⟨b3, off3, none⟩) (st := streamOf xs s) ?_; (repeat' first | (with_reducible exact Ia.out) | (with_reducible exact Ip.out) | (with_reducible exact I8.out) | (with_reducible refine WInv.alloc ?_ _) | (with_reducible refine WInv.drew ?_))); intro v75 w75 own75 grow75 or75; (refine have_then (P := Hid (WInv w w3 r (N + 950 + 1) (.slice Av n cv) n xs (some ⟨b3, off3, none⟩) q (streamOf xs s) w8.heap.size w75)) ?_ ?_; (refine Lib.hid (WInv.app ?_ grow75 ?_ hr8 Hv8.out hz8 hw8); (repeat' first | (with_reducible exact Ia.out) | (with_reducible exact Ip.out) | (with_reducible exact I8.out) | (with_reducible refine WInv.alloc ?_ _) | (with_reducible refine WInv.drew ?_)); (intro k hk; refine own_ge hk ?_; (first | exact Nat.le_refl _ | exact Nat.le_succ _ | omega))); intro Ia; have hz758 := WInv.size Ia.out); (first | (refine have_then (P := Blk w75 (w8.heap.size) 3 #[.int .i64 ((fr : Int) - 1), .int .i64 (-2), .int .i64 x]) ?_ ?_; (refine Blk.grown ?_ grow75 ?_; (repeat' first | (with_reducible exact b3q) | (with_reducible exact b3p) | (with_reducible exact b0p) | (with_reducible exact Blk.new _ _ _) | (with_reducible exact Blk.newd _ _ _) | (with_reducible refine Blk.drew1 ?_) | (exact Blk.newd _ _ _) | (exact Blk.new _ _ _) | (exact Blk.new1 _ _ _ _) | (exact Blk.new1d _ _ _ _) | (with_reducible refine Blk.alloc ?_ _)); (intro e; refine own_ne e ?_; omega)); intro b3q) | (refine have_then (P := Blk w75 (w8.heap.size + 1) 3 #[.int .i64 ((fr : Int) - 1), .int .i64 (-2), .int .i64 x]) ?_ ?_; (refine Blk.grown ?_ grow75 ?_; (repeat' first | (with_reducible exact b3q) | (with_reducible exact b3p) | (with_reducible exact b0p) | (with_reducible exact Blk.new _ _ _) | (with_reducible exact Blk.newd _ _ _) | (with_reducible refine Blk.drew1 ?_) | (exact Blk.newd _ _ _) | (exact Blk.new _ _ _) | (exact Blk.new1 _ _ _ _) | (exact Blk.new1d _ _ _ _) | (with_reducible refine Blk.alloc ?_ _)); (intro e; refine own_ne e ?_; omega)); intro b3q) | (refine have_then (P := Blk w75 (w9.heap.size) 3 #[.int .i64 ((fr : Int) - 1), .int .i64 (-2), .int .i64 x]) ?_ ?_; (refine Blk.grown ?_ grow75 ?_; (repeat' first | (with_reducible exact b3q) | (with_reducible exact b3p) | (with_reducible exact b0p) | (with_reducible exact Blk.new _ _ _) | (with_reducible exact Blk.newd _ _ _) | (with_reducible refine Blk.drew1 ?_) | (exact Blk.newd _ _ _) | (exact Blk.new _ _ _) | (exact Blk.new1 _ _ _ _) | (exact Blk.new1d _ _ _ _) | (with_reducible refine Blk.alloc ?_ _)); (intro e; refine own_ne e ?_; omega)); intro b3q) | (refine have_then (P := Blk w75 (w9.heap.size + 1) 3 #[.int .i64 ((fr : Int) - 1), .int .i64 (-2), .int .i64 x]) ?_ ?_; (refine Blk.grown ?_ grow75 ?_; (repeat' first | (with_reducible exact b3q) | (with_reducible exact b3p) | (with_reducible exact b0p) | (with_reducible exact Blk.new _ _ _) | (with_reducible exact Blk.newd _ _ _) | (with_reducible refine Blk.drew1 ?_) | (exact Blk.newd _ _ _) | (exact Blk.new _ _ _) | (exact Blk.new1 _ _ _ _) | (exact Blk.new1d _ _ _ _) | (with_reducible refine Blk.alloc ?_ _)); (intro e; refine own_ne e ?_; omega)); intro b3q) | skip); (first | (have c75 := (b3q.cell z9).trans hx9; have c75a := fun o => ((b3q.alloc o).cell z9).trans hx9) | skip))
        | (refine app_src_step elemEv _ ?_ (.tmp 70) (.tmp 74) ?_ w8.heap.size (.slice (some ⟨w8.heap.size + 1, 0, none⟩) 0 0) 0 [] ?_ ?_ (some ⟨b3, off3 + fr * 3, none⟩) (1 + dl) (c3 - fr) w3.heap.size ((((streamOf xs s).drop fr).take (1 + dl)).flatMap evCells) ?_ ?_ ?_ (evs_one _) ?_ ?_ ?_ ?_; rfl; rfl; rfl; (refine own_blk0 ?_ ?_; (repeat' first | (with_reducible exact b3q) | (with_reducible exact b3p) | (with_reducible exact b0p) | (with_reducible exact Blk.new _ _ _) | (with_reducible exact Blk.newd _ _ _) | (with_reducible refine Blk.drew1 ?_) | (exact Blk.newd _ _ _) | (exact Blk.new _ _ _) | (exact Blk.new1 _ _ _ _) | (exact Blk.new1d _ _ _ _) | (with_reducible refine Blk.alloc ?_ _)); (first | exact Nat.le_refl _ | exact Nat.le_succ _ | omega)); rfl; (intro e; cases e); (refine WInv.cut (w := w) (w3 := w3) (r := r) (M := N + 950 + 1) (q := q) (B8 := w8.heap.size) (c3 := c3) (v := .slice Av n cv) (n := n) (xs := xs) ?_ fr dl ?_ hc3; (repeat' first | (with_reducible exact Ia.out) | (with_reducible exact Ip.out) | (with_reducible exact I8.out) | (with_reducible refine WInv.alloc ?_ _) | (with_reducible refine WInv.drew ?_)); omega); omega; omega; (refine WInv.size (w := w) (w3 := w3) (r := r) (M := N + 950 + 1) (q := q) (v := .slice Av n cv) (n := n) (xs := xs) (A3 := some ⟨b3, off3, none⟩) (st := streamOf xs s) ?_; (repeat' first | (with_reducible exact Ia.out) | (with_reducible exact Ip.out) | (with_reducible exact I8.out) | (with_reducible refine WInv.alloc ?_ _) | (with_reducible refine WInv.drew ?_))); intro v75 w75 own75 grow75 or75; (refine have_then (P := Hid (WInv w w3 r (N + 950 + 1) (.slice Av n cv) n xs (some ⟨b3, off3, none⟩) q (streamOf xs s) w8.heap.size w75)) ?_ ?_; (refine Lib.hid (WInv.app ?_ grow75 ?_ hr8 Hv8.out hz8 hw8); (repeat' first | (with_reducible exact Ia.out) | (with_reducible exact Ip.out) | (with_reducible exact I8.out) | (with_reducible refine WInv.alloc ?_ _) | (with_reducible refine WInv.drew ?_)); (intro k hk; refine own_ge hk ?_; (first | exact Nat.le_refl _ | exact Nat.le_succ _ | omega))); intro Ia; have hz758 := WInv.size Ia.out); (first | (refine have_then (P := Blk w75 (w8.heap.size) 3 #[.int .i64 ((fr : Int) - 1), .int .i64 (-2), .int .i64 x]) ?_ ?_; (refine Blk.grown ?_ grow75 ?_; (repeat' first | (with_reducible exact b3q) | (with_reducible exact b3p) | (with_reducible exact b0p) | (with_reducible exact Blk.new _ _ _) | (with_reducible exact Blk.newd _ _ _) | (with_reducible refine Blk.drew1 ?_) | (exact Blk.newd _ _ _) | (exact Blk.new _ _ _) | (exact Blk.new1 _ _ _ _) | (exact Blk.new1d _ _ _ _) | (with_reducible refine Blk.alloc ?_ _)); (intro e; refine own_ne e ?_; omega)); intro b3q) | (refine have_then (P := Blk w75 (w8.heap.size + 1) 3 #[.int .i64 ((fr : Int) - 1), .int .i64 (-2), .int .i64 x]) ?_ ?_; (refine Blk.grown ?_ grow75 ?_; (repeat' first | (with_reducible exact b3q) | (with_reducible exact b3p) | (with_reducible exact b0p) | (with_reducible exact Blk.new _ _ _) | (with_reducible exact Blk.newd _ _ _) | (with_reducible refine Blk.drew1 ?_) | (exact Blk.newd _ _ _) | (exact Blk.new _ _ _) | (exact Blk.new1 _ _ _ _) | (exact Blk.new1d _ _ _ _) | (with_reducible refine Blk.alloc ?_ _)); (intro e; refine own_ne e ?_; omega)); intro b3q) | (refine have_then (P := Blk w75 (w9.heap.size) 3 #[.int .i64 ((fr : Int) - 1), .int .i64 (-2), .int .i64 x]) ?_ ?_; (refine Blk.grown ?_ grow75 ?_; (repeat' first | (with_reducible exact b3q) | (with_reducible exact b3p) | (with_reducible exact b0p) | (with_reducible exact Blk.new _ _ _) | (with_reducible exact Blk.newd _ _ _) | (with_reducible refine Blk.drew1 ?_) | (exact Blk.newd _ _ _) | (exact Blk.new _ _ _) | (exact Blk.new1 _ _ _ _) | (exact Blk.new1d _ _ _ _) | (with_reducible refine Blk.alloc ?_ _)); (intro e; refine own_ne e ?_; omega)); intro b3q) | (refine have_then (P := Blk w75 (w9.heap.size + 1) 3 #[.int .i64 ((fr : Int) - 1), .int .i64 (-2), .int .i64 x]) ?_ ?_; (refine Blk.grown ?_ grow75 ?_; (repeat' first | (with_reducible exact b3q) | (with_reducible exact b3p) | (with_reducible exact b0p) | (with_reducible exact Blk.new _ _ _) | (with_reducible exact Blk.newd _ _ _) | (with_reducible refine Blk.drew1 ?_) | (exact Blk.newd _ _ _) | (exact Blk.new _ _ _) | (exact Blk.new1 _ _ _ _) | (exact Blk.new1d _ _ _ _) | (with_reducible refine Blk.alloc ?_ _)); (intro e; refine own_ne e ?_; omega)); intro b3q) | skip); (first | (have c75 := (b3q.cell z9).trans hx9; have c75a := fun o => ((b3q.alloc o).cell z9).trans hx9) | skip))
        | (refine app_src_step elemEv _ ?_ (.tmp 70) (.tmp 74) ?_ w8.heap.size (.slice (some ⟨w9.heap.size, 0, none⟩) 0 0) 0 [] ?_ ?_ (some ⟨b3, off3 + fr * 3, none⟩) (1 + dl) (c3 - fr) w3.heap.size ((((streamOf xs s).drop fr).take (1 + dl)).flatMap evCells) ?_ ?_ ?_ (evs_one _) ?_ ?_ ?_ ?_; rfl; rfl; rfl; (refine own_blk0 ?_ ?_; (repeat' first | (with_reducible exact b3q) | (with_reducible exact b3p) | (with_reducible exact b0p) | (with_reducible exact Blk.new _ _ _) | (with_reducible exact Blk.newd _ _ _) | (with_reducible refine Blk.drew1 ?_) | (exact Blk.newd _ _ _) | (exact Blk.new _ _ _) | (exact Blk.new1 _ _ _ _) | (exact Blk.new1d _ _ _ _) | (with_reducible refine Blk.alloc ?_ _)); (first | exact Nat.le_refl _ | exact Nat.le_succ _ | omega)); rfl; (intro e; cases e); (refine WInv.cut (w := w) (w3 := w3) (r := r) (M := N + 950 + 1) (q := q) (B8 := w8.heap.size) (c3 := c3) (v := .slice Av n cv) (n := n) (xs := xs) ?_ fr dl ?_ hc3; (repeat' first | (with_reducible exact Ia.out) | (with_reducible exact Ip.out) | (with_reducible exact I8.out) | (with_reducible refine WInv.alloc ?_ _) | (with_reducible refine WInv.drew ?_)); omega); omega; omega; (refine WInv.size (w := w) (w3 := w3) (r := r) (M := N + 950 + 1) (q := q) (v := .slice Av n cv) (n := n) (xs := xs) (A3 := some ⟨b3, off3, none⟩) (st := streamOf xs s) ?_; (repeat' first | (with_reducible exact Ia.out) | (with_reducible exact Ip.out) | (with_reducible exact I8.out) | (with_reducible refine WInv.alloc ?_ _) | (with_reducible refine WInv.drew ?_))); intro v75 w75 own75 grow75 or75; (refine have_then (P := Hid (WInv w w3 r (N + 950 + 1) (.slice Av n cv) n xs (some ⟨b3, off3, none⟩) q (streamOf xs s) w8.heap.size w75)) ?_ ?_; (refine Lib.hid (WInv.app ?_ grow75 ?_ hr8 Hv8.out hz8 hw8); (repeat' first | (with_reducible exact Ia.out) | (with_reducible exact Ip.out) | (with_reducible exact I8.out) | (with_reducible refine WInv.alloc ?_ _) | (with_reducible refine WInv.drew ?_)); (intro k hk; refine own_ge hk ?_; (first | exact Nat.le_refl _ | exact Nat.le_succ _ | omega))); intro Ia; have hz758 := WInv.size Ia.out); (first | (refine have_then (P := Blk w75 (w8.heap.size) 3 #[.int .i64 ((fr : Int) - 1), .int .i64 (-2), .int .i64 x]) ?_ ?_; (refine Blk.grown ?_ grow75 ?_; (repeat' first | (with_reducible exact b3q) | (with_reducible exact b3p) | (with_reducible exact b0p) | (with_reducible exact Blk.new _ _ _) | (with_reducible exact Blk.newd _ _ _) | (with_reducible refine Blk.drew1 ?_) | (exact Blk.newd _ _ _) | (exact Blk.new _ _ _) | (exact Blk.new1 _ _ _ _) | (exact Blk.new1d _ _ _ _) | (with_reducible refine Blk.alloc ?_ _)); (intro e; refine own_ne e ?_; omega)); intro b3q) | (refine have_then (P := Blk w75 (w8.heap.size + 1) 3 #[.int .i64 ((fr : Int) - 1), .int .i64 (-2), .int .i64 x]) ?_ ?_; (refine Blk.grown ?_ grow75 ?_; (repeat' first | (with_reducible exact b3q) | (with_reducible exact b3p) | (with_reducible exact b0p) | (with_reducible exact Blk.new _ _ _) | (with_reducible exact Blk.newd _ _ _) | (with_reducible refine Blk.drew1 ?_) | (exact Blk.newd _ _ _) | (exact Blk.new _ _ _) | (exact Blk.new1 _ _ _ _) | (exact Blk.new1d _ _ _ _) | (with_reducible refine Blk.alloc ?_ _)); (intro e; refine own_ne e ?_; omega)); intro b3q) | (refine have_then (P := Blk w75 (w9.heap.size) 3 #[.int .i64 ((fr : Int) - 1), .int .i64 (-2), .int .i64 x]) ?_ ?_; (refine Blk.grown ?_ grow75 ?_; (repeat' first | (with_reducible exact b3q) | (with_reducible exact b3p) | (with_reducible exact b0p) | (with_reducible exact Blk.new _ _ _) | (with_reducible exact Blk.newd _ _ _) | (with_reducible refine Blk.drew1 ?_) | (exact Blk.newd _ _ _) | (exact Blk.new _ _ _) | (exact Blk.new1 _ _ _ _) | (exact Blk.new1d _ _ _ _) | (with_reducible refine Blk.alloc ?_ _)); (intro e; refine own_ne e ?_; omega)); intro b3q) | (refine have_then (P := Blk w75 (w9.heap.size + 1) 3 #[.int .i64 ((fr : Int) - 1), .int .i64 (-2), .int .i64 x]) ?_ ?_; (refine Blk.grown ?_ grow75 ?_; (repeat' first | (with_reducible exact b3q) | (with_reducible exact b3p) | (with_reducible exact b0p) | (with_reducible exact Blk.new _ _ _) | (with_reducible exact Blk.newd _ _ _) | (with_reducible refine Blk.drew1 ?_) | (exact Blk.newd _ _ _) | (exact Blk.new _ _ _) | (exact Blk.new1 _ _ _ _) | (exact Blk.new1d _ _ _ _) | (with_reducible refine Blk.alloc ?_ _)); (intro e; refine own_ne e ?_; omega)); intro b3q) | skip); (first | (have c75 := (b3q.cell z9).trans hx9; have c75a := fun o => ((b3q.alloc o).cell z9).trans hx9) | skip))
        | (refine app_src_step elemEv _ ?_ (.tmp 70) (.tmp 74) ?_ w8.heap.size (.slice (some ⟨w9.heap.size + 1, 0, none⟩) 0 0) 0 [] ?_ ?_ (some ⟨b3, off3 + fr * 3, none⟩) (1 + dl) (c3 - fr) w3.heap.size ((((streamOf xs s).drop fr).take (1 + dl)).flatMap evCells) ?_ ?_ ?_ (evs_one _) ?_ ?_ ?_ ?_; rfl; rfl; rfl; (refine own_blk0 ?_ ?_; (repeat' first | (with_reducible exact b3q) | (with_reducible exact b3p) | (with_reducible exact b0p) | (with_reducible exact Blk.new _ _ _) | (with_reducible exact Blk.newd _ _ _) | (with_reducible refine Blk.drew1 ?_) | (exact Blk.newd _ _ _) | (exact Blk.new _ _ _) | (exact Blk.new1 _ _ _ _) | (exact Blk.new1d _ _ _ _) | (with_reducible refine Blk.alloc ?_ _)); (first | exact Nat.le_refl _ | exact Nat.le_succ _ | omega)); rfl; (intro e; cases e); (refine WInv.cut (w := w) (w3 := w3) (r := r) (M := N + 950 + 1) (q := q) (B8 := w8.heap.size) (c3 := c3) (v := .slice Av n cv) (n := n) (xs := xs) ?_ fr dl ?_ hc3; (repeat' first | (with_reducible exact Ia.out) | (with_reducible exact Ip.out) | (with_reducible exact I8.out) | (with_reducible refine WInv.alloc ?_ _) | (with_reducible refine WInv.drew ?_)); omega); omega; omega; (refine WInv.size (w := w) (w3 := w3) (r := r) (M := N + 950 + 1) (q := q) (v := .slice Av n cv) (n := n) (xs := xs) (A3 := some ⟨b3, off3, none⟩) (st := streamOf xs s) ?_; (repeat' first | (with_reducible exact Ia.out) | (with_reducible exact Ip.out) | (with_reducible exact I8.out) | (with_reducible refine WInv.alloc ?_ _) | (with_reducible refine WInv.drew ?_))); intro v75 w75 own75 grow75 or75; (refine have_then (P := Hid (WInv w w3 r (N + 950 + 1) (.slice Av n cv) n xs (some ⟨b3, off3, none⟩) q (streamOf xs s) w8.heap.size w75)) ?_ ?_; (refine Lib.hid (WInv.app ?_ grow75 ?_ hr8 Hv8.out hz8 hw8); (repeat' first | (with_reducible exact Ia.out) | (with_reducible exact Ip.out) | (with_reducible exact I8.out) | (with_reducible refine WInv.alloc ?_ _) | (with_reducible refine WInv.drew ?_)); (intro k hk; refine own_ge hk ?_; (first | exact Nat.le_refl _ | exact Nat.le_succ _ | omega))); intro Ia; have hz758 := WInv.size Ia.out); (first | (refine have_then (P := Blk w75 (w8.heap.size) 3 #[.int .i64 ((fr : Int) - 1), .int .i64 (-2), .int .i64 x]) ?_ ?_; (refine Blk.grown ?_ grow75 ?_; (repeat' first | (with_reducible exact b3q) | (with_reducible exact b3p) | (with_reducible exact b0p) | (with_reducible exact Blk.new _ _ _) | (with_reducible exact Blk.newd _ _ _) | (with_reducible refine Blk.drew1 ?_) | (exact Blk.newd _ _ _) | (exact Blk.new _ _ _) | (exact Blk.new1 _ _ _ _) | (exact Blk.new1d _ _ _ _) | (with_reducible refine Blk.alloc ?_ _)); (intro e; refine own_ne e ?_; omega)); intro b3q) | (refine have_then (P := Blk w75 (w8.heap.size + 1) 3 #[.int .i64 ((fr : Int) - 1), .int .i64 (-2), .int .i64 x]) ?_ ?_; (refine Blk.grown ?_ grow75 ?_; (repeat' first | (with_reducible exact b3q) | (with_reducible exact b3p) | (with_reducible exact b0p) | (with_reducible exact Blk.new _ _ _) | (with_reducible exact Blk.newd _ _ _) | (with_reducible refine Blk.drew1 ?_) | (exact Blk.newd _ _ _) | (exact Blk.new _ _ _) | (exact Blk.new1 _ _ _ _) | (exact Blk.new1d _ _ _ _) | (with_reducible refine Blk.alloc ?_ _)); (intro e; refine own_ne e ?_; omega)); intro b3q) | (refine have_then (P := Blk w75 (w9.heap.size) 3 #[.int .i64 ((fr : Int) - 1), .int .i64 (-2), .int .i64 x]) ?_ ?_; (refine Blk.grown ?_ grow75 ?_; (repeat' first | (with_reducible exact b3q) | (with_reducible exact b3p) | (with_reducible exact b0p) | (with_reducible exact Blk.new _ _ _) | (with_reducible exact Blk.newd _ _ _) | (with_reducible refine Blk.drew1 ?_) | (exact Blk.newd _ _ _) | (exact Blk.new _ _ _) | (exact Blk.new1 _ _ _ _) | (exact Blk.new1d _ _ _ _) | (with_reducible refine Blk.alloc ?_ _)); (intro e; refine own_ne e ?_; omega)); intro b3q) | (refine have_then (P := Blk w75 (w9.heap.size + 1) 3 #[.int .i64 ((fr : Int) - 1), .int .i64 (-2), .int .i64 x]) ?_ ?_; (refine Blk.grown ?_ grow75 ?_; (repeat' first | (with_reducible exact b3q) | (with_reducible exact b3p) | (with_reducible exact b0p) | (with_reducible exact Blk.new _ _ _) | (with_reducible exact Blk.newd _ _ _) | (with_reducible refine Blk.drew1 ?_) | (exact Blk.newd _ _ _) | (exact Blk.new _ _ _) | (exact Blk.new1 _ _ _ _) | (exact Blk.new1d _ _ _ _) | (with_reducible refine Blk.alloc ?_ _)); (intro e; refine own_ne e ?_; omega)); intro b3q) | skip); (first | (have c75 := (b3q.cell z9).trans hx9; have c75a := fun o => ((b3q.alloc o).cell z9).trans hx9) | skip)))
      all_goals
        go_wp2_with fail
        refine bodyPost_ret (v := .tuple #[.slice Av n cv, .string s, .int .i64 x9, v75]) (by simp [results, Tryd.results63, go_sem]) rfl ?_
        refine wr_mk (M := N + 950 + 1) (w3 := w3) (q := q) (A3 := some ⟨b3, off3, none⟩) (st := streamOf xs s) (B8 := w8.heap.size) (m := 1 + dl) (es := ((streamOf xs s).drop fr).take (1 + dl)) ?_ ?_ hw8 Hl HB hn hs hx91 hx92 (fun e he => HE.out e (List.mem_of_mem_drop (List.mem_of_mem_take he))) (by omega) (by rw [List.length_take, List.length_drop, Hq.out]; omega) (by omega)
        · repeat' first | (with_reducible exact Ia.out) | (with_reducible exact Ip.out) | (with_reducible exact I8.out) | (with_reducible refine WInv.alloc ?_ _) | (with_reducible refine WInv.drew ?_)
        · repeat' first | (with_reducible exact oap) | (with_reducible exact own75) | (with_reducible refine World.ownsRow.alloc ?_ _)
    · have hya' : decide ((y : Int) < (ag : Int)) = false := decide_eq_false hya
      go_wp2_with fail
      refine (l91Events_any r _ 3 _ H6.out (by omega) (by omega)).mono ?_
      rintro e we ⟨u, m, es, rfl, hlm, hown, HEs, hm10, hge, hre⟩
      have Oe := Lib.hid (own_rd O6.out hr hge)
      have Ge := Lib.hid (grow_trans G6.out hge)
      have Ue := Lib.hid (own_more hown (show w.heap.size ≤ w6.heap.size from G6.out.size))
      have Hlm := Lib.hid hlm
      have Hre := Lib.hid hre
      have Hap : Hid (∀ b, (Value.slice Av n cv).ownBlock = some b → u.ownBlock ≠ some b) := Lib.hid fun b hb e => by
        have h1 := (hown.lt b e).1
        have h2 := (O6.out.lt b hb).2
        omega
      obtain ⟨Au, cu, rfl⟩ := own_slice_n hown
      clear hown hge hlm hre
      go_wp2_with fail
      go_loopw [15] (fun i wr => ∃ (j : Nat) (es : List Ev), j ≤ m ∧ i = .int .i64 j ∧ Hid (es.length = m) ∧ Hid (wr.ownsRow w.heap.size 29 3 (.slice Au m cu) m (es.flatMap evCells)) ∧ Hid (∀ e ∈ es, EvB e) ∧ Hid (wr.ownsRow w.heap.size 31 4 (.slice Av n cv) n (xs.flatMap enCells)) ∧ Hid (w.grownBy wr (some r)) ∧ Hid (Rd wr r (N + 800 + j))) (fun i _ => m - (intOf i).toNat)
      case atStart => exact ⟨0, es, Nat.zero_le _, rfl, Hlm, Ue, HEs, Oe, Ge, Lib.hid (Hre.out.more (by omega))⟩
      case round =>
        obtain ⟨j, fs, hj, rfl, Hlf, Uf, HEf, Of, Gf, Rf⟩ := hrel
        by_cases hjm : j < m
        · have hjm' : (j : Int) < (m : Int) := by omega
          obtain ⟨g, cap, hv, hgb⟩ := own_head Uf.out (by omega)
          obtain ⟨rfl, -, rfl⟩ : Au = some ⟨g, 0, none⟩ ∧ m = m ∧ cu = cap := by injection hv with a b c; exact ⟨a, rfl, c⟩
          have hfj : fs[j]? = some (nx fs j) := nx_get (by rw [Hlf.out]; exact hjm)
          have HEj := Lib.hid (HEf.out _ (nx_mem (l := fs) (k := j) (by rw [Hlf.out]; exact hjm)))
          have Hset := Lib.hid (fun x => set_flat_id fs j x (by rw [Hlf.out]; exact hjm))
          obtain ⟨⟨id, kind, data⟩, he⟩ : ∃ e, nx fs j = e := ⟨_, rfl⟩
          rw [he] at hfj HEj Hset
          have c0 : wr.cell? ⟨g, j * 3, none⟩ = some (.int .i64 id) := (Uf.out.cellAt (j * 3 + 0) (by omega)).trans (flat_get evCells_len fs j 0 _ hfj (by omega))
          have c1 : wr.cell? ⟨g, j * 3 + 1, none⟩ = some (.string kind) := (Uf.out.cellAt (j * 3 + 1) (by omega)).trans (flat_get evCells_len fs j 1 _ hfj (by omega))
          have c2 : wr.cell? ⟨g, j * 3 + 2, none⟩ = some (.int .i64 data) := (Uf.out.cellAt (j * 3 + 2) (by omega)).trans (flat_get evCells_len fs j 2 _ hfj (by omega))
          clear hv hfj he
          have EV := Lib.hid (evValidS_any id kind data wr (small60 HEj.out.1))
          cases hev : evOk ⟨id, kind, data⟩ with
          | false =>
            rw [hev] at EV
            go_wp2_with fail
            refine EV.out.mono ?_
            rintro e w4' ⟨rfl, hb4⟩
            have Uf' := Lib.hid (own_next Uf.out hb4)
            have Of' := Lib.hid (own_next Of.out hb4)
            have Gf' := Lib.hid (grow_below Gf.out hb4)
            have Rf' := Lib.hid (Rf.out.below hb4)
            clear hb4 c0 c1 c2
            go_wp2_with fail
            go_roundw
            case rel => exact ⟨j + 1, fs, by omega, by go_num, Hlf, Uf', HEf, Of', Gf', Lib.hid (Rf'.out.more (by omega))⟩
            case measure => simp [intOf]; omega
          | true =>
            rw [hev] at EV
            go_wp2_with fail
            refine EV.out.mono ?_
            rintro e w4' ⟨rfl, hb4⟩
            have Uf' := Lib.hid (own_next Uf.out hb4)
            have Of' := Lib.hid (own_next Of.out hb4)
            have Gf' := Lib.hid (grow_below Gf.out hb4)
            have Rf' := Lib.hid (Rf.out.below hb4)
            clear hb4 c0 c1 c2
            go_wp2_with fail
            refine (pick_any r _ _ _ Rf'.out (by omega) (by omega)).mono ?_
            rintro e w5' ⟨y', rfl, hy', hg5, h5⟩
            have U5 := Lib.hid (own_rd Uf'.out hr hg5)
            have O5' := Lib.hid (own_rd Of'.out hr hg5)
            have G5' := Lib.hid (grow_trans Gf'.out hg5)
            have R5' := Lib.hid h5
            have f0 := U5.out.frozenAt (j * 3)
            have d0 := U5.out.cellAt (j * 3) (by omega)
            clear hg5 h5 hy'
            by_cases hy0 : (0 : Int) < (y' : Int)
            · have d0' : ∃ v, w5'.cell? ⟨g, j * 3, none⟩ = some v := ⟨_, d0.trans (List.getElem?_eq_getElem (by rw [flat_len evCells_len, Hlf.out]; omega))⟩
              obtain ⟨v0, d0''⟩ := d0'
              clear d0
              go_wp2_with fail
              obtain ⟨s1, g1⟩ := U5.out.stored (j * 3) (.int .i64 (200 + (j : Int)))
              rw [Hset.out] at s1
              have O6' := Lib.hid (own_far O5'.out ⟨g, j * 3, none⟩ (.int .i64 (200 + (j : Int))) (fun e => Hap.out g e rfl))
              have G6' := Lib.hid (own_grown U5.out (Nat.le_refl _) G5'.out g1)
              have R6' := Lib.hid (rd_own U5.out hr R5'.out g1)
              have HE6 := Lib.hid (evB_set (j := j) HEf.out (x := ⟨200 + (j : Int), kind, data⟩) ⟨HEj.out.1, by show (-100000 : Int) ≤ 200 + (j : Int); omega, by show 200 + (j : Int) ≤ 100000; omega, HEj.out.2.2.2⟩)
              have U6 := Lib.hid s1
              clear s1 g1 f0 d0''
              go_roundw
              case rel => exact ⟨j + 1, _, by omega, by go_num, Lib.hid (by rw [List.length_set, Hlf.out]), U6, HE6, O6', G6', Lib.hid (R6'.out.more (by omega))⟩
              case measure => simp [intOf]; omega
            · have hy1 : decide ((0 : Int) < (y' : Int)) = false := decide_eq_false hy0
              clear d0 f0
              go_wp2_with fail
              go_roundw
              case rel => exact ⟨j + 1, fs, by omega, by go_num, Hlf, U5, HEf, O5', G5', Lib.hid (R5'.out.more (by omega))⟩
              case measure => simp [intOf]; omega
        · obtain rfl : j = m := by omega
          have hjm' : ¬ (j : Int) < (j : Int) := by omega
          by_cases hm0 : j = 0
          · subst hm0
            go_wp2_with fail
            refine (pick_any r _ _ _ Rf.out (by omega) (by omega)).mono ?_
            rintro e w5' ⟨y', rfl, hy', hg5, h5⟩
            have U5 := Lib.hid (own_rd Uf.out hr hg5)
            have O5' := Lib.hid (own_rd Of.out hr hg5)
            have G5' := Lib.hid (grow_trans Gf.out hg5)
            have R5' := Lib.hid h5
            clear hg5 h5 hy'
            by_cases hy0 : (0 : Int) < (y' : Int)
            · go_wp2_with fail
              refine (pick_any r _ _ _ R5'.out (by omega) (by omega)).mono ?_
              rintro e w6' ⟨z', rfl, hz', hg6, h6⟩
              have hz' := hz' (by omega)
              have O6' := Lib.hid (own_rd O5'.out hr hg6)
              have G6' := Lib.hid (grow_trans G5'.out hg6)
              have R6' := Lib.hid h6
              have hsz6 := G6'.out.size
              clear hg6 h6
              go_wp2_with fail
              refine bodyPost_ret (v := .tuple #[.slice Av n cv, .string s, .int .i64 x, .slice (some ⟨w6'.heap.size, 0, none⟩) 1 1]) (by simp [results, Tryd.results63, go_sem]) rfl ?_
              exact ⟨_, n, xs, s, x, _, 1, [⟨300, ⟨#[112, 97, 121]⟩, (z' : Int)⟩], rfl, Hl, Lib.hid (O6'.out.alloc _), HB, hn, hs, hx1, hx2, Lib.hid rfl, Lib.hid (World.ownsRow_lit w6' #[.int .i64 300, .string ⟨#[112, 97, 121]⟩, .int .i64 (z' : Int)] 1 hsz6 (by unfold maxLen; omega) rfl), Lib.hid (fun e he => by rw [List.mem_singleton] at he; subst he; exact ⟨by show (⟨#[112, 97, 121]⟩ : ByteArray).size ≤ 60; decide, by show (-100000 : Int) ≤ 300; decide, by show (300 : Int) ≤ 100000; decide, by show (-100000 : Int) ≤ (z' : Int); omega, by show (z' : Int) ≤ 100000; omega⟩), by omega, Lib.hid (grow_alloc G6'.out _), (rd_alloc R6'.out _).more (by omega)⟩
            · have hy1 : decide ((0 : Int) < (y' : Int)) = false := decide_eq_false hy0
              go_wp2_with fail
              refine bodyPost_ret (v := .tuple #[.slice Av n cv, .string s, .int .i64 x, .slice Au 0 cu]) (by simp [results, Tryd.results63, go_sem]) rfl ?_
              exact ⟨_, n, xs, s, x, _, 0, fs, rfl, Hl, O5', HB, hn, hs, hx1, hx2, Hlf, U5, HEf, by omega, G5', R5'.out.more (by omega)⟩
          · have hm1 : ((j : Int) == 0) = false := beq_eq_false_iff_ne.2 (by omega)
            go_wp2_with fail
            refine bodyPost_ret (v := .tuple #[.slice Av n cv, .string s, .int .i64 x, .slice Au j cu]) (by simp [results, Tryd.results63, go_sem]) rfl ?_
            exact ⟨_, n, xs, s, x, _, j, fs, rfl, Hl, Of, HB, hn, hs, hx1, hx2, Hlf, Uf, HEf, by omega, Gf, Rf.out.more (by omega)⟩
  · obtain rfl : q = 0 := by omega
    go_wp2_with fail
    refine (l91Events_any r _ 3 _ H5.out (by omega) (by omega)).mono ?_
    rintro e we ⟨u, m, es, rfl, hlm, hown, HEs, hm10, hge, hre⟩
    have Oe := Lib.hid (own_rd O5.out hr hge)
    have Ge := Lib.hid (grow_trans G5.out hge)
    have Ue := Lib.hid (own_more hown (show w.heap.size ≤ w5.heap.size from G5.out.size))
    have Hlm := Lib.hid hlm
    have Hre := Lib.hid hre
    have Hap : Hid (∀ b, (Value.slice Av n cv).ownBlock = some b → u.ownBlock ≠ some b) := Lib.hid fun b hb e => by
      have h1 := (hown.lt b e).1
      have h2 := (O5.out.lt b hb).2
      omega
    obtain ⟨Au, cu, rfl⟩ := own_slice_n hown
    clear hown hge hlm hre
    go_wp2_with fail
    go_loopw [15] (fun i wr => ∃ (j : Nat) (es : List Ev), j ≤ m ∧ i = .int .i64 j ∧ Hid (es.length = m) ∧ Hid (wr.ownsRow w.heap.size 29 3 (.slice Au m cu) m (es.flatMap evCells)) ∧ Hid (∀ e ∈ es, EvB e) ∧ Hid (wr.ownsRow w.heap.size 31 4 (.slice Av n cv) n (xs.flatMap enCells)) ∧ Hid (w.grownBy wr (some r)) ∧ Hid (Rd wr r (N + 800 + j))) (fun i _ => m - (intOf i).toNat)
    case atStart => exact ⟨0, es, Nat.zero_le _, rfl, Hlm, Ue, HEs, Oe, Ge, Lib.hid (Hre.out.more (by omega))⟩
    case round =>
      obtain ⟨j, fs, hj, rfl, Hlf, Uf, HEf, Of, Gf, Rf⟩ := hrel
      by_cases hjm : j < m
      · have hjm' : (j : Int) < (m : Int) := by omega
        obtain ⟨g, cap, hv, hgb⟩ := own_head Uf.out (by omega)
        obtain ⟨rfl, -, rfl⟩ : Au = some ⟨g, 0, none⟩ ∧ m = m ∧ cu = cap := by injection hv with a b c; exact ⟨a, rfl, c⟩
        have hfj : fs[j]? = some (nx fs j) := nx_get (by rw [Hlf.out]; exact hjm)
        have HEj := Lib.hid (HEf.out _ (nx_mem (l := fs) (k := j) (by rw [Hlf.out]; exact hjm)))
        have Hset := Lib.hid (fun x => set_flat_id fs j x (by rw [Hlf.out]; exact hjm))
        obtain ⟨⟨id, kind, data⟩, he⟩ : ∃ e, nx fs j = e := ⟨_, rfl⟩
        rw [he] at hfj HEj Hset
        have c0 : wr.cell? ⟨g, j * 3, none⟩ = some (.int .i64 id) := (Uf.out.cellAt (j * 3 + 0) (by omega)).trans (flat_get evCells_len fs j 0 _ hfj (by omega))
        have c1 : wr.cell? ⟨g, j * 3 + 1, none⟩ = some (.string kind) := (Uf.out.cellAt (j * 3 + 1) (by omega)).trans (flat_get evCells_len fs j 1 _ hfj (by omega))
        have c2 : wr.cell? ⟨g, j * 3 + 2, none⟩ = some (.int .i64 data) := (Uf.out.cellAt (j * 3 + 2) (by omega)).trans (flat_get evCells_len fs j 2 _ hfj (by omega))
        clear hv hfj he
        have EV := Lib.hid (evValidS_any id kind data wr (small60 HEj.out.1))
        cases hev : evOk ⟨id, kind, data⟩ with
        | false =>
          rw [hev] at EV
          go_wp2_with fail
          refine EV.out.mono ?_
          rintro e w4' ⟨rfl, hb4⟩
          have Uf' := Lib.hid (own_next Uf.out hb4)
          have Of' := Lib.hid (own_next Of.out hb4)
          have Gf' := Lib.hid (grow_below Gf.out hb4)
          have Rf' := Lib.hid (Rf.out.below hb4)
          clear hb4 c0 c1 c2
          go_wp2_with fail
          go_roundw
          case rel => exact ⟨j + 1, fs, by omega, by go_num, Hlf, Uf', HEf, Of', Gf', Lib.hid (Rf'.out.more (by omega))⟩
          case measure => simp [intOf]; omega
        | true =>
          rw [hev] at EV
          go_wp2_with fail
          refine EV.out.mono ?_
          rintro e w4' ⟨rfl, hb4⟩
          have Uf' := Lib.hid (own_next Uf.out hb4)
          have Of' := Lib.hid (own_next Of.out hb4)
          have Gf' := Lib.hid (grow_below Gf.out hb4)
          have Rf' := Lib.hid (Rf.out.below hb4)
          clear hb4 c0 c1 c2
          go_wp2_with fail
          refine (pick_any r _ _ _ Rf'.out (by omega) (by omega)).mono ?_
          rintro e w5' ⟨y', rfl, hy', hg5, h5⟩
          have U5 := Lib.hid (own_rd Uf'.out hr hg5)
          have O5' := Lib.hid (own_rd Of'.out hr hg5)
          have G5' := Lib.hid (grow_trans Gf'.out hg5)
          have R5' := Lib.hid h5
          have f0 := U5.out.frozenAt (j * 3)
          have d0 := U5.out.cellAt (j * 3) (by omega)
          clear hg5 h5 hy'
          by_cases hy0 : (0 : Int) < (y' : Int)
          · have d0' : ∃ v, w5'.cell? ⟨g, j * 3, none⟩ = some v := ⟨_, d0.trans (List.getElem?_eq_getElem (by rw [flat_len evCells_len, Hlf.out]; omega))⟩
            obtain ⟨v0, d0''⟩ := d0'
            clear d0
            go_wp2_with fail
            obtain ⟨s1, g1⟩ := U5.out.stored (j * 3) (.int .i64 (200 + (j : Int)))
            rw [Hset.out] at s1
            have O6' := Lib.hid (own_far O5'.out ⟨g, j * 3, none⟩ (.int .i64 (200 + (j : Int))) (fun e => Hap.out g e rfl))
            have G6' := Lib.hid (own_grown U5.out (Nat.le_refl _) G5'.out g1)
            have R6' := Lib.hid (rd_own U5.out hr R5'.out g1)
            have HE6 := Lib.hid (evB_set (j := j) HEf.out (x := ⟨200 + (j : Int), kind, data⟩) ⟨HEj.out.1, by show (-100000 : Int) ≤ 200 + (j : Int); omega, by show 200 + (j : Int) ≤ 100000; omega, HEj.out.2.2.2⟩)
            have U6 := Lib.hid s1
            clear s1 g1 f0 d0''
            go_roundw
            case rel => exact ⟨j + 1, _, by omega, by go_num, Lib.hid (by rw [List.length_set, Hlf.out]), U6, HE6, O6', G6', Lib.hid (R6'.out.more (by omega))⟩
            case measure => simp [intOf]; omega
          · have hy1 : decide ((0 : Int) < (y' : Int)) = false := decide_eq_false hy0
            clear d0 f0
            go_wp2_with fail
            go_roundw
            case rel => exact ⟨j + 1, fs, by omega, by go_num, Hlf, U5, HEf, O5', G5', Lib.hid (R5'.out.more (by omega))⟩
            case measure => simp [intOf]; omega
      · obtain rfl : j = m := by omega
        have hjm' : ¬ (j : Int) < (j : Int) := by omega
        by_cases hm0 : j = 0
        · subst hm0
          go_wp2_with fail
          refine (pick_any r _ _ _ Rf.out (by omega) (by omega)).mono ?_
          rintro e w5' ⟨y', rfl, hy', hg5, h5⟩
          have U5 := Lib.hid (own_rd Uf.out hr hg5)
          have O5' := Lib.hid (own_rd Of.out hr hg5)
          have G5' := Lib.hid (grow_trans Gf.out hg5)
          have R5' := Lib.hid h5
          clear hg5 h5 hy'
          by_cases hy0 : (0 : Int) < (y' : Int)
          · go_wp2_with fail
            refine (pick_any r _ _ _ R5'.out (by omega) (by omega)).mono ?_
            rintro e w6' ⟨z', rfl, hz', hg6, h6⟩
            have hz' := hz' (by omega)
            have O6' := Lib.hid (own_rd O5'.out hr hg6)
            have G6' := Lib.hid (grow_trans G5'.out hg6)
            have R6' := Lib.hid h6
            have hsz6 := G6'.out.size
            clear hg6 h6
            go_wp2_with fail
            refine bodyPost_ret (v := .tuple #[.slice Av n cv, .string s, .int .i64 x, .slice (some ⟨w6'.heap.size, 0, none⟩) 1 1]) (by simp [results, Tryd.results63, go_sem]) rfl ?_
            exact ⟨_, n, xs, s, x, _, 1, [⟨300, ⟨#[112, 97, 121]⟩, (z' : Int)⟩], rfl, Hl, Lib.hid (O6'.out.alloc _), HB, hn, hs, hx1, hx2, Lib.hid rfl, Lib.hid (World.ownsRow_lit w6' #[.int .i64 300, .string ⟨#[112, 97, 121]⟩, .int .i64 (z' : Int)] 1 hsz6 (by unfold maxLen; omega) rfl), Lib.hid (fun e he => by rw [List.mem_singleton] at he; subst he; exact ⟨by show (⟨#[112, 97, 121]⟩ : ByteArray).size ≤ 60; decide, by show (-100000 : Int) ≤ 300; decide, by show (300 : Int) ≤ 100000; decide, by show (-100000 : Int) ≤ (z' : Int); omega, by show (z' : Int) ≤ 100000; omega⟩), by omega, Lib.hid (grow_alloc G6'.out _), (rd_alloc R6'.out _).more (by omega)⟩
          · have hy1 : decide ((0 : Int) < (y' : Int)) = false := decide_eq_false hy0
            go_wp2_with fail
            refine bodyPost_ret (v := .tuple #[.slice Av n cv, .string s, .int .i64 x, .slice Au 0 cu]) (by simp [results, Tryd.results63, go_sem]) rfl ?_
            exact ⟨_, n, xs, s, x, _, 0, fs, rfl, Hl, O5', HB, hn, hs, hx1, hx2, Hlf, U5, HEf, by omega, G5', R5'.out.more (by omega)⟩
        · have hm1 : ((j : Int) == 0) = false := beq_eq_false_iff_ne.2 (by omega)
          go_wp2_with fail
          refine bodyPost_ret (v := .tuple #[.slice Av n cv, .string s, .int .i64 x, .slice Au j cu]) (by simp [results, Tryd.results63, go_sem]) rfl ?_
          exact ⟨_, n, xs, s, x, _, j, fs, rfl, Hl, Of, HB, hn, hs, hx1, hx2, Hlf, Uf, HEf, by omega, Gf, Rf.out.more (by omega)⟩
end Go.Proofs.YtdmffpjljaolcaaDoor
