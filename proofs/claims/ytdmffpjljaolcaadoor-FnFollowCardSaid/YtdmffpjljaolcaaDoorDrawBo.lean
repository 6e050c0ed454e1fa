/- Drawn pairs of stores. -/
import Derived.Test.YtdmffpjljaolcaaDoorDrawIn
import Derived.Test.YtdmffpjljaolcaaDoorRowX
namespace Go.Proofs.YtdmffpjljaolcaaDoor
set_option linter.unusedVariables false
set_option linter.unusedSimpArgs false
open Go.RowKit

/-- two drawn stores, each a row of the call's own. -/
def BothPost (r M : Nat) (w : World) (e : Ending) (w' : World) : Prop :=
  ∃ (v : Value) (n : Nat) (xs : List En) (u : Value) (m : Nat) (ys : List En), e = .returned (.tuple #[v, u]) ∧ Hid (xs.length = n) ∧ Hid (w'.ownsRow w.heap.size 31 4 v n (xs.flatMap enCells)) ∧ Hid (∀ x ∈ xs, EnB x) ∧ n ≤ 30 ∧
    Hid (ys.length = m) ∧ Hid (w'.ownsRow w.heap.size 31 4 u m (ys.flatMap enCells)) ∧ Hid (SmallEns ys) ∧ m ≤ 31 ∧ Hid (w.grownBy w' (some r)) ∧ Rd w' r M
theorem own_wider {w : World} {base base' size n : Nat} {e : TypeId} {v : Value} {xs : List Value} (h : w.ownsRow base e size v n xs) (hb : base' ≤ base) : w.ownsRow base' e size v n xs := by
  refine ⟨h.1, ?_⟩
  rcases h.2 with h | ⟨g, cap, cur, h1, h2, h3⟩
  · exact .inl h
  · exact .inr ⟨g, cap, cur, h1, Nat.le_trans hb h2, h3⟩
theorem set_flat_data (l : List En) (j : Nat) (x : Int) (h : j < l.length) :
    (l.flatMap enCells).set (j * 4 + 3) (.int .i64 x) = (l.set j ⟨(nx l j).name, ⟨(nx l j).ev.id, (nx l j).ev.kind, x⟩⟩).flatMap enCells := by
  induction l generalizing j with
  | nil => exact absurd h (by simp)
  | cons a l ih =>
    cases j with
    | zero => rfl
    | succ j =>
      rw [List.set_cons_succ, List.flatMap_cons, List.flatMap_cons, show (j + 1) * 4 + 3 = (enCells a).length + (j * 4 + 3) by rw [enCells_len]; omega, List.set_append_right _ _ (by omega), Nat.add_sub_cancel_left, ih j (by simpa using h)]
      rfl
theorem small_set {xs : List En} (h : SmallEns xs) {j : Nat} {x : En} (hx : x.name.size ≤ maxLen ∧ x.ev.kind.size ≤ maxLen) : SmallEns (xs.set j x) := fun y hy => by
  rcases List.mem_or_eq_of_mem_set hy with h1 | h1
  · exact h y h1
  · rw [h1]; exact hx
theorem small_snoc {xs : List En} (h : SmallEns xs) {x : En} (hx : x.name.size ≤ maxLen ∧ x.ev.kind.size ≤ maxLen) : SmallEns (xs ++ [x]) := fun y hy => by
  rcases List.mem_append.1 hy with h1 | h1
  · exact h y h1
  · rw [List.mem_singleton] at h1; rw [h1]; exact hx
/-- what is known while two stores are drawn: the first lies below B, the second from there on. -/
def Two (w : World) (r M B : Nat) (v : Value) (n : Nat) (xs : List En) (u : Value) (m : Nat) (ys : List En) (W : World) : Prop :=
  Rd W r M ∧ W.ownsRow w.heap.size 31 4 v n (xs.flatMap enCells) ∧ W.ownsRow B 31 4 u m (ys.flatMap enCells) ∧ (∀ k, v.ownBlock = some k → k < B) ∧ w.grownBy W (some r) ∧ w.heap.size ≤ B ∧ r < w.heap.size
section
variable {w W W' : World} {r M M' B n m m' : Nat} {v u u' : Value} {xs ys ys' : List En}
theorem Two.grow (h : Two w r M B v n xs u m ys W) (hg : W.grownBy W' (some r)) (hrd : Rd W' r M') : Two w r M' B v n xs u m ys W' := by
  obtain ⟨h1, h2, h3, h4, h5, h6, h7⟩ := h
  exact ⟨hrd, own_rd h2 h7 hg, own_rd h3 (by omega) hg, h4, grow_trans h5 hg, h6, h7⟩
theorem Two.app (h : Two w r M B v n xs u m ys W) (hg : W.grownBy W' u.ownBlock) (ho : W'.ownsRow B 31 4 u' m' (ys'.flatMap enCells)) : Two w r M B v n xs u' m' ys' W' := by
  obtain ⟨h1, h2, h3, h4, h5, h6, h7⟩ := h
  refine ⟨rd_own h3 (by omega) h1 hg, h2.kept hg ?_, ho, h4, own_grown h3 h6 h5 hg, h6, h7⟩
  cases hv : v.ownBlock with
  | none => exact .inl rfl
  | some k => exact .inr (fun e => by have := h4 k hv; have := (h3.lt k e.symm).1; omega)
theorem Two.alloc (h : Two w r M B v n xs u m ys W) (o : Obj) : Two w r M B v n xs u m ys (W.alloc o) := by
  obtain ⟨h1, h2, h3, h4, h5, h6, h7⟩ := h
  exact ⟨rd_alloc h1 o, h2.alloc o, h3.alloc o, h4, grow_alloc h5 o, h6, h7⟩
theorem Two.post (h : Two w r M B v n xs u m ys W) (hM : M ≤ M') (Hl : Hid (xs.length = n)) (HB : Hid (∀ x ∈ xs, EnB x)) (hn : n ≤ 30) (Hm : ys.length = m) (HE : SmallEns ys) (hm : m ≤ 31) : BothPost r M' w (.returned (.tuple #[v, u])) W := by
  obtain ⟨h1, h2, h3, h4, h5, h6, h7⟩ := h
  exact ⟨v, n, xs, u, m, ys, rfl, Hl, Lib.hid h2, HB, hn, Lib.hid Hm, Lib.hid (own_wider h3 h6), Lib.hid HE, hm, Lib.hid h5, h1.more hM⟩
end
set_option maxRecDepth 100000 in
set_option maxHeartbeats 8000000 in
theorem l92Both_any (r N : Nat) (w : World) (h : Rd w r N) (hN : N ≤ 500000) :
    Calls Tryd.prog 40 #[.pointer (some ⟨r, 0, none⟩)] w (BothPost r (N + 500) w) := by
  have hr := h.lt
  go_enter Tryd.func40, Tryd.ntmps40
  go_wp2_with fail
  refine (l91Store_any r N _ h (by omega)).mono ?_
  rintro e w2 ⟨v, n, xs, rfl, hl, hown, HB, hn, hg2, h2⟩
  have Hl := Lib.hid hl
  have hsz2 := hg2.size
  have T0 : Two w r (N + 200) w2.heap.size v n xs (.slice (some ⟨w2.heap.size, 0, none⟩) 0 0) 0 [] (w2.alloc (.cells #[] 31)) :=
    ⟨rd_alloc h2 _, hown.alloc _, World.ownsRow_lit (base := w2.heap.size) (e := 31) (size := 4) w2 #[] 0 (Nat.le_refl _) (Nat.zero_le _) rfl, fun k hk => (hown.lt k hk).2, grow_alloc hg2 _, hsz2, hr⟩
  obtain ⟨Av, cv, rfl⟩ := own_slice_n hown
  obtain ⟨_, _, e1, q1, q2, q3, _⟩ := Row.of_own hown hl
  obtain ⟨rfl, -, rfl⟩ : Av = _ ∧ n = n ∧ cv = _ := by injection e1 with a b c; exact ⟨a, rfl, c⟩
  have HT0 := Lib.hid T0
  have Hnil := Lib.hid q2
  clear hg2 hown hl h2 e1 q2 q3 T0 h
  go_wp2_with fail
  refine (pick_any r (N + 200) _ _ HT0.out.1 (by omega) (by omega)).mono ?_
  rintro e w3 ⟨y, rfl, hy, hg3, h3⟩
  have hy := hy (by omega)
  have T3 := Lib.hid (HT0.out.grow hg3 h3)
  obtain ⟨_, _, e1, _, _, q3, _⟩ := Row.of_own T3.out.2.1 Hl.out
  obtain ⟨rfl, -, rfl⟩ : Av = _ ∧ n = n ∧ cv = _ := by injection e1 with a b c; exact ⟨a, rfl, c⟩
  have R3 := Lib.hid q3
  have hy1 : (y : Int) ≤ (cv : Int) := by omega
  have Hsm : Hid (SmallEns xs) := Lib.hid (EnB.small HB.out)
  have Ht : Hid ((xs.take y).length = y) := Lib.hid (by rw [List.length_take, Hl.out]; omega)
  clear hg3 h3 e1 q3 HT0
  have hz3 : w2.heap.size < w3.heap.size := (T3.out.2.2.1.lt w2.heap.size rfl).2
  go_wp2_with (first
    | (at_builtin; go_must (refine app_src elemEn _ rfl _ _ rfl w2.heap.size _ 0 [] rfl T3.out.2.2.1 Av y cv w3.heap.size ((xs.take y).flatMap enCells) rfl Hnil.out (R3.out.first enCells_len y (by omega)).2 (ens_one _) ?_ ?_ ?_ ?_); omega; omega; omega; intro v' w4 own4 grow4 or4))
  rw [Nat.zero_add, List.nil_append] at own4
  have T4 := Lib.hid (T3.out.app grow4 own4)
  have hz34 := grow4.size
  obtain ⟨Au, cu, rfl⟩ := own_slice_n own4
  have Hst : Hid (SmallEns (xs.take y)) := Lib.hid fun z hz => Hsm.out z (List.mem_of_mem_take hz)
  have HBt : Hid (∀ x ∈ xs.take y, EnB x) := Lib.hid fun z hz => HB.out z (List.mem_of_mem_take hz)
  clear own4 grow4 or4 R3 T3
  generalize xs.take y = ys at *
  refine (pick_any r (N + 201) _ _ T4.out.1 (by omega) (by omega)).mono ?_
  rintro e w5 ⟨z, rfl, hz, hg5, h5⟩
  have hz := hz (by omega)
  have T5 := Lib.hid (T4.out.grow hg5 h5)
  have hz35 : w3.heap.size ≤ w5.heap.size := Nat.le_trans hz34 hg5.size
  clear hg5 h5 T4 hy hy1
  by_cases z0 : z = 0
  · have e0 : ((z : Int) == 0) = true := by rw [z0]; rfl
    clear z0 hz
    go_wp2_with fail
    refine (l91Store_any r _ _ T5.out.1 (by omega)).mono ?_
    rintro e w6 ⟨v6, n6, xs6, rfl, hl6, hown6, HB6, hn6, hg6, h6⟩
    obtain ⟨A6, c6, rfl⟩ := own_slice_n hown6
    have hz5 := T5.out.2.2.2.2.1.size
    have O6 := own_rd T5.out.2.1 T5.out.2.2.2.2.2.2 hg6
    have G6 := grow_trans T5.out.2.2.2.2.1 hg6
    have U6 := own_wider hown6 hz5
    have P := Lib.hid (And.intro O6 (And.intro G6 U6))
    clear hown6 hg6 O6 G6 U6
    go_wp2_with fail
    go_ret2
    exact ⟨_, n, xs, _, n6, xs6, rfl, Hl, Lib.hid P.out.1, HB, hn, Lib.hid hl6, Lib.hid P.out.2.2, Lib.hid (EnB.small HB6.out), by omega, Lib.hid P.out.2.1, h6.more (by omega)⟩
  have e0 : ((z : Int) == 0) = false := beq_eq_false_iff_ne.2 (by omega)
  have hy31 : y ≤ 30 := by omega
  by_cases z1 : z = 1
  · have e1 : ((z : Int) == 1) = true := by rw [z1]; rfl
    clear z0 z1 hz
    go_wp2_with (first
      | (at_builtin; go_must (refine app_one elemEn w5 rfl _ _ rfl w2.heap.size _ y (ys.flatMap enCells) rfl (by exact T5.out.2.2.1) [.string ⟨#[122, 111, 111, 45, 49]⟩, .int .i64 1, .string ⟨#[112, 97, 121]⟩, .int .i64 0] rfl rfl ?_ ?_ ?_ ?_); (intro x hx; simp at hx; rcases hx with rfl | rfl | rfl | rfl <;> rfl); omega; (exact Nat.le_trans (Nat.le_of_lt hz3) hz35); intro v' w6 own6 grow6 or6))
    have T6 := T5.out.app (ys' := ys ++ [⟨⟨#[122, 111, 111, 45, 49]⟩, ⟨1, ⟨#[112, 97, 121]⟩, 0⟩⟩]) grow6 (m' := y + 1) (u' := v') (by rw [List.flatMap_append]; simpa [enCells] using own6)
    obtain ⟨A6, c6, rfl⟩ := own_slice_n own6
    have HT6 := Lib.hid T6
    clear T6 own6 grow6 or6
    go_ret2
    exact HT6.out.post (by omega) Hl HB hn (by rw [List.length_append, Ht.out]; rfl) (small_snoc Hst.out ⟨by show (⟨#[122, 111, 111, 45, 49]⟩ : ByteArray).size ≤ maxLen; decide, by show (⟨#[112, 97, 121]⟩ : ByteArray).size ≤ maxLen; decide⟩) (by omega)
  have e1 : ((z : Int) == 1) = false := beq_eq_false_iff_ne.2 (by omega)
  by_cases z2 : z = 2
  · have e2 : ((z : Int) == 2) = true := by rw [z2]; rfl
    clear z0 z1 z2 hz
    by_cases hy0 : 0 < y
    · have hy0' : (0 : Int) < (y : Int) := by omega
      obtain ⟨g, cap, hv, hgb⟩ := own_head T5.out.2.2.1 hy0
      obtain ⟨rfl, -, rfl⟩ : Au = some ⟨g, 0, none⟩ ∧ y = y ∧ cu = cap := by injection hv with a b c; exact ⟨a, rfl, c⟩
      clear hv
      go_wp2_with fail
      refine (pick_any r _ _ _ T5.out.1 (by omega) (by omega)).mono ?_
      rintro e w6 ⟨k, rfl, hk, hg6, h6⟩
      have hk := hk (by omega)
      have T6 := Lib.hid (T5.out.grow hg6 h6)
      clear hg6 h6
      have hyk : ys[k]? = some (nx ys k) := nx_get (by rw [Ht.out]; omega)
      obtain ⟨⟨name, id, kind, data⟩, he⟩ : ∃ e, nx ys k = e := ⟨_, rfl⟩
      have hbx := HBt.out _ (nx_mem (show k < ys.length by rw [Ht.out]; omega))
      rw [he] at hbx hyk
      have hd1 : -100000 ≤ data := hbx.2.2.2.2.1
      have hd2 : data ≤ 100000 := hbx.2.2.2.2.2
      have hns := small60 hbx.1
      have hks := small60 hbx.2.1
      have c3 : w6.cell? ⟨g, k * 4 + 3, none⟩ = some (.int .i64 data) := (T6.out.2.2.1.cellAt (k * 4 + 3) (by omega)).trans (flat_get enCells_len ys k 3 _ hyk (by omega))
      have f3 := T6.out.2.2.1.frozenAt (k * 4 + 3)
      have He := Lib.hid he
      clear hyk he hbx
      go_wp2_with fail
      go_ret2
      obtain ⟨s1, g1⟩ := T6.out.2.2.1.stored (k * 4 + 3) (.int .i64 (data + 1))
      rw [set_flat_data ys k (data + 1) (by rw [Ht.out]; omega)] at s1
      exact (T6.out.app g1 s1).post (by omega) Hl HB hn (by rw [List.length_set, Ht.out]) (small_set Hst.out (by rw [He.out]; exact ⟨hns, hks⟩)) (by omega)
    · have hy0' : ¬ (0 : Int) < (y : Int) := by omega
      go_wp2_with fail
      go_ret2
      exact T5.out.post (by omega) Hl HB hn Ht.out Hst.out (by omega)
  · have e2 : ((z : Int) == 2) = false := beq_eq_false_iff_ne.2 (by omega)
    clear z0 z1 z2 hz
    go_wp2_with fail
    go_ret2
    exact T5.out.post (by omega) Hl HB hn Ht.out Hst.out (by omega)

/-- two drawn stores, handed to a statement. -/
def BothDrawn (w : World) (e : Ending) (w' : World) : Prop :=
  ∃ (A : Option Addr) (n c : Nat) (xs : List En) (B : Option Addr) (m d : Nat) (ys : List En), e = .returned (.tuple #[.slice A n c, .slice B m d]) ∧ Row enCells 4 w' w'.heap.size A n xs ∧ Row enCells 4 w' w'.heap.size B m ys ∧ Hid (∀ x ∈ xs, EnB x) ∧ Hid (SmallEns ys) ∧ n ≤ 30 ∧ m ≤ 31 ∧ n ≤ c ∧ m ≤ d ∧ Hid (A = none → c = 0) ∧ Hid (B = none → d = 0) ∧ Below w.heap.size w w'
theorem both_drawn {w w1 w2 : World} {r M : Nat} {e : Ending} (hr : w.heap.size ≤ r) (hb1 : Below w.heap.size w w1) (h : BothPost r M w1 e w2) : BothDrawn w e w2 := by
  obtain ⟨v, n, xs, u, m, ys, rfl, hl, O, HB, hn, hlm, U, HE, hm, hg, _⟩ := h
  obtain ⟨A, c, rfl, p1, p2, p3, _⟩ := Row.of_own O.out hl.out
  obtain ⟨B, d, rfl, q1, q2, q3, _⟩ := Row.of_own U.out hlm.out
  exact ⟨A, n, c, xs, B, m, d, ys, rfl, p3, q3, HB, HE, hn, hm, p1, q1, Lib.hid p2, Lib.hid q2, drawn_below hr hb1 hg.out⟩
set_option maxHeartbeats 2000000 in
theorem drawFollowApart_any (A : Option Addr) (n c : Nat) (w : World) (h : Code w A n c) :
    Calls Tryd.prog 15 #[.slice A n c] w (BothDrawn w) := by
  go_enter Tryd.func15, Tryd.ntmps15
  go_wp2_with fail
  refine (open_any A n c _ h).mono ?_
  rintro e w1 ⟨r, rfl, hr, hb1, h1⟩
  clear h
  go_wp2_with fail
  refine (l92Both_any r 0 _ h1 (by omega)).mono ?_
  rintro e w2 hp
  have Hd := Lib.hid (both_drawn hr hb1 hp)
  obtain ⟨v, k, xs, u, m, ys, rfl, -⟩ := hp
  clear h1 hb1
  go_wp2_with fail
  refine bodyPost_ret (v := .tuple #[v, u]) (by simp [results, Tryd.results15, go_sem]) rfl ?_
  exact Hd.out
set_option maxHeartbeats 2000000 in
theorem drawFollowLeft_any (A : Option Addr) (n c : Nat) (w : World) (h : Code w A n c) :
    Calls Tryd.prog 30 #[.slice A n c] w (BothDrawn w) := by
  go_enter Tryd.func30, Tryd.ntmps30
  go_wp2_with fail
  refine (open_any A n c _ h).mono ?_
  rintro e w1 ⟨r, rfl, hr, hb1, h1⟩
  clear h
  go_wp2_with fail
  refine (l92Both_any r 0 _ h1 (by omega)).mono ?_
  rintro e w2 hp
  have Hd := Lib.hid (both_drawn hr hb1 hp)
  obtain ⟨v, k, xs, u, m, ys, rfl, -⟩ := hp
  clear h1 hb1
  go_wp2_with fail
  refine bodyPost_ret (v := .tuple #[v, u]) (by simp [results, Tryd.results30, go_sem]) rfl ?_
  exact Hd.out
set_option maxHeartbeats 2000000 in
theorem drawFollowMend_any (A : Option Addr) (n c : Nat) (w : World) (h : Code w A n c) :
    Calls Tryd.prog 33 #[.slice A n c] w (BothDrawn w) := by
  go_enter Tryd.func33, Tryd.ntmps33
  go_wp2_with fail
  refine (open_any A n c _ h).mono ?_
  rintro e w1 ⟨r, rfl, hr, hb1, h1⟩
  clear h
  go_wp2_with fail
  refine (l92Both_any r 0 _ h1 (by omega)).mono ?_
  rintro e w2 hp
  have Hd := Lib.hid (both_drawn hr hb1 hp)
  obtain ⟨v, k, xs, u, m, ys, rfl, -⟩ := hp
  clear h1 hb1
  go_wp2_with fail
  refine bodyPost_ret (v := .tuple #[v, u]) (by simp [results, Tryd.results33, go_sem]) rfl ?_
  exact Hd.out
/-- two drawn stores and how many, handed to a statement. -/
def BothManyDrawn (w : World) (e : Ending) (w' : World) : Prop :=
  ∃ (A : Option Addr) (n c : Nat) (xs : List En) (B : Option Addr) (m d : Nat) (ys : List En) (q : Int), e = .returned (.tuple #[.slice A n c, .slice B m d, .int .i64 q]) ∧ Row enCells 4 w' w'.heap.size A n xs ∧ Row enCells 4 w' w'.heap.size B m ys ∧ Hid (∀ x ∈ xs, EnB x) ∧ Hid (SmallEns ys) ∧ n ≤ 30 ∧ m ≤ 31 ∧ n ≤ c ∧ m ≤ d ∧ Hid (A = none → c = 0) ∧ Hid (B = none → d = 0) ∧ -1000 ≤ q ∧ q ≤ 1000 ∧ Below w.heap.size w w'
end Go.Proofs.YtdmffpjljaolcaaDoor
