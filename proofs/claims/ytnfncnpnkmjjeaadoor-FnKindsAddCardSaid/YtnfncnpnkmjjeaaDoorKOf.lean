/- A tree of copies of rows: the program's. -/
import Derived.Test.YtnfncnpnkmjjeaaDoorKWith
import Derived.Deep.DeepCutAuto
import Derived.Deep.RegionHeld3
namespace Go.Proofs.YtnfncnpnkmjjeaaDoor
set_option linter.unusedVariables false
set_option linter.unusedSimpArgs false
open Go.RowKit

def TreeRet (ks : List KRow) (w : World) (e : Ending) (w' : World) : Prop :=
  ∃ t : RT, e = .returned t.ptr ∧ t.At w' w.heap.size ∧ t.fp.Nodup ∧ t.rows = ks ∧ Below w.heap.size w w'
theorem ints_one (l : List Nat) : ∀ u ∈ l.flatMap intCells, u.oneCell' = true := fun u hu => by
  obtain ⟨x, _, hx⟩ := List.mem_flatMap.1 hu
  rw [List.mem_singleton.1 hx]; rfl
/-- a copy of a row lies in a box, its places in a slice of the call's own. -/
def Copied (w : World) (x : KRow) (s : Value) (wr : World) : Prop :=
  ∃ (g : Nat) (A : Option Addr) (c : Nat), s = .pointer (some ⟨g, 0, none⟩) ∧ Blk wr g 40 #[.string x.key, .slice A x.ats.length c] ∧ wr.ownsRow w.heap.size 3 1 (.slice A x.ats.length c) x.ats.length (x.ats.flatMap intCells) ∧ Below w.heap.size w wr ∧ w.heap.size ≤ g ∧ (Value.slice A x.ats.length c).ownBlock ≠ some g
theorem q3 {v : Value} {g G H : Nat} (h : v.ownBlock = some G ∨ v.ownBlock = some H) (h1 : g ≠ G) (h2 : g ≠ H) : v.ownBlock ≠ some g := fun e => by
  rcases h with h | h
  · exact h1 (Option.some.inj (e.symm.trans h))
  · exact h2 (Option.some.inj (e.symm.trans h))
theorem copied_new {w w3 : World} {x : KRow} {A : Option Addr} {c : Nat} (own : w3.ownsRow w.heap.size 3 1 (.slice A x.ats.length c) x.ats.length (x.ats.flatMap intCells)) (hb : Below w.heap.size w w3) :
    Copied w x (.pointer (some ⟨w3.heap.size, 0, none⟩)) (w3.alloc (.cells #[.string x.key, .slice A x.ats.length c] 40)) :=
  ⟨w3.heap.size, A, c, rfl, Blk.new w3 _ _, own.alloc _, hb.alloc hb.size _, hb.size, fun e => Nat.lt_irrefl _ (own.lt _ e).2⟩
theorem copied_set {w w3 : World} {x : KRow} {A : Option Addr} {c g : Nat} (hB : Hid (Blk w3 g 40 #[.string ⟨#[]⟩, .slice none 0 0])) (own : w3.ownsRow w.heap.size 3 1 (.slice A x.ats.length c) x.ats.length (x.ats.flatMap intCells)) (hb : Below w.heap.size w w3) (hg : w.heap.size ≤ g) (hne : (Value.slice A x.ats.length c).ownBlock ≠ some g) :
    Copied w x (.pointer (some ⟨g, 0, none⟩)) ((w3.setCell ⟨g, 0, none⟩ (.string x.key)).setCell ⟨g, 1, none⟩ (.slice A x.ats.length c)) :=
  ⟨g, A, c, rfl, (hB.out.set_ 0 _).set_ 1 _, own_far (own_far own ⟨g, 0, none⟩ _ hne) ⟨g, 1, none⟩ _ hne, (hb.setCell (p := ⟨g, 0, none⟩) hg _).setCell (p := ⟨g, 1, none⟩) hg _, hg, hne⟩
theorem RT.At.next {w w' : World} {base : Nat} {t : RT} (h : t.At w base) (hb : Below w.heap.size w w') : t.At w' base := h.kept (S := fun _ => False) (Kept.of_below hb) (fun _ _ k => k)
theorem Kinds.rest {w : World} {b off n c m : Nat} {ks : List KRow} (h : Kinds w (some ⟨b, off, none⟩) n ks) (h1 : m + 1 ≤ n) (h2 : n ≤ c) (h3 : c ≠ m + 1) : Kinds w (some ⟨b, off + (m + 1) * 2, none⟩) (n - (m + 1)) (ks.drop (m + 1)) := by
  have := h.cut (cap := c) (m + 1) n h1 (Nat.le_refl _) h2
  rw [if_neg h3, List.take_of_length_le (by rw [List.length_drop, h.len]; exact Nat.le_refl _)] at this
  simpa [Addr.add] using this
theorem Kinds.first {w : World} {A : Option Addr} {n m : Nat} {ks : List KRow} (h : Kinds w A n ks) (h1 : m ≤ n) : Kinds w A m (ks.take m) := by
  obtain ⟨rs, h2, h3⟩ := h
  refine ⟨rs.take m, ⟨by rw [List.length_take, h2.1]; omega, ?_⟩, h3.take m⟩
  have hm : m * 2 ≤ n * 2 := Nat.mul_le_mul_right _ h1
  rw [flat_take rvCells_len]
  refine ⟨by rw [List.length_take, h2.2.1]; omega, fun hp => ?_⟩
  obtain ⟨b, off, e, hb, hx⟩ := h2.2.2 (by omega)
  refine ⟨b, off, e, hb, fun j hj => ?_⟩
  rw [List.length_take] at hj
  rw [hx j (by omega), List.getElem_take]
theorem split_row {ks : List KRow} {m : Nat} {x : KRow} (h : ks[m]? = some x) : ks.take m ++ x :: ks.drop (m + 1) = ks := by
  obtain ⟨h1, h2⟩ := List.getElem?_eq_some_iff.1 h
  rw [← h2, ← List.drop_eq_getElem_cons h1, List.take_append_drop]
theorem tree_node {w W : World} {x : KRow} {A : Option Addr} {c a1 b1 a2 b2 : Nat} {t1 t2 : RT} {ks : List KRow} (hO : W.ownsRow w.heap.size 3 1 (.slice A x.ats.length c) x.ats.length (x.ats.flatMap intCells)) (h1 : t1.At W w.heap.size) (h2 : t2.At W w.heap.size)
    (f1 : ∀ g ∈ t1.fp, a1 ≤ g ∧ g < b1) (f2 : ∀ g ∈ t2.fp, a2 ≤ g ∧ g < b2) (hd : b1 ≤ a2 ∨ b2 ≤ a1) (ho : ∀ g, (Value.slice A x.ats.length c).ownBlock = some g → g < a1 ∧ g < a2) (n1 : t1.fp.Nodup) (n2 : t2.fp.Nodup)
    (hr : t1.rows ++ x :: t2.rows = ks) (hb : Below w.heap.size w W) {p1 p2 : Option Addr} (q1 : t1.ptr = .pointer p1) (q2 : t2.ptr = .pointer p2) :
    TreeRet ks w (.returned (.pointer (some ⟨W.heap.size, 0, none⟩))) (W.alloc (.cells #[.string x.key, .slice A x.ats.length c, .pointer p1, .pointer p2] 98)) := by
  rw [← q1, ← q2]
  have bal : Below W.heap.size W (W.alloc (.cells #[.string x.key, .slice A x.ats.length c, t1.ptr, t2.ptr] 98)) := (Below.refl _ _).alloc (Nat.le_refl _) _
  have own_in : ∀ g ∈ RT.ownB ⟨x.key, A, x.ats.length, c⟩, (Value.slice A x.ats.length c).ownBlock = some g := fun g hg => by simpa [RT.ownB, RV.sl] using hg
  refine ⟨.node W.heap.size ⟨x.key, A, x.ats.length, c⟩ x.ats t1 t2, rfl, ⟨⟨Blk.new W _ _, hb.size⟩, ⟨hO.alloc _, rfl⟩, h1.next bal, h2.next bal⟩, ?_, hr, hb.alloc hb.size _⟩
  have l1 := RT.fp_lt h1
  have l2 := RT.fp_lt h2
  refine parts_nodup ?_ n1 n2 ⟨fun k => Nat.lt_irrefl _ (hO.lt _ (own_in _ k)).2, fun k => Nat.lt_irrefl _ (l1 _ k).2, fun k => Nat.lt_irrefl _ (l2 _ k).2⟩ (fun g hg => ⟨fun k => ?_, fun k => ?_⟩) (fun g hg k => ?_)
  · unfold RT.ownB; cases (RV.sl ⟨x.key, A, x.ats.length, c⟩).ownBlock <;> simp
  · have := (ho g (own_in g hg)).1; have := f1 g k; omega
  · have := (ho g (own_in g hg)).2; have := f2 g k; omega
  · have := f1 g hg; have := f2 g k; omega
set_option maxRecDepth 100000 in
set_option maxHeartbeats 8000000 in
theorem rowTreeOf_any (n : Nat) : ∀ (A : Option Addr) (c : Nat) (ks : List KRow) (w : World), Kinds w A n ks → n ≤ c → n ≤ 100000 → (∀ x ∈ ks, x.ats.length ≤ 1000000) →
    Calls Tryd.prog 43 #[.slice A n c] w (TreeRet ks w) := by
  induction n using Nat.strongRecOn with
  | _ n ih =>
    intro A c ks w hK hc hn hsm
    by_cases h0 : n = 0
    · subst h0
      have Hr := Lib.hid (show TreeRet ks w (.returned (.pointer none)) w from ⟨.leaf, rfl, trivial, List.nodup_nil, (List.eq_nil_of_length_eq_zero hK.len).symm, Below.refl _ _⟩)
      clear hK ih hsm
      go_enter Tryd.func43, Tryd.ntmps43
      go_wp2_with fail
      go_ret
      exact Hr.out
    · obtain ⟨m, hm⟩ : ∃ m, n / 2 = m := ⟨_, rfl⟩
      have hmn : m < n := by omega
      have q1 : (n : Int).tdiv 2 = (m : Int) := by rw [Int.tdiv_eq_ediv_of_nonneg (by omega)]; omega
      have q2 : (n : Int) / 2 = (m : Int) := by omega
      have q0 : ¬ (n : Int) = 0 := by omega
      have q00 : ((n : Int) == 0) = false := beq_eq_false_iff_ne.2 q0
      have Hm := Lib.hid hm
      have Hlen := Lib.hid hK.len
      obtain ⟨x, hx⟩ : ∃ x, ks[m]? = some x := ⟨_, List.getElem?_eq_getElem (by rw [hK.len]; exact hmn)⟩
      have HX := Lib.hid hx
      have hxs : x.ats.length ≤ 1000000 := hsm x (List.mem_of_getElem? hx)
      have L0 := (Live.since (Below.refl w.heap.size w)).and (Live.kinds hK)
      obtain ⟨b, off, rfl, hb, hat⟩ := hK.at_ (by omega)
      obtain ⟨A', n', c', c0, c1, hc', hnil, hrow⟩ := hat m x hx
      obtain rfl : n' = x.ats.length := hrow.1.symm
      have HR := Lib.hid hrow
      have HN := Lib.hid hnil
      have Ih := Lib.hid ih
      have Hsm := Lib.hid hsm
      clear hK ih hsm hx hm hat hrow hnil
      go_enter Tryd.func43, Tryd.ntmps43
      go_upto_region 4 with fail
      go_cut [4] (fun s4 wr => Copied w x s4 wr)
      case first =>
        have d0 : w.drew.cell? ⟨b, off + m * 2, none⟩ = some (.string x.key) := c0
        have d1 : w.drew.cell? ⟨b, off + m * 2 + 1, none⟩ = some (.slice A' x.ats.length c') := c1
        have e0 := fun o => (show (w.alloc o).drew.cell? ⟨b, off + m * 2, none⟩ = some (.string x.key) from (World.cell?_alloc_lt w o hb (a := ⟨b, off + m * 2, none⟩)).trans c0)
        have e1 := fun o => (show (w.alloc o).drew.cell? ⟨b, off + m * 2 + 1, none⟩ = some (.slice A' x.ats.length c') from (World.cell?_alloc_lt w o hb (a := ⟨b, off + m * 2 + 1, none⟩)).trans c1)
        have hb1 := fun o => (show b < (w.alloc o).heap.size by simp; omega)
        have g0 := fun o o' => (show ((w.alloc o).alloc o').drew.cell? ⟨b, off + m * 2, none⟩ = some (.string x.key) from (World.cell?_alloc_lt (w.alloc o) o' (hb1 o) (a := ⟨b, off + m * 2, none⟩)).trans (e0 o))
        have g1 := fun o o' => (show ((w.alloc o).alloc o').drew.cell? ⟨b, off + m * 2 + 1, none⟩ = some (.slice A' x.ats.length c') from (World.cell?_alloc_lt (w.alloc o) o' (hb1 o) (a := ⟨b, off + m * 2 + 1, none⟩)).trans (e1 o))
        have BA := Lib.hid (show Below w.heap.size w (w.alloc (.cells #[] 3)).drew from ((Below.refl _ _).alloc (Nat.le_refl _) _).drew)
        have BB := Lib.hid (show Below w.heap.size w ((w.alloc (.cells #[] 3)).alloc (.cells #[.string ⟨#[]⟩, .slice none 0 0] 40)).drew from (((Below.refl _ _).alloc (Nat.le_refl _) _).alloc (by simp) _).drew)
        have BC := Lib.hid (show Below w.heap.size w ((w.alloc (.cells #[.string ⟨#[]⟩, .slice none 0 0] 40)).alloc (.cells #[] 3)).drew from (((Below.refl _ _).alloc (Nat.le_refl _) _).alloc (by simp) _).drew)
        have OA := Lib.hid (show (w.alloc (.cells #[] 3)).drew.ownsRow w.heap.size 3 1 (.slice (some ⟨w.heap.size, 0, none⟩) 0 0) 0 [] from World.ownsRow_lit w #[] 0 (Nat.le_refl _) (Nat.zero_le _) rfl)
        have OB := Lib.hid (show ((w.alloc (.cells #[] 3)).alloc (.cells #[.string ⟨#[]⟩, .slice none 0 0] 40)).drew.ownsRow w.heap.size 3 1 (.slice (some ⟨w.heap.size, 0, none⟩) 0 0) 0 [] from World.ownsRow.alloc (World.ownsRow_lit w #[] 0 (Nat.le_refl _) (Nat.zero_le _) rfl) _)
        have OC := Lib.hid (show ((w.alloc (.cells #[.string ⟨#[]⟩, .slice none 0 0] 40)).alloc (.cells #[] 3)).drew.ownsRow w.heap.size 3 1 (.slice (some ⟨w.heap.size + 1, 0, none⟩) 0 0) 0 [] from by have := World.ownsRow_lit (base := w.heap.size) (e := 3) (size := 1) (w.alloc (.cells #[.string ⟨#[]⟩, .slice none 0 0] 40)) #[] 0 (by simp) (Nat.zero_le _) rfl; exact World.ownsRow.drew (by simpa using this))
        have XB := Lib.hid (show Blk ((w.alloc (.cells #[] 3)).alloc (.cells #[.string ⟨#[]⟩, .slice none 0 0] 40)) (w.heap.size + 1) 40 #[.string ⟨#[]⟩, .slice none 0 0] from by have := Blk.new (w.alloc (.cells #[] 3)) 40 #[.string ⟨#[]⟩, .slice none 0 0]; simpa using this)
        have XC := Lib.hid (show Blk ((w.alloc (.cells #[.string ⟨#[]⟩, .slice none 0 0] 40)).alloc (.cells #[] 3)) w.heap.size 40 #[.string ⟨#[]⟩, .slice none 0 0] from (Blk.new w 40 #[.string ⟨#[]⟩, .slice none 0 0]).alloc _)
        go_region_law (first
          | (refine app_src_step elemInt (w.alloc (.cells #[] 3)).drew ?_ (.tmp 16) (.tmp 21) ?_ w.heap.size (.slice (some ⟨w.heap.size, 0, none⟩) 0 0) 0 [] ?_ OA.out A' x.ats.length c' w.heap.size (x.ats.flatMap intCells) ?_ HN.out (HR.out.2.below BA.out) (ints_one _) ?_ ?_ ?_ ?_; rfl; rfl; rfl; rfl; omega; omega; (exact BA.out.size); intro v' w3 own3 grow3 or3; rw [Nat.zero_add, List.nil_append] at own3; obtain ⟨A3, c3, rfl⟩ := own_is own3; have B3 := Lib.hid (own_below' OA.out (Nat.le_refl _) BA.out BA.out.size grow3); have k0 := (B3.out.cell (p := ⟨b, off + m * 2, none⟩) hb).trans c0; have k1 := (B3.out.cell (p := ⟨b, off + m * 2 + 1, none⟩) hb).trans c1; have l0 := fun o => (World.cell?_alloc_lt w3 o (Nat.lt_of_lt_of_le hb B3.out.size) (a := ⟨b, off + m * 2, none⟩)).trans k0; skip; have O3 := Lib.hid own3; have R3 := Lib.hid or3; clear own3 grow3 or3)
          | (refine app_src_step elemInt ((w.alloc (.cells #[] 3)).alloc (.cells #[.string ⟨#[]⟩, .slice none 0 0] 40)).drew ?_ (.tmp 16) (.tmp 21) ?_ w.heap.size (.slice (some ⟨w.heap.size, 0, none⟩) 0 0) 0 [] ?_ OB.out A' x.ats.length c' w.heap.size (x.ats.flatMap intCells) ?_ HN.out (HR.out.2.below BB.out) (ints_one _) ?_ ?_ ?_ ?_; rfl; rfl; rfl; rfl; omega; omega; (exact BB.out.size); intro v' w3 own3 grow3 or3; rw [Nat.zero_add, List.nil_append] at own3; obtain ⟨A3, c3, rfl⟩ := own_is own3; have B3 := Lib.hid (own_below' OB.out (Nat.le_refl _) BB.out BB.out.size grow3); have k0 := (B3.out.cell (p := ⟨b, off + m * 2, none⟩) hb).trans c0; have k1 := (B3.out.cell (p := ⟨b, off + m * 2 + 1, none⟩) hb).trans c1; have l0 := fun o => (World.cell?_alloc_lt w3 o (Nat.lt_of_lt_of_le hb B3.out.size) (a := ⟨b, off + m * 2, none⟩)).trans k0; have X3 := Blk.grown (w := ((w.alloc (.cells #[] 3)).alloc (.cells #[.string ⟨#[]⟩, .slice none 0 0] 40)).drew) XB.out grow3 (fun e => Nat.succ_ne_self w.heap.size (Option.some.inj e)); have z0 := X3.cell 0; have z1 := X3.cell 1; have y0 := X3.frozen 0; have y1 := X3.frozen 1; have HX3 := Lib.hid X3; have Q3 := Lib.hid (q3 or3 (Nat.succ_ne_self w.heap.size) (by show w.heap.size + 1 ≠ ((w.alloc (.cells #[] 3)).alloc (.cells #[.string ⟨#[]⟩, .slice none 0 0] 40)).heap.size; simp)); clear X3; have O3 := Lib.hid own3; have R3 := Lib.hid or3; clear own3 grow3 or3)
          | (refine app_src_step elemInt ((w.alloc (.cells #[.string ⟨#[]⟩, .slice none 0 0] 40)).alloc (.cells #[] 3)).drew ?_ (.tmp 16) (.tmp 21) ?_ w.heap.size (.slice (some ⟨w.heap.size + 1, 0, none⟩) 0 0) 0 [] ?_ OC.out A' x.ats.length c' w.heap.size (x.ats.flatMap intCells) ?_ HN.out (HR.out.2.below BC.out) (ints_one _) ?_ ?_ ?_ ?_; rfl; rfl; rfl; rfl; omega; omega; (exact BC.out.size); intro v' w3 own3 grow3 or3; rw [Nat.zero_add, List.nil_append] at own3; obtain ⟨A3, c3, rfl⟩ := own_is own3; have B3 := Lib.hid (own_below' OC.out (Nat.le_refl _) BC.out BC.out.size grow3); have k0 := (B3.out.cell (p := ⟨b, off + m * 2, none⟩) hb).trans c0; have k1 := (B3.out.cell (p := ⟨b, off + m * 2 + 1, none⟩) hb).trans c1; have l0 := fun o => (World.cell?_alloc_lt w3 o (Nat.lt_of_lt_of_le hb B3.out.size) (a := ⟨b, off + m * 2, none⟩)).trans k0; have X3 := Blk.grown (w := ((w.alloc (.cells #[.string ⟨#[]⟩, .slice none 0 0] 40)).alloc (.cells #[] 3)).drew) XC.out grow3 (fun e => Nat.succ_ne_self w.heap.size (Option.some.inj e).symm); have z0 := X3.cell 0; have z1 := X3.cell 1; have y0 := X3.frozen 0; have y1 := X3.frozen 1; have HX3 := Lib.hid X3; have Q3 := Lib.hid (q3 or3 (fun e => Nat.succ_ne_self w.heap.size e.symm) (by show w.heap.size ≠ ((w.alloc (.cells #[.string ⟨#[]⟩, .slice none 0 0] 40)).alloc (.cells #[] 3)).heap.size; simp; omega)); clear X3; have O3 := Lib.hid own3; have R3 := Lib.hid or3; clear own3 grow3 or3))
        all_goals
          go_wp2_with fail
        all_goals
          go_meet
          case rel => first
            | exact copied_new O3.out B3.out
            | exact copied_set (by assumption) O3.out B3.out (by omega) Q3.out
      case rest =>
        obtain ⟨g, A4, c4, rfl, hB, hO, hbw, hg, hne⟩ := hcut
        have hw1 : IntKind.i64.wrap ((m : Int) + 1) = (m : Int) + 1 := IntWalk.i64_in _ (by omega)
        have z0 := hB.cell 0
        have z1 := hB.cell 1
        have z2 : wc.drew.cell? ⟨g, 0, none⟩ = some (.string x.key) := z0
        have z3 : wc.drew.cell? ⟨g, 1, none⟩ = some (.slice A4 x.ats.length c4) := z1
        have hmn2 : (m : Int) ≤ (c : Int) := by omega
        have hmn3 : (m : Int) + 1 ≤ (n : Int) := by omega
        have hp0 : (0 : Int) ≤ (m : Int) := by omega
        have hp1 : (0 : Int) ≤ (m : Int) + 1 := by omega
        have hp2 : (m : Int) ≤ (m : Int) + 1 := by omega
        have hcn : (n : Int) ≤ (c : Int) := by omega
        have hcm1 : (m : Int) + 1 ≤ (c : Int) := by omega
        have LC := L0.next hbw
        have CL := Lib.hid (fun W H => Ih.out m hmn (some ⟨b, off, none⟩) c (ks.take m) W H (by omega) (by omega) (fun y hy => Hsm.out y (List.mem_of_mem_take hy)))
        have KL := Lib.hid (fun (W : World) (H : Kinds W (some ⟨b, off, none⟩) n ks) => H.first (Nat.le_of_lt hmn))
        by_cases hcm : c = m + 1
        · obtain rfl : n = m + 1 := by omega
          subst hcm
          have hd0 : ks.drop (m + 1) = [] := List.drop_eq_nil_of_le (by rw [Hlen.out]; exact Nat.le_refl _)
          have CR := Lib.hid (fun W H => Ih.out 0 (by omega) (some ⟨b, off, none⟩) 0 (ks.drop (m + 1)) W H (by omega) (by omega) (fun y hy => Hsm.out y (List.mem_of_mem_drop hy)))
          have KR := Lib.hid (fun (W : World) (_ : Kinds W (some ⟨b, off, none⟩) (m + 1) ks) => (show Kinds W (some ⟨b, off, none⟩) 0 (ks.drop (m + 1)) from by rw [hd0]; exact Kinds.nil _ _))
          clear hd0
          go_wp2_with fail
          go_region_held3 (fun w' => w'.cell? ⟨g, 0, none⟩ = some (.string x.key) ∧ w'.cell? ⟨g, 1, none⟩ = some (.slice A4 x.ats.length c4)) (first | exact ⟨z0, z1⟩ | exact ⟨z2, z3⟩ | exact ⟨z4, z5⟩ | exact ⟨z6, z7⟩ | exact ⟨z8 _, z9 _⟩) (first
            | (go_at_call 43; ((with_reducible refine (CL.out wc.drew (KL.out _ (LC.next ((Below.refl _ _).drew)).now.2)).mono ?_); rintro e w5 ⟨t1, he1, t1a, t1n, t1r, hb5⟩; obtain ⟨p1, hp1⟩ := RT.ptr_is t1; rw [hp1] at he1; subst he1; have Hp1 := Lib.hid hp1; clear hp1; have hb5' : Below wc.heap.size wc w5 := below_undrew hb5; have L5 := LC.next hb5'; have B5 := hB.next hb5'; have z4 : w5.cell? ⟨g, 0, none⟩ = some (.string x.key) := B5.cell 0; have z5 : w5.cell? ⟨g, 1, none⟩ = some (.slice A4 x.ats.length c4) := B5.cell 1))
            | (go_at_call 43; ((with_reducible refine (CR.out wc.drew (KR.out _ (LC.next ((Below.refl _ _).drew)).now.2)).mono ?_); rintro e w5 ⟨t2, he2, t2a, t2n, t2r, hb5⟩; obtain ⟨p2, hp2⟩ := RT.ptr_is t2; rw [hp2] at he2; subst he2; have Hp2 := Lib.hid hp2; clear hp2; have hb5' : Below wc.heap.size wc w5 := below_undrew hb5; have L5 := LC.next hb5'; have B5 := hB.next hb5'; have z4 : w5.cell? ⟨g, 0, none⟩ = some (.string x.key) := B5.cell 0; have z5 : w5.cell? ⟨g, 1, none⟩ = some (.slice A4 x.ats.length c4) := B5.cell 1))
            | (go_at_call 43; ((with_reducible refine (CL.out w5 (KL.out _ L5.now.2)).mono ?_); rintro e w6 ⟨t1, he1, t1a, t1n, t1r, hb6⟩; obtain ⟨p1, hp1⟩ := RT.ptr_is t1; rw [hp1] at he1; subst he1; have Hp1 := Lib.hid hp1; clear hp1; have B6 := B5.next hb6; have z6 : w6.cell? ⟨g, 0, none⟩ = some (.string x.key) := B6.cell 0; have z7 : w6.cell? ⟨g, 1, none⟩ = some (.slice A4 x.ats.length c4) := B6.cell 1; have z8 := fun o => (show (w6.alloc o).cell? ⟨g, 0, none⟩ = some (.string x.key) from (B6.alloc o).cell 0); have z9 := fun o => (show (w6.alloc o).cell? ⟨g, 1, none⟩ = some (.slice A4 x.ats.length c4) from (B6.alloc o).cell 1)))
            | (go_at_call 43; ((with_reducible refine (CR.out w5 (KR.out _ L5.now.2)).mono ?_); rintro e w6 ⟨t2, he2, t2a, t2n, t2r, hb6⟩; obtain ⟨p2, hp2⟩ := RT.ptr_is t2; rw [hp2] at he2; subst he2; have Hp2 := Lib.hid hp2; clear hp2; have B6 := B5.next hb6; have z6 : w6.cell? ⟨g, 0, none⟩ = some (.string x.key) := B6.cell 0; have z7 : w6.cell? ⟨g, 1, none⟩ = some (.slice A4 x.ats.length c4) := B6.cell 1; have z8 := fun o => (show (w6.alloc o).cell? ⟨g, 0, none⟩ = some (.string x.key) from (B6.alloc o).cell 0); have z9 := fun o => (show (w6.alloc o).cell? ⟨g, 1, none⟩ = some (.slice A4 x.ats.length c4) from (B6.alloc o).cell 1))))
          all_goals
            go_wp2_with fail
            go_ret
            have hz5 := hb5'.size
            have hO6 := own_next (own_next hO hb5') hb6
            have hW6 := bt (bt hbw hb5') hb6
            first
              | exact tree_node hO6 ((t1a.next hb6).base hbw.size) (t2a.base (Nat.le_trans hbw.size hz5)) (RT.fp_lt t1a) (RT.fp_lt t2a) (.inl (Nat.le_refl _)) (fun q hq => ⟨(hO.lt q hq).2, Nat.lt_of_lt_of_le (hO.lt q hq).2 hz5⟩) t1n t2n (by rw [t1r, t2r]; exact split_row HX.out) hW6 Hp1.out Hp2.out
              | exact tree_node hO6 (t1a.base (Nat.le_trans hbw.size hz5)) ((t2a.next hb6).base hbw.size) (RT.fp_lt t1a) (RT.fp_lt t2a) (.inr (Nat.le_refl _)) (fun q hq => ⟨Nat.lt_of_lt_of_le (hO.lt q hq).2 hz5, (hO.lt q hq).2⟩) t1n t2n (by rw [t1r, t2r]; exact split_row HX.out) hW6 Hp1.out Hp2.out
        · have hcm2 : ¬ (c : Int) = (m : Int) + 1 := by omega
          have CR := Lib.hid (fun W H => Ih.out (n - (m + 1)) (by omega) (some ⟨b, off + (m + 1) * 2, none⟩) (c - (m + 1)) (ks.drop (m + 1)) W H (by omega) (by omega) (fun y hy => Hsm.out y (List.mem_of_mem_drop hy)))
          have KR := Lib.hid (fun (W : World) (H : Kinds W (some ⟨b, off, none⟩) n ks) => H.rest hmn hc hcm)
          go_wp2_with fail
          go_region_held3 (fun w' => w'.cell? ⟨g, 0, none⟩ = some (.string x.key) ∧ w'.cell? ⟨g, 1, none⟩ = some (.slice A4 x.ats.length c4)) (first | exact ⟨z0, z1⟩ | exact ⟨z2, z3⟩ | exact ⟨z4, z5⟩ | exact ⟨z6, z7⟩ | exact ⟨z8 _, z9 _⟩) (first
            | (go_at_call 43; ((with_reducible refine (CL.out wc.drew (KL.out _ (LC.next ((Below.refl _ _).drew)).now.2)).mono ?_); rintro e w5 ⟨t1, he1, t1a, t1n, t1r, hb5⟩; obtain ⟨p1, hp1⟩ := RT.ptr_is t1; rw [hp1] at he1; subst he1; have Hp1 := Lib.hid hp1; clear hp1; have hb5' : Below wc.heap.size wc w5 := below_undrew hb5; have L5 := LC.next hb5'; have B5 := hB.next hb5'; have z4 : w5.cell? ⟨g, 0, none⟩ = some (.string x.key) := B5.cell 0; have z5 : w5.cell? ⟨g, 1, none⟩ = some (.slice A4 x.ats.length c4) := B5.cell 1))
            | (go_at_call 43; ((with_reducible refine (CR.out wc.drew (KR.out _ (LC.next ((Below.refl _ _).drew)).now.2)).mono ?_); rintro e w5 ⟨t2, he2, t2a, t2n, t2r, hb5⟩; obtain ⟨p2, hp2⟩ := RT.ptr_is t2; rw [hp2] at he2; subst he2; have Hp2 := Lib.hid hp2; clear hp2; have hb5' : Below wc.heap.size wc w5 := below_undrew hb5; have L5 := LC.next hb5'; have B5 := hB.next hb5'; have z4 : w5.cell? ⟨g, 0, none⟩ = some (.string x.key) := B5.cell 0; have z5 : w5.cell? ⟨g, 1, none⟩ = some (.slice A4 x.ats.length c4) := B5.cell 1))
            | (go_at_call 43; ((with_reducible refine (CL.out w5 (KL.out _ L5.now.2)).mono ?_); rintro e w6 ⟨t1, he1, t1a, t1n, t1r, hb6⟩; obtain ⟨p1, hp1⟩ := RT.ptr_is t1; rw [hp1] at he1; subst he1; have Hp1 := Lib.hid hp1; clear hp1; have B6 := B5.next hb6; have z6 : w6.cell? ⟨g, 0, none⟩ = some (.string x.key) := B6.cell 0; have z7 : w6.cell? ⟨g, 1, none⟩ = some (.slice A4 x.ats.length c4) := B6.cell 1; have z8 := fun o => (show (w6.alloc o).cell? ⟨g, 0, none⟩ = some (.string x.key) from (B6.alloc o).cell 0); have z9 := fun o => (show (w6.alloc o).cell? ⟨g, 1, none⟩ = some (.slice A4 x.ats.length c4) from (B6.alloc o).cell 1)))
            | (go_at_call 43; ((with_reducible refine (CR.out w5 (KR.out _ L5.now.2)).mono ?_); rintro e w6 ⟨t2, he2, t2a, t2n, t2r, hb6⟩; obtain ⟨p2, hp2⟩ := RT.ptr_is t2; rw [hp2] at he2; subst he2; have Hp2 := Lib.hid hp2; clear hp2; have B6 := B5.next hb6; have z6 : w6.cell? ⟨g, 0, none⟩ = some (.string x.key) := B6.cell 0; have z7 : w6.cell? ⟨g, 1, none⟩ = some (.slice A4 x.ats.length c4) := B6.cell 1; have z8 := fun o => (show (w6.alloc o).cell? ⟨g, 0, none⟩ = some (.string x.key) from (B6.alloc o).cell 0); have z9 := fun o => (show (w6.alloc o).cell? ⟨g, 1, none⟩ = some (.slice A4 x.ats.length c4) from (B6.alloc o).cell 1))))
          all_goals
            go_wp2_with fail
            go_ret
            have hz5 := hb5'.size
            have hO6 := own_next (own_next hO hb5') hb6
            have hW6 := bt (bt hbw hb5') hb6
            first
              | exact tree_node hO6 ((t1a.next hb6).base hbw.size) (t2a.base (Nat.le_trans hbw.size hz5)) (RT.fp_lt t1a) (RT.fp_lt t2a) (.inl (Nat.le_refl _)) (fun q hq => ⟨(hO.lt q hq).2, Nat.lt_of_lt_of_le (hO.lt q hq).2 hz5⟩) t1n t2n (by rw [t1r, t2r]; exact split_row HX.out) hW6 Hp1.out Hp2.out
              | exact tree_node hO6 (t1a.base (Nat.le_trans hbw.size hz5)) ((t2a.next hb6).base hbw.size) (RT.fp_lt t1a) (RT.fp_lt t2a) (.inr (Nat.le_refl _)) (fun q hq => ⟨Nat.lt_of_lt_of_le (hO.lt q hq).2 hz5, (hO.lt q hq).2⟩) t1n t2n (by rw [t1r, t2r]; exact split_row HX.out) hW6 Hp1.out Hp2.out
end Go.Proofs.YtnfncnpnkmjjeaaDoor
