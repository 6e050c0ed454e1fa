/- Rows with a further place: the reference's. -/
import Derived.Test.YtnfncnpnkmjjeaaDoorKOf
import Derived.Test.YtnfncnpnkmjjeaaDoorKKinds
import Derived.Test.YtnfncnpnkmjjeaaDoorSValS
namespace Go.Proofs.YtnfncnpnkmjjeaaDoor
set_option linter.unusedVariables false
set_option linter.unusedSimpArgs false
open Go.RowKit

/-- the rows written so far. -/
def OutK (w : World) (v : Value) (rs : List RV) (L : List KRow) (wr : World) : Prop :=
  wr.ownsRow w.heap.size 40 2 v L.length (rs.flatMap rvCells) ∧ Two (KR wr wr.heap.size) rs L ∧ (∀ r ∈ rs, ∀ a, r.A = some a → v.ownBlock ≠ some a.block) ∧ Below w.heap.size w wr
section
variable {w wr W W' : World} {v v' : Value} {rs : List RV} {L : List KRow} {r : RV} {x : KRow}
theorem OutK.next (h : OutK w v rs L wr) (hb : Below wr.heap.size wr W) : OutK w v rs L W :=
  ⟨own_next h.1 hb, h.2.1.imp fun a _ b hab => (hab.below hb).more hb.size, h.2.2.1, bt h.2.2.2 hb⟩
theorem OutK.push (h : OutK w v rs L W) (ho : W'.ownsRow w.heap.size 40 2 v' (L.length + 1) (rs.flatMap rvCells ++ [.string r.key, .slice r.A r.n r.c])) (hg : W.grownBy W' v.ownBlock) (hor : v'.ownBlock = v.ownBlock ∨ v'.ownBlock = some (W.heap.size + 1))
    (hr : KR W W.heap.size r x) (hf : ∀ a, r.A = some a → v.ownBlock ≠ some a.block ∧ a.block < W.heap.size) (hfs : ∀ r ∈ rs, ∀ a, r.A = some a → a.block < W.heap.size) : OutK w v' (rs ++ [r]) (L ++ [x]) W' := by
  have hk : ∀ r' x', KR W W.heap.size r' x' → (∀ a, r'.A = some a → v.ownBlock ≠ some a.block) → KR W' W'.heap.size r' x' := fun r' x' q hq =>
    ⟨q.1, q.2.1, q.2.2.1, (q.2.2.2.grown (Nat.le_refl _) hg hq).more hg.size⟩
  refine ⟨by rw [flatV_snoc, List.length_append]; exact ho, (h.2.1.imp fun a ha b hab => hk a b hab (h.2.2.1 a ha)).app (.cons (hk r x hr fun a ha => (hf a ha).1) .nil), fun r' hr' a ha => ?_, own_below' h.1 (Nat.le_refl _) h.2.2.2 h.2.2.2.size hg⟩
  have hlt : v.ownBlock ≠ some a.block ∧ a.block < W.heap.size := by
    rcases List.mem_append.1 hr' with k | k
    · exact ⟨h.2.2.1 r' k a ha, hfs r' k a ha⟩
    · rw [List.mem_singleton] at k; subst k; exact hf a ha
  rcases hor with e | e
  · rw [e]; exact hlt.1
  · rw [e]; intro e'; have := Option.some.inj e'; omega
end
/-- the slices of the rows lie in what there is. -/
def Low (rs : List RV) (W : World) : Prop := ∀ r ∈ rs, ∀ a, r.A = some a → a.block < W.heap.size
theorem Low.more {rs : List RV} {W W' : World} (h : Low rs W) (hs : W.heap.size ≤ W'.heap.size) : Low rs W' := fun r hr a ha => Nat.lt_of_lt_of_le (h r hr a ha) hs
theorem Low.snoc {rs : List RV} {W : World} {r : RV} (h : Low rs W) (hr : ∀ a, r.A = some a → a.block < W.heap.size) : Low (rs ++ [r]) W := fun r' hr' a ha => by
  rcases List.mem_append.1 hr' with k | k
  · exact h r' k a ha
  · rw [List.mem_singleton] at k; subst k; exact hr a ha
/-- a literal of one place. -/
theorem kr_lit {W : World} {key : ByteArray} {p : Nat} : KR (W.alloc (.cells #[.int .i64 (p : Int)] 3)) (W.alloc (.cells #[.int .i64 (p : Int)] 3)).heap.size ⟨key, some ⟨W.heap.size, 0, none⟩, 1, 1⟩ ⟨key, [p]⟩ := by
  refine ⟨rfl, Nat.le_refl _, (fun e => by cases e), rfl, rfl, fun _ => ⟨W.heap.size, 0, rfl, by simp, fun j hj => ?_⟩⟩
  have hj1 : j < 1 := by simpa [intCells] using hj
  have B := Blk.new W 3 #[.int .i64 (p : Int)]
  rw [B.cell (0 + j)]
  obtain rfl : j = 0 := by omega
  rfl
theorem kr_own {W : World} {B0 m c : Nat} {A : Option Addr} {key : ByteArray} {l : List Nat} (h : W.ownsRow B0 3 1 (.slice A m c) m (l.flatMap intCells)) (hl : l.length = m) : KR W W.heap.size ⟨key, A, m, c⟩ ⟨key, l⟩ := by
  obtain ⟨A', c', e, h1, h2, h3, _⟩ := Row.of_own h hl
  injection e with e1 e2 e3
  subst e1 e3
  exact ⟨rfl, h1, h2, h3⟩
theorem own_far_of {W : World} {B0 m c : Nat} {A : Option Addr} {l : List Value} {e : TypeId} (h : W.ownsRow B0 e 1 (.slice A m c) m l) : ∀ a, A = some a → B0 ≤ a.block ∧ a.block < W.heap.size := fun a ha => h.lt a.block (by rw [ha]; rfl)
theorem q4 {v v0 : Value} {g H : Nat} (h : v.ownBlock = v0.ownBlock ∨ v.ownBlock = some H) (h1 : v0.ownBlock ≠ some g) (h2 : g ≠ H) : v.ownBlock ≠ some g := fun e => by
  rcases h with h | h
  · exact h1 (h.symm.trans e)
  · exact h2 (Option.some.inj (e.symm.trans h))
theorem own_kept_far {W W' : World} {B0 m c : Nat} {A : Option Addr} {l : List Value} {e : TypeId} {row : Option Nat} (S : W.ownsRow B0 e 1 (.slice A m c) m l) (hg : W.grownBy W' row) (h : ∀ a, A = some a → row ≠ some a.block) : W'.ownsRow B0 e 1 (.slice A m c) m l :=
  S.kept hg (by
    cases A with
    | none => exact .inl rfl
    | some a => exact .inr (fun e => h a rfl e.symm))
theorem outk_ret {w W : World} {v : Value} {rs : List RV} {L : List KRow} (h : OutK w v rs L W) : KindsRet L w (.returned v) W := by
  obtain ⟨A, c, rfl, h1, h2, h3, _⟩ := Row.of_own h.1 h.2.1.len
  exact ⟨A, L.length, c, rfl, ⟨rs, h3, h.2.1⟩, h1, Lib.hid h2, h.2.2.2⟩
theorem OutK.own_lt {w W : World} {v : Value} {rs : List RV} {L : List KRow} (h : OutK w v rs L W) {g : Nat} (hg : W.heap.size ≤ g) : v.ownBlock ≠ some g := fun e => by have := (h.1.lt g e).2; omega
set_option maxRecDepth 100000 in
set_option maxHeartbeats 8000000 in
theorem l22Add_any (A : Option Addr) (n c : Nat) (ks : List KRow) (key : ByteArray) (p : Nat) (w : World) (h : Kinds w A n ks) (hso : SortedK ks) (hnb : n ≤ 1000) (hsb : ∀ x ∈ ks, x.ats.length ≤ 100000) :
    Calls Tryd.prog 38 #[.slice A n c, .string key, .int .i64 (p : Int)] w (KindsRet (putK ks ⟨key, [p]⟩) w) := by
  have Hlen := Lib.hid h.len
  have HK := Lib.hid h
  have HS := Lib.hid hsb
  have Hso := Lib.hid hso
  clear h hsb hso
  go_enter Tryd.func38, Tryd.ntmps38
  go_wp2_with fail
  have O0 : Hid (OutK w (.slice (some ⟨w.heap.size, 0, none⟩) 0 0) [] [] (w.alloc (.cells #[] 40))) := Lib.hid ⟨World.ownsRow_lit w #[] 0 (Nat.le_refl _) (Nat.zero_le _) rfl, Two.nil, (fun _ h => by cases h), (Below.refl _ _).alloc (Nat.le_refl _) _⟩
  go_loopw [7, 8, 9] (fun v d i wr => ∃ (k : Nat) (bd : Bool) (rs : List RV) (L : List KRow), k ≤ n ∧ i = .int .i64 (k : Int) ∧ d = .bool bd ∧ Hid (runK ⟨key, [p]⟩ ks k = (bd, L)) ∧ Hid (OutK w v rs L wr) ∧ Hid (Low rs wr)) (fun _ _ i _ => n - (intOf i).toNat)
  case atStart => exact ⟨0, false, [], [], Nat.zero_le _, rfl, rfl, Lib.hid rfl, O0, Lib.hid (fun _ h => by cases h)⟩
  case round =>
    obtain ⟨k, bd, rs, L, hk, rfl, rfl, HL, HO, HLow⟩ := hrel
    have hLk := runK_len ⟨key, [p]⟩ ks k
    rw [HL.out] at hLk
    simp only at hLk
    by_cases hlt : k < n
    · have hlt' : (k : Int) < (n : Int) := by omega
      have hbwr := Lib.hid HO.out.2.2.2
      have Kwr := HK.out.next (HO.out.2.2.2)
      obtain ⟨b, off, rfl, hb, hat⟩ := Kwr.at_ (by omega)
      obtain ⟨r, hr⟩ : ∃ r, ks[k]? = some r := ⟨_, List.getElem?_eq_getElem (by rw [Hlen.out]; exact hlt)⟩
      obtain ⟨A', n', c', c0, c1, hc', hnil, hrow⟩ := hat k r hr
      obtain rfl : n' = r.ats.length := hrow.1.symm
      have hsr := HS.out r (List.mem_of_getElem? hr)
      have HRow := Lib.hid hrow
      have HN := Lib.hid hnil
      have hstep := runK_succ (t := ⟨key, [p]⟩) (l := ks) (k := k) (by rw [Hlen.out]; exact hlt)
      rw [HL.out, show nx ks k = r from by unfold nx; rw [hr]; rfl] at hstep
      have Hstep := Lib.hid hstep
      clear hr hat hrow hnil hstep Kwr
      go_upto_region 6 with fail
      go_cut [10] (fun s10 wx => Copied wr r s10 wx)
      case first =>
        have d0 : wr.drew.cell? ⟨b, off + k * 2, none⟩ = some (.string r.key) := c0
        have d1 : wr.drew.cell? ⟨b, off + k * 2 + 1, none⟩ = some (.slice A' r.ats.length c') := c1
        have e0 := fun o => (show (wr.alloc o).drew.cell? ⟨b, off + k * 2, none⟩ = some (.string r.key) from (World.cell?_alloc_lt wr o hb (a := ⟨b, off + k * 2, none⟩)).trans c0)
        have e1 := fun o => (show (wr.alloc o).drew.cell? ⟨b, off + k * 2 + 1, none⟩ = some (.slice A' r.ats.length c') from (World.cell?_alloc_lt wr o hb (a := ⟨b, off + k * 2 + 1, none⟩)).trans c1)
        have hb1 := fun o => (show b < (wr.alloc o).heap.size by simp; omega)
        have g0 := fun o o' => (show ((wr.alloc o).alloc o').drew.cell? ⟨b, off + k * 2, none⟩ = some (.string r.key) from (World.cell?_alloc_lt (wr.alloc o) o' (hb1 o) (a := ⟨b, off + k * 2, none⟩)).trans (e0 o))
        have g1 := fun o o' => (show ((wr.alloc o).alloc o').drew.cell? ⟨b, off + k * 2 + 1, none⟩ = some (.slice A' r.ats.length c') from (World.cell?_alloc_lt (wr.alloc o) o' (hb1 o) (a := ⟨b, off + k * 2 + 1, none⟩)).trans (e1 o))
        have BA := Lib.hid (show Below wr.heap.size wr (wr.alloc (.cells #[] 3)).drew from ((Below.refl _ _).alloc (Nat.le_refl _) _).drew)
        have BB := Lib.hid (show Below wr.heap.size wr ((wr.alloc (.cells #[] 3)).alloc (.cells #[.string ⟨#[]⟩, .slice none 0 0] 40)).drew from (((Below.refl _ _).alloc (Nat.le_refl _) _).alloc (by simp) _).drew)
        have BC := Lib.hid (show Below wr.heap.size wr ((wr.alloc (.cells #[.string ⟨#[]⟩, .slice none 0 0] 40)).alloc (.cells #[] 3)).drew from (((Below.refl _ _).alloc (Nat.le_refl _) _).alloc (by simp) _).drew)
        have OA := Lib.hid (show (wr.alloc (.cells #[] 3)).drew.ownsRow wr.heap.size 3 1 (.slice (some ⟨wr.heap.size, 0, none⟩) 0 0) 0 [] from World.ownsRow_lit wr #[] 0 (Nat.le_refl _) (Nat.zero_le _) rfl)
        have OB := Lib.hid (show ((wr.alloc (.cells #[] 3)).alloc (.cells #[.string ⟨#[]⟩, .slice none 0 0] 40)).drew.ownsRow wr.heap.size 3 1 (.slice (some ⟨wr.heap.size, 0, none⟩) 0 0) 0 [] from World.ownsRow.alloc (World.ownsRow_lit wr #[] 0 (Nat.le_refl _) (Nat.zero_le _) rfl) _)
        have OC := Lib.hid (show ((wr.alloc (.cells #[.string ⟨#[]⟩, .slice none 0 0] 40)).alloc (.cells #[] 3)).drew.ownsRow wr.heap.size 3 1 (.slice (some ⟨wr.heap.size + 1, 0, none⟩) 0 0) 0 [] from by have := World.ownsRow_lit (base := wr.heap.size) (e := 3) (size := 1) (wr.alloc (.cells #[.string ⟨#[]⟩, .slice none 0 0] 40)) #[] 0 (by simp) (Nat.zero_le _) rfl; exact World.ownsRow.drew (by simpa using this))
        have XB := Lib.hid (show Blk ((wr.alloc (.cells #[] 3)).alloc (.cells #[.string ⟨#[]⟩, .slice none 0 0] 40)) (wr.heap.size + 1) 40 #[.string ⟨#[]⟩, .slice none 0 0] from by have := Blk.new (wr.alloc (.cells #[] 3)) 40 #[.string ⟨#[]⟩, .slice none 0 0]; simpa using this)
        have XC := Lib.hid (show Blk ((wr.alloc (.cells #[.string ⟨#[]⟩, .slice none 0 0] 40)).alloc (.cells #[] 3)) wr.heap.size 40 #[.string ⟨#[]⟩, .slice none 0 0] from (Blk.new wr 40 #[.string ⟨#[]⟩, .slice none 0 0]).alloc _)
        go_region_law (first
          | (refine app_src_step elemInt (wr.alloc (.cells #[] 3)).drew ?_ (.tmp 23) (.tmp 28) ?_ wr.heap.size (.slice (some ⟨wr.heap.size, 0, none⟩) 0 0) 0 [] ?_ OA.out A' r.ats.length c' wr.heap.size (r.ats.flatMap intCells) ?_ HN.out (HRow.out.2.below BA.out) (ints_one _) ?_ ?_ ?_ ?_; rfl; rfl; rfl; rfl; omega; omega; (exact BA.out.size); intro v' w3 own3 grow3 or3; rw [Nat.zero_add, List.nil_append] at own3; obtain ⟨A3, c3, rfl⟩ := own_is own3; have B3 := Lib.hid (own_below' OA.out (Nat.le_refl _) BA.out BA.out.size grow3); have k0 := (B3.out.cell (p := ⟨b, off + k * 2, none⟩) hb).trans c0; have k1 := (B3.out.cell (p := ⟨b, off + k * 2 + 1, none⟩) hb).trans c1; have l0 := fun o => (World.cell?_alloc_lt w3 o (Nat.lt_of_lt_of_le hb B3.out.size) (a := ⟨b, off + k * 2, none⟩)).trans k0; skip; have O3 := Lib.hid own3; have R3 := Lib.hid or3; clear own3 grow3 or3)
          | (refine app_src_step elemInt ((wr.alloc (.cells #[] 3)).alloc (.cells #[.string ⟨#[]⟩, .slice none 0 0] 40)).drew ?_ (.tmp 23) (.tmp 28) ?_ wr.heap.size (.slice (some ⟨wr.heap.size, 0, none⟩) 0 0) 0 [] ?_ OB.out A' r.ats.length c' wr.heap.size (r.ats.flatMap intCells) ?_ HN.out (HRow.out.2.below BB.out) (ints_one _) ?_ ?_ ?_ ?_; rfl; rfl; rfl; rfl; omega; omega; (exact BB.out.size); intro v' w3 own3 grow3 or3; rw [Nat.zero_add, List.nil_append] at own3; obtain ⟨A3, c3, rfl⟩ := own_is own3; have B3 := Lib.hid (own_below' OB.out (Nat.le_refl _) BB.out BB.out.size grow3); have k0 := (B3.out.cell (p := ⟨b, off + k * 2, none⟩) hb).trans c0; have k1 := (B3.out.cell (p := ⟨b, off + k * 2 + 1, none⟩) hb).trans c1; have l0 := fun o => (World.cell?_alloc_lt w3 o (Nat.lt_of_lt_of_le hb B3.out.size) (a := ⟨b, off + k * 2, none⟩)).trans k0; have X3 := Blk.grown (w := ((wr.alloc (.cells #[] 3)).alloc (.cells #[.string ⟨#[]⟩, .slice none 0 0] 40)).drew) XB.out grow3 (fun e => Nat.succ_ne_self wr.heap.size (Option.some.inj e)); have z0 := X3.cell 0; have z1 := X3.cell 1; have y0 := X3.frozen 0; have y1 := X3.frozen 1; have HX3 := Lib.hid X3; have Q3 := Lib.hid (q3 or3 (Nat.succ_ne_self wr.heap.size) (by show wr.heap.size + 1 ≠ ((wr.alloc (.cells #[] 3)).alloc (.cells #[.string ⟨#[]⟩, .slice none 0 0] 40)).heap.size; simp)); clear X3; have O3 := Lib.hid own3; have R3 := Lib.hid or3; clear own3 grow3 or3)
          | (refine app_src_step elemInt ((wr.alloc (.cells #[.string ⟨#[]⟩, .slice none 0 0] 40)).alloc (.cells #[] 3)).drew ?_ (.tmp 23) (.tmp 28) ?_ wr.heap.size (.slice (some ⟨wr.heap.size + 1, 0, none⟩) 0 0) 0 [] ?_ OC.out A' r.ats.length c' wr.heap.size (r.ats.flatMap intCells) ?_ HN.out (HRow.out.2.below BC.out) (ints_one _) ?_ ?_ ?_ ?_; rfl; rfl; rfl; rfl; omega; omega; (exact BC.out.size); intro v' w3 own3 grow3 or3; rw [Nat.zero_add, List.nil_append] at own3; obtain ⟨A3, c3, rfl⟩ := own_is own3; have B3 := Lib.hid (own_below' OC.out (Nat.le_refl _) BC.out BC.out.size grow3); have k0 := (B3.out.cell (p := ⟨b, off + k * 2, none⟩) hb).trans c0; have k1 := (B3.out.cell (p := ⟨b, off + k * 2 + 1, none⟩) hb).trans c1; have l0 := fun o => (World.cell?_alloc_lt w3 o (Nat.lt_of_lt_of_le hb B3.out.size) (a := ⟨b, off + k * 2, none⟩)).trans k0; have X3 := Blk.grown (w := ((wr.alloc (.cells #[.string ⟨#[]⟩, .slice none 0 0] 40)).alloc (.cells #[] 3)).drew) XC.out grow3 (fun e => Nat.succ_ne_self wr.heap.size (Option.some.inj e).symm); have z0 := X3.cell 0; have z1 := X3.cell 1; have y0 := X3.frozen 0; have y1 := X3.frozen 1; have HX3 := Lib.hid X3; have Q3 := Lib.hid (q3 or3 (fun e => Nat.succ_ne_self wr.heap.size e.symm) (by show wr.heap.size ≠ ((wr.alloc (.cells #[.string ⟨#[]⟩, .slice none 0 0] 40)).alloc (.cells #[] 3)).heap.size; simp; omega)); clear X3; have O3 := Lib.hid own3; have R3 := Lib.hid or3; clear own3 grow3 or3))
        all_goals
          go_wp2_with fail
        all_goals
          go_meet
          case rel => first
            | exact copied_new O3.out B3.out
            | exact copied_set (by assumption) O3.out B3.out (by omega) Q3.out
      case rest =>
        obtain ⟨g, A4, c4, rfl, hB, hO, hbw, hg, hne⟩ := hcut
        have hlw := hbw.size
        have z0 := hB.cell 0
        have z1 := hB.cell 1
        have OC := Lib.hid (HO.out.next hbw)
        have LowC := Lib.hid (HLow.out.more hbw.size)
        have HOi := Lib.hid hO
        have HBg := Lib.hid hB
        have Hbw := Lib.hid hbw
        have HA4 := Lib.hid (own_far_of hO)
        have Hne := Lib.hid hne
        have HvO := Lib.hid (fun (q : Nat) (hq : wr.heap.size ≤ q) => HO.out.own_lt hq)
        clear hB hO hbw hne
        by_cases hsame : r.key = key
        · have Hst : Hid (runK ⟨key, [p]⟩ ks (k + 1) = (true, L ++ [⟨r.key, r.ats ++ [p]⟩])) := Lib.hid (by rw [Hstep.out]; unfold stepK; rw [if_pos hsame]; rfl)
          have e1 : (r.key.toList == key.toList) = true := by rw [hsame]; exact beq_self_eq_true _
          clear hsame
          go_wp2_with (first
            | (at_builtin; (refine app_one elemInt wc rfl _ _ rfl wr.heap.size _ r.ats.length (r.ats.flatMap intCells) rfl (by exact HOi.out) [.int .i64 (p : Int)] rfl rfl ?_ ?_ ?_ ?_); (intro u hu; simp at hu; rw [hu]; rfl); omega; omega; intro v5 w5 own5 grow5 or5; obtain ⟨A5, c5, rfl⟩ := own_is own5; have B5 := HBg.out.grown grow5 (fun e => Hne.out e.symm); have Q5 := q4 or5 Hne.out (by have := HBg.out.lt; omega); have y1 := B5.cell 1; have f1 := B5.frozen 1; have B6 := B5.set_ 1 (.slice A5 (r.ats.length + 1) c5); have x0 := B6.cell 0; have x1 := B6.cell 1; have own6 := own_far own5 ⟨g, 1, none⟩ (.slice A5 (r.ats.length + 1) c5) Q5; rw [← flatN_snoc] at own6; have S6 := Lib.hid own6; have BW6 := Lib.hid ((own_below' HOi.out (Nat.le_refl _) Hbw.out hlw grow5).setCell (p := ⟨g, 1, none⟩) hg (.slice A5 (r.ats.length + 1) c5)); have O6 := Lib.hid (HO.out.next BW6.out); clear own5 grow5 or5 own6 B5 B6 Q5)
            | (at_builtin; go_must (refine app_at elemRow _ rfl _ _ rfl w.heap.size _ L.length (rs.flatMap rvCells) rfl (by exact O6.out.1) [.string r.key, .slice A5 (r.ats.length + 1) c5] w5.heap.size rfl ?_ rfl (rv_one ⟨r.key, A5, r.ats.length + 1, c5⟩) ?_ ?_ ?_); (simp); omega; (exact O6.out.2.2.2.size); intro v7 w7 own7 grow7 or7; have O7 := Lib.hid (O6.out.push (r := ⟨r.key, A5, r.ats.length + 1, c5⟩) own7 grow7 or7 (kr_own S6.out (by simp)) (fun a ha => ⟨HvO.out a.block (own_far_of S6.out a ha).1, (own_far_of S6.out a ha).2⟩) (HLow.out.more BW6.out.size)); have LW7 := Lib.hid (Low.more (HLow.out.more BW6.out.size |>.snoc (r := ⟨r.key, A5, r.ats.length + 1, c5⟩) (fun a ha => (own_far_of S6.out a ha).2)) grow7.size); clear own7 grow7 or7))
          go_roundw
          case rel => exact ⟨k + 1, true, _, _, by omega, by go_num, rfl, Hst, O7, LW7⟩
          case measure => simp [intOf]; omega
        · have e1 : (r.key.toList == key.toList) = false := toList_ne hsame
          by_cases hgt : bd = false ∧ ltB key r.key = true
          · obtain ⟨hbd, hg2⟩ := hgt
            subst hbd
            have Hst : Hid (runK ⟨key, [p]⟩ ks (k + 1) = (true, L ++ [⟨key, [p]⟩] ++ [r])) := Lib.hid (by rw [Hstep.out]; unfold stepK; rw [if_neg hsame, if_pos ⟨rfl, hg2⟩])
            have e2 : Op.bytesLess r.key.toList key.toList = false := ltB_asymm hg2
            have O1 := Lib.hid (OC.out.next ((Below.refl wc.heap.size wc).alloc (Nat.le_refl _) (.cells #[.int .i64 (p : Int)] 3)))
            have hz1 : (wc.alloc (.cells #[.int .i64 (p : Int)] 3)).heap.size = wc.heap.size + 1 := by simp
            have HZ1 := Lib.hid hz1
            have S1 := Lib.hid (HOi.out.alloc (.cells #[.int .i64 (p : Int)] 3))
            have Bg1 := Lib.hid (HBg.out.alloc (.cells #[.int .i64 (p : Int)] 3))
            clear hsame hg2 hz1
            go_wp2_with (first
              | (at_builtin; (refine app_at elemRow (wc.alloc (.cells #[.int .i64 (p : Int)] 3)) rfl _ _ rfl w.heap.size _ L.length (rs.flatMap rvCells) rfl (by exact O1.out.1) [.string key, .slice (some ⟨wc.heap.size, 0, none⟩) 1 1] (wc.heap.size + 1) rfl ?_ rfl (rv_one ⟨key, some ⟨wc.heap.size, 0, none⟩, 1, 1⟩) ?_ ?_ ?_); (simp); omega; (exact O1.out.2.2.2.size); intro v2 w2 own2 grow2 or2; have O2 := Lib.hid (O1.out.push (r := ⟨key, some ⟨wc.heap.size, 0, none⟩, 1, 1⟩) own2 grow2 or2 kr_lit (fun a ha => (by obtain rfl := Option.some.inj ha; exact ⟨HvO.out _ hlw, by rw [HZ1.out]; exact Nat.lt_succ_self _⟩)) (LowC.out.more (by rw [HZ1.out]; exact Nat.le_succ _))); have LW2 := Lib.hid (Low.more (Low.snoc (r := ⟨key, some ⟨wc.heap.size, 0, none⟩, 1, 1⟩) (LowC.out.more (W' := wc.alloc (.cells #[.int .i64 (p : Int)] 3)) (by rw [HZ1.out]; exact Nat.le_succ _)) (fun a ha => (by obtain rfl := Option.some.inj ha; rw [HZ1.out]; exact Nat.lt_succ_self _))) grow2.size); have B2 := Bg1.out.grown grow2 (fun e => HvO.out g hg e.symm); have x0 := B2.cell 0; have x1 := B2.cell 1; have S2 := Lib.hid (own_kept_far S1.out grow2 (fun a ha => HvO.out a.block (HA4.out a ha).1)); have HV2 : Hid (∀ a, A4 = some a → v2.ownBlock ≠ some a.block) := Lib.hid (fun a ha e => (by rcases or2 with h | h; exact HvO.out a.block (HA4.out a ha).1 (h.symm.trans e); have h3 := Option.some.inj (h.symm.trans e); have := (HA4.out a ha).2; rw [HZ1.out] at h3; omega)); clear own2 grow2 or2 B2)
              | (at_builtin; go_must (refine app_one elemRow w2 rfl _ _ rfl w.heap.size _ (L ++ [(⟨key, [p]⟩ : KRow)]).length ((rs ++ [(⟨key, some ⟨wc.heap.size, 0, none⟩, 1, 1⟩ : RV)]).flatMap rvCells) rfl (by exact O2.out.1) [.string r.key, .slice A4 r.ats.length c4] rfl rfl (rv_one ⟨r.key, A4, r.ats.length, c4⟩) ?_ ?_ ?_); (simp only [List.length_append, List.length_cons, List.length_nil]; omega); (exact O2.out.2.2.2.size); intro v3 w3 own3 grow3 or3; have O3 := Lib.hid (O2.out.push (r := ⟨r.key, A4, r.ats.length, c4⟩) (x := r) own3 grow3 or3 (kr_own S2.out rfl) (fun a ha => ⟨HV2.out a ha, (own_far_of S2.out a ha).2⟩) LW2.out); have LW3 := Lib.hid (Low.more (LW2.out.snoc (r := ⟨r.key, A4, r.ats.length, c4⟩) (fun a ha => (own_far_of S2.out a ha).2)) grow3.size); clear own3 grow3 or3))
            go_roundw
            case rel => exact ⟨k + 1, true, _, _, by omega, by go_num, rfl, Hst, O3, LW3⟩
            case measure => simp [intOf]; omega
          · have Hst : Hid (runK ⟨key, [p]⟩ ks (k + 1) = (bd, L ++ [r])) := Lib.hid (by rw [Hstep.out]; unfold stepK; rw [if_neg hsame, if_neg hgt])
            have hcase : bd = true ∨ (bd = false ∧ Op.bytesLess r.key.toList key.toList = true) := by
              cases bd with
              | true => exact .inl rfl
              | false =>
                rcases ltB_tri r.key key with e | e | e
                · exact .inr ⟨rfl, e⟩
                · exact absurd e hsame
                · exact absurd ⟨rfl, e⟩ hgt
            clear hsame hgt
            rcases hcase with rfl | ⟨rfl, e2⟩
            all_goals
              go_wp2_with (at_builtin; go_must (refine app_one elemRow wc rfl _ _ rfl w.heap.size _ L.length (rs.flatMap rvCells) rfl (by exact OC.out.1) [.string r.key, .slice A4 r.ats.length c4] rfl rfl (rv_one ⟨r.key, A4, r.ats.length, c4⟩) ?_ ?_ ?_); omega; (exact OC.out.2.2.2.size); intro v7 w7 own7 grow7 or7; have O7 := Lib.hid (OC.out.push (r := ⟨r.key, A4, r.ats.length, c4⟩) (x := r) own7 grow7 or7 (kr_own HOi.out rfl) (fun a ha => ⟨HvO.out a.block (HA4.out a ha).1, (HA4.out a ha).2⟩) LowC.out); have LW7 := Lib.hid (Low.more (LowC.out.snoc (r := ⟨r.key, A4, r.ats.length, c4⟩) (fun a ha => (HA4.out a ha).2)) grow7.size); clear own7 grow7 or7)
              go_roundw
              case rel => exact ⟨k + 1, _, _, _, by omega, by go_num, rfl, Hst, O7, LW7⟩
              case measure => simp [intOf]; omega
    · obtain rfl : k = n := by omega
      have hlt' : ¬ (k : Int) < (k : Int) := by omega
      have Hp := Lib.hid (runK_put (t := ⟨key, [p]⟩) Hso.out)
      rw [Hlen.out, HL.out] at Hp
      cases bd with
      | true =>
        have HP2 : Hid (L = putK ks ⟨key, [p]⟩) := Hp
        go_wp2_with fail
        go_ret
        rw [← HP2.out]
        exact outk_ret HO.out
      | false =>
        have HP2 : Hid (L ++ [⟨key, [p]⟩] = putK ks ⟨key, [p]⟩) := Hp
        have O1 := Lib.hid (HO.out.next ((Below.refl wr.heap.size wr).alloc (Nat.le_refl _) (.cells #[.int .i64 (p : Int)] 3)))
        have hz1 : (wr.alloc (.cells #[.int .i64 (p : Int)] 3)).heap.size = wr.heap.size + 1 := by simp
        have HZ1 := Lib.hid hz1
        have HvO := Lib.hid (fun (q : Nat) (hq : wr.heap.size ≤ q) => HO.out.own_lt hq)
        clear hz1
        go_wp2_with (at_builtin; go_must (refine app_at elemRow (wr.alloc (.cells #[.int .i64 (p : Int)] 3)) rfl _ _ rfl w.heap.size _ L.length (rs.flatMap rvCells) rfl (by exact O1.out.1) [.string key, .slice (some ⟨wr.heap.size, 0, none⟩) 1 1] (wr.heap.size + 1) rfl ?_ rfl (rv_one ⟨key, some ⟨wr.heap.size, 0, none⟩, 1, 1⟩) ?_ ?_ ?_); (simp); omega; (exact O1.out.2.2.2.size); intro v2 w2 own2 grow2 or2; have O2 := Lib.hid (O1.out.push (r := ⟨key, some ⟨wr.heap.size, 0, none⟩, 1, 1⟩) own2 grow2 or2 kr_lit (fun a ha => (by obtain rfl := Option.some.inj ha; exact ⟨HvO.out _ (Nat.le_refl _), by rw [HZ1.out]; exact Nat.lt_succ_self _⟩)) (HLow.out.more (by rw [HZ1.out]; exact Nat.le_succ _))); clear own2 grow2 or2)
        go_ret
        rw [← HP2.out]
        exact outk_ret O2.out
end Go.Proofs.YtnfncnpnkmjjeaaDoor
