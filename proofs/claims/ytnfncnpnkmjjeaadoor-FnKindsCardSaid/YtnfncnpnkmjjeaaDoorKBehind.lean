/- A tree's rows behind others; a row found in a tree: the program's. -/
import Derived.Test.YtnfncnpnkmjjeaaDoorKWith
import Derived.Deep.LoopGhost
namespace Go.Proofs.YtnfncnpnkmjjeaaDoor
set_option linter.unusedVariables false
set_option linter.unusedSimpArgs false
open Go.RowKit

def BehindRet (t : RT) (rs : List RV) (v : Value) (n bs : Nat) (w : World) (e : Ending) (w' : World) : Prop :=
  ∃ v', e = .returned v' ∧ w'.ownsRow bs 40 2 v' (n + t.rvs.length) ((rs ++ t.rvs).flatMap rvCells) ∧ Kept (fun g => v.ownBlock = some g) w w' ∧ (v'.ownBlock = v.ownBlock ∨ ∃ g, v'.ownBlock = some g ∧ w.heap.size ≤ g)
set_option maxRecDepth 100000 in
set_option maxHeartbeats 4000000 in
theorem behind_any (t : RT) : ∀ (rs : List RV) (v : Value) (n bs base : Nat) (w : World), t.At w base → w.ownsRow bs 40 2 v n (rs.flatMap rvCells) → (∀ g, v.ownBlock = some g → g ∉ t.fp) → bs ≤ w.heap.size → n + t.rvs.length ≤ 1000000 →
    Calls Tryd.prog 37 #[t.ptr, v] w (BehindRet t rs v n bs w) := by
  induction t with
  | leaf =>
    intro rs v n bs base w _ hO _ _ _
    have Hr := Lib.hid (show BehindRet .leaf rs v n bs w (.returned v) w from ⟨v, rfl, by simpa [RT.rvs] using hO, Kept.refl _ _, .inl rfl⟩)
    show Calls _ _ #[.pointer none, v] w _
    go_enter Tryd.func37, Tryd.ntmps37
    go_wp2_with fail
    go_ret
    exact Hr.out
  | node b r ats l rr ih1 ih2 =>
    intro rs v n bs base w hT hO hv hbs hn
    have HT := Lib.hid hT
    have hlen : (RT.node b r ats l rr).rvs.length = l.rvs.length + (1 + rr.rvs.length) := by simp [RT.rvs]; omega
    have hlt := RT.fp_lt hT
    obtain ⟨⟨hB, hb⟩, -, hl, hr⟩ := hT
    have hvl : ∀ g, v.ownBlock = some g → g ≠ b ∧ g ∉ l.fp ∧ g ∉ rr.fp := fun g hg => by
      have := hv g hg
      simp only [RT.fp, List.mem_cons, List.mem_append, not_or] at this
      exact ⟨this.1, this.2.2.1, this.2.2.2⟩
    have hfb : b < w.heap.size := hB.lt
    have hfr : ∀ g ∈ rr.fp, g < w.heap.size := fun g hg => (hlt g (by simp [RT.fp, hg])).2
    have I1 := Lib.hid (ih1 rs v n bs base w hl hO (fun g hg => (hvl g hg).2.1) hbs (by omega))
    have I2 := Lib.hid ih2
    have HB := Lib.hid hB
    have HR := Lib.hid hr
    have HV := Lib.hid hvl
    have HF := Lib.hid hfr
    have Hlen := Lib.hid hlen
    have c2 := hB.cell 2
    have hn1 : n + l.rvs.length ≤ 1000000 := by omega
    have hn2 : n + l.rvs.length + 1 + rr.rvs.length ≤ 1000000 := by omega
    clear ih1 ih2 hB hb hl hr hO hv hvl hlt hfr hlen hn
    show Calls _ _ #[.pointer (some ⟨b, 0, none⟩), v] w _
    go_enter Tryd.func37, Tryd.ntmps37
    go_wp2_with (first
      | (go_at_call 37; (with_reducible refine I1.out.mono ?_); (rintro e w1 ⟨v1, rfl, o1, k1, e1⟩; have B1 := HB.out.kept k1 (fun k => (HV.out b k).1 rfl); have d0 := B1.cell 0; have d1 := B1.cell 1; have s1 := k1.size; have O1 := Lib.hid o1; have K1 := Lib.hid k1; have E1 := Lib.hid e1; have BB1 := Lib.hid B1; clear o1 k1 e1 B1))
      | (at_builtin; go_must (refine app_one elemRow w1 rfl _ _ rfl bs v1 (n + l.rvs.length) ((rs ++ l.rvs).flatMap rvCells) rfl (by exact O1.out) [.string r.key, .slice r.A r.n r.c] rfl rfl (rv_one r) ?_ ?_ ?_); omega; omega; intro v2 w2 o2 g2 e2; have h12 := Kept.of_grown (S := fun g => v.ownBlock = some g ∨ w.heap.size ≤ g) g2 (fun g hg => (by rcases E1.out with e | ⟨q, e, hq⟩; exact .inl (.inl (by rw [← e]; exact hg)); exact .inl (.inr (by have hq2 : some q = some g := e.symm.trans hg; injection hq2 with hq3; omega)))); have B2 := BB1.out.kept h12 (fun k => (by rcases k with k | k; exact (HV.out b k).1 rfl; omega)); have d3 := B2.cell 3; have s2 := h12.size; have E2 : Hid (v2.ownBlock = v.ownBlock ∨ ∃ g, v2.ownBlock = some g ∧ w.heap.size ≤ g) := Lib.hid (by rcases e2 with e | e; exact E1.out.imp (fun k => e.trans k) (fun ⟨q, k, hq⟩ => ⟨q, e.trans k, hq⟩); exact .inr ⟨_, e, by omega⟩); have K2 := Lib.hid h12; have O2 := Lib.hid (show w2.ownsRow bs 40 2 v2 (n + l.rvs.length + 1) ((rs ++ l.rvs ++ [r]).flatMap rvCells) from (by rw [flatV_snoc]; exact o2)); have RR2 := Lib.hid (((HR.out.kept K1.out (fun g hg k => (HV.out g k).2.2 hg)).kept h12) (fun g hg k => (by rcases k with k | k; exact (HV.out g k).2.2 hg; have := HF.out g hg; omega))); have I3 := Lib.hid (I2.out (rs ++ l.rvs ++ [r]) v2 (n + l.rvs.length + 1) bs base w2 RR2.out O2.out (fun g hg => (by rcases E2.out with e | ⟨q, e, hq⟩; exact (HV.out g (by rw [← e]; exact hg)).2.2; exact fun k => (by have hq2 : some q = some g := e.symm.trans hg; injection hq2 with hq3; have := HF.out g k; omega))) (by omega) (by omega)); clear o2 g2 e2 h12 B2)
      | (go_at_call 37; (with_reducible refine I3.out.mono ?_); (rintro e w3 ⟨v3, rfl, o3, k3, e3⟩; have O3 := Lib.hid o3; have K3 := Lib.hid k3; have E3 := Lib.hid e3; clear o3 k3 e3)))
    go_ret
    refine ⟨v3, rfl, ?_, ?_, ?_⟩
    · have e1 : n + (RT.node b r ats l rr).rvs.length = n + l.rvs.length + 1 + rr.rvs.length := by rw [Hlen.out]; omega
      have e2 : rs ++ (RT.node b r ats l rr).rvs = rs ++ l.rvs ++ [r] ++ rr.rvs := by simp [RT.rvs]
      rw [e1, e2]
      exact O3.out
    · have k3 := K3.out.imp (T := fun g => v.ownBlock = some g ∨ w.heap.size ≤ g) (fun i _ hi => by
        rcases E2.out with e | ⟨q, e, hq⟩
        · exact .inl (by rw [← e]; exact hi)
        · have hq2 : some q = some i := e.symm.trans hi
          injection hq2 with hq3
          exact .inr (by omega))
      exact (((K1.out.imp (T := fun g => v.ownBlock = some g ∨ w.heap.size ≤ g) (fun i _ hi => .inl hi)).trans K2.out).trans k3).imp (fun i hi hs => by
        rcases hs with h | h
        · exact h
        · omega)
    · rcases E3.out with e | ⟨q, e, hq⟩
      · exact E2.out.imp (fun k => e.trans k) (fun ⟨q, k, hq⟩ => ⟨q, e.trans k, hq⟩)
      · exact .inr ⟨q, e, by omega⟩

/-! ### finding -/
def RT.findT (key : ByteArray) : RT → RT
  | .leaf => .leaf
  | .node b r ats l rr => if r.key = key then .node b r ats l rr else if ltB key r.key = true then RT.findT key l else RT.findT key rr
theorem findT_has {key : ByteArray} : ∀ {t : RT}, SortedK t.rows → ∀ x ∈ t.rows, x.key = key → ∃ b r ats l rr, RT.findT key t = .node b r ats l rr ∧ x = ⟨r.key, ats⟩ := by
  intro t
  induction t with
  | leaf => intro _ x hx; cases hx
  | node b r ats l rr ih1 ih2 =>
    intro hs x hx hk
    obtain ⟨h1, h2, h3⟩ := rows_lt hs
    have h4 : ∀ y ∈ rr.rows, ltB r.key y.key = true := by
      have h' : (l.rows ++ (⟨r.key, ats⟩ : KRow) :: rr.rows).Pairwise (fun a b => ltB a.key b.key = true) := hs
      exact (List.pairwise_cons.1 (List.pairwise_append.1 h').2.1).1
    have hx' : x ∈ l.rows ++ (⟨r.key, ats⟩ : KRow) :: rr.rows := hx
    unfold RT.findT
    rcases List.mem_append.1 hx' with k | k
    · have := h3 x k
      rw [hk] at this
      rw [if_neg (fun e => ltB_ne this e.symm), if_pos this]
      exact ih1 h1 x k hk
    · rcases List.mem_cons.1 k with k | k
      · rw [if_pos (by rw [← hk, k])]
        exact ⟨b, r, ats, l, rr, rfl, k⟩
      · have := h4 x k
        rw [hk] at this
        rw [if_neg (ltB_ne this), if_neg (by rw [ltB_asymm this]; decide)]
        exact ih2 h2 x k hk
theorem findT_at {key : ByteArray} {w : World} {base : Nat} : ∀ {t : RT}, t.At w base → (RT.findT key t).At w base := by
  intro t
  induction t with
  | leaf => intro _; trivial
  | node b r ats l rr ih1 ih2 =>
    intro h
    unfold RT.findT
    split
    · exact h
    · split
      · exact ih1 h.2.2.1
      · exact ih2 h.2.2.2
def RT.size : RT → Nat
  | .leaf => 0
  | .node _ _ _ l rr => l.size + rr.size + 1
set_option maxRecDepth 100000 in
set_option maxHeartbeats 4000000 in
theorem findI_any (t : RT) (key : ByteArray) (base : Nat) (w : World) (hT : t.At w base) :
    Calls Tryd.prog 44 #[t.ptr, .string key] w fun e w' => e = .returned (RT.findT key t).ptr ∧ w' = w := by
  have HT := Lib.hid hT
  clear hT
  go_enter Tryd.func44, Tryd.ntmps44
  go_wp2_with fail
  go_loopg [0] t.size (fun g a wr => ∃ s : RT, g = s.size ∧ a = s.ptr ∧ Hid (s.At w base) ∧ Hid (RT.findT key s = RT.findT key t) ∧ w = wr)
  case atStart => exact ⟨t, rfl, rfl, HT, Lib.hid rfl, rfl⟩
  case round =>
    obtain ⟨s, rfl, rfl, HS, HE, rfl⟩ := hrel
    cases s with
    | leaf =>
      have HR : Hid (RT.findT key t = .leaf) := Lib.hid HE.out.symm
      simp only [RT.ptr]
      go_wp2_with fail
      go_ret
      exact ⟨by rw [HR.out]; rfl, rfl⟩
    | node b r ats l rr =>
      have hB := HS.out.1.1
      have c0 := hB.cell 0
      have c2 := hB.cell 2
      have c3 := hB.cell 3
      have HL := Lib.hid HS.out.2.2.1
      have HRR := Lib.hid HS.out.2.2.2
      have hsz : (RT.node b r ats l rr).size = l.size + rr.size + 1 := rfl
      have Hsz := Lib.hid hsz
      clear hB hsz
      simp only [RT.ptr]
      rcases ltB_tri key r.key with hk | hk | hk
      · have k1 : Op.bytesLess key.toList r.key.toList = true := hk
        have k2 : (r.key.toList == key.toList) = false := toList_ne (fun e => ltB_ne hk e.symm : r.key ≠ key)
        have HE2 : Hid (RT.findT key l = RT.findT key t) := Lib.hid (by rw [← HE.out]; conv => rhs; unfold RT.findT; rw [if_neg (fun e => ltB_ne hk e.symm), if_pos hk])
        clear hk
        go_wp2_with fail
        go_roundg l.size
        case measure => rw [Hsz.out]; omega
        case rel => exact ⟨l, rfl, rfl, HL, HE2, rfl⟩
      · have HR : Hid (RT.findT key t = .node b r ats l rr) := Lib.hid (by rw [← HE.out]; unfold RT.findT; rw [if_pos hk.symm])
        subst hk
        have k2 : (r.key.toList != r.key.toList) = false := by simp
        go_wp2_with fail
        go_ret
        exact ⟨by rw [HR.out]; rfl, rfl⟩
      · have k1 : Op.bytesLess key.toList r.key.toList = false := ltB_asymm hk
        have k2 : (r.key.toList == key.toList) = false := toList_ne (ltB_ne hk : r.key ≠ key)
        have HE2 : Hid (RT.findT key rr = RT.findT key t) := Lib.hid (by rw [← HE.out]; conv => rhs; unfold RT.findT; rw [if_neg (ltB_ne hk), if_neg (by rw [ltB_asymm hk]; decide)])
        clear hk
        go_wp2_with fail
        go_roundg rr.size
        case measure => rw [Hsz.out]; omega
        case rel => exact ⟨rr, rfl, rfl, HRR, HE2, rfl⟩
end Go.Proofs.YtnfncnpnkmjjeaaDoor
