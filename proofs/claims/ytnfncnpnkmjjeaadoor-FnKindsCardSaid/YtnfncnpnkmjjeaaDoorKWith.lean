/- A place put among a tree's rows: the program's. -/
import Derived.Test.YtnfncnpnkmjjeaaDoorKRep
namespace Go.Proofs.YtnfncnpnkmjjeaaDoor
set_option linter.unusedVariables false
set_option linter.unusedSimpArgs false
open Go.RowKit

def WithRet (t : RT) (x : KRow) (base : Nat) (w : World) (e : Ending) (w' : World) : Prop :=
  ∃ t' : RT, e = .returned t'.ptr ∧ t'.At w' base ∧ t'.fp.Nodup ∧ (∀ g ∈ t'.fp, g ∈ t.fp ∨ w.heap.size ≤ g) ∧ t'.rows = putK t.rows x ∧ Kept (· ∈ t.fp) w w'
theorem RT.ptr_is (t : RT) : ∃ o, t.ptr = .pointer o := by cases t <;> exact ⟨_, rfl⟩
theorem own_is {w : World} {base size n : Nat} {e : TypeId} {v : Value} {xs : List Value} (h : w.ownsRow base e size v n xs) : ∃ A c, v = .slice A n c := by
  rcases h.2 with ⟨rfl, rfl⟩ | ⟨g, cap, cur, rfl, _⟩ <;> exact ⟨_, _, rfl⟩
theorem rows_lt {l rr : RT} {b : Nat} {r : RV} {ats : List Nat} (h : SortedK (RT.node b r ats l rr).rows) : SortedK l.rows ∧ SortedK rr.rows ∧ ∀ y ∈ l.rows, ltB y.key r.key = true := by
  have h' : (l.rows ++ (⟨r.key, ats⟩ : KRow) :: rr.rows).Pairwise (fun a b => ltB a.key b.key = true) := h
  obtain ⟨h1, h2, h3⟩ := List.pairwise_append.1 h'
  exact ⟨h1, (List.pairwise_cons.1 h2).2, fun y hy => h3 y hy ⟨r.key, ats⟩ (by simp)⟩
theorem nodup_parts {b : Nat} {o l m : List Nat} (h : (b :: (o ++ (l ++ m))).Nodup) : l.Nodup ∧ m.Nodup ∧ (b ∉ o ∧ b ∉ l ∧ b ∉ m) ∧ (∀ g ∈ o, g ∉ l ∧ g ∉ m) ∧ (∀ g ∈ l, g ∉ m) ∧ o.Nodup := by
  obtain ⟨h1, h2⟩ := List.nodup_cons.1 h
  obtain ⟨h3, h4, h5⟩ := List.nodup_append.1 h2
  obtain ⟨h6, h7, h8⟩ := List.nodup_append.1 h4
  simp only [List.mem_append, not_or] at h1
  exact ⟨h6, h7, ⟨h1.1, h1.2.1, h1.2.2⟩, fun g hg => ⟨fun k => h5 g hg g (by simp [k]) rfl, fun k => h5 g hg g (by simp [k]) rfl⟩, fun g hg k => h8 g hg g k rfl, h3⟩
theorem parts_nodup {b : Nat} {o l m : List Nat} (ho : o.Nodup) (hl : l.Nodup) (hm : m.Nodup) (hb : b ∉ o ∧ b ∉ l ∧ b ∉ m) (h1 : ∀ g ∈ o, g ∉ l ∧ g ∉ m) (h2 : ∀ g ∈ l, g ∉ m) : (b :: (o ++ (l ++ m))).Nodup := by
  refine List.nodup_cons.2 ⟨by simp [hb.1, hb.2.1, hb.2.2], List.nodup_append.2 ⟨ho, List.nodup_append.2 ⟨hl, hm, fun a ha b hb e => h2 a ha (e ▸ hb)⟩, fun a ha b hb e => ?_⟩⟩
  subst e
  rcases List.mem_append.1 hb with k | k
  · exact (h1 _ ha).1 k
  · exact (h1 _ ha).2 k
/-- the left subtree was put anew. -/
theorem with_left {b : Nat} {r : RV} {ats : List Nat} {l rr l' : RT} {x : KRow} {base : Nat} {w w1 : World} (hT : (RT.node b r ats l rr).At w base) (hn : (RT.node b r ats l rr).fp.Nodup) (hx : ltB x.key r.key = true)
    (h1 : l'.At w1 base) (h2 : l'.fp.Nodup) (h3 : ∀ g ∈ l'.fp, g ∈ l.fp ∨ w.heap.size ≤ g) (h4 : l'.rows = putK l.rows x) (h5 : Kept (· ∈ l.fp) w w1) :
    WithRet (RT.node b r ats l rr) x base w (.returned (.pointer (some ⟨b, 0, none⟩))) (w1.setCell ⟨b, 2, none⟩ l'.ptr) := by
  have hlt := RT.fp_lt hT
  obtain ⟨⟨hB, hb⟩, ⟨hO, hO'⟩, hl, hr⟩ := hT
  obtain ⟨n1, n2, n3, n4, n5, n6⟩ := nodup_parts hn
  have hbw := hB.lt
  have ho : ∀ g ∈ RT.ownB r, g < w.heap.size := fun g hg => (hlt g (by simp [RT.fp, hg])).2
  have hrf : ∀ g ∈ rr.fp, g < w.heap.size := fun g hg => (hlt g (by simp [RT.fp, hg])).2
  have hne : ∀ g ∈ l'.fp, g ≠ b := fun g hg e => by
    rcases h3 g hg with k | k
    · exact n3.2.1 (e ▸ k)
    · omega
  have K2 : Kept (fun g => g = b) w1 (w1.setCell ⟨b, 2, none⟩ l'.ptr) := Kept.set_ _ _ _ rfl
  refine ⟨RT.node b r ats l' rr, rfl, ⟨⟨?_, hb⟩, ⟨own_kept (own_kept hO h5 ?_) K2 ?_, hO'⟩, h1.kept K2 hne, (hr.kept h5 ?_).kept K2 ?_⟩, ?_, ?_, ?_, ?_⟩
  · exact (hB.kept h5 n3.2.1).set_ 2 _
  · intro g hg; exact (n4 g (by simp [RT.ownB, RV.sl, hg])).1
  · intro g hg e; exact n3.1 (e ▸ (by simp [RT.ownB, RV.sl, hg]))
  · intro g hg k; exact n5 g k hg
  · intro g hg e; exact n3.2.2 (e ▸ hg)
  · refine parts_nodup n6 h2 n2 ⟨n3.1, fun k => hne b k rfl, n3.2.2⟩ (fun g hg => ⟨fun k => ?_, (n4 g hg).2⟩) (fun g hg k => ?_)
    · rcases h3 g k with q | q
      · exact (n4 g hg).1 q
      · have := ho g hg; omega
    · rcases h3 g hg with q | q
      · exact n5 g q k
      · have := hrf g k; omega
  · intro g hg
    simp only [RT.fp, List.mem_cons, List.mem_append] at hg ⊢
    rcases hg with k | k | k | k
    · exact .inl (.inl k)
    · exact .inl (.inr (.inl k))
    · rcases h3 g k with q | q
      · exact .inl (.inr (.inr (.inl q)))
      · exact .inr q
    · exact .inl (.inr (.inr (.inr k)))
  · show l'.rows ++ _ = putK (l.rows ++ _) x
    rw [putK_app _ _ hx, h4]
  · exact (h5.imp fun i _ k => by simp [RT.fp, k]).trans (K2.imp fun i _ k => by simp [RT.fp, k])
/-- the right subtree was put anew. -/
theorem with_right {b : Nat} {r : RV} {ats : List Nat} {l rr l' : RT} {x : KRow} {base : Nat} {w w1 : World} (hT : (RT.node b r ats l rr).At w base) (hn : (RT.node b r ats l rr).fp.Nodup) (hs : SortedK (RT.node b r ats l rr).rows) (hx : ltB r.key x.key = true)
    (h1 : l'.At w1 base) (h2 : l'.fp.Nodup) (h3 : ∀ g ∈ l'.fp, g ∈ rr.fp ∨ w.heap.size ≤ g) (h4 : l'.rows = putK rr.rows x) (h5 : Kept (· ∈ rr.fp) w w1) :
    WithRet (RT.node b r ats l rr) x base w (.returned (.pointer (some ⟨b, 0, none⟩))) (w1.setCell ⟨b, 3, none⟩ l'.ptr) := by
  have hlt := RT.fp_lt hT
  obtain ⟨⟨hB, hb⟩, ⟨hO, hO'⟩, hl, hr⟩ := hT
  obtain ⟨n1, n2, n3, n4, n5, n6⟩ := nodup_parts hn
  have hbw := hB.lt
  have ho : ∀ g ∈ RT.ownB r, g < w.heap.size := fun g hg => (hlt g (by simp [RT.fp, hg])).2
  have hrf : ∀ g ∈ l.fp, g < w.heap.size := fun g hg => (hlt g (by simp [RT.fp, hg])).2
  have hne : ∀ g ∈ l'.fp, g ≠ b := fun g hg e => by
    rcases h3 g hg with k | k
    · exact n3.2.2 (e ▸ k)
    · omega
  have K2 : Kept (fun g => g = b) w1 (w1.setCell ⟨b, 3, none⟩ l'.ptr) := Kept.set_ _ _ _ rfl
  refine ⟨RT.node b r ats l l', rfl, ⟨⟨?_, hb⟩, ⟨own_kept (own_kept hO h5 ?_) K2 ?_, hO'⟩, (hl.kept h5 ?_).kept K2 ?_, h1.kept K2 hne⟩, ?_, ?_, ?_, ?_⟩
  · exact (hB.kept h5 n3.2.2).set_ 3 _
  · intro g hg; exact (n4 g (by simp [RT.ownB, RV.sl, hg])).2
  · intro g hg e; exact n3.1 (e ▸ (by simp [RT.ownB, RV.sl, hg]))
  · intro g hg k; exact n5 g hg k
  · intro g hg e; exact n3.2.1 (e ▸ hg)
  · refine parts_nodup n6 n1 h2 ⟨n3.1, n3.2.1, fun k => hne b k rfl⟩ (fun g hg => ⟨(n4 g hg).1, fun k => ?_⟩) (fun g hg k => ?_)
    · rcases h3 g k with q | q
      · exact (n4 g hg).2 q
      · have := ho g hg; omega
    · rcases h3 g k with q | q
      · exact n5 g hg q
      · have := hrf g hg; omega
  · intro g hg
    simp only [RT.fp, List.mem_cons, List.mem_append] at hg ⊢
    rcases hg with k | k | k | k
    · exact .inl (.inl k)
    · exact .inl (.inr (.inl k))
    · exact .inl (.inr (.inr (.inl k)))
    · rcases h3 g k with q | q
      · exact .inl (.inr (.inr (.inr q)))
      · exact .inr q
  · show l.rows ++ _ = putK (l.rows ++ _) x
    have hl' := (rows_lt hs).2.2
    rw [putK_lt _ (fun y hy => ltB_trans (hl' y hy) hx), putK_lt1 _ hx, h4]
  · exact (h5.imp fun i _ k => by simp [RT.fp, k]).trans (K2.imp fun i _ k => by simp [RT.fp, k])
/-- the row itself was made longer. -/
theorem with_here {b p : Nat} {r : RV} {ats : List Nat} {l rr : RT} {base : Nat} {w w1 : World} {v : Value} (hT : (RT.node b r ats l rr).At w base) (hn : (RT.node b r ats l rr).fp.Nodup) (hs : SortedK (RT.node b r ats l rr).rows)
    (h1 : w1.ownsRow base 3 1 v (r.n + 1) (ats.flatMap intCells ++ [.int .i64 (p : Int)])) (h2 : Kept (fun g => r.sl.ownBlock = some g) w w1) (h3 : v.ownBlock = r.sl.ownBlock ∨ ∃ g, v.ownBlock = some g ∧ w.heap.size ≤ g) :
    WithRet (RT.node b r ats l rr) ⟨r.key, [p]⟩ base w (.returned (.pointer (some ⟨b, 0, none⟩))) (w1.setCell ⟨b, 1, none⟩ v) := by
  have hlt := RT.fp_lt hT
  obtain ⟨⟨hB, hb⟩, ⟨hO, hO'⟩, hl, hr⟩ := hT
  obtain ⟨n1, n2, n3, n4, n5, n6⟩ := nodup_parts hn
  have hbw := hB.lt
  have hlf : ∀ g ∈ l.fp, g < w.heap.size := fun g hg => (hlt g (by simp [RT.fp, hg])).2
  have hrf : ∀ g ∈ rr.fp, g < w.heap.size := fun g hg => (hlt g (by simp [RT.fp, hg])).2
  obtain ⟨A', c', rfl⟩ : ∃ A c, v = .slice A (r.n + 1) c := by 
    rcases h1.2 with ⟨_, h⟩ | ⟨g, cap, cur, rfl, _⟩
    · omega
    · exact ⟨_, _, rfl⟩
  have hv : ∀ g ∈ RT.ownB ⟨r.key, A', r.n + 1, c'⟩, g ∈ RT.ownB r ∨ w.heap.size ≤ g := fun g hg => by
    have hg' : (Value.slice A' (r.n + 1) c').ownBlock = some g := by simpa [RT.ownB, RV.sl] using hg
    rcases h3 with k | ⟨q, k, hq⟩
    · left; rw [k] at hg'; simpa [RT.ownB] using hg'
    · right; rw [k] at hg'; injection hg' with e; omega
  have hne : ∀ g ∈ RT.ownB ⟨r.key, A', r.n + 1, c'⟩, g ≠ b := fun g hg e => by
    rcases hv g hg with k | k
    · exact n3.1 (e ▸ k)
    · omega
  have own_in : ∀ g, r.sl.ownBlock = some g → g ∈ RT.ownB r := fun g hg => by simp [RT.ownB, hg]
  have K2 : Kept (fun g => g = b) w1 (w1.setCell ⟨b, 1, none⟩ (.slice A' (r.n + 1) c')) := Kept.set_ _ _ _ rfl
  refine ⟨RT.node b ⟨r.key, A', r.n + 1, c'⟩ (ats ++ [p]) l rr, rfl, ⟨⟨?_, hb⟩, ⟨own_kept ?_ K2 ?_, ?_⟩, (hl.kept h2 ?_).kept K2 ?_, (hr.kept h2 ?_).kept K2 ?_⟩, ?_, ?_, ?_, ?_⟩
  · exact (hB.kept h2 (fun k => n3.1 (own_in _ k))).set_ 1 _
  · rw [flatN_snoc]; exact h1
  · intro g hg; exact hne g (by simpa [RT.ownB, RV.sl] using hg)
  · simp [hO']
  · intro g hg k; exact (n4 g (own_in _ k)).1 hg
  · intro g hg e; exact n3.2.1 (e ▸ hg)
  · intro g hg k; exact (n4 g (own_in _ k)).2 hg
  · intro g hg e; exact n3.2.2 (e ▸ hg)
  · refine parts_nodup ?_ n1 n2 ⟨fun k => hne b k rfl, n3.2.1, n3.2.2⟩ (fun g hg => ?_) n5
    · unfold RT.ownB; cases (RV.sl ⟨r.key, A', r.n + 1, c'⟩).ownBlock <;> simp
    · rcases hv g hg with k | k
      · exact n4 g k
      · exact ⟨fun q => by have := hlf g q; omega, fun q => by have := hrf g q; omega⟩
  · intro g hg
    simp only [RT.fp, List.mem_cons, List.mem_append] at hg ⊢
    rcases hg with k | k | k | k
    · exact .inl (.inl k)
    · rcases hv g k with q | q
      · exact .inl (.inr (.inl q))
      · exact .inr q
    · exact .inl (.inr (.inr (.inl k)))
    · exact .inl (.inr (.inr (.inr k)))
  · show l.rows ++ _ = putK (l.rows ++ _) _
    have hl' := (rows_lt hs).2.2
    rw [putK_lt _ (fun y hy => hl' y hy), putK_same (x := ⟨r.key, ats⟩) (t := ⟨r.key, [p]⟩) _ rfl]
    rfl
  · exact (h2.imp fun i _ k => by simp [RT.fp, own_in _ k]).trans (K2.imp fun i _ k => by simp [RT.fp, k])
theorem with_leaf {key : ByteArray} {p base : Nat} {w : World} (hb : base ≤ w.heap.size) :
    WithRet .leaf ⟨key, [p]⟩ base w (.returned (.pointer (some ⟨w.heap.size + 1, 0, none⟩))) ((w.alloc (.cells #[.int .i64 (p : Int)] 3)).alloc (.cells #[.string key, .slice (some ⟨w.heap.size, 0, none⟩) 1 1, .pointer none, .pointer none] 98)) := by
  have O1 := World.ownsRow_lit (base := base) (e := 3) (size := 1) w #[.int .i64 (p : Int)] 1 hb (by unfold maxLen; omega) rfl
  have B1 := Blk.new (w.alloc (.cells #[.int .i64 (p : Int)] 3)) 98 #[.string key, .slice (some ⟨w.heap.size, 0, none⟩) 1 1, .pointer none, .pointer none]
  have e1 : (w.alloc (.cells #[.int .i64 (p : Int)] 3)).heap.size = w.heap.size + 1 := by simp
  rw [e1] at B1
  refine ⟨.node (w.heap.size + 1) ⟨key, some ⟨w.heap.size, 0, none⟩, 1, 1⟩ [p] .leaf .leaf, rfl, ⟨⟨B1, by omega⟩, ⟨O1.alloc _, rfl⟩, trivial, trivial⟩, ?_, ?_, rfl, (Kept.alloc _ _).trans (Kept.alloc _ _)⟩
  · simp [RT.fp, RT.ownB, RV.sl, Value.ownBlock]
  · intro g hg
    right
    simp [RT.fp, RT.ownB, RV.sl, Value.ownBlock] at hg
    omega
theorem WithRet.of {t : RT} {x : KRow} {base : Nat} {w w' : World} {e e' : Ending} (h : WithRet t x base w e w') (he : e = e') : WithRet t x base w e' w' := he ▸ h
set_option maxRecDepth 100000 in
set_option maxHeartbeats 4000000 in
theorem with_any (t : RT) : ∀ (key : ByteArray) (p base : Nat) (w : World), t.At w base → base ≤ w.heap.size → t.fp.Nodup → SortedK t.rows → (∀ x ∈ t.rows, x.ats.length ≤ 1000000) →
    Calls Tryd.prog 36 #[t.ptr, .string key, .int .i64 (p : Int)] w (WithRet t ⟨key, [p]⟩ base w) := by
  induction t with
  | leaf =>
    intro key p base w _ hb _ _ _
    have Hr := Lib.hid (with_leaf (key := key) (p := p) hb)
    show Calls _ _ #[.pointer none, .string key, .int .i64 (p : Int)] w _
    go_enter Tryd.func36, Tryd.ntmps36
    go_wp2_with fail
    go_ret
    exact Hr.out
  | node b r ats l rr ih1 ih2 =>
    intro key p base w hT hbw hn hs hsm
    have HT := Lib.hid hT
    have HN := Lib.hid hn
    have HS := Lib.hid hs
    obtain ⟨⟨hB, hb⟩, ⟨hO, hO'⟩, hl, hr⟩ := hT
    have hparts := nodup_parts hn
    have hls := rows_lt hs
    have hrs : ∀ x ∈ l.rows, x.ats.length ≤ 1000000 := fun x hx => hsm x (List.mem_append_left _ hx)
    have hrs2 : ∀ x ∈ rr.rows, x.ats.length ≤ 1000000 := fun x hx => hsm x (List.mem_append_right _ (List.mem_cons_of_mem _ hx))
    have hrn : r.n ≤ 1000000 := by have := hsm ⟨r.key, ats⟩ (List.mem_append_right _ List.mem_cons_self); rw [← hO']; exact this
    have c0 := hB.cell 0
    have c1 := hB.cell 1
    have c2 := hB.cell 2
    have c3 := hB.cell 3
    have f1 := hB.frozen 1
    have HB := Lib.hid hB
    have HO := Lib.hid hO
    have I1 := Lib.hid (ih1 key p base w hl hbw hparts.1 hls.1 hrs)
    have I2 := Lib.hid (ih2 key p base w hr hbw hparts.2.1 hls.2.1 hrs2)
    have HP := Lib.hid hparts.2.2.1
    have hbz := hB.lt
    clear ih1 ih2 hB hb hO hO' hl hr hparts hls hrs hrs2 hsm hn hs
    show Calls _ _ #[.pointer (some ⟨b, 0, none⟩), .string key, .int .i64 (p : Int)] w _
    rcases ltB_tri key r.key with hk | hk | hk
    · have HK := Lib.hid hk
      have k1 : Op.bytesLess key.toList r.key.toList = true := hk
      clear hk
      go_enter Tryd.func36, Tryd.ntmps36
      go_wp2_with (go_at_call 36; (with_reducible refine I1.out.mono ?_); (rintro e w1 ⟨l', he, q1, q2, q3, q4, q5⟩; have hR := with_left HT.out HN.out HK.out q1 q2 q3 q4 q5; obtain ⟨o', ho⟩ := RT.ptr_is l'; rw [ho] at he hR; subst he; have HR := Lib.hid hR; clear hR ho; have B1 := HB.out.kept q5 HP.out.2.1; have d2 := B1.cell 2; have e2 := B1.frozen 2; clear q1 q2 q3 q4 q5 B1))
      go_ret
      exact HR.out
    · subst hk
      have k1 : Op.bytesLess r.key.toList r.key.toList = false := ltB_irrefl r.key
      have k2 : (r.key.toList == r.key.toList) = true := beq_self_eq_true _
      have OL := Lib.hid (HO.out.alloc (.cells #[.int .i64 (p : Int)] 3))
      have SL := Lib.hid (show base ≤ (w.alloc (.cells #[.int .i64 (p : Int)] 3)).heap.size by simp; omega)
      go_enter Tryd.func36, Tryd.ntmps36
      go_wp2_with (at_builtin; go_must (refine app_one elemInt w rfl _ _ rfl base _ r.n (ats.flatMap intCells) rfl (by exact HO.out) [.int .i64 (p : Int)] rfl rfl ?_ ?_ ?_ ?_); (intro u hu; simp at hu; rw [hu]; rfl); omega; omega; intro v w1 own1 grow1 or1; obtain ⟨A', c', rfl⟩ := own_is own1; have K1 : Kept (fun g => r.sl.ownBlock = some g) w w1 := Kept.of_grown grow1 (fun g hg => .inl hg); have hR := with_here HT.out HN.out HS.out own1 K1 (or1.imp id fun e => ⟨_, e, by omega⟩); have B1 := HB.out.kept K1 (fun k => HP.out.1 (by simp [RT.ownB, k])); have d1 := B1.cell 1; have e1 := B1.frozen 1; have HR := Lib.hid hR; clear hR own1 grow1 or1 K1 B1)
      go_ret
      exact HR.out
    · have HK := Lib.hid hk
      have k1 : Op.bytesLess r.key.toList key.toList = true := hk
      have k2 : Op.bytesLess key.toList r.key.toList = false := ltB_asymm hk
      have k3 : (key.toList == r.key.toList) = false := toList_ne (fun e => ltB_ne hk e.symm)
      clear hk
      go_enter Tryd.func36, Tryd.ntmps36
      go_wp2_with (go_at_call 36; (with_reducible refine I2.out.mono ?_); (rintro e w1 ⟨l', he, q1, q2, q3, q4, q5⟩; have hR := with_right HT.out HN.out HS.out HK.out q1 q2 q3 q4 q5; obtain ⟨o', ho⟩ := RT.ptr_is l'; rw [ho] at he hR; subst he; have HR := Lib.hid hR; clear hR ho; have B1 := HB.out.kept q5 HP.out.2.2; have d2 := B1.cell 3; have e2 := B1.frozen 3; clear q1 q2 q3 q4 q5 B1))
      go_ret
      exact HR.out
end Go.Proofs.YtnfncnpnkmjjeaaDoor
