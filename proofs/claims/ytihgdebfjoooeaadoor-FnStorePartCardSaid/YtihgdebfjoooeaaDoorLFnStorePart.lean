/- The walk of laws.FnStorePart. -/
import Derived.Test.YtihgdebfjoooeaaDoorDrawSV
import Derived.Test.YtihgdebfjoooeaaDoorSValS
namespace Go.Proofs.YtihgdebfjoooeaaDoor
open Go.RowKit

theorem EnB.small {xs : List En} (h : ∀ x ∈ xs, EnB x) : SmallEns xs := fun x hx => by
  have := h x hx
  unfold maxLen
  exact ⟨by have := this.1; omega, by have := this.2.1; omega⟩

theorem part_yes {xs : List En} (j : Nat) (h : storeOk xs = true) : storeOk (xs.take j ++ xs.drop (j + 1)) = true := by
  obtain ⟨h1, h2, h3⟩ := storeOk_iff.1 h
  have hs : (xs.take j ++ xs.drop (j + 1)).Sublist xs := by
    have e : xs.take j ++ xs.drop j = xs := List.take_append_drop j xs
    have h4 : (xs.drop (j + 1)).Sublist (xs.drop j) := by
      rw [show xs.drop (j + 1) = (xs.drop j).drop 1 by rw [List.drop_drop]]
      exact List.drop_sublist _ _
    have := (List.Sublist.refl (xs.take j)).append h4
    rwa [e] at this
  exact storeOk_iff.2 ⟨Nat.le_trans hs.length_le h1, fun x hx => h2 x (hs.mem hx), h3.sublist hs⟩
theorem part_no {xs : List En} {x : En} (h : x ∈ xs) : storeOk (xs ++ [x]) = false := by
  cases e : storeOk (xs ++ [x]) with
  | false => rfl
  | true =>
    have h3 := (storeOk_iff.1 e).2.2
    rw [List.pairwise_append] at h3
    exact absurd ⟨rfl, rfl⟩ (h3.2.2 x h x (List.mem_singleton.2 rfl))
theorem own_lit_at {w : World} {g base : Nat} {T : TypeId} {size : Nat} (hg : g = w.heap.size) (hb : base ≤ w.heap.size) : (w.alloc (.cells #[] T)).ownsRow base T size (.slice (some ⟨g, 0, none⟩) 0 0) 0 [] := by
  subst hg
  exact World.ownsRow_lit w #[] 0 hb (Nat.zero_le _) (by simp)
theorem sl_blk {w : World} {g size : Nat} {T : TypeId} {cs : List Value} (h : Blk w g T cs.toArray) (hl : cs.length = size) : Sl w w.heap.size size (some ⟨g, 0, none⟩) 1 cs := by
  refine ⟨by rw [hl, Nat.one_mul], fun _ => ⟨g, 0, rfl, h.lt, fun j hj => ?_⟩⟩
  rw [Nat.zero_add, h.cell j]
  simp
theorem sl_new {w : World} {g size : Nat} {T : TypeId} {cs : List Value} (hg : g = w.heap.size) (hl : cs.length = size) : Sl (w.alloc (.cells cs.toArray T)) (w.alloc (.cells cs.toArray T)).heap.size size (some ⟨g, 0, none⟩) 1 cs := by
  subst hg; exact sl_blk (Blk.new w T cs.toArray) hl
theorem le_al (w : World) (o : Obj) : w.heap.size ≤ (w.drew.alloc o).heap.size := by show w.heap.size ≤ (w.drew.alloc o).heap.size; simp
theorem sz_al (w : World) (o : Obj) : w.heap.size + 1 = (w.drew.alloc o).heap.size := by simp
theorem sz_blk {w : World} {g : Nat} {T : TypeId} {cs : Array Value} (hg : g = w.heap.size) : Blk (w.alloc (.cells cs T)) g T cs := by subst hg; exact Blk.new w T cs
theorem en_one (name : ByteArray) (id : Int) (kind : ByteArray) (data : Int) : ∀ u ∈ [Value.string name, .int .i64 id, .string kind, .int .i64 data], u.oneCell' = true := by
  intro u hu
  simp only [List.mem_cons, List.not_mem_nil, or_false] at hu
  rcases hu with rfl | rfl | rfl | rfl <;> rfl
theorem grow_new {W w w4 : World} {g n c : Nat} (hW : Below W.heap.size W w) (hg : w.grownBy w4 (Value.slice (some ⟨g, 0, none⟩) n c).ownBlock) (hgb : W.heap.size ≤ g) : Below W.heap.size W w4 :=
  hW.grown hg hW.size (fun k hk => by injection hk with e; rw [← e]; exact hgb)
theorem blk_gr {w w4 : World} {g h n c : Nat} {T : TypeId} {cs : Array Value} (hB : Blk w h T cs) (hg : w.grownBy w4 (Value.slice (some ⟨g, 0, none⟩) n c).ownBlock) (hne : h ≠ g) : Blk w4 h T cs :=
  hB.grown hg (fun e => hne (Option.some.inj e))
theorem below_own (w : World) {w4 : World} {n c : Nat} {o : Obj} (hg : (w.drew.alloc o).grownBy w4 (Value.slice (some ⟨w.heap.size, 0, none⟩) n c).ownBlock) : Below w.heap.size w w4 :=
  (((Below.refl w.heap.size w).drew).alloc (Nat.le_refl _) o).grown hg (by show w.heap.size ≤ (w.drew.alloc o).heap.size; simp) (fun k hk => by injection hk with e; rw [← e]; exact Nat.le_refl _)
set_option maxRecDepth 100000 in
set_option maxHeartbeats 8000000 in
theorem law_FnStorePart (A : Option Addr) (n c : Nat) (A' : Option Addr) (n' c' : Nat) (w : World) (h : Code w A n c) (h' : Code w A' n' c') (hg : GE w) :
    Calls Tryd.prog 4 #[.slice A n c, .slice A' n' c'] w fun e w' => e = .returned (.bool true) ∧ Below w.heap.size w w' := by
  have hn := h.2.1
  have hn' := h'.2.1
  unfold maxLen at hn hn'
  by_cases hbig : (1048576 : Int) < n
  · go_enter Tryd.func4, Tryd.ntmps4
    go_wp2_with fail
    go_ret
    exact ⟨rfl, Below.refl _ _⟩
  by_cases hbig' : (1048576 : Int) < n'
  · go_enter Tryd.func4, Tryd.ntmps4
    go_wp2_with fail
    go_ret
    exact ⟨rfl, Below.refl _ _⟩
  have h1 := Lib.hid h
  clear h h'
  have hd : decide ((1048576 : Int) < n) = false := decide_eq_false hbig
  have hd' : decide ((1048576 : Int) < n') = false := decide_eq_false hbig'
  go_enter Tryd.func4, Tryd.ntmps4
  go_wp2_with fail
  refine (drawStoreValid_any A n c _ h1.out).mono ?_
  rintro e w1 ⟨Ax, k, cx, xs, rfl, hrow, HB, hk, hkc, Hnil, hb1⟩
  have HR1 := Lib.hid hrow
  have G1 := Lib.hid (hg.below hb1)
  have Hb1 := Lib.hid hb1
  have Hsm := Lib.hid (EnB.small HB.out)
  clear hrow hb1 hg
  go_wp2_with fail
  refine (storeValid_any Ax k cx xs _ HR1.out Hsm.out (by omega) G1.out).mono ?_
  rintro e w2 ⟨rfl, hb2⟩
  have HR2 := Lib.hid (HR1.out.next hb2)
  have G2 := Lib.hid (G1.out.below hb2)
  have Hb2 := Lib.hid (bt Hb1.out hb2)
  clear hb2
  go_wp2_with fail
  refine (storeValidS_any Ax k cx xs _ HR2.out Hsm.out (by omega)).mono ?_
  rintro e w3 ⟨rfl, hb3⟩
  have HR3 := Lib.hid (HR2.out.next hb3)
  have G3 := Lib.hid (G2.out.below hb3)
  have Hb3 := Lib.hid (bt Hb2.out hb3)
  clear hb3
  cases hok : storeOk xs with
  | false =>
    go_wp2_with fail
    go_ret
    exact ⟨rfl, Hb3.out⟩
  | true =>
    by_cases hk0 : k = 0
    · subst hk0
      go_wp2_with fail
      go_ret
      exact ⟨rfl, Hb3.out⟩
    · have hk1 : ((k : Int) == 0) = false := beq_eq_false_iff_ne.2 (by omega)
      have hk2 : (0 : Int) < k := by omega
      have hm : (n' : Int).tmod (k : Int) = ((n' % k : Nat) : Int) := by rw [Int.tmod_eq_emod_of_nonneg (by omega)]; rfl
      have hmk : n' % k < k := Nat.mod_lt _ (by omega)
      obtain ⟨b, off, rfl, hb, hx⟩ := HR3.out.at_ enCells_len (by omega)
      go_wp2_with fail
      obtain ⟨j, hj⟩ : ∃ j : Nat, (n' : Int) % (k : Int) = (j : Int) := ⟨n' % k, rfl⟩
      have hjk : j < k := by omega
      rw [hj]
      clear hj hm hmk hd hd' hbig hbig'
      have Hx := Lib.hid hx
      clear hx
      have hj1 : (0 : Int) ≤ (j : Int) := by omega
      have hj2 : (j : Int) ≤ (cx : Int) := by omega
      have hj3 : (j : Int) + 1 ≤ (k : Int) := by omega
      have hj4 : (0 : Int) ≤ (j : Int) + 1 := by omega
      have Hrow := HR3.out
      have Hcut1 := Lib.hid (Hrow.cut (cap := cx) enCells_len 0 j (by omega) (by omega) hkc)
      have Hcut2 := Lib.hid (Hrow.cut (cap := cx) enCells_len (j + 1) k (by omega) (by omega) hkc)
      clear Hrow
      have c1 : (List.take (j - 0) (List.drop 0 xs)) = xs.take j := by simp
      have e1 : (if cx = 0 then some (⟨b, off, none⟩ : Addr) else (some ⟨b, off, none⟩ : Option Addr).map (·.add (0 * 4))) = some ⟨b, off, none⟩ := by split <;> simp [Addr.add]
      have S1 := Hcut1.out.2
      rw [c1, e1] at S1
      have HS1 := Lib.hid S1
      have c2 : (List.take (k - (j + 1)) (List.drop (j + 1) xs)) = xs.drop (j + 1) := by rw [List.take_of_length_le]; rw [List.length_drop, HR3.out.1]; exact Nat.le_refl _
      have S2 := Hcut2.out.2
      rw [c2] at S2
      have Hnz := Lib.hid (show (if cx = j + 1 then some (⟨b, off, none⟩ : Addr) else (some ⟨b, off, none⟩ : Option Addr).map (·.add ((j + 1) * 4))) ≠ none by split <;> simp)
      have HS2 := Lib.hid S2
      clear S1 S2 c1 c2 e1 Hcut1 Hcut2
      obtain ⟨off2, hif, HS3⟩ : ∃ off2, (if cx = j + 1 then some (⟨b, off, none⟩ : Addr) else some ⟨b, off + (j + 1) * 4, none⟩) = some ⟨b, off2, none⟩ ∧ Hid (Sl w3 w3.heap.size 4 (some ⟨b, off2, none⟩) (k - (j + 1)) ((xs.drop (j + 1)).flatMap enCells)) := by
        have S3 := HS2.out
        by_cases hcj : cx = j + 1
        · rw [if_pos hcj] at S3 ⊢
          exact ⟨off, rfl, Lib.hid S3⟩
        · rw [if_neg hcj] at S3 ⊢
          have e3 : (some (⟨b, off, none⟩ : Addr)).map (·.add ((j + 1) * 4)) = some ⟨b, off + (j + 1) * 4, none⟩ := by simp [Addr.add]
          rw [e3] at S3
          exact ⟨_, rfl, Lib.hid S3⟩
      · skip
        have hw1 : IntKind.i64.wrap ((j : Int) + 1) = (j : Int) + 1 := IntWalk.i64_in _ (by omega)
        have hw2 : ((j : Int) + 1).toNat = j + 1 := by omega
        go_region_law (first
          | (refine app_src_step elemEn _ ?_ (.tmp 45) (.tmp 48) ?_ w3.heap.size _ 0 [] ?_ (World.ownsRow_lit w3.drew #[] 0 (Nat.le_refl _) (Nat.zero_le _) rfl) (some ⟨b, off, none⟩) j cx w3.heap.size ((xs.take j).flatMap enCells) ?_ ?_ ?_ (ens_one _) ?_ ?_ ?_ ?_; rfl; rfl; rfl; rfl; (intro e; cases e); exact HS1.out.below ((Below.refl _ _).drew.alloc (Nat.le_refl _) _); omega; omega; (show w3.heap.size ≤ (w3.drew.alloc _).heap.size; simp); intro v4 w4 own4 grow4 or4)
          | (refine app_src_step elemEn w4 ?_ (.tmp 49) (.tmp 53) ?_ w3.heap.size v4 (0 + j) ([] ++ (xs.take j).flatMap enCells) ?_ own4 (some ⟨b, off2, none⟩) (k - (j + 1)) (cx - (j + 1)) w3.heap.size ((xs.drop (j + 1)).flatMap enCells) ?_ ?_ ?_ (ens_one _) ?_ ?_ ?_ ?_; rfl; rfl; rfl; rfl; (intro e; cases e); exact HS3.out.below (below_own w3 grow4); omega; omega; (exact Nat.le_trans (show w3.heap.size ≤ (w3.drew.alloc _).heap.size by simp) grow4.size); intro v5 w5 own5 grow5 or5))
        all_goals
          clear hif hw1 hw2 hj1 hj2 hj3 hj4
          have hb5 : Below w3.heap.size w3 w5 := own_below' own4 (Nat.le_refl _) (below_own w3 grow4) (below_own w3 grow4).size grow5
          have own5' : w5.ownsRow w3.heap.size 36 4 v5 (k - 1) ((xs.take j ++ xs.drop (j + 1)).flatMap enCells) := by
            rw [List.flatMap_append, show k - 1 = 0 + j + (k - (j + 1)) by omega]
            simpa using own5
          obtain ⟨A5, c5, rfl, hc5, hn5, hr5, _⟩ := Row.of_own own5' (by rw [List.length_append, List.length_take, List.length_drop, HR3.out.1]; omega)
          have HR5 := Lib.hid hr5
          have Hn5 := Lib.hid hn5
          have Hb5 := Lib.hid (bt Hb3.out hb5)
          have HRx := Lib.hid (HR3.out.next hb5)
          have G5 := Lib.hid (G3.out.below hb5)
          have hb' : b < w5.heap.size := by have := hb5.size; omega
          have hke : xs[j]? = some (nx xs j) := nx_get (by rw [HR3.out.1]; omega)
          obtain ⟨⟨name, id, kind, data⟩, he⟩ : ∃ e, nx xs j = e := ⟨_, rfl⟩
          rw [he] at hke
          have Hcell : Hid (∀ wz : World, Below w5.heap.size w5 wz → wz.cell? ⟨b, off + j * 4, none⟩ = some (.string name) ∧ wz.cell? ⟨b, off + j * 4 + 1, none⟩ = some (.int .i64 id) ∧ wz.cell? ⟨b, off + j * 4 + 2, none⟩ = some (.string kind) ∧ wz.cell? ⟨b, off + j * 4 + 3, none⟩ = some (.int .i64 data)) := Lib.hid fun wz hz =>
            have hz' : Below w3.heap.size w3 wz := hb5.trans (hz.mono hb5.size)
            ⟨(hz'.cell (p := ⟨b, off + (j * 4 + 0), none⟩) hb).trans (Hx.out j _ hke 0 _ rfl), (hz'.cell (p := ⟨b, off + (j * 4 + 1), none⟩) hb).trans (Hx.out j _ hke 1 _ rfl),
              (hz'.cell (p := ⟨b, off + (j * 4 + 2), none⟩) hb).trans (Hx.out j _ hke 2 _ rfl), (hz'.cell (p := ⟨b, off + (j * 4 + 3), none⟩) hb).trans (Hx.out j _ hke 3 _ rfl)⟩
          have Hke := Lib.hid hke
          have He := Lib.hid he
          obtain ⟨p0, p1, p2, p3⟩ := Hcell.out w5 (Below.refl _ _)
          have q0 := fun o => (Hcell.out (w5.alloc o) ((Below.refl _ _).alloc (Nat.le_refl _) _)).1
          have q1 := fun o => (Hcell.out (w5.alloc o) ((Below.refl _ _).alloc (Nat.le_refl _) _)).2.1
          have q2 := fun o => (Hcell.out (w5.alloc o) ((Below.refl _ _).alloc (Nat.le_refl _) _)).2.2.1
          have q3 := fun o => (Hcell.out (w5.alloc o) ((Below.refl _ _).alloc (Nat.le_refl _) _)).2.2.2
          have Hxn := Lib.hid (show k - 1 + 1 = k by omega)
          have HSx := Lib.hid HRx.out.2
          clear own4 own5 own5' grow4 grow5 or4 or5 hke he hb5 hr5 hn5
          have hjk' : (j : Int) < (k : Int) := by omega
          go_wp2_with fail
          go_region_law (first
            | (refine app_src_step elemEn _ ?_ (.tmp 55) (.tmp 56) ?_ w5.heap.size (.slice (some ⟨w5.heap.size, 0, none⟩) 0 0) 0 [] ?_ (own_lit_at (w := w5.drew) rfl (Nat.le_refl _)) (some ⟨b, off, none⟩) k cx w5.heap.size (xs.flatMap enCells) ?_ ?_ ?_ (ens_one _) ?_ ?_ ?_ ?_; rfl; rfl; rfl; rfl; (intro e; cases e); exact HSx.out.below ((Below.refl w5.heap.size w5).drew.alloc (Nat.le_refl _) (.cells #[] 36)); omega; omega; (exact (((Below.refl w5.heap.size w5).drew.alloc (Nat.le_refl _) (.cells #[] 36))).size); intro v6 w6 own6 grow6 or6; have hb6 := grow_new ((Below.refl w5.heap.size w5).drew.alloc (Nat.le_refl _) (.cells #[] 36)) grow6 (Nat.le_refl _); obtain ⟨r0, r1, r2, r3⟩ := Hcell.out w6 hb6)
            | (refine app_src_step elemEn _ ?_ (.tmp 55) (.tmp 56) ?_ w5.heap.size (.slice (some ⟨w5.heap.size, 0, none⟩) 0 0) 0 [] ?_ ((own_lit_at (w := w5.drew) rfl (Nat.le_refl _)).alloc (.cells #[.string name, .int .i64 id, .string kind, .int .i64 data] 36)) (some ⟨b, off, none⟩) k cx w5.heap.size (xs.flatMap enCells) ?_ ?_ ?_ (ens_one _) ?_ ?_ ?_ ?_; rfl; rfl; rfl; rfl; (intro e; cases e); exact HSx.out.below (((Below.refl w5.heap.size w5).drew.alloc (Nat.le_refl _) (.cells #[] 36)).alloc (le_al _ _) (.cells #[.string name, .int .i64 id, .string kind, .int .i64 data] 36)); omega; omega; (exact ((((Below.refl w5.heap.size w5).drew.alloc (Nat.le_refl _) (.cells #[] 36)).alloc (le_al _ _) (.cells #[.string name, .int .i64 id, .string kind, .int .i64 data] 36))).size); intro v6 w6 own6 grow6 or6; have hb6 := grow_new (((Below.refl w5.heap.size w5).drew.alloc (Nat.le_refl _) (.cells #[] 36)).alloc (le_al _ _) (.cells #[.string name, .int .i64 id, .string kind, .int .i64 data] 36)) grow6 (Nat.le_refl _); obtain ⟨r0, r1, r2, r3⟩ := Hcell.out w6 hb6; have bx6 := blk_gr (sz_blk (w := w5.drew.alloc (.cells #[] 36)) (g := w5.heap.size + 1) (sz_al _ _)) grow6 (Nat.succ_ne_self _))
            | (refine app_src_step elemEn _ ?_ (.tmp 55) (.tmp 56) ?_ w5.heap.size (.slice (some ⟨w5.heap.size + 1, 0, none⟩) 0 0) 0 [] ?_ (own_lit_at (w := w5.drew.alloc (.cells #[.string name, .int .i64 id, .string kind, .int .i64 data] 36)) (sz_al _ _) (le_al _ _)) (some ⟨b, off, none⟩) k cx w5.heap.size (xs.flatMap enCells) ?_ ?_ ?_ (ens_one _) ?_ ?_ ?_ ?_; rfl; rfl; rfl; rfl; (intro e; cases e); exact HSx.out.below (((Below.refl w5.heap.size w5).drew.alloc (Nat.le_refl _) (.cells #[.string name, .int .i64 id, .string kind, .int .i64 data] 36)).alloc (le_al _ _) (.cells #[] 36)); omega; omega; (exact ((((Below.refl w5.heap.size w5).drew.alloc (Nat.le_refl _) (.cells #[.string name, .int .i64 id, .string kind, .int .i64 data] 36)).alloc (le_al _ _) (.cells #[] 36))).size); intro v6 w6 own6 grow6 or6; have hb6 := grow_new (((Below.refl w5.heap.size w5).drew.alloc (Nat.le_refl _) (.cells #[.string name, .int .i64 id, .string kind, .int .i64 data] 36)).alloc (le_al _ _) (.cells #[] 36)) grow6 (Nat.le_succ _); obtain ⟨r0, r1, r2, r3⟩ := Hcell.out w6 hb6; have bx6 := blk_gr ((Blk.new w5.drew 36 #[.string name, .int .i64 id, .string kind, .int .i64 data]).alloc (.cells #[] 36)) grow6 (fun e => absurd e (Nat.ne_of_lt (Nat.lt_succ_self _))))
            | (refine app_src_step elemEn _ ?_ (.tmp 57) (.tmp 62) ?_ w5.heap.size v6 (0 + k) ([] ++ xs.flatMap enCells) ?_ (own6.alloc (.cells #[.string name, .int .i64 id, .string kind, .int .i64 data] 36)) (some ⟨w6.heap.size, 0, none⟩) 1 1 _ [.string name, .int .i64 id, .string kind, .int .i64 data] ?_ ?_ (sl_new (w := w6) rfl rfl) (en_one _ _ _ _) ?_ ?_ ?_ ?_; rfl; rfl; rfl; rfl; (intro e; cases e); omega; omega; (exact Nat.le_trans hb6.size (le_al _ _)); intro v7 w7 own7 grow7 or7; have hb7 := own_below' (own6.alloc (.cells #[.string name, .int .i64 id, .string kind, .int .i64 data] 36)) (Nat.le_refl _) (hb6.alloc hb6.size _) (Nat.le_trans hb6.size (le_al _ _)) grow7)
            | (refine app_src_step elemEn w6 ?_ (.tmp 57) (.tmp 62) ?_ w5.heap.size v6 (0 + k) ([] ++ xs.flatMap enCells) ?_ own6 (some ⟨_, 0, none⟩) 1 1 _ [.string name, .int .i64 id, .string kind, .int .i64 data] ?_ ?_ (sl_blk bx6 rfl) (en_one _ _ _ _) ?_ ?_ ?_ ?_; rfl; rfl; rfl; rfl; (intro e; cases e); omega; omega; (exact hb6.size); intro v7 w7 own7 grow7 or7; have hb7 := own_below' own6 (Nat.le_refl _) hb6 hb6.size grow7))
          all_goals
            have own7' : w7.ownsRow w5.heap.size 36 4 v7 (k + 1) ((xs ++ [(⟨name, ⟨id, kind, data⟩⟩ : En)]).flatMap enCells) := by
              rw [List.flatMap_append]
              simpa [enCells] using own7
            obtain ⟨A7, c7, rfl, hc7, hn7, hr7, _⟩ := Row.of_own own7' (by rw [List.length_append, HR3.out.1]; rfl)
            have HR7 := Lib.hid hr7
            have HRx7 := Lib.hid (HR5.out.next hb7)
            have Hb7 := Lib.hid (bt Hb5.out hb7)
            have G7 := Lib.hid (G5.out.below hb7)
            have Hy := Lib.hid (part_yes j hok)
            have Hn := Lib.hid (part_no (xs := xs) (x := ⟨name, ⟨id, kind, data⟩⟩) (List.mem_of_getElem? Hke.out))
            have Hs1 : Hid (SmallEns (xs.take j ++ xs.drop (j + 1))) := Lib.hid fun x hx => by
              rcases List.mem_append.1 hx with h | h
              · exact Hsm.out x (List.mem_of_mem_take h)
              · exact Hsm.out x (List.mem_of_mem_drop h)
            have Hs2 : Hid (SmallEns (xs ++ [(⟨name, ⟨id, kind, data⟩⟩ : En)])) := Lib.hid fun x hx => by
              rcases List.mem_append.1 hx with h | h
              · exact Hsm.out x h
              · rw [List.mem_singleton] at h; rw [h]; exact Hsm.out _ (List.mem_of_getElem? Hke.out)
            have V1 := Lib.hid (storeValid_any A5 (k - 1) c5 _ _ HRx7.out Hs1.out (by omega) G7.out)
            rw [Hy.out] at V1
            clear own7 own7' hb7 grow7 or7 hb6 own6 grow6 or6 hr7 hn7 p0 p1 p2 p3 q0 q1 q2 q3
            go_wp2_with fail
            refine V1.out.mono ?_
            rintro e w8 ⟨rfl, hb8⟩
            have V2 := Lib.hid (storeValid_any A7 (k + 1) c7 _ _ (HR7.out.next hb8) Hs2.out (by omega) (G7.out.below hb8))
            rw [Hn.out] at V2
            go_wp2_with fail
            refine V2.out.mono ?_
            rintro e w9 ⟨rfl, hb9⟩
            go_wp2_with fail
            go_ret
            exact ⟨rfl, bt (bt Hb7.out hb8) hb9⟩
end Go.Proofs.YtihgdebfjoooeaaDoor
