/- Rows that are valid are told so: the program's. -/
import Derived.Test.YtnfncnpnkmjjeaaDoorKRep
import Derived.Test.YtnfncnpnkmjjeaaDoorWord
import Derived.Deep.DeepCutAuto
import Derived.Test.YtnfncnpnkmjjeaaDoorOnQ
namespace Go.Proofs.YtnfncnpnkmjjeaaDoor
set_option linter.unusedVariables false
set_option linter.unusedSimpArgs false
open Go.RowKit

theorem kword_small {s : ByteArray} (h : wordOk s.data.toList = true) : s.size ≤ maxLen := by
  unfold wordOk at h
  rw [Bool.and_eq_true, Bool.and_eq_true, decide_eq_true_eq, decide_eq_true_eq] at h
  have := h.1.2
  rw [str_len] at this
  unfold maxLen
  omega
def Vis (ks : List KRow) (i j p : Nat) : Prop := (∃ a, a < i ∧ ∃ r, ks[a]? = some r ∧ p ∈ r.ats) ∨ ∃ r, ks[i]? = some r ∧ p ∈ r.ats.take j
def Uses (w : World) (U : Nat) (ks : List KRow) (i j : Nat) : Prop := ∃ cur : Array Value, Blk w U 74 cur ∧ cur.size = 100 ∧ ∀ p, p < 100 → ∃ v : Int, cur[p]? = some (.int .i64 v) ∧ (¬ Vis ks i j p → v = 0)
theorem Uses.next {w w' : World} {U i j : Nat} {ks : List KRow} (h : Uses w U ks i j) (hb : Below w.heap.size w w') : Uses w' U ks i j := by
  obtain ⟨cur, h1, h2⟩ := h
  exact ⟨cur, h1.next hb, h2⟩
theorem Uses.lt {w : World} {U i j : Nat} {ks : List KRow} (h : Uses w U ks i j) : U < w.heap.size := by
  obtain ⟨cur, h1, h2⟩ := h
  exact h1.lt
theorem Uses.step {w : World} {U i j p : Nat} {ks : List KRow} {r : KRow} (h : Uses w U ks i j) (hr : ks[i]? = some r) (hp : r.ats[j]? = some p) (hp9 : p < 100) : Uses (w.setCell ⟨U, p, none⟩ (.int .i64 1)) U ks i (j + 1) := by
  obtain ⟨cur, h1, h2, h3⟩ := h
  have hj := (List.getElem?_eq_some_iff.1 hp).1
  have htk : r.ats.take (j + 1) = r.ats.take j ++ [p] := by
    rw [List.take_succ_eq_append_getElem hj]; rw [(List.getElem?_eq_some_iff.1 hp).2]
  refine ⟨_, h1.set_ p _, by simpa using h2, fun q hq => ?_⟩
  by_cases e : q = p
  · subst e
    refine ⟨1, by rw [Array.getElem?_setIfInBounds]; simp; omega, fun hn => absurd (.inr ⟨r, hr, by rw [htk]; simp⟩) hn⟩
  · obtain ⟨v, h4, h5⟩ := h3 q hq
    refine ⟨v, by rw [Array.getElem?_setIfInBounds_ne (by omega)]; exact h4, fun hn => h5 fun hv => hn ?_⟩
    rcases hv with hv | ⟨r', hr', hv⟩
    · exact .inl hv
    · refine .inr ⟨r', hr', ?_⟩
      rw [hr] at hr'; obtain rfl := Option.some.inj hr'
      rw [htk]; exact List.mem_append_left _ hv
theorem Uses.done {w : World} {U i : Nat} {ks : List KRow} {r : KRow} (h : Uses w U ks i r.ats.length) (hr : ks[i]? = some r) : Uses w U ks (i + 1) 0 := by
  obtain ⟨cur, h1, h2, h3⟩ := h
  refine ⟨cur, h1, h2, fun q hq => ?_⟩
  obtain ⟨v, h4, h5⟩ := h3 q hq
  refine ⟨v, h4, fun hn => h5 fun hv => hn (.inl ?_)⟩
  rcases hv with ⟨a, ha, k⟩ | ⟨r', hr', hv⟩
  · exact ⟨a, by omega, k⟩
  · exact ⟨i, by omega, r', hr', List.mem_of_mem_take hv⟩
theorem Uses.start {w : World} {U i : Nat} {ks : List KRow} (h : Uses w U ks i 0) : Uses w U ks i 0 := h
theorem not_vis {ks : List KRow} (h : KOk ks) {i j p : Nat} {r : KRow} (hr : ks[i]? = some r) (hp : r.ats[j]? = some p) : ¬ Vis ks i j p := by
  have hrm := List.mem_of_getElem? hr
  have hpm := List.mem_of_getElem? hp
  rintro (⟨a, ha, r', hr', hp'⟩ | ⟨r', hr', hp'⟩)
  · have hk := h.once r' (List.mem_of_getElem? hr') r hrm p hp' hpm
    obtain ⟨h1, h2⟩ := List.getElem?_eq_some_iff.1 hr
    obtain ⟨h3, h4⟩ := List.getElem?_eq_some_iff.1 hr'
    have := List.pairwise_iff_getElem.1 h.sorted a i h3 h1 ha
    rw [h2, h4] at this
    exact ltB_ne this hk
  · rw [hr] at hr'; obtain rfl := Option.some.inj hr'
    obtain ⟨q, hq, e⟩ := List.mem_iff_getElem.1 hp'
    rw [List.length_take] at hq
    rw [List.getElem_take] at e
    obtain ⟨h1, h2⟩ := List.getElem?_eq_some_iff.1 hp
    have := List.pairwise_iff_getElem.1 (h.asc r hrm) q j (by omega) h1 (by omega)
    omega
theorem zeros_is : Tryd.zeroCells74.toList = List.replicate 100 (.int .i64 0) := by kernel_rfl
theorem uses_new (w : World) (ks : List KRow) : Uses (w.alloc (.cells Tryd.zeroCells74 74)) w.heap.size ks 0 0 := by
  have e : Tryd.zeroCells74 = (List.replicate 100 (Value.int .i64 0)).toArray := by rw [← zeros_is]
  rw [e]
  refine ⟨_, Blk.new w _ _, by rw [List.size_toArray, List.length_replicate], fun p hp => ⟨0, by rw [List.getElem?_toArray, List.getElem?_replicate, if_pos hp], fun _ => rfl⟩⟩
set_option maxRecDepth 100000 in
set_option maxHeartbeats 8000000 in
theorem indexValid_any (A : Option Addr) (n c : Nat) (ks : List KRow) (w : World) (h : Kinds w A n ks) (hok : KOk ks) (hnb : n ≤ 100000) (hsb : ∀ x ∈ ks, x.ats.length ≤ 100000) :
    Calls Tryd.prog 17 #[.slice A n c] w fun e w' => e = .returned (.bool true) ∧ Below w.heap.size w w' := by
  have Hlen := Lib.hid h.len
  have HK := Lib.hid h
  have HO := Lib.hid hok
  have HS := Lib.hid hsb
  clear h hok hsb
  go_enter Tryd.func17, Tryd.ntmps17
  have U0 := Lib.hid (uses_new w ks)
  have B0 := Lib.hid (show Below w.heap.size w (w.alloc (.cells Tryd.zeroCells74 74)) from (Below.refl _ _).alloc (Nat.le_refl _) _)
  go_wp2_with fail
  go_loopw [11] (fun i wr => ∃ k : Nat, k ≤ n ∧ i = .int .i64 (k : Int) ∧ Hid (Below w.heap.size w wr) ∧ Hid (Uses wr w.heap.size ks k 0)) (fun i _ => n - (intOf i).toNat)
  case atStart => exact ⟨0, Nat.zero_le _, rfl, B0, U0⟩
  case round =>
    obtain ⟨k, hk, rfl, HB, HU⟩ := hrel
    have hUlt := HU.out.lt
    by_cases hlt : k < n
    · have hlt' : (k : Int) < (n : Int) := by omega
      obtain ⟨b, off, rfl, hb, hat⟩ := HK.out.at_ (by omega)
      obtain ⟨r, hr⟩ : ∃ r, ks[k]? = some r := ⟨_, List.getElem?_eq_getElem (by rw [Hlen.out]; exact hlt)⟩
      obtain ⟨A', n', c', q0, q1, hc', hnil, hrow⟩ := hat k r hr
      obtain rfl : n' = r.ats.length := hrow.1.symm
      have hbr : b < wr.heap.size := Nat.lt_of_lt_of_le hb HB.out.size
      have c0 := (HB.out.cell (p := ⟨b, off + k * 2, none⟩) hb).trans q0
      have c1 := (HB.out.cell (p := ⟨b, off + k * 2 + 1, none⟩) hb).trans q1
      have hrm := List.mem_of_getElem? hr
      have hword := HO.out.key r hrm
      have hne : r.ats ≠ [] := HO.out.some_ r hrm
      have hn0 : 0 < r.ats.length := List.length_pos_iff.2 hne
      have hnl := HS.out r hrm
      have e0 : ((r.ats.length : Int) == 0) = false := beq_eq_false_iff_ne.2 (by omega)
      have e00 : ¬ (r.ats.length : Int) = 0 := by omega
      have HR := Lib.hid hr
      have HRow := Lib.hid hrow
      have LB := (Live.blk (Blk.new wr 40 #[.string r.key, .slice A' r.ats.length c']))
      have b0 := fun (x : On (wr.alloc (.cells #[.string r.key, .slice A' r.ats.length c'] 40))) => (show x.W.cell? ⟨wr.heap.size, 0, none⟩ = some (.string r.key) from (LB.next x.below).now.cell 0)
      have b1 := fun (x : On (wr.alloc (.cells #[.string r.key, .slice A' r.ats.length c'] 40))) => (show x.W.cell? ⟨wr.heap.size, 1, none⟩ = some (.slice A' r.ats.length c') from (LB.next x.below).now.cell 1)
      have WV := Lib.hid (fun (x : On (wr.alloc (.cells #[.string r.key, .slice A' r.ats.length c'] 40))) => wordValid_any r.key x.W (kword_small hword))
      rw [hword] at WV
      have BB := Lib.hid (HB.out.alloc HB.out.size (.cells #[.string r.key, .slice A' r.ats.length c'] 40))
      have UU := Lib.hid (HU.out.next ((Below.refl wr.heap.size wr).alloc (Nat.le_refl _) (.cells #[.string r.key, .slice A' r.ats.length c'] 40)))
      clear hr hrow hrm hword hne hnil q0 q1
      go_upto_region 5 with fail
      go_cut [40] (fun s40 wx => s40 = .bool false ∧ Below (wr.alloc (.cells #[.string r.key, .slice A' r.ats.length c'] 40)).heap.size (wr.alloc (.cells #[.string r.key, .slice A' r.ats.length c'] 40)) wx)
      case first =>
        by_cases hk0 : k = 0
        · subst hk0
          simp only [Nat.zero_mul, Nat.add_zero] at c0 c1
          clear hat
          refine wp_region_on (by kernel_rfl) (by kernel_rfl) ?_
          repeat (go_big_quiet_step ((go_at_call 41; exact On.same (WV.out _))))
          refine wpQuiet_nil ?_
          intro _ hw'
          obtain ⟨⟨w2, hb2⟩, hw''⟩ := hw'
          subst hw''
          go_wp2_with fail
          go_meet
          case rel => exact ⟨rfl, hb2⟩
        · obtain ⟨m, rfl⟩ : ∃ m, k = m + 1 := ⟨k - 1, by omega⟩
          obtain ⟨s, hs⟩ : ∃ s, ks[m]? = some s := ⟨_, List.getElem?_eq_getElem (by rw [Hlen.out]; omega)⟩
          obtain ⟨_, _, _, p0, -⟩ := hat m s hs
          have pw := (World.cell?_alloc_lt wr (.cells #[.string r.key, .slice A' r.ats.length c'] 40) hbr (a := ⟨b, off + m * 2, none⟩)).trans ((HB.out.cell (p := ⟨b, off + m * 2, none⟩) hb).trans p0)
          have hbr1 : b < (wr.alloc (.cells #[.string r.key, .slice A' r.ats.length c'] 40)).heap.size := by simp; omega
          have d0 := fun (x : On (wr.alloc (.cells #[.string r.key, .slice A' r.ats.length c'] 40))) => (show x.W.cell? ⟨b, off + m * 2, none⟩ = some (.string s.key) from (x.below.cell (p := ⟨b, off + m * 2, none⟩) hbr1).trans pw)
          have hsr : ltB s.key r.key = true := by
            obtain ⟨h1, h2⟩ := List.getElem?_eq_some_iff.1 HR.out
            obtain ⟨h3, h4⟩ := List.getElem?_eq_some_iff.1 hs
            have := List.pairwise_iff_getElem.1 HO.out.sorted m (m + 1) h3 h1 (by omega)
            rwa [h2, h4] at this
          have e1 : Op.bytesLess r.key.toList s.key.toList = false := ltB_asymm hsr
          have e2 : (r.key.toList == s.key.toList) = false := toList_ne (fun e => ltB_ne hsr e.symm)
          have hi1 : ((m + 1 : Nat) : Int) - 1 = (m : Int) := by omega
          have hg1 : decide (((m + 1 : Nat) : Int) > 0) = true := decide_eq_true (by omega)
          have hmi : (m : Int) < (n : Int) := by omega
          have hm0 : (0 : Int) ≤ (m : Int) := by omega
          clear hat p0 pw hs hsr hk0
          refine wp_region_on (by kernel_rfl) (by kernel_rfl) ?_
          repeat (go_big_quiet_step ((go_at_call 41; exact On.same (WV.out _))))
          refine wpQuiet_nil ?_
          intro _ hw'
          obtain ⟨⟨w2, hb2⟩, hw''⟩ := hw'
          subst hw''
          go_wp2_with fail
          go_meet
          case rel => exact ⟨rfl, hb2⟩
      case rest =>
        obtain ⟨rfl, hbc⟩ := hcut
        have LC := LB.next hbc
        have d0 := LC.now.cell 1
        have UC := Lib.hid (UU.out.next hbc)
        have BC := Lib.hid (BB.out.trans (hbc.mono BB.out.size))
        have Hfew := Lib.hid (fun y hy => HO.out.few r (List.mem_of_getElem? HR.out) y hy)
        have Hasc := Lib.hid (HO.out.asc r (List.mem_of_getElem? HR.out))
        clear b0 b1 WV BB UU LB hbc hat
        go_wp2_with fail
        go_loopw [6, 44] (fun l j wi => ∃ (q : Nat) (L : Int), q ≤ r.ats.length ∧ j = .int .i64 (q : Int) ∧ l = .int .i64 L ∧ Hid (∀ y ∈ r.ats.drop q, L < (y : Int)) ∧ Hid (Below w.heap.size w wi) ∧ Hid (Uses wi w.heap.size ks k q)) (fun _ j _ => r.ats.length - (intOf j).toNat)
        case atStart => exact ⟨0, -1, Nat.zero_le _, rfl, rfl, Lib.hid (fun y _ => by omega), BC, UC⟩
        case round =>
          obtain ⟨q, L, hq, rfl, rfl, HL, HB2, HU2⟩ := hrel
          by_cases hql : q < r.ats.length
          · have hql' : (q : Int) < (r.ats.length : Int) := by omega
            obtain ⟨b2, off2, rfl, hb2, hx2⟩ := HRow.out.int_at hn0
            obtain ⟨y, hy⟩ : ∃ y, r.ats[q]? = some y := ⟨_, List.getElem?_eq_getElem hql⟩
            have y0 := (HB2.out.cell (p := ⟨b2, off2 + q, none⟩) hb2).trans (hx2 q y hy)
            have hym := List.mem_of_getElem? hy
            have hy9 := Hfew.out y hym
            have hLy := HL.out y (by
              rw [List.drop_eq_getElem_cons hql]
              obtain ⟨h1, h2⟩ := List.getElem?_eq_some_iff.1 hy
              rw [← h2]; exact List.mem_cons_self)
            obtain ⟨cur, hB, hs, hv⟩ := HU2.out
            obtain ⟨v, hv1, hv2⟩ := hv y (by omega)
            obtain rfl := hv2 (not_vis HO.out HR.out hy)
            have u0 := hB.cell y
            rw [hv1] at u0
            have u1 := hB.frozen y
            have US := Lib.hid (HU2.out.step HR.out hy (by omega))
            have BS := Lib.hid (HB2.out.setCell (p := ⟨w.heap.size, y, none⟩) (Nat.le_refl _) (.int .i64 1))
            have HL2 : Hid (∀ z ∈ r.ats.drop (q + 1), (y : Int) < (z : Int)) := Lib.hid (fun z hz => by
              obtain ⟨i, hi, e⟩ := List.mem_iff_getElem.1 hz
              rw [List.length_drop] at hi
              rw [List.getElem_drop] at e
              obtain ⟨h1, h2⟩ := List.getElem?_eq_some_iff.1 hy
              have := List.pairwise_iff_getElem.1 Hasc.out q (q + 1 + i) hql (by omega) (by omega)
              rw [e, h2] at this
              omega)
            have l1 : ¬ (y : Int) ≤ L := by omega
            have l2 : ¬ (99 : Int) < (y : Int) := by omega
            have l3 : (y : Int) < 100 := by omega
            have l4 : (0 : Int) ≤ (y : Int) := by omega
            clear hx2 hy hym hLy hB hv hv1 hv2 HU2
            go_wp2_with fail
            go_roundw
            case rel => exact ⟨q + 1, (y : Int), by omega, by go_num, rfl, HL2, BS, US⟩
            case measure => simp [intOf]; omega
          · obtain rfl : q = r.ats.length := by omega
            have hql' : ¬ (r.ats.length : Int) < (r.ats.length : Int) := by omega
            have UD := Lib.hid (HU2.out.done HR.out)
            go_wp2_with fail
            go_roundw
            case rel => exact ⟨k + 1, by omega, by go_num, HB2, UD⟩
            case measure => simp [intOf]; omega
    · obtain rfl : k = n := by omega
      have hlt' : ¬ (k : Int) < (k : Int) := by omega
      go_wp2_with fail
      go_ret
      exact ⟨rfl, HB.out⟩
end Go.Proofs.YtnfncnpnkmjjeaaDoor
