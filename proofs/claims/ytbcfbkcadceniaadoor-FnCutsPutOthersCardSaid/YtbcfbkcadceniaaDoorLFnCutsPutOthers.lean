/- The walk of laws.FnCutsPutOthers. -/
import Derived.Test.YtbcfbkcadceniaaDoorSameCu
namespace Go.Proofs.YtbcfbkcadceniaaDoor
set_option linter.unusedVariables false
set_option linter.unusedSimpArgs false
open Go.RowKit

set_option maxRecDepth 100000 in
set_option maxHeartbeats 8000000 in
theorem law_FnCutsPutOthers (A : Option Addr) (n c : Nat) (w : World) (h : Code w A n c) (hg : GE w) :
    Calls Tryd.prog 6 #[.slice A n c] w fun e w' => e = .returned (.bool true) ∧ Below w.heap.size w w' := by
  have hn := h.2.1
  unfold maxLen at hn
  by_cases hbig : (1048576 : Int) < n
  · go_enter Tryd.func6, Tryd.ntmps6
    go_wp2_with fail
    go_ret
    exact ⟨rfl, Below.refl _ _⟩
  have HC := Lib.hid h
  have L0 := (Live.since (Below.refl w.heap.size w)).and (Live.ge hg)
  clear h hg
  go_enter Tryd.func6, Tryd.ntmps6
  go_wp2_with fail
  refine (drawCutsPut_any A n c _ HC.out).mono ?_
  rintro e w1 ⟨Bx, m, d, cs, s, at_, rfl, hrow, HS, hm, hmd, Hnil, hs, hb1⟩
  have hs' : s.size ≤ maxLen := small60 hs
  have L1 := (((L0.next hb1).and (Live.row hrow)).next ((Below.refl _ _).alloc (Nat.le_refl _) (.cells #[.string s, .int .i64 at_] 42))).and (Live.blk (Blk.new w1 42 #[.string s, .int .i64 at_]))
  have a0 := L1.now.2.cell 0
  have a1 := L1.now.2.cell 1
  have Hl := Lib.hid hrow.1
  have FI := Lib.hid (fun W H G => cutsPut_any Bx m d cs s at_ W H HS.out hs' Hnil.out (by omega) G)
  have FS := Lib.hid (fun W H => cutsPutS_any Bx m d cs s at_ W H HS.out hs' (by omega))
  clear hrow hb1 L0
  obtain ⟨⟨ps, ok⟩, hp⟩ : ∃ p, cutsPut cs ⟨s, at_⟩ = p := ⟨_, rfl⟩
  rw [hp] at FI FS
  have Hp := Lib.hid hp
  clear hp
  go_wp2_with fail
  refine (FI.out _ L1.now.1.2 L1.now.1.1.2).mono ?_
  rintro e w2 ⟨Ao, no, co, rfl, hrow2, hnc2, Hn2, hb2⟩
  have L2 := (L1.next hb2).and (Live.row hrow2)
  have a0 := L2.now.1.2.cell 0
  have a1 := L2.now.1.2.cell 1
  have Hno : Hid (ps.length = no) := Lib.hid hrow2.1
  clear hrow2 hb2 L1
  go_wp2_with fail
  refine (FS.out _ L2.now.1.1.2).mono ?_
  rintro e w3 ⟨As, ns, cx, rfl, hrow3, hnc3, Hn3, hb3⟩
  obtain rfl : ns = no := hrow3.1.symm.trans Hno.out
  have L3 := (L2.next hb3).and (Live.row hrow3)
  have a0 := L3.now.1.1.2.cell 0
  have a1 := L3.now.1.1.2.cell 1
  have hn30 : ns ≤ 20 := by
    rw [← Hno.out]
    have h1 := cutsPut_len cs ⟨s, at_⟩
    rw [Hp.out, Hl.out] at h1
    exact Nat.le_trans h1 (by omega)
  have SE := Lib.hid (sameCuts_self Ao As ns co cx ps _ L3.now.1.2 L3.now.2 (by omega))
  clear hrow3 hb3 L2 FI FS
  cases ok with
  | false =>
    go_wp2_with (first
      | (go_at_call 28; (with_reducible refine SE.out.mono ?_); (rintro e w4 ⟨rfl, hb4⟩; have L4 := L3.next hb4; have SE2 := Lib.hid (sameCuts_self Ao As ns co cx ps _ L4.now.1.2 L4.now.2 (by omega))))
      | (go_at_call 28; (with_reducible refine SE2.out.mono ?_); (rintro e w5 ⟨rfl, hb5⟩; have L5 := L4.next hb5)))
    go_ret
    exact ⟨rfl, L5.now.1.1.1.1.1⟩
  | true =>
    obtain ⟨g1, g2, g3, g4⟩ := cutsPut_is Hp.out
    go_wp2_with (go_at_call 28; refine SE.out.mono ?_; rintro e w4 ⟨rfl, hb4⟩)
    have L4 : Live w4 fun W => (((Below w.heap.size w W ∧ GE W) ∧ Row cutCells 2 W W.heap.size Bx m cs) ∧ Blk W w1.heap.size 42 #[.string s, .int .i64 at_]) ∧ Row cutCells 2 W W.heap.size Ao ns ps := (L3.next hb4).imp fun W q => q.1
    clear SE a0 a1 L3 hb4 Hp
    have G1 := Lib.hid g1
    have G2 := Lib.hid g2
    have G3 := Lib.hid g3
    have G4 := Lib.hid g4
    have FI := Lib.hid (fun W H G => cutsPut_any Ao ns co ps s at_ W H (by have := small_putCs (l := cs) (name := s) (at_ := at_) HS.out hs'; rw [← G4.out] at this; exact this) hs' Hn2.out (by omega) G)
    have hag := put_again (l := cs) (c := ⟨s, at_⟩) g3 g2
    rw [← g4] at hag
    rw [hag] at FI
    have hot := other_put (l := cs) (c := ⟨s, at_⟩) g1 g3
    rw [← g4] at hot
    have Hot : Hid (otherCs ps s = otherCs cs s) := Lib.hid hot
    clear g1 g2 g3 g4 hag hot G1 G2 G3 G4
    have hlm : cs.length = m := Hl.out
    have hln : ps.length = ns := Hno.out
    have H1 : Hid (Blk ((w4.alloc (.cells #[] 42)).alloc (.cells #[] 42)) (w4.heap.size + 1) 42 #[]) := Lib.hid (by have := Blk.new (w4.alloc (.cells #[] 42)) 42 #[]; simpa using this)
    go_loopw [9, 11] (fun v i wr => ∃ k : Nat, k ≤ m ∧ i = .int .i64 (k : Int) ∧ wr.ownsRow w4.heap.size 42 2 v (otherCs (cs.take k) s).length ((otherCs (cs.take k) s).flatMap cutCells) ∧ Hid (Below w4.heap.size w4 wr) ∧ Hid (Blk wr (w4.heap.size + 1) 42 #[]) ∧ Hid (v.ownBlock ≠ some (w4.heap.size + 1))) (fun _ i _ => m - (intOf i).toNat)
    case atStart => exact ⟨0, Nat.zero_le _, rfl, (World.ownsRow_lit w4 #[] 0 (Nat.le_refl _) (Nat.zero_le _) rfl).alloc _, Lib.hid (((Below.refl _ _).alloc (Nat.le_refl _) _).alloc (by simp) _), H1, Lib.hid (fun e => by have := Option.some.inj e; simp only at this; omega)⟩
    case round =>
      obtain ⟨k, hk, rfl, hown, HB, HBk, Hne⟩ := hrel
      have HO := Lib.hid hown
      have hLk : (otherCs (cs.take k) s).length ≤ k := Nat.le_trans (List.length_filter_le _ _) (List.length_take_le _ _)
      clear hown
      by_cases hlt : k < m
      · have hlt' : (k : Int) < (m : Int) := by omega
        have hkl : k < cs.length := by omega
        obtain ⟨b, off, rfl, hb, -⟩ := (L4.next HB.out).now.1.1.2.cut_at (by omega)
        have c0 := fun (x : On wr) => ((L4.next (HB.out.trans (x.below.mono HB.out.size))).now.1.1.2.cut_at2 k hlt).1
        have s0 := fun (x : On wr) => (show x.W.cell? ⟨w1.heap.size, 0, none⟩ = some (.string s) from (L4.next (HB.out.trans (x.below.mono HB.out.size))).now.1.2.cell 0)
        have htk := other_take hkl s
        by_cases hn1 : (nx cs k).name = s
        · have e1 : ((nx cs k).name.toList == s.toList) = true := by rw [hn1]; exact beq_self_eq_true _
          rw [if_pos hn1] at htk
          have Htk := Lib.hid htk
          clear hn1 htk
          go_wp2_with fail
          refine wp_region_on (by kernel_rfl) (by kernel_rfl) ?_
          repeat (go_big_quiet_step (fail))
          refine wpQuiet_nil ?_
          intro w5 hw'
          obtain ⟨⟨w5b, hb5⟩, hw''⟩ := hw'
          obtain rfl : w5 = w5b := hw''
          have HB5 := Lib.hid (HB.out.trans (hb5.mono HB.out.size))
          have O5 := Lib.hid (own_next HO.out hb5)
          clear c0 s0
          go_wp2_with fail
          go_roundw
          case rel => exact ⟨k + 1, by omega, by go_num, by rw [Htk.out]; exact O5.out, HB5, Lib.hid (HBk.out.next hb5), Hne⟩
          case measure => simp [intOf]; omega
        · have e1 : ((nx cs k).name.toList == s.toList) = false := toList_ne hn1
          rw [if_neg hn1] at htk
          have Htk := Lib.hid htk
          clear hn1 htk
          go_wp2_with fail
          refine wp_region_on (by kernel_rfl) (by kernel_rfl) ?_
          repeat (go_big_quiet_step (fail))
          refine wpQuiet_nil ?_
          intro w5 hw'
          obtain ⟨⟨w5b, hb5⟩, hw''⟩ := hw'
          obtain rfl : w5 = w5b := hw''
          have HB5 := Lib.hid (HB.out.trans (hb5.mono HB.out.size))
          have O5 := Lib.hid (own_next HO.out hb5)
          have p0 := ((L4.next HB5.out).now.1.1.2.cut_at2 k hlt).1
          have p1 := ((L4.next HB5.out).now.1.1.2.cut_at2 k hlt).2
          clear c0 s0
          go_wp2_with (at_builtin; go_must (refine app_one elemCut w5 rfl _ _ rfl w4.heap.size _ (otherCs (cs.take k) s).length ((otherCs (cs.take k) s).flatMap cutCells) rfl (by exact O5.out) [.string (nx cs k).name, .int .i64 (nx cs k).at_] rfl rfl ?_ ?_ ?_ ?_); (intro u hu; simp at hu; rcases hu with rfl | rfl <;> rfl); (first | omega | (simp only [List.length_append, List.length_cons, List.length_nil]; omega)); exact HB5.out.size; intro v' w9 own9 grow9 or9)
          have HB9 := Lib.hid (own_below' O5.out (Nat.le_refl _) HB5.out HB5.out.size grow9)
          have O9 : Hid (w9.ownsRow w4.heap.size 42 2 v' (otherCs (cs.take (k + 1)) s).length ((otherCs (cs.take (k + 1)) s).flatMap cutCells)) := Lib.hid (by rw [Htk.out, flat_snoc, List.length_append]; exact own9)
          have HBk9 := Lib.hid ((HBk.out.next hb5).grown grow9 (fun e => Hne.out e.symm))
          have hk5 := (HBk.out.next hb5).lt
          have Hne9 : Hid (v'.ownBlock ≠ some (w4.heap.size + 1)) := Lib.hid (by
            rcases or9 with e | e
            · rw [e]; exact Hne.out
            · rw [e]; intro e'; have := Option.some.inj e'; omega)
          clear own9 p0 p1
          go_roundw
          case rel => exact ⟨k + 1, by omega, by go_num, O9.out, HB9, HBk9, Hne9⟩
          case measure => simp [intOf]; omega
      · obtain rfl : k = m := by omega
        have hlt' : ¬ (k : Int) < (k : Int) := by omega
        have e9 : otherCs (cs.take k) s = otherCs cs s := by rw [List.take_of_length_le (by omega)]
        rw [e9] at HO
        obtain ⟨Aa, ca, rfl, hnca, hnila, hrowa, hbasea⟩ := Row.of_own HO.out rfl
        have HRa := Lib.hid hrowa
        have HNa : Hid (∀ p, Aa = some p → p.block ≠ w4.heap.size + 1) := Lib.hid (fun p hp e => Hne.out (by rw [hp]; show some p.block = _; rw [e]))
        have HLa : Hid (∀ p, Aa = some p → p.block < wr.heap.size) := Lib.hid (fun p hp => (HO.out.lt p.block (by rw [hp]; rfl)).2)
        have hwz := HBk.out.lt
        clear hrowa hnila hbasea e9
        have OB0 : Hid (wr.ownsRow w4.heap.size 42 2 (.slice (some ⟨w4.heap.size + 1, 0, none⟩) 0 0) 0 []) := Lib.hid ⟨rfl, .inr ⟨w4.heap.size + 1, 0, #[], rfl, Nat.le_succ _, HBk.out, Nat.zero_le _, Nat.zero_le _, rfl, rfl⟩⟩
        have eps0 : (otherCs (ps.take 0) s) = [] := rfl
        go_wp2_with fail
        go_loopw [10, 12] (fun v i wr => ∃ k : Nat, k ≤ ns ∧ i = .int .i64 (k : Int) ∧ wr.ownsRow w4.heap.size 42 2 v (otherCs (ps.take k) s).length ((otherCs (ps.take k) s).flatMap cutCells) ∧ Hid (Below w4.heap.size w4 wr) ∧ Hid (Row cutCells 2 wr wr.heap.size Aa (otherCs cs s).length (otherCs cs s)) ∧ Hid (∀ p, Aa = some p → v.ownBlock ≠ some p.block ∧ p.block < wr.heap.size)) (fun _ i _ => ns - (intOf i).toNat)
        case atStart => exact ⟨0, Nat.zero_le _, rfl, OB0.out, HB, HRa, Lib.hid (fun p hp => ⟨fun e => HNa.out p hp (Option.some.inj e).symm, HLa.out p hp⟩)⟩
        case round =>
          obtain ⟨k, hk, rfl, hown, HB, HRw, Hnb⟩ := hrel
          have HO := Lib.hid hown
          have hLk : (otherCs (ps.take k) s).length ≤ k := Nat.le_trans (List.length_filter_le _ _) (List.length_take_le _ _)
          clear hown
          by_cases hlt : k < ns
          · have hlt' : (k : Int) < (ns : Int) := by omega
            have hkl : k < ps.length := by omega
            obtain ⟨b, off, rfl, hb, -⟩ := (L4.next HB.out).now.2.cut_at (by omega)
            have c0 := fun (x : On wr) => ((L4.next (HB.out.trans (x.below.mono HB.out.size))).now.2.cut_at2 k hlt).1
            have s0 := fun (x : On wr) => (show x.W.cell? ⟨w1.heap.size, 0, none⟩ = some (.string s) from (L4.next (HB.out.trans (x.below.mono HB.out.size))).now.1.2.cell 0)
            have htk := other_take hkl s
            by_cases hn1 : (nx ps k).name = s
            · have e1 : ((nx ps k).name.toList == s.toList) = true := by rw [hn1]; exact beq_self_eq_true _
              rw [if_pos hn1] at htk
              have Htk := Lib.hid htk
              clear hn1 htk
              go_wp2_with fail
              refine wp_region_on (by kernel_rfl) (by kernel_rfl) ?_
              repeat (go_big_quiet_step (fail))
              refine wpQuiet_nil ?_
              intro w5 hw'
              obtain ⟨⟨w5b, hb5⟩, hw''⟩ := hw'
              obtain rfl : w5 = w5b := hw''
              have HB5 := Lib.hid (HB.out.trans (hb5.mono HB.out.size))
              have O5 := Lib.hid (own_next HO.out hb5)
              clear c0 s0
              go_wp2_with fail
              go_roundw
              case rel => exact ⟨k + 1, by omega, by go_num, by rw [Htk.out]; exact O5.out, HB5, Lib.hid (HRw.out.next hb5), Lib.hid (fun p hp => ⟨(Hnb.out p hp).1, Nat.lt_of_lt_of_le (Hnb.out p hp).2 hb5.size⟩)⟩
              case measure => simp [intOf]; omega
            · have e1 : ((nx ps k).name.toList == s.toList) = false := toList_ne hn1
              rw [if_neg hn1] at htk
              have Htk := Lib.hid htk
              clear hn1 htk
              go_wp2_with fail
              refine wp_region_on (by kernel_rfl) (by kernel_rfl) ?_
              repeat (go_big_quiet_step (fail))
              refine wpQuiet_nil ?_
              intro w5 hw'
              obtain ⟨⟨w5b, hb5⟩, hw''⟩ := hw'
              obtain rfl : w5 = w5b := hw''
              have HB5 := Lib.hid (HB.out.trans (hb5.mono HB.out.size))
              have O5 := Lib.hid (own_next HO.out hb5)
              have p0 := ((L4.next HB5.out).now.2.cut_at2 k hlt).1
              have p1 := ((L4.next HB5.out).now.2.cut_at2 k hlt).2
              clear c0 s0
              go_wp2_with (at_builtin; go_must (refine app_one elemCut w5 rfl _ _ rfl w4.heap.size _ (otherCs (ps.take k) s).length ((otherCs (ps.take k) s).flatMap cutCells) rfl (by exact O5.out) [.string (nx ps k).name, .int .i64 (nx ps k).at_] rfl rfl ?_ ?_ ?_ ?_); (intro u hu; simp at hu; rcases hu with rfl | rfl <;> rfl); (first | omega | (simp only [List.length_append, List.length_cons, List.length_nil]; omega)); exact HB5.out.size; intro v' w9 own9 grow9 or9)
              have HB9 := Lib.hid (own_below' O5.out (Nat.le_refl _) HB5.out HB5.out.size grow9)
              have O9 : Hid (w9.ownsRow w4.heap.size 42 2 v' (otherCs (ps.take (k + 1)) s).length ((otherCs (ps.take (k + 1)) s).flatMap cutCells)) := Lib.hid (by rw [Htk.out, flat_snoc, List.length_append]; exact own9)
              have HRw9 := Lib.hid (((HRw.out.next hb5).grown (Nat.le_refl _) grow9 (fun p hp e => (Hnb.out p hp).1 e)).more grow9.size)
              have Hnb9 : Hid (∀ p, Aa = some p → v'.ownBlock ≠ some p.block ∧ p.block < w9.heap.size) := Lib.hid (fun p hp => by
                have h1 := (Hnb.out p hp).1
                have h2 := (Hnb.out p hp).2
                have h3 := hb5.size
                have h4 := grow9.size
                refine ⟨?_, by omega⟩
                rcases or9 with e | e
                · rw [e]; exact h1
                · rw [e]; intro e'; have := Option.some.inj e'; omega)
              clear own9 p0 p1
              go_roundw
              case rel => exact ⟨k + 1, by omega, by go_num, O9.out, HB9, HRw9, Hnb9⟩
              case measure => simp [intOf]; omega
          · obtain rfl : k = ns := by omega
            have hlt' : ¬ (k : Int) < (k : Int) := by omega
            have e9 : otherCs (ps.take k) s = otherCs cs s := by rw [List.take_of_length_le (by omega)]; exact Hot.out
            rw [e9] at HO
            obtain ⟨Ab, cb, rfl, hncb, hnilb, hrowb, hbaseb⟩ := Row.of_own HO.out rfl
            have hlo : (otherCs cs s).length ≤ 1000000 := Nat.le_trans (List.length_filter_le _ _) (by omega)
            have L5 := ((L4.next HB.out).and (Live.row HRw.out)).and (Live.row hrowb)
            have s0 := L5.now.1.1.1.2.cell 0
            have s1 := L5.now.1.1.1.2.cell 1
            clear hrowb hnilb hbaseb e9
            go_wp2_with fail
            refine (FI.out _ L5.now.1.1.2 L5.now.1.1.1.1.1.2).mono ?_
            rintro e w6 ⟨Ax, nx', cx', rfl, hrowx, hncx, Hnx, hb6⟩
            obtain rfl : nx' = k := hrowx.1.symm.trans hln
            have L6 := (L5.next hb6).and (Live.row hrowx)
            have S1 := Lib.hid (sameCuts_self Aa Ab (otherCs cs s).length ca cb (otherCs cs s) w6 L6.now.1.1.2 L6.now.1.2 hlo)
            clear hrowx hb6
            go_wp2_with (first
              | (go_at_call 28; (with_reducible refine S1.out.mono ?_); (rintro e w7 ⟨rfl, hb7⟩; have L7 := L6.next hb7; have S2 := Lib.hid (sameCuts_self Ax Ao nx' cx' co ps w7 L7.now.2 L7.now.1.1.1.2 (by omega))))
              | (go_at_call 28; (with_reducible refine S2.out.mono ?_); (rintro e w8 ⟨rfl, hb8⟩; have L8 := L7.next hb8)))
            go_ret
            exact ⟨rfl, L8.now.1.1.1.1.1.1.1⟩
end Go.Proofs.YtbcfbkcadceniaaDoor
