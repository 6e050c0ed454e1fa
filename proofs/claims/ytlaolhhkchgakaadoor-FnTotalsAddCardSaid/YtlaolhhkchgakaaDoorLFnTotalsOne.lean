/- The walk of laws.FnTotalsOne. -/
import Derived.Test.YtlaolhhkchgakaaDoorTotA
import Derived.Test.YtlaolhhkchgakaaDoorSameTo
import Derived.Test.YtlaolhhkchgakaaDoorDrawTo
namespace Go.Proofs.YtlaolhhkchgakaaDoor
set_option linter.unusedVariables false
set_option linter.unusedSimpArgs false
open Go.RowKit

theorem en_row {W : World} {x : En} : Row enCells 4 (W.alloc (.cells #[.string x.name, .int .i64 x.ev.id, .string x.ev.kind, .int .i64 x.ev.data] 35)) (W.alloc (.cells #[.string x.name, .int .i64 x.ev.id, .string x.ev.kind, .int .i64 x.ev.data] 35)).heap.size (some ⟨W.heap.size, 0, none⟩) 1 [x] := by
  refine ⟨rfl, rfl, fun _ => ⟨W.heap.size, 0, rfl, by simp, fun j hj => ?_⟩⟩
  have hj3 : j < 4 := by simpa [enCells] using hj
  have B := Blk.new W 35 #[.string x.name, .int .i64 x.ev.id, .string x.ev.kind, .int .i64 x.ev.data]
  have hc := B.cell (0 + j)
  rw [hc]
  obtain rfl | rfl | rfl | rfl : j = 0 ∨ j = 1 ∨ j = 2 ∨ j = 3 := by omega
  all_goals rfl
theorem storeOk_one {x : En} (h : enOk x = true) : storeOk [x] = true := by
  unfold storeOk
  rw [Bool.and_eq_true, decide_eq_true_eq]
  refine ⟨by simp, allB_yes fun i hi => ?_⟩
  obtain rfl : i = 0 := by simpa using hi
  rw [Bool.and_eq_true]
  exact ⟨h, allB_yes fun k hk => absurd hk (by omega)⟩
theorem totsOf_one {x : En} (h : enOk x = true) : totsOf [x] = [totOf x] := by
  rw [totsOf_yes (storeOk_one h)]
  rfl
theorem totsAdd_ok {ts : List Tot} {x : En} {zs : List Tot} (h : totsAdd ts x = (zs, true)) : totsOk ts = true ∧ enOk x = true ∧ zs = putT ts (totOf x) ∧ totsOk zs = true ∧ joinOne ts (totOf x) = (zs, true) := by
  unfold totsAdd at h
  split at h
  · rename_i h1
    rw [Bool.and_eq_true] at h1
    have h0 := h
    unfold joinOne at h
    split at h
    · rename_i h2
      injection h with h3 _
      exact ⟨h1.1, h1.2, h3.symm, by rw [← h3]; exact h2, h0⟩
    · cases h
  · cases h
theorem totsAdd_len (ts : List Tot) (x : En) : (totsAdd ts x).1.length ≤ ts.length + 1 := by
  unfold totsAdd joinOne
  split
  · split
    · exact (putT_len ts (totOf x)).2
    · exact Nat.zero_le _
  · exact Nat.zero_le _
set_option maxRecDepth 100000 in
set_option maxHeartbeats 8000000 in
theorem law_FnTotalsOne (A : Option Addr) (n c : Nat) (w : World) (h : Code w A n c) (hg : GE w) :
    Calls Tryd.prog 9 #[.slice A n c] w fun e w' => e = .returned (.bool true) ∧ Below w.heap.size w w' := by
  have hn := h.2.1
  unfold maxLen at hn
  by_cases hbig : (1048576 : Int) < n
  · go_enter Tryd.func9, Tryd.ntmps9
    go_wp2_with fail
    go_ret
    exact ⟨rfl, Below.refl _ _⟩
  have HC := Lib.hid h
  have L0 := (Live.since (Below.refl w.heap.size w)).and (Live.ge hg)
  clear h hg
  go_enter Tryd.func9, Tryd.ntmps9
  go_wp2_with fail
  refine (drawTotalsAdd_any A n c _ HC.out).mono ?_
  rintro e w1 ⟨Ax, k, cx, ts, name, id, kind, data, rfl, hrow, HTS, HEN, hk, hkc, Hnil, hb1⟩
  have L1 := (((L0.next hb1).and (Live.row hrow)).next ((Below.refl _ _).alloc (Nat.le_refl _) (.cells #[.string name, .int .i64 id, .string kind, .int .i64 data] 35))).and (Live.blk (Blk.new w1 35 #[.string name, .int .i64 id, .string kind, .int .i64 data]))
  have a0 := L1.now.2.cell 0
  have a1 := L1.now.2.cell 1
  have a2 := L1.now.2.cell 2
  have a3 := L1.now.2.cell 3
  have Hl := Lib.hid hrow.1
  have FI := Lib.hid (fun W H G => totsAdd_any Ax k cx ts name kind id data W H HTS.out.small (small60 HEN.out.1) (small60 HEN.out.2.1) (by omega) hkc Hnil.out G)
  have FS := Lib.hid (fun W H => totsAddS_any Ax k cx ts name kind id data W H HTS.out.small (small60 HEN.out.1) (small60 HEN.out.2.1) (by omega))
  have hlen := totsAdd_len ts ⟨name, ⟨id, kind, data⟩⟩
  have hok0 := @totsAdd_ok ts ⟨name, ⟨id, kind, data⟩⟩
  obtain ⟨⟨zs, ok⟩, hp⟩ : ∃ p, totsAdd ts ⟨name, ⟨id, kind, data⟩⟩ = p := ⟨_, rfl⟩
  rw [hp] at FI FS hlen
  have HP := Lib.hid hp
  have Hok := Lib.hid (fun (e : ok = true) => hok0 (zs := zs) (by rw [hp, e]))
  have hzl : zs.length ≤ 6 := by have : zs.length ≤ ts.length + 1 := hlen; rw [Hl.out] at this; omega
  clear hrow hb1 L0 hp hlen hok0
  go_wp2_with fail
  refine (FI.out _ L1.now.1.2 L1.now.1.1.2).mono ?_
  rintro e w2 ⟨Ao, no, co, rfl, hrow2, hnc2, Hn2, hb2⟩
  have L2 := (L1.next hb2).and (Live.row hrow2)
  have Hno : Hid (zs.length = no) := Lib.hid hrow2.1
  have a0 := L2.now.1.2.cell 0
  have a1 := L2.now.1.2.cell 1
  have a2 := L2.now.1.2.cell 2
  have a3 := L2.now.1.2.cell 3
  clear hrow2 hb2 L1
  go_wp2_with fail
  refine (FS.out _ L2.now.1.1.2).mono ?_
  rintro e w3 ⟨As, ns, cs, rfl, hrow3, hnc3, Hn3, hb3⟩
  obtain rfl : ns = no := hrow3.1.symm.trans Hno.out
  have L3 := (L2.next hb3).and (Live.row hrow3)
  have hns : ns ≤ 30 := by rw [← Hno.out]; omega
  have ST := Lib.hid (fun W H H' => sameTotals_any Ao As ns co ns cs zs zs W H H' (by omega) (by omega))
  rw [sameL_refl] at ST
  have ST1 := Lib.hid (ST.out _ L3.now.1.2 L3.now.2)
  clear hrow3 hb3 L2 FI FS a0 a1 a2 a3
  have n1 : ((ok != ok) : Bool) = false := by cases ok <;> rfl
  cases ok with
  | false =>
    go_wp2_with (first
      | (go_at_call 13; (with_reducible refine ST1.out.mono ?_); (rintro e w4 ⟨rfl, hb4⟩; have L4 := L3.next hb4; have ST2 := Lib.hid (ST.out _ L4.now.1.2 L4.now.2)))
      | (go_at_call 13; (with_reducible refine ST2.out.mono ?_); (rintro e w9 ⟨rfl, hb9⟩)))
    go_ret
    exact ⟨rfl, (L4.next hb9).now.1.1.1.1.1⟩
  | true =>
    obtain ⟨o1, o2, o3, o4, o5⟩ := Hok.out rfl
    have hS : SmallEns [⟨name, ⟨id, kind, data⟩⟩] := fun x hx => by rw [List.mem_singleton] at hx; rw [hx]; exact ⟨small60 HEN.out.1, small60 HEN.out.2.1⟩
    have TO := Lib.hid (fun W B (H : Row enCells 4 W W.heap.size B 1 [⟨name, ⟨id, kind, data⟩⟩]) G => totsOf_any B 1 1 _ W H hS (by omega) G)
    rw [totsOf_one o2] at TO
    have hto := totOf_ok o2
    have JN := Lib.hid (fun B d W H H' (hd : 1 ≤ d) => totsJoin_any Ax B k cx d ts _ W H H' o1 hto hkc Hnil.out hd)
    rw [o5] at JN
    have TV := Lib.hid (fun W H => totsValid_any Ao ns co zs W H (fun t ht => (totsOk_B o4 t ht).1) (by omega))
    rw [o4] at TV
    clear o1 o2 o3 o4 o5 hS hto
    go_wp2_with (first
      | (go_at_call 13; (with_reducible refine ST1.out.mono ?_); (rintro e w4 ⟨rfl, hb4⟩; have L4 := L3.next hb4; have a0 := L4.now.1.1.2.cell 0; have a1 := L4.now.1.1.2.cell 1; have a2 := L4.now.1.1.2.cell 2; have a3 := L4.now.1.1.2.cell 3; have R4 := Lib.hid (@en_row w4 ⟨name, ⟨id, kind, data⟩⟩); have L5 := L4.next ((Below.refl _ _).alloc (Nat.le_refl _) (.cells #[.string name, .int .i64 id, .string kind, .int .i64 data] 35))))
      | (go_at_call 11; (with_reducible refine (TO.out _ _ R4.out L5.now.1.1.1.1.2).mono ?_); (rintro e w6 ⟨A6, n6, c6, rfl, hr6, hc6, Hn6, hb6⟩; obtain rfl : n6 = 1 := hr6.1.symm; have L6 := L5.next hb6; have R6 := Lib.hid hr6))
      | (go_at_call 29; (with_reducible refine (JN.out _ _ _ L6.now.1.1.1.2 R6.out hc6).mono ?_); (rintro e w7 ⟨A7, n7, c7, rfl, hr7, hc7, Hn7, hb7⟩; obtain rfl : n7 = ns := (by rw [← hr7.1, ← Hno.out]); have L7 := (L6.next hb7).and (Live.row hr7); clear hr7))
      | (go_at_call 25; (with_reducible refine (TV.out _ L7.now.1.1.2).mono ?_); (rintro e w8 ⟨rfl, hb8⟩; have L8 := L7.next hb8; have SS := sameTotals_any A7 Ao n7 c7 n7 co zs zs _ L8.now.2 L8.now.1.1.2 (by omega) (by omega); rw [sameL_refl] at SS; have HSS := Lib.hid SS; clear SS))
      | (go_at_call 13; (with_reducible refine HSS.out.mono ?_); (rintro e w9 ⟨rfl, hb9⟩)))
    go_ret
    exact ⟨rfl, (L8.next hb9).now.1.1.1.1.1.1⟩
end Go.Proofs.YtlaolhhkchgakaaDoor
