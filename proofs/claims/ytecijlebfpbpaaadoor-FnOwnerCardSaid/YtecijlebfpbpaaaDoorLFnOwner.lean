/- The walk of laws.FnOwner. -/
import Derived.Test.YtecijlebfpbpaaaDoorOwnO
import Derived.Test.YtecijlebfpbpaaaDoorDrawOw
import Derived.Deep.RegionLaw
namespace Go.Proofs.YtecijlebfpbpaaaDoor
set_option linter.unusedVariables false
set_option linter.unusedSimpArgs false
open Go.RowKit

theorem ownerOf_word {st : Int} {ms : List ByteArray} (h : groupOk st ms = true) (k : Nat) : ownerOf ms k ≠ ⟨#[]⟩ := by
  obtain ⟨hst, hml⟩ := groupOk_st' h
  have hk : k % ms.length < ms.length := Nat.mod_lt _ (by omega)
  unfold groupOk at h
  rw [Bool.and_eq_true] at h
  have h1 := allB_at h.2 hk
  unfold memberOk at h1
  rw [Bool.and_eq_true] at h1
  have h2 := (wordOk_size h1.1).1
  intro e
  unfold ownerOf at e
  rw [e] at h2
  exact absurd h2 (by decide)
theorem shareL_mem {ms : List ByteArray} {k st : Nat} (h : k < st) : k ∈ shareL ms (ownerOf ms k) st := by
  unfold shareL
  rw [List.mem_filter, List.mem_range]
  exact ⟨h, decide_eq_true rfl⟩
set_option maxRecDepth 100000 in
set_option maxHeartbeats 8000000 in
theorem law_FnOwner (A : Option Addr) (n c : Nat) (w : World) (h : Code w A n c) (hg : GE w) :
    Calls Tryd.prog 7 #[.slice A n c] w fun e w' => e = .returned (.bool true) ∧ Below w.heap.size w w' := by
  have hn := h.2.1
  unfold maxLen at hn
  by_cases hbig : (1048576 : Int) < n
  · go_enter Tryd.func7, Tryd.ntmps7
    go_wp2_with fail
    go_ret
    exact ⟨rfl, Below.refl _ _⟩
  have HC := Lib.hid h
  have L0 := (Live.since (Below.refl w.heap.size w)).and (Live.ge hg)
  clear h hg
  go_enter Tryd.func7, Tryd.ntmps7
  go_wp2_with fail
  refine (drawGroupOwner_any A n c _ HC.out).mono ?_
  rintro e w1 ⟨st, A1, k, c1, ms, s, rfl, hs1, HS, hk, hs, hst1, hst2, hb1⟩
  have hs' : s.size ≤ maxLen := small60 hs
  have L1 := (((L0.next hb1).and (Live.strs hs1)).next ((Below.refl _ _).alloc (Nat.le_refl _) (.cells #[.int .i64 st, .slice A1 k c1] 27))).and (Live.blk (Blk.new w1 27 #[.int .i64 st, .slice A1 k c1]))
  have a0 := L1.now.2.cell 0
  have a1 := L1.now.2.cell 1
  have Hl := Lib.hid hs1.len
  have FI := Lib.hid (fun W H G => groupOwner_any st A1 k c1 ms s W H HS.out.all hs' (by omega) G)
  have FS := Lib.hid (fun W H => groupOwnerS_any st A1 k c1 ms s W H HS.out.all hs' (by omega))
  have Hno := Lib.hid (@groupOwner_no st ms s)
  have Hyes := Lib.hid (@groupOwner_yes st ms s)
  obtain ⟨o, ho⟩ : ∃ o, groupOwner st ms s = o := ⟨_, rfl⟩
  rw [ho] at FI FS Hno Hyes
  clear hs1 hb1 L0 ho
  have el : (o.toList == o.toList) = true := beq_self_eq_true _
  have el2 : (o.toList != o.toList) = false := by simp
  go_wp2_with fail
  refine (FI.out _ L1.now.1.2 L1.now.1.1.2).mono ?_
  rintro e w2 ⟨rfl, hb2⟩
  have L2 := L1.next hb2
  have a0 := L2.now.2.cell 0
  have a1 := L2.now.2.cell 1
  clear hb2 L1
  go_wp2_with fail
  refine (FS.out _ L2.now.1.2).mono ?_
  rintro e w3 ⟨rfl, hb3⟩
  have L3 := L2.next hb3
  have a0 := L3.now.2.cell 0
  have a1 := L3.now.2.cell 1
  clear hb3 L2 FI FS
  cases h1 : (groupOk st ms && nameOk s.data.toList) with
  | false =>
    obtain rfl := Hno.out h1
    go_wp2_with fail
    go_ret
    exact ⟨by first | rfl | simp, L3.now.1.1.1⟩
  | true =>
    rw [Bool.and_eq_true] at h1
    obtain ⟨h1, h2⟩ := h1
    obtain ⟨hst, hml⟩ := groupOk_st' h1
    obtain ⟨q, rfl⟩ : ∃ q : Nat, st = (q : Int) := ⟨st.toNat, by omega⟩
    have ho := Hyes.out h1 h2
    rw [Int.toNat_natCast] at ho
    have hne := ownerOf_word h1 (stripeOf s.data.toList q)
    rw [← ho] at hne
    have hqk := stripeOf_lt s.data.toList (st := q) (by omega)
    have hmem := shareL_mem (ms := ms) hqk
    rw [← ho] at hmem
    obtain ⟨j0, hj0, hj1⟩ := ownerOf_mem hml.1 (stripeOf s.data.toList q)
    rw [← ho] at hj1
    have e3 : ¬ o.toList = [] := fun e => hne (bytes_same (by rw [ByteArray.toList_eq] at e; rw [e]))
    have e2 : (o.toList == ([] : List UInt8)) = false := beq_eq_false_iff_ne.2 e3
    have NS := Lib.hid (fun W G => nameStripe_any s (q : Int) W hs' G)
    rw [nameStripe_ok h2 (by omega) (by omega)] at NS
    have GS := Lib.hid (fun W H => groupShare_any (q : Int) A1 k c1 ms o W H HS.out.all (by omega))
    rw [show groupShare (q : Int) ms o = shareL ms o q from by unfold groupShare; rw [h1, Int.toNat_natCast]; rfl] at GS
    have Hsl := Lib.hid (shareL_len ms o q)
    have Hmem := Lib.hid hmem
    have HJ := Lib.hid (And.intro hj0 hj1)
    have hq8 : q ≤ 8 := by omega
    generalize stripeOf s.data.toList q = kk at *
    clear h1 h2 hst hml hne hqk hmem hj1 ho hj0 Hno Hyes
    go_wp2_with fail
    go_loopw [7, 8] (fun b i wr => ∃ (j : Nat) (bd : Bool), j ≤ k ∧ i = .int .i64 (j : Int) ∧ b = .bool bd ∧ Hid (j0 < j → bd = true) ∧ Hid (Below w3.heap.size w3 wr)) (fun _ i _ => k - (intOf i).toNat)
    case atStart => exact ⟨0, false, Nat.zero_le _, rfl, rfl, Lib.hid (fun h => absurd h (by omega)), Lib.hid (Below.refl _ _)⟩
    case round =>
      obtain ⟨j, bd, hj, rfl, rfl, Hb, HB⟩ := hrel
      have LW := L3.next HB.out
      have a0 := LW.now.2.cell 0
      have a1 := LW.now.2.cell 1
      by_cases hlt : j < k
      · have hlt' : (j : Int) < (k : Int) := by omega
        obtain ⟨b, off, rfl, hb, hx⟩ := LW.now.1.2.at_ (by omega)
        have hjl : j < ms.length := by rw [Hl.out]; exact hlt
        obtain ⟨x, hxx⟩ : ∃ x, ms[j]? = some x := ⟨_, List.getElem?_eq_getElem hjl⟩
        have c0 := hx j x hxx
        have Hxx := Lib.hid hxx
        clear hx hxx
        cases bd with
        | true =>
          go_wp2_with fail
          go_roundw
          case rel => exact ⟨j + 1, true, by omega, by go_num, rfl, Lib.hid (fun _ => rfl), HB⟩
          case measure => simp [intOf]; omega
        | false =>
          by_cases hxo : x = o
          · have e1 : (x.toList == o.toList) = true := by rw [hxo]; exact beq_self_eq_true _
            clear hxo
            go_wp2_with fail
            go_roundw
            case rel => exact ⟨j + 1, true, by omega, by go_num, by first | rfl | simp, Lib.hid (fun _ => rfl), HB⟩
            case measure => simp [intOf]; omega
          · have e1 : (x.toList == o.toList) = false := toList_ne hxo
            have Hne := Lib.hid hxo
            clear hxo
            go_wp2_with fail
            go_roundw
            case rel => exact ⟨j + 1, false, by omega, by go_num, by first | rfl | simp, Lib.hid (fun h => by
              rcases Nat.lt_succ_iff_lt_or_eq.1 h with h' | rfl
              · exact Hb.out h'
              · exact absurd (Option.some.inj (Hxx.out.symm.trans HJ.out.2)) Hne.out), HB⟩
            case measure => simp [intOf]; omega
      · obtain rfl : j = k := by omega
        have hlt' : ¬ (j : Int) < (j : Int) := by omega
        obtain rfl := Hb.out (by have := HJ.out.1; rw [Hl.out] at this; exact this)
        go_wp2_with fail
        have LD := LW.next ((Below.refl _ _).drew)
        clear a0 a1
        have a0 : wr.drew.cell? ⟨w1.heap.size, 0, none⟩ = some (.int .i64 (q : Int)) := LD.now.2.cell 0
        have a1 : wr.drew.cell? ⟨w1.heap.size, 1, none⟩ = some (.slice A1 j c1) := LD.now.2.cell 1
        have P1 := Lib.hid (GS.out wr.drew LD.now.1.2)
        go_region_law (first
          | (go_simp; go_at_call 26; (with_reducible refine P1.out.mono ?_); (rintro e w5 ⟨A5, n5, c5, rfl, hr5, hc5, hb5⟩; have L5 := (LD.next hb5).and (Live.row hr5); have hn5 : n5 ≤ 8 := (by rw [← hr5.1]; have := Hsl.out; omega); have b0 := L5.now.1.2.cell 0; have b1 := L5.now.1.2.cell 1; have P2 := Lib.hid (NS.out w5 L5.now.1.1.1.2); clear hr5))
          | (go_simp; go_at_call 24; (with_reducible refine P2.out.mono ?_); (rintro e w6 ⟨rfl, hb6⟩; have L6 := L5.next hb6; have P3 := Lib.hid (hasInt_yes A5 n5 c5 _ kk w6 L6.now.2 (by omega) Hmem.out)))
          | (go_simp; go_at_call 23; (with_reducible refine P3.out.mono ?_); (rintro e w7 ⟨rfl, hb7⟩)))
        all_goals
          go_wp2_with fail
          go_ret
          exact ⟨rfl, (L6.next hb7).now.1.1.1.1⟩
end Go.Proofs.YtecijlebfpbpaaaDoor
