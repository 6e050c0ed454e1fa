/- Who handles a stream: the program's and the reference's. -/
import Derived.Test.YtnfncnpnkmjjeaaDoorIntsL
import Derived.Test.YtnfncnpnkmjjeaaDoorGroupS
import Derived.Test.YtnfncnpnkmjjeaaDoorNamesI
namespace Go.Proofs.YtnfncnpnkmjjeaaDoor
set_option linter.unusedVariables false
set_option linter.unusedSimpArgs false
open Go.RowKit

def groupOwner (st : Int) (ms : List ByteArray) (s : ByteArray) : ByteArray := if groupOk st ms && nameOk s.data.toList then ownerOf ms (stripeOf s.data.toList st.toNat) else ⟨#[]⟩
theorem groupOwner_no {st : Int} {ms : List ByteArray} {s : ByteArray} (h : (groupOk st ms && nameOk s.data.toList) = false) : groupOwner st ms s = ⟨#[]⟩ := by unfold groupOwner; rw [h]; rfl
theorem groupOwner_yes {st : Int} {ms : List ByteArray} {s : ByteArray} (h1 : groupOk st ms = true) (h2 : nameOk s.data.toList = true) : groupOwner st ms s = ownerOf ms (stripeOf s.data.toList st.toNat) := by unfold groupOwner; rw [h1, h2]; rfl
theorem ownerOf_mem {ms : List ByteArray} (h : 1 ≤ ms.length) (k : Nat) : ∃ j, j < ms.length ∧ ms[j]? = some (ownerOf ms k) := by
  refine ⟨k % ms.length, Nat.mod_lt _ (by omega), ?_⟩
  unfold ownerOf
  exact nth_get (Nat.mod_lt _ (by omega))
theorem nameStripe_ok {s : ByteArray} {st : Nat} (h : nameOk s.data.toList = true) (h1 : 1 ≤ st) (h2 : st ≤ 8) : nameStripe s.data.toList (st : Int) = ((stripeOf s.data.toList st : Nat) : Int) := by
  unfold nameStripe
  rw [if_pos ⟨h, by omega, by omega⟩, Int.toNat_natCast]
theorem nameStripe_at (s : ByteArray) (q : Nat) (w : World) (hs : s.size ≤ maxLen) (hg : GE w) (h : nameOk s.data.toList = true) (h1 : 1 ≤ q) (h8 : q ≤ 8) :
    Calls Tryd.prog 31 #[.string s, .int .i64 (q : Int)] w fun e w' => e = .returned (.int .i64 ((stripeOf s.data.toList q : Nat) : Int)) ∧ Below w.heap.size w w' := by
  have := nameStripe_any s (q : Int) w hs hg
  rwa [nameStripe_ok h h1 h8] at this
theorem stripeOf_lt (l : List UInt8) {st : Nat} (h1 : 1 ≤ st) : stripeOf l st < st := Nat.mod_lt _ (by omega)
set_option maxRecDepth 100000 in
set_option maxHeartbeats 4000000 in
theorem groupOwner_any (st : Int) (A : Option Addr) (n c : Nat) (ms : List ByteArray) (s : ByteArray) (w : World) (h : Strs w w.heap.size A n ms) (hsm : AllSmall ms) (hs : s.size ≤ maxLen) (hnb : n ≤ 2000000) (hg : GE w) :
    Calls Tryd.prog 10 #[.agg #[.int .i64 st, .slice A n c], .string s] w fun e w' => e = .returned (.string (groupOwner st ms s)) ∧ Below w.heap.size w w' := by
  have hb0 : Below w.heap.size w (w.alloc (.cells #[.int .i64 st, .slice A n c] 27)) := (Below.refl _ _).alloc (Nat.le_refl _) _
  have L : Live (w.alloc (.cells #[.int .i64 st, .slice A n c] 27)) fun W => ((Below w.heap.size w W ∧ Strs W W.heap.size A n ms) ∧ GE W) ∧ Blk W w.heap.size 27 #[.int .i64 st, .slice A n c] := (((Live.since hb0).and (Live.strs (h.next hb0))).and (Live.ge (hg.below hb0))).and (Live.blk (Blk.new w _ _))
  have Hl := Lib.hid h.len
  have V1 := Lib.hid (fun W H => groupValid_any st A n c ms W H hsm (by omega))
  have V2 := Lib.hid (fun W G => nameValid_any s W hs G)
  have a0 := L.now.2.cell 0
  have a1 := L.now.2.cell 1
  clear h hsm hg hb0
  cases h1 : groupOk st ms with
  | false =>
    rw [h1] at V1
    have Hr := Lib.hid (groupOwner_no (s := s) (st := st) (ms := ms) (by rw [h1]; rfl))
    go_enter Tryd.func10, Tryd.ntmps10
    go_wp2_with (go_at_call 27; (with_reducible refine (V1.out _ L.now.1.1.2).mono ?_); (rintro e w1 ⟨rfl, hb1⟩; have L1 := L.next hb1))
    go_ret
    rw [Hr.out]
    exact ⟨rfl, L1.now.1.1.1⟩
  | true =>
    rw [h1] at V1
    cases h2 : nameOk s.data.toList with
    | false =>
      rw [h2] at V2
      have Hr := Lib.hid (groupOwner_no (s := s) (st := st) (ms := ms) (by rw [h2]; simp))
      go_enter Tryd.func10, Tryd.ntmps10
      go_wp2_with (first
        | (go_at_call 27; (with_reducible refine (V1.out _ L.now.1.1.2).mono ?_); (rintro e w1 ⟨rfl, hb1⟩; have L1 := L.next hb1))
        | (go_at_call 28; (with_reducible refine (V2.out _ L1.now.1.2).mono ?_); (rintro e w2 ⟨rfl, hb2⟩; have L2 := L1.next hb2)))
      go_ret
      rw [Hr.out]
      exact ⟨rfl, L2.now.1.1.1⟩
    | true =>
      rw [h2] at V2
      have Hr := Lib.hid (groupOwner_yes h1 h2)
      obtain ⟨hst, hml⟩ := groupOk_st' h1
      obtain ⟨q, rfl⟩ : ∃ q : Nat, st = (q : Int) := ⟨st.toNat, by omega⟩
      have hn1 : 0 < n := by have := Hl.out; omega
      have hn2 : n ≤ 1000000 := by have := Hl.out; omega
      have NS := Lib.hid (fun W G => nameStripe_any s (q : Int) W hs G)
      rw [nameStripe_ok h2 (by omega) (by omega)] at NS
      have hk : stripeOf s.data.toList q ≤ 1000000 := by have := stripeOf_lt s.data.toList (st := q) (by omega); omega
      have OW := Lib.hid (fun W H => owner_any (q : Int) A n c ms (stripeOf s.data.toList q) W H hn1 (by omega) hk)
      rw [Int.toNat_natCast] at Hr
      generalize stripeOf s.data.toList q = kk at *
      clear h1 h2 hst hml
      go_enter Tryd.func10, Tryd.ntmps10
      go_wp2_with (first
        | (go_at_call 27; (with_reducible refine (V1.out _ L.now.1.1.2).mono ?_); (rintro e w1 ⟨rfl, hb1⟩; have L1 := L.next hb1))
        | (go_at_call 28; (with_reducible refine (V2.out _ L1.now.1.2).mono ?_); (rintro e w2 ⟨rfl, hb2⟩; have L2 := L1.next hb2)))
      have a0 := fun x : On w2 => (show x.W.cell? ⟨w.heap.size, 0, none⟩ = some (.int .i64 (q : Int)) from (L2.next x.below).now.2.cell 0)
      have a1 := fun x : On w2 => (show x.W.cell? ⟨w.heap.size, 1, none⟩ = some (.slice A n c) from (L2.next x.below).now.2.cell 1)
      have T1 := Lib.hid (fun x : On w2 => teamOf_any (q : Int) A n c x.W)
      have N1 := Lib.hid (fun x : On w2 => NS.out x.W (L2.next x.below).now.1.2)
      have O1 := Lib.hid (fun x : On w2 => OW.out x.W (L2.next x.below).now.1.1.2)
      refine wp_region_on (by kernel_rfl) (by kernel_rfl) ?_
      repeat (go_big_quiet_step (first
        | (go_at_call 29; exact On.calls (T1.out _))
        | (go_at_call 31; exact On.calls (N1.out _))
        | (go_at_call 30; exact On.calls (O1.out _))))
      refine wpQuiet_nil ?_
      intro w5 hw'
      obtain ⟨⟨w5b, hb5⟩, hw''⟩ := hw'
      obtain rfl : w5 = w5b := hw''
      have L5 := L2.next hb5
      go_wp2_with fail
      go_ret
      rw [Hr.out]
      exact ⟨rfl, L5.now.1.1.1⟩
set_option maxHeartbeats 2000000 in
theorem l33Of_any (st : Int) (A : Option Addr) (n c : Nat) (ms : List ByteArray) (k : Nat) (w : World) (h : Strs w w.heap.size A n ms) (hn0 : 0 < n) (hn : n ≤ 1000000) (hk : k ≤ 1000000) :
    Calls Tryd.prog 24 #[.agg #[.int .i64 st, .slice A n c], .int .i64 k] w fun e w' => e = .returned (.string (ownerOf ms k)) ∧ Below w.heap.size w w' := by
  have hl := h.len
  obtain ⟨b, off, rfl, hb, hx⟩ := h.at_ hn0
  have hkn : k % n < n := Nat.mod_lt _ hn0
  obtain ⟨s, hs⟩ : ∃ s, ms[k % n]? = some s := ⟨_, nth_get (by rw [hl]; exact hkn)⟩
  have Hs := Lib.hid (show ownerOf ms k = s by unfold ownerOf; rw [hl]; exact nth_of hs)
  have hc := hx _ s hs
  have hm : (k : Int).tmod (n : Int) = ((k % n : Nat) : Int) := by rw [Int.tmod_eq_emod_of_nonneg (by omega)]; rfl
  have hm2 : (k : Int) % (n : Int) = ((k % n : Nat) : Int) := rfl
  obtain ⟨q, hq⟩ : ∃ q, k % n = q := ⟨_, rfl⟩
  rw [hq] at hm hm2 hc hkn
  have hqn : (q : Int) < (n : Int) := by omega
  have hcb := (World.cell?_alloc_lt w (.cells #[.int .i64 st, .slice (some ⟨b, off, none⟩) n c] 27) hb (a := ⟨b, off + q, none⟩)).trans hc
  have hn1 : ((n : Int) == 0) = false := beq_eq_false_iff_ne.2 (by omega)
  have hn2 : ¬ (n : Int) = 0 := by omega
  clear hx hs h hl hq
  go_enter Tryd.func24, Tryd.ntmps24
  go_wp2_with fail
  go_quiet (fail)
  go_wp2_with fail
  go_ret
  exact ⟨by rw [Hs.out]; rfl, below_drew_n ((Below.refl _ _).alloc (Nat.le_refl _) _) _⟩
set_option maxRecDepth 100000 in
set_option maxHeartbeats 4000000 in
theorem groupOwnerS_any (st : Int) (A : Option Addr) (n c : Nat) (ms : List ByteArray) (s : ByteArray) (w : World) (h : Strs w w.heap.size A n ms) (hsm : AllSmall ms) (hs : s.size ≤ maxLen) (hnb : n ≤ 2000000) :
    Calls Tryd.prog 8 #[.agg #[.int .i64 st, .slice A n c], .string s] w fun e w' => e = .returned (.string (groupOwner st ms s)) ∧ Below w.heap.size w w' := by
  have hb0 : Below w.heap.size w (w.alloc (.cells #[.int .i64 st, .slice A n c] 27)) := (Below.refl _ _).alloc (Nat.le_refl _) _
  have L : Live (w.alloc (.cells #[.int .i64 st, .slice A n c] 27)) fun W => (Below w.heap.size w W ∧ Strs W W.heap.size A n ms) ∧ Blk W w.heap.size 27 #[.int .i64 st, .slice A n c] := ((Live.since hb0).and (Live.strs (h.next hb0))).and (Live.blk (Blk.new w _ _))
  have Hl := Lib.hid h.len
  have V1 := Lib.hid (fun W H => groupValidS_any st A n c ms W H hsm (by omega))
  have V2 := Lib.hid (fun W => nameValidS_any s W hs)
  have a0 := L.now.2.cell 0
  have a1 := L.now.2.cell 1
  clear h hsm hb0
  cases h1 : groupOk st ms with
  | false =>
    rw [h1] at V1
    have Hr := Lib.hid (groupOwner_no (s := s) (st := st) (ms := ms) (by rw [h1]; rfl))
    go_enter Tryd.func8, Tryd.ntmps8
    go_wp2_with (go_at_call 22; (with_reducible refine (V1.out _ L.now.1.2).mono ?_); (rintro e w1 ⟨rfl, hb1⟩; have L1 := L.next hb1))
    go_ret
    rw [Hr.out]
    exact ⟨rfl, L1.now.1.1⟩
  | true =>
    rw [h1] at V1
    cases h2 : nameOk s.data.toList with
    | false =>
      rw [h2] at V2
      have Hr := Lib.hid (groupOwner_no (s := s) (st := st) (ms := ms) (by rw [h2]; simp))
      go_enter Tryd.func8, Tryd.ntmps8
      go_wp2_with (first
        | (go_at_call 22; (with_reducible refine (V1.out _ L.now.1.2).mono ?_); (rintro e w1 ⟨rfl, hb1⟩; have L1 := L.next hb1))
        | (go_at_call 23; (with_reducible refine (V2.out _).mono ?_); (rintro e w2 ⟨rfl, hb2⟩; have L2 := L1.next hb2)))
      go_ret
      rw [Hr.out]
      exact ⟨rfl, L2.now.1.1⟩
    | true =>
      rw [h2] at V2
      have Hr := Lib.hid (groupOwner_yes h1 h2)
      obtain ⟨hst, hml⟩ := groupOk_st' h1
      obtain ⟨q, rfl⟩ : ∃ q : Nat, st = (q : Int) := ⟨st.toNat, by omega⟩
      have hn1 : 0 < n := by have := Hl.out; omega
      have hn2 : n ≤ 1000000 := by have := Hl.out; omega
      have LS := Lib.hid (fun W => l2Stripe_any s q W hs (by omega) (by omega))
      have hk : stripeOf s.data.toList q ≤ 1000000 := by have := stripeOf_lt s.data.toList (st := q) (by omega); omega
      have OW := Lib.hid (fun W H => l33Of_any (q : Int) A n c ms (stripeOf s.data.toList q) W H hn1 (by omega) hk)
      rw [Int.toNat_natCast] at Hr
      generalize stripeOf s.data.toList q = kk at *
      clear h1 h2 hst hml
      go_enter Tryd.func8, Tryd.ntmps8
      go_wp2_with (first
        | (go_at_call 22; (with_reducible refine (V1.out _ L.now.1.2).mono ?_); (rintro e w1 ⟨rfl, hb1⟩; have L1 := L.next hb1))
        | (go_at_call 23; (with_reducible refine (V2.out _).mono ?_); (rintro e w2 ⟨rfl, hb2⟩; have L2 := L1.next hb2)))
      have a0 := fun x : On w2 => (show x.W.cell? ⟨w.heap.size, 0, none⟩ = some (.int .i64 (q : Int)) from (L2.next x.below).now.2.cell 0)
      have a1 := fun x : On w2 => (show x.W.cell? ⟨w.heap.size, 1, none⟩ = some (.slice A n c) from (L2.next x.below).now.2.cell 1)
      have N1 := Lib.hid (fun x : On w2 => LS.out x.W)
      have O1 := Lib.hid (fun x : On w2 => OW.out x.W (L2.next x.below).now.1.2)
      refine wp_region_on (by kernel_rfl) (by kernel_rfl) ?_
      repeat (go_big_quiet_step (first
        | (go_at_call 25; exact On.same (N1.out _))
        | (go_at_call 24; exact On.calls (O1.out _))))
      refine wpQuiet_nil ?_
      intro w5 hw'
      obtain ⟨⟨w5b, hb5⟩, hw''⟩ := hw'
      obtain rfl : w5 = w5b := hw''
      have L5 := L2.next hb5
      go_wp2_with fail
      go_ret
      rw [Hr.out]
      exact ⟨rfl, L5.now.1.1⟩
end Go.Proofs.YtnfncnpnkmjjeaaDoor
