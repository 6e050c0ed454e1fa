/- A store is valid: the program's. -/
import Derived.Test.YtnfncnpnkmjjeaaDoorSOf
namespace Go.Proofs.YtnfncnpnkmjjeaaDoor
set_option linter.unusedVariables false
set_option linter.unusedSimpArgs false
open Go.RowKit

def SmallEns (xs : List En) : Prop := ∀ x ∈ xs, x.name.size ≤ maxLen ∧ x.ev.kind.size ≤ maxLen
theorem SmallEns.stream {xs : List En} (h : SmallEns xs) (s : ByteArray) : ∀ e ∈ streamOf xs s, e.kind.size ≤ maxLen := fun _ he => (h _ (streamOf_mem.1 he)).2

theorem storeOk_len {l : List En} (h : 24 < l.length) : storeOk l = false := by unfold storeOk; rw [decide_eq_false (by omega)]; rfl
theorem storeOk_bad {l : List En} {k : Nat} (h : k < l.length) (hk : enOk (nx l k) = false) : storeOk l = false := by
  unfold storeOk; rw [allB_no k h (by rw [hk]; rfl)]; simp
theorem storeOk_stream {l : List En} {s : ByteArray} (h : evsOk (streamOf l s) = false) : storeOk l = false := by
  cases e : storeOk l with
  | false => rfl
  | true => rw [(storeOk_streams.1 e).2.2 s] at h; cases h
theorem storeOk_good {l : List En} (h : l.length ≤ 24) (h1 : ∀ k, k < l.length → enOk (nx l k) = true) (h2 : ∀ s, evsOk (streamOf l s) = true) : storeOk l = true := by
  refine storeOk_streams.2 ⟨h, fun x hx => ?_, h2⟩
  obtain ⟨k, hk, rfl⟩ := List.mem_iff_getElem.1 hx
  rw [← nx_eq hk]; exact h1 k hk
theorem key_string {key : Value} {kl : Lit} (h : keyOf Tryd.prog 9 key = some kl) : ∃ s, key = .string s ∧ kl = .string s.data.toList := by
  cases key <;> simp [keyOf, mapKey, Tryd.underlying9] at h
  exact ⟨_, rfl, h.2.symm⟩

set_option maxHeartbeats 4000000 in
theorem storeValid_any (A : Option Addr) (n c : Nat) (xs : List En) (w : World) (h : Row enCells 4 w w.heap.size A n xs) (hsm : SmallEns xs) (hnb : n ≤ 1000000) (hg : GE w) :
    Calls Tryd.prog 35 #[.slice A n c] w fun e w' => e = .returned (.bool (storeOk xs)) ∧ Below w.heap.size w w' := by
  have Hlen := Lib.hid h.1
  by_cases h24 : (24 : Int) < n
  · have Hr := Lib.hid (storeOk_len (l := xs) (by rw [Hlen.out]; omega))
    go_enter Tryd.func35, Tryd.ntmps35
    go_wp2_with fail
    go_ret
    exact ⟨ret_bool Hr.out.symm, Below.refl _ _⟩
  have H := Lib.hid h
  have Hsm := Lib.hid hsm
  have Hg := Lib.hid hg
  clear h hsm hg
  go_enter Tryd.func35, Tryd.ntmps35
  go_wp2_with fail
  go_loopw [12] (fun i wr => ∃ k : Nat, k ≤ n ∧ i = .int .i64 k ∧ Below w.heap.size w wr ∧ Hid (∀ k', k' < k → enOk (nx xs k') = true)) (fun i _ => n - (intOf i).toNat)
  case atStart => exact ⟨0, Nat.zero_le _, rfl, Below.refl _ _, Lib.hid fun j hj => absurd hj (by omega)⟩
  case round =>
    obtain ⟨k, hk, rfl, hnx, Hall⟩ := hrel
    obtain ⟨wo, rfl⟩ : ∃ wo : World, wo = wr := ⟨_, rfl⟩
    by_cases hlt : k < n
    · obtain ⟨b, off, rfl, hb, hx⟩ := H.out.at_ enCells_len (by omega)
      have hke : xs[k]? = some (nx xs k) := nx_get (by rw [Hlen.out]; exact hlt)
      obtain ⟨⟨name, id, kind, data⟩, he⟩ : ∃ e, nx xs k = e := ⟨_, rfl⟩
      rw [he] at hke
      have c0 : wo.cell? ⟨b, off + k * 4, none⟩ = some (.string name) := (hnx.cell (p := ⟨b, off + (k * 4 + 0), none⟩) hb).trans (hx k _ hke 0 _ rfl)
      have c1 : wo.cell? ⟨b, off + k * 4 + 1, none⟩ = some (.int .i64 id) := (hnx.cell (p := ⟨b, off + (k * 4 + 1), none⟩) hb).trans (hx k _ hke 1 _ rfl)
      have c2 : wo.cell? ⟨b, off + k * 4 + 2, none⟩ = some (.string kind) := (hnx.cell (p := ⟨b, off + (k * 4 + 2), none⟩) hb).trans (hx k _ hke 2 _ rfl)
      have c3 : wo.cell? ⟨b, off + k * 4 + 3, none⟩ = some (.int .i64 data) := (hnx.cell (p := ⟨b, off + (k * 4 + 3), none⟩) hb).trans (hx k _ hke 3 _ rfl)
      obtain ⟨hks, hks2⟩ := Hsm.out _ (List.mem_of_getElem? hke)
      have He := Lib.hid he
      have Hnx := Lib.hid hnx
      have Hga := Lib.hid (show GE (wo.alloc (.cells #[.string name, .int .i64 id, .string kind, .int .i64 data] 44)) from (Hg.out.below hnx).below ((Below.refl _ _).alloc (Nat.le_refl _) _))
      clear hke he hx hnx
      cases hok : enOk ⟨name, ⟨id, kind, data⟩⟩ with
      | false =>
        have Hr := Lib.hid (storeOk_bad (l := xs) (k := k) (by rw [Hlen.out]; exact hlt) (by rw [He.out]; exact hok))
        go_wp2_with (go_at_call 54; go_must (refine (enValid_any name id kind data _ hks hks2 Hga.out).mono ?_; rw [hok]; rintro e w1 ⟨rfl, hb1⟩; obtain ⟨B0, hw1, hz1⟩ := boxes1 hb1))
        go_ret
        exact ⟨ret_bool Hr.out.symm, Hnx.out.trans (hw1.mono Hnx.out.size)⟩
      | true =>
        go_wp2_with (go_at_call 54; go_must (refine (enValid_any name id kind data _ hks hks2 Hga.out).mono ?_; rw [hok]; rintro e w1 ⟨rfl, hb1⟩; obtain ⟨B0, hw1, hz1⟩ := boxes1 hb1))
        have hnw := Lib.hid (Hnx.out.trans (hw1.mono Hnx.out.size))
        clear hb1 c0 c1 c2 c3
        go_roundw
        case rel => exact ⟨k + 1, by omega, by go_num, hnw.out, fun k' hk' => by
          rcases Nat.lt_succ_iff_lt_or_eq.1 hk' with h' | rfl
          · exact Hall.out k' h'
          · rw [He.out]; exact hok⟩
        case measure => simp [intOf]; omega
    · obtain rfl : k = n := by omega
      have Hnx := Lib.hid hnx
      have Hrow := Lib.hid (H.out.next hnx)
      clear hnx
      go_wp2_with fail
      refine (streamsOf_any A k c xs _ Hrow.out (fun x hx => (Hsm.out x hx).1) hnb).mono ?_
      rintro e ws ⟨b, base, m, D, g, rfl, S, hm, hbs⟩
      have Hws := Lib.hid (bt Hnx.out hbs)
      have HS := Lib.hid S
      have Hgs := Lib.hid (Hg.out.below Hws.out)
      have hmap := S.map
      clear S hbs
      go_wp2_with (first
        | (at_range; refine wpList_range_own _ rfl _ 93 rfl 9 95 keyedStr Tryd.underlying93 _ b m _ rfl hmap ?_; intro w0 hrg0 hg0 hs0))
      go_frame
      clear hmap
      go_loopw [6] (fun _ wr => ∃ (left : Lit → Bool) (cnt : Nat), wr.ranges Tryd.prog 9 headElem b ws.heap.size m D left cnt ∧ Below ws.heap.size ws wr ∧ Hid (∀ s : ByteArray, left (.string s.data.toList) = false → evsOk (streamOf xs s) = true)) (fun _ wr => wr.rangeLeft b ws.heap.size)
      case atStart =>
        refine ⟨_, _, hrg0, ⟨hg0.os, hg0.tape, hg0.output, hg0.size, fun i hi => hg0.block i hi (by simp)⟩, Lib.hid fun s hs => ?_⟩
        have e1 := Maps.atKey_of_not_has hs (.held nilV)
        rw [HS.out.look s] at e1
        have e2 := HS.out.row s
        rw [DataW.held.inj e1] at e2
        have e3 : streamOf xs s = [] := by
          rcases e2.2 with ⟨_, h0⟩ | ⟨_, _, _, h0, _⟩
          · exact List.eq_nil_of_length_eq_zero h0
          · injection h0 with h1; cases h1
        rw [e3]; rfl
      case round =>
        obtain ⟨left, cnt, hrg, hnr, Hdone⟩ := hrel
        obtain ⟨wi, rfl⟩ : ∃ wi : World, wi = wr := ⟨_, rfl⟩
        have Hnr := Lib.hid hnr
        clear hnr
        go_wp2_with (first
          | (at_next; refine wpList_next_ranges _ rfl _ rfl 9 keyedStr headElem Value.string (fun p : Option Addr × Nat × Nat => Value.slice p.1 p.2.1 p.2.2) (fun key kl hk => by obtain ⟨s, h1, _⟩ := key_string hk; exact ⟨s, h1⟩) (fun v y hv => by obtain ⟨⟨a1, a2, a3, h1⟩, _⟩ := headElem_inv hv; exact ⟨(a1, a2, a3), h1⟩) b ws.heap.size m D left cnt rfl hrg ?_ ?_))
        · intro hc0 hl0
          have Hr := Lib.hid (storeOk_good (l := xs) (by rw [Hlen.out]; omega) (fun k' hk' => Hall.out k' (by rw [Hlen.out] at hk'; omega)) (fun s => Hdone.out s (hl0 _)))
          clear hl0 hrg
          go_wp2_with fail
          go_ret
          exact ⟨ret_bool Hr.out.symm, bt Hws.out Hnr.out⟩
        · intro s A' m' c' kl y1 y2 w1 cnt1 hkey hlk hR hat hrg1 hlt1 hg1 hs1 hen
          obtain ⟨s', hs', rfl⟩ := key_string hkey
          obtain rfl : s = s' := by injection hs'
          obtain ⟨_, hy⟩ := headElem_inv hR
          obtain rfl := (Prod.mk.inj hy).1
          have e1 := HS.out.look s
          rw [hat] at e1
          have e2 := DataW.held.inj e1
          have hb1 : Below ws.heap.size ws w1 := Hnr.out.grown hg1 Hnr.out.size (fun j hj => by cases hj; exact Nat.le_refl _)
          have hrow := (HS.out.below hb1).row s
          rw [← e2] at hrow
          obtain ⟨A2, c2, e3, hnc2, hnil2, hrow2, _⟩ := Row.of_own hrow rfl
          simp only [Value.slice.injEq] at e3
          obtain ⟨rfl, e4, rfl⟩ := e3
          rw [← e4] at hrow2 hnc2
          have hm' := streamOf_len xs s
          have hm2 : m' ≤ 1000000 := by rw [e4]; have := Hlen.out; omega
          have Hrow2 := Lib.hid hrow2
          have Hb1 := Lib.hid hb1
          have Hrg1 := Lib.hid hrg1
          have Hat := Lib.hid (show ∀ zd, D.atKey (.string s.data.toList) zd = .held (.slice A' m' c') from hat)
          clear hrow2 hrow hb1 hrg1 hat hkey hlk hR hy e1 e2 e4 hm' hg1 hs1
          cases hok : evsOk (streamOf xs s) with
          | false =>
            have Hr := Lib.hid (storeOk_stream (l := xs) (s := s) hok)
            go_wp2_with (go_at_call 56; go_must (refine (eventsValid_any A' m' c' (streamOf xs s) _ Hrow2.out (Hsm.out.stream s) hnc2 hm2).mono ?_; rw [hok]; rintro e w2 ⟨rfl, hb2⟩))
            go_ret
            exact ⟨ret_bool Hr.out.symm, bt (bt Hws.out Hb1.out) hb2⟩
          | true =>
            go_wp2_with (go_at_call 56; go_must (refine (eventsValid_any A' m' c' (streamOf xs s) _ Hrow2.out (Hsm.out.stream s) hnc2 hm2).mono ?_; rw [hok]; rintro e w2 ⟨rfl, hb2⟩))
            have hrg2 := Hrg1.out.kept (w' := w2) (row := none) ⟨hb2.os, hb2.tape, hb2.output, hb2.size, fun k hk _ => hb2.block k hk⟩ (by simp) (by simp)
            have Hb2 := Lib.hid (bt Hb1.out hb2)
            clear hb2 hen
            go_roundw
            case rel => exact ⟨_, cnt1, hrg2, Hb2.out, fun t ht => by
              by_cases hts : t = s
              · rw [hts]; exact hok
              · refine Hdone.out t ?_
                rw [Bool.and_eq_false_iff] at ht
                rcases ht with h1 | h1
                · exact h1
                · exfalso
                  rw [Bool.not_eq_false'] at h1
                  exact hts (str_inj (WideAt.sameKey_eq h1))⟩
            case measure => rw [hrg2.left_eq, hrg.left_eq]; exact hlt1
end Go.Proofs.YtnfncnpnkmjjeaaDoor
