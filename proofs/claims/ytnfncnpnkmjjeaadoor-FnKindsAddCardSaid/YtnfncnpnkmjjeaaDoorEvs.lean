/- Events are valid: the program's. -/
import Derived.Test.YtnfncnpnkmjjeaaDoorEv
namespace Go.Proofs.YtnfncnpnkmjjeaaDoor
set_option linter.unusedVariables false
set_option linter.unusedSimpArgs false
open Go.RowKit

theorem evsOk_len {l : List Ev} (h : 24 < l.length) : evsOk l = false := by unfold evsOk; rw [decide_eq_false (by omega)]; rfl
theorem evsOk_bad {l : List Ev} {k : Nat} (h : k < l.length) (hk : evOk (nx l k) = false) : evsOk l = false := by
  unfold evsOk; rw [allB_no k h (by rw [hk]; rfl)]; simp
theorem evsOk_twice {l : List Ev} {j k : Nat} (h : k < l.length) (hj : j < k) (he : (nx l j).id = (nx l k).id) : evsOk l = false := by
  unfold evsOk
  rw [allB_no k h (by rw [allB_no j hj (decide_eq_false (fun e => e he))]; simp)]; simp
theorem evsOk_good {l : List Ev} (h : l.length ≤ 24) (h1 : ∀ k, k < l.length → evOk (nx l k) = true ∧ ∀ j, j < k → (nx l j).id ≠ (nx l k).id) : evsOk l = true := by
  unfold evsOk
  rw [decide_eq_true h, allB_yes]; rfl
  intro k hk
  rw [(h1 k hk).1, allB_yes (fun j hj => decide_eq_true ((h1 k hk).2 j hj))]; rfl

set_option maxHeartbeats 4000000 in
theorem eventsValid_any (A : Option Addr) (n c : Nat) (es : List Ev) (w : World) (h : Row evCells 3 w w.heap.size A n es) (hsm : ∀ e ∈ es, e.kind.size ≤ maxLen) (hnc : n ≤ c) (hnb : n ≤ 1000000) :
    Calls Tryd.prog 56 #[.slice A n c] w fun e w' => e = .returned (.bool (evsOk es)) ∧ Below w.heap.size w w' := by
  have Hlen := Lib.hid h.1
  by_cases h24 : (24 : Int) < n
  · have Hr := Lib.hid (evsOk_len (l := es) (by rw [Hlen.out]; omega))
    go_enter Tryd.func56, Tryd.ntmps56
    go_wp2_with fail
    go_ret
    exact ⟨ret_bool Hr.out.symm, Below.refl _ _⟩
  have H := Lib.hid h
  have Hsm := Lib.hid hsm
  clear h hsm
  go_enter Tryd.func56, Tryd.ntmps56
  go_wp2_with fail
  go_loopw [12] (fun i wr => ∃ k : Nat, k ≤ n ∧ i = .int .i64 k ∧ Below w.heap.size w wr ∧ Hid (∀ k', k' < k → evOk (nx es k') = true ∧ ∀ j, j < k' → (nx es j).id ≠ (nx es k').id)) (fun i _ => n - (intOf i).toNat)
  case atStart => exact ⟨0, Nat.zero_le _, rfl, Below.refl _ _, Lib.hid fun j hj => absurd hj (by omega)⟩
  case round =>
    obtain ⟨k, hk, rfl, hnx, Hall⟩ := hrel
    obtain ⟨wo, rfl⟩ : ∃ wo : World, wo = wr := ⟨_, rfl⟩
    by_cases hlt : k < n
    · obtain ⟨b, off, rfl, hb, hx⟩ := H.out.at_ evCells_len (by omega)
      have hke : es[k]? = some (nx es k) := nx_get (by rw [Hlen.out]; exact hlt)
      obtain ⟨⟨id, kind, data⟩, he⟩ : ∃ e, nx es k = e := ⟨_, rfl⟩
      rw [he] at hke
      have c0 : wo.cell? ⟨b, off + k * 3, none⟩ = some (.int .i64 id) := (hnx.cell (p := ⟨b, off + (k * 3 + 0), none⟩) hb).trans (hx k _ hke 0 _ rfl)
      have c1 : wo.cell? ⟨b, off + k * 3 + 1, none⟩ = some (.string kind) := (hnx.cell (p := ⟨b, off + (k * 3 + 1), none⟩) hb).trans (hx k _ hke 1 _ rfl)
      have c2 : wo.cell? ⟨b, off + k * 3 + 2, none⟩ = some (.int .i64 data) := (hnx.cell (p := ⟨b, off + (k * 3 + 2), none⟩) hb).trans (hx k _ hke 2 _ rfl)
      have hks := Hsm.out _ (List.mem_of_getElem? hke)
      have Hke := Lib.hid hke
      have He := Lib.hid he
      have Hnx := Lib.hid hnx
      have Hx := Lib.hid hx
      clear hke he hx hnx
      cases hok : evOk ⟨id, kind, data⟩ with
      | false =>
        have Hr := Lib.hid (evsOk_bad (l := es) (k := k) (by rw [Hlen.out]; exact hlt) (by rw [He.out]; exact hok))
        go_wp2_with (go_at_call 65; go_must (refine (evValid_any id kind data _ hks).mono ?_; rw [hok]; rintro e w1 ⟨rfl, hb1⟩; obtain ⟨B0, hw1, hz1⟩ := boxes1 hb1))
        go_ret
        exact ⟨ret_bool Hr.out.symm, Hnx.out.trans (hw1.mono Hnx.out.size)⟩
      | true =>
        go_wp2_with (go_at_call 65; go_must (refine (evValid_any id kind data _ hks).mono ?_; rw [hok]; rintro e w1 ⟨rfl, hb1⟩; obtain ⟨B0, hw1, hz1⟩ := boxes1 hb1))
        have hnw := Lib.hid (Hnx.out.trans (hw1.mono Hnx.out.size))
        clear hb1 c0 c1 c2
        have hz := Hnx.out.size
        go_loopw [24] (fun i wr => ∃ m : Nat, m ≤ k ∧ i = .int .i64 m ∧ Below w.heap.size w wr ∧ Blk wr wo.heap.size 42 #[.int .i64 id, .string kind, .int .i64 data] ∧ Hid (∀ j, j < m → (nx es j).id ≠ id)) (fun i _ => k - (intOf i).toNat)
        case atStart => exact ⟨0, Nat.zero_le _, rfl, hnw.out, B0, Lib.hid fun j hj => absurd hj (by omega)⟩
        case round =>
          obtain ⟨m, hm, rfl, hni, Bi, Hin⟩ := hrel
          have Hni := Lib.hid hni
          have HBi := Lib.hid Bi
          by_cases hmk : m < k
          · have hmk' : (m : Int) < (k : Int) := by omega
            have hme : es[m]? = some (nx es m) := nx_get (by rw [Hlen.out]; omega)
            obtain ⟨⟨id2, kind2, data2⟩, hme2⟩ : ∃ e, nx es m = e := ⟨_, rfl⟩
            rw [hme2] at hme
            have d0 : wr.cell? ⟨b, off + m * 3, none⟩ = some (.int .i64 id2) := (hni.cell (p := ⟨b, off + (m * 3 + 0), none⟩) hb).trans (Hx.out m _ hme 0 _ rfl)
            have d1 : wr.cell? ⟨b, off + m * 3 + 1, none⟩ = some (.string kind2) := (hni.cell (p := ⟨b, off + (m * 3 + 1), none⟩) hb).trans (Hx.out m _ hme 1 _ rfl)
            have d2 : wr.cell? ⟨b, off + m * 3 + 2, none⟩ = some (.int .i64 data2) := (hni.cell (p := ⟨b, off + (m * 3 + 2), none⟩) hb).trans (Hx.out m _ hme 2 _ rfl)
            have b0 := (Bi.alloc (.cells #[.int .i64 id2, .string kind2, .int .i64 data2] 42)).cell 0
            have Hm2 := Lib.hid hme2
            have hzi := Lib.hid hni.size
            clear hme hme2 hni Bi
            by_cases hid : id2 = id
            · subst hid
              have e1 : (id2 == id2) = true := beq_self_eq_true _
              have Hr := Lib.hid (evsOk_twice (l := es) (k := k) (j := m) (by rw [Hlen.out]; exact hlt) hmk (by rw [He.out, Hm2.out]))
              go_wp2_with fail
              go_ret
              exact ⟨ret_bool Hr.out.symm, Hni.out.alloc hzi.out _⟩
            · have e1 : (id2 == id) = false := beq_eq_false_iff_ne.2 hid
              have Hne := Lib.hid hid
              clear hid
              go_wp2_with fail
              go_roundw
              case rel => exact ⟨m + 1, by omega, by go_num, Hni.out.alloc hzi.out _, HBi.out.alloc _, fun j hj => by
                rcases Nat.lt_succ_iff_lt_or_eq.1 hj with h' | rfl
                · exact Hin.out j h'
                · rw [Hm2.out]; exact Hne.out⟩
              case measure => simp [intOf]; omega
          · obtain rfl : m = k := by omega
            have hmk' : ¬ (m : Int) < (m : Int) := by omega
            clear hni Bi
            go_wp2_with fail
            go_roundw
            case rel => exact ⟨m + 1, by omega, by go_num, Hni.out, fun k' hk' => by
              rcases Nat.lt_succ_iff_lt_or_eq.1 hk' with h' | rfl
              · exact Hall.out k' h'
              · rw [He.out]; exact ⟨hok, Hin.out⟩⟩
            case measure => simp [intOf]; omega
    · have Hr := Lib.hid (evsOk_good (l := es) (by rw [Hlen.out]; omega) (fun k' hk' => Hall.out k' (by rw [Hlen.out] at hk'; omega)))
      go_wp2_with fail
      go_ret
      exact ⟨ret_bool Hr.out.symm, hnx⟩
end Go.Proofs.YtnfncnpnkmjjeaaDoor
