/- Events are valid, a store is valid: the reference's. -/
import Derived.Test.YtnfncnpnkmjjeaaDoorSVal
namespace Go.Proofs.YtnfncnpnkmjjeaaDoor
set_option linter.unusedVariables false
set_option linter.unusedSimpArgs false
open Go.RowKit

theorem evsOk_end {l : List Ev} {n : Nat} (hn : l.length = n) (h1 : ∀ k, k < n → evOk (nx l k) = true ∧ ∀ j, j < k → (nx l j).id ≠ (nx l k).id) : evsOk l = decide ((n : Int) ≤ 24) := by
  subst hn
  by_cases h : l.length ≤ 24
  · rw [evsOk_good h h1, decide_eq_true (by omega)]
  · rw [evsOk_len (by omega), decide_eq_false (by omega)]
theorem storeOk_twice {l : List En} {j k : Nat} (h : k < l.length) (hj : j < k) (he : (nx l j).name = (nx l k).name) (hi : (nx l j).ev.id = (nx l k).ev.id) : storeOk l = false := by
  unfold storeOk
  rw [allB_no k h (by rw [allB_no j hj (by unfold sameId; rw [decide_eq_true he, decide_eq_true hi]; rfl)]; simp)]; simp
theorem storeOk_end {l : List En} {n : Nat} (hn : l.length = n) (h1 : ∀ k, k < n → enOk (nx l k) = true ∧ ∀ j, j < k → ¬ ((nx l j).name = (nx l k).name ∧ (nx l j).ev.id = (nx l k).ev.id)) : storeOk l = decide ((n : Int) ≤ 24) := by
  subst hn
  by_cases h : l.length ≤ 24
  · unfold storeOk
    rw [decide_eq_true h, allB_yes, decide_eq_true (by omega)]; rfl
    intro k hk
    rw [(h1 k hk).1, allB_yes]; rfl
    intro j hj
    have := (h1 k hk).2 j hj
    unfold sameId
    rw [Bool.not_eq_true', Bool.and_eq_false_iff, decide_eq_false_iff_not, decide_eq_false_iff_not]
    exact Decidable.not_and_iff_not_or_not.1 this
  · rw [storeOk_len (by omega), decide_eq_false (by omega)]


set_option maxHeartbeats 8000000 in
theorem storeValidS_any (A : Option Addr) (n c : Nat) (xs : List En) (w : World) (h : Row enCells 4 w w.heap.size A n xs) (hsm : SmallEns xs) (hnb : n ≤ 1000000) :
    Calls Tryd.prog 16 #[.slice A n c] w fun e w' => e = .returned (.bool (storeOk xs)) ∧ Below w.heap.size w w' := by
  have Hlen := Lib.hid h.1
  have H := Lib.hid h
  have Hsm := Lib.hid hsm
  clear h hsm
  go_enter Tryd.func16, Tryd.ntmps16
  go_wp2_with fail
  go_loopw [3] (fun i wr => ∃ k : Nat, k ≤ n ∧ i = .int .i64 k ∧ Below w.heap.size w wr ∧ Hid (∀ k', k' < k → enOk (nx xs k') = true ∧ ∀ j, j < k' → ¬ ((nx xs j).name = (nx xs k').name ∧ (nx xs j).ev.id = (nx xs k').ev.id))) (fun i _ => n - (intOf i).toNat)
  case atStart => exact ⟨0, Nat.zero_le _, rfl, Below.refl _ _, Lib.hid fun j hj => absurd hj (by omega)⟩
  case round =>
    obtain ⟨k, hk, rfl, hnx, Hall⟩ := hrel
    obtain ⟨wo, rfl⟩ : ∃ wo : World, wo = wr := ⟨_, rfl⟩
    by_cases hlt : k < n
    · obtain ⟨b, off, rfl, hb, hx⟩ := H.out.at_ enCells_len (by omega)
      have hke : xs[k]? = some (nx xs k) := nx_get (by rw [Hlen.out]; exact hlt)
      obtain ⟨⟨name, id, kind, data⟩, he⟩ : ∃ e, nx xs k = e := ⟨_, rfl⟩
      rw [he] at hke
      have Hcell : Hid (∀ wz : World, Below w.heap.size w wz → wz.cell? ⟨b, off + k * 4, none⟩ = some (.string name) ∧ wz.cell? ⟨b, off + k * 4 + 1, none⟩ = some (.int .i64 id) ∧ wz.cell? ⟨b, off + k * 4 + 1 + 1, none⟩ = some (.string kind) ∧ wz.cell? ⟨b, off + k * 4 + 1 + 2, none⟩ = some (.int .i64 data)) := Lib.hid fun wz hz =>
        ⟨(hz.cell (p := ⟨b, off + (k * 4 + 0), none⟩) hb).trans (hx k _ hke 0 _ rfl), (hz.cell (p := ⟨b, off + (k * 4 + 1), none⟩) hb).trans (hx k _ hke 1 _ rfl),
          (hz.cell (p := ⟨b, off + (k * 4 + 2), none⟩) hb).trans (hx k _ hke 2 _ rfl), (hz.cell (p := ⟨b, off + (k * 4 + 3), none⟩) hb).trans (hx k _ hke 3 _ rfl)⟩
      obtain ⟨c0, c1, c2, c3⟩ := Hcell.out wo hnx
      obtain ⟨hks, hks2⟩ := Hsm.out _ (List.mem_of_getElem? hke)
      have Hke := Lib.hid hke
      have He := Lib.hid he
      have Hnx := Lib.hid hnx
      have Hx := Lib.hid hx
      clear hke he hx hnx c1 c2 c3
      cases hno : nameOk name.data.toList with
      | false =>
        have Hr := Lib.hid (storeOk_bad (l := xs) (k := k) (by rw [Hlen.out]; exact hlt) (by rw [He.out]; unfold enOk; rw [hno]; rfl))
        go_wp2_with (go_at_call 23; go_must (refine (nameValidS_any name _ hks).mono ?_; rw [hno]; rintro e w1 ⟨rfl, hb1⟩))
        go_ret
        exact ⟨ret_bool Hr.out.symm, bt Hnx.out hb1⟩
      | true =>
        cases hok : evOk ⟨id, kind, data⟩ with
        | false =>
          have Hr := Lib.hid (storeOk_bad (l := xs) (k := k) (by rw [Hlen.out]; exact hlt) (by rw [He.out]; unfold enOk; rw [hno, hok]; rfl))
          go_wp2_with (first
            | (go_at_call 23; go_must (refine (nameValidS_any name _ hks).mono ?_; rw [hno]; rintro e w1 ⟨rfl, hb1⟩; obtain ⟨d0, d1, d2, d3⟩ := Hcell.out w1 (bt Hnx.out hb1)))
            | (go_at_call 40; go_must (refine (evValidS_any id kind data _ hks2).mono ?_; rw [hok]; rintro e w2 ⟨rfl, hb2⟩)))
          go_ret
          exact ⟨ret_bool Hr.out.symm, bt (bt Hnx.out hb1) hb2⟩
        | true =>
          go_wp2_with (first
            | (go_at_call 23; go_must (refine (nameValidS_any name _ hks).mono ?_; rw [hno]; rintro e w1 ⟨rfl, hb1⟩; obtain ⟨d0, d1, d2, d3⟩ := Hcell.out w1 (bt Hnx.out hb1)))
            | (go_at_call 40; go_must (refine (evValidS_any id kind data _ hks2).mono ?_; rw [hok]; rintro e w2 ⟨rfl, hb2⟩)))
          have hnw := Lib.hid (bt (bt Hnx.out hb1) hb2)
          clear hb1 hb2 d0 d1 d2 d3 c0
          go_loopw [4] (fun i wr => ∃ m : Nat, m ≤ k ∧ i = .int .i64 m ∧ Below w.heap.size w wr ∧ Hid (∀ j, j < m → ¬ ((nx xs j).name = name ∧ (nx xs j).ev.id = id))) (fun i _ => k - (intOf i).toNat)
          case atStart => exact ⟨0, Nat.zero_le _, rfl, hnw.out, Lib.hid fun j hj => absurd hj (by omega)⟩
          case round =>
            obtain ⟨m, hm, rfl, hni, Hin⟩ := hrel
            have Hni := Lib.hid hni
            by_cases hmk : m < k
            · have hmk' : (m : Int) < (k : Int) := by omega
              have hmn' : (m : Int) < (n : Int) := by omega
              have hkn' : (k : Int) < (n : Int) := by omega
              have hme : xs[m]? = some (nx xs m) := nx_get (by rw [Hlen.out]; omega)
              obtain ⟨⟨name2, id2, kind2, data2⟩, hme2⟩ : ∃ e, nx xs m = e := ⟨_, rfl⟩
              rw [hme2] at hme
              have d0 : wr.cell? ⟨b, off + m * 4, none⟩ = some (.string name2) := (hni.cell (p := ⟨b, off + (m * 4 + 0), none⟩) hb).trans (Hx.out m _ hme 0 _ rfl)
              have d1 : wr.cell? ⟨b, off + m * 4 + 1, none⟩ = some (.int .i64 id2) := (hni.cell (p := ⟨b, off + (m * 4 + 1), none⟩) hb).trans (Hx.out m _ hme 1 _ rfl)
              obtain ⟨f0, f1, _, _⟩ := Hcell.out wr hni
              have Hm2 := Lib.hid hme2
              clear hme hme2 hni
              by_cases hnn : name2 = name
              · subst hnn
                have e0 : (name2.toList == name2.toList) = true := beq_self_eq_true _
                by_cases hid : id2 = id
                · subst hid
                  have e1 : (id2 == id2) = true := beq_self_eq_true _
                  have Hr := Lib.hid (storeOk_twice (l := xs) (k := k) (j := m) (by rw [Hlen.out]; exact hlt) hmk (by rw [He.out, Hm2.out]) (by rw [He.out, Hm2.out]))
                  go_wp2_with fail
                  go_quiet (fail)
                  go_wp2_with fail
                  go_ret
                  exact ⟨ret_bool Hr.out.symm, below_drew_n Hni.out _⟩
                · have e1 : (id2 == id) = false := beq_eq_false_iff_ne.2 hid
                  have Hne := Lib.hid hid
                  clear hid
                  go_wp2_with fail
                  go_quiet (fail)
                  go_wp2_with fail
                  go_roundw
                  case rel => exact ⟨m + 1, by omega, by go_num, below_drew_n Hni.out _, fun j hj => by
                    rcases Nat.lt_succ_iff_lt_or_eq.1 hj with h' | rfl
                    · exact Hin.out j h'
                    · rw [Hm2.out]; exact fun e => Hne.out e.2⟩
                  case measure => simp [intOf]; omega
              · have e0 : (name2.toList == name.toList) = false := toList_ne hnn
                have Hne := Lib.hid hnn
                clear hnn
                go_wp2_with fail
                go_quiet (fail)
                go_wp2_with fail
                go_roundw
                case rel => exact ⟨m + 1, by omega, by go_num, below_drew_n Hni.out _, fun j hj => by
                  rcases Nat.lt_succ_iff_lt_or_eq.1 hj with h' | rfl
                  · exact Hin.out j h'
                  · rw [Hm2.out]; exact fun e => Hne.out e.1⟩
                case measure => simp [intOf]; omega
            · obtain rfl : m = k := by omega
              have hmk' : ¬ (m : Int) < (m : Int) := by omega
              clear hni
              go_wp2_with fail
              go_roundw
              case rel => exact ⟨m + 1, by omega, by go_num, Hni.out, fun k' hk' => by
                rcases Nat.lt_succ_iff_lt_or_eq.1 hk' with h' | rfl
                · exact Hall.out k' h'
                · rw [He.out]; exact ⟨by unfold enOk; rw [hno, hok]; rfl, Hin.out⟩⟩
              case measure => simp [intOf]; omega
    · have Hr := Lib.hid (storeOk_end (l := xs) Hlen.out (fun k' hk' => Hall.out k' (by omega)))
      go_wp2_with fail
      go_ret
      exact ⟨ret_bool Hr.out.symm, hnx⟩
end Go.Proofs.YtnfncnpnkmjjeaaDoor
