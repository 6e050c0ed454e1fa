/- The streams of entries: the program's map; a store is valid: the program's. -/
import Derived.Test.YtnfncnpnkmjjeaaDoorEvs
import Derived.Deep.DeepMust
namespace Go.Proofs.YtnfncnpnkmjjeaaDoor
set_option linter.unusedVariables false
set_option linter.unusedSimpArgs false
open Go.RowKit

theorem hor_of {v' v : Value} {n : Nat} (h : v'.ownBlock = v.ownBlock ∨ v'.ownBlock = some (n + 1)) : v'.ownBlock = v.ownBlock ∨ ∃ k, v'.ownBlock = some k ∧ n ≤ k := h.imp id fun e => ⟨_, e, Nat.le_succ _⟩
def StreamsRet (xs : List En) (w : World) (e : Ending) (w' : World) : Prop :=
  ∃ b base n D g, e = .returned (.map (some b)) ∧ Streams w' base b n xs D g ∧ n ≤ 1000000 ∧ Below w.heap.size w w'

set_option maxHeartbeats 4000000 in
theorem streamsOf_any (A : Option Addr) (n c : Nat) (xs : List En) (w : World) (h : Row enCells 4 w w.heap.size A n xs) (hsm : ∀ x ∈ xs, x.name.size ≤ maxLen) (hnb : n ≤ 1000000) :
    Calls Tryd.prog 55 #[.slice A n c] w (StreamsRet xs w) := by
  have Hlen := Lib.hid h.1
  have H := Lib.hid h
  have Hsm := Lib.hid hsm
  clear h hsm
  have hmm := @run_makeMap Tryd.prog
  go_enter Tryd.func55, Tryd.ntmps55
  go_wp2_with fail
  go_loopw [9] (fun i wr => ∃ (k : Nat) (D : DataW Value) (g : ByteArray → Value), k ≤ n ∧ i = .int .i64 k ∧ Streams wr (w.heap.size + 1) w.heap.size k (xs.take k) D g ∧ Below w.heap.size w wr) (fun i _ => n - (intOf i).toNat)
  case atStart => exact ⟨0, _, _, Nat.zero_le _, rfl, Streams.made w, (Below.refl _ _).alloc (Nat.le_refl _) _⟩
  case round =>
    obtain ⟨k, D, g, hk, rfl, S, hnx⟩ := hrel
    by_cases hlt : k < n
    · obtain ⟨b, off, rfl, hb, hx⟩ := H.out.at_ enCells_len (by omega)
      have hke : xs[k]? = some (nx xs k) := nx_get (by rw [Hlen.out]; exact hlt)
      obtain ⟨⟨name, id, kind, data⟩, he⟩ : ∃ e, nx xs k = e := ⟨_, rfl⟩
      rw [he] at hke
      have c0 : wr.cell? ⟨b, off + k * 4, none⟩ = some (.string name) := (hnx.cell (p := ⟨b, off + (k * 4 + 0), none⟩) hb).trans (hx k _ hke 0 _ rfl)
      have c1 : wr.cell? ⟨b, off + k * 4 + 1, none⟩ = some (.int .i64 id) := (hnx.cell (p := ⟨b, off + (k * 4 + 1), none⟩) hb).trans (hx k _ hke 1 _ rfl)
      have c2 : wr.cell? ⟨b, off + k * 4 + 2, none⟩ = some (.string kind) := (hnx.cell (p := ⟨b, off + (k * 4 + 2), none⟩) hb).trans (hx k _ hke 2 _ rfl)
      have c3 : wr.cell? ⟨b, off + k * 4 + 3, none⟩ = some (.int .i64 data) := (hnx.cell (p := ⟨b, off + (k * 4 + 3), none⟩) hb).trans (hx k _ hke 3 _ rfl)
      have hks := Hsm.out _ (List.mem_of_getElem? hke)
      have Hsn : Hid (xs.take (k + 1) = xs.take k ++ [⟨name, ⟨id, kind, data⟩⟩]) := Lib.hid (by rw [take_nx (by rw [Hlen.out]; exact hlt), he])
      have hsz := Lib.hid hnx.size
      have Hnx := Lib.hid hnx
      have HS := Lib.hid S
      clear hke he hx hnx S
      go_wp2_with fail
      have hba : Below wr.heap.size wr (wr.alloc (.cells #[.string name, .int .i64 id, .string kind, .int .i64 data] 44)) := (Below.refl _ _).alloc (Nat.le_refl _) _
      have Ba := Blk.new wr 44 #[.string name, .int .i64 id, .string kind, .int .i64 data]
      have Sa := HS.out.below hba
      have Hna := Lib.hid (Hnx.out.trans (hba.mono hsz.out))
      have Hza := Lib.hid Hna.out.size
      generalize wr.alloc (.cells #[.string name, .int .i64 id, .string kind, .int .i64 data] 44) = wa at *
      have l1 : (Instr.lookup 93 (.map (some w.heap.size)) (.string name) false).run Tryd.prog wa.drew = .ok (g name) wa.drew := (Sa.below ((Below.refl _ _).drew)).get name hks
      have l2 : ∀ o, (Instr.lookup 93 (.map (some w.heap.size)) (.string name) false).run Tryd.prog (wa.alloc o).drew = .ok (g name) (wa.alloc o).drew := fun o => (Sa.below (((Below.refl wa.heap.size wa).alloc (Nat.le_refl _) o).drew)).get name hks
      have b0 := Ba.cell 0
      have b1 := Ba.cell 1
      have b2 := Ba.cell 2
      have b3 := Ba.cell 3
      have p0 := fun o => (Ba.alloc o).cell 0
      have p1 := fun o => (Ba.alloc o).cell 1
      have p2 := fun o => (Ba.alloc o).cell 2
      have p3 := fun o => (Ba.alloc o).cell 3
      have HSa := Lib.hid (show Streams wa.drew (w.heap.size + 1) w.heap.size k (xs.take k) D g from Sa.below ((Below.refl _ _).drew))
      have Hrow := Lib.hid (HSa.out.row name)
      have hlen := Nat.le_trans (streamOf_len (xs.take k) name) (List.length_take_le k xs)
      have Hzb := Lib.hid Sa.map.lt
      have HBa := Lib.hid (show Blk wa.drew wr.heap.size 44 #[.string name, .int .i64 id, .string kind, .int .i64 data] from Ba)
      have Hne := Lib.hid (show some wr.heap.size ≠ (g name).ownBlock from fun e1 => absurd (HS.out.blk name wr.heap.size e1.symm).2 (Nat.lt_irrefl _))
      clear Sa Ba hba
      have hkn : k ≤ 1000000 := by omega
      go_region_law (go_must (refine app_one_step elemEv wa.drew ?_ (.tmp 19) (.tmp 22) ?_ (w.heap.size + 1) (g name) (streamOf (xs.take k) name).length ((streamOf (xs.take k) name).flatMap evCells) ?_ Hrow.out [.int .i64 id, .string kind, .int .i64 data] ?_ ?_ ?_ ?_ ?_ ?_; rfl; rfl; rfl; rfl; rfl; (intro u hu; simp at hu; rcases hu with rfl | rfl | rfl <;> rfl); omega; (show _ ≤ wa.heap.size; have := Hzb.out; omega)); intro v' w4 hown' hgrow hor; obtain ⟨w5, D', g', hrun5, S5, hg5⟩ := put_run wa.drew w4 HSa.out name ⟨id, kind, data⟩ v' hks hkn hgrow hown' (hor_of hor); have Q := Blk.grown (w := wa.drew) HBa.out hgrow Hne.out; have q0 := Q.cell 0)
      all_goals
        have hn5 := streams_below HSa.out name (show Below w.heap.size w wa.drew from Hna.out.drew) hgrow hg5 (Nat.le_refl _) Hza.out
        rw [← Hsn.out] at S5
        try clear q0
        clear hrun5 l1 l2 p0 p1 p2 p3 b0 b1 b2 b3
        go_wp2_with fail
        go_roundw
        case rel => exact ⟨k + 1, D', g', by omega, by go_num, S5, hn5⟩
        case measure => simp [intOf]; omega
    · obtain rfl : k = n := by omega
      have Hx := Lib.hid (show xs.take k = xs by rw [← Hlen.out]; exact List.take_length)
      rw [Hx.out] at S
      have HS := Lib.hid S
      have Hnx := Lib.hid hnx
      clear S hnx
      go_wp2_with fail
      go_ret
      exact ⟨_, _, _, _, _, rfl, HS.out, hnb, Hnx.out⟩
end Go.Proofs.YtnfncnpnkmjjeaaDoor
