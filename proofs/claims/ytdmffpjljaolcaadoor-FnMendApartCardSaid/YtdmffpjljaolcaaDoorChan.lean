/- Communication in one goroutine, as a walk of the machine's own steps: what the walk of plain code is joined by. -/
import Derived.Conc.LoneCalls
import Derived.WalkKit
namespace Go.Proofs.YtdmffpjljaolcaaDoor
set_option linter.unusedVariables false
set_option linter.unusedSimpArgs false
open Go.Conc Go.RowKit

section
variable {P : Program} {b : Frame} {k : List Item} {cs : List Frame} {a : Act} {w : World} {Q : Goroutine → World → Prop}
/-- code that communicates with nobody, walked as ever. -/
theorem lone_wp {c : Code} (h : ∀ K : Act → World → Prop, (∀ a' w', LoneTo P Q (G (b.at a' k) cs) w' → K a' w') → c.wp P (Exit.then K (fun _ _ _ => False)) a w) : LoneTo P Q (G (b.at a (.code c :: k)) cs) w := by
  obtain ⟨e, a', w', hq, harr⟩ := h (fun a' w' => LoneTo P Q (G (b.at a' k) cs) w') (fun _ _ h => h) b k cs
  cases e with
  | normal => obtain ⟨g', w'', hs, hQ⟩ := hq; exact ⟨g', w'', Steps.trans harr hs, hQ⟩
  | exit id => exact hq.elim
  | goto l => exact hq.elim
  | ret => exact hq.elim
  | panic ch => exact hq.elim
  | outgrown => exact hq.elim
theorem lone_seq {x y : Code} (h : LoneTo P Q (G (b.at a (.code x :: .code y :: k)) cs) w) : LoneTo P Q (G (b.at a (.code (.seq x y) :: k)) cs) w := .step step_seq h
theorem lone_block {id : Nat} {c : Code} (h : LoneTo P Q (G (b.at a (.code c :: .inBlock id :: k)) cs) w) : LoneTo P Q (G (b.at a (.code (.block id c) :: k)) cs) w := .step step_block h
theorem lone_inBlock {id : Nat} (h : LoneTo P Q (G (b.at a k) cs) w) : LoneTo P Q (G (b.at a (.inBlock id :: k)) cs) w := .step step_inBlock h
theorem lone_skip (h : LoneTo P Q (G (b.at a k) cs) w) : LoneTo P Q (G (b.at a (.code .skip :: k)) cs) w := .step step_skip h
theorem lone_label {l : Nat} (h : LoneTo P Q (G (b.at a k) cs) w) : LoneTo P Q (G (b.at a (.code (.label l) :: k)) cs) w := .step step_label h
theorem lone_cond {c : Operand} {x y : Code} {t : Bool} (hc : a.eval c = .bool t) (h : LoneTo P Q (G (b.at a (.code (if t then x else y) :: k)) cs) w) : LoneTo P Q (G (b.at a (.code (.cond c x y) :: k)) cs) w := .step (step_cond hc) h
theorem lone_exit {id : Nat} {k' : List Item} (hk : exitTo id k = some k') (h : LoneTo P Q (G (b.at a k') cs) w) : LoneTo P Q (G (b.at a (.code (.exit id) :: k)) cs) w := .step (step_exit hk) h
theorem lone_region {id : Nat} {ops : Array Oper} (h : LoneTo P Q (G (b.at a (.inRegion ops (List.range ops.size) :: k)) cs) w) : LoneTo P Q (G (b.at a (.code (.region id ops false) :: k)) cs) w := .step step_region h
theorem lone_region_end {ops : Array Oper} (h : LoneTo P Q (G (b.at a k) cs) w) : LoneTo P Q (G (b.at a (.inRegion ops [] :: k)) cs) w := .step step_region_end h
/-- an operation that yields a value. -/
theorem lone_val {ops : Array Oper} {i : Nat} {rest : List Nat} {o : Oper} {v : Value} {w' : World} (ho : ops[i]? = some o) (hw : Region.wanted o (yielded ops a.tmps) = true) (hk : b.kind ≠ .early) (hr : (execOp a.eval o).run P w = .ok (.value v) w')
    (h : LoneTo P Q (G (b.at (a.put o.dst v) (.inRegion ops rest :: k)) cs) w') : LoneTo P Q (G (b.at a (.inRegion ops (i :: rest) :: k)) cs) w :=
  .step (step_solo_go rfl (stepG_value ho hw hk hr)) h
/-- a send into a buffer with room. -/
theorem lone_send {ops : Array Oper} {i : Nat} {rest : List Nat} {o : Oper} {c cap s r : Nat} {buf : Array Value} {v z : Value} {tm : Bool} (ho : ops[i]? = some o) (hw : Region.wanted o (yielded ops a.tmps) = true) (hk : b.kind ≠ .early)
    (hr : (execOp a.eval o).run P w = .ok (.comm #[scase c v z] true .send) w) (hc : w.heap[c]? = some (.chan cap buf false s r tm)) (hroom : buf.size < cap)
    (h : LoneTo P Q (G (b.at (a.put o.dst undef) (.inRegion ops rest :: k)) cs) (w.setChan c cap (buf.push v) false (s + 1) r tm)) : LoneTo P Q (G (b.at a (.inRegion ops (i :: rest) :: k)) cs) w := by
  refine .step (step_lone_send_room (stepG_comm ho hw hk hr) hc hroom) ?_
  rw [Frame.finish_at, ho]
  exact h
/-- a receive out of a buffer that holds something. -/
theorem lone_recv {ops : Array Oper} {i : Nat} {rest : List Nat} {o : Oper} {c cap s r : Nat} {buf : Array Value} {z : Value} {tm cl ok : Bool} (ho : ops[i]? = some o) (hw : Region.wanted o (yielded ops a.tmps) = true) (hk : b.kind ≠ .early)
    (hr : (execOp a.eval o).run P w = .ok (.comm #[rcase c z] true (.recv ok)) w) (hc : w.heap[c]? = some (.chan cap buf cl s r tm)) (hsome : 0 < buf.size)
    (h : LoneTo P Q (G (b.at (a.put o.dst (got ok (buf.getD 0 undef) true)) (.inRegion ops rest :: k)) cs) (w.setChan c cap (buf.extract 1 buf.size) cl s (r + 1) tm)) : LoneTo P Q (G (b.at a (.inRegion ops (i :: rest) :: k)) cs) w := by
  refine .step (step_lone_recv_buf ok (stepG_comm ho hw hk hr) hc hsome) ?_
  rw [Frame.finish_at, ho]
  exact h
/-- a receive from a closed channel that is empty. -/
theorem lone_recv_shut {ops : Array Oper} {i : Nat} {rest : List Nat} {o : Oper} {c cap s r : Nat} {z : Value} {tm ok : Bool} (ho : ops[i]? = some o) (hw : Region.wanted o (yielded ops a.tmps) = true) (hk : b.kind ≠ .early)
    (hr : (execOp a.eval o).run P w = .ok (.comm #[rcase c z] true (.recv ok)) w) (hc : w.heap[c]? = some (.chan cap #[] true s r tm))
    (h : LoneTo P Q (G (b.at (a.put o.dst (got ok z false)) (.inRegion ops rest :: k)) cs) w) : LoneTo P Q (G (b.at a (.inRegion ops (i :: rest) :: k)) cs) w := by
  refine .step (step_lone_recv_shut ok (stepG_comm ho hw hk hr) hc) ?_
  rw [Frame.finish_at, ho]
  exact h
/-- a loop. -/
theorem lone_loop {c : Code} (I : Act → World → Prop) (μ : Act → World → Nat) (h0 : I a w)
    (round : ∀ a w, I a w → (∀ a' w', I a' w' → μ a' w' < μ a w → LoneTo P Q (G (b.at a' (.inLoop c :: k)) cs) w') → LoneTo P Q (G (b.at a (.code c :: .inLoop c :: k)) cs) w) :
    LoneTo P Q (G (b.at a (.code (.loop c) :: k)) cs) w := by
  have key : ∀ n a w, μ a w = n → I a w → LoneTo P Q (G (b.at a (.code c :: .inLoop c :: k)) cs) w := by
    intro n
    induction n using Nat.strongRecOn with
    | _ n ih =>
      intro a w hn hI
      refine round a w hI fun a' w' hI' hlt => ?_
      exact .step step_inLoop (ih (μ a' w') (hn ▸ hlt) a' w' rfl hI')
  exact .step step_loop (key _ a w rfl h0)
end
end Go.Proofs.YtdmffpjljaolcaaDoor
