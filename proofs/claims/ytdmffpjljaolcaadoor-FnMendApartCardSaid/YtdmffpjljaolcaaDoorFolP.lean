/- Entries passed on through a channel with room for all of them. -/
import Derived.Test.YtdmffpjljaolcaaDoorChan
import Derived.Test.YtdmffpjljaolcaaDoorPiece
import Derived.Test.YtdmffpjljaolcaaDoorSameEn
import Derived.Test.YtdmffpjljaolcaaDoorRowX
import Derived.Test.YtdmffpjljaolcaaDoorApp
namespace Go.Proofs.YtdmffpjljaolcaaDoor
set_option linter.unusedVariables false
set_option linter.unusedSimpArgs false
open Go.Conc Go.RowKit

def enVal (x : En) : Value := .agg #[.string x.name, .int .i64 x.ev.id, .string x.ev.kind, .int .i64 x.ev.data]
def zeroEn : Value := .agg #[.string ⟨#[]⟩, .int .i64 0, .string ⟨#[]⟩, .int .i64 0]
theorem mkChan_run (n : Nat) (hn : n ≤ 1000000) (W : World) : (Instr.makeChan 99 (.int .i64 n)).run Tryd.prog W = .ok (.chan (some W.heap.size)) (W.alloc (.chan n #[] false 0 0 false)) := by
  have h : (Tryd.prog.info? 31).map (·.bytes) = some 48 := by kernel_rfl
  obtain ⟨i, hi, hb⟩ := Option.map_eq_some_iff.1 h
  exact run_makeChan (P := Tryd.prog) (w := W) Tryd.underlying99 hi .i64 n (by omega) (by rw [hb]; omega)
theorem take_map_push (zs : List En) (k : Nat) (h : k < zs.length) : (((zs.take k).map enVal).toArray).push (enVal (nx zs k)) = ((zs.take (k + 1)).map enVal).toArray := by
  rw [take_nx h, List.map_append, List.push_toArray]; rfl

theorem drop_cons (zs : List En) (q : Nat) (h : q < zs.length) : zs.drop q = nx zs q :: zs.drop (q + 1) := by rw [List.drop_eq_getElem_cons h, nx_eq h]
theorem drop_map_get (zs : List En) (q : Nat) (h : q < zs.length) : (((zs.drop q).map enVal).toArray).getD 0 undef = enVal (nx zs q) := by rw [drop_cons zs q h]; rfl
theorem drop_map_ext (zs : List En) (q : Nat) (h : q < zs.length) : (((zs.drop q).map enVal).toArray).extract 1 (((zs.drop q).map enVal).toArray).size = ((zs.drop (q + 1)).map enVal).toArray := by
  rw [drop_cons zs q h]
  simp
  exact List.take_of_length_le (by simp)
def chanLeft (w : World) (c : Nat) : Nat := match w.heap[c]? with | some (.chan _ buf _ _ _ _) => buf.size | _ => 0
theorem chanLeft_of {w : World} {c cap s r : Nat} {buf : Array Value} {cl tm : Bool} (h : w.heap[c]? = some (.chan cap buf cl s r tm)) : chanLeft w c = buf.size := by unfold chanLeft; rw [h]
theorem own_setChan {w : World} {base size n : Nat} {e : TypeId} {v : Value} {xs : List Value} (h : w.ownsRow base e size v n xs) {c : Nat} (hc : c < base) (cap : Nat) (buf : Array Value) (cl : Bool) (s r : Nat) (tm : Bool) : (w.setChan c cap buf cl s r tm).ownsRow base e size v n xs := by
  refine h.kept (row := some c) ⟨rfl, rfl, rfl, by simp [World.setChan], fun i hi hne => by simp only [World.setChan]; rw [Array.getElem?_setIfInBounds_ne (fun e => hne (by rw [e]))]⟩ ?_
  cases hv : v.ownBlock with
  | none => exact .inl rfl
  | some b => exact .inr (fun e => by have := (h.lt b hv).1; injection e; omega)
set_option maxRecDepth 100000 in
set_option maxHeartbeats 8000000 in
theorem passed_any (A : Option Addr) (n c : Nat) (ys : List En) (B : Option Addr) (m d : Nat) (zs : List En) (w : World) (h : Row enCells 4 w w.heap.size A n ys) (h' : Row enCells 4 w w.heap.size B m zs) (hnil : A = none → c = 0) (hnb : n ≤ 400000) (hmb : m ≤ 400000) :
    Calls Tryd.prog 60 #[.slice A n c, .slice B m d] w (EnsRet (ys ++ zs) w) := by
  have Hl := Lib.hid h.1
  have Hlz := Lib.hid h'.1
  have H := Lib.hid h
  have H' := Lib.hid h'
  have Hnil := Lib.hid hnil
  clear h h' hnil
  refine calls_of_loneTo (fun cs => ?_) (fun w' hr => by obtain ⟨_, _, _, h, _⟩ := hr; cases h)
  have e : Frame.enter Tryd.prog 60 #[.slice A n c, .slice B m d] .normal = (base 60).at ⟨#[.slice A n c, .slice B m d, undef, undef, undef, undef, undef, undef, undef, undef, undef, undef, undef, undef, undef, undef, undef, undef, undef, undef, undef, undef, undef, undef, undef, undef, undef, undef, undef, undef, undef, undef, undef, undef, undef, undef, undef, undef, undef, undef], []⟩ [.code (Tryd.f60.body.getD .skip)] := by
    simp [Frame.enter, Frame.at, Tryd.func60, base, Tryd.f60]
    try rfl
  rw [e]
  clear e
  simp only [Tryd.f60, Option.getD_some]
  refine lone_seq ?_
  refine lone_wp (fun K hK => ?_)
  go_wp2_with fail
  refine lone_seq ?_
  have hmc := mkChan_run m (by omega)
  refine lone_wp (fun K hK => ?_)
  go_wp2_with fail
  clear hmc
  refine lone_seq ?_
  refine lone_seq ?_
  refine lone_wp (fun K hK => ?_)
  go_wp2_with fail
  refine lone_block ?_
  refine lone_loop (fun a wr => ∃ (k : Nat) (u7 u15 u16 u17 u18 u19 u20 u21 : Value), k ≤ m ∧ u15 = .int .i64 k ∧ a = ⟨#[.slice A n c, .slice B m d, undef, undef, .slice none 0 0, .chan (some w.heap.size), undef, u7, undef, undef, .slice B m d, .int .i64 m, .chan (some w.heap.size), .slice B m d, .int .i64 m, u15, u16, u17, u18, u19, u20, u21, undef, undef, undef, undef, undef, undef, undef, undef, undef, undef, undef, undef, undef, undef, undef, undef, undef, undef], []⟩ ∧ Hid (wr.heap[w.heap.size]? = some (.chan m ((zs.take k).map enVal).toArray false k 0 false)) ∧ Hid (Below w.heap.size w wr)) (fun a _ => m - (intOf (a.tmps.getD 15 undef)).toNat) ?_ ?_
  · exact ⟨0, _, _, _, _, _, _, _, _, Nat.zero_le _, rfl, rfl, Lib.hid (heap_alloc_new w _), Lib.hid ((Below.refl _ _).alloc (Nat.le_refl _) _)⟩
  intro a wr hI hgo
  obtain ⟨k, u7, u15, u16, u17, u18, u19, u20, u21, hk, rfl, rfl, Hc, HB⟩ := hI
  have Hgo := Lib.hid hgo
  clear hgo
  refine lone_seq ?_
  by_cases hlt : k < m
  · have hlt' : (k : Int) < (m : Int) := by omega
    obtain ⟨b, off, rfl, hb, hx⟩ := (H'.out.next HB.out).en_at (by omega)
    have hs : zs[k]? = some (nx zs k) := nx_get (by rw [Hlz.out]; exact hlt)
    have Hps := Lib.hid (take_map_push zs k (by rw [Hlz.out]; exact hlt))
    have hbs : (((zs.take k).map enVal).toArray).size < m := by simp; omega
    have Hbs := Lib.hid hbs
    obtain ⟨⟨n1, i1, k1, d1⟩, he1⟩ : ∃ e, nx zs k = e := ⟨_, rfl⟩
    rw [he1] at hs Hps
    obtain ⟨c0, c1, c2, c3⟩ := hx k _ hs
    clear hs hx he1 hbs
    refine lone_wp (fun K hK => ?_)
    go_wp2_with fail
    refine lone_seq ?_
    refine lone_cond (t := true) rfl ?_
    refine lone_skip ?_
    refine lone_seq ?_
    refine lone_block ?_
    refine lone_seq ?_
    refine lone_wp (fun K hK => ?_)
    go_wp2_with fail
    refine lone_region ?_
    simp only [List.size_toArray, List.length_cons, List.length_nil, Nat.reduceAdd, Nat.zero_add, List.range, List.range.loop]
    refine LoneTo.goes (n := 2) ?_
    s_op
    s_op
    s_stop
    have hz := HB.out.size
    have hca : ∀ o, (wr.alloc o).heap[w.heap.size]? = some (.chan m ((zs.take k).map enVal).toArray false k 0 false) := fun o => (Below.heap_alloc wr o w.heap.size (by have := (Array.getElem?_eq_some_iff.1 Hc.out).1; exact this)).trans Hc.out
    refine lone_send (v := .agg #[.string n1, .int .i64 i1, .string k1, .int .i64 d1]) (z := .tuple #[]) rfl rfl (by decide) (by simp [execOp, scase, Act.eval]) (hca _) Hbs.out ?_
    have e5 : (((zs.take k).map enVal).toArray).push (.agg #[.string n1, .int .i64 i1, .string k1, .int .i64 d1]) = ((zs.take (k + 1)).map enVal).toArray := Hps.out
    rw [e5]
    have B1 := Lib.hid (below_setChan ((HB.out).alloc hz (.cells #[.string n1, .int .i64 i1, .string k1, .int .i64 d1] 31)) (Nat.le_refl _) m ((zs.take (k + 1)).map enVal).toArray false (k + 1) 0 false)
    have C1 := Lib.hid (heap_setChan (wr.alloc (.cells #[.string n1, .int .i64 i1, .string k1, .int .i64 d1] 31)) w.heap.size m ((zs.take (k + 1)).map enVal).toArray false (k + 1) 0 false (by simp; omega))
    clear hca e5 c0 c1 c2 c3
    generalize (wr.alloc (.cells #[.string n1, .int .i64 i1, .string k1, .int .i64 d1] 31)).setChan w.heap.size m ((zs.take (k + 1)).map enVal).toArray false (k + 1) 0 false = wr2 at *
    dsimp only [Act.put]
    refine lone_region_end ?_
    refine lone_inBlock ?_
    refine lone_wp (fun K hK => ?_)
    go_wp2_with fail
    refine Hgo.out _ _ ⟨k + 1, _, _, _, _, _, _, _, _, by omega, ?_, rfl, C1, B1⟩ ?_
    · go_num
    · show m - (intOf (Value.int .i64 ((k : Int) + 1))).toNat < m - (intOf (Value.int .i64 (k : Int))).toNat
      simp [intOf]; omega
  · obtain rfl : k = m := by omega
    have hlt' : ¬ (k : Int) < (k : Int) := by omega
    refine lone_wp (fun K hK => ?_)
    go_wp2_with fail
    refine lone_seq ?_
    refine lone_cond (t := false) rfl ?_
    refine lone_exit rfl ?_
    have hT := Lib.hid (show zs.take k = zs by rw [← Hlz.out]; exact List.take_length)
    have Hc2 := Lib.hid Hc.out
    rw [hT.out] at Hc2
    have hcl := fun ats ty => run_close_open (P := Tryd.prog) (w := wr) ats ty Hc2.out
    refine lone_seq ?_
    refine lone_wp (fun K hK => ?_)
    go_wp2_with fail
    have hzw : w.heap.size < wr.heap.size := (Array.getElem?_eq_some_iff.1 Hc2.out).1
    have B2 := Lib.hid (below_setChan HB.out (Nat.le_refl _) k (zs.map enVal).toArray true k 0 false)
    have C2 := Lib.hid (heap_setChan wr w.heap.size k (zs.map enVal).toArray true k 0 false hzw)
    change LoneTo _ _ _ (wr.setChan w.heap.size k (zs.map enVal).toArray true k 0 false)
    clear hcl Hgo
    generalize wr.setChan w.heap.size k (zs.map enVal).toArray true k 0 false = w3 at *
    have hz3 : w.heap.size < w3.heap.size := (Array.getElem?_eq_some_iff.1 C2.out).1
    have R3 := Lib.hid (H.out.next B2.out)
    have mk := fun W => make_row elemEn (n + k) (by omega) ((n : Int) + (k : Int)) (by omega) W
    have Om := Lib.hid (made_own (T := 31) (z := (Value.agg #[.string ⟨#[]⟩, .int .i64 0, .string ⟨#[]⟩, .int .i64 0])) (size := 4) (k := n + k) w3 (Nat.le_refl w3.heap.size) (by omega))
    have Bm := Lib.hid ((Below.refl w3.heap.size w3).alloc (Nat.le_refl _) (.cells (madeCells (Value.agg #[.string ⟨#[]⟩, .int .i64 0, .string ⟨#[]⟩, .int .i64 0]).cells ((n + k) * 4)) 31))
    clear Hc Hc2 HB
    refine lone_seq ?_
    refine lone_wp (fun K hK => ?_)
    go_wp2_with (first
      | (at_builtin; refine app_src elemEn _ rfl (.tmp 28) (.tmp 29) rfl w3.heap.size _ 0 [] rfl Om.out A n c w3.heap.size _ rfl Hnil.out (R3.out.2.below Bm.out) (ens_one _) ?_ ?_ ?_ ?_; omega; omega; (exact Bm.out.size); intro v7 w7 own7 grow7 or7; have B7 := own_below' Om.out (Nat.le_refl _) Bm.out Bm.out.size grow7))
    rw [Nat.zero_add, List.nil_append] at own7
    have O7 := Lib.hid own7
    have C7 := Lib.hid ((B7.block _ hz3).trans C2.out)
    have HB7 := Lib.hid (bt B2.out B7)
    have hz37 := B7.size
    clear own7 grow7 or7 B7 mk Om Bm
    refine lone_seq ?_
    refine lone_seq ?_
    refine lone_wp (fun K hK => ?_)
    go_wp2_with fail
    refine lone_block ?_
    refine lone_loop (fun a wr => ∃ (q : Nat) (v : Value) (u1 u2 u3 u4 u6 u7 u9 u10 u11 u12 u13 u14 u15 u16 u17 u18 u19 u20 u21 u22 u23 u24 u25 u26 u27 u28 u29 u30 u32 u33 u34 u35 u36 u37 u38 u39 : Value), q ≤ k ∧ a = ⟨#[.slice A n c, u1, u2, u3, u4, .chan (some w.heap.size), u6, u7, v, u9, u10, u11, u12, u13, u14, u15, u16, u17, u18, u19, u20, u21, u22, u23, u24, u25, u26, u27, u28, u29, u30, .chan (some w.heap.size), u32, u33, u34, u35, u36, u37, u38, u39], []⟩ ∧ Hid (wr.heap[w.heap.size]? = some (.chan k ((zs.drop q).map enVal).toArray true k q false)) ∧ Hid (wr.ownsRow w3.heap.size 31 4 v (n + q) ((ys ++ zs.take q).flatMap enCells)) ∧ Hid (Below w.heap.size w wr) ∧ w3.heap.size ≤ wr.heap.size) (fun _ wr => chanLeft wr w.heap.size) ?_ ?_
    · exact ⟨0, _, _, _, _, _, _, _, _, _, _, _, _, _, _, _, _, _, _, _, _, _, _, _, _, _, _, _, _, _, _, _, _, _, _, _, _, _, Nat.zero_le _, rfl, C7, by simpa using O7, HB7, hz37⟩
    intro a wr hI hgo
    obtain ⟨q, v, u1, u2, u3, u4, u6, u7, u9, u10, u11, u12, u13, u14, u15, u16, u17, u18, u19, u20, u21, u22, u23, u24, u25, u26, u27, u28, u29, u30, u32, u33, u34, u35, u36, u37, u38, u39, hq, rfl, Hc, HO, HB, hz3r⟩ := hI
    have Hgo := Lib.hid hgo
    have hl1 := chanLeft_of Hc.out
    clear hgo
    have hzw := HB.out.size
    refine lone_seq ?_
    refine lone_region ?_
    simp only [List.size_toArray, List.length_cons, List.length_nil, Nat.reduceAdd, Nat.zero_add, List.range, List.range.loop]
    by_cases hlt : q < k
    · have hqz : q < zs.length := by rw [Hlz.out]; exact hlt
      obtain ⟨⟨n1, i1, k1, d1⟩, he1⟩ : ∃ e, nx zs q = e := ⟨_, rfl⟩
      have hg0 := drop_map_get zs q hqz
      have hge := drop_map_ext zs q hqz
      have hsm : 0 < (((zs.drop q).map enVal).toArray).size := by simp; omega
      rw [he1] at hg0
      refine lone_recv (ok := true) (z := zeroEn) rfl rfl (by decide) (by simp [go_sem, rcase, zeroEn]) Hc.out hsm ?_
      rw [hg0, hge]
      have B1 := Lib.hid (below_setChan HB.out (Nat.le_refl _) k ((zs.drop (q + 1)).map enVal).toArray true k (q + 1) false)
      have C1 := Lib.hid (heap_setChan wr w.heap.size k ((zs.drop (q + 1)).map enVal).toArray true k (q + 1) false (Array.getElem?_eq_some_iff.1 Hc.out).1)
      have O1 := Lib.hid (own_setChan HO.out hz3 k ((zs.drop (q + 1)).map enVal).toArray true k (q + 1) false)
      have hzs : w3.heap.size ≤ (wr.setChan w.heap.size k ((zs.drop (q + 1)).map enVal).toArray true k (q + 1) false).heap.size := by rw [size_setChan]; exact hz3r
      have Htk : Hid (zs.take (q + 1) = zs.take q ++ [⟨n1, ⟨i1, k1, d1⟩⟩]) := Lib.hid (by rw [take_nx hqz, he1])
      have Hs1 : Hid ((((zs.drop q).map enVal).toArray).size = k - q) := Lib.hid (by simp [Hlz.out])
      have Hs2 : Hid ((((zs.drop (q + 1)).map enVal).toArray).size = k - (q + 1)) := Lib.hid (by simp [Hlz.out])
      clear hg0 hge hsm he1
      generalize wr.setChan w.heap.size k ((zs.drop (q + 1)).map enVal).toArray true k (q + 1) false = w1 at *
      dsimp only [Act.put, got, enVal]
      refine LoneTo.goes (n := 1) ?_
      s_op
      s_stop
      refine lone_region_end ?_
      refine lone_seq ?_
      refine lone_cond (t := true) rfl ?_
      refine lone_skip ?_
      refine lone_block ?_
      refine lone_seq ?_
      refine lone_wp (fun K hK => ?_)
      go_wp2_with fail
      have hz1 := B1.out.size
      have Ob := Lib.hid (O1.out.alloc (.cells #[.string n1, .int .i64 i1, .string k1, .int .i64 d1] 31))
      have Nb := Lib.hid (B1.out.alloc hz1 (.cells #[.string n1, .int .i64 i1, .string k1, .int .i64 d1] 31))
      refine lone_wp (fun K hK => ?_)
      go_wp2_with (first
        | (at_builtin; go_must (refine app_at elemEn (w1.alloc (.cells #[.string n1, .int .i64 i1, .string k1, .int .i64 d1] 31)) rfl _ _ rfl w3.heap.size _ (n + q) ((ys ++ zs.take q).flatMap enCells) rfl (by exact Ob.out) [.string n1, .int .i64 i1, .string k1, .int .i64 d1] (w1.heap.size + 1) rfl ?_ rfl ?_ ?_ ?_ ?_); (simp); (intro x hx; simp at hx; rcases hx with rfl | rfl | rfl | rfl <;> rfl); omega; (show w3.heap.size ≤ (w1.alloc _).heap.size; simp; omega); intro v' w4 own4 grow4 or4))
      have grow5 : (w1.alloc (.cells #[.string n1, .int .i64 i1, .string k1, .int .i64 d1] 31)).grownBy w4 v.ownBlock := grow4
      have hb4 := own_below' Ob.out (Nat.le_of_lt hz3) Nb.out Nb.out.size grow5
      have hz4 := grow5.size
      have hza : (w1.alloc (.cells #[.string n1, .int .i64 i1, .string k1, .int .i64 d1] 31)).heap.size = w1.heap.size + 1 := by simp
      have hcl := (Array.getElem?_eq_some_iff.1 C1.out).1
      have hc4 : w4.heap[w.heap.size]? = some (.chan k ((zs.drop (q + 1)).map enVal).toArray true k (q + 1) false) :=
        (grow5.block w.heap.size (by omega) (fun e => by have := (Ob.out.lt w.heap.size e.symm).1; omega)).trans ((Below.heap_alloc w1 _ w.heap.size hcl).trans C1.out)
      have own5 : w4.ownsRow w3.heap.size 31 4 v' (n + (q + 1)) ((ys ++ zs.take (q + 1)).flatMap enCells) := by
        rw [Htk.out, ← List.append_assoc, List.flatMap_append, ← Nat.add_assoc]
        simpa [enCells] using own4
      refine lone_inBlock ?_
      refine Hgo.out _ _ ⟨q + 1, v', _, _, _, _, _, _, _, _, _, _, _, _, _, _, _, _, _, _, _, _, _, _, _, _, _, _, _, _, _, _, _, _, _, _, _, _, by omega, rfl, Lib.hid hc4, Lib.hid own5, Lib.hid hb4, by omega⟩ ?_
      show chanLeft w4 w.heap.size < chanLeft wr w.heap.size
      rw [chanLeft_of hc4, hl1, Hs1.out, Hs2.out]
      omega
    · obtain rfl : q = k := by omega
      have hd0 : ((zs.drop q).map enVal).toArray = #[] := by rw [List.drop_eq_nil_of_le (by rw [Hlz.out]; exact Nat.le_refl _)]; rfl
      have hc0 := Hc.out
      rw [hd0] at hc0
      have HOe := HO.out
      rw [hT.out] at HOe
      have Hfin := Lib.hid (ens_ret (by rw [List.length_append, Hl.out, Hlz.out]) HOe HB.out)
      refine lone_recv_shut (ok := true) (z := zeroEn) rfl rfl (by decide) (by simp [go_sem, rcase, zeroEn]) hc0 ?_
      clear hc0 hd0 HOe
      dsimp only [Act.put, got]
      refine LoneTo.goes (n := 1) ?_
      s_op
      s_stop
      refine lone_region_end ?_
      refine lone_seq ?_
      refine lone_cond (t := false) rfl ?_
      refine lone_exit rfl ?_
      refine lone_seq ?_
      refine lone_wp (fun K hK => ?_)
      go_wp2_with fail
      refine LoneTo.step step_ret ?_
      refine LoneTo.done ⟨_, _, rfl, Hfin.out, rfl, rfl, rfl, rfl, _, Tryd.func60, ?_⟩
      simp [results, Tryd.f60, Frame.at]
end Go.Proofs.YtdmffpjljaolcaaDoor
