/- The places of a key, a place added: the program's. -/
import Derived.Test.YtnfncnpnkmjjeaaDoorKOf
import Derived.Test.YtnfncnpnkmjjeaaDoorKKinds
import Derived.Test.YtnfncnpnkmjjeaaDoorKValid
namespace Go.Proofs.YtnfncnpnkmjjeaaDoor
set_option linter.unusedVariables false
set_option linter.unusedSimpArgs false
open Go.RowKit

def IntsOf (l : List Nat) (w : World) (e : Ending) (w' : World) : Prop := ∃ (A : Option Addr) (n c : Nat), e = .returned (.slice A n c) ∧ Row intCells 1 w' w'.heap.size A n l ∧ Below w.heap.size w w'
set_option maxRecDepth 100000 in
set_option maxHeartbeats 8000000 in
theorem indexFind_any (A : Option Addr) (n c : Nat) (ks : List KRow) (x : KRow) (w : World) (h : Kinds w A n ks) (hok : KOk ks) (hc : n ≤ c) (hnb : n ≤ 100000) (hsb : ∀ x ∈ ks, x.ats.length ≤ 100000) (hx : x ∈ ks) :
    Calls Tryd.prog 20 #[.slice A n c, .string x.key] w (IntsOf x.ats w) := by
  have IV := Lib.hid (indexValid_any A n c ks w h hok hnb hsb)
  have L0 := (Live.since (Below.refl w.heap.size w)).and (Live.kinds h)
  have TO := Lib.hid (fun W H => rowTreeOf_any n A c ks W H hc hnb (fun y hy => Nat.le_trans (hsb y hy) (by omega)))
  have FH := Lib.hid (fun (t : RT) (e : t.rows = ks) => findT_has (key := x.key) (t := t) (by rw [e]; exact hok.sorted) x (by rw [e]; exact hx) rfl)
  clear h hok hsb hx
  go_enter Tryd.func20, Tryd.ntmps20
  go_wp2_with (first
    | (go_at_call 17; (with_reducible refine IV.out.mono ?_); (rintro e w1 ⟨rfl, hb1⟩; have L1 := L0.next hb1; have T1 := Lib.hid (TO.out w1 L1.now.2)))
    | (go_at_call 43; (with_reducible refine T1.out.mono ?_); (rintro e w2 ⟨t, rfl, ta, tn, tr, hb2⟩; have L2 := L1.next hb2; have FI := Lib.hid (findI_any t x.key _ w2 ta); have HT := Lib.hid ta; obtain ⟨b, r, ats, l, rr, hf, hxe⟩ := FH.out t tr; have hat := findT_at (key := x.key) ta; rw [hf] at hat; have hB := hat.1.1; have hO := Lib.hid hat.2.1; have c0 := hB.cell 0; have c1 := hB.cell 1; have HX := Lib.hid hxe; have FI2 := Lib.hid (show Calls Tryd.prog 44 #[t.ptr, .string x.key] w2 (fun e w' => e = .returned (.pointer (some ⟨b, 0, none⟩)) ∧ w2 = w') from FI.out.mono (fun e w' h => ⟨(by rw [h.1, hf]; rfl), h.2.symm⟩)); clear ta tn tr hat hB hf hxe FI))
    | (go_at_call 44; (with_reducible refine FI2.out.mono ?_); (rintro e w3 ⟨rfl, rfl⟩)))
  go_ret
  obtain ⟨A', c', e, h1, h2, h3, _⟩ := Row.of_own hO.out.1 hO.out.2
  injection e with e1 e2 e3
  subst e1 e3
  rw [HX.out]
  exact ⟨_, _, _, rfl, h3, L2.now.1⟩
theorem tree_grown {ks : List KRow} {w w' : World} {e : Ending} (h : TreeRet ks w e w') : ∃ v, e = .returned v ∧ Grown w v ks w' := by
  obtain ⟨t, rfl, h1, h2, h3, h4⟩ := h
  exact ⟨_, rfl, t, rfl, h1, h2, h3, h4⟩
theorem placeValid_any (p : Nat) (w : World) (hp : p ≤ 99) : Calls Tryd.prog 42 #[.int .i64 (p : Int)] w fun e w' => e = .returned (.bool true) ∧ w = w' := by
  have h1 : (0 : Int) ≤ (p : Int) := by omega
  have h2 : (p : Int) ≤ 99 := by omega
  go_enter Tryd.func42, Tryd.ntmps42
  go_wp2_with fail
  go_ret
  exact ⟨by first | rfl | simp [h2], rfl⟩
def KindsOk (ks : List KRow) (w : World) (e : Ending) (w' : World) : Prop :=
  ∃ (A : Option Addr) (n c : Nat), e = .returned (.tuple #[.slice A n c, .bool true]) ∧ Kinds w' A n ks ∧ n ≤ c ∧ Hid (A = none → c = 0) ∧ Below w.heap.size w w'
set_option maxRecDepth 100000 in
set_option maxHeartbeats 8000000 in
theorem indexAdd_any (A : Option Addr) (n c : Nat) (ks : List KRow) (key : ByteArray) (p : Nat) (w : World) (h : Kinds w A n ks) (hok : KOk ks) (hc : n ≤ c) (hnb : n ≤ 100000) (hsb : ∀ x ∈ ks, x.ats.length ≤ 100000) (hw : wordOk key.data.toList = true) (hp : p ≤ 99) (hlast : ∀ x ∈ ks, ∀ y ∈ x.ats, y < p) :
    Calls Tryd.prog 18 #[.slice A n c, .string key, .int .i64 (p : Int)] w (KindsOk (putK ks ⟨key, [p]⟩) w) := by
  have IV := Lib.hid (indexValid_any A n c ks w h hok hnb hsb)
  have Hlen := Lib.hid h.len
  have L0 := (Live.since (Below.refl w.heap.size w)).and (Live.kinds h)
  have TO := Lib.hid (fun W H => rowTreeOf_any n A c ks W H hc hnb (fun y hy => Nat.le_trans (hsb y hy) (by omega)))
  have WV := Lib.hid (fun W => wordValid_any key W (kword_small hw))
  rw [hw] at WV
  have PV := Lib.hid (fun W => placeValid_any p W hp)
  have HS := Lib.hid hsb
  have HO := Lib.hid hok
  have HL := Lib.hid hlast
  have GW := Lib.hid (fun (W W' : World) (v : Value) (G : Grown W v ks W') => grown_with (key := key) (p := p) G hok.sorted (fun y hy => Nat.le_trans (hsb y hy) (by omega)))
  have hpl := (putK_len ks ⟨key, [p]⟩).2
  rw [h.len] at hpl
  clear h hok hsb hw hlast
  go_enter Tryd.func18, Tryd.ntmps18
  go_wp2_with (first
    | (go_at_call 17; (with_reducible refine IV.out.mono ?_); (rintro e w1 ⟨rfl, hb1⟩; have L1 := L0.next hb1))
    | (go_at_call 41; (with_reducible refine (WV.out _).mono ?_); (rintro e w2 ⟨rfl, rfl⟩))
    | (go_at_call 42; (with_reducible refine (PV.out _).mono ?_); (rintro e w3 ⟨rfl, rfl⟩)))
  go_loopw [26] (fun i wr => ∃ k : Nat, k ≤ n ∧ i = .int .i64 (k : Int) ∧ Live wr fun W => Below w.heap.size w W ∧ Kinds W A n ks) (fun i _ => n - (intOf i).toNat)
  case atStart => exact ⟨0, Nat.zero_le _, rfl, L1⟩
  case round =>
    obtain ⟨k, hk, rfl, L⟩ := hrel
    by_cases hlt : k < n
    · have hlt' : (k : Int) < (n : Int) := by omega
      obtain ⟨b, off, rfl, hb, hat⟩ := L.now.2.at_ (by omega)
      obtain ⟨r, hr⟩ : ∃ r, ks[k]? = some r := ⟨_, List.getElem?_eq_getElem (by rw [Hlen.out]; exact hlt)⟩
      obtain ⟨A', n', c', c0, c1, hc', hnil, hrow⟩ := hat k r hr
      have hrm := List.mem_of_getElem? hr
      have hn0 : 0 < r.ats.length := List.length_pos_iff.2 (HO.out.some_ r hrm)
      have hn1 : n' = r.ats.length := hrow.1.symm
      obtain ⟨m, rfl⟩ : ∃ m, n' = m + 1 := ⟨n' - 1, by omega⟩
      obtain ⟨b2, off2, rfl, hb2, hx2⟩ := hrow.int_at (by omega)
      obtain ⟨y, hy⟩ : ∃ y, r.ats[m]? = some y := ⟨_, List.getElem?_eq_getElem (by omega)⟩
      have y0 := hx2 m y hy
      have hyp := HL.out r hrm y (List.mem_of_getElem? hy)
      have y1 := (World.cell?_alloc_lt wr (.cells #[.string r.key, .slice (some ⟨b2, off2, none⟩) (m + 1) c'] 40) hb2 (a := ⟨b2, off2 + m, none⟩)).trans y0
      have l1 : ¬ (p : Int) ≤ (y : Int) := by omega
      have hi1 : ((m + 1 : Nat) : Int) - 1 = (m : Int) := by omega
      have hsm := HS.out r hrm
      have hw1 : IntKind.i64.wrap (m : Int) = (m : Int) := IntWalk.i64_in _ (by omega)
      have hw2 : IntKind.i64.wrap (((m + 1 : Nat) : Int) - 1) = (m : Int) := by rw [hi1]; exact hw1
      have LN := L.next ((Below.refl _ _).alloc (Nat.le_refl _) (.cells #[.string r.key, .slice (some ⟨b2, off2, none⟩) (m + 1) c'] 40))
      clear hat hr hrow hrm hx2 hy hyp hnil hn1
      go_wp2_with fail
      go_roundw
      case rel => exact ⟨k + 1, by omega, by go_num, LN⟩
      case measure => simp [intOf]; omega
    · obtain rfl : k = n := by omega
      have hlt' : ¬ (k : Int) < (k : Int) := by omega
      have T1 := Lib.hid (TO.out wr L.now.2)
      go_wp2_with (first
        | (go_at_call 43; (with_reducible refine T1.out.mono ?_); (rintro e w2 ht; obtain ⟨v, rfl, hG⟩ := tree_grown ht; have G1 := Lib.hid (GW.out _ _ _ hG); clear ht hG))
        | (go_at_call 36; (with_reducible refine G1.out.mono ?_); (rintro e w3 ⟨v2, rfl, hG⟩; have G2 := Lib.hid (grown_end hG (by omega)); clear hG))
        | (go_at_call 37; (with_reducible refine G2.out.mono ?_); (rintro e w4 ⟨A4, n4, c4, rfl, hk4, hc4, hn4, hb4⟩; have HK4 := Lib.hid (And.intro hk4 (And.intro hc4 (And.intro hn4 (bt L.now.1 hb4)))); clear hk4 hc4 hn4 hb4)))
      go_ret2
      exact ⟨A4, n4, c4, rfl, HK4.out⟩
end Go.Proofs.YtnfncnpnkmjjeaaDoor
