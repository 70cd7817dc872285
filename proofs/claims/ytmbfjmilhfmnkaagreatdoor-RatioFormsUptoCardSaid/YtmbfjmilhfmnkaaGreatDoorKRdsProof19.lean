import Derived.Test.YtmbfjmilhfmnkaaGreatDoorKRdsProof17
import Derived.Test.YtmbfjmilhfmnkaaGreatDoorKRdsProof18
import Derived.Test.YtmbfjmilhfmnkaaGreatDoorKRdsProof04
import Derived.Test.YtmbfjmilhfmnkaaGreatDoorKRdsProof11
import Derived.Test.YtmbfjmilhfmnkaaGreatDoorS0
set_option linter.unusedVariables false
set_option linter.unusedSimpArgs false
namespace Go.Proofs.YtmbfjmilhfmnkaaGreatDoor
open Go.RowKit
theorem exE5 {α β γ δ ε : Type} {p : α → β → γ → δ → ε → Prop} {G : Prop} (h : ∃ a b c d e, p a b c d e) (k : ∀ a b c d e, p a b c d e → G) : G := h.elim fun a h => exE4 h (k a)
theorem exE6 {α β γ δ ε ζ : Type} {p : α → β → γ → δ → ε → ζ → Prop} {G : Prop} (h : ∃ a b c d e f, p a b c d e f) (k : ∀ a b c d e f, p a b c d e f → G) : G := h.elim fun a h => exE5 h (k a)
/-- the numbers that two rows of limbs stand for -/
def numL (x : List Nat × List Nat) : Nat × Nat := (Nm.nv x.1, if Nm.nv x.2 = 0 then 1 else Nm.nv x.2)
theorem numL_good {l1 l2 : List Nat} {p q : Nat} (h : GoodL l1 l2 p q) : numL (l1, l2) = (p, q) := by
 obtain ⟨rfl, rfl, hg⟩ := h; have hq := hg.pos; unfold numL; simp only [Nm.nv_lb]; unfold Nm.dn; by_cases h1 : q = 1
 ·rw [if_pos h1, if_pos rfl, h1]
 ·rw [if_neg h1, if_neg (by omega)]
open Classical in
/-- the error of n by d in lowest form -/
noncomputable def redE (n d : Nat) : Int := if Nm.Fits (n / Nat.gcd n d) (d / Nat.gcd n d) then 0 else 4
/-- a result: the ratio n by d, or none -/
def OpV (E : Int) (n d : Nat) (w : World) (v : Value) : Prop := (E = 0 ∧ Rat w v (n / Nat.gcd n d) (d / Nat.gcd n d) ∧ Nm.Fits (n / Nat.gcd n d) (d / Nat.gcd n d)) ∨ (E ≠ 0 ∧ v = nilRat)
theorem OpV.map {E : Int} {n d : Nat} {w w' : World} {v : Value} (h : OpV E n d w v) (hm : ∀ A k c x, Nb w A k c x → Nb w' A k c x) : OpV E n d w' v := by
 rcases h with ⟨h1, ⟨A1, k1, c1, A2, k2, c2, rfl, h3, h4⟩, h5⟩ | h
 ·exact .inl ⟨h1, ⟨A1, k1, c1, A2, k2, c2, rfl, hm _ _ _ _ h3, hm _ _ _ _ h4⟩, h5⟩
 ·exact .inr h
theorem OpV.below {E : Int} {n d : Nat} {w w' : World} {v : Value} (h : OpV E n d w v) (hb : Below w.heap.size w w') : OpV E n d w' v := h.map fun _ _ _ _ k => k.below hb
theorem OpV.shape {E : Int} {n d : Nat} {w : World} {v : Value} (h : OpV E n d w v) : ∃ A k c A' k' c', v = .agg #[.slice A k c, .slice A' k' c'] := by
 rcases h with ⟨_, ⟨A1, k1, c1, A2, k2, c2, rfl, _⟩, _⟩ | ⟨_, rfl⟩
 ·exact ⟨_, _, _, _, _, _, rfl⟩
 ·exact ⟨_, _, _, _, _, _, rfl⟩
theorem RedP.opV {w : World} {v : Value} {er : Int} {n d : Nat} (h : RedP w v er n d) : er = redE n d ∧ OpV (redE n d) n d w v := by
 unfold redE
 rcases h with ⟨h1, h2, h3⟩ | ⟨h1, h2, h3⟩
 ·rw [if_pos h1]; exact ⟨h2, .inl ⟨rfl, h3, h1⟩⟩
 ·rw [if_neg h1]; exact ⟨h2, .inr ⟨by omega, h3⟩⟩
/-- an operation's error, with its error for valid ones -/
noncomputable def opE (f : Nat × Nat → Nat × Nat → Int) (l1 l2 l3 l4 : List Nat) : Int := if firstE (Nm.validE l1 l2) (Nm.validE l3 l4) ≠ 0 then firstE (Nm.validE l1 l2) (Nm.validE l3 l4) else f (numL (l1, l2)) (numL (l3, l4))
noncomputable def mulE (l1 l2 l3 l4 : List Nat) : Int := opE (fun x y => redE (x.1 * y.1) (x.2 * y.2)) l1 l2 l3 l4
def mulN (l1 l2 l3 l4 : List Nat) : Nat := (numL (l1, l2)).1 * (numL (l3, l4)).1
def mulD (l1 l2 l3 l4 : List Nat) : Nat := (numL (l1, l2)).2 * (numL (l3, l4)).2
theorem opE_bad {f : Nat × Nat → Nat × Nat → Int} {l1 l2 l3 l4 : List Nat} (h : firstE (Nm.validE l1 l2) (Nm.validE l3 l4) ≠ 0) : opE f l1 l2 l3 l4 = firstE (Nm.validE l1 l2) (Nm.validE l3 l4) := if_pos h
theorem opE_good {f : Nat × Nat → Nat × Nat → Int} {l1 l2 l3 l4 : List Nat} {pa qa pb qb : Nat} (h1 : GoodL l1 l2 pa qa) (h2 : GoodL l3 l4 pb qb) : opE f l1 l2 l3 l4 = f (pa, qa) (pb, qb) := by
 have e1 : Nm.validE l1 l2 = 0 := by obtain ⟨rfl, rfl, g⟩ := h1; exact Nm.validE_of g
 have e2 : Nm.validE l3 l4 = 0 := by obtain ⟨rfl, rfl, g⟩ := h2; exact Nm.validE_of g
 unfold opE; rw [if_neg (by rw [e1, e2]; simp [firstE]), numL_good h1, numL_good h2]
theorem mul_opV {l1 l2 l3 l4 : List Nat} {w : World} {v : Value} {er : Int} (h : OpP MulR l1 l2 l3 l4 w v er) : er = mulE l1 l2 l3 l4 ∧ OpV (mulE l1 l2 l3 l4) (mulN l1 l2 l3 l4) (mulD l1 l2 l3 l4) w v := by
 rcases h with ⟨h1, rfl, rfl⟩ | ⟨pa, qa, pb, qb, g1, g2, h⟩
 ·unfold mulE; rw [opE_bad h1]; exact ⟨rfl, .inr ⟨h1, rfl⟩⟩
 ·unfold mulE mulN mulD; rw [opE_good g1 g2, numL_good g1, numL_good g2]; exact RedP.opV h
/-- what an operation of such a region may do to the world -/
structure RS (N : Nat) (w w' : World) : Prop where
 be : Below N w w'
 nb : ∀ A k c x, Nb w A k c x → Nb w' A k c x
 sl : ∀ g, Sl w g → Sl w' g
theorem RS.refl (N : Nat) (w : World) : RS N w w := ⟨Below.refl _ _, fun _ _ _ _ h => h, fun _ h => h⟩
theorem RS.below {N : Nat} {w w' : World} (hb : Below w.heap.size w w') (hN : N ≤ w.heap.size) : RS N w w' := ⟨hb.mono hN, fun _ _ _ _ h => h.below hb, fun _ h => h.below hb⟩
theorem Sl.set1 {w : World} {g : Nat} (h : Sl w g) (A : Option Addr) (k c : Nat) : Sl (w.setCell ⟨g, 1, none⟩ (.slice A k c)) g := by
 obtain ⟨a1, k1, c1, a2, k2, c2, hb⟩ := h; have := hb.set_ 1 (.slice A k c); exact ⟨a1, k1, c1, A, k, c, this⟩
theorem Sl.setS {w : World} {g h i : Nat} (hs : Sl w g) (hi : i < 2) (A : Option Addr) (k c : Nat) : Sl (w.setCell ⟨h, i, none⟩ (.slice A k c)) g := by
 by_cases e : g = h
 ·subst e; have hi : i = 0 ∨ i = 1 := by omega
  rcases hi with rfl | rfl
  ·exact hs.set0 A k c
  ·exact hs.set1 A k c
 ·obtain ⟨a1, k1, c1, a2, k2, c2, hb⟩ := hs; exact ⟨a1, k1, c1, a2, k2, c2, Blk.far hb e _⟩
theorem RS.store {N g : Nat} {w : World} (hs : Sl w g) (hg : N ≤ g) (A : Option Addr) (k c : Nat) (A' : Option Addr) (k' c' : Nat) : RS N w ((w.setCell ⟨g, 0, none⟩ (.slice A k c)).setCell ⟨g, 1, none⟩ (.slice A' k' c')) :=
 ⟨((Below.refl N w).setCell (p := ⟨g, 0, none⟩) hg _).setCell (p := ⟨g, 1, none⟩) hg _, fun _ _ _ _ h => (h.setSl hs _).setSl (hs.set0 A k c) _, fun _ h => (h.setS (by omega) A k c).setS (by omega) A' k' c'⟩
/-- what holds all along: jr the operation whose value is stored, ja that which made the block, js the store -/
structure SD (w0 : World) (jr ja js : Nat) (L : Nat → Bool) (vs : Nat → Value) (w : World) : Prop where
 be : Below w0.heap.size w0 w
 st : L js = true → ∃ g A k c A' k' c', vs ja = .pointer (some ⟨g, 0, none⟩) ∧ vs jr = .agg #[.slice A k c, .slice A' k' c'] ∧ w0.heap.size ≤ g ∧ Blk w g 29 #[.slice A k c, .slice A' k' c']
theorem SD.start (w0 : World) (jr ja js : Nat) (vs : Nat → Value) : SD w0 jr ja js (fun _ => false) vs w0.drew := ⟨bD _, fun h => by cases h⟩
theorem SD.step {w0 : World} {jr ja js : Nat} {L : Nat → Bool} {vs : Nat → Value} {w w' : World} (h : SD w0 jr ja js L vs w) (hb : Below w.heap.size w w') (i : Nat) (v : Value) (hi : ¬ (js = i)) (hj : (i = jr ∨ i = ja) → L js = false) : SD w0 jr ja js (updB L i) (upd vs i v) w' := by
 refine ⟨h.be.trans (hb.mono h.be.size), fun hl => ?_⟩; have hl2 : L js = true := by unfold updB at hl; rwa [if_neg hi] at hl
 have n1 : ¬ (i = jr ∨ i = ja) := fun e => by rw [hj e] at hl2; cases hl2
 obtain ⟨g, A, k, c, A', k', c', e1, e2, hg, hblk⟩ := h.st hl2; exact ⟨g, A, k, c, A', k', c', by unfold upd; rw [if_neg (fun e => n1 (.inr e.symm))]; exact e1, by unfold upd; rw [if_neg (fun e => n1 (.inl e.symm))]; exact e2, hg, Blk.below hblk hb hblk.lt⟩
theorem SD.stored {w0 : World} {jr ja js : Nat} {L : Nat → Bool} {vs : Nat → Value} {w : World} (h : SD w0 jr ja js L vs w) {g : Nat} {A : Option Addr} {k c : Nat} {A' : Option Addr} {k' c' : Nat} (e1 : vs ja = .pointer (some ⟨g, 0, none⟩)) (e2 : vs jr = .agg #[.slice A k c, .slice A' k' c']) (hg : w0.heap.size ≤ g) (hs : Sl w g) (n1 : ¬ (ja = js)) (n2 : ¬ (jr = js)) (u : Value) :
  SD w0 jr ja js (updB L js) (upd vs js u) ((w.setCell ⟨g, 0, none⟩ (.slice A k c)).setCell ⟨g, 1, none⟩ (.slice A' k' c')) := by
 refine ⟨h.be.trans (RS.store hs hg A k c A' k' c').be, fun _ => ?_⟩; obtain ⟨a1, b1, c1, a2, b2, c2, hb⟩ := hs; refine ⟨g, A, k, c, A', k', c', by unfold upd; rw [if_neg n1]; exact e1, by unfold upd; rw [if_neg n2]; exact e2, hg, ?_⟩; have := (hb.set_ 0 (.slice A k c)).set_ 1 (.slice A' k' c'); exact this
theorem Sl.facts {w : World} {g : Nat} (h : Sl w g) : (∃ a, w.cell? ⟨g, 0, none⟩ = some a) ∧ (∃ a, w.cell? ⟨g, 1, none⟩ = some a) ∧ w.frozen? ⟨g, 0, none⟩ = false ∧ w.frozen? ⟨g, 1, none⟩ = false := by
 obtain ⟨r1, r2, r3, r4, r5, r6, hb⟩ := h; exact ⟨⟨_, hb.cell 0⟩, ⟨_, hb.cell 1⟩, hb.frozen 0, hb.frozen 1⟩
end Go.Proofs.YtmbfjmilhfmnkaaGreatDoor
namespace Go.Proofs.YtmbfjmilhfmnkaaGreatDoor
open Go.RowKit
/-- the limbs of a ratio, whatever they are -/
abbrev LP := List Nat × List Nat
def RtP (w : World) (v : Value) (x : LP) : Prop := RtL w v x.1 x.2
theorem RtP.below {w w' : World} {v : Value} {x : LP} (h : RtP w v x) (hb : Below w.heap.size w w') : RtP w' v x := RtL.below h hb
theorem RtP.shape {w : World} {v : Value} {x : LP} (h : RtP w v x) : ∃ A1 k1 c1 A2 k2 c2, v = .agg #[.slice A1 k1 c1, .slice A2 k2 c2] := RtL.shape h
def nilP : LP := ([], [])
def ratP (p q : Nat) : LP := (Nm.lb p, Nm.lb (Nm.dn q))
theorem nil_ratP : ratP 0 1 = nilP := by unfold ratP nilP; rw [Nm.dn_one, Nm.lb_zero]
theorem nil_rtP (w : World) : RtP w nilRat nilP := by
 have := (show Rat w (.agg #[.slice none 0 0, .slice none 0 0]) 0 1 from ⟨none, 0, 0, none, 0, 0, rfl, Nb.zero _, Nb.zero _⟩).rtl
 rwa [Nm.dn_one, Nm.lb_zero] at this
theorem Rat.rtP {w : World} {v : Value} {p q : Nat} (h : Rat w v p q) : RtP w v (ratP p q) := h.rtl
def validP (x : LP) : Int := Nm.validE x.1 x.2
theorem RtP.good {w : World} {v : Value} {x : LP} (h : RtP w v x) (hv : validP x = 0) : ∃ p q, x = ratP p q ∧ Nm.Good p q ∧ Rat w v p q := by
 obtain ⟨p, q, ⟨e1, e2, hg⟩, hr⟩ := RtL.good h hv; exact ⟨p, q, Prod.ext e1 e2, hg, hr⟩
theorem numL_rat {p q : Nat} (hg : Nm.Good p q) : numL (ratP p q) = (p, q) := numL_good ⟨rfl, rfl, hg⟩
theorem valid_rat {p q : Nat} (hg : Nm.Good p q) : validP (ratP p q) = 0 := Nm.validE_of hg
open Classical in
/-- n by d in lowest form, if it fits -/
noncomputable def resP (n d : Nat) : Int × LP := if Nm.Fits (n / Nat.gcd n d) (d / Nat.gcd n d) then (0, ratP (n / Nat.gcd n d) (d / Nat.gcd n d)) else (4, nilP)
theorem RedP.resP {w : World} {v : Value} {er : Int} {n d : Nat} (h : RedP w v er n d) : er = (resP n d).1 ∧ RtP w v (resP n d).2 := by
 unfold YtmbfjmilhfmnkaaGreatDoor.resP
 rcases h with ⟨h1, h2, h3⟩ | ⟨h1, h2, h3⟩
 ·rw [if_pos h1]; exact ⟨h2, h3.rtP⟩
 ·rw [if_neg h1]; exact ⟨h2, by rw [h3]; exact nil_rtP w⟩
noncomputable def binF (f : Nat × Nat → Nat × Nat → Int × LP) (a b : LP) : Int × LP := if firstE (validP a) (validP b) ≠ 0 then (firstE (validP a) (validP b), nilP) else f (numL a) (numL b)
theorem binF_bad {f : Nat × Nat → Nat × Nat → Int × LP} {a b : LP} (h : firstE (validP a) (validP b) ≠ 0) : binF f a b = (firstE (validP a) (validP b), nilP) := if_pos h
theorem binF_rat {f : Nat × Nat → Nat × Nat → Int × LP} {pa qa pb qb : Nat} (ga : Nm.Good pa qa) (gb : Nm.Good pb qb) : binF f (ratP pa qa) (ratP pb qb) = f (pa, qa) (pb, qb) := by
 unfold binF; rw [if_neg (by rw [valid_rat ga, valid_rat gb]; simp [firstE]), numL_rat ga, numL_rat gb]
noncomputable def addF : LP → LP → Int × LP := binF fun x y => resP (x.1 * y.2 + y.1 * x.2) (x.2 * y.2)
noncomputable def subF : LP → LP → Int × LP := binF fun x y => if x.1 * y.2 < y.1 * x.2 then (5, nilP) else resP (x.1 * y.2 - y.1 * x.2) (x.2 * y.2)
noncomputable def mulF : LP → LP → Int × LP := binF fun x y => resP (x.1 * y.1) (x.2 * y.2)
noncomputable def divF : LP → LP → Int × LP := binF fun x y => if y.1 = 0 then (5, nilP) else resP (x.1 * y.2) (x.2 * y.1)
/-- an operation on two ratios does what f says -/
def BinC (fn : Nat) (f : LP → LP → Int × LP) : Prop := ∀ (va vb : Value) (a b : LP) (w : World), RtP w va a → RtP w vb b → Calls Tryz.prog fn #[va, vb] w fun e w' => ∃ v, e = .returned (.tuple #[v, .int .i64 (f a b).1]) ∧ RtP w' v (f a b).2 ∧ Below w.heap.size w w'
theorem binC_of {fn : Nat} {f : Nat × Nat → Nat × Nat → Int × LP}
  (he : ∀ (va vb : Value) (a b : LP) (w : World), RtP w va a → RtP w vb b → firstE (validP a) (validP b) ≠ 0 → Calls Tryz.prog fn #[va, vb] w fun e w' => e = .returned (.tuple #[nilRat, .int .i64 (firstE (validP a) (validP b))]) ∧ Below w.heap.size w w')
  (hg : ∀ (va vb : Value) (pa qa pb qb : Nat) (w : World), Rat w va pa qa → Rat w vb pb qb → Nm.Good pa qa → Nm.Good pb qb → Calls Tryz.prog fn #[va, vb] w fun e w' => ∃ v, e = .returned (.tuple #[v, .int .i64 (f (pa, qa) (pb, qb)).1]) ∧ RtP w' v (f (pa, qa) (pb, qb)).2 ∧ Below w.heap.size w w') : BinC fn (binF f) := by
 intro va vb a b w ha hb; by_cases h : firstE (validP a) (validP b) = 0
 ·obtain ⟨e1, e2⟩ := firstE_zero.1 h; obtain ⟨pa, qa, rfl, ga, ra⟩ := ha.good e1; obtain ⟨pb, qb, rfl, gb, rb⟩ := hb.good e2; rw [binF_rat ga gb]; exact hg va vb pa qa pb qb w ra rb ga gb
 ·rw [binF_bad h]; refine (he va vb a b w ha hb h).mono ?_; rintro e w' ⟨rfl, hb⟩; exact ⟨_, rfl, nil_rtP w', hb⟩
end Go.Proofs.YtmbfjmilhfmnkaaGreatDoor
namespace Go.Proofs.YtmbfjmilhfmnkaaGreatDoor
open Go.RowKit
set_option maxRecDepth 10000 in
set_option maxHeartbeats 1000000 in
theorem plus_any (A1 A2 : Option Addr) (c1 c2 : Nat) (x y : List Nat) (w : World) (hx : Lim w A1 c1 x) (hy : Lim w A2 c2 y) (hxl : x.length ≤ 1048576) (hyl : y.length ≤ 1048576) :
  Calls Tryz.prog 71 #[.slice A1 x.length c1, .slice A2 y.length c2] w fun e w' => ∃ A n, e = .returned (.slice A n n) ∧ n = (Nm.lb (Nm.nv x + Nm.nv y)).length ∧ Lim w' A n (Nm.lb (Nm.nv x + Nm.nv y)) ∧ Below w.heap.size w w' := by
 go_enter Tryz.func71, Tryz.ntmps71
 by_cases hsw : x.length < y.length
 ·have hxl2 : y.length ≤ 1048576 := by omega
  have t0 : decide ((x.length : Int) < (y.length : Int)) = true := by simp; omega
  have s0 : IntKind.i64.wrap ((y.length : Int) + 1) = (y.length : Int) + 1 := by rw [IntWalk.i64_in _ (by omega)]
  have hmk := run_make32 (↑y.length + 1) (y.length + 1) (by omega) (by omega)
  go_wp2
  go_loopw [23, 6] (fun t v wr => ∃ (i : Nat) (out : List Nat) (cy : Nat), t = .int .i64 i ∧ i ≤ y.length ∧ v = .int .u32 cy ∧ cy ≤ 1 ∧ Row wr w.heap.size out ∧ Hid (Nm.PlQ y x out (y.length + 1) i cy) ∧ Below w.heap.size w wr) (fun t _ _ => y.length - (intOf t).toNat)
  case atStart => exact ⟨0, _, 0, rfl, Nat.zero_le _, rfl, by omega, Row.new w _, Nm.PlQ.start, bA w _⟩
  case round =>
   obtain ⟨i, out, cy, rfl, hi, rfl, hcy, hrow, HP, hb⟩ := hrel; by_cases hlt : i < y.length
   ·obtain ⟨bx, ox, a, rfl, hca, ha, HA⟩ := (hy.below hb).get hlt; obtain ⟨o, hco, hfo, ho, HO⟩ := hrow.get (k := i) (by have := HP.out.1; omega); by_cases hly : i < x.length
    ·obtain ⟨by_, oy, b, rfl, hcb, hbl, HB⟩ := (hx.below hb).get hly
     go_wp2_with (go_at_call 92; refine (add32_w a b cy _ ha hbl hcy).mono ?_; rintro e w' ⟨u, c1', rfl, hul, hc1, HU, rfl⟩)
     go_roundw
     case rel => exact ⟨i + 1, _, c1', by go_num, by omega, rfl, hc1, hrow.set_ _ _ hul, HP.out.step (by omega) HA HB HU.out, hb.setCell (Nat.le_refl _) _⟩
     case measure => simp [intOf]; omega
    ·have HB : Hid ((0 : Nat) = x.getD i 0) := by show _ = _; simp [List.getD, List.getElem?_eq_none (Nat.le_of_not_lt hly)]
     go_wp2_with (go_at_call 92; refine (add32_w a 0 cy _ ha (by omega) hcy).mono ?_; rintro e w' ⟨u, c1', rfl, hul, hc1, HU, rfl⟩)
     go_roundw
     case rel => exact ⟨i + 1, _, c1', by go_num, by omega, rfl, hc1, hrow.set_ _ _ hul, HP.out.step (by omega) HA HB.out HU.out, hb.setCell (Nat.le_refl _) _⟩
     case measure => simp [intOf]; omega
   ·obtain rfl : i = y.length := by omega
    obtain ⟨o, hco, hfo, ho, HO⟩ := hrow.get (k := y.length) (by have := HP.out.1; omega); have hcl : cy < 4294967296 := by omega
    have hr2 := hrow.set_ y.length cy hcl; have hN : Nm.nv (out.set y.length cy) = Nm.nv y + Nm.nv x := HP.out.last (Nat.le_refl _) (by omega); have hln : (out.set y.length cy).length = y.length + 1 := by rw [List.length_set]; exact HP.out.1
    have HN := Lib.hid hN; have HLN := Lib.hid hln; clear hN hln
    go_wp2_with (go_at_call 60; have hlen := HLN.out; rw [show (((y.length + 1 : Nat)) : Nat) = (out.set y.length cy).length from hlen.symm]; refine (trim_any _ _ _ _ (hr2.lim (Nat.le_refl _) (by omega))).mono ?_; rintro e w' ⟨rfl, rfl⟩)
    go_ret; refine ⟨_, _, rfl, by rw [HN.out, Nat.add_comm], ?_, hb.setCell (Nat.le_refl _) _⟩; rw [Nat.add_comm (Nm.nv x), ← HN.out]; exact (hr2.lim (Nat.le_refl _) (by rw [HLN.out]; omega)).trim
 ·have hxl2 : x.length ≤ 1048576 := by omega
  have t0 : decide ((x.length : Int) < (y.length : Int)) = false := by simp; omega
  have s0 : IntKind.i64.wrap ((x.length : Int) + 1) = (x.length : Int) + 1 := by rw [IntWalk.i64_in _ (by omega)]
  have hmk := run_make32 (↑x.length + 1) (x.length + 1) (by omega) (by omega)
  go_wp2
  go_loopw [23, 6] (fun t v wr => ∃ (i : Nat) (out : List Nat) (cy : Nat), t = .int .i64 i ∧ i ≤ x.length ∧ v = .int .u32 cy ∧ cy ≤ 1 ∧ Row wr w.heap.size out ∧ Hid (Nm.PlQ x y out (x.length + 1) i cy) ∧ Below w.heap.size w wr) (fun t _ _ => x.length - (intOf t).toNat)
  case atStart => exact ⟨0, _, 0, rfl, Nat.zero_le _, rfl, by omega, Row.new w _, Nm.PlQ.start, bA w _⟩
  case round =>
   obtain ⟨i, out, cy, rfl, hi, rfl, hcy, hrow, HP, hb⟩ := hrel; by_cases hlt : i < x.length
   ·obtain ⟨bx, ox, a, rfl, hca, ha, HA⟩ := (hx.below hb).get hlt; obtain ⟨o, hco, hfo, ho, HO⟩ := hrow.get (k := i) (by have := HP.out.1; omega); by_cases hly : i < y.length
    ·obtain ⟨by_, oy, b, rfl, hcb, hbl, HB⟩ := (hy.below hb).get hly
     go_wp2_with (go_at_call 92; refine (add32_w a b cy _ ha hbl hcy).mono ?_; rintro e w' ⟨u, c1', rfl, hul, hc1, HU, rfl⟩)
     go_roundw
     case rel => exact ⟨i + 1, _, c1', by go_num, by omega, rfl, hc1, hrow.set_ _ _ hul, HP.out.step (by omega) HA HB HU.out, hb.setCell (Nat.le_refl _) _⟩
     case measure => simp [intOf]; omega
    ·have HB : Hid ((0 : Nat) = y.getD i 0) := by show _ = _; simp [List.getD, List.getElem?_eq_none (Nat.le_of_not_lt hly)]
     go_wp2_with (go_at_call 92; refine (add32_w a 0 cy _ ha (by omega) hcy).mono ?_; rintro e w' ⟨u, c1', rfl, hul, hc1, HU, rfl⟩)
     go_roundw
     case rel => exact ⟨i + 1, _, c1', by go_num, by omega, rfl, hc1, hrow.set_ _ _ hul, HP.out.step (by omega) HA HB.out HU.out, hb.setCell (Nat.le_refl _) _⟩
     case measure => simp [intOf]; omega
   ·obtain rfl : i = x.length := by omega
    obtain ⟨o, hco, hfo, ho, HO⟩ := hrow.get (k := x.length) (by have := HP.out.1; omega); have hcl : cy < 4294967296 := by omega
    have hr2 := hrow.set_ x.length cy hcl; have hN : Nm.nv (out.set x.length cy) = Nm.nv x + Nm.nv y := HP.out.last (Nat.le_refl _) (by omega); have hln : (out.set x.length cy).length = x.length + 1 := by rw [List.length_set]; exact HP.out.1
    have HN := Lib.hid hN; have HLN := Lib.hid hln; clear hN hln
    go_wp2_with (go_at_call 60; have hlen := HLN.out; rw [show (((x.length + 1 : Nat)) : Nat) = (out.set x.length cy).length from hlen.symm]; refine (trim_any _ _ _ _ (hr2.lim (Nat.le_refl _) (by omega))).mono ?_; rintro e w' ⟨rfl, rfl⟩)
    go_ret; refine ⟨_, _, rfl, by rw [HN.out], ?_, hb.setCell (Nat.le_refl _) _⟩; rw [← HN.out]; exact (hr2.lim (Nat.le_refl _) (by rw [HLN.out]; omega)).trim
set_option maxRecDepth 10000 in
set_option maxHeartbeats 1000000 in
theorem minus_any (A1 A2 : Option Addr) (c1 c2 : Nat) (x y : List Nat) (w : World) (hx : Lim w A1 c1 x) (hy : Lim w A2 c2 y) (hxl : x.length ≤ 1048576) (hyl : y.length ≤ x.length) (hle : Nm.nv y ≤ Nm.nv x) :
  Calls Tryz.prog 73 #[.slice A1 x.length c1, .slice A2 y.length c2] w fun e w' => ∃ A n, e = .returned (.slice A n n) ∧ n = (Nm.lb (Nm.nv x - Nm.nv y)).length ∧ Lim w' A n (Nm.lb (Nm.nv x - Nm.nv y)) ∧ Below w.heap.size w w' := by
 have HLE := Lib.hid hle; clear hle; have hmk := run_make32 (↑x.length) x.length rfl (by omega)
 go_enter Tryz.func73, Tryz.ntmps73
 go_wp2
 go_loopw [15, 6] (fun t v wr => ∃ (i : Nat) (out : List Nat) (cy : Nat), t = .int .i64 i ∧ i ≤ x.length ∧ v = .int .u32 cy ∧ cy ≤ 1 ∧ Row wr w.heap.size out ∧ Hid (Nm.MiQ x y out x.length i cy) ∧ Below w.heap.size w wr) (fun t _ _ => x.length - (intOf t).toNat)
 case atStart => exact ⟨0, _, 0, rfl, Nat.zero_le _, rfl, by omega, Row.new w _, Nm.MiQ.start, bA w _⟩
 case round =>
  obtain ⟨i, out, cy, rfl, hi, rfl, hcy, hrow, HP, hb⟩ := hrel; by_cases hlt : i < x.length
  ·obtain ⟨bx, ox, a, rfl, hca, ha, HA⟩ := (hx.below hb).get hlt; obtain ⟨o, hco, hfo, ho, HO⟩ := hrow.get (k := i) (by have := HP.out.1; omega); by_cases hly : i < y.length
   ·obtain ⟨by_, oy, b, rfl, hcb, hbl, HB⟩ := (hy.below hb).get hly
    go_wp2_with (go_at_call 93; refine (sub32_w a b cy _ ha hbl hcy).mono ?_; rintro e w' ⟨u, c1', rfl, hul, hc1, HU, rfl⟩)
    go_roundw
    case rel => exact ⟨i + 1, _, c1', by go_num, by omega, rfl, hc1, hrow.set_ _ _ hul, HP.out.step (by omega) HA HB HU.out, hb.setCell (Nat.le_refl _) _⟩
    case measure => simp [intOf]; omega
   ·have HB : Hid ((0 : Nat) = y.getD i 0) := by show _ = _; simp [List.getD, List.getElem?_eq_none (Nat.le_of_not_lt hly)]
    go_wp2_with (go_at_call 93; refine (sub32_w a 0 cy _ ha (by omega) hcy).mono ?_; rintro e w' ⟨u, c1', rfl, hul, hc1, HU, rfl⟩)
    go_roundw
    case rel => exact ⟨i + 1, _, c1', by go_num, by omega, rfl, hc1, hrow.set_ _ _ hul, HP.out.step (by omega) HA HB.out HU.out, hb.setCell (Nat.le_refl _) _⟩
    case measure => simp [intOf]; omega
  ·obtain rfl : i = x.length := by omega
   have hN : Nm.nv out = Nm.nv x - Nm.nv y := HP.out.done (Nat.le_refl _) hyl hrow.2 HLE.out; have HN := Lib.hid hN; clear hN
   go_wp2_with (go_at_call 60; have hlen := HP.out.1; rw [← hlen]; refine (trim_any _ _ _ _ (hrow.lim (Nat.le_refl _) (by omega))).mono ?_; rintro e w' ⟨rfl, rfl⟩)
   go_ret; refine ⟨_, _, rfl, by rw [HN.out], ?_, hb⟩; rw [← HN.out]; exact (hrow.lim (Nat.le_refl _) (by rw [HP.out.1]; omega)).trim
theorem plus_n (A1 A2 : Option Addr) (c1 c2 k1 k2 x y : Nat) (w : World) (h1 : Nb w A1 k1 c1 x) (h2 : Nb w A2 k2 c2 y) (hl1 : k1 ≤ 65536) (hl2 : k2 ≤ 65536) :
  Calls Tryz.prog 71 #[.slice A1 k1 c1, .slice A2 k2 c2] w fun e w' => ∃ A k c, e = .returned (.slice A k c) ∧ Nb w' A k c (x + y) ∧ Below w.heap.size w w' := by
 obtain ⟨rfl, h1⟩ := h1; obtain ⟨rfl, h2⟩ := h2; refine (plus_any A1 A2 c1 c2 _ _ w h1 h2 (by omega) (by omega)).mono ?_; rintro e w' ⟨A, n, rfl, hn, hl, hb⟩; rw [Nm.nv_lb, Nm.nv_lb] at hn hl; exact ⟨A, n, n, rfl, ⟨hn, hl⟩, hb⟩
theorem minus_n (A1 A2 : Option Addr) (c1 c2 k1 k2 x y : Nat) (w : World) (h1 : Nb w A1 k1 c1 x) (h2 : Nb w A2 k2 c2 y) (hl1 : k1 ≤ 65536) (hl2 : k2 ≤ 65536) (hle : y ≤ x) :
  Calls Tryz.prog 73 #[.slice A1 k1 c1, .slice A2 k2 c2] w fun e w' => ∃ A k c, e = .returned (.slice A k c) ∧ Nb w' A k c (x - y) ∧ Below w.heap.size w w' := by
 obtain ⟨rfl, h1⟩ := h1; obtain ⟨rfl, h2⟩ := h2; refine (minus_any A1 A2 c1 c2 _ _ w h1 h2 (by omega) (Nm.lb_length_le_of_lt hle) (by rw [Nm.nv_lb, Nm.nv_lb]; exact hle)).mono ?_; rintro e w' ⟨A, n, rfl, hn, hl, hb⟩; rw [Nm.nv_lb, Nm.nv_lb] at hn hl; exact ⟨A, n, n, rfl, ⟨hn, hl⟩, hb⟩
end Go.Proofs.YtmbfjmilhfmnkaaGreatDoor
