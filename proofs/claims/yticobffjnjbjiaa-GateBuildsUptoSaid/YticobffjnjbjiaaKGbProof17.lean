import Derived.Test.YticobffjnjbjiaaJ09
import Derived.Test.YticobffjnjbjiaaJ15
import Derived.Test.YticobffjnjbjiaaS0
set_option linter.unusedVariables false
set_option linter.unusedSimpArgs false
namespace Go.Proofs.Yticobffjnjbjiaa
open Go.RowKit
/-- two rows of limbs are those of a valid ratio -/
def GoodL (l1 l2 : List Nat) (p q : Nat) : Prop := l1 = Nm.lb p ∧ l2 = Nm.lb (Nm.dn q) ∧ Nm.Good p q
theorem RtL.good {w : World} {v : Value} {l1 l2 : List Nat} (h : RtL w v l1 l2) (hv : Nm.validE l1 l2 = 0) : ∃ p q, GoodL l1 l2 p q ∧ Rat w v p q := by
 obtain ⟨A1, k1, c1, A2, k2, c2, rfl, h1, h2, h3, h4⟩ := h; obtain ⟨p, q, e1, e2, hg⟩ := Nm.validE_spec h1.2.2.2.1 h2.2.2.2.1 hv; subst e1 e2; exact ⟨p, q, ⟨rfl, rfl, hg⟩, _, _, _, _, _, _, rfl, ⟨h3, h1⟩, ⟨h4, h2⟩⟩
theorem firstE_zero {a b : Int} : firstE a b = 0 ↔ a = 0 ∧ b = 0 := by
 unfold firstE; split <;> simp_all
/-- what an operation on two ratios says, with what it says of valid ones -/
def OpP (R : World → Value → Int → Nat → Nat → Nat → Nat → Prop) (l1 l2 l3 l4 : List Nat) (w : World) (v : Value) (er : Int) : Prop :=
 (firstE (Nm.validE l1 l2) (Nm.validE l3 l4) ≠ 0 ∧ er = firstE (Nm.validE l1 l2) (Nm.validE l3 l4) ∧ v = nilRat) ∨ (∃ pa qa pb qb, GoodL l1 l2 pa qa ∧ GoodL l3 l4 pb qb ∧ R w v er pa qa pb qb)
def MulR (w : World) (v : Value) (er : Int) (pa qa pb qb : Nat) : Prop := RedP w v er (pa * pb) (qa * qb)
set_option maxRecDepth 10000 in
set_option maxHeartbeats 2000000 in
theorem mul_err (va vb : Value) (l1 l2 l3 l4 : List Nat) (w : World) (ha : RtL w va l1 l2) (hb : RtL w vb l3 l4) (hne : firstE (Nm.validE l1 l2) (Nm.validE l3 l4) ≠ 0) :
  Calls Try.prog 57 #[va, vb] w fun e w' => e = .returned (.tuple #[nilRat, .int .i64 (firstE (Nm.validE l1 l2) (Nm.validE l3 l4))]) ∧ Below w.heap.size w w' := by
 obtain ⟨A1, k1, c1, A2, k2, c2, rfl⟩ := ha.shape; obtain ⟨B1, m1, d1, B2, m2, d2, rfl⟩ := hb.shape; obtain ⟨W1, HW1⟩ : ∃ W1, Hid (W1 = (((w.alloc (.cells #[.slice A1 k1 c1, .slice A2 k2 c2] 24)).alloc (.cells #[.slice B1 m1 d1, .slice B2 m2 d2] 24)).alloc (.cells #[.slice none 0 0, .slice none 0 0] 24))) := ⟨_, rfl⟩
 have hres : Res W1 (w.heap.size + 2) := by
  rw [HW1.out]; have := Blk.new ((w.alloc (.cells #[.slice A1 k1 c1, .slice A2 k2 c2] 24)).alloc (.cells #[.slice B1 m1 d1, .slice B2 m2 d2] 24)) 24 #[.slice none 0 0, .slice none 0 0]; unfold Res; simpa using this
 have hbw1 : Below w.heap.size w W1 := by rw [HW1.out]; exact Below.tr (Below.tr (bA _ _) (bA _ _)) (bA _ _)
 obtain ⟨W, HW⟩ : ∃ W, Hid (W = (W1.alloc (.cells #[.slice A1 k1 c1, .slice A2 k2 c2, .slice B1 m1 d1, .slice B2 m2 d2] 24))) := ⟨_, rfl⟩
 have hp : Pair W (w.heap.size + 3) (.slice A1 k1 c1) (.slice A2 k2 c2) (.slice B1 m1 d1) (.slice B2 m2 d2) := by
  have := Blk.new W1 24 #[.slice A1 k1 c1, .slice A2 k2 c2, .slice B1 m1 d1, .slice B2 m2 d2]; rw [HW.out]; have e : W1.heap.size = w.heap.size + 3 := by rw [HW1.out]; simp
  rw [e] at this; exact this
 have hbw : Below w.heap.size w W := by rw [HW.out]; exact Below.tr hbw1 (bA _ _)
 have hres := hres.below (show Below W1.heap.size W1 W by rw [HW.out]; exact bA _ _); have ha1 := ha.below hbw; have hb1 := hb.below hbw
 go_enter Try.func57, Try.ntmps57
 go_wp2_with fail; rw [← HW1.out, ← HW.out]; refine (valid2_any _ _ _ _ _ l1 l2 l3 l4 _ hp ha1 hb1).mono ?_; rintro e W2 ⟨E, rfl, HE, hbe⟩; have h0 : (E != 0) = true := by rw [HE.out]; simpa using hne
 have hres2 := hres.below hbe; obtain ⟨r1, r2, r3, r4⟩ := hres2.facts; obtain ⟨s1, s2⟩ := hres2.set2 (.slice none 0 0) (.slice none 0 0); have hbw2 := below_set2 (Below.tr hbw hbe) (show w.heap.size ≤ w.heap.size + 2 by omega) (.slice none 0 0) (.slice none 0 0); clear hne; go_wp2_with fail; exact bodyPost_ret (v := .tuple #[nilRat, .int .i64 E]) (by simp [results, Try.results57, go_sem, s1, s2, nilRat]) rfl ⟨by rw [HE.out], hbw2⟩
set_option maxRecDepth 10000 in
set_option maxHeartbeats 2000000 in
theorem rmul_err (va vb : Value) (l1 l2 l3 l4 : List Nat) (w : World) (ha : RtL w va l1 l2) (hb : RtL w vb l3 l4) (hne : firstE (Nm.validE l1 l2) (Nm.validE l3 l4) ≠ 0) :
  Calls Try.prog 60 #[va, vb] w fun e w' => e = .returned (.tuple #[nilRat, .int .i64 (firstE (Nm.validE l1 l2) (Nm.validE l3 l4))]) ∧ Below w.heap.size w w' := by
 obtain ⟨A1, k1, c1, A2, k2, c2, rfl⟩ := ha.shape; obtain ⟨B1, m1, d1, B2, m2, d2, rfl⟩ := hb.shape; obtain ⟨W1, HW1⟩ : ∃ W1, Hid (W1 = (((w.alloc (.cells #[.slice A1 k1 c1, .slice A2 k2 c2] 24)).alloc (.cells #[.slice B1 m1 d1, .slice B2 m2 d2] 24)).alloc (.cells #[.slice none 0 0, .slice none 0 0] 24))) := ⟨_, rfl⟩
 have hres : Res W1 (w.heap.size + 2) := by
  rw [HW1.out]; have := Blk.new ((w.alloc (.cells #[.slice A1 k1 c1, .slice A2 k2 c2] 24)).alloc (.cells #[.slice B1 m1 d1, .slice B2 m2 d2] 24)) 24 #[.slice none 0 0, .slice none 0 0]; unfold Res; simpa using this
 have hbw1 : Below w.heap.size w W1 := by rw [HW1.out]; exact Below.tr (Below.tr (bA _ _) (bA _ _)) (bA _ _)
 have ha1 := ha.below hbw1; have hb1 := hb.below hbw1; have hbw := hbw1
 go_enter Try.func60, Try.ntmps60
 go_wp2_with fail; rw [← HW1.out]; refine (rboth_any _ _ l1 l2 l3 l4 _ ha1 hb1).mono ?_; rintro e W2 ⟨E, rfl, HE, hbe⟩; have h0 : (E != 0) = true := by rw [HE.out]; simpa using hne
 have hres2 := hres.below hbe; obtain ⟨r1, r2, r3, r4⟩ := hres2.facts; obtain ⟨s1, s2⟩ := hres2.set2 (.slice none 0 0) (.slice none 0 0); have hbw2 := below_set2 (Below.tr hbw hbe) (show w.heap.size ≤ w.heap.size + 2 by omega) (.slice none 0 0) (.slice none 0 0); clear hne; go_wp2_with fail; exact bodyPost_ret (v := .tuple #[nilRat, .int .i64 E]) (by simp [results, Try.results60, go_sem, s1, s2, nilRat]) rfl ⟨by rw [HE.out], hbw2⟩
theorem mul_any (va vb : Value) (l1 l2 l3 l4 : List Nat) (w : World) (ha : RtL w va l1 l2) (hb : RtL w vb l3 l4) :
  Calls Try.prog 57 #[va, vb] w fun e w' => ∃ v er, e = .returned (.tuple #[v, .int .i64 er]) ∧ Hid (OpP MulR l1 l2 l3 l4 w' v er) ∧ Below w.heap.size w w' := by
 by_cases h : firstE (Nm.validE l1 l2) (Nm.validE l3 l4) = 0
 ·obtain ⟨e1, e2⟩ := firstE_zero.1 h; obtain ⟨pa, qa, g1, r1⟩ := ha.good e1; obtain ⟨pb, qb, g2, r2⟩ := hb.good e2; refine (mul_n va vb pa qa pb qb w r1 r2 g1.2.2 g2.2.2).mono ?_; rintro e w' ⟨v, er, rfl, hr, hb⟩; exact ⟨v, er, rfl, .inr ⟨pa, qa, pb, qb, g1, g2, hr⟩, hb⟩
 ·refine (mul_err va vb l1 l2 l3 l4 w ha hb h).mono ?_; rintro e w' ⟨rfl, hb⟩; exact ⟨_, _, rfl, .inl ⟨h, rfl, rfl⟩, hb⟩
theorem rmul_any (va vb : Value) (l1 l2 l3 l4 : List Nat) (w : World) (ha : RtL w va l1 l2) (hb : RtL w vb l3 l4) :
  Calls Try.prog 60 #[va, vb] w fun e w' => ∃ v er, e = .returned (.tuple #[v, .int .i64 er]) ∧ Hid (OpP MulR l1 l2 l3 l4 w' v er) ∧ Below w.heap.size w w' := by
 by_cases h : firstE (Nm.validE l1 l2) (Nm.validE l3 l4) = 0
 ·obtain ⟨e1, e2⟩ := firstE_zero.1 h; obtain ⟨pa, qa, g1, r1⟩ := ha.good e1; obtain ⟨pb, qb, g2, r2⟩ := hb.good e2; refine (rmul_n va vb pa qa pb qb w r1 r2 g1.2.2 g2.2.2).mono ?_; rintro e w' ⟨v, er, rfl, hr, hb⟩; exact ⟨v, er, rfl, .inr ⟨pa, qa, pb, qb, g1, g2, hr⟩, hb⟩
 ·refine (rmul_err va vb l1 l2 l3 l4 w ha hb h).mono ?_; rintro e w' ⟨rfl, hb⟩; exact ⟨_, _, rfl, .inl ⟨h, rfl, rfl⟩, hb⟩
end Go.Proofs.Yticobffjnjbjiaa
namespace Go.Proofs.Yticobffjnjbjiaa
open Go
/- The same, where what holds all along may speak of the slots' values before they are written. -/
section
variable {P : Program} {ops : Array Oper} {Q : Exit → Act → World → Prop} {md : Region.Mode}
theorem wpAny_invv {Φ : Nat → World → Value → Prop} {R : World → World → Prop} (S : (Nat → Bool) → (Nat → Value) → World → Prop) (a0 : Act) (hd : apartL ops.toList = true) (hb : backC md ops = true)
  (hΦ : ∀ w w', R w w' → ∀ j x, Φ j w x → Φ j w' x)
  (hstep : ∀ i o, ops[i]? = some o → ∀ vs (L : Nat → Bool) w, S L vs w → L i = false → (∀ j o', ops[j]? = some o' → L j = true → ∀ e ∈ o'.after, Region.binds md e = true → L e.on = true) → (∀ e ∈ o.after, Region.binds md e = true → Φ e.on w (vs e.on)) →
   ∀ K : Act → World → Prop, (∀ v w', R w w' → S (updB L i) (upd vs i v) w' → Φ i w' v → K ((fillR ops.toList 0 vs a0).put o.dst v) w') →
    if Region.wanted o (yielded ops (fillR ops.toList 0 vs a0).tmps) = true then Oper.wp P o (fillR ops.toList 0 vs a0) w K Q else K ((fillR ops.toList 0 vs a0).put o.dst undef) w)
  (hend : ∀ vs L w, S L vs w → (∀ i, i < ops.size → L i = true) → (∀ i, i < ops.size → Φ i w (vs i)) → Q .normal (fillR ops.toList 0 vs a0) w) :
  ∀ (fuel : Nat) (listed : Array Bool) (vs : Nat → Value) (w : World), listed.size = ops.size → listed.toList.count false = fuel → closedB md ops listed → S (fun j => listed.getD j false) vs w → (∀ j, listed.getD j false = true → Φ j w (vs j)) →
   wpAny P md ops Q fuel listed (fillR ops.toList 0 vs a0) w := by
 intro fuel
 induction fuel with
 | zero =>
  intro listed vs w hs hc hcl hSw hl
  have hall : ∀ i, i < ops.size → listed.getD i false = true := by
   intro i hi; have h' : i < listed.size := by omega
   rw [List.count_eq_zero] at hc
   cases hx : listed.getD i false with
   | true => rfl
   | false =>
    exfalso
    apply hc
    simp [h'] at hx; rw [← hx]; exact Array.getElem_mem_toList h'
  refine ⟨?_, hend vs _ w hSw hall (fun i hi => hl i (hall i hi))⟩; rw [List.eq_nil_iff_forall_not_mem]; intro i hi; obtain ⟨h1, o, ho, _⟩ := mem_ready.1 hi; have hi' : i < ops.size := (Array.getElem?_eq_some_iff.1 ho).1; have h2 := hall i hi'; have h' : i < listed.size := by omega
  simp [h'] at h1 h2; rw [h1] at h2
  cases h2
 | succ fuel ih =>
  intro listed vs w hs hc hcl hSw hl; refine ⟨fun hr => hend vs _ w hSw (all_listedC hb hs hr) (fun i hi => hl i (all_listedC hb hs hr i hi)), fun i hi => ?_⟩; obtain ⟨h1, o, ho, hall⟩ := mem_ready.1 hi; have hi' : i < ops.size := (Array.getElem?_eq_some_iff.1 ho).1; have hil : i < listed.size := by omega
  have hun : listed.getD i false = false := by simp [hil] at h1 ⊢; exact h1
  refine wpOp_step ho fun K' hK => ?_
  refine hstep i o ho vs _ w hSw hun hcl (fun e he hbd => hl e.on (hall e he hbd)) K' fun v w' hR hS' hv => ?_
  apply hK
  rw [fillR_upd ops.toList 0 i vs a0 o v hd (by simpa using ho), Nat.zero_add]
  have hset : (fun j => (listed.setIfInBounds i true).getD j false) = updB (fun j => listed.getD j false) i := by
   funext j
   unfold updB; by_cases hji : j = i
   ·subst hji; simp [hil]
   ·rw [if_neg hji]; simp [Array.getElem?_setIfInBounds, Ne.symm hji]
  refine ih _ _ _ (by simp [hs]) ?_ ?_ (by rw [hset]; exact hS') ?_
  ·have h1' : listed.toList[i]'(by simpa using hil) = false := by simp [hil] at h1; simpa using h1
   simp only [Array.toList_setIfInBounds]; rw [List.count_set (by simpa using hil), h1', hc]; simp
  ·intro j oj hj hlj e he hbd; by_cases hei : e.on = i
   ·rw [hei]; simp [hil]
   ·have hold : listed.getD e.on false = true := by
     by_cases hji : j = i
     ·subst hji; have : oj = o := Option.some.inj (hj.symm.trans ho); subst this; exact hall e he hbd
     ·refine hcl j oj hj ?_ e he hbd; simp [Array.getElem?_setIfInBounds, Ne.symm hji] at hlj
      simpa using hlj
    simp [Array.getElem?_setIfInBounds, Ne.symm hei] at hold ⊢; exact hold
  ·intro j hj; by_cases hji : j = i
   ·subst hji; rw [show upd vs j v j = v from if_pos rfl]; exact hv
   ·rw [show upd vs i v j = vs j from if_neg hji]; refine hΦ _ _ hR j _ (hl j ?_); simp [Array.getElem?_setIfInBounds, Ne.symm hji] at hj
    simpa using hj
/-- what an operation owes; S knows what is listed, and the slots -/
def OwesV (P : Program) (Q : Exit → Act → World → Prop) (l : List Oper) (F : (Nat → Value) → Act) (Φ : Nat → World → Value → Prop) (R : World → World → Prop) (S : (Nat → Bool) → (Nat → Value) → World → Prop) (i : Nat) (o : Oper) : Prop :=
 ∀ vs (L : Nat → Bool) w, S L vs w → L i = false → (∀ j o', l[j]? = some o' → L j = true → ∀ e ∈ o'.after.toList, Region.binds .any e = true → L e.on = true) → (∀ e ∈ o.after.toList, Region.binds .any e = true → Φ e.on w (vs e.on)) → ∀ K : Act → World → Prop, (∀ v w', R w w' → S (updB L i) (upd vs i v) w' → Φ i w' v → K ((F vs).put o.dst v) w') →
  Wrap (if Region.wanted o (yielded l.toArray (F vs).tmps) = true then Oper.wp P o (F vs) w K Q else K ((F vs).put o.dst undef) w)
theorem region_invV {id : Nat} {a0 : Act} {w : World} {l : List Oper} {F : (Nat → Value) → Act} (Φ : Nat → World → Value → Prop) (R : World → World → Prop) (S : (Nat → Bool) → (Nat → Value) → World → Prop) (hm : P.follows .mixedOrders = true) (hd : apartL l = true) (hb : backC .any l.toArray = true)
  (hΦ : ∀ w w', R w w' → ∀ j x, Φ j w x → Φ j w' x) (hS0 : S (fun _ => false) (ownV l a0) w.drew) (hF : ∀ vs, fillR l 0 vs a0 = F vs)
  (hstep : StepsL (OwesV P Q l F Φ R S) 0 l)
  (hend : ∀ vs L w, S L vs w → (∀ i, i < l.length → L i = true) → (∀ i, i < l.length → Φ i w (vs i)) → Q .normal (F vs) w) : (Code.region id l.toArray true).wp P Q a0 w := by
 refine wp_region_any hm ?_; have hrep : (fun j => (Array.replicate l.toArray.size false).getD j false) = (fun _ => false) := by funext j; exact repF
 have h := wpAny_invv (P := P) (Q := Q) (md := .any) (ops := l.toArray) (Φ := Φ) (R := R) S a0 hd hb hΦ (fun i o ho vs L w hSw hL hcl hdep K hK => by
  have := hstep i o (by simpa using ho); rw [Nat.zero_add] at this; have h2 := (this vs L w hSw hL (fun j o' hj hlj e he hbd => hcl j o' (by simpa using hj) hlj e (by simpa using he) hbd) (fun e he hbd => hdep e (by simpa using he) hbd) K (by rw [← hF vs]; exact hK)).un; rw [← hF vs] at h2
  exact h2) (fun vs L w hSw hall h => by
   have h3 := hend vs L w hSw (fun i hi => hall i (by simpa using hi)) (fun i hi => h i (by simpa using hi)); rw [← hF vs] at h3
   exact h3) l.toArray.size (Array.replicate l.toArray.size false) (ownV l a0) w.drew (by simp) (by simp) (fun j o _ hj => by rw [repF] at hj; cases hj) (by rw [hrep]; exact hS0) (fun j hj => by rw [repF] at hj; cases hj)
 rw [fillR_id] at h
 ·exact h
 ·intro j o ho d hd'; rw [Nat.zero_add]; unfold ownV; rw [ho]; simp [hd']
end
end Go.Proofs.Yticobffjnjbjiaa
namespace Go.Proofs.Yticobffjnjbjiaa
open Go
/- The same, told besides that what an operation hangs on is done. -/
section
variable {P : Program} {ops : Array Oper} {Q : Exit → Act → World → Prop} {md : Region.Mode}
theorem wpAny_invw {Φ : Nat → World → Value → Prop} {R : World → World → Prop} (S : (Nat → Bool) → (Nat → Value) → World → Prop) (a0 : Act) (hd : apartL ops.toList = true) (hb : backC md ops = true)
  (hΦ : ∀ w w', R w w' → ∀ j x, Φ j w x → Φ j w' x)
  (hstep : ∀ i o, ops[i]? = some o → ∀ vs (L : Nat → Bool) w, S L vs w → L i = false → (∀ j o', ops[j]? = some o' → L j = true → ∀ e ∈ o'.after, Region.binds md e = true → L e.on = true) → (∀ e ∈ o.after, Region.binds md e = true → L e.on = true) → (∀ e ∈ o.after, Region.binds md e = true → Φ e.on w (vs e.on)) →
   ∀ K : Act → World → Prop, (∀ v w', R w w' → S (updB L i) (upd vs i v) w' → Φ i w' v → K ((fillR ops.toList 0 vs a0).put o.dst v) w') →
    if Region.wanted o (yielded ops (fillR ops.toList 0 vs a0).tmps) = true then Oper.wp P o (fillR ops.toList 0 vs a0) w K Q else K ((fillR ops.toList 0 vs a0).put o.dst undef) w)
  (hend : ∀ vs L w, S L vs w → (∀ i, i < ops.size → L i = true) → (∀ i, i < ops.size → Φ i w (vs i)) → Q .normal (fillR ops.toList 0 vs a0) w) :
  ∀ (fuel : Nat) (listed : Array Bool) (vs : Nat → Value) (w : World), listed.size = ops.size → listed.toList.count false = fuel → closedB md ops listed → S (fun j => listed.getD j false) vs w → (∀ j, listed.getD j false = true → Φ j w (vs j)) →
   wpAny P md ops Q fuel listed (fillR ops.toList 0 vs a0) w := by
 intro fuel
 induction fuel with
 | zero =>
  intro listed vs w hs hc hcl hSw hl
  have hall : ∀ i, i < ops.size → listed.getD i false = true := by
   intro i hi; have h' : i < listed.size := by omega
   rw [List.count_eq_zero] at hc
   cases hx : listed.getD i false with
   | true => rfl
   | false =>
    exfalso
    apply hc
    simp [h'] at hx; rw [← hx]; exact Array.getElem_mem_toList h'
  refine ⟨?_, hend vs _ w hSw hall (fun i hi => hl i (hall i hi))⟩; rw [List.eq_nil_iff_forall_not_mem]; intro i hi; obtain ⟨h1, o, ho, _⟩ := mem_ready.1 hi; have hi' : i < ops.size := (Array.getElem?_eq_some_iff.1 ho).1; have h2 := hall i hi'; have h' : i < listed.size := by omega
  simp [h'] at h1 h2; rw [h1] at h2
  cases h2
 | succ fuel ih =>
  intro listed vs w hs hc hcl hSw hl; refine ⟨fun hr => hend vs _ w hSw (all_listedC hb hs hr) (fun i hi => hl i (all_listedC hb hs hr i hi)), fun i hi => ?_⟩; obtain ⟨h1, o, ho, hall⟩ := mem_ready.1 hi; have hi' : i < ops.size := (Array.getElem?_eq_some_iff.1 ho).1; have hil : i < listed.size := by omega
  have hun : listed.getD i false = false := by simp [hil] at h1 ⊢; exact h1
  refine wpOp_step ho fun K' hK => ?_
  refine hstep i o ho vs _ w hSw hun hcl hall (fun e he hbd => hl e.on (hall e he hbd)) K' fun v w' hR hS' hv => ?_
  apply hK
  rw [fillR_upd ops.toList 0 i vs a0 o v hd (by simpa using ho), Nat.zero_add]
  have hset : (fun j => (listed.setIfInBounds i true).getD j false) = updB (fun j => listed.getD j false) i := by
   funext j
   unfold updB; by_cases hji : j = i
   ·subst hji; simp [hil]
   ·rw [if_neg hji]; simp [Array.getElem?_setIfInBounds, Ne.symm hji]
  refine ih _ _ _ (by simp [hs]) ?_ ?_ (by rw [hset]; exact hS') ?_
  ·have h1' : listed.toList[i]'(by simpa using hil) = false := by simp [hil] at h1; simpa using h1
   simp only [Array.toList_setIfInBounds]; rw [List.count_set (by simpa using hil), h1', hc]; simp
  ·intro j oj hj hlj e he hbd; by_cases hei : e.on = i
   ·rw [hei]; simp [hil]
   ·have hold : listed.getD e.on false = true := by
     by_cases hji : j = i
     ·subst hji; have : oj = o := Option.some.inj (hj.symm.trans ho); subst this; exact hall e he hbd
     ·refine hcl j oj hj ?_ e he hbd; simp [Array.getElem?_setIfInBounds, Ne.symm hji] at hlj
      simpa using hlj
    simp [Array.getElem?_setIfInBounds, Ne.symm hei] at hold ⊢; exact hold
  ·intro j hj; by_cases hji : j = i
   ·subst hji; rw [show upd vs j v j = v from if_pos rfl]; exact hv
   ·rw [show upd vs i v j = vs j from if_neg hji]; refine hΦ _ _ hR j _ (hl j ?_); simp [Array.getElem?_setIfInBounds, Ne.symm hji] at hj
    simpa using hj
/-- what an operation owes; S knows what is listed, and the slots -/
def OwesW (P : Program) (Q : Exit → Act → World → Prop) (l : List Oper) (F : (Nat → Value) → Act) (Φ : Nat → World → Value → Prop) (R : World → World → Prop) (S : (Nat → Bool) → (Nat → Value) → World → Prop) (i : Nat) (o : Oper) : Prop :=
 ∀ vs (L : Nat → Bool) w, S L vs w → L i = false → (∀ j o', l[j]? = some o' → L j = true → ∀ e ∈ o'.after.toList, Region.binds .any e = true → L e.on = true) → (∀ e ∈ o.after.toList, Region.binds .any e = true → L e.on = true) → (∀ e ∈ o.after.toList, Region.binds .any e = true → Φ e.on w (vs e.on)) → ∀ K : Act → World → Prop, (∀ v w', R w w' → S (updB L i) (upd vs i v) w' → Φ i w' v → K ((F vs).put o.dst v) w') →
  Wrap (if Region.wanted o (yielded l.toArray (F vs).tmps) = true then Oper.wp P o (F vs) w K Q else K ((F vs).put o.dst undef) w)
theorem region_invW {id : Nat} {a0 : Act} {w : World} {l : List Oper} {F : (Nat → Value) → Act} (Φ : Nat → World → Value → Prop) (R : World → World → Prop) (S : (Nat → Bool) → (Nat → Value) → World → Prop) (hm : P.follows .mixedOrders = true) (hd : apartL l = true) (hb : backC .any l.toArray = true)
  (hΦ : ∀ w w', R w w' → ∀ j x, Φ j w x → Φ j w' x) (hS0 : S (fun _ => false) (ownV l a0) w.drew) (hF : ∀ vs, fillR l 0 vs a0 = F vs)
  (hstep : StepsL (OwesW P Q l F Φ R S) 0 l)
  (hend : ∀ vs L w, S L vs w → (∀ i, i < l.length → L i = true) → (∀ i, i < l.length → Φ i w (vs i)) → Q .normal (F vs) w) : (Code.region id l.toArray true).wp P Q a0 w := by
 refine wp_region_any hm ?_; have hrep : (fun j => (Array.replicate l.toArray.size false).getD j false) = (fun _ => false) := by funext j; exact repF
 have h := wpAny_invw (P := P) (Q := Q) (md := .any) (ops := l.toArray) (Φ := Φ) (R := R) S a0 hd hb hΦ (fun i o ho vs L w hSw hL hcl hdl hdep K hK => by
  have := hstep i o (by simpa using ho); rw [Nat.zero_add] at this; have h2 := (this vs L w hSw hL (fun j o' hj hlj e he hbd => hcl j o' (by simpa using hj) hlj e (by simpa using he) hbd) (fun e he hbd => hdl e (by simpa using he) hbd) (fun e he hbd => hdep e (by simpa using he) hbd) K (by rw [← hF vs]; exact hK)).un; rw [← hF vs] at h2
  exact h2) (fun vs L w hSw hall h => by
   have h3 := hend vs L w hSw (fun i hi => hall i (by simpa using hi)) (fun i hi => h i (by simpa using hi)); rw [← hF vs] at h3
   exact h3) l.toArray.size (Array.replicate l.toArray.size false) (ownV l a0) w.drew (by simp) (by simp) (fun j o _ hj => by rw [repF] at hj; cases hj) (by rw [hrep]; exact hS0) (fun j hj => by rw [repF] at hj; cases hj)
 rw [fillR_id] at h
 ·exact h
 ·intro j o ho d hd'; rw [Nat.zero_add]; unfold ownV; rw [ho]; simp [hd']
end
end Go.Proofs.Yticobffjnjbjiaa
namespace Go.Proofs.Yticobffjnjbjiaa
open Go.RowKit
theorem exE5 {α β γ δ ε : Type} {p : α → β → γ → δ → ε → Prop} {G : Prop} (h : ∃ a b c d e, p a b c d e) (k : ∀ a b c d e, p a b c d e → G) : G := h.elim fun a h => exE4 h (k a)
theorem exE6 {α β γ δ ε ζ : Type} {p : α → β → γ → δ → ε → ζ → Prop} {G : Prop} (h : ∃ a b c d e f, p a b c d e f) (k : ∀ a b c d e f, p a b c d e f → G) : G := h.elim fun a h => exE5 h (k a)
/-- the numbers that two rows of limbs stand for -/
def numL (x : List Nat × List Nat) : Nat × Nat := (Nm.nv x.1, if Nm.nv x.2 = 0 then 1 else Nm.nv x.2)
theorem numL_good {l1 l2 : List Nat} {p q : Nat} (h : GoodL l1 l2 p q) : numL (l1, l2) = (p, q) := by
 obtain ⟨rfl, rfl, hg⟩ := h; have hq := hg.pos; unfold numL; simp only [Nm.nv_lb]; unfold Nm.dn; by_cases h1 : q = 1
 ·rw [if_pos h1, if_pos rfl, h1]
 ·rw [if_neg h1, if_neg (by omega)]
open Classical in
/-- the error of n by d in lowest form -/
noncomputable def redE (n d : Nat) : Int := if Nm.Fits (n / Nat.gcd n d) (d / Nat.gcd n d) then 0 else 4
/-- a result: the ratio n by d, or none -/
def OpV (E : Int) (n d : Nat) (w : World) (v : Value) : Prop := (E = 0 ∧ Rat w v (n / Nat.gcd n d) (d / Nat.gcd n d) ∧ Nm.Fits (n / Nat.gcd n d) (d / Nat.gcd n d)) ∨ (E ≠ 0 ∧ v = nilRat)
theorem OpV.map {E : Int} {n d : Nat} {w w' : World} {v : Value} (h : OpV E n d w v) (hm : ∀ A k c x, Nb w A k c x → Nb w' A k c x) : OpV E n d w' v := by
 rcases h with ⟨h1, ⟨A1, k1, c1, A2, k2, c2, rfl, h3, h4⟩, h5⟩ | h
 ·exact .inl ⟨h1, ⟨A1, k1, c1, A2, k2, c2, rfl, hm _ _ _ _ h3, hm _ _ _ _ h4⟩, h5⟩
 ·exact .inr h
theorem OpV.below {E : Int} {n d : Nat} {w w' : World} {v : Value} (h : OpV E n d w v) (hb : Below w.heap.size w w') : OpV E n d w' v := h.map fun _ _ _ _ k => k.below hb
theorem OpV.shape {E : Int} {n d : Nat} {w : World} {v : Value} (h : OpV E n d w v) : ∃ A k c A' k' c', v = .agg #[.slice A k c, .slice A' k' c'] := by
 rcases h with ⟨_, ⟨A1, k1, c1, A2, k2, c2, rfl, _⟩, _⟩ | ⟨_, rfl⟩
 ·exact ⟨_, _, _, _, _, _, rfl⟩
 ·exact ⟨_, _, _, _, _, _, rfl⟩
theorem RedP.opV {w : World} {v : Value} {er : Int} {n d : Nat} (h : RedP w v er n d) : er = redE n d ∧ OpV (redE n d) n d w v := by
 unfold redE
 rcases h with ⟨h1, h2, h3⟩ | ⟨h1, h2, h3⟩
 ·rw [if_pos h1]; exact ⟨h2, .inl ⟨rfl, h3, h1⟩⟩
 ·rw [if_neg h1]; exact ⟨h2, .inr ⟨by omega, h3⟩⟩
/-- an operation's error, with its error for valid ones -/
noncomputable def opE (f : Nat × Nat → Nat × Nat → Int) (l1 l2 l3 l4 : List Nat) : Int := if firstE (Nm.validE l1 l2) (Nm.validE l3 l4) ≠ 0 then firstE (Nm.validE l1 l2) (Nm.validE l3 l4) else f (numL (l1, l2)) (numL (l3, l4))
noncomputable def mulE (l1 l2 l3 l4 : List Nat) : Int := opE (fun x y => redE (x.1 * y.1) (x.2 * y.2)) l1 l2 l3 l4
def mulN (l1 l2 l3 l4 : List Nat) : Nat := (numL (l1, l2)).1 * (numL (l3, l4)).1
def mulD (l1 l2 l3 l4 : List Nat) : Nat := (numL (l1, l2)).2 * (numL (l3, l4)).2
theorem opE_bad {f : Nat × Nat → Nat × Nat → Int} {l1 l2 l3 l4 : List Nat} (h : firstE (Nm.validE l1 l2) (Nm.validE l3 l4) ≠ 0) : opE f l1 l2 l3 l4 = firstE (Nm.validE l1 l2) (Nm.validE l3 l4) := if_pos h
theorem opE_good {f : Nat × Nat → Nat × Nat → Int} {l1 l2 l3 l4 : List Nat} {pa qa pb qb : Nat} (h1 : GoodL l1 l2 pa qa) (h2 : GoodL l3 l4 pb qb) : opE f l1 l2 l3 l4 = f (pa, qa) (pb, qb) := by
 have e1 : Nm.validE l1 l2 = 0 := by obtain ⟨rfl, rfl, g⟩ := h1; exact Nm.validE_of g
 have e2 : Nm.validE l3 l4 = 0 := by obtain ⟨rfl, rfl, g⟩ := h2; exact Nm.validE_of g
 unfold opE; rw [if_neg (by rw [e1, e2]; simp [firstE]), numL_good h1, numL_good h2]
theorem mul_opV {l1 l2 l3 l4 : List Nat} {w : World} {v : Value} {er : Int} (h : OpP MulR l1 l2 l3 l4 w v er) : er = mulE l1 l2 l3 l4 ∧ OpV (mulE l1 l2 l3 l4) (mulN l1 l2 l3 l4) (mulD l1 l2 l3 l4) w v := by
 rcases h with ⟨h1, rfl, rfl⟩ | ⟨pa, qa, pb, qb, g1, g2, h⟩
 ·unfold mulE; rw [opE_bad h1]; exact ⟨rfl, .inr ⟨h1, rfl⟩⟩
 ·unfold mulE mulN mulD; rw [opE_good g1 g2, numL_good g1, numL_good g2]; exact RedP.opV h
theorem mul_E (va vb : Value) (l1 l2 l3 l4 : List Nat) (w : World) (ha : RtL w va l1 l2) (hb : RtL w vb l3 l4) :
  Calls Try.prog 57 #[va, vb] w fun e w' => ∃ v, e = .returned (.tuple #[v, .int .i64 (mulE l1 l2 l3 l4)]) ∧ Hid (OpV (mulE l1 l2 l3 l4) (mulN l1 l2 l3 l4) (mulD l1 l2 l3 l4) w' v) ∧ Below w.heap.size w w' := by
 refine (mul_any va vb l1 l2 l3 l4 w ha hb).mono ?_; rintro e w' ⟨v, er, rfl, HR, hb⟩; obtain ⟨rfl, h⟩ := mul_opV HR.out; exact ⟨v, rfl, h, hb⟩
theorem rmul_E (va vb : Value) (l1 l2 l3 l4 : List Nat) (w : World) (ha : RtL w va l1 l2) (hb : RtL w vb l3 l4) :
  Calls Try.prog 60 #[va, vb] w fun e w' => ∃ v, e = .returned (.tuple #[v, .int .i64 (mulE l1 l2 l3 l4)]) ∧ Hid (OpV (mulE l1 l2 l3 l4) (mulN l1 l2 l3 l4) (mulD l1 l2 l3 l4) w' v) ∧ Below w.heap.size w w' := by
 refine (rmul_any va vb l1 l2 l3 l4 w ha hb).mono ?_; rintro e w' ⟨v, er, rfl, HR, hb⟩; obtain ⟨rfl, h⟩ := mul_opV HR.out; exact ⟨v, rfl, h, hb⟩
/-- what an operation of such a region may do to the world -/
structure RS (N : Nat) (w w' : World) : Prop where
 be : Below N w w'
 nb : ∀ A k c x, Nb w A k c x → Nb w' A k c x
 sl : ∀ g, Sl w g → Sl w' g
theorem RS.refl (N : Nat) (w : World) : RS N w w := ⟨Below.refl _ _, fun _ _ _ _ h => h, fun _ h => h⟩
theorem RS.below {N : Nat} {w w' : World} (hb : Below w.heap.size w w') (hN : N ≤ w.heap.size) : RS N w w' := ⟨hb.mono hN, fun _ _ _ _ h => h.below hb, fun _ h => h.below hb⟩
theorem Sl.set1 {w : World} {g : Nat} (h : Sl w g) (A : Option Addr) (k c : Nat) : Sl (w.setCell ⟨g, 1, none⟩ (.slice A k c)) g := by
 obtain ⟨a1, k1, c1, a2, k2, c2, hb⟩ := h; have := hb.set_ 1 (.slice A k c); exact ⟨a1, k1, c1, A, k, c, this⟩
theorem Sl.setS {w : World} {g h i : Nat} (hs : Sl w g) (hi : i < 2) (A : Option Addr) (k c : Nat) : Sl (w.setCell ⟨h, i, none⟩ (.slice A k c)) g := by
 by_cases e : g = h
 ·subst e; have hi : i = 0 ∨ i = 1 := by omega
  rcases hi with rfl | rfl
  ·exact hs.set0 A k c
  ·exact hs.set1 A k c
 ·obtain ⟨a1, k1, c1, a2, k2, c2, hb⟩ := hs; exact ⟨a1, k1, c1, a2, k2, c2, Blk.far hb e _⟩
theorem RS.store {N g : Nat} {w : World} (hs : Sl w g) (hg : N ≤ g) (A : Option Addr) (k c : Nat) (A' : Option Addr) (k' c' : Nat) : RS N w ((w.setCell ⟨g, 0, none⟩ (.slice A k c)).setCell ⟨g, 1, none⟩ (.slice A' k' c')) :=
 ⟨((Below.refl N w).setCell (p := ⟨g, 0, none⟩) hg _).setCell (p := ⟨g, 1, none⟩) hg _, fun _ _ _ _ h => (h.setSl hs _).setSl (hs.set0 A k c) _, fun _ h => (h.setS (by omega) A k c).setS (by omega) A' k' c'⟩
/-- what holds all along: jr the operation whose value is stored, ja that which made the block, js the store -/
structure SD (w0 : World) (jr ja js : Nat) (L : Nat → Bool) (vs : Nat → Value) (w : World) : Prop where
 be : Below w0.heap.size w0 w
 st : L js = true → ∃ g A k c A' k' c', vs ja = .pointer (some ⟨g, 0, none⟩) ∧ vs jr = .agg #[.slice A k c, .slice A' k' c'] ∧ w0.heap.size ≤ g ∧ Blk w g 24 #[.slice A k c, .slice A' k' c']
theorem SD.start (w0 : World) (jr ja js : Nat) (vs : Nat → Value) : SD w0 jr ja js (fun _ => false) vs w0.drew := ⟨bD _, fun h => by cases h⟩
theorem SD.step {w0 : World} {jr ja js : Nat} {L : Nat → Bool} {vs : Nat → Value} {w w' : World} (h : SD w0 jr ja js L vs w) (hb : Below w.heap.size w w') (i : Nat) (v : Value) (hi : ¬ (js = i)) (hj : (i = jr ∨ i = ja) → L js = false) : SD w0 jr ja js (updB L i) (upd vs i v) w' := by
 refine ⟨h.be.trans (hb.mono h.be.size), fun hl => ?_⟩; have hl2 : L js = true := by unfold updB at hl; rwa [if_neg hi] at hl
 have n1 : ¬ (i = jr ∨ i = ja) := fun e => by rw [hj e] at hl2; cases hl2
 obtain ⟨g, A, k, c, A', k', c', e1, e2, hg, hblk⟩ := h.st hl2; exact ⟨g, A, k, c, A', k', c', by unfold upd; rw [if_neg (fun e => n1 (.inr e.symm))]; exact e1, by unfold upd; rw [if_neg (fun e => n1 (.inl e.symm))]; exact e2, hg, Blk.below hblk hb hblk.lt⟩
theorem SD.stored {w0 : World} {jr ja js : Nat} {L : Nat → Bool} {vs : Nat → Value} {w : World} (h : SD w0 jr ja js L vs w) {g : Nat} {A : Option Addr} {k c : Nat} {A' : Option Addr} {k' c' : Nat} (e1 : vs ja = .pointer (some ⟨g, 0, none⟩)) (e2 : vs jr = .agg #[.slice A k c, .slice A' k' c']) (hg : w0.heap.size ≤ g) (hs : Sl w g) (n1 : ¬ (ja = js)) (n2 : ¬ (jr = js)) (u : Value) :
  SD w0 jr ja js (updB L js) (upd vs js u) ((w.setCell ⟨g, 0, none⟩ (.slice A k c)).setCell ⟨g, 1, none⟩ (.slice A' k' c')) := by
 refine ⟨h.be.trans (RS.store hs hg A k c A' k' c').be, fun _ => ?_⟩; obtain ⟨a1, b1, c1, a2, b2, c2, hb⟩ := hs; refine ⟨g, A, k, c, A', k', c', by unfold upd; rw [if_neg n1]; exact e1, by unfold upd; rw [if_neg n2]; exact e2, hg, ?_⟩; have := (hb.set_ 0 (.slice A k c)).set_ 1 (.slice A' k' c'); exact this
theorem Sl.facts {w : World} {g : Nat} (h : Sl w g) : (∃ a, w.cell? ⟨g, 0, none⟩ = some a) ∧ (∃ a, w.cell? ⟨g, 1, none⟩ = some a) ∧ w.frozen? ⟨g, 0, none⟩ = false ∧ w.frozen? ⟨g, 1, none⟩ = false := by
 obtain ⟨r1, r2, r3, r4, r5, r6, hb⟩ := h; exact ⟨⟨_, hb.cell 0⟩, ⟨_, hb.cell 1⟩, hb.frozen 0, hb.frozen 1⟩
end Go.Proofs.Yticobffjnjbjiaa
