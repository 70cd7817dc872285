import Derived.Test.YtmbfjmilhfmnkaaGreatDoorKRdsProof17
import Derived.Test.YtmbfjmilhfmnkaaGreatDoorS0
set_option linter.unusedVariables false
set_option linter.unusedSimpArgs false
namespace Go.Proofs.YtmbfjmilhfmnkaaGreatDoor
open Go
/- The same, told besides that what an operation hangs on is done. -/
section
variable {P : Program} {ops : Array Oper} {Q : Exit → Act → World → Prop} {md : Region.Mode}
theorem wpAny_invw {Φ : Nat → World → Value → Prop} {R : World → World → Prop} (S : (Nat → Bool) → (Nat → Value) → World → Prop) (a0 : Act) (hd : apartL ops.toList = true) (hb : backC md ops = true)
  (hΦ : ∀ w w', R w w' → ∀ j x, Φ j w x → Φ j w' x)
  (hstep : ∀ i o, ops[i]? = some o → ∀ vs (L : Nat → Bool) w, S L vs w → L i = false → (∀ j o', ops[j]? = some o' → L j = true → ∀ e ∈ o'.after, Region.binds md e = true → L e.on = true) → (∀ e ∈ o.after, Region.binds md e = true → L e.on = true) → (∀ e ∈ o.after, Region.binds md e = true → Φ e.on w (vs e.on)) →
   ∀ K : Act → World → Prop, (∀ v w', R w w' → S (updB L i) (upd vs i v) w' → Φ i w' v → K ((fillR ops.toList 0 vs a0).put o.dst v) w') →
    if Region.wanted o (yielded ops (fillR ops.toList 0 vs a0).tmps) = true then Oper.wp P o (fillR ops.toList 0 vs a0) w K Q else K ((fillR ops.toList 0 vs a0).put o.dst undef) w)
  (hend : ∀ vs L w, S L vs w → (∀ i, i < ops.size → L i = true) → (∀ i, i < ops.size → Φ i w (vs i)) → Q .normal (fillR ops.toList 0 vs a0) w) :
  ∀ (fuel : Nat) (listed : Array Bool) (vs : Nat → Value) (w : World), listed.size = ops.size → listed.toList.count false = fuel → closedB md ops listed → S (fun j => listed.getD j false) vs w → (∀ j, listed.getD j false = true → Φ j w (vs j)) →
   wpAny P md ops Q fuel listed (fillR ops.toList 0 vs a0) w := by
 intro fuel
 induction fuel with
 | zero =>
  intro listed vs w hs hc hcl hSw hl
  have hall : ∀ i, i < ops.size → listed.getD i false = true := by
   intro i hi; have h' : i < listed.size := by omega
   rw [List.count_eq_zero] at hc
   cases hx : listed.getD i false with
   | true => rfl
   | false =>
    exfalso
    apply hc
    simp [h'] at hx; rw [← hx]; exact Array.getElem_mem_toList h'
  refine ⟨?_, hend vs _ w hSw hall (fun i hi => hl i (hall i hi))⟩; rw [List.eq_nil_iff_forall_not_mem]; intro i hi; obtain ⟨h1, o, ho, _⟩ := mem_ready.1 hi; have hi' : i < ops.size := (Array.getElem?_eq_some_iff.1 ho).1; have h2 := hall i hi'; have h' : i < listed.size := by omega
  simp [h'] at h1 h2; rw [h1] at h2
  cases h2
 | succ fuel ih =>
  intro listed vs w hs hc hcl hSw hl; refine ⟨fun hr => hend vs _ w hSw (all_listedC hb hs hr) (fun i hi => hl i (all_listedC hb hs hr i hi)), fun i hi => ?_⟩; obtain ⟨h1, o, ho, hall⟩ := mem_ready.1 hi; have hi' : i < ops.size := (Array.getElem?_eq_some_iff.1 ho).1; have hil : i < listed.size := by omega
  have hun : listed.getD i false = false := by simp [hil] at h1 ⊢; exact h1
  refine wpOp_step ho fun K' hK => ?_
  refine hstep i o ho vs _ w hSw hun hcl hall (fun e he hbd => hl e.on (hall e he hbd)) K' fun v w' hR hS' hv => ?_
  apply hK
  rw [fillR_upd ops.toList 0 i vs a0 o v hd (by simpa using ho), Nat.zero_add]
  have hset : (fun j => (listed.setIfInBounds i true).getD j false) = updB (fun j => listed.getD j false) i := by
   funext j
   unfold updB; by_cases hji : j = i
   ·subst hji; simp [hil]
   ·rw [if_neg hji]; simp [Array.getElem?_setIfInBounds, Ne.symm hji]
  refine ih _ _ _ (by simp [hs]) ?_ ?_ (by rw [hset]; exact hS') ?_
  ·have h1' : listed.toList[i]'(by simpa using hil) = false := by simp [hil] at h1; simpa using h1
   simp only [Array.toList_setIfInBounds]; rw [List.count_set (by simpa using hil), h1', hc]; simp
  ·intro j oj hj hlj e he hbd; by_cases hei : e.on = i
   ·rw [hei]; simp [hil]
   ·have hold : listed.getD e.on false = true := by
     by_cases hji : j = i
     ·subst hji; have : oj = o := Option.some.inj (hj.symm.trans ho); subst this; exact hall e he hbd
     ·refine hcl j oj hj ?_ e he hbd; simp [Array.getElem?_setIfInBounds, Ne.symm hji] at hlj
      simpa using hlj
    simp [Array.getElem?_setIfInBounds, Ne.symm hei] at hold ⊢; exact hold
  ·intro j hj; by_cases hji : j = i
   ·subst hji; rw [show upd vs j v j = v from if_pos rfl]; exact hv
   ·rw [show upd vs i v j = vs j from if_neg hji]; refine hΦ _ _ hR j _ (hl j ?_); simp [Array.getElem?_setIfInBounds, Ne.symm hji] at hj
    simpa using hj
/-- what an operation owes; S knows what is listed, and the slots -/
def OwesW (P : Program) (Q : Exit → Act → World → Prop) (l : List Oper) (F : (Nat → Value) → Act) (Φ : Nat → World → Value → Prop) (R : World → World → Prop) (S : (Nat → Bool) → (Nat → Value) → World → Prop) (i : Nat) (o : Oper) : Prop :=
 ∀ vs (L : Nat → Bool) w, S L vs w → L i = false → (∀ j o', l[j]? = some o' → L j = true → ∀ e ∈ o'.after.toList, Region.binds .any e = true → L e.on = true) → (∀ e ∈ o.after.toList, Region.binds .any e = true → L e.on = true) → (∀ e ∈ o.after.toList, Region.binds .any e = true → Φ e.on w (vs e.on)) → ∀ K : Act → World → Prop, (∀ v w', R w w' → S (updB L i) (upd vs i v) w' → Φ i w' v → K ((F vs).put o.dst v) w') →
  Wrap (if Region.wanted o (yielded l.toArray (F vs).tmps) = true then Oper.wp P o (F vs) w K Q else K ((F vs).put o.dst undef) w)
theorem region_invW {id : Nat} {a0 : Act} {w : World} {l : List Oper} {F : (Nat → Value) → Act} (Φ : Nat → World → Value → Prop) (R : World → World → Prop) (S : (Nat → Bool) → (Nat → Value) → World → Prop) (hm : P.follows .mixedOrders = true) (hd : apartL l = true) (hb : backC .any l.toArray = true)
  (hΦ : ∀ w w', R w w' → ∀ j x, Φ j w x → Φ j w' x) (hS0 : S (fun _ => false) (ownV l a0) w.drew) (hF : ∀ vs, fillR l 0 vs a0 = F vs)
  (hstep : StepsL (OwesW P Q l F Φ R S) 0 l)
  (hend : ∀ vs L w, S L vs w → (∀ i, i < l.length → L i = true) → (∀ i, i < l.length → Φ i w (vs i)) → Q .normal (F vs) w) : (Code.region id l.toArray true).wp P Q a0 w := by
 refine wp_region_any hm ?_; have hrep : (fun j => (Array.replicate l.toArray.size false).getD j false) = (fun _ => false) := by funext j; exact repF
 have h := wpAny_invw (P := P) (Q := Q) (md := .any) (ops := l.toArray) (Φ := Φ) (R := R) S a0 hd hb hΦ (fun i o ho vs L w hSw hL hcl hdl hdep K hK => by
  have := hstep i o (by simpa using ho); rw [Nat.zero_add] at this; have h2 := (this vs L w hSw hL (fun j o' hj hlj e he hbd => hcl j o' (by simpa using hj) hlj e (by simpa using he) hbd) (fun e he hbd => hdl e (by simpa using he) hbd) (fun e he hbd => hdep e (by simpa using he) hbd) K (by rw [← hF vs]; exact hK)).un; rw [← hF vs] at h2
  exact h2) (fun vs L w hSw hall h => by
   have h3 := hend vs L w hSw (fun i hi => hall i (by simpa using hi)) (fun i hi => h i (by simpa using hi)); rw [← hF vs] at h3
   exact h3) l.toArray.size (Array.replicate l.toArray.size false) (ownV l a0) w.drew (by simp) (by simp) (fun j o _ hj => by rw [repF] at hj; cases hj) (by rw [hrep]; exact hS0) (fun j hj => by rw [repF] at hj; cases hj)
 rw [fillR_id] at h
 ·exact h
 ·intro j o ho d hd'; rw [Nat.zero_add]; unfold ownV; rw [ho]; simp [hd']
end
end Go.Proofs.YtmbfjmilhfmnkaaGreatDoor
