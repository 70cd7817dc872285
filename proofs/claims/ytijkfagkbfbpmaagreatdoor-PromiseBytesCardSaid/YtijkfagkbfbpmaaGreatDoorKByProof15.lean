import Derived.Test.YtijkfagkbfbpmaaGreatDoorKByProof14
import Derived.Lib.AppendZeros
import Derived.Deep.LoopGhost
import Derived.Deep.MidRow
import Derived.Test.YtijkfagkbfbpmaaGreatDoorKByProof11
import Derived.Great.BuildSlice
import Derived.Test.YtijkfagkbfbpmaaGreatDoorS0
set_option linter.unusedVariables false
set_option linter.unusedSimpArgs false
namespace Go.Proofs.YtijkfagkbfbpmaaGreatDoor
open Go.RowKit
end Go.Proofs.YtijkfagkbfbpmaaGreatDoor
namespace Go.Proofs.YtijkfagkbfbpmaaGreatDoor
open Go.RowKit
/-- a slice of results -/
structure SLR where
 A : Option Addr
 k : Nat
 c : Nat
 rs : List RC0
def slC (s : SLR) : List Value := [.slice s.A s.k s.c]
theorem slC_len (s : SLR) : (slC s).length = 1 := rfl
theorem RowS.sl {w : World} {A : Option Addr} {k : Nat} {l : List SLR} (h : RowS slC w A k l) {i : Nat} (hi : i < k) : ∃ b off, ∃ s : SLR, A = some ⟨b, off, none⟩ ∧ w.cell? ⟨b, off + i, none⟩ = some (.slice s.A s.k s.c) ∧ Hid (∃ h : i < l.length, l[i] = s) := by
 have hil : i < l.length := by have := h.2.1; omega
 obtain ⟨b, off, hA, hc⟩ := h.at_ slC_len (by omega) hi hil; refine ⟨b, off, l[i], hA, ?_, hil, rfl⟩; have := hc.out 0 _ rfl
 rwa [Nat.mul_one, Nat.add_zero] at this
end Go.Proofs.YtijkfagkbfbpmaaGreatDoor
namespace Go.Proofs.YtijkfagkbfbpmaaGreatDoor
open Go.RowKit
end Go.Proofs.YtijkfagkbfbpmaaGreatDoor
namespace Go.Proofs.YtijkfagkbfbpmaaGreatDoor
open Go.RowKit
end Go.Proofs.YtijkfagkbfbpmaaGreatDoor
namespace Go.Proofs.YtijkfagkbfbpmaaGreatDoor
open Go
/- The same, where what is known of a value may name the values that it hangs on. -/
section
variable {P : Program} {ops : Array Oper} {Q : Exit → Act → World → Prop} {md : Region.Mode}
def closedB (md : Region.Mode) (ops : Array Oper) (listed : Array Bool) : Prop := ∀ j o, ops[j]? = some o → listed.getD j false = true → ∀ e ∈ o.after, Region.binds md e = true → listed.getD e.on false = true
theorem wpAny_invd (Φ : (Nat → Value) → Nat → World → Value → Prop) (R : World → World → Prop) (S : World → Prop) (a0 : Act) (hd : apartL ops.toList = true) (hb : backB ops = true)
  (hΦ : ∀ vs w w', R w w' → ∀ j x, Φ vs j w x → Φ vs j w' x) (hS : ∀ w w', R w w' → S w → S w')
  (hC : ∀ j o, ops[j]? = some o → ∀ vs vs' w x, (∀ e ∈ o.after, Region.binds md e = true → vs e.on = vs' e.on) → Φ vs j w x → Φ vs' j w x)
  (hstep : ∀ i o, ops[i]? = some o → ∀ vs w, S w → (∀ e ∈ o.after, Region.binds md e = true → Φ vs e.on w (vs e.on)) →
   ∀ K : Act → World → Prop, (∀ v w', R w w' → Φ vs i w' v → K ((fillR ops.toList 0 vs a0).put o.dst v) w') →
    if Region.wanted o (yielded ops (fillR ops.toList 0 vs a0).tmps) = true then Oper.wp P o (fillR ops.toList 0 vs a0) w K Q else K ((fillR ops.toList 0 vs a0).put o.dst undef) w)
  (hend : ∀ vs w, S w → (∀ i, i < ops.size → Φ vs i w (vs i)) → Q .normal (fillR ops.toList 0 vs a0) w) :
  ∀ (fuel : Nat) (listed : Array Bool) (vs : Nat → Value) (w : World), listed.size = ops.size → listed.toList.count false = fuel → closedB md ops listed → S w → (∀ j, listed.getD j false = true → Φ vs j w (vs j)) →
   wpAny P md ops Q fuel listed (fillR ops.toList 0 vs a0) w := by
 intro fuel
 induction fuel with
 | zero =>
  intro listed vs w hs hc hcl hSw hl
  have hall : ∀ i, i < ops.size → listed.getD i false = true := by
   intro i hi; have h' : i < listed.size := by omega
   rw [List.count_eq_zero] at hc
   cases hx : listed.getD i false with
   | true => rfl
   | false =>
    exfalso
    apply hc
    simp [h'] at hx; rw [← hx]; exact Array.getElem_mem_toList h'
  refine ⟨?_, hend vs w hSw (fun i hi => hl i (hall i hi))⟩; rw [List.eq_nil_iff_forall_not_mem]; intro i hi; obtain ⟨h1, o, ho, _⟩ := mem_ready.1 hi; have hi' : i < ops.size := (Array.getElem?_eq_some_iff.1 ho).1; have h2 := hall i hi'; have h' : i < listed.size := by omega
  simp [h'] at h1 h2; rw [h1] at h2
  cases h2
 | succ fuel ih =>
  intro listed vs w hs hc hcl hSw hl; refine ⟨fun hr => hend vs w hSw (fun i hi => hl i (all_listed hb hs hr i hi)), fun i hi => ?_⟩; obtain ⟨h1, o, ho, hall⟩ := mem_ready.1 hi; have hi' : i < ops.size := (Array.getElem?_eq_some_iff.1 ho).1; have hil : i < listed.size := by omega
  have hun : listed.getD i false = false := by simp [hil] at h1 ⊢; exact h1
  refine wpOp_step ho fun K' hK => ?_
  refine hstep i o ho vs w hSw (fun e he hbd => hl e.on (hall e he hbd)) K' fun v w' hR hv => ?_
  apply hK
  rw [fillR_upd ops.toList 0 i vs a0 o v hd (by simpa using ho), Nat.zero_add]; refine ih _ _ _ (by simp [hs]) ?_ ?_ (hS _ _ hR hSw) ?_
  ·have h1' : listed.toList[i]'(by simpa using hil) = false := by simp [hil] at h1; simpa using h1
   simp only [Array.toList_setIfInBounds]; rw [List.count_set (by simpa using hil), h1', hc]; simp
  ·intro j oj hj hlj e he hbd; by_cases hei : e.on = i
   ·rw [hei]; simp [hil]
   ·have hold : listed.getD e.on false = true := by
     by_cases hji : j = i
     ·subst hji; have : oj = o := Option.some.inj (hj.symm.trans ho); subst this; exact hall e he hbd
     ·refine hcl j oj hj ?_ e he hbd; simp [Array.getElem?_setIfInBounds, Ne.symm hji] at hlj
      simpa using hlj
    have h3 : e.on < listed.size := by
     rcases Nat.lt_or_ge e.on listed.size with h | h
     ·exact h
     ·simp [Array.getElem?_eq_none h] at hold
    simp [Array.getElem?_setIfInBounds, Ne.symm hei] at hold ⊢; exact hold
  ·intro j hj; by_cases hji : j = i
   ·subst hji; rw [show upd vs j v j = v from if_pos rfl]; refine hC j o ho vs (upd vs j v) w' v (fun e he hbd => ?_) hv
    have hne : e.on ≠ j := by
     intro h; have := hall e he hbd; rw [h, hun] at this; cases this
    exact (if_neg hne).symm
   ·rw [show upd vs i v j = vs j from if_neg hji]
    have hlj : listed.getD j false = true := by
     simp [Array.getElem?_setIfInBounds, Ne.symm hji] at hj
     simpa using hj
    have hjs : j < listed.size := by
     rcases Nat.lt_or_ge j listed.size with h | h
     ·exact h
     ·simp [Array.getElem?_eq_none h] at hlj
    have hjo : ops[j]? = some ops[j] := Array.getElem?_eq_getElem (by omega); refine hC j _ hjo vs (upd vs i v) w' (vs j) (fun e he hbd => ?_) (hΦ vs _ _ hR j _ (hl j hlj))
    have hne : e.on ≠ i := by
     intro h; have := hcl j _ hjo hlj e he hbd; rw [h, hun] at this; cases this
    exact (if_neg hne).symm
def OwesD (P : Program) (Q : Exit → Act → World → Prop) (l : List Oper) (a0 : Act) (Φ : (Nat → Value) → Nat → World → Value → Prop) (R : World → World → Prop) (S : World → Prop) (i : Nat) (o : Oper) : Prop :=
 ∀ vs w, S w → (∀ e ∈ o.after.toList, Region.binds .any e = true → Φ vs e.on w (vs e.on)) → ∀ K : Act → World → Prop, (∀ v w', R w w' → Φ vs i w' v → K ((fillR l 0 vs a0).put o.dst v) w') →
  Wrap (if Region.wanted o (yielded l.toArray (fillR l 0 vs a0).tmps) = true then Oper.wp P o (fillR l 0 vs a0) w K Q else K ((fillR l 0 vs a0).put o.dst undef) w)
/-- what an operation's knowledge hangs on: that alone -/
def Hangs (Φ : (Nat → Value) → Nat → World → Value → Prop) (i : Nat) (o : Oper) : Prop :=
 ∀ vs vs' w x, (∀ e ∈ o.after.toList, Region.binds .any e = true → vs e.on = vs' e.on) → Φ vs i w x → Φ vs' i w x
theorem region_invd {id : Nat} {a0 : Act} {w : World} {l : List Oper} (Φ : (Nat → Value) → Nat → World → Value → Prop) (R : World → World → Prop) (S : World → Prop) (hm : P.follows .mixedOrders = true) (hd : apartL l = true) (hb : backB l.toArray = true)
  (hΦ : ∀ vs w w', R w w' → ∀ j x, Φ vs j w x → Φ vs j w' x) (hS : ∀ w w', R w w' → S w → S w') (hC : StepsL (Hangs Φ) 0 l) (hS0 : S w.drew)
  (hstep : StepsL (OwesD P Q l a0 Φ R S) 0 l)
  (hend : ∀ vs w, S w → (∀ i, i < l.length → Φ vs i w (vs i)) → Q .normal (fillR l 0 vs a0) w) : (Code.region id l.toArray true).wp P Q a0 w := by
 refine wp_region_any hm ?_
 have h := wpAny_invd (P := P) (Q := Q) (md := .any) (ops := l.toArray) Φ R S a0 hd hb hΦ hS (fun j o ho vs vs' w x h => by
  have := hC j o (by simpa using ho); rw [Nat.zero_add] at this
  exact this vs vs' w x (fun e he hbd => h e (by simpa using he) hbd)) (fun i o ho vs w hSw hdep K hK => by
  have := hstep i o (by simpa using ho); rw [Nat.zero_add] at this
  exact (this vs w hSw (fun e he hbd => hdep e (by simpa using he) hbd) K hK).un) (fun vs w hSw h => hend vs w hSw (fun i hi => h i (by simpa using hi))) l.toArray.size (Array.replicate l.toArray.size false) (ownV l a0) w.drew (by simp) (by simp) (fun j o _ hj => by rw [repF] at hj; cases hj) hS0 (fun j hj => by rw [repF] at hj; cases hj)
 rw [fillR_id] at h
 ·exact h
 ·intro j o ho d hd'; rw [Nat.zero_add]; unfold ownV; rw [ho]; simp [hd']
end
end Go.Proofs.YtijkfagkbfbpmaaGreatDoor
namespace Go.Proofs.YtijkfagkbfbpmaaGreatDoor
open Go.RowKit
end Go.Proofs.YtijkfagkbfbpmaaGreatDoor
namespace Go.Proofs.YtijkfagkbfbpmaaGreatDoor
open Go Go.RowKit
section
variable {P : Program}
end
end Go.Proofs.YtijkfagkbfbpmaaGreatDoor
