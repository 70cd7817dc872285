import Derived.Test.YtmbfjmilhfmnkaaGreatDoorKRdsProof28
import Derived.Test.YtmbfjmilhfmnkaaGreatDoorS0
set_option linter.unusedVariables false
set_option linter.unusedSimpArgs false
namespace Go.Proofs.YtmbfjmilhfmnkaaGreatDoor
open Go Go.RowKit
noncomputable def mixV (q a b : LP) : LP := addV (mulV q a) (mulV (subV oneP q) b)
/-- what the arguments of Reach and Worst say -/
def boundE (n : Int) (x : LP) : Int := if validP x ≠ 0 then validP x else if n < 0 ∨ 10 < n then 5 else 0
theorem valid_R (va : Value) (x : LP) (w : World) (h : RtP w va x) : Calls Tryz.prog 30 #[va] w fun e w' => e = .returned (.int .i64 (validP x)) ∧ Below w.heap.size w w' := by
 obtain ⟨A1, k1, c1, A2, k2, c2, rfl, h1, h2, e1, e2⟩ := h; exact valid_any A1 A2 k1 c1 k2 c2 _ _ w h1 h2 e1 e2
theorem rvalid_R (va : Value) (x : LP) (w : World) (h : RtP w va x) : Calls Tryz.prog 33 #[va] w fun e w' => e = .returned (.int .i64 (validP x)) ∧ Below w.heap.size w w' := by
 obtain ⟨A1, k1, c1, A2, k2, c2, rfl, h1, h2, e1, e2⟩ := h; exact rvalid_any A1 A2 k1 c1 k2 c2 _ _ w h1 h2 e1 e2
def PhiMx (g ga gb gc : Nat) (a1 a2 b1 b2 d1 d2 : Value) (q a b : LP) (j : Nat) (w : World) (x : Value) : Prop :=
 match j with
 | 0 => x = .agg #[a1, a2]
 | 1 => x = .agg #[b1, b2]
 | 2 => ∃ v er, x = .tuple #[v, .int .i64 er] ∧ RtP w v (mulV q a)
 | 3 => RtP w x (mulV q a)
 | 4 => ∃ er : Int, x = .int .i64 er
 | 5 => RtP w x (mulV q a)
 | 6 => RtP w x oneP
 | 7 => x = .agg #[a1, a2]
 | 8 => ∃ v er, x = .tuple #[v, .int .i64 er] ∧ RtP w v (subV oneP q)
 | 9 => RtP w x (subV oneP q)
 | 10 => ∃ er : Int, x = .int .i64 er
 | 11 => RtP w x (subV oneP q)
 | 12 => x = .agg #[d1, d2]
 | 13 => ∃ v er, x = .tuple #[v, .int .i64 er] ∧ RtP w v (mulV (subV oneP q) b)
 | 14 => RtP w x (mulV (subV oneP q) b)
 | 15 => ∃ er : Int, x = .int .i64 er
 | 16 => RtP w x (mulV (subV oneP q) b)
 | 17 => ∃ v er, x = .tuple #[v, .int .i64 er] ∧ RtP w v (addV (mulV q a) (mulV (subV oneP q) b))
 | 18 => RtP w x (addV (mulV q a) (mulV (subV oneP q) b))
 | 19 => ∃ er : Int, x = .int .i64 er
 | 20 => RtP w x (addV (mulV q a) (mulV (subV oneP q) b))
 | 21 => GoodX w g (addV (mulV q a) (mulV (subV oneP q) b))
 | _ => True
theorem PhiMx.keep {B : Nat} {g ga gb gc : Nat} {a1 a2 b1 b2 d1 d2 : Value} {q a b : LP} : ∀ (w w' : World), RX B g (addV (mulV q a) (mulV (subV oneP q) b)) w w' → ∀ j x, PhiMx g ga gb gc a1 a2 b1 b2 d1 d2 q a b j w x → PhiMx g ga gb gc a1 a2 b1 b2 d1 d2 q a b j w' x := by
 intro w w' hr j x h; unfold PhiMx at h ⊢
 split <;> simp only at h ⊢
 all_goals first
  | exact h
  | exact h.mapL hr.lim
  | exact h.map hr
  | (obtain ⟨v, er, e, h⟩ := h; exact ⟨v, er, e, h.mapL hr.lim⟩)
/-- what Factor says -/
noncomputable def facE (b : LP) (rows : List (List LP)) (n k : Int) : Int := if planE b rows ≠ 0 then planE b rows else if n < 0 ∨ k < 0 ∨ n < k then 5 else 0
end Go.Proofs.YtmbfjmilhfmnkaaGreatDoor
namespace Go.Proofs.YtmbfjmilhfmnkaaGreatDoor
open Go Go.RowKit
/-- the measure of coming to a level within d outcomes more -/
noncomputable def reachV (ch : LP → LP → LP) (b : LP) (rows : List (List LP)) (level : LP) : Nat → Nat → Nat → LP → LP
 | 0, _, _, c => if atB level c then oneP else nilP
 | d + 1, m, k, c => if atB level c then oneP else ch (reachV ch b rows level d (m + 1) (k + 1) (mulV c (factorV b rows m k true))) (reachV ch b rows level d (m + 1) k (mulV c (factorV b rows m k false)))
/-- choose, as it stands in memory -/
def ChS (fch gq : Nat) (ch : LP → LP → LP) (w : World) : Prop := ∀ W va vb a b, Below w.heap.size w W → RtP W va a → RtP W vb b → Calls Tryz.prog fch #[va, vb, .pointer (some ⟨gq, 0, none⟩)] W fun e w' => ∃ v, e = .returned v ∧ RtP w' v (ch a b) ∧ Below W.heap.size W w'
end Go.Proofs.YtmbfjmilhfmnkaaGreatDoor
