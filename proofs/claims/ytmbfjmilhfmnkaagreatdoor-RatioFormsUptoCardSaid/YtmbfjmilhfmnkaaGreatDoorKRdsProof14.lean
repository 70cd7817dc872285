import Derived.Test.YtmbfjmilhfmnkaaGreatDoorKRdsProof13
import Derived.Test.YtmbfjmilhfmnkaaGreatDoorS0
set_option linter.unusedVariables false
set_option linter.unusedSimpArgs false
namespace Go.Proofs.YtmbfjmilhfmnkaaGreatDoor
open Go.RowKit
theorem RedP.pow {w : World} {v : Value} {er : Int} {p q n : Nat} (h : RedP w v er (p ^ n * p) (q ^ n * q)) (g : Nm.Good p q) :
  (Nm.Fits (p ^ (n + 1)) (q ^ (n + 1)) ∧ er = 0 ∧ Rat w v (p ^ (n + 1)) (q ^ (n + 1))) ∨ (¬ Nm.Fits (p ^ (n + 1)) (q ^ (n + 1)) ∧ er = 4) := by
 unfold RedP at h; rw [Nm.gcd_pow g, Nat.div_one, Nat.div_one, ← Nat.pow_succ, ← Nat.pow_succ] at h
 rcases h with h | ⟨h1, h2, _⟩
 ·exact .inl h
 ·exact .inr ⟨h1, h2⟩
theorem Rat.map {w w' : World} {v : Value} {p q : Nat} (h : Rat w v p q) (hm : ∀ A k c x, Nb w A k c x → Nb w' A k c x) : Rat w' v p q := by
 obtain ⟨A1, k1, c1, A2, k2, c2, rfl, h1, h2⟩ := h; exact ⟨A1, k1, c1, A2, k2, c2, rfl, hm _ _ _ _ h1, hm _ _ _ _ h2⟩
theorem Box.sl {w : World} {g : Nat} {A A' : Option Addr} {k c k' c' : Nat} (h : Box w g (.slice A k c) (.slice A' k' c')) : Sl w g := ⟨_, _, _, _, _, _, h⟩
theorem Sl.keep2 {w : World} {g : Nat} (h : Sl w g) (A A' : Option Addr) (k c k' c' : Nat) : ∀ A2 k2 c2 x, Nb w A2 k2 c2 x → Nb ((w.setCell ⟨g, 0, none⟩ (.slice A k c)).setCell ⟨g, 1, none⟩ (.slice A' k' c')) A2 k2 c2 x :=
 fun _ _ _ _ hn => (hn.setSl h _).setSl (h.set0 _ _ _) _
theorem RtL.limb {w : World} {v : Value} {l1 l2 : List Nat} (h : RtL w v l1 l2) : Nm.Lim l1 ∧ Nm.Lim l2 := by
 obtain ⟨A1, k1, c1, A2, k2, c2, rfl, h1, h2, _⟩ := h; exact ⟨h1.limb, h2.limb⟩
theorem RtL.rat {w : World} {v : Value} {p q : Nat} (h : RtL w v (Nm.lb p) (Nm.lb (Nm.dn q))) : Rat w v p q := by
 obtain ⟨A1, k1, c1, A2, k2, c2, rfl, h1, h2, e1, e2⟩ := h; exact ⟨A1, k1, c1, A2, k2, c2, rfl, ⟨e1, h1⟩, ⟨e2, h2⟩⟩
end Go.Proofs.YtmbfjmilhfmnkaaGreatDoor
