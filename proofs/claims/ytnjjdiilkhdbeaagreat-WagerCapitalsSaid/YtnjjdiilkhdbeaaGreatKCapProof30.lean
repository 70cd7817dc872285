import Derived.Test.YtnjjdiilkhdbeaaGreatKCapProof26
import Derived.Test.YtnjjdiilkhdbeaaGreatS0
set_option linter.unusedVariables false
set_option linter.unusedSimpArgs false
namespace Go.Proofs.YtnjjdiilkhdbeaaGreat
open Go Go.RowKit
theorem Frac.nil_iff {x : LP} {n d : Nat} (h : Frac x n d) : x.1 = [] ↔ n = 0 := by
 obtain ⟨a, b, g, rfl, ga, rfl, rfl, hg⟩ := h.parts
 show Nm.lb a = [] ↔ _
 rw [Nm.lb_nil_iff]
 constructor
 ·intro h; rw [h, Nat.zero_mul]
 ·intro h
  rcases Nat.mul_eq_zero.1 h with h | h
  ·exact h
  ·omega
theorem PlanN.fac_small {b : LP} {rows : List (List LP)} {pb qb : Nat} (h : PlanN b rows pb qb) (n k : Nat) (bad : Bool) : ∃ f d, Frac (factorV b rows n k bad) f d ∧ f ≤ 2 ^ 24 ∧ d ≤ 2 ^ 16 := by
 obtain ⟨ps, qs, h0, h1, h2, h3, h4, h5⟩ := h.fac n k; have m2 : qs * qb ≤ 255 * 255 := Nat.mul_le_mul h2 h.qle; have m3 : ps * (qb - pb) ≤ 255 * 255 := Nat.mul_le_mul h1 (by have := h.qle; omega)
 cases bad
 ·exact ⟨_, _, h5, by omega, by omega⟩
 ·exact ⟨_, _, h4, by omega, by omega⟩
/-- one outcome more: the capital times the factor fits -/
theorem cap_step {b : LP} {rows : List (List LP)} {pb qb : Nat} (h : PlanN b rows pb qb) {c : LP} {N D n : Nat} (hc : Frac c N D) (hN : N ≤ 2 ^ (24 * n)) (hD : D ≤ 2 ^ (16 * n)) (hn : n < 80) (k : Nat) (bad : Bool) :
  (mulF c (factorV b rows n k bad)).1 = 0 ∧ (∃ N' D', Frac (mulV c (factorV b rows n k bad)) N' D' ∧ N' ≤ 2 ^ (24 * (n + 1)) ∧ D' ≤ 2 ^ (16 * (n + 1))) ∧ (c.1 = [] → (mulV c (factorV b rows n k bad)).1 = []) := by
 obtain ⟨f, d, hf, h1, h2⟩ := h.fac_small n k bad; have k1 : N * f ≤ 2 ^ (24 * (n + 1)) := by rw [Nat.mul_add, Nat.pow_add]; exact Nat.mul_le_mul hN h1
 have k2 : D * d ≤ 2 ^ (16 * (n + 1)) := by rw [Nat.mul_add, Nat.pow_add]; exact Nat.mul_le_mul hD h2
 have l1 : N * f < Nm.B ^ 64 := lim_pow k1 (by omega); have l2 : D * d < Nm.B ^ 64 := lim_pow k2 (by omega); obtain ⟨g1, g2⟩ := hc.mul hf l1 l2; refine ⟨g2, ⟨_, _, g1, k1, k2⟩, fun hz => ?_⟩; rw [g1.nil_iff, hc.nil_iff.1 hz, Nat.zero_mul]
theorem capsFrom_len {b : LP} {rows : List (List LP)} : ∀ (bad : List Bool) (n k : Nat) (c : LP), (capsFrom b rows n k c bad).length = bad.length
 | [], _, _, _ => rfl
 | x :: xs, n, k, c => by unfold capsFrom; rw [List.length_cons, capsFrom_len xs, List.length_cons]
theorem capsV_len {b : LP} {rows : List (List LP)} (bad : List Bool) : (capsV b rows bad).length = bad.length + 1 := by unfold capsV; rw [List.length_cons, capsFrom_len]
theorem capE_ok {b : LP} {rows : List (List LP)} {bad : List Bool} (h : planE b rows = 0) (hl : bad.length ≤ 256) : capE b rows bad = 0 := by
 unfold capE; rw [if_neg (by rw [h]; simp), if_neg (by omega)]
theorem capE_many {b : LP} {rows : List (List LP)} {bad : List Bool} (h : planE b rows = 0) (hl : 256 < bad.length) : capE b rows bad = 4 := by
 unfold capE; rw [if_neg (by rw [h]; simp), if_pos hl]
theorem capX_ok {b : LP} {rows : List (List LP)} {bad : List Bool} (h : planE b rows = 0) (hl : bad.length ≤ 256) : capX b rows bad = capsV b rows bad := by
 unfold capX; rw [if_neg (by rw [h]; simp), if_neg (by omega)]
/-- how far the capitals are -/
def CapAt (b : LP) (rows : List (List LP)) (bad : List Bool) (X : List LP) (n k : Nat) (c : LP) : Prop := X[n]? = some c ∧ X.drop (n + 1) = capsFrom b rows n k c (bad.drop n) ∧ k ≤ n ∧ ∃ N D, Frac c N D ∧ N ≤ 2 ^ (24 * n) ∧ D ≤ 2 ^ (16 * n)
theorem CapAt.start (b : LP) (rows : List (List LP)) (bad : List Bool) : CapAt b rows bad (capsV b rows bad) 0 0 oneP :=
 ⟨rfl, rfl, Nat.le_refl _, 1, 1, Frac.one (by omega) (b64 (by omega)), by simp, by simp⟩
theorem CapAt.step {b : LP} {rows : List (List LP)} {pb qb : Nat} (h : PlanN b rows pb qb) {bad : List Bool} {X : List LP} {n k : Nat} {c : LP} {x : Bool} (hc : CapAt b rows bad X n k c) (hx : bad[n]? = some x) (hn : n < 80) :
  X[n + 1]? = some (mulV c (factorV b rows n k x)) ∧ (mulF c (factorV b rows n k x)).1 = 0 ∧ (c.1 = [] → (mulV c (factorV b rows n k x)).1 = []) ∧ CapAt b rows bad X (n + 1) (if x then k + 1 else k) (mulV c (factorV b rows n k x)) := by
 obtain ⟨h1, h2, h3, N, D, h4, h5, h6⟩ := hc; obtain ⟨k1, k2, k3⟩ := cap_step h h4 h5 h6 hn k x; rw [capsFrom_drop hx] at h2
 have e : X[n + 1]? = some (mulV c (factorV b rows n k x)) := by
  have := congrArg (fun l => l[0]?) h2; simp only [List.getElem?_drop, List.getElem?_cons_zero, Nat.add_zero] at this; exact this
 refine ⟨e, k1, k3, e, ?_, by split <;> omega, k2⟩; have := congrArg (fun l => l.drop 1) h2; simp only [List.drop_drop, List.drop_succ_cons, List.drop_zero] at this; exact this
end Go.Proofs.YtnjjdiilkhdbeaaGreat
