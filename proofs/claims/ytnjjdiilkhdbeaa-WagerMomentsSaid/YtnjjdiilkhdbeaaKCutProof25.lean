import Derived.Test.YtnjjdiilkhdbeaaKCutProof24
import Derived.Test.YtnjjdiilkhdbeaaS0
set_option linter.unusedVariables false
set_option linter.unusedSimpArgs false
namespace Go.Proofs.Ytnjjdiilkhdbeaa
open Go Go.RowKit
/-- the sums after one outcome more -/
noncomputable def expStep (b : LP) (rows : List (List LP)) (q : LP) (m : Nat) : Nat → LP → List LP → List LP
 | _, a, [] => [a]
 | k, a, c :: cs => addV a (mulV c (mulV (subV oneP q) (factorV b rows m k false))) :: expStep b rows q m (k + 1) (addV nilP (mulV c (mulV q (factorV b rows m k true)))) cs
noncomputable def expL (b : LP) (rows : List (List LP)) (q : LP) : Nat → List LP
 | 0 => [oneP]
 | m + 1 => expStep b rows q m 0 nilP (expL b rows q m)
theorem expStep_len {b : LP} {rows : List (List LP)} {q : LP} {m : Nat} : ∀ (cs : List LP) (k : Nat) (a : LP), (expStep b rows q m k a cs).length = cs.length + 1
 | [], _, _ => rfl
 | c :: cs, k, a => by
  unfold expStep; rw [List.length_cons, expStep_len cs, List.length_cons]
theorem expL_len {b : LP} {rows : List (List LP)} {q : LP} : ∀ m, (expL b rows q m).length = m + 1
 | 0 => rfl
 | m + 1 => by unfold expL; rw [expStep_len, expL_len m]
theorem expStep_drop {b : LP} {rows : List (List LP)} {q : LP} {m k : Nat} {a c : LP} {cs : List LP} (h : cs[k]? = some c) : expStep b rows q m k a (cs.drop k) = addV a (mulV c (mulV (subV oneP q) (factorV b rows m k false))) :: expStep b rows q m (k + 1) (addV nilP (mulV c (mulV q (factorV b rows m k true)))) (cs.drop (k + 1)) := by
 obtain ⟨h1, h2⟩ := List.getElem?_eq_some_iff.1 h; rw [List.drop_eq_getElem_cons h1, h2]; rfl
/-- what Expect says -/
noncomputable def expE (b : LP) (rows : List (List LP)) (q : LP) (n : Int) : Int := if planE b rows ≠ 0 then planE b rows else if partB q = false then 1 else if n < 0 ∨ 16 < n then 5 else 0
noncomputable def expX (b : LP) (rows : List (List LP)) (q : LP) (n : Int) : LP := if expE b rows q n ≠ 0 then nilP else (sumF nilP (expL b rows q n.toNat)).2
noncomputable def rexpX (b : LP) (rows : List (List LP)) (q : LP) (n : Int) : LP := if expE b rows q n ≠ 0 then nilP else (expL b rows q n.toNat).foldl addV nilP
theorem expE_zero {b : LP} {rows : List (List LP)} {q : LP} {n : Int} (h : expE b rows q n = 0) : planE b rows = 0 ∧ partB q = true ∧ 0 ≤ n ∧ n ≤ 16 := by
 unfold expE at h
 split at h
 ·contradiction
 ·split at h
  ·cases h
  ·split at h
   ·cases h
   ·rename_i h1 h2 h3
    exact ⟨by simpa using h1, by simpa using h2, by omega, by omega⟩
/-- ratios with one denominator -/
def FracL (D : Nat) : List LP → List Nat → Prop
 | [], [] => True
 | x :: xs, n :: ns => Frac x n D ∧ FracL D xs ns
 | _, _ => False
theorem FracL.len {D : Nat} : ∀ {xs : List LP} {ns : List Nat}, FracL D xs ns → xs.length = ns.length
 | [], [], _ => rfl
 | x :: xs, n :: ns, h => by rw [List.length_cons, List.length_cons, FracL.len h.2]
 | [], n :: ns, h => absurd h (by simp [FracL])
 | x :: xs, [], h => absurd h (by simp [FracL])
theorem sum_frac {D : Nat} : ∀ (xs : List LP) (ns : List Nat) (a : LP) (n : Nat), FracL D xs ns → Frac a n D → n + ns.sum < Nm.B ^ 64 → sumF a xs = (0, xs.foldl addV a) ∧ Frac (xs.foldl addV a) (n + ns.sum) D
 | [], [], a, n, _, ha, _ => ⟨rfl, by simpa using ha⟩
 | x :: xs, m :: ns, a, n, h, ha, hb => by
  rw [List.sum_cons] at hb; have h1 := ha.add h.1 (by omega); have h2 := sum_frac xs ns (addV a x) (n + m) h.2 h1.1 (by omega); refine ⟨?_, ?_⟩
  ·unfold sumF; rw [if_pos h1.2]; exact h2.1
  ·have := h2.2; rw [Nat.add_assoc] at this; exact this
 | [], n :: ns, _, _, h, _, _ => absurd h (by simp [FracL])
 | x :: xs, [], _, _, h, _, _ => absurd h (by simp [FracL])
theorem pow_of (B k n : Nat) (h : B = 2 ^ k) : B ^ n = 2 ^ (k * n) := by subst h; exact (Nat.pow_mul 2 k n).symm
theorem b_pow : Nm.B ^ 64 = 2 ^ (32 * 64) := pow_of _ 32 64 (by unfold Nm.B; decide)
theorem pw_lt {x k n : Nat} (h : x ≤ 2 ^ k) (hk : k < n) : x < 2 ^ n := Nat.lt_of_le_of_lt h (Nat.pow_lt_pow_right (by omega) hk)
theorem lim_pow {x k : Nat} (h : x ≤ 2 ^ k) (hk : k < 2048) : x < Nm.B ^ 64 := Nat.lt_of_lt_of_eq (pw_lt (n := 32 * 64) h (by omega)) b_pow.symm
/-- the factors of a row with one denominator -/
theorem PlanN.facs {b : LP} {rows : List (List LP)} {pb qb : Nat} (h : PlanN b rows pb qb) (m : Nat) : ∀ len, len ≤ 17 → ∃ Q, 0 < Q ∧ Q ≤ 2 ^ (8 * len) ∧ ∀ k, k < len → ∃ P, P ≤ 255 * Q ∧ P * pb ≤ Q * qb ∧ Frac (factorV b rows m k true) (Q * qb + P * (qb - pb)) (Q * qb) ∧ Frac (factorV b rows m k false) (Q * qb - P * pb) (Q * qb) := by
 have hq0 := h.bd.pos; have hq := h.qle; intro len
 induction len with
 | zero => intro _; exact ⟨1, by omega, by simp, fun k hk => absurd hk (by omega)⟩
 | succ len ih =>
  intro hl; obtain ⟨Q, h0, h1, h2⟩ := ih (by omega); obtain ⟨ps, qs, g0, g1, g2, g3, g4, g5⟩ := h.fac m len; have hQ0 := Nat.mul_pos h0 g0
  have hbig : Q * qs ≤ 2 ^ (8 * (len + 1)) := by
   rw [Nat.mul_add, Nat.pow_add]; exact Nat.mul_le_mul h1 (by omega)
  have hbig2 : Q * qs ≤ 2 ^ 136 := Nat.le_trans hbig (Nat.pow_le_pow_right (by omega) (by omega)); have hQb : Q * qs * qb ≤ 2 ^ 136 * 255 := Nat.mul_le_mul hbig2 hq; have hlim : ∀ x, x ≤ 2 ^ 136 * 255 * 256 → x < Nm.B ^ 64 := fun x hx => lim_pow (k := 200) (Nat.le_trans hx (show 2 ^ 136 * 255 * 256 ≤ 2 ^ 200 by decide)) (by omega)
  refine ⟨Q * qs, hQ0, hbig, ?_⟩
  have main : ∀ (k P Q0 t : Nat), Q0 * t = Q * qs → 0 < t → P ≤ 255 * Q0 → P * pb ≤ Q0 * qb → Frac (factorV b rows m k true) (Q0 * qb + P * (qb - pb)) (Q0 * qb) → Frac (factorV b rows m k false) (Q0 * qb - P * pb) (Q0 * qb) → ∃ P, P ≤ 255 * (Q * qs) ∧ P * pb ≤ Q * qs * qb ∧ Frac (factorV b rows m k true) (Q * qs * qb + P * (qb - pb)) (Q * qs * qb) ∧ Frac (factorV b rows m k false) (Q * qs * qb - P * pb) (Q * qs * qb) := by
   intro k P Q0 t ht htp p1 p2 p3 p4; have e1 : Q * qs * qb = Q0 * qb * t := by rw [← ht]; ac_rfl
   have e2 : P * t * (qb - pb) = P * (qb - pb) * t := by ac_rfl
   have e3 : P * t * pb = P * pb * t := by ac_rfl
   have hP : P * t ≤ 255 * (Q * qs) := by rw [← ht, ← Nat.mul_assoc]; exact Nat.mul_le_mul_right _ p1
   have hPp : P * t * pb ≤ Q * qs * qb := by rw [e1, e3]; exact Nat.mul_le_mul_right _ p2
   have hPq : P * t * (qb - pb) ≤ 255 * (Q * qs) * qb := Nat.mul_le_mul hP (Nat.sub_le _ _); have hPq2 : 255 * (Q * qs) * qb = 255 * (Q * qs * qb) := by ac_rfl
   refine ⟨P * t, hP, hPp, ?_, ?_⟩
   ·refine p3.scale (Nat.mul_pos hQ0 hq0) (hlim _ ?_) (hlim _ (by omega)) ?_
    ·rw [hPq2] at hPq; omega
    ·rw [e1, e2, ← Nat.add_mul]; ac_rfl
   ·refine p4.scale (Nat.mul_pos hQ0 hq0) (hlim _ (by omega)) (hlim _ (by omega)) ?_; rw [e1, e3, ← Nat.sub_mul]; ac_rfl
  intro k hk
  rcases Nat.lt_succ_iff_lt_or_eq.1 hk with hk | rfl
  ·obtain ⟨P, p1, p2, p3, p4⟩ := h2 k hk; exact main k P Q qs rfl g0 p1 p2 p3 p4
  ·exact main k ps qs Q (Nat.mul_comm _ _) h0 (by have := Nat.mul_le_mul_left 255 g0; omega) g3 g4 g5
/-- the measures of a good and of a bad outcome, times the factors, are the whole by the bound -/
theorem mix_le {pb qb pd qd P Q : Nat} (hb : pb ≤ qb) (hd : pd ≤ qd) (hP : P * pb ≤ Q * qb) : (pd * qb ≤ qd * pb → (qd - pd) * (Q * qb - P * pb) + pd * (Q * qb + P * (qb - pb)) ≤ qd * (Q * qb)) ∧ (qd * pb ≤ pd * qb → qd * (Q * qb) ≤ (qd - pd) * (Q * qb - P * pb) + pd * (Q * qb + P * (qb - pb))) := by
 obtain ⟨x, rfl⟩ := Nat.le.dest hb; obtain ⟨y, rfl⟩ := Nat.le.dest hd; obtain ⟨z, hz⟩ := Nat.le.dest hP; rw [show pb + x - pb = x by omega, show pd + y - pd = y by omega, ← hz, show P * pb + z - P * pb = z by omega]; have e1 : (pd + y) * (P * pb + z) = pd * (P * pb) + pd * z + y * (P * pb) + y * z := by rw [Nat.add_mul, Nat.mul_add, Nat.mul_add]; omega
 have e2 : y * z + pd * (P * pb + z + P * x) = y * z + pd * (P * pb) + pd * z + pd * (P * x) := by rw [Nat.mul_add, Nat.mul_add]; omega
 rw [e1, e2]; have e3 : pd * (pb + x) = pd * pb + pd * x := Nat.mul_add _ _ _; have e4 : (pd + y) * pb = pd * pb + y * pb := Nat.add_mul _ _ _; have e5 : pd * (P * x) = P * (pd * x) := by ac_rfl
 have e6 : y * (P * pb) = P * (y * pb) := by ac_rfl
 rw [e3, e4, e5, e6]
 constructor
 ·intro h; have := Nat.mul_le_mul_left P (show pd * x ≤ y * pb by omega); omega
 ·intro h; have := Nat.mul_le_mul_left P (show y * pb ≤ pd * x by omega); omega
theorem expStep_num {b : LP} {rows : List (List LP)} {q : LP} {pb qb pd qd m len Q D C : Nat} (hb : pb ≤ qb) (hq : Frac q pd qd) (hd : pd ≤ qd) (hD : 0 < D) (hC : 0 < C) (hQ : 0 < Q) (hqb : 0 < qb)
  (hf : ∀ k, k < len → ∃ P, P ≤ 255 * Q ∧ P * pb ≤ Q * qb ∧ Frac (factorV b rows m k true) (Q * qb + P * (qb - pb)) (Q * qb) ∧ Frac (factorV b rows m k false) (Q * qb - P * pb) (Q * qb))
  (hbig : 512 * (C * (D * (qd * (Q * qb)))) < Nm.B ^ 64) : ∀ (cs : List LP) (ns : List Nat) (k : Nat) (a : LP) (na : Nat), FracL D cs ns → Frac a na (D * (qd * (Q * qb))) → k + cs.length ≤ len → (∀ n ∈ ns, n ≤ C * D) → na ≤ 256 * (C * (D * (qd * (Q * qb)))) →
   ∃ ms, FracL (D * (qd * (Q * qb))) (expStep b rows q m k a cs) ms ∧ (∀ n ∈ ms, n ≤ 512 * C * (D * (qd * (Q * qb)))) ∧ (pd * qb ≤ qd * pb → ms.sum ≤ na + ns.sum * (qd * (Q * qb))) ∧ (qd * pb ≤ pd * qb → na + ns.sum * (qd * (Q * qb)) ≤ ms.sum)
 | [], [], k, a, na, _, ha, _, _, hna => by
  refine ⟨[na], ⟨ha, trivial⟩, fun n hn => ?_, ?_, ?_⟩
  ·rw [List.mem_singleton] at hn; rw [hn, Nat.mul_assoc]; omega
  ·intro _; simp
  ·intro _; simp
 | c :: cs, n :: ns, k, a, na, hc, ha, hk, hns, hna => by
  rw [List.length_cons] at hk; obtain ⟨P, p1, p2, p3, p4⟩ := hf k (by omega); have hqd := hq.pos; have hR0 : 0 < Q * qb := Nat.mul_pos hQ hqb; have hT0 : 0 < qd * (Q * qb) := Nat.mul_pos hqd hR0; have hn := hns n List.mem_cons_self; have hE := Nat.mul_pos hC hD
  -- bounds
  have b1 : (qd - pd) * (Q * qb - P * pb) ≤ qd * (Q * qb) := Nat.mul_le_mul (Nat.sub_le _ _) (Nat.sub_le _ _)
  have b2' : P * (qb - pb) ≤ 255 * (Q * qb) := by
   rw [← Nat.mul_assoc]; exact Nat.mul_le_mul p1 (Nat.sub_le _ _)
  have b2 : pd * (Q * qb + P * (qb - pb)) ≤ qd * (256 * (Q * qb)) := Nat.mul_le_mul hd (by omega); have e256 : qd * (256 * (Q * qb)) = 256 * (qd * (Q * qb)) := by ac_rfl
  have eCD : C * D * (qd * (Q * qb)) = C * (D * (qd * (Q * qb))) := by ac_rfl
  have c1 : n * ((qd - pd) * (Q * qb - P * pb)) ≤ C * (D * (qd * (Q * qb))) := by
   rw [← eCD]; exact Nat.mul_le_mul hn b1
  have c2 : n * (pd * (Q * qb + P * (qb - pb))) ≤ 256 * (C * (D * (qd * (Q * qb)))) := by
   have := Nat.mul_le_mul hn b2; rw [e256, show C * D * (256 * (qd * (Q * qb))) = 256 * (C * (D * (qd * (Q * qb)))) by ac_rfl] at this; exact this
  have hTle : qd * (Q * qb) ≤ C * (D * (qd * (Q * qb))) := by
   rw [← eCD]; exact Nat.le_mul_of_pos_left _ hE
  have hDTle : D * (qd * (Q * qb)) ≤ C * (D * (qd * (Q * qb))) := Nat.le_mul_of_pos_left _ hC; have h1q : qd < Nm.B ^ 64 := hq.hd; have r1 := ((Frac.one (d := qd) hqd h1q).sub hq hd).1; have v1 := (r1.mul p4 (Nat.lt_of_le_of_lt b1 (by omega)) (by omega)).1; have v2 := (hc.1.mul v1 (Nat.lt_of_le_of_lt c1 (by omega)) (by omega)).1; have u1 := (hq.mul p3 (Nat.lt_of_le_of_lt b2 (by omega)) (by omega)).1; have u2 := (hc.1.mul u1 (Nat.lt_of_le_of_lt c2 (by omega)) (by omega)).1; have x1 := (ha.add v2 (by omega)).1; have x2 := ((Frac.nil (d := D * (qd * (Q * qb))) (Nat.mul_pos hD hT0) (by omega)).add u2 (by omega)).1; rw [Nat.zero_add] at x2; obtain ⟨ms, k1, k2, k3, k4⟩ := expStep_num hb hq hd hD hC hQ hqb hf hbig cs ns (k + 1) _ _ hc.2 x2 (by omega) (fun y hy => hns y (List.mem_cons_of_mem _ hy)) c2; have hmix := mix_le (pb := pb) (qb := qb) (pd := pd) (qd := qd) (P := P) (Q := Q) hb hd p2; have es : (n :: ns).sum * (qd * (Q * qb)) = n * (qd * (Q * qb)) + ns.sum * (qd * (Q * qb)) := by rw [List.sum_cons, Nat.add_mul]
  refine ⟨_ :: ms, ⟨x1, k1⟩, fun y hy => ?_, fun h => ?_, fun h => ?_⟩
  ·rcases List.mem_cons.1 hy with rfl | hy
   ·rw [Nat.mul_assoc]; omega
   ·exact k2 y hy
  ·have := k3 h; have h2 := Nat.mul_le_mul_left n (hmix.1 h); rw [Nat.mul_add] at h2; rw [es, List.sum_cons]; omega
  ·have := k4 h; have h2 := Nat.mul_le_mul_left n (hmix.2 h); rw [Nat.mul_add] at h2; rw [es, List.sum_cons]; omega
 | [], n :: ns, _, _, _, h, _, _, _, _ => absurd h (by simp [FracL])
 | x :: xs, [], _, _, _, h, _, _, _, _ => absurd h (by simp [FracL])
/-- the sums of a valid plan with one denominator -/
theorem expL_num {b : LP} {rows : List (List LP)} {q : LP} {pb qb pd qd : Nat} (h : PlanN b rows pb qb) (hq : Frac q pd qd) (hd : pd ≤ qd) (hqd : qd ≤ 255) : ∀ m, m ≤ 16 → ∃ D ns, FracL D (expL b rows q m) ns ∧ 0 < D ∧ D ≤ 2 ^ (4 * (m * (m + 5))) ∧ (∀ n ∈ ns, n ≤ 2 ^ (9 * m) * D) ∧ (pd * qb ≤ qd * pb → ns.sum ≤ D) ∧ (qd * pb ≤ pd * qb → D ≤ ns.sum) := by
 intro m
 induction m with
 | zero =>
  intro _; exact ⟨1, [1], ⟨Frac.one (by omega) (b64 (by omega)), trivial⟩, by omega, by simp, fun n hn => by simp at hn; omega, fun _ => by simp, fun _ => by simp⟩
 | succ m ih =>
  intro hm; obtain ⟨D, ns, h1, h2, h3, h4, h5, h6⟩ := ih (by omega); obtain ⟨Q, q1, q2, q3⟩ := h.facs m (m + 1) (by omega); have hqb := h.bd.pos; have hqbl := h.qle
  have hD' : D * (qd * (Q * qb)) ≤ 2 ^ (4 * ((m + 1) * (m + 1 + 5))) := by
   have e : 4 * ((m + 1) * (m + 1 + 5)) = 4 * (m * (m + 5)) + (8 + (8 * (m + 1) + 8)) := by
    rw [Nat.add_mul, show m * (m + 1 + 5) = m * (m + 5) + m by rw [← Nat.mul_succ]]; omega
   rw [e, Nat.pow_add, Nat.pow_add, Nat.pow_add]; exact Nat.mul_le_mul h3 (Nat.mul_le_mul (by omega) (Nat.mul_le_mul q2 (by omega)))
  have hbig : 512 * (2 ^ (9 * m) * (D * (qd * (Q * qb)))) < Nm.B ^ 64 := by
   have k4 : 512 * (2 ^ (9 * m) * (D * (qd * (Q * qb)))) ≤ 2 ^ (9 + (9 * m + 4 * ((m + 1) * (m + 1 + 5)))) := by
    rw [Nat.pow_add, Nat.pow_add]; exact Nat.mul_le_mul (by decide) (Nat.mul_le_mul (Nat.le_refl _) hD')
   refine lim_pow k4 ?_; have := Nat.mul_le_mul (show m + 1 ≤ 16 by omega) (show m + 1 + 5 ≤ 21 by omega); omega
  have hT : 0 < D * (qd * (Q * qb)) := Nat.mul_pos h2 (Nat.mul_pos hq.pos (Nat.mul_pos q1 hqb))
  have hlt : D * (qd * (Q * qb)) < Nm.B ^ 64 := by
   have := Nat.le_mul_of_pos_left (D * (qd * (Q * qb))) (show 0 < 2 ^ (9 * m) from Nat.pow_pos (by omega)); omega
  obtain ⟨ms, m1, m2, m3, m4⟩ := expStep_num h.le hq hd h2 (Nat.pow_pos (n := 9 * m) (a := 2) (by omega)) q1 hqb q3 hbig (expL b rows q m) ns 0 nilP 0 h1 (Frac.nil hT hlt) (by rw [expL_len]; omega) h4 (by omega); refine ⟨_, ms, m1, hT, hD', fun n hn => ?_, fun hh => ?_, fun hh => ?_⟩
  ·have := m2 n hn; rw [show 9 * (m + 1) = 9 + 9 * m by omega, Nat.pow_add]; exact this
  ·have := m3 hh; have h8 := Nat.mul_le_mul_right (qd * (Q * qb)) (h5 hh); omega
  ·have := m4 hh; have h8 := Nat.mul_le_mul_right (qd * (Q * qb)) (h6 hh); omega
theorem sum_le {C : Nat} : ∀ (l : List Nat), (∀ n ∈ l, n ≤ C) → l.sum ≤ l.length * C
 | [], _ => by simp
 | x :: l, h => by
  have h1 := sum_le l fun n hn => h n (List.mem_cons_of_mem _ hn)
  have h2 := h x List.mem_cons_self; rw [List.sum_cons, List.length_cons, Nat.add_mul]; omega
/-- the expectation of a valid plan -/
theorem exp_num {b : LP} {rows : List (List LP)} {q : LP} {pb qb pd qd : Nat} (h : PlanN b rows pb qb) (hq : Frac q pd qd) (hd : pd ≤ qd) (hqd : qd ≤ 255) {m : Nat} (hm : m ≤ 16) : ∃ n D, sumF nilP (expL b rows q m) = (0, (expL b rows q m).foldl addV nilP) ∧ Frac ((expL b rows q m).foldl addV nilP) n D ∧ (pd * qb ≤ qd * pb → n ≤ D) ∧ (qd * pb ≤ pd * qb → D ≤ n) := by
 obtain ⟨D, ns, h1, h2, h3, h4, h5, h6⟩ := expL_num h hq hd hqd m hm; have hl := h1.len; rw [expL_len] at hl; have hmm := Nat.mul_le_mul hm (show m + 5 ≤ 21 by omega)
 have hs : 0 + ns.sum ≤ 2 ^ (5 + (9 * m + 4 * (m * (m + 5)))) := by
  rw [Nat.zero_add, Nat.pow_add, Nat.pow_add]; exact Nat.le_trans (sum_le ns h4) (Nat.mul_le_mul (by omega) (Nat.mul_le_mul (Nat.le_refl _) h3))
 have hs2 : 0 + ns.sum < Nm.B ^ 64 := lim_pow hs (by omega); have hD2 : D < Nm.B ^ 64 := lim_pow h3 (by omega); obtain ⟨k1, k2⟩ := sum_frac (expL b rows q m) ns nilP 0 h1 (Frac.nil h2 hD2) hs2; rw [Nat.zero_add] at k2; exact ⟨_, _, k1, k2, h5, h6⟩
end Go.Proofs.Ytnjjdiilkhdbeaa
namespace Go.Proofs.Ytnjjdiilkhdbeaa
open Go Go.RowKit
theorem Frac.nil_iff {x : LP} {n d : Nat} (h : Frac x n d) : x.1 = [] ↔ n = 0 := by
 obtain ⟨a, b, g, rfl, ga, rfl, rfl, hg⟩ := h.parts
 show Nm.lb a = [] ↔ _
 rw [Nm.lb_nil_iff]
 constructor
 ·intro h; rw [h, Nat.zero_mul]
 ·intro h
  rcases Nat.mul_eq_zero.1 h with h | h
  ·exact h
  ·omega
theorem PlanN.fac_small {b : LP} {rows : List (List LP)} {pb qb : Nat} (h : PlanN b rows pb qb) (n k : Nat) (bad : Bool) : ∃ f d, Frac (factorV b rows n k bad) f d ∧ f ≤ 2 ^ 24 ∧ d ≤ 2 ^ 16 := by
 obtain ⟨ps, qs, h0, h1, h2, h3, h4, h5⟩ := h.fac n k; have m2 : qs * qb ≤ 255 * 255 := Nat.mul_le_mul h2 h.qle; have m3 : ps * (qb - pb) ≤ 255 * 255 := Nat.mul_le_mul h1 (by have := h.qle; omega)
 cases bad
 ·exact ⟨_, _, h5, by omega, by omega⟩
 ·exact ⟨_, _, h4, by omega, by omega⟩
/-- one outcome more: the capital times the factor fits -/
theorem cap_step {b : LP} {rows : List (List LP)} {pb qb : Nat} (h : PlanN b rows pb qb) {c : LP} {N D n : Nat} (hc : Frac c N D) (hN : N ≤ 2 ^ (24 * n)) (hD : D ≤ 2 ^ (16 * n)) (hn : n < 80) (k : Nat) (bad : Bool) :
  (mulF c (factorV b rows n k bad)).1 = 0 ∧ (∃ N' D', Frac (mulV c (factorV b rows n k bad)) N' D' ∧ N' ≤ 2 ^ (24 * (n + 1)) ∧ D' ≤ 2 ^ (16 * (n + 1))) ∧ (c.1 = [] → (mulV c (factorV b rows n k bad)).1 = []) := by
 obtain ⟨f, d, hf, h1, h2⟩ := h.fac_small n k bad; have k1 : N * f ≤ 2 ^ (24 * (n + 1)) := by rw [Nat.mul_add, Nat.pow_add]; exact Nat.mul_le_mul hN h1
 have k2 : D * d ≤ 2 ^ (16 * (n + 1)) := by rw [Nat.mul_add, Nat.pow_add]; exact Nat.mul_le_mul hD h2
 have l1 : N * f < Nm.B ^ 64 := lim_pow k1 (by omega); have l2 : D * d < Nm.B ^ 64 := lim_pow k2 (by omega); obtain ⟨g1, g2⟩ := hc.mul hf l1 l2; refine ⟨g2, ⟨_, _, g1, k1, k2⟩, fun hz => ?_⟩; rw [g1.nil_iff, hc.nil_iff.1 hz, Nat.zero_mul]
theorem capsFrom_len {b : LP} {rows : List (List LP)} : ∀ (bad : List Bool) (n k : Nat) (c : LP), (capsFrom b rows n k c bad).length = bad.length
 | [], _, _, _ => rfl
 | x :: xs, n, k, c => by unfold capsFrom; rw [List.length_cons, capsFrom_len xs, List.length_cons]
theorem capsV_len {b : LP} {rows : List (List LP)} (bad : List Bool) : (capsV b rows bad).length = bad.length + 1 := by unfold capsV; rw [List.length_cons, capsFrom_len]
theorem capE_ok {b : LP} {rows : List (List LP)} {bad : List Bool} (h : planE b rows = 0) (hl : bad.length ≤ 256) : capE b rows bad = 0 := by
 unfold capE; rw [if_neg (by rw [h]; simp), if_neg (by omega)]
theorem capE_many {b : LP} {rows : List (List LP)} {bad : List Bool} (h : planE b rows = 0) (hl : 256 < bad.length) : capE b rows bad = 4 := by
 unfold capE; rw [if_neg (by rw [h]; simp), if_pos hl]
theorem capX_ok {b : LP} {rows : List (List LP)} {bad : List Bool} (h : planE b rows = 0) (hl : bad.length ≤ 256) : capX b rows bad = capsV b rows bad := by
 unfold capX; rw [if_neg (by rw [h]; simp), if_neg (by omega)]
/-- how far the capitals are -/
def CapAt (b : LP) (rows : List (List LP)) (bad : List Bool) (X : List LP) (n k : Nat) (c : LP) : Prop := X[n]? = some c ∧ X.drop (n + 1) = capsFrom b rows n k c (bad.drop n) ∧ k ≤ n ∧ ∃ N D, Frac c N D ∧ N ≤ 2 ^ (24 * n) ∧ D ≤ 2 ^ (16 * n)
theorem CapAt.start (b : LP) (rows : List (List LP)) (bad : List Bool) : CapAt b rows bad (capsV b rows bad) 0 0 oneP :=
 ⟨rfl, rfl, Nat.le_refl _, 1, 1, Frac.one (by omega) (b64 (by omega)), by simp, by simp⟩
theorem CapAt.step {b : LP} {rows : List (List LP)} {pb qb : Nat} (h : PlanN b rows pb qb) {bad : List Bool} {X : List LP} {n k : Nat} {c : LP} {x : Bool} (hc : CapAt b rows bad X n k c) (hx : bad[n]? = some x) (hn : n < 80) :
  X[n + 1]? = some (mulV c (factorV b rows n k x)) ∧ (mulF c (factorV b rows n k x)).1 = 0 ∧ (c.1 = [] → (mulV c (factorV b rows n k x)).1 = []) ∧ CapAt b rows bad X (n + 1) (if x then k + 1 else k) (mulV c (factorV b rows n k x)) := by
 obtain ⟨h1, h2, h3, N, D, h4, h5, h6⟩ := hc; obtain ⟨k1, k2, k3⟩ := cap_step h h4 h5 h6 hn k x; rw [capsFrom_drop hx] at h2
 have e : X[n + 1]? = some (mulV c (factorV b rows n k x)) := by
  have := congrArg (fun l => l[0]?) h2; simp only [List.getElem?_drop, List.getElem?_cons_zero, Nat.add_zero] at this; exact this
 refine ⟨e, k1, k3, e, ?_, by split <;> omega, k2⟩; have := congrArg (fun l => l.drop 1) h2; simp only [List.drop_drop, List.drop_succ_cons, List.drop_zero] at this; exact this
end Go.Proofs.Ytnjjdiilkhdbeaa
namespace Go.Proofs.Ytnjjdiilkhdbeaa
open Go Go.RowKit
set_option maxRecDepth 100000 in
set_option maxHeartbeats 4000000 in
theorem bet_F (va : Value) (pb qb n : Nat) (w : World) (hva : RtP w va (ratP pb qb)) (gb : Nm.Good pb qb) (hpb : pb ≤ 255) (hqb : qb ≤ 255) (hn : n ≤ 4096) (hz1 : pb = 0 → qb = 1) :
  Calls Try.prog 25 #[va, .int .i64 (n : Int)] w fun e w' => ∃ v, e = .returned v ∧ BetOk (ratP pb qb) w' v ∧ Below w.heap.size w w' := by
 obtain ⟨A1, k1, c1, A2, k2, c2, rfl, hl1, hl2, e1, e2⟩ := hva
 have hk1 : k1 = 0 ↔ pb = 0 := by
  rw [e1]
  show (Nm.lb pb).length = 0 ↔ _
  rw [List.length_eq_zero_iff, Nm.lb_nil_iff]
 have hva : RtP w (.agg #[.slice A1 k1 c1, .slice A2 k2 c2]) (ratP pb qb) := ⟨_, _, _, _, _, _, rfl, hl1, hl2, e1, e2⟩; clear hl1 hl2 e1 e2
 go_enter Try.func25, Try.ntmps25
 go_upto_region 1 with fail; refine wp_name ?_; intro w1 HW1; have hb1 : Below w.heap.size w w1 := by rw [HW1.out]; exact Below.tr (bA _ _) (bA _ _)
 have hB1 : Blk w1 w.heap.size 25 #[.slice A1 k1 c1, .slice A2 k2 c2] := by rw [HW1.out]; exact Blk.below (Blk.newG rfl) (bA _ _) (Blk.newG rfl).lt
 have hs1 : Sl w1 (w.heap.size + 1) := by rw [HW1.out]; exact ⟨none, 0, 0, none, 0, 0, Blk.newG (by simp)⟩
 clear HW1; obtain ⟨gB, hgB⟩ : ∃ g, Hid (g = w.heap.size) := ⟨_, rfl⟩; obtain ⟨gr, hgrr⟩ : ∃ g, Hid (g = w.heap.size + 1) := ⟨_, rfl⟩; have hgr : w.heap.size ≤ gr := by have := hgrr.out; omega
 rw [← hgrr.out] at hs1 ⊢; rw [← hgB.out] at hB1 ⊢; have hva := hva.below hb1; have b0 := hB1.cell 0; have b1 := hB1.cell 1; simp only [List.getElem?_toArray, List.getElem?_cons_zero, List.getElem?_cons_succ] at b0 b1; clear hB1 hgB hgrr; by_cases h0 : pb = 0
 ·have hk0 := hk1.2 h0; have t1 : ((k1 : Int) == 0) = true := by simp; omega
  have hq := hz1 h0; subst h0 hq; clear hk1 hz1 hk0; go_wp2_with fail; refine (around_n (n : Int) 13 _ (by omega) (by omega) (by omega) (by omega)).mono ?_; rintro e w' ⟨z, rfl, hz, _, rfl⟩; go_wp2_with fail; refine (around_n ((n : Int) / 13) 4 _ (by omega) (by omega) (by omega) (by omega)).mono ?_; rintro e w' ⟨y, rfl, hy, _, rfl⟩; have s1 : IntKind.i64.wrap (1 + (y : Int)) = 1 + (y : Int) := by rw [IntWalk.i64_in _ (by omega)]
  have HO := rof_s z (1 + y) w1 (by omega) (by omega) (by omega); rw [show (((1 + y : Nat) : Nat) : Int) = 1 + (y : Int) by push_cast; rfl] at HO; obtain ⟨hg, hwr⟩ := bet_zero hz hy; go_wp2_with fail; refine HO.mono ?_; rintro e w2 ⟨C1, m1, d1, C2, m2, d2, rfl, hr, hb2⟩; have hbo : BetOk (ratP 0 1) w2 (.agg #[.slice C1 m1 d1, .slice C2 m2 d2]) := ⟨_, _, hr.1.rtP, hg, hwr⟩; clear HO hg hwr hr s1 b0 b1; go_upto_region 3 with fail; refine wp_name ?_; intro w3 HW3; have hb3 : Below w2.heap.size w2 w3 := by rw [HW3.out]; exact bA _ _
  have hB : Blk w3 w2.heap.size 25 #[.slice C1 m1 d1, .slice C2 m2 d2] := by rw [HW3.out]; exact Blk.new _ _ _
  have p0 := hB.cell 0; have p1 := hB.cell 1; simp only [List.getElem?_toArray, List.getElem?_cons_zero, List.getElem?_cons_succ] at p0 p1; obtain ⟨p, q, hpq, hg, hwr⟩ := hbo; have HGW := Lib.hid (And.intro hg hwr); clear HW3 hB hg hwr; obtain ⟨A, k', c, A', k'', c'', he, ⟨a1, u1⟩, ⟨a2, u2⟩, u3, u4, z1, z2, hr, hbz⟩ := ret_ratio (w0 := w) (hpq.below hb3) ((hs1.below hb2).below hb3) hgr (Below.tr (Below.tr hb1 hb2) hb3); simp only [Value.agg.injEq, Array.mk.injEq, List.cons.injEq, and_true, Value.slice.injEq] at he; obtain ⟨⟨rfl, rfl, rfl⟩, rfl, rfl, rfl⟩ := he; go_wp2_with fail; exact bodyPost_ret (v := .agg #[.slice C1 m1 d1, .slice C2 m2 d2]) (by simp [results, Try.results25, go_sem, z1, z2]) rfl ⟨_, rfl, ⟨p, q, hr, HGW.out⟩, hbz⟩
 ·have t1 : ((k1 : Int) == 0) = false := by
   simp; exact fun e => h0 (hk1.1 e)
  by_cases h5 : (n : Int) % 5 = 0
  ·have t2 : ((n : Int) % 5 == 0) = true := by simpa using h5
   have b0 := Lib.hid b0; have b1 := Lib.hid b1; obtain ⟨p, q, hpq, hg, hwr⟩ := bet_one gb h0 hpb hqb; have HGW := Lib.hid (And.intro hpq (And.intro hg hwr)); clear hpq hg hwr h5; go_upto_region 5 with fail; refine region_invW (PhiLs (.slice A1 k1 c1) (.slice A2 k2 c2) (divF oneP (ratP pb qb)).1 (divF oneP (ratP pb qb)).2 w1.heap.size) (RT w1.heap.size) (SD w1 4 6 7) (by kernel_rfl) (by kernel_rfl) (by kernel_rfl) PhiLs.keep (SD.start _ _ _ _ _) (fun vs => by simp only [fillR, Act.put, sA, sB, sC, Nat.zero_add, Nat.reduceAdd]; rfl) ?_ ?_
   ·refine sK ?_ (sK ?_ (sK ?_ (sK ?_ (sK ?_ (sK ?_ (sK ?_ (sK ?_ (sK ?_ (sZ)))))))))
    ·as_aux_lemma =>
     intro vs L W hS hL cl hdl hdep K hK; refine ⟨?_⟩; simp only [Act.put, sA, sB, sC, Nat.zero_add, Nat.reduceAdd] at hK ⊢; go_simp; refine (rone17_F _).mono ?_; rintro e w' ⟨v, rfl, hv, hb⟩; go_wp2_with fail; with_reducible refine hK _ _ (RT.below hb hS.be.size) (hS.step hb 0 _ (by decide) (fun e => absurd e (by decide))) ?_
     exact hv
    ·as_aux_lemma =>
     intro vs L W hS hL cl hdl hdep K hK; have f1 := cell_keep hS.be b0.out; have f2 := cell_keep hS.be b1.out; refine ⟨?_⟩; simp only [Act.put, sA, sB, sC, Nat.zero_add, Nat.reduceAdd] at hK ⊢; go_simp; with_reducible refine hK _ _ (RT.refl _ _) (hS.step (Below.refl _ _) 1 _ (by decide) (fun e => absurd e (by decide))) ?_
     exact rfl
    ·as_aux_lemma =>
     intro vs L W hS hL cl hdl hdep K hK; have d0 := hdep ⟨0, .data⟩ (by simp) rfl; simp only [PhiLs] at d0; have r0 := d0; clear d0; have d1 := hdep ⟨1, .data⟩ (by simp) rfl; simp only [PhiLs] at d1; refine ⟨?_⟩; simp only [Act.put, sA, sB, sC, Nat.zero_add, Nat.reduceAdd, d1] at hK ⊢; go_simp; refine (rdiv_F _ _ oneP (ratP pb qb) _ r0 (hva.below hS.be)).mono ?_; rintro e w' ⟨v, rfl, hn, hb⟩; go_wp2_with fail; with_reducible refine hK _ _ (RT.below hb hS.be.size) (hS.step hb 2 _ (by decide) (fun e => absurd e (by decide))) ?_
     exact ⟨v, rfl, hn⟩
    ·as_aux_lemma =>
     intro vs L W hS hL cl hdl hdep K hK; have d0 := hdep ⟨2, .data⟩ (by simp) rfl; simp only [PhiLs] at d0; refine @exE1 _ _ _ d0 ?_; clear d0; intro v0 d0; have e0 := d0.1; have n0 := d0.2; clear d0; refine ⟨?_⟩; simp only [Act.put, sA, sB, sC, Nat.zero_add, Nat.reduceAdd, e0] at hK ⊢; go_simp; with_reducible refine hK _ _ (RT.refl _ _) (hS.step (Below.refl _ _) 3 _ (by decide) (fun e => absurd e (by decide))) ?_
     exact ⟨_, rfl, n0⟩
    ·as_aux_lemma =>
     intro vs L W hS hL cl hdl hdep K hK; have d0 := hdep ⟨3, .data⟩ (by simp) rfl; simp only [PhiLs] at d0; refine @exE1 _ _ _ d0 ?_; clear d0; intro v0 d0; have e0 := d0.1; have n0 := d0.2; clear d0
     have h7 : L 7 = false := by
      cases h : L 7 with
      | false => rfl
      | true => exact absurd (cl 7 _ rfl h ⟨4, .data⟩ (by simp) rfl) (by rw [hL]; decide)
     obtain ⟨A, k, c, A', k', c', rfl⟩ := n0.shape; refine ⟨?_⟩; simp only [Act.put, sA, sB, sC, Nat.zero_add, Nat.reduceAdd, e0] at hK ⊢; go_simp; with_reducible refine hK _ _ (RT.refl _ _) (hS.step (Below.refl _ _) 4 _ (by decide) (fun _ => h7)) ?_
     exact ⟨_, _, _, _, _, _, rfl, n0⟩
    ·as_aux_lemma =>
     intro vs L W hS hL cl hdl hdep K hK; have d0 := hdep ⟨3, .data⟩ (by simp) rfl; simp only [PhiLs] at d0; refine @exE1 _ _ _ d0 ?_; clear d0; intro v0 d0; have e0 := d0.1; have n0 := d0.2; clear d0; refine ⟨?_⟩; simp only [Act.put, sA, sB, sC, Nat.zero_add, Nat.reduceAdd, e0] at hK ⊢; go_simp; with_reducible refine hK _ _ (RT.refl _ _) (hS.step (Below.refl _ _) 5 _ (by decide) (fun e => absurd e (by decide))) ?_
     exact rfl
    ·as_aux_lemma =>
     intro vs L W hS hL cl hdl hdep K hK
     have h7 : L 7 = false := by
      cases h : L 7 with
      | false => rfl
      | true => exact absurd (cl 7 _ rfl h ⟨6, .data⟩ (by simp) rfl) (by rw [hL]; decide)
     refine ⟨?_⟩; simp only [Act.put, sA, sB, sC, Nat.zero_add, Nat.reduceAdd] at hK ⊢; go_simp; with_reducible refine hK _ _ (RT.below (bA _ _) hS.be.size) (hS.step (bA _ _) 6 _ (by decide) (fun _ => h7)) ?_
     exact ⟨_, rfl, hS.be.size, none, 0, 0, none, 0, 0, Blk.new _ _ _⟩
    ·as_aux_lemma =>
     intro vs L W hS hL cl hdl hdep K hK; have d0 := hdep ⟨6, .data⟩ (by simp) rfl; simp only [PhiLs] at d0; refine @exE1 _ _ _ d0 ?_; clear d0; intro g0 d0; have e0 := d0.1; have l0 := d0.2.1; have s0 := d0.2.2; clear d0; have d1 := hdep ⟨4, .data⟩ (by simp) rfl; simp only [PhiLs] at d1; refine @exE6 _ _ _ _ _ _ _ _ d1 ?_; clear d1; intro A1 k1 c1 B1 m1 d1 d1; have e1 := d1.1; have n1 := d1.2; clear d1; obtain ⟨⟨a1, q1⟩, ⟨a2, q2⟩, q3, q4⟩ := s0.facts; refine ⟨?_⟩; simp only [Act.put, sA, sB, sC, Nat.zero_add, Nat.reduceAdd, e0, e1] at hK ⊢; go_simp; with_reducible refine hK undef _ (RT.store s0 l0 _ _ _ _ _ _) (hS.stored e0 e1 l0 s0 (by decide) (by decide) _) ?_
     exact trivial
    ·as_aux_lemma =>
     intro vs L W hS hL cl hdl hdep K hK; have d0 := hdep ⟨5, .data⟩ (by simp) rfl; simp only [PhiLs] at d0; refine ⟨?_⟩; simp only [Act.put, sA, sB, sC, Nat.zero_add, Nat.reduceAdd, d0] at hK ⊢; go_simp; with_reducible refine hK _ _ (RT.refl _ _) (hS.step (Below.refl _ _) 8 _ (by decide) (fun e => absurd e (by decide))) ?_
     exact rfl
   ·intro vs L w3 hS hall hv; have v8 := hv 4 (by simp); simp only [PhiLs] at v8; obtain ⟨_, _, _, _, _, _, e8', ho⟩ := v8; obtain ⟨g, A9, k9, c9, B9, m9, d9, e10, e8, hgN, hblk⟩ := hS.st (hall 7 (by simp)); rw [e8] at e8'; rw [← e8', HGW.out.1] at ho; have hbe := hS.be; have p0 := hblk.cell 0; have p1 := hblk.cell 1; simp only [List.getElem?_toArray, List.getElem?_cons_zero, List.getElem?_cons_succ] at p0 p1; simp only [Act.put, sA, sB, sC, Nat.zero_add, Nat.reduceAdd, e10, e8]; clear hblk hv hS hall e8' b0 b1; obtain ⟨A, k', c, A', k'', c'', he, ⟨a1, u1⟩, ⟨a2, u2⟩, u3, u4, z1, z2, hr, hbz⟩ := ret_ratio (w0 := w) ho (hs1.below hbe) hgr (Below.tr hb1 hbe); simp only [Value.agg.injEq, Array.mk.injEq, List.cons.injEq, and_true, Value.slice.injEq] at he; obtain ⟨⟨rfl, rfl, rfl⟩, rfl, rfl, rfl⟩ := he; go_wp2_with fail; exact bodyPost_ret (v := .agg #[.slice A9 k9 c9, .slice B9 m9 d9]) (by simp [results, Try.results25, go_sem, z1, z2]) rfl ⟨_, rfl, ⟨p, q, hr, HGW.out.2⟩, hbz⟩
  ·have t2 : ((n : Int) % 5 == 0) = false := by simpa using h5
   go_wp2_with fail; refine (around_n (n : Int) 4 _ (by omega) (by omega) (by omega) (by omega)).mono ?_; rintro e w' ⟨z, rfl, hz, _, rfl⟩; have HO := rof_s z 4 w1 (by omega) (by omega) (by omega); obtain ⟨p, q, hpq, hg, hwr⟩ := bet_part gb h0 hpb hqb hz; have HGW := Lib.hid (And.intro hpq (And.intro hg hwr)); clear hpq hg hwr h5; go_wp2_with fail; refine HO.mono ?_; rintro e w2 ⟨C1, m1, d1, C2, m2, d2, rfl, hr, hb2⟩; have b0 := cell_keep hb2 b0; have b1 := cell_keep hb2 b1; clear HO; go_upto_region 8 with fail; refine wp_name ?_; intro w3 HW3; have hb3 : Below w2.heap.size w2 w3 := by rw [HW3.out]; exact bA _ _
   have hB : Blk w3 w2.heap.size 25 #[.slice C1 m1 d1, .slice C2 m2 d2] := by rw [HW3.out]; exact Blk.new _ _ _
   have p0 := hB.cell 0; have p1 := hB.cell 1; simp only [List.getElem?_toArray, List.getElem?_cons_zero, List.getElem?_cons_succ] at p0 p1; have b0 := cell_keep hb3 b0; have b1 := cell_keep hb3 b1; clear HW3 hB; go_wp2_with fail; refine (rdiv_F _ _ _ _ _ (hr.1.rtP.below hb3) ((hva.below hb2).below hb3)).mono ?_; rintro e w4 ⟨v, rfl, hv, hb4⟩; rw [HGW.out.1] at hv; obtain ⟨F1, l1, f1, F2, l2, f2, rfl⟩ := hv.shape; go_upto_region 9 with fail; refine wp_name ?_; intro w5 HW5; have hb5 : Below w4.heap.size w4 w5 := by rw [HW5.out]; exact bA _ _
   have hB5 : Blk w5 w4.heap.size 25 #[.slice F1 l1 f1, .slice F2 l2 f2] := by rw [HW5.out]; exact Blk.new _ _ _
   have y0 := hB5.cell 0; have y1 := hB5.cell 1; simp only [List.getElem?_toArray, List.getElem?_cons_zero, List.getElem?_cons_succ] at y0 y1; have hv5 := hv.below hb5; have hbw5 := Below.tr hb1 (Below.tr (Below.tr hb2 hb3) (Below.tr hb4 hb5)); have hs5 := ((hs1.below hb2).below hb3).below (Below.tr hb4 hb5); clear HW5 hB5 p0 p1 b0 b1 hr hv; go_wp2_with fail; refine (rsmall_F _ _ _ hv5).mono ?_; rintro e w6 ⟨rfl, hb6⟩; have y0 := cell_keep hb6 y0; have y1 := cell_keep hb6 y1; have hbw6 := Below.tr hbw5 hb6; have hs6 := hs5.below hb6; have hv6 := hv5.below hb6
   cases hsm : smallB (ratP p q)
   ·clear hsm y0 y1; obtain ⟨A, k', c, A', k'', c'', he, ⟨a1, u1⟩, ⟨a2, u2⟩, u3, u4, z1, z2, hr, hbz⟩ := ret_ratio (w0 := w) (nil_rtP w6) hs6 hgr hbw6; simp only [nilRat, Value.agg.injEq, Array.mk.injEq, List.cons.injEq, and_true, Value.slice.injEq] at he; obtain ⟨⟨rfl, rfl, rfl⟩, rfl, rfl, rfl⟩ := he; go_wp2_with fail; exact bodyPost_ret (v := .agg #[.slice none 0 0, .slice none 0 0]) (by simp [results, Try.results25, go_sem, z1, z2]) rfl ⟨_, rfl, ⟨0, 1, by rw [nil_ratP]; exact hr, g01, by rw [nil_ratP]; exact wrongB_nil gb hpb hqb⟩, hbz⟩
   ·have HW := Lib.hid (HGW.out.2.2 hsm); clear hsm; obtain ⟨A, k', c, A', k'', c'', he, ⟨a1, u1⟩, ⟨a2, u2⟩, u3, u4, z1, z2, hr, hbz⟩ := ret_ratio (w0 := w) hv6 hs6 hgr hbw6; simp only [Value.agg.injEq, Array.mk.injEq, List.cons.injEq, and_true, Value.slice.injEq] at he; obtain ⟨⟨rfl, rfl, rfl⟩, rfl, rfl, rfl⟩ := he; go_wp2_with fail; exact bodyPost_ret (v := .agg #[.slice F1 l1 f1, .slice F2 l2 f2]) (by simp [results, Try.results25, go_sem, z1, z2]) rfl ⟨_, rfl, ⟨p, q, hr, HGW.out.2.1, HW.out⟩, hbz⟩
end Go.Proofs.Ytnjjdiilkhdbeaa
namespace Go.Proofs.Ytnjjdiilkhdbeaa
open Go Go.RowKit
def PhiCl (gB : Nat) (A1 A2 : Option Addr) (k1 c1 k2 c2 : Nat) (X : LP) (vs : Nat → Value) (j : Nat) (w : World) (x : Value) : Prop :=
 match j with
 | 0 => x = .pointer (some ⟨gB, 0, none⟩)
 | 1 => x = .slice A1 k1 c1
 | 2 => ∃ E u, x = .slice E k1 u ∧ Lim w E u X.1
 | 3 => x = .pointer (some ⟨gB, 1, none⟩)
 | 4 => x = .slice A2 k2 c2
 | 5 => ∃ E u, x = .slice E k2 u ∧ Lim w E u X.2
 | 6 => RtP w x X
 | _ => True
theorem PhiCl.keepR {gB : Nat} {A1 A2 : Option Addr} {k1 c1 k2 c2 : Nat} {X : LP} : ∀ vs (w w' : World), Below w.heap.size w w' → ∀ j x, PhiCl gB A1 A2 k1 c1 k2 c2 X vs j w x → PhiCl gB A1 A2 k1 c1 k2 c2 X vs j w' x := by
 intro vs w w' hb j x h; unfold PhiCl at h ⊢
 split <;> simp only at h ⊢
 all_goals first
  | exact h
  | exact h.below hb
  | (obtain ⟨E, u, e, h⟩ := h; exact ⟨E, u, e, h.below hb⟩)
theorem PhiCl.keepF {gB : Nat} {A1 A2 : Option Addr} {k1 c1 k2 c2 : Nat} {X : LP} : ∀ vs (w w' : World) j x, ([] : List Nat).contains j = true → PhiCl gB A1 A2 k1 c1 k2 c2 X vs j w x → PhiCl gB A1 A2 k1 c1 k2 c2 X vs j w' x := by
 intro vs w w' j x hf
 cases hf
set_option maxRecDepth 100000 in
set_option maxHeartbeats 2000000 in
theorem clone_F (va : Value) (X : LP) (w : World) (h : RtP w va X) (h1 : X.1.length ≤ 1048576) (h2 : X.2.length ≤ 1048576) :
  Calls Try.prog 53 #[va] w fun e w' => ∃ v, e = .returned v ∧ RtP w' v X ∧ Below w.heap.size w w' := by
 obtain ⟨A1, k1, c1, A2, k2, c2, rfl, hl1, hl2, ee1, ee2⟩ := h; have EE1 := Lib.hid ee1; have EE2 := Lib.hid ee2; have hl3 := Lib.hid h1; have hl4 := Lib.hid h2; clear ee1 ee2 h1 h2
 go_enter Try.func53, Try.ntmps53
 go_upto_region 1 with fail; refine wp_name ?_; intro w1 HW1; have hb1 : Below w.heap.size w w1 := by rw [HW1.out]; exact Below.tr (bA _ _) (bA _ _)
 have hB1 : Blk w1 w.heap.size 25 #[.slice A1 k1 c1, .slice A2 k2 c2] := by rw [HW1.out]; exact Blk.below (Blk.newG rfl) (bA _ _) (Blk.newG rfl).lt
 have hs1 : Sl w1 (w.heap.size + 1) := by rw [HW1.out]; exact ⟨none, 0, 0, none, 0, 0, Blk.newG (by simp)⟩
 clear HW1; obtain ⟨gB, hgB⟩ : ∃ g, Hid (g = w.heap.size) := ⟨_, rfl⟩; obtain ⟨gr, hgrr⟩ : ∃ g, Hid (g = w.heap.size + 1) := ⟨_, rfl⟩; have hgr : w.heap.size ≤ gr := by have := hgrr.out; omega
 rw [← hgrr.out] at hs1 ⊢; rw [← hgB.out] at hB1 ⊢; have hl1 := hl1.below hb1; have hl2 := hl2.below hb1; have b0 := hB1.cell 0; have b1 := hB1.cell 1; simp only [List.getElem?_toArray, List.getElem?_cons_zero, List.getElem?_cons_succ] at b0 b1; have b0 := Lib.hid b0; have b1 := Lib.hid b1; clear hB1 hgB hgrr; refine region_chain [7] [.early, .early, .early, .early, .early, .early, .early, .chain 0] [] [] (PhiCl gB A1 A2 k1 c1 k2 c2 X) (fun w w' => Below w.heap.size w w') (SMo w.heap.size gr w w1 X) (by kernel_rfl) (by kernel_rfl) (by kernel_rfl) (by kernel_rfl) (sK (fun _ _ _ _ _ h => h) (sK (fun _ _ _ _ _ h => h) (sK (fun _ _ _ _ _ h => h) (sK (fun _ _ _ _ _ h => h) (sK (fun _ _ _ _ _ h => h) (sK (fun _ _ _ _ _ h => h) (sK (fun _ _ _ _ _ h => h) (sK (fun _ _ _ _ _ h => h) (sZ))))))))) PhiCl.keepR PhiCl.keepF (fun _ _ _ _ hR hS => Below.tr hS hR) (by rintro (_ | ⟨_, _ | _⟩) vs vs' w _ h <;> exact h) (fun _ => bD _) (fun vs => by simp only [fillR, Act.put, sA, sB, sC, Nat.zero_add, Nat.reduceAdd]; rfl) ?_ ?_
 ·refine sK ?_ (sK ?_ (sK ?_ (sK ?_ (sK ?_ (sK ?_ (sK ?_ (sK ?_ (sZ))))))))
  ·as_aux_lemma =>
   intro vs W hS hu hdep K hK; have HU := Lib.hid hu; clear hu; refine ⟨?_⟩; simp only [Act.put, sA, sB, sC, Nat.zero_add, Nat.reduceAdd] at hK ⊢; go_simp; with_reducible refine hK _ _ (Below.refl _ _) ?_
   exact rfl
  ·as_aux_lemma =>
   intro vs W hS hu hdep K hK; have HU := Lib.hid hu; clear hu; have d0 := hdep ⟨0, .data⟩ (by simp) rfl; simp only [PhiCl] at d0; have f1 := cell_keep hS b0.out; refine ⟨?_⟩; simp only [Act.put, sA, sB, sC, Nat.zero_add, Nat.reduceAdd, d0] at hK ⊢; go_simp; with_reducible refine hK _ _ (Below.refl _ _) ?_
   exact rfl
  ·as_aux_lemma =>
   intro vs W hS hu hdep K hK; have HU := Lib.hid hu; clear hu; have d0 := hdep ⟨1, .data⟩ (by simp) rfl; simp only [PhiCl] at d0; refine ⟨?_⟩; simp only [fillR, Act.put, sA, sB, sC, Nat.zero_add, Nat.reduceAdd, d0] at hK ⊢; go_simp; refine (clone_any A1 c1 k1 X.1 _ (hl1.below hS) EE1.out hl3.out).mono ?_; rintro e w' ⟨E, u, rfl, hv, hb⟩; go_wp2_with fail; with_reducible refine hK _ _ hb ?_
   exact ⟨_, _, rfl, hv⟩
  ·as_aux_lemma =>
   intro vs W hS hu hdep K hK; have HU := Lib.hid hu; clear hu; refine ⟨?_⟩; simp only [Act.put, sA, sB, sC, Nat.zero_add, Nat.reduceAdd] at hK ⊢; go_simp; with_reducible refine hK _ _ (Below.refl _ _) ?_
   exact rfl
  ·as_aux_lemma =>
   intro vs W hS hu hdep K hK; have HU := Lib.hid hu; clear hu; have d0 := hdep ⟨3, .data⟩ (by simp) rfl; simp only [PhiCl] at d0; have f1 := cell_keep hS b1.out; refine ⟨?_⟩; simp only [Act.put, sA, sB, sC, Nat.zero_add, Nat.reduceAdd, d0] at hK ⊢; go_simp; with_reducible refine hK _ _ (Below.refl _ _) ?_
   exact rfl
  ·as_aux_lemma =>
   intro vs W hS hu hdep K hK; have HU := Lib.hid hu; clear hu; have d0 := hdep ⟨4, .data⟩ (by simp) rfl; simp only [PhiCl] at d0; refine ⟨?_⟩; simp only [fillR, Act.put, sA, sB, sC, Nat.zero_add, Nat.reduceAdd, d0] at hK ⊢; go_simp; refine (clone_any A2 c2 k2 X.2 _ (hl2.below hS) EE2.out hl4.out).mono ?_; rintro e w' ⟨E, u, rfl, hv, hb⟩; go_wp2_with fail; with_reducible refine hK _ _ hb ?_
   exact ⟨_, _, rfl, hv⟩
  ·as_aux_lemma =>
   intro vs W hS hu hdep K hK; have HU := Lib.hid hu; clear hu; have d0 := hdep ⟨2, .data⟩ (by simp) rfl; simp only [PhiCl] at d0; refine @exE2 _ _ _ _ d0 ?_; clear d0; intro E0 u0 d0; have e0 := d0.1; have n0 := d0.2; clear d0; have d1 := hdep ⟨5, .data⟩ (by simp) rfl; simp only [PhiCl] at d1; refine @exE2 _ _ _ _ d1 ?_; clear d1; intro E1 u1 d1; have e1 := d1.1; have n1 := d1.2; clear d1; refine ⟨?_⟩; simp only [Act.put, sA, sB, sC, Nat.zero_add, Nat.reduceAdd, e0, e1] at hK ⊢; go_simp; with_reducible refine hK _ _ (Below.refl _ _) ?_
   exact ⟨_, _, _, _, _, _, rfl, n0, n1, EE1.out, EE2.out⟩
  ·as_aux_lemma =>
   intro vs W hS hdep K hK; have d0 := hdep ⟨6, .data⟩ (by simp) rfl (by rfl); simp only [PhiCl] at d0; have hS : Below w1.heap.size w1 W := hS; obtain ⟨F1, m1, o1, F2, m2, o2, e0⟩ := d0.shape; rw [e0] at d0; have hsl := hs1.below hS; obtain ⟨r1, r2, r3, r4, r5, r6, hres⟩ := hsl; have f1 := hres.cell 0; have f2 := hres.cell 1; have f3 := hres.frozen 0; have f4 := hres.frozen 1; simp at f1 f2; have HR := Lib.hid (RX.store (B := w.heap.size) (hs1.below hS) hgr d0); have hbe4 := Below.tr hb1 hS; clear hres hS; refine ⟨?_⟩; simp only [Act.put, sA, sB, sC, Nat.zero_add, Nat.reduceAdd, e0] at hK ⊢; go_simp; with_reducible refine hK undef _ ?_
   exact ⟨HR.out.2, hbe4.trans HR.out.1.be⟩
 ·intro vs W hS _; have hS2 : SMo w.heap.size gr w w1 X [vs 7] vs W := hS; obtain ⟨⟨A, k, c, A', k', c', hblk, hP⟩, hbz⟩ := hS2; have q1 := hblk.cell 0; have q2 := hblk.cell 1; simp at q1 q2; have HP := Lib.hid hP; clear hblk hP hS hs1; go_wp2_with fail; exact bodyPost_ret (v := .agg #[.slice A k c, .slice A' k' c']) (by simp [results, Try.results53, go_sem, q1, q2]) rfl ⟨_, rfl, HP.out, hbz⟩
end Go.Proofs.Ytnjjdiilkhdbeaa
