import Derived.Test.YtmbfjmilhfmnkaaDoorKCntProof29
import Derived.Test.YtmbfjmilhfmnkaaDoorS0
set_option linter.unusedVariables false
set_option linter.unusedSimpArgs false
namespace Go.Proofs.YtmbfjmilhfmnkaaDoor
open Go Go.RowKit
/-- the plain law of RatioField -/
theorem cross_gcd {a b g n d : Nat} (h1 : a * g = n) (h2 : b * g = d) : a * d = n * b := by
 subst h1 h2
 grind
theorem resP_congr {n d n' d' : Nat} (hd : 0 < d) (hd' : 0 < d') (h : n * d' = n' * d) : resP n d = resP n' d' := by
 unfold resP; rw [red_num hd hd' h, red_den hd hd' h]
theorem resP_er (n d : Nat) : (resP n d).1 = 0 ∨ (resP n d).1 = 4 ∧ (resP n d).2 = nilP := by
 unfold resP
 split
 ·exact .inl rfl
 ·exact .inr ⟨rfl, rfl⟩
theorem good_resP {p q : Nat} (g : Nm.Good p q) : resP p q = (0, ratP p q) := by
 obtain ⟨h1, h2⟩ := good_lt g; rw [resP_red g.1 g.1 rfl h1 h2, ← (Frac.of_good g).eq]
theorem resP_ok5 {n d : Nat} (hd : 0 < d) (h : (resP n d).1 = 0) : ∃ p q, (resP n d).2 = ratP p q ∧ Nm.Good p q ∧ p * d = n * q := by
 unfold resP at h ⊢; by_cases hf : Nm.Fits (n / Nat.gcd n d) (d / Nat.gcd n d)
 ·rw [if_pos hf]; exact ⟨_, _, rfl, good_red hd hf, cross_gcd (Nat.div_mul_cancel (Nat.gcd_dvd_left n d)) (Nat.div_mul_cancel (Nat.gcd_dvd_right n d))⟩
 ·rw [if_neg hf] at h; exact absurd h (by simp)
theorem addF_rat {pa qa pb qb : Nat} (ga : Nm.Good pa qa) (gb : Nm.Good pb qb) : addF (ratP pa qa) (ratP pb qb) = resP (pa * qb + pb * qa) (qa * qb) := binF_rat ga gb
theorem mulF_rat {pa qa pb qb : Nat} (ga : Nm.Good pa qa) (gb : Nm.Good pb qb) : mulF (ratP pa qa) (ratP pb qb) = resP (pa * pb) (qa * qb) := binF_rat ga gb
theorem subF_rat {pa qa pb qb : Nat} (ga : Nm.Good pa qa) (gb : Nm.Good pb qb) : subF (ratP pa qa) (ratP pb qb) = if pa * qb < pb * qa then (5, nilP) else resP (pa * qb - pb * qa) (qa * qb) := binF_rat ga gb
theorem divF_rat5 {pa qa pb qb : Nat} (ga : Nm.Good pa qa) (gb : Nm.Good pb qb) : divF (ratP pa qa) (ratP pb qb) = if pb = 0 then (5, nilP) else resP (pa * qb) (qa * pb) := binF_rat ga gb
theorem cancel_r {x y c : Nat} (hc : 0 < c) (h : x * c = y * c) : x = y := Nat.eq_of_mul_eq_mul_right hc h
theorem add_comm5 {pa qa pb qb : Nat} (ga : Nm.Good pa qa) (gb : Nm.Good pb qb) : addF (ratP pb qb) (ratP pa qa) = addF (ratP pa qa) (ratP pb qb) := by
 rw [addF_rat ga gb, addF_rat gb ga, Nat.mul_comm qb qa, Nat.add_comm]
theorem mul_comm5 {pa qa pb qb : Nat} (ga : Nm.Good pa qa) (gb : Nm.Good pb qb) : mulF (ratP pb qb) (ratP pa qa) = mulF (ratP pa qa) (ratP pb qb) := by
 rw [mulF_rat ga gb, mulF_rat gb ga, Nat.mul_comm qb qa, Nat.mul_comm pb pa]
theorem sub_back {pa qa pb qb P Q : Nat} (ga : Nm.Good pa qa) (gb : Nm.Good pb qb) (gs : Nm.Good P Q) (H : P * (qa * qb) = (pa * qb + pb * qa) * Q) : subF (ratP P Q) (ratP pb qb) = (0, ratP pa qa) := by
 have hqa := ga.1; have hqb := gb.1; have hQ := gs.1; have e1 : P * qb * qa = pa * (Q * qb) + pb * Q * qa := by grind
 have hle : pb * Q ≤ P * qb := Nat.le_of_mul_le_mul_right (by rw [e1]; exact Nat.le_add_left _ _) hqa; rw [subF_rat gs gb, if_neg (by omega), ← good_resP ga]; refine resP_congr (Nat.mul_pos hQ hqb) hqa ?_; rw [Nat.sub_mul, e1, Nat.add_sub_cancel]
theorem div_back {pa qa pb qb U V : Nat} (ga : Nm.Good pa qa) (gb : Nm.Good pb qb) (gx : Nm.Good U V) (hb : 0 < pb) (H : U * (qa * qb) = pa * pb * V) : divF (ratP U V) (ratP pb qb) = (0, ratP pa qa) := by
 rw [divF_rat5 gx gb, if_neg (by omega), ← good_resP ga]; refine resP_congr (Nat.mul_pos gx.1 hb) ga.1 ?_
 grind
theorem add_assoc5 {pa qa pb qb pc qc P Q R S : Nat} (ga : Nm.Good pa qa) (gb : Nm.Good pb qb) (gc : Nm.Good pc qc) (gs : Nm.Good P Q) (gt : Nm.Good R S) (H1 : P * (qa * qb) = (pa * qb + pb * qa) * Q) (H2 : R * (qb * qc) = (pb * qc + pc * qb) * S) : addF (ratP pa qa) (ratP R S) = addF (ratP P Q) (ratP pc qc) := by
 rw [addF_rat ga gt, addF_rat gs gc]; refine (resP_congr (Nat.mul_pos gs.1 gc.1) (Nat.mul_pos ga.1 gt.1) (cancel_r gb.1 ?_)).symm
 grind
theorem sum_3 {pa qa pb qb pc qc P Q : Nat} (ga : Nm.Good pa qa) (gb : Nm.Good pb qb) (hs : addF (ratP pa qa) (ratP pb qb) = (0, ratP P Q)) : sumF nilP [ratP pa qa, ratP pb qb, ratP pc qc] = ((addF (ratP P Q) (ratP pc qc)).1, if (addF (ratP P Q) (ratP pc qc)).1 = 0 then (addF (ratP P Q) (ratP pc qc)).2 else nilP) := by
 have e0 : addF nilP (ratP pa qa) = (0, ratP pa qa) := by
  have g0 : Nm.Good 0 1 := ⟨by omega, rfl, by rw [Nm.lb_zero]; simp, by rw [Nm.dn_one, Nm.lb_zero]; simp⟩; rw [← nil_ratP, addF_rat g0 ga, ← good_resP ga]
  congr 1 <;> omega
 unfold sumF; rw [if_pos (by rw [e0]), e0]; unfold sumF; rw [if_pos (by rw [hs]), hs]; unfold sumF; by_cases h : (addF (ratP P Q) (ratP pc qc)).1 = 0
 ·rw [if_pos h, if_pos h]; unfold sumF; rw [h]
 ·rw [if_neg h, if_neg h]
theorem dist5 {pa qa pb qb pc qc R S U V K L : Nat} (ga : Nm.Good pa qa) (gb : Nm.Good pb qb) (gc : Nm.Good pc qc) (gt : Nm.Good R S) (gx : Nm.Good U V) (gy : Nm.Good K L) (H2 : R * (qb * qc) = (pb * qc + pc * qb) * S) (H3 : U * (qa * qb) = pa * pb * V) (H4 : K * (qa * qc) = pa * pc * L) : addF (ratP U V) (ratP K L) = mulF (ratP pa qa) (ratP R S) := by
 rw [addF_rat gx gy, mulF_rat ga gt]; refine (resP_congr (Nat.mul_pos ga.1 gt.1) (Nat.mul_pos gx.1 gy.1) (cancel_r (Nat.mul_pos gb.1 gc.1) ?_)).symm; have e1 : pa * R * (V * L) * (qb * qc) = pa * V * L * (R * (qb * qc)) := by grind
 have e2 : (U * L + K * V) * (qa * S) * (qb * qc) = (U * (qa * qb)) * (L * qc * S) + (K * (qa * qc)) * (V * qb * S) := by grind
 rw [e1, e2, H2, H3, H4]
 grind
end Go.Proofs.YtmbfjmilhfmnkaaDoor
