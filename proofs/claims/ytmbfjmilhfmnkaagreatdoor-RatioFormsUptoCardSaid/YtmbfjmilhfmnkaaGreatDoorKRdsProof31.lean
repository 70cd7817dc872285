import Derived.Test.YtmbfjmilhfmnkaaGreatDoorKRdsProof30
import Derived.Test.YtmbfjmilhfmnkaaGreatDoorS0
set_option linter.unusedVariables false
set_option linter.unusedSimpArgs false
namespace Go.Proofs.YtmbfjmilhfmnkaaGreatDoor
open Go Go.RowKit
theorem info_bool : (Tryz.prog.info? 4).map (fun i => (i.zero, i.size, i.bytes)) = some (some (.bool false), 1, 1) := by kernel_rfl
end Go.Proofs.YtmbfjmilhfmnkaaGreatDoor
namespace Go.Proofs.YtmbfjmilhfmnkaaGreatDoor
open Go Go.RowKit
noncomputable def sumF : LP → List LP → Int × LP
 | a, [] => (0, a)
 | a, x :: xs => if (addF a x).1 = 0 then sumF (addF a x).2 xs else ((addF a x).1, nilP)
theorem sumF_drop {a x : LP} {X : List LP} {i : Nat} (h : X[i]? = some x) : sumF a (X.drop i) = if (addF a x).1 = 0 then sumF (addF a x).2 (X.drop (i + 1)) else ((addF a x).1, nilP) := by
 obtain ⟨h1, h2⟩ := List.getElem?_eq_some_iff.1 h; rw [List.drop_eq_getElem_cons h1, h2]; rfl
theorem GoodX.sl {w : World} {g : Nat} {X : LP} (h : GoodX w g X) : Sl w g := by
 obtain ⟨A, k, c, A', k', c', h, _⟩ := h; exact ⟨_, _, _, _, _, _, h⟩
end Go.Proofs.YtmbfjmilhfmnkaaGreatDoor
namespace Go.Proofs.YtmbfjmilhfmnkaaGreatDoor
open Go Go.RowKit
theorem fits_le {n d m k : Nat} (hn : n ≤ m) (hd : d ≤ k) (hm : m < Nm.B ^ 64) (hk : k < Nm.B ^ 64) : Nm.Fits n d := fits_small (Nat.lt_of_le_of_lt hn hm) (Nat.lt_of_le_of_lt hd hk)
theorem resP_small {n d : Nat} (hn : n < Nm.B ^ 64) (hd : d < Nm.B ^ 64) : resP n d = (0, ratP (n / Nat.gcd n d) (d / Nat.gcd n d)) := by
 unfold resP; rw [if_pos (fits_le (Nat.div_le_self _ _) (Nat.div_le_self _ _) hn hd)]
theorem red_good {n d : Nat} (h0 : 0 < d) (hn : n < Nm.B ^ 64) (hd : d < Nm.B ^ 64) : Nm.Good (n / Nat.gcd n d) (d / Nat.gcd n d) := good_red h0 (fits_le (Nat.div_le_self _ _) (Nat.div_le_self _ _) hn hd)
theorem fewB_lb {p : Nat} (hp : p ≤ 255) : fewB (Nm.lb p) = true := by
 rcases Nat.eq_zero_or_pos p with h | h
 ·subst h; rw [Nm.lb_zero]; rfl
 ·rw [Nm.lb_small (n := p) (by omega) (by unfold Nm.B; omega)]; unfold fewB; simp; omega
theorem smallB_rat {p q : Nat} (hg : Nm.Good p q) (hp : p ≤ 255) (hq : q ≤ 255) : smallB (ratP p q) = true := by
 have h1 : fewB (ratP p q).1 = true := fewB_lb hp; have h2 : fewB (ratP p q).2 = true := fewB_lb (Nat.le_trans (by unfold Nm.dn; split <;> omega) hq); unfold smallB; rw [valid_rat hg, h1, h2]; rfl
theorem atB_rat {pa qa pb qb : Nat} (ga : Nm.Good pa qa) (gb : Nm.Good pb qb) : atB (ratP pa qa) (ratP pb qb) = decide (pa * qb ≤ pb * qa) := by
 unfold atB; rw [cmpV_rat ga gb, decide_eq_decide]; unfold Nm.cmpN
 split <;> (try split) <;> omega
/-- a stake whose product with the bound is at most 1 -/
theorem wrongB_ok {p q pb qb : Nat} (hg : Nm.Good p q) (gb : Nm.Good pb qb) (hp : p ≤ 255) (hq : q ≤ 255) (hpb : pb ≤ 255) (hqb : qb ≤ 255) (h : p * pb ≤ q * qb) : wrongB (ratP pb qb) (ratP p q) = false := by
 have h1 : p * pb ≤ 255 * 255 := Nat.mul_le_mul hp hpb; have h2 : q * qb ≤ 255 * 255 := Nat.mul_le_mul hq hqb; have h3 : 0 < q * qb := Nat.mul_pos hg.1 gb.1; have h4 : p * pb < Nm.B ^ 64 := b64 (by omega); have h5 : q * qb < Nm.B ^ 64 := b64 (by omega); unfold wrongB oneP; rw [smallB_rat hg hp hq, mulV_rat hg gb, resP_small h4 h5, atB_rat (red_good h3 h4 h5) Good_one, decide_eq_true (by rw [Nat.mul_one, Nat.one_mul]; exact Nat.div_le_div_right h)]; rfl
end Go.Proofs.YtmbfjmilhfmnkaaGreatDoor
namespace Go.Proofs.YtmbfjmilhfmnkaaGreatDoor
open Go Go.RowKit
theorem divF_rat {pa qa pb qb : Nat} (ga : Nm.Good pa qa) (gb : Nm.Good pb qb) (h : pb ≠ 0) : (divF (ratP pa qa) (ratP pb qb)).2 = (resP (pa * qb) (qa * pb)).2 := by
 unfold divF; rw [binF_rat ga gb]; dsimp only; rw [if_neg h]
/-- what Bet makes -/
def BetOk (b : LP) (w : World) (v : Value) : Prop := ∃ p q, RtP w v (ratP p q) ∧ Nm.Good p q ∧ wrongB b (ratP p q) = false
theorem BetOk.map {b : LP} {w w' : World} {v : Value} (h : BetOk b w v) (hm : ∀ A c l, Lim w A c l → Lim w' A c l) : BetOk b w' v := by
 obtain ⟨p, q, h1, h2⟩ := h; exact ⟨p, q, h1.mapL hm, h2⟩
theorem BetOk.shape {b : LP} {w : World} {v : Value} (h : BetOk b w v) : ∃ A k c A' k' c', v = .agg #[.slice A k c, .slice A' k' c'] := by
 obtain ⟨p, q, h1, _⟩ := h; exact h1.shape
theorem bet_zero {z y : Nat} (hz : z < 13) (hy : y < 4) : Nm.Good (z / Nat.gcd z (1 + y)) ((1 + y) / Nat.gcd z (1 + y)) ∧ wrongB (ratP 0 1) (ratP (z / Nat.gcd z (1 + y)) ((1 + y) / Nat.gcd z (1 + y))) = false := by
 have hg := red_good (n := z) (d := 1 + y) (by omega) (b64 (by omega)) (b64 (by omega)); have h1 := Nat.div_le_self z (Nat.gcd z (1 + y)); have h2 := Nat.div_le_self (1 + y) (Nat.gcd z (1 + y)); exact ⟨hg, wrongB_ok hg g01 (by omega) (by omega) (by omega) (by omega) (by omega)⟩
theorem bet_div {z y pb qb : Nat} (gb : Nm.Good pb qb) (h0 : pb ≠ 0) (hpb : pb ≤ 255) (hqb : qb ≤ 255) (hz : z ≤ y) (hy : 0 < y) (hy2 : y ≤ 4) :
  ∃ p q, (resP (z * qb) (y * pb)).2 = ratP p q ∧ Nm.Good p q ∧ p * pb ≤ q * qb := by
 have hyp : 0 < y * pb := Nat.mul_pos hy (by omega); have e1 : z * qb ≤ 4 * 255 := Nat.mul_le_mul (by omega) hqb; have e2 : y * pb ≤ 4 * 255 := Nat.mul_le_mul hy2 hpb; have k1 : z * qb < Nm.B ^ 64 := b64 (by omega); have k2 : y * pb < Nm.B ^ 64 := b64 (by omega); refine ⟨_, _, by rw [resP_small k1 k2], red_good hyp k1 k2, ?_⟩; have hgp : 0 < Nat.gcd (z * qb) (y * pb) := Nat.gcd_pos_of_pos_right _ hyp; have d1 := Nat.div_mul_cancel (Nat.gcd_dvd_left (z * qb) (y * pb)); have d2 := Nat.div_mul_cancel (Nat.gcd_dvd_right (z * qb) (y * pb)); refine Nat.le_of_mul_le_mul_right ?_ hgp; rw [Nat.mul_right_comm (z * qb / _) pb, d1, Nat.mul_right_comm (y * pb / _) qb, d2]
 calc z * qb * pb ≤ y * qb * pb := Nat.mul_le_mul_right _ (Nat.mul_le_mul_right _ hz)
  _ = y * pb * qb := Nat.mul_right_comm _ _ _
theorem wrongB_of {p q pb qb : Nat} (hg : Nm.Good p q) (gb : Nm.Good pb qb) (hs : smallB (ratP p q) = true) (hp : p ≤ 1020) (hq : q ≤ 1020) (hpb : pb ≤ 255) (hqb : qb ≤ 255) (h : p * pb ≤ q * qb) : wrongB (ratP pb qb) (ratP p q) = false := by
 have h1 : p * pb ≤ 1020 * 255 := Nat.mul_le_mul hp hpb; have h2 : q * qb ≤ 1020 * 255 := Nat.mul_le_mul hq hqb; have h3 : 0 < q * qb := Nat.mul_pos hg.1 gb.1; have h4 : p * pb < Nm.B ^ 64 := b64 (by omega); have h5 : q * qb < Nm.B ^ 64 := b64 (by omega); unfold wrongB oneP; rw [hs, mulV_rat hg gb, resP_small h4 h5, atB_rat (red_good h3 h4 h5) Good_one, decide_eq_true (by rw [Nat.mul_one, Nat.one_mul]; exact Nat.div_le_div_right h)]; rfl
theorem wrongB_nil {pb qb : Nat} (gb : Nm.Good pb qb) (hpb : pb ≤ 255) (hqb : qb ≤ 255) : wrongB (ratP pb qb) nilP = false := by
 rw [← nil_ratP]; exact wrongB_ok g01 gb (by omega) (by omega) hpb hqb (by omega)
/-- 1 by the bound -/
theorem bet_one {pb qb : Nat} (gb : Nm.Good pb qb) (h0 : pb ≠ 0) (hpb : pb ≤ 255) (hqb : qb ≤ 255) : ∃ p q, (divF oneP (ratP pb qb)).2 = ratP p q ∧ Nm.Good p q ∧ wrongB (ratP pb qb) (ratP p q) = false := by
 unfold oneP; rw [divF_rat Good_one gb h0]; have k1 : 1 * qb < Nm.B ^ 64 := b64 (by omega); have k2 : 1 * pb < Nm.B ^ 64 := b64 (by omega); obtain ⟨p, q, e, hg, hle⟩ := bet_div (z := 1) (y := 1) gb h0 hpb hqb (by omega) (by omega) (by omega); refine ⟨p, q, e, hg, ?_⟩; rw [resP_small k1 k2] at e; have n1 := numL_rat hg; have n2 := numL_rat (red_good (n := 1 * qb) (d := 1 * pb) (by omega) k1 k2); rw [← e, n2] at n1; simp only [Prod.mk.injEq] at n1; have m1 := Nat.div_le_self (1 * qb) (Nat.gcd (1 * qb) (1 * pb)); have m2 := Nat.div_le_self (1 * pb) (Nat.gcd (1 * qb) (1 * pb)); exact wrongB_ok hg gb (by omega) (by omega) hpb hqb hle
/-- a part of 4 by the bound, if it is small -/
theorem bet_part {z pb qb : Nat} (gb : Nm.Good pb qb) (h0 : pb ≠ 0) (hpb : pb ≤ 255) (hqb : qb ≤ 255) (hz : z < 4) : ∃ p q, (divF (ratP (z / Nat.gcd z 4) (4 / Nat.gcd z 4)) (ratP pb qb)).2 = ratP p q ∧ Nm.Good p q ∧ (smallB (ratP p q) = true → wrongB (ratP pb qb) (ratP p q) = false) := by
 have g4 := red_good (n := z) (d := 4) (by omega) (b64 (by omega)) (b64 (by omega)); have hle0 : z / Nat.gcd z 4 ≤ 4 / Nat.gcd z 4 := Nat.div_le_div_right (by omega); have hy4 := Nat.div_le_self 4 (Nat.gcd z 4); rw [divF_rat g4 gb h0]; have e1 : z / Nat.gcd z 4 * qb ≤ 4 * 255 := Nat.mul_le_mul (by omega) hqb; have e2 : 4 / Nat.gcd z 4 * pb ≤ 4 * 255 := Nat.mul_le_mul hy4 hpb; have k1 : z / Nat.gcd z 4 * qb < Nm.B ^ 64 := b64 (by omega); have k2 : 4 / Nat.gcd z 4 * pb < Nm.B ^ 64 := b64 (by omega); obtain ⟨p, q, e, hg, hle⟩ := bet_div gb h0 hpb hqb hle0 g4.1 hy4; refine ⟨p, q, e, hg, fun hs => ?_⟩; rw [resP_small k1 k2] at e; have n1 := numL_rat hg; have n2 := numL_rat (red_good (n := z / Nat.gcd z 4 * qb) (d := 4 / Nat.gcd z 4 * pb) (Nat.mul_pos g4.1 (by omega)) k1 k2); rw [← e, n2] at n1; simp only [Prod.mk.injEq] at n1; have m1 := Nat.div_le_self (z / Nat.gcd z 4 * qb) (Nat.gcd (z / Nat.gcd z 4 * qb) (4 / Nat.gcd z 4 * pb)); have m2 := Nat.div_le_self (4 / Nat.gcd z 4 * pb) (Nat.gcd (z / Nat.gcd z 4 * qb) (4 / Nat.gcd z 4 * pb)); exact wrongB_of hg gb hs (by omega) (by omega) hpb hqb hle
end Go.Proofs.YtmbfjmilhfmnkaaGreatDoor
namespace Go.Proofs.YtmbfjmilhfmnkaaGreatDoor
open Go Go.RowKit
/-- n by d in lowest form -/
def redP (n d : Nat) : LP := ratP (n / Nat.gcd n d) (d / Nat.gcd n d)
theorem red_num {n d n' d' : Nat} (hd : 0 < d) (hd' : 0 < d') (h : n * d' = n' * d) : n / Nat.gcd n d = n' / Nat.gcd n' d' := by
 have e1 : n * d' / Nat.gcd (n * d') (d * d') = n / Nat.gcd n d := by rw [Nat.gcd_mul_right, Nat.mul_div_mul_right _ _ hd']
 have e2 : n' * d / Nat.gcd (n' * d) (d' * d) = n' / Nat.gcd n' d' := by rw [Nat.gcd_mul_right, Nat.mul_div_mul_right _ _ hd]
 rw [← e1, ← e2, h, Nat.mul_comm d d']
theorem red_den {n d n' d' : Nat} (hd : 0 < d) (hd' : 0 < d') (h : n * d' = n' * d) : d / Nat.gcd n d = d' / Nat.gcd n' d' := by
 have e1 : d * d' / Nat.gcd (n * d') (d * d') = d / Nat.gcd n d := by rw [Nat.gcd_mul_right, Nat.mul_div_mul_right _ _ hd']
 have e2 : d' * d / Nat.gcd (n' * d) (d' * d) = d' / Nat.gcd n' d' := by rw [Nat.gcd_mul_right, Nat.mul_div_mul_right _ _ hd]
 rw [← e1, ← e2, h, Nat.mul_comm d d']
theorem redP_eq {n d n' d' : Nat} (hd : 0 < d) (hd' : 0 < d') (h : n * d' = n' * d) : redP n d = redP n' d' := by
 unfold redP; rw [red_num hd hd' h, red_den hd hd' h]
theorem resP_red {n d n' d' : Nat} (hd : 0 < d) (hd' : 0 < d') (h : n * d' = n' * d) (hn : n' < Nm.B ^ 64) (hd2 : d' < Nm.B ^ 64) : resP n d = (0, redP n' d') := by
 have h1 : resP n d = resP n' d' := by
  unfold resP; rw [red_num hd hd' h, red_den hd hd' h]
 rw [h1, resP_small hn hd2]; rfl
/-- a ratio n by d -/
structure Frac (x : LP) (n d : Nat) : Prop where
 pos : 0 < d
 hn : n < Nm.B ^ 64
 hd : d < Nm.B ^ 64
 eq : x = redP n d
theorem Frac.parts {x : LP} {n d : Nat} (h : Frac x n d) : ∃ a b g, x = ratP a b ∧ Nm.Good a b ∧ n = a * g ∧ d = b * g ∧ 0 < g :=
 ⟨_, _, Nat.gcd n d, h.eq, red_good h.pos h.hn h.hd, (Nat.div_mul_cancel (Nat.gcd_dvd_left _ _)).symm, (Nat.div_mul_cancel (Nat.gcd_dvd_right _ _)).symm, Nat.gcd_pos_of_pos_right _ h.pos⟩
theorem Frac.of_good {p q : Nat} (g : Nm.Good p q) : Frac (ratP p q) p q := by
 obtain ⟨h1, h2⟩ := good_lt g; refine ⟨g.1, h1, h2, ?_⟩; have n1 := numL_rat g; have n2 := numL_rat (red_good g.1 h1 h2); have e := redP_eq (n := p) (d := q) (n' := p) (d' := q) g.1 g.1 rfl; unfold redP; have hc : Nat.gcd p q = 1 := g.gcd; rw [hc, Nat.div_one, Nat.div_one]
theorem Frac.of_rat {n d : Nat} (h0 : 0 < d) (hn : n < Nm.B ^ 64) (hd : d < Nm.B ^ 64) : Frac (ratP (n / Nat.gcd n d) (d / Nat.gcd n d)) n d := ⟨h0, hn, hd, rfl⟩
theorem Frac.scale {x : LP} {n d m e : Nat} (h : Frac x n d) (he : 0 < e) (hm : m < Nm.B ^ 64) (hE : e < Nm.B ^ 64) (hc : n * e = m * d) : Frac x m e :=
 ⟨he, hm, hE, by rw [h.eq]; exact redP_eq h.pos he hc⟩
theorem Frac.uniq {x y : LP} {n d m e : Nat} (h : Frac x n d) (h2 : Frac y m e) (hc : n * e = m * d) : x = y := by rw [h.eq, h2.eq]; exact redP_eq h.pos h2.pos hc
theorem Frac.one {d : Nat} (h : 0 < d) (hd : d < Nm.B ^ 64) : Frac oneP d d := (Frac.of_good Good_one).scale h hd hd (by omega)
theorem Frac.nil {d : Nat} (h : 0 < d) (hd : d < Nm.B ^ 64) : Frac nilP 0 d := by
 rw [← nil_ratP]; exact (Frac.of_good g01).scale h (by omega) hd (by omega)
theorem Frac.valid {x : LP} {n d : Nat} (h : Frac x n d) : validP x = 0 := by
 obtain ⟨a, b, g, rfl, ga, _⟩ := h.parts; exact valid_rat ga
theorem Frac.okP {x : LP} {n d : Nat} (h : Frac x n d) : okP x := by
 obtain ⟨a, b, g, rfl, ga, _⟩ := h.parts; exact okP_lb
theorem Frac.mul {x y : LP} {n d m e : Nat} (hx : Frac x n d) (hy : Frac y m e) (h1 : n * m < Nm.B ^ 64) (h2 : d * e < Nm.B ^ 64) : Frac (mulV x y) (n * m) (d * e) ∧ (mulF x y).1 = 0 := by
 have p1 := hx.pos; have p2 := hy.pos; obtain ⟨a, b, g, rfl, ga, rfl, rfl, hg⟩ := hx.parts; obtain ⟨c, f, k, rfl, gc, rfl, rfl, hk⟩ := hy.parts; have hr := resP_red (n := a * c) (d := b * f) (n' := a * g * (c * k)) (d' := b * g * (f * k)) (Nat.mul_pos ga.1 gc.1) (Nat.mul_pos p1 p2) (by ac_rfl) h1 h2; have hm : mulF (ratP a b) (ratP c f) = resP (a * c) (b * f) := by unfold mulF; rw [binF_rat ga gc]
 refine ⟨⟨Nat.mul_pos p1 p2, h1, h2, ?_⟩, by rw [hm, hr]⟩; unfold mulV; rw [hm, hr]
theorem Frac.add {x y : LP} {n d m : Nat} (hx : Frac x n d) (hy : Frac y m d) (h1 : n + m < Nm.B ^ 64) : Frac (addV x y) (n + m) d ∧ (addF x y).1 = 0 := by
 have p1 := hx.pos; have h2 := hx.hd; obtain ⟨a, b, g, rfl, ga, en, ed, hg⟩ := hx.parts; obtain ⟨c, f, k, rfl, gc, em, ef, hk⟩ := hy.parts; have hr := resP_red (n := a * f + c * b) (d := b * f) (n' := n + m) (d' := d) (Nat.mul_pos ga.1 gc.1) p1 (by rw [Nat.add_mul, Nat.add_mul]; congr 1; (rw [ed, en]; ac_rfl); (rw [ef, em]; ac_rfl)) h1 h2; have hm : addF (ratP a b) (ratP c f) = resP (a * f + c * b) (b * f) := by unfold addF; rw [binF_rat ga gc]
 refine ⟨⟨p1, h1, h2, ?_⟩, by rw [hm, hr]⟩; unfold addV; rw [hm, hr]
theorem Frac.le_iff {x y : LP} {n d m e : Nat} (hx : Frac x n d) (hy : Frac y m e) : ∃ a b c f g k, x = ratP a b ∧ y = ratP c f ∧ Nm.Good a b ∧ Nm.Good c f ∧ n * e = a * f * (g * k) ∧ m * d = c * b * (g * k) ∧ 0 < g * k := by
 obtain ⟨a, b, g, e1, ga, rfl, rfl, hg⟩ := hx.parts; obtain ⟨c, f, k, e2, gc, rfl, rfl, hk⟩ := hy.parts; exact ⟨a, b, c, f, g, k, e1, e2, ga, gc, by ac_rfl, by ac_rfl, Nat.mul_pos hg hk⟩
theorem Frac.sub {x y : LP} {n d m : Nat} (hx : Frac x n d) (hy : Frac y m d) (hle : m ≤ n) : Frac (subV x y) (n - m) d ∧ (subF x y).1 = 0 := by
 have p1 := hx.pos; have h2 := hx.hd; have h1 : n - m < Nm.B ^ 64 := Nat.lt_of_le_of_lt (Nat.sub_le _ _) hx.hn; obtain ⟨a, b, g, rfl, ga, en, ed, hg⟩ := hx.parts; obtain ⟨c, f, k, rfl, gc, em, ef, hk⟩ := hy.parts
 have hcb : c * b ≤ a * f := by
  refine Nat.le_of_mul_le_mul_right ?_ (Nat.mul_pos hg hk); have e1 : c * b * (g * k) = m * d := by rw [ed, em]; ac_rfl
  have e2 : a * f * (g * k) = n * d := by rw [ef, en]; ac_rfl
  rw [e1, e2]; exact Nat.mul_le_mul_right _ hle
 have hr := resP_red (n := a * f - c * b) (d := b * f) (n' := n - m) (d' := d) (Nat.mul_pos ga.1 gc.1) p1 (by rw [Nat.sub_mul, Nat.sub_mul]; congr 1; (rw [ed, en]; ac_rfl); (rw [ef, em]; ac_rfl)) h1 h2; have hm : subF (ratP a b) (ratP c f) = resP (a * f - c * b) (b * f) := by unfold subF; rw [binF_rat ga gc]; dsimp only; rw [if_neg (by omega)]
 refine ⟨⟨p1, h1, h2, ?_⟩, by rw [hm, hr]⟩; unfold subV; rw [hm, hr]
theorem Frac.at_ {x y : LP} {n d m e : Nat} (hx : Frac x n d) (hy : Frac y m e) : atB x y = decide (n * e ≤ m * d) := by
 obtain ⟨a, b, c, f, g, k, rfl, rfl, ga, gc, e1, e2, hp⟩ := hx.le_iff hy; rw [atB_rat ga gc, e1, e2, decide_eq_decide]; exact ⟨fun h => Nat.mul_le_mul_right _ h, fun h => Nat.le_of_mul_le_mul_right h hp⟩
theorem Frac.cmp {x y : LP} {n d m e : Nat} (hx : Frac x n d) (hy : Frac y m e) : cmpV x y = Nm.cmpN (n * e) (m * d) := by
 obtain ⟨a, b, c, f, g, k, rfl, rfl, ga, gc, e1, e2, hp⟩ := hx.le_iff hy; rw [cmpV_rat ga gc, e1, e2]; have h1 : a * f < c * b ↔ a * f * (g * k) < c * b * (g * k) := ⟨fun h => Nat.mul_lt_mul_of_pos_right h hp, fun h => Nat.lt_of_mul_lt_mul_right h⟩; have h2 : c * b < a * f ↔ c * b * (g * k) < a * f * (g * k) := ⟨fun h => Nat.mul_lt_mul_of_pos_right h hp, fun h => Nat.lt_of_mul_lt_mul_right h⟩; unfold Nm.cmpN; simp only [h1, h2]
end Go.Proofs.YtmbfjmilhfmnkaaGreatDoor
