import Derived.Test.YtnjjdiilkhdbeaaKCutProof26
import Derived.Test.YtnjjdiilkhdbeaaKCutProof24
import Derived.Test.YtnjjdiilkhdbeaaKCutProof28
import Derived.Test.YtnjjdiilkhdbeaaS0
set_option linter.unusedVariables false
set_option linter.unusedSimpArgs false
namespace Go.Proofs.Ytnjjdiilkhdbeaa
open Go Go.RowKit
/-- a choice between two measures, in numbers of one denominator -/
structure ChN (ch : LP → LP → LP) (f : Nat → Nat → Nat) (d : Nat) : Prop where
 pos : 0 < d
 fr : ∀ j a g A G, j ≤ 12 → Frac a A (d ^ j) → Frac g G (d ^ j) → A ≤ d ^ j → G ≤ d ^ j → Frac (ch a g) (f A G) (d ^ (j + 1)) ∧ f A G ≤ d ^ (j + 1)
 lim : ∀ j, j ≤ 13 → d ^ j < Nm.B ^ 64
def mixN (q d A G : Nat) : Nat := q * A + (d - q) * G
def worstN (q d A G : Nat) : Nat := if G * d ≤ mixN q d A G then mixN q d A G else G * d
theorem pow255 {d j : Nat} (h : d ≤ 255) (hj : j ≤ 20) : d ^ j < Nm.B ^ 64 := by
 have h1 : d ^ j ≤ (2 ^ 8) ^ j := Nat.pow_le_pow_left (by omega) j; rw [← Nat.pow_mul] at h1; exact lim_pow h1 (by omega)
theorem mixN_top {q d A G M : Nat} (hq : q ≤ d) (hA : A ≤ M) (hG : G ≤ M) : mixN q d A G ≤ M * d := by
 unfold mixN; have h1 : q * A ≤ q * M := Nat.mul_le_mul_left _ hA; have h2 : (d - q) * G ≤ (d - q) * M := Nat.mul_le_mul_left _ hG; have h3 : q * M + (d - q) * M = M * d := by rw [← Nat.add_mul, Nat.mul_comm]; congr 1; omega
 omega
theorem mix_fr {x : LP} {q d : Nat} (hx : Frac x q d) (hq : q ≤ d) (hd : d ≤ 255) (j : Nat) (a g : LP) (A G : Nat) (hj : j ≤ 12) (ha : Frac a A (d ^ j)) (hg : Frac g G (d ^ j)) (hA : A ≤ d ^ j) (hG : G ≤ d ^ j) : Frac (mixV x a g) (mixN q d A G) (d ^ (j + 1)) ∧ mixN q d A G ≤ d ^ (j + 1) := by
 have htop := mixN_top hq hA hG; have hp := pow255 (d := d) (j := j + 1) hd (by omega); have e : d * d ^ j = d ^ (j + 1) := by rw [Nat.pow_succ, Nat.mul_comm]
 have e2 : d ^ j * d = d ^ (j + 1) := by rw [Nat.pow_succ]
 rw [e2] at htop; have hs := (Frac.one hx.pos (b64 (by omega))).sub hx hq; have k1 : q * A ≤ d ^ (j + 1) := Nat.le_trans (Nat.le_add_right _ _) htop; have k2 : (d - q) * G ≤ d ^ (j + 1) := Nat.le_trans (Nat.le_add_left _ _) htop; have m1 := (hx.mul ha (Nat.lt_of_le_of_lt k1 hp) (by rw [e]; exact hp)).1; have m2 := (hs.1.mul hg (Nat.lt_of_le_of_lt k2 hp) (by rw [e]; exact hp)).1; rw [e] at m1 m2; exact ⟨(m1.add m2 (Nat.lt_of_le_of_lt htop hp)).1, htop⟩
theorem mix_chn {x : LP} {q d : Nat} (hx : Frac x q d) (hq : q ≤ d) (hd : d ≤ 255) : ChN (mixV x) (mixN q d) d :=
 ⟨hx.pos, mix_fr hx hq hd, fun j hj => pow255 hd (by omega)⟩
theorem worst_chn {x : LP} {q d : Nat} (hx : Frac x q d) (hq : q ≤ d) (hd : d ≤ 255) : ChN (worstV x) (worstN q d) d := by
 refine ⟨hx.pos, fun j a g A G hj ha hg hA hG => ?_, fun j hj => pow255 hd (by omega)⟩; obtain ⟨h1, h2⟩ := mix_fr hx hq hd j a g A G hj ha hg hA hG; have hp := Nat.pow_pos (n := j) hx.pos; have hp2 := pow255 (d := d) (j := j + 1) hd (by omega); have e2 : d ^ (j + 1) = d ^ j * d := Nat.pow_succ _ _; have ha2 := hg.at_ h1
 have hiff : G * d ^ (j + 1) ≤ mixN q d A G * d ^ j ↔ G * d ≤ mixN q d A G := by
  rw [e2, show G * (d ^ j * d) = G * d * d ^ j by ac_rfl]; exact ⟨fun h => Nat.le_of_mul_le_mul_right h hp, fun h => Nat.mul_le_mul_right _ h⟩
 unfold worstV worstN; rw [ha2]; by_cases hc : G * d ≤ mixN q d A G
 ·rw [if_pos (by simpa using hiff.2 hc), if_pos hc]; exact ⟨h1, h2⟩
 ·rw [if_neg (by simpa using fun h => hc (hiff.1 h)), if_neg hc]; have k : G * d ≤ d ^ (j + 1) := by rw [e2]; exact Nat.mul_le_mul_right _ hG
  exact ⟨hg.scale (Nat.pow_pos hx.pos) (Nat.lt_of_le_of_lt k hp2) hp2 (by rw [e2]; ac_rfl), k⟩
/-- a measure is a number of parts, at most all -/
theorem mom_ex {b lv : LP} {rows : List (List LP)} {ch : LP → LP → LP} {f : Nat → Nat → Nat} {d : Nat} (h : ChN ch f d) : ∀ j m k c, j ≤ 12 → ∃ R, Frac (reachV ch b rows lv j m k c) R (d ^ j) ∧ R ≤ d ^ j
 | 0, m, k, c, _ => by
  unfold reachV
  cases atB lv c
  ·exact ⟨0, Frac.nil (by simp) (b64 (by simp)), by simp⟩
  ·exact ⟨1, Frac.one (d := 1) (by omega) (b64 (by omega)), by simp⟩
 | j + 1, m, k, c, hj => by
  unfold reachV
  cases atB lv c
  ·obtain ⟨B, hB, lB⟩ := mom_ex (b := b) (lv := lv) (rows := rows) h j (m + 1) (k + 1) (mulV c (factorV b rows m k true)) (by omega); obtain ⟨G, hG, lG⟩ := mom_ex (b := b) (lv := lv) (rows := rows) h j (m + 1) k (mulV c (factorV b rows m k false)) (by omega); exact ⟨_, h.fr j _ _ B G (by omega) hB hG lB lG⟩
  ·exact ⟨_, Frac.one (Nat.pow_pos h.pos) (h.lim _ (by omega)), Nat.le_refl _⟩
/-- what one chooser does is at most what another one does, with as many outcomes or more, and a level that is not higher -/
theorem mom_le {b l1 l2 : LP} {rows : List (List LP)} {pb qb : Nat} (hP : PlanN b rows pb qb) {ch1 ch2 : LP → LP → LP} {f1 f2 : Nat → Nat → Nat} {d1 d2 : Nat} (h1 : ChN ch1 f1 d1) (h2 : ChN ch2 f2 d2)
  (dom : ∀ A G A' G' M M', A * M' ≤ A' * M → G * M' ≤ G' * M → f1 A G * (M' * d2) ≤ f2 A' G' * (M * d1))
  (hlv : ∀ c N D, Frac c N D → atB l1 c = true → atB l2 c = true) : ∀ j1 j2 m k c t N D, j1 ≤ j2 → j2 ≤ 12 → Frac c N D → N ≤ 2 ^ (24 * t) → D ≤ 2 ^ (16 * t) → t + j2 ≤ 40 →
  ∃ R1 R2, Frac (reachV ch1 b rows l1 j1 m k c) R1 (d1 ^ j1) ∧ R1 ≤ d1 ^ j1 ∧ Frac (reachV ch2 b rows l2 j2 m k c) R2 (d2 ^ j2) ∧ R2 ≤ d2 ^ j2 ∧ R1 * d2 ^ j2 ≤ R2 * d1 ^ j1
 | 0, j2, m, k, c, t, N, D, hj, hj2, hc, hN, hD, ht => by
  have hlc := hlv c N D hc; unfold reachV
  cases e1 : atB l1 c
  ·obtain ⟨R2, k1, k2⟩ := mom_ex (b := b) (lv := l2) (rows := rows) h2 j2 m k c hj2; unfold reachV at k1; exact ⟨0, R2, Frac.nil (by simp) (b64 (by simp)), by simp, k1, k2, by simp⟩
  ·have e2 := hlc e1; refine ⟨1, d2 ^ j2, Frac.one (d := 1) (by omega) (b64 (by omega)), by simp, ?_, Nat.le_refl _, by simp⟩; have ho := Frac.one (Nat.pow_pos (n := j2) h2.pos) (h2.lim j2 (by omega))
   cases j2
   ·simp only [e2]; exact ho
   ·simp only [e2]; exact ho
 | j1 + 1, 0, m, k, c, t, N, D, hj, _, _, _, _, _ => absurd hj (by omega)
 | j1 + 1, j2 + 1, m, k, c, t, N, D, hj, hj2, hc, hN, hD, ht => by
  have hlc := hlv c N D hc
  cases e2 : atB l2 c
  ·have e1 : atB l1 c = false := by
    cases e : atB l1 c
    ·rfl
    ·rw [hlc e] at e2; cases e2
   have key : ∀ x k', ∃ R1 R2, Frac (reachV ch1 b rows l1 j1 (m + 1) k' (mulV c (factorV b rows m k x))) R1 (d1 ^ j1) ∧ R1 ≤ d1 ^ j1 ∧ Frac (reachV ch2 b rows l2 j2 (m + 1) k' (mulV c (factorV b rows m k x))) R2 (d2 ^ j2) ∧ R2 ≤ d2 ^ j2 ∧ R1 * d2 ^ j2 ≤ R2 * d1 ^ j1 := by
    intro x k'; obtain ⟨fn, fd, hf, hf1, hf2⟩ := hP.fac_small m k x; have m1 : N * fn ≤ 2 ^ (24 * (t + 1)) := by rw [Nat.mul_add, Nat.pow_add]; exact Nat.mul_le_mul hN hf1
    have m2 : D * fd ≤ 2 ^ (16 * (t + 1)) := by rw [Nat.mul_add, Nat.pow_add]; exact Nat.mul_le_mul hD hf2
    exact mom_le hP h1 h2 dom hlv j1 j2 (m + 1) k' _ (t + 1) _ _ (by omega) (by omega) (hc.mul hf (lim_pow m1 (by omega)) (lim_pow m2 (by omega))).1 m1 m2 (by omega)
   obtain ⟨B1, B2, b1, b2, b3, b4, b5⟩ := key true (k + 1); obtain ⟨G1, G2, g1, g2, g3, g4, g5⟩ := key false k; obtain ⟨r1, s1⟩ := h1.fr j1 _ _ _ _ (by omega) b1 g1 b2 g2; obtain ⟨r2, s2⟩ := h2.fr j2 _ _ _ _ (by omega) b3 g3 b4 g4; refine ⟨f1 B1 G1, f2 B2 G2, ?_, s1, ?_, s2, ?_⟩
   ·unfold reachV; simp only [e1]; exact r1
   ·unfold reachV; simp only [e2]; exact r2
   ·rw [Nat.pow_succ, Nat.pow_succ]; exact dom _ _ _ _ _ _ b5 g5
  ·obtain ⟨R1, k1, k2⟩ := mom_ex (b := b) (lv := l1) (rows := rows) h1 (j1 + 1) m k c (by omega); refine ⟨R1, d2 ^ (j2 + 1), k1, k2, ?_, Nat.le_refl _, ?_⟩
   ·unfold reachV; simp only [e2]; exact Frac.one (Nat.pow_pos h2.pos) (h2.lim _ (by omega))
   ·rw [Nat.mul_comm (d2 ^ (j2 + 1))]; exact Nat.mul_le_mul_right _ k2
theorem mix_dom {q d : Nat} (A G A' G' M M' : Nat) (h1 : A * M' ≤ A' * M) (h2 : G * M' ≤ G' * M) : mixN q d A G * (M' * d) ≤ mixN q d A' G' * (M * d) := by
 unfold mixN; have k1 := Nat.mul_le_mul_left (q * d) h1; have k2 := Nat.mul_le_mul_left ((d - q) * d) h2; have e1 : (q * A + (d - q) * G) * (M' * d) = q * d * (A * M') + (d - q) * d * (G * M') := by rw [Nat.add_mul]; congr 1 <;> ac_rfl
 have e2 : (q * A' + (d - q) * G') * (M * d) = q * d * (A' * M) + (d - q) * d * (G' * M) := by rw [Nat.add_mul]; congr 1 <;> ac_rfl
 omega
theorem worst_ge1 (q d A G : Nat) : mixN q d A G ≤ worstN q d A G := by unfold worstN; split <;> omega
theorem worst_ge2 (q d A G : Nat) : G * d ≤ worstN q d A G := by unfold worstN; split <;> omega
theorem worst_cases (q d A G : Nat) : worstN q d A G = mixN q d A G ∨ worstN q d A G = G * d := by unfold worstN; split <;> simp
theorem worst_dom {q d : Nat} (A G A' G' M M' : Nat) (h1 : A * M' ≤ A' * M) (h2 : G * M' ≤ G' * M) : worstN q d A G * (M' * d) ≤ worstN q d A' G' * (M * d) := by
 rcases worst_cases q d A G with e | e <;> rw [e]
 ·exact Nat.le_trans (mix_dom A G A' G' M M' h1 h2) (Nat.mul_le_mul_right _ (worst_ge1 _ _ _ _))
 ·refine Nat.le_trans ?_ (Nat.mul_le_mul_right _ (worst_ge2 _ _ _ _)); have k2 := Nat.mul_le_mul_left (d * d) h2; have e1 : G * d * (M' * d) = d * d * (G * M') := by ac_rfl
  have e2 : G' * d * (M * d) = d * d * (G' * M) := by ac_rfl
  omega
theorem mixworst_dom {q d pb qb : Nat} (hq : q ≤ d) (hb : pb ≤ qb) (hle : q * qb ≤ pb * d) (A G A' G' M M' : Nat) (h1 : A * M' ≤ A' * M) (h2 : G * M' ≤ G' * M) : mixN q d A G * (M' * qb) ≤ worstN pb qb A' G' * (M * d) := by
 have e1 : mixN q d A G * (M' * qb) = q * qb * (A * M') + (d - q) * qb * (G * M') := by unfold mixN; rw [Nat.add_mul]; congr 1 <;> ac_rfl
 have k1 := Nat.mul_le_mul_left (q * qb) h1; have k2 := Nat.mul_le_mul_left ((d - q) * qb) h2; rw [e1]; refine Nat.le_trans (Nat.add_le_add k1 k2) ?_; by_cases hc : A' ≤ G'
 ·refine Nat.le_trans ?_ (Nat.mul_le_mul_right _ (worst_ge2 _ _ _ _)); have k3 : q * qb * (A' * M) ≤ q * qb * (G' * M) := Nat.mul_le_mul_left _ (Nat.mul_le_mul_right _ hc)
  have e3 : q * qb * (G' * M) + (d - q) * qb * (G' * M) = G' * qb * (M * d) := by
   rw [← Nat.add_mul, ← Nat.add_mul, show q + (d - q) = d by omega]; ac_rfl
  omega
 ·refine Nat.le_trans ?_ (Nat.mul_le_mul_right _ (worst_ge1 _ _ _ _)); obtain ⟨t, rfl⟩ : ∃ t, A' = G' + t := ⟨A' - G', by omega⟩; unfold mixN
  have e3 : q * qb * ((G' + t) * M) + (d - q) * qb * (G' * M) = d * qb * (G' * M) + q * qb * (t * M) := by
   obtain ⟨r, rfl⟩ : ∃ r, d = q + r := ⟨d - q, by omega⟩; rw [show q + r - q = r by omega]; simp only [Nat.add_mul, Nat.mul_add]; omega
  have e4 : (pb * (G' + t) + (qb - pb) * G') * (M * d) = d * qb * (G' * M) + pb * d * (t * M) := by
   obtain ⟨r, rfl⟩ : ∃ r, qb = pb + r := ⟨qb - pb, by omega⟩; rw [show pb + r - pb = r by omega, show (pb * (G' + t) + r * G') = (pb + r) * G' + pb * t by simp only [Nat.add_mul, Nat.mul_add]; omega]; rw [Nat.add_mul]
   congr 1 <;> ac_rfl
  have k3 := Nat.mul_le_mul_right (t * M) hle; rw [e3, e4]; omega
/-- against any adversary the measure of a level, times it, is at most the capital -/
theorem worst_bound {b lv : LP} {rows : List (List LP)} {pb qb L E : Nat} (hP : PlanN b rows pb qb) (hl : Frac lv L E) : ∀ j m k c t N D, j ≤ 12 → Frac c N D → N ≤ 2 ^ (24 * t) → D ≤ 2 ^ (16 * t) → t + j ≤ 40 →
  ∃ W, Frac (reachV (worstV b) b rows lv j m k c) W (qb ^ j) ∧ W ≤ qb ^ j ∧ W * (L * D) ≤ N * E * qb ^ j
 | 0, m, k, c, t, N, D, _, hc, _, _, _ => by
  have ha := hl.at_ hc; unfold reachV
  cases e : atB lv c
  ·exact ⟨0, Frac.nil (by simp) (b64 (by simp)), by simp, by simp⟩
  ·rw [e] at ha; have ha : L * D ≤ N * E := by simpa using ha.symm
   exact ⟨1, Frac.one (d := 1) (by omega) (b64 (by omega)), by simp, by simpa using ha⟩
 | j + 1, m, k, c, t, N, D, hj, hc, hN, hD, ht => by
  have ha := hl.at_ hc; have hq0 := hP.bd.pos; have hch := worst_chn hP.bd hP.le hP.qle
  cases e : atB lv c
  ·obtain ⟨ps, qs, hs0, hs1, hs2, hs3, ht1, ht2⟩ := hP.fac m k; have hqs := Nat.mul_pos hs0 hq0; have u2 : qs * qb ≤ 255 * 255 := Nat.mul_le_mul hs2 hP.qle; have u3 : ps * (qb - pb) ≤ 255 * 255 := Nat.mul_le_mul hs1 (by have := hP.qle; omega); have v1 : qs * qb + ps * (qb - pb) ≤ 2 ^ 24 := by omega
   have v2 : qs * qb - ps * pb ≤ 2 ^ 24 := by omega
   have v3 : qs * qb ≤ 2 ^ 16 := by omega
   have m1 : N * (qs * qb + ps * (qb - pb)) ≤ 2 ^ (24 * (t + 1)) := Nat.le_trans (Nat.mul_le_mul hN v1) (by rw [← Nat.pow_add]; exact Nat.pow_le_pow_right (by omega) (by omega)); have m2 : N * (qs * qb - ps * pb) ≤ 2 ^ (24 * (t + 1)) := Nat.le_trans (Nat.mul_le_mul hN v2) (by rw [← Nat.pow_add]; exact Nat.pow_le_pow_right (by omega) (by omega)); have m3 : D * (qs * qb) ≤ 2 ^ (16 * (t + 1)) := Nat.le_trans (Nat.mul_le_mul hD v3) (by rw [← Nat.pow_add]; exact Nat.pow_le_pow_right (by omega) (by omega)); have c1 := (hc.mul ht1 (lim_pow m1 (by omega)) (lim_pow m3 (by omega))).1; have c2 := (hc.mul ht2 (lim_pow m2 (by omega)) (lim_pow m3 (by omega))).1; obtain ⟨B, b1, b2, b3⟩ := worst_bound hP hl j (m + 1) (k + 1) _ (t + 1) _ _ (by omega) c1 m1 m3 (by omega); obtain ⟨G, g1, g2, g3⟩ := worst_bound hP hl j (m + 1) k _ (t + 1) _ _ (by omega) c2 m2 m3 (by omega); obtain ⟨r1, s1⟩ := hch.fr j _ _ _ _ (by omega) b1 g1 b2 g2; refine ⟨worstN pb qb B G, ?_, s1, ?_⟩
   ·unfold reachV; simp only [e]; exact r1
   ·refine Nat.le_of_mul_le_mul_right ?_ hqs; have w3 : (qs * qb - ps * pb) ≤ qs * qb := Nat.sub_le _ _; have hle := hP.le
    rcases worst_cases pb qb B G with e | e <;> rw [e]
    ·have k1 := Nat.mul_le_mul_left pb b3; have k2 := Nat.mul_le_mul_left (qb - pb) g3
     have e1 : mixN pb qb B G * (L * D) * (qs * qb) = pb * (B * (L * (D * (qs * qb)))) + (qb - pb) * (G * (L * (D * (qs * qb)))) := by
      unfold mixN; rw [Nat.add_mul, Nat.add_mul]; congr 1 <;> ac_rfl
     have e2 : pb * (qs * qb + ps * (qb - pb)) + (qb - pb) * (qs * qb - ps * pb) = qb * (qs * qb) := by
      obtain ⟨r, hr⟩ : ∃ r, qb - pb = r := ⟨_, rfl⟩; have hr2 : qb = pb + r := by omega
      rw [hr, Nat.mul_sub, show r * (ps * pb) = pb * (ps * r) by ac_rfl, Nat.mul_add]
      have k : pb * (ps * r) ≤ r * (qs * qb) := by
       rw [show pb * (ps * r) = r * (ps * pb) by ac_rfl]; exact Nat.mul_le_mul_left _ hs3
      have e3 : pb * (qs * qb) + r * (qs * qb) = qb * (qs * qb) := by rw [← Nat.add_mul, ← hr2]
      omega
     have e4 : N * E * qb ^ (j + 1) * (qs * qb) = pb * (N * (qs * qb + ps * (qb - pb)) * E * qb ^ j) + (qb - pb) * (N * (qs * qb - ps * pb) * E * qb ^ j) := by
      rw [show pb * (N * (qs * qb + ps * (qb - pb)) * E * qb ^ j) = pb * (qs * qb + ps * (qb - pb)) * (N * E * qb ^ j) by ac_rfl, show (qb - pb) * (N * (qs * qb - ps * pb) * E * qb ^ j) = (qb - pb) * (qs * qb - ps * pb) * (N * E * qb ^ j) by ac_rfl, ← Nat.add_mul, e2, Nat.pow_succ]
      ac_rfl
     rw [e1, e4]; exact Nat.add_le_add k1 k2
    ·have k1 : N * (qs * qb - ps * pb) * E * qb ^ j ≤ N * (qs * qb) * E * qb ^ j := Nat.mul_le_mul_right _ (Nat.mul_le_mul_right _ (Nat.mul_le_mul_left _ w3)); have k2 := Nat.mul_le_mul_right qb (Nat.le_trans g3 k1); have e1 : G * qb * (L * D) * (qs * qb) = G * (L * (D * (qs * qb))) * qb := by ac_rfl
     have e2 : N * E * qb ^ (j + 1) * (qs * qb) = N * (qs * qb) * E * qb ^ j * qb := by rw [Nat.pow_succ]; ac_rfl
     rw [e1, e2]; exact k2
  ·rw [e] at ha; have ha : L * D ≤ N * E := by simpa using ha.symm
   refine ⟨qb ^ (j + 1), ?_, Nat.le_refl _, ?_⟩
   ·unfold reachV; simp only [e]; exact Frac.one (Nat.pow_pos hq0) (hch.lim _ (by omega))
   ·rw [Nat.mul_comm (qb ^ (j + 1))]; exact Nat.mul_le_mul_right _ ha
theorem cmpN_le {a b : Nat} (h : a ≤ b) : Nm.cmpN a b ≤ 0 := by
 unfold Nm.cmpN
 split
 ·omega
 ·split <;> omega
/-- the measure that the law takes: at most the bound -/
theorem moment_q {b x : LP} {rows : List (List LP)} {pb qb p q : Nat} (hP : PlanN b rows pb qb) (hb : partB b = true) (hx : Frac x p q) (hpq : p ≤ q) (hq : q ≤ 24) : ∃ qn qd, Frac (if smallB (mulV b x) then mulV b x else b) qn qd ∧ qn ≤ qd ∧ qd ≤ 255 ∧ qn * qb ≤ pb * qd ∧ partB (if smallB (mulV b x) then mulV b x else b) = true := by
 have hle := hP.le; have hqb := hP.qle; by_cases hs : smallB (mulV b x) = true
 ·rw [if_pos hs]; have u1 : pb * p ≤ 255 * 24 := Nat.mul_le_mul (by omega) (by omega); have u2 : qb * q ≤ 255 * 24 := Nat.mul_le_mul hqb hq; have hm := (hP.bd.mul hx (b64 (by omega)) (b64 (by omega))).1; obtain ⟨a, g, s, e, hg, e1, e2, hs0⟩ := hm.parts; have hsl := hs; rw [e] at hsl; obtain ⟨l1, l2⟩ := small_le hsl; have hf := Frac.of_good hg
  have k0 : a ≤ g := by
   refine Nat.le_of_mul_le_mul_right ?_ hs0; rw [← e1, ← e2]; exact Nat.mul_le_mul hle hpq
  refine ⟨a, g, by rw [e]; exact hf, k0, l2, ?_, ?_⟩
  ·refine Nat.le_of_mul_le_mul_right ?_ hs0; rw [show a * qb * s = a * s * qb by ac_rfl, show pb * g * s = pb * (g * s) by ac_rfl, ← e1, ← e2, show pb * p * qb = pb * (qb * p) by ac_rfl]; exact Nat.mul_le_mul_left _ (Nat.mul_le_mul_left _ hpq)
  ·unfold partB; rw [hs, Bool.true_and, e]; rw [hf.at_ (Frac.one (d := 1) (by omega) (b64 (by omega)))]
   simpa using k0
 ·rw [if_neg hs]; exact ⟨pb, qb, hP.bd, hle, hqb, Nat.le_refl _, hb⟩
end Go.Proofs.Ytnjjdiilkhdbeaa
namespace Go.Proofs.Ytnjjdiilkhdbeaa
open Go Go.RowKit
def mI (mm i : Nat) : Nat := if i = 1 then mm + 1 else mm
def lI (low high : LP) (i : Nat) : LP := if i = 2 then high else low
noncomputable def rI (b : LP) (rows : List (List LP)) (q low high : LP) (mm i : Nat) : LP := reachV (mixV q) b rows (lI low high i) (mI mm i) 0 0 oneP
noncomputable def wI (b : LP) (rows : List (List LP)) (low high : LP) (mm i : Nat) : LP := reachV (worstV b) b rows (lI low high i) (mI mm i) 0 0 oneP
/-- all that the law asks of the numbers -/
structure MomOk (b : LP) (rows : List (List LP)) (q low high : LP) (mm : Nat) : Prop where
 lv : ∀ i, validP (lI low high i) = 0
 rv : ∀ i, validP (rI b rows q low high mm i) = 0
 wv : ∀ i, validP (wI b rows low high mm i) = 0
 le : ∀ i, cmpV (rI b rows q low high mm i) (wI b rows low high mm i) ≤ 0
 e0 : ∀ i, (mulF (wI b rows low high mm i) (lI low high i)).1 = 0
 mv : ∀ i, validP (mulV (wI b rows low high mm i) (lI low high i)) = 0
 top : ∀ i, cmpV (mulV (wI b rows low high mm i) (lI low high i)) (redP 1 1) ≤ 0
 a1 : cmpV (rI b rows q low high mm 0) (rI b rows q low high mm 1) ≤ 0
 a2 : cmpV (wI b rows low high mm 0) (wI b rows low high mm 1) ≤ 0
 b1 : cmpV (rI b rows q low high mm 2) (rI b rows q low high mm 0) ≤ 0
 b2 : cmpV (wI b rows low high mm 2) (wI b rows low high mm 0) ≤ 0
theorem mom_cmp {b l1 l2 : LP} {rows : List (List LP)} {pb qb : Nat} (hP : PlanN b rows pb qb) {ch1 ch2 : LP → LP → LP} {f1 f2 : Nat → Nat → Nat} {d1 d2 : Nat} (h1 : ChN ch1 f1 d1) (h2 : ChN ch2 f2 d2)
  (dom : ∀ A G A' G' M M', A * M' ≤ A' * M → G * M' ≤ G' * M → f1 A G * (M' * d2) ≤ f2 A' G' * (M * d1))
  (hlv : ∀ c N D, Frac c N D → atB l1 c = true → atB l2 c = true) {j1 j2 : Nat} (hj : j1 ≤ j2) (hj2 : j2 ≤ 12) : cmpV (reachV ch1 b rows l1 j1 0 0 oneP) (reachV ch2 b rows l2 j2 0 0 oneP) ≤ 0 := by
 have ho := Frac.one (d := 1) (by omega) (b64 (by omega)); obtain ⟨R1, R2, k1, _, k2, _, k3⟩ := mom_le hP h1 h2 dom hlv j1 j2 0 0 oneP 0 1 1 hj hj2 ho (by simp) (by simp) (by omega); rw [k1.cmp k2]; exact cmpN_le k3
theorem mom_ok {b q low high : LP} {rows : List (List LP)} {pb qb qn qd L H mm : Nat} (hP : PlanN b rows pb qb) (hq : Frac q qn qd) (hqq : qn ≤ qd) (h255 : qd ≤ 255) (hle : qn * qb ≤ pb * qd) (hL : Frac low L 4) (hH : Frac high H 4) (hLH : L ≤ H) (hH2 : H ≤ 1000) (hm : mm ≤ 5) : MomOk b rows q low high mm := by
 have c1 := mix_chn hq hqq h255; have c2 := worst_chn hP.bd hP.le hP.qle; have ho := Frac.one (d := 1) (by omega) (b64 (by omega)); have hmi : ∀ i, mI mm i ≤ 6 := fun i => by unfold mI; split <;> omega
 have hlf : ∀ i, ∃ l, Frac (lI low high i) l 4 ∧ l ≤ 1000 := fun i => by
  unfold lI
  split
  ·exact ⟨H, hH, hH2⟩
  ·exact ⟨L, hL, by omega⟩
 have hhl : ∀ c N D, Frac c N D → atB high c = true → atB low c = true := fun c N D hc h => by
  rw [hH.at_ hc] at h; rw [hL.at_ hc]; have h : H * D ≤ N * 4 := by simpa using h
  have h2 : L * D ≤ H * D := Nat.mul_le_mul_right _ hLH; simp; omega
 have key : ∀ i, ∃ W l, Frac (wI b rows low high mm i) W (qb ^ mI mm i) ∧ Frac (lI low high i) l 4 ∧ W * l < Nm.B ^ 64 ∧ qb ^ mI mm i * 4 < Nm.B ^ 64 ∧ W * l * 1 ≤ 1 * (qb ^ mI mm i * 4) := fun i => by
  obtain ⟨l, hl, hl2⟩ := hlf i; have hi := hmi i; obtain ⟨W, k1, k2, k3⟩ := worst_bound hP hl (mI mm i) 0 0 oneP 0 1 1 (by omega) ho (by simp) (by simp) (by omega)
  have hpw : qb ^ mI mm i ≤ 2 ^ (8 * mI mm i) := by
   rw [Nat.pow_mul]; exact Nat.pow_le_pow_left (by have := hP.qle; omega) _
  have e : 2 ^ (8 * mI mm i) * 2 ^ 10 = 2 ^ (8 * mI mm i + 10) := (Nat.pow_add _ _ _).symm; refine ⟨W, l, k1, hl, ?_, ?_, ?_⟩
  ·refine lim_pow (k := 8 * mI mm i + 10) ?_ (by omega); rw [← e]; exact Nat.mul_le_mul (Nat.le_trans k2 hpw) (by omega)
  ·refine lim_pow (k := 8 * mI mm i + 10) ?_ (by omega); rw [← e]; exact Nat.mul_le_mul hpw (by omega)
  ·rw [Nat.mul_one] at k3; rw [Nat.mul_one, Nat.one_mul, Nat.mul_comm _ 4]
   simpa using k3
 refine ⟨fun i => ?_, fun i => ?_, fun i => ?_, fun i => ?_, fun i => ?_, fun i => ?_, fun i => ?_, ?_, ?_, ?_, ?_⟩
 ·obtain ⟨l, hl, _⟩ := hlf i; exact hl.valid
 ·obtain ⟨R, k, _⟩ := mom_ex (b := b) (lv := lI low high i) (rows := rows) c1 (mI mm i) 0 0 oneP (by have := hmi i; omega); exact k.valid
 ·obtain ⟨W, l, k1, _⟩ := key i; exact k1.valid
 ·exact mom_cmp hP c1 c2 (mixworst_dom hqq hP.le hle) (fun _ _ _ _ h => h) (Nat.le_refl _) (by have := hmi i; omega)
 ·obtain ⟨W, l, k1, k2, k3, k4, _⟩ := key i; exact (k1.mul k2 k3 k4).2
 ·obtain ⟨W, l, k1, k2, k3, k4, _⟩ := key i; exact (k1.mul k2 k3 k4).1.valid
 ·obtain ⟨W, l, k1, k2, k3, k4, k5⟩ := key i; have one : Frac (redP 1 1) 1 1 := fr (by omega) (by omega) (by omega); rw [(k1.mul k2 k3 k4).1.cmp one]; exact cmpN_le k5
 ·exact mom_cmp hP c1 c1 mix_dom (fun _ _ _ _ h => h) (show mI mm 0 ≤ mI mm 1 from Nat.le_succ mm) (by have := hmi 1; omega)
 ·exact mom_cmp hP c2 c2 worst_dom (fun _ _ _ _ h => h) (show mI mm 0 ≤ mI mm 1 from Nat.le_succ mm) (by have := hmi 1; omega)
 ·exact mom_cmp hP c1 c1 mix_dom hhl (show mI mm 2 ≤ mI mm 0 from Nat.le_refl mm) (by have := hmi 0; omega)
 ·exact mom_cmp hP c2 c2 worst_dom hhl (show mI mm 2 ≤ mI mm 0 from Nat.le_refl mm) (by have := hmi 0; omega)
end Go.Proofs.Ytnjjdiilkhdbeaa
