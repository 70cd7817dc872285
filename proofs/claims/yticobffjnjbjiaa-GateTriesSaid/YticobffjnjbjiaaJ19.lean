import Derived.Test.YticobffjnjbjiaaJ18
import Derived.Test.YticobffjnjbjiaaJ11
set_option linter.unusedVariables false
set_option linter.unusedSimpArgs false
namespace Go.Proofs.Yticobffjnjbjiaa.Nm
open Go.Proofs.Yticobffjnjbjiaa
/- What Retries says, against powers, greater bounds, lesser limits. -/
theorem fits_zero {p q : Nat} : Fits (p ^ 0) (q ^ 0) := by
  rw [Nat.pow_zero, Nat.pow_zero]; exact Good_one.fits
theorem RetP.fine {p q a b : Nat} {x : Int} (g : Good p q) (hb : 0 < b) (h : RetP p q a b x 0) : ∃ n : Nat, x = (n : Int) ∧ n ≤ 2048 ∧ (∀ k, k ≤ n → Fits (p ^ k) (q ^ k)) ∧ p ^ n * b ≤ a * q ^ n ∧ (0 < n → a * q ^ (n - 1) < p ^ (n - 1) * b) := by
  rcases h with ⟨_, _, h⟩ | ⟨h1, h2, h3, _⟩ | ⟨_, _, _, _, h⟩ | ⟨h1, h2, h3, n, hn1, hn2, hn3⟩
  · cases h
  · refine ⟨0, h3, by omega, fun k hk => ?_, by rw [Nat.pow_zero, Nat.pow_zero]; omega, fun h => by omega⟩
    obtain rfl : k = 0 := by omega
    exact fits_zero
  · cases h
  · rcases hn3 with ⟨_, _, h⟩ | ⟨hf, hle, hx, _⟩
    · cases h
    · refine ⟨n, hx, no_stop_le g h1 (fun e => h3 (.inl e)) hn2, fun k hk => ?_, hle, fun _ => ?_⟩
      · rcases Nat.eq_zero_or_pos k with rfl | hk0
        · exact fits_zero
        · rcases Nat.lt_or_ge k n with h | h
          · have := hn2 k hk0 h
            exact Classical.byContradiction fun hc => this (.inl hc)
          · obtain rfl : k = n := by omega
            exact hf
      · rcases Nat.eq_zero_or_pos (n - 1) with h0 | h0
        · rw [h0, Nat.pow_zero, Nat.pow_zero]; omega
        · have := hn2 (n - 1) h0 (by omega)
          exact Classical.byContradiction fun hc => this (.inr (by omega))
/-- not yet at the limit, before -/
theorem RetP.before {p q a b : Nat} {x : Int} (h : RetP p q a b x 0) {m : Nat} (hm : (m : Int) < x) : a * q ^ m < p ^ m * b := by
  rcases h with ⟨_, _, h⟩ | ⟨h1, h2, h3, _⟩ | ⟨_, _, _, _, h⟩ | ⟨h1, h2, h3, n, hn1, hn2, hn3⟩
  · cases h
  · omega
  · cases h
  · rcases hn3 with ⟨_, _, h⟩ | ⟨hf, hle, hx, _⟩
    · cases h
    · rcases Nat.eq_zero_or_pos m with rfl | h0
      · rw [Nat.pow_zero, Nat.pow_zero]; omega
      · have := hn2 m h0 (by omega)
        exact Classical.byContradiction fun hc => this (.inr (by omega))
theorem RetP.at_ {p q a b : Nat} {x : Int} (h : RetP p q a b x 0) : ∃ n : Nat, x = (n : Int) ∧ p ^ n * b ≤ a * q ^ n := by
  rcases h with ⟨_, _, h⟩ | ⟨h1, h2, h3, _⟩ | ⟨_, _, _, _, h⟩ | ⟨h1, h2, h3, n, hn1, hn2, hn3⟩
  · cases h
  · exact ⟨0, h3, by rw [Nat.pow_zero, Nat.pow_zero]; omega⟩
  · cases h
  · rcases hn3 with ⟨_, _, h⟩ | ⟨hf, hle, hx, _⟩
    · cases h
    · exact ⟨n, hx, hle⟩
theorem RetP.mono_bound {p q p' q' a b : Nat} {x y : Int} (h : RetP p q a b x 0) (k : RetP p' q' a b y 0) (hq : 0 < q) (hq' : 0 < q') (hle : p * q' ≤ p' * q) : x ≤ y := by
  obtain ⟨m, rfl, hm⟩ := k.at_
  rcases Int.lt_or_le (m : Int) x with h1 | h1
  · exfalso
    have h2 := h.before h1
    have h3 : (p * q') ^ m ≤ (p' * q) ^ m := Nat.pow_le_pow_left hle m
    rw [Nat.mul_pow, Nat.mul_pow] at h3
    have h4 : 0 < q' ^ m := Nat.pow_pos hq'
    have h5 : a * q ^ m * q' ^ m < p ^ m * b * q' ^ m := Nat.mul_lt_mul_of_pos_right h2 h4
    have h6 : p ^ m * q' ^ m * b ≤ p' ^ m * q ^ m * b := Nat.mul_le_mul_right b h3
    have h7 : p' ^ m * b * q ^ m ≤ a * q' ^ m * q ^ m := Nat.mul_le_mul_right _ hm
    have e1 : p ^ m * b * q' ^ m = p ^ m * q' ^ m * b := by rw [Nat.mul_right_comm]
    have e2 : p' ^ m * q ^ m * b = p' ^ m * b * q ^ m := by rw [Nat.mul_right_comm]
    have e3 : a * q' ^ m * q ^ m = a * q ^ m * q' ^ m := by rw [Nat.mul_right_comm]
    omega
  · exact h1
theorem RetP.mono_limit {p q a b a' b' : Nat} {x y : Int} (h : RetP p q a b x 0) (k : RetP p q a' b' y 0) (hb : 0 < b) (hb' : 0 < b') (hle : a' * b ≤ a * b') : x ≤ y := by
  obtain ⟨m, rfl, hm⟩ := k.at_
  rcases Int.lt_or_le (m : Int) x with h1 | h1
  · exfalso
    have h2 := h.before h1
    have h5 : a * q ^ m * b' < p ^ m * b * b' := Nat.mul_lt_mul_of_pos_right h2 hb'
    have h6 : p ^ m * b' * b ≤ a' * q ^ m * b := Nat.mul_le_mul_right b hm
    have h7 : a' * b * q ^ m ≤ a * b' * q ^ m := Nat.mul_le_mul_right _ hle
    have e1 : p ^ m * b * b' = p ^ m * b' * b := by rw [Nat.mul_right_comm]
    have e2 : a' * q ^ m * b = a' * b * q ^ m := by rw [Nat.mul_right_comm]
    have e3 : a * q ^ m * b' = a * b' * q ^ m := by rw [Nat.mul_right_comm]
    omega
  · exact h1
theorem cmp_ge {a b : Nat} (h : 0 ≤ cmpN a b) : b ≤ a := by
  rcases Nat.lt_or_ge a b with h1 | h1
  · unfold cmpN at h; rw [if_pos h1] at h; omega
  · exact h1
theorem cmp_le' {a b : Nat} (h : cmpN a b ≤ 0) : a ≤ b := by
  rcases Nat.lt_or_ge b a with h1 | h1
  · rw [cmpN_gt h1] at h; omega
  · exact h1
end Go.Proofs.Yticobffjnjbjiaa.Nm
namespace Go.Proofs.Yticobffjnjbjiaa
open Go.RowKit
def partK (d : Int) : Nat := 1 + aroundN d 24
def partA (n d : Int) : Nat := aroundN n (1 + aroundN d 24 + 1)
def partP (n d : Int) : Nat := partA n d / Nat.gcd (partA n d) (partK d)
def partQ (n d : Int) : Nat := partK d / Nat.gcd (partA n d) (partK d)
set_option maxRecDepth 10000 in
set_option maxHeartbeats 400000 in
theorem rpart_e (n d : Int) (w : World) (h1 : -9223372036854775808 ≤ n) (h2 : n ≤ 9223372036854775807) (h3 : -9223372036854775808 ≤ d) (h4 : d ≤ 9223372036854775807) :
    Calls Try.prog 11 #[.int .i64 n, .int .i64 d] w fun e w' => ∃ v p q, e = .returned v ∧ Rat w' v p q ∧ Nm.Good p q ∧ p ≤ q ∧ Hid (p = partP n d ∧ q = partQ n d) ∧ Below w.heap.size w w' := by
  go_enter Try.func11, Try.ntmps11
  go_wp2_with fail
  refine (around_n d 24 _ h3 h4 (by omega) (by omega)).mono ?_
  rintro e w' ⟨x, rfl, hx, HX, rfl⟩
  go_wp2_with fail
  refine (around_n n (1 + x + 1) _ h1 h2 (by omega) (by omega)).mono ?_
  rintro e w' ⟨y, rfl, hy, HY, rfl⟩
  have HE : Hid (y / Nat.gcd y (1 + x) = partP n d ∧ (1 + x) / Nat.gcd y (1 + x) = partQ n d) := by
    have e1 := HX.out
    have e2 := HY.out
    rw [e1] at e2
    unfold partP partQ partK partA
    rw [← e2, ← e1]; exact ⟨rfl, rfl⟩
  clear HX HY
  go_wp2_with fail
  refine (rof_s y (1 + x) _ (by omega) (by omega) (by omega)).mono ?_
  rintro e w1 ⟨A, k, c, A', k', c', rfl, hR, hb⟩
  have hres := Res.below (Res.below (Res.new w) hb) (below_alloc w1 (.cells #[.slice A k c, .slice A' k' c'] 24))
  have hR2 := hR.below (below_alloc w1 (.cells #[.slice A k c, .slice A' k' c'] 24))
  obtain ⟨r1, r2, r3, r4⟩ := hres.facts
  obtain ⟨s1, s2⟩ := hres.set2 (.slice A k c) (.slice A' k' c')
  have hfin := rat_ret (w0 := w) hres hR2
  have hbw := Below.tr (Below.tr (below_alloc w _) hb) (below_alloc w1 (.cells #[.slice A k c, .slice A' k' c'] 24))
  clear hR hR2 hb
  go_wp2_with fail
  exact bodyPost_ret (v := .agg #[.slice A k c, .slice A' k' c']) (by simp [results, Try.results11, go_sem, s1, s2]) rfl ⟨_, _, _, rfl, hfin.1, hfin.2, part_le (by omega), HE, below_set2 hbw (Nat.le_refl _) _ _⟩
theorem retries_p (va vb : Value) (p q a b : Nat) (w : World) (ha : Rat w va p q) (hb : Rat w vb a b) (ga : Nm.Good p q) (gb : Nm.Good a b) :
    Calls Try.prog 16 #[va, vb] w fun e w' => ∃ x er : Int, e = .returned (.tuple #[.int .i64 x, .int .i64 er]) ∧ Hid (Nm.RetP p q a b x er) ∧ Below w.heap.size w w' := by
  refine (retries_any va vb _ _ _ _ w ha.rtl hb.rtl).mono ?_
  rintro e w' ⟨x, er, rfl, HR, hb⟩
  refine ⟨x, er, rfl, ?_, hb⟩
  rcases HR.out with ⟨h, _⟩ | ⟨p', q', a', b', e1, e2, g1, e3, e4, g2, hP⟩
  · rw [Nm.validE_of ga, Nm.validE_of gb] at h; exact absurd rfl h
  · obtain rfl : p = p' := Nm.lb_inj e1
    obtain rfl : q = q' := Nm.dn_inj ga.pos g1.pos (Nm.lb_inj e2)
    obtain rfl : a = a' := Nm.lb_inj e3
    obtain rfl : b = b' := Nm.dn_inj gb.pos g2.pos (Nm.lb_inj e4)
    exact hP
end Go.Proofs.Yticobffjnjbjiaa
