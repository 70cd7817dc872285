import Derived.Test.YtmbfjmilhfmnkaaGreatDoorKRdsProof12
import Derived.Test.YtmbfjmilhfmnkaaGreatDoorS0
set_option linter.unusedVariables false
set_option linter.unusedSimpArgs false
namespace Go.Proofs.YtmbfjmilhfmnkaaGreatDoor
open Go.RowKit
theorem Good_one : Nm.Good 1 1 := ⟨by omega, rfl, by rw [Nm.lb_one]; simp, by rw [Nm.dn_one, Nm.lb_zero]; simp⟩
theorem unit_rat (g : Nat) (w' : World) (h : Nb w' (some ⟨g, 0, none⟩) 1 1 1) : Rat w' (.agg #[.slice (some ⟨g, 0, none⟩) 1 1, .slice none 0 0]) 1 1 := ⟨_, _, _, _, _, _, rfl, h, Nb.zero _⟩
theorem cmp_le {a b : Nat} (h : a ≤ b) : Nm.cmpN a b ≤ 0 := by unfold Nm.cmpN; split <;> (try split) <;> omega
theorem cmp_pos {a b : Nat} (h : b < a) : Nm.cmpN a b = 1 := Nm.cmpN_gt h
/-- the number from 0 to m - 1 that is made of n -/
def aroundN (n : Int) (m : Nat) : Nat := (if n < 0 then (-(n + 1)).toNat else n.toNat) % m
theorem around_n (n : Int) (m : Nat) (w : World) (h1 : -9223372036854775808 ≤ n) (h2 : n ≤ 9223372036854775807) (hm : 0 < m) (hm2 : m ≤ 4611686018427387904) :
  Calls Tryz.prog 7 #[.int .i64 n, .int .i64 m] w fun e w' => ∃ k : Nat, e = .returned (.int .i64 k) ∧ k < m ∧ Hid (k = aroundN n m) ∧ w = w' := by
 by_cases hn : n < 0
 ·obtain ⟨x, hx⟩ : ∃ x : Nat, n = -(x : Int) - 1 := ⟨(-(n + 1)).toNat, by omega⟩; have hxl : x ≤ 9223372036854775807 := by omega
  subst hx
  have HX : Hid (aroundN (-(x : Int) - 1) m = x % m) := by
   show _ = _; unfold aroundN; rw [if_pos hn]; congr 1; omega
  have hlt := Nat.mod_lt x hm; clear h1 h2 hn; have t1 : decide (-(x : Int) - 1 < 0) = true := by simp; omega
  have t2 : IntKind.i64.wrap (-(x : Int) - 1 + 1) = -(x : Int) := by rw [IntWalk.i64_in _ (by omega)]; omega
  have t3 : IntKind.i64.wrap (- -(x : Int)) = (x : Int) := by rw [IntWalk.i64_in _ (by omega)]; omega
  go_enter Tryz.func7, Tryz.ntmps7
  go_wp2
  go_ret; exact ⟨x % m, rfl, hlt, HX.out.symm, rfl⟩
 ·obtain ⟨x, rfl⟩ := Int.eq_ofNat_of_zero_le (show 0 ≤ n by omega)
  have HX : Hid (aroundN (x : Int) m = x % m) := by
   show _ = _; unfold aroundN; rw [if_neg hn]; congr 1
  have hlt := Nat.mod_lt x hm; clear h1 hn
  go_enter Tryz.func7, Tryz.ntmps7
  go_wp2
  go_ret; exact ⟨x % m, rfl, hlt, HX.out.symm, rfl⟩
end Go.Proofs.YtmbfjmilhfmnkaaGreatDoor
namespace Go.Proofs.YtmbfjmilhfmnkaaGreatDoor
open Go.RowKit
theorem good_red {n d : Nat} (hd : 0 < d) (hf : Nm.Fits (n / Nat.gcd n d) (d / Nat.gcd n d)) : Nm.Good (n / Nat.gcd n d) (d / Nat.gcd n d) := by
 have hg : 0 < Nat.gcd n d := Nat.gcd_pos_of_pos_right _ hd; exact ⟨Nat.div_pos (Nat.gcd_le_right _ hd) hg, Nat.coprime_div_gcd_div_gcd hg, hf⟩
theorem fits_small {p q : Nat} (hp : p < Nm.B ^ 64) (hq : q < Nm.B ^ 64) : Nm.Fits p q := by
 refine ⟨Nm.lb_length_lt.2 hp, Nm.lb_length_lt.2 ?_⟩; unfold Nm.dn; split
 ·exact Nat.pow_pos Nm.B_pos
 ·exact hq
theorem RedP.small {w : World} {v : Value} {er : Int} {n d : Nat} (h : RedP w v er n d) (hd : 0 < d) (hn : n < Nm.B ^ 64) (hd2 : d < Nm.B ^ 64) :
  er = 0 ∧ Rat w v (n / Nat.gcd n d) (d / Nat.gcd n d) ∧ Nm.Good (n / Nat.gcd n d) (d / Nat.gcd n d) := by
 have hf : Nm.Fits (n / Nat.gcd n d) (d / Nat.gcd n d) := fits_small (Nat.lt_of_le_of_lt (Nat.div_le_self _ _) hn) (Nat.lt_of_le_of_lt (Nat.div_le_self _ _) hd2)
 rcases h with ⟨_, h2, h3⟩ | ⟨h1, _⟩
 ·exact ⟨h2, h3, good_red hd hf⟩
 ·exact absurd hf h1
theorem RedP.shape {w : World} {v : Value} {er : Int} {n d : Nat} (h : RedP w v er n d) : ∃ A1 k1 c1 A2 k2 c2, v = .agg #[.slice A1 k1 c1, .slice A2 k2 c2] := by
 obtain ⟨A, k, c, A', k', c', er', rfl, _⟩ := RedV.of h; exact ⟨A, k, c, A', k', c', rfl⟩
theorem b64 {n : Nat} (h : n < 18446744073709551616) : n < Nm.B ^ 64 := by
 refine Nat.lt_of_lt_of_le (Nat.lt_of_lt_of_eq h (show 18446744073709551616 = Nm.B ^ 2 by unfold Nm.B; rfl)) (Nat.pow_le_pow_right Nm.B_pos (by omega))
theorem b2 {n : Nat} (h : n < 18446744073709551616) : n < Nm.B ^ 2 := Nat.lt_of_lt_of_eq h (show 18446744073709551616 = Nm.B ^ 2 by unfold Nm.B; rfl)
set_option maxRecDepth 10000 in
set_option maxHeartbeats 400000 in
theorem rof_n (n d : Nat) (w : World) (hn : n ≤ 9223372036854775807) (hd : 0 < d) (hd2 : d ≤ 9223372036854775807) :
  Calls Tryz.prog 52 #[.int .i64 n, .int .i64 d] w fun e w' => ∃ v er, e = .returned (.tuple #[v, .int .i64 er]) ∧ RedP w' v er n d ∧ Below w.heap.size w w' := by
 have hnl : n < 18446744073709551616 := by omega
 have hdl : d < 18446744073709551616 := by omega
 have HN := Lib.hid (b2 hnl); have HD := Lib.hid (b2 hdl); clear hnl hdl
 go_enter Tryz.func52, Tryz.ntmps52
 go_wp2_with fail; refine (rwhole_n n _ (by omega)).mono ?_; rintro e w1 ⟨A1, k1, c1, rfl, hn1, hb1⟩; go_wp2_with fail; refine (rwhole_n d _ (by omega)).mono ?_; rintro e w2 ⟨A2, k2, c2, rfl, hn2, hb2⟩; have hk1 := hn1.lek HN.out; have hk2 := hn2.lek HD.out; go_wp2_with fail; refine (rreduced_n _ _ _ _ _ _ n d _ (hn1.below hb2) hn2 (by omega) (by omega) hd).mono ?_; rintro e w3 ⟨v, er, rfl, hP, hb3⟩; obtain ⟨A, k, c, A', k', c', rfl⟩ := hP.shape; have hb123 := Below.tr hb1 (Below.tr hb2 hb3); have hres := Res.below (Res.new w) hb123; obtain ⟨r1, r2, r3, r4⟩ := hres.facts; obtain ⟨s1, s2⟩ := hres.set2 (.slice A k c) (.slice A' k' c'); have HP := Lib.hid (hP.map (fun A2 k2 c2 x h => (h.setSl (i := 0) hres.sl (.slice A k c)).setSl (i := 1) (hres.sl.set0 _ _ _) (.slice A' k' c'))); have hbw := Below.tr (bA w _) hb123; clear hP hb1 hb2 hb3 hb123; go_wp2_with fail; exact bodyPost_ret (v := .tuple #[.agg #[.slice A k c, .slice A' k' c'], .int .i64 er]) (by simp [results, Tryz.results52, go_sem, s1, s2]) rfl ⟨_, _, rfl, HP.out, below_set2 hbw (Nat.le_refl _) _ _⟩
theorem whole_n (n : Nat) (w : World) (hn : n < 18446744073709551616) :
  Calls Tryz.prog 68 #[.int .u64 n] w fun e w' => ∃ A k c, e = .returned (.slice A k c) ∧ Nb w' A k c n ∧ Below w.heap.size w w' := by
 refine (whole_any n w hn).mono ?_; rintro e w' ⟨A, k, rfl, hk, hl, hb⟩; exact ⟨A, k, k, rfl, ⟨hk, hl⟩, hb⟩
set_option maxRecDepth 10000 in
set_option maxHeartbeats 400000 in
theorem of_n (n d : Nat) (w : World) (hn : n ≤ 9223372036854775807) (hd : 0 < d) (hd2 : d ≤ 9223372036854775807) :
  Calls Tryz.prog 35 #[.int .i64 n, .int .i64 d] w fun e w' => ∃ v er, e = .returned (.tuple #[v, .int .i64 er]) ∧ RedP w' v er n d ∧ Below w.heap.size w w' := by
 have hnl : n < 18446744073709551616 := by omega
 have hdl : d < 18446744073709551616 := by omega
 have HN := Lib.hid (b2 hnl); have HD := Lib.hid (b2 hdl); clear hnl hdl
 go_enter Tryz.func35, Tryz.ntmps35
 go_wp2_with fail; refine (whole_n n _ (by omega)).mono ?_; rintro e w1 ⟨A1, k1, c1, rfl, hn1, hb1⟩; go_wp2_with fail; refine (whole_n d _ (by omega)).mono ?_; rintro e w2 ⟨A2, k2, c2, rfl, hn2, hb2⟩; have hk1 := hn1.lek HN.out; have hk2 := hn2.lek HD.out; go_wp2_with fail; refine (reduced_n _ _ _ _ _ _ n d _ (hn1.below hb2) hn2 (by omega) (by omega) hd).mono ?_; rintro e w3 ⟨v, er, rfl, hP, hb3⟩; obtain ⟨A, k, c, A', k', c', rfl⟩ := hP.shape; have hb123 := Below.tr hb1 (Below.tr hb2 hb3); have hres := Res.below (Res.new w) hb123; obtain ⟨r1, r2, r3, r4⟩ := hres.facts; obtain ⟨s1, s2⟩ := hres.set2 (.slice A k c) (.slice A' k' c'); have HP := Lib.hid (hP.map (fun A2 k2 c2 x h => (h.setSl (i := 0) hres.sl (.slice A k c)).setSl (i := 1) (hres.sl.set0 _ _ _) (.slice A' k' c'))); have hbw := Below.tr (bA w _) hb123; clear hP hb1 hb2 hb3 hb123; go_wp2_with fail; exact bodyPost_ret (v := .tuple #[.agg #[.slice A k c, .slice A' k' c'], .int .i64 er]) (by simp [results, Tryz.results35, go_sem, s1, s2]) rfl ⟨_, _, rfl, HP.out, below_set2 hbw (Nat.le_refl _) _ _⟩
end Go.Proofs.YtmbfjmilhfmnkaaGreatDoor
namespace Go.Proofs.YtmbfjmilhfmnkaaGreatDoor.Nm
open Go.Proofs.YtmbfjmilhfmnkaaGreatDoor
/-- the n-th power does not fit, or is at most the limit -/
def Stop (p q a b n : Nat) : Prop := ¬ Fits (p ^ n) (q ^ n) ∨ p ^ n * b ≤ a * q ^ n
/-- what Retries says of the bound p/q and the limit a/b -/
def RetP (p q a b : Nat) (x er : Int) : Prop :=
 (q < p ∧ x = 0 ∧ er = 5) ∨ (p ≤ q ∧ b ≤ a ∧ x = 0 ∧ er = 0) ∨ (p ≤ q ∧ a < b ∧ (p = q ∨ (a = 0 ∧ 0 < p)) ∧ x = 0 ∧ er = 6) ∨
 (p ≤ q ∧ a < b ∧ ¬ (p = q ∨ (a = 0 ∧ 0 < p)) ∧ ∃ n : Nat, 1 ≤ n ∧ (∀ m, 1 ≤ m → m < n → ¬ Stop p q a b m) ∧ ((¬ Fits (p ^ n) (q ^ n) ∧ x = 0 ∧ er = 4) ∨ (Fits (p ^ n) (q ^ n) ∧ p ^ n * b ≤ a * q ^ n ∧ x = (n : Int) ∧ er = 0)))
theorem RetP.uniq {p q a b : Nat} {x er y fr : Int} (h : RetP p q a b x er) (k : RetP p q a b y fr) : x = y ∧ er = fr := by
 rcases h with ⟨h1, h2, h3⟩ | ⟨h1, h2, h3, h4⟩ | ⟨h1, h2, h3, h4, h5⟩ | ⟨h1, h2, h3, n, hn1, hn2, hn3⟩ <;>
  rcases k with ⟨k1, k2, k3⟩ | ⟨k1, k2, k3, k4⟩ | ⟨k1, k2, k3, k4, k5⟩ | ⟨k1, k2, k3, m, hm1, hm2, hm3⟩ <;> first
  | omega
  | exact absurd h3 k3
  | exact absurd k3 h3
  | skip
 have sn : Stop p q a b n := by rcases hn3 with h | h; exact .inl h.1; exact .inr h.2.1
 have sm : Stop p q a b m := by rcases hm3 with h | h; exact .inl h.1; exact .inr h.2.1
 have e : n = m := by
  rcases Nat.lt_trichotomy n m with h | h | h
  ·exact absurd sn (hm2 n hn1 h)
  ·exact h
  ·exact absurd sm (hn2 m hm1 h)
 subst e
 rcases hn3 with ⟨a1, a2, a3⟩ | ⟨a1, a2, a3, a4⟩ <;> rcases hm3 with ⟨b1, b2, b3⟩ | ⟨b1, b2, b3, b4⟩
 ·exact ⟨by rw [a2, b2], by rw [a3, b3]⟩
 ·exact absurd b1 a1
 ·exact absurd a1 b1
 ·exact ⟨by rw [a3, b3], by rw [a4, b4]⟩
theorem Good.lt_of {p q : Nat} (h : Good p q) (hle : p ≤ q) (hne : p ≠ q) : p < q := by omega
theorem stop_ex {p q a b : Nat} (h : Good p q) (hle : p ≤ q) (hne : p ≠ q) : ∃ n, 1 ≤ n ∧ n ≤ 2048 ∧ Stop p q a b n := by
 rcases Nat.eq_zero_or_pos p with rfl | hp
 ·exact ⟨1, by omega, by omega, .inr (by simp)⟩
 ·obtain ⟨N, hN⟩ : ∃ N, N = 32 * 64 := ⟨_, rfl⟩; refine ⟨N, by omega, by omega, .inl fun hf => ?_⟩; have hq : 2 ≤ q := by omega
  have h1 : 2 ^ N ≤ q ^ N := Nat.pow_le_pow_left hq N; have h2 : B ^ 64 = 2 ^ N := by rw [hN]; exact B_pow 64
  have h3 := hf.2; have hB : 1 < B ^ 64 := Nat.one_lt_pow (by omega) (by unfold B; omega); rw [dn_ne (by intro e; rw [← h2, e] at h1; omega)] at h3; have h4 := lb_length_lt.1 h3; rw [h2] at h4; omega
theorem no_stop_le {p q a b n : Nat} (h : Good p q) (hle : p ≤ q) (hne : p ≠ q) (hs : ∀ m, 1 ≤ m → m < n → ¬ Stop p q a b m) : n ≤ 2048 := by
 obtain ⟨s, h1, h2, h3⟩ := stop_ex (a := a) (b := b) h hle hne
 rcases Nat.lt_or_ge s n with hlt | hge
 ·exact absurd h3 (hs s h1 hlt)
 ·omega
theorem Good.pow {p q : Nat} (h : Good p q) {n : Nat} (hf : Fits (p ^ n) (q ^ n)) : Good (p ^ n) (q ^ n) :=
 ⟨Nat.pow_pos h.pos, Nat.Coprime.pow n n h.gcd, hf⟩
theorem gcd_pow {p q : Nat} (h : Good p q) (n : Nat) : Nat.gcd (p ^ n * p) (q ^ n * q) = 1 := by
 rw [← Nat.pow_succ, ← Nat.pow_succ]; exact Nat.Coprime.pow _ _ h.gcd
theorem RetP.next {p q a b n : Nat} (hs : ∀ m, 1 ≤ m → m < n → ¬ Stop p q a b m) (hf : Fits (p ^ n) (q ^ n)) (hgt : a * q ^ n < p ^ n * b) : ∀ m, 1 ≤ m → m < n + 1 → ¬ Stop p q a b m := by
 intro m h1 h2
 rcases Nat.lt_or_ge m n with h3 | h3
 ·exact hs m h1 h3
 ·obtain rfl : m = n := by omega
  rintro (h | h)
  ·exact h hf
  ·omega
/-- what Retries says of two ratios of limbs, valid or not -/
def RetA (l1 l2 l3 l4 : List Nat) (x er : Int) : Prop :=
 (firstE (validE l1 l2) (validE l3 l4) ≠ 0 ∧ x = 0 ∧ er = firstE (validE l1 l2) (validE l3 l4)) ∨
 ∃ p q a b, l1 = lb p ∧ l2 = lb (dn q) ∧ Good p q ∧ l3 = lb a ∧ l4 = lb (dn b) ∧ Good a b ∧ RetP p q a b x er
theorem dn_inj {q r : Nat} (hq : 0 < q) (hr : 0 < r) (h : dn q = dn r) : q = r := by
 unfold dn at h; split at h <;> split at h <;> omega
theorem RetA.uniq {l1 l2 l3 l4 : List Nat} {x er y fr : Int} (h : RetA l1 l2 l3 l4 x er) (k : RetA l1 l2 l3 l4 y fr) : x = y ∧ er = fr := by
 rcases h with ⟨h1, h2, h3⟩ | ⟨p, q, a, b, e1, e2, g1, e3, e4, g2, hP⟩ <;> rcases k with ⟨k1, k2, k3⟩ | ⟨p', q', a', b', f1, f2, g1', f3, f4, g2', kP⟩
 ·exact ⟨by rw [h2, k2], by rw [h3, k3]⟩
 ·rw [f1, f2, f3, f4, validE_of g1', validE_of g2'] at h1; exact absurd rfl h1
 ·rw [e1, e2, e3, e4, validE_of g1, validE_of g2] at k1; exact absurd rfl k1
 ·have i1 : p = p' := lb_inj (e1.symm.trans f1); have i2 : q = q' := dn_inj g1.pos g1'.pos (lb_inj (e2.symm.trans f2)); have i3 : a = a' := lb_inj (e3.symm.trans f3); have i4 : b = b' := dn_inj g2.pos g2'.pos (lb_inj (e4.symm.trans f4)); subst i1; subst i2; subst i3; subst i4; exact hP.uniq kP
end Go.Proofs.YtmbfjmilhfmnkaaGreatDoor.Nm
