import Derived.Test.YtijkfagkbfbpmaaGreatDoorKTmProof08
import Derived.Test.YtijkfagkbfbpmaaGreatDoorS0
set_option linter.unusedVariables false
set_option linter.unusedSimpArgs false
namespace Go.Proofs.YtijkfagkbfbpmaaGreatDoor.Nm
theorem B_pow (k : Nat) : B ^ k = 2 ^ (32 * k) := by unfold B; rw [show (4294967296 : Nat) = 2 ^ 32 from rfl, ← Nat.pow_mul]
theorem pow_split (j : Nat) : (2 : Nat) ^ j = B ^ (j / 32) * 2 ^ (j % 32) := by rw [B_pow, ← Nat.pow_add]; congr 1; omega
theorem B_split {r : Nat} (h : r < 32) : ∃ t, B = 2 ^ (r + 1) * t ∧ 0 < t := by
 refine ⟨2 ^ (31 - r), ?_, Nat.pow_pos (by omega)⟩; rw [← Nat.pow_add, show r + 1 + (31 - r) = 32 by omega]; rfl
theorem nv_div (l : List Nat) (hl : Lim l) (k : Nat) : nv l / B ^ k = nv (l.drop k) := by
 have h := nv_split l k; have hp : 0 < B ^ k := Nat.pow_pos B_pos
 have h2 : nv (l.take k) < B ^ k := by
  refine Nat.lt_of_lt_of_le (nv_lt (hl.take k)) (Nat.pow_le_pow_right B_pos ?_); simp only [List.length_take]; exact Nat.min_le_left _ _
 rw [h, Nat.add_mul_div_left _ _ hp, Nat.div_eq_of_lt h2, Nat.zero_add]
theorem nv_bit {l : List Nat} (hl : Lim l) (j : Nat) : l.getD (j / 32) 0 / 2 ^ (j % 32) % 2 = nv l / 2 ^ j % 2 := by
 rw [pow_split j, ← Nat.div_div_eq_div_mul, nv_div l hl, nv_drop' l (j / 32)]; obtain ⟨t, ht, _⟩ := B_split (r := j % 32) (by omega); generalize nv (l.drop (j / 32 + 1)) = D; generalize l.getD (j / 32) 0 = a; rw [ht, Nat.pow_succ, Nat.mul_assoc (2 ^ (j % 32)), Nat.mul_assoc (2 ^ (j % 32)), Nat.add_mul_div_left _ _ (Nat.pow_pos (by omega)), Nat.mul_assoc, Nat.add_mul_mod_self_left]
/-- the state of the bitwise division: the bits from j up are done -/
def QuoR (out : List Nat) (k X Y j R : Nat) : Prop := out.length = k ∧ Lim out ∧ R < Y ∧ ∃ Q, nv out = Q * 2 ^ j ∧ X / 2 ^ j = Q * Y + R
theorem QuoR.start {k X Y : Nat} (hX : X < B ^ k) (hY : 0 < Y) : QuoR (List.replicate k 0) k X Y (32 * k) 0 :=
 ⟨by simp, fun x hx => by rw [(List.mem_replicate.1 hx).2]; exact B_pos, hY, 0, by simp [nv_replicate], by rw [← B_pow, Nat.div_eq_of_lt hX]; simp⟩
theorem half_step (X j : Nat) : X / 2 ^ j = 2 * (X / 2 ^ (j + 1)) + X / 2 ^ j % 2 := by
 rw [Nat.pow_succ, ← Nat.div_div_eq_div_mul]; omega
theorem QuoR.round {out : List Nat} {k X Y j R b : Nat} (h : QuoR out k X Y (j + 1) R) (hb : b = X / 2 ^ j % 2) (hlt : 2 * R + b < Y) : QuoR out k X Y j (2 * R + b) := by
 obtain ⟨h1, h2, h3, Q, h4, h5⟩ := h; refine ⟨h1, h2, hlt, 2 * Q, by rw [h4, Nat.pow_succ]; simp only [Nat.mul_comm, Nat.mul_left_comm, Nat.mul_assoc], ?_⟩; rw [half_step, h5, ← hb, Nat.mul_add, Nat.mul_assoc, Nat.add_assoc]
theorem QuoR.round1 {out : List Nat} {k X Y j R b o : Nat} (h : QuoR out k X Y (j + 1) R) (hb : b = X / 2 ^ j % 2) (hge : Y ≤ 2 * R + b) (hj : j < 32 * k) (ho : o = out.getD (j / 32) 0) :
  o % 2 ^ (j % 32 + 1) = 0 ∧ o + 2 ^ (j % 32) < B ∧ QuoR (out.set (j / 32) (o + 2 ^ (j % 32))) k X Y j (2 * R + b - Y) := by
 obtain ⟨h1, h2, h3, Q, h4, h5⟩ := h; have hob : o < B := by rw [ho]; exact h2.lt _
 have hd := nv_div out h2 (j / 32); rw [h4, Nat.pow_succ, pow_split j, nv_drop' out (j / 32), ← ho] at hd; obtain ⟨t, ht, ht0⟩ := B_split (r := j % 32) (by omega)
 have hz : o % 2 ^ (j % 32 + 1) = 0 := by
  have e : Q * (B ^ (j / 32) * 2 ^ (j % 32) * 2) = B ^ (j / 32) * (2 ^ (j % 32 + 1) * Q) := by
   rw [Nat.pow_succ]; simp only [Nat.mul_comm, Nat.mul_left_comm, Nat.mul_assoc]
  rw [e, Nat.mul_div_cancel_left _ (Nat.pow_pos B_pos)] at hd; have h6 : o = 2 ^ (j % 32 + 1) * Q - B * nv (out.drop (j / 32 + 1)) := by omega
  rw [h6, ht, Nat.mul_assoc, ← Nat.mul_sub, Nat.mul_mod_right]
 have hlt : o + 2 ^ (j % 32) < B := by
  obtain ⟨s, hs⟩ := Nat.dvd_of_mod_eq_zero hz; have hp : 0 < 2 ^ (j % 32) := Nat.pow_pos (by omega); rw [hs, ht] at hob ⊢; have hst : s < t := Nat.lt_of_mul_lt_mul_left hob; have : 2 ^ (j % 32 + 1) * (s + 1) ≤ 2 ^ (j % 32 + 1) * t := Nat.mul_le_mul_left _ hst; rw [Nat.mul_add, Nat.mul_one, Nat.pow_succ] at this; rw [Nat.pow_succ]; omega
 refine ⟨hz, hlt, ?_, ?_, ?_, 2 * Q + 1, ?_, ?_⟩
 ·simp [h1]
 ·intro x hx
  rcases List.mem_or_eq_of_mem_set hx with h | h
  ·exact h2 x h
  ·subst h; exact hlt
 ·have : b < 2 := by omega
  omega
 ·have hjl : j / 32 < out.length := by omega
  have hs := nv_set hjl (o + 2 ^ (j % 32)); rw [← ho, Nat.mul_add, ← pow_split, h4, Nat.pow_succ] at hs; rw [Nat.add_mul, Nat.one_mul]; have e : Q * (2 ^ j * 2) = 2 * Q * 2 ^ j := by simp only [Nat.mul_comm, Nat.mul_left_comm, Nat.mul_assoc]
  rw [e] at hs; omega
 ·have := half_step X j; rw [h5, ← hb, Nat.mul_add, ← Nat.mul_assoc] at this; rw [this, Nat.add_mul, Nat.one_mul]; omega
theorem QuoR.done {out : List Nat} {k X Y R : Nat} (h : QuoR out k X Y 0 R) : nv out = X / Y ∧ R = X % Y := by
 obtain ⟨h1, h2, h3, Q, h4, h5⟩ := h; rw [Nat.pow_zero, Nat.mul_one] at h4; rw [Nat.pow_zero, Nat.div_one] at h5; have hY : 0 < Y := by omega
 rw [h4, h5, Nat.mul_comm Q Y, Nat.mul_add_div hY, Nat.div_eq_of_lt h3, Nat.add_zero, Nat.mul_add_mod, Nat.mod_eq_of_lt h3]; exact ⟨rfl, rfl⟩
/-- the state of the binary greatest common divisor -/
def GcdR (g p q t : Nat) : Prop := 0 < p ∧ 2 ^ t * Nat.gcd p q = g
theorem GcdR.both {g p q t : Nat} (h : GcdR g p q t) (hp : p % 2 = 0) (hq : q % 2 = 0) : GcdR g (p / 2) (q / 2) (t + 1) := by
 obtain ⟨h0, h1⟩ := h; refine ⟨by omega, ?_⟩; rw [← h1, show Nat.gcd p q = Nat.gcd (2 * (p / 2)) (2 * (q / 2)) by congr 1 <;> omega, Nat.gcd_mul_left, Nat.pow_succ, Nat.mul_assoc]
theorem odd_cop {n : Nat} (h : n % 2 = 1) : Nat.Coprime 2 n := by
 unfold Nat.Coprime; rw [Nat.gcd_rec, h]; rfl
theorem GcdR.left {g p q t : Nat} (h : GcdR g p q t) (hp : p % 2 = 0) (hq : q % 2 = 1) : GcdR g (p / 2) q t := by
 obtain ⟨h0, h1⟩ := h; refine ⟨by omega, ?_⟩; rw [← h1]
 congr 1
 have := Nat.Coprime.gcd_mul_left_cancel (p / 2) (odd_cop hq); rw [← this]; congr 1; omega
theorem GcdR.right {g p q t : Nat} (h : GcdR g p q t) (hp : p % 2 = 1) (hq : q % 2 = 0) : GcdR g p (q / 2) t := by
 obtain ⟨h0, h1⟩ := h; refine ⟨h0, ?_⟩; rw [← h1]
 congr 1
 rw [Nat.gcd_comm, Nat.gcd_comm p q]; have := Nat.Coprime.gcd_mul_left_cancel (q / 2) (odd_cop hp); rw [← this]; congr 1; omega
theorem GcdR.sub {g p q t : Nat} (h : GcdR g p q t) (hle : p ≤ q) : GcdR g p (q - p) t := ⟨h.1, by rw [Nat.gcd_sub_self_right hle]; exact h.2⟩
theorem GcdR.swap {g p q t : Nat} (h : GcdR g p q t) (hq : 0 < q) : GcdR g q p t := ⟨hq, by rw [Nat.gcd_comm]; exact h.2⟩
theorem GcdR.done {g p t : Nat} (h : GcdR g p 0 t) : p * 2 ^ t = g := by have := h.2; rw [Nat.gcd_zero_right] at this; rw [Nat.mul_comm]; exact this
end Go.Proofs.YtijkfagkbfbpmaaGreatDoor.Nm
