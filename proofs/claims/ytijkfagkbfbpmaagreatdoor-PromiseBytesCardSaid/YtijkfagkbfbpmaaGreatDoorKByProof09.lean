import Derived.Test.YtijkfagkbfbpmaaGreatDoorKByProof08
import Derived.Deep.LoopGhost
import Derived.Deep.QuietTactic
import Derived.BigQuiet
import Derived.Test.YtijkfagkbfbpmaaGreatDoorS0
set_option linter.unusedVariables false
set_option linter.unusedSimpArgs false
namespace Go.Proofs.YtijkfagkbfbpmaaGreatDoor
open Go.RowKit
/-- the slice is the number n, without leading noughts -/
def Nb (w : World) (A : Option Addr) (k c n : Nat) : Prop := k = (Nm.lb n).length ∧ Lim w A c (Nm.lb n)
section
variable {w w' : World} {A : Option Addr} {k c n : Nat}
theorem Nb.below (h : Nb w A k c n) (hb : Below w.heap.size w w') : Nb w' A k c n := ⟨h.1, h.2.below hb⟩
theorem Nb.drew (h : Nb w A k c n) : Nb w.drew A k c n := h.below (bD w)
theorem Nb.drewN (h : Nb w A k c n) (q : Nat) : Nb (w.drewN q) A k c n := h.below (below_drewN w q)
theorem Nb.alloc (h : Nb w A k c n) (o : Obj) : Nb (w.alloc o) A k c n := h.below (bA w o)
theorem Nb.zero (w : World) : Nb w none 0 0 0 := ⟨rfl, fun h => absurd rfl h, Nat.le_refl _, by omega, fun _ h => (by cases h), fun _ => rfl⟩
theorem Nb.le (h : Nb w A k c n) : k ≤ 9223372036854775807 := by have := h.1; have := h.2.2.1; have := h.2.2.2.1; omega
theorem Nb.lek {A : Option Addr} (h : Nb w A k c n) {m : Nat} (hm : n < Nm.B ^ m) : k ≤ m := by rw [h.1]; exact Nm.lb_length_lt.2 hm
theorem Nb.lt (h : Nb w A k c n) : n < Nm.B ^ k := by rw [h.1]; exact Nm.lb_length_lt.1 (Nat.le_refl _)
theorem Own.nb {base : Nat} (h : Own w base A k c (Nm.lb n)) : Nb w A k c n := ⟨h.len, h.lim⟩
end
theorem rplus_n (A1 A2 : Option Addr) (c1 c2 k1 k2 a b : Nat) (w : World) (h1 : Nb w A1 k1 c1 a) (h2 : Nb w A2 k2 c2 b) (hl1 : k1 ≤ 1048576) (hl2 : k2 ≤ 1048576) :
  Calls Tryz.prog 152 #[.slice A1 k1 c1, .slice A2 k2 c2] w fun e w' => ∃ A k c, e = .returned (.slice A k c) ∧ Nb w' A k c (a + b) ∧ Below w.heap.size w w' := by
 refine (rplus_own A1 A2 c1 c2 k1 k2 _ _ w h1.2 h2.2 h1.1 h2.1 hl1 hl2).mono ?_; rintro e w' ⟨A, c, k, rfl, _, ho, hb⟩; rw [Nm.nv_lb, Nm.nv_lb] at ho; obtain ⟨e1, e2, _⟩ := own_lim2 ho.out (Nm.lim_lb _); exact ⟨A, k, c, rfl, ⟨e1, e2⟩, hb⟩
theorem rcompare_n (A1 A2 : Option Addr) (c1 c2 k1 k2 a b : Nat) (w : World) (h1 : Nb w A1 k1 c1 a) (h2 : Nb w A2 k2 c2 b) (hl1 : k1 ≤ 2097152) (hl2 : k2 ≤ 2097152) :
  Calls Tryz.prog 114 #[.slice A1 k1 c1, .slice A2 k2 c2] w fun e w' => e = .returned (.int .i64 (Nm.cmpN a b)) ∧ w = w' := by
 have := rcompare_any A1 A2 c1 c2 k1 k2 _ _ w h1.2 h2.2 h1.1 h2.1 hl1 hl2
 rwa [Nm.nv_lb, Nm.nv_lb] at this
theorem rwhole_n (n : Nat) (w : World) (hn : n < 9223372036854775808) :
  Calls Tryz.prog 113 #[.int .i64 n] w fun e w' => ∃ A k c, e = .returned (.slice A k c) ∧ Nb w' A k c n ∧ Below w.heap.size w w' := by
 refine (rwhole_any n _ w hn rfl).mono ?_; rintro e w' ⟨A, c, rfl, hl, hb⟩; exact ⟨A, _, c, rfl, ⟨rfl, hl⟩, hb⟩
end Go.Proofs.YtijkfagkbfbpmaaGreatDoor
namespace Go.Proofs.YtijkfagkbfbpmaaGreatDoor.Nm
theorem B_pow (k : Nat) : B ^ k = 2 ^ (32 * k) := by unfold B; rw [show (4294967296 : Nat) = 2 ^ 32 from rfl, ← Nat.pow_mul]
theorem pow_split (j : Nat) : (2 : Nat) ^ j = B ^ (j / 32) * 2 ^ (j % 32) := by rw [B_pow, ← Nat.pow_add]; congr 1; omega
theorem B_split {r : Nat} (h : r < 32) : ∃ t, B = 2 ^ (r + 1) * t ∧ 0 < t := by
 refine ⟨2 ^ (31 - r), ?_, Nat.pow_pos (by omega)⟩; rw [← Nat.pow_add, show r + 1 + (31 - r) = 32 by omega]; rfl
theorem nv_div (l : List Nat) (hl : Lim l) (k : Nat) : nv l / B ^ k = nv (l.drop k) := by
 have h := nv_split l k; have hp : 0 < B ^ k := Nat.pow_pos B_pos
 have h2 : nv (l.take k) < B ^ k := by
  refine Nat.lt_of_lt_of_le (nv_lt (hl.take k)) (Nat.pow_le_pow_right B_pos ?_); simp only [List.length_take]; exact Nat.min_le_left _ _
 rw [h, Nat.add_mul_div_left _ _ hp, Nat.div_eq_of_lt h2, Nat.zero_add]
theorem nv_bit {l : List Nat} (hl : Lim l) (j : Nat) : l.getD (j / 32) 0 / 2 ^ (j % 32) % 2 = nv l / 2 ^ j % 2 := by
 rw [pow_split j, ← Nat.div_div_eq_div_mul, nv_div l hl, nv_drop' l (j / 32)]; obtain ⟨t, ht, _⟩ := B_split (r := j % 32) (by omega); generalize nv (l.drop (j / 32 + 1)) = D; generalize l.getD (j / 32) 0 = a; rw [ht, Nat.pow_succ, Nat.mul_assoc (2 ^ (j % 32)), Nat.mul_assoc (2 ^ (j % 32)), Nat.add_mul_div_left _ _ (Nat.pow_pos (by omega)), Nat.mul_assoc, Nat.add_mul_mod_self_left]
/-- the state of the bitwise division: the bits from j up are done -/
def QuoR (out : List Nat) (k X Y j R : Nat) : Prop := out.length = k ∧ Lim out ∧ R < Y ∧ ∃ Q, nv out = Q * 2 ^ j ∧ X / 2 ^ j = Q * Y + R
theorem QuoR.start {k X Y : Nat} (hX : X < B ^ k) (hY : 0 < Y) : QuoR (List.replicate k 0) k X Y (32 * k) 0 :=
 ⟨by simp, fun x hx => by rw [(List.mem_replicate.1 hx).2]; exact B_pos, hY, 0, by simp [nv_replicate], by rw [← B_pow, Nat.div_eq_of_lt hX]; simp⟩
theorem half_step (X j : Nat) : X / 2 ^ j = 2 * (X / 2 ^ (j + 1)) + X / 2 ^ j % 2 := by
 rw [Nat.pow_succ, ← Nat.div_div_eq_div_mul]; omega
theorem QuoR.round {out : List Nat} {k X Y j R b : Nat} (h : QuoR out k X Y (j + 1) R) (hb : b = X / 2 ^ j % 2) (hlt : 2 * R + b < Y) : QuoR out k X Y j (2 * R + b) := by
 obtain ⟨h1, h2, h3, Q, h4, h5⟩ := h; refine ⟨h1, h2, hlt, 2 * Q, by rw [h4, Nat.pow_succ]; simp only [Nat.mul_comm, Nat.mul_left_comm, Nat.mul_assoc], ?_⟩; rw [half_step, h5, ← hb, Nat.mul_add, Nat.mul_assoc, Nat.add_assoc]
theorem QuoR.round1 {out : List Nat} {k X Y j R b o : Nat} (h : QuoR out k X Y (j + 1) R) (hb : b = X / 2 ^ j % 2) (hge : Y ≤ 2 * R + b) (hj : j < 32 * k) (ho : o = out.getD (j / 32) 0) :
  o % 2 ^ (j % 32 + 1) = 0 ∧ o + 2 ^ (j % 32) < B ∧ QuoR (out.set (j / 32) (o + 2 ^ (j % 32))) k X Y j (2 * R + b - Y) := by
 obtain ⟨h1, h2, h3, Q, h4, h5⟩ := h; have hob : o < B := by rw [ho]; exact h2.lt _
 have hd := nv_div out h2 (j / 32); rw [h4, Nat.pow_succ, pow_split j, nv_drop' out (j / 32), ← ho] at hd; obtain ⟨t, ht, ht0⟩ := B_split (r := j % 32) (by omega)
 have hz : o % 2 ^ (j % 32 + 1) = 0 := by
  have e : Q * (B ^ (j / 32) * 2 ^ (j % 32) * 2) = B ^ (j / 32) * (2 ^ (j % 32 + 1) * Q) := by
   rw [Nat.pow_succ]; simp only [Nat.mul_comm, Nat.mul_left_comm, Nat.mul_assoc]
  rw [e, Nat.mul_div_cancel_left _ (Nat.pow_pos B_pos)] at hd; have h6 : o = 2 ^ (j % 32 + 1) * Q - B * nv (out.drop (j / 32 + 1)) := by omega
  rw [h6, ht, Nat.mul_assoc, ← Nat.mul_sub, Nat.mul_mod_right]
 have hlt : o + 2 ^ (j % 32) < B := by
  obtain ⟨s, hs⟩ := Nat.dvd_of_mod_eq_zero hz; have hp : 0 < 2 ^ (j % 32) := Nat.pow_pos (by omega); rw [hs, ht] at hob ⊢; have hst : s < t := Nat.lt_of_mul_lt_mul_left hob; have : 2 ^ (j % 32 + 1) * (s + 1) ≤ 2 ^ (j % 32 + 1) * t := Nat.mul_le_mul_left _ hst; rw [Nat.mul_add, Nat.mul_one, Nat.pow_succ] at this; rw [Nat.pow_succ]; omega
 refine ⟨hz, hlt, ?_, ?_, ?_, 2 * Q + 1, ?_, ?_⟩
 ·simp [h1]
 ·intro x hx
  rcases List.mem_or_eq_of_mem_set hx with h | h
  ·exact h2 x h
  ·subst h; exact hlt
 ·have : b < 2 := by omega
  omega
 ·have hjl : j / 32 < out.length := by omega
  have hs := nv_set hjl (o + 2 ^ (j % 32)); rw [← ho, Nat.mul_add, ← pow_split, h4, Nat.pow_succ] at hs; rw [Nat.add_mul, Nat.one_mul]; have e : Q * (2 ^ j * 2) = 2 * Q * 2 ^ j := by simp only [Nat.mul_comm, Nat.mul_left_comm, Nat.mul_assoc]
  rw [e] at hs; omega
 ·have := half_step X j; rw [h5, ← hb, Nat.mul_add, ← Nat.mul_assoc] at this; rw [this, Nat.add_mul, Nat.one_mul]; omega
theorem QuoR.done {out : List Nat} {k X Y R : Nat} (h : QuoR out k X Y 0 R) : nv out = X / Y ∧ R = X % Y := by
 obtain ⟨h1, h2, h3, Q, h4, h5⟩ := h; rw [Nat.pow_zero, Nat.mul_one] at h4; rw [Nat.pow_zero, Nat.div_one] at h5; have hY : 0 < Y := by omega
 rw [h4, h5, Nat.mul_comm Q Y, Nat.mul_add_div hY, Nat.div_eq_of_lt h3, Nat.add_zero, Nat.mul_add_mod, Nat.mod_eq_of_lt h3]; exact ⟨rfl, rfl⟩
/-- the state of the binary greatest common divisor -/
def GcdR (g p q t : Nat) : Prop := 0 < p ∧ 2 ^ t * Nat.gcd p q = g
theorem GcdR.both {g p q t : Nat} (h : GcdR g p q t) (hp : p % 2 = 0) (hq : q % 2 = 0) : GcdR g (p / 2) (q / 2) (t + 1) := by
 obtain ⟨h0, h1⟩ := h; refine ⟨by omega, ?_⟩; rw [← h1, show Nat.gcd p q = Nat.gcd (2 * (p / 2)) (2 * (q / 2)) by congr 1 <;> omega, Nat.gcd_mul_left, Nat.pow_succ, Nat.mul_assoc]
theorem odd_cop {n : Nat} (h : n % 2 = 1) : Nat.Coprime 2 n := by
 unfold Nat.Coprime; rw [Nat.gcd_rec, h]; rfl
theorem GcdR.left {g p q t : Nat} (h : GcdR g p q t) (hp : p % 2 = 0) (hq : q % 2 = 1) : GcdR g (p / 2) q t := by
 obtain ⟨h0, h1⟩ := h; refine ⟨by omega, ?_⟩; rw [← h1]
 congr 1
 have := Nat.Coprime.gcd_mul_left_cancel (p / 2) (odd_cop hq); rw [← this]; congr 1; omega
theorem GcdR.right {g p q t : Nat} (h : GcdR g p q t) (hp : p % 2 = 1) (hq : q % 2 = 0) : GcdR g p (q / 2) t := by
 obtain ⟨h0, h1⟩ := h; refine ⟨h0, ?_⟩; rw [← h1]
 congr 1
 rw [Nat.gcd_comm, Nat.gcd_comm p q]; have := Nat.Coprime.gcd_mul_left_cancel (q / 2) (odd_cop hp); rw [← this]; congr 1; omega
theorem GcdR.sub {g p q t : Nat} (h : GcdR g p q t) (hle : p ≤ q) : GcdR g p (q - p) t := ⟨h.1, by rw [Nat.gcd_sub_self_right hle]; exact h.2⟩
theorem GcdR.swap {g p q t : Nat} (h : GcdR g p q t) (hq : 0 < q) : GcdR g q p t := ⟨hq, by rw [Nat.gcd_comm]; exact h.2⟩
theorem GcdR.done {g p t : Nat} (h : GcdR g p 0 t) : p * 2 ^ t = g := by have := h.2; rw [Nat.gcd_zero_right] at this; rw [Nat.mul_comm]; exact this
end Go.Proofs.YtijkfagkbfbpmaaGreatDoor.Nm
namespace Go.Proofs.YtijkfagkbfbpmaaGreatDoor
open Go.RowKit
/-- the slice lies in a block from g on -/
def From (g : Nat) (A : Option Addr) : Prop := ∀ b off, A = some ⟨b, off, none⟩ → g ≤ b
theorem Nb.setFar {w : World} {A : Option Addr} {k c n g i : Nat} (h : Nb w A k c n) (hf : From (g + 1) A) (u : Value) : Nb (w.setCell ⟨g, i, none⟩ u) A k c n :=
 ⟨h.1, h.2.only (only_set w i u) (fun b off hA => by have := hf b off hA; omega)⟩
theorem rplus_f (A1 A2 : Option Addr) (c1 c2 k1 k2 a b : Nat) (w : World) (h1 : Nb w A1 k1 c1 a) (h2 : Nb w A2 k2 c2 b) (hl1 : k1 ≤ 1048576) (hl2 : k2 ≤ 1048576) :
  Calls Tryz.prog 152 #[.slice A1 k1 c1, .slice A2 k2 c2] w fun e w' => ∃ A k c, e = .returned (.slice A k c) ∧ Nb w' A k c (a + b) ∧ From w.heap.size A ∧ Below w.heap.size w w' := by
 refine (rplus_own A1 A2 c1 c2 k1 k2 _ _ w h1.2 h2.2 h1.1 h2.1 hl1 hl2).mono ?_; rintro e w' ⟨A, c, k, rfl, _, ho, hb⟩; rw [Nm.nv_lb, Nm.nv_lb] at ho; obtain ⟨e1, e2, e3⟩ := own_lim2 ho.out (Nm.lim_lb _); exact ⟨A, k, c, rfl, ⟨e1, e2⟩, e3, hb⟩
theorem rminus_f (A1 A2 : Option Addr) (c1 c2 k1 k2 a b : Nat) (w : World) (h1 : Nb w A1 k1 c1 a) (h2 : Nb w A2 k2 c2 b) (hl1 : k1 ≤ 1048576) (hl2 : k2 ≤ 1048576) (hle : b ≤ a) :
  Calls Tryz.prog 178 #[.slice A1 k1 c1, .slice A2 k2 c2] w fun e w' => ∃ A k c, e = .returned (.slice A k c) ∧ Nb w' A k c (a - b) ∧ From w.heap.size A ∧ Below w.heap.size w w' := by
 refine (rminus_own A1 A2 c1 c2 k1 k2 _ _ w h1.2 h2.2 h1.1 h2.1 hl1 hl2 (by rw [Nm.nv_lb, Nm.nv_lb]; exact hle)).mono ?_; rintro e w' ⟨A, c, k, rfl, _, ho, hb⟩; rw [Nm.nv_lb, Nm.nv_lb] at ho; obtain ⟨e1, e2, e3⟩ := own_lim2 ho.out (Nm.lim_lb _); exact ⟨A, k, c, rfl, ⟨e1, e2⟩, e3, hb⟩
theorem rtrim_f (A : Option Addr) (c k : Nat) (l : List Nat) (w : World) (hr : Lim w A c l) (hk : k = l.length) (hl : k ≤ 2097152) :
  Calls Tryz.prog 109 #[.slice A k c] w fun e w' => ∃ A' k' c', e = .returned (.slice A' k' c') ∧ Nb w' A' k' c' (Nm.nv l) ∧ From w.heap.size A' ∧ Below w.heap.size w w' := by
 refine (rtrim_own A c k l w hr hk hl).mono ?_; rintro e w' ⟨A', c', k', rfl, hk, ho, hb⟩; obtain ⟨e1, e2, e3⟩ := own_lim2 ho.out (Nm.lim_lb _); exact ⟨A', k', c', rfl, ⟨e1, e2⟩, e3, hb⟩
theorem Nm_dbl {R Y k b : Nat} (h : R < Y) (hY : Y < Nm.B ^ k) (hb : b ≤ 1) : 2 * R + b < Nm.B ^ (k + 1) := by
 rw [Nat.pow_succ]; have : Nm.B ^ k * 2 ≤ Nm.B ^ k * Nm.B := Nat.mul_le_mul_left _ (by unfold Nm.B; omega); generalize Nm.B ^ k = P at *; generalize P * Nm.B = Q at *; omega
theorem bit_val (a r : Nat) (ha : a < 4294967296) : bits .and .u32 ((a : Int) / 2 ^ r) 1 = ((a / 2 ^ r % 2 : Nat) : Int) := by
 have e1 : (a : Int) / 2 ^ r = ((a / 2 ^ r : Nat) : Int) := by rw [Int.natCast_ediv, Int.natCast_pow]; rfl
 have e2 : a / 2 ^ r < 4294967296 := Nat.lt_of_le_of_lt (Nat.div_le_self _ _) ha; rw [e1, show (1 : Int) = ((1 : Nat) : Int) from rfl, u32_and_nat _ _ e2 (by omega), Nat.and_one_is_mod]
theorem bit_or (o r : Nat) (hz : o % 2 ^ (r + 1) = 0) (hlt : o + 2 ^ r < Nm.B) : bits .or .u32 (o : Int) ((2 : Int) ^ r % 4294967296) = ((o + 2 ^ r : Nat) : Int) := by
 have hlt' : o + 2 ^ r < 4294967296 := hlt; have hp : 2 ^ r < 2 ^ (r + 1) := Nat.pow_lt_pow_right (by omega) (by omega)
 have e1 : (2 : Int) ^ r % 4294967296 = ((2 ^ r : Nat) : Int) := by
  have : (2 : Int) ^ r = ((2 ^ r : Nat) : Int) := by rw [Int.natCast_pow]; rfl
  rw [this]; generalize 2 ^ r = q at *; omega
 rw [e1, u32_or_nat _ _ (by omega) (by omega), nat_join (r + 1) _ _ hz hp]
set_option maxRecDepth 10000 in
set_option maxHeartbeats 2000000 in
theorem quotient_n (A1 A2 : Option Addr) (c1 c2 k1 k2 x y : Nat) (w : World) (h1 : Nb w A1 k1 c1 x) (h2 : Nb w A2 k2 c2 y) (hl1 : k1 ≤ 65536) (hl2 : k2 ≤ 65536) (hy : 0 < y) :
  Calls Tryz.prog 153 #[.slice A1 k1 c1, .slice A2 k2 c2] w fun e w' => ∃ A k c A' k' c', e = .returned (.tuple #[.slice A k c, .slice A' k' c']) ∧ Nb w' A k c (x / y) ∧ Nb w' A' k' c' (x % y) ∧ From w.heap.size A ∧ From w.heap.size A' ∧ Below w.heap.size w w' := by
 have hmk := run_make32 (↑k1) k1 rfl (by omega); have HQ0 : Hid (Nm.QuoR (List.replicate k1 0) k1 x y (32 * k1) 0) := Nm.QuoR.start h1.lt hy; have E1 := Lib.hid h1.1; have h1l := h1.2
 go_enter Tryz.func153, Tryz.ntmps153
 go_wp2
 go_loopg [7, 8] (32 * k1) (fun j r a wr => ∃ (R k c : Nat) (A : Option Addr) (out : List Nat), r = .slice A k c ∧ a = .int .i64 ((j : Int) - 1) ∧ j ≤ 32 * k1 ∧ Nb wr A k c R ∧ Row wr w.heap.size out ∧ Hid (Nm.QuoR out k1 x y j R) ∧ Below w.heap.size w wr ∧ From (w.heap.size + 1) A)
 case atStart => exact ⟨0, 0, 0, none, _, rfl, by congr 1, by omega, Nb.zero _, Row.new w k1, HQ0, bA w _, fun _ _ h => by cases h⟩
 case round =>
  obtain ⟨R, k, c, A, out, rfl, rfl, hj, hR, hrow, HQ, hb, hF⟩ := hrel
  rcases gk with _ | j
  ·have hlen := HQ.out.1; have hout := hrow.lim (c := k1) (by omega) (by omega); have HQD := Lib.hid HQ.out.done; have HLN := Lib.hid hlen.symm; clear hlen; go_wp2_with fail; refine (rtrim_f _ _ _ out _ hout HLN.out (by omega)).mono ?_; rintro e w' ⟨A', k', c', rfl, hnb, hfr, hb'⟩; go_wp2_with fail
   go_ret2
   have e1 := HQD.out.1; have e2 := HQD.out.2; rw [e1] at hnb; rw [e2] at hR; exact ⟨A', k', c', A, k, c, rfl, hnb, hR.below hb', fun b off hA => Nat.le_trans hb.size (hfr b off hA), fun b off hA => by have := hF b off hA; omega, Below.tr hb hb'⟩
  ·have hx := h1l.below hb; obtain ⟨b, off, a, rfl, hca, ha, HA⟩ := hx.get (k := j / 32) (by have := E1.out; omega); have t1 : ((j : Int) / 32).toNat = j / 32 := by omega
   have t2 : (0 : Int) ≤ (j : Int) / 32 := by omega
   have t3 : (j : Int) / 32 < (k1 : Int) := by omega
   have hRl : k ≤ 65536 := by
    have h3 := HQ.out.2.2.1; have : R < Nm.B ^ k2 := Nat.lt_trans h3 h2.lt; have := hR.lek this; omega
   obtain ⟨bt, HBT⟩ : ∃ bt, Hid (bt = x / 2 ^ j % 2) := ⟨_, rfl⟩; have hbt : bt ≤ 1 := by have := HBT.out; omega
   have tb : bits .and .u32 ((a : Int) / 2 ^ (j % 32)) 1 = (bt : Int) := by
    rw [bit_val a _ ha, HA.out, HBT.out, Nm.nv_bit (Nm.lim_lb x), Nm.nv_lb]
   go_wp2_with fail; refine (rplus_n _ _ _ _ _ _ R R _ hR hR (by omega) (by omega)).mono ?_; rintro e w1 ⟨A3, k3, c3, rfl, hR3, hb3⟩; clear tb; go_wp2_with fail; refine (rwhole_n bt _ (by omega)).mono ?_; rintro e w2 ⟨A4, k4, c4, rfl, hb4, hbe4⟩; have hk3 : k3 ≤ k2 + 1 := hR3.lek (by have := Nm_dbl (b := 0) HQ.out.2.2.1 h2.lt (by omega); rwa [show R + R = 2 * R + 0 by omega]); have hk4 : k4 ≤ 1 := hb4.lek (by unfold Nm.B; omega); go_wp2_with fail; refine (rplus_f _ _ _ _ _ _ (R + R) bt _ (hR3.below hbe4) hb4 (by omega) (by omega)).mono ?_; rintro e w3 ⟨A5, k5, c5, rfl, hR5, hF5, hb5⟩
   have hgw : w.heap.size + 1 ≤ w2.heap.size := by
    have h1 : w.heap.size < wr.heap.size := hrow.1.lt; have h2 := hb3.size; have h3 := hbe4.size; omega
   have hG5 : From (w.heap.size + 1) A5 := fun b off hA => Nat.le_trans hgw (hF5 b off hA)
   obtain ⟨R5, HR5⟩ : ∃ R5, Hid (R5 = 2 * R + bt) := ⟨_, rfl⟩; have e5 : R + R + bt = R5 := by rw [HR5.out]; omega
   rw [e5] at hR5; have hk5 : k5 ≤ k2 + 1 := hR5.lek (by rw [HR5.out]; exact Nm_dbl HQ.out.2.2.1 h2.lt hbt); have hB5 := Below.tr hb (Below.tr hb3 (Below.tr hbe4 hb5)); go_wp2_with fail; by_cases hge : y ≤ R5
   ·have HC : ∃ c : Int, 0 ≤ c ∧ Hid (Nm.cmpN R5 y = c) := by
     by_cases h : R5 = y
     ·exact ⟨0, by omega, Nm.cmpN_eq h⟩
     ·exact ⟨1, by omega, Nm.cmpN_gt (by omega)⟩
    obtain ⟨cc, hcc, HC⟩ := HC; refine (rcompare_n _ _ _ _ _ _ R5 y _ hR5 (h2.below hB5) (by omega) (by omega)).mono ?_; rw [HC.out]; rintro e w' ⟨rfl, rfl⟩; go_wp2_with fail; refine (rminus_f _ _ _ _ _ _ R5 y _ hR5 (h2.below hB5) (by omega) (by omega) hge).mono ?_; rintro e w4 ⟨A6, k6, c6, rfl, hR6, hF6, hb6⟩; have hG6 : From (w.heap.size + 1) A6 := fun b off hA => Nat.le_trans (Nat.le_trans hgw hb5.size) (hF6 b off hA)
    have hB6 := Below.tr hB5 hb6; have hrow6 := hrow.below (Below.tr hb3 (Below.tr hbe4 (Below.tr hb5 hb6))); obtain ⟨o, hco, hfo, hoo, HO⟩ := hrow6.get (k := j / 32) (by have := HQ.out.1; omega); obtain ⟨hz, hlt, hQ1⟩ := HQ.out.round1 HBT.out (by rw [← HR5.out]; exact hge) (by omega) HO.out; rw [← HR5.out] at hQ1; have HQ1 := Lib.hid hQ1; clear hQ1 hR5 hb3 hbe4 hb5 hb6; go_wp2_with fail
    go_roundg j
    case measure => omega
    case rel =>
     rw [bit_or o _ hz hlt]; exact ⟨R5 - y, k6, c6, A6, _, rfl, rfl, by omega, hR6.setFar hG6 _, hrow6.set_ _ _ hlt, HQ1, hB6.setCell (Nat.le_refl _) _, hG6⟩
   ·have HC : Hid (Nm.cmpN R5 y = -1) := Nm.cmpN_lt (by omega); have hQ1 := HQ.out.round HBT.out (by rw [← HR5.out]; omega); rw [← HR5.out] at hQ1; have HQ1 := Lib.hid hQ1; have hrow5 := hrow.below (Below.tr hb3 (Below.tr hbe4 hb5)); refine (rcompare_n _ _ _ _ _ _ R5 y _ hR5 (h2.below hB5) (by omega) (by omega)).mono ?_; rw [HC.out]; rintro e w' ⟨rfl, rfl⟩; clear hQ1; go_wp2_with fail
    go_roundg j
    case measure => omega
    case rel => exact ⟨R5, k5, c5, A5, out, rfl, rfl, by omega, hR5, hrow5, HQ1, hB5, hG5⟩
end Go.Proofs.YtijkfagkbfbpmaaGreatDoor
