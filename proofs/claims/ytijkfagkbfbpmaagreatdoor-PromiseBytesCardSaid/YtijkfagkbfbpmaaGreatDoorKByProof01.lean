
import Derived.Test.YtijkfagkbfbpmaaGreatDoorS0
set_option linter.unusedVariables false
set_option linter.unusedSimpArgs false
namespace Go.Proofs.YtijkfagkbfbpmaaGreatDoor.Nm
/-- the base of a limb -/
def B : Nat := 4294967296
theorem B_pos : 0 < B := by unfold B; omega
/-- the number of a list of limbs -/
def nv : List Nat → Nat
 | [] => 0
 | x :: xs => x + B * nv xs
/-- each element is a limb -/
def Lim (l : List Nat) : Prop := ∀ x ∈ l, x < B
/-- the limbs of a number, by fuel -/
def lbF : Nat → Nat → List Nat
 | 0, _ => []
 | f + 1, n => if n = 0 then [] else (n % B) :: lbF f (n / B)
def lb (n : Nat) : List Nat := lbF n n

theorem lbF_zero (f : Nat) : lbF f 0 = [] := by cases f <;> rfl
theorem div_B_lt {n : Nat} (h : n ≠ 0) : n / B < n := Nat.div_lt_self (Nat.pos_of_ne_zero h) (by unfold B; omega)
theorem lbF_fuel : ∀ (f g n : Nat), n ≤ f → n ≤ g → lbF f n = lbF g n := by
 intro f
 induction f with
 | zero =>
  intro g n h _; have : n = 0 := by omega
  subst this; rw [lbF_zero, lbF_zero]
 | succ f ih =>
  intro g n hf hg; by_cases h : n = 0
  ·subst h; rw [lbF_zero, lbF_zero]
  ·cases g with
   | zero => omega
   | succ g =>
    have := div_B_lt h; simp only [lbF, if_neg h]; rw [ih g (n / B) (by omega) (by omega)]
theorem lb_zero : lb 0 = [] := rfl
theorem lb_pos {n : Nat} (h : n ≠ 0) : lb n = (n % B) :: lb (n / B) := by
 have hd := div_B_lt h; unfold lb
 cases n with
 | zero => exact absurd rfl h
 | succ n =>
  simp only [lbF, if_neg h]; rw [lbF_fuel n ((n + 1) / B) ((n + 1) / B) (by omega) (Nat.le_refl _)]
theorem nv_lb (n : Nat) : nv (lb n) = n := by
 induction n using Nat.strongRecOn with
 | ind n ih =>
  by_cases h : n = 0
  ·subst h; rfl
  ·rw [lb_pos h, nv, ih _ (div_B_lt h)]; exact Nat.mod_add_div n B
theorem lim_lb (n : Nat) : Lim (lb n) := by
 induction n using Nat.strongRecOn with
 | ind n ih =>
  by_cases h : n = 0
  ·subst h; intro x hx; simp [lb_zero] at hx
  ·rw [lb_pos h]; intro x hx
   rcases List.mem_cons.1 hx with rfl | hx
   ·exact Nat.mod_lt _ B_pos
   ·exact ih _ (div_B_lt h) x hx
/-- no leading nought -/
def Proper (l : List Nat) : Prop := ∀ h : l ≠ [], l.getLast h ≠ 0
theorem Proper.tail {x : Nat} {xs : List Nat} (h : Proper (x :: xs)) : Proper xs := by
 intro hne; have := h (by simp)
 rwa [List.getLast_cons hne] at this
theorem Lim.tail {x : Nat} {xs : List Nat} (h : Lim (x :: xs)) : Lim xs := fun y hy => h y (List.mem_cons_of_mem _ hy)
theorem nv_pos {l : List Nat} (hp : Proper l) (h : l ≠ []) : 0 < nv l := by
 induction l with
 | nil => exact absurd rfl h
 | cons x xs ih =>
  by_cases hx : xs = []
  ·subst hx; have := hp (by simp); simp at this; simp [nv]; omega
  ·have := ih hp.tail hx; have h2 : 0 < B * nv xs := Nat.mul_pos B_pos this; simp only [nv]; omega
theorem lb_nv {l : List Nat} (hl : Lim l) (hp : Proper l) : lb (nv l) = l := by
 induction l with
 | nil => rfl
 | cons x xs ih =>
  have hx : x < B := hl x (by simp); have hpos := nv_pos hp (by simp); rw [lb_pos (by omega)]; have e1 : nv (x :: xs) % B = x := by simp only [nv]; rw [Nat.add_mul_mod_self_left]; exact Nat.mod_eq_of_lt hx
  have e2 : nv (x :: xs) / B = nv xs := by
   simp only [nv]; rw [Nat.add_mul_div_left _ _ B_pos, Nat.div_eq_of_lt hx]; omega
  rw [e1, e2, ih hl.tail hp.tail]
theorem proper_lb (n : Nat) : Proper (lb n) := by
 induction n using Nat.strongRecOn with
 | ind n ih =>
  by_cases h : n = 0
  ·subst h; intro hne; exact absurd rfl hne
  ·have hi := ih _ (div_B_lt h); intro hne; by_cases h2 : n / B = 0
   ·have hlt : n < B := by
     rcases Nat.lt_or_ge n B with h3 | h3
     ·exact h3
     ·have := Nat.div_pos h3 B_pos; omega
    simp only [lb_pos h, h2, lb_zero, List.getLast_singleton, Nat.mod_eq_of_lt hlt]; exact h
   ·have hne2 : lb (n / B) ≠ [] := by rw [lb_pos h2]; simp
    simp only [lb_pos h]; rw [List.getLast_cons hne2]; exact hi hne2
theorem nv_append (a b : List Nat) : nv (a ++ b) = nv a + B ^ a.length * nv b := by
 induction a with
 | nil => simp [nv]
 | cons x xs ih => simp only [List.cons_append, nv, ih, List.length_cons, Nat.pow_succ, Nat.mul_add]; rw [Nat.mul_comm (B ^ xs.length) B, Nat.mul_assoc]; omega
theorem nv_lt {l : List Nat} (hl : Lim l) : nv l < B ^ l.length := by
 induction l with
 | nil => simp [nv]
 | cons x xs ih =>
  have hx : x < B := hl x (by simp); have := ih hl.tail; have h3 : B * (nv xs + 1) ≤ B * B ^ xs.length := Nat.mul_le_mul_left _ this; simp only [nv, List.length_cons, Nat.pow_succ]; rw [Nat.mul_comm (B ^ xs.length) B]; rw [Nat.mul_add] at h3; omega
theorem nv_replicate (n : Nat) : nv (List.replicate n 0) = 0 := by
 induction n with
 | zero => rfl
 | succ n ih => simp [List.replicate_succ, nv, ih]
theorem nv_snoc (a : List Nat) (x : Nat) : nv (a ++ [x]) = nv a + B ^ a.length * x := by rw [nv_append]; simp [nv]
theorem lb_length_lt {n k : Nat} : (lb n).length ≤ k ↔ n < B ^ k := by
 induction k generalizing n with
 | zero =>
  by_cases h : n = 0
  ·subst h; simp [lb_zero]
  ·rw [lb_pos h]; simp; exact h
 | succ k ih =>
  by_cases h : n = 0
  ·subst h; simp [lb_zero]; exact Nat.pow_pos B_pos
  ·rw [lb_pos h, List.length_cons, Nat.succ_le_succ_iff, ih, Nat.pow_succ, Nat.div_lt_iff_lt_mul B_pos]
theorem lb_length_le_of_lt {n m : Nat} (h : n ≤ m) : (lb n).length ≤ (lb m).length := by
 rw [lb_length_lt]; exact Nat.lt_of_le_of_lt h (lb_length_lt.1 (Nat.le_refl _))
theorem pow_le_of_length {n k : Nat} (h : k < (lb n).length) : B ^ k ≤ n := by
 rcases Nat.lt_or_ge n (B ^ k) with h2 | h2
 ·have := lb_length_lt.2 h2; omega
 ·exact h2
theorem lb_nil_iff {n : Nat} : lb n = [] ↔ n = 0 := by
 constructor
 ·intro h
  rcases Nat.eq_zero_or_pos n with h2 | h2
  ·exact h2
  ·rw [lb_pos (by omega)] at h; simp at h
 ·rintro rfl; rfl
theorem lb_one : lb 1 = [1] := by rw [lb_pos (by omega)]; simp [B, lb_zero]
theorem lb_inj {n m : Nat} (h : lb n = lb m) : n = m := by rw [← nv_lb n, h, nv_lb]
theorem lb_small {n : Nat} (h : n ≠ 0) (h2 : n < B) : lb n = [n] := by
 rw [lb_pos h, Nat.mod_eq_of_lt h2, Nat.div_eq_of_lt h2, lb_zero]
/-- what 'trim' leaves -/
theorem nv_trim {l : List Nat} {n : Nat} (h : ∀ k (hk : k < l.length), n ≤ k → l[k] = 0) : nv (l.take n) = nv l := by
 have e : l = l.take n ++ l.drop n := (List.take_append_drop n l).symm
 have hz : l.drop n = List.replicate (l.drop n).length 0 := by
  apply List.ext_getElem (by simp)
  intro i h1 h2; simp only [List.getElem_replicate, List.getElem_drop]; exact h _ _ (by omega)
 conv => rhs; rw [e, nv_append, hz, nv_replicate]
 omega
theorem take_proper {l : List Nat} {n : Nat} (hn : n ≤ l.length) (h : ∀ h : 0 < n, l[n - 1] ≠ 0) : Proper (l.take n) := by
 intro hne
 have h0 : 0 < n := by
  rcases Nat.eq_zero_or_pos n with rfl | h0
  ·simp at hne
  ·exact h0
 rw [List.getLast_eq_getElem]; simp only [List.getElem_take, List.length_take, Nat.min_eq_left hn]; exact h h0
theorem Lim.take {l : List Nat} (h : Lim l) (n : Nat) : Lim (l.take n) := fun x hx => h x (List.mem_of_mem_take hx)
theorem take_trim {l : List Nat} {n : Nat} (hl : Lim l) (hn : n ≤ l.length) (h1 : ∀ k (hk : k < l.length), n ≤ k → l[k] = 0) (h2 : ∀ h : 0 < n, l[n - 1] ≠ 0) : l.take n = lb (nv l) := by
 rw [← nv_trim h1, lb_nv (hl.take n) (take_proper hn h2)]


theorem nv_set {l : List Nat} {j : Nat} (hj : j < l.length) (v : Nat) : nv (l.set j v) + B ^ j * l.getD j 0 = nv l + B ^ j * v := by
 induction l generalizing j with
 | nil => simp at hj
 | cons x xs ih =>
  cases j with
  | zero => simp [nv, List.getD]; omega
  | succ j =>
   have := ih (j := j) (by simpa using hj); simp only [sC, nv, List.getD_cons_succ, Nat.pow_succ]
   grind
theorem nv_take_succ {l : List Nat} {k : Nat} (hk : k < l.length) : nv (l.take (k + 1)) = nv (l.take k) + B ^ k * l.getD k 0 := by
 have : l.take (k + 1) = l.take k ++ [l[k]] := by rw [List.take_succ_eq_append_getElem hk]
 rw [this, nv_snoc, List.length_take, Nat.min_eq_left (by omega)]; simp [List.getD, hk]
theorem nv_drop {l : List Nat} {k : Nat} (hk : k < l.length) : nv (l.drop k) = l.getD k 0 + B * nv (l.drop (k + 1)) := by
 rw [List.drop_eq_getElem_cons hk]; simp [nv, List.getD, hk]
theorem nv_take_drop (l : List Nat) (k : Nat) (hk : k ≤ l.length) : nv l = nv (l.take k) + B ^ k * nv (l.drop k) := by
 conv => lhs; rw [← List.take_append_drop k l, nv_append, List.length_take, Nat.min_eq_left hk]
theorem nv_take_lt {l : List Nat} (h : Lim l) {k : Nat} (hk : k ≤ l.length) : nv (l.take k) < B ^ k := by
 have := nv_lt (h.take k)
 rwa [List.length_take, Nat.min_eq_left hk] at this
/-- one inner step of the schoolbook product -/
theorem mul_step {cs : List Nat} {N0 i k a carry y Y o s : Nat} (h : nv cs + B ^ (i + k) * carry = N0 + B ^ i * (a * Y)) (hj : i + k < cs.length) (ho : cs.getD (i + k) 0 = o) (hs : a * y + o + carry = s) :
  nv (cs.set (i + k) (s % B)) + B ^ (i + (k + 1)) * (s / B) = N0 + B ^ i * (a * (Y + B ^ k * y)) := by
 have h1 := nv_set hj (s % B); have h2 := Nat.mod_add_div s B; rw [ho] at h1; have e1 : B ^ (i + (k + 1)) = B ^ i * B ^ k * B := by rw [← Nat.add_assoc, Nat.pow_succ, Nat.pow_add]
 rw [Nat.pow_add] at h h1; rw [e1]; generalize nv (cs.set (i + k) (s % B)) = n1 at *; generalize B ^ i = P at *; generalize B ^ k = R at *; generalize s % B = lo at *; generalize s / B = c1 at *
 grind
theorem mul_carry_lt {a y o carry : Nat} (ha : a < B) (hy : y < B) (ho : o < B) (hc : carry < B) : a * y + o + carry < B * B := by
 have : a * y ≤ (B - 1) * (B - 1) := Nat.mul_le_mul (by omega) (by omega)
 have e : (B - 1) * (B - 1) + (B - 1) + (B - 1) + 1 = B * B := by
  have : B = (B - 1) + 1 := by have := B_pos; omega
  generalize hb : B - 1 = b at *; rw [this]; grind
 omega
theorem getD_replicate (n j : Nat) : (List.replicate n 0).getD j 0 = 0 := by
 rcases Nat.lt_or_ge j n with h | h
 ·simp [List.getD, h]
 ·have : (List.replicate n 0)[j]? = none := List.getElem?_eq_none (by rw [List.length_replicate]; exact h); simp [List.getD, this]
theorem getD_set_ne {l : List Nat} {i j : Nat} (h : i ≠ j) (v : Nat) : (l.set i v).getD j 0 = l.getD j 0 := by
 simp [List.getD, List.getElem?_set_ne h]
/-- the product's inner round, whole -/
theorem times_round {cs ds y : List Nat} {i k a a' o cy n : Nat} (HJ : ds.length = n + y.length ∧ nv ds + B ^ (i + k) * cy = nv cs + B ^ i * (a * nv (y.take k)) ∧ ∀ j, i + y.length ≤ j → ds.getD j 0 = 0)
  (hin : i < n) (hk : k < y.length) (HA : a' = y.getD k 0) (HO : o = ds.getD (i + k) 0) :
  (ds.set (i + k) ((a * a' + o + cy) % 4294967296)).length = n + y.length ∧
   nv (ds.set (i + k) ((a * a' + o + cy) % 4294967296)) + B ^ (i + (k + 1)) * ((a * a' + o + cy) / 4294967296) = nv cs + B ^ i * (a * nv (y.take (k + 1))) ∧
   ∀ j, i + y.length ≤ j → (ds.set (i + k) ((a * a' + o + cy) % 4294967296)).getD j 0 = 0 := by
 obtain ⟨h1, h2, h3⟩ := HJ; refine ⟨by simp [h1], ?_, fun j hj => by rw [getD_set_ne (by omega)]; exact h3 j hj⟩; rw [nv_take_succ hk, ← HA]; exact mul_step h2 (by omega) HO.symm rfl
/-- the product's outer round, whole -/
theorem times_outer {cs ds x y : List Nat} {i a cy : Nat} (hi : i < x.length) (HI : cs.length = x.length + y.length ∧ nv cs = nv (x.take i) * nv y ∧ ∀ j, i + y.length ≤ j → cs.getD j 0 = 0)
  (HJ : ds.length = x.length + y.length ∧ nv ds + B ^ (i + y.length) * cy = nv cs + B ^ i * (a * nv (y.take y.length)) ∧ ∀ j, i + y.length ≤ j → ds.getD j 0 = 0)
  (HA : a = x.getD i 0) :
  (ds.set (i + y.length) cy).length = x.length + y.length ∧ nv (ds.set (i + y.length) cy) = nv (x.take (i + 1)) * nv y ∧ ∀ j, (i + 1) + y.length ≤ j → (ds.set (i + y.length) cy).getD j 0 = 0 := by
 obtain ⟨h1, h2, h3⟩ := HJ; refine ⟨by simp [h1], ?_, fun j hj => by rw [getD_set_ne (by omega)]; exact h3 j (by omega)⟩; have hs := nv_set (l := ds) (j := i + y.length) (by omega) cy; rw [h3 _ (Nat.le_refl _)] at hs; rw [nv_take_succ hi, ← HA]; rw [List.take_length] at h2; have h4 := HI.2.1; generalize nv (ds.set (i + y.length) cy) = n1 at *; generalize B ^ (i + y.length) = P at *; generalize nv (x.take i) = X at *; generalize B ^ i = R at *
 grind
theorem prod_bounds {a b : Nat} (ha : a < 4294967296) (hb : b < 4294967296) : 0 ≤ (a : Int) * (b : Int) ∧ (a : Int) * (b : Int) ≤ 18446744065119617025 := by
 have h1 : a * b ≤ 4294967295 * 4294967295 := Nat.mul_le_mul (by omega) (by omega); have h2 : ((a * b : Nat) : Int) ≤ ((4294967295 * 4294967295 : Nat) : Int) := Int.ofNat_le.2 h1; rw [Int.natCast_mul] at h2; exact ⟨Int.mul_nonneg (by omega) (by omega), by omega⟩
def cmpN (n m : Nat) : Int := if n < m then -1 else if m < n then 1 else 0
theorem cmpN_lt {n m : Nat} (h : n < m) : cmpN n m = -1 := by unfold cmpN; rw [if_pos h]
theorem cmpN_gt {n m : Nat} (h : m < n) : cmpN n m = 1 := by unfold cmpN; rw [if_neg (by omega), if_pos h]
theorem cmpN_eq {n m : Nat} (h : n = m) : cmpN n m = 0 := by unfold cmpN; rw [if_neg (by omega), if_neg (by omega)]
theorem lt_of_len {n m : Nat} (h : (lb n).length < (lb m).length) : n < m := by
 have h1 := pow_le_of_length h; have h2 := lb_length_lt.1 (Nat.le_refl (lb n).length); omega
theorem drop_getD {l : List Nat} {k : Nat} (h : k < l.length) : l.drop k = l.getD k 0 :: l.drop (k + 1) := by
 rw [List.drop_eq_getElem_cons h]; simp [List.getD, h]
/-- equal above place k, less at it: less -/
theorem lt_at {x y : List Nat} {k : Nat} (hx : Lim x) (hk : k < x.length) (hky : k < y.length) (he : x.drop (k + 1) = y.drop (k + 1)) (hlt : x.getD k 0 < y.getD k 0) : nv x < nv y := by
 rw [nv_take_drop x k (by omega), nv_take_drop y k (by omega), nv_drop hk, nv_drop hky, he]; have h1 := nv_take_lt hx (k := k) (by omega); generalize nv (y.drop (k + 1)) = R; have h2 : B ^ k * (x.getD k 0 + B * R + 1) ≤ B ^ k * (y.getD k 0 + B * R) := Nat.mul_le_mul_left _ (by omega); rw [Nat.mul_add (B ^ k) (x.getD k 0 + B * R) 1] at h2; omega
/-- one limb divided: from above -/
theorem small_round {out x : List Nat} {k rest d q r a : Nat} (hk : k < x.length) (hl : out.length = x.length) (hd : 0 < d)
  (hI : nv (out.drop (k + 1)) * d + rest = nv (x.drop (k + 1))) (ha : a = x.getD k 0) (hq : q = (rest * 4294967296 + a) / d) (hr : r = (rest * 4294967296 + a) % d) :
  nv ((out.set k q).drop k) * d + r = nv (x.drop k) := by
 have hko : k < (out.set k q).length := by simp; omega
 rw [drop_getD hko, drop_getD hk, nv, nv, ← hI, ← ha]; have e1 : (out.set k q).getD k 0 = q := by simp [List.getD, hl, hk]
 have e2 : (out.set k q).drop (k + 1) = out.drop (k + 1) := by rw [List.drop_set_of_lt (by omega)]
 rw [e1, e2]; have h := Nat.div_add_mod (rest * 4294967296 + a) d; rw [← hq, ← hr] at h; have hB : B = 4294967296 := rfl; generalize nv (out.drop (k + 1)) = N at *; rw [hB]
 grind
theorem getD_set_eq {l : List Nat} {i : Nat} (h : i < l.length) (v : Nat) : (l.set i v).getD i 0 = v := by simp [List.getD, h]
theorem shift_round {out x : List Nat} {i s o a : Nat} (hs : s ≤ 31) (hi : i < x.length) (ha : a < B) (HI : out.length = x.length + 1 ∧ nv out = nv (x.take i) * 2 ^ s ∧ out.getD i 0 < 2 ^ s ∧ ∀ j, i < j → out.getD j 0 = 0)
  (HA : a = x.getD i 0) (HO : o = out.getD i 0) :
  ((out.set i (o + a * 2 ^ s % B)).set (i + 1) (a * 2 ^ s / B)).length = x.length + 1 ∧ nv ((out.set i (o + a * 2 ^ s % B)).set (i + 1) (a * 2 ^ s / B)) = nv (x.take (i + 1)) * 2 ^ s ∧
   ((out.set i (o + a * 2 ^ s % B)).set (i + 1) (a * 2 ^ s / B)).getD (i + 1) 0 < 2 ^ s ∧ ∀ j, i + 1 < j → ((out.set i (o + a * 2 ^ s % B)).set (i + 1) (a * 2 ^ s / B)).getD j 0 = 0 := by
 obtain ⟨h1, h2, h3, h4⟩ := HI; have hlen : i + 1 < (out.set i (o + a * 2 ^ s % B)).length := by simp; omega
 refine ⟨by simp [h1], ?_, ?_, fun j hj => ?_⟩
 ·have e1 := nv_set hlen (a * 2 ^ s / B); have e2 := nv_set (l := out) (j := i) (by omega) (o + a * 2 ^ s % B); rw [getD_set_ne (by omega), h4 _ (by omega)] at e1; rw [← HO] at e2; rw [nv_take_succ hi, ← HA]; have e3 := Nat.mod_add_div (a * 2 ^ s) B; rw [Nat.pow_succ] at e1; generalize nv ((out.set i (o + a * 2 ^ s % B)).set (i + 1) (a * 2 ^ s / B)) = n2 at *; generalize nv (out.set i (o + a * 2 ^ s % B)) = n1 at *; generalize a * 2 ^ s % B = lo at *; generalize a * 2 ^ s / B = hi at *; generalize B ^ i = P at *; generalize 2 ^ s = S at *; generalize nv (x.take i) = X at *
  grind
 ·rw [getD_set_eq hlen]; exact Nat.div_lt_of_lt_mul (Nat.mul_lt_mul_of_pos_right ha (Nat.pow_pos (by omega)))
 ·rw [getD_set_ne (by omega), getD_set_ne (by omega)]; exact h4 j (by omega)
theorem low_div {a s : Nat} (hs : s ≤ 31) : a * 2 ^ s % B % 2 ^ s = 0 := by
 have e : B = 2 ^ s * 2 ^ (32 - s) := by
  rw [← Nat.pow_add]; have : s + (32 - s) = 32 := by omega
  rw [this]; rfl
 rw [e, Nat.mod_mul_right_mod, Nat.mul_mod_left]
theorem back_round {out x : List Nat} {i s : Nat} (hs : s ≤ 31) (hi : i < x.length) (HI : out.length = x.length ∧ nv out * 2 ^ s + x.getD 0 0 % 2 ^ s = nv (x.take i) + B ^ i * (x.getD i 0 % 2 ^ s) ∧ ∀ j, i ≤ j → out.getD j 0 = 0)
  {v : Nat} (hv : v = x.getD i 0 / 2 ^ s + (x.getD (i + 1) 0 % 2 ^ s) * 2 ^ (32 - s)) :
  (out.set i v).length = x.length ∧ nv (out.set i v) * 2 ^ s + x.getD 0 0 % 2 ^ s = nv (x.take (i + 1)) + B ^ (i + 1) * (x.getD (i + 1) 0 % 2 ^ s) ∧ ∀ j, i + 1 ≤ j → (out.set i v).getD j 0 = 0 := by
 obtain ⟨h1, h2, h4⟩ := HI; refine ⟨by simp [h1], ?_, fun j hj => by rw [getD_set_ne (by omega)]; exact h4 j (by omega)⟩; have e2 := nv_set (l := out) (j := i) (by omega) v; rw [h4 i (Nat.le_refl _)] at e2; rw [nv_take_succ hi, Nat.pow_succ]; have e3 := Nat.mod_add_div (x.getD i 0) (2 ^ s)
 have eB : 2 ^ (32 - s) * 2 ^ s = B := by
  rw [← Nat.pow_add]; have : 32 - s + s = 32 := by omega
  rw [this]; rfl
 generalize nv (out.set i v) = n1 at *; generalize x.getD (i + 1) 0 % 2 ^ s = m at *; generalize x.getD 0 0 % 2 ^ s = z at *; generalize x.getD i 0 % 2 ^ s = r at *; generalize x.getD i 0 / 2 ^ s = q at *; generalize nv (x.take i) = X at *; generalize 2 ^ (32 - s) = S' at *; generalize 2 ^ s = S at *; generalize B ^ i = P at *
 grind
theorem sub_round {ds V : List Nat} {n0 k i q cy bo o b lo c1 u bo' : Nat} (h : nv ds + B ^ k * (q * nv (V.take i)) = n0 + B ^ (k + i) * (cy + bo)) (hi : i < V.length) (hj : k + i < ds.length)
  (hb : b = V.getD i 0) (ho : o = ds.getD (k + i) 0) (hs : lo + B * c1 = q * b + cy) (hu : u + lo + bo = o + B * bo') :
  nv (ds.set (k + i) u) + B ^ k * (q * nv (V.take (i + 1))) = n0 + B ^ (k + (i + 1)) * (c1 + bo') := by
 have e := nv_set hj u; rw [← ho] at e; rw [nv_take_succ hi, ← hb, ← Nat.add_assoc, Nat.pow_succ]; rw [Nat.pow_add] at h e ⊢; generalize nv (ds.set (k + i) u) = n1 at *; generalize nv (V.take i) = Y at *; generalize B ^ k = P at *; generalize B ^ i = R at *
 grind
theorem sub_last {ds V : List Nat} {n0 k q cy bo o u bo' : Nat} (h : nv ds + B ^ k * (q * nv (V.take V.length)) = n0 + B ^ (k + V.length) * (cy + bo)) (hj : k + V.length < ds.length)
  (ho : o = ds.getD (k + V.length) 0) (hu : u + cy + bo = o + B * bo') :
  nv (ds.set (k + V.length) u) + B ^ k * (q * nv V) = n0 + B ^ (k + V.length + 1) * bo' := by
 have e := nv_set hj u; rw [← ho] at e; rw [List.take_length] at h; rw [Nat.pow_succ]; generalize nv (ds.set (k + V.length) u) = n1 at *; generalize B ^ (k + V.length) = P at *; generalize B ^ k = R at *
 grind
theorem sub_digit {o lo bo : Nat} (ho : o < B) (hlo : lo < B) (hbo : bo ≤ 1) : ∃ u, (((o : Int) - lo - bo) % 4294967296) = (u : Nat) ∧ u < 4294967296 ∧ u + lo + bo = o + B * (if o < lo + bo then 1 else 0) := by
 refine ⟨if o < lo + bo then o + B - lo - bo else o - lo - bo, ?_, ?_, ?_⟩ <;> unfold B at * <;> split <;> omega
end Go.Proofs.YtijkfagkbfbpmaaGreatDoor.Nm
