import Derived.Test.YtijkfagkbfbpmaaGreatDoorKByProof04
import Derived.Test.YtijkfagkbfbpmaaGreatDoorKByProof05
import Derived.Test.YtijkfagkbfbpmaaGreatDoorKByProof06
import Derived.Test.YtijkfagkbfbpmaaGreatDoorS0
set_option linter.unusedVariables false
set_option linter.unusedSimpArgs false
namespace Go.Proofs.YtijkfagkbfbpmaaGreatDoor
open Go.RowKit
set_option maxRecDepth 100000 in
set_option maxHeartbeats 400000 in
theorem divide_lt (A1 A2 : Option Addr) (c1 c2 n m k1 k2 : Nat) (w : World) (h1 : Lim w A1 c1 (Nm.lb n)) (h2 : Lim w A2 c2 (Nm.lb m)) (e1 : k1 = (Nm.lb n).length) (e2 : k2 = (Nm.lb m).length) (hl1 : k1 ≤ 1048576) (hlt : n < m) :
  Calls Tryz.prog 145 #[.slice A1 k1 c1, .slice A2 k2 c2] w fun e w' => ∃ A c, e = .returned (.tuple #[.slice none 0 0, .slice A k1 c]) ∧ Lim w' A c (Nm.lb n) ∧ Below w.heap.size w w' := by
 have HC : Hid (Nm.cmpN n m = -1) := Nm.cmpN_lt hlt; have E1 := Lib.hid e1; have E2 := Lib.hid e2; clear e1 e2
 go_enter Tryz.func145, Tryz.ntmps145
 go_wp2_with (first
  | (go_at_call 108; refine (compare_any _ _ _ _ n m _ _ _ h1 h2 E1.out E2.out).mono ?_; rw [HC.out]; rintro e w' ⟨rfl, q, rfl⟩)
  | (go_at_call 146; refine (clone_any _ _ _ (Nm.lb n) _ (h1.drewN _) E1.out (by have := E1.out; omega)).mono ?_; rintro e w' ⟨A', c', rfl, hl, hb⟩))
 go_ret2
 exact ⟨A', c', rfl, hl, Below.tr (below_drewN _ _) hb⟩
theorem pow_bitLen : ∀ (f t : Nat), 0 < t → t < 2 ^ f → 2 ^ (Lib.bitLenAux f t) ≤ 2 * t ∧ t < 2 ^ (Lib.bitLenAux f t) ∧ 1 ≤ Lib.bitLenAux f t ∧ Lib.bitLenAux f t ≤ f := by
 intro f
 induction f with
 | zero => intro t h1 h2; simp at h2; omega
 | succ f ih =>
  intro t h1 h2; unfold Lib.bitLenAux; rw [if_neg (by omega)]; by_cases h3 : t / 2 = 0
  ·have : t = 1 := by omega
   subst this; have : Lib.bitLenAux f (1 / 2) = 0 := by cases f <;> rfl
   rw [this]; simp
  ·obtain ⟨g1, g2, g3, g4⟩ := ih (t / 2) (by omega) (by rw [Nat.pow_succ] at h2; omega); rw [Nat.add_comm 1, Nat.pow_succ]; generalize Lib.bitLenAux f (t / 2) = b at *; generalize 2 ^ b = p at *; omega
theorem bitLen_top (t : Nat) (h : 0 < t) (ht : t < 4294967296) : Lib.bitLen t ≤ 32 ∧ 1 ≤ Lib.bitLen t ∧ 2147483648 ≤ t * 2 ^ (32 - Lib.bitLen t) ∧ (t + 1) * 2 ^ (32 - Lib.bitLen t) ≤ 4294967296 := by
 have e : Lib.bitLen t = Lib.bitLenAux 32 t := Lib.bitLenAux_fuel 32 t ht 64 (by omega); obtain ⟨g1, g2, g3, g4⟩ := pow_bitLen 32 t h ht; rw [e]; generalize Lib.bitLenAux 32 t = b at *
 have e2 : 2 ^ b * 2 ^ (32 - b) = 4294967296 := by
  rw [← Nat.pow_add]; have : b + (32 - b) = 32 := by omega
  rw [this]
 refine ⟨g4, g3, ?_, ?_⟩
 ·have h1 : 2 ^ b * 2 ^ (32 - b) ≤ (2 * t) * 2 ^ (32 - b) := Nat.mul_le_mul_right _ g1; rw [Nat.mul_assoc] at h1; omega
 ·have h1 : (t + 1) * 2 ^ (32 - b) ≤ 2 ^ b * 2 ^ (32 - b) := Nat.mul_le_mul_right _ g2; omega
set_option maxRecDepth 100000 in
set_option maxHeartbeats 400000 in
theorem divide_small (A1 A2 : Option Addr) (c1 c2 n m k1 : Nat) (w : World) (h1 : Lim w A1 c1 (Nm.lb n)) (h2 : Lim w A2 c2 (Nm.lb m)) (e1 : k1 = (Nm.lb n).length) (e2 : 1 = (Nm.lb m).length) (hl1 : k1 ≤ 1048576) (hge : m ≤ n) :
  Calls Tryz.prog 145 #[.slice A1 k1 c1, .slice A2 1 c2] w fun e w' => ∃ A k A' k', e = .returned (.tuple #[.slice A k k, .slice A' k' k']) ∧ k = (Nm.lb (n / m)).length ∧ Lim w' A k (Nm.lb (n / m)) ∧ k' = (Nm.lb (n % m)).length ∧ Lim w' A' k' (Nm.lb (n % m)) ∧ Below w.heap.size w w' := by
 have HC : ∃ c : Int, 0 ≤ c ∧ Hid (Nm.cmpN n m = c) := by
  by_cases h : n = m
  ·exact ⟨0, by omega, Nm.cmpN_eq h⟩
  ·exact ⟨1, by omega, Nm.cmpN_gt (by omega)⟩
 obtain ⟨cc, hcc, HC⟩ := HC; have hm0 : m ≠ 0 := by rintro rfl; simp [Nm.lb_zero] at e2
 have hmB : m < 4294967296 := by have := (Nm.lb_length_lt (n := m) (k := 1)).1 (by omega); simpa [Nm.B] using this
 have hlm : Nm.lb m = [m] := Nm.lb_small hm0 hmB; obtain ⟨b, off, a, rfl, hc, ha, HA⟩ := h2.get0 (by omega); have hma : a = m := by rw [HA.out, hlm]; rfl
 subst hma; have h1' := h1.2.2.1; have h1'' := h1.2.1; have E1 := Lib.hid e1; have E2 := Lib.hid e2; clear e1 e2 HA hlm
 go_enter Tryz.func145, Tryz.ntmps145
 go_wp2_with (first
  | (go_at_call 108; refine (compare_any _ _ _ _ n a _ _ _ h1 h2 E1.out E2.out).mono ?_; rw [HC.out]; rintro e w' ⟨rfl, q, rfl⟩)
  | (go_at_call 158; refine (small_k _ _ _ _ (Nm.lb n) _ (h1.drewN _) E1.out (by omega) (by omega) ha).mono ?_; rintro e w' ⟨A', k', r, rfl, hr, HR, hl, hb⟩)
  | (go_at_call 105; refine (whole_any r _ (by omega)).mono ?_; rintro e w' ⟨A'', k'', rfl, hk'', hl', hb'⟩; have HK := Lib.hid hk''; clear hk''))
 go_ret2
 obtain ⟨hr2, hk'⟩ := HR; have HK2 := HK.out; rw [hr2] at hl' HK2; rw [Nm.nv_lb] at *; exact ⟨A', k', A'', k'', rfl, hk', hl.below hb', HK2, hl', Below.tr (Below.tr (below_drewN _ _) hb) hb'⟩
end Go.Proofs.YtijkfagkbfbpmaaGreatDoor
