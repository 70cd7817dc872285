import Derived.Test.YtijkfagkbfbpmaaGreatDoorKByProof02
import Derived.Test.YtijkfagkbfbpmaaGreatDoorKByProof03
import Derived.Deep.AppendLies
import Derived.Test.YtijkfagkbfbpmaaGreatDoorKByProof01
import Derived.Test.YtijkfagkbfbpmaaGreatDoorS0
set_option linter.unusedVariables false
set_option linter.unusedSimpArgs false
namespace Go.Proofs.YtijkfagkbfbpmaaGreatDoor
open Go.RowKit
theorem arr_two (a b : Nat) : arr [a, b] = #[.int .u32 (a : Int), .int .u32 (b : Int)] := rfl
theorem nv_two (n : Nat) : Nm.nv [n % 4294967296, n / 4294967296] = n := by
 simp only [Nm.nv, Nm.B]; omega
set_option maxHeartbeats 400000 in
theorem whole_any (n : Nat) (w : World) (hn : n < 18446744073709551616) :
  Calls Tryz.prog 105 #[.int .u64 n] w fun e w' => ∃ A k, e = .returned (.slice A k k) ∧ k = (Nm.lb n).length ∧ Lim w' A k (Nm.lb n) ∧ Below w.heap.size w w' := by
 have hrow : ∀ w : World, Row (w.alloc (.cells #[Value.int .u32 ((n : Int) % 4294967296), Value.int .u32 ((n : Int) / 4294967296)] 104)) w.heap.size [n % 4294967296, n / 4294967296] := fun w => by
  have e1 : ((n : Int) % 4294967296) = ((n % 4294967296 : Nat) : Int) := by omega
  have e2 : ((n : Int) / 4294967296) = ((n / 4294967296 : Nat) : Int) := by omega
  rw [e1, e2, ← arr_two]; refine ⟨Blk.new w _ _, fun x hx => ?_⟩; simp only [List.mem_cons, List.not_mem_nil, or_false] at hx
  rcases hx with rfl | rfl
  ·exact Nat.mod_lt _ Nm.B_pos
  ·exact Nat.div_lt_of_lt_mul hn
 have hlim := (hrow w).lim (c := 2) (by simp) (by decide)
 go_enter Tryz.func105, Tryz.ntmps105
 go_wp2_with (go_at_call 101; refine (trim_k _ _ _ [n % 4294967296, n / 4294967296] _ hlim rfl).mono ?_; rintro e w' ⟨rfl, rfl⟩)
 go_ret; have h := hlim.trim; rw [nv_two] at h ⊢; exact ⟨_, _, rfl, rfl, h, bA w _⟩
def oneB (l : List Nat) : Bool := decide (l = [1])
theorem oneB_lb (n : Nat) : oneB (Nm.lb n) = decide (n = 1) := by
 unfold oneB
 apply decide_eq_decide.2
 constructor
 ·intro h; rw [← Nm.lb_one] at h; exact Nm.lb_inj h
 ·rintro rfl; exact Nm.lb_one
set_option maxHeartbeats 400000 in
theorem isOne_any (A : Option Addr) (c : Nat) (l : List Nat) (w : World) (h : Lim w A c l) :
  Calls Tryz.prog 102 #[.slice A l.length c] w fun e w' => e = .returned (.bool (oneB l)) ∧ w = w' := by
 rcases l with _ | ⟨a, _ | ⟨b, l⟩⟩
 ·have e : oneB [] = false := rfl; rw [e]
  go_enter Tryz.func102, Tryz.ntmps102
  go_wp2
  go_ret; exact ⟨rfl, rfl⟩
 ·obtain ⟨b, off, a', rfl, hc, ha, HA⟩ := h.get0 (by simp); have HB : Hid (a' = a) := HA; by_cases h1 : a = 1
  ·have e : oneB [a] = true := by subst h1; rfl
   have hx : ((a' : Int) == 1) = true := by rw [HB.out, h1]; rfl
   rw [e]; clear h1
   go_enter Tryz.func102, Tryz.ntmps102
   go_wp2
   go_ret; exact ⟨rfl, rfl⟩
  ·have e : oneB [a] = false := by simp [oneB, h1]
   have hx : ((a' : Int) == 1) = false := by rw [HB.out]; simp; omega
   rw [e]; clear h1
   go_enter Tryz.func102, Tryz.ntmps102
   go_wp2
   go_ret; exact ⟨rfl, rfl⟩
 ·have e : oneB (a :: b :: l) = false := by simp [oneB]
  rw [e]; have hx : (((a :: b :: l).length : Int) == 1) = false := by simp; omega
  generalize (a :: b :: l).length = k at *
  go_enter Tryz.func102, Tryz.ntmps102
  go_wp2
  go_ret; exact ⟨rfl, rfl⟩
set_option maxHeartbeats 1000000 in
theorem compare_eq (A1 A2 : Option Addr) (c1 c2 k : Nat) (x y : List Nat) (w : World) (h1 : Lim w A1 c1 x) (h2 : Lim w A2 c2 y) (hx : k = x.length) (hy : k = y.length) :
  Calls Tryz.prog 108 #[.slice A1 k c1, .slice A2 k c2] w fun e w' => e = .returned (.int .i64 (Nm.cmpN (Nm.nv x) (Nm.nv y))) ∧ ∃ q, w' = w.drewN q := by
 have hk : k ≤ 9223372036854775807 := by have := h1.2.1; have := h1.2.2.1; omega
 have HX := Lib.hid hx; have HY := Lib.hid hy; clear hx hy
 go_enter Tryz.func108, Tryz.ntmps108
 go_wp2
 go_loopw [5] (fun t wr => ∃ j : Nat, j ≤ k ∧ t = .int .i64 ((j : Int) - 1) ∧ Hid (x.drop j = y.drop j) ∧ ∃ q, wr = w.drewN q) (fun t _ => (intOf t + 1).toNat)
 case atStart => exact ⟨k, Nat.le_refl _, rfl, by show x.drop k = y.drop k; rw [List.drop_of_length_le (by have := HX.out; omega), List.drop_of_length_le (by have := HY.out; omega)], 0, rfl⟩
 case round =>
  obtain ⟨j, hj, rfl, HE, q, rfl⟩ := hrel
  rcases j with _ | j
  ·go_wp2
   go_ret; exact ⟨by rw [Nm.cmpN_eq (by have := HE.out; simp at this; rw [this])]; rfl, q, rfl⟩
  ·obtain ⟨b, off, a, rfl, hc, ha, HA⟩ := h1.get (k := j) (by have := HX.out; omega); obtain ⟨b', off', a', rfl, hc', ha', HA'⟩ := h2.get (k := j) (by have := HY.out; omega); by_cases heq : a = a'
   ·subst heq
    go_wp2
    go_quiet (fail)
    go_wp2
    go_roundw
    case rel => exact ⟨j, by omega, rfl, by show x.drop j = y.drop j; rw [Nm.drop_getD (by have := HX.out; omega), Nm.drop_getD (l := y) (by have := HY.out; omega), ← HA.out, ← HA'.out, HE.out], _, rfl⟩
    case measure => simp [intOf]
   ·have hne : ((a : Int) != (a' : Int)) = true := by rw [bne_iff_ne]; omega
    by_cases hlt : a < a'
    ·have hd : decide ((a : Int) < (a' : Int)) = true := by simp; omega
     go_wp2
     go_quiet (fail)
     go_wp2
     go_quiet (fail)
     go_wp2
     go_ret; exact ⟨by rw [Nm.cmpN_lt (Nm.lt_at h1.2.2.2.1 (by have := HX.out; omega) (by have := HY.out; omega) HE.out (by rw [← HA.out, ← HA'.out]; exact hlt))]; rfl, _, by rw [World.drewN_drewN, World.drewN_drewN]⟩
    ·have hd : decide ((a : Int) < (a' : Int)) = false := by simp; omega
     go_wp2
     go_quiet (fail)
     go_wp2
     go_quiet (fail)
     go_wp2
     go_ret; exact ⟨by rw [Nm.cmpN_gt (Nm.lt_at h2.2.2.2.1 (by have := HY.out; omega) (by have := HX.out; omega) HE.out.symm (by rw [← HA.out, ← HA'.out]; omega))]; rfl, _, by rw [World.drewN_drewN, World.drewN_drewN]⟩
theorem compare_any (A1 A2 : Option Addr) (c1 c2 n m k1 k2 : Nat) (w : World) (h1 : Lim w A1 c1 (Nm.lb n)) (h2 : Lim w A2 c2 (Nm.lb m)) (e1 : k1 = (Nm.lb n).length) (e2 : k2 = (Nm.lb m).length) :
  Calls Tryz.prog 108 #[.slice A1 k1 c1, .slice A2 k2 c2] w fun e w' => e = .returned (.int .i64 (Nm.cmpN n m)) ∧ ∃ q, w' = w.drewN q := by
 by_cases hk : k1 = k2
 ·subst hk; have := compare_eq A1 A2 c1 c2 k1 _ _ w h1 h2 e1 e2
  rwa [Nm.nv_lb, Nm.nv_lb] at this
 ·by_cases hlt : k1 < k2
  ·rw [Nm.cmpN_lt (Nm.lt_of_len (by omega))]; have hne : ((k1 : Int) != (k2 : Int)) = true := by rw [bne_iff_ne]; omega
   have hb1 : k1 ≤ 9223372036854775807 := by have := h1.2.1; have := h1.2.2.1; omega
   have hb2 : k2 ≤ 9223372036854775807 := by have := h2.2.1; have := h2.2.2.1; omega
   clear e1 e2 hk
   go_enter Tryz.func108, Tryz.ntmps108
   go_wp2
   go_ret; exact ⟨rfl, 0, rfl⟩
  ·rw [Nm.cmpN_gt (Nm.lt_of_len (by omega))]; have hne : ((k1 : Int) != (k2 : Int)) = true := by rw [bne_iff_ne]; omega
   have hb1 : k1 ≤ 9223372036854775807 := by have := h1.2.1; have := h1.2.2.1; omega
   have hb2 : k2 ≤ 9223372036854775807 := by have := h2.2.1; have := h2.2.2.1; omega
   clear e1 e2 hk
   go_enter Tryz.func108, Tryz.ntmps108
   go_wp2
   go_ret; exact ⟨rfl, 0, rfl⟩
set_option maxHeartbeats 400000 in
theorem small_any (A : Option Addr) (c d : Nat) (x : List Nat) (w : World) (hx : Lim w A c x) (hxl : x.length ≤ 1048576) (hd : 0 < d) (hd2 : d < 4294967296) :
  Calls Tryz.prog 158 #[.slice A x.length c, .int .u32 d] w fun e w' => ∃ A k, e = .returned (.tuple #[.slice A k k, .int .u32 ((Nm.nv x % d : Nat) : Int)]) ∧ k = (Nm.lb (Nm.nv x / d)).length ∧ Lim w' A k (Nm.lb (Nm.nv x / d)) ∧ Below w.heap.size w w' := by
 have hmk := run_make32 (↑x.length) x.length rfl (by omega)
 go_enter Tryz.func158, Tryz.ntmps158
 go_wp2
 go_loopw [8, 7] (fun t v wr => ∃ (j : Nat) (out : List Nat) (rest : Nat), j ≤ x.length ∧ t = .int .i64 ((j : Int) - 1) ∧ v = .int .u32 rest ∧ rest < d ∧ Row wr w.heap.size out ∧
  Hid (out.length = x.length ∧ Nm.nv (out.drop j) * d + rest = Nm.nv (x.drop j)) ∧ Below w.heap.size w wr) (fun t _ _ => (intOf t + 1).toNat)
 case atStart => exact ⟨x.length, _, 0, Nat.le_refl _, rfl, rfl, hd, Row.new w _, ⟨by simp, by simp [Nm.nv]⟩, bA w _⟩
 case round =>
  obtain ⟨j, out, rest, hj, rfl, rfl, hrest, hrow, HI, hb⟩ := hrel
  rcases j with _ | j
  ·go_wp2_with (go_at_call 101; have hlen := HI.1; rw [← hlen]; refine (trim_any _ _ _ _ (hrow.lim (Nat.le_refl _) (by omega))).mono ?_; rintro e w' ⟨rfl, rfl⟩)
   go_ret2
   have hN : Nm.nv out * d + rest = Nm.nv x := by have := HI.2; simpa using this
   have hq : Nm.nv x / d = Nm.nv out := by
    rw [← hN, Nat.mul_comm, Nat.mul_add_div hd, Nat.div_eq_of_lt hrest]; omega
   have hr : Nm.nv x % d = rest := by
    rw [← hN, Nat.mul_comm, Nat.mul_add_mod, Nat.mod_eq_of_lt hrest]
   refine ⟨_, _, by rw [hr]; rfl, by rw [hq], ?_, hb⟩; rw [hq]; exact (hrow.lim (Nat.le_refl _) (by rw [HI.1]; omega)).trim
  ·obtain ⟨b, off, a, rfl, hc, ha, HA⟩ := (hx.below hb).get (k := j) (by omega); obtain ⟨o, hco, hfo, ho, HO⟩ := hrow.get (k := j) (by have := HI.1; omega)
   go_wp2_with (go_at_call 183; refine (div32_any rest a d _ hrest ha hd2).mono ?_; rintro e w' ⟨rfl, nq, rfl⟩)
   go_roundw
   case rel =>
    have hlt : (rest * 4294967296 + a) / d < 4294967296 := Nat.div_lt_of_lt_mul (by
     have h1 : (rest + 1) * 4294967296 ≤ d * 4294967296 := Nat.mul_le_mul_right _ hrest
     omega)
    have e1 : (((rest : Int) * 4294967296 + (a : Int)) / (d : Int)) = (((rest * 4294967296 + a) / d : Nat) : Int) := by
     rw [Int.natCast_ediv, Int.natCast_add, Int.natCast_mul]; rfl
    have e2 : (((rest : Int) * 4294967296 + (a : Int)) % (d : Int)) = (((rest * 4294967296 + a) % d : Nat) : Int) := by
     rw [Int.natCast_emod, Int.natCast_add, Int.natCast_mul]; rfl
    rw [e1, e2]; exact ⟨j, _, _, by omega, rfl, rfl, Nat.mod_lt _ hd, (hrow.below (below_drewN _ _)).set_ _ _ hlt, ⟨by simp [HI.1], Nm.small_round hj HI.1 hd HI.2 HA rfl rfl⟩, (Below.tr hb (below_drewN _ _)).setCell (Nat.le_refl _) _⟩
   case measure => simp [intOf]
theorem small_k (A : Option Addr) (c d k : Nat) (x : List Nat) (w : World) (hx : Lim w A c x) (hk : k = x.length) (hxl : k ≤ 1048576) (hd : 0 < d) (hd2 : d < 4294967296) :
  Calls Tryz.prog 158 #[.slice A k c, .int .u32 d] w fun e w' => ∃ A k r, e = .returned (.tuple #[.slice A k k, .int .u32 ((r : Nat) : Int)]) ∧ r < d ∧ Hid (r = Nm.nv x % d ∧ k = (Nm.lb (Nm.nv x / d)).length) ∧ Lim w' A k (Nm.lb (Nm.nv x / d)) ∧ Below w.heap.size w w' := by
 subst hk; refine (small_any A c d x w hx hxl hd hd2).mono ?_; rintro e w' ⟨A, k, he, hk, hl, hb⟩; exact ⟨A, k, _, he, Nat.mod_lt _ hd, ⟨rfl, hk⟩, hl, hb⟩
end Go.Proofs.YtijkfagkbfbpmaaGreatDoor
namespace Go.Proofs.YtijkfagkbfbpmaaGreatDoor
open Go.RowKit
theorem shift_pow (s : Nat) (hs : s ≤ 31) : 2 ^ s < 4294967296 := by
 have h := Nat.pow_le_pow_right (n := 2) (by omega) hs; have e : (2 : Nat) ^ 31 = 2147483648 := rfl; omega
theorem shift_prod (a s : Nat) (hs : s ≤ 31) (ha : a < 4294967296) : a * 2 ^ s < 18446744073709551616 := by
 have h := Nat.mul_lt_mul'' ha (shift_pow s hs); omega
theorem shift_wrap (a s : Nat) (hs : s ≤ 31) (ha : a < 4294967296) : IntKind.u64.wrap ((a : Int) * 2 ^ s) = ((a * 2 ^ s : Nat) : Int) := by
 have h := shift_prod a s hs ha; have e : (a : Int) * 2 ^ s = ((a * 2 ^ s : Nat) : Int) := by rw [Int.natCast_mul, Int.natCast_pow]; rfl
 rw [IntKind.wrap_u64, e]; generalize a * 2 ^ s = p at *; omega
theorem shift_hi (a s : Nat) (hs : s ≤ 31) (ha : a < 4294967296) : IntKind.u64.wrap ((a : Int) * 2 ^ s) / 4294967296 % 4294967296 = ((a * 2 ^ s / Nm.B : Nat) : Int) := by
 have h := shift_prod a s hs ha; rw [shift_wrap a s hs ha]
 show _ = ((a * 2 ^ s / 4294967296 : Nat) : Int)
 generalize a * 2 ^ s = p at *; omega
theorem shift_join (a o s : Nat) (hs : s ≤ 31) (ho : o < 2 ^ s) : o ||| (a * 2 ^ s % Nm.B) = o + a * 2 ^ s % Nm.B := by
 rw [Nat.or_comm, nat_join s _ _ (Nm.low_div hs) ho, Nat.add_comm]
theorem shift_lt (a o s : Nat) (hs : s ≤ 31) (ho : o < 2 ^ s) : o + a * 2 ^ s % Nm.B < 4294967296 := by
 rw [← shift_join a o s hs ho]; exact Nat.or_lt_two_pow (n := 32) (Nat.lt_trans ho (shift_pow s hs)) (Nat.mod_lt _ Nm.B_pos)
theorem shift_lo (a o s : Nat) (hs : s ≤ 31) (ha : a < 4294967296) (ho : o < 2 ^ s) :
  bits .or .u32 (o : Int) (IntKind.u64.wrap ((a : Int) * 2 ^ s) % 4294967296) = ((o + a * 2 ^ s % Nm.B : Nat) : Int) := by
 rw [shift_wrap a s hs ha]
 have e : ((a * 2 ^ s : Nat) : Int) % 4294967296 = ((a * 2 ^ s % Nm.B : Nat) : Int) := by
  show _ = ((a * 2 ^ s % 4294967296 : Nat) : Int)
  generalize a * 2 ^ s = p; omega
 rw [e, ← shift_join a o s hs ho]; exact u32_or_nat _ _ (Nat.lt_trans ho (shift_pow s hs)) (Nat.mod_lt _ Nm.B_pos)
set_option maxHeartbeats 400000 in
theorem shift_any (A : Option Addr) (c s : Nat) (x : List Nat) (w : World) (hx : Lim w A c x) (hxl : x.length ≤ 1048576) (hs : s ≤ 31) :
  Calls Tryz.prog 174 #[.slice A x.length c, .int .i64 s] w fun e w' => ∃ g out, e = .returned (.slice (some ⟨g, 0, none⟩) (x.length + 1) (x.length + 1)) ∧ w.heap.size ≤ g ∧ Row w' g out ∧ Hid (out.length = x.length + 1 ∧ Nm.nv out = Nm.nv x * 2 ^ s ∧ out.getD x.length 0 < 2 ^ s) ∧ Below w.heap.size w w' := by
 have hmk := run_make32 (↑x.length + 1) (x.length + 1) (by omega) (by omega)
 go_enter Tryz.func174, Tryz.ntmps174
 go_wp2
 go_loopw [15] (fun t wr => ∃ (i : Nat) (out : List Nat), t = .int .i64 i ∧ i ≤ x.length ∧ Row wr w.heap.size out ∧ Hid (out.length = x.length + 1 ∧ Nm.nv out = Nm.nv (x.take i) * 2 ^ s ∧ out.getD i 0 < 2 ^ s ∧ ∀ j, i < j → out.getD j 0 = 0) ∧ Below w.heap.size w wr) (fun t _ => x.length - (intOf t).toNat)
 case atStart => exact ⟨0, _, rfl, Nat.zero_le _, Row.new w _, ⟨by simp, by simp [Nm.nv_replicate, Nm.nv], by rw [Nm.getD_replicate]; exact Nat.pow_pos (by omega), fun j _ => Nm.getD_replicate _ _⟩, bA w _⟩
 case round =>
  obtain ⟨i, out, rfl, hi, hrow, HI, hb⟩ := hrel; by_cases hlt : i < x.length
  ·obtain ⟨b, off, a, rfl, hc, ha, HA⟩ := (hx.below hb).get hlt; obtain ⟨o, hco, hfo, ho, HO⟩ := hrow.get (k := i) (by have := HI.1; omega); obtain ⟨o', hco', hfo', ho', HO'⟩ := hrow.get (k := i + 1) (by have := HI.1; omega)
   go_wp2
   go_roundw
   case rel =>
    rw [shift_lo a o s hs ha (by rw [HO.out]; exact HI.2.2.1), shift_hi a s hs ha]; have hol : o < 2 ^ s := by rw [HO.out]; exact HI.2.2.1
    exact ⟨i + 1, _, by go_num, by omega, (hrow.set_ _ _ (shift_lt a o s hs hol)).set_ _ _ (Nat.div_lt_of_lt_mul (Nat.mul_lt_mul'' ha (shift_pow s hs))), Nm.shift_round hs hlt ha HI HA HO, (hb.setCell (Nat.le_refl _) _).setCell (Nat.le_refl _) _⟩
   case measure => simp [intOf]; omega
  ·go_wp2
   go_ret; obtain rfl : x.length = i := by omega
   exact ⟨_, out, rfl, Nat.le_refl _, hrow, ⟨HI.1, by have := HI.2.1; rwa [List.take_length] at this, HI.2.2.1⟩, hb⟩
theorem back_cast1 (a s : Nat) : ((a / 2 ^ s : Nat) : Int) = (a : Int) / 2 ^ s := by rw [Int.natCast_ediv, Int.natCast_pow]; rfl
theorem back_lt1 (a s : Nat) (ha : a < 4294967296) : a / 2 ^ s < 4294967296 := Nat.lt_of_le_of_lt (Nat.div_le_self _ _) ha
theorem back_pow (s : Nat) (hs : s ≤ 31) : 2 ^ (32 - s) * 2 ^ s = 4294967296 := by
 rw [← Nat.pow_add]; have : 32 - s + s = 32 := by omega
 rw [this]
theorem back_mod (a' s : Nat) (hs : s ≤ 31) : a' * 2 ^ (32 - s) % 4294967296 = (a' % 2 ^ s) * 2 ^ (32 - s) := by
 rw [← back_pow s hs, Nat.mul_comm (2 ^ (32 - s)) (2 ^ s), Nat.mul_mod_mul_right]
theorem back_first (a s : Nat) (hs : s ≤ 31) (ha : a < 4294967296) : a / 2 ^ s < 2 ^ (32 - s) := Nat.div_lt_of_lt_mul (by rw [Nat.mul_comm, back_pow s hs]; exact ha)
theorem back_join (a a' s : Nat) (hs : s ≤ 31) (ha : a < 4294967296) : a / 2 ^ s ||| (a' % 2 ^ s) * 2 ^ (32 - s) = a / 2 ^ s + (a' % 2 ^ s) * 2 ^ (32 - s) := by
 rw [Nat.or_comm, nat_join (32 - s) _ _ (Nat.mul_mod_left _ _) (back_first a s hs ha), Nat.add_comm]
theorem back_lt (a a' s : Nat) (hs : s ≤ 31) (ha : a < 4294967296) (ha' : a' < 4294967296) : a / 2 ^ s + (a' % 2 ^ s) * 2 ^ (32 - s) < 4294967296 := by
 rw [← back_join a a' s hs ha, ← back_mod a' s hs]; exact Nat.or_lt_two_pow (n := 32) (back_lt1 a s ha) (Nat.mod_lt _ (by omega))
theorem back_or (a a' s : Nat) (hs : s ≤ 31) (ha : a < 4294967296) (ha' : a' < 4294967296) :
  bits .or .u32 ((a : Int) / 2 ^ s) ((a' : Int) * 2 ^ (32 - s) % 4294967296) = ((a / 2 ^ s + (a' % 2 ^ s) * 2 ^ (32 - s) : Nat) : Int) := by
 have e2 : (a' : Int) * 2 ^ (32 - s) % 4294967296 = ((a' * 2 ^ (32 - s) % 4294967296 : Nat) : Int) := by
  rw [Int.natCast_emod, Int.natCast_mul, Int.natCast_pow]; rfl
 rw [← back_cast1, e2, u32_or_nat _ _ (back_lt1 a s ha) (Nat.mod_lt _ (by omega)), back_mod a' s hs, back_join a a' s hs ha]
theorem shift_k (A : Option Addr) (c s k : Nat) (x : List Nat) (w : World) (hx : Lim w A c x) (hk : k = x.length) (hxl : k ≤ 1048576) (hs : s ≤ 31) :
  Calls Tryz.prog 174 #[.slice A k c, .int .i64 s] w fun e w' => ∃ g out, e = .returned (.slice (some ⟨g, 0, none⟩) (k + 1) (k + 1)) ∧ w.heap.size ≤ g ∧ Row w' g out ∧ Hid (out.length = k + 1 ∧ Nm.nv out = Nm.nv x * 2 ^ s ∧ out.getD k 0 < 2 ^ s) ∧ Below w.heap.size w w' := by
 subst hk; exact shift_any A c s x w hx hxl hs
set_option maxHeartbeats 1000000 in
theorem back_any (A : Option Addr) (c s k : Nat) (x : List Nat) (w : World) (hx : Lim w A c x) (hxl : x.length ≤ 1048577) (hs : s ≤ 31) (hk : k = x.length) :
  Calls Tryz.prog 177 #[.slice A k c, .int .i64 s] w fun e w' => ∃ A' n, e = .returned (.slice A' n n) ∧ n = (Nm.lb (Nm.nv x / 2 ^ s)).length ∧ Lim w' A' n (Nm.lb (Nm.nv x / 2 ^ s)) ∧ Below w.heap.size w w' := by
 subst hk; have hmk := run_make32 (↑x.length) x.length rfl (by omega)
 go_enter Tryz.func177, Tryz.ntmps177
 go_wp2
 go_loopw [12] (fun t wr => ∃ (i : Nat) (out : List Nat), t = .int .i64 i ∧ i ≤ x.length ∧ Row wr w.heap.size out ∧ Hid (out.length = x.length ∧ Nm.nv out * 2 ^ s + x.getD 0 0 % 2 ^ s = Nm.nv (x.take i) + Nm.B ^ i * (x.getD i 0 % 2 ^ s) ∧ ∀ j, i ≤ j → out.getD j 0 = 0) ∧ Below w.heap.size w wr) (fun t _ => x.length - (intOf t).toNat)
 case atStart => exact ⟨0, _, rfl, Nat.zero_le _, Row.new w _, ⟨by simp, by simp [Nm.nv_replicate, Nm.nv], fun j _ => Nm.getD_replicate _ _⟩, bA w _⟩
 case round =>
  obtain ⟨i, out, rfl, hi, hrow, HI, hb⟩ := hrel; by_cases hlt : i < x.length
  ·obtain ⟨b, off, a, rfl, hc, ha, HA⟩ := (hx.below hb).get hlt; obtain ⟨o, hco, hfo, ho, HO⟩ := hrow.get (k := i) (by have := HI.1; omega); by_cases hn : i + 1 < x.length ∧ 0 < s
   ·obtain ⟨hn1, hs1⟩ := hn; obtain ⟨b', off', a', hA', hc', ha', HA'⟩ := (hx.below hb).get hn1; injection hA' with hA'; injection hA' with e1 e2; subst e1; subst e2
    go_wp2
    go_region
    go_wp2
    go_roundw
    case rel =>
     rw [back_or a a' s hs ha ha']; have hrow2 := ((hrow.set_ i _ (back_lt1 a s ha)).set_ i _ (back_lt a a' s hs ha ha')).drew; rw [List.set_set, back_cast1] at hrow2; exact ⟨i + 1, _, by go_num, by omega, hrow2, Nm.back_round hs hlt HI (by rw [HA.out, HA'.out]), ((hb.setCell (Nat.le_refl _) _).setCell (Nat.le_refl _) _).drew⟩
    case measure => simp [intOf]; omega
   ·by_cases hn1 : i + 1 < x.length
    ·have hd : decide (0 < s) = false := by simp; omega
     have HS : Hid (s = 0) := show s = 0 by omega
     clear hn
     go_wp2
     go_roundw
     case rel =>
      rw [← back_cast1]; exact ⟨i + 1, _, by go_num, by omega, hrow.set_ i _ (back_lt1 a s ha), Nm.back_round hs hlt HI (by rw [HA.out, HS.out]; simp [Nat.mod_one]), hb.setCell (Nat.le_refl _) _⟩
     case measure => simp [intOf]; omega
    ·go_wp2
     go_roundw
     case rel =>
      have e0 : x.getD (i + 1) 0 = 0 := by simp [List.getD, List.getElem?_eq_none (show x.length ≤ i + 1 by omega)]
      rw [← back_cast1]; exact ⟨i + 1, _, by go_num, by omega, hrow.set_ i _ (back_lt1 a s ha), Nm.back_round hs hlt HI (by rw [HA.out, e0]; simp), hb.setCell (Nat.le_refl _) _⟩
     case measure => simp [intOf]; omega
  ·go_wp2_with (go_at_call 101; refine (trim_k _ _ _ _ _ (hrow.lim (c := x.length) (by have := HI.1; omega) (by omega)) (by have := HI.1; omega)).mono ?_; rintro e w' ⟨rfl, rfl⟩)
   go_ret; obtain rfl : x.length = i := by omega
   have h := HI.2.1; rw [List.take_length] at h; have e0 : x.getD x.length 0 = 0 := by simp [List.getD]
   rw [e0, Nat.zero_mod, Nat.mul_zero, Nat.add_zero] at h; have hlt : x.getD 0 0 % 2 ^ s < 2 ^ s := Nat.mod_lt _ (Nat.pow_pos (by omega))
   have hq : Nm.nv x / 2 ^ s = Nm.nv out := by
    rw [← h, Nat.mul_comm, Nat.mul_add_div (Nat.pow_pos (by omega)), Nat.div_eq_of_lt hlt]; omega
   refine ⟨_, _, rfl, by rw [hq], ?_, hb⟩; rw [hq]; exact (hrow.lim (Nat.le_refl _) (by rw [HI.1]; omega)).trim
end Go.Proofs.YtijkfagkbfbpmaaGreatDoor
namespace Go.Proofs.YtijkfagkbfbpmaaGreatDoor.Nm
theorem kn_mono {a b c : Nat} (h : a ≤ b) : c * a ≤ c * b := Nat.mul_le_mul_left _ h
/-- the trial quotient, as Knuth bounds it -/
structure Kn (B P T u3 W v1 v2 V : Nat) : Prop where
 hW1 : P * (T * B + u3) ≤ W
 hW2 : W < P * (T * B + u3 + 1)
 hV1 : P * (v1 * B + v2) ≤ V
 hV2 : V < P * (v1 * B + v2 + 1)
 hn : B ≤ 2 * v1
 hv1 : v1 < B
 hv2 : v2 < B
 hu3 : u3 < B
 hT : T ≤ v1 * B + (B - 1)
 hQ : W < B * V
 hB : 2 ≤ B
 hP : 0 < P
/-- the trial quotient is not too small -/
def KnI (T W v1 V q r : Nat) : Prop := q * v1 + r = T ∧ W < (q + 1) * V
theorem Kn.start {B P T u3 W v1 v2 V : Nat} (h : Kn B P T u3 W v1 v2 V) : KnI T W v1 V (T / v1) (T % v1) := by
 have hv : 0 < v1 := by have := h.hn; have := h.hB; omega
 refine ⟨by rw [Nat.mul_comm]; exact Nat.div_add_mod T v1, ?_⟩; have h1 : T < v1 * (T / v1 + 1) := Nat.lt_mul_div_succ T hv; generalize T / v1 = q at *; have h2 : (q + 1) * (P * (v1 * B + v2)) ≤ (q + 1) * V := kn_mono h.hV1
 have h3 : P * (T * B + u3 + 1) ≤ P * ((v1 * (q + 1)) * B) := kn_mono (by
  have h4 : (T + 1) * B ≤ (v1 * (q + 1)) * B := Nat.mul_le_mul_right _ h1; have := h.hu3; rw [Nat.add_mul] at h4
  omega)
 have h5 : P * ((v1 * (q + 1)) * B) ≤ (q + 1) * (P * (v1 * B + v2)) := by
  have : (q + 1) * (P * (v1 * B + v2)) = P * ((v1 * (q + 1)) * B) + (q + 1) * (P * v2) := by grind
  omega
 have := h.hW2; omega
theorem Kn.rem_lt {B P T u3 W v1 v2 V : Nat} (h : Kn B P T u3 W v1 v2 V) : T % v1 < B := Nat.lt_trans (Nat.mod_lt _ (by have := h.hn; have := h.hB; omega)) h.hv1
theorem Kn.big {B P T u3 W v1 v2 V q r : Nat} (h : Kn B P T u3 W v1 v2 V) (hi : KnI T W v1 V q r) (hq : B ≤ q) : KnI T W v1 V (q - 1) (r + v1) := by
 obtain ⟨h1, h2⟩ := hi; have hB := h.hB; obtain ⟨p, rfl⟩ : ∃ p, q = p + 1 := ⟨q - 1, by omega⟩; refine ⟨by simp only [Nat.add_sub_cancel]; rw [Nat.add_mul] at h1; omega, ?_⟩; have h3 : B * V ≤ (p + 1) * V := Nat.mul_le_mul_right _ hq; have := h.hQ; simp only [Nat.add_sub_cancel]; omega
theorem Kn.fine {B P T u3 W v1 v2 V q r : Nat} (h : Kn B P T u3 W v1 v2 V) (hi : KnI T W v1 V q r) (hq : r * B + u3 < q * v2) : KnI T W v1 V (q - 1) (r + v1) := by
 obtain ⟨h1, h2⟩ := hi; obtain ⟨p, rfl⟩ : ∃ p, q = p + 1 := ⟨q - 1, by rcases q with _ | q <;> simp at hq ⊢⟩; refine ⟨by simp only [Nat.add_sub_cancel]; rw [Nat.add_mul] at h1; omega, ?_⟩; simp only [Nat.add_sub_cancel]; have h3 : (p + 1) * (P * (v1 * B + v2)) ≤ (p + 1) * V := kn_mono h.hV1
 have h4 : P * (T * B + u3 + 1) ≤ P * (((p + 1) * v1) * B + (p + 1) * v2) := kn_mono (by
  have : T * B = ((p + 1) * v1) * B + r * B := by rw [← h1, Nat.add_mul]
  omega)
 have h5 : (p + 1) * (P * (v1 * B + v2)) = P * (((p + 1) * v1) * B + (p + 1) * v2) := by grind
 have := h.hW2; omega
/-- not more than one too large -/
def KnO (B W V q : Nat) : Prop := q < B ∧ q * V ≤ W + V ∧ W < (q + 1) * V
theorem Kn.out1 {B P T u3 W v1 v2 V q r : Nat} (h : Kn B P T u3 W v1 v2 V) (hi : KnI T W v1 V q r) (hq : q < B) (ht : q * v2 ≤ r * B + u3) : KnO B W V q := by
 obtain ⟨h1, h2⟩ := hi; refine ⟨hq, ?_, h2⟩; have hV2 := h.hV2; have h3 : q * V ≤ q * (P * (v1 * B + v2) + P) := kn_mono (by rw [Nat.mul_add P _ 1] at hV2; omega); have h4 : q * (P * (v1 * B + v2) + P) = P * ((q * v1) * B + q * v2) + q * P := by grind
 have h5 : P * ((q * v1) * B + q * v2) ≤ P * (T * B + u3) := kn_mono (by
  have : T * B = (q * v1) * B + r * B := by rw [← h1, Nat.add_mul]
  omega)
 have h6 : q * P ≤ V := by
  have h7 : q * P ≤ B * P := Nat.mul_le_mul_right _ (Nat.le_of_lt hq)
  have h8 : P * (1 * B) ≤ P * (v1 * B + v2) := kn_mono (by
   have : 1 * B ≤ v1 * B := Nat.mul_le_mul_right _ (by have := h.hn; have := h.hB; omega)
   omega)
  have := h.hV1; rw [Nat.one_mul, Nat.mul_comm] at h8; omega
 have := h.hW1; omega
theorem Kn.out2 {B P T u3 W v1 v2 V q r : Nat} (h : Kn B P T u3 W v1 v2 V) (hi : KnI T W v1 V q r) (hq : q < B) (ht : B ≤ r) : KnO B W V q := by
 refine h.out1 hi hq ?_; have h1 : q * v2 ≤ B * B := Nat.mul_le_mul (Nat.le_of_lt hq) (Nat.le_of_lt h.hv2); have h2 : B * B ≤ r * B := Nat.mul_le_mul_right _ ht; omega
theorem Kn.lt {B P T u3 W v1 v2 V q r : Nat} (h : Kn B P T u3 W v1 v2 V) (hi : KnI T W v1 V q r) (ht : B ≤ r) : q < B := by
 rcases Nat.lt_or_ge q B with h1 | h1
 ·exact h1
 ·obtain ⟨h2, _⟩ := hi; have h3 : B * v1 ≤ q * v1 := Nat.mul_le_mul_right _ h1; have := h.hT; have := h.hB; rw [Nat.mul_comm] at h3; omega
theorem Kn.le {B P T u3 W v1 v2 V q r : Nat} (h : Kn B P T u3 W v1 v2 V) (hi : KnI T W v1 V q r) : q ≤ B + 1 := by
 obtain ⟨h2, _⟩ := hi
 rcases Nat.lt_or_ge (B + 1) q with h1 | h1
 ·have h3 : (B + 2) * v1 ≤ q * v1 := Nat.mul_le_mul_right _ h1; have := h.hT; have := h.hB; have := h.hn; have e : (B + 2) * v1 = v1 * B + 2 * v1 := by grind
  omega
 ·exact h1
/-- the step: what the window holds behind it -/
theorem KnO.fits {B W V q : Nat} (h : KnO B W V q) (hle : q * V ≤ W) : W / V = q ∧ W - q * V < V := by
 obtain ⟨_, _, h3⟩ := h; rw [Nat.add_mul] at h3; refine ⟨?_, by omega⟩; exact Nat.div_eq_of_lt_le (by omega) (by rw [Nat.add_mul]; omega)
theorem KnO.less {B W V q : Nat} (h : KnO B W V q) (hgt : W < q * V) : 1 ≤ q ∧ W / V = q - 1 ∧ W + V - q * V < V := by
 obtain ⟨_, h2, h3⟩ := h; have hq : 1 ≤ q := by rcases q with _ | q; simp at hgt; omega
 obtain ⟨p, rfl⟩ : ∃ p, q = p + 1 := ⟨q - 1, by omega⟩; rw [Nat.add_mul] at h2 hgt; refine ⟨hq, ?_, by rw [Nat.add_mul]; omega⟩; exact Nat.div_eq_of_lt_le (by simp; omega) (by simp only [Nat.add_sub_cancel]; rw [Nat.add_mul]; omega)
theorem getD_of_lt {l : List Nat} {j : Nat} (h : j < l.length) : l.getD j 0 = l[j] := by simp [List.getD, h]
theorem nv_ge {l : List Nat} (j : Nat) : B ^ j * l.getD j 0 ≤ nv l := by
 rcases Nat.lt_or_ge j l.length with h | h
 ·rw [nv_take_drop l j (by omega), nv_drop h, Nat.mul_add]; omega
 ·have : l.getD j 0 = 0 := by simp [List.getD, List.getElem?_eq_none h]
  rw [this]; omega
theorem zero_of_lt {l : List Nat} {n j : Nat} (h : nv l < B ^ n) (hj : n ≤ j) : l.getD j 0 = 0 := by
 have h1 := nv_ge (l := l) j
 rcases Nat.eq_zero_or_pos (l.getD j 0) with h2 | h2
 ·exact h2
 ·have h3 : B ^ n ≤ B ^ j := Nat.pow_le_pow_right B_pos hj; have h4 : B ^ j * 1 ≤ B ^ j * l.getD j 0 := Nat.mul_le_mul_left _ h2; omega
theorem nv_zeros {l : List Nat} (h : ∀ j, l.getD j 0 = 0) : nv l = 0 := by
 induction l with
 | nil => rfl
 | cons x xs ih =>
  have h0 := h 0; simp at h0; have := ih (fun j => by have := h (j + 1); simpa using this); rw [nv, this, h0, Nat.mul_zero]
theorem getD_drop (l : List Nat) (k j : Nat) : (l.drop k).getD j 0 = l.getD (k + j) 0 := by simp [List.getD]
theorem nv_drop' (l : List Nat) (k : Nat) : nv (l.drop k) = l.getD k 0 + B * nv (l.drop (k + 1)) := by
 rcases Nat.lt_or_ge k l.length with h | h
 ·exact nv_drop h
 ·rw [List.drop_of_length_le h, List.drop_of_length_le (by omega)]; simp [nv, List.getD, List.getElem?_eq_none h]
theorem Lim.drop {l : List Nat} (h : Lim l) (n : Nat) : Lim (l.drop n) := fun x hx => h x (List.mem_of_mem_drop hx)
theorem Lim.lt {l : List Nat} (h : Lim l) (k : Nat) : l.getD k 0 < B := by
 rcases Nat.lt_or_ge k l.length with h1 | h1
 ·rw [getD_of_lt h1]; exact h _ (List.getElem_mem h1)
 ·simp [List.getD, List.getElem?_eq_none h1, B_pos]
theorem nv_window {l : List Nat} (hl : Lim l) {n : Nat} (h : ∀ j, n ≤ j → l.getD j 0 = 0) : nv l < B ^ n := by
 rcases Nat.lt_or_ge l.length n with h1 | h1
 ·exact Nat.lt_of_lt_of_le (nv_lt hl) (Nat.pow_le_pow_right B_pos (by omega))
 ·rw [nv_take_drop l n h1, nv_zeros (l := l.drop n) (fun j => by rw [getD_drop]; exact h _ (by omega))]; have := nv_take_lt hl h1; omega
theorem kn_of {U V : List Nat} {k m : Nat} (hU : Lim U) (hV : Lim V) (hn : V.length = m + 2) (hk : k + (m + 2) < U.length) (hz : ∀ j, k + (m + 2) < j → U.getD j 0 = 0)
  (hlt : nv (U.drop (k + 1)) < nv V) (htop : B ≤ 2 * V.getD (m + 1) 0) :
  Kn B (B ^ m) (U.getD (k + (m + 2)) 0 * B + U.getD (k + (m + 1)) 0) (U.getD (k + m) 0) (nv (U.drop k)) (V.getD (m + 1) 0) (V.getD m 0) (nv V) := by
 have eV : nv V = nv (V.take m) + B ^ m * (V.getD (m + 1) 0 * B + V.getD m 0) := by
  rw [nv_take_drop V m (by omega), nv_drop' V m, nv_drop' V (m + 1), List.drop_of_length_le (show V.length ≤ m + 1 + 1 by omega)]; simp only [nv]
  grind
 have lV := nv_take_lt hV (k := m) (by omega); have eU1 : nv (U.drop k) = nv ((U.drop k).take m) + B ^ m * nv ((U.drop k).drop m) := nv_take_drop _ m (by simp; omega); have lU := nv_take_lt (hU.drop k) (k := m) (by simp; omega); have z0 : nv (U.drop (k + m + 1 + 1 + 1)) = 0 := nv_zeros (fun j => by rw [getD_drop]; exact hz _ (by omega))
 have eU2 : nv ((U.drop k).drop m) = (U.getD (k + (m + 2)) 0 * B + U.getD (k + (m + 1)) 0) * B + U.getD (k + m) 0 := by
  rw [List.drop_drop, nv_drop' U (k + m), nv_drop' U (k + m + 1), nv_drop' U (k + m + 1 + 1), z0]; have e1 : k + (m + 2) = k + m + 1 + 1 := by omega
  have e2 : k + (m + 1) = k + m + 1 := by omega
  rw [e1, e2]
  grind
 have hd : nv (U.drop k) = U.getD k 0 + B * nv (U.drop (k + 1)) := nv_drop' U k; have u0 := hU.lt k; have u1 := hU.lt (k + (m + 1))
 have hge : B ^ (m + 1) * U.getD (k + (m + 2)) 0 ≤ nv (U.drop (k + 1)) := by
  have := nv_ge (l := U.drop (k + 1)) (m + 1); rw [getD_drop] at this; have e : k + 1 + (m + 1) = k + (m + 2) := by omega
  rwa [e] at this
 have hVlt : nv V < B ^ (m + 1) * (V.getD (m + 1) 0 + 1) := by
  have e3 : B ^ (m + 1) * (V.getD (m + 1) 0 + 1) = B ^ m * (V.getD (m + 1) 0 * B + (B - 1) + 1) := by
   have : B - 1 + 1 = B := by have := B_pos; omega
   rw [Nat.add_assoc, this, Nat.pow_succ]; grind
  have e4 : B ^ m * (V.getD (m + 1) 0 * B + V.getD m 0) ≤ B ^ m * (V.getD (m + 1) 0 * B + (B - 1)) := Nat.mul_le_mul_left _ (by have := hV.lt m; omega); rw [e3, Nat.mul_add (B ^ m) _ 1]; omega
 have hu1 : U.getD (k + (m + 2)) 0 ≤ V.getD (m + 1) 0 := by
  have : B ^ (m + 1) * U.getD (k + (m + 2)) 0 < B ^ (m + 1) * (V.getD (m + 1) 0 + 1) := by omega
  have := Nat.lt_of_mul_lt_mul_left this; omega
 refine ⟨?_, ?_, ?_, ?_, htop, hV.lt _, hV.lt _, hU.lt _, ?_, ?_, by unfold B; omega, Nat.pow_pos B_pos⟩
 ·rw [eU1, eU2]; omega
 ·rw [eU1, eU2, Nat.mul_add (B ^ m) _ 1]; omega
 ·rw [eV]; omega
 ·rw [eV, Nat.mul_add (B ^ m) _ 1]; omega
 ·have := Nat.mul_le_mul_right B hu1; omega
 ·rw [hd]; have : B * (nv (U.drop (k + 1)) + 1) ≤ B * nv V := Nat.mul_le_mul_left _ hlt; rw [Nat.mul_add] at this; omega
/-- two lists that agree below place k -/
theorem take_agree {U U' : List Nat} {k : Nat} (hl : U'.length = U.length) (h : ∀ j, j < k → U'.getD j 0 = U.getD j 0) : U'.take k = U.take k := by
 apply List.ext_getElem (by simp [hl])
 intro i h1 h2; simp only [List.length_take] at h1 h2; have := h i (by omega); rw [getD_of_lt (by omega), getD_of_lt (by omega)] at this
 simpa using this
/-- how a step turns the window -/
theorem window_step {U U' : List Nat} {k X Y : Nat} (hk : k ≤ U.length) (hl : U'.length = U.length) (h : ∀ j, j < k → U'.getD j 0 = U.getD j 0) (he : nv U' + B ^ k * X = nv U + B ^ k * Y) :
  nv (U'.drop k) + X = nv (U.drop k) + Y := by
 rw [nv_take_drop U' k (by omega), nv_take_drop U k hk, take_agree hl h] at he; have h1 : B ^ k * (nv (U'.drop k) + X) = B ^ k * (nv (U.drop k) + Y) := by rw [Nat.mul_add, Nat.mul_add]; omega
 exact Nat.eq_of_mul_eq_mul_left (Nat.pow_pos B_pos) h1
theorem set_drop {out : List Nat} {k q : Nat} (hk : k < out.length) : nv ((out.set k q).drop k) = q + B * nv (out.drop (k + 1)) := by
 have hko : k < (out.set k q).length := by simp; omega
 rw [nv_drop hko, getD_set_eq hk, List.drop_set_of_lt (by omega)]
/-- the relation of the outer loop -/
def DivR (U out V : List Nat) (M Lu j : Nat) : Prop :=
 U.length = Lu ∧ out.length = Lu - V.length ∧ nv U + B ^ j * (nv (out.drop j) * nv V) = M ∧ nv (U.drop j) < nv V ∧ ∀ i, j + V.length ≤ i → U.getD i 0 = 0
theorem DivR.kn {U out V : List Nat} {M Lu k m : Nat} (h : DivR U out V M Lu (k + 1)) (hU : Lim U) (hV : Lim V) (hn : V.length = m + 2) (hk : k + 1 ≤ Lu - V.length) (htop : B ≤ 2 * V.getD (m + 1) 0) :
  Kn B (B ^ m) (U.getD (k + (m + 2)) 0 * B + U.getD (k + (m + 1)) 0) (U.getD (k + m) 0) (nv (U.drop k)) (V.getD (m + 1) 0) (V.getD m 0) (nv V) :=
 kn_of hU hV hn (by have := h.1; omega) (fun j hj => h.2.2.2.2 j (by omega)) h.2.2.2.1 htop
/-- the step without a borrow -/
theorem DivR.fits {U U' out V : List Nat} {M Lu k q : Nat} (h : DivR U out V M Lu (k + 1)) (hV : Lim V) (hk : k + 1 ≤ Lu - V.length) (hq : KnO B (nv (U.drop k)) (nv V) q)
  (hl : U'.length = U.length) (he : nv U' + B ^ k * (q * nv V) = nv U) (hs : ∀ j, j < k → U'.getD j 0 = U.getD j 0) :
  DivR U' (out.set k q) V M Lu k := by
 obtain ⟨h1, h2, h3, h4, h5⟩ := h; have hw := window_step (X := q * nv V) (Y := 0) (by omega) hl hs (by omega)
 have hlt : nv (U'.drop k) < nv V := by
  have := (hq.fits (by omega)).2; omega
 refine ⟨by omega, by simp [h2], ?_, hlt, fun i hi => ?_⟩
 ·rw [set_drop (by omega), ← h3, ← he, Nat.pow_succ]; grind
 ·have hVB := Nat.lt_trans hlt (nv_lt hV); have := zero_of_lt hVB (j := i - k) (by omega); rw [getD_drop] at this; have e : k + (i - k) = i := by omega
  rwa [e] at this
/-- the step with a borrow, behind which the divisor is added back -/
theorem DivR.less {U U' U'' out V : List Nat} {M Lu k q c2 : Nat} (h : DivR U out V M Lu (k + 1)) (hV : Lim V) (hU' : Lim U') (hU'' : Lim U'') (hk : k + 1 ≤ Lu - V.length) (hq : KnO B (nv (U.drop k)) (nv V) q)
  (hl : U'.length = U.length) (he : nv U' + B ^ k * (q * nv V) = nv U + B ^ (k + V.length + 1)) (hs : ∀ j, j < k → U'.getD j 0 = U.getD j 0) (ht : ∀ j, k + V.length < j → U'.getD j 0 = U.getD j 0)
  (hl2 : U''.length = U.length) (he2 : nv U'' + B ^ (k + V.length + 1) * c2 = nv U' + B ^ k * nv V) (hc2 : c2 ≤ 1) (hs2 : ∀ j, j < k → U''.getD j 0 = U'.getD j 0) (ht2 : ∀ j, k + V.length < j → U''.getD j 0 = U'.getD j 0) :
  1 ≤ q ∧ DivR U'' (out.set k (q - 1)) V M Lu k := by
 obtain ⟨h1, h2, h3, h4, h5⟩ := h; have e0 : B ^ (k + V.length + 1) = B ^ k * B ^ (V.length + 1) := by rw [← Nat.pow_add, Nat.add_assoc]
 have hw1 := window_step (X := q * nv V) (Y := B ^ (V.length + 1)) (by omega) hl hs (by rw [he, e0]); have hw2 := window_step (U := U') (U' := U'') (X := B ^ (V.length + 1) * c2) (Y := nv V) (by omega) (by omega) hs2 (by rw [← he2, e0, Nat.mul_assoc]); have hzero : ∀ j, V.length + 1 ≤ j → (U'.drop k).getD j 0 = 0 := fun j hj => by rw [getD_drop, ht _ (by omega)]; exact h5 _ (by omega)
 have hzero2 : ∀ j, V.length + 1 ≤ j → (U''.drop k).getD j 0 = 0 := fun j hj => by rw [getD_drop, ht2 _ (by omega), ht _ (by omega)]; exact h5 _ (by omega)
 have hb2 := nv_window (hU''.drop k) hzero2; have hb1 := nv_window (hU'.drop k) hzero; have hVlt := nv_lt hV; have hpow : B ^ V.length ≤ B ^ (V.length + 1) := Nat.pow_le_pow_right B_pos (by omega); have hq2 := hq.2.1
 have hne : c2 = 1 := by
  rcases Nat.lt_or_ge c2 1 with hc | hc
  ·have : c2 = 0 := by omega
   subst this; omega
  ·omega
 subst hne; have hgt : nv (U.drop k) < q * nv V := by omega
 obtain ⟨g1, _, g3⟩ := hq.less hgt; have hlt : nv (U''.drop k) < nv V := by omega
 refine ⟨g1, by omega, by simp [h2], ?_, hlt, fun i hi => ?_⟩
 ·rw [set_drop (by omega), ← h3]; obtain ⟨p, rfl⟩ : ∃ p, q = p + 1 := ⟨q - 1, by omega⟩; simp only [Nat.add_sub_cancel]; rw [Nat.pow_succ]; rw [Nat.mul_one] at he2
  have : nv U'' + B ^ k * (p * nv V) = nv U := by
   have : B ^ k * ((p + 1) * nv V) = B ^ k * (p * nv V) + B ^ k * nv V := by grind
   omega
  rw [← this]; grind
 ·have hVB := Nat.lt_trans hlt (nv_lt hV); have := zero_of_lt hVB (j := i - k) (by omega); rw [getD_drop] at this; have e : k + (i - k) = i := by omega
  rwa [e] at this
/-- the end of the outer loop -/
theorem DivR.done {U out V : List Nat} {N D S Lu : Nat} (h : DivR U out V (N * S) Lu 0) (hV : nv V = D * S) (hS : 0 < S) : nv out = N / D ∧ nv U / S = N % D := by
 obtain ⟨_, _, h3, h4, _⟩ := h; simp only [List.drop_zero, Nat.pow_zero, Nat.one_mul] at h3 h4; rw [hV] at h3 h4
 have hD : 0 < D := by
  rcases Nat.eq_zero_or_pos D with h | h
  ·subst h; simp at h4
  ·exact h
 have e1 : N * S / (D * S) = nv out := by
  rw [← h3, Nat.mul_comm (nv out), Nat.add_mul_div_left _ _ (Nat.mul_pos hD hS), Nat.div_eq_of_lt h4]; omega
 have e2 : N * S % (D * S) = nv U := by
  rw [← h3, Nat.mul_comm (nv out), Nat.add_mul_mod_self_left, Nat.mod_eq_of_lt h4]
 rw [Nat.mul_div_mul_right _ _ hS] at e1; rw [Nat.mul_mod_mul_right] at e2; refine ⟨e1.symm, ?_⟩; rw [← e2, Nat.mul_div_cancel _ hS]
theorem addback_round {ds V : List Nat} {n0 k i cy b o u c1 : Nat} (h : nv ds + B ^ (k + i) * cy = n0 + B ^ k * nv (V.take i)) (hi : i < V.length) (hj : k + i < ds.length)
  (hb : b = V.getD i 0) (ho : o = ds.getD (k + i) 0) (hu : u + B * c1 = o + b + cy) :
  nv (ds.set (k + i) u) + B ^ (k + (i + 1)) * c1 = n0 + B ^ k * nv (V.take (i + 1)) := by
 have e := nv_set hj u; rw [← ho] at e; rw [nv_take_succ hi, ← hb, ← Nat.add_assoc, Nat.pow_succ]; rw [Nat.pow_add] at h e ⊢; generalize nv (ds.set (k + i) u) = n1 at *; generalize nv (V.take i) = Y at *; generalize B ^ k = P at *; generalize B ^ i = R at *
 grind
theorem addback_last {ds V : List Nat} {n0 k cy o u c1 : Nat} (h : nv ds + B ^ (k + V.length) * cy = n0 + B ^ k * nv (V.take V.length)) (hj : k + V.length < ds.length)
  (ho : o = ds.getD (k + V.length) 0) (hu : u + B * c1 = o + cy) :
  nv (ds.set (k + V.length) u) + B ^ (k + V.length + 1) * c1 = n0 + B ^ k * nv V := by
 have e := nv_set hj u; rw [← ho] at e; rw [List.take_length] at h; rw [Nat.pow_succ]; generalize nv (ds.set (k + V.length) u) = n1 at *; generalize B ^ (k + V.length) = P at *; generalize B ^ k = R at *
 grind
theorem top_split {l : List Nat} {m : Nat} (hl : Lim l) (h : l.length ≤ m + 1) : ∃ low, nv l = low + B ^ m * l.getD m 0 ∧ low < B ^ m := by
 rcases Nat.lt_or_ge l.length (m + 1) with h1 | h1
 ·refine ⟨nv l, ?_, Nat.lt_of_lt_of_le (nv_lt hl) (Nat.pow_le_pow_right B_pos (by omega))⟩; have : l.getD m 0 = 0 := by simp [List.getD, List.getElem?_eq_none (show l.length ≤ m by omega)]
  rw [this]; omega
 ·refine ⟨nv (l.take m), ?_, nv_take_lt hl (by omega)⟩; rw [nv_take_drop l m (by omega), nv_drop' l m, List.drop_of_length_le (show l.length ≤ m + 1 by omega)]; simp [nv]
theorem norm_len {m m2 t s : Nat} (hl : m2 + 2 = (lb m).length) (ht : t = (lb m).getD (m2 + 1) 0) (h1 : 2147483648 ≤ t * 2 ^ s) (h2 : (t + 1) * 2 ^ s ≤ 4294967296) :
  m2 + 2 = (lb (m * 2 ^ s)).length ∧ B ≤ 2 * (lb (m * 2 ^ s)).getD (m2 + 1) 0 := by
 obtain ⟨low, e, hlow⟩ := top_split (l := lb m) (m := m2 + 1) (lim_lb m) (by omega); rw [nv_lb, ← ht] at e
 have hlt : m * 2 ^ s < B ^ (m2 + 2) := by
  have g1 : m + 1 ≤ B ^ (m2 + 1) * (t + 1) := by rw [e, Nat.mul_add]; omega
  have g2 : m * 2 ^ s < B ^ (m2 + 1) * (t + 1) * 2 ^ s := Nat.mul_lt_mul_of_pos_right g1 (Nat.pow_pos (by omega)); have g3 : B ^ (m2 + 1) * ((t + 1) * 2 ^ s) ≤ B ^ (m2 + 1) * B := Nat.mul_le_mul_left _ h2; rw [← Nat.mul_assoc] at g3; rw [Nat.pow_succ (n := B) (m := m2 + 1)]; omega
 have hge : B ^ (m2 + 1) * 2147483648 ≤ m * 2 ^ s := by
  have g1 : B ^ (m2 + 1) * 2147483648 ≤ B ^ (m2 + 1) * (t * 2 ^ s) := Nat.mul_le_mul_left _ h1; have g2 : B ^ (m2 + 1) * t * 2 ^ s ≤ m * 2 ^ s := Nat.mul_le_mul_right _ (by omega); rw [Nat.mul_assoc] at g2; omega
 have hlen : (lb (m * 2 ^ s)).length ≤ m2 + 2 := lb_length_lt.2 hlt; obtain ⟨low', e', hlow'⟩ := top_split (l := lb (m * 2 ^ s)) (m := m2 + 1) (lim_lb _) hlen; rw [nv_lb] at e'
 have htop : 2147483648 ≤ (lb (m * 2 ^ s)).getD (m2 + 1) 0 := by
  rcases Nat.lt_or_ge ((lb (m * 2 ^ s)).getD (m2 + 1) 0) 2147483648 with h | h
  ·have g1 : B ^ (m2 + 1) * ((lb (m * 2 ^ s)).getD (m2 + 1) 0 + 1) ≤ B ^ (m2 + 1) * 2147483648 := Nat.mul_le_mul_left _ h; rw [Nat.mul_add] at g1; omega
  ·exact h
 refine ⟨?_, by unfold B; omega⟩
 rcases Nat.lt_or_ge (m2 + 1) (lb (m * 2 ^ s)).length with h | h
 ·omega
 ·have : (lb (m * 2 ^ s)).getD (m2 + 1) 0 = 0 := by simp [List.getD, List.getElem?_eq_none h]
  omega
theorem div_start {U V : List Nat} {k1 m2 s : Nat} (hU : Lim U) (hl : U.length = k1 + 1) (hle : m2 + 2 ≤ k1) (htop : U.getD k1 0 < 2 ^ s) (hs : s ≤ 31) (hV : V.length = m2 + 2) (hVt : B ≤ 2 * V.getD (m2 + 1) 0) :
  DivR U (List.replicate (k1 + 1 - (m2 + 2)) 0) V (nv U) (k1 + 1) (k1 + 1 - (m2 + 2)) := by
 refine ⟨hl, by simp [hV], ?_, ?_, fun i hi => by simp [List.getD, List.getElem?_eq_none (show U.length ≤ i by omega)]⟩
 ·rw [List.drop_of_length_le (by simp)]; simp [nv]
 ·obtain ⟨low, e, hlow⟩ := top_split (l := U.drop (k1 + 1 - (m2 + 2))) (m := m2 + 1) (hU.drop _) (by simp; omega); rw [getD_drop] at e; have e2 : k1 + 1 - (m2 + 2) + (m2 + 1) = k1 := by omega
  rw [e2] at e
  have hp : 2 ^ s ≤ 2147483648 := by
   have h := Nat.pow_le_pow_right (n := 2) (by omega) hs; have e : (2 : Nat) ^ 31 = 2147483648 := rfl; omega
  have h2 := nv_ge (l := V) (m2 + 1); have hB : B = 4294967296 := rfl; have h3 : B ^ (m2 + 1) * (U.getD k1 0 + 1) ≤ B ^ (m2 + 1) * V.getD (m2 + 1) 0 := Nat.mul_le_mul_left _ (by omega); rw [Nat.mul_add] at h3; omega
theorem DivR.pos {U U' out V : List Nat} {M Lu k q : Nat} (h : DivR U out V M Lu (k + 1)) (hU' : Lim U') (hk : k + 1 ≤ Lu - V.length)
  (hl : U'.length = U.length) (he : nv U' + B ^ k * (q * nv V) = nv U + B ^ (k + V.length + 1)) (hs : ∀ j, j < k → U'.getD j 0 = U.getD j 0) (ht : ∀ j, k + V.length < j → U'.getD j 0 = U.getD j 0) : 1 ≤ q := by
 obtain ⟨h1, h2, h3, h4, h5⟩ := h; have e0 : B ^ (k + V.length + 1) = B ^ k * B ^ (V.length + 1) := by rw [← Nat.pow_add, Nat.add_assoc]
 have hw1 := window_step (X := q * nv V) (Y := B ^ (V.length + 1)) (by omega) hl hs (by rw [he, e0]); have hzero : ∀ j, V.length + 1 ≤ j → (U'.drop k).getD j 0 = 0 := fun j hj => by rw [getD_drop, ht _ (by omega)]; exact h5 _ (by omega)
 have hb1 := nv_window (hU'.drop k) hzero
 rcases q with _ | q
 ·simp at hw1; omega
 ·omega
/-- what 'subtract' leaves -/
def SubR (U U' V : List Nat) (k q bo : Nat) : Prop :=
 U'.length = U.length ∧ bo ≤ 1 ∧ nv U' + B ^ k * (q * nv V) = nv U + B ^ (k + V.length + 1) * bo ∧ (∀ j, j < k → U'.getD j 0 = U.getD j 0) ∧ ∀ j, k + V.length < j → U'.getD j 0 = U.getD j 0
theorem DivR.fits2 {U U' out V : List Nat} {M Lu k q n W bo : Nat} (h : DivR U out V M Lu (k + 1)) (hV : Lim V) (hVl : V.length = n) (hk : k + n < Lu) (hq : KnO B W (nv V) q) (hW : W = nv (U.drop k)) (hs : SubR U U' V k q bo) (hbo : bo = 0) :
  DivR U' (out.set k q) V M Lu k := by
 subst hbo; subst hW; subst hVl; refine h.fits hV (by omega) hq hs.1 ?_ hs.2.2.2.1; have := hs.2.2.1; rw [Nat.mul_zero, Nat.add_zero] at this; exact this
theorem DivR.pos2 {U U' out V : List Nat} {M Lu k q n bo : Nat} (h : DivR U out V M Lu (k + 1)) (hU' : Lim U') (hVl : V.length = n) (hk : k + n < Lu) (hs : SubR U U' V k q bo) (hbo : bo = 1) : 1 ≤ q := by
 subst hbo; subst hVl; refine h.pos hU' (by omega) hs.1 ?_ hs.2.2.2.1 hs.2.2.2.2; have := hs.2.2.1; rw [Nat.mul_one] at this; exact this
/-- the loop that adds the divisor back -/
def AddR (U1 ds V : List Nat) (k i cy : Nat) : Prop :=
 ds.length = U1.length ∧ nv ds + B ^ (k + i) * cy = nv U1 + B ^ k * nv (V.take i) ∧ (∀ j, j < k → ds.getD j 0 = U1.getD j 0) ∧ ∀ j, k + V.length < j → ds.getD j 0 = U1.getD j 0
theorem AddR.start (U1 V : List Nat) (k : Nat) : AddR U1 U1 V k 0 0 := ⟨rfl, by simp [nv], fun _ _ => rfl, fun _ _ => rfl⟩
theorem AddR.round {U1 ds V : List Nat} {k i cy n b o u c1 : Nat} (h : AddR U1 ds V k i cy) (hVl : V.length = n) (hi : i < n) (hk : k + n < U1.length) (hb : b = V.getD i 0) (ho : o = ds.getD (k + i) 0) (hu : u + B * c1 = o + b + cy) :
  AddR U1 (ds.set (k + i) u) V k (i + 1) c1 := by
 subst hVl; refine ⟨by simp [h.1], addback_round h.2.1 hi (by have := h.1; omega) hb ho hu, fun j hj => by rw [getD_set_ne (by omega)]; exact h.2.2.1 j hj, fun j hj => by rw [getD_set_ne (by omega)]; exact h.2.2.2 j hj⟩
theorem AddR.done {U U1 ds out V : List Nat} {M Lu k cy n W q o bo : Nat} (h : AddR U1 ds V k n cy) (hD : DivR U out V M Lu (k + 1)) (hV : Lim V) (hU1 : Lim U1) (hds : Lim ds) (hVl : V.length = n) (hk : k + n < Lu) (hq : KnO B W (nv V) q) (hW : W = nv (U.drop k))
  (hs : SubR U U1 V k q bo) (hbo : bo = 1) (ho : o = ds.getD (k + n) 0) (hcy : cy ≤ 1) :
  DivR (ds.set (k + n) ((o + cy) % B)) (out.set k (q - 1)) V M Lu k := by
 subst hbo; subst hW; subst hVl; have hlen : ds.length = Lu := by rw [h.1, hs.1, hD.1]
 have ho' : o < B := by rw [ho]; exact hds.lt _
 have hlast := addback_last (u := (o + cy) % B) (c1 := (o + cy) / B) h.2.1 (by omega) ho (Nat.mod_add_div _ _); refine (hD.less (U' := U1) (c2 := (o + cy) / B) hV hU1 ?_ (by omega) hq hs.1 (by have := hs.2.2.1; rw [Nat.mul_one] at this; exact this) hs.2.2.2.1 hs.2.2.2.2 (by simp [hlen, hD.1]) hlast ?_ ?_ ?_).2
 ·intro x hx
  rcases List.mem_or_eq_of_mem_set hx with h1 | h1
  ·exact hds x h1
  ·subst h1; exact Nat.mod_lt _ B_pos
 ·have : (o + cy) / B < 2 := Nat.div_lt_of_lt_mul (by omega); omega
 ·intro j hj; rw [getD_set_ne (by omega)]; exact h.2.2.1 j hj
 ·intro j hj; rw [getD_set_ne (by omega)]; exact h.2.2.2 j hj
end Go.Proofs.YtijkfagkbfbpmaaGreatDoor.Nm
namespace Go.Proofs.YtijkfagkbfbpmaaGreatDoor
open Go.RowKit
theorem sub32_w (a b c : Nat) (w : World) (ha : a < 4294967296) (hb : b < 4294967296) (hc : c ≤ 1) :
  Calls Tryz.prog 207 #[.int .u32 a, .int .u32 b, .int .u32 c] w fun e w' => ∃ u bo : Nat, e = .returned (.tuple #[.int .u32 (u : Int), .int .u32 (bo : Int)]) ∧ u < 4294967296 ∧ bo ≤ 1 ∧ Hid (u + b + c = a + Nm.B * bo) ∧ w = w' := by
 obtain ⟨u, hu, hul, hue⟩ := Nm.sub_digit (o := a) (lo := b) (bo := c) ha hb hc; refine (sub32_any a b c w ha hb hc).mono fun e w' ⟨he, hw⟩ => ⟨u, _, by rw [he, hu], hul, ?_, hue, hw⟩
 split <;> omega
def carryB (n : Nat) : Bool := decide (n = 0)
set_option maxHeartbeats 1000000 in
theorem subtract_any (A : Option Addr) (c g k q : Nat) (U V : List Nat) (w : World) (hV : Lim w A c V) (hU : Row w g U) (hne : ∀ b off, A = some ⟨b, off, none⟩ → b ≠ g) (hk : k + V.length + 1 ≤ U.length) (hUl : U.length ≤ 2097152) (hq : q < 4294967296) :
  Calls Tryz.prog 175 #[.slice (some ⟨g, k, none⟩) (V.length + 1) (V.length + 1), .slice A V.length c, .int .u64 q] w fun e w' => ∃ U' bo, e = .returned (.bool (carryB bo)) ∧ Row w' g U' ∧
   Hid (U'.length = U.length ∧ bo ≤ 1 ∧ Nm.nv U' + Nm.B ^ k * (q * Nm.nv V) = Nm.nv U + Nm.B ^ (k + V.length + 1) * bo ∧ (∀ j, j < k → U'.getD j 0 = U.getD j 0) ∧ ∀ j, k + V.length < j → U'.getD j 0 = U.getD j 0) ∧ w.grownBy w' (some g) := by
 have HQ := Lib.hid hq
 go_enter Tryz.func175, Tryz.ntmps175
 go_wp2
 go_loopw [15, 7, 8] (fun t v x wr => ∃ (i : Nat) (ds : List Nat) (cy bo : Nat), t = .int .i64 i ∧ i ≤ V.length ∧ v = .int .u64 cy ∧ cy < 4294967296 ∧ x = .int .u32 bo ∧ bo ≤ 1 ∧ Row wr g ds ∧
  Hid (ds.length = U.length ∧ Nm.nv ds + Nm.B ^ k * (q * Nm.nv (V.take i)) = Nm.nv U + Nm.B ^ (k + i) * (cy + bo) ∧ (∀ j, j < k → ds.getD j 0 = U.getD j 0) ∧ ∀ j, k + V.length < j → ds.getD j 0 = U.getD j 0) ∧ w.grownBy wr (some g)) (fun t _ _ _ => V.length - (intOf t).toNat)
 case atStart => exact ⟨0, _, 0, 0, rfl, Nat.zero_le _, rfl, by omega, rfl, by omega, hU, ⟨rfl, by simp [Nm.nv], fun _ _ => rfl, fun _ _ => rfl⟩, only_refl w _⟩
 case round =>
  obtain ⟨i, ds, cy, bo, rfl, hi, rfl, hcy, rfl, hbo, hrow, HI, ho⟩ := hrel; by_cases hlt : i < V.length
  ·obtain ⟨b, off, a, rfl, hc, ha, HA⟩ := (hV.only ho hne).get hlt; obtain ⟨o, hco, hfo, hoo, HO⟩ := hrow.get (k := k + i) (by have := HI.1; omega); obtain ⟨hp0, hpr⟩ := Nm.prod_bounds hq ha; have HC : Hid (((q : Int) * (a : Int) + (cy : Int)) % 4294967296 = (((q * a + cy) % 4294967296 : Nat) : Int)) := by show _ = _; omega
   have HD : Hid (((q : Int) * (a : Int) + (cy : Int)) / 4294967296 = (((q * a + cy) / 4294967296 : Nat) : Int)) := by show _ = _; omega
   have hlo : (q * a + cy) % 4294967296 < 4294967296 := Nat.mod_lt _ (by omega); have hhi : (q * a + cy) / 4294967296 < 4294967296 := Nat.div_lt_of_lt_mul (by have := Nm.mul_carry_lt hq ha (o := 0) (carry := cy) (by decide) hcy; exact this)
   go_wp2_with (go_at_call 207; rw [HC.out]; refine (sub32_w o _ bo _ hoo hlo hbo).mono ?_; rintro e w' ⟨u, bo', rfl, hul, hbo', HU, rfl⟩)
   go_roundw
   case rel => exact ⟨i + 1, _, _, bo', by go_num, by omega, by rw [HD.out], hhi, rfl, hbo', hrow.set_ _ _ hul, ⟨by simp [HI.1], Nm.sub_round HI.2.1 hlt (by have := HI.1; omega) HA HO (Nat.mod_add_div _ Nm.B) HU, fun j hj => by rw [Nm.getD_set_ne (by omega)]; exact HI.2.2.1 j hj, fun j hj => by rw [Nm.getD_set_ne (by omega)]; exact HI.2.2.2 j hj⟩, only_trans ho (only_set _ _ _)⟩
   case measure => simp [intOf]; omega
  ·obtain rfl : V.length = i := by omega
   obtain ⟨o, hco, hfo, hoo, HO⟩ := hrow.get (k := k + V.length) (by have := HI.1; omega)
   go_wp2_with (go_at_call 207; refine (sub32_w o _ bo _ hoo hcy hbo).mono ?_; rintro e w' ⟨u, bo', rfl, hul, hbo', HU, rfl⟩)
   go_ret; refine ⟨_, bo', ?_, hrow.set_ _ _ hul, ⟨by simp [HI.1], hbo', Nm.sub_last HI.2.1 (by have := HI.1; omega) HO HU, fun j hj => by rw [Nm.getD_set_ne (by omega)]; exact HI.2.2.1 j hj, fun j hj => by rw [Nm.getD_set_ne (by omega)]; exact HI.2.2.2 j hj⟩, only_trans ho (only_set _ _ _)⟩; have e : ((bo' : Int) == 0) = carryB bo' := by unfold carryB; rw [Bool.eq_iff_iff]; simp
   rw [← e]; rfl
theorem subtract_k (A : Option Addr) (c g k q ku kv cu n : Nat) (U V : List Nat) (w : World) (hV : Lim w A c V) (hU : Row w g U) (hne : ∀ b off, A = some ⟨b, off, none⟩ → b ≠ g) (hVl : V.length = n) (hk : k + n + 1 ≤ U.length) (hUl : U.length ≤ 2097152) (hq : q < 4294967296)
  (e1 : ku = n + 1) (e2 : kv = n) (e3 : cu = n + 1) :
  Calls Tryz.prog 175 #[.slice (some ⟨g, k, none⟩) ku cu, .slice A kv c, .int .u64 q] w fun e w' => ∃ U' bo, e = .returned (.bool (carryB bo)) ∧ Row w' g U' ∧ Hid (Nm.SubR U U' V k q bo) ∧ w.grownBy w' (some g) := by
 subst e1; subst e2; subst e3; subst hVl; exact subtract_any A c g k q U V w hV hU hne hk hUl hq
theorem add32_w (a b c : Nat) (w : World) (ha : a < 4294967296) (hb : b < 4294967296) (hc : c ≤ 1) :
  Calls Tryz.prog 176 #[.int .u32 a, .int .u32 b, .int .u32 c] w fun e w' => ∃ u bo : Nat, e = .returned (.tuple #[.int .u32 (u : Int), .int .u32 (bo : Int)]) ∧ u < 4294967296 ∧ bo ≤ 1 ∧ Hid (u + Nm.B * bo = a + b + c) ∧ w = w' := by
 refine (add32_any a b c w ha hb hc).mono fun e w' ⟨he, hw⟩ => ⟨_, _, he, Nat.mod_lt _ (by omega), ?_, Nat.mod_add_div _ _, hw⟩
 have : (a + b + c) / 4294967296 < 2 := Nat.div_lt_of_lt_mul (by omega); omega
end Go.Proofs.YtijkfagkbfbpmaaGreatDoor
