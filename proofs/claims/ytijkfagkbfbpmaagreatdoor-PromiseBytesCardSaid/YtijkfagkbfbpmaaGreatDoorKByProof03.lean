import Derived.Test.YtijkfagkbfbpmaaGreatDoorKByProof02
import Derived.Laws.BitsAllLaws
import Derived.Deep.QuietTactic
import Derived.BigQuiet
import Derived.Test.YtijkfagkbfbpmaaGreatDoorS0
set_option linter.unusedVariables false
set_option linter.unusedSimpArgs false
namespace Go.Proofs.YtijkfagkbfbpmaaGreatDoor
open Go.RowKit
set_option maxHeartbeats 400000 in
theorem add32_any (a b c : Nat) (w : World) (ha : a < 4294967296) (hb : b < 4294967296) (hc : c ≤ 1) :
  Calls Tryz.prog 176 #[.int .u32 a, .int .u32 b, .int .u32 c] w fun e w' => e = .returned (.tuple #[.int .u32 ((a + b + c) % 4294967296 : Nat), .int .u32 ((a + b + c) / 4294967296 : Nat)]) ∧ w = w' := by
 have e1 : ((a + b + c) % 4294967296 : Nat) = ((a + b + c) % 4294967296 : Int) := by omega
 have e2 : ((a + b + c) / 4294967296 : Nat) = ((a + b + c) / 4294967296 : Int) := by omega
 rw [e1, e2]; clear e1 e2
 go_enter Tryz.func176, Tryz.ntmps176
 go_wp2
 go_ret2
 exact ⟨rfl, rfl⟩
theorem tb32 (n : Nat) (h : n < 4294967296) : n / 2147483648 = if n.testBit 31 then 1 else 0 := by
 rw [Nat.testBit_eq_decide_div_mod_eq]; have : n / 2147483648 < 2 := Nat.div_lt_of_lt_mul (by omega); have e : (2 : Nat) ^ 31 = 2147483648 := rfl; rw [e]; simp only [decide_eq_true_eq]
 split <;> omega
theorem tb32' (n : Nat) (h : n < 4294967296) : n.testBit 31 = decide (2147483648 ≤ n) := by
 rw [Nat.testBit_eq_decide_div_mod_eq]; have e : (2 : Nat) ^ 31 = 2147483648 := rfl; rw [e]; have : n / 2147483648 < 2 := Nat.div_lt_of_lt_mul (by omega)
 apply decide_eq_decide.2
 constructor
 ·intro h; omega
 ·intro h; omega
theorem borrow (a b c d : Nat) (ha : a < 4294967296) (hb : b < 4294967296) (hc : c ≤ 1) (hd : d < 4294967296) (h : d = (a + 4294967296 - b + 4294967296 - c) % 4294967296) :
  ((4294967295 ^^^ a) &&& b ||| (4294967295 ^^^ (a ^^^ b)) &&& d) / 2147483648 = if a < b + c then 1 else 0 := by
 have l1 : (4294967295 ^^^ a) &&& b < 4294967296 := Nat.lt_of_le_of_lt Nat.and_le_right hb; have l2 : (4294967295 ^^^ (a ^^^ b)) &&& d < 4294967296 := Nat.lt_of_le_of_lt Nat.and_le_right hd; rw [tb32 _ (Nat.or_lt_two_pow (n := 32) l1 l2)]; have ht : (4294967295 : Nat).testBit 31 = true := by decide +kernel
 simp only [Nat.testBit_or, Nat.testBit_and, Nat.testBit_xor, ht, tb32' a ha, tb32' b hb, tb32' d hd]; by_cases h1 : 2147483648 ≤ a <;> by_cases h2 : 2147483648 ≤ b <;> by_cases h3 : 2147483648 ≤ d <;> simp [h1, h2, h3] <;> omega
theorem sub32_val (a b c : Nat) (ha : a < 4294967296) (hb : b < 4294967296) (hc : c ≤ 1) :
  bits .or .u32 (bits .and .u32 (bits .xor .u32 IntKind.u32.max (a : Int)) (b : Int)) (bits .and .u32 (bits .xor .u32 IntKind.u32.max (bits .xor .u32 (a : Int) (b : Int))) (((a : Int) - b - c) % 4294967296)) / 2147483648 = ((if a < b + c then 1 else 0 : Nat) : Int) := by
 have em : IntKind.u32.max = ((4294967295 : Nat) : Int) := by decide +kernel
 have ed : ((a : Int) - b - c) % 4294967296 = (((a + 4294967296 - b + 4294967296 - c) % 4294967296 : Nat) : Int) := by omega
 have lx : a ^^^ b < 4294967296 := Nat.xor_lt_two_pow (n := 32) ha hb; have lm : (4294967295 : Nat) < 4294967296 := by omega
 have ld : (a + 4294967296 - b + 4294967296 - c) % 4294967296 < 4294967296 := Nat.mod_lt _ (by omega); have l3 : 4294967295 ^^^ a < 4294967296 := Nat.xor_lt_two_pow (n := 32) lm ha; have l4 : 4294967295 ^^^ (a ^^^ b) < 4294967296 := Nat.xor_lt_two_pow (n := 32) lm lx
 rw [em, ed, u32_xor_nat _ _ ha hb, u32_xor_nat _ _ lm ha, u32_xor_nat _ _ lm lx, u32_and_nat _ _ l3 hb, u32_and_nat _ _ l4 ld,
  u32_or_nat _ _ (Nat.lt_of_le_of_lt Nat.and_le_right hb) (Nat.lt_of_le_of_lt Nat.and_le_right ld), ← borrow a b c _ ha hb hc ld rfl]
 rfl
set_option maxHeartbeats 400000 in
theorem sub32_any (a b c : Nat) (w : World) (ha : a < 4294967296) (hb : b < 4294967296) (hc : c ≤ 1) :
  Calls Tryz.prog 207 #[.int .u32 a, .int .u32 b, .int .u32 c] w fun e w' => e = .returned (.tuple #[.int .u32 (((a : Int) - b - c) % 4294967296), .int .u32 ((if a < b + c then 1 else 0 : Nat) : Int)]) ∧ w = w' := by
 rw [← sub32_val a b c ha hb hc]
 go_enter Tryz.func207, Tryz.ntmps207
 go_wp2
 go_ret2
 exact ⟨rfl, rfl⟩
theorem hilo (h l : Nat) (hh : h < 4294967296) (hl : l < 4294967296) : bits .or .u64 ((h : Int) * 4294967296) (l : Int) = ((h * 4294967296 + l : Nat) : Int) := by
 have e : (h : Int) * 4294967296 = ((h * 4294967296 : Nat) : Int) := by omega
 rw [e, u64_or_nat _ _ (by omega) (by omega), nat_join 32 _ _ (by omega) (by omega)]
theorem div32_q (h l d : Nat) (hd : h < d) (hl : l < 4294967296) (hd2 : d < 4294967296) :
  IntKind.u64.wrap ((bits .or .u64 ((h : Int) * 4294967296) (l : Int)).tdiv (d : Int)) % 4294967296 = (((h * 4294967296 + l) / d : Nat) : Int) := by
 rw [hilo h l (by omega) hl, IntKind.wrap_u64]
 have hlt : (h * 4294967296 + l) / d < 4294967296 := Nat.div_lt_of_lt_mul (by
  have h1 : (h + 1) * 4294967296 ≤ d * 4294967296 := Nat.mul_le_mul_right _ hd
  omega)
 have e : (((h * 4294967296 + l : Nat) : Int)).tdiv (d : Int) = (((h * 4294967296 + l) / d : Nat) : Int) := by rfl
 rw [e]; generalize (h * 4294967296 + l) / d = q at *; omega
theorem div32_r (h l d : Nat) (hd : h < d) (hl : l < 4294967296) (hd2 : d < 4294967296) :
  (bits .or .u64 ((h : Int) * 4294967296) (l : Int)).tmod (d : Int) % 4294967296 = (((h * 4294967296 + l) % d : Nat) : Int) := by
 rw [hilo h l (by omega) hl]; have hlt : (h * 4294967296 + l) % d < d := Nat.mod_lt _ (by omega); have e : (((h * 4294967296 + l : Nat) : Int)).tmod (d : Int) = (((h * 4294967296 + l) % d : Nat) : Int) := by rfl
 rw [e]; generalize (h * 4294967296 + l) % d = q at *; omega
set_option maxHeartbeats 400000 in
theorem div32_any (h l d : Nat) (w : World) (hd : h < d) (hl : l < 4294967296) (hd2 : d < 4294967296) :
  Calls Tryz.prog 183 #[.int .u32 h, .int .u32 l, .int .u32 d] w fun e w' => e = .returned (.tuple #[.int .u32 ((h * 4294967296 + l) / d : Nat), .int .u32 ((h * 4294967296 + l) % d : Nat)]) ∧ ∃ n, w' = w.drewN n := by
 rw [← div32_q h l d hd hl hd2, ← div32_r h l d hd hl hd2]
 go_enter Tryz.func183, Tryz.ntmps183
 go_wp2
 go_quiet (fail)
 go_wp2
 go_ret2
 exact ⟨rfl, _, rfl⟩
end Go.Proofs.YtijkfagkbfbpmaaGreatDoor
