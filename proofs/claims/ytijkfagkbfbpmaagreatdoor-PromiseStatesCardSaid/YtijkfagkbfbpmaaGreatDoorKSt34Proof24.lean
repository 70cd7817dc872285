import Derived.Test.YtijkfagkbfbpmaaGreatDoorKSt34Proof23
import Derived.Test.YtijkfagkbfbpmaaGreatDoorKSt34Proof03
import Derived.WalkMore
import Derived.Deep.CutRange
import Derived.Deep.CutBlock
import Derived.Test.YtijkfagkbfbpmaaGreatDoorKSt34Proof01
import Derived.Test.YtijkfagkbfbpmaaGreatDoorS0
set_option linter.unusedVariables false
set_option linter.unusedSimpArgs false
namespace Go.Proofs.YtijkfagkbfbpmaaGreatDoor
open Go Go.RowKit
def u8C (n : Nat) : List Value := [.int .u8 (n : Int)]
theorem u8C_len (n : Nat) : (u8C n).length = 1 := rfl
/-- a slice of bytes -/
def By (w : World) (A : Option Addr) (k c : Nat) (l : List Nat) : Prop := RowL u8C w A k l ∧ k ≤ c ∧ c ≤ 9223372036854775807 ∧ (∀ x ∈ l, x < 256) ∧ (0 < c → ∃ b o, A = some ⟨b, o, none⟩)
theorem By.below {w w' : World} {A : Option Addr} {k c : Nat} {l : List Nat} (h : By w A k c l) (hb : Below w.heap.size w w') : By w' A k c l := ⟨h.1.below hb, h.2⟩
theorem By.len {w : World} {A : Option Addr} {k c : Nat} {l : List Nat} (h : By w A k c l) : k = l.length := h.1.2.1
theorem By.get {w : World} {A : Option Addr} {k c : Nat} {l : List Nat} (h : By w A k c l) {i : Nat} (hi : i < k) : ∃ b off, ∃ n : Nat, A = some ⟨b, off, none⟩ ∧ w.cell? ⟨b, off + i, none⟩ = some (.int .u8 (n : Int)) ∧ n < 256 ∧ Hid (l[i]? = some n) := by
 have hl := h.len; obtain ⟨b, off, e, hc⟩ := h.1.at_ u8C_len (by omega) hi (by omega); refine ⟨b, off, l[i], e, ?_, h.2.2.2.1 _ (List.getElem_mem _), List.getElem?_eq_getElem (by omega)⟩; have := hc.out 0 _ rfl
 simpa using this
theorem flat_u8 (l : List Nat) : (l.flatMap u8C).length = l.length := by rw [flat_len u8C_len, Nat.mul_one]
/-- a row of bytes of the call's own -/
def OwnB (w : World) (base : Nat) (v : Value) (l : List Nat) : Prop := w.ownsRow base 5 1 v l.length (l.flatMap u8C) ∧ ∀ x ∈ l, x < 256
theorem OwnB.shp {w : World} {base : Nat} {v : Value} {l : List Nat} (h : OwnB w base v l) : ∃ A c, v = .slice A l.length c := own_shp h.1
theorem OwnB.below {w w' : World} {base : Nat} {v : Value} {l : List Nat} (h : OwnB w base v l) (hb : Below w.heap.size w w') : OwnB w' base v l := ⟨own_below h.1 hb, h.2⟩
theorem OwnB.mono {w : World} {base base' : Nat} {v : Value} {l : List Nat} (h : OwnB w base v l) (hb : base' ≤ base) : OwnB w base' v l := ⟨own_mono h.1 hb, h.2⟩
theorem OwnB.ge {w : World} {base : Nat} {v : Value} {l : List Nat} (h : OwnB w base v l) : ∀ k, v.ownBlock = some k → base ≤ k := own_block_ge h.1
theorem OwnB.nil (w : World) (base : Nat) : OwnB w base (.slice none 0 0) [] := ⟨World.ownsRow_nil _ _ _ _, fun x h => by cases h⟩
theorem OwnB.by_ {w : World} {base : Nat} {A : Option Addr} {k c : Nat} {l : List Nat} (h : OwnB w base (.slice A k c) l) (hl : l.length ≤ 281474976710656) : By w A k c l := by
 obtain ⟨A', c', e⟩ := h.shp; injection e with e1 e2 e3; subst e1 e2 e3; have h2 := h.1; obtain ⟨r1, r2, r3⟩ := own_any u8C_len (by omega) hl h2; refine ⟨⟨r1, r2, by omega⟩, ?_, ?_, h.2, ?_⟩
 ·rcases h2.2 with ⟨e1, e2⟩ | ⟨g, cap, cur, e1, _, _, e3, _⟩
  ·injection e1 with _ e4 e5; omega
  ·injection e1 with _ e4 e5; omega
 ·rcases h2.2 with ⟨e1, e2⟩ | ⟨g, cap, cur, e1, _, _, e3, e4, _⟩
  ·injection e1 with _ e4 e5; omega
  ·injection e1 with _ e5 e6; simp only [maxLen] at e4; omega
 ·intro hc
  rcases h2.2 with ⟨e1, e2⟩ | ⟨g, cap, cur, e1, _⟩
  ·injection e1 with _ e4 e5; omega
  ·injection e1 with e4 _ _; exact ⟨g, 0, e4⟩
/-- one byte in a block of its own -/
theorem OwnB.one (w : World) (d : Nat) (hd : d < 256) : OwnB (w.alloc (.cells #[.int .u8 (d : Int)] 5)) w.heap.size (.slice (some ⟨w.heap.size, 0, none⟩) 1 1) [d] :=
 ⟨⟨rfl, .inr ⟨_, 1, #[.int .u8 (d : Int)], rfl, Nat.le_refl _, heap_alloc_new w _, Nat.le_refl _, by unfold maxLen; omega, rfl, rfl⟩⟩, fun x hx => by simp at hx; omega⟩
theorem info_u8 : (Tryz.prog.info? 5).map (fun i => (i.zero, i.size, i.bytes)) = some (some (.int .u8 0), 1, 1) := by kernel_rfl
theorem By.one {w : World} {g : Nat} {d : Nat} (h : Rd w (some ⟨g, 0, none⟩) [.int .u8 (d : Int)]) (hd : d < 256) : By w (some ⟨g, 0, none⟩) 1 1 [d] := ⟨⟨h, rfl, by omega⟩, Nat.le_refl _, by omega, fun x hx => (by simp at hx; omega), fun _ => ⟨g, 0, rfl⟩⟩
theorem By.new (w : World) (d : Nat) (hd : d < 256) : By (w.alloc (.cells #[.int .u8 (d : Int)] 5)) (some ⟨w.heap.size, 0, none⟩) 1 1 [d] := By.one (Rd.newC w 5 [.int .u8 (d : Int)]) hd
/- numbers -/
end Go.Proofs.YtijkfagkbfbpmaaGreatDoor
namespace Go.Proofs.YtijkfagkbfbpmaaGreatDoor.Nm
/-- the last k decimal digits of a number, the greatest first -/
def padD : Nat → Nat → List Nat
 | 0, _ => []
 | k + 1, n => padD k (n / 10) ++ [n % 10]
/-- the decimal digits of a number, the greatest first -/
def decF : Nat → Nat → List Nat
 | 0, n => [n % 10]
 | f + 1, n => if n < 10 then [n] else decF f (n / 10) ++ [n % 10]
def decD (n : Nat) : List Nat := decF n n
theorem padD_len : ∀ (k n : Nat), (padD k n).length = k
 | 0, _ => rfl
 | k + 1, n => by rw [padD, List.length_append, padD_len k]; rfl
theorem padD_cons : ∀ (k n : Nat), padD (k + 1) n = (n / 10 ^ k % 10) :: padD k n
 | 0, n => by simp [padD]
 | k + 1, n => by
  rw [padD, padD_cons k (n / 10), padD, List.cons_append, Nat.div_div_eq_div_mul, Nat.pow_succ, Nat.mul_comm]
theorem padD_lt : ∀ (k n : Nat), ∀ d ∈ padD k n, d < 10
 | 0, _, _, h => absurd h List.not_mem_nil
 | k + 1, n, d, h => by
  rw [padD] at h
  rcases List.mem_append.1 h with h | h
  ·exact padD_lt k _ d h
  ·rw [List.mem_singleton.1 h]; omega
theorem decF_fuel : ∀ (f g n : Nat), n ≤ f → n ≤ g → decF f n = decF g n
 | 0, 0, _, _, _ => rfl
 | 0, g + 1, n, h, _ => by
  obtain rfl : n = 0 := by omega
  rw [decF, decF, if_pos (by omega)]
 | f + 1, 0, n, _, h => by
  obtain rfl : n = 0 := by omega
  rw [decF, decF, if_pos (by omega)]
 | f + 1, g + 1, n, hf, hg => by
  rw [decF, decF]; by_cases h : n < 10
  ·rw [if_pos h, if_pos h]
  ·rw [if_neg h, if_neg h, decF_fuel f g (n / 10) (by omega) (by omega)]
theorem decD_small {n : Nat} (h : n < 10) : decD n = [n] := by
 unfold decD
 cases n with
 | zero => rfl
 | succ n => rw [decF, if_pos h]
theorem decD_step {n : Nat} (h : 10 ≤ n) : decD n = decD (n / 10) ++ [n % 10] := by
 unfold decD; obtain ⟨m, rfl⟩ : ∃ m, n = m + 1 := ⟨n - 1, by omega⟩; rw [decF, if_neg (by omega), decF_fuel m ((m + 1) / 10) _ (by omega) (Nat.le_refl _)]
theorem dropW_zeros : ∀ (k : Nat) (l : List Nat), ((padD k 0) ++ l).dropWhile (· == 0) = l.dropWhile (· == 0)
 | 0, l => rfl
 | k + 1, l => by
  rw [padD_cons, Nat.zero_div, List.cons_append, List.dropWhile_cons_of_pos (by simp), dropW_zeros k l]
theorem dropW_app {l m : List Nat} (h : l.dropWhile (· == 0) ≠ []) : (l ++ m).dropWhile (· == 0) = l.dropWhile (· == 0) ++ m := by
 induction l with
 | nil => exact absurd rfl h
 | cons a l ih =>
  rw [List.cons_append]; by_cases ha : (a == 0) = true
  ·have e1 : ∀ t : List Nat, (a :: t).dropWhile (· == 0) = t.dropWhile (· == 0) := fun t => List.dropWhile_cons_of_pos ha
   rw [e1] at h; rw [e1, e1]; exact ih h
  ·have e2 : ∀ t : List Nat, (a :: t).dropWhile (· == 0) = a :: t := fun t => List.dropWhile_cons_of_neg ha
   rw [e2, e2]; rfl
theorem decD_ne (n : Nat) : decD n ≠ [] := by
 rcases Nat.lt_or_ge n 10 with h | h
 ·rw [decD_small h]; simp
 ·rw [decD_step h]; simp
/-- the digits without leading noughts -/
theorem pad_dec : ∀ (k n : Nat), n < 10 ^ k → 0 < n → (padD k n).dropWhile (· == 0) = decD n
 | 0, n, h, h0 => by simp at h; omega
 | k + 1, n, h, h0 => by
  rw [padD]
  rcases Nat.lt_or_ge n 10 with h1 | h1
  ·rw [show n / 10 = 0 by omega, dropW_zeros, decD_small h1, show n % 10 = n by omega, List.dropWhile_cons_of_neg (by simp; omega)]
  ·have ih := pad_dec k (n / 10) (by rw [Nat.pow_succ] at h; omega) (by omega); rw [dropW_app (by rw [ih]; exact decD_ne _), ih, ← decD_step h1]
theorem pad_zero (k : Nat) : (padD k 0).dropWhile (· == 0) = [] := by
 have := dropW_zeros k []
 rwa [List.append_nil] at this
/-- the decimal digits as bytes -/
def decS (n : Nat) : ByteArray := ⟨((decD n).map fun d => UInt8.ofNat (48 + d)).toArray⟩
theorem ten_two (k : Nat) : (2 : Nat) ^ (93 * k) ≤ 10 ^ (28 * k) := by
 rw [Nat.pow_mul, Nat.pow_mul]; exact Nat.pow_le_pow_left (by decide) k
theorem bpow (k : Nat) : B ^ k = 2 ^ (32 * k) := by
 unfold B; rw [show (4294967296 : Nat) = 2 ^ 32 by decide, Nat.pow_mul]
theorem bpow_le {k e : Nat} (h : 32 * k ≤ e) : B ^ k ≤ 2 ^ e := by
 rw [bpow]; exact Nat.pow_le_pow_right (by omega) h
theorem ten_two3 (k : Nat) : (2 : Nat) ^ (93 * k + 3) ≤ 10 ^ (28 * k + 1) := by
 rw [Nat.pow_add, Nat.pow_add]; exact Nat.mul_le_mul (ten_two k) (by decide)
theorem lim_k {k e : Nat} (h1 : 2048 ≤ 93 * k + 3) (h2 : 28 * k + 1 ≤ e) : B ^ 64 ≤ 10 ^ e :=
 Nat.le_trans (bpow_le (by omega)) (Nat.le_trans (ten_two3 k) (Nat.pow_le_pow_right (by omega) h2))
theorem lim_ten {e : Nat} (h : 617 ≤ e) : B ^ 64 ≤ 10 ^ e := lim_k (k := 22) (by omega) (by omega)
theorem pow_chunk {n c : Nat} (h : n < B ^ 64) (hx : n / 10 ^ (9 * c) ≠ 0) : c ≤ 68 := by
 rcases Nat.lt_or_ge 68 c with h1 | h1
 ·exfalso
  apply hx
  apply Nat.div_eq_of_lt
  exact Nat.lt_of_lt_of_le h (lim_ten (by omega))
 ·exact h1
end Go.Proofs.YtijkfagkbfbpmaaGreatDoor.Nm
