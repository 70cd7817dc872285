import Derived.Test.YtijkfagkbfbpmaaGreatDoorKByProof11
import Derived.Deep.QuietTactic
import Derived.BigQuiet
import Derived.Test.YtijkfagkbfbpmaaGreatDoorS0
set_option linter.unusedVariables false
set_option linter.unusedSimpArgs false
namespace Go.Proofs.YtijkfagkbfbpmaaGreatDoor
open Go.RowKit
/-- the number from 0 to m - 1 that is made of n -/
def aroundN (n : Int) (m : Nat) : Nat := (if n < 0 then (-(n + 1)).toNat else n.toNat) % m
theorem around_n (n : Int) (m : Nat) (w : World) (h1 : -9223372036854775808 ≤ n) (h2 : n ≤ 9223372036854775807) (hm : 0 < m) (hm2 : m ≤ 4611686018427387904) :
  Calls Tryz.prog 12 #[.int .i64 n, .int .i64 m] w fun e w' => ∃ k : Nat, e = .returned (.int .i64 k) ∧ k < m ∧ Hid (k = aroundN n m) ∧ w = w' := by
 by_cases hn : n < 0
 ·obtain ⟨x, hx⟩ : ∃ x : Nat, n = -(x : Int) - 1 := ⟨(-(n + 1)).toNat, by omega⟩; have hxl : x ≤ 9223372036854775807 := by omega
  subst hx
  have HX : Hid (aroundN (-(x : Int) - 1) m = x % m) := by
   show _ = _; unfold aroundN; rw [if_pos hn]; congr 1; omega
  have hlt := Nat.mod_lt x hm; clear h1 h2 hn; have t1 : decide (-(x : Int) - 1 < 0) = true := by simp; omega
  have t2 : IntKind.i64.wrap (-(x : Int) - 1 + 1) = -(x : Int) := by rw [IntWalk.i64_in _ (by omega)]; omega
  have t3 : IntKind.i64.wrap (- -(x : Int)) = (x : Int) := by rw [IntWalk.i64_in _ (by omega)]; omega
  go_enter Tryz.func12, Tryz.ntmps12
  go_wp2
  go_ret; exact ⟨x % m, rfl, hlt, HX.out.symm, rfl⟩
 ·obtain ⟨x, rfl⟩ := Int.eq_ofNat_of_zero_le (show 0 ≤ n by omega)
  have HX : Hid (aroundN (x : Int) m = x % m) := by
   show _ = _; unfold aroundN; rw [if_neg hn]; congr 1
  have hlt := Nat.mod_lt x hm; clear h1 hn
  go_enter Tryz.func12, Tryz.ntmps12
  go_wp2
  go_ret; exact ⟨x % m, rfl, hlt, HX.out.symm, rfl⟩
end Go.Proofs.YtijkfagkbfbpmaaGreatDoor
namespace Go.Proofs.YtijkfagkbfbpmaaGreatDoor
open Go.RowKit
theorem good_red {n d : Nat} (hd : 0 < d) (hf : Nm.Fits (n / Nat.gcd n d) (d / Nat.gcd n d)) : Nm.Good (n / Nat.gcd n d) (d / Nat.gcd n d) := by
 have hg : 0 < Nat.gcd n d := Nat.gcd_pos_of_pos_right _ hd; exact ⟨Nat.div_pos (Nat.gcd_le_right _ hd) hg, Nat.coprime_div_gcd_div_gcd hg, hf⟩
theorem fits_small {p q : Nat} (hp : p < Nm.B ^ 64) (hq : q < Nm.B ^ 64) : Nm.Fits p q := by
 refine ⟨Nm.lb_length_lt.2 hp, Nm.lb_length_lt.2 ?_⟩; unfold Nm.dn; split
 ·exact Nat.pow_pos Nm.B_pos
 ·exact hq
theorem RedP.small {w : World} {v : Value} {er : Int} {n d : Nat} (h : RedP w v er n d) (hd : 0 < d) (hn : n < Nm.B ^ 64) (hd2 : d < Nm.B ^ 64) :
  er = 0 ∧ Rat w v (n / Nat.gcd n d) (d / Nat.gcd n d) ∧ Nm.Good (n / Nat.gcd n d) (d / Nat.gcd n d) := by
 have hf : Nm.Fits (n / Nat.gcd n d) (d / Nat.gcd n d) := fits_small (Nat.lt_of_le_of_lt (Nat.div_le_self _ _) hn) (Nat.lt_of_le_of_lt (Nat.div_le_self _ _) hd2)
 rcases h with ⟨_, h2, h3⟩ | ⟨h1, _⟩
 ·exact ⟨h2, h3, good_red hd hf⟩
 ·exact absurd hf h1
theorem RedP.shape {w : World} {v : Value} {er : Int} {n d : Nat} (h : RedP w v er n d) : ∃ A1 k1 c1 A2 k2 c2, v = .agg #[.slice A1 k1 c1, .slice A2 k2 c2] := by
 obtain ⟨A, k, c, A', k', c', er', rfl, _⟩ := RedV.of h; exact ⟨A, k, c, A', k', c', rfl⟩
theorem b64 {n : Nat} (h : n < 18446744073709551616) : n < Nm.B ^ 64 := by
 refine Nat.lt_of_lt_of_le (Nat.lt_of_lt_of_eq h (show 18446744073709551616 = Nm.B ^ 2 by unfold Nm.B; rfl)) (Nat.pow_le_pow_right Nm.B_pos (by omega))
theorem b2 {n : Nat} (h : n < 18446744073709551616) : n < Nm.B ^ 2 := Nat.lt_of_lt_of_eq h (show 18446744073709551616 = Nm.B ^ 2 by unfold Nm.B; rfl)
set_option maxRecDepth 10000 in
set_option maxHeartbeats 400000 in
theorem rof_n (n d : Nat) (w : World) (hn : n ≤ 9223372036854775807) (hd : 0 < d) (hd2 : d ≤ 9223372036854775807) :
  Calls Tryz.prog 62 #[.int .i64 n, .int .i64 d] w fun e w' => ∃ v er, e = .returned (.tuple #[v, .int .i64 er]) ∧ RedP w' v er n d ∧ Below w.heap.size w w' := by
 have hnl : n < 18446744073709551616 := by omega
 have hdl : d < 18446744073709551616 := by omega
 have HN := Lib.hid (b2 hnl); have HD := Lib.hid (b2 hdl); clear hnl hdl
 go_enter Tryz.func62, Tryz.ntmps62
 go_wp2_with fail; refine (rwhole_n n _ (by omega)).mono ?_; rintro e w1 ⟨A1, k1, c1, rfl, hn1, hb1⟩; go_wp2_with fail; refine (rwhole_n d _ (by omega)).mono ?_; rintro e w2 ⟨A2, k2, c2, rfl, hn2, hb2⟩; have hk1 := hn1.lek HN.out; have hk2 := hn2.lek HD.out; go_wp2_with fail; refine (rreduced_n _ _ _ _ _ _ n d _ (hn1.below hb2) hn2 (by omega) (by omega) hd).mono ?_; rintro e w3 ⟨v, er, rfl, hP, hb3⟩; obtain ⟨A, k, c, A', k', c', rfl⟩ := hP.shape; have hb123 := Below.tr hb1 (Below.tr hb2 hb3); have hres := Res.below (Res.new w) hb123; obtain ⟨r1, r2, r3, r4⟩ := hres.facts; obtain ⟨s1, s2⟩ := hres.set2 (.slice A k c) (.slice A' k' c'); have HP := Lib.hid (hP.map (fun A2 k2 c2 x h => (h.setSl (i := 0) hres.sl (.slice A k c)).setSl (i := 1) (hres.sl.set0 _ _ _) (.slice A' k' c'))); have hbw := Below.tr (bA w _) hb123; clear hP hb1 hb2 hb3 hb123; go_wp2_with fail; exact bodyPost_ret (v := .tuple #[.agg #[.slice A k c, .slice A' k' c'], .int .i64 er]) (by simp [results, Tryz.results62, go_sem, s1, s2]) rfl ⟨_, _, rfl, HP.out, below_set2 hbw (Nat.le_refl _) _ _⟩
theorem whole_n (n : Nat) (w : World) (hn : n < 18446744073709551616) :
  Calls Tryz.prog 105 #[.int .u64 n] w fun e w' => ∃ A k c, e = .returned (.slice A k c) ∧ Nb w' A k c n ∧ Below w.heap.size w w' := by
 refine (whole_any n w hn).mono ?_; rintro e w' ⟨A, k, rfl, hk, hl, hb⟩; exact ⟨A, k, k, rfl, ⟨hk, hl⟩, hb⟩
set_option maxRecDepth 10000 in
set_option maxHeartbeats 400000 in
theorem of_n (n d : Nat) (w : World) (hn : n ≤ 9223372036854775807) (hd : 0 < d) (hd2 : d ≤ 9223372036854775807) :
  Calls Tryz.prog 58 #[.int .i64 n, .int .i64 d] w fun e w' => ∃ v er, e = .returned (.tuple #[v, .int .i64 er]) ∧ RedP w' v er n d ∧ Below w.heap.size w w' := by
 have hnl : n < 18446744073709551616 := by omega
 have hdl : d < 18446744073709551616 := by omega
 have HN := Lib.hid (b2 hnl); have HD := Lib.hid (b2 hdl); clear hnl hdl
 go_enter Tryz.func58, Tryz.ntmps58
 go_wp2_with fail; refine (whole_n n _ (by omega)).mono ?_; rintro e w1 ⟨A1, k1, c1, rfl, hn1, hb1⟩; go_wp2_with fail; refine (whole_n d _ (by omega)).mono ?_; rintro e w2 ⟨A2, k2, c2, rfl, hn2, hb2⟩; have hk1 := hn1.lek HN.out; have hk2 := hn2.lek HD.out; go_wp2_with fail; refine (reduced_n _ _ _ _ _ _ n d _ (hn1.below hb2) hn2 (by omega) (by omega) hd).mono ?_; rintro e w3 ⟨v, er, rfl, hP, hb3⟩; obtain ⟨A, k, c, A', k', c', rfl⟩ := hP.shape; have hb123 := Below.tr hb1 (Below.tr hb2 hb3); have hres := Res.below (Res.new w) hb123; obtain ⟨r1, r2, r3, r4⟩ := hres.facts; obtain ⟨s1, s2⟩ := hres.set2 (.slice A k c) (.slice A' k' c'); have HP := Lib.hid (hP.map (fun A2 k2 c2 x h => (h.setSl (i := 0) hres.sl (.slice A k c)).setSl (i := 1) (hres.sl.set0 _ _ _) (.slice A' k' c'))); have hbw := Below.tr (bA w _) hb123; clear hP hb1 hb2 hb3 hb123; go_wp2_with fail; exact bodyPost_ret (v := .tuple #[.agg #[.slice A k c, .slice A' k' c'], .int .i64 er]) (by simp [results, Tryz.results58, go_sem, s1, s2]) rfl ⟨_, _, rfl, HP.out, below_set2 hbw (Nat.le_refl _) _ _⟩
end Go.Proofs.YtijkfagkbfbpmaaGreatDoor
namespace Go.Proofs.YtijkfagkbfbpmaaGreatDoor.Nm
open Go.Proofs.YtijkfagkbfbpmaaGreatDoor
/-- the n-th power does not fit, or is at most the limit -/
def Stop (p q a b n : Nat) : Prop := ¬ Fits (p ^ n) (q ^ n) ∨ p ^ n * b ≤ a * q ^ n
theorem dn_inj {q r : Nat} (hq : 0 < q) (hr : 0 < r) (h : dn q = dn r) : q = r := by
 unfold dn at h; split at h <;> split at h <;> omega
end Go.Proofs.YtijkfagkbfbpmaaGreatDoor.Nm
namespace Go.Proofs.YtijkfagkbfbpmaaGreatDoor
open Go.RowKit
theorem Rat.map {w w' : World} {v : Value} {p q : Nat} (h : Rat w v p q) (hm : ∀ A k c x, Nb w A k c x → Nb w' A k c x) : Rat w' v p q := by
 obtain ⟨A1, k1, c1, A2, k2, c2, rfl, h1, h2⟩ := h; exact ⟨A1, k1, c1, A2, k2, c2, rfl, hm _ _ _ _ h1, hm _ _ _ _ h2⟩
theorem Box.sl {w : World} {g : Nat} {A A' : Option Addr} {k c k' c' : Nat} (h : Box w g (.slice A k c) (.slice A' k' c')) : Sl w g := ⟨_, _, _, _, _, _, h⟩
theorem Sl.keep2 {w : World} {g : Nat} (h : Sl w g) (A A' : Option Addr) (k c k' c' : Nat) : ∀ A2 k2 c2 x, Nb w A2 k2 c2 x → Nb ((w.setCell ⟨g, 0, none⟩ (.slice A k c)).setCell ⟨g, 1, none⟩ (.slice A' k' c')) A2 k2 c2 x :=
 fun _ _ _ _ hn => (hn.setSl h _).setSl (h.set0 _ _ _) _
theorem RtL.limb {w : World} {v : Value} {l1 l2 : List Nat} (h : RtL w v l1 l2) : Nm.Lim l1 ∧ Nm.Lim l2 := by
 obtain ⟨A1, k1, c1, A2, k2, c2, rfl, h1, h2, _⟩ := h; exact ⟨h1.limb, h2.limb⟩
theorem RtL.rat {w : World} {v : Value} {p q : Nat} (h : RtL w v (Nm.lb p) (Nm.lb (Nm.dn q))) : Rat w v p q := by
 obtain ⟨A1, k1, c1, A2, k2, c2, rfl, h1, h2, e1, e2⟩ := h; exact ⟨A1, k1, c1, A2, k2, c2, rfl, ⟨e1, h1⟩, ⟨e2, h2⟩⟩
end Go.Proofs.YtijkfagkbfbpmaaGreatDoor
namespace Go.Proofs.YtijkfagkbfbpmaaGreatDoor
open Go.RowKit
def sameB (l1 l2 : List Nat) : Bool := decide (l1 = l2)
theorem take_same {l1 l2 : List Nat} {i a b : Nat} (hi : i < l1.length) (hl : l1.length = l2.length) (h : l1.take i = l2.take i) (ha : a = l1.getD i 0) (hb : b = l2.getD i 0) (hab : a = b) : l1.take (i + 1) = l2.take (i + 1) := by
 rw [List.take_succ_eq_append_getElem hi, List.take_succ_eq_append_getElem (by omega), h]
 congr 2
 rw [← Nm.getD_of_lt hi, ← Nm.getD_of_lt (show i < l2.length by omega), ← ha, ← hb, hab]
set_option maxRecDepth 10000 in
set_option maxHeartbeats 400000 in
theorem samel_any (A1 A2 : Option Addr) (k1 c1 k2 c2 : Nat) (l1 l2 : List Nat) (w : World) (h1 : Lim w A1 c1 l1) (h2 : Lim w A2 c2 l2) (e1 : k1 = l1.length) (e2 : k2 = l2.length) :
  Calls Tryz.prog 100 #[.slice A1 k1 c1, .slice A2 k2 c2] w fun e w' => ∃ b, e = .returned (.bool b) ∧ Hid (b = sameB l1 l2) ∧ Below w.heap.size w w' := by
 have hkb1 : k1 ≤ 9223372036854775807 := by have := h1.2.1; have := h1.2.2.1; omega
 have E1 := Lib.hid e1; have E2 := Lib.hid e2; by_cases hk : k1 = k2
 ·subst hk; clear e1 e2
  go_enter Tryz.func100, Tryz.ntmps100
  go_wp2
  go_loopg [5] k1 (fun j x wr => ∃ i : Nat, x = .int .i64 i ∧ i + j = k1 ∧ Hid (l1.take i = l2.take i) ∧ ∃ nq, wr = w.drewN nq)
  case atStart => exact ⟨0, rfl, by omega, by show _ = _; simp, 0, rfl⟩
  case round =>
   obtain ⟨i, rfl, hij, HT, nq, rfl⟩ := hrel; by_cases hi : i < k1
   ·obtain ⟨b1, o1, a, rfl, hca, ha, HA⟩ := h1.get (k := i) (by have := E1.out; omega); obtain ⟨b2, o2, b, rfl, hcb, hb, HB⟩ := h2.get (k := i) (by have := E2.out; omega); by_cases hab : a = b
    ·have HT2 : Hid (l1.take (i + 1) = l2.take (i + 1)) := take_same (by have := E1.out; omega) (by rw [← E1.out, ← E2.out]) HT.out HA.out HB.out hab; have hd : ((a : Int) != (b : Int)) = false := by rw [hab]; simp
     clear hab; go_wp2_with fail
     go_quiet (fail)
     go_wp2_with fail
     go_roundg (gk - 1)
     case measure => omega
     case rel => exact ⟨i + 1, by go_num, by omega, HT2, _, rfl⟩
    ·have hd : ((a : Int) != (b : Int)) = true := by simp; omega
     have HF : Hid (false = sameB l1 l2) := by
      show _ = _; unfold sameB; symm; rw [decide_eq_false_iff_not]
      rintro rfl; exact hab (HA.out.trans HB.out.symm)
     clear hab; go_wp2_with fail
     go_quiet (fail)
     go_wp2_with fail; go_ret; exact ⟨_, rfl, HF, Below.tr (below_drewN _ _) (below_drewN _ _)⟩
   ·obtain rfl : k1 = i := by omega
    have HF : Hid (true = sameB l1 l2) := by
     show _ = _; unfold sameB; symm; rw [decide_eq_true_iff]
     have := HT.out
     rwa [List.take_of_length_le (by rw [← E1.out]; omega), List.take_of_length_le (by rw [← E2.out]; omega)] at this
    go_wp2_with fail; go_ret; exact ⟨_, rfl, HF, below_drewN _ _⟩
 ·have HF : Hid (false = sameB l1 l2) := by
   show _ = _; unfold sameB; symm; rw [decide_eq_false_iff_not]
   rintro rfl; exact hk (e1.trans e2.symm)
  have hd : ((k1 : Int) != (k2 : Int)) = true := by simp; omega
  clear e1 e2 hk
  go_enter Tryz.func100, Tryz.ntmps100
  go_wp2
  go_ret; exact ⟨_, rfl, HF, Below.refl _ _⟩
theorem RtL.nb {A1 A2 : Option Addr} {k1 c1 k2 c2 : Nat} {l1 l2 : List Nat} {w : World} (h : RtL w (.agg #[.slice A1 k1 c1, .slice A2 k2 c2]) l1 l2) : Lim w A1 c1 l1 ∧ Lim w A2 c2 l2 ∧ k1 = l1.length ∧ k2 = l2.length := by
 obtain ⟨A1', k1', c1', A2', k2', c2', e, h⟩ := h; simp only [Value.agg.injEq, Array.mk.injEq, List.cons.injEq, Value.slice.injEq, and_true] at e; obtain ⟨⟨rfl, rfl, rfl⟩, rfl, rfl, rfl⟩ := e; exact h
/-- two ratios are one, limb by limb -/
def sameR (l1 l2 l3 l4 : List Nat) : Bool := sameB l1 l3 && sameB l2 l4
set_option maxRecDepth 10000 in
set_option maxHeartbeats 400000 in
theorem same_any (va vb : Value) (L1 L2 L3 L4 : List Nat) (w : World) (ha : RtL w va L1 L2) (hb : RtL w vb L3 L4) :
  Calls Tryz.prog 56 #[va, vb] w fun e w' => ∃ b, e = .returned (.bool b) ∧ Hid (b = sameR L1 L2 L3 L4) ∧ Below w.heap.size w w' := by
 obtain ⟨A1, k1, c1, A2, k2, c2, rfl⟩ := ha.shape; obtain ⟨B1, l1, d1, B2, l2, d2, rfl⟩ := hb.shape; obtain ⟨W, HW⟩ : ∃ W, Hid (W = (w.alloc (.cells #[.slice A1 k1 c1, .slice A2 k2 c2] 29)).alloc (.cells #[.slice B1 l1 d1, .slice B2 l2 d2] 29)) := ⟨_, rfl⟩; have hbw : Below w.heap.size w W := by rw [HW.out]; exact Below.tr (bA _ _) (bA _ _)
 have hx1 : Box W w.heap.size (.slice A1 k1 c1) (.slice A2 k2 c2) := by rw [HW.out]; exact Box.below (Blk.new w _ _) (bA _ _)
 have hx2 : Box W (w.heap.size + 1) (.slice B1 l1 d1) (.slice B2 l2 d2) := by
  rw [HW.out]; have := Blk.new (w.alloc (.cells #[.slice A1 k1 c1, .slice A2 k2 c2] 29)) 29 #[.slice B1 l1 d1, .slice B2 l2 d2]; unfold Box; simpa using this
 obtain ⟨a1, a2, a3, a4⟩ := (ha.below hbw).nb; obtain ⟨b1, b2, b3, b4⟩ := (hb.below hbw).nb; have A3 := Lib.hid a3; have A4 := Lib.hid a4; have B3 := Lib.hid b3; have B4 := Lib.hid b4; clear a3 a4 b3 b4
 go_enter Tryz.func56, Tryz.ntmps56
 go_wp2_with fail; rw [← HW.out]; refine (samel_any _ _ _ _ _ _ L1 L3 _ a1 b1 A3.out B3.out).mono ?_; rintro e W2 ⟨x, rfl, HX, hbe⟩; obtain ⟨f1, f2⟩ := (hx1.below hbe).facts; obtain ⟨f3, f4⟩ := (hx2.below hbe).facts
 cases x
 ·go_wp2_with fail; go_ret; exact ⟨_, rfl, by show _ = _; unfold sameR; rw [← HX.out]; rfl, Below.tr hbw hbe⟩
 ·go_wp2_with fail; refine (samel_any _ _ _ _ _ _ L2 L4 _ (a2.below hbe) (b2.below hbe) A4.out B4.out).mono ?_; rintro e W3 ⟨y, rfl, HY, hbe3⟩; go_wp2_with fail; go_ret; exact ⟨_, rfl, by show _ = _; unfold sameR; rw [← HX.out, ← HY.out]; simp, Below.tr hbw (Below.tr hbe hbe3)⟩
end Go.Proofs.YtijkfagkbfbpmaaGreatDoor
namespace Go.Proofs.YtijkfagkbfbpmaaGreatDoor
open Go.RowKit
end Go.Proofs.YtijkfagkbfbpmaaGreatDoor
namespace Go.Proofs.YtijkfagkbfbpmaaGreatDoor
open Go
/- The same with a ghost beside the world: 'what belongs to whom'. -/
section
variable {P : Program} {ops : Array Oper} {Q : Exit → Act → World → Prop} {md : Region.Mode} {Γ : Type}
theorem wpAny_invg (Φ : Γ → Nat → World → Value → Prop) (R : Γ → World → Γ → World → Prop) (S : Γ → World → Prop) (a0 : Act) (hd : apartL ops.toList = true) (hb : backB ops = true)
  (hΦ : ∀ γ w γ' w', R γ w γ' w' → ∀ j x, Φ γ j w x → Φ γ' j w' x) (hS : ∀ γ w γ' w', R γ w γ' w' → S γ w → S γ' w')
  (hstep : ∀ i o, ops[i]? = some o → ∀ vs γ w, S γ w → (∀ e ∈ o.after, Region.binds md e = true → Φ γ e.on w (vs e.on)) →
   ∀ K : Act → World → Prop, (∀ v γ' w', R γ w γ' w' → Φ γ' i w' v → K ((fillR ops.toList 0 vs a0).put o.dst v) w') →
    if Region.wanted o (yielded ops (fillR ops.toList 0 vs a0).tmps) = true then Oper.wp P o (fillR ops.toList 0 vs a0) w K Q else K ((fillR ops.toList 0 vs a0).put o.dst undef) w)
  (hend : ∀ vs γ w, S γ w → (∀ i, i < ops.size → Φ γ i w (vs i)) → Q .normal (fillR ops.toList 0 vs a0) w) :
  ∀ (fuel : Nat) (listed : Array Bool) (vs : Nat → Value) (γ : Γ) (w : World), listed.size = ops.size → listed.toList.count false = fuel → S γ w → (∀ j, listed.getD j false = true → Φ γ j w (vs j)) →
   wpAny P md ops Q fuel listed (fillR ops.toList 0 vs a0) w := by
 intro fuel
 induction fuel with
 | zero =>
  intro listed vs γ w hs hc hSw hl
  have hall : ∀ i, i < ops.size → listed.getD i false = true := by
   intro i hi; have h' : i < listed.size := by omega
   rw [List.count_eq_zero] at hc
   cases hx : listed.getD i false with
   | true => rfl
   | false =>
    exfalso
    apply hc
    simp [h'] at hx; rw [← hx]; exact Array.getElem_mem_toList h'
  refine ⟨?_, hend vs γ w hSw (fun i hi => hl i (hall i hi))⟩; rw [List.eq_nil_iff_forall_not_mem]; intro i hi; obtain ⟨h1, o, ho, _⟩ := mem_ready.1 hi; have hi' : i < ops.size := (Array.getElem?_eq_some_iff.1 ho).1; have h2 := hall i hi'; have h' : i < listed.size := by omega
  simp [h'] at h1 h2; rw [h1] at h2
  cases h2
 | succ fuel ih =>
  intro listed vs γ w hs hc hSw hl; refine ⟨fun hr => hend vs γ w hSw (fun i hi => hl i (all_listed hb hs hr i hi)), fun i hi => ?_⟩; obtain ⟨h1, o, ho, hall⟩ := mem_ready.1 hi; have hi' : i < ops.size := (Array.getElem?_eq_some_iff.1 ho).1; have hil : i < listed.size := by omega
  refine wpOp_step ho fun K' hK => ?_
  refine hstep i o ho vs γ w hSw (fun e he hbd => hl e.on (hall e he hbd)) K' fun v γ' w' hR hv => ?_
  apply hK
  rw [fillR_upd ops.toList 0 i vs a0 o v hd (by simpa using ho), Nat.zero_add]; refine ih _ _ γ' _ (by simp [hs]) ?_ (hS _ _ _ _ hR hSw) ?_
  ·have h1' : listed.toList[i]'(by simpa using hil) = false := by simp [hil] at h1; simpa using h1
   simp only [Array.toList_setIfInBounds]; rw [List.count_set (by simpa using hil), h1', hc]; simp
  ·intro j hj; by_cases hji : j = i
   ·subst hji; rw [show upd vs j v j = v from if_pos rfl]; exact hv
   ·rw [show upd vs i v j = vs j from if_neg hji]; refine hΦ _ _ _ _ hR j _ (hl j ?_); simp [Array.getElem?_setIfInBounds, Ne.symm hji] at hj
    simpa using hj
/-- what an operation owes, with a ghost -/
def OwesG (P : Program) (Q : Exit → Act → World → Prop) (l : List Oper) (a0 : Act) (Φ : Γ → Nat → World → Value → Prop) (R : Γ → World → Γ → World → Prop) (S : Γ → World → Prop) (i : Nat) (o : Oper) : Prop :=
 ∀ vs γ w, S γ w → (∀ e ∈ o.after.toList, Region.binds .any e = true → Φ γ e.on w (vs e.on)) → ∀ K : Act → World → Prop, (∀ v γ' w', R γ w γ' w' → Φ γ' i w' v → K ((fillR l 0 vs a0).put o.dst v) w') →
  Wrap (if Region.wanted o (yielded l.toArray (fillR l 0 vs a0).tmps) = true then Oper.wp P o (fillR l 0 vs a0) w K Q else K ((fillR l 0 vs a0).put o.dst undef) w)
theorem region_invg {id : Nat} {a0 : Act} {w : World} {l : List Oper} (Φ : Γ → Nat → World → Value → Prop) (R : Γ → World → Γ → World → Prop) (S : Γ → World → Prop) (γ0 : Γ) (hm : P.follows .mixedOrders = true) (hd : apartL l = true) (hb : backB l.toArray = true)
  (hΦ : ∀ γ w γ' w', R γ w γ' w' → ∀ j x, Φ γ j w x → Φ γ' j w' x) (hS : ∀ γ w γ' w', R γ w γ' w' → S γ w → S γ' w') (hS0 : S γ0 w.drew)
  (hstep : StepsL (OwesG P Q l a0 Φ R S) 0 l)
  (hend : ∀ vs γ w, S γ w → (∀ i, i < l.length → Φ γ i w (vs i)) → Q .normal (fillR l 0 vs a0) w) : (Code.region id l.toArray true).wp P Q a0 w := by
 refine wp_region_any hm ?_
 have h := wpAny_invg (P := P) (Q := Q) (md := .any) (ops := l.toArray) Φ R S a0 hd hb hΦ hS (fun i o ho vs γ w hSw hdep K hK => by
  have := hstep i o (by simpa using ho); rw [Nat.zero_add] at this
  exact (this vs γ w hSw (fun e he hbd => hdep e (by simpa using he) hbd) K hK).un) (fun vs γ w hSw h => hend vs γ w hSw (fun i hi => h i (by simpa using hi))) l.toArray.size (Array.replicate l.toArray.size false) (ownV l a0) γ0 w.drew (by simp) (by simp) hS0 (fun j hj => by rw [repF] at hj; cases hj)
 rw [fillR_id] at h
 ·exact h
 ·intro j o ho d hd'; rw [Nat.zero_add]; unfold ownV; rw [ho]; simp [hd']
end
end Go.Proofs.YtijkfagkbfbpmaaGreatDoor
