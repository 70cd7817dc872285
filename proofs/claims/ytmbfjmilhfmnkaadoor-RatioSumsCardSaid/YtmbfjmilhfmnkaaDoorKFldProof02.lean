import Derived.Test.YtmbfjmilhfmnkaaDoorKFldProof01
import Derived.Test.YtmbfjmilhfmnkaaDoorKCntProof33
import Derived.Test.YtmbfjmilhfmnkaaDoorKCntProof15
import Derived.Test.YtmbfjmilhfmnkaaDoorKCntProof23
import Derived.Test.YtmbfjmilhfmnkaaDoorKCntProof34
import Derived.Test.YtmbfjmilhfmnkaaDoorKCntProof35
import Derived.Test.YtmbfjmilhfmnkaaDoorS0
set_option linter.unusedVariables false
set_option linter.unusedSimpArgs false
namespace Go.Proofs.YtmbfjmilhfmnkaaDoor
open Go Go.RowKit
/-- the plain law of RatioOrder -/
theorem cmpN_iff {x y x' y' : Nat} (h1 : x < y ↔ x' < y') (h2 : y < x ↔ y' < x') : Nm.cmpN x y = Nm.cmpN x' y' := by
 unfold Nm.cmpN; by_cases h : x < y
 ·rw [if_pos h, if_pos (h1.1 h)]
 ·rw [if_neg h, if_neg (fun e => h (h1.2 e))]; by_cases h' : y < x
  ·rw [if_pos h', if_pos (h2.1 h')]
  ·rw [if_neg h', if_neg (fun e => h' (h2.2 e))]
theorem cmpN_lin {x y k r : Nat} (hk : 0 < k) : Nm.cmpN (x * k + r) (y * k + r) = Nm.cmpN x y := by
 refine cmpN_iff ?_ ?_
 ·rw [Nat.add_lt_add_iff_right, Nat.mul_lt_mul_right hk]
 ·rw [Nat.add_lt_add_iff_right, Nat.mul_lt_mul_right hk]
theorem cmpN_neg (x y : Nat) : Nm.cmpN y x = - Nm.cmpN x y := by
 unfold Nm.cmpN
 split <;> (try split) <;> (try split) <;> omega
theorem cmpN_zero {x y : Nat} : Nm.cmpN x y = 0 ↔ x = y := by
 unfold Nm.cmpN
 split <;> (try split) <;> omega
theorem cmpN_nn {x y : Nat} : 0 ≤ Nm.cmpN x y ↔ y ≤ x := by
 unfold Nm.cmpN
 split <;> (try split) <;> omega
theorem ord_sums {pa qa pb qb pc qc : Nat} (hqc : 0 < qc) : Nm.cmpN ((pa * qc + pc * qa) * (qb * qc)) ((pb * qc + pc * qb) * (qa * qc)) = Nm.cmpN (pa * qb) (pb * qa) := by
 rw [show (pa * qc + pc * qa) * (qb * qc) = pa * qb * (qc * qc) + pc * qa * qb * qc by grind, show (pb * qc + pc * qb) * (qa * qc) = pb * qa * (qc * qc) + pc * qa * qb * qc by grind]; exact cmpN_lin (Nat.mul_pos hqc hqc)
theorem ord_times {pa qa pb qb pc qc : Nat} (hqc : 0 < qc) : Nm.cmpN (pa * pc * (qb * qc)) (pb * pc * (qa * qc)) = if pc = 0 then 0 else Nm.cmpN (pa * qb) (pb * qa) := by
 by_cases h : pc = 0
 ·rw [if_pos h]; subst h; rw [Nat.mul_zero, Nat.mul_zero, Nat.zero_mul, Nat.zero_mul]; rfl
 ·rw [if_neg h, show pa * pc * (qb * qc) = pa * qb * (pc * qc) + 0 by grind, show pb * pc * (qa * qc) = pb * qa * (pc * qc) + 0 by grind]; exact cmpN_lin (Nat.mul_pos (by omega) hqc)
theorem rat_inj {pa qa pb qb : Nat} (ga : Nm.Good pa qa) (gb : Nm.Good pb qb) : ratP pa qa = ratP pb qb ↔ pa * qb = pb * qa := by
 constructor
 ·intro h; have h1 := numL_rat ga; rw [h, numL_rat gb] at h1; simp only [Prod.mk.injEq] at h1; rw [h1.1, h1.2]
 ·intro h; exact (Frac.of_good ga).uniq (Frac.of_good gb) h
/-- small ratios: what sums and products are -/
theorem add_fr {pa qa pc qc : Nat} (ga : Nm.Good pa qa) (gc : Nm.Good pc qc) (h1 : pa * qc + pc * qa < 18446744073709551616) (h2 : qa * qc < 18446744073709551616) : addF (ratP pa qa) (ratP pc qc) = (0, redP (pa * qc + pc * qa) (qa * qc)) := by
 rw [addF_rat ga gc]; exact resP_small (b64 h1) (b64 h2)
theorem mul_fr {pa qa pc qc : Nat} (ga : Nm.Good pa qa) (gc : Nm.Good pc qc) (h1 : pa * pc < 18446744073709551616) (h2 : qa * qc < 18446744073709551616) : mulF (ratP pa qa) (ratP pc qc) = (0, redP (pa * pc) (qa * qc)) := by
 rw [mulF_rat ga gc]; exact resP_small (b64 h1) (b64 h2)
theorem sub_fr {pa qa pb qb : Nat} (ga : Nm.Good pa qa) (gb : Nm.Good pb qb) (h1 : pa * qb < 18446744073709551616) (h2 : qa * qb < 18446744073709551616) : (subF (ratP pa qa) (ratP pb qb)).1 = if 0 ≤ Nm.cmpN (pa * qb) (pb * qa) then 0 else 5 := by
 rw [subF_rat ga gb]; by_cases h : pa * qb < pb * qa
 ·rw [if_pos h, if_neg (by rw [cmpN_nn]; omega)]
 ·rw [if_neg h, if_pos (by rw [cmpN_nn]; omega), resP_small (b64 (by omega)) (b64 h2)]
/-- the simplest number -/
theorem sim_good {pa qa pb qb : Nat} (ga : Nm.Good pa qa) (gb : Nm.Good pb qb) (hle : pa * qb ≤ pb * qa) : ∃ N D, simF (ratP pa qa) (ratP pb qb) = (0, ratP N D) ∧ Nm.Good N D ∧ pa * D ≤ N * qa ∧ N * qb ≤ pb * D ∧ N ≤ pa ∧ D ≤ qa ∧ Hid (∀ m e, 0 < e → pa * e ≤ m * qa → m * qb ≤ pb * e → N ≤ m ∧ D ≤ e) := by
 have hp : Nm.SimP pa qa pb qb := ⟨ga.1, gb.1, hle⟩; have H := Nm.sim_ok (qa + qb) pa qa pb qb hp (Nat.le_refl _)
 change Nm.SimR pa qa pb qb (Nm.simple pa qa pb qb) at H
 obtain ⟨la, lq⟩ := good_lt ga
 have hg : Nm.Good (Nm.simple pa qa pb qb).1 (Nm.simple pa qa pb qb).2 := by
  have := red_good H.pos (Nat.lt_of_le_of_lt H.na la) (Nat.lt_of_le_of_lt H.da lq)
  rwa [H.gcd, Nat.div_one, Nat.div_one] at this
 have e : simF (ratP pa qa) (ratP pb qb) = (0, redP (Nm.simple pa qa pb qb).1 (Nm.simple pa qa pb qb).2) := by
  unfold simF; rw [binF_rat ga gb]; exact if_neg (by simpa using hle)
 refine ⟨_, _, e.trans (by rw [redP_good hg]), hg, H.le, H.ge, H.na, H.da, H.least⟩
theorem sim_self {pa qa : Nat} (ga : Nm.Good pa qa) : simF (ratP pa qa) (ratP pa qa) = (0, ratP pa qa) := by
 obtain ⟨N, D, e, g, h1, h2, _⟩ := sim_good ga ga (Nat.le_refl _); rw [e, (rat_inj g ga).2 (by omega)]
/-- the loop over denominators -/
theorem ceil_at {p q d n : Nat} (hq : 0 < q) (hd : 0 < d) (hn : n = p * d / q) : (n * q < p * d → ∀ m, p * d ≤ m * q → n + 1 ≤ m) ∧ (¬ n * q < p * d → n * q = p * d) ∧ p * d < (n + 1) * q := by
 have h1 := Nat.div_mul_le_self (p * d) q
 have h2 : p * d < (p * d / q + 1) * q := by
  have := Nat.lt_div_mul_add hq (a := p * d); rw [Nat.add_mul, Nat.one_mul]; omega
 rw [← hn] at h1 h2; refine ⟨fun h m hm => ?_, fun h => by omega, h2⟩; have : n * q < m * q := by omega
 exact Nat.lt_of_mul_lt_mul_right this
/-- the first denominator with a fraction between both is that of the simplest number -/
theorem least_eq {pa qa pb qb N D n d : Nat} (g : Nm.Good N D) (hd : 0 < d) (h1 : pa * D ≤ N * qa) (h2 : N * qb ≤ pb * D) (HL : Hid (∀ m e, 0 < e → pa * e ≤ m * qa → m * qb ≤ pb * e → N ≤ m ∧ D ≤ e)) (hlow : pa * d ≤ n * qa) (hup : n * qb ≤ pb * d) (hmin : ∀ m, pa * d ≤ m * qa → n ≤ m) (hno : ∀ e, 0 < e → e < d → ∀ m, pa * e ≤ m * qa → ¬ m * qb ≤ pb * e) : redP n d = ratP N D := by
 obtain ⟨a1, a2⟩ := HL.out n d hd hlow hup
 have hD : D = d := by
  rcases Nat.lt_or_ge D d with h | h
  ·exact absurd h2 (hno D g.1 h N h1)
  ·omega
 have hN : n = N := by
  have := hmin N (by rw [← hD]; exact h1); omega
 subst hD hN; exact redP_good g
end Go.Proofs.YtmbfjmilhfmnkaaDoor
namespace Go.Proofs.YtmbfjmilhfmnkaaDoor
open Go Go.RowKit
set_option maxRecDepth 10000 in
set_option maxHeartbeats 400000 in
theorem equ32_n (A1 A2 : Option Addr) (k1 c1 k2 c2 : Nat) (l1 l2 : List Nat) (w : World) (h1 : Lim w A1 c1 l1) (h2 : Lim w A2 c2 l2) (e1 : k1 = l1.length) (e2 : k2 = l2.length) :
  Calls Tryd.prog 75 #[.slice A1 k1 c1, .slice A2 k2 c2] w fun e w' => ∃ b, e = .returned (.bool b) ∧ Hid (b = sameB l1 l2) ∧ Below w.heap.size w w' := by
 have hkb1 : k1 ≤ 9223372036854775807 := by have := h1.2.1; have := h1.2.2.1; omega
 have E1 := Lib.hid e1; have E2 := Lib.hid e2; by_cases hk : k1 = k2
 ·subst hk; clear e1 e2
  go_enter Tryd.func75, Tryd.ntmps75
  go_wp2
  go_loopg [13] k1 (fun j x wr => ∃ i : Nat, x = .int .i64 i ∧ i + j = k1 ∧ Hid (l1.take i = l2.take i) ∧ ∃ nq, wr = w.drewN nq)
  case atStart => exact ⟨0, rfl, by omega, by show _ = _; simp, 0, rfl⟩
  case round =>
   obtain ⟨i, rfl, hij, HT, nq, rfl⟩ := hrel; by_cases hi : i < k1
   ·obtain ⟨b1, o1, a, rfl, hca, ha, HA⟩ := h1.get (k := i) (by have := E1.out; omega); obtain ⟨b2, o2, b, rfl, hcb, hb, HB⟩ := h2.get (k := i) (by have := E2.out; omega); by_cases hab : a = b
    ·have HT2 : Hid (l1.take (i + 1) = l2.take (i + 1)) := take_same (by have := E1.out; omega) (by rw [← E1.out, ← E2.out]) HT.out HA.out HB.out hab; have hd : ((a : Int) != (b : Int)) = false := by rw [hab]; simp
     clear hab; go_wp2_with fail
     go_quiet (fail)
     go_wp2_with fail
     go_roundg (gk - 1)
     case measure => omega
     case rel => exact ⟨i + 1, by go_num, by omega, HT2, _, rfl⟩
    ·have hd : ((a : Int) != (b : Int)) = true := by simp; omega
     have HF : Hid (false = sameB l1 l2) := by
      show _ = _; unfold sameB; symm; rw [decide_eq_false_iff_not]
      rintro rfl; exact hab (HA.out.trans HB.out.symm)
     clear hab; go_wp2_with fail
     go_quiet (fail)
     go_wp2_with fail; go_ret; exact ⟨_, rfl, HF, Below.tr (below_drewN _ _) (below_drewN _ _)⟩
   ·obtain rfl : k1 = i := by omega
    have HF : Hid (true = sameB l1 l2) := by
     show _ = _; unfold sameB; symm; rw [decide_eq_true_iff]
     have := HT.out
     rwa [List.take_of_length_le (by rw [← E1.out]; omega), List.take_of_length_le (by rw [← E2.out]; omega)] at this
    go_wp2_with fail; go_ret; exact ⟨_, rfl, HF, below_drewN _ _⟩
 ·have HF : Hid (false = sameB l1 l2) := by
   show _ = _; unfold sameB; symm; rw [decide_eq_false_iff_not]
   rintro rfl; exact hk (e1.trans e2.symm)
  have hd : ((k1 : Int) != (k2 : Int)) = true := by simp; omega
  clear e1 e2 hk
  go_enter Tryd.func75, Tryd.ntmps75
  go_wp2
  go_ret; exact ⟨_, rfl, HF, Below.refl _ _⟩
set_option maxRecDepth 10000 in
set_option maxHeartbeats 400000 in
theorem psame_n (va vb : Value) (L1 L2 L3 L4 : List Nat) (w : World) (ha : RtL w va L1 L2) (hb : RtL w vb L3 L4) :
  Calls Tryd.prog 38 #[va, vb] w fun e w' => ∃ b, e = .returned (.bool b) ∧ Hid (b = sameR L1 L2 L3 L4) ∧ Below w.heap.size w w' := by
 obtain ⟨A1, k1, c1, A2, k2, c2, rfl, h1, h2, e1, e2⟩ := ha; obtain ⟨B1, m1, d1, B2, m2, d2, rfl, h3, h4, e3, e4⟩ := hb; have E1 := Lib.hid e1; have E2 := Lib.hid e2; have E3 := Lib.hid e3; have E4 := Lib.hid e4; clear e1 e2 e3 e4; obtain ⟨W, HW⟩ : ∃ W, Hid (W = (w.alloc (.cells #[.slice A1 k1 c1, .slice A2 k2 c2] 28)).alloc (.cells #[.slice B1 m1 d1, .slice B2 m2 d2] 28)) := ⟨_, rfl⟩; have hbw : Below w.heap.size w W := by rw [HW.out]; exact Below.tr (bA _ _) (bA _ _)
 have BA : Blk W w.heap.size 28 #[.slice A1 k1 c1, .slice A2 k2 c2] := by rw [HW.out]; exact (Blk.new _ _ _).alloc _
 have BB : Blk W (w.heap.size + 1) 28 #[.slice B1 m1 d1, .slice B2 m2 d2] := by
  rw [HW.out]; have h := Blk.new (w.alloc (.cells #[.slice A1 k1 c1, .slice A2 k2 c2] 28)) 28 #[.slice B1 m1 d1, .slice B2 m2 d2]
  simpa using h
 have h1 := h1.below hbw; have h2 := h2.below hbw; have h3 := h3.below hbw; have h4 := h4.below hbw; have q0 := BA.cell 0; have q2 := BB.cell 0; simp only [List.getElem?_toArray, List.getElem?_cons_zero, List.getElem?_cons_succ] at q0 q2
 go_enter Tryd.func38, Tryd.ntmps38
 go_wp2_with fail; rw [← HW.out]; go_wp2_with fail; refine (equ32_n A1 B1 k1 c1 m1 d1 L1 L3 _ h1 h3 E1.out E3.out).mono ?_; rintro e w2 ⟨b, rfl, HX, hb2⟩; have q1 := (Blk.below BA hb2 BA.lt).cell 1; have q3 := (Blk.below BB hb2 BB.lt).cell 1; simp only [List.getElem?_toArray, List.getElem?_cons_zero, List.getElem?_cons_succ] at q1 q3; clear q0 q2
 cases b
 ·go_wp2_with fail; go_ret; exact ⟨_, rfl, by show _ = _; unfold sameR; rw [← HX.out]; rfl, Below.tr hbw hb2⟩
 ·go_wp2_with fail; refine (equ32_n A2 B2 k2 c2 m2 d2 L2 L4 _ (h2.below hb2) (h4.below hb2) E2.out E4.out).mono ?_; rintro e w3 ⟨b, rfl, HY, hb3⟩; go_wp2_with fail; go_ret; exact ⟨_, rfl, by show _ = _; unfold sameR; rw [← HX.out, ← HY.out]; simp, Below.tr hbw (Below.tr hb2 hb3)⟩
end Go.Proofs.YtmbfjmilhfmnkaaDoor
namespace Go.Proofs.YtmbfjmilhfmnkaaDoor
open Go Go.RowKit
/-- a world grown by calls and by stores to one block of two slices -/
structure Kp (B g : Nat) (w w' : World) : Prop where
 be : Below B w w'
 lim : ∀ A c l, Lim w A c l → Lim w' A c l
 cell : ∀ b i v, b ≠ g → w.cell? ⟨b, i, none⟩ = some v → w'.cell? ⟨b, i, none⟩ = some v
theorem Kp.refl (B g : Nat) (w : World) : Kp B g w w := ⟨Below.refl _ _, fun _ _ _ h => h, fun _ _ _ _ h => h⟩
theorem Kp.below {B g : Nat} {w w' : World} (hb : Below w.heap.size w w') (hB : B ≤ w.heap.size) : Kp B g w w' := ⟨hb.mono hB, fun _ _ _ h => h.below hb, fun _ _ _ _ h => cell_keep hb h⟩
theorem Kp.trans {B g : Nat} {w w' w'' : World} (h : Kp B g w w') (k : Kp B g w' w'') : Kp B g w w'' := ⟨h.be.trans k.be, fun _ _ _ x => k.lim _ _ _ (h.lim _ _ _ x), fun _ _ _ hn x => k.cell _ _ _ hn (h.cell _ _ _ hn x)⟩
theorem Kp.store {B g : Nat} {w : World} {arr : Array Value} (hb : Blk w g 28 arr) (hs : Sl w g) (hB : B ≤ g) (A : Option Addr) (k c : Nat) (A' : Option Addr) (k' c' : Nat) : Kp B g w ((w.setCell ⟨g, 0, none⟩ (.slice A k c)).setCell ⟨g, 1, none⟩ (.slice A' k' c')) := by
 have hrt := RT.store (N := B) hs hB A k c A' k' c'; refine ⟨hrt.be, hrt.lim, fun b i v hne hc => ?_⟩; rw [World.cell?_of_block (Below.heap_setCell _ ⟨g, 1, none⟩ _ b hne), World.cell?_of_block (Below.heap_setCell _ ⟨g, 0, none⟩ _ b hne)]; exact hc
theorem psame_5 (va vb : Value) (x : LP) (w : World) (ha : RtP w va x) (hb : RtP w vb x) : Calls Tryd.prog 38 #[va, vb] w fun e w' => e = .returned (.bool true) ∧ Below w.heap.size w w' := by
 refine (psame_n va vb x.1 x.2 x.1 x.2 w ha hb).mono ?_; rintro e w' ⟨b, rfl, HB, h⟩; rw [HB.out]; exact ⟨by unfold sameR; simp [sameB_self], h⟩
theorem fill_f3 (A0 B0 A1 B1 A2 B2 : Option Addr) (k0 c0 m0 d0 k1 c1 m1 d1 k2 c2 m2 d2 : Nat) : Instr.fill (fun i => some (i * 2, 2)) ((Array.range (3 * 2)).map (nilRat.cells[· % nilRat.cells.size]!)) [(0, .agg #[.slice A0 k0 c0, .slice B0 m0 d0]), (1, .agg #[.slice A1 k1 c1, .slice B1 m1 d1]), (2, .agg #[.slice A2 k2 c2, .slice B2 m2 d2])] = some #[.slice A0 k0 c0, .slice B0 m0 d0, .slice A1 k1 c1, .slice B1 m1 d1, .slice A2 k2 c2, .slice B2 m2 d2] := by kernel_rfl
theorem red_le {n d : Nat} : n / Nat.gcd n d ≤ n ∧ d / Nat.gcd n d ≤ d := ⟨Nat.div_le_self _ _, Nat.div_le_self _ _⟩
set_option maxRecDepth 10000 in
set_option maxHeartbeats 400000 in
theorem rmade_b (n d : Int) (w : World) (hn : isI64 n) (hd : isI64 d) :
  Calls Tryd.prog 36 #[.int .i64 n, .int .i64 d] w fun e w' => ∃ A k c A' k' c' p q, e = .returned (.agg #[.slice A k c, .slice A' k' c']) ∧ RtP w' (.agg #[.slice A k c, .slice A' k' c']) (ratP p q) ∧ Nm.Good p q ∧ Hid (p < 1048576 ∧ q ≤ 1048576) ∧ Below w.heap.size w w' := by
 obtain ⟨h1, h2⟩ := hn; obtain ⟨h3, h4⟩ := hd
 go_enter Tryd.func36, Tryd.ntmps36
 go_wp2_with fail; refine (around_n n 1048576 _ h1 h2 (by omega) (by omega)).mono ?_; rintro e w' ⟨y, rfl, hy, _, rfl⟩; go_wp2_with fail; refine (around_n d 1048576 _ h3 h4 (by omega) (by omega)).mono ?_; rintro e w' ⟨x, rfl, hx, _, rfl⟩; go_wp2_with fail; refine (rof_s y (1 + x) _ (by omega) (by omega) (by omega)).mono ?_; rintro e w1 ⟨A, k, c, A', k', c', rfl, hR, hb⟩
 have HS : Hid (y / Nat.gcd y (1 + x) < 1048576 ∧ (1 + x) / Nat.gcd y (1 + x) ≤ 1048576) := by
  have h := red_le (n := y) (d := 1 + x); exact ⟨Nat.lt_of_le_of_lt h.1 hy, Nat.le_trans h.2 (by omega)⟩
 have hres := Res.below (Res.below (Res.new w) hb) (bA w1 (.cells #[.slice A k c, .slice A' k' c'] 28)); have hR2 := hR.below (bA w1 (.cells #[.slice A k c, .slice A' k' c'] 28)); obtain ⟨r1, r2, r3, r4⟩ := hres.facts; obtain ⟨s1, s2⟩ := hres.set2 (.slice A k c) (.slice A' k' c'); have hfin := rat_ret (w0 := w) hres hR2; have hbw := Below.tr (Below.tr (bA w _) hb) (bA w1 (.cells #[.slice A k c, .slice A' k' c'] 28)); clear hR hR2 hb; go_wp2_with fail; exact bodyPost_ret (v := .agg #[.slice A k c, .slice A' k' c']) (by simp [results, Tryd.results36, go_sem, s1, s2]) rfl ⟨_, _, _, _, _, _, _, _, rfl, hfin.1.rtP, hfin.2, HS, below_set2 hbw (Nat.le_refl _) _ _⟩
theorem rpart_b (n d : Int) (w : World) (hn : isI64 n) (hd : isI64 d) :
  Calls Tryd.prog 17 #[.int .i64 n, .int .i64 d] w fun e w' => ∃ A k c A' k' c' p q, e = .returned (.agg #[.slice A k c, .slice A' k' c']) ∧ RtP w' (.agg #[.slice A k c, .slice A' k' c']) (ratP p q) ∧ Nm.Good p q ∧ Hid (p ≤ q ∧ q ≤ 24) ∧ Below w.heap.size w w' := by
 refine (rpart_n n d w hn.1 hn.2 hd.1 hd.2).mono ?_; rintro e w' ⟨v, p, q, rfl, h, g, hpq, HX, hb⟩; obtain ⟨A, k, c, A', k', c', rfl⟩ := h.shape; refine ⟨A, k, c, A', k', c', p, q, rfl, h.rtP, g, ?_, hb⟩; obtain ⟨x, y, h1, h2, h3, h4, h5⟩ := HX.out; refine ⟨hpq, ?_⟩; rw [h5]; exact Nat.le_trans (Nat.div_le_self _ _) h3
theorem large_b (n d : Int) (w : World) (hn : isI64 n) (hd : isI64 d) :
  Calls Tryd.prog 37 #[.int .i64 n, .int .i64 d] w fun e w' => ∃ A k c A' k' c' p q, e = .returned (.agg #[.slice A k c, .slice A' k' c']) ∧ RtP w' (.agg #[.slice A k c, .slice A' k' c']) (ratP p q) ∧ Nm.Good p q ∧ Below w.heap.size w w' := by
 refine (large_n n d w hn hd).mono ?_; rintro e w' ⟨v, p, q, rfl, h, g, hb⟩; obtain ⟨A, k, c, A', k', c', rfl⟩ := h.shape; exact ⟨A, k, c, A', k', c', p, q, rfl, h.rtP, g, hb⟩
theorem sum_sh (A : Option Addr) (k c : Nat) (X : List LP) (w : World) (h : RatRow w A k X) (E : Int) (Y : LP) (HE : Hid ((sumF nilP X).1 = E)) (HY : Hid ((sumF nilP X).2 = Y)) :
  Calls Tryd.prog 18 #[.slice A k c] w fun e w' => ∃ A k c A' k' c', e = .returned (.tuple #[.agg #[.slice A k c, .slice A' k' c'], .int .i64 E]) ∧ RtP w' (.agg #[.slice A k c, .slice A' k' c']) Y ∧ Below w.heap.size w w' := by
 refine (sum_F A k c X w h).mono ?_; rintro e w' ⟨v, rfl, hr, hb⟩; rw [HE.out]; rw [HY.out] at hr; obtain ⟨A, k, c, A', k', c', rfl⟩ := hr.shape; exact ⟨A, k, c, A', k', c', rfl, hr, hb⟩
end Go.Proofs.YtmbfjmilhfmnkaaDoor
namespace Go.Proofs.YtmbfjmilhfmnkaaDoor
open Go Go.RowKit
theorem Below.tr' {a w w' : World} (h : Below a.heap.size a w) (k : Below a.heap.size w w') : Below a.heap.size a w' := h.trans k
theorem rtP_len {w : World} {A A' : Option Addr} {k c k' c' : Nat} {x : LP} (h : RtP w (.agg #[.slice A k c, .slice A' k' c']) x) : k = x.1.length := (RtL.nb h).2.2.1
theorem lb_pos_iff (n : Nat) : 0 < (Nm.lb n).length → 0 < n := by
 intro h
 rcases Nat.eq_zero_or_pos n with e | e
 ·subst e; rw [Nm.lb_zero] at h; exact absurd h (by simp)
 ·exact e
theorem fld_small {pb qb pc qc : Nat} (gb : Nm.Good pb qb) (gc : Nm.Good pc qc) (HBb : Hid (pb < 1048576 ∧ qb ≤ 1048576)) (HBc : Hid (pc ≤ qc ∧ qc ≤ 24)) : ∃ R S, Hid ((addF (ratP pb qb) (ratP pc qc)).1 = 0) ∧ Hid ((addF (ratP pb qb) (ratP pc qc)).2 = ratP R S) ∧ Nm.Good R S ∧ R * (qb * qc) = (pb * qc + pc * qb) * S := by
 obtain ⟨h1, h2⟩ := HBb.out; obtain ⟨h3, h4⟩ := HBc.out; have e1 : pb * qc ≤ 1048576 * 24 := Nat.mul_le_mul (by omega) (by omega); have e2 : pc * qb ≤ 24 * 1048576 := Nat.mul_le_mul (by omega) (by omega); have e3 : qb * qc ≤ 1048576 * 24 := Nat.mul_le_mul (by omega) (by omega); have E := add_fr gb gc (by omega) (by omega); have h0 : (addF (ratP pb qb) (ratP pc qc)).1 = 0 := by rw [E]
 obtain ⟨R, S, e, g, H⟩ := resP_ok5 (Nat.mul_pos gb.1 gc.1) ((congrArg Prod.fst (addF_rat gb gc)).symm.trans h0); exact ⟨R, S, h0, (congrArg Prod.snd (addF_rat gb gc)).trans e, g, H⟩
theorem fld_sum {pa qa pb qb pc qc P Q : Nat} {El : Int} {Xl : LP} (ga : Nm.Good pa qa) (gb : Nm.Good pb qb) (gs : Nm.Good P Q) (gc : Nm.Good pc qc) (HEs : Hid ((addF (ratP pa qa) (ratP pb qb)).1 = 0)) (HXs : Hid ((addF (ratP pa qa) (ratP pb qb)).2 = ratP P Q)) (HEl : Hid ((addF (ratP P Q) (ratP pc qc)).1 = El)) (HXl : Hid ((addF (ratP P Q) (ratP pc qc)).2 = Xl)) : Hid ((sumF nilP [ratP pa qa, ratP pb qb, ratP pc qc]).1 = El) ∧ Hid ((sumF nilP [ratP pa qa, ratP pb qb, ratP pc qc]).2 = Xl) := by
 have H := sum_3 (pc := pc) (qc := qc) ga gb (show addF (ratP pa qa) (ratP pb qb) = (0, ratP P Q) from Prod.ext HEs.out HXs.out); have hE := HEl.out; have hX := HXl.out; have hr := resP_er (P * qc + pc * Q) (Q * qc); rw [← addF_rat gs gc, hE, hX] at hr; rw [hE, hX] at H
 constructor
 ·show _ = _
  rw [H]
 ·show _ = _
  rw [H]
  rcases hr with h | h
  ·simp [h]
  ·simp [h.1, h.2]
theorem fld_dist {pa qa pb qb pc qc R S U V : Nat} {Ey : Int} {Xy Xp Xw : LP} (ga : Nm.Good pa qa) (gb : Nm.Good pb qb) (gc : Nm.Good pc qc) (gt : Nm.Good R S) (gx : Nm.Good U V) (HEy : Hid ((mulF (ratP pa qa) (ratP pc qc)).1 = Ey)) (HXy : Hid ((mulF (ratP pa qa) (ratP pc qc)).2 = Xy)) (HXp : Hid ((addF (ratP U V) Xy).2 = Xp)) (HXw : Hid ((mulF (ratP pa qa) (ratP R S)).2 = Xw)) (H2 : Hid (R * (qb * qc) = (pb * qc + pc * qb) * S)) (H3 : Hid (U * (qa * qb) = pa * pb * V)) : Hid (Ey = 0 → Xp = Xw) := by
 intro h; subst h; obtain ⟨K, L, e, gy, H4⟩ := resP_ok5 (Nat.mul_pos ga.1 gc.1) ((congrArg Prod.fst (mulF_rat ga gc)).symm.trans HEy.out); have hXy : Xy = ratP K L := HXy.out.symm.trans ((congrArg Prod.snd (mulF_rat ga gc)).trans e); subst hXy; rw [← HXp.out, ← HXw.out]; exact congrArg Prod.snd (dist5 ga gb gc gt gx gy H2.out H3.out H4)
set_option maxRecDepth 100000 in
set_option maxHeartbeats 16000000 in
theorem ratio_field_n (n m k big : Int) (w : World) (hin : isI64 n) (him : isI64 m) (hik : isI64 k) (hig : isI64 big) :
  Calls Tryd.prog 7 #[.int .i64 n, .int .i64 m, .int .i64 k, .int .i64 big] w fun e w' => e = .returned (.bool true) ∧ Below w.heap.size w w' := by
 obtain ⟨iR, hiR, hzR, hzR1, hzR2⟩ := info_parts info_ratio; have HIN := Lib.hid hin; have HIM := Lib.hid him; have HIK := Lib.hid hik; have HIG := Lib.hid hig; clear hin him hik hig; have hbw := Below.refl w.heap.size w
 go_enter Tryd.func7, Tryd.ntmps7
 go_wp2_with fail; refine (rmade_b n m _ HIN.out HIM.out).mono ?_; rintro e w1 ⟨Sza, kza, cza, Rza, mza, dza, pa, qa, rfl, hza, ga, HBa, hb⟩
 replace hbw := Below.tr hbw hb
 clear hb; go_upto_region 2 with fail; refine wp_name ?_; intro w2 HW; have hb : Below w1.heap.size w1 w2 := by rw [HW.out]; exact bA _ _
 have hB : Blk w2 w1.heap.size 28 #[.slice Sza kza cza, .slice Rza mza dza] := by rw [HW.out]; exact Blk.new _ _ _
 obtain ⟨za, hg⟩ : ∃ g, Hid (g = w1.heap.size) := ⟨_, rfl⟩; rw [← hg.out] at hB ⊢; have hsza : w.heap.size ≤ za := by rw [hg.out]; exact hbw.size
 replace hbw := Below.tr hbw hb
 replace hza := hza.below hb
 have za0 := hB.cell 0; have za1 := hB.cell 1; simp only [List.getElem?_toArray, List.getElem?_cons_zero, List.getElem?_cons_succ] at za0 za1; have hBza := hB; clear HW hB hg hb; go_wp2_with fail; refine (rmade_b k n _ HIK.out HIN.out).mono ?_; rintro e w3 ⟨Szb, kzb, czb, Rzb, mzb, dzb, pb, qb, rfl, hzb, gb, HBb, hb⟩
 replace za0 := cell_keep hb za0
 replace za1 := cell_keep hb za1
 replace hza := hza.below hb
 replace hBza := hBza.below hb hBza.lt
 replace hbw := Below.tr hbw hb
 clear hb; go_upto_region 3 with fail; refine wp_name ?_; intro w4 HW; have hb : Below w3.heap.size w3 w4 := by rw [HW.out]; exact bA _ _
 have hB : Blk w4 w3.heap.size 28 #[.slice Szb kzb czb, .slice Rzb mzb dzb] := by rw [HW.out]; exact Blk.new _ _ _
 obtain ⟨zb, hg⟩ : ∃ g, Hid (g = w3.heap.size) := ⟨_, rfl⟩; rw [← hg.out] at hB ⊢; have hne_zb_za : zb ≠ za := by have := cell_lt za0; have := hg.out; dsimp only at *; omega
 replace za0 := cell_keep hb za0
 replace za1 := cell_keep hb za1
 replace hza := hza.below hb
 replace hBza := hBza.below hb hBza.lt
 replace hbw := Below.tr hbw hb
 replace hzb := hzb.below hb
 have zb0 := hB.cell 0; have zb1 := hB.cell 1; simp only [List.getElem?_toArray, List.getElem?_cons_zero, List.getElem?_cons_succ] at zb0 zb1; clear HW hB hg hb; go_wp2_with fail; refine (rpart_b m k _ HIM.out HIK.out).mono ?_; rintro e w5 ⟨Szc, kzc, czc, Rzc, mzc, dzc, pc, qc, rfl, hzc, gc, HBc, hb⟩
 replace za0 := cell_keep hb za0
 replace za1 := cell_keep hb za1
 replace hza := hza.below hb
 replace zb0 := cell_keep hb zb0
 replace zb1 := cell_keep hb zb1
 replace hzb := hzb.below hb
 replace hBza := hBza.below hb hBza.lt
 replace hbw := Below.tr hbw hb
 clear hb; go_upto_region 4 with fail; refine wp_name ?_; intro w6 HW; have hb : Below w5.heap.size w5 w6 := by rw [HW.out]; exact bA _ _
 have hB : Blk w6 w5.heap.size 28 #[.slice Szc kzc czc, .slice Rzc mzc dzc] := by rw [HW.out]; exact Blk.new _ _ _
 obtain ⟨zc, hg⟩ : ∃ g, Hid (g = w5.heap.size) := ⟨_, rfl⟩; rw [← hg.out] at hB ⊢; have hne_zc_za : zc ≠ za := by have := cell_lt za0; have := hg.out; dsimp only at *; omega
 replace za0 := cell_keep hb za0
 replace za1 := cell_keep hb za1
 replace hza := hza.below hb
 replace zb0 := cell_keep hb zb0
 replace zb1 := cell_keep hb zb1
 replace hzb := hzb.below hb
 replace hBza := hBza.below hb hBza.lt
 replace hbw := Below.tr hbw hb
 replace hzc := hzc.below hb
 have zc0 := hB.cell 0; have zc1 := hB.cell 1; simp only [List.getElem?_toArray, List.getElem?_cons_zero, List.getElem?_cons_succ] at zc0 zc1; clear HW hB hg hb
 go_cut [47] from 45 to 226 (fun t wz => (∃ cb, t = .bool cb) ∧ wz = w6)
 case first => as_aux_lemma =>
  go_wp2_with fail
  go_meet
  case rel => exact ⟨⟨_, rfl⟩, rfl⟩
 obtain ⟨⟨cb, rfl⟩, hx⟩ := hcut; obtain rfl := hx.symm; clear hx
 go_upto_if 47 with fail
 go_cut [] from 48 to 226 (fun wz => (∃ A k c A' k' c' p q, wz.cell? ⟨za, 0, none⟩ = some (.slice A k c) ∧ wz.cell? ⟨za, 1, none⟩ = some (.slice A' k' c') ∧ RtP wz (.agg #[.slice A k c, .slice A' k' c']) (ratP p q) ∧ Nm.Good p q ∧ Kp w.heap.size za w6 wz))
 case first => as_aux_lemma =>
  cases cb
  ·go_wp2_with fail
   go_meet
   case rel => exact ⟨_, _, _, _, _, _, pa, qa, za0, za1, hza, ga, Kp.refl _ _ _⟩
  ·clear za0 za1 hza; go_wp2_with fail; refine (large_b n big _ HIN.out HIG.out).mono ?_; rintro e wl ⟨A, k', c, A', k'', c', p, q, rfl, hL, gL, hb⟩; have hB := hBza.below hb hBza.lt; have f1 := hB.frozen 0; have f2 := hB.frozen 1; have a0 := hB.cell 0; have a1 := hB.cell 1; simp only [List.getElem?_toArray, List.getElem?_cons_zero, List.getElem?_cons_succ] at a0 a1; have hK := Lib.hid ((Kp.below hb hbw.size).trans (Kp.store hB ⟨_, _, _, _, _, _, hB⟩ hsza A k' c A' k'' c')); have hL2 := Lib.hid (hL.mapL (Kp.store hB ⟨_, _, _, _, _, _, hB⟩ hsza A k' c A' k'' c').lim); have hB2 := (hB.set_ 0 (.slice A k' c)).set_ 1 (.slice A' k'' c'); have b0 := Lib.hid (hB2.cell 0); have b1 := Lib.hid (hB2.cell 1); clear hB hB2 hL; go_wp2_with fail
   go_meet
   case rel => exact ⟨_, _, _, _, _, _, p, q, b0.out, b1.out, hL2.out, gL, hK.out⟩
 clear HBa hBza hza za0 za1 ga; obtain ⟨Sza, kza, cza, Rza, mza, dza, pa2, qa2, za0, za1, hza, ga, hK⟩ := hcut
 replace zb0 := hK.cell _ _ _ hne_zb_za zb0
 replace zb1 := hK.cell _ _ _ hne_zb_za zb1
 replace zc0 := hK.cell _ _ _ hne_zc_za zc0
 replace zc1 := hK.cell _ _ _ hne_zc_za zc1
 replace hzb := hzb.mapL hK.lim
 replace hzc := hzc.mapL hK.lim
 replace hbw := Below.tr' hbw hK.be
 clear hK hne_zb_za hne_zc_za hsza; obtain ⟨Es, HEs⟩ : ∃ E, Hid ((addF (ratP pa2 qa2) (ratP pb qb)).1 = E) := ⟨_, rfl⟩; obtain ⟨Xs, HXs⟩ : ∃ X, Hid ((addF (ratP pa2 qa2) (ratP pb qb)).2 = X) := ⟨_, rfl⟩; have HEs2 : Hid ((addF (ratP pb qb) (ratP pa2 qa2)).1 = Es) := (congrArg Prod.fst (add_comm5 ga gb)).trans HEs.out; have HXs2 : Hid ((addF (ratP pb qb) (ratP pa2 qa2)).2 = Xs) := (congrArg Prod.snd (add_comm5 ga gb)).trans HXs.out; obtain ⟨Em, HEm⟩ : ∃ E, Hid ((mulF (ratP pa2 qa2) (ratP pb qb)).1 = E) := ⟨_, rfl⟩; obtain ⟨Xm, HXm⟩ : ∃ X, Hid ((mulF (ratP pa2 qa2) (ratP pb qb)).2 = X) := ⟨_, rfl⟩; have HEm2 : Hid ((mulF (ratP pb qb) (ratP pa2 qa2)).1 = Em) := (congrArg Prod.fst (mul_comm5 ga gb)).trans HEm.out; have HXm2 : Hid ((mulF (ratP pb qb) (ratP pa2 qa2)).2 = Xm) := (congrArg Prod.snd (mul_comm5 ga gb)).trans HXm.out; obtain ⟨R, S, HEt, HXt, gt, H2⟩ := fld_small gb gc HBb HBc; go_wp2_with fail; refine (BinC.sh add_F _ _ _ _ Es Xs _ hza hzb HEs HXs).mono ?_; rintro e w8 ⟨Szs, kzs, czs, Rzs, mzs, dzs, rfl, hzs, hb⟩
 replace za0 := cell_keep hb za0
 replace za1 := cell_keep hb za1
 replace hza := hza.below hb
 replace zb0 := cell_keep hb zb0
 replace zb1 := cell_keep hb zb1
 replace hzb := hzb.below hb
 replace zc0 := cell_keep hb zc0
 replace zc1 := cell_keep hb zc1
 replace hzc := hzc.below hb
 replace hbw := Below.tr hbw hb
 clear hb; go_upto_region 7 with fail; refine wp_name ?_; intro w9 HW; have hb : Below w8.heap.size w8 w9 := by rw [HW.out]; exact bA _ _
 have hB : Blk w9 w8.heap.size 28 #[.slice Szs kzs czs, .slice Rzs mzs dzs] := by rw [HW.out]; exact Blk.new _ _ _
 obtain ⟨zs, hg⟩ : ∃ g, Hid (g = w8.heap.size) := ⟨_, rfl⟩; rw [← hg.out] at hB ⊢
 replace za0 := cell_keep hb za0
 replace za1 := cell_keep hb za1
 replace hza := hza.below hb
 replace zb0 := cell_keep hb zb0
 replace zb1 := cell_keep hb zb1
 replace hzb := hzb.below hb
 replace zc0 := cell_keep hb zc0
 replace zc1 := cell_keep hb zc1
 replace hzc := hzc.below hb
 replace hbw := Below.tr hbw hb
 replace hzs := hzs.below hb
 have zs0 := hB.cell 0; have zs1 := hB.cell 1; simp only [List.getElem?_toArray, List.getElem?_cons_zero, List.getElem?_cons_succ] at zs0 zs1; clear HW hB hg hb; go_wp2_with fail; refine (BinC.sh add_F _ _ _ _ Es Xs _ hzb hza HEs2 HXs2).mono ?_; rintro e w10 ⟨Szu, kzu, czu, Rzu, mzu, dzu, rfl, hzu, hb⟩
 replace za0 := cell_keep hb za0
 replace za1 := cell_keep hb za1
 replace hza := hza.below hb
 replace zb0 := cell_keep hb zb0
 replace zb1 := cell_keep hb zb1
 replace hzb := hzb.below hb
 replace zc0 := cell_keep hb zc0
 replace zc1 := cell_keep hb zc1
 replace hzc := hzc.below hb
 replace zs0 := cell_keep hb zs0
 replace zs1 := cell_keep hb zs1
 replace hzs := hzs.below hb
 replace hbw := Below.tr hbw hb
 clear hb; go_upto_region 8 with fail; refine wp_name ?_; intro w11 HW; have hb : Below w10.heap.size w10 w11 := by rw [HW.out]; exact bA _ _
 have hB : Blk w11 w10.heap.size 28 #[.slice Szu kzu czu, .slice Rzu mzu dzu] := by rw [HW.out]; exact Blk.new _ _ _
 obtain ⟨zu, hg⟩ : ∃ g, Hid (g = w10.heap.size) := ⟨_, rfl⟩; rw [← hg.out] at hB ⊢
 replace za0 := cell_keep hb za0
 replace za1 := cell_keep hb za1
 replace hza := hza.below hb
 replace zb0 := cell_keep hb zb0
 replace zb1 := cell_keep hb zb1
 replace hzb := hzb.below hb
 replace zc0 := cell_keep hb zc0
 replace zc1 := cell_keep hb zc1
 replace hzc := hzc.below hb
 replace zs0 := cell_keep hb zs0
 replace zs1 := cell_keep hb zs1
 replace hzs := hzs.below hb
 replace hbw := Below.tr hbw hb
 replace hzu := hzu.below hb
 have zu0 := hB.cell 0; have zu1 := hB.cell 1; simp only [List.getElem?_toArray, List.getElem?_cons_zero, List.getElem?_cons_succ] at zu0 zu1; clear HW hB hg hb; go_wp2_with fail; refine (BinC.sh add_F _ _ _ _ 0 (ratP R S) _ hzb hzc HEt HXt).mono ?_; rintro e w12 ⟨Szt, kzt, czt, Rzt, mzt, dzt, rfl, hzt, hb⟩
 replace za0 := cell_keep hb za0
 replace za1 := cell_keep hb za1
 replace hza := hza.below hb
 replace zb0 := cell_keep hb zb0
 replace zb1 := cell_keep hb zb1
 replace hzb := hzb.below hb
 replace zc0 := cell_keep hb zc0
 replace zc1 := cell_keep hb zc1
 replace hzc := hzc.below hb
 replace zs0 := cell_keep hb zs0
 replace zs1 := cell_keep hb zs1
 replace hzs := hzs.below hb
 replace zu0 := cell_keep hb zu0
 replace zu1 := cell_keep hb zu1
 replace hzu := hzu.below hb
 replace hbw := Below.tr hbw hb
 clear hb; go_upto_region 9 with fail; refine wp_name ?_; intro w13 HW; have hb : Below w12.heap.size w12 w13 := by rw [HW.out]; exact bA _ _
 have hB : Blk w13 w12.heap.size 28 #[.slice Szt kzt czt, .slice Rzt mzt dzt] := by rw [HW.out]; exact Blk.new _ _ _
 obtain ⟨zt, hg⟩ : ∃ g, Hid (g = w12.heap.size) := ⟨_, rfl⟩; rw [← hg.out] at hB ⊢
 replace za0 := cell_keep hb za0
 replace za1 := cell_keep hb za1
 replace hza := hza.below hb
 replace zb0 := cell_keep hb zb0
 replace zb1 := cell_keep hb zb1
 replace hzb := hzb.below hb
 replace zc0 := cell_keep hb zc0
 replace zc1 := cell_keep hb zc1
 replace hzc := hzc.below hb
 replace zs0 := cell_keep hb zs0
 replace zs1 := cell_keep hb zs1
 replace hzs := hzs.below hb
 replace zu0 := cell_keep hb zu0
 replace zu1 := cell_keep hb zu1
 replace hzu := hzu.below hb
 replace hbw := Below.tr hbw hb
 replace hzt := hzt.below hb
 have zt0 := hB.cell 0; have zt1 := hB.cell 1; simp only [List.getElem?_toArray, List.getElem?_cons_zero, List.getElem?_cons_succ] at zt0 zt1; clear HW hB hg hb; go_wp2_with fail; refine (BinC.sh mul_F _ _ _ _ Em Xm _ hza hzb HEm HXm).mono ?_; rintro e w14 ⟨Szm, kzm, czm, Rzm, mzm, dzm, rfl, hzm, hb⟩
 replace za0 := cell_keep hb za0
 replace za1 := cell_keep hb za1
 replace hza := hza.below hb
 replace zb0 := cell_keep hb zb0
 replace zb1 := cell_keep hb zb1
 replace hzb := hzb.below hb
 replace zc0 := cell_keep hb zc0
 replace zc1 := cell_keep hb zc1
 replace hzc := hzc.below hb
 replace zs0 := cell_keep hb zs0
 replace zs1 := cell_keep hb zs1
 replace hzs := hzs.below hb
 replace zu0 := cell_keep hb zu0
 replace zu1 := cell_keep hb zu1
 replace hzu := hzu.below hb
 replace zt0 := cell_keep hb zt0
 replace zt1 := cell_keep hb zt1
 replace hzt := hzt.below hb
 replace hbw := Below.tr hbw hb
 clear hb; go_upto_region 10 with fail; refine wp_name ?_; intro w15 HW; have hb : Below w14.heap.size w14 w15 := by rw [HW.out]; exact bA _ _
 have hB : Blk w15 w14.heap.size 28 #[.slice Szm kzm czm, .slice Rzm mzm dzm] := by rw [HW.out]; exact Blk.new _ _ _
 obtain ⟨zm, hg⟩ : ∃ g, Hid (g = w14.heap.size) := ⟨_, rfl⟩; rw [← hg.out] at hB ⊢
 replace za0 := cell_keep hb za0
 replace za1 := cell_keep hb za1
 replace hza := hza.below hb
 replace zb0 := cell_keep hb zb0
 replace zb1 := cell_keep hb zb1
 replace hzb := hzb.below hb
 replace zc0 := cell_keep hb zc0
 replace zc1 := cell_keep hb zc1
 replace hzc := hzc.below hb
 replace zs0 := cell_keep hb zs0
 replace zs1 := cell_keep hb zs1
 replace hzs := hzs.below hb
 replace zu0 := cell_keep hb zu0
 replace zu1 := cell_keep hb zu1
 replace hzu := hzu.below hb
 replace zt0 := cell_keep hb zt0
 replace zt1 := cell_keep hb zt1
 replace hzt := hzt.below hb
 replace hbw := Below.tr hbw hb
 replace hzm := hzm.below hb
 have zm0 := hB.cell 0; have zm1 := hB.cell 1; simp only [List.getElem?_toArray, List.getElem?_cons_zero, List.getElem?_cons_succ] at zm0 zm1; clear HW hB hg hb; go_wp2_with fail; refine (BinC.sh mul_F _ _ _ _ Em Xm _ hzb hza HEm2 HXm2).mono ?_; rintro e w16 ⟨Szv, kzv, czv, Rzv, mzv, dzv, rfl, hzv, hb⟩
 replace za0 := cell_keep hb za0
 replace za1 := cell_keep hb za1
 replace hza := hza.below hb
 replace zb0 := cell_keep hb zb0
 replace zb1 := cell_keep hb zb1
 replace hzb := hzb.below hb
 replace zc0 := cell_keep hb zc0
 replace zc1 := cell_keep hb zc1
 replace hzc := hzc.below hb
 replace zs0 := cell_keep hb zs0
 replace zs1 := cell_keep hb zs1
 replace hzs := hzs.below hb
 replace zu0 := cell_keep hb zu0
 replace zu1 := cell_keep hb zu1
 replace hzu := hzu.below hb
 replace zt0 := cell_keep hb zt0
 replace zt1 := cell_keep hb zt1
 replace hzt := hzt.below hb
 replace zm0 := cell_keep hb zm0
 replace zm1 := cell_keep hb zm1
 replace hzm := hzm.below hb
 replace hbw := Below.tr hbw hb
 clear hb; go_upto_region 11 with fail; refine wp_name ?_; intro w17 HW; have hb : Below w16.heap.size w16 w17 := by rw [HW.out]; exact bA _ _
 have hB : Blk w17 w16.heap.size 28 #[.slice Szv kzv czv, .slice Rzv mzv dzv] := by rw [HW.out]; exact Blk.new _ _ _
 obtain ⟨zv, hg⟩ : ∃ g, Hid (g = w16.heap.size) := ⟨_, rfl⟩; rw [← hg.out] at hB ⊢
 replace za0 := cell_keep hb za0
 replace za1 := cell_keep hb za1
 replace hza := hza.below hb
 replace zb0 := cell_keep hb zb0
 replace zb1 := cell_keep hb zb1
 replace hzb := hzb.below hb
 replace zc0 := cell_keep hb zc0
 replace zc1 := cell_keep hb zc1
 replace hzc := hzc.below hb
 replace zs0 := cell_keep hb zs0
 replace zs1 := cell_keep hb zs1
 replace hzs := hzs.below hb
 replace zu0 := cell_keep hb zu0
 replace zu1 := cell_keep hb zu1
 replace hzu := hzu.below hb
 replace zt0 := cell_keep hb zt0
 replace zt1 := cell_keep hb zt1
 replace hzt := hzt.below hb
 replace zm0 := cell_keep hb zm0
 replace zm1 := cell_keep hb zm1
 replace hzm := hzm.below hb
 replace hbw := Below.tr hbw hb
 replace hzv := hzv.below hb
 have zv0 := hB.cell 0; have zv1 := hB.cell 1; simp only [List.getElem?_toArray, List.getElem?_cons_zero, List.getElem?_cons_succ] at zv0 zv1; clear HW hB hg hb; go_wp2_with fail; refine (psame_5 _ _ _ _ hzs hzu).mono ?_; rintro e w18 ⟨rfl, hb⟩
 replace za0 := cell_keep hb za0
 replace za1 := cell_keep hb za1
 replace hza := hza.below hb
 replace zb0 := cell_keep hb zb0
 replace zb1 := cell_keep hb zb1
 replace hzb := hzb.below hb
 replace zc0 := cell_keep hb zc0
 replace zc1 := cell_keep hb zc1
 replace hzc := hzc.below hb
 replace zs0 := cell_keep hb zs0
 replace zs1 := cell_keep hb zs1
 replace hzs := hzs.below hb
 replace zu0 := cell_keep hb zu0
 replace zu1 := cell_keep hb zu1
 replace hzu := hzu.below hb
 replace zt0 := cell_keep hb zt0
 replace zt1 := cell_keep hb zt1
 replace hzt := hzt.below hb
 replace zm0 := cell_keep hb zm0
 replace zm1 := cell_keep hb zm1
 replace hzm := hzm.below hb
 replace zv0 := cell_keep hb zv0
 replace zv1 := cell_keep hb zv1
 replace hzv := hzv.below hb
 replace hbw := Below.tr hbw hb
 clear hb; go_wp2_with fail; refine (psame_5 _ _ _ _ hzm hzv).mono ?_; rintro e w19 ⟨rfl, hb⟩
 replace za0 := cell_keep hb za0
 replace za1 := cell_keep hb za1
 replace hza := hza.below hb
 replace zb0 := cell_keep hb zb0
 replace zb1 := cell_keep hb zb1
 replace hzb := hzb.below hb
 replace zc0 := cell_keep hb zc0
 replace zc1 := cell_keep hb zc1
 replace hzc := hzc.below hb
 replace zs0 := cell_keep hb zs0
 replace zs1 := cell_keep hb zs1
 replace hzs := hzs.below hb
 replace zu0 := cell_keep hb zu0
 replace zu1 := cell_keep hb zu1
 replace hzu := hzu.below hb
 replace zt0 := cell_keep hb zt0
 replace zt1 := cell_keep hb zt1
 replace hzt := hzt.below hb
 replace zm0 := cell_keep hb zm0
 replace zm1 := cell_keep hb zm1
 replace hzm := hzm.below hb
 replace zv0 := cell_keep hb zv0
 replace zv1 := cell_keep hb zv1
 replace hzv := hzv.below hb
 replace hbw := Below.tr hbw hb
 clear hb; clear zu0 zu1 hzu zv0 zv1 hzv; have hE1 : Es = 0 ∨ Es = 4 := by rw [← HEs.out, addF_rat ga gb]; exact (resP_er _ _).imp id fun h => h.1
 have hE2 : Em = 0 ∨ Em = 4 := by rw [← HEm.out, mulF_rat ga gb]; exact (resP_er _ _).imp id fun h => h.1
 rcases hE1 with hE1 | hE1
 rotate_left
 ·rcases hE2 with hE2 | hE2
  ·subst hE1 hE2; go_wp2_with fail; refine (lives5_n _).mono ?_; rintro e w' ⟨rfl, hb⟩; go_wp2_with fail; go_ret; exact ⟨rfl, Below.tr hbw hb⟩
  ·subst hE1 hE2; go_wp2_with fail; refine (lives5_n _).mono ?_; rintro e w' ⟨rfl, hb⟩; go_wp2_with fail; go_ret; exact ⟨rfl, Below.tr hbw hb⟩
 rcases hE2 with hE2 | hE2
 rotate_left
 ·subst hE1 hE2; go_wp2_with fail; refine (lives5_n _).mono ?_; rintro e w' ⟨rfl, hb⟩; go_wp2_with fail; go_ret; exact ⟨rfl, Below.tr hbw hb⟩
 subst hE1 hE2; obtain ⟨P, Q, hXs, gs, H1⟩ := resP_ok5 (Nat.mul_pos ga.1 gb.1) ((congrArg Prod.fst (addF_rat ga gb)).symm.trans HEs.out); obtain ⟨U, V, hXm, gx, H3⟩ := resP_ok5 (Nat.mul_pos ga.1 gb.1) ((congrArg Prod.fst (mulF_rat ga gb)).symm.trans HEm.out); have hXs' : Xs = ratP P Q := HXs.out.symm.trans ((congrArg Prod.snd (addF_rat ga gb)).trans hXs); have hXm' : Xm = ratP U V := HXm.out.symm.trans ((congrArg Prod.snd (mulF_rat ga gb)).trans hXm); subst hXs' hXm'; clear hXs hXm; have HH1 := Lib.hid H1; have HH2 := Lib.hid H2; have HH3 := Lib.hid H3; clear H1 H2 H3; have HEb : Hid ((subF (ratP P Q) (ratP pb qb)).1 = 0) := congrArg Prod.fst (sub_back ga gb gs HH1.out); have HXb : Hid ((subF (ratP P Q) (ratP pb qb)).2 = (ratP pa2 qa2)) := congrArg Prod.snd (sub_back ga gb gs HH1.out); go_wp2_with fail; refine (BinC.sh sub_F _ _ _ _ 0 (ratP pa2 qa2) _ hzs hzb HEb HXb).mono ?_; rintro e w20 ⟨Szd, kzd, czd, Rzd, mzd, dzd, rfl, hzd, hb⟩
 replace za0 := cell_keep hb za0
 replace za1 := cell_keep hb za1
 replace hza := hza.below hb
 replace zb0 := cell_keep hb zb0
 replace zb1 := cell_keep hb zb1
 replace hzb := hzb.below hb
 replace zc0 := cell_keep hb zc0
 replace zc1 := cell_keep hb zc1
 replace hzc := hzc.below hb
 replace zs0 := cell_keep hb zs0
 replace zs1 := cell_keep hb zs1
 replace hzs := hzs.below hb
 replace zt0 := cell_keep hb zt0
 replace zt1 := cell_keep hb zt1
 replace hzt := hzt.below hb
 replace zm0 := cell_keep hb zm0
 replace zm1 := cell_keep hb zm1
 replace hzm := hzm.below hb
 replace hbw := Below.tr hbw hb
 clear hb; go_upto_region 16 with fail; refine wp_name ?_; intro w21 HW; have hb : Below w20.heap.size w20 w21 := by rw [HW.out]; exact bA _ _
 have hB : Blk w21 w20.heap.size 28 #[.slice Szd kzd czd, .slice Rzd mzd dzd] := by rw [HW.out]; exact Blk.new _ _ _
 obtain ⟨zd, hg⟩ : ∃ g, Hid (g = w20.heap.size) := ⟨_, rfl⟩; rw [← hg.out] at hB ⊢; have hne_za_zd : za ≠ zd := by have := cell_lt za0; have := hg.out; dsimp only at *; omega
 have hne_zb_zd : zb ≠ zd := by have := cell_lt zb0; have := hg.out; dsimp only at *; omega
 have hne_zc_zd : zc ≠ zd := by have := cell_lt zc0; have := hg.out; dsimp only at *; omega
 have hne_zs_zd : zs ≠ zd := by have := cell_lt zs0; have := hg.out; dsimp only at *; omega
 have hne_zt_zd : zt ≠ zd := by have := cell_lt zt0; have := hg.out; dsimp only at *; omega
 have hne_zm_zd : zm ≠ zd := by have := cell_lt zm0; have := hg.out; dsimp only at *; omega
 have hszd : w.heap.size ≤ zd := by rw [hg.out]; exact hbw.size
 replace za0 := cell_keep hb za0
 replace za1 := cell_keep hb za1
 replace hza := hza.below hb
 replace zb0 := cell_keep hb zb0
 replace zb1 := cell_keep hb zb1
 replace hzb := hzb.below hb
 replace zc0 := cell_keep hb zc0
 replace zc1 := cell_keep hb zc1
 replace hzc := hzc.below hb
 replace zs0 := cell_keep hb zs0
 replace zs1 := cell_keep hb zs1
 replace hzs := hzs.below hb
 replace zt0 := cell_keep hb zt0
 replace zt1 := cell_keep hb zt1
 replace hzt := hzt.below hb
 replace zm0 := cell_keep hb zm0
 replace zm1 := cell_keep hb zm1
 replace hzm := hzm.below hb
 replace hbw := Below.tr hbw hb
 replace hzd := hzd.below hb
 have zd0 := hB.cell 0; have zd1 := hB.cell 1; simp only [List.getElem?_toArray, List.getElem?_cons_zero, List.getElem?_cons_succ] at zd0 zd1; have hBzd := hB; clear HW hB hg hb; go_wp2_with fail; refine (psame_5 _ _ _ _ hzd hza).mono ?_; rintro e w22 ⟨rfl, hb⟩
 replace za0 := cell_keep hb za0
 replace za1 := cell_keep hb za1
 replace hza := hza.below hb
 replace zb0 := cell_keep hb zb0
 replace zb1 := cell_keep hb zb1
 replace hzb := hzb.below hb
 replace zc0 := cell_keep hb zc0
 replace zc1 := cell_keep hb zc1
 replace hzc := hzc.below hb
 replace zs0 := cell_keep hb zs0
 replace zs1 := cell_keep hb zs1
 replace hzs := hzs.below hb
 replace zt0 := cell_keep hb zt0
 replace zt1 := cell_keep hb zt1
 replace hzt := hzt.below hb
 replace zm0 := cell_keep hb zm0
 replace zm1 := cell_keep hb zm1
 replace hzm := hzm.below hb
 replace zd0 := cell_keep hb zd0
 replace zd1 := cell_keep hb zd1
 replace hzd := hzd.below hb
 replace hBzd := hBzd.below hb hBzd.lt
 replace hbw := Below.tr hbw hb
 clear hb; have HKB := Lib.hid (lb_pos_iff pb); go_upto_region 18 with fail; have hlen : (kzb : Int) = ((Nm.lb pb).length : Int) := by rw [rtP_len hzb]; rfl
 go_cut [137] from 126 to 226 (fun t wz => (∃ cb, t = .bool cb ∧ Hid (cb = true → 0 < pb)) ∧ wz = w22)
 case first => as_aux_lemma =>
  go_wp2_with fail
  go_meet
  case rel => exact ⟨⟨_, rfl, fun h => HKB.out (by have := of_decide_eq_true h; omega)⟩, rfl⟩
 obtain ⟨⟨cb2, rfl, HC2⟩, hx⟩ := hcut; obtain rfl := hx.symm; clear hx hlen HKB
 go_upto_if 137 with fail
 go_cut [] from 126 to 226 (fun wz => Kp w.heap.size zd w22 wz)
 case first => as_aux_lemma =>
  cases cb2
  ·go_wp2_with fail
   go_meet
   case rel => exact Kp.refl _ _ _
  ·have hpb := HC2.out rfl; have HEd : Hid ((divF (ratP U V) (ratP pb qb)).1 = 0) := congrArg Prod.fst (div_back ga gb gx hpb HH3.out); have HXd : Hid ((divF (ratP U V) (ratP pb qb)).2 = (ratP pa2 qa2)) := congrArg Prod.snd (div_back ga gb gx hpb HH3.out); clear hpb HC2; go_wp2_with fail; refine (BinC.sh div_F _ _ _ _ 0 (ratP pa2 qa2) _ hzm hzb HEd HXd).mono ?_; rintro e wl ⟨A, k', c, A', k'', c', rfl, hL, hb⟩; have hB := hBzd.below hb hBzd.lt; have f1 := hB.frozen 0; have f2 := hB.frozen 1; have a0 := hB.cell 0; have a1 := hB.cell 1; simp only [List.getElem?_toArray, List.getElem?_cons_zero, List.getElem?_cons_succ] at a0 a1; have hS := Kp.store (B := w.heap.size) hB ⟨_, _, _, _, _, _, hB⟩ hszd A k' c A' k'' c'; have HK := Lib.hid ((Kp.below (g := zd) hb hbw.size).trans hS); have HL2 := Lib.hid (hL.mapL hS.lim); have hB2 := (hB.set_ 0 (.slice A k' c)).set_ 1 (.slice A' k'' c'); have b0 := hB2.cell 0; have b1 := hB2.cell 1; simp only [Array.getElem?_setIfInBounds, List.size_toArray] at b0 b1; simp at b0 b1
   replace za0 := HK.out.cell _ _ _ hne_za_zd za0
   replace za1 := HK.out.cell _ _ _ hne_za_zd za1
   replace hza := hza.mapL HK.out.lim
   have hL3 := HL2.out; clear hB hB2 hL hS HL2 zb0 zb1 zc0 zc1 zs0 zs1 zt0 zt1 zm0 zm1 hzb hzc hzs hzt hzm zd0 zd1 hzd; go_wp2_with fail; refine (psame_5 _ _ _ _ hL3 hza).mono ?_; rintro e wm ⟨rfl, hb2⟩; have HK2 := Lib.hid (HK.out.trans (Kp.below hb2 (Nat.le_trans hbw.size HK.out.be.size))); go_wp2_with fail
   go_meet
   case rel => exact HK2.out
 have hK := hcut; clear hcut
 replace za0 := hK.cell _ _ _ hne_za_zd za0
 replace za1 := hK.cell _ _ _ hne_za_zd za1
 replace hza := hza.mapL hK.lim
 replace zb0 := hK.cell _ _ _ hne_zb_zd zb0
 replace zb1 := hK.cell _ _ _ hne_zb_zd zb1
 replace hzb := hzb.mapL hK.lim
 replace zc0 := hK.cell _ _ _ hne_zc_zd zc0
 replace zc1 := hK.cell _ _ _ hne_zc_zd zc1
 replace hzc := hzc.mapL hK.lim
 replace zs0 := hK.cell _ _ _ hne_zs_zd zs0
 replace zs1 := hK.cell _ _ _ hne_zs_zd zs1
 replace hzs := hzs.mapL hK.lim
 replace zt0 := hK.cell _ _ _ hne_zt_zd zt0
 replace zt1 := hK.cell _ _ _ hne_zt_zd zt1
 replace hzt := hzt.mapL hK.lim
 replace zm0 := hK.cell _ _ _ hne_zm_zd zm0
 replace zm1 := hK.cell _ _ _ hne_zm_zd zm1
 replace hzm := hzm.mapL hK.lim
 replace hbw := Below.tr' hbw hK.be
 clear hK HC2 hBzd hszd zd0 zd1 hzd hne_za_zd hne_zb_zd hne_zc_zd hne_zs_zd hne_zt_zd hne_zm_zd; obtain ⟨El, HEl⟩ : ∃ E, Hid ((addF (ratP P Q) (ratP pc qc)).1 = E) := ⟨_, rfl⟩; obtain ⟨Xl, HXl⟩ : ∃ X, Hid ((addF (ratP P Q) (ratP pc qc)).2 = X) := ⟨_, rfl⟩; have HEr : Hid ((addF (ratP pa2 qa2) (ratP R S)).1 = El) := (congrArg Prod.fst (add_assoc5 ga gb gc gs gt HH1.out HH2.out)).trans HEl.out; have HXr : Hid ((addF (ratP pa2 qa2) (ratP R S)).2 = Xl) := (congrArg Prod.snd (add_assoc5 ga gb gc gs gt HH1.out HH2.out)).trans HXl.out; obtain ⟨HEz, HXz⟩ := fld_sum (pc := pc) (qc := qc) ga gb gs gc HEs HXs HEl HXl; go_wp2_with fail; refine (BinC.sh add_F _ _ _ _ El Xl _ hzs hzc HEl HXl).mono ?_; rintro e w24 ⟨Szl, kzl, czl, Rzl, mzl, dzl, rfl, hzl, hb⟩
 replace za0 := cell_keep hb za0
 replace za1 := cell_keep hb za1
 replace hza := hza.below hb
 replace zb0 := cell_keep hb zb0
 replace zb1 := cell_keep hb zb1
 replace hzb := hzb.below hb
 replace zc0 := cell_keep hb zc0
 replace zc1 := cell_keep hb zc1
 replace hzc := hzc.below hb
 replace zs0 := cell_keep hb zs0
 replace zs1 := cell_keep hb zs1
 replace hzs := hzs.below hb
 replace zt0 := cell_keep hb zt0
 replace zt1 := cell_keep hb zt1
 replace hzt := hzt.below hb
 replace zm0 := cell_keep hb zm0
 replace zm1 := cell_keep hb zm1
 replace hzm := hzm.below hb
 replace hbw := Below.tr hbw hb
 clear hb; go_upto_region 23 with fail; refine wp_name ?_; intro w25 HW; have hb : Below w24.heap.size w24 w25 := by rw [HW.out]; exact bA _ _
 have hB : Blk w25 w24.heap.size 28 #[.slice Szl kzl czl, .slice Rzl mzl dzl] := by rw [HW.out]; exact Blk.new _ _ _
 obtain ⟨zl, hg⟩ : ∃ g, Hid (g = w24.heap.size) := ⟨_, rfl⟩; rw [← hg.out] at hB ⊢
 replace za0 := cell_keep hb za0
 replace za1 := cell_keep hb za1
 replace hza := hza.below hb
 replace zb0 := cell_keep hb zb0
 replace zb1 := cell_keep hb zb1
 replace hzb := hzb.below hb
 replace zc0 := cell_keep hb zc0
 replace zc1 := cell_keep hb zc1
 replace hzc := hzc.below hb
 replace zs0 := cell_keep hb zs0
 replace zs1 := cell_keep hb zs1
 replace hzs := hzs.below hb
 replace zt0 := cell_keep hb zt0
 replace zt1 := cell_keep hb zt1
 replace hzt := hzt.below hb
 replace zm0 := cell_keep hb zm0
 replace zm1 := cell_keep hb zm1
 replace hzm := hzm.below hb
 replace hbw := Below.tr hbw hb
 replace hzl := hzl.below hb
 have zl0 := hB.cell 0; have zl1 := hB.cell 1; simp only [List.getElem?_toArray, List.getElem?_cons_zero, List.getElem?_cons_succ] at zl0 zl1; clear HW hB hg hb; go_wp2_with fail; refine (BinC.sh add_F _ _ _ _ El Xl _ hza hzt HEr HXr).mono ?_; rintro e w26 ⟨Szr, kzr, czr, Rzr, mzr, dzr, rfl, hzr, hb⟩
 replace za0 := cell_keep hb za0
 replace za1 := cell_keep hb za1
 replace hza := hza.below hb
 replace zb0 := cell_keep hb zb0
 replace zb1 := cell_keep hb zb1
 replace hzb := hzb.below hb
 replace zc0 := cell_keep hb zc0
 replace zc1 := cell_keep hb zc1
 replace hzc := hzc.below hb
 replace zs0 := cell_keep hb zs0
 replace zs1 := cell_keep hb zs1
 replace hzs := hzs.below hb
 replace zt0 := cell_keep hb zt0
 replace zt1 := cell_keep hb zt1
 replace hzt := hzt.below hb
 replace zm0 := cell_keep hb zm0
 replace zm1 := cell_keep hb zm1
 replace hzm := hzm.below hb
 replace zl0 := cell_keep hb zl0
 replace zl1 := cell_keep hb zl1
 replace hzl := hzl.below hb
 replace hbw := Below.tr hbw hb
 clear hb; go_upto_region 24 with fail; refine wp_name ?_; intro w27 HW; have hb : Below w26.heap.size w26 w27 := by rw [HW.out]; exact bA _ _
 have hB : Blk w27 w26.heap.size 28 #[.slice Szr kzr czr, .slice Rzr mzr dzr] := by rw [HW.out]; exact Blk.new _ _ _
 obtain ⟨zr, hg⟩ : ∃ g, Hid (g = w26.heap.size) := ⟨_, rfl⟩; rw [← hg.out] at hB ⊢
 replace za0 := cell_keep hb za0
 replace za1 := cell_keep hb za1
 replace hza := hza.below hb
 replace zb0 := cell_keep hb zb0
 replace zb1 := cell_keep hb zb1
 replace hzb := hzb.below hb
 replace zc0 := cell_keep hb zc0
 replace zc1 := cell_keep hb zc1
 replace hzc := hzc.below hb
 replace zs0 := cell_keep hb zs0
 replace zs1 := cell_keep hb zs1
 replace hzs := hzs.below hb
 replace zt0 := cell_keep hb zt0
 replace zt1 := cell_keep hb zt1
 replace hzt := hzt.below hb
 replace zm0 := cell_keep hb zm0
 replace zm1 := cell_keep hb zm1
 replace hzm := hzm.below hb
 replace zl0 := cell_keep hb zl0
 replace zl1 := cell_keep hb zl1
 replace hzl := hzl.below hb
 replace hbw := Below.tr hbw hb
 replace hzr := hzr.below hb
 have zr0 := hB.cell 0; have zr1 := hB.cell 1; simp only [List.getElem?_toArray, List.getElem?_cons_zero, List.getElem?_cons_succ] at zr0 zr1; clear HW hB hg hb; have hrow := Lib.hid (ratRow_new 28 [(.slice Sza kza cza, .slice Rza mza dza), (.slice Szb kzb czb, .slice Rzb mzb dzb), (.slice Szc kzc czc, .slice Rzc mzc dzc)] [(ratP pa2 qa2), (ratP pb qb), (ratP pc qc)] ⟨hza, hzb, hzc, trivial⟩ (by simp)); have hbA := bA w27 (.cells #[.slice Sza kza cza, .slice Rza mza dza, .slice Szb kzb czb, .slice Rzb mzb dzb, .slice Szc kzc czc, .slice Rzc mzc dzc] 28)
 go_wp2_with (refine wpList_sliceN (by rfl) 23 28 3 [(0, .tmp 165), (1, .tmp 166), (2, .tmp 167)] rfl #[.slice Sza kza cza, .slice Rza mza dza, .slice Szb kzb czb, .slice Rzb mzb dzb, .slice Szc kzc czc, .slice Rzc mzc dzc] iR nilRat 2 [(0, .agg #[.slice Sza kza cza, .slice Rza mza dza]), (1, .agg #[.slice Szb kzb czb, .slice Rzb mzb dzb]), (2, .agg #[.slice Szc kzc czc, .slice Rzc mzc dzc])] Tryd.underlying23 hiR hzR hzR1 (by omega) (by omega) rfl (fill_f3 _ _ _ _ _ _ _ _ _ _ _ _ _ _ _ _ _ _) ?_; simp only [Act.put, sA, sB, sC])
 refine (sum_sh _ 3 _ _ _ hrow.out El Xl HEz HXz).mono ?_; rintro e w28 ⟨Szz, kzz, czz, Rzz, mzz, dzz, rfl, hzz, hb⟩
 replace hb := Below.tr hbA hb
 clear hbA hrow
 replace za0 := cell_keep hb za0
 replace za1 := cell_keep hb za1
 replace hza := hza.below hb
 replace zb0 := cell_keep hb zb0
 replace zb1 := cell_keep hb zb1
 replace hzb := hzb.below hb
 replace zc0 := cell_keep hb zc0
 replace zc1 := cell_keep hb zc1
 replace hzc := hzc.below hb
 replace zs0 := cell_keep hb zs0
 replace zs1 := cell_keep hb zs1
 replace hzs := hzs.below hb
 replace zt0 := cell_keep hb zt0
 replace zt1 := cell_keep hb zt1
 replace hzt := hzt.below hb
 replace zm0 := cell_keep hb zm0
 replace zm1 := cell_keep hb zm1
 replace hzm := hzm.below hb
 replace zl0 := cell_keep hb zl0
 replace zl1 := cell_keep hb zl1
 replace hzl := hzl.below hb
 replace zr0 := cell_keep hb zr0
 replace zr1 := cell_keep hb zr1
 replace hzr := hzr.below hb
 replace hbw := Below.tr hbw hb
 clear hb; go_upto_region 25 with fail; refine wp_name ?_; intro w29 HW; have hb : Below w28.heap.size w28 w29 := by rw [HW.out]; exact bA _ _
 have hB : Blk w29 w28.heap.size 28 #[.slice Szz kzz czz, .slice Rzz mzz dzz] := by rw [HW.out]; exact Blk.new _ _ _
 obtain ⟨zz, hg⟩ : ∃ g, Hid (g = w28.heap.size) := ⟨_, rfl⟩; rw [← hg.out] at hB ⊢
 replace za0 := cell_keep hb za0
 replace za1 := cell_keep hb za1
 replace hza := hza.below hb
 replace zb0 := cell_keep hb zb0
 replace zb1 := cell_keep hb zb1
 replace hzb := hzb.below hb
 replace zc0 := cell_keep hb zc0
 replace zc1 := cell_keep hb zc1
 replace hzc := hzc.below hb
 replace zs0 := cell_keep hb zs0
 replace zs1 := cell_keep hb zs1
 replace hzs := hzs.below hb
 replace zt0 := cell_keep hb zt0
 replace zt1 := cell_keep hb zt1
 replace hzt := hzt.below hb
 replace zm0 := cell_keep hb zm0
 replace zm1 := cell_keep hb zm1
 replace hzm := hzm.below hb
 replace zl0 := cell_keep hb zl0
 replace zl1 := cell_keep hb zl1
 replace hzl := hzl.below hb
 replace zr0 := cell_keep hb zr0
 replace zr1 := cell_keep hb zr1
 replace hzr := hzr.below hb
 replace hbw := Below.tr hbw hb
 replace hzz := hzz.below hb
 have zz0 := hB.cell 0; have zz1 := hB.cell 1; simp only [List.getElem?_toArray, List.getElem?_cons_zero, List.getElem?_cons_succ] at zz0 zz1; clear HW hB hg hb; go_wp2_with fail; refine (psame_5 _ _ _ _ hzl hzr).mono ?_; rintro e w30 ⟨rfl, hb⟩
 replace za0 := cell_keep hb za0
 replace za1 := cell_keep hb za1
 replace hza := hza.below hb
 replace zb0 := cell_keep hb zb0
 replace zb1 := cell_keep hb zb1
 replace hzb := hzb.below hb
 replace zc0 := cell_keep hb zc0
 replace zc1 := cell_keep hb zc1
 replace hzc := hzc.below hb
 replace zs0 := cell_keep hb zs0
 replace zs1 := cell_keep hb zs1
 replace hzs := hzs.below hb
 replace zt0 := cell_keep hb zt0
 replace zt1 := cell_keep hb zt1
 replace hzt := hzt.below hb
 replace zm0 := cell_keep hb zm0
 replace zm1 := cell_keep hb zm1
 replace hzm := hzm.below hb
 replace zl0 := cell_keep hb zl0
 replace zl1 := cell_keep hb zl1
 replace hzl := hzl.below hb
 replace zr0 := cell_keep hb zr0
 replace zr1 := cell_keep hb zr1
 replace hzr := hzr.below hb
 replace zz0 := cell_keep hb zz0
 replace zz1 := cell_keep hb zz1
 replace hzz := hzz.below hb
 replace hbw := Below.tr hbw hb
 clear hb; go_wp2_with fail; refine (psame_5 _ _ _ _ hzl hzz).mono ?_; rintro e w31 ⟨rfl, hb⟩
 replace za0 := cell_keep hb za0
 replace za1 := cell_keep hb za1
 replace hza := hza.below hb
 replace zb0 := cell_keep hb zb0
 replace zb1 := cell_keep hb zb1
 replace hzb := hzb.below hb
 replace zc0 := cell_keep hb zc0
 replace zc1 := cell_keep hb zc1
 replace hzc := hzc.below hb
 replace zs0 := cell_keep hb zs0
 replace zs1 := cell_keep hb zs1
 replace hzs := hzs.below hb
 replace zt0 := cell_keep hb zt0
 replace zt1 := cell_keep hb zt1
 replace hzt := hzt.below hb
 replace zm0 := cell_keep hb zm0
 replace zm1 := cell_keep hb zm1
 replace hzm := hzm.below hb
 replace zl0 := cell_keep hb zl0
 replace zl1 := cell_keep hb zl1
 replace hzl := hzl.below hb
 replace zr0 := cell_keep hb zr0
 replace zr1 := cell_keep hb zr1
 replace hzr := hzr.below hb
 replace zz0 := cell_keep hb zz0
 replace zz1 := cell_keep hb zz1
 replace hzz := hzz.below hb
 replace hbw := Below.tr hbw hb
 clear hb; clear zl0 zl1 hzl zr0 zr1 hzr zz0 zz1 hzz; obtain ⟨Ew, HEw⟩ : ∃ E, Hid ((mulF (ratP pa2 qa2) (ratP R S)).1 = E) := ⟨_, rfl⟩; obtain ⟨Xw, HXw⟩ : ∃ X, Hid ((mulF (ratP pa2 qa2) (ratP R S)).2 = X) := ⟨_, rfl⟩; obtain ⟨Ey, HEy⟩ : ∃ E, Hid ((mulF (ratP pa2 qa2) (ratP pc qc)).1 = E) := ⟨_, rfl⟩; obtain ⟨Xy, HXy⟩ : ∃ X, Hid ((mulF (ratP pa2 qa2) (ratP pc qc)).2 = X) := ⟨_, rfl⟩; go_wp2_with fail; refine (BinC.sh mul_F _ _ _ _ Ew Xw _ hza hzt HEw HXw).mono ?_; rintro e w32 ⟨Szw, kzw, czw, Rzw, mzw, dzw, rfl, hzw, hb⟩
 replace za0 := cell_keep hb za0
 replace za1 := cell_keep hb za1
 replace hza := hza.below hb
 replace zb0 := cell_keep hb zb0
 replace zb1 := cell_keep hb zb1
 replace hzb := hzb.below hb
 replace zc0 := cell_keep hb zc0
 replace zc1 := cell_keep hb zc1
 replace hzc := hzc.below hb
 replace zs0 := cell_keep hb zs0
 replace zs1 := cell_keep hb zs1
 replace hzs := hzs.below hb
 replace zt0 := cell_keep hb zt0
 replace zt1 := cell_keep hb zt1
 replace hzt := hzt.below hb
 replace zm0 := cell_keep hb zm0
 replace zm1 := cell_keep hb zm1
 replace hzm := hzm.below hb
 replace hbw := Below.tr hbw hb
 clear hb; go_upto_region 28 with fail; refine wp_name ?_; intro w33 HW; have hb : Below w32.heap.size w32 w33 := by rw [HW.out]; exact bA _ _
 have hB : Blk w33 w32.heap.size 28 #[.slice Szw kzw czw, .slice Rzw mzw dzw] := by rw [HW.out]; exact Blk.new _ _ _
 obtain ⟨zw, hg⟩ : ∃ g, Hid (g = w32.heap.size) := ⟨_, rfl⟩; rw [← hg.out] at hB ⊢
 replace za0 := cell_keep hb za0
 replace za1 := cell_keep hb za1
 replace hza := hza.below hb
 replace zb0 := cell_keep hb zb0
 replace zb1 := cell_keep hb zb1
 replace hzb := hzb.below hb
 replace zc0 := cell_keep hb zc0
 replace zc1 := cell_keep hb zc1
 replace hzc := hzc.below hb
 replace zs0 := cell_keep hb zs0
 replace zs1 := cell_keep hb zs1
 replace hzs := hzs.below hb
 replace zt0 := cell_keep hb zt0
 replace zt1 := cell_keep hb zt1
 replace hzt := hzt.below hb
 replace zm0 := cell_keep hb zm0
 replace zm1 := cell_keep hb zm1
 replace hzm := hzm.below hb
 replace hbw := Below.tr hbw hb
 replace hzw := hzw.below hb
 have zw0 := hB.cell 0; have zw1 := hB.cell 1; simp only [List.getElem?_toArray, List.getElem?_cons_zero, List.getElem?_cons_succ] at zw0 zw1; clear HW hB hg hb; go_wp2_with fail; refine (BinC.sh mul_F _ _ _ _ Ey Xy _ hza hzc HEy HXy).mono ?_; rintro e w34 ⟨Szy, kzy, czy, Rzy, mzy, dzy, rfl, hzy, hb⟩
 replace za0 := cell_keep hb za0
 replace za1 := cell_keep hb za1
 replace hza := hza.below hb
 replace zb0 := cell_keep hb zb0
 replace zb1 := cell_keep hb zb1
 replace hzb := hzb.below hb
 replace zc0 := cell_keep hb zc0
 replace zc1 := cell_keep hb zc1
 replace hzc := hzc.below hb
 replace zs0 := cell_keep hb zs0
 replace zs1 := cell_keep hb zs1
 replace hzs := hzs.below hb
 replace zt0 := cell_keep hb zt0
 replace zt1 := cell_keep hb zt1
 replace hzt := hzt.below hb
 replace zm0 := cell_keep hb zm0
 replace zm1 := cell_keep hb zm1
 replace hzm := hzm.below hb
 replace zw0 := cell_keep hb zw0
 replace zw1 := cell_keep hb zw1
 replace hzw := hzw.below hb
 replace hbw := Below.tr hbw hb
 clear hb; go_upto_region 29 with fail; refine wp_name ?_; intro w35 HW; have hb : Below w34.heap.size w34 w35 := by rw [HW.out]; exact bA _ _
 have hB : Blk w35 w34.heap.size 28 #[.slice Szy kzy czy, .slice Rzy mzy dzy] := by rw [HW.out]; exact Blk.new _ _ _
 obtain ⟨zy, hg⟩ : ∃ g, Hid (g = w34.heap.size) := ⟨_, rfl⟩; rw [← hg.out] at hB ⊢
 replace za0 := cell_keep hb za0
 replace za1 := cell_keep hb za1
 replace hza := hza.below hb
 replace zb0 := cell_keep hb zb0
 replace zb1 := cell_keep hb zb1
 replace hzb := hzb.below hb
 replace zc0 := cell_keep hb zc0
 replace zc1 := cell_keep hb zc1
 replace hzc := hzc.below hb
 replace zs0 := cell_keep hb zs0
 replace zs1 := cell_keep hb zs1
 replace hzs := hzs.below hb
 replace zt0 := cell_keep hb zt0
 replace zt1 := cell_keep hb zt1
 replace hzt := hzt.below hb
 replace zm0 := cell_keep hb zm0
 replace zm1 := cell_keep hb zm1
 replace hzm := hzm.below hb
 replace zw0 := cell_keep hb zw0
 replace zw1 := cell_keep hb zw1
 replace hzw := hzw.below hb
 replace hbw := Below.tr hbw hb
 replace hzy := hzy.below hb
 have zy0 := hB.cell 0; have zy1 := hB.cell 1; simp only [List.getElem?_toArray, List.getElem?_cons_zero, List.getElem?_cons_succ] at zy0 zy1; clear HW hB hg hb; obtain ⟨Ep, HEp⟩ : ∃ E, Hid ((addF (ratP U V) Xy).1 = E) := ⟨_, rfl⟩; obtain ⟨Xp, HXp⟩ : ∃ X, Hid ((addF (ratP U V) Xy).2 = X) := ⟨_, rfl⟩; have HPW : Hid (Ey = 0 → Xp = Xw) := fld_dist ga gb gc gt gx HEy HXy HXp HXw HH2 HH3; go_wp2_with fail; refine (BinC.sh add_F _ _ _ _ Ep Xp _ hzm hzy HEp HXp).mono ?_; rintro e w36 ⟨Szp, kzp, czp, Rzp, mzp, dzp, rfl, hzp, hb⟩
 replace za0 := cell_keep hb za0
 replace za1 := cell_keep hb za1
 replace hza := hza.below hb
 replace zb0 := cell_keep hb zb0
 replace zb1 := cell_keep hb zb1
 replace hzb := hzb.below hb
 replace zc0 := cell_keep hb zc0
 replace zc1 := cell_keep hb zc1
 replace hzc := hzc.below hb
 replace zs0 := cell_keep hb zs0
 replace zs1 := cell_keep hb zs1
 replace hzs := hzs.below hb
 replace zt0 := cell_keep hb zt0
 replace zt1 := cell_keep hb zt1
 replace hzt := hzt.below hb
 replace zm0 := cell_keep hb zm0
 replace zm1 := cell_keep hb zm1
 replace hzm := hzm.below hb
 replace zw0 := cell_keep hb zw0
 replace zw1 := cell_keep hb zw1
 replace hzw := hzw.below hb
 replace zy0 := cell_keep hb zy0
 replace zy1 := cell_keep hb zy1
 replace hzy := hzy.below hb
 replace hbw := Below.tr hbw hb
 clear hb; go_upto_region 30 with fail; refine wp_name ?_; intro w37 HW; have hb : Below w36.heap.size w36 w37 := by rw [HW.out]; exact bA _ _
 have hB : Blk w37 w36.heap.size 28 #[.slice Szp kzp czp, .slice Rzp mzp dzp] := by rw [HW.out]; exact Blk.new _ _ _
 obtain ⟨zp, hg⟩ : ∃ g, Hid (g = w36.heap.size) := ⟨_, rfl⟩; rw [← hg.out] at hB ⊢
 replace za0 := cell_keep hb za0
 replace za1 := cell_keep hb za1
 replace hza := hza.below hb
 replace zb0 := cell_keep hb zb0
 replace zb1 := cell_keep hb zb1
 replace hzb := hzb.below hb
 replace zc0 := cell_keep hb zc0
 replace zc1 := cell_keep hb zc1
 replace hzc := hzc.below hb
 replace zs0 := cell_keep hb zs0
 replace zs1 := cell_keep hb zs1
 replace hzs := hzs.below hb
 replace zt0 := cell_keep hb zt0
 replace zt1 := cell_keep hb zt1
 replace hzt := hzt.below hb
 replace zm0 := cell_keep hb zm0
 replace zm1 := cell_keep hb zm1
 replace hzm := hzm.below hb
 replace zw0 := cell_keep hb zw0
 replace zw1 := cell_keep hb zw1
 replace hzw := hzw.below hb
 replace zy0 := cell_keep hb zy0
 replace zy1 := cell_keep hb zy1
 replace hzy := hzy.below hb
 replace hbw := Below.tr hbw hb
 replace hzp := hzp.below hb
 have zp0 := hB.cell 0; have zp1 := hB.cell 1; simp only [List.getElem?_toArray, List.getElem?_cons_zero, List.getElem?_cons_succ] at zp0 zp1; clear HW hB hg hb; by_cases hw : Ew = 0
 rotate_left
 ·have tw : (Ew == 0) = false := by simpa using hw
  clear hw; go_wp2_with fail; refine (lives5_n _).mono ?_; rintro e w' ⟨rfl, hb⟩; go_wp2_with fail; go_ret; exact ⟨rfl, Below.tr hbw hb⟩
 obtain rfl := hw.symm; by_cases hy : Ey = 0
 rotate_left
 ·have ty : (Ey == 0) = false := by simpa using hy
  clear hy; go_wp2_with fail; refine (lives5_n _).mono ?_; rintro e w' ⟨rfl, hb⟩; go_wp2_with fail; go_ret; exact ⟨rfl, Below.tr hbw hb⟩
 obtain rfl := hy.symm; by_cases hp : Ep = 0
 rotate_left
 ·have tp : (Ep == 0) = false := by simpa using hp
  clear hp; go_wp2_with fail; refine (lives5_n _).mono ?_; rintro e w' ⟨rfl, hb⟩; go_wp2_with fail; go_ret; exact ⟨rfl, Below.tr hbw hb⟩
 obtain rfl := hp.symm; obtain rfl := HPW.out rfl; go_wp2_with fail; refine (psame_5 _ _ _ _ hzw hzp).mono ?_; rintro e w38 ⟨rfl, hb⟩
 replace za0 := cell_keep hb za0
 replace za1 := cell_keep hb za1
 replace hza := hza.below hb
 replace zb0 := cell_keep hb zb0
 replace zb1 := cell_keep hb zb1
 replace hzb := hzb.below hb
 replace zc0 := cell_keep hb zc0
 replace zc1 := cell_keep hb zc1
 replace hzc := hzc.below hb
 replace zs0 := cell_keep hb zs0
 replace zs1 := cell_keep hb zs1
 replace hzs := hzs.below hb
 replace zt0 := cell_keep hb zt0
 replace zt1 := cell_keep hb zt1
 replace hzt := hzt.below hb
 replace zm0 := cell_keep hb zm0
 replace zm1 := cell_keep hb zm1
 replace hzm := hzm.below hb
 replace zw0 := cell_keep hb zw0
 replace zw1 := cell_keep hb zw1
 replace hzw := hzw.below hb
 replace zy0 := cell_keep hb zy0
 replace zy1 := cell_keep hb zy1
 replace hzy := hzy.below hb
 replace zp0 := cell_keep hb zp0
 replace zp1 := cell_keep hb zp1
 replace hzp := hzp.below hb
 replace hbw := Below.tr hbw hb
 clear hb; go_wp2_with fail; refine (lives5_n _).mono ?_; rintro e w' ⟨rfl, hb⟩; go_wp2_with fail; go_ret; exact ⟨rfl, Below.tr hbw hb⟩
end Go.Proofs.YtmbfjmilhfmnkaaDoor
