import Derived.Test.YtmbfjmilhfmnkaaGreatDoorKRdsProof14
import Derived.Test.YtmbfjmilhfmnkaaGreatDoorKRdsProof17
import Derived.Test.YtmbfjmilhfmnkaaGreatDoorS0
set_option linter.unusedVariables false
set_option linter.unusedSimpArgs false
namespace Go.Proofs.YtmbfjmilhfmnkaaGreatDoor
open Go.RowKit
/- ratio.Power, where the power fits -/
structure SPw (w0 : World) (g : Nat) (a1 a2 : Value) (A1 : Option Addr) (k1 c1 : Nat) (A2 : Option Addr) (k2 c2 : Nat) (p q : Nat) (X : Option Addr) (kx cx nx : Nat) (Y : Option Addr) (ky cy ny : Nat) (L : Nat → Bool) (vs : Nat → Value) (W : World) : Prop where
 box : Box W g a1 a2
 r1 : Nb W A1 k1 c1 p
 r2 : Nb W A2 k2 c2 (Nm.dn q)
 nx : Nb W X kx cx nx
 ny : Nb W Y ky cy ny
 be : Below w0.heap.size w0 W
 v8 : L 8 = false → vs 8 = .slice X kx cx
 v9 : L 9 = false → vs 9 = .slice Y ky cy
theorem SPw.step {w0 : World} {g : Nat} {a1 a2 : Value} {A1 : Option Addr} {k1 c1 : Nat} {A2 : Option Addr} {k2 c2 p q : Nat} {X : Option Addr} {kx cx nx : Nat} {Y : Option Addr} {ky cy ny : Nat} {L : Nat → Bool} {vs : Nat → Value} {W W' : World} (h : SPw w0 g a1 a2 A1 k1 c1 A2 k2 c2 p q X kx cx nx Y ky cy ny L vs W) (hb : Below W.heap.size W W') (i : Nat) (v : Value) : SPw w0 g a1 a2 A1 k1 c1 A2 k2 c2 p q X kx cx nx Y ky cy ny (updB L i) (upd vs i v) W' := by
 refine ⟨h.box.below hb, h.r1.below hb, h.r2.below hb, h.nx.below hb, h.ny.below hb, Below.tr h.be hb, fun hl => ?_, fun hl => ?_⟩
 ·unfold updB at hl; unfold upd; by_cases hi : 8 = i
  ·rw [if_pos hi] at hl; cases hl
  ·rw [if_neg hi] at hl ⊢; exact h.v8 hl
 ·unfold updB at hl; unfold upd; by_cases hi : 9 = i
  ·rw [if_pos hi] at hl; cases hl
  ·rw [if_neg hi] at hl ⊢; exact h.v9 hl
def PhiPw (g : Nat) (a1 a2 xv yv : Value) (q X Y : Nat) (j : Nat) (w : World) (x : Value) : Prop :=
 match j with
 | 0 => x = xv
 | 1 => x = .pointer (some ⟨g, 0, none⟩)
 | 2 => x = a1
 | 3 => IsNb w x X 130
 | 4 => x = yv
 | 5 => x = .agg #[a1, a2]
 | 6 => IsNb w x q 65
 | 7 => IsNb w x Y 130
 | 8 => IsNb w x X 130
 | 9 => IsNb w x Y 130
 | _ => True
theorem PhiPw.keep {g : Nat} {a1 a2 xv yv : Value} {q X Y : Nat} : ∀ (w w' : World), Below w.heap.size w w' → ∀ j x, PhiPw g a1 a2 xv yv q X Y j w x → PhiPw g a1 a2 xv yv q X Y j w' x := by
 intro w w' hb j x h; unfold PhiPw at h ⊢
 split <;> simp only at h ⊢
 all_goals first
  | exact h
  | (obtain ⟨A, k, c, rfl, h, e⟩ := h; exact ⟨A, k, c, rfl, h.below hb, e⟩)
theorem wp_nm {P : Program} {c : Code} {Q : Exit → Act → World → Prop} {a : Act} {w : World} (h : ∀ W, Hid (W = w) → c.wp P Q a W) : c.wp P Q a w := h w rfl
theorem fits_len {q : Nat} (h : (Nm.lb (Nm.dn q)).length ≤ 64) : (Nm.lb q).length ≤ 64 := by
 by_cases h1 : q = 1
 ·subst h1; rw [Nm.lb_one]; decide
 ·rwa [Nm.dn_ne h1] at h
theorem lb_zero_len {n : Nat} (h : (Nm.lb n).length = 0) : n = 0 := by
 have := List.eq_nil_of_length_eq_zero h; rwa [Nm.lb_nil_iff] at this
set_option maxRecDepth 10000 in
set_option maxHeartbeats 2000000 in
theorem power_n (va : Value) (p q n : Nat) (w : World) (ha : Rat w va p q) (ga : Nm.Good p q) (hn : n ≤ 65536) (HF : Hid (∀ k, k ≤ n → Nm.Fits (p ^ k) (q ^ k))) :
  Calls Tryz.prog 40 #[va, .int .i64 n] w fun e w' => ∃ v, e = .returned (.tuple #[v, .int .i64 0]) ∧ Rat w' v (p ^ n) (q ^ n) ∧ Below w.heap.size w w' := by
 obtain ⟨A1, k1, c1, A2, k2, c2, rfl⟩ := ha.shape; obtain ⟨s1, s2⟩ := ha.small ga; have hq := ga.pos; obtain ⟨W, HW⟩ : ∃ W, Hid (W = (w.alloc (.cells #[.slice A1 k1 c1, .slice A2 k2 c2] 29)).alloc (.cells #[.slice none 0 0, .slice none 0 0] 29)) := ⟨_, rfl⟩; have hbw : Below w.heap.size w W := by rw [HW.out]; exact Below.tr (bA _ _) (bA _ _)
 have hx : Box W w.heap.size (.slice A1 k1 c1) (.slice A2 k2 c2) := by rw [HW.out]; exact Box.below (Blk.new w _ _) (bA _ _)
 have hres : Res W (w.heap.size + 1) := by
  rw [HW.out]; have := Res.new (w.alloc (.cells #[.slice A1 k1 c1, .slice A2 k2 c2] 29)); simpa using this
 have ha1 := ha.below hbw; have d0 : decide ((n : Int) < 0) = false := by simp
 have d1 : decide ((65536 : Int) < (n : Int)) = false := by simp; omega
 go_enter Tryz.func40, Tryz.ntmps40
 go_wp2_with fail; rw [← HW.out]; refine (valid_v ha1.rtl).mono ?_; rintro e w2 ⟨E, rfl, HE, hb2⟩; obtain rfl : E = 0 := by rw [HE.out]; exact Nm.validE_of ga
 have hx2 := hx.below hb2; have hres2 := hres.below hb2; have hra2 := ha1.below hb2; have hbw2 := Below.tr hbw hb2; clear hx hres ha1 hb2 hbw HE HW ha; obtain ⟨f1, f2⟩ := hx2.facts; have hnb := hra2.nb; by_cases hcl : 0 < n ∧ q = 1 ∧ p ≤ 1
 ·obtain ⟨h0, rfl, hp1⟩ := hcl
  have HPN : Hid (p ^ n = p ∧ 1 ^ n = 1) := by
   refine ⟨?_, Nat.one_pow n⟩
   rcases (show p = 0 ∨ p = 1 by omega) with rfl | rfl
   ·exact Nat.zero_pow h0
   ·exact Nat.one_pow n
  have d2 : decide (0 < (n : Int)) = true := by simp; omega
  obtain rfl : k2 = 0 := by have := hnb.2.1; simpa [Nm.dn_one, Nm.lb_zero] using this
  rcases (show p = 0 ∨ p = 1 by omega) with rfl | rfl
  ·obtain rfl : k1 = 0 := hnb.1.kzero; go_wp2_with fail; refine (clone_n _ _ _ 0 _ hnb.1 (by omega)).mono ?_; rintro e w3 ⟨A', c', rfl, hc, _, hb3⟩; have hres3 := hres2.below hb3; obtain ⟨r1, r2, r3, r4⟩ := hres3.facts; obtain ⟨t1, t2⟩ := hres3.set2 (.slice A' 0 c') (.slice none 0 0)
   have hfin : Rat ((w3.setCell ⟨w.heap.size + 1, 0, none⟩ (.slice A' 0 c')).setCell ⟨w.heap.size + 1, 1, none⟩ (.slice none 0 0)) (.agg #[.slice A' 0 c', .slice none 0 0]) (0 ^ n) (1 ^ n) := by
    rw [HPN.out.1, HPN.out.2]; exact ⟨_, _, _, _, _, _, rfl, hres3.sl.keep2 A' none 0 c' 0 0 _ _ _ _ hc, Nb.zero _⟩
   have hbr := below_set2 (Below.tr hbw2 hb3) (Nat.le_succ _) (.slice A' 0 c') (.slice none 0 0); clear f1 f2 hnb hx2 hres2 hra2 hres3 hc; go_wp2_with fail; exact bodyPost_ret (v := .tuple #[.agg #[.slice A' 0 c', .slice none 0 0], .int .i64 0]) (by simp [results, Tryz.results40, go_sem, t1, t2]) rfl ⟨_, rfl, hfin, hbr⟩
  ·obtain rfl : k1 = 1 := by have := hnb.1.1; rw [Nm.lb_one] at this; exact this
   go_wp2_with fail; refine (isOne_t _ _ _ _ _ hnb.1 rfl).mono ?_; rintro e w' ⟨rfl, rfl⟩; go_wp2_with fail; refine (clone_n _ _ _ 1 _ hnb.1 (by omega)).mono ?_; rintro e w3 ⟨A', c', rfl, hc, _, hb3⟩; have hres3 := hres2.below hb3; obtain ⟨r1, r2, r3, r4⟩ := hres3.facts; obtain ⟨t1, t2⟩ := hres3.set2 (.slice A' 1 c') (.slice none 0 0)
   have hfin : Rat ((w3.setCell ⟨w.heap.size + 1, 0, none⟩ (.slice A' 1 c')).setCell ⟨w.heap.size + 1, 1, none⟩ (.slice none 0 0)) (.agg #[.slice A' 1 c', .slice none 0 0]) (1 ^ n) (1 ^ n) := by
    rw [HPN.out.2]; exact ⟨_, _, _, _, _, _, rfl, hres3.sl.keep2 A' none 1 c' 0 0 _ _ _ _ hc, Nb.zero _⟩
   have hbr := below_set2 (Below.tr hbw2 hb3) (Nat.le_succ _) (.slice A' 1 c') (.slice none 0 0); clear f1 f2 hnb hx2 hres2 hra2 hres3 hc; go_wp2_with fail; exact bodyPost_ret (v := .tuple #[.agg #[.slice A' 1 c', .slice none 0 0], .int .i64 0]) (by simp [results, Tryz.results40, go_sem, t1, t2]) rfl ⟨_, rfl, hfin, hbr⟩
 ·have HCL := Lib.hid hcl; clear hcl
  rcases (show n = 0 ∨ (0 < n ∧ 0 < k2) ∨ (0 < n ∧ k2 = 0 ∧ 0 < k1) by
   rcases Nat.eq_zero_or_pos n with h | h
   ·exact .inl h
   ·rcases Nat.eq_zero_or_pos k2 with h2 | h2
    ·right; right
     refine ⟨h, h2, ?_⟩
     rcases Nat.eq_zero_or_pos k1 with h1 | h1
     ·exfalso
      have e1 : p = 0 := lb_zero_len (hnb.1.1.symm.trans h1); have e2 : Nm.dn q = 0 := lb_zero_len (hnb.2.1.symm.trans h2); exact HCL.out ⟨h, dn_zero hq e2, by omega⟩
     ·exact h1
    ·exact .inr (.inl ⟨h, h2⟩)) with hn0 | ⟨hn0, hk2⟩ | ⟨hn0, hk2, hk1⟩
  ·subst hn0; clear HCL; go_upto_region 9 with fail; refine wp_nm ?_; intro w4 HW4; have hb24 : Below w2.heap.size w2 w4 := by rw [HW4.out]; exact Below.tr (bA _ _) (bA _ _)
   have hX : Nb w4 (some ⟨w2.heap.size, 0, none⟩) 1 1 1 := by rw [HW4.out]; exact (Nb.one w2 _ rfl).below (bA _ _)
   have hY : Nb w4 (some ⟨w2.heap.size + 1, 0, none⟩) 1 1 1 := by rw [HW4.out]; exact Nb.one _ _ (by simp)
   have hx4 := hx2.below hb24; have hres4 := hres2.below hb24; have hr4 := (hra2.below hb24).nb; have hbw4 := Below.tr hbw2 hb24; clear hx2 hres2 hra2 hbw2 hb24 HW4 hnb f1 f2; go_wp2_with fail
   go_loopg [7, 8, 48] 0 (fun j x y i wr => ∃ (k : Nat) (X : Option Addr) (kx cx : Nat) (Y : Option Addr) (ky cy : Nat), i = .int .i64 k ∧ k + j = 0 ∧ x = .slice X kx cx ∧ y = .slice Y ky cy ∧ Nb wr X kx cx (p ^ k) ∧ Nb wr Y ky cy (q ^ k) ∧ kx ≤ 64 ∧ ky ≤ 64 ∧ Below w4.heap.size w4 wr)
   case atStart => exact ⟨0, _, _, _, _, _, _, rfl, by omega, rfl, rfl, by rw [Nat.pow_zero]; exact hX, by rw [Nat.pow_zero]; exact hY, by omega, by omega, Below.refl _ _⟩
   case round =>
    clear hX hY; obtain ⟨k, X, kx, cx, Y, ky, cy, rfl, hkn, rfl, rfl, hX, hY, hkx, hky, hbe⟩ := hrel; have hx5 := hx4.below hbe; have hres5 := hres4.below hbe; have hr5a := hr4.1.below hbe; have hr5b := hr4.2.below hbe; have hbw5 := Below.tr hbw4 hbe; by_cases hk : k < 0
    ·omega
    ·obtain rfl : k = 0 := by omega
     obtain ⟨r1, r2, r3, r4⟩ := hres5.facts; by_cases hq1 : q ^ 0 = 1
     ·obtain ⟨t1, t2⟩ := hres5.set2 (.slice X kx cx) (.slice none 0 0)
      have hfin : Rat ((wr.setCell ⟨w.heap.size + 1, 0, none⟩ (.slice X kx cx)).setCell ⟨w.heap.size + 1, 1, none⟩ (.slice none 0 0)) (.agg #[.slice X kx cx, .slice none 0 0]) (p ^ 0) (q ^ 0) := by
       refine ⟨_, _, _, _, _, _, rfl, hres5.sl.keep2 X none kx cx 0 0 _ _ _ _ hX, ?_⟩; rw [hq1]; exact Nb.zero _
      have hbr := below_set2 hbw5 (Nat.le_succ _) (.slice X kx cx) (.slice none 0 0); have HY := Lib.hid hY; have HQ1 := Lib.hid hq1; clear hx5 hres5 hr5a hr5b hbw5 hX hY hq1; go_wp2_with fail; refine (isOne_t _ _ _ _ _ HY.out HQ1.out).mono ?_; rintro e w' ⟨rfl, rfl⟩; go_wp2_with fail; exact bodyPost_ret (v := .tuple #[.agg #[.slice X kx cx, .slice none 0 0], .int .i64 0]) (by simp [results, Tryz.results40, go_sem, t1, t2]) rfl ⟨_, rfl, hfin, hbr⟩
     ·obtain ⟨t1, t2⟩ := hres5.set2 (.slice X kx cx) (.slice Y ky cy)
      have hfin : Rat ((wr.setCell ⟨w.heap.size + 1, 0, none⟩ (.slice X kx cx)).setCell ⟨w.heap.size + 1, 1, none⟩ (.slice Y ky cy)) (.agg #[.slice X kx cx, .slice Y ky cy]) (p ^ 0) (q ^ 0) := by
       refine ⟨_, _, _, _, _, _, rfl, hres5.sl.keep2 X Y kx cx ky cy _ _ _ _ hX, ?_⟩; rw [Nm.dn_ne hq1]; exact hres5.sl.keep2 X Y kx cx ky cy _ _ _ _ hY
      have hbr := below_set2 hbw5 (Nat.le_succ _) (.slice X kx cx) (.slice Y ky cy); have HY := Lib.hid hY; have HQ1 := Lib.hid hq1; clear hx5 hres5 hr5a hr5b hbw5 hX hY hq1; go_wp2_with fail; refine (isOne_f _ _ _ _ _ HY.out HQ1.out).mono ?_; rintro e w' ⟨rfl, rfl⟩; go_wp2_with fail; exact bodyPost_ret (v := .tuple #[.agg #[.slice X kx cx, .slice Y ky cy], .int .i64 0]) (by simp [results, Tryz.results40, go_sem, t1, t2]) rfl ⟨_, rfl, hfin, hbr⟩
  ·have d2 : decide (0 < (n : Int)) = true := by simp; omega
   have d3 : ((k2 : Int) == 0) = false := by simp; omega
   go_upto_region 9 with fail; refine wp_nm ?_; intro w4 HW4; have hb24 : Below w2.heap.size w2 w4 := by rw [HW4.out]; exact Below.tr (bA _ _) (bA _ _)
   have hX : Nb w4 (some ⟨w2.heap.size, 0, none⟩) 1 1 1 := by rw [HW4.out]; exact (Nb.one w2 _ rfl).below (bA _ _)
   have hY : Nb w4 (some ⟨w2.heap.size + 1, 0, none⟩) 1 1 1 := by rw [HW4.out]; exact Nb.one _ _ (by simp)
   have hx4 := hx2.below hb24; have hres4 := hres2.below hb24; have hr4 := (hra2.below hb24).nb; have hbw4 := Below.tr hbw2 hb24; clear hx2 hres2 hra2 hbw2 hb24 HW4 hnb f1 f2; go_wp2_with fail
   go_loopg [7, 8, 48] n (fun j x y i wr => ∃ (k : Nat) (X : Option Addr) (kx cx : Nat) (Y : Option Addr) (ky cy : Nat), i = .int .i64 k ∧ k + j = n ∧ x = .slice X kx cx ∧ y = .slice Y ky cy ∧ Nb wr X kx cx (p ^ k) ∧ Nb wr Y ky cy (q ^ k) ∧ kx ≤ 64 ∧ ky ≤ 64 ∧ Below w4.heap.size w4 wr)
   case atStart => exact ⟨0, _, _, _, _, _, _, rfl, by omega, rfl, rfl, by rw [Nat.pow_zero]; exact hX, by rw [Nat.pow_zero]; exact hY, by omega, by omega, Below.refl _ _⟩
   case round =>
    clear hX hY; obtain ⟨k, X, kx, cx, Y, ky, cy, rfl, hkn, rfl, rfl, hX, hY, hkx, hky, hbe⟩ := hrel; have hx5 := hx4.below hbe; have hres5 := hres4.below hbe; have hr5a := hr4.1.below hbe; have hr5b := hr4.2.below hbe; have hbw5 := Below.tr hbw4 hbe; by_cases hk : k < n
    ·obtain ⟨PX, HPX⟩ : ∃ P, Hid (P = p ^ k) := ⟨_, rfl⟩; obtain ⟨QY, HQY⟩ : ∃ P, Hid (P = q ^ k) := ⟨_, rfl⟩; rw [← HPX.out] at hX; rw [← HQY.out] at hY; have hdk : decide ((k : Int) < (n : Int)) = true := by simp; omega
     go_upto_region 11 with fail
     (try simp only [hdk])
     clear hdk; refine region_invV (PhiPw w.heap.size (.slice A1 k1 c1) (.slice A2 k2 c2) (.slice X kx cx) (.slice Y ky cy) q (PX * p) (QY * q)) (fun w w' => Below w.heap.size w w') (SPw wr w.heap.size (.slice A1 k1 c1) (.slice A2 k2 c2) A1 k1 c1 A2 k2 c2 p q X kx cx PX Y ky cy QY) (by kernel_rfl) (by kernel_rfl) (by kernel_rfl) PhiPw.keep ⟨hx5, hr5a, hr5b, hX, hY, bD _, fun _ => rfl, fun _ => rfl⟩ (fun vs => by simp only [fillR, Act.put, sA, sB, sC, Nat.zero_add, Nat.reduceAdd]; rfl) ?_ ?_
     ·refine sK ?_ (sK ?_ (sK ?_ (sK ?_ (sK ?_ (sK ?_ (sK ?_ (sK ?_ (sK ?_ (sK ?_ (sZ))))))))))
      ·as_aux_lemma =>
       intro vs L W hS hL cl hdep K hK
       have hl : L 8 = false := by
        cases h : L 8 with
        | false => rfl
        | true => exact absurd (cl 3 _ rfl (cl 8 _ rfl h ⟨3, .data⟩ (by simp) rfl) ⟨0, .data⟩ (by simp) rfl) (by rw [hL]; decide)
       have ev := hS.v8 hl; refine ⟨?_⟩; simp only [Act.put, sA, sB, sC, Nat.zero_add, Nat.reduceAdd, ev] at hK ⊢; go_simp; with_reducible refine hK _ _ (Below.refl _ _) (hS.step (Below.refl _ _) 0 _) ?_
       exact rfl
      ·as_aux_lemma =>
       intro vs L W hS hL cl hdep K hK; refine ⟨?_⟩; simp only [Act.put, sA, sB, sC, Nat.zero_add, Nat.reduceAdd] at hK ⊢; go_simp; with_reducible refine hK _ _ (Below.refl _ _) (hS.step (Below.refl _ _) 1 _) ?_
       exact rfl
      ·as_aux_lemma =>
       intro vs L W hS hL cl hdep K hK; have d0 := hdep ⟨1, .data⟩ (by simp) rfl; simp only [PhiPw] at d0; have f1 := hS.box.facts.1; refine ⟨?_⟩; simp only [Act.put, sA, sB, sC, Nat.zero_add, Nat.reduceAdd, d0] at hK ⊢; go_simp; with_reducible refine hK _ _ (Below.refl _ _) (hS.step (Below.refl _ _) 2 _) ?_
       exact rfl
      ·as_aux_lemma =>
       intro vs L W hS hL cl hdep K hK; have d0 := hdep ⟨0, .data⟩ (by simp) rfl; simp only [PhiPw] at d0; have d1 := hdep ⟨2, .data⟩ (by simp) rfl; simp only [PhiPw] at d1; refine ⟨?_⟩; simp only [Act.put, sA, sB, sC, Nat.zero_add, Nat.reduceAdd, d0, d1] at hK ⊢; go_simp; refine (times_n _ _ _ _ _ _ _ _ _ hS.nx hS.r1 (by omega) (by omega)).mono ?_; rintro e w' ⟨A, k, c, rfl, hn, hb⟩; go_wp2_with fail; with_reducible refine hK _ _ hb (hS.step hb 3 _) ?_
       exact ⟨A, k, c, rfl, hn, hn.lek (prod_lt2 hS.nx.lt (by omega) hS.r1.lt (by omega))⟩
      ·as_aux_lemma =>
       intro vs L W hS hL cl hdep K hK
       have hl : L 9 = false := by
        cases h : L 9 with
        | false => rfl
        | true => exact absurd (cl 7 _ rfl (cl 9 _ rfl h ⟨7, .data⟩ (by simp) rfl) ⟨4, .data⟩ (by simp) rfl) (by rw [hL]; decide)
       have ev := hS.v9 hl; refine ⟨?_⟩; simp only [Act.put, sA, sB, sC, Nat.zero_add, Nat.reduceAdd, ev] at hK ⊢; go_simp; with_reducible refine hK _ _ (Below.refl _ _) (hS.step (Below.refl _ _) 4 _) ?_
       exact rfl
      ·as_aux_lemma =>
       intro vs L W hS hL cl hdep K hK; have f1 := hS.box.facts.1; have f2 := hS.box.facts.2; refine ⟨?_⟩; simp only [Act.put, sA, sB, sC, Nat.zero_add, Nat.reduceAdd] at hK ⊢; go_simp; with_reducible refine hK _ _ (Below.refl _ _) (hS.step (Below.refl _ _) 5 _) ?_
       exact rfl
      ·as_aux_lemma =>
       intro vs L W hS hL cl hdep K hK; have d0 := hdep ⟨5, .data⟩ (by simp) rfl; simp only [PhiPw] at d0; refine ⟨?_⟩; simp only [Act.put, sA, sB, sC, Nat.zero_add, Nat.reduceAdd, d0] at hK ⊢; go_simp; refine (den_n _ _ _ _ _ _ _ _ hS.r2 hq (by omega)).mono ?_; rintro e w' ⟨A, k, c, rfl, hn, hk, hb⟩; go_wp2_with fail; with_reducible refine hK _ _ hb (hS.step hb 6 _) ?_
       exact ⟨A, k, c, rfl, hn, by have := hk.out; omega⟩
      ·as_aux_lemma =>
       intro vs L W hS hL cl hdep K hK; have d0 := hdep ⟨4, .data⟩ (by simp) rfl; simp only [PhiPw] at d0; have d1 := hdep ⟨6, .data⟩ (by simp) rfl; simp only [PhiPw] at d1; refine @exE3 _ _ _ _ _ d1 ?_; clear d1; intro P1 p1 q1 d1; have e1 := d1.1; have n1 := d1.2.1; have m1 := d1.2.2; clear d1; refine ⟨?_⟩; simp only [Act.put, sA, sB, sC, Nat.zero_add, Nat.reduceAdd, d0, e1] at hK ⊢; go_simp; refine (times_n _ _ _ _ _ _ _ _ _ hS.ny n1 (by omega) (by omega)).mono ?_; rintro e w' ⟨A, k, c, rfl, hn, hb⟩; go_wp2_with fail; with_reducible refine hK _ _ hb (hS.step hb 7 _) ?_
       exact ⟨A, k, c, rfl, hn, hn.lek (prod_lt2 hS.ny.lt (by omega) n1.lt m1)⟩
      ·as_aux_lemma =>
       intro vs L W hS hL cl hdep K hK; have d0 := hdep ⟨3, .data⟩ (by simp) rfl; simp only [PhiPw] at d0; refine @exE3 _ _ _ _ _ d0 ?_; clear d0; intro P0 p0 q0 d0; have e0 := d0.1; have n0 := d0.2.1; have m0 := d0.2.2; clear d0; refine ⟨?_⟩; simp only [Act.put, sA, sB, sC, Nat.zero_add, Nat.reduceAdd, e0] at hK ⊢; go_simp; with_reducible refine hK _ _ (Below.refl _ _) (hS.step (Below.refl _ _) 8 _) ?_
       exact ⟨_, _, _, rfl, n0, m0⟩
      ·as_aux_lemma =>
       intro vs L W hS hL cl hdep K hK; have d0 := hdep ⟨7, .data⟩ (by simp) rfl; simp only [PhiPw] at d0; refine @exE3 _ _ _ _ _ d0 ?_; clear d0; intro P0 p0 q0 d0; have e0 := d0.1; have n0 := d0.2.1; have m0 := d0.2.2; clear d0; refine ⟨?_⟩; simp only [Act.put, sA, sB, sC, Nat.zero_add, Nat.reduceAdd, e0] at hK ⊢; go_simp; with_reducible refine hK _ _ (Below.refl _ _) (hS.step (Below.refl _ _) 9 _) ?_
       exact ⟨_, _, _, rfl, n0, m0⟩
     intro vs L w6 hS hall hv; have v8 := hv 8 (by simp); have v9 := hv 9 (by simp); simp only [PhiPw] at v8 v9; obtain ⟨X', kx', cx', e8, hX', _⟩ := v8; obtain ⟨Y', ky', cy', e9, hY', _⟩ := v9; have hbS := hS.be; have hfit := HF.out (k + 1) (by omega); rw [HPX.out, ← Nat.pow_succ] at hX'; rw [HQY.out, ← Nat.pow_succ] at hY'; have hkx' : kx' ≤ 64 := by rw [hX'.1]; exact hfit.1
     have hky' : ky' ≤ 64 := by rw [hY'.1]; exact fits_len hfit.2
     have hbe6 := Below.tr hbe hbS; clear hv hS hall hX hY hkx hky hx5 hres5 hr5a hr5b hbw5 hbe hbS hfit; simp only [e8, e9]; clear e8 e9; go_wp2_with fail
     go_roundg (gk - 1)
     case measure => omega
     case rel => exact ⟨k + 1, X', kx', cx', Y', ky', cy', by go_num, by omega, rfl, rfl, hX', hY', hkx', hky', hbe6⟩
    ·obtain rfl : k = n := by omega
     obtain ⟨r1, r2, r3, r4⟩ := hres5.facts; by_cases hq1 : q ^ k = 1
     ·obtain ⟨t1, t2⟩ := hres5.set2 (.slice X kx cx) (.slice none 0 0)
      have hfin : Rat ((wr.setCell ⟨w.heap.size + 1, 0, none⟩ (.slice X kx cx)).setCell ⟨w.heap.size + 1, 1, none⟩ (.slice none 0 0)) (.agg #[.slice X kx cx, .slice none 0 0]) (p ^ k) (q ^ k) := by
       refine ⟨_, _, _, _, _, _, rfl, hres5.sl.keep2 X none kx cx 0 0 _ _ _ _ hX, ?_⟩; rw [hq1]; exact Nb.zero _
      have hbr := below_set2 hbw5 (Nat.le_succ _) (.slice X kx cx) (.slice none 0 0); have HY := Lib.hid hY; have HQ1 := Lib.hid hq1; clear hx5 hres5 hr5a hr5b hbw5 hX hY hq1; go_wp2_with fail; refine (isOne_t _ _ _ _ _ HY.out HQ1.out).mono ?_; rintro e w' ⟨rfl, rfl⟩; go_wp2_with fail; exact bodyPost_ret (v := .tuple #[.agg #[.slice X kx cx, .slice none 0 0], .int .i64 0]) (by simp [results, Tryz.results40, go_sem, t1, t2]) rfl ⟨_, rfl, hfin, hbr⟩
     ·obtain ⟨t1, t2⟩ := hres5.set2 (.slice X kx cx) (.slice Y ky cy)
      have hfin : Rat ((wr.setCell ⟨w.heap.size + 1, 0, none⟩ (.slice X kx cx)).setCell ⟨w.heap.size + 1, 1, none⟩ (.slice Y ky cy)) (.agg #[.slice X kx cx, .slice Y ky cy]) (p ^ k) (q ^ k) := by
       refine ⟨_, _, _, _, _, _, rfl, hres5.sl.keep2 X Y kx cx ky cy _ _ _ _ hX, ?_⟩; rw [Nm.dn_ne hq1]; exact hres5.sl.keep2 X Y kx cx ky cy _ _ _ _ hY
      have hbr := below_set2 hbw5 (Nat.le_succ _) (.slice X kx cx) (.slice Y ky cy); have HY := Lib.hid hY; have HQ1 := Lib.hid hq1; clear hx5 hres5 hr5a hr5b hbw5 hX hY hq1; go_wp2_with fail; refine (isOne_f _ _ _ _ _ HY.out HQ1.out).mono ?_; rintro e w' ⟨rfl, rfl⟩; go_wp2_with fail; exact bodyPost_ret (v := .tuple #[.agg #[.slice X kx cx, .slice Y ky cy], .int .i64 0]) (by simp [results, Tryz.results40, go_sem, t1, t2]) rfl ⟨_, rfl, hfin, hbr⟩
  ·have d2 : decide (0 < (n : Int)) = true := by simp; omega
   have d3 : ((k1 : Int) == 0) = false := by simp; omega
   have HK2 := Lib.hid hk2; have d4 : ((k2 : Int) == 0) = true := by simp; omega
   clear hk2; go_wp2_with fail; refine (isOne_f _ _ _ _ _ hnb.1 (fun h => HCL.out ⟨hn0, dn_zero hq (lb_zero_len (hnb.2.1.symm.trans HK2.out)), by omega⟩)).mono ?_; rintro e w' ⟨rfl, rfl⟩; go_upto_region 9 with fail; refine wp_nm ?_; intro w4 HW4; have hb24 : Below w2.heap.size w2 w4 := by rw [HW4.out]; exact Below.tr (bA _ _) (bA _ _)
   have hX : Nb w4 (some ⟨w2.heap.size, 0, none⟩) 1 1 1 := by rw [HW4.out]; exact (Nb.one w2 _ rfl).below (bA _ _)
   have hY : Nb w4 (some ⟨w2.heap.size + 1, 0, none⟩) 1 1 1 := by rw [HW4.out]; exact Nb.one _ _ (by simp)
   have hx4 := hx2.below hb24; have hres4 := hres2.below hb24; have hr4 := (hra2.below hb24).nb; have hbw4 := Below.tr hbw2 hb24; clear hx2 hres2 hra2 hbw2 hb24 HW4 hnb f1 f2; go_wp2_with fail
   go_loopg [7, 8, 48] n (fun j x y i wr => ∃ (k : Nat) (X : Option Addr) (kx cx : Nat) (Y : Option Addr) (ky cy : Nat), i = .int .i64 k ∧ k + j = n ∧ x = .slice X kx cx ∧ y = .slice Y ky cy ∧ Nb wr X kx cx (p ^ k) ∧ Nb wr Y ky cy (q ^ k) ∧ kx ≤ 64 ∧ ky ≤ 64 ∧ Below w4.heap.size w4 wr)
   case atStart => exact ⟨0, _, _, _, _, _, _, rfl, by omega, rfl, rfl, by rw [Nat.pow_zero]; exact hX, by rw [Nat.pow_zero]; exact hY, by omega, by omega, Below.refl _ _⟩
   case round =>
    clear hX hY; obtain ⟨k, X, kx, cx, Y, ky, cy, rfl, hkn, rfl, rfl, hX, hY, hkx, hky, hbe⟩ := hrel; have hx5 := hx4.below hbe; have hres5 := hres4.below hbe; have hr5a := hr4.1.below hbe; have hr5b := hr4.2.below hbe; have hbw5 := Below.tr hbw4 hbe; by_cases hk : k < n
    ·obtain ⟨PX, HPX⟩ : ∃ P, Hid (P = p ^ k) := ⟨_, rfl⟩; obtain ⟨QY, HQY⟩ : ∃ P, Hid (P = q ^ k) := ⟨_, rfl⟩; rw [← HPX.out] at hX; rw [← HQY.out] at hY; have hdk : decide ((k : Int) < (n : Int)) = true := by simp; omega
     go_upto_region 11 with fail
     (try simp only [hdk])
     clear hdk; refine region_invV (PhiPw w.heap.size (.slice A1 k1 c1) (.slice A2 k2 c2) (.slice X kx cx) (.slice Y ky cy) q (PX * p) (QY * q)) (fun w w' => Below w.heap.size w w') (SPw wr w.heap.size (.slice A1 k1 c1) (.slice A2 k2 c2) A1 k1 c1 A2 k2 c2 p q X kx cx PX Y ky cy QY) (by kernel_rfl) (by kernel_rfl) (by kernel_rfl) PhiPw.keep ⟨hx5, hr5a, hr5b, hX, hY, bD _, fun _ => rfl, fun _ => rfl⟩ (fun vs => by simp only [fillR, Act.put, sA, sB, sC, Nat.zero_add, Nat.reduceAdd]; rfl) ?_ ?_
     ·refine sK ?_ (sK ?_ (sK ?_ (sK ?_ (sK ?_ (sK ?_ (sK ?_ (sK ?_ (sK ?_ (sK ?_ (sZ))))))))))
      ·as_aux_lemma =>
       intro vs L W hS hL cl hdep K hK
       have hl : L 8 = false := by
        cases h : L 8 with
        | false => rfl
        | true => exact absurd (cl 3 _ rfl (cl 8 _ rfl h ⟨3, .data⟩ (by simp) rfl) ⟨0, .data⟩ (by simp) rfl) (by rw [hL]; decide)
       have ev := hS.v8 hl; refine ⟨?_⟩; simp only [Act.put, sA, sB, sC, Nat.zero_add, Nat.reduceAdd, ev] at hK ⊢; go_simp; with_reducible refine hK _ _ (Below.refl _ _) (hS.step (Below.refl _ _) 0 _) ?_
       exact rfl
      ·as_aux_lemma =>
       intro vs L W hS hL cl hdep K hK; refine ⟨?_⟩; simp only [Act.put, sA, sB, sC, Nat.zero_add, Nat.reduceAdd] at hK ⊢; go_simp; with_reducible refine hK _ _ (Below.refl _ _) (hS.step (Below.refl _ _) 1 _) ?_
       exact rfl
      ·as_aux_lemma =>
       intro vs L W hS hL cl hdep K hK; have d0 := hdep ⟨1, .data⟩ (by simp) rfl; simp only [PhiPw] at d0; have f1 := hS.box.facts.1; refine ⟨?_⟩; simp only [Act.put, sA, sB, sC, Nat.zero_add, Nat.reduceAdd, d0] at hK ⊢; go_simp; with_reducible refine hK _ _ (Below.refl _ _) (hS.step (Below.refl _ _) 2 _) ?_
       exact rfl
      ·as_aux_lemma =>
       intro vs L W hS hL cl hdep K hK; have d0 := hdep ⟨0, .data⟩ (by simp) rfl; simp only [PhiPw] at d0; have d1 := hdep ⟨2, .data⟩ (by simp) rfl; simp only [PhiPw] at d1; refine ⟨?_⟩; simp only [Act.put, sA, sB, sC, Nat.zero_add, Nat.reduceAdd, d0, d1] at hK ⊢; go_simp; refine (times_n _ _ _ _ _ _ _ _ _ hS.nx hS.r1 (by omega) (by omega)).mono ?_; rintro e w' ⟨A, k, c, rfl, hn, hb⟩; go_wp2_with fail; with_reducible refine hK _ _ hb (hS.step hb 3 _) ?_
       exact ⟨A, k, c, rfl, hn, hn.lek (prod_lt2 hS.nx.lt (by omega) hS.r1.lt (by omega))⟩
      ·as_aux_lemma =>
       intro vs L W hS hL cl hdep K hK
       have hl : L 9 = false := by
        cases h : L 9 with
        | false => rfl
        | true => exact absurd (cl 7 _ rfl (cl 9 _ rfl h ⟨7, .data⟩ (by simp) rfl) ⟨4, .data⟩ (by simp) rfl) (by rw [hL]; decide)
       have ev := hS.v9 hl; refine ⟨?_⟩; simp only [Act.put, sA, sB, sC, Nat.zero_add, Nat.reduceAdd, ev] at hK ⊢; go_simp; with_reducible refine hK _ _ (Below.refl _ _) (hS.step (Below.refl _ _) 4 _) ?_
       exact rfl
      ·as_aux_lemma =>
       intro vs L W hS hL cl hdep K hK; have f1 := hS.box.facts.1; have f2 := hS.box.facts.2; refine ⟨?_⟩; simp only [Act.put, sA, sB, sC, Nat.zero_add, Nat.reduceAdd] at hK ⊢; go_simp; with_reducible refine hK _ _ (Below.refl _ _) (hS.step (Below.refl _ _) 5 _) ?_
       exact rfl
      ·as_aux_lemma =>
       intro vs L W hS hL cl hdep K hK; have d0 := hdep ⟨5, .data⟩ (by simp) rfl; simp only [PhiPw] at d0; refine ⟨?_⟩; simp only [Act.put, sA, sB, sC, Nat.zero_add, Nat.reduceAdd, d0] at hK ⊢; go_simp; refine (den_n _ _ _ _ _ _ _ _ hS.r2 hq (by omega)).mono ?_; rintro e w' ⟨A, k, c, rfl, hn, hk, hb⟩; go_wp2_with fail; with_reducible refine hK _ _ hb (hS.step hb 6 _) ?_
       exact ⟨A, k, c, rfl, hn, by have := hk.out; omega⟩
      ·as_aux_lemma =>
       intro vs L W hS hL cl hdep K hK; have d0 := hdep ⟨4, .data⟩ (by simp) rfl; simp only [PhiPw] at d0; have d1 := hdep ⟨6, .data⟩ (by simp) rfl; simp only [PhiPw] at d1; refine @exE3 _ _ _ _ _ d1 ?_; clear d1; intro P1 p1 q1 d1; have e1 := d1.1; have n1 := d1.2.1; have m1 := d1.2.2; clear d1; refine ⟨?_⟩; simp only [Act.put, sA, sB, sC, Nat.zero_add, Nat.reduceAdd, d0, e1] at hK ⊢; go_simp; refine (times_n _ _ _ _ _ _ _ _ _ hS.ny n1 (by omega) (by omega)).mono ?_; rintro e w' ⟨A, k, c, rfl, hn, hb⟩; go_wp2_with fail; with_reducible refine hK _ _ hb (hS.step hb 7 _) ?_
       exact ⟨A, k, c, rfl, hn, hn.lek (prod_lt2 hS.ny.lt (by omega) n1.lt m1)⟩
      ·as_aux_lemma =>
       intro vs L W hS hL cl hdep K hK; have d0 := hdep ⟨3, .data⟩ (by simp) rfl; simp only [PhiPw] at d0; refine @exE3 _ _ _ _ _ d0 ?_; clear d0; intro P0 p0 q0 d0; have e0 := d0.1; have n0 := d0.2.1; have m0 := d0.2.2; clear d0; refine ⟨?_⟩; simp only [Act.put, sA, sB, sC, Nat.zero_add, Nat.reduceAdd, e0] at hK ⊢; go_simp; with_reducible refine hK _ _ (Below.refl _ _) (hS.step (Below.refl _ _) 8 _) ?_
       exact ⟨_, _, _, rfl, n0, m0⟩
      ·as_aux_lemma =>
       intro vs L W hS hL cl hdep K hK; have d0 := hdep ⟨7, .data⟩ (by simp) rfl; simp only [PhiPw] at d0; refine @exE3 _ _ _ _ _ d0 ?_; clear d0; intro P0 p0 q0 d0; have e0 := d0.1; have n0 := d0.2.1; have m0 := d0.2.2; clear d0; refine ⟨?_⟩; simp only [Act.put, sA, sB, sC, Nat.zero_add, Nat.reduceAdd, e0] at hK ⊢; go_simp; with_reducible refine hK _ _ (Below.refl _ _) (hS.step (Below.refl _ _) 9 _) ?_
       exact ⟨_, _, _, rfl, n0, m0⟩
     intro vs L w6 hS hall hv; have v8 := hv 8 (by simp); have v9 := hv 9 (by simp); simp only [PhiPw] at v8 v9; obtain ⟨X', kx', cx', e8, hX', _⟩ := v8; obtain ⟨Y', ky', cy', e9, hY', _⟩ := v9; have hbS := hS.be; have hfit := HF.out (k + 1) (by omega); rw [HPX.out, ← Nat.pow_succ] at hX'; rw [HQY.out, ← Nat.pow_succ] at hY'; have hkx' : kx' ≤ 64 := by rw [hX'.1]; exact hfit.1
     have hky' : ky' ≤ 64 := by rw [hY'.1]; exact fits_len hfit.2
     have hbe6 := Below.tr hbe hbS; clear hv hS hall hX hY hkx hky hx5 hres5 hr5a hr5b hbw5 hbe hbS hfit; simp only [e8, e9]; clear e8 e9; go_wp2_with fail
     go_roundg (gk - 1)
     case measure => omega
     case rel => exact ⟨k + 1, X', kx', cx', Y', ky', cy', by go_num, by omega, rfl, rfl, hX', hY', hkx', hky', hbe6⟩
    ·obtain rfl : k = n := by omega
     obtain ⟨r1, r2, r3, r4⟩ := hres5.facts; by_cases hq1 : q ^ k = 1
     ·obtain ⟨t1, t2⟩ := hres5.set2 (.slice X kx cx) (.slice none 0 0)
      have hfin : Rat ((wr.setCell ⟨w.heap.size + 1, 0, none⟩ (.slice X kx cx)).setCell ⟨w.heap.size + 1, 1, none⟩ (.slice none 0 0)) (.agg #[.slice X kx cx, .slice none 0 0]) (p ^ k) (q ^ k) := by
       refine ⟨_, _, _, _, _, _, rfl, hres5.sl.keep2 X none kx cx 0 0 _ _ _ _ hX, ?_⟩; rw [hq1]; exact Nb.zero _
      have hbr := below_set2 hbw5 (Nat.le_succ _) (.slice X kx cx) (.slice none 0 0); have HY := Lib.hid hY; have HQ1 := Lib.hid hq1; clear hx5 hres5 hr5a hr5b hbw5 hX hY hq1; go_wp2_with fail; refine (isOne_t _ _ _ _ _ HY.out HQ1.out).mono ?_; rintro e w' ⟨rfl, rfl⟩; go_wp2_with fail; exact bodyPost_ret (v := .tuple #[.agg #[.slice X kx cx, .slice none 0 0], .int .i64 0]) (by simp [results, Tryz.results40, go_sem, t1, t2]) rfl ⟨_, rfl, hfin, hbr⟩
     ·obtain ⟨t1, t2⟩ := hres5.set2 (.slice X kx cx) (.slice Y ky cy)
      have hfin : Rat ((wr.setCell ⟨w.heap.size + 1, 0, none⟩ (.slice X kx cx)).setCell ⟨w.heap.size + 1, 1, none⟩ (.slice Y ky cy)) (.agg #[.slice X kx cx, .slice Y ky cy]) (p ^ k) (q ^ k) := by
       refine ⟨_, _, _, _, _, _, rfl, hres5.sl.keep2 X Y kx cx ky cy _ _ _ _ hX, ?_⟩; rw [Nm.dn_ne hq1]; exact hres5.sl.keep2 X Y kx cx ky cy _ _ _ _ hY
      have hbr := below_set2 hbw5 (Nat.le_succ _) (.slice X kx cx) (.slice Y ky cy); have HY := Lib.hid hY; have HQ1 := Lib.hid hq1; clear hx5 hres5 hr5a hr5b hbw5 hX hY hq1; go_wp2_with fail; refine (isOne_f _ _ _ _ _ HY.out HQ1.out).mono ?_; rintro e w' ⟨rfl, rfl⟩; go_wp2_with fail; exact bodyPost_ret (v := .tuple #[.agg #[.slice X kx cx, .slice Y ky cy], .int .i64 0]) (by simp [results, Tryz.results40, go_sem, t1, t2]) rfl ⟨_, rfl, hfin, hbr⟩
end Go.Proofs.YtmbfjmilhfmnkaaGreatDoor
namespace Go.Proofs.YtmbfjmilhfmnkaaGreatDoor
open Go.RowKit
theorem dn_len (q : Nat) : (Nm.lb (Nm.dn q)).length ≤ (Nm.lb q).length := by
 by_cases h : q = 1
 ·subst h; rw [Nm.dn_one, Nm.lb_zero]; exact Nat.zero_le _
 ·rw [Nm.dn_ne h]; exact Nat.le_refl _
theorem fits_11 : Nm.Fits 1 1 := by
 refine ⟨by rw [Nm.lb_one]; decide, Nat.le_trans (dn_len 1) (by rw [Nm.lb_one]; decide)⟩
theorem fits_zero (p q : Nat) : Hid (∀ j, j ≤ 0 → Nm.Fits (p ^ j) (q ^ j)) := fun j hj => by
 obtain rfl : j = 0 := by omega
 rw [Nat.pow_zero, Nat.pow_zero]; exact fits_11
theorem fits_bit {p : Nat} (h : p ≤ 1) (j : Nat) : Nm.Fits (p ^ j) (1 ^ j) := by
 rw [Nat.one_pow]
 have h1 : p ^ j = 0 ∨ p ^ j = 1 := by
  rcases (show p = 0 ∨ p = 1 by omega) with rfl | rfl
  ·cases j
   ·exact .inr rfl
   ·exact .inl (by rw [Nat.zero_pow (by omega)])
  ·exact .inr (Nat.one_pow j)
 rcases h1 with h1 | h1
 ·rw [h1]; exact ⟨by rw [Nm.lb_zero]; decide, Nat.le_trans (dn_len 1) (by rw [Nm.lb_one]; decide)⟩
 ·rw [h1]; exact fits_11
/-- what Power says of a valid ratio -/
def PowP (p q n : Nat) (w : World) (v : Value) (er : Int) : Prop := (er = 0 ∧ Rat w v (p ^ n) (q ^ n) ∧ ∀ j, j ≤ n → Nm.Fits (p ^ j) (q ^ j)) ∨ (er = 4 ∧ v = nilRat ∧ ∃ j, j ≤ n ∧ ¬ Nm.Fits (p ^ j) (q ^ j))
set_option maxRecDepth 10000 in
set_option maxHeartbeats 8000000 in
theorem power_G (va : Value) (p q n : Nat) (w : World) (ha : Rat w va p q) (ga : Nm.Good p q) (hn : n ≤ 65536) :
  Calls Tryz.prog 40 #[va, .int .i64 n] w fun e w' => ∃ v er, e = .returned (.tuple #[v, .int .i64 er]) ∧ PowP p q n w' v er ∧ Below w.heap.size w w' := by
 obtain ⟨A1, k1, c1, A2, k2, c2, rfl⟩ := ha.shape; obtain ⟨s1, s2⟩ := ha.small ga; have hq := ga.pos; obtain ⟨W, HW⟩ : ∃ W, Hid (W = (w.alloc (.cells #[.slice A1 k1 c1, .slice A2 k2 c2] 29)).alloc (.cells #[.slice none 0 0, .slice none 0 0] 29)) := ⟨_, rfl⟩; have hbw : Below w.heap.size w W := by rw [HW.out]; exact Below.tr (bA _ _) (bA _ _)
 have hx : Box W w.heap.size (.slice A1 k1 c1) (.slice A2 k2 c2) := by rw [HW.out]; exact Box.below (Blk.new w _ _) (bA _ _)
 have hres : Res W (w.heap.size + 1) := by
  rw [HW.out]; have := Res.new (w.alloc (.cells #[.slice A1 k1 c1, .slice A2 k2 c2] 29)); simpa using this
 have ha1 := ha.below hbw; have d0 : decide ((n : Int) < 0) = false := by simp
 have d1 : decide ((65536 : Int) < (n : Int)) = false := by simp; omega
 go_enter Tryz.func40, Tryz.ntmps40
 go_wp2_with fail; rw [← HW.out]; refine (valid_v ha1.rtl).mono ?_; rintro e w2 ⟨E, rfl, HE, hb2⟩; obtain rfl : E = 0 := by rw [HE.out]; exact Nm.validE_of ga
 have hx2 := hx.below hb2; have hres2 := hres.below hb2; have hra2 := ha1.below hb2; have hbw2 := Below.tr hbw hb2; clear hx hres ha1 hb2 hbw HE HW ha; obtain ⟨f1, f2⟩ := hx2.facts; have hnb := hra2.nb; by_cases hcl : 0 < n ∧ q = 1 ∧ p ≤ 1
 ·obtain ⟨h0, rfl, hp1⟩ := hcl
  have HPN : Hid (p ^ n = p ∧ 1 ^ n = 1) := by
   refine ⟨?_, Nat.one_pow n⟩
   rcases (show p = 0 ∨ p = 1 by omega) with rfl | rfl
   ·exact Nat.zero_pow h0
   ·exact Nat.one_pow n
  have HFK : Hid (∀ j, j ≤ n → Nm.Fits (p ^ j) (1 ^ j)) := fun j _ => fits_bit hp1 j
  have d2 : decide (0 < (n : Int)) = true := by simp; omega
  obtain rfl : k2 = 0 := by have := hnb.2.1; simpa [Nm.dn_one, Nm.lb_zero] using this
  rcases (show p = 0 ∨ p = 1 by omega) with rfl | rfl
  ·obtain rfl : k1 = 0 := hnb.1.kzero; go_wp2_with fail; refine (clone_n _ _ _ 0 _ hnb.1 (by omega)).mono ?_; rintro e w3 ⟨A', c', rfl, hc, _, hb3⟩; have hres3 := hres2.below hb3; obtain ⟨r1, r2, r3, r4⟩ := hres3.facts; obtain ⟨t1, t2⟩ := hres3.set2 (.slice A' 0 c') (.slice none 0 0)
   have hfin : Rat ((w3.setCell ⟨w.heap.size + 1, 0, none⟩ (.slice A' 0 c')).setCell ⟨w.heap.size + 1, 1, none⟩ (.slice none 0 0)) (.agg #[.slice A' 0 c', .slice none 0 0]) (0 ^ n) (1 ^ n) := by
    rw [HPN.out.1, HPN.out.2]; exact ⟨_, _, _, _, _, _, rfl, hres3.sl.keep2 A' none 0 c' 0 0 _ _ _ _ hc, Nb.zero _⟩
   have hbr := below_set2 (Below.tr hbw2 hb3) (Nat.le_succ _) (.slice A' 0 c') (.slice none 0 0); clear f1 f2 hnb hx2 hres2 hra2 hres3 hc; go_wp2_with fail; exact bodyPost_ret (v := .tuple #[.agg #[.slice A' 0 c', .slice none 0 0], .int .i64 0]) (by simp [results, Tryz.results40, go_sem, t1, t2]) rfl ⟨_, _, rfl, .inl ⟨rfl, hfin, HFK.out⟩, hbr⟩
  ·obtain rfl : k1 = 1 := by have := hnb.1.1; rw [Nm.lb_one] at this; exact this
   go_wp2_with fail; refine (isOne_t _ _ _ _ _ hnb.1 rfl).mono ?_; rintro e w' ⟨rfl, rfl⟩; go_wp2_with fail; refine (clone_n _ _ _ 1 _ hnb.1 (by omega)).mono ?_; rintro e w3 ⟨A', c', rfl, hc, _, hb3⟩; have hres3 := hres2.below hb3; obtain ⟨r1, r2, r3, r4⟩ := hres3.facts; obtain ⟨t1, t2⟩ := hres3.set2 (.slice A' 1 c') (.slice none 0 0)
   have hfin : Rat ((w3.setCell ⟨w.heap.size + 1, 0, none⟩ (.slice A' 1 c')).setCell ⟨w.heap.size + 1, 1, none⟩ (.slice none 0 0)) (.agg #[.slice A' 1 c', .slice none 0 0]) (1 ^ n) (1 ^ n) := by
    rw [HPN.out.2]; exact ⟨_, _, _, _, _, _, rfl, hres3.sl.keep2 A' none 1 c' 0 0 _ _ _ _ hc, Nb.zero _⟩
   have hbr := below_set2 (Below.tr hbw2 hb3) (Nat.le_succ _) (.slice A' 1 c') (.slice none 0 0); clear f1 f2 hnb hx2 hres2 hra2 hres3 hc; go_wp2_with fail; exact bodyPost_ret (v := .tuple #[.agg #[.slice A' 1 c', .slice none 0 0], .int .i64 0]) (by simp [results, Tryz.results40, go_sem, t1, t2]) rfl ⟨_, _, rfl, .inl ⟨rfl, hfin, HFK.out⟩, hbr⟩
 ·have HCL := Lib.hid hcl; clear hcl
  rcases (show n = 0 ∨ (0 < n ∧ 0 < k2) ∨ (0 < n ∧ k2 = 0 ∧ 0 < k1) by
   rcases Nat.eq_zero_or_pos n with h | h
   ·exact .inl h
   ·rcases Nat.eq_zero_or_pos k2 with h2 | h2
    ·right; right
     refine ⟨h, h2, ?_⟩
     rcases Nat.eq_zero_or_pos k1 with h1 | h1
     ·exfalso
      have e1 : p = 0 := lb_zero_len (hnb.1.1.symm.trans h1); have e2 : Nm.dn q = 0 := lb_zero_len (hnb.2.1.symm.trans h2); exact HCL.out ⟨h, dn_zero hq e2, by omega⟩
     ·exact h1
    ·exact .inr (.inl ⟨h, h2⟩)) with hn0 | ⟨hn0, hk2⟩ | ⟨hn0, hk2, hk1⟩
  ·subst hn0; clear HCL; go_upto_region 9 with fail; refine wp_nm ?_; intro w4 HW4; have hb24 : Below w2.heap.size w2 w4 := by rw [HW4.out]; exact Below.tr (bA _ _) (bA _ _)
   have hX : Nb w4 (some ⟨w2.heap.size, 0, none⟩) 1 1 1 := by rw [HW4.out]; exact (Nb.one w2 _ rfl).below (bA _ _)
   have hY : Nb w4 (some ⟨w2.heap.size + 1, 0, none⟩) 1 1 1 := by rw [HW4.out]; exact Nb.one _ _ (by simp)
   have hx4 := hx2.below hb24; have hres4 := hres2.below hb24; have hr4 := (hra2.below hb24).nb; have hbw4 := Below.tr hbw2 hb24; clear hx2 hres2 hra2 hbw2 hb24 HW4 hnb f1 f2; go_wp2_with fail
   go_loopg [7, 8, 48] 0 (fun j x y i wr => ∃ (k : Nat) (X : Option Addr) (kx cx : Nat) (Y : Option Addr) (ky cy : Nat), i = .int .i64 k ∧ k + j = 0 ∧ x = .slice X kx cx ∧ y = .slice Y ky cy ∧ Nb wr X kx cx (p ^ k) ∧ Nb wr Y ky cy (q ^ k) ∧ kx ≤ 64 ∧ ky ≤ 64 ∧ Below w4.heap.size w4 wr ∧ Hid (∀ j, j ≤ k → Nm.Fits (p ^ j) (q ^ j)))
   case atStart => exact ⟨0, _, _, _, _, _, _, rfl, by omega, rfl, rfl, by rw [Nat.pow_zero]; exact hX, by rw [Nat.pow_zero]; exact hY, by omega, by omega, Below.refl _ _, fits_zero p q⟩
   case round =>
    clear hX hY; obtain ⟨k, X, kx, cx, Y, ky, cy, rfl, hkn, rfl, rfl, hX, hY, hkx, hky, hbe, HFK⟩ := hrel; have hx5 := hx4.below hbe; have hres5 := hres4.below hbe; have hr5a := hr4.1.below hbe; have hr5b := hr4.2.below hbe; have hbw5 := Below.tr hbw4 hbe; by_cases hk : k < 0
    ·omega
    ·obtain rfl : k = 0 := by omega
     obtain ⟨r1, r2, r3, r4⟩ := hres5.facts; by_cases hq1 : q ^ 0 = 1
     ·obtain ⟨t1, t2⟩ := hres5.set2 (.slice X kx cx) (.slice none 0 0)
      have hfin : Rat ((wr.setCell ⟨w.heap.size + 1, 0, none⟩ (.slice X kx cx)).setCell ⟨w.heap.size + 1, 1, none⟩ (.slice none 0 0)) (.agg #[.slice X kx cx, .slice none 0 0]) (p ^ 0) (q ^ 0) := by
       refine ⟨_, _, _, _, _, _, rfl, hres5.sl.keep2 X none kx cx 0 0 _ _ _ _ hX, ?_⟩; rw [hq1]; exact Nb.zero _
      have hbr := below_set2 hbw5 (Nat.le_succ _) (.slice X kx cx) (.slice none 0 0); have HY := Lib.hid hY; have HQ1 := Lib.hid hq1; clear hx5 hres5 hr5a hr5b hbw5 hX hY hq1; go_wp2_with fail; refine (isOne_t _ _ _ _ _ HY.out HQ1.out).mono ?_; rintro e w' ⟨rfl, rfl⟩; go_wp2_with fail; exact bodyPost_ret (v := .tuple #[.agg #[.slice X kx cx, .slice none 0 0], .int .i64 0]) (by simp [results, Tryz.results40, go_sem, t1, t2]) rfl ⟨_, _, rfl, .inl ⟨rfl, hfin, HFK.out⟩, hbr⟩
     ·obtain ⟨t1, t2⟩ := hres5.set2 (.slice X kx cx) (.slice Y ky cy)
      have hfin : Rat ((wr.setCell ⟨w.heap.size + 1, 0, none⟩ (.slice X kx cx)).setCell ⟨w.heap.size + 1, 1, none⟩ (.slice Y ky cy)) (.agg #[.slice X kx cx, .slice Y ky cy]) (p ^ 0) (q ^ 0) := by
       refine ⟨_, _, _, _, _, _, rfl, hres5.sl.keep2 X Y kx cx ky cy _ _ _ _ hX, ?_⟩; rw [Nm.dn_ne hq1]; exact hres5.sl.keep2 X Y kx cx ky cy _ _ _ _ hY
      have hbr := below_set2 hbw5 (Nat.le_succ _) (.slice X kx cx) (.slice Y ky cy); have HY := Lib.hid hY; have HQ1 := Lib.hid hq1; clear hx5 hres5 hr5a hr5b hbw5 hX hY hq1; go_wp2_with fail; refine (isOne_f _ _ _ _ _ HY.out HQ1.out).mono ?_; rintro e w' ⟨rfl, rfl⟩; go_wp2_with fail; exact bodyPost_ret (v := .tuple #[.agg #[.slice X kx cx, .slice Y ky cy], .int .i64 0]) (by simp [results, Tryz.results40, go_sem, t1, t2]) rfl ⟨_, _, rfl, .inl ⟨rfl, hfin, HFK.out⟩, hbr⟩
  ·have d2 : decide (0 < (n : Int)) = true := by simp; omega
   have d3 : ((k2 : Int) == 0) = false := by simp; omega
   go_upto_region 9 with fail; refine wp_nm ?_; intro w4 HW4; have hb24 : Below w2.heap.size w2 w4 := by rw [HW4.out]; exact Below.tr (bA _ _) (bA _ _)
   have hX : Nb w4 (some ⟨w2.heap.size, 0, none⟩) 1 1 1 := by rw [HW4.out]; exact (Nb.one w2 _ rfl).below (bA _ _)
   have hY : Nb w4 (some ⟨w2.heap.size + 1, 0, none⟩) 1 1 1 := by rw [HW4.out]; exact Nb.one _ _ (by simp)
   have hx4 := hx2.below hb24; have hres4 := hres2.below hb24; have hr4 := (hra2.below hb24).nb; have hbw4 := Below.tr hbw2 hb24; clear hx2 hres2 hra2 hbw2 hb24 HW4 hnb f1 f2; go_wp2_with fail
   go_loopg [7, 8, 48] n (fun j x y i wr => ∃ (k : Nat) (X : Option Addr) (kx cx : Nat) (Y : Option Addr) (ky cy : Nat), i = .int .i64 k ∧ k + j = n ∧ x = .slice X kx cx ∧ y = .slice Y ky cy ∧ Nb wr X kx cx (p ^ k) ∧ Nb wr Y ky cy (q ^ k) ∧ kx ≤ 64 ∧ ky ≤ 64 ∧ Below w4.heap.size w4 wr ∧ Hid (∀ j, j ≤ k → Nm.Fits (p ^ j) (q ^ j)))
   case atStart => exact ⟨0, _, _, _, _, _, _, rfl, by omega, rfl, rfl, by rw [Nat.pow_zero]; exact hX, by rw [Nat.pow_zero]; exact hY, by omega, by omega, Below.refl _ _, fits_zero p q⟩
   case round =>
    clear hX hY; obtain ⟨k, X, kx, cx, Y, ky, cy, rfl, hkn, rfl, rfl, hX, hY, hkx, hky, hbe, HFK⟩ := hrel; have hx5 := hx4.below hbe; have hres5 := hres4.below hbe; have hr5a := hr4.1.below hbe; have hr5b := hr4.2.below hbe; have hbw5 := Below.tr hbw4 hbe; by_cases hk : k < n
    ·obtain ⟨PX, HPX⟩ : ∃ P, Hid (P = p ^ k) := ⟨_, rfl⟩; obtain ⟨QY, HQY⟩ : ∃ P, Hid (P = q ^ k) := ⟨_, rfl⟩; rw [← HPX.out] at hX; rw [← HQY.out] at hY; have hdk : decide ((k : Int) < (n : Int)) = true := by simp; omega
     go_upto_region 11 with fail
     (try simp only [hdk])
     clear hdk; refine region_invV (PhiPw w.heap.size (.slice A1 k1 c1) (.slice A2 k2 c2) (.slice X kx cx) (.slice Y ky cy) q (PX * p) (QY * q)) (fun w w' => Below w.heap.size w w') (SPw wr w.heap.size (.slice A1 k1 c1) (.slice A2 k2 c2) A1 k1 c1 A2 k2 c2 p q X kx cx PX Y ky cy QY) (by kernel_rfl) (by kernel_rfl) (by kernel_rfl) PhiPw.keep ⟨hx5, hr5a, hr5b, hX, hY, bD _, fun _ => rfl, fun _ => rfl⟩ (fun vs => by simp only [fillR, Act.put, sA, sB, sC, Nat.zero_add, Nat.reduceAdd]; rfl) ?_ ?_
     ·refine sK ?_ (sK ?_ (sK ?_ (sK ?_ (sK ?_ (sK ?_ (sK ?_ (sK ?_ (sK ?_ (sK ?_ (sZ))))))))))
      ·as_aux_lemma =>
       intro vs L W hS hL cl hdep K hK
       have hl : L 8 = false := by
        cases h : L 8 with
        | false => rfl
        | true => exact absurd (cl 3 _ rfl (cl 8 _ rfl h ⟨3, .data⟩ (by simp) rfl) ⟨0, .data⟩ (by simp) rfl) (by rw [hL]; decide)
       have ev := hS.v8 hl; refine ⟨?_⟩; simp only [Act.put, sA, sB, sC, Nat.zero_add, Nat.reduceAdd, ev] at hK ⊢; go_simp; with_reducible refine hK _ _ (Below.refl _ _) (hS.step (Below.refl _ _) 0 _) ?_
       exact rfl
      ·as_aux_lemma =>
       intro vs L W hS hL cl hdep K hK; refine ⟨?_⟩; simp only [Act.put, sA, sB, sC, Nat.zero_add, Nat.reduceAdd] at hK ⊢; go_simp; with_reducible refine hK _ _ (Below.refl _ _) (hS.step (Below.refl _ _) 1 _) ?_
       exact rfl
      ·as_aux_lemma =>
       intro vs L W hS hL cl hdep K hK; have d0 := hdep ⟨1, .data⟩ (by simp) rfl; simp only [PhiPw] at d0; have f1 := hS.box.facts.1; refine ⟨?_⟩; simp only [Act.put, sA, sB, sC, Nat.zero_add, Nat.reduceAdd, d0] at hK ⊢; go_simp; with_reducible refine hK _ _ (Below.refl _ _) (hS.step (Below.refl _ _) 2 _) ?_
       exact rfl
      ·as_aux_lemma =>
       intro vs L W hS hL cl hdep K hK; have d0 := hdep ⟨0, .data⟩ (by simp) rfl; simp only [PhiPw] at d0; have d1 := hdep ⟨2, .data⟩ (by simp) rfl; simp only [PhiPw] at d1; refine ⟨?_⟩; simp only [Act.put, sA, sB, sC, Nat.zero_add, Nat.reduceAdd, d0, d1] at hK ⊢; go_simp; refine (times_n _ _ _ _ _ _ _ _ _ hS.nx hS.r1 (by omega) (by omega)).mono ?_; rintro e w' ⟨A, k, c, rfl, hn, hb⟩; go_wp2_with fail; with_reducible refine hK _ _ hb (hS.step hb 3 _) ?_
       exact ⟨A, k, c, rfl, hn, hn.lek (prod_lt2 hS.nx.lt (by omega) hS.r1.lt (by omega))⟩
      ·as_aux_lemma =>
       intro vs L W hS hL cl hdep K hK
       have hl : L 9 = false := by
        cases h : L 9 with
        | false => rfl
        | true => exact absurd (cl 7 _ rfl (cl 9 _ rfl h ⟨7, .data⟩ (by simp) rfl) ⟨4, .data⟩ (by simp) rfl) (by rw [hL]; decide)
       have ev := hS.v9 hl; refine ⟨?_⟩; simp only [Act.put, sA, sB, sC, Nat.zero_add, Nat.reduceAdd, ev] at hK ⊢; go_simp; with_reducible refine hK _ _ (Below.refl _ _) (hS.step (Below.refl _ _) 4 _) ?_
       exact rfl
      ·as_aux_lemma =>
       intro vs L W hS hL cl hdep K hK; have f1 := hS.box.facts.1; have f2 := hS.box.facts.2; refine ⟨?_⟩; simp only [Act.put, sA, sB, sC, Nat.zero_add, Nat.reduceAdd] at hK ⊢; go_simp; with_reducible refine hK _ _ (Below.refl _ _) (hS.step (Below.refl _ _) 5 _) ?_
       exact rfl
      ·as_aux_lemma =>
       intro vs L W hS hL cl hdep K hK; have d0 := hdep ⟨5, .data⟩ (by simp) rfl; simp only [PhiPw] at d0; refine ⟨?_⟩; simp only [Act.put, sA, sB, sC, Nat.zero_add, Nat.reduceAdd, d0] at hK ⊢; go_simp; refine (den_n _ _ _ _ _ _ _ _ hS.r2 hq (by omega)).mono ?_; rintro e w' ⟨A, k, c, rfl, hn, hk, hb⟩; go_wp2_with fail; with_reducible refine hK _ _ hb (hS.step hb 6 _) ?_
       exact ⟨A, k, c, rfl, hn, by have := hk.out; omega⟩
      ·as_aux_lemma =>
       intro vs L W hS hL cl hdep K hK; have d0 := hdep ⟨4, .data⟩ (by simp) rfl; simp only [PhiPw] at d0; have d1 := hdep ⟨6, .data⟩ (by simp) rfl; simp only [PhiPw] at d1; refine @exE3 _ _ _ _ _ d1 ?_; clear d1; intro P1 p1 q1 d1; have e1 := d1.1; have n1 := d1.2.1; have m1 := d1.2.2; clear d1; refine ⟨?_⟩; simp only [Act.put, sA, sB, sC, Nat.zero_add, Nat.reduceAdd, d0, e1] at hK ⊢; go_simp; refine (times_n _ _ _ _ _ _ _ _ _ hS.ny n1 (by omega) (by omega)).mono ?_; rintro e w' ⟨A, k, c, rfl, hn, hb⟩; go_wp2_with fail; with_reducible refine hK _ _ hb (hS.step hb 7 _) ?_
       exact ⟨A, k, c, rfl, hn, hn.lek (prod_lt2 hS.ny.lt (by omega) n1.lt m1)⟩
      ·as_aux_lemma =>
       intro vs L W hS hL cl hdep K hK; have d0 := hdep ⟨3, .data⟩ (by simp) rfl; simp only [PhiPw] at d0; refine @exE3 _ _ _ _ _ d0 ?_; clear d0; intro P0 p0 q0 d0; have e0 := d0.1; have n0 := d0.2.1; have m0 := d0.2.2; clear d0; refine ⟨?_⟩; simp only [Act.put, sA, sB, sC, Nat.zero_add, Nat.reduceAdd, e0] at hK ⊢; go_simp; with_reducible refine hK _ _ (Below.refl _ _) (hS.step (Below.refl _ _) 8 _) ?_
       exact ⟨_, _, _, rfl, n0, m0⟩
      ·as_aux_lemma =>
       intro vs L W hS hL cl hdep K hK; have d0 := hdep ⟨7, .data⟩ (by simp) rfl; simp only [PhiPw] at d0; refine @exE3 _ _ _ _ _ d0 ?_; clear d0; intro P0 p0 q0 d0; have e0 := d0.1; have n0 := d0.2.1; have m0 := d0.2.2; clear d0; refine ⟨?_⟩; simp only [Act.put, sA, sB, sC, Nat.zero_add, Nat.reduceAdd, e0] at hK ⊢; go_simp; with_reducible refine hK _ _ (Below.refl _ _) (hS.step (Below.refl _ _) 9 _) ?_
       exact ⟨_, _, _, rfl, n0, m0⟩
     intro vs L w6 hS hall hv; have v8 := hv 8 (by simp); have v9 := hv 9 (by simp); simp only [PhiPw] at v8 v9; obtain ⟨X', kx', cx', e8, hX', _⟩ := v8; obtain ⟨Y', ky', cy', e9, hY', _⟩ := v9; have hbS := hS.be; by_cases hfit : ¬ Nm.Fits (p ^ (k + 1)) (q ^ (k + 1))
     ·rw [HPX.out, ← Nat.pow_succ] at hX'; rw [HQY.out, ← Nat.pow_succ] at hY'
      have hor : 64 < kx' ∨ 64 < ky' := by
       rw [hX'.1, hY'.1]
       rcases Nat.lt_or_ge 64 (Nm.lb (p ^ (k + 1))).length with h | h
       ·exact .inl h
       ·rcases Nat.lt_or_ge 64 (Nm.lb (q ^ (k + 1))).length with h2 | h2
        ·exact .inr h2
        ·exact absurd ⟨h, Nat.le_trans (dn_len _) h2⟩ hfit
      have hbe6 := Below.tr hbe hbS; have hres6 := hres4.below hbe6; obtain ⟨r1, r2, r3, r4⟩ := hres6.facts; obtain ⟨t1, t2⟩ := hres6.set2 (.slice none 0 0) (.slice none 0 0); have hbr := below_set2 (Below.tr hbw4 hbe6) (Nat.le_succ _) (.slice none 0 0) (.slice none 0 0); have HNG : Hid (∃ j, j ≤ n ∧ ¬ Nm.Fits (p ^ j) (q ^ j)) := ⟨k + 1, by omega, hfit⟩; clear hv hS hall hX hY hkx hky hx5 hres5 hr5a hr5b hbw5 hbe hbS hfit hX' hY' HFK HPX HQY; simp only [e8, e9]; clear e8 e9; by_cases h6 : 64 < kx'
      ·have d6 : decide ((64 : Int) < (kx' : Int)) = true := by simp; omega
       go_wp2_with fail; exact bodyPost_ret (v := .tuple #[.agg #[.slice none 0 0, .slice none 0 0], .int .i64 4]) (by simp [results, Tryz.results40, go_sem, t1, t2]) rfl ⟨_, _, rfl, .inr ⟨rfl, rfl, HNG.out⟩, hbr⟩
      ·have d6 : decide ((64 : Int) < (kx' : Int)) = false := by simp; omega
       have d7 : decide ((64 : Int) < (ky' : Int)) = true := by simp; omega
       go_wp2_with fail; exact bodyPost_ret (v := .tuple #[.agg #[.slice none 0 0, .slice none 0 0], .int .i64 4]) (by simp [results, Tryz.results40, go_sem, t1, t2]) rfl ⟨_, _, rfl, .inr ⟨rfl, rfl, HNG.out⟩, hbr⟩
     have hfit := Classical.not_not.1 hfit
     have HFK5 : Hid (∀ j, j ≤ k + 1 → Nm.Fits (p ^ j) (q ^ j)) := fun j hj => by
      rcases (show j ≤ k ∨ j = k + 1 by omega) with h | rfl
      ·exact HFK.out j h
      ·exact hfit
     rw [HPX.out, ← Nat.pow_succ] at hX'; rw [HQY.out, ← Nat.pow_succ] at hY'; have hkx' : kx' ≤ 64 := by rw [hX'.1]; exact hfit.1
     have hky' : ky' ≤ 64 := by rw [hY'.1]; exact fits_len hfit.2
     have hbe6 := Below.tr hbe hbS; clear hv hS hall hX hY hkx hky hx5 hres5 hr5a hr5b hbw5 hbe hbS hfit; simp only [e8, e9]; clear e8 e9; go_wp2_with fail
     go_roundg (gk - 1)
     case measure => omega
     case rel => exact ⟨k + 1, X', kx', cx', Y', ky', cy', by go_num, by omega, rfl, rfl, hX', hY', hkx', hky', hbe6, HFK5⟩
    ·obtain rfl : k = n := by omega
     obtain ⟨r1, r2, r3, r4⟩ := hres5.facts; by_cases hq1 : q ^ k = 1
     ·obtain ⟨t1, t2⟩ := hres5.set2 (.slice X kx cx) (.slice none 0 0)
      have hfin : Rat ((wr.setCell ⟨w.heap.size + 1, 0, none⟩ (.slice X kx cx)).setCell ⟨w.heap.size + 1, 1, none⟩ (.slice none 0 0)) (.agg #[.slice X kx cx, .slice none 0 0]) (p ^ k) (q ^ k) := by
       refine ⟨_, _, _, _, _, _, rfl, hres5.sl.keep2 X none kx cx 0 0 _ _ _ _ hX, ?_⟩; rw [hq1]; exact Nb.zero _
      have hbr := below_set2 hbw5 (Nat.le_succ _) (.slice X kx cx) (.slice none 0 0); have HY := Lib.hid hY; have HQ1 := Lib.hid hq1; clear hx5 hres5 hr5a hr5b hbw5 hX hY hq1; go_wp2_with fail; refine (isOne_t _ _ _ _ _ HY.out HQ1.out).mono ?_; rintro e w' ⟨rfl, rfl⟩; go_wp2_with fail; exact bodyPost_ret (v := .tuple #[.agg #[.slice X kx cx, .slice none 0 0], .int .i64 0]) (by simp [results, Tryz.results40, go_sem, t1, t2]) rfl ⟨_, _, rfl, .inl ⟨rfl, hfin, HFK.out⟩, hbr⟩
     ·obtain ⟨t1, t2⟩ := hres5.set2 (.slice X kx cx) (.slice Y ky cy)
      have hfin : Rat ((wr.setCell ⟨w.heap.size + 1, 0, none⟩ (.slice X kx cx)).setCell ⟨w.heap.size + 1, 1, none⟩ (.slice Y ky cy)) (.agg #[.slice X kx cx, .slice Y ky cy]) (p ^ k) (q ^ k) := by
       refine ⟨_, _, _, _, _, _, rfl, hres5.sl.keep2 X Y kx cx ky cy _ _ _ _ hX, ?_⟩; rw [Nm.dn_ne hq1]; exact hres5.sl.keep2 X Y kx cx ky cy _ _ _ _ hY
      have hbr := below_set2 hbw5 (Nat.le_succ _) (.slice X kx cx) (.slice Y ky cy); have HY := Lib.hid hY; have HQ1 := Lib.hid hq1; clear hx5 hres5 hr5a hr5b hbw5 hX hY hq1; go_wp2_with fail; refine (isOne_f _ _ _ _ _ HY.out HQ1.out).mono ?_; rintro e w' ⟨rfl, rfl⟩; go_wp2_with fail; exact bodyPost_ret (v := .tuple #[.agg #[.slice X kx cx, .slice Y ky cy], .int .i64 0]) (by simp [results, Tryz.results40, go_sem, t1, t2]) rfl ⟨_, _, rfl, .inl ⟨rfl, hfin, HFK.out⟩, hbr⟩
  ·have d2 : decide (0 < (n : Int)) = true := by simp; omega
   have d3 : ((k1 : Int) == 0) = false := by simp; omega
   have HK2 := Lib.hid hk2; have d4 : ((k2 : Int) == 0) = true := by simp; omega
   clear hk2; go_wp2_with fail; refine (isOne_f _ _ _ _ _ hnb.1 (fun h => HCL.out ⟨hn0, dn_zero hq (lb_zero_len (hnb.2.1.symm.trans HK2.out)), by omega⟩)).mono ?_; rintro e w' ⟨rfl, rfl⟩; go_upto_region 9 with fail; refine wp_nm ?_; intro w4 HW4; have hb24 : Below w2.heap.size w2 w4 := by rw [HW4.out]; exact Below.tr (bA _ _) (bA _ _)
   have hX : Nb w4 (some ⟨w2.heap.size, 0, none⟩) 1 1 1 := by rw [HW4.out]; exact (Nb.one w2 _ rfl).below (bA _ _)
   have hY : Nb w4 (some ⟨w2.heap.size + 1, 0, none⟩) 1 1 1 := by rw [HW4.out]; exact Nb.one _ _ (by simp)
   have hx4 := hx2.below hb24; have hres4 := hres2.below hb24; have hr4 := (hra2.below hb24).nb; have hbw4 := Below.tr hbw2 hb24; clear hx2 hres2 hra2 hbw2 hb24 HW4 hnb f1 f2; go_wp2_with fail
   go_loopg [7, 8, 48] n (fun j x y i wr => ∃ (k : Nat) (X : Option Addr) (kx cx : Nat) (Y : Option Addr) (ky cy : Nat), i = .int .i64 k ∧ k + j = n ∧ x = .slice X kx cx ∧ y = .slice Y ky cy ∧ Nb wr X kx cx (p ^ k) ∧ Nb wr Y ky cy (q ^ k) ∧ kx ≤ 64 ∧ ky ≤ 64 ∧ Below w4.heap.size w4 wr ∧ Hid (∀ j, j ≤ k → Nm.Fits (p ^ j) (q ^ j)))
   case atStart => exact ⟨0, _, _, _, _, _, _, rfl, by omega, rfl, rfl, by rw [Nat.pow_zero]; exact hX, by rw [Nat.pow_zero]; exact hY, by omega, by omega, Below.refl _ _, fits_zero p q⟩
   case round =>
    clear hX hY; obtain ⟨k, X, kx, cx, Y, ky, cy, rfl, hkn, rfl, rfl, hX, hY, hkx, hky, hbe, HFK⟩ := hrel; have hx5 := hx4.below hbe; have hres5 := hres4.below hbe; have hr5a := hr4.1.below hbe; have hr5b := hr4.2.below hbe; have hbw5 := Below.tr hbw4 hbe; by_cases hk : k < n
    ·obtain ⟨PX, HPX⟩ : ∃ P, Hid (P = p ^ k) := ⟨_, rfl⟩; obtain ⟨QY, HQY⟩ : ∃ P, Hid (P = q ^ k) := ⟨_, rfl⟩; rw [← HPX.out] at hX; rw [← HQY.out] at hY; have hdk : decide ((k : Int) < (n : Int)) = true := by simp; omega
     go_upto_region 11 with fail
     (try simp only [hdk])
     clear hdk; refine region_invV (PhiPw w.heap.size (.slice A1 k1 c1) (.slice A2 k2 c2) (.slice X kx cx) (.slice Y ky cy) q (PX * p) (QY * q)) (fun w w' => Below w.heap.size w w') (SPw wr w.heap.size (.slice A1 k1 c1) (.slice A2 k2 c2) A1 k1 c1 A2 k2 c2 p q X kx cx PX Y ky cy QY) (by kernel_rfl) (by kernel_rfl) (by kernel_rfl) PhiPw.keep ⟨hx5, hr5a, hr5b, hX, hY, bD _, fun _ => rfl, fun _ => rfl⟩ (fun vs => by simp only [fillR, Act.put, sA, sB, sC, Nat.zero_add, Nat.reduceAdd]; rfl) ?_ ?_
     ·refine sK ?_ (sK ?_ (sK ?_ (sK ?_ (sK ?_ (sK ?_ (sK ?_ (sK ?_ (sK ?_ (sK ?_ (sZ))))))))))
      ·as_aux_lemma =>
       intro vs L W hS hL cl hdep K hK
       have hl : L 8 = false := by
        cases h : L 8 with
        | false => rfl
        | true => exact absurd (cl 3 _ rfl (cl 8 _ rfl h ⟨3, .data⟩ (by simp) rfl) ⟨0, .data⟩ (by simp) rfl) (by rw [hL]; decide)
       have ev := hS.v8 hl; refine ⟨?_⟩; simp only [Act.put, sA, sB, sC, Nat.zero_add, Nat.reduceAdd, ev] at hK ⊢; go_simp; with_reducible refine hK _ _ (Below.refl _ _) (hS.step (Below.refl _ _) 0 _) ?_
       exact rfl
      ·as_aux_lemma =>
       intro vs L W hS hL cl hdep K hK; refine ⟨?_⟩; simp only [Act.put, sA, sB, sC, Nat.zero_add, Nat.reduceAdd] at hK ⊢; go_simp; with_reducible refine hK _ _ (Below.refl _ _) (hS.step (Below.refl _ _) 1 _) ?_
       exact rfl
      ·as_aux_lemma =>
       intro vs L W hS hL cl hdep K hK; have d0 := hdep ⟨1, .data⟩ (by simp) rfl; simp only [PhiPw] at d0; have f1 := hS.box.facts.1; refine ⟨?_⟩; simp only [Act.put, sA, sB, sC, Nat.zero_add, Nat.reduceAdd, d0] at hK ⊢; go_simp; with_reducible refine hK _ _ (Below.refl _ _) (hS.step (Below.refl _ _) 2 _) ?_
       exact rfl
      ·as_aux_lemma =>
       intro vs L W hS hL cl hdep K hK; have d0 := hdep ⟨0, .data⟩ (by simp) rfl; simp only [PhiPw] at d0; have d1 := hdep ⟨2, .data⟩ (by simp) rfl; simp only [PhiPw] at d1; refine ⟨?_⟩; simp only [Act.put, sA, sB, sC, Nat.zero_add, Nat.reduceAdd, d0, d1] at hK ⊢; go_simp; refine (times_n _ _ _ _ _ _ _ _ _ hS.nx hS.r1 (by omega) (by omega)).mono ?_; rintro e w' ⟨A, k, c, rfl, hn, hb⟩; go_wp2_with fail; with_reducible refine hK _ _ hb (hS.step hb 3 _) ?_
       exact ⟨A, k, c, rfl, hn, hn.lek (prod_lt2 hS.nx.lt (by omega) hS.r1.lt (by omega))⟩
      ·as_aux_lemma =>
       intro vs L W hS hL cl hdep K hK
       have hl : L 9 = false := by
        cases h : L 9 with
        | false => rfl
        | true => exact absurd (cl 7 _ rfl (cl 9 _ rfl h ⟨7, .data⟩ (by simp) rfl) ⟨4, .data⟩ (by simp) rfl) (by rw [hL]; decide)
       have ev := hS.v9 hl; refine ⟨?_⟩; simp only [Act.put, sA, sB, sC, Nat.zero_add, Nat.reduceAdd, ev] at hK ⊢; go_simp; with_reducible refine hK _ _ (Below.refl _ _) (hS.step (Below.refl _ _) 4 _) ?_
       exact rfl
      ·as_aux_lemma =>
       intro vs L W hS hL cl hdep K hK; have f1 := hS.box.facts.1; have f2 := hS.box.facts.2; refine ⟨?_⟩; simp only [Act.put, sA, sB, sC, Nat.zero_add, Nat.reduceAdd] at hK ⊢; go_simp; with_reducible refine hK _ _ (Below.refl _ _) (hS.step (Below.refl _ _) 5 _) ?_
       exact rfl
      ·as_aux_lemma =>
       intro vs L W hS hL cl hdep K hK; have d0 := hdep ⟨5, .data⟩ (by simp) rfl; simp only [PhiPw] at d0; refine ⟨?_⟩; simp only [Act.put, sA, sB, sC, Nat.zero_add, Nat.reduceAdd, d0] at hK ⊢; go_simp; refine (den_n _ _ _ _ _ _ _ _ hS.r2 hq (by omega)).mono ?_; rintro e w' ⟨A, k, c, rfl, hn, hk, hb⟩; go_wp2_with fail; with_reducible refine hK _ _ hb (hS.step hb 6 _) ?_
       exact ⟨A, k, c, rfl, hn, by have := hk.out; omega⟩
      ·as_aux_lemma =>
       intro vs L W hS hL cl hdep K hK; have d0 := hdep ⟨4, .data⟩ (by simp) rfl; simp only [PhiPw] at d0; have d1 := hdep ⟨6, .data⟩ (by simp) rfl; simp only [PhiPw] at d1; refine @exE3 _ _ _ _ _ d1 ?_; clear d1; intro P1 p1 q1 d1; have e1 := d1.1; have n1 := d1.2.1; have m1 := d1.2.2; clear d1; refine ⟨?_⟩; simp only [Act.put, sA, sB, sC, Nat.zero_add, Nat.reduceAdd, d0, e1] at hK ⊢; go_simp; refine (times_n _ _ _ _ _ _ _ _ _ hS.ny n1 (by omega) (by omega)).mono ?_; rintro e w' ⟨A, k, c, rfl, hn, hb⟩; go_wp2_with fail; with_reducible refine hK _ _ hb (hS.step hb 7 _) ?_
       exact ⟨A, k, c, rfl, hn, hn.lek (prod_lt2 hS.ny.lt (by omega) n1.lt m1)⟩
      ·as_aux_lemma =>
       intro vs L W hS hL cl hdep K hK; have d0 := hdep ⟨3, .data⟩ (by simp) rfl; simp only [PhiPw] at d0; refine @exE3 _ _ _ _ _ d0 ?_; clear d0; intro P0 p0 q0 d0; have e0 := d0.1; have n0 := d0.2.1; have m0 := d0.2.2; clear d0; refine ⟨?_⟩; simp only [Act.put, sA, sB, sC, Nat.zero_add, Nat.reduceAdd, e0] at hK ⊢; go_simp; with_reducible refine hK _ _ (Below.refl _ _) (hS.step (Below.refl _ _) 8 _) ?_
       exact ⟨_, _, _, rfl, n0, m0⟩
      ·as_aux_lemma =>
       intro vs L W hS hL cl hdep K hK; have d0 := hdep ⟨7, .data⟩ (by simp) rfl; simp only [PhiPw] at d0; refine @exE3 _ _ _ _ _ d0 ?_; clear d0; intro P0 p0 q0 d0; have e0 := d0.1; have n0 := d0.2.1; have m0 := d0.2.2; clear d0; refine ⟨?_⟩; simp only [Act.put, sA, sB, sC, Nat.zero_add, Nat.reduceAdd, e0] at hK ⊢; go_simp; with_reducible refine hK _ _ (Below.refl _ _) (hS.step (Below.refl _ _) 9 _) ?_
       exact ⟨_, _, _, rfl, n0, m0⟩
     intro vs L w6 hS hall hv; have v8 := hv 8 (by simp); have v9 := hv 9 (by simp); simp only [PhiPw] at v8 v9; obtain ⟨X', kx', cx', e8, hX', _⟩ := v8; obtain ⟨Y', ky', cy', e9, hY', _⟩ := v9; have hbS := hS.be; by_cases hfit : ¬ Nm.Fits (p ^ (k + 1)) (q ^ (k + 1))
     ·rw [HPX.out, ← Nat.pow_succ] at hX'; rw [HQY.out, ← Nat.pow_succ] at hY'
      have hor : 64 < kx' ∨ 64 < ky' := by
       rw [hX'.1, hY'.1]
       rcases Nat.lt_or_ge 64 (Nm.lb (p ^ (k + 1))).length with h | h
       ·exact .inl h
       ·rcases Nat.lt_or_ge 64 (Nm.lb (q ^ (k + 1))).length with h2 | h2
        ·exact .inr h2
        ·exact absurd ⟨h, Nat.le_trans (dn_len _) h2⟩ hfit
      have hbe6 := Below.tr hbe hbS; have hres6 := hres4.below hbe6; obtain ⟨r1, r2, r3, r4⟩ := hres6.facts; obtain ⟨t1, t2⟩ := hres6.set2 (.slice none 0 0) (.slice none 0 0); have hbr := below_set2 (Below.tr hbw4 hbe6) (Nat.le_succ _) (.slice none 0 0) (.slice none 0 0); have HNG : Hid (∃ j, j ≤ n ∧ ¬ Nm.Fits (p ^ j) (q ^ j)) := ⟨k + 1, by omega, hfit⟩; clear hv hS hall hX hY hkx hky hx5 hres5 hr5a hr5b hbw5 hbe hbS hfit hX' hY' HFK HPX HQY; simp only [e8, e9]; clear e8 e9; by_cases h6 : 64 < kx'
      ·have d6 : decide ((64 : Int) < (kx' : Int)) = true := by simp; omega
       go_wp2_with fail; exact bodyPost_ret (v := .tuple #[.agg #[.slice none 0 0, .slice none 0 0], .int .i64 4]) (by simp [results, Tryz.results40, go_sem, t1, t2]) rfl ⟨_, _, rfl, .inr ⟨rfl, rfl, HNG.out⟩, hbr⟩
      ·have d6 : decide ((64 : Int) < (kx' : Int)) = false := by simp; omega
       have d7 : decide ((64 : Int) < (ky' : Int)) = true := by simp; omega
       go_wp2_with fail; exact bodyPost_ret (v := .tuple #[.agg #[.slice none 0 0, .slice none 0 0], .int .i64 4]) (by simp [results, Tryz.results40, go_sem, t1, t2]) rfl ⟨_, _, rfl, .inr ⟨rfl, rfl, HNG.out⟩, hbr⟩
     have hfit := Classical.not_not.1 hfit
     have HFK5 : Hid (∀ j, j ≤ k + 1 → Nm.Fits (p ^ j) (q ^ j)) := fun j hj => by
      rcases (show j ≤ k ∨ j = k + 1 by omega) with h | rfl
      ·exact HFK.out j h
      ·exact hfit
     rw [HPX.out, ← Nat.pow_succ] at hX'; rw [HQY.out, ← Nat.pow_succ] at hY'; have hkx' : kx' ≤ 64 := by rw [hX'.1]; exact hfit.1
     have hky' : ky' ≤ 64 := by rw [hY'.1]; exact fits_len hfit.2
     have hbe6 := Below.tr hbe hbS; clear hv hS hall hX hY hkx hky hx5 hres5 hr5a hr5b hbw5 hbe hbS hfit; simp only [e8, e9]; clear e8 e9; go_wp2_with fail
     go_roundg (gk - 1)
     case measure => omega
     case rel => exact ⟨k + 1, X', kx', cx', Y', ky', cy', by go_num, by omega, rfl, rfl, hX', hY', hkx', hky', hbe6, HFK5⟩
    ·obtain rfl : k = n := by omega
     obtain ⟨r1, r2, r3, r4⟩ := hres5.facts; by_cases hq1 : q ^ k = 1
     ·obtain ⟨t1, t2⟩ := hres5.set2 (.slice X kx cx) (.slice none 0 0)
      have hfin : Rat ((wr.setCell ⟨w.heap.size + 1, 0, none⟩ (.slice X kx cx)).setCell ⟨w.heap.size + 1, 1, none⟩ (.slice none 0 0)) (.agg #[.slice X kx cx, .slice none 0 0]) (p ^ k) (q ^ k) := by
       refine ⟨_, _, _, _, _, _, rfl, hres5.sl.keep2 X none kx cx 0 0 _ _ _ _ hX, ?_⟩; rw [hq1]; exact Nb.zero _
      have hbr := below_set2 hbw5 (Nat.le_succ _) (.slice X kx cx) (.slice none 0 0); have HY := Lib.hid hY; have HQ1 := Lib.hid hq1; clear hx5 hres5 hr5a hr5b hbw5 hX hY hq1; go_wp2_with fail; refine (isOne_t _ _ _ _ _ HY.out HQ1.out).mono ?_; rintro e w' ⟨rfl, rfl⟩; go_wp2_with fail; exact bodyPost_ret (v := .tuple #[.agg #[.slice X kx cx, .slice none 0 0], .int .i64 0]) (by simp [results, Tryz.results40, go_sem, t1, t2]) rfl ⟨_, _, rfl, .inl ⟨rfl, hfin, HFK.out⟩, hbr⟩
     ·obtain ⟨t1, t2⟩ := hres5.set2 (.slice X kx cx) (.slice Y ky cy)
      have hfin : Rat ((wr.setCell ⟨w.heap.size + 1, 0, none⟩ (.slice X kx cx)).setCell ⟨w.heap.size + 1, 1, none⟩ (.slice Y ky cy)) (.agg #[.slice X kx cx, .slice Y ky cy]) (p ^ k) (q ^ k) := by
       refine ⟨_, _, _, _, _, _, rfl, hres5.sl.keep2 X Y kx cx ky cy _ _ _ _ hX, ?_⟩; rw [Nm.dn_ne hq1]; exact hres5.sl.keep2 X Y kx cx ky cy _ _ _ _ hY
      have hbr := below_set2 hbw5 (Nat.le_succ _) (.slice X kx cx) (.slice Y ky cy); have HY := Lib.hid hY; have HQ1 := Lib.hid hq1; clear hx5 hres5 hr5a hr5b hbw5 hX hY hq1; go_wp2_with fail; refine (isOne_f _ _ _ _ _ HY.out HQ1.out).mono ?_; rintro e w' ⟨rfl, rfl⟩; go_wp2_with fail; exact bodyPost_ret (v := .tuple #[.agg #[.slice X kx cx, .slice Y ky cy], .int .i64 0]) (by simp [results, Tryz.results40, go_sem, t1, t2]) rfl ⟨_, _, rfl, .inl ⟨rfl, hfin, HFK.out⟩, hbr⟩
end Go.Proofs.YtmbfjmilhfmnkaaGreatDoor
