import Derived.Test.YticobffjnjbjiaaJ09
import Derived.Deep.QuietTactic
import Derived.BigQuiet
import Derived.Test.YticobffjnjbjiaaJ08
import Derived.Test.YticobffjnjbjiaaS0
set_option linter.unusedVariables false
set_option linter.unusedSimpArgs false
namespace Go.Proofs.Yticobffjnjbjiaa
open Go.RowKit
def PhiA (yes : Bool) (va : Value) (j : Nat) (w : World) (x : Value) : Prop :=
 match j with
 | 0 => x = va
 | 1 => Rat w x 1 1
 | 2 => x = .bool yes
 | 3 => x = .bool (!yes)
 | _ => True
theorem PhiA.keep {yes : Bool} {va : Value} : ∀ (w w' : World), Below w.heap.size w w' → ∀ j x, PhiA yes va j w x → PhiA yes va j w' x := by
 intro w w' hb j x h; unfold PhiA at h ⊢
 split <;> simp only at h ⊢ <;> first | exact h | exact h.below hb
def PhiB1 (b1 b2 : Nat) (va vb s1 s3 : Value) (k1 k3 : Nat) (j : Nat) (w : World) (x : Value) : Prop :=
 match j with
 | 0 => Rat w x 1 1
 | 1 => x = vb
 | 2 => x = .bool true
 | 3 => x = .bool false
 | 4 => x = .bool false
 | 5 => x = undef
 | 6 => x = undef
 | 7 => x = undef
 | 8 => x = undef
 | 9 => x = undef
 | 10 => x = undef
 | 11 => x = undef
 | 12 => x = undef
 | 13 => x = undef
 | 14 => x = undef
 | 15 => x = undef
 | 16 => x = undef
 | 17 => x = undef
 | 18 => x = undef
 | 19 => x = undef
 | 20 => x = .bool false
 | _ => True
theorem PhiB1.keep {b1 b2 : Nat} {va vb s1 s3 : Value} {k1 k3 : Nat} : ∀ (w w' : World), Below w.heap.size w w' → ∀ j x, PhiB1 b1 b2 va vb s1 s3 k1 k3 j w x → PhiB1 b1 b2 va vb s1 s3 k1 k3 j w' x := by
 intro w w' hb j x h; unfold PhiB1 at h ⊢
 split <;> simp only at h ⊢ <;> first | exact h | exact h.below hb
def PhiB2 (b1 b2 : Nat) (va vb s1 s3 : Value) (k1 k3 : Nat) (j : Nat) (w : World) (x : Value) : Prop :=
 match j with
 | 0 => Rat w x 1 1
 | 1 => x = vb
 | 2 => x = .bool false
 | 3 => x = .bool true
 | 4 => x = .bool true
 | 5 => Rat w x 1 1
 | 6 => x = va
 | 7 => x = .bool true
 | 8 => x = .bool true
 | 9 => x = undef
 | 10 => x = undef
 | 11 => x = undef
 | 12 => x = undef
 | 13 => x = undef
 | 14 => x = undef
 | 15 => x = undef
 | 16 => x = undef
 | 17 => x = undef
 | 18 => x = undef
 | 19 => x = .bool true
 | 20 => x = .bool true
 | _ => True
theorem PhiB2.keep {b1 b2 : Nat} {va vb s1 s3 : Value} {k1 k3 : Nat} : ∀ (w w' : World), Below w.heap.size w w' → ∀ j x, PhiB2 b1 b2 va vb s1 s3 k1 k3 j w x → PhiB2 b1 b2 va vb s1 s3 k1 k3 j w' x := by
 intro w w' hb j x h; unfold PhiB2 at h ⊢
 split <;> simp only at h ⊢ <;> first | exact h | exact h.below hb
def PhiB3 (b1 b2 : Nat) (va vb s1 s3 : Value) (k1 k3 : Nat) (j : Nat) (w : World) (x : Value) : Prop :=
 match j with
 | 0 => Rat w x 1 1
 | 1 => x = vb
 | 2 => x = .bool false
 | 3 => x = .bool true
 | 4 => x = .bool true
 | 5 => Rat w x 1 1
 | 6 => x = va
 | 7 => x = .bool false
 | 8 => x = .bool false
 | 9 => x = .pointer (some ⟨b2, 0, none⟩)
 | 10 => x = s3
 | 11 => x = .int .i64 k3
 | 12 => x = .bool true
 | 13 => x = .bool true
 | 14 => x = .pointer (some ⟨b1, 0, none⟩)
 | 15 => x = s1
 | 16 => x = .int .i64 k1
 | 17 => x = .bool true
 | 18 => x = .bool true
 | 19 => x = .bool true
 | 20 => x = .bool true
 | _ => True
theorem PhiB3.keep {b1 b2 : Nat} {va vb s1 s3 : Value} {k1 k3 : Nat} : ∀ (w w' : World), Below w.heap.size w w' → ∀ j x, PhiB3 b1 b2 va vb s1 s3 k1 k3 j w x → PhiB3 b1 b2 va vb s1 s3 k1 k3 j w' x := by
 intro w w' hb j x h; unfold PhiB3 at h ⊢
 split <;> simp only at h ⊢ <;> first | exact h | exact h.below hb
def PhiB4 (b1 b2 : Nat) (va vb s1 s3 : Value) (k1 k3 : Nat) (j : Nat) (w : World) (x : Value) : Prop :=
 match j with
 | 0 => Rat w x 1 1
 | 1 => x = vb
 | 2 => x = .bool false
 | 3 => x = .bool true
 | 4 => x = .bool true
 | 5 => Rat w x 1 1
 | 6 => x = va
 | 7 => x = .bool false
 | 8 => x = .bool false
 | 9 => x = .pointer (some ⟨b2, 0, none⟩)
 | 10 => x = s3
 | 11 => x = .int .i64 k3
 | 12 => x = .bool true
 | 13 => x = .bool true
 | 14 => x = .pointer (some ⟨b1, 0, none⟩)
 | 15 => x = s1
 | 16 => x = .int .i64 k1
 | 17 => x = .bool false
 | 18 => x = .bool false
 | 19 => x = .bool false
 | 20 => x = .bool false
 | _ => True
theorem PhiB4.keep {b1 b2 : Nat} {va vb s1 s3 : Value} {k1 k3 : Nat} : ∀ (w w' : World), Below w.heap.size w w' → ∀ j x, PhiB4 b1 b2 va vb s1 s3 k1 k3 j w x → PhiB4 b1 b2 va vb s1 s3 k1 k3 j w' x := by
 intro w w' hb j x h; unfold PhiB4 at h ⊢
 split <;> simp only at h ⊢ <;> first | exact h | exact h.below hb
def PhiB5 (b1 b2 : Nat) (va vb s1 s3 : Value) (k1 k3 : Nat) (j : Nat) (w : World) (x : Value) : Prop :=
 match j with
 | 0 => Rat w x 1 1
 | 1 => x = vb
 | 2 => x = .bool false
 | 3 => x = .bool true
 | 4 => x = .bool true
 | 5 => Rat w x 1 1
 | 6 => x = va
 | 7 => x = .bool false
 | 8 => x = .bool false
 | 9 => x = .pointer (some ⟨b2, 0, none⟩)
 | 10 => x = s3
 | 11 => x = .int .i64 k3
 | 12 => x = .bool false
 | 13 => x = .bool false
 | 14 => x = undef
 | 15 => x = undef
 | 16 => x = undef
 | 17 => x = undef
 | 18 => x = .bool false
 | 19 => x = .bool false
 | 20 => x = .bool false
 | _ => True
theorem PhiB5.keep {b1 b2 : Nat} {va vb s1 s3 : Value} {k1 k3 : Nat} : ∀ (w w' : World), Below w.heap.size w w' → ∀ j x, PhiB5 b1 b2 va vb s1 s3 k1 k3 j w x → PhiB5 b1 b2 va vb s1 s3 k1 k3 j w' x := by
 intro w w' hb j x h; unfold PhiB5 at h ⊢
 split <;> simp only at h ⊢ <;> first | exact h | exact h.below hb
theorem RedP.pow {w : World} {v : Value} {er : Int} {p q n : Nat} (h : RedP w v er (p ^ n * p) (q ^ n * q)) (g : Nm.Good p q) :
  (Nm.Fits (p ^ (n + 1)) (q ^ (n + 1)) ∧ er = 0 ∧ Rat w v (p ^ (n + 1)) (q ^ (n + 1))) ∨ (¬ Nm.Fits (p ^ (n + 1)) (q ^ (n + 1)) ∧ er = 4) := by
 unfold RedP at h; rw [Nm.gcd_pow g, Nat.div_one, Nat.div_one, ← Nat.pow_succ, ← Nat.pow_succ] at h
 rcases h with h | ⟨h1, h2, _⟩
 ·exact .inl h
 ·exact .inr ⟨h1, h2⟩
theorem Rat.map {w w' : World} {v : Value} {p q : Nat} (h : Rat w v p q) (hm : ∀ A k c x, Nb w A k c x → Nb w' A k c x) : Rat w' v p q := by
 obtain ⟨A1, k1, c1, A2, k2, c2, rfl, h1, h2⟩ := h; exact ⟨A1, k1, c1, A2, k2, c2, rfl, hm _ _ _ _ h1, hm _ _ _ _ h2⟩
theorem Box.sl {w : World} {g : Nat} {A A' : Option Addr} {k c k' c' : Nat} (h : Box w g (.slice A k c) (.slice A' k' c')) : Sl w g := ⟨_, _, _, _, _, _, h⟩
theorem Sl.keep2 {w : World} {g : Nat} (h : Sl w g) (A A' : Option Addr) (k c k' c' : Nat) : ∀ A2 k2 c2 x, Nb w A2 k2 c2 x → Nb ((w.setCell ⟨g, 0, none⟩ (.slice A k c)).setCell ⟨g, 1, none⟩ (.slice A' k' c')) A2 k2 c2 x :=
 fun _ _ _ _ hn => (hn.setSl h _).setSl (h.set0 _ _ _) _
theorem RtL.limb {w : World} {v : Value} {l1 l2 : List Nat} (h : RtL w v l1 l2) : Nm.Lim l1 ∧ Nm.Lim l2 := by
 obtain ⟨A1, k1, c1, A2, k2, c2, rfl, h1, h2, _⟩ := h; exact ⟨h1.limb, h2.limb⟩
theorem RtL.rat {w : World} {v : Value} {p q : Nat} (h : RtL w v (Nm.lb p) (Nm.lb (Nm.dn q))) : Rat w v p q := by
 obtain ⟨A1, k1, c1, A2, k2, c2, rfl, h1, h2, e1, e2⟩ := h; exact ⟨A1, k1, c1, A2, k2, c2, rfl, ⟨e1, h1⟩, ⟨e2, h2⟩⟩
set_option maxRecDepth 100000 in
set_option maxHeartbeats 4000000 in
theorem retries_any (va vb : Value) (L1 L2 L3 L4 : List Nat) (w : World) (ha : RtL w va L1 L2) (hb : RtL w vb L3 L4) :
  Calls Try.prog 16 #[va, vb] w fun e w' => ∃ x er : Int, e = .returned (.tuple #[.int .i64 x, .int .i64 er]) ∧ Hid (Nm.RetA L1 L2 L3 L4 x er) ∧ Below w.heap.size w w' := by
 obtain ⟨A1, k1, c1, A2, k2, c2, rfl⟩ := ha.shape; obtain ⟨B1, l1, d1, B2, l2, d2, rfl⟩ := hb.shape; obtain ⟨W, HW⟩ : ∃ W, Hid (W = ((w.alloc (.cells #[.slice A1 k1 c1, .slice A2 k2 c2] 24)).alloc (.cells #[.slice B1 l1 d1, .slice B2 l2 d2] 24)).alloc (.cells #[.slice A1 k1 c1, .slice A2 k2 c2, .slice B1 l1 d1, .slice B2 l2 d2] 24)) := ⟨_, rfl⟩; have hbw : Below w.heap.size w W := by rw [HW.out]; exact Below.tr (Below.tr (bA _ _) (bA _ _)) (bA _ _)
 have hx1 : Box W w.heap.size (.slice A1 k1 c1) (.slice A2 k2 c2) := by rw [HW.out]; exact (Box.below (Blk.new w _ _) (bA _ _)).below (bA _ _)
 have hx2 : Box W (w.heap.size + 1) (.slice B1 l1 d1) (.slice B2 l2 d2) := by
  rw [HW.out]; have := Blk.new (w.alloc (.cells #[.slice A1 k1 c1, .slice A2 k2 c2] 24)) 24 #[.slice B1 l1 d1, .slice B2 l2 d2]; refine Box.below ?_ (bA _ _); unfold Box; simpa using this
 have hp : Pair W (w.heap.size + 2) (.slice A1 k1 c1) (.slice A2 k2 c2) (.slice B1 l1 d1) (.slice B2 l2 d2) := by
  rw [HW.out]; have := Blk.new ((w.alloc (.cells #[.slice A1 k1 c1, .slice A2 k2 c2] 24)).alloc (.cells #[.slice B1 l1 d1, .slice B2 l2 d2] 24)) 24 #[.slice A1 k1 c1, .slice A2 k2 c2, .slice B1 l1 d1, .slice B2 l2 d2]; unfold Pair; simpa using this
 have ha1 := ha.below hbw; have hb1 := hb.below hbw
 go_enter Try.func16, Try.ntmps16
 go_wp2_with fail; rw [← HW.out]
 go_loopg [17] 2 (fun j i wx => ∃ (n : Nat), i = .int .i64 n ∧ n + j = 2 ∧ Below W.heap.size W wx ∧ Hid (n = 1 → Nm.validE L1 L2 = 0) ∧ Hid (n = 2 → Nm.validE L1 L2 = 0 ∧ Nm.validE L3 L4 = 0))
 case atStart => exact ⟨0, rfl, rfl, Below.refl _ _, fun h => by omega, fun h => by omega⟩
 case round =>
  obtain ⟨n, rfl, hn, hbx, H1, H2⟩ := hrel; obtain ⟨m1, m2, m3, m4⟩ := (hp.below hbx).facts; by_cases hn2 : n = 2
  ·have HV := Lib.hid (H2.out hn2); have hd2 : decide ((n : Int) < 2) = false := by simp; omega
   clear hn2 hn; clear m1 m2 m3 m4 H1 H2; have hx1 := hx1.below hbx; have hx2 := hx2.below hbx; have ha1 := ha1.below hbx; have hb1 := hb1.below hbx; obtain ⟨p, q, rfl, rfl, ga⟩ := Nm.validE_spec ha.limb.1 ha.limb.2 HV.out.1; obtain ⟨a, b, rfl, rfl, gb⟩ := Nm.validE_spec hb.limb.1 hb.limb.2 HV.out.2; have hra := ha1.rat; have hrb := hb1.rat; clear HV ha1 hb1 ha hb hp HW; have hbw := Below.tr hbw hbx; clear hbx; have HRA : Hid (∀ x er, Nm.RetP p q a b x er → Nm.RetA (Nm.lb p) (Nm.lb (Nm.dn q)) (Nm.lb a) (Nm.lb (Nm.dn b)) x er) := fun x er h => .inr ⟨p, q, a, b, rfl, rfl, ga, rfl, rfl, gb, h⟩
   by_cases hpq : p ≤ q
   ·have hle1 : p * 1 ≤ 1 * q := by omega
    go_wp2_with fail; generalize w.heap.size + 1 + 1 = gp; refine region_inv (PhiA true (.agg #[.slice A1 k1 c1, .slice A2 k2 c2])) (fun w w' => Below w.heap.size w w') (fun W => Below wr.heap.size wr W) (by kernel_rfl) (by kernel_rfl) (by kernel_rfl) PhiA.keep (fun _ _ hR hS => Below.tr hS hR) (bD _) ?_ ?_
    ·refine sK ?_ (sK ?_ (sK ?_ (sK ?_ (sZ))))
     ·intro vs W hS hdep K hK; have f1 := (hx1.below hS).facts.1; have f2 := (hx1.below hS).facts.2; have f3 := (hx2.below hS).facts.1; have f4 := (hx2.below hS).facts.2; refine ⟨?_⟩; simp only [fillR, Act.put, sA, sB, sC, Nat.zero_add, Nat.reduceAdd] at hK ⊢; go_simp; with_reducible refine hK _ _ (Below.refl _ _) ?_
      exact rfl
     ·intro vs W hS hdep K hK; refine ⟨?_⟩; simp only [fillR, Act.put, sA, sB, sC, Nat.zero_add, Nat.reduceAdd] at hK ⊢; go_simp; refine (unit_n _).mono ?_; rintro e w' ⟨v, rfl, hr, hb⟩; go_wp2_with fail; with_reducible refine hK _ _ hb ?_
      exact hr
     ·intro vs W hS hdep K hK; have d0 := hdep ⟨0, .data⟩ (by simp) rfl; simp only [PhiA] at d0; have d1 := hdep ⟨1, .data⟩ (by simp) rfl; simp only [PhiA] at d1; have r1 := d1; clear d1; refine ⟨?_⟩; simp only [fillR, Act.put, sA, sB, sC, Nat.zero_add, Nat.reduceAdd, d0] at hK ⊢; go_simp; refine (most_t _ _ p q 1 1 _ (hra.below hS) r1 ga Good_one hle1).mono ?_; rintro e w' ⟨rfl, hb⟩; go_wp2_with fail; with_reducible refine hK _ _ hb ?_
      exact rfl
     ·intro vs W hS hdep K hK; have d0 := hdep ⟨2, .data⟩ (by simp) rfl; simp only [PhiA] at d0; refine ⟨?_⟩; simp only [fillR, Act.put, sA, sB, sC, Nat.zero_add, Nat.reduceAdd, d0] at hK ⊢; go_simp; with_reducible refine hK _ _ (Below.refl _ _) ?_
      exact rfl
    intro vs W2 hS hv; have v3 := hv 3 (by simp); simp only [PhiA, Bool.not_true, Bool.not_false] at v3; simp only [fillR, Act.put, sA, sB, sC, Nat.zero_add, Nat.reduceAdd, v3]; have hx1 := hx1.below hS; have hx2 := hx2.below hS; have hra := hra.below hS; have hrb := hrb.below hS; have hbw := Below.tr hbw hS; clear hv v3 hS hle1
    have HZ1 : Hid (((k1 : Int) == 0) = decide (p = 0)) := by
     show _ = _; have := hra.nb.1
     by_cases h : p = 0
     ·subst h; have := this.kzero; subst this; rfl
     ·have := this.pos (by omega); rw [Bool.eq_iff_iff]; simp [h]; omega
    have HZ3 : Hid (((l1 : Int) == 0) = decide (a = 0)) := by
     show _ = _; have := hrb.nb.1
     by_cases h : a = 0
     ·subst h; have := this.kzero; subst this; rfl
     ·have := this.pos (by omega); rw [Bool.eq_iff_iff]; simp [h]; omega
    go_upto_region 10 with fail
    go_cut [51] from 31 (fun x wx => ∃ r : Bool, x = .bool r ∧ Below W2.heap.size W2 wx ∧ Hid (r = true ↔ (a < b ∧ (p = q ∨ (a = 0 ∧ 0 < p)))))
    case first => as_aux_lemma =>
     by_cases hab : b ≤ a
     ·have hle2 : 1 * b ≤ a * 1 := by omega
      refine region_inv (PhiB1 w.heap.size (w.heap.size + 1) (.agg #[.slice A1 k1 c1, .slice A2 k2 c2]) (.agg #[.slice B1 l1 d1, .slice B2 l2 d2]) (.slice A1 k1 c1) (.slice B1 l1 d1) k1 l1) (fun w w' => Below w.heap.size w w') (fun W => Below W2.heap.size W2 W) (by kernel_rfl) (by kernel_rfl) (by kernel_rfl) PhiB1.keep (fun _ _ hR hS => Below.tr hS hR) (bD _) ?_ ?_
      ·refine sK ?_ (sK ?_ (sK ?_ (sK ?_ (sK ?_ (sK ?_ (sK ?_ (sK ?_ (sK ?_ (sK ?_ (sK ?_ (sK ?_ (sK ?_ (sK ?_ (sK ?_ (sK ?_ (sK ?_ (sK ?_ (sK ?_ (sK ?_ (sK ?_ (sZ)))))))))))))))))))))
       ·intro vs W hS hdep K hK; refine ⟨?_⟩; simp only [fillR, Act.put, sA, sB, sC, Nat.zero_add, Nat.reduceAdd] at hK ⊢; go_simp; refine (unit_n _).mono ?_; rintro e w' ⟨v, rfl, hr, hb⟩; go_wp2_with fail; with_reducible refine hK _ _ hb ?_
        exact hr
       ·intro vs W hS hdep K hK; have f1 := (hx1.below hS).facts.1; have f2 := (hx1.below hS).facts.2; have f3 := (hx2.below hS).facts.1; have f4 := (hx2.below hS).facts.2; refine ⟨?_⟩; simp only [fillR, Act.put, sA, sB, sC, Nat.zero_add, Nat.reduceAdd] at hK ⊢; go_simp; with_reducible refine hK _ _ (Below.refl _ _) ?_
        exact rfl
       ·intro vs W hS hdep K hK; have d0 := hdep ⟨1, .data⟩ (by simp) rfl; simp only [PhiB1] at d0; have d1 := hdep ⟨0, .data⟩ (by simp) rfl; simp only [PhiB1] at d1; have r1 := d1; clear d1; refine ⟨?_⟩; simp only [fillR, Act.put, sA, sB, sC, Nat.zero_add, Nat.reduceAdd, d0] at hK ⊢; go_simp; refine (most_t _ _ 1 1 a b _ r1 (hrb.below hS) Good_one gb hle2).mono ?_; rintro e w' ⟨rfl, hb⟩; go_wp2_with fail; with_reducible refine hK _ _ hb ?_
        exact rfl
       ·intro vs W hS hdep K hK; have d0 := hdep ⟨2, .data⟩ (by simp) rfl; simp only [PhiB1] at d0; refine ⟨?_⟩; simp only [fillR, Act.put, sA, sB, sC, Nat.zero_add, Nat.reduceAdd, d0] at hK ⊢; go_simp; with_reducible refine hK _ _ (Below.refl _ _) ?_
        exact rfl
       ·intro vs W hS hdep K hK; have d0 := hdep ⟨3, .data⟩ (by simp) rfl; simp only [PhiB1] at d0; refine ⟨?_⟩; simp only [fillR, Act.put, sA, sB, sC, Nat.zero_add, Nat.reduceAdd, d0] at hK ⊢; go_simp; with_reducible refine hK _ _ (Below.refl _ _) ?_
        exact rfl
       ·intro vs W hS hdep K hK; have d0 := hdep ⟨4, .guard⟩ (by simp) rfl; simp only [PhiB1] at d0; refine ⟨?_⟩; simp only [fillR, Act.put, sA, sB, sC, Nat.zero_add, Nat.reduceAdd, d0] at hK ⊢; go_simp; with_reducible refine hK _ _ (Below.refl _ _) ?_
        exact rfl
       ·intro vs W hS hdep K hK; have d0 := hdep ⟨4, .guard⟩ (by simp) rfl; simp only [PhiB1] at d0; refine ⟨?_⟩; simp only [fillR, Act.put, sA, sB, sC, Nat.zero_add, Nat.reduceAdd, d0] at hK ⊢; go_simp; with_reducible refine hK _ _ (Below.refl _ _) ?_
        exact rfl
       ·intro vs W hS hdep K hK; have d0 := hdep ⟨4, .guard⟩ (by simp) rfl; simp only [PhiB1] at d0; refine ⟨?_⟩; simp only [fillR, Act.put, sA, sB, sC, Nat.zero_add, Nat.reduceAdd, d0] at hK ⊢; go_simp; with_reducible refine hK _ _ (Below.refl _ _) ?_
        exact rfl
       ·intro vs W hS hdep K hK; have d0 := hdep ⟨4, .guard⟩ (by simp) rfl; simp only [PhiB1] at d0; refine ⟨?_⟩; simp only [fillR, Act.put, sA, sB, sC, Nat.zero_add, Nat.reduceAdd, d0] at hK ⊢; go_simp; with_reducible refine hK _ _ (Below.refl _ _) ?_
        exact rfl
       ·intro vs W hS hdep K hK; have d0 := hdep ⟨8, .guard⟩ (by simp) rfl; simp only [PhiB1] at d0; refine ⟨?_⟩; simp only [fillR, Act.put, sA, sB, sC, Nat.zero_add, Nat.reduceAdd, d0] at hK ⊢; go_simp; rw [if_neg (by simp [undef])]; with_reducible refine hK _ _ (Below.refl _ _) ?_
        exact rfl
       ·intro vs W hS hdep K hK; have d0 := hdep ⟨8, .guard⟩ (by simp) rfl; simp only [PhiB1] at d0; refine ⟨?_⟩; simp only [fillR, Act.put, sA, sB, sC, Nat.zero_add, Nat.reduceAdd, d0] at hK ⊢; go_simp; rw [if_neg (by simp [undef])]; with_reducible refine hK _ _ (Below.refl _ _) ?_
        exact rfl
       ·intro vs W hS hdep K hK; have d0 := hdep ⟨8, .guard⟩ (by simp) rfl; simp only [PhiB1] at d0; refine ⟨?_⟩; simp only [fillR, Act.put, sA, sB, sC, Nat.zero_add, Nat.reduceAdd, d0] at hK ⊢; go_simp; rw [if_neg (by simp [undef])]; with_reducible refine hK _ _ (Below.refl _ _) ?_
        exact rfl
       ·intro vs W hS hdep K hK; have d0 := hdep ⟨8, .guard⟩ (by simp) rfl; simp only [PhiB1] at d0; refine ⟨?_⟩; simp only [fillR, Act.put, sA, sB, sC, Nat.zero_add, Nat.reduceAdd, d0] at hK ⊢; go_simp; rw [if_neg (by simp [undef])]; with_reducible refine hK _ _ (Below.refl _ _) ?_
        exact rfl
       ·intro vs W hS hdep K hK; have d0 := hdep ⟨8, .guard⟩ (by simp) rfl; simp only [PhiB1] at d0; refine ⟨?_⟩; simp only [fillR, Act.put, sA, sB, sC, Nat.zero_add, Nat.reduceAdd, d0] at hK ⊢; go_simp; rw [if_neg (by simp [undef])]; with_reducible refine hK _ _ (Below.refl _ _) ?_
        exact rfl
       ·intro vs W hS hdep K hK; have d0 := hdep ⟨13, .guard⟩ (by simp) rfl; simp only [PhiB1] at d0; refine ⟨?_⟩; simp only [fillR, Act.put, sA, sB, sC, Nat.zero_add, Nat.reduceAdd, d0] at hK ⊢; go_simp; rw [if_neg (by simp [undef])]; with_reducible refine hK _ _ (Below.refl _ _) ?_
        exact rfl
       ·intro vs W hS hdep K hK; have d0 := hdep ⟨13, .guard⟩ (by simp) rfl; simp only [PhiB1] at d0; refine ⟨?_⟩; simp only [fillR, Act.put, sA, sB, sC, Nat.zero_add, Nat.reduceAdd, d0] at hK ⊢; go_simp; rw [if_neg (by simp [undef])]; with_reducible refine hK _ _ (Below.refl _ _) ?_
        exact rfl
       ·intro vs W hS hdep K hK; have d0 := hdep ⟨13, .guard⟩ (by simp) rfl; simp only [PhiB1] at d0; refine ⟨?_⟩; simp only [fillR, Act.put, sA, sB, sC, Nat.zero_add, Nat.reduceAdd, d0] at hK ⊢; go_simp; rw [if_neg (by simp [undef])]; with_reducible refine hK _ _ (Below.refl _ _) ?_
        exact rfl
       ·intro vs W hS hdep K hK; have d0 := hdep ⟨13, .guard⟩ (by simp) rfl; simp only [PhiB1] at d0; refine ⟨?_⟩; simp only [fillR, Act.put, sA, sB, sC, Nat.zero_add, Nat.reduceAdd, d0] at hK ⊢; go_simp; rw [if_neg (by simp [undef])]; with_reducible refine hK _ _ (Below.refl _ _) ?_
        exact rfl
       ·intro vs W hS hdep K hK; have d0 := hdep ⟨8, .guard⟩ (by simp) rfl; simp only [PhiB1] at d0; refine ⟨?_⟩; simp only [fillR, Act.put, sA, sB, sC, Nat.zero_add, Nat.reduceAdd, d0] at hK ⊢; go_simp; rw [if_neg (by simp [undef])]; with_reducible refine hK _ _ (Below.refl _ _) ?_
        exact rfl
       ·intro vs W hS hdep K hK; have d0 := hdep ⟨4, .guard⟩ (by simp) rfl; simp only [PhiB1] at d0; refine ⟨?_⟩; simp only [fillR, Act.put, sA, sB, sC, Nat.zero_add, Nat.reduceAdd, d0] at hK ⊢; go_simp; with_reducible refine hK _ _ (Below.refl _ _) ?_
        exact rfl
       ·intro vs W hS hdep K hK; have d0 := hdep ⟨4, .data⟩ (by simp) rfl; simp only [PhiB1] at d0; have d1 := hdep ⟨19, .data⟩ (by simp) rfl; simp only [PhiB1] at d1; refine ⟨?_⟩; simp only [fillR, Act.put, sA, sB, sC, Nat.zero_add, Nat.reduceAdd, d0, d1] at hK ⊢; go_simp; with_reducible refine hK _ _ (Below.refl _ _) ?_
        exact rfl
      intro vs W3 hS hv; have v20 := hv 20 (by simp); simp only [PhiB1] at v20; simp only [fillR, Act.put, sA, sB, sC, Nat.zero_add, Nat.reduceAdd, v20]; clear hv v20; go_wp2_with fail
      go_meet
      case rel => exact ⟨false, rfl, hS, (by show _ ↔ _; simp; omega)⟩
     ·have hle2 : a * 1 < 1 * b := by omega
      by_cases heq : p = q
      ·have hle3 : 1 * q ≤ p * 1 := by omega
       refine region_inv (PhiB2 w.heap.size (w.heap.size + 1) (.agg #[.slice A1 k1 c1, .slice A2 k2 c2]) (.agg #[.slice B1 l1 d1, .slice B2 l2 d2]) (.slice A1 k1 c1) (.slice B1 l1 d1) k1 l1) (fun w w' => Below w.heap.size w w') (fun W => Below W2.heap.size W2 W) (by kernel_rfl) (by kernel_rfl) (by kernel_rfl) PhiB2.keep (fun _ _ hR hS => Below.tr hS hR) (bD _) ?_ ?_
       ·refine sK ?_ (sK ?_ (sK ?_ (sK ?_ (sK ?_ (sK ?_ (sK ?_ (sK ?_ (sK ?_ (sK ?_ (sK ?_ (sK ?_ (sK ?_ (sK ?_ (sK ?_ (sK ?_ (sK ?_ (sK ?_ (sK ?_ (sK ?_ (sK ?_ (sZ)))))))))))))))))))))
        ·intro vs W hS hdep K hK; refine ⟨?_⟩; simp only [fillR, Act.put, sA, sB, sC, Nat.zero_add, Nat.reduceAdd] at hK ⊢; go_simp; refine (unit_n _).mono ?_; rintro e w' ⟨v, rfl, hr, hb⟩; go_wp2_with fail; with_reducible refine hK _ _ hb ?_
         exact hr
        ·intro vs W hS hdep K hK; have f1 := (hx1.below hS).facts.1; have f2 := (hx1.below hS).facts.2; have f3 := (hx2.below hS).facts.1; have f4 := (hx2.below hS).facts.2; refine ⟨?_⟩; simp only [fillR, Act.put, sA, sB, sC, Nat.zero_add, Nat.reduceAdd] at hK ⊢; go_simp; with_reducible refine hK _ _ (Below.refl _ _) ?_
         exact rfl
        ·intro vs W hS hdep K hK; have d0 := hdep ⟨1, .data⟩ (by simp) rfl; simp only [PhiB2] at d0; have d1 := hdep ⟨0, .data⟩ (by simp) rfl; simp only [PhiB2] at d1; have r1 := d1; clear d1; refine ⟨?_⟩; simp only [fillR, Act.put, sA, sB, sC, Nat.zero_add, Nat.reduceAdd, d0] at hK ⊢; go_simp; refine (most_f _ _ 1 1 a b _ r1 (hrb.below hS) Good_one gb hle2).mono ?_; rintro e w' ⟨rfl, hb⟩; go_wp2_with fail; with_reducible refine hK _ _ hb ?_
         exact rfl
        ·intro vs W hS hdep K hK; have d0 := hdep ⟨2, .data⟩ (by simp) rfl; simp only [PhiB2] at d0; refine ⟨?_⟩; simp only [fillR, Act.put, sA, sB, sC, Nat.zero_add, Nat.reduceAdd, d0] at hK ⊢; go_simp; with_reducible refine hK _ _ (Below.refl _ _) ?_
         exact rfl
        ·intro vs W hS hdep K hK; have d0 := hdep ⟨3, .data⟩ (by simp) rfl; simp only [PhiB2] at d0; refine ⟨?_⟩; simp only [fillR, Act.put, sA, sB, sC, Nat.zero_add, Nat.reduceAdd, d0] at hK ⊢; go_simp; with_reducible refine hK _ _ (Below.refl _ _) ?_
         exact rfl
        ·intro vs W hS hdep K hK; have d0 := hdep ⟨4, .guard⟩ (by simp) rfl; simp only [PhiB2] at d0; refine ⟨?_⟩; simp only [fillR, Act.put, sA, sB, sC, Nat.zero_add, Nat.reduceAdd, d0] at hK ⊢; go_simp; refine (unit_n _).mono ?_; rintro e w' ⟨v, rfl, hr, hb⟩; go_wp2_with fail; with_reducible refine hK _ _ hb ?_
         exact hr
        ·intro vs W hS hdep K hK; have d0 := hdep ⟨4, .guard⟩ (by simp) rfl; simp only [PhiB2] at d0; have f1 := (hx1.below hS).facts.1; have f2 := (hx1.below hS).facts.2; have f3 := (hx2.below hS).facts.1; have f4 := (hx2.below hS).facts.2; refine ⟨?_⟩; simp only [fillR, Act.put, sA, sB, sC, Nat.zero_add, Nat.reduceAdd, d0] at hK ⊢; go_simp; with_reducible refine hK _ _ (Below.refl _ _) ?_
         exact rfl
        ·intro vs W hS hdep K hK; have d0 := hdep ⟨4, .guard⟩ (by simp) rfl; simp only [PhiB2] at d0; have d1 := hdep ⟨6, .data⟩ (by simp) rfl; simp only [PhiB2] at d1; have d2 := hdep ⟨5, .data⟩ (by simp) rfl; simp only [PhiB2] at d2; have r2 := d2; clear d2; refine ⟨?_⟩; simp only [fillR, Act.put, sA, sB, sC, Nat.zero_add, Nat.reduceAdd, d0, d1] at hK ⊢; go_simp; refine (most_t _ _ 1 1 p q _ r2 (hra.below hS) Good_one ga hle3).mono ?_; rintro e w' ⟨rfl, hb⟩; go_wp2_with fail; with_reducible refine hK _ _ hb ?_
         exact rfl
        ·intro vs W hS hdep K hK; have d0 := hdep ⟨4, .guard⟩ (by simp) rfl; simp only [PhiB2] at d0; have d1 := hdep ⟨7, .data⟩ (by simp) rfl; simp only [PhiB2] at d1; refine ⟨?_⟩; simp only [fillR, Act.put, sA, sB, sC, Nat.zero_add, Nat.reduceAdd, d0, d1] at hK ⊢; go_simp; with_reducible refine hK _ _ (Below.refl _ _) ?_
         exact rfl
        ·intro vs W hS hdep K hK; have d0 := hdep ⟨8, .guard⟩ (by simp) rfl; simp only [PhiB2] at d0; refine ⟨?_⟩; simp only [fillR, Act.put, sA, sB, sC, Nat.zero_add, Nat.reduceAdd, d0] at hK ⊢; go_simp; with_reducible refine hK _ _ (Below.refl _ _) ?_
         exact rfl
        ·intro vs W hS hdep K hK; have d0 := hdep ⟨8, .guard⟩ (by simp) rfl; simp only [PhiB2] at d0; refine ⟨?_⟩; simp only [fillR, Act.put, sA, sB, sC, Nat.zero_add, Nat.reduceAdd, d0] at hK ⊢; go_simp; with_reducible refine hK _ _ (Below.refl _ _) ?_
         exact rfl
        ·intro vs W hS hdep K hK; have d0 := hdep ⟨8, .guard⟩ (by simp) rfl; simp only [PhiB2] at d0; refine ⟨?_⟩; simp only [fillR, Act.put, sA, sB, sC, Nat.zero_add, Nat.reduceAdd, d0] at hK ⊢; go_simp; with_reducible refine hK _ _ (Below.refl _ _) ?_
         exact rfl
        ·intro vs W hS hdep K hK; have d0 := hdep ⟨8, .guard⟩ (by simp) rfl; simp only [PhiB2] at d0; refine ⟨?_⟩; simp only [fillR, Act.put, sA, sB, sC, Nat.zero_add, Nat.reduceAdd, d0] at hK ⊢; go_simp; with_reducible refine hK _ _ (Below.refl _ _) ?_
         exact rfl
        ·intro vs W hS hdep K hK; have d0 := hdep ⟨8, .guard⟩ (by simp) rfl; simp only [PhiB2] at d0; refine ⟨?_⟩; simp only [fillR, Act.put, sA, sB, sC, Nat.zero_add, Nat.reduceAdd, d0] at hK ⊢; go_simp; with_reducible refine hK _ _ (Below.refl _ _) ?_
         exact rfl
        ·intro vs W hS hdep K hK; have d0 := hdep ⟨13, .guard⟩ (by simp) rfl; simp only [PhiB2] at d0; refine ⟨?_⟩; simp only [fillR, Act.put, sA, sB, sC, Nat.zero_add, Nat.reduceAdd, d0] at hK ⊢; go_simp; rw [if_neg (by simp [undef])]; with_reducible refine hK _ _ (Below.refl _ _) ?_
         exact rfl
        ·intro vs W hS hdep K hK; have d0 := hdep ⟨13, .guard⟩ (by simp) rfl; simp only [PhiB2] at d0; refine ⟨?_⟩; simp only [fillR, Act.put, sA, sB, sC, Nat.zero_add, Nat.reduceAdd, d0] at hK ⊢; go_simp; rw [if_neg (by simp [undef])]; with_reducible refine hK _ _ (Below.refl _ _) ?_
         exact rfl
        ·intro vs W hS hdep K hK; have d0 := hdep ⟨13, .guard⟩ (by simp) rfl; simp only [PhiB2] at d0; refine ⟨?_⟩; simp only [fillR, Act.put, sA, sB, sC, Nat.zero_add, Nat.reduceAdd, d0] at hK ⊢; go_simp; rw [if_neg (by simp [undef])]; with_reducible refine hK _ _ (Below.refl _ _) ?_
         exact rfl
        ·intro vs W hS hdep K hK; have d0 := hdep ⟨13, .guard⟩ (by simp) rfl; simp only [PhiB2] at d0; refine ⟨?_⟩; simp only [fillR, Act.put, sA, sB, sC, Nat.zero_add, Nat.reduceAdd, d0] at hK ⊢; go_simp; rw [if_neg (by simp [undef])]; with_reducible refine hK _ _ (Below.refl _ _) ?_
         exact rfl
        ·intro vs W hS hdep K hK; have d0 := hdep ⟨8, .guard⟩ (by simp) rfl; simp only [PhiB2] at d0; refine ⟨?_⟩; simp only [fillR, Act.put, sA, sB, sC, Nat.zero_add, Nat.reduceAdd, d0] at hK ⊢; go_simp; with_reducible refine hK _ _ (Below.refl _ _) ?_
         exact rfl
        ·intro vs W hS hdep K hK; have d0 := hdep ⟨4, .guard⟩ (by simp) rfl; simp only [PhiB2] at d0; have d1 := hdep ⟨8, .data⟩ (by simp) rfl; simp only [PhiB2] at d1; refine ⟨?_⟩; simp only [fillR, Act.put, sA, sB, sC, Nat.zero_add, Nat.reduceAdd, d0, d1] at hK ⊢; go_simp; with_reducible refine hK _ _ (Below.refl _ _) ?_
         exact rfl
        ·intro vs W hS hdep K hK; have d0 := hdep ⟨4, .data⟩ (by simp) rfl; simp only [PhiB2] at d0; have d1 := hdep ⟨19, .data⟩ (by simp) rfl; simp only [PhiB2] at d1; refine ⟨?_⟩; simp only [fillR, Act.put, sA, sB, sC, Nat.zero_add, Nat.reduceAdd, d0, d1] at hK ⊢; go_simp; with_reducible refine hK _ _ (Below.refl _ _) ?_
         exact rfl
       intro vs W3 hS hv; have v20 := hv 20 (by simp); simp only [PhiB2] at v20; simp only [fillR, Act.put, sA, sB, sC, Nat.zero_add, Nat.reduceAdd, v20]; clear hv v20; go_wp2_with fail
       go_meet
       case rel => exact ⟨true, rfl, hS, (by show _ ↔ _; simp; omega)⟩
      ·have hle3 : p * 1 < 1 * q := by omega
       by_cases ha0 : a = 0
       ·have HZ3 : Hid (((l1 : Int) == 0) = true) := by show _ = _; rw [HZ3.out]; simp [ha0]
        by_cases hp0 : p = 0
        ·have HZ1 : Hid (decide (0 < k1) = false) := by show _ = _; have := HZ1.out; simp [hp0] at this; simp [this]
         refine region_inv (PhiB4 w.heap.size (w.heap.size + 1) (.agg #[.slice A1 k1 c1, .slice A2 k2 c2]) (.agg #[.slice B1 l1 d1, .slice B2 l2 d2]) (.slice A1 k1 c1) (.slice B1 l1 d1) k1 l1) (fun w w' => Below w.heap.size w w') (fun W => Below W2.heap.size W2 W) (by kernel_rfl) (by kernel_rfl) (by kernel_rfl) PhiB4.keep (fun _ _ hR hS => Below.tr hS hR) (bD _) ?_ ?_
         ·refine sK ?_ (sK ?_ (sK ?_ (sK ?_ (sK ?_ (sK ?_ (sK ?_ (sK ?_ (sK ?_ (sK ?_ (sK ?_ (sK ?_ (sK ?_ (sK ?_ (sK ?_ (sK ?_ (sK ?_ (sK ?_ (sK ?_ (sK ?_ (sK ?_ (sZ)))))))))))))))))))))
          ·intro vs W hS hdep K hK; refine ⟨?_⟩; simp only [fillR, Act.put, sA, sB, sC, Nat.zero_add, Nat.reduceAdd] at hK ⊢; go_simp; refine (unit_n _).mono ?_; rintro e w' ⟨v, rfl, hr, hb⟩; go_wp2_with fail; with_reducible refine hK _ _ hb ?_
           exact hr
          ·intro vs W hS hdep K hK; have f1 := (hx1.below hS).facts.1; have f2 := (hx1.below hS).facts.2; have f3 := (hx2.below hS).facts.1; have f4 := (hx2.below hS).facts.2; refine ⟨?_⟩; simp only [fillR, Act.put, sA, sB, sC, Nat.zero_add, Nat.reduceAdd] at hK ⊢; go_simp; with_reducible refine hK _ _ (Below.refl _ _) ?_
           exact rfl
          ·intro vs W hS hdep K hK; have d0 := hdep ⟨1, .data⟩ (by simp) rfl; simp only [PhiB4] at d0; have d1 := hdep ⟨0, .data⟩ (by simp) rfl; simp only [PhiB4] at d1; have r1 := d1; clear d1; refine ⟨?_⟩; simp only [fillR, Act.put, sA, sB, sC, Nat.zero_add, Nat.reduceAdd, d0] at hK ⊢; go_simp; refine (most_f _ _ 1 1 a b _ r1 (hrb.below hS) Good_one gb hle2).mono ?_; rintro e w' ⟨rfl, hb⟩; go_wp2_with fail; with_reducible refine hK _ _ hb ?_
           exact rfl
          ·intro vs W hS hdep K hK; have d0 := hdep ⟨2, .data⟩ (by simp) rfl; simp only [PhiB4] at d0; refine ⟨?_⟩; simp only [fillR, Act.put, sA, sB, sC, Nat.zero_add, Nat.reduceAdd, d0] at hK ⊢; go_simp; with_reducible refine hK _ _ (Below.refl _ _) ?_
           exact rfl
          ·intro vs W hS hdep K hK; have d0 := hdep ⟨3, .data⟩ (by simp) rfl; simp only [PhiB4] at d0; refine ⟨?_⟩; simp only [fillR, Act.put, sA, sB, sC, Nat.zero_add, Nat.reduceAdd, d0] at hK ⊢; go_simp; with_reducible refine hK _ _ (Below.refl _ _) ?_
           exact rfl
          ·intro vs W hS hdep K hK; have d0 := hdep ⟨4, .guard⟩ (by simp) rfl; simp only [PhiB4] at d0; refine ⟨?_⟩; simp only [fillR, Act.put, sA, sB, sC, Nat.zero_add, Nat.reduceAdd, d0] at hK ⊢; go_simp; refine (unit_n _).mono ?_; rintro e w' ⟨v, rfl, hr, hb⟩; go_wp2_with fail; with_reducible refine hK _ _ hb ?_
           exact hr
          ·intro vs W hS hdep K hK; have d0 := hdep ⟨4, .guard⟩ (by simp) rfl; simp only [PhiB4] at d0; have f1 := (hx1.below hS).facts.1; have f2 := (hx1.below hS).facts.2; have f3 := (hx2.below hS).facts.1; have f4 := (hx2.below hS).facts.2; refine ⟨?_⟩; simp only [fillR, Act.put, sA, sB, sC, Nat.zero_add, Nat.reduceAdd, d0] at hK ⊢; go_simp; with_reducible refine hK _ _ (Below.refl _ _) ?_
           exact rfl
          ·intro vs W hS hdep K hK; have d0 := hdep ⟨4, .guard⟩ (by simp) rfl; simp only [PhiB4] at d0; have d1 := hdep ⟨6, .data⟩ (by simp) rfl; simp only [PhiB4] at d1; have d2 := hdep ⟨5, .data⟩ (by simp) rfl; simp only [PhiB4] at d2; have r2 := d2; clear d2; refine ⟨?_⟩; simp only [fillR, Act.put, sA, sB, sC, Nat.zero_add, Nat.reduceAdd, d0, d1] at hK ⊢; go_simp; refine (most_f _ _ 1 1 p q _ r2 (hra.below hS) Good_one ga hle3).mono ?_; rintro e w' ⟨rfl, hb⟩; go_wp2_with fail; with_reducible refine hK _ _ hb ?_
           exact rfl
          ·intro vs W hS hdep K hK; have d0 := hdep ⟨4, .guard⟩ (by simp) rfl; simp only [PhiB4] at d0; have d1 := hdep ⟨7, .data⟩ (by simp) rfl; simp only [PhiB4] at d1; refine ⟨?_⟩; simp only [fillR, Act.put, sA, sB, sC, Nat.zero_add, Nat.reduceAdd, d0, d1] at hK ⊢; go_simp; with_reducible refine hK _ _ (Below.refl _ _) ?_
           exact rfl
          ·intro vs W hS hdep K hK; have d0 := hdep ⟨8, .guard⟩ (by simp) rfl; simp only [PhiB4] at d0; refine ⟨?_⟩; simp only [fillR, Act.put, sA, sB, sC, Nat.zero_add, Nat.reduceAdd, d0] at hK ⊢; go_simp; with_reducible refine hK _ _ (Below.refl _ _) ?_
           exact rfl
          ·intro vs W hS hdep K hK; have d0 := hdep ⟨8, .guard⟩ (by simp) rfl; simp only [PhiB4] at d0; have d1 := hdep ⟨9, .data⟩ (by simp) rfl; simp only [PhiB4] at d1; have f1 := (hx1.below hS).facts.1; have f2 := (hx1.below hS).facts.2; have f3 := (hx2.below hS).facts.1; have f4 := (hx2.below hS).facts.2; refine ⟨?_⟩; simp only [fillR, Act.put, sA, sB, sC, Nat.zero_add, Nat.reduceAdd, d0, d1] at hK ⊢; go_simp; with_reducible refine hK _ _ (Below.refl _ _) ?_
           exact rfl
          ·intro vs W hS hdep K hK; have d0 := hdep ⟨8, .guard⟩ (by simp) rfl; simp only [PhiB4] at d0; have d1 := hdep ⟨10, .data⟩ (by simp) rfl; simp only [PhiB4] at d1; refine ⟨?_⟩; simp only [fillR, Act.put, sA, sB, sC, Nat.zero_add, Nat.reduceAdd, d0, d1] at hK ⊢; go_simp; with_reducible refine hK _ _ (Below.refl _ _) ?_
           exact rfl
          ·intro vs W hS hdep K hK; have d0 := hdep ⟨8, .guard⟩ (by simp) rfl; simp only [PhiB4] at d0; have d1 := hdep ⟨11, .data⟩ (by simp) rfl; simp only [PhiB4] at d1; have z3 := HZ3.out; refine ⟨?_⟩; simp only [fillR, Act.put, sA, sB, sC, Nat.zero_add, Nat.reduceAdd, d0, d1] at hK ⊢; go_simp; with_reducible refine hK _ _ (Below.refl _ _) ?_
           exact rfl
          ·intro vs W hS hdep K hK; have d0 := hdep ⟨8, .guard⟩ (by simp) rfl; simp only [PhiB4] at d0; have d1 := hdep ⟨12, .data⟩ (by simp) rfl; simp only [PhiB4] at d1; refine ⟨?_⟩; simp only [fillR, Act.put, sA, sB, sC, Nat.zero_add, Nat.reduceAdd, d0, d1] at hK ⊢; go_simp; with_reducible refine hK _ _ (Below.refl _ _) ?_
           exact rfl
          ·intro vs W hS hdep K hK; have d0 := hdep ⟨13, .guard⟩ (by simp) rfl; simp only [PhiB4] at d0; refine ⟨?_⟩; simp only [fillR, Act.put, sA, sB, sC, Nat.zero_add, Nat.reduceAdd, d0] at hK ⊢; go_simp; with_reducible refine hK _ _ (Below.refl _ _) ?_
           exact rfl
          ·intro vs W hS hdep K hK; have d0 := hdep ⟨13, .guard⟩ (by simp) rfl; simp only [PhiB4] at d0; have d1 := hdep ⟨14, .data⟩ (by simp) rfl; simp only [PhiB4] at d1; have f1 := (hx1.below hS).facts.1; have f2 := (hx1.below hS).facts.2; have f3 := (hx2.below hS).facts.1; have f4 := (hx2.below hS).facts.2; refine ⟨?_⟩; simp only [fillR, Act.put, sA, sB, sC, Nat.zero_add, Nat.reduceAdd, d0, d1] at hK ⊢; go_simp; with_reducible refine hK _ _ (Below.refl _ _) ?_
           exact rfl
          ·intro vs W hS hdep K hK; have d0 := hdep ⟨13, .guard⟩ (by simp) rfl; simp only [PhiB4] at d0; have d1 := hdep ⟨15, .data⟩ (by simp) rfl; simp only [PhiB4] at d1; refine ⟨?_⟩; simp only [fillR, Act.put, sA, sB, sC, Nat.zero_add, Nat.reduceAdd, d0, d1] at hK ⊢; go_simp; with_reducible refine hK _ _ (Below.refl _ _) ?_
           exact rfl
          ·intro vs W hS hdep K hK; have d0 := hdep ⟨13, .guard⟩ (by simp) rfl; simp only [PhiB4] at d0; have d1 := hdep ⟨16, .data⟩ (by simp) rfl; simp only [PhiB4] at d1; have z1 := HZ1.out; refine ⟨?_⟩; simp only [fillR, Act.put, sA, sB, sC, Nat.zero_add, Nat.reduceAdd, d0, d1] at hK ⊢; go_simp; with_reducible refine hK _ _ (Below.refl _ _) ?_
           exact rfl
          ·intro vs W hS hdep K hK; have d0 := hdep ⟨8, .guard⟩ (by simp) rfl; simp only [PhiB4] at d0; have d1 := hdep ⟨13, .data⟩ (by simp) rfl; simp only [PhiB4] at d1; have d2 := hdep ⟨17, .data⟩ (by simp) rfl; simp only [PhiB4] at d2; refine ⟨?_⟩; simp only [fillR, Act.put, sA, sB, sC, Nat.zero_add, Nat.reduceAdd, d0, d1, d2] at hK ⊢; go_simp; with_reducible refine hK _ _ (Below.refl _ _) ?_
           exact rfl
          ·intro vs W hS hdep K hK; have d0 := hdep ⟨4, .guard⟩ (by simp) rfl; simp only [PhiB4] at d0; have d1 := hdep ⟨8, .data⟩ (by simp) rfl; simp only [PhiB4] at d1; have d2 := hdep ⟨18, .data⟩ (by simp) rfl; simp only [PhiB4] at d2; refine ⟨?_⟩; simp only [fillR, Act.put, sA, sB, sC, Nat.zero_add, Nat.reduceAdd, d0, d1, d2] at hK ⊢; go_simp; with_reducible refine hK _ _ (Below.refl _ _) ?_
           exact rfl
          ·intro vs W hS hdep K hK; have d0 := hdep ⟨4, .data⟩ (by simp) rfl; simp only [PhiB4] at d0; have d1 := hdep ⟨19, .data⟩ (by simp) rfl; simp only [PhiB4] at d1; refine ⟨?_⟩; simp only [fillR, Act.put, sA, sB, sC, Nat.zero_add, Nat.reduceAdd, d0, d1] at hK ⊢; go_simp; with_reducible refine hK _ _ (Below.refl _ _) ?_
           exact rfl
         intro vs W3 hS hv; have v20 := hv 20 (by simp); simp only [PhiB4] at v20; simp only [fillR, Act.put, sA, sB, sC, Nat.zero_add, Nat.reduceAdd, v20]; clear hv v20; go_wp2_with fail
         go_meet
         case rel => exact ⟨false, rfl, hS, (by show _ ↔ _; simp; omega)⟩
        ·have HZ1 : Hid (decide (0 < k1) = true) := by show _ = _; have := HZ1.out; simp [hp0] at this; simp; omega
         refine region_inv (PhiB3 w.heap.size (w.heap.size + 1) (.agg #[.slice A1 k1 c1, .slice A2 k2 c2]) (.agg #[.slice B1 l1 d1, .slice B2 l2 d2]) (.slice A1 k1 c1) (.slice B1 l1 d1) k1 l1) (fun w w' => Below w.heap.size w w') (fun W => Below W2.heap.size W2 W) (by kernel_rfl) (by kernel_rfl) (by kernel_rfl) PhiB3.keep (fun _ _ hR hS => Below.tr hS hR) (bD _) ?_ ?_
         ·refine sK ?_ (sK ?_ (sK ?_ (sK ?_ (sK ?_ (sK ?_ (sK ?_ (sK ?_ (sK ?_ (sK ?_ (sK ?_ (sK ?_ (sK ?_ (sK ?_ (sK ?_ (sK ?_ (sK ?_ (sK ?_ (sK ?_ (sK ?_ (sK ?_ (sZ)))))))))))))))))))))
          ·intro vs W hS hdep K hK; refine ⟨?_⟩; simp only [fillR, Act.put, sA, sB, sC, Nat.zero_add, Nat.reduceAdd] at hK ⊢; go_simp; refine (unit_n _).mono ?_; rintro e w' ⟨v, rfl, hr, hb⟩; go_wp2_with fail; with_reducible refine hK _ _ hb ?_
           exact hr
          ·intro vs W hS hdep K hK; have f1 := (hx1.below hS).facts.1; have f2 := (hx1.below hS).facts.2; have f3 := (hx2.below hS).facts.1; have f4 := (hx2.below hS).facts.2; refine ⟨?_⟩; simp only [fillR, Act.put, sA, sB, sC, Nat.zero_add, Nat.reduceAdd] at hK ⊢; go_simp; with_reducible refine hK _ _ (Below.refl _ _) ?_
           exact rfl
          ·intro vs W hS hdep K hK; have d0 := hdep ⟨1, .data⟩ (by simp) rfl; simp only [PhiB3] at d0; have d1 := hdep ⟨0, .data⟩ (by simp) rfl; simp only [PhiB3] at d1; have r1 := d1; clear d1; refine ⟨?_⟩; simp only [fillR, Act.put, sA, sB, sC, Nat.zero_add, Nat.reduceAdd, d0] at hK ⊢; go_simp; refine (most_f _ _ 1 1 a b _ r1 (hrb.below hS) Good_one gb hle2).mono ?_; rintro e w' ⟨rfl, hb⟩; go_wp2_with fail; with_reducible refine hK _ _ hb ?_
           exact rfl
          ·intro vs W hS hdep K hK; have d0 := hdep ⟨2, .data⟩ (by simp) rfl; simp only [PhiB3] at d0; refine ⟨?_⟩; simp only [fillR, Act.put, sA, sB, sC, Nat.zero_add, Nat.reduceAdd, d0] at hK ⊢; go_simp; with_reducible refine hK _ _ (Below.refl _ _) ?_
           exact rfl
          ·intro vs W hS hdep K hK; have d0 := hdep ⟨3, .data⟩ (by simp) rfl; simp only [PhiB3] at d0; refine ⟨?_⟩; simp only [fillR, Act.put, sA, sB, sC, Nat.zero_add, Nat.reduceAdd, d0] at hK ⊢; go_simp; with_reducible refine hK _ _ (Below.refl _ _) ?_
           exact rfl
          ·intro vs W hS hdep K hK; have d0 := hdep ⟨4, .guard⟩ (by simp) rfl; simp only [PhiB3] at d0; refine ⟨?_⟩; simp only [fillR, Act.put, sA, sB, sC, Nat.zero_add, Nat.reduceAdd, d0] at hK ⊢; go_simp; refine (unit_n _).mono ?_; rintro e w' ⟨v, rfl, hr, hb⟩; go_wp2_with fail; with_reducible refine hK _ _ hb ?_
           exact hr
          ·intro vs W hS hdep K hK; have d0 := hdep ⟨4, .guard⟩ (by simp) rfl; simp only [PhiB3] at d0; have f1 := (hx1.below hS).facts.1; have f2 := (hx1.below hS).facts.2; have f3 := (hx2.below hS).facts.1; have f4 := (hx2.below hS).facts.2; refine ⟨?_⟩; simp only [fillR, Act.put, sA, sB, sC, Nat.zero_add, Nat.reduceAdd, d0] at hK ⊢; go_simp; with_reducible refine hK _ _ (Below.refl _ _) ?_
           exact rfl
          ·intro vs W hS hdep K hK; have d0 := hdep ⟨4, .guard⟩ (by simp) rfl; simp only [PhiB3] at d0; have d1 := hdep ⟨6, .data⟩ (by simp) rfl; simp only [PhiB3] at d1; have d2 := hdep ⟨5, .data⟩ (by simp) rfl; simp only [PhiB3] at d2; have r2 := d2; clear d2; refine ⟨?_⟩; simp only [fillR, Act.put, sA, sB, sC, Nat.zero_add, Nat.reduceAdd, d0, d1] at hK ⊢; go_simp; refine (most_f _ _ 1 1 p q _ r2 (hra.below hS) Good_one ga hle3).mono ?_; rintro e w' ⟨rfl, hb⟩; go_wp2_with fail; with_reducible refine hK _ _ hb ?_
           exact rfl
          ·intro vs W hS hdep K hK; have d0 := hdep ⟨4, .guard⟩ (by simp) rfl; simp only [PhiB3] at d0; have d1 := hdep ⟨7, .data⟩ (by simp) rfl; simp only [PhiB3] at d1; refine ⟨?_⟩; simp only [fillR, Act.put, sA, sB, sC, Nat.zero_add, Nat.reduceAdd, d0, d1] at hK ⊢; go_simp; with_reducible refine hK _ _ (Below.refl _ _) ?_
           exact rfl
          ·intro vs W hS hdep K hK; have d0 := hdep ⟨8, .guard⟩ (by simp) rfl; simp only [PhiB3] at d0; refine ⟨?_⟩; simp only [fillR, Act.put, sA, sB, sC, Nat.zero_add, Nat.reduceAdd, d0] at hK ⊢; go_simp; with_reducible refine hK _ _ (Below.refl _ _) ?_
           exact rfl
          ·intro vs W hS hdep K hK; have d0 := hdep ⟨8, .guard⟩ (by simp) rfl; simp only [PhiB3] at d0; have d1 := hdep ⟨9, .data⟩ (by simp) rfl; simp only [PhiB3] at d1; have f1 := (hx1.below hS).facts.1; have f2 := (hx1.below hS).facts.2; have f3 := (hx2.below hS).facts.1; have f4 := (hx2.below hS).facts.2; refine ⟨?_⟩; simp only [fillR, Act.put, sA, sB, sC, Nat.zero_add, Nat.reduceAdd, d0, d1] at hK ⊢; go_simp; with_reducible refine hK _ _ (Below.refl _ _) ?_
           exact rfl
          ·intro vs W hS hdep K hK; have d0 := hdep ⟨8, .guard⟩ (by simp) rfl; simp only [PhiB3] at d0; have d1 := hdep ⟨10, .data⟩ (by simp) rfl; simp only [PhiB3] at d1; refine ⟨?_⟩; simp only [fillR, Act.put, sA, sB, sC, Nat.zero_add, Nat.reduceAdd, d0, d1] at hK ⊢; go_simp; with_reducible refine hK _ _ (Below.refl _ _) ?_
           exact rfl
          ·intro vs W hS hdep K hK; have d0 := hdep ⟨8, .guard⟩ (by simp) rfl; simp only [PhiB3] at d0; have d1 := hdep ⟨11, .data⟩ (by simp) rfl; simp only [PhiB3] at d1; have z3 := HZ3.out; refine ⟨?_⟩; simp only [fillR, Act.put, sA, sB, sC, Nat.zero_add, Nat.reduceAdd, d0, d1] at hK ⊢; go_simp; with_reducible refine hK _ _ (Below.refl _ _) ?_
           exact rfl
          ·intro vs W hS hdep K hK; have d0 := hdep ⟨8, .guard⟩ (by simp) rfl; simp only [PhiB3] at d0; have d1 := hdep ⟨12, .data⟩ (by simp) rfl; simp only [PhiB3] at d1; refine ⟨?_⟩; simp only [fillR, Act.put, sA, sB, sC, Nat.zero_add, Nat.reduceAdd, d0, d1] at hK ⊢; go_simp; with_reducible refine hK _ _ (Below.refl _ _) ?_
           exact rfl
          ·intro vs W hS hdep K hK; have d0 := hdep ⟨13, .guard⟩ (by simp) rfl; simp only [PhiB3] at d0; refine ⟨?_⟩; simp only [fillR, Act.put, sA, sB, sC, Nat.zero_add, Nat.reduceAdd, d0] at hK ⊢; go_simp; with_reducible refine hK _ _ (Below.refl _ _) ?_
           exact rfl
          ·intro vs W hS hdep K hK; have d0 := hdep ⟨13, .guard⟩ (by simp) rfl; simp only [PhiB3] at d0; have d1 := hdep ⟨14, .data⟩ (by simp) rfl; simp only [PhiB3] at d1; have f1 := (hx1.below hS).facts.1; have f2 := (hx1.below hS).facts.2; have f3 := (hx2.below hS).facts.1; have f4 := (hx2.below hS).facts.2; refine ⟨?_⟩; simp only [fillR, Act.put, sA, sB, sC, Nat.zero_add, Nat.reduceAdd, d0, d1] at hK ⊢; go_simp; with_reducible refine hK _ _ (Below.refl _ _) ?_
           exact rfl
          ·intro vs W hS hdep K hK; have d0 := hdep ⟨13, .guard⟩ (by simp) rfl; simp only [PhiB3] at d0; have d1 := hdep ⟨15, .data⟩ (by simp) rfl; simp only [PhiB3] at d1; refine ⟨?_⟩; simp only [fillR, Act.put, sA, sB, sC, Nat.zero_add, Nat.reduceAdd, d0, d1] at hK ⊢; go_simp; with_reducible refine hK _ _ (Below.refl _ _) ?_
           exact rfl
          ·intro vs W hS hdep K hK; have d0 := hdep ⟨13, .guard⟩ (by simp) rfl; simp only [PhiB3] at d0; have d1 := hdep ⟨16, .data⟩ (by simp) rfl; simp only [PhiB3] at d1; have z1 := HZ1.out; refine ⟨?_⟩; simp only [fillR, Act.put, sA, sB, sC, Nat.zero_add, Nat.reduceAdd, d0, d1] at hK ⊢; go_simp; with_reducible refine hK _ _ (Below.refl _ _) ?_
           exact rfl
          ·intro vs W hS hdep K hK; have d0 := hdep ⟨8, .guard⟩ (by simp) rfl; simp only [PhiB3] at d0; have d1 := hdep ⟨13, .data⟩ (by simp) rfl; simp only [PhiB3] at d1; have d2 := hdep ⟨17, .data⟩ (by simp) rfl; simp only [PhiB3] at d2; refine ⟨?_⟩; simp only [fillR, Act.put, sA, sB, sC, Nat.zero_add, Nat.reduceAdd, d0, d1, d2] at hK ⊢; go_simp; with_reducible refine hK _ _ (Below.refl _ _) ?_
           exact rfl
          ·intro vs W hS hdep K hK; have d0 := hdep ⟨4, .guard⟩ (by simp) rfl; simp only [PhiB3] at d0; have d1 := hdep ⟨8, .data⟩ (by simp) rfl; simp only [PhiB3] at d1; have d2 := hdep ⟨18, .data⟩ (by simp) rfl; simp only [PhiB3] at d2; refine ⟨?_⟩; simp only [fillR, Act.put, sA, sB, sC, Nat.zero_add, Nat.reduceAdd, d0, d1, d2] at hK ⊢; go_simp; with_reducible refine hK _ _ (Below.refl _ _) ?_
           exact rfl
          ·intro vs W hS hdep K hK; have d0 := hdep ⟨4, .data⟩ (by simp) rfl; simp only [PhiB3] at d0; have d1 := hdep ⟨19, .data⟩ (by simp) rfl; simp only [PhiB3] at d1; refine ⟨?_⟩; simp only [fillR, Act.put, sA, sB, sC, Nat.zero_add, Nat.reduceAdd, d0, d1] at hK ⊢; go_simp; with_reducible refine hK _ _ (Below.refl _ _) ?_
           exact rfl
         intro vs W3 hS hv; have v20 := hv 20 (by simp); simp only [PhiB3] at v20; simp only [fillR, Act.put, sA, sB, sC, Nat.zero_add, Nat.reduceAdd, v20]; clear hv v20; go_wp2_with fail
         go_meet
         case rel => exact ⟨true, rfl, hS, (by show _ ↔ _; simp; omega)⟩
       ·have HZ3 : Hid (((l1 : Int) == 0) = false) := by show _ = _; rw [HZ3.out]; simp [ha0]
        refine region_inv (PhiB5 w.heap.size (w.heap.size + 1) (.agg #[.slice A1 k1 c1, .slice A2 k2 c2]) (.agg #[.slice B1 l1 d1, .slice B2 l2 d2]) (.slice A1 k1 c1) (.slice B1 l1 d1) k1 l1) (fun w w' => Below w.heap.size w w') (fun W => Below W2.heap.size W2 W) (by kernel_rfl) (by kernel_rfl) (by kernel_rfl) PhiB5.keep (fun _ _ hR hS => Below.tr hS hR) (bD _) ?_ ?_
        ·refine sK ?_ (sK ?_ (sK ?_ (sK ?_ (sK ?_ (sK ?_ (sK ?_ (sK ?_ (sK ?_ (sK ?_ (sK ?_ (sK ?_ (sK ?_ (sK ?_ (sK ?_ (sK ?_ (sK ?_ (sK ?_ (sK ?_ (sK ?_ (sK ?_ (sZ)))))))))))))))))))))
         ·intro vs W hS hdep K hK; refine ⟨?_⟩; simp only [fillR, Act.put, sA, sB, sC, Nat.zero_add, Nat.reduceAdd] at hK ⊢; go_simp; refine (unit_n _).mono ?_; rintro e w' ⟨v, rfl, hr, hb⟩; go_wp2_with fail; with_reducible refine hK _ _ hb ?_
          exact hr
         ·intro vs W hS hdep K hK; have f1 := (hx1.below hS).facts.1; have f2 := (hx1.below hS).facts.2; have f3 := (hx2.below hS).facts.1; have f4 := (hx2.below hS).facts.2; refine ⟨?_⟩; simp only [fillR, Act.put, sA, sB, sC, Nat.zero_add, Nat.reduceAdd] at hK ⊢; go_simp; with_reducible refine hK _ _ (Below.refl _ _) ?_
          exact rfl
         ·intro vs W hS hdep K hK; have d0 := hdep ⟨1, .data⟩ (by simp) rfl; simp only [PhiB5] at d0; have d1 := hdep ⟨0, .data⟩ (by simp) rfl; simp only [PhiB5] at d1; have r1 := d1; clear d1; refine ⟨?_⟩; simp only [fillR, Act.put, sA, sB, sC, Nat.zero_add, Nat.reduceAdd, d0] at hK ⊢; go_simp; refine (most_f _ _ 1 1 a b _ r1 (hrb.below hS) Good_one gb hle2).mono ?_; rintro e w' ⟨rfl, hb⟩; go_wp2_with fail; with_reducible refine hK _ _ hb ?_
          exact rfl
         ·intro vs W hS hdep K hK; have d0 := hdep ⟨2, .data⟩ (by simp) rfl; simp only [PhiB5] at d0; refine ⟨?_⟩; simp only [fillR, Act.put, sA, sB, sC, Nat.zero_add, Nat.reduceAdd, d0] at hK ⊢; go_simp; with_reducible refine hK _ _ (Below.refl _ _) ?_
          exact rfl
         ·intro vs W hS hdep K hK; have d0 := hdep ⟨3, .data⟩ (by simp) rfl; simp only [PhiB5] at d0; refine ⟨?_⟩; simp only [fillR, Act.put, sA, sB, sC, Nat.zero_add, Nat.reduceAdd, d0] at hK ⊢; go_simp; with_reducible refine hK _ _ (Below.refl _ _) ?_
          exact rfl
         ·intro vs W hS hdep K hK; have d0 := hdep ⟨4, .guard⟩ (by simp) rfl; simp only [PhiB5] at d0; refine ⟨?_⟩; simp only [fillR, Act.put, sA, sB, sC, Nat.zero_add, Nat.reduceAdd, d0] at hK ⊢; go_simp; refine (unit_n _).mono ?_; rintro e w' ⟨v, rfl, hr, hb⟩; go_wp2_with fail; with_reducible refine hK _ _ hb ?_
          exact hr
         ·intro vs W hS hdep K hK; have d0 := hdep ⟨4, .guard⟩ (by simp) rfl; simp only [PhiB5] at d0; have f1 := (hx1.below hS).facts.1; have f2 := (hx1.below hS).facts.2; have f3 := (hx2.below hS).facts.1; have f4 := (hx2.below hS).facts.2; refine ⟨?_⟩; simp only [fillR, Act.put, sA, sB, sC, Nat.zero_add, Nat.reduceAdd, d0] at hK ⊢; go_simp; with_reducible refine hK _ _ (Below.refl _ _) ?_
          exact rfl
         ·intro vs W hS hdep K hK; have d0 := hdep ⟨4, .guard⟩ (by simp) rfl; simp only [PhiB5] at d0; have d1 := hdep ⟨6, .data⟩ (by simp) rfl; simp only [PhiB5] at d1; have d2 := hdep ⟨5, .data⟩ (by simp) rfl; simp only [PhiB5] at d2; have r2 := d2; clear d2; refine ⟨?_⟩; simp only [fillR, Act.put, sA, sB, sC, Nat.zero_add, Nat.reduceAdd, d0, d1] at hK ⊢; go_simp; refine (most_f _ _ 1 1 p q _ r2 (hra.below hS) Good_one ga hle3).mono ?_; rintro e w' ⟨rfl, hb⟩; go_wp2_with fail; with_reducible refine hK _ _ hb ?_
          exact rfl
         ·intro vs W hS hdep K hK; have d0 := hdep ⟨4, .guard⟩ (by simp) rfl; simp only [PhiB5] at d0; have d1 := hdep ⟨7, .data⟩ (by simp) rfl; simp only [PhiB5] at d1; refine ⟨?_⟩; simp only [fillR, Act.put, sA, sB, sC, Nat.zero_add, Nat.reduceAdd, d0, d1] at hK ⊢; go_simp; with_reducible refine hK _ _ (Below.refl _ _) ?_
          exact rfl
         ·intro vs W hS hdep K hK; have d0 := hdep ⟨8, .guard⟩ (by simp) rfl; simp only [PhiB5] at d0; refine ⟨?_⟩; simp only [fillR, Act.put, sA, sB, sC, Nat.zero_add, Nat.reduceAdd, d0] at hK ⊢; go_simp; with_reducible refine hK _ _ (Below.refl _ _) ?_
          exact rfl
         ·intro vs W hS hdep K hK; have d0 := hdep ⟨8, .guard⟩ (by simp) rfl; simp only [PhiB5] at d0; have d1 := hdep ⟨9, .data⟩ (by simp) rfl; simp only [PhiB5] at d1; have f1 := (hx1.below hS).facts.1; have f2 := (hx1.below hS).facts.2; have f3 := (hx2.below hS).facts.1; have f4 := (hx2.below hS).facts.2; refine ⟨?_⟩; simp only [fillR, Act.put, sA, sB, sC, Nat.zero_add, Nat.reduceAdd, d0, d1] at hK ⊢; go_simp; with_reducible refine hK _ _ (Below.refl _ _) ?_
          exact rfl
         ·intro vs W hS hdep K hK; have d0 := hdep ⟨8, .guard⟩ (by simp) rfl; simp only [PhiB5] at d0; have d1 := hdep ⟨10, .data⟩ (by simp) rfl; simp only [PhiB5] at d1; refine ⟨?_⟩; simp only [fillR, Act.put, sA, sB, sC, Nat.zero_add, Nat.reduceAdd, d0, d1] at hK ⊢; go_simp; with_reducible refine hK _ _ (Below.refl _ _) ?_
          exact rfl
         ·intro vs W hS hdep K hK; have d0 := hdep ⟨8, .guard⟩ (by simp) rfl; simp only [PhiB5] at d0; have d1 := hdep ⟨11, .data⟩ (by simp) rfl; simp only [PhiB5] at d1; have z3 := HZ3.out; refine ⟨?_⟩; simp only [fillR, Act.put, sA, sB, sC, Nat.zero_add, Nat.reduceAdd, d0, d1] at hK ⊢; go_simp; with_reducible refine hK _ _ (Below.refl _ _) ?_
          exact rfl
         ·intro vs W hS hdep K hK; have d0 := hdep ⟨8, .guard⟩ (by simp) rfl; simp only [PhiB5] at d0; have d1 := hdep ⟨12, .data⟩ (by simp) rfl; simp only [PhiB5] at d1; refine ⟨?_⟩; simp only [fillR, Act.put, sA, sB, sC, Nat.zero_add, Nat.reduceAdd, d0, d1] at hK ⊢; go_simp; with_reducible refine hK _ _ (Below.refl _ _) ?_
          exact rfl
         ·intro vs W hS hdep K hK; have d0 := hdep ⟨13, .guard⟩ (by simp) rfl; simp only [PhiB5] at d0; refine ⟨?_⟩; simp only [fillR, Act.put, sA, sB, sC, Nat.zero_add, Nat.reduceAdd, d0] at hK ⊢; go_simp; with_reducible refine hK _ _ (Below.refl _ _) ?_
          exact rfl
         ·intro vs W hS hdep K hK; have d0 := hdep ⟨13, .guard⟩ (by simp) rfl; simp only [PhiB5] at d0; refine ⟨?_⟩; simp only [fillR, Act.put, sA, sB, sC, Nat.zero_add, Nat.reduceAdd, d0] at hK ⊢; go_simp; with_reducible refine hK _ _ (Below.refl _ _) ?_
          exact rfl
         ·intro vs W hS hdep K hK; have d0 := hdep ⟨13, .guard⟩ (by simp) rfl; simp only [PhiB5] at d0; refine ⟨?_⟩; simp only [fillR, Act.put, sA, sB, sC, Nat.zero_add, Nat.reduceAdd, d0] at hK ⊢; go_simp; with_reducible refine hK _ _ (Below.refl _ _) ?_
          exact rfl
         ·intro vs W hS hdep K hK; have d0 := hdep ⟨13, .guard⟩ (by simp) rfl; simp only [PhiB5] at d0; refine ⟨?_⟩; simp only [fillR, Act.put, sA, sB, sC, Nat.zero_add, Nat.reduceAdd, d0] at hK ⊢; go_simp; with_reducible refine hK _ _ (Below.refl _ _) ?_
          exact rfl
         ·intro vs W hS hdep K hK; have d0 := hdep ⟨8, .guard⟩ (by simp) rfl; simp only [PhiB5] at d0; have d1 := hdep ⟨13, .data⟩ (by simp) rfl; simp only [PhiB5] at d1; refine ⟨?_⟩; simp only [fillR, Act.put, sA, sB, sC, Nat.zero_add, Nat.reduceAdd, d0, d1] at hK ⊢; go_simp; with_reducible refine hK _ _ (Below.refl _ _) ?_
          exact rfl
         ·intro vs W hS hdep K hK; have d0 := hdep ⟨4, .guard⟩ (by simp) rfl; simp only [PhiB5] at d0; have d1 := hdep ⟨8, .data⟩ (by simp) rfl; simp only [PhiB5] at d1; have d2 := hdep ⟨18, .data⟩ (by simp) rfl; simp only [PhiB5] at d2; refine ⟨?_⟩; simp only [fillR, Act.put, sA, sB, sC, Nat.zero_add, Nat.reduceAdd, d0, d1, d2] at hK ⊢; go_simp; with_reducible refine hK _ _ (Below.refl _ _) ?_
          exact rfl
         ·intro vs W hS hdep K hK; have d0 := hdep ⟨4, .data⟩ (by simp) rfl; simp only [PhiB5] at d0; have d1 := hdep ⟨19, .data⟩ (by simp) rfl; simp only [PhiB5] at d1; refine ⟨?_⟩; simp only [fillR, Act.put, sA, sB, sC, Nat.zero_add, Nat.reduceAdd, d0, d1] at hK ⊢; go_simp; with_reducible refine hK _ _ (Below.refl _ _) ?_
          exact rfl
        intro vs W3 hS hv; have v20 := hv 20 (by simp); simp only [PhiB5] at v20; simp only [fillR, Act.put, sA, sB, sC, Nat.zero_add, Nat.reduceAdd, v20]; clear hv v20; go_wp2_with fail
        go_meet
        case rel => exact ⟨false, rfl, hS, (by show _ ↔ _; simp; omega)⟩
    case rest => as_aux_lemma =>
     obtain ⟨r, rfl, hS, HR⟩ := hcut; have hx1 := hx1.below hS; have hx2 := hx2.below hS; have hra := hra.below hS; have hrb := hrb.below hS; have hbw := Below.tr hbw hS; clear hS HZ1 HZ3
     cases r
     ·have HC : Hid (¬ (a < b ∧ (p = q ∨ (a = 0 ∧ 0 < p)))) := fun h => absurd (HR.out.2 h) (by simp)
      clear HR; go_wp2_with fail; refine (unit_n _).mono ?_; rintro e w9 ⟨v, rfl, hu, hb9⟩; obtain ⟨D1, m1, o1, D2, m2, o2, rfl⟩ := hu.shape; have hx1 := hx1.below hb9; have hx2 := hx2.below hb9; have hra := hra.below hb9; have hrb := hrb.below hb9; have hbw := Below.tr hbw hb9; clear hb9; have hD := Box.below (w := w9.alloc (.cells #[.slice D1 m1 o1, .slice D2 m2 o2] 24)) (g := w9.heap.size) (Blk.new _ _ _) (Below.refl _ _); go_wp2_with fail
      go_loopg [10] 2049 (fun j x wr => ∃ (n : Nat) (A : Option Addr) (k c : Nat) (A' : Option Addr) (k' c' : Nat), x = .int .i64 n ∧ Box wr w9.heap.size (.slice A k c) (.slice A' k' c') ∧ Rat wr (.agg #[.slice A k c, .slice A' k' c']) (p ^ n) (q ^ n) ∧ Hid (Nm.Fits (p ^ n) (q ^ n)) ∧ Hid (∀ m, 1 ≤ m → m < n → ¬ Nm.Stop p q a b m) ∧ Hid (1 ≤ n → a < b) ∧ n + j = 2049 ∧ n ≤ 2048 ∧ Below w9.heap.size w9 wr)
      case atStart => exact ⟨0, D1, m1, o1, D2, m2, o2, rfl, hD, by rw [Nat.pow_zero, Nat.pow_zero]; exact hu.below (bA _ _), by show Nm.Fits _ _; rw [Nat.pow_zero, Nat.pow_zero]; exact Good_one.fits, fun m h1 h2 => by omega, fun h => by omega, rfl, by omega, bA _ _⟩
      case round =>
       clear hD hu; obtain ⟨n, A, k, c, A', k', c', rfl, hD, hu, HF, HS, HAB, hnj, hn, hbe⟩ := hrel; have hx1 := hx1.below hbe; have hx2 := hx2.below hbe; have hra := hra.below hbe; have hrb := hrb.below hbe; obtain ⟨f1, f2⟩ := hx1.facts; obtain ⟨f3, f4⟩ := hx2.facts; obtain ⟨f5, f6⟩ := hD.facts; have GP := ga.pow HF.out; obtain ⟨P, HP⟩ : ∃ P, Hid (P = p ^ n) := ⟨_, rfl⟩; obtain ⟨Q, HQ⟩ : ∃ Q, Hid (Q = q ^ n) := ⟨_, rfl⟩; rw [← HP.out, ← HQ.out] at hu GP; by_cases hle : P * b ≤ a * Q
       ·have HR : Hid (Nm.RetP p q a b n 0) := by
         rcases Nat.eq_zero_or_pos n with rfl | hn0
         ·rw [HP.out, HQ.out, Nat.pow_zero, Nat.pow_zero] at hle; exact .inr (.inl ⟨hpq, by omega, rfl, rfl⟩)
         ·rw [HP.out, HQ.out] at hle; exact .inr (.inr (.inr ⟨hpq, HAB.out hn0, fun h => HC.out ⟨HAB.out hn0, h⟩, n, hn0, HS.out, .inr ⟨HF.out, hle, rfl, rfl⟩⟩))
        go_wp2_with fail; refine (most_t _ _ P Q a b _ hu hrb GP gb hle).mono ?_; rintro e w10 ⟨rfl, hb10⟩; go_wp2_with fail
        go_ret2
        exact ⟨_, _, rfl, HRA.out _ _ HR.out, Below.tr hbw (Below.tr hbe hb10)⟩
       ·have hlt : a * Q < P * b := by omega
        have HAB2 : Hid (a < b) := by
         rcases Nat.eq_zero_or_pos n with rfl | hn0
         ·rw [HP.out, HQ.out, Nat.pow_zero, Nat.pow_zero] at hlt
          show a < b; omega
         ·exact HAB.out hn0
        have HS2 : Hid (∀ m, 1 ≤ m → m < n + 1 → ¬ Nm.Stop p q a b m) := Nm.RetP.next HS.out HF.out (by rw [← HP.out, ← HQ.out]; exact hlt); have hn1 : n + 1 ≤ 2048 := Nm.no_stop_le ga hpq (fun h => HC.out ⟨HAB2.out, .inl h⟩) HS2.out; clear hle; go_wp2_with fail; refine (most_f _ _ P Q a b _ hu hrb GP gb hlt).mono ?_; rintro e w10 ⟨rfl, hb10⟩; have hx1 := hx1.below hb10; have hx2 := hx2.below hb10; have hra := hra.below hb10; have hrb := hrb.below hb10; have hu := hu.below hb10; have hD := hD.below hb10; obtain ⟨f1, f2⟩ := hx1.facts; obtain ⟨f3, f4⟩ := hx2.facts; obtain ⟨f5, f6⟩ := hD.facts; go_wp2_with fail; refine (mul_n _ _ P Q p q _ hu hra GP ga).mono ?_; rintro e w11 ⟨v, er, rfl, hM, hb11⟩; obtain ⟨E1, n1, s1, E2, n2, s2, rfl⟩ := hM.shape; have hD := hD.below hb11; have hbe := Below.tr hbe (Below.tr hb10 hb11); rw [HP.out, HQ.out] at hM
        rcases hM.pow ga with ⟨hF, rfl, hR⟩ | ⟨hF, rfl⟩
        ·have HF2 := Lib.hid hF; have hD := hD.below (bA w11 (.cells #[.slice E1 n1 s1, .slice E2 n2 s2] 24)); have hR := hR.below (bA w11 (.cells #[.slice E1 n1 s1, .slice E2 n2 s2] 24)); obtain ⟨f5, f6⟩ := hD.facts; have f7 := Blk.frozen hD 0; have f8 := Blk.frozen hD 1; have hR2 := hR.map (hD.sl.keep2 E1 E2 n1 s1 n2 s2); have hD2 := Blk.set_ (Blk.set_ hD 0 (.slice E1 n1 s1)) 1 (.slice E2 n2 s2); have hbe2 := ((Below.tr hbe (bA w11 (.cells #[.slice E1 n1 s1, .slice E2 n2 s2] 24))).setCell (p := ⟨w9.heap.size, 0, none⟩) (Nat.le_refl _) (.slice E1 n1 s1)).setCell (p := ⟨w9.heap.size, 1, none⟩) (Nat.le_refl _) (.slice E2 n2 s2); clear hF hM hR; go_wp2_with fail
         go_roundg (gk - 1)
         case measure => omega
         case rel => exact ⟨n + 1, E1, n1, s1, E2, n2, s2, by go_num, hD2, hR2, HF2, HS2, fun _ => HAB2.out, by omega, hn1, hbe2⟩
        ·have HR : Hid (Nm.RetP p q a b 0 4) := .inr (.inr (.inr ⟨hpq, HAB2.out, fun h => HC.out ⟨HAB2.out, h⟩, n + 1, by omega, HS2.out, .inl ⟨hF, rfl, rfl⟩⟩)); clear hF hM; go_wp2_with fail
         go_ret2
         exact ⟨_, _, rfl, HRA.out _ _ HR.out, Below.tr hbw (Below.tr hbe (bA _ _))⟩
     ·have HC : Hid (a < b ∧ (p = q ∨ (a = 0 ∧ 0 < p))) := HR.out.1 rfl; clear HR; go_wp2_with fail
      go_ret2
      exact ⟨_, _, rfl, HRA.out _ _ (.inr (.inr (.inl ⟨hpq, HC.out.1, HC.out.2, rfl, rfl⟩))), hbw⟩
   ·have hle1 : 1 * q < p * 1 := by omega
    go_wp2_with fail; generalize w.heap.size + 1 + 1 = gp; refine region_inv (PhiA false (.agg #[.slice A1 k1 c1, .slice A2 k2 c2])) (fun w w' => Below w.heap.size w w') (fun W => Below wr.heap.size wr W) (by kernel_rfl) (by kernel_rfl) (by kernel_rfl) PhiA.keep (fun _ _ hR hS => Below.tr hS hR) (bD _) ?_ ?_
    ·refine sK ?_ (sK ?_ (sK ?_ (sK ?_ (sZ))))
     ·intro vs W hS hdep K hK; have f1 := (hx1.below hS).facts.1; have f2 := (hx1.below hS).facts.2; have f3 := (hx2.below hS).facts.1; have f4 := (hx2.below hS).facts.2; refine ⟨?_⟩; simp only [fillR, Act.put, sA, sB, sC, Nat.zero_add, Nat.reduceAdd] at hK ⊢; go_simp; with_reducible refine hK _ _ (Below.refl _ _) ?_
      exact rfl
     ·intro vs W hS hdep K hK; refine ⟨?_⟩; simp only [fillR, Act.put, sA, sB, sC, Nat.zero_add, Nat.reduceAdd] at hK ⊢; go_simp; refine (unit_n _).mono ?_; rintro e w' ⟨v, rfl, hr, hb⟩; go_wp2_with fail; with_reducible refine hK _ _ hb ?_
      exact hr
     ·intro vs W hS hdep K hK; have d0 := hdep ⟨0, .data⟩ (by simp) rfl; simp only [PhiA] at d0; have d1 := hdep ⟨1, .data⟩ (by simp) rfl; simp only [PhiA] at d1; have r1 := d1; clear d1; refine ⟨?_⟩; simp only [fillR, Act.put, sA, sB, sC, Nat.zero_add, Nat.reduceAdd, d0] at hK ⊢; go_simp; refine (most_f _ _ p q 1 1 _ (hra.below hS) r1 ga Good_one hle1).mono ?_; rintro e w' ⟨rfl, hb⟩; go_wp2_with fail; with_reducible refine hK _ _ hb ?_
      exact rfl
     ·intro vs W hS hdep K hK; have d0 := hdep ⟨2, .data⟩ (by simp) rfl; simp only [PhiA] at d0; refine ⟨?_⟩; simp only [fillR, Act.put, sA, sB, sC, Nat.zero_add, Nat.reduceAdd, d0] at hK ⊢; go_simp; with_reducible refine hK _ _ (Below.refl _ _) ?_
      exact rfl
    intro vs W2 hS hv; have v3 := hv 3 (by simp); simp only [PhiA, Bool.not_true, Bool.not_false] at v3; simp only [fillR, Act.put, sA, sB, sC, Nat.zero_add, Nat.reduceAdd, v3]; have hbw := Below.tr hbw hS; clear hv v3; go_wp2_with fail
    go_ret2
    exact ⟨_, _, rfl, HRA.out _ _ (.inl ⟨by omega, rfl, rfl⟩), hbw⟩
  ·by_cases hn1 : n = 1
   ·subst hn1; obtain rfl : gk = 1 := by omega
    have HV := Lib.hid (H1.out rfl); clear H1 H2; go_wp2_with fail; refine (valid_v ((hb1.below hbx).below (bA _ _))).mono ?_; rintro e W3 ⟨E, rfl, HE, hbe⟩; have hbW := Below.tr (Below.tr hbx (bA _ _)) hbe; by_cases hE : E = 0
    ·have HV2 : Hid (Nm.validE L3 L4 = 0) := by show _ = _; rw [← HE.out]; exact hE
     have h0 : (E != 0) = false := by rw [hE]; rfl
     clear hE; go_wp2_with fail
     go_roundg 0
     case measure => omega
     case rel => exact ⟨2, rfl, by omega, hbW, (fun h => by omega), (fun _ => ⟨HV.out, HV2.out⟩)⟩
    ·have h0 : (E != 0) = true := by simpa using hE
     have HF : Hid (Nm.RetA L1 L2 L3 L4 0 E) := by
      have e2 : firstE (Nm.validE L1 L2) (Nm.validE L3 L4) = E := by rw [firstE, if_pos HV.out, ← HE.out]
      exact .inl ⟨by rw [e2]; exact hE, rfl, e2.symm⟩
     clear hE; go_wp2_with fail
     go_ret2
     exact ⟨_, _, rfl, HF, Below.tr hbw hbW⟩
   ·obtain rfl : n = 0 := by omega
    obtain rfl : gk = 2 := by omega
    clear H1 H2; go_wp2_with fail; refine (valid_v ((ha1.below hbx).below (bA _ _))).mono ?_; rintro e W3 ⟨E, rfl, HE, hbe⟩; have hbW := Below.tr (Below.tr hbx (bA _ _)) hbe; by_cases hE : E = 0
    ·have HV2 : Hid (Nm.validE L1 L2 = 0) := by show _ = _; rw [← HE.out]; exact hE
     have h0 : (E != 0) = false := by rw [hE]; rfl
     clear hE; go_wp2_with fail
     go_roundg 1
     case measure => omega
     case rel => exact ⟨1, rfl, by omega, hbW, (fun _ => HV2.out), (fun h => by omega)⟩
    ·have h0 : (E != 0) = true := by simpa using hE
     have HF : Hid (Nm.RetA L1 L2 L3 L4 0 E) := by
      have hE2 := hE; rw [HE.out] at hE2; have e2 : firstE (Nm.validE L1 L2) (Nm.validE L3 L4) = E := by rw [firstE, if_neg hE2, ← HE.out]
      exact .inl ⟨by rw [e2]; exact hE, rfl, e2.symm⟩
     clear hE; go_wp2_with fail
     go_ret2
     exact ⟨_, _, rfl, HF, Below.tr hbw hbW⟩
end Go.Proofs.Yticobffjnjbjiaa
namespace Go.Proofs.Yticobffjnjbjiaa
open Go.RowKit
def sameB (l1 l2 : List Nat) : Bool := decide (l1 = l2)
theorem take_same {l1 l2 : List Nat} {i a b : Nat} (hi : i < l1.length) (hl : l1.length = l2.length) (h : l1.take i = l2.take i) (ha : a = l1.getD i 0) (hb : b = l2.getD i 0) (hab : a = b) : l1.take (i + 1) = l2.take (i + 1) := by
 rw [List.take_succ_eq_append_getElem hi, List.take_succ_eq_append_getElem (by omega), h]
 congr 2
 rw [← Nm.getD_of_lt hi, ← Nm.getD_of_lt (show i < l2.length by omega), ← ha, ← hb, hab]
set_option maxRecDepth 10000 in
set_option maxHeartbeats 400000 in
theorem samel_any (A1 A2 : Option Addr) (k1 c1 k2 c2 : Nat) (l1 l2 : List Nat) (w : World) (h1 : Lim w A1 c1 l1) (h2 : Lim w A2 c2 l2) (e1 : k1 = l1.length) (e2 : k2 = l2.length) :
  Calls Try.prog 86 #[.slice A1 k1 c1, .slice A2 k2 c2] w fun e w' => ∃ b, e = .returned (.bool b) ∧ Hid (b = sameB l1 l2) ∧ Below w.heap.size w w' := by
 have hkb1 : k1 ≤ 9223372036854775807 := by have := h1.2.1; have := h1.2.2.1; omega
 have E1 := Lib.hid e1; have E2 := Lib.hid e2; by_cases hk : k1 = k2
 ·subst hk; clear e1 e2
  go_enter Try.func86, Try.ntmps86
  go_wp2
  go_loopg [5] k1 (fun j x wr => ∃ i : Nat, x = .int .i64 i ∧ i + j = k1 ∧ Hid (l1.take i = l2.take i) ∧ ∃ nq, wr = w.drewN nq)
  case atStart => exact ⟨0, rfl, by omega, by show _ = _; simp, 0, rfl⟩
  case round =>
   obtain ⟨i, rfl, hij, HT, nq, rfl⟩ := hrel; by_cases hi : i < k1
   ·obtain ⟨b1, o1, a, rfl, hca, ha, HA⟩ := h1.get (k := i) (by have := E1.out; omega); obtain ⟨b2, o2, b, rfl, hcb, hb, HB⟩ := h2.get (k := i) (by have := E2.out; omega); by_cases hab : a = b
    ·have HT2 : Hid (l1.take (i + 1) = l2.take (i + 1)) := take_same (by have := E1.out; omega) (by rw [← E1.out, ← E2.out]) HT.out HA.out HB.out hab; have hd : ((a : Int) != (b : Int)) = false := by rw [hab]; simp
     clear hab; go_wp2_with fail
     go_quiet (fail)
     go_wp2_with fail
     go_roundg (gk - 1)
     case measure => omega
     case rel => exact ⟨i + 1, by go_num, by omega, HT2, _, rfl⟩
    ·have hd : ((a : Int) != (b : Int)) = true := by simp; omega
     have HF : Hid (false = sameB l1 l2) := by
      show _ = _; unfold sameB; symm; rw [decide_eq_false_iff_not]
      rintro rfl; exact hab (HA.out.trans HB.out.symm)
     clear hab; go_wp2_with fail
     go_quiet (fail)
     go_wp2_with fail; go_ret; exact ⟨_, rfl, HF, Below.tr (below_drewN _ _) (below_drewN _ _)⟩
   ·obtain rfl : k1 = i := by omega
    have HF : Hid (true = sameB l1 l2) := by
     show _ = _; unfold sameB; symm; rw [decide_eq_true_iff]
     have := HT.out
     rwa [List.take_of_length_le (by rw [← E1.out]; omega), List.take_of_length_le (by rw [← E2.out]; omega)] at this
    go_wp2_with fail; go_ret; exact ⟨_, rfl, HF, below_drewN _ _⟩
 ·have HF : Hid (false = sameB l1 l2) := by
   show _ = _; unfold sameB; symm; rw [decide_eq_false_iff_not]
   rintro rfl; exact hk (e1.trans e2.symm)
  have hd : ((k1 : Int) != (k2 : Int)) = true := by simp; omega
  clear e1 e2 hk
  go_enter Try.func86, Try.ntmps86
  go_wp2
  go_ret; exact ⟨_, rfl, HF, Below.refl _ _⟩
theorem RtL.nb {A1 A2 : Option Addr} {k1 c1 k2 c2 : Nat} {l1 l2 : List Nat} {w : World} (h : RtL w (.agg #[.slice A1 k1 c1, .slice A2 k2 c2]) l1 l2) : Lim w A1 c1 l1 ∧ Lim w A2 c2 l2 ∧ k1 = l1.length ∧ k2 = l2.length := by
 obtain ⟨A1', k1', c1', A2', k2', c2', e, h⟩ := h; simp only [Value.agg.injEq, Array.mk.injEq, List.cons.injEq, Value.slice.injEq, and_true] at e; obtain ⟨⟨rfl, rfl, rfl⟩, rfl, rfl, rfl⟩ := e; exact h
/-- two ratios are one, limb by limb -/
def sameR (l1 l2 l3 l4 : List Nat) : Bool := sameB l1 l3 && sameB l2 l4
set_option maxRecDepth 10000 in
set_option maxHeartbeats 400000 in
theorem same_any (va vb : Value) (L1 L2 L3 L4 : List Nat) (w : World) (ha : RtL w va L1 L2) (hb : RtL w vb L3 L4) :
  Calls Try.prog 45 #[va, vb] w fun e w' => ∃ b, e = .returned (.bool b) ∧ Hid (b = sameR L1 L2 L3 L4) ∧ Below w.heap.size w w' := by
 obtain ⟨A1, k1, c1, A2, k2, c2, rfl⟩ := ha.shape; obtain ⟨B1, l1, d1, B2, l2, d2, rfl⟩ := hb.shape; obtain ⟨W, HW⟩ : ∃ W, Hid (W = (w.alloc (.cells #[.slice A1 k1 c1, .slice A2 k2 c2] 24)).alloc (.cells #[.slice B1 l1 d1, .slice B2 l2 d2] 24)) := ⟨_, rfl⟩; have hbw : Below w.heap.size w W := by rw [HW.out]; exact Below.tr (bA _ _) (bA _ _)
 have hx1 : Box W w.heap.size (.slice A1 k1 c1) (.slice A2 k2 c2) := by rw [HW.out]; exact Box.below (Blk.new w _ _) (bA _ _)
 have hx2 : Box W (w.heap.size + 1) (.slice B1 l1 d1) (.slice B2 l2 d2) := by
  rw [HW.out]; have := Blk.new (w.alloc (.cells #[.slice A1 k1 c1, .slice A2 k2 c2] 24)) 24 #[.slice B1 l1 d1, .slice B2 l2 d2]; unfold Box; simpa using this
 obtain ⟨a1, a2, a3, a4⟩ := (ha.below hbw).nb; obtain ⟨b1, b2, b3, b4⟩ := (hb.below hbw).nb; have A3 := Lib.hid a3; have A4 := Lib.hid a4; have B3 := Lib.hid b3; have B4 := Lib.hid b4; clear a3 a4 b3 b4
 go_enter Try.func45, Try.ntmps45
 go_wp2_with fail; rw [← HW.out]; refine (samel_any _ _ _ _ _ _ L1 L3 _ a1 b1 A3.out B3.out).mono ?_; rintro e W2 ⟨x, rfl, HX, hbe⟩; obtain ⟨f1, f2⟩ := (hx1.below hbe).facts; obtain ⟨f3, f4⟩ := (hx2.below hbe).facts
 cases x
 ·go_wp2_with fail; go_ret; exact ⟨_, rfl, by show _ = _; unfold sameR; rw [← HX.out]; rfl, Below.tr hbw hbe⟩
 ·go_wp2_with fail; refine (samel_any _ _ _ _ _ _ L2 L4 _ (a2.below hbe) (b2.below hbe) A4.out B4.out).mono ?_; rintro e W3 ⟨y, rfl, HY, hbe3⟩; go_wp2_with fail; go_ret; exact ⟨_, rfl, by show _ = _; unfold sameR; rw [← HX.out, ← HY.out]; simp, Below.tr hbw (Below.tr hbe hbe3)⟩
end Go.Proofs.Yticobffjnjbjiaa
namespace Go.Proofs.Yticobffjnjbjiaa
open Go.RowKit
def PhiC (va : Value) (CC : Int) (g : Bool) (j : Nat) (w : World) (x : Value) : Prop :=
 match j with
 | 0 => x = va
 | 1 => Rat w x 1 1
 | 2 => x = .int .i64 CC
 | 3 => x = .bool g
 | _ => True
theorem PhiC.keep {va : Value} {CC : Int} {g : Bool} : ∀ (w w' : World), Below w.heap.size w w' → ∀ j x, PhiC va CC g j w x → PhiC va CC g j w' x := by
 intro w w' hb j x h; unfold PhiC at h ⊢
 split <;> simp only at h ⊢ <;> first | exact h | exact h.below hb
theorem sameR_unit {p q : Nat} (g : Nm.Good p q) : sameR (Nm.lb p) (Nm.lb (Nm.dn q)) (Nm.lb 1) (Nm.lb (Nm.dn 1)) = decide (p = q) := by
 unfold sameR sameB; rw [Bool.eq_iff_iff]; simp only [Bool.and_eq_true, decide_eq_true_eq]
 constructor
 ·rintro ⟨h1, h2⟩; rw [Nm.lb_inj h1, Nm.dn_inj g.pos (by omega) (Nm.lb_inj h2)]
 ·rintro rfl; have := g.gcd; rw [Nat.gcd_self] at this; rw [this]; exact ⟨rfl, rfl⟩
def PhiE1 (b1 b2 : Nat) (va s1 s3 : Value) (k1 k3 : Nat) (j : Nat) (w : World) (x : Value) : Prop :=
 match j with
 | 0 => x = va
 | 1 => Rat w x 1 1
 | 2 => x = .bool true
 | 3 => x = .bool true
 | 4 => x = undef
 | 5 => x = undef
 | 6 => x = undef
 | 7 => x = undef
 | 8 => x = undef
 | 9 => x = undef
 | 10 => x = undef
 | 11 => x = undef
 | 12 => x = undef
 | 13 => x = undef
 | 14 => x = .bool true
 | _ => True
theorem PhiE1.keep {b1 b2 : Nat} {va s1 s3 : Value} {k1 k3 : Nat} : ∀ (w w' : World), Below w.heap.size w w' → ∀ j x, PhiE1 b1 b2 va s1 s3 k1 k3 j w x → PhiE1 b1 b2 va s1 s3 k1 k3 j w' x := by
 intro w w' hb j x h; unfold PhiE1 at h ⊢
 split <;> simp only at h ⊢ <;> first | exact h | exact h.below hb
def PhiE2 (b1 b2 : Nat) (va s1 s3 : Value) (k1 k3 : Nat) (j : Nat) (w : World) (x : Value) : Prop :=
 match j with
 | 0 => x = va
 | 1 => Rat w x 1 1
 | 2 => x = .bool false
 | 3 => x = .bool false
 | 4 => x = .pointer (some ⟨b2, 0, none⟩)
 | 5 => x = s3
 | 6 => x = .int .i64 k3
 | 7 => x = .bool true
 | 8 => x = .bool true
 | 9 => x = .pointer (some ⟨b1, 0, none⟩)
 | 10 => x = s1
 | 11 => x = .int .i64 k1
 | 12 => x = .bool true
 | 13 => x = .bool true
 | 14 => x = .bool true
 | _ => True
theorem PhiE2.keep {b1 b2 : Nat} {va s1 s3 : Value} {k1 k3 : Nat} : ∀ (w w' : World), Below w.heap.size w w' → ∀ j x, PhiE2 b1 b2 va s1 s3 k1 k3 j w x → PhiE2 b1 b2 va s1 s3 k1 k3 j w' x := by
 intro w w' hb j x h; unfold PhiE2 at h ⊢
 split <;> simp only at h ⊢ <;> first | exact h | exact h.below hb
def PhiE3 (b1 b2 : Nat) (va s1 s3 : Value) (k1 k3 : Nat) (j : Nat) (w : World) (x : Value) : Prop :=
 match j with
 | 0 => x = va
 | 1 => Rat w x 1 1
 | 2 => x = .bool false
 | 3 => x = .bool false
 | 4 => x = .pointer (some ⟨b2, 0, none⟩)
 | 5 => x = s3
 | 6 => x = .int .i64 k3
 | 7 => x = .bool true
 | 8 => x = .bool true
 | 9 => x = .pointer (some ⟨b1, 0, none⟩)
 | 10 => x = s1
 | 11 => x = .int .i64 k1
 | 12 => x = .bool false
 | 13 => x = .bool false
 | 14 => x = .bool false
 | _ => True
theorem PhiE3.keep {b1 b2 : Nat} {va s1 s3 : Value} {k1 k3 : Nat} : ∀ (w w' : World), Below w.heap.size w w' → ∀ j x, PhiE3 b1 b2 va s1 s3 k1 k3 j w x → PhiE3 b1 b2 va s1 s3 k1 k3 j w' x := by
 intro w w' hb j x h; unfold PhiE3 at h ⊢
 split <;> simp only at h ⊢ <;> first | exact h | exact h.below hb
def PhiE4 (b1 b2 : Nat) (va s1 s3 : Value) (k1 k3 : Nat) (j : Nat) (w : World) (x : Value) : Prop :=
 match j with
 | 0 => x = va
 | 1 => Rat w x 1 1
 | 2 => x = .bool false
 | 3 => x = .bool false
 | 4 => x = .pointer (some ⟨b2, 0, none⟩)
 | 5 => x = s3
 | 6 => x = .int .i64 k3
 | 7 => x = .bool false
 | 8 => x = .bool false
 | 9 => x = undef
 | 10 => x = undef
 | 11 => x = undef
 | 12 => x = undef
 | 13 => x = .bool false
 | 14 => x = .bool false
 | _ => True
theorem PhiE4.keep {b1 b2 : Nat} {va s1 s3 : Value} {k1 k3 : Nat} : ∀ (w w' : World), Below w.heap.size w w' → ∀ j x, PhiE4 b1 b2 va s1 s3 k1 k3 j w x → PhiE4 b1 b2 va s1 s3 k1 k3 j w' x := by
 intro w w' hb j x h; unfold PhiE4 at h ⊢
 split <;> simp only at h ⊢ <;> first | exact h | exact h.below hb
set_option maxRecDepth 100000 in
set_option maxHeartbeats 4000000 in
theorem rretries_any (va vb : Value) (L1 L2 L3 L4 : List Nat) (w : World) (ha : RtL w va L1 L2) (hb : RtL w vb L3 L4) :
  Calls Try.prog 17 #[va, vb] w fun e w' => ∃ x er : Int, e = .returned (.tuple #[.int .i64 x, .int .i64 er]) ∧ Hid (Nm.RetA L1 L2 L3 L4 x er) ∧ Below w.heap.size w w' := by
 obtain ⟨A1, k1, c1, A2, k2, c2, rfl⟩ := ha.shape; obtain ⟨B1, l1, d1, B2, l2, d2, rfl⟩ := hb.shape; obtain ⟨W, HW⟩ : ∃ W, Hid (W = ((w.alloc (.cells #[.slice A1 k1 c1, .slice A2 k2 c2] 24)).alloc (.cells #[.slice B1 l1 d1, .slice B2 l2 d2] 24))) := ⟨_, rfl⟩; have hbw : Below w.heap.size w W := by rw [HW.out]; exact Below.tr (bA _ _) (bA _ _)
 have hx1 : Box W w.heap.size (.slice A1 k1 c1) (.slice A2 k2 c2) := by rw [HW.out]; exact Box.below (Blk.new w _ _) (bA _ _)
 have hx2 : Box W (w.heap.size + 1) (.slice B1 l1 d1) (.slice B2 l2 d2) := by
  rw [HW.out]; have := Blk.new (w.alloc (.cells #[.slice A1 k1 c1, .slice A2 k2 c2] 24)) 24 #[.slice B1 l1 d1, .slice B2 l2 d2]; unfold Box; simpa using this
 have ha1 := ha.below hbw; have hb1 := hb.below hbw
 go_enter Try.func17, Try.ntmps17
 go_wp2_with fail; rw [← HW.out]; refine (rboth_any _ _ _ _ _ _ _ ha1 hb1).mono ?_; rintro e W1 ⟨E, rfl, HE, hbe⟩; have hx1 := hx1.below hbe; have hx2 := hx2.below hbe; have ha1 := ha1.below hbe; have hb1 := hb1.below hbe; have hbw := Below.tr hbw hbe; clear hbe HW; obtain ⟨f1, f2⟩ := hx1.facts; obtain ⟨f3, f4⟩ := hx2.facts; by_cases hE : E = 0
 ·have h0 : (E != 0) = false := by rw [hE]; rfl
  have HV : Nm.validE L1 L2 = 0 ∧ Nm.validE L3 L4 = 0 := by
   have := HE.out; rw [hE] at this; unfold firstE at this; split at this
   ·exact ⟨by assumption, this.symm⟩
   ·omega
  obtain ⟨p, q, rfl, rfl, ga⟩ := Nm.validE_spec ha.limb.1 ha.limb.2 HV.1; obtain ⟨a, b, rfl, rfl, gb⟩ := Nm.validE_spec hb.limb.1 hb.limb.2 HV.2; have hra := ha1.rat; have hrb := hb1.rat; clear HV ha1 hb1 ha hb HE hE; have HRA : Hid (∀ x er, Nm.RetP p q a b x er → Nm.RetA (Nm.lb p) (Nm.lb (Nm.dn q)) (Nm.lb a) (Nm.lb (Nm.dn b)) x er) := fun x er h => .inr ⟨p, q, a, b, rfl, rfl, ga, rfl, rfl, gb, h⟩
  obtain ⟨CC, HCC⟩ : ∃ CC, Hid (CC = Nm.cmpN (p * 1) (1 * q)) := ⟨_, rfl⟩; by_cases hpq : p ≤ q
  ·have HD : Hid (decide ((0 : Int) < CC) = false) := by show _ = _; have := cmp_le (show p * 1 ≤ 1 * q by omega); rw [← HCC.out] at this; simp; omega
   go_wp2_with fail; clear f1 f2 f3 f4 h0; refine region_inv (PhiC (.agg #[.slice A1 k1 c1, .slice A2 k2 c2]) CC false) (fun w w' => Below w.heap.size w w') (fun W => Below W1.heap.size W1 W) (by kernel_rfl) (by kernel_rfl) (by kernel_rfl) PhiC.keep (fun _ _ hR hS => Below.tr hS hR) (bD _) ?_ ?_
   ·refine sK ?_ (sK ?_ (sK ?_ (sK ?_ (sZ))))
    ·intro vs W hS hdep K hK; have f1 := (hx1.below hS).facts.1; have f2 := (hx1.below hS).facts.2; have f3 := (hx2.below hS).facts.1; have f4 := (hx2.below hS).facts.2; refine ⟨?_⟩; simp only [fillR, Act.put, sA, sB, sC, Nat.zero_add, Nat.reduceAdd] at hK ⊢; go_simp; with_reducible refine hK _ _ (Below.refl _ _) ?_
     exact rfl
    ·intro vs W hS hdep K hK; refine ⟨?_⟩; simp only [fillR, Act.put, sA, sB, sC, Nat.zero_add, Nat.reduceAdd] at hK ⊢; go_simp; refine (runit_n _).mono ?_; rintro e w' ⟨v, rfl, hr, hb⟩; go_wp2_with fail; with_reducible refine hK _ _ hb ?_
     exact hr
    ·intro vs W hS hdep K hK; have d0 := hdep ⟨0, .data⟩ (by simp) rfl; simp only [PhiC] at d0; have d1 := hdep ⟨1, .data⟩ (by simp) rfl; simp only [PhiC] at d1; have r1 := d1; clear d1; refine ⟨?_⟩; simp only [fillR, Act.put, sA, sB, sC, Nat.zero_add, Nat.reduceAdd, d0] at hK ⊢; go_simp; refine (rorder_n _ _ p q 1 1 _ (hra.below hS) r1 ga Good_one).mono ?_; rintro e w' ⟨cc, rfl, hcc, hb⟩; rw [show cc = CC from hcc.out.trans HCC.out.symm]; go_wp2_with fail; with_reducible refine hK _ _ hb ?_
     exact rfl
    ·intro vs W hS hdep K hK; have d0 := hdep ⟨2, .data⟩ (by simp) rfl; simp only [PhiC] at d0; have hd := HD.out; refine ⟨?_⟩; simp only [fillR, Act.put, sA, sB, sC, Nat.zero_add, Nat.reduceAdd, d0] at hK ⊢; go_simp; with_reducible refine hK _ _ (Below.refl _ _) ?_
     exact rfl
   intro vs W2 hS hv; have v3 := hv 3 (by simp); simp only [PhiC] at v3; simp only [fillR, Act.put, sA, sB, sC, Nat.zero_add, Nat.reduceAdd, v3]; have hx1 := hx1.below hS; have hx2 := hx2.below hS; have hra := hra.below hS; have hrb := hrb.below hS; have hbw := Below.tr hbw hS; clear hv v3 hS; clear HD HCC CC; obtain ⟨CC, HCC⟩ : ∃ CC, Hid (CC = Nm.cmpN (a * 1) (1 * b)) := ⟨_, rfl⟩; by_cases hab : b ≤ a
   ·have HD : Hid (decide ((0 : Int) ≤ CC) = true) := by
     show _ = _
     by_cases h : a = b
     ·have := Nm.cmpN_eq (show a * 1 = 1 * b by omega); rw [← HCC.out] at this; simp; omega
     ·have := Nm.cmpN_gt (show 1 * b < a * 1 by omega); rw [← HCC.out] at this; simp; omega
    go_wp2_with fail; refine region_inv (PhiC (.agg #[.slice B1 l1 d1, .slice B2 l2 d2]) CC true) (fun w w' => Below w.heap.size w w') (fun W => Below W2.heap.size W2 W) (by kernel_rfl) (by kernel_rfl) (by kernel_rfl) PhiC.keep (fun _ _ hR hS => Below.tr hS hR) (bD _) ?_ ?_
    ·refine sK ?_ (sK ?_ (sK ?_ (sK ?_ (sZ))))
     ·intro vs W hS hdep K hK; have f1 := (hx1.below hS).facts.1; have f2 := (hx1.below hS).facts.2; have f3 := (hx2.below hS).facts.1; have f4 := (hx2.below hS).facts.2; refine ⟨?_⟩; simp only [fillR, Act.put, sA, sB, sC, Nat.zero_add, Nat.reduceAdd] at hK ⊢; go_simp; with_reducible refine hK _ _ (Below.refl _ _) ?_
      exact rfl
     ·intro vs W hS hdep K hK; refine ⟨?_⟩; simp only [fillR, Act.put, sA, sB, sC, Nat.zero_add, Nat.reduceAdd] at hK ⊢; go_simp; refine (runit_n _).mono ?_; rintro e w' ⟨v, rfl, hr, hb⟩; go_wp2_with fail; with_reducible refine hK _ _ hb ?_
      exact hr
     ·intro vs W hS hdep K hK; have d0 := hdep ⟨0, .data⟩ (by simp) rfl; simp only [PhiC] at d0; have d1 := hdep ⟨1, .data⟩ (by simp) rfl; simp only [PhiC] at d1; have r1 := d1; clear d1; refine ⟨?_⟩; simp only [fillR, Act.put, sA, sB, sC, Nat.zero_add, Nat.reduceAdd, d0] at hK ⊢; go_simp; refine (rorder_n _ _ a b 1 1 _ (hrb.below hS) r1 gb Good_one).mono ?_; rintro e w' ⟨cc, rfl, hcc, hb⟩; rw [show cc = CC from hcc.out.trans HCC.out.symm]; go_wp2_with fail; with_reducible refine hK _ _ hb ?_
      exact rfl
     ·intro vs W hS hdep K hK; have d0 := hdep ⟨2, .data⟩ (by simp) rfl; simp only [PhiC] at d0; have hd := HD.out; refine ⟨?_⟩; simp only [fillR, Act.put, sA, sB, sC, Nat.zero_add, Nat.reduceAdd, d0] at hK ⊢; go_simp; with_reducible refine hK _ _ (Below.refl _ _) ?_
      exact rfl
    intro vs W3 hS hv; have v3 := hv 3 (by simp); simp only [PhiC] at v3; simp only [fillR, Act.put, sA, sB, sC, Nat.zero_add, Nat.reduceAdd, v3]; have hx1 := hx1.below hS; have hx2 := hx2.below hS; have hra := hra.below hS; have hrb := hrb.below hS; have hbw := Below.tr hbw hS; clear hv v3 hS; go_wp2_with fail
    go_ret2
    exact ⟨_, _, rfl, HRA.out _ _ (.inr (.inl ⟨hpq, hab, rfl, rfl⟩)), hbw⟩
   ·have HD : Hid (decide ((0 : Int) ≤ CC) = false) := by show _ = _; have := Nm.cmpN_lt (show a * 1 < 1 * b by omega); rw [← HCC.out] at this; simp; omega
    go_wp2_with fail; refine region_inv (PhiC (.agg #[.slice B1 l1 d1, .slice B2 l2 d2]) CC false) (fun w w' => Below w.heap.size w w') (fun W => Below W2.heap.size W2 W) (by kernel_rfl) (by kernel_rfl) (by kernel_rfl) PhiC.keep (fun _ _ hR hS => Below.tr hS hR) (bD _) ?_ ?_
    ·refine sK ?_ (sK ?_ (sK ?_ (sK ?_ (sZ))))
     ·intro vs W hS hdep K hK; have f1 := (hx1.below hS).facts.1; have f2 := (hx1.below hS).facts.2; have f3 := (hx2.below hS).facts.1; have f4 := (hx2.below hS).facts.2; refine ⟨?_⟩; simp only [fillR, Act.put, sA, sB, sC, Nat.zero_add, Nat.reduceAdd] at hK ⊢; go_simp; with_reducible refine hK _ _ (Below.refl _ _) ?_
      exact rfl
     ·intro vs W hS hdep K hK; refine ⟨?_⟩; simp only [fillR, Act.put, sA, sB, sC, Nat.zero_add, Nat.reduceAdd] at hK ⊢; go_simp; refine (runit_n _).mono ?_; rintro e w' ⟨v, rfl, hr, hb⟩; go_wp2_with fail; with_reducible refine hK _ _ hb ?_
      exact hr
     ·intro vs W hS hdep K hK; have d0 := hdep ⟨0, .data⟩ (by simp) rfl; simp only [PhiC] at d0; have d1 := hdep ⟨1, .data⟩ (by simp) rfl; simp only [PhiC] at d1; have r1 := d1; clear d1; refine ⟨?_⟩; simp only [fillR, Act.put, sA, sB, sC, Nat.zero_add, Nat.reduceAdd, d0] at hK ⊢; go_simp; refine (rorder_n _ _ a b 1 1 _ (hrb.below hS) r1 gb Good_one).mono ?_; rintro e w' ⟨cc, rfl, hcc, hb⟩; rw [show cc = CC from hcc.out.trans HCC.out.symm]; go_wp2_with fail; with_reducible refine hK _ _ hb ?_
      exact rfl
     ·intro vs W hS hdep K hK; have d0 := hdep ⟨2, .data⟩ (by simp) rfl; simp only [PhiC] at d0; have hd := HD.out; refine ⟨?_⟩; simp only [fillR, Act.put, sA, sB, sC, Nat.zero_add, Nat.reduceAdd, d0] at hK ⊢; go_simp; with_reducible refine hK _ _ (Below.refl _ _) ?_
      exact rfl
    intro vs W3 hS hv; have v3 := hv 3 (by simp); simp only [PhiC] at v3; simp only [fillR, Act.put, sA, sB, sC, Nat.zero_add, Nat.reduceAdd, v3]; have hx1 := hx1.below hS; have hx2 := hx2.below hS; have hra := hra.below hS; have hrb := hrb.below hS; have hbw := Below.tr hbw hS; clear hv v3 hS; clear HD HCC CC
    have HZ1 : Hid (((k1 : Int) == 0) = decide (p = 0)) := by
     show _ = _; have := hra.nb.1
     by_cases h : p = 0
     ·subst h; have := this.kzero; subst this; rfl
     ·have := this.pos (by omega); rw [Bool.eq_iff_iff]; simp [h]; omega
    have HZ3 : Hid (((l1 : Int) == 0) = decide (a = 0)) := by
     show _ = _; have := hrb.nb.1
     by_cases h : a = 0
     ·subst h; have := this.kzero; subst this; rfl
     ·have := this.pos (by omega); rw [Bool.eq_iff_iff]; simp [h]; omega
    go_upto_region 8 with fail
    go_cut [39] from 25 (fun x wx => ∃ r : Bool, x = .bool r ∧ Below W3.heap.size W3 wx ∧ Hid (r = true ↔ (p = q ∨ (a = 0 ∧ 0 < p))))
    case first => as_aux_lemma =>
     by_cases heq : p = q
     ·have HSM : Hid (sameR (Nm.lb p) (Nm.lb (Nm.dn q)) (Nm.lb 1) (Nm.lb (Nm.dn 1)) = true) := by show _ = _; rw [sameR_unit ga]; simp [heq]
      refine region_inv (PhiE1 w.heap.size (w.heap.size + 1) (.agg #[.slice A1 k1 c1, .slice A2 k2 c2]) (.slice A1 k1 c1) (.slice B1 l1 d1) k1 l1) (fun w w' => Below w.heap.size w w') (fun W => Below W3.heap.size W3 W) (by kernel_rfl) (by kernel_rfl) (by kernel_rfl) PhiE1.keep (fun _ _ hR hS => Below.tr hS hR) (bD _) ?_ ?_
      ·refine sK ?_ (sK ?_ (sK ?_ (sK ?_ (sK ?_ (sK ?_ (sK ?_ (sK ?_ (sK ?_ (sK ?_ (sK ?_ (sK ?_ (sK ?_ (sK ?_ (sK ?_ (sZ)))))))))))))))
       ·intro vs W hS hdep K hK; have f1 := (hx1.below hS).facts.1; have f2 := (hx1.below hS).facts.2; have f3 := (hx2.below hS).facts.1; have f4 := (hx2.below hS).facts.2; refine ⟨?_⟩; simp only [fillR, Act.put, sA, sB, sC, Nat.zero_add, Nat.reduceAdd] at hK ⊢; go_simp; with_reducible refine hK _ _ (Below.refl _ _) ?_
        exact rfl
       ·intro vs W hS hdep K hK; refine ⟨?_⟩; simp only [fillR, Act.put, sA, sB, sC, Nat.zero_add, Nat.reduceAdd] at hK ⊢; go_simp; refine (runit_n _).mono ?_; rintro e w' ⟨v, rfl, hr, hb⟩; go_wp2_with fail; with_reducible refine hK _ _ hb ?_
        exact hr
       ·intro vs W hS hdep K hK; have d0 := hdep ⟨0, .data⟩ (by simp) rfl; simp only [PhiE1] at d0; have d1 := hdep ⟨1, .data⟩ (by simp) rfl; simp only [PhiE1] at d1; have r1 := d1; clear d1; refine ⟨?_⟩; simp only [fillR, Act.put, sA, sB, sC, Nat.zero_add, Nat.reduceAdd, d0] at hK ⊢; go_simp; refine (same_any _ _ _ _ _ _ _ (hra.below hS).rtl r1.rtl).mono ?_; rintro e w' ⟨bb, rfl, hbb, hb⟩; rw [hbb.out.trans HSM.out]; go_wp2_with fail; with_reducible refine hK _ _ hb ?_
        exact rfl
       ·intro vs W hS hdep K hK; have d0 := hdep ⟨2, .data⟩ (by simp) rfl; simp only [PhiE1] at d0; refine ⟨?_⟩; simp only [fillR, Act.put, sA, sB, sC, Nat.zero_add, Nat.reduceAdd, d0] at hK ⊢; go_simp; with_reducible refine hK _ _ (Below.refl _ _) ?_
        exact rfl
       ·intro vs W hS hdep K hK; have d0 := hdep ⟨3, .guard⟩ (by simp) rfl; simp only [PhiE1] at d0; refine ⟨?_⟩; simp only [fillR, Act.put, sA, sB, sC, Nat.zero_add, Nat.reduceAdd, d0] at hK ⊢; go_simp; with_reducible refine hK _ _ (Below.refl _ _) ?_
        exact rfl
       ·intro vs W hS hdep K hK; have d0 := hdep ⟨3, .guard⟩ (by simp) rfl; simp only [PhiE1] at d0; refine ⟨?_⟩; simp only [fillR, Act.put, sA, sB, sC, Nat.zero_add, Nat.reduceAdd, d0] at hK ⊢; go_simp; with_reducible refine hK _ _ (Below.refl _ _) ?_
        exact rfl
       ·intro vs W hS hdep K hK; have d0 := hdep ⟨3, .guard⟩ (by simp) rfl; simp only [PhiE1] at d0; refine ⟨?_⟩; simp only [fillR, Act.put, sA, sB, sC, Nat.zero_add, Nat.reduceAdd, d0] at hK ⊢; go_simp; with_reducible refine hK _ _ (Below.refl _ _) ?_
        exact rfl
       ·intro vs W hS hdep K hK; have d0 := hdep ⟨3, .guard⟩ (by simp) rfl; simp only [PhiE1] at d0; refine ⟨?_⟩; simp only [fillR, Act.put, sA, sB, sC, Nat.zero_add, Nat.reduceAdd, d0] at hK ⊢; go_simp; with_reducible refine hK _ _ (Below.refl _ _) ?_
        exact rfl
       ·intro vs W hS hdep K hK; have d0 := hdep ⟨3, .guard⟩ (by simp) rfl; simp only [PhiE1] at d0; refine ⟨?_⟩; simp only [fillR, Act.put, sA, sB, sC, Nat.zero_add, Nat.reduceAdd, d0] at hK ⊢; go_simp; with_reducible refine hK _ _ (Below.refl _ _) ?_
        exact rfl
       ·intro vs W hS hdep K hK; have d0 := hdep ⟨8, .guard⟩ (by simp) rfl; simp only [PhiE1] at d0; refine ⟨?_⟩; simp only [fillR, Act.put, sA, sB, sC, Nat.zero_add, Nat.reduceAdd, d0] at hK ⊢; go_simp; rw [if_neg (by simp [undef])]; with_reducible refine hK _ _ (Below.refl _ _) ?_
        exact rfl
       ·intro vs W hS hdep K hK; have d0 := hdep ⟨8, .guard⟩ (by simp) rfl; simp only [PhiE1] at d0; refine ⟨?_⟩; simp only [fillR, Act.put, sA, sB, sC, Nat.zero_add, Nat.reduceAdd, d0] at hK ⊢; go_simp; rw [if_neg (by simp [undef])]; with_reducible refine hK _ _ (Below.refl _ _) ?_
        exact rfl
       ·intro vs W hS hdep K hK; have d0 := hdep ⟨8, .guard⟩ (by simp) rfl; simp only [PhiE1] at d0; refine ⟨?_⟩; simp only [fillR, Act.put, sA, sB, sC, Nat.zero_add, Nat.reduceAdd, d0] at hK ⊢; go_simp; rw [if_neg (by simp [undef])]; with_reducible refine hK _ _ (Below.refl _ _) ?_
        exact rfl
       ·intro vs W hS hdep K hK; have d0 := hdep ⟨8, .guard⟩ (by simp) rfl; simp only [PhiE1] at d0; refine ⟨?_⟩; simp only [fillR, Act.put, sA, sB, sC, Nat.zero_add, Nat.reduceAdd, d0] at hK ⊢; go_simp; rw [if_neg (by simp [undef])]; with_reducible refine hK _ _ (Below.refl _ _) ?_
        exact rfl
       ·intro vs W hS hdep K hK; have d0 := hdep ⟨3, .guard⟩ (by simp) rfl; simp only [PhiE1] at d0; refine ⟨?_⟩; simp only [fillR, Act.put, sA, sB, sC, Nat.zero_add, Nat.reduceAdd, d0] at hK ⊢; go_simp; with_reducible refine hK _ _ (Below.refl _ _) ?_
        exact rfl
       ·intro vs W hS hdep K hK; have d0 := hdep ⟨3, .data⟩ (by simp) rfl; simp only [PhiE1] at d0; have d1 := hdep ⟨13, .data⟩ (by simp) rfl; simp only [PhiE1] at d1; refine ⟨?_⟩; simp only [fillR, Act.put, sA, sB, sC, Nat.zero_add, Nat.reduceAdd, d0, d1] at hK ⊢; go_simp; with_reducible refine hK _ _ (Below.refl _ _) ?_
        exact rfl
      intro vs W4 hS hv; have v14 := hv 14 (by simp); simp only [PhiE1] at v14; simp only [fillR, Act.put, sA, sB, sC, Nat.zero_add, Nat.reduceAdd, v14]; clear hv v14; go_wp2_with fail
      go_meet
      case rel => exact ⟨true, rfl, hS, (by show _ ↔ _; simp; omega)⟩
     ·have HSM : Hid (sameR (Nm.lb p) (Nm.lb (Nm.dn q)) (Nm.lb 1) (Nm.lb (Nm.dn 1)) = false) := by show _ = _; rw [sameR_unit ga]; simp [heq]
      by_cases ha0 : a = 0
      ·have HZ3 : Hid (((l1 : Int) == 0) = true) := by show _ = _; rw [HZ3.out]; simp [ha0]
       by_cases hp0 : p = 0
       ·have HZ1 : Hid (decide (0 < k1) = false) := by show _ = _; have := HZ1.out; simp [hp0] at this; simp [this]
        refine region_inv (PhiE3 w.heap.size (w.heap.size + 1) (.agg #[.slice A1 k1 c1, .slice A2 k2 c2]) (.slice A1 k1 c1) (.slice B1 l1 d1) k1 l1) (fun w w' => Below w.heap.size w w') (fun W => Below W3.heap.size W3 W) (by kernel_rfl) (by kernel_rfl) (by kernel_rfl) PhiE3.keep (fun _ _ hR hS => Below.tr hS hR) (bD _) ?_ ?_
        ·refine sK ?_ (sK ?_ (sK ?_ (sK ?_ (sK ?_ (sK ?_ (sK ?_ (sK ?_ (sK ?_ (sK ?_ (sK ?_ (sK ?_ (sK ?_ (sK ?_ (sK ?_ (sZ)))))))))))))))
         ·intro vs W hS hdep K hK; have f1 := (hx1.below hS).facts.1; have f2 := (hx1.below hS).facts.2; have f3 := (hx2.below hS).facts.1; have f4 := (hx2.below hS).facts.2; refine ⟨?_⟩; simp only [fillR, Act.put, sA, sB, sC, Nat.zero_add, Nat.reduceAdd] at hK ⊢; go_simp; with_reducible refine hK _ _ (Below.refl _ _) ?_
          exact rfl
         ·intro vs W hS hdep K hK; refine ⟨?_⟩; simp only [fillR, Act.put, sA, sB, sC, Nat.zero_add, Nat.reduceAdd] at hK ⊢; go_simp; refine (runit_n _).mono ?_; rintro e w' ⟨v, rfl, hr, hb⟩; go_wp2_with fail; with_reducible refine hK _ _ hb ?_
          exact hr
         ·intro vs W hS hdep K hK; have d0 := hdep ⟨0, .data⟩ (by simp) rfl; simp only [PhiE3] at d0; have d1 := hdep ⟨1, .data⟩ (by simp) rfl; simp only [PhiE3] at d1; have r1 := d1; clear d1; refine ⟨?_⟩; simp only [fillR, Act.put, sA, sB, sC, Nat.zero_add, Nat.reduceAdd, d0] at hK ⊢; go_simp; refine (same_any _ _ _ _ _ _ _ (hra.below hS).rtl r1.rtl).mono ?_; rintro e w' ⟨bb, rfl, hbb, hb⟩; rw [hbb.out.trans HSM.out]; go_wp2_with fail; with_reducible refine hK _ _ hb ?_
          exact rfl
         ·intro vs W hS hdep K hK; have d0 := hdep ⟨2, .data⟩ (by simp) rfl; simp only [PhiE3] at d0; refine ⟨?_⟩; simp only [fillR, Act.put, sA, sB, sC, Nat.zero_add, Nat.reduceAdd, d0] at hK ⊢; go_simp; with_reducible refine hK _ _ (Below.refl _ _) ?_
          exact rfl
         ·intro vs W hS hdep K hK; have d0 := hdep ⟨3, .guard⟩ (by simp) rfl; simp only [PhiE3] at d0; refine ⟨?_⟩; simp only [fillR, Act.put, sA, sB, sC, Nat.zero_add, Nat.reduceAdd, d0] at hK ⊢; go_simp; with_reducible refine hK _ _ (Below.refl _ _) ?_
          exact rfl
         ·intro vs W hS hdep K hK; have d0 := hdep ⟨3, .guard⟩ (by simp) rfl; simp only [PhiE3] at d0; have d1 := hdep ⟨4, .data⟩ (by simp) rfl; simp only [PhiE3] at d1; have f1 := (hx1.below hS).facts.1; have f2 := (hx1.below hS).facts.2; have f3 := (hx2.below hS).facts.1; have f4 := (hx2.below hS).facts.2; refine ⟨?_⟩; simp only [fillR, Act.put, sA, sB, sC, Nat.zero_add, Nat.reduceAdd, d0, d1] at hK ⊢; go_simp; with_reducible refine hK _ _ (Below.refl _ _) ?_
          exact rfl
         ·intro vs W hS hdep K hK; have d0 := hdep ⟨3, .guard⟩ (by simp) rfl; simp only [PhiE3] at d0; have d1 := hdep ⟨5, .data⟩ (by simp) rfl; simp only [PhiE3] at d1; refine ⟨?_⟩; simp only [fillR, Act.put, sA, sB, sC, Nat.zero_add, Nat.reduceAdd, d0, d1] at hK ⊢; go_simp; with_reducible refine hK _ _ (Below.refl _ _) ?_
          exact rfl
         ·intro vs W hS hdep K hK; have d0 := hdep ⟨3, .guard⟩ (by simp) rfl; simp only [PhiE3] at d0; have d1 := hdep ⟨6, .data⟩ (by simp) rfl; simp only [PhiE3] at d1; have z3 := HZ3.out; refine ⟨?_⟩; simp only [fillR, Act.put, sA, sB, sC, Nat.zero_add, Nat.reduceAdd, d0, d1] at hK ⊢; go_simp; with_reducible refine hK _ _ (Below.refl _ _) ?_
          exact rfl
         ·intro vs W hS hdep K hK; have d0 := hdep ⟨3, .guard⟩ (by simp) rfl; simp only [PhiE3] at d0; have d1 := hdep ⟨7, .data⟩ (by simp) rfl; simp only [PhiE3] at d1; refine ⟨?_⟩; simp only [fillR, Act.put, sA, sB, sC, Nat.zero_add, Nat.reduceAdd, d0, d1] at hK ⊢; go_simp; with_reducible refine hK _ _ (Below.refl _ _) ?_
          exact rfl
         ·intro vs W hS hdep K hK; have d0 := hdep ⟨8, .guard⟩ (by simp) rfl; simp only [PhiE3] at d0; refine ⟨?_⟩; simp only [fillR, Act.put, sA, sB, sC, Nat.zero_add, Nat.reduceAdd, d0] at hK ⊢; go_simp; with_reducible refine hK _ _ (Below.refl _ _) ?_
          exact rfl
         ·intro vs W hS hdep K hK; have d0 := hdep ⟨8, .guard⟩ (by simp) rfl; simp only [PhiE3] at d0; have d1 := hdep ⟨9, .data⟩ (by simp) rfl; simp only [PhiE3] at d1; have f1 := (hx1.below hS).facts.1; have f2 := (hx1.below hS).facts.2; have f3 := (hx2.below hS).facts.1; have f4 := (hx2.below hS).facts.2; refine ⟨?_⟩; simp only [fillR, Act.put, sA, sB, sC, Nat.zero_add, Nat.reduceAdd, d0, d1] at hK ⊢; go_simp; with_reducible refine hK _ _ (Below.refl _ _) ?_
          exact rfl
         ·intro vs W hS hdep K hK; have d0 := hdep ⟨8, .guard⟩ (by simp) rfl; simp only [PhiE3] at d0; have d1 := hdep ⟨10, .data⟩ (by simp) rfl; simp only [PhiE3] at d1; refine ⟨?_⟩; simp only [fillR, Act.put, sA, sB, sC, Nat.zero_add, Nat.reduceAdd, d0, d1] at hK ⊢; go_simp; with_reducible refine hK _ _ (Below.refl _ _) ?_
          exact rfl
         ·intro vs W hS hdep K hK; have d0 := hdep ⟨8, .guard⟩ (by simp) rfl; simp only [PhiE3] at d0; have d1 := hdep ⟨11, .data⟩ (by simp) rfl; simp only [PhiE3] at d1; have z1 := HZ1.out; refine ⟨?_⟩; simp only [fillR, Act.put, sA, sB, sC, Nat.zero_add, Nat.reduceAdd, d0, d1] at hK ⊢; go_simp; with_reducible refine hK _ _ (Below.refl _ _) ?_
          exact rfl
         ·intro vs W hS hdep K hK; have d0 := hdep ⟨3, .guard⟩ (by simp) rfl; simp only [PhiE3] at d0; have d1 := hdep ⟨8, .data⟩ (by simp) rfl; simp only [PhiE3] at d1; have d2 := hdep ⟨12, .data⟩ (by simp) rfl; simp only [PhiE3] at d2; refine ⟨?_⟩; simp only [fillR, Act.put, sA, sB, sC, Nat.zero_add, Nat.reduceAdd, d0, d1, d2] at hK ⊢; go_simp; with_reducible refine hK _ _ (Below.refl _ _) ?_
          exact rfl
         ·intro vs W hS hdep K hK; have d0 := hdep ⟨3, .data⟩ (by simp) rfl; simp only [PhiE3] at d0; have d1 := hdep ⟨13, .data⟩ (by simp) rfl; simp only [PhiE3] at d1; refine ⟨?_⟩; simp only [fillR, Act.put, sA, sB, sC, Nat.zero_add, Nat.reduceAdd, d0, d1] at hK ⊢; go_simp; with_reducible refine hK _ _ (Below.refl _ _) ?_
          exact rfl
        intro vs W4 hS hv; have v14 := hv 14 (by simp); simp only [PhiE3] at v14; simp only [fillR, Act.put, sA, sB, sC, Nat.zero_add, Nat.reduceAdd, v14]; clear hv v14; go_wp2_with fail
        go_meet
        case rel => exact ⟨false, rfl, hS, (by show _ ↔ _; simp; omega)⟩
       ·have HZ1 : Hid (decide (0 < k1) = true) := by show _ = _; have := HZ1.out; simp [hp0] at this; simp; omega
        refine region_inv (PhiE2 w.heap.size (w.heap.size + 1) (.agg #[.slice A1 k1 c1, .slice A2 k2 c2]) (.slice A1 k1 c1) (.slice B1 l1 d1) k1 l1) (fun w w' => Below w.heap.size w w') (fun W => Below W3.heap.size W3 W) (by kernel_rfl) (by kernel_rfl) (by kernel_rfl) PhiE2.keep (fun _ _ hR hS => Below.tr hS hR) (bD _) ?_ ?_
        ·refine sK ?_ (sK ?_ (sK ?_ (sK ?_ (sK ?_ (sK ?_ (sK ?_ (sK ?_ (sK ?_ (sK ?_ (sK ?_ (sK ?_ (sK ?_ (sK ?_ (sK ?_ (sZ)))))))))))))))
         ·intro vs W hS hdep K hK; have f1 := (hx1.below hS).facts.1; have f2 := (hx1.below hS).facts.2; have f3 := (hx2.below hS).facts.1; have f4 := (hx2.below hS).facts.2; refine ⟨?_⟩; simp only [fillR, Act.put, sA, sB, sC, Nat.zero_add, Nat.reduceAdd] at hK ⊢; go_simp; with_reducible refine hK _ _ (Below.refl _ _) ?_
          exact rfl
         ·intro vs W hS hdep K hK; refine ⟨?_⟩; simp only [fillR, Act.put, sA, sB, sC, Nat.zero_add, Nat.reduceAdd] at hK ⊢; go_simp; refine (runit_n _).mono ?_; rintro e w' ⟨v, rfl, hr, hb⟩; go_wp2_with fail; with_reducible refine hK _ _ hb ?_
          exact hr
         ·intro vs W hS hdep K hK; have d0 := hdep ⟨0, .data⟩ (by simp) rfl; simp only [PhiE2] at d0; have d1 := hdep ⟨1, .data⟩ (by simp) rfl; simp only [PhiE2] at d1; have r1 := d1; clear d1; refine ⟨?_⟩; simp only [fillR, Act.put, sA, sB, sC, Nat.zero_add, Nat.reduceAdd, d0] at hK ⊢; go_simp; refine (same_any _ _ _ _ _ _ _ (hra.below hS).rtl r1.rtl).mono ?_; rintro e w' ⟨bb, rfl, hbb, hb⟩; rw [hbb.out.trans HSM.out]; go_wp2_with fail; with_reducible refine hK _ _ hb ?_
          exact rfl
         ·intro vs W hS hdep K hK; have d0 := hdep ⟨2, .data⟩ (by simp) rfl; simp only [PhiE2] at d0; refine ⟨?_⟩; simp only [fillR, Act.put, sA, sB, sC, Nat.zero_add, Nat.reduceAdd, d0] at hK ⊢; go_simp; with_reducible refine hK _ _ (Below.refl _ _) ?_
          exact rfl
         ·intro vs W hS hdep K hK; have d0 := hdep ⟨3, .guard⟩ (by simp) rfl; simp only [PhiE2] at d0; refine ⟨?_⟩; simp only [fillR, Act.put, sA, sB, sC, Nat.zero_add, Nat.reduceAdd, d0] at hK ⊢; go_simp; with_reducible refine hK _ _ (Below.refl _ _) ?_
          exact rfl
         ·intro vs W hS hdep K hK; have d0 := hdep ⟨3, .guard⟩ (by simp) rfl; simp only [PhiE2] at d0; have d1 := hdep ⟨4, .data⟩ (by simp) rfl; simp only [PhiE2] at d1; have f1 := (hx1.below hS).facts.1; have f2 := (hx1.below hS).facts.2; have f3 := (hx2.below hS).facts.1; have f4 := (hx2.below hS).facts.2; refine ⟨?_⟩; simp only [fillR, Act.put, sA, sB, sC, Nat.zero_add, Nat.reduceAdd, d0, d1] at hK ⊢; go_simp; with_reducible refine hK _ _ (Below.refl _ _) ?_
          exact rfl
         ·intro vs W hS hdep K hK; have d0 := hdep ⟨3, .guard⟩ (by simp) rfl; simp only [PhiE2] at d0; have d1 := hdep ⟨5, .data⟩ (by simp) rfl; simp only [PhiE2] at d1; refine ⟨?_⟩; simp only [fillR, Act.put, sA, sB, sC, Nat.zero_add, Nat.reduceAdd, d0, d1] at hK ⊢; go_simp; with_reducible refine hK _ _ (Below.refl _ _) ?_
          exact rfl
         ·intro vs W hS hdep K hK; have d0 := hdep ⟨3, .guard⟩ (by simp) rfl; simp only [PhiE2] at d0; have d1 := hdep ⟨6, .data⟩ (by simp) rfl; simp only [PhiE2] at d1; have z3 := HZ3.out; refine ⟨?_⟩; simp only [fillR, Act.put, sA, sB, sC, Nat.zero_add, Nat.reduceAdd, d0, d1] at hK ⊢; go_simp; with_reducible refine hK _ _ (Below.refl _ _) ?_
          exact rfl
         ·intro vs W hS hdep K hK; have d0 := hdep ⟨3, .guard⟩ (by simp) rfl; simp only [PhiE2] at d0; have d1 := hdep ⟨7, .data⟩ (by simp) rfl; simp only [PhiE2] at d1; refine ⟨?_⟩; simp only [fillR, Act.put, sA, sB, sC, Nat.zero_add, Nat.reduceAdd, d0, d1] at hK ⊢; go_simp; with_reducible refine hK _ _ (Below.refl _ _) ?_
          exact rfl
         ·intro vs W hS hdep K hK; have d0 := hdep ⟨8, .guard⟩ (by simp) rfl; simp only [PhiE2] at d0; refine ⟨?_⟩; simp only [fillR, Act.put, sA, sB, sC, Nat.zero_add, Nat.reduceAdd, d0] at hK ⊢; go_simp; with_reducible refine hK _ _ (Below.refl _ _) ?_
          exact rfl
         ·intro vs W hS hdep K hK; have d0 := hdep ⟨8, .guard⟩ (by simp) rfl; simp only [PhiE2] at d0; have d1 := hdep ⟨9, .data⟩ (by simp) rfl; simp only [PhiE2] at d1; have f1 := (hx1.below hS).facts.1; have f2 := (hx1.below hS).facts.2; have f3 := (hx2.below hS).facts.1; have f4 := (hx2.below hS).facts.2; refine ⟨?_⟩; simp only [fillR, Act.put, sA, sB, sC, Nat.zero_add, Nat.reduceAdd, d0, d1] at hK ⊢; go_simp; with_reducible refine hK _ _ (Below.refl _ _) ?_
          exact rfl
         ·intro vs W hS hdep K hK; have d0 := hdep ⟨8, .guard⟩ (by simp) rfl; simp only [PhiE2] at d0; have d1 := hdep ⟨10, .data⟩ (by simp) rfl; simp only [PhiE2] at d1; refine ⟨?_⟩; simp only [fillR, Act.put, sA, sB, sC, Nat.zero_add, Nat.reduceAdd, d0, d1] at hK ⊢; go_simp; with_reducible refine hK _ _ (Below.refl _ _) ?_
          exact rfl
         ·intro vs W hS hdep K hK; have d0 := hdep ⟨8, .guard⟩ (by simp) rfl; simp only [PhiE2] at d0; have d1 := hdep ⟨11, .data⟩ (by simp) rfl; simp only [PhiE2] at d1; have z1 := HZ1.out; refine ⟨?_⟩; simp only [fillR, Act.put, sA, sB, sC, Nat.zero_add, Nat.reduceAdd, d0, d1] at hK ⊢; go_simp; with_reducible refine hK _ _ (Below.refl _ _) ?_
          exact rfl
         ·intro vs W hS hdep K hK; have d0 := hdep ⟨3, .guard⟩ (by simp) rfl; simp only [PhiE2] at d0; have d1 := hdep ⟨8, .data⟩ (by simp) rfl; simp only [PhiE2] at d1; have d2 := hdep ⟨12, .data⟩ (by simp) rfl; simp only [PhiE2] at d2; refine ⟨?_⟩; simp only [fillR, Act.put, sA, sB, sC, Nat.zero_add, Nat.reduceAdd, d0, d1, d2] at hK ⊢; go_simp; with_reducible refine hK _ _ (Below.refl _ _) ?_
          exact rfl
         ·intro vs W hS hdep K hK; have d0 := hdep ⟨3, .data⟩ (by simp) rfl; simp only [PhiE2] at d0; have d1 := hdep ⟨13, .data⟩ (by simp) rfl; simp only [PhiE2] at d1; refine ⟨?_⟩; simp only [fillR, Act.put, sA, sB, sC, Nat.zero_add, Nat.reduceAdd, d0, d1] at hK ⊢; go_simp; with_reducible refine hK _ _ (Below.refl _ _) ?_
          exact rfl
        intro vs W4 hS hv; have v14 := hv 14 (by simp); simp only [PhiE2] at v14; simp only [fillR, Act.put, sA, sB, sC, Nat.zero_add, Nat.reduceAdd, v14]; clear hv v14; go_wp2_with fail
        go_meet
        case rel => exact ⟨true, rfl, hS, (by show _ ↔ _; simp; omega)⟩
      ·have HZ3 : Hid (((l1 : Int) == 0) = false) := by show _ = _; rw [HZ3.out]; simp [ha0]
       refine region_inv (PhiE4 w.heap.size (w.heap.size + 1) (.agg #[.slice A1 k1 c1, .slice A2 k2 c2]) (.slice A1 k1 c1) (.slice B1 l1 d1) k1 l1) (fun w w' => Below w.heap.size w w') (fun W => Below W3.heap.size W3 W) (by kernel_rfl) (by kernel_rfl) (by kernel_rfl) PhiE4.keep (fun _ _ hR hS => Below.tr hS hR) (bD _) ?_ ?_
       ·refine sK ?_ (sK ?_ (sK ?_ (sK ?_ (sK ?_ (sK ?_ (sK ?_ (sK ?_ (sK ?_ (sK ?_ (sK ?_ (sK ?_ (sK ?_ (sK ?_ (sK ?_ (sZ)))))))))))))))
        ·intro vs W hS hdep K hK; have f1 := (hx1.below hS).facts.1; have f2 := (hx1.below hS).facts.2; have f3 := (hx2.below hS).facts.1; have f4 := (hx2.below hS).facts.2; refine ⟨?_⟩; simp only [fillR, Act.put, sA, sB, sC, Nat.zero_add, Nat.reduceAdd] at hK ⊢; go_simp; with_reducible refine hK _ _ (Below.refl _ _) ?_
         exact rfl
        ·intro vs W hS hdep K hK; refine ⟨?_⟩; simp only [fillR, Act.put, sA, sB, sC, Nat.zero_add, Nat.reduceAdd] at hK ⊢; go_simp; refine (runit_n _).mono ?_; rintro e w' ⟨v, rfl, hr, hb⟩; go_wp2_with fail; with_reducible refine hK _ _ hb ?_
         exact hr
        ·intro vs W hS hdep K hK; have d0 := hdep ⟨0, .data⟩ (by simp) rfl; simp only [PhiE4] at d0; have d1 := hdep ⟨1, .data⟩ (by simp) rfl; simp only [PhiE4] at d1; have r1 := d1; clear d1; refine ⟨?_⟩; simp only [fillR, Act.put, sA, sB, sC, Nat.zero_add, Nat.reduceAdd, d0] at hK ⊢; go_simp; refine (same_any _ _ _ _ _ _ _ (hra.below hS).rtl r1.rtl).mono ?_; rintro e w' ⟨bb, rfl, hbb, hb⟩; rw [hbb.out.trans HSM.out]; go_wp2_with fail; with_reducible refine hK _ _ hb ?_
         exact rfl
        ·intro vs W hS hdep K hK; have d0 := hdep ⟨2, .data⟩ (by simp) rfl; simp only [PhiE4] at d0; refine ⟨?_⟩; simp only [fillR, Act.put, sA, sB, sC, Nat.zero_add, Nat.reduceAdd, d0] at hK ⊢; go_simp; with_reducible refine hK _ _ (Below.refl _ _) ?_
         exact rfl
        ·intro vs W hS hdep K hK; have d0 := hdep ⟨3, .guard⟩ (by simp) rfl; simp only [PhiE4] at d0; refine ⟨?_⟩; simp only [fillR, Act.put, sA, sB, sC, Nat.zero_add, Nat.reduceAdd, d0] at hK ⊢; go_simp; with_reducible refine hK _ _ (Below.refl _ _) ?_
         exact rfl
        ·intro vs W hS hdep K hK; have d0 := hdep ⟨3, .guard⟩ (by simp) rfl; simp only [PhiE4] at d0; have d1 := hdep ⟨4, .data⟩ (by simp) rfl; simp only [PhiE4] at d1; have f1 := (hx1.below hS).facts.1; have f2 := (hx1.below hS).facts.2; have f3 := (hx2.below hS).facts.1; have f4 := (hx2.below hS).facts.2; refine ⟨?_⟩; simp only [fillR, Act.put, sA, sB, sC, Nat.zero_add, Nat.reduceAdd, d0, d1] at hK ⊢; go_simp; with_reducible refine hK _ _ (Below.refl _ _) ?_
         exact rfl
        ·intro vs W hS hdep K hK; have d0 := hdep ⟨3, .guard⟩ (by simp) rfl; simp only [PhiE4] at d0; have d1 := hdep ⟨5, .data⟩ (by simp) rfl; simp only [PhiE4] at d1; refine ⟨?_⟩; simp only [fillR, Act.put, sA, sB, sC, Nat.zero_add, Nat.reduceAdd, d0, d1] at hK ⊢; go_simp; with_reducible refine hK _ _ (Below.refl _ _) ?_
         exact rfl
        ·intro vs W hS hdep K hK; have d0 := hdep ⟨3, .guard⟩ (by simp) rfl; simp only [PhiE4] at d0; have d1 := hdep ⟨6, .data⟩ (by simp) rfl; simp only [PhiE4] at d1; have z3 := HZ3.out; refine ⟨?_⟩; simp only [fillR, Act.put, sA, sB, sC, Nat.zero_add, Nat.reduceAdd, d0, d1] at hK ⊢; go_simp; with_reducible refine hK _ _ (Below.refl _ _) ?_
         exact rfl
        ·intro vs W hS hdep K hK; have d0 := hdep ⟨3, .guard⟩ (by simp) rfl; simp only [PhiE4] at d0; have d1 := hdep ⟨7, .data⟩ (by simp) rfl; simp only [PhiE4] at d1; refine ⟨?_⟩; simp only [fillR, Act.put, sA, sB, sC, Nat.zero_add, Nat.reduceAdd, d0, d1] at hK ⊢; go_simp; with_reducible refine hK _ _ (Below.refl _ _) ?_
         exact rfl
        ·intro vs W hS hdep K hK; have d0 := hdep ⟨8, .guard⟩ (by simp) rfl; simp only [PhiE4] at d0; refine ⟨?_⟩; simp only [fillR, Act.put, sA, sB, sC, Nat.zero_add, Nat.reduceAdd, d0] at hK ⊢; go_simp; with_reducible refine hK _ _ (Below.refl _ _) ?_
         exact rfl
        ·intro vs W hS hdep K hK; have d0 := hdep ⟨8, .guard⟩ (by simp) rfl; simp only [PhiE4] at d0; refine ⟨?_⟩; simp only [fillR, Act.put, sA, sB, sC, Nat.zero_add, Nat.reduceAdd, d0] at hK ⊢; go_simp; with_reducible refine hK _ _ (Below.refl _ _) ?_
         exact rfl
        ·intro vs W hS hdep K hK; have d0 := hdep ⟨8, .guard⟩ (by simp) rfl; simp only [PhiE4] at d0; refine ⟨?_⟩; simp only [fillR, Act.put, sA, sB, sC, Nat.zero_add, Nat.reduceAdd, d0] at hK ⊢; go_simp; with_reducible refine hK _ _ (Below.refl _ _) ?_
         exact rfl
        ·intro vs W hS hdep K hK; have d0 := hdep ⟨8, .guard⟩ (by simp) rfl; simp only [PhiE4] at d0; refine ⟨?_⟩; simp only [fillR, Act.put, sA, sB, sC, Nat.zero_add, Nat.reduceAdd, d0] at hK ⊢; go_simp; with_reducible refine hK _ _ (Below.refl _ _) ?_
         exact rfl
        ·intro vs W hS hdep K hK; have d0 := hdep ⟨3, .guard⟩ (by simp) rfl; simp only [PhiE4] at d0; have d1 := hdep ⟨8, .data⟩ (by simp) rfl; simp only [PhiE4] at d1; refine ⟨?_⟩; simp only [fillR, Act.put, sA, sB, sC, Nat.zero_add, Nat.reduceAdd, d0, d1] at hK ⊢; go_simp; with_reducible refine hK _ _ (Below.refl _ _) ?_
         exact rfl
        ·intro vs W hS hdep K hK; have d0 := hdep ⟨3, .data⟩ (by simp) rfl; simp only [PhiE4] at d0; have d1 := hdep ⟨13, .data⟩ (by simp) rfl; simp only [PhiE4] at d1; refine ⟨?_⟩; simp only [fillR, Act.put, sA, sB, sC, Nat.zero_add, Nat.reduceAdd, d0, d1] at hK ⊢; go_simp; with_reducible refine hK _ _ (Below.refl _ _) ?_
         exact rfl
       intro vs W4 hS hv; have v14 := hv 14 (by simp); simp only [PhiE4] at v14; simp only [fillR, Act.put, sA, sB, sC, Nat.zero_add, Nat.reduceAdd, v14]; clear hv v14; go_wp2_with fail
       go_meet
       case rel => exact ⟨false, rfl, hS, (by show _ ↔ _; simp; omega)⟩
    case rest => as_aux_lemma =>
     obtain ⟨r, rfl, hS, HR⟩ := hcut; have hx1 := hx1.below hS; have hx2 := hx2.below hS; have hra := hra.below hS; have hrb := hrb.below hS; have hbw := Below.tr hbw hS; clear hS HZ1 HZ3
     cases r
     ·have HC : Hid (¬ (p = q ∨ (a = 0 ∧ 0 < p))) := fun h => absurd (HR.out.2 h) (by simp)
      clear HR; go_wp2_with fail; refine (runit_n _).mono ?_; rintro e w9 ⟨v, rfl, hu, hb9⟩; obtain ⟨D1, m1, o1, D2, m2, o2, rfl⟩ := hu.shape; have hx1 := hx1.below hb9; have hx2 := hx2.below hb9; have hra := hra.below hb9; have hrb := hrb.below hb9; have hbw := Below.tr hbw hb9; clear hb9; have hD := Box.below (w := w9.alloc (.cells #[.slice D1 m1 o1, .slice D2 m2 o2] 24)) (g := w9.heap.size) (Blk.new _ _ _) (Below.refl _ _); have hab2 : a < b := by omega
      go_wp2_with fail
      go_loopg [8] 2049 (fun j x wr => ∃ (n : Nat) (A : Option Addr) (k c : Nat) (A' : Option Addr) (k' c' : Nat), x = .int .i64 ((n : Int) + 1) ∧ Box wr w9.heap.size (.slice A k c) (.slice A' k' c') ∧ Rat wr (.agg #[.slice A k c, .slice A' k' c']) (p ^ n) (q ^ n) ∧ Hid (Nm.Fits (p ^ n) (q ^ n)) ∧ Hid (∀ m, 1 ≤ m → m < n + 1 → ¬ Nm.Stop p q a b m) ∧ n + j = 2049 ∧ n + 1 ≤ 2048 ∧ Below w9.heap.size w9 wr)
      case atStart => exact ⟨0, D1, m1, o1, D2, m2, o2, rfl, hD, by rw [Nat.pow_zero, Nat.pow_zero]; exact hu.below (bA _ _), by show Nm.Fits _ _; rw [Nat.pow_zero, Nat.pow_zero]; exact Good_one.fits, fun m h1 h2 => by omega, rfl, by omega, bA _ _⟩
      case round =>
       clear hD hu; obtain ⟨n, A, k, c, A', k', c', rfl, hD, hu, HF, HS, hnj, hn, hbe⟩ := hrel; have hx1 := hx1.below hbe; have hx2 := hx2.below hbe; have hra := hra.below hbe; have hrb := hrb.below hbe; obtain ⟨f1, f2⟩ := hx1.facts; obtain ⟨f3, f4⟩ := hx2.facts; obtain ⟨f5, f6⟩ := hD.facts; have GP := ga.pow HF.out; obtain ⟨P, HP⟩ : ∃ P, Hid (P = p ^ n) := ⟨_, rfl⟩; obtain ⟨Q, HQ⟩ : ∃ Q, Hid (Q = q ^ n) := ⟨_, rfl⟩; rw [← HP.out, ← HQ.out] at hu GP; have t1 : decide ((n : Int) + 1 < 5000) = true := by simp; omega
       go_wp2_with fail; refine (rmul_n _ _ P Q p q _ hu hra GP ga).mono ?_; rintro e w11 ⟨v, er, rfl, hM, hb11⟩; obtain ⟨E1, n1, s1, E2, n2, s2, rfl⟩ := hM.shape; have hbe := Below.tr hbe hb11; have hx2 := hx2.below hb11; have hrb := hrb.below hb11; have hD := hD.below hb11; clear f1 f2 f3 f4 f5 f6; rw [HP.out, HQ.out] at hM
       rcases hM.pow ga with ⟨hF, rfl, hR⟩ | ⟨hF, rfl⟩
       ·have HF2 := Lib.hid hF; have hD := hD.below (bA w11 (.cells #[.slice E1 n1 s1, .slice E2 n2 s2] 24)); have hR := hR.below (bA w11 (.cells #[.slice E1 n1 s1, .slice E2 n2 s2] 24)); have hx2 := hx2.below (bA w11 (.cells #[.slice E1 n1 s1, .slice E2 n2 s2] 24)); have hrb := hrb.below (bA w11 (.cells #[.slice E1 n1 s1, .slice E2 n2 s2] 24)); have hbe := Below.tr hbe (bA w11 (.cells #[.slice E1 n1 s1, .slice E2 n2 s2] 24)); have hG := Box.below (w := w11.alloc (.cells #[.slice E1 n1 s1, .slice E2 n2 s2] 24)) (g := w11.heap.size) (Blk.new _ _ _) (Below.refl _ _); have GN := ga.pow hF; clear hF hM; obtain ⟨P', HP'⟩ : ∃ P', Hid (P' = p ^ (n + 1)) := ⟨_, rfl⟩; obtain ⟨Q', HQ'⟩ : ∃ Q', Hid (Q' = q ^ (n + 1)) := ⟨_, rfl⟩; rw [← HP'.out, ← HQ'.out] at hR GN; obtain ⟨W12, HW12⟩ : ∃ W12, Hid (W12 = w11.alloc (.cells #[.slice E1 n1 s1, .slice E2 n2 s2] 24)) := ⟨_, rfl⟩; rw [← HW12.out] at hD hR hx2 hrb hbe hG; obtain ⟨f3, f4⟩ := hx2.facts; rw [HW12.out] at f3 f4; go_wp2_with fail; rw [← HW12.out]; refine (rorder_n _ _ P' Q' a b _ hR hrb GN gb).mono ?_; rintro e w13 ⟨cc, rfl, hcc, hb13⟩; clear f3 f4 hx2 hrb hx1 hra; have hD := hD.below hb13; have hR := hR.below hb13; have hG := hG.below hb13; have hbe := Below.tr hbe hb13; obtain ⟨f5, f6⟩ := hD.facts; obtain ⟨f7, f8⟩ := hG.facts; by_cases hle : P' * b ≤ a * Q'
        ·have hc := cmp_le hle; rw [← hcc.out] at hc; have hd := decide_eq_true hc
         have HR : Hid (Nm.RetP p q a b ((n : Int) + 1) 0) := by
          rw [HP'.out, HQ'.out] at hle; exact .inr (.inr (.inr ⟨hpq, hab2, HC.out, n + 1, by omega, HS.out, .inr ⟨HF2.out, hle, by omega, rfl⟩⟩))
         clear hcc hle hc; go_wp2_with fail
         go_ret2
         exact ⟨_, _, rfl, HRA.out _ _ HR.out, Below.tr hbw hbe⟩
        ·have hlt : a * Q' < P' * b := by omega
         have hc := cmp_pos hlt; rw [← hcc.out] at hc; have hd : decide (cc ≤ 0) = false := by rw [hc]; rfl
         have HS2 : Hid (∀ m, 1 ≤ m → m < n + 1 + 1 → ¬ Nm.Stop p q a b m) := Nm.RetP.next HS.out HF2.out (by rw [← HP'.out, ← HQ'.out]; exact hlt); have hn1 : n + 1 + 1 ≤ 2048 := Nm.no_stop_le ga hpq (fun h => HC.out (.inl h)) HS2.out; have q7 := Blk.frozen hD 0; have q8 := Blk.frozen hD 1; have hR2 := hR.map (hD.sl.keep2 E1 E2 n1 s1 n2 s2); rw [HP'.out, HQ'.out] at hR2; have hD2 := Blk.set_ (Blk.set_ hD 0 (.slice E1 n1 s1)) 1 (.slice E2 n2 s2); have hbe2 := (hbe.setCell (p := ⟨w9.heap.size, 0, none⟩) (Nat.le_refl _) (.slice E1 n1 s1)).setCell (p := ⟨w9.heap.size, 1, none⟩) (Nat.le_refl _) (.slice E2 n2 s2); clear hcc hle hc hR hlt; go_wp2_with fail
         go_roundg (gk - 1)
         case measure => omega
         case rel => exact ⟨n + 1, E1, n1, s1, E2, n2, s2, by congr 1, hD2, hR2, HF2, HS2, by omega, hn1, hbe2⟩
       ·have HR : Hid (Nm.RetP p q a b 0 4) := .inr (.inr (.inr ⟨hpq, hab2, HC.out, n + 1, by omega, HS.out, .inl ⟨hF, rfl, rfl⟩⟩)); clear hF hM; go_wp2_with fail
        go_ret2
        exact ⟨_, _, rfl, HRA.out _ _ HR.out, Below.tr hbw (Below.tr hbe (bA _ _))⟩
     ·have HC : Hid (p = q ∨ (a = 0 ∧ 0 < p)) := HR.out.1 rfl; clear HR; have hab2 : a < b := by omega
      go_wp2_with fail
      go_ret2
      exact ⟨_, _, rfl, HRA.out _ _ (.inr (.inr (.inl ⟨hpq, hab2, HC.out, rfl, rfl⟩))), hbw⟩
  ·have HD : Hid (decide ((0 : Int) < CC) = true) := by show _ = _; have := cmp_pos (show 1 * q < p * 1 by omega); rw [← HCC.out] at this; simp; omega
   go_wp2_with fail; clear f1 f2 f3 f4 h0; refine region_inv (PhiC (.agg #[.slice A1 k1 c1, .slice A2 k2 c2]) CC true) (fun w w' => Below w.heap.size w w') (fun W => Below W1.heap.size W1 W) (by kernel_rfl) (by kernel_rfl) (by kernel_rfl) PhiC.keep (fun _ _ hR hS => Below.tr hS hR) (bD _) ?_ ?_
   ·refine sK ?_ (sK ?_ (sK ?_ (sK ?_ (sZ))))
    ·intro vs W hS hdep K hK; have f1 := (hx1.below hS).facts.1; have f2 := (hx1.below hS).facts.2; have f3 := (hx2.below hS).facts.1; have f4 := (hx2.below hS).facts.2; refine ⟨?_⟩; simp only [fillR, Act.put, sA, sB, sC, Nat.zero_add, Nat.reduceAdd] at hK ⊢; go_simp; with_reducible refine hK _ _ (Below.refl _ _) ?_
     exact rfl
    ·intro vs W hS hdep K hK; refine ⟨?_⟩; simp only [fillR, Act.put, sA, sB, sC, Nat.zero_add, Nat.reduceAdd] at hK ⊢; go_simp; refine (runit_n _).mono ?_; rintro e w' ⟨v, rfl, hr, hb⟩; go_wp2_with fail; with_reducible refine hK _ _ hb ?_
     exact hr
    ·intro vs W hS hdep K hK; have d0 := hdep ⟨0, .data⟩ (by simp) rfl; simp only [PhiC] at d0; have d1 := hdep ⟨1, .data⟩ (by simp) rfl; simp only [PhiC] at d1; have r1 := d1; clear d1; refine ⟨?_⟩; simp only [fillR, Act.put, sA, sB, sC, Nat.zero_add, Nat.reduceAdd, d0] at hK ⊢; go_simp; refine (rorder_n _ _ p q 1 1 _ (hra.below hS) r1 ga Good_one).mono ?_; rintro e w' ⟨cc, rfl, hcc, hb⟩; rw [show cc = CC from hcc.out.trans HCC.out.symm]; go_wp2_with fail; with_reducible refine hK _ _ hb ?_
     exact rfl
    ·intro vs W hS hdep K hK; have d0 := hdep ⟨2, .data⟩ (by simp) rfl; simp only [PhiC] at d0; have hd := HD.out; refine ⟨?_⟩; simp only [fillR, Act.put, sA, sB, sC, Nat.zero_add, Nat.reduceAdd, d0] at hK ⊢; go_simp; with_reducible refine hK _ _ (Below.refl _ _) ?_
     exact rfl
   intro vs W2 hS hv; have v3 := hv 3 (by simp); simp only [PhiC] at v3; simp only [fillR, Act.put, sA, sB, sC, Nat.zero_add, Nat.reduceAdd, v3]; have hx1 := hx1.below hS; have hx2 := hx2.below hS; have hra := hra.below hS; have hrb := hrb.below hS; have hbw := Below.tr hbw hS; clear hv v3 hS; go_wp2_with fail
   go_ret2
   exact ⟨_, _, rfl, HRA.out _ _ (.inl ⟨by omega, rfl, rfl⟩), hbw⟩
 ·have h0 : (E != 0) = true := by simpa using hE
  have HF : Hid (Nm.RetA L1 L2 L3 L4 0 E) := .inl ⟨by rw [← HE.out]; exact hE, rfl, HE.out⟩; clear hE HE; go_wp2_with fail
  go_ret2
  exact ⟨_, _, rfl, HF, hbw⟩
end Go.Proofs.Yticobffjnjbjiaa
namespace Go.Proofs.Yticobffjnjbjiaa
open Go
/- The same with a ghost beside the world: 'what belongs to whom'. -/
section
variable {P : Program} {ops : Array Oper} {Q : Exit → Act → World → Prop} {md : Region.Mode} {Γ : Type}
theorem wpAny_invg (Φ : Γ → Nat → World → Value → Prop) (R : Γ → World → Γ → World → Prop) (S : Γ → World → Prop) (a0 : Act) (hd : apartL ops.toList = true) (hb : backB ops = true)
  (hΦ : ∀ γ w γ' w', R γ w γ' w' → ∀ j x, Φ γ j w x → Φ γ' j w' x) (hS : ∀ γ w γ' w', R γ w γ' w' → S γ w → S γ' w')
  (hstep : ∀ i o, ops[i]? = some o → ∀ vs γ w, S γ w → (∀ e ∈ o.after, Region.binds md e = true → Φ γ e.on w (vs e.on)) →
   ∀ K : Act → World → Prop, (∀ v γ' w', R γ w γ' w' → Φ γ' i w' v → K ((fillR ops.toList 0 vs a0).put o.dst v) w') →
    if Region.wanted o (yielded ops (fillR ops.toList 0 vs a0).tmps) = true then Oper.wp P o (fillR ops.toList 0 vs a0) w K Q else K ((fillR ops.toList 0 vs a0).put o.dst undef) w)
  (hend : ∀ vs γ w, S γ w → (∀ i, i < ops.size → Φ γ i w (vs i)) → Q .normal (fillR ops.toList 0 vs a0) w) :
  ∀ (fuel : Nat) (listed : Array Bool) (vs : Nat → Value) (γ : Γ) (w : World), listed.size = ops.size → listed.toList.count false = fuel → S γ w → (∀ j, listed.getD j false = true → Φ γ j w (vs j)) →
   wpAny P md ops Q fuel listed (fillR ops.toList 0 vs a0) w := by
 intro fuel
 induction fuel with
 | zero =>
  intro listed vs γ w hs hc hSw hl
  have hall : ∀ i, i < ops.size → listed.getD i false = true := by
   intro i hi; have h' : i < listed.size := by omega
   rw [List.count_eq_zero] at hc
   cases hx : listed.getD i false with
   | true => rfl
   | false =>
    exfalso
    apply hc
    simp [h'] at hx; rw [← hx]; exact Array.getElem_mem_toList h'
  refine ⟨?_, hend vs γ w hSw (fun i hi => hl i (hall i hi))⟩; rw [List.eq_nil_iff_forall_not_mem]; intro i hi; obtain ⟨h1, o, ho, _⟩ := mem_ready.1 hi; have hi' : i < ops.size := (Array.getElem?_eq_some_iff.1 ho).1; have h2 := hall i hi'; have h' : i < listed.size := by omega
  simp [h'] at h1 h2; rw [h1] at h2
  cases h2
 | succ fuel ih =>
  intro listed vs γ w hs hc hSw hl; refine ⟨fun hr => hend vs γ w hSw (fun i hi => hl i (all_listed hb hs hr i hi)), fun i hi => ?_⟩; obtain ⟨h1, o, ho, hall⟩ := mem_ready.1 hi; have hi' : i < ops.size := (Array.getElem?_eq_some_iff.1 ho).1; have hil : i < listed.size := by omega
  refine wpOp_step ho fun K' hK => ?_
  refine hstep i o ho vs γ w hSw (fun e he hbd => hl e.on (hall e he hbd)) K' fun v γ' w' hR hv => ?_
  apply hK
  rw [fillR_upd ops.toList 0 i vs a0 o v hd (by simpa using ho), Nat.zero_add]; refine ih _ _ γ' _ (by simp [hs]) ?_ (hS _ _ _ _ hR hSw) ?_
  ·have h1' : listed.toList[i]'(by simpa using hil) = false := by simp [hil] at h1; simpa using h1
   simp only [Array.toList_setIfInBounds]; rw [List.count_set (by simpa using hil), h1', hc]; simp
  ·intro j hj; by_cases hji : j = i
   ·subst hji; rw [show upd vs j v j = v from if_pos rfl]; exact hv
   ·rw [show upd vs i v j = vs j from if_neg hji]; refine hΦ _ _ _ _ hR j _ (hl j ?_); simp [Array.getElem?_setIfInBounds, Ne.symm hji] at hj
    simpa using hj
/-- what an operation owes, with a ghost -/
def OwesG (P : Program) (Q : Exit → Act → World → Prop) (l : List Oper) (a0 : Act) (Φ : Γ → Nat → World → Value → Prop) (R : Γ → World → Γ → World → Prop) (S : Γ → World → Prop) (i : Nat) (o : Oper) : Prop :=
 ∀ vs γ w, S γ w → (∀ e ∈ o.after.toList, Region.binds .any e = true → Φ γ e.on w (vs e.on)) → ∀ K : Act → World → Prop, (∀ v γ' w', R γ w γ' w' → Φ γ' i w' v → K ((fillR l 0 vs a0).put o.dst v) w') →
  Wrap (if Region.wanted o (yielded l.toArray (fillR l 0 vs a0).tmps) = true then Oper.wp P o (fillR l 0 vs a0) w K Q else K ((fillR l 0 vs a0).put o.dst undef) w)
theorem region_invg {id : Nat} {a0 : Act} {w : World} {l : List Oper} (Φ : Γ → Nat → World → Value → Prop) (R : Γ → World → Γ → World → Prop) (S : Γ → World → Prop) (γ0 : Γ) (hm : P.follows .mixedOrders = true) (hd : apartL l = true) (hb : backB l.toArray = true)
  (hΦ : ∀ γ w γ' w', R γ w γ' w' → ∀ j x, Φ γ j w x → Φ γ' j w' x) (hS : ∀ γ w γ' w', R γ w γ' w' → S γ w → S γ' w') (hS0 : S γ0 w.drew)
  (hstep : StepsL (OwesG P Q l a0 Φ R S) 0 l)
  (hend : ∀ vs γ w, S γ w → (∀ i, i < l.length → Φ γ i w (vs i)) → Q .normal (fillR l 0 vs a0) w) : (Code.region id l.toArray true).wp P Q a0 w := by
 refine wp_region_any hm ?_
 have h := wpAny_invg (P := P) (Q := Q) (md := .any) (ops := l.toArray) Φ R S a0 hd hb hΦ hS (fun i o ho vs γ w hSw hdep K hK => by
  have := hstep i o (by simpa using ho); rw [Nat.zero_add] at this
  exact (this vs γ w hSw (fun e he hbd => hdep e (by simpa using he) hbd) K hK).un) (fun vs γ w hSw h => hend vs γ w hSw (fun i hi => h i (by simpa using hi))) l.toArray.size (Array.replicate l.toArray.size false) (ownV l a0) γ0 w.drew (by simp) (by simp) hS0 (fun j hj => by rw [repF] at hj; cases hj)
 rw [fillR_id] at h
 ·exact h
 ·intro j o ho d hd'; rw [Nat.zero_add]; unfold ownV; rw [ho]; simp [hd']
end
end Go.Proofs.Yticobffjnjbjiaa
