import Derived.Test.YtijkfagkbfbpmaaGreatDoorKSt34Proof11
import Derived.Deep.QuietTactic
import Derived.BigQuiet
import Derived.Test.YtijkfagkbfbpmaaGreatDoorS0
set_option linter.unusedVariables false
set_option linter.unusedSimpArgs false
namespace Go.Proofs.YtijkfagkbfbpmaaGreatDoor
open Go.RowKit
def PhiV0 (b : Nat) (a1 : Value) (t1 k1 : Nat) (j : Nat) (w : World) (x : Value) : Prop :=
 match j with
 | 0 => x = .pointer (some ⟨b, 0, none⟩)
 | 1 => x = a1
 | 2 => ∃ A c, x = .slice A t1 c
 | 3 => x = .int .i64 t1
 | 4 => x = .pointer (some ⟨b, 0, none⟩)
 | 5 => x = a1
 | 6 => x = .int .i64 k1
 | 7 => x = .bool false
 | 8 => x = .bool false
 | 9 => x = undef
 | 10 => x = undef
 | 11 => x = undef
 | 12 => x = undef
 | 13 => x = undef
 | 14 => x = undef
 | 15 => x = undef
 | 16 => x = undef
 | 17 => x = .bool false
 | 18 => x = .bool false
 | _ => True
def PhiV1 (r : Bool) (b : Nat) (a1 a2 : Value) (t1 k1 t2 k2 : Nat) (j : Nat) (w : World) (x : Value) : Prop :=
 match j with
 | 0 => x = .pointer (some ⟨b, 0, none⟩)
 | 1 => x = a1
 | 2 => ∃ A c, x = .slice A t1 c
 | 3 => x = .int .i64 t1
 | 4 => x = .pointer (some ⟨b, 0, none⟩)
 | 5 => x = a1
 | 6 => x = .int .i64 k1
 | 7 => x = .bool true
 | 8 => x = .bool true
 | 9 => x = .pointer (some ⟨b, 1, none⟩)
 | 10 => x = a2
 | 11 => ∃ A c, x = .slice A t2 c
 | 12 => x = .int .i64 t2
 | 13 => x = .pointer (some ⟨b, 1, none⟩)
 | 14 => x = a2
 | 15 => x = .int .i64 k2
 | 16 => x = .bool r
 | 17 => x = .bool r
 | 18 => x = .bool r
 | _ => True
set_option maxRecDepth 10000 in
set_option maxHeartbeats 2000000 in
theorem rvalid_any (A1 A2 : Option Addr) (k1 c1 k2 c2 : Nat) (l1 l2 : List Nat) (w : World) (h1 : Lim w A1 c1 l1) (h2 : Lim w A2 c2 l2) (e1 : k1 = l1.length) (e2 : k2 = l2.length) :
  Calls Tryz.prog 61 #[.agg #[.slice A1 k1 c1, .slice A2 k2 c2]] w fun e w' => e = .returned (.int .i64 (Nm.validE l1 l2)) ∧ Below w.heap.size w w' := by
 have hkb1 : k1 ≤ 9223372036854775807 := by have := h1.2.1; have := h1.2.2.1; omega
 have hkb2 : k2 ≤ 9223372036854775807 := by have := h2.2.1; have := h2.2.2.1; omega
 have E1 := Lib.hid e1; have E2 := Lib.hid e2; obtain ⟨E, HE⟩ : ∃ E, Hid (E = Nm.validE l1 l2) := ⟨_, rfl⟩; rw [← HE.out]; by_cases hs1 : 64 < k1
 ·have hv : E = 4 := by rw [HE.out]; exact Nm.validE_big1 (by omega)
  clear e1 e2; subst hv; have hd1 : decide ((64 : Int) < (k1 : Int)) = true := by simp; omega
  go_enter Tryz.func61, Tryz.ntmps61
  go_wp2
  go_ret; exact ⟨rfl, bA _ _⟩
 by_cases hs2 : 64 < k2
 ·have hv : E = 4 := by rw [HE.out]; exact Nm.validE_big2 (by omega)
  clear e1 e2; subst hv; have hd1 : decide ((64 : Int) < (k1 : Int)) = false := by simp; omega
  have hd2 : decide ((64 : Int) < (k2 : Int)) = true := by simp; omega
  go_enter Tryz.func61, Tryz.ntmps61
  go_wp2
  go_ret; exact ⟨rfl, bA _ _⟩
 have hd1 : decide ((64 : Int) < (k1 : Int)) = false := by simp; omega
 have hd2 : decide ((64 : Int) < (k2 : Int)) = false := by simp; omega
 obtain ⟨t1, HT1⟩ : ∃ t1, Hid (t1 = (Nm.lb (Nm.nv l1)).length) := ⟨_, rfl⟩; obtain ⟨t2, HT2⟩ : ∃ t2, Hid (t2 = (Nm.lb (Nm.nv l2)).length) := ⟨_, rfl⟩; have hB := Nm.validE_bad (l1 := l1) (l2 := l2) (by omega) (by omega); have hG := Nm.validE_good (l1 := l1) (l2 := l2) (by omega) (by omega); have ht1 : t1 ≤ k1 := by rw [HT1.out, e1]; exact Nm.lb_nv_le h1.limb
 have ht2 : t2 ≤ k2 := by rw [HT2.out, e2]; exact Nm.lb_nv_le h2.limb
 rw [← HT1.out, ← HT2.out, ← e1, ← e2, ← HE.out] at hB hG; have HB := Lib.hid hB; have HG := Lib.hid hG; clear hB hG e1 e2; by_cases q1 : t1 < k1
 ·obtain rfl : E = 1 := HB.out (.inl q1); have HE1 : Hid (((t1 : Int) == (k1 : Int)) = false) := by show _ = _; simp; omega
  clear HB HG hd1 hd2; have hd1 : decide ((64 : Int) < (k1 : Int)) = false := by simp; omega
  have hd2 : decide ((64 : Int) < (k2 : Int)) = false := by simp; omega
  go_enter Tryz.func61, Tryz.ntmps61
  go_wp2_with fail; obtain ⟨w2, hw2⟩ : ∃ w2, w2 = w.alloc (.cells #[.slice A1 k1 c1, .slice A2 k2 c2] 29) := ⟨_, rfl⟩; have hbw : Below w.heap.size w w2 := by rw [hw2]; exact bA _ _
  have hx1 : Box w2 w.heap.size (.slice A1 k1 c1) (.slice A2 k2 c2) := by rw [hw2]; exact Blk.new w _ _
  rw [← hw2]; clear hw2; refine region_inv (PhiV0 w.heap.size (.slice A1 k1 c1) t1 k1) (fun w w' => Below w.heap.size w w') (fun W => Below w2.heap.size w2 W) (by kernel_rfl) (by kernel_rfl) (by kernel_rfl) (fun _ _ _ _ _ h => h) (fun _ _ hR hS => Below.tr hS hR) (bD _) ?_ ?_
  ·refine sK ?_ (sK ?_ (sK ?_ (sK ?_ (sK ?_ (sK ?_ (sK ?_ (sK ?_ (sK ?_ (sK ?_ (sK ?_ (sK ?_ (sK ?_ (sK ?_ (sK ?_ (sK ?_ (sK ?_ (sK ?_ (sK ?_ (sZ)))))))))))))))))))
   ·intro vs W hS hdep K hK; refine ⟨?_⟩; simp only [fillR, Act.put, sA, sB, sC, Nat.zero_add, Nat.reduceAdd] at hK ⊢; go_simp; with_reducible refine hK _ _ (Below.refl _ _) ?_
    exact rfl
   ·intro vs W hS hdep K hK; have d0 := hdep ⟨0, .data⟩ (by simp) rfl; simp only [PhiV0] at d0; have f1 := (hx1.below hS).facts.1; have f2 := (hx1.below hS).facts.2; refine ⟨?_⟩; simp only [fillR, Act.put, sA, sB, sC, Nat.zero_add, Nat.reduceAdd, d0] at hK ⊢; go_simp; with_reducible refine hK _ _ (Below.refl _ _) ?_
    exact rfl
   ·intro vs W hS hdep K hK; have d0 := hdep ⟨1, .data⟩ (by simp) rfl; simp only [PhiV0] at d0; refine ⟨?_⟩; simp only [fillR, Act.put, sA, sB, sC, Nat.zero_add, Nat.reduceAdd, d0] at hK ⊢; go_simp; refine (rtrim_n _ _ _ l1 _ (h1.below (Below.tr hbw hS)) E1.out (by omega)).mono ?_; rintro e w' ⟨A', k', c', rfl, hn, hb⟩; go_wp2_with fail; with_reducible refine hK _ _ hb ?_
    exact ⟨A', c', by rw [hn.1, ← HT1.out]⟩
   ·intro vs W hS hdep K hK; have d0 := hdep ⟨2, .data⟩ (by simp) rfl; simp only [PhiV0] at d0; refine @exE2 _ _ _ _ d0 ?_; clear d0; intro Az0 cz0 d0; have ez0 := d0; clear d0; refine ⟨?_⟩; simp only [fillR, Act.put, sA, sB, sC, Nat.zero_add, Nat.reduceAdd, ez0] at hK ⊢; go_simp; with_reducible refine hK _ _ (Below.refl _ _) ?_
    exact rfl
   ·intro vs W hS hdep K hK; refine ⟨?_⟩; simp only [fillR, Act.put, sA, sB, sC, Nat.zero_add, Nat.reduceAdd] at hK ⊢; go_simp; with_reducible refine hK _ _ (Below.refl _ _) ?_
    exact rfl
   ·intro vs W hS hdep K hK; have d0 := hdep ⟨4, .data⟩ (by simp) rfl; simp only [PhiV0] at d0; have f1 := (hx1.below hS).facts.1; have f2 := (hx1.below hS).facts.2; refine ⟨?_⟩; simp only [fillR, Act.put, sA, sB, sC, Nat.zero_add, Nat.reduceAdd, d0] at hK ⊢; go_simp; with_reducible refine hK _ _ (Below.refl _ _) ?_
    exact rfl
   ·intro vs W hS hdep K hK; have d0 := hdep ⟨5, .data⟩ (by simp) rfl; simp only [PhiV0] at d0; refine ⟨?_⟩; simp only [fillR, Act.put, sA, sB, sC, Nat.zero_add, Nat.reduceAdd, d0] at hK ⊢; go_simp; with_reducible refine hK _ _ (Below.refl _ _) ?_
    exact rfl
   ·intro vs W hS hdep K hK; have d0 := hdep ⟨3, .data⟩ (by simp) rfl; simp only [PhiV0] at d0; have d1 := hdep ⟨6, .data⟩ (by simp) rfl; simp only [PhiV0] at d1; have hq := HE1.out; refine ⟨?_⟩; simp only [fillR, Act.put, sA, sB, sC, Nat.zero_add, Nat.reduceAdd, d0, d1] at hK ⊢; go_simp; with_reducible refine hK _ _ (Below.refl _ _) ?_
    exact rfl
   ·intro vs W hS hdep K hK; have d0 := hdep ⟨7, .data⟩ (by simp) rfl; simp only [PhiV0] at d0; refine ⟨?_⟩; simp only [fillR, Act.put, sA, sB, sC, Nat.zero_add, Nat.reduceAdd, d0] at hK ⊢; go_simp; with_reducible refine hK _ _ (Below.refl _ _) ?_
    exact rfl
   ·intro vs W hS hdep K hK; have d0 := hdep ⟨8, .guard⟩ (by simp) rfl; simp only [PhiV0] at d0; refine ⟨?_⟩; simp only [fillR, Act.put, sA, sB, sC, Nat.zero_add, Nat.reduceAdd, d0] at hK ⊢; go_simp; with_reducible refine hK _ _ (Below.refl _ _) ?_
    exact rfl
   ·intro vs W hS hdep K hK; have d0 := hdep ⟨8, .guard⟩ (by simp) rfl; simp only [PhiV0] at d0; refine ⟨?_⟩; simp only [fillR, Act.put, sA, sB, sC, Nat.zero_add, Nat.reduceAdd, d0] at hK ⊢; go_simp; with_reducible refine hK _ _ (Below.refl _ _) ?_
    exact rfl
   ·intro vs W hS hdep K hK; have d0 := hdep ⟨8, .guard⟩ (by simp) rfl; simp only [PhiV0] at d0; refine ⟨?_⟩; simp only [fillR, Act.put, sA, sB, sC, Nat.zero_add, Nat.reduceAdd, d0] at hK ⊢; go_simp; with_reducible refine hK _ _ (Below.refl _ _) ?_
    exact rfl
   ·intro vs W hS hdep K hK; have d0 := hdep ⟨8, .guard⟩ (by simp) rfl; simp only [PhiV0] at d0; refine ⟨?_⟩; simp only [fillR, Act.put, sA, sB, sC, Nat.zero_add, Nat.reduceAdd, d0] at hK ⊢; go_simp; with_reducible refine hK _ _ (Below.refl _ _) ?_
    exact rfl
   ·intro vs W hS hdep K hK; have d0 := hdep ⟨8, .guard⟩ (by simp) rfl; simp only [PhiV0] at d0; refine ⟨?_⟩; simp only [fillR, Act.put, sA, sB, sC, Nat.zero_add, Nat.reduceAdd, d0] at hK ⊢; go_simp; with_reducible refine hK _ _ (Below.refl _ _) ?_
    exact rfl
   ·intro vs W hS hdep K hK; have d0 := hdep ⟨8, .guard⟩ (by simp) rfl; simp only [PhiV0] at d0; refine ⟨?_⟩; simp only [fillR, Act.put, sA, sB, sC, Nat.zero_add, Nat.reduceAdd, d0] at hK ⊢; go_simp; with_reducible refine hK _ _ (Below.refl _ _) ?_
    exact rfl
   ·intro vs W hS hdep K hK; have d0 := hdep ⟨8, .guard⟩ (by simp) rfl; simp only [PhiV0] at d0; refine ⟨?_⟩; simp only [fillR, Act.put, sA, sB, sC, Nat.zero_add, Nat.reduceAdd, d0] at hK ⊢; go_simp; with_reducible refine hK _ _ (Below.refl _ _) ?_
    exact rfl
   ·intro vs W hS hdep K hK; have d0 := hdep ⟨8, .guard⟩ (by simp) rfl; simp only [PhiV0] at d0; refine ⟨?_⟩; simp only [fillR, Act.put, sA, sB, sC, Nat.zero_add, Nat.reduceAdd, d0] at hK ⊢; go_simp; with_reducible refine hK _ _ (Below.refl _ _) ?_
    exact rfl
   ·intro vs W hS hdep K hK; have d0 := hdep ⟨8, .data⟩ (by simp) rfl; simp only [PhiV0] at d0; refine ⟨?_⟩; simp only [fillR, Act.put, sA, sB, sC, Nat.zero_add, Nat.reduceAdd, d0] at hK ⊢; go_simp; with_reducible refine hK _ _ (Below.refl _ _) ?_
    exact rfl
   ·intro vs W hS hdep K hK; have d0 := hdep ⟨17, .data⟩ (by simp) rfl; simp only [PhiV0] at d0; refine ⟨?_⟩; simp only [fillR, Act.put, sA, sB, sC, Nat.zero_add, Nat.reduceAdd, d0] at hK ⊢; go_simp; with_reducible refine hK _ _ (Below.refl _ _) ?_
    exact rfl
  intro vs W hS hv; have v18 := hv 18 (by simp); simp only [PhiV0] at v18; simp only [fillR, Act.put, sA, sB, sC, Nat.zero_add, Nat.reduceAdd, v18]; have f1 := (hx1.below hS).facts.1; have f2 := (hx1.below hS).facts.2; have hbW := Below.tr hbw hS; clear hv v18 hS; go_wp2_with fail; go_ret; exact ⟨rfl, hbW⟩
 have HE1 : Hid (((t1 : Int) == (k1 : Int)) = true) := by show _ = _; simp; omega
 by_cases q2 : t2 < k2
 ·obtain rfl : E = 1 := HB.out (.inr (.inl q2)); have HE2 : Hid (((t2 : Int) == (k2 : Int)) = false) := by show _ = _; simp; omega
  clear HB HG
  go_enter Tryz.func61, Tryz.ntmps61
  go_wp2_with fail; obtain ⟨w2, hw2⟩ : ∃ w2, w2 = w.alloc (.cells #[.slice A1 k1 c1, .slice A2 k2 c2] 29) := ⟨_, rfl⟩; have hbw : Below w.heap.size w w2 := by rw [hw2]; exact bA _ _
  have hx1 : Box w2 w.heap.size (.slice A1 k1 c1) (.slice A2 k2 c2) := by rw [hw2]; exact Blk.new w _ _
  rw [← hw2]; clear hw2; refine region_inv (PhiV1 false w.heap.size (.slice A1 k1 c1) (.slice A2 k2 c2) t1 k1 t2 k2) (fun w w' => Below w.heap.size w w') (fun W => Below w2.heap.size w2 W) (by kernel_rfl) (by kernel_rfl) (by kernel_rfl) (fun _ _ _ _ _ h => h) (fun _ _ hR hS => Below.tr hS hR) (bD _) ?_ ?_
  ·refine sK ?_ (sK ?_ (sK ?_ (sK ?_ (sK ?_ (sK ?_ (sK ?_ (sK ?_ (sK ?_ (sK ?_ (sK ?_ (sK ?_ (sK ?_ (sK ?_ (sK ?_ (sK ?_ (sK ?_ (sK ?_ (sK ?_ (sZ)))))))))))))))))))
   ·intro vs W hS hdep K hK; refine ⟨?_⟩; simp only [fillR, Act.put, sA, sB, sC, Nat.zero_add, Nat.reduceAdd] at hK ⊢; go_simp; with_reducible refine hK _ _ (Below.refl _ _) ?_
    exact rfl
   ·intro vs W hS hdep K hK; have d0 := hdep ⟨0, .data⟩ (by simp) rfl; simp only [PhiV1] at d0; have f1 := (hx1.below hS).facts.1; have f2 := (hx1.below hS).facts.2; refine ⟨?_⟩; simp only [fillR, Act.put, sA, sB, sC, Nat.zero_add, Nat.reduceAdd, d0] at hK ⊢; go_simp; with_reducible refine hK _ _ (Below.refl _ _) ?_
    exact rfl
   ·intro vs W hS hdep K hK; have d0 := hdep ⟨1, .data⟩ (by simp) rfl; simp only [PhiV1] at d0; refine ⟨?_⟩; simp only [fillR, Act.put, sA, sB, sC, Nat.zero_add, Nat.reduceAdd, d0] at hK ⊢; go_simp; refine (rtrim_n _ _ _ l1 _ (h1.below (Below.tr hbw hS)) E1.out (by omega)).mono ?_; rintro e w' ⟨A', k', c', rfl, hn, hb⟩; go_wp2_with fail; with_reducible refine hK _ _ hb ?_
    exact ⟨A', c', by rw [hn.1, ← HT1.out]⟩
   ·intro vs W hS hdep K hK; have d0 := hdep ⟨2, .data⟩ (by simp) rfl; simp only [PhiV1] at d0; refine @exE2 _ _ _ _ d0 ?_; clear d0; intro Az0 cz0 d0; have ez0 := d0; clear d0; refine ⟨?_⟩; simp only [fillR, Act.put, sA, sB, sC, Nat.zero_add, Nat.reduceAdd, ez0] at hK ⊢; go_simp; with_reducible refine hK _ _ (Below.refl _ _) ?_
    exact rfl
   ·intro vs W hS hdep K hK; refine ⟨?_⟩; simp only [fillR, Act.put, sA, sB, sC, Nat.zero_add, Nat.reduceAdd] at hK ⊢; go_simp; with_reducible refine hK _ _ (Below.refl _ _) ?_
    exact rfl
   ·intro vs W hS hdep K hK; have d0 := hdep ⟨4, .data⟩ (by simp) rfl; simp only [PhiV1] at d0; have f1 := (hx1.below hS).facts.1; have f2 := (hx1.below hS).facts.2; refine ⟨?_⟩; simp only [fillR, Act.put, sA, sB, sC, Nat.zero_add, Nat.reduceAdd, d0] at hK ⊢; go_simp; with_reducible refine hK _ _ (Below.refl _ _) ?_
    exact rfl
   ·intro vs W hS hdep K hK; have d0 := hdep ⟨5, .data⟩ (by simp) rfl; simp only [PhiV1] at d0; refine ⟨?_⟩; simp only [fillR, Act.put, sA, sB, sC, Nat.zero_add, Nat.reduceAdd, d0] at hK ⊢; go_simp; with_reducible refine hK _ _ (Below.refl _ _) ?_
    exact rfl
   ·intro vs W hS hdep K hK; have d0 := hdep ⟨3, .data⟩ (by simp) rfl; simp only [PhiV1] at d0; have d1 := hdep ⟨6, .data⟩ (by simp) rfl; simp only [PhiV1] at d1; have hq := HE1.out; refine ⟨?_⟩; simp only [fillR, Act.put, sA, sB, sC, Nat.zero_add, Nat.reduceAdd, d0, d1] at hK ⊢; go_simp; with_reducible refine hK _ _ (Below.refl _ _) ?_
    exact rfl
   ·intro vs W hS hdep K hK; have d0 := hdep ⟨7, .data⟩ (by simp) rfl; simp only [PhiV1] at d0; refine ⟨?_⟩; simp only [fillR, Act.put, sA, sB, sC, Nat.zero_add, Nat.reduceAdd, d0] at hK ⊢; go_simp; with_reducible refine hK _ _ (Below.refl _ _) ?_
    exact rfl
   ·intro vs W hS hdep K hK; have d0 := hdep ⟨8, .guard⟩ (by simp) rfl; simp only [PhiV1] at d0; refine ⟨?_⟩; simp only [fillR, Act.put, sA, sB, sC, Nat.zero_add, Nat.reduceAdd, d0] at hK ⊢; go_simp; with_reducible refine hK _ _ (Below.refl _ _) ?_
    exact rfl
   ·intro vs W hS hdep K hK; have d0 := hdep ⟨8, .guard⟩ (by simp) rfl; simp only [PhiV1] at d0; have d1 := hdep ⟨9, .data⟩ (by simp) rfl; simp only [PhiV1] at d1; have f1 := (hx1.below hS).facts.1; have f2 := (hx1.below hS).facts.2; refine ⟨?_⟩; simp only [fillR, Act.put, sA, sB, sC, Nat.zero_add, Nat.reduceAdd, d0, d1] at hK ⊢; go_simp; with_reducible refine hK _ _ (Below.refl _ _) ?_
    exact rfl
   ·intro vs W hS hdep K hK; have d0 := hdep ⟨8, .guard⟩ (by simp) rfl; simp only [PhiV1] at d0; have d1 := hdep ⟨10, .data⟩ (by simp) rfl; simp only [PhiV1] at d1; refine ⟨?_⟩; simp only [fillR, Act.put, sA, sB, sC, Nat.zero_add, Nat.reduceAdd, d0, d1] at hK ⊢; go_simp; refine (rtrim_n _ _ _ l2 _ (h2.below (Below.tr hbw hS)) E2.out (by omega)).mono ?_; rintro e w' ⟨A', k', c', rfl, hn, hb⟩; go_wp2_with fail; with_reducible refine hK _ _ hb ?_
    exact ⟨A', c', by rw [hn.1, ← HT2.out]⟩
   ·intro vs W hS hdep K hK; have d0 := hdep ⟨8, .guard⟩ (by simp) rfl; simp only [PhiV1] at d0; have d1 := hdep ⟨11, .data⟩ (by simp) rfl; simp only [PhiV1] at d1; refine @exE2 _ _ _ _ d1 ?_; clear d1; intro Az1 cz1 d1; have ez1 := d1; clear d1; refine ⟨?_⟩; simp only [fillR, Act.put, sA, sB, sC, Nat.zero_add, Nat.reduceAdd, d0, ez1] at hK ⊢; go_simp; with_reducible refine hK _ _ (Below.refl _ _) ?_
    exact rfl
   ·intro vs W hS hdep K hK; have d0 := hdep ⟨8, .guard⟩ (by simp) rfl; simp only [PhiV1] at d0; refine ⟨?_⟩; simp only [fillR, Act.put, sA, sB, sC, Nat.zero_add, Nat.reduceAdd, d0] at hK ⊢; go_simp; with_reducible refine hK _ _ (Below.refl _ _) ?_
    exact rfl
   ·intro vs W hS hdep K hK; have d0 := hdep ⟨8, .guard⟩ (by simp) rfl; simp only [PhiV1] at d0; have d1 := hdep ⟨13, .data⟩ (by simp) rfl; simp only [PhiV1] at d1; have f1 := (hx1.below hS).facts.1; have f2 := (hx1.below hS).facts.2; refine ⟨?_⟩; simp only [fillR, Act.put, sA, sB, sC, Nat.zero_add, Nat.reduceAdd, d0, d1] at hK ⊢; go_simp; with_reducible refine hK _ _ (Below.refl _ _) ?_
    exact rfl
   ·intro vs W hS hdep K hK; have d0 := hdep ⟨8, .guard⟩ (by simp) rfl; simp only [PhiV1] at d0; have d1 := hdep ⟨14, .data⟩ (by simp) rfl; simp only [PhiV1] at d1; refine ⟨?_⟩; simp only [fillR, Act.put, sA, sB, sC, Nat.zero_add, Nat.reduceAdd, d0, d1] at hK ⊢; go_simp; with_reducible refine hK _ _ (Below.refl _ _) ?_
    exact rfl
   ·intro vs W hS hdep K hK; have d0 := hdep ⟨8, .guard⟩ (by simp) rfl; simp only [PhiV1] at d0; have d1 := hdep ⟨12, .data⟩ (by simp) rfl; simp only [PhiV1] at d1; have d2 := hdep ⟨15, .data⟩ (by simp) rfl; simp only [PhiV1] at d2; have hq := HE2.out; refine ⟨?_⟩; simp only [fillR, Act.put, sA, sB, sC, Nat.zero_add, Nat.reduceAdd, d0, d1, d2] at hK ⊢; go_simp; with_reducible refine hK _ _ (Below.refl _ _) ?_
    exact rfl
   ·intro vs W hS hdep K hK; have d0 := hdep ⟨8, .data⟩ (by simp) rfl; simp only [PhiV1] at d0; have d1 := hdep ⟨16, .data⟩ (by simp) rfl; simp only [PhiV1] at d1; refine ⟨?_⟩; simp only [fillR, Act.put, sA, sB, sC, Nat.zero_add, Nat.reduceAdd, d0, d1] at hK ⊢; go_simp; with_reducible refine hK _ _ (Below.refl _ _) ?_
    exact rfl
   ·intro vs W hS hdep K hK; have d0 := hdep ⟨17, .data⟩ (by simp) rfl; simp only [PhiV1] at d0; refine ⟨?_⟩; simp only [fillR, Act.put, sA, sB, sC, Nat.zero_add, Nat.reduceAdd, d0] at hK ⊢; go_simp; with_reducible refine hK _ _ (Below.refl _ _) ?_
    exact rfl
  intro vs W hS hv; have v18 := hv 18 (by simp); simp only [PhiV1] at v18; simp only [fillR, Act.put, sA, sB, sC, Nat.zero_add, Nat.reduceAdd, v18]; have f1 := (hx1.below hS).facts.1; have f2 := (hx1.below hS).facts.2; have hbW := Below.tr hbw hS; clear hv v18 hS; go_wp2_with fail; go_ret; exact ⟨rfl, hbW⟩
 have HE2 : Hid (((t2 : Int) == (k2 : Int)) = true) := by show _ = _; simp; omega
 have n1 : Nb w A1 k1 c1 (Nm.nv l1) := by
  have h := Nm.lb_of_len h1.limb (by rw [← HT1.out, ← E1.out]; exact q1); exact ⟨by rw [h, E1.out], by rw [h]; exact h1⟩
 have n2 : Nb w A2 k2 c2 (Nm.nv l2) := by
  have h := Nm.lb_of_len h2.limb (by rw [← HT2.out, ← E2.out]; exact q2); exact ⟨by rw [h, E2.out], by rw [h]; exact h2⟩
 have hq1 : ¬ t1 < k1 := q1; have hq2 : ¬ t2 < k2 := q2; clear q1 q2
 go_enter Tryz.func61, Tryz.ntmps61
 go_wp2_with fail; obtain ⟨w2, hw2⟩ : ∃ w2, w2 = w.alloc (.cells #[.slice A1 k1 c1, .slice A2 k2 c2] 29) := ⟨_, rfl⟩; have hbw : Below w.heap.size w w2 := by rw [hw2]; exact bA _ _
 have hx1 : Box w2 w.heap.size (.slice A1 k1 c1) (.slice A2 k2 c2) := by rw [hw2]; exact Blk.new w _ _
 rw [← hw2]; clear hw2; refine region_inv (PhiV1 true w.heap.size (.slice A1 k1 c1) (.slice A2 k2 c2) t1 k1 t2 k2) (fun w w' => Below w.heap.size w w') (fun W => Below w2.heap.size w2 W) (by kernel_rfl) (by kernel_rfl) (by kernel_rfl) (fun _ _ _ _ _ h => h) (fun _ _ hR hS => Below.tr hS hR) (bD _) ?_ ?_
 ·refine sK ?_ (sK ?_ (sK ?_ (sK ?_ (sK ?_ (sK ?_ (sK ?_ (sK ?_ (sK ?_ (sK ?_ (sK ?_ (sK ?_ (sK ?_ (sK ?_ (sK ?_ (sK ?_ (sK ?_ (sK ?_ (sK ?_ (sZ)))))))))))))))))))
  ·intro vs W hS hdep K hK; refine ⟨?_⟩; simp only [fillR, Act.put, sA, sB, sC, Nat.zero_add, Nat.reduceAdd] at hK ⊢; go_simp; with_reducible refine hK _ _ (Below.refl _ _) ?_
   exact rfl
  ·intro vs W hS hdep K hK; have d0 := hdep ⟨0, .data⟩ (by simp) rfl; simp only [PhiV1] at d0; have f1 := (hx1.below hS).facts.1; have f2 := (hx1.below hS).facts.2; refine ⟨?_⟩; simp only [fillR, Act.put, sA, sB, sC, Nat.zero_add, Nat.reduceAdd, d0] at hK ⊢; go_simp; with_reducible refine hK _ _ (Below.refl _ _) ?_
   exact rfl
  ·intro vs W hS hdep K hK; have d0 := hdep ⟨1, .data⟩ (by simp) rfl; simp only [PhiV1] at d0; refine ⟨?_⟩; simp only [fillR, Act.put, sA, sB, sC, Nat.zero_add, Nat.reduceAdd, d0] at hK ⊢; go_simp; refine (rtrim_n _ _ _ l1 _ (h1.below (Below.tr hbw hS)) E1.out (by omega)).mono ?_; rintro e w' ⟨A', k', c', rfl, hn, hb⟩; go_wp2_with fail; with_reducible refine hK _ _ hb ?_
   exact ⟨A', c', by rw [hn.1, ← HT1.out]⟩
  ·intro vs W hS hdep K hK; have d0 := hdep ⟨2, .data⟩ (by simp) rfl; simp only [PhiV1] at d0; refine @exE2 _ _ _ _ d0 ?_; clear d0; intro Az0 cz0 d0; have ez0 := d0; clear d0; refine ⟨?_⟩; simp only [fillR, Act.put, sA, sB, sC, Nat.zero_add, Nat.reduceAdd, ez0] at hK ⊢; go_simp; with_reducible refine hK _ _ (Below.refl _ _) ?_
   exact rfl
  ·intro vs W hS hdep K hK; refine ⟨?_⟩; simp only [fillR, Act.put, sA, sB, sC, Nat.zero_add, Nat.reduceAdd] at hK ⊢; go_simp; with_reducible refine hK _ _ (Below.refl _ _) ?_
   exact rfl
  ·intro vs W hS hdep K hK; have d0 := hdep ⟨4, .data⟩ (by simp) rfl; simp only [PhiV1] at d0; have f1 := (hx1.below hS).facts.1; have f2 := (hx1.below hS).facts.2; refine ⟨?_⟩; simp only [fillR, Act.put, sA, sB, sC, Nat.zero_add, Nat.reduceAdd, d0] at hK ⊢; go_simp; with_reducible refine hK _ _ (Below.refl _ _) ?_
   exact rfl
  ·intro vs W hS hdep K hK; have d0 := hdep ⟨5, .data⟩ (by simp) rfl; simp only [PhiV1] at d0; refine ⟨?_⟩; simp only [fillR, Act.put, sA, sB, sC, Nat.zero_add, Nat.reduceAdd, d0] at hK ⊢; go_simp; with_reducible refine hK _ _ (Below.refl _ _) ?_
   exact rfl
  ·intro vs W hS hdep K hK; have d0 := hdep ⟨3, .data⟩ (by simp) rfl; simp only [PhiV1] at d0; have d1 := hdep ⟨6, .data⟩ (by simp) rfl; simp only [PhiV1] at d1; have hq := HE1.out; refine ⟨?_⟩; simp only [fillR, Act.put, sA, sB, sC, Nat.zero_add, Nat.reduceAdd, d0, d1] at hK ⊢; go_simp; with_reducible refine hK _ _ (Below.refl _ _) ?_
   exact rfl
  ·intro vs W hS hdep K hK; have d0 := hdep ⟨7, .data⟩ (by simp) rfl; simp only [PhiV1] at d0; refine ⟨?_⟩; simp only [fillR, Act.put, sA, sB, sC, Nat.zero_add, Nat.reduceAdd, d0] at hK ⊢; go_simp; with_reducible refine hK _ _ (Below.refl _ _) ?_
   exact rfl
  ·intro vs W hS hdep K hK; have d0 := hdep ⟨8, .guard⟩ (by simp) rfl; simp only [PhiV1] at d0; refine ⟨?_⟩; simp only [fillR, Act.put, sA, sB, sC, Nat.zero_add, Nat.reduceAdd, d0] at hK ⊢; go_simp; with_reducible refine hK _ _ (Below.refl _ _) ?_
   exact rfl
  ·intro vs W hS hdep K hK; have d0 := hdep ⟨8, .guard⟩ (by simp) rfl; simp only [PhiV1] at d0; have d1 := hdep ⟨9, .data⟩ (by simp) rfl; simp only [PhiV1] at d1; have f1 := (hx1.below hS).facts.1; have f2 := (hx1.below hS).facts.2; refine ⟨?_⟩; simp only [fillR, Act.put, sA, sB, sC, Nat.zero_add, Nat.reduceAdd, d0, d1] at hK ⊢; go_simp; with_reducible refine hK _ _ (Below.refl _ _) ?_
   exact rfl
  ·intro vs W hS hdep K hK; have d0 := hdep ⟨8, .guard⟩ (by simp) rfl; simp only [PhiV1] at d0; have d1 := hdep ⟨10, .data⟩ (by simp) rfl; simp only [PhiV1] at d1; refine ⟨?_⟩; simp only [fillR, Act.put, sA, sB, sC, Nat.zero_add, Nat.reduceAdd, d0, d1] at hK ⊢; go_simp; refine (rtrim_n _ _ _ l2 _ (h2.below (Below.tr hbw hS)) E2.out (by omega)).mono ?_; rintro e w' ⟨A', k', c', rfl, hn, hb⟩; go_wp2_with fail; with_reducible refine hK _ _ hb ?_
   exact ⟨A', c', by rw [hn.1, ← HT2.out]⟩
  ·intro vs W hS hdep K hK; have d0 := hdep ⟨8, .guard⟩ (by simp) rfl; simp only [PhiV1] at d0; have d1 := hdep ⟨11, .data⟩ (by simp) rfl; simp only [PhiV1] at d1; refine @exE2 _ _ _ _ d1 ?_; clear d1; intro Az1 cz1 d1; have ez1 := d1; clear d1; refine ⟨?_⟩; simp only [fillR, Act.put, sA, sB, sC, Nat.zero_add, Nat.reduceAdd, d0, ez1] at hK ⊢; go_simp; with_reducible refine hK _ _ (Below.refl _ _) ?_
   exact rfl
  ·intro vs W hS hdep K hK; have d0 := hdep ⟨8, .guard⟩ (by simp) rfl; simp only [PhiV1] at d0; refine ⟨?_⟩; simp only [fillR, Act.put, sA, sB, sC, Nat.zero_add, Nat.reduceAdd, d0] at hK ⊢; go_simp; with_reducible refine hK _ _ (Below.refl _ _) ?_
   exact rfl
  ·intro vs W hS hdep K hK; have d0 := hdep ⟨8, .guard⟩ (by simp) rfl; simp only [PhiV1] at d0; have d1 := hdep ⟨13, .data⟩ (by simp) rfl; simp only [PhiV1] at d1; have f1 := (hx1.below hS).facts.1; have f2 := (hx1.below hS).facts.2; refine ⟨?_⟩; simp only [fillR, Act.put, sA, sB, sC, Nat.zero_add, Nat.reduceAdd, d0, d1] at hK ⊢; go_simp; with_reducible refine hK _ _ (Below.refl _ _) ?_
   exact rfl
  ·intro vs W hS hdep K hK; have d0 := hdep ⟨8, .guard⟩ (by simp) rfl; simp only [PhiV1] at d0; have d1 := hdep ⟨14, .data⟩ (by simp) rfl; simp only [PhiV1] at d1; refine ⟨?_⟩; simp only [fillR, Act.put, sA, sB, sC, Nat.zero_add, Nat.reduceAdd, d0, d1] at hK ⊢; go_simp; with_reducible refine hK _ _ (Below.refl _ _) ?_
   exact rfl
  ·intro vs W hS hdep K hK; have d0 := hdep ⟨8, .guard⟩ (by simp) rfl; simp only [PhiV1] at d0; have d1 := hdep ⟨12, .data⟩ (by simp) rfl; simp only [PhiV1] at d1; have d2 := hdep ⟨15, .data⟩ (by simp) rfl; simp only [PhiV1] at d2; have hq := HE2.out; refine ⟨?_⟩; simp only [fillR, Act.put, sA, sB, sC, Nat.zero_add, Nat.reduceAdd, d0, d1, d2] at hK ⊢; go_simp; with_reducible refine hK _ _ (Below.refl _ _) ?_
   exact rfl
  ·intro vs W hS hdep K hK; have d0 := hdep ⟨8, .data⟩ (by simp) rfl; simp only [PhiV1] at d0; have d1 := hdep ⟨16, .data⟩ (by simp) rfl; simp only [PhiV1] at d1; refine ⟨?_⟩; simp only [fillR, Act.put, sA, sB, sC, Nat.zero_add, Nat.reduceAdd, d0, d1] at hK ⊢; go_simp; with_reducible refine hK _ _ (Below.refl _ _) ?_
   exact rfl
  ·intro vs W hS hdep K hK; have d0 := hdep ⟨17, .data⟩ (by simp) rfl; simp only [PhiV1] at d0; refine ⟨?_⟩; simp only [fillR, Act.put, sA, sB, sC, Nat.zero_add, Nat.reduceAdd, d0] at hK ⊢; go_simp; with_reducible refine hK _ _ (Below.refl _ _) ?_
   exact rfl
 intro vs W hS hv; have v18 := hv 18 (by simp); simp only [PhiV1] at v18; simp only [fillR, Act.put, sA, sB, sC, Nat.zero_add, Nat.reduceAdd, v18]; have f1 := (hx1.below hS).facts.1; have f2 := (hx1.below hS).facts.2; have hbW := Below.tr hbw hS; clear hv v18 hS; by_cases hn1 : Nm.nv l2 = 1
 ·obtain rfl : E = 1 := HB.out (.inr (.inr (.inl hn1))); have HO := Lib.hid hn1; clear HB HG hn1; go_wp2_with fail; refine (rone_t _ _ _ _ _ (n2.below hbW) HO.out).mono ?_; rintro e w' ⟨rfl, rfl⟩; go_wp2_with fail; go_ret; exact ⟨rfl, hbW⟩
 have HO := Lib.hid hn1
 rcases Nat.eq_zero_or_pos (Nm.nv l2) with hn0 | hn0
 ·obtain rfl : E = 0 := HG.out (by omega); obtain rfl : k2 = 0 := by have := n2; rw [hn0] at this; exact this.kzero
  clear HB HG hn1 hn0; go_wp2_with fail; refine (rone_f _ _ _ _ _ (n2.below hbW) HO.out).mono ?_; rintro e w' ⟨rfl, rfl⟩; go_wp2_with fail
  all_goals
   go_ret; exact ⟨rfl, hbW⟩
 have HK20 := Lib.hid (n2.pos hn0)
 rcases Nat.eq_zero_or_pos (Nm.nv l1) with hm0 | hm0
 ·obtain rfl : E = 1 := HB.out (.inr (.inr (.inr (.inl ⟨hm0, hn0⟩)))); obtain rfl : k1 = 0 := by have := n1; rw [hm0] at this; exact this.kzero
  clear HB HG hn1 hn0 hm0; have hk20 := HK20.out; go_wp2_with fail; refine (rone_f _ _ _ _ _ (n2.below hbW) HO.out).mono ?_; rintro e w' ⟨rfl, rfl⟩; go_wp2_with fail; go_ret; exact ⟨rfl, hbW⟩
 have HK10 := Lib.hid (n1.pos hm0); have HM0 := Lib.hid hm0; have HN0 := Lib.hid hn0; by_cases hg : Nat.gcd (Nm.nv l1) (Nm.nv l2) = 1
 ·obtain rfl : E = 0 := HG.out (by omega); have HGG := Lib.hid hg; clear HB HG hn1 hn0 hm0 hg; have hk10 := HK10.out; have hk20 := HK20.out; have hbz : ((k1 : Int) == 0) = false := by simp; omega
  go_wp2_with fail; refine (rone_f _ _ _ _ _ (n2.below hbW) HO.out).mono ?_; rintro e w' ⟨rfl, rfl⟩; go_wp2_with fail; refine (rcommon_n _ _ _ _ _ _ _ _ _ (n2.below hbW) (n1.below hbW) (by omega) (by omega) HN0.out).mono ?_; rintro e w' ⟨A, k, c, rfl, hnb, hb⟩; rw [Nat.gcd_comm] at hnb; go_wp2_with fail; refine (rone_t _ _ _ _ _ hnb HGG.out).mono ?_; rintro e w' ⟨rfl, rfl⟩; go_wp2_with fail; go_ret; exact ⟨rfl, Below.tr hbW hb⟩
 ·obtain rfl : E = 1 := HB.out (.inr (.inr (.inr (.inr ⟨hn0, hg⟩)))); have HGG := Lib.hid hg; clear HB HG hn1 hn0 hm0 hg; have hk10 := HK10.out; have hk20 := HK20.out; have hbz : ((k1 : Int) == 0) = false := by simp; omega
  go_wp2_with fail; refine (rone_f _ _ _ _ _ (n2.below hbW) HO.out).mono ?_; rintro e w' ⟨rfl, rfl⟩; go_wp2_with fail; refine (rcommon_n _ _ _ _ _ _ _ _ _ (n2.below hbW) (n1.below hbW) (by omega) (by omega) HN0.out).mono ?_; rintro e w' ⟨A, k, c, rfl, hnb, hb⟩; rw [Nat.gcd_comm] at hnb; go_wp2_with fail; refine (rone_f _ _ _ _ _ hnb HGG.out).mono ?_; rintro e w' ⟨rfl, rfl⟩; go_wp2_with fail; go_ret; exact ⟨rfl, Below.tr hbW hb⟩
end Go.Proofs.YtijkfagkbfbpmaaGreatDoor
namespace Go.Proofs.YtijkfagkbfbpmaaGreatDoor
open Go.RowKit
/-- a ratio of these limbs -/
def RtL (w : World) (v : Value) (l1 l2 : List Nat) : Prop := ∃ A1 k1 c1 A2 k2 c2, v = .agg #[.slice A1 k1 c1, .slice A2 k2 c2] ∧ Lim w A1 c1 l1 ∧ Lim w A2 c2 l2 ∧ k1 = l1.length ∧ k2 = l2.length
/-- the first of two errors -/
def firstE (a b : Int) : Int := if a = 0 then b else a
theorem valid_v {v : Value} {l1 l2 : List Nat} {w : World} (h : RtL w v l1 l2) :
  Calls Tryz.prog 57 #[v] w fun e w' => ∃ E, e = .returned (.int .i64 E) ∧ Hid (E = Nm.validE l1 l2) ∧ Below w.heap.size w w' := by
 obtain ⟨A1, k1, c1, A2, k2, c2, rfl, h1, h2, e1, e2⟩ := h; refine (valid_any A1 A2 k1 c1 k2 c2 l1 l2 w h1 h2 e1 e2).mono ?_; rintro e w' ⟨rfl, hb⟩; exact ⟨_, rfl, rfl, hb⟩
theorem rvalid_v {v : Value} {l1 l2 : List Nat} {w : World} (h : RtL w v l1 l2) :
  Calls Tryz.prog 61 #[v] w fun e w' => ∃ E, e = .returned (.int .i64 E) ∧ Hid (E = Nm.validE l1 l2) ∧ Below w.heap.size w w' := by
 obtain ⟨A1, k1, c1, A2, k2, c2, rfl, h1, h2, e1, e2⟩ := h; refine (rvalid_any A1 A2 k1 c1 k2 c2 l1 l2 w h1 h2 e1 e2).mono ?_; rintro e w' ⟨rfl, hb⟩; exact ⟨_, rfl, rfl, hb⟩
theorem RtL.shape {v : Value} {l1 l2 : List Nat} {w : World} (h : RtL w v l1 l2) : ∃ A1 k1 c1 A2 k2 c2, v = .agg #[.slice A1 k1 c1, .slice A2 k2 c2] := by
 obtain ⟨A1, k1, c1, A2, k2, c2, rfl, _⟩ := h; exact ⟨A1, k1, c1, A2, k2, c2, rfl⟩
theorem RtL.below {w w' : World} {v : Value} {l1 l2 : List Nat} (h : RtL w v l1 l2) (hb : Below w.heap.size w w') : RtL w' v l1 l2 := by
 obtain ⟨A1, k1, c1, A2, k2, c2, rfl, h1, h2, e1, e2⟩ := h; exact ⟨A1, k1, c1, A2, k2, c2, rfl, h1.below hb, h2.below hb, e1, e2⟩
theorem Rat.rtl {w : World} {v : Value} {p q : Nat} (h : Rat w v p q) : RtL w v (Nm.lb p) (Nm.lb (Nm.dn q)) := by
 obtain ⟨A1, k1, c1, A2, k2, c2, rfl, h1, h2⟩ := h; exact ⟨A1, k1, c1, A2, k2, c2, rfl, h1.2, h2.2, h1.1, h2.1⟩
/-- two ratios in a block -/
def Pair (w : World) (g : Nat) (a1 a2 b1 b2 : Value) : Prop := Blk w g 29 #[a1, a2, b1, b2]
theorem Pair.below {w w' : World} {g : Nat} {a1 a2 b1 b2 : Value} (h : Pair w g a1 a2 b1 b2) (hb : Below w.heap.size w w') : Pair w' g a1 a2 b1 b2 := Blk.below h hb h.lt
theorem Pair.facts {w : World} {g : Nat} {a1 a2 b1 b2 : Value} (h : Pair w g a1 a2 b1 b2) : w.cell? ⟨g, 0, none⟩ = some a1 ∧ w.cell? ⟨g, 1, none⟩ = some a2 ∧ w.cell? ⟨g, 2, none⟩ = some b1 ∧ w.cell? ⟨g, 3, none⟩ = some b2 := ⟨h.cell 0, h.cell 1, h.cell 2, h.cell 3⟩
set_option maxHeartbeats 1000000 in
theorem valid2_any (g : Nat) (a1 a2 b1 b2 : Value) (l1 l2 l3 l4 : List Nat) (w : World) (hg : Pair w g a1 a2 b1 b2) (ha : RtL w (.agg #[a1, a2]) l1 l2) (hb : RtL w (.agg #[b1, b2]) l3 l4) :
  Calls Tryz.prog 106 #[.slice (some ⟨g, 0, none⟩) 2 2] w fun e w' => ∃ E, e = .returned (.int .i64 E) ∧ Hid (E = firstE (Nm.validE l1 l2) (Nm.validE l3 l4)) ∧ Below w.heap.size w w' := by
 obtain ⟨A1, k1, c1, A2, k2, c2, ea⟩ := ha.shape; obtain ⟨B1, l1', d1, B2, l2', d2, eb⟩ := hb.shape; simp only [Value.agg.injEq, Array.mk.injEq, List.cons.injEq, and_true] at ea eb; obtain ⟨rfl, rfl⟩ := ea; obtain ⟨rfl, rfl⟩ := eb; obtain ⟨f1, f2, f3, f4⟩ := hg.facts
 go_enter Tryz.func106, Tryz.ntmps106
 go_wp2_with fail
 go_loopg [8] 2 (fun j i wx => ∃ (n : Nat), i = .int .i64 n ∧ n + j = 2 ∧ Below w.heap.size w wx ∧ Hid (n = 1 → Nm.validE l1 l2 = 0) ∧ Hid (n = 2 → Nm.validE l1 l2 = 0 ∧ Nm.validE l3 l4 = 0))
 case atStart => exact ⟨0, rfl, rfl, Below.refl _ _, fun h => by omega, fun h => by omega⟩
 case round =>
  obtain ⟨n, rfl, hn, hbx, H1, H2⟩ := hrel; obtain ⟨m1, m2, m3, m4⟩ := (hg.below hbx).facts; by_cases hn2 : n = 2
  ·subst hn2; have HV := Lib.hid (H2.out rfl); clear f1 f2 f3 f4; go_wp2_with fail; go_ret; exact ⟨0, rfl, by show _ = _; rw [firstE, if_pos HV.out.1, HV.out.2], hbx⟩
  ·by_cases hn1 : n = 1
   ·subst hn1; obtain rfl : gk = 1 := by omega
    have HV := Lib.hid (H1.out rfl); clear f1 f2 f3 f4 H1 H2; go_wp2_with fail; refine (valid_v ((hb.below hbx).below (bA _ _))).mono ?_; rintro e W3 ⟨E, rfl, HE, hbe⟩; have hbW := Below.tr (Below.tr hbx (bA _ _)) hbe; by_cases hE : E = 0
    ·have HV2 : Hid (Nm.validE l3 l4 = 0) := by show _ = _; rw [← HE.out]; exact hE
     have h0 : (E != 0) = false := by rw [hE]; rfl
     clear hE; go_wp2_with fail
     go_roundg 0
     case measure => omega
     case rel => exact ⟨2, rfl, by omega, hbW, (fun h => by omega), (fun _ => ⟨HV.out, HV2.out⟩)⟩
    ·have h0 : (E != 0) = true := by simpa using hE
     have HF : Hid (E = firstE (Nm.validE l1 l2) (Nm.validE l3 l4)) := by
      have hE2 := hE; rw [HE.out] at hE2
      show _ = _
      rw [HE.out, firstE, if_pos HV.out]
     clear hE; go_wp2_with fail; go_ret; exact ⟨E, rfl, HF, hbW⟩
   ·obtain rfl : n = 0 := by omega
    obtain rfl : gk = 2 := by omega
    clear f1 f2 f3 f4 H1 H2; go_wp2_with fail; refine (valid_v ((ha.below hbx).below (bA _ _))).mono ?_; rintro e W3 ⟨E, rfl, HE, hbe⟩; have hbW := Below.tr (Below.tr hbx (bA _ _)) hbe; by_cases hE : E = 0
    ·have HV2 : Hid (Nm.validE l1 l2 = 0) := by show _ = _; rw [← HE.out]; exact hE
     have h0 : (E != 0) = false := by rw [hE]; rfl
     clear hE; go_wp2_with fail
     go_roundg 1
     case measure => omega
     case rel => exact ⟨1, rfl, by omega, hbW, (fun _ => HV2.out), (fun h => by omega)⟩
    ·have h0 : (E != 0) = true := by simpa using hE
     have HF : Hid (E = firstE (Nm.validE l1 l2) (Nm.validE l3 l4)) := by
      have hE2 := hE; rw [HE.out] at hE2
      show _ = _
      rw [HE.out, firstE, if_neg hE2]
     clear hE; go_wp2_with fail; go_ret; exact ⟨E, rfl, HF, hbW⟩
end Go.Proofs.YtijkfagkbfbpmaaGreatDoor
namespace Go.Proofs.YtijkfagkbfbpmaaGreatDoor
open Go.RowKit
theorem Rat.shape {v : Value} {p q : Nat} {w : World} (h : Rat w v p q) : ∃ A1 k1 c1 A2 k2 c2, v = .agg #[.slice A1 k1 c1, .slice A2 k2 c2] := h.rtl.shape
theorem Rat.nb {A1 A2 : Option Addr} {k1 c1 k2 c2 p q : Nat} {w : World} (h : Rat w (.agg #[.slice A1 k1 c1, .slice A2 k2 c2]) p q) : Nb w A1 k1 c1 p ∧ Nb w A2 k2 c2 (Nm.dn q) := by
 obtain ⟨A1', k1', c1', A2', k2', c2', e, h1, h2⟩ := h; simp only [Value.agg.injEq, Array.mk.injEq, List.cons.injEq, Value.slice.injEq, and_true] at e; obtain ⟨⟨rfl, rfl, rfl⟩, rfl, rfl, rfl⟩ := e; exact ⟨h1, h2⟩
theorem Rat.small {A1 A2 : Option Addr} {k1 c1 k2 c2 p q : Nat} {w : World} (h : Rat w (.agg #[.slice A1 k1 c1, .slice A2 k2 c2]) p q) (hg : Nm.Good p q) : k1 ≤ 64 ∧ k2 ≤ 64 := by
 obtain ⟨h1, h2⟩ := h.nb; exact ⟨by rw [h1.1]; exact hg.fits.1, by rw [h2.1]; exact hg.fits.2⟩
theorem firstE_good {p q r s : Nat} (h1 : Nm.Good p q) (h2 : Nm.Good r s) : firstE (Nm.validE (Nm.lb p) (Nm.lb (Nm.dn q))) (Nm.validE (Nm.lb r) (Nm.lb (Nm.dn s))) = 0 := by
 rw [Nm.validE_of h1, Nm.validE_of h2]; rfl
theorem valid2_good (g : Nat) (a1 a2 b1 b2 : Value) (pa qa pb qb : Nat) (w : World) (hg : Pair w g a1 a2 b1 b2) (ha : Rat w (.agg #[a1, a2]) pa qa) (hb : Rat w (.agg #[b1, b2]) pb qb) (h1 : Nm.Good pa qa) (h2 : Nm.Good pb qb) :
  Calls Tryz.prog 106 #[.slice (some ⟨g, 0, none⟩) 2 2] w fun e w' => e = .returned (.int .i64 0) ∧ Below w.heap.size w w' := by
 refine (valid2_any g a1 a2 b1 b2 _ _ _ _ w hg ha.rtl hb.rtl).mono ?_; rintro e w' ⟨E, rfl, HE, hbe⟩; rw [HE.out, firstE_good h1 h2]; exact ⟨rfl, hbe⟩
theorem compare_n (A1 A2 : Option Addr) (c1 c2 k1 k2 n m : Nat) (w : World) (h1 : Nb w A1 k1 c1 n) (h2 : Nb w A2 k2 c2 m) :
  Calls Tryz.prog 108 #[.slice A1 k1 c1, .slice A2 k2 c2] w fun e w' => ∃ q, e = .returned (.int .i64 (Nm.cmpN n m)) ∧ w' = w.drewN q := by
 refine (compare_any A1 A2 c1 c2 n m k1 k2 w h1.2 h2.2 h1.1 h2.1).mono ?_; rintro e w' ⟨h, q, hq⟩; exact ⟨q, h, hq⟩
set_option maxRecDepth 10000 in
set_option maxHeartbeats 1000000 in
theorem cmp_n (va vb : Value) (pa qa pb qb : Nat) (w : World) (ha : Rat w va pa qa) (hb : Rat w vb pb qb) (ga : Nm.Good pa qa) (gb : Nm.Good pb qb) :
  Calls Tryz.prog 59 #[va, vb] w fun e w' => e = .returned (.tuple #[.int .i64 (Nm.cmpN (pa * qb) (pb * qa)), .int .i64 0]) ∧ Below w.heap.size w w' := by
 obtain ⟨A1, k1, c1, A2, k2, c2, rfl⟩ := ha.shape; obtain ⟨B1, l1, d1, B2, l2, d2, rfl⟩ := hb.shape; obtain ⟨W, HW⟩ : ∃ W, Hid (W = ((w.alloc (.cells #[.slice A1 k1 c1, .slice A2 k2 c2] 29)).alloc (.cells #[.slice B1 l1 d1, .slice B2 l2 d2] 29)).alloc (.cells #[.slice A1 k1 c1, .slice A2 k2 c2, .slice B1 l1 d1, .slice B2 l2 d2] 29)) := ⟨_, rfl⟩; have hbw : Below w.heap.size w W := by rw [HW.out]; exact Below.tr (Below.tr (bA _ _) (bA _ _)) (bA _ _)
 have hx1 : Box W w.heap.size (.slice A1 k1 c1) (.slice A2 k2 c2) := by rw [HW.out]; exact (Box.below (Blk.new w _ _) (bA _ _)).below (bA _ _)
 have hx2 : Box W (w.heap.size + 1) (.slice B1 l1 d1) (.slice B2 l2 d2) := by
  rw [HW.out]; have := Blk.new (w.alloc (.cells #[.slice A1 k1 c1, .slice A2 k2 c2] 29)) 29 #[.slice B1 l1 d1, .slice B2 l2 d2]; refine Box.below ?_ (bA _ _); unfold Box; simpa using this
 have hp : Pair W (w.heap.size + 2) (.slice A1 k1 c1) (.slice A2 k2 c2) (.slice B1 l1 d1) (.slice B2 l2 d2) := by
  rw [HW.out]; have := Blk.new ((w.alloc (.cells #[.slice A1 k1 c1, .slice A2 k2 c2] 29)).alloc (.cells #[.slice B1 l1 d1, .slice B2 l2 d2] 29)) 29 #[.slice A1 k1 c1, .slice A2 k2 c2, .slice B1 l1 d1, .slice B2 l2 d2]; unfold Pair; simpa using this
 have ha1 := ha.below hbw; have hb1 := hb.below hbw; obtain ⟨s1, s2⟩ := ha.small ga; obtain ⟨s3, s4⟩ := hb.small gb
 go_enter Tryz.func59, Tryz.ntmps59
 go_wp2_with fail; rw [← HW.out]; refine (valid2_good _ _ _ _ _ pa qa pb qb _ hp ha1 hb1 ga gb).mono ?_; rintro e W2 ⟨rfl, hbe⟩; have f1 := (hx1.below hbe).facts.1; have f2 := (hx1.below hbe).facts.2; have f3 := (hx2.below hbe).facts.1; have f4 := (hx2.below hbe).facts.2; have ha2 := (ha1.below hbe).nb; have hb2 := (hb1.below hbe).nb; have HA := Lib.hid ha2; have HB := Lib.hid hb2; clear ha2 hb2; go_wp2_with fail; refine (crossed_n _ _ _ _ _ _ _ _ _ _ _ _ pa qa pb qb _ HA.out.1 HA.out.2 HB.out.1 HB.out.2 ga.pos gb.pos s1 s2 s3 s4).mono ?_; rintro e W3 ⟨x, y, z, rfl, ⟨A3, k3, c3, rfl, n3⟩, ⟨A4, k4, c4, rfl, n4⟩, hb3⟩; go_wp2_with fail; refine (compare_n _ _ _ _ _ _ _ _ _ n3 n4).mono ?_; rintro e w' ⟨nq, rfl, rfl⟩; go_wp2_with fail
 go_ret2
 exact ⟨rfl, Below.tr (Below.tr (Below.tr hbw hbe) hb3) (below_drewN _ _)⟩
end Go.Proofs.YtijkfagkbfbpmaaGreatDoor
namespace Go.Proofs.YtijkfagkbfbpmaaGreatDoor
open Go.RowKit
/-- a block of two slices -/
def Sl (w : World) (g : Nat) : Prop := ∃ A k c A' k' c', Blk w g 29 #[.slice A k c, .slice A' k' c']
theorem Sl.lt {w : World} {g : Nat} (h : Sl w g) : g < w.heap.size := by
 obtain ⟨A, k, c, A', k', c', hb⟩ := h; exact hb.lt
theorem Sl.below {w w' : World} {g : Nat} (h : Sl w g) (hb : Below w.heap.size w w') : Sl w' g := by
 have hl := h.lt; obtain ⟨A, k, c, A', k', c', h⟩ := h; exact ⟨A, k, c, A', k', c', h.below hb hl⟩
theorem Res.sl {w : World} {g : Nat} (h : Res w g) : Sl w g := ⟨_, _, _, _, _, _, h⟩
theorem Nb.setSl {w : World} {A : Option Addr} {k c n g i : Nat} (h : Nb w A k c n) (hs : Sl w g) (u : Value) : Nb (w.setCell ⟨g, i, none⟩ u) A k c n := by
 rcases Nat.eq_zero_or_pos n with rfl | hn
 ·refine ⟨h.1, fun hx => ?_, h.2.2⟩; rw [Nm.lb_zero] at hx; exact absurd rfl hx
 ·refine h.offSet (fun b off hA e => ?_) u; obtain ⟨b', off', hA', hc⟩ := h.2.at_ (k := 0) (by rw [← h.1]; exact h.pos hn); rw [hA'] at hA; injection hA with hA; injection hA with e1 e2; have h0 := hc 0 (by rw [← h.1]; exact h.pos hn); obtain ⟨r1, r2, r3, r4, r5, r6, hb⟩ := hs; rw [e1, e, hb.cell] at h0; generalize off' + 0 = m at h0
  rcases m with _ | _ | m <;> simp at h0
theorem Sl.set0 {w : World} {g : Nat} (h : Sl w g) (A : Option Addr) (k c : Nat) : Sl (w.setCell ⟨g, 0, none⟩ (.slice A k c)) g := by
 obtain ⟨r1, r2, r3, r4, r5, r6, hb⟩ := h; have := hb.set_ 0 (.slice A k c); exact ⟨_, _, _, _, _, _, this⟩
theorem RedP.map {w w' : World} {v : Value} {er : Int} {n d : Nat} (h : RedP w v er n d) (hm : ∀ A k c x, Nb w A k c x → Nb w' A k c x) : RedP w' v er n d := by
 rcases h with ⟨h1, h2, A1, k1, c1, A2, k2, c2, rfl, h3, h4⟩ | h
 ·exact .inl ⟨h1, h2, A1, k1, c1, A2, k2, c2, rfl, hm _ _ _ _ h3, hm _ _ _ _ h4⟩
 ·exact .inr h
/-- a ratio to be stored -/
def RedV (w : World) (x : Value) (n d : Nat) : Prop := ∃ A k c A' k' c' er, x = .agg #[.slice A k c, .slice A' k' c'] ∧ RedP w (.agg #[.slice A k c, .slice A' k' c']) er n d
theorem RedV.of {w : World} {v : Value} {er : Int} {n d : Nat} (h : RedP w v er n d) : RedV w v n d := by
 have h0 := h
 rcases h with ⟨h1, h2, A1, k1, c1, A2, k2, c2, rfl, h3, h4⟩ | ⟨_, _, rfl⟩
 ·exact ⟨A1, k1, c1, A2, k2, c2, er, rfl, h0⟩
 ·exact ⟨none, 0, 0, none, 0, 0, er, rfl, h0⟩
section
variable {w0 w w' : World} {g b1 b2 : Nat} {A1 A2 B1 B2 : Option Addr} {k1 c1 k2 c2 l1 d1 l2 d2 pa qa pb qb n d : Nat}
end
theorem IsNb.map {w w' : World} {x : Value} {n m : Nat} (h : IsNb w x n m) (hm : ∀ A k c x, Nb w A k c x → Nb w' A k c x) : IsNb w' x n m := by
 obtain ⟨A, k, c, rfl, h1, h2⟩ := h; exact ⟨A, k, c, rfl, hm _ _ _ _ h1, h2⟩
end Go.Proofs.YtijkfagkbfbpmaaGreatDoor
namespace Go.Proofs.YtijkfagkbfbpmaaGreatDoor
open Go.RowKit
theorem rorder_n (va vb : Value) (pa qa pb qb : Nat) (w : World) (ha : Rat w va pa qa) (hb : Rat w vb pb qb) (ga : Nm.Good pa qa) (gb : Nm.Good pb qb) :
  Calls Tryz.prog 64 #[va, vb] w fun e w' => ∃ cc, e = .returned (.int .i64 cc) ∧ Hid (cc = Nm.cmpN (pa * qb) (pb * qa)) ∧ Below w.heap.size w w' := by
 obtain ⟨A1, k1, c1, A2, k2, c2, rfl⟩ := ha.shape; obtain ⟨B1, l1, d1, B2, l2, d2, rfl⟩ := hb.shape; obtain ⟨s1, s2⟩ := ha.small ga; obtain ⟨s3, s4⟩ := hb.small gb; refine (order_n _ _ _ _ _ _ _ _ _ _ _ _ pa qa pb qb w ha.nb.1 ha.nb.2 hb.nb.1 hb.nb.2 ga.pos gb.pos s1 s2 s3 s4).mono ?_; rintro e w' ⟨rfl, hbe⟩; exact ⟨_, rfl, rfl, hbe⟩
/-- the number from 0 to m - 1 that is made of n -/
def aroundN (n : Int) (m : Nat) : Nat := (if n < 0 then (-(n + 1)).toNat else n.toNat) % m
theorem around_n (n : Int) (m : Nat) (w : World) (h1 : -9223372036854775808 ≤ n) (h2 : n ≤ 9223372036854775807) (hm : 0 < m) (hm2 : m ≤ 4611686018427387904) :
  Calls Tryz.prog 12 #[.int .i64 n, .int .i64 m] w fun e w' => ∃ k : Nat, e = .returned (.int .i64 k) ∧ k < m ∧ Hid (k = aroundN n m) ∧ w = w' := by
 by_cases hn : n < 0
 ·obtain ⟨x, hx⟩ : ∃ x : Nat, n = -(x : Int) - 1 := ⟨(-(n + 1)).toNat, by omega⟩; have hxl : x ≤ 9223372036854775807 := by omega
  subst hx
  have HX : Hid (aroundN (-(x : Int) - 1) m = x % m) := by
   show _ = _; unfold aroundN; rw [if_pos hn]; congr 1; omega
  have hlt := Nat.mod_lt x hm; clear h1 h2 hn; have t1 : decide (-(x : Int) - 1 < 0) = true := by simp; omega
  have t2 : IntKind.i64.wrap (-(x : Int) - 1 + 1) = -(x : Int) := by rw [IntWalk.i64_in _ (by omega)]; omega
  have t3 : IntKind.i64.wrap (- -(x : Int)) = (x : Int) := by rw [IntWalk.i64_in _ (by omega)]; omega
  go_enter Tryz.func12, Tryz.ntmps12
  go_wp2
  go_ret; exact ⟨x % m, rfl, hlt, HX.out.symm, rfl⟩
 ·obtain ⟨x, rfl⟩ := Int.eq_ofNat_of_zero_le (show 0 ≤ n by omega)
  have HX : Hid (aroundN (x : Int) m = x % m) := by
   show _ = _; unfold aroundN; rw [if_neg hn]; congr 1
  have hlt := Nat.mod_lt x hm; clear h1 hn
  go_enter Tryz.func12, Tryz.ntmps12
  go_wp2
  go_ret; exact ⟨x % m, rfl, hlt, HX.out.symm, rfl⟩
end Go.Proofs.YtijkfagkbfbpmaaGreatDoor
namespace Go.Proofs.YtijkfagkbfbpmaaGreatDoor
open Go.RowKit
theorem good_red {n d : Nat} (hd : 0 < d) (hf : Nm.Fits (n / Nat.gcd n d) (d / Nat.gcd n d)) : Nm.Good (n / Nat.gcd n d) (d / Nat.gcd n d) := by
 have hg : 0 < Nat.gcd n d := Nat.gcd_pos_of_pos_right _ hd; exact ⟨Nat.div_pos (Nat.gcd_le_right _ hd) hg, Nat.coprime_div_gcd_div_gcd hg, hf⟩
theorem fits_small {p q : Nat} (hp : p < Nm.B ^ 64) (hq : q < Nm.B ^ 64) : Nm.Fits p q := by
 refine ⟨Nm.lb_length_lt.2 hp, Nm.lb_length_lt.2 ?_⟩; unfold Nm.dn; split
 ·exact Nat.pow_pos Nm.B_pos
 ·exact hq
theorem RedP.small {w : World} {v : Value} {er : Int} {n d : Nat} (h : RedP w v er n d) (hd : 0 < d) (hn : n < Nm.B ^ 64) (hd2 : d < Nm.B ^ 64) :
  er = 0 ∧ Rat w v (n / Nat.gcd n d) (d / Nat.gcd n d) ∧ Nm.Good (n / Nat.gcd n d) (d / Nat.gcd n d) := by
 have hf : Nm.Fits (n / Nat.gcd n d) (d / Nat.gcd n d) := fits_small (Nat.lt_of_le_of_lt (Nat.div_le_self _ _) hn) (Nat.lt_of_le_of_lt (Nat.div_le_self _ _) hd2)
 rcases h with ⟨_, h2, h3⟩ | ⟨h1, _⟩
 ·exact ⟨h2, h3, good_red hd hf⟩
 ·exact absurd hf h1
theorem RedP.shape {w : World} {v : Value} {er : Int} {n d : Nat} (h : RedP w v er n d) : ∃ A1 k1 c1 A2 k2 c2, v = .agg #[.slice A1 k1 c1, .slice A2 k2 c2] := by
 obtain ⟨A, k, c, A', k', c', er', rfl, _⟩ := RedV.of h; exact ⟨A, k, c, A', k', c', rfl⟩
theorem b64 {n : Nat} (h : n < 18446744073709551616) : n < Nm.B ^ 64 := by
 refine Nat.lt_of_lt_of_le (Nat.lt_of_lt_of_eq h (show 18446744073709551616 = Nm.B ^ 2 by unfold Nm.B; rfl)) (Nat.pow_le_pow_right Nm.B_pos (by omega))
theorem b2 {n : Nat} (h : n < 18446744073709551616) : n < Nm.B ^ 2 := Nat.lt_of_lt_of_eq h (show 18446744073709551616 = Nm.B ^ 2 by unfold Nm.B; rfl)
set_option maxRecDepth 10000 in
set_option maxHeartbeats 400000 in
theorem rof_n (n d : Nat) (w : World) (hn : n ≤ 9223372036854775807) (hd : 0 < d) (hd2 : d ≤ 9223372036854775807) :
  Calls Tryz.prog 62 #[.int .i64 n, .int .i64 d] w fun e w' => ∃ v er, e = .returned (.tuple #[v, .int .i64 er]) ∧ RedP w' v er n d ∧ Below w.heap.size w w' := by
 have hnl : n < 18446744073709551616 := by omega
 have hdl : d < 18446744073709551616 := by omega
 have HN := Lib.hid (b2 hnl); have HD := Lib.hid (b2 hdl); clear hnl hdl
 go_enter Tryz.func62, Tryz.ntmps62
 go_wp2_with fail; refine (rwhole_n n _ (by omega)).mono ?_; rintro e w1 ⟨A1, k1, c1, rfl, hn1, hb1⟩; go_wp2_with fail; refine (rwhole_n d _ (by omega)).mono ?_; rintro e w2 ⟨A2, k2, c2, rfl, hn2, hb2⟩; have hk1 := hn1.lek HN.out; have hk2 := hn2.lek HD.out; go_wp2_with fail; refine (rreduced_n _ _ _ _ _ _ n d _ (hn1.below hb2) hn2 (by omega) (by omega) hd).mono ?_; rintro e w3 ⟨v, er, rfl, hP, hb3⟩; obtain ⟨A, k, c, A', k', c', rfl⟩ := hP.shape; have hb123 := Below.tr hb1 (Below.tr hb2 hb3); have hres := Res.below (Res.new w) hb123; obtain ⟨r1, r2, r3, r4⟩ := hres.facts; obtain ⟨s1, s2⟩ := hres.set2 (.slice A k c) (.slice A' k' c'); have HP := Lib.hid (hP.map (fun A2 k2 c2 x h => (h.setSl (i := 0) hres.sl (.slice A k c)).setSl (i := 1) (hres.sl.set0 _ _ _) (.slice A' k' c'))); have hbw := Below.tr (bA w _) hb123; clear hP hb1 hb2 hb3 hb123; go_wp2_with fail; exact bodyPost_ret (v := .tuple #[.agg #[.slice A k c, .slice A' k' c'], .int .i64 er]) (by simp [results, Tryz.results62, go_sem, s1, s2]) rfl ⟨_, _, rfl, HP.out, below_set2 hbw (Nat.le_refl _) _ _⟩
theorem whole_n (n : Nat) (w : World) (hn : n < 18446744073709551616) :
  Calls Tryz.prog 105 #[.int .u64 n] w fun e w' => ∃ A k c, e = .returned (.slice A k c) ∧ Nb w' A k c n ∧ Below w.heap.size w w' := by
 refine (whole_any n w hn).mono ?_; rintro e w' ⟨A, k, rfl, hk, hl, hb⟩; exact ⟨A, k, k, rfl, ⟨hk, hl⟩, hb⟩
set_option maxRecDepth 10000 in
set_option maxHeartbeats 400000 in
theorem of_n (n d : Nat) (w : World) (hn : n ≤ 9223372036854775807) (hd : 0 < d) (hd2 : d ≤ 9223372036854775807) :
  Calls Tryz.prog 58 #[.int .i64 n, .int .i64 d] w fun e w' => ∃ v er, e = .returned (.tuple #[v, .int .i64 er]) ∧ RedP w' v er n d ∧ Below w.heap.size w w' := by
 have hnl : n < 18446744073709551616 := by omega
 have hdl : d < 18446744073709551616 := by omega
 have HN := Lib.hid (b2 hnl); have HD := Lib.hid (b2 hdl); clear hnl hdl
 go_enter Tryz.func58, Tryz.ntmps58
 go_wp2_with fail; refine (whole_n n _ (by omega)).mono ?_; rintro e w1 ⟨A1, k1, c1, rfl, hn1, hb1⟩; go_wp2_with fail; refine (whole_n d _ (by omega)).mono ?_; rintro e w2 ⟨A2, k2, c2, rfl, hn2, hb2⟩; have hk1 := hn1.lek HN.out; have hk2 := hn2.lek HD.out; go_wp2_with fail; refine (reduced_n _ _ _ _ _ _ n d _ (hn1.below hb2) hn2 (by omega) (by omega) hd).mono ?_; rintro e w3 ⟨v, er, rfl, hP, hb3⟩; obtain ⟨A, k, c, A', k', c', rfl⟩ := hP.shape; have hb123 := Below.tr hb1 (Below.tr hb2 hb3); have hres := Res.below (Res.new w) hb123; obtain ⟨r1, r2, r3, r4⟩ := hres.facts; obtain ⟨s1, s2⟩ := hres.set2 (.slice A k c) (.slice A' k' c'); have HP := Lib.hid (hP.map (fun A2 k2 c2 x h => (h.setSl (i := 0) hres.sl (.slice A k c)).setSl (i := 1) (hres.sl.set0 _ _ _) (.slice A' k' c'))); have hbw := Below.tr (bA w _) hb123; clear hP hb1 hb2 hb3 hb123; go_wp2_with fail; exact bodyPost_ret (v := .tuple #[.agg #[.slice A k c, .slice A' k' c'], .int .i64 er]) (by simp [results, Tryz.results58, go_sem, s1, s2]) rfl ⟨_, _, rfl, HP.out, below_set2 hbw (Nat.le_refl _) _ _⟩
end Go.Proofs.YtijkfagkbfbpmaaGreatDoor
namespace Go.Proofs.YtijkfagkbfbpmaaGreatDoor.Nm
open Go.Proofs.YtijkfagkbfbpmaaGreatDoor
/-- the n-th power does not fit, or is at most the limit -/
def Stop (p q a b n : Nat) : Prop := ¬ Fits (p ^ n) (q ^ n) ∨ p ^ n * b ≤ a * q ^ n
theorem dn_inj {q r : Nat} (hq : 0 < q) (hr : 0 < r) (h : dn q = dn r) : q = r := by
 unfold dn at h; split at h <;> split at h <;> omega
end Go.Proofs.YtijkfagkbfbpmaaGreatDoor.Nm
namespace Go.Proofs.YtijkfagkbfbpmaaGreatDoor
open Go.RowKit
theorem Rat.map {w w' : World} {v : Value} {p q : Nat} (h : Rat w v p q) (hm : ∀ A k c x, Nb w A k c x → Nb w' A k c x) : Rat w' v p q := by
 obtain ⟨A1, k1, c1, A2, k2, c2, rfl, h1, h2⟩ := h; exact ⟨A1, k1, c1, A2, k2, c2, rfl, hm _ _ _ _ h1, hm _ _ _ _ h2⟩
theorem Box.sl {w : World} {g : Nat} {A A' : Option Addr} {k c k' c' : Nat} (h : Box w g (.slice A k c) (.slice A' k' c')) : Sl w g := ⟨_, _, _, _, _, _, h⟩
theorem Sl.keep2 {w : World} {g : Nat} (h : Sl w g) (A A' : Option Addr) (k c k' c' : Nat) : ∀ A2 k2 c2 x, Nb w A2 k2 c2 x → Nb ((w.setCell ⟨g, 0, none⟩ (.slice A k c)).setCell ⟨g, 1, none⟩ (.slice A' k' c')) A2 k2 c2 x :=
 fun _ _ _ _ hn => (hn.setSl h _).setSl (h.set0 _ _ _) _
theorem RtL.limb {w : World} {v : Value} {l1 l2 : List Nat} (h : RtL w v l1 l2) : Nm.Lim l1 ∧ Nm.Lim l2 := by
 obtain ⟨A1, k1, c1, A2, k2, c2, rfl, h1, h2, _⟩ := h; exact ⟨h1.limb, h2.limb⟩
theorem RtL.rat {w : World} {v : Value} {p q : Nat} (h : RtL w v (Nm.lb p) (Nm.lb (Nm.dn q))) : Rat w v p q := by
 obtain ⟨A1, k1, c1, A2, k2, c2, rfl, h1, h2, e1, e2⟩ := h; exact ⟨A1, k1, c1, A2, k2, c2, rfl, ⟨e1, h1⟩, ⟨e2, h2⟩⟩
end Go.Proofs.YtijkfagkbfbpmaaGreatDoor
namespace Go.Proofs.YtijkfagkbfbpmaaGreatDoor
open Go.RowKit
def sameB (l1 l2 : List Nat) : Bool := decide (l1 = l2)
theorem take_same {l1 l2 : List Nat} {i a b : Nat} (hi : i < l1.length) (hl : l1.length = l2.length) (h : l1.take i = l2.take i) (ha : a = l1.getD i 0) (hb : b = l2.getD i 0) (hab : a = b) : l1.take (i + 1) = l2.take (i + 1) := by
 rw [List.take_succ_eq_append_getElem hi, List.take_succ_eq_append_getElem (by omega), h]
 congr 2
 rw [← Nm.getD_of_lt hi, ← Nm.getD_of_lt (show i < l2.length by omega), ← ha, ← hb, hab]
set_option maxRecDepth 10000 in
set_option maxHeartbeats 400000 in
theorem samel_any (A1 A2 : Option Addr) (k1 c1 k2 c2 : Nat) (l1 l2 : List Nat) (w : World) (h1 : Lim w A1 c1 l1) (h2 : Lim w A2 c2 l2) (e1 : k1 = l1.length) (e2 : k2 = l2.length) :
  Calls Tryz.prog 100 #[.slice A1 k1 c1, .slice A2 k2 c2] w fun e w' => ∃ b, e = .returned (.bool b) ∧ Hid (b = sameB l1 l2) ∧ Below w.heap.size w w' := by
 have hkb1 : k1 ≤ 9223372036854775807 := by have := h1.2.1; have := h1.2.2.1; omega
 have E1 := Lib.hid e1; have E2 := Lib.hid e2; by_cases hk : k1 = k2
 ·subst hk; clear e1 e2
  go_enter Tryz.func100, Tryz.ntmps100
  go_wp2
  go_loopg [5] k1 (fun j x wr => ∃ i : Nat, x = .int .i64 i ∧ i + j = k1 ∧ Hid (l1.take i = l2.take i) ∧ ∃ nq, wr = w.drewN nq)
  case atStart => exact ⟨0, rfl, by omega, by show _ = _; simp, 0, rfl⟩
  case round =>
   obtain ⟨i, rfl, hij, HT, nq, rfl⟩ := hrel; by_cases hi : i < k1
   ·obtain ⟨b1, o1, a, rfl, hca, ha, HA⟩ := h1.get (k := i) (by have := E1.out; omega); obtain ⟨b2, o2, b, rfl, hcb, hb, HB⟩ := h2.get (k := i) (by have := E2.out; omega); by_cases hab : a = b
    ·have HT2 : Hid (l1.take (i + 1) = l2.take (i + 1)) := take_same (by have := E1.out; omega) (by rw [← E1.out, ← E2.out]) HT.out HA.out HB.out hab; have hd : ((a : Int) != (b : Int)) = false := by rw [hab]; simp
     clear hab; go_wp2_with fail
     go_quiet (fail)
     go_wp2_with fail
     go_roundg (gk - 1)
     case measure => omega
     case rel => exact ⟨i + 1, by go_num, by omega, HT2, _, rfl⟩
    ·have hd : ((a : Int) != (b : Int)) = true := by simp; omega
     have HF : Hid (false = sameB l1 l2) := by
      show _ = _; unfold sameB; symm; rw [decide_eq_false_iff_not]
      rintro rfl; exact hab (HA.out.trans HB.out.symm)
     clear hab; go_wp2_with fail
     go_quiet (fail)
     go_wp2_with fail; go_ret; exact ⟨_, rfl, HF, Below.tr (below_drewN _ _) (below_drewN _ _)⟩
   ·obtain rfl : k1 = i := by omega
    have HF : Hid (true = sameB l1 l2) := by
     show _ = _; unfold sameB; symm; rw [decide_eq_true_iff]
     have := HT.out
     rwa [List.take_of_length_le (by rw [← E1.out]; omega), List.take_of_length_le (by rw [← E2.out]; omega)] at this
    go_wp2_with fail; go_ret; exact ⟨_, rfl, HF, below_drewN _ _⟩
 ·have HF : Hid (false = sameB l1 l2) := by
   show _ = _; unfold sameB; symm; rw [decide_eq_false_iff_not]
   rintro rfl; exact hk (e1.trans e2.symm)
  have hd : ((k1 : Int) != (k2 : Int)) = true := by simp; omega
  clear e1 e2 hk
  go_enter Tryz.func100, Tryz.ntmps100
  go_wp2
  go_ret; exact ⟨_, rfl, HF, Below.refl _ _⟩
theorem RtL.nb {A1 A2 : Option Addr} {k1 c1 k2 c2 : Nat} {l1 l2 : List Nat} {w : World} (h : RtL w (.agg #[.slice A1 k1 c1, .slice A2 k2 c2]) l1 l2) : Lim w A1 c1 l1 ∧ Lim w A2 c2 l2 ∧ k1 = l1.length ∧ k2 = l2.length := by
 obtain ⟨A1', k1', c1', A2', k2', c2', e, h⟩ := h; simp only [Value.agg.injEq, Array.mk.injEq, List.cons.injEq, Value.slice.injEq, and_true] at e; obtain ⟨⟨rfl, rfl, rfl⟩, rfl, rfl, rfl⟩ := e; exact h
/-- two ratios are one, limb by limb -/
def sameR (l1 l2 l3 l4 : List Nat) : Bool := sameB l1 l3 && sameB l2 l4
set_option maxRecDepth 10000 in
set_option maxHeartbeats 400000 in
theorem same_any (va vb : Value) (L1 L2 L3 L4 : List Nat) (w : World) (ha : RtL w va L1 L2) (hb : RtL w vb L3 L4) :
  Calls Tryz.prog 56 #[va, vb] w fun e w' => ∃ b, e = .returned (.bool b) ∧ Hid (b = sameR L1 L2 L3 L4) ∧ Below w.heap.size w w' := by
 obtain ⟨A1, k1, c1, A2, k2, c2, rfl⟩ := ha.shape; obtain ⟨B1, l1, d1, B2, l2, d2, rfl⟩ := hb.shape; obtain ⟨W, HW⟩ : ∃ W, Hid (W = (w.alloc (.cells #[.slice A1 k1 c1, .slice A2 k2 c2] 29)).alloc (.cells #[.slice B1 l1 d1, .slice B2 l2 d2] 29)) := ⟨_, rfl⟩; have hbw : Below w.heap.size w W := by rw [HW.out]; exact Below.tr (bA _ _) (bA _ _)
 have hx1 : Box W w.heap.size (.slice A1 k1 c1) (.slice A2 k2 c2) := by rw [HW.out]; exact Box.below (Blk.new w _ _) (bA _ _)
 have hx2 : Box W (w.heap.size + 1) (.slice B1 l1 d1) (.slice B2 l2 d2) := by
  rw [HW.out]; have := Blk.new (w.alloc (.cells #[.slice A1 k1 c1, .slice A2 k2 c2] 29)) 29 #[.slice B1 l1 d1, .slice B2 l2 d2]; unfold Box; simpa using this
 obtain ⟨a1, a2, a3, a4⟩ := (ha.below hbw).nb; obtain ⟨b1, b2, b3, b4⟩ := (hb.below hbw).nb; have A3 := Lib.hid a3; have A4 := Lib.hid a4; have B3 := Lib.hid b3; have B4 := Lib.hid b4; clear a3 a4 b3 b4
 go_enter Tryz.func56, Tryz.ntmps56
 go_wp2_with fail; rw [← HW.out]; refine (samel_any _ _ _ _ _ _ L1 L3 _ a1 b1 A3.out B3.out).mono ?_; rintro e W2 ⟨x, rfl, HX, hbe⟩; obtain ⟨f1, f2⟩ := (hx1.below hbe).facts; obtain ⟨f3, f4⟩ := (hx2.below hbe).facts
 cases x
 ·go_wp2_with fail; go_ret; exact ⟨_, rfl, by show _ = _; unfold sameR; rw [← HX.out]; rfl, Below.tr hbw hbe⟩
 ·go_wp2_with fail; refine (samel_any _ _ _ _ _ _ L2 L4 _ (a2.below hbe) (b2.below hbe) A4.out B4.out).mono ?_; rintro e W3 ⟨y, rfl, HY, hbe3⟩; go_wp2_with fail; go_ret; exact ⟨_, rfl, by show _ = _; unfold sameR; rw [← HX.out, ← HY.out]; simp, Below.tr hbw (Below.tr hbe hbe3)⟩
end Go.Proofs.YtijkfagkbfbpmaaGreatDoor
namespace Go.Proofs.YtijkfagkbfbpmaaGreatDoor
open Go.RowKit
end Go.Proofs.YtijkfagkbfbpmaaGreatDoor
namespace Go.Proofs.YtijkfagkbfbpmaaGreatDoor
open Go
/- The same with a ghost beside the world: 'what belongs to whom'. -/
section
variable {P : Program} {ops : Array Oper} {Q : Exit → Act → World → Prop} {md : Region.Mode} {Γ : Type}
theorem wpAny_invg (Φ : Γ → Nat → World → Value → Prop) (R : Γ → World → Γ → World → Prop) (S : Γ → World → Prop) (a0 : Act) (hd : apartL ops.toList = true) (hb : backB ops = true)
  (hΦ : ∀ γ w γ' w', R γ w γ' w' → ∀ j x, Φ γ j w x → Φ γ' j w' x) (hS : ∀ γ w γ' w', R γ w γ' w' → S γ w → S γ' w')
  (hstep : ∀ i o, ops[i]? = some o → ∀ vs γ w, S γ w → (∀ e ∈ o.after, Region.binds md e = true → Φ γ e.on w (vs e.on)) →
   ∀ K : Act → World → Prop, (∀ v γ' w', R γ w γ' w' → Φ γ' i w' v → K ((fillR ops.toList 0 vs a0).put o.dst v) w') →
    if Region.wanted o (yielded ops (fillR ops.toList 0 vs a0).tmps) = true then Oper.wp P o (fillR ops.toList 0 vs a0) w K Q else K ((fillR ops.toList 0 vs a0).put o.dst undef) w)
  (hend : ∀ vs γ w, S γ w → (∀ i, i < ops.size → Φ γ i w (vs i)) → Q .normal (fillR ops.toList 0 vs a0) w) :
  ∀ (fuel : Nat) (listed : Array Bool) (vs : Nat → Value) (γ : Γ) (w : World), listed.size = ops.size → listed.toList.count false = fuel → S γ w → (∀ j, listed.getD j false = true → Φ γ j w (vs j)) →
   wpAny P md ops Q fuel listed (fillR ops.toList 0 vs a0) w := by
 intro fuel
 induction fuel with
 | zero =>
  intro listed vs γ w hs hc hSw hl
  have hall : ∀ i, i < ops.size → listed.getD i false = true := by
   intro i hi; have h' : i < listed.size := by omega
   rw [List.count_eq_zero] at hc
   cases hx : listed.getD i false with
   | true => rfl
   | false =>
    exfalso
    apply hc
    simp [h'] at hx; rw [← hx]; exact Array.getElem_mem_toList h'
  refine ⟨?_, hend vs γ w hSw (fun i hi => hl i (hall i hi))⟩; rw [List.eq_nil_iff_forall_not_mem]; intro i hi; obtain ⟨h1, o, ho, _⟩ := mem_ready.1 hi; have hi' : i < ops.size := (Array.getElem?_eq_some_iff.1 ho).1; have h2 := hall i hi'; have h' : i < listed.size := by omega
  simp [h'] at h1 h2; rw [h1] at h2
  cases h2
 | succ fuel ih =>
  intro listed vs γ w hs hc hSw hl; refine ⟨fun hr => hend vs γ w hSw (fun i hi => hl i (all_listed hb hs hr i hi)), fun i hi => ?_⟩; obtain ⟨h1, o, ho, hall⟩ := mem_ready.1 hi; have hi' : i < ops.size := (Array.getElem?_eq_some_iff.1 ho).1; have hil : i < listed.size := by omega
  refine wpOp_step ho fun K' hK => ?_
  refine hstep i o ho vs γ w hSw (fun e he hbd => hl e.on (hall e he hbd)) K' fun v γ' w' hR hv => ?_
  apply hK
  rw [fillR_upd ops.toList 0 i vs a0 o v hd (by simpa using ho), Nat.zero_add]; refine ih _ _ γ' _ (by simp [hs]) ?_ (hS _ _ _ _ hR hSw) ?_
  ·have h1' : listed.toList[i]'(by simpa using hil) = false := by simp [hil] at h1; simpa using h1
   simp only [Array.toList_setIfInBounds]; rw [List.count_set (by simpa using hil), h1', hc]; simp
  ·intro j hj; by_cases hji : j = i
   ·subst hji; rw [show upd vs j v j = v from if_pos rfl]; exact hv
   ·rw [show upd vs i v j = vs j from if_neg hji]; refine hΦ _ _ _ _ hR j _ (hl j ?_); simp [Array.getElem?_setIfInBounds, Ne.symm hji] at hj
    simpa using hj
/-- what an operation owes, with a ghost -/
def OwesG (P : Program) (Q : Exit → Act → World → Prop) (l : List Oper) (a0 : Act) (Φ : Γ → Nat → World → Value → Prop) (R : Γ → World → Γ → World → Prop) (S : Γ → World → Prop) (i : Nat) (o : Oper) : Prop :=
 ∀ vs γ w, S γ w → (∀ e ∈ o.after.toList, Region.binds .any e = true → Φ γ e.on w (vs e.on)) → ∀ K : Act → World → Prop, (∀ v γ' w', R γ w γ' w' → Φ γ' i w' v → K ((fillR l 0 vs a0).put o.dst v) w') →
  Wrap (if Region.wanted o (yielded l.toArray (fillR l 0 vs a0).tmps) = true then Oper.wp P o (fillR l 0 vs a0) w K Q else K ((fillR l 0 vs a0).put o.dst undef) w)
theorem region_invg {id : Nat} {a0 : Act} {w : World} {l : List Oper} (Φ : Γ → Nat → World → Value → Prop) (R : Γ → World → Γ → World → Prop) (S : Γ → World → Prop) (γ0 : Γ) (hm : P.follows .mixedOrders = true) (hd : apartL l = true) (hb : backB l.toArray = true)
  (hΦ : ∀ γ w γ' w', R γ w γ' w' → ∀ j x, Φ γ j w x → Φ γ' j w' x) (hS : ∀ γ w γ' w', R γ w γ' w' → S γ w → S γ' w') (hS0 : S γ0 w.drew)
  (hstep : StepsL (OwesG P Q l a0 Φ R S) 0 l)
  (hend : ∀ vs γ w, S γ w → (∀ i, i < l.length → Φ γ i w (vs i)) → Q .normal (fillR l 0 vs a0) w) : (Code.region id l.toArray true).wp P Q a0 w := by
 refine wp_region_any hm ?_
 have h := wpAny_invg (P := P) (Q := Q) (md := .any) (ops := l.toArray) Φ R S a0 hd hb hΦ hS (fun i o ho vs γ w hSw hdep K hK => by
  have := hstep i o (by simpa using ho); rw [Nat.zero_add] at this
  exact (this vs γ w hSw (fun e he hbd => hdep e (by simpa using he) hbd) K hK).un) (fun vs γ w hSw h => hend vs γ w hSw (fun i hi => h i (by simpa using hi))) l.toArray.size (Array.replicate l.toArray.size false) (ownV l a0) γ0 w.drew (by simp) (by simp) hS0 (fun j hj => by rw [repF] at hj; cases hj)
 rw [fillR_id] at h
 ·exact h
 ·intro j o ho d hd'; rw [Nat.zero_add]; unfold ownV; rw [ho]; simp [hd']
end
end Go.Proofs.YtijkfagkbfbpmaaGreatDoor
