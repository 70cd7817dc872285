import Derived.Test.YtmbfjmilhfmnkaaGreatDoorKRdsProof11
import Derived.Test.YtmbfjmilhfmnkaaGreatDoorS0
set_option linter.unusedVariables false
set_option linter.unusedSimpArgs false
namespace Go.Proofs.YtmbfjmilhfmnkaaGreatDoor
open Go.RowKit
def PhiV0 (b : Nat) (a1 : Value) (t1 k1 : Nat) (j : Nat) (w : World) (x : Value) : Prop :=
 match j with
 | 0 => x = .pointer (some ⟨b, 0, none⟩)
 | 1 => x = a1
 | 2 => ∃ A c, x = .slice A t1 c
 | 3 => x = .int .i64 t1
 | 4 => x = .pointer (some ⟨b, 0, none⟩)
 | 5 => x = a1
 | 6 => x = .int .i64 k1
 | 7 => x = .bool false
 | 8 => x = .bool false
 | 9 => x = undef
 | 10 => x = undef
 | 11 => x = undef
 | 12 => x = undef
 | 13 => x = undef
 | 14 => x = undef
 | 15 => x = undef
 | 16 => x = undef
 | 17 => x = .bool false
 | 18 => x = .bool false
 | _ => True
def PhiV1 (r : Bool) (b : Nat) (a1 a2 : Value) (t1 k1 t2 k2 : Nat) (j : Nat) (w : World) (x : Value) : Prop :=
 match j with
 | 0 => x = .pointer (some ⟨b, 0, none⟩)
 | 1 => x = a1
 | 2 => ∃ A c, x = .slice A t1 c
 | 3 => x = .int .i64 t1
 | 4 => x = .pointer (some ⟨b, 0, none⟩)
 | 5 => x = a1
 | 6 => x = .int .i64 k1
 | 7 => x = .bool true
 | 8 => x = .bool true
 | 9 => x = .pointer (some ⟨b, 1, none⟩)
 | 10 => x = a2
 | 11 => ∃ A c, x = .slice A t2 c
 | 12 => x = .int .i64 t2
 | 13 => x = .pointer (some ⟨b, 1, none⟩)
 | 14 => x = a2
 | 15 => x = .int .i64 k2
 | 16 => x = .bool r
 | 17 => x = .bool r
 | 18 => x = .bool r
 | _ => True
set_option maxRecDepth 10000 in
set_option maxHeartbeats 2000000 in
theorem rvalid_any (A1 A2 : Option Addr) (k1 c1 k2 c2 : Nat) (l1 l2 : List Nat) (w : World) (h1 : Lim w A1 c1 l1) (h2 : Lim w A2 c2 l2) (e1 : k1 = l1.length) (e2 : k2 = l2.length) :
  Calls Tryz.prog 33 #[.agg #[.slice A1 k1 c1, .slice A2 k2 c2]] w fun e w' => e = .returned (.int .i64 (Nm.validE l1 l2)) ∧ Below w.heap.size w w' := by
 have hkb1 : k1 ≤ 9223372036854775807 := by have := h1.2.1; have := h1.2.2.1; omega
 have hkb2 : k2 ≤ 9223372036854775807 := by have := h2.2.1; have := h2.2.2.1; omega
 have E1 := Lib.hid e1; have E2 := Lib.hid e2; obtain ⟨E, HE⟩ : ∃ E, Hid (E = Nm.validE l1 l2) := ⟨_, rfl⟩; rw [← HE.out]; by_cases hs1 : 64 < k1
 ·have hv : E = 4 := by rw [HE.out]; exact Nm.validE_big1 (by omega)
  clear e1 e2; subst hv; have hd1 : decide ((64 : Int) < (k1 : Int)) = true := by simp; omega
  go_enter Tryz.func33, Tryz.ntmps33
  go_wp2
  go_ret; exact ⟨rfl, bA _ _⟩
 by_cases hs2 : 64 < k2
 ·have hv : E = 4 := by rw [HE.out]; exact Nm.validE_big2 (by omega)
  clear e1 e2; subst hv; have hd1 : decide ((64 : Int) < (k1 : Int)) = false := by simp; omega
  have hd2 : decide ((64 : Int) < (k2 : Int)) = true := by simp; omega
  go_enter Tryz.func33, Tryz.ntmps33
  go_wp2
  go_ret; exact ⟨rfl, bA _ _⟩
 have hd1 : decide ((64 : Int) < (k1 : Int)) = false := by simp; omega
 have hd2 : decide ((64 : Int) < (k2 : Int)) = false := by simp; omega
 obtain ⟨t1, HT1⟩ : ∃ t1, Hid (t1 = (Nm.lb (Nm.nv l1)).length) := ⟨_, rfl⟩; obtain ⟨t2, HT2⟩ : ∃ t2, Hid (t2 = (Nm.lb (Nm.nv l2)).length) := ⟨_, rfl⟩; have hB := Nm.validE_bad (l1 := l1) (l2 := l2) (by omega) (by omega); have hG := Nm.validE_good (l1 := l1) (l2 := l2) (by omega) (by omega); have ht1 : t1 ≤ k1 := by rw [HT1.out, e1]; exact Nm.lb_nv_le h1.limb
 have ht2 : t2 ≤ k2 := by rw [HT2.out, e2]; exact Nm.lb_nv_le h2.limb
 rw [← HT1.out, ← HT2.out, ← e1, ← e2, ← HE.out] at hB hG; have HB := Lib.hid hB; have HG := Lib.hid hG; clear hB hG e1 e2; by_cases q1 : t1 < k1
 ·obtain rfl : E = 1 := HB.out (.inl q1); have HE1 : Hid (((t1 : Int) == (k1 : Int)) = false) := by show _ = _; simp; omega
  clear HB HG hd1 hd2; have hd1 : decide ((64 : Int) < (k1 : Int)) = false := by simp; omega
  have hd2 : decide ((64 : Int) < (k2 : Int)) = false := by simp; omega
  go_enter Tryz.func33, Tryz.ntmps33
  go_wp2_with fail; obtain ⟨w2, hw2⟩ : ∃ w2, w2 = w.alloc (.cells #[.slice A1 k1 c1, .slice A2 k2 c2] 29) := ⟨_, rfl⟩; have hbw : Below w.heap.size w w2 := by rw [hw2]; exact bA _ _
  have hx1 : Box w2 w.heap.size (.slice A1 k1 c1) (.slice A2 k2 c2) := by rw [hw2]; exact Blk.new w _ _
  rw [← hw2]; clear hw2; refine region_inv (PhiV0 w.heap.size (.slice A1 k1 c1) t1 k1) (fun w w' => Below w.heap.size w w') (fun W => Below w2.heap.size w2 W) (by kernel_rfl) (by kernel_rfl) (by kernel_rfl) (fun _ _ _ _ _ h => h) (fun _ _ hR hS => Below.tr hS hR) (bD _) ?_ ?_
  ·refine sK ?_ (sK ?_ (sK ?_ (sK ?_ (sK ?_ (sK ?_ (sK ?_ (sK ?_ (sK ?_ (sK ?_ (sK ?_ (sK ?_ (sK ?_ (sK ?_ (sK ?_ (sK ?_ (sK ?_ (sK ?_ (sK ?_ (sZ)))))))))))))))))))
   ·intro vs W hS hdep K hK; refine ⟨?_⟩; simp only [fillR, Act.put, sA, sB, sC, Nat.zero_add, Nat.reduceAdd] at hK ⊢; go_simp; with_reducible refine hK _ _ (Below.refl _ _) ?_
    exact rfl
   ·intro vs W hS hdep K hK; have d0 := hdep ⟨0, .data⟩ (by simp) rfl; simp only [PhiV0] at d0; have f1 := (hx1.below hS).facts.1; have f2 := (hx1.below hS).facts.2; refine ⟨?_⟩; simp only [fillR, Act.put, sA, sB, sC, Nat.zero_add, Nat.reduceAdd, d0] at hK ⊢; go_simp; with_reducible refine hK _ _ (Below.refl _ _) ?_
    exact rfl
   ·intro vs W hS hdep K hK; have d0 := hdep ⟨1, .data⟩ (by simp) rfl; simp only [PhiV0] at d0; refine ⟨?_⟩; simp only [fillR, Act.put, sA, sB, sC, Nat.zero_add, Nat.reduceAdd, d0] at hK ⊢; go_simp; refine (rtrim_n _ _ _ l1 _ (h1.below (Below.tr hbw hS)) E1.out (by omega)).mono ?_; rintro e w' ⟨A', k', c', rfl, hn, hb⟩; go_wp2_with fail; with_reducible refine hK _ _ hb ?_
    exact ⟨A', c', by rw [hn.1, ← HT1.out]⟩
   ·intro vs W hS hdep K hK; have d0 := hdep ⟨2, .data⟩ (by simp) rfl; simp only [PhiV0] at d0; refine @exE2 _ _ _ _ d0 ?_; clear d0; intro Az0 cz0 d0; have ez0 := d0; clear d0; refine ⟨?_⟩; simp only [fillR, Act.put, sA, sB, sC, Nat.zero_add, Nat.reduceAdd, ez0] at hK ⊢; go_simp; with_reducible refine hK _ _ (Below.refl _ _) ?_
    exact rfl
   ·intro vs W hS hdep K hK; refine ⟨?_⟩; simp only [fillR, Act.put, sA, sB, sC, Nat.zero_add, Nat.reduceAdd] at hK ⊢; go_simp; with_reducible refine hK _ _ (Below.refl _ _) ?_
    exact rfl
   ·intro vs W hS hdep K hK; have d0 := hdep ⟨4, .data⟩ (by simp) rfl; simp only [PhiV0] at d0; have f1 := (hx1.below hS).facts.1; have f2 := (hx1.below hS).facts.2; refine ⟨?_⟩; simp only [fillR, Act.put, sA, sB, sC, Nat.zero_add, Nat.reduceAdd, d0] at hK ⊢; go_simp; with_reducible refine hK _ _ (Below.refl _ _) ?_
    exact rfl
   ·intro vs W hS hdep K hK; have d0 := hdep ⟨5, .data⟩ (by simp) rfl; simp only [PhiV0] at d0; refine ⟨?_⟩; simp only [fillR, Act.put, sA, sB, sC, Nat.zero_add, Nat.reduceAdd, d0] at hK ⊢; go_simp; with_reducible refine hK _ _ (Below.refl _ _) ?_
    exact rfl
   ·intro vs W hS hdep K hK; have d0 := hdep ⟨3, .data⟩ (by simp) rfl; simp only [PhiV0] at d0; have d1 := hdep ⟨6, .data⟩ (by simp) rfl; simp only [PhiV0] at d1; have hq := HE1.out; refine ⟨?_⟩; simp only [fillR, Act.put, sA, sB, sC, Nat.zero_add, Nat.reduceAdd, d0, d1] at hK ⊢; go_simp; with_reducible refine hK _ _ (Below.refl _ _) ?_
    exact rfl
   ·intro vs W hS hdep K hK; have d0 := hdep ⟨7, .data⟩ (by simp) rfl; simp only [PhiV0] at d0; refine ⟨?_⟩; simp only [fillR, Act.put, sA, sB, sC, Nat.zero_add, Nat.reduceAdd, d0] at hK ⊢; go_simp; with_reducible refine hK _ _ (Below.refl _ _) ?_
    exact rfl
   ·intro vs W hS hdep K hK; have d0 := hdep ⟨8, .guard⟩ (by simp) rfl; simp only [PhiV0] at d0; refine ⟨?_⟩; simp only [fillR, Act.put, sA, sB, sC, Nat.zero_add, Nat.reduceAdd, d0] at hK ⊢; go_simp; with_reducible refine hK _ _ (Below.refl _ _) ?_
    exact rfl
   ·intro vs W hS hdep K hK; have d0 := hdep ⟨8, .guard⟩ (by simp) rfl; simp only [PhiV0] at d0; refine ⟨?_⟩; simp only [fillR, Act.put, sA, sB, sC, Nat.zero_add, Nat.reduceAdd, d0] at hK ⊢; go_simp; with_reducible refine hK _ _ (Below.refl _ _) ?_
    exact rfl
   ·intro vs W hS hdep K hK; have d0 := hdep ⟨8, .guard⟩ (by simp) rfl; simp only [PhiV0] at d0; refine ⟨?_⟩; simp only [fillR, Act.put, sA, sB, sC, Nat.zero_add, Nat.reduceAdd, d0] at hK ⊢; go_simp; with_reducible refine hK _ _ (Below.refl _ _) ?_
    exact rfl
   ·intro vs W hS hdep K hK; have d0 := hdep ⟨8, .guard⟩ (by simp) rfl; simp only [PhiV0] at d0; refine ⟨?_⟩; simp only [fillR, Act.put, sA, sB, sC, Nat.zero_add, Nat.reduceAdd, d0] at hK ⊢; go_simp; with_reducible refine hK _ _ (Below.refl _ _) ?_
    exact rfl
   ·intro vs W hS hdep K hK; have d0 := hdep ⟨8, .guard⟩ (by simp) rfl; simp only [PhiV0] at d0; refine ⟨?_⟩; simp only [fillR, Act.put, sA, sB, sC, Nat.zero_add, Nat.reduceAdd, d0] at hK ⊢; go_simp; with_reducible refine hK _ _ (Below.refl _ _) ?_
    exact rfl
   ·intro vs W hS hdep K hK; have d0 := hdep ⟨8, .guard⟩ (by simp) rfl; simp only [PhiV0] at d0; refine ⟨?_⟩; simp only [fillR, Act.put, sA, sB, sC, Nat.zero_add, Nat.reduceAdd, d0] at hK ⊢; go_simp; with_reducible refine hK _ _ (Below.refl _ _) ?_
    exact rfl
   ·intro vs W hS hdep K hK; have d0 := hdep ⟨8, .guard⟩ (by simp) rfl; simp only [PhiV0] at d0; refine ⟨?_⟩; simp only [fillR, Act.put, sA, sB, sC, Nat.zero_add, Nat.reduceAdd, d0] at hK ⊢; go_simp; with_reducible refine hK _ _ (Below.refl _ _) ?_
    exact rfl
   ·intro vs W hS hdep K hK; have d0 := hdep ⟨8, .guard⟩ (by simp) rfl; simp only [PhiV0] at d0; refine ⟨?_⟩; simp only [fillR, Act.put, sA, sB, sC, Nat.zero_add, Nat.reduceAdd, d0] at hK ⊢; go_simp; with_reducible refine hK _ _ (Below.refl _ _) ?_
    exact rfl
   ·intro vs W hS hdep K hK; have d0 := hdep ⟨8, .data⟩ (by simp) rfl; simp only [PhiV0] at d0; refine ⟨?_⟩; simp only [fillR, Act.put, sA, sB, sC, Nat.zero_add, Nat.reduceAdd, d0] at hK ⊢; go_simp; with_reducible refine hK _ _ (Below.refl _ _) ?_
    exact rfl
   ·intro vs W hS hdep K hK; have d0 := hdep ⟨17, .data⟩ (by simp) rfl; simp only [PhiV0] at d0; refine ⟨?_⟩; simp only [fillR, Act.put, sA, sB, sC, Nat.zero_add, Nat.reduceAdd, d0] at hK ⊢; go_simp; with_reducible refine hK _ _ (Below.refl _ _) ?_
    exact rfl
  intro vs W hS hv; have v18 := hv 18 (by simp); simp only [PhiV0] at v18; simp only [fillR, Act.put, sA, sB, sC, Nat.zero_add, Nat.reduceAdd, v18]; have f1 := (hx1.below hS).facts.1; have f2 := (hx1.below hS).facts.2; have hbW := Below.tr hbw hS; clear hv v18 hS; go_wp2_with fail; go_ret; exact ⟨rfl, hbW⟩
 have HE1 : Hid (((t1 : Int) == (k1 : Int)) = true) := by show _ = _; simp; omega
 by_cases q2 : t2 < k2
 ·obtain rfl : E = 1 := HB.out (.inr (.inl q2)); have HE2 : Hid (((t2 : Int) == (k2 : Int)) = false) := by show _ = _; simp; omega
  clear HB HG
  go_enter Tryz.func33, Tryz.ntmps33
  go_wp2_with fail; obtain ⟨w2, hw2⟩ : ∃ w2, w2 = w.alloc (.cells #[.slice A1 k1 c1, .slice A2 k2 c2] 29) := ⟨_, rfl⟩; have hbw : Below w.heap.size w w2 := by rw [hw2]; exact bA _ _
  have hx1 : Box w2 w.heap.size (.slice A1 k1 c1) (.slice A2 k2 c2) := by rw [hw2]; exact Blk.new w _ _
  rw [← hw2]; clear hw2; refine region_inv (PhiV1 false w.heap.size (.slice A1 k1 c1) (.slice A2 k2 c2) t1 k1 t2 k2) (fun w w' => Below w.heap.size w w') (fun W => Below w2.heap.size w2 W) (by kernel_rfl) (by kernel_rfl) (by kernel_rfl) (fun _ _ _ _ _ h => h) (fun _ _ hR hS => Below.tr hS hR) (bD _) ?_ ?_
  ·refine sK ?_ (sK ?_ (sK ?_ (sK ?_ (sK ?_ (sK ?_ (sK ?_ (sK ?_ (sK ?_ (sK ?_ (sK ?_ (sK ?_ (sK ?_ (sK ?_ (sK ?_ (sK ?_ (sK ?_ (sK ?_ (sK ?_ (sZ)))))))))))))))))))
   ·intro vs W hS hdep K hK; refine ⟨?_⟩; simp only [fillR, Act.put, sA, sB, sC, Nat.zero_add, Nat.reduceAdd] at hK ⊢; go_simp; with_reducible refine hK _ _ (Below.refl _ _) ?_
    exact rfl
   ·intro vs W hS hdep K hK; have d0 := hdep ⟨0, .data⟩ (by simp) rfl; simp only [PhiV1] at d0; have f1 := (hx1.below hS).facts.1; have f2 := (hx1.below hS).facts.2; refine ⟨?_⟩; simp only [fillR, Act.put, sA, sB, sC, Nat.zero_add, Nat.reduceAdd, d0] at hK ⊢; go_simp; with_reducible refine hK _ _ (Below.refl _ _) ?_
    exact rfl
   ·intro vs W hS hdep K hK; have d0 := hdep ⟨1, .data⟩ (by simp) rfl; simp only [PhiV1] at d0; refine ⟨?_⟩; simp only [fillR, Act.put, sA, sB, sC, Nat.zero_add, Nat.reduceAdd, d0] at hK ⊢; go_simp; refine (rtrim_n _ _ _ l1 _ (h1.below (Below.tr hbw hS)) E1.out (by omega)).mono ?_; rintro e w' ⟨A', k', c', rfl, hn, hb⟩; go_wp2_with fail; with_reducible refine hK _ _ hb ?_
    exact ⟨A', c', by rw [hn.1, ← HT1.out]⟩
   ·intro vs W hS hdep K hK; have d0 := hdep ⟨2, .data⟩ (by simp) rfl; simp only [PhiV1] at d0; refine @exE2 _ _ _ _ d0 ?_; clear d0; intro Az0 cz0 d0; have ez0 := d0; clear d0; refine ⟨?_⟩; simp only [fillR, Act.put, sA, sB, sC, Nat.zero_add, Nat.reduceAdd, ez0] at hK ⊢; go_simp; with_reducible refine hK _ _ (Below.refl _ _) ?_
    exact rfl
   ·intro vs W hS hdep K hK; refine ⟨?_⟩; simp only [fillR, Act.put, sA, sB, sC, Nat.zero_add, Nat.reduceAdd] at hK ⊢; go_simp; with_reducible refine hK _ _ (Below.refl _ _) ?_
    exact rfl
   ·intro vs W hS hdep K hK; have d0 := hdep ⟨4, .data⟩ (by simp) rfl; simp only [PhiV1] at d0; have f1 := (hx1.below hS).facts.1; have f2 := (hx1.below hS).facts.2; refine ⟨?_⟩; simp only [fillR, Act.put, sA, sB, sC, Nat.zero_add, Nat.reduceAdd, d0] at hK ⊢; go_simp; with_reducible refine hK _ _ (Below.refl _ _) ?_
    exact rfl
   ·intro vs W hS hdep K hK; have d0 := hdep ⟨5, .data⟩ (by simp) rfl; simp only [PhiV1] at d0; refine ⟨?_⟩; simp only [fillR, Act.put, sA, sB, sC, Nat.zero_add, Nat.reduceAdd, d0] at hK ⊢; go_simp; with_reducible refine hK _ _ (Below.refl _ _) ?_
    exact rfl
   ·intro vs W hS hdep K hK; have d0 := hdep ⟨3, .data⟩ (by simp) rfl; simp only [PhiV1] at d0; have d1 := hdep ⟨6, .data⟩ (by simp) rfl; simp only [PhiV1] at d1; have hq := HE1.out; refine ⟨?_⟩; simp only [fillR, Act.put, sA, sB, sC, Nat.zero_add, Nat.reduceAdd, d0, d1] at hK ⊢; go_simp; with_reducible refine hK _ _ (Below.refl _ _) ?_
    exact rfl
   ·intro vs W hS hdep K hK; have d0 := hdep ⟨7, .data⟩ (by simp) rfl; simp only [PhiV1] at d0; refine ⟨?_⟩; simp only [fillR, Act.put, sA, sB, sC, Nat.zero_add, Nat.reduceAdd, d0] at hK ⊢; go_simp; with_reducible refine hK _ _ (Below.refl _ _) ?_
    exact rfl
   ·intro vs W hS hdep K hK; have d0 := hdep ⟨8, .guard⟩ (by simp) rfl; simp only [PhiV1] at d0; refine ⟨?_⟩; simp only [fillR, Act.put, sA, sB, sC, Nat.zero_add, Nat.reduceAdd, d0] at hK ⊢; go_simp; with_reducible refine hK _ _ (Below.refl _ _) ?_
    exact rfl
   ·intro vs W hS hdep K hK; have d0 := hdep ⟨8, .guard⟩ (by simp) rfl; simp only [PhiV1] at d0; have d1 := hdep ⟨9, .data⟩ (by simp) rfl; simp only [PhiV1] at d1; have f1 := (hx1.below hS).facts.1; have f2 := (hx1.below hS).facts.2; refine ⟨?_⟩; simp only [fillR, Act.put, sA, sB, sC, Nat.zero_add, Nat.reduceAdd, d0, d1] at hK ⊢; go_simp; with_reducible refine hK _ _ (Below.refl _ _) ?_
    exact rfl
   ·intro vs W hS hdep K hK; have d0 := hdep ⟨8, .guard⟩ (by simp) rfl; simp only [PhiV1] at d0; have d1 := hdep ⟨10, .data⟩ (by simp) rfl; simp only [PhiV1] at d1; refine ⟨?_⟩; simp only [fillR, Act.put, sA, sB, sC, Nat.zero_add, Nat.reduceAdd, d0, d1] at hK ⊢; go_simp; refine (rtrim_n _ _ _ l2 _ (h2.below (Below.tr hbw hS)) E2.out (by omega)).mono ?_; rintro e w' ⟨A', k', c', rfl, hn, hb⟩; go_wp2_with fail; with_reducible refine hK _ _ hb ?_
    exact ⟨A', c', by rw [hn.1, ← HT2.out]⟩
   ·intro vs W hS hdep K hK; have d0 := hdep ⟨8, .guard⟩ (by simp) rfl; simp only [PhiV1] at d0; have d1 := hdep ⟨11, .data⟩ (by simp) rfl; simp only [PhiV1] at d1; refine @exE2 _ _ _ _ d1 ?_; clear d1; intro Az1 cz1 d1; have ez1 := d1; clear d1; refine ⟨?_⟩; simp only [fillR, Act.put, sA, sB, sC, Nat.zero_add, Nat.reduceAdd, d0, ez1] at hK ⊢; go_simp; with_reducible refine hK _ _ (Below.refl _ _) ?_
    exact rfl
   ·intro vs W hS hdep K hK; have d0 := hdep ⟨8, .guard⟩ (by simp) rfl; simp only [PhiV1] at d0; refine ⟨?_⟩; simp only [fillR, Act.put, sA, sB, sC, Nat.zero_add, Nat.reduceAdd, d0] at hK ⊢; go_simp; with_reducible refine hK _ _ (Below.refl _ _) ?_
    exact rfl
   ·intro vs W hS hdep K hK; have d0 := hdep ⟨8, .guard⟩ (by simp) rfl; simp only [PhiV1] at d0; have d1 := hdep ⟨13, .data⟩ (by simp) rfl; simp only [PhiV1] at d1; have f1 := (hx1.below hS).facts.1; have f2 := (hx1.below hS).facts.2; refine ⟨?_⟩; simp only [fillR, Act.put, sA, sB, sC, Nat.zero_add, Nat.reduceAdd, d0, d1] at hK ⊢; go_simp; with_reducible refine hK _ _ (Below.refl _ _) ?_
    exact rfl
   ·intro vs W hS hdep K hK; have d0 := hdep ⟨8, .guard⟩ (by simp) rfl; simp only [PhiV1] at d0; have d1 := hdep ⟨14, .data⟩ (by simp) rfl; simp only [PhiV1] at d1; refine ⟨?_⟩; simp only [fillR, Act.put, sA, sB, sC, Nat.zero_add, Nat.reduceAdd, d0, d1] at hK ⊢; go_simp; with_reducible refine hK _ _ (Below.refl _ _) ?_
    exact rfl
   ·intro vs W hS hdep K hK; have d0 := hdep ⟨8, .guard⟩ (by simp) rfl; simp only [PhiV1] at d0; have d1 := hdep ⟨12, .data⟩ (by simp) rfl; simp only [PhiV1] at d1; have d2 := hdep ⟨15, .data⟩ (by simp) rfl; simp only [PhiV1] at d2; have hq := HE2.out; refine ⟨?_⟩; simp only [fillR, Act.put, sA, sB, sC, Nat.zero_add, Nat.reduceAdd, d0, d1, d2] at hK ⊢; go_simp; with_reducible refine hK _ _ (Below.refl _ _) ?_
    exact rfl
   ·intro vs W hS hdep K hK; have d0 := hdep ⟨8, .data⟩ (by simp) rfl; simp only [PhiV1] at d0; have d1 := hdep ⟨16, .data⟩ (by simp) rfl; simp only [PhiV1] at d1; refine ⟨?_⟩; simp only [fillR, Act.put, sA, sB, sC, Nat.zero_add, Nat.reduceAdd, d0, d1] at hK ⊢; go_simp; with_reducible refine hK _ _ (Below.refl _ _) ?_
    exact rfl
   ·intro vs W hS hdep K hK; have d0 := hdep ⟨17, .data⟩ (by simp) rfl; simp only [PhiV1] at d0; refine ⟨?_⟩; simp only [fillR, Act.put, sA, sB, sC, Nat.zero_add, Nat.reduceAdd, d0] at hK ⊢; go_simp; with_reducible refine hK _ _ (Below.refl _ _) ?_
    exact rfl
  intro vs W hS hv; have v18 := hv 18 (by simp); simp only [PhiV1] at v18; simp only [fillR, Act.put, sA, sB, sC, Nat.zero_add, Nat.reduceAdd, v18]; have f1 := (hx1.below hS).facts.1; have f2 := (hx1.below hS).facts.2; have hbW := Below.tr hbw hS; clear hv v18 hS; go_wp2_with fail; go_ret; exact ⟨rfl, hbW⟩
 have HE2 : Hid (((t2 : Int) == (k2 : Int)) = true) := by show _ = _; simp; omega
 have n1 : Nb w A1 k1 c1 (Nm.nv l1) := by
  have h := Nm.lb_of_len h1.limb (by rw [← HT1.out, ← E1.out]; exact q1); exact ⟨by rw [h, E1.out], by rw [h]; exact h1⟩
 have n2 : Nb w A2 k2 c2 (Nm.nv l2) := by
  have h := Nm.lb_of_len h2.limb (by rw [← HT2.out, ← E2.out]; exact q2); exact ⟨by rw [h, E2.out], by rw [h]; exact h2⟩
 have hq1 : ¬ t1 < k1 := q1; have hq2 : ¬ t2 < k2 := q2; clear q1 q2
 go_enter Tryz.func33, Tryz.ntmps33
 go_wp2_with fail; obtain ⟨w2, hw2⟩ : ∃ w2, w2 = w.alloc (.cells #[.slice A1 k1 c1, .slice A2 k2 c2] 29) := ⟨_, rfl⟩; have hbw : Below w.heap.size w w2 := by rw [hw2]; exact bA _ _
 have hx1 : Box w2 w.heap.size (.slice A1 k1 c1) (.slice A2 k2 c2) := by rw [hw2]; exact Blk.new w _ _
 rw [← hw2]; clear hw2; refine region_inv (PhiV1 true w.heap.size (.slice A1 k1 c1) (.slice A2 k2 c2) t1 k1 t2 k2) (fun w w' => Below w.heap.size w w') (fun W => Below w2.heap.size w2 W) (by kernel_rfl) (by kernel_rfl) (by kernel_rfl) (fun _ _ _ _ _ h => h) (fun _ _ hR hS => Below.tr hS hR) (bD _) ?_ ?_
 ·refine sK ?_ (sK ?_ (sK ?_ (sK ?_ (sK ?_ (sK ?_ (sK ?_ (sK ?_ (sK ?_ (sK ?_ (sK ?_ (sK ?_ (sK ?_ (sK ?_ (sK ?_ (sK ?_ (sK ?_ (sK ?_ (sK ?_ (sZ)))))))))))))))))))
  ·intro vs W hS hdep K hK; refine ⟨?_⟩; simp only [fillR, Act.put, sA, sB, sC, Nat.zero_add, Nat.reduceAdd] at hK ⊢; go_simp; with_reducible refine hK _ _ (Below.refl _ _) ?_
   exact rfl
  ·intro vs W hS hdep K hK; have d0 := hdep ⟨0, .data⟩ (by simp) rfl; simp only [PhiV1] at d0; have f1 := (hx1.below hS).facts.1; have f2 := (hx1.below hS).facts.2; refine ⟨?_⟩; simp only [fillR, Act.put, sA, sB, sC, Nat.zero_add, Nat.reduceAdd, d0] at hK ⊢; go_simp; with_reducible refine hK _ _ (Below.refl _ _) ?_
   exact rfl
  ·intro vs W hS hdep K hK; have d0 := hdep ⟨1, .data⟩ (by simp) rfl; simp only [PhiV1] at d0; refine ⟨?_⟩; simp only [fillR, Act.put, sA, sB, sC, Nat.zero_add, Nat.reduceAdd, d0] at hK ⊢; go_simp; refine (rtrim_n _ _ _ l1 _ (h1.below (Below.tr hbw hS)) E1.out (by omega)).mono ?_; rintro e w' ⟨A', k', c', rfl, hn, hb⟩; go_wp2_with fail; with_reducible refine hK _ _ hb ?_
   exact ⟨A', c', by rw [hn.1, ← HT1.out]⟩
  ·intro vs W hS hdep K hK; have d0 := hdep ⟨2, .data⟩ (by simp) rfl; simp only [PhiV1] at d0; refine @exE2 _ _ _ _ d0 ?_; clear d0; intro Az0 cz0 d0; have ez0 := d0; clear d0; refine ⟨?_⟩; simp only [fillR, Act.put, sA, sB, sC, Nat.zero_add, Nat.reduceAdd, ez0] at hK ⊢; go_simp; with_reducible refine hK _ _ (Below.refl _ _) ?_
   exact rfl
  ·intro vs W hS hdep K hK; refine ⟨?_⟩; simp only [fillR, Act.put, sA, sB, sC, Nat.zero_add, Nat.reduceAdd] at hK ⊢; go_simp; with_reducible refine hK _ _ (Below.refl _ _) ?_
   exact rfl
  ·intro vs W hS hdep K hK; have d0 := hdep ⟨4, .data⟩ (by simp) rfl; simp only [PhiV1] at d0; have f1 := (hx1.below hS).facts.1; have f2 := (hx1.below hS).facts.2; refine ⟨?_⟩; simp only [fillR, Act.put, sA, sB, sC, Nat.zero_add, Nat.reduceAdd, d0] at hK ⊢; go_simp; with_reducible refine hK _ _ (Below.refl _ _) ?_
   exact rfl
  ·intro vs W hS hdep K hK; have d0 := hdep ⟨5, .data⟩ (by simp) rfl; simp only [PhiV1] at d0; refine ⟨?_⟩; simp only [fillR, Act.put, sA, sB, sC, Nat.zero_add, Nat.reduceAdd, d0] at hK ⊢; go_simp; with_reducible refine hK _ _ (Below.refl _ _) ?_
   exact rfl
  ·intro vs W hS hdep K hK; have d0 := hdep ⟨3, .data⟩ (by simp) rfl; simp only [PhiV1] at d0; have d1 := hdep ⟨6, .data⟩ (by simp) rfl; simp only [PhiV1] at d1; have hq := HE1.out; refine ⟨?_⟩; simp only [fillR, Act.put, sA, sB, sC, Nat.zero_add, Nat.reduceAdd, d0, d1] at hK ⊢; go_simp; with_reducible refine hK _ _ (Below.refl _ _) ?_
   exact rfl
  ·intro vs W hS hdep K hK; have d0 := hdep ⟨7, .data⟩ (by simp) rfl; simp only [PhiV1] at d0; refine ⟨?_⟩; simp only [fillR, Act.put, sA, sB, sC, Nat.zero_add, Nat.reduceAdd, d0] at hK ⊢; go_simp; with_reducible refine hK _ _ (Below.refl _ _) ?_
   exact rfl
  ·intro vs W hS hdep K hK; have d0 := hdep ⟨8, .guard⟩ (by simp) rfl; simp only [PhiV1] at d0; refine ⟨?_⟩; simp only [fillR, Act.put, sA, sB, sC, Nat.zero_add, Nat.reduceAdd, d0] at hK ⊢; go_simp; with_reducible refine hK _ _ (Below.refl _ _) ?_
   exact rfl
  ·intro vs W hS hdep K hK; have d0 := hdep ⟨8, .guard⟩ (by simp) rfl; simp only [PhiV1] at d0; have d1 := hdep ⟨9, .data⟩ (by simp) rfl; simp only [PhiV1] at d1; have f1 := (hx1.below hS).facts.1; have f2 := (hx1.below hS).facts.2; refine ⟨?_⟩; simp only [fillR, Act.put, sA, sB, sC, Nat.zero_add, Nat.reduceAdd, d0, d1] at hK ⊢; go_simp; with_reducible refine hK _ _ (Below.refl _ _) ?_
   exact rfl
  ·intro vs W hS hdep K hK; have d0 := hdep ⟨8, .guard⟩ (by simp) rfl; simp only [PhiV1] at d0; have d1 := hdep ⟨10, .data⟩ (by simp) rfl; simp only [PhiV1] at d1; refine ⟨?_⟩; simp only [fillR, Act.put, sA, sB, sC, Nat.zero_add, Nat.reduceAdd, d0, d1] at hK ⊢; go_simp; refine (rtrim_n _ _ _ l2 _ (h2.below (Below.tr hbw hS)) E2.out (by omega)).mono ?_; rintro e w' ⟨A', k', c', rfl, hn, hb⟩; go_wp2_with fail; with_reducible refine hK _ _ hb ?_
   exact ⟨A', c', by rw [hn.1, ← HT2.out]⟩
  ·intro vs W hS hdep K hK; have d0 := hdep ⟨8, .guard⟩ (by simp) rfl; simp only [PhiV1] at d0; have d1 := hdep ⟨11, .data⟩ (by simp) rfl; simp only [PhiV1] at d1; refine @exE2 _ _ _ _ d1 ?_; clear d1; intro Az1 cz1 d1; have ez1 := d1; clear d1; refine ⟨?_⟩; simp only [fillR, Act.put, sA, sB, sC, Nat.zero_add, Nat.reduceAdd, d0, ez1] at hK ⊢; go_simp; with_reducible refine hK _ _ (Below.refl _ _) ?_
   exact rfl
  ·intro vs W hS hdep K hK; have d0 := hdep ⟨8, .guard⟩ (by simp) rfl; simp only [PhiV1] at d0; refine ⟨?_⟩; simp only [fillR, Act.put, sA, sB, sC, Nat.zero_add, Nat.reduceAdd, d0] at hK ⊢; go_simp; with_reducible refine hK _ _ (Below.refl _ _) ?_
   exact rfl
  ·intro vs W hS hdep K hK; have d0 := hdep ⟨8, .guard⟩ (by simp) rfl; simp only [PhiV1] at d0; have d1 := hdep ⟨13, .data⟩ (by simp) rfl; simp only [PhiV1] at d1; have f1 := (hx1.below hS).facts.1; have f2 := (hx1.below hS).facts.2; refine ⟨?_⟩; simp only [fillR, Act.put, sA, sB, sC, Nat.zero_add, Nat.reduceAdd, d0, d1] at hK ⊢; go_simp; with_reducible refine hK _ _ (Below.refl _ _) ?_
   exact rfl
  ·intro vs W hS hdep K hK; have d0 := hdep ⟨8, .guard⟩ (by simp) rfl; simp only [PhiV1] at d0; have d1 := hdep ⟨14, .data⟩ (by simp) rfl; simp only [PhiV1] at d1; refine ⟨?_⟩; simp only [fillR, Act.put, sA, sB, sC, Nat.zero_add, Nat.reduceAdd, d0, d1] at hK ⊢; go_simp; with_reducible refine hK _ _ (Below.refl _ _) ?_
   exact rfl
  ·intro vs W hS hdep K hK; have d0 := hdep ⟨8, .guard⟩ (by simp) rfl; simp only [PhiV1] at d0; have d1 := hdep ⟨12, .data⟩ (by simp) rfl; simp only [PhiV1] at d1; have d2 := hdep ⟨15, .data⟩ (by simp) rfl; simp only [PhiV1] at d2; have hq := HE2.out; refine ⟨?_⟩; simp only [fillR, Act.put, sA, sB, sC, Nat.zero_add, Nat.reduceAdd, d0, d1, d2] at hK ⊢; go_simp; with_reducible refine hK _ _ (Below.refl _ _) ?_
   exact rfl
  ·intro vs W hS hdep K hK; have d0 := hdep ⟨8, .data⟩ (by simp) rfl; simp only [PhiV1] at d0; have d1 := hdep ⟨16, .data⟩ (by simp) rfl; simp only [PhiV1] at d1; refine ⟨?_⟩; simp only [fillR, Act.put, sA, sB, sC, Nat.zero_add, Nat.reduceAdd, d0, d1] at hK ⊢; go_simp; with_reducible refine hK _ _ (Below.refl _ _) ?_
   exact rfl
  ·intro vs W hS hdep K hK; have d0 := hdep ⟨17, .data⟩ (by simp) rfl; simp only [PhiV1] at d0; refine ⟨?_⟩; simp only [fillR, Act.put, sA, sB, sC, Nat.zero_add, Nat.reduceAdd, d0] at hK ⊢; go_simp; with_reducible refine hK _ _ (Below.refl _ _) ?_
   exact rfl
 intro vs W hS hv; have v18 := hv 18 (by simp); simp only [PhiV1] at v18; simp only [fillR, Act.put, sA, sB, sC, Nat.zero_add, Nat.reduceAdd, v18]; have f1 := (hx1.below hS).facts.1; have f2 := (hx1.below hS).facts.2; have hbW := Below.tr hbw hS; clear hv v18 hS; by_cases hn1 : Nm.nv l2 = 1
 ·obtain rfl : E = 1 := HB.out (.inr (.inr (.inl hn1))); have HO := Lib.hid hn1; clear HB HG hn1; go_wp2_with fail; refine (rone_t _ _ _ _ _ (n2.below hbW) HO.out).mono ?_; rintro e w' ⟨rfl, rfl⟩; go_wp2_with fail; go_ret; exact ⟨rfl, hbW⟩
 have HO := Lib.hid hn1
 rcases Nat.eq_zero_or_pos (Nm.nv l2) with hn0 | hn0
 ·obtain rfl : E = 0 := HG.out (by omega); obtain rfl : k2 = 0 := by have := n2; rw [hn0] at this; exact this.kzero
  clear HB HG hn1 hn0; go_wp2_with fail; refine (rone_f _ _ _ _ _ (n2.below hbW) HO.out).mono ?_; rintro e w' ⟨rfl, rfl⟩; go_wp2_with fail
  all_goals
   go_ret; exact ⟨rfl, hbW⟩
 have HK20 := Lib.hid (n2.pos hn0)
 rcases Nat.eq_zero_or_pos (Nm.nv l1) with hm0 | hm0
 ·obtain rfl : E = 1 := HB.out (.inr (.inr (.inr (.inl ⟨hm0, hn0⟩)))); obtain rfl : k1 = 0 := by have := n1; rw [hm0] at this; exact this.kzero
  clear HB HG hn1 hn0 hm0; have hk20 := HK20.out; go_wp2_with fail; refine (rone_f _ _ _ _ _ (n2.below hbW) HO.out).mono ?_; rintro e w' ⟨rfl, rfl⟩; go_wp2_with fail; go_ret; exact ⟨rfl, hbW⟩
 have HK10 := Lib.hid (n1.pos hm0); have HM0 := Lib.hid hm0; have HN0 := Lib.hid hn0; by_cases hg : Nat.gcd (Nm.nv l1) (Nm.nv l2) = 1
 ·obtain rfl : E = 0 := HG.out (by omega); have HGG := Lib.hid hg; clear HB HG hn1 hn0 hm0 hg; have hk10 := HK10.out; have hk20 := HK20.out; have hbz : ((k1 : Int) == 0) = false := by simp; omega
  go_wp2_with fail; refine (rone_f _ _ _ _ _ (n2.below hbW) HO.out).mono ?_; rintro e w' ⟨rfl, rfl⟩; go_wp2_with fail; refine (rcommon_n _ _ _ _ _ _ _ _ _ (n2.below hbW) (n1.below hbW) (by omega) (by omega) HN0.out).mono ?_; rintro e w' ⟨A, k, c, rfl, hnb, hb⟩; rw [Nat.gcd_comm] at hnb; go_wp2_with fail; refine (rone_t _ _ _ _ _ hnb HGG.out).mono ?_; rintro e w' ⟨rfl, rfl⟩; go_wp2_with fail; go_ret; exact ⟨rfl, Below.tr hbW hb⟩
 ·obtain rfl : E = 1 := HB.out (.inr (.inr (.inr (.inr ⟨hn0, hg⟩)))); have HGG := Lib.hid hg; clear HB HG hn1 hn0 hm0 hg; have hk10 := HK10.out; have hk20 := HK20.out; have hbz : ((k1 : Int) == 0) = false := by simp; omega
  go_wp2_with fail; refine (rone_f _ _ _ _ _ (n2.below hbW) HO.out).mono ?_; rintro e w' ⟨rfl, rfl⟩; go_wp2_with fail; refine (rcommon_n _ _ _ _ _ _ _ _ _ (n2.below hbW) (n1.below hbW) (by omega) (by omega) HN0.out).mono ?_; rintro e w' ⟨A, k, c, rfl, hnb, hb⟩; rw [Nat.gcd_comm] at hnb; go_wp2_with fail; refine (rone_f _ _ _ _ _ hnb HGG.out).mono ?_; rintro e w' ⟨rfl, rfl⟩; go_wp2_with fail; go_ret; exact ⟨rfl, Below.tr hbW hb⟩
end Go.Proofs.YtmbfjmilhfmnkaaGreatDoor
namespace Go.Proofs.YtmbfjmilhfmnkaaGreatDoor
open Go.RowKit
/-- a ratio of these limbs -/
def RtL (w : World) (v : Value) (l1 l2 : List Nat) : Prop := ∃ A1 k1 c1 A2 k2 c2, v = .agg #[.slice A1 k1 c1, .slice A2 k2 c2] ∧ Lim w A1 c1 l1 ∧ Lim w A2 c2 l2 ∧ k1 = l1.length ∧ k2 = l2.length
/-- the first of two errors -/
def firstE (a b : Int) : Int := if a = 0 then b else a
theorem valid_v {v : Value} {l1 l2 : List Nat} {w : World} (h : RtL w v l1 l2) :
  Calls Tryz.prog 30 #[v] w fun e w' => ∃ E, e = .returned (.int .i64 E) ∧ Hid (E = Nm.validE l1 l2) ∧ Below w.heap.size w w' := by
 obtain ⟨A1, k1, c1, A2, k2, c2, rfl, h1, h2, e1, e2⟩ := h; refine (valid_any A1 A2 k1 c1 k2 c2 l1 l2 w h1 h2 e1 e2).mono ?_; rintro e w' ⟨rfl, hb⟩; exact ⟨_, rfl, rfl, hb⟩
theorem rvalid_v {v : Value} {l1 l2 : List Nat} {w : World} (h : RtL w v l1 l2) :
  Calls Tryz.prog 33 #[v] w fun e w' => ∃ E, e = .returned (.int .i64 E) ∧ Hid (E = Nm.validE l1 l2) ∧ Below w.heap.size w w' := by
 obtain ⟨A1, k1, c1, A2, k2, c2, rfl, h1, h2, e1, e2⟩ := h; refine (rvalid_any A1 A2 k1 c1 k2 c2 l1 l2 w h1 h2 e1 e2).mono ?_; rintro e w' ⟨rfl, hb⟩; exact ⟨_, rfl, rfl, hb⟩
theorem RtL.shape {v : Value} {l1 l2 : List Nat} {w : World} (h : RtL w v l1 l2) : ∃ A1 k1 c1 A2 k2 c2, v = .agg #[.slice A1 k1 c1, .slice A2 k2 c2] := by
 obtain ⟨A1, k1, c1, A2, k2, c2, rfl, _⟩ := h; exact ⟨A1, k1, c1, A2, k2, c2, rfl⟩
theorem RtL.below {w w' : World} {v : Value} {l1 l2 : List Nat} (h : RtL w v l1 l2) (hb : Below w.heap.size w w') : RtL w' v l1 l2 := by
 obtain ⟨A1, k1, c1, A2, k2, c2, rfl, h1, h2, e1, e2⟩ := h; exact ⟨A1, k1, c1, A2, k2, c2, rfl, h1.below hb, h2.below hb, e1, e2⟩
theorem Rat.rtl {w : World} {v : Value} {p q : Nat} (h : Rat w v p q) : RtL w v (Nm.lb p) (Nm.lb (Nm.dn q)) := by
 obtain ⟨A1, k1, c1, A2, k2, c2, rfl, h1, h2⟩ := h; exact ⟨A1, k1, c1, A2, k2, c2, rfl, h1.2, h2.2, h1.1, h2.1⟩
/-- two ratios in a block -/
def Pair (w : World) (g : Nat) (a1 a2 b1 b2 : Value) : Prop := Blk w g 29 #[a1, a2, b1, b2]
theorem Pair.below {w w' : World} {g : Nat} {a1 a2 b1 b2 : Value} (h : Pair w g a1 a2 b1 b2) (hb : Below w.heap.size w w') : Pair w' g a1 a2 b1 b2 := Blk.below h hb h.lt
theorem Pair.facts {w : World} {g : Nat} {a1 a2 b1 b2 : Value} (h : Pair w g a1 a2 b1 b2) : w.cell? ⟨g, 0, none⟩ = some a1 ∧ w.cell? ⟨g, 1, none⟩ = some a2 ∧ w.cell? ⟨g, 2, none⟩ = some b1 ∧ w.cell? ⟨g, 3, none⟩ = some b2 := ⟨h.cell 0, h.cell 1, h.cell 2, h.cell 3⟩
set_option maxHeartbeats 1000000 in
theorem valid2_any (g : Nat) (a1 a2 b1 b2 : Value) (l1 l2 l3 l4 : List Nat) (w : World) (hg : Pair w g a1 a2 b1 b2) (ha : RtL w (.agg #[a1, a2]) l1 l2) (hb : RtL w (.agg #[b1, b2]) l3 l4) :
  Calls Tryz.prog 69 #[.slice (some ⟨g, 0, none⟩) 2 2] w fun e w' => ∃ E, e = .returned (.int .i64 E) ∧ Hid (E = firstE (Nm.validE l1 l2) (Nm.validE l3 l4)) ∧ Below w.heap.size w w' := by
 obtain ⟨A1, k1, c1, A2, k2, c2, ea⟩ := ha.shape; obtain ⟨B1, l1', d1, B2, l2', d2, eb⟩ := hb.shape; simp only [Value.agg.injEq, Array.mk.injEq, List.cons.injEq, and_true] at ea eb; obtain ⟨rfl, rfl⟩ := ea; obtain ⟨rfl, rfl⟩ := eb; obtain ⟨f1, f2, f3, f4⟩ := hg.facts
 go_enter Tryz.func69, Tryz.ntmps69
 go_wp2_with fail
 go_loopg [8] 2 (fun j i wx => ∃ (n : Nat), i = .int .i64 n ∧ n + j = 2 ∧ Below w.heap.size w wx ∧ Hid (n = 1 → Nm.validE l1 l2 = 0) ∧ Hid (n = 2 → Nm.validE l1 l2 = 0 ∧ Nm.validE l3 l4 = 0))
 case atStart => exact ⟨0, rfl, rfl, Below.refl _ _, fun h => by omega, fun h => by omega⟩
 case round =>
  obtain ⟨n, rfl, hn, hbx, H1, H2⟩ := hrel; obtain ⟨m1, m2, m3, m4⟩ := (hg.below hbx).facts; by_cases hn2 : n = 2
  ·subst hn2; have HV := Lib.hid (H2.out rfl); clear f1 f2 f3 f4; go_wp2_with fail; go_ret; exact ⟨0, rfl, by show _ = _; rw [firstE, if_pos HV.out.1, HV.out.2], hbx⟩
  ·by_cases hn1 : n = 1
   ·subst hn1; obtain rfl : gk = 1 := by omega
    have HV := Lib.hid (H1.out rfl); clear f1 f2 f3 f4 H1 H2; go_wp2_with fail; refine (valid_v ((hb.below hbx).below (bA _ _))).mono ?_; rintro e W3 ⟨E, rfl, HE, hbe⟩; have hbW := Below.tr (Below.tr hbx (bA _ _)) hbe; by_cases hE : E = 0
    ·have HV2 : Hid (Nm.validE l3 l4 = 0) := by show _ = _; rw [← HE.out]; exact hE
     have h0 : (E != 0) = false := by rw [hE]; rfl
     clear hE; go_wp2_with fail
     go_roundg 0
     case measure => omega
     case rel => exact ⟨2, rfl, by omega, hbW, (fun h => by omega), (fun _ => ⟨HV.out, HV2.out⟩)⟩
    ·have h0 : (E != 0) = true := by simpa using hE
     have HF : Hid (E = firstE (Nm.validE l1 l2) (Nm.validE l3 l4)) := by
      have hE2 := hE; rw [HE.out] at hE2
      show _ = _
      rw [HE.out, firstE, if_pos HV.out]
     clear hE; go_wp2_with fail; go_ret; exact ⟨E, rfl, HF, hbW⟩
   ·obtain rfl : n = 0 := by omega
    obtain rfl : gk = 2 := by omega
    clear f1 f2 f3 f4 H1 H2; go_wp2_with fail; refine (valid_v ((ha.below hbx).below (bA _ _))).mono ?_; rintro e W3 ⟨E, rfl, HE, hbe⟩; have hbW := Below.tr (Below.tr hbx (bA _ _)) hbe; by_cases hE : E = 0
    ·have HV2 : Hid (Nm.validE l1 l2 = 0) := by show _ = _; rw [← HE.out]; exact hE
     have h0 : (E != 0) = false := by rw [hE]; rfl
     clear hE; go_wp2_with fail
     go_roundg 1
     case measure => omega
     case rel => exact ⟨1, rfl, by omega, hbW, (fun _ => HV2.out), (fun h => by omega)⟩
    ·have h0 : (E != 0) = true := by simpa using hE
     have HF : Hid (E = firstE (Nm.validE l1 l2) (Nm.validE l3 l4)) := by
      have hE2 := hE; rw [HE.out] at hE2
      show _ = _
      rw [HE.out, firstE, if_neg hE2]
     clear hE; go_wp2_with fail; go_ret; exact ⟨E, rfl, HF, hbW⟩
end Go.Proofs.YtmbfjmilhfmnkaaGreatDoor
namespace Go.Proofs.YtmbfjmilhfmnkaaGreatDoor
open Go.RowKit
theorem Rat.shape {v : Value} {p q : Nat} {w : World} (h : Rat w v p q) : ∃ A1 k1 c1 A2 k2 c2, v = .agg #[.slice A1 k1 c1, .slice A2 k2 c2] := h.rtl.shape
theorem Rat.nb {A1 A2 : Option Addr} {k1 c1 k2 c2 p q : Nat} {w : World} (h : Rat w (.agg #[.slice A1 k1 c1, .slice A2 k2 c2]) p q) : Nb w A1 k1 c1 p ∧ Nb w A2 k2 c2 (Nm.dn q) := by
 obtain ⟨A1', k1', c1', A2', k2', c2', e, h1, h2⟩ := h; simp only [Value.agg.injEq, Array.mk.injEq, List.cons.injEq, Value.slice.injEq, and_true] at e; obtain ⟨⟨rfl, rfl, rfl⟩, rfl, rfl, rfl⟩ := e; exact ⟨h1, h2⟩
theorem Rat.small {A1 A2 : Option Addr} {k1 c1 k2 c2 p q : Nat} {w : World} (h : Rat w (.agg #[.slice A1 k1 c1, .slice A2 k2 c2]) p q) (hg : Nm.Good p q) : k1 ≤ 64 ∧ k2 ≤ 64 := by
 obtain ⟨h1, h2⟩ := h.nb; exact ⟨by rw [h1.1]; exact hg.fits.1, by rw [h2.1]; exact hg.fits.2⟩
theorem firstE_good {p q r s : Nat} (h1 : Nm.Good p q) (h2 : Nm.Good r s) : firstE (Nm.validE (Nm.lb p) (Nm.lb (Nm.dn q))) (Nm.validE (Nm.lb r) (Nm.lb (Nm.dn s))) = 0 := by
 rw [Nm.validE_of h1, Nm.validE_of h2]; rfl
theorem valid2_good (g : Nat) (a1 a2 b1 b2 : Value) (pa qa pb qb : Nat) (w : World) (hg : Pair w g a1 a2 b1 b2) (ha : Rat w (.agg #[a1, a2]) pa qa) (hb : Rat w (.agg #[b1, b2]) pb qb) (h1 : Nm.Good pa qa) (h2 : Nm.Good pb qb) :
  Calls Tryz.prog 69 #[.slice (some ⟨g, 0, none⟩) 2 2] w fun e w' => e = .returned (.int .i64 0) ∧ Below w.heap.size w w' := by
 refine (valid2_any g a1 a2 b1 b2 _ _ _ _ w hg ha.rtl hb.rtl).mono ?_; rintro e w' ⟨E, rfl, HE, hbe⟩; rw [HE.out, firstE_good h1 h2]; exact ⟨rfl, hbe⟩
theorem compare_n (A1 A2 : Option Addr) (c1 c2 k1 k2 n m : Nat) (w : World) (h1 : Nb w A1 k1 c1 n) (h2 : Nb w A2 k2 c2 m) :
  Calls Tryz.prog 72 #[.slice A1 k1 c1, .slice A2 k2 c2] w fun e w' => ∃ q, e = .returned (.int .i64 (Nm.cmpN n m)) ∧ w' = w.drewN q := by
 refine (compare_any A1 A2 c1 c2 n m k1 k2 w h1.2 h2.2 h1.1 h2.1).mono ?_; rintro e w' ⟨h, q, hq⟩; exact ⟨q, h, hq⟩
end Go.Proofs.YtmbfjmilhfmnkaaGreatDoor
namespace Go.Proofs.YtmbfjmilhfmnkaaGreatDoor
open Go.RowKit
theorem prod_lt2 {x y k l : Nat} (h1 : x < Nm.B ^ k) (hk : k ≤ 65) (h2 : y < Nm.B ^ l) (hl : l ≤ 65) : x * y < Nm.B ^ 130 := by
 have e : Nm.B ^ 130 = Nm.B ^ 65 * Nm.B ^ 65 := by rw [← Nat.pow_add]
 rw [e]; have p1 : x < Nm.B ^ 65 := Nat.lt_of_lt_of_le h1 (Nat.pow_le_pow_right Nm.B_pos hk); have p2 : y < Nm.B ^ 65 := Nat.lt_of_lt_of_le h2 (Nat.pow_le_pow_right Nm.B_pos hl); exact Nat.mul_lt_mul_of_lt_of_le p1 (Nat.le_of_lt p2) (Nat.pow_pos Nm.B_pos)
/-- a block of two slices -/
def Sl (w : World) (g : Nat) : Prop := ∃ A k c A' k' c', Blk w g 29 #[.slice A k c, .slice A' k' c']
theorem Sl.lt {w : World} {g : Nat} (h : Sl w g) : g < w.heap.size := by
 obtain ⟨A, k, c, A', k', c', hb⟩ := h; exact hb.lt
theorem Sl.below {w w' : World} {g : Nat} (h : Sl w g) (hb : Below w.heap.size w w') : Sl w' g := by
 have hl := h.lt; obtain ⟨A, k, c, A', k', c', h⟩ := h; exact ⟨A, k, c, A', k', c', h.below hb hl⟩
theorem Res.sl {w : World} {g : Nat} (h : Res w g) : Sl w g := ⟨_, _, _, _, _, _, h⟩
theorem Nb.setSl {w : World} {A : Option Addr} {k c n g i : Nat} (h : Nb w A k c n) (hs : Sl w g) (u : Value) : Nb (w.setCell ⟨g, i, none⟩ u) A k c n := by
 rcases Nat.eq_zero_or_pos n with rfl | hn
 ·refine ⟨h.1, fun hx => ?_, h.2.2⟩; rw [Nm.lb_zero] at hx; exact absurd rfl hx
 ·refine h.offSet (fun b off hA e => ?_) u; obtain ⟨b', off', hA', hc⟩ := h.2.at_ (k := 0) (by rw [← h.1]; exact h.pos hn); rw [hA'] at hA; injection hA with hA; injection hA with e1 e2; have h0 := hc 0 (by rw [← h.1]; exact h.pos hn); obtain ⟨r1, r2, r3, r4, r5, r6, hb⟩ := hs; rw [e1, e, hb.cell] at h0; generalize off' + 0 = m at h0
  rcases m with _ | _ | m <;> simp at h0
theorem Sl.set0 {w : World} {g : Nat} (h : Sl w g) (A : Option Addr) (k c : Nat) : Sl (w.setCell ⟨g, 0, none⟩ (.slice A k c)) g := by
 obtain ⟨r1, r2, r3, r4, r5, r6, hb⟩ := h; have := hb.set_ 0 (.slice A k c); exact ⟨_, _, _, _, _, _, this⟩
theorem RedP.map {w w' : World} {v : Value} {er : Int} {n d : Nat} (h : RedP w v er n d) (hm : ∀ A k c x, Nb w A k c x → Nb w' A k c x) : RedP w' v er n d := by
 rcases h with ⟨h1, h2, A1, k1, c1, A2, k2, c2, rfl, h3, h4⟩ | h
 ·exact .inl ⟨h1, h2, A1, k1, c1, A2, k2, c2, rfl, hm _ _ _ _ h3, hm _ _ _ _ h4⟩
 ·exact .inr h
/-- the result's block holds what was to come -/
def GoodR (w : World) (g n d : Nat) : Prop := ∃ A k c A' k' c' er, Blk w g 29 #[.slice A k c, .slice A' k' c'] ∧ RedP w (.agg #[.slice A k c, .slice A' k' c']) er n d
/-- what an operation of Mul's last region may do to the world -/
structure RM (B g n d : Nat) (w w' : World) : Prop where
 nb : ∀ A k c x, Nb w A k c x → Nb w' A k c x
 box : ∀ b v1 v2, b ≠ g → Box w b v1 v2 → Box w' b v1 v2
 sl : Sl w g → Sl w' g
 be : Below B w w'
 good : GoodR w' g n d ∨ w'.heap[g]? = w.heap[g]?
theorem RM.refl {B g n d : Nat} (w : World) : RM B g n d w w := ⟨fun _ _ _ _ h => h, fun _ _ _ _ h => h, fun h => h, Below.refl _ _, .inr rfl⟩
theorem RM.below {B g n d : Nat} {w w' : World} (hb : Below w.heap.size w w') (hB : B ≤ w.heap.size) (hg : g < w.heap.size) : RM B g n d w w' :=
 ⟨fun _ _ _ _ h => h.below hb, fun _ _ _ _ h => h.below hb, fun h => h.below hb, hb.mono hB, .inr (hb.block g hg)⟩
/-- a ratio to be stored -/
def RedV (w : World) (x : Value) (n d : Nat) : Prop := ∃ A k c A' k' c' er, x = .agg #[.slice A k c, .slice A' k' c'] ∧ RedP w (.agg #[.slice A k c, .slice A' k' c']) er n d
theorem RedV.of {w : World} {v : Value} {er : Int} {n d : Nat} (h : RedP w v er n d) : RedV w v n d := by
 have h0 := h
 rcases h with ⟨h1, h2, A1, k1, c1, A2, k2, c2, rfl, h3, h4⟩ | ⟨_, _, rfl⟩
 ·exact ⟨A1, k1, c1, A2, k2, c2, er, rfl, h0⟩
 ·exact ⟨none, 0, 0, none, 0, 0, er, rfl, h0⟩
def ErrOf (n d : Nat) (er : Int) : Prop := (Nm.Fits (n / Nat.gcd n d) (d / Nat.gcd n d) ∧ er = 0) ∨ (¬ Nm.Fits (n / Nat.gcd n d) (d / Nat.gcd n d) ∧ er = 4)
theorem RedP.err {w : World} {v : Value} {er : Int} {n d : Nat} (h : RedP w v er n d) : ErrOf n d er := by
 rcases h with ⟨h1, h2, _⟩ | ⟨h1, h2, _⟩
 ·exact .inl ⟨h1, h2⟩
 ·exact .inr ⟨h1, h2⟩
theorem ErrOf.uniq {n d : Nat} {a b : Int} (h : ErrOf n d a) (k : ErrOf n d b) : a = b := by
 rcases h with ⟨h1, h2⟩ | ⟨h1, h2⟩ <;> rcases k with ⟨k1, k2⟩ | ⟨k1, k2⟩
 ·rw [h2, k2]
 ·exact absurd h1 k1
 ·exact absurd k1 h1
 ·rw [h2, k2]
theorem RM.store {B g n d : Nat} {w : World} {A A' : Option Addr} {k c k' c' : Nat} {er : Int} (hs : Sl w g) (hB : B ≤ g) (h : RedP w (.agg #[.slice A k c, .slice A' k' c']) er n d) :
  RM B g n d w ((w.setCell ⟨g, 0, none⟩ (.slice A k c)).setCell ⟨g, 1, none⟩ (.slice A' k' c')) ∧ GoodR ((w.setCell ⟨g, 0, none⟩ (.slice A k c)).setCell ⟨g, 1, none⟩ (.slice A' k' c')) g n d := by
 have hn : ∀ A2 k2 c2 x, Nb w A2 k2 c2 x → Nb ((w.setCell ⟨g, 0, none⟩ (.slice A k c)).setCell ⟨g, 1, none⟩ (.slice A' k' c')) A2 k2 c2 x := fun A2 k2 c2 x h => (h.setSl hs _).setSl (hs.set0 _ _ _) _
 have hbk : Blk ((w.setCell ⟨g, 0, none⟩ (.slice A k c)).setCell ⟨g, 1, none⟩ (.slice A' k' c')) g 29 #[.slice A k c, .slice A' k' c'] := by
  obtain ⟨r1, r2, r3, r4, r5, r6, hb⟩ := hs; exact (hb.set_ 0 _).set_ 1 _
 have hgd : GoodR ((w.setCell ⟨g, 0, none⟩ (.slice A k c)).setCell ⟨g, 1, none⟩ (.slice A' k' c')) g n d := ⟨A, k, c, A', k', c', er, hbk, h.map hn⟩; exact ⟨⟨hn, fun b v1 v2 hne hb => Blk.far (Blk.far hb hne _) hne _, fun _ => ⟨_, _, _, _, _, _, hbk⟩, ((Below.refl _ _).setCell hB _).setCell hB _, .inl hgd⟩, hgd⟩
structure SM (w0 : World) (g b1 b2 : Nat) (A1 A2 B1 B2 : Option Addr) (k1 c1 k2 c2 l1 d1 l2 d2 pa qa pb qb : Nat) (w : World) : Prop where
 x1 : Box w b1 (.slice A1 k1 c1) (.slice A2 k2 c2)
 x2 : Box w b2 (.slice B1 l1 d1) (.slice B2 l2 d2)
 ra1 : Nb w A1 k1 c1 pa
 ra2 : Nb w A2 k2 c2 (Nm.dn qa)
 rb1 : Nb w B1 l1 d1 pb
 rb2 : Nb w B2 l2 d2 (Nm.dn qb)
 sl : Sl w g
 be : Below w0.heap.size w0 w
 n1 : b1 ≠ g
 n2 : b2 ≠ g
 ge : w0.heap.size ≤ g
section
variable {w0 w w' : World} {g b1 b2 : Nat} {A1 A2 B1 B2 : Option Addr} {k1 c1 k2 c2 l1 d1 l2 d2 pa qa pb qb n d : Nat}
theorem SM.size (h : SM w0 g b1 b2 A1 A2 B1 B2 k1 c1 k2 c2 l1 d1 l2 d2 pa qa pb qb w) : w0.heap.size ≤ w.heap.size := h.be.size
theorem SM.lt (h : SM w0 g b1 b2 A1 A2 B1 B2 k1 c1 k2 c2 l1 d1 l2 d2 pa qa pb qb w) : g < w.heap.size := h.sl.lt
theorem SM.step (hr : RM w0.heap.size g n d w w') (h : SM w0 g b1 b2 A1 A2 B1 B2 k1 c1 k2 c2 l1 d1 l2 d2 pa qa pb qb w) : SM w0 g b1 b2 A1 A2 B1 B2 k1 c1 k2 c2 l1 d1 l2 d2 pa qa pb qb w' :=
 ⟨hr.box _ _ _ h.n1 h.x1, hr.box _ _ _ h.n2 h.x2, hr.nb _ _ _ _ h.ra1, hr.nb _ _ _ _ h.ra2, hr.nb _ _ _ _ h.rb1, hr.nb _ _ _ _ h.rb2, hr.sl h.sl, h.be.trans hr.be, h.n1, h.n2, h.ge⟩
theorem SM.below (h : SM w0 g b1 b2 A1 A2 B1 B2 k1 c1 k2 c2 l1 d1 l2 d2 pa qa pb qb w) (hb : Below w.heap.size w w') : SM w0 g b1 b2 A1 A2 B1 B2 k1 c1 k2 c2 l1 d1 l2 d2 pa qa pb qb w' :=
 h.step (n := 0) (d := 0) (RM.below hb h.size h.lt)
end
def PhiM (b1 b2 g : Nat) (a1 a2 d1 d2 : Value) (pa qa pb qb : Nat) (j : Nat) (w : World) (x : Value) : Prop :=
 match j with
 | 0 => x = .pointer (some ⟨b1, 0, none⟩)
 | 1 => x = a1
 | 2 => x = .pointer (some ⟨b2, 0, none⟩)
 | 3 => x = d1
 | 4 => IsNb w x (pa * pb) 130
 | 5 => x = .agg #[a1, a2]
 | 6 => IsNb w x qa 65
 | 7 => x = .agg #[d1, d2]
 | 8 => IsNb w x qb 65
 | 9 => IsNb w x (qa * qb) 130
 | 10 => ∃ v er, x = .tuple #[v, .int .i64 er] ∧ RedP w v er (pa * pb) (qa * qb)
 | 11 => RedV w x (pa * pb) (qa * qb)
 | 12 => ∃ er, x = .int .i64 er ∧ ErrOf (pa * pb) (qa * qb) er
 | 13 => GoodR w g (pa * pb) (qa * qb)
 | 14 => ∃ er, x = .int .i64 er ∧ ErrOf (pa * pb) (qa * qb) er
 | _ => True
theorem IsNb.map {w w' : World} {x : Value} {n m : Nat} (h : IsNb w x n m) (hm : ∀ A k c x, Nb w A k c x → Nb w' A k c x) : IsNb w' x n m := by
 obtain ⟨A, k, c, rfl, h1, h2⟩ := h; exact ⟨A, k, c, rfl, hm _ _ _ _ h1, h2⟩
theorem PhiM.keep {B b1 b2 g : Nat} {a1 a2 d1 d2 : Value} {pa qa pb qb : Nat} : ∀ (w w' : World), RM B g (pa * pb) (qa * qb) w w' → ∀ j x, PhiM b1 b2 g a1 a2 d1 d2 pa qa pb qb j w x → PhiM b1 b2 g a1 a2 d1 d2 pa qa pb qb j w' x := by
 intro w w' hr j x h; unfold PhiM at h ⊢
 split <;> simp only at h ⊢
 all_goals first
  | exact h
  | exact h.map hr.nb
  | (obtain ⟨v, er, rfl, h⟩ := h; exact ⟨v, er, rfl, h.map hr.nb⟩)
  | (obtain ⟨A, k, c, A', k', c', er, rfl, h⟩ := h; exact ⟨A, k, c, A', k', c', er, rfl, h.map hr.nb⟩)
  | (rcases hr.good with h2 | h2; exact h2; obtain ⟨A, k, c, A', k', c', er, h3, h4⟩ := h; exact ⟨A, k, c, A', k', c', er, h2.trans h3, h4.map hr.nb⟩)
end Go.Proofs.YtmbfjmilhfmnkaaGreatDoor
