import Derived.Test.YtnjjdiilkhdbeaaGreatKCapProof24
import Derived.Test.YtnjjdiilkhdbeaaGreatS0
set_option linter.unusedVariables false
set_option linter.unusedSimpArgs false
namespace Go.Proofs.YtnjjdiilkhdbeaaGreat
open Go Go.RowKit
def PhiCl (gB : Nat) (A1 A2 : Option Addr) (k1 c1 k2 c2 : Nat) (X : LP) (vs : Nat → Value) (j : Nat) (w : World) (x : Value) : Prop :=
 match j with
 | 0 => x = .pointer (some ⟨gB, 0, none⟩)
 | 1 => x = .slice A1 k1 c1
 | 2 => ∃ E u, x = .slice E k1 u ∧ Lim w E u X.1
 | 3 => x = .pointer (some ⟨gB, 1, none⟩)
 | 4 => x = .slice A2 k2 c2
 | 5 => ∃ E u, x = .slice E k2 u ∧ Lim w E u X.2
 | 6 => RtP w x X
 | _ => True
theorem PhiCl.keepR {gB : Nat} {A1 A2 : Option Addr} {k1 c1 k2 c2 : Nat} {X : LP} : ∀ vs (w w' : World), Below w.heap.size w w' → ∀ j x, PhiCl gB A1 A2 k1 c1 k2 c2 X vs j w x → PhiCl gB A1 A2 k1 c1 k2 c2 X vs j w' x := by
 intro vs w w' hb j x h; unfold PhiCl at h ⊢
 split <;> simp only at h ⊢
 all_goals first
  | exact h
  | exact h.below hb
  | (obtain ⟨E, u, e, h⟩ := h; exact ⟨E, u, e, h.below hb⟩)
theorem PhiCl.keepF {gB : Nat} {A1 A2 : Option Addr} {k1 c1 k2 c2 : Nat} {X : LP} : ∀ vs (w w' : World) j x, ([] : List Nat).contains j = true → PhiCl gB A1 A2 k1 c1 k2 c2 X vs j w x → PhiCl gB A1 A2 k1 c1 k2 c2 X vs j w' x := by
 intro vs w w' j x hf
 cases hf
set_option maxRecDepth 100000 in
set_option maxHeartbeats 2000000 in
theorem clone_F (va : Value) (X : LP) (w : World) (h : RtP w va X) (h1 : X.1.length ≤ 1048576) (h2 : X.2.length ≤ 1048576) :
  Calls Tryz.prog 82 #[va] w fun e w' => ∃ v, e = .returned v ∧ RtP w' v X ∧ Below w.heap.size w w' := by
 obtain ⟨A1, k1, c1, A2, k2, c2, rfl, hl1, hl2, ee1, ee2⟩ := h; have EE1 := Lib.hid ee1; have EE2 := Lib.hid ee2; have hl3 := Lib.hid h1; have hl4 := Lib.hid h2; clear ee1 ee2 h1 h2
 go_enter Tryz.func82, Tryz.ntmps82
 go_upto_region 1 with fail; refine wp_name ?_; intro w1 HW1; have hb1 : Below w.heap.size w w1 := by rw [HW1.out]; exact Below.tr (bA _ _) (bA _ _)
 have hB1 : Blk w1 w.heap.size 25 #[.slice A1 k1 c1, .slice A2 k2 c2] := by rw [HW1.out]; exact Blk.below (Blk.newG rfl) (bA _ _) (Blk.newG rfl).lt
 have hs1 : Sl w1 (w.heap.size + 1) := by rw [HW1.out]; exact ⟨none, 0, 0, none, 0, 0, Blk.newG (by simp)⟩
 clear HW1; obtain ⟨gB, hgB⟩ : ∃ g, Hid (g = w.heap.size) := ⟨_, rfl⟩; obtain ⟨gr, hgrr⟩ : ∃ g, Hid (g = w.heap.size + 1) := ⟨_, rfl⟩; have hgr : w.heap.size ≤ gr := by have := hgrr.out; omega
 rw [← hgrr.out] at hs1 ⊢; rw [← hgB.out] at hB1 ⊢; have hl1 := hl1.below hb1; have hl2 := hl2.below hb1; have b0 := hB1.cell 0; have b1 := hB1.cell 1; simp only [List.getElem?_toArray, List.getElem?_cons_zero, List.getElem?_cons_succ] at b0 b1; have b0 := Lib.hid b0; have b1 := Lib.hid b1; clear hB1 hgB hgrr; refine region_chain [7] [.early, .early, .early, .early, .early, .early, .early, .chain 0] [] [] (PhiCl gB A1 A2 k1 c1 k2 c2 X) (fun w w' => Below w.heap.size w w') (SMo w.heap.size gr w w1 X) (by kernel_rfl) (by kernel_rfl) (by kernel_rfl) (by kernel_rfl) (sK (fun _ _ _ _ _ h => h) (sK (fun _ _ _ _ _ h => h) (sK (fun _ _ _ _ _ h => h) (sK (fun _ _ _ _ _ h => h) (sK (fun _ _ _ _ _ h => h) (sK (fun _ _ _ _ _ h => h) (sK (fun _ _ _ _ _ h => h) (sK (fun _ _ _ _ _ h => h) (sZ))))))))) PhiCl.keepR PhiCl.keepF (fun _ _ _ _ hR hS => Below.tr hS hR) (by rintro (_ | ⟨_, _ | _⟩) vs vs' w _ h <;> exact h) (fun _ => bD _) (fun vs => by simp only [fillR, Act.put, sA, sB, sC, Nat.zero_add, Nat.reduceAdd]; rfl) ?_ ?_
 ·refine sK ?_ (sK ?_ (sK ?_ (sK ?_ (sK ?_ (sK ?_ (sK ?_ (sK ?_ (sZ))))))))
  ·as_aux_lemma =>
   intro vs W hS hu hdep K hK; have HU := Lib.hid hu; clear hu; refine ⟨?_⟩; simp only [Act.put, sA, sB, sC, Nat.zero_add, Nat.reduceAdd] at hK ⊢; go_simp; with_reducible refine hK _ _ (Below.refl _ _) ?_
   exact rfl
  ·as_aux_lemma =>
   intro vs W hS hu hdep K hK; have HU := Lib.hid hu; clear hu; have d0 := hdep ⟨0, .data⟩ (by simp) rfl; simp only [PhiCl] at d0; have f1 := cell_keep hS b0.out; refine ⟨?_⟩; simp only [Act.put, sA, sB, sC, Nat.zero_add, Nat.reduceAdd, d0] at hK ⊢; go_simp; with_reducible refine hK _ _ (Below.refl _ _) ?_
   exact rfl
  ·as_aux_lemma =>
   intro vs W hS hu hdep K hK; have HU := Lib.hid hu; clear hu; have d0 := hdep ⟨1, .data⟩ (by simp) rfl; simp only [PhiCl] at d0; refine ⟨?_⟩; simp only [fillR, Act.put, sA, sB, sC, Nat.zero_add, Nat.reduceAdd, d0] at hK ⊢; go_simp; refine (clone_any A1 c1 k1 X.1 _ (hl1.below hS) EE1.out hl3.out).mono ?_; rintro e w' ⟨E, u, rfl, hv, hb⟩; go_wp2_with fail; with_reducible refine hK _ _ hb ?_
   exact ⟨_, _, rfl, hv⟩
  ·as_aux_lemma =>
   intro vs W hS hu hdep K hK; have HU := Lib.hid hu; clear hu; refine ⟨?_⟩; simp only [Act.put, sA, sB, sC, Nat.zero_add, Nat.reduceAdd] at hK ⊢; go_simp; with_reducible refine hK _ _ (Below.refl _ _) ?_
   exact rfl
  ·as_aux_lemma =>
   intro vs W hS hu hdep K hK; have HU := Lib.hid hu; clear hu; have d0 := hdep ⟨3, .data⟩ (by simp) rfl; simp only [PhiCl] at d0; have f1 := cell_keep hS b1.out; refine ⟨?_⟩; simp only [Act.put, sA, sB, sC, Nat.zero_add, Nat.reduceAdd, d0] at hK ⊢; go_simp; with_reducible refine hK _ _ (Below.refl _ _) ?_
   exact rfl
  ·as_aux_lemma =>
   intro vs W hS hu hdep K hK; have HU := Lib.hid hu; clear hu; have d0 := hdep ⟨4, .data⟩ (by simp) rfl; simp only [PhiCl] at d0; refine ⟨?_⟩; simp only [fillR, Act.put, sA, sB, sC, Nat.zero_add, Nat.reduceAdd, d0] at hK ⊢; go_simp; refine (clone_any A2 c2 k2 X.2 _ (hl2.below hS) EE2.out hl4.out).mono ?_; rintro e w' ⟨E, u, rfl, hv, hb⟩; go_wp2_with fail; with_reducible refine hK _ _ hb ?_
   exact ⟨_, _, rfl, hv⟩
  ·as_aux_lemma =>
   intro vs W hS hu hdep K hK; have HU := Lib.hid hu; clear hu; have d0 := hdep ⟨2, .data⟩ (by simp) rfl; simp only [PhiCl] at d0; refine @exE2 _ _ _ _ d0 ?_; clear d0; intro E0 u0 d0; have e0 := d0.1; have n0 := d0.2; clear d0; have d1 := hdep ⟨5, .data⟩ (by simp) rfl; simp only [PhiCl] at d1; refine @exE2 _ _ _ _ d1 ?_; clear d1; intro E1 u1 d1; have e1 := d1.1; have n1 := d1.2; clear d1; refine ⟨?_⟩; simp only [Act.put, sA, sB, sC, Nat.zero_add, Nat.reduceAdd, e0, e1] at hK ⊢; go_simp; with_reducible refine hK _ _ (Below.refl _ _) ?_
   exact ⟨_, _, _, _, _, _, rfl, n0, n1, EE1.out, EE2.out⟩
  ·as_aux_lemma =>
   intro vs W hS hdep K hK; have d0 := hdep ⟨6, .data⟩ (by simp) rfl (by rfl); simp only [PhiCl] at d0; have hS : Below w1.heap.size w1 W := hS; obtain ⟨F1, m1, o1, F2, m2, o2, e0⟩ := d0.shape; rw [e0] at d0; have hsl := hs1.below hS; obtain ⟨r1, r2, r3, r4, r5, r6, hres⟩ := hsl; have f1 := hres.cell 0; have f2 := hres.cell 1; have f3 := hres.frozen 0; have f4 := hres.frozen 1; simp at f1 f2; have HR := Lib.hid (RX.store (B := w.heap.size) (hs1.below hS) hgr d0); have hbe4 := Below.tr hb1 hS; clear hres hS; refine ⟨?_⟩; simp only [Act.put, sA, sB, sC, Nat.zero_add, Nat.reduceAdd, e0] at hK ⊢; go_simp; with_reducible refine hK undef _ ?_
   exact ⟨HR.out.2, hbe4.trans HR.out.1.be⟩
 ·intro vs W hS _; have hS2 : SMo w.heap.size gr w w1 X [vs 7] vs W := hS; obtain ⟨⟨A, k, c, A', k', c', hblk, hP⟩, hbz⟩ := hS2; have q1 := hblk.cell 0; have q2 := hblk.cell 1; simp at q1 q2; have HP := Lib.hid hP; clear hblk hP hS hs1; go_wp2_with fail; exact bodyPost_ret (v := .agg #[.slice A k c, .slice A' k' c']) (by simp [results, Tryz.results82, go_sem, q1, q2]) rfl ⟨_, rfl, HP.out, hbz⟩
end Go.Proofs.YtnjjdiilkhdbeaaGreat
