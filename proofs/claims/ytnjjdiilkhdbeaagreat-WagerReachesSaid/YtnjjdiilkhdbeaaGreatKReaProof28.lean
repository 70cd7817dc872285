import Derived.Test.YtnjjdiilkhdbeaaGreatKReaProof27
import Derived.Test.YtnjjdiilkhdbeaaGreatS0
set_option linter.unusedVariables false
set_option linter.unusedSimpArgs false
namespace Go.Proofs.YtnjjdiilkhdbeaaGreat
open Go Go.RowKit
def SRe (B gR : Nat) (w0 wr : World) (y : LP) : List Value → (Nat → Value) → World → Prop
 | [], _, W => Below wr.heap.size wr W
 | [_], _, W => GoodX W gR y ∧ Below B w0 W
 | [_, u], _, W => u = .int .i64 0 ∧ GoodX W gR y ∧ Below B w0 W
 | _, _, _ => True
def PhiRe (gp n kS cS : Nat) (S : Option Addr) (x1 x2 q1 q2 l1 l2 : Value) (y : LP) (vs : Nat → Value) (j : Nat) (w : World) (x : Value) : Prop :=
 match j with
 | 0 => x = .agg #[x1, x2, .slice S kS cS]
 | 1 => x = .agg #[q1, q2]
 | 2 => x = .int .i64 (n : Int)
 | 3 => RtP w x oneP
 | 4 => x = .agg #[l1, l2]
 | 5 => RtP w x y
 | _ => True
theorem PhiRe.keepR {gp n kS cS : Nat} {S : Option Addr} {x1 x2 q1 q2 l1 l2 : Value} {y : LP} : ∀ vs (w w' : World), Below w.heap.size w w' → ∀ j x, PhiRe gp n kS cS S x1 x2 q1 q2 l1 l2 y vs j w x → PhiRe gp n kS cS S x1 x2 q1 q2 l1 l2 y vs j w' x := by
 intro vs w w' hb j x h; unfold PhiRe at h ⊢
 split <;> simp only at h ⊢
 all_goals first
  | exact h
  | exact h.below hb
theorem PhiRe.keepF {gp n kS cS : Nat} {S : Option Addr} {x1 x2 q1 q2 l1 l2 : Value} {y : LP} : ∀ vs (w w' : World) j x, ([] : List Nat).contains j = true → PhiRe gp n kS cS S x1 x2 q1 q2 l1 l2 y vs j w x → PhiRe gp n kS cS S x1 x2 q1 q2 l1 l2 y vs j w' x := by
 intro vs w w' j x hf
 cases hf
set_option maxRecDepth 100000 in
set_option maxHeartbeats 4000000 in
theorem rreach_F (va vl : Value) (vq : Value) (b q level : LP) (rows : List (List LP)) (n : Int) (w : World) (hp : PlanV w va b rows) (hq : RtP w vq q) (hl : RtP w vl level) :
  Calls Tryz.prog 17 #[va, vq, .int .i64 n, vl] w fun e w' => ∃ v, e = .returned (.tuple #[v, .int .i64 (reachE b rows q n level)]) ∧ RtP w' v (reachX b rows q n level) ∧ Below w.heap.size w w' := by
 obtain ⟨x1, x2, S, kS, cS, rfl, hbd, hrows⟩ := hp; obtain ⟨L1, lk1, lc1, L2, lk2, lc2, rfl⟩ := hl.shape; obtain ⟨Q1, qk1, qc1, Q2, qk2, qc2, rfl⟩ := hq.shape; obtain ⟨E, HE⟩ : ∃ E, Hid (E = reachE b rows q n level) := ⟨_, rfl⟩; obtain ⟨X, HX0⟩ : ∃ X, Hid (X = reachX b rows q n level) := ⟨_, rfl⟩; have HXE : Hid (E ≠ 0 → X = nilP) := fun h => by rw [HX0.out]; unfold reachX; rw [if_pos (by rw [← HE.out]; exact h)]
 rw [← HE.out, ← HX0.out]
 go_enter Tryz.func17, Tryz.ntmps17
 go_upto_region 1 with fail; refine wp_name ?_; intro w1 HW1; have hb1 : Below w.heap.size w w1 := by rw [HW1.out]; exact (Below.tr (Below.tr (Below.tr (bA _ _) (bA _ _)) (bA _ _)) (bA _ _))
 have hB1 : Blk w1 w.heap.size 28 #[x1, x2, .slice S kS cS] := by rw [HW1.out]; exact Blk.below (Blk.newG rfl) (Below.tr (Below.tr (bA _ _) (bA _ _)) (bA _ _)) (Blk.newG rfl).lt
 have hB2 : Blk w1 (w.heap.size + 1) 25 #[.slice Q1 qk1 qc1, .slice Q2 qk2 qc2] := by rw [HW1.out]; exact Blk.below (Blk.newG (by simp)) (Below.tr (bA _ _) (bA _ _)) (by simp)
 have hB3 : Blk w1 (w.heap.size + 1 + 1) 25 #[.slice L1 lk1 lc1, .slice L2 lk2 lc2] := by rw [HW1.out]; exact Blk.below (Blk.newG (by simp)) (bA _ _) (by simp)
 have hs1 : Sl w1 (w.heap.size + 1 + 1 + 1) := by rw [HW1.out]; exact ⟨none, 0, 0, none, 0, 0, Blk.newG (by simp)⟩
 clear HW1; obtain ⟨gp, hgp⟩ : ∃ g, Hid (g = w.heap.size) := ⟨_, rfl⟩; obtain ⟨gq, hgq⟩ : ∃ g, Hid (g = w.heap.size + 1) := ⟨_, rfl⟩; obtain ⟨gl, hgl⟩ : ∃ g, Hid (g = w.heap.size + 1 + 1) := ⟨_, rfl⟩; obtain ⟨gr, hgrr⟩ : ∃ g, Hid (g = w.heap.size + 1 + 1 + 1) := ⟨_, rfl⟩; have hgr : w.heap.size ≤ gr := by have := hgrr.out; omega
 rw [← hgrr.out] at hs1 ⊢; rw [← hgl.out] at hB3 ⊢; rw [← hgq.out] at hB2 ⊢; rw [← hgp.out] at hB1 ⊢; have hpl : PlanV w1 (.agg #[x1, x2, .slice S kS cS]) b rows := ⟨x1, x2, S, kS, cS, rfl, hbd.below hb1, hrows.below hb1⟩; have hlv := hl.below hb1; have hqv := hq.below hb1; have hbdv := hbd.below hb1; have p0 := hB1.cell 0; have p1 := hB1.cell 1; have p2 := hB1.cell 2; have l0 := hB3.cell 0; have l1 := hB3.cell 1; have q0 := hB2.cell 0; have q1 := hB2.cell 1; simp only [List.getElem?_toArray, List.getElem?_cons_zero, List.getElem?_cons_succ] at p0 p1 p2 l0 l1 q0 q1; clear hgp hgl hgrr hB1 hB3 hbd hrows hl hgq hB2 hq; go_wp2_with fail; refine (rvalid17_F _ b rows _ hpl).mono ?_; rintro e w2 ⟨rfl, hb2⟩; have hbw2 := Below.tr hb1 hb2; have hs2 := hs1.below hb2; by_cases h0 : planE b rows = 0
 ·have HPE := Lib.hid h0; rw [h0]; clear h0; have p0 := cell_keep hb2 p0; have p1 := cell_keep hb2 p1; have p2 := cell_keep hb2 p2; have l0 := cell_keep hb2 l0; have l1 := cell_keep hb2 l1; have q0 := cell_keep hb2 q0; have q1 := cell_keep hb2 q1; have hpl := hpl.below hb2; have hlv := hlv.below hb2; have hbdv := hbdv.below hb2; have hqv := hqv.below hb2; go_wp2_with fail; refine (rpart17_F _ q _ hqv).mono ?_; rintro e w3 ⟨rfl, hb3⟩; have hbw3 := Below.tr hbw2 hb3; have hs3 := hs2.below hb3
  cases hpq : partB q
  ·have HF : Hid (E = 1) := by show _ = _; rw [HE.out]; unfold reachE; rw [if_neg (by rw [HPE.out]; simp), if_pos hpq]
   have HX : Hid (X = nilP) := HXE.out (by rw [HF.out]; decide); clear hpq p0 p1 p2 l0 l1 q0 q1; obtain ⟨A', k', c', A'', k'', c'', he, ⟨a1, e1⟩, ⟨a2, e2⟩, e3, e4, z1, z2, hr, hbz⟩ := ret_ratio (w0 := w) (nil_rtP w3) hs3 hgr hbw3; simp only [nilRat, Value.agg.injEq, Array.mk.injEq, List.cons.injEq, and_true, Value.slice.injEq] at he; obtain ⟨⟨rfl, rfl, rfl⟩, rfl, rfl, rfl⟩ := he; go_wp2_with fail; exact bodyPost_ret (v := .tuple #[.agg #[.slice none 0 0, .slice none 0 0], .int .i64 _]) (by simp [results, Tryz.results17, go_sem, z1, z2]; rfl) rfl ⟨_, by rw [HF.out], by rw [HX.out]; exact hr, hbz⟩
  ·have HPQ := Lib.hid hpq; clear hpq; have p0 := cell_keep hb3 p0; have p1 := cell_keep hb3 p1; have p2 := cell_keep hb3 p2; have l0 := cell_keep hb3 l0; have l1 := cell_keep hb3 l1; have q0 := cell_keep hb3 q0; have q1 := cell_keep hb3 q1; have hpl := hpl.below hb3; have hlv := hlv.below hb3; have hbdv := hbdv.below hb3; have hqv := hqv.below hb3; go_wp2_with fail; refine (rbounded_F n _ level _ hlv).mono ?_; rintro e w4 ⟨rfl, hb4⟩; have hbw4 := Below.tr hbw3 hb4; have hs4 := hs3.below hb4; have HEB : Hid (E = boundE n level) := by show _ = _; rw [HE.out]; unfold reachE; rw [if_neg (by rw [HPE.out]; simp), if_neg (by rw [HPQ.out]; simp)]
   by_cases hbn : boundE n level = 0
   ·have HF : Hid (E = 0) := by show _ = _; rw [HEB.out, hbn]
    obtain ⟨hn0, hn10, hvl0⟩ := boundE_zero hbn; obtain ⟨nn, rfl⟩ := Int.eq_ofNat_of_zero_le hn0; have hnn : nn ≤ 10 := by omega
    have HX : Hid (X = reachV (mixV q) b rows level nn 0 0 oneP) := by
     show _ = _
     rw [HX0.out]; unfold reachX; rw [if_neg (by rw [← HE.out, HF.out]; decide)]; rfl
    rw [hbn]; have p0 := cell_keep hb4 p0; have p1 := cell_keep hb4 p1; have p2 := cell_keep hb4 p2; have l0 := cell_keep hb4 l0; have l1 := cell_keep hb4 l1; have q0 := cell_keep hb4 q0; have q1 := cell_keep hb4 q1; have hpl := hpl.below hb4; have hlv := hlv.below hb4; have hbdv := hbdv.below hb4; have hqv := hqv.below hb4; clear hbn HEB hn0 hn10; have HVL := Lib.hid hvl0; clear hvl0; go_upto_region 9 with fail; refine region_chain [6, 7] [.early, .early, .early, .early, .early, .early, .chain 0, .chain 1] [] [] (PhiRe gp nn kS cS S x1 x2 (.slice Q1 qk1 qc1) (.slice Q2 qk2 qc2) (.slice L1 lk1 lc1) (.slice L2 lk2 lc2) (reachV (chV false q) b rows level nn 0 0 oneP)) (fun w w' => Below w.heap.size w w') (SRe w.heap.size gr w w4 (reachV (chV false q) b rows level nn 0 0 oneP)) (by kernel_rfl) (by kernel_rfl) (by kernel_rfl) (by kernel_rfl) (sK (fun _ _ _ _ _ h => h) (sK (fun _ _ _ _ _ h => h) (sK (fun _ _ _ _ _ h => h) (sK (fun _ _ _ _ _ h => h) (sK (fun _ _ _ _ _ h => h) (sK (fun _ _ _ _ _ h => h) (sK (fun _ _ _ _ _ h => h) (sK (fun _ _ _ _ _ h => h) (sZ))))))))) PhiRe.keepR PhiRe.keepF (fun _ _ _ _ hR hS => Below.tr hS hR) (by rintro (_ | ⟨_, _ | ⟨_, _ | _⟩⟩) vs vs' w _ h <;> exact h) (fun _ => bD _) (fun vs => by simp only [fillR, Act.put, sA, sB, sC, Nat.zero_add, Nat.reduceAdd]; rfl) ?_ ?_
    ·refine sK ?_ (sK ?_ (sK ?_ (sK ?_ (sK ?_ (sK ?_ (sK ?_ (sK ?_ (sZ))))))))
     ·as_aux_lemma =>
      intro vs W hS hu hdep K hK; have HU := Lib.hid hu; clear hu; have f0 := cell_keep hS p0; have f1 := cell_keep hS p1; have f2 := cell_keep hS p2; refine ⟨?_⟩; simp only [Act.put, sA, sB, sC, Nat.zero_add, Nat.reduceAdd] at hK ⊢; go_simp; with_reducible refine hK _ _ (Below.refl _ _) ?_
      exact rfl
     ·as_aux_lemma =>
      intro vs W hS hu hdep K hK; have HU := Lib.hid hu; clear hu; have f0 := cell_keep hS q0; have f1 := cell_keep hS q1; refine ⟨?_⟩; simp only [Act.put, sA, sB, sC, Nat.zero_add, Nat.reduceAdd] at hK ⊢; go_simp; with_reducible refine hK _ _ (Below.refl _ _) ?_
      exact rfl
     ·as_aux_lemma =>
      intro vs W hS hu hdep K hK; have HU := Lib.hid hu; clear hu; refine ⟨?_⟩; simp only [Act.put, sA, sB, sC, Nat.zero_add, Nat.reduceAdd] at hK ⊢; go_simp; with_reducible refine hK _ _ (Below.refl _ _) ?_
      exact rfl
     ·as_aux_lemma =>
      intro vs W hS hu hdep K hK; have HU := Lib.hid hu; clear hu; refine ⟨?_⟩; simp only [fillR, Act.put, sA, sB, sC, Nat.zero_add, Nat.reduceAdd] at hK ⊢; go_simp; refine (rone17_F _).mono ?_; rintro e w' ⟨v, rfl, hv, hb⟩; go_wp2_with fail; with_reducible refine hK _ _ hb ?_
      exact hv
     ·as_aux_lemma =>
      intro vs W hS hu hdep K hK; have HU := Lib.hid hu; clear hu; have f0 := cell_keep hS l0; have f1 := cell_keep hS l1; refine ⟨?_⟩; simp only [Act.put, sA, sB, sC, Nat.zero_add, Nat.reduceAdd] at hK ⊢; go_simp; with_reducible refine hK _ _ (Below.refl _ _) ?_
      exact rfl
     ·as_aux_lemma =>
      intro vs W hS hu hdep K hK; have HU := Lib.hid hu; clear hu; have d0 := hdep ⟨0, .data⟩ (by simp) rfl; simp only [PhiRe] at d0; have d1 := hdep ⟨1, .data⟩ (by simp) rfl; simp only [PhiRe] at d1; have d2 := hdep ⟨2, .data⟩ (by simp) rfl; simp only [PhiRe] at d2; have d3 := hdep ⟨3, .data⟩ (by simp) rfl; simp only [PhiRe] at d3; have r3 := d3; clear d3; have d4 := hdep ⟨4, .data⟩ (by simp) rfl; simp only [PhiRe] at d4; refine ⟨?_⟩; simp only [fillR, Act.put, sA, sB, sC, Nat.zero_add, Nat.reduceAdd, d0, d1, d2, d4] at hK ⊢; go_simp; refine (rreach_cl x1 x2 S kS cS nn false Q1 qk1 qc1 Q2 qk2 qc2 L1 lk1 lc1 L2 lk2 lc2 b q level rows hnn HPE.out HVL.out nn 0 0 _ oneP _ (by omega) (by omega) (hpl.below hS) (hqv.below hS) (hlv.below hS) r3 valid_one).mono ?_; rintro e w' ⟨v, rfl, hv, hb⟩; go_wp2_with fail; with_reducible refine hK _ _ hb ?_
      exact hv
     ·as_aux_lemma =>
      intro vs W hS hdep K hK; have d0 := hdep ⟨5, .data⟩ (by simp) rfl (by rfl); simp only [PhiRe] at d0; have hS : Below w4.heap.size w4 W := hS; obtain ⟨E1, k1, c1, E2, k2, c2, e0⟩ := d0.shape; rw [e0] at d0; have hsl := hs4.below hS; obtain ⟨r1, r2, r3, r4, r5, r6, hres⟩ := hsl; have f1 := hres.cell 0; have f2 := hres.cell 1; have f3 := hres.frozen 0; have f4 := hres.frozen 1; simp at f1 f2; have HR := Lib.hid (RX.store (B := w.heap.size) (hs4.below hS) hgr d0); have hbe4 := Below.tr hbw4 hS; clear hres hS; refine ⟨?_⟩; simp only [Act.put, sA, sB, sC, Nat.zero_add, Nat.reduceAdd, e0] at hK ⊢; go_simp; with_reducible refine hK undef _ ?_
      exact ⟨HR.out.2, hbe4.trans HR.out.1.be⟩
     ·as_aux_lemma =>
      intro vs W hS hdep K hK; have hS1 : SRe w.heap.size gr w w4 (reachV (chV false q) b rows level nn 0 0 oneP) [vs 6] vs W := hS; obtain ⟨hgx, hbz⟩ := hS1; refine ⟨?_⟩; simp only [Act.put, sA, sB, sC, Nat.zero_add, Nat.reduceAdd] at hK ⊢; go_simp; with_reducible refine hK _ _ ?_
      exact ⟨rfl, hgx, hbz⟩
    ·intro vs W hS _; have hS2 : SRe w.heap.size gr w w4 (reachV (chV false q) b rows level nn 0 0 oneP) [vs 6, vs 7] vs W := hS; obtain ⟨e9, ⟨A, k, c, A', k', c', hblk, hP⟩, hbz⟩ := hS2; have r1 := hblk.cell 0; have r2 := hblk.cell 1; simp at r1 r2; have HP := Lib.hid hP; simp only [Act.put, sA, sB, sC, Nat.zero_add, Nat.reduceAdd, e9]; clear hblk hP hS; go_wp2_with fail; exact bodyPost_ret (v := .tuple #[.agg #[.slice A k c, .slice A' k' c'], .int .i64 0]) (by simp [results, Tryz.results17, go_sem, r1, r2]) rfl ⟨_, by rw [HF.out], by rw [HX.out]; exact HP.out, hbz⟩
   ·have t1 : (boundE n level != 0) = true := by simpa using hbn
    have HX : Hid (X = nilP) := HXE.out (by rw [HEB.out]; exact hbn); have HF := HEB; clear hbn p0 p1 p2 l0 l1 q0 q1; obtain ⟨A', k', c', A'', k'', c'', he, ⟨a1, e1⟩, ⟨a2, e2⟩, e3, e4, z1, z2, hr, hbz⟩ := ret_ratio (w0 := w) (nil_rtP w4) hs4 hgr hbw4; simp only [nilRat, Value.agg.injEq, Array.mk.injEq, List.cons.injEq, and_true, Value.slice.injEq] at he; obtain ⟨⟨rfl, rfl, rfl⟩, rfl, rfl, rfl⟩ := he; go_wp2_with fail; exact bodyPost_ret (v := .tuple #[.agg #[.slice none 0 0, .slice none 0 0], .int .i64 _]) (by simp [results, Tryz.results17, go_sem, z1, z2]; rfl) rfl ⟨_, by rw [HF.out], by rw [HX.out]; exact hr, hbz⟩
 ·have t1 : (planE b rows != 0) = true := by simpa using h0
  have HF : Hid (E = planE b rows) := by show _ = _; rw [HE.out]; unfold reachE; rw [if_pos h0]
  have HX : Hid (X = nilP) := HXE.out (by rw [HF.out]; exact h0); clear h0 p0 p1 p2 l0 l1 q0 q1; obtain ⟨A', k', c', A'', k'', c'', he, ⟨a1, e1⟩, ⟨a2, e2⟩, e3, e4, z1, z2, hr, hbz⟩ := ret_ratio (w0 := w) (nil_rtP w2) hs2 hgr hbw2; simp only [nilRat, Value.agg.injEq, Array.mk.injEq, List.cons.injEq, and_true, Value.slice.injEq] at he; obtain ⟨⟨rfl, rfl, rfl⟩, rfl, rfl, rfl⟩ := he; go_wp2_with fail; exact bodyPost_ret (v := .tuple #[.agg #[.slice none 0 0, .slice none 0 0], .int .i64 _]) (by simp [results, Tryz.results17, go_sem, z1, z2]; rfl) rfl ⟨_, by rw [HF.out], by rw [HX.out]; exact hr, hbz⟩
def PhiRw (gp n kS cS : Nat) (S : Option Addr) (x1 x2 q1 q2 l1 l2 : Value) (y : LP) (vs : Nat → Value) (j : Nat) (w : World) (x : Value) : Prop :=
 match j with
 | 0 => x = .agg #[x1, x2, .slice S kS cS]
 | 1 => x = .pointer (some ⟨gp, 0, none⟩)
 | 2 => x = .agg #[q1, q2]
 | 3 => x = .int .i64 (n : Int)
 | 4 => RtP w x oneP
 | 5 => x = .agg #[l1, l2]
 | 6 => RtP w x y
 | _ => True
theorem PhiRw.keepR {gp n kS cS : Nat} {S : Option Addr} {x1 x2 q1 q2 l1 l2 : Value} {y : LP} : ∀ vs (w w' : World), Below w.heap.size w w' → ∀ j x, PhiRw gp n kS cS S x1 x2 q1 q2 l1 l2 y vs j w x → PhiRw gp n kS cS S x1 x2 q1 q2 l1 l2 y vs j w' x := by
 intro vs w w' hb j x h; unfold PhiRw at h ⊢
 split <;> simp only at h ⊢
 all_goals first
  | exact h
  | exact h.below hb
theorem PhiRw.keepF {gp n kS cS : Nat} {S : Option Addr} {x1 x2 q1 q2 l1 l2 : Value} {y : LP} : ∀ vs (w w' : World) j x, ([] : List Nat).contains j = true → PhiRw gp n kS cS S x1 x2 q1 q2 l1 l2 y vs j w x → PhiRw gp n kS cS S x1 x2 q1 q2 l1 l2 y vs j w' x := by
 intro vs w w' j x hf
 cases hf
set_option maxRecDepth 100000 in
set_option maxHeartbeats 4000000 in
theorem rworst_F (va vl : Value) (b level : LP) (rows : List (List LP)) (n : Int) (w : World) (hp : PlanV w va b rows) (hl : RtP w vl level) :
  Calls Tryz.prog 19 #[va, .int .i64 n, vl] w fun e w' => ∃ v, e = .returned (.tuple #[v, .int .i64 (worstE b rows n level)]) ∧ RtP w' v (worstX b rows n level) ∧ Below w.heap.size w w' := by
 obtain ⟨x1, x2, S, kS, cS, rfl, hbd, hrows⟩ := hp; obtain ⟨L1, lk1, lc1, L2, lk2, lc2, rfl⟩ := hl.shape; obtain ⟨X1, xk1, xc1, X2, xk2, xc2, hsh⟩ := hbd.shape; simp only [Value.agg.injEq, Array.mk.injEq, List.cons.injEq, and_true] at hsh; obtain ⟨rfl, rfl⟩ := hsh; obtain ⟨E, HE⟩ : ∃ E, Hid (E = worstE b rows n level) := ⟨_, rfl⟩; obtain ⟨X, HX0⟩ : ∃ X, Hid (X = worstX b rows n level) := ⟨_, rfl⟩; have HXE : Hid (E ≠ 0 → X = nilP) := fun h => by rw [HX0.out]; unfold worstX; rw [if_pos (by rw [← HE.out]; exact h)]
 rw [← HE.out, ← HX0.out]
 go_enter Tryz.func19, Tryz.ntmps19
 go_upto_region 1 with fail; refine wp_name ?_; intro w1 HW1; have hb1 : Below w.heap.size w w1 := by rw [HW1.out]; exact (Below.tr (Below.tr (bA _ _) (bA _ _)) (bA _ _))
 have hB1 : Blk w1 w.heap.size 28 #[.slice X1 xk1 xc1, .slice X2 xk2 xc2, .slice S kS cS] := by rw [HW1.out]; exact Blk.below (Blk.newG rfl) (Below.tr (bA _ _) (bA _ _)) (Blk.newG rfl).lt
 have hB3 : Blk w1 (w.heap.size + 1) 25 #[.slice L1 lk1 lc1, .slice L2 lk2 lc2] := by rw [HW1.out]; exact Blk.below (Blk.newG (by simp)) (bA _ _) (by simp)
 have hs1 : Sl w1 (w.heap.size + 1 + 1) := by rw [HW1.out]; exact ⟨none, 0, 0, none, 0, 0, Blk.newG (by simp)⟩
 clear HW1; obtain ⟨gp, hgp⟩ : ∃ g, Hid (g = w.heap.size) := ⟨_, rfl⟩; obtain ⟨gl, hgl⟩ : ∃ g, Hid (g = w.heap.size + 1) := ⟨_, rfl⟩; obtain ⟨gr, hgrr⟩ : ∃ g, Hid (g = w.heap.size + 1 + 1) := ⟨_, rfl⟩; have hgr : w.heap.size ≤ gr := by have := hgrr.out; omega
 rw [← hgrr.out] at hs1 ⊢; rw [← hgl.out] at hB3 ⊢; rw [← hgp.out] at hB1 ⊢; have hpl : PlanV w1 (.agg #[.slice X1 xk1 xc1, .slice X2 xk2 xc2, .slice S kS cS]) b rows := ⟨(.slice X1 xk1 xc1), (.slice X2 xk2 xc2), S, kS, cS, rfl, hbd.below hb1, hrows.below hb1⟩; have hlv := hl.below hb1; have hbdv := hbd.below hb1; have p0 := hB1.cell 0; have p1 := hB1.cell 1; have p2 := hB1.cell 2; have l0 := hB3.cell 0; have l1 := hB3.cell 1; simp only [List.getElem?_toArray, List.getElem?_cons_zero, List.getElem?_cons_succ] at p0 p1 p2 l0 l1; clear hgp hgl hgrr hB1 hB3 hbd hrows hl; go_wp2_with fail; refine (rvalid17_F _ b rows _ hpl).mono ?_; rintro e w2 ⟨rfl, hb2⟩; have hbw2 := Below.tr hb1 hb2; have hs2 := hs1.below hb2; by_cases h0 : planE b rows = 0
 ·have HPE := Lib.hid h0; rw [h0]; clear h0; have p0 := cell_keep hb2 p0; have p1 := cell_keep hb2 p1; have p2 := cell_keep hb2 p2; have l0 := cell_keep hb2 l0; have l1 := cell_keep hb2 l1; have hpl := hpl.below hb2; have hlv := hlv.below hb2; have hbdv := hbdv.below hb2; go_wp2_with fail; refine (rbounded_F n _ level _ hlv).mono ?_; rintro e w3 ⟨rfl, hb3⟩; have hbw3 := Below.tr hbw2 hb3; have hs3 := hs2.below hb3; have HEB : Hid (E = boundE n level) := by show _ = _; rw [HE.out]; unfold worstE; rw [if_neg (by rw [HPE.out]; simp)]
  by_cases hbn : boundE n level = 0
  ·have HF : Hid (E = 0) := by show _ = _; rw [HEB.out, hbn]
   obtain ⟨hn0, hn10, hvl0⟩ := boundE_zero hbn; obtain ⟨nn, rfl⟩ := Int.eq_ofNat_of_zero_le hn0; have hnn : nn ≤ 10 := by omega
   have HX : Hid (X = reachV (worstV b) b rows level nn 0 0 oneP) := by
    show _ = _
    rw [HX0.out]; unfold worstX; rw [if_neg (by rw [← HE.out, HF.out]; decide)]; rfl
   rw [hbn]; have p0 := cell_keep hb3 p0; have p1 := cell_keep hb3 p1; have p2 := cell_keep hb3 p2; have l0 := cell_keep hb3 l0; have l1 := cell_keep hb3 l1; have hpl := hpl.below hb3; have hlv := hlv.below hb3; have hbdv := hbdv.below hb3; clear hbn HEB hn0 hn10; have HVL := Lib.hid hvl0; clear hvl0; go_upto_region 7 with fail; refine region_chain [7, 8] [.early, .early, .early, .early, .early, .early, .early, .chain 0, .chain 1] [] [] (PhiRw gp nn kS cS S (.slice X1 xk1 xc1) (.slice X2 xk2 xc2) (.slice X1 xk1 xc1) (.slice X2 xk2 xc2) (.slice L1 lk1 lc1) (.slice L2 lk2 lc2) (reachV (chV true b) b rows level nn 0 0 oneP)) (fun w w' => Below w.heap.size w w') (SRe w.heap.size gr w w3 (reachV (chV true b) b rows level nn 0 0 oneP)) (by kernel_rfl) (by kernel_rfl) (by kernel_rfl) (by kernel_rfl) (sK (fun _ _ _ _ _ h => h) (sK (fun _ _ _ _ _ h => h) (sK (fun _ _ _ _ _ h => h) (sK (fun _ _ _ _ _ h => h) (sK (fun _ _ _ _ _ h => h) (sK (fun _ _ _ _ _ h => h) (sK (fun _ _ _ _ _ h => h) (sK (fun _ _ _ _ _ h => h) (sK (fun _ _ _ _ _ h => h) (sZ)))))))))) PhiRw.keepR PhiRw.keepF (fun _ _ _ _ hR hS => Below.tr hS hR) (by rintro (_ | ⟨_, _ | ⟨_, _ | _⟩⟩) vs vs' w _ h <;> exact h) (fun _ => bD _) (fun vs => by simp only [fillR, Act.put, sA, sB, sC, Nat.zero_add, Nat.reduceAdd]; rfl) ?_ ?_
   ·refine sK ?_ (sK ?_ (sK ?_ (sK ?_ (sK ?_ (sK ?_ (sK ?_ (sK ?_ (sK ?_ (sZ)))))))))
    ·as_aux_lemma =>
     intro vs W hS hu hdep K hK; have HU := Lib.hid hu; clear hu; have f0 := cell_keep hS p0; have f1 := cell_keep hS p1; have f2 := cell_keep hS p2; refine ⟨?_⟩; simp only [Act.put, sA, sB, sC, Nat.zero_add, Nat.reduceAdd] at hK ⊢; go_simp; with_reducible refine hK _ _ (Below.refl _ _) ?_
     exact rfl
    ·as_aux_lemma =>
     intro vs W hS hu hdep K hK; have HU := Lib.hid hu; clear hu; refine ⟨?_⟩; simp only [Act.put, sA, sB, sC, Nat.zero_add, Nat.reduceAdd] at hK ⊢; go_simp; with_reducible refine hK _ _ (Below.refl _ _) ?_
     exact rfl
    ·as_aux_lemma =>
     intro vs W hS hu hdep K hK; have HU := Lib.hid hu; clear hu; have d0 := hdep ⟨1, .data⟩ (by simp) rfl; simp only [PhiRw] at d0; have f0 := cell_keep hS p0; have f1 := cell_keep hS p1; refine ⟨?_⟩; simp only [Act.put, sA, sB, sC, Nat.zero_add, Nat.reduceAdd, d0] at hK ⊢; go_simp; with_reducible refine hK _ _ (Below.refl _ _) ?_
     exact rfl
    ·as_aux_lemma =>
     intro vs W hS hu hdep K hK; have HU := Lib.hid hu; clear hu; refine ⟨?_⟩; simp only [Act.put, sA, sB, sC, Nat.zero_add, Nat.reduceAdd] at hK ⊢; go_simp; with_reducible refine hK _ _ (Below.refl _ _) ?_
     exact rfl
    ·as_aux_lemma =>
     intro vs W hS hu hdep K hK; have HU := Lib.hid hu; clear hu; refine ⟨?_⟩; simp only [fillR, Act.put, sA, sB, sC, Nat.zero_add, Nat.reduceAdd] at hK ⊢; go_simp; refine (rone17_F _).mono ?_; rintro e w' ⟨v, rfl, hv, hb⟩; go_wp2_with fail; with_reducible refine hK _ _ hb ?_
     exact hv
    ·as_aux_lemma =>
     intro vs W hS hu hdep K hK; have HU := Lib.hid hu; clear hu; have f0 := cell_keep hS l0; have f1 := cell_keep hS l1; refine ⟨?_⟩; simp only [Act.put, sA, sB, sC, Nat.zero_add, Nat.reduceAdd] at hK ⊢; go_simp; with_reducible refine hK _ _ (Below.refl _ _) ?_
     exact rfl
    ·as_aux_lemma =>
     intro vs W hS hu hdep K hK; have HU := Lib.hid hu; clear hu; have d0 := hdep ⟨0, .data⟩ (by simp) rfl; simp only [PhiRw] at d0; have d1 := hdep ⟨2, .data⟩ (by simp) rfl; simp only [PhiRw] at d1; have d2 := hdep ⟨3, .data⟩ (by simp) rfl; simp only [PhiRw] at d2; have d3 := hdep ⟨4, .data⟩ (by simp) rfl; simp only [PhiRw] at d3; have r3 := d3; clear d3; have d4 := hdep ⟨5, .data⟩ (by simp) rfl; simp only [PhiRw] at d4; refine ⟨?_⟩; simp only [fillR, Act.put, sA, sB, sC, Nat.zero_add, Nat.reduceAdd, d0, d1, d2, d4] at hK ⊢; go_simp; refine (rreach_cl (.slice X1 xk1 xc1) (.slice X2 xk2 xc2) S kS cS nn true X1 xk1 xc1 X2 xk2 xc2 L1 lk1 lc1 L2 lk2 lc2 b b level rows hnn HPE.out HVL.out nn 0 0 _ oneP _ (by omega) (by omega) (hpl.below hS) (hbdv.below hS) (hlv.below hS) r3 valid_one).mono ?_; rintro e w' ⟨v, rfl, hv, hb⟩; go_wp2_with fail; with_reducible refine hK _ _ hb ?_
     exact hv
    ·as_aux_lemma =>
     intro vs W hS hdep K hK; have d0 := hdep ⟨6, .data⟩ (by simp) rfl (by rfl); simp only [PhiRw] at d0; have hS : Below w3.heap.size w3 W := hS; obtain ⟨E1, k1, c1, E2, k2, c2, e0⟩ := d0.shape; rw [e0] at d0; have hsl := hs3.below hS; obtain ⟨r1, r2, r3, r4, r5, r6, hres⟩ := hsl; have f1 := hres.cell 0; have f2 := hres.cell 1; have f3 := hres.frozen 0; have f4 := hres.frozen 1; simp at f1 f2; have HR := Lib.hid (RX.store (B := w.heap.size) (hs3.below hS) hgr d0); have hbe4 := Below.tr hbw3 hS; clear hres hS; refine ⟨?_⟩; simp only [Act.put, sA, sB, sC, Nat.zero_add, Nat.reduceAdd, e0] at hK ⊢; go_simp; with_reducible refine hK undef _ ?_
     exact ⟨HR.out.2, hbe4.trans HR.out.1.be⟩
    ·as_aux_lemma =>
     intro vs W hS hdep K hK; have hS1 : SRe w.heap.size gr w w3 (reachV (chV true b) b rows level nn 0 0 oneP) [vs 7] vs W := hS; obtain ⟨hgx, hbz⟩ := hS1; refine ⟨?_⟩; simp only [Act.put, sA, sB, sC, Nat.zero_add, Nat.reduceAdd] at hK ⊢; go_simp; with_reducible refine hK _ _ ?_
     exact ⟨rfl, hgx, hbz⟩
   ·intro vs W hS _; have hS2 : SRe w.heap.size gr w w3 (reachV (chV true b) b rows level nn 0 0 oneP) [vs 7, vs 8] vs W := hS; obtain ⟨e9, ⟨A, k, c, A', k', c', hblk, hP⟩, hbz⟩ := hS2; have r1 := hblk.cell 0; have r2 := hblk.cell 1; simp at r1 r2; have HP := Lib.hid hP; simp only [Act.put, sA, sB, sC, Nat.zero_add, Nat.reduceAdd, e9]; clear hblk hP hS; go_wp2_with fail; exact bodyPost_ret (v := .tuple #[.agg #[.slice A k c, .slice A' k' c'], .int .i64 0]) (by simp [results, Tryz.results19, go_sem, r1, r2]) rfl ⟨_, by rw [HF.out], by rw [HX.out]; exact HP.out, hbz⟩
  ·have t1 : (boundE n level != 0) = true := by simpa using hbn
   have HX : Hid (X = nilP) := HXE.out (by rw [HEB.out]; exact hbn); have HF := HEB; clear hbn p0 p1 p2 l0 l1; obtain ⟨A', k', c', A'', k'', c'', he, ⟨a1, e1⟩, ⟨a2, e2⟩, e3, e4, z1, z2, hr, hbz⟩ := ret_ratio (w0 := w) (nil_rtP w3) hs3 hgr hbw3; simp only [nilRat, Value.agg.injEq, Array.mk.injEq, List.cons.injEq, and_true, Value.slice.injEq] at he; obtain ⟨⟨rfl, rfl, rfl⟩, rfl, rfl, rfl⟩ := he; go_wp2_with fail; exact bodyPost_ret (v := .tuple #[.agg #[.slice none 0 0, .slice none 0 0], .int .i64 _]) (by simp [results, Tryz.results19, go_sem, z1, z2]; rfl) rfl ⟨_, by rw [HF.out], by rw [HX.out]; exact hr, hbz⟩
 ·have t1 : (planE b rows != 0) = true := by simpa using h0
  have HF : Hid (E = planE b rows) := by show _ = _; rw [HE.out]; unfold worstE; rw [if_pos h0]
  have HX : Hid (X = nilP) := HXE.out (by rw [HF.out]; exact h0); clear h0 p0 p1 p2 l0 l1; obtain ⟨A', k', c', A'', k'', c'', he, ⟨a1, e1⟩, ⟨a2, e2⟩, e3, e4, z1, z2, hr, hbz⟩ := ret_ratio (w0 := w) (nil_rtP w2) hs2 hgr hbw2; simp only [nilRat, Value.agg.injEq, Array.mk.injEq, List.cons.injEq, and_true, Value.slice.injEq] at he; obtain ⟨⟨rfl, rfl, rfl⟩, rfl, rfl, rfl⟩ := he; go_wp2_with fail; exact bodyPost_ret (v := .tuple #[.agg #[.slice none 0 0, .slice none 0 0], .int .i64 _]) (by simp [results, Tryz.results19, go_sem, z1, z2]; rfl) rfl ⟨_, by rw [HF.out], by rw [HX.out]; exact hr, hbz⟩
end Go.Proofs.YtnjjdiilkhdbeaaGreat
