import Derived.Test.YtnjjdiilkhdbeaaGreatKExsProof31
import Derived.Test.YtnjjdiilkhdbeaaGreatKExsProof32
import Derived.Test.YtnjjdiilkhdbeaaGreatS0
set_option linter.unusedVariables false
set_option linter.unusedSimpArgs false
namespace Go.Proofs.YtnjjdiilkhdbeaaGreat
open Go Go.RowKit
theorem rsame_F (va vb : Value) (x : LP) (w : World) (ha : RtP w va x) (hb : RtP w vb x) : Calls Tryz.prog 14 #[va, vb] w fun e w' => e = .returned (.bool true) ∧ Below w.heap.size w w' := by
 refine (same_any va vb x.1 x.2 x.1 x.2 w ha hb).mono ?_; rintro e w' ⟨b, rfl, HB, h⟩; rw [HB.out, same_self]; exact ⟨rfl, h⟩
/-- both expectations are one -/
theorem exp_same {b q : LP} {rows : List (List LP)} {n : Int} (hb : okP b) (hr : ∀ r ∈ rows, ∀ s ∈ r, okP s) (hq : okP q) : expX b rows q n = rexpX b rows q n := by
 unfold expX rexpX; by_cases h : expE b rows q n = 0
 ·rw [if_neg (by rw [h]; simp), if_neg (by rw [h]; simp)]; obtain ⟨h1, h2, h3, h4⟩ := expE_zero h; obtain ⟨pb, qb, hP⟩ := planN_of h1 hb hr; obtain ⟨pd, qd, hf, hle, hq2⟩ := partB_num hq h2; obtain ⟨N, D, k1, _, _, _⟩ := exp_num hP hf hle hq2 (show n.toNat ≤ 16 by omega); rw [k1]
 ·rw [if_pos h, if_pos h]
theorem part_X (n d : Int) (w : World) (h1 : -9223372036854775808 ≤ n ∧ n ≤ 9223372036854775807) (h2 : -9223372036854775808 ≤ d ∧ d ≤ 9223372036854775807) : Calls Tryz.prog 8 #[.int .i64 n, .int .i64 d] w fun e w' => ∃ v, e = .returned v ∧ (∃ x, RtP w' v x) ∧ Below w.heap.size w w' := by
 refine (rpart_n n d w h1.1 h1.2 h2.1 h2.2).mono ?_; rintro e w' ⟨v, p, q, rfl, h, _, _, _, hb⟩; exact ⟨v, rfl, ⟨_, h.rtP⟩, hb⟩
theorem of_X (n d : Nat) (w : World) (hn : n ≤ 1000) (hd : 0 < d) (hd2 : d ≤ 1000) : Calls Tryz.prog 9 #[.int .i64 n, .int .i64 d] w fun e w' => ∃ v, e = .returned v ∧ (∃ x, RtP w' v x) ∧ Below w.heap.size w w' := by
 refine (of_R n d w (by omega) hd (by omega)).mono ?_; rintro e w' ⟨v, rfl, h, hb⟩; exact ⟨v, rfl, ⟨_, h⟩, hb⟩
def PhiX2 (p0 : Value) (how by_ : Int) (j : Nat) (w : World) (x : Value) : Prop :=
 match j with
 | 0 => x = p0
 | 1 => x = p0
 | 2 => x = .int .i64 how
 | 3 => x = .int .i64 by_
 | 4 => ∃ b' rows', PlanV w x b' rows'
 | 5 => ∃ g, x = .slice (some ⟨g, 0, none⟩) 2 2 ∧ PL2 w g
 | 6 => ∃ g, x = .slice (some ⟨g, 0, none⟩) 2 2 ∧ PL2 w g
 | _ => True
theorem PhiX2.keep {p0 : Value} {how by_ : Int} : ∀ (w w' : World), Below w.heap.size w w' → ∀ j x, PhiX2 p0 how by_ j w x → PhiX2 p0 how by_ j w' x := by
 intro w w' hb j x h; unfold PhiX2 at h ⊢
 split <;> simp only at h ⊢
 all_goals first
  | exact h
  | exact h.below hb
  | (obtain ⟨b, r, h⟩ := h; exact ⟨b, r, h.below hb⟩)
  | (obtain ⟨g, e, h⟩ := h; exact ⟨g, e, h.below hb⟩)
def PhiX3 (n1 n2 : Int) (r1 r2 : Value) (j : Nat) (w : World) (x : Value) : Prop :=
 match j with
 | 0 => x = .int .i64 n1
 | 1 => x = .int .i64 n2
 | 2 => ∃ X, RtP w x X
 | 3 => x = .agg #[r1, r2]
 | 4 => x = .int .i64 n1
 | 5 => ∃ y : Nat, x = .int .i64 (y : Nat) ∧ y < 258
 | 6 => x = .int .i64 n2
 | 7 => ∃ y : Nat, x = .int .i64 (y : Nat) ∧ y < 2
 | 8 => ∃ y : Nat, x = .int .i64 (y : Nat) ∧ 0 < y ∧ y ≤ 1000
 | 9 => ∃ X, RtP w x X
 | 10 => ∃ g qs, x = .slice (some ⟨g, 0, none⟩) 3 3 ∧ RatRow w (some ⟨g, 0, none⟩) 3 qs
 | 11 => ∃ g qs, x = .slice (some ⟨g, 0, none⟩) 3 3 ∧ RatRow w (some ⟨g, 0, none⟩) 3 qs
 | _ => True
theorem PhiX3.keep {n1 n2 : Int} {r1 r2 : Value} : ∀ (w w' : World), Below w.heap.size w w' → ∀ j x, PhiX3 n1 n2 r1 r2 j w x → PhiX3 n1 n2 r1 r2 j w' x := by
 intro w w' hb j x h; unfold PhiX3 at h ⊢
 split <;> simp only at h ⊢
 all_goals first
  | exact h
  | exact h.below hb
  | (obtain ⟨X, h⟩ := h; exact ⟨X, h.below hb⟩)
  | (obtain ⟨g, qs, e, h⟩ := h; exact ⟨g, qs, e, h.below hb⟩)
def PhiXa (gL gM gI i j : Nat) (z1 z2 z3 y1 y2 : Value) (z E : Int) (X : LP) (B : Nat) (jj : Nat) (w : World) (x : Value) : Prop :=
 match jj with
 | 0 => x = .slice (some ⟨gL, 0, none⟩) 2 2
 | 1 => x = .int .i64 (i : Nat)
 | 2 => x = .pointer (some ⟨gL, i * 3, none⟩)
 | 3 => x = .agg #[z1, z2, z3]
 | 4 => x = .agg #[z1, z2, z3]
 | 5 => x = .slice (some ⟨gM, 0, none⟩) 3 3
 | 6 => x = .int .i64 (j : Nat)
 | 7 => x = .pointer (some ⟨gM, j * 2, none⟩)
 | 8 => x = .agg #[y1, y2]
 | 9 => x = .slice (some ⟨gI, 0, none⟩) 3 3
 | 10 => x = .int .i64 (j : Nat)
 | 11 => x = .pointer (some ⟨gI, j, none⟩)
 | 12 => x = .int .i64 z
 | 13 => ∃ v, x = .tuple #[v, .int .i64 E] ∧ RtP w v X
 | 14 => ∃ v, x = .tuple #[v, .int .i64 E] ∧ RtP w v X
 | 15 => ∃ A k c A' k' c', x = .agg #[.slice A k c, .slice A' k' c'] ∧ RtP w (.agg #[.slice A k c, .slice A' k' c']) X
 | 16 => x = .int .i64 E
 | 17 => ∃ g, x = .pointer (some ⟨g, 0, none⟩) ∧ B ≤ g ∧ Sl w g
 | 18 => True
 | 19 => x = .int .i64 E
 | _ => True
theorem PhiXa.keep {gL gM gI i j : Nat} {z1 z2 z3 y1 y2 : Value} {z E : Int} {X : LP} {B : Nat} : ∀ (w w' : World), RT B w w' → ∀ jj x, PhiXa gL gM gI i j z1 z2 z3 y1 y2 z E X B jj w x → PhiXa gL gM gI i j z1 z2 z3 y1 y2 z E X B jj w' x := by
 intro w w' hr jj x h; unfold PhiXa at h ⊢
 split <;> simp only at h ⊢
 all_goals first
  | exact h
  | (obtain ⟨v, e, h⟩ := h; exact ⟨v, e, h.mapL hr.lim⟩)
  | (obtain ⟨A, k, c, A', k', c', e, h⟩ := h; exact ⟨A, k, c, A', k', c', e, h.mapL hr.lim⟩)
  | (obtain ⟨g, e, h1, h2⟩ := h; exact ⟨g, e, h1, hr.sl g h2⟩)
  | exact h.mapL hr.lim
def PhiXb (gL gM gI i j : Nat) (z1 z2 z3 y1 y2 : Value) (z E : Int) (X : LP) (B : Nat) (jj : Nat) (w : World) (x : Value) : Prop :=
 match jj with
 | 0 => x = .slice (some ⟨gL, 0, none⟩) 2 2
 | 1 => x = .int .i64 (i : Nat)
 | 2 => x = .pointer (some ⟨gL, i * 3, none⟩)
 | 3 => x = .agg #[z1, z2, z3]
 | 4 => x = .slice (some ⟨gM, 0, none⟩) 3 3
 | 5 => x = .int .i64 (j : Nat)
 | 6 => x = .pointer (some ⟨gM, j * 2, none⟩)
 | 7 => x = .agg #[y1, y2]
 | 8 => x = .slice (some ⟨gI, 0, none⟩) 3 3
 | 9 => x = .int .i64 (j : Nat)
 | 10 => x = .pointer (some ⟨gI, j, none⟩)
 | 11 => x = .int .i64 z
 | 12 => ∃ v, x = .tuple #[v, .int .i64 E] ∧ RtP w v X
 | 13 => ∃ v, x = .tuple #[v, .int .i64 E] ∧ RtP w v X
 | 14 => ∃ A k c A' k' c', x = .agg #[.slice A k c, .slice A' k' c'] ∧ RtP w (.agg #[.slice A k c, .slice A' k' c']) X
 | 15 => x = .int .i64 E
 | 16 => ∃ g, x = .pointer (some ⟨g, 0, none⟩) ∧ B ≤ g ∧ Sl w g
 | 17 => True
 | 18 => x = .int .i64 E
 | _ => True
theorem PhiXb.keep {gL gM gI i j : Nat} {z1 z2 z3 y1 y2 : Value} {z E : Int} {X : LP} {B : Nat} : ∀ (w w' : World), RT B w w' → ∀ jj x, PhiXb gL gM gI i j z1 z2 z3 y1 y2 z E X B jj w x → PhiXb gL gM gI i j z1 z2 z3 y1 y2 z E X B jj w' x := by
 intro w w' hr jj x h; unfold PhiXb at h ⊢
 split <;> simp only at h ⊢
 all_goals first
  | exact h
  | (obtain ⟨v, e, h⟩ := h; exact ⟨v, e, h.mapL hr.lim⟩)
  | (obtain ⟨A, k, c, A', k', c', e, h⟩ := h; exact ⟨A, k, c, A', k', c', e, h.mapL hr.lim⟩)
  | (obtain ⟨g, e, h1, h2⟩ := h; exact ⟨g, e, h1, hr.sl g h2⟩)
  | exact h.mapL hr.lim
set_option maxRecDepth 100000 in
set_option maxHeartbeats 40000000 in
theorem wager_expects_n (A : Option Addr) (k c : Nat) (l : List Int) (n1 n2 n3 how by_ : Int) (vr : Value) (rX : LP) (w : World) (h : RowL intC w A k l) (HL : Hid (∀ x ∈ l, -9223372036854775808 ≤ x ∧ x ≤ 9223372036854775807)) (i1 : -9223372036854775808 ≤ n1 ∧ n1 ≤ 9223372036854775807) (i2 : -9223372036854775808 ≤ n2 ∧ n2 ≤ 9223372036854775807) (i3 : -9223372036854775808 ≤ n3 ∧ n3 ≤ 9223372036854775807) (i4 : -9223372036854775808 ≤ how ∧ how ≤ 9223372036854775807) (i5 : -9223372036854775808 ≤ by_ ∧ by_ ≤ 9223372036854775807) (hraw : RtP w vr rX) :
  Calls Tryz.prog 3 #[.slice A k c, .int .i64 n1, .int .i64 n2, .int .i64 n3, .int .i64 how, .int .i64 by_, vr] w fun e w' => e = .returned (.bool true) ∧ Below w.heap.size w w' := by
 obtain ⟨iR, hiR, hzR, hzR1, hzR2⟩ := info_parts info_ratio; obtain ⟨iP, hiP, hzP, hzP1, hzP2⟩ := info_parts info_plan17; obtain ⟨R1, rk1, rc1, R2, rk2, rc2, rfl⟩ := hraw.shape
 go_enter Tryz.func3, Tryz.ntmps3
 go_upto_region 1 with fail; refine wp_name ?_; intro w0 HW0; have hb0 : Below w.heap.size w w0 := by rw [HW0.out]; exact bA _ _
 have hBR : Blk w0 w.heap.size 25 #[.slice R1 rk1 rc1, .slice R2 rk2 rc2] := by rw [HW0.out]; exact Blk.new _ _ _
 obtain ⟨gW, hgW⟩ : ∃ g, Hid (g = w.heap.size) := ⟨_, rfl⟩; rw [← hgW.out] at hBR ⊢; have Q0 := hBR.cell 0; have Q1 := hBR.cell 1; simp only [List.getElem?_toArray, List.getElem?_cons_zero, List.getElem?_cons_succ] at Q0 Q1; have hraw := hraw.below hb0; have h1 := h.below hb0; clear HW0 hBR hgW; go_wp2_with fail; refine (made17_F A k c l 5 _ h1 HL (by omega)).mono ?_; rintro e w1 ⟨v, b, rows, rfl, hpl, hpe, hlen, hb1⟩; obtain ⟨X1, xk1, xc1, X2, xk2, xc2, S, kS, cS, rfl⟩ := hpl.shape; have HPE := Lib.hid hpe; clear hpe hlen h1; go_upto_region 2 with fail; refine wp_name ?_; intro w2 HW2; have hb : Below w1.heap.size w1 w2 := by rw [HW2.out]; exact bA _ _
 have hBP : Blk w2 w1.heap.size 28 #[.slice X1 xk1 xc1, .slice X2 xk2 xc2, .slice S kS cS] := by rw [HW2.out]; exact Blk.new _ _ _
 obtain ⟨gP, hgP⟩ : ∃ g, Hid (g = w1.heap.size) := ⟨_, rfl⟩; rw [← hgP.out] at hBP ⊢; have P0 := hBP.cell 0; have P1 := hBP.cell 1; have P2 := hBP.cell 2; simp only [List.getElem?_toArray, List.getElem?_cons_zero, List.getElem?_cons_succ] at P0 P1 P2; have hpl := hpl.below hb; have hb12 := Below.tr hb1 hb; have hbw := Below.tr hb0 hb12; have Q0 := cell_keep hb12 Q0; have Q1 := cell_keep hb12 Q1; have hraw := hraw.below hb12; clear HW2 hBP hgP hb hb1 hb0 hb12; refine region_invF (PhiX2 (.agg #[.slice X1 xk1 xc1, .slice X2 xk2 xc2, .slice S kS cS]) how by_) (fun w w' => Below w.heap.size w w') (fun W => Below w2.heap.size w2 W) (by kernel_rfl) (by kernel_rfl) (by kernel_rfl) PhiX2.keep (fun _ _ hR hS => Below.tr hS hR) (bD _) (fun vs => by simp only [fillR, Act.put, sA, sB, sC, Nat.zero_add, Nat.reduceAdd]; rfl) ?_ ?_
 ·refine sK ?_ (sK ?_ (sK ?_ (sK ?_ (sK ?_ (sK ?_ (sK ?_ (sZ)))))))
  ·as_aux_lemma =>
   intro vs W hS hdep K hK; have f1 := cell_keep hS P0; have f2 := cell_keep hS P1; have f3 := cell_keep hS P2; refine ⟨?_⟩; simp only [Act.put, sA, sB, sC, Nat.zero_add, Nat.reduceAdd] at hK ⊢; go_simp; with_reducible refine hK _ _ (Below.refl _ _) ?_
   exact rfl
  ·as_aux_lemma =>
   intro vs W hS hdep K hK; have f1 := cell_keep hS P0; have f2 := cell_keep hS P1; have f3 := cell_keep hS P2; refine ⟨?_⟩; simp only [Act.put, sA, sB, sC, Nat.zero_add, Nat.reduceAdd] at hK ⊢; go_simp; with_reducible refine hK _ _ (Below.refl _ _) ?_
   exact rfl
  ·as_aux_lemma =>
   intro vs W hS hdep K hK; refine ⟨?_⟩; simp only [Act.put, sA, sB, sC, Nat.zero_add, Nat.reduceAdd] at hK ⊢; go_simp; with_reducible refine hK _ _ (Below.refl _ _) ?_
   exact rfl
  ·as_aux_lemma =>
   intro vs W hS hdep K hK; refine ⟨?_⟩; simp only [Act.put, sA, sB, sC, Nat.zero_add, Nat.reduceAdd] at hK ⊢; go_simp; with_reducible refine hK _ _ (Below.refl _ _) ?_
   exact rfl
  ·as_aux_lemma =>
   intro vs W hS hdep K hK; have d0 := hdep ⟨1, .data⟩ (by simp) rfl; simp only [PhiX2] at d0; have d1 := hdep ⟨2, .data⟩ (by simp) rfl; simp only [PhiX2] at d1; have d2 := hdep ⟨3, .data⟩ (by simp) rfl; simp only [PhiX2] at d2; refine ⟨?_⟩; simp only [Act.put, sA, sB, sC, Nat.zero_add, Nat.reduceAdd, d0, d1, d2] at hK ⊢; go_simp; refine (spoilt17_V _ b rows how by_ _ (hpl.below hS) HPE.out i4 i5).mono ?_; rintro e w' ⟨v, rfl, hv, hb⟩; go_wp2_with fail; with_reducible refine hK _ _ hb ?_
   exact hv
  ·as_aux_lemma =>
   intro vs W hS hdep K hK; have d0 := hdep ⟨0, .data⟩ (by simp) rfl; simp only [PhiX2] at d0; have d1 := hdep ⟨4, .data⟩ (by simp) rfl; simp only [PhiX2] at d1; refine @exE2 _ _ _ _ d1 ?_; clear d1; intro b1 r1 d1; have h1 := d1; clear d1; obtain ⟨Y1, y1, z1, Y2, y2, z2, Y3, y3, z3, e1⟩ := h1.shape; rw [e1] at h1; have HP2 := Lib.hid (PL2.new W 28 _ _ _ _ _ _ _ _ _ _ (hpl.below hS) h1); clear h1; refine ⟨?_⟩; simp only [Act.put, sA, sB, sC, Nat.zero_add, Nat.reduceAdd, d0, e1] at hK ⊢; rw [if_pos (by rfl)]; refine wp_sliceN 31 28 2 [(0, .tmp 27), (1, .tmp 31)] rfl #[.slice X1 xk1 xc1, .slice X2 xk2 xc2, .slice S kS cS, .slice Y1 y1 z1, .slice Y2 y2 z2, .slice Y3 y3 z3] iP nilPlan 3 [(0, .agg #[.slice X1 xk1 xc1, .slice X2 xk2 xc2, .slice S kS cS]), (1, .agg #[.slice Y1 y1 z1, .slice Y2 y2 z2, .slice Y3 y3 z3])] Tryz.underlying31 hiP hzP hzP1 (by omega) (by omega) rfl (fill_p2 _ _ _ _ _ _ _ _ _ _ _ _ _ _ _ _ _ _) ?_; simp only [Act.put, sA, sB, sC]; with_reducible refine hK _ _ (bA _ _) ?_
   exact ⟨_, rfl, HP2.out⟩
  ·as_aux_lemma =>
   intro vs W hS hdep K hK; have d0 := hdep ⟨5, .data⟩ (by simp) rfl; simp only [PhiX2] at d0; refine @exE1 _ _ _ d0 ?_; clear d0; intro g0 d0; have e0 := d0.1; have n0 := d0.2; clear d0; refine ⟨?_⟩; simp only [Act.put, sA, sB, sC, Nat.zero_add, Nat.reduceAdd, e0] at hK ⊢; go_simp; with_reducible refine hK _ _ (Below.refl _ _) ?_
   exact ⟨_, rfl, n0⟩
 intro vs w3 hb hv; have v6 := hv 6 (by simp); simp only [PhiX2] at v6; obtain ⟨gL, v6, hL⟩ := v6; simp only [Act.put, sA, sB, sC, Nat.zero_add, Nat.reduceAdd, v6]; have Q0 := cell_keep hb Q0; have Q1 := cell_keep hb Q1; have hraw := hraw.below hb; have hbw := Below.tr hbw hb; clear hv v6 hb P0 P1 P2 hpl; go_upto_region 3 with fail; refine region_invF (PhiX3 n1 n2 (.slice R1 rk1 rc1) (.slice R2 rk2 rc2)) (fun w w' => Below w.heap.size w w') (fun W => Below w3.heap.size w3 W) (by kernel_rfl) (by kernel_rfl) (by kernel_rfl) PhiX3.keep (fun _ _ hR hS => Below.tr hS hR) (bD _) (fun vs => by simp only [fillR, Act.put, sA, sB, sC, Nat.zero_add, Nat.reduceAdd]; rfl) ?_ ?_
 ·refine sK ?_ (sK ?_ (sK ?_ (sK ?_ (sK ?_ (sK ?_ (sK ?_ (sK ?_ (sK ?_ (sK ?_ (sK ?_ (sK ?_ (sZ))))))))))))
  ·as_aux_lemma =>
   intro vs W hS hdep K hK; refine ⟨?_⟩; simp only [Act.put, sA, sB, sC, Nat.zero_add, Nat.reduceAdd] at hK ⊢; go_simp; with_reducible refine hK _ _ (Below.refl _ _) ?_
   exact rfl
  ·as_aux_lemma =>
   intro vs W hS hdep K hK; refine ⟨?_⟩; simp only [Act.put, sA, sB, sC, Nat.zero_add, Nat.reduceAdd] at hK ⊢; go_simp; with_reducible refine hK _ _ (Below.refl _ _) ?_
   exact rfl
  ·as_aux_lemma =>
   intro vs W hS hdep K hK; have d0 := hdep ⟨0, .data⟩ (by simp) rfl; simp only [PhiX3] at d0; have d1 := hdep ⟨1, .data⟩ (by simp) rfl; simp only [PhiX3] at d1; refine ⟨?_⟩; simp only [Act.put, sA, sB, sC, Nat.zero_add, Nat.reduceAdd, d0, d1] at hK ⊢; go_simp; refine (part_X n1 n2 _ i1 i2).mono ?_; rintro e w' ⟨v, rfl, hv, hb⟩; go_wp2_with fail; with_reducible refine hK _ _ hb ?_
   exact hv
  ·as_aux_lemma =>
   intro vs W hS hdep K hK; have f1 := cell_keep hS Q0; have f2 := cell_keep hS Q1; refine ⟨?_⟩; simp only [Act.put, sA, sB, sC, Nat.zero_add, Nat.reduceAdd] at hK ⊢; go_simp; with_reducible refine hK _ _ (Below.refl _ _) ?_
   exact rfl
  ·as_aux_lemma =>
   intro vs W hS hdep K hK; refine ⟨?_⟩; simp only [Act.put, sA, sB, sC, Nat.zero_add, Nat.reduceAdd] at hK ⊢; go_simp; with_reducible refine hK _ _ (Below.refl _ _) ?_
   exact rfl
  ·as_aux_lemma =>
   intro vs W hS hdep K hK; have d0 := hdep ⟨4, .data⟩ (by simp) rfl; simp only [PhiX3] at d0; refine ⟨?_⟩; simp only [Act.put, sA, sB, sC, Nat.zero_add, Nat.reduceAdd, d0] at hK ⊢; go_simp; refine (around_n n1 258 _ i1.1 i1.2 (by omega) (by omega)).mono ?_; rintro e w' ⟨z, rfl, hz, _, rfl⟩; go_wp2_with fail; with_reducible refine hK _ _ (Below.refl _ _) ?_
   exact ⟨z, rfl, hz⟩
  ·as_aux_lemma =>
   intro vs W hS hdep K hK; refine ⟨?_⟩; simp only [Act.put, sA, sB, sC, Nat.zero_add, Nat.reduceAdd] at hK ⊢; go_simp; with_reducible refine hK _ _ (Below.refl _ _) ?_
   exact rfl
  ·as_aux_lemma =>
   intro vs W hS hdep K hK; have d0 := hdep ⟨6, .data⟩ (by simp) rfl; simp only [PhiX3] at d0; refine ⟨?_⟩; simp only [Act.put, sA, sB, sC, Nat.zero_add, Nat.reduceAdd, d0] at hK ⊢; go_simp; refine (around_n n2 2 _ i2.1 i2.2 (by omega) (by omega)).mono ?_; rintro e w' ⟨z, rfl, hz, _, rfl⟩; go_wp2_with fail; with_reducible refine hK _ _ (Below.refl _ _) ?_
   exact ⟨z, rfl, hz⟩
  ·as_aux_lemma =>
   intro vs W hS hdep K hK; have d0 := hdep ⟨7, .data⟩ (by simp) rfl; simp only [PhiX3] at d0; refine @exE1 _ _ _ d0 ?_; clear d0; intro y0 d0; have e0 := d0.1; have n0 := d0.2; clear d0; refine ⟨?_⟩; simp only [Act.put, sA, sB, sC, Nat.zero_add, Nat.reduceAdd, e0] at hK ⊢; have s1 : IntKind.i64.wrap (255 + (y0 : Int)) = 255 + (y0 : Int) := by rw [IntWalk.i64_in _ (by omega)]
   go_simp; with_reducible refine hK _ _ (Below.refl _ _) ?_
   exact ⟨255 + y0, by push_cast; rfl, by omega, by omega⟩
  ·as_aux_lemma =>
   intro vs W hS hdep K hK; have d0 := hdep ⟨5, .data⟩ (by simp) rfl; simp only [PhiX3] at d0; refine @exE1 _ _ _ d0 ?_; clear d0; intro y0 d0; have e0 := d0.1; have n0 := d0.2; clear d0; have d1 := hdep ⟨8, .data⟩ (by simp) rfl; simp only [PhiX3] at d1; refine @exE1 _ _ _ d1 ?_; clear d1; intro y1 d1; have e1 := d1.1; have n1 := d1.2; clear d1; refine ⟨?_⟩; simp only [Act.put, sA, sB, sC, Nat.zero_add, Nat.reduceAdd, e0, e1] at hK ⊢; go_simp; refine (of_X y0 y1 _ (by omega) n1.1 n1.2).mono ?_; rintro e w' ⟨v, rfl, hv, hb⟩; go_wp2_with fail; with_reducible refine hK _ _ hb ?_
   exact hv
  ·as_aux_lemma =>
   intro vs W hS hdep K hK; have d0 := hdep ⟨2, .data⟩ (by simp) rfl; simp only [PhiX3] at d0; refine @exE1 _ _ _ d0 ?_; clear d0; intro X0 d0; have h0 := d0; clear d0; have d1 := hdep ⟨3, .data⟩ (by simp) rfl; simp only [PhiX3] at d1; have d2 := hdep ⟨9, .data⟩ (by simp) rfl; simp only [PhiX3] at d2; refine @exE1 _ _ _ d2 ?_; clear d2; intro X2 d2; have h2 := d2; clear d2; obtain ⟨A0, k0, c0, B0, m0, d0', e0⟩ := h0.shape; rw [e0] at h0; obtain ⟨A2, k2, c2, B2, m2, d2', e2⟩ := h2.shape; rw [e2] at h2; have HR := Lib.hid (ratRow_new 25 [(.slice A0 k0 c0, .slice B0 m0 d0'), (.slice R1 rk1 rc1, .slice R2 rk2 rc2), (.slice A2 k2 c2, .slice B2 m2 d2')] [X0, rX, X2] ⟨h0, hraw.below hS, h2, trivial⟩ (by simp)); clear h0 h2; refine ⟨?_⟩; simp only [Act.put, sA, sB, sC, Nat.zero_add, Nat.reduceAdd, e0, d1, e2] at hK ⊢; rw [if_pos (by rfl)]; refine wp_sliceN 34 25 3 [(0, .tmp 35), (1, .tmp 36), (2, .tmp 42)] rfl #[.slice A0 k0 c0, .slice B0 m0 d0', .slice R1 rk1 rc1, .slice R2 rk2 rc2, .slice A2 k2 c2, .slice B2 m2 d2'] iR nilRat 2 [(0, .agg #[.slice A0 k0 c0, .slice B0 m0 d0']), (1, .agg #[.slice R1 rk1 rc1, .slice R2 rk2 rc2]), (2, .agg #[.slice A2 k2 c2, .slice B2 m2 d2'])] Tryz.underlying34 hiR hzR hzR1 (by omega) (by omega) rfl (fill_r3 _ _ _ _ _ _ _ _ _ _ _ _ _ _ _ _ _ _) ?_; simp only [Act.put, sA, sB, sC]; with_reducible refine hK _ _ (bA _ _) ?_
   exact ⟨_, _, rfl, HR.out⟩
  ·as_aux_lemma =>
   intro vs W hS hdep K hK; have d0 := hdep ⟨10, .data⟩ (by simp) rfl; simp only [PhiX3] at d0; refine @exE2 _ _ _ _ d0 ?_; clear d0; intro g0 q0 d0; have e0 := d0.1; have n0 := d0.2; clear d0; refine ⟨?_⟩; simp only [Act.put, sA, sB, sC, Nat.zero_add, Nat.reduceAdd, e0] at hK ⊢; go_simp; with_reducible refine hK _ _ (Below.refl _ _) ?_
   exact ⟨_, _, rfl, n0⟩
 intro vs' w4 hb hv; have v11 := hv 11 (by simp); simp only [PhiX3] at v11; obtain ⟨gM, qs, v11, hM⟩ := v11; simp only [Act.put, sA, sB, sC, Nat.zero_add, Nat.reduceAdd, v11]; have hL := hL.below hb; have hbw := Below.tr hbw hb; clear hv v11 hb Q0 Q1 hraw; go_wp2_with fail; refine (around_n n3 9 _ i3.1 i3.2 (by omega) (by omega)).mono ?_; rintro e w' ⟨y1, rfl, hy1, _, rfl⟩; go_wp2_with fail; refine (around_n n3 21 _ i3.1 i3.2 (by omega) (by omega)).mono ?_; rintro e w' ⟨y2, rfl, hy2, _, rfl⟩; have s1 : IntKind.i64.wrap ((y2 : Int) - 2) = (y2 : Int) - 2 := by rw [IntWalk.i64_in _ (by omega)]
 go_upto_region 5 with fail; refine wp_name ?_; intro w5 HW5; have hb : Below w4.heap.size w4 w5 := by rw [HW5.out]; exact bA _ _
 have hBI : Blk w5 w4.heap.size 3 #[.int .i64 (y1 : Int), .int .i64 ((y2 : Int) - 2), .int .i64 n3] := by rw [HW5.out]; exact Blk.new _ _ _
 obtain ⟨gI, hgI⟩ : ∃ g, Hid (g = w4.heap.size) := ⟨_, rfl⟩; rw [← hgI.out] at hBI ⊢; have hL := hL.below hb; have hM := hM.below hb; have hbw := Below.tr hbw hb
 have HI : ∀ j, j < 3 → ∃ z : Int, w5.cell? ⟨gI, j, none⟩ = some (.int .i64 z) := by
  intro j hj; have hj3 : j = 0 ∨ j = 1 ∨ j = 2 := by omega
  rcases hj3 with rfl | rfl | rfl
  ·exact ⟨_, by rw [hBI.cell]; rfl⟩
  ·exact ⟨_, by rw [hBI.cell]; rfl⟩
  ·exact ⟨_, by rw [hBI.cell]; rfl⟩
 have HI := Lib.hid HI; clear HW5 hBI hgI hb s1; go_wp2_with fail
 go_loopg [19] 2 (fun j x wr => ∃ i : Nat, x = .int .i64 i ∧ i + j = 2 ∧ Below w5.heap.size w5 wr)
 case atStart => exact ⟨0, rfl, by omega, Below.refl _ _⟩
 case round =>
  obtain ⟨G, hG⟩ : ∃ G, G = gk := ⟨gk, rfl⟩; subst hG; obtain ⟨i, rfl, hij, hbo⟩ := hrel; obtain ⟨wo, hwo⟩ : ∃ wo, wo = wr := ⟨_, rfl⟩; subst hwo; by_cases hi : i < 2
  ·have t1 : decide ((i : Int) < 2) = true := by simp; omega
   have hi2 : (i : Int) < 2 := by omega
   go_wp2_with fail
   go_loopg [20] 3 (fun jj x wx => ∃ j : Nat, x = .int .i64 j ∧ j + jj = 3 ∧ Below w5.heap.size w5 wx)
   case atStart => exact ⟨0, rfl, by omega, hbo⟩
   case round =>
    obtain ⟨G2, hG2⟩ : ∃ G, G = gk := ⟨gk, rfl⟩; subst hG2; obtain ⟨j, rfl, hjj, hbx0⟩ := hrel; obtain ⟨wx, hwx⟩ : ∃ wx, wx = wr := ⟨_, rfl⟩; subst hwx; by_cases hj : j < 3
    ·have t2 : decide ((j : Int) < 3) = true := by simp; omega
     have hj3 : (j : Int) < 3 := by omega
     obtain ⟨z1, z2, z3, b', rows', c1, c2, c3, hpi⟩ := (hL.below hbx0).at_ hi; obtain ⟨bM, oM, y1', y2', q, eM, g1, g2, HQ, hqv⟩ := (hM.below hbx0).at_ hj; simp only [Option.some.injEq, Addr.mk.injEq, and_true] at eM; obtain ⟨rfl, rfl⟩ := eM; rw [Nat.zero_add] at g1 g2; obtain ⟨z, hci0⟩ := HI.out j hj; have hci := cell_keep hbx0 hci0; obtain ⟨E, HE⟩ : ∃ E, Hid (E = expE b' rows' q z) := ⟨_, rfl⟩; have HOK := Lib.hid hpi.okP; have HXX : Hid (expX b' rows' q z = rexpX b' rows' q z) := exp_same HOK.out.1 HOK.out.2 hqv.ok; clear hci0 HQ HOK; go_upto_region 11 with fail; refine region_invW (PhiXa gL gM gI i j z1 z2 z3 y1' y2' z (expE b' rows' q z) (expX b' rows' q z) wx.heap.size) (RT wx.heap.size) (SD wx 15 17 18) (by kernel_rfl) (by kernel_rfl) (by kernel_rfl) PhiXa.keep (SD.start _ _ _ _ _) (fun vs => by simp only [fillR, Act.put, sA, sB, sC, Nat.zero_add, Nat.reduceAdd]; rfl) ?_ ?_
     ·refine sK ?_ (sK ?_ (sK ?_ (sK ?_ (sK ?_ (sK ?_ (sK ?_ (sK ?_ (sK ?_ (sK ?_ (sK ?_ (sK ?_ (sK ?_ (sK ?_ (sK ?_ (sK ?_ (sK ?_ (sK ?_ (sK ?_ (sK ?_ (sZ))))))))))))))))))))
      ·as_aux_lemma =>
       intro vs L W hS hL cl hdl hdep K hK; refine ⟨?_⟩; simp only [Act.put, sA, sB, sC, Nat.zero_add, Nat.reduceAdd] at hK ⊢; go_simp; with_reducible refine hK _ _ (RT.refl _ _) (hS.step (Below.refl _ _) 0 _ (by decide) (fun e => absurd e (by decide))) ?_
       exact rfl
      ·as_aux_lemma =>
       intro vs L W hS hL cl hdl hdep K hK; refine ⟨?_⟩; simp only [Act.put, sA, sB, sC, Nat.zero_add, Nat.reduceAdd] at hK ⊢; go_simp; with_reducible refine hK _ _ (RT.refl _ _) (hS.step (Below.refl _ _) 1 _ (by decide) (fun e => absurd e (by decide))) ?_
       exact rfl
      ·as_aux_lemma =>
       intro vs L W hS hL cl hdl hdep K hK; have d0 := hdep ⟨0, .data⟩ (by simp) rfl; simp only [PhiXa] at d0; have d1 := hdep ⟨1, .data⟩ (by simp) rfl; simp only [PhiXa] at d1; refine ⟨?_⟩; simp only [Act.put, sA, sB, sC, Nat.zero_add, Nat.reduceAdd, d0, d1] at hK ⊢; go_simp; with_reducible refine hK _ _ (RT.refl _ _) (hS.step (Below.refl _ _) 2 _ (by decide) (fun e => absurd e (by decide))) ?_
       exact rfl
      ·as_aux_lemma =>
       intro vs L W hS hL cl hdl hdep K hK; have d0 := hdep ⟨2, .data⟩ (by simp) rfl; simp only [PhiXa] at d0; have f1 := cell_keep hS.be c1; have f2 := cell_keep hS.be c2; have f3 := cell_keep hS.be c3; refine ⟨?_⟩; simp only [Act.put, sA, sB, sC, Nat.zero_add, Nat.reduceAdd, d0] at hK ⊢; go_simp; with_reducible refine hK _ _ (RT.refl _ _) (hS.step (Below.refl _ _) 3 _ (by decide) (fun e => absurd e (by decide))) ?_
       exact rfl
      ·as_aux_lemma =>
       intro vs L W hS hL cl hdl hdep K hK; have d0 := hdep ⟨3, .data⟩ (by simp) rfl; simp only [PhiXa] at d0; refine ⟨?_⟩; simp only [Act.put, sA, sB, sC, Nat.zero_add, Nat.reduceAdd, d0] at hK ⊢; go_simp; refine (plan_E _ b' rows' _ (hpi.below hS.be)).mono ?_; rintro e w' ⟨rfl, hb⟩; go_wp2_with fail; with_reducible refine hK _ _ (RT.below hb hS.be.size) (hS.step hb 4 _ (by decide) (fun e => absurd e (by decide))) ?_
       exact rfl
      ·as_aux_lemma =>
       intro vs L W hS hL cl hdl hdep K hK; refine ⟨?_⟩; simp only [Act.put, sA, sB, sC, Nat.zero_add, Nat.reduceAdd] at hK ⊢; go_simp; with_reducible refine hK _ _ (RT.refl _ _) (hS.step (Below.refl _ _) 5 _ (by decide) (fun e => absurd e (by decide))) ?_
       exact rfl
      ·as_aux_lemma =>
       intro vs L W hS hL cl hdl hdep K hK; refine ⟨?_⟩; simp only [Act.put, sA, sB, sC, Nat.zero_add, Nat.reduceAdd] at hK ⊢; go_simp; with_reducible refine hK _ _ (RT.refl _ _) (hS.step (Below.refl _ _) 6 _ (by decide) (fun e => absurd e (by decide))) ?_
       exact rfl
      ·as_aux_lemma =>
       intro vs L W hS hL cl hdl hdep K hK; have d0 := hdep ⟨5, .data⟩ (by simp) rfl; simp only [PhiXa] at d0; have d1 := hdep ⟨6, .data⟩ (by simp) rfl; simp only [PhiXa] at d1; refine ⟨?_⟩; simp only [Act.put, sA, sB, sC, Nat.zero_add, Nat.reduceAdd, d0, d1] at hK ⊢; go_simp; with_reducible refine hK _ _ (RT.refl _ _) (hS.step (Below.refl _ _) 7 _ (by decide) (fun e => absurd e (by decide))) ?_
       exact rfl
      ·as_aux_lemma =>
       intro vs L W hS hL cl hdl hdep K hK; have d0 := hdep ⟨7, .data⟩ (by simp) rfl; simp only [PhiXa] at d0; have f1 := cell_keep hS.be g1; have f2 := cell_keep hS.be g2; refine ⟨?_⟩; simp only [Act.put, sA, sB, sC, Nat.zero_add, Nat.reduceAdd, d0] at hK ⊢; go_simp; with_reducible refine hK _ _ (RT.refl _ _) (hS.step (Below.refl _ _) 8 _ (by decide) (fun e => absurd e (by decide))) ?_
       exact rfl
      ·as_aux_lemma =>
       intro vs L W hS hL cl hdl hdep K hK; refine ⟨?_⟩; simp only [Act.put, sA, sB, sC, Nat.zero_add, Nat.reduceAdd] at hK ⊢; go_simp; with_reducible refine hK _ _ (RT.refl _ _) (hS.step (Below.refl _ _) 9 _ (by decide) (fun e => absurd e (by decide))) ?_
       exact rfl
      ·as_aux_lemma =>
       intro vs L W hS hL cl hdl hdep K hK; refine ⟨?_⟩; simp only [Act.put, sA, sB, sC, Nat.zero_add, Nat.reduceAdd] at hK ⊢; go_simp; with_reducible refine hK _ _ (RT.refl _ _) (hS.step (Below.refl _ _) 10 _ (by decide) (fun e => absurd e (by decide))) ?_
       exact rfl
      ·as_aux_lemma =>
       intro vs L W hS hL cl hdl hdep K hK; have d0 := hdep ⟨9, .data⟩ (by simp) rfl; simp only [PhiXa] at d0; have d1 := hdep ⟨10, .data⟩ (by simp) rfl; simp only [PhiXa] at d1; refine ⟨?_⟩; simp only [Act.put, sA, sB, sC, Nat.zero_add, Nat.reduceAdd, d0, d1] at hK ⊢; go_simp; with_reducible refine hK _ _ (RT.refl _ _) (hS.step (Below.refl _ _) 11 _ (by decide) (fun e => absurd e (by decide))) ?_
       exact rfl
      ·as_aux_lemma =>
       intro vs L W hS hL cl hdl hdep K hK; have d0 := hdep ⟨11, .data⟩ (by simp) rfl; simp only [PhiXa] at d0; have f1 := cell_keep hS.be hci; refine ⟨?_⟩; simp only [Act.put, sA, sB, sC, Nat.zero_add, Nat.reduceAdd, d0] at hK ⊢; go_simp; with_reducible refine hK _ _ (RT.refl _ _) (hS.step (Below.refl _ _) 12 _ (by decide) (fun e => absurd e (by decide))) ?_
       exact rfl
      ·as_aux_lemma =>
       intro vs L W hS hL cl hdl hdep K hK; have d0 := hdep ⟨4, .data⟩ (by simp) rfl; simp only [PhiXa] at d0; have d1 := hdep ⟨8, .data⟩ (by simp) rfl; simp only [PhiXa] at d1; have d2 := hdep ⟨12, .data⟩ (by simp) rfl; simp only [PhiXa] at d2; refine ⟨?_⟩; simp only [Act.put, sA, sB, sC, Nat.zero_add, Nat.reduceAdd, d0, d1, d2] at hK ⊢; go_simp; refine (expect_F _ _ b' q rows' z _ (hpi.below hS.be) (hqv.below hS.be)).mono ?_; rintro e w' ⟨v, rfl, hn, hb⟩; go_wp2_with fail; with_reducible refine hK _ _ (RT.below hb hS.be.size) (hS.step hb 13 _ (by decide) (fun e => absurd e (by decide))) ?_
       exact ⟨v, rfl, hn⟩
      ·as_aux_lemma =>
       intro vs L W hS hL cl hdl hdep K hK; have d0 := hdep ⟨13, .data⟩ (by simp) rfl; simp only [PhiXa] at d0; refine @exE1 _ _ _ d0 ?_; clear d0; intro v0 d0; have e0 := d0.1; have n0 := d0.2; clear d0; refine ⟨?_⟩; simp only [Act.put, sA, sB, sC, Nat.zero_add, Nat.reduceAdd, e0] at hK ⊢; go_simp; with_reducible refine hK _ _ (RT.refl _ _) (hS.step (Below.refl _ _) 14 _ (by decide) (fun e => absurd e (by decide))) ?_
       exact ⟨_, rfl, n0⟩
      ·as_aux_lemma =>
       intro vs L W hS hL cl hdl hdep K hK; have d0 := hdep ⟨14, .data⟩ (by simp) rfl; simp only [PhiXa] at d0; refine @exE1 _ _ _ d0 ?_; clear d0; intro v0 d0; have e0 := d0.1; have n0 := d0.2; clear d0
       have h18 : L 18 = false := by
        cases h : L 18 with
        | false => rfl
        | true => exact absurd (cl 18 _ rfl h ⟨15, .data⟩ (by simp) rfl) (by rw [hL]; decide)
       obtain ⟨A, k, c, A', k', c', rfl⟩ := n0.shape; refine ⟨?_⟩; simp only [Act.put, sA, sB, sC, Nat.zero_add, Nat.reduceAdd, e0] at hK ⊢; go_simp; with_reducible refine hK _ _ (RT.refl _ _) (hS.step (Below.refl _ _) 15 _ (by decide) (fun _ => h18)) ?_
       exact ⟨_, _, _, _, _, _, rfl, n0⟩
      ·as_aux_lemma =>
       intro vs L W hS hL cl hdl hdep K hK; have d0 := hdep ⟨14, .data⟩ (by simp) rfl; simp only [PhiXa] at d0; refine @exE1 _ _ _ d0 ?_; clear d0; intro v0 d0; have e0 := d0.1; have n0 := d0.2; clear d0; refine ⟨?_⟩; simp only [Act.put, sA, sB, sC, Nat.zero_add, Nat.reduceAdd, e0] at hK ⊢; go_simp; with_reducible refine hK _ _ (RT.refl _ _) (hS.step (Below.refl _ _) 16 _ (by decide) (fun e => absurd e (by decide))) ?_
       exact rfl
      ·as_aux_lemma =>
       intro vs L W hS hL cl hdl hdep K hK
       have h18 : L 18 = false := by
        cases h : L 18 with
        | false => rfl
        | true => exact absurd (cl 18 _ rfl h ⟨17, .data⟩ (by simp) rfl) (by rw [hL]; decide)
       refine ⟨?_⟩; simp only [Act.put, sA, sB, sC, Nat.zero_add, Nat.reduceAdd] at hK ⊢; go_simp; with_reducible refine hK _ _ (RT.below (bA _ _) hS.be.size) (hS.step (bA _ _) 17 _ (by decide) (fun _ => h18)) ?_
       exact ⟨_, rfl, hS.be.size, none, 0, 0, none, 0, 0, Blk.new _ _ _⟩
      ·as_aux_lemma =>
       intro vs L W hS hL cl hdl hdep K hK; have d0 := hdep ⟨17, .data⟩ (by simp) rfl; simp only [PhiXa] at d0; refine @exE1 _ _ _ d0 ?_; clear d0; intro g0 d0; have e0 := d0.1; have l0 := d0.2.1; have s0 := d0.2.2; clear d0; have d1 := hdep ⟨15, .data⟩ (by simp) rfl; simp only [PhiXa] at d1; refine @exE6 _ _ _ _ _ _ _ _ d1 ?_; clear d1; intro A1 k1 c1 B1 m1 d1 d1; have e1 := d1.1; have n1 := d1.2; clear d1; obtain ⟨⟨a1, q1⟩, ⟨a2, q2⟩, q3, q4⟩ := s0.facts; refine ⟨?_⟩; simp only [Act.put, sA, sB, sC, Nat.zero_add, Nat.reduceAdd, e0, e1] at hK ⊢; go_simp; with_reducible refine hK undef _ (RT.store s0 l0 _ _ _ _ _ _) (hS.stored e0 e1 l0 s0 (by decide) (by decide) _) ?_
       exact trivial
      ·as_aux_lemma =>
       intro vs L W hS hL cl hdl hdep K hK; have d0 := hdep ⟨16, .data⟩ (by simp) rfl; simp only [PhiXa] at d0; refine ⟨?_⟩; simp only [Act.put, sA, sB, sC, Nat.zero_add, Nat.reduceAdd, d0] at hK ⊢; go_simp; with_reducible refine hK _ _ (RT.refl _ _) (hS.step (Below.refl _ _) 19 _ (by decide) (fun e => absurd e (by decide))) ?_
       exact rfl
     ·intro vs L w7 hS hall hv; have v19 := hv 19 (by simp); have v8 := hv 15 (by simp); simp only [PhiXa] at v19 v8; obtain ⟨_, _, _, _, _, _, e8', ho⟩ := v8; obtain ⟨g, A9p, k9p, c9p, B9p, m9p, d9p, e10, e8, hgN, hblk⟩ := hS.st (hall 18 (by simp)); rw [e8] at e8'; rw [← e8'] at ho; have HO := Lib.hid ho; have hbx := hS.be; clear hv hS hall e8' ho; simp only [Act.put, sA, sB, sC, Nat.zero_add, Nat.reduceAdd, v19, e10, e8]; have hx := HO.out; have F0 := hblk.cell 0; have F1 := hblk.cell 1; simp only [List.getElem?_toArray, List.getElem?_cons_zero, List.getElem?_cons_succ] at F0 F1; rw [← HE.out]; have hbe6 := Below.tr hbx0 hbx; have c1 := cell_keep hbx c1; have c2 := cell_keep hbx c2; have c3 := cell_keep hbx c3; have g1 := cell_keep hbx g1; have g2 := cell_keep hbx g2; have hci := cell_keep hbx hci; have hpi := hpi.below hbx; have hqv := hqv.below hbx; clear HO hblk hgN hbx; go_upto_region 12 with fail; refine region_invW (PhiXb gL gM gI i j z1 z2 z3 y1' y2' z (expE b' rows' q z) (rexpX b' rows' q z) w7.heap.size) (RT w7.heap.size) (SD w7 14 16 17) (by kernel_rfl) (by kernel_rfl) (by kernel_rfl) PhiXb.keep (SD.start _ _ _ _ _) (fun vs => by simp only [fillR, Act.put, sA, sB, sC, Nat.zero_add, Nat.reduceAdd]; rfl) ?_ ?_
      ·refine sK ?_ (sK ?_ (sK ?_ (sK ?_ (sK ?_ (sK ?_ (sK ?_ (sK ?_ (sK ?_ (sK ?_ (sK ?_ (sK ?_ (sK ?_ (sK ?_ (sK ?_ (sK ?_ (sK ?_ (sK ?_ (sK ?_ (sZ)))))))))))))))))))
       ·as_aux_lemma =>
        intro vs L W hS hL cl hdl hdep K hK; refine ⟨?_⟩; simp only [Act.put, sA, sB, sC, Nat.zero_add, Nat.reduceAdd] at hK ⊢; go_simp; with_reducible refine hK _ _ (RT.refl _ _) (hS.step (Below.refl _ _) 0 _ (by decide) (fun e => absurd e (by decide))) ?_
        exact rfl
       ·as_aux_lemma =>
        intro vs L W hS hL cl hdl hdep K hK; refine ⟨?_⟩; simp only [Act.put, sA, sB, sC, Nat.zero_add, Nat.reduceAdd] at hK ⊢; go_simp; with_reducible refine hK _ _ (RT.refl _ _) (hS.step (Below.refl _ _) 1 _ (by decide) (fun e => absurd e (by decide))) ?_
        exact rfl
       ·as_aux_lemma =>
        intro vs L W hS hL cl hdl hdep K hK; have d0 := hdep ⟨0, .data⟩ (by simp) rfl; simp only [PhiXb] at d0; have d1 := hdep ⟨1, .data⟩ (by simp) rfl; simp only [PhiXb] at d1; refine ⟨?_⟩; simp only [Act.put, sA, sB, sC, Nat.zero_add, Nat.reduceAdd, d0, d1] at hK ⊢; go_simp; with_reducible refine hK _ _ (RT.refl _ _) (hS.step (Below.refl _ _) 2 _ (by decide) (fun e => absurd e (by decide))) ?_
        exact rfl
       ·as_aux_lemma =>
        intro vs L W hS hL cl hdl hdep K hK; have d0 := hdep ⟨2, .data⟩ (by simp) rfl; simp only [PhiXb] at d0; have f1 := cell_keep hS.be c1; have f2 := cell_keep hS.be c2; have f3 := cell_keep hS.be c3; refine ⟨?_⟩; simp only [Act.put, sA, sB, sC, Nat.zero_add, Nat.reduceAdd, d0] at hK ⊢; go_simp; with_reducible refine hK _ _ (RT.refl _ _) (hS.step (Below.refl _ _) 3 _ (by decide) (fun e => absurd e (by decide))) ?_
        exact rfl
       ·as_aux_lemma =>
        intro vs L W hS hL cl hdl hdep K hK; refine ⟨?_⟩; simp only [Act.put, sA, sB, sC, Nat.zero_add, Nat.reduceAdd] at hK ⊢; go_simp; with_reducible refine hK _ _ (RT.refl _ _) (hS.step (Below.refl _ _) 4 _ (by decide) (fun e => absurd e (by decide))) ?_
        exact rfl
       ·as_aux_lemma =>
        intro vs L W hS hL cl hdl hdep K hK; refine ⟨?_⟩; simp only [Act.put, sA, sB, sC, Nat.zero_add, Nat.reduceAdd] at hK ⊢; go_simp; with_reducible refine hK _ _ (RT.refl _ _) (hS.step (Below.refl _ _) 5 _ (by decide) (fun e => absurd e (by decide))) ?_
        exact rfl
       ·as_aux_lemma =>
        intro vs L W hS hL cl hdl hdep K hK; have d0 := hdep ⟨4, .data⟩ (by simp) rfl; simp only [PhiXb] at d0; have d1 := hdep ⟨5, .data⟩ (by simp) rfl; simp only [PhiXb] at d1; refine ⟨?_⟩; simp only [Act.put, sA, sB, sC, Nat.zero_add, Nat.reduceAdd, d0, d1] at hK ⊢; go_simp; with_reducible refine hK _ _ (RT.refl _ _) (hS.step (Below.refl _ _) 6 _ (by decide) (fun e => absurd e (by decide))) ?_
        exact rfl
       ·as_aux_lemma =>
        intro vs L W hS hL cl hdl hdep K hK; have d0 := hdep ⟨6, .data⟩ (by simp) rfl; simp only [PhiXb] at d0; have f1 := cell_keep hS.be g1; have f2 := cell_keep hS.be g2; refine ⟨?_⟩; simp only [Act.put, sA, sB, sC, Nat.zero_add, Nat.reduceAdd, d0] at hK ⊢; go_simp; with_reducible refine hK _ _ (RT.refl _ _) (hS.step (Below.refl _ _) 7 _ (by decide) (fun e => absurd e (by decide))) ?_
        exact rfl
       ·as_aux_lemma =>
        intro vs L W hS hL cl hdl hdep K hK; refine ⟨?_⟩; simp only [Act.put, sA, sB, sC, Nat.zero_add, Nat.reduceAdd] at hK ⊢; go_simp; with_reducible refine hK _ _ (RT.refl _ _) (hS.step (Below.refl _ _) 8 _ (by decide) (fun e => absurd e (by decide))) ?_
        exact rfl
       ·as_aux_lemma =>
        intro vs L W hS hL cl hdl hdep K hK; refine ⟨?_⟩; simp only [Act.put, sA, sB, sC, Nat.zero_add, Nat.reduceAdd] at hK ⊢; go_simp; with_reducible refine hK _ _ (RT.refl _ _) (hS.step (Below.refl _ _) 9 _ (by decide) (fun e => absurd e (by decide))) ?_
        exact rfl
       ·as_aux_lemma =>
        intro vs L W hS hL cl hdl hdep K hK; have d0 := hdep ⟨8, .data⟩ (by simp) rfl; simp only [PhiXb] at d0; have d1 := hdep ⟨9, .data⟩ (by simp) rfl; simp only [PhiXb] at d1; refine ⟨?_⟩; simp only [Act.put, sA, sB, sC, Nat.zero_add, Nat.reduceAdd, d0, d1] at hK ⊢; go_simp; with_reducible refine hK _ _ (RT.refl _ _) (hS.step (Below.refl _ _) 10 _ (by decide) (fun e => absurd e (by decide))) ?_
        exact rfl
       ·as_aux_lemma =>
        intro vs L W hS hL cl hdl hdep K hK; have d0 := hdep ⟨10, .data⟩ (by simp) rfl; simp only [PhiXb] at d0; have f1 := cell_keep hS.be hci; refine ⟨?_⟩; simp only [Act.put, sA, sB, sC, Nat.zero_add, Nat.reduceAdd, d0] at hK ⊢; go_simp; with_reducible refine hK _ _ (RT.refl _ _) (hS.step (Below.refl _ _) 11 _ (by decide) (fun e => absurd e (by decide))) ?_
        exact rfl
       ·as_aux_lemma =>
        intro vs L W hS hL cl hdl hdep K hK; have d0 := hdep ⟨3, .data⟩ (by simp) rfl; simp only [PhiXb] at d0; have d1 := hdep ⟨7, .data⟩ (by simp) rfl; simp only [PhiXb] at d1; have d2 := hdep ⟨11, .data⟩ (by simp) rfl; simp only [PhiXb] at d2; refine ⟨?_⟩; simp only [Act.put, sA, sB, sC, Nat.zero_add, Nat.reduceAdd, d0, d1, d2] at hK ⊢; go_simp; refine (rexpect_F _ _ b' q rows' z _ (hpi.below hS.be) (hqv.below hS.be)).mono ?_; rintro e w' ⟨v, rfl, hn, hb⟩; go_wp2_with fail; with_reducible refine hK _ _ (RT.below hb hS.be.size) (hS.step hb 12 _ (by decide) (fun e => absurd e (by decide))) ?_
        exact ⟨v, rfl, hn⟩
       ·as_aux_lemma =>
        intro vs L W hS hL cl hdl hdep K hK; have d0 := hdep ⟨12, .data⟩ (by simp) rfl; simp only [PhiXb] at d0; refine @exE1 _ _ _ d0 ?_; clear d0; intro v0 d0; have e0 := d0.1; have n0 := d0.2; clear d0; refine ⟨?_⟩; simp only [Act.put, sA, sB, sC, Nat.zero_add, Nat.reduceAdd, e0] at hK ⊢; go_simp; with_reducible refine hK _ _ (RT.refl _ _) (hS.step (Below.refl _ _) 13 _ (by decide) (fun e => absurd e (by decide))) ?_
        exact ⟨_, rfl, n0⟩
       ·as_aux_lemma =>
        intro vs L W hS hL cl hdl hdep K hK; have d0 := hdep ⟨13, .data⟩ (by simp) rfl; simp only [PhiXb] at d0; refine @exE1 _ _ _ d0 ?_; clear d0; intro v0 d0; have e0 := d0.1; have n0 := d0.2; clear d0
        have h17 : L 17 = false := by
         cases h : L 17 with
         | false => rfl
         | true => exact absurd (cl 17 _ rfl h ⟨14, .data⟩ (by simp) rfl) (by rw [hL]; decide)
        obtain ⟨A, k, c, A', k', c', rfl⟩ := n0.shape; refine ⟨?_⟩; simp only [Act.put, sA, sB, sC, Nat.zero_add, Nat.reduceAdd, e0] at hK ⊢; go_simp; with_reducible refine hK _ _ (RT.refl _ _) (hS.step (Below.refl _ _) 14 _ (by decide) (fun _ => h17)) ?_
        exact ⟨_, _, _, _, _, _, rfl, n0⟩
       ·as_aux_lemma =>
        intro vs L W hS hL cl hdl hdep K hK; have d0 := hdep ⟨13, .data⟩ (by simp) rfl; simp only [PhiXb] at d0; refine @exE1 _ _ _ d0 ?_; clear d0; intro v0 d0; have e0 := d0.1; have n0 := d0.2; clear d0; refine ⟨?_⟩; simp only [Act.put, sA, sB, sC, Nat.zero_add, Nat.reduceAdd, e0] at hK ⊢; go_simp; with_reducible refine hK _ _ (RT.refl _ _) (hS.step (Below.refl _ _) 15 _ (by decide) (fun e => absurd e (by decide))) ?_
        exact rfl
       ·as_aux_lemma =>
        intro vs L W hS hL cl hdl hdep K hK
        have h17 : L 17 = false := by
         cases h : L 17 with
         | false => rfl
         | true => exact absurd (cl 17 _ rfl h ⟨16, .data⟩ (by simp) rfl) (by rw [hL]; decide)
        refine ⟨?_⟩; simp only [Act.put, sA, sB, sC, Nat.zero_add, Nat.reduceAdd] at hK ⊢; go_simp; with_reducible refine hK _ _ (RT.below (bA _ _) hS.be.size) (hS.step (bA _ _) 16 _ (by decide) (fun _ => h17)) ?_
        exact ⟨_, rfl, hS.be.size, none, 0, 0, none, 0, 0, Blk.new _ _ _⟩
       ·as_aux_lemma =>
        intro vs L W hS hL cl hdl hdep K hK; have d0 := hdep ⟨16, .data⟩ (by simp) rfl; simp only [PhiXb] at d0; refine @exE1 _ _ _ d0 ?_; clear d0; intro g0 d0; have e0 := d0.1; have l0 := d0.2.1; have s0 := d0.2.2; clear d0; have d1 := hdep ⟨14, .data⟩ (by simp) rfl; simp only [PhiXb] at d1; refine @exE6 _ _ _ _ _ _ _ _ d1 ?_; clear d1; intro A1 k1 c1 B1 m1 d1 d1; have e1 := d1.1; have n1 := d1.2; clear d1; obtain ⟨⟨a1, q1⟩, ⟨a2, q2⟩, q3, q4⟩ := s0.facts; refine ⟨?_⟩; simp only [Act.put, sA, sB, sC, Nat.zero_add, Nat.reduceAdd, e0, e1] at hK ⊢; go_simp; with_reducible refine hK undef _ (RT.store s0 l0 _ _ _ _ _ _) (hS.stored e0 e1 l0 s0 (by decide) (by decide) _) ?_
        exact trivial
       ·as_aux_lemma =>
        intro vs L W hS hL cl hdl hdep K hK; have d0 := hdep ⟨15, .data⟩ (by simp) rfl; simp only [PhiXb] at d0; refine ⟨?_⟩; simp only [Act.put, sA, sB, sC, Nat.zero_add, Nat.reduceAdd, d0] at hK ⊢; go_simp; with_reducible refine hK _ _ (RT.refl _ _) (hS.step (Below.refl _ _) 18 _ (by decide) (fun e => absurd e (by decide))) ?_
        exact rfl
      intro vs L w8 hS hall hv; have v18 := hv 18 (by simp); have v8 := hv 14 (by simp); simp only [PhiXb] at v18 v8; obtain ⟨_, _, _, _, _, _, e8', ho⟩ := v8; obtain ⟨g, A9r, k9r, c9r, B9r, m9r, d9r, e10, e8, hgN, hblk⟩ := hS.st (hall 17 (by simp)); rw [e8] at e8'; rw [← e8'] at ho; have HO := Lib.hid ho; have hbx := hS.be; clear hv hS hall e8' ho; simp only [Act.put, sA, sB, sC, Nat.zero_add, Nat.reduceAdd, v18, e10, e8]; have hy := HO.out; rw [← HXX.out] at hy; have G0 := hblk.cell 0; have G1 := hblk.cell 1; simp only [List.getElem?_toArray, List.getElem?_cons_zero, List.getElem?_cons_succ] at G0 G1; rw [← HE.out]; have hx := hx.below hbx; have F0 := cell_keep hbx F0; have F1 := cell_keep hbx F1; have hbe7 := Below.tr hbe6 hbx; have tE : (E != E) = false := by simp
      clear HO hblk hgN hbx c1 c2 c3 g1 g2 hci hpi hqv; go_wp2_with fail; refine (rsame_F _ _ _ _ hx hy).mono ?_; rintro e w9 ⟨rfl, hb9⟩; have hbe9 := Below.tr hbe7 hb9; clear hx hy F0 F1 G0 G1 hb9; go_wp2_with fail
      go_roundg (G2 - 1)
      case measure => omega
      case rel => exact ⟨j + 1, by go_num, by omega, hbe9⟩
    ·have t2 : decide ((j : Int) < 3) = false := by simp; omega
     go_wp2_with fail
     go_roundg (G - 1)
     case measure => omega
     case rel => exact ⟨i + 1, by go_num, by omega, hbx0⟩
  ·have t1 : decide ((i : Int) < 2) = false := by simp; omega
   have hbw := Below.tr hbw hbo; go_wp2_with fail; refine (lives17_n _).mono ?_; rintro e w' ⟨rfl, hb⟩; go_wp2_with fail; go_ret; exact ⟨rfl, Below.tr hbw hb⟩
end Go.Proofs.YtnjjdiilkhdbeaaGreat
