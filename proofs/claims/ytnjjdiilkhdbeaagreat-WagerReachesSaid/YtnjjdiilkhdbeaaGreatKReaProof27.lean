import Derived.Test.YtnjjdiilkhdbeaaGreatKReaProof21
import Derived.Test.YtnjjdiilkhdbeaaGreatS0
set_option linter.unusedVariables false
set_option linter.unusedSimpArgs false
namespace Go.Proofs.YtnjjdiilkhdbeaaGreat
open Go Go.RowKit
theorem rorder_s (va vb : Value) (a b : LP) (w : World) (ha : RtP w va a) (hb : RtP w vb b) (va0 : validP a = 0) (vb0 : validP b = 0) :
  Calls Tryz.prog 78 #[va, vb] w fun e w' => ∃ cc, e = .returned (.int .i64 cc) ∧ decide (cc ≤ 0) = atB a b ∧ decide (0 ≤ cc) = atB b a ∧ Below w.heap.size w w' := by
 obtain ⟨pa, qa, rfl, ga, ra⟩ := ha.good va0; obtain ⟨pb, qb, rfl, gb, rb⟩ := hb.good vb0; refine (rorder_n va vb pa qa pb qb w ra rb ga gb).mono ?_; rintro e w' ⟨cc, rfl, hc, hb⟩; refine ⟨cc, rfl, ?_, ?_, hb⟩
 ·unfold atB; rw [cmpV_rat ga gb, hc.out]
 ·unfold atB; rw [cmpV_rat gb ga, hc.out, decide_eq_decide]; unfold Nm.cmpN
  split <;> split <;> (try split) <;> omega
theorem stakeF_ok (b s : LP) (bad : Bool) : okP (stakeF b s bad) := by
 unfold stakeF
 split
 ·exact addV_ok _ _
 ·exact subV_ok _ _
theorem mixV_valid (q a b : LP) : validP (mixV q a b) = 0 := addV_valid (mulV_ok _ _) (mulV_ok _ _)
theorem worstV_valid (q a b : LP) (hb : validP b = 0) : validP (worstV q a b) = 0 := by
 unfold worstV
 split
 ·exact mixV_valid _ _ _
 ·exact hb
theorem reachV_valid {ch : LP → LP → LP} (hch : ∀ a b, validP b = 0 → validP (ch a b) = 0) (b : LP) (rows : List (List LP)) (level : LP) : ∀ d m k c, validP (reachV ch b rows level d m k c) = 0 := by
 intro d
 induction d with
 | zero =>
  intro m k c; rw [reachV]
  split
  ·exact valid_one
  ·exact valid_nilP
 | succ d ih =>
  intro m k c; rw [reachV]
  split
  ·exact valid_one
  ·exact hch _ _ (ih _ _ _)
/-- how the reference combines two measures -/
noncomputable def chV (hard : Bool) (q : LP) : LP → LP → LP := if hard then worstV q else mixV q
theorem chV_valid (hard : Bool) (q a b : LP) (hb : validP b = 0) : validP (chV hard q a b) = 0 := by
 unfold chV
 cases hard
 ·exact mixV_valid _ _ _
 ·exact worstV_valid _ _ _ hb
def PhiR6 (gp m k n kS cS : Nat) (S : Option Addr) (hard : Bool) (q1 q2 c1 c2 s1 s2 l1 l2 x1 x2 : Value) (q c s b level : LP) (xb xg : LP → LP) (B : Nat) (j : Nat) (w : World) (x : Value) : Prop :=
 match j with
 | 0 => x = .agg #[x1, x2, .slice S kS cS]
 | 1 => x = .agg #[q1, q2]
 | 2 => x = .bool hard
 | 3 => x = .int .i64 (m : Int)
 | 4 => x = .int .i64 ((m : Int) + 1)
 | 5 => x = .int .i64 (k : Int)
 | 6 => x = .int .i64 ((k : Int) + 1)
 | 7 => x = .int .i64 (n : Int)
 | 8 => x = .agg #[c1, c2]
 | 9 => x = .agg #[s1, s2]
 | 10 => x = .pointer (some ⟨gp, 0, none⟩)
 | 11 => x = .agg #[x1, x2]
 | 12 => RtP w x (stakeF b s true)
 | 13 => RtP w x (mulV c (stakeF b s true))
 | 14 => x = .agg #[l1, l2]
 | 15 => ∃ Y1 y2 y3 Y4 y5 y6, x = .agg #[.slice Y1 y2 y3, .slice Y4 y5 y6] ∧ RtP w (.agg #[.slice Y1 y2 y3, .slice Y4 y5 y6]) (xb (mulV c (stakeF b s true)))
 | 16 => ∃ g, x = .pointer (some ⟨g, 0, none⟩) ∧ B ≤ g ∧ Sl w g
 | 17 => True
 | _ => True
theorem PhiR6.keep {gp m k n kS cS : Nat} {S : Option Addr} {hard : Bool} {q1 q2 c1 c2 s1 s2 l1 l2 x1 x2 : Value} {q c s b level : LP} {xb xg : LP → LP} {B : Nat} : ∀ (w w' : World), RT B w w' → ∀ j x, PhiR6 gp m k n kS cS S hard q1 q2 c1 c2 s1 s2 l1 l2 x1 x2 q c s b level xb xg B j w x → PhiR6 gp m k n kS cS S hard q1 q2 c1 c2 s1 s2 l1 l2 x1 x2 q c s b level xb xg B j w' x := by
 intro w w' hr j x h; unfold PhiR6 at h ⊢
 split <;> simp only at h ⊢
 all_goals first
  | exact h
  | exact h.mapL hr.lim
  | (obtain ⟨v, er, e, h⟩ := h; exact ⟨v, er, e, h.mapL hr.lim⟩)
  | (obtain ⟨A, k, c, A', k', c', e, h⟩ := h; exact ⟨A, k, c, A', k', c', e, h.mapL hr.lim⟩)
  | (obtain ⟨g, e, h1, h2⟩ := h; exact ⟨g, e, h1, hr.sl g h2⟩)
def PhiR7 (gp m k n kS cS : Nat) (S : Option Addr) (hard : Bool) (q1 q2 c1 c2 s1 s2 l1 l2 x1 x2 : Value) (q c s b level : LP) (xb xg : LP → LP) (B : Nat) (j : Nat) (w : World) (x : Value) : Prop :=
 match j with
 | 0 => x = .agg #[x1, x2, .slice S kS cS]
 | 1 => x = .agg #[q1, q2]
 | 2 => x = .bool hard
 | 3 => x = .int .i64 (m : Int)
 | 4 => x = .int .i64 ((m : Int) + 1)
 | 5 => x = .int .i64 (k : Int)
 | 6 => x = .int .i64 (n : Int)
 | 7 => x = .agg #[c1, c2]
 | 8 => x = .agg #[s1, s2]
 | 9 => x = .pointer (some ⟨gp, 0, none⟩)
 | 10 => x = .agg #[x1, x2]
 | 11 => RtP w x (stakeF b s false)
 | 12 => RtP w x (mulV c (stakeF b s false))
 | 13 => x = .agg #[l1, l2]
 | 14 => ∃ Y1 y2 y3 Y4 y5 y6, x = .agg #[.slice Y1 y2 y3, .slice Y4 y5 y6] ∧ RtP w (.agg #[.slice Y1 y2 y3, .slice Y4 y5 y6]) (xg (mulV c (stakeF b s false)))
 | 15 => ∃ g, x = .pointer (some ⟨g, 0, none⟩) ∧ B ≤ g ∧ Sl w g
 | 16 => True
 | _ => True
theorem PhiR7.keep {gp m k n kS cS : Nat} {S : Option Addr} {hard : Bool} {q1 q2 c1 c2 s1 s2 l1 l2 x1 x2 : Value} {q c s b level : LP} {xb xg : LP → LP} {B : Nat} : ∀ (w w' : World), RT B w w' → ∀ j x, PhiR7 gp m k n kS cS S hard q1 q2 c1 c2 s1 s2 l1 l2 x1 x2 q c s b level xb xg B j w x → PhiR7 gp m k n kS cS S hard q1 q2 c1 c2 s1 s2 l1 l2 x1 x2 q c s b level xb xg B j w' x := by
 intro w w' hr j x h; unfold PhiR7 at h ⊢
 split <;> simp only at h ⊢
 all_goals first
  | exact h
  | exact h.mapL hr.lim
  | (obtain ⟨v, er, e, h⟩ := h; exact ⟨v, er, e, h.mapL hr.lim⟩)
  | (obtain ⟨A, k, c, A', k', c', e, h⟩ := h; exact ⟨A, k, c, A', k', c', e, h.mapL hr.lim⟩)
  | (obtain ⟨g, e, h1, h2⟩ := h; exact ⟨g, e, h1, hr.sl g h2⟩)
def PhiR8 (q1 q2 a1 a2 g1 g2 : Value) (q a gg : LP) (B : Nat) (j : Nat) (w : World) (x : Value) : Prop :=
 match j with
 | 0 => x = .agg #[q1, q2]
 | 1 => x = .agg #[a1, a2]
 | 2 => RtP w x (mulV q a)
 | 3 => x = .agg #[q1, q2]
 | 4 => RtP w x (subV oneP q)
 | 5 => x = .agg #[g1, g2]
 | 6 => RtP w x (mulV (subV oneP q) gg)
 | 7 => ∃ Y1 y2 y3 Y4 y5 y6, x = .agg #[.slice Y1 y2 y3, .slice Y4 y5 y6] ∧ RtP w (.agg #[.slice Y1 y2 y3, .slice Y4 y5 y6]) (addV (mulV q a) (mulV (subV oneP q) gg))
 | 8 => ∃ g, x = .pointer (some ⟨g, 0, none⟩) ∧ B ≤ g ∧ Sl w g
 | 9 => True
 | _ => True
theorem PhiR8.keep {q1 q2 a1 a2 g1 g2 : Value} {q a gg : LP} {B : Nat} : ∀ (w w' : World), RT B w w' → ∀ j x, PhiR8 q1 q2 a1 a2 g1 g2 q a gg B j w x → PhiR8 q1 q2 a1 a2 g1 g2 q a gg B j w' x := by
 intro w w' hr j x h; unfold PhiR8 at h ⊢
 split <;> simp only at h ⊢
 all_goals first
  | exact h
  | exact h.mapL hr.lim
  | (obtain ⟨v, er, e, h⟩ := h; exact ⟨v, er, e, h.mapL hr.lim⟩)
  | (obtain ⟨A, k, c, A', k', c', e, h⟩ := h; exact ⟨A, k, c, A', k', c', e, h.mapL hr.lim⟩)
  | (obtain ⟨g, e, h1, h2⟩ := h; exact ⟨g, e, h1, hr.sl g h2⟩)
set_option maxRecDepth 100000 in
set_option maxHeartbeats 8000000 in
theorem rreach_cl (x1 x2 : Value) (S : Option Addr) (kS cS n : Nat) (hard : Bool) (Q1 : Option Addr) (qk1 qc1 : Nat) (Q2 : Option Addr) (qk2 qc2 : Nat) (L1 : Option Addr) (lk1 lc1 : Nat) (L2 : Option Addr) (lk2 lc2 : Nat) (b q level : LP) (rows : List (List LP)) (hn : n ≤ 10) (h0 : planE b rows = 0) (hvl : validP level = 0) :
  ∀ (d m k : Nat) (vc : Value) (c : LP) (w : World), m + d = n → k ≤ m → PlanV w (.agg #[x1, x2, .slice S kS cS]) b rows → RtP w (.agg #[.slice Q1 qk1 qc1, .slice Q2 qk2 qc2]) q → RtP w (.agg #[.slice L1 lk1 lc1, .slice L2 lk2 lc2]) level → RtP w vc c → validP c = 0 →
  Calls Tryz.prog 56 #[.agg #[x1, x2, .slice S kS cS], .agg #[.slice Q1 qk1 qc1, .slice Q2 qk2 qc2], .bool hard, .int .i64 (m : Int), .int .i64 (k : Int), .int .i64 (n : Int), vc, .agg #[.slice L1 lk1 lc1, .slice L2 lk2 lc2]] w fun e w' => ∃ v, e = .returned v ∧ RtP w' v (reachV (chV hard q) b rows level d m k c) ∧ Below w.heap.size w w' := by
 intro d
 induction d with
 | zero =>
  intro m k vc c w hmd hkm hpl hqv hlv hcv hvc; obtain ⟨C1, ck1, cc1, C2, ck2, cc2, rfl⟩ := hcv.shape; obtain ⟨fv, HFV⟩ : ∃ f, Hid (f = reachV (chV hard q) b rows level 0 m k c) := ⟨_, rfl⟩; rw [← HFV.out]; have t3 : decide ((m : Int) ≥ (n : Int)) = true := by simp; omega
  have hbd : RtP w (.agg #[x1, x2]) b := by
   obtain ⟨y1, y2, S', kS', cS', e, h, _⟩ := hpl; simp only [Value.agg.injEq, Array.mk.injEq, List.cons.injEq, and_true] at e; obtain ⟨rfl, rfl, _⟩ := e; exact h
  go_enter Tryz.func56, Tryz.ntmps56
  go_upto_region 1 with fail; refine wp_name ?_; intro w1 HW1; have hb1 : Below w.heap.size w w1 := by rw [HW1.out]; exact (Below.tr (Below.tr (Below.tr (Below.tr (bA _ _) (bA _ _)) (bA _ _)) (bA _ _)) (bA _ _))
  have hB1 : Blk w1 w.heap.size 28 #[x1, x2, .slice S kS cS] := by rw [HW1.out]; exact Blk.below (Blk.newG rfl) (Below.tr (Below.tr (Below.tr (bA _ _) (bA _ _)) (bA _ _)) (bA _ _)) (Blk.newG rfl).lt
  have hB2 : Blk w1 (w.heap.size + 1) 25 #[.slice Q1 qk1 qc1, .slice Q2 qk2 qc2] := by rw [HW1.out]; exact Blk.below (Blk.newG (by simp)) (Below.tr (Below.tr (bA _ _) (bA _ _)) (bA _ _)) (by simp)
  have hB3 : Blk w1 (w.heap.size + 1 + 1) 25 #[.slice C1 ck1 cc1, .slice C2 ck2 cc2] := by rw [HW1.out]; exact Blk.below (Blk.newG (by simp)) (Below.tr (bA _ _) (bA _ _)) (by simp)
  have hB4 : Blk w1 (w.heap.size + 1 + 1 + 1) 25 #[.slice L1 lk1 lc1, .slice L2 lk2 lc2] := by rw [HW1.out]; exact Blk.below (Blk.newG (by simp)) (bA _ _) (by simp)
  have hs1 : Sl w1 (w.heap.size + 1 + 1 + 1 + 1) := by rw [HW1.out]; exact ⟨none, 0, 0, none, 0, 0, Blk.newG (by simp)⟩
  clear HW1; obtain ⟨gp, hgp⟩ : ∃ g, Hid (g = w.heap.size) := ⟨_, rfl⟩; obtain ⟨gq, hgq⟩ : ∃ g, Hid (g = w.heap.size + 1) := ⟨_, rfl⟩; obtain ⟨gc, hgc⟩ : ∃ g, Hid (g = w.heap.size + 1 + 1) := ⟨_, rfl⟩; obtain ⟨gl, hgl⟩ : ∃ g, Hid (g = w.heap.size + 1 + 1 + 1) := ⟨_, rfl⟩; obtain ⟨gr, hgrr⟩ : ∃ g, Hid (g = w.heap.size + 1 + 1 + 1 + 1) := ⟨_, rfl⟩; have hgr : w.heap.size ≤ gr := by have := hgrr.out; omega
  rw [← hgrr.out] at hs1 ⊢; rw [← hgl.out] at hB4 ⊢; rw [← hgc.out] at hB3 ⊢; rw [← hgq.out] at hB2 ⊢; rw [← hgp.out] at hB1 ⊢; have hpl := hpl.below hb1; have hlv := hlv.below hb1; have hqv := hqv.below hb1; have hcv := hcv.below hb1; have hbdv := hbd.below hb1; have p0 := hB1.cell 0; have p1 := hB1.cell 1; have p2 := hB1.cell 2; have q0 := hB2.cell 0; have q1 := hB2.cell 1; have k0 := hB3.cell 0; have k1 := hB3.cell 1; have l0 := hB4.cell 0; have l1 := hB4.cell 1; simp only [List.getElem?_toArray, List.getElem?_cons_zero, List.getElem?_cons_succ] at p0 p1 p2 l0 l1 q0 q1 k0 k1; clear hgp hgl hgrr hB1 hB3 hgq hB2 hB4 hgc hbd; go_wp2_with fail; refine (rorder_s _ _ c level _ hcv hlv hvc hvl).mono ?_; rintro e w2 ⟨cc, rfl, _, hcc, hb2⟩; have hbw2 := Below.tr hb1 hb2; have hs2 := hs1.below hb2; have p0 := cell_keep hb2 p0; have p1 := cell_keep hb2 p1; have p2 := cell_keep hb2 p2; have q0 := cell_keep hb2 q0; have q1 := cell_keep hb2 q1; have k0 := cell_keep hb2 k0; have k1 := cell_keep hb2 k1; have l0 := cell_keep hb2 l0; have l1 := cell_keep hb2 l1; have hpl := hpl.below hb2; have hqv := hqv.below hb2; have hlv := hlv.below hb2; have hcv := hcv.below hb2; have hbdv := hbdv.below hb2; clear hs1 hb1 hb2
  cases hat : atB level c
  ·have HF : Hid (fv = nilP) := by
    show _ = _
    rw [HFV.out, reachV, hat]; rfl
   have t1 : decide (cc ≥ 0) = false := by rw [hat] at hcc; exact hcc
   clear hat hcc HFV p0 p1 p2 q0 q1 k0 k1 l0 l1 hpl hlv hqv hcv hbdv; obtain ⟨A', k', c', A'', k'', c'', he, ⟨a1, e1⟩, ⟨a2, e2⟩, e3, e4, z1, z2, hr, hbz⟩ := ret_ratio (w0 := w) (nil_rtP w2) hs2 hgr hbw2; simp only [nilRat, Value.agg.injEq, Array.mk.injEq, List.cons.injEq, and_true, Value.slice.injEq] at he; obtain ⟨⟨rfl, rfl, rfl⟩, rfl, rfl, rfl⟩ := he; go_wp2_with fail; exact bodyPost_ret (v := .agg #[.slice none 0 0, .slice none 0 0]) (by simp [results, Tryz.results56, go_sem, z1, z2]) rfl ⟨_, rfl, by rw [HF.out]; exact hr, hbz⟩
  ·have HF : Hid (fv = oneP) := by
    show _ = _
    rw [HFV.out, reachV, hat]; rfl
   have t1 : decide (cc ≥ 0) = true := by rw [hat] at hcc; exact hcc
   clear hat hcc HFV p0 p1 p2 q0 q1 k0 k1 l0 l1 hpl hlv hqv hcv hbdv; go_wp2_with fail; refine (rone17_F _).mono ?_; rintro e w3 ⟨v, rfl, hv, hb3⟩; obtain ⟨A, k', c, A', k'', c'', rfl, ⟨a1, r1⟩, ⟨a2, r2⟩, r3, r4, z1, z2, hr, hbz⟩ := ret_ratio (w0 := w) hv (hs2.below hb3) hgr (Below.tr hbw2 hb3); go_wp2_with fail; exact bodyPost_ret (v := .agg #[.slice A k' c, .slice A' k'' c'']) (by simp [results, Tryz.results56, go_sem, z1, z2]) rfl ⟨_, rfl, by rw [HF.out]; exact hr, hbz⟩
 | succ d ih =>
  intro m k vc c w hmd hkm hpl hqv hlv hcv hvc; obtain ⟨C1, ck1, cc1, C2, ck2, cc2, rfl⟩ := hcv.shape; obtain ⟨fv, HFV⟩ : ∃ f, Hid (f = reachV (chV hard q) b rows level (d + 1) m k c) := ⟨_, rfl⟩; rw [← HFV.out]; have t3 : decide ((m : Int) ≥ (n : Int)) = false := by simp; omega
  have hm10 : m ≤ 10 := by omega
  have hk10 : k ≤ 10 := by omega
  have hbd : RtP w (.agg #[x1, x2]) b := by
   obtain ⟨y1, y2, S', kS', cS', e, h, _⟩ := hpl; simp only [Value.agg.injEq, Array.mk.injEq, List.cons.injEq, and_true] at e; obtain ⟨rfl, rfl, _⟩ := e; exact h
  have HOC := Lib.hid hcv.ok; have HSF := Lib.hid (fun bb => stake_factor hbd.ok h0 hkm bb); have IHb : ∀ W vc c, PlanV W (.agg #[x1, x2, .slice S kS cS]) b rows → RtP W (.agg #[.slice Q1 qk1 qc1, .slice Q2 qk2 qc2]) q → RtP W (.agg #[.slice L1 lk1 lc1, .slice L2 lk2 lc2]) level → RtP W vc c → validP c = 0 → Calls Tryz.prog 56 #[.agg #[x1, x2, .slice S kS cS], .agg #[.slice Q1 qk1 qc1, .slice Q2 qk2 qc2], .bool hard, .int .i64 ((m : Int) + 1), .int .i64 ((k : Int) + 1), .int .i64 (n : Int), vc, .agg #[.slice L1 lk1 lc1, .slice L2 lk2 lc2]] W fun e w' => ∃ v, e = .returned v ∧ RtP w' v ((reachV (chV hard q) b rows level d (m + 1) (k + 1)) c) ∧ Below W.heap.size W w' := fun W vc c h1 h2 h3 h4 h5 => ih (m + 1) (k + 1) vc c W (by omega) (by omega) h1 h2 h3 h4 h5
  have IHg : ∀ W vc c, PlanV W (.agg #[x1, x2, .slice S kS cS]) b rows → RtP W (.agg #[.slice Q1 qk1 qc1, .slice Q2 qk2 qc2]) q → RtP W (.agg #[.slice L1 lk1 lc1, .slice L2 lk2 lc2]) level → RtP W vc c → validP c = 0 → Calls Tryz.prog 56 #[.agg #[x1, x2, .slice S kS cS], .agg #[.slice Q1 qk1 qc1, .slice Q2 qk2 qc2], .bool hard, .int .i64 ((m : Int) + 1), .int .i64 (k : Int), .int .i64 (n : Int), vc, .agg #[.slice L1 lk1 lc1, .slice L2 lk2 lc2]] W fun e w' => ∃ v, e = .returned v ∧ RtP w' v ((reachV (chV hard q) b rows level d (m + 1) k) c) ∧ Below W.heap.size W w' := fun W vc c h1 h2 h3 h4 h5 => ih (m + 1) k vc c W (by omega) (by omega) h1 h2 h3 h4 h5
  clear ih
  go_enter Tryz.func56, Tryz.ntmps56
  go_upto_region 1 with fail; refine wp_name ?_; intro w1 HW1; have hb1 : Below w.heap.size w w1 := by rw [HW1.out]; exact (Below.tr (Below.tr (Below.tr (Below.tr (bA _ _) (bA _ _)) (bA _ _)) (bA _ _)) (bA _ _))
  have hB1 : Blk w1 w.heap.size 28 #[x1, x2, .slice S kS cS] := by rw [HW1.out]; exact Blk.below (Blk.newG rfl) (Below.tr (Below.tr (Below.tr (bA _ _) (bA _ _)) (bA _ _)) (bA _ _)) (Blk.newG rfl).lt
  have hB2 : Blk w1 (w.heap.size + 1) 25 #[.slice Q1 qk1 qc1, .slice Q2 qk2 qc2] := by rw [HW1.out]; exact Blk.below (Blk.newG (by simp)) (Below.tr (Below.tr (bA _ _) (bA _ _)) (bA _ _)) (by simp)
  have hB3 : Blk w1 (w.heap.size + 1 + 1) 25 #[.slice C1 ck1 cc1, .slice C2 ck2 cc2] := by rw [HW1.out]; exact Blk.below (Blk.newG (by simp)) (Below.tr (bA _ _) (bA _ _)) (by simp)
  have hB4 : Blk w1 (w.heap.size + 1 + 1 + 1) 25 #[.slice L1 lk1 lc1, .slice L2 lk2 lc2] := by rw [HW1.out]; exact Blk.below (Blk.newG (by simp)) (bA _ _) (by simp)
  have hs1 : Sl w1 (w.heap.size + 1 + 1 + 1 + 1) := by rw [HW1.out]; exact ⟨none, 0, 0, none, 0, 0, Blk.newG (by simp)⟩
  clear HW1; obtain ⟨gp, hgp⟩ : ∃ g, Hid (g = w.heap.size) := ⟨_, rfl⟩; obtain ⟨gq, hgq⟩ : ∃ g, Hid (g = w.heap.size + 1) := ⟨_, rfl⟩; obtain ⟨gc, hgc⟩ : ∃ g, Hid (g = w.heap.size + 1 + 1) := ⟨_, rfl⟩; obtain ⟨gl, hgl⟩ : ∃ g, Hid (g = w.heap.size + 1 + 1 + 1) := ⟨_, rfl⟩; obtain ⟨gr, hgrr⟩ : ∃ g, Hid (g = w.heap.size + 1 + 1 + 1 + 1) := ⟨_, rfl⟩; have hgr : w.heap.size ≤ gr := by have := hgrr.out; omega
  rw [← hgrr.out] at hs1 ⊢; rw [← hgl.out] at hB4 ⊢; rw [← hgc.out] at hB3 ⊢; rw [← hgq.out] at hB2 ⊢; rw [← hgp.out] at hB1 ⊢; have hpl := hpl.below hb1; have hlv := hlv.below hb1; have hqv := hqv.below hb1; have hcv := hcv.below hb1; have hbdv := hbd.below hb1; have p0 := hB1.cell 0; have p1 := hB1.cell 1; have p2 := hB1.cell 2; have q0 := hB2.cell 0; have q1 := hB2.cell 1; have k0 := hB3.cell 0; have k1 := hB3.cell 1; have l0 := hB4.cell 0; have l1 := hB4.cell 1; simp only [List.getElem?_toArray, List.getElem?_cons_zero, List.getElem?_cons_succ] at p0 p1 p2 l0 l1 q0 q1 k0 k1; clear hgp hgl hgrr hB1 hB3 hgq hB2 hB4 hgc hbd; go_wp2_with fail; refine (rorder_s _ _ c level _ hcv hlv hvc hvl).mono ?_; rintro e w2 ⟨cc, rfl, _, hcc, hb2⟩; have hbw2 := Below.tr hb1 hb2; have hs2 := hs1.below hb2; have p0 := cell_keep hb2 p0; have p1 := cell_keep hb2 p1; have p2 := cell_keep hb2 p2; have q0 := cell_keep hb2 q0; have q1 := cell_keep hb2 q1; have k0 := cell_keep hb2 k0; have k1 := cell_keep hb2 k1; have l0 := cell_keep hb2 l0; have l1 := cell_keep hb2 l1; have hpl := hpl.below hb2; have hqv := hqv.below hb2; have hlv := hlv.below hb2; have hcv := hcv.below hb2; have hbdv := hbdv.below hb2; clear hs1 hb1 hb2
  cases hat : atB level c
  ·have HF0 : Hid (fv = chV hard q ((reachV (chV hard q) b rows level d (m + 1) (k + 1)) (mulV c (stakeF b (stakeV rows m k) true))) ((reachV (chV hard q) b rows level d (m + 1) k) (mulV c (stakeF b (stakeV rows m k) false)))) := by
    show _ = _
    rw [HFV.out, reachV, hat, HSF.out, HSF.out]; rfl
   have t1 : decide (cc ≥ 0) = false := by rw [hat] at hcc; exact hcc
   clear hat hcc HFV; go_wp2_with fail; refine (rstake_F _ b rows m k _ hpl (by omega) (by omega)).mono ?_; rintro e w3 ⟨v, rfl, hv, hb3⟩; obtain ⟨D1, m1, o1, D2, m2, o2, rfl⟩ := hv.shape; go_upto_region 6 with fail; refine wp_name ?_; intro w4 HW4; have hb4 : Below w3.heap.size w3 w4 := by rw [HW4.out]; exact bA _ _
   have hst : Blk w4 w3.heap.size 25 #[.slice D1 m1 o1, .slice D2 m2 o2] := by rw [HW4.out]; exact Blk.new _ _ _
   obtain ⟨gs, hgs⟩ : ∃ g, Hid (g = w3.heap.size) := ⟨_, rfl⟩; rw [← hgs.out] at hst ⊢; have s0 := hst.cell 0; have s1 := hst.cell 1; simp only [List.getElem?_toArray, List.getElem?_cons_zero, List.getElem?_cons_succ] at s0 s1; have hsv := hv.below hb4; have hb34 := Below.tr hb3 hb4; have hbw4 := Below.tr hbw2 hb34; have hs4 := hs2.below hb34; have p0 := cell_keep hb34 p0; have p1 := cell_keep hb34 p1; have p2 := cell_keep hb34 p2; have q0 := cell_keep hb34 q0; have q1 := cell_keep hb34 q1; have k0 := cell_keep hb34 k0; have k1 := cell_keep hb34 k1; have l0 := cell_keep hb34 l0; have l1 := cell_keep hb34 l1; have hpl := hpl.below hb34; have hqv := hqv.below hb34; have hlv := hlv.below hb34; have hcv := hcv.below hb34; have hbdv := hbdv.below hb34; clear hv hst HW4 hgs hb3 hb4 hb34 hbw2 hs2; refine region_invW (PhiR6 gp m k n kS cS S hard (.slice Q1 qk1 qc1) (.slice Q2 qk2 qc2) (.slice C1 ck1 cc1) (.slice C2 ck2 cc2) (.slice D1 m1 o1) (.slice D2 m2 o2) (.slice L1 lk1 lc1) (.slice L2 lk2 lc2) x1 x2 q c (stakeV rows m k) b level (reachV (chV hard q) b rows level d (m + 1) (k + 1)) (reachV (chV hard q) b rows level d (m + 1) k) w4.heap.size) (RT w4.heap.size) (SD w4 15 16 17) (by kernel_rfl) (by kernel_rfl) (by kernel_rfl) PhiR6.keep (SD.start _ _ _ _ _) (fun vs => by simp only [fillR, Act.put, sA, sB, sC, Nat.zero_add, Nat.reduceAdd]; rfl) ?_ ?_
   ·refine sK ?_ (sK ?_ (sK ?_ (sK ?_ (sK ?_ (sK ?_ (sK ?_ (sK ?_ (sK ?_ (sK ?_ (sK ?_ (sK ?_ (sK ?_ (sK ?_ (sK ?_ (sK ?_ (sK ?_ (sK ?_ (sZ))))))))))))))))))
    ·as_aux_lemma =>
     intro vs L W hS hL cl hdl hdep K hK; have f0 := cell_keep hS.be p0; have f1 := cell_keep hS.be p1; have f2 := cell_keep hS.be p2; refine ⟨?_⟩; simp only [Act.put, sA, sB, sC, Nat.zero_add, Nat.reduceAdd] at hK ⊢; go_simp; with_reducible refine hK _ _ (RT.refl _ _) (hS.step (Below.refl _ _) 0 _ (by decide) (fun e => absurd e (by decide))) ?_
     exact rfl
    ·as_aux_lemma =>
     intro vs L W hS hL cl hdl hdep K hK; have f1 := cell_keep hS.be q0; have f2 := cell_keep hS.be q1; refine ⟨?_⟩; simp only [Act.put, sA, sB, sC, Nat.zero_add, Nat.reduceAdd] at hK ⊢; go_simp; with_reducible refine hK _ _ (RT.refl _ _) (hS.step (Below.refl _ _) 1 _ (by decide) (fun e => absurd e (by decide))) ?_
     exact rfl
    ·as_aux_lemma =>
     intro vs L W hS hL cl hdl hdep K hK; refine ⟨?_⟩; simp only [Act.put, sA, sB, sC, Nat.zero_add, Nat.reduceAdd] at hK ⊢; go_simp; with_reducible refine hK _ _ (RT.refl _ _) (hS.step (Below.refl _ _) 2 _ (by decide) (fun e => absurd e (by decide))) ?_
     exact rfl
    ·as_aux_lemma =>
     intro vs L W hS hL cl hdl hdep K hK; refine ⟨?_⟩; simp only [Act.put, sA, sB, sC, Nat.zero_add, Nat.reduceAdd] at hK ⊢; go_simp; with_reducible refine hK _ _ (RT.refl _ _) (hS.step (Below.refl _ _) 3 _ (by decide) (fun e => absurd e (by decide))) ?_
     exact rfl
    ·as_aux_lemma =>
     intro vs L W hS hL cl hdl hdep K hK; have d0 := hdep ⟨3, .data⟩ (by simp) rfl; simp only [PhiR6] at d0; have sw : IntKind.i64.wrap ((m : Int) + 1) = (m : Int) + 1 := by rw [IntWalk.i64_in _ (by omega)]
     refine ⟨?_⟩; simp only [Act.put, sA, sB, sC, Nat.zero_add, Nat.reduceAdd, d0] at hK ⊢; go_simp; with_reducible refine hK _ _ (RT.refl _ _) (hS.step (Below.refl _ _) 4 _ (by decide) (fun e => absurd e (by decide))) ?_
     exact rfl
    ·as_aux_lemma =>
     intro vs L W hS hL cl hdl hdep K hK; refine ⟨?_⟩; simp only [Act.put, sA, sB, sC, Nat.zero_add, Nat.reduceAdd] at hK ⊢; go_simp; with_reducible refine hK _ _ (RT.refl _ _) (hS.step (Below.refl _ _) 5 _ (by decide) (fun e => absurd e (by decide))) ?_
     exact rfl
    ·as_aux_lemma =>
     intro vs L W hS hL cl hdl hdep K hK; have d0 := hdep ⟨5, .data⟩ (by simp) rfl; simp only [PhiR6] at d0; have sw : IntKind.i64.wrap ((k : Int) + 1) = (k : Int) + 1 := by rw [IntWalk.i64_in _ (by omega)]
     refine ⟨?_⟩; simp only [Act.put, sA, sB, sC, Nat.zero_add, Nat.reduceAdd, d0] at hK ⊢; go_simp; with_reducible refine hK _ _ (RT.refl _ _) (hS.step (Below.refl _ _) 6 _ (by decide) (fun e => absurd e (by decide))) ?_
     exact rfl
    ·as_aux_lemma =>
     intro vs L W hS hL cl hdl hdep K hK; refine ⟨?_⟩; simp only [Act.put, sA, sB, sC, Nat.zero_add, Nat.reduceAdd] at hK ⊢; go_simp; with_reducible refine hK _ _ (RT.refl _ _) (hS.step (Below.refl _ _) 7 _ (by decide) (fun e => absurd e (by decide))) ?_
     exact rfl
    ·as_aux_lemma =>
     intro vs L W hS hL cl hdl hdep K hK; have f1 := cell_keep hS.be k0; have f2 := cell_keep hS.be k1; refine ⟨?_⟩; simp only [Act.put, sA, sB, sC, Nat.zero_add, Nat.reduceAdd] at hK ⊢; go_simp; with_reducible refine hK _ _ (RT.refl _ _) (hS.step (Below.refl _ _) 8 _ (by decide) (fun e => absurd e (by decide))) ?_
     exact rfl
    ·as_aux_lemma =>
     intro vs L W hS hL cl hdl hdep K hK; have f1 := cell_keep hS.be s0; have f2 := cell_keep hS.be s1; refine ⟨?_⟩; simp only [Act.put, sA, sB, sC, Nat.zero_add, Nat.reduceAdd] at hK ⊢; go_simp; with_reducible refine hK _ _ (RT.refl _ _) (hS.step (Below.refl _ _) 9 _ (by decide) (fun e => absurd e (by decide))) ?_
     exact rfl
    ·as_aux_lemma =>
     intro vs L W hS hL cl hdl hdep K hK; refine ⟨?_⟩; simp only [Act.put, sA, sB, sC, Nat.zero_add, Nat.reduceAdd] at hK ⊢; go_simp; with_reducible refine hK _ _ (RT.refl _ _) (hS.step (Below.refl _ _) 10 _ (by decide) (fun e => absurd e (by decide))) ?_
     exact rfl
    ·as_aux_lemma =>
     intro vs L W hS hL cl hdl hdep K hK; have d0 := hdep ⟨10, .data⟩ (by simp) rfl; simp only [PhiR6] at d0; have f1 := cell_keep hS.be p0; have f2 := cell_keep hS.be p1; refine ⟨?_⟩; simp only [Act.put, sA, sB, sC, Nat.zero_add, Nat.reduceAdd, d0] at hK ⊢; go_simp; with_reducible refine hK _ _ (RT.refl _ _) (hS.step (Below.refl _ _) 11 _ (by decide) (fun e => absurd e (by decide))) ?_
     exact rfl
    ·as_aux_lemma =>
     intro vs L W hS hL cl hdl hdep K hK; have d0 := hdep ⟨9, .data⟩ (by simp) rfl; simp only [PhiR6] at d0; have d1 := hdep ⟨11, .data⟩ (by simp) rfl; simp only [PhiR6] at d1; refine ⟨?_⟩; simp only [Act.put, sA, sB, sC, Nat.zero_add, Nat.reduceAdd, d0, d1] at hK ⊢; go_simp; refine (rtimesF_F _ _ (stakeV rows m k) b true _ (hsv.below hS.be) (hbdv.below hS.be)).mono ?_; rintro e w' ⟨v, rfl, hv, hb⟩; go_wp2_with fail; with_reducible refine hK _ _ (RT.below hb hS.be.size) (hS.step hb 12 _ (by decide) (fun e => absurd e (by decide))) ?_
     exact hv
    ·as_aux_lemma =>
     intro vs L W hS hL cl hdl hdep K hK; have d0 := hdep ⟨8, .data⟩ (by simp) rfl; simp only [PhiR6] at d0; have d1 := hdep ⟨12, .data⟩ (by simp) rfl; simp only [PhiR6] at d1; have r1 := d1; clear d1; refine ⟨?_⟩; simp only [Act.put, sA, sB, sC, Nat.zero_add, Nat.reduceAdd, d0] at hK ⊢; go_simp; refine (rtimes17_F _ _ c (stakeF b (stakeV rows m k) true) _ (hcv.below hS.be) r1).mono ?_; rintro e w' ⟨v, rfl, hv, hb⟩; go_wp2_with fail; with_reducible refine hK _ _ (RT.below hb hS.be.size) (hS.step hb 13 _ (by decide) (fun e => absurd e (by decide))) ?_
     exact hv
    ·as_aux_lemma =>
     intro vs L W hS hL cl hdl hdep K hK; have f1 := cell_keep hS.be l0; have f2 := cell_keep hS.be l1; refine ⟨?_⟩; simp only [Act.put, sA, sB, sC, Nat.zero_add, Nat.reduceAdd] at hK ⊢; go_simp; with_reducible refine hK _ _ (RT.refl _ _) (hS.step (Below.refl _ _) 14 _ (by decide) (fun e => absurd e (by decide))) ?_
     exact rfl
    ·as_aux_lemma =>
     intro vs L W hS hL cl hdl hdep K hK; have d0 := hdep ⟨0, .data⟩ (by simp) rfl; simp only [PhiR6] at d0; have d1 := hdep ⟨1, .data⟩ (by simp) rfl; simp only [PhiR6] at d1; have d2 := hdep ⟨2, .data⟩ (by simp) rfl; simp only [PhiR6] at d2; have d3 := hdep ⟨4, .data⟩ (by simp) rfl; simp only [PhiR6] at d3; have d4 := hdep ⟨6, .data⟩ (by simp) rfl; simp only [PhiR6] at d4; have d5 := hdep ⟨7, .data⟩ (by simp) rfl; simp only [PhiR6] at d5; have d6 := hdep ⟨13, .data⟩ (by simp) rfl; simp only [PhiR6] at d6; have r6 := d6; clear d6; have d7 := hdep ⟨14, .data⟩ (by simp) rfl; simp only [PhiR6] at d7
     have h17 : L 17 = false := by
      cases h : L 17 with
      | false => rfl
      | true => exact absurd (cl 17 _ rfl h ⟨15, .data⟩ (by simp) rfl) (by rw [hL]; decide)
     refine ⟨?_⟩; simp only [Act.put, sA, sB, sC, Nat.zero_add, Nat.reduceAdd, d0, d1, d2, d3, d4, d5, d7] at hK ⊢; go_simp; refine (IHb _ _ _ (hpl.below hS.be) (hqv.below hS.be) (hlv.below hS.be) r6 (mulV_valid HOC.out (stakeF_ok _ _ _))).mono ?_; rintro e w' ⟨v, rfl, hv, hb⟩; obtain ⟨A, k, c, A', k', c', rfl⟩ := hv.shape; go_wp2_with fail; with_reducible refine hK _ _ (RT.below hb hS.be.size) (hS.step hb 15 _ (by decide) (fun _ => h17)) ?_
     exact ⟨_, _, _, _, _, _, rfl, hv⟩
    ·as_aux_lemma =>
     intro vs L W hS hL cl hdl hdep K hK
     have h17 : L 17 = false := by
      cases h : L 17 with
      | false => rfl
      | true => exact absurd (cl 17 _ rfl h ⟨16, .data⟩ (by simp) rfl) (by rw [hL]; decide)
     refine ⟨?_⟩; simp only [Act.put, sA, sB, sC, Nat.zero_add, Nat.reduceAdd] at hK ⊢; go_simp; with_reducible refine hK _ _ (RT.below (bA _ _) hS.be.size) (hS.step (bA _ _) 16 _ (by decide) (fun _ => h17)) ?_
     exact ⟨_, rfl, hS.be.size, none, 0, 0, none, 0, 0, Blk.new _ _ _⟩
    ·as_aux_lemma =>
     intro vs L W hS hL cl hdl hdep K hK; have d0 := hdep ⟨16, .data⟩ (by simp) rfl; simp only [PhiR6] at d0; refine @exE1 _ _ _ d0 ?_; clear d0; intro g0 d0; have e0 := d0.1; have l0 := d0.2.1; have s0 := d0.2.2; clear d0; have d1 := hdep ⟨15, .data⟩ (by simp) rfl; simp only [PhiR6] at d1; refine @exE6 _ _ _ _ _ _ _ _ d1 ?_; clear d1; intro A1 k1 c1 B1 m1 d1 d1; have e1 := d1.1; have n1 := d1.2; clear d1; obtain ⟨⟨a1, q1⟩, ⟨a2, q2⟩, q3, q4⟩ := s0.facts; refine ⟨?_⟩; simp only [Act.put, sA, sB, sC, Nat.zero_add, Nat.reduceAdd, e0, e1] at hK ⊢; go_simp; with_reducible refine hK undef _ (RT.store s0 l0 _ _ _ _ _ _) (hS.stored e0 e1 l0 s0 (by decide) (by decide) _) ?_
     exact trivial
   ·intro vs L w5 hS hall hv; have v8 := hv 15 (by simp); simp only [PhiR6] at v8; obtain ⟨_, _, _, _, _, _, e8', ho⟩ := v8; obtain ⟨ga, A3, k3, c3, B3, m3, d3, e10, e8, hgN, hblk⟩ := hS.st (hall 17 (by simp)); rw [e8] at e8'; rw [← e8'] at ho; have HO := Lib.hid ho; have hbe := hS.be; clear hv hS hall e8' ho; simp only [Act.put, sA, sB, sC, Nat.zero_add, Nat.reduceAdd, e10, e8]; have p0 := cell_keep hbe p0; have p1 := cell_keep hbe p1; have p2 := cell_keep hbe p2; have q0 := cell_keep hbe q0; have q1 := cell_keep hbe q1; have k0 := cell_keep hbe k0; have k1 := cell_keep hbe k1; have l0 := cell_keep hbe l0; have l1 := cell_keep hbe l1; have s0 := cell_keep hbe s0; have s1 := cell_keep hbe s1; have hpl := hpl.below hbe; have hqv := hqv.below hbe; have hlv := hlv.below hbe; have hcv := hcv.below hbe; have hbdv := hbdv.below hbe; have hsv := hsv.below hbe; have hs5 := hs4.below hbe; have hbw5 := Below.tr hbw4 hbe; have hav := HO.out; have a0 := hblk.cell 0; have a1 := hblk.cell 1; simp only [List.getElem?_toArray, List.getElem?_cons_zero, List.getElem?_cons_succ] at a0 a1; clear hblk HO hbe hgN e8 e10 hs4 hbw4; go_upto_region 7 with fail; refine region_invW (PhiR7 gp m k n kS cS S hard (.slice Q1 qk1 qc1) (.slice Q2 qk2 qc2) (.slice C1 ck1 cc1) (.slice C2 ck2 cc2) (.slice D1 m1 o1) (.slice D2 m2 o2) (.slice L1 lk1 lc1) (.slice L2 lk2 lc2) x1 x2 q c (stakeV rows m k) b level (reachV (chV hard q) b rows level d (m + 1) (k + 1)) (reachV (chV hard q) b rows level d (m + 1) k) w5.heap.size) (RT w5.heap.size) (SD w5 14 15 16) (by kernel_rfl) (by kernel_rfl) (by kernel_rfl) PhiR7.keep (SD.start _ _ _ _ _) (fun vs => by simp only [fillR, Act.put, sA, sB, sC, Nat.zero_add, Nat.reduceAdd]; rfl) ?_ ?_
    ·refine sK ?_ (sK ?_ (sK ?_ (sK ?_ (sK ?_ (sK ?_ (sK ?_ (sK ?_ (sK ?_ (sK ?_ (sK ?_ (sK ?_ (sK ?_ (sK ?_ (sK ?_ (sK ?_ (sK ?_ (sZ)))))))))))))))))
     ·as_aux_lemma =>
      intro vs L W hS hL cl hdl hdep K hK; have f0 := cell_keep hS.be p0; have f1 := cell_keep hS.be p1; have f2 := cell_keep hS.be p2; refine ⟨?_⟩; simp only [Act.put, sA, sB, sC, Nat.zero_add, Nat.reduceAdd] at hK ⊢; go_simp; with_reducible refine hK _ _ (RT.refl _ _) (hS.step (Below.refl _ _) 0 _ (by decide) (fun e => absurd e (by decide))) ?_
      exact rfl
     ·as_aux_lemma =>
      intro vs L W hS hL cl hdl hdep K hK; have f1 := cell_keep hS.be q0; have f2 := cell_keep hS.be q1; refine ⟨?_⟩; simp only [Act.put, sA, sB, sC, Nat.zero_add, Nat.reduceAdd] at hK ⊢; go_simp; with_reducible refine hK _ _ (RT.refl _ _) (hS.step (Below.refl _ _) 1 _ (by decide) (fun e => absurd e (by decide))) ?_
      exact rfl
     ·as_aux_lemma =>
      intro vs L W hS hL cl hdl hdep K hK; refine ⟨?_⟩; simp only [Act.put, sA, sB, sC, Nat.zero_add, Nat.reduceAdd] at hK ⊢; go_simp; with_reducible refine hK _ _ (RT.refl _ _) (hS.step (Below.refl _ _) 2 _ (by decide) (fun e => absurd e (by decide))) ?_
      exact rfl
     ·as_aux_lemma =>
      intro vs L W hS hL cl hdl hdep K hK; refine ⟨?_⟩; simp only [Act.put, sA, sB, sC, Nat.zero_add, Nat.reduceAdd] at hK ⊢; go_simp; with_reducible refine hK _ _ (RT.refl _ _) (hS.step (Below.refl _ _) 3 _ (by decide) (fun e => absurd e (by decide))) ?_
      exact rfl
     ·as_aux_lemma =>
      intro vs L W hS hL cl hdl hdep K hK; have d0 := hdep ⟨3, .data⟩ (by simp) rfl; simp only [PhiR7] at d0; have sw : IntKind.i64.wrap ((m : Int) + 1) = (m : Int) + 1 := by rw [IntWalk.i64_in _ (by omega)]
      refine ⟨?_⟩; simp only [Act.put, sA, sB, sC, Nat.zero_add, Nat.reduceAdd, d0] at hK ⊢; go_simp; with_reducible refine hK _ _ (RT.refl _ _) (hS.step (Below.refl _ _) 4 _ (by decide) (fun e => absurd e (by decide))) ?_
      exact rfl
     ·as_aux_lemma =>
      intro vs L W hS hL cl hdl hdep K hK; refine ⟨?_⟩; simp only [Act.put, sA, sB, sC, Nat.zero_add, Nat.reduceAdd] at hK ⊢; go_simp; with_reducible refine hK _ _ (RT.refl _ _) (hS.step (Below.refl _ _) 5 _ (by decide) (fun e => absurd e (by decide))) ?_
      exact rfl
     ·as_aux_lemma =>
      intro vs L W hS hL cl hdl hdep K hK; refine ⟨?_⟩; simp only [Act.put, sA, sB, sC, Nat.zero_add, Nat.reduceAdd] at hK ⊢; go_simp; with_reducible refine hK _ _ (RT.refl _ _) (hS.step (Below.refl _ _) 6 _ (by decide) (fun e => absurd e (by decide))) ?_
      exact rfl
     ·as_aux_lemma =>
      intro vs L W hS hL cl hdl hdep K hK; have f1 := cell_keep hS.be k0; have f2 := cell_keep hS.be k1; refine ⟨?_⟩; simp only [Act.put, sA, sB, sC, Nat.zero_add, Nat.reduceAdd] at hK ⊢; go_simp; with_reducible refine hK _ _ (RT.refl _ _) (hS.step (Below.refl _ _) 7 _ (by decide) (fun e => absurd e (by decide))) ?_
      exact rfl
     ·as_aux_lemma =>
      intro vs L W hS hL cl hdl hdep K hK; have f1 := cell_keep hS.be s0; have f2 := cell_keep hS.be s1; refine ⟨?_⟩; simp only [Act.put, sA, sB, sC, Nat.zero_add, Nat.reduceAdd] at hK ⊢; go_simp; with_reducible refine hK _ _ (RT.refl _ _) (hS.step (Below.refl _ _) 8 _ (by decide) (fun e => absurd e (by decide))) ?_
      exact rfl
     ·as_aux_lemma =>
      intro vs L W hS hL cl hdl hdep K hK; refine ⟨?_⟩; simp only [Act.put, sA, sB, sC, Nat.zero_add, Nat.reduceAdd] at hK ⊢; go_simp; with_reducible refine hK _ _ (RT.refl _ _) (hS.step (Below.refl _ _) 9 _ (by decide) (fun e => absurd e (by decide))) ?_
      exact rfl
     ·as_aux_lemma =>
      intro vs L W hS hL cl hdl hdep K hK; have d0 := hdep ⟨9, .data⟩ (by simp) rfl; simp only [PhiR7] at d0; have f1 := cell_keep hS.be p0; have f2 := cell_keep hS.be p1; refine ⟨?_⟩; simp only [Act.put, sA, sB, sC, Nat.zero_add, Nat.reduceAdd, d0] at hK ⊢; go_simp; with_reducible refine hK _ _ (RT.refl _ _) (hS.step (Below.refl _ _) 10 _ (by decide) (fun e => absurd e (by decide))) ?_
      exact rfl
     ·as_aux_lemma =>
      intro vs L W hS hL cl hdl hdep K hK; have d0 := hdep ⟨8, .data⟩ (by simp) rfl; simp only [PhiR7] at d0; have d1 := hdep ⟨10, .data⟩ (by simp) rfl; simp only [PhiR7] at d1; refine ⟨?_⟩; simp only [Act.put, sA, sB, sC, Nat.zero_add, Nat.reduceAdd, d0, d1] at hK ⊢; go_simp; refine (rtimesF_F _ _ (stakeV rows m k) b false _ (hsv.below hS.be) (hbdv.below hS.be)).mono ?_; rintro e w' ⟨v, rfl, hv, hb⟩; go_wp2_with fail; with_reducible refine hK _ _ (RT.below hb hS.be.size) (hS.step hb 11 _ (by decide) (fun e => absurd e (by decide))) ?_
      exact hv
     ·as_aux_lemma =>
      intro vs L W hS hL cl hdl hdep K hK; have d0 := hdep ⟨7, .data⟩ (by simp) rfl; simp only [PhiR7] at d0; have d1 := hdep ⟨11, .data⟩ (by simp) rfl; simp only [PhiR7] at d1; have r1 := d1; clear d1; refine ⟨?_⟩; simp only [Act.put, sA, sB, sC, Nat.zero_add, Nat.reduceAdd, d0] at hK ⊢; go_simp; refine (rtimes17_F _ _ c (stakeF b (stakeV rows m k) false) _ (hcv.below hS.be) r1).mono ?_; rintro e w' ⟨v, rfl, hv, hb⟩; go_wp2_with fail; with_reducible refine hK _ _ (RT.below hb hS.be.size) (hS.step hb 12 _ (by decide) (fun e => absurd e (by decide))) ?_
      exact hv
     ·as_aux_lemma =>
      intro vs L W hS hL cl hdl hdep K hK; have f1 := cell_keep hS.be l0; have f2 := cell_keep hS.be l1; refine ⟨?_⟩; simp only [Act.put, sA, sB, sC, Nat.zero_add, Nat.reduceAdd] at hK ⊢; go_simp; with_reducible refine hK _ _ (RT.refl _ _) (hS.step (Below.refl _ _) 13 _ (by decide) (fun e => absurd e (by decide))) ?_
      exact rfl
     ·as_aux_lemma =>
      intro vs L W hS hL cl hdl hdep K hK; have d0 := hdep ⟨0, .data⟩ (by simp) rfl; simp only [PhiR7] at d0; have d1 := hdep ⟨1, .data⟩ (by simp) rfl; simp only [PhiR7] at d1; have d2 := hdep ⟨2, .data⟩ (by simp) rfl; simp only [PhiR7] at d2; have d3 := hdep ⟨4, .data⟩ (by simp) rfl; simp only [PhiR7] at d3; have d4 := hdep ⟨5, .data⟩ (by simp) rfl; simp only [PhiR7] at d4; have d5 := hdep ⟨6, .data⟩ (by simp) rfl; simp only [PhiR7] at d5; have d6 := hdep ⟨12, .data⟩ (by simp) rfl; simp only [PhiR7] at d6; have r6 := d6; clear d6; have d7 := hdep ⟨13, .data⟩ (by simp) rfl; simp only [PhiR7] at d7
      have h16 : L 16 = false := by
       cases h : L 16 with
       | false => rfl
       | true => exact absurd (cl 16 _ rfl h ⟨14, .data⟩ (by simp) rfl) (by rw [hL]; decide)
      refine ⟨?_⟩; simp only [Act.put, sA, sB, sC, Nat.zero_add, Nat.reduceAdd, d0, d1, d2, d3, d4, d5, d7] at hK ⊢; go_simp; refine (IHg _ _ _ (hpl.below hS.be) (hqv.below hS.be) (hlv.below hS.be) r6 (mulV_valid HOC.out (stakeF_ok _ _ _))).mono ?_; rintro e w' ⟨v, rfl, hv, hb⟩; obtain ⟨A, k, c, A', k', c', rfl⟩ := hv.shape; go_wp2_with fail; with_reducible refine hK _ _ (RT.below hb hS.be.size) (hS.step hb 14 _ (by decide) (fun _ => h16)) ?_
      exact ⟨_, _, _, _, _, _, rfl, hv⟩
     ·as_aux_lemma =>
      intro vs L W hS hL cl hdl hdep K hK
      have h16 : L 16 = false := by
       cases h : L 16 with
       | false => rfl
       | true => exact absurd (cl 16 _ rfl h ⟨15, .data⟩ (by simp) rfl) (by rw [hL]; decide)
      refine ⟨?_⟩; simp only [Act.put, sA, sB, sC, Nat.zero_add, Nat.reduceAdd] at hK ⊢; go_simp; with_reducible refine hK _ _ (RT.below (bA _ _) hS.be.size) (hS.step (bA _ _) 15 _ (by decide) (fun _ => h16)) ?_
      exact ⟨_, rfl, hS.be.size, none, 0, 0, none, 0, 0, Blk.new _ _ _⟩
     ·as_aux_lemma =>
      intro vs L W hS hL cl hdl hdep K hK; have d0 := hdep ⟨15, .data⟩ (by simp) rfl; simp only [PhiR7] at d0; refine @exE1 _ _ _ d0 ?_; clear d0; intro g0 d0; have e0 := d0.1; have l0 := d0.2.1; have s0 := d0.2.2; clear d0; have d1 := hdep ⟨14, .data⟩ (by simp) rfl; simp only [PhiR7] at d1; refine @exE6 _ _ _ _ _ _ _ _ d1 ?_; clear d1; intro A1 k1 c1 B1 m1 d1 d1; have e1 := d1.1; have n1 := d1.2; clear d1; obtain ⟨⟨a1, q1⟩, ⟨a2, q2⟩, q3, q4⟩ := s0.facts; refine ⟨?_⟩; simp only [Act.put, sA, sB, sC, Nat.zero_add, Nat.reduceAdd, e0, e1] at hK ⊢; go_simp; with_reducible refine hK undef _ (RT.store s0 l0 _ _ _ _ _ _) (hS.stored e0 e1 l0 s0 (by decide) (by decide) _) ?_
      exact trivial
    ·intro vs L w6 hS hall hv; have v8 := hv 14 (by simp); simp only [PhiR7] at v8; obtain ⟨_, _, _, _, _, _, e8', ho⟩ := v8; obtain ⟨gb, A4, k4, c4, B4, m4, d4, e10, e8, hgN, hblk⟩ := hS.st (hall 16 (by simp)); rw [e8] at e8'; rw [← e8'] at ho; have HO := Lib.hid ho; have hbe := hS.be; clear hv hS hall e8' ho; simp only [Act.put, sA, sB, sC, Nat.zero_add, Nat.reduceAdd, e10, e8]; have p0 := cell_keep hbe p0; have p1 := cell_keep hbe p1; have p2 := cell_keep hbe p2; have q0 := cell_keep hbe q0; have q1 := cell_keep hbe q1; have k0 := cell_keep hbe k0; have k1 := cell_keep hbe k1; have l0 := cell_keep hbe l0; have l1 := cell_keep hbe l1; have a0 := cell_keep hbe a0; have a1 := cell_keep hbe a1; have hpl := hpl.below hbe; have hqv := hqv.below hbe; have hlv := hlv.below hbe; have hcv := hcv.below hbe; have hbdv := hbdv.below hbe; have hav := hav.below hbe; have hs6 := hs5.below hbe; have hbw6 := Below.tr hbw5 hbe; have hgv := HO.out; have g0 := hblk.cell 0; have g1 := hblk.cell 1; simp only [List.getElem?_toArray, List.getElem?_cons_zero, List.getElem?_cons_succ] at g0 g1; clear hblk HO hbe hgN e8 e10 s0 s1 hsv hs5 hbw5; go_upto_region 8 with fail; refine region_invW (PhiR8 (.slice Q1 qk1 qc1) (.slice Q2 qk2 qc2) (.slice A3 k3 c3) (.slice B3 m3 d3) (.slice A4 k4 c4) (.slice B4 m4 d4) q ((reachV (chV hard q) b rows level d (m + 1) (k + 1)) (mulV c (stakeF b (stakeV rows m k) true))) ((reachV (chV hard q) b rows level d (m + 1) k) (mulV c (stakeF b (stakeV rows m k) false))) w6.heap.size) (RT w6.heap.size) (SD w6 7 8 9) (by kernel_rfl) (by kernel_rfl) (by kernel_rfl) PhiR8.keep (SD.start _ _ _ _ _) (fun vs => by simp only [fillR, Act.put, sA, sB, sC, Nat.zero_add, Nat.reduceAdd]; rfl) ?_ ?_
     ·refine sK ?_ (sK ?_ (sK ?_ (sK ?_ (sK ?_ (sK ?_ (sK ?_ (sK ?_ (sK ?_ (sK ?_ (sZ))))))))))
      ·as_aux_lemma =>
       intro vs L W hS hL cl hdl hdep K hK; have f1 := cell_keep hS.be q0; have f2 := cell_keep hS.be q1; refine ⟨?_⟩; simp only [Act.put, sA, sB, sC, Nat.zero_add, Nat.reduceAdd] at hK ⊢; go_simp; with_reducible refine hK _ _ (RT.refl _ _) (hS.step (Below.refl _ _) 0 _ (by decide) (fun e => absurd e (by decide))) ?_
       exact rfl
      ·as_aux_lemma =>
       intro vs L W hS hL cl hdl hdep K hK; have f1 := cell_keep hS.be a0; have f2 := cell_keep hS.be a1; refine ⟨?_⟩; simp only [Act.put, sA, sB, sC, Nat.zero_add, Nat.reduceAdd] at hK ⊢; go_simp; with_reducible refine hK _ _ (RT.refl _ _) (hS.step (Below.refl _ _) 1 _ (by decide) (fun e => absurd e (by decide))) ?_
       exact rfl
      ·as_aux_lemma =>
       intro vs L W hS hL cl hdl hdep K hK; have d0 := hdep ⟨0, .data⟩ (by simp) rfl; simp only [PhiR8] at d0; have d1 := hdep ⟨1, .data⟩ (by simp) rfl; simp only [PhiR8] at d1; refine ⟨?_⟩; simp only [Act.put, sA, sB, sC, Nat.zero_add, Nat.reduceAdd, d0, d1] at hK ⊢; go_simp; refine (rtimes17_F _ _ q ((reachV (chV hard q) b rows level d (m + 1) (k + 1)) (mulV c (stakeF b (stakeV rows m k) true))) _ (hqv.below hS.be) (hav.below hS.be)).mono ?_; rintro e w' ⟨v, rfl, hv, hb⟩; go_wp2_with fail; with_reducible refine hK _ _ (RT.below hb hS.be.size) (hS.step hb 2 _ (by decide) (fun e => absurd e (by decide))) ?_
       exact hv
      ·as_aux_lemma =>
       intro vs L W hS hL cl hdl hdep K hK; have f1 := cell_keep hS.be q0; have f2 := cell_keep hS.be q1; refine ⟨?_⟩; simp only [Act.put, sA, sB, sC, Nat.zero_add, Nat.reduceAdd] at hK ⊢; go_simp; with_reducible refine hK _ _ (RT.refl _ _) (hS.step (Below.refl _ _) 3 _ (by decide) (fun e => absurd e (by decide))) ?_
       exact rfl
      ·as_aux_lemma =>
       intro vs L W hS hL cl hdl hdep K hK; have d0 := hdep ⟨3, .data⟩ (by simp) rfl; simp only [PhiR8] at d0; refine ⟨?_⟩; simp only [Act.put, sA, sB, sC, Nat.zero_add, Nat.reduceAdd, d0] at hK ⊢; go_simp; refine (rless17_F _ q _ (hqv.below hS.be)).mono ?_; rintro e w' ⟨v, rfl, hv, hb⟩; go_wp2_with fail; with_reducible refine hK _ _ (RT.below hb hS.be.size) (hS.step hb 4 _ (by decide) (fun e => absurd e (by decide))) ?_
       exact hv
      ·as_aux_lemma =>
       intro vs L W hS hL cl hdl hdep K hK; have f1 := cell_keep hS.be g0; have f2 := cell_keep hS.be g1; refine ⟨?_⟩; simp only [Act.put, sA, sB, sC, Nat.zero_add, Nat.reduceAdd] at hK ⊢; go_simp; with_reducible refine hK _ _ (RT.refl _ _) (hS.step (Below.refl _ _) 5 _ (by decide) (fun e => absurd e (by decide))) ?_
       exact rfl
      ·as_aux_lemma =>
       intro vs L W hS hL cl hdl hdep K hK; have d0 := hdep ⟨4, .data⟩ (by simp) rfl; simp only [PhiR8] at d0; have r0 := d0; clear d0; have d1 := hdep ⟨5, .data⟩ (by simp) rfl; simp only [PhiR8] at d1; refine ⟨?_⟩; simp only [Act.put, sA, sB, sC, Nat.zero_add, Nat.reduceAdd, d1] at hK ⊢; go_simp; refine (rtimes17_F _ _ (subV oneP q) ((reachV (chV hard q) b rows level d (m + 1) k) (mulV c (stakeF b (stakeV rows m k) false))) _ r0 (hgv.below hS.be)).mono ?_; rintro e w' ⟨v, rfl, hv, hb⟩; go_wp2_with fail; with_reducible refine hK _ _ (RT.below hb hS.be.size) (hS.step hb 6 _ (by decide) (fun e => absurd e (by decide))) ?_
       exact hv
      ·as_aux_lemma =>
       intro vs L W hS hL cl hdl hdep K hK; have d0 := hdep ⟨2, .data⟩ (by simp) rfl; simp only [PhiR8] at d0; have r0 := d0; clear d0; have d1 := hdep ⟨6, .data⟩ (by simp) rfl; simp only [PhiR8] at d1; have r1 := d1; clear d1
       have h9 : L 9 = false := by
        cases h : L 9 with
        | false => rfl
        | true => exact absurd (cl 9 _ rfl h ⟨7, .data⟩ (by simp) rfl) (by rw [hL]; decide)
       refine ⟨?_⟩; simp only [Act.put, sA, sB, sC, Nat.zero_add, Nat.reduceAdd] at hK ⊢; go_simp; refine (rplus17_F _ _ (mulV q ((reachV (chV hard q) b rows level d (m + 1) (k + 1)) (mulV c (stakeF b (stakeV rows m k) true)))) (mulV (subV oneP q) ((reachV (chV hard q) b rows level d (m + 1) k) (mulV c (stakeF b (stakeV rows m k) false)))) _ r0 r1).mono ?_; rintro e w' ⟨v, rfl, hv, hb⟩; obtain ⟨A, k, c, A', k', c', rfl⟩ := hv.shape; go_wp2_with fail; with_reducible refine hK _ _ (RT.below hb hS.be.size) (hS.step hb 7 _ (by decide) (fun _ => h9)) ?_
       exact ⟨_, _, _, _, _, _, rfl, hv⟩
      ·as_aux_lemma =>
       intro vs L W hS hL cl hdl hdep K hK
       have h9 : L 9 = false := by
        cases h : L 9 with
        | false => rfl
        | true => exact absurd (cl 9 _ rfl h ⟨8, .data⟩ (by simp) rfl) (by rw [hL]; decide)
       refine ⟨?_⟩; simp only [Act.put, sA, sB, sC, Nat.zero_add, Nat.reduceAdd] at hK ⊢; go_simp; with_reducible refine hK _ _ (RT.below (bA _ _) hS.be.size) (hS.step (bA _ _) 8 _ (by decide) (fun _ => h9)) ?_
       exact ⟨_, rfl, hS.be.size, none, 0, 0, none, 0, 0, Blk.new _ _ _⟩
      ·as_aux_lemma =>
       intro vs L W hS hL cl hdl hdep K hK; have d0 := hdep ⟨8, .data⟩ (by simp) rfl; simp only [PhiR8] at d0; refine @exE1 _ _ _ d0 ?_; clear d0; intro g0 d0; have e0 := d0.1; have l0 := d0.2.1; have s0 := d0.2.2; clear d0; have d1 := hdep ⟨7, .data⟩ (by simp) rfl; simp only [PhiR8] at d1; refine @exE6 _ _ _ _ _ _ _ _ d1 ?_; clear d1; intro A1 k1 c1 B1 m1 d1 d1; have e1 := d1.1; have n1 := d1.2; clear d1; obtain ⟨⟨a1, q1⟩, ⟨a2, q2⟩, q3, q4⟩ := s0.facts; refine ⟨?_⟩; simp only [Act.put, sA, sB, sC, Nat.zero_add, Nat.reduceAdd, e0, e1] at hK ⊢; go_simp; with_reducible refine hK undef _ (RT.store s0 l0 _ _ _ _ _ _) (hS.stored e0 e1 l0 s0 (by decide) (by decide) _) ?_
       exact trivial
     ·intro vs L w7 hS hall hv; have v8 := hv 7 (by simp); simp only [PhiR8] at v8; obtain ⟨_, _, _, _, _, _, e8', ho⟩ := v8; obtain ⟨gm, A5, k5, c5, B5, m5, d5, e10, e8, hgN, hblk⟩ := hS.st (hall 9 (by simp)); rw [e8] at e8'; rw [← e8'] at ho; have HO := Lib.hid ho; have hbe := hS.be; clear hv hS hall e8' ho; simp only [Act.put, sA, sB, sC, Nat.zero_add, Nat.reduceAdd, e10, e8]; have hgv := hgv.below hbe; have g0 := cell_keep hbe g0; have g1 := cell_keep hbe g1; have hs7 := hs6.below hbe; have hbw7 := Below.tr hbw6 hbe; have hmv : RtP w7 _ (mixV q ((reachV (chV hard q) b rows level d (m + 1) (k + 1)) (mulV c (stakeF b (stakeV rows m k) true))) ((reachV (chV hard q) b rows level d (m + 1) k) (mulV c (stakeF b (stakeV rows m k) false)))) := HO.out; have m0 := hblk.cell 0; have m1 := hblk.cell 1; simp only [List.getElem?_toArray, List.getElem?_cons_zero, List.getElem?_cons_succ] at m0 m1; clear hblk HO hbe hgN e8 e10 a0 a1 hav hs6 hbw6 p0 p1 p2 q0 q1 k0 k1 l0 l1 hpl hlv hqv hcv hbdv IHb IHg
      cases hard
      ·have HF : Hid (fv = mixV q ((reachV (chV false q) b rows level d (m + 1) (k + 1)) (mulV c (stakeF b (stakeV rows m k) true))) ((reachV (chV false q) b rows level d (m + 1) k) (mulV c (stakeF b (stakeV rows m k) false)))) := HF0; obtain ⟨A, k', c, A', k'', c'', he, ⟨a1, r1⟩, ⟨a2, r2⟩, r3, r4, z1, z2, hr, hbz⟩ := ret_ratio (w0 := w) hmv hs7 hgr hbw7; simp only [Value.agg.injEq, Array.mk.injEq, List.cons.injEq, and_true, Value.slice.injEq] at he; obtain ⟨⟨rfl, rfl, rfl⟩, rfl, rfl, rfl⟩ := he; go_wp2_with fail; exact bodyPost_ret (v := .agg #[.slice A5 k5 c5, .slice B5 m5 d5]) (by simp [results, Tryz.results56, go_sem, z1, z2]) rfl ⟨_, rfl, by rw [HF.out]; exact hr, hbz⟩
      ·have HFT : Hid (fv = worstV q ((reachV (chV true q) b rows level d (m + 1) (k + 1)) (mulV c (stakeF b (stakeV rows m k) true))) ((reachV (chV true q) b rows level d (m + 1) k) (mulV c (stakeF b (stakeV rows m k) false)))) := HF0; go_wp2_with fail; refine (rorder_s _ _ _ _ _ hgv hmv (reachV_valid (chV_valid true q) _ _ _ _ _ _ _) (mixV_valid _ _ _)).mono ?_; rintro e w8 ⟨c8, rfl, hc8, _, hb8⟩; have hgv := hgv.below hb8; have hmv := hmv.below hb8; have g0 := cell_keep hb8 g0; have g1 := cell_keep hb8 g1; have m0 := cell_keep hb8 m0; have m1 := cell_keep hb8 m1; have hs8 := hs7.below hb8; have hbw8 := Below.tr hbw7 hb8; by_cases h8 : c8 ≤ 0
       ·have t8 : decide (c8 > 0) = false := by simp; omega
        have HF : Hid (fv = mixV q ((reachV (chV true q) b rows level d (m + 1) (k + 1)) (mulV c (stakeF b (stakeV rows m k) true))) ((reachV (chV true q) b rows level d (m + 1) k) (mulV c (stakeF b (stakeV rows m k) false)))) := by
         show _ = _
         rw [HFT.out]; unfold worstV; rw [← hc8, decide_eq_true h8]; rfl
        clear hc8 h8; obtain ⟨A, k', c, A', k'', c'', he, ⟨a1, r1⟩, ⟨a2, r2⟩, r3, r4, z1, z2, hr, hbz⟩ := ret_ratio (w0 := w) hmv hs8 hgr hbw8; simp only [Value.agg.injEq, Array.mk.injEq, List.cons.injEq, and_true, Value.slice.injEq] at he; obtain ⟨⟨rfl, rfl, rfl⟩, rfl, rfl, rfl⟩ := he; go_wp2_with fail; exact bodyPost_ret (v := .agg #[.slice A5 k5 c5, .slice B5 m5 d5]) (by simp [results, Tryz.results56, go_sem, z1, z2]) rfl ⟨_, rfl, by rw [HF.out]; exact hr, hbz⟩
       ·have t8 : decide (c8 > 0) = true := by simp; omega
        have HF : Hid (fv = ((reachV (chV true q) b rows level d (m + 1) k) (mulV c (stakeF b (stakeV rows m k) false)))) := by
         show _ = _
         rw [HFT.out]; unfold worstV; rw [← hc8, decide_eq_false h8]; rfl
        clear hc8 h8; obtain ⟨A, k', c, A', k'', c'', he, ⟨a1, r1⟩, ⟨a2, r2⟩, r3, r4, z1, z2, hr, hbz⟩ := ret_ratio (w0 := w) hgv hs8 hgr hbw8; simp only [Value.agg.injEq, Array.mk.injEq, List.cons.injEq, and_true, Value.slice.injEq] at he; obtain ⟨⟨rfl, rfl, rfl⟩, rfl, rfl, rfl⟩ := he; go_wp2_with fail; exact bodyPost_ret (v := .agg #[.slice A4 k4 c4, .slice B4 m4 d4]) (by simp [results, Tryz.results56, go_sem, z1, z2]) rfl ⟨_, rfl, by rw [HF.out]; exact hr, hbz⟩
  ·have HF : Hid (fv = oneP) := by
    show _ = _
    rw [HFV.out, reachV, hat]; rfl
   have t1 : decide (cc ≥ 0) = true := by rw [hat] at hcc; exact hcc
   clear hat hcc HFV p0 p1 p2 q0 q1 k0 k1 l0 l1 hpl hlv hqv hcv hbdv; go_wp2_with fail; refine (rone17_F _).mono ?_; rintro e w3 ⟨v, rfl, hv, hb3⟩; obtain ⟨A, k', c, A', k'', c'', rfl, ⟨a1, r1⟩, ⟨a2, r2⟩, r3, r4, z1, z2, hr, hbz⟩ := ret_ratio (w0 := w) hv (hs2.below hb3) hgr (Below.tr hbw2 hb3); go_wp2_with fail; exact bodyPost_ret (v := .agg #[.slice A k' c, .slice A' k'' c'']) (by simp [results, Tryz.results56, go_sem, z1, z2]) rfl ⟨_, rfl, by rw [HF.out]; exact hr, hbz⟩
end Go.Proofs.YtnjjdiilkhdbeaaGreat
