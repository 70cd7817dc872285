import Derived.Test.YtnjjdiilkhdbeaaKCutProof22
import Derived.Test.YtnjjdiilkhdbeaaS0
set_option linter.unusedVariables false
set_option linter.unusedSimpArgs false
namespace Go.Proofs.Ytnjjdiilkhdbeaa
open Go Go.RowKit
/-- the measure of coming to a level within d outcomes more -/
noncomputable def reachV (ch : LP → LP → LP) (b : LP) (rows : List (List LP)) (level : LP) : Nat → Nat → Nat → LP → LP
 | 0, _, _, c => if atB level c then oneP else nilP
 | d + 1, m, k, c => if atB level c then oneP else ch (reachV ch b rows level d (m + 1) (k + 1) (mulV c (factorV b rows m k true))) (reachV ch b rows level d (m + 1) k (mulV c (factorV b rows m k false)))
/-- choose, as it stands in memory -/
def ChS (fch gq : Nat) (ch : LP → LP → LP) (w : World) : Prop := ∀ W va vb a b, Below w.heap.size w W → RtP W va a → RtP W vb b → Calls Try.prog fch #[va, vb, .pointer (some ⟨gq, 0, none⟩)] W fun e w' => ∃ v, e = .returned v ∧ RtP w' v (ch a b) ∧ Below W.heap.size W w'
/-- what the closure holds -/
structure MomS (gl gn gf gp gh fch gq n : Nat) (l1 l2 x1 x2 : Value) (S : Option Addr) (kS cS : Nat) (ch : LP → LP → LP) (b : LP) (rows : List (List LP)) (level : LP) (w : World) : Prop where
 cl1 : w.cell? ⟨gl, 0, none⟩ = some l1
 cl2 : w.cell? ⟨gl, 1, none⟩ = some l2
 lv : RtP w (.agg #[l1, l2]) level
 cn : w.cell? ⟨gn, 0, none⟩ = some (.int .i64 (n : Int))
 cf : w.cell? ⟨gf, 0, none⟩ = some (.func (.func 71) #[] #[.pointer (some ⟨gl, 0, none⟩), .pointer (some ⟨gn, 0, none⟩), .pointer (some ⟨gf, 0, none⟩), .pointer (some ⟨gp, 0, none⟩), .pointer (some ⟨gh, 0, none⟩)])
 p0 : w.cell? ⟨gp, 0, none⟩ = some x1
 p1 : w.cell? ⟨gp, 1, none⟩ = some x2
 p2 : w.cell? ⟨gp, 2, none⟩ = some (.slice S kS cS)
 pl : PlanV w (.agg #[x1, x2, .slice S kS cS]) b rows
 chc : w.cell? ⟨gh, 0, none⟩ = some (.func (.func fch) #[] #[.pointer (some ⟨gq, 0, none⟩)])
 chs : ChS fch gq ch w
theorem MomS.below {gl gn gf gp gh fch gq n : Nat} {l1 l2 x1 x2 : Value} {S : Option Addr} {kS cS : Nat} {ch : LP → LP → LP} {b : LP} {rows : List (List LP)} {level : LP} {w w' : World} (h : MomS gl gn gf gp gh fch gq n l1 l2 x1 x2 S kS cS ch b rows level w) (hb : Below w.heap.size w w') : MomS gl gn gf gp gh fch gq n l1 l2 x1 x2 S kS cS ch b rows level w' :=
 ⟨cell_keep hb h.cl1, cell_keep hb h.cl2, h.lv.below hb, cell_keep hb h.cn, cell_keep hb h.cf, cell_keep hb h.p0, cell_keep hb h.p1, cell_keep hb h.p2, h.pl.below hb, cell_keep hb h.chc, fun W va vb a b hW ha hb2 => h.chs W va vb a b (Below.tr hb hW) ha hb2⟩
def PhiM5 (gl gn gf gp gh m k kS cS : Nat) (S : Option Addr) (c1 c2 x1 x2 : Value) (c fb fg : LP) (xb xg : LP → LP) (B : Nat) (j : Nat) (w : World) (x : Value) : Prop :=
 match j with
 | 0 => x = .func (.func 71) #[] #[.pointer (some ⟨gl, 0, none⟩), .pointer (some ⟨gn, 0, none⟩), .pointer (some ⟨gf, 0, none⟩), .pointer (some ⟨gp, 0, none⟩), .pointer (some ⟨gh, 0, none⟩)]
 | 1 => x = .int .i64 (m : Int)
 | 2 => x = .int .i64 ((m : Int) + 1)
 | 3 => x = .int .i64 (k : Int)
 | 4 => x = .int .i64 ((k : Int) + 1)
 | 5 => x = .agg #[c1, c2]
 | 6 => x = .agg #[x1, x2, .slice S kS cS]
 | 7 => x = .int .i64 (m : Int)
 | 8 => x = .int .i64 (k : Int)
 | 9 => RtP w x fb
 | 10 => ∃ v er, x = .tuple #[v, .int .i64 er] ∧ RtP w v (mulV c fb)
 | 11 => RtP w x (mulV c fb)
 | 12 => ∃ er : Int, x = .int .i64 er
 | 13 => RtP w x (mulV c fb)
 | 14 => ∃ Y1 y2 y3 Y4 y5 y6, x = .agg #[.slice Y1 y2 y3, .slice Y4 y5 y6] ∧ RtP w (.agg #[.slice Y1 y2 y3, .slice Y4 y5 y6]) (xb (mulV c fb))
 | 15 => ∃ g, x = .pointer (some ⟨g, 0, none⟩) ∧ B ≤ g ∧ Sl w g
 | 16 => True
 | _ => True
theorem PhiM5.keep {gl gn gf gp gh m k kS cS : Nat} {S : Option Addr} {c1 c2 x1 x2 : Value} {c fb fg : LP} {xb xg : LP → LP} {B : Nat} : ∀ (w w' : World), RT B w w' → ∀ j x, PhiM5 gl gn gf gp gh m k kS cS S c1 c2 x1 x2 c fb fg xb xg B j w x → PhiM5 gl gn gf gp gh m k kS cS S c1 c2 x1 x2 c fb fg xb xg B j w' x := by
 intro w w' hr j x h; unfold PhiM5 at h ⊢
 split <;> simp only at h ⊢
 all_goals first
  | exact h
  | exact h.mapL hr.lim
  | (obtain ⟨v, er, e, h⟩ := h; exact ⟨v, er, e, h.mapL hr.lim⟩)
  | (obtain ⟨A, k, c, A', k', c', e, h⟩ := h; exact ⟨A, k, c, A', k', c', e, h.mapL hr.lim⟩)
  | (obtain ⟨g, e, h1, h2⟩ := h; exact ⟨g, e, h1, hr.sl g h2⟩)
def PhiM6 (gl gn gf gp gh m k kS cS : Nat) (S : Option Addr) (c1 c2 x1 x2 : Value) (c fb fg : LP) (xb xg : LP → LP) (B : Nat) (j : Nat) (w : World) (x : Value) : Prop :=
 match j with
 | 0 => x = .func (.func 71) #[] #[.pointer (some ⟨gl, 0, none⟩), .pointer (some ⟨gn, 0, none⟩), .pointer (some ⟨gf, 0, none⟩), .pointer (some ⟨gp, 0, none⟩), .pointer (some ⟨gh, 0, none⟩)]
 | 1 => x = .int .i64 (m : Int)
 | 2 => x = .int .i64 ((m : Int) + 1)
 | 3 => x = .int .i64 (k : Int)
 | 4 => x = .agg #[c1, c2]
 | 5 => x = .agg #[x1, x2, .slice S kS cS]
 | 6 => x = .int .i64 (m : Int)
 | 7 => x = .int .i64 (k : Int)
 | 8 => RtP w x fg
 | 9 => ∃ v er, x = .tuple #[v, .int .i64 er] ∧ RtP w v (mulV c fg)
 | 10 => RtP w x (mulV c fg)
 | 11 => ∃ er : Int, x = .int .i64 er
 | 12 => RtP w x (mulV c fg)
 | 13 => ∃ Y1 y2 y3 Y4 y5 y6, x = .agg #[.slice Y1 y2 y3, .slice Y4 y5 y6] ∧ RtP w (.agg #[.slice Y1 y2 y3, .slice Y4 y5 y6]) (xg (mulV c fg))
 | 14 => ∃ g, x = .pointer (some ⟨g, 0, none⟩) ∧ B ≤ g ∧ Sl w g
 | 15 => True
 | _ => True
theorem PhiM6.keep {gl gn gf gp gh m k kS cS : Nat} {S : Option Addr} {c1 c2 x1 x2 : Value} {c fb fg : LP} {xb xg : LP → LP} {B : Nat} : ∀ (w w' : World), RT B w w' → ∀ j x, PhiM6 gl gn gf gp gh m k kS cS S c1 c2 x1 x2 c fb fg xb xg B j w x → PhiM6 gl gn gf gp gh m k kS cS S c1 c2 x1 x2 c fb fg xb xg B j w' x := by
 intro w w' hr j x h; unfold PhiM6 at h ⊢
 split <;> simp only at h ⊢
 all_goals first
  | exact h
  | exact h.mapL hr.lim
  | (obtain ⟨v, er, e, h⟩ := h; exact ⟨v, er, e, h.mapL hr.lim⟩)
  | (obtain ⟨A, k, c, A', k', c', e, h⟩ := h; exact ⟨A, k, c, A', k', c', e, h.mapL hr.lim⟩)
  | (obtain ⟨g, e, h1, h2⟩ := h; exact ⟨g, e, h1, hr.sl g h2⟩)
set_option maxRecDepth 100000 in
set_option maxHeartbeats 4000000 in
theorem moments_r (gl gn gf gp gh gq n : Nat) (l1 l2 x1 x2 : Value) (S : Option Addr) (kS cS : Nat) (ch : LP → LP → LP) (b : LP) (rows : List (List LP)) (level : LP) (hn : n ≤ 10) (h0 : planE b rows = 0) :
  ∀ (d m k : Nat) (vc : Value) (c : LP) (w : World), m + d = n → k ≤ m → MomS gl gn gf gp gh 39 gq n l1 l2 x1 x2 S kS cS ch b rows level w → RtP w vc c →
  Calls Try.prog 71 #[.int .i64 (m : Int), .int .i64 (k : Int), vc, .pointer (some ⟨gl, 0, none⟩), .pointer (some ⟨gn, 0, none⟩), .pointer (some ⟨gf, 0, none⟩), .pointer (some ⟨gp, 0, none⟩), .pointer (some ⟨gh, 0, none⟩)] w fun e w' => ∃ v, e = .returned v ∧ RtP w' v (reachV ch b rows level d m k c) ∧ Below w.heap.size w w' := by
 intro d
 induction d with
 | zero =>
  intro m k vc c w hmd hkm hM hc; obtain ⟨C1, n1, e1, C2, n2, e2, rfl⟩ := hc.shape; obtain ⟨fv, HFV⟩ : ∃ f, Hid (f = reachV ch b rows level 0 m k c) := ⟨_, rfl⟩; rw [← HFV.out]; have t3 : ((m : Int) == (n : Int)) = true := by simp; omega
  go_enter Try.func71, Try.ntmps71
  go_upto_region 1 with fail; refine wp_name ?_; intro w1 HW1; have hb1 : Below w.heap.size w w1 := by rw [HW1.out]; exact Below.tr (bA _ _) (bA _ _)
  have hx : Blk w1 w.heap.size 25 #[.slice C1 n1 e1, .slice C2 n2 e2] := by rw [HW1.out]; exact Blk.below (Blk.new w _ _) (bA _ _) (Blk.new w _ _).lt
  have hs1 : Sl w1 (w.heap.size + 1) := by
   rw [HW1.out]; have := Sl.new2 (w.alloc (.cells #[.slice C1 n1 e1, .slice C2 n2 e2] 25))
   simpa using this
  clear HW1; have hM1 := hM.below hb1; have hc1 := hc.below hb1; have q1 := hx.cell 0; have q2 := hx.cell 1; simp only [List.getElem?_toArray, List.getElem?_cons_zero, List.getElem?_cons_succ] at q1 q2; obtain ⟨gC, hgC⟩ : ∃ g, Hid (g = w.heap.size) := ⟨_, rfl⟩; have hgr : w.heap.size ≤ w.heap.size + 1 := by omega
  obtain ⟨gr, hgrr⟩ : ∃ g, Hid (g = w.heap.size + 1) := ⟨_, rfl⟩; rw [← hgrr.out] at hs1 hgr ⊢; rw [← hgC.out] at q1 q2 ⊢; have k1 := hM1.cl1; have k2 := hM1.cl2; have kn3 := hM1.cn; go_wp2_with fail; refine (atMost_F _ _ level c _ hM1.lv hc1).mono ?_; rintro e w2 ⟨rfl, hb2⟩; have hbw2 := Below.tr hb1 hb2; have hM2 := hM1.below hb2; have hc2 := hc1.below hb2; have q1 := cell_keep hb2 q1; have q2 := cell_keep hb2 q2; have hs2 := hs1.below hb2; have kn3 := hM2.cn; clear k1 k2
  cases hat : atB level c
  ·have HF : Hid (fv = nilP) := by
    show _ = _
    rw [HFV.out, reachV, hat]; rfl
   clear hat HFV hx hs1 hM1 hc1 hb1 hb2 q1 q2; obtain ⟨A', k', c', A'', k'', c'', he, ⟨a1, e1⟩, ⟨a2, e2⟩, e3, e4, z1, z2, hr, hbz⟩ := ret_ratio (w0 := w) (nil_rtP w2) hs2 hgr hbw2; simp only [nilRat, Value.agg.injEq, Array.mk.injEq, List.cons.injEq, and_true, Value.slice.injEq] at he; obtain ⟨⟨rfl, rfl, rfl⟩, rfl, rfl, rfl⟩ := he; go_wp2_with fail; exact bodyPost_ret (v := .agg #[.slice none 0 0, .slice none 0 0]) (by simp [results, Try.results71, go_sem, z1, z2]) rfl ⟨_, rfl, by rw [HF.out]; exact hr, hbz⟩
  ·have HF : Hid (fv = oneP) := by
    show _ = _
    rw [HFV.out, reachV, hat]; rfl
   clear hat HFV hx hs1 hM1 hc1 hb1 hb2 q1 q2 kn3; go_wp2_with fail; refine (wone_F _).mono ?_; rintro e w3 ⟨v, rfl, hv, hb3⟩; obtain ⟨A, k', c, A', k'', c'', rfl, ⟨a1, q1⟩, ⟨a2, q2⟩, q3, q4, z1, z2, hr, hbz⟩ := ret_ratio (w0 := w) hv (hs2.below hb3) hgr (Below.tr hbw2 hb3); go_wp2_with fail; exact bodyPost_ret (v := .agg #[.slice A k' c, .slice A' k'' c'']) (by simp [results, Try.results71, go_sem, z1, z2]) rfl ⟨_, rfl, by rw [HF.out]; exact hr, hbz⟩
 | succ d ih =>
  intro m k vc c w hmd hkm hM hc; obtain ⟨C1, n1, e1, C2, n2, e2, rfl⟩ := hc.shape; obtain ⟨fv, HFV⟩ : ∃ f, Hid (f = reachV ch b rows level (d + 1) m k c) := ⟨_, rfl⟩; rw [← HFV.out]; have hm20 : m ≤ 1048576 := by omega
  have hm10 : m ≤ 10 := by omega
  have hk10 : k ≤ 10 := by omega
  have t3 : ((m : Int) == (n : Int)) = false := by simp; omega
  have HKR : Hid (∀ r, rows[m]? = some r → k < r.length) := fun r h => by have := plan_row h0 h; omega
  have IHb : ∀ vc c W, MomS gl gn gf gp gh 39 gq n l1 l2 x1 x2 S kS cS ch b rows level W → RtP W vc c → Calls Try.prog 71 #[.int .i64 ((m : Int) + 1), .int .i64 ((k : Int) + 1), vc, .pointer (some ⟨gl, 0, none⟩), .pointer (some ⟨gn, 0, none⟩), .pointer (some ⟨gf, 0, none⟩), .pointer (some ⟨gp, 0, none⟩), .pointer (some ⟨gh, 0, none⟩)] W fun e w' => ∃ v, e = .returned v ∧ RtP w' v (reachV ch b rows level d (m + 1) (k + 1) c) ∧ Below W.heap.size W w' := fun vc c W h1 h2 => ih (m + 1) (k + 1) vc c W (by omega) (by omega) h1 h2
  have IHg : ∀ vc c W, MomS gl gn gf gp gh 39 gq n l1 l2 x1 x2 S kS cS ch b rows level W → RtP W vc c → Calls Try.prog 71 #[.int .i64 ((m : Int) + 1), .int .i64 (k : Int), vc, .pointer (some ⟨gl, 0, none⟩), .pointer (some ⟨gn, 0, none⟩), .pointer (some ⟨gf, 0, none⟩), .pointer (some ⟨gp, 0, none⟩), .pointer (some ⟨gh, 0, none⟩)] W fun e w' => ∃ v, e = .returned v ∧ RtP w' v (reachV ch b rows level d (m + 1) k c) ∧ Below W.heap.size W w' := fun vc c W h1 h2 => ih (m + 1) k vc c W (by omega) (by omega) h1 h2
  clear ih
  go_enter Try.func71, Try.ntmps71
  go_upto_region 1 with fail; refine wp_name ?_; intro w1 HW1; have hb1 : Below w.heap.size w w1 := by rw [HW1.out]; exact Below.tr (bA _ _) (bA _ _)
  have hx : Blk w1 w.heap.size 25 #[.slice C1 n1 e1, .slice C2 n2 e2] := by rw [HW1.out]; exact Blk.below (Blk.new w _ _) (bA _ _) (Blk.new w _ _).lt
  have hs1 : Sl w1 (w.heap.size + 1) := by
   rw [HW1.out]; have := Sl.new2 (w.alloc (.cells #[.slice C1 n1 e1, .slice C2 n2 e2] 25))
   simpa using this
  clear HW1; have hM1 := hM.below hb1; have hc1 := hc.below hb1; have q1 := hx.cell 0; have q2 := hx.cell 1; simp only [List.getElem?_toArray, List.getElem?_cons_zero, List.getElem?_cons_succ] at q1 q2; obtain ⟨gC, hgC⟩ : ∃ g, Hid (g = w.heap.size) := ⟨_, rfl⟩; have hgr : w.heap.size ≤ w.heap.size + 1 := by omega
  obtain ⟨gr, hgrr⟩ : ∃ g, Hid (g = w.heap.size + 1) := ⟨_, rfl⟩; rw [← hgrr.out] at hs1 hgr ⊢; rw [← hgC.out] at q1 q2 ⊢; have k1 := hM1.cl1; have k2 := hM1.cl2; have kn3 := hM1.cn; go_wp2_with fail; refine (atMost_F _ _ level c _ hM1.lv hc1).mono ?_; rintro e w2 ⟨rfl, hb2⟩; have hbw2 := Below.tr hb1 hb2; have hM2 := hM1.below hb2; have hc2 := hc1.below hb2; have q1 := cell_keep hb2 q1; have q2 := cell_keep hb2 q2; have hs2 := hs1.below hb2; have kn3 := hM2.cn; clear k1 k2
  cases hat : atB level c
  ·have HF : Hid (fv = ch (reachV ch b rows level d (m + 1) (k + 1) (mulV c (factorV b rows m k true))) (reachV ch b rows level d (m + 1) k (mulV c (factorV b rows m k false)))) := by
    show _ = _
    rw [HFV.out, reachV, hat]; rfl
   have qc1 := q1; have qc2 := q2; clear hat HFV hx hs1 hM1 hc1 hb1 hb2 hgC hgrr q1 q2; go_upto_region 5 with fail; refine region_invW (PhiM5 gl gn gf gp gh m k kS cS S (.slice C1 n1 e1) (.slice C2 n2 e2) x1 x2 c (factorV b rows m k true) (factorV b rows m k false) (reachV ch b rows level d (m + 1) (k + 1)) (reachV ch b rows level d (m + 1) k) w2.heap.size) (RT w2.heap.size) (SD w2 14 15 16) (by kernel_rfl) (by kernel_rfl) (by kernel_rfl) PhiM5.keep (SD.start _ _ _ _ _) (fun vs => by simp only [fillR, Act.put, sA, sB, sC, Nat.zero_add, Nat.reduceAdd]; rfl) ?_ ?_
   ·refine sK ?_ (sK ?_ (sK ?_ (sK ?_ (sK ?_ (sK ?_ (sK ?_ (sK ?_ (sK ?_ (sK ?_ (sK ?_ (sK ?_ (sK ?_ (sK ?_ (sK ?_ (sK ?_ (sK ?_ (sZ)))))))))))))))))
    ·as_aux_lemma =>
     intro vs L W hS hL cl hdl hdep K hK; have f0 := cell_keep hS.be hM2.cf; refine ⟨?_⟩; simp only [Act.put, sA, sB, sC, Nat.zero_add, Nat.reduceAdd] at hK ⊢; go_simp; with_reducible refine hK _ _ (RT.refl _ _) (hS.step (Below.refl _ _) 0 _ (by decide) (fun e => absurd e (by decide))) ?_
     exact rfl
    ·as_aux_lemma =>
     intro vs L W hS hL cl hdl hdep K hK; refine ⟨?_⟩; simp only [Act.put, sA, sB, sC, Nat.zero_add, Nat.reduceAdd] at hK ⊢; go_simp; with_reducible refine hK _ _ (RT.refl _ _) (hS.step (Below.refl _ _) 1 _ (by decide) (fun e => absurd e (by decide))) ?_
     exact rfl
    ·as_aux_lemma =>
     intro vs L W hS hL cl hdl hdep K hK; have d0 := hdep ⟨1, .data⟩ (by simp) rfl; simp only [PhiM5] at d0; have sw : IntKind.i64.wrap ((m : Int) + 1) = (m : Int) + 1 := by rw [IntWalk.i64_in _ (by omega)]
     refine ⟨?_⟩; simp only [Act.put, sA, sB, sC, Nat.zero_add, Nat.reduceAdd, d0] at hK ⊢; go_simp; with_reducible refine hK _ _ (RT.refl _ _) (hS.step (Below.refl _ _) 2 _ (by decide) (fun e => absurd e (by decide))) ?_
     exact rfl
    ·as_aux_lemma =>
     intro vs L W hS hL cl hdl hdep K hK; refine ⟨?_⟩; simp only [Act.put, sA, sB, sC, Nat.zero_add, Nat.reduceAdd] at hK ⊢; go_simp; with_reducible refine hK _ _ (RT.refl _ _) (hS.step (Below.refl _ _) 3 _ (by decide) (fun e => absurd e (by decide))) ?_
     exact rfl
    ·as_aux_lemma =>
     intro vs L W hS hL cl hdl hdep K hK; have d0 := hdep ⟨3, .data⟩ (by simp) rfl; simp only [PhiM5] at d0; have sw : IntKind.i64.wrap ((k : Int) + 1) = (k : Int) + 1 := by rw [IntWalk.i64_in _ (by omega)]
     refine ⟨?_⟩; simp only [Act.put, sA, sB, sC, Nat.zero_add, Nat.reduceAdd, d0] at hK ⊢; go_simp; with_reducible refine hK _ _ (RT.refl _ _) (hS.step (Below.refl _ _) 4 _ (by decide) (fun e => absurd e (by decide))) ?_
     exact rfl
    ·as_aux_lemma =>
     intro vs L W hS hL cl hdl hdep K hK; have f1 := cell_keep hS.be qc1; have f2 := cell_keep hS.be qc2; refine ⟨?_⟩; simp only [Act.put, sA, sB, sC, Nat.zero_add, Nat.reduceAdd] at hK ⊢; go_simp; with_reducible refine hK _ _ (RT.refl _ _) (hS.step (Below.refl _ _) 5 _ (by decide) (fun e => absurd e (by decide))) ?_
     exact rfl
    ·as_aux_lemma =>
     intro vs L W hS hL cl hdl hdep K hK; have f0 := cell_keep hS.be hM2.p0; have f1 := cell_keep hS.be hM2.p1; have f2 := cell_keep hS.be hM2.p2; refine ⟨?_⟩; simp only [Act.put, sA, sB, sC, Nat.zero_add, Nat.reduceAdd] at hK ⊢; go_simp; with_reducible refine hK _ _ (RT.refl _ _) (hS.step (Below.refl _ _) 6 _ (by decide) (fun e => absurd e (by decide))) ?_
     exact rfl
    ·as_aux_lemma =>
     intro vs L W hS hL cl hdl hdep K hK; refine ⟨?_⟩; simp only [Act.put, sA, sB, sC, Nat.zero_add, Nat.reduceAdd] at hK ⊢; go_simp; with_reducible refine hK _ _ (RT.refl _ _) (hS.step (Below.refl _ _) 7 _ (by decide) (fun e => absurd e (by decide))) ?_
     exact rfl
    ·as_aux_lemma =>
     intro vs L W hS hL cl hdl hdep K hK; refine ⟨?_⟩; simp only [Act.put, sA, sB, sC, Nat.zero_add, Nat.reduceAdd] at hK ⊢; go_simp; with_reducible refine hK _ _ (RT.refl _ _) (hS.step (Below.refl _ _) 8 _ (by decide) (fun e => absurd e (by decide))) ?_
     exact rfl
    ·as_aux_lemma =>
     intro vs L W hS hL cl hdl hdep K hK; have d0 := hdep ⟨6, .data⟩ (by simp) rfl; simp only [PhiM5] at d0; have d1 := hdep ⟨7, .data⟩ (by simp) rfl; simp only [PhiM5] at d1; have d2 := hdep ⟨8, .data⟩ (by simp) rfl; simp only [PhiM5] at d2; refine ⟨?_⟩; simp only [Act.put, sA, sB, sC, Nat.zero_add, Nat.reduceAdd, d0, d1, d2] at hK ⊢; go_simp; refine (factor_F _ b rows m k true _ (hM2.pl.below hS.be) hm20 HKR.out).mono ?_; rintro e w' ⟨v, rfl, hv, hb⟩; go_wp2_with fail; with_reducible refine hK _ _ (RT.below hb hS.be.size) (hS.step hb 9 _ (by decide) (fun e => absurd e (by decide))) ?_
     exact hv
    ·as_aux_lemma =>
     intro vs L W hS hL cl hdl hdep K hK; have d0 := hdep ⟨5, .data⟩ (by simp) rfl; simp only [PhiM5] at d0; have d1 := hdep ⟨9, .data⟩ (by simp) rfl; simp only [PhiM5] at d1; have r1 := d1; clear d1; refine ⟨?_⟩; simp only [Act.put, sA, sB, sC, Nat.zero_add, Nat.reduceAdd, d0] at hK ⊢; go_simp; refine (mul_V _ _ c (factorV b rows m k true) _ (hc2.below hS.be) r1).mono ?_; rintro e w' ⟨v, er, rfl, hv, hb⟩; go_wp2_with fail; with_reducible refine hK _ _ (RT.below hb hS.be.size) (hS.step hb 10 _ (by decide) (fun e => absurd e (by decide))) ?_
     exact ⟨v, er, rfl, hv⟩
    ·as_aux_lemma =>
     intro vs L W hS hL cl hdl hdep K hK; have d0 := hdep ⟨10, .data⟩ (by simp) rfl; simp only [PhiM5] at d0; refine @exE2 _ _ _ _ d0 ?_; clear d0; intro v0 er0 d0; have e0 := d0.1; have n0 := d0.2; clear d0; refine ⟨?_⟩; simp only [Act.put, sA, sB, sC, Nat.zero_add, Nat.reduceAdd, e0] at hK ⊢; go_simp; with_reducible refine hK _ _ (RT.refl _ _) (hS.step (Below.refl _ _) 11 _ (by decide) (fun e => absurd e (by decide))) ?_
     exact n0
    ·as_aux_lemma =>
     intro vs L W hS hL cl hdl hdep K hK; have d0 := hdep ⟨10, .data⟩ (by simp) rfl; simp only [PhiM5] at d0; refine @exE2 _ _ _ _ d0 ?_; clear d0; intro v0 er0 d0; have e0 := d0.1; have n0 := d0.2; clear d0; refine ⟨?_⟩; simp only [Act.put, sA, sB, sC, Nat.zero_add, Nat.reduceAdd, e0] at hK ⊢; go_simp; with_reducible refine hK _ _ (RT.refl _ _) (hS.step (Below.refl _ _) 12 _ (by decide) (fun e => absurd e (by decide))) ?_
     exact ⟨_, rfl⟩
    ·as_aux_lemma =>
     intro vs L W hS hL cl hdl hdep K hK; have d0 := hdep ⟨11, .data⟩ (by simp) rfl; simp only [PhiM5] at d0; have r0 := d0; clear d0; have d1 := hdep ⟨12, .data⟩ (by simp) rfl; simp only [PhiM5] at d1; refine @exE1 _ _ _ d1 ?_; clear d1; intro er1 d1; have e1 := d1; clear d1; refine ⟨?_⟩; simp only [Act.put, sA, sB, sC, Nat.zero_add, Nat.reduceAdd, e1] at hK ⊢; go_simp; refine (sure_F _ _ (mulV c (factorV b rows m k true)) _ r0).mono ?_; rintro e w' ⟨v, rfl, hv, hb⟩; go_wp2_with fail; with_reducible refine hK _ _ (RT.below hb hS.be.size) (hS.step hb 13 _ (by decide) (fun e => absurd e (by decide))) ?_
     exact hv
    ·as_aux_lemma =>
     intro vs L W hS hL cl hdl hdep K hK; have d0 := hdep ⟨0, .data⟩ (by simp) rfl; simp only [PhiM5] at d0; have d1 := hdep ⟨2, .data⟩ (by simp) rfl; simp only [PhiM5] at d1; have d2 := hdep ⟨4, .data⟩ (by simp) rfl; simp only [PhiM5] at d2; have d3 := hdep ⟨13, .data⟩ (by simp) rfl; simp only [PhiM5] at d3; have r3 := d3; clear d3
     have h16 : L 16 = false := by
      cases h : L 16 with
      | false => rfl
      | true => exact absurd (cl 16 _ rfl h ⟨14, .data⟩ (by simp) rfl) (by rw [hL]; decide)
     refine ⟨?_⟩; simp only [Act.put, sA, sB, sC, Nat.zero_add, Nat.reduceAdd, d0, d1, d2] at hK ⊢; go_simp; refine (IHb _ _ _ (hM2.below hS.be) r3).mono ?_; rintro e w' ⟨v, rfl, hv, hb⟩; obtain ⟨A, k, c, A', k', c', rfl⟩ := hv.shape; go_wp2_with fail; with_reducible refine hK _ _ (RT.below hb hS.be.size) (hS.step hb 14 _ (by decide) (fun _ => h16)) ?_
     exact ⟨_, _, _, _, _, _, rfl, hv⟩
    ·as_aux_lemma =>
     intro vs L W hS hL cl hdl hdep K hK
     have h16 : L 16 = false := by
      cases h : L 16 with
      | false => rfl
      | true => exact absurd (cl 16 _ rfl h ⟨15, .data⟩ (by simp) rfl) (by rw [hL]; decide)
     refine ⟨?_⟩; simp only [Act.put, sA, sB, sC, Nat.zero_add, Nat.reduceAdd] at hK ⊢; go_simp; with_reducible refine hK _ _ (RT.below (bA _ _) hS.be.size) (hS.step (bA _ _) 15 _ (by decide) (fun _ => h16)) ?_
     exact ⟨_, rfl, hS.be.size, none, 0, 0, none, 0, 0, Blk.new _ _ _⟩
    ·as_aux_lemma =>
     intro vs L W hS hL cl hdl hdep K hK; have d0 := hdep ⟨15, .data⟩ (by simp) rfl; simp only [PhiM5] at d0; refine @exE1 _ _ _ d0 ?_; clear d0; intro g0 d0; have e0 := d0.1; have l0 := d0.2.1; have s0 := d0.2.2; clear d0; have d1 := hdep ⟨14, .data⟩ (by simp) rfl; simp only [PhiM5] at d1; refine @exE6 _ _ _ _ _ _ _ _ d1 ?_; clear d1; intro A1 k1 c1 B1 m1 d1 d1; have e1 := d1.1; have n1 := d1.2; clear d1; obtain ⟨⟨a1, q1⟩, ⟨a2, q2⟩, q3, q4⟩ := s0.facts; refine ⟨?_⟩; simp only [Act.put, sA, sB, sC, Nat.zero_add, Nat.reduceAdd, e0, e1] at hK ⊢; go_simp; with_reducible refine hK undef _ (RT.store s0 l0 _ _ _ _ _ _) (hS.stored e0 e1 l0 s0 (by decide) (by decide) _) ?_
     exact trivial
   ·intro vs L w3 hS hall hv; have v8 := hv 14 (by simp); simp only [PhiM5] at v8; obtain ⟨_, _, _, _, _, _, e8', ho⟩ := v8; obtain ⟨ga, A3, k3, c3, B3, m3, d3, e10, e8, hgN, hblk⟩ := hS.st (hall 16 (by simp)); rw [e8] at e8'; rw [← e8'] at ho; have HO := Lib.hid ho; have hbe := hS.be; clear hv hS hall e8' ho; simp only [Act.put, sA, sB, sC, Nat.zero_add, Nat.reduceAdd, e10, e8]; have hM2 := hM2.below hbe; have hc2 := hc2.below hbe; have qc1 := cell_keep hbe qc1; have qc2 := cell_keep hbe qc2; have hs3 := hs2.below hbe; have hbw3 := Below.tr hbw2 hbe; have hva := HO.out; have z1 := hblk.cell 0; have z2 := hblk.cell 1; simp only [List.getElem?_toArray, List.getElem?_cons_zero, List.getElem?_cons_succ] at z1 z2; have z1 := Lib.hid z1; have z2 := Lib.hid z2; clear hblk HO hbe hgN e8 e10 kn3; go_upto_region 6 with fail; refine region_invW (PhiM6 gl gn gf gp gh m k kS cS S (.slice C1 n1 e1) (.slice C2 n2 e2) x1 x2 c (factorV b rows m k true) (factorV b rows m k false) (reachV ch b rows level d (m + 1) (k + 1)) (reachV ch b rows level d (m + 1) k) w3.heap.size) (RT w3.heap.size) (SD w3 13 14 15) (by kernel_rfl) (by kernel_rfl) (by kernel_rfl) PhiM6.keep (SD.start _ _ _ _ _) (fun vs => by simp only [fillR, Act.put, sA, sB, sC, Nat.zero_add, Nat.reduceAdd]; rfl) ?_ ?_
    ·refine sK ?_ (sK ?_ (sK ?_ (sK ?_ (sK ?_ (sK ?_ (sK ?_ (sK ?_ (sK ?_ (sK ?_ (sK ?_ (sK ?_ (sK ?_ (sK ?_ (sK ?_ (sK ?_ (sZ))))))))))))))))
     ·as_aux_lemma =>
      intro vs L W hS hL cl hdl hdep K hK; have f0 := cell_keep hS.be hM2.cf; refine ⟨?_⟩; simp only [Act.put, sA, sB, sC, Nat.zero_add, Nat.reduceAdd] at hK ⊢; go_simp; with_reducible refine hK _ _ (RT.refl _ _) (hS.step (Below.refl _ _) 0 _ (by decide) (fun e => absurd e (by decide))) ?_
      exact rfl
     ·as_aux_lemma =>
      intro vs L W hS hL cl hdl hdep K hK; refine ⟨?_⟩; simp only [Act.put, sA, sB, sC, Nat.zero_add, Nat.reduceAdd] at hK ⊢; go_simp; with_reducible refine hK _ _ (RT.refl _ _) (hS.step (Below.refl _ _) 1 _ (by decide) (fun e => absurd e (by decide))) ?_
      exact rfl
     ·as_aux_lemma =>
      intro vs L W hS hL cl hdl hdep K hK; have d0 := hdep ⟨1, .data⟩ (by simp) rfl; simp only [PhiM6] at d0; have sw : IntKind.i64.wrap ((m : Int) + 1) = (m : Int) + 1 := by rw [IntWalk.i64_in _ (by omega)]
      refine ⟨?_⟩; simp only [Act.put, sA, sB, sC, Nat.zero_add, Nat.reduceAdd, d0] at hK ⊢; go_simp; with_reducible refine hK _ _ (RT.refl _ _) (hS.step (Below.refl _ _) 2 _ (by decide) (fun e => absurd e (by decide))) ?_
      exact rfl
     ·as_aux_lemma =>
      intro vs L W hS hL cl hdl hdep K hK; refine ⟨?_⟩; simp only [Act.put, sA, sB, sC, Nat.zero_add, Nat.reduceAdd] at hK ⊢; go_simp; with_reducible refine hK _ _ (RT.refl _ _) (hS.step (Below.refl _ _) 3 _ (by decide) (fun e => absurd e (by decide))) ?_
      exact rfl
     ·as_aux_lemma =>
      intro vs L W hS hL cl hdl hdep K hK; have f1 := cell_keep hS.be qc1; have f2 := cell_keep hS.be qc2; refine ⟨?_⟩; simp only [Act.put, sA, sB, sC, Nat.zero_add, Nat.reduceAdd] at hK ⊢; go_simp; with_reducible refine hK _ _ (RT.refl _ _) (hS.step (Below.refl _ _) 4 _ (by decide) (fun e => absurd e (by decide))) ?_
      exact rfl
     ·as_aux_lemma =>
      intro vs L W hS hL cl hdl hdep K hK; have f0 := cell_keep hS.be hM2.p0; have f1 := cell_keep hS.be hM2.p1; have f2 := cell_keep hS.be hM2.p2; refine ⟨?_⟩; simp only [Act.put, sA, sB, sC, Nat.zero_add, Nat.reduceAdd] at hK ⊢; go_simp; with_reducible refine hK _ _ (RT.refl _ _) (hS.step (Below.refl _ _) 5 _ (by decide) (fun e => absurd e (by decide))) ?_
      exact rfl
     ·as_aux_lemma =>
      intro vs L W hS hL cl hdl hdep K hK; refine ⟨?_⟩; simp only [Act.put, sA, sB, sC, Nat.zero_add, Nat.reduceAdd] at hK ⊢; go_simp; with_reducible refine hK _ _ (RT.refl _ _) (hS.step (Below.refl _ _) 6 _ (by decide) (fun e => absurd e (by decide))) ?_
      exact rfl
     ·as_aux_lemma =>
      intro vs L W hS hL cl hdl hdep K hK; refine ⟨?_⟩; simp only [Act.put, sA, sB, sC, Nat.zero_add, Nat.reduceAdd] at hK ⊢; go_simp; with_reducible refine hK _ _ (RT.refl _ _) (hS.step (Below.refl _ _) 7 _ (by decide) (fun e => absurd e (by decide))) ?_
      exact rfl
     ·as_aux_lemma =>
      intro vs L W hS hL cl hdl hdep K hK; have d0 := hdep ⟨5, .data⟩ (by simp) rfl; simp only [PhiM6] at d0; have d1 := hdep ⟨6, .data⟩ (by simp) rfl; simp only [PhiM6] at d1; have d2 := hdep ⟨7, .data⟩ (by simp) rfl; simp only [PhiM6] at d2; refine ⟨?_⟩; simp only [Act.put, sA, sB, sC, Nat.zero_add, Nat.reduceAdd, d0, d1, d2] at hK ⊢; go_simp; refine (factor_F _ b rows m k false _ (hM2.pl.below hS.be) hm20 HKR.out).mono ?_; rintro e w' ⟨v, rfl, hv, hb⟩; go_wp2_with fail; with_reducible refine hK _ _ (RT.below hb hS.be.size) (hS.step hb 8 _ (by decide) (fun e => absurd e (by decide))) ?_
      exact hv
     ·as_aux_lemma =>
      intro vs L W hS hL cl hdl hdep K hK; have d0 := hdep ⟨4, .data⟩ (by simp) rfl; simp only [PhiM6] at d0; have d1 := hdep ⟨8, .data⟩ (by simp) rfl; simp only [PhiM6] at d1; have r1 := d1; clear d1; refine ⟨?_⟩; simp only [Act.put, sA, sB, sC, Nat.zero_add, Nat.reduceAdd, d0] at hK ⊢; go_simp; refine (mul_V _ _ c (factorV b rows m k false) _ (hc2.below hS.be) r1).mono ?_; rintro e w' ⟨v, er, rfl, hv, hb⟩; go_wp2_with fail; with_reducible refine hK _ _ (RT.below hb hS.be.size) (hS.step hb 9 _ (by decide) (fun e => absurd e (by decide))) ?_
      exact ⟨v, er, rfl, hv⟩
     ·as_aux_lemma =>
      intro vs L W hS hL cl hdl hdep K hK; have d0 := hdep ⟨9, .data⟩ (by simp) rfl; simp only [PhiM6] at d0; refine @exE2 _ _ _ _ d0 ?_; clear d0; intro v0 er0 d0; have e0 := d0.1; have n0 := d0.2; clear d0; refine ⟨?_⟩; simp only [Act.put, sA, sB, sC, Nat.zero_add, Nat.reduceAdd, e0] at hK ⊢; go_simp; with_reducible refine hK _ _ (RT.refl _ _) (hS.step (Below.refl _ _) 10 _ (by decide) (fun e => absurd e (by decide))) ?_
      exact n0
     ·as_aux_lemma =>
      intro vs L W hS hL cl hdl hdep K hK; have d0 := hdep ⟨9, .data⟩ (by simp) rfl; simp only [PhiM6] at d0; refine @exE2 _ _ _ _ d0 ?_; clear d0; intro v0 er0 d0; have e0 := d0.1; have n0 := d0.2; clear d0; refine ⟨?_⟩; simp only [Act.put, sA, sB, sC, Nat.zero_add, Nat.reduceAdd, e0] at hK ⊢; go_simp; with_reducible refine hK _ _ (RT.refl _ _) (hS.step (Below.refl _ _) 11 _ (by decide) (fun e => absurd e (by decide))) ?_
      exact ⟨_, rfl⟩
     ·as_aux_lemma =>
      intro vs L W hS hL cl hdl hdep K hK; have d0 := hdep ⟨10, .data⟩ (by simp) rfl; simp only [PhiM6] at d0; have r0 := d0; clear d0; have d1 := hdep ⟨11, .data⟩ (by simp) rfl; simp only [PhiM6] at d1; refine @exE1 _ _ _ d1 ?_; clear d1; intro er1 d1; have e1 := d1; clear d1; refine ⟨?_⟩; simp only [Act.put, sA, sB, sC, Nat.zero_add, Nat.reduceAdd, e1] at hK ⊢; go_simp; refine (sure_F _ _ (mulV c (factorV b rows m k false)) _ r0).mono ?_; rintro e w' ⟨v, rfl, hv, hb⟩; go_wp2_with fail; with_reducible refine hK _ _ (RT.below hb hS.be.size) (hS.step hb 12 _ (by decide) (fun e => absurd e (by decide))) ?_
      exact hv
     ·as_aux_lemma =>
      intro vs L W hS hL cl hdl hdep K hK; have d0 := hdep ⟨0, .data⟩ (by simp) rfl; simp only [PhiM6] at d0; have d1 := hdep ⟨2, .data⟩ (by simp) rfl; simp only [PhiM6] at d1; have d2 := hdep ⟨3, .data⟩ (by simp) rfl; simp only [PhiM6] at d2; have d3 := hdep ⟨12, .data⟩ (by simp) rfl; simp only [PhiM6] at d3; have r3 := d3; clear d3
      have h15 : L 15 = false := by
       cases h : L 15 with
       | false => rfl
       | true => exact absurd (cl 15 _ rfl h ⟨13, .data⟩ (by simp) rfl) (by rw [hL]; decide)
      refine ⟨?_⟩; simp only [Act.put, sA, sB, sC, Nat.zero_add, Nat.reduceAdd, d0, d1, d2] at hK ⊢; go_simp; refine (IHg _ _ _ (hM2.below hS.be) r3).mono ?_; rintro e w' ⟨v, rfl, hv, hb⟩; obtain ⟨A, k, c, A', k', c', rfl⟩ := hv.shape; go_wp2_with fail; with_reducible refine hK _ _ (RT.below hb hS.be.size) (hS.step hb 13 _ (by decide) (fun _ => h15)) ?_
      exact ⟨_, _, _, _, _, _, rfl, hv⟩
     ·as_aux_lemma =>
      intro vs L W hS hL cl hdl hdep K hK
      have h15 : L 15 = false := by
       cases h : L 15 with
       | false => rfl
       | true => exact absurd (cl 15 _ rfl h ⟨14, .data⟩ (by simp) rfl) (by rw [hL]; decide)
      refine ⟨?_⟩; simp only [Act.put, sA, sB, sC, Nat.zero_add, Nat.reduceAdd] at hK ⊢; go_simp; with_reducible refine hK _ _ (RT.below (bA _ _) hS.be.size) (hS.step (bA _ _) 14 _ (by decide) (fun _ => h15)) ?_
      exact ⟨_, rfl, hS.be.size, none, 0, 0, none, 0, 0, Blk.new _ _ _⟩
     ·as_aux_lemma =>
      intro vs L W hS hL cl hdl hdep K hK; have d0 := hdep ⟨14, .data⟩ (by simp) rfl; simp only [PhiM6] at d0; refine @exE1 _ _ _ d0 ?_; clear d0; intro g0 d0; have e0 := d0.1; have l0 := d0.2.1; have s0 := d0.2.2; clear d0; have d1 := hdep ⟨13, .data⟩ (by simp) rfl; simp only [PhiM6] at d1; refine @exE6 _ _ _ _ _ _ _ _ d1 ?_; clear d1; intro A1 k1 c1 B1 m1 d1 d1; have e1 := d1.1; have n1 := d1.2; clear d1; obtain ⟨⟨a1, q1⟩, ⟨a2, q2⟩, q3, q4⟩ := s0.facts; refine ⟨?_⟩; simp only [Act.put, sA, sB, sC, Nat.zero_add, Nat.reduceAdd, e0, e1] at hK ⊢; go_simp; with_reducible refine hK undef _ (RT.store s0 l0 _ _ _ _ _ _) (hS.stored e0 e1 l0 s0 (by decide) (by decide) _) ?_
      exact trivial
    ·intro vs L w4 hS hall hv; have v8 := hv 13 (by simp); simp only [PhiM6] at v8; obtain ⟨_, _, _, _, _, _, e8', ho⟩ := v8; obtain ⟨gb, A4, k4, c4, B4, m4, d4, e10, e8, hgN, hblk⟩ := hS.st (hall 15 (by simp)); rw [e8] at e8'; rw [← e8'] at ho; have HO := Lib.hid ho; have hbe := hS.be; clear hv hS hall e8' ho; simp only [Act.put, sA, sB, sC, Nat.zero_add, Nat.reduceAdd, e10, e8]; have hM4 := hM2.below hbe; have hs4 := hs3.below hbe; have hbw4 := Below.tr hbw3 hbe; have hva := hva.below hbe; have z1 := cell_keep hbe z1.out; have z2 := cell_keep hbe z2.out; have u1 := hblk.cell 0; have u2 := hblk.cell 1; simp only [List.getElem?_toArray, List.getElem?_cons_zero, List.getElem?_cons_succ] at u1 u2; have hvb := HO.out; have kc := hM4.chc; have hCH := hM4.chs w4 _ _ _ _ (Below.refl _ _) hva hvb; clear hblk HO hbe hgN e8 e10 hva hvb hM4; go_wp2_with fail; refine hCH.mono ?_; rintro e w5 ⟨v, rfl, hv, hb5⟩; obtain ⟨A, k', c, A', k'', c'', rfl, ⟨a1, q1⟩, ⟨a2, q2⟩, q3, q4, z1, z2, hr, hbz⟩ := ret_ratio (w0 := w) hv (hs4.below hb5) hgr (Below.tr hbw4 hb5); clear hCH u1 u2 kc; go_wp2_with fail; exact bodyPost_ret (v := .agg #[.slice A k' c, .slice A' k'' c'']) (by simp [results, Try.results71, go_sem, z1, z2]) rfl ⟨_, rfl, by rw [HF.out]; exact hr, hbz⟩
  ·have HF : Hid (fv = oneP) := by
    show _ = _
    rw [HFV.out, reachV, hat]; rfl
   clear hat HFV hx hs1 hM1 hc1 hb1 hb2 q1 q2 kn3; go_wp2_with fail; refine (wone_F _).mono ?_; rintro e w3 ⟨v, rfl, hv, hb3⟩; obtain ⟨A, k', c, A', k'', c'', rfl, ⟨a1, q1⟩, ⟨a2, q2⟩, q3, q4, z1, z2, hr, hbz⟩ := ret_ratio (w0 := w) hv (hs2.below hb3) hgr (Below.tr hbw2 hb3); go_wp2_with fail; exact bodyPost_ret (v := .agg #[.slice A k' c, .slice A' k'' c'']) (by simp [results, Try.results71, go_sem, z1, z2]) rfl ⟨_, rfl, by rw [HF.out]; exact hr, hbz⟩
end Go.Proofs.Ytnjjdiilkhdbeaa
namespace Go.Proofs.Ytnjjdiilkhdbeaa
open Go Go.RowKit
set_option maxRecDepth 100000 in
set_option maxHeartbeats 4000000 in
theorem moments_w (gl gn gf gp gh gq n : Nat) (l1 l2 x1 x2 : Value) (S : Option Addr) (kS cS : Nat) (ch : LP → LP → LP) (b : LP) (rows : List (List LP)) (level : LP) (hn : n ≤ 10) (h0 : planE b rows = 0) :
  ∀ (d m k : Nat) (vc : Value) (c : LP) (w : World), m + d = n → k ≤ m → MomS gl gn gf gp gh 41 gq n l1 l2 x1 x2 S kS cS ch b rows level w → RtP w vc c →
  Calls Try.prog 71 #[.int .i64 (m : Int), .int .i64 (k : Int), vc, .pointer (some ⟨gl, 0, none⟩), .pointer (some ⟨gn, 0, none⟩), .pointer (some ⟨gf, 0, none⟩), .pointer (some ⟨gp, 0, none⟩), .pointer (some ⟨gh, 0, none⟩)] w fun e w' => ∃ v, e = .returned v ∧ RtP w' v (reachV ch b rows level d m k c) ∧ Below w.heap.size w w' := by
 intro d
 induction d with
 | zero =>
  intro m k vc c w hmd hkm hM hc; obtain ⟨C1, n1, e1, C2, n2, e2, rfl⟩ := hc.shape; obtain ⟨fv, HFV⟩ : ∃ f, Hid (f = reachV ch b rows level 0 m k c) := ⟨_, rfl⟩; rw [← HFV.out]; have t3 : ((m : Int) == (n : Int)) = true := by simp; omega
  go_enter Try.func71, Try.ntmps71
  go_upto_region 1 with fail; refine wp_name ?_; intro w1 HW1; have hb1 : Below w.heap.size w w1 := by rw [HW1.out]; exact Below.tr (bA _ _) (bA _ _)
  have hx : Blk w1 w.heap.size 25 #[.slice C1 n1 e1, .slice C2 n2 e2] := by rw [HW1.out]; exact Blk.below (Blk.new w _ _) (bA _ _) (Blk.new w _ _).lt
  have hs1 : Sl w1 (w.heap.size + 1) := by
   rw [HW1.out]; have := Sl.new2 (w.alloc (.cells #[.slice C1 n1 e1, .slice C2 n2 e2] 25))
   simpa using this
  clear HW1; have hM1 := hM.below hb1; have hc1 := hc.below hb1; have q1 := hx.cell 0; have q2 := hx.cell 1; simp only [List.getElem?_toArray, List.getElem?_cons_zero, List.getElem?_cons_succ] at q1 q2; obtain ⟨gC, hgC⟩ : ∃ g, Hid (g = w.heap.size) := ⟨_, rfl⟩; have hgr : w.heap.size ≤ w.heap.size + 1 := by omega
  obtain ⟨gr, hgrr⟩ : ∃ g, Hid (g = w.heap.size + 1) := ⟨_, rfl⟩; rw [← hgrr.out] at hs1 hgr ⊢; rw [← hgC.out] at q1 q2 ⊢; have k1 := hM1.cl1; have k2 := hM1.cl2; have kn3 := hM1.cn; go_wp2_with fail; refine (atMost_F _ _ level c _ hM1.lv hc1).mono ?_; rintro e w2 ⟨rfl, hb2⟩; have hbw2 := Below.tr hb1 hb2; have hM2 := hM1.below hb2; have hc2 := hc1.below hb2; have q1 := cell_keep hb2 q1; have q2 := cell_keep hb2 q2; have hs2 := hs1.below hb2; have kn3 := hM2.cn; clear k1 k2
  cases hat : atB level c
  ·have HF : Hid (fv = nilP) := by
    show _ = _
    rw [HFV.out, reachV, hat]; rfl
   clear hat HFV hx hs1 hM1 hc1 hb1 hb2 q1 q2; obtain ⟨A', k', c', A'', k'', c'', he, ⟨a1, e1⟩, ⟨a2, e2⟩, e3, e4, z1, z2, hr, hbz⟩ := ret_ratio (w0 := w) (nil_rtP w2) hs2 hgr hbw2; simp only [nilRat, Value.agg.injEq, Array.mk.injEq, List.cons.injEq, and_true, Value.slice.injEq] at he; obtain ⟨⟨rfl, rfl, rfl⟩, rfl, rfl, rfl⟩ := he; go_wp2_with fail; exact bodyPost_ret (v := .agg #[.slice none 0 0, .slice none 0 0]) (by simp [results, Try.results71, go_sem, z1, z2]) rfl ⟨_, rfl, by rw [HF.out]; exact hr, hbz⟩
  ·have HF : Hid (fv = oneP) := by
    show _ = _
    rw [HFV.out, reachV, hat]; rfl
   clear hat HFV hx hs1 hM1 hc1 hb1 hb2 q1 q2 kn3; go_wp2_with fail; refine (wone_F _).mono ?_; rintro e w3 ⟨v, rfl, hv, hb3⟩; obtain ⟨A, k', c, A', k'', c'', rfl, ⟨a1, q1⟩, ⟨a2, q2⟩, q3, q4, z1, z2, hr, hbz⟩ := ret_ratio (w0 := w) hv (hs2.below hb3) hgr (Below.tr hbw2 hb3); go_wp2_with fail; exact bodyPost_ret (v := .agg #[.slice A k' c, .slice A' k'' c'']) (by simp [results, Try.results71, go_sem, z1, z2]) rfl ⟨_, rfl, by rw [HF.out]; exact hr, hbz⟩
 | succ d ih =>
  intro m k vc c w hmd hkm hM hc; obtain ⟨C1, n1, e1, C2, n2, e2, rfl⟩ := hc.shape; obtain ⟨fv, HFV⟩ : ∃ f, Hid (f = reachV ch b rows level (d + 1) m k c) := ⟨_, rfl⟩; rw [← HFV.out]; have hm20 : m ≤ 1048576 := by omega
  have hm10 : m ≤ 10 := by omega
  have hk10 : k ≤ 10 := by omega
  have t3 : ((m : Int) == (n : Int)) = false := by simp; omega
  have HKR : Hid (∀ r, rows[m]? = some r → k < r.length) := fun r h => by have := plan_row h0 h; omega
  have IHb : ∀ vc c W, MomS gl gn gf gp gh 41 gq n l1 l2 x1 x2 S kS cS ch b rows level W → RtP W vc c → Calls Try.prog 71 #[.int .i64 ((m : Int) + 1), .int .i64 ((k : Int) + 1), vc, .pointer (some ⟨gl, 0, none⟩), .pointer (some ⟨gn, 0, none⟩), .pointer (some ⟨gf, 0, none⟩), .pointer (some ⟨gp, 0, none⟩), .pointer (some ⟨gh, 0, none⟩)] W fun e w' => ∃ v, e = .returned v ∧ RtP w' v (reachV ch b rows level d (m + 1) (k + 1) c) ∧ Below W.heap.size W w' := fun vc c W h1 h2 => ih (m + 1) (k + 1) vc c W (by omega) (by omega) h1 h2
  have IHg : ∀ vc c W, MomS gl gn gf gp gh 41 gq n l1 l2 x1 x2 S kS cS ch b rows level W → RtP W vc c → Calls Try.prog 71 #[.int .i64 ((m : Int) + 1), .int .i64 (k : Int), vc, .pointer (some ⟨gl, 0, none⟩), .pointer (some ⟨gn, 0, none⟩), .pointer (some ⟨gf, 0, none⟩), .pointer (some ⟨gp, 0, none⟩), .pointer (some ⟨gh, 0, none⟩)] W fun e w' => ∃ v, e = .returned v ∧ RtP w' v (reachV ch b rows level d (m + 1) k c) ∧ Below W.heap.size W w' := fun vc c W h1 h2 => ih (m + 1) k vc c W (by omega) (by omega) h1 h2
  clear ih
  go_enter Try.func71, Try.ntmps71
  go_upto_region 1 with fail; refine wp_name ?_; intro w1 HW1; have hb1 : Below w.heap.size w w1 := by rw [HW1.out]; exact Below.tr (bA _ _) (bA _ _)
  have hx : Blk w1 w.heap.size 25 #[.slice C1 n1 e1, .slice C2 n2 e2] := by rw [HW1.out]; exact Blk.below (Blk.new w _ _) (bA _ _) (Blk.new w _ _).lt
  have hs1 : Sl w1 (w.heap.size + 1) := by
   rw [HW1.out]; have := Sl.new2 (w.alloc (.cells #[.slice C1 n1 e1, .slice C2 n2 e2] 25))
   simpa using this
  clear HW1; have hM1 := hM.below hb1; have hc1 := hc.below hb1; have q1 := hx.cell 0; have q2 := hx.cell 1; simp only [List.getElem?_toArray, List.getElem?_cons_zero, List.getElem?_cons_succ] at q1 q2; obtain ⟨gC, hgC⟩ : ∃ g, Hid (g = w.heap.size) := ⟨_, rfl⟩; have hgr : w.heap.size ≤ w.heap.size + 1 := by omega
  obtain ⟨gr, hgrr⟩ : ∃ g, Hid (g = w.heap.size + 1) := ⟨_, rfl⟩; rw [← hgrr.out] at hs1 hgr ⊢; rw [← hgC.out] at q1 q2 ⊢; have k1 := hM1.cl1; have k2 := hM1.cl2; have kn3 := hM1.cn; go_wp2_with fail; refine (atMost_F _ _ level c _ hM1.lv hc1).mono ?_; rintro e w2 ⟨rfl, hb2⟩; have hbw2 := Below.tr hb1 hb2; have hM2 := hM1.below hb2; have hc2 := hc1.below hb2; have q1 := cell_keep hb2 q1; have q2 := cell_keep hb2 q2; have hs2 := hs1.below hb2; have kn3 := hM2.cn; clear k1 k2
  cases hat : atB level c
  ·have HF : Hid (fv = ch (reachV ch b rows level d (m + 1) (k + 1) (mulV c (factorV b rows m k true))) (reachV ch b rows level d (m + 1) k (mulV c (factorV b rows m k false)))) := by
    show _ = _
    rw [HFV.out, reachV, hat]; rfl
   have qc1 := q1; have qc2 := q2; clear hat HFV hx hs1 hM1 hc1 hb1 hb2 hgC hgrr q1 q2; go_upto_region 5 with fail; refine region_invW (PhiM5 gl gn gf gp gh m k kS cS S (.slice C1 n1 e1) (.slice C2 n2 e2) x1 x2 c (factorV b rows m k true) (factorV b rows m k false) (reachV ch b rows level d (m + 1) (k + 1)) (reachV ch b rows level d (m + 1) k) w2.heap.size) (RT w2.heap.size) (SD w2 14 15 16) (by kernel_rfl) (by kernel_rfl) (by kernel_rfl) PhiM5.keep (SD.start _ _ _ _ _) (fun vs => by simp only [fillR, Act.put, sA, sB, sC, Nat.zero_add, Nat.reduceAdd]; rfl) ?_ ?_
   ·refine sK ?_ (sK ?_ (sK ?_ (sK ?_ (sK ?_ (sK ?_ (sK ?_ (sK ?_ (sK ?_ (sK ?_ (sK ?_ (sK ?_ (sK ?_ (sK ?_ (sK ?_ (sK ?_ (sK ?_ (sZ)))))))))))))))))
    ·as_aux_lemma =>
     intro vs L W hS hL cl hdl hdep K hK; have f0 := cell_keep hS.be hM2.cf; refine ⟨?_⟩; simp only [Act.put, sA, sB, sC, Nat.zero_add, Nat.reduceAdd] at hK ⊢; go_simp; with_reducible refine hK _ _ (RT.refl _ _) (hS.step (Below.refl _ _) 0 _ (by decide) (fun e => absurd e (by decide))) ?_
     exact rfl
    ·as_aux_lemma =>
     intro vs L W hS hL cl hdl hdep K hK; refine ⟨?_⟩; simp only [Act.put, sA, sB, sC, Nat.zero_add, Nat.reduceAdd] at hK ⊢; go_simp; with_reducible refine hK _ _ (RT.refl _ _) (hS.step (Below.refl _ _) 1 _ (by decide) (fun e => absurd e (by decide))) ?_
     exact rfl
    ·as_aux_lemma =>
     intro vs L W hS hL cl hdl hdep K hK; have d0 := hdep ⟨1, .data⟩ (by simp) rfl; simp only [PhiM5] at d0; have sw : IntKind.i64.wrap ((m : Int) + 1) = (m : Int) + 1 := by rw [IntWalk.i64_in _ (by omega)]
     refine ⟨?_⟩; simp only [Act.put, sA, sB, sC, Nat.zero_add, Nat.reduceAdd, d0] at hK ⊢; go_simp; with_reducible refine hK _ _ (RT.refl _ _) (hS.step (Below.refl _ _) 2 _ (by decide) (fun e => absurd e (by decide))) ?_
     exact rfl
    ·as_aux_lemma =>
     intro vs L W hS hL cl hdl hdep K hK; refine ⟨?_⟩; simp only [Act.put, sA, sB, sC, Nat.zero_add, Nat.reduceAdd] at hK ⊢; go_simp; with_reducible refine hK _ _ (RT.refl _ _) (hS.step (Below.refl _ _) 3 _ (by decide) (fun e => absurd e (by decide))) ?_
     exact rfl
    ·as_aux_lemma =>
     intro vs L W hS hL cl hdl hdep K hK; have d0 := hdep ⟨3, .data⟩ (by simp) rfl; simp only [PhiM5] at d0; have sw : IntKind.i64.wrap ((k : Int) + 1) = (k : Int) + 1 := by rw [IntWalk.i64_in _ (by omega)]
     refine ⟨?_⟩; simp only [Act.put, sA, sB, sC, Nat.zero_add, Nat.reduceAdd, d0] at hK ⊢; go_simp; with_reducible refine hK _ _ (RT.refl _ _) (hS.step (Below.refl _ _) 4 _ (by decide) (fun e => absurd e (by decide))) ?_
     exact rfl
    ·as_aux_lemma =>
     intro vs L W hS hL cl hdl hdep K hK; have f1 := cell_keep hS.be qc1; have f2 := cell_keep hS.be qc2; refine ⟨?_⟩; simp only [Act.put, sA, sB, sC, Nat.zero_add, Nat.reduceAdd] at hK ⊢; go_simp; with_reducible refine hK _ _ (RT.refl _ _) (hS.step (Below.refl _ _) 5 _ (by decide) (fun e => absurd e (by decide))) ?_
     exact rfl
    ·as_aux_lemma =>
     intro vs L W hS hL cl hdl hdep K hK; have f0 := cell_keep hS.be hM2.p0; have f1 := cell_keep hS.be hM2.p1; have f2 := cell_keep hS.be hM2.p2; refine ⟨?_⟩; simp only [Act.put, sA, sB, sC, Nat.zero_add, Nat.reduceAdd] at hK ⊢; go_simp; with_reducible refine hK _ _ (RT.refl _ _) (hS.step (Below.refl _ _) 6 _ (by decide) (fun e => absurd e (by decide))) ?_
     exact rfl
    ·as_aux_lemma =>
     intro vs L W hS hL cl hdl hdep K hK; refine ⟨?_⟩; simp only [Act.put, sA, sB, sC, Nat.zero_add, Nat.reduceAdd] at hK ⊢; go_simp; with_reducible refine hK _ _ (RT.refl _ _) (hS.step (Below.refl _ _) 7 _ (by decide) (fun e => absurd e (by decide))) ?_
     exact rfl
    ·as_aux_lemma =>
     intro vs L W hS hL cl hdl hdep K hK; refine ⟨?_⟩; simp only [Act.put, sA, sB, sC, Nat.zero_add, Nat.reduceAdd] at hK ⊢; go_simp; with_reducible refine hK _ _ (RT.refl _ _) (hS.step (Below.refl _ _) 8 _ (by decide) (fun e => absurd e (by decide))) ?_
     exact rfl
    ·as_aux_lemma =>
     intro vs L W hS hL cl hdl hdep K hK; have d0 := hdep ⟨6, .data⟩ (by simp) rfl; simp only [PhiM5] at d0; have d1 := hdep ⟨7, .data⟩ (by simp) rfl; simp only [PhiM5] at d1; have d2 := hdep ⟨8, .data⟩ (by simp) rfl; simp only [PhiM5] at d2; refine ⟨?_⟩; simp only [Act.put, sA, sB, sC, Nat.zero_add, Nat.reduceAdd, d0, d1, d2] at hK ⊢; go_simp; refine (factor_F _ b rows m k true _ (hM2.pl.below hS.be) hm20 HKR.out).mono ?_; rintro e w' ⟨v, rfl, hv, hb⟩; go_wp2_with fail; with_reducible refine hK _ _ (RT.below hb hS.be.size) (hS.step hb 9 _ (by decide) (fun e => absurd e (by decide))) ?_
     exact hv
    ·as_aux_lemma =>
     intro vs L W hS hL cl hdl hdep K hK; have d0 := hdep ⟨5, .data⟩ (by simp) rfl; simp only [PhiM5] at d0; have d1 := hdep ⟨9, .data⟩ (by simp) rfl; simp only [PhiM5] at d1; have r1 := d1; clear d1; refine ⟨?_⟩; simp only [Act.put, sA, sB, sC, Nat.zero_add, Nat.reduceAdd, d0] at hK ⊢; go_simp; refine (mul_V _ _ c (factorV b rows m k true) _ (hc2.below hS.be) r1).mono ?_; rintro e w' ⟨v, er, rfl, hv, hb⟩; go_wp2_with fail; with_reducible refine hK _ _ (RT.below hb hS.be.size) (hS.step hb 10 _ (by decide) (fun e => absurd e (by decide))) ?_
     exact ⟨v, er, rfl, hv⟩
    ·as_aux_lemma =>
     intro vs L W hS hL cl hdl hdep K hK; have d0 := hdep ⟨10, .data⟩ (by simp) rfl; simp only [PhiM5] at d0; refine @exE2 _ _ _ _ d0 ?_; clear d0; intro v0 er0 d0; have e0 := d0.1; have n0 := d0.2; clear d0; refine ⟨?_⟩; simp only [Act.put, sA, sB, sC, Nat.zero_add, Nat.reduceAdd, e0] at hK ⊢; go_simp; with_reducible refine hK _ _ (RT.refl _ _) (hS.step (Below.refl _ _) 11 _ (by decide) (fun e => absurd e (by decide))) ?_
     exact n0
    ·as_aux_lemma =>
     intro vs L W hS hL cl hdl hdep K hK; have d0 := hdep ⟨10, .data⟩ (by simp) rfl; simp only [PhiM5] at d0; refine @exE2 _ _ _ _ d0 ?_; clear d0; intro v0 er0 d0; have e0 := d0.1; have n0 := d0.2; clear d0; refine ⟨?_⟩; simp only [Act.put, sA, sB, sC, Nat.zero_add, Nat.reduceAdd, e0] at hK ⊢; go_simp; with_reducible refine hK _ _ (RT.refl _ _) (hS.step (Below.refl _ _) 12 _ (by decide) (fun e => absurd e (by decide))) ?_
     exact ⟨_, rfl⟩
    ·as_aux_lemma =>
     intro vs L W hS hL cl hdl hdep K hK; have d0 := hdep ⟨11, .data⟩ (by simp) rfl; simp only [PhiM5] at d0; have r0 := d0; clear d0; have d1 := hdep ⟨12, .data⟩ (by simp) rfl; simp only [PhiM5] at d1; refine @exE1 _ _ _ d1 ?_; clear d1; intro er1 d1; have e1 := d1; clear d1; refine ⟨?_⟩; simp only [Act.put, sA, sB, sC, Nat.zero_add, Nat.reduceAdd, e1] at hK ⊢; go_simp; refine (sure_F _ _ (mulV c (factorV b rows m k true)) _ r0).mono ?_; rintro e w' ⟨v, rfl, hv, hb⟩; go_wp2_with fail; with_reducible refine hK _ _ (RT.below hb hS.be.size) (hS.step hb 13 _ (by decide) (fun e => absurd e (by decide))) ?_
     exact hv
    ·as_aux_lemma =>
     intro vs L W hS hL cl hdl hdep K hK; have d0 := hdep ⟨0, .data⟩ (by simp) rfl; simp only [PhiM5] at d0; have d1 := hdep ⟨2, .data⟩ (by simp) rfl; simp only [PhiM5] at d1; have d2 := hdep ⟨4, .data⟩ (by simp) rfl; simp only [PhiM5] at d2; have d3 := hdep ⟨13, .data⟩ (by simp) rfl; simp only [PhiM5] at d3; have r3 := d3; clear d3
     have h16 : L 16 = false := by
      cases h : L 16 with
      | false => rfl
      | true => exact absurd (cl 16 _ rfl h ⟨14, .data⟩ (by simp) rfl) (by rw [hL]; decide)
     refine ⟨?_⟩; simp only [Act.put, sA, sB, sC, Nat.zero_add, Nat.reduceAdd, d0, d1, d2] at hK ⊢; go_simp; refine (IHb _ _ _ (hM2.below hS.be) r3).mono ?_; rintro e w' ⟨v, rfl, hv, hb⟩; obtain ⟨A, k, c, A', k', c', rfl⟩ := hv.shape; go_wp2_with fail; with_reducible refine hK _ _ (RT.below hb hS.be.size) (hS.step hb 14 _ (by decide) (fun _ => h16)) ?_
     exact ⟨_, _, _, _, _, _, rfl, hv⟩
    ·as_aux_lemma =>
     intro vs L W hS hL cl hdl hdep K hK
     have h16 : L 16 = false := by
      cases h : L 16 with
      | false => rfl
      | true => exact absurd (cl 16 _ rfl h ⟨15, .data⟩ (by simp) rfl) (by rw [hL]; decide)
     refine ⟨?_⟩; simp only [Act.put, sA, sB, sC, Nat.zero_add, Nat.reduceAdd] at hK ⊢; go_simp; with_reducible refine hK _ _ (RT.below (bA _ _) hS.be.size) (hS.step (bA _ _) 15 _ (by decide) (fun _ => h16)) ?_
     exact ⟨_, rfl, hS.be.size, none, 0, 0, none, 0, 0, Blk.new _ _ _⟩
    ·as_aux_lemma =>
     intro vs L W hS hL cl hdl hdep K hK; have d0 := hdep ⟨15, .data⟩ (by simp) rfl; simp only [PhiM5] at d0; refine @exE1 _ _ _ d0 ?_; clear d0; intro g0 d0; have e0 := d0.1; have l0 := d0.2.1; have s0 := d0.2.2; clear d0; have d1 := hdep ⟨14, .data⟩ (by simp) rfl; simp only [PhiM5] at d1; refine @exE6 _ _ _ _ _ _ _ _ d1 ?_; clear d1; intro A1 k1 c1 B1 m1 d1 d1; have e1 := d1.1; have n1 := d1.2; clear d1; obtain ⟨⟨a1, q1⟩, ⟨a2, q2⟩, q3, q4⟩ := s0.facts; refine ⟨?_⟩; simp only [Act.put, sA, sB, sC, Nat.zero_add, Nat.reduceAdd, e0, e1] at hK ⊢; go_simp; with_reducible refine hK undef _ (RT.store s0 l0 _ _ _ _ _ _) (hS.stored e0 e1 l0 s0 (by decide) (by decide) _) ?_
     exact trivial
   ·intro vs L w3 hS hall hv; have v8 := hv 14 (by simp); simp only [PhiM5] at v8; obtain ⟨_, _, _, _, _, _, e8', ho⟩ := v8; obtain ⟨ga, A3, k3, c3, B3, m3, d3, e10, e8, hgN, hblk⟩ := hS.st (hall 16 (by simp)); rw [e8] at e8'; rw [← e8'] at ho; have HO := Lib.hid ho; have hbe := hS.be; clear hv hS hall e8' ho; simp only [Act.put, sA, sB, sC, Nat.zero_add, Nat.reduceAdd, e10, e8]; have hM2 := hM2.below hbe; have hc2 := hc2.below hbe; have qc1 := cell_keep hbe qc1; have qc2 := cell_keep hbe qc2; have hs3 := hs2.below hbe; have hbw3 := Below.tr hbw2 hbe; have hva := HO.out; have z1 := hblk.cell 0; have z2 := hblk.cell 1; simp only [List.getElem?_toArray, List.getElem?_cons_zero, List.getElem?_cons_succ] at z1 z2; have z1 := Lib.hid z1; have z2 := Lib.hid z2; clear hblk HO hbe hgN e8 e10 kn3; go_upto_region 6 with fail; refine region_invW (PhiM6 gl gn gf gp gh m k kS cS S (.slice C1 n1 e1) (.slice C2 n2 e2) x1 x2 c (factorV b rows m k true) (factorV b rows m k false) (reachV ch b rows level d (m + 1) (k + 1)) (reachV ch b rows level d (m + 1) k) w3.heap.size) (RT w3.heap.size) (SD w3 13 14 15) (by kernel_rfl) (by kernel_rfl) (by kernel_rfl) PhiM6.keep (SD.start _ _ _ _ _) (fun vs => by simp only [fillR, Act.put, sA, sB, sC, Nat.zero_add, Nat.reduceAdd]; rfl) ?_ ?_
    ·refine sK ?_ (sK ?_ (sK ?_ (sK ?_ (sK ?_ (sK ?_ (sK ?_ (sK ?_ (sK ?_ (sK ?_ (sK ?_ (sK ?_ (sK ?_ (sK ?_ (sK ?_ (sK ?_ (sZ))))))))))))))))
     ·as_aux_lemma =>
      intro vs L W hS hL cl hdl hdep K hK; have f0 := cell_keep hS.be hM2.cf; refine ⟨?_⟩; simp only [Act.put, sA, sB, sC, Nat.zero_add, Nat.reduceAdd] at hK ⊢; go_simp; with_reducible refine hK _ _ (RT.refl _ _) (hS.step (Below.refl _ _) 0 _ (by decide) (fun e => absurd e (by decide))) ?_
      exact rfl
     ·as_aux_lemma =>
      intro vs L W hS hL cl hdl hdep K hK; refine ⟨?_⟩; simp only [Act.put, sA, sB, sC, Nat.zero_add, Nat.reduceAdd] at hK ⊢; go_simp; with_reducible refine hK _ _ (RT.refl _ _) (hS.step (Below.refl _ _) 1 _ (by decide) (fun e => absurd e (by decide))) ?_
      exact rfl
     ·as_aux_lemma =>
      intro vs L W hS hL cl hdl hdep K hK; have d0 := hdep ⟨1, .data⟩ (by simp) rfl; simp only [PhiM6] at d0; have sw : IntKind.i64.wrap ((m : Int) + 1) = (m : Int) + 1 := by rw [IntWalk.i64_in _ (by omega)]
      refine ⟨?_⟩; simp only [Act.put, sA, sB, sC, Nat.zero_add, Nat.reduceAdd, d0] at hK ⊢; go_simp; with_reducible refine hK _ _ (RT.refl _ _) (hS.step (Below.refl _ _) 2 _ (by decide) (fun e => absurd e (by decide))) ?_
      exact rfl
     ·as_aux_lemma =>
      intro vs L W hS hL cl hdl hdep K hK; refine ⟨?_⟩; simp only [Act.put, sA, sB, sC, Nat.zero_add, Nat.reduceAdd] at hK ⊢; go_simp; with_reducible refine hK _ _ (RT.refl _ _) (hS.step (Below.refl _ _) 3 _ (by decide) (fun e => absurd e (by decide))) ?_
      exact rfl
     ·as_aux_lemma =>
      intro vs L W hS hL cl hdl hdep K hK; have f1 := cell_keep hS.be qc1; have f2 := cell_keep hS.be qc2; refine ⟨?_⟩; simp only [Act.put, sA, sB, sC, Nat.zero_add, Nat.reduceAdd] at hK ⊢; go_simp; with_reducible refine hK _ _ (RT.refl _ _) (hS.step (Below.refl _ _) 4 _ (by decide) (fun e => absurd e (by decide))) ?_
      exact rfl
     ·as_aux_lemma =>
      intro vs L W hS hL cl hdl hdep K hK; have f0 := cell_keep hS.be hM2.p0; have f1 := cell_keep hS.be hM2.p1; have f2 := cell_keep hS.be hM2.p2; refine ⟨?_⟩; simp only [Act.put, sA, sB, sC, Nat.zero_add, Nat.reduceAdd] at hK ⊢; go_simp; with_reducible refine hK _ _ (RT.refl _ _) (hS.step (Below.refl _ _) 5 _ (by decide) (fun e => absurd e (by decide))) ?_
      exact rfl
     ·as_aux_lemma =>
      intro vs L W hS hL cl hdl hdep K hK; refine ⟨?_⟩; simp only [Act.put, sA, sB, sC, Nat.zero_add, Nat.reduceAdd] at hK ⊢; go_simp; with_reducible refine hK _ _ (RT.refl _ _) (hS.step (Below.refl _ _) 6 _ (by decide) (fun e => absurd e (by decide))) ?_
      exact rfl
     ·as_aux_lemma =>
      intro vs L W hS hL cl hdl hdep K hK; refine ⟨?_⟩; simp only [Act.put, sA, sB, sC, Nat.zero_add, Nat.reduceAdd] at hK ⊢; go_simp; with_reducible refine hK _ _ (RT.refl _ _) (hS.step (Below.refl _ _) 7 _ (by decide) (fun e => absurd e (by decide))) ?_
      exact rfl
     ·as_aux_lemma =>
      intro vs L W hS hL cl hdl hdep K hK; have d0 := hdep ⟨5, .data⟩ (by simp) rfl; simp only [PhiM6] at d0; have d1 := hdep ⟨6, .data⟩ (by simp) rfl; simp only [PhiM6] at d1; have d2 := hdep ⟨7, .data⟩ (by simp) rfl; simp only [PhiM6] at d2; refine ⟨?_⟩; simp only [Act.put, sA, sB, sC, Nat.zero_add, Nat.reduceAdd, d0, d1, d2] at hK ⊢; go_simp; refine (factor_F _ b rows m k false _ (hM2.pl.below hS.be) hm20 HKR.out).mono ?_; rintro e w' ⟨v, rfl, hv, hb⟩; go_wp2_with fail; with_reducible refine hK _ _ (RT.below hb hS.be.size) (hS.step hb 8 _ (by decide) (fun e => absurd e (by decide))) ?_
      exact hv
     ·as_aux_lemma =>
      intro vs L W hS hL cl hdl hdep K hK; have d0 := hdep ⟨4, .data⟩ (by simp) rfl; simp only [PhiM6] at d0; have d1 := hdep ⟨8, .data⟩ (by simp) rfl; simp only [PhiM6] at d1; have r1 := d1; clear d1; refine ⟨?_⟩; simp only [Act.put, sA, sB, sC, Nat.zero_add, Nat.reduceAdd, d0] at hK ⊢; go_simp; refine (mul_V _ _ c (factorV b rows m k false) _ (hc2.below hS.be) r1).mono ?_; rintro e w' ⟨v, er, rfl, hv, hb⟩; go_wp2_with fail; with_reducible refine hK _ _ (RT.below hb hS.be.size) (hS.step hb 9 _ (by decide) (fun e => absurd e (by decide))) ?_
      exact ⟨v, er, rfl, hv⟩
     ·as_aux_lemma =>
      intro vs L W hS hL cl hdl hdep K hK; have d0 := hdep ⟨9, .data⟩ (by simp) rfl; simp only [PhiM6] at d0; refine @exE2 _ _ _ _ d0 ?_; clear d0; intro v0 er0 d0; have e0 := d0.1; have n0 := d0.2; clear d0; refine ⟨?_⟩; simp only [Act.put, sA, sB, sC, Nat.zero_add, Nat.reduceAdd, e0] at hK ⊢; go_simp; with_reducible refine hK _ _ (RT.refl _ _) (hS.step (Below.refl _ _) 10 _ (by decide) (fun e => absurd e (by decide))) ?_
      exact n0
     ·as_aux_lemma =>
      intro vs L W hS hL cl hdl hdep K hK; have d0 := hdep ⟨9, .data⟩ (by simp) rfl; simp only [PhiM6] at d0; refine @exE2 _ _ _ _ d0 ?_; clear d0; intro v0 er0 d0; have e0 := d0.1; have n0 := d0.2; clear d0; refine ⟨?_⟩; simp only [Act.put, sA, sB, sC, Nat.zero_add, Nat.reduceAdd, e0] at hK ⊢; go_simp; with_reducible refine hK _ _ (RT.refl _ _) (hS.step (Below.refl _ _) 11 _ (by decide) (fun e => absurd e (by decide))) ?_
      exact ⟨_, rfl⟩
     ·as_aux_lemma =>
      intro vs L W hS hL cl hdl hdep K hK; have d0 := hdep ⟨10, .data⟩ (by simp) rfl; simp only [PhiM6] at d0; have r0 := d0; clear d0; have d1 := hdep ⟨11, .data⟩ (by simp) rfl; simp only [PhiM6] at d1; refine @exE1 _ _ _ d1 ?_; clear d1; intro er1 d1; have e1 := d1; clear d1; refine ⟨?_⟩; simp only [Act.put, sA, sB, sC, Nat.zero_add, Nat.reduceAdd, e1] at hK ⊢; go_simp; refine (sure_F _ _ (mulV c (factorV b rows m k false)) _ r0).mono ?_; rintro e w' ⟨v, rfl, hv, hb⟩; go_wp2_with fail; with_reducible refine hK _ _ (RT.below hb hS.be.size) (hS.step hb 12 _ (by decide) (fun e => absurd e (by decide))) ?_
      exact hv
     ·as_aux_lemma =>
      intro vs L W hS hL cl hdl hdep K hK; have d0 := hdep ⟨0, .data⟩ (by simp) rfl; simp only [PhiM6] at d0; have d1 := hdep ⟨2, .data⟩ (by simp) rfl; simp only [PhiM6] at d1; have d2 := hdep ⟨3, .data⟩ (by simp) rfl; simp only [PhiM6] at d2; have d3 := hdep ⟨12, .data⟩ (by simp) rfl; simp only [PhiM6] at d3; have r3 := d3; clear d3
      have h15 : L 15 = false := by
       cases h : L 15 with
       | false => rfl
       | true => exact absurd (cl 15 _ rfl h ⟨13, .data⟩ (by simp) rfl) (by rw [hL]; decide)
      refine ⟨?_⟩; simp only [Act.put, sA, sB, sC, Nat.zero_add, Nat.reduceAdd, d0, d1, d2] at hK ⊢; go_simp; refine (IHg _ _ _ (hM2.below hS.be) r3).mono ?_; rintro e w' ⟨v, rfl, hv, hb⟩; obtain ⟨A, k, c, A', k', c', rfl⟩ := hv.shape; go_wp2_with fail; with_reducible refine hK _ _ (RT.below hb hS.be.size) (hS.step hb 13 _ (by decide) (fun _ => h15)) ?_
      exact ⟨_, _, _, _, _, _, rfl, hv⟩
     ·as_aux_lemma =>
      intro vs L W hS hL cl hdl hdep K hK
      have h15 : L 15 = false := by
       cases h : L 15 with
       | false => rfl
       | true => exact absurd (cl 15 _ rfl h ⟨14, .data⟩ (by simp) rfl) (by rw [hL]; decide)
      refine ⟨?_⟩; simp only [Act.put, sA, sB, sC, Nat.zero_add, Nat.reduceAdd] at hK ⊢; go_simp; with_reducible refine hK _ _ (RT.below (bA _ _) hS.be.size) (hS.step (bA _ _) 14 _ (by decide) (fun _ => h15)) ?_
      exact ⟨_, rfl, hS.be.size, none, 0, 0, none, 0, 0, Blk.new _ _ _⟩
     ·as_aux_lemma =>
      intro vs L W hS hL cl hdl hdep K hK; have d0 := hdep ⟨14, .data⟩ (by simp) rfl; simp only [PhiM6] at d0; refine @exE1 _ _ _ d0 ?_; clear d0; intro g0 d0; have e0 := d0.1; have l0 := d0.2.1; have s0 := d0.2.2; clear d0; have d1 := hdep ⟨13, .data⟩ (by simp) rfl; simp only [PhiM6] at d1; refine @exE6 _ _ _ _ _ _ _ _ d1 ?_; clear d1; intro A1 k1 c1 B1 m1 d1 d1; have e1 := d1.1; have n1 := d1.2; clear d1; obtain ⟨⟨a1, q1⟩, ⟨a2, q2⟩, q3, q4⟩ := s0.facts; refine ⟨?_⟩; simp only [Act.put, sA, sB, sC, Nat.zero_add, Nat.reduceAdd, e0, e1] at hK ⊢; go_simp; with_reducible refine hK undef _ (RT.store s0 l0 _ _ _ _ _ _) (hS.stored e0 e1 l0 s0 (by decide) (by decide) _) ?_
      exact trivial
    ·intro vs L w4 hS hall hv; have v8 := hv 13 (by simp); simp only [PhiM6] at v8; obtain ⟨_, _, _, _, _, _, e8', ho⟩ := v8; obtain ⟨gb, A4, k4, c4, B4, m4, d4, e10, e8, hgN, hblk⟩ := hS.st (hall 15 (by simp)); rw [e8] at e8'; rw [← e8'] at ho; have HO := Lib.hid ho; have hbe := hS.be; clear hv hS hall e8' ho; simp only [Act.put, sA, sB, sC, Nat.zero_add, Nat.reduceAdd, e10, e8]; have hM4 := hM2.below hbe; have hs4 := hs3.below hbe; have hbw4 := Below.tr hbw3 hbe; have hva := hva.below hbe; have z1 := cell_keep hbe z1.out; have z2 := cell_keep hbe z2.out; have u1 := hblk.cell 0; have u2 := hblk.cell 1; simp only [List.getElem?_toArray, List.getElem?_cons_zero, List.getElem?_cons_succ] at u1 u2; have hvb := HO.out; have kc := hM4.chc; have hCH := hM4.chs w4 _ _ _ _ (Below.refl _ _) hva hvb; clear hblk HO hbe hgN e8 e10 hva hvb hM4; go_wp2_with fail; refine hCH.mono ?_; rintro e w5 ⟨v, rfl, hv, hb5⟩; obtain ⟨A, k', c, A', k'', c'', rfl, ⟨a1, q1⟩, ⟨a2, q2⟩, q3, q4, z1, z2, hr, hbz⟩ := ret_ratio (w0 := w) hv (hs4.below hb5) hgr (Below.tr hbw4 hb5); clear hCH u1 u2 kc; go_wp2_with fail; exact bodyPost_ret (v := .agg #[.slice A k' c, .slice A' k'' c'']) (by simp [results, Try.results71, go_sem, z1, z2]) rfl ⟨_, rfl, by rw [HF.out]; exact hr, hbz⟩
  ·have HF : Hid (fv = oneP) := by
    show _ = _
    rw [HFV.out, reachV, hat]; rfl
   clear hat HFV hx hs1 hM1 hc1 hb1 hb2 q1 q2 kn3; go_wp2_with fail; refine (wone_F _).mono ?_; rintro e w3 ⟨v, rfl, hv, hb3⟩; obtain ⟨A, k', c, A', k'', c'', rfl, ⟨a1, q1⟩, ⟨a2, q2⟩, q3, q4, z1, z2, hr, hbz⟩ := ret_ratio (w0 := w) hv (hs2.below hb3) hgr (Below.tr hbw2 hb3); go_wp2_with fail; exact bodyPost_ret (v := .agg #[.slice A k' c, .slice A' k'' c'']) (by simp [results, Try.results71, go_sem, z1, z2]) rfl ⟨_, rfl, by rw [HF.out]; exact hr, hbz⟩
end Go.Proofs.Ytnjjdiilkhdbeaa
namespace Go.Proofs.Ytnjjdiilkhdbeaa
open Go Go.RowKit
noncomputable def worstV (bd a g : LP) : LP := if atB g (mixV bd a g) then mixV bd a g else g
set_option maxRecDepth 10000 in
set_option maxHeartbeats 1000000 in
theorem chs_reach (gq : Nat) (q1 q2 : Value) (q : LP) (w : World) (h0 : w.cell? ⟨gq, 0, none⟩ = some q1) (h1 : w.cell? ⟨gq, 1, none⟩ = some q2) (hq : RtP w (.agg #[q1, q2]) q) : ChS 39 gq (mixV q) w := by
 intro W va vb a b hbW ha hb0; obtain ⟨A1, ak1, ac1, A2, ak2, ac2, rfl⟩ := ha.shape; obtain ⟨B1, bk1, bc1, B2, bk2, bc2, rfl⟩ := hb0.shape; have hq := hq.below hbW; have h0 := cell_keep hbW h0; have h1 := cell_keep hbW h1
 go_enter Try.func39, Try.ntmps39
 go_upto_region 1 with fail; refine wp_name ?_; intro w1 HW1; have n1 : (W.alloc (.cells #[.slice A1 ak1 ac1, .slice A2 ak2 ac2] 25)).heap.size = W.heap.size + 1 := by simp
 have n2 : ((W.alloc (.cells #[.slice A1 ak1 ac1, .slice A2 ak2 ac2] 25)).alloc (.cells #[.slice B1 bk1 bc1, .slice B2 bk2 bc2] 25)).heap.size = W.heap.size + 2 := by simp
 have k1 := bA W (.cells #[.slice A1 ak1 ac1, .slice A2 ak2 ac2] 25); have k2 := bA (W.alloc (.cells #[.slice A1 ak1 ac1, .slice A2 ak2 ac2] 25)) (.cells #[.slice B1 bk1 bc1, .slice B2 bk2 bc2] 25); have k3 := bA ((W.alloc (.cells #[.slice A1 ak1 ac1, .slice A2 ak2 ac2] 25)).alloc (.cells #[.slice B1 bk1 bc1, .slice B2 bk2 bc2] 25)) (.cells #[.slice none 0 0, .slice none 0 0] 25); have hx : Blk w1 W.heap.size 25 #[.slice A1 ak1 ac1, .slice A2 ak2 ac2] := by rw [HW1.out]; exact Blk.below (Blk.new W _ _) (Below.tr k2 k3) (Blk.new W _ _).lt
 have hy : Blk w1 (W.heap.size + 1) 25 #[.slice B1 bk1 bc1, .slice B2 bk2 bc2] := by
  rw [HW1.out, ← n1]; exact Blk.below (Blk.new _ _ _) k3 (Blk.new _ _ _).lt
 have hz : Sl w1 (W.heap.size + 2) := by
  rw [HW1.out, ← n2]; exact Sl.new2 _
 have hb1 : Below W.heap.size W w1 := by rw [HW1.out]; exact Below.tr (Below.tr k1 k2) k3
 clear HW1 n1 n2 k1 k2 k3; have p0 := hx.cell 0; have p1 := hx.cell 1; have p2 := hy.cell 0; have p3 := hy.cell 1; simp only [List.getElem?_toArray, List.getElem?_cons_zero, List.getElem?_cons_succ] at p0 p1 p2 p3; have h0 := cell_keep hb1 h0; have h1 := cell_keep hb1 h1; have hgr : W.heap.size ≤ W.heap.size + 2 := by omega
 obtain ⟨gr, hgrr⟩ : ∃ g, Hid (g = W.heap.size + 2) := ⟨_, rfl⟩; obtain ⟨ga, hga⟩ : ∃ g, Hid (g = W.heap.size) := ⟨_, rfl⟩; obtain ⟨gb, hgb⟩ : ∃ g, Hid (g = W.heap.size + 1) := ⟨_, rfl⟩; rw [← hgrr.out] at hz hgr ⊢; rw [← hga.out] at p0 p1; rw [← hgb.out] at p2 p3 ⊢; rw [← hga.out]; clear hx hy; go_wp2_with fail; refine (mix_F _ _ _ q a b _ (hq.below hb1) (ha.below hb1) (hb0.below hb1)).mono ?_; rintro e w2 ⟨v, rfl, hv, hb2⟩; obtain ⟨A, k', c, A', k'', c'', rfl, ⟨a1, q1⟩, ⟨a2, q2⟩, q3, q4, z1, z2, hr, hbz⟩ := ret_ratio (w0 := W) hv (hz.below hb2) hgr (Below.tr hb1 hb2); clear p0 p1 p2 p3 h0 h1; go_wp2_with fail; exact bodyPost_ret (v := .agg #[.slice A k' c, .slice A' k'' c'']) (by simp [results, Try.results39, go_sem, z1, z2]) rfl ⟨_, rfl, hr, hbz⟩
set_option maxRecDepth 10000 in
set_option maxHeartbeats 1000000 in
theorem chs_worst (gq : Nat) (q1 q2 : Value) (q : LP) (w : World) (h0 : w.cell? ⟨gq, 0, none⟩ = some q1) (h1 : w.cell? ⟨gq, 1, none⟩ = some q2) (hq : RtP w (.agg #[q1, q2]) q) : ChS 41 gq (worstV q) w := by
 intro W va vb a b hbW ha hb0; obtain ⟨A1, ak1, ac1, A2, ak2, ac2, rfl⟩ := ha.shape; obtain ⟨B1, bk1, bc1, B2, bk2, bc2, rfl⟩ := hb0.shape; have hq := hq.below hbW; have h0 := cell_keep hbW h0; have h1 := cell_keep hbW h1
 go_enter Try.func41, Try.ntmps41
 go_upto_region 1 with fail; refine wp_name ?_; intro w1 HW1; have n1 : (W.alloc (.cells #[.slice A1 ak1 ac1, .slice A2 ak2 ac2] 25)).heap.size = W.heap.size + 1 := by simp
 have n2 : ((W.alloc (.cells #[.slice A1 ak1 ac1, .slice A2 ak2 ac2] 25)).alloc (.cells #[.slice B1 bk1 bc1, .slice B2 bk2 bc2] 25)).heap.size = W.heap.size + 2 := by simp
 have k1 := bA W (.cells #[.slice A1 ak1 ac1, .slice A2 ak2 ac2] 25); have k2 := bA (W.alloc (.cells #[.slice A1 ak1 ac1, .slice A2 ak2 ac2] 25)) (.cells #[.slice B1 bk1 bc1, .slice B2 bk2 bc2] 25); have k3 := bA ((W.alloc (.cells #[.slice A1 ak1 ac1, .slice A2 ak2 ac2] 25)).alloc (.cells #[.slice B1 bk1 bc1, .slice B2 bk2 bc2] 25)) (.cells #[.slice none 0 0, .slice none 0 0] 25); have hx : Blk w1 W.heap.size 25 #[.slice A1 ak1 ac1, .slice A2 ak2 ac2] := by rw [HW1.out]; exact Blk.below (Blk.new W _ _) (Below.tr k2 k3) (Blk.new W _ _).lt
 have hy : Blk w1 (W.heap.size + 1) 25 #[.slice B1 bk1 bc1, .slice B2 bk2 bc2] := by
  rw [HW1.out, ← n1]; exact Blk.below (Blk.new _ _ _) k3 (Blk.new _ _ _).lt
 have hz : Sl w1 (W.heap.size + 2) := by
  rw [HW1.out, ← n2]; exact Sl.new2 _
 have hb1 : Below W.heap.size W w1 := by rw [HW1.out]; exact Below.tr (Below.tr k1 k2) k3
 clear HW1 n1 n2 k1 k2 k3; have p0 := hx.cell 0; have p1 := hx.cell 1; have p2 := hy.cell 0; have p3 := hy.cell 1; simp only [List.getElem?_toArray, List.getElem?_cons_zero, List.getElem?_cons_succ] at p0 p1 p2 p3; have h0 := cell_keep hb1 h0; have h1 := cell_keep hb1 h1; have hgr : W.heap.size ≤ W.heap.size + 2 := by omega
 obtain ⟨gr, hgrr⟩ : ∃ g, Hid (g = W.heap.size + 2) := ⟨_, rfl⟩; obtain ⟨ga, hga⟩ : ∃ g, Hid (g = W.heap.size) := ⟨_, rfl⟩; obtain ⟨gb, hgb⟩ : ∃ g, Hid (g = W.heap.size + 1) := ⟨_, rfl⟩; rw [← hgrr.out] at hz hgr ⊢; rw [← hga.out] at p0 p1; rw [← hgb.out] at p2 p3 ⊢; rw [← hga.out]; clear hx hy; go_wp2_with fail; refine (mix_F _ _ _ q a b _ (hq.below hb1) (ha.below hb1) (hb0.below hb1)).mono ?_; rintro e w2 ⟨v, rfl, hv, hb2⟩; obtain ⟨C1, ck1, cc1, C2, ck2, cc2, rfl⟩ := hv.shape; have p2 := cell_keep hb2 p2; have p3 := cell_keep hb2 p3; clear p0 p1 h0 h1; go_upto_region 2 with fail; refine wp_name ?_; intro w3 HW3; have hb3 : Below w2.heap.size w2 w3 := by rw [HW3.out]; exact bA _ _
 have hm : Blk w3 w2.heap.size 25 #[.slice C1 ck1 cc1, .slice C2 ck2 cc2] := by rw [HW3.out]; exact Blk.new _ _ _
 obtain ⟨gm, hgm⟩ : ∃ g, Hid (g = w2.heap.size) := ⟨_, rfl⟩; rw [← hgm.out] at hm ⊢; have m0 := hm.cell 0; have m1 := hm.cell 1; simp only [List.getElem?_toArray, List.getElem?_cons_zero, List.getElem?_cons_succ] at m0 m1; have p2 := cell_keep hb3 p2; have p3 := cell_keep hb3 p3; have hv := hv.below hb3; have hg := ((hb0.below hb1).below hb2).below hb3; clear HW3 hm; go_wp2_with fail; refine (atMost_F _ _ b (mixV q a b) _ hg hv).mono ?_; rintro e w4 ⟨rfl, hb4⟩; have p2 := cell_keep hb4 p2; have p3 := cell_keep hb4 p3; have m0 := cell_keep hb4 m0; have m1 := cell_keep hb4 m1; have hbw4 := Below.tr (Below.tr (Below.tr hb1 hb2) hb3) hb4; have hz4 := ((hz.below hb2).below hb3).below hb4; have hv := hv.below hb4; have hg := hg.below hb4
 cases hat : atB b (mixV q a b)
 ·have HF : Hid (worstV q a b = b) := by show _ = _; unfold worstV; rw [hat]; rfl
  obtain ⟨A, k', c, A', k'', c'', he, ⟨a1, q1⟩, ⟨a2, q2⟩, q3, q4, z1, z2, hr, hbz⟩ := ret_ratio (w0 := W) hg hz4 hgr hbw4; simp only [Value.agg.injEq, Array.mk.injEq, List.cons.injEq, and_true, Value.slice.injEq] at he; obtain ⟨⟨rfl, rfl, rfl⟩, rfl, rfl, rfl⟩ := he; clear hat; go_wp2_with fail; exact bodyPost_ret (v := .agg #[.slice B1 bk1 bc1, .slice B2 bk2 bc2]) (by simp [results, Try.results41, go_sem, z1, z2]) rfl ⟨_, rfl, by rw [HF.out]; exact hr, hbz⟩
 ·have HF : Hid (worstV q a b = mixV q a b) := by show _ = _; unfold worstV; rw [hat]; rfl
  obtain ⟨A, k', c, A', k'', c'', he, ⟨a1, q1⟩, ⟨a2, q2⟩, q3, q4, z1, z2, hr, hbz⟩ := ret_ratio (w0 := W) hv hz4 hgr hbw4; simp only [Value.agg.injEq, Array.mk.injEq, List.cons.injEq, and_true, Value.slice.injEq] at he; obtain ⟨⟨rfl, rfl, rfl⟩, rfl, rfl, rfl⟩ := he; clear hat; go_wp2_with fail; exact bodyPost_ret (v := .agg #[.slice C1 ck1 cc1, .slice C2 ck2 cc2]) (by simp [results, Try.results41, go_sem, z1, z2]) rfl ⟨_, rfl, by rw [HF.out]; exact hr, hbz⟩
end Go.Proofs.Ytnjjdiilkhdbeaa
