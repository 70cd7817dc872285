import Derived.Test.YtnjjdiilkhdbeaaKFairProof29
import Derived.Test.YtnjjdiilkhdbeaaKFairProof30
import Derived.Test.YtnjjdiilkhdbeaaS0
set_option linter.unusedVariables false
set_option linter.unusedSimpArgs false
namespace Go.Proofs.Ytnjjdiilkhdbeaa
open Go Go.RowKit
theorem fexp (va vq : Value) (b q : LP) (rows : List (List LP)) (z : Nat) (w : World) (hE : expE b rows q z = 0) (hp : PlanV w va b rows) (hq : RtP w vq q) : Calls Try.prog 19 #[va, vq, .int .i64 (z : Int)] w fun e w' => ∃ v, e = .returned (.tuple #[v, .int .i64 0]) ∧ RtP w' v (expX b rows q z) ∧ Below w.heap.size w w' := by
 have h := expect_F va vq b q rows z w hp hq; rw [hE] at h; exact h
theorem expE_ok {b q : LP} {rows : List (List LP)} {z : Nat} (h : planE b rows = 0) (hq : partB q = true) (hz : z ≤ 16) : expE b rows q z = 0 := by
 unfold expE; rw [if_neg (by rw [h]; simp), hq, if_neg (by simp), if_neg (by omega)]
theorem expX_ok {b q : LP} {rows : List (List LP)} {z : Nat} (h : planE b rows = 0) (hq : partB q = true) (hz : z ≤ 16) : expX b rows q z = (sumF nilP (expL b rows q z)).2 := by
 unfold expX; rw [if_neg (by rw [expE_ok h hq hz]; simp)]; rfl
/-- the expectation by the bound is 1, by a lesser measure at most 1, by a greater one at least 1 -/
theorem fair_law {b q : LP} {rows : List (List LP)} {z : Nat} (h : planE b rows = 0) (hb : okP b) (hr : ∀ r ∈ rows, ∀ s ∈ r, okP s) (hqo : okP q) (hq : partB q = true) (hz : z ≤ 16) :
  expX b rows b z = redP 1 1 ∧ validP (expX b rows q z) = 0 ∧ ((0 < cmpV q b ∨ cmpV (expX b rows q z) (redP 1 1) ≤ 0) ∧ (cmpV q b < 0 ∨ 0 ≤ cmpV (expX b rows q z) (redP 1 1))) := by
 obtain ⟨pb, qb, hP⟩ := planN_of h hb hr; obtain ⟨pd, qd, hf, hle, hq2⟩ := partB_num hqo hq; have hpb := (planE_zero h).2.1; have one : Frac (redP 1 1) 1 1 := fr (by omega) (by omega) (by omega); refine ⟨?_, ?_⟩
 ·rw [expX_ok h hpb hz]; obtain ⟨n, D, h1, h2, h3, h4⟩ := exp_num hP hP.bd hP.le hP.qle hz; have e : n = D := Nat.le_antisymm (h3 (by rw [Nat.mul_comm]; exact Nat.le_refl _)) (h4 (by rw [Nat.mul_comm]; exact Nat.le_refl _)); subst e; rw [h1]; exact h2.uniq one (Nat.mul_comm _ _)
 ·rw [expX_ok h hq hz]; obtain ⟨n, D, h1, h2, h3, h4⟩ := exp_num hP hf hle hq2 hz; rw [h1]; refine ⟨h2.valid, ?_⟩; rw [hf.cmp hP.bd, h2.cmp one]; have e : qd * pb = pb * qd := Nat.mul_comm _ _; rw [e] at h3 h4; unfold Nm.cmpN
  constructor
  ·by_cases hc : pd * qb ≤ pb * qd
   ·right
    have := h3 hc
    split <;> (try split) <;> omega
   ·left
    rw [if_neg (by omega), if_pos (by omega)]; omega
  ·by_cases hc : pb * qd ≤ pd * qb
   ·right
    have := h4 hc
    split <;> (try split) <;> omega
   ·left
    rw [if_pos (by omega)]; omega
def PhiF4 (p0 x1 x2 : Value) (gP z : Nat) (X : LP) (B : Nat) (j : Nat) (w : World) (x : Value) : Prop :=
 match j with
 | 0 => x = p0
 | 1 => x = p0
 | 2 => x = .pointer (some ⟨gP, 0, none⟩)
 | 3 => x = .agg #[x1, x2]
 | 4 => x = .int .i64 (z : Nat)
 | 5 => ∃ v, x = .tuple #[v, .int .i64 (0 : Int)] ∧ RtP w v X
 | 6 => ∃ v, x = .tuple #[v, .int .i64 (0 : Int)] ∧ RtP w v X
 | 7 => ∃ A k c A' k' c', x = .agg #[.slice A k c, .slice A' k' c'] ∧ RtP w (.agg #[.slice A k c, .slice A' k' c']) X
 | 8 => x = .int .i64 (0 : Int)
 | 9 => ∃ g, x = .pointer (some ⟨g, 0, none⟩) ∧ B ≤ g ∧ Sl w g
 | 10 => True
 | 11 => x = .int .i64 (0 : Int)
 | _ => True
theorem PhiF4.keep {p0 x1 x2 : Value} {gP z : Nat} {X : LP} {B : Nat} : ∀ (w w' : World), RT B w w' → ∀ j x, PhiF4 p0 x1 x2 gP z X B j w x → PhiF4 p0 x1 x2 gP z X B j w' x := by
 intro w w' hr j x h; unfold PhiF4 at h ⊢
 split <;> simp only at h ⊢
 all_goals first
  | exact h
  | (obtain ⟨v, e, h⟩ := h; exact ⟨v, e, h.mapL hr.lim⟩)
  | (obtain ⟨A, k, c, A', k', c', e, h⟩ := h; exact ⟨A, k, c, A', k', c', e, h.mapL hr.lim⟩)
  | (obtain ⟨g, e, h1, h2⟩ := h; exact ⟨g, e, h1, hr.sl g h2⟩)
  | exact h.mapL hr.lim
def PhiF5f (p0 x1 x2 : Value) (z : Nat) (X : LP) (B : Nat) (j : Nat) (w : World) (x : Value) : Prop :=
 match j with
 | 0 => x = p0
 | 1 => x = p0
 | 2 => x = .agg #[x1, x2]
 | 3 => x = .int .i64 (z : Nat)
 | 4 => ∃ v, x = .tuple #[v, .int .i64 (0 : Int)] ∧ RtP w v X
 | 5 => ∃ v, x = .tuple #[v, .int .i64 (0 : Int)] ∧ RtP w v X
 | 6 => ∃ A k c A' k' c', x = .agg #[.slice A k c, .slice A' k' c'] ∧ RtP w (.agg #[.slice A k c, .slice A' k' c']) X
 | 7 => x = .int .i64 (0 : Int)
 | 8 => ∃ g, x = .pointer (some ⟨g, 0, none⟩) ∧ B ≤ g ∧ Sl w g
 | 9 => True
 | 10 => x = .int .i64 (0 : Int)
 | _ => True
theorem PhiF5f.keep {p0 x1 x2 : Value} {z : Nat} {X : LP} {B : Nat} : ∀ (w w' : World), RT B w w' → ∀ j x, PhiF5f p0 x1 x2 z X B j w x → PhiF5f p0 x1 x2 z X B j w' x := by
 intro w w' hr j x h; unfold PhiF5f at h ⊢
 split <;> simp only at h ⊢
 all_goals first
  | exact h
  | (obtain ⟨v, e, h⟩ := h; exact ⟨v, e, h.mapL hr.lim⟩)
  | (obtain ⟨A, k, c, A', k', c', e, h⟩ := h; exact ⟨A, k, c, A', k', c', e, h.mapL hr.lim⟩)
  | (obtain ⟨g, e, h1, h2⟩ := h; exact ⟨g, e, h1, hr.sl g h2⟩)
  | exact h.mapL hr.lim
def PhiF7f (y1 y2 : Value) (cc : Int) (j : Nat) (w : World) (x : Value) : Prop :=
 match j with
 | 0 => x = .agg #[y1, y2]
 | 1 => RtP w x (redP 1 1)
 | 2 => x = .tuple #[.int .i64 cc, .int .i64 0]
 | 3 => x = .tuple #[.int .i64 cc, .int .i64 0]
 | 4 => x = .int .i64 cc
 | 5 => x = .int .i64 0
 | 6 => x = .int .i64 cc
 | 7 => x = .int .i64 0
 | _ => True
theorem PhiF7f.keep {y1 y2 : Value} {cc : Int} : ∀ (w w' : World), Below w.heap.size w w' → ∀ j x, PhiF7f y1 y2 cc j w x → PhiF7f y1 y2 cc j w' x := by
 intro w w' hb j x h; unfold PhiF7f at h ⊢
 split <;> simp only at h ⊢
 all_goals first
  | exact h
  | exact h.below hb
def PhiF8f (y1 y2 : Value) (j : Nat) (w : World) (x : Value) : Prop :=
 match j with
 | 0 => x = .int .i64 0
 | 1 => x = .bool false
 | 2 => x = .bool false
 | 3 => x = .int .i64 0
 | 4 => x = .bool false
 | 5 => x = .bool false
 | 6 => x = .bool false
 | 7 => x = .int .i64 0
 | 8 => x = .bool false
 | 9 => x = .bool false
 | 10 => x = .bool false
 | 11 => x = .int .i64 0
 | 12 => x = .bool false
 | 13 => x = .bool false
 | 14 => x = .bool false
 | 15 => x = .agg #[y1, y2]
 | 16 => RtP w x (redP 1 1)
 | 17 => x = .bool true
 | 18 => x = .bool false
 | 19 => x = .bool false
 | _ => True
theorem PhiF8f.keep {y1 y2 : Value} : ∀ (w w' : World), Below w.heap.size w w' → ∀ j x, PhiF8f y1 y2 j w x → PhiF8f y1 y2 j w' x := by
 intro w w' hb j x h; unfold PhiF8f at h ⊢
 split <;> simp only at h ⊢
 all_goals first
  | exact h
  | exact h.below hb
set_option maxRecDepth 100000 in
set_option maxHeartbeats 8000000 in
theorem wager_fair_n (A : Option Addr) (k c : Nat) (l : List Int) (n1 n2 n3 : Int) (w : World) (h : RowL intC w A k l) (HL : Hid (∀ x ∈ l, -9223372036854775808 ≤ x ∧ x ≤ 9223372036854775807)) (hn1 : -9223372036854775808 ≤ n1 ∧ n1 ≤ 9223372036854775807) (hn2 : -9223372036854775808 ≤ n2 ∧ n2 ≤ 9223372036854775807) (hn3 : -9223372036854775808 ≤ n3 ∧ n3 ≤ 9223372036854775807) :
  Calls Try.prog 4 #[.slice A k c, .int .i64 n1, .int .i64 n2, .int .i64 n3] w fun e w' => e = .returned (.bool true) ∧ Below w.heap.size w w' := by
 go_enter Try.func4, Try.ntmps4
 go_wp2_with fail; refine (made17_F A k c l 5 _ h HL (by omega)).mono ?_; rintro e w1 ⟨v, b, rows, rfl, hpl, hpe, hlen, hb1⟩; obtain ⟨x1, x2, S, kS, cS, rfl, hbd, hrows⟩ := hpl; obtain ⟨X1, xk1, xc1, X2, xk2, xc2, hsh⟩ := hbd.shape; simp only [Value.agg.injEq, Array.mk.injEq, List.cons.injEq, and_true] at hsh; obtain ⟨rfl, rfl⟩ := hsh; have hpl : PlanV w1 (.agg #[.slice X1 xk1 xc1, .slice X2 xk2 xc2, .slice S kS cS]) b rows := ⟨_, _, S, kS, cS, rfl, hbd, hrows⟩; have HPE := Lib.hid hpe; clear hrows hpe hlen; go_upto_region 2 with fail; refine wp_name ?_; intro w2 HW2; have hb : Below w1.heap.size w1 w2 := by rw [HW2.out]; exact bA _ _
 have hBP : Blk w2 w1.heap.size 28 #[.slice X1 xk1 xc1, .slice X2 xk2 xc2, .slice S kS cS] := by rw [HW2.out]; exact Blk.new _ _ _
 obtain ⟨gP, hgP⟩ : ∃ g, Hid (g = w1.heap.size) := ⟨_, rfl⟩; rw [← hgP.out] at hBP ⊢; have P0 := hBP.cell 0; have P1 := hBP.cell 1; have P2 := hBP.cell 2; simp only [List.getElem?_toArray, List.getElem?_cons_zero, List.getElem?_cons_succ] at P0 P1 P2; have hpl := hpl.below hb; have hbd := hbd.below hb; have hbw := Below.tr hb1 hb; have HOK := Lib.hid hpl.okP; clear HW2 hBP hgP hb hb1; go_wp2_with fail; refine (rpart_n n1 n2 _ hn1.1 hn1.2 hn2.1 hn2.2).mono ?_; rintro e w3 ⟨v, pq, qq, rfl, hRt, hG, hle, HK, hb⟩; obtain ⟨Q1, qk1, qc1, Q2, qk2, qc2, rfl⟩ := hRt.shape
 have hqq : qq ≤ 255 := by
  obtain ⟨a0, k0, _, _, hk24, _, rfl⟩ := HK.out; exact Nat.le_trans (Nat.div_le_self _ _) (by omega)
 obtain ⟨q, hqe⟩ : ∃ q, Hid (q = ratP pq qq) := ⟨_, rfl⟩; have hq := hRt.rtP; rw [← hqe.out] at hq; have HPQ : Hid (partB q = true) := by show _ = _; rw [hqe.out]; exact part_good hG hle hqq
 have hpl := hpl.below hb; have hbd := hbd.below hb; have P0 := cell_keep hb P0; have P1 := cell_keep hb P1; have P2 := cell_keep hb P2; have hbw := Below.tr hbw hb; clear HK hRt hG hle hqe hb; go_upto_region 3 with fail; refine wp_name ?_; intro w4 HW4; have hb : Below w3.heap.size w3 w4 := by rw [HW4.out]; exact bA _ _
 have hBQ : Blk w4 w3.heap.size 25 #[.slice Q1 qk1 qc1, .slice Q2 qk2 qc2] := by rw [HW4.out]; exact Blk.new _ _ _
 obtain ⟨gQ, hgQ⟩ : ∃ g, Hid (g = w3.heap.size) := ⟨_, rfl⟩; rw [← hgQ.out] at hBQ ⊢; have Q0 := hBQ.cell 0; have Q1' := hBQ.cell 1; simp only [List.getElem?_toArray, List.getElem?_cons_zero, List.getElem?_cons_succ] at Q0 Q1'; have hpl := hpl.below hb; have hbd := hbd.below hb; have hq := hq.below hb; have P0 := cell_keep hb P0; have P1 := cell_keep hb P1; have P2 := cell_keep hb P2; have hbw := Below.tr hbw hb; clear HW4 hBQ hgQ hb; go_wp2_with fail; refine (around_n n3 8 _ hn3.1 hn3.2 (by omega) (by omega)).mono ?_; rintro e w' ⟨z, rfl, hz, _, rfl⟩; obtain ⟨hl1, hl2, hl3⟩ := fair_law (z := z) HPE.out HOK.out.1 HOK.out.2 hq.ok HPQ.out (by omega); have HL1 := Lib.hid hl1; have HY := Lib.hid hl2; have HL3 := Lib.hid hl3; have HE1 : Hid (expE b rows b z = 0) := expE_ok HPE.out (planE_zero HPE.out).2.1 (by omega); have HE2 : Hid (expE b rows q z = 0) := expE_ok HPE.out HPQ.out (by omega); have HO1 : Hid (validP (redP 1 1) = 0) := (fr (n := 1) (d := 1) (by omega) (by omega) (by omega)).valid; have HVQ : Hid (validP q = 0) := partB_valid HPQ.out; have HVB : Hid (validP b = 0) := partB_valid (planE_zero HPE.out).2.1; clear hl1 hl2 hl3 HOK; go_upto_region 4 with fail; refine region_invW (PhiF4 (.agg #[.slice X1 xk1 xc1, .slice X2 xk2 xc2, .slice S kS cS]) (.slice X1 xk1 xc1) (.slice X2 xk2 xc2) gP z (expX b rows b z) w4.heap.size) (RT w4.heap.size) (SD w4 7 9 10) (by kernel_rfl) (by kernel_rfl) (by kernel_rfl) PhiF4.keep (SD.start _ _ _ _ _) (fun vs => by simp only [fillR, Act.put, sA, sB, sC, Nat.zero_add, Nat.reduceAdd]; rfl) ?_ ?_
 ·refine sK ?_ (sK ?_ (sK ?_ (sK ?_ (sK ?_ (sK ?_ (sK ?_ (sK ?_ (sK ?_ (sK ?_ (sK ?_ (sK ?_ (sZ))))))))))))
  ·as_aux_lemma =>
   intro vs L W hS hL cl hdl hdep K hK; have f1 := cell_keep hS.be P0; have f2 := cell_keep hS.be P1; have f3 := cell_keep hS.be P2; refine ⟨?_⟩; simp only [Act.put, sA, sB, sC, Nat.zero_add, Nat.reduceAdd] at hK ⊢; go_simp; with_reducible refine hK _ _ (RT.refl _ _) (hS.step (Below.refl _ _) 0 _ (by decide) (fun e => absurd e (by decide))) ?_
   exact rfl
  ·as_aux_lemma =>
   intro vs L W hS hL cl hdl hdep K hK; have d0 := hdep ⟨0, .data⟩ (by simp) rfl; simp only [PhiF4] at d0; refine ⟨?_⟩; simp only [Act.put, sA, sB, sC, Nat.zero_add, Nat.reduceAdd, d0] at hK ⊢; go_simp; refine (plan_E _ b rows _ (hpl.below hS.be)).mono ?_; rintro e w' ⟨rfl, hb⟩; go_wp2_with fail; with_reducible refine hK _ _ (RT.below hb hS.be.size) (hS.step hb 1 _ (by decide) (fun e => absurd e (by decide))) ?_
   exact rfl
  ·as_aux_lemma =>
   intro vs L W hS hL cl hdl hdep K hK; refine ⟨?_⟩; simp only [Act.put, sA, sB, sC, Nat.zero_add, Nat.reduceAdd] at hK ⊢; go_simp; with_reducible refine hK _ _ (RT.refl _ _) (hS.step (Below.refl _ _) 2 _ (by decide) (fun e => absurd e (by decide))) ?_
   exact rfl
  ·as_aux_lemma =>
   intro vs L W hS hL cl hdl hdep K hK; have d0 := hdep ⟨2, .data⟩ (by simp) rfl; simp only [PhiF4] at d0; have f1 := cell_keep hS.be P0; have f2 := cell_keep hS.be P1; refine ⟨?_⟩; simp only [Act.put, sA, sB, sC, Nat.zero_add, Nat.reduceAdd, d0] at hK ⊢; go_simp; with_reducible refine hK _ _ (RT.refl _ _) (hS.step (Below.refl _ _) 3 _ (by decide) (fun e => absurd e (by decide))) ?_
   exact rfl
  ·as_aux_lemma =>
   intro vs L W hS hL cl hdl hdep K hK; refine ⟨?_⟩; simp only [Act.put, sA, sB, sC, Nat.zero_add, Nat.reduceAdd] at hK ⊢; go_simp; with_reducible refine hK _ _ (RT.refl _ _) (hS.step (Below.refl _ _) 4 _ (by decide) (fun e => absurd e (by decide))) ?_
   exact rfl
  ·as_aux_lemma =>
   intro vs L W hS hL cl hdl hdep K hK; have d0 := hdep ⟨1, .data⟩ (by simp) rfl; simp only [PhiF4] at d0; have d1 := hdep ⟨3, .data⟩ (by simp) rfl; simp only [PhiF4] at d1; have d2 := hdep ⟨4, .data⟩ (by simp) rfl; simp only [PhiF4] at d2; refine ⟨?_⟩; simp only [Act.put, sA, sB, sC, Nat.zero_add, Nat.reduceAdd, d0, d1, d2] at hK ⊢; go_simp; refine (fexp _ _ b b rows z _ HE1.out (hpl.below hS.be) (hbd.below hS.be)).mono ?_; rintro e w' ⟨v, rfl, hn, hb⟩; go_wp2_with fail; with_reducible refine hK _ _ (RT.below hb hS.be.size) (hS.step hb 5 _ (by decide) (fun e => absurd e (by decide))) ?_
   exact ⟨v, rfl, hn⟩
  ·as_aux_lemma =>
   intro vs L W hS hL cl hdl hdep K hK; have d0 := hdep ⟨5, .data⟩ (by simp) rfl; simp only [PhiF4] at d0; refine @exE1 _ _ _ d0 ?_; clear d0; intro v0 d0; have e0 := d0.1; have n0 := d0.2; clear d0; refine ⟨?_⟩; simp only [Act.put, sA, sB, sC, Nat.zero_add, Nat.reduceAdd, e0] at hK ⊢; go_simp; with_reducible refine hK _ _ (RT.refl _ _) (hS.step (Below.refl _ _) 6 _ (by decide) (fun e => absurd e (by decide))) ?_
   exact ⟨_, rfl, n0⟩
  ·as_aux_lemma =>
   intro vs L W hS hL cl hdl hdep K hK; have d0 := hdep ⟨6, .data⟩ (by simp) rfl; simp only [PhiF4] at d0; refine @exE1 _ _ _ d0 ?_; clear d0; intro v0 d0; have e0 := d0.1; have n0 := d0.2; clear d0
   have h10 : L 10 = false := by
    cases h : L 10 with
    | false => rfl
    | true => exact absurd (cl 10 _ rfl h ⟨7, .data⟩ (by simp) rfl) (by rw [hL]; decide)
   obtain ⟨A, k, c, A', k', c', rfl⟩ := n0.shape; refine ⟨?_⟩; simp only [Act.put, sA, sB, sC, Nat.zero_add, Nat.reduceAdd, e0] at hK ⊢; go_simp; with_reducible refine hK _ _ (RT.refl _ _) (hS.step (Below.refl _ _) 7 _ (by decide) (fun _ => h10)) ?_
   exact ⟨_, _, _, _, _, _, rfl, n0⟩
  ·as_aux_lemma =>
   intro vs L W hS hL cl hdl hdep K hK; have d0 := hdep ⟨6, .data⟩ (by simp) rfl; simp only [PhiF4] at d0; refine @exE1 _ _ _ d0 ?_; clear d0; intro v0 d0; have e0 := d0.1; have n0 := d0.2; clear d0; refine ⟨?_⟩; simp only [Act.put, sA, sB, sC, Nat.zero_add, Nat.reduceAdd, e0] at hK ⊢; go_simp; with_reducible refine hK _ _ (RT.refl _ _) (hS.step (Below.refl _ _) 8 _ (by decide) (fun e => absurd e (by decide))) ?_
   exact rfl
  ·as_aux_lemma =>
   intro vs L W hS hL cl hdl hdep K hK
   have h10 : L 10 = false := by
    cases h : L 10 with
    | false => rfl
    | true => exact absurd (cl 10 _ rfl h ⟨9, .data⟩ (by simp) rfl) (by rw [hL]; decide)
   refine ⟨?_⟩; simp only [Act.put, sA, sB, sC, Nat.zero_add, Nat.reduceAdd] at hK ⊢; go_simp; with_reducible refine hK _ _ (RT.below (bA _ _) hS.be.size) (hS.step (bA _ _) 9 _ (by decide) (fun _ => h10)) ?_
   exact ⟨_, rfl, hS.be.size, none, 0, 0, none, 0, 0, Blk.new _ _ _⟩
  ·as_aux_lemma =>
   intro vs L W hS hL cl hdl hdep K hK; have d0 := hdep ⟨9, .data⟩ (by simp) rfl; simp only [PhiF4] at d0; refine @exE1 _ _ _ d0 ?_; clear d0; intro g0 d0; have e0 := d0.1; have l0 := d0.2.1; have s0 := d0.2.2; clear d0; have d1 := hdep ⟨7, .data⟩ (by simp) rfl; simp only [PhiF4] at d1; refine @exE6 _ _ _ _ _ _ _ _ d1 ?_; clear d1; intro A1 k1 c1 B1 m1 d1 d1; have e1 := d1.1; have n1 := d1.2; clear d1; obtain ⟨⟨a1, q1⟩, ⟨a2, q2⟩, q3, q4⟩ := s0.facts; refine ⟨?_⟩; simp only [Act.put, sA, sB, sC, Nat.zero_add, Nat.reduceAdd, e0, e1] at hK ⊢; go_simp; with_reducible refine hK undef _ (RT.store s0 l0 _ _ _ _ _ _) (hS.stored e0 e1 l0 s0 (by decide) (by decide) _) ?_
   exact trivial
  ·as_aux_lemma =>
   intro vs L W hS hL cl hdl hdep K hK; have d0 := hdep ⟨8, .data⟩ (by simp) rfl; simp only [PhiF4] at d0; refine ⟨?_⟩; simp only [Act.put, sA, sB, sC, Nat.zero_add, Nat.reduceAdd, d0] at hK ⊢; go_simp; with_reducible refine hK _ _ (RT.refl _ _) (hS.step (Below.refl _ _) 11 _ (by decide) (fun e => absurd e (by decide))) ?_
   exact rfl
 intro vs L w5 hS hall hv; have v11 := hv 11 (by simp); have v8 := hv 7 (by simp); simp only [PhiF4] at v11 v8; obtain ⟨_, _, _, _, _, _, e8', ho⟩ := v8; obtain ⟨gA, A9A, k9A, c9A, B9A, m9A, d9A, e10, e8, hgN, hblk⟩ := hS.st (hall 10 (by simp)); rw [e8] at e8'; rw [← e8'] at ho; have HO := Lib.hid ho; have hbe := hS.be; clear hv hS hall e8' ho; simp only [Act.put, sA, sB, sC, Nat.zero_add, Nat.reduceAdd, v11, e10, e8]; have hya := HO.out; have A0 := hblk.cell 0; have A1 := hblk.cell 1; simp only [List.getElem?_toArray, List.getElem?_cons_zero, List.getElem?_cons_succ] at A0 A1; clear HO hblk hgN; have hpl := hpl.below hbe; have hbd := hbd.below hbe; have hq := hq.below hbe; have P0 := cell_keep hbe P0; have P1 := cell_keep hbe P1; have P2 := cell_keep hbe P2; have Q0 := cell_keep hbe Q0; have Q1' := cell_keep hbe Q1'; have hbw := Below.tr hbw hbe; clear hbe; go_upto_region 5 with fail; refine region_invW (PhiF5f (.agg #[.slice X1 xk1 xc1, .slice X2 xk2 xc2, .slice S kS cS]) (.slice Q1 qk1 qc1) (.slice Q2 qk2 qc2) z (expX b rows q z) w5.heap.size) (RT w5.heap.size) (SD w5 6 8 9) (by kernel_rfl) (by kernel_rfl) (by kernel_rfl) PhiF5f.keep (SD.start _ _ _ _ _) (fun vs => by simp only [fillR, Act.put, sA, sB, sC, Nat.zero_add, Nat.reduceAdd]; rfl) ?_ ?_
 ·refine sK ?_ (sK ?_ (sK ?_ (sK ?_ (sK ?_ (sK ?_ (sK ?_ (sK ?_ (sK ?_ (sK ?_ (sK ?_ (sZ)))))))))))
  ·as_aux_lemma =>
   intro vs L W hS hL cl hdl hdep K hK; have f1 := cell_keep hS.be P0; have f2 := cell_keep hS.be P1; have f3 := cell_keep hS.be P2; refine ⟨?_⟩; simp only [Act.put, sA, sB, sC, Nat.zero_add, Nat.reduceAdd] at hK ⊢; go_simp; with_reducible refine hK _ _ (RT.refl _ _) (hS.step (Below.refl _ _) 0 _ (by decide) (fun e => absurd e (by decide))) ?_
   exact rfl
  ·as_aux_lemma =>
   intro vs L W hS hL cl hdl hdep K hK; have d0 := hdep ⟨0, .data⟩ (by simp) rfl; simp only [PhiF5f] at d0; refine ⟨?_⟩; simp only [Act.put, sA, sB, sC, Nat.zero_add, Nat.reduceAdd, d0] at hK ⊢; go_simp; refine (plan_E _ b rows _ (hpl.below hS.be)).mono ?_; rintro e w' ⟨rfl, hb⟩; go_wp2_with fail; with_reducible refine hK _ _ (RT.below hb hS.be.size) (hS.step hb 1 _ (by decide) (fun e => absurd e (by decide))) ?_
   exact rfl
  ·as_aux_lemma =>
   intro vs L W hS hL cl hdl hdep K hK; have f1 := cell_keep hS.be Q0; have f2 := cell_keep hS.be Q1'; refine ⟨?_⟩; simp only [Act.put, sA, sB, sC, Nat.zero_add, Nat.reduceAdd] at hK ⊢; go_simp; with_reducible refine hK _ _ (RT.refl _ _) (hS.step (Below.refl _ _) 2 _ (by decide) (fun e => absurd e (by decide))) ?_
   exact rfl
  ·as_aux_lemma =>
   intro vs L W hS hL cl hdl hdep K hK; refine ⟨?_⟩; simp only [Act.put, sA, sB, sC, Nat.zero_add, Nat.reduceAdd] at hK ⊢; go_simp; with_reducible refine hK _ _ (RT.refl _ _) (hS.step (Below.refl _ _) 3 _ (by decide) (fun e => absurd e (by decide))) ?_
   exact rfl
  ·as_aux_lemma =>
   intro vs L W hS hL cl hdl hdep K hK; have d0 := hdep ⟨1, .data⟩ (by simp) rfl; simp only [PhiF5f] at d0; have d1 := hdep ⟨2, .data⟩ (by simp) rfl; simp only [PhiF5f] at d1; have d2 := hdep ⟨3, .data⟩ (by simp) rfl; simp only [PhiF5f] at d2; refine ⟨?_⟩; simp only [Act.put, sA, sB, sC, Nat.zero_add, Nat.reduceAdd, d0, d1, d2] at hK ⊢; go_simp; refine (fexp _ _ b q rows z _ HE2.out (hpl.below hS.be) (hq.below hS.be)).mono ?_; rintro e w' ⟨v, rfl, hn, hb⟩; go_wp2_with fail; with_reducible refine hK _ _ (RT.below hb hS.be.size) (hS.step hb 4 _ (by decide) (fun e => absurd e (by decide))) ?_
   exact ⟨v, rfl, hn⟩
  ·as_aux_lemma =>
   intro vs L W hS hL cl hdl hdep K hK; have d0 := hdep ⟨4, .data⟩ (by simp) rfl; simp only [PhiF5f] at d0; refine @exE1 _ _ _ d0 ?_; clear d0; intro v0 d0; have e0 := d0.1; have n0 := d0.2; clear d0; refine ⟨?_⟩; simp only [Act.put, sA, sB, sC, Nat.zero_add, Nat.reduceAdd, e0] at hK ⊢; go_simp; with_reducible refine hK _ _ (RT.refl _ _) (hS.step (Below.refl _ _) 5 _ (by decide) (fun e => absurd e (by decide))) ?_
   exact ⟨_, rfl, n0⟩
  ·as_aux_lemma =>
   intro vs L W hS hL cl hdl hdep K hK; have d0 := hdep ⟨5, .data⟩ (by simp) rfl; simp only [PhiF5f] at d0; refine @exE1 _ _ _ d0 ?_; clear d0; intro v0 d0; have e0 := d0.1; have n0 := d0.2; clear d0
   have h9 : L 9 = false := by
    cases h : L 9 with
    | false => rfl
    | true => exact absurd (cl 9 _ rfl h ⟨6, .data⟩ (by simp) rfl) (by rw [hL]; decide)
   obtain ⟨A, k, c, A', k', c', rfl⟩ := n0.shape; refine ⟨?_⟩; simp only [Act.put, sA, sB, sC, Nat.zero_add, Nat.reduceAdd, e0] at hK ⊢; go_simp; with_reducible refine hK _ _ (RT.refl _ _) (hS.step (Below.refl _ _) 6 _ (by decide) (fun _ => h9)) ?_
   exact ⟨_, _, _, _, _, _, rfl, n0⟩
  ·as_aux_lemma =>
   intro vs L W hS hL cl hdl hdep K hK; have d0 := hdep ⟨5, .data⟩ (by simp) rfl; simp only [PhiF5f] at d0; refine @exE1 _ _ _ d0 ?_; clear d0; intro v0 d0; have e0 := d0.1; have n0 := d0.2; clear d0; refine ⟨?_⟩; simp only [Act.put, sA, sB, sC, Nat.zero_add, Nat.reduceAdd, e0] at hK ⊢; go_simp; with_reducible refine hK _ _ (RT.refl _ _) (hS.step (Below.refl _ _) 7 _ (by decide) (fun e => absurd e (by decide))) ?_
   exact rfl
  ·as_aux_lemma =>
   intro vs L W hS hL cl hdl hdep K hK
   have h9 : L 9 = false := by
    cases h : L 9 with
    | false => rfl
    | true => exact absurd (cl 9 _ rfl h ⟨8, .data⟩ (by simp) rfl) (by rw [hL]; decide)
   refine ⟨?_⟩; simp only [Act.put, sA, sB, sC, Nat.zero_add, Nat.reduceAdd] at hK ⊢; go_simp; with_reducible refine hK _ _ (RT.below (bA _ _) hS.be.size) (hS.step (bA _ _) 8 _ (by decide) (fun _ => h9)) ?_
   exact ⟨_, rfl, hS.be.size, none, 0, 0, none, 0, 0, Blk.new _ _ _⟩
  ·as_aux_lemma =>
   intro vs L W hS hL cl hdl hdep K hK; have d0 := hdep ⟨8, .data⟩ (by simp) rfl; simp only [PhiF5f] at d0; refine @exE1 _ _ _ d0 ?_; clear d0; intro g0 d0; have e0 := d0.1; have l0 := d0.2.1; have s0 := d0.2.2; clear d0; have d1 := hdep ⟨6, .data⟩ (by simp) rfl; simp only [PhiF5f] at d1; refine @exE6 _ _ _ _ _ _ _ _ d1 ?_; clear d1; intro A1 k1 c1 B1 m1 d1 d1; have e1 := d1.1; have n1 := d1.2; clear d1; obtain ⟨⟨a1, q1⟩, ⟨a2, q2⟩, q3, q4⟩ := s0.facts; refine ⟨?_⟩; simp only [Act.put, sA, sB, sC, Nat.zero_add, Nat.reduceAdd, e0, e1] at hK ⊢; go_simp; with_reducible refine hK undef _ (RT.store s0 l0 _ _ _ _ _ _) (hS.stored e0 e1 l0 s0 (by decide) (by decide) _) ?_
   exact trivial
  ·as_aux_lemma =>
   intro vs L W hS hL cl hdl hdep K hK; have d0 := hdep ⟨7, .data⟩ (by simp) rfl; simp only [PhiF5f] at d0; refine ⟨?_⟩; simp only [Act.put, sA, sB, sC, Nat.zero_add, Nat.reduceAdd, d0] at hK ⊢; go_simp; with_reducible refine hK _ _ (RT.refl _ _) (hS.step (Below.refl _ _) 10 _ (by decide) (fun e => absurd e (by decide))) ?_
   exact rfl
 intro vs L w6 hS hall hv; have v10 := hv 10 (by simp); have v8 := hv 6 (by simp); simp only [PhiF5f] at v10 v8; obtain ⟨_, _, _, _, _, _, e8', ho⟩ := v8; obtain ⟨gB, A9B, k9B, c9B, B9B, m9B, d9B, e10, e8, hgN, hblk⟩ := hS.st (hall 9 (by simp)); rw [e8] at e8'; rw [← e8'] at ho; have HO := Lib.hid ho; have hbe := hS.be; clear hv hS hall e8' ho; simp only [Act.put, sA, sB, sC, Nat.zero_add, Nat.reduceAdd, v10, e10, e8]; have hyb := HO.out; have B0 := hblk.cell 0; have B1 := hblk.cell 1; simp only [List.getElem?_toArray, List.getElem?_cons_zero, List.getElem?_cons_succ] at B0 B1; clear HO hblk hgN; have hpl := hpl.below hbe; have hbd := hbd.below hbe; have hq := hq.below hbe; have hya := hya.below hbe; have P0 := cell_keep hbe P0; have P1 := cell_keep hbe P1; have P2 := cell_keep hbe P2; have Q0 := cell_keep hbe Q0; have Q1' := cell_keep hbe Q1'; have A0 := cell_keep hbe A0; have A1 := cell_keep hbe A1; have hbw := Below.tr hbw hbe; clear hbe; rw [HL1.out] at hya; obtain ⟨yy, HYY⟩ : ∃ y, Hid (y = expX b rows q z) := ⟨_, rfl⟩; rw [← HYY.out] at hyb; have HY : Hid (validP yy = 0) := by show _ = _; rw [HYY.out]; exact HY.out
 have HL3 := HL3.out; rw [← HYY.out] at HL3; obtain ⟨co, HCO⟩ : ∃ y, Hid (y = cmpV q b) := ⟨_, rfl⟩; obtain ⟨cc, HCC⟩ : ∃ y, Hid (y = cmpV yy (redP 1 1)) := ⟨_, rfl⟩; rw [← HCO.out, ← HCC.out] at HL3; go_wp2_with fail; refine (cmp_good _ _ q b _ hq hbd HVQ.out HVB.out).mono ?_; rintro e w7 ⟨rfl, hb⟩; rw [← HCO.out]; clear hpl hbd hq P0 P1 P2 Q0 Q1'; have hya := hya.below hb; have hyb := hyb.below hb; have A0 := cell_keep hb A0; have A1 := cell_keep hb A1; have B0 := cell_keep hb B0; have B1 := cell_keep hb B1; have hbw := Below.tr hbw hb; clear hb; go_upto_region 7 with fail; refine region_invc (PhiF7f (.slice A9B k9B c9B) (.slice B9B m9B d9B) cc) (fun w w' => Below w.heap.size w w') (fun W => Below w7.heap.size w7 W) (by kernel_rfl) (by kernel_rfl) (by kernel_rfl) PhiF7f.keep (fun _ _ hR hS => Below.tr hS hR) (bD _) ?_ ?_
 ·refine sK ?_ (sK ?_ (sK ?_ (sK ?_ (sK ?_ (sK ?_ (sK ?_ (sK ?_ (sZ))))))))
  ·as_aux_lemma =>
   intro vs W hS hdep K hK; have f1 := cell_keep hS B0; have f2 := cell_keep hS B1; refine ⟨?_⟩; simp only [fillR, Act.put, sA, sB, sC, Nat.zero_add, Nat.reduceAdd] at hK ⊢; go_simp; with_reducible refine hK _ _ (Below.refl _ _) ?_
   exact rfl
  ·as_aux_lemma =>
   intro vs W hS hdep K hK; refine ⟨?_⟩; simp only [fillR, Act.put, sA, sB, sC, Nat.zero_add, Nat.reduceAdd] at hK ⊢; go_simp; refine (of_R 1 1 _ (by omega) (by omega) (by omega)).mono ?_; rintro e w' ⟨v, rfl, hv, hb⟩; go_wp2_with fail; with_reducible refine hK _ _ hb ?_
   exact hv
  ·as_aux_lemma =>
   intro vs W hS hdep K hK; have d0 := hdep ⟨0, .data⟩ (by simp) rfl; simp only [PhiF7f] at d0; have d1 := hdep ⟨1, .data⟩ (by simp) rfl; simp only [PhiF7f] at d1; have r1 := d1; clear d1; refine ⟨?_⟩; simp only [fillR, Act.put, sA, sB, sC, Nat.zero_add, Nat.reduceAdd, d0] at hK ⊢; go_simp; refine (cmp_good _ _ yy (redP 1 1) _ (hyb.below hS) r1 HY.out HO1.out).mono ?_; rintro e w' ⟨rfl, hb⟩; go_wp2_with fail; with_reducible refine hK _ _ hb ?_
   exact by show _ = _; rw [HCC.out]
  ·as_aux_lemma =>
   intro vs W hS hdep K hK; have d0 := hdep ⟨2, .data⟩ (by simp) rfl; simp only [PhiF7f] at d0; refine ⟨?_⟩; simp only [fillR, Act.put, sA, sB, sC, Nat.zero_add, Nat.reduceAdd, d0] at hK ⊢; go_simp; with_reducible refine hK _ _ (Below.refl _ _) ?_
   exact rfl
  ·as_aux_lemma =>
   intro vs W hS hdep K hK; have d0 := hdep ⟨3, .data⟩ (by simp) rfl; simp only [PhiF7f] at d0; refine ⟨?_⟩; simp only [fillR, Act.put, sA, sB, sC, Nat.zero_add, Nat.reduceAdd, d0] at hK ⊢; go_simp; with_reducible refine hK _ _ (Below.refl _ _) ?_
   exact rfl
  ·as_aux_lemma =>
   intro vs W hS hdep K hK; have d0 := hdep ⟨3, .data⟩ (by simp) rfl; simp only [PhiF7f] at d0; refine ⟨?_⟩; simp only [fillR, Act.put, sA, sB, sC, Nat.zero_add, Nat.reduceAdd, d0] at hK ⊢; go_simp; with_reducible refine hK _ _ (Below.refl _ _) ?_
   exact rfl
  ·as_aux_lemma =>
   intro vs W hS hdep K hK; have d0 := hdep ⟨4, .data⟩ (by simp) rfl; simp only [PhiF7f] at d0; refine ⟨?_⟩; simp only [fillR, Act.put, sA, sB, sC, Nat.zero_add, Nat.reduceAdd, d0] at hK ⊢; go_simp; with_reducible refine hK _ _ (Below.refl _ _) ?_
   exact rfl
  ·as_aux_lemma =>
   intro vs W hS hdep K hK; have d0 := hdep ⟨5, .data⟩ (by simp) rfl; simp only [PhiF7f] at d0; refine ⟨?_⟩; simp only [fillR, Act.put, sA, sB, sC, Nat.zero_add, Nat.reduceAdd, d0] at hK ⊢; go_simp; with_reducible refine hK _ _ (Below.refl _ _) ?_
   exact rfl
 intro vs w8 hb hv; have v6 := hv 6 (by simp); have v7 := hv 7 (by simp); simp only [PhiF7f] at v6 v7; simp only [fillR, Act.put, sA, sB, sC, Nat.zero_add, Nat.reduceAdd, v6, v7]; clear hv v6 v7; have hya := hya.below hb; have hyb := hyb.below hb; have A0 := cell_keep hb A0; have A1 := cell_keep hb A1; have B0 := cell_keep hb B0; have B1 := cell_keep hb B1; have hbw := Below.tr hbw hb; clear hb; go_upto_region 8 with fail; refine region_invc (PhiF8f (.slice A9A k9A c9A) (.slice B9A m9A d9A)) (fun w w' => Below w.heap.size w w') (fun W => Below w8.heap.size w8 W) (by kernel_rfl) (by kernel_rfl) (by kernel_rfl) PhiF8f.keep (fun _ _ hR hS => Below.tr hS hR) (bD _) ?_ ?_
 ·refine sK ?_ (sK ?_ (sK ?_ (sK ?_ (sK ?_ (sK ?_ (sK ?_ (sK ?_ (sK ?_ (sK ?_ (sK ?_ (sK ?_ (sK ?_ (sK ?_ (sK ?_ (sK ?_ (sK ?_ (sK ?_ (sK ?_ (sK ?_ (sZ))))))))))))))))))))
  ·as_aux_lemma =>
   intro vs W hS hdep K hK; refine ⟨?_⟩; simp only [fillR, Act.put, sA, sB, sC, Nat.zero_add, Nat.reduceAdd] at hK ⊢; go_simp; with_reducible refine hK _ _ (Below.refl _ _) ?_
   exact rfl
  ·as_aux_lemma =>
   intro vs W hS hdep K hK; have d0 := hdep ⟨0, .data⟩ (by simp) rfl; simp only [PhiF8f] at d0; refine ⟨?_⟩; simp only [fillR, Act.put, sA, sB, sC, Nat.zero_add, Nat.reduceAdd, d0] at hK ⊢; go_simp; with_reducible refine hK _ _ (Below.refl _ _) ?_
   exact rfl
  ·as_aux_lemma =>
   intro vs W hS hdep K hK; have d0 := hdep ⟨1, .data⟩ (by simp) rfl; simp only [PhiF8f] at d0; refine ⟨?_⟩; simp only [fillR, Act.put, sA, sB, sC, Nat.zero_add, Nat.reduceAdd, d0] at hK ⊢; go_simp; with_reducible refine hK _ _ (Below.refl _ _) ?_
   exact rfl
  ·as_aux_lemma =>
   intro vs W hS hdep K hK; have d0 := hdep ⟨2, .guard⟩ (by simp) rfl; simp only [PhiF8f] at d0; refine ⟨?_⟩; simp only [fillR, Act.put, sA, sB, sC, Nat.zero_add, Nat.reduceAdd, d0] at hK ⊢; go_simp; with_reducible refine hK _ _ (Below.refl _ _) ?_
   exact rfl
  ·as_aux_lemma =>
   intro vs W hS hdep K hK; have d0 := hdep ⟨3, .data⟩ (by simp) rfl; simp only [PhiF8f] at d0; have d1 := hdep ⟨2, .guard⟩ (by simp) rfl; simp only [PhiF8f] at d1; refine ⟨?_⟩; simp only [fillR, Act.put, sA, sB, sC, Nat.zero_add, Nat.reduceAdd, d0, d1] at hK ⊢; go_simp; with_reducible refine hK _ _ (Below.refl _ _) ?_
   exact rfl
  ·as_aux_lemma =>
   intro vs W hS hdep K hK; have d0 := hdep ⟨2, .data⟩ (by simp) rfl; simp only [PhiF8f] at d0; have d1 := hdep ⟨4, .data⟩ (by simp) rfl; simp only [PhiF8f] at d1; refine ⟨?_⟩; simp only [fillR, Act.put, sA, sB, sC, Nat.zero_add, Nat.reduceAdd, d0, d1] at hK ⊢; go_simp; with_reducible refine hK _ _ (Below.refl _ _) ?_
   exact rfl
  ·as_aux_lemma =>
   intro vs W hS hdep K hK; have d0 := hdep ⟨5, .data⟩ (by simp) rfl; simp only [PhiF8f] at d0; have d1 := hdep ⟨2, .chain⟩ (by simp) rfl; simp only [PhiF8f] at d1; refine ⟨?_⟩; simp only [fillR, Act.put, sA, sB, sC, Nat.zero_add, Nat.reduceAdd, d0, d1] at hK ⊢; go_simp; with_reducible refine hK _ _ (Below.refl _ _) ?_
   exact rfl
  ·as_aux_lemma =>
   intro vs W hS hdep K hK; have d0 := hdep ⟨6, .guard⟩ (by simp) rfl; simp only [PhiF8f] at d0; refine ⟨?_⟩; simp only [fillR, Act.put, sA, sB, sC, Nat.zero_add, Nat.reduceAdd, d0] at hK ⊢; go_simp; with_reducible refine hK _ _ (Below.refl _ _) ?_
   exact rfl
  ·as_aux_lemma =>
   intro vs W hS hdep K hK; have d0 := hdep ⟨7, .data⟩ (by simp) rfl; simp only [PhiF8f] at d0; have d1 := hdep ⟨6, .guard⟩ (by simp) rfl; simp only [PhiF8f] at d1; refine ⟨?_⟩; simp only [fillR, Act.put, sA, sB, sC, Nat.zero_add, Nat.reduceAdd, d0, d1] at hK ⊢; go_simp; with_reducible refine hK _ _ (Below.refl _ _) ?_
   exact rfl
  ·as_aux_lemma =>
   intro vs W hS hdep K hK; have d0 := hdep ⟨6, .data⟩ (by simp) rfl; simp only [PhiF8f] at d0; have d1 := hdep ⟨8, .data⟩ (by simp) rfl; simp only [PhiF8f] at d1; refine ⟨?_⟩; simp only [fillR, Act.put, sA, sB, sC, Nat.zero_add, Nat.reduceAdd, d0, d1] at hK ⊢; go_simp; with_reducible refine hK _ _ (Below.refl _ _) ?_
   exact rfl
  ·as_aux_lemma =>
   intro vs W hS hdep K hK; have d0 := hdep ⟨9, .data⟩ (by simp) rfl; simp only [PhiF8f] at d0; have d1 := hdep ⟨6, .chain⟩ (by simp) rfl; simp only [PhiF8f] at d1; refine ⟨?_⟩; simp only [fillR, Act.put, sA, sB, sC, Nat.zero_add, Nat.reduceAdd, d0, d1] at hK ⊢; go_simp; with_reducible refine hK _ _ (Below.refl _ _) ?_
   exact rfl
  ·as_aux_lemma =>
   intro vs W hS hdep K hK; have d0 := hdep ⟨10, .guard⟩ (by simp) rfl; simp only [PhiF8f] at d0; refine ⟨?_⟩; simp only [fillR, Act.put, sA, sB, sC, Nat.zero_add, Nat.reduceAdd, d0] at hK ⊢; go_simp; with_reducible refine hK _ _ (Below.refl _ _) ?_
   exact rfl
  ·as_aux_lemma =>
   intro vs W hS hdep K hK; have d0 := hdep ⟨11, .data⟩ (by simp) rfl; simp only [PhiF8f] at d0; have d1 := hdep ⟨10, .guard⟩ (by simp) rfl; simp only [PhiF8f] at d1; refine ⟨?_⟩; simp only [fillR, Act.put, sA, sB, sC, Nat.zero_add, Nat.reduceAdd, d0, d1] at hK ⊢; go_simp; with_reducible refine hK _ _ (Below.refl _ _) ?_
   exact rfl
  ·as_aux_lemma =>
   intro vs W hS hdep K hK; have d0 := hdep ⟨10, .data⟩ (by simp) rfl; simp only [PhiF8f] at d0; have d1 := hdep ⟨12, .data⟩ (by simp) rfl; simp only [PhiF8f] at d1; refine ⟨?_⟩; simp only [fillR, Act.put, sA, sB, sC, Nat.zero_add, Nat.reduceAdd, d0, d1] at hK ⊢; go_simp; with_reducible refine hK _ _ (Below.refl _ _) ?_
   exact rfl
  ·as_aux_lemma =>
   intro vs W hS hdep K hK; have d0 := hdep ⟨13, .data⟩ (by simp) rfl; simp only [PhiF8f] at d0; have d1 := hdep ⟨10, .chain⟩ (by simp) rfl; simp only [PhiF8f] at d1; refine ⟨?_⟩; simp only [fillR, Act.put, sA, sB, sC, Nat.zero_add, Nat.reduceAdd, d0, d1] at hK ⊢; go_simp; with_reducible refine hK _ _ (Below.refl _ _) ?_
   exact rfl
  ·as_aux_lemma =>
   intro vs W hS hdep K hK; have d0 := hdep ⟨14, .guard⟩ (by simp) rfl; simp only [PhiF8f] at d0; have f1 := cell_keep hS A0; have f2 := cell_keep hS A1; refine ⟨?_⟩; simp only [fillR, Act.put, sA, sB, sC, Nat.zero_add, Nat.reduceAdd, d0] at hK ⊢; go_simp; with_reducible refine hK _ _ (Below.refl _ _) ?_
   exact rfl
  ·as_aux_lemma =>
   intro vs W hS hdep K hK; have d0 := hdep ⟨14, .chain⟩ (by simp) rfl; simp only [PhiF8f] at d0; refine ⟨?_⟩; simp only [fillR, Act.put, sA, sB, sC, Nat.zero_add, Nat.reduceAdd, d0] at hK ⊢; go_simp; refine (of_R 1 1 _ (by omega) (by omega) (by omega)).mono ?_; rintro e w' ⟨v, rfl, hv, hb⟩; go_wp2_with fail; with_reducible refine hK _ _ hb ?_
   exact hv
  ·as_aux_lemma =>
   intro vs W hS hdep K hK; have d0 := hdep ⟨15, .data⟩ (by simp) rfl; simp only [PhiF8f] at d0; have d1 := hdep ⟨16, .data⟩ (by simp) rfl; simp only [PhiF8f] at d1; have r1 := d1; clear d1; have d2 := hdep ⟨14, .guard⟩ (by simp) rfl; simp only [PhiF8f] at d2; refine ⟨?_⟩; simp only [fillR, Act.put, sA, sB, sC, Nat.zero_add, Nat.reduceAdd, d0, d2] at hK ⊢; go_simp; refine (psame_F _ _ (redP 1 1) _ (hya.below hS) r1).mono ?_; rintro e w' ⟨rfl, hb⟩; go_wp2_with fail; with_reducible refine hK _ _ hb ?_
   exact rfl
  ·as_aux_lemma =>
   intro vs W hS hdep K hK; have d0 := hdep ⟨17, .data⟩ (by simp) rfl; simp only [PhiF8f] at d0; have d1 := hdep ⟨14, .guard⟩ (by simp) rfl; simp only [PhiF8f] at d1; refine ⟨?_⟩; simp only [fillR, Act.put, sA, sB, sC, Nat.zero_add, Nat.reduceAdd, d0, d1] at hK ⊢; go_simp; with_reducible refine hK _ _ (Below.refl _ _) ?_
   exact rfl
  ·as_aux_lemma =>
   intro vs W hS hdep K hK; have d0 := hdep ⟨14, .data⟩ (by simp) rfl; simp only [PhiF8f] at d0; have d1 := hdep ⟨18, .data⟩ (by simp) rfl; simp only [PhiF8f] at d1; refine ⟨?_⟩; simp only [fillR, Act.put, sA, sB, sC, Nat.zero_add, Nat.reduceAdd, d0, d1] at hK ⊢; go_simp; with_reducible refine hK _ _ (Below.refl _ _) ?_
   exact rfl
 intro vs w9 hb hv; have v19 := hv 19 (by simp); simp only [PhiF8f] at v19; simp only [fillR, Act.put, sA, sB, sC, Nat.zero_add, Nat.reduceAdd, v19]; clear hv v19 A0 A1 B0 B1 hya hyb; have hbw := Below.tr hbw hb; clear hb; by_cases h1 : 0 < co
 ·have t1 : decide (co > 0) = true := by simpa using h1
  have t2 : decide (co < 0) = false := by simp; omega
  have h2 : 0 ≤ cc := by rcases HL3.2 with h | h <;> omega
  have t3 : decide (cc ≥ 0) = true := by simpa using h2
  go_wp2_with fail; refine (lives17_n _).mono ?_; rintro e w' ⟨rfl, hb⟩; go_wp2_with fail; go_ret; exact ⟨rfl, Below.tr hbw hb⟩
 ·have t1 : decide (co > 0) = false := by simpa using h1
  have h2 : cc ≤ 0 := by rcases HL3.1 with h | h <;> omega
  have t3 : decide (cc ≤ 0) = true := by simpa using h2
  by_cases h3 : co < 0
  ·have t2 : decide (co < 0) = true := by simpa using h3
   go_wp2_with fail; refine (lives17_n _).mono ?_; rintro e w' ⟨rfl, hb⟩; go_wp2_with fail; go_ret; exact ⟨rfl, Below.tr hbw hb⟩
  ·have t2 : decide (co < 0) = false := by simpa using h3
   have h4 : 0 ≤ cc := by rcases HL3.2 with h | h <;> omega
   have t4 : decide (cc ≥ 0) = true := by simpa using h4
   go_wp2_with fail; refine (lives17_n _).mono ?_; rintro e w' ⟨rfl, hb⟩; go_wp2_with fail; go_ret; exact ⟨rfl, Below.tr hbw hb⟩
end Go.Proofs.Ytnjjdiilkhdbeaa
