import Derived.Test.YtnjjdiilkhdbeaaKCutProof28
import Derived.Test.YtnjjdiilkhdbeaaKCutProof29
import Derived.Test.YtnjjdiilkhdbeaaS0
set_option linter.unusedVariables false
set_option linter.unusedSimpArgs false
namespace Go.Proofs.Ytnjjdiilkhdbeaa
open Go Go.RowKit
def PhiK5 (p0 : Value) (Ab : Option Addr) (kb cb kk n1 : Nat) (X : List LP) (j : Nat) (w : World) (x : Value) : Prop :=
 match j with
 | 0 => x = p0
 | 1 => x = p0
 | 2 => x = .slice Ab kb cb
 | 3 => x = .int .i64 (kk : Nat)
 | 4 => x = .slice Ab kk cb
 | 5 => ∃ A c, x = .tuple #[.slice A n1 c, .int .i64 0] ∧ RatRow w A n1 X
 | 6 => ∃ A c, x = .tuple #[.slice A n1 c, .int .i64 0] ∧ RatRow w A n1 X
 | 7 => ∃ A c, x = .slice A n1 c ∧ RatRow w A n1 X
 | 8 => x = .int .i64 0
 | 9 => ∃ A c, x = .slice A n1 c ∧ RatRow w A n1 X
 | 10 => x = .int .i64 0
 | _ => True
theorem PhiK5.keep {p0 : Value} {Ab : Option Addr} {kb cb kk n1 : Nat} {X : List LP} : ∀ (w w' : World), Below w.heap.size w w' → ∀ j x, PhiK5 p0 Ab kb cb kk n1 X j w x → PhiK5 p0 Ab kb cb kk n1 X j w' x := by
 intro w w' hb j x h; unfold PhiK5 at h ⊢
 split <;> simp only at h ⊢
 all_goals first
  | exact h
  | exact h.below hb
  | (obtain ⟨A, c, e, h⟩ := h; exact ⟨A, c, e, h.below hb⟩)
def PhiK6 (p0 : Value) (b : LP) (R : List (List LP)) (Ab : Option Addr) (kb cb kk n2 : Nat) (bd : List Bool) (X : List LP) (j : Nat) (w : World) (x : Value) : Prop :=
 match j with
 | 0 => x = p0
 | 1 => x = .slice Ab kb cb
 | 2 => x = .int .i64 (kk : Nat)
 | 3 => x = .slice Ab kk cb
 | 4 => PlanV w x b R
 | 5 => PlanV w x b R
 | 6 => x = .slice Ab kb cb
 | 7 => x = .int .i64 (kk : Nat)
 | 8 => ∃ A c, x = .slice A (kb - kk) c ∧ RowS boolC w A (kb - kk) bd
 | 9 => ∃ A c, x = .tuple #[.slice A n2 c, .int .i64 0] ∧ RatRow w A n2 X
 | 10 => ∃ A c, x = .tuple #[.slice A n2 c, .int .i64 0] ∧ RatRow w A n2 X
 | 11 => ∃ A c, x = .slice A n2 c ∧ RatRow w A n2 X
 | 12 => x = .int .i64 0
 | 13 => ∃ A c, x = .slice A n2 c ∧ RatRow w A n2 X
 | 14 => x = .int .i64 0
 | _ => True
theorem PhiK6.keep {p0 : Value} {b : LP} {R : List (List LP)} {Ab : Option Addr} {kb cb kk n2 : Nat} {bd : List Bool} {X : List LP} : ∀ (w w' : World), Below w.heap.size w w' → ∀ j x, PhiK6 p0 b R Ab kb cb kk n2 bd X j w x → PhiK6 p0 b R Ab kb cb kk n2 bd X j w' x := by
 intro w w' hb j x h; unfold PhiK6 at h ⊢
 split <;> simp only at h ⊢
 all_goals first
  | exact h
  | exact h.below hb
  | (obtain ⟨A, c, e, h⟩ := h; exact ⟨A, c, e, h.below hb⟩)
def PhiK9 (bU oA n1 cA bT oB n2 cB kk m2 : Nat) (e1 e2 f1 f2 : Value) (X : LP) (B : Nat) (j : Nat) (w : World) (x : Value) : Prop :=
 match j with
 | 0 => x = .slice (some ⟨bU, oA, none⟩) n1 cA
 | 1 => x = .int .i64 (kk : Nat)
 | 2 => x = .pointer (some ⟨bU, oA + kk * 2, none⟩)
 | 3 => x = .agg #[e1, e2]
 | 4 => x = .slice (some ⟨bT, oB, none⟩) n2 cB
 | 5 => x = .slice (some ⟨bT, oB, none⟩) n2 cB
 | 6 => x = .int .i64 (n2 : Nat)
 | 7 => x = .int .i64 (m2 : Nat)
 | 8 => x = .pointer (some ⟨bT, oB + m2 * 2, none⟩)
 | 9 => x = .agg #[f1, f2]
 | 10 => ∃ v, x = .tuple #[v, .int .i64 (0 : Int)] ∧ RtP w v X
 | 11 => ∃ v, x = .tuple #[v, .int .i64 (0 : Int)] ∧ RtP w v X
 | 12 => ∃ A k c A' k' c', x = .agg #[.slice A k c, .slice A' k' c'] ∧ RtP w (.agg #[.slice A k c, .slice A' k' c']) X
 | 13 => x = .int .i64 (0 : Int)
 | 14 => ∃ g, x = .pointer (some ⟨g, 0, none⟩) ∧ B ≤ g ∧ Sl w g
 | 15 => True
 | 16 => x = .int .i64 (0 : Int)
 | _ => True
theorem PhiK9.keep {bU oA n1 cA bT oB n2 cB kk m2 : Nat} {e1 e2 f1 f2 : Value} {X : LP} {B : Nat} : ∀ (w w' : World), RT B w w' → ∀ j x, PhiK9 bU oA n1 cA bT oB n2 cB kk m2 e1 e2 f1 f2 X B j w x → PhiK9 bU oA n1 cA bT oB n2 cB kk m2 e1 e2 f1 f2 X B j w' x := by
 intro w w' hr j x h; unfold PhiK9 at h ⊢
 split <;> simp only at h ⊢
 all_goals first
  | exact h
  | (obtain ⟨v, e, h⟩ := h; exact ⟨v, e, h.mapL hr.lim⟩)
  | (obtain ⟨A, k, c, A', k', c', e, h⟩ := h; exact ⟨A, k, c, A', k', c', e, h.mapL hr.lim⟩)
  | (obtain ⟨g, e, h1, h2⟩ := h; exact ⟨g, e, h1, hr.sl g h2⟩)
  | exact h.mapL hr.lim
def PhiKa (bX oX nX cX kb cb : Nat) (Ab : Option Addr) (y1 y2 h1 h2 : Value) (j : Nat) (w : World) (x : Value) : Prop :=
 match j with
 | 0 => x = .int .i64 0
 | 1 => x = .bool true
 | 2 => x = .bool true
 | 3 => x = .agg #[y1, y2]
 | 4 => x = .slice (some ⟨bX, oX, none⟩) nX cX
 | 5 => x = .slice Ab kb cb
 | 6 => x = .int .i64 (kb : Nat)
 | 7 => x = .pointer (some ⟨bX, oX + kb * 2, none⟩)
 | 8 => x = .agg #[h1, h2]
 | 9 => x = .bool true
 | 10 => x = .bool true
 | 11 => x = .bool true
 | 12 => x = .bool true
 | 13 => x = .bool true
 | 14 => x = .bool true
 | _ => True
theorem PhiKa.keep {bX oX nX cX kb cb : Nat} {Ab : Option Addr} {y1 y2 h1 h2 : Value} : ∀ (w w' : World), Below w.heap.size w w' → ∀ j x, PhiKa bX oX nX cX kb cb Ab y1 y2 h1 h2 j w x → PhiKa bX oX nX cX kb cb Ab y1 y2 h1 h2 j w' x := by
 intro w w' hb j x h; unfold PhiKa at h ⊢
 split <;> simp only at h ⊢
 all_goals first
  | exact h
  | exact h.below hb
set_option maxRecDepth 100000 in
set_option maxHeartbeats 40000000 in
theorem wager_cut_n (A : Option Addr) (k c : Nat) (l : List Int) (A' : Option Addr) (k' c' : Nat) (l' : List Int) (at_ : Int) (w : World) (h : RowL intC w A k l) (HL : Hid (∀ x ∈ l, -9223372036854775808 ≤ x ∧ x ≤ 9223372036854775807)) (h' : RowL intC w A' k' l') (HL' : Hid (∀ x ∈ l', -9223372036854775808 ≤ x ∧ x ≤ 9223372036854775807)) (i1 : -9223372036854775808 ≤ at_ ∧ at_ ≤ 9223372036854775807) :
  Calls Try.prog 5 #[.slice A k c, .slice A' k' c', .int .i64 at_] w fun e w' => e = .returned (.bool true) ∧ Below w.heap.size w w' := by
 go_enter Try.func5, Try.ntmps5
 go_wp2_with fail; refine (made17_F A k c l 5 _ h HL (by omega)).mono ?_; rintro e w1 ⟨v, b, rows, rfl, hpl, hpe, hlen, hb1⟩; obtain ⟨X1, xk1, xc1, X2, xk2, xc2, S, kS, cS, rfl⟩ := hpl.shape; have HPE := Lib.hid hpe; clear hpe hlen; go_upto_region 2 with fail; refine wp_name ?_; intro w2 HW2; have hb : Below w1.heap.size w1 w2 := by rw [HW2.out]; exact bA _ _
 have hBP : Blk w2 w1.heap.size 28 #[.slice X1 xk1 xc1, .slice X2 xk2 xc2, .slice S kS cS] := by rw [HW2.out]; exact Blk.new _ _ _
 obtain ⟨gP, hgP⟩ : ∃ g, Hid (g = w1.heap.size) := ⟨_, rfl⟩; rw [← hgP.out] at hBP ⊢; have P0 := hBP.cell 0; have P1 := hBP.cell 1; have P2 := hBP.cell 2; simp only [List.getElem?_toArray, List.getElem?_cons_zero, List.getElem?_cons_succ] at P0 P1 P2; have hpl := hpl.below hb; have hbw := Below.tr hb1 hb; have h2 := h'.below hbw; have HOK := Lib.hid hpl.okP; obtain ⟨pb, qb, hPN⟩ := planN_of HPE.out HOK.out.1 HOK.out.2; have HPN := Lib.hid hPN; clear HW2 hBP hgP hb hb1 HOK hPN; go_wp2_with fail; refine (bad_n A' k' c' 12 l' _ h2 HL' (by omega)).mono ?_; rintro e w3 ⟨v, bad, rfl, hown, hb12, hb⟩; obtain ⟨Ab, cb, rfl⟩ := own_shp hown; have hbad := own_any boolC_len (by omega) (by omega) hown; have hcap := Lib.hid (own_two hown); obtain ⟨kb, HKB⟩ : ∃ n, Hid (n = bad.length) := ⟨_, rfl⟩; rw [← HKB.out] at hbad hb12 hcap ⊢; have hpl := hpl.below hb; have P0 := cell_keep hb P0; have P1 := cell_keep hb P1; have P2 := cell_keep hb P2; have hbw := Below.tr hbw hb; clear hown hb h2; have s1 : IntKind.i64.wrap ((kb : Int) + 1) = (kb : Int) + 1 := by rw [IntWalk.i64_in _ (by omega)]
 have HA := around_n at_ (kb + 1) w3 i1.1 i1.2 (by omega) (by omega); rw [show ((kb + 1 : Nat) : Int) = (kb : Int) + 1 by push_cast; rfl] at HA; have HA := Lib.hid HA; go_wp2_with fail; refine HA.out.mono ?_; rintro e w' ⟨kk, rfl, hkk1, _, rfl⟩; have hkk : kk ≤ kb := by omega
 have hkc : kb ≤ cb := by rcases hcap.out with ⟨_, h1, h2⟩ | ⟨_, _, h1, _⟩ <;> omega
 clear HA hkk1; obtain ⟨nX, HNX⟩ : ∃ n, Hid (n = kb + 1) := ⟨_, rfl⟩; go_wp2_with fail; refine (plan_E _ b rows _ hpl).mono ?_; rintro e w5 ⟨rfl, hb5⟩; go_wp2_with fail; refine (caps_ok _ b rows Ab kb cb nX bad _ (hpl.below hb5) HPE.out (hbad.below hb5) (by omega) HNX.out).mono ?_; rintro e w6 ⟨v, rfl, ⟨AX, cX, rfl, hX⟩, hb6⟩; have hb56 := Below.tr hb5 hb6; have hpl := hpl.below hb56; have hbad := hbad.below hb56; have P0 := cell_keep hb56 P0; have P1 := cell_keep hb56 P1; have P2 := cell_keep hb56 P2; have hbw := Below.tr hbw hb56; obtain ⟨n1, HN1⟩ : ∃ n, Hid (n = kk + 1) := ⟨_, rfl⟩; obtain ⟨m2, HM2⟩ : ∃ n, Hid (n = kb - kk) := ⟨_, rfl⟩; obtain ⟨n2, HN2⟩ : ∃ n, Hid (n = kb - kk + 1) := ⟨_, rfl⟩; obtain ⟨bk, HBK⟩ : ∃ z, Hid (z = bad.take kk) := ⟨_, rfl⟩; have HPR : Hid (planE b (restRows rows kk (cntB (bad.take kk))) = 0) := rest_planE HPE.out (by have := cntB_le (bad.take kk); have := List.length_take_le kk bad; omega); clear hb5 hb6 hb56; go_upto_region 5 with fail; refine region_invF (PhiK5 (.agg #[.slice X1 xk1 xc1, .slice X2 xk2 xc2, .slice S kS cS]) Ab kb cb kk n1 (capsV b rows (bad.take kk))) (fun w w' => Below w.heap.size w w') (fun W => Below w6.heap.size w6 W) (by kernel_rfl) (by kernel_rfl) (by kernel_rfl) PhiK5.keep (fun _ _ hR hS => Below.tr hS hR) (bD _) (fun vs => by simp only [fillR, Act.put, sA, sB, sC, Nat.zero_add, Nat.reduceAdd]; rfl) ?_ ?_
 ·refine sK ?_ (sK ?_ (sK ?_ (sK ?_ (sK ?_ (sK ?_ (sK ?_ (sK ?_ (sK ?_ (sK ?_ (sK ?_ (sZ)))))))))))
  ·as_aux_lemma =>
   intro vs W hS hdep K hK; have f1 := cell_keep hS P0; have f2 := cell_keep hS P1; have f3 := cell_keep hS P2; refine ⟨?_⟩; simp only [Act.put, sA, sB, sC, Nat.zero_add, Nat.reduceAdd] at hK ⊢; go_simp; with_reducible refine hK _ _ (Below.refl _ _) ?_
   exact rfl
  ·as_aux_lemma =>
   intro vs W hS hdep K hK; have d0 := hdep ⟨0, .data⟩ (by simp) rfl; simp only [PhiK5] at d0; refine ⟨?_⟩; simp only [Act.put, sA, sB, sC, Nat.zero_add, Nat.reduceAdd, d0] at hK ⊢; go_simp; refine (plan_E _ b rows _ (hpl.below hS)).mono ?_; rintro e w' ⟨rfl, hb⟩; go_wp2_with fail; with_reducible refine hK _ _ hb ?_
   exact rfl
  ·as_aux_lemma =>
   intro vs W hS hdep K hK; refine ⟨?_⟩; simp only [Act.put, sA, sB, sC, Nat.zero_add, Nat.reduceAdd] at hK ⊢; go_simp; with_reducible refine hK _ _ (Below.refl _ _) ?_
   exact rfl
  ·as_aux_lemma =>
   intro vs W hS hdep K hK; refine ⟨?_⟩; simp only [Act.put, sA, sB, sC, Nat.zero_add, Nat.reduceAdd] at hK ⊢; go_simp; with_reducible refine hK _ _ (Below.refl _ _) ?_
   exact rfl
  ·as_aux_lemma =>
   intro vs W hS hdep K hK; have d0 := hdep ⟨2, .data⟩ (by simp) rfl; simp only [PhiK5] at d0; have d1 := hdep ⟨3, .data⟩ (by simp) rfl; simp only [PhiK5] at d1; have h1 := hkk; have h2 : kk ≤ cb := Nat.le_trans hkk hkc; refine ⟨?_⟩; simp only [Act.put, sA, sB, sC, Nat.zero_add, Nat.reduceAdd, d0, d1] at hK ⊢; go_simp; with_reducible refine hK _ _ (Below.refl _ _) ?_
   exact rfl
  ·as_aux_lemma =>
   intro vs W hS hdep K hK; have d0 := hdep ⟨1, .data⟩ (by simp) rfl; simp only [PhiK5] at d0; have d1 := hdep ⟨4, .data⟩ (by simp) rfl; simp only [PhiK5] at d1; refine ⟨?_⟩; simp only [Act.put, sA, sB, sC, Nat.zero_add, Nat.reduceAdd, d0, d1] at hK ⊢; go_simp; refine (caps_ok _ b rows Ab kk cb n1 (bad.take kk) _ (hpl.below hS) HPE.out ((hbad.below hS).takeN hkk) (by omega) HN1.out).mono ?_; rintro e w' ⟨v, rfl, hv, hb⟩; go_wp2_with fail; with_reducible refine hK _ _ hb ?_
   exact hv
  ·as_aux_lemma =>
   intro vs W hS hdep K hK; have d0 := hdep ⟨5, .data⟩ (by simp) rfl; simp only [PhiK5] at d0; refine @exE2 _ _ _ _ d0 ?_; clear d0; intro A0 c0 d0; have e0 := d0.1; have n0 := d0.2; clear d0; refine ⟨?_⟩; simp only [Act.put, sA, sB, sC, Nat.zero_add, Nat.reduceAdd, e0] at hK ⊢; go_simp; with_reducible refine hK _ _ (Below.refl _ _) ?_
   exact ⟨_, _, rfl, n0⟩
  ·as_aux_lemma =>
   intro vs W hS hdep K hK; have d0 := hdep ⟨6, .data⟩ (by simp) rfl; simp only [PhiK5] at d0; refine @exE2 _ _ _ _ d0 ?_; clear d0; intro A0 c0 d0; have e0 := d0.1; have n0 := d0.2; clear d0; refine ⟨?_⟩; simp only [Act.put, sA, sB, sC, Nat.zero_add, Nat.reduceAdd, e0] at hK ⊢; go_simp; with_reducible refine hK _ _ (Below.refl _ _) ?_
   exact ⟨_, _, rfl, n0⟩
  ·as_aux_lemma =>
   intro vs W hS hdep K hK; have d0 := hdep ⟨6, .data⟩ (by simp) rfl; simp only [PhiK5] at d0; refine @exE2 _ _ _ _ d0 ?_; clear d0; intro A0 c0 d0; have e0 := d0.1; have n0 := d0.2; clear d0; refine ⟨?_⟩; simp only [Act.put, sA, sB, sC, Nat.zero_add, Nat.reduceAdd, e0] at hK ⊢; go_simp; with_reducible refine hK _ _ (Below.refl _ _) ?_
   exact rfl
  ·as_aux_lemma =>
   intro vs W hS hdep K hK; have d0 := hdep ⟨7, .data⟩ (by simp) rfl; simp only [PhiK5] at d0; refine @exE2 _ _ _ _ d0 ?_; clear d0; intro A0 c0 d0; have e0 := d0.1; have n0 := d0.2; clear d0; refine ⟨?_⟩; simp only [Act.put, sA, sB, sC, Nat.zero_add, Nat.reduceAdd, e0] at hK ⊢; go_simp; with_reducible refine hK _ _ (Below.refl _ _) ?_
   exact ⟨_, _, rfl, n0⟩
  ·as_aux_lemma =>
   intro vs W hS hdep K hK; have d0 := hdep ⟨8, .data⟩ (by simp) rfl; simp only [PhiK5] at d0; refine ⟨?_⟩; simp only [Act.put, sA, sB, sC, Nat.zero_add, Nat.reduceAdd, d0] at hK ⊢; go_simp; with_reducible refine hK _ _ (Below.refl _ _) ?_
   exact rfl
 intro vs w7 hb hv; have v9 := hv 9 (by simp); have v10 := hv 10 (by simp); simp only [PhiK5] at v9 v10; obtain ⟨AA, cA, v9, ha⟩ := v9; simp only [Act.put, sA, sB, sC, Nat.zero_add, Nat.reduceAdd, v9, v10]; have hpl := hpl.below hb; have hbad := hbad.below hb; have hX := hX.below hb; have P0 := cell_keep hb P0; have P1 := cell_keep hb P1; have P2 := cell_keep hb P2; have hbw := Below.tr hbw hb; clear hv v9 v10 hb; go_upto_region 6 with fail; refine region_invF (PhiK6 (.agg #[.slice X1 xk1 xc1, .slice X2 xk2 xc2, .slice S kS cS]) b (restRows rows kk (cntB (bad.take kk))) Ab kb cb kk n2 (bad.drop kk) (capsV b (restRows rows kk (cntB (bad.take kk))) (bad.drop kk))) (fun w w' => Below w.heap.size w w') (fun W => Below w7.heap.size w7 W) (by kernel_rfl) (by kernel_rfl) (by kernel_rfl) PhiK6.keep (fun _ _ hR hS => Below.tr hS hR) (bD _) (fun vs => by simp only [fillR, Act.put, sA, sB, sC, Nat.zero_add, Nat.reduceAdd]; rfl) ?_ ?_
 ·refine sK ?_ (sK ?_ (sK ?_ (sK ?_ (sK ?_ (sK ?_ (sK ?_ (sK ?_ (sK ?_ (sK ?_ (sK ?_ (sK ?_ (sK ?_ (sK ?_ (sK ?_ (sZ)))))))))))))))
  ·as_aux_lemma =>
   intro vs W hS hdep K hK; have f1 := cell_keep hS P0; have f2 := cell_keep hS P1; have f3 := cell_keep hS P2; refine ⟨?_⟩; simp only [Act.put, sA, sB, sC, Nat.zero_add, Nat.reduceAdd] at hK ⊢; go_simp; with_reducible refine hK _ _ (Below.refl _ _) ?_
   exact rfl
  ·as_aux_lemma =>
   intro vs W hS hdep K hK; refine ⟨?_⟩; simp only [Act.put, sA, sB, sC, Nat.zero_add, Nat.reduceAdd] at hK ⊢; go_simp; with_reducible refine hK _ _ (Below.refl _ _) ?_
   exact rfl
  ·as_aux_lemma =>
   intro vs W hS hdep K hK; refine ⟨?_⟩; simp only [Act.put, sA, sB, sC, Nat.zero_add, Nat.reduceAdd] at hK ⊢; go_simp; with_reducible refine hK _ _ (Below.refl _ _) ?_
   exact rfl
  ·as_aux_lemma =>
   intro vs W hS hdep K hK; have d0 := hdep ⟨1, .data⟩ (by simp) rfl; simp only [PhiK6] at d0; have d1 := hdep ⟨2, .data⟩ (by simp) rfl; simp only [PhiK6] at d1; have h1 := hkk; have h2 : kk ≤ cb := Nat.le_trans hkk hkc; refine ⟨?_⟩; simp only [Act.put, sA, sB, sC, Nat.zero_add, Nat.reduceAdd, d0, d1] at hK ⊢; go_simp; with_reducible refine hK _ _ (Below.refl _ _) ?_
   exact rfl
  ·as_aux_lemma =>
   intro vs W hS hdep K hK; have d0 := hdep ⟨0, .data⟩ (by simp) rfl; simp only [PhiK6] at d0; have d1 := hdep ⟨3, .data⟩ (by simp) rfl; simp only [PhiK6] at d1; refine ⟨?_⟩; simp only [Act.put, sA, sB, sC, Nat.zero_add, Nat.reduceAdd, d0, d1] at hK ⊢; go_simp; refine (rest_F _ b rows Ab kk cb (bad.take kk) _ (hpl.below hS) HPN.out.len ((hbad.below hS).takeN hkk) (by omega)).mono ?_; rintro e w' ⟨v, rfl, hv, hb⟩; go_wp2_with fail; with_reducible refine hK _ _ hb ?_
   exact hv
  ·as_aux_lemma =>
   intro vs W hS hdep K hK; have d0 := hdep ⟨4, .data⟩ (by simp) rfl; simp only [PhiK6] at d0; have r0 := d0; clear d0; obtain ⟨Y1, y1, z1, Y2, y2, z2, Y3, y3, z3, e1⟩ := r0.shape; rw [e1] at r0; refine ⟨?_⟩; simp only [Act.put, sA, sB, sC, Nat.zero_add, Nat.reduceAdd, e1] at hK ⊢; go_simp; refine (plan_E _ b _ _ r0).mono ?_; rintro e w' ⟨rfl, hb⟩; go_wp2_with fail; with_reducible refine hK _ _ hb ?_
   exact r0.below hb
  ·as_aux_lemma =>
   intro vs W hS hdep K hK; refine ⟨?_⟩; simp only [Act.put, sA, sB, sC, Nat.zero_add, Nat.reduceAdd] at hK ⊢; go_simp; with_reducible refine hK _ _ (Below.refl _ _) ?_
   exact rfl
  ·as_aux_lemma =>
   intro vs W hS hdep K hK; refine ⟨?_⟩; simp only [Act.put, sA, sB, sC, Nat.zero_add, Nat.reduceAdd] at hK ⊢; go_simp; with_reducible refine hK _ _ (Below.refl _ _) ?_
   exact rfl
  ·as_aux_lemma =>
   intro vs W hS hdep K hK; have d0 := hdep ⟨6, .data⟩ (by simp) rfl; simp only [PhiK6] at d0; have d1 := hdep ⟨7, .data⟩ (by simp) rfl; simp only [PhiK6] at d1; have h1 := hkk; have h2 := hkc; have h3 : kk ≤ cb := Nat.le_trans hkk hkc; have hbW := hbad.below hS; refine ⟨?_⟩; simp only [Act.put, sA, sB, sC, Nat.zero_add, Nat.reduceAdd, d0, d1] at hK ⊢; go_simp; with_reducible refine hK _ _ (Below.refl _ _) ?_
   exact ⟨_, _, rfl, hbW.dropC hcap.out hkk (by first | rfl | simp)⟩
  ·as_aux_lemma =>
   intro vs W hS hdep K hK; have d0 := hdep ⟨5, .data⟩ (by simp) rfl; simp only [PhiK6] at d0; have r0 := d0; clear d0; have d1 := hdep ⟨8, .data⟩ (by simp) rfl; simp only [PhiK6] at d1; refine @exE2 _ _ _ _ d1 ?_; clear d1; intro A1 c1 d1; have e1 := d1.1; have n1 := d1.2; clear d1; obtain ⟨Y1, y1, z1, Y2, y2, z2, Y3, y3, z3, e2⟩ := r0.shape; rw [e2] at r0; refine ⟨?_⟩; simp only [Act.put, sA, sB, sC, Nat.zero_add, Nat.reduceAdd, e2, e1] at hK ⊢; go_simp; refine (caps_ok _ b _ A1 (kb - kk) c1 n2 _ _ r0 HPR.out n1 (by omega) HN2.out).mono ?_; rintro e w' ⟨v, rfl, hv, hb⟩; go_wp2_with fail; with_reducible refine hK _ _ hb ?_
   exact hv
  ·as_aux_lemma =>
   intro vs W hS hdep K hK; have d0 := hdep ⟨9, .data⟩ (by simp) rfl; simp only [PhiK6] at d0; refine @exE2 _ _ _ _ d0 ?_; clear d0; intro A0 c0 d0; have e0 := d0.1; have n0 := d0.2; clear d0; refine ⟨?_⟩; simp only [Act.put, sA, sB, sC, Nat.zero_add, Nat.reduceAdd, e0] at hK ⊢; go_simp; with_reducible refine hK _ _ (Below.refl _ _) ?_
   exact ⟨_, _, rfl, n0⟩
  ·as_aux_lemma =>
   intro vs W hS hdep K hK; have d0 := hdep ⟨10, .data⟩ (by simp) rfl; simp only [PhiK6] at d0; refine @exE2 _ _ _ _ d0 ?_; clear d0; intro A0 c0 d0; have e0 := d0.1; have n0 := d0.2; clear d0; refine ⟨?_⟩; simp only [Act.put, sA, sB, sC, Nat.zero_add, Nat.reduceAdd, e0] at hK ⊢; go_simp; with_reducible refine hK _ _ (Below.refl _ _) ?_
   exact ⟨_, _, rfl, n0⟩
  ·as_aux_lemma =>
   intro vs W hS hdep K hK; have d0 := hdep ⟨10, .data⟩ (by simp) rfl; simp only [PhiK6] at d0; refine @exE2 _ _ _ _ d0 ?_; clear d0; intro A0 c0 d0; have e0 := d0.1; have n0 := d0.2; clear d0; refine ⟨?_⟩; simp only [Act.put, sA, sB, sC, Nat.zero_add, Nat.reduceAdd, e0] at hK ⊢; go_simp; with_reducible refine hK _ _ (Below.refl _ _) ?_
   exact rfl
  ·as_aux_lemma =>
   intro vs W hS hdep K hK; have d0 := hdep ⟨11, .data⟩ (by simp) rfl; simp only [PhiK6] at d0; refine @exE2 _ _ _ _ d0 ?_; clear d0; intro A0 c0 d0; have e0 := d0.1; have n0 := d0.2; clear d0; refine ⟨?_⟩; simp only [Act.put, sA, sB, sC, Nat.zero_add, Nat.reduceAdd, e0] at hK ⊢; go_simp; with_reducible refine hK _ _ (Below.refl _ _) ?_
   exact ⟨_, _, rfl, n0⟩
  ·as_aux_lemma =>
   intro vs W hS hdep K hK; have d0 := hdep ⟨12, .data⟩ (by simp) rfl; simp only [PhiK6] at d0; refine ⟨?_⟩; simp only [Act.put, sA, sB, sC, Nat.zero_add, Nat.reduceAdd, d0] at hK ⊢; go_simp; with_reducible refine hK _ _ (Below.refl _ _) ?_
   exact rfl
 intro vs2 wq hb hv; have v13 := hv 13 (by simp); have v14 := hv 14 (by simp); simp only [PhiK6] at v13 v14; obtain ⟨AB, cB, v13, hl⟩ := v13; simp only [Act.put, sA, sB, sC, Nat.zero_add, Nat.reduceAdd, v13, v14]; have hX := hX.below hb; have ha := ha.below hb; have hbw := Below.tr hbw hb; clear hv v13 v14 hb hpl hbad P0 P1 P2; have s2 : IntKind.i64.wrap ((kk : Int) + 1) = (kk : Int) + 1 := by rw [IntWalk.i64_in _ (by omega)]
 have s3 : IntKind.i64.wrap ((kb : Int) - (kk : Int)) = (kb : Int) - (kk : Int) := by rw [IntWalk.i64_in _ (by omega)]
 have s4 : IntKind.i64.wrap ((kb : Int) - (kk : Int) + 1) = (kb : Int) - (kk : Int) + 1 := by rw [IntWalk.i64_in _ (by omega)]
 have s5 : IntKind.i64.wrap ((n2 : Int) - 1) = (m2 : Int) := by rw [IntWalk.i64_in _ (by have := HN2.out; omega)]; have := HN2.out; have := HM2.out; omega
 have t1 : ((nX : Int) != (kb : Int) + 1) = false := by have := HNX.out; simp; omega
 have t2 : ((n1 : Int) != (kk : Int) + 1) = false := by have := HN1.out; simp; omega
 have t3 : ((n2 : Int) != (kb : Int) - (kk : Int) + 1) = false := by have := HN2.out; simp; omega
 have l1 : kk < n1 := by have := HN1.out; omega
 have l2 : m2 < n2 := by have := HN2.out; have := HM2.out; omega
 have l3 : kb < nX := by have := HNX.out; omega
 have HCL := Lib.hid (cut_law HPN.out (bad := bad) (k := kk) (by have := HKB.out; omega) (by have := HKB.out; omega)); have hL1 : Hid ((bad.take kk).length = kk) := by show _ = _; rw [List.length_take]; have := HKB.out; omega
 have hL2 : Hid ((bad.drop kk).length = m2) := by show _ = _; rw [List.length_drop]; have := HKB.out; have := HM2.out; omega
 obtain ⟨bU, oA, e1, e2, ca, rfl, g1, g2, HCA, hca⟩ := ha.at_ l1; obtain ⟨bT, oB, f1, f2, cz, rfl, k1, k2, HCB, hcz⟩ := hl.at_ l2
 have HCA2 : Hid (ca = lastC b rows 0 0 oneP (bad.take kk)) := by
  have h1 := capsV_last (b := b) (rows := rows) (bad.take kk); rw [hL1.out, HCA.out] at h1; injection h1
 have HCB2 : Hid (cz = lastC b (restRows rows kk (cntB (bad.take kk))) 0 0 oneP (bad.drop kk)) := by
  have h1 := capsV_last (b := b) (rows := restRows rows kk (cntB (bad.take kk))) (bad.drop kk); rw [hL2.out, HCB.out] at h1; injection h1
 have HM0 : Hid ((mulF ca cz).1 = 0) := by show _ = _; rw [HCA2.out, HCB2.out]; exact HCL.out.1
 have HMV : Hid (mulV ca cz = lastC b rows 0 0 oneP bad) := by show _ = _; rw [HCA2.out, HCB2.out]; exact HCL.out.2
 have l1' : (kk : Int) < (n1 : Int) := by omega
 have l2' : (m2 : Int) < (n2 : Int) := by omega
 have l3' : (kb : Int) < (nX : Int) := by omega
 clear HCL ha hl HCA2 HCB2; go_upto_region 9 with fail; refine region_invW (PhiK9 bU oA n1 cA bT oB n2 cB kk m2 e1 e2 f1 f2 (mulV ca cz) wq.heap.size) (RT wq.heap.size) (SD wq 12 14 15) (by kernel_rfl) (by kernel_rfl) (by kernel_rfl) PhiK9.keep (SD.start _ _ _ _ _) (fun vs => by simp only [fillR, Act.put, sA, sB, sC, Nat.zero_add, Nat.reduceAdd]; rfl) ?_ ?_
 ·refine sK ?_ (sK ?_ (sK ?_ (sK ?_ (sK ?_ (sK ?_ (sK ?_ (sK ?_ (sK ?_ (sK ?_ (sK ?_ (sK ?_ (sK ?_ (sK ?_ (sK ?_ (sK ?_ (sK ?_ (sZ)))))))))))))))))
  ·as_aux_lemma =>
   intro vs L W hS hL cl hdl hdep K hK; refine ⟨?_⟩; simp only [Act.put, sA, sB, sC, Nat.zero_add, Nat.reduceAdd] at hK ⊢; go_simp; with_reducible refine hK _ _ (RT.refl _ _) (hS.step (Below.refl _ _) 0 _ (by decide) (fun e => absurd e (by decide))) ?_
   exact rfl
  ·as_aux_lemma =>
   intro vs L W hS hL cl hdl hdep K hK; refine ⟨?_⟩; simp only [Act.put, sA, sB, sC, Nat.zero_add, Nat.reduceAdd] at hK ⊢; go_simp; with_reducible refine hK _ _ (RT.refl _ _) (hS.step (Below.refl _ _) 1 _ (by decide) (fun e => absurd e (by decide))) ?_
   exact rfl
  ·as_aux_lemma =>
   intro vs L W hS hL cl hdl hdep K hK; have d0 := hdep ⟨0, .data⟩ (by simp) rfl; simp only [PhiK9] at d0; have d1 := hdep ⟨1, .data⟩ (by simp) rfl; simp only [PhiK9] at d1; refine ⟨?_⟩; simp only [Act.put, sA, sB, sC, Nat.zero_add, Nat.reduceAdd, d0, d1] at hK ⊢; go_simp; with_reducible refine hK _ _ (RT.refl _ _) (hS.step (Below.refl _ _) 2 _ (by decide) (fun e => absurd e (by decide))) ?_
   exact rfl
  ·as_aux_lemma =>
   intro vs L W hS hL cl hdl hdep K hK; have d0 := hdep ⟨2, .data⟩ (by simp) rfl; simp only [PhiK9] at d0; have f1 := cell_keep hS.be g1; have f2 := cell_keep hS.be g2; refine ⟨?_⟩; simp only [Act.put, sA, sB, sC, Nat.zero_add, Nat.reduceAdd, d0] at hK ⊢; go_simp; with_reducible refine hK _ _ (RT.refl _ _) (hS.step (Below.refl _ _) 3 _ (by decide) (fun e => absurd e (by decide))) ?_
   exact rfl
  ·as_aux_lemma =>
   intro vs L W hS hL cl hdl hdep K hK; refine ⟨?_⟩; simp only [Act.put, sA, sB, sC, Nat.zero_add, Nat.reduceAdd] at hK ⊢; go_simp; with_reducible refine hK _ _ (RT.refl _ _) (hS.step (Below.refl _ _) 4 _ (by decide) (fun e => absurd e (by decide))) ?_
   exact rfl
  ·as_aux_lemma =>
   intro vs L W hS hL cl hdl hdep K hK; refine ⟨?_⟩; simp only [Act.put, sA, sB, sC, Nat.zero_add, Nat.reduceAdd] at hK ⊢; go_simp; with_reducible refine hK _ _ (RT.refl _ _) (hS.step (Below.refl _ _) 5 _ (by decide) (fun e => absurd e (by decide))) ?_
   exact rfl
  ·as_aux_lemma =>
   intro vs L W hS hL cl hdl hdep K hK; have d0 := hdep ⟨5, .data⟩ (by simp) rfl; simp only [PhiK9] at d0; refine ⟨?_⟩; simp only [Act.put, sA, sB, sC, Nat.zero_add, Nat.reduceAdd, d0] at hK ⊢; go_simp; with_reducible refine hK _ _ (RT.refl _ _) (hS.step (Below.refl _ _) 6 _ (by decide) (fun e => absurd e (by decide))) ?_
   exact rfl
  ·as_aux_lemma =>
   intro vs L W hS hL cl hdl hdep K hK; have d0 := hdep ⟨6, .data⟩ (by simp) rfl; simp only [PhiK9] at d0; refine ⟨?_⟩; simp only [Act.put, sA, sB, sC, Nat.zero_add, Nat.reduceAdd, d0] at hK ⊢; go_simp; with_reducible refine hK _ _ (RT.refl _ _) (hS.step (Below.refl _ _) 7 _ (by decide) (fun e => absurd e (by decide))) ?_
   exact rfl
  ·as_aux_lemma =>
   intro vs L W hS hL cl hdl hdep K hK; have d0 := hdep ⟨4, .data⟩ (by simp) rfl; simp only [PhiK9] at d0; have d1 := hdep ⟨7, .data⟩ (by simp) rfl; simp only [PhiK9] at d1; refine ⟨?_⟩; simp only [Act.put, sA, sB, sC, Nat.zero_add, Nat.reduceAdd, d0, d1] at hK ⊢; go_simp; with_reducible refine hK _ _ (RT.refl _ _) (hS.step (Below.refl _ _) 8 _ (by decide) (fun e => absurd e (by decide))) ?_
   exact rfl
  ·as_aux_lemma =>
   intro vs L W hS hL cl hdl hdep K hK; have d0 := hdep ⟨8, .data⟩ (by simp) rfl; simp only [PhiK9] at d0; have f1 := cell_keep hS.be k1; have f2 := cell_keep hS.be k2; refine ⟨?_⟩; simp only [Act.put, sA, sB, sC, Nat.zero_add, Nat.reduceAdd, d0] at hK ⊢; go_simp; with_reducible refine hK _ _ (RT.refl _ _) (hS.step (Below.refl _ _) 9 _ (by decide) (fun e => absurd e (by decide))) ?_
   exact rfl
  ·as_aux_lemma =>
   intro vs L W hS hL cl hdl hdep K hK; have d0 := hdep ⟨3, .data⟩ (by simp) rfl; simp only [PhiK9] at d0; have d1 := hdep ⟨9, .data⟩ (by simp) rfl; simp only [PhiK9] at d1; refine ⟨?_⟩; simp only [Act.put, sA, sB, sC, Nat.zero_add, Nat.reduceAdd, d0, d1] at hK ⊢; go_simp; refine (mul_ok0 _ _ ca cz _ (hca.below hS.be) (hcz.below hS.be) HM0.out).mono ?_; rintro e w' ⟨v, rfl, hn, hb⟩; go_wp2_with fail; with_reducible refine hK _ _ (RT.below hb hS.be.size) (hS.step hb 10 _ (by decide) (fun e => absurd e (by decide))) ?_
   exact ⟨v, rfl, hn⟩
  ·as_aux_lemma =>
   intro vs L W hS hL cl hdl hdep K hK; have d0 := hdep ⟨10, .data⟩ (by simp) rfl; simp only [PhiK9] at d0; refine @exE1 _ _ _ d0 ?_; clear d0; intro v0 d0; have e0 := d0.1; have n0 := d0.2; clear d0; refine ⟨?_⟩; simp only [Act.put, sA, sB, sC, Nat.zero_add, Nat.reduceAdd, e0] at hK ⊢; go_simp; with_reducible refine hK _ _ (RT.refl _ _) (hS.step (Below.refl _ _) 11 _ (by decide) (fun e => absurd e (by decide))) ?_
   exact ⟨_, rfl, n0⟩
  ·as_aux_lemma =>
   intro vs L W hS hL cl hdl hdep K hK; have d0 := hdep ⟨11, .data⟩ (by simp) rfl; simp only [PhiK9] at d0; refine @exE1 _ _ _ d0 ?_; clear d0; intro v0 d0; have e0 := d0.1; have n0 := d0.2; clear d0
   have h15 : L 15 = false := by
    cases h : L 15 with
    | false => rfl
    | true => exact absurd (cl 15 _ rfl h ⟨12, .data⟩ (by simp) rfl) (by rw [hL]; decide)
   obtain ⟨A, k, c, A', k', c', rfl⟩ := n0.shape; refine ⟨?_⟩; simp only [Act.put, sA, sB, sC, Nat.zero_add, Nat.reduceAdd, e0] at hK ⊢; go_simp; with_reducible refine hK _ _ (RT.refl _ _) (hS.step (Below.refl _ _) 12 _ (by decide) (fun _ => h15)) ?_
   exact ⟨_, _, _, _, _, _, rfl, n0⟩
  ·as_aux_lemma =>
   intro vs L W hS hL cl hdl hdep K hK; have d0 := hdep ⟨11, .data⟩ (by simp) rfl; simp only [PhiK9] at d0; refine @exE1 _ _ _ d0 ?_; clear d0; intro v0 d0; have e0 := d0.1; have n0 := d0.2; clear d0; refine ⟨?_⟩; simp only [Act.put, sA, sB, sC, Nat.zero_add, Nat.reduceAdd, e0] at hK ⊢; go_simp; with_reducible refine hK _ _ (RT.refl _ _) (hS.step (Below.refl _ _) 13 _ (by decide) (fun e => absurd e (by decide))) ?_
   exact rfl
  ·as_aux_lemma =>
   intro vs L W hS hL cl hdl hdep K hK
   have h15 : L 15 = false := by
    cases h : L 15 with
    | false => rfl
    | true => exact absurd (cl 15 _ rfl h ⟨14, .data⟩ (by simp) rfl) (by rw [hL]; decide)
   refine ⟨?_⟩; simp only [Act.put, sA, sB, sC, Nat.zero_add, Nat.reduceAdd] at hK ⊢; go_simp; with_reducible refine hK _ _ (RT.below (bA _ _) hS.be.size) (hS.step (bA _ _) 14 _ (by decide) (fun _ => h15)) ?_
   exact ⟨_, rfl, hS.be.size, none, 0, 0, none, 0, 0, Blk.new _ _ _⟩
  ·as_aux_lemma =>
   intro vs L W hS hL cl hdl hdep K hK; have d0 := hdep ⟨14, .data⟩ (by simp) rfl; simp only [PhiK9] at d0; refine @exE1 _ _ _ d0 ?_; clear d0; intro g0 d0; have e0 := d0.1; have l0 := d0.2.1; have s0 := d0.2.2; clear d0; have d1 := hdep ⟨12, .data⟩ (by simp) rfl; simp only [PhiK9] at d1; refine @exE6 _ _ _ _ _ _ _ _ d1 ?_; clear d1; intro A1 k1 c1 B1 m1 d1 d1; have e1 := d1.1; have n1 := d1.2; clear d1; obtain ⟨⟨a1, q1⟩, ⟨a2, q2⟩, q3, q4⟩ := s0.facts; refine ⟨?_⟩; simp only [Act.put, sA, sB, sC, Nat.zero_add, Nat.reduceAdd, e0, e1] at hK ⊢; go_simp; with_reducible refine hK undef _ (RT.store s0 l0 _ _ _ _ _ _) (hS.stored e0 e1 l0 s0 (by decide) (by decide) _) ?_
   exact trivial
  ·as_aux_lemma =>
   intro vs L W hS hL cl hdl hdep K hK; have d0 := hdep ⟨13, .data⟩ (by simp) rfl; simp only [PhiK9] at d0; refine ⟨?_⟩; simp only [Act.put, sA, sB, sC, Nat.zero_add, Nat.reduceAdd, d0] at hK ⊢; go_simp; with_reducible refine hK _ _ (RT.refl _ _) (hS.step (Below.refl _ _) 16 _ (by decide) (fun e => absurd e (by decide))) ?_
   exact rfl
 intro vs L w8 hS hall hv; have v16 := hv 16 (by simp); have v8 := hv 12 (by simp); simp only [PhiK9] at v16 v8; obtain ⟨_, _, _, _, _, _, e8', ho⟩ := v8; obtain ⟨g, A9, k9, c9, B9, m9, d9, e10, e8, hgN, hblk⟩ := hS.st (hall 15 (by simp)); rw [e8] at e8'; rw [← e8'] at ho; have HO := Lib.hid ho; have hbx := hS.be; clear hv hS hall e8' ho; simp only [Act.put, sA, sB, sC, Nat.zero_add, Nat.reduceAdd, v16, e10, e8]; have hyv0 := HO.out; obtain ⟨yv, HYV⟩ : ∃ y, Hid (y = lastC b rows 0 0 oneP bad) := ⟨_, rfl⟩; rw [HMV.out, ← HYV.out] at hyv0; have hyv := hyv0; have Y0 := hblk.cell 0; have Y1 := hblk.cell 1; simp only [List.getElem?_toArray, List.getElem?_cons_zero, List.getElem?_cons_succ] at Y0 Y1; have hX := hX.below hbx; have hbw := Below.tr hbw hbx; obtain ⟨bX, oX, h1', h2', y0, rfl, G1, G2, HC1, hhv⟩ := hX.at_ l3
 have hcc : yv = y0 := by
  have h1 := capsV_last (b := b) (rows := rows) bad; rw [← HKB.out, HC1.out, ← HYV.out] at h1; injection h1 with h1; exact h1.symm
 subst hcc; clear HO hblk hgN hbx hyv0; go_upto_region 10 with fail; refine region_invF (PhiKa bX oX nX cX kb cb Ab (.slice A9 k9 c9) (.slice B9 m9 d9) h1' h2') (fun w w' => Below w.heap.size w w') (fun W => Below w8.heap.size w8 W) (by kernel_rfl) (by kernel_rfl) (by kernel_rfl) PhiKa.keep (fun _ _ hR hS => Below.tr hS hR) (bD _) (fun vs => by simp only [fillR, Act.put, sA, sB, sC, Nat.zero_add, Nat.reduceAdd]; rfl) ?_ ?_
 ·refine sK ?_ (sK ?_ (sK ?_ (sK ?_ (sK ?_ (sK ?_ (sK ?_ (sK ?_ (sK ?_ (sK ?_ (sK ?_ (sK ?_ (sK ?_ (sK ?_ (sK ?_ (sZ)))))))))))))))
  ·as_aux_lemma =>
   intro vs W hS hdep K hK; refine ⟨?_⟩; simp only [Act.put, sA, sB, sC, Nat.zero_add, Nat.reduceAdd] at hK ⊢; go_simp; with_reducible refine hK _ _ (Below.refl _ _) ?_
   exact rfl
  ·as_aux_lemma =>
   intro vs W hS hdep K hK; have d0 := hdep ⟨0, .data⟩ (by simp) rfl; simp only [PhiKa] at d0; refine ⟨?_⟩; simp only [Act.put, sA, sB, sC, Nat.zero_add, Nat.reduceAdd, d0] at hK ⊢; go_simp; with_reducible refine hK _ _ (Below.refl _ _) ?_
   exact rfl
  ·as_aux_lemma =>
   intro vs W hS hdep K hK; have d0 := hdep ⟨1, .data⟩ (by simp) rfl; simp only [PhiKa] at d0; refine ⟨?_⟩; simp only [Act.put, sA, sB, sC, Nat.zero_add, Nat.reduceAdd, d0] at hK ⊢; go_simp; with_reducible refine hK _ _ (Below.refl _ _) ?_
   exact rfl
  ·as_aux_lemma =>
   intro vs W hS hdep K hK; have d0 := hdep ⟨2, .guard⟩ (by simp) rfl; simp only [PhiKa] at d0; have f1 := cell_keep hS Y0; have f2 := cell_keep hS Y1; refine ⟨?_⟩; simp only [Act.put, sA, sB, sC, Nat.zero_add, Nat.reduceAdd, d0] at hK ⊢; go_simp; with_reducible refine hK _ _ (Below.refl _ _) ?_
   exact rfl
  ·as_aux_lemma =>
   intro vs W hS hdep K hK; have d0 := hdep ⟨2, .guard⟩ (by simp) rfl; simp only [PhiKa] at d0; refine ⟨?_⟩; simp only [Act.put, sA, sB, sC, Nat.zero_add, Nat.reduceAdd, d0] at hK ⊢; go_simp; with_reducible refine hK _ _ (Below.refl _ _) ?_
   exact rfl
  ·as_aux_lemma =>
   intro vs W hS hdep K hK; have d0 := hdep ⟨2, .guard⟩ (by simp) rfl; simp only [PhiKa] at d0; refine ⟨?_⟩; simp only [Act.put, sA, sB, sC, Nat.zero_add, Nat.reduceAdd, d0] at hK ⊢; go_simp; with_reducible refine hK _ _ (Below.refl _ _) ?_
   exact rfl
  ·as_aux_lemma =>
   intro vs W hS hdep K hK; have d0 := hdep ⟨5, .data⟩ (by simp) rfl; simp only [PhiKa] at d0; have d1 := hdep ⟨2, .guard⟩ (by simp) rfl; simp only [PhiKa] at d1; refine ⟨?_⟩; simp only [Act.put, sA, sB, sC, Nat.zero_add, Nat.reduceAdd, d0, d1] at hK ⊢; go_simp; with_reducible refine hK _ _ (Below.refl _ _) ?_
   exact rfl
  ·as_aux_lemma =>
   intro vs W hS hdep K hK; have d0 := hdep ⟨4, .data⟩ (by simp) rfl; simp only [PhiKa] at d0; have d1 := hdep ⟨6, .data⟩ (by simp) rfl; simp only [PhiKa] at d1; have d2 := hdep ⟨2, .guard⟩ (by simp) rfl; simp only [PhiKa] at d2; refine ⟨?_⟩; simp only [Act.put, sA, sB, sC, Nat.zero_add, Nat.reduceAdd, d0, d1, d2] at hK ⊢; go_simp; with_reducible refine hK _ _ (Below.refl _ _) ?_
   exact rfl
  ·as_aux_lemma =>
   intro vs W hS hdep K hK; have d0 := hdep ⟨7, .data⟩ (by simp) rfl; simp only [PhiKa] at d0; have d1 := hdep ⟨2, .guard⟩ (by simp) rfl; simp only [PhiKa] at d1; have f1 := cell_keep hS G1; have f2 := cell_keep hS G2; refine ⟨?_⟩; simp only [Act.put, sA, sB, sC, Nat.zero_add, Nat.reduceAdd, d0, d1] at hK ⊢; go_simp; with_reducible refine hK _ _ (Below.refl _ _) ?_
   exact rfl
  ·as_aux_lemma =>
   intro vs W hS hdep K hK; have d0 := hdep ⟨3, .data⟩ (by simp) rfl; simp only [PhiKa] at d0; have d1 := hdep ⟨8, .data⟩ (by simp) rfl; simp only [PhiKa] at d1; have d2 := hdep ⟨2, .chain⟩ (by simp) rfl; simp only [PhiKa] at d2; refine ⟨?_⟩; simp only [Act.put, sA, sB, sC, Nat.zero_add, Nat.reduceAdd, d0, d1, d2] at hK ⊢; go_simp; refine (psame_F _ _ yv _ (hyv.below hS) (hhv.below hS)).mono ?_; rintro e w' ⟨rfl, hb⟩; go_wp2_with fail; with_reducible refine hK _ _ hb ?_
   exact rfl
  ·as_aux_lemma =>
   intro vs W hS hdep K hK; have d0 := hdep ⟨2, .data⟩ (by simp) rfl; simp only [PhiKa] at d0; have d1 := hdep ⟨9, .data⟩ (by simp) rfl; simp only [PhiKa] at d1; refine ⟨?_⟩; simp only [Act.put, sA, sB, sC, Nat.zero_add, Nat.reduceAdd, d0, d1] at hK ⊢; go_simp; with_reducible refine hK _ _ (Below.refl _ _) ?_
   exact rfl
  ·as_aux_lemma =>
   intro vs W hS hdep K hK; have d0 := hdep ⟨10, .data⟩ (by simp) rfl; simp only [PhiKa] at d0; have d1 := hdep ⟨9, .chain⟩ (by simp) rfl; simp only [PhiKa] at d1; refine ⟨?_⟩; simp only [Act.put, sA, sB, sC, Nat.zero_add, Nat.reduceAdd, d0, d1] at hK ⊢; go_simp; with_reducible refine hK _ _ (Below.refl _ _) ?_
   exact rfl
  ·as_aux_lemma =>
   intro vs W hS hdep K hK; have d0 := hdep ⟨11, .chain⟩ (by simp) rfl; simp only [PhiKa] at d0; refine ⟨?_⟩; simp only [Act.put, sA, sB, sC, Nat.zero_add, Nat.reduceAdd, d0] at hK ⊢; go_simp; refine (lives17_n _).mono ?_; rintro e w' ⟨rfl, hb⟩; go_wp2_with fail; with_reducible refine hK _ _ hb ?_
   exact rfl
  ·as_aux_lemma =>
   intro vs W hS hdep K hK; have d0 := hdep ⟨11, .data⟩ (by simp) rfl; simp only [PhiKa] at d0; have d1 := hdep ⟨12, .data⟩ (by simp) rfl; simp only [PhiKa] at d1; refine ⟨?_⟩; simp only [Act.put, sA, sB, sC, Nat.zero_add, Nat.reduceAdd, d0, d1] at hK ⊢; go_simp; with_reducible refine hK _ _ (Below.refl _ _) ?_
   exact rfl
  ·as_aux_lemma =>
   intro vs W hS hdep K hK; have d0 := hdep ⟨13, .data⟩ (by simp) rfl; simp only [PhiKa] at d0; have d1 := hdep ⟨12, .chain⟩ (by simp) rfl; simp only [PhiKa] at d1; refine ⟨?_⟩; simp only [Act.put, sA, sB, sC, Nat.zero_add, Nat.reduceAdd, d0, d1] at hK ⊢; go_simp; with_reducible refine hK _ _ (Below.refl _ _) ?_
   exact rfl
 intro vs3 w9 hb hv; have v14 := hv 14 (by simp); simp only [PhiKa] at v14; simp only [Act.put, sA, sB, sC, Nat.zero_add, Nat.reduceAdd, v14]; have hbw := Below.tr hbw hb; clear hv v14 hb Y0 Y1 G1 G2 hX hhv hyv hca hcz g1 g2 k1 k2; go_wp2_with fail; go_ret; exact ⟨rfl, hbw⟩
end Go.Proofs.Ytnjjdiilkhdbeaa
