import Derived.Test.YtnjjdiilkhdbeaaGreatKCapProof31
import Derived.Test.YtnjjdiilkhdbeaaGreatS0
set_option linter.unusedVariables false
set_option linter.unusedSimpArgs false
namespace Go.Proofs.YtnjjdiilkhdbeaaGreat
open Go Go.RowKit
def PhiC3 (p0 : Value) (how by_ : Int) (j : Nat) (w : World) (x : Value) : Prop :=
 match j with
 | 0 => x = p0
 | 1 => x = p0
 | 2 => x = .int .i64 how
 | 3 => x = .int .i64 by_
 | 4 => ∃ b' rows', PlanV w x b' rows'
 | 5 => ∃ g, x = .slice (some ⟨g, 0, none⟩) 2 2 ∧ PL2 w g
 | 6 => ∃ g, x = .slice (some ⟨g, 0, none⟩) 2 2 ∧ PL2 w g
 | _ => True
theorem PhiC3.keep {p0 : Value} {how by_ : Int} : ∀ (w w' : World), Below w.heap.size w w' → ∀ j x, PhiC3 p0 how by_ j w x → PhiC3 p0 how by_ j w' x := by
 intro w w' hb j x h; unfold PhiC3 at h ⊢
 split <;> simp only at h ⊢
 all_goals first
  | exact h
  | exact h.below hb
  | (obtain ⟨b, r, h⟩ := h; exact ⟨b, r, h.below hb⟩)
  | (obtain ⟨g, e, h⟩ := h; exact ⟨g, e, h.below hb⟩)
def PhiC18 (p0 : Value) (n kk bB oB kb cb : Nat) (bb : Bool) (X : LP) (B : Nat) (j : Nat) (w : World) (x : Value) : Prop :=
 match j with
 | 0 => x = p0
 | 1 => x = p0
 | 2 => x = .int .i64 (n : Nat)
 | 3 => x = .int .i64 (kk : Nat)
 | 4 => x = .slice (some ⟨bB, oB, none⟩) kb cb
 | 5 => x = .int .i64 (n : Nat)
 | 6 => x = .pointer (some ⟨bB, oB + n, none⟩)
 | 7 => x = .bool bb
 | 8 => ∃ v, x = .tuple #[v, .int .i64 (0 : Int)] ∧ RtP w v X
 | 9 => ∃ v, x = .tuple #[v, .int .i64 (0 : Int)] ∧ RtP w v X
 | 10 => ∃ A k c A' k' c', x = .agg #[.slice A k c, .slice A' k' c'] ∧ RtP w (.agg #[.slice A k c, .slice A' k' c']) X
 | 11 => x = .int .i64 (0 : Int)
 | 12 => ∃ g, x = .pointer (some ⟨g, 0, none⟩) ∧ B ≤ g ∧ Sl w g
 | 13 => True
 | 14 => x = .int .i64 (0 : Int)
 | _ => True
theorem PhiC18.keep {p0 : Value} {n kk bB oB kb cb : Nat} {bb : Bool} {X : LP} {B : Nat} : ∀ (w w' : World), RT B w w' → ∀ j x, PhiC18 p0 n kk bB oB kb cb bb X B j w x → PhiC18 p0 n kk bB oB kb cb bb X B j w' x := by
 intro w w' hr j x h; unfold PhiC18 at h ⊢
 split <;> simp only at h ⊢
 all_goals first
  | exact h
  | (obtain ⟨v, e, h⟩ := h; exact ⟨v, e, h.mapL hr.lim⟩)
  | (obtain ⟨A, k, c, A', k', c', e, h⟩ := h; exact ⟨A, k, c, A', k', c', e, h.mapL hr.lim⟩)
  | (obtain ⟨g, e, h1, h2⟩ := h; exact ⟨g, e, h1, hr.sl g h2⟩)
  | exact h.mapL hr.lim
def PhiC19 (n bX oX nA cA : Nat) (e1 e2 f1 f2 : Value) (X : LP) (B : Nat) (j : Nat) (w : World) (x : Value) : Prop :=
 match j with
 | 0 => x = .slice (some ⟨bX, oX, none⟩) nA cA
 | 1 => x = .int .i64 (n : Nat)
 | 2 => x = .pointer (some ⟨bX, oX + n * 2, none⟩)
 | 3 => x = .agg #[e1, e2]
 | 4 => x = .agg #[f1, f2]
 | 5 => ∃ v, x = .tuple #[v, .int .i64 (0 : Int)] ∧ RtP w v X
 | 6 => ∃ v, x = .tuple #[v, .int .i64 (0 : Int)] ∧ RtP w v X
 | 7 => ∃ A k c A' k' c', x = .agg #[.slice A k c, .slice A' k' c'] ∧ RtP w (.agg #[.slice A k c, .slice A' k' c']) X
 | 8 => x = .int .i64 (0 : Int)
 | 9 => ∃ g, x = .pointer (some ⟨g, 0, none⟩) ∧ B ≤ g ∧ Sl w g
 | 10 => True
 | 11 => x = .int .i64 (0 : Int)
 | _ => True
theorem PhiC19.keep {n bX oX nA cA : Nat} {e1 e2 f1 f2 : Value} {X : LP} {B : Nat} : ∀ (w w' : World), RT B w w' → ∀ j x, PhiC19 n bX oX nA cA e1 e2 f1 f2 X B j w x → PhiC19 n bX oX nA cA e1 e2 f1 f2 X B j w' x := by
 intro w w' hr j x h; unfold PhiC19 at h ⊢
 split <;> simp only at h ⊢
 all_goals first
  | exact h
  | (obtain ⟨v, e, h⟩ := h; exact ⟨v, e, h.mapL hr.lim⟩)
  | (obtain ⟨A, k, c, A', k', c', e, h⟩ := h; exact ⟨A, k, c, A', k', c', e, h.mapL hr.lim⟩)
  | (obtain ⟨g, e, h1, h2⟩ := h; exact ⟨g, e, h1, hr.sl g h2⟩)
  | exact h.mapL hr.lim
def PhiCz (n bX oX nA cA ek ec hk hc : Nat) (y1 y2 h1 h2 : Value) (E1 H1 : Option Addr) (j : Nat) (w : World) (x : Value) : Prop :=
 match j with
 | 0 => x = .int .i64 0
 | 1 => x = .bool false
 | 2 => x = .bool false
 | 3 => x = .int .i64 0
 | 4 => x = .bool false
 | 5 => x = .bool false
 | 6 => x = .bool false
 | 7 => x = .agg #[y1, y2]
 | 8 => x = .slice (some ⟨bX, oX, none⟩) nA cA
 | 9 => x = .int .i64 (n : Nat)
 | 10 => x = .int .i64 ((n : Int) + 1)
 | 11 => x = .pointer (some ⟨bX, oX + (n + 1) * 2, none⟩)
 | 12 => x = .agg #[h1, h2]
 | 13 => x = .bool true
 | 14 => x = .bool false
 | 15 => x = .bool false
 | 16 => x = .bool false
 | 17 => x = .slice (some ⟨bX, oX, none⟩) nA cA
 | 18 => x = .int .i64 (n : Nat)
 | 19 => x = .pointer (some ⟨bX, oX + n * 2, none⟩)
 | 20 => x = .pointer (some ⟨bX, oX + n * 2, none⟩)
 | 21 => x = .slice E1 ek ec
 | 22 => x = .int .i64 (ek : Nat)
 | 23 => x = .bool true
 | 24 => x = .bool true
 | 25 => x = .slice (some ⟨bX, oX, none⟩) nA cA
 | 26 => x = .int .i64 (n : Nat)
 | 27 => x = .int .i64 ((n : Int) + 1)
 | 28 => x = .pointer (some ⟨bX, oX + (n + 1) * 2, none⟩)
 | 29 => x = .pointer (some ⟨bX, oX + (n + 1) * 2, none⟩)
 | 30 => x = .slice H1 hk hc
 | 31 => x = .int .i64 (hk : Nat)
 | 32 => x = .bool false
 | 33 => x = .bool false
 | 34 => x = .bool false
 | _ => True
theorem PhiCz.keep {n bX oX nA cA ek ec hk hc : Nat} {y1 y2 h1 h2 : Value} {E1 H1 : Option Addr} : ∀ (w w' : World), Below w.heap.size w w' → ∀ j x, PhiCz n bX oX nA cA ek ec hk hc y1 y2 h1 h2 E1 H1 j w x → PhiCz n bX oX nA cA ek ec hk hc y1 y2 h1 h2 E1 H1 j w' x := by
 intro w w' hb j x h; unfold PhiCz at h ⊢
 split <;> simp only at h ⊢
 all_goals first
  | exact h
  | exact h.below hb
def PhiCn (n bX oX nA cA ek ec hk hc : Nat) (y1 y2 h1 h2 : Value) (E1 H1 : Option Addr) (j : Nat) (w : World) (x : Value) : Prop :=
 match j with
 | 0 => x = .int .i64 0
 | 1 => x = .bool false
 | 2 => x = .bool false
 | 3 => x = .int .i64 0
 | 4 => x = .bool false
 | 5 => x = .bool false
 | 6 => x = .bool false
 | 7 => x = .agg #[y1, y2]
 | 8 => x = .slice (some ⟨bX, oX, none⟩) nA cA
 | 9 => x = .int .i64 (n : Nat)
 | 10 => x = .int .i64 ((n : Int) + 1)
 | 11 => x = .pointer (some ⟨bX, oX + (n + 1) * 2, none⟩)
 | 12 => x = .agg #[h1, h2]
 | 13 => x = .bool true
 | 14 => x = .bool false
 | 15 => x = .bool false
 | 16 => x = .bool false
 | 17 => x = .slice (some ⟨bX, oX, none⟩) nA cA
 | 18 => x = .int .i64 (n : Nat)
 | 19 => x = .pointer (some ⟨bX, oX + n * 2, none⟩)
 | 20 => x = .pointer (some ⟨bX, oX + n * 2, none⟩)
 | 21 => x = .slice E1 ek ec
 | 22 => x = .int .i64 (ek : Nat)
 | 23 => x = .bool false
 | 24 => x = .bool false
 | 25 => x = undef
 | 26 => x = undef
 | 27 => x = undef
 | 28 => x = undef
 | 29 => x = undef
 | 30 => x = undef
 | 31 => x = undef
 | 32 => x = undef
 | 33 => x = .bool false
 | 34 => x = .bool false
 | _ => True
theorem PhiCn.keep {n bX oX nA cA ek ec hk hc : Nat} {y1 y2 h1 h2 : Value} {E1 H1 : Option Addr} : ∀ (w w' : World), Below w.heap.size w w' → ∀ j x, PhiCn n bX oX nA cA ek ec hk hc y1 y2 h1 h2 E1 H1 j w x → PhiCn n bX oX nA cA ek ec hk hc y1 y2 h1 h2 E1 H1 j w' x := by
 intro w w' hb j x h; unfold PhiCn at h ⊢
 split <;> simp only at h ⊢
 all_goals first
  | exact h
  | exact h.below hb
def PhiC24 (p0 : Value) (j : Nat) (w : World) (x : Value) : Prop :=
 match j with
 | 0 => x = p0
 | 1 => x = p0
 | 2 => ∃ g, x = .slice (some ⟨g, 0, none⟩) 257 257 ∧ RowS boolC w (some ⟨g, 0, none⟩) 257 (List.replicate 257 false)
 | 3 => ∃ v, x = .tuple #[v, .int .i64 4]
 | 4 => ∃ v, x = .tuple #[v, .int .i64 4]
 | 5 => True
 | 6 => x = .int .i64 4
 | 7 => True
 | 8 => x = .int .i64 4
 | _ => True
theorem PhiC24.keep {p0 : Value} : ∀ (w w' : World), Below w.heap.size w w' → ∀ j x, PhiC24 p0 j w x → PhiC24 p0 j w' x := by
 intro w w' hb j x h; unfold PhiC24 at h ⊢
 split <;> simp only at h ⊢
 all_goals first
  | exact h
  | exact h.below hb
  | (obtain ⟨g, e, h⟩ := h; exact ⟨g, e, h.below hb⟩)
def PhiC25 (p0 : Value) (j : Nat) (w : World) (x : Value) : Prop :=
 match j with
 | 0 => x = p0
 | 1 => x = p0
 | 2 => ∃ g, x = .slice (some ⟨g, 0, none⟩) 256 256 ∧ RowS boolC w (some ⟨g, 0, none⟩) 256 (List.replicate 256 false)
 | 3 => ∃ v, x = .tuple #[v, .int .i64 0]
 | 4 => ∃ v, x = .tuple #[v, .int .i64 0]
 | 5 => True
 | 6 => x = .int .i64 0
 | 7 => True
 | 8 => x = .int .i64 0
 | _ => True
theorem PhiC25.keep {p0 : Value} : ∀ (w w' : World), Below w.heap.size w w' → ∀ j x, PhiC25 p0 j w x → PhiC25 p0 j w' x := by
 intro w w' hb j x h; unfold PhiC25 at h ⊢
 split <;> simp only at h ⊢
 all_goals first
  | exact h
  | exact h.below hb
  | (obtain ⟨g, e, h⟩ := h; exact ⟨g, e, h.below hb⟩)
set_option maxRecDepth 100000 in
set_option maxHeartbeats 40000000 in
theorem wager_capitals_n (A : Option Addr) (k c : Nat) (l : List Int) (A' : Option Addr) (k' c' : Nat) (l' : List Int) (how by_ : Int) (w : World) (h : RowL intC w A k l) (HL : Hid (∀ x ∈ l, -9223372036854775808 ≤ x ∧ x ≤ 9223372036854775807)) (h' : RowL intC w A' k' l') (HL' : Hid (∀ x ∈ l', -9223372036854775808 ≤ x ∧ x ≤ 9223372036854775807)) (i1 : -9223372036854775808 ≤ how ∧ how ≤ 9223372036854775807) (i2 : -9223372036854775808 ≤ by_ ∧ by_ ≤ 9223372036854775807) :
  Calls Tryz.prog 5 #[.slice A k c, .slice A' k' c', .int .i64 how, .int .i64 by_] w fun e w' => e = .returned (.bool true) ∧ Below w.heap.size w w' := by
 obtain ⟨iP, hiP, hzP, hzP1, hzP2⟩ := info_parts info_plan17
 go_enter Tryz.func5, Tryz.ntmps5
 go_wp2_with fail; refine (made17_F A k c l 5 _ h HL (by omega)).mono ?_; rintro e w1 ⟨v, b, rows, rfl, hpl, hpe, hlen, hb1⟩; obtain ⟨X1, xk1, xc1, X2, xk2, xc2, S, kS, cS, rfl⟩ := hpl.shape; have HPE := Lib.hid hpe; clear hpe hlen; go_upto_region 2 with fail; refine wp_name ?_; intro w2 HW2; have hb : Below w1.heap.size w1 w2 := by rw [HW2.out]; exact bA _ _
 have hBP : Blk w2 w1.heap.size 28 #[.slice X1 xk1 xc1, .slice X2 xk2 xc2, .slice S kS cS] := by rw [HW2.out]; exact Blk.new _ _ _
 obtain ⟨gP, hgP⟩ : ∃ g, Hid (g = w1.heap.size) := ⟨_, rfl⟩; rw [← hgP.out] at hBP ⊢; have P0 := hBP.cell 0; have P1 := hBP.cell 1; have P2 := hBP.cell 2; simp only [List.getElem?_toArray, List.getElem?_cons_zero, List.getElem?_cons_succ] at P0 P1 P2; have hpl := hpl.below hb; have hbw := Below.tr hb1 hb; have h2 := h'.below hbw; have HOK := Lib.hid hpl.okP; obtain ⟨pb, qb, hPN⟩ := planN_of HPE.out HOK.out.1 HOK.out.2; clear HW2 hBP hgP hb hb1 HOK; go_wp2_with fail; refine (bad_n A' k' c' 24 l' _ h2 HL' (by omega)).mono ?_; rintro e w3 ⟨v, bad, rfl, hown, hb24, hb⟩; obtain ⟨Ab, cb, rfl⟩ := own_shp hown; have hbad := own_any boolC_len (by omega) (by omega) hown; obtain ⟨kb, HKB⟩ : ∃ n, Hid (n = bad.length) := ⟨_, rfl⟩; rw [← HKB.out] at hbad hb24 ⊢; have hpl := hpl.below hb; have P0 := cell_keep hb P0; have P1 := cell_keep hb P1; have P2 := cell_keep hb P2; have hbw := Below.tr hbw hb; clear hown hb h2; go_upto_region 3 with fail; refine region_invF (PhiC3 (.agg #[.slice X1 xk1 xc1, .slice X2 xk2 xc2, .slice S kS cS]) how by_) (fun w w' => Below w.heap.size w w') (fun W => Below w3.heap.size w3 W) (by kernel_rfl) (by kernel_rfl) (by kernel_rfl) PhiC3.keep (fun _ _ hR hS => Below.tr hS hR) (bD _) (fun vs => by simp only [fillR, Act.put, sA, sB, sC, Nat.zero_add, Nat.reduceAdd]; rfl) ?_ ?_
 ·refine sK ?_ (sK ?_ (sK ?_ (sK ?_ (sK ?_ (sK ?_ (sK ?_ (sZ)))))))
  ·as_aux_lemma =>
   intro vs W hS hdep K hK; have f1 := cell_keep hS P0; have f2 := cell_keep hS P1; have f3 := cell_keep hS P2; refine ⟨?_⟩; simp only [Act.put, sA, sB, sC, Nat.zero_add, Nat.reduceAdd] at hK ⊢; go_simp; with_reducible refine hK _ _ (Below.refl _ _) ?_
   exact rfl
  ·as_aux_lemma =>
   intro vs W hS hdep K hK; have f1 := cell_keep hS P0; have f2 := cell_keep hS P1; have f3 := cell_keep hS P2; refine ⟨?_⟩; simp only [Act.put, sA, sB, sC, Nat.zero_add, Nat.reduceAdd] at hK ⊢; go_simp; with_reducible refine hK _ _ (Below.refl _ _) ?_
   exact rfl
  ·as_aux_lemma =>
   intro vs W hS hdep K hK; refine ⟨?_⟩; simp only [Act.put, sA, sB, sC, Nat.zero_add, Nat.reduceAdd] at hK ⊢; go_simp; with_reducible refine hK _ _ (Below.refl _ _) ?_
   exact rfl
  ·as_aux_lemma =>
   intro vs W hS hdep K hK; refine ⟨?_⟩; simp only [Act.put, sA, sB, sC, Nat.zero_add, Nat.reduceAdd] at hK ⊢; go_simp; with_reducible refine hK _ _ (Below.refl _ _) ?_
   exact rfl
  ·as_aux_lemma =>
   intro vs W hS hdep K hK; have d0 := hdep ⟨1, .data⟩ (by simp) rfl; simp only [PhiC3] at d0; have d1 := hdep ⟨2, .data⟩ (by simp) rfl; simp only [PhiC3] at d1; have d2 := hdep ⟨3, .data⟩ (by simp) rfl; simp only [PhiC3] at d2; refine ⟨?_⟩; simp only [Act.put, sA, sB, sC, Nat.zero_add, Nat.reduceAdd, d0, d1, d2] at hK ⊢; go_simp; refine (spoilt17_V _ b rows how by_ _ (hpl.below hS) HPE.out i1 i2).mono ?_; rintro e w' ⟨v, rfl, hv, hb⟩; go_wp2_with fail; with_reducible refine hK _ _ hb ?_
   exact hv
  ·as_aux_lemma =>
   intro vs W hS hdep K hK; have d0 := hdep ⟨0, .data⟩ (by simp) rfl; simp only [PhiC3] at d0; have d1 := hdep ⟨4, .data⟩ (by simp) rfl; simp only [PhiC3] at d1; refine @exE2 _ _ _ _ d1 ?_; clear d1; intro b1 r1 d1; have h1 := d1; clear d1; obtain ⟨Y1, y1, z1, Y2, y2, z2, Y3, y3, z3, e1⟩ := h1.shape; rw [e1] at h1; have HP2 := Lib.hid (PL2.new W 28 _ _ _ _ _ _ _ _ _ _ (hpl.below hS) h1); clear h1; refine ⟨?_⟩; simp only [Act.put, sA, sB, sC, Nat.zero_add, Nat.reduceAdd, d0, e1] at hK ⊢; rw [if_pos (by rfl)]; refine wp_sliceN 31 28 2 [(0, .tmp 33), (1, .tmp 37)] rfl #[.slice X1 xk1 xc1, .slice X2 xk2 xc2, .slice S kS cS, .slice Y1 y1 z1, .slice Y2 y2 z2, .slice Y3 y3 z3] iP nilPlan 3 [(0, .agg #[.slice X1 xk1 xc1, .slice X2 xk2 xc2, .slice S kS cS]), (1, .agg #[.slice Y1 y1 z1, .slice Y2 y2 z2, .slice Y3 y3 z3])] Tryz.underlying31 hiP hzP hzP1 (by omega) (by omega) rfl (fill_p2 _ _ _ _ _ _ _ _ _ _ _ _ _ _ _ _ _ _) ?_; simp only [Act.put, sA, sB, sC]; with_reducible refine hK _ _ (bA _ _) ?_
   exact ⟨_, rfl, HP2.out⟩
  ·as_aux_lemma =>
   intro vs W hS hdep K hK; have d0 := hdep ⟨5, .data⟩ (by simp) rfl; simp only [PhiC3] at d0; refine @exE1 _ _ _ d0 ?_; clear d0; intro g0 d0; have e0 := d0.1; have n0 := d0.2; clear d0; refine ⟨?_⟩; simp only [Act.put, sA, sB, sC, Nat.zero_add, Nat.reduceAdd, e0] at hK ⊢; go_simp; with_reducible refine hK _ _ (Below.refl _ _) ?_
   exact ⟨_, rfl, n0⟩
 intro vs w4 hb hv; have v6 := hv 6 (by simp); simp only [PhiC3] at v6; obtain ⟨gL, v6, hL⟩ := v6; simp only [Act.put, sA, sB, sC, Nat.zero_add, Nat.reduceAdd, v6]; clear hv v6; have hpl := hpl.below hb; have hbad := hbad.below hb; have P0 := cell_keep hb P0; have P1 := cell_keep hb P1; have P2 := cell_keep hb P2; have hbw := Below.tr hbw hb; clear hb; go_wp2_with fail
 go_loopg [12] 2 (fun j x wr => ∃ i : Nat, x = .int .i64 i ∧ i + j = 2 ∧ Below w4.heap.size w4 wr)
 case atStart => exact ⟨0, rfl, by omega, Below.refl _ _⟩
 case round =>
  obtain ⟨G, hG⟩ : ∃ G, G = gk := ⟨gk, rfl⟩; subst hG; obtain ⟨i, rfl, hij, hbe⟩ := hrel; obtain ⟨wo, hwo⟩ : ∃ wo, wo = wr := ⟨_, rfl⟩; subst hwo; by_cases hi : i < 2
  ·have t1 : decide ((i : Int) < 2) = true := by simp; omega
   have hi2 : (i : Int) < 2 := by omega
   obtain ⟨z1, z2, z3, b', rows', c1, c2, c3, hpi⟩ := (hL.below hbe).at_ hi; have hbo := hbad.below hbe; obtain ⟨E, HE⟩ : ∃ E, Hid (E = capE b' rows' bad) := ⟨_, rfl⟩; obtain ⟨X, HX⟩ : ∃ X, Hid (X = capX b' rows' bad) := ⟨_, rfl⟩; have hXl : X.length ≤ 1048576 := by have h1 := capX_len (b := b') (rows := rows') (bad := bad); rw [HX.out]; have := HKB.out; omega
   obtain ⟨nX, HN⟩ : ∃ n, Hid (n = X.length) := ⟨_, rfl⟩; go_wp2_with fail; refine (plan_E _ b' rows' _ hpi).mono ?_; rintro e w5 ⟨rfl, hb5⟩; go_wp2_with fail; refine (capitals_F _ b' rows' Ab kb cb bad _ (hpi.below hb5) (hbo.below hb5)).mono ?_; rintro e w6 ⟨v, rfl, hA, hb6⟩; rw [← HX.out] at hA; rw [← HE.out]; obtain ⟨Aa, ca, rfl⟩ := hA.shp; have hra := hA.row (by omega); rw [← HN.out] at hra ⊢; have hb56 := Below.tr hb5 hb6; have c1 := cell_keep hb56 c1; have c2 := cell_keep hb56 c2; have c3 := cell_keep hb56 c3; have hpi := hpi.below hb56; have hbo := hbo.below hb56; clear hA; go_wp2_with fail; refine (rcapitals_F _ b' rows' Ab kb cb bad _ hpi hbo).mono ?_; rintro e w7 ⟨v, rfl, hA, hb7⟩; rw [← HX.out] at hA; rw [← HE.out]; obtain ⟨Ar, cr, rfl⟩ := hA.shp; have hrr := hA.row (by omega); rw [← HN.out] at hrr ⊢; have hra := hra.below hb7; have tE : (E != E) = false := by simp
   clear hA c1 c2 c3 hpi hbo; go_wp2_with fail; refine (same_F Aa Ar nX ca cr X _ hra hrr).mono ?_; rintro e w8 ⟨rfl, hb8⟩; have hbe8 := Below.tr (Below.tr (Below.tr hbe hb56) hb7) hb8; clear hra hrr hb5 hb6 hb7 hb56 hb8; go_wp2_with fail
   go_roundg (G - 1)
   case measure => omega
   case rel => exact ⟨i + 1, by go_num, by omega, hbe8⟩
  ·have t1 : decide ((i : Int) < 2) = false := by simp; omega
   have hpl := hpl.below hbe; have hbad := hbad.below hbe; have P0 := cell_keep hbe P0; have P1 := cell_keep hbe P1; have P2 := cell_keep hbe P2; have hbw := Below.tr hbw hbe; clear hL hbe; go_wp2_with fail; refine (plan_E _ b rows _ hpl).mono ?_; rintro e w5 ⟨rfl, hb5⟩; go_wp2_with fail; refine (capitals_F _ b rows Ab kb cb bad _ (hpl.below hb5) (hbad.below hb5)).mono ?_; rintro e w6 ⟨v, rfl, hA, hb6⟩; rw [capE_ok HPE.out (by have := HKB.out; omega)]; rw [capX_ok HPE.out (by have := HKB.out; omega)] at hA; obtain ⟨X, HX⟩ : ∃ X, Hid (X = capsV b rows bad) := ⟨_, rfl⟩; rw [← HX.out] at hA; have HXL : Hid (X.length = kb + 1) := by show _ = _; rw [HX.out, capsV_len, HKB.out]
   obtain ⟨AX, cA, rfl⟩ := hA.shp; obtain ⟨nA, HNA⟩ : ∃ n, Hid (n = kb + 1) := ⟨_, rfl⟩; have hX := hA.row (by have := HXL.out; omega); rw [HXL.out, ← HNA.out] at hX ⊢; have hb56 := Below.tr hb5 hb6; have hpl := hpl.below hb56; have hbad := hbad.below hb56; have P0 := cell_keep hb56 P0; have P1 := cell_keep hb56 P1; have P2 := cell_keep hb56 P2; have hbw := Below.tr hbw hb56; have hnA : (nA : Int) = (kb : Int) + 1 := by have := HNA.out; omega
   have t1 : ((nA : Int) != (kb : Int) + 1) = false := by simp; omega
   have HNI := Lib.hid hnA; clear hA hb5 hb6 hb56 hnA; go_wp2_with fail
   go_loopg [19, 20] kb (fun j x19 x20 wr => ∃ (n kk : Nat) (c : LP), x19 = .int .i64 kk ∧ x20 = .int .i64 n ∧ n + j = kb ∧ Hid (CapAt b rows bad X n kk c) ∧ Below w6.heap.size w6 wr)
   case atStart => exact ⟨0, 0, oneP, rfl, rfl, by omega, by show CapAt _ _ _ _ _ _ _; rw [HX.out]; exact CapAt.start _ _ _, Below.refl _ _⟩
   case round =>
    obtain ⟨G, hG⟩ : ∃ G, G = gk := ⟨gk, rfl⟩; subst hG; obtain ⟨n, kk, c, rfl, rfl, hnj, HCA, hbe⟩ := hrel; obtain ⟨wo, hwo⟩ : ∃ wo, wo = wr := ⟨_, rfl⟩; subst hwo; have hpl := hpl.below hbe; have hbad := hbad.below hbe; have P0 := cell_keep hbe P0; have P1 := cell_keep hbe P1; have P2 := cell_keep hbe P2; by_cases hn : n < kb
    ·have hnk : (n : Int) < (kb : Int) := by omega
     have t2 : decide ((n : Int) < (kb : Int)) = true := by simp; omega
     have hn20 : n ≤ 1048576 := by omega
     have hX := hX.below hbe; obtain ⟨bB, oB, bb, rfl, hcb, HB⟩ := hbad.bool hn; obtain ⟨HS1, HS2, HS3, HS4⟩ := HCA.out.step hPN HB.out (by omega); have hkn : kk ≤ n := HCA.out.2.2.1; have HY1 := Lib.hid HS1; have HM0 := Lib.hid HS2; have HZ := Lib.hid HS3; have HN4 := Lib.hid HS4; clear HS1 HS2 HS3 HS4; obtain ⟨ff, HFF⟩ : ∃ f, Hid (f = factorV b rows n kk bb) := ⟨_, rfl⟩; rw [← HFF.out] at HM0 HZ HY1 HN4; have hnA1 : (n : Int) < (nA : Int) := by have := HNI.out; omega
     have hnA2 : (n : Int) + 1 < (nA : Int) := by have := HNI.out; omega
     have hn0 : (0 : Int) ≤ (n : Int) + 1 := by omega
     have s1 : IntKind.i64.wrap ((n : Int) + 1) = (n : Int) + 1 := by rw [IntWalk.i64_in _ (by omega)]
     go_upto_region 18 with fail; refine region_invW (PhiC18 (.agg #[.slice X1 xk1 xc1, .slice X2 xk2 xc2, .slice S kS cS]) n kk bB oB kb cb bb (factorV b rows n kk bb) wo.heap.size) (RT wo.heap.size) (SD wo 10 12 13) (by kernel_rfl) (by kernel_rfl) (by kernel_rfl) PhiC18.keep (SD.start _ _ _ _ _) (fun vs => by simp only [fillR, Act.put, sA, sB, sC, Nat.zero_add, Nat.reduceAdd]; rfl) ?_ ?_
     ·refine sK ?_ (sK ?_ (sK ?_ (sK ?_ (sK ?_ (sK ?_ (sK ?_ (sK ?_ (sK ?_ (sK ?_ (sK ?_ (sK ?_ (sK ?_ (sK ?_ (sK ?_ (sZ)))))))))))))))
      ·as_aux_lemma =>
       intro vs L W hS hL cl hdl hdep K hK; have f1 := cell_keep hS.be P0; have f2 := cell_keep hS.be P1; have f3 := cell_keep hS.be P2; refine ⟨?_⟩; simp only [Act.put, sA, sB, sC, Nat.zero_add, Nat.reduceAdd] at hK ⊢; go_simp; with_reducible refine hK _ _ (RT.refl _ _) (hS.step (Below.refl _ _) 0 _ (by decide) (fun e => absurd e (by decide))) ?_
       exact rfl
      ·as_aux_lemma =>
       intro vs L W hS hL cl hdl hdep K hK; have d0 := hdep ⟨0, .data⟩ (by simp) rfl; simp only [PhiC18] at d0; refine ⟨?_⟩; simp only [Act.put, sA, sB, sC, Nat.zero_add, Nat.reduceAdd, d0] at hK ⊢; go_simp; refine (plan_E _ b rows _ (hpl.below hS.be)).mono ?_; rintro e w' ⟨rfl, hb⟩; go_wp2_with fail; with_reducible refine hK _ _ (RT.below hb hS.be.size) (hS.step hb 1 _ (by decide) (fun e => absurd e (by decide))) ?_
       exact rfl
      ·as_aux_lemma =>
       intro vs L W hS hL cl hdl hdep K hK; refine ⟨?_⟩; simp only [Act.put, sA, sB, sC, Nat.zero_add, Nat.reduceAdd] at hK ⊢; go_simp; with_reducible refine hK _ _ (RT.refl _ _) (hS.step (Below.refl _ _) 2 _ (by decide) (fun e => absurd e (by decide))) ?_
       exact rfl
      ·as_aux_lemma =>
       intro vs L W hS hL cl hdl hdep K hK; refine ⟨?_⟩; simp only [Act.put, sA, sB, sC, Nat.zero_add, Nat.reduceAdd] at hK ⊢; go_simp; with_reducible refine hK _ _ (RT.refl _ _) (hS.step (Below.refl _ _) 3 _ (by decide) (fun e => absurd e (by decide))) ?_
       exact rfl
      ·as_aux_lemma =>
       intro vs L W hS hL cl hdl hdep K hK; refine ⟨?_⟩; simp only [Act.put, sA, sB, sC, Nat.zero_add, Nat.reduceAdd] at hK ⊢; go_simp; with_reducible refine hK _ _ (RT.refl _ _) (hS.step (Below.refl _ _) 4 _ (by decide) (fun e => absurd e (by decide))) ?_
       exact rfl
      ·as_aux_lemma =>
       intro vs L W hS hL cl hdl hdep K hK; refine ⟨?_⟩; simp only [Act.put, sA, sB, sC, Nat.zero_add, Nat.reduceAdd] at hK ⊢; go_simp; with_reducible refine hK _ _ (RT.refl _ _) (hS.step (Below.refl _ _) 5 _ (by decide) (fun e => absurd e (by decide))) ?_
       exact rfl
      ·as_aux_lemma =>
       intro vs L W hS hL cl hdl hdep K hK; have d0 := hdep ⟨4, .data⟩ (by simp) rfl; simp only [PhiC18] at d0; have d1 := hdep ⟨5, .data⟩ (by simp) rfl; simp only [PhiC18] at d1; refine ⟨?_⟩; simp only [Act.put, sA, sB, sC, Nat.zero_add, Nat.reduceAdd, d0, d1] at hK ⊢; go_simp; with_reducible refine hK _ _ (RT.refl _ _) (hS.step (Below.refl _ _) 6 _ (by decide) (fun e => absurd e (by decide))) ?_
       exact rfl
      ·as_aux_lemma =>
       intro vs L W hS hL cl hdl hdep K hK; have d0 := hdep ⟨6, .data⟩ (by simp) rfl; simp only [PhiC18] at d0; have f1 := cell_keep hS.be hcb; refine ⟨?_⟩; simp only [Act.put, sA, sB, sC, Nat.zero_add, Nat.reduceAdd, d0] at hK ⊢; go_simp; with_reducible refine hK _ _ (RT.refl _ _) (hS.step (Below.refl _ _) 7 _ (by decide) (fun e => absurd e (by decide))) ?_
       exact rfl
      ·as_aux_lemma =>
       intro vs L W hS hL cl hdl hdep K hK; have d0 := hdep ⟨1, .data⟩ (by simp) rfl; simp only [PhiC18] at d0; have d1 := hdep ⟨2, .data⟩ (by simp) rfl; simp only [PhiC18] at d1; have d2 := hdep ⟨3, .data⟩ (by simp) rfl; simp only [PhiC18] at d2; have d3 := hdep ⟨7, .data⟩ (by simp) rfl; simp only [PhiC18] at d3; refine ⟨?_⟩; simp only [Act.put, sA, sB, sC, Nat.zero_add, Nat.reduceAdd, d0, d1, d2, d3] at hK ⊢; go_simp; refine (factorE_F _ b rows n kk bb _ (hpl.below hS.be) hkn hn20 HPE.out).mono ?_; rintro e w' ⟨v, rfl, hn, hb⟩; go_wp2_with fail; with_reducible refine hK _ _ (RT.below hb hS.be.size) (hS.step hb 8 _ (by decide) (fun e => absurd e (by decide))) ?_
       exact ⟨v, rfl, hn⟩
      ·as_aux_lemma =>
       intro vs L W hS hL cl hdl hdep K hK; have d0 := hdep ⟨8, .data⟩ (by simp) rfl; simp only [PhiC18] at d0; refine @exE1 _ _ _ d0 ?_; clear d0; intro v0 d0; have e0 := d0.1; have n0 := d0.2; clear d0; refine ⟨?_⟩; simp only [Act.put, sA, sB, sC, Nat.zero_add, Nat.reduceAdd, e0] at hK ⊢; go_simp; with_reducible refine hK _ _ (RT.refl _ _) (hS.step (Below.refl _ _) 9 _ (by decide) (fun e => absurd e (by decide))) ?_
       exact ⟨_, rfl, n0⟩
      ·as_aux_lemma =>
       intro vs L W hS hL cl hdl hdep K hK; have d0 := hdep ⟨9, .data⟩ (by simp) rfl; simp only [PhiC18] at d0; refine @exE1 _ _ _ d0 ?_; clear d0; intro v0 d0; have e0 := d0.1; have n0 := d0.2; clear d0
       have h13 : L 13 = false := by
        cases h : L 13 with
        | false => rfl
        | true => exact absurd (cl 13 _ rfl h ⟨10, .data⟩ (by simp) rfl) (by rw [hL]; decide)
       obtain ⟨A, k, c, A', k', c', rfl⟩ := n0.shape; refine ⟨?_⟩; simp only [Act.put, sA, sB, sC, Nat.zero_add, Nat.reduceAdd, e0] at hK ⊢; go_simp; with_reducible refine hK _ _ (RT.refl _ _) (hS.step (Below.refl _ _) 10 _ (by decide) (fun _ => h13)) ?_
       exact ⟨_, _, _, _, _, _, rfl, n0⟩
      ·as_aux_lemma =>
       intro vs L W hS hL cl hdl hdep K hK; have d0 := hdep ⟨9, .data⟩ (by simp) rfl; simp only [PhiC18] at d0; refine @exE1 _ _ _ d0 ?_; clear d0; intro v0 d0; have e0 := d0.1; have n0 := d0.2; clear d0; refine ⟨?_⟩; simp only [Act.put, sA, sB, sC, Nat.zero_add, Nat.reduceAdd, e0] at hK ⊢; go_simp; with_reducible refine hK _ _ (RT.refl _ _) (hS.step (Below.refl _ _) 11 _ (by decide) (fun e => absurd e (by decide))) ?_
       exact rfl
      ·as_aux_lemma =>
       intro vs L W hS hL cl hdl hdep K hK
       have h13 : L 13 = false := by
        cases h : L 13 with
        | false => rfl
        | true => exact absurd (cl 13 _ rfl h ⟨12, .data⟩ (by simp) rfl) (by rw [hL]; decide)
       refine ⟨?_⟩; simp only [Act.put, sA, sB, sC, Nat.zero_add, Nat.reduceAdd] at hK ⊢; go_simp; with_reducible refine hK _ _ (RT.below (bA _ _) hS.be.size) (hS.step (bA _ _) 12 _ (by decide) (fun _ => h13)) ?_
       exact ⟨_, rfl, hS.be.size, none, 0, 0, none, 0, 0, Blk.new _ _ _⟩
      ·as_aux_lemma =>
       intro vs L W hS hL cl hdl hdep K hK; have d0 := hdep ⟨12, .data⟩ (by simp) rfl; simp only [PhiC18] at d0; refine @exE1 _ _ _ d0 ?_; clear d0; intro g0 d0; have e0 := d0.1; have l0 := d0.2.1; have s0 := d0.2.2; clear d0; have d1 := hdep ⟨10, .data⟩ (by simp) rfl; simp only [PhiC18] at d1; refine @exE6 _ _ _ _ _ _ _ _ d1 ?_; clear d1; intro A1 k1 c1 B1 m1 d1 d1; have e1 := d1.1; have n1 := d1.2; clear d1; obtain ⟨⟨a1, q1⟩, ⟨a2, q2⟩, q3, q4⟩ := s0.facts; refine ⟨?_⟩; simp only [Act.put, sA, sB, sC, Nat.zero_add, Nat.reduceAdd, e0, e1] at hK ⊢; go_simp; with_reducible refine hK undef _ (RT.store s0 l0 _ _ _ _ _ _) (hS.stored e0 e1 l0 s0 (by decide) (by decide) _) ?_
       exact trivial
      ·as_aux_lemma =>
       intro vs L W hS hL cl hdl hdep K hK; have d0 := hdep ⟨11, .data⟩ (by simp) rfl; simp only [PhiC18] at d0; refine ⟨?_⟩; simp only [Act.put, sA, sB, sC, Nat.zero_add, Nat.reduceAdd, d0] at hK ⊢; go_simp; with_reducible refine hK _ _ (RT.refl _ _) (hS.step (Below.refl _ _) 14 _ (by decide) (fun e => absurd e (by decide))) ?_
       exact rfl
     intro vs L w7 hS hall hv; have v14 := hv 14 (by simp); have v8 := hv 10 (by simp); simp only [PhiC18] at v14 v8; obtain ⟨_, _, _, _, _, _, e8', ho⟩ := v8; obtain ⟨g, A9, k9, c9, B9, m9, d9, e10, e8, hgN, hblk⟩ := hS.st (hall 13 (by simp)); rw [e8] at e8'; rw [← e8'] at ho; have HO := Lib.hid ho; have hbx := hS.be; clear hv hS hall e8' ho; simp only [Act.put, sA, sB, sC, Nat.zero_add, Nat.reduceAdd, v14, e10, e8]; rw [← HFF.out] at HO; have hfv := HO.out; have F0 := hblk.cell 0; have F1 := hblk.cell 1; simp only [List.getElem?_toArray, List.getElem?_cons_zero, List.getElem?_cons_succ] at F0 F1; have hbe5 := Below.tr hbe hbx; have hcb := cell_keep hbx hcb; have hX := hX.below hbx; obtain ⟨bX, oX, e1, e2, c0, rfl, g1, g2, HC0, hcv⟩ := hX.at_ (show n < nA by omega)
     have hcc : c = c0 := by
      have h1 := HC0.out; rw [HCA.out.1] at h1; injection h1
     subst hcc; obtain ⟨E1, ek, ec, E2, ek2, ec2, hsh⟩ := hcv.shape; simp only [Value.agg.injEq, Array.mk.injEq, List.cons.injEq, and_true] at hsh; obtain ⟨rfl, rfl⟩ := hsh; clear HO hblk hgN hbx hpl P0 P1 P2 hbad; go_upto_region 19 with fail; refine region_invW (PhiC19 n bX oX nA cA (.slice E1 ek ec) (.slice E2 ek2 ec2) (.slice A9 k9 c9) (.slice B9 m9 d9) (mulV c ff) w7.heap.size) (RT w7.heap.size) (SD w7 7 9 10) (by kernel_rfl) (by kernel_rfl) (by kernel_rfl) PhiC19.keep (SD.start _ _ _ _ _) (fun vs => by simp only [fillR, Act.put, sA, sB, sC, Nat.zero_add, Nat.reduceAdd]; rfl) ?_ ?_
     ·refine sK ?_ (sK ?_ (sK ?_ (sK ?_ (sK ?_ (sK ?_ (sK ?_ (sK ?_ (sK ?_ (sK ?_ (sK ?_ (sK ?_ (sZ))))))))))))
      ·as_aux_lemma =>
       intro vs L W hS hL cl hdl hdep K hK; refine ⟨?_⟩; simp only [Act.put, sA, sB, sC, Nat.zero_add, Nat.reduceAdd] at hK ⊢; go_simp; with_reducible refine hK _ _ (RT.refl _ _) (hS.step (Below.refl _ _) 0 _ (by decide) (fun e => absurd e (by decide))) ?_
       exact rfl
      ·as_aux_lemma =>
       intro vs L W hS hL cl hdl hdep K hK; refine ⟨?_⟩; simp only [Act.put, sA, sB, sC, Nat.zero_add, Nat.reduceAdd] at hK ⊢; go_simp; with_reducible refine hK _ _ (RT.refl _ _) (hS.step (Below.refl _ _) 1 _ (by decide) (fun e => absurd e (by decide))) ?_
       exact rfl
      ·as_aux_lemma =>
       intro vs L W hS hL cl hdl hdep K hK; have d0 := hdep ⟨0, .data⟩ (by simp) rfl; simp only [PhiC19] at d0; have d1 := hdep ⟨1, .data⟩ (by simp) rfl; simp only [PhiC19] at d1; refine ⟨?_⟩; simp only [Act.put, sA, sB, sC, Nat.zero_add, Nat.reduceAdd, d0, d1] at hK ⊢; go_simp; with_reducible refine hK _ _ (RT.refl _ _) (hS.step (Below.refl _ _) 2 _ (by decide) (fun e => absurd e (by decide))) ?_
       exact rfl
      ·as_aux_lemma =>
       intro vs L W hS hL cl hdl hdep K hK; have d0 := hdep ⟨2, .data⟩ (by simp) rfl; simp only [PhiC19] at d0; have f1 := cell_keep hS.be g1; have f2 := cell_keep hS.be g2; refine ⟨?_⟩; simp only [Act.put, sA, sB, sC, Nat.zero_add, Nat.reduceAdd, d0] at hK ⊢; go_simp; with_reducible refine hK _ _ (RT.refl _ _) (hS.step (Below.refl _ _) 3 _ (by decide) (fun e => absurd e (by decide))) ?_
       exact rfl
      ·as_aux_lemma =>
       intro vs L W hS hL cl hdl hdep K hK; have f1 := cell_keep hS.be F0; have f2 := cell_keep hS.be F1; refine ⟨?_⟩; simp only [Act.put, sA, sB, sC, Nat.zero_add, Nat.reduceAdd] at hK ⊢; go_simp; with_reducible refine hK _ _ (RT.refl _ _) (hS.step (Below.refl _ _) 4 _ (by decide) (fun e => absurd e (by decide))) ?_
       exact rfl
      ·as_aux_lemma =>
       intro vs L W hS hL cl hdl hdep K hK; have d0 := hdep ⟨3, .data⟩ (by simp) rfl; simp only [PhiC19] at d0; have d1 := hdep ⟨4, .data⟩ (by simp) rfl; simp only [PhiC19] at d1; refine ⟨?_⟩; simp only [Act.put, sA, sB, sC, Nat.zero_add, Nat.reduceAdd, d0, d1] at hK ⊢; go_simp; refine (cap_mul _ _ c ff _ (hcv.below hS.be) (hfv.below hS.be) HM0.out).mono ?_; rintro e w' ⟨v, rfl, hn, hb⟩; go_wp2_with fail; with_reducible refine hK _ _ (RT.below hb hS.be.size) (hS.step hb 5 _ (by decide) (fun e => absurd e (by decide))) ?_
       exact ⟨v, rfl, hn⟩
      ·as_aux_lemma =>
       intro vs L W hS hL cl hdl hdep K hK; have d0 := hdep ⟨5, .data⟩ (by simp) rfl; simp only [PhiC19] at d0; refine @exE1 _ _ _ d0 ?_; clear d0; intro v0 d0; have e0 := d0.1; have n0 := d0.2; clear d0; refine ⟨?_⟩; simp only [Act.put, sA, sB, sC, Nat.zero_add, Nat.reduceAdd, e0] at hK ⊢; go_simp; with_reducible refine hK _ _ (RT.refl _ _) (hS.step (Below.refl _ _) 6 _ (by decide) (fun e => absurd e (by decide))) ?_
       exact ⟨_, rfl, n0⟩
      ·as_aux_lemma =>
       intro vs L W hS hL cl hdl hdep K hK; have d0 := hdep ⟨6, .data⟩ (by simp) rfl; simp only [PhiC19] at d0; refine @exE1 _ _ _ d0 ?_; clear d0; intro v0 d0; have e0 := d0.1; have n0 := d0.2; clear d0
       have h10 : L 10 = false := by
        cases h : L 10 with
        | false => rfl
        | true => exact absurd (cl 10 _ rfl h ⟨7, .data⟩ (by simp) rfl) (by rw [hL]; decide)
       obtain ⟨A, k, c, A', k', c', rfl⟩ := n0.shape; refine ⟨?_⟩; simp only [Act.put, sA, sB, sC, Nat.zero_add, Nat.reduceAdd, e0] at hK ⊢; go_simp; with_reducible refine hK _ _ (RT.refl _ _) (hS.step (Below.refl _ _) 7 _ (by decide) (fun _ => h10)) ?_
       exact ⟨_, _, _, _, _, _, rfl, n0⟩
      ·as_aux_lemma =>
       intro vs L W hS hL cl hdl hdep K hK; have d0 := hdep ⟨6, .data⟩ (by simp) rfl; simp only [PhiC19] at d0; refine @exE1 _ _ _ d0 ?_; clear d0; intro v0 d0; have e0 := d0.1; have n0 := d0.2; clear d0; refine ⟨?_⟩; simp only [Act.put, sA, sB, sC, Nat.zero_add, Nat.reduceAdd, e0] at hK ⊢; go_simp; with_reducible refine hK _ _ (RT.refl _ _) (hS.step (Below.refl _ _) 8 _ (by decide) (fun e => absurd e (by decide))) ?_
       exact rfl
      ·as_aux_lemma =>
       intro vs L W hS hL cl hdl hdep K hK
       have h10 : L 10 = false := by
        cases h : L 10 with
        | false => rfl
        | true => exact absurd (cl 10 _ rfl h ⟨9, .data⟩ (by simp) rfl) (by rw [hL]; decide)
       refine ⟨?_⟩; simp only [Act.put, sA, sB, sC, Nat.zero_add, Nat.reduceAdd] at hK ⊢; go_simp; with_reducible refine hK _ _ (RT.below (bA _ _) hS.be.size) (hS.step (bA _ _) 9 _ (by decide) (fun _ => h10)) ?_
       exact ⟨_, rfl, hS.be.size, none, 0, 0, none, 0, 0, Blk.new _ _ _⟩
      ·as_aux_lemma =>
       intro vs L W hS hL cl hdl hdep K hK; have d0 := hdep ⟨9, .data⟩ (by simp) rfl; simp only [PhiC19] at d0; refine @exE1 _ _ _ d0 ?_; clear d0; intro g0 d0; have e0 := d0.1; have l0 := d0.2.1; have s0 := d0.2.2; clear d0; have d1 := hdep ⟨7, .data⟩ (by simp) rfl; simp only [PhiC19] at d1; refine @exE6 _ _ _ _ _ _ _ _ d1 ?_; clear d1; intro A1 k1 c1 B1 m1 d1 d1; have e1 := d1.1; have n1 := d1.2; clear d1; obtain ⟨⟨a1, q1⟩, ⟨a2, q2⟩, q3, q4⟩ := s0.facts; refine ⟨?_⟩; simp only [Act.put, sA, sB, sC, Nat.zero_add, Nat.reduceAdd, e0, e1] at hK ⊢; go_simp; with_reducible refine hK undef _ (RT.store s0 l0 _ _ _ _ _ _) (hS.stored e0 e1 l0 s0 (by decide) (by decide) _) ?_
       exact trivial
      ·as_aux_lemma =>
       intro vs L W hS hL cl hdl hdep K hK; have d0 := hdep ⟨8, .data⟩ (by simp) rfl; simp only [PhiC19] at d0; refine ⟨?_⟩; simp only [Act.put, sA, sB, sC, Nat.zero_add, Nat.reduceAdd, d0] at hK ⊢; go_simp; with_reducible refine hK _ _ (RT.refl _ _) (hS.step (Below.refl _ _) 11 _ (by decide) (fun e => absurd e (by decide))) ?_
       exact rfl
     intro vs L w8 hS hall hv; have v11 := hv 11 (by simp); have v8 := hv 7 (by simp); simp only [PhiC19] at v11 v8; obtain ⟨_, _, _, _, _, _, e8', ho⟩ := v8; obtain ⟨g, A8, k8, c8, B8, m8, d8, e10, e8, hgN, hblk⟩ := hS.st (hall 10 (by simp)); rw [e8] at e8'; rw [← e8'] at ho; have HO := Lib.hid ho; have hbx := hS.be; clear hv hS hall e8' ho; simp only [Act.put, sA, sB, sC, Nat.zero_add, Nat.reduceAdd, v11, e10, e8]; obtain ⟨yv, HYV⟩ : ∃ y, Hid (y = mulV c ff) := ⟨_, rfl⟩; rw [← HYV.out] at HO HY1 HZ; have hyv := HO.out; have Y0 := hblk.cell 0; have Y1 := hblk.cell 1; simp only [List.getElem?_toArray, List.getElem?_cons_zero, List.getElem?_cons_succ] at Y0 Y1; have hbe6 := Below.tr hbe5 hbx; have hcb := cell_keep hbx hcb; have hX := hX.below hbx; have hcv := hcv.below hbx; have g1 := cell_keep hbx g1; have g2 := cell_keep hbx g2; obtain ⟨bX', oX', h1, h2, y0, eo, G1, G2, HC1, hhv⟩ := hX.at_ (show n + 1 < nA by omega); simp only [Option.some.injEq, Addr.mk.injEq, and_true] at eo; obtain ⟨rfl, rfl⟩ := eo
     have hcc : yv = y0 := by
      have h1 := HC1.out; rw [HY1.out] at h1; injection h1
     subst hcc; obtain ⟨H1, hk, hc, H2, hk2, hc2, hsh⟩ := hhv.shape; simp only [Value.agg.injEq, Array.mk.injEq, List.cons.injEq, and_true] at hsh; obtain ⟨rfl, rfl⟩ := hsh; have hek := hcv.num; have hhk := hhv.num; clear HO hblk hgN hbx F0 F1 hfv; go_upto_region 20 with fail; by_cases hz : ek = 0
     ·have hz2 : hk = 0 := by rw [hhk, HZ.out (List.length_eq_zero_iff.1 (by omega))]; rfl
      have t3 : ((ek : Int) == 0) = true := by simp; omega
      have t4 : decide ((hk : Int) > 0) = false := by simp; omega
      have HZZ := Lib.hid (And.intro hz hz2); clear hz hz2 hek hhk; refine region_invF (PhiCz n bX oX nA cA ek ec hk hc (.slice A8 k8 c8) (.slice B8 m8 d8) (.slice H1 hk hc) (.slice H2 hk2 hc2) E1 H1) (fun w w' => Below w.heap.size w w') (fun W => Below w8.heap.size w8 W) (by kernel_rfl) (by kernel_rfl) (by kernel_rfl) PhiCz.keep (fun _ _ hR hS => Below.tr hS hR) (bD _) (fun vs => by simp only [fillR, Act.put, sA, sB, sC, Nat.zero_add, Nat.reduceAdd]; rfl) ?_ ?_
      ·refine sK ?_ (sK ?_ (sK ?_ (sK ?_ (sK ?_ (sK ?_ (sK ?_ (sK ?_ (sK ?_ (sK ?_ (sK ?_ (sK ?_ (sK ?_ (sK ?_ (sK ?_ (sK ?_ (sK ?_ (sK ?_ (sK ?_ (sK ?_ (sK ?_ (sK ?_ (sK ?_ (sK ?_ (sK ?_ (sK ?_ (sK ?_ (sK ?_ (sK ?_ (sK ?_ (sK ?_ (sK ?_ (sK ?_ (sK ?_ (sK ?_ (sZ)))))))))))))))))))))))))))))))))))
       ·as_aux_lemma =>
        intro vs W hS hdep K hK; refine ⟨?_⟩; simp only [Act.put, sA, sB, sC, Nat.zero_add, Nat.reduceAdd] at hK ⊢; go_simp; with_reducible refine hK _ _ (Below.refl _ _) ?_
        exact rfl
       ·as_aux_lemma =>
        intro vs W hS hdep K hK; have d0 := hdep ⟨0, .data⟩ (by simp) rfl; simp only [PhiCz] at d0; refine ⟨?_⟩; simp only [Act.put, sA, sB, sC, Nat.zero_add, Nat.reduceAdd, d0] at hK ⊢; go_simp; with_reducible refine hK _ _ (Below.refl _ _) ?_
        exact rfl
       ·as_aux_lemma =>
        intro vs W hS hdep K hK; have d0 := hdep ⟨1, .data⟩ (by simp) rfl; simp only [PhiCz] at d0; refine ⟨?_⟩; simp only [Act.put, sA, sB, sC, Nat.zero_add, Nat.reduceAdd, d0] at hK ⊢; go_simp; with_reducible refine hK _ _ (Below.refl _ _) ?_
        exact rfl
       ·as_aux_lemma =>
        intro vs W hS hdep K hK; have d0 := hdep ⟨2, .guard⟩ (by simp) rfl; simp only [PhiCz] at d0; refine ⟨?_⟩; simp only [Act.put, sA, sB, sC, Nat.zero_add, Nat.reduceAdd, d0] at hK ⊢; go_simp; with_reducible refine hK _ _ (Below.refl _ _) ?_
        exact rfl
       ·as_aux_lemma =>
        intro vs W hS hdep K hK; have d0 := hdep ⟨3, .data⟩ (by simp) rfl; simp only [PhiCz] at d0; have d1 := hdep ⟨2, .guard⟩ (by simp) rfl; simp only [PhiCz] at d1; refine ⟨?_⟩; simp only [Act.put, sA, sB, sC, Nat.zero_add, Nat.reduceAdd, d0, d1] at hK ⊢; go_simp; with_reducible refine hK _ _ (Below.refl _ _) ?_
        exact rfl
       ·as_aux_lemma =>
        intro vs W hS hdep K hK; have d0 := hdep ⟨2, .data⟩ (by simp) rfl; simp only [PhiCz] at d0; have d1 := hdep ⟨4, .data⟩ (by simp) rfl; simp only [PhiCz] at d1; refine ⟨?_⟩; simp only [Act.put, sA, sB, sC, Nat.zero_add, Nat.reduceAdd, d0, d1] at hK ⊢; go_simp; with_reducible refine hK _ _ (Below.refl _ _) ?_
        exact rfl
       ·as_aux_lemma =>
        intro vs W hS hdep K hK; have d0 := hdep ⟨5, .data⟩ (by simp) rfl; simp only [PhiCz] at d0; have d1 := hdep ⟨2, .chain⟩ (by simp) rfl; simp only [PhiCz] at d1; refine ⟨?_⟩; simp only [Act.put, sA, sB, sC, Nat.zero_add, Nat.reduceAdd, d0, d1] at hK ⊢; go_simp; with_reducible refine hK _ _ (Below.refl _ _) ?_
        exact rfl
       ·as_aux_lemma =>
        intro vs W hS hdep K hK; have d0 := hdep ⟨6, .guard⟩ (by simp) rfl; simp only [PhiCz] at d0; have f1 := cell_keep hS Y0; have f2 := cell_keep hS Y1; refine ⟨?_⟩; simp only [Act.put, sA, sB, sC, Nat.zero_add, Nat.reduceAdd, d0] at hK ⊢; go_simp; with_reducible refine hK _ _ (Below.refl _ _) ?_
        exact rfl
       ·as_aux_lemma =>
        intro vs W hS hdep K hK; have d0 := hdep ⟨6, .guard⟩ (by simp) rfl; simp only [PhiCz] at d0; refine ⟨?_⟩; simp only [Act.put, sA, sB, sC, Nat.zero_add, Nat.reduceAdd, d0] at hK ⊢; go_simp; with_reducible refine hK _ _ (Below.refl _ _) ?_
        exact rfl
       ·as_aux_lemma =>
        intro vs W hS hdep K hK; have d0 := hdep ⟨6, .guard⟩ (by simp) rfl; simp only [PhiCz] at d0; refine ⟨?_⟩; simp only [Act.put, sA, sB, sC, Nat.zero_add, Nat.reduceAdd, d0] at hK ⊢; go_simp; with_reducible refine hK _ _ (Below.refl _ _) ?_
        exact rfl
       ·as_aux_lemma =>
        intro vs W hS hdep K hK; have d0 := hdep ⟨9, .data⟩ (by simp) rfl; simp only [PhiCz] at d0; have d1 := hdep ⟨6, .guard⟩ (by simp) rfl; simp only [PhiCz] at d1; refine ⟨?_⟩; simp only [Act.put, sA, sB, sC, Nat.zero_add, Nat.reduceAdd, d0, d1] at hK ⊢; go_simp; with_reducible refine hK _ _ (Below.refl _ _) ?_
        exact rfl
       ·as_aux_lemma =>
        intro vs W hS hdep K hK; have d0 := hdep ⟨8, .data⟩ (by simp) rfl; simp only [PhiCz] at d0; have d1 := hdep ⟨10, .data⟩ (by simp) rfl; simp only [PhiCz] at d1; have d2 := hdep ⟨6, .guard⟩ (by simp) rfl; simp only [PhiCz] at d2; refine ⟨?_⟩; simp only [Act.put, sA, sB, sC, Nat.zero_add, Nat.reduceAdd, d0, d1, d2] at hK ⊢; go_simp; with_reducible refine hK _ _ (Below.refl _ _) ?_
        exact rfl
       ·as_aux_lemma =>
        intro vs W hS hdep K hK; have d0 := hdep ⟨11, .data⟩ (by simp) rfl; simp only [PhiCz] at d0; have d1 := hdep ⟨6, .guard⟩ (by simp) rfl; simp only [PhiCz] at d1; have f1 := cell_keep hS G1; have f2 := cell_keep hS G2; refine ⟨?_⟩; simp only [Act.put, sA, sB, sC, Nat.zero_add, Nat.reduceAdd, d0, d1] at hK ⊢; go_simp; with_reducible refine hK _ _ (Below.refl _ _) ?_
        exact rfl
       ·as_aux_lemma =>
        intro vs W hS hdep K hK; have d0 := hdep ⟨7, .data⟩ (by simp) rfl; simp only [PhiCz] at d0; have d1 := hdep ⟨12, .data⟩ (by simp) rfl; simp only [PhiCz] at d1; have d2 := hdep ⟨6, .chain⟩ (by simp) rfl; simp only [PhiCz] at d2; refine ⟨?_⟩; simp only [Act.put, sA, sB, sC, Nat.zero_add, Nat.reduceAdd, d0, d1, d2] at hK ⊢; go_simp; refine (psame_F _ _ yv _ (hyv.below hS) (hhv.below hS)).mono ?_; rintro e w' ⟨rfl, hb⟩; go_wp2_with fail; with_reducible refine hK _ _ hb ?_
        exact rfl
       ·as_aux_lemma =>
        intro vs W hS hdep K hK; have d0 := hdep ⟨13, .data⟩ (by simp) rfl; simp only [PhiCz] at d0; have d1 := hdep ⟨6, .guard⟩ (by simp) rfl; simp only [PhiCz] at d1; refine ⟨?_⟩; simp only [Act.put, sA, sB, sC, Nat.zero_add, Nat.reduceAdd, d0, d1] at hK ⊢; go_simp; with_reducible refine hK _ _ (Below.refl _ _) ?_
        exact rfl
       ·as_aux_lemma =>
        intro vs W hS hdep K hK; have d0 := hdep ⟨6, .data⟩ (by simp) rfl; simp only [PhiCz] at d0; have d1 := hdep ⟨14, .data⟩ (by simp) rfl; simp only [PhiCz] at d1; refine ⟨?_⟩; simp only [Act.put, sA, sB, sC, Nat.zero_add, Nat.reduceAdd, d0, d1] at hK ⊢; go_simp; with_reducible refine hK _ _ (Below.refl _ _) ?_
        exact rfl
       ·as_aux_lemma =>
        intro vs W hS hdep K hK; have d0 := hdep ⟨15, .data⟩ (by simp) rfl; simp only [PhiCz] at d0; have d1 := hdep ⟨13, .chain⟩ (by simp) rfl; simp only [PhiCz] at d1; refine ⟨?_⟩; simp only [Act.put, sA, sB, sC, Nat.zero_add, Nat.reduceAdd, d0, d1] at hK ⊢; go_simp; with_reducible refine hK _ _ (Below.refl _ _) ?_
        exact rfl
       ·as_aux_lemma =>
        intro vs W hS hdep K hK; have d0 := hdep ⟨16, .guard⟩ (by simp) rfl; simp only [PhiCz] at d0; refine ⟨?_⟩; simp only [Act.put, sA, sB, sC, Nat.zero_add, Nat.reduceAdd, d0] at hK ⊢; go_simp; with_reducible refine hK _ _ (Below.refl _ _) ?_
        exact rfl
       ·as_aux_lemma =>
        intro vs W hS hdep K hK; have d0 := hdep ⟨16, .guard⟩ (by simp) rfl; simp only [PhiCz] at d0; refine ⟨?_⟩; simp only [Act.put, sA, sB, sC, Nat.zero_add, Nat.reduceAdd, d0] at hK ⊢; go_simp; with_reducible refine hK _ _ (Below.refl _ _) ?_
        exact rfl
       ·as_aux_lemma =>
        intro vs W hS hdep K hK; have d0 := hdep ⟨17, .data⟩ (by simp) rfl; simp only [PhiCz] at d0; have d1 := hdep ⟨18, .data⟩ (by simp) rfl; simp only [PhiCz] at d1; have d2 := hdep ⟨16, .guard⟩ (by simp) rfl; simp only [PhiCz] at d2; refine ⟨?_⟩; simp only [Act.put, sA, sB, sC, Nat.zero_add, Nat.reduceAdd, d0, d1, d2] at hK ⊢; go_simp; with_reducible refine hK _ _ (Below.refl _ _) ?_
        exact rfl
       ·as_aux_lemma =>
        intro vs W hS hdep K hK; have d0 := hdep ⟨19, .data⟩ (by simp) rfl; simp only [PhiCz] at d0; have d1 := hdep ⟨16, .guard⟩ (by simp) rfl; simp only [PhiCz] at d1; refine ⟨?_⟩; simp only [Act.put, sA, sB, sC, Nat.zero_add, Nat.reduceAdd, d0, d1] at hK ⊢; go_simp; with_reducible refine hK _ _ (Below.refl _ _) ?_
        exact rfl
       ·as_aux_lemma =>
        intro vs W hS hdep K hK; have d0 := hdep ⟨20, .data⟩ (by simp) rfl; simp only [PhiCz] at d0; have d1 := hdep ⟨16, .guard⟩ (by simp) rfl; simp only [PhiCz] at d1; have f1 := cell_keep hS g1; refine ⟨?_⟩; simp only [Act.put, sA, sB, sC, Nat.zero_add, Nat.reduceAdd, d0, d1] at hK ⊢; go_simp; with_reducible refine hK _ _ (Below.refl _ _) ?_
        exact rfl
       ·as_aux_lemma =>
        intro vs W hS hdep K hK; have d0 := hdep ⟨21, .data⟩ (by simp) rfl; simp only [PhiCz] at d0; have d1 := hdep ⟨16, .guard⟩ (by simp) rfl; simp only [PhiCz] at d1; refine ⟨?_⟩; simp only [Act.put, sA, sB, sC, Nat.zero_add, Nat.reduceAdd, d0, d1] at hK ⊢; go_simp; with_reducible refine hK _ _ (Below.refl _ _) ?_
        exact rfl
       ·as_aux_lemma =>
        intro vs W hS hdep K hK; have d0 := hdep ⟨22, .data⟩ (by simp) rfl; simp only [PhiCz] at d0; have d1 := hdep ⟨16, .guard⟩ (by simp) rfl; simp only [PhiCz] at d1; refine ⟨?_⟩; simp only [Act.put, sA, sB, sC, Nat.zero_add, Nat.reduceAdd, d0, d1] at hK ⊢; go_simp; with_reducible refine hK _ _ (Below.refl _ _) ?_
        exact rfl
       ·as_aux_lemma =>
        intro vs W hS hdep K hK; have d0 := hdep ⟨23, .data⟩ (by simp) rfl; simp only [PhiCz] at d0; have d1 := hdep ⟨16, .chain⟩ (by simp) rfl; simp only [PhiCz] at d1; refine ⟨?_⟩; simp only [Act.put, sA, sB, sC, Nat.zero_add, Nat.reduceAdd, d0, d1] at hK ⊢; go_simp; with_reducible refine hK _ _ (Below.refl _ _) ?_
        exact rfl
       ·as_aux_lemma =>
        intro vs W hS hdep K hK; have d0 := hdep ⟨24, .guard⟩ (by simp) rfl; simp only [PhiCz] at d0; refine ⟨?_⟩; simp only [Act.put, sA, sB, sC, Nat.zero_add, Nat.reduceAdd, d0] at hK ⊢; go_simp; with_reducible refine hK _ _ (Below.refl _ _) ?_
        exact rfl
       ·as_aux_lemma =>
        intro vs W hS hdep K hK; have d0 := hdep ⟨24, .guard⟩ (by simp) rfl; simp only [PhiCz] at d0; refine ⟨?_⟩; simp only [Act.put, sA, sB, sC, Nat.zero_add, Nat.reduceAdd, d0] at hK ⊢; go_simp; with_reducible refine hK _ _ (Below.refl _ _) ?_
        exact rfl
       ·as_aux_lemma =>
        intro vs W hS hdep K hK; have d0 := hdep ⟨26, .data⟩ (by simp) rfl; simp only [PhiCz] at d0; have d1 := hdep ⟨24, .guard⟩ (by simp) rfl; simp only [PhiCz] at d1; refine ⟨?_⟩; simp only [Act.put, sA, sB, sC, Nat.zero_add, Nat.reduceAdd, d0, d1] at hK ⊢; go_simp; with_reducible refine hK _ _ (Below.refl _ _) ?_
        exact rfl
       ·as_aux_lemma =>
        intro vs W hS hdep K hK; have d0 := hdep ⟨25, .data⟩ (by simp) rfl; simp only [PhiCz] at d0; have d1 := hdep ⟨27, .data⟩ (by simp) rfl; simp only [PhiCz] at d1; have d2 := hdep ⟨24, .guard⟩ (by simp) rfl; simp only [PhiCz] at d2; refine ⟨?_⟩; simp only [Act.put, sA, sB, sC, Nat.zero_add, Nat.reduceAdd, d0, d1, d2] at hK ⊢; go_simp; with_reducible refine hK _ _ (Below.refl _ _) ?_
        exact rfl
       ·as_aux_lemma =>
        intro vs W hS hdep K hK; have d0 := hdep ⟨28, .data⟩ (by simp) rfl; simp only [PhiCz] at d0; have d1 := hdep ⟨24, .guard⟩ (by simp) rfl; simp only [PhiCz] at d1; refine ⟨?_⟩; simp only [Act.put, sA, sB, sC, Nat.zero_add, Nat.reduceAdd, d0, d1] at hK ⊢; go_simp; with_reducible refine hK _ _ (Below.refl _ _) ?_
        exact rfl
       ·as_aux_lemma =>
        intro vs W hS hdep K hK; have d0 := hdep ⟨29, .data⟩ (by simp) rfl; simp only [PhiCz] at d0; have d1 := hdep ⟨24, .guard⟩ (by simp) rfl; simp only [PhiCz] at d1; have f1 := cell_keep hS G1; refine ⟨?_⟩; simp only [Act.put, sA, sB, sC, Nat.zero_add, Nat.reduceAdd, d0, d1] at hK ⊢; go_simp; with_reducible refine hK _ _ (Below.refl _ _) ?_
        exact rfl
       ·as_aux_lemma =>
        intro vs W hS hdep K hK; have d0 := hdep ⟨30, .data⟩ (by simp) rfl; simp only [PhiCz] at d0; have d1 := hdep ⟨24, .guard⟩ (by simp) rfl; simp only [PhiCz] at d1; refine ⟨?_⟩; simp only [Act.put, sA, sB, sC, Nat.zero_add, Nat.reduceAdd, d0, d1] at hK ⊢; go_simp; with_reducible refine hK _ _ (Below.refl _ _) ?_
        exact rfl
       ·as_aux_lemma =>
        intro vs W hS hdep K hK; have d0 := hdep ⟨31, .data⟩ (by simp) rfl; simp only [PhiCz] at d0; have d1 := hdep ⟨24, .guard⟩ (by simp) rfl; simp only [PhiCz] at d1; refine ⟨?_⟩; simp only [Act.put, sA, sB, sC, Nat.zero_add, Nat.reduceAdd, d0, d1] at hK ⊢; go_simp; with_reducible refine hK _ _ (Below.refl _ _) ?_
        exact by rw [HZZ.out.2]; exact rfl
       ·as_aux_lemma =>
        intro vs W hS hdep K hK; have d0 := hdep ⟨24, .data⟩ (by simp) rfl; simp only [PhiCz] at d0; have d1 := hdep ⟨32, .data⟩ (by simp) rfl; simp only [PhiCz] at d1; have d2 := hdep ⟨16, .guard⟩ (by simp) rfl; simp only [PhiCz] at d2; refine ⟨?_⟩; simp only [Act.put, sA, sB, sC, Nat.zero_add, Nat.reduceAdd, d0, d1, d2] at hK ⊢; go_simp; with_reducible refine hK _ _ (Below.refl _ _) ?_
        exact rfl
       ·as_aux_lemma =>
        intro vs W hS hdep K hK; have d0 := hdep ⟨16, .data⟩ (by simp) rfl; simp only [PhiCz] at d0; have d1 := hdep ⟨33, .data⟩ (by simp) rfl; simp only [PhiCz] at d1; refine ⟨?_⟩; simp only [Act.put, sA, sB, sC, Nat.zero_add, Nat.reduceAdd, d0, d1] at hK ⊢; go_simp; with_reducible refine hK _ _ (Below.refl _ _) ?_
        exact rfl
      intro vs3 w9 hb hv; have v34 := hv 34 (by simp); simp only [PhiCz] at v34; simp only [Act.put, sA, sB, sC, Nat.zero_add, Nat.reduceAdd, v34]; have hcb := cell_keep hb hcb; have hbe7 := Below.tr hbe6 hb; clear hv v34 hb Y0 Y1 g1 g2 G1 G2 hcv hhv hyv hX
      cases bb
      all_goals
       go_wp2_with fail
       go_roundg (G - 1)
       case measure => omega
      case rel => exact ⟨n + 1, kk, _, rfl, by go_num, by omega, HN4, hbe7⟩
      case rel => exact ⟨n + 1, kk + 1, _, by go_num, by go_num, by omega, HN4, hbe7⟩
     ·have t3 : ((ek : Int) == 0) = false := by simp; omega
      clear hz hek hhk; refine region_invF (PhiCn n bX oX nA cA ek ec hk hc (.slice A8 k8 c8) (.slice B8 m8 d8) (.slice H1 hk hc) (.slice H2 hk2 hc2) E1 H1) (fun w w' => Below w.heap.size w w') (fun W => Below w8.heap.size w8 W) (by kernel_rfl) (by kernel_rfl) (by kernel_rfl) PhiCn.keep (fun _ _ hR hS => Below.tr hS hR) (bD _) (fun vs => by simp only [fillR, Act.put, sA, sB, sC, Nat.zero_add, Nat.reduceAdd]; rfl) ?_ ?_
      ·refine sK ?_ (sK ?_ (sK ?_ (sK ?_ (sK ?_ (sK ?_ (sK ?_ (sK ?_ (sK ?_ (sK ?_ (sK ?_ (sK ?_ (sK ?_ (sK ?_ (sK ?_ (sK ?_ (sK ?_ (sK ?_ (sK ?_ (sK ?_ (sK ?_ (sK ?_ (sK ?_ (sK ?_ (sK ?_ (sK ?_ (sK ?_ (sK ?_ (sK ?_ (sK ?_ (sK ?_ (sK ?_ (sK ?_ (sK ?_ (sK ?_ (sZ)))))))))))))))))))))))))))))))))))
       ·as_aux_lemma =>
        intro vs W hS hdep K hK; refine ⟨?_⟩; simp only [Act.put, sA, sB, sC, Nat.zero_add, Nat.reduceAdd] at hK ⊢; go_simp; with_reducible refine hK _ _ (Below.refl _ _) ?_
        exact rfl
       ·as_aux_lemma =>
        intro vs W hS hdep K hK; have d0 := hdep ⟨0, .data⟩ (by simp) rfl; simp only [PhiCn] at d0; refine ⟨?_⟩; simp only [Act.put, sA, sB, sC, Nat.zero_add, Nat.reduceAdd, d0] at hK ⊢; go_simp; with_reducible refine hK _ _ (Below.refl _ _) ?_
        exact rfl
       ·as_aux_lemma =>
        intro vs W hS hdep K hK; have d0 := hdep ⟨1, .data⟩ (by simp) rfl; simp only [PhiCn] at d0; refine ⟨?_⟩; simp only [Act.put, sA, sB, sC, Nat.zero_add, Nat.reduceAdd, d0] at hK ⊢; go_simp; with_reducible refine hK _ _ (Below.refl _ _) ?_
        exact rfl
       ·as_aux_lemma =>
        intro vs W hS hdep K hK; have d0 := hdep ⟨2, .guard⟩ (by simp) rfl; simp only [PhiCn] at d0; refine ⟨?_⟩; simp only [Act.put, sA, sB, sC, Nat.zero_add, Nat.reduceAdd, d0] at hK ⊢; go_simp; with_reducible refine hK _ _ (Below.refl _ _) ?_
        exact rfl
       ·as_aux_lemma =>
        intro vs W hS hdep K hK; have d0 := hdep ⟨3, .data⟩ (by simp) rfl; simp only [PhiCn] at d0; have d1 := hdep ⟨2, .guard⟩ (by simp) rfl; simp only [PhiCn] at d1; refine ⟨?_⟩; simp only [Act.put, sA, sB, sC, Nat.zero_add, Nat.reduceAdd, d0, d1] at hK ⊢; go_simp; with_reducible refine hK _ _ (Below.refl _ _) ?_
        exact rfl
       ·as_aux_lemma =>
        intro vs W hS hdep K hK; have d0 := hdep ⟨2, .data⟩ (by simp) rfl; simp only [PhiCn] at d0; have d1 := hdep ⟨4, .data⟩ (by simp) rfl; simp only [PhiCn] at d1; refine ⟨?_⟩; simp only [Act.put, sA, sB, sC, Nat.zero_add, Nat.reduceAdd, d0, d1] at hK ⊢; go_simp; with_reducible refine hK _ _ (Below.refl _ _) ?_
        exact rfl
       ·as_aux_lemma =>
        intro vs W hS hdep K hK; have d0 := hdep ⟨5, .data⟩ (by simp) rfl; simp only [PhiCn] at d0; have d1 := hdep ⟨2, .chain⟩ (by simp) rfl; simp only [PhiCn] at d1; refine ⟨?_⟩; simp only [Act.put, sA, sB, sC, Nat.zero_add, Nat.reduceAdd, d0, d1] at hK ⊢; go_simp; with_reducible refine hK _ _ (Below.refl _ _) ?_
        exact rfl
       ·as_aux_lemma =>
        intro vs W hS hdep K hK; have d0 := hdep ⟨6, .guard⟩ (by simp) rfl; simp only [PhiCn] at d0; have f1 := cell_keep hS Y0; have f2 := cell_keep hS Y1; refine ⟨?_⟩; simp only [Act.put, sA, sB, sC, Nat.zero_add, Nat.reduceAdd, d0] at hK ⊢; go_simp; with_reducible refine hK _ _ (Below.refl _ _) ?_
        exact rfl
       ·as_aux_lemma =>
        intro vs W hS hdep K hK; have d0 := hdep ⟨6, .guard⟩ (by simp) rfl; simp only [PhiCn] at d0; refine ⟨?_⟩; simp only [Act.put, sA, sB, sC, Nat.zero_add, Nat.reduceAdd, d0] at hK ⊢; go_simp; with_reducible refine hK _ _ (Below.refl _ _) ?_
        exact rfl
       ·as_aux_lemma =>
        intro vs W hS hdep K hK; have d0 := hdep ⟨6, .guard⟩ (by simp) rfl; simp only [PhiCn] at d0; refine ⟨?_⟩; simp only [Act.put, sA, sB, sC, Nat.zero_add, Nat.reduceAdd, d0] at hK ⊢; go_simp; with_reducible refine hK _ _ (Below.refl _ _) ?_
        exact rfl
       ·as_aux_lemma =>
        intro vs W hS hdep K hK; have d0 := hdep ⟨9, .data⟩ (by simp) rfl; simp only [PhiCn] at d0; have d1 := hdep ⟨6, .guard⟩ (by simp) rfl; simp only [PhiCn] at d1; refine ⟨?_⟩; simp only [Act.put, sA, sB, sC, Nat.zero_add, Nat.reduceAdd, d0, d1] at hK ⊢; go_simp; with_reducible refine hK _ _ (Below.refl _ _) ?_
        exact rfl
       ·as_aux_lemma =>
        intro vs W hS hdep K hK; have d0 := hdep ⟨8, .data⟩ (by simp) rfl; simp only [PhiCn] at d0; have d1 := hdep ⟨10, .data⟩ (by simp) rfl; simp only [PhiCn] at d1; have d2 := hdep ⟨6, .guard⟩ (by simp) rfl; simp only [PhiCn] at d2; refine ⟨?_⟩; simp only [Act.put, sA, sB, sC, Nat.zero_add, Nat.reduceAdd, d0, d1, d2] at hK ⊢; go_simp; with_reducible refine hK _ _ (Below.refl _ _) ?_
        exact rfl
       ·as_aux_lemma =>
        intro vs W hS hdep K hK; have d0 := hdep ⟨11, .data⟩ (by simp) rfl; simp only [PhiCn] at d0; have d1 := hdep ⟨6, .guard⟩ (by simp) rfl; simp only [PhiCn] at d1; have f1 := cell_keep hS G1; have f2 := cell_keep hS G2; refine ⟨?_⟩; simp only [Act.put, sA, sB, sC, Nat.zero_add, Nat.reduceAdd, d0, d1] at hK ⊢; go_simp; with_reducible refine hK _ _ (Below.refl _ _) ?_
        exact rfl
       ·as_aux_lemma =>
        intro vs W hS hdep K hK; have d0 := hdep ⟨7, .data⟩ (by simp) rfl; simp only [PhiCn] at d0; have d1 := hdep ⟨12, .data⟩ (by simp) rfl; simp only [PhiCn] at d1; have d2 := hdep ⟨6, .chain⟩ (by simp) rfl; simp only [PhiCn] at d2; refine ⟨?_⟩; simp only [Act.put, sA, sB, sC, Nat.zero_add, Nat.reduceAdd, d0, d1, d2] at hK ⊢; go_simp; refine (psame_F _ _ yv _ (hyv.below hS) (hhv.below hS)).mono ?_; rintro e w' ⟨rfl, hb⟩; go_wp2_with fail; with_reducible refine hK _ _ hb ?_
        exact rfl
       ·as_aux_lemma =>
        intro vs W hS hdep K hK; have d0 := hdep ⟨13, .data⟩ (by simp) rfl; simp only [PhiCn] at d0; have d1 := hdep ⟨6, .guard⟩ (by simp) rfl; simp only [PhiCn] at d1; refine ⟨?_⟩; simp only [Act.put, sA, sB, sC, Nat.zero_add, Nat.reduceAdd, d0, d1] at hK ⊢; go_simp; with_reducible refine hK _ _ (Below.refl _ _) ?_
        exact rfl
       ·as_aux_lemma =>
        intro vs W hS hdep K hK; have d0 := hdep ⟨6, .data⟩ (by simp) rfl; simp only [PhiCn] at d0; have d1 := hdep ⟨14, .data⟩ (by simp) rfl; simp only [PhiCn] at d1; refine ⟨?_⟩; simp only [Act.put, sA, sB, sC, Nat.zero_add, Nat.reduceAdd, d0, d1] at hK ⊢; go_simp; with_reducible refine hK _ _ (Below.refl _ _) ?_
        exact rfl
       ·as_aux_lemma =>
        intro vs W hS hdep K hK; have d0 := hdep ⟨15, .data⟩ (by simp) rfl; simp only [PhiCn] at d0; have d1 := hdep ⟨13, .chain⟩ (by simp) rfl; simp only [PhiCn] at d1; refine ⟨?_⟩; simp only [Act.put, sA, sB, sC, Nat.zero_add, Nat.reduceAdd, d0, d1] at hK ⊢; go_simp; with_reducible refine hK _ _ (Below.refl _ _) ?_
        exact rfl
       ·as_aux_lemma =>
        intro vs W hS hdep K hK; have d0 := hdep ⟨16, .guard⟩ (by simp) rfl; simp only [PhiCn] at d0; refine ⟨?_⟩; simp only [Act.put, sA, sB, sC, Nat.zero_add, Nat.reduceAdd, d0] at hK ⊢; go_simp; with_reducible refine hK _ _ (Below.refl _ _) ?_
        exact rfl
       ·as_aux_lemma =>
        intro vs W hS hdep K hK; have d0 := hdep ⟨16, .guard⟩ (by simp) rfl; simp only [PhiCn] at d0; refine ⟨?_⟩; simp only [Act.put, sA, sB, sC, Nat.zero_add, Nat.reduceAdd, d0] at hK ⊢; go_simp; with_reducible refine hK _ _ (Below.refl _ _) ?_
        exact rfl
       ·as_aux_lemma =>
        intro vs W hS hdep K hK; have d0 := hdep ⟨17, .data⟩ (by simp) rfl; simp only [PhiCn] at d0; have d1 := hdep ⟨18, .data⟩ (by simp) rfl; simp only [PhiCn] at d1; have d2 := hdep ⟨16, .guard⟩ (by simp) rfl; simp only [PhiCn] at d2; refine ⟨?_⟩; simp only [Act.put, sA, sB, sC, Nat.zero_add, Nat.reduceAdd, d0, d1, d2] at hK ⊢; go_simp; with_reducible refine hK _ _ (Below.refl _ _) ?_
        exact rfl
       ·as_aux_lemma =>
        intro vs W hS hdep K hK; have d0 := hdep ⟨19, .data⟩ (by simp) rfl; simp only [PhiCn] at d0; have d1 := hdep ⟨16, .guard⟩ (by simp) rfl; simp only [PhiCn] at d1; refine ⟨?_⟩; simp only [Act.put, sA, sB, sC, Nat.zero_add, Nat.reduceAdd, d0, d1] at hK ⊢; go_simp; with_reducible refine hK _ _ (Below.refl _ _) ?_
        exact rfl
       ·as_aux_lemma =>
        intro vs W hS hdep K hK; have d0 := hdep ⟨20, .data⟩ (by simp) rfl; simp only [PhiCn] at d0; have d1 := hdep ⟨16, .guard⟩ (by simp) rfl; simp only [PhiCn] at d1; have f1 := cell_keep hS g1; refine ⟨?_⟩; simp only [Act.put, sA, sB, sC, Nat.zero_add, Nat.reduceAdd, d0, d1] at hK ⊢; go_simp; with_reducible refine hK _ _ (Below.refl _ _) ?_
        exact rfl
       ·as_aux_lemma =>
        intro vs W hS hdep K hK; have d0 := hdep ⟨21, .data⟩ (by simp) rfl; simp only [PhiCn] at d0; have d1 := hdep ⟨16, .guard⟩ (by simp) rfl; simp only [PhiCn] at d1; refine ⟨?_⟩; simp only [Act.put, sA, sB, sC, Nat.zero_add, Nat.reduceAdd, d0, d1] at hK ⊢; go_simp; with_reducible refine hK _ _ (Below.refl _ _) ?_
        exact rfl
       ·as_aux_lemma =>
        intro vs W hS hdep K hK; have d0 := hdep ⟨22, .data⟩ (by simp) rfl; simp only [PhiCn] at d0; have d1 := hdep ⟨16, .guard⟩ (by simp) rfl; simp only [PhiCn] at d1; refine ⟨?_⟩; simp only [Act.put, sA, sB, sC, Nat.zero_add, Nat.reduceAdd, d0, d1] at hK ⊢; go_simp; with_reducible refine hK _ _ (Below.refl _ _) ?_
        exact rfl
       ·as_aux_lemma =>
        intro vs W hS hdep K hK; have d0 := hdep ⟨23, .data⟩ (by simp) rfl; simp only [PhiCn] at d0; have d1 := hdep ⟨16, .chain⟩ (by simp) rfl; simp only [PhiCn] at d1; refine ⟨?_⟩; simp only [Act.put, sA, sB, sC, Nat.zero_add, Nat.reduceAdd, d0, d1] at hK ⊢; go_simp; with_reducible refine hK _ _ (Below.refl _ _) ?_
        exact rfl
       ·as_aux_lemma =>
        intro vs W hS hdep K hK; have d0 := hdep ⟨24, .guard⟩ (by simp) rfl; simp only [PhiCn] at d0; refine ⟨?_⟩; simp only [Act.put, sA, sB, sC, Nat.zero_add, Nat.reduceAdd, d0] at hK ⊢; go_simp
        try rw [if_neg (by simp [undef])]
        with_reducible refine hK _ _ (Below.refl _ _) ?_
        exact rfl
       ·as_aux_lemma =>
        intro vs W hS hdep K hK; have d0 := hdep ⟨24, .guard⟩ (by simp) rfl; simp only [PhiCn] at d0; refine ⟨?_⟩; simp only [Act.put, sA, sB, sC, Nat.zero_add, Nat.reduceAdd, d0] at hK ⊢; go_simp
        try rw [if_neg (by simp [undef])]
        with_reducible refine hK _ _ (Below.refl _ _) ?_
        exact rfl
       ·as_aux_lemma =>
        intro vs W hS hdep K hK; have d0 := hdep ⟨24, .guard⟩ (by simp) rfl; simp only [PhiCn] at d0; refine ⟨?_⟩; simp only [Act.put, sA, sB, sC, Nat.zero_add, Nat.reduceAdd, d0] at hK ⊢; go_simp
        try rw [if_neg (by simp [undef])]
        with_reducible refine hK _ _ (Below.refl _ _) ?_
        exact rfl
       ·as_aux_lemma =>
        intro vs W hS hdep K hK; have d0 := hdep ⟨24, .guard⟩ (by simp) rfl; simp only [PhiCn] at d0; refine ⟨?_⟩; simp only [Act.put, sA, sB, sC, Nat.zero_add, Nat.reduceAdd, d0] at hK ⊢; go_simp
        try rw [if_neg (by simp [undef])]
        with_reducible refine hK _ _ (Below.refl _ _) ?_
        exact rfl
       ·as_aux_lemma =>
        intro vs W hS hdep K hK; have d0 := hdep ⟨24, .guard⟩ (by simp) rfl; simp only [PhiCn] at d0; refine ⟨?_⟩; simp only [Act.put, sA, sB, sC, Nat.zero_add, Nat.reduceAdd, d0] at hK ⊢; go_simp
        try rw [if_neg (by simp [undef])]
        with_reducible refine hK _ _ (Below.refl _ _) ?_
        exact rfl
       ·as_aux_lemma =>
        intro vs W hS hdep K hK; have d0 := hdep ⟨24, .guard⟩ (by simp) rfl; simp only [PhiCn] at d0; refine ⟨?_⟩; simp only [Act.put, sA, sB, sC, Nat.zero_add, Nat.reduceAdd, d0] at hK ⊢; go_simp
        try rw [if_neg (by simp [undef])]
        with_reducible refine hK _ _ (Below.refl _ _) ?_
        exact rfl
       ·as_aux_lemma =>
        intro vs W hS hdep K hK; have d0 := hdep ⟨24, .guard⟩ (by simp) rfl; simp only [PhiCn] at d0; refine ⟨?_⟩; simp only [Act.put, sA, sB, sC, Nat.zero_add, Nat.reduceAdd, d0] at hK ⊢; go_simp
        try rw [if_neg (by simp [undef])]
        with_reducible refine hK _ _ (Below.refl _ _) ?_
        exact rfl
       ·as_aux_lemma =>
        intro vs W hS hdep K hK; have d0 := hdep ⟨24, .guard⟩ (by simp) rfl; simp only [PhiCn] at d0; refine ⟨?_⟩; simp only [Act.put, sA, sB, sC, Nat.zero_add, Nat.reduceAdd, d0] at hK ⊢; go_simp
        try rw [if_neg (by simp [undef])]
        with_reducible refine hK _ _ (Below.refl _ _) ?_
        exact rfl
       ·as_aux_lemma =>
        intro vs W hS hdep K hK; have d0 := hdep ⟨24, .data⟩ (by simp) rfl; simp only [PhiCn] at d0; have d1 := hdep ⟨32, .data⟩ (by simp) rfl; simp only [PhiCn] at d1; have d2 := hdep ⟨16, .guard⟩ (by simp) rfl; simp only [PhiCn] at d2; refine ⟨?_⟩; simp only [Act.put, sA, sB, sC, Nat.zero_add, Nat.reduceAdd, d0, d1, d2] at hK ⊢; go_simp; with_reducible refine hK _ _ (Below.refl _ _) ?_
        exact rfl
       ·as_aux_lemma =>
        intro vs W hS hdep K hK; have d0 := hdep ⟨16, .data⟩ (by simp) rfl; simp only [PhiCn] at d0; have d1 := hdep ⟨33, .data⟩ (by simp) rfl; simp only [PhiCn] at d1; refine ⟨?_⟩; simp only [Act.put, sA, sB, sC, Nat.zero_add, Nat.reduceAdd, d0, d1] at hK ⊢; go_simp; with_reducible refine hK _ _ (Below.refl _ _) ?_
        exact rfl
      intro vs3 w9 hb hv; have v34 := hv 34 (by simp); simp only [PhiCn] at v34; simp only [Act.put, sA, sB, sC, Nat.zero_add, Nat.reduceAdd, v34]; have hcb := cell_keep hb hcb; have hbe7 := Below.tr hbe6 hb; clear hv v34 hb Y0 Y1 g1 g2 G1 G2 hcv hhv hyv hX
      cases bb
      all_goals
       go_wp2_with fail
       go_roundg (G - 1)
       case measure => omega
      case rel => exact ⟨n + 1, kk, _, rfl, by go_num, by omega, HN4, hbe7⟩
      case rel => exact ⟨n + 1, kk + 1, _, by go_num, by go_num, by omega, HN4, hbe7⟩
    ·have t2 : decide ((n : Int) < (kb : Int)) = false := by simp; omega
     have hbw := Below.tr hbw hbe; have HCE257 : Hid (capE b rows (List.replicate 257 false) = 4) := capE_many HPE.out (by rw [List.length_replicate]; omega); have HCE256 : Hid (capE b rows (List.replicate 256 false) = 0) := capE_ok HPE.out (by rw [List.length_replicate]; omega); clear hX hbad HCA; go_upto_region 24 with fail; refine region_invF (PhiC24 (.agg #[.slice X1 xk1 xc1, .slice X2 xk2 xc2, .slice S kS cS])) (fun w w' => Below w.heap.size w w') (fun W => Below wo.heap.size wo W) (by kernel_rfl) (by kernel_rfl) (by kernel_rfl) PhiC24.keep (fun _ _ hR hS => Below.tr hS hR) (bD _) (fun vs => by simp only [fillR, Act.put, sA, sB, sC, Nat.zero_add, Nat.reduceAdd]; rfl) ?_ ?_
     ·refine sK ?_ (sK ?_ (sK ?_ (sK ?_ (sK ?_ (sK ?_ (sK ?_ (sK ?_ (sK ?_ (sZ)))))))))
      ·as_aux_lemma =>
       intro vs W hS hdep K hK; have f1 := cell_keep hS P0; have f2 := cell_keep hS P1; have f3 := cell_keep hS P2; refine ⟨?_⟩; simp only [Act.put, sA, sB, sC, Nat.zero_add, Nat.reduceAdd] at hK ⊢; go_simp; with_reducible refine hK _ _ (Below.refl _ _) ?_
       exact rfl
      ·as_aux_lemma =>
       intro vs W hS hdep K hK; have d0 := hdep ⟨0, .data⟩ (by simp) rfl; simp only [PhiC24] at d0; refine ⟨?_⟩; simp only [Act.put, sA, sB, sC, Nat.zero_add, Nat.reduceAdd, d0] at hK ⊢; go_simp; refine (plan_E _ b rows _ (hpl.below hS)).mono ?_; rintro e w' ⟨rfl, hb⟩; go_wp2_with fail; with_reducible refine hK _ _ hb ?_
       exact rfl
      ·as_aux_lemma =>
       intro vs W hS hdep K hK; have hmk : (Instr.makeSlice 48 (.int .i64 257) (.int .i64 257)).run Tryz.prog W = _ := make_bool 257 (by omega) W; have hbn := Lib.hid (bools_new W 257 (by omega)); refine ⟨?_⟩; simp only [Act.put, sA, sB, sC, Nat.zero_add, Nat.reduceAdd] at hK ⊢; rw [List.toArray_replicate] at hmk; go_simp; with_reducible refine hK _ _ (bA _ _) ?_
       exact ⟨_, rfl, by have h := hbn.out; rw [List.toArray_replicate] at h; exact h⟩
      ·as_aux_lemma =>
       intro vs W hS hdep K hK; have d0 := hdep ⟨1, .data⟩ (by simp) rfl; simp only [PhiC24] at d0; have d1 := hdep ⟨2, .data⟩ (by simp) rfl; simp only [PhiC24] at d1; refine @exE1 _ _ _ d1 ?_; clear d1; intro g1 d1; have e1 := d1.1; have n1 := d1.2; clear d1; refine ⟨?_⟩; simp only [Act.put, sA, sB, sC, Nat.zero_add, Nat.reduceAdd, d0, e1] at hK ⊢; go_simp; refine (caps_call _ b rows _ _ _ _ _ 4 (hpl.below hS) n1 HCE257.out).mono ?_; rintro e w' ⟨v, rfl, hb⟩; go_wp2_with fail; with_reducible refine hK _ _ hb ?_
       exact ⟨_, rfl⟩
      ·as_aux_lemma =>
       intro vs W hS hdep K hK; have d0 := hdep ⟨3, .data⟩ (by simp) rfl; simp only [PhiC24] at d0; refine @exE1 _ _ _ d0 ?_; clear d0; intro v0 d0; have e0 := d0; clear d0; refine ⟨?_⟩; simp only [Act.put, sA, sB, sC, Nat.zero_add, Nat.reduceAdd, e0] at hK ⊢; go_simp; with_reducible refine hK _ _ (Below.refl _ _) ?_
       exact ⟨_, rfl⟩
      ·as_aux_lemma =>
       intro vs W hS hdep K hK; have d0 := hdep ⟨4, .data⟩ (by simp) rfl; simp only [PhiC24] at d0; refine @exE1 _ _ _ d0 ?_; clear d0; intro v0 d0; have e0 := d0; clear d0; refine ⟨?_⟩; simp only [Act.put, sA, sB, sC, Nat.zero_add, Nat.reduceAdd, e0] at hK ⊢; go_simp; with_reducible refine hK _ _ (Below.refl _ _) ?_
       exact trivial
      ·as_aux_lemma =>
       intro vs W hS hdep K hK; have d0 := hdep ⟨4, .data⟩ (by simp) rfl; simp only [PhiC24] at d0; refine @exE1 _ _ _ d0 ?_; clear d0; intro v0 d0; have e0 := d0; clear d0; refine ⟨?_⟩; simp only [Act.put, sA, sB, sC, Nat.zero_add, Nat.reduceAdd, e0] at hK ⊢; go_simp; with_reducible refine hK _ _ (Below.refl _ _) ?_
       exact rfl
      ·as_aux_lemma =>
       intro vs W hS hdep K hK; refine ⟨?_⟩; simp only [Act.put, sA, sB, sC, Nat.zero_add, Nat.reduceAdd] at hK ⊢; go_simp; with_reducible refine hK _ _ (Below.refl _ _) ?_
       exact trivial
      ·as_aux_lemma =>
       intro vs W hS hdep K hK; have d0 := hdep ⟨6, .data⟩ (by simp) rfl; simp only [PhiC24] at d0; refine ⟨?_⟩; simp only [Act.put, sA, sB, sC, Nat.zero_add, Nat.reduceAdd, d0] at hK ⊢; go_simp; with_reducible refine hK _ _ (Below.refl _ _) ?_
       exact rfl
     intro vs w8 hb hv; have v8 := hv 8 (by simp); simp only [PhiC24] at v8; simp only [Act.put, sA, sB, sC, Nat.zero_add, Nat.reduceAdd, v8]; clear hv v8; have hpl := hpl.below hb; have P0 := cell_keep hb P0; have P1 := cell_keep hb P1; have P2 := cell_keep hb P2; have hbw := Below.tr hbw hb; clear hb; go_upto_region 25 with fail; refine region_invF (PhiC25 (.agg #[.slice X1 xk1 xc1, .slice X2 xk2 xc2, .slice S kS cS])) (fun w w' => Below w.heap.size w w') (fun W => Below w8.heap.size w8 W) (by kernel_rfl) (by kernel_rfl) (by kernel_rfl) PhiC25.keep (fun _ _ hR hS => Below.tr hS hR) (bD _) (fun vs => by simp only [fillR, Act.put, sA, sB, sC, Nat.zero_add, Nat.reduceAdd]; rfl) ?_ ?_
     ·refine sK ?_ (sK ?_ (sK ?_ (sK ?_ (sK ?_ (sK ?_ (sK ?_ (sK ?_ (sK ?_ (sZ)))))))))
      ·as_aux_lemma =>
       intro vs W hS hdep K hK; have f1 := cell_keep hS P0; have f2 := cell_keep hS P1; have f3 := cell_keep hS P2; refine ⟨?_⟩; simp only [Act.put, sA, sB, sC, Nat.zero_add, Nat.reduceAdd] at hK ⊢; go_simp; with_reducible refine hK _ _ (Below.refl _ _) ?_
       exact rfl
      ·as_aux_lemma =>
       intro vs W hS hdep K hK; have d0 := hdep ⟨0, .data⟩ (by simp) rfl; simp only [PhiC25] at d0; refine ⟨?_⟩; simp only [Act.put, sA, sB, sC, Nat.zero_add, Nat.reduceAdd, d0] at hK ⊢; go_simp; refine (plan_E _ b rows _ (hpl.below hS)).mono ?_; rintro e w' ⟨rfl, hb⟩; go_wp2_with fail; with_reducible refine hK _ _ hb ?_
       exact rfl
      ·as_aux_lemma =>
       intro vs W hS hdep K hK; have hmk : (Instr.makeSlice 48 (.int .i64 256) (.int .i64 256)).run Tryz.prog W = _ := make_bool 256 (by omega) W; have hbn := Lib.hid (bools_new W 256 (by omega)); refine ⟨?_⟩; simp only [Act.put, sA, sB, sC, Nat.zero_add, Nat.reduceAdd] at hK ⊢; rw [List.toArray_replicate] at hmk; go_simp; with_reducible refine hK _ _ (bA _ _) ?_
       exact ⟨_, rfl, by have h := hbn.out; rw [List.toArray_replicate] at h; exact h⟩
      ·as_aux_lemma =>
       intro vs W hS hdep K hK; have d0 := hdep ⟨1, .data⟩ (by simp) rfl; simp only [PhiC25] at d0; have d1 := hdep ⟨2, .data⟩ (by simp) rfl; simp only [PhiC25] at d1; refine @exE1 _ _ _ d1 ?_; clear d1; intro g1 d1; have e1 := d1.1; have n1 := d1.2; clear d1; refine ⟨?_⟩; simp only [Act.put, sA, sB, sC, Nat.zero_add, Nat.reduceAdd, d0, e1] at hK ⊢; go_simp; refine (caps_call _ b rows _ _ _ _ _ 0 (hpl.below hS) n1 HCE256.out).mono ?_; rintro e w' ⟨v, rfl, hb⟩; go_wp2_with fail; with_reducible refine hK _ _ hb ?_
       exact ⟨_, rfl⟩
      ·as_aux_lemma =>
       intro vs W hS hdep K hK; have d0 := hdep ⟨3, .data⟩ (by simp) rfl; simp only [PhiC25] at d0; refine @exE1 _ _ _ d0 ?_; clear d0; intro v0 d0; have e0 := d0; clear d0; refine ⟨?_⟩; simp only [Act.put, sA, sB, sC, Nat.zero_add, Nat.reduceAdd, e0] at hK ⊢; go_simp; with_reducible refine hK _ _ (Below.refl _ _) ?_
       exact ⟨_, rfl⟩
      ·as_aux_lemma =>
       intro vs W hS hdep K hK; have d0 := hdep ⟨4, .data⟩ (by simp) rfl; simp only [PhiC25] at d0; refine @exE1 _ _ _ d0 ?_; clear d0; intro v0 d0; have e0 := d0; clear d0; refine ⟨?_⟩; simp only [Act.put, sA, sB, sC, Nat.zero_add, Nat.reduceAdd, e0] at hK ⊢; go_simp; with_reducible refine hK _ _ (Below.refl _ _) ?_
       exact trivial
      ·as_aux_lemma =>
       intro vs W hS hdep K hK; have d0 := hdep ⟨4, .data⟩ (by simp) rfl; simp only [PhiC25] at d0; refine @exE1 _ _ _ d0 ?_; clear d0; intro v0 d0; have e0 := d0; clear d0; refine ⟨?_⟩; simp only [Act.put, sA, sB, sC, Nat.zero_add, Nat.reduceAdd, e0] at hK ⊢; go_simp; with_reducible refine hK _ _ (Below.refl _ _) ?_
       exact rfl
      ·as_aux_lemma =>
       intro vs W hS hdep K hK; refine ⟨?_⟩; simp only [Act.put, sA, sB, sC, Nat.zero_add, Nat.reduceAdd] at hK ⊢; go_simp; with_reducible refine hK _ _ (Below.refl _ _) ?_
       exact trivial
      ·as_aux_lemma =>
       intro vs W hS hdep K hK; have d0 := hdep ⟨6, .data⟩ (by simp) rfl; simp only [PhiC25] at d0; refine ⟨?_⟩; simp only [Act.put, sA, sB, sC, Nat.zero_add, Nat.reduceAdd, d0] at hK ⊢; go_simp; with_reducible refine hK _ _ (Below.refl _ _) ?_
       exact rfl
     intro vs' w9 hb hv; have v8 := hv 8 (by simp); simp only [PhiC25] at v8; simp only [Act.put, sA, sB, sC, Nat.zero_add, Nat.reduceAdd, v8]; clear hv v8 hpl P0 P1 P2; have hbw := Below.tr hbw hb; clear hb; go_wp2_with fail; refine (lives17_n _).mono ?_; rintro e w' ⟨rfl, hb⟩; go_wp2_with fail; go_ret; exact ⟨rfl, Below.tr hbw hb⟩
end Go.Proofs.YtnjjdiilkhdbeaaGreat
