import Derived.Test.YtnjjdiilkhdbeaaDoorKMakProof22
import Derived.Test.YtnjjdiilkhdbeaaDoorKMakProof14
import Derived.Test.YtnjjdiilkhdbeaaDoorS0
set_option linter.unusedVariables false
set_option linter.unusedSimpArgs false
namespace Go.Proofs.YtnjjdiilkhdbeaaDoor
open Go Go.RowKit
theorem seven_at {w : World} {g i : Nat} {xs : List LP} (h : RatRow w (some ⟨g, 0, none⟩) 7 xs) (hi : i < 7) : ∃ y1 y2 x, w.cell? ⟨g, i * 2, none⟩ = some y1 ∧ w.cell? ⟨g, i * 2 + 1, none⟩ = some y2 ∧ RtP w (.agg #[y1, y2]) x := by
 obtain ⟨b, o, y1, y2, x, e, g1, g2, _, hx⟩ := h.at_ hi; simp only [Option.some.injEq, Addr.mk.injEq, and_true] at e; obtain ⟨rfl, rfl⟩ := e; rw [Nat.zero_add] at g1 g2; exact ⟨y1, y2, x, g1, g2, hx⟩
def zeroQ : Value := .agg #[.int .i64 0, .int .i64 0]
theorem info_q : (Tryd.prog.info? 29).map (fun i => (i.zero, i.size, i.bytes)) = some (some zeroQ, 2, 16) := by kernel_rfl
theorem fill_q4 (x0 y0 x1 y1 x2 y2 x3 y3 : Int) : Instr.fill (fun i => some (i * 2, 2)) ((Array.range (4 * 2)).map (zeroQ.cells[· % zeroQ.cells.size]!)) [(0, .agg #[.int .i64 x0, .int .i64 y0]), (1, .agg #[.int .i64 x1, .int .i64 y1]), (2, .agg #[.int .i64 x2, .int .i64 y2]), (3, .agg #[.int .i64 x3, .int .i64 y3])] = some #[.int .i64 x0, .int .i64 y0, .int .i64 x1, .int .i64 y1, .int .i64 x2, .int .i64 y2, .int .i64 x3, .int .i64 y3] := by kernel_rfl
theorem pair_at (w : World) (g i : Nat) (n m how by_ : Int) (z1 z2 : Nat) (h : Blk w g 29 #[.int .i64 n, .int .i64 m, .int .i64 (z1 : Int), .int .i64 (z2 : Int), .int .i64 how, .int .i64 by_, .int .i64 by_, .int .i64 1099511627776]) (hi : i < 4) (hn : isI64 n) (hm : isI64 m) (hh : isI64 how) (hb : isI64 by_) (h1 : z1 < 40) (h2 : z2 < 40) : ∃ x y : Int, w.cell? ⟨g, i * 2, none⟩ = some (.int .i64 x) ∧ w.cell? ⟨g, i * 2 + 1, none⟩ = some (.int .i64 y) ∧ isI64 x ∧ isI64 y := by
 have : i = 0 ∨ i = 1 ∨ i = 2 ∨ i = 3 := by omega
 rcases this with rfl | rfl | rfl | rfl
 ·exact ⟨n, m, by rw [h.cell]; rfl, by rw [h.cell]; rfl, hn, hm⟩
 ·exact ⟨z1, z2, by rw [h.cell]; rfl, by rw [h.cell]; rfl, ⟨by omega, by omega⟩, ⟨by omega, by omega⟩⟩
 ·exact ⟨how, by_, by rw [h.cell]; rfl, by rw [h.cell]; rfl, hh, hb⟩
 ·exact ⟨by_, 1099511627776, by rw [h.cell]; rfl, by rw [h.cell]; rfl, hb, ⟨by omega, by omega⟩⟩
def PhiV5m (g i : Nat) (y1 y2 : Value) (E : Int) (j : Nat) (w : World) (x : Value) : Prop :=
 match j with
 | 0 => x = .slice (some ⟨g, 0, none⟩) 7 7
 | 1 => x = .int .i64 (i : Nat)
 | 2 => x = .pointer (some ⟨g, i * 2, none⟩)
 | 3 => x = .agg #[y1, y2]
 | 4 => x = .int .i64 E
 | 5 => x = .slice (some ⟨g, 0, none⟩) 7 7
 | 6 => x = .int .i64 (i : Nat)
 | 7 => x = .pointer (some ⟨g, i * 2, none⟩)
 | 8 => x = .agg #[y1, y2]
 | 9 => x = .int .i64 E
 | 10 => x = .bool false
 | _ => True

theorem PhiV5m.keep {g i : Nat} {y1 y2 : Value} {E : Int} : ∀ (w w' : World), Below w.heap.size w w' → ∀ j x, PhiV5m g i y1 y2 E j w x → PhiV5m g i y1 y2 E j w' x := by
 intro w w' hb j x h; unfold PhiV5m at h ⊢
 split <;> simp only at h ⊢
 all_goals first
  | exact h
  | exact h.below hb

def PhiVma (g i : Nat) (nx ny E : Int) (X : LP) (B : Nat) (j : Nat) (w : World) (x : Value) : Prop :=
 match j with
 | 0 => x = .slice (some ⟨g, 0, none⟩) 4 4
 | 1 => x = .int .i64 (i : Nat)
 | 2 => x = .pointer (some ⟨g, i * 2, none⟩)
 | 3 => x = .pointer (some ⟨g, i * 2, none⟩)
 | 4 => x = .int .i64 nx
 | 5 => x = .slice (some ⟨g, 0, none⟩) 4 4
 | 6 => x = .int .i64 (i : Nat)
 | 7 => x = .pointer (some ⟨g, i * 2, none⟩)
 | 8 => x = .pointer (some ⟨g, i * 2 + 1, none⟩)
 | 9 => x = .int .i64 ny
 | 10 => ∃ v, x = .tuple #[v, .int .i64 E] ∧ RtP w v X
 | 11 => ∃ v, x = .tuple #[v, .int .i64 E] ∧ RtP w v X
 | 12 => ∃ A k c A' k' c', x = .agg #[.slice A k c, .slice A' k' c'] ∧ RtP w (.agg #[.slice A k c, .slice A' k' c']) X
 | 13 => x = .int .i64 E
 | 14 => ∃ g, x = .pointer (some ⟨g, 0, none⟩) ∧ B ≤ g ∧ Sl w g
 | 15 => True
 | 16 => x = .int .i64 E
 | _ => True

theorem PhiVma.keep {g i : Nat} {nx ny E : Int} {X : LP} {B : Nat} : ∀ (w w' : World), RT B w w' → ∀ j x, PhiVma g i nx ny E X B j w x → PhiVma g i nx ny E X B j w' x := by
 intro w w' hr j x h; unfold PhiVma at h ⊢
 split <;> simp only at h ⊢
 all_goals first
  | exact h
  | (obtain ⟨v, e, h⟩ := h; exact ⟨v, e, h.mapL hr.lim⟩)
  | (obtain ⟨A, k, c, A', k', c', e, h⟩ := h; exact ⟨A, k, c, A', k', c', e, h.mapL hr.lim⟩)
  | (obtain ⟨g, e, h1, h2⟩ := h; exact ⟨g, e, h1, hr.sl g h2⟩)
  | exact h.mapL hr.lim

def PhiVmb (g i : Nat) (nx ny E : Int) (X : LP) (B : Nat) (j : Nat) (w : World) (x : Value) : Prop :=
 match j with
 | 0 => x = .slice (some ⟨g, 0, none⟩) 4 4
 | 1 => x = .int .i64 (i : Nat)
 | 2 => x = .pointer (some ⟨g, i * 2, none⟩)
 | 3 => x = .pointer (some ⟨g, i * 2, none⟩)
 | 4 => x = .int .i64 nx
 | 5 => x = .slice (some ⟨g, 0, none⟩) 4 4
 | 6 => x = .int .i64 (i : Nat)
 | 7 => x = .pointer (some ⟨g, i * 2, none⟩)
 | 8 => x = .pointer (some ⟨g, i * 2 + 1, none⟩)
 | 9 => x = .int .i64 ny
 | 10 => ∃ v, x = .tuple #[v, .int .i64 E] ∧ RtP w v X
 | 11 => ∃ v, x = .tuple #[v, .int .i64 E] ∧ RtP w v X
 | 12 => ∃ A k c A' k' c', x = .agg #[.slice A k c, .slice A' k' c'] ∧ RtP w (.agg #[.slice A k c, .slice A' k' c']) X
 | 13 => x = .int .i64 E
 | 14 => ∃ g, x = .pointer (some ⟨g, 0, none⟩) ∧ B ≤ g ∧ Sl w g
 | 15 => True
 | 16 => x = .int .i64 E
 | _ => True

theorem PhiVmb.keep {g i : Nat} {nx ny E : Int} {X : LP} {B : Nat} : ∀ (w w' : World), RT B w w' → ∀ j x, PhiVmb g i nx ny E X B j w x → PhiVmb g i nx ny E X B j w' x := by
 intro w w' hr j x h; unfold PhiVmb at h ⊢
 split <;> simp only at h ⊢
 all_goals first
  | exact h
  | (obtain ⟨v, e, h⟩ := h; exact ⟨v, e, h.mapL hr.lim⟩)
  | (obtain ⟨A, k, c, A', k', c', e, h⟩ := h; exact ⟨A, k, c, A', k', c', e, h.mapL hr.lim⟩)
  | (obtain ⟨g, e, h1, h2⟩ := h; exact ⟨g, e, h1, hr.sl g h2⟩)
  | exact h.mapL hr.lim

set_option maxRecDepth 100000 in
set_option maxHeartbeats 8000000 in
theorem ratio_makes_n (A4 : Option Addr) (k4 c4 : Nat) (A5 : Option Addr) (k5 c5 : Nat) (l4 l5 : List Nat) (n m how by_ : Int) (w : World) (hl4 : Lim w A4 c4 l4) (hk4 : k4 = l4.length) (hl5 : Lim w A5 c5 l5) (hk5 : k5 = l5.length) (hin : isI64 n) (him : isI64 m) (hih : isI64 how) (hib : isI64 by_) :
  Calls Tryd.prog 3 #[.int .i64 n, .int .i64 m, .int .i64 how, .int .i64 by_, .slice A4 k4 c4, .slice A5 k5 c5] w fun e w' => e = .returned (.bool true) ∧ Below w.heap.size w w' := by
 obtain ⟨iQ, hiQ, hzQ, hzQ1, hzQ2⟩ := info_parts info_q; have HS := Lib.hid (some_n n m how by_ A4 k4 c4 A5 k5 c5 l4 l5 w hin him hih hib hl4 hk4 hl5 hk5); have HIN := Lib.hid hin; have HIM := Lib.hid him; have HIH := Lib.hid hih; have HIB := Lib.hid hib; clear hl4 hk4 hl5 hk5 hin him hih hib
 go_enter Tryd.func3, Tryd.ntmps3
 go_wp2_with fail; refine HS.out.mono ?_; rintro e w1 ⟨gL, xs, rfl, hL, _, hbw⟩; clear HS; go_wp2_with fail
 go_loopg [14] 7 (fun j x wr => ∃ i : Nat, x = .int .i64 i ∧ i + j = 7 ∧ Below w1.heap.size w1 wr)
 case atStart => exact ⟨0, rfl, by omega, Below.refl _ _⟩
 case round =>
  obtain ⟨G, hG⟩ : ∃ G, G = gk := ⟨gk, rfl⟩; subst hG; obtain ⟨i, rfl, hij, hbo⟩ := hrel; obtain ⟨wo, hwo⟩ : ∃ wo, wo = wr := ⟨_, rfl⟩; subst hwo; by_cases hi : i < 7
  ·have t1 : decide ((i : Int) < 7) = true := by simp; omega
   have hi7 : (i : Int) < 7 := by omega
   obtain ⟨y1, y2, q, g1, g2, hq⟩ := seven_at (hL.below hbo) hi; go_upto_region 5 with fail; refine region_invF (PhiV5m gL i y1 y2 (validP q)) (fun w w' => Below w.heap.size w w') (fun W => Below wo.heap.size wo W) (by kernel_rfl) (by kernel_rfl) (by kernel_rfl) PhiV5m.keep (fun _ _ hR hS => Below.tr hS hR) (bD _) (fun vs => by simp only [fillR, Act.put, sA, sB, sC, Nat.zero_add, Nat.reduceAdd]; rfl) ?_ ?_
   ·refine sK ?_ (sK ?_ (sK ?_ (sK ?_ (sK ?_ (sK ?_ (sK ?_ (sK ?_ (sK ?_ (sK ?_ (sK ?_ (sZ)))))))))))
    ·as_aux_lemma =>
     intro vs W hS hdep K hK; refine ⟨?_⟩; simp only [Act.put, sA, sB, sC, Nat.zero_add, Nat.reduceAdd] at hK ⊢; go_simp; with_reducible refine hK _ _ (Below.refl _ _) ?_
     exact rfl
    ·as_aux_lemma =>
     intro vs W hS hdep K hK; refine ⟨?_⟩; simp only [Act.put, sA, sB, sC, Nat.zero_add, Nat.reduceAdd] at hK ⊢; go_simp; with_reducible refine hK _ _ (Below.refl _ _) ?_
     exact rfl
    ·as_aux_lemma =>
     intro vs W hS hdep K hK; have d0 := hdep ⟨0, .data⟩ (by simp) rfl; simp only [PhiV5m] at d0; have d1 := hdep ⟨1, .data⟩ (by simp) rfl; simp only [PhiV5m] at d1; refine ⟨?_⟩; simp only [Act.put, sA, sB, sC, Nat.zero_add, Nat.reduceAdd, d0, d1] at hK ⊢; go_simp; with_reducible refine hK _ _ (Below.refl _ _) ?_
     exact rfl
    ·as_aux_lemma =>
     intro vs W hS hdep K hK; have d0 := hdep ⟨2, .data⟩ (by simp) rfl; simp only [PhiV5m] at d0; have f1 := cell_keep hS g1; have f2 := cell_keep hS g2; refine ⟨?_⟩; simp only [Act.put, sA, sB, sC, Nat.zero_add, Nat.reduceAdd, d0] at hK ⊢; go_simp; with_reducible refine hK _ _ (Below.refl _ _) ?_
     exact rfl
    ·as_aux_lemma =>
     intro vs W hS hdep K hK; have d0 := hdep ⟨3, .data⟩ (by simp) rfl; simp only [PhiV5m] at d0; refine ⟨?_⟩; simp only [Act.put, sA, sB, sC, Nat.zero_add, Nat.reduceAdd, d0] at hK ⊢; go_simp; refine (valid_P _ q _ (hq.below hS)).mono ?_; rintro e w' ⟨rfl, hb⟩; go_wp2_with fail; with_reducible refine hK _ _ hb ?_
     exact rfl
    ·as_aux_lemma =>
     intro vs W hS hdep K hK; refine ⟨?_⟩; simp only [Act.put, sA, sB, sC, Nat.zero_add, Nat.reduceAdd] at hK ⊢; go_simp; with_reducible refine hK _ _ (Below.refl _ _) ?_
     exact rfl
    ·as_aux_lemma =>
     intro vs W hS hdep K hK; refine ⟨?_⟩; simp only [Act.put, sA, sB, sC, Nat.zero_add, Nat.reduceAdd] at hK ⊢; go_simp; with_reducible refine hK _ _ (Below.refl _ _) ?_
     exact rfl
    ·as_aux_lemma =>
     intro vs W hS hdep K hK; have d0 := hdep ⟨5, .data⟩ (by simp) rfl; simp only [PhiV5m] at d0; have d1 := hdep ⟨6, .data⟩ (by simp) rfl; simp only [PhiV5m] at d1; refine ⟨?_⟩; simp only [Act.put, sA, sB, sC, Nat.zero_add, Nat.reduceAdd, d0, d1] at hK ⊢; go_simp; with_reducible refine hK _ _ (Below.refl _ _) ?_
     exact rfl
    ·as_aux_lemma =>
     intro vs W hS hdep K hK; have d0 := hdep ⟨7, .data⟩ (by simp) rfl; simp only [PhiV5m] at d0; have f1 := cell_keep hS g1; have f2 := cell_keep hS g2; refine ⟨?_⟩; simp only [Act.put, sA, sB, sC, Nat.zero_add, Nat.reduceAdd, d0] at hK ⊢; go_simp; with_reducible refine hK _ _ (Below.refl _ _) ?_
     exact rfl
    ·as_aux_lemma =>
     intro vs W hS hdep K hK; have d0 := hdep ⟨8, .data⟩ (by simp) rfl; simp only [PhiV5m] at d0; refine ⟨?_⟩; simp only [Act.put, sA, sB, sC, Nat.zero_add, Nat.reduceAdd, d0] at hK ⊢; go_simp; refine (rvalid_P _ q _ (hq.below hS)).mono ?_; rintro e w' ⟨rfl, hb⟩; go_wp2_with fail; with_reducible refine hK _ _ hb ?_
     exact rfl
    ·as_aux_lemma =>
     intro vs W hS hdep K hK; have d0 := hdep ⟨4, .data⟩ (by simp) rfl; simp only [PhiV5m] at d0; have d1 := hdep ⟨9, .data⟩ (by simp) rfl; simp only [PhiV5m] at d1; refine ⟨?_⟩; simp only [Act.put, sA, sB, sC, Nat.zero_add, Nat.reduceAdd, d0, d1] at hK ⊢; go_simp; with_reducible refine hK _ _ (Below.refl _ _) ?_
     exact rfl
   intro vs w2 hb hv; have v10 := hv 10 (by simp); simp only [PhiV5m] at v10; simp only [Act.put, sA, sB, sC, Nat.zero_add, Nat.reduceAdd, v10]; have hbo := Below.tr hbo hb; clear hv v10 hb g1 g2 hq; go_wp2_with fail
   go_roundg (G - 1)
   case measure => omega
   case rel => exact ⟨i + 1, by go_num, by omega, hbo⟩
  ·have t1 : decide ((i : Int) < 7) = false := by simp; omega
   have hbw := Below.tr hbw hbo; clear hL; go_wp2_with fail; refine (around_n n 40 _ HIN.out.1 HIN.out.2 (by omega) (by omega)).mono ?_; rintro e w' ⟨z1, rfl, hz1, _, rfl⟩; go_wp2_with fail; refine (around_n m 40 _ HIM.out.1 HIM.out.2 (by omega) (by omega)).mono ?_; rintro e w' ⟨z2, rfl, hz2, _, rfl⟩
   go_upto_region 8 with (refine wpList_sliceN rfl 31 29 4 [(0, .tmp 47), (1, .tmp 52), (2, .tmp 55), (3, .tmp 57)] rfl #[.int .i64 n, .int .i64 m, .int .i64 (z1 : Int), .int .i64 (z2 : Int), .int .i64 how, .int .i64 by_, .int .i64 by_, .int .i64 1099511627776] iQ zeroQ 2 [(0, .agg #[.int .i64 n, .int .i64 m]), (1, .agg #[.int .i64 (z1 : Int), .int .i64 (z2 : Int)]), (2, .agg #[.int .i64 how, .int .i64 by_]), (3, .agg #[.int .i64 by_, .int .i64 1099511627776])] Tryd.underlying31 hiQ hzQ hzQ1 (by omega) (by omega) rfl (fill_q4 _ _ _ _ _ _ _ _) ?_; simp only [Act.put, sA, sB, sC])
   refine wp_name ?_; intro w3 HW; have hb3 : Below wo.heap.size wo w3 := by rw [HW.out]; exact bA _ _
   have hB : Blk w3 wo.heap.size 29 #[.int .i64 n, .int .i64 m, .int .i64 (z1 : Int), .int .i64 (z2 : Int), .int .i64 how, .int .i64 by_, .int .i64 by_, .int .i64 1099511627776] := by rw [HW.out]; exact Blk.new _ _ _
   obtain ⟨gP, hgP⟩ : ∃ g, Hid (g = wo.heap.size) := ⟨_, rfl⟩; rw [← hgP.out] at hB ⊢; have hbw := Below.tr hbw hb3; have HP : Hid (∀ i, i < 4 → ∃ x y : Int, w3.cell? ⟨gP, i * 2, none⟩ = some (.int .i64 x) ∧ w3.cell? ⟨gP, i * 2 + 1, none⟩ = some (.int .i64 y) ∧ isI64 x ∧ isI64 y) := fun i hi => pair_at w3 gP i n m how by_ z1 z2 hB hi HIN.out HIM.out HIH.out HIB.out hz1 hz2
   clear HW hB hgP hb3 hbo hi hij; go_wp2_with fail
   go_loopg [16] 4 (fun j x wr => ∃ i : Nat, x = .int .i64 i ∧ i + j = 4 ∧ Below w3.heap.size w3 wr)
   case atStart => exact ⟨0, rfl, by omega, Below.refl _ _⟩
   case round =>
    obtain ⟨G2, hG2⟩ : ∃ G, G = gk := ⟨gk, rfl⟩; subst hG2; obtain ⟨i, rfl, hij, hbp⟩ := hrel; obtain ⟨wp, hwp⟩ : ∃ wo, wo = wr := ⟨_, rfl⟩; subst hwp; by_cases hi : i < 4
    ·have t1 : decide ((i : Int) < 4) = true := by simp; omega
     have hi4 : (i : Int) < 4 := by omega
     obtain ⟨x, y, c1, c2, hx, hy⟩ := HP.out i hi
     replace c1 := cell_keep hbp c1
     replace c2 := cell_keep hbp c2
     go_upto_region 11 with fail; refine region_invW (PhiVma gP i x y (ofE x y) (ofX x y) wp.heap.size) (RT wp.heap.size) (SD wp 12 14 15) (by kernel_rfl) (by kernel_rfl) (by kernel_rfl) PhiVma.keep (SD.start _ _ _ _ _) (fun vs => by simp only [fillR, Act.put, sA, sB, sC, Nat.zero_add, Nat.reduceAdd]; rfl) ?_ ?_
     ·refine sK ?_ (sK ?_ (sK ?_ (sK ?_ (sK ?_ (sK ?_ (sK ?_ (sK ?_ (sK ?_ (sK ?_ (sK ?_ (sK ?_ (sK ?_ (sK ?_ (sK ?_ (sK ?_ (sK ?_ (sZ)))))))))))))))))
      ·as_aux_lemma =>
       intro vs L W hS hL cl hdl hdep K hK; refine ⟨?_⟩; simp only [Act.put, sA, sB, sC, Nat.zero_add, Nat.reduceAdd] at hK ⊢; go_simp; with_reducible refine hK _ _ (RT.refl _ _) (hS.step (Below.refl _ _) 0 _ (by decide) (fun e => absurd e (by decide))) ?_
       exact rfl
      ·as_aux_lemma =>
       intro vs L W hS hL cl hdl hdep K hK; refine ⟨?_⟩; simp only [Act.put, sA, sB, sC, Nat.zero_add, Nat.reduceAdd] at hK ⊢; go_simp; with_reducible refine hK _ _ (RT.refl _ _) (hS.step (Below.refl _ _) 1 _ (by decide) (fun e => absurd e (by decide))) ?_
       exact rfl
      ·as_aux_lemma =>
       intro vs L W hS hL cl hdl hdep K hK; have d0 := hdep ⟨0, .data⟩ (by simp) rfl; simp only [PhiVma] at d0; have d1 := hdep ⟨1, .data⟩ (by simp) rfl; simp only [PhiVma] at d1; refine ⟨?_⟩; simp only [Act.put, sA, sB, sC, Nat.zero_add, Nat.reduceAdd, d0, d1] at hK ⊢; go_simp; with_reducible refine hK _ _ (RT.refl _ _) (hS.step (Below.refl _ _) 2 _ (by decide) (fun e => absurd e (by decide))) ?_
       exact rfl
      ·as_aux_lemma =>
       intro vs L W hS hL cl hdl hdep K hK; have d0 := hdep ⟨2, .data⟩ (by simp) rfl; simp only [PhiVma] at d0; refine ⟨?_⟩; simp only [Act.put, sA, sB, sC, Nat.zero_add, Nat.reduceAdd, d0] at hK ⊢; go_simp; with_reducible refine hK _ _ (RT.refl _ _) (hS.step (Below.refl _ _) 3 _ (by decide) (fun e => absurd e (by decide))) ?_
       exact rfl
      ·as_aux_lemma =>
       intro vs L W hS hL cl hdl hdep K hK; have d0 := hdep ⟨3, .data⟩ (by simp) rfl; simp only [PhiVma] at d0; have f1 := cell_keep hS.be c1; refine ⟨?_⟩; simp only [Act.put, sA, sB, sC, Nat.zero_add, Nat.reduceAdd, d0] at hK ⊢; go_simp; with_reducible refine hK _ _ (RT.refl _ _) (hS.step (Below.refl _ _) 4 _ (by decide) (fun e => absurd e (by decide))) ?_
       exact rfl
      ·as_aux_lemma =>
       intro vs L W hS hL cl hdl hdep K hK; refine ⟨?_⟩; simp only [Act.put, sA, sB, sC, Nat.zero_add, Nat.reduceAdd] at hK ⊢; go_simp; with_reducible refine hK _ _ (RT.refl _ _) (hS.step (Below.refl _ _) 5 _ (by decide) (fun e => absurd e (by decide))) ?_
       exact rfl
      ·as_aux_lemma =>
       intro vs L W hS hL cl hdl hdep K hK; refine ⟨?_⟩; simp only [Act.put, sA, sB, sC, Nat.zero_add, Nat.reduceAdd] at hK ⊢; go_simp; with_reducible refine hK _ _ (RT.refl _ _) (hS.step (Below.refl _ _) 6 _ (by decide) (fun e => absurd e (by decide))) ?_
       exact rfl
      ·as_aux_lemma =>
       intro vs L W hS hL cl hdl hdep K hK; have d0 := hdep ⟨5, .data⟩ (by simp) rfl; simp only [PhiVma] at d0; have d1 := hdep ⟨6, .data⟩ (by simp) rfl; simp only [PhiVma] at d1; refine ⟨?_⟩; simp only [Act.put, sA, sB, sC, Nat.zero_add, Nat.reduceAdd, d0, d1] at hK ⊢; go_simp; with_reducible refine hK _ _ (RT.refl _ _) (hS.step (Below.refl _ _) 7 _ (by decide) (fun e => absurd e (by decide))) ?_
       exact rfl
      ·as_aux_lemma =>
       intro vs L W hS hL cl hdl hdep K hK; have d0 := hdep ⟨7, .data⟩ (by simp) rfl; simp only [PhiVma] at d0; refine ⟨?_⟩; simp only [Act.put, sA, sB, sC, Nat.zero_add, Nat.reduceAdd, d0] at hK ⊢; go_simp; with_reducible refine hK _ _ (RT.refl _ _) (hS.step (Below.refl _ _) 8 _ (by decide) (fun e => absurd e (by decide))) ?_
       exact rfl
      ·as_aux_lemma =>
       intro vs L W hS hL cl hdl hdep K hK; have d0 := hdep ⟨8, .data⟩ (by simp) rfl; simp only [PhiVma] at d0; have f1 := cell_keep hS.be c2; refine ⟨?_⟩; simp only [Act.put, sA, sB, sC, Nat.zero_add, Nat.reduceAdd, d0] at hK ⊢; go_simp; with_reducible refine hK _ _ (RT.refl _ _) (hS.step (Below.refl _ _) 9 _ (by decide) (fun e => absurd e (by decide))) ?_
       exact rfl
      ·as_aux_lemma =>
       intro vs L W hS hL cl hdl hdep K hK; have d0 := hdep ⟨4, .data⟩ (by simp) rfl; simp only [PhiVma] at d0; have d1 := hdep ⟨9, .data⟩ (by simp) rfl; simp only [PhiVma] at d1; refine ⟨?_⟩; simp only [Act.put, sA, sB, sC, Nat.zero_add, Nat.reduceAdd, d0, d1] at hK ⊢; go_simp; refine (of_A x y _ hx hy).mono ?_; rintro e w' ⟨v, rfl, hn, hb⟩; go_wp2_with fail; with_reducible refine hK _ _ (RT.below hb hS.be.size) (hS.step hb 10 _ (by decide) (fun e => absurd e (by decide))) ?_
       exact ⟨v, rfl, hn⟩
      ·as_aux_lemma =>
       intro vs L W hS hL cl hdl hdep K hK; have d0 := hdep ⟨10, .data⟩ (by simp) rfl; simp only [PhiVma] at d0; refine @exE1 _ _ _ d0 ?_; clear d0; intro v0 d0; have e0 := d0.1; have n0 := d0.2; clear d0; refine ⟨?_⟩; simp only [Act.put, sA, sB, sC, Nat.zero_add, Nat.reduceAdd, e0] at hK ⊢; go_simp; with_reducible refine hK _ _ (RT.refl _ _) (hS.step (Below.refl _ _) 11 _ (by decide) (fun e => absurd e (by decide))) ?_
       exact ⟨_, rfl, n0⟩
      ·as_aux_lemma =>
       intro vs L W hS hL cl hdl hdep K hK; have d0 := hdep ⟨11, .data⟩ (by simp) rfl; simp only [PhiVma] at d0; refine @exE1 _ _ _ d0 ?_; clear d0; intro v0 d0; have e0 := d0.1; have n0 := d0.2; clear d0
       have h15 : L 15 = false := by
        cases h : L 15 with
        | false => rfl
        | true => exact absurd (cl 15 _ rfl h ⟨12, .data⟩ (by simp) rfl) (by rw [hL]; decide)
       obtain ⟨A, k, c, A', k', c', rfl⟩ := n0.shape; refine ⟨?_⟩; simp only [Act.put, sA, sB, sC, Nat.zero_add, Nat.reduceAdd, e0] at hK ⊢; go_simp; with_reducible refine hK _ _ (RT.refl _ _) (hS.step (Below.refl _ _) 12 _ (by decide) (fun _ => h15)) ?_
       exact ⟨_, _, _, _, _, _, rfl, n0⟩
      ·as_aux_lemma =>
       intro vs L W hS hL cl hdl hdep K hK; have d0 := hdep ⟨11, .data⟩ (by simp) rfl; simp only [PhiVma] at d0; refine @exE1 _ _ _ d0 ?_; clear d0; intro v0 d0; have e0 := d0.1; have n0 := d0.2; clear d0; refine ⟨?_⟩; simp only [Act.put, sA, sB, sC, Nat.zero_add, Nat.reduceAdd, e0] at hK ⊢; go_simp; with_reducible refine hK _ _ (RT.refl _ _) (hS.step (Below.refl _ _) 13 _ (by decide) (fun e => absurd e (by decide))) ?_
       exact rfl
      ·as_aux_lemma =>
       intro vs L W hS hL cl hdl hdep K hK
       have h15 : L 15 = false := by
        cases h : L 15 with
        | false => rfl
        | true => exact absurd (cl 15 _ rfl h ⟨14, .data⟩ (by simp) rfl) (by rw [hL]; decide)
       refine ⟨?_⟩; simp only [Act.put, sA, sB, sC, Nat.zero_add, Nat.reduceAdd] at hK ⊢; go_simp; with_reducible refine hK _ _ (RT.below (bA _ _) hS.be.size) (hS.step (bA _ _) 14 _ (by decide) (fun _ => h15)) ?_
       exact ⟨_, rfl, hS.be.size, none, 0, 0, none, 0, 0, Blk.new _ _ _⟩
      ·as_aux_lemma =>
       intro vs L W hS hL cl hdl hdep K hK; have d0 := hdep ⟨14, .data⟩ (by simp) rfl; simp only [PhiVma] at d0; refine @exE1 _ _ _ d0 ?_; clear d0; intro g0 d0; have e0 := d0.1; have l0 := d0.2.1; have s0 := d0.2.2; clear d0; have d1 := hdep ⟨12, .data⟩ (by simp) rfl; simp only [PhiVma] at d1; refine @exE6 _ _ _ _ _ _ _ _ d1 ?_; clear d1; intro A1 k1 c1 B1 m1 d1 d1; have e1 := d1.1; have n1 := d1.2; clear d1; obtain ⟨⟨a1, q1⟩, ⟨a2, q2⟩, q3, q4⟩ := s0.facts; refine ⟨?_⟩; simp only [Act.put, sA, sB, sC, Nat.zero_add, Nat.reduceAdd, e0, e1] at hK ⊢; go_simp; with_reducible refine hK undef _ (RT.store s0 l0 _ _ _ _ _ _) (hS.stored e0 e1 l0 s0 (by decide) (by decide) _) ?_
       exact trivial
      ·as_aux_lemma =>
       intro vs L W hS hL cl hdl hdep K hK; have d0 := hdep ⟨13, .data⟩ (by simp) rfl; simp only [PhiVma] at d0; refine ⟨?_⟩; simp only [Act.put, sA, sB, sC, Nat.zero_add, Nat.reduceAdd, d0] at hK ⊢; go_simp; with_reducible refine hK _ _ (RT.refl _ _) (hS.step (Below.refl _ _) 16 _ (by decide) (fun e => absurd e (by decide))) ?_
       exact rfl
     ·intro vs L w4 hS hall hv; have v16 := hv 16 (by simp); have v8 := hv 12 (by simp); simp only [PhiVma] at v16 v8; obtain ⟨_, _, _, _, _, _, e8', ho⟩ := v8; obtain ⟨ga, A9a, k9a, c9a, B9a, m9a, d9a, e10, e8, hgN, hblk⟩ := hS.st (hall 15 (by simp)); rw [e8] at e8'; rw [← e8'] at ho; have HOa := Lib.hid ho; have hbx := hS.be; clear hv hS hall e8' ho; simp only [Act.put, sA, sB, sC, Nat.zero_add, Nat.reduceAdd, v16, e10, e8]; have hra := HOa.out; have F0 := hblk.cell 0; have F1 := hblk.cell 1; simp only [List.getElem?_toArray, List.getElem?_cons_zero, List.getElem?_cons_succ] at F0 F1
      replace c1 := cell_keep hbx c1
      replace c2 := cell_keep hbx c2
      have hbp4 := Below.tr hbp hbx; clear HOa hblk hgN hbx; go_upto_region 12 with fail; refine region_invW (PhiVmb gP i x y (ofE x y) (ofX x y) w4.heap.size) (RT w4.heap.size) (SD w4 12 14 15) (by kernel_rfl) (by kernel_rfl) (by kernel_rfl) PhiVmb.keep (SD.start _ _ _ _ _) (fun vs => by simp only [fillR, Act.put, sA, sB, sC, Nat.zero_add, Nat.reduceAdd]; rfl) ?_ ?_
      ·refine sK ?_ (sK ?_ (sK ?_ (sK ?_ (sK ?_ (sK ?_ (sK ?_ (sK ?_ (sK ?_ (sK ?_ (sK ?_ (sK ?_ (sK ?_ (sK ?_ (sK ?_ (sK ?_ (sK ?_ (sZ)))))))))))))))))
       ·as_aux_lemma =>
        intro vs L W hS hL cl hdl hdep K hK; refine ⟨?_⟩; simp only [Act.put, sA, sB, sC, Nat.zero_add, Nat.reduceAdd] at hK ⊢; go_simp; with_reducible refine hK _ _ (RT.refl _ _) (hS.step (Below.refl _ _) 0 _ (by decide) (fun e => absurd e (by decide))) ?_
        exact rfl
       ·as_aux_lemma =>
        intro vs L W hS hL cl hdl hdep K hK; refine ⟨?_⟩; simp only [Act.put, sA, sB, sC, Nat.zero_add, Nat.reduceAdd] at hK ⊢; go_simp; with_reducible refine hK _ _ (RT.refl _ _) (hS.step (Below.refl _ _) 1 _ (by decide) (fun e => absurd e (by decide))) ?_
        exact rfl
       ·as_aux_lemma =>
        intro vs L W hS hL cl hdl hdep K hK; have d0 := hdep ⟨0, .data⟩ (by simp) rfl; simp only [PhiVmb] at d0; have d1 := hdep ⟨1, .data⟩ (by simp) rfl; simp only [PhiVmb] at d1; refine ⟨?_⟩; simp only [Act.put, sA, sB, sC, Nat.zero_add, Nat.reduceAdd, d0, d1] at hK ⊢; go_simp; with_reducible refine hK _ _ (RT.refl _ _) (hS.step (Below.refl _ _) 2 _ (by decide) (fun e => absurd e (by decide))) ?_
        exact rfl
       ·as_aux_lemma =>
        intro vs L W hS hL cl hdl hdep K hK; have d0 := hdep ⟨2, .data⟩ (by simp) rfl; simp only [PhiVmb] at d0; refine ⟨?_⟩; simp only [Act.put, sA, sB, sC, Nat.zero_add, Nat.reduceAdd, d0] at hK ⊢; go_simp; with_reducible refine hK _ _ (RT.refl _ _) (hS.step (Below.refl _ _) 3 _ (by decide) (fun e => absurd e (by decide))) ?_
        exact rfl
       ·as_aux_lemma =>
        intro vs L W hS hL cl hdl hdep K hK; have d0 := hdep ⟨3, .data⟩ (by simp) rfl; simp only [PhiVmb] at d0; have f1 := cell_keep hS.be c1; refine ⟨?_⟩; simp only [Act.put, sA, sB, sC, Nat.zero_add, Nat.reduceAdd, d0] at hK ⊢; go_simp; with_reducible refine hK _ _ (RT.refl _ _) (hS.step (Below.refl _ _) 4 _ (by decide) (fun e => absurd e (by decide))) ?_
        exact rfl
       ·as_aux_lemma =>
        intro vs L W hS hL cl hdl hdep K hK; refine ⟨?_⟩; simp only [Act.put, sA, sB, sC, Nat.zero_add, Nat.reduceAdd] at hK ⊢; go_simp; with_reducible refine hK _ _ (RT.refl _ _) (hS.step (Below.refl _ _) 5 _ (by decide) (fun e => absurd e (by decide))) ?_
        exact rfl
       ·as_aux_lemma =>
        intro vs L W hS hL cl hdl hdep K hK; refine ⟨?_⟩; simp only [Act.put, sA, sB, sC, Nat.zero_add, Nat.reduceAdd] at hK ⊢; go_simp; with_reducible refine hK _ _ (RT.refl _ _) (hS.step (Below.refl _ _) 6 _ (by decide) (fun e => absurd e (by decide))) ?_
        exact rfl
       ·as_aux_lemma =>
        intro vs L W hS hL cl hdl hdep K hK; have d0 := hdep ⟨5, .data⟩ (by simp) rfl; simp only [PhiVmb] at d0; have d1 := hdep ⟨6, .data⟩ (by simp) rfl; simp only [PhiVmb] at d1; refine ⟨?_⟩; simp only [Act.put, sA, sB, sC, Nat.zero_add, Nat.reduceAdd, d0, d1] at hK ⊢; go_simp; with_reducible refine hK _ _ (RT.refl _ _) (hS.step (Below.refl _ _) 7 _ (by decide) (fun e => absurd e (by decide))) ?_
        exact rfl
       ·as_aux_lemma =>
        intro vs L W hS hL cl hdl hdep K hK; have d0 := hdep ⟨7, .data⟩ (by simp) rfl; simp only [PhiVmb] at d0; refine ⟨?_⟩; simp only [Act.put, sA, sB, sC, Nat.zero_add, Nat.reduceAdd, d0] at hK ⊢; go_simp; with_reducible refine hK _ _ (RT.refl _ _) (hS.step (Below.refl _ _) 8 _ (by decide) (fun e => absurd e (by decide))) ?_
        exact rfl
       ·as_aux_lemma =>
        intro vs L W hS hL cl hdl hdep K hK; have d0 := hdep ⟨8, .data⟩ (by simp) rfl; simp only [PhiVmb] at d0; have f1 := cell_keep hS.be c2; refine ⟨?_⟩; simp only [Act.put, sA, sB, sC, Nat.zero_add, Nat.reduceAdd, d0] at hK ⊢; go_simp; with_reducible refine hK _ _ (RT.refl _ _) (hS.step (Below.refl _ _) 9 _ (by decide) (fun e => absurd e (by decide))) ?_
        exact rfl
       ·as_aux_lemma =>
        intro vs L W hS hL cl hdl hdep K hK; have d0 := hdep ⟨4, .data⟩ (by simp) rfl; simp only [PhiVmb] at d0; have d1 := hdep ⟨9, .data⟩ (by simp) rfl; simp only [PhiVmb] at d1; refine ⟨?_⟩; simp only [Act.put, sA, sB, sC, Nat.zero_add, Nat.reduceAdd, d0, d1] at hK ⊢; go_simp; refine (rof_A x y _ hx hy).mono ?_; rintro e w' ⟨v, rfl, hn, hb⟩; go_wp2_with fail; with_reducible refine hK _ _ (RT.below hb hS.be.size) (hS.step hb 10 _ (by decide) (fun e => absurd e (by decide))) ?_
        exact ⟨v, rfl, hn⟩
       ·as_aux_lemma =>
        intro vs L W hS hL cl hdl hdep K hK; have d0 := hdep ⟨10, .data⟩ (by simp) rfl; simp only [PhiVmb] at d0; refine @exE1 _ _ _ d0 ?_; clear d0; intro v0 d0; have e0 := d0.1; have n0 := d0.2; clear d0; refine ⟨?_⟩; simp only [Act.put, sA, sB, sC, Nat.zero_add, Nat.reduceAdd, e0] at hK ⊢; go_simp; with_reducible refine hK _ _ (RT.refl _ _) (hS.step (Below.refl _ _) 11 _ (by decide) (fun e => absurd e (by decide))) ?_
        exact ⟨_, rfl, n0⟩
       ·as_aux_lemma =>
        intro vs L W hS hL cl hdl hdep K hK; have d0 := hdep ⟨11, .data⟩ (by simp) rfl; simp only [PhiVmb] at d0; refine @exE1 _ _ _ d0 ?_; clear d0; intro v0 d0; have e0 := d0.1; have n0 := d0.2; clear d0
        have h15 : L 15 = false := by
         cases h : L 15 with
         | false => rfl
         | true => exact absurd (cl 15 _ rfl h ⟨12, .data⟩ (by simp) rfl) (by rw [hL]; decide)
        obtain ⟨A, k, c, A', k', c', rfl⟩ := n0.shape; refine ⟨?_⟩; simp only [Act.put, sA, sB, sC, Nat.zero_add, Nat.reduceAdd, e0] at hK ⊢; go_simp; with_reducible refine hK _ _ (RT.refl _ _) (hS.step (Below.refl _ _) 12 _ (by decide) (fun _ => h15)) ?_
        exact ⟨_, _, _, _, _, _, rfl, n0⟩
       ·as_aux_lemma =>
        intro vs L W hS hL cl hdl hdep K hK; have d0 := hdep ⟨11, .data⟩ (by simp) rfl; simp only [PhiVmb] at d0; refine @exE1 _ _ _ d0 ?_; clear d0; intro v0 d0; have e0 := d0.1; have n0 := d0.2; clear d0; refine ⟨?_⟩; simp only [Act.put, sA, sB, sC, Nat.zero_add, Nat.reduceAdd, e0] at hK ⊢; go_simp; with_reducible refine hK _ _ (RT.refl _ _) (hS.step (Below.refl _ _) 13 _ (by decide) (fun e => absurd e (by decide))) ?_
        exact rfl
       ·as_aux_lemma =>
        intro vs L W hS hL cl hdl hdep K hK
        have h15 : L 15 = false := by
         cases h : L 15 with
         | false => rfl
         | true => exact absurd (cl 15 _ rfl h ⟨14, .data⟩ (by simp) rfl) (by rw [hL]; decide)
        refine ⟨?_⟩; simp only [Act.put, sA, sB, sC, Nat.zero_add, Nat.reduceAdd] at hK ⊢; go_simp; with_reducible refine hK _ _ (RT.below (bA _ _) hS.be.size) (hS.step (bA _ _) 14 _ (by decide) (fun _ => h15)) ?_
        exact ⟨_, rfl, hS.be.size, none, 0, 0, none, 0, 0, Blk.new _ _ _⟩
       ·as_aux_lemma =>
        intro vs L W hS hL cl hdl hdep K hK; have d0 := hdep ⟨14, .data⟩ (by simp) rfl; simp only [PhiVmb] at d0; refine @exE1 _ _ _ d0 ?_; clear d0; intro g0 d0; have e0 := d0.1; have l0 := d0.2.1; have s0 := d0.2.2; clear d0; have d1 := hdep ⟨12, .data⟩ (by simp) rfl; simp only [PhiVmb] at d1; refine @exE6 _ _ _ _ _ _ _ _ d1 ?_; clear d1; intro A1 k1 c1 B1 m1 d1 d1; have e1 := d1.1; have n1 := d1.2; clear d1; obtain ⟨⟨a1, q1⟩, ⟨a2, q2⟩, q3, q4⟩ := s0.facts; refine ⟨?_⟩; simp only [Act.put, sA, sB, sC, Nat.zero_add, Nat.reduceAdd, e0, e1] at hK ⊢; go_simp; with_reducible refine hK undef _ (RT.store s0 l0 _ _ _ _ _ _) (hS.stored e0 e1 l0 s0 (by decide) (by decide) _) ?_
        exact trivial
       ·as_aux_lemma =>
        intro vs L W hS hL cl hdl hdep K hK; have d0 := hdep ⟨13, .data⟩ (by simp) rfl; simp only [PhiVmb] at d0; refine ⟨?_⟩; simp only [Act.put, sA, sB, sC, Nat.zero_add, Nat.reduceAdd, d0] at hK ⊢; go_simp; with_reducible refine hK _ _ (RT.refl _ _) (hS.step (Below.refl _ _) 16 _ (by decide) (fun e => absurd e (by decide))) ?_
        exact rfl
      ·intro vs L w5 hS hall hv; have v16 := hv 16 (by simp); have v8 := hv 12 (by simp); simp only [PhiVmb] at v16 v8; obtain ⟨_, _, _, _, _, _, e8', ho⟩ := v8; obtain ⟨gb, A9b, k9b, c9b, B9b, m9b, d9b, e10, e8, hgN, hblk⟩ := hS.st (hall 15 (by simp)); rw [e8] at e8'; rw [← e8'] at ho; have HOb := Lib.hid ho; have hbx := hS.be; clear hv hS hall e8' ho; simp only [Act.put, sA, sB, sC, Nat.zero_add, Nat.reduceAdd, v16, e10, e8]; have hrb := HOb.out; have G0 := hblk.cell 0; have G1 := hblk.cell 1; simp only [List.getElem?_toArray, List.getElem?_cons_zero, List.getElem?_cons_succ] at G0 G1
       replace F0 := cell_keep hbx F0
       replace F1 := cell_keep hbx F1
       have hra := hra.below hbx; have hbp5 := Below.tr hbp4 hbx; clear HOb hblk hgN hbx c1 c2; obtain ⟨E, hE⟩ : ∃ E, E = ofE x y := ⟨_, rfl⟩; rw [← hE]; clear hE; have tE : (E != E) = false := by simp
       go_wp2_with fail; refine (rsame_P _ _ _ _ hra hrb).mono ?_; rintro e w9 ⟨rfl, hb9⟩; have hbp9 := Below.tr hbp5 hb9; clear hra hrb F0 F1 G0 G1 hb9; go_wp2_with fail
       go_roundg (G2 - 1)
       case measure => omega
       case rel => exact ⟨i + 1, by go_num, by omega, hbp9⟩
    ·have t1 : decide ((i : Int) < 4) = false := by simp; omega
     have hbw := Below.tr hbw hbp; go_wp2_with fail; refine (lives5_n _).mono ?_; rintro e w' ⟨rfl, hb⟩; go_wp2_with fail; go_ret; exact ⟨rfl, Below.tr hbw hb⟩
end Go.Proofs.YtnjjdiilkhdbeaaDoor
