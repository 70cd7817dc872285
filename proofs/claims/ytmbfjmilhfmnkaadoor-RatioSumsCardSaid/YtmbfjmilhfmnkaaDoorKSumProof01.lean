import Derived.Test.YtmbfjmilhfmnkaaDoorKCntProof33
import Derived.Test.YtmbfjmilhfmnkaaDoorKCntProof29
import Derived.Test.YtmbfjmilhfmnkaaDoorKCntProof19
import Derived.Test.YtmbfjmilhfmnkaaDoorKCntProof21
import Derived.Test.YtmbfjmilhfmnkaaDoorKCntProof32
import Derived.Test.YtmbfjmilhfmnkaaDoorKFldProof02
import Derived.Test.YtmbfjmilhfmnkaaDoorKCntProof18
import Derived.Test.YtmbfjmilhfmnkaaDoorS0
set_option linter.unusedVariables false
set_option linter.unusedSimpArgs false
namespace Go.Proofs.YtmbfjmilhfmnkaaDoor
open Go Go.RowKit
def PhiRsu (S : Value) (b off i : Nat) (y1 y2 z1 z2 : Value) (E : Int) (X : LP) (B : Nat) (j : Nat) (w : World) (x : Value) : Prop :=
 match j with
 | 0 => x = .agg #[y1, y2]
 | 1 => x = S
 | 2 => x = .int .i64 (i : Nat)
 | 3 => x = .pointer (some ⟨b, off + i * 2, none⟩)
 | 4 => x = .agg #[z1, z2]
 | 5 => ∃ v, x = .tuple #[v, .int .i64 E] ∧ RtP w v X
 | 6 => ∃ v, x = .tuple #[v, .int .i64 E] ∧ RtP w v X
 | 7 => ∃ A k c A' k' c', x = .agg #[.slice A k c, .slice A' k' c'] ∧ RtP w (.agg #[.slice A k c, .slice A' k' c']) X
 | 8 => x = .int .i64 E
 | 9 => ∃ g, x = .pointer (some ⟨g, 0, none⟩) ∧ B ≤ g ∧ Sl w g
 | 10 => True
 | 11 => x = .int .i64 E
 | _ => True

theorem PhiRsu.keep {S : Value} {b off i : Nat} {y1 y2 z1 z2 : Value} {E : Int} {X : LP} {B : Nat} : ∀ (w w' : World), RT B w w' → ∀ j x, PhiRsu S b off i y1 y2 z1 z2 E X B j w x → PhiRsu S b off i y1 y2 z1 z2 E X B j w' x := by
 intro w w' hr j x h; unfold PhiRsu at h ⊢
 split <;> simp only at h ⊢
 all_goals first
  | exact h
  | (obtain ⟨v, e, h⟩ := h; exact ⟨v, e, h.mapL hr.lim⟩)
  | (obtain ⟨A, k, c, A', k', c', e, h⟩ := h; exact ⟨A, k, c, A', k', c', e, h.mapL hr.lim⟩)
  | (obtain ⟨g, e, h1, h2⟩ := h; exact ⟨g, e, h1, hr.sl g h2⟩)
  | exact h.mapL hr.lim

set_option maxRecDepth 100000 in
set_option maxHeartbeats 4000000 in
theorem rsum_F (A : Option Addr) (k c : Nat) (X : List LP) (w : World) (h : RatRow w A k X) :
  Calls Tryd.prog 19 #[.slice A k c] w fun e w' => ∃ v, e = .returned (.tuple #[v, .int .i64 (sumF nilP X).1]) ∧ RtP w' v (sumF nilP X).2 ∧ Below w.heap.size w w' := by
 have hk := h.le; have HKL := Lib.hid h.len; obtain ⟨E, HE⟩ : ∃ E, Hid (E = (sumF nilP X).1) := ⟨_, rfl⟩; obtain ⟨Y, HY⟩ : ∃ Y, Hid (Y = (sumF nilP X).2) := ⟨_, rfl⟩; rw [← HE.out, ← HY.out]
 go_enter Tryd.func19, Tryd.ntmps19
 go_upto_region 2 with fail; refine wp_name ?_; intro w1 HW1; have hb1 : Below w.heap.size w w1 := by rw [HW1.out]; exact Below.tr (bA _ _) (bA _ _)
 have hB1 : Blk w1 w.heap.size 28 #[.slice none 0 0, .slice none 0 0] := by rw [HW1.out]; exact Blk.below (Blk.newG rfl) (bA _ _) (Blk.newG rfl).lt
 have hB2 : Blk w1 (w.heap.size + 1) 28 #[.slice none 0 0, .slice none 0 0] := by rw [HW1.out]; exact Blk.newG (by simp)
 obtain ⟨gR, hgR⟩ : ∃ g, Hid (g = w.heap.size) := ⟨_, rfl⟩; obtain ⟨gA, hgA⟩ : ∃ g, Hid (g = w.heap.size + 1) := ⟨_, rfl⟩; have hgr : w.heap.size ≤ gR := by have := hgR.out; omega
 have hga : w.heap.size ≤ gA := by have := hgA.out; omega
 rw [← hgA.out] at hB2 ⊢; rw [← hgR.out] at hB1 ⊢; have hg0 : GoodX w1 gA nilP := ⟨_, _, _, _, _, _, hB2, nil_rtP w1⟩; have hs0 : Sl w1 gR := ⟨_, _, _, _, _, _, hB1⟩; clear HW1 hB1 hB2 hgR hgA; go_wp2_with fail
 go_loopg [5] k (fun j x wr => ∃ (i : Nat) (a : LP), x = .int .i64 i ∧ i + j = k ∧ Hid (sumF nilP X = sumF a (X.drop i)) ∧ GoodX wr gA a ∧ Sl wr gR ∧ Below w.heap.size w wr)
 case atStart => exact ⟨0, nilP, rfl, by omega, rfl, hg0, hs0, hb1⟩
 case round =>
  clear hg0 hs0 hb1; obtain ⟨i, a, rfl, hij, HS, hgx, hsr, hbe⟩ := hrel; by_cases hi : i < k
  ·obtain ⟨bQ9, oA, v1, v2, x, rfl, r1, r2, HX0, hx⟩ := (h.below hbe).at_ hi; have hik : (i : Int) < (k : Int) := by omega
   have t1 : decide ((i : Int) < (k : Int)) = true := by simp; omega
   have HST := HS.out; rw [sumF_drop HX0.out] at HST; have HST := Lib.hid HST; obtain ⟨C1, n1, f1, C2, n2, f2, hblkA, ha⟩ := hgx; have q0 := hblkA.cell 0; have q1 := hblkA.cell 1; simp only [List.getElem?_toArray, List.getElem?_cons_zero, List.getElem?_cons_succ] at q0 q1; clear HS; go_upto_region 5 with fail; have t1n : decide (i < k) = true := decide_eq_true hi
   try simp only [t1n]
   clear t1 t1n; refine region_invW (PhiRsu (.slice (some ⟨bQ9, oA, none⟩) k c) bQ9 oA i (.slice C1 n1 f1) (.slice C2 n2 f2) v1 v2 (addF a x).1 (addF a x).2 wr.heap.size) (RT wr.heap.size) (SD wr 7 9 10) (by kernel_rfl) (by kernel_rfl) (by kernel_rfl) PhiRsu.keep (SD.start _ _ _ _ _) (fun vs => by simp only [fillR, Act.put, sA, sB, sC, Nat.zero_add, Nat.reduceAdd]; rfl) ?_ ?_
   ·refine sK ?_ (sK ?_ (sK ?_ (sK ?_ (sK ?_ (sK ?_ (sK ?_ (sK ?_ (sK ?_ (sK ?_ (sK ?_ (sK ?_ (sZ))))))))))))
    ·as_aux_lemma =>
     intro vs L W hS hL cl hdl hdep K hK; have f1 := cell_keep hS.be q0; have f2 := cell_keep hS.be q1; refine ⟨?_⟩; simp only [Act.put, sA, sB, sC, Nat.zero_add, Nat.reduceAdd] at hK ⊢; go_simp; with_reducible refine hK _ _ (RT.refl _ _) (hS.step (Below.refl _ _) 0 _ (by decide) (fun e => absurd e (by decide))) ?_
     exact rfl
    ·as_aux_lemma =>
     intro vs L W hS hL cl hdl hdep K hK; refine ⟨?_⟩; simp only [Act.put, sA, sB, sC, Nat.zero_add, Nat.reduceAdd] at hK ⊢; go_simp; with_reducible refine hK _ _ (RT.refl _ _) (hS.step (Below.refl _ _) 1 _ (by decide) (fun e => absurd e (by decide))) ?_
     exact rfl
    ·as_aux_lemma =>
     intro vs L W hS hL cl hdl hdep K hK; refine ⟨?_⟩; simp only [Act.put, sA, sB, sC, Nat.zero_add, Nat.reduceAdd] at hK ⊢; go_simp; with_reducible refine hK _ _ (RT.refl _ _) (hS.step (Below.refl _ _) 2 _ (by decide) (fun e => absurd e (by decide))) ?_
     exact rfl
    ·as_aux_lemma =>
     intro vs L W hS hL cl hdl hdep K hK; have d0 := hdep ⟨1, .data⟩ (by simp) rfl; simp only [PhiRsu] at d0; have d1 := hdep ⟨2, .data⟩ (by simp) rfl; simp only [PhiRsu] at d1; refine ⟨?_⟩; simp only [Act.put, sA, sB, sC, Nat.zero_add, Nat.reduceAdd, d0, d1] at hK ⊢; go_simp; with_reducible refine hK _ _ (RT.refl _ _) (hS.step (Below.refl _ _) 3 _ (by decide) (fun e => absurd e (by decide))) ?_
     exact rfl
    ·as_aux_lemma =>
     intro vs L W hS hL cl hdl hdep K hK; have d0 := hdep ⟨3, .data⟩ (by simp) rfl; simp only [PhiRsu] at d0; have f1 := cell_keep hS.be r1; have f2 := cell_keep hS.be r2; refine ⟨?_⟩; simp only [Act.put, sA, sB, sC, Nat.zero_add, Nat.reduceAdd, d0] at hK ⊢; go_simp; with_reducible refine hK _ _ (RT.refl _ _) (hS.step (Below.refl _ _) 4 _ (by decide) (fun e => absurd e (by decide))) ?_
     exact rfl
    ·as_aux_lemma =>
     intro vs L W hS hL cl hdl hdep K hK; have d0 := hdep ⟨0, .data⟩ (by simp) rfl; simp only [PhiRsu] at d0; have d1 := hdep ⟨4, .data⟩ (by simp) rfl; simp only [PhiRsu] at d1; refine ⟨?_⟩; simp only [Act.put, sA, sB, sC, Nat.zero_add, Nat.reduceAdd, d0, d1] at hK ⊢; go_simp; refine (radd_F _ _ a x _ (ha.below hS.be) (hx.below hS.be)).mono ?_; rintro e w' ⟨v, rfl, hn, hb⟩; go_wp2_with fail; with_reducible refine hK _ _ (RT.below hb hS.be.size) (hS.step hb 5 _ (by decide) (fun e => absurd e (by decide))) ?_
     exact ⟨v, rfl, hn⟩
    ·as_aux_lemma =>
     intro vs L W hS hL cl hdl hdep K hK; have d0 := hdep ⟨5, .data⟩ (by simp) rfl; simp only [PhiRsu] at d0; refine @exE1 _ _ _ d0 ?_; clear d0; intro v0 d0; have e0 := d0.1; have n0 := d0.2; clear d0; refine ⟨?_⟩; simp only [Act.put, sA, sB, sC, Nat.zero_add, Nat.reduceAdd, e0] at hK ⊢; go_simp; with_reducible refine hK _ _ (RT.refl _ _) (hS.step (Below.refl _ _) 6 _ (by decide) (fun e => absurd e (by decide))) ?_
     exact ⟨_, rfl, n0⟩
    ·as_aux_lemma =>
     intro vs L W hS hL cl hdl hdep K hK; have d0 := hdep ⟨6, .data⟩ (by simp) rfl; simp only [PhiRsu] at d0; refine @exE1 _ _ _ d0 ?_; clear d0; intro v0 d0; have e0 := d0.1; have n0 := d0.2; clear d0
     have h10 : L 10 = false := by
      cases h : L 10 with
      | false => rfl
      | true => exact absurd (cl 10 _ rfl h ⟨7, .data⟩ (by simp) rfl) (by rw [hL]; decide)
     obtain ⟨A, k, c, A', k', c', rfl⟩ := n0.shape; refine ⟨?_⟩; simp only [Act.put, sA, sB, sC, Nat.zero_add, Nat.reduceAdd, e0] at hK ⊢; go_simp; with_reducible refine hK _ _ (RT.refl _ _) (hS.step (Below.refl _ _) 7 _ (by decide) (fun _ => h10)) ?_
     exact ⟨_, _, _, _, _, _, rfl, n0⟩
    ·as_aux_lemma =>
     intro vs L W hS hL cl hdl hdep K hK; have d0 := hdep ⟨6, .data⟩ (by simp) rfl; simp only [PhiRsu] at d0; refine @exE1 _ _ _ d0 ?_; clear d0; intro v0 d0; have e0 := d0.1; have n0 := d0.2; clear d0; refine ⟨?_⟩; simp only [Act.put, sA, sB, sC, Nat.zero_add, Nat.reduceAdd, e0] at hK ⊢; go_simp; with_reducible refine hK _ _ (RT.refl _ _) (hS.step (Below.refl _ _) 8 _ (by decide) (fun e => absurd e (by decide))) ?_
     exact rfl
    ·as_aux_lemma =>
     intro vs L W hS hL cl hdl hdep K hK
     have h10 : L 10 = false := by
      cases h : L 10 with
      | false => rfl
      | true => exact absurd (cl 10 _ rfl h ⟨9, .data⟩ (by simp) rfl) (by rw [hL]; decide)
     refine ⟨?_⟩; simp only [Act.put, sA, sB, sC, Nat.zero_add, Nat.reduceAdd] at hK ⊢; go_simp; with_reducible refine hK _ _ (RT.below (bA _ _) hS.be.size) (hS.step (bA _ _) 9 _ (by decide) (fun _ => h10)) ?_
     exact ⟨_, rfl, hS.be.size, none, 0, 0, none, 0, 0, Blk.new _ _ _⟩
    ·as_aux_lemma =>
     intro vs L W hS hL cl hdl hdep K hK; have d0 := hdep ⟨9, .data⟩ (by simp) rfl; simp only [PhiRsu] at d0; refine @exE1 _ _ _ d0 ?_; clear d0; intro g0 d0; have e0 := d0.1; have l0 := d0.2.1; have s0 := d0.2.2; clear d0; have d1 := hdep ⟨7, .data⟩ (by simp) rfl; simp only [PhiRsu] at d1; refine @exE6 _ _ _ _ _ _ _ _ d1 ?_; clear d1; intro A1 k1 c1 B1 m1 d1 d1; have e1 := d1.1; have n1 := d1.2; clear d1; obtain ⟨⟨a1, q1⟩, ⟨a2, q2⟩, q3, q4⟩ := s0.facts; refine ⟨?_⟩; simp only [Act.put, sA, sB, sC, Nat.zero_add, Nat.reduceAdd, e0, e1] at hK ⊢; go_simp; with_reducible refine hK undef _ (RT.store s0 l0 _ _ _ _ _ _) (hS.stored e0 e1 l0 s0 (by decide) (by decide) _) ?_
     exact trivial
    ·as_aux_lemma =>
     intro vs L W hS hL cl hdl hdep K hK; have d0 := hdep ⟨8, .data⟩ (by simp) rfl; simp only [PhiRsu] at d0; refine ⟨?_⟩; simp only [Act.put, sA, sB, sC, Nat.zero_add, Nat.reduceAdd, d0] at hK ⊢; go_simp; with_reducible refine hK _ _ (RT.refl _ _) (hS.step (Below.refl _ _) 11 _ (by decide) (fun e => absurd e (by decide))) ?_
     exact rfl
   ·intro vs L w5 hS hall hv; have v11 := hv 11 (by simp); have v8 := hv 7 (by simp); simp only [PhiRsu] at v11 v8; obtain ⟨_, _, _, _, _, _, e8', ho⟩ := v8; obtain ⟨g, A9, k9, c9, B9, m9, d9, e10, e8, hgN, hblk⟩ := hS.st (hall 10 (by simp)); rw [e8] at e8'; rw [← e8'] at ho; have HO := Lib.hid ho; have hbx := hS.be; clear hv hS hall e8' ho; simp only [Act.put, sA, sB, sC, Nat.zero_add, Nat.reduceAdd, v11, e10, e8]; have hv5 := HO.out; have t0 := hblk.cell 0; have t1 := hblk.cell 1; simp only [List.getElem?_toArray, List.getElem?_cons_zero, List.getElem?_cons_succ] at t0 t1; have hbw5 := Below.tr hbe hbx; have hs5 := hsr.below hbx; have hA5 := hblkA.below hbx hblkA.lt; clear HO hblk hgN hbx ha hx hblkA q0 q1 r1 r2 hsr hbe; by_cases he0 : (addF a x).1 = 0
    ·have HS2 : Hid (sumF nilP X = sumF (addF a x).2 (X.drop (i + 1))) := by show _ = _; rw [HST.out, if_pos he0]
     rw [he0]; have y0 := hA5.cell 0; have y1 := hA5.cell 1; have y2 := hA5.frozen 0; have y3 := hA5.frozen 1; simp only [List.getElem?_toArray, List.getElem?_cons_zero, List.getElem?_cons_succ] at y0 y1; have hslA : Sl w5 gA := ⟨_, _, _, _, _, _, hA5⟩; have hrx := RX.store (B := w.heap.size) hslA hga hv5; have hgx6 := hrx.2; have hs6 := (RT.store (N := w.heap.size) hslA hga A9 k9 c9 B9 m9 d9).sl gR hs5; have hbe6 := hbw5.trans hrx.1.be; clear he0 hA5 hslA hrx HST; go_wp2_with fail
     go_roundg (gk - 1)
     case measure => omega
     case rel => exact ⟨i + 1, _, by go_num, by omega, HS2, hgx6, hs6, hbe6⟩
    ·have t9 : ((addF a x).1 != 0) = true := by simpa using he0
     have HF : Hid (E = (addF a x).1) := by show _ = _; rw [HE.out, HST.out, if_neg he0]
     have HX : Hid (Y = nilP) := by show _ = _; rw [HY.out, HST.out, if_neg he0]
     obtain ⟨A, k', c, A', k'', c'', he, ⟨a1, u1⟩, ⟨a2, u2⟩, u3, u4, z1, z2, hr, hbz⟩ := ret_ratio (w0 := w) (nil_rtP w5) hs5 hgr hbw5; simp only [nilRat, Value.agg.injEq, Array.mk.injEq, List.cons.injEq, and_true, Value.slice.injEq] at he; obtain ⟨⟨rfl, rfl, rfl⟩, rfl, rfl, rfl⟩ := he; clear hv5 hA5 t0 t1 he0; go_wp2_with fail; exact bodyPost_ret (v := .tuple #[.agg #[.slice none 0 0, .slice none 0 0], .int .i64 _]) (by simp [results, Tryd.results19, go_sem, z1, z2]; rfl) rfl ⟨_, by rw [HF.out], by rw [HX.out]; exact hr, hbz⟩
  ·have HST := HS.out; rw [List.drop_eq_nil_of_le (by have := HKL.out; omega)] at HST; have hik : ¬ (i : Int) < (k : Int) := by omega
   have t1 : decide ((i : Int) < (k : Int)) = false := by simp; omega
   have HF : Hid (E = 0) := by show _ = _; rw [HE.out, HST]; rfl
   have HX : Hid (Y = a) := by show _ = _; rw [HY.out, HST]; rfl
   obtain ⟨C1, n1, f1, C2, n2, f2, hblk, ha⟩ := hgx; have q0 := hblk.cell 0; have q1 := hblk.cell 1; simp only [List.getElem?_toArray, List.getElem?_cons_zero, List.getElem?_cons_succ] at q0 q1; obtain ⟨A, k', c, A', k'', c'', he, ⟨a1, u1⟩, ⟨a2, u2⟩, u3, u4, z1, z2, hr, hbz⟩ := ret_ratio (w0 := w) ha hsr hgr hbe; simp only [nilRat, Value.agg.injEq, Array.mk.injEq, List.cons.injEq, and_true, Value.slice.injEq] at he; obtain ⟨⟨rfl, rfl, rfl⟩, rfl, rfl, rfl⟩ := he; clear HST hblk; go_wp2_with fail; exact bodyPost_ret (v := .tuple #[.agg #[.slice C1 n1 f1, .slice C2 n2 f2], .int .i64 _]) (by simp [results, Tryd.results19, go_sem, z1, z2]; rfl) rfl ⟨_, by rw [HF.out], by rw [HX.out]; exact hr, hbz⟩
end Go.Proofs.YtmbfjmilhfmnkaaDoor
namespace Go.Proofs.YtmbfjmilhfmnkaaDoor
open Go Go.RowKit
open Classical in
noncomputable def powF (x : LP) (n : Int) : Int × LP := if validP x ≠ 0 then (validP x, nilP) else if n < 0 ∨ 65536 < n then (5, nilP) else if ∀ j, j ≤ n.toNat → Nm.Fits ((numL x).1 ^ j) ((numL x).2 ^ j) then (0, ratP ((numL x).1 ^ n.toNat) ((numL x).2 ^ n.toNat)) else (4, nilP)
theorem powF_bad {x : LP} {n : Int} (h : validP x ≠ 0) : powF x n = (validP x, nilP) := if_pos h
theorem powF_rng {x : LP} {n : Int} (h : validP x = 0) (hn : n < 0 ∨ 65536 < n) : powF x n = (5, nilP) := (if_neg (by simp [h])).trans (if_pos hn)
open Classical in
theorem powF_ok {p q n : Nat} {w : World} {v : Value} {er : Int} (g : Nm.Good p q) (hn : n ≤ 65536) (h : PowP p q n w v er) : er = (powF (ratP p q) n).1 ∧ RtP w v (powF (ratP p q) n).2 := by
 have e : powF (ratP p q) n = if ∀ j, j ≤ n → Nm.Fits (p ^ j) (q ^ j) then (0, ratP (p ^ n) (q ^ n)) else (4, nilP) := by
  unfold powF; rw [if_neg (by rw [valid_rat g]; simp), if_neg (by omega), numL_rat g]; rfl
 rw [e]
 rcases h with ⟨h1, h2, h3⟩ | ⟨h1, h2, j, h3, h4⟩
 ·rw [if_pos h3]; exact ⟨h1, h2.rtP⟩
 ·rw [if_neg (fun h => h4 (h j h3))]; exact ⟨h1, by rw [h2]; exact nil_rtP w⟩
/-- one slice stored to a block of two -/
theorem Kp.store1 {B g i : Nat} {w : World} {A : Option Addr} {k c : Nat} (hs : Sl w g) (hB : B ≤ g) : Kp B g w (w.setCell ⟨g, i, none⟩ (.slice A k c)) := by
 refine ⟨(Below.refl B w).setCell (p := ⟨g, i, none⟩) hB _, fun _ _ _ h => h.setSl hs _, fun b j v hne hc => ?_⟩; rw [World.cell?_of_block (Below.heap_setCell _ ⟨g, i, none⟩ _ b hne)]; exact hc
set_option maxRecDepth 10000 in
set_option maxHeartbeats 1000000 in
theorem power_bad (va : Value) (x : LP) (n : Int) (w : World) (hx : RtP w va x) (h : validP x ≠ 0) :
  Calls Tryd.prog 20 #[va, .int .i64 n] w fun e w' => e = .returned (.tuple #[nilRat, .int .i64 (validP x)]) ∧ Below w.heap.size w w' := by
 obtain ⟨A1, k1, c1, A2, k2, c2, rfl⟩ := hx.shape
 go_enter Tryd.func20, Tryd.ntmps20
 go_upto_region 1 with fail; refine wp_name ?_; intro w1 HW; have hbw : Below w.heap.size w w1 := by rw [HW.out]; exact Below.tr (bA _ _) (bA _ _)
 have hP1 : Blk w1 w.heap.size 28 #[.slice A1 k1 c1, .slice A2 k2 c2] := by rw [HW.out]; exact Blk.below (Blk.newG rfl) (bA _ _) (Blk.newG rfl).lt
 have hres : Res w1 (w.heap.size + 1) := by rw [HW.out]; exact Blk.newG (by simp)
 obtain ⟨g1, hg1⟩ : ∃ g, Hid (g = w.heap.size) := ⟨_, rfl⟩; obtain ⟨g, hg⟩ : ∃ g, Hid (g = w.heap.size + 1) := ⟨_, rfl⟩; have hge : w.heap.size ≤ g := by rw [hg.out]; omega
 rw [← hg.out] at hres ⊢; rw [← hg1.out] at hP1 ⊢; have hx1 := hx.below hbw; have pa0 := hP1.cell 0; have pa1 := hP1.cell 1; simp only [List.getElem?_toArray, List.getElem?_cons_zero, List.getElem?_cons_succ] at pa0 pa1; clear HW hg1 hg hP1 hx; go_wp2_with fail; refine (valid_P _ x _ hx1).mono ?_; rintro e w2 ⟨rfl, hbe⟩
 replace hres := hres.below hbe
 replace hbw := Below.tr hbw hbe
 obtain ⟨r1, r2, r3, r4⟩ := hres.facts; obtain ⟨s1, s2⟩ := hres.set2 (.slice none 0 0) (.slice none 0 0); clear hbe hx1; obtain ⟨E, hE⟩ : ∃ E, E = validP x := ⟨_, rfl⟩; rw [← hE] at h ⊢; have h0 : (E != 0) = true := by simpa using h
 have HE := Lib.hid hE; clear h hE; go_wp2_with fail; exact bodyPost_ret (v := .tuple #[nilRat, .int .i64 E]) (by simp [results, Tryd.results20, go_sem, s1, s2, nilRat]) rfl ⟨by rw [HE.out], below_set2 hbw hge _ _⟩
set_option maxRecDepth 10000 in
set_option maxHeartbeats 1000000 in
theorem power_neg (va : Value) (x : LP) (n : Int) (w : World) (hx : RtP w va x) (hv : validP x = 0) (h : n < 0) :
  Calls Tryd.prog 20 #[va, .int .i64 n] w fun e w' => e = .returned (.tuple #[nilRat, .int .i64 5]) ∧ Below w.heap.size w w' := by
 obtain ⟨A1, k1, c1, A2, k2, c2, rfl⟩ := hx.shape
 go_enter Tryd.func20, Tryd.ntmps20
 go_upto_region 1 with fail; refine wp_name ?_; intro w1 HW; have hbw : Below w.heap.size w w1 := by rw [HW.out]; exact Below.tr (bA _ _) (bA _ _)
 have hP1 : Blk w1 w.heap.size 28 #[.slice A1 k1 c1, .slice A2 k2 c2] := by rw [HW.out]; exact Blk.below (Blk.newG rfl) (bA _ _) (Blk.newG rfl).lt
 have hres : Res w1 (w.heap.size + 1) := by rw [HW.out]; exact Blk.newG (by simp)
 obtain ⟨g1, hg1⟩ : ∃ g, Hid (g = w.heap.size) := ⟨_, rfl⟩; obtain ⟨g, hg⟩ : ∃ g, Hid (g = w.heap.size + 1) := ⟨_, rfl⟩; have hge : w.heap.size ≤ g := by rw [hg.out]; omega
 rw [← hg.out] at hres ⊢; rw [← hg1.out] at hP1 ⊢; have hx1 := hx.below hbw; have pa0 := hP1.cell 0; have pa1 := hP1.cell 1; simp only [List.getElem?_toArray, List.getElem?_cons_zero, List.getElem?_cons_succ] at pa0 pa1; clear HW hg1 hg hP1 hx; go_wp2_with fail; refine (valid_P _ x _ hx1).mono ?_; rintro e w2 ⟨rfl, hbe⟩
 replace hres := hres.below hbe
 replace hbw := Below.tr hbw hbe
 obtain ⟨r1, r2, r3, r4⟩ := hres.facts; obtain ⟨s1, s2⟩ := hres.set2 (.slice none 0 0) (.slice none 0 0); clear hbe hx1; rw [hv]; have d0 : decide (n < 0) = true := decide_eq_true h; clear h; go_wp2_with fail; exact bodyPost_ret (v := .tuple #[nilRat, .int .i64 5]) (by simp [results, Tryd.results20, go_sem, s1, s2, nilRat]) rfl ⟨rfl, below_set2 hbw hge _ _⟩
set_option maxRecDepth 10000 in
set_option maxHeartbeats 1000000 in
theorem power_big (va : Value) (x : LP) (n : Int) (w : World) (hx : RtP w va x) (hv : validP x = 0) (h : 65536 < n) :
  Calls Tryd.prog 20 #[va, .int .i64 n] w fun e w' => e = .returned (.tuple #[nilRat, .int .i64 5]) ∧ Below w.heap.size w w' := by
 obtain ⟨A1, k1, c1, A2, k2, c2, rfl⟩ := hx.shape
 go_enter Tryd.func20, Tryd.ntmps20
 go_upto_region 1 with fail; refine wp_name ?_; intro w1 HW; have hbw : Below w.heap.size w w1 := by rw [HW.out]; exact Below.tr (bA _ _) (bA _ _)
 have hP1 : Blk w1 w.heap.size 28 #[.slice A1 k1 c1, .slice A2 k2 c2] := by rw [HW.out]; exact Blk.below (Blk.newG rfl) (bA _ _) (Blk.newG rfl).lt
 have hres : Res w1 (w.heap.size + 1) := by rw [HW.out]; exact Blk.newG (by simp)
 obtain ⟨g1, hg1⟩ : ∃ g, Hid (g = w.heap.size) := ⟨_, rfl⟩; obtain ⟨g, hg⟩ : ∃ g, Hid (g = w.heap.size + 1) := ⟨_, rfl⟩; have hge : w.heap.size ≤ g := by rw [hg.out]; omega
 rw [← hg.out] at hres ⊢; rw [← hg1.out] at hP1 ⊢; have hx1 := hx.below hbw; have pa0 := hP1.cell 0; have pa1 := hP1.cell 1; simp only [List.getElem?_toArray, List.getElem?_cons_zero, List.getElem?_cons_succ] at pa0 pa1; clear HW hg1 hg hP1 hx; go_wp2_with fail; refine (valid_P _ x _ hx1).mono ?_; rintro e w2 ⟨rfl, hbe⟩
 replace hres := hres.below hbe
 replace hbw := Below.tr hbw hbe
 obtain ⟨r1, r2, r3, r4⟩ := hres.facts; obtain ⟨s1, s2⟩ := hres.set2 (.slice none 0 0) (.slice none 0 0); clear hbe hx1; rw [hv]; have d0 : decide (n < 0) = false := decide_eq_false (by omega); have d1 : decide (65536 < n) = true := decide_eq_true h; clear h; go_wp2_with fail; exact bodyPost_ret (v := .tuple #[nilRat, .int .i64 5]) (by simp [results, Tryd.results20, go_sem, s1, s2, nilRat]) rfl ⟨rfl, below_set2 hbw hge _ _⟩
set_option maxRecDepth 10000 in
set_option maxHeartbeats 1000000 in
theorem rpower_bad (va : Value) (x : LP) (n : Int) (w : World) (hx : RtP w va x) (h : validP x ≠ 0) :
  Calls Tryd.prog 21 #[va, .int .i64 n] w fun e w' => e = .returned (.tuple #[nilRat, .int .i64 (validP x)]) ∧ Below w.heap.size w w' := by
 obtain ⟨A1, k1, c1, A2, k2, c2, rfl⟩ := hx.shape
 go_enter Tryd.func21, Tryd.ntmps21
 go_upto_region 1 with fail; refine wp_name ?_; intro w1 HW; have hbw : Below w.heap.size w w1 := by rw [HW.out]; exact Below.tr (bA _ _) (bA _ _)
 have hP1 : Blk w1 w.heap.size 28 #[.slice A1 k1 c1, .slice A2 k2 c2] := by rw [HW.out]; exact Blk.below (Blk.newG rfl) (bA _ _) (Blk.newG rfl).lt
 have hres : Res w1 (w.heap.size + 1) := by rw [HW.out]; exact Blk.newG (by simp)
 obtain ⟨g1, hg1⟩ : ∃ g, Hid (g = w.heap.size) := ⟨_, rfl⟩; obtain ⟨g, hg⟩ : ∃ g, Hid (g = w.heap.size + 1) := ⟨_, rfl⟩; have hge : w.heap.size ≤ g := by rw [hg.out]; omega
 rw [← hg.out] at hres ⊢; rw [← hg1.out] at hP1 ⊢; have hx1 := hx.below hbw; have pa0 := hP1.cell 0; have pa1 := hP1.cell 1; simp only [List.getElem?_toArray, List.getElem?_cons_zero, List.getElem?_cons_succ] at pa0 pa1; clear HW hg1 hg hP1 hx; go_wp2_with fail; refine (rvalid_P _ x _ hx1).mono ?_; rintro e w2 ⟨rfl, hbe⟩
 replace hres := hres.below hbe
 replace hbw := Below.tr hbw hbe
 obtain ⟨r1, r2, r3, r4⟩ := hres.facts; obtain ⟨s1, s2⟩ := hres.set2 (.slice none 0 0) (.slice none 0 0); clear hbe hx1; obtain ⟨E, hE⟩ : ∃ E, E = validP x := ⟨_, rfl⟩; rw [← hE] at h ⊢; have h0 : (E != 0) = true := by simpa using h
 have HE := Lib.hid hE; clear h hE; go_wp2_with fail; exact bodyPost_ret (v := .tuple #[nilRat, .int .i64 E]) (by simp [results, Tryd.results21, go_sem, s1, s2, nilRat]) rfl ⟨by rw [HE.out], below_set2 hbw hge _ _⟩
set_option maxRecDepth 10000 in
set_option maxHeartbeats 1000000 in
theorem rpower_neg (va : Value) (x : LP) (n : Int) (w : World) (hx : RtP w va x) (hv : validP x = 0) (h : n < 0) :
  Calls Tryd.prog 21 #[va, .int .i64 n] w fun e w' => e = .returned (.tuple #[nilRat, .int .i64 5]) ∧ Below w.heap.size w w' := by
 obtain ⟨A1, k1, c1, A2, k2, c2, rfl⟩ := hx.shape
 go_enter Tryd.func21, Tryd.ntmps21
 go_upto_region 1 with fail; refine wp_name ?_; intro w1 HW; have hbw : Below w.heap.size w w1 := by rw [HW.out]; exact Below.tr (bA _ _) (bA _ _)
 have hP1 : Blk w1 w.heap.size 28 #[.slice A1 k1 c1, .slice A2 k2 c2] := by rw [HW.out]; exact Blk.below (Blk.newG rfl) (bA _ _) (Blk.newG rfl).lt
 have hres : Res w1 (w.heap.size + 1) := by rw [HW.out]; exact Blk.newG (by simp)
 obtain ⟨g1, hg1⟩ : ∃ g, Hid (g = w.heap.size) := ⟨_, rfl⟩; obtain ⟨g, hg⟩ : ∃ g, Hid (g = w.heap.size + 1) := ⟨_, rfl⟩; have hge : w.heap.size ≤ g := by rw [hg.out]; omega
 rw [← hg.out] at hres ⊢; rw [← hg1.out] at hP1 ⊢; have hx1 := hx.below hbw; have pa0 := hP1.cell 0; have pa1 := hP1.cell 1; simp only [List.getElem?_toArray, List.getElem?_cons_zero, List.getElem?_cons_succ] at pa0 pa1; clear HW hg1 hg hP1 hx; go_wp2_with fail; refine (rvalid_P _ x _ hx1).mono ?_; rintro e w2 ⟨rfl, hbe⟩
 replace hres := hres.below hbe
 replace hbw := Below.tr hbw hbe
 obtain ⟨r1, r2, r3, r4⟩ := hres.facts; obtain ⟨s1, s2⟩ := hres.set2 (.slice none 0 0) (.slice none 0 0); clear hbe hx1; rw [hv]; have d0 : decide (n < 0) = true := decide_eq_true h; clear h; go_wp2_with fail; exact bodyPost_ret (v := .tuple #[nilRat, .int .i64 5]) (by simp [results, Tryd.results21, go_sem, s1, s2, nilRat]) rfl ⟨rfl, below_set2 hbw hge _ _⟩
set_option maxRecDepth 10000 in
set_option maxHeartbeats 1000000 in
theorem rpower_big (va : Value) (x : LP) (n : Int) (w : World) (hx : RtP w va x) (hv : validP x = 0) (h : 65536 < n) :
  Calls Tryd.prog 21 #[va, .int .i64 n] w fun e w' => e = .returned (.tuple #[nilRat, .int .i64 5]) ∧ Below w.heap.size w w' := by
 obtain ⟨A1, k1, c1, A2, k2, c2, rfl⟩ := hx.shape
 go_enter Tryd.func21, Tryd.ntmps21
 go_upto_region 1 with fail; refine wp_name ?_; intro w1 HW; have hbw : Below w.heap.size w w1 := by rw [HW.out]; exact Below.tr (bA _ _) (bA _ _)
 have hP1 : Blk w1 w.heap.size 28 #[.slice A1 k1 c1, .slice A2 k2 c2] := by rw [HW.out]; exact Blk.below (Blk.newG rfl) (bA _ _) (Blk.newG rfl).lt
 have hres : Res w1 (w.heap.size + 1) := by rw [HW.out]; exact Blk.newG (by simp)
 obtain ⟨g1, hg1⟩ : ∃ g, Hid (g = w.heap.size) := ⟨_, rfl⟩; obtain ⟨g, hg⟩ : ∃ g, Hid (g = w.heap.size + 1) := ⟨_, rfl⟩; have hge : w.heap.size ≤ g := by rw [hg.out]; omega
 rw [← hg.out] at hres ⊢; rw [← hg1.out] at hP1 ⊢; have hx1 := hx.below hbw; have pa0 := hP1.cell 0; have pa1 := hP1.cell 1; simp only [List.getElem?_toArray, List.getElem?_cons_zero, List.getElem?_cons_succ] at pa0 pa1; clear HW hg1 hg hP1 hx; go_wp2_with fail; refine (rvalid_P _ x _ hx1).mono ?_; rintro e w2 ⟨rfl, hbe⟩
 replace hres := hres.below hbe
 replace hbw := Below.tr hbw hbe
 obtain ⟨r1, r2, r3, r4⟩ := hres.facts; obtain ⟨s1, s2⟩ := hres.set2 (.slice none 0 0) (.slice none 0 0); clear hbe hx1; rw [hv]; have d0 : decide (n < 0) = false := decide_eq_false (by omega); have d1 : decide (65536 < n) = true := decide_eq_true h; clear h; go_wp2_with fail; exact bodyPost_ret (v := .tuple #[nilRat, .int .i64 5]) (by simp [results, Tryd.results21, go_sem, s1, s2, nilRat]) rfl ⟨rfl, below_set2 hbw hge _ _⟩
structure SPr (w0 : World) (B g : Nat) (X Y2 : Value) (L : Nat → Bool) (vs : Nat → Value) (w : World) : Prop where
 be : Below B w0 w
 lim : ∀ A c l, Lim w0 A c l → Lim w A c l
 cell : ∀ b i v, b ≠ g → w0.cell? ⟨b, i, none⟩ = some v → w.cell? ⟨b, i, none⟩ = some v
 og : L 6 = false → Blk w g 28 #[X, Y2]
 st : L 6 = true → ∃ A k c, vs 4 = .slice A k c ∧ Blk w g 28 #[X, .slice A k c]
theorem SPr.start {w0 : World} {B g : Nat} {X Y2 : Value} (hB : B ≤ w0.heap.size) (h : Blk w0 g 28 #[X, Y2]) (vs : Nat → Value) : SPr w0 B g X Y2 (fun _ => false) vs w0.drew :=
 ⟨(bD w0).mono hB, fun _ _ _ k => k.below (bD w0), fun _ _ _ _ k => cell_keep (bD w0) k, fun _ => h.below (bD w0) h.lt, fun h => by cases h⟩
theorem SPr.step {w0 : World} {B g : Nat} {X Y2 : Value} {L : Nat → Bool} {vs : Nat → Value} {w w' : World} (h : SPr w0 B g X Y2 L vs w) (hB : B ≤ w.heap.size) (hb : Below w.heap.size w w') (i : Nat) (v : Value) (hi : ¬ (6 = i)) (hj : i = 4 → L 6 = false) : SPr w0 B g X Y2 (updB L i) (upd vs i v) w' := by
 refine ⟨h.be.trans (hb.mono hB), fun _ _ _ k => (h.lim _ _ _ k).below hb, fun _ _ _ hn k => cell_keep hb (h.cell _ _ _ hn k), fun hl => ?_, fun hl => ?_⟩
 ·have hl2 : L 6 = false := by unfold updB at hl; rwa [if_neg hi] at hl
  exact (h.og hl2).below hb (h.og hl2).lt
 ·have hl2 : L 6 = true := by unfold updB at hl; rwa [if_neg hi] at hl
  have n4 : ¬ (4 = i) := fun e => by rw [hj e.symm] at hl2; cases hl2
  obtain ⟨A, k, c, e1, hblk⟩ := h.st hl2; exact ⟨A, k, c, by unfold upd; rw [if_neg n4]; exact e1, hblk.below hb hblk.lt⟩
theorem SPr.stored {w0 : World} {B g : Nat} {X1 : Option Addr} {xk xc : Nat} {Y1 : Option Addr} {yk yc : Nat} {L : Nat → Bool} {vs : Nat → Value} {w : World} (h : SPr w0 B g (.slice X1 xk xc) (.slice Y1 yk yc) L vs w) {A : Option Addr} {k c : Nat} (e1 : vs 4 = .slice A k c) (hB : B ≤ g) (hl : L 6 = false) (u : Value) :
  Kp B g w (w.setCell ⟨g, 1, none⟩ (.slice A k c)) ∧ SPr w0 B g (.slice X1 xk xc) (.slice Y1 yk yc) (updB L 6) (upd vs 6 u) (w.setCell ⟨g, 1, none⟩ (.slice A k c)) := by
 have hb := h.og hl; have hk := Kp.store1 (B := B) (i := 1) (A := A) (k := k) (c := c) ⟨_, _, _, _, _, _, hb⟩ hB; refine ⟨hk, h.be.trans hk.be, fun _ _ _ x => hk.lim _ _ _ (h.lim _ _ _ x), fun _ _ _ hn x => hk.cell _ _ _ hn (h.cell _ _ _ hn x), fun h => (by cases h), fun _ => ⟨A, k, c, by unfold upd; rw [if_neg (by omega)]; exact e1, hb.set_ 1 (.slice A k c)⟩⟩
def PhiPr5 (X Y2 : Value) (A2 : Option Addr) (k2 c2 g2 g7 Q q : Nat) (j : Nat) (w : World) (x : Value) : Prop :=
 match j with
 | 0 => x = .agg #[X, Y2]
 | 1 => IsNb w x Q 65
 | 2 => x = .pointer (some ⟨g2, 1, none⟩)
 | 3 => x = .slice A2 k2 c2
 | 4 => ∃ A k c, x = .slice A k c ∧ Nb w A k c (Q * q)
 | 5 => x = .pointer (some ⟨g7, 1, none⟩)
 | 6 => True
 | _ => True

theorem PhiPr5.keep {B : Nat} {X Y2 : Value} {A2 : Option Addr} {k2 c2 g2 g7 Q q : Nat} : ∀ (w w' : World), Kp B g7 w w' → ∀ j x, PhiPr5 X Y2 A2 k2 c2 g2 g7 Q q j w x → PhiPr5 X Y2 A2 k2 c2 g2 g7 Q q j w' x := by
 intro w w' hr j x h; unfold PhiPr5 at h ⊢
 split <;> simp only at h ⊢
 all_goals first
  | exact h
  | (obtain ⟨A, k, c, e, h1, h2⟩ := h; exact ⟨A, k, c, e, ⟨h1.1, hr.lim _ _ _ h1.2⟩, h2⟩)
  | (obtain ⟨A, k, c, e, h⟩ := h; exact ⟨A, k, c, e, ⟨h.1, hr.lim _ _ _ h.2⟩⟩)
theorem Nb.mapB {B : Nat} {w w' : World} {A : Option Addr} {k c n : Nat} (h : Nb w A k c n) (hb : Below B w w') (hB : w.heap.size ≤ B) : Nb w' A k c n := h.below (hb.mono hB)
theorem Res.mapB {B g : Nat} {w w' : World} (h : Res w g) (hb : Below B w w') (hg : g < B) : Res w' g := (hb.block g hg).trans h
theorem cellB {B b i : Nat} {w w' : World} {v : Value} (h : w.cell? ⟨b, i, none⟩ = some v) (hb : Below B w w') (hg : b < B) : w'.cell? ⟨b, i, none⟩ = some v := by
 rw [World.cell?_of_block (hb.block b hg)]; exact h
set_option maxRecDepth 100000 in
set_option maxHeartbeats 8000000 in
theorem rpower_G (va : Value) (p q n : Nat) (w : World) (ha : Rat w va p q) (ga : Nm.Good p q) (hn : n ≤ 65536) :
  Calls Tryd.prog 21 #[va, .int .i64 n] w fun e w' => ∃ v er, e = .returned (.tuple #[v, .int .i64 er]) ∧ PowP p q n w' v er ∧ Below w.heap.size w w' := by
 obtain ⟨A1, k1, c1, A2, k2, c2, rfl⟩ := ha.shape; obtain ⟨s1, s2⟩ := ha.small ga; have hq := ga.pos; have d0 : decide ((n : Int) < 0) = false := by simp
 have d1 : decide ((65536 : Int) < (n : Int)) = false := by simp; omega
 go_enter Tryd.func21, Tryd.ntmps21
 go_upto_region 1 with fail; refine wp_name ?_; intro w1 HW; have hbw : Below w.heap.size w w1 := by rw [HW.out]; exact Below.tr (bA _ _) (bA _ _)
 have hP1 : Blk w1 w.heap.size 28 #[.slice A1 k1 c1, .slice A2 k2 c2] := by rw [HW.out]; exact Blk.below (Blk.newG rfl) (bA _ _) (Blk.newG rfl).lt
 have hres : Res w1 (w.heap.size + 1) := by rw [HW.out]; exact Blk.newG (by simp)
 have hg2 : w.heap.size < w1.heap.size := hP1.lt; have hg4 : w.heap.size + 1 < w1.heap.size := hres.lt; obtain ⟨g2, hgg2⟩ : ∃ g, Hid (g = w.heap.size) := ⟨_, rfl⟩; obtain ⟨g4, hgg4⟩ : ∃ g, Hid (g = w.heap.size + 1) := ⟨_, rfl⟩; have hge4 : w.heap.size ≤ g4 := by rw [hgg4.out]; omega
 rw [← hgg4.out] at hres hg4 ⊢; have hg2' : g2 < w1.heap.size := by rw [hgg2.out]; exact hg2
 rw [← hgg2.out] at hP1 ⊢; have ha1 := ha.below hbw; have pa0 := hP1.cell 0; have pa1 := hP1.cell 1; simp only [List.getElem?_toArray, List.getElem?_cons_zero, List.getElem?_cons_succ] at pa0 pa1; clear HW hgg2 hgg4 hP1 ha hg2; go_wp2_with fail; refine (rvalid_P _ _ _ ha1.rtP).mono ?_; rw [valid_rat ga]; rintro e w2 ⟨rfl, hbe⟩; have ha2 := ha1.below hbe
 replace pa0 := cell_keep hbe pa0
 replace pa1 := cell_keep hbe pa1
 replace hres := hres.below hbe
 replace hbw := Below.tr hbw hbe
 replace hg2' := Nat.lt_of_lt_of_le hg2' hbe.size
 replace hg4 := Nat.lt_of_lt_of_le hg4 hbe.size
 have hnb := ha2.nb; clear hbe ha1; by_cases hcl : 0 < n ∧ q = 1 ∧ p ≤ 1
 ·obtain ⟨h0, rfl, hp1⟩ := hcl
  have HPN : Hid (p ^ n = p ∧ 1 ^ n = 1) := by
   refine ⟨?_, Nat.one_pow n⟩
   rcases (show p = 0 ∨ p = 1 by omega) with rfl | rfl
   ·exact Nat.zero_pow h0
   ·exact Nat.one_pow n
  have HFK : Hid (∀ j, j ≤ n → Nm.Fits (p ^ j) (1 ^ j)) := fun j _ => fits_bit hp1 j
  have d2 : decide (0 < (n : Int)) = true := by simp; omega
  obtain rfl : k2 = 0 := by have := hnb.2.1; simpa [Nm.dn_one, Nm.lb_zero] using this
  obtain ⟨r1, r2, r3, r4⟩ := hres.facts; obtain ⟨t1, t2⟩ := hres.set2 (.slice A1 k1 c1) (.slice A2 0 c2)
  have hfin : Rat ((w2.setCell ⟨g4, 0, none⟩ (.slice A1 k1 c1)).setCell ⟨g4, 1, none⟩ (.slice A2 0 c2)) (.agg #[.slice A1 k1 c1, .slice A2 0 c2]) (p ^ n) (1 ^ n) := by
   rw [HPN.out.1, HPN.out.2]; exact ha2.map (hres.sl.keep2 A1 A2 k1 c1 0 c2)
  have HFIN := Lib.hid hfin; have hbz := below_set2 hbw hge4 (.slice A1 k1 c1) (.slice A2 0 c2)
  rcases (show p = 0 ∨ p = 1 by omega) with rfl | rfl
  ·obtain rfl : k1 = 0 := hnb.1.kzero; clear ha2 hfin; go_wp2_with fail; exact bodyPost_ret (v := .tuple #[.agg #[.slice A1 0 c1, .slice A2 0 c2], .int .i64 0]) (by simp [results, Tryd.results21, go_sem, t1, t2]) rfl ⟨_, _, rfl, .inl ⟨rfl, HFIN.out, HFK.out⟩, hbz⟩
  ·obtain rfl : k1 = 1 := by have := hnb.1.1; rw [Nm.lb_one] at this; exact this
   clear ha2 hfin; go_wp2_with fail; refine (rone_t _ _ _ _ _ hnb.1 rfl).mono ?_; rintro e w' ⟨rfl, rfl⟩; go_wp2_with fail; exact bodyPost_ret (v := .tuple #[.agg #[.slice A1 1 c1, .slice A2 0 c2], .int .i64 0]) (by simp [results, Tryd.results21, go_sem, t1, t2]) rfl ⟨_, _, rfl, .inl ⟨rfl, HFIN.out, HFK.out⟩, hbz⟩
 have HCL := Lib.hid hcl; clear hcl; go_upto_region 6 with fail
 go_cut [40] from 22 to 76 (fun t wz => t = .bool false ∧ wz = w2)
 case first => as_aux_lemma =>
  rcases (show n = 0 ∨ (0 < n ∧ 0 < k2) ∨ (0 < n ∧ k2 = 0 ∧ 0 < k1) by
   rcases Nat.eq_zero_or_pos n with h | h
   ·exact .inl h
   ·rcases Nat.eq_zero_or_pos k2 with h2 | h2
    ·right; right
     refine ⟨h, h2, ?_⟩
     rcases Nat.eq_zero_or_pos k1 with h1 | h1
     ·exfalso
      have e1 : p = 0 := lb_zero_len (hnb.1.1.symm.trans h1); have e2 : Nm.dn q = 0 := lb_zero_len (hnb.2.1.symm.trans h2); exact HCL.out ⟨h, dn_zero hq e2, by omega⟩
     ·exact h1
    ·exact .inr (.inl ⟨h, h2⟩)) with hn0 | ⟨hn0, hk2⟩ | ⟨hn0, hk2, hk1⟩
  ·subst hn0; clear HCL; go_wp2_with fail
   go_meet
   case rel => exact ⟨rfl, rfl⟩
  ·have d2 : decide (0 < (n : Int)) = true := by simp; omega
   have d3 : ((k2 : Int) == 0) = false := by simp; omega
   clear HCL; go_wp2_with fail
   go_meet
   case rel => exact ⟨rfl, rfl⟩
  ·have d2 : decide (0 < (n : Int)) = true := by simp; omega
   have d4 : ((k1 : Int) == 0) = false := by simp; omega
   have e2 : Nm.dn q = 0 := lb_zero_len (hnb.2.1.symm.trans hk2); have hp1 : p ≠ 1 := fun e => HCL.out ⟨hn0, dn_zero hq e2, by omega⟩
   subst hk2; clear HCL e2; go_wp2_with fail; refine (rone_f _ _ _ _ _ hnb.1 hp1).mono ?_; rintro e w' ⟨rfl, rfl⟩; go_wp2_with fail
   go_meet
   case rel => exact ⟨rfl, rfl⟩
 obtain ⟨rfl, hx⟩ := hcut; obtain rfl := hx.symm; clear hx HCL; go_upto_region 9 with fail; refine wp_nm ?_; intro w4 HW4; have hb24 : Below w2.heap.size w2 w4 := by rw [HW4.out]; exact Below.tr (bA _ _) (bA _ _)
 have hX : Nb w4 (some ⟨w2.heap.size, 0, none⟩) 1 1 1 := by rw [HW4.out]; exact (Nb.one w2 _ rfl).below (bA _ _)
 have hB7 : Blk w4 (w2.heap.size + 1) 28 #[.slice (some ⟨w2.heap.size, 0, none⟩) 1 1, .slice none 0 0] := by rw [HW4.out]; exact Blk.newG (by simp)
 obtain ⟨g7, hg7⟩ : ∃ g, Hid (g = w2.heap.size + 1) := ⟨_, rfl⟩; rw [← hg7.out] at hB7 ⊢; have hw27 : w2.heap.size ≤ g7 := by rw [hg7.out]; omega
 have hw2 : w.heap.size ≤ w2.heap.size := hbw.size; have hne7 : g2 ≠ g7 := by omega
 have hY : Nb w4 none 0 0 0 := Nb.zero _; clear HW4 hg7 ha2; go_wp2_with fail
 go_loopg [8] n (fun j x wr => ∃ (i : Nat) (X : Option Addr) (kx cx : Nat) (Y : Option Addr) (ky cy : Nat), x = .int .i64 i ∧ i + j = n ∧ Blk wr g7 28 #[.slice X kx cx, .slice Y ky cy] ∧ Nb wr X kx cx (p ^ i) ∧ Nb wr Y ky cy (Nm.dn (q ^ i)) ∧ kx ≤ 64 ∧ ky ≤ 64 ∧ Below w2.heap.size w2 wr ∧ Hid (∀ j, j ≤ i → Nm.Fits (p ^ j) (q ^ j)))
 case atStart => exact ⟨0, _, _, _, _, _, _, rfl, by omega, hB7, by rw [Nat.pow_zero]; exact hX, by rw [Nat.pow_zero, Nm.dn_one]; exact hY, by omega, by omega, hb24, fits_zero p q⟩
 case round =>
  clear hX hY hB7 hb24; obtain ⟨i, X, kx, cx, Y, ky, cy, rfl, hij, hB7, hX, hY, hkx, hky, hbe, HFK⟩ := hrel; have hresw := hres; have x0 := hB7.cell 0; have x1 := hB7.cell 1; have x2 := hB7.frozen 0; simp only [List.getElem?_toArray, List.getElem?_cons_zero, List.getElem?_cons_succ] at x0 x1; have y0 := cellB pa0 hbe hg2'; have y1 := cellB pa1 hbe hg2'; by_cases hi : i < n
  ·have hin : (i : Int) < (n : Int) := by omega
   have t1 : decide ((i : Int) < (n : Int)) = true := by simp; omega
   go_wp2_with fail; refine (rtimes_n _ _ _ _ _ _ _ _ _ hX (hnb.1.mapB hbe (Nat.le_refl _)) (by omega) (by omega)).mono ?_; rintro e w5 ⟨Z, kX, cX, rfl, hZ, hb5⟩; have hB75 := hB7.below hb5 hB7.lt; have x0 := hB75.cell 0; have x2 := hB75.frozen 0; simp only [List.getElem?_toArray, List.getElem?_cons_zero, List.getElem?_cons_succ] at x0; have hbe5 := hbe.trans (hb5.mono hbe.size); have hY5 := hY.below hb5; clear hB7 x1; go_upto_region 13 with fail; refine wp_name ?_; intro w6 HW6; have hK : Kp w2.heap.size g7 w5 w6 := by rw [HW6.out]; exact Kp.store1 ⟨_, _, _, _, _, _, hB75⟩ hw27
   have hB76 : Blk w6 g7 28 #[.slice Z kX cX, .slice Y ky cy] := by rw [HW6.out]; exact hB75.set_ 0 (.slice Z kX cX)
   have hX' : Nb w6 Z kX cX (p ^ (i + 1)) := by rw [Nat.pow_succ]; exact ⟨hZ.1, hK.lim _ _ _ hZ.2⟩
   have hYd : Nb w6 Y ky cy (Nm.dn (q ^ i)) := ⟨hY5.1, hK.lim _ _ _ hY5.2⟩; have hbe2 := hbe5.trans hK.be; have hA2 := hnb.2.mapB hbe2 (Nat.le_refl _)
   replace y1 := cellB pa1 hbe2 hg2'
   clear HW6 hK hB75 hZ hY5 hX hY x0 x2 y0 hb5 hbe hbe5; by_cases hk0 : k2 = 0
   ·have e2 : q = 1 := dn_zero hq (lb_zero_len (hnb.2.1.symm.trans hk0)); have tk : decide (0 < (k2 : Int)) = false := by simp; omega
    have hY' : Nb w6 Y ky cy (Nm.dn (q ^ (i + 1))) := by rw [e2, Nat.one_pow] at hYd ⊢; exact hYd
    have hB7b := hB76; have hkY : ky = ky := rfl; obtain ⟨kY, hkY2⟩ : ∃ k, k = ky := ⟨_, rfl⟩; subst hkY2; clear hYd hB76 hkY; subst hk0; have x0 := hB7b.cell 0; have x1 := hB7b.cell 1; simp only [List.getElem?_toArray, List.getElem?_cons_zero, List.getElem?_cons_succ] at x0 x1; by_cases hfit : Nm.Fits (p ^ (i + 1)) (q ^ (i + 1))
    ·have d6 : decide ((64 : Int) < (kX : Int)) = false := by have := hfit.1; have := hX'.1; simp; omega
     have d7 : decide ((64 : Int) < (kY : Int)) = false := by have := hfit.2; have := hY'.1; simp; omega
     have hkX : kX ≤ 64 := by have := hfit.1; have := hX'.1; omega
     have hkY : kY ≤ 64 := by have := hfit.2; have := hY'.1; omega
     have HFK2 : Hid (∀ j, j ≤ i + 1 → Nm.Fits (p ^ j) (q ^ j)) := fun j hj => by
      rcases (show j ≤ i ∨ j = i + 1 by omega) with h | rfl
      ·exact HFK.out j h
      ·exact hfit
     clear hfit; go_wp2_with fail
     go_roundg (gk - 1)
     case measure => omega
     case rel => exact ⟨i + 1, _, _, _, _, _, _, by go_num, by omega, hB7b, hX', hY', hkX, hkY, hbe2, HFK2⟩
    ·have HNG : Hid (∃ j, j ≤ n ∧ ¬ Nm.Fits (p ^ j) (q ^ j)) := ⟨i + 1, by omega, hfit⟩
     have hor : 64 < kX ∨ 64 < kY := by
      rcases Nat.lt_or_ge 64 kX with h | h
      ·exact .inl h
      ·rcases Nat.lt_or_ge 64 kY with h2 | h2
       ·exact .inr h2
       ·exact absurd ⟨by rw [← hX'.1]; exact h, by rw [← hY'.1]; exact h2⟩ hfit
     have hresZ := hresw.mapB hbe2 hg4; obtain ⟨r1, r2, r3, r4⟩ := hresZ.facts; obtain ⟨s1, s2⟩ := hresZ.set2 (.slice none 0 0) (.slice none 0 0); have hbz := below_set2 (hbw.trans (hbe2.mono hw2)) hge4 (.slice none 0 0) (.slice none 0 0); clear hfit hresZ; by_cases h6 : 64 < kX
     ·have d6 : decide ((64 : Int) < (kX : Int)) = true := by simp; omega
      clear h6 hor; go_wp2_with fail; exact bodyPost_ret (v := .tuple #[nilRat, .int .i64 4]) (by simp [results, Tryd.results21, go_sem, s1, s2, nilRat]) rfl ⟨_, _, rfl, .inr ⟨rfl, rfl, HNG.out⟩, hbz⟩
     ·have d6 : decide ((64 : Int) < (kX : Int)) = false := by simp; omega
      have d7 : decide ((64 : Int) < (kY : Int)) = true := by simp; omega
      clear h6 hor; go_wp2_with fail; exact bodyPost_ret (v := .tuple #[nilRat, .int .i64 4]) (by simp [results, Tryd.results21, go_sem, s1, s2, nilRat]) rfl ⟨_, _, rfl, .inr ⟨rfl, rfl, HNG.out⟩, hbz⟩
   ·have e2 : q ≠ 1 := fun e => hk0 (by have := hnb.2.1; rw [e, Nm.dn_one, Nm.lb_zero] at this; simpa using this)
    have tk : decide (0 < (k2 : Int)) = true := by simp; omega
    have hqi : 0 < q ^ i := Nat.pow_pos hq; have e3 : Nm.dn q = q := Nm.dn_ne e2; rw [e3] at hA2; obtain ⟨Q, HQ⟩ : ∃ Q, Hid (Q = q ^ i) := ⟨_, rfl⟩
    have HQQ : Hid (Q * q = Nm.dn (q ^ (i + 1))) := by
     show _ = _
     rw [HQ.out, ← Nat.pow_succ, Nm.dn_ne]; intro h1; have := (Nat.pow_eq_one).1 h1; omega
    rw [← HQ.out] at hYd hqi; have hQ := hqi; obtain ⟨B, hBd⟩ : ∃ B, B = w2.heap.size := ⟨_, rfl⟩; have hBs : B ≤ w6.heap.size := by rw [hBd]; exact hbe2.size
    have hB7' : B ≤ g7 := by rw [hBd]; exact hw27
    have hB7 := hB7'; have pa1' := y1; go_upto_region 14 with fail; have tk2 : decide (0 < k2) = true := decide_eq_true (by omega); simp only [tk2]; clear tk tk2 t1 hin; refine region_invW (PhiPr5 (.slice Z kX cX) (.slice Y ky cy) A2 k2 c2 g2 g7 Q q) (Kp B g7) (SPr w6 B g7 (.slice Z kX cX) (.slice Y ky cy)) (by kernel_rfl) (by kernel_rfl) (by kernel_rfl) PhiPr5.keep (SPr.start hBs hB76 _) (fun vs => by simp only [fillR, Act.put, sA, sB, sC, Nat.zero_add, Nat.reduceAdd]; rfl) ?_ ?_
    ·refine sK ?_ (sK ?_ (sK ?_ (sK ?_ (sK ?_ (sK ?_ (sK ?_ (sZ)))))))
     ·as_aux_lemma =>
      intro vs L W hS hL cl hdl hdep K hK; have hBB : B ≤ W.heap.size := Nat.le_trans hBs hS.be.size
      have h6 : L 6 = false := by
       cases h : L 6 with
       | false => rfl
       | true => exact absurd (cl 1 _ rfl (cl 4 _ rfl (cl 6 _ rfl h ⟨4, .data⟩ (by simp) rfl) ⟨1, .data⟩ (by simp) rfl) ⟨0, .data⟩ (by simp) rfl) (by rw [hL]; decide)
      have f1 := (hS.og h6).cell 0; have f2 := (hS.og h6).cell 1; simp only [List.getElem?_toArray, List.getElem?_cons_zero, List.getElem?_cons_succ] at f1 f2; refine ⟨?_⟩; simp only [Act.put, sA, sB, sC, Nat.zero_add, Nat.reduceAdd] at hK ⊢; go_simp; with_reducible refine hK _ _ (Kp.refl _ _ _) (hS.step hBB (Below.refl _ _) 0 _ (by decide) (fun e => absurd e (by decide))) ?_
      exact rfl
     ·as_aux_lemma =>
      intro vs L W hS hL cl hdl hdep K hK; have d0 := hdep ⟨0, .data⟩ (by simp) rfl; simp only [PhiPr5] at d0; have hBB : B ≤ W.heap.size := Nat.le_trans hBs hS.be.size; refine ⟨?_⟩; simp only [Act.put, sA, sB, sC, Nat.zero_add, Nat.reduceAdd, d0] at hK ⊢; go_simp; refine (rden_n _ _ _ _ _ _ Q _ ⟨hYd.1, hS.lim _ _ _ hYd.2⟩ hQ (by omega)).mono ?_; rintro e w' ⟨A, k, c, rfl, hn, hk, hb⟩; go_wp2_with fail; with_reducible refine hK _ _ (Kp.below hb hBB) (hS.step hBB hb 1 _ (by decide) (fun e => absurd e (by decide))) ?_
      exact ⟨A, k, c, rfl, hn, by have := hk.out; omega⟩
     ·as_aux_lemma =>
      intro vs L W hS hL cl hdl hdep K hK; have hBB : B ≤ W.heap.size := Nat.le_trans hBs hS.be.size; refine ⟨?_⟩; simp only [Act.put, sA, sB, sC, Nat.zero_add, Nat.reduceAdd] at hK ⊢; go_simp; with_reducible refine hK _ _ (Kp.refl _ _ _) (hS.step hBB (Below.refl _ _) 2 _ (by decide) (fun e => absurd e (by decide))) ?_
      exact rfl
     ·as_aux_lemma =>
      intro vs L W hS hL cl hdl hdep K hK; have d0 := hdep ⟨2, .data⟩ (by simp) rfl; simp only [PhiPr5] at d0; have hBB : B ≤ W.heap.size := Nat.le_trans hBs hS.be.size; have f1 := hS.cell _ _ _ hne7 pa1'; refine ⟨?_⟩; simp only [Act.put, sA, sB, sC, Nat.zero_add, Nat.reduceAdd, d0] at hK ⊢; go_simp; with_reducible refine hK _ _ (Kp.refl _ _ _) (hS.step hBB (Below.refl _ _) 3 _ (by decide) (fun e => absurd e (by decide))) ?_
      exact rfl
     ·as_aux_lemma =>
      intro vs L W hS hL cl hdl hdep K hK; have d0 := hdep ⟨1, .data⟩ (by simp) rfl; simp only [PhiPr5] at d0; refine @exE3 _ _ _ _ _ d0 ?_; clear d0; intro D0 d0 u0 d0; have e0 := d0.1; have n0 := d0.2.1; have m0 := d0.2.2; clear d0; have d1 := hdep ⟨3, .data⟩ (by simp) rfl; simp only [PhiPr5] at d1; have hBB : B ≤ W.heap.size := Nat.le_trans hBs hS.be.size
      have h6 : L 6 = false := by
       cases h : L 6 with
       | false => rfl
       | true => exact absurd (cl 6 _ rfl h ⟨4, .data⟩ (by simp) rfl) (by rw [hL]; decide)
      refine ⟨?_⟩; simp only [Act.put, sA, sB, sC, Nat.zero_add, Nat.reduceAdd, e0, d1] at hK ⊢; go_simp; refine (rtimes_n _ _ _ _ _ _ _ _ _ n0 ⟨hA2.1, hS.lim _ _ _ hA2.2⟩ (by omega) (by omega)).mono ?_; rintro e w' ⟨A, k, c, rfl, hn, hb⟩; go_wp2_with fail; with_reducible refine hK _ _ (Kp.below hb hBB) (hS.step hBB hb 4 _ (by decide) (fun _ => h6)) ?_
      exact ⟨_, _, _, rfl, hn⟩
     ·as_aux_lemma =>
      intro vs L W hS hL cl hdl hdep K hK; have hBB : B ≤ W.heap.size := Nat.le_trans hBs hS.be.size; refine ⟨?_⟩; simp only [Act.put, sA, sB, sC, Nat.zero_add, Nat.reduceAdd] at hK ⊢; go_simp; with_reducible refine hK _ _ (Kp.refl _ _ _) (hS.step hBB (Below.refl _ _) 5 _ (by decide) (fun e => absurd e (by decide))) ?_
      exact rfl
     ·as_aux_lemma =>
      intro vs L W hS hL cl hdl hdep K hK; have d0 := hdep ⟨5, .data⟩ (by simp) rfl; simp only [PhiPr5] at d0; have d1 := hdep ⟨4, .data⟩ (by simp) rfl; simp only [PhiPr5] at d1; refine @exE3 _ _ _ _ _ d1 ?_; clear d1; intro A1 k1 c1 d1; have e1 := d1.1; have n1 := d1.2; clear d1; have hblk := hS.og hL; have q3 := hblk.frozen 1; have q1 := hblk.cell 1; simp only [List.getElem?_toArray, List.getElem?_cons_zero, List.getElem?_cons_succ] at q1; have HR := Lib.hid (hS.stored e1 hB7 hL undef); clear hblk; refine ⟨?_⟩; simp only [Act.put, sA, sB, sC, Nat.zero_add, Nat.reduceAdd, d0, e1] at hK ⊢; go_simp; with_reducible refine hK undef _ HR.out.1 HR.out.2 ?_
      exact trivial
    intro vs L w7 hS hall hv; have v4 := hv 4 (by simp); simp only [PhiPr5] at v4; obtain ⟨A, k, c, e4, hn4⟩ := v4; obtain ⟨A', k', c', e4', hB7b⟩ := hS.st (hall 6 (by simp)); rw [e4'] at e4; injection e4 with e5 e6 e7; subst e5 e6 e7; have hbe3 := hbe2.trans (hBd ▸ hS.be)
    replace hX' : Nb w7 Z kX cX (p ^ (i + 1)) := ⟨hX'.1, hS.lim _ _ _ hX'.2⟩
    have hY' : Nb w7 A' k' c' (Nm.dn (q ^ (i + 1))) := by rw [← HQQ.out]; exact hn4
    obtain ⟨kY, hkY2⟩ : ∃ k, k = k' := ⟨_, rfl⟩; subst hkY2
    replace hbe2 := hbe3
    clear hS hall hv hn4 hYd hB76 hA2 hbe3 HQ HQQ e3 hQ hqi pa1' y1; simp only [Act.put, sA, sB, sC, Nat.zero_add, Nat.reduceAdd, e4']; clear e4'; have x0 := hB7b.cell 0; have x1 := hB7b.cell 1; simp only [List.getElem?_toArray, List.getElem?_cons_zero, List.getElem?_cons_succ] at x0 x1; by_cases hfit : Nm.Fits (p ^ (i + 1)) (q ^ (i + 1))
    ·have d6 : decide ((64 : Int) < (kX : Int)) = false := by have := hfit.1; have := hX'.1; simp; omega
     have d7 : decide ((64 : Int) < (kY : Int)) = false := by have := hfit.2; have := hY'.1; simp; omega
     have hkX : kX ≤ 64 := by have := hfit.1; have := hX'.1; omega
     have hkY : kY ≤ 64 := by have := hfit.2; have := hY'.1; omega
     have HFK2 : Hid (∀ j, j ≤ i + 1 → Nm.Fits (p ^ j) (q ^ j)) := fun j hj => by
      rcases (show j ≤ i ∨ j = i + 1 by omega) with h | rfl
      ·exact HFK.out j h
      ·exact hfit
     clear hfit; go_wp2_with fail
     go_roundg (gk - 1)
     case measure => omega
     case rel => exact ⟨i + 1, _, _, _, _, _, _, by go_num, by omega, hB7b, hX', hY', hkX, hkY, hbe2, HFK2⟩
    ·have HNG : Hid (∃ j, j ≤ n ∧ ¬ Nm.Fits (p ^ j) (q ^ j)) := ⟨i + 1, by omega, hfit⟩
     have hor : 64 < kX ∨ 64 < kY := by
      rcases Nat.lt_or_ge 64 kX with h | h
      ·exact .inl h
      ·rcases Nat.lt_or_ge 64 kY with h2 | h2
       ·exact .inr h2
       ·exact absurd ⟨by rw [← hX'.1]; exact h, by rw [← hY'.1]; exact h2⟩ hfit
     have hresZ := hresw.mapB hbe2 hg4; obtain ⟨r1, r2, r3, r4⟩ := hresZ.facts; obtain ⟨s1, s2⟩ := hresZ.set2 (.slice none 0 0) (.slice none 0 0); have hbz := below_set2 (hbw.trans (hbe2.mono hw2)) hge4 (.slice none 0 0) (.slice none 0 0); clear hfit hresZ; by_cases h6 : 64 < kX
     ·have d6 : decide ((64 : Int) < (kX : Int)) = true := by simp; omega
      clear h6 hor; go_wp2_with fail; exact bodyPost_ret (v := .tuple #[nilRat, .int .i64 4]) (by simp [results, Tryd.results21, go_sem, s1, s2, nilRat]) rfl ⟨_, _, rfl, .inr ⟨rfl, rfl, HNG.out⟩, hbz⟩
     ·have d6 : decide ((64 : Int) < (kX : Int)) = false := by simp; omega
      have d7 : decide ((64 : Int) < (kY : Int)) = true := by simp; omega
      clear h6 hor; go_wp2_with fail; exact bodyPost_ret (v := .tuple #[nilRat, .int .i64 4]) (by simp [results, Tryd.results21, go_sem, s1, s2, nilRat]) rfl ⟨_, _, rfl, .inr ⟨rfl, rfl, HNG.out⟩, hbz⟩
  ·obtain rfl : i = n := by omega
   have t1 : decide ((i : Int) < (i : Int)) = false := by simp
   have hresZ := hresw.mapB hbe hg4; obtain ⟨r1, r2, r3, r4⟩ := hresZ.facts; obtain ⟨t3, t4⟩ := hresZ.set2 (.slice X kx cx) (.slice Y ky cy); have hfin : Rat ((wr.setCell ⟨g4, 0, none⟩ (.slice X kx cx)).setCell ⟨g4, 1, none⟩ (.slice Y ky cy)) (.agg #[.slice X kx cx, .slice Y ky cy]) (p ^ i) (q ^ i) := ⟨_, _, _, _, _, _, rfl, hresZ.sl.keep2 X Y kx cx ky cy _ _ _ _ hX, hresZ.sl.keep2 X Y kx cx ky cy _ _ _ _ hY⟩; have HFIN := Lib.hid hfin; have hbz := below_set2 (hbw.trans (hbe.mono hw2)) hge4 (.slice X kx cx) (.slice Y ky cy); clear hfin hresZ hX hY; go_wp2_with fail; exact bodyPost_ret (v := .tuple #[.agg #[.slice X kx cx, .slice Y ky cy], .int .i64 0]) (by simp [results, Tryd.results21, go_sem, t3, t4]) rfl ⟨_, _, rfl, .inl ⟨rfl, HFIN.out, HFK.out⟩, hbz⟩
theorem power_F (va : Value) (x : LP) (n : Int) (w : World) (hx : RtP w va x) : Calls Tryd.prog 20 #[va, .int .i64 n] w fun e w' => ∃ v, e = .returned (.tuple #[v, .int .i64 (powF x n).1]) ∧ RtP w' v (powF x n).2 ∧ Below w.heap.size w w' := by
 by_cases hv : validP x = 0
 ·by_cases h1 : n < 0
  ·rw [powF_rng hv (.inl h1)]; refine (power_neg va x n w hx hv h1).mono ?_; rintro e w' ⟨rfl, hb⟩; exact ⟨_, rfl, nil_rtP w', hb⟩
  ·by_cases h2 : 65536 < n
   ·rw [powF_rng hv (.inr h2)]; refine (power_big va x n w hx hv h2).mono ?_; rintro e w' ⟨rfl, hb⟩; exact ⟨_, rfl, nil_rtP w', hb⟩
   ·obtain ⟨m, rfl⟩ : ∃ m : Nat, n = (m : Int) := ⟨n.toNat, by omega⟩; obtain ⟨p, q, rfl, ga, ra⟩ := hx.good hv; refine (power_G va p q m w ra ga (by omega)).mono ?_; rintro e w' ⟨v, er, rfl, hP, hb⟩; obtain ⟨rfl, h⟩ := powF_ok ga (by omega) hP; exact ⟨v, rfl, h, hb⟩
 ·rw [powF_bad hv]; refine (power_bad va x n w hx hv).mono ?_; rintro e w' ⟨rfl, hb⟩; exact ⟨_, rfl, nil_rtP w', hb⟩
theorem rpower_F (va : Value) (x : LP) (n : Int) (w : World) (hx : RtP w va x) : Calls Tryd.prog 21 #[va, .int .i64 n] w fun e w' => ∃ v, e = .returned (.tuple #[v, .int .i64 (powF x n).1]) ∧ RtP w' v (powF x n).2 ∧ Below w.heap.size w w' := by
 by_cases hv : validP x = 0
 ·by_cases h1 : n < 0
  ·rw [powF_rng hv (.inl h1)]; refine (rpower_neg va x n w hx hv h1).mono ?_; rintro e w' ⟨rfl, hb⟩; exact ⟨_, rfl, nil_rtP w', hb⟩
  ·by_cases h2 : 65536 < n
   ·rw [powF_rng hv (.inr h2)]; refine (rpower_big va x n w hx hv h2).mono ?_; rintro e w' ⟨rfl, hb⟩; exact ⟨_, rfl, nil_rtP w', hb⟩
   ·obtain ⟨m, rfl⟩ : ∃ m : Nat, n = (m : Int) := ⟨n.toNat, by omega⟩; obtain ⟨p, q, rfl, ga, ra⟩ := hx.good hv; refine (rpower_G va p q m w ra ga (by omega)).mono ?_; rintro e w' ⟨v, er, rfl, hP, hb⟩; obtain ⟨rfl, h⟩ := powF_ok ga (by omega) hP; exact ⟨v, rfl, h, hb⟩
 ·rw [powF_bad hv]; refine (rpower_bad va x n w hx hv).mono ?_; rintro e w' ⟨rfl, hb⟩; exact ⟨_, rfl, nil_rtP w', hb⟩
end Go.Proofs.YtmbfjmilhfmnkaaDoor
