import Derived.Test.YtnjjdiilkhdbeaaKCutProof26
import Derived.Test.YtnjjdiilkhdbeaaKCutProof25
import Derived.Test.YtnjjdiilkhdbeaaS0
set_option linter.unusedVariables false
set_option linter.unusedSimpArgs false
namespace Go.Proofs.Ytnjjdiilkhdbeaa
open Go Go.RowKit
theorem grown_below {w1 W W' : World} {row : Option Nat} (hb : Below w1.heap.size w1 W) (k : W.grownBy W' row) : w1.grownBy W' row := ⟨k.os.trans hb.os, k.tape.trans hb.tape, k.output.trans hb.output, Nat.le_trans hb.size k.size, fun b h1 h2 => (k.block b (Nat.lt_of_lt_of_le h1 hb.size) h2).trans (hb.block b h1)⟩
/-- the cells of an element of an own row are there -/
theorem own_store2 {w : World} {base g n c : Nat} {X : List LP} (h : RatOwn w base (.slice (some ⟨g, 0, none⟩) n c) X) {k : Nat} (hk : k < n) : (∃ a, w.cell? ⟨g, k * 2, none⟩ = some a) ∧ (∃ a, w.cell? ⟨g, k * 2 + 1, none⟩ = some a) ∧ w.frozen? ⟨g, k * 2, none⟩ = false ∧ w.frozen? ⟨g, k * 2 + 1, none⟩ = false := by
 obtain ⟨_, _, e⟩ := h.shp; have hn : n = X.length := by injection e
 obtain ⟨ps, h1, h2, _⟩ := h; rw [← hn] at h1 h2; have hl : (ps.flatMap prC).length = n * 2 := h1.1; refine ⟨?_, ?_, h1.frozenAt _, h1.frozenAt _⟩
 ·rw [h1.cellAt _ (by omega)]; exact ⟨_, List.getElem?_eq_getElem (by omega)⟩
 ·rw [h1.cellAt _ (by omega)]; exact ⟨_, List.getElem?_eq_getElem (by omega)⟩
/-- an element of an own row -/
theorem RatOwn.elem {w : World} {base g n c : Nat} {X : List LP} (h : RatOwn w base (.slice (some ⟨g, 0, none⟩) n c) X) {k : Nat} {a : LP} (hk : X[k]? = some a) : ∃ v1 v2, w.cell? ⟨g, k * 2, none⟩ = some v1 ∧ w.cell? ⟨g, k * 2 + 1, none⟩ = some v2 ∧ RtP w (.agg #[v1, v2]) a := by
 obtain ⟨_, _, e⟩ := h.shp; have hn : n = X.length := by injection e
 have hkl := (List.getElem?_eq_some_iff.1 hk).1; obtain ⟨ps, h1, h2, h3, h4⟩ := h; have hi : k < ps.length := by omega
 have hf : ∀ (l : List (Value × Value)) (i : Nat) p, l[i]? = some p → (l.flatMap prC)[i * 2]? = some p.1 ∧ (l.flatMap prC)[i * 2 + 1]? = some p.2 := by
  intro l
  induction l with
  | nil => intro i p h; simp at h
  | cons x l ih =>
   intro i p h
   rcases i with _ | i
   ·simp only [List.getElem?_cons_zero, Option.some.injEq] at h; subst h; exact ⟨rfl, rfl⟩
   ·have := ih i p (by simpa using h); rw [List.flatMap_cons, show (i + 1) * 2 = i * 2 + 1 + 1 by omega]; exact this
 obtain ⟨e1, e2⟩ := hf ps k _ (List.getElem?_eq_getElem hi); rw [← hn] at h1; refine ⟨ps[k].1, ps[k].2, by rw [h1.cellAt _ (by omega)]; exact e1, by rw [h1.cellAt _ (by omega)]; exact e2, h4 k _ a (List.getElem?_eq_getElem hi) hk⟩
/-- what a store into a row's element leaves -/
def SEa (base : Nat) (w1 : World) (g n cN : Nat) (X : List LP) : List Value → (Nat → Value) → World → Prop
 | [], _, W => Below w1.heap.size w1 W
 | [_], _, W => RatOwn W base (.slice (some ⟨g, 0, none⟩) n cN) X ∧ w1.grownBy W (some g) ∧ ∀ A c l, Lim w1 A c l → Lim W A c l
 | _, _, _ => True
def PhiEa (gN g n cN k : Nat) (a1 a2 c1 c2 p1 p2 f1 f2 : Value) (a c p f : LP) (vs : Nat → Value) (j : Nat) (w : World) (x : Value) : Prop :=
 match j with
 | 0 => x = .slice (some ⟨g, 0, none⟩) n cN
 | 1 => x = .int .i64 (k : Nat)
 | 2 => x = .slice (some ⟨g, 0, none⟩) n cN
 | 3 => x = .int .i64 (k : Nat)
 | 4 => x = .pointer (some ⟨g, k * 2, none⟩)
 | 5 => x = .agg #[a1, a2]
 | 6 => x = .agg #[c1, c2]
 | 7 => x = .agg #[p1, p2]
 | 8 => x = .agg #[f1, f2]
 | 9 => ∃ v er, x = .tuple #[v, .int .i64 er] ∧ RtP w v (mulV p f)
 | 10 => RtP w x (mulV p f)
 | 11 => ∃ er : Int, x = .int .i64 er
 | 12 => RtP w x (mulV p f)
 | 13 => ∃ v er, x = .tuple #[v, .int .i64 er] ∧ RtP w v (mulV c (mulV p f))
 | 14 => RtP w x (mulV c (mulV p f))
 | 15 => ∃ er : Int, x = .int .i64 er
 | 16 => RtP w x (mulV c (mulV p f))
 | 17 => ∃ v er, x = .tuple #[v, .int .i64 er] ∧ RtP w v (addV a (mulV c (mulV p f)))
 | 18 => RtP w x (addV a (mulV c (mulV p f)))
 | 19 => ∃ er : Int, x = .int .i64 er
 | 20 => RtP w x (addV a (mulV c (mulV p f)))
 | 21 => x = .pointer (some ⟨g, k * 2, none⟩)
 | _ => True
theorem PhiEa.keepR {gN g n cN k : Nat} {a1 a2 c1 c2 p1 p2 f1 f2 : Value} {a c p f : LP} : ∀ vs (w w' : World), Below w.heap.size w w' → ∀ j x, PhiEa gN g n cN k a1 a2 c1 c2 p1 p2 f1 f2 a c p f vs j w x → PhiEa gN g n cN k a1 a2 c1 c2 p1 p2 f1 f2 a c p f vs j w' x := by
 intro vs w w' hb j x h; unfold PhiEa at h ⊢
 split <;> simp only at h ⊢
 all_goals first
  | exact h
  | exact h.below hb
  | (obtain ⟨v, er, e, h⟩ := h; exact ⟨v, er, e, h.below hb⟩)
theorem PhiEa.keepF {gN g n cN k : Nat} {a1 a2 c1 c2 p1 p2 f1 f2 : Value} {a c p f : LP} : ∀ vs (w w' : World) j x, ([] : List Nat).contains j = true → PhiEa gN g n cN k a1 a2 c1 c2 p1 p2 f1 f2 a c p f vs j w x → PhiEa gN g n cN k a1 a2 c1 c2 p1 p2 f1 f2 a c p f vs j w' x := by
 intro vs w w' j x hf
 cases hf
set_option maxRecDepth 100000 in
set_option maxHeartbeats 4000000 in
theorem expadd_F (base gN g n cN k : Nat) (X : List LP) (vc vp vf : Value) (a c p f : LP) (w : World) (hown : RatOwn w base (.slice (some ⟨g, 0, none⟩) n cN) X) (hN : w.cell? ⟨gN, 0, none⟩ = some (.slice (some ⟨g, 0, none⟩) n cN)) (hk : X[k]? = some a) (hk20 : k ≤ 1048576) (hc : RtP w vc c) (hp : RtP w vp p) (hf : RtP w vf f) :
  Calls Try.prog 48 #[.int .i64 (k : Int), vc, vp, vf, .pointer (some ⟨gN, 0, none⟩)] w fun e w' => e = .returned (.tuple #[]) ∧ RatOwn w' base (.slice (some ⟨g, 0, none⟩) n cN) (X.set k (addV a (mulV c (mulV p f)))) ∧ w.grownBy w' (some g) ∧ ∀ A c l, Lim w A c l → Lim w' A c l := by
 obtain ⟨C1, m1, o1, C2, m2, o2, rfl⟩ := hc.shape; obtain ⟨P1, m3, o3, P2, m4, o4, rfl⟩ := hp.shape; obtain ⟨F1, m5, o5, F2, m6, o6, rfl⟩ := hf.shape
 have hkn : k < n := by
  obtain ⟨_, _, e⟩ := hown.shp; have hn : n = X.length := by injection e
  have := (List.getElem?_eq_some_iff.1 hk).1; omega
 go_enter Try.func48, Try.ntmps48
 go_upto_region 1 with fail; refine wp_name ?_; intro w1 HW1; have hb1 : Below w.heap.size w w1 := by rw [HW1.out]; exact Below.tr (Below.tr (bA _ _) (bA _ _)) (bA _ _)
 have hB1 : Blk w1 w.heap.size 25 #[.slice C1 m1 o1, .slice C2 m2 o2] := by rw [HW1.out]; exact Blk.below (Blk.newG rfl) (Below.tr (bA _ _) (bA _ _)) (Blk.newG rfl).lt
 have hB2 : Blk w1 (w.heap.size + 1) 25 #[.slice P1 m3 o3, .slice P2 m4 o4] := by rw [HW1.out]; exact Blk.below (Blk.newG (by simp)) (bA _ _) (by simp)
 have hB3 : Blk w1 (w.heap.size + 1 + 1) 25 #[.slice F1 m5 o5, .slice F2 m6 o6] := by rw [HW1.out]; exact Blk.newG (by simp)
 clear HW1; obtain ⟨gC, hgC⟩ : ∃ g, Hid (g = w.heap.size) := ⟨_, rfl⟩; obtain ⟨gQ, hgQ⟩ : ∃ g, Hid (g = w.heap.size + 1) := ⟨_, rfl⟩; obtain ⟨gF, hgF⟩ : ∃ g, Hid (g = w.heap.size + 1 + 1) := ⟨_, rfl⟩; rw [← hgF.out] at hB3 ⊢; rw [← hgQ.out] at hB2 ⊢; rw [← hgC.out] at hB1 ⊢; have hown := hown.below hb1; have hN := Lib.hid (cell_keep hb1 hN); have hc := hc.below hb1; have hp := hp.below hb1; have hf := hf.below hb1; have d0 := hB1.cell 0; have d1 := hB1.cell 1; have b0 := hB2.cell 0; have b1 := hB2.cell 1; have e0 := hB3.cell 0; have e1 := hB3.cell 1; simp only [List.getElem?_toArray, List.getElem?_cons_zero, List.getElem?_cons_succ] at d0 d1 b0 b1 e0 e1; have d0 := Lib.hid d0; have d1 := Lib.hid d1; have b0 := Lib.hid b0; have b1 := Lib.hid b1; have e0 := Lib.hid e0; have e1 := Lib.hid e1; obtain ⟨a1, a2, q1, q2, ha⟩ := hown.elem hk; have q1 := Lib.hid q1; have q2 := Lib.hid q2; have hkn1 : (k : Int) < (n : Int) := by omega
 clear hB1 hB2 hB3 hgC hgQ hgF hk; refine region_chain [22] [.early, .early, .early, .early, .early, .early, .early, .early, .early, .early, .early, .early, .early, .early, .early, .early, .early, .early, .early, .early, .early, .early, .chain 0] [] [] (PhiEa gN g n cN k a1 a2 (.slice C1 m1 o1) (.slice C2 m2 o2) (.slice P1 m3 o3) (.slice P2 m4 o4) (.slice F1 m5 o5) (.slice F2 m6 o6) a c p f) (fun w w' => Below w.heap.size w w') (SEa base w1 g n cN (X.set k (addV a (mulV c (mulV p f))))) (by kernel_rfl) (by kernel_rfl) (by kernel_rfl) (by kernel_rfl) (sK (fun _ _ _ _ _ h => h) (sK (fun _ _ _ _ _ h => h) (sK (fun _ _ _ _ _ h => h) (sK (fun _ _ _ _ _ h => h) (sK (fun _ _ _ _ _ h => h) (sK (fun _ _ _ _ _ h => h) (sK (fun _ _ _ _ _ h => h) (sK (fun _ _ _ _ _ h => h) (sK (fun _ _ _ _ _ h => h) (sK (fun _ _ _ _ _ h => h) (sK (fun _ _ _ _ _ h => h) (sK (fun _ _ _ _ _ h => h) (sK (fun _ _ _ _ _ h => h) (sK (fun _ _ _ _ _ h => h) (sK (fun _ _ _ _ _ h => h) (sK (fun _ _ _ _ _ h => h) (sK (fun _ _ _ _ _ h => h) (sK (fun _ _ _ _ _ h => h) (sK (fun _ _ _ _ _ h => h) (sK (fun _ _ _ _ _ h => h) (sK (fun _ _ _ _ _ h => h) (sK (fun _ _ _ _ _ h => h) (sK (fun _ _ _ _ _ h => h) (sZ)))))))))))))))))))))))) PhiEa.keepR PhiEa.keepF (fun _ _ _ _ hR hS => Below.tr hS hR) (by rintro (_ | ⟨_, _ | _⟩) vs vs' w _ h <;> exact h) (fun _ => bD _) (fun vs => by simp only [fillR, Act.put, sA, sB, sC, Nat.zero_add, Nat.reduceAdd]; rfl) ?_ ?_
 ·refine sK ?_ (sK ?_ (sK ?_ (sK ?_ (sK ?_ (sK ?_ (sK ?_ (sK ?_ (sK ?_ (sK ?_ (sK ?_ (sK ?_ (sK ?_ (sK ?_ (sK ?_ (sK ?_ (sK ?_ (sK ?_ (sK ?_ (sK ?_ (sK ?_ (sK ?_ (sK ?_ (sZ)))))))))))))))))))))))
  ·as_aux_lemma =>
   intro vs W hS hu hdep K hK; have HU := Lib.hid hu; clear hu; have f0 := cell_keep hS hN.out; refine ⟨?_⟩; simp only [Act.put, sA, sB, sC, Nat.zero_add, Nat.reduceAdd] at hK ⊢; go_simp; with_reducible refine hK _ _ (Below.refl _ _) ?_
   exact rfl
  ·as_aux_lemma =>
   intro vs W hS hu hdep K hK; have HU := Lib.hid hu; clear hu; refine ⟨?_⟩; simp only [Act.put, sA, sB, sC, Nat.zero_add, Nat.reduceAdd] at hK ⊢; go_simp; with_reducible refine hK _ _ (Below.refl _ _) ?_
   exact rfl
  ·as_aux_lemma =>
   intro vs W hS hu hdep K hK; have HU := Lib.hid hu; clear hu; have f0 := cell_keep hS hN.out; refine ⟨?_⟩; simp only [Act.put, sA, sB, sC, Nat.zero_add, Nat.reduceAdd] at hK ⊢; go_simp; with_reducible refine hK _ _ (Below.refl _ _) ?_
   exact rfl
  ·as_aux_lemma =>
   intro vs W hS hu hdep K hK; have HU := Lib.hid hu; clear hu; refine ⟨?_⟩; simp only [Act.put, sA, sB, sC, Nat.zero_add, Nat.reduceAdd] at hK ⊢; go_simp; with_reducible refine hK _ _ (Below.refl _ _) ?_
   exact rfl
  ·as_aux_lemma =>
   intro vs W hS hu hdep K hK; have HU := Lib.hid hu; clear hu; have d0 := hdep ⟨2, .data⟩ (by simp) rfl; simp only [PhiEa] at d0; have d1 := hdep ⟨3, .data⟩ (by simp) rfl; simp only [PhiEa] at d1; refine ⟨?_⟩; simp only [Act.put, sA, sB, sC, Nat.zero_add, Nat.reduceAdd, d0, d1] at hK ⊢; go_simp; with_reducible refine hK _ _ (Below.refl _ _) ?_
   exact rfl
  ·as_aux_lemma =>
   intro vs W hS hu hdep K hK; have HU := Lib.hid hu; clear hu; have d0 := hdep ⟨4, .data⟩ (by simp) rfl; simp only [PhiEa] at d0; have f0 := cell_keep hS q1.out; have f1 := cell_keep hS q2.out; refine ⟨?_⟩; simp only [Act.put, sA, sB, sC, Nat.zero_add, Nat.reduceAdd, d0] at hK ⊢; go_simp; with_reducible refine hK _ _ (Below.refl _ _) ?_
   exact rfl
  ·as_aux_lemma =>
   intro vs W hS hu hdep K hK; have HU := Lib.hid hu; clear hu; have f0 := cell_keep hS d0.out; have f1 := cell_keep hS d1.out; refine ⟨?_⟩; simp only [Act.put, sA, sB, sC, Nat.zero_add, Nat.reduceAdd] at hK ⊢; go_simp; with_reducible refine hK _ _ (Below.refl _ _) ?_
   exact rfl
  ·as_aux_lemma =>
   intro vs W hS hu hdep K hK; have HU := Lib.hid hu; clear hu; have f0 := cell_keep hS b0.out; have f1 := cell_keep hS b1.out; refine ⟨?_⟩; simp only [Act.put, sA, sB, sC, Nat.zero_add, Nat.reduceAdd] at hK ⊢; go_simp; with_reducible refine hK _ _ (Below.refl _ _) ?_
   exact rfl
  ·as_aux_lemma =>
   intro vs W hS hu hdep K hK; have HU := Lib.hid hu; clear hu; have f0 := cell_keep hS e0.out; have f1 := cell_keep hS e1.out; refine ⟨?_⟩; simp only [Act.put, sA, sB, sC, Nat.zero_add, Nat.reduceAdd] at hK ⊢; go_simp; with_reducible refine hK _ _ (Below.refl _ _) ?_
   exact rfl
  ·as_aux_lemma =>
   intro vs W hS hu hdep K hK; have HU := Lib.hid hu; clear hu; have d0 := hdep ⟨7, .data⟩ (by simp) rfl; simp only [PhiEa] at d0; have d1 := hdep ⟨8, .data⟩ (by simp) rfl; simp only [PhiEa] at d1; refine ⟨?_⟩; simp only [fillR, Act.put, sA, sB, sC, Nat.zero_add, Nat.reduceAdd, d0, d1] at hK ⊢; go_simp; refine (mul_V _ _ p f _ (hp.below hS) (hf.below hS)).mono ?_; rintro e w' ⟨v, er, rfl, hv, hb⟩; go_wp2_with fail; with_reducible refine hK _ _ hb ?_
   exact ⟨v, er, rfl, hv⟩
  ·as_aux_lemma =>
   intro vs W hS hu hdep K hK; have HU := Lib.hid hu; clear hu; have d0 := hdep ⟨9, .data⟩ (by simp) rfl; simp only [PhiEa] at d0; refine @exE2 _ _ _ _ d0 ?_; clear d0; intro v0 er0 d0; have e0 := d0.1; have n0 := d0.2; clear d0; refine ⟨?_⟩; simp only [Act.put, sA, sB, sC, Nat.zero_add, Nat.reduceAdd, e0] at hK ⊢; go_simp; with_reducible refine hK _ _ (Below.refl _ _) ?_
   exact n0
  ·as_aux_lemma =>
   intro vs W hS hu hdep K hK; have HU := Lib.hid hu; clear hu; have d0 := hdep ⟨9, .data⟩ (by simp) rfl; simp only [PhiEa] at d0; refine @exE2 _ _ _ _ d0 ?_; clear d0; intro v0 er0 d0; have e0 := d0.1; have n0 := d0.2; clear d0; refine ⟨?_⟩; simp only [Act.put, sA, sB, sC, Nat.zero_add, Nat.reduceAdd, e0] at hK ⊢; go_simp; with_reducible refine hK _ _ (Below.refl _ _) ?_
   exact ⟨_, rfl⟩
  ·as_aux_lemma =>
   intro vs W hS hu hdep K hK; have HU := Lib.hid hu; clear hu; have d0 := hdep ⟨10, .data⟩ (by simp) rfl; simp only [PhiEa] at d0; have r0 := d0; clear d0; have d1 := hdep ⟨11, .data⟩ (by simp) rfl; simp only [PhiEa] at d1; refine @exE1 _ _ _ d1 ?_; clear d1; intro er1 d1; have e1 := d1; clear d1; refine ⟨?_⟩; simp only [fillR, Act.put, sA, sB, sC, Nat.zero_add, Nat.reduceAdd, e1] at hK ⊢; go_simp; refine (sure_F _ _ (mulV p f) _ r0).mono ?_; rintro e w' ⟨v, rfl, hv, hb⟩; go_wp2_with fail; with_reducible refine hK _ _ hb ?_
   exact hv
  ·as_aux_lemma =>
   intro vs W hS hu hdep K hK; have HU := Lib.hid hu; clear hu; have d0 := hdep ⟨6, .data⟩ (by simp) rfl; simp only [PhiEa] at d0; have d1 := hdep ⟨12, .data⟩ (by simp) rfl; simp only [PhiEa] at d1; have r1 := d1; clear d1; refine ⟨?_⟩; simp only [fillR, Act.put, sA, sB, sC, Nat.zero_add, Nat.reduceAdd, d0] at hK ⊢; go_simp; refine (mul_V _ _ c (mulV p f) _ (hc.below hS) r1).mono ?_; rintro e w' ⟨v, er, rfl, hv, hb⟩; go_wp2_with fail; with_reducible refine hK _ _ hb ?_
   exact ⟨v, er, rfl, hv⟩
  ·as_aux_lemma =>
   intro vs W hS hu hdep K hK; have HU := Lib.hid hu; clear hu; have d0 := hdep ⟨13, .data⟩ (by simp) rfl; simp only [PhiEa] at d0; refine @exE2 _ _ _ _ d0 ?_; clear d0; intro v0 er0 d0; have e0 := d0.1; have n0 := d0.2; clear d0; refine ⟨?_⟩; simp only [Act.put, sA, sB, sC, Nat.zero_add, Nat.reduceAdd, e0] at hK ⊢; go_simp; with_reducible refine hK _ _ (Below.refl _ _) ?_
   exact n0
  ·as_aux_lemma =>
   intro vs W hS hu hdep K hK; have HU := Lib.hid hu; clear hu; have d0 := hdep ⟨13, .data⟩ (by simp) rfl; simp only [PhiEa] at d0; refine @exE2 _ _ _ _ d0 ?_; clear d0; intro v0 er0 d0; have e0 := d0.1; have n0 := d0.2; clear d0; refine ⟨?_⟩; simp only [Act.put, sA, sB, sC, Nat.zero_add, Nat.reduceAdd, e0] at hK ⊢; go_simp; with_reducible refine hK _ _ (Below.refl _ _) ?_
   exact ⟨_, rfl⟩
  ·as_aux_lemma =>
   intro vs W hS hu hdep K hK; have HU := Lib.hid hu; clear hu; have d0 := hdep ⟨14, .data⟩ (by simp) rfl; simp only [PhiEa] at d0; have r0 := d0; clear d0; have d1 := hdep ⟨15, .data⟩ (by simp) rfl; simp only [PhiEa] at d1; refine @exE1 _ _ _ d1 ?_; clear d1; intro er1 d1; have e1 := d1; clear d1; refine ⟨?_⟩; simp only [fillR, Act.put, sA, sB, sC, Nat.zero_add, Nat.reduceAdd, e1] at hK ⊢; go_simp; refine (sure_F _ _ (mulV c (mulV p f)) _ r0).mono ?_; rintro e w' ⟨v, rfl, hv, hb⟩; go_wp2_with fail; with_reducible refine hK _ _ hb ?_
   exact hv
  ·as_aux_lemma =>
   intro vs W hS hu hdep K hK; have HU := Lib.hid hu; clear hu; have d0 := hdep ⟨5, .data⟩ (by simp) rfl; simp only [PhiEa] at d0; have d1 := hdep ⟨16, .data⟩ (by simp) rfl; simp only [PhiEa] at d1; have r1 := d1; clear d1; refine ⟨?_⟩; simp only [fillR, Act.put, sA, sB, sC, Nat.zero_add, Nat.reduceAdd, d0] at hK ⊢; go_simp; refine (add_V _ _ a (mulV c (mulV p f)) _ (ha.below hS) r1).mono ?_; rintro e w' ⟨v, er, rfl, hv, hb⟩; go_wp2_with fail; with_reducible refine hK _ _ hb ?_
   exact ⟨v, er, rfl, hv⟩
  ·as_aux_lemma =>
   intro vs W hS hu hdep K hK; have HU := Lib.hid hu; clear hu; have d0 := hdep ⟨17, .data⟩ (by simp) rfl; simp only [PhiEa] at d0; refine @exE2 _ _ _ _ d0 ?_; clear d0; intro v0 er0 d0; have e0 := d0.1; have n0 := d0.2; clear d0; refine ⟨?_⟩; simp only [Act.put, sA, sB, sC, Nat.zero_add, Nat.reduceAdd, e0] at hK ⊢; go_simp; with_reducible refine hK _ _ (Below.refl _ _) ?_
   exact n0
  ·as_aux_lemma =>
   intro vs W hS hu hdep K hK; have HU := Lib.hid hu; clear hu; have d0 := hdep ⟨17, .data⟩ (by simp) rfl; simp only [PhiEa] at d0; refine @exE2 _ _ _ _ d0 ?_; clear d0; intro v0 er0 d0; have e0 := d0.1; have n0 := d0.2; clear d0; refine ⟨?_⟩; simp only [Act.put, sA, sB, sC, Nat.zero_add, Nat.reduceAdd, e0] at hK ⊢; go_simp; with_reducible refine hK _ _ (Below.refl _ _) ?_
   exact ⟨_, rfl⟩
  ·as_aux_lemma =>
   intro vs W hS hu hdep K hK; have HU := Lib.hid hu; clear hu; have d0 := hdep ⟨18, .data⟩ (by simp) rfl; simp only [PhiEa] at d0; have r0 := d0; clear d0; have d1 := hdep ⟨19, .data⟩ (by simp) rfl; simp only [PhiEa] at d1; refine @exE1 _ _ _ d1 ?_; clear d1; intro er1 d1; have e1 := d1; clear d1; refine ⟨?_⟩; simp only [fillR, Act.put, sA, sB, sC, Nat.zero_add, Nat.reduceAdd, e1] at hK ⊢; go_simp; refine (sure_F _ _ (addV a (mulV c (mulV p f))) _ r0).mono ?_; rintro e w' ⟨v, rfl, hv, hb⟩; go_wp2_with fail; with_reducible refine hK _ _ hb ?_
   exact hv
  ·as_aux_lemma =>
   intro vs W hS hu hdep K hK; have HU := Lib.hid hu; clear hu; have d0 := hdep ⟨0, .data⟩ (by simp) rfl; simp only [PhiEa] at d0; have d1 := hdep ⟨1, .data⟩ (by simp) rfl; simp only [PhiEa] at d1; refine ⟨?_⟩; simp only [Act.put, sA, sB, sC, Nat.zero_add, Nat.reduceAdd, d0, d1] at hK ⊢; go_simp; with_reducible refine hK _ _ (Below.refl _ _) ?_
   exact rfl
  ·as_aux_lemma =>
   intro vs W hS hdep K hK; have d0 := hdep ⟨20, .data⟩ (by simp) rfl (by rfl); simp only [PhiEa] at d0; have d1 := hdep ⟨21, .data⟩ (by simp) rfl (by rfl); simp only [PhiEa] at d1; have hS : Below w1.heap.size w1 W := hS; obtain ⟨D1, y1, z1, D2, y2, z2, e0⟩ := d0.shape; rw [e0] at d0; have hu := Lib.hid ((hown.below hS).upd (i := k) d0); have hfa := Lib.hid (own_store2 (hown.below hS) hkn); have hbS := Lib.hid hS; clear hS; obtain ⟨⟨x1, f1⟩, ⟨x2, f2⟩, f3, f4⟩ := hfa.out; refine ⟨?_⟩; simp only [Act.put, sA, sB, sC, Nat.zero_add, Nat.reduceAdd, e0, d1] at hK ⊢; go_simp; with_reducible refine hK undef _ ?_
   exact ⟨hu.out.1, grown_below hbS.out hu.out.2.2, fun A c l h => hu.out.2.1 _ _ _ (h.below hbS.out)⟩
 ·intro vs W hS _; have hS2 : SEa base w1 g n cN (X.set k (addV a (mulV c (mulV p f)))) [vs 22] vs W := hS; obtain ⟨k1, k2, k3⟩ := hS2; have K2 := Lib.hid k2; have K3 := Lib.hid k3; clear k2 k3 hS; go_wp2_with fail; refine bodyPost_end (v := .tuple #[]) (by simp [results, Try.results48]) rfl ?_; exact ⟨rfl, k1, grown_below hb1 K2.out, fun A c l h => K3.out _ _ _ (h.below hb1)⟩
end Go.Proofs.Ytnjjdiilkhdbeaa
namespace Go.Proofs.Ytnjjdiilkhdbeaa
open Go Go.RowKit
theorem make_rat (k : Int) (n : Nat) (hk : k = n) (hn : n ≤ 1048576) (w : World) :
  (Instr.makeSlice 36 (.int .i64 k) (.int .i64 k)).run Try.prog w = .ok (.slice (some ⟨w.heap.size, 0, none⟩) n n) (w.alloc (.cells (List.replicate (n * 2) (Value.slice none 0 0)).toArray 25)) := by
 subst hk; obtain ⟨i0, hi, hz0, hz1, hz2⟩ := info_parts info_ratio; have h := run_make (P := Try.prog) w 36 25 i0 nilRat Try.underlying36 hi hz0 .i64 .i64 n n (by omega) (by omega) (by rw [hz2]; omega) (by omega); rw [h]
 have e : madeCells nilRat.cells (n * 2) = (List.replicate (n * 2) (Value.slice none 0 0)).toArray := by
  apply Array.ext_getElem?
  intro i; by_cases hi : i < n * 2
  ·have e2 : (List.replicate (n * 2) (Value.slice none 0 0)).toArray[i]? = some (Value.slice none 0 0) := by rw [List.getElem?_toArray, List.getElem?_replicate, if_pos hi]
   rw [e2]; have hz : nilRat.cells = #[Value.slice none 0 0, Value.slice none 0 0] := rfl; rw [hz]; have h2 : i % 2 = 0 ∨ i % 2 = 1 := by omega
   rcases h2 with h2 | h2 <;> simp [madeCells, hi, h2]
  ·rw [Array.getElem?_eq_none (by simp [size_madeCells]; omega), Array.getElem?_eq_none (by simp; omega)]
 simp only [Int.toNat_natCast, hz1, e]
theorem set_mid {P : List LP} {a y : LP} {l : List LP} {k : Nat} (h : P.length = k) : (P ++ a :: l).set k y = P ++ y :: l := by
 subst h; rw [List.set_append_right _ _ (Nat.le_refl _), Nat.sub_self]; rfl
theorem set_mid2 {P : List LP} {a z y : LP} {l : List LP} {k : Nat} (h : P.length = k) : (P ++ a :: z :: l).set (k + 1) y = P ++ a :: y :: l := by
 subst h; rw [List.set_append_right _ _ (by omega), Nat.add_sub_cancel_left]; rfl
theorem get_mid {P : List LP} {a : LP} {l : List LP} {k : Nat} (h : P.length = k) : (P ++ a :: l)[k]? = some a := by
 subst h; rw [List.getElem?_append_right (Nat.le_refl _), Nat.sub_self]; rfl
theorem get_mid2 {P : List LP} {a z : LP} {l : List LP} {k : Nat} (h : P.length = k) : (P ++ a :: z :: l)[k + 1]? = some z := by
 subst h; rw [List.getElem?_append_right (by omega), Nat.add_sub_cancel_left]; rfl
def PhiE8 (q1 q2 : Value) (q : LP) (B : Nat) (j : Nat) (w : World) (x : Value) : Prop :=
 match j with
 | 0 => RtP w x oneP
 | 1 => x = .agg #[q1, q2]
 | 2 => ∃ v er, x = .tuple #[v, .int .i64 er] ∧ RtP w v (subV oneP q)
 | 3 => RtP w x (subV oneP q)
 | 4 => ∃ er : Int, x = .int .i64 er
 | 5 => ∃ Y1 y2 y3 Y4 y5 y6, x = .agg #[.slice Y1 y2 y3, .slice Y4 y5 y6] ∧ RtP w (.agg #[.slice Y1 y2 y3, .slice Y4 y5 y6]) (subV oneP q)
 | 6 => ∃ g, x = .pointer (some ⟨g, 0, none⟩) ∧ B ≤ g ∧ Sl w g
 | 7 => True
 | _ => True
theorem PhiE8.keep {q1 q2 : Value} {q : LP} {B : Nat} : ∀ (w w' : World), RT B w w' → ∀ j x, PhiE8 q1 q2 q B j w x → PhiE8 q1 q2 q B j w' x := by
 intro w w' hr j x h; unfold PhiE8 at h ⊢
 split <;> simp only at h ⊢
 all_goals first
  | exact h
  | exact h.mapL hr.lim
  | (obtain ⟨v, er, e, h⟩ := h; exact ⟨v, er, e, h.mapL hr.lim⟩)
  | (obtain ⟨A, k, c, A', k', c', e, h⟩ := h; exact ⟨A, k, c, A', k', c', e, h.mapL hr.lim⟩)
  | (obtain ⟨g, e, h1, h2⟩ := h; exact ⟨g, e, h1, hr.sl g h2⟩)
def PhiEb (gN kS cS m k : Nat) (S : Option Addr) (c1 c2 p1 p2 x1 x2 : Value) (c p f : LP) (vs : Nat → Value) (j : Nat) (w : World) (x : Value) : Prop :=
 match j with
 | 0 => x = .func (.func 48) #[] #[.pointer (some ⟨gN, 0, none⟩)]
 | 1 => x = .int .i64 (k : Nat)
 | 2 => x = .agg #[c1, c2]
 | 3 => x = .agg #[p1, p2]
 | 4 => x = .agg #[x1, x2, .slice S kS cS]
 | 5 => x = .int .i64 (m : Nat)
 | 6 => x = .int .i64 (k : Nat)
 | 7 => RtP w x f
 | _ => True
theorem PhiEb.keepR {gN kS cS m k : Nat} {S : Option Addr} {c1 c2 p1 p2 x1 x2 : Value} {c p f : LP} : ∀ vs (w w' : World), Below w.heap.size w w' → ∀ j x, PhiEb gN kS cS m k S c1 c2 p1 p2 x1 x2 c p f vs j w x → PhiEb gN kS cS m k S c1 c2 p1 p2 x1 x2 c p f vs j w' x := by
 intro vs w w' hb j x h; unfold PhiEb at h ⊢
 split <;> simp only at h ⊢
 all_goals first
  | exact h
  | exact h.below hb
  | (obtain ⟨v, er, e, h⟩ := h; exact ⟨v, er, e, h.below hb⟩)
theorem PhiEb.keepF {gN kS cS m k : Nat} {S : Option Addr} {c1 c2 p1 p2 x1 x2 : Value} {c p f : LP} : ∀ vs (w w' : World) j x, ([] : List Nat).contains j = true → PhiEb gN kS cS m k S c1 c2 p1 p2 x1 x2 c p f vs j w x → PhiEb gN kS cS m k S c1 c2 p1 p2 x1 x2 c p f vs j w' x := by
 intro vs w w' j x hf
 cases hf
def PhiEc (gN kS cS m k : Nat) (S : Option Addr) (c1 c2 p1 p2 x1 x2 : Value) (c p f : LP) (vs : Nat → Value) (j : Nat) (w : World) (x : Value) : Prop :=
 match j with
 | 0 => x = .func (.func 48) #[] #[.pointer (some ⟨gN, 0, none⟩)]
 | 1 => x = .int .i64 (k : Nat)
 | 2 => x = .int .i64 ((k : Int) + 1)
 | 3 => x = .agg #[c1, c2]
 | 4 => x = .agg #[p1, p2]
 | 5 => x = .agg #[x1, x2, .slice S kS cS]
 | 6 => x = .int .i64 (m : Nat)
 | 7 => x = .int .i64 (k : Nat)
 | 8 => RtP w x f
 | _ => True
theorem PhiEc.keepR {gN kS cS m k : Nat} {S : Option Addr} {c1 c2 p1 p2 x1 x2 : Value} {c p f : LP} : ∀ vs (w w' : World), Below w.heap.size w w' → ∀ j x, PhiEc gN kS cS m k S c1 c2 p1 p2 x1 x2 c p f vs j w x → PhiEc gN kS cS m k S c1 c2 p1 p2 x1 x2 c p f vs j w' x := by
 intro vs w w' hb j x h; unfold PhiEc at h ⊢
 split <;> simp only at h ⊢
 all_goals first
  | exact h
  | exact h.below hb
  | (obtain ⟨v, er, e, h⟩ := h; exact ⟨v, er, e, h.below hb⟩)
theorem PhiEc.keepF {gN kS cS m k : Nat} {S : Option Addr} {c1 c2 p1 p2 x1 x2 : Value} {c p f : LP} : ∀ vs (w w' : World) j x, ([] : List Nat).contains j = true → PhiEc gN kS cS m k S c1 c2 p1 p2 x1 x2 c p f vs j w x → PhiEc gN kS cS m k S c1 c2 p1 p2 x1 x2 c p f vs j w' x := by
 intro vs w w' j x hf
 cases hf
set_option maxRecDepth 100000 in
set_option maxHeartbeats 4000000 in
theorem expect_F (va vq : Value) (b q : LP) (rows : List (List LP)) (n : Int) (w : World) (hp : PlanV w va b rows) (hq : RtP w vq q) :
  Calls Try.prog 19 #[va, vq, .int .i64 n] w fun e w' => ∃ v, e = .returned (.tuple #[v, .int .i64 (expE b rows q n)]) ∧ RtP w' v (expX b rows q n) ∧ Below w.heap.size w w' := by
 obtain ⟨x1, x2, S, kS, cS, rfl, hbd, hrows⟩ := hp; obtain ⟨Q1, qk1, qc1, Q2, qk2, qc2, rfl⟩ := hq.shape; obtain ⟨E, HE⟩ : ∃ E, Hid (E = expE b rows q n) := ⟨_, rfl⟩; obtain ⟨X, HX0⟩ : ∃ X, Hid (X = expX b rows q n) := ⟨_, rfl⟩; have HXE : Hid (E ≠ 0 → X = nilP) := fun h => by rw [HX0.out]; unfold expX; rw [if_pos (by rw [← HE.out]; exact h)]
 rw [← HE.out, ← HX0.out]
 go_enter Try.func19, Try.ntmps19
 go_upto_region 1 with fail; refine wp_name ?_; intro w1 HW1; have hb1 : Below w.heap.size w w1 := by rw [HW1.out]; exact (Below.tr (Below.tr (bA _ _) (bA _ _)) (bA _ _))
 have hB1 : Blk w1 w.heap.size 38 #[x1, x2, .slice S kS cS] := by rw [HW1.out]; exact Blk.below (Blk.newG rfl) (Below.tr (bA _ _) (bA _ _)) (Blk.newG rfl).lt
 have hB2 : Blk w1 (w.heap.size + 1) 25 #[.slice Q1 qk1 qc1, .slice Q2 qk2 qc2] := by rw [HW1.out]; exact Blk.below (Blk.newG (by simp)) (bA _ _) (by simp)
 have hs1 : Sl w1 (w.heap.size + 1 + 1) := by rw [HW1.out]; exact ⟨none, 0, 0, none, 0, 0, Blk.newG (by simp)⟩
 clear HW1; obtain ⟨gp, hgp⟩ : ∃ g, Hid (g = w.heap.size) := ⟨_, rfl⟩; obtain ⟨gq, hgq⟩ : ∃ g, Hid (g = w.heap.size + 1) := ⟨_, rfl⟩; obtain ⟨gr, hgrr⟩ : ∃ g, Hid (g = w.heap.size + 1 + 1) := ⟨_, rfl⟩; have hgr : w.heap.size ≤ gr := by have := hgrr.out; omega
 rw [← hgrr.out] at hs1 ⊢; rw [← hgq.out] at hB2 ⊢; rw [← hgp.out] at hB1 ⊢; have hpl : PlanV w1 (.agg #[x1, x2, .slice S kS cS]) b rows := ⟨x1, x2, S, kS, cS, rfl, hbd.below hb1, hrows.below hb1⟩; have hqv := hq.below hb1; have p0 := hB1.cell 0; have p1 := hB1.cell 1; have p2 := hB1.cell 2; have q0 := hB2.cell 0; have q1 := hB2.cell 1; simp only [List.getElem?_toArray, List.getElem?_cons_zero, List.getElem?_cons_succ] at p0 p1 p2 q0 q1; clear hgp hgrr hB1 hbd hrows hgq hB2 hq; go_wp2_with fail; refine (wvalid_F _ b rows _ hpl).mono ?_; rintro e w2 ⟨rfl, hb2⟩; have hbw2 := Below.tr hb1 hb2; have hs2 := hs1.below hb2; by_cases h0 : planE b rows = 0
 ·have HPE := Lib.hid h0; rw [h0]; clear h0; have p0 := cell_keep hb2 p0; have p1 := cell_keep hb2 p1; have p2 := cell_keep hb2 p2; have q0 := cell_keep hb2 q0; have q1 := cell_keep hb2 q1; have hpl := hpl.below hb2; have hqv := hqv.below hb2; go_wp2_with fail; refine (wpart_F _ q _ hqv).mono ?_; rintro e w3 ⟨rfl, hb3⟩; have hbw3 := Below.tr hbw2 hb3; have hs3 := hs2.below hb3
  cases hpq : partB q
  ·have HF : Hid (E = 1) := by show _ = _; rw [HE.out]; unfold expE; rw [if_neg (by rw [HPE.out]; simp), if_pos hpq]
   have HX : Hid (X = nilP) := HXE.out (by rw [HF.out]; decide); clear hpq p0 p1 p2 q0 q1; obtain ⟨A', k', c', A'', k'', c'', he, ⟨a1, e1⟩, ⟨a2, e2⟩, e3, e4, z1, z2, hr, hbz⟩ := ret_ratio (w0 := w) (nil_rtP w3) hs3 hgr hbw3; simp only [nilRat, Value.agg.injEq, Array.mk.injEq, List.cons.injEq, and_true, Value.slice.injEq] at he; obtain ⟨⟨rfl, rfl, rfl⟩, rfl, rfl, rfl⟩ := he; go_wp2_with fail; exact bodyPost_ret (v := .tuple #[.agg #[.slice none 0 0, .slice none 0 0], .int .i64 _]) (by simp [results, Try.results19, go_sem, z1, z2]; rfl) rfl ⟨_, by rw [HF.out], by rw [HX.out]; exact hr, hbz⟩
  ·have HPQ := Lib.hid hpq; clear hpq; have p0 := cell_keep hb3 p0; have p1 := cell_keep hb3 p1; have p2 := cell_keep hb3 p2; have q0 := cell_keep hb3 q0; have q1 := cell_keep hb3 q1; have hpl := hpl.below hb3; have hqv := hqv.below hb3; have HE2 : Hid (E = if n < 0 ∨ 16 < n then 5 else 0) := by show _ = _; rw [HE.out]; unfold expE; rw [if_neg (by rw [HPE.out]; simp), if_neg (by rw [HPQ.out]; simp)]
   by_cases hn : n < 0
   ·have t1 : decide (n < 0) = true := by simpa using hn
    have HF : Hid (E = 5) := by show _ = _; rw [HE2.out, if_pos (.inl hn)]
    have HX : Hid (X = nilP) := HXE.out (by rw [HF.out]; decide); clear p0 p1 p2 q0 q1 hn; obtain ⟨A', k', c', A'', k'', c'', he, ⟨a1, e1⟩, ⟨a2, e2⟩, e3, e4, z1, z2, hr, hbz⟩ := ret_ratio (w0 := w) (nil_rtP w3) hs3 hgr hbw3; simp only [nilRat, Value.agg.injEq, Array.mk.injEq, List.cons.injEq, and_true, Value.slice.injEq] at he; obtain ⟨⟨rfl, rfl, rfl⟩, rfl, rfl, rfl⟩ := he; go_wp2_with fail; exact bodyPost_ret (v := .tuple #[.agg #[.slice none 0 0, .slice none 0 0], .int .i64 _]) (by simp [results, Try.results19, go_sem, z1, z2]; rfl) rfl ⟨_, by rw [HF.out], by rw [HX.out]; exact hr, hbz⟩
   ·have t1 : decide (n < 0) = false := by simpa using hn
    by_cases hn2 : n > 16
    ·have t2 : decide (n > 16) = true := by simpa using hn2
     have HF : Hid (E = 5) := by show _ = _; rw [HE2.out, if_pos (.inr hn2)]
     have HX : Hid (X = nilP) := HXE.out (by rw [HF.out]; decide); clear p0 p1 p2 q0 q1 hn hn2; obtain ⟨A', k', c', A'', k'', c'', he, ⟨a1, e1⟩, ⟨a2, e2⟩, e3, e4, z1, z2, hr, hbz⟩ := ret_ratio (w0 := w) (nil_rtP w3) hs3 hgr hbw3; simp only [nilRat, Value.agg.injEq, Array.mk.injEq, List.cons.injEq, and_true, Value.slice.injEq] at he; obtain ⟨⟨rfl, rfl, rfl⟩, rfl, rfl, rfl⟩ := he; go_wp2_with fail; exact bodyPost_ret (v := .tuple #[.agg #[.slice none 0 0, .slice none 0 0], .int .i64 _]) (by simp [results, Try.results19, go_sem, z1, z2]; rfl) rfl ⟨_, by rw [HF.out], by rw [HX.out]; exact hr, hbz⟩
    ·have t2 : decide (n > 16) = false := by simpa using hn2
     have HF : Hid (E = 0) := by show _ = _; rw [HE2.out, if_neg (by omega)]
     obtain ⟨nn, rfl⟩ := Int.eq_ofNat_of_zero_le (show 0 ≤ n by omega); have hnn : nn ≤ 16 := by omega
     have HX : Hid (X = (sumF nilP (expL b rows q nn)).2) := by
      show _ = _
      rw [HX0.out]; unfold expX; rw [if_neg (by rw [← HE.out, HF.out]; decide)]; rfl
     clear hn hn2 HE HE2 HX0 HXE; go_upto_region 8 with fail; refine region_invW (PhiE8 (.slice Q1 qk1 qc1) (.slice Q2 qk2 qc2) q w3.heap.size) (RT w3.heap.size) (SD w3 5 6 7) (by kernel_rfl) (by kernel_rfl) (by kernel_rfl) PhiE8.keep (SD.start _ _ _ _ _) (fun vs => by simp only [fillR, Act.put, sA, sB, sC, Nat.zero_add, Nat.reduceAdd]; rfl) ?_ ?_
     ·refine sK ?_ (sK ?_ (sK ?_ (sK ?_ (sK ?_ (sK ?_ (sK ?_ (sK ?_ (sZ))))))))
      ·as_aux_lemma =>
       intro vs L W hS hL cl hdl hdep K hK; refine ⟨?_⟩; simp only [Act.put, sA, sB, sC, Nat.zero_add, Nat.reduceAdd] at hK ⊢; go_simp; refine (wone_F _).mono ?_; rintro e w' ⟨v, rfl, hv, hb⟩; go_wp2_with fail; with_reducible refine hK _ _ (RT.below hb hS.be.size) (hS.step hb 0 _ (by decide) (fun e => absurd e (by decide))) ?_
       exact hv
      ·as_aux_lemma =>
       intro vs L W hS hL cl hdl hdep K hK; have f1 := cell_keep hS.be q0; have f2 := cell_keep hS.be q1; refine ⟨?_⟩; simp only [Act.put, sA, sB, sC, Nat.zero_add, Nat.reduceAdd] at hK ⊢; go_simp; with_reducible refine hK _ _ (RT.refl _ _) (hS.step (Below.refl _ _) 1 _ (by decide) (fun e => absurd e (by decide))) ?_
       exact rfl
      ·as_aux_lemma =>
       intro vs L W hS hL cl hdl hdep K hK; have d0 := hdep ⟨0, .data⟩ (by simp) rfl; simp only [PhiE8] at d0; have r0 := d0; clear d0; have d1 := hdep ⟨1, .data⟩ (by simp) rfl; simp only [PhiE8] at d1; refine ⟨?_⟩; simp only [Act.put, sA, sB, sC, Nat.zero_add, Nat.reduceAdd, d1] at hK ⊢; go_simp; refine (sub_V _ _ oneP q _ r0 (hqv.below hS.be)).mono ?_; rintro e w' ⟨v, er, rfl, hv, hb⟩; go_wp2_with fail; with_reducible refine hK _ _ (RT.below hb hS.be.size) (hS.step hb 2 _ (by decide) (fun e => absurd e (by decide))) ?_
       exact ⟨v, er, rfl, hv⟩
      ·as_aux_lemma =>
       intro vs L W hS hL cl hdl hdep K hK; have d0 := hdep ⟨2, .data⟩ (by simp) rfl; simp only [PhiE8] at d0; refine @exE2 _ _ _ _ d0 ?_; clear d0; intro v0 er0 d0; have e0 := d0.1; have n0 := d0.2; clear d0; refine ⟨?_⟩; simp only [Act.put, sA, sB, sC, Nat.zero_add, Nat.reduceAdd, e0] at hK ⊢; go_simp; with_reducible refine hK _ _ (RT.refl _ _) (hS.step (Below.refl _ _) 3 _ (by decide) (fun e => absurd e (by decide))) ?_
       exact n0
      ·as_aux_lemma =>
       intro vs L W hS hL cl hdl hdep K hK; have d0 := hdep ⟨2, .data⟩ (by simp) rfl; simp only [PhiE8] at d0; refine @exE2 _ _ _ _ d0 ?_; clear d0; intro v0 er0 d0; have e0 := d0.1; have n0 := d0.2; clear d0; refine ⟨?_⟩; simp only [Act.put, sA, sB, sC, Nat.zero_add, Nat.reduceAdd, e0] at hK ⊢; go_simp; with_reducible refine hK _ _ (RT.refl _ _) (hS.step (Below.refl _ _) 4 _ (by decide) (fun e => absurd e (by decide))) ?_
       exact ⟨_, rfl⟩
      ·as_aux_lemma =>
       intro vs L W hS hL cl hdl hdep K hK; have d0 := hdep ⟨3, .data⟩ (by simp) rfl; simp only [PhiE8] at d0; have r0 := d0; clear d0; have d1 := hdep ⟨4, .data⟩ (by simp) rfl; simp only [PhiE8] at d1; refine @exE1 _ _ _ d1 ?_; clear d1; intro er1 d1; have e1 := d1; clear d1
       have h7 : L 7 = false := by
        cases h : L 7 with
        | false => rfl
        | true => exact absurd (cl 7 _ rfl h ⟨5, .data⟩ (by simp) rfl) (by rw [hL]; decide)
       refine ⟨?_⟩; simp only [Act.put, sA, sB, sC, Nat.zero_add, Nat.reduceAdd, e1] at hK ⊢; go_simp; refine (sure_F _ _ (subV oneP q) _ r0).mono ?_; rintro e w' ⟨v, rfl, hv, hb⟩; obtain ⟨A, k, c, A', k', c', rfl⟩ := hv.shape; go_wp2_with fail; with_reducible refine hK _ _ (RT.below hb hS.be.size) (hS.step hb 5 _ (by decide) (fun _ => h7)) ?_
       exact ⟨_, _, _, _, _, _, rfl, hv⟩
      ·as_aux_lemma =>
       intro vs L W hS hL cl hdl hdep K hK
       have h7 : L 7 = false := by
        cases h : L 7 with
        | false => rfl
        | true => exact absurd (cl 7 _ rfl h ⟨6, .data⟩ (by simp) rfl) (by rw [hL]; decide)
       refine ⟨?_⟩; simp only [Act.put, sA, sB, sC, Nat.zero_add, Nat.reduceAdd] at hK ⊢; go_simp; with_reducible refine hK _ _ (RT.below (bA _ _) hS.be.size) (hS.step (bA _ _) 6 _ (by decide) (fun _ => h7)) ?_
       exact ⟨_, rfl, hS.be.size, none, 0, 0, none, 0, 0, Blk.new _ _ _⟩
      ·as_aux_lemma =>
       intro vs L W hS hL cl hdl hdep K hK; have d0 := hdep ⟨6, .data⟩ (by simp) rfl; simp only [PhiE8] at d0; refine @exE1 _ _ _ d0 ?_; clear d0; intro g0 d0; have e0 := d0.1; have l0 := d0.2.1; have s0 := d0.2.2; clear d0; have d1 := hdep ⟨5, .data⟩ (by simp) rfl; simp only [PhiE8] at d1; refine @exE6 _ _ _ _ _ _ _ _ d1 ?_; clear d1; intro A1 k1 c1 B1 m1 d1 d1; have e1 := d1.1; have n1 := d1.2; clear d1; obtain ⟨⟨a1, q1⟩, ⟨a2, q2⟩, q3, q4⟩ := s0.facts; refine ⟨?_⟩; simp only [Act.put, sA, sB, sC, Nat.zero_add, Nat.reduceAdd, e0, e1] at hK ⊢; go_simp; with_reducible refine hK undef _ (RT.store s0 l0 _ _ _ _ _ _) (hS.stored e0 e1 l0 s0 (by decide) (by decide) _) ?_
       exact trivial
     ·intro vs L w4 hS hall hv; have v8 := hv 5 (by simp); simp only [PhiE8] at v8; obtain ⟨_, _, _, _, _, _, e8', ho⟩ := v8; obtain ⟨gS, A9, k9, c9, B9, m9, d9, e10, e8, hgN, hblk⟩ := hS.st (hall 7 (by simp)); rw [e8] at e8'; rw [← e8'] at ho; have HO := Lib.hid ho; have hbe := hS.be; clear hv hS hall e8' ho; simp only [Act.put, sA, sB, sC, Nat.zero_add, Nat.reduceAdd, e10, e8]; have hbw4 := Below.tr hbw3 hbe; have hs4 := hs3.below hbe; have p0 := cell_keep hbe p0; have p1 := cell_keep hbe p1; have p2 := cell_keep hbe p2; have q0 := cell_keep hbe q0; have q1 := cell_keep hbe q1; have hpl := hpl.below hbe; have hqv := hqv.below hbe; have e0 := hblk.cell 0; have e1 := hblk.cell 1; simp only [List.getElem?_toArray, List.getElem?_cons_zero, List.getElem?_cons_succ] at e0 e1; have hR := HO.out; have HROW := Lib.hid (fun i r => plan_row (n := i) (r := r) HPE.out); clear hblk HO; go_wp2_with fail; refine (wone_F _).mono ?_; rintro e w5 ⟨v, rfl, hv, hb5⟩; obtain ⟨C1, u1, o1, C2, u2, o2, rfl⟩ := hv.shape; have hown0 := (RatOwn.one hv).mono hb5.size; have hb50 := Below.tr hb5 (bA w5 (.cells #[.slice C1 u1 o1, .slice C2 u2 o2] 25)); clear hv hb5; go_wp2_with fail
      go_loopg [10, 45] nn (fun j x10 x45 wr => ∃ (m : Nat) (X5 : List LP), x45 = .int .i64 m ∧ m + j = nn ∧ RatOwn wr w4.heap.size x10 X5 ∧ Hid (X5 = expL b rows q m) ∧ Below w4.heap.size w4 wr)
      case atStart => exact ⟨0, [oneP], rfl, by omega, hown0, rfl, hb50⟩
      case round =>
       obtain ⟨G, hG⟩ : ∃ G, G = gk := ⟨gk, rfl⟩; subst hG; obtain ⟨m, X5, rfl, hmj, hown, HXE5, hbe5⟩ := hrel; obtain ⟨wo, hwo⟩ : ∃ wo, wo = wr := ⟨_, rfl⟩; subst hwo; obtain ⟨Ao, co, rfl⟩ := hown.shp; have HXL : Hid (X5.length = m + 1) := by show _ = _; rw [HXE5.out, expL_len]
       obtain ⟨n1, HN1⟩ : ∃ n, Hid (n = m + 1) := ⟨_, rfl⟩; rw [HXL.out, ← HN1.out] at hown ⊢; by_cases hm : m < nn
       ·have t3 : decide ((m : Int) < (nn : Int)) = true := by simp; omega
        obtain ⟨n2, HN2⟩ : ∃ n, Hid (n = m + 2) := ⟨_, rfl⟩; have hmk := make_rat ((m : Int) + 2) n2 (by rw [HN2.out]; push_cast; rfl) (by have := HN2.out; omega) wo; go_upto_region 15 with fail; refine wp_name ?_; intro w6 HW6; obtain ⟨gX, hgX⟩ : ∃ g, Hid (g = wo.heap.size) := ⟨_, rfl⟩; obtain ⟨gN, hgN⟩ : ∃ g, Hid (g = wo.heap.size + 1) := ⟨_, rfl⟩; have hb6 : Below wo.heap.size wo w6 := by rw [HW6.out]; exact Below.tr (bA _ _) (bA _ _)
        have hownY : RatOwn w6 wo.heap.size (.slice (some ⟨gX, 0, none⟩) n2 n2) (nilP :: List.replicate n1 nilP) := by
         have h := (RatOwn.made wo n2 (by have := HN2.out; omega)).below (bA _ (.cells #[.slice (some ⟨wo.heap.size, 0, none⟩) n2 n2] 36)); rw [List.toArray_replicate, ← HW6.out, ← hgX.out, show List.replicate n2 nilP = nilP :: List.replicate n1 nilP by rw [HN2.out, HN1.out]; rfl] at h; rw [← hgX.out]; exact h
        have hN : w6.cell? ⟨gN, 0, none⟩ = some (.slice (some ⟨gX, 0, none⟩) n2 n2) := by
         have h : Blk w6 gN 36 #[.slice (some ⟨gX, 0, none⟩) n2 n2] := by rw [HW6.out, hgX.out]; exact Blk.newG (by rw [hgN.out]; simp)
         rw [h.cell]; rfl
        have hgXN : gX ≠ gN := by have := hgX.out; have := hgN.out; omega
        have hgXo : wo.heap.size ≤ gX := by have := hgX.out; omega
        rw [← hgN.out, ← hgX.out]; clear HW6 hmk hgN; go_wp2_with fail
        go_loopg [54] n1 (fun j x54 wx => ∃ (k : Nat) (P : List LP) (a : LP), x54 = .int .i64 k ∧ k + j = n1 ∧ Hid (P.length = k) ∧ Hid (expStep b rows q m 0 nilP X5 = P ++ expStep b rows q m k a (X5.drop k)) ∧ RatOwn wx wo.heap.size (.slice (some ⟨gX, 0, none⟩) n2 n2) (P ++ a :: List.replicate (n1 - k) nilP) ∧ wx.cell? ⟨gN, 0, none⟩ = some (.slice (some ⟨gX, 0, none⟩) n2 n2) ∧ Below wo.heap.size wo wx)
        case atStart => exact ⟨0, [], nilP, rfl, by omega, rfl, rfl, hownY, hN, hb6⟩
        case round =>
         obtain ⟨G2, hG2⟩ : ∃ G, G = gk := ⟨gk, rfl⟩; subst hG2; obtain ⟨k, P, a, rfl, hkj, HPL, HST, hownx, hNx, hbx⟩ := hrel; obtain ⟨wx, hwx⟩ : ∃ wx, wx = wr := ⟨_, rfl⟩; subst hwx; have hbwx := hbe5.trans (hbx.mono hbe5.size); by_cases hk : k < n1
         ·have t4 : decide ((k : Int) < (n1 : Int)) = true := by simp; omega
          have hkn : (k : Int) < (n1 : Int) := by omega
          obtain ⟨bo, oo, c1, c2, c, rfl, g1, g2, HS, hcv⟩ := ((hown.below hbx).row (by have := HXL.out; omega)).at_ hk; obtain ⟨C1, u1, o1, C2, u2, o2, hsh⟩ := hcv.shape; simp only [Value.agg.injEq, Array.mk.injEq, List.cons.injEq, and_true] at hsh; obtain ⟨rfl, rfl⟩ := hsh; go_upto_region 18 with fail; refine wp_name ?_; intro wy HWy; have hby : Below wx.heap.size wx wy := by rw [HWy.out]; exact bA _ _
          have hBc : Blk wy wx.heap.size 25 #[.slice C1 u1 o1, .slice C2 u2 o2] := by rw [HWy.out]; exact Blk.new _ _ _
          obtain ⟨gC, hgC⟩ : ∃ g, Hid (g = wx.heap.size) := ⟨_, rfl⟩; rw [← hgC.out] at hBc ⊢; obtain ⟨Y, HY⟩ : ∃ Y, Hid (Y = P ++ a :: List.replicate (n1 - k) nilP) := ⟨_, rfl⟩; rw [← HY.out] at hownx
          have hXC : gX ≠ gC := by
           have h1 := hownx.lt gX rfl; have h2 := hgC.out; omega
          have hbwy := hbwx.trans (hby.mono hbwx.size); have hown7 := hownx.below hby; have hN7 := Lib.hid (cell_keep hby hNx); have hc7 := hcv.below hby; have hp7 := hR.below hbwy; have hpl7 := hpl.below hbwy; have d07 := Lib.hid (hBc.cell 0); have d17 := Lib.hid (hBc.cell 1); have e07 := Lib.hid (cell_keep hbwy e0); have e17 := Lib.hid (cell_keep hbwy e1); have P07 := Lib.hid (cell_keep hbwy p0); have P17 := Lib.hid (cell_keep hbwy p1); have P27 := Lib.hid (cell_keep hbwy p2); simp only [List.getElem?_toArray, List.getElem?_cons_zero, List.getElem?_cons_succ] at d07 d17; have HYK7 : Hid (Y[k]? = some a) := by show _ = _; rw [HY.out]; exact get_mid HPL.out
          have hm20 : m ≤ 1048576 := by omega
          have hk20 : k ≤ 17 := by have := HN1.out; omega
          have HKR : Hid (∀ r, rows[m]? = some r → k < r.length) := fun r h => by have := HROW.out _ _ h; have := HN1.out; omega
          clear HWy g1 g2 hBc; refine region_chain [8] [.early, .early, .early, .early, .early, .early, .early, .early, .chain 0] [] [] (PhiEb gN kS cS m k S (.slice C1 u1 o1) (.slice C2 u2 o2) (.slice A9 k9 c9) (.slice B9 m9 d9) x1 x2 c (subV oneP q) (factorV b rows m k false)) (fun w w' => Below w.heap.size w w') (SEa wo.heap.size wy gX n2 n2 (Y.set k (addV a (mulV c (mulV (subV oneP q) (factorV b rows m k false)))))) (by kernel_rfl) (by kernel_rfl) (by kernel_rfl) (by kernel_rfl) (sK (fun _ _ _ _ _ h => h) (sK (fun _ _ _ _ _ h => h) (sK (fun _ _ _ _ _ h => h) (sK (fun _ _ _ _ _ h => h) (sK (fun _ _ _ _ _ h => h) (sK (fun _ _ _ _ _ h => h) (sK (fun _ _ _ _ _ h => h) (sK (fun _ _ _ _ _ h => h) (sK (fun _ _ _ _ _ h => h) (sZ)))))))))) PhiEb.keepR PhiEb.keepF (fun _ _ _ _ hR hS => Below.tr hS hR) (by rintro (_ | ⟨_, _ | _⟩) vs vs' w _ h <;> exact h) (fun _ => bD _) (fun vs => by simp only [fillR, Act.put, sA, sB, sC, Nat.zero_add, Nat.reduceAdd]; rfl) ?_ ?_
          ·refine sK ?_ (sK ?_ (sK ?_ (sK ?_ (sK ?_ (sK ?_ (sK ?_ (sK ?_ (sK ?_ (sZ)))))))))
           ·as_aux_lemma =>
            intro vs W hS hu hdep K hK; have HU := Lib.hid hu; clear hu; refine ⟨?_⟩; simp only [Act.put, sA, sB, sC, Nat.zero_add, Nat.reduceAdd] at hK ⊢; go_simp; with_reducible refine hK _ _ (Below.refl _ _) ?_
            exact rfl
           ·as_aux_lemma =>
            intro vs W hS hu hdep K hK; have HU := Lib.hid hu; clear hu; refine ⟨?_⟩; simp only [Act.put, sA, sB, sC, Nat.zero_add, Nat.reduceAdd] at hK ⊢; go_simp; with_reducible refine hK _ _ (Below.refl _ _) ?_
            exact rfl
           ·as_aux_lemma =>
            intro vs W hS hu hdep K hK; have HU := Lib.hid hu; clear hu; have f0 := cell_keep hS d07.out; have f1 := cell_keep hS d17.out; refine ⟨?_⟩; simp only [Act.put, sA, sB, sC, Nat.zero_add, Nat.reduceAdd] at hK ⊢; go_simp; with_reducible refine hK _ _ (Below.refl _ _) ?_
            exact rfl
           ·as_aux_lemma =>
            intro vs W hS hu hdep K hK; have HU := Lib.hid hu; clear hu; have f0 := cell_keep hS e07.out; have f1 := cell_keep hS e17.out; refine ⟨?_⟩; simp only [Act.put, sA, sB, sC, Nat.zero_add, Nat.reduceAdd] at hK ⊢; go_simp; with_reducible refine hK _ _ (Below.refl _ _) ?_
            exact rfl
           ·as_aux_lemma =>
            intro vs W hS hu hdep K hK; have HU := Lib.hid hu; clear hu; have f0 := cell_keep hS P07.out; have f1 := cell_keep hS P17.out; have f2 := cell_keep hS P27.out; refine ⟨?_⟩; simp only [Act.put, sA, sB, sC, Nat.zero_add, Nat.reduceAdd] at hK ⊢; go_simp; with_reducible refine hK _ _ (Below.refl _ _) ?_
            exact rfl
           ·as_aux_lemma =>
            intro vs W hS hu hdep K hK; have HU := Lib.hid hu; clear hu; refine ⟨?_⟩; simp only [Act.put, sA, sB, sC, Nat.zero_add, Nat.reduceAdd] at hK ⊢; go_simp; with_reducible refine hK _ _ (Below.refl _ _) ?_
            exact rfl
           ·as_aux_lemma =>
            intro vs W hS hu hdep K hK; have HU := Lib.hid hu; clear hu; refine ⟨?_⟩; simp only [Act.put, sA, sB, sC, Nat.zero_add, Nat.reduceAdd] at hK ⊢; go_simp; with_reducible refine hK _ _ (Below.refl _ _) ?_
            exact rfl
           ·as_aux_lemma =>
            intro vs W hS hu hdep K hK; have HU := Lib.hid hu; clear hu; have d0 := hdep ⟨4, .data⟩ (by simp) rfl; simp only [PhiEb] at d0; have d1 := hdep ⟨5, .data⟩ (by simp) rfl; simp only [PhiEb] at d1; have d2 := hdep ⟨6, .data⟩ (by simp) rfl; simp only [PhiEb] at d2; refine ⟨?_⟩; simp only [fillR, Act.put, sA, sB, sC, Nat.zero_add, Nat.reduceAdd, d0, d1, d2] at hK ⊢; go_simp; refine (factor_F _ b rows m k false _ (hpl7.below hS) hm20 HKR.out).mono ?_; rintro e w' ⟨v, rfl, hv, hb⟩; go_wp2_with fail; with_reducible refine hK _ _ hb ?_
            exact hv
           ·as_aux_lemma =>
            intro vs W hS hdep K hK; have d0 := hdep ⟨0, .data⟩ (by simp) rfl (by rfl); simp only [PhiEb] at d0; have d1 := hdep ⟨1, .data⟩ (by simp) rfl (by rfl); simp only [PhiEb] at d1; have d2 := hdep ⟨2, .data⟩ (by simp) rfl (by rfl); simp only [PhiEb] at d2; have d3 := hdep ⟨3, .data⟩ (by simp) rfl (by rfl); simp only [PhiEb] at d3; have d4 := hdep ⟨7, .data⟩ (by simp) rfl (by rfl); simp only [PhiEb] at d4; have hS : Below wy.heap.size wy W := hS; have hbS := Lib.hid hS; have HOW := hown7.below hS; have HNW := cell_keep hS hN7.out; refine ⟨?_⟩; simp only [Act.put, sA, sB, sC, Nat.zero_add, Nat.reduceAdd, d0, d1, d2, d3] at hK ⊢; go_simp; refine (expadd_F wo.heap.size gN gX n2 n2 k Y _ _ _ a c (subV oneP q) (factorV b rows m k false) W HOW HNW HYK7.out (by omega) (hc7.below hbS.out) (hp7.below hbS.out) d4).mono ?_; rintro e w' ⟨rfl, k1, k2, k3⟩; go_wp2_with fail; exact ⟨k1, grown_below hbS.out k2, fun A c l h => k3 _ _ _ (h.below hbS.out)⟩
          intro vs wz hS _; have hS2 : SEa wo.heap.size wy gX n2 n2 (Y.set k (addV a (mulV c (mulV (subV oneP q) (factorV b rows m k false))))) [vs 8] vs wz := hS; obtain ⟨hown8, hg8, hl8⟩ := hS2; clear hS; obtain ⟨Y8, HY8⟩ : ∃ Y8, Hid (Y8 = (Y.set k (addV a (mulV c (mulV (subV oneP q) (factorV b rows m k false)))))) := ⟨_, rfl⟩; rw [← HY8.out] at hown8; have hbo8 : Below wo.heap.size wo wz := below_own (hbx.trans (hby.mono hbx.size)) hg8 hgXo (Nat.le_trans hbx.size hby.size); have hbwz := hbe5.trans (hbo8.mono hbe5.size); have hN8 := Lib.hid (hg8.cell hN7.out (by simp; exact fun e => hgXN e.symm)); have d08 := Lib.hid (hg8.cell d07.out (by simp; exact fun e => hXC e.symm)); have d18 := Lib.hid (hg8.cell d17.out (by simp; exact fun e => hXC e.symm)); have hc8 := hc7.mapL hl8; have hp8 := hqv.below hbwz; have hpl8 := hpl.below hbwz; have e08 := Lib.hid (cell_keep hbwz q0); have e18 := Lib.hid (cell_keep hbwz q1); have P08 := Lib.hid (cell_keep hbwz p0); have P18 := Lib.hid (cell_keep hbwz p1); have P28 := Lib.hid (cell_keep hbwz p2); obtain ⟨j, hj⟩ : ∃ j, n1 - k = j + 1 := ⟨n1 - k - 1, by omega⟩
          have HYE : Hid (Y8 = P ++ (addV a (mulV c (mulV (subV oneP q) (factorV b rows m k false)))) :: nilP :: List.replicate (n1 - (k + 1)) nilP) := by
           show _ = _
           rw [HY8.out, HY.out, hj, show n1 - (k + 1) = j by omega, set_mid HPL.out]; rfl
          have HYK8 : Hid (Y8[k + 1]? = some nilP) := by show _ = _; rw [HYE.out]; exact get_mid2 HPL.out
          have s1 : IntKind.i64.wrap ((k : Int) + 1) = (k : Int) + 1 := by rw [IntWalk.i64_in _ (by omega)]
          clear hown7 hN7 d07 d17 e07 e17 P07 P17 P27 hp7 hpl7 HYK7 hc7 hl8 HY8 HY hcv hj; go_upto_region 19 with fail; refine region_chain [9] [.early, .early, .early, .early, .early, .early, .early, .early, .early, .chain 0] [] [] (PhiEc gN kS cS m k S (.slice C1 u1 o1) (.slice C2 u2 o2) (.slice Q1 qk1 qc1) (.slice Q2 qk2 qc2) x1 x2 c q (factorV b rows m k true)) (fun w w' => Below w.heap.size w w') (SEa wo.heap.size wz gX n2 n2 (Y8.set (k + 1) (addV nilP (mulV c (mulV q (factorV b rows m k true)))))) (by kernel_rfl) (by kernel_rfl) (by kernel_rfl) (by kernel_rfl) (sK (fun _ _ _ _ _ h => h) (sK (fun _ _ _ _ _ h => h) (sK (fun _ _ _ _ _ h => h) (sK (fun _ _ _ _ _ h => h) (sK (fun _ _ _ _ _ h => h) (sK (fun _ _ _ _ _ h => h) (sK (fun _ _ _ _ _ h => h) (sK (fun _ _ _ _ _ h => h) (sK (fun _ _ _ _ _ h => h) (sK (fun _ _ _ _ _ h => h) (sZ))))))))))) PhiEc.keepR PhiEc.keepF (fun _ _ _ _ hR hS => Below.tr hS hR) (by rintro (_ | ⟨_, _ | _⟩) vs vs' w _ h <;> exact h) (fun _ => bD _) (fun vs => by simp only [fillR, Act.put, sA, sB, sC, Nat.zero_add, Nat.reduceAdd]; rfl) ?_ ?_
          ·refine sK ?_ (sK ?_ (sK ?_ (sK ?_ (sK ?_ (sK ?_ (sK ?_ (sK ?_ (sK ?_ (sK ?_ (sZ))))))))))
           ·as_aux_lemma =>
            intro vs W hS hu hdep K hK; have HU := Lib.hid hu; clear hu; refine ⟨?_⟩; simp only [Act.put, sA, sB, sC, Nat.zero_add, Nat.reduceAdd] at hK ⊢; go_simp; with_reducible refine hK _ _ (Below.refl _ _) ?_
            exact rfl
           ·as_aux_lemma =>
            intro vs W hS hu hdep K hK; have HU := Lib.hid hu; clear hu; refine ⟨?_⟩; simp only [Act.put, sA, sB, sC, Nat.zero_add, Nat.reduceAdd] at hK ⊢; go_simp; with_reducible refine hK _ _ (Below.refl _ _) ?_
            exact rfl
           ·as_aux_lemma =>
            intro vs W hS hu hdep K hK; have HU := Lib.hid hu; clear hu; have d0 := hdep ⟨1, .data⟩ (by simp) rfl; simp only [PhiEc] at d0; refine ⟨?_⟩; simp only [Act.put, sA, sB, sC, Nat.zero_add, Nat.reduceAdd, d0] at hK ⊢; go_simp; with_reducible refine hK _ _ (Below.refl _ _) ?_
            exact rfl
           ·as_aux_lemma =>
            intro vs W hS hu hdep K hK; have HU := Lib.hid hu; clear hu; have f0 := cell_keep hS d08.out; have f1 := cell_keep hS d18.out; refine ⟨?_⟩; simp only [Act.put, sA, sB, sC, Nat.zero_add, Nat.reduceAdd] at hK ⊢; go_simp; with_reducible refine hK _ _ (Below.refl _ _) ?_
            exact rfl
           ·as_aux_lemma =>
            intro vs W hS hu hdep K hK; have HU := Lib.hid hu; clear hu; have f0 := cell_keep hS e08.out; have f1 := cell_keep hS e18.out; refine ⟨?_⟩; simp only [Act.put, sA, sB, sC, Nat.zero_add, Nat.reduceAdd] at hK ⊢; go_simp; with_reducible refine hK _ _ (Below.refl _ _) ?_
            exact rfl
           ·as_aux_lemma =>
            intro vs W hS hu hdep K hK; have HU := Lib.hid hu; clear hu; have f0 := cell_keep hS P08.out; have f1 := cell_keep hS P18.out; have f2 := cell_keep hS P28.out; refine ⟨?_⟩; simp only [Act.put, sA, sB, sC, Nat.zero_add, Nat.reduceAdd] at hK ⊢; go_simp; with_reducible refine hK _ _ (Below.refl _ _) ?_
            exact rfl
           ·as_aux_lemma =>
            intro vs W hS hu hdep K hK; have HU := Lib.hid hu; clear hu; refine ⟨?_⟩; simp only [Act.put, sA, sB, sC, Nat.zero_add, Nat.reduceAdd] at hK ⊢; go_simp; with_reducible refine hK _ _ (Below.refl _ _) ?_
            exact rfl
           ·as_aux_lemma =>
            intro vs W hS hu hdep K hK; have HU := Lib.hid hu; clear hu; refine ⟨?_⟩; simp only [Act.put, sA, sB, sC, Nat.zero_add, Nat.reduceAdd] at hK ⊢; go_simp; with_reducible refine hK _ _ (Below.refl _ _) ?_
            exact rfl
           ·as_aux_lemma =>
            intro vs W hS hu hdep K hK; have HU := Lib.hid hu; clear hu; have d0 := hdep ⟨5, .data⟩ (by simp) rfl; simp only [PhiEc] at d0; have d1 := hdep ⟨6, .data⟩ (by simp) rfl; simp only [PhiEc] at d1; have d2 := hdep ⟨7, .data⟩ (by simp) rfl; simp only [PhiEc] at d2; refine ⟨?_⟩; simp only [fillR, Act.put, sA, sB, sC, Nat.zero_add, Nat.reduceAdd, d0, d1, d2] at hK ⊢; go_simp; refine (factor_F _ b rows m k true _ (hpl8.below hS) hm20 HKR.out).mono ?_; rintro e w' ⟨v, rfl, hv, hb⟩; go_wp2_with fail; with_reducible refine hK _ _ hb ?_
            exact hv
           ·as_aux_lemma =>
            intro vs W hS hdep K hK; have d0 := hdep ⟨0, .data⟩ (by simp) rfl (by rfl); simp only [PhiEc] at d0; have d1 := hdep ⟨2, .data⟩ (by simp) rfl (by rfl); simp only [PhiEc] at d1; have d2 := hdep ⟨3, .data⟩ (by simp) rfl (by rfl); simp only [PhiEc] at d2; have d3 := hdep ⟨4, .data⟩ (by simp) rfl (by rfl); simp only [PhiEc] at d3; have d4 := hdep ⟨8, .data⟩ (by simp) rfl (by rfl); simp only [PhiEc] at d4; have hS : Below wz.heap.size wz W := hS; have hbS := Lib.hid hS; have HOW := hown8.below hS; have HNW := cell_keep hS hN8.out; refine ⟨?_⟩; simp only [Act.put, sA, sB, sC, Nat.zero_add, Nat.reduceAdd, d0, d1, d2, d3] at hK ⊢; go_simp; refine (expadd_F wo.heap.size gN gX n2 n2 (k + 1) Y8 _ _ _ nilP c q (factorV b rows m k true) W HOW HNW HYK8.out (by omega) (hc8.below hbS.out) (hp8.below hbS.out) d4).mono ?_; rintro e w' ⟨rfl, k1, k2, k3⟩; go_wp2_with fail; exact ⟨k1, grown_below hbS.out k2, fun A c l h => k3 _ _ _ (h.below hbS.out)⟩
          intro vs' wv hS _; have hS3 : SEa wo.heap.size wz gX n2 n2 (Y8.set (k + 1) (addV nilP (mulV c (mulV q (factorV b rows m k true))))) [vs' 9] vs' wv := hS; obtain ⟨hown9, hg9, hl9⟩ := hS3; clear hS; have hbo9 : Below wo.heap.size wo wv := below_own hbo8 hg9 hgXo hbo8.size; have hN9 := hg9.cell hN8.out (by simp; exact fun e => hgXN e.symm); have HPL9 : Hid ((P ++ [(addV a (mulV c (mulV (subV oneP q) (factorV b rows m k false))))]).length = k + 1) := by show _ = _; rw [List.length_append, HPL.out]; rfl
          rw [HYE.out, set_mid2 HPL.out, List.append_cons] at hown9; have HST9 := HST.out; rw [expStep_drop HS.out, List.append_cons] at HST9; have HST9 := Lib.hid HST9; clear hown8 hN8 d08 d18 e08 e18 P08 P18 P28 hp8 hpl8 HYK8 hc8 hl9 HST HYE hownx hNx; go_wp2_with fail
          go_roundg (G2 - 1)
          case measure => omega
          case rel => exact ⟨k + 1, _, _, by go_num, by omega, HPL9, HST9, hown9, hN9, hbo9⟩
         ·have t4 : decide ((k : Int) < (n1 : Int)) = false := by simp; omega
          have hkn : k = n1 := by omega
          have hst := HST.out; rw [List.drop_eq_nil_of_le (by have := HXL.out; have := HN1.out; omega)] at hst
          have HE9 : Hid (P ++ a :: List.replicate (n1 - k) nilP = expL b rows q (m + 1)) := by
           show _ = _
           rw [show n1 - k = 0 by omega]; unfold expL; rw [← HXE5.out, hst]; rfl
          rw [HE9.out] at hownx; have hown9 := hownx.mono hbe5.size; clear hst HST hownx hkn; go_wp2_with fail
          go_roundg (G - 1)
          case measure => omega
          case rel => exact ⟨m + 1, _, by go_num, by omega, hown9, rfl, hbwx⟩
       ·have t3 : decide ((m : Int) < (nn : Int)) = false := by simp; omega
        have hmn : m = nn := by omega
        have HX9 : Hid (X = (sumF nilP X5).2) := by show _ = _; rw [HX.out, HXE5.out, hmn]
        have hrow := hown.row (by have := HXL.out; omega); have hbw5 := Below.tr hbw4 (hbe5.mono (Nat.le_refl _)); have hs5 := hs4.below (hbe5.mono (Nat.le_refl _)); clear hmn hown; go_wp2_with fail; refine (sum_F _ _ _ X5 _ hrow).mono ?_; rintro e w8 ⟨v, rfl, hv, hb8⟩; go_wp2_with fail; refine (sure_F _ _ _ _ hv).mono ?_; rintro e w9 ⟨v, rfl, hv, hb9⟩; obtain ⟨A, k', c, A', k'', c'', rfl, ⟨a1, r1⟩, ⟨a2, r2⟩, r3, r4, z1, z2, hr, hbz⟩ := ret_ratio (w0 := w) hv ((hs5.below hb8).below hb9) hgr (Below.tr (Below.tr hbw5 hb8) hb9); clear p0 p1 p2 q0 q1 e0 e1 hpl hqv hR hrow; go_wp2_with fail; exact bodyPost_ret (v := .tuple #[.agg #[.slice A k' c, .slice A' k'' c''], .int .i64 0]) (by simp [results, Try.results19, go_sem, z1, z2]) rfl ⟨_, by rw [HF.out], by rw [HX9.out]; exact hr, hbz⟩
 ·have t1 : (planE b rows != 0) = true := by simpa using h0
  have HF : Hid (E = planE b rows) := by show _ = _; rw [HE.out]; unfold expE; rw [if_pos h0]
  have HX : Hid (X = nilP) := HXE.out (by rw [HF.out]; exact h0); clear h0 p0 p1 p2 q0 q1; obtain ⟨A', k', c', A'', k'', c'', he, ⟨a1, e1⟩, ⟨a2, e2⟩, e3, e4, z1, z2, hr, hbz⟩ := ret_ratio (w0 := w) (nil_rtP w2) hs2 hgr hbw2; simp only [nilRat, Value.agg.injEq, Array.mk.injEq, List.cons.injEq, and_true, Value.slice.injEq] at he; obtain ⟨⟨rfl, rfl, rfl⟩, rfl, rfl, rfl⟩ := he; go_wp2_with fail; exact bodyPost_ret (v := .tuple #[.agg #[.slice none 0 0, .slice none 0 0], .int .i64 _]) (by simp [results, Try.results19, go_sem, z1, z2]; rfl) rfl ⟨_, by rw [HF.out], by rw [HX.out]; exact hr, hbz⟩
end Go.Proofs.Ytnjjdiilkhdbeaa
