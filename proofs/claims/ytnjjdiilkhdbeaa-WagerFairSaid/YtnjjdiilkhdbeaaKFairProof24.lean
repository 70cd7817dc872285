import Derived.Test.YtnjjdiilkhdbeaaKFairProof23
import Derived.Test.YtnjjdiilkhdbeaaS0
set_option linter.unusedVariables false
set_option linter.unusedSimpArgs false
namespace Go.Proofs.Ytnjjdiilkhdbeaa
open Go Go.RowKit
theorem Blk.newG {w : World} {T : TypeId} {arr : Array Value} {g : Nat} (h : g = w.heap.size) : Blk (w.alloc (.cells arr T)) g T arr := h ▸ Blk.new w T arr
theorem Blk.setFar {w : World} {T : TypeId} {arr : Array Value} {g g' i : Nat} (h : Blk w g T arr) (hne : g ≠ g') (v : Value) : Blk (w.setCell ⟨g', i, none⟩ v) g T arr := (Below.heap_setCell _ ⟨g', i, none⟩ _ g hne).trans h
def SMo (B gR : Nat) (w0 wr : World) (y : LP) : List Value → (Nat → Value) → World → Prop
 | [], _, W => Below wr.heap.size wr W
 | [_], _, W => GoodX W gR y ∧ Below B w0 W
 | _, _, _ => True
def PhiMo (gl gn gf gp gh : Nat) (y : LP) (vs : Nat → Value) (j : Nat) (w : World) (x : Value) : Prop :=
 match j with
 | 0 => x = .func (.func 71) #[] #[.pointer (some ⟨gl, 0, none⟩), .pointer (some ⟨gn, 0, none⟩), .pointer (some ⟨gf, 0, none⟩), .pointer (some ⟨gp, 0, none⟩), .pointer (some ⟨gh, 0, none⟩)]
 | 1 => RtP w x oneP
 | 2 => RtP w x y
 | _ => True
theorem PhiMo.keepR {gl gn gf gp gh : Nat} {y : LP} : ∀ vs (w w' : World), Below w.heap.size w w' → ∀ j x, PhiMo gl gn gf gp gh y vs j w x → PhiMo gl gn gf gp gh y vs j w' x := by
 intro vs w w' hb j x h; unfold PhiMo at h ⊢
 split <;> simp only at h ⊢
 all_goals first
  | exact h
  | exact h.below hb
theorem PhiMo.keepF {gl gn gf gp gh : Nat} {y : LP} : ∀ vs (w w' : World) j x, ([] : List Nat).contains j = true → PhiMo gl gn gf gp gh y vs j w x → PhiMo gl gn gf gp gh y vs j w' x := by
 intro vs w w' j x hf
 cases hf
set_option maxRecDepth 100000 in
set_option maxHeartbeats 4000000 in
theorem moments_Fr (va vl : Value) (gq n : Nat) (b level : LP) (rows : List (List LP)) (ch : LP → LP → LP) (w : World) (hn : n ≤ 10) (h0 : planE b rows = 0) (hp : PlanV w va b rows) (hl : RtP w vl level) (hch : ChS 39 gq ch w) :
  Calls Try.prog 38 #[va, .int .i64 (n : Int), vl, .func (.func 39) #[] #[.pointer (some ⟨gq, 0, none⟩)]] w fun e w' => ∃ v, e = .returned v ∧ RtP w' v (reachV ch b rows level n 0 0 oneP) ∧ Below w.heap.size w w' := by
 obtain ⟨x1, x2, S, kS, cS, rfl, hbd, hrows⟩ := hp; obtain ⟨L1, lk1, lc1, L2, lk2, lc2, rfl⟩ := hl.shape
 go_enter Try.func38, Try.ntmps38
 go_upto_region 1 with fail; refine wp_name ?_; intro w1 HW1; have hb1 : Below w.heap.size w w1 := by rw [HW1.out]; exact (Below.tr (Below.tr (Below.tr (Below.tr (bA _ _) (bA _ _)) (bA _ _)) (bA _ _)) (bA _ _))
 obtain ⟨T1, hB1⟩ : ∃ T, Blk w1 w.heap.size T #[x1, x2, .slice S kS cS] := ⟨_, by rw [HW1.out]; exact Blk.below (Blk.newG rfl) (Below.tr (Below.tr (Below.tr (bA _ _) (bA _ _)) (bA _ _)) (bA _ _)) (Blk.newG rfl).lt⟩; obtain ⟨T2, hB2⟩ : ∃ T, Blk w1 (w.heap.size + 1) T #[.int .i64 (n : Int)] := ⟨_, by rw [HW1.out]; exact Blk.below (Blk.newG (by simp)) (Below.tr (Below.tr (bA _ _) (bA _ _)) (bA _ _)) (by simp)⟩; obtain ⟨T3, hB3⟩ : ∃ T, Blk w1 (w.heap.size + 1 + 1) T #[.slice L1 lk1 lc1, .slice L2 lk2 lc2] := ⟨_, by rw [HW1.out]; exact Blk.below (Blk.newG (by simp)) (Below.tr (bA _ _) (bA _ _)) (by simp)⟩; obtain ⟨T4, hB4⟩ : ∃ T, Blk w1 (w.heap.size + 1 + 1 + 1) T #[.func (.func 39) #[] #[.pointer (some ⟨gq, 0, none⟩)]] := ⟨_, by rw [HW1.out]; exact Blk.below (Blk.newG (by simp)) (bA _ _) (by simp)⟩; have hs1 : Sl w1 (w.heap.size + 1 + 1 + 1 + 1) := by rw [HW1.out]; exact ⟨none, 0, 0, none, 0, 0, Blk.newG (by simp)⟩
 have hsz1 : Hid (w1.heap.size = w.heap.size + 5) := by show _ = _; rw [HW1.out]; simp
 clear HW1; go_upto_region 2 with fail; refine wp_name ?_; intro w2 HW2; have hb2 : Below w1.heap.size w1 w2 := by rw [HW2.out]; exact bA _ _
 obtain ⟨T5, z5, hB5⟩ : ∃ T z, Blk w2 w1.heap.size T #[z] := ⟨_, _, by rw [HW2.out]; exact Blk.newG rfl⟩; obtain ⟨gl, hgl⟩ : ∃ g, Hid (g = w.heap.size + 1 + 1) := ⟨_, rfl⟩; obtain ⟨gn, hgn⟩ : ∃ g, Hid (g = w.heap.size + 1) := ⟨_, rfl⟩; obtain ⟨gp, hgp⟩ : ∃ g, Hid (g = w.heap.size) := ⟨_, rfl⟩; obtain ⟨gh, hgh⟩ : ∃ g, Hid (g = w.heap.size + 1 + 1 + 1) := ⟨_, rfl⟩; obtain ⟨gR, hgR⟩ : ∃ g, Hid (g = w.heap.size + 1 + 1 + 1 + 1) := ⟨_, rfl⟩; obtain ⟨gf, hgf⟩ : ∃ g, Hid (g = w1.heap.size) := ⟨_, rfl⟩; have hgr : w.heap.size ≤ gR := by have := hgR.out; omega
 have hB1 := hB1.below hb2 hB1.lt; have hB2 := hB2.below hb2 hB2.lt; have hB3 := hB3.below hb2 hB3.lt; have hB4 := hB4.below hb2 hB4.lt; have hs2 := hs1.below hb2; have hne : ∀ g, g < w1.heap.size → g ≠ gf := fun g hg => by have := hgf.out; omega
 have hsz := hsz1.out; rw [← hgf.out] at hB5; have n1 := hne _ (by have := hB1.lt; omega : w.heap.size < w1.heap.size); have n2 := hne (w.heap.size + 1) (by omega); have n3 := hne (w.heap.size + 1 + 1) (by omega); have n4 := hne (w.heap.size + 1 + 1 + 1) (by omega); have n5 := hne (w.heap.size + 1 + 1 + 1 + 1) (by omega); have hbw2 := Below.tr hb1 hb2; have hgf2 : w.heap.size ≤ gf := by have := hgf.out; omega
 clear hsz; rw [← hgf.out]; rw [← hgR.out] at hs2 n5 ⊢; rw [← hgh.out] at hB4 n4 ⊢; rw [← hgl.out] at hB3 n3 ⊢; rw [← hgn.out] at hB2 n2 ⊢; rw [← hgp.out] at hB1 n1 ⊢; have f1 := hB5.cell 0; have f2 := hB5.frozen 0; simp only [List.getElem?_toArray, List.getElem?_cons_zero] at f1; clear HW2 hs1 hne; go_upto_region 3 with fail; refine wp_name ?_; intro w3 HW3; have hb3 : Below w.heap.size w w3 := by rw [HW3.out]; exact hbw2.setCell (p := ⟨gf, 0, none⟩) hgf2 _
 have hs3 : Sl w3 gR := by
  obtain ⟨r1, r2, r3, r4, r5, r6, hres⟩ := hs2; rw [HW3.out]; exact ⟨r1, r2, r3, r4, r5, r6, hres.setFar n5 _⟩
 have c3 := (show Blk w3 gl T3 _ by rw [HW3.out]; exact hB3.setFar n3 _); have c2 := (show Blk w3 gn T2 _ by rw [HW3.out]; exact hB2.setFar n2 _); have c4 := (show Blk w3 gh T4 _ by rw [HW3.out]; exact hB4.setFar n4 _); have c1 := (show Blk w3 gp T1 _ by rw [HW3.out]; exact hB1.setFar n1 _); have c5 : w3.cell? ⟨gf, 0, none⟩ = some (.func (.func 71) #[] #[.pointer (some ⟨gl, 0, none⟩), .pointer (some ⟨gn, 0, none⟩), .pointer (some ⟨gf, 0, none⟩), .pointer (some ⟨gp, 0, none⟩), .pointer (some ⟨gh, 0, none⟩)]) := by rw [HW3.out, (hB5.set_ 0 _).cell]; rfl
 have hM : MomS gl gn gf gp gh 39 gq n (.slice L1 lk1 lc1) (.slice L2 lk2 lc2) x1 x2 S kS cS ch b rows level w3 :=
  ⟨by rw [c3.cell]; rfl, by rw [c3.cell]; rfl, hl.below hb3, by rw [c2.cell]; rfl, c5, by rw [c1.cell]; rfl, by rw [c1.cell]; rfl, by rw [c1.cell]; rfl, ⟨x1, x2, S, kS, cS, rfl, hbd.below hb3, hrows.below hb3⟩, by rw [c4.cell]; rfl, fun W va vb a b hW ha hb => hch W va vb a b (Below.tr hb3 hW) ha hb⟩
 clear c1 c2 c3 c4 c5 HW3 hB1 hB2 hB3 hB4 hB5 hb1 hb2 hbw2 f1 f2 hs2 hsz1 hgl hgn hgh hgR hgp hgf hbd hrows hl hch; refine region_chain [3] [.early, .early, .early, .chain 0] [] [] (PhiMo gl gn gf gp gh (reachV ch b rows level n 0 0 oneP)) (fun w w' => Below w.heap.size w w') (SMo w.heap.size gR w w3 (reachV ch b rows level n 0 0 oneP)) (by kernel_rfl) (by kernel_rfl) (by kernel_rfl) (by kernel_rfl) (sK (fun _ _ _ _ _ h => h) (sK (fun _ _ _ _ _ h => h) (sK (fun _ _ _ _ _ h => h) (sK (fun _ _ _ _ _ h => h) (sZ))))) PhiMo.keepR PhiMo.keepF (fun _ _ _ _ hR hS => Below.tr hS hR) (by rintro (_ | ⟨_, _ | _⟩) vs vs' w _ h <;> exact h) (fun _ => bD _) (fun vs => by simp only [fillR, Act.put, sA, sB, sC, Nat.zero_add, Nat.reduceAdd]; rfl) ?_ ?_
 ·refine sK ?_ (sK ?_ (sK ?_ (sK ?_ (sZ))))
  ·as_aux_lemma =>
   intro vs W hS hu hdep K hK; have HU := Lib.hid hu; clear hu; have f1 := cell_keep hS hM.cf; refine ⟨?_⟩; simp only [Act.put, sA, sB, sC, Nat.zero_add, Nat.reduceAdd] at hK ⊢; go_simp; with_reducible refine hK _ _ (Below.refl _ _) ?_
   exact rfl
  ·as_aux_lemma =>
   intro vs W hS hu hdep K hK; have HU := Lib.hid hu; clear hu; refine ⟨?_⟩; simp only [fillR, Act.put, sA, sB, sC, Nat.zero_add, Nat.reduceAdd] at hK ⊢; go_simp; refine (wone_F _).mono ?_; rintro e w' ⟨v, rfl, hv, hb⟩; go_wp2_with fail; with_reducible refine hK _ _ hb ?_
   exact hv
  ·as_aux_lemma =>
   intro vs W hS hu hdep K hK; have HU := Lib.hid hu; clear hu; have d0 := hdep ⟨0, .data⟩ (by simp) rfl; simp only [PhiMo] at d0; have d1 := hdep ⟨1, .data⟩ (by simp) rfl; simp only [PhiMo] at d1; have r1 := d1; clear d1; refine ⟨?_⟩; simp only [fillR, Act.put, sA, sB, sC, Nat.zero_add, Nat.reduceAdd, d0] at hK ⊢; go_simp; refine (moments_r gl gn gf gp gh gq n _ _ x1 x2 S kS cS ch b rows level hn h0 n 0 0 _ oneP _ (by omega) (by omega) (hM.below hS) r1).mono ?_; rintro e w' ⟨v, rfl, hv, hb⟩; go_wp2_with fail; with_reducible refine hK _ _ hb ?_
   exact hv
  ·as_aux_lemma =>
   intro vs W hS hdep K hK; have d0 := hdep ⟨2, .data⟩ (by simp) rfl (by rfl); simp only [PhiMo] at d0; have hS : Below w3.heap.size w3 W := hS; obtain ⟨E1, k1, c1, E2, k2, c2, e0⟩ := d0.shape; rw [e0] at d0; have hsl := hs3.below hS; obtain ⟨r1, r2, r3, r4, r5, r6, hres⟩ := hsl; have f1 := hres.cell 0; have f2 := hres.cell 1; have f3 := hres.frozen 0; have f4 := hres.frozen 1; simp at f1 f2; have HR := Lib.hid (RX.store (B := w.heap.size) (hs3.below hS) hgr d0); have hbe4 := Below.tr hb3 hS; clear hres hS; refine ⟨?_⟩; simp only [Act.put, sA, sB, sC, Nat.zero_add, Nat.reduceAdd, e0] at hK ⊢; go_simp; with_reducible refine hK undef _ ?_
   exact ⟨HR.out.2, hbe4.trans HR.out.1.be⟩
 ·intro vs W hS _; have hS2 : SMo w.heap.size gR w w3 (reachV ch b rows level n 0 0 oneP) [vs 3] vs W := hS; obtain ⟨⟨A, k, c, A', k', c', hblk, hP⟩, hbz⟩ := hS2; have q1 := hblk.cell 0; have q2 := hblk.cell 1; simp at q1 q2; have HP := Lib.hid hP; clear hblk hP hS hM hs3; go_wp2_with fail; exact bodyPost_ret (v := .agg #[.slice A k c, .slice A' k' c']) (by simp [results, Try.results38, go_sem, q1, q2]) rfl ⟨_, rfl, HP.out, hbz⟩
set_option maxRecDepth 100000 in
set_option maxHeartbeats 4000000 in
theorem moments_Fw (va vl : Value) (gq n : Nat) (b level : LP) (rows : List (List LP)) (ch : LP → LP → LP) (w : World) (hn : n ≤ 10) (h0 : planE b rows = 0) (hp : PlanV w va b rows) (hl : RtP w vl level) (hch : ChS 41 gq ch w) :
  Calls Try.prog 38 #[va, .int .i64 (n : Int), vl, .func (.func 41) #[] #[.pointer (some ⟨gq, 0, none⟩)]] w fun e w' => ∃ v, e = .returned v ∧ RtP w' v (reachV ch b rows level n 0 0 oneP) ∧ Below w.heap.size w w' := by
 obtain ⟨x1, x2, S, kS, cS, rfl, hbd, hrows⟩ := hp; obtain ⟨L1, lk1, lc1, L2, lk2, lc2, rfl⟩ := hl.shape
 go_enter Try.func38, Try.ntmps38
 go_upto_region 1 with fail; refine wp_name ?_; intro w1 HW1; have hb1 : Below w.heap.size w w1 := by rw [HW1.out]; exact (Below.tr (Below.tr (Below.tr (Below.tr (bA _ _) (bA _ _)) (bA _ _)) (bA _ _)) (bA _ _))
 obtain ⟨T1, hB1⟩ : ∃ T, Blk w1 w.heap.size T #[x1, x2, .slice S kS cS] := ⟨_, by rw [HW1.out]; exact Blk.below (Blk.newG rfl) (Below.tr (Below.tr (Below.tr (bA _ _) (bA _ _)) (bA _ _)) (bA _ _)) (Blk.newG rfl).lt⟩; obtain ⟨T2, hB2⟩ : ∃ T, Blk w1 (w.heap.size + 1) T #[.int .i64 (n : Int)] := ⟨_, by rw [HW1.out]; exact Blk.below (Blk.newG (by simp)) (Below.tr (Below.tr (bA _ _) (bA _ _)) (bA _ _)) (by simp)⟩; obtain ⟨T3, hB3⟩ : ∃ T, Blk w1 (w.heap.size + 1 + 1) T #[.slice L1 lk1 lc1, .slice L2 lk2 lc2] := ⟨_, by rw [HW1.out]; exact Blk.below (Blk.newG (by simp)) (Below.tr (bA _ _) (bA _ _)) (by simp)⟩; obtain ⟨T4, hB4⟩ : ∃ T, Blk w1 (w.heap.size + 1 + 1 + 1) T #[.func (.func 41) #[] #[.pointer (some ⟨gq, 0, none⟩)]] := ⟨_, by rw [HW1.out]; exact Blk.below (Blk.newG (by simp)) (bA _ _) (by simp)⟩; have hs1 : Sl w1 (w.heap.size + 1 + 1 + 1 + 1) := by rw [HW1.out]; exact ⟨none, 0, 0, none, 0, 0, Blk.newG (by simp)⟩
 have hsz1 : Hid (w1.heap.size = w.heap.size + 5) := by show _ = _; rw [HW1.out]; simp
 clear HW1; go_upto_region 2 with fail; refine wp_name ?_; intro w2 HW2; have hb2 : Below w1.heap.size w1 w2 := by rw [HW2.out]; exact bA _ _
 obtain ⟨T5, z5, hB5⟩ : ∃ T z, Blk w2 w1.heap.size T #[z] := ⟨_, _, by rw [HW2.out]; exact Blk.newG rfl⟩; obtain ⟨gl, hgl⟩ : ∃ g, Hid (g = w.heap.size + 1 + 1) := ⟨_, rfl⟩; obtain ⟨gn, hgn⟩ : ∃ g, Hid (g = w.heap.size + 1) := ⟨_, rfl⟩; obtain ⟨gp, hgp⟩ : ∃ g, Hid (g = w.heap.size) := ⟨_, rfl⟩; obtain ⟨gh, hgh⟩ : ∃ g, Hid (g = w.heap.size + 1 + 1 + 1) := ⟨_, rfl⟩; obtain ⟨gR, hgR⟩ : ∃ g, Hid (g = w.heap.size + 1 + 1 + 1 + 1) := ⟨_, rfl⟩; obtain ⟨gf, hgf⟩ : ∃ g, Hid (g = w1.heap.size) := ⟨_, rfl⟩; have hgr : w.heap.size ≤ gR := by have := hgR.out; omega
 have hB1 := hB1.below hb2 hB1.lt; have hB2 := hB2.below hb2 hB2.lt; have hB3 := hB3.below hb2 hB3.lt; have hB4 := hB4.below hb2 hB4.lt; have hs2 := hs1.below hb2; have hne : ∀ g, g < w1.heap.size → g ≠ gf := fun g hg => by have := hgf.out; omega
 have hsz := hsz1.out; rw [← hgf.out] at hB5; have n1 := hne _ (by have := hB1.lt; omega : w.heap.size < w1.heap.size); have n2 := hne (w.heap.size + 1) (by omega); have n3 := hne (w.heap.size + 1 + 1) (by omega); have n4 := hne (w.heap.size + 1 + 1 + 1) (by omega); have n5 := hne (w.heap.size + 1 + 1 + 1 + 1) (by omega); have hbw2 := Below.tr hb1 hb2; have hgf2 : w.heap.size ≤ gf := by have := hgf.out; omega
 clear hsz; rw [← hgf.out]; rw [← hgR.out] at hs2 n5 ⊢; rw [← hgh.out] at hB4 n4 ⊢; rw [← hgl.out] at hB3 n3 ⊢; rw [← hgn.out] at hB2 n2 ⊢; rw [← hgp.out] at hB1 n1 ⊢; have f1 := hB5.cell 0; have f2 := hB5.frozen 0; simp only [List.getElem?_toArray, List.getElem?_cons_zero] at f1; clear HW2 hs1 hne; go_upto_region 3 with fail; refine wp_name ?_; intro w3 HW3; have hb3 : Below w.heap.size w w3 := by rw [HW3.out]; exact hbw2.setCell (p := ⟨gf, 0, none⟩) hgf2 _
 have hs3 : Sl w3 gR := by
  obtain ⟨r1, r2, r3, r4, r5, r6, hres⟩ := hs2; rw [HW3.out]; exact ⟨r1, r2, r3, r4, r5, r6, hres.setFar n5 _⟩
 have c3 := (show Blk w3 gl T3 _ by rw [HW3.out]; exact hB3.setFar n3 _); have c2 := (show Blk w3 gn T2 _ by rw [HW3.out]; exact hB2.setFar n2 _); have c4 := (show Blk w3 gh T4 _ by rw [HW3.out]; exact hB4.setFar n4 _); have c1 := (show Blk w3 gp T1 _ by rw [HW3.out]; exact hB1.setFar n1 _); have c5 : w3.cell? ⟨gf, 0, none⟩ = some (.func (.func 71) #[] #[.pointer (some ⟨gl, 0, none⟩), .pointer (some ⟨gn, 0, none⟩), .pointer (some ⟨gf, 0, none⟩), .pointer (some ⟨gp, 0, none⟩), .pointer (some ⟨gh, 0, none⟩)]) := by rw [HW3.out, (hB5.set_ 0 _).cell]; rfl
 have hM : MomS gl gn gf gp gh 41 gq n (.slice L1 lk1 lc1) (.slice L2 lk2 lc2) x1 x2 S kS cS ch b rows level w3 :=
  ⟨by rw [c3.cell]; rfl, by rw [c3.cell]; rfl, hl.below hb3, by rw [c2.cell]; rfl, c5, by rw [c1.cell]; rfl, by rw [c1.cell]; rfl, by rw [c1.cell]; rfl, ⟨x1, x2, S, kS, cS, rfl, hbd.below hb3, hrows.below hb3⟩, by rw [c4.cell]; rfl, fun W va vb a b hW ha hb => hch W va vb a b (Below.tr hb3 hW) ha hb⟩
 clear c1 c2 c3 c4 c5 HW3 hB1 hB2 hB3 hB4 hB5 hb1 hb2 hbw2 f1 f2 hs2 hsz1 hgl hgn hgh hgR hgp hgf hbd hrows hl hch; refine region_chain [3] [.early, .early, .early, .chain 0] [] [] (PhiMo gl gn gf gp gh (reachV ch b rows level n 0 0 oneP)) (fun w w' => Below w.heap.size w w') (SMo w.heap.size gR w w3 (reachV ch b rows level n 0 0 oneP)) (by kernel_rfl) (by kernel_rfl) (by kernel_rfl) (by kernel_rfl) (sK (fun _ _ _ _ _ h => h) (sK (fun _ _ _ _ _ h => h) (sK (fun _ _ _ _ _ h => h) (sK (fun _ _ _ _ _ h => h) (sZ))))) PhiMo.keepR PhiMo.keepF (fun _ _ _ _ hR hS => Below.tr hS hR) (by rintro (_ | ⟨_, _ | _⟩) vs vs' w _ h <;> exact h) (fun _ => bD _) (fun vs => by simp only [fillR, Act.put, sA, sB, sC, Nat.zero_add, Nat.reduceAdd]; rfl) ?_ ?_
 ·refine sK ?_ (sK ?_ (sK ?_ (sK ?_ (sZ))))
  ·as_aux_lemma =>
   intro vs W hS hu hdep K hK; have HU := Lib.hid hu; clear hu; have f1 := cell_keep hS hM.cf; refine ⟨?_⟩; simp only [Act.put, sA, sB, sC, Nat.zero_add, Nat.reduceAdd] at hK ⊢; go_simp; with_reducible refine hK _ _ (Below.refl _ _) ?_
   exact rfl
  ·as_aux_lemma =>
   intro vs W hS hu hdep K hK; have HU := Lib.hid hu; clear hu; refine ⟨?_⟩; simp only [fillR, Act.put, sA, sB, sC, Nat.zero_add, Nat.reduceAdd] at hK ⊢; go_simp; refine (wone_F _).mono ?_; rintro e w' ⟨v, rfl, hv, hb⟩; go_wp2_with fail; with_reducible refine hK _ _ hb ?_
   exact hv
  ·as_aux_lemma =>
   intro vs W hS hu hdep K hK; have HU := Lib.hid hu; clear hu; have d0 := hdep ⟨0, .data⟩ (by simp) rfl; simp only [PhiMo] at d0; have d1 := hdep ⟨1, .data⟩ (by simp) rfl; simp only [PhiMo] at d1; have r1 := d1; clear d1; refine ⟨?_⟩; simp only [fillR, Act.put, sA, sB, sC, Nat.zero_add, Nat.reduceAdd, d0] at hK ⊢; go_simp; refine (moments_w gl gn gf gp gh gq n _ _ x1 x2 S kS cS ch b rows level hn h0 n 0 0 _ oneP _ (by omega) (by omega) (hM.below hS) r1).mono ?_; rintro e w' ⟨v, rfl, hv, hb⟩; go_wp2_with fail; with_reducible refine hK _ _ hb ?_
   exact hv
  ·as_aux_lemma =>
   intro vs W hS hdep K hK; have d0 := hdep ⟨2, .data⟩ (by simp) rfl (by rfl); simp only [PhiMo] at d0; have hS : Below w3.heap.size w3 W := hS; obtain ⟨E1, k1, c1, E2, k2, c2, e0⟩ := d0.shape; rw [e0] at d0; have hsl := hs3.below hS; obtain ⟨r1, r2, r3, r4, r5, r6, hres⟩ := hsl; have f1 := hres.cell 0; have f2 := hres.cell 1; have f3 := hres.frozen 0; have f4 := hres.frozen 1; simp at f1 f2; have HR := Lib.hid (RX.store (B := w.heap.size) (hs3.below hS) hgr d0); have hbe4 := Below.tr hb3 hS; clear hres hS; refine ⟨?_⟩; simp only [Act.put, sA, sB, sC, Nat.zero_add, Nat.reduceAdd, e0] at hK ⊢; go_simp; with_reducible refine hK undef _ ?_
   exact ⟨HR.out.2, hbe4.trans HR.out.1.be⟩
 ·intro vs W hS _; have hS2 : SMo w.heap.size gR w w3 (reachV ch b rows level n 0 0 oneP) [vs 3] vs W := hS; obtain ⟨⟨A, k, c, A', k', c', hblk, hP⟩, hbz⟩ := hS2; have q1 := hblk.cell 0; have q2 := hblk.cell 1; simp at q1 q2; have HP := Lib.hid hP; clear hblk hP hS hM hs3; go_wp2_with fail; exact bodyPost_ret (v := .agg #[.slice A k c, .slice A' k' c']) (by simp [results, Try.results38, go_sem, q1, q2]) rfl ⟨_, rfl, HP.out, hbz⟩
end Go.Proofs.Ytnjjdiilkhdbeaa
namespace Go.Proofs.Ytnjjdiilkhdbeaa
open Go Go.RowKit
noncomputable def reachE (b : LP) (rows : List (List LP)) (q : LP) (n : Int) (level : LP) : Int := if planE b rows ≠ 0 then planE b rows else if partB q = false then 1 else boundE n level
noncomputable def reachX (b : LP) (rows : List (List LP)) (q : LP) (n : Int) (level : LP) : LP := if reachE b rows q n level ≠ 0 then nilP else reachV (mixV q) b rows level n.toNat 0 0 oneP
noncomputable def worstE (b : LP) (rows : List (List LP)) (n : Int) (level : LP) : Int := if planE b rows ≠ 0 then planE b rows else boundE n level
noncomputable def worstX (b : LP) (rows : List (List LP)) (n : Int) (level : LP) : LP := if worstE b rows n level ≠ 0 then nilP else reachV (worstV b) b rows level n.toNat 0 0 oneP
theorem boundE_zero {n : Int} {x : LP} (h : boundE n x = 0) : 0 ≤ n ∧ n ≤ 10 ∧ validP x = 0 := by
 unfold boundE at h
 split at h
 ·contradiction
 ·split at h
  ·cases h
  ·rename_i h1 h2
   exact ⟨by omega, by omega, by simpa using h1⟩
set_option maxRecDepth 100000 in
set_option maxHeartbeats 4000000 in
theorem reach_F (va vl : Value) (vq : Value) (b q level : LP) (rows : List (List LP)) (n : Int) (w : World) (hp : PlanV w va b rows) (hq : RtP w vq q) (hl : RtP w vl level) :
  Calls Try.prog 14 #[va, vq, .int .i64 n, vl] w fun e w' => ∃ v, e = .returned (.tuple #[v, .int .i64 (reachE b rows q n level)]) ∧ RtP w' v (reachX b rows q n level) ∧ Below w.heap.size w w' := by
 obtain ⟨x1, x2, S, kS, cS, rfl, hbd, hrows⟩ := hp; obtain ⟨L1, lk1, lc1, L2, lk2, lc2, rfl⟩ := hl.shape; obtain ⟨Q1, qk1, qc1, Q2, qk2, qc2, rfl⟩ := hq.shape; obtain ⟨E, HE⟩ : ∃ E, Hid (E = reachE b rows q n level) := ⟨_, rfl⟩; obtain ⟨X, HX0⟩ : ∃ X, Hid (X = reachX b rows q n level) := ⟨_, rfl⟩; have HXE : Hid (E ≠ 0 → X = nilP) := fun h => by rw [HX0.out]; unfold reachX; rw [if_pos (by rw [← HE.out]; exact h)]
 rw [← HE.out, ← HX0.out]
 go_enter Try.func14, Try.ntmps14
 go_upto_region 1 with fail; refine wp_name ?_; intro w1 HW1; have hb1 : Below w.heap.size w w1 := by rw [HW1.out]; exact (Below.tr (Below.tr (Below.tr (bA _ _) (bA _ _)) (bA _ _)) (bA _ _))
 have hB1 : Blk w1 w.heap.size 38 #[x1, x2, .slice S kS cS] := by rw [HW1.out]; exact Blk.below (Blk.newG rfl) (Below.tr (Below.tr (bA _ _) (bA _ _)) (bA _ _)) (Blk.newG rfl).lt
 have hB2 : Blk w1 (w.heap.size + 1) 25 #[.slice Q1 qk1 qc1, .slice Q2 qk2 qc2] := by rw [HW1.out]; exact Blk.below (Blk.newG (by simp)) (Below.tr (bA _ _) (bA _ _)) (by simp)
 have hB3 : Blk w1 (w.heap.size + 1 + 1) 25 #[.slice L1 lk1 lc1, .slice L2 lk2 lc2] := by rw [HW1.out]; exact Blk.below (Blk.newG (by simp)) (bA _ _) (by simp)
 have hs1 : Sl w1 (w.heap.size + 1 + 1 + 1) := by rw [HW1.out]; exact ⟨none, 0, 0, none, 0, 0, Blk.newG (by simp)⟩
 clear HW1; obtain ⟨gp, hgp⟩ : ∃ g, Hid (g = w.heap.size) := ⟨_, rfl⟩; obtain ⟨gq, hgq⟩ : ∃ g, Hid (g = w.heap.size + 1) := ⟨_, rfl⟩; obtain ⟨gl, hgl⟩ : ∃ g, Hid (g = w.heap.size + 1 + 1) := ⟨_, rfl⟩; obtain ⟨gr, hgrr⟩ : ∃ g, Hid (g = w.heap.size + 1 + 1 + 1) := ⟨_, rfl⟩; have hgr : w.heap.size ≤ gr := by have := hgrr.out; omega
 rw [← hgrr.out] at hs1 ⊢; rw [← hgl.out] at hB3 ⊢; rw [← hgq.out] at hB2 ⊢; rw [← hgp.out] at hB1 ⊢; have hpl : PlanV w1 (.agg #[x1, x2, .slice S kS cS]) b rows := ⟨x1, x2, S, kS, cS, rfl, hbd.below hb1, hrows.below hb1⟩; have hlv := hl.below hb1; have hqv := hq.below hb1; have hbdv := hbd.below hb1; have p0 := hB1.cell 0; have p1 := hB1.cell 1; have p2 := hB1.cell 2; have l0 := hB3.cell 0; have l1 := hB3.cell 1; have q0 := hB2.cell 0; have q1 := hB2.cell 1; simp only [List.getElem?_toArray, List.getElem?_cons_zero, List.getElem?_cons_succ] at p0 p1 p2 l0 l1 q0 q1; clear hgp hgl hgrr hB1 hB3 hbd hrows hl hgq hB2 hq; go_wp2_with fail; refine (wvalid_F _ b rows _ hpl).mono ?_; rintro e w2 ⟨rfl, hb2⟩; have hbw2 := Below.tr hb1 hb2; have hs2 := hs1.below hb2; by_cases h0 : planE b rows = 0
 ·have HPE := Lib.hid h0; rw [h0]; clear h0; have p0 := cell_keep hb2 p0; have p1 := cell_keep hb2 p1; have p2 := cell_keep hb2 p2; have l0 := cell_keep hb2 l0; have l1 := cell_keep hb2 l1; have q0 := cell_keep hb2 q0; have q1 := cell_keep hb2 q1; have hpl := hpl.below hb2; have hlv := hlv.below hb2; have hbdv := hbdv.below hb2; have hqv := hqv.below hb2; go_wp2_with fail; refine (wpart_F _ q _ hqv).mono ?_; rintro e w3 ⟨rfl, hb3⟩; have hbw3 := Below.tr hbw2 hb3; have hs3 := hs2.below hb3
  cases hpq : partB q
  ·have HF : Hid (E = 1) := by show _ = _; rw [HE.out]; unfold reachE; rw [if_neg (by rw [HPE.out]; simp), if_pos hpq]
   have HX : Hid (X = nilP) := HXE.out (by rw [HF.out]; decide); clear hpq p0 p1 p2 l0 l1 q0 q1; obtain ⟨A', k', c', A'', k'', c'', he, ⟨a1, e1⟩, ⟨a2, e2⟩, e3, e4, z1, z2, hr, hbz⟩ := ret_ratio (w0 := w) (nil_rtP w3) hs3 hgr hbw3; simp only [nilRat, Value.agg.injEq, Array.mk.injEq, List.cons.injEq, and_true, Value.slice.injEq] at he; obtain ⟨⟨rfl, rfl, rfl⟩, rfl, rfl, rfl⟩ := he; go_wp2_with fail; exact bodyPost_ret (v := .tuple #[.agg #[.slice none 0 0, .slice none 0 0], .int .i64 _]) (by simp [results, Try.results14, go_sem, z1, z2]; rfl) rfl ⟨_, by rw [HF.out], by rw [HX.out]; exact hr, hbz⟩
  ·have HPQ := Lib.hid hpq; clear hpq; have p0 := cell_keep hb3 p0; have p1 := cell_keep hb3 p1; have p2 := cell_keep hb3 p2; have l0 := cell_keep hb3 l0; have l1 := cell_keep hb3 l1; have q0 := cell_keep hb3 q0; have q1 := cell_keep hb3 q1; have hpl := hpl.below hb3; have hlv := hlv.below hb3; have hbdv := hbdv.below hb3; have hqv := hqv.below hb3; go_wp2_with fail; refine (wbounded_F n _ level _ hlv).mono ?_; rintro e w4 ⟨rfl, hb4⟩; have hbw4 := Below.tr hbw3 hb4; have hs4 := hs3.below hb4; have HEB : Hid (E = boundE n level) := by show _ = _; rw [HE.out]; unfold reachE; rw [if_neg (by rw [HPE.out]; simp), if_neg (by rw [HPQ.out]; simp)]
   by_cases hbn : boundE n level = 0
   ·have HF : Hid (E = 0) := by show _ = _; rw [HEB.out, hbn]
    obtain ⟨hn0, hn10, _⟩ := boundE_zero hbn; obtain ⟨nn, rfl⟩ := Int.eq_ofNat_of_zero_le hn0; have hnn : nn ≤ 10 := by omega
    have HX : Hid (X = reachV (mixV q) b rows level nn 0 0 oneP) := by
     show _ = _
     rw [HX0.out]; unfold reachX; rw [if_neg (by rw [← HE.out, HF.out]; decide)]; rfl
    rw [hbn]; have p0 := cell_keep hb4 p0; have p1 := cell_keep hb4 p1; have p2 := cell_keep hb4 p2; have l0 := cell_keep hb4 l0; have l1 := cell_keep hb4 l1; have q0 := cell_keep hb4 q0; have q1 := cell_keep hb4 q1; have hpl := hpl.below hb4; have hlv := hlv.below hb4; have hbdv := hbdv.below hb4; have hqv := hqv.below hb4; clear hbn HEB hn0 hn10; go_wp2_with fail; refine (moments_Fr _ _ gq nn b level rows (mixV q) _ hnn HPE.out hpl hlv (chs_reach gq _ _ q _ q0 q1 hqv)).mono ?_; rintro e w9 ⟨v, rfl, hv, hb9⟩; obtain ⟨A, k', c, A', k'', c'', rfl, ⟨a1, r1⟩, ⟨a2, r2⟩, r3, r4, z1, z2, hr, hbz⟩ := ret_ratio (w0 := w) hv (hs4.below hb9) hgr (Below.tr hbw4 hb9); clear p0 p1 p2 l0 l1 q0 q1 hpl hlv hbdv hqv; go_wp2_with fail; exact bodyPost_ret (v := .tuple #[.agg #[.slice A k' c, .slice A' k'' c''], .int .i64 0]) (by simp [results, Try.results14, go_sem, z1, z2]) rfl ⟨_, by rw [HF.out], by rw [HX.out]; exact hr, hbz⟩
   ·have t1 : (boundE n level != 0) = true := by simpa using hbn
    have HX : Hid (X = nilP) := HXE.out (by rw [HEB.out]; exact hbn); have HF := HEB; clear hbn p0 p1 p2 l0 l1 q0 q1; obtain ⟨A', k', c', A'', k'', c'', he, ⟨a1, e1⟩, ⟨a2, e2⟩, e3, e4, z1, z2, hr, hbz⟩ := ret_ratio (w0 := w) (nil_rtP w4) hs4 hgr hbw4; simp only [nilRat, Value.agg.injEq, Array.mk.injEq, List.cons.injEq, and_true, Value.slice.injEq] at he; obtain ⟨⟨rfl, rfl, rfl⟩, rfl, rfl, rfl⟩ := he; go_wp2_with fail; exact bodyPost_ret (v := .tuple #[.agg #[.slice none 0 0, .slice none 0 0], .int .i64 _]) (by simp [results, Try.results14, go_sem, z1, z2]; rfl) rfl ⟨_, by rw [HF.out], by rw [HX.out]; exact hr, hbz⟩
 ·have t1 : (planE b rows != 0) = true := by simpa using h0
  have HF : Hid (E = planE b rows) := by show _ = _; rw [HE.out]; unfold reachE; rw [if_pos h0]
  have HX : Hid (X = nilP) := HXE.out (by rw [HF.out]; exact h0); clear h0 p0 p1 p2 l0 l1 q0 q1; obtain ⟨A', k', c', A'', k'', c'', he, ⟨a1, e1⟩, ⟨a2, e2⟩, e3, e4, z1, z2, hr, hbz⟩ := ret_ratio (w0 := w) (nil_rtP w2) hs2 hgr hbw2; simp only [nilRat, Value.agg.injEq, Array.mk.injEq, List.cons.injEq, and_true, Value.slice.injEq] at he; obtain ⟨⟨rfl, rfl, rfl⟩, rfl, rfl, rfl⟩ := he; go_wp2_with fail; exact bodyPost_ret (v := .tuple #[.agg #[.slice none 0 0, .slice none 0 0], .int .i64 _]) (by simp [results, Try.results14, go_sem, z1, z2]; rfl) rfl ⟨_, by rw [HF.out], by rw [HX.out]; exact hr, hbz⟩
set_option maxRecDepth 100000 in
set_option maxHeartbeats 4000000 in
theorem worst_F (va vl : Value) (b level : LP) (rows : List (List LP)) (n : Int) (w : World) (hp : PlanV w va b rows) (hl : RtP w vl level) :
  Calls Try.prog 16 #[va, .int .i64 n, vl] w fun e w' => ∃ v, e = .returned (.tuple #[v, .int .i64 (worstE b rows n level)]) ∧ RtP w' v (worstX b rows n level) ∧ Below w.heap.size w w' := by
 obtain ⟨x1, x2, S, kS, cS, rfl, hbd, hrows⟩ := hp; obtain ⟨L1, lk1, lc1, L2, lk2, lc2, rfl⟩ := hl.shape; obtain ⟨E, HE⟩ : ∃ E, Hid (E = worstE b rows n level) := ⟨_, rfl⟩; obtain ⟨X, HX0⟩ : ∃ X, Hid (X = worstX b rows n level) := ⟨_, rfl⟩; have HXE : Hid (E ≠ 0 → X = nilP) := fun h => by rw [HX0.out]; unfold worstX; rw [if_pos (by rw [← HE.out]; exact h)]
 rw [← HE.out, ← HX0.out]
 go_enter Try.func16, Try.ntmps16
 go_upto_region 1 with fail; refine wp_name ?_; intro w1 HW1; have hb1 : Below w.heap.size w w1 := by rw [HW1.out]; exact (Below.tr (Below.tr (bA _ _) (bA _ _)) (bA _ _))
 have hB1 : Blk w1 w.heap.size 38 #[x1, x2, .slice S kS cS] := by rw [HW1.out]; exact Blk.below (Blk.newG rfl) (Below.tr (bA _ _) (bA _ _)) (Blk.newG rfl).lt
 have hB3 : Blk w1 (w.heap.size + 1) 25 #[.slice L1 lk1 lc1, .slice L2 lk2 lc2] := by rw [HW1.out]; exact Blk.below (Blk.newG (by simp)) (bA _ _) (by simp)
 have hs1 : Sl w1 (w.heap.size + 1 + 1) := by rw [HW1.out]; exact ⟨none, 0, 0, none, 0, 0, Blk.newG (by simp)⟩
 clear HW1; obtain ⟨gp, hgp⟩ : ∃ g, Hid (g = w.heap.size) := ⟨_, rfl⟩; obtain ⟨gl, hgl⟩ : ∃ g, Hid (g = w.heap.size + 1) := ⟨_, rfl⟩; obtain ⟨gr, hgrr⟩ : ∃ g, Hid (g = w.heap.size + 1 + 1) := ⟨_, rfl⟩; have hgr : w.heap.size ≤ gr := by have := hgrr.out; omega
 rw [← hgrr.out] at hs1 ⊢; rw [← hgl.out] at hB3 ⊢; rw [← hgp.out] at hB1 ⊢; have hpl : PlanV w1 (.agg #[x1, x2, .slice S kS cS]) b rows := ⟨x1, x2, S, kS, cS, rfl, hbd.below hb1, hrows.below hb1⟩; have hlv := hl.below hb1; have hbdv := hbd.below hb1; have p0 := hB1.cell 0; have p1 := hB1.cell 1; have p2 := hB1.cell 2; have l0 := hB3.cell 0; have l1 := hB3.cell 1; simp only [List.getElem?_toArray, List.getElem?_cons_zero, List.getElem?_cons_succ] at p0 p1 p2 l0 l1; clear hgp hgl hgrr hB1 hB3 hbd hrows hl; go_wp2_with fail; refine (wvalid_F _ b rows _ hpl).mono ?_; rintro e w2 ⟨rfl, hb2⟩; have hbw2 := Below.tr hb1 hb2; have hs2 := hs1.below hb2; by_cases h0 : planE b rows = 0
 ·have HPE := Lib.hid h0; rw [h0]; clear h0; have p0 := cell_keep hb2 p0; have p1 := cell_keep hb2 p1; have p2 := cell_keep hb2 p2; have l0 := cell_keep hb2 l0; have l1 := cell_keep hb2 l1; have hpl := hpl.below hb2; have hlv := hlv.below hb2; have hbdv := hbdv.below hb2; go_wp2_with fail; refine (wbounded_F n _ level _ hlv).mono ?_; rintro e w3 ⟨rfl, hb3⟩; have hbw3 := Below.tr hbw2 hb3; have hs3 := hs2.below hb3; have HEB : Hid (E = boundE n level) := by show _ = _; rw [HE.out]; unfold worstE; rw [if_neg (by rw [HPE.out]; simp)]
  by_cases hbn : boundE n level = 0
  ·have HF : Hid (E = 0) := by show _ = _; rw [HEB.out, hbn]
   obtain ⟨hn0, hn10, _⟩ := boundE_zero hbn; obtain ⟨nn, rfl⟩ := Int.eq_ofNat_of_zero_le hn0; have hnn : nn ≤ 10 := by omega
   have HX : Hid (X = reachV (worstV b) b rows level nn 0 0 oneP) := by
    show _ = _
    rw [HX0.out]; unfold worstX; rw [if_neg (by rw [← HE.out, HF.out]; decide)]; rfl
   rw [hbn]; have p0 := cell_keep hb3 p0; have p1 := cell_keep hb3 p1; have p2 := cell_keep hb3 p2; have l0 := cell_keep hb3 l0; have l1 := cell_keep hb3 l1; have hpl := hpl.below hb3; have hlv := hlv.below hb3; have hbdv := hbdv.below hb3; clear hbn HEB hn0 hn10; go_wp2_with fail; refine (moments_Fw _ _ gp nn b level rows (worstV b) _ hnn HPE.out hpl hlv (chs_worst gp _ _ b _ p0 p1 hbdv)).mono ?_; rintro e w9 ⟨v, rfl, hv, hb9⟩; obtain ⟨A, k', c, A', k'', c'', rfl, ⟨a1, r1⟩, ⟨a2, r2⟩, r3, r4, z1, z2, hr, hbz⟩ := ret_ratio (w0 := w) hv (hs3.below hb9) hgr (Below.tr hbw3 hb9); clear p0 p1 p2 l0 l1 hpl hlv hbdv; go_wp2_with fail; exact bodyPost_ret (v := .tuple #[.agg #[.slice A k' c, .slice A' k'' c''], .int .i64 0]) (by simp [results, Try.results16, go_sem, z1, z2]) rfl ⟨_, by rw [HF.out], by rw [HX.out]; exact hr, hbz⟩
  ·have t1 : (boundE n level != 0) = true := by simpa using hbn
   have HX : Hid (X = nilP) := HXE.out (by rw [HEB.out]; exact hbn); have HF := HEB; clear hbn p0 p1 p2 l0 l1; obtain ⟨A', k', c', A'', k'', c'', he, ⟨a1, e1⟩, ⟨a2, e2⟩, e3, e4, z1, z2, hr, hbz⟩ := ret_ratio (w0 := w) (nil_rtP w3) hs3 hgr hbw3; simp only [nilRat, Value.agg.injEq, Array.mk.injEq, List.cons.injEq, and_true, Value.slice.injEq] at he; obtain ⟨⟨rfl, rfl, rfl⟩, rfl, rfl, rfl⟩ := he; go_wp2_with fail; exact bodyPost_ret (v := .tuple #[.agg #[.slice none 0 0, .slice none 0 0], .int .i64 _]) (by simp [results, Try.results16, go_sem, z1, z2]; rfl) rfl ⟨_, by rw [HF.out], by rw [HX.out]; exact hr, hbz⟩
 ·have t1 : (planE b rows != 0) = true := by simpa using h0
  have HF : Hid (E = planE b rows) := by show _ = _; rw [HE.out]; unfold worstE; rw [if_pos h0]
  have HX : Hid (X = nilP) := HXE.out (by rw [HF.out]; exact h0); clear h0 p0 p1 p2 l0 l1; obtain ⟨A', k', c', A'', k'', c'', he, ⟨a1, e1⟩, ⟨a2, e2⟩, e3, e4, z1, z2, hr, hbz⟩ := ret_ratio (w0 := w) (nil_rtP w2) hs2 hgr hbw2; simp only [nilRat, Value.agg.injEq, Array.mk.injEq, List.cons.injEq, and_true, Value.slice.injEq] at he; obtain ⟨⟨rfl, rfl, rfl⟩, rfl, rfl, rfl⟩ := he; go_wp2_with fail; exact bodyPost_ret (v := .tuple #[.agg #[.slice none 0 0, .slice none 0 0], .int .i64 _]) (by simp [results, Try.results16, go_sem, z1, z2]; rfl) rfl ⟨_, by rw [HF.out], by rw [HX.out]; exact hr, hbz⟩
end Go.Proofs.Ytnjjdiilkhdbeaa
