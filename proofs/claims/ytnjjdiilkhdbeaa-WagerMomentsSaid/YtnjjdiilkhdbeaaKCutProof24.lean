import Derived.Test.YtnjjdiilkhdbeaaKCutProof23
import Derived.Test.YtnjjdiilkhdbeaaS0
set_option linter.unusedVariables false
set_option linter.unusedSimpArgs false
namespace Go.Proofs.Ytnjjdiilkhdbeaa
open Go Go.RowKit
theorem Blk.newG {w : World} {T : TypeId} {arr : Array Value} {g : Nat} (h : g = w.heap.size) : Blk (w.alloc (.cells arr T)) g T arr := h ▸ Blk.new w T arr
theorem Blk.setFar {w : World} {T : TypeId} {arr : Array Value} {g g' i : Nat} (h : Blk w g T arr) (hne : g ≠ g') (v : Value) : Blk (w.setCell ⟨g', i, none⟩ v) g T arr := (Below.heap_setCell _ ⟨g', i, none⟩ _ g hne).trans h
def SMo (B gR : Nat) (w0 wr : World) (y : LP) : List Value → (Nat → Value) → World → Prop
 | [], _, W => Below wr.heap.size wr W
 | [_], _, W => GoodX W gR y ∧ Below B w0 W
 | _, _, _ => True
def PhiMo (gl gn gf gp gh : Nat) (y : LP) (vs : Nat → Value) (j : Nat) (w : World) (x : Value) : Prop :=
 match j with
 | 0 => x = .func (.func 71) #[] #[.pointer (some ⟨gl, 0, none⟩), .pointer (some ⟨gn, 0, none⟩), .pointer (some ⟨gf, 0, none⟩), .pointer (some ⟨gp, 0, none⟩), .pointer (some ⟨gh, 0, none⟩)]
 | 1 => RtP w x oneP
 | 2 => RtP w x y
 | _ => True
theorem PhiMo.keepR {gl gn gf gp gh : Nat} {y : LP} : ∀ vs (w w' : World), Below w.heap.size w w' → ∀ j x, PhiMo gl gn gf gp gh y vs j w x → PhiMo gl gn gf gp gh y vs j w' x := by
 intro vs w w' hb j x h; unfold PhiMo at h ⊢
 split <;> simp only at h ⊢
 all_goals first
  | exact h
  | exact h.below hb
theorem PhiMo.keepF {gl gn gf gp gh : Nat} {y : LP} : ∀ vs (w w' : World) j x, ([] : List Nat).contains j = true → PhiMo gl gn gf gp gh y vs j w x → PhiMo gl gn gf gp gh y vs j w' x := by
 intro vs w w' j x hf
 cases hf
set_option maxRecDepth 100000 in
set_option maxHeartbeats 4000000 in
theorem moments_Fr (va vl : Value) (gq n : Nat) (b level : LP) (rows : List (List LP)) (ch : LP → LP → LP) (w : World) (hn : n ≤ 10) (h0 : planE b rows = 0) (hp : PlanV w va b rows) (hl : RtP w vl level) (hch : ChS 39 gq ch w) :
  Calls Try.prog 38 #[va, .int .i64 (n : Int), vl, .func (.func 39) #[] #[.pointer (some ⟨gq, 0, none⟩)]] w fun e w' => ∃ v, e = .returned v ∧ RtP w' v (reachV ch b rows level n 0 0 oneP) ∧ Below w.heap.size w w' := by
 obtain ⟨x1, x2, S, kS, cS, rfl, hbd, hrows⟩ := hp; obtain ⟨L1, lk1, lc1, L2, lk2, lc2, rfl⟩ := hl.shape
 go_enter Try.func38, Try.ntmps38
 go_upto_region 1 with fail; refine wp_name ?_; intro w1 HW1; have hb1 : Below w.heap.size w w1 := by rw [HW1.out]; exact (Below.tr (Below.tr (Below.tr (Below.tr (bA _ _) (bA _ _)) (bA _ _)) (bA _ _)) (bA _ _))
 obtain ⟨T1, hB1⟩ : ∃ T, Blk w1 w.heap.size T #[x1, x2, .slice S kS cS] := ⟨_, by rw [HW1.out]; exact Blk.below (Blk.newG rfl) (Below.tr (Below.tr (Below.tr (bA _ _) (bA _ _)) (bA _ _)) (bA _ _)) (Blk.newG rfl).lt⟩; obtain ⟨T2, hB2⟩ : ∃ T, Blk w1 (w.heap.size + 1) T #[.int .i64 (n : Int)] := ⟨_, by rw [HW1.out]; exact Blk.below (Blk.newG (by simp)) (Below.tr (Below.tr (bA _ _) (bA _ _)) (bA _ _)) (by simp)⟩; obtain ⟨T3, hB3⟩ : ∃ T, Blk w1 (w.heap.size + 1 + 1) T #[.slice L1 lk1 lc1, .slice L2 lk2 lc2] := ⟨_, by rw [HW1.out]; exact Blk.below (Blk.newG (by simp)) (Below.tr (bA _ _) (bA _ _)) (by simp)⟩; obtain ⟨T4, hB4⟩ : ∃ T, Blk w1 (w.heap.size + 1 + 1 + 1) T #[.func (.func 39) #[] #[.pointer (some ⟨gq, 0, none⟩)]] := ⟨_, by rw [HW1.out]; exact Blk.below (Blk.newG (by simp)) (bA _ _) (by simp)⟩; have hs1 : Sl w1 (w.heap.size + 1 + 1 + 1 + 1) := by rw [HW1.out]; exact ⟨none, 0, 0, none, 0, 0, Blk.newG (by simp)⟩
 have hsz1 : Hid (w1.heap.size = w.heap.size + 5) := by show _ = _; rw [HW1.out]; simp
 clear HW1; go_upto_region 2 with fail; refine wp_name ?_; intro w2 HW2; have hb2 : Below w1.heap.size w1 w2 := by rw [HW2.out]; exact bA _ _
 obtain ⟨T5, z5, hB5⟩ : ∃ T z, Blk w2 w1.heap.size T #[z] := ⟨_, _, by rw [HW2.out]; exact Blk.newG rfl⟩; obtain ⟨gl, hgl⟩ : ∃ g, Hid (g = w.heap.size + 1 + 1) := ⟨_, rfl⟩; obtain ⟨gn, hgn⟩ : ∃ g, Hid (g = w.heap.size + 1) := ⟨_, rfl⟩; obtain ⟨gp, hgp⟩ : ∃ g, Hid (g = w.heap.size) := ⟨_, rfl⟩; obtain ⟨gh, hgh⟩ : ∃ g, Hid (g = w.heap.size + 1 + 1 + 1) := ⟨_, rfl⟩; obtain ⟨gR, hgR⟩ : ∃ g, Hid (g = w.heap.size + 1 + 1 + 1 + 1) := ⟨_, rfl⟩; obtain ⟨gf, hgf⟩ : ∃ g, Hid (g = w1.heap.size) := ⟨_, rfl⟩; have hgr : w.heap.size ≤ gR := by have := hgR.out; omega
 have hB1 := hB1.below hb2 hB1.lt; have hB2 := hB2.below hb2 hB2.lt; have hB3 := hB3.below hb2 hB3.lt; have hB4 := hB4.below hb2 hB4.lt; have hs2 := hs1.below hb2; have hne : ∀ g, g < w1.heap.size → g ≠ gf := fun g hg => by have := hgf.out; omega
 have hsz := hsz1.out; rw [← hgf.out] at hB5; have n1 := hne _ (by have := hB1.lt; omega : w.heap.size < w1.heap.size); have n2 := hne (w.heap.size + 1) (by omega); have n3 := hne (w.heap.size + 1 + 1) (by omega); have n4 := hne (w.heap.size + 1 + 1 + 1) (by omega); have n5 := hne (w.heap.size + 1 + 1 + 1 + 1) (by omega); have hbw2 := Below.tr hb1 hb2; have hgf2 : w.heap.size ≤ gf := by have := hgf.out; omega
 clear hsz; rw [← hgf.out]; rw [← hgR.out] at hs2 n5 ⊢; rw [← hgh.out] at hB4 n4 ⊢; rw [← hgl.out] at hB3 n3 ⊢; rw [← hgn.out] at hB2 n2 ⊢; rw [← hgp.out] at hB1 n1 ⊢; have f1 := hB5.cell 0; have f2 := hB5.frozen 0; simp only [List.getElem?_toArray, List.getElem?_cons_zero] at f1; clear HW2 hs1 hne; go_upto_region 3 with fail; refine wp_name ?_; intro w3 HW3; have hb3 : Below w.heap.size w w3 := by rw [HW3.out]; exact hbw2.setCell (p := ⟨gf, 0, none⟩) hgf2 _
 have hs3 : Sl w3 gR := by
  obtain ⟨r1, r2, r3, r4, r5, r6, hres⟩ := hs2; rw [HW3.out]; exact ⟨r1, r2, r3, r4, r5, r6, hres.setFar n5 _⟩
 have c3 := (show Blk w3 gl T3 _ by rw [HW3.out]; exact hB3.setFar n3 _); have c2 := (show Blk w3 gn T2 _ by rw [HW3.out]; exact hB2.setFar n2 _); have c4 := (show Blk w3 gh T4 _ by rw [HW3.out]; exact hB4.setFar n4 _); have c1 := (show Blk w3 gp T1 _ by rw [HW3.out]; exact hB1.setFar n1 _); have c5 : w3.cell? ⟨gf, 0, none⟩ = some (.func (.func 71) #[] #[.pointer (some ⟨gl, 0, none⟩), .pointer (some ⟨gn, 0, none⟩), .pointer (some ⟨gf, 0, none⟩), .pointer (some ⟨gp, 0, none⟩), .pointer (some ⟨gh, 0, none⟩)]) := by rw [HW3.out, (hB5.set_ 0 _).cell]; rfl
 have hM : MomS gl gn gf gp gh 39 gq n (.slice L1 lk1 lc1) (.slice L2 lk2 lc2) x1 x2 S kS cS ch b rows level w3 :=
  ⟨by rw [c3.cell]; rfl, by rw [c3.cell]; rfl, hl.below hb3, by rw [c2.cell]; rfl, c5, by rw [c1.cell]; rfl, by rw [c1.cell]; rfl, by rw [c1.cell]; rfl, ⟨x1, x2, S, kS, cS, rfl, hbd.below hb3, hrows.below hb3⟩, by rw [c4.cell]; rfl, fun W va vb a b hW ha hb => hch W va vb a b (Below.tr hb3 hW) ha hb⟩
 clear c1 c2 c3 c4 c5 HW3 hB1 hB2 hB3 hB4 hB5 hb1 hb2 hbw2 f1 f2 hs2 hsz1 hgl hgn hgh hgR hgp hgf hbd hrows hl hch; refine region_chain [3] [.early, .early, .early, .chain 0] [] [] (PhiMo gl gn gf gp gh (reachV ch b rows level n 0 0 oneP)) (fun w w' => Below w.heap.size w w') (SMo w.heap.size gR w w3 (reachV ch b rows level n 0 0 oneP)) (by kernel_rfl) (by kernel_rfl) (by kernel_rfl) (by kernel_rfl) (sK (fun _ _ _ _ _ h => h) (sK (fun _ _ _ _ _ h => h) (sK (fun _ _ _ _ _ h => h) (sK (fun _ _ _ _ _ h => h) (sZ))))) PhiMo.keepR PhiMo.keepF (fun _ _ _ _ hR hS => Below.tr hS hR) (by rintro (_ | ⟨_, _ | _⟩) vs vs' w _ h <;> exact h) (fun _ => bD _) (fun vs => by simp only [fillR, Act.put, sA, sB, sC, Nat.zero_add, Nat.reduceAdd]; rfl) ?_ ?_
 ·refine sK ?_ (sK ?_ (sK ?_ (sK ?_ (sZ))))
  ·as_aux_lemma =>
   intro vs W hS hu hdep K hK; have HU := Lib.hid hu; clear hu; have f1 := cell_keep hS hM.cf; refine ⟨?_⟩; simp only [Act.put, sA, sB, sC, Nat.zero_add, Nat.reduceAdd] at hK ⊢; go_simp; with_reducible refine hK _ _ (Below.refl _ _) ?_
   exact rfl
  ·as_aux_lemma =>
   intro vs W hS hu hdep K hK; have HU := Lib.hid hu; clear hu; refine ⟨?_⟩; simp only [fillR, Act.put, sA, sB, sC, Nat.zero_add, Nat.reduceAdd] at hK ⊢; go_simp; refine (wone_F _).mono ?_; rintro e w' ⟨v, rfl, hv, hb⟩; go_wp2_with fail; with_reducible refine hK _ _ hb ?_
   exact hv
  ·as_aux_lemma =>
   intro vs W hS hu hdep K hK; have HU := Lib.hid hu; clear hu; have d0 := hdep ⟨0, .data⟩ (by simp) rfl; simp only [PhiMo] at d0; have d1 := hdep ⟨1, .data⟩ (by simp) rfl; simp only [PhiMo] at d1; have r1 := d1; clear d1; refine ⟨?_⟩; simp only [fillR, Act.put, sA, sB, sC, Nat.zero_add, Nat.reduceAdd, d0] at hK ⊢; go_simp; refine (moments_r gl gn gf gp gh gq n _ _ x1 x2 S kS cS ch b rows level hn h0 n 0 0 _ oneP _ (by omega) (by omega) (hM.below hS) r1).mono ?_; rintro e w' ⟨v, rfl, hv, hb⟩; go_wp2_with fail; with_reducible refine hK _ _ hb ?_
   exact hv
  ·as_aux_lemma =>
   intro vs W hS hdep K hK; have d0 := hdep ⟨2, .data⟩ (by simp) rfl (by rfl); simp only [PhiMo] at d0; have hS : Below w3.heap.size w3 W := hS; obtain ⟨E1, k1, c1, E2, k2, c2, e0⟩ := d0.shape; rw [e0] at d0; have hsl := hs3.below hS; obtain ⟨r1, r2, r3, r4, r5, r6, hres⟩ := hsl; have f1 := hres.cell 0; have f2 := hres.cell 1; have f3 := hres.frozen 0; have f4 := hres.frozen 1; simp at f1 f2; have HR := Lib.hid (RX.store (B := w.heap.size) (hs3.below hS) hgr d0); have hbe4 := Below.tr hb3 hS; clear hres hS; refine ⟨?_⟩; simp only [Act.put, sA, sB, sC, Nat.zero_add, Nat.reduceAdd, e0] at hK ⊢; go_simp; with_reducible refine hK undef _ ?_
   exact ⟨HR.out.2, hbe4.trans HR.out.1.be⟩
 ·intro vs W hS _; have hS2 : SMo w.heap.size gR w w3 (reachV ch b rows level n 0 0 oneP) [vs 3] vs W := hS; obtain ⟨⟨A, k, c, A', k', c', hblk, hP⟩, hbz⟩ := hS2; have q1 := hblk.cell 0; have q2 := hblk.cell 1; simp at q1 q2; have HP := Lib.hid hP; clear hblk hP hS hM hs3; go_wp2_with fail; exact bodyPost_ret (v := .agg #[.slice A k c, .slice A' k' c']) (by simp [results, Try.results38, go_sem, q1, q2]) rfl ⟨_, rfl, HP.out, hbz⟩
set_option maxRecDepth 100000 in
set_option maxHeartbeats 4000000 in
theorem moments_Fw (va vl : Value) (gq n : Nat) (b level : LP) (rows : List (List LP)) (ch : LP → LP → LP) (w : World) (hn : n ≤ 10) (h0 : planE b rows = 0) (hp : PlanV w va b rows) (hl : RtP w vl level) (hch : ChS 41 gq ch w) :
  Calls Try.prog 38 #[va, .int .i64 (n : Int), vl, .func (.func 41) #[] #[.pointer (some ⟨gq, 0, none⟩)]] w fun e w' => ∃ v, e = .returned v ∧ RtP w' v (reachV ch b rows level n 0 0 oneP) ∧ Below w.heap.size w w' := by
 obtain ⟨x1, x2, S, kS, cS, rfl, hbd, hrows⟩ := hp; obtain ⟨L1, lk1, lc1, L2, lk2, lc2, rfl⟩ := hl.shape
 go_enter Try.func38, Try.ntmps38
 go_upto_region 1 with fail; refine wp_name ?_; intro w1 HW1; have hb1 : Below w.heap.size w w1 := by rw [HW1.out]; exact (Below.tr (Below.tr (Below.tr (Below.tr (bA _ _) (bA _ _)) (bA _ _)) (bA _ _)) (bA _ _))
 obtain ⟨T1, hB1⟩ : ∃ T, Blk w1 w.heap.size T #[x1, x2, .slice S kS cS] := ⟨_, by rw [HW1.out]; exact Blk.below (Blk.newG rfl) (Below.tr (Below.tr (Below.tr (bA _ _) (bA _ _)) (bA _ _)) (bA _ _)) (Blk.newG rfl).lt⟩; obtain ⟨T2, hB2⟩ : ∃ T, Blk w1 (w.heap.size + 1) T #[.int .i64 (n : Int)] := ⟨_, by rw [HW1.out]; exact Blk.below (Blk.newG (by simp)) (Below.tr (Below.tr (bA _ _) (bA _ _)) (bA _ _)) (by simp)⟩; obtain ⟨T3, hB3⟩ : ∃ T, Blk w1 (w.heap.size + 1 + 1) T #[.slice L1 lk1 lc1, .slice L2 lk2 lc2] := ⟨_, by rw [HW1.out]; exact Blk.below (Blk.newG (by simp)) (Below.tr (bA _ _) (bA _ _)) (by simp)⟩; obtain ⟨T4, hB4⟩ : ∃ T, Blk w1 (w.heap.size + 1 + 1 + 1) T #[.func (.func 41) #[] #[.pointer (some ⟨gq, 0, none⟩)]] := ⟨_, by rw [HW1.out]; exact Blk.below (Blk.newG (by simp)) (bA _ _) (by simp)⟩; have hs1 : Sl w1 (w.heap.size + 1 + 1 + 1 + 1) := by rw [HW1.out]; exact ⟨none, 0, 0, none, 0, 0, Blk.newG (by simp)⟩
 have hsz1 : Hid (w1.heap.size = w.heap.size + 5) := by show _ = _; rw [HW1.out]; simp
 clear HW1; go_upto_region 2 with fail; refine wp_name ?_; intro w2 HW2; have hb2 : Below w1.heap.size w1 w2 := by rw [HW2.out]; exact bA _ _
 obtain ⟨T5, z5, hB5⟩ : ∃ T z, Blk w2 w1.heap.size T #[z] := ⟨_, _, by rw [HW2.out]; exact Blk.newG rfl⟩; obtain ⟨gl, hgl⟩ : ∃ g, Hid (g = w.heap.size + 1 + 1) := ⟨_, rfl⟩; obtain ⟨gn, hgn⟩ : ∃ g, Hid (g = w.heap.size + 1) := ⟨_, rfl⟩; obtain ⟨gp, hgp⟩ : ∃ g, Hid (g = w.heap.size) := ⟨_, rfl⟩; obtain ⟨gh, hgh⟩ : ∃ g, Hid (g = w.heap.size + 1 + 1 + 1) := ⟨_, rfl⟩; obtain ⟨gR, hgR⟩ : ∃ g, Hid (g = w.heap.size + 1 + 1 + 1 + 1) := ⟨_, rfl⟩; obtain ⟨gf, hgf⟩ : ∃ g, Hid (g = w1.heap.size) := ⟨_, rfl⟩; have hgr : w.heap.size ≤ gR := by have := hgR.out; omega
 have hB1 := hB1.below hb2 hB1.lt; have hB2 := hB2.below hb2 hB2.lt; have hB3 := hB3.below hb2 hB3.lt; have hB4 := hB4.below hb2 hB4.lt; have hs2 := hs1.below hb2; have hne : ∀ g, g < w1.heap.size → g ≠ gf := fun g hg => by have := hgf.out; omega
 have hsz := hsz1.out; rw [← hgf.out] at hB5; have n1 := hne _ (by have := hB1.lt; omega : w.heap.size < w1.heap.size); have n2 := hne (w.heap.size + 1) (by omega); have n3 := hne (w.heap.size + 1 + 1) (by omega); have n4 := hne (w.heap.size + 1 + 1 + 1) (by omega); have n5 := hne (w.heap.size + 1 + 1 + 1 + 1) (by omega); have hbw2 := Below.tr hb1 hb2; have hgf2 : w.heap.size ≤ gf := by have := hgf.out; omega
 clear hsz; rw [← hgf.out]; rw [← hgR.out] at hs2 n5 ⊢; rw [← hgh.out] at hB4 n4 ⊢; rw [← hgl.out] at hB3 n3 ⊢; rw [← hgn.out] at hB2 n2 ⊢; rw [← hgp.out] at hB1 n1 ⊢; have f1 := hB5.cell 0; have f2 := hB5.frozen 0; simp only [List.getElem?_toArray, List.getElem?_cons_zero] at f1; clear HW2 hs1 hne; go_upto_region 3 with fail; refine wp_name ?_; intro w3 HW3; have hb3 : Below w.heap.size w w3 := by rw [HW3.out]; exact hbw2.setCell (p := ⟨gf, 0, none⟩) hgf2 _
 have hs3 : Sl w3 gR := by
  obtain ⟨r1, r2, r3, r4, r5, r6, hres⟩ := hs2; rw [HW3.out]; exact ⟨r1, r2, r3, r4, r5, r6, hres.setFar n5 _⟩
 have c3 := (show Blk w3 gl T3 _ by rw [HW3.out]; exact hB3.setFar n3 _); have c2 := (show Blk w3 gn T2 _ by rw [HW3.out]; exact hB2.setFar n2 _); have c4 := (show Blk w3 gh T4 _ by rw [HW3.out]; exact hB4.setFar n4 _); have c1 := (show Blk w3 gp T1 _ by rw [HW3.out]; exact hB1.setFar n1 _); have c5 : w3.cell? ⟨gf, 0, none⟩ = some (.func (.func 71) #[] #[.pointer (some ⟨gl, 0, none⟩), .pointer (some ⟨gn, 0, none⟩), .pointer (some ⟨gf, 0, none⟩), .pointer (some ⟨gp, 0, none⟩), .pointer (some ⟨gh, 0, none⟩)]) := by rw [HW3.out, (hB5.set_ 0 _).cell]; rfl
 have hM : MomS gl gn gf gp gh 41 gq n (.slice L1 lk1 lc1) (.slice L2 lk2 lc2) x1 x2 S kS cS ch b rows level w3 :=
  ⟨by rw [c3.cell]; rfl, by rw [c3.cell]; rfl, hl.below hb3, by rw [c2.cell]; rfl, c5, by rw [c1.cell]; rfl, by rw [c1.cell]; rfl, by rw [c1.cell]; rfl, ⟨x1, x2, S, kS, cS, rfl, hbd.below hb3, hrows.below hb3⟩, by rw [c4.cell]; rfl, fun W va vb a b hW ha hb => hch W va vb a b (Below.tr hb3 hW) ha hb⟩
 clear c1 c2 c3 c4 c5 HW3 hB1 hB2 hB3 hB4 hB5 hb1 hb2 hbw2 f1 f2 hs2 hsz1 hgl hgn hgh hgR hgp hgf hbd hrows hl hch; refine region_chain [3] [.early, .early, .early, .chain 0] [] [] (PhiMo gl gn gf gp gh (reachV ch b rows level n 0 0 oneP)) (fun w w' => Below w.heap.size w w') (SMo w.heap.size gR w w3 (reachV ch b rows level n 0 0 oneP)) (by kernel_rfl) (by kernel_rfl) (by kernel_rfl) (by kernel_rfl) (sK (fun _ _ _ _ _ h => h) (sK (fun _ _ _ _ _ h => h) (sK (fun _ _ _ _ _ h => h) (sK (fun _ _ _ _ _ h => h) (sZ))))) PhiMo.keepR PhiMo.keepF (fun _ _ _ _ hR hS => Below.tr hS hR) (by rintro (_ | ⟨_, _ | _⟩) vs vs' w _ h <;> exact h) (fun _ => bD _) (fun vs => by simp only [fillR, Act.put, sA, sB, sC, Nat.zero_add, Nat.reduceAdd]; rfl) ?_ ?_
 ·refine sK ?_ (sK ?_ (sK ?_ (sK ?_ (sZ))))
  ·as_aux_lemma =>
   intro vs W hS hu hdep K hK; have HU := Lib.hid hu; clear hu; have f1 := cell_keep hS hM.cf; refine ⟨?_⟩; simp only [Act.put, sA, sB, sC, Nat.zero_add, Nat.reduceAdd] at hK ⊢; go_simp; with_reducible refine hK _ _ (Below.refl _ _) ?_
   exact rfl
  ·as_aux_lemma =>
   intro vs W hS hu hdep K hK; have HU := Lib.hid hu; clear hu; refine ⟨?_⟩; simp only [fillR, Act.put, sA, sB, sC, Nat.zero_add, Nat.reduceAdd] at hK ⊢; go_simp; refine (wone_F _).mono ?_; rintro e w' ⟨v, rfl, hv, hb⟩; go_wp2_with fail; with_reducible refine hK _ _ hb ?_
   exact hv
  ·as_aux_lemma =>
   intro vs W hS hu hdep K hK; have HU := Lib.hid hu; clear hu; have d0 := hdep ⟨0, .data⟩ (by simp) rfl; simp only [PhiMo] at d0; have d1 := hdep ⟨1, .data⟩ (by simp) rfl; simp only [PhiMo] at d1; have r1 := d1; clear d1; refine ⟨?_⟩; simp only [fillR, Act.put, sA, sB, sC, Nat.zero_add, Nat.reduceAdd, d0] at hK ⊢; go_simp; refine (moments_w gl gn gf gp gh gq n _ _ x1 x2 S kS cS ch b rows level hn h0 n 0 0 _ oneP _ (by omega) (by omega) (hM.below hS) r1).mono ?_; rintro e w' ⟨v, rfl, hv, hb⟩; go_wp2_with fail; with_reducible refine hK _ _ hb ?_
   exact hv
  ·as_aux_lemma =>
   intro vs W hS hdep K hK; have d0 := hdep ⟨2, .data⟩ (by simp) rfl (by rfl); simp only [PhiMo] at d0; have hS : Below w3.heap.size w3 W := hS; obtain ⟨E1, k1, c1, E2, k2, c2, e0⟩ := d0.shape; rw [e0] at d0; have hsl := hs3.below hS; obtain ⟨r1, r2, r3, r4, r5, r6, hres⟩ := hsl; have f1 := hres.cell 0; have f2 := hres.cell 1; have f3 := hres.frozen 0; have f4 := hres.frozen 1; simp at f1 f2; have HR := Lib.hid (RX.store (B := w.heap.size) (hs3.below hS) hgr d0); have hbe4 := Below.tr hb3 hS; clear hres hS; refine ⟨?_⟩; simp only [Act.put, sA, sB, sC, Nat.zero_add, Nat.reduceAdd, e0] at hK ⊢; go_simp; with_reducible refine hK undef _ ?_
   exact ⟨HR.out.2, hbe4.trans HR.out.1.be⟩
 ·intro vs W hS _; have hS2 : SMo w.heap.size gR w w3 (reachV ch b rows level n 0 0 oneP) [vs 3] vs W := hS; obtain ⟨⟨A, k, c, A', k', c', hblk, hP⟩, hbz⟩ := hS2; have q1 := hblk.cell 0; have q2 := hblk.cell 1; simp at q1 q2; have HP := Lib.hid hP; clear hblk hP hS hM hs3; go_wp2_with fail; exact bodyPost_ret (v := .agg #[.slice A k c, .slice A' k' c']) (by simp [results, Try.results38, go_sem, q1, q2]) rfl ⟨_, rfl, HP.out, hbz⟩
end Go.Proofs.Ytnjjdiilkhdbeaa
namespace Go.Proofs.Ytnjjdiilkhdbeaa
open Go Go.RowKit
noncomputable def reachE (b : LP) (rows : List (List LP)) (q : LP) (n : Int) (level : LP) : Int := if planE b rows ≠ 0 then planE b rows else if partB q = false then 1 else boundE n level
noncomputable def reachX (b : LP) (rows : List (List LP)) (q : LP) (n : Int) (level : LP) : LP := if reachE b rows q n level ≠ 0 then nilP else reachV (mixV q) b rows level n.toNat 0 0 oneP
noncomputable def worstE (b : LP) (rows : List (List LP)) (n : Int) (level : LP) : Int := if planE b rows ≠ 0 then planE b rows else boundE n level
noncomputable def worstX (b : LP) (rows : List (List LP)) (n : Int) (level : LP) : LP := if worstE b rows n level ≠ 0 then nilP else reachV (worstV b) b rows level n.toNat 0 0 oneP
theorem boundE_zero {n : Int} {x : LP} (h : boundE n x = 0) : 0 ≤ n ∧ n ≤ 10 ∧ validP x = 0 := by
 unfold boundE at h
 split at h
 ·contradiction
 ·split at h
  ·cases h
  ·rename_i h1 h2
   exact ⟨by omega, by omega, by simpa using h1⟩
set_option maxRecDepth 100000 in
set_option maxHeartbeats 4000000 in
theorem reach_F (va vl : Value) (vq : Value) (b q level : LP) (rows : List (List LP)) (n : Int) (w : World) (hp : PlanV w va b rows) (hq : RtP w vq q) (hl : RtP w vl level) :
  Calls Try.prog 14 #[va, vq, .int .i64 n, vl] w fun e w' => ∃ v, e = .returned (.tuple #[v, .int .i64 (reachE b rows q n level)]) ∧ RtP w' v (reachX b rows q n level) ∧ Below w.heap.size w w' := by
 obtain ⟨x1, x2, S, kS, cS, rfl, hbd, hrows⟩ := hp; obtain ⟨L1, lk1, lc1, L2, lk2, lc2, rfl⟩ := hl.shape; obtain ⟨Q1, qk1, qc1, Q2, qk2, qc2, rfl⟩ := hq.shape; obtain ⟨E, HE⟩ : ∃ E, Hid (E = reachE b rows q n level) := ⟨_, rfl⟩; obtain ⟨X, HX0⟩ : ∃ X, Hid (X = reachX b rows q n level) := ⟨_, rfl⟩; have HXE : Hid (E ≠ 0 → X = nilP) := fun h => by rw [HX0.out]; unfold reachX; rw [if_pos (by rw [← HE.out]; exact h)]
 rw [← HE.out, ← HX0.out]
 go_enter Try.func14, Try.ntmps14
 go_upto_region 1 with fail; refine wp_name ?_; intro w1 HW1; have hb1 : Below w.heap.size w w1 := by rw [HW1.out]; exact (Below.tr (Below.tr (Below.tr (bA _ _) (bA _ _)) (bA _ _)) (bA _ _))
 have hB1 : Blk w1 w.heap.size 38 #[x1, x2, .slice S kS cS] := by rw [HW1.out]; exact Blk.below (Blk.newG rfl) (Below.tr (Below.tr (bA _ _) (bA _ _)) (bA _ _)) (Blk.newG rfl).lt
 have hB2 : Blk w1 (w.heap.size + 1) 25 #[.slice Q1 qk1 qc1, .slice Q2 qk2 qc2] := by rw [HW1.out]; exact Blk.below (Blk.newG (by simp)) (Below.tr (bA _ _) (bA _ _)) (by simp)
 have hB3 : Blk w1 (w.heap.size + 1 + 1) 25 #[.slice L1 lk1 lc1, .slice L2 lk2 lc2] := by rw [HW1.out]; exact Blk.below (Blk.newG (by simp)) (bA _ _) (by simp)
 have hs1 : Sl w1 (w.heap.size + 1 + 1 + 1) := by rw [HW1.out]; exact ⟨none, 0, 0, none, 0, 0, Blk.newG (by simp)⟩
 clear HW1; obtain ⟨gp, hgp⟩ : ∃ g, Hid (g = w.heap.size) := ⟨_, rfl⟩; obtain ⟨gq, hgq⟩ : ∃ g, Hid (g = w.heap.size + 1) := ⟨_, rfl⟩; obtain ⟨gl, hgl⟩ : ∃ g, Hid (g = w.heap.size + 1 + 1) := ⟨_, rfl⟩; obtain ⟨gr, hgrr⟩ : ∃ g, Hid (g = w.heap.size + 1 + 1 + 1) := ⟨_, rfl⟩; have hgr : w.heap.size ≤ gr := by have := hgrr.out; omega
 rw [← hgrr.out] at hs1 ⊢; rw [← hgl.out] at hB3 ⊢; rw [← hgq.out] at hB2 ⊢; rw [← hgp.out] at hB1 ⊢; have hpl : PlanV w1 (.agg #[x1, x2, .slice S kS cS]) b rows := ⟨x1, x2, S, kS, cS, rfl, hbd.below hb1, hrows.below hb1⟩; have hlv := hl.below hb1; have hqv := hq.below hb1; have hbdv := hbd.below hb1; have p0 := hB1.cell 0; have p1 := hB1.cell 1; have p2 := hB1.cell 2; have l0 := hB3.cell 0; have l1 := hB3.cell 1; have q0 := hB2.cell 0; have q1 := hB2.cell 1; simp only [List.getElem?_toArray, List.getElem?_cons_zero, List.getElem?_cons_succ] at p0 p1 p2 l0 l1 q0 q1; clear hgp hgl hgrr hB1 hB3 hbd hrows hl hgq hB2 hq; go_wp2_with fail; refine (wvalid_F _ b rows _ hpl).mono ?_; rintro e w2 ⟨rfl, hb2⟩; have hbw2 := Below.tr hb1 hb2; have hs2 := hs1.below hb2; by_cases h0 : planE b rows = 0
 ·have HPE := Lib.hid h0; rw [h0]; clear h0; have p0 := cell_keep hb2 p0; have p1 := cell_keep hb2 p1; have p2 := cell_keep hb2 p2; have l0 := cell_keep hb2 l0; have l1 := cell_keep hb2 l1; have q0 := cell_keep hb2 q0; have q1 := cell_keep hb2 q1; have hpl := hpl.below hb2; have hlv := hlv.below hb2; have hbdv := hbdv.below hb2; have hqv := hqv.below hb2; go_wp2_with fail; refine (wpart_F _ q _ hqv).mono ?_; rintro e w3 ⟨rfl, hb3⟩; have hbw3 := Below.tr hbw2 hb3; have hs3 := hs2.below hb3
  cases hpq : partB q
  ·have HF : Hid (E = 1) := by show _ = _; rw [HE.out]; unfold reachE; rw [if_neg (by rw [HPE.out]; simp), if_pos hpq]
   have HX : Hid (X = nilP) := HXE.out (by rw [HF.out]; decide); clear hpq p0 p1 p2 l0 l1 q0 q1; obtain ⟨A', k', c', A'', k'', c'', he, ⟨a1, e1⟩, ⟨a2, e2⟩, e3, e4, z1, z2, hr, hbz⟩ := ret_ratio (w0 := w) (nil_rtP w3) hs3 hgr hbw3; simp only [nilRat, Value.agg.injEq, Array.mk.injEq, List.cons.injEq, and_true, Value.slice.injEq] at he; obtain ⟨⟨rfl, rfl, rfl⟩, rfl, rfl, rfl⟩ := he; go_wp2_with fail; exact bodyPost_ret (v := .tuple #[.agg #[.slice none 0 0, .slice none 0 0], .int .i64 _]) (by simp [results, Try.results14, go_sem, z1, z2]; rfl) rfl ⟨_, by rw [HF.out], by rw [HX.out]; exact hr, hbz⟩
  ·have HPQ := Lib.hid hpq; clear hpq; have p0 := cell_keep hb3 p0; have p1 := cell_keep hb3 p1; have p2 := cell_keep hb3 p2; have l0 := cell_keep hb3 l0; have l1 := cell_keep hb3 l1; have q0 := cell_keep hb3 q0; have q1 := cell_keep hb3 q1; have hpl := hpl.below hb3; have hlv := hlv.below hb3; have hbdv := hbdv.below hb3; have hqv := hqv.below hb3; go_wp2_with fail; refine (wbounded_F n _ level _ hlv).mono ?_; rintro e w4 ⟨rfl, hb4⟩; have hbw4 := Below.tr hbw3 hb4; have hs4 := hs3.below hb4; have HEB : Hid (E = boundE n level) := by show _ = _; rw [HE.out]; unfold reachE; rw [if_neg (by rw [HPE.out]; simp), if_neg (by rw [HPQ.out]; simp)]
   by_cases hbn : boundE n level = 0
   ·have HF : Hid (E = 0) := by show _ = _; rw [HEB.out, hbn]
    obtain ⟨hn0, hn10, _⟩ := boundE_zero hbn; obtain ⟨nn, rfl⟩ := Int.eq_ofNat_of_zero_le hn0; have hnn : nn ≤ 10 := by omega
    have HX : Hid (X = reachV (mixV q) b rows level nn 0 0 oneP) := by
     show _ = _
     rw [HX0.out]; unfold reachX; rw [if_neg (by rw [← HE.out, HF.out]; decide)]; rfl
    rw [hbn]; have p0 := cell_keep hb4 p0; have p1 := cell_keep hb4 p1; have p2 := cell_keep hb4 p2; have l0 := cell_keep hb4 l0; have l1 := cell_keep hb4 l1; have q0 := cell_keep hb4 q0; have q1 := cell_keep hb4 q1; have hpl := hpl.below hb4; have hlv := hlv.below hb4; have hbdv := hbdv.below hb4; have hqv := hqv.below hb4; clear hbn HEB hn0 hn10; go_wp2_with fail; refine (moments_Fr _ _ gq nn b level rows (mixV q) _ hnn HPE.out hpl hlv (chs_reach gq _ _ q _ q0 q1 hqv)).mono ?_; rintro e w9 ⟨v, rfl, hv, hb9⟩; obtain ⟨A, k', c, A', k'', c'', rfl, ⟨a1, r1⟩, ⟨a2, r2⟩, r3, r4, z1, z2, hr, hbz⟩ := ret_ratio (w0 := w) hv (hs4.below hb9) hgr (Below.tr hbw4 hb9); clear p0 p1 p2 l0 l1 q0 q1 hpl hlv hbdv hqv; go_wp2_with fail; exact bodyPost_ret (v := .tuple #[.agg #[.slice A k' c, .slice A' k'' c''], .int .i64 0]) (by simp [results, Try.results14, go_sem, z1, z2]) rfl ⟨_, by rw [HF.out], by rw [HX.out]; exact hr, hbz⟩
   ·have t1 : (boundE n level != 0) = true := by simpa using hbn
    have HX : Hid (X = nilP) := HXE.out (by rw [HEB.out]; exact hbn); have HF := HEB; clear hbn p0 p1 p2 l0 l1 q0 q1; obtain ⟨A', k', c', A'', k'', c'', he, ⟨a1, e1⟩, ⟨a2, e2⟩, e3, e4, z1, z2, hr, hbz⟩ := ret_ratio (w0 := w) (nil_rtP w4) hs4 hgr hbw4; simp only [nilRat, Value.agg.injEq, Array.mk.injEq, List.cons.injEq, and_true, Value.slice.injEq] at he; obtain ⟨⟨rfl, rfl, rfl⟩, rfl, rfl, rfl⟩ := he; go_wp2_with fail; exact bodyPost_ret (v := .tuple #[.agg #[.slice none 0 0, .slice none 0 0], .int .i64 _]) (by simp [results, Try.results14, go_sem, z1, z2]; rfl) rfl ⟨_, by rw [HF.out], by rw [HX.out]; exact hr, hbz⟩
 ·have t1 : (planE b rows != 0) = true := by simpa using h0
  have HF : Hid (E = planE b rows) := by show _ = _; rw [HE.out]; unfold reachE; rw [if_pos h0]
  have HX : Hid (X = nilP) := HXE.out (by rw [HF.out]; exact h0); clear h0 p0 p1 p2 l0 l1 q0 q1; obtain ⟨A', k', c', A'', k'', c'', he, ⟨a1, e1⟩, ⟨a2, e2⟩, e3, e4, z1, z2, hr, hbz⟩ := ret_ratio (w0 := w) (nil_rtP w2) hs2 hgr hbw2; simp only [nilRat, Value.agg.injEq, Array.mk.injEq, List.cons.injEq, and_true, Value.slice.injEq] at he; obtain ⟨⟨rfl, rfl, rfl⟩, rfl, rfl, rfl⟩ := he; go_wp2_with fail; exact bodyPost_ret (v := .tuple #[.agg #[.slice none 0 0, .slice none 0 0], .int .i64 _]) (by simp [results, Try.results14, go_sem, z1, z2]; rfl) rfl ⟨_, by rw [HF.out], by rw [HX.out]; exact hr, hbz⟩
set_option maxRecDepth 100000 in
set_option maxHeartbeats 4000000 in
theorem worst_F (va vl : Value) (b level : LP) (rows : List (List LP)) (n : Int) (w : World) (hp : PlanV w va b rows) (hl : RtP w vl level) :
  Calls Try.prog 16 #[va, .int .i64 n, vl] w fun e w' => ∃ v, e = .returned (.tuple #[v, .int .i64 (worstE b rows n level)]) ∧ RtP w' v (worstX b rows n level) ∧ Below w.heap.size w w' := by
 obtain ⟨x1, x2, S, kS, cS, rfl, hbd, hrows⟩ := hp; obtain ⟨L1, lk1, lc1, L2, lk2, lc2, rfl⟩ := hl.shape; obtain ⟨E, HE⟩ : ∃ E, Hid (E = worstE b rows n level) := ⟨_, rfl⟩; obtain ⟨X, HX0⟩ : ∃ X, Hid (X = worstX b rows n level) := ⟨_, rfl⟩; have HXE : Hid (E ≠ 0 → X = nilP) := fun h => by rw [HX0.out]; unfold worstX; rw [if_pos (by rw [← HE.out]; exact h)]
 rw [← HE.out, ← HX0.out]
 go_enter Try.func16, Try.ntmps16
 go_upto_region 1 with fail; refine wp_name ?_; intro w1 HW1; have hb1 : Below w.heap.size w w1 := by rw [HW1.out]; exact (Below.tr (Below.tr (bA _ _) (bA _ _)) (bA _ _))
 have hB1 : Blk w1 w.heap.size 38 #[x1, x2, .slice S kS cS] := by rw [HW1.out]; exact Blk.below (Blk.newG rfl) (Below.tr (bA _ _) (bA _ _)) (Blk.newG rfl).lt
 have hB3 : Blk w1 (w.heap.size + 1) 25 #[.slice L1 lk1 lc1, .slice L2 lk2 lc2] := by rw [HW1.out]; exact Blk.below (Blk.newG (by simp)) (bA _ _) (by simp)
 have hs1 : Sl w1 (w.heap.size + 1 + 1) := by rw [HW1.out]; exact ⟨none, 0, 0, none, 0, 0, Blk.newG (by simp)⟩
 clear HW1; obtain ⟨gp, hgp⟩ : ∃ g, Hid (g = w.heap.size) := ⟨_, rfl⟩; obtain ⟨gl, hgl⟩ : ∃ g, Hid (g = w.heap.size + 1) := ⟨_, rfl⟩; obtain ⟨gr, hgrr⟩ : ∃ g, Hid (g = w.heap.size + 1 + 1) := ⟨_, rfl⟩; have hgr : w.heap.size ≤ gr := by have := hgrr.out; omega
 rw [← hgrr.out] at hs1 ⊢; rw [← hgl.out] at hB3 ⊢; rw [← hgp.out] at hB1 ⊢; have hpl : PlanV w1 (.agg #[x1, x2, .slice S kS cS]) b rows := ⟨x1, x2, S, kS, cS, rfl, hbd.below hb1, hrows.below hb1⟩; have hlv := hl.below hb1; have hbdv := hbd.below hb1; have p0 := hB1.cell 0; have p1 := hB1.cell 1; have p2 := hB1.cell 2; have l0 := hB3.cell 0; have l1 := hB3.cell 1; simp only [List.getElem?_toArray, List.getElem?_cons_zero, List.getElem?_cons_succ] at p0 p1 p2 l0 l1; clear hgp hgl hgrr hB1 hB3 hbd hrows hl; go_wp2_with fail; refine (wvalid_F _ b rows _ hpl).mono ?_; rintro e w2 ⟨rfl, hb2⟩; have hbw2 := Below.tr hb1 hb2; have hs2 := hs1.below hb2; by_cases h0 : planE b rows = 0
 ·have HPE := Lib.hid h0; rw [h0]; clear h0; have p0 := cell_keep hb2 p0; have p1 := cell_keep hb2 p1; have p2 := cell_keep hb2 p2; have l0 := cell_keep hb2 l0; have l1 := cell_keep hb2 l1; have hpl := hpl.below hb2; have hlv := hlv.below hb2; have hbdv := hbdv.below hb2; go_wp2_with fail; refine (wbounded_F n _ level _ hlv).mono ?_; rintro e w3 ⟨rfl, hb3⟩; have hbw3 := Below.tr hbw2 hb3; have hs3 := hs2.below hb3; have HEB : Hid (E = boundE n level) := by show _ = _; rw [HE.out]; unfold worstE; rw [if_neg (by rw [HPE.out]; simp)]
  by_cases hbn : boundE n level = 0
  ·have HF : Hid (E = 0) := by show _ = _; rw [HEB.out, hbn]
   obtain ⟨hn0, hn10, _⟩ := boundE_zero hbn; obtain ⟨nn, rfl⟩ := Int.eq_ofNat_of_zero_le hn0; have hnn : nn ≤ 10 := by omega
   have HX : Hid (X = reachV (worstV b) b rows level nn 0 0 oneP) := by
    show _ = _
    rw [HX0.out]; unfold worstX; rw [if_neg (by rw [← HE.out, HF.out]; decide)]; rfl
   rw [hbn]; have p0 := cell_keep hb3 p0; have p1 := cell_keep hb3 p1; have p2 := cell_keep hb3 p2; have l0 := cell_keep hb3 l0; have l1 := cell_keep hb3 l1; have hpl := hpl.below hb3; have hlv := hlv.below hb3; have hbdv := hbdv.below hb3; clear hbn HEB hn0 hn10; go_wp2_with fail; refine (moments_Fw _ _ gp nn b level rows (worstV b) _ hnn HPE.out hpl hlv (chs_worst gp _ _ b _ p0 p1 hbdv)).mono ?_; rintro e w9 ⟨v, rfl, hv, hb9⟩; obtain ⟨A, k', c, A', k'', c'', rfl, ⟨a1, r1⟩, ⟨a2, r2⟩, r3, r4, z1, z2, hr, hbz⟩ := ret_ratio (w0 := w) hv (hs3.below hb9) hgr (Below.tr hbw3 hb9); clear p0 p1 p2 l0 l1 hpl hlv hbdv; go_wp2_with fail; exact bodyPost_ret (v := .tuple #[.agg #[.slice A k' c, .slice A' k'' c''], .int .i64 0]) (by simp [results, Try.results16, go_sem, z1, z2]) rfl ⟨_, by rw [HF.out], by rw [HX.out]; exact hr, hbz⟩
  ·have t1 : (boundE n level != 0) = true := by simpa using hbn
   have HX : Hid (X = nilP) := HXE.out (by rw [HEB.out]; exact hbn); have HF := HEB; clear hbn p0 p1 p2 l0 l1; obtain ⟨A', k', c', A'', k'', c'', he, ⟨a1, e1⟩, ⟨a2, e2⟩, e3, e4, z1, z2, hr, hbz⟩ := ret_ratio (w0 := w) (nil_rtP w3) hs3 hgr hbw3; simp only [nilRat, Value.agg.injEq, Array.mk.injEq, List.cons.injEq, and_true, Value.slice.injEq] at he; obtain ⟨⟨rfl, rfl, rfl⟩, rfl, rfl, rfl⟩ := he; go_wp2_with fail; exact bodyPost_ret (v := .tuple #[.agg #[.slice none 0 0, .slice none 0 0], .int .i64 _]) (by simp [results, Try.results16, go_sem, z1, z2]; rfl) rfl ⟨_, by rw [HF.out], by rw [HX.out]; exact hr, hbz⟩
 ·have t1 : (planE b rows != 0) = true := by simpa using h0
  have HF : Hid (E = planE b rows) := by show _ = _; rw [HE.out]; unfold worstE; rw [if_pos h0]
  have HX : Hid (X = nilP) := HXE.out (by rw [HF.out]; exact h0); clear h0 p0 p1 p2 l0 l1; obtain ⟨A', k', c', A'', k'', c'', he, ⟨a1, e1⟩, ⟨a2, e2⟩, e3, e4, z1, z2, hr, hbz⟩ := ret_ratio (w0 := w) (nil_rtP w2) hs2 hgr hbw2; simp only [nilRat, Value.agg.injEq, Array.mk.injEq, List.cons.injEq, and_true, Value.slice.injEq] at he; obtain ⟨⟨rfl, rfl, rfl⟩, rfl, rfl, rfl⟩ := he; go_wp2_with fail; exact bodyPost_ret (v := .tuple #[.agg #[.slice none 0 0, .slice none 0 0], .int .i64 _]) (by simp [results, Try.results16, go_sem, z1, z2]; rfl) rfl ⟨_, by rw [HF.out], by rw [HX.out]; exact hr, hbz⟩
end Go.Proofs.Ytnjjdiilkhdbeaa
namespace Go.Proofs.Ytnjjdiilkhdbeaa
open Go Go.RowKit
set_option maxRecDepth 10000 in
set_option maxHeartbeats 1000000 in
theorem plan_F (va : Value) (b : LP) (rows : List (List LP)) (w : World) (hp : PlanV w va b rows) : Calls Try.prog 15 #[va] w fun e w' => ∃ v, e = .returned v ∧ PlanV w' v b rows ∧ Below w.heap.size w w' := by
 obtain ⟨x1, x2, S, kS, cS, rfl, hbd, hrows⟩ := hp; obtain ⟨X1, xk1, xc1, X2, xk2, xc2, hsh⟩ := hbd.shape; simp only [Value.agg.injEq, Array.mk.injEq, List.cons.injEq, and_true] at hsh; obtain ⟨rfl, rfl⟩ := hsh
 go_enter Try.func15, Try.ntmps15
 go_upto_region 1 with fail; refine wp_name ?_; intro w1 HW1; have hb1 : Below w.heap.size w w1 := by rw [HW1.out]; exact Below.tr (bA _ _) (bA _ _)
 have hB1 : Blk w1 w.heap.size 28 #[.slice X1 xk1 xc1, .slice X2 xk2 xc2, .slice S kS cS] := by rw [HW1.out]; exact Blk.below (Blk.newG rfl) (bA _ _) (Blk.newG rfl).lt
 have hB2 : Blk w1 (w.heap.size + 1) 38 #[.slice none 0 0, .slice none 0 0, .slice none 0 0] := by rw [HW1.out]; exact Blk.newG (by simp)
 clear HW1; have p0 := hB1.cell 0; have p1 := hB1.cell 1; have p2 := hB1.cell 2; have q0 := hB2.cell 0; have q1 := hB2.cell 1; have q2 := hB2.cell 2; have r0 := hB2.frozen 0; have r1 := hB2.frozen 1; have r2 := hB2.frozen 2; simp only [List.getElem?_toArray, List.getElem?_cons_zero, List.getElem?_cons_succ] at p0 p1 p2 q0 q1 q2; obtain ⟨gr, hgr⟩ : ∃ g, Hid (g = w.heap.size + 1) := ⟨_, rfl⟩; have hge : w.heap.size ≤ gr := by have := hgr.out; omega
 rw [← hgr.out] at hB2 q0 q1 q2 r0 r1 r2 ⊢; have hf := ((hB2.set_ 0 (.slice X1 xk1 xc1)).set_ 1 (.slice X2 xk2 xc2)).set_ 2 (.slice S kS cS); have z0 := hf.cell 0; have z1 := hf.cell 1; have z2 := hf.cell 2; simp at z0 z1 z2; have hbz : Below w.heap.size w (((w1.setCell ⟨gr, 0, none⟩ (.slice X1 xk1 xc1)).setCell ⟨gr, 1, none⟩ (.slice X2 xk2 xc2)).setCell ⟨gr, 2, none⟩ (.slice S kS cS)) := ((hb1.setCell (p := ⟨gr, 0, none⟩) hge _).setCell (p := ⟨gr, 1, none⟩) hge _).setCell (p := ⟨gr, 2, none⟩) hge _; have hpz : PlanV (((w1.setCell ⟨gr, 0, none⟩ (.slice X1 xk1 xc1)).setCell ⟨gr, 1, none⟩ (.slice X2 xk2 xc2)).setCell ⟨gr, 2, none⟩ (.slice S kS cS)) (.agg #[.slice X1 xk1 xc1, .slice X2 xk2 xc2, .slice S kS cS]) b rows := ⟨_, _, S, kS, cS, rfl, hbd.below hbz, hrows.below hbz⟩; clear hB1 hB2 hf hgr hb1; go_wp2_with fail; exact bodyPost_ret (v := .agg #[.slice X1 xk1 xc1, .slice X2 xk2 xc2, .slice S kS cS]) (by simp [results, Try.results15, go_sem, z0, z1, z2]) rfl ⟨_, rfl, hpz, hbz⟩
theorem same_self (l1 l2 : List Nat) : sameR l1 l2 l1 l2 = true := by unfold sameR sameB; simp
def PhiSm (bQ9 oA bB oB k cA cB i : Nat) (a1 a2 b1 b2 : Value) (j : Nat) (w : World) (x : Value) : Prop :=
 match j with
 | 0 => x = .slice (some ⟨bQ9, oA, none⟩) k cA
 | 1 => x = .int .i64 (i : Nat)
 | 2 => x = .pointer (some ⟨bQ9, oA + i * 2, none⟩)
 | 3 => x = .agg #[a1, a2]
 | 4 => x = .slice (some ⟨bB, oB, none⟩) k cB
 | 5 => x = .int .i64 (i : Nat)
 | 6 => x = .pointer (some ⟨bB, oB + i * 2, none⟩)
 | 7 => x = .agg #[b1, b2]
 | 8 => x = .bool true
 | 9 => x = .bool false
 | _ => True
theorem PhiSm.keep {bQ9 oA bB oB k cA cB i : Nat} {a1 a2 b1 b2 : Value} : ∀ (w w' : World), Below w.heap.size w w' → ∀ j x, PhiSm bQ9 oA bB oB k cA cB i a1 a2 b1 b2 j w x → PhiSm bQ9 oA bB oB k cA cB i a1 a2 b1 b2 j w' x := by
 intro w w' hb j x h; unfold PhiSm at h ⊢
 split <;> simp only at h ⊢
 all_goals exact h
set_option maxRecDepth 10000 in
set_option maxHeartbeats 1000000 in
theorem same_F (A B : Option Addr) (k cA cB : Nat) (X : List LP) (w : World) (ha : RatRow w A k X) (hb : RatRow w B k X) : Calls Try.prog 44 #[.slice A k cA, .slice B k cB] w fun e w' => e = .returned (.bool true) ∧ Below w.heap.size w w' := by
 have hk := ha.le
 go_enter Try.func44, Try.ntmps44
 go_wp2_with fail
 go_loopg [5] k (fun j x wr => ∃ i : Nat, x = .int .i64 i ∧ i + j = k ∧ Below w.heap.size w wr)
 case atStart => exact ⟨0, rfl, by omega, Below.refl _ _⟩
 case round =>
  obtain ⟨i, rfl, hij, hbe⟩ := hrel; by_cases hi : i < k
  ·have hii : (i : Int) < (k : Int) := by omega
   obtain ⟨bQ9, oA, a1, a2, x, rfl, q1, q2, HX, hx⟩ := (ha.below hbe).at_ hi; obtain ⟨bB, oB, b1, b2, y, rfl, r1, r2, HY, hy⟩ := (hb.below hbe).at_ hi
   have hxy : x = y := by
    have h1 := HX.out; rw [HY.out] at h1; injection h1 with h1; exact h1.symm
   subst hxy; have q1 := Lib.hid q1; have q2 := Lib.hid q2; have r1 := Lib.hid r1; have r2 := Lib.hid r2; clear HX HY; go_upto_region 6 with fail; refine region_inv (PhiSm bQ9 oA bB oB k cA cB i a1 a2 b1 b2) (fun w w' => Below w.heap.size w w') (fun W => Below wr.heap.size wr W) (by kernel_rfl) (by kernel_rfl) (by kernel_rfl) PhiSm.keep (fun _ _ hR hS => Below.tr hS hR) (bD _) ?_ ?_
   ·refine sK ?_ (sK ?_ (sK ?_ (sK ?_ (sK ?_ (sK ?_ (sK ?_ (sK ?_ (sK ?_ (sK ?_ (sZ))))))))))
    ·intro vs W hS hdep K hK; refine ⟨?_⟩; simp only [fillR, Act.put, sA, sB, sC, Nat.zero_add, Nat.reduceAdd] at hK ⊢; go_simp; with_reducible refine hK _ _ (Below.refl _ _) ?_
     exact rfl
    ·intro vs W hS hdep K hK; refine ⟨?_⟩; simp only [fillR, Act.put, sA, sB, sC, Nat.zero_add, Nat.reduceAdd] at hK ⊢; go_simp; with_reducible refine hK _ _ (Below.refl _ _) ?_
     exact rfl
    ·intro vs W hS hdep K hK; have d0 := hdep ⟨0, .data⟩ (by simp) rfl; simp only [PhiSm] at d0; have d1 := hdep ⟨1, .data⟩ (by simp) rfl; simp only [PhiSm] at d1; refine ⟨?_⟩; simp only [fillR, Act.put, sA, sB, sC, Nat.zero_add, Nat.reduceAdd, d0, d1] at hK ⊢; go_simp; with_reducible refine hK _ _ (Below.refl _ _) ?_
     exact rfl
    ·intro vs W hS hdep K hK; have d0 := hdep ⟨2, .data⟩ (by simp) rfl; simp only [PhiSm] at d0; have f1 := cell_keep hS q1.out; have f2 := cell_keep hS q2.out; refine ⟨?_⟩; simp only [fillR, Act.put, sA, sB, sC, Nat.zero_add, Nat.reduceAdd, d0] at hK ⊢; go_simp; with_reducible refine hK _ _ (Below.refl _ _) ?_
     exact rfl
    ·intro vs W hS hdep K hK; refine ⟨?_⟩; simp only [fillR, Act.put, sA, sB, sC, Nat.zero_add, Nat.reduceAdd] at hK ⊢; go_simp; with_reducible refine hK _ _ (Below.refl _ _) ?_
     exact rfl
    ·intro vs W hS hdep K hK; refine ⟨?_⟩; simp only [fillR, Act.put, sA, sB, sC, Nat.zero_add, Nat.reduceAdd] at hK ⊢; go_simp; with_reducible refine hK _ _ (Below.refl _ _) ?_
     exact rfl
    ·intro vs W hS hdep K hK; have d0 := hdep ⟨4, .data⟩ (by simp) rfl; simp only [PhiSm] at d0; have d1 := hdep ⟨5, .data⟩ (by simp) rfl; simp only [PhiSm] at d1; refine ⟨?_⟩; simp only [fillR, Act.put, sA, sB, sC, Nat.zero_add, Nat.reduceAdd, d0, d1] at hK ⊢; go_simp; with_reducible refine hK _ _ (Below.refl _ _) ?_
     exact rfl
    ·intro vs W hS hdep K hK; have d0 := hdep ⟨6, .data⟩ (by simp) rfl; simp only [PhiSm] at d0; have f1 := cell_keep hS r1.out; have f2 := cell_keep hS r2.out; refine ⟨?_⟩; simp only [fillR, Act.put, sA, sB, sC, Nat.zero_add, Nat.reduceAdd, d0] at hK ⊢; go_simp; with_reducible refine hK _ _ (Below.refl _ _) ?_
     exact rfl
    ·intro vs W hS hdep K hK; have d0 := hdep ⟨3, .data⟩ (by simp) rfl; simp only [PhiSm] at d0; have d1 := hdep ⟨7, .data⟩ (by simp) rfl; simp only [PhiSm] at d1; refine ⟨?_⟩; simp only [fillR, Act.put, sA, sB, sC, Nat.zero_add, Nat.reduceAdd, d0, d1] at hK ⊢; go_simp; refine (same_any _ _ _ _ _ _ _ (hx.below hS) (hy.below hS)).mono ?_; rintro e w' ⟨bb, rfl, hbb, hb⟩; go_wp2_with fail; with_reducible refine hK _ _ hb ?_
     exact (by rw [hbb.out, same_self]; exact rfl)
    ·intro vs W hS hdep K hK; have d0 := hdep ⟨8, .data⟩ (by simp) rfl; simp only [PhiSm] at d0; refine ⟨?_⟩; simp only [fillR, Act.put, sA, sB, sC, Nat.zero_add, Nat.reduceAdd, d0] at hK ⊢; go_simp; with_reducible refine hK _ _ (Below.refl _ _) ?_
     exact rfl
   ·intro vs W hS hv; have v9 := hv 9 (by simp); simp only [PhiSm] at v9; simp only [fillR, Act.put, sA, sB, sC, Nat.zero_add, Nat.reduceAdd, v9]; clear hv v9; go_wp2_with fail
    go_roundg (gk - 1)
    case measure => omega
    case rel => exact ⟨i + 1, by go_num, by omega, Below.tr hbe hS⟩
  ·go_wp2_with fail; go_ret; exact ⟨rfl, hbe⟩
end Go.Proofs.Ytnjjdiilkhdbeaa
namespace Go.Proofs.Ytnjjdiilkhdbeaa
open Go Go.RowKit
set_option maxRecDepth 10000 in
set_option maxHeartbeats 1000000 in
theorem of_F (n d : Nat) (w : World) (hn : n ≤ 9223372036854775807) (hd : 0 < d) (hd2 : d ≤ 9223372036854775807) : Calls Try.prog 11 #[.int .i64 n, .int .i64 d] w fun e w' => ∃ v, e = .returned v ∧ RatOf w' v n d ∧ Below w.heap.size w w' := by
 go_enter Try.func11, Try.ntmps11
 go_upto_region 1 with fail; refine wp_name ?_; intro w1 HW1; have hb1 : Below w.heap.size w w1 := by rw [HW1.out]; exact bA _ _
 have hs1 : Sl w1 w.heap.size := by rw [HW1.out]; exact Sl.new2 w
 obtain ⟨gr, hgr⟩ : ∃ g, Hid (g = w.heap.size) := ⟨_, rfl⟩; have hge : w.heap.size ≤ gr := by have := hgr.out; omega
 rw [← hgr.out] at hs1; rw [← hgr.out]; clear HW1; go_wp2_with fail; refine (rof_s n d _ hn hd hd2).mono ?_; rintro e w2 ⟨A1, k1, c1, A2, k2, c2, rfl, hr, hb2⟩; go_upto_region 2 with fail; refine wp_name ?_; intro w3 HW3; have hb3 : Below w2.heap.size w2 w3 := by rw [HW3.out]; exact bA _ _
 have hB : Blk w3 w2.heap.size 25 #[.slice A1 k1 c1, .slice A2 k2 c2] := by rw [HW3.out]; exact Blk.new _ _ _
 have p0 := hB.cell 0; have p1 := hB.cell 1; simp only [List.getElem?_toArray, List.getElem?_cons_zero, List.getElem?_cons_succ] at p0 p1; have HRO := Lib.hid hr; obtain ⟨A, k', c, A', k'', c'', he, ⟨a1, r1⟩, ⟨a2, r2⟩, r3, r4, z1, z2, hrr, hbz⟩ := ret_ratio (w0 := w) (hr.1.rtP.below hb3) ((hs1.below hb2).below hb3) hge (Below.tr (Below.tr hb1 hb2) hb3); simp only [Value.agg.injEq, Array.mk.injEq, List.cons.injEq, and_true, Value.slice.injEq] at he; obtain ⟨⟨rfl, rfl, rfl⟩, rfl, rfl, rfl⟩ := he; have hrat := (hr.below hb3).map (w' := (w3.setCell ⟨gr, 0, none⟩ (.slice A1 k1 c1)).setCell ⟨gr, 1, none⟩ (.slice A2 k2 c2)) (fun A k c x h => ⟨h.1, (RT.store ((hs1.below hb2).below hb3) (Nat.le_refl _) _ _ _ _ _ _).lim _ _ _ h.2⟩); clear HW3 hB hs1 hb1 hb2 hb3 hr hrr; go_wp2_with fail; exact bodyPost_ret (v := .agg #[.slice A1 k1 c1, .slice A2 k2 c2]) (by simp [results, Try.results11, go_sem, z1, z2]) rfl ⟨_, rfl, hrat, hbz⟩
theorem info_bool : (Try.prog.info? 4).map (fun i => (i.zero, i.size, i.bytes)) = some (some (.bool false), 1, 1) := by kernel_rfl
set_option maxRecDepth 10000 in
set_option maxHeartbeats 2000000 in
theorem bad_n (A : Option Addr) (k c most : Nat) (l : List Int) (w : World) (h : RowL intC w A k l) (HL : Hid (∀ x ∈ l, -9223372036854775808 ≤ x ∧ x ≤ 9223372036854775807)) (hm : most ≤ 1048576) :
  Calls Try.prog 21 #[.slice A k c, .int .i64 (most : Int)] w fun e w' => ∃ (v : Value) (bad : List Bool), e = .returned v ∧ w'.ownsRow w.heap.size 4 1 v bad.length (bad.flatMap boolC) ∧ bad.length ≤ most ∧ Below w.heap.size w w' := by
 obtain ⟨i0, hi0, hz0, hz1, hz2⟩ := info_parts info_bool; have hk := h.2.2
 go_enter Try.func21, Try.ntmps21
 go_wp2_with fail
 go_loopg [5, 6] most (fun j v x wr => ∃ (i : Nat) (bad : List Bool), x = .int .i64 i ∧ i + j = most ∧ i ≤ k ∧ Hid (bad.length = i) ∧ wr.ownsRow w.heap.size 4 1 v i (bad.flatMap boolC) ∧ Below w.heap.size w wr)
 case atStart => exact ⟨0, [], rfl, by omega, by omega, rfl, World.ownsRow_nil _ _ _ _, Below.refl _ _⟩
 case round =>
  obtain ⟨G, hG⟩ : ∃ G, G = gk := ⟨gk, rfl⟩; subst hG; obtain ⟨i, bad, rfl, hij, hik, HBL, hown, hbe⟩ := hrel; obtain ⟨Ao, co, rfl⟩ := own_shp hown; have hend : ∃ bad' : List Bool, wr.ownsRow w.heap.size 4 1 (.slice Ao i co) bad'.length (bad'.flatMap boolC) ∧ bad'.length ≤ most := ⟨bad, by rw [HBL.out]; exact hown, by have := HBL.out; omega⟩; obtain ⟨bad', hend1, hend2⟩ := hend; by_cases hi : i < k
  ·have t1 : decide ((i : Int) < (k : Int)) = true := by simp; omega
   have hii : (i : Int) < (k : Int) := by omega
   by_cases hi2 : i < most
   ·have t2 : decide ((i : Int) < (most : Int)) = true := by simp; omega
    obtain ⟨b, off, n, rfl, hc, HN⟩ := (h.below hbe).int hi; have hx := HL.out n (List.mem_of_getElem? HN.out); have hsz := hbe.size; go_wp2_with fail; refine (around_n n 3 _ hx.1 hx.2 (by omega) (by omega)).mono ?_; rintro e w' ⟨z, rfl, hz, _, rfl⟩; obtain ⟨bb, hbb⟩ : ∃ bb : Bool, ((z : Int) == 0) = bb := ⟨_, rfl⟩; have hrd := Rd.newC wr 4 [.bool bb]; have hbA := bA wr (.cells #[.bool bb] 4); have hown3 := own_below hown hbA; have hbe3 := Below.tr hbe hbA; have hsz3 := hbe3.size; clear hend1 hend2 hx
    go_wp2_with (at_builtin; go_loud (refine wpList_append_any _ rfl (.tmp 18) (.tmp 25) _ rfl w.heap.size 4 i0 _ 1 1 Try.underlying48 hi0 hz0 hz1 hz2 rfl (by omega) _ i _ rfl hown3 _ 1 1 (boolC bb) rfl rfl hrd (by simp [boolC, Value.oneCell']) (by simp only [maxLen]; omega) (by omega) hsz3 ?_); intro v4 w4 hown4 hg4 hat4)
    have hbe4 : Below w.heap.size w w4 := hbe3.grown hg4 hsz3 (own_block_ge hown3); have hown5 : w4.ownsRow w.heap.size 4 1 v4 (i + 1) ((bad ++ [bb]).flatMap boolC) := by rw [List.flatMap_append]; simpa using hown4
    have HBL5 : Hid ((bad ++ [bb]).length = i + 1) := by show _ = _; rw [List.length_append, HBL.out]; rfl
    obtain ⟨A5, c5, rfl⟩ := own_shp hown5; clear hown4 hown3 hg4 hat4 hbe3 hrd hbb; go_wp2_with fail
    go_roundg (G - 1)
    case measure => omega
    case rel => exact ⟨i + 1, bad ++ [bb], by go_num, by omega, by omega, HBL5, hown5, hbe4⟩
   ·have t2 : decide ((i : Int) < (most : Int)) = false := by simp; omega
    go_wp2_with fail; go_ret; exact ⟨_, bad', rfl, hend1, hend2, hbe⟩
  ·have t1 : decide ((i : Int) < (k : Int)) = false := by simp; omega
   go_wp2_with fail; go_ret; exact ⟨_, bad', rfl, hend1, hend2, hbe⟩
end Go.Proofs.Ytnjjdiilkhdbeaa
namespace Go.Proofs.Ytnjjdiilkhdbeaa
open Go Go.RowKit
noncomputable def sumF : LP → List LP → Int × LP
 | a, [] => (0, a)
 | a, x :: xs => if (addF a x).1 = 0 then sumF (addF a x).2 xs else ((addF a x).1, nilP)
theorem sumF_drop {a x : LP} {X : List LP} {i : Nat} (h : X[i]? = some x) : sumF a (X.drop i) = if (addF a x).1 = 0 then sumF (addF a x).2 (X.drop (i + 1)) else ((addF a x).1, nilP) := by
 obtain ⟨h1, h2⟩ := List.getElem?_eq_some_iff.1 h; rw [List.drop_eq_getElem_cons h1, h2]; rfl
theorem GoodX.sl {w : World} {g : Nat} {X : LP} (h : GoodX w g X) : Sl w g := by
 obtain ⟨A, k, c, A', k', c', h, _⟩ := h; exact ⟨_, _, _, _, _, _, h⟩
set_option maxRecDepth 10000 in
set_option maxHeartbeats 2000000 in
theorem sum_F (A : Option Addr) (k c : Nat) (X : List LP) (w : World) (h : RatRow w A k X) :
  Calls Try.prog 50 #[.slice A k c] w fun e w' => ∃ v, e = .returned (.tuple #[v, .int .i64 (sumF nilP X).1]) ∧ RtP w' v (sumF nilP X).2 ∧ Below w.heap.size w w' := by
 have hk := h.le; have HKL := Lib.hid h.len; obtain ⟨E, HE⟩ : ∃ E, Hid (E = (sumF nilP X).1) := ⟨_, rfl⟩; obtain ⟨Y, HY⟩ : ∃ Y, Hid (Y = (sumF nilP X).2) := ⟨_, rfl⟩; rw [← HE.out, ← HY.out]
 go_enter Try.func50, Try.ntmps50
 go_upto_region 2 with fail; refine wp_name ?_; intro w1 HW1; have hb1 : Below w.heap.size w w1 := by rw [HW1.out]; exact Below.tr (bA _ _) (bA _ _)
 have hB1 : Blk w1 w.heap.size 25 #[.slice none 0 0, .slice none 0 0] := by rw [HW1.out]; exact Blk.below (Blk.newG rfl) (bA _ _) (Blk.newG rfl).lt
 have hB2 : Blk w1 (w.heap.size + 1) 25 #[.slice none 0 0, .slice none 0 0] := by rw [HW1.out]; exact Blk.newG (by simp)
 have hsz1 : Hid (w1.heap.size = w.heap.size + 1 + 1) := by show _ = _; rw [HW1.out]; simp
 obtain ⟨gR, hgR⟩ : ∃ g, Hid (g = w.heap.size) := ⟨_, rfl⟩; obtain ⟨gA, hgA⟩ : ∃ g, Hid (g = w.heap.size + 1) := ⟨_, rfl⟩; have hgr : w.heap.size ≤ gR := by have := hgR.out; omega
 have hga : w.heap.size ≤ gA := by have := hgA.out; omega
 have hne : gR ≠ gA := by have := hgA.out; have := hgR.out; omega
 rw [← hgA.out] at hB2 ⊢; rw [← hgR.out] at hB1 ⊢; have hg0 : GoodX w1 gA nilP := ⟨_, _, _, _, _, _, hB2, nil_rtP w1⟩; have hs0 : Sl w1 gR := ⟨_, _, _, _, _, _, hB1⟩; clear HW1 hB1 hB2 hgR hgA hsz1; go_wp2_with fail
 go_loopg [11] k (fun j x wr => ∃ (i : Nat) (a : LP), x = .int .i64 i ∧ i + j = k ∧ Hid (sumF nilP X = sumF a (X.drop i)) ∧ GoodX wr gA a ∧ Sl wr gR ∧ Below w.heap.size w wr)
 case atStart => exact ⟨0, nilP, rfl, by omega, rfl, hg0, hs0, hb1⟩
 case round =>
  clear hg0 hs0 hb1; obtain ⟨i, a, rfl, hij, HS, hgx, hsr, hbe⟩ := hrel; by_cases hi : i < k
  ·obtain ⟨bQ9, oA, v1, v2, x, rfl, r1, r2, HX0, hx⟩ := (h.below hbe).at_ hi; obtain ⟨D1, m1, e1, D2, m2, e2, hsh⟩ := hx.shape; simp only [Value.agg.injEq, Array.mk.injEq, List.cons.injEq, and_true] at hsh; obtain ⟨rfl, rfl⟩ := hsh; have HST := HS.out; rw [sumF_drop HX0.out] at HST; have HST := Lib.hid HST; go_upto_region 5 with fail; refine wp_name ?_; intro w3 HW3; have hb3 : Below wr.heap.size wr w3 := by rw [HW3.out]; exact bA _ _
   have hB3 : Blk w3 wr.heap.size 25 #[.slice D1 m1 e1, .slice D2 m2 e2] := by rw [HW3.out]; exact Blk.new _ _ _
   have s0 := hB3.cell 0; have s1 := hB3.cell 1; simp only [List.getElem?_toArray, List.getElem?_cons_zero, List.getElem?_cons_succ] at s0 s1; obtain ⟨C1, n1, f1, C2, n2, f2, hblk, ha⟩ := hgx; have hblk3 := hblk.below hb3 hblk.lt; have q0 := hblk3.cell 0; have q1 := hblk3.cell 1; simp only [List.getElem?_toArray, List.getElem?_cons_zero, List.getElem?_cons_succ] at q0 q1; have hx3 := hx.below hb3; have ha3 := ha.below hb3; have hbw3 := Below.tr hbe hb3; have hs3 := hsr.below hb3; clear HW3 hB3 hblk hx ha hb3 r1 r2 HS hsr hbe; go_wp2_with fail; refine (add_F _ _ a x _ ha3 hx3).mono ?_; rintro e w4 ⟨v, rfl, hv, hb4⟩; obtain ⟨F1, l1, g1, F2, l2, g2, rfl⟩ := hv.shape; go_upto_region 6 with fail; refine wp_name ?_; intro w5 HW5; have hb5 : Below w4.heap.size w4 w5 := by rw [HW5.out]; exact bA _ _
   have hB5 : Blk w5 w4.heap.size 25 #[.slice F1 l1 g1, .slice F2 l2 g2] := by rw [HW5.out]; exact Blk.new _ _ _
   have t0 := hB5.cell 0; have t1 := hB5.cell 1; simp only [List.getElem?_toArray, List.getElem?_cons_zero, List.getElem?_cons_succ] at t0 t1; have hb45 := Below.tr hb4 hb5; have hbw5 := Below.tr hbw3 hb45; have hs5 := hs3.below hb45; have hA5 := hblk3.below hb45 hblk3.lt; have hv5 := hv.below hb5; clear HW5 hB5 hb4 hb5 hb45 hv q0 q1 s0 s1 ha3 hx3 hbw3 hs3 hblk3; by_cases he0 : (addF a x).1 = 0
   ·have HS2 : Hid (sumF nilP X = sumF (addF a x).2 (X.drop (i + 1))) := by show _ = _; rw [HST.out, if_pos he0]
    rw [he0]; have y0 := hA5.cell 0; have y1 := hA5.cell 1; have y2 := hA5.frozen 0; have y3 := hA5.frozen 1; simp only [List.getElem?_toArray, List.getElem?_cons_zero, List.getElem?_cons_succ] at y0 y1; have hslA : Sl w5 gA := ⟨_, _, _, _, _, _, hA5⟩; have hrx := RX.store (B := w.heap.size) hslA hga hv5; have hgx6 := hrx.2; have hs6 := (RT.store (N := w.heap.size) hslA hga F1 l1 g1 F2 l2 g2).sl gR hs5; have hbe6 := hbw5.trans hrx.1.be; clear he0 hA5 hslA hrx HST; go_wp2_with fail
    go_roundg (gk - 1)
    case measure => omega
    case rel => exact ⟨i + 1, _, by go_num, by omega, HS2, hgx6, hs6, hbe6⟩
   ·have t9 : ((addF a x).1 != 0) = true := by simpa using he0
    have HF : Hid (E = (addF a x).1) := by show _ = _; rw [HE.out, HST.out, if_neg he0]
    have HX : Hid (Y = nilP) := by show _ = _; rw [HY.out, HST.out, if_neg he0]
    obtain ⟨A, k', c, A', k'', c'', he, ⟨a1, u1⟩, ⟨a2, u2⟩, u3, u4, z1, z2, hr, hbz⟩ := ret_ratio (w0 := w) (nil_rtP w5) hs5 hgr hbw5; simp only [nilRat, Value.agg.injEq, Array.mk.injEq, List.cons.injEq, and_true, Value.slice.injEq] at he; obtain ⟨⟨rfl, rfl, rfl⟩, rfl, rfl, rfl⟩ := he; clear hv5 hA5 t0 t1 he0; go_wp2_with fail; exact bodyPost_ret (v := .tuple #[.agg #[.slice none 0 0, .slice none 0 0], .int .i64 _]) (by simp [results, Try.results50, go_sem, z1, z2]; rfl) rfl ⟨_, by rw [HF.out], by rw [HX.out]; exact hr, hbz⟩
  ·have HST := HS.out; rw [List.drop_eq_nil_of_le (by have := HKL.out; omega)] at HST; have HF : Hid (E = 0) := by show _ = _; rw [HE.out, HST]; rfl
   have HX : Hid (Y = a) := by show _ = _; rw [HY.out, HST]; rfl
   obtain ⟨C1, n1, f1, C2, n2, f2, hblk, ha⟩ := hgx; have q0 := hblk.cell 0; have q1 := hblk.cell 1; simp only [List.getElem?_toArray, List.getElem?_cons_zero, List.getElem?_cons_succ] at q0 q1; obtain ⟨A, k', c, A', k'', c'', he, ⟨a1, u1⟩, ⟨a2, u2⟩, u3, u4, z1, z2, hr, hbz⟩ := ret_ratio (w0 := w) ha hsr hgr hbe; simp only [nilRat, Value.agg.injEq, Array.mk.injEq, List.cons.injEq, and_true, Value.slice.injEq] at he; obtain ⟨⟨rfl, rfl, rfl⟩, rfl, rfl, rfl⟩ := he; clear HST hblk; go_wp2_with fail; exact bodyPost_ret (v := .tuple #[.agg #[.slice C1 n1 f1, .slice C2 n2 f2], .int .i64 _]) (by simp [results, Try.results50, go_sem, z1, z2]; rfl) rfl ⟨_, by rw [HF.out], by rw [HX.out]; exact hr, hbz⟩
end Go.Proofs.Ytnjjdiilkhdbeaa
namespace Go.Proofs.Ytnjjdiilkhdbeaa
open Go Go.RowKit
theorem fits_le {n d m k : Nat} (hn : n ≤ m) (hd : d ≤ k) (hm : m < Nm.B ^ 64) (hk : k < Nm.B ^ 64) : Nm.Fits n d := fits_small (Nat.lt_of_le_of_lt hn hm) (Nat.lt_of_le_of_lt hd hk)
theorem resP_small {n d : Nat} (hn : n < Nm.B ^ 64) (hd : d < Nm.B ^ 64) : resP n d = (0, ratP (n / Nat.gcd n d) (d / Nat.gcd n d)) := by
 unfold resP; rw [if_pos (fits_le (Nat.div_le_self _ _) (Nat.div_le_self _ _) hn hd)]
theorem red_good {n d : Nat} (h0 : 0 < d) (hn : n < Nm.B ^ 64) (hd : d < Nm.B ^ 64) : Nm.Good (n / Nat.gcd n d) (d / Nat.gcd n d) := good_red h0 (fits_le (Nat.div_le_self _ _) (Nat.div_le_self _ _) hn hd)
theorem fewB_lb {p : Nat} (hp : p ≤ 255) : fewB (Nm.lb p) = true := by
 rcases Nat.eq_zero_or_pos p with h | h
 ·subst h; rw [Nm.lb_zero]; rfl
 ·rw [Nm.lb_small (n := p) (by omega) (by unfold Nm.B; omega)]; unfold fewB; simp; omega
theorem smallB_rat {p q : Nat} (hg : Nm.Good p q) (hp : p ≤ 255) (hq : q ≤ 255) : smallB (ratP p q) = true := by
 have h1 : fewB (ratP p q).1 = true := fewB_lb hp; have h2 : fewB (ratP p q).2 = true := fewB_lb (Nat.le_trans (by unfold Nm.dn; split <;> omega) hq); unfold smallB; rw [valid_rat hg, h1, h2]; rfl
theorem atB_rat {pa qa pb qb : Nat} (ga : Nm.Good pa qa) (gb : Nm.Good pb qb) : atB (ratP pa qa) (ratP pb qb) = decide (pa * qb ≤ pb * qa) := by
 unfold atB; rw [cmpV_rat ga gb, decide_eq_decide]; unfold Nm.cmpN
 split <;> (try split) <;> omega
/-- a stake whose product with the bound is at most 1 -/
theorem wrongB_ok {p q pb qb : Nat} (hg : Nm.Good p q) (gb : Nm.Good pb qb) (hp : p ≤ 255) (hq : q ≤ 255) (hpb : pb ≤ 255) (hqb : qb ≤ 255) (h : p * pb ≤ q * qb) : wrongB (ratP pb qb) (ratP p q) = false := by
 have h1 : p * pb ≤ 255 * 255 := Nat.mul_le_mul hp hpb; have h2 : q * qb ≤ 255 * 255 := Nat.mul_le_mul hq hqb; have h3 : 0 < q * qb := Nat.mul_pos hg.1 gb.1; have h4 : p * pb < Nm.B ^ 64 := b64 (by omega); have h5 : q * qb < Nm.B ^ 64 := b64 (by omega); unfold wrongB oneP; rw [smallB_rat hg hp hq, mulV_rat hg gb, resP_small h4 h5, atB_rat (red_good h3 h4 h5) Good_one, decide_eq_true (by rw [Nat.mul_one, Nat.one_mul]; exact Nat.div_le_div_right h)]; rfl
end Go.Proofs.Ytnjjdiilkhdbeaa
namespace Go.Proofs.Ytnjjdiilkhdbeaa
open Go Go.RowKit
theorem divF_rat {pa qa pb qb : Nat} (ga : Nm.Good pa qa) (gb : Nm.Good pb qb) (h : pb ≠ 0) : (divF (ratP pa qa) (ratP pb qb)).2 = (resP (pa * qb) (qa * pb)).2 := by
 unfold divF; rw [binF_rat ga gb]; dsimp only; rw [if_neg h]
/-- what Bet makes -/
def BetOk (b : LP) (w : World) (v : Value) : Prop := ∃ p q, RtP w v (ratP p q) ∧ Nm.Good p q ∧ wrongB b (ratP p q) = false
theorem BetOk.map {b : LP} {w w' : World} {v : Value} (h : BetOk b w v) (hm : ∀ A c l, Lim w A c l → Lim w' A c l) : BetOk b w' v := by
 obtain ⟨p, q, h1, h2⟩ := h; exact ⟨p, q, h1.mapL hm, h2⟩
theorem BetOk.shape {b : LP} {w : World} {v : Value} (h : BetOk b w v) : ∃ A k c A' k' c', v = .agg #[.slice A k c, .slice A' k' c'] := by
 obtain ⟨p, q, h1, _⟩ := h; exact h1.shape
theorem bet_zero {z y : Nat} (hz : z < 13) (hy : y < 4) : Nm.Good (z / Nat.gcd z (1 + y)) ((1 + y) / Nat.gcd z (1 + y)) ∧ wrongB (ratP 0 1) (ratP (z / Nat.gcd z (1 + y)) ((1 + y) / Nat.gcd z (1 + y))) = false := by
 have hg := red_good (n := z) (d := 1 + y) (by omega) (b64 (by omega)) (b64 (by omega)); have h1 := Nat.div_le_self z (Nat.gcd z (1 + y)); have h2 := Nat.div_le_self (1 + y) (Nat.gcd z (1 + y)); exact ⟨hg, wrongB_ok hg g01 (by omega) (by omega) (by omega) (by omega) (by omega)⟩
theorem bet_div {z y pb qb : Nat} (gb : Nm.Good pb qb) (h0 : pb ≠ 0) (hpb : pb ≤ 255) (hqb : qb ≤ 255) (hz : z ≤ y) (hy : 0 < y) (hy2 : y ≤ 4) :
  ∃ p q, (resP (z * qb) (y * pb)).2 = ratP p q ∧ Nm.Good p q ∧ p * pb ≤ q * qb := by
 have hyp : 0 < y * pb := Nat.mul_pos hy (by omega); have e1 : z * qb ≤ 4 * 255 := Nat.mul_le_mul (by omega) hqb; have e2 : y * pb ≤ 4 * 255 := Nat.mul_le_mul hy2 hpb; have k1 : z * qb < Nm.B ^ 64 := b64 (by omega); have k2 : y * pb < Nm.B ^ 64 := b64 (by omega); refine ⟨_, _, by rw [resP_small k1 k2], red_good hyp k1 k2, ?_⟩; have hgp : 0 < Nat.gcd (z * qb) (y * pb) := Nat.gcd_pos_of_pos_right _ hyp; have d1 := Nat.div_mul_cancel (Nat.gcd_dvd_left (z * qb) (y * pb)); have d2 := Nat.div_mul_cancel (Nat.gcd_dvd_right (z * qb) (y * pb)); refine Nat.le_of_mul_le_mul_right ?_ hgp; rw [Nat.mul_right_comm (z * qb / _) pb, d1, Nat.mul_right_comm (y * pb / _) qb, d2]
 calc z * qb * pb ≤ y * qb * pb := Nat.mul_le_mul_right _ (Nat.mul_le_mul_right _ hz)
  _ = y * pb * qb := Nat.mul_right_comm _ _ _
theorem wrongB_of {p q pb qb : Nat} (hg : Nm.Good p q) (gb : Nm.Good pb qb) (hs : smallB (ratP p q) = true) (hp : p ≤ 1020) (hq : q ≤ 1020) (hpb : pb ≤ 255) (hqb : qb ≤ 255) (h : p * pb ≤ q * qb) : wrongB (ratP pb qb) (ratP p q) = false := by
 have h1 : p * pb ≤ 1020 * 255 := Nat.mul_le_mul hp hpb; have h2 : q * qb ≤ 1020 * 255 := Nat.mul_le_mul hq hqb; have h3 : 0 < q * qb := Nat.mul_pos hg.1 gb.1; have h4 : p * pb < Nm.B ^ 64 := b64 (by omega); have h5 : q * qb < Nm.B ^ 64 := b64 (by omega); unfold wrongB oneP; rw [hs, mulV_rat hg gb, resP_small h4 h5, atB_rat (red_good h3 h4 h5) Good_one, decide_eq_true (by rw [Nat.mul_one, Nat.one_mul]; exact Nat.div_le_div_right h)]; rfl
theorem wrongB_nil {pb qb : Nat} (gb : Nm.Good pb qb) (hpb : pb ≤ 255) (hqb : qb ≤ 255) : wrongB (ratP pb qb) nilP = false := by
 rw [← nil_ratP]; exact wrongB_ok g01 gb (by omega) (by omega) hpb hqb (by omega)
/-- 1 by the bound -/
theorem bet_one {pb qb : Nat} (gb : Nm.Good pb qb) (h0 : pb ≠ 0) (hpb : pb ≤ 255) (hqb : qb ≤ 255) : ∃ p q, (divF oneP (ratP pb qb)).2 = ratP p q ∧ Nm.Good p q ∧ wrongB (ratP pb qb) (ratP p q) = false := by
 unfold oneP; rw [divF_rat Good_one gb h0]; have k1 : 1 * qb < Nm.B ^ 64 := b64 (by omega); have k2 : 1 * pb < Nm.B ^ 64 := b64 (by omega); obtain ⟨p, q, e, hg, hle⟩ := bet_div (z := 1) (y := 1) gb h0 hpb hqb (by omega) (by omega) (by omega); refine ⟨p, q, e, hg, ?_⟩; rw [resP_small k1 k2] at e; have n1 := numL_rat hg; have n2 := numL_rat (red_good (n := 1 * qb) (d := 1 * pb) (by omega) k1 k2); rw [← e, n2] at n1; simp only [Prod.mk.injEq] at n1; have m1 := Nat.div_le_self (1 * qb) (Nat.gcd (1 * qb) (1 * pb)); have m2 := Nat.div_le_self (1 * pb) (Nat.gcd (1 * qb) (1 * pb)); exact wrongB_ok hg gb (by omega) (by omega) hpb hqb hle
/-- a part of 4 by the bound, if it is small -/
theorem bet_part {z pb qb : Nat} (gb : Nm.Good pb qb) (h0 : pb ≠ 0) (hpb : pb ≤ 255) (hqb : qb ≤ 255) (hz : z < 4) : ∃ p q, (divF (ratP (z / Nat.gcd z 4) (4 / Nat.gcd z 4)) (ratP pb qb)).2 = ratP p q ∧ Nm.Good p q ∧ (smallB (ratP p q) = true → wrongB (ratP pb qb) (ratP p q) = false) := by
 have g4 := red_good (n := z) (d := 4) (by omega) (b64 (by omega)) (b64 (by omega)); have hle0 : z / Nat.gcd z 4 ≤ 4 / Nat.gcd z 4 := Nat.div_le_div_right (by omega); have hy4 := Nat.div_le_self 4 (Nat.gcd z 4); rw [divF_rat g4 gb h0]; have e1 : z / Nat.gcd z 4 * qb ≤ 4 * 255 := Nat.mul_le_mul (by omega) hqb; have e2 : 4 / Nat.gcd z 4 * pb ≤ 4 * 255 := Nat.mul_le_mul hy4 hpb; have k1 : z / Nat.gcd z 4 * qb < Nm.B ^ 64 := b64 (by omega); have k2 : 4 / Nat.gcd z 4 * pb < Nm.B ^ 64 := b64 (by omega); obtain ⟨p, q, e, hg, hle⟩ := bet_div gb h0 hpb hqb hle0 g4.1 hy4; refine ⟨p, q, e, hg, fun hs => ?_⟩; rw [resP_small k1 k2] at e; have n1 := numL_rat hg; have n2 := numL_rat (red_good (n := z / Nat.gcd z 4 * qb) (d := 4 / Nat.gcd z 4 * pb) (Nat.mul_pos g4.1 (by omega)) k1 k2); rw [← e, n2] at n1; simp only [Prod.mk.injEq] at n1; have m1 := Nat.div_le_self (z / Nat.gcd z 4 * qb) (Nat.gcd (z / Nat.gcd z 4 * qb) (4 / Nat.gcd z 4 * pb)); have m2 := Nat.div_le_self (4 / Nat.gcd z 4 * pb) (Nat.gcd (z / Nat.gcd z 4 * qb) (4 / Nat.gcd z 4 * pb)); exact wrongB_of hg gb hs (by omega) (by omega) hpb hqb hle
end Go.Proofs.Ytnjjdiilkhdbeaa
namespace Go.Proofs.Ytnjjdiilkhdbeaa
open Go Go.RowKit
/-- n by d in lowest form -/
def redP (n d : Nat) : LP := ratP (n / Nat.gcd n d) (d / Nat.gcd n d)
theorem red_num {n d n' d' : Nat} (hd : 0 < d) (hd' : 0 < d') (h : n * d' = n' * d) : n / Nat.gcd n d = n' / Nat.gcd n' d' := by
 have e1 : n * d' / Nat.gcd (n * d') (d * d') = n / Nat.gcd n d := by rw [Nat.gcd_mul_right, Nat.mul_div_mul_right _ _ hd']
 have e2 : n' * d / Nat.gcd (n' * d) (d' * d) = n' / Nat.gcd n' d' := by rw [Nat.gcd_mul_right, Nat.mul_div_mul_right _ _ hd]
 rw [← e1, ← e2, h, Nat.mul_comm d d']
theorem red_den {n d n' d' : Nat} (hd : 0 < d) (hd' : 0 < d') (h : n * d' = n' * d) : d / Nat.gcd n d = d' / Nat.gcd n' d' := by
 have e1 : d * d' / Nat.gcd (n * d') (d * d') = d / Nat.gcd n d := by rw [Nat.gcd_mul_right, Nat.mul_div_mul_right _ _ hd']
 have e2 : d' * d / Nat.gcd (n' * d) (d' * d) = d' / Nat.gcd n' d' := by rw [Nat.gcd_mul_right, Nat.mul_div_mul_right _ _ hd]
 rw [← e1, ← e2, h, Nat.mul_comm d d']
theorem redP_eq {n d n' d' : Nat} (hd : 0 < d) (hd' : 0 < d') (h : n * d' = n' * d) : redP n d = redP n' d' := by
 unfold redP; rw [red_num hd hd' h, red_den hd hd' h]
theorem resP_red {n d n' d' : Nat} (hd : 0 < d) (hd' : 0 < d') (h : n * d' = n' * d) (hn : n' < Nm.B ^ 64) (hd2 : d' < Nm.B ^ 64) : resP n d = (0, redP n' d') := by
 have h1 : resP n d = resP n' d' := by
  unfold resP; rw [red_num hd hd' h, red_den hd hd' h]
 rw [h1, resP_small hn hd2]; rfl
/-- a ratio n by d -/
structure Frac (x : LP) (n d : Nat) : Prop where
 pos : 0 < d
 hn : n < Nm.B ^ 64
 hd : d < Nm.B ^ 64
 eq : x = redP n d
theorem Frac.parts {x : LP} {n d : Nat} (h : Frac x n d) : ∃ a b g, x = ratP a b ∧ Nm.Good a b ∧ n = a * g ∧ d = b * g ∧ 0 < g :=
 ⟨_, _, Nat.gcd n d, h.eq, red_good h.pos h.hn h.hd, (Nat.div_mul_cancel (Nat.gcd_dvd_left _ _)).symm, (Nat.div_mul_cancel (Nat.gcd_dvd_right _ _)).symm, Nat.gcd_pos_of_pos_right _ h.pos⟩
theorem Frac.of_good {p q : Nat} (g : Nm.Good p q) : Frac (ratP p q) p q := by
 obtain ⟨h1, h2⟩ := good_lt g; refine ⟨g.1, h1, h2, ?_⟩; have n1 := numL_rat g; have n2 := numL_rat (red_good g.1 h1 h2); have e := redP_eq (n := p) (d := q) (n' := p) (d' := q) g.1 g.1 rfl; unfold redP; have hc : Nat.gcd p q = 1 := g.gcd; rw [hc, Nat.div_one, Nat.div_one]
theorem Frac.of_rat {n d : Nat} (h0 : 0 < d) (hn : n < Nm.B ^ 64) (hd : d < Nm.B ^ 64) : Frac (ratP (n / Nat.gcd n d) (d / Nat.gcd n d)) n d := ⟨h0, hn, hd, rfl⟩
theorem Frac.scale {x : LP} {n d m e : Nat} (h : Frac x n d) (he : 0 < e) (hm : m < Nm.B ^ 64) (hE : e < Nm.B ^ 64) (hc : n * e = m * d) : Frac x m e :=
 ⟨he, hm, hE, by rw [h.eq]; exact redP_eq h.pos he hc⟩
theorem Frac.uniq {x y : LP} {n d m e : Nat} (h : Frac x n d) (h2 : Frac y m e) (hc : n * e = m * d) : x = y := by rw [h.eq, h2.eq]; exact redP_eq h.pos h2.pos hc
theorem Frac.one {d : Nat} (h : 0 < d) (hd : d < Nm.B ^ 64) : Frac oneP d d := (Frac.of_good Good_one).scale h hd hd (by omega)
theorem Frac.nil {d : Nat} (h : 0 < d) (hd : d < Nm.B ^ 64) : Frac nilP 0 d := by
 rw [← nil_ratP]; exact (Frac.of_good g01).scale h (by omega) hd (by omega)
theorem Frac.valid {x : LP} {n d : Nat} (h : Frac x n d) : validP x = 0 := by
 obtain ⟨a, b, g, rfl, ga, _⟩ := h.parts; exact valid_rat ga
theorem Frac.okP {x : LP} {n d : Nat} (h : Frac x n d) : okP x := by
 obtain ⟨a, b, g, rfl, ga, _⟩ := h.parts; exact okP_lb
theorem Frac.mul {x y : LP} {n d m e : Nat} (hx : Frac x n d) (hy : Frac y m e) (h1 : n * m < Nm.B ^ 64) (h2 : d * e < Nm.B ^ 64) : Frac (mulV x y) (n * m) (d * e) ∧ (mulF x y).1 = 0 := by
 have p1 := hx.pos; have p2 := hy.pos; obtain ⟨a, b, g, rfl, ga, rfl, rfl, hg⟩ := hx.parts; obtain ⟨c, f, k, rfl, gc, rfl, rfl, hk⟩ := hy.parts; have hr := resP_red (n := a * c) (d := b * f) (n' := a * g * (c * k)) (d' := b * g * (f * k)) (Nat.mul_pos ga.1 gc.1) (Nat.mul_pos p1 p2) (by ac_rfl) h1 h2; have hm : mulF (ratP a b) (ratP c f) = resP (a * c) (b * f) := by unfold mulF; rw [binF_rat ga gc]
 refine ⟨⟨Nat.mul_pos p1 p2, h1, h2, ?_⟩, by rw [hm, hr]⟩; unfold mulV; rw [hm, hr]
theorem Frac.add {x y : LP} {n d m : Nat} (hx : Frac x n d) (hy : Frac y m d) (h1 : n + m < Nm.B ^ 64) : Frac (addV x y) (n + m) d ∧ (addF x y).1 = 0 := by
 have p1 := hx.pos; have h2 := hx.hd; obtain ⟨a, b, g, rfl, ga, en, ed, hg⟩ := hx.parts; obtain ⟨c, f, k, rfl, gc, em, ef, hk⟩ := hy.parts; have hr := resP_red (n := a * f + c * b) (d := b * f) (n' := n + m) (d' := d) (Nat.mul_pos ga.1 gc.1) p1 (by rw [Nat.add_mul, Nat.add_mul]; congr 1; (rw [ed, en]; ac_rfl); (rw [ef, em]; ac_rfl)) h1 h2; have hm : addF (ratP a b) (ratP c f) = resP (a * f + c * b) (b * f) := by unfold addF; rw [binF_rat ga gc]
 refine ⟨⟨p1, h1, h2, ?_⟩, by rw [hm, hr]⟩; unfold addV; rw [hm, hr]
theorem Frac.le_iff {x y : LP} {n d m e : Nat} (hx : Frac x n d) (hy : Frac y m e) : ∃ a b c f g k, x = ratP a b ∧ y = ratP c f ∧ Nm.Good a b ∧ Nm.Good c f ∧ n * e = a * f * (g * k) ∧ m * d = c * b * (g * k) ∧ 0 < g * k := by
 obtain ⟨a, b, g, e1, ga, rfl, rfl, hg⟩ := hx.parts; obtain ⟨c, f, k, e2, gc, rfl, rfl, hk⟩ := hy.parts; exact ⟨a, b, c, f, g, k, e1, e2, ga, gc, by ac_rfl, by ac_rfl, Nat.mul_pos hg hk⟩
theorem Frac.sub {x y : LP} {n d m : Nat} (hx : Frac x n d) (hy : Frac y m d) (hle : m ≤ n) : Frac (subV x y) (n - m) d ∧ (subF x y).1 = 0 := by
 have p1 := hx.pos; have h2 := hx.hd; have h1 : n - m < Nm.B ^ 64 := Nat.lt_of_le_of_lt (Nat.sub_le _ _) hx.hn; obtain ⟨a, b, g, rfl, ga, en, ed, hg⟩ := hx.parts; obtain ⟨c, f, k, rfl, gc, em, ef, hk⟩ := hy.parts
 have hcb : c * b ≤ a * f := by
  refine Nat.le_of_mul_le_mul_right ?_ (Nat.mul_pos hg hk); have e1 : c * b * (g * k) = m * d := by rw [ed, em]; ac_rfl
  have e2 : a * f * (g * k) = n * d := by rw [ef, en]; ac_rfl
  rw [e1, e2]; exact Nat.mul_le_mul_right _ hle
 have hr := resP_red (n := a * f - c * b) (d := b * f) (n' := n - m) (d' := d) (Nat.mul_pos ga.1 gc.1) p1 (by rw [Nat.sub_mul, Nat.sub_mul]; congr 1; (rw [ed, en]; ac_rfl); (rw [ef, em]; ac_rfl)) h1 h2; have hm : subF (ratP a b) (ratP c f) = resP (a * f - c * b) (b * f) := by unfold subF; rw [binF_rat ga gc]; dsimp only; rw [if_neg (by omega)]
 refine ⟨⟨p1, h1, h2, ?_⟩, by rw [hm, hr]⟩; unfold subV; rw [hm, hr]
theorem Frac.at_ {x y : LP} {n d m e : Nat} (hx : Frac x n d) (hy : Frac y m e) : atB x y = decide (n * e ≤ m * d) := by
 obtain ⟨a, b, c, f, g, k, rfl, rfl, ga, gc, e1, e2, hp⟩ := hx.le_iff hy; rw [atB_rat ga gc, e1, e2, decide_eq_decide]; exact ⟨fun h => Nat.mul_le_mul_right _ h, fun h => Nat.le_of_mul_le_mul_right h hp⟩
theorem Frac.cmp {x y : LP} {n d m e : Nat} (hx : Frac x n d) (hy : Frac y m e) : cmpV x y = Nm.cmpN (n * e) (m * d) := by
 obtain ⟨a, b, c, f, g, k, rfl, rfl, ga, gc, e1, e2, hp⟩ := hx.le_iff hy; rw [cmpV_rat ga gc, e1, e2]; have h1 : a * f < c * b ↔ a * f * (g * k) < c * b * (g * k) := ⟨fun h => Nat.mul_lt_mul_of_pos_right h hp, fun h => Nat.lt_of_mul_lt_mul_right h⟩; have h2 : c * b < a * f ↔ c * b * (g * k) < a * f * (g * k) := ⟨fun h => Nat.mul_lt_mul_of_pos_right h hp, fun h => Nat.lt_of_mul_lt_mul_right h⟩; unfold Nm.cmpN; simp only [h1, h2]
end Go.Proofs.Ytnjjdiilkhdbeaa
namespace Go.Proofs.Ytnjjdiilkhdbeaa
open Go Go.RowKit
theorem few_le {p : Nat} (h : fewB (Nm.lb p) = true) : p ≤ 255 := by
 have hv := Nm.nv_lb p; unfold fewB at h; simp only [Bool.or_eq_true, Bool.and_eq_true, decide_eq_true_eq] at h
 rcases h with h | ⟨h1, h2⟩
 ·rw [List.length_eq_zero_iff] at h; rw [h] at hv; have : p = 0 := hv.symm; omega
 ·obtain ⟨a, ha⟩ := List.length_eq_one_iff.1 h1; rw [ha] at hv h2; have e1 : a + Nm.B * 0 = p := hv; have e2 : a ≤ 255 := h2; omega
theorem small_le {p q : Nat} (h : smallB (ratP p q) = true) : p ≤ 255 ∧ q ≤ 255 := by
 obtain ⟨_, h1, h2⟩ := smallB_and h; have a := few_le (p := p) h1; have b := few_le (p := Nm.dn q) h2; refine ⟨a, ?_⟩; unfold Nm.dn at b
 split at b
 ·omega
 ·exact b
/-- a valid plan in numbers -/
structure PlanN (b : LP) (rows : List (List LP)) (pb qb : Nat) : Prop where
 bd : Frac b pb qb
 le : pb ≤ qb
 qle : qb ≤ 255
 len : rows.length ≤ 16
 row : ∀ (n : Nat) r, rows[n]? = some r → r.length = n + 1
 stake : ∀ (n : Nat) r (k : Nat) s, rows[n]? = some r → r[k]? = some s → ∃ ps qs, Frac s ps qs ∧ ps ≤ 255 ∧ qs ≤ 255 ∧ ps * pb ≤ qs * qb
theorem partB_num {x : LP} (hk : okP x) (h : partB x = true) : ∃ p q, Frac x p q ∧ p ≤ q ∧ q ≤ 255 := by
 unfold partB at h; obtain ⟨h1, h2⟩ := Bool.and_eq_true_iff.1 h; obtain ⟨p, q, rfl, g⟩ := good_smb hk h1; have hs := small_le h1; have hf := Frac.of_good g; unfold oneP at h2; rw [atB_rat g Good_one] at h2; exact ⟨p, q, hf, by simpa using h2, hs.2⟩
theorem wrong_num {b s : LP} {pb qb : Nat} (hb : Frac b pb qb) (hpb : pb ≤ 255) (hqb : qb ≤ 255) (hk : okP s) (h : wrongB b s = false) : ∃ ps qs, Frac s ps qs ∧ ps ≤ 255 ∧ qs ≤ 255 ∧ ps * pb ≤ qs * qb := by
 unfold wrongB at h; obtain ⟨h1, h2⟩ := Bool.or_eq_false_iff.1 h; have h1 : smallB s = true := by simpa using h1
 have h2 : atB (mulV s b) oneP = true := by simpa using h2
 obtain ⟨p, q, rfl, g⟩ := good_smb hk h1; obtain ⟨hp, hq⟩ := small_le h1; have hf := Frac.of_good g; have m1 : p * pb ≤ 255 * 255 := Nat.mul_le_mul hp hpb; have m2 : q * qb ≤ 255 * 255 := Nat.mul_le_mul hq hqb; have hm := (hf.mul hb (b64 (by omega)) (b64 (by omega))).1; rw [hm.at_ (Frac.one (d := 1) (by omega) (b64 (by omega)))] at h2; exact ⟨p, q, hf, hp, hq, by simpa using h2⟩
theorem planN_of {b : LP} {rows : List (List LP)} (h : planE b rows = 0) (hb : okP b) (hr : ∀ r ∈ rows, ∀ s ∈ r, okP s) : ∃ pb qb, PlanN b rows pb qb := by
 obtain ⟨h1, h2, h3⟩ := planE_zero h; obtain ⟨pb, qb, hf, hle, hq⟩ := partB_num hb h2; refine ⟨pb, qb, hf, hle, hq, h1, fun n r hn => plan_row h hn, fun n r k s hn hk => ?_⟩; have hm := (badFrom_row h3 hn).2 s (List.mem_of_getElem? hk); exact wrong_num hf (by omega) hq (hr r (List.mem_of_getElem? hn) s (List.mem_of_getElem? hk)) hm
/-- a plan's factors in numbers -/
theorem PlanN.fac {b : LP} {rows : List (List LP)} {pb qb : Nat} (h : PlanN b rows pb qb) (n k : Nat) : ∃ ps qs, 0 < qs ∧ ps ≤ 255 ∧ qs ≤ 255 ∧ ps * pb ≤ qs * qb ∧ Frac (factorV b rows n k true) (qs * qb + ps * (qb - pb)) (qs * qb) ∧ Frac (factorV b rows n k false) (qs * qb - ps * pb) (qs * qb) := by
 have hq0 := h.bd.pos; have hq := h.qle
 cases hr : rows[n]? with
 | none =>
  have e : ∀ bad, factorV b rows n k bad = oneP := fun bad => by unfold factorV; rw [hr]
  refine ⟨0, 1, by omega, by omega, by omega, by omega, ?_, ?_⟩
  ·rw [e]; simpa using Frac.one (d := qb) hq0 (b64 (by omega))
  ·rw [e]; simpa using Frac.one (d := qb) hq0 (b64 (by omega))
 | some r =>
  cases hs : r[k]? with
  | none =>
   have e : ∀ bad, factorV b rows n k bad = oneP := fun bad => by unfold factorV; rw [hr]; dsimp only; rw [hs]
   refine ⟨0, 1, by omega, by omega, by omega, by omega, ?_, ?_⟩
   ·rw [e]; simpa using Frac.one (d := qb) hq0 (b64 (by omega))
   ·rw [e]; simpa using Frac.one (d := qb) hq0 (b64 (by omega))
  | some s =>
   obtain ⟨ps, qs, hf, h1, h2, h3⟩ := h.stake n r k s hr hs; have e : ∀ bad, factorV b rows n k bad = stakeF b s bad := fun bad => by unfold factorV; rw [hr]; dsimp only; rw [hs]
   have m1 : ps * pb ≤ 255 * 255 := Nat.mul_le_mul h1 (by have := h.le; omega); have m2 : qs * qb ≤ 255 * 255 := Nat.mul_le_mul h2 hq; have m3 : ps * (qb - pb) ≤ 255 * 255 := Nat.mul_le_mul h1 (by omega); have m4 := Nat.mul_pos hf.pos hq0; refine ⟨ps, qs, hf.pos, h1, h2, h3, ?_, ?_⟩
   ·rw [e]; unfold stakeF; rw [if_pos rfl]; have a1 := ((Frac.one (d := qb) hq0 (b64 (by omega))).sub h.bd h.le).1; have a2 := (hf.mul a1 (b64 (by omega)) (b64 (by omega))).1; exact ((Frac.one (d := qs * qb) m4 (b64 (by omega))).add a2 (b64 (by omega))).1
   ·rw [e]; unfold stakeF; rw [if_neg (by simp)]; have a2 := (hf.mul h.bd (b64 (by omega)) (b64 (by omega))).1; exact ((Frac.one (d := qs * qb) m4 (b64 (by omega))).sub a2 h3).1
end Go.Proofs.Ytnjjdiilkhdbeaa
