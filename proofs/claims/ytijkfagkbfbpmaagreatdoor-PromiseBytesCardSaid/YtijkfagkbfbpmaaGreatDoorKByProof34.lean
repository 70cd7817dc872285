import Derived.Test.YtijkfagkbfbpmaaGreatDoorKByProof33
import Derived.Test.YtijkfagkbfbpmaaGreatDoorKByProof31
import Derived.Test.YtijkfagkbfbpmaaGreatDoorS0
set_option linter.unusedVariables false
set_option linter.unusedSimpArgs false
namespace Go.Proofs.YtijkfagkbfbpmaaGreatDoor
open Go Go.RowKit
def PhiEr1 (base g : Nat) (p : PC) (t h : List Nat) (vs : Nat → Value) (j : Nat) (w : World) (x : Value) : Prop :=
 match j with
 | 0 => x = .pointer (some ⟨g, 0, none⟩)
 | 1 => x = .int .i64 p.team
 | 2 => x = .pointer (some ⟨g, 3, none⟩)
 | 3 => x = .int .i64 p.site
 | 4 => x = .pointer (some ⟨g, 6, none⟩)
 | 5 => x = .int .i64 p.fr
 | 6 => x = .pointer (some ⟨g, 7, none⟩)
 | 7 => x = .int .i64 p.un
 | 8 => ∃ g', x = .slice (some ⟨g', 0, none⟩) 4 4 ∧ RowL intC w (some ⟨g', 0, none⟩) 4 [p.team, p.site, p.fr, p.un]
 | 9 => OwnB w base x (Wi.encIs [p.team, p.site, p.fr, p.un])
 | 10 => x = .pointer (some ⟨g, 1, none⟩)
 | 11 => x = .string (txB t)
 | 12 => x = .pointer (some ⟨g, 2, none⟩)
 | 13 => x = .string (txB h)
 | 14 => ∃ g', x = .slice (some ⟨g', 0, none⟩) 2 2 ∧ RowS strC w (some ⟨g', 0, none⟩) 2 [txB t, txB h]
 | 15 => OwnB w base x (encSs [t, h])
 | _ => True
theorem PhiEr1.keepR {base g : Nat} {p : PC} {t h : List Nat} : ∀ vs (w w' : World), Below w.heap.size w w' → ∀ j x, PhiEr1 base g p t h vs j w x → PhiEr1 base g p t h vs j w' x := by
 intro vs w w' hb j x h; unfold PhiEr1 at h ⊢
 split <;> simp only at h ⊢
 all_goals first
  | exact h
  | exact OwnB.below h hb
  | (obtain ⟨g', e, h1⟩ := h; exact ⟨g', e, h1.below hb⟩)
theorem PhiEr1.keepF {base g : Nat} {p : PC} {t h : List Nat} : ∀ vs (w w' : World) j x, ([] : List Nat).contains j = true → PhiEr1 base g p t h vs j w x → PhiEr1 base g p t h vs j w' x := fun _ _ _ _ _ h _ => by simp at h
def SEr1 (w1 : World) (p : PC) (t h : List Nat) : List Value → (Nat → Value) → World → Prop
 | [], _, W => Below w1.heap.size w1 W
 | [v], _, W => OwnB W w1.heap.size v ((Wi.encIs [p.team, p.site, p.fr, p.un]) ++ encSs [t, h]) ∧ Below w1.heap.size w1 W
 | [v, v2], _, W => v2 = v ∧ OwnB W w1.heap.size v ((Wi.encIs [p.team, p.site, p.fr, p.un]) ++ encSs [t, h]) ∧ Below w1.heap.size w1 W
 | _, _, _ => True

/-- the region that appends the bound's bytes and the digest's -/
structure SEe (w1 : World) (B2 : Nat) (v0 z0 : Value) (X E1 E2 : List Nat) (d : DG) (L : Nat → Bool) (vs : Nat → Value) (W : World) : Prop where
 be : Below w1.heap.size w1 W
 sz : B2 ≤ W.heap.size
 o0 : L 4 = false → OwnB W w1.heap.size v0 X
 r3 : L 3 = true → L 4 = false → OwnB W B2 (vs 3) E1
 r4 : L 4 = true → L 9 = false → OwnB W w1.heap.size (vs 4) (X ++ E1)
 r7 : L 7 = true → L 8 = false → ∃ g, vs 7 = .slice (some ⟨g, 0, none⟩) 1 1 ∧ B2 ≤ g ∧ Blk W g 31 (cellsDG d).toArray
 r8 : L 8 = true → L 9 = false → OwnB W B2 (vs 8) E2
 r9 : L 9 = true → OwnB W w1.heap.size (vs 9) (X ++ E1 ++ E2)
 r10 : L 10 = true → OwnB W w1.heap.size (vs 10) (X ++ E1 ++ E2)
 z : L 10 = false → vs 10 = z0
section
variable {w1 : World} {B2 : Nat} {v0 z0 : Value} {X E1 E2 : List Nat} {d : DG} {L : Nat → Bool} {vs : Nat → Value} {W W' : World}
theorem see_ub {i j : Nat} (h : j ≠ i) : updB L i j = L j := if_neg h
theorem see_uv {i j : Nat} {v : Value} (h : j ≠ i) : upd vs i v j = vs j := if_neg h
theorem see_us {i : Nat} {v : Value} : upd vs i v i = v := if_pos rfl
theorem see_ut {i : Nat} : updB L i i = true := if_pos rfl
theorem SEe.any (h : SEe w1 B2 v0 z0 X E1 E2 d L vs W) (hb : Below W.heap.size W W') (i : Nat) (v : Value) (h3 : i = 3 → OwnB W' B2 v E1) (h7 : i = 7 → ∃ g, v = .slice (some ⟨g, 0, none⟩) 1 1 ∧ B2 ≤ g ∧ Blk W' g 31 (cellsDG d).toArray) (h8 : i = 8 → OwnB W' B2 v E2) (h10 : i = 10 → OwnB W' w1.heap.size v (X ++ E1 ++ E2)) (n4 : i ≠ 4) (n9 : i ≠ 9) :
  SEe w1 B2 v0 z0 X E1 E2 d (updB L i) (upd vs i v) W' := by
 have e4 : updB L i 4 = L 4 := see_ub (fun e => n4 e.symm); have e9 : updB L i 9 = L 9 := see_ub (fun e => n9 e.symm); have f4 : upd vs i v 4 = vs 4 := see_uv (fun e => n4 e.symm); have f9 : upd vs i v 9 = vs 9 := see_uv (fun e => n9 e.symm); refine ⟨Below.tr h.be hb, Nat.le_trans h.sz hb.size, ?_, ?_, ?_, ?_, ?_, ?_, ?_, ?_⟩
 ·rw [e4]; exact fun a => (h.o0 a).below hb
 ·rw [e4]; intro a b; by_cases hi : i = 3
  ·subst hi; rw [see_us]; exact h3 rfl
  ·rw [see_ub (fun e => hi e.symm)] at a; rw [see_uv (fun e => hi e.symm)]; exact (h.r3 a b).below hb
 ·rw [e4, e9, f4]; exact fun a b => (h.r4 a b).below hb
 ·intro a b; by_cases hi : i = 7
  ·subst hi; rw [see_us]; exact h7 rfl
  ·rw [see_ub (fun e => hi e.symm)] at a; rw [see_uv (fun e => hi e.symm)]
   have b2 : L 8 = false := by
    by_cases hj : i = 8
    ·subst hj; rw [see_ut] at b; cases b
    ·rw [see_ub (fun e => hj e.symm)] at b; exact b
   obtain ⟨g, e, hg, hB⟩ := h.r7 a b2; exact ⟨g, e, hg, Blk.below hB hb hB.lt⟩
 ·rw [e9]; intro a b; by_cases hi : i = 8
  ·subst hi; rw [see_us]; exact h8 rfl
  ·rw [see_ub (fun e => hi e.symm)] at a; rw [see_uv (fun e => hi e.symm)]; exact (h.r8 a b).below hb
 ·rw [e9, f9]; exact fun a => (h.r9 a).below hb
 ·intro a; by_cases hi : i = 10
  ·subst hi; rw [see_us]; exact h10 rfl
  ·rw [see_ub (fun e => hi e.symm)] at a; rw [see_uv (fun e => hi e.symm)]; exact (h.r10 a).below hb
 ·intro a; by_cases hi : i = 10
  ·subst hi; rw [see_ut] at a; cases a
  ·rw [see_ub (fun e => hi e.symm)] at a; rw [see_uv (fun e => hi e.symm)]; exact h.z a
theorem SEe.app4 {v : Value} (h : SEe w1 B2 v0 z0 X E1 E2 d L vs W) (h4 : L 4 = false) (h8 : L 8 = false) (h9 : L 9 = false) (h10 : L 10 = false) (ho : OwnB W' w1.heap.size v (X ++ E1)) (hg : W.grownBy W' v0.ownBlock) (hb : Below w1.heap.size w1 W') (hlt : ∀ k, v0.ownBlock = some k → k < B2) :
  SEe w1 B2 v0 z0 X E1 E2 d (updB L 4) (upd vs 4 v) W' := by
 refine ⟨hb, Nat.le_trans h.sz hg.size, ?_, ?_, ?_, ?_, ?_, ?_, ?_, ?_⟩
 ·rw [see_ut]; intro a; cases a
 ·rw [see_ut]; intro _ a; cases a
 ·rw [see_us]; exact fun _ _ => ho
 ·rw [see_ub (by decide), see_ub (by decide), see_uv (by decide)]; intro a b; obtain ⟨g, e, hge, hB⟩ := h.r7 a b; exact ⟨g, e, hge, Blk.grown hB hg (fun j hj e2 => by have := hlt j hj; omega)⟩
 ·rw [see_ub (by decide), h8]; intro a; cases a
 ·rw [see_ub (by decide), h9]; intro a; cases a
 ·rw [see_ub (by decide), h10]; intro a; cases a
 ·rw [see_ub (by decide), see_uv (by decide)]; exact h.z
theorem SEe.app9 {v : Value} (h : SEe w1 B2 v0 z0 X E1 E2 d L vs W) (h4 : L 4 = true) (h8 : L 8 = true) (h10 : L 10 = false) (ho : OwnB W' w1.heap.size v (X ++ E1 ++ E2)) (hg : W.grownBy W' (vs 4).ownBlock) (hb : Below w1.heap.size w1 W') :
  SEe w1 B2 v0 z0 X E1 E2 d (updB L 9) (upd vs 9 v) W' := by
 refine ⟨hb, Nat.le_trans h.sz hg.size, ?_, ?_, ?_, ?_, ?_, ?_, ?_, ?_⟩
 ·rw [see_ub (by decide), h4]; intro a; cases a
 ·rw [see_ub (j := 4) (by decide), h4]; intro _ a; cases a
 ·rw [see_ut]; intro _ a; cases a
 ·rw [see_ub (j := 8) (by decide), h8]; intro _ a; cases a
 ·rw [see_ut]; intro _ a; cases a
 ·rw [see_us]; exact fun _ => ho
 ·rw [see_ub (by decide), h10]; intro a; cases a
 ·rw [see_ub (by decide), see_uv (by decide)]; exact h.z
end
theorem row_dg1 {W : World} {g : Nat} {d : DG} (h : Blk W g 31 (cellsDG d).toArray) : RowS cellsDG W (some ⟨g, 0, none⟩) 1 [d] := by
 have e : List.flatMap cellsDG [d] = cellsDG d := by simp
 refine ⟨?_, rfl, by omega⟩; rw [e]; intro _; refine ⟨_, _, rfl, fun i hi => ?_⟩; rw [Nat.zero_add, h.cell]; simp only [List.getElem?_toArray]; exact List.getElem?_eq_getElem hi
def PhiEr2 (v0 : Value) (g : Nat) (p : PC) (d : DG) (j : Nat) (w : World) (x : Value) : Prop :=
 match j with
 | 0 => x = v0
 | 1 => x = .pointer (some ⟨g, 4, none⟩)
 | 2 => x = .agg #[p.b1, p.b2]
 | 3 => True
 | 4 => True
 | 5 => x = .pointer (some ⟨g, 8, none⟩)
 | 6 => x = .agg (cellsDG d).toArray
 | 7 => True
 | 8 => True
 | 9 => True
 | 10 => True
 | _ => True
theorem PhiEr2.keep {v0 : Value} {g : Nat} {p : PC} {d : DG} : ∀ (w w' : World), True → ∀ j x, PhiEr2 v0 g p d j w x → PhiEr2 v0 g p d j w' x := fun _ _ _ _ _ h => h
set_option maxRecDepth 100000 in
set_option maxHeartbeats 16000000 in
theorem rencode34_n (p : PC) (d : DG) (t h dl L1 L2 : List Nat) (w : World) (ht : p.test = txB t) (hh : p.wh = txB h) (hd : pdg p = cellsDG d)
  (HI : Hid (∀ x ∈ [p.team, p.site, p.fr, p.un], -9223372036854775808 ≤ x ∧ x ≤ 9223372036854775807)) (HST : Hid (∀ x ∈ [t, h], x.length ≤ 100000 ∧ ∀ y ∈ x, y < 256)) (HRT : Hid (RtP w (.agg #[p.b1, p.b2]) (L1, L2))) (HL : Hid (L1.length ≤ 1048576 ∧ L2.length ≤ 1048576)) (HDL : Hid (cellsDG d = dl.flatMap u8C ∧ dl.length = 16 ∧ ∀ x ∈ dl, x < 256))
  (HLI : Hid ((Wi.encIs [p.team, p.site, p.fr, p.un]).length ≤ 100)) (HLS : Hid ((encSs [t, h]).length ≤ 1000000)) (HLR : Hid ((Wi.encIs (castI L1) ++ Wi.encIs (castI L2)).length ≤ 100000000)) (HLD : Hid ((Wi.encI 1 ++ dl).length ≤ 100)) :
  Calls Tryz.prog 41 #[.agg (cellsP p).toArray] w fun e w' => ∃ v, e = .returned v ∧ OwnB w' w.heap.size v (encL p t h dl L1 L2) ∧ Below w.heap.size w w' := by
 obtain ⟨iD, hiD, hzD, hzD1, hzD2⟩ := info_parts info_dgE
 go_enter Tryz.func41, Tryz.ntmps41
 go_upto_region 1 with fail; refine wp_name ?_; intro w1 HW; have hb1 : Below w.heap.size w w1 := by rw [HW.out]; exact bA _ _
 have B : Blk w1 w.heap.size 33 (cellsP p).toArray := by rw [HW.out]; exact Blk.new _ _ _
 obtain ⟨g, hg⟩ : ∃ g, Hid (g = w.heap.size) := ⟨_, rfl⟩; rw [← hg.out] at B ⊢; have c0 : w1.cell? ⟨g, 0, none⟩ = some (.int .i64 p.team) := by rw [B.cell]; rfl
 have c1 : w1.cell? ⟨g, 1, none⟩ = some (.string (txB t)) := by rw [B.cell, ← ht]; rfl
 have c2 : w1.cell? ⟨g, 2, none⟩ = some (.string (txB h)) := by rw [B.cell, ← hh]; rfl
 have c3 : w1.cell? ⟨g, 3, none⟩ = some (.int .i64 p.site) := by rw [B.cell]; rfl
 have c4 : w1.cell? ⟨g, 4, none⟩ = some p.b1 := by rw [B.cell]; rfl
 have c5 : w1.cell? ⟨g, 5, none⟩ = some p.b2 := by rw [B.cell]; rfl
 have c6 : w1.cell? ⟨g, 6, none⟩ = some (.int .i64 p.fr) := by rw [B.cell]; rfl
 have c7 : w1.cell? ⟨g, 7, none⟩ = some (.int .i64 p.un) := by rw [B.cell]; rfl
 have HDG : Hid (∀ j v, (cellsDG d)[j]? = some v → w1.cell? ⟨g, 8 + j, none⟩ = some v) := by
  rw [← hd]; exact digR B
 have HRT := Lib.hid (RtL.below HRT.out hb1); clear HW B ht hh hd hg; refine region_chain [16, 17] [.early, .early, .early, .early, .early, .early, .early, .early, .early, .early, .early, .early, .early, .early, .early, .early, .chain 0, .chain 1] [] [] (PhiEr1 w1.heap.size g p t h) (fun w w' => Below w.heap.size w w') (SEr1 w1 p t h) (by kernel_rfl) (by kernel_rfl) (by kernel_rfl) (by kernel_rfl) (sK (fun _ _ _ _ _ h => h) (sK (fun _ _ _ _ _ h => h) (sK (fun _ _ _ _ _ h => h) (sK (fun _ _ _ _ _ h => h) (sK (fun _ _ _ _ _ h => h) (sK (fun _ _ _ _ _ h => h) (sK (fun _ _ _ _ _ h => h) (sK (fun _ _ _ _ _ h => h) (sK (fun _ _ _ _ _ h => h) (sK (fun _ _ _ _ _ h => h) (sK (fun _ _ _ _ _ h => h) (sK (fun _ _ _ _ _ h => h) (sK (fun _ _ _ _ _ h => h) (sK (fun _ _ _ _ _ h => h) (sK (fun _ _ _ _ _ h => h) (sK (fun _ _ _ _ _ h => h) (sK (fun _ _ _ _ _ h => h) (sK (fun _ _ _ _ _ h => h) (sZ))))))))))))))))))) PhiEr1.keepR PhiEr1.keepF (fun _ _ _ _ hR hS => Below.tr hS hR) (by rintro (_ | ⟨_, _ | ⟨_, _ | _⟩⟩) vs vs' w _ h <;> exact h) (fun _ => bD _) (fun vs => by simp only [fillR, Act.put, sA, sB, sC, Nat.zero_add, Nat.reduceAdd]; rfl) ?_ ?_
 ·refine sK ?_ (sK ?_ (sK ?_ (sK ?_ (sK ?_ (sK ?_ (sK ?_ (sK ?_ (sK ?_ (sK ?_ (sK ?_ (sK ?_ (sK ?_ (sK ?_ (sK ?_ (sK ?_ (sK ?_ (sK ?_ (sZ))))))))))))))))))
  ·as_aux_lemma =>
   intro vs W hS hu hdep K hK; have HU := Lib.hid hu; clear hu; refine ⟨?_⟩; simp only [Act.put, sA, sB, sC, Nat.zero_add, Nat.reduceAdd] at hK ⊢; go_simp; with_reducible refine hK _ _ (Below.refl _ _) ?_
   exact rfl
  ·as_aux_lemma =>
   intro vs W hS hu hdep K hK; have HU := Lib.hid hu; clear hu; have d0 := hdep ⟨0, .data⟩ (by simp) rfl; simp only [PhiEr1] at d0; have f1 := cell_keep hS c0; refine ⟨?_⟩; simp only [Act.put, sA, sB, sC, Nat.zero_add, Nat.reduceAdd, d0] at hK ⊢; go_simp; with_reducible refine hK _ _ (Below.refl _ _) ?_
   exact rfl
  ·as_aux_lemma =>
   intro vs W hS hu hdep K hK; have HU := Lib.hid hu; clear hu; refine ⟨?_⟩; simp only [Act.put, sA, sB, sC, Nat.zero_add, Nat.reduceAdd] at hK ⊢; go_simp; with_reducible refine hK _ _ (Below.refl _ _) ?_
   exact rfl
  ·as_aux_lemma =>
   intro vs W hS hu hdep K hK; have HU := Lib.hid hu; clear hu; have d0 := hdep ⟨2, .data⟩ (by simp) rfl; simp only [PhiEr1] at d0; have f1 := cell_keep hS c3; refine ⟨?_⟩; simp only [Act.put, sA, sB, sC, Nat.zero_add, Nat.reduceAdd, d0] at hK ⊢; go_simp; with_reducible refine hK _ _ (Below.refl _ _) ?_
   exact rfl
  ·as_aux_lemma =>
   intro vs W hS hu hdep K hK; have HU := Lib.hid hu; clear hu; refine ⟨?_⟩; simp only [Act.put, sA, sB, sC, Nat.zero_add, Nat.reduceAdd] at hK ⊢; go_simp; with_reducible refine hK _ _ (Below.refl _ _) ?_
   exact rfl
  ·as_aux_lemma =>
   intro vs W hS hu hdep K hK; have HU := Lib.hid hu; clear hu; have d0 := hdep ⟨4, .data⟩ (by simp) rfl; simp only [PhiEr1] at d0; have f1 := cell_keep hS c6; refine ⟨?_⟩; simp only [Act.put, sA, sB, sC, Nat.zero_add, Nat.reduceAdd, d0] at hK ⊢; go_simp; with_reducible refine hK _ _ (Below.refl _ _) ?_
   exact rfl
  ·as_aux_lemma =>
   intro vs W hS hu hdep K hK; have HU := Lib.hid hu; clear hu; refine ⟨?_⟩; simp only [Act.put, sA, sB, sC, Nat.zero_add, Nat.reduceAdd] at hK ⊢; go_simp; with_reducible refine hK _ _ (Below.refl _ _) ?_
   exact rfl
  ·as_aux_lemma =>
   intro vs W hS hu hdep K hK; have HU := Lib.hid hu; clear hu; have d0 := hdep ⟨6, .data⟩ (by simp) rfl; simp only [PhiEr1] at d0; have f1 := cell_keep hS c7; refine ⟨?_⟩; simp only [Act.put, sA, sB, sC, Nat.zero_add, Nat.reduceAdd, d0] at hK ⊢; go_simp; with_reducible refine hK _ _ (Below.refl _ _) ?_
   exact rfl
  ·as_aux_lemma =>
   intro vs W hS hu hdep K hK; have HU := Lib.hid hu; clear hu; have d0 := hdep ⟨1, .data⟩ (by simp) rfl; simp only [PhiEr1] at d0; have d1 := hdep ⟨3, .data⟩ (by simp) rfl; simp only [PhiEr1] at d1; have d2 := hdep ⟨5, .data⟩ (by simp) rfl; simp only [PhiEr1] at d2; have d3 := hdep ⟨7, .data⟩ (by simp) rfl; simp only [PhiEr1] at d3; refine ⟨?_⟩; simp only [Act.put, sA, sB, sC, Nat.zero_add, Nat.reduceAdd, d0, d1, d2, d3] at hK ⊢; go_simp; with_reducible refine hK _ _ (bA _ _) ?_
   exact ⟨_, rfl, ⟨Rd.fresh W 3 _, rfl, by omega⟩⟩
  ·as_aux_lemma =>
   intro vs W hS hu hdep K hK; have HU := Lib.hid hu; clear hu; have d0 := hdep ⟨8, .data⟩ (by simp) rfl; simp only [PhiEr1] at d0; refine @exE1 _ _ _ d0 ?_; clear d0; intro g0 d0; have e0 := d0.1; have n0 := d0.2; clear d0; refine ⟨?_⟩; simp only [Act.put, sA, sB, sC, Nat.zero_add, Nat.reduceAdd, e0] at hK ⊢; go_simp; refine (rints_n _ 4 4 _ _ n0 HI.out (by omega)).mono ?_; rintro e w' ⟨v, rfl, hv, hb⟩; go_wp2_with fail; with_reducible refine hK _ _ hb ?_
   exact hv.mono hS.size
  ·as_aux_lemma =>
   intro vs W hS hu hdep K hK; have HU := Lib.hid hu; clear hu; refine ⟨?_⟩; simp only [Act.put, sA, sB, sC, Nat.zero_add, Nat.reduceAdd] at hK ⊢; go_simp; with_reducible refine hK _ _ (Below.refl _ _) ?_
   exact rfl
  ·as_aux_lemma =>
   intro vs W hS hu hdep K hK; have HU := Lib.hid hu; clear hu; have d0 := hdep ⟨10, .data⟩ (by simp) rfl; simp only [PhiEr1] at d0; have f1 := cell_keep hS c1; refine ⟨?_⟩; simp only [Act.put, sA, sB, sC, Nat.zero_add, Nat.reduceAdd, d0] at hK ⊢; go_simp; with_reducible refine hK _ _ (Below.refl _ _) ?_
   exact rfl
  ·as_aux_lemma =>
   intro vs W hS hu hdep K hK; have HU := Lib.hid hu; clear hu; refine ⟨?_⟩; simp only [Act.put, sA, sB, sC, Nat.zero_add, Nat.reduceAdd] at hK ⊢; go_simp; with_reducible refine hK _ _ (Below.refl _ _) ?_
   exact rfl
  ·as_aux_lemma =>
   intro vs W hS hu hdep K hK; have HU := Lib.hid hu; clear hu; have d0 := hdep ⟨12, .data⟩ (by simp) rfl; simp only [PhiEr1] at d0; have f1 := cell_keep hS c2; refine ⟨?_⟩; simp only [Act.put, sA, sB, sC, Nat.zero_add, Nat.reduceAdd, d0] at hK ⊢; go_simp; with_reducible refine hK _ _ (Below.refl _ _) ?_
   exact rfl
  ·as_aux_lemma =>
   intro vs W hS hu hdep K hK; have HU := Lib.hid hu; clear hu; have d0 := hdep ⟨11, .data⟩ (by simp) rfl; simp only [PhiEr1] at d0; have d1 := hdep ⟨13, .data⟩ (by simp) rfl; simp only [PhiEr1] at d1; refine ⟨?_⟩; simp only [Act.put, sA, sB, sC, Nat.zero_add, Nat.reduceAdd, d0, d1] at hK ⊢; go_simp; with_reducible refine hK _ _ (bA _ _) ?_
   exact ⟨_, rfl, ⟨Rd.fresh W 9 _, rfl, by omega⟩⟩
  ·as_aux_lemma =>
   intro vs W hS hu hdep K hK; have HU := Lib.hid hu; clear hu; have d0 := hdep ⟨14, .data⟩ (by simp) rfl; simp only [PhiEr1] at d0; refine @exE1 _ _ _ d0 ?_; clear d0; intro g0 d0; have e0 := d0.1; have n0 := d0.2; clear d0; refine ⟨?_⟩; simp only [Act.put, sA, sB, sC, Nat.zero_add, Nat.reduceAdd, e0] at hK ⊢; go_simp; refine (rstrings_n _ 2 2 [t, h] _ n0 HST.out (by omega)).mono ?_; rintro e w' ⟨v, rfl, hv, hb⟩; go_wp2_with fail; with_reducible refine hK _ _ hb ?_
   exact hv.mono hS.size
  ·as_aux_lemma =>
   intro vs W hS hdep K hK; have d0 := hdep ⟨9, .data⟩ (by simp) rfl (by rfl); simp only [PhiEr1] at d0; have d1 := hdep ⟨15, .data⟩ (by simp) rfl (by rfl); simp only [PhiEr1] at d1; have hS1 : Below w1.heap.size w1 W := hS; clear hS; have hsz := hS1.size; obtain ⟨A3, c3, e3⟩ := d0.shp; obtain ⟨A4, c4, e4⟩ := d1.shp; rw [e3] at d0; rw [e4] at d1; have hby := d1.by_ (Nat.le_trans HLS.out (by omega)); have hl30 : (Wi.encIs [p.team, p.site, p.fr, p.un]).length + (encSs [t, h]).length ≤ 1073741824 := by have h1 := HLI.out; have h2 := HLS.out; omega
   refine ⟨?_⟩; simp only [Act.put, sA, sB, sC, Nat.zero_add, Nat.reduceAdd, e3, e4] at hK ⊢; rw [if_pos (by rfl)]; refine wp_appB (.tmp 13) (.tmp 19) rfl w1.heap.size (.slice A3 (Wi.encIs [p.team, p.site, p.fr, p.un]).length c3) (Wi.encIs [p.team, p.site, p.fr, p.un]) rfl d0 A4 (encSs [t, h]).length c4 (encSs [t, h]) rfl hby hl30 hsz ?_; intro v7 w7 hown7 hg7 _; have hbz := hS1.grown hg7 hsz (fun q hq => d0.ge q hq); simp only [Act.put, sA, sB, sC]; with_reducible refine hK _ _ ?_
   exact ⟨hown7, hbz⟩
  ·as_aux_lemma =>
   intro vs W hS hdep K hK; have hS1 : SEr1 w1 p t h [vs 16] vs W := hS; obtain ⟨hown7, hbz⟩ := hS1; refine ⟨?_⟩; simp only [Act.put, sA, sB, sC, Nat.zero_add, Nat.reduceAdd] at hK ⊢; go_simp; with_reducible refine hK _ _ ?_
   exact ⟨rfl, hown7, hbz⟩
 ·intro vs w2 hS _; have hS2 : SEr1 w1 p t h [vs 16, vs 17] vs w2 := hS; obtain ⟨e17, hown, hb2⟩ := hS2; obtain ⟨v0, HV0⟩ : ∃ v, v = vs 16 := ⟨_, rfl⟩; simp only [Act.put, sA, sB, sC, Nat.zero_add, Nat.reduceAdd, e17]; rw [← HV0] at hown ⊢; have hlt : ∀ k, v0.ownBlock = some k → k < w2.heap.size := fun k hk => ownsRow_lt hown.1 k hk
  obtain ⟨EIS, HEI⟩ : ∃ x, Hid (x = Wi.encIs [p.team, p.site, p.fr, p.un] ++ encSs [t, h]) := ⟨_, rfl⟩; obtain ⟨ERX, HER⟩ : ∃ x, Hid (x = Wi.encIs (castI L1) ++ Wi.encIs (castI L2)) := ⟨_, rfl⟩; obtain ⟨EDX, HED⟩ : ∃ x, Hid (x = Wi.encI 1 ++ dl) := ⟨_, rfl⟩
  have HLX : Hid (EIS.length ≤ 1000100 ∧ ERX.length ≤ 100000000 ∧ EDX.length ≤ 100) := by
   have h1 := HLI.out; have h2 := HLS.out; have h3 := HLR.out; have h4 := HLD.out; rw [HEI.out, HER.out, HED.out]; refine ⟨?_, h3, h4⟩; rw [List.length_append]; omega
  have hENC : Hid (encL p t h dl L1 L2 = EIS ++ ERX ++ EDX) := by
   rw [HEI.out, HER.out, HED.out]
   show encL p t h dl L1 L2 = _
   unfold encL; simp only [List.append_assoc]
  rw [← HEI.out] at hown; clear hS e17 HV0 c0 c1 c2 c3 c6 c7 HLI HLS HLR HLD; go_upto_region 2 with fail; refine region_invW (PhiEr2 v0 g p d) (fun _ _ => True) (SEe w1 w2.heap.size v0 (.slice none 0 0) EIS ERX EDX d) (by kernel_rfl) (by kernel_rfl) (by kernel_rfl) PhiEr2.keep ⟨Below.tr hb2 (bD _), (bD _).size, fun _ => hown.below (bD _), fun a => (by cases a), fun a => (by cases a), fun a => (by cases a), fun a => (by cases a), fun a => (by cases a), fun a => (by cases a), fun _ => rfl⟩ (fun vs => by simp only [fillR, Act.put, sA, sB, sC, Nat.zero_add, Nat.reduceAdd]; rfl) ?_ ?_
  ·refine sK ?_ (sK ?_ (sK ?_ (sK ?_ (sK ?_ (sK ?_ (sK ?_ (sK ?_ (sK ?_ (sK ?_ (sK ?_ (sZ)))))))))))
   ·as_aux_lemma =>
    intro vs L W hS hL cl hdl hdep K hK; refine ⟨?_⟩; simp only [Act.put, sA, sB, sC, Nat.zero_add, Nat.reduceAdd] at hK ⊢; go_simp; with_reducible refine hK _ _ trivial (hS.any (Below.refl _ _) 0 _ (fun e => absurd e (by decide)) (fun e => absurd e (by decide)) (fun e => absurd e (by decide)) (fun e => absurd e (by decide)) (by decide) (by decide)) ?_
    exact rfl
   ·as_aux_lemma =>
    intro vs L W hS hL cl hdl hdep K hK; refine ⟨?_⟩; simp only [Act.put, sA, sB, sC, Nat.zero_add, Nat.reduceAdd] at hK ⊢; go_simp; with_reducible refine hK _ _ trivial (hS.any (Below.refl _ _) 1 _ (fun e => absurd e (by decide)) (fun e => absurd e (by decide)) (fun e => absurd e (by decide)) (fun e => absurd e (by decide)) (by decide) (by decide)) ?_
    exact rfl
   ·as_aux_lemma =>
    intro vs L W hS hL cl hdl hdep K hK; have d0 := hdep ⟨1, .data⟩ (by simp) rfl; simp only [PhiEr2] at d0; have f1 := cell_keep hS.be c4; have f2 := cell_keep hS.be c5; refine ⟨?_⟩; simp only [Act.put, sA, sB, sC, Nat.zero_add, Nat.reduceAdd, d0] at hK ⊢; go_simp; with_reducible refine hK _ _ trivial (hS.any (Below.refl _ _) 2 _ (fun e => absurd e (by decide)) (fun e => absurd e (by decide)) (fun e => absurd e (by decide)) (fun e => absurd e (by decide)) (by decide) (by decide)) ?_
    exact rfl
   ·as_aux_lemma =>
    intro vs L W hS hL cl hdl hdep K hK; have d0 := hdep ⟨2, .data⟩ (by simp) rfl; simp only [PhiEr2] at d0; refine ⟨?_⟩; simp only [Act.put, sA, sB, sC, Nat.zero_add, Nat.reduceAdd, d0] at hK ⊢; go_simp; refine (rencode_n _ (L1, L2) _ (HRT.out.below hS.be) HL.out.1 HL.out.2).mono ?_; rintro e w' ⟨v, rfl, hv, hb⟩; go_wp2_with fail; with_reducible refine hK _ _ trivial (hS.any hb 3 _ (fun _ => (by have hq := hv.mono hS.sz; show OwnB _ _ _ ERX; rw [HER.out]; exact hq)) (fun e => absurd e (by decide)) (fun e => absurd e (by decide)) (fun e => absurd e (by decide)) (by decide) (by decide)) ?_
    trivial
   ·as_aux_lemma =>
    intro vs L W hS hL cl hdl hdep K hK; have d0 := hdep ⟨0, .data⟩ (by simp) rfl; simp only [PhiEr2] at d0; have ho := hS.o0 hL; have h3 := hS.r3 (hdl ⟨3, .data⟩ (by simp) rfl) hL
    have n8 : L 8 = false := by
     cases h : L 8 with
     | false => rfl
     | true => exact absurd (cl 8 _ rfl h ⟨4, .chain⟩ (by simp) rfl) (by rw [hL]; decide)
    have n9 : L 9 = false := by
     cases h : L 9 with
     | false => rfl
     | true => exact absurd (cl 9 _ rfl h ⟨4, .data⟩ (by simp) rfl) (by rw [hL]; decide)
    have n10 : L 10 = false := by
     cases h : L 10 with
     | false => rfl
     | true => exact absurd (cl 9 _ rfl (cl 10 _ rfl h ⟨9, .data⟩ (by simp) rfl) ⟨4, .data⟩ (by simp) rfl) (by rw [hL]; decide)
    obtain ⟨A3, c3, e3⟩ := h3.shp; rw [e3] at h3; have hby := h3.by_ (Nat.le_trans (HLX.out.2.1) (by omega)); have hl30 : ((EIS) : List Nat).length + ((ERX) : List Nat).length ≤ 1073741824 := by have h1 := HLX.out; omega
    have hsz := hS.be.size; refine ⟨?_⟩; simp only [Act.put, sA, sB, sC, Nat.zero_add, Nat.reduceAdd, e3, d0] at hK ⊢; rw [if_pos (by rfl)]; refine wp_appB (.tmp 21) (.tmp 24) rfl w1.heap.size v0 (EIS) rfl ho A3 (ERX).length c3 (ERX) rfl hby hl30 hsz ?_; intro v7 w7 hown7 hg7 _; have hbz := hS.be.grown hg7 hsz (fun q hq => ho.ge q hq)
    (try simp only [Act.put, sA, sB, sC])
    with_reducible refine hK _ _ trivial (hS.app4 hL n8 n9 n10 hown7 hg7 hbz hlt) ?_
    trivial
   ·as_aux_lemma =>
    intro vs L W hS hL cl hdl hdep K hK; refine ⟨?_⟩; simp only [Act.put, sA, sB, sC, Nat.zero_add, Nat.reduceAdd] at hK ⊢; go_simp; with_reducible refine hK _ _ trivial (hS.any (Below.refl _ _) 5 _ (fun e => absurd e (by decide)) (fun e => absurd e (by decide)) (fun e => absurd e (by decide)) (fun e => absurd e (by decide)) (by decide) (by decide)) ?_
    exact rfl
   ·as_aux_lemma =>
    intro vs L W hS hL cl hdl hdep K hK; have d0 := hdep ⟨5, .data⟩ (by simp) rfl; simp only [PhiEr2] at d0; refine ⟨?_⟩; simp only [Act.put, sA, sB, sC, Nat.zero_add, Nat.reduceAdd, d0] at hK ⊢; rw [if_pos (by rfl)]; refine wp_load_mid 31 (.tmp 26) (by rfl) g (8) (by rfl) (cellsDG d) _ (fun j v h => cell_keep hS.be (HDG.out j v h)) Tryz.underlying31 (by rfl) infoDG ?_; simp only [Act.put, sA, sB, sC]; with_reducible refine hK _ _ trivial (hS.any (Below.refl _ _) 6 _ (fun e => absurd e (by decide)) (fun e => absurd e (by decide)) (fun e => absurd e (by decide)) (fun e => absurd e (by decide)) (by decide) (by decide)) ?_
    exact rfl
   ·as_aux_lemma =>
    intro vs L W hS hL cl hdl hdep K hK; have d0 := hdep ⟨6, .data⟩ (by simp) rfl; simp only [PhiEr2] at d0; refine ⟨?_⟩; simp only [Act.put, sA, sB, sC, Nat.zero_add, Nat.reduceAdd, d0] at hK ⊢; rw [if_pos (by rfl)]; refine wp_sliceN 64 31 1 [(0, .tmp 27)] rfl (cellsDG d).toArray iD (.agg (cellsDG zeroDG).toArray) 16 [(0, .agg (cellsDG d).toArray)] Tryz.underlying64 hiD hzD hzD1 (by omega) (by omega) rfl (fill_dg1 d) ?_
    (try simp only [Act.put, sA, sB, sC])
    with_reducible refine hK _ _ trivial (hS.any (bA _ _) 7 _ (fun e => absurd e (by decide)) (fun _ => ⟨_, rfl, hS.sz, Blk.new _ _ _⟩) (fun e => absurd e (by decide)) (fun e => absurd e (by decide)) (by decide) (by decide)) ?_
    trivial
   ·as_aux_lemma =>
    intro vs L W hS hL cl hdl hdep K hK; obtain ⟨g7, e7, hg7, hB7⟩ := hS.r7 (hdl ⟨7, .data⟩ (by simp) rfl) hL; refine ⟨?_⟩; simp only [Act.put, sA, sB, sC, Nat.zero_add, Nat.reduceAdd, e7] at hK ⊢; go_simp; have hR7 : RowS cellsDG W (some ⟨g7, 0, none⟩) 1 [d] := row_dg1 hB7; refine (rdig_n _ 1 d dl _ hR7 HDL.out.1 HDL.out.2.1 HDL.out.2.2).mono ?_; rintro e w' ⟨v, rfl, hv, hb⟩; go_wp2_with fail; with_reducible refine hK _ _ trivial (hS.any hb 8 _ (fun e => absurd e (by decide)) (fun e => absurd e (by decide)) (fun _ => (by have hq := hv.mono hS.sz; show OwnB _ _ _ EDX; rw [HED.out]; exact hq)) (fun e => absurd e (by decide)) (by decide) (by decide)) ?_
    trivial
   ·as_aux_lemma =>
    intro vs L W hS hL cl hdl hdep K hK; have hl4 := hdl ⟨4, .data⟩ (by simp) rfl; have hl8 := hdl ⟨8, .data⟩ (by simp) rfl; have ho := hS.r4 hl4 hL; have h3 := hS.r8 hl8 hL
    have n10 : L 10 = false := by
     cases h : L 10 with
     | false => rfl
     | true => exact absurd (cl 10 _ rfl h ⟨9, .data⟩ (by simp) rfl) (by rw [hL]; decide)
    obtain ⟨A3, c3, e3⟩ := h3.shp; rw [e3] at h3; have hby := h3.by_ (Nat.le_trans (HLX.out.2.2) (by omega)); have hl30 : ((EIS ++ ERX) : List Nat).length + ((EDX) : List Nat).length ≤ 1073741824 := by have h1 := HLX.out; rw [List.length_append]; omega
    have hsz := hS.be.size; refine ⟨?_⟩; simp only [Act.put, sA, sB, sC, Nat.zero_add, Nat.reduceAdd, e3] at hK ⊢; rw [if_pos (by rfl)]; refine wp_appB (.tmp 25) (.tmp 29) rfl w1.heap.size (vs 4) (EIS ++ ERX) rfl ho A3 (EDX).length c3 (EDX) rfl hby hl30 hsz ?_; intro v7 w7 hown7 hg7 _; have hbz := hS.be.grown hg7 hsz (fun q hq => ho.ge q hq)
    (try simp only [Act.put, sA, sB, sC])
    with_reducible refine hK _ _ trivial (hS.app9 hl4 hl8 n10 hown7 hg7 hbz) ?_
    trivial
   ·as_aux_lemma =>
    intro vs L W hS hL cl hdl hdep K hK; have h9 := hS.r9 (hdl ⟨9, .data⟩ (by simp) rfl); refine ⟨?_⟩; simp only [Act.put, sA, sB, sC, Nat.zero_add, Nat.reduceAdd] at hK ⊢; go_simp; with_reducible refine hK _ _ trivial (hS.any (Below.refl _ _) 10 _ (fun e => absurd e (by decide)) (fun e => absurd e (by decide)) (fun e => absurd e (by decide)) (fun _ => h9) (by decide) (by decide)) ?_
    trivial
  ·intro vs L w3 hS hall hv; have h10 := hS.r10 (hall 10 (by simp)); rw [← hENC.out] at h10; have hb3 := hS.be
   (try simp only [Act.put, sA, sB, sC, Nat.zero_add, Nat.reduceAdd])
   clear hS hv hall; go_wp2_with fail; go_ret; exact ⟨_, rfl, h10.mono hb1.size, Below.tr hb1 hb3⟩
end Go.Proofs.YtijkfagkbfbpmaaGreatDoor
namespace Go.Proofs.YtijkfagkbfbpmaaGreatDoor
open Go Go.RowKit
def PhiOf1 (base : Nat) (vs : Nat → Value) (j : Nat) (w : World) (x : Value) : Prop :=
 match j with
 | 0 => x = .agg (strmC iniW (fun _ => 0) 0).toArray
 | 1 => x = .int .i64 12
 | 2 => x = .int .u8 12
 | 3 => ∃ g, x = .slice (some ⟨g, 0, none⟩) 1 1 ∧ By w (some ⟨g, 0, none⟩) 1 1 [12]
 | 4 => x = .string (txB [12])
 | 5 => ∃ s bk, x = .agg (strmC s bk 1).toArray ∧ StOk [12] s bk
 | 6 => ∃ g, x = .pointer (some ⟨g, 0, none⟩) ∧ base ≤ g ∧ ∃ arr : Array Value, Blk w g 114 arr ∧ arr.size = 73
 | _ => True
theorem PhiOf1.keepR {base : Nat} : ∀ vs (w w' : World), Below w.heap.size w w' → ∀ j x, PhiOf1 base vs j w x → PhiOf1 base vs j w' x := by
 intro vs w w' hb j x h; unfold PhiOf1 at h ⊢
 split <;> simp only at h ⊢
 all_goals first
  | exact h
  | (obtain ⟨g, e, h1⟩ := h; exact ⟨g, e, h1.below hb⟩)
  | (obtain ⟨g, e, h1, arr, h2, h3⟩ := h; exact ⟨g, e, h1, arr, Blk.below h2 hb h2.lt, h3⟩)
theorem PhiOf1.keepF {base : Nat} : ∀ vs (w w' : World) j x, ([] : List Nat).contains j = true → PhiOf1 base vs j w x → PhiOf1 base vs j w' x := fun _ _ _ _ _ h _ => by simp at h
def PhiOf5 (l : List Nat) (s : R8) (bk : Nat → Nat) (vs : Nat → Value) (j : Nat) (w : World) (x : Value) : Prop :=
 match j with
 | 0 => x = .agg (strmC s bk 1).toArray
 | 1 => x = .string (txB l)
 | 2 => ∃ A k c, x = .slice A k c ∧ By w A k c (encB l)
 | 3 => x = .string (txB (encB l))
 | 4 => ∃ s' bk', x = .agg (strmC s' bk' (12 :: encB l).length).toArray ∧ StOk (12 :: encB l) s' bk'
 | _ => True
theorem PhiOf5.keepR {l : List Nat} {s : R8} {bk : Nat → Nat} : ∀ vs (w w' : World), Below w.heap.size w w' → ∀ j x, PhiOf5 l s bk vs j w x → PhiOf5 l s bk vs j w' x := by
 intro vs w w' hb j x h; unfold PhiOf5 at h ⊢
 split <;> simp only at h ⊢
 all_goals first
  | exact h
  | (obtain ⟨A, k, c, e, h1⟩ := h; exact ⟨A, k, c, e, h1.below hb⟩)
theorem PhiOf5.keepF {l : List Nat} {s : R8} {bk : Nat → Nat} : ∀ vs (w w' : World) j x, ([] : List Nat).contains j = true → PhiOf5 l s bk vs j w x → PhiOf5 l s bk vs j w' x := fun _ _ _ _ _ h _ => by simp at h
def SOf1 (w1 : World) : List Value → (Nat → Value) → World → Prop
 | [], _, W => Below w1.heap.size w1 W
 | [_], vs, W => ∃ g s bk, vs 6 = .pointer (some ⟨g, 0, none⟩) ∧ w1.heap.size ≤ g ∧ Blk W g 114 (strmC s bk 1).toArray ∧ StOk [12] s bk ∧ Below w1.heap.size w1 W
 | _, _, _ => True
def SOf5 (w1 : World) (gS : Nat) (l : List Nat) : List Value → (Nat → Value) → World → Prop
 | [], _, W => Below w1.heap.size w1 W
 | [_], _, W => ∃ s' bk', StOk (12 :: encB l) s' bk' ∧ ∃ W0, Below w1.heap.size w1 W0 ∧ W = W0.setCells gS 0 (strmC s' bk' (12 :: encB l).length)
 | _, _, _ => True
theorem SOf1.ins {w1 : World} : ∀ li (vs vs' : Nat → Value) w, (∀ j ∈ [6], vs j = vs' j) → SOf1 w1 li vs w → SOf1 w1 li vs' w := by
 rintro (_ | ⟨v, _ | ⟨v', li⟩⟩) vs vs' w hd h
 ·exact h
 ·obtain ⟨g, s, bk, e, r⟩ := h; exact ⟨g, s, bk, (hd 6 (by simp)).symm.trans e, r⟩
 ·exact h
theorem hadd_ini (w : World) (hK : KcT w 0) : Calls Tryz.prog 76 #[.agg (strmC iniW (fun _ => 0) 0).toArray, .string (txB [12])] w fun e w' => ∃ s bk, e = .returned (.agg (strmC s bk 1).toArray) ∧ StOk [12] s bk ∧ Below w.heap.size w w' :=
 hadd_n [] [12] iniW (fun _ => 0) w (by simp) (by simp) strm_ini hK
theorem hadd_12 (l : List Nat) (s : R8) (bk : Nat → Nat) (w : World) (hel : (encB l).length ≤ 67108873) (heb : ∀ x ∈ encB l, x < 256) (hs : StOk [12] s bk) (hK : KcT w 0) : Calls Tryz.prog 76 #[.agg (strmC s bk 1).toArray, .string (txB (encB l))] w fun e w' => ∃ s' bk', e = .returned (.agg (strmC s' bk' (12 :: encB l).length).toArray) ∧ StOk (12 :: encB l) s' bk' ∧ Below w.heap.size w w' :=
 hadd_n [12] (encB l) s bk w heb (by rw [List.length_append]; simp; omega) hs hK
theorem arrAt16 (g o c : Nat) (w : World) : (Instr.arrayAt 31 (.slice (some ⟨g, o, none⟩) 16 c)).run Tryz.prog w = .ok (.pointer (some ⟨g, o, none⟩)) w := by
 simp [Instr.arrayAt, run_underlying Tryz.underlying31, go_sem]
theorem infoD16b {f : Nat → Nat} : (Tryz.prog.info? 31).map (·.size) = some (bLs 16 f).length := by rw [bLs_len]; kernel_rfl
theorem infoD16bs {f : Nat → Nat} : (Tryz.prog.info? 31).map (·.size) = some (arB 16 f).size := by rw [arB_size]; kernel_rfl
/-- a message's digest -/
def dgW (m : List Nat) : List Value := bLs 16 (shaB (shaW m))
set_option maxRecDepth 100000 in
set_option maxHeartbeats 8000000 in
theorem hof_n (A : Option Addr) (c : Nat) (l : List Nat) (w : World) (hl : ∀ x ∈ l, x < 256) (hn : l.length ≤ 67108864) (hA : RowS strC w A 1 [txB l]) (hKC : KcT w 0) :
  Calls Tryz.prog 44 #[.int .i64 12, .slice A 1 c] w fun e w' => e = .returned (.agg (dgW (12 :: encB l)).toArray) ∧ Below w.heap.size w w' := by
 have hel0 := encB_len hn; have hel : (encB l).length ≤ 67108873 := by omega
 have heb := encB_lt hl hn; have hep := encB_pos l hn; clear hel0; obtain ⟨bQ, oA, s0, rfl, hcA, hs0⟩ := hA.str (i := 0) (by omega); have hs0T : Hid (s0 = txB l) := by show _ = _; simpa using hs0.symm
 have hcA0 := Lib.hid hcA; clear hs0
 go_enter Tryz.func44, Tryz.ntmps44
 go_upto_region 1 with fail; refine wp_name ?_; intro w2 HW; have hb2 : Below w.heap.size w w2 := by rw [HW.out]; exact bA _ _
 have HR : Hid (∃ arr : Array Value, Blk w2 w.heap.size 31 arr ∧ arr.size = 16) := by rw [HW.out]; exact ⟨_, Blk.new _ _ _, rfl⟩
 have hcA := cell_keep hb2 hcA; have hKC := hKC.below hb2; have hbe := hb2; clear HW hb2; obtain ⟨gR, hgR⟩ : ∃ g, Hid (g = w.heap.size) := ⟨_, rfl⟩; rw [← hgR.out] at HR ⊢; have hgeR : w.heap.size ≤ gR := by have := hgR.out; omega
 have hbz := hbe.size; have HR2 := HR; refine region_chain [7] [.early, .early, .early, .early, .early, .early, .early, .chain 0] [] [6] (PhiOf1 w2.heap.size) (fun w w' => Below w.heap.size w w') (SOf1 w2) (by kernel_rfl) (by kernel_rfl) (by kernel_rfl) (by kernel_rfl) (sK (fun _ _ _ _ _ h => h) (sK (fun _ _ _ _ _ h => h) (sK (fun _ _ _ _ _ h => h) (sK (fun _ _ _ _ _ h => h) (sK (fun _ _ _ _ _ h => h) (sK (fun _ _ _ _ _ h => h) (sK (fun _ _ _ _ _ h => h) (sK (fun _ _ _ _ _ h => h) (sZ))))))))) PhiOf1.keepR PhiOf1.keepF (fun _ _ _ _ hR hS => Below.tr hS hR) SOf1.ins (fun _ => bD _) (fun vs => by simp only [fillR, Act.put, sA, sB, sC, Nat.zero_add, Nat.reduceAdd]; rfl) ?_ ?_
 ·refine sK ?_ (sK ?_ (sK ?_ (sK ?_ (sK ?_ (sK ?_ (sK ?_ (sK ?_ (sZ))))))))
  ·as_aux_lemma =>
   intro vs W hS hu hdep K hK; have HU := Lib.hid hu; clear hu; refine ⟨?_⟩; simp only [Act.put, sA, sB, sC, Nat.zero_add, Nat.reduceAdd] at hK ⊢; go_simp; refine (begin_n _).mono ?_; rintro e w' ⟨rfl, hb⟩; go_wp2_with fail; with_reducible refine hK _ _ hb ?_
   exact rfl
  ·as_aux_lemma =>
   intro vs W hS hu hdep K hK; have HU := Lib.hid hu; clear hu; refine ⟨?_⟩; simp only [Act.put, sA, sB, sC, Nat.zero_add, Nat.reduceAdd] at hK ⊢; go_simp; with_reducible refine hK _ _ (Below.refl _ _) ?_
   exact rfl
  ·as_aux_lemma =>
   intro vs W hS hu hdep K hK; have HU := Lib.hid hu; clear hu; have d0 := hdep ⟨1, .data⟩ (by simp) rfl; simp only [PhiOf1] at d0; refine ⟨?_⟩; simp only [Act.put, sA, sB, sC, Nat.zero_add, Nat.reduceAdd, d0] at hK ⊢; go_simp; with_reducible refine hK _ _ (Below.refl _ _) ?_
   exact rfl
  ·as_aux_lemma =>
   intro vs W hS hu hdep K hK; have HU := Lib.hid hu; clear hu; have d0 := hdep ⟨2, .data⟩ (by simp) rfl; simp only [PhiOf1] at d0; refine ⟨?_⟩; simp only [Act.put, sA, sB, sC, Nat.zero_add, Nat.reduceAdd, d0] at hK ⊢; go_simp; with_reducible refine hK _ _ (bA _ _) ?_
   exact ⟨_, rfl, (OwnB.one W 12 (by omega)).by_ (by simp)⟩
  ·as_aux_lemma =>
   intro vs W hS hu hdep K hK; have HU := Lib.hid hu; clear hu; have d0 := hdep ⟨3, .data⟩ (by simp) rfl; simp only [PhiOf1] at d0; refine @exE1 _ _ _ d0 ?_; clear d0; intro g0 d0; have e0 := d0.1; have n0 := d0.2; clear d0; have g1 := conv_by n0 (by omega); refine ⟨?_⟩; simp only [Act.put, sA, sB, sC, Nat.zero_add, Nat.reduceAdd, e0] at hK ⊢; go_simp; with_reducible refine hK _ _ (Below.refl _ _) ?_
   exact rfl
  ·as_aux_lemma =>
   intro vs W hS hu hdep K hK; have HU := Lib.hid hu; clear hu; have d0 := hdep ⟨0, .data⟩ (by simp) rfl; simp only [PhiOf1] at d0; have d1 := hdep ⟨4, .data⟩ (by simp) rfl; simp only [PhiOf1] at d1; refine ⟨?_⟩; simp only [Act.put, sA, sB, sC, Nat.zero_add, Nat.reduceAdd, d0, d1] at hK ⊢; go_simp; refine (hadd_ini _ (hKC.below hS)).mono ?_; rintro e w' ⟨s, bk, rfl, hs, hb⟩; go_wp2_with fail; with_reducible refine hK _ _ hb ?_
   exact ⟨s, bk, rfl, hs⟩
  ·as_aux_lemma =>
   intro vs W hS hu hdep K hK; have HU := Lib.hid hu; clear hu; refine ⟨?_⟩; simp only [Act.put, sA, sB, sC, Nat.zero_add, Nat.reduceAdd] at hK ⊢; go_simp; with_reducible refine hK _ _ (bA _ _) ?_
   exact ⟨_, rfl, hS.size, _, Blk.new _ _ _, rfl⟩
  ·as_aux_lemma =>
   intro vs W hS hdep K hK; have d0 := hdep ⟨6, .data⟩ (by simp) rfl (by rfl); simp only [PhiOf1] at d0; have d1 := hdep ⟨5, .data⟩ (by simp) rfl (by rfl); simp only [PhiOf1] at d1; obtain ⟨g, e0, hge, arr, hbk, hsz⟩ := d0; obtain ⟨s, bk, e1, hs⟩ := d1; have hS : Below w2.heap.size w2 W := hS; refine ⟨?_⟩; simp only [Act.put, sA, sB, sC, Nat.zero_add, Nat.reduceAdd, e0, e1] at hK ⊢; rw [if_pos (by rfl)]; refine wp_store_mid 114 (.tmp 5) (.tmp 14) (by rfl) g 0 (strmC s bk 1).toArray (by rfl) (by rfl) (Blk.there hbk (by rw [hsz]; exact (strmC_len s bk 1).symm)) infoStrmS (all_oneCell_toArray strmC_one) ?_
   (try simp only [Act.put, sA, sB, sC])
   with_reducible refine hK undef _ ?_
   exact ⟨g, s, bk, e0, hge, Blk.setAll (cs := (strmC s bk 1).toArray) hbk (by rw [hsz]; exact (strmC_len s bk 1).symm), hs, below_setAll hge _ 0 hS⟩
 ·intro vs W hS _; have hS2 : SOf1 w2 [vs 7] vs W := hS; obtain ⟨gS, s, bk, e6, hgeS, BS, HSt, hbW⟩ := hS2; simp only [Act.put, sA, sB, sC, Nat.zero_add, Nat.reduceAdd, e6]; have HSt := Lib.hid HSt; have hcA := cell_keep hbW hcA; have hKC := hKC.below hbW; have hbe := Below.tr hbe hbW
  have HR : Hid (∃ arr : Array Value, Blk W gR 31 arr ∧ arr.size = 16) := by
   obtain ⟨arr, h1, h2⟩ := HR.out; exact ⟨arr, Blk.below h1 hbW h1.lt, h2⟩
  have hgRl : gR < w2.heap.size := by have := hgR.out; obtain ⟨_, h1, _⟩ := HR2.out; exact h1.lt
  have hne : gR ≠ gS := by omega
  have hgS0 : gS ≠ 0 := by omega
  have hgeS2 : w.heap.size ≤ gS := by omega
  clear hS e6 hbW hgeS HR2; go_wp2_with fail
  go_loopg [17] 1 (fun mm x wr => ∃ (i : Nat) (s : R8) (bk : Nat → Nat), x = .int .i64 i ∧ i + mm = 1 ∧ Hid (StOk (if i = 0 then [12] else 12 :: encB l) s bk) ∧ Hid (Blk wr gS 114 (strmC s bk (if i = 0 then 1 else (12 :: encB l).length)).toArray) ∧ Hid (∃ arr : Array Value, Blk wr gR 31 arr ∧ arr.size = 16) ∧ wr.cell? ⟨bQ, oA + 0, none⟩ = some (.string s0) ∧ KcT wr 0 ∧ Below w.heap.size w wr)
  case atStart => exact ⟨0, s, bk, rfl, rfl, HSt, BS, HR, hcA, hKC, hbe⟩
  case round =>
   clear HSt BS HR hcA hKC hbe; obtain ⟨G, hG⟩ : ∃ G, G = gk := ⟨gk, rfl⟩; subst hG; obtain ⟨i, s, bk, rfl, him, HS, HB, HR, hcA, hKC, hbe⟩ := hrel; by_cases hi : i < 1
   ·have t1 : decide ((i : Int) < 1) = true := by simp; omega
    have li : (i : Int) < 1 := by omega
    have HI0 : Hid (i = 0) := (by show _ = _; omega); have HS : Hid (StOk [12] s bk) := by have h := HS.out; rw [HI0.out, if_pos rfl] at h; exact h
    have BW : Blk wr gS 114 (strmC s bk 1).toArray := by have h := HB.out; rw [HI0.out, if_pos rfl] at h; exact h
    have hcI : wr.cell? ⟨bQ, oA + i, none⟩ = some (.string (txB l)) := by rw [HI0.out, hcA, hs0T.out]
    have HRS : Hid (∀ j v, (strmC s bk 1)[j]? = some v → wr.cell? ⟨gS, 0 + j, none⟩ = some v) := fun j v h => by rw [Nat.zero_add, BW.cell]; simpa using h
    clear HB; go_upto_region 5 with fail; refine region_chain [5] [.early, .early, .early, .early, .early, .chain 0] [] [] (PhiOf5 l s bk) (fun w w' => Below w.heap.size w w') (SOf5 wr gS l) (by kernel_rfl) (by kernel_rfl) (by kernel_rfl) (by kernel_rfl) (sK (fun _ _ _ _ _ h => h) (sK (fun _ _ _ _ _ h => h) (sK (fun _ _ _ _ _ h => h) (sK (fun _ _ _ _ _ h => h) (sK (fun _ _ _ _ _ h => h) (sK (fun _ _ _ _ _ h => h) (sZ))))))) PhiOf5.keepR PhiOf5.keepF (fun _ _ _ _ hR hS => Below.tr hS hR) (by rintro (_ | ⟨_, _ | _⟩) vs vs' w _ h <;> exact h) (fun _ => bD _) (fun vs => by simp only [fillR, Act.put, sA, sB, sC, Nat.zero_add, Nat.reduceAdd]; rfl) ?_ ?_
    ·refine sK ?_ (sK ?_ (sK ?_ (sK ?_ (sK ?_ (sK ?_ (sZ))))))
     ·as_aux_lemma =>
      intro vs W hS hu hdep K hK; have HU := Lib.hid hu; clear hu; refine ⟨?_⟩; simp only [Act.put, sA, sB, sC, Nat.zero_add, Nat.reduceAdd] at hK ⊢; rw [if_pos (by rfl)]; refine wp_load_mid 114 (.tmp 5) (by rfl) gS (0) (by rfl) (strmC s bk 1) _ (fun j v h => cell_keep hS (HRS.out j v h)) Tryz.underlying114 (by rfl) infoStrm ?_; simp only [Act.put, sA, sB, sC]; with_reducible refine hK _ _ (Below.refl _ _) ?_
      exact rfl
     ·as_aux_lemma =>
      intro vs W hS hu hdep K hK; have HU := Lib.hid hu; clear hu; refine ⟨?_⟩; simp only [Act.put, sA, sB, sC, Nat.zero_add, Nat.reduceAdd] at hK ⊢; go_simp; with_reducible refine hK _ _ (Below.refl _ _) ?_
      exact rfl
     ·as_aux_lemma =>
      intro vs W hS hu hdep K hK; have HU := Lib.hid hu; clear hu; have d0 := hdep ⟨1, .data⟩ (by simp) rfl; simp only [PhiOf5] at d0; refine ⟨?_⟩; simp only [Act.put, sA, sB, sC, Nat.zero_add, Nat.reduceAdd, d0] at hK ⊢; go_simp; refine (wbytes_n l _ hl hn).mono ?_; rintro e w' ⟨v, rfl, hv, hb⟩; obtain ⟨A, c, rfl⟩ := hv.shp; go_wp2_with fail; with_reducible refine hK _ _ hb ?_
      exact ⟨A, _, c, rfl, hv.by_ (by have := hel; omega)⟩
     ·as_aux_lemma =>
      intro vs W hS hu hdep K hK; have HU := Lib.hid hu; clear hu; have d0 := hdep ⟨2, .data⟩ (by simp) rfl; simp only [PhiOf5] at d0; refine @exE3 _ _ _ _ _ d0 ?_; clear d0; intro A0 k0 c0 d0; have e0 := d0.1; have n0 := d0.2; clear d0; have g1 := conv_by n0 (by rw [n0.len]; exact hep); refine ⟨?_⟩; simp only [Act.put, sA, sB, sC, Nat.zero_add, Nat.reduceAdd, e0] at hK ⊢; go_simp; with_reducible refine hK _ _ (Below.refl _ _) ?_
      exact rfl
     ·as_aux_lemma =>
      intro vs W hS hu hdep K hK; have HU := Lib.hid hu; clear hu; have d0 := hdep ⟨0, .data⟩ (by simp) rfl; simp only [PhiOf5] at d0; have d1 := hdep ⟨3, .data⟩ (by simp) rfl; simp only [PhiOf5] at d1; refine ⟨?_⟩; simp only [Act.put, sA, sB, sC, Nat.zero_add, Nat.reduceAdd, d0, d1] at hK ⊢; go_simp; refine (hadd_12 l s bk _ hel heb HS.out (hKC.below hS)).mono ?_; rintro e w' ⟨s', bk', rfl, hs, hb⟩; go_wp2_with fail; with_reducible refine hK _ _ hb ?_
      exact ⟨s', bk', rfl, hs⟩
     ·as_aux_lemma =>
      intro vs W hS hdep K hK; have d0 := hdep ⟨4, .data⟩ (by simp) rfl (by rfl); simp only [PhiOf5] at d0; obtain ⟨s', bk', e0, hs⟩ := d0; have hS : Below wr.heap.size wr W := hS; have hbk := Blk.below BW hS BW.lt; refine ⟨?_⟩; simp only [Act.put, sA, sB, sC, Nat.zero_add, Nat.reduceAdd, e0] at hK ⊢; rw [if_pos (by rfl)]; refine wp_store_mid 114 (.tmp 5) (.tmp 25) (by rfl) gS 0 (strmC s' bk' (12 :: encB l).length).toArray (by rfl) (by rfl) (Blk.there hbk (by rw [List.size_toArray, List.size_toArray, strmC_len, strmC_len])) infoStrmS (all_oneCell_toArray strmC_one) ?_
      (try simp only [Act.put, sA, sB, sC])
      with_reducible refine hK undef _ ?_
      exact ⟨s', bk', hs, W, hS, rfl⟩
    ·intro vs W hS _; have hS2 : SOf5 wr gS l [vs 5] vs W := hS; obtain ⟨s', bk', hs', W0, hb0, rfl⟩ := hS2; have B5 : Blk (W0.setCells gS 0 (strmC s' bk' (12 :: encB l).length)) gS 114 (strmC s' bk' (12 :: encB l).length).toArray := Blk.setAll (cs := (strmC s' bk' (12 :: encB l).length).toArray) (Blk.below BW hb0 BW.lt) (by rw [List.size_toArray, List.size_toArray, strmC_len, strmC_len])
     have HR5 : Hid (∃ arr : Array Value, Blk (W0.setCells gS 0 (strmC s' bk' (12 :: encB l).length)) gR 31 arr ∧ arr.size = 16) := by
      obtain ⟨arr, h1, h2⟩ := HR.out; exact ⟨arr, Blk.farAll hne _ _ (Blk.below h1 hb0 h1.lt), h2⟩
     have hK5 : KcT (W0.setCells gS 0 (strmC s' bk' (12 :: encB l).length)) 0 := (hKC.below hb0).setAll (Ne.symm hgS0) _ _; have hbe5 : Below w.heap.size w (W0.setCells gS 0 (strmC s' bk' (12 :: encB l).length)) := below_setAll hgeS2 _ _ (Below.tr hbe hb0); have hc5 : (W0.setCells gS 0 (strmC s' bk' (12 :: encB l).length)).cell? ⟨bQ, oA + 0, none⟩ = some (.string s0) := cell_keep hbe5 hcA0.out; clear hS hb0 BW HR hKC hbe hcA HRS hcI; go_wp2_with fail
     go_roundg (G - 1)
     case measure => omega
     case rel => exact ⟨i + 1, s', bk', by go_num, by omega, by rw [if_neg (by omega)]; exact hs', by rw [if_neg (by omega)]; exact B5, HR5, hc5, hK5, hbe5⟩
   have t1 : decide ((i : Int) < 1) = false := by simp; omega
   obtain ⟨M, HM⟩ : ∃ M, Hid (M = 12 :: encB l) := ⟨12 :: encB l, rfl⟩; have HS : Hid (StOk M s bk) := by have h := HS.out; rw [if_neg (by omega), ← HM.out] at h; exact h
   have BW : Blk wr gS 114 (strmC s bk M.length).toArray := by have h := HB.out; rw [if_neg (by omega), ← HM.out] at h; exact h
   have hMl : M.length ≤ 1073741824 := by rw [HM.out, List.length_cons]; omega
   have hgSl := BW.lt; have hgRl2 : gR < wr.heap.size := by obtain ⟨_, h1, _⟩ := HR.out; exact h1.lt
   clear HB
   go_wp2_with (first | (refine wpList_load_mid rfl 114 (.tmp 5) rfl gS 0 rfl (strmC s bk M.length) _ (Blk.range BW) Tryz.underlying114 rfl infoStrm ?_; simp only [Act.put, sA, sB, sC]))
   refine (hsum_n M s bk wr hMl HS.out hKC).mono ?_; rintro e w5 ⟨rfl, hb5⟩; have hbe := Below.tr hbe hb5; obtain ⟨sh, Hsh⟩ : ∃ f, Hid (shaB (shaW M) = f) := ⟨_, rfl⟩; unfold shaL; rw [Hsh.out]
   go_upto_region 8 with (first | (refine wpList_store_mid rfl 117 (.tmp 8) (.tmp 28) rfl w5.heap.size 0 (arB 32 sh) rfl rfl (there_new _ _ _ 32 (by simp)) infoB32s (all_oneCell_toArray arB_one) ?_; rw [setCells_new]; rotate_left; rfl))
   refine wp_name ?_; intro w6 HW6; have hb6 : Below w5.heap.size w5 w6 := by rw [HW6.out]; exact bA _ _
   have B8 : Blk w6 w5.heap.size 117 (arB 32 sh) := by rw [HW6.out]; exact Blk.new _ _ _
   obtain ⟨g8, hg8⟩ : ∃ g, Hid (g = w5.heap.size) := ⟨_, rfl⟩; rw [← hg8.out] at B8 ⊢; have hbe := Below.tr hbe hb6
   obtain ⟨arr, hR1, hR2⟩ : ∃ arr : Array Value, Blk w6 gR 31 arr ∧ arr.size = 16 := by
    obtain ⟨arr, h1, h2⟩ := HR.out; exact ⟨arr, Blk.below (Blk.below h1 hb5 h1.lt) hb6 (by have := hb5.size; omega), h2⟩
   have hgat := fun c w => arrAt16 g8 0 c w
   have HR16 : Hid (∀ j v, (bLs 16 sh)[j]? = some v → w6.cell? ⟨g8, 0 + j, none⟩ = some v) := by
    intro j v h; have hj : j < 16 := by have := (List.getElem?_eq_some_iff.1 h).1; rwa [bLs_len] at this
    have h3 := arB_get (n := 16) (f := sh) hj; unfold arB at h3; rw [List.getElem?_toArray, h] at h3; rw [Nat.zero_add, B8.cell, arB_get (by omega)]; exact h3.symm
   clear HW6 hb6 HR hb5
   go_wp2_with (first | (refine wpList_load_mid rfl 31 (.tmp 30) rfl g8 0 rfl (bLs 16 sh) _ HR16.out Tryz.underlying31 rfl infoD16b ?_; simp only [Act.put, sA, sB, sC]) | (refine wpList_store_mid rfl 31 (.tmp 4) (.tmp 31) rfl gR 0 (arB 16 sh) rfl rfl (Blk.there hR1 (by rw [hR2, arB_size])) infoD16bs (all_oneCell_toArray arB_one) ?_))
   (try simp only [Exit.inBlock, Exit.then])
   have hfin := Blk.setAll (cs := arB 16 sh) hR1 (by rw [hR2, arB_size]); refine bodyPost_ret (results_cell_row rfl _ _ gR 31 _ (0, 0) _ rfl hfin Tryz.underlying31 rfl infoD16bs) rfl ⟨?_, below_setAll hgeR _ 0 hbe⟩; unfold dgW; rw [← HM.out, Hsh.out]; rfl
end Go.Proofs.YtijkfagkbfbpmaaGreatDoor
namespace Go.Proofs.YtijkfagkbfbpmaaGreatDoor
open Go Go.RowKit
set_option maxRecDepth 100000 in
set_option maxHeartbeats 8000000 in
theorem rpad_n (A : Option Addr) (k c : Nat) (l : List Nat) (w : World) (h : By w A k c l) (hk : k ≤ 67108873) :
  Calls Tryz.prog 179 #[.slice A k c] w fun e w' => ∃ v, e = .returned v ∧ OwnB w' w.heap.size v (l ++ padT l.length) ∧ Below w.heap.size w w' := by
 have hlen := h.len; obtain ⟨N, HN⟩ : ∃ N, Hid (N = k) := ⟨_, rfl⟩; have HNL := Lib.hid (HN.out.trans hlen); rw [← HN.out] at hk h ⊢; clear hlen
 go_enter Tryz.func179, Tryz.ntmps179
 have hba := bA w (.cells #[] 5); have hby1 := h.below hba; have hnil : OwnB (w.alloc (.cells #[] 5)) w.heap.size (.slice (some ⟨w.heap.size, 0, none⟩) 0 0) [] := ⟨own_nil0 w 5 1, fun x hx => (by cases hx)⟩; have hl1 : ([] : List Nat).length + l.length ≤ 1073741824 := by have := HNL.out; simp; omega
 have hs1 := hba.size
 go_upto_region 2 with (first | (at_builtin; go_loud (refine wpList_appB rfl (.tmp 6) (.tmp 7) rfl w.heap.size (.slice (some ⟨w.heap.size, 0, none⟩) 0 0) ([]) rfl hnil (A) N c (l) rfl hby1 hl1 hs1 ?_); intro v1 w1 hown1 hg1 hat1))
 rw [List.nil_append] at hown1; have hb1 : Below w.heap.size w w1 := hba.grown hg1 hs1 hnil.ge; obtain ⟨A1, c1, rfl⟩ := hown1.shp; clear hba hby1 hnil hg1 hat1 hl1 hs1; rw [← HNL.out] at hown1 ⊢; have hbb := bA w1 (.cells #[.int .u8 128] 5); have hby2 : By (w1.alloc (.cells #[.int .u8 128] 5)) (some ⟨w1.heap.size, 0, none⟩) 1 1 [128] := (OwnB.one w1 128 (by omega)).by_ (by simp); have hown1 := hown1.below hbb; have hl2 : l.length + [128].length ≤ 1073741824 := by have := HNL.out; simp; omega
 have hb1b := Below.tr hb1 hbb; have hs2 := hb1b.size
 go_wp2_with (first | (at_builtin; go_loud (refine wpList_appB rfl (.tmp 9) (.tmp 10) rfl w.heap.size (.slice A1 N c1) (l) rfl hown1 (some ⟨w1.heap.size, 0, none⟩) 1 1 ([128]) rfl hby2 hl2 hs2 ?_); intro v2 w2 hown2 hg2 hat2))
 have hb2 : Below w.heap.size w w2 := hb1b.grown hg2 hs2 hown1.ge; clear hbb hby2 hg2 hat2 hl2 hs2 hb1b hb1 hown1
 go_loopg [3] (padZ N) (fun mm x wr => ∃ i : Nat, i + mm = padZ N ∧ Hid (OwnB wr w.heap.size x (l ++ (128 :: List.replicate i 0))) ∧ Below w.heap.size w wr)
 case atStart => exact ⟨0, by omega, hown2, hb2⟩
 case round =>
  clear hown2 hb2; obtain ⟨G, hG⟩ : ∃ G, G = gk := ⟨gk, rfl⟩; subst hG; obtain ⟨i, him, HO, hbe⟩ := hrel; obtain ⟨L, HL⟩ : ∃ L : List Nat, Hid (L = l ++ (128 :: List.replicate i 0)) := ⟨l ++ (128 :: List.replicate i 0), rfl⟩; rw [← HL.out] at HO; obtain ⟨q, Hq⟩ : ∃ q, Hid (q = L.length) := ⟨_, rfl⟩; have Hq2 : Hid (q = N + (i + 1)) := by show _ = _; rw [Hq.out, HL.out, List.length_append, ← HNL.out]; simp
  obtain ⟨A2, c2, rfl⟩ := HO.out.shp; rw [← Hq.out] at HO ⊢; have hz64 : padZ N < 64 := by unfold padZ; omega
  by_cases hi : i < padZ N
  ·have hcond : ((q : Int) % 64 != 56) = true := by
    have h1 : q % 64 ≠ 56 := by rw [Hq2.out]; unfold padZ at hi; omega
    simp; omega
   have hbx := bA wr (.cells #[.int .u8 0] 5); have hby : By (wr.alloc (.cells #[.int .u8 0] 5)) (some ⟨wr.heap.size, 0, none⟩) 1 1 [0] := (OwnB.one wr 0 (by omega)).by_ (by simp); have HO1 := HO.out.below hbx; have hbe1 := Below.tr hbe hbx; have hsz := hbe1.size; have hl30 : L.length + [0].length ≤ 1073741824 := by rw [← Hq.out, Hq2.out]; simp; omega
   go_wp2_with (first | (at_builtin; go_loud (refine wpList_appB rfl (.tmp 16) (.tmp 17) rfl w.heap.size (.slice A2 q c2) (L) rfl HO1 (some ⟨wr.heap.size, 0, none⟩) 1 1 ([0]) rfl hby hl30 hsz ?_); intro v4 w4 hown4 hg4 hat4))
   have hbe4 : Below w.heap.size w w4 := hbe1.grown hg4 hsz HO1.ge
   go_roundg (G - 1)
   case measure => omega
   case rel =>
    refine ⟨i + 1, by omega, ?_, hbe4⟩
    show OwnB _ _ _ _
    rw [show l ++ ((128 : Nat) :: List.replicate (i + 1) 0) = L ++ [0] from by rw [HL.out, List.replicate_succ', List.append_assoc]; rfl]; exact hown4
  have hcond : ((q : Int) % 64 != 56) = false := by
   have h1 : q % 64 = 56 := by rw [Hq2.out]; unfold padZ at hi him; omega
   simp; omega
  have HIZ : Hid (i = padZ N) := (by show _ = _; omega); have h8 : 8 * (N : Int) % 18446744073709551616 = ((8 * N : Nat) : Int) := by omega
  have hNu : (N : Int) % 18446744073709551616 = (N : Int) := by omega
  go_wp2_with fail
  go_loopg [3, 5] 8 (fun mm x y wr => ∃ k : Nat, y = .int .i64 k ∧ k + mm = 8 ∧ Hid (OwnB wr w.heap.size x (L ++ (List.range k).map (lenB N))) ∧ Below w.heap.size w wr)
  case atStart =>
   refine ⟨0, rfl, rfl, ?_, hbe⟩
   show OwnB _ _ _ _
   rw [List.range_zero, List.map_nil, List.append_nil]; exact HO.out
  case round =>
   clear HO hbe hcond h8 hNu; obtain ⟨G2, hG2⟩ : ∃ G, G = gk := ⟨gk, rfl⟩; subst hG2; obtain ⟨k, rfl, hkm, HO, hbe⟩ := hrel; obtain ⟨L2, HL2⟩ : ∃ L2 : List Nat, Hid (L2 = L ++ (List.range k).map (lenB N)) := ⟨L ++ (List.range k).map (lenB N), rfl⟩; rw [← HL2.out] at HO; obtain ⟨z, HZ⟩ : ∃ z, Hid (z = L2.length) := ⟨_, rfl⟩; have HZ2 : Hid (z = q + k) := by show _ = _; rw [HZ.out, HL2.out, List.length_append, ← Hq.out]; simp
   obtain ⟨A3, c3, rfl⟩ := HO.out.shp; rw [← HZ.out] at HO ⊢; by_cases hk8 : k < 8
   ·have t1 : decide ((k : Int) < 8) = true := by simp; omega
    obtain ⟨p, Hp⟩ : ∃ p : Nat, Hid (p + 8 * k = 56) := ⟨56 - 8 * k, (by show _ = _; omega)⟩; have e1 : IntKind.i64.wrap (8 * (k : Int)) = ((8 * k : Nat) : Int) := by rw [IntWalk.i64_in _ (by omega)]; omega
    have e2 : IntKind.i64.wrap (56 - 8 * (k : Int)) = (p : Int) := by rw [IntWalk.i64_in _ (by omega)]; have := Hp.out; omega
    have hsh : Op.shift .shr .u64 (8 * (N : Int)) .i64 (p : Int) = pure (.int .u64 ((8 * N / 2 ^ p : Nat) : Int)) := by
     rw [shift_shr .u64 .i64 _ _ (by omega) (by have := Hp.out; show (p : Int) ≤ 64; omega)]; rw [Int.toNat_natCast]
     congr 2
    have hcv : 8 * (N : Int) / 2 ^ p % 256 = ((lenB N k : Nat) : Int) := by
     unfold lenB; rw [show 56 - 8 * k = p by have := Hp.out; omega]; simp
    have hlb : lenB N k < 256 := Nat.mod_lt _ (by omega); have hbx := bA wr (.cells #[.int .u8 (lenB N k : Nat)] 5); have hby : By (wr.alloc (.cells #[.int .u8 (lenB N k : Nat)] 5)) (some ⟨wr.heap.size, 0, none⟩) 1 1 [lenB N k] := (OwnB.one wr (lenB N k) hlb).by_ (by simp); have HO1 := HO.out.below hbx; have hbe1 := Below.tr hbe hbx; have hsz := hbe1.size; have hl30 : L2.length + [lenB N k].length ≤ 1073741824 := by rw [← HZ.out, HZ2.out, Hq2.out]; simp; omega
    go_wp2_with (first | (at_builtin; go_loud (refine wpList_appB rfl (.tmp 27) (.tmp 34) rfl w.heap.size (.slice A3 z c3) (L2) rfl HO1 (some ⟨wr.heap.size, 0, none⟩) 1 1 ([lenB N k]) rfl hby hl30 hsz ?_); intro v4 w4 hown4 hg4 hat4))
    have hbe4 : Below w.heap.size w w4 := hbe1.grown hg4 hsz HO1.ge
    go_roundg (G2 - 1)
    case measure => omega
    case rel =>
     refine ⟨k + 1, by go_num, by omega, ?_, hbe4⟩
     show OwnB _ _ _ _
     rw [List.range_succ, List.map_append, ← List.append_assoc, ← HL2.out]; exact hown4
   have t1 : decide ((k : Int) < 8) = false := by simp; omega
   have HP : Hid (L2 = l ++ padT l.length) := by
    show _ = _
    rw [HL2.out, HL.out, HIZ.out, show k = 8 by omega, ← HNL.out, List.append_assoc]; rfl
   go_wp2_with fail; go_ret; exact ⟨_, rfl, by rw [← HP.out]; have h := HO.out; exact h, hbe⟩
end Go.Proofs.YtijkfagkbfbpmaaGreatDoor
