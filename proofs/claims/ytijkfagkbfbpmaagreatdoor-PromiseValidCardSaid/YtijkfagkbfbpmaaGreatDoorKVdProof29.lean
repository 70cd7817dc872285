import Derived.Test.YtijkfagkbfbpmaaGreatDoorKVdProof22
import Derived.Test.YtijkfagkbfbpmaaGreatDoorKVdProof28
import Derived.Test.YtijkfagkbfbpmaaGreatDoorS0
set_option linter.unusedVariables false
set_option linter.unusedSimpArgs false
namespace Go.Proofs.YtijkfagkbfbpmaaGreatDoor
open Go Go.RowKit
theorem list_ex {w : World} {ps : List PC} {bd : Nat → Nat × Nat} {b q : PC} (h1 : PsOk w ps bd) (h2 : PDN w b 69) (h3 : PDN w q 69) : ∃ Lf, LsW w (ps ++ [b, q]) Lf ∧ ∀ (n : Nat) p, (ps ++ [b, q])[n]? = some p → n + 2 < (ps ++ [b, q]).length → PVal p (Lf n).1 (Lf n).2 0 := by
 obtain ⟨Lf, hL⟩ := idx_choice (l := ps ++ [b, q]) (R := fun n p (L : List Nat × List Nat) => (PD w p L.1 L.2 ∧ L.1.length ≤ 69 ∧ L.2.length ≤ 69) ∧ (n + 2 < (ps ++ [b, q]).length → PVal p L.1 L.2 0)) (by
  intro n p hp; by_cases hn : n < ps.length
  ·rw [List.getElem?_append_left hn] at hp; have h4 := psok_ls h1 n p hp; exact ⟨LfM bd n, h4, fun _ => psok_pv h1 n p hp⟩
  ·have hlen : (ps ++ [b, q]).length = ps.length + 2 := by simp
   have hl := (List.getElem?_eq_some_iff.1 hp).1; rw [List.getElem?_append_right (by omega)] at hp; have hc : n - ps.length = 0 ∨ n - ps.length = 1 := by omega
   rcases hc with hc | hc
   ·rw [hc] at hp; injection hp with hp; subst hp; obtain ⟨L, hL⟩ := h2.esc; exact ⟨L, hL, fun h => (by omega)⟩
   ·rw [hc] at hp; injection hp with hp; subst hp; obtain ⟨L, hL⟩ := h3.esc
    exact ⟨L, hL, fun h => (by omega)⟩)
 exact ⟨Lf, fun n p hp => (hL n p hp).1, fun n p hp => (hL n p hp).2⟩
theorem list_pls {w : World} {A : Option Addr} {k : Nat} {ps : List PC} {bd : Nat → Nat × Nat} {b q : PC} (hr : RowS cellsP w A k (ps ++ [b, q])) (h1 : PsOk w ps bd) (h2 : PDN w b 69) (h3 : PDN w q 69) : ∃ Lf Ev dg, LsW w (ps ++ [b, q]) Lf ∧ PLs w A k (ps ++ [b, q]) Lf Ev dg ∧ ∀ n, n + 2 < k → Ev n = 0 := by
 obtain ⟨Lf, hL, hv⟩ := list_ex h1 h2 h3; obtain ⟨Ev, dg, hp⟩ := pls_ex hr hL; refine ⟨Lf, Ev, dg, hL, hp, fun n hn => ?_⟩; have hk : k = (ps ++ [b, q]).length := hr.2.1; have hnl : n < (ps ++ [b, q]).length := by omega
 exact (hp.pv n _ (List.getElem?_eq_getElem hnl)).uniq (hv n _ (List.getElem?_eq_getElem hnl) (by omega))
def PhiVd5 (N : Nat) (Al : Option Addr) (k c b off i : Nat) (p : PC) (d : DG) (n1 n2 n3 E : Int) (j : Nat) (w : World) (x : Value) : Prop :=
 match j with
 | 0 => x = .slice Al k c
 | 1 => x = .int .i64 (i : Nat)
 | 2 => x = .pointer (some ⟨b, off + i * 24, none⟩)
 | 3 => x = .agg (cellsP p).toArray
 | 4 => x = .agg (cellsDG d).toArray
 | 5 => x = .agg (cellsE n1 n2 n3).toArray
 | 6 => x = .tuple #[.agg (clC E p d n1 n2 n3).toArray, .int .i64 E]
 | 7 => x = .tuple #[.agg (clC E p d n1 n2 n3).toArray, .int .i64 E]
 | 8 => x = .agg (clC E p d n1 n2 n3).toArray
 | 9 => x = .int .i64 E
 | 10 => ∃ g, x = .pointer (some ⟨g, 0, none⟩) ∧ N ≤ g ∧ ShBx 58 26 w g
 | 11 => True
 | 12 => x = .int .i64 E
 | _ => True

theorem PhiVd5.keep {N : Nat} {Al : Option Addr} {k c b off i : Nat} {p : PC} {d : DG} {n1 n2 n3 E : Int} : ∀ (w w' : World), RBx N 58 26 w w' → ∀ j x, PhiVd5 N Al k c b off i p d n1 n2 n3 E j w x → PhiVd5 N Al k c b off i p d n1 n2 n3 E j w' x := by
 intro w w' hr j x h; unfold PhiVd5 at h ⊢
 split <;> simp only at h ⊢
 all_goals first
  | exact h
  | (obtain ⟨g, e, h1, h2⟩ := h; exact ⟨g, e, h1, hr.kp g h2⟩)
def PhiVd7A (Al : Option Addr) (k c b off i : Nat) (p : PC) (d : DG) (n1 n2 n3 E : Int) (j : Nat) (w : World) (x : Value) : Prop :=
 match j with
 | 0 => x = .slice Al k c
 | 1 => x = .int .i64 (i : Nat)
 | 2 => x = .pointer (some ⟨b, off + i * 24, none⟩)
 | 3 => x = .agg (cellsP p).toArray
 | 4 => x = .int .i64 E
 | 5 => x = .slice Al k c
 | 6 => x = .int .i64 (i : Nat)
 | 7 => x = .pointer (some ⟨b, off + i * 24, none⟩)
 | 8 => x = .agg (cellsP p).toArray
 | 9 => x = .int .i64 E
 | 10 => x = .bool false
 | 11 => x = .bool false
 | 12 => x = .int .i64 E
 | 13 => x = .int .i64 E
 | 14 => x = .bool false
 | 15 => x = .bool false
 | 16 => x = .bool false
 | 17 => x = .agg (clC E p d n1 n2 n3).toArray
 | 18 => x = .agg (clC E p d n1 n2 n3).toArray
 | 19 => x = .bool true
 | 20 => x = .bool false
 | 21 => x = .bool false
 | 22 => x = .bool false
 | 23 => x = .int .i64 (i : Nat)
 | 24 => x = .int .i64 ((i : Nat) + 2 : Int)
 | 25 => x = .slice Al k c
 | 26 => x = .int .i64 (k : Nat)
 | 27 => x = .bool true
 | 28 => x = .bool true
 | 29 => x = .slice Al k c
 | 30 => x = .int .i64 (i : Nat)
 | 31 => x = .pointer (some ⟨b, off + i * 24, none⟩)
 | 32 => x = .agg (cellsP p).toArray
 | 33 => x = .int .i64 E
 | 34 => x = .bool false
 | 35 => x = .bool false
 | 36 => x = .bool false
 | _ => True

theorem PhiVd7A.keep {Al : Option Addr} {k c b off i : Nat} {p : PC} {d : DG} {n1 n2 n3 E : Int} : ∀ (w w' : World), Below w.heap.size w w' → ∀ j x, PhiVd7A Al k c b off i p d n1 n2 n3 E j w x → PhiVd7A Al k c b off i p d n1 n2 n3 E j w' x := by
 intro w w' hb j x h; unfold PhiVd7A at h ⊢; exact h
def PhiVd7B (Al : Option Addr) (k c b off i : Nat) (p : PC) (d : DG) (n1 n2 n3 E : Int) (j : Nat) (w : World) (x : Value) : Prop :=
 match j with
 | 0 => x = .slice Al k c
 | 1 => x = .int .i64 (i : Nat)
 | 2 => x = .pointer (some ⟨b, off + i * 24, none⟩)
 | 3 => x = .agg (cellsP p).toArray
 | 4 => x = .int .i64 E
 | 5 => x = .slice Al k c
 | 6 => x = .int .i64 (i : Nat)
 | 7 => x = .pointer (some ⟨b, off + i * 24, none⟩)
 | 8 => x = .agg (cellsP p).toArray
 | 9 => x = .int .i64 E
 | 10 => x = .bool false
 | 11 => x = .bool false
 | 12 => x = .int .i64 E
 | 13 => x = .int .i64 E
 | 14 => x = .bool false
 | 15 => x = .bool false
 | 16 => x = .bool false
 | 17 => x = .agg (clC E p d n1 n2 n3).toArray
 | 18 => x = .agg (clC E p d n1 n2 n3).toArray
 | 19 => x = .bool true
 | 20 => x = .bool false
 | 21 => x = .bool false
 | 22 => x = .bool false
 | 23 => x = .int .i64 (i : Nat)
 | 24 => x = .int .i64 ((i : Nat) + 2 : Int)
 | 25 => x = .slice Al k c
 | 26 => x = .int .i64 (k : Nat)
 | 27 => x = .bool false
 | 28 => x = .bool false
 | 29 => x = undef
 | 30 => x = undef
 | 31 => x = undef
 | 32 => x = undef
 | 33 => x = undef
 | 34 => x = undef
 | 35 => x = .bool false
 | 36 => x = .bool false
 | _ => True

theorem PhiVd7B.keep {Al : Option Addr} {k c b off i : Nat} {p : PC} {d : DG} {n1 n2 n3 E : Int} : ∀ (w w' : World), Below w.heap.size w w' → ∀ j x, PhiVd7B Al k c b off i p d n1 n2 n3 E j w x → PhiVd7B Al k c b off i p d n1 n2 n3 E j w' x := by
 intro w w' hb j x h; unfold PhiVd7B at h ⊢; exact h
theorem clC_size (E : Int) (p : PC) (d : DG) (n1 n2 n3 : Int) : (clC E p d n1 n2 n3).toArray.size = 26 := by unfold clC; split <;> rfl
theorem infoCl (E : Int) {p : PC} {d : DG} {n1 n2 n3 : Int} : (Tryz.prog.info? 58).map (·.size) = some (clC E p d n1 n2 n3).toArray.size := by
 have e : (Tryz.prog.info? 58).map (·.size) = some 26 := by kernel_rfl
 rw [clC_size]; exact e
theorem infoClL (E : Int) {p : PC} {d : DG} {n1 n2 n3 : Int} : (Tryz.prog.info? 58).map (·.size) = some (clC E p d n1 n2 n3).length := by
 have h := clC_size E p d n1 n2 n3; rw [List.size_toArray] at h; have e : (Tryz.prog.info? 58).map (·.size) = some 26 := by kernel_rfl
 rw [h]; exact e
theorem clC_one (E : Int) {p : PC} {d : DG} {dm : List Int} {n1 n2 n3 : Int} {w : World} {L1 L2 : List Nat} (hr : RtL w (.agg #[p.b1, p.b2]) L1 L2) (hd : DgOk (cellsDG d) dm) : (clC E p d n1 n2 n3).toArray.all (·.oneCell') = true := by
 unfold clC
 split
 ·exact all_oneCell_toArray (fullC_one hr hd)
 ·exact all_oneCell_toArray zeroC_one
set_option maxRecDepth 100000 in
set_option maxHeartbeats 16000000 in
theorem promise_valid_n (A0 : Option Addr) (k0 c0 : Nat) (l0 : List Int) (how by_ : Int) (d : DG) (dm : List Int) (n1 n2 n3 : Int) (w : World)
  (h0 : RowL intC w A0 k0 l0) (H0 : Hid (∀ x ∈ l0, -9223372036854775808 ≤ x ∧ x ≤ 9223372036854775807)) (hh : -9223372036854775808 ≤ how ∧ how ≤ 9223372036854775807) (hb : -9223372036854775808 ≤ by_ ∧ by_ ≤ 9223372036854775807) (hd : DgOk (cellsDG d) dm) :
  Calls Tryz.prog 5 #[.slice A0 k0 c0, .int .i64 how, .int .i64 by_, .agg (cellsDG d).toArray, .agg (cellsE n1 n2 n3).toArray] w fun e w' => e = .returned (.bool true) ∧ Below w.heap.size w w' := by
 have HDM := Lib.hid hd; clear hd
 go_enter Tryz.func5, Tryz.ntmps5
 go_upto_region 1 with fail; refine wp_name ?_; intro W HW; have hbw : Below w.heap.size w W := by rw [HW.out]; exact Below.tr (bA _ _) (bA _ _)
 have BD : Blk W w.heap.size 31 (cellsDG d).toArray := by rw [HW.out]; exact (Blk.new _ _ _).alloc _
 have BE : Blk W (w.heap.size + 1) 56 (cellsE n1 n2 n3).toArray := by
  rw [HW.out]; have h := Blk.new (w.alloc (.cells (cellsDG d).toArray 31)) 56 (cellsE n1 n2 n3).toArray; rw [show (w.alloc (.cells (cellsDG d).toArray 31)).heap.size = w.heap.size + 1 by simp] at h; exact h
 obtain ⟨gE, hgE⟩ : ∃ g, Hid (g = w.heap.size + 1) := ⟨_, rfl⟩; obtain ⟨gD, hgD⟩ : ∃ g, Hid (g = w.heap.size) := ⟨_, rfl⟩; rw [← hgE.out] at BE ⊢; rw [← hgD.out] at BD
 conv in Value.pointer (some ⟨w.heap.size, 0, none⟩) => rw [← hgD.out]
 have h0 := h0.below hbw; clear HW hgE hgD; go_wp2_with fail; refine (list_n A0 k0 c0 l0 how by_ _ h0 H0 hh.1 hh.2 hb.1 hb.2).mono ?_; rintro e w1 ⟨Al, kp, c, ps0, bd, pb, pq, rfl, hrow, hkp, HK, hb1⟩; obtain ⟨Lf, Ev, dg, hls, hpl, hev⟩ := list_pls hrow HK.out.1 HK.out.2.1 HK.out.2.2; obtain ⟨ps, HPS⟩ : ∃ ps, Hid (ps = ps0 ++ [pb, pq]) := ⟨_, rfl⟩; obtain ⟨k, HK2⟩ : ∃ k, Hid (k = kp + 2) := ⟨_, rfl⟩; rw [← HPS.out, ← HK2.out] at hpl; rw [← HK2.out] at hev; rw [← HK2.out]; have hkk : k ≤ 8 := by have := HK2.out; omega
 have HPL := Lib.hid hpl; have HEV := Lib.hid hev; have HKL : Hid (k = ps.length) := hpl.row.2.1; have BD := Blk.below BD hb1 BD.lt; have BE := Blk.below BE hb1 BE.lt; have hbw := Below.tr hbw hb1; clear h0 H0 hh hb hrow HK hls hpl hev hb1 HPS; go_wp2_with fail
 go_loopg [12] k (fun mm x wr => ∃ i : Nat, x = .int .i64 i ∧ i + mm = k ∧ Below w1.heap.size w1 wr)
 case atStart => exact ⟨0, rfl, by omega, Below.refl _ _⟩
 case round =>
  obtain ⟨G, hG⟩ : ∃ G, G = gk := ⟨gk, rfl⟩; subst hG; obtain ⟨i, rfl, him, hbe⟩ := hrel; by_cases hi : i < k
  ·have u1 : decide ((i : Int) < (k : Int)) = true := by simp; omega
   have li : (i : Int) < (k : Int) := by omega
   have hil : i < ps.length := by have := HKL.out; omega
   obtain ⟨p, HP⟩ : ∃ p, Hid (ps[i] = p ∧ ps[i]? = some p) := ⟨_, rfl, List.getElem?_eq_getElem hil⟩; obtain ⟨E, HE⟩ : ∃ E, Hid (Ev i = E) := ⟨_, rfl⟩
   have HPV : Hid (PVal p (Lf i).1 (Lf i).2 E) := by
    have h := HPL.out.pv i p HP.out.2; rw [HE.out] at h; exact h
   obtain ⟨wo, hwo⟩ : ∃ x, x = wr := ⟨_, rfl⟩; subst hwo; have hplo := HPL.out.below hbe; obtain ⟨b, off, hA, HCP⟩ := hplo.row.at_ cellsP_len (by omega) hi hil; rw [HP.out.1] at HCP; have HEP := Lib.hid (hplo.esc i p HP.out.2); subst hA; have HBD : Hid (∀ j v, (cellsDG d)[j]? = some v → wo.cell? ⟨gD, 0 + j, none⟩ = some v) := fun j v h => cell_keep hbe (by rw [Nat.zero_add, BD.cell]; simpa using h)
   have HBE : Hid (∀ j v, (cellsE n1 n2 n3)[j]? = some v → wo.cell? ⟨gE, 0 + j, none⟩ = some v) := fun j v h => cell_keep hbe (by rw [Nat.zero_add, BE.cell]; simpa using h)
   have HON : Hid ((clC E p d n1 n2 n3).toArray.all (·.oneCell') = true) := clC_one E HEP.out.1 HDM.out; clear hplo; go_upto_region 5 with fail; refine region_invW (PhiVd5 wo.heap.size (some ⟨b, off, none⟩) k c b off i p d n1 n2 n3 E) (RBx wo.heap.size 58 26) (SBx wo 10 11 58 (clC E p d n1 n2 n3).toArray) (by kernel_rfl) (by kernel_rfl) (by kernel_rfl) PhiVd5.keep (SBx.start _ _ _ _ _ _) (fun vs => by simp only [fillR, Act.put, sA, sB, sC, Nat.zero_add, Nat.reduceAdd]; rfl) ?_ ?_
   ·refine sK ?_ (sK ?_ (sK ?_ (sK ?_ (sK ?_ (sK ?_ (sK ?_ (sK ?_ (sK ?_ (sK ?_ (sK ?_ (sK ?_ (sK ?_ (sZ)))))))))))))
    ·as_aux_lemma =>
     intro vs L W hS hL cl hdl hdep K hK; refine ⟨?_⟩; simp only [Act.put, sA, sB, sC, Nat.zero_add, Nat.reduceAdd] at hK ⊢; go_simp; with_reducible refine hK _ _ (RBx.below (Below.refl _ _) hS.be.size) (hS.step (Below.refl _ _) 0 _ (by decide) (fun e => absurd e (by decide))) ?_
     exact rfl
    ·as_aux_lemma =>
     intro vs L W hS hL cl hdl hdep K hK; refine ⟨?_⟩; simp only [Act.put, sA, sB, sC, Nat.zero_add, Nat.reduceAdd] at hK ⊢; go_simp; with_reducible refine hK _ _ (RBx.below (Below.refl _ _) hS.be.size) (hS.step (Below.refl _ _) 1 _ (by decide) (fun e => absurd e (by decide))) ?_
     exact rfl
    ·as_aux_lemma =>
     intro vs L W hS hL cl hdl hdep K hK; have d0 := hdep ⟨0, .data⟩ (by simp) rfl; simp only [PhiVd5] at d0; have d1 := hdep ⟨1, .data⟩ (by simp) rfl; simp only [PhiVd5] at d1; refine ⟨?_⟩; simp only [Act.put, sA, sB, sC, Nat.zero_add, Nat.reduceAdd, d0, d1] at hK ⊢; go_simp; with_reducible refine hK _ _ (RBx.below (Below.refl _ _) hS.be.size) (hS.step (Below.refl _ _) 2 _ (by decide) (fun e => absurd e (by decide))) ?_
     exact rfl
    ·as_aux_lemma =>
     intro vs L W hS hL cl hdl hdep K hK; have d0 := hdep ⟨2, .data⟩ (by simp) rfl; simp only [PhiVd5] at d0; refine ⟨?_⟩; simp only [Act.put, sA, sB, sC, Nat.zero_add, Nat.reduceAdd, d0] at hK ⊢; rw [if_pos (by rfl)]; refine wp_load_mid 33 (.tmp 30) (by rfl) b (off + i * 24) (by rfl) (cellsP p) _ (fun j v h => cell_keep hS.be (HCP.out j v h)) Tryz.underlying33 (by rfl) infoP ?_; simp only [Act.put, sA, sB, sC]; with_reducible refine hK _ _ (RBx.below (Below.refl _ _) hS.be.size) (hS.step (Below.refl _ _) 3 _ (by decide) (fun e => absurd e (by decide))) ?_
     exact rfl
    ·as_aux_lemma =>
     intro vs L W hS hL cl hdl hdep K hK; refine ⟨?_⟩; simp only [Act.put, sA, sB, sC, Nat.zero_add, Nat.reduceAdd] at hK ⊢; rw [if_pos (by rfl)]; refine wp_load_mid 31 (.tmp 8) (by rfl) gD (0) (by rfl) (cellsDG d) _ (range_keep hS.be HBD.out) Tryz.underlying31 (by rfl) (infoDGc (d := d)) ?_; simp only [Act.put, sA, sB, sC]; with_reducible refine hK _ _ (RBx.below (Below.refl _ _) hS.be.size) (hS.step (Below.refl _ _) 4 _ (by decide) (fun e => absurd e (by decide))) ?_
     exact rfl
    ·as_aux_lemma =>
     intro vs L W hS hL cl hdl hdep K hK; refine ⟨?_⟩; simp only [Act.put, sA, sB, sC, Nat.zero_add, Nat.reduceAdd] at hK ⊢; rw [if_pos (by rfl)]; refine wp_load_mid 56 (.tmp 9) (by rfl) gE (0) (by rfl) (cellsE n1 n2 n3) _ (range_keep hS.be HBE.out) Tryz.underlying56 (by rfl) infoE3 ?_; simp only [Act.put, sA, sB, sC]; with_reducible refine hK _ _ (RBx.below (Below.refl _ _) hS.be.size) (hS.step (Below.refl _ _) 5 _ (by decide) (fun e => absurd e (by decide))) ?_
     exact rfl
    ·as_aux_lemma =>
     intro vs L W hS hL cl hdl hdep K hK; have d0 := hdep ⟨3, .data⟩ (by simp) rfl; simp only [PhiVd5] at d0; have d1 := hdep ⟨4, .data⟩ (by simp) rfl; simp only [PhiVd5] at d1; have d2 := hdep ⟨5, .data⟩ (by simp) rfl; simp only [PhiVd5] at d2; refine ⟨?_⟩; simp only [Act.put, sA, sB, sC, Nat.zero_add, Nat.reduceAdd, d0, d1, d2] at hK ⊢; go_simp; refine (claim_n p (Lf i).1 (Lf i).2 d dm n1 n2 n3 E _ (HEP.out.1.below hS.be) HEP.out.2.1 HEP.out.2.2 HDM.out HPV).mono ?_; rintro e w' ⟨rfl, hb⟩; go_wp2_with fail; with_reducible refine hK _ _ (RBx.below hb hS.be.size) (hS.step hb 6 _ (by decide) (fun e => absurd e (by decide))) ?_
     exact rfl
    ·as_aux_lemma =>
     intro vs L W hS hL cl hdl hdep K hK; have d0 := hdep ⟨6, .data⟩ (by simp) rfl; simp only [PhiVd5] at d0; refine ⟨?_⟩; simp only [Act.put, sA, sB, sC, Nat.zero_add, Nat.reduceAdd, d0] at hK ⊢; go_simp; with_reducible refine hK _ _ (RBx.below (Below.refl _ _) hS.be.size) (hS.step (Below.refl _ _) 7 _ (by decide) (fun e => absurd e (by decide))) ?_
     exact rfl
    ·as_aux_lemma =>
     intro vs L W hS hL cl hdl hdep K hK; have d0 := hdep ⟨7, .data⟩ (by simp) rfl; simp only [PhiVd5] at d0; refine ⟨?_⟩; simp only [Act.put, sA, sB, sC, Nat.zero_add, Nat.reduceAdd, d0] at hK ⊢; go_simp; with_reducible refine hK _ _ (RBx.below (Below.refl _ _) hS.be.size) (hS.step (Below.refl _ _) 8 _ (by decide) (fun e => absurd e (by decide))) ?_
     exact rfl
    ·as_aux_lemma =>
     intro vs L W hS hL cl hdl hdep K hK; have d0 := hdep ⟨7, .data⟩ (by simp) rfl; simp only [PhiVd5] at d0; refine ⟨?_⟩; simp only [Act.put, sA, sB, sC, Nat.zero_add, Nat.reduceAdd, d0] at hK ⊢; go_simp; with_reducible refine hK _ _ (RBx.below (Below.refl _ _) hS.be.size) (hS.step (Below.refl _ _) 9 _ (by decide) (fun e => absurd e (by decide))) ?_
     exact rfl
    ·as_aux_lemma =>
     intro vs L W hS hL cl hdl hdep K hK
     have h11 : L 11 = false := by
      cases h : L 11 with
      | false => rfl
      | true => exact absurd (cl 11 _ rfl h ⟨10, .data⟩ (by simp) rfl) (by rw [hL]; decide)
     refine ⟨?_⟩; simp only [Act.put, sA, sB, sC, Nat.zero_add, Nat.reduceAdd] at hK ⊢; go_simp; with_reducible refine hK _ _ (RBx.below (bA _ _) hS.be.size) (hS.step (bA _ _) 10 _ (by decide) (fun _ => h11)) ?_
     exact ⟨_, rfl, hS.be.size, _, Blk.new _ _ _, rfl⟩
    ·as_aux_lemma =>
     intro vs L W hS hL cl hdl hdep K hK; have d0 := hdep ⟨10, .data⟩ (by simp) rfl; simp only [PhiVd5] at d0; refine @exE1 _ _ _ d0 ?_; clear d0; intro g0 d0; have e0 := d0.1; have l0 := d0.2.1; have s0 := d0.2.2; clear d0; have d1 := hdep ⟨8, .data⟩ (by simp) rfl; simp only [PhiVd5] at d1; have d1e := d1; obtain ⟨arr, hB, hsz⟩ := s0; refine ⟨?_⟩; simp only [Act.put, sA, sB, sC, Nat.zero_add, Nat.reduceAdd, e0, d1] at hK ⊢; rw [if_pos (by rfl)]; refine wp_store_mid 58 (.tmp 13) (.tmp 35) (by rfl) g0 0 ((clC E p d n1 n2 n3).toArray) (by rfl) (by rfl) (Blk.there hB (hsz.trans (clC_size ..).symm)) (infoCl E) HON.out ?_; simp only [Act.put, sA, sB, sC]; with_reducible refine hK undef _ (RBx.store l0 _ (clC_size ..)) (hS.stored e0 l0 (ShBx.mk' hB (hsz.trans (clC_size ..).symm)) (by decide) _) ?_
     exact trivial
    ·as_aux_lemma =>
     intro vs L W hS hL cl hdl hdep K hK; have d0 := hdep ⟨9, .data⟩ (by simp) rfl; simp only [PhiVd5] at d0; refine ⟨?_⟩; simp only [Act.put, sA, sB, sC, Nat.zero_add, Nat.reduceAdd, d0] at hK ⊢; go_simp; with_reducible refine hK _ _ (RBx.below (Below.refl _ _) hS.be.size) (hS.step (Below.refl _ _) 12 _ (by decide) (fun e => absurd e (by decide))) ?_
     exact rfl
   ·intro vs L w5 hS hall hv; have v12 := hv 12 (by simp); simp only [PhiVd5] at v12; obtain ⟨g, e10, hgN, hblk⟩ := hS.st (hall 11 (by simp)); have hbe5 := hS.be; clear hv hS hall; simp only [Act.put, sA, sB, sC, Nat.zero_add, Nat.reduceAdd, v12, e10]; have BX := hblk; obtain ⟨gX, hgX⟩ : ∃ g', Hid (g' = g) := ⟨_, rfl⟩; rw [← hgX.out] at BX ⊢; have hbe := Below.tr hbe hbe5; have HBD : Hid (∀ j v, (cellsDG d)[j]? = some v → w5.cell? ⟨gD, 0 + j, none⟩ = some v) := fun j v h => cell_keep hbe5 (HBD.out j v h)
    have HBE : Hid (∀ j v, (cellsE n1 n2 n3)[j]? = some v → w5.cell? ⟨gE, 0 + j, none⟩ = some v) := fun j v h => cell_keep hbe5 (HBE.out j v h)
    have HCP : Hid (∀ j v, (cellsP p)[j]? = some v → w5.cell? ⟨b, off + i * 24 + j, none⟩ = some v) := fun j v h => cell_keep hbe5 (HCP.out j v h)
    have HEP : Hid (RtL w5 (.agg #[p.b1, p.b2]) (Lf i).1 (Lf i).2 ∧ p.test.size ≤ 9223372036854775807 ∧ p.wh.size ≤ 9223372036854775807) := ⟨HEP.out.1.below hbe5, HEP.out.2⟩; clear hblk hbe5 e10 v12 hgN hgX; go_upto_region 6 with fail; refine region_invW (PhiVd5 w5.heap.size (some ⟨b, off, none⟩) k c b off i p d n1 n2 n3 E) (RBx w5.heap.size 58 26) (SBx w5 10 11 58 (clC E p d n1 n2 n3).toArray) (by kernel_rfl) (by kernel_rfl) (by kernel_rfl) PhiVd5.keep (SBx.start _ _ _ _ _ _) (fun vs => by simp only [fillR, Act.put, sA, sB, sC, Nat.zero_add, Nat.reduceAdd]; rfl) ?_ ?_
    ·refine sK ?_ (sK ?_ (sK ?_ (sK ?_ (sK ?_ (sK ?_ (sK ?_ (sK ?_ (sK ?_ (sK ?_ (sK ?_ (sK ?_ (sK ?_ (sZ)))))))))))))
     ·as_aux_lemma =>
      intro vs L W hS hL cl hdl hdep K hK; refine ⟨?_⟩; simp only [Act.put, sA, sB, sC, Nat.zero_add, Nat.reduceAdd] at hK ⊢; go_simp; with_reducible refine hK _ _ (RBx.below (Below.refl _ _) hS.be.size) (hS.step (Below.refl _ _) 0 _ (by decide) (fun e => absurd e (by decide))) ?_
      exact rfl
     ·as_aux_lemma =>
      intro vs L W hS hL cl hdl hdep K hK; refine ⟨?_⟩; simp only [Act.put, sA, sB, sC, Nat.zero_add, Nat.reduceAdd] at hK ⊢; go_simp; with_reducible refine hK _ _ (RBx.below (Below.refl _ _) hS.be.size) (hS.step (Below.refl _ _) 1 _ (by decide) (fun e => absurd e (by decide))) ?_
      exact rfl
     ·as_aux_lemma =>
      intro vs L W hS hL cl hdl hdep K hK; have d0 := hdep ⟨0, .data⟩ (by simp) rfl; simp only [PhiVd5] at d0; have d1 := hdep ⟨1, .data⟩ (by simp) rfl; simp only [PhiVd5] at d1; refine ⟨?_⟩; simp only [Act.put, sA, sB, sC, Nat.zero_add, Nat.reduceAdd, d0, d1] at hK ⊢; go_simp; with_reducible refine hK _ _ (RBx.below (Below.refl _ _) hS.be.size) (hS.step (Below.refl _ _) 2 _ (by decide) (fun e => absurd e (by decide))) ?_
      exact rfl
     ·as_aux_lemma =>
      intro vs L W hS hL cl hdl hdep K hK; have d0 := hdep ⟨2, .data⟩ (by simp) rfl; simp only [PhiVd5] at d0; refine ⟨?_⟩; simp only [Act.put, sA, sB, sC, Nat.zero_add, Nat.reduceAdd, d0] at hK ⊢; rw [if_pos (by rfl)]; refine wp_load_mid 33 (.tmp 40) (by rfl) b (off + i * 24) (by rfl) (cellsP p) _ (fun j v h => cell_keep hS.be (HCP.out j v h)) Tryz.underlying33 (by rfl) infoP ?_; simp only [Act.put, sA, sB, sC]; with_reducible refine hK _ _ (RBx.below (Below.refl _ _) hS.be.size) (hS.step (Below.refl _ _) 3 _ (by decide) (fun e => absurd e (by decide))) ?_
      exact rfl
     ·as_aux_lemma =>
      intro vs L W hS hL cl hdl hdep K hK; refine ⟨?_⟩; simp only [Act.put, sA, sB, sC, Nat.zero_add, Nat.reduceAdd] at hK ⊢; rw [if_pos (by rfl)]; refine wp_load_mid 31 (.tmp 8) (by rfl) gD (0) (by rfl) (cellsDG d) _ (range_keep hS.be HBD.out) Tryz.underlying31 (by rfl) (infoDGc (d := d)) ?_; simp only [Act.put, sA, sB, sC]; with_reducible refine hK _ _ (RBx.below (Below.refl _ _) hS.be.size) (hS.step (Below.refl _ _) 4 _ (by decide) (fun e => absurd e (by decide))) ?_
      exact rfl
     ·as_aux_lemma =>
      intro vs L W hS hL cl hdl hdep K hK; refine ⟨?_⟩; simp only [Act.put, sA, sB, sC, Nat.zero_add, Nat.reduceAdd] at hK ⊢; rw [if_pos (by rfl)]; refine wp_load_mid 56 (.tmp 9) (by rfl) gE (0) (by rfl) (cellsE n1 n2 n3) _ (range_keep hS.be HBE.out) Tryz.underlying56 (by rfl) infoE3 ?_; simp only [Act.put, sA, sB, sC]; with_reducible refine hK _ _ (RBx.below (Below.refl _ _) hS.be.size) (hS.step (Below.refl _ _) 5 _ (by decide) (fun e => absurd e (by decide))) ?_
      exact rfl
     ·as_aux_lemma =>
      intro vs L W hS hL cl hdl hdep K hK; have d0 := hdep ⟨3, .data⟩ (by simp) rfl; simp only [PhiVd5] at d0; have d1 := hdep ⟨4, .data⟩ (by simp) rfl; simp only [PhiVd5] at d1; have d2 := hdep ⟨5, .data⟩ (by simp) rfl; simp only [PhiVd5] at d2; refine ⟨?_⟩; simp only [Act.put, sA, sB, sC, Nat.zero_add, Nat.reduceAdd, d0, d1, d2] at hK ⊢; go_simp; refine (rclaim_n p (Lf i).1 (Lf i).2 d dm n1 n2 n3 E _ (HEP.out.1.below hS.be) HEP.out.2.1 HEP.out.2.2 HDM.out HPV).mono ?_; rintro e w' ⟨rfl, hb⟩; go_wp2_with fail; with_reducible refine hK _ _ (RBx.below hb hS.be.size) (hS.step hb 6 _ (by decide) (fun e => absurd e (by decide))) ?_
      exact rfl
     ·as_aux_lemma =>
      intro vs L W hS hL cl hdl hdep K hK; have d0 := hdep ⟨6, .data⟩ (by simp) rfl; simp only [PhiVd5] at d0; refine ⟨?_⟩; simp only [Act.put, sA, sB, sC, Nat.zero_add, Nat.reduceAdd, d0] at hK ⊢; go_simp; with_reducible refine hK _ _ (RBx.below (Below.refl _ _) hS.be.size) (hS.step (Below.refl _ _) 7 _ (by decide) (fun e => absurd e (by decide))) ?_
      exact rfl
     ·as_aux_lemma =>
      intro vs L W hS hL cl hdl hdep K hK; have d0 := hdep ⟨7, .data⟩ (by simp) rfl; simp only [PhiVd5] at d0; refine ⟨?_⟩; simp only [Act.put, sA, sB, sC, Nat.zero_add, Nat.reduceAdd, d0] at hK ⊢; go_simp; with_reducible refine hK _ _ (RBx.below (Below.refl _ _) hS.be.size) (hS.step (Below.refl _ _) 8 _ (by decide) (fun e => absurd e (by decide))) ?_
      exact rfl
     ·as_aux_lemma =>
      intro vs L W hS hL cl hdl hdep K hK; have d0 := hdep ⟨7, .data⟩ (by simp) rfl; simp only [PhiVd5] at d0; refine ⟨?_⟩; simp only [Act.put, sA, sB, sC, Nat.zero_add, Nat.reduceAdd, d0] at hK ⊢; go_simp; with_reducible refine hK _ _ (RBx.below (Below.refl _ _) hS.be.size) (hS.step (Below.refl _ _) 9 _ (by decide) (fun e => absurd e (by decide))) ?_
      exact rfl
     ·as_aux_lemma =>
      intro vs L W hS hL cl hdl hdep K hK
      have h11 : L 11 = false := by
       cases h : L 11 with
       | false => rfl
       | true => exact absurd (cl 11 _ rfl h ⟨10, .data⟩ (by simp) rfl) (by rw [hL]; decide)
      refine ⟨?_⟩; simp only [Act.put, sA, sB, sC, Nat.zero_add, Nat.reduceAdd] at hK ⊢; go_simp; with_reducible refine hK _ _ (RBx.below (bA _ _) hS.be.size) (hS.step (bA _ _) 10 _ (by decide) (fun _ => h11)) ?_
      exact ⟨_, rfl, hS.be.size, _, Blk.new _ _ _, rfl⟩
     ·as_aux_lemma =>
      intro vs L W hS hL cl hdl hdep K hK; have d0 := hdep ⟨10, .data⟩ (by simp) rfl; simp only [PhiVd5] at d0; refine @exE1 _ _ _ d0 ?_; clear d0; intro g0 d0; have e0 := d0.1; have l0 := d0.2.1; have s0 := d0.2.2; clear d0; have d1 := hdep ⟨8, .data⟩ (by simp) rfl; simp only [PhiVd5] at d1; have d1e := d1; obtain ⟨arr, hB, hsz⟩ := s0; refine ⟨?_⟩; simp only [Act.put, sA, sB, sC, Nat.zero_add, Nat.reduceAdd, e0, d1] at hK ⊢; rw [if_pos (by rfl)]; refine wp_store_mid 58 (.tmp 15) (.tmp 45) (by rfl) g0 0 ((clC E p d n1 n2 n3).toArray) (by rfl) (by rfl) (Blk.there hB (hsz.trans (clC_size ..).symm)) (infoCl E) HON.out ?_; simp only [Act.put, sA, sB, sC]; with_reducible refine hK undef _ (RBx.store l0 _ (clC_size ..)) (hS.stored e0 l0 (ShBx.mk' hB (hsz.trans (clC_size ..).symm)) (by decide) _) ?_
      exact trivial
     ·as_aux_lemma =>
      intro vs L W hS hL cl hdl hdep K hK; have d0 := hdep ⟨9, .data⟩ (by simp) rfl; simp only [PhiVd5] at d0; refine ⟨?_⟩; simp only [Act.put, sA, sB, sC, Nat.zero_add, Nat.reduceAdd, d0] at hK ⊢; go_simp; with_reducible refine hK _ _ (RBx.below (Below.refl _ _) hS.be.size) (hS.step (Below.refl _ _) 12 _ (by decide) (fun e => absurd e (by decide))) ?_
      exact rfl
    ·intro vs L w6 hS hall hv; have v12 := hv 12 (by simp); simp only [PhiVd5] at v12; obtain ⟨g, e10, hgN, hblk⟩ := hS.st (hall 11 (by simp)); have hbe6 := hS.be; clear hv hS hall; simp only [Act.put, sA, sB, sC, Nat.zero_add, Nat.reduceAdd, v12, e10]; have HBX := Blk.below BX hbe6 BX.lt; have HBY := hblk; obtain ⟨gY, hgY⟩ : ∃ g', Hid (g' = g) := ⟨_, rfl⟩; rw [← hgY.out] at HBY ⊢; have hbe := Below.tr hbe hbe6; have HCP : Hid (∀ j v, (cellsP p)[j]? = some v → w6.cell? ⟨b, off + i * 24 + j, none⟩ = some v) := fun j v h => cell_keep hbe6 (HCP.out j v h)
     have HEP : Hid (RtL w6 (.agg #[p.b1, p.b2]) (Lf i).1 (Lf i).2 ∧ p.test.size ≤ 9223372036854775807 ∧ p.wh.size ≤ 9223372036854775807) := ⟨HEP.out.1.below hbe6, HEP.out.2⟩; have HBX : Hid (∀ j v, (clC E p d n1 n2 n3)[j]? = some v → w6.cell? ⟨gX, 0 + j, none⟩ = some v) := fun j v h => by rw [Nat.zero_add, HBX.cell]; simpa using h
     have HBY : Hid (∀ j v, (clC E p d n1 n2 n3)[j]? = some v → w6.cell? ⟨gY, 0 + j, none⟩ = some v) := fun j v h => by rw [Nat.zero_add, HBY.cell]; simpa using h
     have hs2 : IntKind.i64.wrap ((i : Int) + 2) = (i : Int) + 2 := by rw [IntWalk.i64_in _ (by omega)]
     clear hblk hbe6 e10 v12 hgN hgY BX HBD HBE HON; go_upto_region 7 with fail; by_cases hl2 : i + 2 < k
     ·have hlt : decide ((i : Int) + 2 < (k : Int)) = true := by simp; omega
      have hE1 : E = 0 := by rw [← HE.out]; exact HEV.out i hl2
      have hE0 : (E != 0) = false := by simpa using hE1
      clear hl2 hE1; refine region_invF (PhiVd7A (some ⟨b, off, none⟩) k c b off i p d n1 n2 n3 E) (fun w w' => Below w.heap.size w w') (fun X => Below w6.heap.size w6 X) (by kernel_rfl) (by kernel_rfl) (by kernel_rfl) PhiVd7A.keep (fun _ _ hR hS => Below.tr hS hR) (bD _) (fun vs => by simp only [fillR, Act.put, sA, sB, sC, Nat.zero_add, Nat.reduceAdd]; rfl) ?_ ?_
      ·refine sK ?_ (sK ?_ (sK ?_ (sK ?_ (sK ?_ (sK ?_ (sK ?_ (sK ?_ (sK ?_ (sK ?_ (sK ?_ (sK ?_ (sK ?_ (sK ?_ (sK ?_ (sK ?_ (sK ?_ (sK ?_ (sK ?_ (sK ?_ (sK ?_ (sK ?_ (sK ?_ (sK ?_ (sK ?_ (sK ?_ (sK ?_ (sK ?_ (sK ?_ (sK ?_ (sK ?_ (sK ?_ (sK ?_ (sK ?_ (sK ?_ (sK ?_ (sK ?_ (sZ)))))))))))))))))))))))))))))))))))))
       ·as_aux_lemma =>
        intro vs W hS hdep K hK; refine ⟨?_⟩; simp only [Act.put, sA, sB, sC, Nat.zero_add, Nat.reduceAdd] at hK ⊢; go_simp; with_reducible refine hK _ _ (Below.refl _ _) ?_
        exact rfl
       ·as_aux_lemma =>
        intro vs W hS hdep K hK; refine ⟨?_⟩; simp only [Act.put, sA, sB, sC, Nat.zero_add, Nat.reduceAdd] at hK ⊢; go_simp; with_reducible refine hK _ _ (Below.refl _ _) ?_
        exact rfl
       ·as_aux_lemma =>
        intro vs W hS hdep K hK; have d0 := hdep ⟨0, .data⟩ (by simp) rfl; simp only [PhiVd7A] at d0; have d1 := hdep ⟨1, .data⟩ (by simp) rfl; simp only [PhiVd7A] at d1; refine ⟨?_⟩; simp only [Act.put, sA, sB, sC, Nat.zero_add, Nat.reduceAdd, d0, d1] at hK ⊢; go_simp; with_reducible refine hK _ _ (Below.refl _ _) ?_
        exact rfl
       ·as_aux_lemma =>
        intro vs W hS hdep K hK; have d0 := hdep ⟨2, .data⟩ (by simp) rfl; simp only [PhiVd7A] at d0; refine ⟨?_⟩; simp only [Act.put, sA, sB, sC, Nat.zero_add, Nat.reduceAdd, d0] at hK ⊢; rw [if_pos (by rfl)]; refine wp_load_mid 33 (.tmp 49) (by rfl) b (off + i * 24) (by rfl) (cellsP p) _ (fun j v h => cell_keep hS (HCP.out j v h)) Tryz.underlying33 (by rfl) infoP ?_; simp only [Act.put, sA, sB, sC]; with_reducible refine hK _ _ (Below.refl _ _) ?_
        exact rfl
       ·as_aux_lemma =>
        intro vs W hS hdep K hK; have d0 := hdep ⟨3, .data⟩ (by simp) rfl; simp only [PhiVd7A] at d0; refine ⟨?_⟩; simp only [Act.put, sA, sB, sC, Nat.zero_add, Nat.reduceAdd, d0] at hK ⊢; go_simp; refine (pvalid_n p (Lf i).1 (Lf i).2 _ (HEP.out.1.below hS) HEP.out.2.1 HEP.out.2.2).mono ?_; rintro e w' ⟨E', rfl, HX, hb⟩; obtain rfl : E' = E := HX.out.uniq HPV.out; go_wp2_with fail; with_reducible refine hK _ _ hb ?_
        exact rfl
       ·as_aux_lemma =>
        intro vs W hS hdep K hK; refine ⟨?_⟩; simp only [Act.put, sA, sB, sC, Nat.zero_add, Nat.reduceAdd] at hK ⊢; go_simp; with_reducible refine hK _ _ (Below.refl _ _) ?_
        exact rfl
       ·as_aux_lemma =>
        intro vs W hS hdep K hK; refine ⟨?_⟩; simp only [Act.put, sA, sB, sC, Nat.zero_add, Nat.reduceAdd] at hK ⊢; go_simp; with_reducible refine hK _ _ (Below.refl _ _) ?_
        exact rfl
       ·as_aux_lemma =>
        intro vs W hS hdep K hK; have d0 := hdep ⟨5, .data⟩ (by simp) rfl; simp only [PhiVd7A] at d0; have d1 := hdep ⟨6, .data⟩ (by simp) rfl; simp only [PhiVd7A] at d1; refine ⟨?_⟩; simp only [Act.put, sA, sB, sC, Nat.zero_add, Nat.reduceAdd, d0, d1] at hK ⊢; go_simp; with_reducible refine hK _ _ (Below.refl _ _) ?_
        exact rfl
       ·as_aux_lemma =>
        intro vs W hS hdep K hK; have d0 := hdep ⟨7, .data⟩ (by simp) rfl; simp only [PhiVd7A] at d0; refine ⟨?_⟩; simp only [Act.put, sA, sB, sC, Nat.zero_add, Nat.reduceAdd, d0] at hK ⊢; rw [if_pos (by rfl)]; refine wp_load_mid 33 (.tmp 54) (by rfl) b (off + i * 24) (by rfl) (cellsP p) _ (fun j v h => cell_keep hS (HCP.out j v h)) Tryz.underlying33 (by rfl) infoP ?_; simp only [Act.put, sA, sB, sC]; with_reducible refine hK _ _ (Below.refl _ _) ?_
        exact rfl
       ·as_aux_lemma =>
        intro vs W hS hdep K hK; have d0 := hdep ⟨8, .data⟩ (by simp) rfl; simp only [PhiVd7A] at d0; refine ⟨?_⟩; simp only [Act.put, sA, sB, sC, Nat.zero_add, Nat.reduceAdd, d0] at hK ⊢; go_simp; refine (rpval_n p (Lf i).1 (Lf i).2 _ (HEP.out.1.below hS) HEP.out.2.1 HEP.out.2.2).mono ?_; rintro e w' ⟨E', rfl, HX, hb⟩; obtain rfl : E' = E := HX.out.uniq HPV.out; go_wp2_with fail; with_reducible refine hK _ _ hb ?_
        exact rfl
       ·as_aux_lemma =>
        intro vs W hS hdep K hK; have d0 := hdep ⟨4, .data⟩ (by simp) rfl; simp only [PhiVd7A] at d0; have d1 := hdep ⟨9, .data⟩ (by simp) rfl; simp only [PhiVd7A] at d1; have t9 : (E != E) = false := by simp
        refine ⟨?_⟩; simp only [Act.put, sA, sB, sC, Nat.zero_add, Nat.reduceAdd, d0, d1] at hK ⊢; go_simp; with_reducible refine hK _ _ (Below.refl _ _) ?_
        exact rfl
       ·as_aux_lemma =>
        intro vs W hS hdep K hK; have d0 := hdep ⟨10, .data⟩ (by simp) rfl; simp only [PhiVd7A] at d0; refine ⟨?_⟩; simp only [Act.put, sA, sB, sC, Nat.zero_add, Nat.reduceAdd, d0] at hK ⊢; go_simp; with_reducible refine hK _ _ (Below.refl _ _) ?_
        exact rfl
       ·as_aux_lemma =>
        intro vs W hS hdep K hK; have d0 := hdep ⟨11, .guard⟩ (by simp) rfl; simp only [PhiVd7A] at d0; refine ⟨?_⟩; simp only [Act.put, sA, sB, sC, Nat.zero_add, Nat.reduceAdd, d0] at hK ⊢; go_simp; with_reducible refine hK _ _ (Below.refl _ _) ?_
        exact rfl
       ·as_aux_lemma =>
        intro vs W hS hdep K hK; have d0 := hdep ⟨11, .guard⟩ (by simp) rfl; simp only [PhiVd7A] at d0; refine ⟨?_⟩; simp only [Act.put, sA, sB, sC, Nat.zero_add, Nat.reduceAdd, d0] at hK ⊢; go_simp; with_reducible refine hK _ _ (Below.refl _ _) ?_
        exact rfl
       ·as_aux_lemma =>
        intro vs W hS hdep K hK; have d0 := hdep ⟨12, .data⟩ (by simp) rfl; simp only [PhiVd7A] at d0; have d1 := hdep ⟨13, .data⟩ (by simp) rfl; simp only [PhiVd7A] at d1; have d2 := hdep ⟨11, .guard⟩ (by simp) rfl; simp only [PhiVd7A] at d2; have t9 : (E != E) = false := by simp
        refine ⟨?_⟩; simp only [Act.put, sA, sB, sC, Nat.zero_add, Nat.reduceAdd, d0, d1, d2] at hK ⊢; go_simp; with_reducible refine hK _ _ (Below.refl _ _) ?_
        exact rfl
       ·as_aux_lemma =>
        intro vs W hS hdep K hK; have d0 := hdep ⟨11, .data⟩ (by simp) rfl; simp only [PhiVd7A] at d0; have d1 := hdep ⟨14, .data⟩ (by simp) rfl; simp only [PhiVd7A] at d1; refine ⟨?_⟩; simp only [Act.put, sA, sB, sC, Nat.zero_add, Nat.reduceAdd, d0, d1] at hK ⊢; go_simp; with_reducible refine hK _ _ (Below.refl _ _) ?_
        exact rfl
       ·as_aux_lemma =>
        intro vs W hS hdep K hK; have d0 := hdep ⟨15, .data⟩ (by simp) rfl; simp only [PhiVd7A] at d0; refine ⟨?_⟩; simp only [Act.put, sA, sB, sC, Nat.zero_add, Nat.reduceAdd, d0] at hK ⊢; go_simp; with_reducible refine hK _ _ (Below.refl _ _) ?_
        exact rfl
       ·as_aux_lemma =>
        intro vs W hS hdep K hK; have d0 := hdep ⟨16, .guard⟩ (by simp) rfl; simp only [PhiVd7A] at d0; refine ⟨?_⟩; simp only [Act.put, sA, sB, sC, Nat.zero_add, Nat.reduceAdd, d0] at hK ⊢; rw [if_pos (by rfl)]; refine wp_load_mid 58 (.tmp 13) (by rfl) gX (0) (by rfl) (clC E p d n1 n2 n3) _ (range_keep hS HBX.out) Tryz.underlying58 (by rfl) (infoClL E) ?_; simp only [Act.put, sA, sB, sC]; with_reducible refine hK _ _ (Below.refl _ _) ?_
        exact rfl
       ·as_aux_lemma =>
        intro vs W hS hdep K hK; have d0 := hdep ⟨16, .guard⟩ (by simp) rfl; simp only [PhiVd7A] at d0; refine ⟨?_⟩; simp only [Act.put, sA, sB, sC, Nat.zero_add, Nat.reduceAdd, d0] at hK ⊢; rw [if_pos (by rfl)]; refine wp_load_mid 58 (.tmp 15) (by rfl) gY (0) (by rfl) (clC E p d n1 n2 n3) _ (range_keep hS HBY.out) Tryz.underlying58 (by rfl) (infoClL E) ?_; simp only [Act.put, sA, sB, sC]; with_reducible refine hK _ _ (Below.refl _ _) ?_
        exact rfl
       ·as_aux_lemma =>
        intro vs W hS hdep K hK; have d0 := hdep ⟨17, .data⟩ (by simp) rfl; simp only [PhiVd7A] at d0; have d1 := hdep ⟨18, .data⟩ (by simp) rfl; simp only [PhiVd7A] at d1; have d2 := hdep ⟨16, .guard⟩ (by simp) rfl; simp only [PhiVd7A] at d2; refine ⟨?_⟩; simp only [Act.put, sA, sB, sC, Nat.zero_add, Nat.reduceAdd, d0, d1, d2] at hK ⊢; go_simp; refine (sclaim_c p (Lf i).1 (Lf i).2 d dm n1 n2 n3 E _ (HEP.out.1.below hS) HDM.out).mono ?_; rintro e w' ⟨rfl, hb⟩; go_wp2_with fail; with_reducible refine hK _ _ hb ?_
        exact rfl
       ·as_aux_lemma =>
        intro vs W hS hdep K hK; have d0 := hdep ⟨19, .data⟩ (by simp) rfl; simp only [PhiVd7A] at d0; have d1 := hdep ⟨16, .guard⟩ (by simp) rfl; simp only [PhiVd7A] at d1; refine ⟨?_⟩; simp only [Act.put, sA, sB, sC, Nat.zero_add, Nat.reduceAdd, d0, d1] at hK ⊢; go_simp; with_reducible refine hK _ _ (Below.refl _ _) ?_
        exact rfl
       ·as_aux_lemma =>
        intro vs W hS hdep K hK; have d0 := hdep ⟨16, .data⟩ (by simp) rfl; simp only [PhiVd7A] at d0; have d1 := hdep ⟨20, .data⟩ (by simp) rfl; simp only [PhiVd7A] at d1; refine ⟨?_⟩; simp only [Act.put, sA, sB, sC, Nat.zero_add, Nat.reduceAdd, d0, d1] at hK ⊢; go_simp; with_reducible refine hK _ _ (Below.refl _ _) ?_
        exact rfl
       ·as_aux_lemma =>
        intro vs W hS hdep K hK; have d0 := hdep ⟨21, .data⟩ (by simp) rfl; simp only [PhiVd7A] at d0; refine ⟨?_⟩; simp only [Act.put, sA, sB, sC, Nat.zero_add, Nat.reduceAdd, d0] at hK ⊢; go_simp; with_reducible refine hK _ _ (Below.refl _ _) ?_
        exact rfl
       ·as_aux_lemma =>
        intro vs W hS hdep K hK; have d0 := hdep ⟨22, .guard⟩ (by simp) rfl; simp only [PhiVd7A] at d0; refine ⟨?_⟩; simp only [Act.put, sA, sB, sC, Nat.zero_add, Nat.reduceAdd, d0] at hK ⊢; go_simp; with_reducible refine hK _ _ (Below.refl _ _) ?_
        exact rfl
       ·as_aux_lemma =>
        intro vs W hS hdep K hK; have d0 := hdep ⟨23, .data⟩ (by simp) rfl; simp only [PhiVd7A] at d0; have d1 := hdep ⟨22, .guard⟩ (by simp) rfl; simp only [PhiVd7A] at d1; have s9 := hs2; refine ⟨?_⟩; simp only [Act.put, sA, sB, sC, Nat.zero_add, Nat.reduceAdd, d0, d1] at hK ⊢; go_simp; with_reducible refine hK _ _ (Below.refl _ _) ?_
        exact rfl
       ·as_aux_lemma =>
        intro vs W hS hdep K hK; have d0 := hdep ⟨22, .guard⟩ (by simp) rfl; simp only [PhiVd7A] at d0; refine ⟨?_⟩; simp only [Act.put, sA, sB, sC, Nat.zero_add, Nat.reduceAdd, d0] at hK ⊢; go_simp; with_reducible refine hK _ _ (Below.refl _ _) ?_
        exact rfl
       ·as_aux_lemma =>
        intro vs W hS hdep K hK; have d0 := hdep ⟨25, .data⟩ (by simp) rfl; simp only [PhiVd7A] at d0; have d1 := hdep ⟨22, .guard⟩ (by simp) rfl; simp only [PhiVd7A] at d1; refine ⟨?_⟩; simp only [Act.put, sA, sB, sC, Nat.zero_add, Nat.reduceAdd, d0, d1] at hK ⊢; go_simp; with_reducible refine hK _ _ (Below.refl _ _) ?_
        exact rfl
       ·as_aux_lemma =>
        intro vs W hS hdep K hK; have d0 := hdep ⟨24, .data⟩ (by simp) rfl; simp only [PhiVd7A] at d0; have d1 := hdep ⟨26, .data⟩ (by simp) rfl; simp only [PhiVd7A] at d1; have d2 := hdep ⟨22, .guard⟩ (by simp) rfl; simp only [PhiVd7A] at d2; have s9 := hlt; refine ⟨?_⟩; simp only [Act.put, sA, sB, sC, Nat.zero_add, Nat.reduceAdd, d0, d1, d2] at hK ⊢; go_simp; with_reducible refine hK _ _ (Below.refl _ _) ?_
        exact rfl
       ·as_aux_lemma =>
        intro vs W hS hdep K hK; have d0 := hdep ⟨27, .data⟩ (by simp) rfl; simp only [PhiVd7A] at d0; have d1 := hdep ⟨22, .guard⟩ (by simp) rfl; simp only [PhiVd7A] at d1; refine ⟨?_⟩; simp only [Act.put, sA, sB, sC, Nat.zero_add, Nat.reduceAdd, d0, d1] at hK ⊢; go_simp; with_reducible refine hK _ _ (Below.refl _ _) ?_
        exact rfl
       ·as_aux_lemma =>
        intro vs W hS hdep K hK; have d0 := hdep ⟨28, .guard⟩ (by simp) rfl; simp only [PhiVd7A] at d0; refine ⟨?_⟩; simp only [Act.put, sA, sB, sC, Nat.zero_add, Nat.reduceAdd, d0] at hK ⊢; go_simp; with_reducible refine hK _ _ (Below.refl _ _) ?_
        exact rfl
       ·as_aux_lemma =>
        intro vs W hS hdep K hK; have d0 := hdep ⟨28, .guard⟩ (by simp) rfl; simp only [PhiVd7A] at d0; refine ⟨?_⟩; simp only [Act.put, sA, sB, sC, Nat.zero_add, Nat.reduceAdd, d0] at hK ⊢; go_simp; with_reducible refine hK _ _ (Below.refl _ _) ?_
        exact rfl
       ·as_aux_lemma =>
        intro vs W hS hdep K hK; have d0 := hdep ⟨29, .data⟩ (by simp) rfl; simp only [PhiVd7A] at d0; have d1 := hdep ⟨30, .data⟩ (by simp) rfl; simp only [PhiVd7A] at d1; have d2 := hdep ⟨28, .guard⟩ (by simp) rfl; simp only [PhiVd7A] at d2; refine ⟨?_⟩; simp only [Act.put, sA, sB, sC, Nat.zero_add, Nat.reduceAdd, d0, d1, d2] at hK ⊢; go_simp; with_reducible refine hK _ _ (Below.refl _ _) ?_
        exact rfl
       ·as_aux_lemma =>
        intro vs W hS hdep K hK; have d0 := hdep ⟨31, .data⟩ (by simp) rfl; simp only [PhiVd7A] at d0; have d1 := hdep ⟨28, .guard⟩ (by simp) rfl; simp only [PhiVd7A] at d1; refine ⟨?_⟩; simp only [Act.put, sA, sB, sC, Nat.zero_add, Nat.reduceAdd, d0, d1] at hK ⊢; rw [if_pos (by rfl)]; refine wp_load_mid 33 (.tmp 78) (by rfl) b (off + i * 24) (by rfl) (cellsP p) _ (fun j v h => cell_keep hS (HCP.out j v h)) Tryz.underlying33 (by rfl) infoP ?_; simp only [Act.put, sA, sB, sC]; with_reducible refine hK _ _ (Below.refl _ _) ?_
        exact rfl
       ·as_aux_lemma =>
        intro vs W hS hdep K hK; have d0 := hdep ⟨32, .data⟩ (by simp) rfl; simp only [PhiVd7A] at d0; have d1 := hdep ⟨28, .guard⟩ (by simp) rfl; simp only [PhiVd7A] at d1; refine ⟨?_⟩; simp only [Act.put, sA, sB, sC, Nat.zero_add, Nat.reduceAdd, d0, d1] at hK ⊢; go_simp; refine (pvalid_n p (Lf i).1 (Lf i).2 _ (HEP.out.1.below hS) HEP.out.2.1 HEP.out.2.2).mono ?_; rintro e w' ⟨E', rfl, HX, hb⟩; obtain rfl : E' = E := HX.out.uniq HPV.out; go_wp2_with fail; with_reducible refine hK _ _ hb ?_
        exact rfl
       ·as_aux_lemma =>
        intro vs W hS hdep K hK; have d0 := hdep ⟨33, .data⟩ (by simp) rfl; simp only [PhiVd7A] at d0; have d1 := hdep ⟨28, .guard⟩ (by simp) rfl; simp only [PhiVd7A] at d1; have t9 := hE0; refine ⟨?_⟩; simp only [Act.put, sA, sB, sC, Nat.zero_add, Nat.reduceAdd, d0, d1] at hK ⊢; go_simp; with_reducible refine hK _ _ (Below.refl _ _) ?_
        exact rfl
       ·as_aux_lemma =>
        intro vs W hS hdep K hK; have d0 := hdep ⟨28, .data⟩ (by simp) rfl; simp only [PhiVd7A] at d0; have d1 := hdep ⟨34, .data⟩ (by simp) rfl; simp only [PhiVd7A] at d1; have d2 := hdep ⟨22, .guard⟩ (by simp) rfl; simp only [PhiVd7A] at d2; refine ⟨?_⟩; simp only [Act.put, sA, sB, sC, Nat.zero_add, Nat.reduceAdd, d0, d1, d2] at hK ⊢; go_simp; with_reducible refine hK _ _ (Below.refl _ _) ?_
        exact rfl
       ·as_aux_lemma =>
        intro vs W hS hdep K hK; have d0 := hdep ⟨22, .data⟩ (by simp) rfl; simp only [PhiVd7A] at d0; have d1 := hdep ⟨35, .data⟩ (by simp) rfl; simp only [PhiVd7A] at d1; refine ⟨?_⟩; simp only [Act.put, sA, sB, sC, Nat.zero_add, Nat.reduceAdd, d0, d1] at hK ⊢; go_simp; with_reducible refine hK _ _ (Below.refl _ _) ?_
        exact rfl
      ·intro vs w7 hS hv; have v36 := hv 36 (by simp); simp only [PhiVd7A] at v36; simp only [Act.put, sA, sB, sC, Nat.zero_add, Nat.reduceAdd, v36]; have hbe := Below.tr hbe hS; clear v36 hv hS HBX HBY HCP HEP; go_wp2_with fail
       go_roundg (G - 1)
       case measure => omega
       case rel => exact ⟨i + 1, by go_num, by omega, hbe⟩
     ·have hlt : decide ((i : Int) + 2 < (k : Int)) = false := by simp; omega
      clear hl2; refine region_invF (PhiVd7B (some ⟨b, off, none⟩) k c b off i p d n1 n2 n3 E) (fun w w' => Below w.heap.size w w') (fun X => Below w6.heap.size w6 X) (by kernel_rfl) (by kernel_rfl) (by kernel_rfl) PhiVd7B.keep (fun _ _ hR hS => Below.tr hS hR) (bD _) (fun vs => by simp only [fillR, Act.put, sA, sB, sC, Nat.zero_add, Nat.reduceAdd]; rfl) ?_ ?_
      ·refine sK ?_ (sK ?_ (sK ?_ (sK ?_ (sK ?_ (sK ?_ (sK ?_ (sK ?_ (sK ?_ (sK ?_ (sK ?_ (sK ?_ (sK ?_ (sK ?_ (sK ?_ (sK ?_ (sK ?_ (sK ?_ (sK ?_ (sK ?_ (sK ?_ (sK ?_ (sK ?_ (sK ?_ (sK ?_ (sK ?_ (sK ?_ (sK ?_ (sK ?_ (sK ?_ (sK ?_ (sK ?_ (sK ?_ (sK ?_ (sK ?_ (sK ?_ (sK ?_ (sZ)))))))))))))))))))))))))))))))))))))
       ·as_aux_lemma =>
        intro vs W hS hdep K hK; refine ⟨?_⟩; simp only [Act.put, sA, sB, sC, Nat.zero_add, Nat.reduceAdd] at hK ⊢; go_simp; with_reducible refine hK _ _ (Below.refl _ _) ?_
        exact rfl
       ·as_aux_lemma =>
        intro vs W hS hdep K hK; refine ⟨?_⟩; simp only [Act.put, sA, sB, sC, Nat.zero_add, Nat.reduceAdd] at hK ⊢; go_simp; with_reducible refine hK _ _ (Below.refl _ _) ?_
        exact rfl
       ·as_aux_lemma =>
        intro vs W hS hdep K hK; have d0 := hdep ⟨0, .data⟩ (by simp) rfl; simp only [PhiVd7B] at d0; have d1 := hdep ⟨1, .data⟩ (by simp) rfl; simp only [PhiVd7B] at d1; refine ⟨?_⟩; simp only [Act.put, sA, sB, sC, Nat.zero_add, Nat.reduceAdd, d0, d1] at hK ⊢; go_simp; with_reducible refine hK _ _ (Below.refl _ _) ?_
        exact rfl
       ·as_aux_lemma =>
        intro vs W hS hdep K hK; have d0 := hdep ⟨2, .data⟩ (by simp) rfl; simp only [PhiVd7B] at d0; refine ⟨?_⟩; simp only [Act.put, sA, sB, sC, Nat.zero_add, Nat.reduceAdd, d0] at hK ⊢; rw [if_pos (by rfl)]; refine wp_load_mid 33 (.tmp 49) (by rfl) b (off + i * 24) (by rfl) (cellsP p) _ (fun j v h => cell_keep hS (HCP.out j v h)) Tryz.underlying33 (by rfl) infoP ?_; simp only [Act.put, sA, sB, sC]; with_reducible refine hK _ _ (Below.refl _ _) ?_
        exact rfl
       ·as_aux_lemma =>
        intro vs W hS hdep K hK; have d0 := hdep ⟨3, .data⟩ (by simp) rfl; simp only [PhiVd7B] at d0; refine ⟨?_⟩; simp only [Act.put, sA, sB, sC, Nat.zero_add, Nat.reduceAdd, d0] at hK ⊢; go_simp; refine (pvalid_n p (Lf i).1 (Lf i).2 _ (HEP.out.1.below hS) HEP.out.2.1 HEP.out.2.2).mono ?_; rintro e w' ⟨E', rfl, HX, hb⟩; obtain rfl : E' = E := HX.out.uniq HPV.out; go_wp2_with fail; with_reducible refine hK _ _ hb ?_
        exact rfl
       ·as_aux_lemma =>
        intro vs W hS hdep K hK; refine ⟨?_⟩; simp only [Act.put, sA, sB, sC, Nat.zero_add, Nat.reduceAdd] at hK ⊢; go_simp; with_reducible refine hK _ _ (Below.refl _ _) ?_
        exact rfl
       ·as_aux_lemma =>
        intro vs W hS hdep K hK; refine ⟨?_⟩; simp only [Act.put, sA, sB, sC, Nat.zero_add, Nat.reduceAdd] at hK ⊢; go_simp; with_reducible refine hK _ _ (Below.refl _ _) ?_
        exact rfl
       ·as_aux_lemma =>
        intro vs W hS hdep K hK; have d0 := hdep ⟨5, .data⟩ (by simp) rfl; simp only [PhiVd7B] at d0; have d1 := hdep ⟨6, .data⟩ (by simp) rfl; simp only [PhiVd7B] at d1; refine ⟨?_⟩; simp only [Act.put, sA, sB, sC, Nat.zero_add, Nat.reduceAdd, d0, d1] at hK ⊢; go_simp; with_reducible refine hK _ _ (Below.refl _ _) ?_
        exact rfl
       ·as_aux_lemma =>
        intro vs W hS hdep K hK; have d0 := hdep ⟨7, .data⟩ (by simp) rfl; simp only [PhiVd7B] at d0; refine ⟨?_⟩; simp only [Act.put, sA, sB, sC, Nat.zero_add, Nat.reduceAdd, d0] at hK ⊢; rw [if_pos (by rfl)]; refine wp_load_mid 33 (.tmp 54) (by rfl) b (off + i * 24) (by rfl) (cellsP p) _ (fun j v h => cell_keep hS (HCP.out j v h)) Tryz.underlying33 (by rfl) infoP ?_; simp only [Act.put, sA, sB, sC]; with_reducible refine hK _ _ (Below.refl _ _) ?_
        exact rfl
       ·as_aux_lemma =>
        intro vs W hS hdep K hK; have d0 := hdep ⟨8, .data⟩ (by simp) rfl; simp only [PhiVd7B] at d0; refine ⟨?_⟩; simp only [Act.put, sA, sB, sC, Nat.zero_add, Nat.reduceAdd, d0] at hK ⊢; go_simp; refine (rpval_n p (Lf i).1 (Lf i).2 _ (HEP.out.1.below hS) HEP.out.2.1 HEP.out.2.2).mono ?_; rintro e w' ⟨E', rfl, HX, hb⟩; obtain rfl : E' = E := HX.out.uniq HPV.out; go_wp2_with fail; with_reducible refine hK _ _ hb ?_
        exact rfl
       ·as_aux_lemma =>
        intro vs W hS hdep K hK; have d0 := hdep ⟨4, .data⟩ (by simp) rfl; simp only [PhiVd7B] at d0; have d1 := hdep ⟨9, .data⟩ (by simp) rfl; simp only [PhiVd7B] at d1; have t9 : (E != E) = false := by simp
        refine ⟨?_⟩; simp only [Act.put, sA, sB, sC, Nat.zero_add, Nat.reduceAdd, d0, d1] at hK ⊢; go_simp; with_reducible refine hK _ _ (Below.refl _ _) ?_
        exact rfl
       ·as_aux_lemma =>
        intro vs W hS hdep K hK; have d0 := hdep ⟨10, .data⟩ (by simp) rfl; simp only [PhiVd7B] at d0; refine ⟨?_⟩; simp only [Act.put, sA, sB, sC, Nat.zero_add, Nat.reduceAdd, d0] at hK ⊢; go_simp; with_reducible refine hK _ _ (Below.refl _ _) ?_
        exact rfl
       ·as_aux_lemma =>
        intro vs W hS hdep K hK; have d0 := hdep ⟨11, .guard⟩ (by simp) rfl; simp only [PhiVd7B] at d0; refine ⟨?_⟩; simp only [Act.put, sA, sB, sC, Nat.zero_add, Nat.reduceAdd, d0] at hK ⊢; go_simp; with_reducible refine hK _ _ (Below.refl _ _) ?_
        exact rfl
       ·as_aux_lemma =>
        intro vs W hS hdep K hK; have d0 := hdep ⟨11, .guard⟩ (by simp) rfl; simp only [PhiVd7B] at d0; refine ⟨?_⟩; simp only [Act.put, sA, sB, sC, Nat.zero_add, Nat.reduceAdd, d0] at hK ⊢; go_simp; with_reducible refine hK _ _ (Below.refl _ _) ?_
        exact rfl
       ·as_aux_lemma =>
        intro vs W hS hdep K hK; have d0 := hdep ⟨12, .data⟩ (by simp) rfl; simp only [PhiVd7B] at d0; have d1 := hdep ⟨13, .data⟩ (by simp) rfl; simp only [PhiVd7B] at d1; have d2 := hdep ⟨11, .guard⟩ (by simp) rfl; simp only [PhiVd7B] at d2; have t9 : (E != E) = false := by simp
        refine ⟨?_⟩; simp only [Act.put, sA, sB, sC, Nat.zero_add, Nat.reduceAdd, d0, d1, d2] at hK ⊢; go_simp; with_reducible refine hK _ _ (Below.refl _ _) ?_
        exact rfl
       ·as_aux_lemma =>
        intro vs W hS hdep K hK; have d0 := hdep ⟨11, .data⟩ (by simp) rfl; simp only [PhiVd7B] at d0; have d1 := hdep ⟨14, .data⟩ (by simp) rfl; simp only [PhiVd7B] at d1; refine ⟨?_⟩; simp only [Act.put, sA, sB, sC, Nat.zero_add, Nat.reduceAdd, d0, d1] at hK ⊢; go_simp; with_reducible refine hK _ _ (Below.refl _ _) ?_
        exact rfl
       ·as_aux_lemma =>
        intro vs W hS hdep K hK; have d0 := hdep ⟨15, .data⟩ (by simp) rfl; simp only [PhiVd7B] at d0; refine ⟨?_⟩; simp only [Act.put, sA, sB, sC, Nat.zero_add, Nat.reduceAdd, d0] at hK ⊢; go_simp; with_reducible refine hK _ _ (Below.refl _ _) ?_
        exact rfl
       ·as_aux_lemma =>
        intro vs W hS hdep K hK; have d0 := hdep ⟨16, .guard⟩ (by simp) rfl; simp only [PhiVd7B] at d0; refine ⟨?_⟩; simp only [Act.put, sA, sB, sC, Nat.zero_add, Nat.reduceAdd, d0] at hK ⊢; rw [if_pos (by rfl)]; refine wp_load_mid 58 (.tmp 13) (by rfl) gX (0) (by rfl) (clC E p d n1 n2 n3) _ (range_keep hS HBX.out) Tryz.underlying58 (by rfl) (infoClL E) ?_; simp only [Act.put, sA, sB, sC]; with_reducible refine hK _ _ (Below.refl _ _) ?_
        exact rfl
       ·as_aux_lemma =>
        intro vs W hS hdep K hK; have d0 := hdep ⟨16, .guard⟩ (by simp) rfl; simp only [PhiVd7B] at d0; refine ⟨?_⟩; simp only [Act.put, sA, sB, sC, Nat.zero_add, Nat.reduceAdd, d0] at hK ⊢; rw [if_pos (by rfl)]; refine wp_load_mid 58 (.tmp 15) (by rfl) gY (0) (by rfl) (clC E p d n1 n2 n3) _ (range_keep hS HBY.out) Tryz.underlying58 (by rfl) (infoClL E) ?_; simp only [Act.put, sA, sB, sC]; with_reducible refine hK _ _ (Below.refl _ _) ?_
        exact rfl
       ·as_aux_lemma =>
        intro vs W hS hdep K hK; have d0 := hdep ⟨17, .data⟩ (by simp) rfl; simp only [PhiVd7B] at d0; have d1 := hdep ⟨18, .data⟩ (by simp) rfl; simp only [PhiVd7B] at d1; have d2 := hdep ⟨16, .guard⟩ (by simp) rfl; simp only [PhiVd7B] at d2; refine ⟨?_⟩; simp only [Act.put, sA, sB, sC, Nat.zero_add, Nat.reduceAdd, d0, d1, d2] at hK ⊢; go_simp; refine (sclaim_c p (Lf i).1 (Lf i).2 d dm n1 n2 n3 E _ (HEP.out.1.below hS) HDM.out).mono ?_; rintro e w' ⟨rfl, hb⟩; go_wp2_with fail; with_reducible refine hK _ _ hb ?_
        exact rfl
       ·as_aux_lemma =>
        intro vs W hS hdep K hK; have d0 := hdep ⟨19, .data⟩ (by simp) rfl; simp only [PhiVd7B] at d0; have d1 := hdep ⟨16, .guard⟩ (by simp) rfl; simp only [PhiVd7B] at d1; refine ⟨?_⟩; simp only [Act.put, sA, sB, sC, Nat.zero_add, Nat.reduceAdd, d0, d1] at hK ⊢; go_simp; with_reducible refine hK _ _ (Below.refl _ _) ?_
        exact rfl
       ·as_aux_lemma =>
        intro vs W hS hdep K hK; have d0 := hdep ⟨16, .data⟩ (by simp) rfl; simp only [PhiVd7B] at d0; have d1 := hdep ⟨20, .data⟩ (by simp) rfl; simp only [PhiVd7B] at d1; refine ⟨?_⟩; simp only [Act.put, sA, sB, sC, Nat.zero_add, Nat.reduceAdd, d0, d1] at hK ⊢; go_simp; with_reducible refine hK _ _ (Below.refl _ _) ?_
        exact rfl
       ·as_aux_lemma =>
        intro vs W hS hdep K hK; have d0 := hdep ⟨21, .data⟩ (by simp) rfl; simp only [PhiVd7B] at d0; refine ⟨?_⟩; simp only [Act.put, sA, sB, sC, Nat.zero_add, Nat.reduceAdd, d0] at hK ⊢; go_simp; with_reducible refine hK _ _ (Below.refl _ _) ?_
        exact rfl
       ·as_aux_lemma =>
        intro vs W hS hdep K hK; have d0 := hdep ⟨22, .guard⟩ (by simp) rfl; simp only [PhiVd7B] at d0; refine ⟨?_⟩; simp only [Act.put, sA, sB, sC, Nat.zero_add, Nat.reduceAdd, d0] at hK ⊢; go_simp; with_reducible refine hK _ _ (Below.refl _ _) ?_
        exact rfl
       ·as_aux_lemma =>
        intro vs W hS hdep K hK; have d0 := hdep ⟨23, .data⟩ (by simp) rfl; simp only [PhiVd7B] at d0; have d1 := hdep ⟨22, .guard⟩ (by simp) rfl; simp only [PhiVd7B] at d1; have s9 := hs2; refine ⟨?_⟩; simp only [Act.put, sA, sB, sC, Nat.zero_add, Nat.reduceAdd, d0, d1] at hK ⊢; go_simp; with_reducible refine hK _ _ (Below.refl _ _) ?_
        exact rfl
       ·as_aux_lemma =>
        intro vs W hS hdep K hK; have d0 := hdep ⟨22, .guard⟩ (by simp) rfl; simp only [PhiVd7B] at d0; refine ⟨?_⟩; simp only [Act.put, sA, sB, sC, Nat.zero_add, Nat.reduceAdd, d0] at hK ⊢; go_simp; with_reducible refine hK _ _ (Below.refl _ _) ?_
        exact rfl
       ·as_aux_lemma =>
        intro vs W hS hdep K hK; have d0 := hdep ⟨25, .data⟩ (by simp) rfl; simp only [PhiVd7B] at d0; have d1 := hdep ⟨22, .guard⟩ (by simp) rfl; simp only [PhiVd7B] at d1; refine ⟨?_⟩; simp only [Act.put, sA, sB, sC, Nat.zero_add, Nat.reduceAdd, d0, d1] at hK ⊢; go_simp; with_reducible refine hK _ _ (Below.refl _ _) ?_
        exact rfl
       ·as_aux_lemma =>
        intro vs W hS hdep K hK; have d0 := hdep ⟨24, .data⟩ (by simp) rfl; simp only [PhiVd7B] at d0; have d1 := hdep ⟨26, .data⟩ (by simp) rfl; simp only [PhiVd7B] at d1; have d2 := hdep ⟨22, .guard⟩ (by simp) rfl; simp only [PhiVd7B] at d2; have s9 := hlt; refine ⟨?_⟩; simp only [Act.put, sA, sB, sC, Nat.zero_add, Nat.reduceAdd, d0, d1, d2] at hK ⊢; go_simp; with_reducible refine hK _ _ (Below.refl _ _) ?_
        exact rfl
       ·as_aux_lemma =>
        intro vs W hS hdep K hK; have d0 := hdep ⟨27, .data⟩ (by simp) rfl; simp only [PhiVd7B] at d0; have d1 := hdep ⟨22, .guard⟩ (by simp) rfl; simp only [PhiVd7B] at d1; refine ⟨?_⟩; simp only [Act.put, sA, sB, sC, Nat.zero_add, Nat.reduceAdd, d0, d1] at hK ⊢; go_simp; with_reducible refine hK _ _ (Below.refl _ _) ?_
        exact rfl
       ·as_aux_lemma =>
        intro vs W hS hdep K hK; have d0 := hdep ⟨28, .guard⟩ (by simp) rfl; simp only [PhiVd7B] at d0; refine ⟨?_⟩; simp only [Act.put, sA, sB, sC, Nat.zero_add, Nat.reduceAdd, d0] at hK ⊢; go_simp
        try rw [if_neg (by simp [undef])]
        with_reducible refine hK _ _ (Below.refl _ _) ?_
        exact rfl
       ·as_aux_lemma =>
        intro vs W hS hdep K hK; have d0 := hdep ⟨28, .guard⟩ (by simp) rfl; simp only [PhiVd7B] at d0; refine ⟨?_⟩; simp only [Act.put, sA, sB, sC, Nat.zero_add, Nat.reduceAdd, d0] at hK ⊢; go_simp
        try rw [if_neg (by simp [undef])]
        with_reducible refine hK _ _ (Below.refl _ _) ?_
        exact rfl
       ·as_aux_lemma =>
        intro vs W hS hdep K hK; have d0 := hdep ⟨28, .guard⟩ (by simp) rfl; simp only [PhiVd7B] at d0; refine ⟨?_⟩; simp only [Act.put, sA, sB, sC, Nat.zero_add, Nat.reduceAdd, d0] at hK ⊢; go_simp
        try rw [if_neg (by simp [undef])]
        with_reducible refine hK _ _ (Below.refl _ _) ?_
        exact rfl
       ·as_aux_lemma =>
        intro vs W hS hdep K hK; have d0 := hdep ⟨28, .guard⟩ (by simp) rfl; simp only [PhiVd7B] at d0; refine ⟨?_⟩; simp only [Act.put, sA, sB, sC, Nat.zero_add, Nat.reduceAdd, d0] at hK ⊢; go_simp
        try rw [if_neg (by simp [undef])]
        with_reducible refine hK _ _ (Below.refl _ _) ?_
        exact rfl
       ·as_aux_lemma =>
        intro vs W hS hdep K hK; have d0 := hdep ⟨28, .guard⟩ (by simp) rfl; simp only [PhiVd7B] at d0; refine ⟨?_⟩; simp only [Act.put, sA, sB, sC, Nat.zero_add, Nat.reduceAdd, d0] at hK ⊢; go_simp
        try rw [if_neg (by simp [undef])]
        with_reducible refine hK _ _ (Below.refl _ _) ?_
        exact rfl
       ·as_aux_lemma =>
        intro vs W hS hdep K hK; have d0 := hdep ⟨28, .guard⟩ (by simp) rfl; simp only [PhiVd7B] at d0; refine ⟨?_⟩; simp only [Act.put, sA, sB, sC, Nat.zero_add, Nat.reduceAdd, d0] at hK ⊢; go_simp
        try rw [if_neg (by simp [undef])]
        with_reducible refine hK _ _ (Below.refl _ _) ?_
        exact rfl
       ·as_aux_lemma =>
        intro vs W hS hdep K hK; have d0 := hdep ⟨28, .data⟩ (by simp) rfl; simp only [PhiVd7B] at d0; have d1 := hdep ⟨22, .guard⟩ (by simp) rfl; simp only [PhiVd7B] at d1; refine ⟨?_⟩; simp only [Act.put, sA, sB, sC, Nat.zero_add, Nat.reduceAdd, d0, d1] at hK ⊢; go_simp; with_reducible refine hK _ _ (Below.refl _ _) ?_
        exact rfl
       ·as_aux_lemma =>
        intro vs W hS hdep K hK; have d0 := hdep ⟨22, .data⟩ (by simp) rfl; simp only [PhiVd7B] at d0; have d1 := hdep ⟨35, .data⟩ (by simp) rfl; simp only [PhiVd7B] at d1; refine ⟨?_⟩; simp only [Act.put, sA, sB, sC, Nat.zero_add, Nat.reduceAdd, d0, d1] at hK ⊢; go_simp; with_reducible refine hK _ _ (Below.refl _ _) ?_
        exact rfl
      ·intro vs w7 hS hv; have v36 := hv 36 (by simp); simp only [PhiVd7B] at v36; simp only [Act.put, sA, sB, sC, Nat.zero_add, Nat.reduceAdd, v36]; have hbe := Below.tr hbe hS; clear v36 hv hS HBX HBY HCP HEP; go_wp2_with fail
       go_roundg (G - 1)
       case measure => omega
       case rel => exact ⟨i + 1, by go_num, by omega, hbe⟩
  ·have u1 : decide ((i : Int) < (k : Int)) = false := by simp; omega
   go_wp2_with fail; refine (lives34_n _).mono ?_; rintro e w9 ⟨rfl, hb9⟩; go_wp2_with fail; go_ret; exact ⟨rfl, Below.tr hbw (Below.tr hbe hb9)⟩
end Go.Proofs.YtijkfagkbfbpmaaGreatDoor
