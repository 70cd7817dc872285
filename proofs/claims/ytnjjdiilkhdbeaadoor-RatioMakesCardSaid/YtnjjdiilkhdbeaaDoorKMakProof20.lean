import Derived.Test.YtnjjdiilkhdbeaaDoorKMakProof19
import Derived.Test.YtnjjdiilkhdbeaaDoorKMakProof11
import Derived.Test.YtnjjdiilkhdbeaaDoorKMakProof14
import Derived.Test.YtnjjdiilkhdbeaaDoorKMakProof16
import Derived.Test.YtnjjdiilkhdbeaaDoorKMakProof15
import Derived.Test.YtnjjdiilkhdbeaaDoorKMakProof12
import Derived.Test.YtnjjdiilkhdbeaaDoorS0
set_option linter.unusedVariables false
set_option linter.unusedSimpArgs false
namespace Go.Proofs.YtnjjdiilkhdbeaaDoor
open Go Go.RowKit
theorem Nb.k64 {w : World} {A : Option Addr} {k c n : Nat} (h : Nb w A k c n) (hn : n < Nm.B ^ 64) : k ≤ 64 := by
 rw [h.1]; exact Nm.lb_length_lt.2 hn
theorem Nb.k65 {w : World} {A : Option Addr} {k c n : Nat} (h : Nb w A k c (n + 1)) (hn : n < Nm.B ^ 64) : k ≤ 65 := by
 rw [h.1]; refine Nm.lb_length_lt.2 (Nat.lt_of_le_of_lt hn ?_); exact Nat.pow_lt_pow_right (by unfold Nm.B; omega) (by omega)
/-- what the closure holds: the number 1, and itself -/
structure SmS (gO gB g1 : Nat) (w : World) : Prop where
 c1 : w.cell? ⟨gO, 0, none⟩ = some (.slice (some ⟨g1, 0, none⟩) 1 1)
 cb : w.cell? ⟨gB, 0, none⟩ = some (.func (.func 72) #[] #[.pointer (some ⟨gO, 0, none⟩), .pointer (some ⟨gB, 0, none⟩)])
 n1 : Nb w (some ⟨g1, 0, none⟩) 1 1 1
theorem SmS.below {gO gB g1 : Nat} {w w' : World} (h : SmS gO gB g1 w) (hb : Below w.heap.size w w') : SmS gO gB g1 w' := ⟨cell_keep hb h.c1, cell_keep hb h.cb, h.n1.below hb⟩
/-- what between returns -/
def TwoN (w : World) (x : Value) (n d : Nat) : Prop := ∃ A k c A' k' c', x = .tuple #[.slice A k c, .slice A' k' c'] ∧ (Nb w A k c n ∧ Nb w A' k' c' d)
theorem TwoN.below {w w' : World} {x : Value} {n d : Nat} (h : TwoN w x n d) (hb : Below w.heap.size w w') : TwoN w' x n d := by
 obtain ⟨A, k, c, A', k', c', e, h1, h2⟩ := h; exact ⟨A, k, c, A', k', c', e, h1.below hb, h2.below hb⟩
def PhiSa (Q : Option Addr) (kq cq g1 : Nat) (j : Nat) (w : World) (x : Value) : Prop :=
 match j with
 | 0 => x = .slice Q kq cq
 | 1 => x = .slice (some ⟨g1, 0, none⟩) 1 1
 | 2 => x = .slice Q kq cq
 | 3 => x = .slice (some ⟨g1, 0, none⟩) 1 1
 | _ => True
theorem PhiSa.keep {Q : Option Addr} {kq cq g1 : Nat} : ∀ (w w' : World), Below w.heap.size w w' → ∀ j x, PhiSa Q kq cq g1 j w x → PhiSa Q kq cq g1 j w' x := by
 intro w w' hb j x h; unfold PhiSa at h ⊢
 split <;> simp only at h ⊢
 all_goals first
  | exact h
  | exact h.below hb
def PhiSb (gO gB : Nat) (A2 A3 A4 Q R : Option Addr) (k2 c2 k3 c3 k4 c4 kq cq kr cr q bn bd n d : Nat) (j : Nat) (w : World) (x : Value) : Prop :=
 match j with
 | 0 => x = .func (.func 72) #[] #[.pointer (some ⟨gO, 0, none⟩), .pointer (some ⟨gB, 0, none⟩)]
 | 1 => x = .slice A4 k4 c4
 | 2 => x = .slice A3 k3 c3
 | 3 => x = .slice Q kq cq
 | 4 => x = .slice A4 k4 c4
 | 5 => IsNb w x (q * bd) 65536
 | 6 => IsNb w x (bn - q * bd) 65536
 | 7 => x = .slice A2 k2 c2
 | 8 => x = .slice R kr cr
 | 9 => TwoN w x n d
 | 10 => TwoN w x n d
 | 11 => ∃ A k c, x = .slice A k c ∧ Nb w A k c n
 | 12 => ∃ A k c, x = .slice A k c ∧ Nb w A k c d
 | 13 => ∃ A k c, x = .slice A k c ∧ Nb w A k c n
 | 14 => ∃ A k c, x = .slice A k c ∧ Nb w A k c d
 | _ => True
theorem PhiSb.keep {gO gB : Nat} {A2 A3 A4 Q R : Option Addr} {k2 c2 k3 c3 k4 c4 kq cq kr cr q bn bd n d : Nat} : ∀ (w w' : World), Below w.heap.size w w' → ∀ j x, PhiSb gO gB A2 A3 A4 Q R k2 c2 k3 c3 k4 c4 kq cq kr cr q bn bd n d j w x → PhiSb gO gB A2 A3 A4 Q R k2 c2 k3 c3 k4 c4 kq cq kr cr q bn bd n d j w' x := by
 intro w w' hb j x h; unfold PhiSb at h ⊢
 split <;> simp only at h ⊢
 all_goals first
  | exact h
  | exact h.below hb
  | (obtain ⟨A, k, c, e, h⟩ := h; exact ⟨A, k, c, e, h.below hb⟩)
def Betw (f : Nat) : Prop := ∀ (an ad bn bd : Nat) (A1 : Option Addr) (k1 c1 : Nat) (A2 : Option Addr) (k2 c2 : Nat) (A3 : Option Addr) (k3 c3 : Nat) (A4 : Option Addr) (k4 c4 gO gB g1 : Nat) (w : World), SmS gO gB g1 w → Nm.SimP an ad bn bd → ad + bd ≤ f → Hid (an < Nm.B ^ 64 ∧ ad < Nm.B ^ 64 ∧ bn < Nm.B ^ 64 ∧ bd < Nm.B ^ 64) → Nb w A1 k1 c1 an → Nb w A2 k2 c2 ad → Nb w A3 k3 c3 bn → Nb w A4 k4 c4 bd →
 Calls Tryd.prog 72 #[.slice A1 k1 c1, .slice A2 k2 c2, .slice A3 k3 c3, .slice A4 k4 c4, .pointer (some ⟨gO, 0, none⟩), .pointer (some ⟨gB, 0, none⟩)] w fun e w' => ∃ A k c A' k' c', e = .returned (.tuple #[.slice A k c, .slice A' k' c']) ∧ Nb w' A k c (Nm.sim f an ad bn bd).1 ∧ Nb w' A' k' c' (Nm.sim f an ad bn bd).2 ∧ Below w.heap.size w w'
set_option maxRecDepth 100000 in
set_option maxHeartbeats 8000000 in
theorem between_n : ∀ f, Betw f
 | 0 => fun an ad bn bd _ _ _ _ _ _ _ _ _ _ _ _ _ _ _ _ _ hp hf => by
  exfalso
  have := hp.ha; omega
 | f + 1 => by
  have IH0 := between_n f; intro an ad bn bd A1 k1 c1 A2 k2 c2 A3 k3 c3 A4 k4 c4 gO gB g1 w hcs hp hf HL h1 h2 h3 h4; obtain ⟨⟨fn, fd⟩, HF⟩ : ∃ r, Hid (r = Nm.sim (f + 1) an ad bn bd) := ⟨_, rfl⟩; have HOK := Lib.hid (Nm.sim_ok (f + 1) an ad bn bd hp hf); rw [← HF.out] at HOK ⊢; obtain ⟨q, HQ⟩ : ∃ q, Hid (q = an / ad) := ⟨_, rfl⟩; obtain ⟨r, HR⟩ : ∃ r, Hid (r = an % ad) := ⟨_, rfl⟩; have hk1 := h1.k64 HL.out.1; have hk2 := h2.k64 HL.out.2.1; have hk3 := h3.k64 HL.out.2.2.1; have hk4 := h4.k64 HL.out.2.2.2; have hq64 : q < Nm.B ^ 64 := by rw [HQ.out]; exact Nat.lt_of_le_of_lt (Nat.div_le_self _ _) HL.out.1
  have hqle : q * bd ≤ bn := by rw [HQ.out]; exact hp.q_le
  have hbn := HL.out.2.2.1; have hqb := Nat.lt_of_le_of_lt hqle hbn; have hpa := hp.ha; have HD := divide_n A1 A2 c1 c2 k1 k2 an ad w h1 h2 (by omega) hpa; rw [← HQ.out, ← HR.out] at HD; have HD := Lib.hid HD; have HLT := Lib.hid (And.intro hq64 (And.intro hqb hbn)); clear hq64 hqb hbn
  go_enter Tryd.func72, Tryd.ntmps72
  go_wp2_with fail; refine HD.out.mono ?_; rintro e w2 ⟨Q, kq, cq, R, kr, cr, rfl, hQ, hR, hb2⟩; have hbw : Below w.heap.size w w2 := hb2; have hcs := hcs.below hb2; have h1 := h1.below hb2; have h2 := h2.below hb2; have h3 := h3.below hb2; have h4 := h4.below hb2; have hkq := hQ.k64 HLT.out.1; clear HD hb2; by_cases hr0 : r = 0
  ·have hkr : kr = 0 := by have := hR.1; rw [hr0, Nm.lb_zero] at this; simpa using this
   have HF1 : Hid (fn = q ∧ fd = 1) := by
    have h := HF.out; rw [Nm.sim, if_pos (by rw [← HR.out]; exact hr0), ← HQ.out] at h; injection h with h5 h6; exact ⟨h5, h6⟩
   subst hkr; clear hr0; have HF1a : Hid (fn = q) := HF1.out.1; have HF1b : Hid (fd = 1) := HF1.out.2; go_upto_region 3 with fail; refine region_invF (PhiSa Q kq cq g1) (fun w w' => Below w.heap.size w w') (fun W => Below w2.heap.size w2 W) (by kernel_rfl) (by kernel_rfl) (by kernel_rfl) PhiSa.keep (fun _ _ hR hS => Below.tr hS hR) (bD _) (fun vs => by simp only [fillR, Act.put, sA, sB, sC, Nat.zero_add, Nat.reduceAdd]; rfl) ?_ ?_
   ·refine sK ?_ (sK ?_ (sK ?_ (sK ?_ (sZ))))
    ·as_aux_lemma =>
     intro vs W hS hdep K hK; refine ⟨?_⟩; simp only [Act.put, sA, sB, sC, Nat.zero_add, Nat.reduceAdd] at hK ⊢; go_simp; with_reducible refine hK _ _ (Below.refl _ _) ?_
     exact rfl
    ·as_aux_lemma =>
     intro vs W hS hdep K hK; have f1 := (hcs.below hS).c1; refine ⟨?_⟩; simp only [Act.put, sA, sB, sC, Nat.zero_add, Nat.reduceAdd] at hK ⊢; go_simp; with_reducible refine hK _ _ (Below.refl _ _) ?_
     exact rfl
    ·as_aux_lemma =>
     intro vs W hS hdep K hK; have d0 := hdep ⟨0, .data⟩ (by simp) rfl; simp only [PhiSa] at d0; refine ⟨?_⟩; simp only [Act.put, sA, sB, sC, Nat.zero_add, Nat.reduceAdd, d0] at hK ⊢; go_simp; with_reducible refine hK _ _ (Below.refl _ _) ?_
     exact rfl
    ·as_aux_lemma =>
     intro vs W hS hdep K hK; have d0 := hdep ⟨1, .data⟩ (by simp) rfl; simp only [PhiSa] at d0; have d1 := hdep ⟨2, .chain⟩ (by simp) rfl; simp only [PhiSa] at d1; refine ⟨?_⟩; simp only [Act.put, sA, sB, sC, Nat.zero_add, Nat.reduceAdd, d0, d1] at hK ⊢; go_simp; with_reducible refine hK _ _ (Below.refl _ _) ?_
     exact rfl
   intro vs wz hbz hv; have v2 := hv 2 (by simp); have v3 := hv 3 (by simp); simp only [PhiSa] at v2 v3; simp only [Act.put, sA, sB, sC, Nat.zero_add, Nat.reduceAdd, v2, v3]; go_wp2_with fail; exact bodyPost_ret (v := .tuple #[.slice Q kq cq, .slice (some ⟨g1, 0, none⟩) 1 1]) (by simp [results, Tryd.results72, go_sem]) rfl ⟨_, _, _, _, _, _, rfl, by rw [HF1a.out]; exact hQ.below hbz, by rw [HF1b.out]; exact hcs.n1.below hbz, Below.tr hbw hbz⟩
  ·have hkr : 0 < kr := by
    rcases Nat.eq_zero_or_pos kr with e | e
    ·exfalso
     have := hR.1; rw [e] at this; have h5 := List.eq_nil_of_length_eq_zero this.symm; rw [Nm.lb_nil_iff] at h5; exact hr0 h5
    ·exact e
   have t1 : ((kr : Int) == 0) = false := by simp; omega
   have hrn : an % ad ≠ 0 := by rw [← HR.out]; exact hr0
   have HRN := Lib.hid hrn; clear hr0 hrn; have h11 := hcs.n1; have hc1 := hcs.c1; go_wp2_with fail; refine (plus_n _ _ _ _ _ _ _ _ _ hQ h11 (by omega) (by omega)).mono ?_; rintro e w3 ⟨X, kx, cx, rfl, hX, hb⟩; have hbw := Below.tr hbw hb; have hcs := hcs.below hb; have h2 := h2.below hb; have h3 := h3.below hb; have h4 := h4.below hb; have hQ := hQ.below hb; have hR := hR.below hb; have hkx := hX.k65 HLT.out.1; clear hb h11 h1 hc1; go_wp2_with fail; refine (times_n _ _ _ _ _ _ _ _ _ hX h4 (by omega) (by omega)).mono ?_; rintro e w4 ⟨Y, ky, cy, rfl, hY, hb⟩; have hbw := Below.tr hbw hb; have hcs := hcs.below hb; have h2 := h2.below hb; have h3 := h3.below hb; have h4 := h4.below hb; have hQ := hQ.below hb; have hR := hR.below hb; have hX := hX.below hb; clear hb; go_wp2_with fail; refine (compare_n _ _ _ _ _ _ _ _ _ hY h3).mono ?_; rintro e w5 ⟨nd, rfl, rfl⟩; have hb := below_drewN w4 nd; have hbw := Below.tr hbw hb; have hcs := hcs.below hb; have h2 := h2.below hb; have h3 := h3.below hb; have h4 := h4.below hb; have hQ := hQ.below hb; have hR := hR.below hb; have hX := hX.below hb; obtain ⟨w6, hw6⟩ : ∃ z, z = w4.drewN nd := ⟨_, rfl⟩; rw [← hw6] at hbw hcs h2 h3 h4 hQ hR hX ⊢; clear hb hw6 hY; by_cases hn : (q + 1) * bd ≤ bn
   ·have t2 : decide (Nm.cmpN ((q + 1) * bd) bn ≤ 0) = true := by
     rw [decide_eq_true_iff]; unfold Nm.cmpN
     split
     ·omega
     ·split <;> omega
    have HF1 : Hid (fn = q + 1 ∧ fd = 1) := by
     have h := HF.out; rw [Nm.sim, if_neg HRN.out, ← HQ.out, if_pos hn] at h; injection h with h5 h6; exact ⟨h5, h6⟩
    have HF1a : Hid (fn = q + 1) := HF1.out.1; have HF1b : Hid (fd = 1) := HF1.out.2; clear hn; go_upto_region 6 with fail; refine region_invF (PhiSa X kx cx g1) (fun w w' => Below w.heap.size w w') (fun W => Below w6.heap.size w6 W) (by kernel_rfl) (by kernel_rfl) (by kernel_rfl) PhiSa.keep (fun _ _ hR hS => Below.tr hS hR) (bD _) (fun vs => by simp only [fillR, Act.put, sA, sB, sC, Nat.zero_add, Nat.reduceAdd]; rfl) ?_ ?_
    ·refine sK ?_ (sK ?_ (sK ?_ (sK ?_ (sZ))))
     ·as_aux_lemma =>
      intro vs W hS hdep K hK; refine ⟨?_⟩; simp only [Act.put, sA, sB, sC, Nat.zero_add, Nat.reduceAdd] at hK ⊢; go_simp; with_reducible refine hK _ _ (Below.refl _ _) ?_
      exact rfl
     ·as_aux_lemma =>
      intro vs W hS hdep K hK; have f1 := (hcs.below hS).c1; refine ⟨?_⟩; simp only [Act.put, sA, sB, sC, Nat.zero_add, Nat.reduceAdd] at hK ⊢; go_simp; with_reducible refine hK _ _ (Below.refl _ _) ?_
      exact rfl
     ·as_aux_lemma =>
      intro vs W hS hdep K hK; have d0 := hdep ⟨0, .data⟩ (by simp) rfl; simp only [PhiSa] at d0; refine ⟨?_⟩; simp only [Act.put, sA, sB, sC, Nat.zero_add, Nat.reduceAdd, d0] at hK ⊢; go_simp; with_reducible refine hK _ _ (Below.refl _ _) ?_
      exact rfl
     ·as_aux_lemma =>
      intro vs W hS hdep K hK; have d0 := hdep ⟨1, .data⟩ (by simp) rfl; simp only [PhiSa] at d0; have d1 := hdep ⟨2, .chain⟩ (by simp) rfl; simp only [PhiSa] at d1; refine ⟨?_⟩; simp only [Act.put, sA, sB, sC, Nat.zero_add, Nat.reduceAdd, d0, d1] at hK ⊢; go_simp; with_reducible refine hK _ _ (Below.refl _ _) ?_
      exact rfl
    intro vs wz hbz hv; have v2 := hv 2 (by simp); have v3 := hv 3 (by simp); simp only [PhiSa] at v2 v3; simp only [Act.put, sA, sB, sC, Nat.zero_add, Nat.reduceAdd, v2, v3]; go_wp2_with fail; exact bodyPost_ret (v := .tuple #[.slice X kx cx, .slice (some ⟨g1, 0, none⟩) 1 1]) (by simp [results, Tryd.results72, go_sem]) rfl ⟨_, _, _, _, _, _, rfl, by rw [HF1a.out]; exact hX.below hbz, by rw [HF1b.out]; exact hcs.n1.below hbz, Below.tr hbw hbz⟩
   ·have t2 : decide (Nm.cmpN ((q + 1) * bd) bn ≤ 0) = false := by
     rw [decide_eq_false_iff_not]; unfold Nm.cmpN; rw [if_neg (by omega)]
     split <;> omega
    obtain ⟨⟨n, d⟩, HND⟩ : ∃ z, Hid (z = Nm.sim f bd (bn - q * bd) ad r) := ⟨Nm.sim f bd (bn - q * bd) ad r, rfl⟩; have hnx := hp.next HRN.out; rw [← HQ.out, ← HR.out] at hnx
    have hls : (bn - q * bd) + r ≤ f := by
     have := hp.less HRN.out (by rw [← HQ.out]; exact hn); rw [← HQ.out, ← HR.out] at this; omega
    have hlm : Hid (bd < Nm.B ^ 64 ∧ bn - q * bd < Nm.B ^ 64 ∧ ad < Nm.B ^ 64 ∧ r < Nm.B ^ 64) := ⟨HL.out.2.2.2, Nat.lt_of_le_of_lt (Nat.sub_le _ _) HL.out.2.2.1, HL.out.2.1, by rw [HR.out]; exact Nat.lt_trans (Nat.mod_lt _ hpa) HL.out.2.1⟩; have HSR := Lib.hid (Nm.sim_ok f bd (bn - q * bd) ad r hnx hls); rw [← HND.out] at HSR
    have HF1 : Hid (fn = q * n + d ∧ fd = n) := by
     have h := HF.out; rw [Nm.sim, if_neg HRN.out, ← HQ.out, if_neg hn, ← HR.out, ← HND.out] at h; injection h with h5 h6; exact ⟨h5, h6⟩
    have IH : ∀ (B1 : Option Addr) (j1 d1 : Nat) (B2 : Option Addr) (j2 d2 : Nat) (B3 : Option Addr) (j3 d3 : Nat) (B4 : Option Addr) (j4 d4 : Nat) (W : World), SmS gO gB g1 W → Nb W B1 j1 d1 bd → Nb W B2 j2 d2 (bn - q * bd) → Nb W B3 j3 d3 ad → Nb W B4 j4 d4 r → Calls Tryd.prog 72 #[.slice B1 j1 d1, .slice B2 j2 d2, .slice B3 j3 d3, .slice B4 j4 d4, .pointer (some ⟨gO, 0, none⟩), .pointer (some ⟨gB, 0, none⟩)] W fun e w' => ∃ A k c A' k' c', e = .returned (.tuple #[.slice A k c, .slice A' k' c']) ∧ Nb w' A k c n ∧ Nb w' A' k' c' d ∧ Below W.heap.size W w' := by
     intro B1 j1 d1 B2 j2 d2 B3 j3 d3 B4 j4 d4 W hc g1' g2' g3' g4'; have h := IH0 bd (bn - q * bd) ad r B1 j1 d1 B2 j2 d2 B3 j3 d3 B4 j4 d4 gO gB g1 W hc hnx hls hlm g1' g2' g3' g4'; rw [← HND.out] at h; exact h
    have hqb := HLT.out.2.1; have hbn := HLT.out.2.2; clear hn IH0 hnx hls hlm HND hX; go_upto_region 7 with fail; refine region_invF (PhiSb gO gB A2 A3 A4 Q R k2 c2 k3 c3 k4 c4 kq cq kr cr q bn bd n d) (fun w w' => Below w.heap.size w w') (fun W => Below w6.heap.size w6 W) (by kernel_rfl) (by kernel_rfl) (by kernel_rfl) PhiSb.keep (fun _ _ hR hS => Below.tr hS hR) (bD _) (fun vs => by simp only [fillR, Act.put, sA, sB, sC, Nat.zero_add, Nat.reduceAdd]; rfl) ?_ ?_
    ·refine sK ?_ (sK ?_ (sK ?_ (sK ?_ (sK ?_ (sK ?_ (sK ?_ (sK ?_ (sK ?_ (sK ?_ (sK ?_ (sK ?_ (sK ?_ (sK ?_ (sK ?_ (sZ)))))))))))))))
     ·as_aux_lemma =>
      intro vs W hS hdep K hK; have f1 := (hcs.below hS).cb; refine ⟨?_⟩; simp only [Act.put, sA, sB, sC, Nat.zero_add, Nat.reduceAdd] at hK ⊢; go_simp; with_reducible refine hK _ _ (Below.refl _ _) ?_
      exact rfl
     ·as_aux_lemma =>
      intro vs W hS hdep K hK; refine ⟨?_⟩; simp only [Act.put, sA, sB, sC, Nat.zero_add, Nat.reduceAdd] at hK ⊢; go_simp; with_reducible refine hK _ _ (Below.refl _ _) ?_
      exact rfl
     ·as_aux_lemma =>
      intro vs W hS hdep K hK; refine ⟨?_⟩; simp only [Act.put, sA, sB, sC, Nat.zero_add, Nat.reduceAdd] at hK ⊢; go_simp; with_reducible refine hK _ _ (Below.refl _ _) ?_
      exact rfl
     ·as_aux_lemma =>
      intro vs W hS hdep K hK; refine ⟨?_⟩; simp only [Act.put, sA, sB, sC, Nat.zero_add, Nat.reduceAdd] at hK ⊢; go_simp; with_reducible refine hK _ _ (Below.refl _ _) ?_
      exact rfl
     ·as_aux_lemma =>
      intro vs W hS hdep K hK; refine ⟨?_⟩; simp only [Act.put, sA, sB, sC, Nat.zero_add, Nat.reduceAdd] at hK ⊢; go_simp; with_reducible refine hK _ _ (Below.refl _ _) ?_
      exact rfl
     ·as_aux_lemma =>
      intro vs W hS hdep K hK; have d0 := hdep ⟨3, .data⟩ (by simp) rfl; simp only [PhiSb] at d0; have d1 := hdep ⟨4, .data⟩ (by simp) rfl; simp only [PhiSb] at d1; refine ⟨?_⟩; simp only [Act.put, sA, sB, sC, Nat.zero_add, Nat.reduceAdd, d0, d1] at hK ⊢; go_simp; refine (times_n _ _ _ _ _ _ _ _ _ (hQ.below hS) (h4.below hS) (by omega) (by omega)).mono ?_; rintro e w' ⟨A, k, c, rfl, hn, hb⟩; go_wp2_with fail; with_reducible refine hK _ _ hb ?_
      exact ⟨A, k, c, rfl, hn, Nat.le_trans (hn.k64 hqb) (by omega)⟩
     ·as_aux_lemma =>
      intro vs W hS hdep K hK; have d0 := hdep ⟨2, .data⟩ (by simp) rfl; simp only [PhiSb] at d0; have d1 := hdep ⟨5, .data⟩ (by simp) rfl; simp only [PhiSb] at d1; refine @exE3 _ _ _ _ _ d1 ?_; clear d1; intro A1 k1 c1 d1; have e1 := d1.1; have n1 := d1.2.1; have m1 := d1.2.2; clear d1; refine ⟨?_⟩; simp only [Act.put, sA, sB, sC, Nat.zero_add, Nat.reduceAdd, d0, e1] at hK ⊢; go_simp; refine (minus_n _ _ _ _ _ _ _ _ _ (h3.below hS) n1 (by omega) m1 hqle).mono ?_; rintro e w' ⟨A, k, c, rfl, hn, hb⟩; go_wp2_with fail; with_reducible refine hK _ _ hb ?_
      exact ⟨A, k, c, rfl, hn, Nat.le_trans (hn.k64 (Nat.lt_of_le_of_lt (Nat.sub_le _ _) hbn)) (by omega)⟩
     ·as_aux_lemma =>
      intro vs W hS hdep K hK; refine ⟨?_⟩; simp only [Act.put, sA, sB, sC, Nat.zero_add, Nat.reduceAdd] at hK ⊢; go_simp; with_reducible refine hK _ _ (Below.refl _ _) ?_
      exact rfl
     ·as_aux_lemma =>
      intro vs W hS hdep K hK; refine ⟨?_⟩; simp only [Act.put, sA, sB, sC, Nat.zero_add, Nat.reduceAdd] at hK ⊢; go_simp; with_reducible refine hK _ _ (Below.refl _ _) ?_
      exact rfl
     ·as_aux_lemma =>
      intro vs W hS hdep K hK; have d0 := hdep ⟨0, .data⟩ (by simp) rfl; simp only [PhiSb] at d0; have d1 := hdep ⟨1, .data⟩ (by simp) rfl; simp only [PhiSb] at d1; have d2 := hdep ⟨6, .data⟩ (by simp) rfl; simp only [PhiSb] at d2; refine @exE3 _ _ _ _ _ d2 ?_; clear d2; intro A2 k2 c2 d2; have e2 := d2.1; have n2 := d2.2.1; have m2 := d2.2.2; clear d2; have d3 := hdep ⟨7, .data⟩ (by simp) rfl; simp only [PhiSb] at d3; have d4 := hdep ⟨8, .data⟩ (by simp) rfl; simp only [PhiSb] at d4; refine ⟨?_⟩; simp only [Act.put, sA, sB, sC, Nat.zero_add, Nat.reduceAdd, d0, d1, e2, d3, d4] at hK ⊢; go_simp; refine (IH _ _ _ _ _ _ _ _ _ _ _ _ _ (hcs.below hS) (h4.below hS) n2 (h2.below hS) (hR.below hS)).mono ?_; rintro e w' ⟨A, k, c, A', k', c', rfl, hn, hn', hb⟩; go_wp2_with fail; with_reducible refine hK _ _ hb ?_
      exact ⟨_, _, _, _, _, _, rfl, hn, hn'⟩
     ·as_aux_lemma =>
      intro vs W hS hdep K hK; have d0 := hdep ⟨9, .data⟩ (by simp) rfl; simp only [PhiSb] at d0; have r0 := d0; clear d0; obtain ⟨A, k, c, A', k', c', e, h1', h2'⟩ := r0; refine ⟨?_⟩; simp only [Act.put, sA, sB, sC, Nat.zero_add, Nat.reduceAdd, e] at hK ⊢; go_simp; with_reducible refine hK _ _ (Below.refl _ _) ?_
      exact ⟨_, _, _, _, _, _, rfl, h1', h2'⟩
     ·as_aux_lemma =>
      intro vs W hS hdep K hK; have d0 := hdep ⟨10, .data⟩ (by simp) rfl; simp only [PhiSb] at d0; have r0 := d0; clear d0; obtain ⟨A, k, c, A', k', c', e, h1', h2'⟩ := r0; refine ⟨?_⟩; simp only [Act.put, sA, sB, sC, Nat.zero_add, Nat.reduceAdd, e] at hK ⊢; go_simp; with_reducible refine hK _ _ (Below.refl _ _) ?_
      exact ⟨_, _, _, rfl, h1'⟩
     ·as_aux_lemma =>
      intro vs W hS hdep K hK; have d0 := hdep ⟨10, .data⟩ (by simp) rfl; simp only [PhiSb] at d0; have r0 := d0; clear d0; obtain ⟨A, k, c, A', k', c', e, h1', h2'⟩ := r0; refine ⟨?_⟩; simp only [Act.put, sA, sB, sC, Nat.zero_add, Nat.reduceAdd, e] at hK ⊢; go_simp; with_reducible refine hK _ _ (Below.refl _ _) ?_
      exact ⟨_, _, _, rfl, h2'⟩
     ·as_aux_lemma =>
      intro vs W hS hdep K hK; have d0 := hdep ⟨11, .data⟩ (by simp) rfl; simp only [PhiSb] at d0; refine @exE3 _ _ _ _ _ d0 ?_; clear d0; intro A0 k0 c0 d0; have e0 := d0.1; have n0 := d0.2; clear d0; refine ⟨?_⟩; simp only [Act.put, sA, sB, sC, Nat.zero_add, Nat.reduceAdd, e0] at hK ⊢; go_simp; with_reducible refine hK _ _ (Below.refl _ _) ?_
      exact ⟨_, _, _, rfl, n0⟩
     ·as_aux_lemma =>
      intro vs W hS hdep K hK; have d0 := hdep ⟨12, .data⟩ (by simp) rfl; simp only [PhiSb] at d0; refine @exE3 _ _ _ _ _ d0 ?_; clear d0; intro A0 k0 c0 d0; have e0 := d0.1; have n0 := d0.2; clear d0; refine ⟨?_⟩; simp only [Act.put, sA, sB, sC, Nat.zero_add, Nat.reduceAdd, e0] at hK ⊢; go_simp; with_reducible refine hK _ _ (Below.refl _ _) ?_
      exact ⟨_, _, _, rfl, n0⟩
    intro vs w7 hb hv; have v13 := hv 13 (by simp); have v14 := hv 14 (by simp); simp only [PhiSb] at v13 v14; obtain ⟨N1, kn, cn, v13, hN⟩ := v13; obtain ⟨D1, kd, cd, v14, hDD⟩ := v14; simp only [Act.put, sA, sB, sC, Nat.zero_add, Nat.reduceAdd, v13, v14]; have hbw := Below.tr hbw hb; have hQ := hQ.below hb; have hn64 : n < Nm.B ^ 64 := Nat.lt_of_le_of_lt HSR.out.na HL.out.2.2.2; have hd64 : d < Nm.B ^ 64 := Nat.lt_of_le_of_lt HSR.out.da (Nat.lt_of_le_of_lt (Nat.sub_le _ _) HL.out.2.2.1)
    have hqn : q * n < Nm.B ^ 64 := by
     have h5 := HOK.out.na; rw [HF1.out.1] at h5; exact Nat.lt_of_le_of_lt (Nat.le_trans (Nat.le_add_right _ _) h5) HL.out.1
    have hkn := hN.k64 hn64; have hkd := hDD.k64 hd64; have HQN := Lib.hid hqn; have HF1a : Hid (fn = q * n + d) := HF1.out.1; have HF1b : Hid (fd = n) := HF1.out.2; clear hv v13 v14 hb hn64 hd64 hqn hqb hbn IH; go_wp2_with fail; refine (times_n _ _ _ _ _ _ _ _ _ hQ hN (by omega) (by omega)).mono ?_; rintro e w8 ⟨Z, kz, cz, rfl, hZ, hb⟩; have hbw := Below.tr hbw hb; have hN := hN.below hb; have hDD := hDD.below hb; have hkz := hZ.k64 HQN.out; clear hb; go_wp2_with fail; refine (plus_n _ _ _ _ _ _ _ _ _ hZ hDD (by omega) (by omega)).mono ?_; rintro e w9 ⟨U, ku, cu, rfl, hU, hb⟩; have hbw := Below.tr hbw hb; have hN := hN.below hb; go_wp2_with fail; exact bodyPost_ret (v := .tuple #[.slice U ku cu, .slice N1 kn cn]) (by simp [results, Tryd.results72, go_sem]) rfl ⟨_, _, _, _, _, _, rfl, by rw [HF1a.out]; exact hU, by rw [HF1b.out]; exact hN, hbw⟩
end Go.Proofs.YtnjjdiilkhdbeaaDoor
namespace Go.Proofs.YtnjjdiilkhdbeaaDoor
open Go Go.RowKit
theorem Blk.newH {w : World} {T : TypeId} {arr : Array Value} {g : Nat} (h : g = w.heap.size) : Blk (w.alloc (.cells arr T)) g T arr := h ▸ Blk.new w T arr
theorem wp_nmS {P : Program} {c : Code} {Q : Exit → Act → World → Prop} {a : Act} {w : World} (h : ∀ W, Hid (W = w) → c.wp P Q a W) : c.wp P Q a w := h w rfl
theorem TwoN.mapL {w w' : World} {x : Value} {n d : Nat} (h : TwoN w x n d) (hm : ∀ A c l, Lim w A c l → Lim w' A c l) : TwoN w' x n d := by
 obtain ⟨A, k, c, A', k', c', e, h1, h2⟩ := h; exact ⟨A, k, c, A', k', c', e, ⟨h1.1, hm _ _ _ h1.2⟩, ⟨h2.1, hm _ _ _ h2.2⟩⟩
/-- what holds all along -/
structure SZ (w0 : World) (g : Nat) (Cs : List (Nat × Nat × Value)) (gO gB g1 : Nat) (W : World) : Prop where
 sx : SX w0 g Cs W
 sm : SmS gO gB g1 W
 nO : gO ≠ g
 nB : gB ≠ g
theorem SZ.step {w0 w w' : World} {g : Nat} {X : LP} {Cs : List (Nat × Nat × Value)} {gO gB g1 : Nat} (hr : RX w0.heap.size g X w w') (h : SZ w0 g Cs gO gB g1 w) : SZ w0 g Cs gO gB g1 w' :=
 ⟨h.sx.step hr, ⟨hr.cell _ _ _ h.nO h.sm.c1, hr.cell _ _ _ h.nB h.sm.cb, ⟨h.sm.n1.1, hr.lim _ _ _ h.sm.n1.2⟩⟩, h.nO, h.nB⟩
section
variable {w0 W : World} {g gO gB g1 : Nat} {Cs : List (Nat × Nat × Value)}
theorem SZ.cl (h : SZ w0 g Cs gO gB g1 W) : ∀ c ∈ Cs, W.cell? ⟨c.1, c.2.1, none⟩ = some c.2.2 ∧ c.1 ≠ g := h.sx.cl
theorem SZ.sl (h : SZ w0 g Cs gO gB g1 W) : Sl W g := h.sx.sl
theorem SZ.be (h : SZ w0 g Cs gO gB g1 W) : Below w0.heap.size w0 W := h.sx.be
theorem SZ.ge (h : SZ w0 g Cs gO gB g1 W) : w0.heap.size ≤ g := h.sx.ge
theorem SZ.size (h : SZ w0 g Cs gO gB g1 W) : w0.heap.size ≤ W.heap.size := h.sx.size
theorem SZ.lt (h : SZ w0 g Cs gO gB g1 W) : g < W.heap.size := h.sx.lt
end
theorem reduced_ok (A1 A2 : Option Addr) (c1 c2 k1 k2 n d : Nat) (w : World) (h1 : Nb w A1 k1 c1 n) (h2 : Nb w A2 k2 c2 d) (hn : n < Nm.B ^ 64) (hd : d < Nm.B ^ 64) (h0 : 0 < d) :
  Calls Tryd.prog 47 #[.slice A1 k1 c1, .slice A2 k2 c2] w fun e w' => ∃ v, e = .returned (.tuple #[v, .int .i64 0]) ∧ RtP w' v (redP n d) ∧ Below w.heap.size w w' := by
 have hk1 := h1.k64 hn; have hk2 := h2.k64 hd; refine (reduced_n _ _ _ _ _ _ _ _ _ h1 h2 (by omega) (by omega) h0).mono ?_; rintro e w' ⟨v, er, rfl, hR, hb⟩; obtain ⟨rfl, h⟩ := hR.resP; rw [resP_small hn hd] at h ⊢; exact ⟨v, rfl, h, hb⟩
noncomputable def simF : LP → LP → Int × LP := binF fun x y => if y.1 * x.2 < x.1 * y.2 then (5, nilP) else (0, redP (Nm.simple x.1 x.2 y.1 y.2).1 (Nm.simple x.1 x.2 y.1 y.2).2)
def PhiSml (gO gB ba bb g : Nat) (a1 a2 b1 b2 : Value) (qa qb n d : Nat) (j : Nat) (w : World) (x : Value) : Prop :=
 match j with
 | 0 => x = .func (.func 72) #[] #[.pointer (some ⟨gO, 0, none⟩), .pointer (some ⟨gB, 0, none⟩)]
 | 1 => x = .pointer (some ⟨ba, 0, none⟩)
 | 2 => x = a1
 | 3 => x = .agg #[a1, a2]
 | 4 => ∃ A k c, x = .slice A k c ∧ Nb w A k c qa
 | 5 => x = .pointer (some ⟨bb, 0, none⟩)
 | 6 => x = b1
 | 7 => x = .agg #[b1, b2]
 | 8 => ∃ A k c, x = .slice A k c ∧ Nb w A k c qb
 | 9 => TwoN w x n d
 | 10 => ∃ A k c, x = .slice A k c ∧ Nb w A k c n
 | 11 => ∃ A k c, x = .slice A k c ∧ Nb w A k c d
 | 12 => ∃ v, x = .tuple #[v, .int .i64 0] ∧ RtP w v (redP n d)
 | 13 => RtP w x (redP n d)
 | 14 => x = .int .i64 0
 | 15 => GoodX w g (redP n d)
 | 16 => x = .int .i64 0
 | _ => True

theorem PhiSml.keep {B : Nat} {gO gB ba bb g : Nat} {a1 a2 b1 b2 : Value} {qa qb n d : Nat} : ∀ (w w' : World), RX B g (redP n d) w w' → ∀ j x, PhiSml gO gB ba bb g a1 a2 b1 b2 qa qb n d j w x → PhiSml gO gB ba bb g a1 a2 b1 b2 qa qb n d j w' x := by
 intro w w' hr j x h; unfold PhiSml at h ⊢
 split <;> simp only at h ⊢
 all_goals first
  | exact h
  | exact h.mapL hr.lim
  | exact h.map hr
  | (obtain ⟨A, k, c, e, h1, h2⟩ := h; exact ⟨A, k, c, e, h1, hr.lim _ _ _ h2⟩)
  | (obtain ⟨v, e, h⟩ := h; exact ⟨v, e, h.mapL hr.lim⟩)
set_option maxRecDepth 10000 in
set_option maxHeartbeats 2000000 in
theorem simplest_n (va vb : Value) (pa qa pb qb : Nat) (w : World) (ha : Rat w va pa qa) (hb : Rat w vb pb qb) (ga : Nm.Good pa qa) (gb : Nm.Good pb qb) (hle : pa * qb ≤ pb * qa) :
  Calls Tryd.prog 34 #[va, vb] w fun e w' => ∃ v, e = .returned (.tuple #[v, .int .i64 0]) ∧ RtP w' v (redP (Nm.simple pa qa pb qb).1 (Nm.simple pa qa pb qb).2) ∧ Below w.heap.size w w' := by
 obtain ⟨⟨n, d⟩, HND⟩ : ∃ z, Hid (z = Nm.simple pa qa pb qb) := ⟨Nm.simple pa qa pb qb, rfl⟩; rw [← HND.out]; obtain ⟨A1, k1, c1, A2, k2, c2, rfl⟩ := ha.shape; obtain ⟨B1, l1, u1, B2, l2, u2, rfl⟩ := hb.shape; obtain ⟨W, HW⟩ : ∃ W, Hid (W = ((((w.alloc (.cells #[.slice A1 k1 c1, .slice A2 k2 c2] 28)).alloc (.cells #[.slice B1 l1 u1, .slice B2 l2 u2] 28)).alloc (.cells #[.slice none 0 0, .slice none 0 0] 28)).alloc (.cells #[.slice A1 k1 c1, .slice A2 k2 c2, .slice B1 l1 u1, .slice B2 l2 u2] 28))) := ⟨_, rfl⟩; have hqa := ga.pos; have hqb := gb.pos; obtain ⟨s1, s2⟩ := ha.small ga; obtain ⟨s3, s4⟩ := hb.small gb
 have hS0 : SR w (w.heap.size + 2) [(A1, k1, c1, pa), (A2, k2, c2, Nm.dn qa), (B1, l1, u1, pb), (B2, l2, u2, Nm.dn qb)] [(w.heap.size, .slice A1 k1 c1, .slice A2 k2 c2), (w.heap.size + 1, .slice B1 l1 u1, .slice B2 l2 u2)] W := by
  have hbw : Below w.heap.size w (((w.alloc (.cells #[.slice A1 k1 c1, .slice A2 k2 c2] 28)).alloc (.cells #[.slice B1 l1 u1, .slice B2 l2 u2] 28)).alloc (.cells #[.slice none 0 0, .slice none 0 0] 28)) := Below.tr (Below.tr (bA _ _) (bA _ _)) (bA _ _)
  have h0 : SR w (w.heap.size + 2) [(A1, k1, c1, pa), (A2, k2, c2, Nm.dn qa), (B1, l1, u1, pb), (B2, l2, u2, Nm.dn qb)] [(w.heap.size, .slice A1 k1 c1, .slice A2 k2 c2), (w.heap.size + 1, .slice B1 l1 u1, .slice B2 l2 u2)] (((w.alloc (.cells #[.slice A1 k1 c1, .slice A2 k2 c2] 28)).alloc (.cells #[.slice B1 l1 u1, .slice B2 l2 u2] 28)).alloc (.cells #[.slice none 0 0, .slice none 0 0] 28)) := by
   refine ⟨?_, ?_, ?_, hbw, by omega⟩
   ·intro x hx; simp only [List.mem_cons, List.not_mem_nil, or_false] at hx
    rcases hx with rfl | rfl | rfl | rfl
    ·exact ((ha.below hbw).nb).1
    ·exact ((ha.below hbw).nb).2
    ·exact ((hb.below hbw).nb).1
    ·exact ((hb.below hbw).nb).2
   ·intro x hx; simp only [List.mem_cons, List.not_mem_nil, or_false] at hx
    rcases hx with rfl | rfl
    ·exact ⟨(Box.below (Blk.new w _ _) (bA _ _)).below (bA _ _), by show w.heap.size ≠ w.heap.size + 2; omega⟩
    ·refine ⟨?_, by show w.heap.size + 1 ≠ w.heap.size + 2; omega⟩; have := Blk.new (w.alloc (.cells #[.slice A1 k1 c1, .slice A2 k2 c2] 28)) 28 #[.slice B1 l1 u1, .slice B2 l2 u2]; refine Box.below ?_ (bA _ _); unfold Box; simpa using this
   ·have := Blk.new ((w.alloc (.cells #[.slice A1 k1 c1, .slice A2 k2 c2] 28)).alloc (.cells #[.slice B1 l1 u1, .slice B2 l2 u2] 28)) 28 #[.slice none 0 0, .slice none 0 0]; exact ⟨none, 0, 0, none, 0, 0, by simpa using this⟩
  rw [HW.out]; exact h0.below (bA _ _)
 have hp : Pair W (w.heap.size + 3) (.slice A1 k1 c1) (.slice A2 k2 c2) (.slice B1 l1 u1) (.slice B2 l2 u2) := by
  rw [HW.out]; have := Blk.new (((w.alloc (.cells #[.slice A1 k1 c1, .slice A2 k2 c2] 28)).alloc (.cells #[.slice B1 l1 u1, .slice B2 l2 u2] 28)).alloc (.cells #[.slice none 0 0, .slice none 0 0] 28)) 28 #[.slice A1 k1 c1, .slice A2 k2 c2, .slice B1 l1 u1, .slice B2 l2 u2]; unfold Pair; simpa using this
 have ha1 := ha.below hS0.be; have hb1 := hb.below hS0.be
 go_enter Tryd.func34, Tryd.ntmps34
 go_wp2_with fail; rw [← HW.out]; refine (valid2_good _ _ _ _ _ pa qa pb qb _ hp ha1 hb1 ga gb).mono ?_; rintro e W2 ⟨rfl, hbe⟩; have hS2 := hS0.below hbe; have f1 := (hS2.bx (w.heap.size, .slice A1 k1 c1, .slice A2 k2 c2) (by simp)).1.facts.1; have f2 := (hS2.bx (w.heap.size, .slice A1 k1 c1, .slice A2 k2 c2) (by simp)).1.facts.2; have f3 := (hS2.bx (w.heap.size + 1, .slice B1 l1 u1, .slice B2 l2 u2) (by simp)).1.facts.1; have f4 := (hS2.bx (w.heap.size + 1, .slice B1 l1 u1, .slice B2 l2 u2) (by simp)).1.facts.2; go_wp2_with fail; refine (crossed3_n A1 A2 B1 B2 k1 c1 k2 c2 l1 u1 l2 u2 pa qa pb qb _ (show Nb W2 A1 k1 c1 (pa) from hS2.nb (A1, k1, c1, pa) (by simp)) (show Nb W2 A2 k2 c2 (Nm.dn qa) from hS2.nb (A2, k2, c2, Nm.dn qa) (by simp)) (show Nb W2 B1 l1 u1 (pb) from hS2.nb (B1, l1, u1, pb) (by simp)) (show Nb W2 B2 l2 u2 (Nm.dn qb) from hS2.nb (B2, l2, u2, Nm.dn qb) (by simp)) hqa hqb s1 s2 s3 s4).mono ?_; rintro e W3 ⟨x, y, z, rfl, ⟨X, kx, cx, rfl, hx⟩, ⟨Y, ky, cy, rfl, hy⟩, ⟨Z, kz, cz, rfl, hz⟩, hb3⟩; have hS3 := hS2.below hb3; clear f1 f2 f3 f4 hS2 hS0 hbe hb3 ha1 hb1 HW hp; go_wp2_with fail; refine (compare_n _ _ _ _ _ _ _ _ _ hx hy).mono ?_; rintro e W4' ⟨dr, rfl, rfl⟩; obtain ⟨cc, hcc⟩ : ∃ cc, Hid (cc = Nm.cmpN (pa * qb) (pb * qa)) := ⟨_, rfl⟩; rw [← hcc.out]; have hb4 := below_drewN W3 dr
 have hcn : ¬ 0 < cc := by
  rw [hcc.out]; unfold Nm.cmpN
  split
  ·omega
  ·rw [if_neg (by omega)]; omega
 have hd : decide (0 < cc) = false := by simpa using hcn
 have hS3 := hS3.below hb4; obtain ⟨W4, hW4⟩ : ∃ z, z = W3.drewN dr := ⟨_, rfl⟩; rw [← hW4] at hS3 ⊢; clear hcc hcn hx hy hz hb4 hW4; go_upto_region 10 with fail; refine wp_nmS ?_; intro W5 HW5; have hb45 : Below W4.heap.size W4 W5 := by rw [HW5.out]; exact Below.tr (Below.tr (bA _ _) (bA _ _)) (bA _ _)
 have hN1 : Nb W5 (some ⟨W4.heap.size, 0, none⟩) 1 1 1 := by rw [HW5.out]; exact ((Nb.one W4 _ rfl).below (bA _ _)).below (bA _ _)
 obtain ⟨T1, hB1'⟩ : ∃ T, Blk W5 (W4.heap.size + 1) T #[.slice (some ⟨W4.heap.size, 0, none⟩) 1 1] := ⟨_, by rw [HW5.out]; exact Blk.below (Blk.newH (by simp)) (bA _ _) (by simp)⟩; obtain ⟨T2, hB2'⟩ : ∃ T, Blk W5 (W4.heap.size + 1 + 1) T #[.func (.func 72) #[] #[.pointer (some ⟨W4.heap.size + 1, 0, none⟩), .pointer (some ⟨W4.heap.size + 1 + 1, 0, none⟩)]] := ⟨_, by rw [HW5.out]; exact Blk.newH (by simp)⟩; obtain ⟨g1, hg1⟩ : ∃ g, Hid (g = W4.heap.size) := ⟨_, rfl⟩; obtain ⟨gO, hgO⟩ : ∃ g, Hid (g = W4.heap.size + 1) := ⟨_, rfl⟩; obtain ⟨gB, hgB⟩ : ∃ g, Hid (g = W4.heap.size + 1 + 1) := ⟨_, rfl⟩; rw [← hgB.out] at hB2' ⊢; rw [← hgO.out] at hB1' hB2' ⊢; rw [← hg1.out] at hN1 hB1' ⊢; have hsm : SmS gO gB g1 W5 := ⟨hB1'.cell 0, hB2'.cell 0, hN1⟩; have hgl := hS3.sl.lt; have hS5 := hS3.below hb45
 have hZ : SZ w (w.heap.size + 2) [(w.heap.size, 0, .slice A1 k1 c1), (w.heap.size, 1, .slice A2 k2 c2), (w.heap.size + 1, 0, .slice B1 l1 u1), (w.heap.size + 1, 1, .slice B2 l2 u2)] gO gB g1 W5 := by
  refine ⟨⟨?_, hS5.sl, hS5.be, by omega⟩, hsm, by have := hgO.out; omega, by have := hgB.out; omega⟩; intro x hx; have g1 := (hS5.bx (w.heap.size, .slice A1 k1 c1, .slice A2 k2 c2) (by simp)).1.facts; have g2 := (hS5.bx (w.heap.size + 1, .slice B1 l1 u1, .slice B2 l2 u2) (by simp)).1.facts; simp only [List.mem_cons, List.not_mem_nil, or_false] at hx
  rcases hx with rfl | rfl | rfl | rfl
  ·exact ⟨g1.1, by show w.heap.size ≠ w.heap.size + 2; omega⟩
  ·exact ⟨g1.2, by show w.heap.size ≠ w.heap.size + 2; omega⟩
  ·exact ⟨g2.1, by show w.heap.size + 1 ≠ w.heap.size + 2; omega⟩
  ·exact ⟨g2.2, by show w.heap.size + 1 ≠ w.heap.size + 2; omega⟩
 obtain ⟨ga1, ga2⟩ := good_lt ga; obtain ⟨gb1, gb2⟩ := good_lt gb; have hSP : Nm.SimP pa qa pb qb := ⟨hqa, hqb, hle⟩; have HSR := Nm.sim_ok (qa + qb) pa qa pb qb hSP (Nat.le_refl _); have HND2 := HND.out; unfold Nm.simple at HND2; rw [← HND2] at HSR; have HG : Hid (n < Nm.B ^ 64 ∧ d < Nm.B ^ 64 ∧ 0 < d) := ⟨Nat.lt_of_le_of_lt HSR.na ga1, Nat.lt_of_le_of_lt HSR.da ga2, HSR.pos⟩
 have HB : ∀ (C1 : Option Addr) (j1 d1 : Nat) (C2 : Option Addr) (j2 d2 : Nat) (C3 : Option Addr) (j3 d3 : Nat) (C4 : Option Addr) (j4 d4 : Nat) (W : World), SmS gO gB g1 W → Nb W C1 j1 d1 pa → Nb W C2 j2 d2 qa → Nb W C3 j3 d3 pb → Nb W C4 j4 d4 qb → Calls Tryd.prog 72 #[.slice C1 j1 d1, .slice C2 j2 d2, .slice C3 j3 d3, .slice C4 j4 d4, .pointer (some ⟨gO, 0, none⟩), .pointer (some ⟨gB, 0, none⟩)] W fun e w' => ∃ A k c A' k' c', e = .returned (.tuple #[.slice A k c, .slice A' k' c']) ∧ Nb w' A k c n ∧ Nb w' A' k' c' d ∧ Below W.heap.size W w' := by
  intro C1 j1 d1 C2 j2 d2 C3 j3 d3 C4 j4 d4 W hc g1' g2' g3' g4'; have h := between_n (qa + qb) pa qa pb qb C1 j1 d1 C2 j2 d2 C3 j3 d3 C4 j4 d4 gO gB g1 W hc hSP (Nat.le_refl _) ⟨ga1, ga2, gb1, gb2⟩ g1' g2' g3' g4'; rw [← HND2] at h; exact h
 have hA1 := ha.nb.1; have hA2 := ha.nb.2; have hB1 := hb.nb.1; have hB2 := hb.nb.2; clear HW5 hb45 hN1 hB1' hB2' hS3 hS5 hsm hgl HND2 HSR HND ha hb hle hd; refine region_inv (PhiSml gO gB w.heap.size (w.heap.size + 1) (w.heap.size + 2) (.slice A1 k1 c1) (.slice A2 k2 c2) (.slice B1 l1 u1) (.slice B2 l2 u2) qa qb n d) (RX w.heap.size (w.heap.size + 2) (redP n d)) (SZ w (w.heap.size + 2) [(w.heap.size, 0, .slice A1 k1 c1), (w.heap.size, 1, .slice A2 k2 c2), (w.heap.size + 1, 0, .slice B1 l1 u1), (w.heap.size + 1, 1, .slice B2 l2 u2)] gO gB g1) (by kernel_rfl) (by kernel_rfl) (by kernel_rfl) PhiSml.keep (fun _ _ hR hS => hS.step hR) (hZ.step (X := redP n d) (RX.below (bD _) hZ.size hZ.lt)) ?_ ?_
 ·refine sK ?_ (sK ?_ (sK ?_ (sK ?_ (sK ?_ (sK ?_ (sK ?_ (sK ?_ (sK ?_ (sK ?_ (sK ?_ (sK ?_ (sK ?_ (sK ?_ (sK ?_ (sK ?_ (sK ?_ (sZ)))))))))))))))))
  ·intro vs W hS hdep K hK; have f1 := hS.sm.cb; refine ⟨?_⟩; simp only [fillR, Act.put, sA, sB, sC, Nat.zero_add, Nat.reduceAdd] at hK ⊢; go_simp; with_reducible refine hK _ _ (RX.refl _) ?_
   exact rfl
  ·intro vs W hS hdep K hK; refine ⟨?_⟩; simp only [fillR, Act.put, sA, sB, sC, Nat.zero_add, Nat.reduceAdd] at hK ⊢; go_simp; with_reducible refine hK _ _ (RX.refl _) ?_
   exact rfl
  ·intro vs W hS hdep K hK; have d0 := hdep ⟨1, .data⟩ (by simp) rfl; simp only [PhiSml] at d0; have f1 := (hS.cl (w.heap.size, 0, .slice A1 k1 c1) (by simp)).1; refine ⟨?_⟩; simp only [fillR, Act.put, sA, sB, sC, Nat.zero_add, Nat.reduceAdd, d0] at hK ⊢; go_simp; with_reducible refine hK _ _ (RX.refl _) ?_
   exact rfl
  ·intro vs W hS hdep K hK; have f1 := (hS.cl (w.heap.size, 0, .slice A1 k1 c1) (by simp)).1; have f2 := (hS.cl (w.heap.size, 1, .slice A2 k2 c2) (by simp)).1; refine ⟨?_⟩; simp only [fillR, Act.put, sA, sB, sC, Nat.zero_add, Nat.reduceAdd] at hK ⊢; go_simp; with_reducible refine hK _ _ (RX.refl _) ?_
   exact rfl
  ·intro vs W hS hdep K hK; have d0 := hdep ⟨3, .data⟩ (by simp) rfl; simp only [PhiSml] at d0; refine ⟨?_⟩; simp only [fillR, Act.put, sA, sB, sC, Nat.zero_add, Nat.reduceAdd, d0] at hK ⊢; go_simp; refine (den_n _ _ _ _ _ _ _ _ (hA2.below hS.be) hqa (by omega)).mono ?_; rintro e w' ⟨A, k, c, rfl, hn, _, hb⟩; go_wp2_with fail; with_reducible refine hK _ _ (RX.below hb hS.size hS.lt) ?_
   exact ⟨A, k, c, rfl, hn⟩
  ·intro vs W hS hdep K hK; refine ⟨?_⟩; simp only [fillR, Act.put, sA, sB, sC, Nat.zero_add, Nat.reduceAdd] at hK ⊢; go_simp; with_reducible refine hK _ _ (RX.refl _) ?_
   exact rfl
  ·intro vs W hS hdep K hK; have d0 := hdep ⟨5, .data⟩ (by simp) rfl; simp only [PhiSml] at d0; have f1 := (hS.cl (w.heap.size + 1, 0, .slice B1 l1 u1) (by simp)).1; refine ⟨?_⟩; simp only [fillR, Act.put, sA, sB, sC, Nat.zero_add, Nat.reduceAdd, d0] at hK ⊢; go_simp; with_reducible refine hK _ _ (RX.refl _) ?_
   exact rfl
  ·intro vs W hS hdep K hK; have f1 := (hS.cl (w.heap.size + 1, 0, .slice B1 l1 u1) (by simp)).1; have f2 := (hS.cl (w.heap.size + 1, 1, .slice B2 l2 u2) (by simp)).1; refine ⟨?_⟩; simp only [fillR, Act.put, sA, sB, sC, Nat.zero_add, Nat.reduceAdd] at hK ⊢; go_simp; with_reducible refine hK _ _ (RX.refl _) ?_
   exact rfl
  ·intro vs W hS hdep K hK; have d0 := hdep ⟨7, .data⟩ (by simp) rfl; simp only [PhiSml] at d0; refine ⟨?_⟩; simp only [fillR, Act.put, sA, sB, sC, Nat.zero_add, Nat.reduceAdd, d0] at hK ⊢; go_simp; refine (den_n _ _ _ _ _ _ _ _ (hB2.below hS.be) hqb (by omega)).mono ?_; rintro e w' ⟨A, k, c, rfl, hn, _, hb⟩; go_wp2_with fail; with_reducible refine hK _ _ (RX.below hb hS.size hS.lt) ?_
   exact ⟨A, k, c, rfl, hn⟩
  ·intro vs W hS hdep K hK; have d0 := hdep ⟨0, .data⟩ (by simp) rfl; simp only [PhiSml] at d0; have d1 := hdep ⟨2, .data⟩ (by simp) rfl; simp only [PhiSml] at d1; have d2 := hdep ⟨4, .data⟩ (by simp) rfl; simp only [PhiSml] at d2; refine @exE3 _ _ _ _ _ d2 ?_; clear d2; intro A2 k2 c2 d2; have e2 := d2.1; have n2 := d2.2; clear d2; have d3 := hdep ⟨6, .data⟩ (by simp) rfl; simp only [PhiSml] at d3; have d4 := hdep ⟨8, .data⟩ (by simp) rfl; simp only [PhiSml] at d4; refine @exE3 _ _ _ _ _ d4 ?_; clear d4; intro A4 k4 c4 d4; have e4 := d4.1; have n4 := d4.2; clear d4; refine ⟨?_⟩; simp only [fillR, Act.put, sA, sB, sC, Nat.zero_add, Nat.reduceAdd, d0, d1, e2, d3, e4] at hK ⊢; go_simp; refine (HB _ _ _ _ _ _ _ _ _ _ _ _ _ hS.sm (hA1.below hS.be) n2 (hB1.below hS.be) n4).mono ?_; rintro e w' ⟨A, k, c, A', k', c', rfl, hn, hn', hb⟩; go_wp2_with fail; with_reducible refine hK _ _ (RX.below hb hS.size hS.lt) ?_
   exact ⟨_, _, _, _, _, _, rfl, hn, hn'⟩
  ·intro vs W hS hdep K hK; have d0 := hdep ⟨9, .data⟩ (by simp) rfl; simp only [PhiSml] at d0; have r0 := d0; clear d0; obtain ⟨A, k, c, A', k', c', e, h1', h2'⟩ := r0; refine ⟨?_⟩; simp only [fillR, Act.put, sA, sB, sC, Nat.zero_add, Nat.reduceAdd, e] at hK ⊢; go_simp; with_reducible refine hK _ _ (RX.refl _) ?_
   exact ⟨_, _, _, rfl, h1'⟩
  ·intro vs W hS hdep K hK; have d0 := hdep ⟨9, .data⟩ (by simp) rfl; simp only [PhiSml] at d0; have r0 := d0; clear d0; obtain ⟨A, k, c, A', k', c', e, h1', h2'⟩ := r0; refine ⟨?_⟩; simp only [fillR, Act.put, sA, sB, sC, Nat.zero_add, Nat.reduceAdd, e] at hK ⊢; go_simp; with_reducible refine hK _ _ (RX.refl _) ?_
   exact ⟨_, _, _, rfl, h2'⟩
  ·intro vs W hS hdep K hK; have d0 := hdep ⟨10, .data⟩ (by simp) rfl; simp only [PhiSml] at d0; refine @exE3 _ _ _ _ _ d0 ?_; clear d0; intro A0 k0 c0 d0; have e0 := d0.1; have n0 := d0.2; clear d0; have d1 := hdep ⟨11, .data⟩ (by simp) rfl; simp only [PhiSml] at d1; refine @exE3 _ _ _ _ _ d1 ?_; clear d1; intro A1 k1 c1 d1; have e1 := d1.1; have n1 := d1.2; clear d1; refine ⟨?_⟩; simp only [fillR, Act.put, sA, sB, sC, Nat.zero_add, Nat.reduceAdd, e0, e1] at hK ⊢; go_simp; refine (reduced_ok _ _ _ _ _ _ n d _ n0 n1 HG.out.1 HG.out.2.1 HG.out.2.2).mono ?_; rintro e w' ⟨v, rfl, hv, hb⟩; go_wp2_with fail; with_reducible refine hK _ _ (RX.below hb hS.size hS.lt) ?_
   exact ⟨v, rfl, hv⟩
  ·intro vs W hS hdep K hK; have d0 := hdep ⟨12, .data⟩ (by simp) rfl; simp only [PhiSml] at d0; refine @exE1 _ _ _ d0 ?_; clear d0; intro v0 d0; have e0 := d0.1; have n0 := d0.2; clear d0; refine ⟨?_⟩; simp only [fillR, Act.put, sA, sB, sC, Nat.zero_add, Nat.reduceAdd, e0] at hK ⊢; go_simp; with_reducible refine hK _ _ (RX.refl _) ?_
   exact n0
  ·intro vs W hS hdep K hK; have d0 := hdep ⟨12, .data⟩ (by simp) rfl; simp only [PhiSml] at d0; refine @exE1 _ _ _ d0 ?_; clear d0; intro v0 d0; have e0 := d0.1; have n0 := d0.2; clear d0; refine ⟨?_⟩; simp only [fillR, Act.put, sA, sB, sC, Nat.zero_add, Nat.reduceAdd, e0] at hK ⊢; go_simp; with_reducible refine hK _ _ (RX.refl _) ?_
   exact rfl
  ·intro vs W hS hdep K hK; have d0 := hdep ⟨13, .data⟩ (by simp) rfl; simp only [PhiSml] at d0; have r0 := d0; clear d0; obtain ⟨A, k, c, A', k', c', e0⟩ := r0.shape; rw [e0] at r0; obtain ⟨r1, r2, r3, r4, r5, r6, hres⟩ := hS.sl; have q1 := hres.cell 0; have q2 := hres.cell 1; have q3 := hres.frozen 0; have q4 := hres.frozen 1; simp at q1 q2; have HR := Lib.hid (RX.store (B := w.heap.size) hS.sl hS.ge r0); clear hres; refine ⟨?_⟩; simp only [fillR, Act.put, sA, sB, sC, Nat.zero_add, Nat.reduceAdd, e0] at hK ⊢; go_simp; with_reducible refine hK undef _ HR.out.1 ?_
   exact HR.out.2
  ·intro vs W hS hdep K hK; have d0 := hdep ⟨14, .data⟩ (by simp) rfl; simp only [PhiSml] at d0; refine ⟨?_⟩; simp only [fillR, Act.put, sA, sB, sC, Nat.zero_add, Nat.reduceAdd, d0] at hK ⊢; go_simp; with_reducible refine hK _ _ (RX.refl _) ?_
   exact rfl
 ·intro vs W hS hv; have vG := hv 15 (by simp); have v16 := hv 16 (by simp); simp only [PhiSml] at vG v16; obtain ⟨A, k, c, A', k', c', hblk, hP⟩ := vG; have q1 := hblk.cell 0; have q2 := hblk.cell 1; simp at q1 q2; have HP := Lib.hid hP; have hbz := hS.be; clear hv hblk hP hS; simp only [fillR, Act.put, sA, sB, sC, Nat.zero_add, Nat.reduceAdd, v16]; go_wp2_with fail; exact bodyPost_ret (v := .tuple #[.agg #[.slice A k c, .slice A' k' c'], .int .i64 0]) (by simp [results, Tryd.results34, go_sem, q1, q2]) rfl ⟨_, rfl, HP.out, hbz⟩
set_option maxRecDepth 10000 in
set_option maxHeartbeats 2000000 in
theorem simplest_gt (va vb : Value) (pa qa pb qb : Nat) (w : World) (ha : Rat w va pa qa) (hb : Rat w vb pb qb) (ga : Nm.Good pa qa) (gb : Nm.Good pb qb) (hlt : pb * qa < pa * qb) :
  Calls Tryd.prog 34 #[va, vb] w fun e w' => e = .returned (.tuple #[nilRat, .int .i64 5]) ∧ Below w.heap.size w w' := by
 obtain ⟨A1, k1, c1, A2, k2, c2, rfl⟩ := ha.shape; obtain ⟨B1, l1, u1, B2, l2, u2, rfl⟩ := hb.shape; obtain ⟨W, HW⟩ : ∃ W, Hid (W = ((((w.alloc (.cells #[.slice A1 k1 c1, .slice A2 k2 c2] 28)).alloc (.cells #[.slice B1 l1 u1, .slice B2 l2 u2] 28)).alloc (.cells #[.slice none 0 0, .slice none 0 0] 28)).alloc (.cells #[.slice A1 k1 c1, .slice A2 k2 c2, .slice B1 l1 u1, .slice B2 l2 u2] 28))) := ⟨_, rfl⟩; have hqa := ga.pos; have hqb := gb.pos; obtain ⟨s1, s2⟩ := ha.small ga; obtain ⟨s3, s4⟩ := hb.small gb
 have hS0 : SR w (w.heap.size + 2) [(A1, k1, c1, pa), (A2, k2, c2, Nm.dn qa), (B1, l1, u1, pb), (B2, l2, u2, Nm.dn qb)] [(w.heap.size, .slice A1 k1 c1, .slice A2 k2 c2), (w.heap.size + 1, .slice B1 l1 u1, .slice B2 l2 u2)] W := by
  have hbw : Below w.heap.size w (((w.alloc (.cells #[.slice A1 k1 c1, .slice A2 k2 c2] 28)).alloc (.cells #[.slice B1 l1 u1, .slice B2 l2 u2] 28)).alloc (.cells #[.slice none 0 0, .slice none 0 0] 28)) := Below.tr (Below.tr (bA _ _) (bA _ _)) (bA _ _)
  have h0 : SR w (w.heap.size + 2) [(A1, k1, c1, pa), (A2, k2, c2, Nm.dn qa), (B1, l1, u1, pb), (B2, l2, u2, Nm.dn qb)] [(w.heap.size, .slice A1 k1 c1, .slice A2 k2 c2), (w.heap.size + 1, .slice B1 l1 u1, .slice B2 l2 u2)] (((w.alloc (.cells #[.slice A1 k1 c1, .slice A2 k2 c2] 28)).alloc (.cells #[.slice B1 l1 u1, .slice B2 l2 u2] 28)).alloc (.cells #[.slice none 0 0, .slice none 0 0] 28)) := by
   refine ⟨?_, ?_, ?_, hbw, by omega⟩
   ·intro x hx; simp only [List.mem_cons, List.not_mem_nil, or_false] at hx
    rcases hx with rfl | rfl | rfl | rfl
    ·exact ((ha.below hbw).nb).1
    ·exact ((ha.below hbw).nb).2
    ·exact ((hb.below hbw).nb).1
    ·exact ((hb.below hbw).nb).2
   ·intro x hx; simp only [List.mem_cons, List.not_mem_nil, or_false] at hx
    rcases hx with rfl | rfl
    ·exact ⟨(Box.below (Blk.new w _ _) (bA _ _)).below (bA _ _), by show w.heap.size ≠ w.heap.size + 2; omega⟩
    ·refine ⟨?_, by show w.heap.size + 1 ≠ w.heap.size + 2; omega⟩; have := Blk.new (w.alloc (.cells #[.slice A1 k1 c1, .slice A2 k2 c2] 28)) 28 #[.slice B1 l1 u1, .slice B2 l2 u2]; refine Box.below ?_ (bA _ _); unfold Box; simpa using this
   ·have := Blk.new ((w.alloc (.cells #[.slice A1 k1 c1, .slice A2 k2 c2] 28)).alloc (.cells #[.slice B1 l1 u1, .slice B2 l2 u2] 28)) 28 #[.slice none 0 0, .slice none 0 0]; exact ⟨none, 0, 0, none, 0, 0, by simpa using this⟩
  rw [HW.out]; exact h0.below (bA _ _)
 have hp : Pair W (w.heap.size + 3) (.slice A1 k1 c1) (.slice A2 k2 c2) (.slice B1 l1 u1) (.slice B2 l2 u2) := by
  rw [HW.out]; have := Blk.new (((w.alloc (.cells #[.slice A1 k1 c1, .slice A2 k2 c2] 28)).alloc (.cells #[.slice B1 l1 u1, .slice B2 l2 u2] 28)).alloc (.cells #[.slice none 0 0, .slice none 0 0] 28)) 28 #[.slice A1 k1 c1, .slice A2 k2 c2, .slice B1 l1 u1, .slice B2 l2 u2]; unfold Pair; simpa using this
 have ha1 := ha.below hS0.be; have hb1 := hb.below hS0.be
 go_enter Tryd.func34, Tryd.ntmps34
 go_wp2_with fail; rw [← HW.out]; refine (valid2_good _ _ _ _ _ pa qa pb qb _ hp ha1 hb1 ga gb).mono ?_; rintro e W2 ⟨rfl, hbe⟩; have hS2 := hS0.below hbe; have f1 := (hS2.bx (w.heap.size, .slice A1 k1 c1, .slice A2 k2 c2) (by simp)).1.facts.1; have f2 := (hS2.bx (w.heap.size, .slice A1 k1 c1, .slice A2 k2 c2) (by simp)).1.facts.2; have f3 := (hS2.bx (w.heap.size + 1, .slice B1 l1 u1, .slice B2 l2 u2) (by simp)).1.facts.1; have f4 := (hS2.bx (w.heap.size + 1, .slice B1 l1 u1, .slice B2 l2 u2) (by simp)).1.facts.2; go_wp2_with fail; refine (crossed3_n A1 A2 B1 B2 k1 c1 k2 c2 l1 u1 l2 u2 pa qa pb qb _ (show Nb W2 A1 k1 c1 (pa) from hS2.nb (A1, k1, c1, pa) (by simp)) (show Nb W2 A2 k2 c2 (Nm.dn qa) from hS2.nb (A2, k2, c2, Nm.dn qa) (by simp)) (show Nb W2 B1 l1 u1 (pb) from hS2.nb (B1, l1, u1, pb) (by simp)) (show Nb W2 B2 l2 u2 (Nm.dn qb) from hS2.nb (B2, l2, u2, Nm.dn qb) (by simp)) hqa hqb s1 s2 s3 s4).mono ?_; rintro e W3 ⟨x, y, z, rfl, ⟨X, kx, cx, rfl, hx⟩, ⟨Y, ky, cy, rfl, hy⟩, ⟨Z, kz, cz, rfl, hz⟩, hb3⟩; have hS3 := hS2.below hb3; clear f1 f2 f3 f4 hS2 hS0 hbe hb3 ha1 hb1 HW hp; go_wp2_with fail; refine (compare_n _ _ _ _ _ _ _ _ _ hx hy).mono ?_; rintro e W4' ⟨dr, rfl, rfl⟩; obtain ⟨cc, hcc⟩ : ∃ cc, Hid (cc = Nm.cmpN (pa * qb) (pb * qa)) := ⟨_, rfl⟩; rw [← hcc.out]; have hb4 := below_drewN W3 dr
 have hd : decide (0 < cc) = true := by
  rw [hcc.out]; unfold Nm.cmpN; rw [if_neg (by omega), if_pos hlt]; rfl
 clear hcc; have hS3 := hS3.below hb4; have hbe3 := hS3.be; clear hx hy hz hb4; obtain ⟨r1, r2, r3, r4, r5, r6, hres⟩ := hS3.sl; have q1 := hres.cell 0; have q2 := hres.cell 1; have q3 := hres.frozen 0; have q4 := hres.frozen 1; simp only [List.getElem?_toArray, List.getElem?_cons_zero, List.getElem?_cons_succ] at q1 q2; have hblk := (hres.set_ 0 (.slice none 0 0)).set_ 1 (.slice none 0 0); have z1 := hblk.cell 0; have z2 := hblk.cell 1; simp at z1 z2; have hbz := (hbe3.setCell (p := ⟨w.heap.size + 2, 0, none⟩) (show w.heap.size ≤ w.heap.size + 2 by omega) (.slice none 0 0)).setCell (p := ⟨w.heap.size + 2, 1, none⟩) (show w.heap.size ≤ w.heap.size + 2 by omega) (.slice none 0 0); clear hres hblk; go_wp2_with fail; exact bodyPost_ret (v := .tuple #[nilRat, .int .i64 5]) (by simp [results, Tryd.results34, go_sem, z1, z2, nilRat]) rfl ⟨rfl, hbz⟩
set_option maxRecDepth 10000 in
set_option maxHeartbeats 2000000 in
theorem simplest_err (va vb : Value) (l1 l2 l3 l4 : List Nat) (w : World) (ha : RtL w va l1 l2) (hb : RtL w vb l3 l4) (hne : firstE (Nm.validE l1 l2) (Nm.validE l3 l4) ≠ 0) :
  Calls Tryd.prog 34 #[va, vb] w fun e w' => e = .returned (.tuple #[nilRat, .int .i64 (firstE (Nm.validE l1 l2) (Nm.validE l3 l4))]) ∧ Below w.heap.size w w' := by
 obtain ⟨A1, k1, c1, A2, k2, c2, rfl⟩ := ha.shape; obtain ⟨B1, m1, d1, B2, m2, d2, rfl⟩ := hb.shape; obtain ⟨W1, HW1⟩ : ∃ W1, Hid (W1 = (((w.alloc (.cells #[.slice A1 k1 c1, .slice A2 k2 c2] 28)).alloc (.cells #[.slice B1 m1 d1, .slice B2 m2 d2] 28)).alloc (.cells #[.slice none 0 0, .slice none 0 0] 28))) := ⟨_, rfl⟩
 have hres : Res W1 (w.heap.size + 2) := by
  rw [HW1.out]; have := Blk.new ((w.alloc (.cells #[.slice A1 k1 c1, .slice A2 k2 c2] 28)).alloc (.cells #[.slice B1 m1 d1, .slice B2 m2 d2] 28)) 28 #[.slice none 0 0, .slice none 0 0]; unfold Res; simpa using this
 have hbw1 : Below w.heap.size w W1 := by rw [HW1.out]; exact Below.tr (Below.tr (bA _ _) (bA _ _)) (bA _ _)
 obtain ⟨W, HW⟩ : ∃ W, Hid (W = (W1.alloc (.cells #[.slice A1 k1 c1, .slice A2 k2 c2, .slice B1 m1 d1, .slice B2 m2 d2] 28))) := ⟨_, rfl⟩
 have hp : Pair W (w.heap.size + 3) (.slice A1 k1 c1) (.slice A2 k2 c2) (.slice B1 m1 d1) (.slice B2 m2 d2) := by
  have := Blk.new W1 28 #[.slice A1 k1 c1, .slice A2 k2 c2, .slice B1 m1 d1, .slice B2 m2 d2]; rw [HW.out]; have e : W1.heap.size = w.heap.size + 3 := by rw [HW1.out]; simp
  rw [e] at this; exact this
 have hbw : Below w.heap.size w W := by rw [HW.out]; exact Below.tr hbw1 (bA _ _)
 have hres := hres.below (show Below W1.heap.size W1 W by rw [HW.out]; exact bA _ _); have ha1 := ha.below hbw; have hb1 := hb.below hbw
 go_enter Tryd.func34, Tryd.ntmps34
 go_wp2_with fail; rw [← HW1.out, ← HW.out]; refine (valid2_any _ _ _ _ _ l1 l2 l3 l4 _ hp ha1 hb1).mono ?_; rintro e W2 ⟨E, rfl, HE, hbe⟩; have h0 : (E != 0) = true := by rw [HE.out]; simpa using hne
 have hres2 := hres.below hbe; obtain ⟨r1, r2, r3, r4⟩ := hres2.facts; obtain ⟨s1, s2⟩ := hres2.set2 (.slice none 0 0) (.slice none 0 0); have hbw2 := below_set2 (Below.tr hbw hbe) (show w.heap.size ≤ w.heap.size + 2 by omega) (.slice none 0 0) (.slice none 0 0); clear hne; go_wp2_with fail; exact bodyPost_ret (v := .tuple #[nilRat, .int .i64 E]) (by simp [results, Tryd.results34, go_sem, s1, s2, nilRat]) rfl ⟨by rw [HE.out], hbw2⟩
theorem simplest_F : BinC 34 simF := binC_of (fun va vb a b w ha hb h => simplest_err va vb _ _ _ _ w ha hb h) fun va vb pa qa pb qb w ha hb ga gb => by
 dsimp only
 by_cases hlt : pb * qa < pa * qb
 ·rw [if_pos hlt]; refine (simplest_gt va vb pa qa pb qb w ha hb ga gb hlt).mono ?_; rintro e w' ⟨rfl, hb⟩; exact ⟨_, rfl, nil_rtP w', hb⟩
 ·rw [if_neg hlt]; exact simplest_n va vb pa qa pb qb w ha hb ga gb (by omega)
end Go.Proofs.YtnjjdiilkhdbeaaDoor
namespace Go.Proofs.YtnjjdiilkhdbeaaDoor
open Go.RowKit
def PhiPD (b1 b2 g : Nat) (a1 a2 d1 d2 : Value) (pa qa pb qb : Nat) (j : Nat) (w : World) (x : Value) : Prop :=
 match j with
 | 0 => x = .pointer (some ⟨b1, 0, none⟩)
 | 1 => x = a1
 | 2 => x = .agg #[d1, d2]
 | 3 => IsNb w x qb 65
 | 4 => IsNb w x (pa * qb) 130
 | 5 => x = .agg #[a1, a2]
 | 6 => IsNb w x qa 65
 | 7 => x = .pointer (some ⟨b2, 0, none⟩)
 | 8 => x = d1
 | 9 => IsNb w x (qa * pb) 130
 | 10 => ∃ v er, x = .tuple #[v, .int .i64 er] ∧ RedP w v er (pa * qb) (qa * pb)
 | 11 => RedV w x (pa * qb) (qa * pb)
 | 12 => ∃ er, x = .int .i64 er ∧ ErrOf (pa * qb) (qa * pb) er
 | 13 => GoodR w g (pa * qb) (qa * pb)
 | 14 => ∃ er, x = .int .i64 er ∧ ErrOf (pa * qb) (qa * pb) er
 | _ => True
theorem PhiPD.keep {B : Nat} {b1 b2 g : Nat} {a1 a2 d1 d2 : Value} {pa qa pb qb : Nat} : ∀ (w w' : World), RM B g (pa * qb) (qa * pb) w w' → ∀ j x, PhiPD b1 b2 g a1 a2 d1 d2 pa qa pb qb j w x → PhiPD b1 b2 g a1 a2 d1 d2 pa qa pb qb j w' x := by
 intro w w' hr j x h; unfold PhiPD at h ⊢
 split <;> simp only at h ⊢
 all_goals first
  | exact h
  | exact h.map hr.nb
  | (obtain ⟨v, er, rfl, h⟩ := h; exact ⟨v, er, rfl, h.map hr.nb⟩)
  | (obtain ⟨A, k, c, A', k', c', er, rfl, h⟩ := h; exact ⟨A, k, c, A', k', c', er, rfl, h.map hr.nb⟩)
  | (rcases hr.good with h2 | h2; exact h2; obtain ⟨A, k, c, A', k', c', er, h3, h4⟩ := h; exact ⟨A, k, c, A', k', c', er, h2.trans h3, h4.map hr.nb⟩)
set_option maxRecDepth 10000 in
set_option maxHeartbeats 2000000 in
theorem div_n (va vb : Value) (pa qa pb qb : Nat) (w : World) (ha : Rat w va pa qa) (hb : Rat w vb pb qb) (ga : Nm.Good pa qa) (gb : Nm.Good pb qb) (hpb : 0 < pb) :
  Calls Tryd.prog 30 #[va, vb] w fun e w' => ∃ v er, e = .returned (.tuple #[v, .int .i64 er]) ∧ RedP w' v er (pa * qb) (qa * pb) ∧ Below w.heap.size w w' := by
 obtain ⟨A1, k1, c1, A2, k2, c2, rfl⟩ := ha.shape; obtain ⟨B1, l1, u1, B2, l2, u2, rfl⟩ := hb.shape; obtain ⟨W, HW⟩ : ∃ W, Hid (W = ((((w.alloc (.cells #[.slice A1 k1 c1, .slice A2 k2 c2] 28)).alloc (.cells #[.slice B1 l1 u1, .slice B2 l2 u2] 28)).alloc (.cells #[.slice none 0 0, .slice none 0 0] 28)).alloc (.cells #[.slice A1 k1 c1, .slice A2 k2 c2, .slice B1 l1 u1, .slice B2 l2 u2] 28))) := ⟨_, rfl⟩; have hqa := ga.pos; have hqb := gb.pos; obtain ⟨s1, s2⟩ := ha.small ga; obtain ⟨s3, s4⟩ := hb.small gb
 have hS0 : SR w (w.heap.size + 2) [(A1, k1, c1, pa), (A2, k2, c2, Nm.dn qa), (B1, l1, u1, pb), (B2, l2, u2, Nm.dn qb)] [(w.heap.size, .slice A1 k1 c1, .slice A2 k2 c2), (w.heap.size + 1, .slice B1 l1 u1, .slice B2 l2 u2)] W := by
  have hbw : Below w.heap.size w (((w.alloc (.cells #[.slice A1 k1 c1, .slice A2 k2 c2] 28)).alloc (.cells #[.slice B1 l1 u1, .slice B2 l2 u2] 28)).alloc (.cells #[.slice none 0 0, .slice none 0 0] 28)) := Below.tr (Below.tr (bA _ _) (bA _ _)) (bA _ _)
  have h0 : SR w (w.heap.size + 2) [(A1, k1, c1, pa), (A2, k2, c2, Nm.dn qa), (B1, l1, u1, pb), (B2, l2, u2, Nm.dn qb)] [(w.heap.size, .slice A1 k1 c1, .slice A2 k2 c2), (w.heap.size + 1, .slice B1 l1 u1, .slice B2 l2 u2)] (((w.alloc (.cells #[.slice A1 k1 c1, .slice A2 k2 c2] 28)).alloc (.cells #[.slice B1 l1 u1, .slice B2 l2 u2] 28)).alloc (.cells #[.slice none 0 0, .slice none 0 0] 28)) := by
   refine ⟨?_, ?_, ?_, hbw, by omega⟩
   ·intro x hx; simp only [List.mem_cons, List.not_mem_nil, or_false] at hx
    rcases hx with rfl | rfl | rfl | rfl
    ·exact ((ha.below hbw).nb).1
    ·exact ((ha.below hbw).nb).2
    ·exact ((hb.below hbw).nb).1
    ·exact ((hb.below hbw).nb).2
   ·intro x hx; simp only [List.mem_cons, List.not_mem_nil, or_false] at hx
    rcases hx with rfl | rfl
    ·exact ⟨(Box.below (Blk.new w _ _) (bA _ _)).below (bA _ _), by show w.heap.size ≠ w.heap.size + 2; omega⟩
    ·refine ⟨?_, by show w.heap.size + 1 ≠ w.heap.size + 2; omega⟩; have := Blk.new (w.alloc (.cells #[.slice A1 k1 c1, .slice A2 k2 c2] 28)) 28 #[.slice B1 l1 u1, .slice B2 l2 u2]; refine Box.below ?_ (bA _ _); unfold Box; simpa using this
   ·have := Blk.new ((w.alloc (.cells #[.slice A1 k1 c1, .slice A2 k2 c2] 28)).alloc (.cells #[.slice B1 l1 u1, .slice B2 l2 u2] 28)) 28 #[.slice none 0 0, .slice none 0 0]; exact ⟨none, 0, 0, none, 0, 0, by simpa using this⟩
  rw [HW.out]; exact h0.below (bA _ _)
 have hp : Pair W (w.heap.size + 3) (.slice A1 k1 c1) (.slice A2 k2 c2) (.slice B1 l1 u1) (.slice B2 l2 u2) := by
  rw [HW.out]; have := Blk.new (((w.alloc (.cells #[.slice A1 k1 c1, .slice A2 k2 c2] 28)).alloc (.cells #[.slice B1 l1 u1, .slice B2 l2 u2] 28)).alloc (.cells #[.slice none 0 0, .slice none 0 0] 28)) 28 #[.slice A1 k1 c1, .slice A2 k2 c2, .slice B1 l1 u1, .slice B2 l2 u2]; unfold Pair; simpa using this
 have ha1 := ha.below hS0.be; have hb1 := hb.below hS0.be
 go_enter Tryd.func30, Tryd.ntmps30
 have hl1 : 0 < l1 := (hb.nb).1.pos hpb; have tz : ((l1 : Int) == 0) = false := by simp; omega
 go_wp2_with fail; rw [← HW.out]; refine (valid2_good _ _ _ _ _ pa qa pb qb _ hp ha1 hb1 ga gb).mono ?_; rintro e W2 ⟨rfl, hbe⟩; have hS2 := hS0.below hbe; have f1 := (hS2.bx (w.heap.size, .slice A1 k1 c1, .slice A2 k2 c2) (by simp)).1.facts.1; have f2 := (hS2.bx (w.heap.size, .slice A1 k1 c1, .slice A2 k2 c2) (by simp)).1.facts.2; have f3 := (hS2.bx (w.heap.size + 1, .slice B1 l1 u1, .slice B2 l2 u2) (by simp)).1.facts.1; have f4 := (hS2.bx (w.heap.size + 1, .slice B1 l1 u1, .slice B2 l2 u2) (by simp)).1.facts.2; go_wp2_with fail; clear f1 f2 f3 f4 ha1 hb1 hS0 hbe HW ha hb hp; refine region_inv (PhiPD w.heap.size (w.heap.size + 1) (w.heap.size + 2) (.slice A1 k1 c1) (.slice A2 k2 c2) (.slice B1 l1 u1) (.slice B2 l2 u2) pa qa pb qb) (RM w.heap.size (w.heap.size + 2) (pa * qb) (qa * pb)) (SR w (w.heap.size + 2) [(A1, k1, c1, pa), (A2, k2, c2, Nm.dn qa), (B1, l1, u1, pb), (B2, l2, u2, Nm.dn qb)] [(w.heap.size, .slice A1 k1 c1, .slice A2 k2 c2), (w.heap.size + 1, .slice B1 l1 u1, .slice B2 l2 u2)]) (by kernel_rfl) (by kernel_rfl) (by kernel_rfl) PhiPD.keep (fun _ _ hR hS => hS.step hR) (hS2.below (bD _)) ?_ ?_
 ·refine sK ?_ (sK ?_ (sK ?_ (sK ?_ (sK ?_ (sK ?_ (sK ?_ (sK ?_ (sK ?_ (sK ?_ (sK ?_ (sK ?_ (sK ?_ (sK ?_ (sK ?_ (sZ)))))))))))))))
  ·intro vs W hS hdep K hK; refine ⟨?_⟩; simp only [fillR, Act.put, sA, sB, sC, Nat.zero_add, Nat.reduceAdd] at hK ⊢; go_simp; with_reducible refine hK _ _ (RM.refl _) ?_
   exact rfl
  ·intro vs W hS hdep K hK; have d0 := hdep ⟨0, .data⟩ (by simp) rfl; simp only [PhiPD] at d0; have f1 := (hS.bx (w.heap.size, .slice A1 k1 c1, .slice A2 k2 c2) (by simp)).1.facts.1; have f2 := (hS.bx (w.heap.size, .slice A1 k1 c1, .slice A2 k2 c2) (by simp)).1.facts.2; refine ⟨?_⟩; simp only [fillR, Act.put, sA, sB, sC, Nat.zero_add, Nat.reduceAdd, d0] at hK ⊢; go_simp; with_reducible refine hK _ _ (RM.refl _) ?_
   exact rfl
  ·intro vs W hS hdep K hK; have f1 := (hS.bx (w.heap.size + 1, .slice B1 l1 u1, .slice B2 l2 u2) (by simp)).1.facts.1; have f2 := (hS.bx (w.heap.size + 1, .slice B1 l1 u1, .slice B2 l2 u2) (by simp)).1.facts.2; refine ⟨?_⟩; simp only [fillR, Act.put, sA, sB, sC, Nat.zero_add, Nat.reduceAdd] at hK ⊢; go_simp; with_reducible refine hK _ _ (RM.refl _) ?_
   exact rfl
  ·intro vs W hS hdep K hK; have d0 := hdep ⟨2, .data⟩ (by simp) rfl; simp only [PhiPD] at d0; refine ⟨?_⟩; simp only [fillR, Act.put, sA, sB, sC, Nat.zero_add, Nat.reduceAdd, d0] at hK ⊢; go_simp; refine (den_n _ _ _ _ _ _ _ _ (show Nb W B2 l2 u2 (Nm.dn qb) from hS.nb (B2, l2, u2, Nm.dn qb) (by simp)) hqb (by omega)).mono ?_; rintro e w' ⟨A, k, c, rfl, hn, hk, hb⟩; go_wp2_with fail; with_reducible refine hK _ _ (RM.below hb hS.size hS.lt) ?_
   exact ⟨A, k, c, rfl, hn, by have := hk.out; omega⟩
  ·intro vs W hS hdep K hK; have d0 := hdep ⟨1, .data⟩ (by simp) rfl; simp only [PhiPD] at d0; have d1 := hdep ⟨3, .data⟩ (by simp) rfl; simp only [PhiPD] at d1; refine @exE3 _ _ _ _ _ d1 ?_; clear d1; intro P1 p1 q1 d1; have e1 := d1.1; have n1 := d1.2.1; have m1 := d1.2.2; clear d1; refine ⟨?_⟩; simp only [fillR, Act.put, sA, sB, sC, Nat.zero_add, Nat.reduceAdd, d0, e1] at hK ⊢; go_simp; refine (times_n _ _ _ _ _ _ _ _ _ (show Nb W A1 k1 c1 (pa) from hS.nb (A1, k1, c1, pa) (by simp)) n1 (by omega) (by omega)).mono ?_; rintro e w' ⟨A, k, c, rfl, hn, hb⟩; go_wp2_with fail; with_reducible refine hK _ _ (RM.below hb hS.size hS.lt) ?_
   exact ⟨A, k, c, rfl, hn, hn.lek (prod_ltG (m1 := 65) (m2 := 65) (show Nb W A1 k1 c1 (pa) from hS.nb (A1, k1, c1, pa) (by simp)).lt (by omega) n1.lt m1 (by decide))⟩
  ·intro vs W hS hdep K hK; have f1 := (hS.bx (w.heap.size, .slice A1 k1 c1, .slice A2 k2 c2) (by simp)).1.facts.1; have f2 := (hS.bx (w.heap.size, .slice A1 k1 c1, .slice A2 k2 c2) (by simp)).1.facts.2; refine ⟨?_⟩; simp only [fillR, Act.put, sA, sB, sC, Nat.zero_add, Nat.reduceAdd] at hK ⊢; go_simp; with_reducible refine hK _ _ (RM.refl _) ?_
   exact rfl
  ·intro vs W hS hdep K hK; have d0 := hdep ⟨5, .data⟩ (by simp) rfl; simp only [PhiPD] at d0; refine ⟨?_⟩; simp only [fillR, Act.put, sA, sB, sC, Nat.zero_add, Nat.reduceAdd, d0] at hK ⊢; go_simp; refine (den_n _ _ _ _ _ _ _ _ (show Nb W A2 k2 c2 (Nm.dn qa) from hS.nb (A2, k2, c2, Nm.dn qa) (by simp)) hqa (by omega)).mono ?_; rintro e w' ⟨A, k, c, rfl, hn, hk, hb⟩; go_wp2_with fail; with_reducible refine hK _ _ (RM.below hb hS.size hS.lt) ?_
   exact ⟨A, k, c, rfl, hn, by have := hk.out; omega⟩
  ·intro vs W hS hdep K hK; refine ⟨?_⟩; simp only [fillR, Act.put, sA, sB, sC, Nat.zero_add, Nat.reduceAdd] at hK ⊢; go_simp; with_reducible refine hK _ _ (RM.refl _) ?_
   exact rfl
  ·intro vs W hS hdep K hK; have d0 := hdep ⟨7, .data⟩ (by simp) rfl; simp only [PhiPD] at d0; have f1 := (hS.bx (w.heap.size + 1, .slice B1 l1 u1, .slice B2 l2 u2) (by simp)).1.facts.1; have f2 := (hS.bx (w.heap.size + 1, .slice B1 l1 u1, .slice B2 l2 u2) (by simp)).1.facts.2; refine ⟨?_⟩; simp only [fillR, Act.put, sA, sB, sC, Nat.zero_add, Nat.reduceAdd, d0] at hK ⊢; go_simp; with_reducible refine hK _ _ (RM.refl _) ?_
   exact rfl
  ·intro vs W hS hdep K hK; have d0 := hdep ⟨6, .data⟩ (by simp) rfl; simp only [PhiPD] at d0; refine @exE3 _ _ _ _ _ d0 ?_; clear d0; intro P0 p0 q0 d0; have e0 := d0.1; have n0 := d0.2.1; have m0 := d0.2.2; clear d0; have d1 := hdep ⟨8, .data⟩ (by simp) rfl; simp only [PhiPD] at d1; refine ⟨?_⟩; simp only [fillR, Act.put, sA, sB, sC, Nat.zero_add, Nat.reduceAdd, e0, d1] at hK ⊢; go_simp; refine (times_n _ _ _ _ _ _ _ _ _ n0 (show Nb W B1 l1 u1 (pb) from hS.nb (B1, l1, u1, pb) (by simp)) (by omega) (by omega)).mono ?_; rintro e w' ⟨A, k, c, rfl, hn, hb⟩; go_wp2_with fail; with_reducible refine hK _ _ (RM.below hb hS.size hS.lt) ?_
   exact ⟨A, k, c, rfl, hn, hn.lek (prod_ltG (m1 := 65) (m2 := 65) n0.lt m0 (show Nb W B1 l1 u1 (pb) from hS.nb (B1, l1, u1, pb) (by simp)).lt (by omega) (by decide))⟩
  ·intro vs W hS hdep K hK; have d0 := hdep ⟨4, .data⟩ (by simp) rfl; simp only [PhiPD] at d0; refine @exE3 _ _ _ _ _ d0 ?_; clear d0; intro P0 p0 q0 d0; have e0 := d0.1; have n0 := d0.2.1; have m0 := d0.2.2; clear d0; have d1 := hdep ⟨9, .data⟩ (by simp) rfl; simp only [PhiPD] at d1; refine @exE3 _ _ _ _ _ d1 ?_; clear d1; intro P1 p1 q1 d1; have e1 := d1.1; have n1 := d1.2.1; have m1 := d1.2.2; clear d1; refine ⟨?_⟩; simp only [fillR, Act.put, sA, sB, sC, Nat.zero_add, Nat.reduceAdd, e0, e1] at hK ⊢; go_simp; refine (reduced_n _ _ _ _ _ _ _ _ _ n0 n1 (by omega) (by omega) (Nat.mul_pos hqa hpb)).mono ?_; rintro e w' ⟨v, er, rfl, hn, hb⟩; go_wp2_with fail; with_reducible refine hK _ _ (RM.below hb hS.size hS.lt) ?_
   exact ⟨v, er, rfl, hn⟩
  ·intro vs W hS hdep K hK; have d0 := hdep ⟨10, .data⟩ (by simp) rfl; simp only [PhiPD] at d0; refine @exE2 _ _ _ _ d0 ?_; clear d0; intro v0 er0 d0; have e0 := d0.1; have n0 := d0.2; clear d0; refine ⟨?_⟩; simp only [fillR, Act.put, sA, sB, sC, Nat.zero_add, Nat.reduceAdd, e0] at hK ⊢; go_simp; with_reducible refine hK _ _ (RM.refl _) ?_
   exact RedV.of n0
  ·intro vs W hS hdep K hK; have d0 := hdep ⟨10, .data⟩ (by simp) rfl; simp only [PhiPD] at d0; refine @exE2 _ _ _ _ d0 ?_; clear d0; intro v0 er0 d0; have e0 := d0.1; have n0 := d0.2; clear d0; refine ⟨?_⟩; simp only [fillR, Act.put, sA, sB, sC, Nat.zero_add, Nat.reduceAdd, e0] at hK ⊢; go_simp; with_reducible refine hK _ _ (RM.refl _) ?_
   exact ⟨_, rfl, n0.err⟩
  ·intro vs W hS hdep K hK; have d0 := hdep ⟨11, .data⟩ (by simp) rfl; simp only [PhiPD] at d0; obtain ⟨A, k, c, A', k', c', er, e0, n0⟩ := d0; obtain ⟨r1, r2, r3, r4, r5, r6, hres⟩ := hS.sl; have q1 := hres.cell 0; have q2 := hres.cell 1; have q3 := hres.frozen 0; have q4 := hres.frozen 1; simp at q1 q2; have HR := Lib.hid (RM.store (B := w.heap.size) hS.sl hS.ge n0); clear hres; refine ⟨?_⟩; simp only [fillR, Act.put, sA, sB, sC, Nat.zero_add, Nat.reduceAdd, e0] at hK ⊢; go_simp; with_reducible refine hK undef _ HR.out.1 ?_
   exact HR.out.2
  ·intro vs W hS hdep K hK; have d0 := hdep ⟨12, .data⟩ (by simp) rfl; simp only [PhiPD] at d0; refine @exE1 _ _ _ d0 ?_; clear d0; intro er0 d0; have e0 := d0.1; have n0 := d0.2; clear d0; refine ⟨?_⟩; simp only [fillR, Act.put, sA, sB, sC, Nat.zero_add, Nat.reduceAdd, e0] at hK ⊢; go_simp; with_reducible refine hK _ _ (RM.refl _) ?_
   exact ⟨_, rfl, n0⟩
 ·intro vs W hS hv; have vE := hv 14 (by simp); have vG := hv 13 (by simp); simp only [PhiPD] at vE vG; obtain ⟨er, eE, hErr⟩ := vE; obtain ⟨A, k, c, A', k', c', er', hblk, hP⟩ := vG; obtain rfl : er = er' := hErr.uniq hP.err; have q1 := hblk.cell 0; have q2 := hblk.cell 1; simp at q1 q2; have HP := Lib.hid hP; clear hv hErr hblk hP; simp only [fillR, Act.put, sA, sB, sC, Nat.zero_add, Nat.reduceAdd, eE]; go_wp2_with fail; exact bodyPost_ret (v := .tuple #[.agg #[.slice A k c, .slice A' k' c'], .int .i64 er]) (by simp [results, Tryd.results30, go_sem, q1, q2]) rfl ⟨_, _, rfl, HP.out, hS.be⟩
set_option maxRecDepth 10000 in
set_option maxHeartbeats 2000000 in
theorem div_z (va vb : Value) (pa qa pb qb : Nat) (w : World) (ha : Rat w va pa qa) (hb : Rat w vb pb qb) (ga : Nm.Good pa qa) (gb : Nm.Good pb qb) (hpb : pb = 0) :
  Calls Tryd.prog 30 #[va, vb] w fun e w' => e = .returned (.tuple #[nilRat, .int .i64 5]) ∧ Below w.heap.size w w' := by
 obtain ⟨A1, k1, c1, A2, k2, c2, rfl⟩ := ha.shape; obtain ⟨B1, l1, u1, B2, l2, u2, rfl⟩ := hb.shape; obtain ⟨W, HW⟩ : ∃ W, Hid (W = ((((w.alloc (.cells #[.slice A1 k1 c1, .slice A2 k2 c2] 28)).alloc (.cells #[.slice B1 l1 u1, .slice B2 l2 u2] 28)).alloc (.cells #[.slice none 0 0, .slice none 0 0] 28)).alloc (.cells #[.slice A1 k1 c1, .slice A2 k2 c2, .slice B1 l1 u1, .slice B2 l2 u2] 28))) := ⟨_, rfl⟩; have hqa := ga.pos; have hqb := gb.pos; obtain ⟨s1, s2⟩ := ha.small ga; obtain ⟨s3, s4⟩ := hb.small gb
 have hS0 : SR w (w.heap.size + 2) [(A1, k1, c1, pa), (A2, k2, c2, Nm.dn qa), (B1, l1, u1, pb), (B2, l2, u2, Nm.dn qb)] [(w.heap.size, .slice A1 k1 c1, .slice A2 k2 c2), (w.heap.size + 1, .slice B1 l1 u1, .slice B2 l2 u2)] W := by
  have hbw : Below w.heap.size w (((w.alloc (.cells #[.slice A1 k1 c1, .slice A2 k2 c2] 28)).alloc (.cells #[.slice B1 l1 u1, .slice B2 l2 u2] 28)).alloc (.cells #[.slice none 0 0, .slice none 0 0] 28)) := Below.tr (Below.tr (bA _ _) (bA _ _)) (bA _ _)
  have h0 : SR w (w.heap.size + 2) [(A1, k1, c1, pa), (A2, k2, c2, Nm.dn qa), (B1, l1, u1, pb), (B2, l2, u2, Nm.dn qb)] [(w.heap.size, .slice A1 k1 c1, .slice A2 k2 c2), (w.heap.size + 1, .slice B1 l1 u1, .slice B2 l2 u2)] (((w.alloc (.cells #[.slice A1 k1 c1, .slice A2 k2 c2] 28)).alloc (.cells #[.slice B1 l1 u1, .slice B2 l2 u2] 28)).alloc (.cells #[.slice none 0 0, .slice none 0 0] 28)) := by
   refine ⟨?_, ?_, ?_, hbw, by omega⟩
   ·intro x hx; simp only [List.mem_cons, List.not_mem_nil, or_false] at hx
    rcases hx with rfl | rfl | rfl | rfl
    ·exact ((ha.below hbw).nb).1
    ·exact ((ha.below hbw).nb).2
    ·exact ((hb.below hbw).nb).1
    ·exact ((hb.below hbw).nb).2
   ·intro x hx; simp only [List.mem_cons, List.not_mem_nil, or_false] at hx
    rcases hx with rfl | rfl
    ·exact ⟨(Box.below (Blk.new w _ _) (bA _ _)).below (bA _ _), by show w.heap.size ≠ w.heap.size + 2; omega⟩
    ·refine ⟨?_, by show w.heap.size + 1 ≠ w.heap.size + 2; omega⟩; have := Blk.new (w.alloc (.cells #[.slice A1 k1 c1, .slice A2 k2 c2] 28)) 28 #[.slice B1 l1 u1, .slice B2 l2 u2]; refine Box.below ?_ (bA _ _); unfold Box; simpa using this
   ·have := Blk.new ((w.alloc (.cells #[.slice A1 k1 c1, .slice A2 k2 c2] 28)).alloc (.cells #[.slice B1 l1 u1, .slice B2 l2 u2] 28)) 28 #[.slice none 0 0, .slice none 0 0]; exact ⟨none, 0, 0, none, 0, 0, by simpa using this⟩
  rw [HW.out]; exact h0.below (bA _ _)
 have hp : Pair W (w.heap.size + 3) (.slice A1 k1 c1) (.slice A2 k2 c2) (.slice B1 l1 u1) (.slice B2 l2 u2) := by
  rw [HW.out]; have := Blk.new (((w.alloc (.cells #[.slice A1 k1 c1, .slice A2 k2 c2] 28)).alloc (.cells #[.slice B1 l1 u1, .slice B2 l2 u2] 28)).alloc (.cells #[.slice none 0 0, .slice none 0 0] 28)) 28 #[.slice A1 k1 c1, .slice A2 k2 c2, .slice B1 l1 u1, .slice B2 l2 u2]; unfold Pair; simpa using this
 have ha1 := ha.below hS0.be; have hb1 := hb.below hS0.be
 go_enter Tryd.func30, Tryd.ntmps30
 have hl1 : l1 = 0 := by subst hpb; exact (hb.nb).1.kzero
 have tz : ((l1 : Int) == 0) = true := by simp; omega
 clear hl1; go_wp2_with fail; rw [← HW.out]; refine (valid2_good _ _ _ _ _ pa qa pb qb _ hp ha1 hb1 ga gb).mono ?_; rintro e W2 ⟨rfl, hbe⟩; have hS2 := hS0.below hbe; have f1 := (hS2.bx (w.heap.size, .slice A1 k1 c1, .slice A2 k2 c2) (by simp)).1.facts.1; have f2 := (hS2.bx (w.heap.size, .slice A1 k1 c1, .slice A2 k2 c2) (by simp)).1.facts.2; have f3 := (hS2.bx (w.heap.size + 1, .slice B1 l1 u1, .slice B2 l2 u2) (by simp)).1.facts.1; have f4 := (hS2.bx (w.heap.size + 1, .slice B1 l1 u1, .slice B2 l2 u2) (by simp)).1.facts.2; have hbe3 := hS2.be; obtain ⟨r1, r2, r3, r4, r5, r6, hres⟩ := hS2.sl; have q1 := hres.cell 0; have q2 := hres.cell 1; have q3 := hres.frozen 0; have q4 := hres.frozen 1; simp only [List.getElem?_toArray, List.getElem?_cons_zero, List.getElem?_cons_succ] at q1 q2; have hblk := (hres.set_ 0 (.slice none 0 0)).set_ 1 (.slice none 0 0); have z1 := hblk.cell 0; have z2 := hblk.cell 1; simp at z1 z2; have hbz := (hbe3.setCell (p := ⟨w.heap.size + 2, 0, none⟩) (show w.heap.size ≤ w.heap.size + 2 by omega) (.slice none 0 0)).setCell (p := ⟨w.heap.size + 2, 1, none⟩) (show w.heap.size ≤ w.heap.size + 2 by omega) (.slice none 0 0); clear hres hblk; go_wp2_with fail; exact bodyPost_ret (v := .tuple #[nilRat, .int .i64 5]) (by simp [results, Tryd.results30, go_sem, z1, z2, nilRat]) rfl ⟨rfl, hbz⟩
set_option maxRecDepth 10000 in
set_option maxHeartbeats 2000000 in
theorem div_err (va vb : Value) (l1 l2 l3 l4 : List Nat) (w : World) (ha : RtL w va l1 l2) (hb : RtL w vb l3 l4) (hne : firstE (Nm.validE l1 l2) (Nm.validE l3 l4) ≠ 0) :
  Calls Tryd.prog 30 #[va, vb] w fun e w' => e = .returned (.tuple #[nilRat, .int .i64 (firstE (Nm.validE l1 l2) (Nm.validE l3 l4))]) ∧ Below w.heap.size w w' := by
 obtain ⟨A1, k1, c1, A2, k2, c2, rfl⟩ := ha.shape; obtain ⟨B1, m1, d1, B2, m2, d2, rfl⟩ := hb.shape; obtain ⟨W1, HW1⟩ : ∃ W1, Hid (W1 = (((w.alloc (.cells #[.slice A1 k1 c1, .slice A2 k2 c2] 28)).alloc (.cells #[.slice B1 m1 d1, .slice B2 m2 d2] 28)).alloc (.cells #[.slice none 0 0, .slice none 0 0] 28))) := ⟨_, rfl⟩
 have hres : Res W1 (w.heap.size + 2) := by
  rw [HW1.out]; have := Blk.new ((w.alloc (.cells #[.slice A1 k1 c1, .slice A2 k2 c2] 28)).alloc (.cells #[.slice B1 m1 d1, .slice B2 m2 d2] 28)) 28 #[.slice none 0 0, .slice none 0 0]; unfold Res; simpa using this
 have hbw1 : Below w.heap.size w W1 := by rw [HW1.out]; exact Below.tr (Below.tr (bA _ _) (bA _ _)) (bA _ _)
 obtain ⟨W, HW⟩ : ∃ W, Hid (W = (W1.alloc (.cells #[.slice A1 k1 c1, .slice A2 k2 c2, .slice B1 m1 d1, .slice B2 m2 d2] 28))) := ⟨_, rfl⟩
 have hp : Pair W (w.heap.size + 3) (.slice A1 k1 c1) (.slice A2 k2 c2) (.slice B1 m1 d1) (.slice B2 m2 d2) := by
  have := Blk.new W1 28 #[.slice A1 k1 c1, .slice A2 k2 c2, .slice B1 m1 d1, .slice B2 m2 d2]; rw [HW.out]; have e : W1.heap.size = w.heap.size + 3 := by rw [HW1.out]; simp
  rw [e] at this; exact this
 have hbw : Below w.heap.size w W := by rw [HW.out]; exact Below.tr hbw1 (bA _ _)
 have hres := hres.below (show Below W1.heap.size W1 W by rw [HW.out]; exact bA _ _); have ha1 := ha.below hbw; have hb1 := hb.below hbw
 go_enter Tryd.func30, Tryd.ntmps30
 go_wp2_with fail; rw [← HW1.out, ← HW.out]; refine (valid2_any _ _ _ _ _ l1 l2 l3 l4 _ hp ha1 hb1).mono ?_; rintro e W2 ⟨E, rfl, HE, hbe⟩; have h0 : (E != 0) = true := by rw [HE.out]; simpa using hne
 have hres2 := hres.below hbe; obtain ⟨r1, r2, r3, r4⟩ := hres2.facts; obtain ⟨s1, s2⟩ := hres2.set2 (.slice none 0 0) (.slice none 0 0); have hbw2 := below_set2 (Below.tr hbw hbe) (show w.heap.size ≤ w.heap.size + 2 by omega) (.slice none 0 0) (.slice none 0 0); clear hne; go_wp2_with fail; exact bodyPost_ret (v := .tuple #[nilRat, .int .i64 E]) (by simp [results, Tryd.results30, go_sem, s1, s2, nilRat]) rfl ⟨by rw [HE.out], hbw2⟩
theorem div_F : BinC 30 divF := binC_of (fun va vb a b w ha hb h => div_err va vb _ _ _ _ w ha hb h) fun va vb pa qa pb qb w ha hb ga gb => by
 dsimp only
 by_cases hz : pb = 0
 ·rw [if_pos hz]; refine (div_z va vb pa qa pb qb w ha hb ga gb hz).mono ?_; rintro e w' ⟨rfl, hb⟩; exact ⟨_, rfl, nil_rtP w', hb⟩
 ·rw [if_neg hz]; refine (div_n va vb pa qa pb qb w ha hb ga gb (by omega)).mono ?_; rintro e w' ⟨v, er, rfl, hr, hb⟩; obtain ⟨rfl, h⟩ := hr.resP; exact ⟨v, rfl, h, hb⟩
end Go.Proofs.YtnjjdiilkhdbeaaDoor
namespace Go.Proofs.YtnjjdiilkhdbeaaDoor
open Go.RowKit
/- ratio.Power, where the power fits -/
structure SPw (w0 : World) (g : Nat) (a1 a2 : Value) (A1 : Option Addr) (k1 c1 : Nat) (A2 : Option Addr) (k2 c2 : Nat) (p q : Nat) (X : Option Addr) (kx cx nx : Nat) (Y : Option Addr) (ky cy ny : Nat) (L : Nat → Bool) (vs : Nat → Value) (W : World) : Prop where
 box : Box W g a1 a2
 r1 : Nb W A1 k1 c1 p
 r2 : Nb W A2 k2 c2 (Nm.dn q)
 nx : Nb W X kx cx nx
 ny : Nb W Y ky cy ny
 be : Below w0.heap.size w0 W
 v8 : L 8 = false → vs 8 = .slice X kx cx
 v9 : L 9 = false → vs 9 = .slice Y ky cy
theorem SPw.step {w0 : World} {g : Nat} {a1 a2 : Value} {A1 : Option Addr} {k1 c1 : Nat} {A2 : Option Addr} {k2 c2 p q : Nat} {X : Option Addr} {kx cx nx : Nat} {Y : Option Addr} {ky cy ny : Nat} {L : Nat → Bool} {vs : Nat → Value} {W W' : World} (h : SPw w0 g a1 a2 A1 k1 c1 A2 k2 c2 p q X kx cx nx Y ky cy ny L vs W) (hb : Below W.heap.size W W') (i : Nat) (v : Value) : SPw w0 g a1 a2 A1 k1 c1 A2 k2 c2 p q X kx cx nx Y ky cy ny (updB L i) (upd vs i v) W' := by
 refine ⟨h.box.below hb, h.r1.below hb, h.r2.below hb, h.nx.below hb, h.ny.below hb, Below.tr h.be hb, fun hl => ?_, fun hl => ?_⟩
 ·unfold updB at hl; unfold upd; by_cases hi : 8 = i
  ·rw [if_pos hi] at hl; cases hl
  ·rw [if_neg hi] at hl ⊢; exact h.v8 hl
 ·unfold updB at hl; unfold upd; by_cases hi : 9 = i
  ·rw [if_pos hi] at hl; cases hl
  ·rw [if_neg hi] at hl ⊢; exact h.v9 hl
def PhiPw (g : Nat) (a1 a2 xv yv : Value) (q X Y : Nat) (j : Nat) (w : World) (x : Value) : Prop :=
 match j with
 | 0 => x = xv
 | 1 => x = .pointer (some ⟨g, 0, none⟩)
 | 2 => x = a1
 | 3 => IsNb w x X 130
 | 4 => x = yv
 | 5 => x = .agg #[a1, a2]
 | 6 => IsNb w x q 65
 | 7 => IsNb w x Y 130
 | 8 => IsNb w x X 130
 | 9 => IsNb w x Y 130
 | _ => True
theorem PhiPw.keep {g : Nat} {a1 a2 xv yv : Value} {q X Y : Nat} : ∀ (w w' : World), Below w.heap.size w w' → ∀ j x, PhiPw g a1 a2 xv yv q X Y j w x → PhiPw g a1 a2 xv yv q X Y j w' x := by
 intro w w' hb j x h; unfold PhiPw at h ⊢
 split <;> simp only at h ⊢
 all_goals first
  | exact h
  | (obtain ⟨A, k, c, rfl, h, e⟩ := h; exact ⟨A, k, c, rfl, h.below hb, e⟩)
theorem wp_nm {P : Program} {c : Code} {Q : Exit → Act → World → Prop} {a : Act} {w : World} (h : ∀ W, Hid (W = w) → c.wp P Q a W) : c.wp P Q a w := h w rfl
theorem fits_len {q : Nat} (h : (Nm.lb (Nm.dn q)).length ≤ 64) : (Nm.lb q).length ≤ 64 := by
 by_cases h1 : q = 1
 ·subst h1; rw [Nm.lb_one]; decide
 ·rwa [Nm.dn_ne h1] at h
theorem lb_zero_len {n : Nat} (h : (Nm.lb n).length = 0) : n = 0 := by
 have := List.eq_nil_of_length_eq_zero h; rwa [Nm.lb_nil_iff] at this
end Go.Proofs.YtnjjdiilkhdbeaaDoor
