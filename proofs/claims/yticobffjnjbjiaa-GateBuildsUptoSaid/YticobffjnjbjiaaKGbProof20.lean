import Derived.Test.YticobffjnjbjiaaKGbProof19
import Derived.Test.YticobffjnjbjiaaJ16
import Derived.Test.YticobffjnjbjiaaS0
set_option linter.unusedVariables false
set_option linter.unusedSimpArgs false
namespace Go.Proofs.Yticobffjnjbjiaa
open Go Go.RowKit
theorem info_rat : (Try.prog.info? 24).map (fun i => (i.zero, i.size, i.bytes)) = some (some nilRat, 2, 48) := by kernel_rfl
theorem fill_lims {a1 a2 b1 b2 c1 c2 d1 d2 : Value} : Instr.fill (fun i => some (i * 2, 2)) ((Array.range (4 * 2)).map (nilRat.cells[· % nilRat.cells.size]!)) [(0, .agg #[a1, a2]), (1, .agg #[b1, b2]), (2, .agg #[c1, c2]), (3, .agg #[d1, d2])] = some #[a1, a2, b1, b2, c1, c2, d1, d2] := by kernel_rfl
theorem own_some {w : World} {base : Nat} {e : TypeId} {size : Nat} {v : Value} {n : Nat} {xs : List Value} (h : w.ownsRow base e size v n xs) (hn : 0 < n) : ∃ g c cur, v = .slice (some ⟨g, 0, none⟩) n c ∧ base ≤ g ∧ Blk w g e cur := by
 rcases h.2 with ⟨_, h0⟩ | ⟨g, cap, cur, hv, hb, hh, _⟩
 ·omega
 ·exact ⟨g, cap, cur, hv, hb, hh⟩
def PhiGb (Ap : Option Addr) (kp cp : Nat) (Aa : Option Addr) (ka ca : Nat) (by_ : Int) (lo : List Int) (An : Option Addr) (kn cn : Nat) (Aq : Option Addr) (kq cq g i : Nat) (v1 v2 : Value) (E : Int) (C : List Int) (j : Nat) (w : World) (x : Value) : Prop :=
 match j with
 | 0 => x = .slice Ap kp cp
 | 1 => x = .slice Aa ka ca
 | 2 => x = .int .i64 by_
 | 3 => ∃ A c, x = .slice A (ka + 1) c ∧ RowS intC w A (ka + 1) lo
 | 4 => x = .slice An kn cn
 | 5 => x = .slice Aq kq cq
 | 6 => x = .slice (some ⟨g, 0, none⟩) 4 4
 | 7 => x = .int .i64 (i : Nat)
 | 8 => x = .pointer (some ⟨g, i * 2, none⟩)
 | 9 => x = .agg #[v1, v2]
 | 10 => ∃ v, x = .tuple #[v, .int .i64 E] ∧ RowV w v C
 | 11 => ∃ v, x = .tuple #[v, .int .i64 E] ∧ RowV w v C
 | 12 => RowV w x C
 | 13 => x = .int .i64 E
 | 14 => RowV w x C
 | 15 => x = .int .i64 E
 | _ => True
theorem PhiGb.keep {Ap : Option Addr} {kp cp : Nat} {Aa : Option Addr} {ka ca : Nat} {by_ : Int} {lo : List Int} {An : Option Addr} {kn cn : Nat} {Aq : Option Addr} {kq cq g i : Nat} {v1 v2 : Value} {E : Int} {C : List Int} : ∀ (w w' : World), Below w.heap.size w w' → ∀ j x, PhiGb Ap kp cp Aa ka ca by_ lo An kn cn Aq kq cq g i v1 v2 E C j w x → PhiGb Ap kp cp Aa ka ca by_ lo An kn cn Aq kq cq g i v1 v2 E C j w' x := by
 intro w w' hb j x h; unfold PhiGb at h ⊢
 split <;> simp only at h ⊢
 all_goals first
  | exact h
  | exact RowV.below h hb
  | (obtain ⟨A, c, e, h⟩ := h; exact ⟨A, c, e, h.below hb⟩)
  | (obtain ⟨v, e, h⟩ := h; exact ⟨v, e, h.below hb⟩)
set_option maxRecDepth 100000 in
set_option maxHeartbeats 8000000 in
theorem gate_builds_n (A1 A2 A3 A4 : Option Addr) (k1 c1 k2 c2 k3 c3 k4 c4 : Nat) (l1 l2 l3 l4 : List Int) (by_ d : Int) (Aq : Option Addr) (kq cq : Nat) (rq : List SLR) (w : World) (h1 : RowL intC w A1 k1 l1) (h2 : RowL intC w A2 k2 l2) (h3 : RowL intC w A3 k3 l3) (h4 : RowL intC w A4 k4 l4)
  (H1 : Hid (∀ x ∈ l1, -9223372036854775808 ≤ x ∧ x ≤ 9223372036854775807)) (H2 : Hid (∀ x ∈ l2, -9223372036854775808 ≤ x ∧ x ≤ 9223372036854775807)) (H3 : Hid (∀ x ∈ l3, -9223372036854775808 ≤ x ∧ x ≤ 9223372036854775807)) (H4 : Hid (∀ x ∈ l4, -9223372036854775808 ≤ x ∧ x ≤ 9223372036854775807)) (y1 : -9223372036854775808 ≤ by_) (y2 : by_ ≤ 9223372036854775807) (y3 : -9223372036854775808 ≤ d) (y4 : d ≤ 9223372036854775807)
  (hq : RowS slC w Aq kq rq) (hqo : RsOk w rq) (HSQ : Hid (sumK rq ≤ 1073741824)) (HKQ : Hid (kq ≤ 1073741824)) :
  Calls Try.prog 4 #[.slice A1 k1 c1, .slice A2 k2 c2, .slice A3 k3 c3, .slice A4 k4 c4, .int .i64 by_, .int .i64 d, .slice Aq kq cq] w fun e w' => e = .returned (.bool true) ∧ Below w.heap.size w w' := by
 obtain ⟨iR, hiR, hzR, hzR1, hzR2⟩ := info_parts info_rat; obtain ⟨iP, hiP, hzP, hzP1, hzP2⟩ := info_parts info_promV
 go_enter Try.func4, Try.ntmps4
 go_wp2_with fail; refine (made_n A1 k1 c1 l1 _ h1 H1).mono ?_; rintro e w1 ⟨Ap, kp, cp, ps, bd, rfl, _, _, hps, hkp, hok, hb1⟩; go_wp2_with fail; refine (active_n Ap kp cp A2 k2 c2 l2 _ (by omega) (h2.below hb1) H2).mono ?_; rintro e w2 ⟨la0, Aa, ka, ca, rfl, _, hla, hka, _, hb2⟩; go_wp2_with fail
 have HPO : Hid (∀ p ∈ ps, PromOk p) := fun p hp => by
  obtain ⟨n, hn⟩ := List.getElem?_of_mem hp; exact (hok n p hn).1
 have hb12 := Below.tr hb1 hb2; refine (tests_n Ap kp cp ps A3 k3 c3 l3 _ (hps.below hb2) HPO (by omega) (h3.below hb12) H3).mono ?_; rintro e w3 ⟨nm, rs, kn, An, cn, Ar, cr, rfl, hon, hor, hkn, HRS, _, hb3⟩; have hnm := own_any strC_len (by omega) (by omega) hon; have hrs := own_any cellsR_len (by omega) (by omega) hor; have hb13 := Below.tr hb12 hb3; go_wp2_with fail; refine (tries_n An Ar kn cn cr rs A4 k4 c4 l4 _ hrs HRS hkn (h4.below hb13) H4).mono ?_; rintro e w4 ⟨V, cv, rt, rfl, hv, HTR, hb4⟩; have hbw4 := Below.tr hb13 hb4; have hps := hps.below (Below.tr (Below.tr hb2 hb3) hb4); have hok := hok.below (Below.tr (Below.tr hb2 hb3) hb4); have hla := (nat_rows hla).below (Below.tr hb3 hb4); have hnm := hnm.below hb4; have HT5 : Hid (∀ s ∈ rt, s.k ≤ 5) := fun s h => (HTR.out s h).2.1
 have hvo : RsOk w4 rt := fun s h => ⟨(HTR.out s h).1, fun x hx => ((HTR.out s h).2.2 x hx).one⟩
 have HSK : Hid (sumK rt ≤ 1073741824) := Nat.le_trans (sumK_leG (m := 5) (n := 8) HT5.out (by have := hv.2.1; omega)) (by omega); have HKN : Hid (kn ≤ 1073741824) := by show _ ≤ _; omega
 obtain ⟨la, HLA⟩ : ∃ la, Hid (la = la0.map fun n : Nat => (n : Int)) := ⟨_, rfl⟩; rw [← HLA.out] at hla; clear hb1 hb2 hb3 hb4 hb12 hb13 hon hor hrs HRS HTR h1 h2 h3 h4 H1 H2 H3 H4 HT5; go_wp2_with fail; refine (rpart_n by_ d _ y1 y2 y3 y4).mono ?_; rintro e w5 ⟨v, pa, qa, rfl, hra, ga, _, _, hb5⟩; obtain ⟨a1, m1, n1, a2, m2, n2, rfl⟩ := hra.shape; go_wp2_with fail; refine (around_n by_ 65536 _ y1 y2 (by omega) (by omega)).mono ?_; rintro e w' ⟨z, rfl, hz, _, rfl⟩; have s1 : IntKind.i64.wrap (1 + (z : Int)) = ((1 + z : Nat) : Int) := by rw [IntWalk.i64_in _ (by omega)]; omega
 obtain ⟨z1, hz1⟩ : ∃ x, x = 1 + z := ⟨_, rfl⟩; rw [← hz1] at s1; have hz2 : z1 ≤ 65537 := by omega
 have hz3 : 0 < z1 := by omega
 clear hz1; go_wp2_with fail; refine (part_n 1 z1 _ (by omega) hz3 (by omega)).mono ?_; rintro e w6 ⟨v, rfl, hrb, hb6⟩; have hrb := hrb.1.rtl; obtain ⟨b1, m3, n3, b2, m4, n4, rfl⟩ := hrb.shape; clear s1; go_wp2_with fail; refine (rpart_n by_ d _ y1 y2 y3 y4).mono ?_; rintro e w7 ⟨v, pc, qc, rfl, hrc, gc, _, _, hb7⟩; go_wp2_with fail; refine (spoilt_n _ pc qc by_ d _ hrc gc y1 y2 y3 y4).mono ?_; rintro e w8 ⟨v, m1', m2', rfl, hrd, _, _, hb8⟩; obtain ⟨d1, m5, n5, d2, m6, n6, rfl⟩ := hrd.shape
 go_upto_region 6 with (refine wpList_sliceN rfl 45 24 4 [(0, .tmp 49), (1, .tmp 53), (2, .tmp 54), (3, .tmp 60)] rfl #[.slice a1 m1 n1, .slice a2 m2 n2, .slice b1 m3 n3, .slice b2 m4 n4, .slice none 0 0, .slice none 0 0, .slice d1 m5 n5, .slice d2 m6 n6] iR nilRat 2 [(0, .agg #[.slice a1 m1 n1, .slice a2 m2 n2]), (1, .agg #[.slice b1 m3 n3, .slice b2 m4 n4]), (2, .agg #[.slice none 0 0, .slice none 0 0]), (3, .agg #[.slice d1 m5 n5, .slice d2 m6 n6])] Try.underlying45 hiR hzR hzR1 (by omega) (by omega) rfl fill_lims ?_; simp only [Act.put, sA, sB, sC])
 refine wp_name ?_; intro W HW; obtain ⟨g, hg⟩ : ∃ g, g = w8.heap.size := ⟨_, rfl⟩; rw [← hg]; have hb9 : Below w8.heap.size w8 W := by rw [HW.out]; exact bA _ _
 have hbk : Blk W g 24 #[.slice a1 m1 n1, .slice a2 m2 n2, .slice b1 m3 n3, .slice b2 m4 n4, .slice none 0 0, .slice none 0 0, .slice d1 m5 n5, .slice d2 m6 n6] := by rw [HW.out, hg]; exact Blk.new _ _ _
 have hb49 := Below.tr (Below.tr (Below.tr (Below.tr hb5 hb6) hb7) hb8) hb9; have hlm : LimS W g := LimS.of hbk (rtl_rat (hra.below (Below.tr (Below.tr (Below.tr hb6 hb7) hb8) hb9))) (hrb.below (Below.tr (Below.tr hb7 hb8) hb9)) (rtl_rat nil_rat) (hrd.below hb9); obtain ⟨Lf, HLF⟩ : ∃ Lf, Hid (Lf = LfG bd) := ⟨_, rfl⟩; have HOK0 := Lib.hid (hok.below hb49); have S0 : GbS w W Ap kp ps Lf Aa ka la An kn nm V rt Aq kq rq g := ⟨hps.below hb49, by rw [HLF.out]; exact HOK0.out.l, hla.below hb49, hnm.below hb49, hv.below hb49, hvo.below hb49, hq.below (Below.tr hbw4 hb49), hqo.below (Below.tr hbw4 hb49), hlm, Below.tr hbw4 hb49⟩; have HS0 := Lib.hid S0; clear S0 HW hb5 hb6 hb7 hb8 hb9 hb49 hbk hlm hra hrb hrc hrd hps hok hla hnm hv hvo hq hqo hbw4 ga gc hg; go_wp2_with fail
 go_loopg [21] 4 (fun j x wr => ∃ i : Nat, x = .int .i64 i ∧ i + j = 4 ∧ Below W.heap.size W wr)
 case atStart => exact ⟨0, rfl, by omega, Below.refl _ _⟩
 case round =>
  obtain ⟨G, hG⟩ : ∃ G, G = gk := ⟨gk, rfl⟩; subst hG; obtain ⟨i, rfl, hij, hbe⟩ := hrel; by_cases hi : i < 4
  ·have t1 : decide ((i : Int) < 4) = true := by simp; omega
   have S := HS0.out.below hbe; obtain ⟨v1, v2, L1, L2, f1, f2, hRL⟩ := S.lm i hi; go_wp2_with fail; refine (gbuild_E Ap Aa An V kp cp ka ca kn cn kn cv la ps Lf nm rt (.agg #[v1, v2]) L1 L2 _ S.hps S.hla S.hnm S.hv S.hvo HSK.out HKN.out S.pl hRL).mono ?_; rintro e w9 ⟨v9, rfl, h9, hb9⟩; obtain ⟨E1, HE1⟩ : ∃ E, Hid (E = bqE kp kn kn la ps Lf nm rt L1 L2) := ⟨_, rfl⟩; obtain ⟨C1, HC1⟩ : ∃ E, Hid (E = bqC kp kn kn la ps Lf nm rt L1 L2) := ⟨_, rfl⟩; rw [← HC1.out] at h9; rw [← HE1.out]; have S := S.below hb9; have f1 := cell_keep hb9 f1; have f2 := cell_keep hb9 f2; have hRL := hRL.below hb9; have hbe := Below.tr hbe hb9; clear hb9; go_wp2_with fail; refine (rbuild_E Ap Aa An V kp cp ka ca kn cn kn cv la ps Lf nm rt (.agg #[v1, v2]) L1 L2 _ S.hps S.hla S.hnm S.hv S.hvo HSK.out HKN.out S.pl hRL).mono ?_; rintro e w10 ⟨v10, rfl, h10, hb10⟩; rw [← HC1.out] at h10; rw [← HE1.out]; have S := S.below hb10; have f1 := cell_keep hb10 f1; have f2 := cell_keep hb10 f2; have hRL := hRL.below hb10; have h9 := h9.below hb10; have hbe := Below.tr hbe hb10; clear hb10 HE1; go_upto_region 11 with fail; refine region_invc (PhiGb Ap kp cp Aa ka ca by_ (la ++ [IntKind.i64.wrap (by_.tmod 5 - 1)]) An kn cn Aq kq cq g i v1 v2 (bqE kp kq kn (la ++ [IntKind.i64.wrap (by_.tmod 5 - 1)]) ps Lf nm rq L1 L2) (bqC kp kq kn (la ++ [IntKind.i64.wrap (by_.tmod 5 - 1)]) ps Lf nm rq L1 L2)) (fun w w' => Below w.heap.size w w') (fun W => Below w10.heap.size w10 W) (by kernel_rfl) (by kernel_rfl) (by kernel_rfl) PhiGb.keep (fun _ _ hR hS => Below.tr hS hR) (bD _) ?_ ?_
   ·refine sK ?_ (sK ?_ (sK ?_ (sK ?_ (sK ?_ (sK ?_ (sK ?_ (sK ?_ (sK ?_ (sK ?_ (sK ?_ (sK ?_ (sK ?_ (sK ?_ (sK ?_ (sK ?_ (sZ))))))))))))))))
    ·as_aux_lemma =>
     intro vs W hS hdep K hK; refine ⟨?_⟩; simp only [fillR, Act.put, sA, sB, sC, Nat.zero_add, Nat.reduceAdd] at hK ⊢; go_simp; with_reducible refine hK _ _ (Below.refl _ _) ?_
     exact rfl
    ·as_aux_lemma =>
     intro vs W hS hdep K hK; refine ⟨?_⟩; simp only [fillR, Act.put, sA, sB, sC, Nat.zero_add, Nat.reduceAdd] at hK ⊢; go_simp; with_reducible refine hK _ _ (Below.refl _ _) ?_
     exact rfl
    ·as_aux_lemma =>
     intro vs W hS hdep K hK; refine ⟨?_⟩; simp only [fillR, Act.put, sA, sB, sC, Nat.zero_add, Nat.reduceAdd] at hK ⊢; go_simp; with_reducible refine hK _ _ (Below.refl _ _) ?_
     exact rfl
    ·as_aux_lemma =>
     intro vs W hS hdep K hK; have d0 := hdep ⟨1, .data⟩ (by simp) rfl; simp only [PhiGb] at d0; have d1 := hdep ⟨2, .data⟩ (by simp) rfl; simp only [PhiGb] at d1; refine ⟨?_⟩; simp only [fillR, Act.put, sA, sB, sC, Nat.zero_add, Nat.reduceAdd, d0, d1] at hK ⊢; go_simp; refine (odd_e Aa ka ca la by_ _ (S.hla.below hS) (by omega)).mono ?_; rintro e w' ⟨A', c', rfl, hr, hb⟩; go_wp2_with fail; with_reducible refine hK _ _ hb ?_
     exact ⟨_, _, rfl, hr⟩
    ·as_aux_lemma =>
     intro vs W hS hdep K hK; refine ⟨?_⟩; simp only [fillR, Act.put, sA, sB, sC, Nat.zero_add, Nat.reduceAdd] at hK ⊢; go_simp; with_reducible refine hK _ _ (Below.refl _ _) ?_
     exact rfl
    ·as_aux_lemma =>
     intro vs W hS hdep K hK; refine ⟨?_⟩; simp only [fillR, Act.put, sA, sB, sC, Nat.zero_add, Nat.reduceAdd] at hK ⊢; go_simp; with_reducible refine hK _ _ (Below.refl _ _) ?_
     exact rfl
    ·as_aux_lemma =>
     intro vs W hS hdep K hK; refine ⟨?_⟩; simp only [fillR, Act.put, sA, sB, sC, Nat.zero_add, Nat.reduceAdd] at hK ⊢; go_simp; with_reducible refine hK _ _ (Below.refl _ _) ?_
     exact rfl
    ·as_aux_lemma =>
     intro vs W hS hdep K hK; refine ⟨?_⟩; simp only [fillR, Act.put, sA, sB, sC, Nat.zero_add, Nat.reduceAdd] at hK ⊢; go_simp; with_reducible refine hK _ _ (Below.refl _ _) ?_
     exact rfl
    ·as_aux_lemma =>
     intro vs W hS hdep K hK; have d0 := hdep ⟨6, .data⟩ (by simp) rfl; simp only [PhiGb] at d0; have d1 := hdep ⟨7, .data⟩ (by simp) rfl; simp only [PhiGb] at d1; have hil : (i : Int) < 4 := by omega
     refine ⟨?_⟩; simp only [fillR, Act.put, sA, sB, sC, Nat.zero_add, Nat.reduceAdd, d0, d1] at hK ⊢; go_simp; with_reducible refine hK _ _ (Below.refl _ _) ?_
     exact rfl
    ·as_aux_lemma =>
     intro vs W hS hdep K hK; have d0 := hdep ⟨8, .data⟩ (by simp) rfl; simp only [PhiGb] at d0; have q1 := cell_keep hS f1; have q2 := cell_keep hS f2; refine ⟨?_⟩; simp only [fillR, Act.put, sA, sB, sC, Nat.zero_add, Nat.reduceAdd, d0] at hK ⊢; go_simp; with_reducible refine hK _ _ (Below.refl _ _) ?_
     exact rfl
    ·as_aux_lemma =>
     intro vs W hS hdep K hK; have d0 := hdep ⟨0, .data⟩ (by simp) rfl; simp only [PhiGb] at d0; have d1 := hdep ⟨3, .data⟩ (by simp) rfl; simp only [PhiGb] at d1; refine @exE2 _ _ _ _ d1 ?_; clear d1; intro A1 c1 d1; have e1 := d1.1; have n1 := d1.2; clear d1; have d2 := hdep ⟨4, .data⟩ (by simp) rfl; simp only [PhiGb] at d2; have d3 := hdep ⟨5, .data⟩ (by simp) rfl; simp only [PhiGb] at d3; have d4 := hdep ⟨9, .data⟩ (by simp) rfl; simp only [PhiGb] at d4; refine ⟨?_⟩; simp only [fillR, Act.put, sA, sB, sC, Nat.zero_add, Nat.reduceAdd, d0, e1, d2, d3, d4] at hK ⊢; go_simp; refine (gbuild_E Ap A1 An Aq kp cp (ka + 1) c1 kn cn kq cq (la ++ [IntKind.i64.wrap (by_.tmod 5 - 1)]) ps Lf nm rq (.agg #[v1, v2]) L1 L2 _ (S.hps.below hS) n1 (S.hnm.below hS) (S.hq.below hS) (S.hqo.below hS) HSQ.out HKQ.out (S.pl.below hS) (hRL.below hS)).mono ?_; rintro e w' ⟨v, rfl, hv, hb⟩; go_wp2_with fail; with_reducible refine hK _ _ hb ?_
     exact ⟨_, rfl, hv⟩
    ·as_aux_lemma =>
     intro vs W hS hdep K hK; have d0 := hdep ⟨10, .data⟩ (by simp) rfl; simp only [PhiGb] at d0; refine @exE1 _ _ _ d0 ?_; clear d0; intro v0 d0; have e0 := d0.1; have n0 := d0.2; clear d0; refine ⟨?_⟩; simp only [fillR, Act.put, sA, sB, sC, Nat.zero_add, Nat.reduceAdd, e0] at hK ⊢; go_simp; with_reducible refine hK _ _ (Below.refl _ _) ?_
     exact ⟨_, rfl, n0⟩
    ·as_aux_lemma =>
     intro vs W hS hdep K hK; have d0 := hdep ⟨11, .data⟩ (by simp) rfl; simp only [PhiGb] at d0; refine @exE1 _ _ _ d0 ?_; clear d0; intro v0 d0; have e0 := d0.1; have n0 := d0.2; clear d0; refine ⟨?_⟩; simp only [fillR, Act.put, sA, sB, sC, Nat.zero_add, Nat.reduceAdd, e0] at hK ⊢; go_simp; with_reducible refine hK _ _ (Below.refl _ _) ?_
     exact n0
    ·as_aux_lemma =>
     intro vs W hS hdep K hK; have d0 := hdep ⟨11, .data⟩ (by simp) rfl; simp only [PhiGb] at d0; refine @exE1 _ _ _ d0 ?_; clear d0; intro v0 d0; have e0 := d0.1; have n0 := d0.2; clear d0; refine ⟨?_⟩; simp only [fillR, Act.put, sA, sB, sC, Nat.zero_add, Nat.reduceAdd, e0] at hK ⊢; go_simp; with_reducible refine hK _ _ (Below.refl _ _) ?_
     exact rfl
    ·as_aux_lemma =>
     intro vs W hS hdep K hK; have d0 := hdep ⟨12, .data⟩ (by simp) rfl; simp only [PhiGb] at d0; have n0 := d0; clear d0; refine ⟨?_⟩; simp only [fillR, Act.put, sA, sB, sC, Nat.zero_add, Nat.reduceAdd] at hK ⊢; go_simp; with_reducible refine hK _ _ (Below.refl _ _) ?_
     exact n0
    ·as_aux_lemma =>
     intro vs W hS hdep K hK; have d0 := hdep ⟨13, .data⟩ (by simp) rfl; simp only [PhiGb] at d0; refine ⟨?_⟩; simp only [fillR, Act.put, sA, sB, sC, Nat.zero_add, Nat.reduceAdd, d0] at hK ⊢; go_simp; with_reducible refine hK _ _ (Below.refl _ _) ?_
     exact rfl
   ·intro vs w11 hS hv; have v14 := hv 14 (by simp); have v15 := hv 15 (by simp); simp only [PhiGb] at v14 v15; obtain ⟨E2, HE2⟩ : ∃ E, Hid (E = bqE kp kq kn (la ++ [IntKind.i64.wrap (by_.tmod 5 - 1)]) ps Lf nm rq L1 L2) := ⟨_, rfl⟩; obtain ⟨C2, HC2⟩ : ∃ E, Hid (E = bqC kp kq kn (la ++ [IntKind.i64.wrap (by_.tmod 5 - 1)]) ps Lf nm rq L1 L2) := ⟨_, rfl⟩; rw [← HC2.out] at v14; rw [← HE2.out] at v15; obtain ⟨A11, c11, e14, h11⟩ := v14; have S := S.below hS; have f1 := cell_keep hS f1; have f2 := cell_keep hS f2; have hRL := hRL.below hS; have h9 := h9.below hS; have h10 := h10.below hS; have hbe := Below.tr hbe hS; simp only [fillR, Act.put, sA, sB, sC, Nat.zero_add, Nat.reduceAdd, e14, v15]; clear hv v15 e14 hS; go_upto_region 12 with fail; refine region_invc (PhiGb Ap kp cp Aa ka ca by_ (la ++ [IntKind.i64.wrap (by_.tmod 5 - 1)]) An kn cn Aq kq cq g i v1 v2 (bqE kp kq kn (la ++ [IntKind.i64.wrap (by_.tmod 5 - 1)]) ps Lf nm rq L1 L2) (bqC kp kq kn (la ++ [IntKind.i64.wrap (by_.tmod 5 - 1)]) ps Lf nm rq L1 L2)) (fun w w' => Below w.heap.size w w') (fun W => Below w11.heap.size w11 W) (by kernel_rfl) (by kernel_rfl) (by kernel_rfl) PhiGb.keep (fun _ _ hR hS => Below.tr hS hR) (bD _) ?_ ?_
    ·refine sK ?_ (sK ?_ (sK ?_ (sK ?_ (sK ?_ (sK ?_ (sK ?_ (sK ?_ (sK ?_ (sK ?_ (sK ?_ (sK ?_ (sK ?_ (sK ?_ (sK ?_ (sK ?_ (sZ))))))))))))))))
     ·as_aux_lemma =>
      intro vs W hS hdep K hK; refine ⟨?_⟩; simp only [fillR, Act.put, sA, sB, sC, Nat.zero_add, Nat.reduceAdd] at hK ⊢; go_simp; with_reducible refine hK _ _ (Below.refl _ _) ?_
      exact rfl
     ·as_aux_lemma =>
      intro vs W hS hdep K hK; refine ⟨?_⟩; simp only [fillR, Act.put, sA, sB, sC, Nat.zero_add, Nat.reduceAdd] at hK ⊢; go_simp; with_reducible refine hK _ _ (Below.refl _ _) ?_
      exact rfl
     ·as_aux_lemma =>
      intro vs W hS hdep K hK; refine ⟨?_⟩; simp only [fillR, Act.put, sA, sB, sC, Nat.zero_add, Nat.reduceAdd] at hK ⊢; go_simp; with_reducible refine hK _ _ (Below.refl _ _) ?_
      exact rfl
     ·as_aux_lemma =>
      intro vs W hS hdep K hK; have d0 := hdep ⟨1, .data⟩ (by simp) rfl; simp only [PhiGb] at d0; have d1 := hdep ⟨2, .data⟩ (by simp) rfl; simp only [PhiGb] at d1; refine ⟨?_⟩; simp only [fillR, Act.put, sA, sB, sC, Nat.zero_add, Nat.reduceAdd, d0, d1] at hK ⊢; go_simp; refine (odd_e Aa ka ca la by_ _ (S.hla.below hS) (by omega)).mono ?_; rintro e w' ⟨A', c', rfl, hr, hb⟩; go_wp2_with fail; with_reducible refine hK _ _ hb ?_
      exact ⟨_, _, rfl, hr⟩
     ·as_aux_lemma =>
      intro vs W hS hdep K hK; refine ⟨?_⟩; simp only [fillR, Act.put, sA, sB, sC, Nat.zero_add, Nat.reduceAdd] at hK ⊢; go_simp; with_reducible refine hK _ _ (Below.refl _ _) ?_
      exact rfl
     ·as_aux_lemma =>
      intro vs W hS hdep K hK; refine ⟨?_⟩; simp only [fillR, Act.put, sA, sB, sC, Nat.zero_add, Nat.reduceAdd] at hK ⊢; go_simp; with_reducible refine hK _ _ (Below.refl _ _) ?_
      exact rfl
     ·as_aux_lemma =>
      intro vs W hS hdep K hK; refine ⟨?_⟩; simp only [fillR, Act.put, sA, sB, sC, Nat.zero_add, Nat.reduceAdd] at hK ⊢; go_simp; with_reducible refine hK _ _ (Below.refl _ _) ?_
      exact rfl
     ·as_aux_lemma =>
      intro vs W hS hdep K hK; refine ⟨?_⟩; simp only [fillR, Act.put, sA, sB, sC, Nat.zero_add, Nat.reduceAdd] at hK ⊢; go_simp; with_reducible refine hK _ _ (Below.refl _ _) ?_
      exact rfl
     ·as_aux_lemma =>
      intro vs W hS hdep K hK; have d0 := hdep ⟨6, .data⟩ (by simp) rfl; simp only [PhiGb] at d0; have d1 := hdep ⟨7, .data⟩ (by simp) rfl; simp only [PhiGb] at d1; have hil : (i : Int) < 4 := by omega
      refine ⟨?_⟩; simp only [fillR, Act.put, sA, sB, sC, Nat.zero_add, Nat.reduceAdd, d0, d1] at hK ⊢; go_simp; with_reducible refine hK _ _ (Below.refl _ _) ?_
      exact rfl
     ·as_aux_lemma =>
      intro vs W hS hdep K hK; have d0 := hdep ⟨8, .data⟩ (by simp) rfl; simp only [PhiGb] at d0; have q1 := cell_keep hS f1; have q2 := cell_keep hS f2; refine ⟨?_⟩; simp only [fillR, Act.put, sA, sB, sC, Nat.zero_add, Nat.reduceAdd, d0] at hK ⊢; go_simp; with_reducible refine hK _ _ (Below.refl _ _) ?_
      exact rfl
     ·as_aux_lemma =>
      intro vs W hS hdep K hK; have d0 := hdep ⟨0, .data⟩ (by simp) rfl; simp only [PhiGb] at d0; have d1 := hdep ⟨3, .data⟩ (by simp) rfl; simp only [PhiGb] at d1; refine @exE2 _ _ _ _ d1 ?_; clear d1; intro A1 c1 d1; have e1 := d1.1; have n1 := d1.2; clear d1; have d2 := hdep ⟨4, .data⟩ (by simp) rfl; simp only [PhiGb] at d2; have d3 := hdep ⟨5, .data⟩ (by simp) rfl; simp only [PhiGb] at d3; have d4 := hdep ⟨9, .data⟩ (by simp) rfl; simp only [PhiGb] at d4; refine ⟨?_⟩; simp only [fillR, Act.put, sA, sB, sC, Nat.zero_add, Nat.reduceAdd, d0, e1, d2, d3, d4] at hK ⊢; go_simp; refine (rbuild_E Ap A1 An Aq kp cp (ka + 1) c1 kn cn kq cq (la ++ [IntKind.i64.wrap (by_.tmod 5 - 1)]) ps Lf nm rq (.agg #[v1, v2]) L1 L2 _ (S.hps.below hS) n1 (S.hnm.below hS) (S.hq.below hS) (S.hqo.below hS) HSQ.out HKQ.out (S.pl.below hS) (hRL.below hS)).mono ?_; rintro e w' ⟨v, rfl, hv, hb⟩; go_wp2_with fail; with_reducible refine hK _ _ hb ?_
      exact ⟨_, rfl, hv⟩
     ·as_aux_lemma =>
      intro vs W hS hdep K hK; have d0 := hdep ⟨10, .data⟩ (by simp) rfl; simp only [PhiGb] at d0; refine @exE1 _ _ _ d0 ?_; clear d0; intro v0 d0; have e0 := d0.1; have n0 := d0.2; clear d0; refine ⟨?_⟩; simp only [fillR, Act.put, sA, sB, sC, Nat.zero_add, Nat.reduceAdd, e0] at hK ⊢; go_simp; with_reducible refine hK _ _ (Below.refl _ _) ?_
      exact ⟨_, rfl, n0⟩
     ·as_aux_lemma =>
      intro vs W hS hdep K hK; have d0 := hdep ⟨11, .data⟩ (by simp) rfl; simp only [PhiGb] at d0; refine @exE1 _ _ _ d0 ?_; clear d0; intro v0 d0; have e0 := d0.1; have n0 := d0.2; clear d0; refine ⟨?_⟩; simp only [fillR, Act.put, sA, sB, sC, Nat.zero_add, Nat.reduceAdd, e0] at hK ⊢; go_simp; with_reducible refine hK _ _ (Below.refl _ _) ?_
      exact n0
     ·as_aux_lemma =>
      intro vs W hS hdep K hK; have d0 := hdep ⟨11, .data⟩ (by simp) rfl; simp only [PhiGb] at d0; refine @exE1 _ _ _ d0 ?_; clear d0; intro v0 d0; have e0 := d0.1; have n0 := d0.2; clear d0; refine ⟨?_⟩; simp only [fillR, Act.put, sA, sB, sC, Nat.zero_add, Nat.reduceAdd, e0] at hK ⊢; go_simp; with_reducible refine hK _ _ (Below.refl _ _) ?_
      exact rfl
     ·as_aux_lemma =>
      intro vs W hS hdep K hK; have d0 := hdep ⟨12, .data⟩ (by simp) rfl; simp only [PhiGb] at d0; have n0 := d0; clear d0; refine ⟨?_⟩; simp only [fillR, Act.put, sA, sB, sC, Nat.zero_add, Nat.reduceAdd] at hK ⊢; go_simp; with_reducible refine hK _ _ (Below.refl _ _) ?_
      exact n0
     ·as_aux_lemma =>
      intro vs W hS hdep K hK; have d0 := hdep ⟨13, .data⟩ (by simp) rfl; simp only [PhiGb] at d0; refine ⟨?_⟩; simp only [fillR, Act.put, sA, sB, sC, Nat.zero_add, Nat.reduceAdd, d0] at hK ⊢; go_simp; with_reducible refine hK _ _ (Below.refl _ _) ?_
      exact rfl
    ·intro vs w12 hS hv; have v14 := hv 14 (by simp); have v15 := hv 15 (by simp); simp only [PhiGb] at v14 v15; rw [← HC2.out] at v14; rw [← HE2.out] at v15; obtain ⟨A12, c12, e14, h12⟩ := v14; have S := S.below hS; have f1 := cell_keep hS f1; have f2 := cell_keep hS f2; have hRL := hRL.below hS; have h9 := h9.below hS; have h10 := h10.below hS; have h11 := h11.below hS; have hbe := Below.tr hbe hS; obtain ⟨A9, c9, rfl, r9⟩ := h9; obtain ⟨A10, c10, rfl, r10⟩ := h10; simp only [fillR, Act.put, sA, sB, sC, Nat.zero_add, Nat.reduceAdd, e14, v15]; clear hv v15 e14 hS HE2 HC1 HC2; have b1 : (E1 != E1) = false := bne_self_eq_false _; have b2 : (E2 != E2) = false := bne_self_eq_false _; go_wp2_with fail; refine (ints_n A9 A10 _ c9 _ c10 C1 C1 _ r9 r10).mono ?_; rintro e w13 ⟨rfl, hb13⟩; have h11 := h11.below hb13; have h12 := h12.below hb13; have S := S.below hb13; have f1 := cell_keep hb13 f1; have f2 := cell_keep hb13 f2; have hRL := hRL.below hb13; have hbe := Below.tr hbe hb13; rw [decide_eq_true (rfl : C1 = C1)]; clear hb13 r9 r10; go_wp2_with fail; refine (ints_n A11 A12 _ c11 _ c12 C2 C2 _ h11 h12).mono ?_; rintro e w14 ⟨rfl, hb14⟩; have S := S.below hb14; have f1 := cell_keep hb14 f1; have f2 := cell_keep hb14 f2; have hRL := hRL.below hb14; have hbe := Below.tr hbe hb14; rw [decide_eq_true (rfl : C2 = C2)]; clear hb14 h11 h12 b1 b2; go_upto_region 15 with fail; have hbf0 := bA w14 (.cells #[] 53); have hsz0 : (w14.alloc (.cells #[] 53)).heap.size = w14.heap.size + 1 := by simp
     have hrd0 := (S.hps.below hbf0).1; have hall0 : OwnAll NoL (w14.alloc (.cells #[] 53)) (.slice (some ⟨w14.heap.size, 0, none⟩) 0 0) := OwnAll.blk (Blk.new w14 53 #[]) (fun x hx => by simp at hx); have HLN : Hid ((ps.flatMap cellsP).length = kp * 24) := by show _ = _; rw [flat_len cellsP_len, S.hps.2.1]
     have HONP : Hid (∀ u ∈ ps.flatMap cellsP, u.oneCell' = true) := fun u hu => by
      obtain ⟨p, hp, h⟩ := List.mem_flatMap.1 hu; exact (HPO.out p hp).one u h
     have HNOP : Hid (∀ u ∈ ps.flatMap cellsP, NoL u) := fun u hu => by
      obtain ⟨p, hp, h⟩ := List.mem_flatMap.1 hu; exact (HPO.out p hp).noL u h
     go_upto_region 16 with (at_builtin; go_loud (refine wpList_append_all rfl NoL (.tmp 140) (.tmp 141) _ rfl w14.heap.size 53 iP zeroPV 24 128 Try.underlying37 hiP hzP hzP1 hzP2 zeroPV_size (by omega) (.slice (some ⟨w14.heap.size, 0, none⟩) 0 0) 0 [] rfl (own_nil0 w14 53 24) Ap kp cp (ps.flatMap cellsP) rfl HLN.out hrd0 HONP.out (by simp only [maxLen]; omega) (by omega) (by rw [hsz0]; omega) zeroPV_noL HNOP.out hall0 ?_); intro vA x1 hownA hgA hatA hallA)
     have hbx1 : Below w14.heap.size w14 x1 := hbf0.grown hgA (by rw [hsz0]; omega) (own_block_ge (own_nil0 w14 53 24)); clear hgA hatA hall0 hrd0 hsz0 hbf0 HONP HNOP HLN; rw [Nat.zero_add, List.nil_append] at hownA; obtain ⟨AA, cA, rfl⟩ := own_shp hownA; have hrA := own_any cellsP_len (by omega) (by omega) hownA; have S1 := S.below hbx1; obtain ⟨cb, hcb⟩ : ∃ cb, Hid (cb = decide ((kp : Int) > 0)) := ⟨_, rfl⟩
     go_upto_if 145 with fail
     first | rw [← hcb.out] | rw [show decide (0 < (kp : Int)) = cb from hcb.out.symm] | rw [show decide (0 < kp) = cb by rw [hcb.out]; simp] | rw [show decide (¬ kp = 0) = cb by rw [hcb.out]; simp; omega]
     go_cut [30, 31] from 62 to 194 (fun p q wx => ∃ A c ps' Lf', p = .slice A kp c ∧ RowS cellsP wx A kp ps' ∧ PsL wx ps' Lf' ∧ Below w14.heap.size w14 wx)
     case first => as_aux_lemma =>
      by_cases h0 : 0 < kp
      ·obtain rfl : cb = true := hcb.out.trans (by simp; omega); obtain ⟨gA, cA', cur, eA, hgA, hbA⟩ := own_some hownA h0; injection eA with e1 _ e3; subst e1 e3; go_wp2_with fail; refine (around_n by_ kp _ y1 y2 h0 (by omega)).mono ?_; rintro e w' ⟨k, rfl, hk, _, rfl⟩; have hkl : k < ps.length := by have := S.hps.2.1; omega
       have hkc : (k : Int) < (kp : Int) := by omega
       have hk1 := List.getElem?_eq_getElem hkl; obtain ⟨_, hrk, gk_, _⟩ := (HOK0.out.below (Below.tr hbe hbx1)) k _ hk1; obtain ⟨b, off, hAA, HC⟩ := hrA.at_ cellsP_len (by omega) hk hkl; injection hAA with hAA; injection hAA with e1 e2; subst e1 e2; have q1 := HC.out 4 _ rfl; have q2 := HC.out 5 _ rfl; simp only [Nat.zero_add] at q1 q2; obtain ⟨B1, l1', d1', B2, l2', d2', hsh⟩ := hrk.shape; simp only [Value.agg.injEq, Array.mk.injEq, List.cons.injEq, and_true] at hsh; rw [hsh.1] at q1; rw [hsh.2] at q2; rw [hsh.1, hsh.2] at hrk; clear hsh HC hk1; go_wp2_with fail; refine (spoilt_n _ _ _ by_ d _ hrk gk_ y1 y2 y3 y4).mono ?_; rintro e x2 ⟨v, m1', m2', rfl, hrd, _, _, hb2⟩; obtain ⟨D1, m5', n5', D2, m6', n6', rfl⟩ := hrd.shape; have hbA2 := Blk.below hbA hb2 hbA.lt; have z1' := hbA2.frozen (k * 24 + 4); have z2' := hbA2.frozen (k * 24 + 4 + 1); have q1 := cell_keep hb2 q1; have q2 := cell_keep hb2 q2; have hownB := own_below hownA hb2; have hallB := hallA.below hb2 (fun g hg => ownsRow_lt hownA g hg); obtain ⟨hrow, hpl⟩ := bound_set hownB (by omega) hallB hkl (S1.pl.below hb2) hrd; have hbx2 := Below.tr hbx1 hb2; have hbx3 := (hbx2.setCell (p := ⟨gA, k * 24 + 4, none⟩) hgA (.slice D1 m5' n5')).setCell (p := ⟨gA, k * 24 + 4 + 1, none⟩) hgA (.slice D2 m6' n6'); clear hrk hownA hownB hallA hallB hbA hbA2 hrA hrd hbx1 hbx2 S S1 f1 f2 hRL hbe hb2; go_wp2_with fail
       go_meet
       case rel => exact ⟨_, _, _, _, rfl, hrow, hpl, hbx3⟩
      ·obtain rfl : cb = false := hcb.out.trans (by simp; omega); go_wp2_with fail
       go_meet
       case rel => exact ⟨_, _, ps, Lf, rfl, hrA, S1.pl, hbx1⟩
     obtain ⟨A3', c3', ps', Lf', rfl, hps', hpl', hbx⟩ := hcut; clear hcb hownA hallA hrA S1 hbx1; have S := S.below hbx; have f1 := cell_keep hbx f1; have f2 := cell_keep hbx f2; have hRL := hRL.below hbx; have hbe := Below.tr hbe hbx; obtain ⟨wc', hwc⟩ : ∃ x, x = wc := ⟨_, rfl⟩; subst hwc; clear hbx; go_wp2_with fail; refine (gbuild_E A3' Aa An V kp c3' ka ca kn cn kn cv la ps' Lf' nm rt (.agg #[v1, v2]) L1 L2 _ hps' S.hla S.hnm S.hv S.hvo HSK.out HKN.out hpl' hRL).mono ?_; rintro e w19 ⟨v9, rfl, h9, hb9⟩; obtain ⟨E3, HE3⟩ : ∃ E, Hid (E = bqE kp kn kn la ps' Lf' nm rt L1 L2) := ⟨_, rfl⟩; obtain ⟨C3, HC3⟩ : ∃ E, Hid (E = bqC kp kn kn la ps' Lf' nm rt L1 L2) := ⟨_, rfl⟩; rw [← HC3.out] at h9; rw [← HE3.out]; have S := S.below hb9; have f1 := cell_keep hb9 f1; have f2 := cell_keep hb9 f2; have hRL := hRL.below hb9; have hps' := hps'.below hb9; have hpl' := hpl'.below hb9; have hbe := Below.tr hbe hb9; clear hb9; go_wp2_with fail; refine (rbuild_E A3' Aa An V kp c3' ka ca kn cn kn cv la ps' Lf' nm rt (.agg #[v1, v2]) L1 L2 _ hps' S.hla S.hnm S.hv S.hvo HSK.out HKN.out hpl' hRL).mono ?_; rintro e w20 ⟨v10, rfl, h10, hb10⟩; rw [← HC3.out] at h10; rw [← HE3.out]; have h9 := h9.below hb10; have hbe := Below.tr hbe hb10; clear hb10 HE3 S f1 f2 hRL hps' hpl'; obtain ⟨A9', c9', rfl, r9⟩ := h9; obtain ⟨A10', c10', rfl, r10⟩ := h10; have b1 : (E3 != E3) = false := bne_self_eq_false _; go_wp2_with fail; refine (ints_n A9' A10' _ c9' _ c10' C3 C3 _ r9 r10).mono ?_; rintro e w21 ⟨rfl, hb21⟩
     rw [decide_eq_true (rfl : C3 = C3)]; have hbe := Below.tr hbe hb21; clear hb21 r9 r10 b1 HC3; go_wp2_with fail
     go_roundg (G - 1)
     case measure => omega
     case rel => exact ⟨i + 1, by go_num, by omega, hbe⟩
  ·obtain rfl : i = 4 := by omega
   have hbw := Below.tr HS0.out.be hbe; clear HS0 HOK0; go_wp2_with fail; refine (lives_n _).mono ?_; rintro e w30 ⟨rfl, hb30⟩; go_wp2_with fail; go_ret; exact ⟨rfl, Below.tr hbw hb30⟩
end Go.Proofs.Yticobffjnjbjiaa
