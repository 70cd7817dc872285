import Derived.Test.YtnjjdiilkhdbeaaKCutProof28
import Derived.Test.YtnjjdiilkhdbeaaS0
set_option linter.unusedVariables false
set_option linter.unusedSimpArgs false
namespace Go.Proofs.Ytnjjdiilkhdbeaa
open Go Go.RowKit
set_option maxRecDepth 100000 in
set_option maxHeartbeats 8000000 in
theorem lives17_n (w : World) : Calls Try.prog 18 #[] w fun e w' => e = .returned (.bool true) ∧ Below w.heap.size w w' := by
 go_enter Try.func18, Try.ntmps18
 go_wp2_with fail; refine (of_R 1 4 _ (by omega) (by omega) (by omega)).mono ?_; rintro e w1 ⟨v, rfl, hB, hb⟩; obtain ⟨X1, xk1, xc1, X2, xk2, xc2, rfl⟩ := hB.shape; have hb1 := hb; clear hb; go_wp2_with fail; refine (of_R 2 1 _ (by omega) (by omega) (by omega)).mono ?_; rintro e w2 ⟨v, rfl, h2, hb⟩; obtain ⟨E1, k1, c1, E2, k2, c2, rfl⟩ := h2.shape; have hr1 := Lib.hid (ratRow_new 25 [(.slice E1 k1 c1, .slice E2 k2 c2)] [redP 2 1] ⟨h2, trivial⟩ (by simp)); have hbA := bA w2 (.cells #[.slice E1 k1 c1, .slice E2 k2 c2] 25); have hB := hB.below (Below.tr hb hbA); have hb2 := Below.tr hb1 (Below.tr hb hbA); obtain ⟨u2, hu2⟩ : ∃ u, Hid (u = w2.alloc (.cells #[.slice E1 k1 c1, .slice E2 k2 c2] 25)) := ⟨_, rfl⟩; obtain ⟨A1, hA1⟩ : ∃ A : Option Addr, Hid (A = some ⟨w2.heap.size, 0, none⟩) := ⟨_, rfl⟩; have hr1 : RatRow u2 A1 1 [redP 2 1] := by rw [hu2.out, hA1.out]; exact hr1.out
 rw [← hu2.out] at hB hb2; clear hb hb1 h2 hbA; go_wp2_with fail; rw [← hu2.out, ← hA1.out]; refine (of_R 1 1 _ (by omega) (by omega) (by omega)).mono ?_; rintro e w3 ⟨v, rfl, h3, hb⟩; obtain ⟨F1, m1, d1, F2, m2, d2, rfl⟩ := h3.shape; have hB := hB.below hb; have hr1 := hr1.below hb; have hb3 := Below.tr hb2 hb; clear hb hb2 hu2 hA1; go_wp2_with fail; refine (of_R 4 1 _ (by omega) (by omega) (by omega)).mono ?_; rintro e w4 ⟨v, rfl, h4, hb⟩; obtain ⟨G1, n1, e1, G2, n2, e2, rfl⟩ := h4.shape; have hB := hB.below hb; have hr1 := hr1.below hb; have h3 := h3.below hb; have hb4 := Below.tr hb3 hb; clear hb hb3; have hr2 := Lib.hid (ratRow_new 25 [(.slice F1 m1 d1, .slice F2 m2 d2), (.slice G1 n1 e1, .slice G2 n2 e2)] [redP 1 1, redP 4 1] ⟨h3, h4, trivial⟩ (by simp)); go_upto_region 2 with fail; refine wp_name ?_; intro w5 HW5; obtain ⟨gP, hgP⟩ : ∃ g, Hid (g = w4.heap.size + 1 + 1) := ⟨_, rfl⟩; obtain ⟨S, hS0⟩ : ∃ A : Option Addr, Hid (A = some ⟨w4.heap.size + 1, 0, none⟩) := ⟨_, rfl⟩; have hb5 : Below w4.heap.size w4 w5 := by rw [HW5.out]; exact Below.tr (Below.tr (bA _ _) (bA _ _)) (bA _ _)
 have hBP : Blk w5 gP 38 #[.slice X1 xk1 xc1, .slice X2 xk2 xc2, .slice S 2 2] := by rw [HW5.out, hgP.out, hS0.out]; exact Blk.newG (by simp)
 have hpl : PlanV w5 (.agg #[.slice X1 xk1 xc1, .slice X2 xk2 xc2, .slice S 2 2]) lvB lvR := by
  refine ⟨_, _, S, 2, 2, rfl, hB.below hb5, ?_⟩; have h := ratRows_new2 36 A1 1 1 (some ⟨w4.heap.size, 0, none⟩) 2 2 _ _ (hr1.below (bA w4 (.cells #[.slice F1 m1 d1, .slice F2 m2 d2, .slice G1 n1 e1, .slice G2 n2 e2] 25))) hr2.out; have e : (w4.alloc (.cells #[.slice F1 m1 d1, .slice F2 m2 d2, .slice G1 n1 e1, .slice G2 n2 e2] 25)).heap.size = w4.heap.size + 1 := by simp
  rw [e] at h; rw [HW5.out, hS0.out]; exact h.below (bA _ _)
 have P0 := hBP.cell 0; have P1 := hBP.cell 1; have P2 := hBP.cell 2; simp only [List.getElem?_toArray, List.getElem?_cons_zero, List.getElem?_cons_succ] at P0 P1 P2; have hbw := Below.tr hb4 hb5; rw [← hgP.out, ← hS0.out]; clear HW5 hBP hB hr1 hr2 h3 h4 hb4 hb5 hgP hS0; have hbA := bA w5 (.cells #[.bool true, .bool true] 4); go_wp2_with fail; refine (lvx_cap [true, true] _ _ (some ⟨w5.heap.size, 0, none⟩) 2 2 _ (hpl.below hbA) ⟨Rd.newC _ _ [.bool true, .bool true], rfl, by omega⟩ (by decide) lv_capA (by simp)).mono ?_; rintro e w6 ⟨Aa, ca, rfl, ra, hb⟩; simp only [List.length_cons, List.length_nil, Nat.zero_add, Nat.reduceAdd] at ra ⊢; have hb := Below.tr hbA hb; clear hbA; have hpl := hpl.below hb; have P0 := cell_keep hb P0; have P1 := cell_keep hb P1; have P2 := cell_keep hb P2; have hbw := Below.tr hbw hb; clear hb; have hbA := bA w6 (.cells #[.bool false, .bool true, .bool true] 4); go_wp2_with fail; refine (lvx_cap [false, true, true] _ _ (some ⟨w6.heap.size, 0, none⟩) 3 3 _ (hpl.below hbA) ⟨Rd.newC _ _ [.bool false, .bool true, .bool true], rfl, by omega⟩ (by decide) lv_capB (by simp)).mono ?_; rintro e w7 ⟨Ab, cb, rfl, rb, hb⟩; simp only [List.length_cons, List.length_nil, Nat.zero_add, Nat.reduceAdd] at rb ⊢; have hb := Below.tr hbA hb; clear hbA; have hpl := hpl.below hb; have ra := ra.below hb; have P0 := cell_keep hb P0; have P1 := cell_keep hb P1; have P2 := cell_keep hb P2; have hbw := Below.tr hbw hb; clear hb; have hbA := bA w7 (.cells #[.bool true, .bool false] 4)
 go_wp2_with fail; refine (lvx_cap [true, false] _ _ (some ⟨w7.heap.size, 0, none⟩) 2 2 _ (hpl.below hbA) ⟨Rd.newC _ _ [.bool true, .bool false], rfl, by omega⟩ (by decide) lv_capC (by simp)).mono ?_; rintro e w8 ⟨Ac, cc, rfl, rc, hb⟩; simp only [List.length_cons, List.length_nil, Nat.zero_add, Nat.reduceAdd] at rc ⊢; have hb := Below.tr hbA hb; clear hbA; have hpl := hpl.below hb; have ra := ra.below hb; have rb := rb.below hb; have P0 := cell_keep hb P0; have P1 := cell_keep hb P1; have P2 := cell_keep hb P2; have hbw := Below.tr hbw hb; clear hb; obtain ⟨iR, hiR, hzR, hzR1, hzR2⟩ := info_parts info_ratio
 as_aux_lemma =>
  go_wp2_with fail; refine (of_R 1 1 _ (by omega) (by omega) (by omega)).mono ?_; rintro e w9 ⟨v, rfl, ha0, hb⟩; obtain ⟨Eha0, kha0, cha0, Gha0, mha0, dha0, rfl⟩ := ha0.shape; have hpl := hpl.below hb; have ra := ra.below hb; have rb := rb.below hb; have rc := rc.below hb; have P0 := cell_keep hb P0; have P1 := cell_keep hb P1; have P2 := cell_keep hb P2; have hbw := Below.tr hbw hb; clear hb; go_wp2_with fail; refine (of_R 5 2 _ (by omega) (by omega) (by omega)).mono ?_; rintro e w10 ⟨v, rfl, ha1, hb⟩; obtain ⟨Eha1, kha1, cha1, Gha1, mha1, dha1, rfl⟩ := ha1.shape; have hpl := hpl.below hb; have ra := ra.below hb; have rb := rb.below hb; have rc := rc.below hb; have ha0 := ha0.below hb; have P0 := cell_keep hb P0; have P1 := cell_keep hb P1; have P2 := cell_keep hb P2; have hbw := Below.tr hbw hb; clear hb; go_wp2_with fail; refine (of_R 10 1 _ (by omega) (by omega) (by omega)).mono ?_; rintro e w11 ⟨v, rfl, ha2, hb⟩; obtain ⟨Eha2, kha2, cha2, Gha2, mha2, dha2, rfl⟩ := ha2.shape; have hpl := hpl.below hb; have ra := ra.below hb; have rb := rb.below hb; have rc := rc.below hb; have ha0 := ha0.below hb; have ha1 := ha1.below hb; have P0 := cell_keep hb P0; have P1 := cell_keep hb P1; have P2 := cell_keep hb P2; have hbw := Below.tr hbw hb; clear hb; have hrow := Lib.hid (ratRow_new 25 [(.slice Eha0 kha0 cha0, .slice Gha0 mha0 dha0), (.slice Eha1 kha1 cha1, .slice Gha1 mha1 dha1), (.slice Eha2 kha2 cha2, .slice Gha2 mha2 dha2)] [redP 1 1, redP 5 2, redP 10 1] ⟨ha0, ha1, ha2, trivial⟩ (by simp))
  have hbA := bA w11 (.cells #[.slice Eha0 kha0 cha0, .slice Gha0 mha0 dha0, .slice Eha1 kha1 cha1, .slice Gha1 mha1 dha1, .slice Eha2 kha2 cha2, .slice Gha2 mha2 dha2] 25)
  go_wp2_with (refine wpList_sliceG (by rfl) 36 25 3 [(0, .tmp 58), (1, .tmp 59), (2, .tmp 60)] rfl #[.slice Eha0 kha0 cha0, .slice Gha0 mha0 dha0, .slice Eha1 kha1 cha1, .slice Gha1 mha1 dha1, .slice Eha2 kha2 cha2, .slice Gha2 mha2 dha2] iR nilRat 2 [(0, .agg #[.slice Eha0 kha0 cha0, .slice Gha0 mha0 dha0]), (1, .agg #[.slice Eha1 kha1 cha1, .slice Gha1 mha1 dha1]), (2, .agg #[.slice Eha2 kha2 cha2, .slice Gha2 mha2 dha2])] Try.underlying36 hiR hzR hzR1 (by omega) (by omega) rfl (fill_r3 _ _ _ _ _ _ _ _ _ _ _ _ _ _ _ _ _ _) ?_; simp only [Act.put, sA, sB, sC])
  refine (same_F Aa (some ⟨w11.heap.size, 0, none⟩) 3 ca 3 [redP 1 1, redP 5 2, redP 10 1] _ (ra.below hbA) hrow.out).mono ?_; rintro e w12 ⟨rfl, hb⟩; have hb := Below.tr hbA hb; clear hbA hrow; clear ha0 ha1 ha2 ra; have hpl := hpl.below hb; have rb := rb.below hb; have rc := rc.below hb; have P0 := cell_keep hb P0; have P1 := cell_keep hb P1; have P2 := cell_keep hb P2; have hbw := Below.tr hbw hb; clear hb; go_wp2_with fail; refine (of_R 1 1 _ (by omega) (by omega) (by omega)).mono ?_; rintro e w13 ⟨v, rfl, hb0, hb⟩; obtain ⟨Ehb0, khb0, chb0, Ghb0, mhb0, dhb0, rfl⟩ := hb0.shape; have hpl := hpl.below hb; have rb := rb.below hb; have rc := rc.below hb; have P0 := cell_keep hb P0; have P1 := cell_keep hb P1; have P2 := cell_keep hb P2; have hbw := Below.tr hbw hb; clear hb; go_wp2_with fail; refine (of_R 1 2 _ (by omega) (by omega) (by omega)).mono ?_; rintro e w14 ⟨v, rfl, hb1, hb⟩; obtain ⟨Ehb1, khb1, chb1, Ghb1, mhb1, dhb1, rfl⟩ := hb1.shape; have hpl := hpl.below hb; have rb := rb.below hb; have rc := rc.below hb; have hb0 := hb0.below hb; have P0 := cell_keep hb P0; have P1 := cell_keep hb P1; have P2 := cell_keep hb P2; have hbw := Below.tr hbw hb; clear hb; go_wp2_with fail; refine (of_R 7 8 _ (by omega) (by omega) (by omega)).mono ?_; rintro e w15 ⟨v, rfl, hb2, hb⟩; obtain ⟨Ehb2, khb2, chb2, Ghb2, mhb2, dhb2, rfl⟩ := hb2.shape; have hpl := hpl.below hb; have rb := rb.below hb; have rc := rc.below hb; have hb0 := hb0.below hb; have hb1 := hb1.below hb; have P0 := cell_keep hb P0
  have P1 := cell_keep hb P1; have P2 := cell_keep hb P2; have hbw := Below.tr hbw hb; clear hb; go_wp2_with fail; refine (of_R 7 8 _ (by omega) (by omega) (by omega)).mono ?_; rintro e w16 ⟨v, rfl, hb3, hb⟩; obtain ⟨Ehb3, khb3, chb3, Ghb3, mhb3, dhb3, rfl⟩ := hb3.shape; have hpl := hpl.below hb; have rb := rb.below hb; have rc := rc.below hb; have hb0 := hb0.below hb; have hb1 := hb1.below hb; have hb2 := hb2.below hb; have P0 := cell_keep hb P0; have P1 := cell_keep hb P1; have P2 := cell_keep hb P2; have hbw := Below.tr hbw hb; clear hb; have hrow := Lib.hid (ratRow_new 25 [(.slice Ehb0 khb0 chb0, .slice Ghb0 mhb0 dhb0), (.slice Ehb1 khb1 chb1, .slice Ghb1 mhb1 dhb1), (.slice Ehb2 khb2 chb2, .slice Ghb2 mhb2 dhb2), (.slice Ehb3 khb3 chb3, .slice Ghb3 mhb3 dhb3)] [redP 1 1, redP 1 2, redP 7 8, redP 7 8] ⟨hb0, hb1, hb2, hb3, trivial⟩ (by simp)); have hbA := bA w16 (.cells #[.slice Ehb0 khb0 chb0, .slice Ghb0 mhb0 dhb0, .slice Ehb1 khb1 chb1, .slice Ghb1 mhb1 dhb1, .slice Ehb2 khb2 chb2, .slice Ghb2 mhb2 dhb2, .slice Ehb3 khb3 chb3, .slice Ghb3 mhb3 dhb3] 25)
  go_wp2_with (refine wpList_sliceG (by rfl) 36 25 4 [(0, .tmp 67), (1, .tmp 68), (2, .tmp 69), (3, .tmp 70)] rfl #[.slice Ehb0 khb0 chb0, .slice Ghb0 mhb0 dhb0, .slice Ehb1 khb1 chb1, .slice Ghb1 mhb1 dhb1, .slice Ehb2 khb2 chb2, .slice Ghb2 mhb2 dhb2, .slice Ehb3 khb3 chb3, .slice Ghb3 mhb3 dhb3] iR nilRat 2 [(0, .agg #[.slice Ehb0 khb0 chb0, .slice Ghb0 mhb0 dhb0]), (1, .agg #[.slice Ehb1 khb1 chb1, .slice Ghb1 mhb1 dhb1]), (2, .agg #[.slice Ehb2 khb2 chb2, .slice Ghb2 mhb2 dhb2]), (3, .agg #[.slice Ehb3 khb3 chb3, .slice Ghb3 mhb3 dhb3])] Try.underlying36 hiR hzR hzR1 (by omega) (by omega) rfl (fill_r4 _ _ _ _ _ _ _ _ _ _ _ _ _ _ _ _ _ _ _ _ _ _ _ _) ?_; simp only [Act.put, sA, sB, sC])
  refine (same_F Ab (some ⟨w16.heap.size, 0, none⟩) 4 cb 4 [redP 1 1, redP 1 2, redP 7 8, redP 7 8] _ (rb.below hbA) hrow.out).mono ?_; rintro e w17 ⟨rfl, hb⟩; have hb := Below.tr hbA hb; clear hbA hrow; clear hb0 hb1 hb2 hb3 rb; have hpl := hpl.below hb; have rc := rc.below hb; have P0 := cell_keep hb P0; have P1 := cell_keep hb P1; have P2 := cell_keep hb P2; have hbw := Below.tr hbw hb; clear hb; go_wp2_with fail; refine (of_R 1 1 _ (by omega) (by omega) (by omega)).mono ?_; rintro e w18 ⟨v, rfl, hc0, hb⟩; obtain ⟨Ehc0, khc0, chc0, Ghc0, mhc0, dhc0, rfl⟩ := hc0.shape; have hpl := hpl.below hb; have rc := rc.below hb; have P0 := cell_keep hb P0; have P1 := cell_keep hb P1; have P2 := cell_keep hb P2; have hbw := Below.tr hbw hb; clear hb; go_wp2_with fail; refine (of_R 5 2 _ (by omega) (by omega) (by omega)).mono ?_; rintro e w19 ⟨v, rfl, hc1, hb⟩; obtain ⟨Ehc1, khc1, chc1, Ghc1, mhc1, dhc1, rfl⟩ := hc1.shape; have hpl := hpl.below hb; have rc := rc.below hb; have hc0 := hc0.below hb; have P0 := cell_keep hb P0; have P1 := cell_keep hb P1; have P2 := cell_keep hb P2; have hbw := Below.tr hbw hb; clear hb; have hrow := Lib.hid (ratRow_new 25 [(.slice Ehc0 khc0 chc0, .slice Ghc0 mhc0 dhc0), (.slice Ehc1 khc1 chc1, .slice Ghc1 mhc1 dhc1), (.slice none 0 0, .slice none 0 0)] [redP 1 1, redP 5 2, nilP] ⟨hc0, hc1, nil_rtP w19, trivial⟩ (by simp)); have hbA := bA w19 (.cells #[.slice Ehc0 khc0 chc0, .slice Ghc0 mhc0 dhc0, .slice Ehc1 khc1 chc1, .slice Ghc1 mhc1 dhc1, .slice none 0 0, .slice none 0 0] 25)
  go_wp2_with (refine wpList_sliceG (by rfl) 36 25 3 [(0, .tmp 77), (1, .tmp 78), (2, .tmp 79)] rfl #[.slice Ehc0 khc0 chc0, .slice Ghc0 mhc0 dhc0, .slice Ehc1 khc1 chc1, .slice Ghc1 mhc1 dhc1, .slice none 0 0, .slice none 0 0] iR nilRat 2 [(0, .agg #[.slice Ehc0 khc0 chc0, .slice Ghc0 mhc0 dhc0]), (1, .agg #[.slice Ehc1 khc1 chc1, .slice Ghc1 mhc1 dhc1]), (2, .agg #[.slice none 0 0, .slice none 0 0])] Try.underlying36 hiR hzR hzR1 (by omega) (by omega) rfl (fill_r3 _ _ _ _ _ _ _ _ _ _ _ _ _ _ _ _ _ _) ?_; simp only [Act.put, sA, sB, sC])
  refine (same_F Ac (some ⟨w19.heap.size, 0, none⟩) 3 cc 3 [redP 1 1, redP 5 2, nilP] _ (rc.below hbA) hrow.out).mono ?_; rintro e w20 ⟨rfl, hb⟩; have hb := Below.tr hbA hb; clear hbA hrow; clear hc0 hc1 rc; have hpl := hpl.below hb; have P0 := cell_keep hb P0; have P1 := cell_keep hb P1; have P2 := cell_keep hb P2; have hbw := Below.tr hbw hb; clear hb
  as_aux_lemma =>
   go_upto_region 7 with fail; refine region_invW (PhiL1 (.agg #[.slice X1 xk1 xc1, .slice X2 xk2 xc2, .slice S 2 2]) (redP 1 4) (redP 1 1) w20.heap.size) (RT w20.heap.size) (SD w20 4 6 7) (by kernel_rfl) (by kernel_rfl) (by kernel_rfl) PhiL1.keep (SD.start _ _ _ _ _) (fun vs => by simp only [fillR, Act.put, sA, sB, sC, Nat.zero_add, Nat.reduceAdd]; rfl) ?_ ?_
   ·refine sK ?_ (sK ?_ (sK ?_ (sK ?_ (sK ?_ (sK ?_ (sK ?_ (sK ?_ (sK ?_ (sZ)))))))))
    ·as_aux_lemma =>
     intro vs L W hS hL cl hdl hdep K hK; have f1 := cell_keep hS.be P0; have f2 := cell_keep hS.be P1; have f3 := cell_keep hS.be P2; refine ⟨?_⟩; simp only [Act.put, sA, sB, sC, Nat.zero_add, Nat.reduceAdd] at hK ⊢; go_simp; with_reducible refine hK _ _ (RT.refl _ _) (hS.step (Below.refl _ _) 0 _ (by decide) (fun e => absurd e (by decide))) ?_
     exact rfl
    ·as_aux_lemma =>
     intro vs L W hS hL cl hdl hdep K hK; refine ⟨?_⟩; simp only [Act.put, sA, sB, sC, Nat.zero_add, Nat.reduceAdd] at hK ⊢; go_simp; refine (of_R 1 4 _ (by omega) (by omega) (by omega)).mono ?_; rintro e w' ⟨v, rfl, hv, hb⟩; go_wp2_with fail; with_reducible refine hK _ _ (RT.below hb hS.be.size) (hS.step hb 1 _ (by decide) (fun e => absurd e (by decide))) ?_
     exact hv
    ·as_aux_lemma =>
     intro vs L W hS hL cl hdl hdep K hK; have d0 := hdep ⟨0, .data⟩ (by simp) rfl; simp only [PhiL1] at d0; have d1 := hdep ⟨1, .data⟩ (by simp) rfl; simp only [PhiL1] at d1; have r1 := d1; clear d1; refine ⟨?_⟩; simp only [Act.put, sA, sB, sC, Nat.zero_add, Nat.reduceAdd, d0] at hK ⊢; go_simp; refine (lvx_exp 1 4 _ _ _ _ (hpl.below hS.be) r1 (by omega) (by decide) (by omega) (by omega) lv_one).mono ?_; rintro e w' ⟨v, rfl, hn, hb⟩; go_wp2_with fail; with_reducible refine hK _ _ (RT.below hb hS.be.size) (hS.step hb 2 _ (by decide) (fun e => absurd e (by decide))) ?_
     exact ⟨v, rfl, hn⟩
    ·as_aux_lemma =>
     intro vs L W hS hL cl hdl hdep K hK; have d0 := hdep ⟨2, .data⟩ (by simp) rfl; simp only [PhiL1] at d0; refine @exE1 _ _ _ d0 ?_; clear d0; intro v0 d0; have e0 := d0.1; have n0 := d0.2; clear d0; refine ⟨?_⟩; simp only [Act.put, sA, sB, sC, Nat.zero_add, Nat.reduceAdd, e0] at hK ⊢; go_simp; with_reducible refine hK _ _ (RT.refl _ _) (hS.step (Below.refl _ _) 3 _ (by decide) (fun e => absurd e (by decide))) ?_
     exact ⟨_, rfl, n0⟩
    ·as_aux_lemma =>
     intro vs L W hS hL cl hdl hdep K hK; have d0 := hdep ⟨3, .data⟩ (by simp) rfl; simp only [PhiL1] at d0; refine @exE1 _ _ _ d0 ?_; clear d0; intro v0 d0; have e0 := d0.1; have n0 := d0.2; clear d0
     have h7 : L 7 = false := by
      cases h : L 7 with
      | false => rfl
      | true => exact absurd (cl 7 _ rfl h ⟨4, .data⟩ (by simp) rfl) (by rw [hL]; decide)
     obtain ⟨A, k, c, A', k', c', rfl⟩ := n0.shape; refine ⟨?_⟩; simp only [Act.put, sA, sB, sC, Nat.zero_add, Nat.reduceAdd, e0] at hK ⊢; go_simp; with_reducible refine hK _ _ (RT.refl _ _) (hS.step (Below.refl _ _) 4 _ (by decide) (fun _ => h7)) ?_
     exact ⟨_, _, _, _, _, _, rfl, n0⟩
    ·as_aux_lemma =>
     intro vs L W hS hL cl hdl hdep K hK; have d0 := hdep ⟨3, .data⟩ (by simp) rfl; simp only [PhiL1] at d0; refine @exE1 _ _ _ d0 ?_; clear d0; intro v0 d0; have e0 := d0.1; have n0 := d0.2; clear d0; refine ⟨?_⟩; simp only [Act.put, sA, sB, sC, Nat.zero_add, Nat.reduceAdd, e0] at hK ⊢; go_simp; with_reducible refine hK _ _ (RT.refl _ _) (hS.step (Below.refl _ _) 5 _ (by decide) (fun e => absurd e (by decide))) ?_
     exact rfl
    ·as_aux_lemma =>
     intro vs L W hS hL cl hdl hdep K hK
     have h7 : L 7 = false := by
      cases h : L 7 with
      | false => rfl
      | true => exact absurd (cl 7 _ rfl h ⟨6, .data⟩ (by simp) rfl) (by rw [hL]; decide)
     refine ⟨?_⟩; simp only [Act.put, sA, sB, sC, Nat.zero_add, Nat.reduceAdd] at hK ⊢; go_simp; with_reducible refine hK _ _ (RT.below (bA _ _) hS.be.size) (hS.step (bA _ _) 6 _ (by decide) (fun _ => h7)) ?_
     exact ⟨_, rfl, hS.be.size, none, 0, 0, none, 0, 0, Blk.new _ _ _⟩
    ·as_aux_lemma =>
     intro vs L W hS hL cl hdl hdep K hK; have d0 := hdep ⟨6, .data⟩ (by simp) rfl; simp only [PhiL1] at d0; refine @exE1 _ _ _ d0 ?_; clear d0; intro g0 d0; have e0 := d0.1; have l0 := d0.2.1; have s0 := d0.2.2; clear d0; have d1 := hdep ⟨4, .data⟩ (by simp) rfl; simp only [PhiL1] at d1; refine @exE6 _ _ _ _ _ _ _ _ d1 ?_; clear d1; intro A1 k1 c1 B1 m1 d1 d1; have e1 := d1.1; have n1 := d1.2; clear d1; obtain ⟨⟨a1, q1⟩, ⟨a2, q2⟩, q3, q4⟩ := s0.facts; refine ⟨?_⟩; simp only [Act.put, sA, sB, sC, Nat.zero_add, Nat.reduceAdd, e0, e1] at hK ⊢; go_simp; with_reducible refine hK undef _ (RT.store s0 l0 _ _ _ _ _ _) (hS.stored e0 e1 l0 s0 (by decide) (by decide) _) ?_
     exact trivial
    ·as_aux_lemma =>
     intro vs L W hS hL cl hdl hdep K hK; have d0 := hdep ⟨5, .data⟩ (by simp) rfl; simp only [PhiL1] at d0; refine ⟨?_⟩; simp only [Act.put, sA, sB, sC, Nat.zero_add, Nat.reduceAdd, d0] at hK ⊢; go_simp; with_reducible refine hK _ _ (RT.refl _ _) (hS.step (Below.refl _ _) 8 _ (by decide) (fun e => absurd e (by decide))) ?_
     exact rfl
   intro vs L w21 hS hall hv; have v8 := hv 8 (by simp); have v8 := hv 4 (by simp); simp only [PhiL1] at v8 v8; obtain ⟨_, _, _, _, _, _, e8', ho⟩ := v8; obtain ⟨ga, A9a, k9a, c9a, B9a, m9a, d9a, e10, e8, hgN, hblk⟩ := hS.st (hall 7 (by simp)); rw [e8] at e8'; rw [← e8'] at ho; have HO := Lib.hid ho; have hbe := hS.be; clear hv hS hall e8' ho; simp only [Act.put, sA, sB, sC, Nat.zero_add, Nat.reduceAdd, v8, e10, e8]; have ya := HO.out; have a0 := hblk.cell 0; have a1 := hblk.cell 1; simp only [List.getElem?_toArray, List.getElem?_cons_zero, List.getElem?_cons_succ] at a0 a1; clear HO hblk hgN; have hpl := hpl.below hbe; have P0 := cell_keep hbe P0; have P1 := cell_keep hbe P1; have P2 := cell_keep hbe P2; have hbw := Below.tr hbw hbe; clear hbe
   as_aux_lemma =>
    go_upto_region 8 with fail; refine region_invW (PhiL1 (.agg #[.slice X1 xk1 xc1, .slice X2 xk2 xc2, .slice S 2 2]) (redP 1 2) (redP 45 16) w21.heap.size) (RT w21.heap.size) (SD w21 4 6 7) (by kernel_rfl) (by kernel_rfl) (by kernel_rfl) PhiL1.keep (SD.start _ _ _ _ _) (fun vs => by simp only [fillR, Act.put, sA, sB, sC, Nat.zero_add, Nat.reduceAdd]; rfl) ?_ ?_
    ·refine sK ?_ (sK ?_ (sK ?_ (sK ?_ (sK ?_ (sK ?_ (sK ?_ (sK ?_ (sK ?_ (sZ)))))))))
     ·as_aux_lemma =>
      intro vs L W hS hL cl hdl hdep K hK; have f1 := cell_keep hS.be P0; have f2 := cell_keep hS.be P1; have f3 := cell_keep hS.be P2; refine ⟨?_⟩; simp only [Act.put, sA, sB, sC, Nat.zero_add, Nat.reduceAdd] at hK ⊢; go_simp; with_reducible refine hK _ _ (RT.refl _ _) (hS.step (Below.refl _ _) 0 _ (by decide) (fun e => absurd e (by decide))) ?_
      exact rfl
     ·as_aux_lemma =>
      intro vs L W hS hL cl hdl hdep K hK; refine ⟨?_⟩; simp only [Act.put, sA, sB, sC, Nat.zero_add, Nat.reduceAdd] at hK ⊢; go_simp; refine (of_R 1 2 _ (by omega) (by omega) (by omega)).mono ?_; rintro e w' ⟨v, rfl, hv, hb⟩; go_wp2_with fail; with_reducible refine hK _ _ (RT.below hb hS.be.size) (hS.step hb 1 _ (by decide) (fun e => absurd e (by decide))) ?_
      exact hv
     ·as_aux_lemma =>
      intro vs L W hS hL cl hdl hdep K hK; have d0 := hdep ⟨0, .data⟩ (by simp) rfl; simp only [PhiL1] at d0; have d1 := hdep ⟨1, .data⟩ (by simp) rfl; simp only [PhiL1] at d1; have r1 := d1; clear d1; refine ⟨?_⟩; simp only [Act.put, sA, sB, sC, Nat.zero_add, Nat.reduceAdd, d0] at hK ⊢; go_simp; refine (lvx_exp 1 2 _ _ _ _ (hpl.below hS.be) r1 (by omega) (by decide) (by omega) (by omega) lv_two).mono ?_; rintro e w' ⟨v, rfl, hn, hb⟩; go_wp2_with fail; with_reducible refine hK _ _ (RT.below hb hS.be.size) (hS.step hb 2 _ (by decide) (fun e => absurd e (by decide))) ?_
      exact ⟨v, rfl, hn⟩
     ·as_aux_lemma =>
      intro vs L W hS hL cl hdl hdep K hK; have d0 := hdep ⟨2, .data⟩ (by simp) rfl; simp only [PhiL1] at d0; refine @exE1 _ _ _ d0 ?_; clear d0; intro v0 d0; have e0 := d0.1; have n0 := d0.2; clear d0; refine ⟨?_⟩; simp only [Act.put, sA, sB, sC, Nat.zero_add, Nat.reduceAdd, e0] at hK ⊢; go_simp; with_reducible refine hK _ _ (RT.refl _ _) (hS.step (Below.refl _ _) 3 _ (by decide) (fun e => absurd e (by decide))) ?_
      exact ⟨_, rfl, n0⟩
     ·as_aux_lemma =>
      intro vs L W hS hL cl hdl hdep K hK; have d0 := hdep ⟨3, .data⟩ (by simp) rfl; simp only [PhiL1] at d0; refine @exE1 _ _ _ d0 ?_; clear d0; intro v0 d0; have e0 := d0.1; have n0 := d0.2; clear d0
      have h7 : L 7 = false := by
       cases h : L 7 with
       | false => rfl
       | true => exact absurd (cl 7 _ rfl h ⟨4, .data⟩ (by simp) rfl) (by rw [hL]; decide)
      obtain ⟨A, k, c, A', k', c', rfl⟩ := n0.shape; refine ⟨?_⟩; simp only [Act.put, sA, sB, sC, Nat.zero_add, Nat.reduceAdd, e0] at hK ⊢; go_simp; with_reducible refine hK _ _ (RT.refl _ _) (hS.step (Below.refl _ _) 4 _ (by decide) (fun _ => h7)) ?_
      exact ⟨_, _, _, _, _, _, rfl, n0⟩
     ·as_aux_lemma =>
      intro vs L W hS hL cl hdl hdep K hK; have d0 := hdep ⟨3, .data⟩ (by simp) rfl; simp only [PhiL1] at d0; refine @exE1 _ _ _ d0 ?_; clear d0; intro v0 d0; have e0 := d0.1; have n0 := d0.2; clear d0; refine ⟨?_⟩; simp only [Act.put, sA, sB, sC, Nat.zero_add, Nat.reduceAdd, e0] at hK ⊢; go_simp; with_reducible refine hK _ _ (RT.refl _ _) (hS.step (Below.refl _ _) 5 _ (by decide) (fun e => absurd e (by decide))) ?_
      exact rfl
     ·as_aux_lemma =>
      intro vs L W hS hL cl hdl hdep K hK
      have h7 : L 7 = false := by
       cases h : L 7 with
       | false => rfl
       | true => exact absurd (cl 7 _ rfl h ⟨6, .data⟩ (by simp) rfl) (by rw [hL]; decide)
      refine ⟨?_⟩; simp only [Act.put, sA, sB, sC, Nat.zero_add, Nat.reduceAdd] at hK ⊢; go_simp; with_reducible refine hK _ _ (RT.below (bA _ _) hS.be.size) (hS.step (bA _ _) 6 _ (by decide) (fun _ => h7)) ?_
      exact ⟨_, rfl, hS.be.size, none, 0, 0, none, 0, 0, Blk.new _ _ _⟩
     ·as_aux_lemma =>
      intro vs L W hS hL cl hdl hdep K hK; have d0 := hdep ⟨6, .data⟩ (by simp) rfl; simp only [PhiL1] at d0; refine @exE1 _ _ _ d0 ?_; clear d0; intro g0 d0; have e0 := d0.1; have l0 := d0.2.1; have s0 := d0.2.2; clear d0; have d1 := hdep ⟨4, .data⟩ (by simp) rfl; simp only [PhiL1] at d1; refine @exE6 _ _ _ _ _ _ _ _ d1 ?_; clear d1; intro A1 k1 c1 B1 m1 d1 d1; have e1 := d1.1; have n1 := d1.2; clear d1; obtain ⟨⟨a1, q1⟩, ⟨a2, q2⟩, q3, q4⟩ := s0.facts; refine ⟨?_⟩; simp only [Act.put, sA, sB, sC, Nat.zero_add, Nat.reduceAdd, e0, e1] at hK ⊢; go_simp; with_reducible refine hK undef _ (RT.store s0 l0 _ _ _ _ _ _) (hS.stored e0 e1 l0 s0 (by decide) (by decide) _) ?_
      exact trivial
     ·as_aux_lemma =>
      intro vs L W hS hL cl hdl hdep K hK; have d0 := hdep ⟨5, .data⟩ (by simp) rfl; simp only [PhiL1] at d0; refine ⟨?_⟩; simp only [Act.put, sA, sB, sC, Nat.zero_add, Nat.reduceAdd, d0] at hK ⊢; go_simp; with_reducible refine hK _ _ (RT.refl _ _) (hS.step (Below.refl _ _) 8 _ (by decide) (fun e => absurd e (by decide))) ?_
      exact rfl
    intro vs L w22 hS hall hv; have v8 := hv 8 (by simp); have v8 := hv 4 (by simp); simp only [PhiL1] at v8 v8; obtain ⟨_, _, _, _, _, _, e8', ho⟩ := v8; obtain ⟨gb, A9b, k9b, c9b, B9b, m9b, d9b, e10, e8, hgN, hblk⟩ := hS.st (hall 7 (by simp)); rw [e8] at e8'; rw [← e8'] at ho; have HO := Lib.hid ho; have hbe := hS.be; clear hv hS hall e8' ho; simp only [Act.put, sA, sB, sC, Nat.zero_add, Nat.reduceAdd, v8, e10, e8]; have yb := HO.out; have b0 := hblk.cell 0; have b1 := hblk.cell 1; simp only [List.getElem?_toArray, List.getElem?_cons_zero, List.getElem?_cons_succ] at b0 b1; clear HO hblk hgN; have hpl := hpl.below hbe; have ya := ya.below hbe; have P0 := cell_keep hbe P0; have P1 := cell_keep hbe P1; have P2 := cell_keep hbe P2; have a0 := cell_keep hbe a0; have a1 := cell_keep hbe a1; have hbw := Below.tr hbw hbe; clear hbe
    as_aux_lemma =>
     go_upto_region 9 with fail; refine region_invW (PhiL2 (.agg #[.slice X1 xk1 xc1, .slice X2 xk2 xc2, .slice S 2 2]) (redP 1 4) (redP 5 2) (redP 1 4) w22.heap.size) (RT w22.heap.size) (SD w22 5 7 8) (by kernel_rfl) (by kernel_rfl) (by kernel_rfl) PhiL2.keep (SD.start _ _ _ _ _) (fun vs => by simp only [fillR, Act.put, sA, sB, sC, Nat.zero_add, Nat.reduceAdd]; rfl) ?_ ?_
     ·refine sK ?_ (sK ?_ (sK ?_ (sK ?_ (sK ?_ (sK ?_ (sK ?_ (sK ?_ (sK ?_ (sK ?_ (sZ))))))))))
      ·as_aux_lemma =>
       intro vs L W hS hL cl hdl hdep K hK; have f1 := cell_keep hS.be P0; have f2 := cell_keep hS.be P1; have f3 := cell_keep hS.be P2; refine ⟨?_⟩; simp only [Act.put, sA, sB, sC, Nat.zero_add, Nat.reduceAdd] at hK ⊢; go_simp; with_reducible refine hK _ _ (RT.refl _ _) (hS.step (Below.refl _ _) 0 _ (by decide) (fun e => absurd e (by decide))) ?_
       exact rfl
      ·as_aux_lemma =>
       intro vs L W hS hL cl hdl hdep K hK; refine ⟨?_⟩; simp only [Act.put, sA, sB, sC, Nat.zero_add, Nat.reduceAdd] at hK ⊢; go_simp; refine (of_R 1 4 _ (by omega) (by omega) (by omega)).mono ?_; rintro e w' ⟨v, rfl, hv, hb⟩; go_wp2_with fail; with_reducible refine hK _ _ (RT.below hb hS.be.size) (hS.step hb 1 _ (by decide) (fun e => absurd e (by decide))) ?_
       exact hv
      ·as_aux_lemma =>
       intro vs L W hS hL cl hdl hdep K hK; refine ⟨?_⟩; simp only [Act.put, sA, sB, sC, Nat.zero_add, Nat.reduceAdd] at hK ⊢; go_simp; refine (of_R 5 2 _ (by omega) (by omega) (by omega)).mono ?_; rintro e w' ⟨v, rfl, hv, hb⟩; go_wp2_with fail; with_reducible refine hK _ _ (RT.below hb hS.be.size) (hS.step hb 2 _ (by decide) (fun e => absurd e (by decide))) ?_
       exact hv
      ·as_aux_lemma =>
       intro vs L W hS hL cl hdl hdep K hK; have d0 := hdep ⟨0, .data⟩ (by simp) rfl; simp only [PhiL2] at d0; have d1 := hdep ⟨1, .data⟩ (by simp) rfl; simp only [PhiL2] at d1; have r1 := d1; clear d1; have d2 := hdep ⟨2, .data⟩ (by simp) rfl; simp only [PhiL2] at d2; have r2 := d2; clear d2; refine ⟨?_⟩; simp only [Act.put, sA, sB, sC, Nat.zero_add, Nat.reduceAdd, d0] at hK ⊢; go_simp; refine (lvx_reach _ _ _ _ _ _ (hpl.below hS.be) r1 r2 lv_lowE lv_low).mono ?_; rintro e w' ⟨v, rfl, hn, hb⟩; go_wp2_with fail; with_reducible refine hK _ _ (RT.below hb hS.be.size) (hS.step hb 3 _ (by decide) (fun e => absurd e (by decide))) ?_
       exact ⟨v, rfl, hn⟩
      ·as_aux_lemma =>
       intro vs L W hS hL cl hdl hdep K hK; have d0 := hdep ⟨3, .data⟩ (by simp) rfl; simp only [PhiL2] at d0; refine @exE1 _ _ _ d0 ?_; clear d0; intro v0 d0; have e0 := d0.1; have n0 := d0.2; clear d0; refine ⟨?_⟩; simp only [Act.put, sA, sB, sC, Nat.zero_add, Nat.reduceAdd, e0] at hK ⊢; go_simp; with_reducible refine hK _ _ (RT.refl _ _) (hS.step (Below.refl _ _) 4 _ (by decide) (fun e => absurd e (by decide))) ?_
       exact ⟨_, rfl, n0⟩
      ·as_aux_lemma =>
       intro vs L W hS hL cl hdl hdep K hK; have d0 := hdep ⟨4, .data⟩ (by simp) rfl; simp only [PhiL2] at d0; refine @exE1 _ _ _ d0 ?_; clear d0; intro v0 d0; have e0 := d0.1; have n0 := d0.2; clear d0
       have h8 : L 8 = false := by
        cases h : L 8 with
        | false => rfl
        | true => exact absurd (cl 8 _ rfl h ⟨5, .data⟩ (by simp) rfl) (by rw [hL]; decide)
       obtain ⟨A, k, c, A', k', c', rfl⟩ := n0.shape; refine ⟨?_⟩; simp only [Act.put, sA, sB, sC, Nat.zero_add, Nat.reduceAdd, e0] at hK ⊢; go_simp; with_reducible refine hK _ _ (RT.refl _ _) (hS.step (Below.refl _ _) 5 _ (by decide) (fun _ => h8)) ?_
       exact ⟨_, _, _, _, _, _, rfl, n0⟩
      ·as_aux_lemma =>
       intro vs L W hS hL cl hdl hdep K hK; have d0 := hdep ⟨4, .data⟩ (by simp) rfl; simp only [PhiL2] at d0; refine @exE1 _ _ _ d0 ?_; clear d0; intro v0 d0; have e0 := d0.1; have n0 := d0.2; clear d0; refine ⟨?_⟩; simp only [Act.put, sA, sB, sC, Nat.zero_add, Nat.reduceAdd, e0] at hK ⊢; go_simp; with_reducible refine hK _ _ (RT.refl _ _) (hS.step (Below.refl _ _) 6 _ (by decide) (fun e => absurd e (by decide))) ?_
       exact rfl
      ·as_aux_lemma =>
       intro vs L W hS hL cl hdl hdep K hK
       have h8 : L 8 = false := by
        cases h : L 8 with
        | false => rfl
        | true => exact absurd (cl 8 _ rfl h ⟨7, .data⟩ (by simp) rfl) (by rw [hL]; decide)
       refine ⟨?_⟩; simp only [Act.put, sA, sB, sC, Nat.zero_add, Nat.reduceAdd] at hK ⊢; go_simp; with_reducible refine hK _ _ (RT.below (bA _ _) hS.be.size) (hS.step (bA _ _) 7 _ (by decide) (fun _ => h8)) ?_
       exact ⟨_, rfl, hS.be.size, none, 0, 0, none, 0, 0, Blk.new _ _ _⟩
      ·as_aux_lemma =>
       intro vs L W hS hL cl hdl hdep K hK; have d0 := hdep ⟨7, .data⟩ (by simp) rfl; simp only [PhiL2] at d0; refine @exE1 _ _ _ d0 ?_; clear d0; intro g0 d0; have e0 := d0.1; have l0 := d0.2.1; have s0 := d0.2.2; clear d0; have d1 := hdep ⟨5, .data⟩ (by simp) rfl; simp only [PhiL2] at d1; refine @exE6 _ _ _ _ _ _ _ _ d1 ?_; clear d1; intro A1 k1 c1 B1 m1 d1 d1; have e1 := d1.1; have n1 := d1.2; clear d1; obtain ⟨⟨a1, q1⟩, ⟨a2, q2⟩, q3, q4⟩ := s0.facts; refine ⟨?_⟩; simp only [Act.put, sA, sB, sC, Nat.zero_add, Nat.reduceAdd, e0, e1] at hK ⊢; go_simp; with_reducible refine hK undef _ (RT.store s0 l0 _ _ _ _ _ _) (hS.stored e0 e1 l0 s0 (by decide) (by decide) _) ?_
       exact trivial
      ·as_aux_lemma =>
       intro vs L W hS hL cl hdl hdep K hK; have d0 := hdep ⟨6, .data⟩ (by simp) rfl; simp only [PhiL2] at d0; refine ⟨?_⟩; simp only [Act.put, sA, sB, sC, Nat.zero_add, Nat.reduceAdd, d0] at hK ⊢; go_simp; with_reducible refine hK _ _ (RT.refl _ _) (hS.step (Below.refl _ _) 9 _ (by decide) (fun e => absurd e (by decide))) ?_
       exact rfl
     intro vs L w23 hS hall hv; have v9 := hv 9 (by simp); have v8 := hv 5 (by simp); simp only [PhiL2] at v9 v8; obtain ⟨_, _, _, _, _, _, e8', ho⟩ := v8; obtain ⟨gc, A9c, k9c, c9c, B9c, m9c, d9c, e10, e8, hgN, hblk⟩ := hS.st (hall 8 (by simp)); rw [e8] at e8'; rw [← e8'] at ho; have HO := Lib.hid ho; have hbe := hS.be; clear hv hS hall e8' ho; simp only [Act.put, sA, sB, sC, Nat.zero_add, Nat.reduceAdd, v9, e10, e8]; have yc := HO.out; have c0 := hblk.cell 0; have c1 := hblk.cell 1; simp only [List.getElem?_toArray, List.getElem?_cons_zero, List.getElem?_cons_succ] at c0 c1; clear HO hblk hgN; have hpl := hpl.below hbe; have ya := ya.below hbe; have yb := yb.below hbe; have P0 := cell_keep hbe P0; have P1 := cell_keep hbe P1; have P2 := cell_keep hbe P2; have a0 := cell_keep hbe a0; have a1 := cell_keep hbe a1; have b0 := cell_keep hbe b0; have b1 := cell_keep hbe b1; have hbw := Below.tr hbw hbe; clear hbe
     as_aux_lemma =>
      go_upto_region 10 with fail; refine region_invW (PhiL2 (.agg #[.slice X1 xk1 xc1, .slice X2 xk2 xc2, .slice S 2 2]) (redP 1 4) (redP 3 1) (redP 1 16) w23.heap.size) (RT w23.heap.size) (SD w23 5 7 8) (by kernel_rfl) (by kernel_rfl) (by kernel_rfl) PhiL2.keep (SD.start _ _ _ _ _) (fun vs => by simp only [fillR, Act.put, sA, sB, sC, Nat.zero_add, Nat.reduceAdd]; rfl) ?_ ?_
      ·refine sK ?_ (sK ?_ (sK ?_ (sK ?_ (sK ?_ (sK ?_ (sK ?_ (sK ?_ (sK ?_ (sK ?_ (sZ))))))))))
       ·as_aux_lemma =>
        intro vs L W hS hL cl hdl hdep K hK; have f1 := cell_keep hS.be P0; have f2 := cell_keep hS.be P1; have f3 := cell_keep hS.be P2; refine ⟨?_⟩; simp only [Act.put, sA, sB, sC, Nat.zero_add, Nat.reduceAdd] at hK ⊢; go_simp; with_reducible refine hK _ _ (RT.refl _ _) (hS.step (Below.refl _ _) 0 _ (by decide) (fun e => absurd e (by decide))) ?_
        exact rfl
       ·as_aux_lemma =>
        intro vs L W hS hL cl hdl hdep K hK; refine ⟨?_⟩; simp only [Act.put, sA, sB, sC, Nat.zero_add, Nat.reduceAdd] at hK ⊢; go_simp; refine (of_R 1 4 _ (by omega) (by omega) (by omega)).mono ?_; rintro e w' ⟨v, rfl, hv, hb⟩; go_wp2_with fail; with_reducible refine hK _ _ (RT.below hb hS.be.size) (hS.step hb 1 _ (by decide) (fun e => absurd e (by decide))) ?_
        exact hv
       ·as_aux_lemma =>
        intro vs L W hS hL cl hdl hdep K hK; refine ⟨?_⟩; simp only [Act.put, sA, sB, sC, Nat.zero_add, Nat.reduceAdd] at hK ⊢; go_simp; refine (of_R 3 1 _ (by omega) (by omega) (by omega)).mono ?_; rintro e w' ⟨v, rfl, hv, hb⟩; go_wp2_with fail; with_reducible refine hK _ _ (RT.below hb hS.be.size) (hS.step hb 2 _ (by decide) (fun e => absurd e (by decide))) ?_
        exact hv
       ·as_aux_lemma =>
        intro vs L W hS hL cl hdl hdep K hK; have d0 := hdep ⟨0, .data⟩ (by simp) rfl; simp only [PhiL2] at d0; have d1 := hdep ⟨1, .data⟩ (by simp) rfl; simp only [PhiL2] at d1; have r1 := d1; clear d1; have d2 := hdep ⟨2, .data⟩ (by simp) rfl; simp only [PhiL2] at d2; have r2 := d2; clear d2; refine ⟨?_⟩; simp only [Act.put, sA, sB, sC, Nat.zero_add, Nat.reduceAdd, d0] at hK ⊢; go_simp; refine (lvx_reach _ _ _ _ _ _ (hpl.below hS.be) r1 r2 lv_highE lv_high).mono ?_; rintro e w' ⟨v, rfl, hn, hb⟩; go_wp2_with fail; with_reducible refine hK _ _ (RT.below hb hS.be.size) (hS.step hb 3 _ (by decide) (fun e => absurd e (by decide))) ?_
        exact ⟨v, rfl, hn⟩
       ·as_aux_lemma =>
        intro vs L W hS hL cl hdl hdep K hK; have d0 := hdep ⟨3, .data⟩ (by simp) rfl; simp only [PhiL2] at d0; refine @exE1 _ _ _ d0 ?_; clear d0; intro v0 d0; have e0 := d0.1; have n0 := d0.2; clear d0; refine ⟨?_⟩; simp only [Act.put, sA, sB, sC, Nat.zero_add, Nat.reduceAdd, e0] at hK ⊢; go_simp; with_reducible refine hK _ _ (RT.refl _ _) (hS.step (Below.refl _ _) 4 _ (by decide) (fun e => absurd e (by decide))) ?_
        exact ⟨_, rfl, n0⟩
       ·as_aux_lemma =>
        intro vs L W hS hL cl hdl hdep K hK; have d0 := hdep ⟨4, .data⟩ (by simp) rfl; simp only [PhiL2] at d0; refine @exE1 _ _ _ d0 ?_; clear d0; intro v0 d0; have e0 := d0.1; have n0 := d0.2; clear d0
        have h8 : L 8 = false := by
         cases h : L 8 with
         | false => rfl
         | true => exact absurd (cl 8 _ rfl h ⟨5, .data⟩ (by simp) rfl) (by rw [hL]; decide)
        obtain ⟨A, k, c, A', k', c', rfl⟩ := n0.shape; refine ⟨?_⟩; simp only [Act.put, sA, sB, sC, Nat.zero_add, Nat.reduceAdd, e0] at hK ⊢; go_simp; with_reducible refine hK _ _ (RT.refl _ _) (hS.step (Below.refl _ _) 5 _ (by decide) (fun _ => h8)) ?_
        exact ⟨_, _, _, _, _, _, rfl, n0⟩
       ·as_aux_lemma =>
        intro vs L W hS hL cl hdl hdep K hK; have d0 := hdep ⟨4, .data⟩ (by simp) rfl; simp only [PhiL2] at d0; refine @exE1 _ _ _ d0 ?_; clear d0; intro v0 d0; have e0 := d0.1; have n0 := d0.2; clear d0; refine ⟨?_⟩; simp only [Act.put, sA, sB, sC, Nat.zero_add, Nat.reduceAdd, e0] at hK ⊢; go_simp; with_reducible refine hK _ _ (RT.refl _ _) (hS.step (Below.refl _ _) 6 _ (by decide) (fun e => absurd e (by decide))) ?_
        exact rfl
       ·as_aux_lemma =>
        intro vs L W hS hL cl hdl hdep K hK
        have h8 : L 8 = false := by
         cases h : L 8 with
         | false => rfl
         | true => exact absurd (cl 8 _ rfl h ⟨7, .data⟩ (by simp) rfl) (by rw [hL]; decide)
        refine ⟨?_⟩; simp only [Act.put, sA, sB, sC, Nat.zero_add, Nat.reduceAdd] at hK ⊢; go_simp; with_reducible refine hK _ _ (RT.below (bA _ _) hS.be.size) (hS.step (bA _ _) 7 _ (by decide) (fun _ => h8)) ?_
        exact ⟨_, rfl, hS.be.size, none, 0, 0, none, 0, 0, Blk.new _ _ _⟩
       ·as_aux_lemma =>
        intro vs L W hS hL cl hdl hdep K hK; have d0 := hdep ⟨7, .data⟩ (by simp) rfl; simp only [PhiL2] at d0; refine @exE1 _ _ _ d0 ?_; clear d0; intro g0 d0; have e0 := d0.1; have l0 := d0.2.1; have s0 := d0.2.2; clear d0; have d1 := hdep ⟨5, .data⟩ (by simp) rfl; simp only [PhiL2] at d1; refine @exE6 _ _ _ _ _ _ _ _ d1 ?_; clear d1; intro A1 k1 c1 B1 m1 d1 d1; have e1 := d1.1; have n1 := d1.2; clear d1; obtain ⟨⟨a1, q1⟩, ⟨a2, q2⟩, q3, q4⟩ := s0.facts; refine ⟨?_⟩; simp only [Act.put, sA, sB, sC, Nat.zero_add, Nat.reduceAdd, e0, e1] at hK ⊢; go_simp; with_reducible refine hK undef _ (RT.store s0 l0 _ _ _ _ _ _) (hS.stored e0 e1 l0 s0 (by decide) (by decide) _) ?_
        exact trivial
       ·as_aux_lemma =>
        intro vs L W hS hL cl hdl hdep K hK; have d0 := hdep ⟨6, .data⟩ (by simp) rfl; simp only [PhiL2] at d0; refine ⟨?_⟩; simp only [Act.put, sA, sB, sC, Nat.zero_add, Nat.reduceAdd, d0] at hK ⊢; go_simp; with_reducible refine hK _ _ (RT.refl _ _) (hS.step (Below.refl _ _) 9 _ (by decide) (fun e => absurd e (by decide))) ?_
        exact rfl
      intro vs L w24 hS hall hv; have v9 := hv 9 (by simp); have v8 := hv 5 (by simp); simp only [PhiL2] at v9 v8; obtain ⟨_, _, _, _, _, _, e8', ho⟩ := v8; obtain ⟨gd, A9d, k9d, c9d, B9d, m9d, d9d, e10, e8, hgN, hblk⟩ := hS.st (hall 8 (by simp)); rw [e8] at e8'; rw [← e8'] at ho; have HO := Lib.hid ho; have hbe := hS.be; clear hv hS hall e8' ho; simp only [Act.put, sA, sB, sC, Nat.zero_add, Nat.reduceAdd, v9, e10, e8]; have yd := HO.out; have d0 := hblk.cell 0; have d1 := hblk.cell 1; simp only [List.getElem?_toArray, List.getElem?_cons_zero, List.getElem?_cons_succ] at d0 d1; clear HO hblk hgN; have hpl := hpl.below hbe; have ya := ya.below hbe; have yb := yb.below hbe; have yc := yc.below hbe; have P0 := cell_keep hbe P0; have P1 := cell_keep hbe P1; have P2 := cell_keep hbe P2; have a0 := cell_keep hbe a0; have a1 := cell_keep hbe a1; have b0 := cell_keep hbe b0; have b1 := cell_keep hbe b1; have c0 := cell_keep hbe c0; have c1 := cell_keep hbe c1; have hbw := Below.tr hbw hbe; clear hbe
      as_aux_lemma =>
       go_upto_region 11 with fail; refine region_invW (PhiL1 (.agg #[.slice X1 xk1 xc1, .slice X2 xk2 xc2, .slice S 2 2]) (redP 3 1) (redP 1 16) w24.heap.size) (RT w24.heap.size) (SD w24 4 6 7) (by kernel_rfl) (by kernel_rfl) (by kernel_rfl) PhiL1.keep (SD.start _ _ _ _ _) (fun vs => by simp only [fillR, Act.put, sA, sB, sC, Nat.zero_add, Nat.reduceAdd]; rfl) ?_ ?_
       ·refine sK ?_ (sK ?_ (sK ?_ (sK ?_ (sK ?_ (sK ?_ (sK ?_ (sK ?_ (sK ?_ (sZ)))))))))
        ·as_aux_lemma =>
         intro vs L W hS hL cl hdl hdep K hK; have f1 := cell_keep hS.be P0; have f2 := cell_keep hS.be P1; have f3 := cell_keep hS.be P2; refine ⟨?_⟩; simp only [Act.put, sA, sB, sC, Nat.zero_add, Nat.reduceAdd] at hK ⊢; go_simp; with_reducible refine hK _ _ (RT.refl _ _) (hS.step (Below.refl _ _) 0 _ (by decide) (fun e => absurd e (by decide))) ?_
         exact rfl
        ·as_aux_lemma =>
         intro vs L W hS hL cl hdl hdep K hK; refine ⟨?_⟩; simp only [Act.put, sA, sB, sC, Nat.zero_add, Nat.reduceAdd] at hK ⊢; go_simp; refine (of_R 3 1 _ (by omega) (by omega) (by omega)).mono ?_; rintro e w' ⟨v, rfl, hv, hb⟩; go_wp2_with fail; with_reducible refine hK _ _ (RT.below hb hS.be.size) (hS.step hb 1 _ (by decide) (fun e => absurd e (by decide))) ?_
         exact hv
        ·as_aux_lemma =>
         intro vs L W hS hL cl hdl hdep K hK; have d0 := hdep ⟨0, .data⟩ (by simp) rfl; simp only [PhiL1] at d0; have d1 := hdep ⟨1, .data⟩ (by simp) rfl; simp only [PhiL1] at d1; have r1 := d1; clear d1; refine ⟨?_⟩; simp only [Act.put, sA, sB, sC, Nat.zero_add, Nat.reduceAdd, d0] at hK ⊢; go_simp; refine (lvx_worst _ _ _ _ _ (hpl.below hS.be) r1 lv_worstE lv_worst).mono ?_; rintro e w' ⟨v, rfl, hn, hb⟩; go_wp2_with fail; with_reducible refine hK _ _ (RT.below hb hS.be.size) (hS.step hb 2 _ (by decide) (fun e => absurd e (by decide))) ?_
         exact ⟨v, rfl, hn⟩
        ·as_aux_lemma =>
         intro vs L W hS hL cl hdl hdep K hK; have d0 := hdep ⟨2, .data⟩ (by simp) rfl; simp only [PhiL1] at d0; refine @exE1 _ _ _ d0 ?_; clear d0; intro v0 d0; have e0 := d0.1; have n0 := d0.2; clear d0; refine ⟨?_⟩; simp only [Act.put, sA, sB, sC, Nat.zero_add, Nat.reduceAdd, e0] at hK ⊢; go_simp; with_reducible refine hK _ _ (RT.refl _ _) (hS.step (Below.refl _ _) 3 _ (by decide) (fun e => absurd e (by decide))) ?_
         exact ⟨_, rfl, n0⟩
        ·as_aux_lemma =>
         intro vs L W hS hL cl hdl hdep K hK; have d0 := hdep ⟨3, .data⟩ (by simp) rfl; simp only [PhiL1] at d0; refine @exE1 _ _ _ d0 ?_; clear d0; intro v0 d0; have e0 := d0.1; have n0 := d0.2; clear d0
         have h7 : L 7 = false := by
          cases h : L 7 with
          | false => rfl
          | true => exact absurd (cl 7 _ rfl h ⟨4, .data⟩ (by simp) rfl) (by rw [hL]; decide)
         obtain ⟨A, k, c, A', k', c', rfl⟩ := n0.shape; refine ⟨?_⟩; simp only [Act.put, sA, sB, sC, Nat.zero_add, Nat.reduceAdd, e0] at hK ⊢; go_simp; with_reducible refine hK _ _ (RT.refl _ _) (hS.step (Below.refl _ _) 4 _ (by decide) (fun _ => h7)) ?_
         exact ⟨_, _, _, _, _, _, rfl, n0⟩
        ·as_aux_lemma =>
         intro vs L W hS hL cl hdl hdep K hK; have d0 := hdep ⟨3, .data⟩ (by simp) rfl; simp only [PhiL1] at d0; refine @exE1 _ _ _ d0 ?_; clear d0; intro v0 d0; have e0 := d0.1; have n0 := d0.2; clear d0; refine ⟨?_⟩; simp only [Act.put, sA, sB, sC, Nat.zero_add, Nat.reduceAdd, e0] at hK ⊢; go_simp; with_reducible refine hK _ _ (RT.refl _ _) (hS.step (Below.refl _ _) 5 _ (by decide) (fun e => absurd e (by decide))) ?_
         exact rfl
        ·as_aux_lemma =>
         intro vs L W hS hL cl hdl hdep K hK
         have h7 : L 7 = false := by
          cases h : L 7 with
          | false => rfl
          | true => exact absurd (cl 7 _ rfl h ⟨6, .data⟩ (by simp) rfl) (by rw [hL]; decide)
         refine ⟨?_⟩; simp only [Act.put, sA, sB, sC, Nat.zero_add, Nat.reduceAdd] at hK ⊢; go_simp; with_reducible refine hK _ _ (RT.below (bA _ _) hS.be.size) (hS.step (bA _ _) 6 _ (by decide) (fun _ => h7)) ?_
         exact ⟨_, rfl, hS.be.size, none, 0, 0, none, 0, 0, Blk.new _ _ _⟩
        ·as_aux_lemma =>
         intro vs L W hS hL cl hdl hdep K hK; have d0 := hdep ⟨6, .data⟩ (by simp) rfl; simp only [PhiL1] at d0; refine @exE1 _ _ _ d0 ?_; clear d0; intro g0 d0; have e0 := d0.1; have l0 := d0.2.1; have s0 := d0.2.2; clear d0; have d1 := hdep ⟨4, .data⟩ (by simp) rfl; simp only [PhiL1] at d1; refine @exE6 _ _ _ _ _ _ _ _ d1 ?_; clear d1; intro A1 k1 c1 B1 m1 d1 d1; have e1 := d1.1; have n1 := d1.2; clear d1; obtain ⟨⟨a1, q1⟩, ⟨a2, q2⟩, q3, q4⟩ := s0.facts; refine ⟨?_⟩; simp only [Act.put, sA, sB, sC, Nat.zero_add, Nat.reduceAdd, e0, e1] at hK ⊢; go_simp; with_reducible refine hK undef _ (RT.store s0 l0 _ _ _ _ _ _) (hS.stored e0 e1 l0 s0 (by decide) (by decide) _) ?_
         exact trivial
        ·as_aux_lemma =>
         intro vs L W hS hL cl hdl hdep K hK; have d0 := hdep ⟨5, .data⟩ (by simp) rfl; simp only [PhiL1] at d0; refine ⟨?_⟩; simp only [Act.put, sA, sB, sC, Nat.zero_add, Nat.reduceAdd, d0] at hK ⊢; go_simp; with_reducible refine hK _ _ (RT.refl _ _) (hS.step (Below.refl _ _) 8 _ (by decide) (fun e => absurd e (by decide))) ?_
         exact rfl
       intro vs L w25 hS hall hv; have v8 := hv 8 (by simp); have v8 := hv 4 (by simp); simp only [PhiL1] at v8 v8; obtain ⟨_, _, _, _, _, _, e8', ho⟩ := v8; obtain ⟨ge, A9e, k9e, c9e, B9e, m9e, d9e, e10, e8, hgN, hblk⟩ := hS.st (hall 7 (by simp)); rw [e8] at e8'; rw [← e8'] at ho; have HO := Lib.hid ho; have hbe := hS.be; clear hv hS hall e8' ho; simp only [Act.put, sA, sB, sC, Nat.zero_add, Nat.reduceAdd, v8, e10, e8]; have ye := HO.out; have e0 := hblk.cell 0; have e1 := hblk.cell 1; simp only [List.getElem?_toArray, List.getElem?_cons_zero, List.getElem?_cons_succ] at e0 e1; clear HO hblk hgN; have hpl := hpl.below hbe; have ya := ya.below hbe; have yb := yb.below hbe; have yc := yc.below hbe; have yd := yd.below hbe; have P0 := cell_keep hbe P0; have P1 := cell_keep hbe P1; have P2 := cell_keep hbe P2; have a0 := cell_keep hbe a0; have a1 := cell_keep hbe a1; have b0 := cell_keep hbe b0; have b1 := cell_keep hbe b1; have c0 := cell_keep hbe c0; have c1 := cell_keep hbe c1; have d0 := cell_keep hbe d0; have d1 := cell_keep hbe d1; have hbw := Below.tr hbw hbe; clear hbe
       as_aux_lemma =>
        go_wp2_with fail; refine (of_R 1 4 _ (by omega) (by omega) (by omega)).mono ?_; rintro e w26 ⟨v, rfl, h8, hb⟩; obtain ⟨Eh8, kh8, ch8, Gh8, mh8, dh8, rfl⟩ := h8.shape; have hpl := hpl.below hb; have ya := ya.below hb; have yb := yb.below hb; have yc := yc.below hb; have yd := yd.below hb; have ye := ye.below hb; have P0 := cell_keep hb P0; have P1 := cell_keep hb P1; have P2 := cell_keep hb P2; have a0 := cell_keep hb a0; have a1 := cell_keep hb a1; have b0 := cell_keep hb b0; have b1 := cell_keep hb b1; have c0 := cell_keep hb c0; have c1 := cell_keep hb c1; have d0 := cell_keep hb d0; have d1 := cell_keep hb d1; have e0 := cell_keep hb e0; have e1 := cell_keep hb e1; have hbw := Below.tr hbw hb; clear hb; go_wp2_with fail; refine (of_R 5 1 _ (by omega) (by omega) (by omega)).mono ?_; rintro e w27 ⟨v, rfl, h9, hb⟩; obtain ⟨Eh9, kh9, ch9, Gh9, mh9, dh9, rfl⟩ := h9.shape; have hpl := hpl.below hb; have ya := ya.below hb; have yb := yb.below hb; have yc := yc.below hb; have yd := yd.below hb; have ye := ye.below hb; have h8 := h8.below hb; have P0 := cell_keep hb P0; have P1 := cell_keep hb P1; have P2 := cell_keep hb P2; have a0 := cell_keep hb a0; have a1 := cell_keep hb a1; have b0 := cell_keep hb b0; have b1 := cell_keep hb b1; have c0 := cell_keep hb c0; have c1 := cell_keep hb c1; have d0 := cell_keep hb d0; have d1 := cell_keep hb d1; have e0 := cell_keep hb e0; have e1 := cell_keep hb e1; have hbw := Below.tr hbw hb; clear hb; go_wp2_with fail; refine (lvx_even _ _ _ h8 h9).mono ?_
        rintro e w28 ⟨Y1, y1, z1, Y2, y2, z2, Y3, y3, z3, rfl, hb⟩; clear h8 h9 hpl P0 P1 P2; have ya := ya.below hb; have yb := yb.below hb; have yc := yc.below hb; have yd := yd.below hb; have ye := ye.below hb; have a0 := cell_keep hb a0; have a1 := cell_keep hb a1; have b0 := cell_keep hb b0; have b1 := cell_keep hb b1; have c0 := cell_keep hb c0; have c1 := cell_keep hb c1; have d0 := cell_keep hb d0; have d1 := cell_keep hb d1; have e0 := cell_keep hb e0; have e1 := cell_keep hb e1; have hbw := Below.tr hbw hb; clear hb
        as_aux_lemma =>
         go_upto_region 13 with fail; refine wp_name ?_; intro w0 HW0; have hb : Below w28.heap.size w28 w0 := by rw [HW0.out]; exact bA _ _
         have ya := ya.below hb; have yb := yb.below hb; have yc := yc.below hb; have yd := yd.below hb; have ye := ye.below hb; have a0 := cell_keep hb a0; have a1 := cell_keep hb a1; have b0 := cell_keep hb b0; have b1 := cell_keep hb b1; have c0 := cell_keep hb c0; have c1 := cell_keep hb c1; have d0 := cell_keep hb d0; have d1 := cell_keep hb d1; have e0 := cell_keep hb e0; have e1 := cell_keep hb e1; have hbw := Below.tr hbw hb; clear hb; clear HW0; refine region_chain [17] [.early, .early, .early, .early, .early, .early, .early, .early, .early, .early, .early, .early, .early, .early, .early, .early, .early, .chain 0] [] [] (PhiL3 (.slice A9a k9a c9a) (.slice B9a m9a d9a) (.slice A9b k9b c9b) (.slice B9b m9b d9b) (.slice A9c k9c c9c) (.slice B9c m9c d9c) (.slice A9d k9d c9d) (.slice B9d m9d d9d) (.slice A9e k9e c9e) (.slice B9e m9e d9e)) (fun w w' => Below w.heap.size w w') (SL9 w0) (by kernel_rfl) (by kernel_rfl) (by kernel_rfl) (by kernel_rfl) (sK (fun _ _ _ _ _ h => h) (sK (fun _ _ _ _ _ h => h) (sK (fun _ _ _ _ _ h => h) (sK (fun _ _ _ _ _ h => h) (sK (fun _ _ _ _ _ h => h) (sK (fun _ _ _ _ _ h => h) (sK (fun _ _ _ _ _ h => h) (sK (fun _ _ _ _ _ h => h) (sK (fun _ _ _ _ _ h => h) (sK (fun _ _ _ _ _ h => h) (sK (fun _ _ _ _ _ h => h) (sK (fun _ _ _ _ _ h => h) (sK (fun _ _ _ _ _ h => h) (sK (fun _ _ _ _ _ h => h) (sK (fun _ _ _ _ _ h => h) (sK (fun _ _ _ _ _ h => h) (sK (fun _ _ _ _ _ h => h) (sK (fun _ _ _ _ _ h => h) (sZ))))))))))))))))))) PhiL3.keepR PhiL3.keepF (fun _ _ _ _ hR hS => Below.tr hS hR) (by rintro (_ | ⟨_, _ | _⟩) vs vs' w _ h <;> exact h) (fun _ => bD _) (fun vs => by simp only [fillR, Act.put, sA, sB, sC, Nat.zero_add, Nat.reduceAdd]; rfl) ?_ ?_
         ·refine sK ?_ (sK ?_ (sK ?_ (sK ?_ (sK ?_ (sK ?_ (sK ?_ (sK ?_ (sK ?_ (sK ?_ (sK ?_ (sK ?_ (sK ?_ (sK ?_ (sK ?_ (sK ?_ (sK ?_ (sK ?_ (sZ))))))))))))))))))
          ·as_aux_lemma =>
           intro vs W hS hu hdep K hK; have HU := Lib.hid hu; clear hu; have f1 := cell_keep hS a0; have f2 := cell_keep hS a1; refine ⟨?_⟩; simp only [Act.put, sA, sB, sC, Nat.zero_add, Nat.reduceAdd] at hK ⊢; go_simp; with_reducible refine hK _ _ (Below.refl _ _) ?_
           exact rfl
          ·as_aux_lemma =>
           intro vs W hS hu hdep K hK; have HU := Lib.hid hu; clear hu; have f1 := cell_keep hS b0; have f2 := cell_keep hS b1; refine ⟨?_⟩; simp only [Act.put, sA, sB, sC, Nat.zero_add, Nat.reduceAdd] at hK ⊢; go_simp; with_reducible refine hK _ _ (Below.refl _ _) ?_
           exact rfl
          ·as_aux_lemma =>
           intro vs W hS hu hdep K hK; have HU := Lib.hid hu; clear hu; have f1 := cell_keep hS c0; have f2 := cell_keep hS c1; refine ⟨?_⟩; simp only [Act.put, sA, sB, sC, Nat.zero_add, Nat.reduceAdd] at hK ⊢; go_simp; with_reducible refine hK _ _ (Below.refl _ _) ?_
           exact rfl
          ·as_aux_lemma =>
           intro vs W hS hu hdep K hK; have HU := Lib.hid hu; clear hu; have f1 := cell_keep hS d0; have f2 := cell_keep hS d1; refine ⟨?_⟩; simp only [Act.put, sA, sB, sC, Nat.zero_add, Nat.reduceAdd] at hK ⊢; go_simp; with_reducible refine hK _ _ (Below.refl _ _) ?_
           exact rfl
          ·as_aux_lemma =>
           intro vs W hS hu hdep K hK; have HU := Lib.hid hu; clear hu; have f1 := cell_keep hS e0; have f2 := cell_keep hS e1; refine ⟨?_⟩; simp only [Act.put, sA, sB, sC, Nat.zero_add, Nat.reduceAdd] at hK ⊢; go_simp; with_reducible refine hK _ _ (Below.refl _ _) ?_
           exact rfl
          ·as_aux_lemma =>
           intro vs W hS hu hdep K hK; have HU := Lib.hid hu; clear hu; have d0 := hdep ⟨0, .data⟩ (by simp) rfl; simp only [PhiL3] at d0; have d1 := hdep ⟨1, .data⟩ (by simp) rfl; simp only [PhiL3] at d1; have d2 := hdep ⟨2, .data⟩ (by simp) rfl; simp only [PhiL3] at d2; have d3 := hdep ⟨3, .data⟩ (by simp) rfl; simp only [PhiL3] at d3; have d4 := hdep ⟨4, .data⟩ (by simp) rfl; simp only [PhiL3] at d4; have hrow := Lib.hid (ratRow_new 25 [(.slice A9a k9a c9a, .slice B9a m9a d9a), (.slice A9b k9b c9b, .slice B9b m9b d9b), (.slice A9c k9c c9c, .slice B9c m9c d9c), (.slice A9d k9d c9d, .slice B9d m9d d9d), (.slice A9e k9e c9e, .slice B9e m9e d9e)] [redP 1 1, redP 45 16, redP 1 4, redP 1 16, redP 1 16] ⟨ya.below hS, yb.below hS, yc.below hS, yd.below hS, ye.below hS, trivial⟩ (by simp)); refine ⟨?_⟩; simp only [Act.put, sA, sB, sC, Nat.zero_add, Nat.reduceAdd, d0, d1, d2, d3, d4] at hK ⊢; rw [if_pos (by rfl)]; refine wp_sliceN 36 25 5 [(0, .tmp 122), (1, .tmp 123), (2, .tmp 124), (3, .tmp 125), (4, .tmp 126)] rfl #[.slice A9a k9a c9a, .slice B9a m9a d9a, .slice A9b k9b c9b, .slice B9b m9b d9b, .slice A9c k9c c9c, .slice B9c m9c d9c, .slice A9d k9d c9d, .slice B9d m9d d9d, .slice A9e k9e c9e, .slice B9e m9e d9e] iR nilRat 2 [(0, .agg #[.slice A9a k9a c9a, .slice B9a m9a d9a]), (1, .agg #[.slice A9b k9b c9b, .slice B9b m9b d9b]), (2, .agg #[.slice A9c k9c c9c, .slice B9c m9c d9c]), (3, .agg #[.slice A9d k9d c9d, .slice B9d m9d d9d]), (4, .agg #[.slice A9e k9e c9e, .slice B9e m9e d9e])] Try.underlying36 hiR hzR hzR1 (by omega) (by omega) rfl (fill_r5 _ _ _ _ _ _ _ _ _ _ _ _ _ _ _ _ _ _ _ _ _ _ _ _ _ _ _ _ _ _) ?_
           simp only [Act.put, sA, sB, sC]; with_reducible refine hK _ _ (bA _ _) ?_
           exact ⟨_, rfl, hrow.out⟩
          ·as_aux_lemma =>
           intro vs W hS hu hdep K hK; have HU := Lib.hid hu; clear hu; refine ⟨?_⟩; simp only [fillR, Act.put, sA, sB, sC, Nat.zero_add, Nat.reduceAdd] at hK ⊢; go_simp; refine (of_R 1 1 _ (by omega) (by omega) (by omega)).mono ?_; rintro e w' ⟨v, rfl, hv, hb⟩; go_wp2_with fail; with_reducible refine hK _ _ hb ?_
           exact hv
          ·as_aux_lemma =>
           intro vs W hS hu hdep K hK; have HU := Lib.hid hu; clear hu; refine ⟨?_⟩; simp only [fillR, Act.put, sA, sB, sC, Nat.zero_add, Nat.reduceAdd] at hK ⊢; go_simp; refine (of_R 45 16 _ (by omega) (by omega) (by omega)).mono ?_; rintro e w' ⟨v, rfl, hv, hb⟩; go_wp2_with fail; with_reducible refine hK _ _ hb ?_
           exact hv
          ·as_aux_lemma =>
           intro vs W hS hu hdep K hK; have HU := Lib.hid hu; clear hu; refine ⟨?_⟩; simp only [fillR, Act.put, sA, sB, sC, Nat.zero_add, Nat.reduceAdd] at hK ⊢; go_simp; refine (of_R 1 4 _ (by omega) (by omega) (by omega)).mono ?_; rintro e w' ⟨v, rfl, hv, hb⟩; go_wp2_with fail; with_reducible refine hK _ _ hb ?_
           exact hv
          ·as_aux_lemma =>
           intro vs W hS hu hdep K hK; have HU := Lib.hid hu; clear hu; refine ⟨?_⟩; simp only [fillR, Act.put, sA, sB, sC, Nat.zero_add, Nat.reduceAdd] at hK ⊢; go_simp; refine (of_R 1 16 _ (by omega) (by omega) (by omega)).mono ?_; rintro e w' ⟨v, rfl, hv, hb⟩; go_wp2_with fail; with_reducible refine hK _ _ hb ?_
           exact hv
          ·as_aux_lemma =>
           intro vs W hS hu hdep K hK; have HU := Lib.hid hu; clear hu; refine ⟨?_⟩; simp only [fillR, Act.put, sA, sB, sC, Nat.zero_add, Nat.reduceAdd] at hK ⊢; go_simp; refine (of_R 1 16 _ (by omega) (by omega) (by omega)).mono ?_; rintro e w' ⟨v, rfl, hv, hb⟩; go_wp2_with fail; with_reducible refine hK _ _ hb ?_
           exact hv
          ·as_aux_lemma =>
           intro vs W hS hu hdep K hK; have HU := Lib.hid hu; clear hu; have d0 := hdep ⟨6, .data⟩ (by simp) rfl; simp only [PhiL3] at d0; have r0 := d0; clear d0; have d1 := hdep ⟨7, .data⟩ (by simp) rfl; simp only [PhiL3] at d1; have r1 := d1; clear d1; have d2 := hdep ⟨8, .data⟩ (by simp) rfl; simp only [PhiL3] at d2; have r2 := d2; clear d2; have d3 := hdep ⟨9, .data⟩ (by simp) rfl; simp only [PhiL3] at d3; have r3 := d3; clear d3; have d4 := hdep ⟨10, .data⟩ (by simp) rfl; simp only [PhiL3] at d4; have r4 := d4; clear d4; obtain ⟨E0, k0, y0, G0, m0, z0, e0⟩ := r0.shape; rw [e0] at r0; obtain ⟨E1, k1, y1, G1, m1, z1, e1⟩ := r1.shape; rw [e1] at r1; obtain ⟨E2, k2, y2, G2, m2, z2, e2⟩ := r2.shape; rw [e2] at r2; obtain ⟨E3, k3, y3, G3, m3, z3, e3⟩ := r3.shape; rw [e3] at r3; obtain ⟨E4, k4, y4, G4, m4, z4, e4⟩ := r4.shape; rw [e4] at r4; have hrow := Lib.hid (ratRow_new 25 [(.slice E0 k0 y0, .slice G0 m0 z0), (.slice E1 k1 y1, .slice G1 m1 z1), (.slice E2 k2 y2, .slice G2 m2 z2), (.slice E3 k3 y3, .slice G3 m3 z3), (.slice E4 k4 y4, .slice G4 m4 z4)] [redP 1 1, redP 45 16, redP 1 4, redP 1 16, redP 1 16] ⟨r0, r1, r2, r3, r4, trivial⟩ (by simp)); clear r0 r1 r2 r3 r4; refine ⟨?_⟩; simp only [Act.put, sA, sB, sC, Nat.zero_add, Nat.reduceAdd, e0, e1, e2, e3, e4] at hK ⊢; rw [if_pos (by rfl)]; refine wp_sliceN 36 25 5 [(0, .tmp 128), (1, .tmp 129), (2, .tmp 130), (3, .tmp 131), (4, .tmp 132)] rfl #[.slice E0 k0 y0, .slice G0 m0 z0, .slice E1 k1 y1, .slice G1 m1 z1, .slice E2 k2 y2, .slice G2 m2 z2, .slice E3 k3 y3, .slice G3 m3 z3, .slice E4 k4 y4, .slice G4 m4 z4] iR nilRat 2 [(0, .agg #[.slice E0 k0 y0, .slice G0 m0 z0]), (1, .agg #[.slice E1 k1 y1, .slice G1 m1 z1]), (2, .agg #[.slice E2 k2 y2, .slice G2 m2 z2]), (3, .agg #[.slice E3 k3 y3, .slice G3 m3 z3]), (4, .agg #[.slice E4 k4 y4, .slice G4 m4 z4])] Try.underlying36 hiR hzR hzR1 (by omega) (by omega) rfl (fill_r5 _ _ _ _ _ _ _ _ _ _ _ _ _ _ _ _ _ _ _ _ _ _ _ _ _ _ _ _ _ _) ?_
           simp only [Act.put, sA, sB, sC]; with_reducible refine hK _ _ (bA _ _) ?_
           exact ⟨_, rfl, hrow.out⟩
          ·as_aux_lemma =>
           intro vs W hS hu hdep K hK; have HU := Lib.hid hu; clear hu; have d0 := hdep ⟨5, .data⟩ (by simp) rfl; simp only [PhiL3] at d0; refine @exE1 _ _ _ d0 ?_; clear d0; intro g0 d0; have e0 := d0.1; have n0 := d0.2; clear d0; have d1 := hdep ⟨11, .data⟩ (by simp) rfl; simp only [PhiL3] at d1; refine @exE1 _ _ _ d1 ?_; clear d1; intro g1 d1; have e1 := d1.1; have n1 := d1.2; clear d1; refine ⟨?_⟩; simp only [fillR, Act.put, sA, sB, sC, Nat.zero_add, Nat.reduceAdd, e0, e1] at hK ⊢; go_simp; refine (same_F _ _ 5 5 5 [redP 1 1, redP 45 16, redP 1 4, redP 1 16, redP 1 16] _ n0 n1).mono ?_; rintro e w' ⟨rfl, hb⟩; go_wp2_with fail; with_reducible refine hK _ _ hb ?_
           exact rfl
          ·as_aux_lemma =>
           intro vs W hS hu hdep K hK; have HU := Lib.hid hu; clear hu; have d0 := hdep ⟨12, .data⟩ (by simp) rfl; simp only [PhiL3] at d0; refine ⟨?_⟩; simp only [Act.put, sA, sB, sC, Nat.zero_add, Nat.reduceAdd, d0] at hK ⊢; go_simp; with_reducible refine hK _ _ (Below.refl _ _) ?_
           exact rfl
          ·as_aux_lemma =>
           intro vs W hS hu hdep K hK; have HU := Lib.hid hu; clear hu; have d0 := hdep ⟨13, .guard⟩ (by simp) rfl; simp only [PhiL3] at d0; refine ⟨?_⟩; simp only [Act.put, sA, sB, sC, Nat.zero_add, Nat.reduceAdd, d0] at hK ⊢; go_simp; with_reducible refine hK _ _ (Below.refl _ _) ?_
           exact rfl
          ·as_aux_lemma =>
           intro vs W hS hu hdep K hK; have HU := Lib.hid hu; clear hu; have d0 := hdep ⟨14, .data⟩ (by simp) rfl; simp only [PhiL3] at d0; have d1 := hdep ⟨13, .guard⟩ (by simp) rfl; simp only [PhiL3] at d1; refine ⟨?_⟩; simp only [Act.put, sA, sB, sC, Nat.zero_add, Nat.reduceAdd, d0, d1] at hK ⊢; go_simp; with_reducible refine hK _ _ (Below.refl _ _) ?_
           exact rfl
          ·as_aux_lemma =>
           intro vs W hS hu hdep K hK; have HU := Lib.hid hu; clear hu; have d0 := hdep ⟨13, .data⟩ (by simp) rfl; simp only [PhiL3] at d0; have d1 := hdep ⟨15, .data⟩ (by simp) rfl; simp only [PhiL3] at d1; refine ⟨?_⟩; simp only [Act.put, sA, sB, sC, Nat.zero_add, Nat.reduceAdd, d0, d1] at hK ⊢; go_simp; with_reducible refine hK _ _ (Below.refl _ _) ?_
           exact rfl
          ·as_aux_lemma =>
           intro vs W hS hdep K hK; have d0 := hdep ⟨16, .data⟩ (by simp) rfl (by rfl); simp only [PhiL3] at d0; have hS : Below w0.heap.size w0 W := hS; have hbS := Lib.hid hS; clear hS; refine ⟨?_⟩; simp only [Act.put, sA, sB, sC, Nat.zero_add, Nat.reduceAdd, d0] at hK ⊢; go_simp; with_reducible refine hK _ _ ?_
           exact ⟨rfl, hbS.out⟩
         intro vs W hS _; have hS2 : SL9 w0 [vs 17] vs W := hS; obtain ⟨e17, hbz⟩ := hS2; simp only [Act.put, sA, sB, sC, Nat.zero_add, Nat.reduceAdd, e17]; clear hS; go_wp2_with fail; go_ret; exact ⟨rfl, Below.tr hbw hbz⟩
end Go.Proofs.Ytnjjdiilkhdbeaa
