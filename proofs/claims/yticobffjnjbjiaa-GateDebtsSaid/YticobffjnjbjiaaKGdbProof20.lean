import Derived.Test.YticobffjnjbjiaaKGdbProof19
import Derived.Test.YticobffjnjbjiaaS0
set_option linter.unusedVariables false
set_option linter.unusedSimpArgs false
namespace Go.Proofs.Yticobffjnjbjiaa
open Go Go.RowKit
def PhiGdb31 (Ap : Option Addr) (kp cp : Nat) (ya yb : Ln) (j : Nat) (w : World) (x : Value) : Prop :=
 match j with
 | 0 => x = .slice Ap kp cp
 | 1 => x = .agg #[.slice ya.A1 ya.k1 ya.c1, .slice ya.A2 ya.k2 ya.c2]
 | 2 => ∃ z : Ln, x = .agg #[.slice z.A1 z.k1 z.c1, .slice z.A2 z.k2 z.c2] ∧ z.Ok w ∧ z.P = ya.P
 | 3 => x = .agg #[.slice yb.A1 yb.k1 yb.c1, .slice yb.A2 yb.k2 yb.c2]
 | 4 => ∃ z : Ln, x = .agg #[.slice z.A1 z.k1 z.c1, .slice z.A2 z.k2 z.c2] ∧ z.Ok w ∧ z.P = yb.P
 | 5 => ∃ (A : Option Addr) (Ms : List Ln), x = .slice A 2 2 ∧ RowS lnC w A 2 Ms ∧ (∀ y ∈ Ms, y.Ok w) ∧ allP Ms = ya.P ++ yb.P
 | 6 => ∃ (B : Option Addr) (e : Nat), x = .tuple #[.slice B kp e, .int .i64 0] ∧ RowS natC w B kp (rowF kp (cntP (ya.P ++ yb.P)))
 | 7 => ∃ (B : Option Addr) (e : Nat), x = .tuple #[.slice B kp e, .int .i64 0] ∧ RowS natC w B kp (rowF kp (cntP (ya.P ++ yb.P)))
 | 8 => ∃ (B : Option Addr) (e : Nat), x = .slice B kp e ∧ RowS natC w B kp (rowF kp (cntP (ya.P ++ yb.P)))
 | 9 => x = .int .i64 0
 | 10 => ∃ (B : Option Addr) (e : Nat), x = .slice B kp e ∧ RowS natC w B kp (rowF kp (cntP (ya.P ++ yb.P)))
 | 11 => x = .int .i64 0
 | _ => True
theorem PhiGdb31.keep {Ap : Option Addr} {kp cp : Nat} {ya yb : Ln} : ∀ (w w' : World), Below w.heap.size w w' → ∀ j x, PhiGdb31 Ap kp cp ya yb j w x → PhiGdb31 Ap kp cp ya yb j w' x := by
 intro w w' hb j x h; unfold PhiGdb31 at h ⊢
 split <;> simp only at h ⊢ <;> first | exact h | skip
 ·obtain ⟨z, e, h1, h2⟩ := h; exact ⟨z, e, h1.below hb, h2⟩
 ·obtain ⟨z, e, h1, h2⟩ := h; exact ⟨z, e, h1.below hb, h2⟩
 ·obtain ⟨A, Ms, e, h1, h2, h3⟩ := h; exact ⟨A, Ms, e, h1.below hb, fun y hy => (h2 y hy).below hb, h3⟩
 ·obtain ⟨B, e, h1, h2⟩ := h; exact ⟨B, e, h1, h2.below hb⟩
 ·obtain ⟨B, e, h1, h2⟩ := h; exact ⟨B, e, h1, h2.below hb⟩
 ·obtain ⟨B, e, h1, h2⟩ := h; exact ⟨B, e, h1, h2.below hb⟩
 ·obtain ⟨B, e, h1, h2⟩ := h; exact ⟨B, e, h1, h2.below hb⟩
def PhiGdb46 (gm i j' : Nat) (y z : Ln) (bq : Bool) (j : Nat) (w : World) (x : Value) : Prop :=
 match j with
 | 0 => x = .slice (some ⟨gm, 0, none⟩) 4 4
 | 1 => x = .int .i64 (i : Nat)
 | 2 => x = .pointer (some ⟨gm, i * 2, none⟩)
 | 3 => x = .agg #[.slice y.A1 y.k1 y.c1, .slice y.A2 y.k2 y.c2]
 | 4 => ∃ u : Ln, x = .agg #[.slice u.A1 u.k1 u.c1, .slice u.A2 u.k2 u.c2] ∧ u.Ok w ∧ u.P = y.P ∧ u.S = y.S
 | 5 => x = .slice (some ⟨gm, 0, none⟩) 4 4
 | 6 => x = .int .i64 (j' : Nat)
 | 7 => x = .pointer (some ⟨gm, j' * 2, none⟩)
 | 8 => x = .agg #[.slice z.A1 z.k1 z.c1, .slice z.A2 z.k2 z.c2]
 | 9 => ∃ u : Ln, x = .agg #[.slice u.A1 u.k1 u.c1, .slice u.A2 u.k2 u.c2] ∧ u.Ok w ∧ u.P = z.P ∧ u.S = z.S
 | 10 => x = .bool bq
 | 11 => x = .slice (some ⟨gm, 0, none⟩) 4 4
 | 12 => x = .int .i64 (i : Nat)
 | 13 => x = .pointer (some ⟨gm, i * 2, none⟩)
 | 14 => x = .agg #[.slice y.A1 y.k1 y.c1, .slice y.A2 y.k2 y.c2]
 | 15 => x = .slice (some ⟨gm, 0, none⟩) 4 4
 | 16 => x = .int .i64 (j' : Nat)
 | 17 => x = .pointer (some ⟨gm, j' * 2, none⟩)
 | 18 => x = .agg #[.slice z.A1 z.k1 z.c1, .slice z.A2 z.k2 z.c2]
 | 19 => x = .bool bq
 | 20 => x = .bool false
 | _ => True
theorem PhiGdb46.keep {gm i j' : Nat} {y z : Ln} {bq : Bool} : ∀ (w w' : World), Below w.heap.size w w' → ∀ j x, PhiGdb46 gm i j' y z bq j w x → PhiGdb46 gm i j' y z bq j w' x := by
 intro w w' hb j x h; unfold PhiGdb46 at h ⊢
 split <;> simp only at h ⊢ <;> first | exact h | skip
 ·obtain ⟨z, e, h1, h2⟩ := h; exact ⟨z, e, h1.below hb, h2⟩
 ·obtain ⟨z, e, h1, h2⟩ := h; exact ⟨z, e, h1.below hb, h2⟩
set_option maxRecDepth 100000 in
set_option maxHeartbeats 16000000 in
theorem gate_debts_n (A0 A1 A2 A3 : Option Addr) (k0 c0 k1 c1 k2 c2 k3 c3 : Nat) (l0 l1 l2 l3 : List Int) (how by_ ki seen : Int) (w : World)
  (h0 : RowL intC w A0 k0 l0) (H0 : Hid (∀ x ∈ l0, -9223372036854775808 ≤ x ∧ x ≤ 9223372036854775807)) (h1 : RowL intC w A1 k1 l1) (H1 : Hid (∀ x ∈ l1, -9223372036854775808 ≤ x ∧ x ≤ 9223372036854775807)) (h2 : RowL intC w A2 k2 l2) (H2 : Hid (∀ x ∈ l2, -9223372036854775808 ≤ x ∧ x ≤ 9223372036854775807)) (h3 : RowL intC w A3 k3 l3) (H3 : Hid (∀ x ∈ l3, -9223372036854775808 ≤ x ∧ x ≤ 9223372036854775807))
  (ho1 : -9223372036854775808 ≤ how) (ho2 : how ≤ 9223372036854775807) (ho3 : -9223372036854775808 ≤ by_) (ho4 : by_ ≤ 9223372036854775807) (ho5 : -9223372036854775808 ≤ ki) (ho6 : ki ≤ 9223372036854775807) (ho7 : -9223372036854775808 ≤ seen) (ho8 : seen ≤ 9223372036854775807) :
  Calls Try.prog 9 #[.slice A0 k0 c0, .slice A1 k1 c1, .slice A2 k2 c2, .slice A3 k3 c3, .int .i64 how, .int .i64 by_, .int .i64 ki, .int .i64 seen] w fun e w' => e = .returned (.bool true) ∧ Below w.heap.size w w' := by
 obtain ⟨iL, hiL, hzL, hzL1, hzL2⟩ := info_parts info_rline; obtain ⟨iG, hiG, hzG, hzG1, hzG2⟩ := info_parts info_gline; obtain ⟨iP, hiP, hzP, hzP1, hzP2⟩ := info_parts info_promV
 go_enter Try.func9, Try.ntmps9
 go_wp2_with fail; refine (made_n A0 k0 c0 l0 _ h0 H0).mono ?_; rintro e w1 ⟨Ap, kp, cp, ps, bd, rfl, _, _, hps, hkp, hok, hb1⟩; go_wp2_with fail; refine (active_n Ap kp cp A1 k1 c1 l1 _ (by omega) (h1.below hb1) H1).mono ?_; rintro e w2 ⟨la, Aa, ka, ca, rfl, _, hla, hka, HIN, hb2⟩; go_wp2_with fail
 have HPO : Hid (∀ p ∈ ps, PromOk p) := fun p hp => by
  obtain ⟨n, hn⟩ := List.getElem?_of_mem hp; exact (hok n p hn).1
 refine (tests_n Ap kp cp ps A2 k2 c2 l2 _ (hps.below hb2) HPO (by omega) (h2.below (Below.tr hb1 hb2)) H2).mono ?_; rintro e w3 ⟨names, rs, kn, An, cn, Ar, cr, rfl, hon, hor, hkn, HRS, -, hb3⟩; have hnm := own_any strC_len (by omega) (by omega) hon; have hrs := own_any cellsR_len (by omega) (by omega) hor; have hbw := Below.tr (Below.tr hb1 hb2) hb3; have hps := hps.below (Below.tr hb2 hb3); have hok := hok.below (Below.tr hb2 hb3); have hla := hla.below hb3; have hlai := nat_rows hla; have h3 := h3.below hbw; have HTR : Hid (∀ r ∈ rs, RcTy r) := fun r hr => (HRS.out r hr).ty
 have HONR : Hid (∀ x ∈ rs, ∀ v ∈ cellsR x, v.oneCell' = true) := fun x hx => (HTR.out x hx).one
 obtain ⟨lai, hlaid⟩ : ∃ l : List Int, Hid (l = la.map fun n : Nat => (n : Int)) := ⟨_, rfl⟩; rw [← hlaid.out] at hlai
 have HLT : Hid (∀ k ∈ lai.map Int.toNat, k < kp) := by
  intro k hk; rw [hlaid.out, List.map_map] at hk; obtain ⟨n, hn, rfl⟩ := List.mem_map.1 hk; exact HIN.out n hn
 clear hb1 hb2 hb3 hon hor h0 h1 h2 H0 H1 H2 hla HIN HRS hlaid; go_wp2_with fail; refine (rdecide_n Ap Aa An Ar kp cp ka ca kn cn kn cr lai ps names rs _ hps hlai hnm hrs HONR (by omega)).mono ?_; rintro e w4 ⟨vp, np, vs, ns, er, rfl, HE, hop, hos, hb4⟩; obtain ⟨ya, -, rfl, rfl, hya, -, HYA, hya1, hya2⟩ := dec_ln (by omega) hnm.2.1 HTR hop hos
 have HCA : Hid (cntR kp ya.P = true) := by
  show _ = _
  rw [HYA.out.1]; exact pas_in HLT.out
 clear hop hos HE HYA HONR HTR hnm hrs; go_upto_region 5 with fail; refine wp_name ?_; intro v4 HV4; have hbv : Below w4.heap.size w4 v4 := by rw [HV4.out]; exact bA _ _
 have BA : Blk v4 w4.heap.size 72 #[.slice ya.A1 ya.k1 ya.c1, .slice ya.A2 ya.k2 ya.c2] := by rw [HV4.out]; exact Blk.new _ _ _
 have hbq := Below.tr hb4 hbv; have hya := hya.below hbv; have hps := hps.below hbq; have hok := hok.below hbq; have hlai := hlai.below hbq; have h3 := h3.below hbq; have hbw := Below.tr hbw hbq; generalize w4.heap.size = ga at BA; clear HV4 hbv hbq hb4; go_wp2_with fail; refine (tests_n Ap kp cp ps A3 k3 c3 l3 _ hps HPO (by omega) h3 H3).mono ?_; rintro e w5 ⟨names2, rs2, kn2, An2, cn2, Ar2, cr2, rfl, hon, hor, hkn2, HRS, -, hb5⟩; have hnm := own_any strC_len (by omega) (by omega) hon; have hrs := own_any cellsR_len (by omega) (by omega) hor; have HTR : Hid (∀ r ∈ rs2, RcTy r) := fun r hr => (HRS.out r hr).ty
 have HONR : Hid (∀ x ∈ rs2, ∀ v ∈ cellsR x, v.oneCell' = true) := fun x hx => (HTR.out x hx).one
 clear h3 H3 hon hor HRS; go_wp2_with fail; refine (rdecide_n Ap Aa An2 Ar2 kp cp ka ca kn2 cn2 kn2 cr2 lai ps names2 rs2 _ (hps.below hb5) (hlai.below hb5) hnm hrs HONR (by omega)).mono ?_; rintro e w6 ⟨vp, np, vs, ns, er2, rfl, HE, hop, hos, hb6⟩; obtain ⟨yb, -, rfl, rfl, hyb, -, HYB, hyb1, hyb2⟩ := dec_ln (by omega) hnm.2.1 HTR hop hos
 have HCB : Hid (cntR kp yb.P = true) := by
  show _ = _
  rw [HYB.out.1]; exact pas_in HLT.out
 clear hop hos HE HYB HONR HTR hnm hrs hlai HLT HPO; go_upto_region 7 with fail; refine wp_name ?_; intro v6 HV6; have hbv : Below w6.heap.size w6 v6 := by rw [HV6.out]; exact bA _ _
 have BB : Blk v6 w6.heap.size 72 #[.slice yb.A1 yb.k1 yb.c1, .slice yb.A2 yb.k2 yb.c2] := by rw [HV6.out]; exact Blk.new _ _ _
 have hbq := Below.tr (Below.tr hb5 hb6) hbv; have hyb := hyb.below hbv; have hya := hya.below hbq; have hps := hps.below hbq; have hok := hok.below hbq; have BA := Blk.below BA hbq BA.lt; have hbw := Below.tr hbw hbq; generalize w6.heap.size = gb at BB; clear HV6 hbv hbq hb6 hb5; have qa0 := BA.cell 0; have qa1 := BA.cell 1; simp only [List.getElem?_toArray, List.getElem?_cons_zero, List.getElem?_cons_succ] at qa0 qa1; go_wp2_with fail; refine (bent_n ya how by_ _ hya (by omega) (by omega) ho1 ho2 ho3 ho4).mono ?_; rintro e w7 ⟨yc, rfl, hyc, hyc1, hyc2, hb7⟩; simp only [Ln.val]; clear qa0 qa1; go_upto_region 8 with fail; refine wp_name ?_; intro v7 HV7; have hbv : Below w7.heap.size w7 v7 := by rw [HV7.out]; exact bA _ _
 have BC : Blk v7 w7.heap.size 72 #[.slice yc.A1 yc.k1 yc.c1, .slice yc.A2 yc.k2 yc.c2] := by rw [HV7.out]; exact Blk.new _ _ _
 have hbq := Below.tr hb7 hbv; have D7 : DbS w v7 Ap kp ps bd ga gb w7.heap.size ya yb yc := ⟨hps.below hbq, hok.below hbq, Blk.below BA hbq BA.lt, Blk.below BB hbq BB.lt, BC, hya.below hbq, hyb.below hbq, hyc.below hbv, Below.tr hbw hbq⟩; have HKE : Hid (ya.k1 ≤ 16 ∧ ya.k2 ≤ 16 ∧ yb.k1 ≤ 16 ∧ yb.k2 ≤ 16 ∧ yc.k1 ≤ 16 ∧ yc.k2 ≤ 16) := ⟨by omega, by omega, by omega, by omega, by omega, by omega⟩; generalize w7.heap.size = gc at D7; have HD := Lib.hid D7; clear D7 hps hok BA BB BC hya hyb hyc hbw hbv hbq hb7 HV7 hya1 hya2 hyb1 hyb2 hyc1 hyc2 hka hkn hkn2; have qa0 := HD.out.ba.cell 0; have qa1 := HD.out.ba.cell 1; have qb0 := HD.out.bb.cell 0; have qb1 := HD.out.bb.cell 1; have qc0 := HD.out.bc.cell 0; have qc1 := HD.out.bc.cell 1; simp only [List.getElem?_toArray, List.getElem?_cons_zero, List.getElem?_cons_succ] at qa0 qa1 qb0 qb1 qc0 qc1
 go_upto_region 9 with (first | (refine wpList_sliceN rfl 78 72 1 [(0, .tmp 90)] rfl (lnsA [ya]) iL (Value.agg #[.slice none 0 0, .slice none 0 0]) 2 [(0, .agg #[.slice ya.A1 ya.k1 ya.c1, .slice ya.A2 ya.k2 ya.c2])] Try.underlying78 hiL hzL hzL1 (by omega) (by omega) rfl (fill_l1 ya) ?_; simp only [Act.put, sA, sB, sC]; have qa0 := cell_keep (bA _ (.cells (lnsA [ya]) 72)) qa0; have qa1 := cell_keep (bA _ (.cells (lnsA [ya]) 72)) qa1; have qb0 := cell_keep (bA _ (.cells (lnsA [ya]) 72)) qb0; have qb1 := cell_keep (bA _ (.cells (lnsA [ya]) 72)) qb1; have qc0 := cell_keep (bA _ (.cells (lnsA [ya]) 72)) qc0; have qc1 := cell_keep (bA _ (.cells (lnsA [ya]) 72)) qc1) | (refine wpList_sliceN rfl 78 72 3 [(0, .tmp 92), (1, .tmp 93), (2, .tmp 94)] rfl (lnsA [ya, yb, ya]) iL (Value.agg #[.slice none 0 0, .slice none 0 0]) 2 [(0, .agg #[.slice ya.A1 ya.k1 ya.c1, .slice ya.A2 ya.k2 ya.c2]), (1, .agg #[.slice yb.A1 yb.k1 yb.c1, .slice yb.A2 yb.k2 yb.c2]), (2, .agg #[.slice ya.A1 ya.k1 ya.c1, .slice ya.A2 ya.k2 ya.c2])] Try.underlying78 hiL hzL hzL1 (by omega) (by omega) rfl (fill_l3 ya yb ya) ?_; simp only [Act.put, sA, sB, sC]; have qa0 := cell_keep (bA _ (.cells (lnsA [ya, yb, ya]) 72)) qa0; have qa1 := cell_keep (bA _ (.cells (lnsA [ya, yb, ya]) 72)) qa1; have qb0 := cell_keep (bA _ (.cells (lnsA [ya, yb, ya]) 72)) qb0; have qb1 := cell_keep (bA _ (.cells (lnsA [ya, yb, ya]) 72)) qb1; have qc0 := cell_keep (bA _ (.cells (lnsA [ya, yb, ya]) 72)) qc0; have qc1 := cell_keep (bA _ (.cells (lnsA [ya, yb, ya]) 72)) qc1) | (refine wpList_sliceN rfl 78 72 2 [(0, .tmp 96), (1, .tmp 97)] rfl (lnsA [yb, yc]) iL (Value.agg #[.slice none 0 0, .slice none 0 0]) 2 [(0, .agg #[.slice yb.A1 yb.k1 yb.c1, .slice yb.A2 yb.k2 yb.c2]), (1, .agg #[.slice yc.A1 yc.k1 yc.c1, .slice yc.A2 yc.k2 yc.c2])] Try.underlying78 hiL hzL hzL1 (by omega) (by omega) rfl (fill_l2 yb yc) ?_; simp only [Act.put, sA, sB, sC]))
 refine wp_name ?_; intro v8 HV8; have hb8 : Below v7.heap.size v7 v8 := by rw [HV8.out]; exact Below.tr (bA _ _) (Below.tr (bA _ _) (Below.tr (bA _ _) (bA _ _)))
 have HD8 := Lib.hid (HD.out.below hb8)
 have HLL : Hid (LLS v8 (v7.heap.size + 1 + 1 + 1)) := by
  have HK := HKE.out; have HO := HD8.out; have e1 : Blk v8 v7.heap.size 72 (lnsA [ya]) := by rw [HV8.out]; exact (((Blk.new _ _ _).alloc _).alloc _).alloc _
  have e2 : Blk v8 (v7.heap.size + 1) 72 (lnsA [ya, yb, ya]) := by
   rw [HV8.out]; have := (((Blk.new (v7.alloc (.cells (lnsA [ya]) 72)) 72 (lnsA [ya, yb, ya])).alloc (.cells (lnsA [yb, yc]) 72)).alloc (.cells #[.slice (some ⟨v7.heap.size, 0, none⟩) 1 1, .slice (some ⟨v7.heap.size + 1, 0, none⟩) 3 3, .slice (some ⟨v7.heap.size + 1 + 1, 0, none⟩) 2 2, .slice none 0 0] 78))
   simpa using this
  have e3 : Blk v8 (v7.heap.size + 1 + 1) 72 (lnsA [yb, yc]) := by
   rw [HV8.out]; have := ((Blk.new ((v7.alloc (.cells (lnsA [ya]) 72)).alloc (.cells (lnsA [ya, yb, ya]) 72)) 72 (lnsA [yb, yc])).alloc (.cells #[.slice (some ⟨v7.heap.size, 0, none⟩) 1 1, .slice (some ⟨v7.heap.size + 1, 0, none⟩) 3 3, .slice (some ⟨v7.heap.size + 1 + 1, 0, none⟩) 2 2, .slice none 0 0] 78))
   simpa using this
  have e4 : Blk v8 (v7.heap.size + 1 + 1 + 1) 78 #[.slice (some ⟨v7.heap.size, 0, none⟩) 1 1, .slice (some ⟨v7.heap.size + 1, 0, none⟩) 3 3, .slice (some ⟨v7.heap.size + 1 + 1, 0, none⟩) 2 2, .slice none 0 0] := by
   rw [HV8.out]; have := (Blk.new (((v7.alloc (.cells (lnsA [ya]) 72)).alloc (.cells (lnsA [ya, yb, ya]) 72)).alloc (.cells (lnsA [yb, yc]) 72)) 78 #[.slice (some ⟨v7.heap.size, 0, none⟩) 1 1, .slice (some ⟨v7.heap.size + 1, 0, none⟩) 3 3, .slice (some ⟨v7.heap.size + 1 + 1, 0, none⟩) 2 2, .slice none 0 0])
   simpa using this
  refine LLS.of (L1 := [ya]) (L2 := [ya, yb, ya]) (L3 := [yb, yc]) e4 e1 e2 e3 (by simp) (by simp) (by simp) ?_ ?_ ?_
  ·intro y hy; simp only [List.mem_cons, List.not_mem_nil, or_false] at hy; subst hy; exact ⟨HO.oa, by omega, by omega⟩
  ·intro y hy; simp only [List.mem_cons, List.not_mem_nil, or_false] at hy; rcases hy with rfl | rfl | rfl <;> first | exact ⟨HO.oa, by omega, by omega⟩ | exact ⟨HO.ob, by omega, by omega⟩
  ·intro y hy; simp only [List.mem_cons, List.not_mem_nil, or_false] at hy; rcases hy with rfl | rfl <;> first | exact ⟨HO.ob, by omega, by omega⟩ | exact ⟨HO.oc, by omega, by omega⟩
 obtain ⟨gl, hgl⟩ : ∃ g, g = v7.heap.size + 1 + 1 + 1 := ⟨_, rfl⟩; rw [← hgl] at HLL; simp only [← hgl]; clear HV8 hb8 qa0 qa1 qb0 qb1 qc0 qc1 HD hgl; generalize (((v7.alloc (.cells (lnsA [ya]) 72)).alloc (.cells (lnsA [ya, yb, ya]) 72)).heap.size) = g98; generalize (v7.alloc (.cells (lnsA [ya]) 72)).heap.size = g95; go_wp2_with fail
 go_loopg [27] 4 (fun m x wr => ∃ i : Nat, x = .int .i64 i ∧ i + m = 4 ∧ Hid (DbS w wr Ap kp ps bd ga gb gc ya yb yc) ∧ Hid (LLS wr gl))
 case atStart => exact ⟨0, rfl, by omega, HD8, HLL⟩
 case round =>
  obtain ⟨G, hG⟩ : ∃ G, G = gk := ⟨gk, rfl⟩; subst hG; obtain ⟨i, rfl, him, HD, HLr⟩ := hrel; clear HD8 HLL; by_cases hi : i < 4
  ·have t1 : decide ((i : Int) < 4) = true := by simp; omega
   have li : (i : Int) < 4 := by omega
   obtain ⟨x0, hx0⟩ : ∃ x, x = wr := ⟨_, rfl⟩; subst hx0; obtain ⟨A, k, c, Ls, hci, hLs, hy, hk3⟩ := HLr.out i hi; have HY := Lib.hid hy; have HKL : Hid (k = Ls.length) := hLs.2.1; have HCI := Lib.hid hci; clear hy hci; go_wp2_with fail
   go_loopg [28, 29, 30] k (fun m x y z wx => ∃ (j nP : Nat) (Ms : List Ln), z = .int .i64 j ∧ j + m = k ∧ wx.ownsRow x0.heap.size 58 2 x j (Ms.flatMap lnC) ∧ OwnAll IsSl wx x ∧ Hid (Ms.map (·.P) = (Ls.take j).map (·.P)) ∧ Hid (∀ y ∈ Ms, y.Ok wx) ∧ y = .int .i64 nP ∧ Hid (nP = (allP (Ls.take j)).length) ∧ nP ≤ 16 * j ∧ Below x0.heap.size x0 wx)
   case atStart => exact ⟨0, 0, [], rfl, by omega, World.ownsRow_nil _ _ _ _, OwnAll.nil, rfl, fun y h => absurd h List.not_mem_nil, rfl, rfl, by omega, Below.refl _ _⟩
   case round =>
    obtain ⟨G2, hG2⟩ : ∃ G, G = gk := ⟨gk, rfl⟩; subst hG2; obtain ⟨j, nP, Ms, rfl, hjm, hown, hall, HM, HMO, rfl, HN, hn16, hbe⟩ := hrel; have hci := cell_keep hbe HCI.out; obtain ⟨Ax, cx, rfl⟩ := own_shp hown; by_cases hj : j < k
    ·have t2 : decide ((j : Int) < (k : Int)) = true := by simp; omega
     have lj : (j : Int) < (k : Int) := by omega
     have hjl : j < Ls.length := by have := HKL.out; omega
     obtain ⟨b, off, rfl, HC⟩ := (hLs.below hbe).at_ lnC_len (by omega) hj hjl; obtain ⟨y, HYJ⟩ : ∃ y, Hid (Ls[j] = y ∧ Ls[j]? = some y) := ⟨_, rfl, List.getElem?_eq_getElem hjl⟩; rw [HYJ.out.1] at HC; have f1 : wr.cell? ⟨b, off + j * 2, none⟩ = some (.slice y.A1 y.k1 y.c1) := HC.out 0 _ rfl; have f2 : wr.cell? ⟨b, off + j * 2 + 1, none⟩ = some (.slice y.A2 y.k2 y.c2) := HC.out 1 _ rfl; obtain ⟨hyo, hyk1, hyk2⟩ := HY.out y (List.mem_of_getElem? HYJ.out.2); have hyo := hyo.below hbe; clear HC; go_wp2_with fail; refine (given_n y _ hyo (by omega) (by omega)).mono ?_; rintro e w2 ⟨z, rfl, hz, hzP, -, -, -, -, -, hb2⟩; simp only [Ln.val]; have hb3 := Below.tr hb2 (bA w2 (.cells (lnsA [z]) 58)); have hci := cell_keep hb3 hci; have f1 := cell_keep hb3 f1; have f2 := cell_keep hb3 f2; have hown2 := own_below hown hb3; have hall2 := hall.below hb3 (fun g hg => ownsRow_lt hown g hg)
     have HMO2 : Hid (∀ y ∈ Ms ++ [z], y.Ok (w2.alloc (.cells (lnsA [z]) 58))) := by
      intro q hq
      rcases List.mem_append.1 hq with h | h
      ·exact (HMO.out q h).below hb3
      ·rw [List.mem_singleton.1 h]; exact hz.below (bA _ _)
     have HM2 : Hid ((Ms ++ [z]).map (·.P) = (Ls.take (j + 1)).map (·.P)) := by
      show _ = _
      rw [List.take_add_one, HYJ.out.2, List.map_append, List.map_append, HM.out]; simp [hzP]
     have HN2 : Hid (nP + y.k1 = (allP (Ls.take (j + 1))).length) := by
      show _ = _
      rw [allP_succ HYJ.out.2, List.length_append, ← HN.out, hyo.1.2.1]
     have hrd : Rd (w2.alloc (.cells (lnsA [z]) 58)) (some ⟨w2.heap.size, 0, none⟩) (lnC z) := Rd.fresh w2 58 (lnC z); have hbe3 := Below.tr hbe hb3; have hsz := hbe3.size; have hn17 : nP + y.k1 ≤ 16 * (j + 1) := by omega
     clear hown hall hb2 hz hzP HMO HM HN
     go_upto_region 18 with (first | (refine wpList_sliceN rfl 88 58 1 [(0, .tmp 123)] rfl (lnsA [z]) iG (Value.agg #[.slice none 0 0, .slice none 0 0]) 2 [(0, .agg #[.slice z.A1 z.k1 z.c1, .slice z.A2 z.k2 z.c2])] Try.underlying88 hiG hzG hzG1 (by omega) (by omega) rfl (fill_l1 z) ?_; simp only [Act.put, sA, sB, sC]) | (at_builtin; go_loud (refine wpList_append_all rfl IsSl (.tmp 115) (.tmp 124) _ rfl x0.heap.size 58 iG (Value.agg #[.slice none 0 0, .slice none 0 0]) 2 48 Try.underlying88 hiG hzG hzG1 hzG2 (by kernel_rfl) (by omega) _ j _ rfl hown2 (some ⟨w2.heap.size, 0, none⟩) 1 1 (lnC z) rfl rfl hrd (lnC_one z) (by simp only [maxLen]; omega) (by omega) hsz zl_sl (lnC_sl z) hall2 ?_); intro v4 w4 hown4 hg4 hat4 hall4))
     have hci := cell_keep (hbe3.grown hg4 hsz (own_block_ge hown2)) HCI.out; have hbe4 : Below x0.heap.size x0 w4 := hbe3.grown hg4 hsz (own_block_ge hown2); obtain ⟨b', off', hA', HC⟩ := (hLs.below hbe4).at_ lnC_len (by omega) hj hjl; injection hA' with hA'; injection hA' with hA1 hA2; subst hA1 hA2; rw [HYJ.out.1] at HC; have f1 : w4.cell? ⟨b, off + j * 2, none⟩ = some (.slice y.A1 y.k1 y.c1) := HC.out 0 _ rfl; have hown5 : w4.ownsRow x0.heap.size 58 2 v4 (j + 1) ((Ms ++ [z]).flatMap lnC) := by rw [List.flatMap_append]; simpa using hown4
     have HMO4 : Hid (∀ y ∈ Ms ++ [z], y.Ok w4) := fun q hq => (HMO2.out q hq).grownBy hg4 hall2
     obtain ⟨A5, c5, rfl⟩ := own_shp hown5; clear hown4 hown2 hg4 hat4 hall2 HMO2 hbe3 hsz hrd hb3 HC f2; have s1 : IntKind.i64.wrap ((nP : Int) + (y.k1 : Int)) = ((nP + y.k1 : Nat) : Int) := by rw [IntWalk.i64_in _ (by omega)]; omega
     go_wp2_with fail
     go_roundg (G2 - 1)
     case measure => omega
     case rel => exact ⟨j + 1, nP + y.k1, Ms ++ [z], by go_num, by omega, hown5, hall4, HM2, HMO4, rfl, HN2, hn17, hbe4⟩
    ·have t2 : decide ((j : Int) < (k : Int)) = false := by simp; omega
     have lj : ¬ ((j : Int) < (k : Int)) := by omega
     obtain rfl : j = k := by omega
     have hMs : RowS lnC wr Ax j Ms := own_any lnC_len (by omega) (by omega) hown; have HTK : Hid (Ls.take j = Ls) := by show _ = _; rw [HKL.out]; exact List.take_length
     have HXX : Hid (allP Ms = allP Ls) := allP_map (by rw [HM.out, HTK.out]); have HNL : Hid (nP = (allP Ls).length) := by show _ = _; rw [HN.out, HTK.out]
     have HD := Lib.hid (HD.out.below hbe); have HPS := Lib.hid HD.out.hps; clear hown hall HM HN HTK; go_wp2_with fail; refine (debt_n Ap kp cp Ax j cx Ms _ (by omega) hMs HMO (by show _ ≤ _; rw [HXX.out, ← HNL.out]; omega)).mono ?_; rintro e w9 ⟨d1, er1, rfl, HP1, hb9⟩; have hci := cell_keep hb9 hci; have hbe := Below.tr hbe hb9; clear hMs HMO; go_wp2_with fail; refine (rdebt_n Ap kp cp A j c Ls _ (by omega) (hLs.below hbe) (fun y hy => (HY.out y hy).1.below hbe) (by show _ ≤ _; rw [← HNL.out]; omega)).mono ?_; rintro e w10 ⟨d2, er2, rfl, HP2, hb10⟩; have HR1 : Hid (DebR w10 kp (allP Ls) d1 er1) := by rw [← HXX.out]; exact (HP1.out.r (by omega)).below hb10
     have HR2 : Hid (DebR w10 kp (allP Ls) d2 er2) := HP2.out.r (by omega); have hbe := Below.tr hbe hb10; have HD := Lib.hid ((HD.out.below hb9).below hb10); have HLr := Lib.hid (HLr.out.below hbe); clear HP1 HP2 hb9 hb10 HPS hci HXX HY HCI hLs HKL; obtain ⟨X, HX⟩ : ∃ X, Hid (X = allP Ls) := ⟨_, rfl⟩; rw [← HX.out] at HR1 HR2 HNL; clear HX; by_cases hcc : cntR kp X = true
     ·obtain ⟨rfl, B1, e1, rfl, hr1⟩ := HR1.out.yes hcc; obtain ⟨rfl, B2, e2, rfl, hr2⟩ := HR2.out.yes hcc; have HCC := Lib.hid hcc; clear HR1 HR2 hcc; go_wp2_with fail; refine (ints_n B1 B2 kp e1 kp e2 _ _ _ (nat_rows hr1) (nat_rows hr2)).mono ?_; rintro e w11 ⟨he, hb11⟩; rw [decide_eq_true rfl] at he; subst he; have HD := Lib.hid (HD.out.below hb11); have HLr := Lib.hid (HLr.out.below hb11); have hr1 := hr1.below hb11; clear hr2 hb11 hbe; go_wp2_with fail
      go_loopg [29, 35] kp (fun m x y wz => ∃ (q r : Nat), y = .int .i64 q ∧ x = .int .i64 r ∧ q + m = kp ∧ r ≤ 48 ∧ Hid (r + sumF (cntP X) q = nP) ∧ wz = w11)
      case atStart => exact ⟨0, nP, rfl, rfl, by omega, by omega, rfl, rfl⟩
      case round =>
       obtain ⟨G3, hG3⟩ : ∃ G, G = gk := ⟨gk, rfl⟩; subst hG3; obtain ⟨q, r, rfl, rfl, hqm, hr48, HQ, rfl⟩ := hrel; by_cases hq : q < kp
       ·have t3 : decide ((q : Int) < (kp : Int)) = true := by simp; omega
        have lq : (q : Int) < (kp : Int) := by omega
        obtain ⟨b, off, n, rfl, hcn, HGN⟩ := hr1.nat hq
        have hn : n = cntP X q := by
         have := HGN.out; rw [rowF_get hq] at this; injection this with this; exact this.symm
        have hle : sumF (cntP X) q + n ≤ nP := by
         have h1 := sumF_le HCC.out (j := q + 1) (by omega); rw [hn, HNL.out]; exact h1
        have hnr : n ≤ r := by have := HQ.out; omega
        have HQ2 : Hid (r - n + sumF (cntP X) (q + 1) = nP) := by
         show r - n + (sumF (cntP X) q + cntP X q) = nP
         rw [← hn]; have := HQ.out; omega
        have s1 : IntKind.i64.wrap ((r : Int) - (n : Int)) = ((r - n : Nat) : Int) := by rw [IntWalk.i64_in _ (by omega)]; omega
        clear hn hle HQ HGN; go_wp2_with fail
        go_roundg (G3 - 1)
        case measure => omega
        case rel => exact ⟨q + 1, r - n, by go_num, rfl, by omega, by omega, HQ2, rfl⟩
       ·have t3 : decide ((q : Int) < (kp : Int)) = false := by simp; omega
        have lq : ¬ ((q : Int) < (kp : Int)) := by omega
        obtain rfl : r = 0 := by
         have h1 := HQ.out; have h2 := sum_cnt HCC.out; rw [← HNL.out, show kp = q by omega] at h2; omega
        clear HQ hr1 HCC HNL; go_wp2_with fail
        go_roundg (G - 1)
        case measure => omega
        case rel => exact ⟨i + 1, by go_num, by omega, HD, HLr⟩
     ·have hcc : cntR kp X = false := by simpa using hcc
      obtain ⟨rfl, rfl⟩ := HR1.out.no hcc; obtain ⟨rfl, rfl⟩ := HR2.out.no hcc; clear HR1 HR2 hcc; go_wp2_with fail; refine (ints_n none none 0 0 0 0 [] [] _ ⟨fun h => absurd rfl h, rfl, by omega⟩ ⟨fun h => absurd rfl h, rfl, by omega⟩).mono ?_; rintro e w11 ⟨he, hb11⟩; rw [decide_eq_true rfl] at he; subst he; have HD := Lib.hid (HD.out.below hb11); have HLr := Lib.hid (HLr.out.below hb11); clear hb11 hbe; go_wp2_with fail
      go_loopg [29, 35] 0 (fun m x y wz => y = .int .i64 0 ∧ x = .int .i64 nP ∧ wz = w11)
      case atStart => exact ⟨rfl, rfl, rfl⟩
      case round =>
       obtain ⟨G3, hG3⟩ : ∃ G, G = gk := ⟨gk, rfl⟩; subst hG3; obtain ⟨rfl, rfl, rfl⟩ := hrel; go_wp2_with fail
       go_roundg (G - 1)
       case measure => omega
       case rel => exact ⟨i + 1, by go_num, by omega, HD, HLr⟩
  ·have t1 : decide ((i : Int) < 4) = false := by simp; omega
   have li : ¬ ((i : Int) < 4) := by omega
   clear HLr
   have HLE : Hid (ya.P.length ≤ 16 ∧ yb.P.length ≤ 16) := by
    have h1 := HD.out.oa.1.2.1; have h2 := HD.out.ob.1.2.1; have h3 := HKE.out
    constructor <;> omega
   have hka1 : ya.k1 ≤ 16 := HKE.out.1; have hka2 : ya.k2 ≤ 16 := HKE.out.2.1; have hkb1 : yb.k1 ≤ 16 := HKE.out.2.2.1; have hkb2 : yb.k2 ≤ 16 := HKE.out.2.2.2.1; have hkc1 : yc.k1 ≤ 16 := HKE.out.2.2.2.2.1; have hkc2 : yc.k2 ≤ 16 := HKE.out.2.2.2.2.2; have qa0 := HD.out.ba.cell 0; have qa1 := HD.out.ba.cell 1; simp only [List.getElem?_toArray, List.getElem?_cons_zero, List.getElem?_cons_succ] at qa0 qa1; go_wp2_with fail; refine (given_n ya _ HD.out.oa (by omega) (by omega)).mono ?_; rintro e w12 ⟨z, rfl, hz, hzP, -, -, -, -, -, hb12⟩; simp only [Ln.val]; have HD := Lib.hid (HD.out.below hb12); clear qa0 qa1
   go_wp2_with (first | (refine wpList_sliceN rfl 88 58 1 [(0, .tmp 182)] rfl (lnsA [z]) iG (Value.agg #[.slice none 0 0, .slice none 0 0]) 2 [(0, .agg #[.slice z.A1 z.k1 z.c1, .slice z.A2 z.k2 z.c2])] Try.underlying88 hiG hzG hzG1 (by omega) (by omega) rfl (fill_l1 z) ?_; simp only [Act.put, sA, sB, sC]))
   refine (debt_n Ap kp cp (some ⟨w12.heap.size, 0, none⟩) 1 1 [z] _ (by omega) (row_lines (Blk.new _ _ _) rfl (by omega)) (fun y hy => by rw [List.mem_singleton.1 hy]; exact hz.below (bA _ _)) (by show _ ≤ _; rw [allP_one, hzP]; have := HLE.out; omega)).mono ?_; rintro e w13 ⟨dv, er, rfl, HP, hb13⟩; obtain ⟨rfl, B1, e1, rfl, hr1⟩ := (HP.out.r (by omega)).yes (by rw [allP_one, hzP]; exact HCA.out); rw [allP_one, hzP] at hr1; have hb13 := Below.tr (bA w12 (.cells (lnsA [z]) 58)) hb13; have HD := Lib.hid (HD.out.below hb13); clear HP hz hzP; have qb0 := HD.out.bb.cell 0; have qb1 := HD.out.bb.cell 1; simp only [List.getElem?_toArray, List.getElem?_cons_zero, List.getElem?_cons_succ] at qb0 qb1; clear hb12 hb13; go_wp2_with fail; refine (given_n yb _ HD.out.ob (by omega) (by omega)).mono ?_; rintro e w12 ⟨z, rfl, hz, hzP, -, -, -, -, -, hb12⟩; simp only [Ln.val]; have HD := Lib.hid (HD.out.below hb12); clear qb0 qb1
   go_wp2_with (first | (refine wpList_sliceN rfl 88 58 1 [(0, .tmp 190)] rfl (lnsA [z]) iG (Value.agg #[.slice none 0 0, .slice none 0 0]) 2 [(0, .agg #[.slice z.A1 z.k1 z.c1, .slice z.A2 z.k2 z.c2])] Try.underlying88 hiG hzG hzG1 (by omega) (by omega) rfl (fill_l1 z) ?_; simp only [Act.put, sA, sB, sC]))
   refine (debt_n Ap kp cp (some ⟨w12.heap.size, 0, none⟩) 1 1 [z] _ (by omega) (row_lines (Blk.new _ _ _) rfl (by omega)) (fun y hy => by rw [List.mem_singleton.1 hy]; exact hz.below (bA _ _)) (by show _ ≤ _; rw [allP_one, hzP]; have := HLE.out; omega)).mono ?_; rintro e w13 ⟨dv, er, rfl, HP, hb13⟩; obtain ⟨rfl, B2, e2, rfl, hr2⟩ := (HP.out.r (by omega)).yes (by rw [allP_one, hzP]; exact HCB.out); rw [allP_one, hzP] at hr2; have hb13 := Below.tr (bA w12 (.cells (lnsA [z]) 58)) hb13; have HD := Lib.hid (HD.out.below hb13); clear HP hz hzP; have hr1 := (hr1.below hb12).below hb13; clear hb12 hb13; go_upto_region 31 with fail; have qa0 := HD.out.ba.cell 0; have qa1 := HD.out.ba.cell 1; have qb0 := HD.out.bb.cell 0; have qb1 := HD.out.bb.cell 1; simp only [List.getElem?_toArray, List.getElem?_cons_zero, List.getElem?_cons_succ] at qa0 qa1 qb0 qb1; have HQ : Hid (w13.cell? ⟨ga, 0, none⟩ = some (.slice ya.A1 ya.k1 ya.c1) ∧ w13.cell? ⟨ga, 1, none⟩ = some (.slice ya.A2 ya.k2 ya.c2) ∧ w13.cell? ⟨gb, 0, none⟩ = some (.slice yb.A1 yb.k1 yb.c1) ∧ w13.cell? ⟨gb, 1, none⟩ = some (.slice yb.A2 yb.k2 yb.c2)) := ⟨qa0, qa1, qb0, qb1⟩; have HDo := HD; clear qa0 qa1 qb0 qb1; refine region_invF (PhiGdb31 Ap kp cp ya yb) (fun w w' => Below w.heap.size w w') (fun W => Below w13.heap.size w13 W) (by kernel_rfl) (by kernel_rfl) (by kernel_rfl) PhiGdb31.keep (fun _ _ hR hS => Below.tr hS hR) (bD _) (fun vs => by simp only [fillR, Act.put, sA, sB, sC, Nat.zero_add, Nat.reduceAdd]; rfl) ?_ ?_
   ·refine sK ?_ (sK ?_ (sK ?_ (sK ?_ (sK ?_ (sK ?_ (sK ?_ (sK ?_ (sK ?_ (sK ?_ (sK ?_ (sK ?_ (sZ))))))))))))
    ·as_aux_lemma =>
     intro vs W hS hdep K hK; refine ⟨?_⟩; simp only [Act.put, sA, sB, sC, Nat.zero_add, Nat.reduceAdd] at hK ⊢; go_simp; with_reducible refine hK _ _ (Below.refl _ _) ?_
     exact rfl
    ·as_aux_lemma =>
     intro vs W hS hdep K hK; obtain ⟨z1, z2, z3, z4⟩ := HQ.out; have f1 := cell_keep hS z1; have f2 := cell_keep hS z2; clear z1 z2 z3 z4; refine ⟨?_⟩; simp only [Act.put, sA, sB, sC, Nat.zero_add, Nat.reduceAdd] at hK ⊢; go_simp; with_reducible refine hK _ _ (Below.refl _ _) ?_
     exact rfl
    ·as_aux_lemma =>
     intro vs W hS hdep K hK; have d0 := hdep ⟨1, .data⟩ (by simp) rfl; simp only [PhiGdb31] at d0; refine ⟨?_⟩; simp only [Act.put, sA, sB, sC, Nat.zero_add, Nat.reduceAdd, d0] at hK ⊢; go_simp; refine (given_n ya _ (HDo.out.oa.below hS) (by omega) (by omega)).mono ?_; rintro e w' ⟨z, rfl, hok, hp, -, -, -, -, -, hb⟩; simp only [Ln.val]; go_wp2_with fail; with_reducible refine hK _ _ hb ?_
     exact ⟨z, rfl, hok, hp⟩
    ·as_aux_lemma =>
     intro vs W hS hdep K hK; obtain ⟨z1, z2, z3, z4⟩ := HQ.out; have f1 := cell_keep hS z3; have f2 := cell_keep hS z4; clear z1 z2 z3 z4; refine ⟨?_⟩; simp only [Act.put, sA, sB, sC, Nat.zero_add, Nat.reduceAdd] at hK ⊢; go_simp; with_reducible refine hK _ _ (Below.refl _ _) ?_
     exact rfl
    ·as_aux_lemma =>
     intro vs W hS hdep K hK; have d0 := hdep ⟨3, .data⟩ (by simp) rfl; simp only [PhiGdb31] at d0; refine ⟨?_⟩; simp only [Act.put, sA, sB, sC, Nat.zero_add, Nat.reduceAdd, d0] at hK ⊢; go_simp; refine (given_n yb _ (HDo.out.ob.below hS) (by omega) (by omega)).mono ?_; rintro e w' ⟨z, rfl, hok, hp, -, -, -, -, -, hb⟩; simp only [Ln.val]; go_wp2_with fail; with_reducible refine hK _ _ hb ?_
     exact ⟨z, rfl, hok, hp⟩
    ·as_aux_lemma =>
     intro vs W hS hdep K hK; have d0 := hdep ⟨2, .data⟩ (by simp) rfl; simp only [PhiGdb31] at d0; refine @exE1 _ _ _ d0 ?_; clear d0; intro z0 d0; have e0 := d0.1; have ok0 := d0.2.1; have hp0 := d0.2.2; clear d0; have d1 := hdep ⟨4, .data⟩ (by simp) rfl; simp only [PhiGdb31] at d1; refine @exE1 _ _ _ d1 ?_; clear d1; intro z1 d1; have e1 := d1.1; have ok1 := d1.2.1; have hp1 := d1.2.2; clear d1; refine ⟨?_⟩; simp only [Act.put, sA, sB, sC, Nat.zero_add, Nat.reduceAdd, e0, e1] at hK ⊢; rw [if_pos (by rfl)]; refine wp_sliceN 88 58 2 [(0, .tmp 198), (1, .tmp 200)] rfl (lnsA [z0, z1]) iG (Value.agg #[.slice none 0 0, .slice none 0 0]) 2 [(0, .agg #[.slice z0.A1 z0.k1 z0.c1, .slice z0.A2 z0.k2 z0.c2]), (1, .agg #[.slice z1.A1 z1.k1 z1.c1, .slice z1.A2 z1.k2 z1.c2])] Try.underlying88 hiG hzG hzG1 (by omega) (by omega) rfl (fill_l2 z0 z1) ?_; simp only [Act.put, sA, sB, sC]; with_reducible refine hK _ _ (bA _ _) ?_
     refine ⟨_, [z0, z1], rfl, row_lines (Blk.new _ _ _) rfl (by omega), ?_, by rw [allP_two, hp0, hp1]⟩; intro y hy; simp only [List.mem_cons, List.not_mem_nil, or_false] at hy
     rcases hy with rfl | rfl
     ·exact ok0.below (bA _ _)
     ·exact ok1.below (bA _ _)
    ·as_aux_lemma =>
     intro vs W hS hdep K hK; have d0 := hdep ⟨0, .data⟩ (by simp) rfl; simp only [PhiGdb31] at d0; have d1 := hdep ⟨5, .data⟩ (by simp) rfl; simp only [PhiGdb31] at d1; refine @exE2 _ _ _ _ d1 ?_; clear d1; intro A1 Ms1 d1; have e1 := d1.1; have hr1 := d1.2.1; have ho1 := d1.2.2.1; have hp1 := d1.2.2.2; clear d1; refine ⟨?_⟩; simp only [Act.put, sA, sB, sC, Nat.zero_add, Nat.reduceAdd, d0, e1] at hK ⊢; go_simp; refine (debt_n Ap kp cp A1 2 2 Ms1 _ (by omega) hr1 ho1 (by show _ ≤ _; rw [hp1, List.length_append]; have := HLE.out; omega)).mono ?_; rintro e w' ⟨dv, er, rfl, HP, hb⟩; obtain ⟨rfl, B, eb, rfl, hrw⟩ := (HP.out.r (by omega)).yes (by rw [hp1, cntR_app, HCA.out, HCB.out]; rfl); rw [hp1] at hrw; clear HP; go_wp2_with fail; with_reducible refine hK _ _ hb ?_
     exact ⟨_, _, rfl, hrw⟩
    ·as_aux_lemma =>
     intro vs W hS hdep K hK; have d0 := hdep ⟨6, .data⟩ (by simp) rfl; simp only [PhiGdb31] at d0; refine @exE2 _ _ _ _ d0 ?_; clear d0; intro B0 q0 d0; have e0 := d0.1; have h0 := d0.2; clear d0; refine ⟨?_⟩; simp only [Act.put, sA, sB, sC, Nat.zero_add, Nat.reduceAdd, e0] at hK ⊢; go_simp; with_reducible refine hK _ _ (Below.refl _ _) ?_
     exact ⟨_, _, rfl, h0⟩
    ·as_aux_lemma =>
     intro vs W hS hdep K hK; have d0 := hdep ⟨7, .data⟩ (by simp) rfl; simp only [PhiGdb31] at d0; refine @exE2 _ _ _ _ d0 ?_; clear d0; intro B0 q0 d0; have e0 := d0.1; have h0 := d0.2; clear d0; refine ⟨?_⟩; simp only [Act.put, sA, sB, sC, Nat.zero_add, Nat.reduceAdd, e0] at hK ⊢; go_simp; with_reducible refine hK _ _ (Below.refl _ _) ?_
     exact ⟨_, _, rfl, h0⟩
    ·as_aux_lemma =>
     intro vs W hS hdep K hK; have d0 := hdep ⟨7, .data⟩ (by simp) rfl; simp only [PhiGdb31] at d0; refine @exE2 _ _ _ _ d0 ?_; clear d0; intro B0 q0 d0; have e0 := d0.1; have h0 := d0.2; clear d0; refine ⟨?_⟩; simp only [Act.put, sA, sB, sC, Nat.zero_add, Nat.reduceAdd, e0] at hK ⊢; go_simp; with_reducible refine hK _ _ (Below.refl _ _) ?_
     exact rfl
    ·as_aux_lemma =>
     intro vs W hS hdep K hK; have d0 := hdep ⟨8, .data⟩ (by simp) rfl; simp only [PhiGdb31] at d0; refine @exE2 _ _ _ _ d0 ?_; clear d0; intro B0 q0 d0; have e0 := d0.1; have h0 := d0.2; clear d0; refine ⟨?_⟩; simp only [Act.put, sA, sB, sC, Nat.zero_add, Nat.reduceAdd, e0] at hK ⊢; go_simp; with_reducible refine hK _ _ (Below.refl _ _) ?_
     exact ⟨_, _, rfl, h0⟩
    ·as_aux_lemma =>
     intro vs W hS hdep K hK; have d0 := hdep ⟨9, .data⟩ (by simp) rfl; simp only [PhiGdb31] at d0; refine ⟨?_⟩; simp only [Act.put, sA, sB, sC, Nat.zero_add, Nat.reduceAdd, d0] at hK ⊢; go_simp; with_reducible refine hK _ _ (Below.refl _ _) ?_
     exact rfl
   ·intro vs31 w31 hS hv; have v9 := hv 9 (by simp); have v10 := hv 10 (by simp); have v11 := hv 11 (by simp); simp only [PhiGdb31] at v9 v10 v11; obtain ⟨B3, e3, v10, hr3⟩ := v10; simp only [Act.put, sA, sB, sC, Nat.zero_add, Nat.reduceAdd, v9, v10, v11]; clear v9 v10 v11 hv HQ HDo; have HD := Lib.hid (HD.out.below hS); have hr1 := hr1.below hS; have hr2 := hr2.below hS; clear hS; go_wp2_with fail
    go_loopg [42] kp (fun m x wz => ∃ q : Nat, x = .int .i64 q ∧ q + m = kp ∧ Below w31.heap.size w31 wz)
    case atStart => exact ⟨0, rfl, by omega, Below.refl _ _⟩
    case round =>
     obtain ⟨G, hG⟩ : ∃ G, G = gk := ⟨gk, rfl⟩; subst hG; obtain ⟨q, rfl, hqm, hbe⟩ := hrel; by_cases hq : q < kp
     ·have t3 : decide ((q : Int) < (kp : Int)) = true := by simp; omega
      have lq : (q : Int) < (kp : Int) := by omega
      obtain ⟨b1, o1, n1, rfl, hc1, HG1⟩ := (hr1.below hbe).nat hq; obtain ⟨b2, o2, n2, rfl, hc2, HG2⟩ := (hr2.below hbe).nat hq; obtain ⟨b3, o3, n3, rfl, hc3, HG3⟩ := (hr3.below hbe).nat hq
      have hn1 : n1 = cntP ya.P q := by
       have := HG1.out; rw [rowF_get hq] at this; injection this with this; exact this.symm
      have hn2 : n2 = cntP yb.P q := by
       have := HG2.out; rw [rowF_get hq] at this; injection this with this; exact this.symm
      have hn3 : n3 = n1 + n2 := by
       have := HG3.out; rw [rowF_get hq] at this; injection this with this; rw [← this, cntP_app, hn1, hn2]
      have l1 : n1 ≤ 16 := by rw [hn1]; exact Nat.le_trans (cntP_le _ _) HLE.out.1
      have l2 : n2 ≤ 16 := by rw [hn2]; exact Nat.le_trans (cntP_le _ _) HLE.out.2
      clear hn1 hn2 HG1 HG2 HG3; subst hn3; have s1 : IntKind.i64.wrap ((n1 : Int) + (n2 : Int)) = ((n1 + n2 : Nat) : Int) := by rw [IntWalk.i64_in _ (by omega)]; omega
      go_upto_region 37 with fail; refine wp_region_quiet_lit (by kernel_rfl) (by kernel_rfl) ?_
      repeat (go_big_quiet_step (fail))
      refine wpQuiet_nil ?_; intro _ hw'; obtain ⟨nq, hw''⟩ := hw'; subst hw''; go_wp2_with fail
      go_roundg (G - 1)
      case measure => omega
      case rel => exact ⟨q + 1, by go_num, by omega, Below.tr hbe (below_drewN _ _)⟩
     ·have t3 : decide ((q : Int) < (kp : Int)) = false := by simp; omega
      have lq : ¬ ((q : Int) < (kp : Int)) := by omega
      have HD := Lib.hid (HD.out.below hbe); clear hr1 hr2 hr3; have qa0 := HD.out.ba.cell 0; have qa1 := HD.out.ba.cell 1; have qb0 := HD.out.bb.cell 0; have qb1 := HD.out.bb.cell 1; have qc0 := HD.out.bc.cell 0; have qc1 := HD.out.bc.cell 1; simp only [List.getElem?_toArray, List.getElem?_cons_zero, List.getElem?_cons_succ] at qa0 qa1 qb0 qb1 qc0 qc1
      go_upto_region 40 with (first | (refine wpList_buildTo rfl 72 [] (by rfl) #[.slice none 0 0, .slice none 0 0] built_rln0 ?_; simp only [Act.put, sA, sB, sC]) | (refine wpList_sliceN rfl 78 72 4 [(0, .tmp 249), (1, .tmp 250), (2, .tmp 251), (3, .tmp 252)] rfl #[.slice ya.A1 ya.k1 ya.c1, .slice ya.A2 ya.k2 ya.c2, .slice yb.A1 yb.k1 yb.c1, .slice yb.A2 yb.k2 yb.c2, .slice yc.A1 yc.k1 yc.c1, .slice yc.A2 yc.k2 yc.c2, .slice none 0 0, .slice none 0 0] iL (Value.agg #[.slice none 0 0, .slice none 0 0]) 2 [(0, .agg #[.slice ya.A1 ya.k1 ya.c1, .slice ya.A2 ya.k2 ya.c2]), (1, .agg #[.slice yb.A1 yb.k1 yb.c1, .slice yb.A2 yb.k2 yb.c2]), (2, .agg #[.slice yc.A1 yc.k1 yc.c1, .slice yc.A2 yc.k2 yc.c2]), (3, .agg #[.slice none 0 0, .slice none 0 0])] Try.underlying78 hiL hzL hzL1 (by omega) (by omega) rfl fill_ln4 ?_; simp only [Act.put, sA, sB, sC]))
      refine wp_name ?_; intro v40 HV40; have hb40 : Below wr.heap.size wr v40 := by rw [HV40.out]; exact bA _ _
      have HD := Lib.hid (HD.out.below hb40)
      have HLN : Hid (LnS v40 wr.heap.size) := by
       have hnb : Blk v40 wr.heap.size 72 #[.slice ya.A1 ya.k1 ya.c1, .slice ya.A2 ya.k2 ya.c2, .slice yb.A1 yb.k1 yb.c1, .slice yb.A2 yb.k2 yb.c2, .slice yc.A1 yc.k1 yc.c1, .slice yc.A2 yc.k2 yc.c2, .slice none 0 0, .slice none 0 0] := by rw [HV40.out]; exact Blk.new _ _ _
       have HO := HD.out; intro j hj
       rcases j with _ | _ | _ | _ | j
       ·exact ⟨ya, by rw [hnb.cell]; rfl, by rw [hnb.cell]; rfl, HO.oa, by omega, by omega⟩
       ·exact ⟨yb, by rw [hnb.cell]; rfl, by rw [hnb.cell]; rfl, HO.ob, by omega, by omega⟩
       ·exact ⟨yc, by rw [hnb.cell]; rfl, by rw [hnb.cell]; rfl, HO.oc, by omega, by omega⟩
       ·exact ⟨⟨none, 0, 0, none, 0, 0, [], []⟩, by rw [hnb.cell]; rfl, by rw [hnb.cell]; rfl, Ln.nil_ok _, by show 0 ≤ _; omega, by show 0 ≤ _; omega⟩
       ·omega
      generalize wr.heap.size = gm at HLN; clear HV40 hb40 qa0 qa1 qb0 qb1 qc0 qc1 HLE HCA HCB; go_wp2_with fail
      go_loopg [44] 4 (fun m x wz => ∃ i : Nat, x = .int .i64 i ∧ i + m = 4 ∧ Hid (DbS w wz Ap kp ps bd ga gb gc ya yb yc) ∧ Hid (LnS wz gm))
      case atStart => exact ⟨0, rfl, by omega, HD, HLN⟩
      case round =>
       obtain ⟨G1, hG1⟩ : ∃ G, G = gk := ⟨gk, rfl⟩; subst hG1; obtain ⟨i, rfl, him, HD, HLN⟩ := hrel; by_cases hi : i < 4
       ·have t1 : decide ((i : Int) < 4) = true := by simp; omega
        have li : (i : Int) < 4 := by omega
        go_wp2_with fail
        go_loopg [45] 4 (fun m x wz => ∃ j' : Nat, x = .int .i64 j' ∧ j' + m = 4 ∧ Hid (DbS w wz Ap kp ps bd ga gb gc ya yb yc) ∧ Hid (LnS wz gm))
        case atStart => exact ⟨0, rfl, by omega, HD, HLN⟩
        case round =>
         obtain ⟨G2, hG2⟩ : ∃ G, G = gk := ⟨gk, rfl⟩; subst hG2; obtain ⟨j', rfl, hjm, HD, HLN⟩ := hrel; by_cases hj : j' < 4
         ·have t2 : decide ((j' : Int) < 4) = true := by simp; omega
          have lj : (j' : Int) < 4 := by omega
          obtain ⟨y, hy1, hy2, hyy, hyk1, hyk2⟩ := HLN.out i hi; obtain ⟨z, hz1, hz2, hyz, hzk1, hzk2⟩ := HLN.out j' hj; have HC1 : Hid (wr.cell? ⟨gm, i * 2, none⟩ = some (.slice y.A1 y.k1 y.c1) ∧ wr.cell? ⟨gm, i * 2 + 1, none⟩ = some (.slice y.A2 y.k2 y.c2)) := ⟨hy1, hy2⟩; have HC2 : Hid (wr.cell? ⟨gm, j' * 2, none⟩ = some (.slice z.A1 z.k1 z.c1) ∧ wr.cell? ⟨gm, j' * 2 + 1, none⟩ = some (.slice z.A2 z.k2 z.c2)) := ⟨hz1, hz2⟩
          obtain ⟨bq, HBQ⟩ : ∃ bq : Bool, Hid (bq = true ↔ y.P = z.P ∧ y.S = z.S) := by
           classical
           exact ⟨decide (y.P = z.P ∧ y.S = z.S), by show _ ↔ _; simp⟩
          clear hy1 hy2 hz1 hz2; go_upto_region 46 with fail; obtain ⟨xr, hxr⟩ : ∃ x, x = wr := ⟨_, rfl⟩; subst hxr; refine region_invF (PhiGdb46 gm i j' y z bq) (fun w w' => Below w.heap.size w w') (fun W => Below xr.heap.size xr W) (by kernel_rfl) (by kernel_rfl) (by kernel_rfl) PhiGdb46.keep (fun _ _ hR hS => Below.tr hS hR) (bD _) (fun vs => by simp only [fillR, Act.put, sA, sB, sC, Nat.zero_add, Nat.reduceAdd]; rfl) ?_ ?_
          ·refine sK ?_ (sK ?_ (sK ?_ (sK ?_ (sK ?_ (sK ?_ (sK ?_ (sK ?_ (sK ?_ (sK ?_ (sK ?_ (sK ?_ (sK ?_ (sK ?_ (sK ?_ (sK ?_ (sK ?_ (sK ?_ (sK ?_ (sK ?_ (sK ?_ (sZ)))))))))))))))))))))
           ·as_aux_lemma =>
            intro vs W hS hdep K hK; refine ⟨?_⟩; simp only [Act.put, sA, sB, sC, Nat.zero_add, Nat.reduceAdd] at hK ⊢; go_simp; with_reducible refine hK _ _ (Below.refl _ _) ?_
            exact rfl
           ·as_aux_lemma =>
            intro vs W hS hdep K hK; refine ⟨?_⟩; simp only [Act.put, sA, sB, sC, Nat.zero_add, Nat.reduceAdd] at hK ⊢; go_simp; with_reducible refine hK _ _ (Below.refl _ _) ?_
            exact rfl
           ·as_aux_lemma =>
            intro vs W hS hdep K hK; have d0 := hdep ⟨0, .data⟩ (by simp) rfl; simp only [PhiGdb46] at d0; have d1 := hdep ⟨1, .data⟩ (by simp) rfl; simp only [PhiGdb46] at d1; refine ⟨?_⟩; simp only [Act.put, sA, sB, sC, Nat.zero_add, Nat.reduceAdd, d0, d1] at hK ⊢; go_simp; with_reducible refine hK _ _ (Below.refl _ _) ?_
            exact rfl
           ·as_aux_lemma =>
            intro vs W hS hdep K hK; have d0 := hdep ⟨2, .data⟩ (by simp) rfl; simp only [PhiGdb46] at d0; have f1 := cell_keep hS HC1.out.1; have f2 := cell_keep hS HC1.out.2; refine ⟨?_⟩; simp only [Act.put, sA, sB, sC, Nat.zero_add, Nat.reduceAdd, d0] at hK ⊢; go_simp; with_reducible refine hK _ _ (Below.refl _ _) ?_
            exact rfl
           ·as_aux_lemma =>
            intro vs W hS hdep K hK; have d0 := hdep ⟨3, .data⟩ (by simp) rfl; simp only [PhiGdb46] at d0; refine ⟨?_⟩; simp only [Act.put, sA, sB, sC, Nat.zero_add, Nat.reduceAdd, d0] at hK ⊢; go_simp; refine (given_n y _ (hyy.below hS) (by omega) (by omega)).mono ?_; rintro e w' ⟨u, rfl, hok, hp, hs, -, -, -, -, hb⟩; simp only [Ln.val]; go_wp2_with fail; with_reducible refine hK _ _ hb ?_
            exact ⟨u, rfl, hok, hp, hs⟩
           ·as_aux_lemma =>
            intro vs W hS hdep K hK; refine ⟨?_⟩; simp only [Act.put, sA, sB, sC, Nat.zero_add, Nat.reduceAdd] at hK ⊢; go_simp; with_reducible refine hK _ _ (Below.refl _ _) ?_
            exact rfl
           ·as_aux_lemma =>
            intro vs W hS hdep K hK; refine ⟨?_⟩; simp only [Act.put, sA, sB, sC, Nat.zero_add, Nat.reduceAdd] at hK ⊢; go_simp; with_reducible refine hK _ _ (Below.refl _ _) ?_
            exact rfl
           ·as_aux_lemma =>
            intro vs W hS hdep K hK; have d0 := hdep ⟨5, .data⟩ (by simp) rfl; simp only [PhiGdb46] at d0; have d1 := hdep ⟨6, .data⟩ (by simp) rfl; simp only [PhiGdb46] at d1; refine ⟨?_⟩; simp only [Act.put, sA, sB, sC, Nat.zero_add, Nat.reduceAdd, d0, d1] at hK ⊢; go_simp; with_reducible refine hK _ _ (Below.refl _ _) ?_
            exact rfl
           ·as_aux_lemma =>
            intro vs W hS hdep K hK; have d0 := hdep ⟨7, .data⟩ (by simp) rfl; simp only [PhiGdb46] at d0; have f1 := cell_keep hS HC2.out.1; have f2 := cell_keep hS HC2.out.2; refine ⟨?_⟩; simp only [Act.put, sA, sB, sC, Nat.zero_add, Nat.reduceAdd, d0] at hK ⊢; go_simp; with_reducible refine hK _ _ (Below.refl _ _) ?_
            exact rfl
           ·as_aux_lemma =>
            intro vs W hS hdep K hK; have d0 := hdep ⟨8, .data⟩ (by simp) rfl; simp only [PhiGdb46] at d0; refine ⟨?_⟩; simp only [Act.put, sA, sB, sC, Nat.zero_add, Nat.reduceAdd, d0] at hK ⊢; go_simp; refine (given_n z _ (hyz.below hS) (by omega) (by omega)).mono ?_; rintro e w' ⟨u, rfl, hok, hp, hs, -, -, -, -, hb⟩; simp only [Ln.val]; go_wp2_with fail; with_reducible refine hK _ _ hb ?_
            exact ⟨u, rfl, hok, hp, hs⟩
           ·as_aux_lemma =>
            intro vs W hS hdep K hK; have d0 := hdep ⟨4, .data⟩ (by simp) rfl; simp only [PhiGdb46] at d0; refine @exE1 _ _ _ d0 ?_; clear d0; intro u0 d0; have e0 := d0.1; have ok0 := d0.2.1; have hp0 := d0.2.2.1; have hs0 := d0.2.2.2; clear d0; have d1 := hdep ⟨9, .data⟩ (by simp) rfl; simp only [PhiGdb46] at d1; refine @exE1 _ _ _ d1 ?_; clear d1; intro u1 d1; have e1 := d1.1; have ok1 := d1.2.1; have hp1 := d1.2.2.1; have hs1 := d1.2.2.2; clear d1; refine ⟨?_⟩; simp only [Act.put, sA, sB, sC, Nat.zero_add, Nat.reduceAdd, e0, e1] at hK ⊢; go_simp; refine (gsame_n u0 u1 _ ok0 ok1).mono ?_; rintro e w' ⟨b, rfl, HB, hb⟩; obtain rfl : b = bq := Bool.eq_iff_iff.2 (HB.out.trans (by rw [hp0, hp1, hs0, hs1]; exact HBQ.out.symm)); go_wp2_with fail; with_reducible refine hK _ _ hb ?_
            exact rfl
           ·as_aux_lemma =>
            intro vs W hS hdep K hK; refine ⟨?_⟩; simp only [Act.put, sA, sB, sC, Nat.zero_add, Nat.reduceAdd] at hK ⊢; go_simp; with_reducible refine hK _ _ (Below.refl _ _) ?_
            exact rfl
           ·as_aux_lemma =>
            intro vs W hS hdep K hK; refine ⟨?_⟩; simp only [Act.put, sA, sB, sC, Nat.zero_add, Nat.reduceAdd] at hK ⊢; go_simp; with_reducible refine hK _ _ (Below.refl _ _) ?_
            exact rfl
           ·as_aux_lemma =>
            intro vs W hS hdep K hK; have d0 := hdep ⟨11, .data⟩ (by simp) rfl; simp only [PhiGdb46] at d0; have d1 := hdep ⟨12, .data⟩ (by simp) rfl; simp only [PhiGdb46] at d1; refine ⟨?_⟩; simp only [Act.put, sA, sB, sC, Nat.zero_add, Nat.reduceAdd, d0, d1] at hK ⊢; go_simp; with_reducible refine hK _ _ (Below.refl _ _) ?_
            exact rfl
           ·as_aux_lemma =>
            intro vs W hS hdep K hK; have d0 := hdep ⟨13, .data⟩ (by simp) rfl; simp only [PhiGdb46] at d0; have f1 := cell_keep hS HC1.out.1; have f2 := cell_keep hS HC1.out.2; refine ⟨?_⟩; simp only [Act.put, sA, sB, sC, Nat.zero_add, Nat.reduceAdd, d0] at hK ⊢; go_simp; with_reducible refine hK _ _ (Below.refl _ _) ?_
            exact rfl
           ·as_aux_lemma =>
            intro vs W hS hdep K hK; refine ⟨?_⟩; simp only [Act.put, sA, sB, sC, Nat.zero_add, Nat.reduceAdd] at hK ⊢; go_simp; with_reducible refine hK _ _ (Below.refl _ _) ?_
            exact rfl
           ·as_aux_lemma =>
            intro vs W hS hdep K hK; refine ⟨?_⟩; simp only [Act.put, sA, sB, sC, Nat.zero_add, Nat.reduceAdd] at hK ⊢; go_simp; with_reducible refine hK _ _ (Below.refl _ _) ?_
            exact rfl
           ·as_aux_lemma =>
            intro vs W hS hdep K hK; have d0 := hdep ⟨15, .data⟩ (by simp) rfl; simp only [PhiGdb46] at d0; have d1 := hdep ⟨16, .data⟩ (by simp) rfl; simp only [PhiGdb46] at d1; refine ⟨?_⟩; simp only [Act.put, sA, sB, sC, Nat.zero_add, Nat.reduceAdd, d0, d1] at hK ⊢; go_simp; with_reducible refine hK _ _ (Below.refl _ _) ?_
            exact rfl
           ·as_aux_lemma =>
            intro vs W hS hdep K hK; have d0 := hdep ⟨17, .data⟩ (by simp) rfl; simp only [PhiGdb46] at d0; have f1 := cell_keep hS HC2.out.1; have f2 := cell_keep hS HC2.out.2; refine ⟨?_⟩; simp only [Act.put, sA, sB, sC, Nat.zero_add, Nat.reduceAdd, d0] at hK ⊢; go_simp; with_reducible refine hK _ _ (Below.refl _ _) ?_
            exact rfl
           ·as_aux_lemma =>
            intro vs W hS hdep K hK; have d0 := hdep ⟨14, .data⟩ (by simp) rfl; simp only [PhiGdb46] at d0; have d1 := hdep ⟨18, .data⟩ (by simp) rfl; simp only [PhiGdb46] at d1; refine ⟨?_⟩; simp only [Act.put, sA, sB, sC, Nat.zero_add, Nat.reduceAdd, d0, d1] at hK ⊢; go_simp; refine (rsame_n y z _ (hyy.below hS) (hyz.below hS)).mono ?_; rintro e w' ⟨b, rfl, HB, hb⟩; obtain rfl : b = bq := Bool.eq_iff_iff.2 (HB.out.trans HBQ.out.symm); go_wp2_with fail; with_reducible refine hK _ _ hb ?_
            exact rfl
           ·as_aux_lemma =>
            intro vs W hS hdep K hK; have d0 := hdep ⟨10, .data⟩ (by simp) rfl; simp only [PhiGdb46] at d0; have d1 := hdep ⟨19, .data⟩ (by simp) rfl; simp only [PhiGdb46] at d1; refine ⟨?_⟩; simp only [Act.put, sA, sB, sC, Nat.zero_add, Nat.reduceAdd, d0, d1] at hK ⊢; go_simp; with_reducible refine hK _ _ (Below.refl _ _) ?_
            exact rfl
          ·intro vs46 w46 hS hv; have v20 := hv 20 (by simp); simp only [PhiGdb46] at v20; simp only [Act.put, sA, sB, sC, Nat.zero_add, Nat.reduceAdd, v20]; clear v20 hv HC1 HC2 HBQ hyy hyz; have HD := Lib.hid (HD.out.below hS); have HLN := Lib.hid (HLN.out.below hS); go_wp2_with fail
           go_roundg (G2 - 1)
           case measure => omega
           case rel => exact ⟨j' + 1, by go_num, by omega, HD, HLN⟩
         ·have t2 : decide ((j' : Int) < 4) = false := by simp; omega
          have lj : ¬ ((j' : Int) < 4) := by omega
          go_wp2_with fail
          go_roundg (G1 - 1)
          case measure => omega
          case rel => exact ⟨i + 1, by go_num, by omega, HD, HLN⟩
       ·have t1 : decide ((i : Int) < 4) = false := by simp; omega
        have li : ¬ ((i : Int) < 4) := by omega
        clear HLN; obtain ⟨xF, hxF⟩ : ∃ x, x = wr := ⟨_, rfl⟩; subst hxF; have hlen0 : (ps.flatMap cellsP).length = kp * 24 := by rw [flat_len cellsP_len, HD.out.hps.2.1]
        have HLN := Lib.hid hlen0; clear hlen0
        have HPO : Hid (∀ p ∈ ps, PromOk p) := fun p hp => by
         obtain ⟨n, hn⟩ := List.getElem?_of_mem hp; exact (HD.out.pok n p hn).1
        have HONP : Hid (∀ u ∈ ps.flatMap cellsP, u.oneCell' = true) := fun u hu => by
         obtain ⟨p, hp, h⟩ := List.mem_flatMap.1 hu; exact (HPO.out p hp).one u h
        have HNOP : Hid (∀ u ∈ ps.flatMap cellsP, NoL u) := fun u hu => by
         obtain ⟨p, hp, h⟩ := List.mem_flatMap.1 hu; exact (HPO.out p hp).noL u h
        have hbf0 := bA xF (.cells #[] 53); have hsz0 : (xF.alloc (.cells #[] 53)).heap.size = xF.heap.size + 1 := by simp
        have hrd0 := (HD.out.hps.below hbf0).1; have hall0 : OwnAll NoL (xF.alloc (.cells #[] 53)) (.slice (some ⟨xF.heap.size, 0, none⟩) 0 0) := OwnAll.blk (Blk.new xF 53 #[]) (fun x hx => by simp at hx)
        go_wp2_with (at_builtin; go_loud (refine wpList_append_all rfl NoL (.tmp 287) (.tmp 288) _ rfl xF.heap.size 53 iP zeroPV 24 128 Try.underlying37 hiP hzP hzP1 hzP2 zeroPV_size (by omega) (.slice (some ⟨xF.heap.size, 0, none⟩) 0 0) 0 [] rfl (own_nil0 xF 53 24) Ap kp cp (ps.flatMap cellsP) rfl HLN.out hrd0 HONP.out (by simp only [maxLen]; omega) (by omega) (by rw [hsz0]; omega) zeroPV_noL HNOP.out hall0 ?_); intro vA x1 hownA hgA hatA hallA)
        have hbx1 : Below xF.heap.size xF x1 := hbf0.grown hgA (by rw [hsz0]; omega) (own_block_ge (own_nil0 xF 53 24)); clear hgA hatA hall0 hrd0 hsz0 hbf0 HONP HNOP HPO HLN; refine (one_n ki seen _ ho5 ho6 ho7 ho8).mono ?_; rintro e x2 ⟨pq, qa, qb, rfl, hpok, hra, ga_, hab, hb24, hb2⟩; obtain ⟨team, tt, th, site, Aq1, kq1, cq1, Aq2, kq2, cq2, fr, un, dd, hpe, hs1, hs2⟩ := hpok.d; have HPE := Lib.hid hpe; clear hpe; go_wp2_with fail; have HSP := sp34_n team tt th site Aq1 kq1 cq1 Aq2 kq2 cq2 fr un dd 0 0 0 0 0 0 0 0 0 0 0 0 0 0 0 qa qb how by_ x2 (by have h := hra; rw [HPE.out] at h; exact h) ga_ hs1 hs2 ho1 ho2 ho3 ho4; rw [← HPE.out] at HSP; refine HSP.mono ?_; clear HSP; rintro e x3 ⟨p', L1, L2, rfl, hrl, hp1, hp2, hone, hno, hb3⟩; have hb4 := Below.tr (Below.tr hb2 hb3) (bA x3 (.cells (cellsP p').toArray 53)); have hown3 := own_below hownA hb4; have hall3 := hallA.below hb4 (fun g hg => ownsRow_lt hownA g hg); have hrl3 := hrl.below (bA x3 (.cells (cellsP p').toArray 53)); have hbx3 : Below xF.heap.size xF (x3.alloc (.cells (cellsP p').toArray 53)) := Below.tr hbx1 hb4; have hpk3 := HD.out.pok.below hbx3; have hsz3 := hbx3.size; have hrd3 : Rd (x3.alloc (.cells (cellsP p').toArray 53)) (some ⟨x3.heap.size, 0, none⟩) (cellsP p') := Rd.fresh x3 53 (cellsP p'); clear hownA hallA hb2 hb3 hb4 hbx1 hra ga_ hab hb24 HPE hs1 hs2 hpok hrl
        go_upto_region 49 with (first | (refine wpList_sliceN rfl 37 53 1 [(0, .tmp 295)] rfl (cellsP p').toArray iP zeroPV 24 [(0, .agg (cellsP p').toArray)] Try.underlying37 hiP hzP hzP1 (by omega) (by omega) rfl (fill_promV p') ?_; simp only [Act.put, sA, sB, sC]) | (at_builtin; go_loud (refine wpList_append_all rfl NoL (.tmp 289) (.tmp 296) _ rfl xF.heap.size 53 iP zeroPV 24 128 Try.underlying37 hiP hzP hzP1 hzP2 zeroPV_size (by omega) vA (0 + kp) _ rfl hown3 (some ⟨x3.heap.size, 0, none⟩) 1 1 (cellsP p') rfl rfl hrd3 hone (by simp only [maxLen]; omega) (by omega) hsz3 zeroPV_noL hno hall3 ?_); intro vB x4 hown4 hg4 hat4 hall4; obtain ⟨Ab, cb, rfl⟩ := own_shp hown4))
        have hbx4 : Below xF.heap.size xF x4 := hbx3.grown hg4 hsz3 (own_block_ge hown3); have HEO : Hid (EscOk x4 (ps ++ [p']) (LfM ps.length bd L1 L2)) := EscOk.of (hpk3.grownBy hg4 hall3) (RtL.grownBy hrl3 hg4 hall3) hp1 hp2
        have hrow : RowS cellsP x4 Ab (kp + 1) (ps ++ [p']) := by
         have h := hown4; simp only [Nat.zero_add] at h; refine own_any cellsP_len (by omega) (by omega) (T := 53) (base := xF.heap.size) (c := cb) ?_; rw [List.flatMap_append]
         simpa using h
        have HKQ : Hid (kp + 1 = (ps ++ [p']).length) := hrow.2.1; have hkq9 : kp + 1 ≤ 7 := by omega
        have hkq0 : 0 < kp + 1 := by omega
        have hbx := Below.tr HD.out.be hbx4; obtain ⟨Lf, HLf⟩ : ∃ f, Hid (f = LfM ps.length bd L1 L2) := ⟨_, rfl⟩; obtain ⟨pz, HPZ⟩ : ∃ f, Hid (f = ps ++ [p']) := ⟨_, rfl⟩; rw [← HLf.out, ← HPZ.out] at HEO; rw [← HPZ.out] at hrow HKQ; generalize kp + 1 = kq at hrow HKQ hkq9 hkq0; clear HLf HPZ hown4 hg4 hat4 hall4 hown3 hall3 hrl3 hbx3 hpk3 hsz3 hrd3 hone hno hp1 hp2 hbx4 HD; go_wp2_with fail; refine (around_n ki kq _ ho5 ho6 hkq0 (by omega)).mono ?_; rintro e w' ⟨z, rfl, hz, -, rfl⟩; go_upto_region 50 with fail; refine wp_name ?_; intro v50 HV50; have hb50 : Below x4.heap.size x4 v50 := by rw [HV50.out]; exact bA _ _
        have HI5 : Hid (In5 v50 x4.heap.size) := by
         show In5 _ _
         rw [HV50.out]; exact In5.of (Blk.new _ _ _)
        have HEO := Lib.hid (HEO.out.below hb50); have hrow := hrow.below hb50; have hbx := Below.tr hbx hb50; generalize x4.heap.size = gi at HI5; clear HV50 hb50 hz; go_wp2_with fail
        go_loopg [48] 5 (fun m x wz => ∃ i : Nat, x = .int .i64 i ∧ i + m = 5 ∧ Below v50.heap.size v50 wz)
        case atStart => exact ⟨0, rfl, by omega, Below.refl _ _⟩
        case round =>
         obtain ⟨G3, hG3⟩ : ∃ G, G = gk := ⟨gk, rfl⟩; subst hG3; obtain ⟨i, rfl, him, hbe⟩ := hrel; by_cases hi : i < 5
         ·have t1 : decide ((i : Int) < 5) = true := by simp; omega
          have li : (i : Int) < 5 := by omega
          obtain ⟨n, hn⟩ := HI5.out i hi; have HN := Lib.hid hn; have hn := cell_keep hbe hn; go_wp2_with fail; refine (escapes_n Ab kq cb n seen pz Lf _ (hrow.below hbe) ho8 (HEO.out.below hbe)).mono ?_; rintro e w6 ⟨v1, er1, rfl, HE1, hb6⟩; obtain ⟨-, M1, M2, hs1, -⟩ := EscP.pair HKQ.out HE1.out HE1.out; obtain ⟨P1, q1, r1, P2, q2, r2, rfl, -⟩ := hs1; clear hn; go_upto_region 54 with fail; refine wp_name ?_; intro v6 HV6; have hbv : Below w6.heap.size w6 v6 := by rw [HV6.out]; exact bA _ _
          have B1 : Blk v6 w6.heap.size 24 #[.slice P1 q1 r1, .slice P2 q2 r2] := by rw [HV6.out]; exact Blk.new _ _ _
          have hbe := Below.tr hbe (Below.tr hb6 hbv); generalize w6.heap.size = g1 at B1; have hn := cell_keep hbe HN.out; clear HV6; go_wp2_with fail; refine (rescapes_n Ab kq cb n seen pz Lf _ (hrow.below hbe) ho8 (HEO.out.below hbe)).mono ?_; rintro e w7 ⟨v2, er2, rfl, HE2, hb7⟩; obtain ⟨hee, M1, M2, hs1, hs2⟩ := EscP.pair HKQ.out HE1.out HE2.out; subst hee; have hs1 := (hs1.below hbv).below hb7; have hs2c := hs2; obtain ⟨P3, q3, r3, P4, q4, r4, rfl, -⟩ := hs2c; have B1 := Blk.below B1 hb7 B1.lt; clear hn HE1 HE2 HN hb6 hbv; go_upto_region 55 with fail; refine wp_name ?_; intro v7 HV7; have hbv : Below w7.heap.size w7 v7 := by rw [HV7.out]; exact bA _ _
          have B2 : Blk v7 w7.heap.size 24 #[.slice P3 q3 r3, .slice P4 q4 r4] := by rw [HV7.out]; exact Blk.new _ _ _
          have hbe := Below.tr hbe (Below.tr hb7 hbv); have B1 := Blk.below B1 hbv B1.lt; have hs1 := hs1.below hbv; have hs2 := hs2.below hbv; generalize w7.heap.size = g2 at B2; have qa0 := B1.cell 0; have qa1 := B1.cell 1; have qb0 := B2.cell 0; have qb1 := B2.cell 1; simp only [List.getElem?_toArray, List.getElem?_cons_zero, List.getElem?_cons_succ] at qa0 qa1 qb0 qb1; clear HV7 hb7 hbv B1 B2; go_wp2_with fail; refine (same_any _ _ M1 M2 M1 M2 _ hs1 hs2).mono ?_; rintro e w8 ⟨b, rfl, HB, hb8⟩; obtain rfl : b = true := by rw [HB.out]; unfold sameR sameB; simp
          clear hs1 hs2 qa0 qa1 qb0 qb1 HB; go_wp2_with fail
          go_roundg (G3 - 1)
          case measure => omega
          case rel => exact ⟨i + 1, by go_num, by omega, Below.tr hbe hb8⟩
         ·have t1 : decide ((i : Int) < 5) = false := by simp; omega
          have li : ¬ ((i : Int) < 5) := by omega
          clear HI5 HEO hrow; go_wp2_with fail; refine (lives_n _).mono ?_; rintro e w9 ⟨rfl, hb9⟩; go_wp2_with fail; go_ret; exact ⟨rfl, Below.tr hbx (Below.tr hbe hb9)⟩
end Go.Proofs.Yticobffjnjbjiaa
