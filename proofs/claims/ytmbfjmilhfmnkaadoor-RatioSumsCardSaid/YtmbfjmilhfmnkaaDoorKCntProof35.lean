import Derived.Test.YtmbfjmilhfmnkaaDoorKCntProof33
import Derived.Test.YtmbfjmilhfmnkaaDoorKCntProof34
import Derived.Test.YtmbfjmilhfmnkaaDoorS0
set_option linter.unusedVariables false
set_option linter.unusedSimpArgs false
namespace Go.Proofs.YtmbfjmilhfmnkaaDoor
open Go Go.RowKit
theorem Lim.nil5 {w : World} : Lim w none 0 [] := ⟨fun h => absurd rfl h, Nat.le_refl _, by omega, (fun x hx => by cases hx), fun _ => rfl⟩
theorem seven_sl {w : World} {g i : Nat} {xs : List LP} (h : RatRow w (some ⟨g, 0, none⟩) 7 xs) (hi : i < 7) : ∃ A k c B m d x, w.cell? ⟨g, i * 2, none⟩ = some (.slice A k c) ∧ w.cell? ⟨g, i * 2 + 1, none⟩ = some (.slice B m d) ∧ RtP w (.agg #[.slice A k c, .slice B m d]) x := by
 obtain ⟨y1, y2, x, g1, g2, hx⟩ := seven_at h hi; obtain ⟨A, k, c, B, m, d, e⟩ := hx.shape; simp only [Value.agg.injEq, Array.mk.injEq, List.cons.injEq, and_true] at e; obtain ⟨rfl, rfl⟩ := e; exact ⟨A, k, c, B, m, d, x, g1, g2, hx⟩
set_option maxRecDepth 100000 in
set_option maxHeartbeats 16000000 in
theorem ratio_counts_n (A4 : Option Addr) (k4 c4 : Nat) (A5 : Option Addr) (k5 c5 : Nat) (l4 l5 : List Nat) (n m how by_ : Int) (w : World) (hl4 : Lim w A4 c4 l4) (hk4 : k4 = l4.length) (hl5 : Lim w A5 c5 l5) (hk5 : k5 = l5.length) (hin : isI64 n) (him : isI64 m) (hih : isI64 how) (hib : isI64 by_) :
  Calls Tryd.prog 5 #[.int .i64 n, .int .i64 m, .int .i64 how, .int .i64 by_, .slice A4 k4 c4, .slice A5 k5 c5] w fun e w' => e = .returned (.bool true) ∧ Below w.heap.size w w' := by
 have HS := Lib.hid (some_n n m how by_ A4 k4 c4 A5 k5 c5 l4 l5 w hin him hih hib hl4 hk4 hl5 hk5); have HT : Hid (∀ W, Below w.heap.size w W → Calls Tryd.prog 9 #[.int .i64 m, .int .i64 by_, .int .i64 by_, .int .i64 how, .slice A5 k5 c5, .slice none 0 0] W fun e w' => ∃ g xs, e = .returned (.slice (some ⟨g, 0, none⟩) 7 7) ∧ RatRow w' (some ⟨g, 0, none⟩) 7 xs ∧ xs.length = 7 ∧ Below W.heap.size W w') := fun W hW => some_n m by_ by_ how A5 k5 c5 none 0 0 l5 [] W him hib hib hih (hl5.below hW) hk5 Lim.nil5 rfl
 have HIH := Lib.hid hih; clear hl4 hk4 hl5 hk5 hin him hih hib
 go_enter Tryd.func5, Tryd.ntmps5
 go_wp2_with fail; refine HS.out.mono ?_; rintro e w1 ⟨gL, xs, rfl, hL, _, hb1⟩; clear HS; go_wp2_with fail; refine (HT.out w1 hb1).mono ?_; rintro e w2 ⟨gO, ys, rfl, hO, _, hb2⟩; have hL := hL.below hb2; have hbw := Below.tr hb1 hb2; clear HT hb1 hb2; go_wp2_with fail
 go_loopg [15] 7 (fun j x wr => ∃ i : Nat, x = .int .i64 i ∧ i + j = 7 ∧ Below w2.heap.size w2 wr)
 case atStart => exact ⟨0, rfl, by omega, Below.refl _ _⟩
 case round =>
  obtain ⟨G, hG⟩ : ∃ G, G = gk := ⟨gk, rfl⟩; subst hG; obtain ⟨i, rfl, hij, hbo⟩ := hrel; obtain ⟨wo, hwo⟩ : ∃ wo, wo = wr := ⟨_, rfl⟩; subst hwo; by_cases hi : i < 7
  ·have t1 : decide ((i : Int) < 7) = true := by simp; omega
   have hi7 : (i : Int) < 7 := by omega
   go_wp2_with fail
   go_loopg [16] 7 (fun j x wr => ∃ k : Nat, x = .int .i64 k ∧ k + j = 7 ∧ Below w2.heap.size w2 wr)
   case atStart => exact ⟨0, rfl, by omega, hbo⟩
   case round =>
    obtain ⟨G2, hG2⟩ : ∃ G, G = gk := ⟨gk, rfl⟩; subst hG2; obtain ⟨k, rfl, hkj, hbx⟩ := hrel; obtain ⟨wx, hwx⟩ : ∃ wo, wo = wr := ⟨_, rfl⟩; subst hwx; by_cases hk : k < 7
    ·have t2 : decide ((k : Int) < 7) = true := by simp; omega
     have hk7 : (k : Int) < 7 := by omega
     go_upto_region 9 with fail
     go_cut [72] from 58 to 203 (fun t wz => (∃ cb, t = .bool cb) ∧ wz = wx)
     case first => as_aux_lemma =>
      go_wp2_with fail; refine (around_n how 3 _ HIH.out.1 HIH.out.2 (by omega) (by omega)).mono ?_; rintro e w' ⟨z, rfl, hz, _, rfl⟩; go_wp2_with fail
      go_meet
      case rel => exact ⟨⟨_, rfl⟩, rfl⟩
     obtain ⟨⟨cb, rfl⟩, hx⟩ := hcut; obtain rfl := hx.symm; clear hx
     go_upto_if 72 with fail
     cases cb
     ·obtain ⟨Y1, yk1, yc1, Y2, yk2, yc2, x, G1, H2, hX⟩ := seven_sl hL hi; obtain ⟨Z1, zk1, zc1, Z2, zk2, zc2, y, J1, J2, hY⟩ := seven_sl hO hk; have g1 := cell_keep hbx G1; have g2 := cell_keep hbx H2; go_upto_region 11 with fail; refine wp_name ?_; intro wb HW; have hb : Below wx.heap.size wx wb := by rw [HW.out]; exact bA _ _
      have hBA : Blk wb wx.heap.size 28 #[.slice Y1 yk1 yc1, .slice Y2 yk2 yc2] := by rw [HW.out]; exact Blk.new _ _ _
      obtain ⟨pa, hpa⟩ : ∃ g, Hid (g = wx.heap.size) := ⟨_, rfl⟩; rw [← hpa.out] at hBA ⊢; have hpw : w2.heap.size ≤ pa := by rw [hpa.out]; exact hbx.size
      have hbx1 := Below.tr hbx hb; have h1 := cell_keep hbx1 J1; have h2 := cell_keep hbx1 J2; clear HW hpa hb g1 g2; go_upto_region 12 with fail; refine wp_name ?_; intro wc HW; have hb : Below wb.heap.size wb wc := by rw [HW.out]; exact bA _ _
      have hBB : Blk wc wb.heap.size 28 #[.slice Z1 zk1 zc1, .slice Z2 zk2 zc2] := by rw [HW.out]; exact Blk.new _ _ _
      have hne : pa ≠ wb.heap.size := fun e => absurd hBA.lt (by omega)
      obtain ⟨pb, hpb⟩ : ∃ g, Hid (g = wb.heap.size) := ⟨_, rfl⟩; rw [← hpb.out] at hBB hne ⊢; have hpv : w2.heap.size ≤ pb := by rw [hpb.out]; exact hbx1.size
      have hBA := hBA.below hb hBA.lt; have hbx2 := Below.tr hbx1 hb; clear HW hpb hb hbx1 h1 h2
      go_cut [85] from 58 to 203 (fun t wz => (∃ cb, t = .bool cb) ∧ wz = wc)
      case first => as_aux_lemma =>
       go_wp2_with fail
       go_meet
       case rel => exact ⟨⟨_, rfl⟩, rfl⟩
      obtain ⟨⟨cb2, rfl⟩, hxx⟩ := hcut; obtain rfl := hxx.symm; clear hxx
      go_upto_if 85 with fail
      go_cut [] from 58 to 203 (fun wz => (∃ P1 m1 d1 P2 m2 d2 Q1 n1 e1 Q2 n2 e2 xa xb, wz.cell? ⟨pa, 0, none⟩ = some (.slice P1 m1 d1) ∧ wz.cell? ⟨pa, 1, none⟩ = some (.slice P2 m2 d2) ∧ wz.cell? ⟨pb, 0, none⟩ = some (.slice Q1 n1 e1) ∧ wz.cell? ⟨pb, 1, none⟩ = some (.slice Q2 n2 e2) ∧ RtP wz (.agg #[.slice P1 m1 d1, .slice P2 m2 d2]) xa ∧ RtP wz (.agg #[.slice Q1 n1 e1, .slice Q2 n2 e2]) xb ∧ Below w2.heap.size w2 wz))
      case first => as_aux_lemma =>
       cases cb2
       ·have a0 := hBA.cell 0; have a1 := hBA.cell 1; have b0 := hBB.cell 0; have b1 := hBB.cell 1; simp only [List.getElem?_toArray, List.getElem?_cons_zero, List.getElem?_cons_succ] at a0 a1 b0 b1; have hxq := hX.below hbx2; have hyq := hY.below hbx2; go_wp2_with fail
        go_meet
        case rel => exact ⟨_, _, _, _, _, _, _, _, _, _, _, _, x, y, a0, a1, b0, b1, hxq, hyq, hbx2⟩
       ·have h1 := cell_keep hbx2 J1; have h2 := cell_keep hbx2 J2; have f1 := hBA.frozen 0; have f2 := hBA.frozen 1; have a0 := hBA.cell 0; have a1 := hBA.cell 1; simp only [List.getElem?_toArray, List.getElem?_cons_zero, List.getElem?_cons_succ] at a0 a1; go_upto_region 14 with fail; refine wp_name ?_; intro wd HW; have hbx3 : Below w2.heap.size w2 wd := by rw [HW.out]; exact below_set2 hbx2 hpw _ _
        have hBA2 : Blk wd pa 28 #[.slice Z1 zk1 zc1, .slice Z2 zk2 zc2] := by rw [HW.out]; exact (hBA.set_ 0 (.slice Z1 zk1 zc1)).set_ 1 (.slice Z2 zk2 zc2)
        have hBB2 : Blk wd pb 28 #[.slice Z1 zk1 zc1, .slice Z2 zk2 zc2] := by rw [HW.out]; exact (hBB.far (fun e => hne e.symm) _).far (fun e => hne e.symm) _
        clear HW hBA hBB h1 h2 f1 f2 a0 a1 hbx2; have g1 := cell_keep hbx3 G1; have g2 := cell_keep hbx3 H2; have f1 := hBB2.frozen 0; have f2 := hBB2.frozen 1; have a0 := hBB2.cell 0; have a1 := hBB2.cell 1; simp only [List.getElem?_toArray, List.getElem?_cons_zero, List.getElem?_cons_succ] at a0 a1; have hbx4 := below_set2 hbx3 hpv (.slice Y1 yk1 yc1) (.slice Y2 yk2 yc2); have hBA3 : Blk ((wd.setCell ⟨pb, 0, none⟩ (.slice Y1 yk1 yc1)).setCell ⟨pb, 1, none⟩ (.slice Y2 yk2 yc2)) pa 28 #[.slice Z1 zk1 zc1, .slice Z2 zk2 zc2] := (hBA2.far hne _).far hne _; have hBB3 : Blk ((wd.setCell ⟨pb, 0, none⟩ (.slice Y1 yk1 yc1)).setCell ⟨pb, 1, none⟩ (.slice Y2 yk2 yc2)) pb 28 #[.slice Y1 yk1 yc1, .slice Y2 yk2 yc2] := (hBB2.set_ 0 (.slice Y1 yk1 yc1)).set_ 1 (.slice Y2 yk2 yc2); have u0 := hBA3.cell 0; have u1 := hBA3.cell 1; have v0 := hBB3.cell 0; have v1 := hBB3.cell 1; simp only [List.getElem?_toArray, List.getElem?_cons_zero, List.getElem?_cons_succ] at u0 u1 v0 v1; have HU := Lib.hid u0; have HU1 := Lib.hid u1; have HV := Lib.hid v0; have HV1 := Lib.hid v1; clear u0 u1 v0 v1 hBA3 hBB3 hBA2 hBB2; have hxq := hX.below hbx4; have hyq := hY.below hbx4; go_wp2_with fail
        go_meet
        case rel => exact ⟨_, _, _, _, _, _, _, _, _, _, _, _, y, x, HU.out, HU1.out, HV.out, HV1.out, hyq, hxq, hbx4⟩
      obtain ⟨P1, m1, d1, P2, m2, d2, Q1, n1, e1, Q2, n2, e2, xa, xb, pa0, pa1, pb0, pb1, hxa, hxb, hbz⟩ := hcut; clear hBA hBB hne hX hY G1 H2 J1 J2 hbx2; obtain ⟨cc, HCC⟩ : ∃ cc, Hid (cmpV xa xb = cc) := ⟨_, rfl⟩; obtain ⟨ce, HCE⟩ : ∃ ce, Hid (firstE (validP xa) (validP xb) = ce) := ⟨_, rfl⟩; go_wp2_with fail; refine (cmp_F _ _ xa xb _ hxa hxb).mono ?_; rintro e w4 ⟨rfl, hb⟩
      replace pa0 := cell_keep hb pa0
      replace pa1 := cell_keep hb pa1
      replace hxa := hxa.below hb
      replace pb0 := cell_keep hb pb0
      replace pb1 := cell_keep hb pb1
      replace hxb := hxb.below hb
      replace hbz := Below.tr hbz hb
      clear hb; rw [HCC.out, HCE.out]; go_wp2_with fail; refine (rcmp_F _ _ xa xb _ hxa hxb).mono ?_; rintro e w5 ⟨rfl, hb⟩
      replace pa0 := cell_keep hb pa0
      replace pa1 := cell_keep hb pa1
      replace hxa := hxa.below hb
      replace pb0 := cell_keep hb pb0
      replace pb1 := cell_keep hb pb1
      replace hxb := hxb.below hb
      replace hbz := Below.tr hbz hb
      clear hb; rw [HCC.out, HCE.out]; obtain ⟨Es, HEs⟩ : ∃ E, Hid ((addF xa xb).1 = E) := ⟨_, rfl⟩; obtain ⟨Xs, HXs⟩ : ∃ X, Hid ((addF xa xb).2 = X) := ⟨_, rfl⟩; go_wp2_with fail; refine (BinC.sh add_F _ _ xa xb Es Xs _ hxa hxb HEs HXs).mono ?_; rintro e w6 ⟨Sga, kga, cga, Rga, mga, dga, rfl, hga, hb⟩
      replace pa0 := cell_keep hb pa0
      replace pa1 := cell_keep hb pa1
      replace hxa := hxa.below hb
      replace pb0 := cell_keep hb pb0
      replace pb1 := cell_keep hb pb1
      replace hxb := hxb.below hb
      replace hbz := Below.tr hbz hb
      clear hb; go_upto_region 18 with fail; refine wp_name ?_; intro w7 HW; have hb : Below w6.heap.size w6 w7 := by rw [HW.out]; exact bA _ _
      have hB : Blk w7 w6.heap.size 28 #[.slice Sga kga cga, .slice Rga mga dga] := by rw [HW.out]; exact Blk.new _ _ _
      obtain ⟨ga, hg⟩ : ∃ g, Hid (g = w6.heap.size) := ⟨_, rfl⟩; rw [← hg.out] at hB ⊢
      replace pa0 := cell_keep hb pa0
      replace pa1 := cell_keep hb pa1
      replace hxa := hxa.below hb
      replace pb0 := cell_keep hb pb0
      replace pb1 := cell_keep hb pb1
      replace hxb := hxb.below hb
      replace hbz := Below.tr hbz hb
      replace hga := hga.below hb
      have ga0 := hB.cell 0; have ga1 := hB.cell 1; simp only [List.getElem?_toArray, List.getElem?_cons_zero, List.getElem?_cons_succ] at ga0 ga1; clear HW hB hg hb; go_wp2_with fail; refine (BinC.sh radd_F _ _ xa xb Es Xs _ hxa hxb HEs HXs).mono ?_; rintro e w8 ⟨Sgb, kgb, cgb, Rgb, mgb, dgb, rfl, hgb, hb⟩
      replace pa0 := cell_keep hb pa0
      replace pa1 := cell_keep hb pa1
      replace hxa := hxa.below hb
      replace pb0 := cell_keep hb pb0
      replace pb1 := cell_keep hb pb1
      replace hxb := hxb.below hb
      replace ga0 := cell_keep hb ga0
      replace ga1 := cell_keep hb ga1
      replace hga := hga.below hb
      replace hbz := Below.tr hbz hb
      clear hb; go_upto_region 19 with fail; refine wp_name ?_; intro w9 HW; have hb : Below w8.heap.size w8 w9 := by rw [HW.out]; exact bA _ _
      have hB : Blk w9 w8.heap.size 28 #[.slice Sgb kgb cgb, .slice Rgb mgb dgb] := by rw [HW.out]; exact Blk.new _ _ _
      obtain ⟨gb, hg⟩ : ∃ g, Hid (g = w8.heap.size) := ⟨_, rfl⟩; rw [← hg.out] at hB ⊢
      replace pa0 := cell_keep hb pa0
      replace pa1 := cell_keep hb pa1
      replace hxa := hxa.below hb
      replace pb0 := cell_keep hb pb0
      replace pb1 := cell_keep hb pb1
      replace hxb := hxb.below hb
      replace ga0 := cell_keep hb ga0
      replace ga1 := cell_keep hb ga1
      replace hga := hga.below hb
      replace hbz := Below.tr hbz hb
      replace hgb := hgb.below hb
      have gb0 := hB.cell 0; have gb1 := hB.cell 1; simp only [List.getElem?_toArray, List.getElem?_cons_zero, List.getElem?_cons_succ] at gb0 gb1; clear HW hB hg hb; obtain ⟨El, HEl⟩ : ∃ E, Hid ((subF xa xb).1 = E) := ⟨_, rfl⟩; obtain ⟨Xl, HXl⟩ : ∃ X, Hid ((subF xa xb).2 = X) := ⟨_, rfl⟩; go_wp2_with fail; refine (BinC.sh sub_F _ _ xa xb El Xl _ hxa hxb HEl HXl).mono ?_; rintro e w10 ⟨Sgc, kgc, cgc, Rgc, mgc, dgc, rfl, hgc, hb⟩
      replace pa0 := cell_keep hb pa0
      replace pa1 := cell_keep hb pa1
      replace hxa := hxa.below hb
      replace pb0 := cell_keep hb pb0
      replace pb1 := cell_keep hb pb1
      replace hxb := hxb.below hb
      replace ga0 := cell_keep hb ga0
      replace ga1 := cell_keep hb ga1
      replace hga := hga.below hb
      replace gb0 := cell_keep hb gb0
      replace gb1 := cell_keep hb gb1
      replace hgb := hgb.below hb
      replace hbz := Below.tr hbz hb
      clear hb; go_upto_region 20 with fail; refine wp_name ?_; intro w11 HW; have hb : Below w10.heap.size w10 w11 := by rw [HW.out]; exact bA _ _
      have hB : Blk w11 w10.heap.size 28 #[.slice Sgc kgc cgc, .slice Rgc mgc dgc] := by rw [HW.out]; exact Blk.new _ _ _
      obtain ⟨gc, hg⟩ : ∃ g, Hid (g = w10.heap.size) := ⟨_, rfl⟩; rw [← hg.out] at hB ⊢
      replace pa0 := cell_keep hb pa0
      replace pa1 := cell_keep hb pa1
      replace hxa := hxa.below hb
      replace pb0 := cell_keep hb pb0
      replace pb1 := cell_keep hb pb1
      replace hxb := hxb.below hb
      replace ga0 := cell_keep hb ga0
      replace ga1 := cell_keep hb ga1
      replace hga := hga.below hb
      replace gb0 := cell_keep hb gb0
      replace gb1 := cell_keep hb gb1
      replace hgb := hgb.below hb
      replace hbz := Below.tr hbz hb
      replace hgc := hgc.below hb
      have gc0 := hB.cell 0; have gc1 := hB.cell 1; simp only [List.getElem?_toArray, List.getElem?_cons_zero, List.getElem?_cons_succ] at gc0 gc1; clear HW hB hg hb; go_wp2_with fail; refine (BinC.sh rsub_F _ _ xa xb El Xl _ hxa hxb HEl HXl).mono ?_; rintro e w12 ⟨Sgd, kgd, cgd, Rgd, mgd, dgd, rfl, hgd, hb⟩
      replace pa0 := cell_keep hb pa0
      replace pa1 := cell_keep hb pa1
      replace hxa := hxa.below hb
      replace pb0 := cell_keep hb pb0
      replace pb1 := cell_keep hb pb1
      replace hxb := hxb.below hb
      replace ga0 := cell_keep hb ga0
      replace ga1 := cell_keep hb ga1
      replace hga := hga.below hb
      replace gb0 := cell_keep hb gb0
      replace gb1 := cell_keep hb gb1
      replace hgb := hgb.below hb
      replace gc0 := cell_keep hb gc0
      replace gc1 := cell_keep hb gc1
      replace hgc := hgc.below hb
      replace hbz := Below.tr hbz hb
      clear hb; go_upto_region 21 with fail; refine wp_name ?_; intro w13 HW; have hb : Below w12.heap.size w12 w13 := by rw [HW.out]; exact bA _ _
      have hB : Blk w13 w12.heap.size 28 #[.slice Sgd kgd cgd, .slice Rgd mgd dgd] := by rw [HW.out]; exact Blk.new _ _ _
      obtain ⟨gd, hg⟩ : ∃ g, Hid (g = w12.heap.size) := ⟨_, rfl⟩; rw [← hg.out] at hB ⊢
      replace pa0 := cell_keep hb pa0
      replace pa1 := cell_keep hb pa1
      replace hxa := hxa.below hb
      replace pb0 := cell_keep hb pb0
      replace pb1 := cell_keep hb pb1
      replace hxb := hxb.below hb
      replace ga0 := cell_keep hb ga0
      replace ga1 := cell_keep hb ga1
      replace hga := hga.below hb
      replace gb0 := cell_keep hb gb0
      replace gb1 := cell_keep hb gb1
      replace hgb := hgb.below hb
      replace gc0 := cell_keep hb gc0
      replace gc1 := cell_keep hb gc1
      replace hgc := hgc.below hb
      replace hbz := Below.tr hbz hb
      replace hgd := hgd.below hb
      have gd0 := hB.cell 0; have gd1 := hB.cell 1; simp only [List.getElem?_toArray, List.getElem?_cons_zero, List.getElem?_cons_succ] at gd0 gd1; clear HW hB hg hb; go_wp2_with fail; refine (rsame_P _ _ _ _ hga hgb).mono ?_; rintro e w14 ⟨rfl, hb⟩
      replace pa0 := cell_keep hb pa0
      replace pa1 := cell_keep hb pa1
      replace hxa := hxa.below hb
      replace pb0 := cell_keep hb pb0
      replace pb1 := cell_keep hb pb1
      replace hxb := hxb.below hb
      replace ga0 := cell_keep hb ga0
      replace ga1 := cell_keep hb ga1
      replace hga := hga.below hb
      replace gb0 := cell_keep hb gb0
      replace gb1 := cell_keep hb gb1
      replace hgb := hgb.below hb
      replace gc0 := cell_keep hb gc0
      replace gc1 := cell_keep hb gc1
      replace hgc := hgc.below hb
      replace gd0 := cell_keep hb gd0
      replace gd1 := cell_keep hb gd1
      replace hgd := hgd.below hb
      replace hbz := Below.tr hbz hb
      clear hb; clear ga0 ga1 hga gb0 gb1 hgb; go_wp2_with fail; refine (rsame_P _ _ _ _ hgc hgd).mono ?_; rintro e w15 ⟨rfl, hb⟩
      replace pa0 := cell_keep hb pa0
      replace pa1 := cell_keep hb pa1
      replace hxa := hxa.below hb
      replace pb0 := cell_keep hb pb0
      replace pb1 := cell_keep hb pb1
      replace hxb := hxb.below hb
      replace gc0 := cell_keep hb gc0
      replace gc1 := cell_keep hb gc1
      replace hgc := hgc.below hb
      replace gd0 := cell_keep hb gd0
      replace gd1 := cell_keep hb gd1
      replace hgd := hgd.below hb
      replace hbz := Below.tr hbz hb
      clear hb; clear gc0 gc1 hgc gd0 gd1 hgd; obtain ⟨Et, HEt⟩ : ∃ E, Hid ((mulF xa xb).1 = E) := ⟨_, rfl⟩; obtain ⟨Xt, HXt⟩ : ∃ X, Hid ((mulF xa xb).2 = X) := ⟨_, rfl⟩; go_wp2_with fail; refine (BinC.sh mul_F _ _ xa xb Et Xt _ hxa hxb HEt HXt).mono ?_; rintro e w16 ⟨Sge, kge, cge, Rge, mge, dge, rfl, hge, hb⟩
      replace pa0 := cell_keep hb pa0
      replace pa1 := cell_keep hb pa1
      replace hxa := hxa.below hb
      replace pb0 := cell_keep hb pb0
      replace pb1 := cell_keep hb pb1
      replace hxb := hxb.below hb
      replace hbz := Below.tr hbz hb
      clear hb; go_upto_region 24 with fail; refine wp_name ?_; intro w17 HW; have hb : Below w16.heap.size w16 w17 := by rw [HW.out]; exact bA _ _
      have hB : Blk w17 w16.heap.size 28 #[.slice Sge kge cge, .slice Rge mge dge] := by rw [HW.out]; exact Blk.new _ _ _
      obtain ⟨ge, hg⟩ : ∃ g, Hid (g = w16.heap.size) := ⟨_, rfl⟩; rw [← hg.out] at hB ⊢
      replace pa0 := cell_keep hb pa0
      replace pa1 := cell_keep hb pa1
      replace hxa := hxa.below hb
      replace pb0 := cell_keep hb pb0
      replace pb1 := cell_keep hb pb1
      replace hxb := hxb.below hb
      replace hbz := Below.tr hbz hb
      replace hge := hge.below hb
      have ge0 := hB.cell 0; have ge1 := hB.cell 1; simp only [List.getElem?_toArray, List.getElem?_cons_zero, List.getElem?_cons_succ] at ge0 ge1; clear HW hB hg hb; go_wp2_with fail; refine (BinC.sh rmul_F _ _ xa xb Et Xt _ hxa hxb HEt HXt).mono ?_; rintro e w18 ⟨Sgf, kgf, cgf, Rgf, mgf, dgf, rfl, hgf, hb⟩
      replace pa0 := cell_keep hb pa0
      replace pa1 := cell_keep hb pa1
      replace hxa := hxa.below hb
      replace pb0 := cell_keep hb pb0
      replace pb1 := cell_keep hb pb1
      replace hxb := hxb.below hb
      replace ge0 := cell_keep hb ge0
      replace ge1 := cell_keep hb ge1
      replace hge := hge.below hb
      replace hbz := Below.tr hbz hb
      clear hb; go_upto_region 25 with fail; refine wp_name ?_; intro w19 HW; have hb : Below w18.heap.size w18 w19 := by rw [HW.out]; exact bA _ _
      have hB : Blk w19 w18.heap.size 28 #[.slice Sgf kgf cgf, .slice Rgf mgf dgf] := by rw [HW.out]; exact Blk.new _ _ _
      obtain ⟨gf, hg⟩ : ∃ g, Hid (g = w18.heap.size) := ⟨_, rfl⟩; rw [← hg.out] at hB ⊢
      replace pa0 := cell_keep hb pa0
      replace pa1 := cell_keep hb pa1
      replace hxa := hxa.below hb
      replace pb0 := cell_keep hb pb0
      replace pb1 := cell_keep hb pb1
      replace hxb := hxb.below hb
      replace ge0 := cell_keep hb ge0
      replace ge1 := cell_keep hb ge1
      replace hge := hge.below hb
      replace hbz := Below.tr hbz hb
      replace hgf := hgf.below hb
      have gf0 := hB.cell 0; have gf1 := hB.cell 1; simp only [List.getElem?_toArray, List.getElem?_cons_zero, List.getElem?_cons_succ] at gf0 gf1; clear HW hB hg hb; obtain ⟨Ed, HEd⟩ : ∃ E, Hid ((divF xa xb).1 = E) := ⟨_, rfl⟩; obtain ⟨Xd, HXd⟩ : ∃ X, Hid ((divF xa xb).2 = X) := ⟨_, rfl⟩; go_wp2_with fail; refine (BinC.sh div_F _ _ xa xb Ed Xd _ hxa hxb HEd HXd).mono ?_; rintro e w20 ⟨Sgh, kgh, cgh, Rgh, mgh, dgh, rfl, hgh, hb⟩
      replace pa0 := cell_keep hb pa0
      replace pa1 := cell_keep hb pa1
      replace hxa := hxa.below hb
      replace pb0 := cell_keep hb pb0
      replace pb1 := cell_keep hb pb1
      replace hxb := hxb.below hb
      replace ge0 := cell_keep hb ge0
      replace ge1 := cell_keep hb ge1
      replace hge := hge.below hb
      replace gf0 := cell_keep hb gf0
      replace gf1 := cell_keep hb gf1
      replace hgf := hgf.below hb
      replace hbz := Below.tr hbz hb
      clear hb; go_upto_region 26 with fail; refine wp_name ?_; intro w21 HW; have hb : Below w20.heap.size w20 w21 := by rw [HW.out]; exact bA _ _
      have hB : Blk w21 w20.heap.size 28 #[.slice Sgh kgh cgh, .slice Rgh mgh dgh] := by rw [HW.out]; exact Blk.new _ _ _
      obtain ⟨gh, hg⟩ : ∃ g, Hid (g = w20.heap.size) := ⟨_, rfl⟩; rw [← hg.out] at hB ⊢
      replace pa0 := cell_keep hb pa0
      replace pa1 := cell_keep hb pa1
      replace hxa := hxa.below hb
      replace pb0 := cell_keep hb pb0
      replace pb1 := cell_keep hb pb1
      replace hxb := hxb.below hb
      replace ge0 := cell_keep hb ge0
      replace ge1 := cell_keep hb ge1
      replace hge := hge.below hb
      replace gf0 := cell_keep hb gf0
      replace gf1 := cell_keep hb gf1
      replace hgf := hgf.below hb
      replace hbz := Below.tr hbz hb
      replace hgh := hgh.below hb
      have gh0 := hB.cell 0; have gh1 := hB.cell 1; simp only [List.getElem?_toArray, List.getElem?_cons_zero, List.getElem?_cons_succ] at gh0 gh1; clear HW hB hg hb; go_wp2_with fail; refine (BinC.sh rdiv_F _ _ xa xb Ed Xd _ hxa hxb HEd HXd).mono ?_; rintro e w22 ⟨Sgi, kgi, cgi, Rgi, mgi, dgi, rfl, hgi, hb⟩
      replace pa0 := cell_keep hb pa0
      replace pa1 := cell_keep hb pa1
      replace hxa := hxa.below hb
      replace pb0 := cell_keep hb pb0
      replace pb1 := cell_keep hb pb1
      replace hxb := hxb.below hb
      replace ge0 := cell_keep hb ge0
      replace ge1 := cell_keep hb ge1
      replace hge := hge.below hb
      replace gf0 := cell_keep hb gf0
      replace gf1 := cell_keep hb gf1
      replace hgf := hgf.below hb
      replace gh0 := cell_keep hb gh0
      replace gh1 := cell_keep hb gh1
      replace hgh := hgh.below hb
      replace hbz := Below.tr hbz hb
      clear hb; go_upto_region 27 with fail; refine wp_name ?_; intro w23 HW; have hb : Below w22.heap.size w22 w23 := by rw [HW.out]; exact bA _ _
      have hB : Blk w23 w22.heap.size 28 #[.slice Sgi kgi cgi, .slice Rgi mgi dgi] := by rw [HW.out]; exact Blk.new _ _ _
      obtain ⟨gi, hg⟩ : ∃ g, Hid (g = w22.heap.size) := ⟨_, rfl⟩; rw [← hg.out] at hB ⊢
      replace pa0 := cell_keep hb pa0
      replace pa1 := cell_keep hb pa1
      replace hxa := hxa.below hb
      replace pb0 := cell_keep hb pb0
      replace pb1 := cell_keep hb pb1
      replace hxb := hxb.below hb
      replace ge0 := cell_keep hb ge0
      replace ge1 := cell_keep hb ge1
      replace hge := hge.below hb
      replace gf0 := cell_keep hb gf0
      replace gf1 := cell_keep hb gf1
      replace hgf := hgf.below hb
      replace gh0 := cell_keep hb gh0
      replace gh1 := cell_keep hb gh1
      replace hgh := hgh.below hb
      replace hbz := Below.tr hbz hb
      replace hgi := hgi.below hb
      have gi0 := hB.cell 0; have gi1 := hB.cell 1; simp only [List.getElem?_toArray, List.getElem?_cons_zero, List.getElem?_cons_succ] at gi0 gi1; clear HW hB hg hb; go_wp2_with fail; refine (rsame_P _ _ _ _ hge hgf).mono ?_; rintro e w24 ⟨rfl, hb⟩
      replace pa0 := cell_keep hb pa0
      replace pa1 := cell_keep hb pa1
      replace hxa := hxa.below hb
      replace pb0 := cell_keep hb pb0
      replace pb1 := cell_keep hb pb1
      replace hxb := hxb.below hb
      replace ge0 := cell_keep hb ge0
      replace ge1 := cell_keep hb ge1
      replace hge := hge.below hb
      replace gf0 := cell_keep hb gf0
      replace gf1 := cell_keep hb gf1
      replace hgf := hgf.below hb
      replace gh0 := cell_keep hb gh0
      replace gh1 := cell_keep hb gh1
      replace hgh := hgh.below hb
      replace gi0 := cell_keep hb gi0
      replace gi1 := cell_keep hb gi1
      replace hgi := hgi.below hb
      replace hbz := Below.tr hbz hb
      clear hb; clear ge0 ge1 hge gf0 gf1 hgf; go_wp2_with fail; refine (rsame_P _ _ _ _ hgh hgi).mono ?_; rintro e w25 ⟨rfl, hb⟩
      replace pa0 := cell_keep hb pa0
      replace pa1 := cell_keep hb pa1
      replace hxa := hxa.below hb
      replace pb0 := cell_keep hb pb0
      replace pb1 := cell_keep hb pb1
      replace hxb := hxb.below hb
      replace gh0 := cell_keep hb gh0
      replace gh1 := cell_keep hb gh1
      replace hgh := hgh.below hb
      replace gi0 := cell_keep hb gi0
      replace gi1 := cell_keep hb gi1
      replace hgi := hgi.below hb
      replace hbz := Below.tr hbz hb
      clear hb; clear gh0 gh1 hgh gi0 gi1 hgi; go_wp2_with fail
      go_roundg (G2 - 1)
      case measure => omega
      case rel => exact ⟨k + 1, by go_num, by omega, hbz⟩
     ·go_wp2_with fail
      go_roundg (G2 - 1)
      case measure => omega
      case rel => exact ⟨k + 1, by go_num, by omega, hbx⟩
    ·have t2 : decide ((k : Int) < 7) = false := by simp; omega
     go_wp2_with fail
     go_roundg (G - 1)
     case measure => omega
     case rel => exact ⟨i + 1, by go_num, by omega, hbx⟩
  ·have t1 : decide ((i : Int) < 7) = false := by simp; omega
   have hbw := Below.tr hbw hbo; go_wp2_with fail; refine (lives5_n _).mono ?_; rintro e w' ⟨rfl, hb⟩; go_wp2_with fail; go_ret; exact ⟨rfl, Below.tr hbw hb⟩
end Go.Proofs.YtmbfjmilhfmnkaaDoor
