import Derived.Test.YtmbfjmilhfmnkaaDoorKFldProof02
import Derived.Test.YtmbfjmilhfmnkaaDoorKFloProof02
import Derived.Test.YtmbfjmilhfmnkaaDoorKCntProof33
import Derived.Test.YtmbfjmilhfmnkaaDoorS0
set_option linter.unusedVariables false
set_option linter.unusedSimpArgs false
namespace Go.Proofs.YtmbfjmilhfmnkaaDoor
open Go Go.RowKit
theorem cmp_sh (va vb : Value) (a b : LP) (c : Int) (w : World) (ha : RtP w va a) (hb : RtP w vb b) (HV : Hid (validP a = 0 ∧ validP b = 0)) (HC : Hid (cmpV a b = c)) :
  Calls Tryd.prog 22 #[va, vb] w fun e w' => e = .returned (.tuple #[.int .i64 c, .int .i64 0]) ∧ Below w.heap.size w w' := by
 have h := cmp_F va vb a b w ha hb; rw [HC.out, HV.out.1, HV.out.2] at h; exact h
theorem psame_sh (va vb : Value) (a b : LP) (bb : Bool) (w : World) (ha : RtP w va a) (hb : RtP w vb b) (HB : Hid (decide (a = b) = bb)) :
  Calls Tryd.prog 38 #[va, vb] w fun e w' => e = .returned (.bool bb) ∧ Below w.heap.size w w' := by
 refine (psame_n va vb a.1 a.2 b.1 b.2 w ha hb).mono ?_; rintro e w' ⟨b', rfl, HB', h⟩; refine ⟨?_, h⟩; rw [HB'.out, ← HB.out]
 congr 2
 unfold sameR sameB; rw [← Bool.decide_and]; exact decide_eq_decide.2 ⟨fun h => Prod.ext h.1 h.2, fun h => by rw [h]; exact ⟨rfl, rfl⟩⟩
theorem of_f (n d : Nat) (w : World) (hn : n ≤ 9223372036854775807) (hd : 0 < d) (hd2 : d ≤ 9223372036854775807) :
  Calls Tryd.prog 13 #[.int .i64 n, .int .i64 d] w fun e w' => ∃ A k c A' k' c', e = .returned (.tuple #[.agg #[.slice A k c, .slice A' k' c'], .int .i64 0]) ∧ RtP w' (.agg #[.slice A k c, .slice A' k' c']) (redP n d) ∧ Below w.heap.size w w' := by
 refine (of_A n d w ⟨by omega, by omega⟩ ⟨by omega, by omega⟩).mono ?_; rintro e w' ⟨v, rfl, h, hb⟩; rw [ofX_ok hd] at h; rw [ofE_ok hd]; obtain ⟨A, k, c, A', k', c', rfl⟩ := h.shape; exact ⟨A, k, c, A', k', c', rfl, h, hb⟩
theorem rof_f (n d : Nat) (w : World) (hn : n ≤ 9223372036854775807) (hd : 0 < d) (hd2 : d ≤ 9223372036854775807) :
  Calls Tryd.prog 14 #[.int .i64 n, .int .i64 d] w fun e w' => ∃ A k c A' k' c', e = .returned (.tuple #[.agg #[.slice A k c, .slice A' k' c'], .int .i64 0]) ∧ RtP w' (.agg #[.slice A k c, .slice A' k' c']) (redP n d) ∧ Below w.heap.size w w' := by
 refine (rof_s n d w hn hd hd2).mono ?_; rintro e w' ⟨A, k, c, A', k', c', rfl, h, hb⟩; exact ⟨A, k, c, A', k', c', rfl, h.1.rtP, hb⟩
theorem rorder_sh (va vb : Value) (a b : LP) (c : Int) (w : World) (ha : RtP w va a) (hb : RtP w vb b) (HV : Hid (validP a = 0 ∧ validP b = 0)) (HC : Hid (cmpV a b = c)) :
  Calls Tryd.prog 64 #[va, vb] w fun e w' => e = .returned (.int .i64 c) ∧ Below w.heap.size w w' := by
 obtain ⟨pa, qa, rfl, ga, ra⟩ := ha.good HV.out.1; obtain ⟨pb, qb, rfl, gb, rb⟩ := hb.good HV.out.2; refine (rorder_n va vb pa qa pb qb w ra rb ga gb).mono ?_; rintro e w' ⟨cc, rfl, hc, hb⟩; refine ⟨?_, hb⟩; rw [hc, ← HC.out, cmpV_rat ga gb]
theorem floor_fr {x : LP} {n d : Nat} (h : Frac x n d) (hs : n / d < 9223372036854775808) : floorF x = (((n / d : Nat) : Int), 0) := by
 obtain ⟨a, b, g, rfl, gg, e1, e2, hg⟩ := h.parts; rw [floorF_rat gg]; have : n / d = a / b := by rw [e1, e2, Nat.mul_div_mul_right _ _ hg]
 rw [← this, if_pos hs]
theorem fr_red {n d : Nat} (h0 : 0 < d) (hn : n < 18446744073709551616) (hd : d < 18446744073709551616) : Frac (redP n d) n d := fr5 h0 hn hd
theorem cmpN_lt0 {x y : Nat} : decide (Nm.cmpN x y < 0) = decide (x < y) := by
 rw [decide_eq_decide]; unfold Nm.cmpN
 split <;> (try split) <;> omega
theorem cmpN_gt0 {x y : Nat} : decide (0 < Nm.cmpN x y) = decide (y < x) := by
 rw [decide_eq_decide]; unfold Nm.cmpN
 split <;> (try split) <;> omega
theorem cmpN_ge0 {x y : Nat} : decide (0 ≤ Nm.cmpN x y) = decide (y ≤ x) := by
 rw [decide_eq_decide]; unfold Nm.cmpN
 split <;> (try split) <;> omega
def Fit (p q : Nat) : Prop := p < 1048576 ∧ q ≤ 1048576
set_option maxRecDepth 100000 in
set_option maxHeartbeats 8000000 in
theorem least_n (va vb vx : Value) (pa qa pb qb NN D : Nat) (w : World) (ha : RtP w va (ratP pa qa)) (hb : RtP w vb (ratP pb qb)) (hx : RtP w vx (ratP NN D)) (ga : Nm.Good pa qa) (gb : Nm.Good pb qb) (g : Nm.Good NN D) (fa : Fit pa qa) (HL1 : Hid (pa * D ≤ NN * qa)) (HL2 : Hid (NN * qb ≤ pb * D)) (HLS : Hid (∀ m e, 0 < e → pa * e ≤ m * qa → m * qb ≤ pb * e → NN ≤ m ∧ D ≤ e)) :
  Calls Tryd.prog 39 #[va, vb, vx] w fun e w' => e = .returned (.bool true) ∧ Below w.heap.size w w' := by
 obtain ⟨A1, k1, c1, A2, k2, c2, rfl⟩ := ha.shape; obtain ⟨B1, m1, d1, B2, m2, d2, rfl⟩ := hb.shape; obtain ⟨X1, x1, y1, X2, x2, y2, rfl⟩ := hx.shape
 go_enter Tryd.func39, Tryd.ntmps39
 go_upto_region 2 with fail; refine wp_name ?_; intro w1 HW; have hbw : Below w.heap.size w w1 := by rw [HW.out]; exact Below.tr (Below.tr (bA _ _) (bA _ _)) (bA _ _)
 have hP1 : Blk w1 w.heap.size 28 #[.slice A1 k1 c1, .slice A2 k2 c2] := by rw [HW.out]; exact Blk.below (Blk.below (Blk.newG rfl) (bA _ _) (Blk.newG rfl).lt) (bA _ _) (by simp; omega)
 have hP2 : Blk w1 (w.heap.size + 1) 28 #[.slice B1 m1 d1, .slice B2 m2 d2] := by rw [HW.out]; exact Blk.below (Blk.newG (by simp)) (bA _ _) (by simp)
 have hP3 : Blk w1 (w.heap.size + 2) 28 #[.slice X1 x1 y1, .slice X2 x2 y2] := by rw [HW.out]; exact Blk.newG (by simp)
 obtain ⟨ba, hg1⟩ : ∃ g, Hid (g = w.heap.size) := ⟨_, rfl⟩; obtain ⟨bb, hg2⟩ : ∃ g, Hid (g = w.heap.size + 1) := ⟨_, rfl⟩; obtain ⟨bx, hg⟩ : ∃ g, Hid (g = w.heap.size + 2) := ⟨_, rfl⟩; rw [← hg.out] at hP3 ⊢; rw [← hg2.out] at hP2 ⊢; rw [← hg1.out] at hP1 ⊢; have hxa0 := ha.below hbw; have hxb0 := hb.below hbw; have hxx0 := hx.below hbw; have za0 := hP1.cell 0; have za1 := hP1.cell 1; have zb0 := hP2.cell 0; have zb1 := hP2.cell 1; have zx0 := hP3.cell 0; have zx1 := hP3.cell 1; simp only [List.getElem?_toArray, List.getElem?_cons_zero, List.getElem?_cons_succ] at za0 za1 zb0 zb1 zx0 zx1; have HBW := Lib.hid hbw; have hqa := ga.1; clear HW hg1 hg2 hg hP1 hP2 hP3 ha hb hx hbw
 go_loopg [7] 12 (fun j x wr => ∃ d : Nat, x = .int .i64 d ∧ d + j = 13 ∧ 1 ≤ d ∧ Hid (∀ e, 0 < e → e < d → ∀ m, pa * e ≤ m * qa → ¬ m * qb ≤ pb * e) ∧ Below w1.heap.size w1 wr)
 case atStart => exact ⟨1, rfl, by omega, by omega, fun e h1 h2 => by omega, Below.refl _ _⟩
 case round =>
  obtain ⟨G, hG⟩ : ∃ G, G = gk := ⟨gk, rfl⟩; subst hG; obtain ⟨d, rfl, hij, hd1, HNO, hbo⟩ := hrel; obtain ⟨wo, hwo⟩ : ∃ wo, wo = wr := ⟨_, rfl⟩; subst hwo; by_cases hi : d ≤ 12
  ·have t1 : decide ((d : Int) ≤ 12) = true := by simp; omega
   have hi7 : (d : Int) ≤ 12 := by omega
   have ba0 := cell_keep hbo za0; have ba1 := cell_keep hbo za1; have bb0 := cell_keep hbo zb0; have bb1 := cell_keep hbo zb1; have bx0 := cell_keep hbo zx0; have bx1 := cell_keep hbo zx1; have hxa := hxa0.below hbo; have hxb := hxb0.below hbo; have hxx := hxx0.below hbo; have hpd : pa * d ≤ 1048576 * 12 := Nat.mul_le_mul (Nat.le_of_lt fa.1) hi; have hq2 := fa.2
   have HM : Hid (mulF (ratP pa qa) (redP d 1) = (0, redP (pa * d) (qa * 1))) := by
    rw [show redP d 1 = ratP d 1 from redP_good (good5 (by omega) (by omega) (by omega) (Nat.gcd_one_right _))]; exact mul_fr ga (good5 (by omega) (by omega) (by omega) (Nat.gcd_one_right _)) (by omega) (by omega)
   obtain ⟨n, HN⟩ : ∃ n, Hid (n = pa * d / qa) := ⟨_, rfl⟩; have HNB : Hid (n ≤ 1048576 * 12) := by rw [HN.out]; exact Nat.le_trans (Nat.div_le_self _ _) hpd
   have HFL : Hid (floorF (redP (pa * d) (qa * 1)) = ((n : Int), 0)) := by
    have hlt : pa * d / (qa * 1) < 9223372036854775808 := Nat.lt_of_le_of_lt (Nat.div_le_self _ _) (by omega); have h := floor_fr (fr_red (n := pa * d) (d := qa * 1) (by omega) (by omega) (by omega)) hlt; rw [Nat.mul_one, ← HN.out] at h; rw [Nat.mul_one]; exact h
   obtain ⟨CE1, CE2, CE3⟩ := ceil_at (p := pa) (d := d) hqa (by omega) HN.out; have HV1 : Hid (validP (redP n d) = 0 ∧ validP (ratP pa qa) = 0) := ⟨(fr_red (by omega) (by have := HNB.out; omega) (by omega)).valid, valid_rat ga⟩; obtain ⟨o1, HO1⟩ : ∃ c, Hid (cmpV (redP n d) (ratP pa qa) = c) := ⟨_, rfl⟩; have e1 : decide (o1 < 0) = decide (n * qa < pa * d) := by rw [← HO1.out, (fr_red (by omega) (by have := HNB.out; omega) (by omega)).cmp (Frac.of_good ga), cmpN_lt0]
   have HC1 := Lib.hid CE1; have HC2 := Lib.hid CE2; have HC3 := Lib.hid CE3; clear CE1 CE2 CE3 hpd hq2; go_wp2_with fail; refine (rof_f d 1 _ (by omega) (by omega) (by omega)).mono ?_; rintro e w21 ⟨Szt, kzt, czt, Rzt, mzt, dzt, rfl, hzt, hb⟩
   replace ba0 := cell_keep hb ba0
   replace ba1 := cell_keep hb ba1
   replace hxa := hxa.below hb
   replace bb0 := cell_keep hb bb0
   replace bb1 := cell_keep hb bb1
   replace hxb := hxb.below hb
   replace bx0 := cell_keep hb bx0
   replace bx1 := cell_keep hb bx1
   replace hxx := hxx.below hb
   replace hbo := Below.tr hbo hb
   clear hb; go_upto_region 5 with fail; refine wp_name ?_; intro w22 HW; have hb : Below w21.heap.size w21 w22 := by rw [HW.out]; exact bA _ _
   have hB : Blk w22 w21.heap.size 28 #[.slice Szt kzt czt, .slice Rzt mzt dzt] := by rw [HW.out]; exact Blk.new _ _ _
   obtain ⟨zt, hg⟩ : ∃ g, Hid (g = w21.heap.size) := ⟨_, rfl⟩; rw [← hg.out] at hB ⊢
   replace ba0 := cell_keep hb ba0
   replace ba1 := cell_keep hb ba1
   replace hxa := hxa.below hb
   replace bb0 := cell_keep hb bb0
   replace bb1 := cell_keep hb bb1
   replace hxb := hxb.below hb
   replace bx0 := cell_keep hb bx0
   replace bx1 := cell_keep hb bx1
   replace hxx := hxx.below hb
   replace hbo := Below.tr hbo hb
   replace hzt := hzt.below hb
   have zt0 := hB.cell 0; have zt1 := hB.cell 1; simp only [List.getElem?_toArray, List.getElem?_cons_zero, List.getElem?_cons_succ] at zt0 zt1; clear HW hB hg hb; go_wp2_with fail; refine (BinC.sh rmul_F _ _ _ _ 0 (redP (pa * d) (qa * 1)) _ hxa hzt (congrArg Prod.fst HM.out) (congrArg Prod.snd HM.out)).mono ?_; rintro e w23 ⟨Szy, kzy, czy, Rzy, mzy, dzy, rfl, hzy, hb⟩
   replace ba0 := cell_keep hb ba0
   replace ba1 := cell_keep hb ba1
   replace hxa := hxa.below hb
   replace bb0 := cell_keep hb bb0
   replace bb1 := cell_keep hb bb1
   replace hxb := hxb.below hb
   replace bx0 := cell_keep hb bx0
   replace bx1 := cell_keep hb bx1
   replace hxx := hxx.below hb
   replace zt0 := cell_keep hb zt0
   replace zt1 := cell_keep hb zt1
   replace hzt := hzt.below hb
   replace hbo := Below.tr hbo hb
   clear hb; go_upto_region 6 with fail; refine wp_name ?_; intro w24 HW; have hb : Below w23.heap.size w23 w24 := by rw [HW.out]; exact bA _ _
   have hB : Blk w24 w23.heap.size 28 #[.slice Szy kzy czy, .slice Rzy mzy dzy] := by rw [HW.out]; exact Blk.new _ _ _
   obtain ⟨zy, hg⟩ : ∃ g, Hid (g = w23.heap.size) := ⟨_, rfl⟩; rw [← hg.out] at hB ⊢
   replace ba0 := cell_keep hb ba0
   replace ba1 := cell_keep hb ba1
   replace hxa := hxa.below hb
   replace bb0 := cell_keep hb bb0
   replace bb1 := cell_keep hb bb1
   replace hxb := hxb.below hb
   replace bx0 := cell_keep hb bx0
   replace bx1 := cell_keep hb bx1
   replace hxx := hxx.below hb
   replace zt0 := cell_keep hb zt0
   replace zt1 := cell_keep hb zt1
   replace hzt := hzt.below hb
   replace hbo := Below.tr hbo hb
   replace hzy := hzy.below hb
   have zy0 := hB.cell 0; have zy1 := hB.cell 1; simp only [List.getElem?_toArray, List.getElem?_cons_zero, List.getElem?_cons_succ] at zy0 zy1; clear HW hB hg hb; clear zt0 zt1 hzt; go_wp2_with fail; refine (floor_sh rfloor_F _ _ (n : Int) 0 _ hzy HFL).mono ?_; rintro e w25 ⟨rfl, hb⟩
   replace ba0 := cell_keep hb ba0
   replace ba1 := cell_keep hb ba1
   replace hxa := hxa.below hb
   replace bb0 := cell_keep hb bb0
   replace bb1 := cell_keep hb bb1
   replace hxb := hxb.below hb
   replace bx0 := cell_keep hb bx0
   replace bx1 := cell_keep hb bx1
   replace hxx := hxx.below hb
   replace zy0 := cell_keep hb zy0
   replace zy1 := cell_keep hb zy1
   replace hzy := hzy.below hb
   replace hbo := Below.tr hbo hb
   clear hb; clear zy0 zy1 hzy; go_wp2_with fail; refine (rof_f n d _ (by have := HNB.out; omega) (by omega) (by omega)).mono ?_; rintro e w26 ⟨Szz, kzz, czz, Rzz, mzz, dzz, rfl, hzz, hb⟩
   replace ba0 := cell_keep hb ba0
   replace ba1 := cell_keep hb ba1
   replace hxa := hxa.below hb
   replace bb0 := cell_keep hb bb0
   replace bb1 := cell_keep hb bb1
   replace hxb := hxb.below hb
   replace bx0 := cell_keep hb bx0
   replace bx1 := cell_keep hb bx1
   replace hxx := hxx.below hb
   replace hbo := Below.tr hbo hb
   clear hb; go_upto_region 8 with fail; refine wp_name ?_; intro w27 HW; have hb : Below w26.heap.size w26 w27 := by rw [HW.out]; exact bA _ _
   have hB : Blk w27 w26.heap.size 28 #[.slice Szz kzz czz, .slice Rzz mzz dzz] := by rw [HW.out]; exact Blk.new _ _ _
   obtain ⟨zz, hg⟩ : ∃ g, Hid (g = w26.heap.size) := ⟨_, rfl⟩; rw [← hg.out] at hB ⊢; have hnea : ba ≠ zz := by have := cell_lt ba0; have := hg.out; dsimp only at *; omega
   have hneb : bb ≠ zz := by have := cell_lt bb0; have := hg.out; dsimp only at *; omega
   have hnex : bx ≠ zz := by have := cell_lt bx0; have := hg.out; dsimp only at *; omega
   have hsz : w1.heap.size ≤ zz := by rw [hg.out]; exact hbo.size
   replace ba0 := cell_keep hb ba0
   replace ba1 := cell_keep hb ba1
   replace hxa := hxa.below hb
   replace bb0 := cell_keep hb bb0
   replace bb1 := cell_keep hb bb1
   replace hxb := hxb.below hb
   replace bx0 := cell_keep hb bx0
   replace bx1 := cell_keep hb bx1
   replace hxx := hxx.below hb
   replace hbo := Below.tr hbo hb
   replace hzz := hzz.below hb
   have zz0 := hB.cell 0; have zz1 := hB.cell 1; simp only [List.getElem?_toArray, List.getElem?_cons_zero, List.getElem?_cons_succ] at zz0 zz1; have hBzz := hB; clear HW hB hg hb; go_wp2_with fail; refine (rorder_sh _ _ _ _ o1 _ hzz hxa HV1 HO1).mono ?_; rintro e w28 ⟨rfl, hb⟩
   replace ba0 := cell_keep hb ba0
   replace ba1 := cell_keep hb ba1
   replace hxa := hxa.below hb
   replace bb0 := cell_keep hb bb0
   replace bb1 := cell_keep hb bb1
   replace hxb := hxb.below hb
   replace bx0 := cell_keep hb bx0
   replace bx1 := cell_keep hb bx1
   replace hxx := hxx.below hb
   replace zz0 := cell_keep hb zz0
   replace zz1 := cell_keep hb zz1
   replace hzz := hzz.below hb
   replace hBzz := hBzz.below hb hBzz.lt
   replace hbo := Below.tr hbo hb
   clear hb; by_cases hlow : n * qa < pa * d
   ·have t2 : decide (o1 < 0) = true := by rw [e1]; exact decide_eq_true hlow
    have hLOW : Hid (pa * d ≤ (n + 1) * qa) := Nat.le_of_lt HC3.out; have hMIN := Lib.hid (HC1.out hlow); have t4 : IntKind.i64.wrap ((n : Int) + 1) = ((n + 1 : Nat) : Int) := by rw [IntWalk.i64_in _ (by have := HNB.out; omega)]; rfl
    clear e1 hlow hzz; go_wp2_with fail; refine (rof_f (n + 1) d _ (by have := HNB.out; omega) (by omega) (by omega)).mono ?_; rintro e x ⟨A, k', c, A', k'', c', rfl, hL, hb⟩; have f1 := (hBzz.below hb hBzz.lt).frozen 0; have f2 := (hBzz.below hb hBzz.lt).frozen 1
    replace zz0 := cell_keep hb zz0
    replace zz1 := cell_keep hb zz1
    replace ba0 := cell_keep hb ba0
    replace ba1 := cell_keep hb ba1
    replace bb0 := cell_keep hb bb0
    replace bb1 := cell_keep hb bb1
    replace bx0 := cell_keep hb bx0
    replace bx1 := cell_keep hb bx1
    replace hxa := hxa.below hb
    replace hxb := hxb.below hb
    replace hxx := hxx.below hb
    replace hbo := Below.tr hbo hb
    replace hBzz := hBzz.below hb hBzz.lt
    clear hb; go_upto_region 10 with fail; refine wp_name ?_; intro y HW; have hK : Kp w1.heap.size zz x y := by rw [HW.out]; exact Kp.store hBzz ⟨_, _, _, _, _, _, hBzz⟩ hsz A k' c A' k'' c'
    have hB2 : Blk y zz 28 #[.slice A k' c, .slice A' k'' c'] := by rw [HW.out]; exact (hBzz.set_ 0 (.slice A k' c)).set_ 1 (.slice A' k'' c')
    replace ba0 := hK.cell _ _ _ hnea ba0
    replace ba1 := hK.cell _ _ _ hnea ba1
    replace bb0 := hK.cell _ _ _ hneb bb0
    replace bb1 := hK.cell _ _ _ hneb bb1
    replace bx0 := hK.cell _ _ _ hnex bx0
    replace bx1 := hK.cell _ _ _ hnex bx1
    replace hxa := hxa.mapL hK.lim
    replace hxb := hxb.mapL hK.lim
    replace hxx := hxx.mapL hK.lim
    have hzz := hL.mapL hK.lim
    replace hbo := Below.tr' hbo hK.be
    have zz0 := hB2.cell 0; have zz1 := hB2.cell 1; simp only [List.getElem?_toArray, List.getElem?_cons_zero, List.getElem?_cons_succ] at zz0 zz1; clear hK hB2 hBzz hL f1 f2 HW; obtain ⟨o2, HO2⟩ : ∃ c, Hid (cmpV (redP (n + 1) d) (ratP pb qb) = c) := ⟨_, rfl⟩; have HV2 : Hid (validP (redP (n + 1) d) = 0 ∧ validP (ratP pb qb) = 0) := ⟨(fr_red (n := n + 1) (by omega) (by have := HNB.out; omega) (by omega)).valid, valid_rat gb⟩; have e2 : decide (0 < o2) = decide (pb * d < (n + 1) * qb) := by rw [← HO2.out, (fr_red (n := n + 1) (by omega) (by have := HNB.out; omega) (by omega)).cmp (Frac.of_good gb), cmpN_gt0]
    go_wp2_with fail; refine (rorder_sh _ _ _ _ o2 _ hzz hxb HV2 HO2).mono ?_; rintro e w71 ⟨rfl, hb⟩
    replace ba0 := cell_keep hb ba0
    replace ba1 := cell_keep hb ba1
    replace hxa := hxa.below hb
    replace bb0 := cell_keep hb bb0
    replace bb1 := cell_keep hb bb1
    replace hxb := hxb.below hb
    replace bx0 := cell_keep hb bx0
    replace bx1 := cell_keep hb bx1
    replace hxx := hxx.below hb
    replace zz0 := cell_keep hb zz0
    replace zz1 := cell_keep hb zz1
    replace hzz := hzz.below hb
    replace hbo := Below.tr hbo hb
    clear hb; by_cases hc : pb * d < (n + 1) * qb
    ·have t3 : decide (0 < o2) = true := by rw [e2]; exact decide_eq_true hc
     have HNO2 : Hid (∀ e, 0 < e → e < d + 1 → ∀ m, pa * e ≤ m * qa → ¬ m * qb ≤ pb * e) := by
      intro e h1 h2 m h3 h4; by_cases hed : e = d
      ·subst hed; have h5 := hMIN.out m h3; have h6 := Nat.mul_le_mul_right qb h5; omega
      ·exact HNO.out e h1 (by omega) m h3 h4
     clear hc e2; go_wp2_with fail
     go_roundg (G - 1)
     case measure => omega
     case rel => exact ⟨d + 1, by go_num, by omega, by omega, HNO2, hbo⟩
    ·have t3 : decide (0 < o2) = false := by rw [e2]; exact decide_eq_false hc
     have hEQ : redP (n + 1) d = ratP NN D := least_eq g (by omega) HL1.out HL2.out HLS hLOW.out (by omega) hMIN.out HNO.out; rw [hEQ] at hzz; clear hc e2 hEQ; go_wp2_with fail; refine (rsame_P _ _ _ _ hzz hxx).mono ?_; rintro e w9 ⟨rfl, hb9⟩; have hbz := Below.tr (Below.tr HBW.out hbo) hb9; go_wp2_with fail; go_ret; exact ⟨rfl, hbz⟩
   ·have t2 : decide (o1 < 0) = false := by rw [e1]; exact decide_eq_false hlow
    have hEQn : n * qa = pa * d := HC2.out hlow; have hLOW : Hid (pa * d ≤ n * qa) := Nat.le_of_eq hEQn.symm; have hMIN : Hid (∀ m, pa * d ≤ m * qa → n ≤ m) := fun m hm => Nat.le_of_mul_le_mul_right (by rw [hEQn]; exact hm) hqa
    clear e1 hlow hEQn; obtain ⟨o2, HO2⟩ : ∃ c, Hid (cmpV (redP (n) d) (ratP pb qb) = c) := ⟨_, rfl⟩; have HV2 : Hid (validP (redP (n) d) = 0 ∧ validP (ratP pb qb) = 0) := ⟨(fr_red (n := n) (by omega) (by have := HNB.out; omega) (by omega)).valid, valid_rat gb⟩; have e2 : decide (0 < o2) = decide (pb * d < (n) * qb) := by rw [← HO2.out, (fr_red (n := n) (by omega) (by have := HNB.out; omega) (by omega)).cmp (Frac.of_good gb), cmpN_gt0]
    go_wp2_with fail; refine (rorder_sh _ _ _ _ o2 _ hzz hxb HV2 HO2).mono ?_; rintro e w71 ⟨rfl, hb⟩
    replace ba0 := cell_keep hb ba0
    replace ba1 := cell_keep hb ba1
    replace hxa := hxa.below hb
    replace bb0 := cell_keep hb bb0
    replace bb1 := cell_keep hb bb1
    replace hxb := hxb.below hb
    replace bx0 := cell_keep hb bx0
    replace bx1 := cell_keep hb bx1
    replace hxx := hxx.below hb
    replace zz0 := cell_keep hb zz0
    replace zz1 := cell_keep hb zz1
    replace hzz := hzz.below hb
    replace hbo := Below.tr hbo hb
    clear hb; by_cases hc : pb * d < (n) * qb
    ·have t3 : decide (0 < o2) = true := by rw [e2]; exact decide_eq_true hc
     have HNO2 : Hid (∀ e, 0 < e → e < d + 1 → ∀ m, pa * e ≤ m * qa → ¬ m * qb ≤ pb * e) := by
      intro e h1 h2 m h3 h4; by_cases hed : e = d
      ·subst hed; have h5 := hMIN.out m h3; have h6 := Nat.mul_le_mul_right qb h5; omega
      ·exact HNO.out e h1 (by omega) m h3 h4
     clear hc e2; go_wp2_with fail
     go_roundg (G - 1)
     case measure => omega
     case rel => exact ⟨d + 1, by go_num, by omega, by omega, HNO2, hbo⟩
    ·have t3 : decide (0 < o2) = false := by rw [e2]; exact decide_eq_false hc
     have hEQ : redP (n) d = ratP NN D := least_eq g (by omega) HL1.out HL2.out HLS hLOW.out (by omega) hMIN.out HNO.out; rw [hEQ] at hzz; clear hc e2 hEQ; go_wp2_with fail; refine (rsame_P _ _ _ _ hzz hxx).mono ?_; rintro e w9 ⟨rfl, hb9⟩; have hbz := Below.tr (Below.tr HBW.out hbo) hb9; go_wp2_with fail; go_ret; exact ⟨rfl, hbz⟩
  ·have t1 : decide ((d : Int) ≤ 12) = false := by simp; omega
   have hbz := Below.tr HBW.out hbo; go_wp2_with fail; go_ret; exact ⟨rfl, hbz⟩
end Go.Proofs.YtmbfjmilhfmnkaaDoor
namespace Go.Proofs.YtmbfjmilhfmnkaaDoor
open Go Go.RowKit
theorem ord_facts {pa qa pb qb pc qc : Nat} {o : Int} (ga : Nm.Good pa qa) (gb : Nm.Good pb qb) (gc : Nm.Good pc qc) (HBa : Hid (pa < 1048576 ∧ qa ≤ 1048576)) (HBb : Hid (pb < 1048576 ∧ qb ≤ 1048576)) (HBc : Hid (pc ≤ qc ∧ qc ≤ 24)) (HO : Hid (o = Nm.cmpN (pa * qb) (pb * qa))) :
  ∃ (Eg : Int) (_ : Hid (validP (redP (pa * qc + pc * qa) (qa * qc)) = 0 ∧ validP (redP (pb * qc + pc * qb) (qb * qc)) = 0)) (_ : Hid (validP (redP (pa * pc) (qa * qc)) = 0 ∧ validP (redP (pb * pc) (qb * qc)) = 0)) (S : Int), Hid (cmpV (ratP pa qa) (ratP pb qb) = o) ∧ Hid (cmpV (ratP pb qb) (ratP pa qa) = -o) ∧ Hid ((subF (ratP pa qa) (ratP pb qb)).1 = Eg) ∧
   Hid (addF (ratP pa qa) (ratP pc qc) = (0, redP (pa * qc + pc * qa) (qa * qc))) ∧ Hid (addF (ratP pb qb) (ratP pc qc) = (0, redP (pb * qc + pc * qb) (qb * qc))) ∧ Hid (cmpV (redP (pa * qc + pc * qa) (qa * qc)) (redP (pb * qc + pc * qb) (qb * qc)) = o) ∧
   Hid (mulF (ratP pa qa) (ratP pc qc) = (0, redP (pa * pc) (qa * qc))) ∧ Hid (mulF (ratP pb qb) (ratP pc qc) = (0, redP (pb * pc) (qb * qc))) ∧ Hid (cmpV (redP (pa * pc) (qa * qc)) (redP (pb * pc) (qb * qc)) = S) ∧ Hid ((pc = 0 → S = 0) ∧ (pc ≠ 0 → S = o)) := by
 obtain ⟨a1, a2⟩ := HBa.out; obtain ⟨b1, b2⟩ := HBb.out; obtain ⟨c1, c2⟩ := HBc.out; have hqa := ga.1; have hqb := gb.1; have hqc := gc.1; have m1 : pa * qc ≤ 1048576 * 24 := Nat.mul_le_mul (by omega) (by omega); have m2 : pc * qa ≤ 24 * 1048576 := Nat.mul_le_mul (by omega) (by omega); have m3 : pb * qc ≤ 1048576 * 24 := Nat.mul_le_mul (by omega) (by omega); have m4 : pc * qb ≤ 24 * 1048576 := Nat.mul_le_mul (by omega) (by omega); have m5 : qa * qc ≤ 1048576 * 24 := Nat.mul_le_mul (by omega) (by omega); have m6 : qb * qc ≤ 1048576 * 24 := Nat.mul_le_mul (by omega) (by omega); have m7 : pa * pc ≤ 1048576 * 24 := Nat.mul_le_mul (by omega) (by omega); have m8 : pb * pc ≤ 1048576 * 24 := Nat.mul_le_mul (by omega) (by omega); have m9 : pa * qb ≤ 1048576 * 1048576 := Nat.mul_le_mul (by omega) (by omega); have m0 : qa * qb ≤ 1048576 * 1048576 := Nat.mul_le_mul (by omega) (by omega); have p1 := Nat.mul_pos hqa hqc; have p2 := Nat.mul_pos hqb hqc; have F1 := fr_red (n := pa * qc + pc * qa) p1 (by omega) (by omega); have F2 := fr_red (n := pb * qc + pc * qb) p2 (by omega) (by omega); have F3 := fr_red (n := pa * pc) p1 (by omega) (by omega); have F4 := fr_red (n := pb * pc) p2 (by omega) (by omega); refine ⟨_, ⟨F1.valid, F2.valid⟩, ⟨F3.valid, F4.valid⟩, _, ?_, ?_, rfl, add_fr ga gc (by omega) (by omega), add_fr gb gc (by omega) (by omega), ?_, mul_fr ga gc (by omega) (by omega), mul_fr gb gc (by omega) (by omega), rfl, ?_⟩
 ·show _ = _
  rw [cmpV_rat ga gb, HO.out]
 ·show _ = _
  rw [cmpV_rat gb ga, HO.out, cmpN_neg]
 ·show _ = _
  rw [F1.cmp F2, ord_sums hqc, HO.out]
 ·rw [F3.cmp F4, ord_times hqc, HO.out]; exact ⟨fun h => if_pos h, fun h => if_neg h⟩
theorem ord_sub {pa qa pb qb : Nat} {o Eg : Int} (ga : Nm.Good pa qa) (gb : Nm.Good pb qb) (HBa : Hid (pa < 1048576 ∧ qa ≤ 1048576)) (HBb : Hid (pb < 1048576 ∧ qb ≤ 1048576)) (HO : Hid (o = Nm.cmpN (pa * qb) (pb * qa))) (HE : Hid ((subF (ratP pa qa) (ratP pb qb)).1 = Eg)) : Hid (Eg = if 0 ≤ o then 0 else 5) := by
 obtain ⟨a1, a2⟩ := HBa.out; obtain ⟨b1, b2⟩ := HBb.out; have m9 : pa * qb ≤ 1048576 * 1048576 := Nat.mul_le_mul (by omega) (by omega); have m0 : qa * qb ≤ 1048576 * 1048576 := Nat.mul_le_mul (by omega) (by omega)
 show _ = _
 rw [← HE.out, sub_fr ga gb (by omega) (by omega), HO.out]
theorem ord_floor {pa qa : Nat} (ga : Nm.Good pa qa) (HBa : Hid (pa < 1048576 ∧ qa ≤ 1048576)) : ∃ fl : Nat, Hid (fl = pa / qa) ∧ Hid (fl < 1048576) ∧ Hid (floorF (ratP pa qa) = ((fl : Int), 0)) ∧
  Hid (Hid (validP (redP fl 1) = 0 ∧ validP (ratP pa qa) = 0) ∧ decide (0 < cmpV (redP fl 1) (ratP pa qa)) = false) ∧ Hid (Hid (validP (ratP pa qa) = 0 ∧ validP (redP (fl + 1) 1) = 0) ∧ decide (0 ≤ cmpV (ratP pa qa) (redP (fl + 1) 1)) = false) := by
 obtain ⟨a1, a2⟩ := HBa.out; have hqa := ga.1; have hs : pa / qa < 1048576 := Nat.lt_of_le_of_lt (Nat.div_le_self _ _) a1; have F1 := fr_red (n := pa / qa) (d := 1) (by omega) (by omega) (by omega); have F2 := fr_red (n := pa / qa + 1) (d := 1) (by omega) (by omega) (by omega); have h1 := Nat.div_mul_le_self pa qa; have h2 := Nat.lt_div_mul_add hqa (a := pa); refine ⟨pa / qa, rfl, hs, ?_, ⟨⟨F1.valid, valid_rat ga⟩, ?_⟩, ⟨⟨valid_rat ga, F2.valid⟩, ?_⟩⟩
 ·show _ = _
  rw [floorF_rat ga, if_pos (by omega)]
 ·rw [F1.cmp (Frac.of_good ga), cmpN_gt0]; exact decide_eq_false (by omega)
 ·rw [(Frac.of_good ga).cmp F2, cmpN_ge0]; refine decide_eq_false ?_; rw [Nat.add_mul]; omega
set_option maxRecDepth 100000 in
set_option maxHeartbeats 16000000 in
theorem ratio_order_n (n m k d : Int) (w : World) (hin : isI64 n) (him : isI64 m) (hik : isI64 k) (hid : isI64 d) :
  Calls Tryd.prog 8 #[.int .i64 n, .int .i64 m, .int .i64 k, .int .i64 d] w fun e w' => e = .returned (.bool true) ∧ Below w.heap.size w w' := by
 have HIN := Lib.hid hin; have HIM := Lib.hid him; have HIK := Lib.hid hik; have HID := Lib.hid hid; clear hin him hik hid; have hbw := Below.refl w.heap.size w
 go_enter Tryd.func8, Tryd.ntmps8
 go_wp2_with fail; refine (rmade_b n m _ HIN.out HIM.out).mono ?_; rintro e w1 ⟨Sza, kza, cza, Rza, mza, dza, pa, qa, rfl, hza, ga, HBa, hb⟩
 replace hbw := Below.tr hbw hb
 clear hb; go_upto_region 2 with fail; refine wp_name ?_; intro w2 HW; have hb : Below w1.heap.size w1 w2 := by rw [HW.out]; exact bA _ _
 have hB : Blk w2 w1.heap.size 28 #[.slice Sza kza cza, .slice Rza mza dza] := by rw [HW.out]; exact Blk.new _ _ _
 obtain ⟨za, hg⟩ : ∃ g, Hid (g = w1.heap.size) := ⟨_, rfl⟩; rw [← hg.out] at hB ⊢; have hsza : w.heap.size ≤ za := by rw [hg.out]; exact hbw.size
 replace hbw := Below.tr hbw hb
 replace hza := hza.below hb
 have za0 := hB.cell 0; have za1 := hB.cell 1; simp only [List.getElem?_toArray, List.getElem?_cons_zero, List.getElem?_cons_succ] at za0 za1; have hBza := hB; clear HW hB hg hb; go_wp2_with fail; refine (rmade_b k d _ HIK.out HID.out).mono ?_; rintro e w3 ⟨Szb, kzb, czb, Rzb, mzb, dzb, pb, qb, rfl, hzb, gb, HBb, hb⟩
 replace za0 := cell_keep hb za0
 replace za1 := cell_keep hb za1
 replace hza := hza.below hb
 replace hBza := hBza.below hb hBza.lt
 replace hbw := Below.tr hbw hb
 clear hb; go_upto_region 3 with fail; refine wp_name ?_; intro w4 HW; have hb : Below w3.heap.size w3 w4 := by rw [HW.out]; exact bA _ _
 have hB : Blk w4 w3.heap.size 28 #[.slice Szb kzb czb, .slice Rzb mzb dzb] := by rw [HW.out]; exact Blk.new _ _ _
 obtain ⟨zb, hg⟩ : ∃ g, Hid (g = w3.heap.size) := ⟨_, rfl⟩; rw [← hg.out] at hB ⊢; have hne_zb_za : zb ≠ za := by have := cell_lt za0; have := hg.out; dsimp only at *; omega
 have hszb : w.heap.size ≤ zb := by rw [hg.out]; exact hbw.size
 replace za0 := cell_keep hb za0
 replace za1 := cell_keep hb za1
 replace hza := hza.below hb
 replace hBza := hBza.below hb hBza.lt
 replace hbw := Below.tr hbw hb
 replace hzb := hzb.below hb
 have zb0 := hB.cell 0; have zb1 := hB.cell 1; simp only [List.getElem?_toArray, List.getElem?_cons_zero, List.getElem?_cons_succ] at zb0 zb1; have hBzb := hB; clear HW hB hg hb; go_wp2_with fail; refine (rpart_b m k _ HIM.out HIK.out).mono ?_; rintro e w5 ⟨Szc, kzc, czc, Rzc, mzc, dzc, pc, qc, rfl, hzc, gc, HBc, hb⟩
 replace za0 := cell_keep hb za0
 replace za1 := cell_keep hb za1
 replace hza := hza.below hb
 replace zb0 := cell_keep hb zb0
 replace zb1 := cell_keep hb zb1
 replace hzb := hzb.below hb
 replace hBza := hBza.below hb hBza.lt
 replace hBzb := hBzb.below hb hBzb.lt
 replace hbw := Below.tr hbw hb
 clear hb; go_upto_region 4 with fail; refine wp_name ?_; intro w6 HW; have hb : Below w5.heap.size w5 w6 := by rw [HW.out]; exact bA _ _
 have hB : Blk w6 w5.heap.size 28 #[.slice Szc kzc czc, .slice Rzc mzc dzc] := by rw [HW.out]; exact Blk.new _ _ _
 obtain ⟨zc, hg⟩ : ∃ g, Hid (g = w5.heap.size) := ⟨_, rfl⟩; rw [← hg.out] at hB ⊢
 replace za0 := cell_keep hb za0
 replace za1 := cell_keep hb za1
 replace hza := hza.below hb
 replace zb0 := cell_keep hb zb0
 replace zb1 := cell_keep hb zb1
 replace hzb := hzb.below hb
 replace hBza := hBza.below hb hBza.lt
 replace hBzb := hBzb.below hb hBzb.lt
 replace hbw := Below.tr hbw hb
 replace hzc := hzc.below hb
 have zc0 := hB.cell 0; have zc1 := hB.cell 1; simp only [List.getElem?_toArray, List.getElem?_cons_zero, List.getElem?_cons_succ] at zc0 zc1; clear HW hB hg hb; obtain ⟨o, HO⟩ : ∃ o, Hid (o = Nm.cmpN (pa * qb) (pb * qa)) := ⟨_, rfl⟩; obtain ⟨Eg, Xs1, Xs2, S, HCab, HCba, HEg, HAac, HAbc, HCs, HMac, HMbc, HCm, HS⟩ := ord_facts ga gb gc HBa HBb HBc HO; obtain ⟨fl, HFL, HFLs, HF, HCf1, HCf2⟩ := ord_floor ga HBa; have HVab : Hid (validP (ratP pa qa) = 0 ∧ validP (ratP pb qb) = 0) := ⟨valid_rat ga, valid_rat gb⟩; have HVba : Hid (validP (ratP pb qb) = 0 ∧ validP (ratP pa qa) = 0) := ⟨valid_rat gb, valid_rat ga⟩; have to1 : IntKind.i64.wrap (-o) = -o := by rw [IntWalk.i64_in _ (by have := HO.out; unfold Nm.cmpN at this; split at this <;> (try split at this) <;> omega)]
 obtain ⟨bo, hbo⟩ : ∃ b, b = decide (0 ≤ o) := ⟨_, rfl⟩; have to2 : decide (0 ≤ o) = bo := hbo.symm; have to3 : (Eg == 0) = bo := by rw [hbo, (ord_sub ga gb HBa HBb HO HEg).out]; by_cases h : 0 ≤ o <;> simp [h]
 obtain ⟨bz, hbz⟩ : ∃ b, b = decide (o = 0) := ⟨_, rfl⟩; have to4 : (o == 0) = bz := by rw [hbz]; rfl
 have HSZ : Hid (decide (ratP pa qa = ratP pb qb) = bz) := by show _ = _; rw [hbz, decide_eq_decide, rat_inj ga gb, HO.out, cmpN_zero]
 clear hbo hbz; have HEGv := HEg; clear HEg; go_wp2_with fail; refine (cmp_sh _ _ (ratP pa qa) (ratP pb qb) o _ hza hzb HVab HCab).mono ?_; rintro e w7 ⟨rfl, hb⟩
 replace za0 := cell_keep hb za0
 replace za1 := cell_keep hb za1
 replace hza := hza.below hb
 replace zb0 := cell_keep hb zb0
 replace zb1 := cell_keep hb zb1
 replace hzb := hzb.below hb
 replace zc0 := cell_keep hb zc0
 replace zc1 := cell_keep hb zc1
 replace hzc := hzc.below hb
 replace hBza := hBza.below hb hBza.lt
 replace hBzb := hBzb.below hb hBzb.lt
 replace hbw := Below.tr hbw hb
 clear hb; go_wp2_with fail; refine (cmp_sh _ _ (ratP pb qb) (ratP pa qa) (-o) _ hzb hza HVba HCba).mono ?_; rintro e w8 ⟨rfl, hb⟩
 replace za0 := cell_keep hb za0
 replace za1 := cell_keep hb za1
 replace hza := hza.below hb
 replace zb0 := cell_keep hb zb0
 replace zb1 := cell_keep hb zb1
 replace hzb := hzb.below hb
 replace zc0 := cell_keep hb zc0
 replace zc1 := cell_keep hb zc1
 replace hzc := hzc.below hb
 replace hBza := hBza.below hb hBza.lt
 replace hBzb := hBzb.below hb hBzb.lt
 replace hbw := Below.tr hbw hb
 clear hb; obtain ⟨Xg, HXg⟩ : ∃ X, Hid ((subF (ratP pa qa) (ratP pb qb)).2 = X) := ⟨_, rfl⟩; go_wp2_with fail; refine (BinC.sh sub_F _ _ _ _ Eg Xg _ hza hzb HEGv HXg).mono ?_; rintro e w9 ⟨Szg, kzg, czg, Rzg, mzg, dzg, rfl, hzg, hb⟩
 replace za0 := cell_keep hb za0
 replace za1 := cell_keep hb za1
 replace hza := hza.below hb
 replace zb0 := cell_keep hb zb0
 replace zb1 := cell_keep hb zb1
 replace hzb := hzb.below hb
 replace zc0 := cell_keep hb zc0
 replace zc1 := cell_keep hb zc1
 replace hzc := hzc.below hb
 replace hBza := hBza.below hb hBza.lt
 replace hBzb := hBzb.below hb hBzb.lt
 replace hbw := Below.tr hbw hb
 clear hb; go_upto_region 7 with fail; refine wp_name ?_; intro w10 HW; have hb : Below w9.heap.size w9 w10 := by rw [HW.out]; exact bA _ _
 have hB : Blk w10 w9.heap.size 28 #[.slice Szg kzg czg, .slice Rzg mzg dzg] := by rw [HW.out]; exact Blk.new _ _ _
 obtain ⟨zg, hg⟩ : ∃ g, Hid (g = w9.heap.size) := ⟨_, rfl⟩; rw [← hg.out] at hB ⊢
 replace za0 := cell_keep hb za0
 replace za1 := cell_keep hb za1
 replace hza := hza.below hb
 replace zb0 := cell_keep hb zb0
 replace zb1 := cell_keep hb zb1
 replace hzb := hzb.below hb
 replace zc0 := cell_keep hb zc0
 replace zc1 := cell_keep hb zc1
 replace hzc := hzc.below hb
 replace hBza := hBza.below hb hBza.lt
 replace hBzb := hBzb.below hb hBzb.lt
 replace hbw := Below.tr hbw hb
 replace hzg := hzg.below hb
 have zg0 := hB.cell 0; have zg1 := hB.cell 1; simp only [List.getElem?_toArray, List.getElem?_cons_zero, List.getElem?_cons_succ] at zg0 zg1; clear HW hB hg hb; clear zg0 zg1 hzg; go_wp2_with fail; refine (BinC.sh add_F _ _ _ _ 0 (redP (pa * qc + pc * qa) (qa * qc)) _ hza hzc (congrArg Prod.fst HAac.out) (congrArg Prod.snd HAac.out)).mono ?_; rintro e w11 ⟨Szs, kzs, czs, Rzs, mzs, dzs, rfl, hzs, hb⟩
 replace za0 := cell_keep hb za0
 replace za1 := cell_keep hb za1
 replace hza := hza.below hb
 replace zb0 := cell_keep hb zb0
 replace zb1 := cell_keep hb zb1
 replace hzb := hzb.below hb
 replace zc0 := cell_keep hb zc0
 replace zc1 := cell_keep hb zc1
 replace hzc := hzc.below hb
 replace hBza := hBza.below hb hBza.lt
 replace hBzb := hBzb.below hb hBzb.lt
 replace hbw := Below.tr hbw hb
 clear hb; go_upto_region 8 with fail; refine wp_name ?_; intro w12 HW; have hb : Below w11.heap.size w11 w12 := by rw [HW.out]; exact bA _ _
 have hB : Blk w12 w11.heap.size 28 #[.slice Szs kzs czs, .slice Rzs mzs dzs] := by rw [HW.out]; exact Blk.new _ _ _
 obtain ⟨zs, hg⟩ : ∃ g, Hid (g = w11.heap.size) := ⟨_, rfl⟩; rw [← hg.out] at hB ⊢; have hne_za_zs : za ≠ zs := by have := cell_lt za0; have := hg.out; dsimp only at *; omega
 have hne_zb_zs : zb ≠ zs := by have := cell_lt zb0; have := hg.out; dsimp only at *; omega
 have hne_zc_zs : zc ≠ zs := by have := cell_lt zc0; have := hg.out; dsimp only at *; omega
 have hszs : w.heap.size ≤ zs := by rw [hg.out]; exact hbw.size
 replace za0 := cell_keep hb za0
 replace za1 := cell_keep hb za1
 replace hza := hza.below hb
 replace zb0 := cell_keep hb zb0
 replace zb1 := cell_keep hb zb1
 replace hzb := hzb.below hb
 replace zc0 := cell_keep hb zc0
 replace zc1 := cell_keep hb zc1
 replace hzc := hzc.below hb
 replace hBza := hBza.below hb hBza.lt
 replace hBzb := hBzb.below hb hBzb.lt
 replace hbw := Below.tr hbw hb
 replace hzs := hzs.below hb
 have zs0 := hB.cell 0; have zs1 := hB.cell 1; simp only [List.getElem?_toArray, List.getElem?_cons_zero, List.getElem?_cons_succ] at zs0 zs1; have hBzs := hB; clear HW hB hg hb; go_wp2_with fail; refine (BinC.sh add_F _ _ _ _ 0 (redP (pb * qc + pc * qb) (qb * qc)) _ hzb hzc (congrArg Prod.fst HAbc.out) (congrArg Prod.snd HAbc.out)).mono ?_; rintro e w13 ⟨Szt, kzt, czt, Rzt, mzt, dzt, rfl, hzt, hb⟩
 replace za0 := cell_keep hb za0
 replace za1 := cell_keep hb za1
 replace hza := hza.below hb
 replace zb0 := cell_keep hb zb0
 replace zb1 := cell_keep hb zb1
 replace hzb := hzb.below hb
 replace zc0 := cell_keep hb zc0
 replace zc1 := cell_keep hb zc1
 replace hzc := hzc.below hb
 replace zs0 := cell_keep hb zs0
 replace zs1 := cell_keep hb zs1
 replace hzs := hzs.below hb
 replace hBza := hBza.below hb hBza.lt
 replace hBzb := hBzb.below hb hBzb.lt
 replace hBzs := hBzs.below hb hBzs.lt
 replace hbw := Below.tr hbw hb
 clear hb; go_upto_region 9 with fail; refine wp_name ?_; intro w14 HW; have hb : Below w13.heap.size w13 w14 := by rw [HW.out]; exact bA _ _
 have hB : Blk w14 w13.heap.size 28 #[.slice Szt kzt czt, .slice Rzt mzt dzt] := by rw [HW.out]; exact Blk.new _ _ _
 obtain ⟨zt, hg⟩ : ∃ g, Hid (g = w13.heap.size) := ⟨_, rfl⟩; rw [← hg.out] at hB ⊢; have hne_za_zt : za ≠ zt := by have := cell_lt za0; have := hg.out; dsimp only at *; omega
 have hne_zb_zt : zb ≠ zt := by have := cell_lt zb0; have := hg.out; dsimp only at *; omega
 have hne_zc_zt : zc ≠ zt := by have := cell_lt zc0; have := hg.out; dsimp only at *; omega
 have hne_zs_zt : zs ≠ zt := by have := cell_lt zs0; have := hg.out; dsimp only at *; omega
 have hszt : w.heap.size ≤ zt := by rw [hg.out]; exact hbw.size
 replace za0 := cell_keep hb za0
 replace za1 := cell_keep hb za1
 replace hza := hza.below hb
 replace zb0 := cell_keep hb zb0
 replace zb1 := cell_keep hb zb1
 replace hzb := hzb.below hb
 replace zc0 := cell_keep hb zc0
 replace zc1 := cell_keep hb zc1
 replace hzc := hzc.below hb
 replace zs0 := cell_keep hb zs0
 replace zs1 := cell_keep hb zs1
 replace hzs := hzs.below hb
 replace hBza := hBza.below hb hBza.lt
 replace hBzb := hBzb.below hb hBzb.lt
 replace hBzs := hBzs.below hb hBzs.lt
 replace hbw := Below.tr hbw hb
 replace hzt := hzt.below hb
 have zt0 := hB.cell 0; have zt1 := hB.cell 1; simp only [List.getElem?_toArray, List.getElem?_cons_zero, List.getElem?_cons_succ] at zt0 zt1; have hBzt := hB; clear HW hB hg hb; go_wp2_with fail; refine (cmp_sh _ _ _ _ o _ hzs hzt Xs1 HCs).mono ?_; rintro e w15 ⟨rfl, hb⟩
 replace za0 := cell_keep hb za0
 replace za1 := cell_keep hb za1
 replace hza := hza.below hb
 replace zb0 := cell_keep hb zb0
 replace zb1 := cell_keep hb zb1
 replace hzb := hzb.below hb
 replace zc0 := cell_keep hb zc0
 replace zc1 := cell_keep hb zc1
 replace hzc := hzc.below hb
 replace zs0 := cell_keep hb zs0
 replace zs1 := cell_keep hb zs1
 replace hzs := hzs.below hb
 replace zt0 := cell_keep hb zt0
 replace zt1 := cell_keep hb zt1
 replace hzt := hzt.below hb
 replace hBza := hBza.below hb hBza.lt
 replace hBzb := hBzb.below hb hBzb.lt
 replace hBzs := hBzs.below hb hBzs.lt
 replace hBzt := hBzt.below hb hBzt.lt
 replace hbw := Below.tr hbw hb
 clear hb; go_wp2_with fail; refine (psame_sh _ _ (ratP pa qa) (ratP pb qb) bz _ hza hzb HSZ).mono ?_; rintro e w16 ⟨rfl, hb⟩
 replace za0 := cell_keep hb za0
 replace za1 := cell_keep hb za1
 replace hza := hza.below hb
 replace zb0 := cell_keep hb zb0
 replace zb1 := cell_keep hb zb1
 replace hzb := hzb.below hb
 replace zc0 := cell_keep hb zc0
 replace zc1 := cell_keep hb zc1
 replace hzc := hzc.below hb
 replace zs0 := cell_keep hb zs0
 replace zs1 := cell_keep hb zs1
 replace hzs := hzs.below hb
 replace zt0 := cell_keep hb zt0
 replace zt1 := cell_keep hb zt1
 replace hzt := hzt.below hb
 replace hBza := hBza.below hb hBza.lt
 replace hBzb := hBzb.below hb hBzb.lt
 replace hBzs := hBzs.below hb hBzs.lt
 replace hBzt := hBzt.below hb hBzt.lt
 replace hbw := Below.tr hbw hb
 clear hb; have hne_zt_zs : zt ≠ zs := fun e => hne_zs_zt e.symm
 go_wp2_with fail; refine (BinC.sh mul_F _ _ _ _ 0 (redP (pa * pc) (qa * qc)) _ hza hzc (congrArg Prod.fst HMac.out) (congrArg Prod.snd HMac.out)).mono ?_; rintro e w17 ⟨Szm, kzm, czm, Rzm, mzm, dzm, rfl, hzm, hb⟩
 replace za0 := cell_keep hb za0
 replace za1 := cell_keep hb za1
 replace hza := hza.below hb
 replace zb0 := cell_keep hb zb0
 replace zb1 := cell_keep hb zb1
 replace hzb := hzb.below hb
 replace zc0 := cell_keep hb zc0
 replace zc1 := cell_keep hb zc1
 replace hzc := hzc.below hb
 replace zs0 := cell_keep hb zs0
 replace zs1 := cell_keep hb zs1
 replace hzs := hzs.below hb
 replace zt0 := cell_keep hb zt0
 replace zt1 := cell_keep hb zt1
 replace hzt := hzt.below hb
 replace hBza := hBza.below hb hBza.lt
 replace hBzb := hBzb.below hb hBzb.lt
 replace hBzs := hBzs.below hb hBzs.lt
 replace hBzt := hBzt.below hb hBzt.lt
 replace hbw := Below.tr hbw hb
 clear hb; have f1 := hBzs.frozen 0; have f2 := hBzs.frozen 1; go_upto_region 13 with fail; refine wp_name ?_; intro w18 HW; have hK : Kp w.heap.size zs w17 w18 := by rw [HW.out]; exact Kp.store hBzs ⟨_, _, _, _, _, _, hBzs⟩ hszs Szm kzm czm Rzm mzm dzm
 replace hBza := (hBza.far (p := ⟨zs, 0, none⟩) hne_za_zs (.slice Szm kzm czm)).far (p := ⟨zs, 1, none⟩) hne_za_zs (.slice Rzm mzm dzm)
 rw [← HW.out] at hBza
 replace hBzb := (hBzb.far (p := ⟨zs, 0, none⟩) hne_zb_zs (.slice Szm kzm czm)).far (p := ⟨zs, 1, none⟩) hne_zb_zs (.slice Rzm mzm dzm)
 rw [← HW.out] at hBzb
 replace hBzt := (hBzt.far (p := ⟨zs, 0, none⟩) hne_zt_zs (.slice Szm kzm czm)).far (p := ⟨zs, 1, none⟩) hne_zt_zs (.slice Rzm mzm dzm)
 rw [← HW.out] at hBzt
 replace hBzs : Blk w18 zs 28 #[.slice Szm kzm czm, .slice Rzm mzm dzm] := by rw [HW.out]; exact (hBzs.set_ 0 (.slice Szm kzm czm)).set_ 1 (.slice Rzm mzm dzm)
 replace za0 := hK.cell _ _ _ hne_za_zs za0
 replace za1 := hK.cell _ _ _ hne_za_zs za1
 replace hza := hza.mapL hK.lim
 replace zb0 := hK.cell _ _ _ hne_zb_zs zb0
 replace zb1 := hK.cell _ _ _ hne_zb_zs zb1
 replace hzb := hzb.mapL hK.lim
 replace zc0 := hK.cell _ _ _ hne_zc_zs zc0
 replace zc1 := hK.cell _ _ _ hne_zc_zs zc1
 replace hzc := hzc.mapL hK.lim
 replace zt0 := hK.cell _ _ _ hne_zt_zs zt0
 replace zt1 := hK.cell _ _ _ hne_zt_zs zt1
 replace hzt := hzt.mapL hK.lim
 replace hzs := hzm.mapL hK.lim
 replace hbw := Below.tr' hbw hK.be
 replace zs0 := hBzs.cell 0
 replace zs1 := hBzs.cell 1
 simp only [List.getElem?_toArray, List.getElem?_cons_zero, List.getElem?_cons_succ] at zs0 zs1; clear hK HW f1 f2 hzm; go_wp2_with fail; refine (BinC.sh mul_F _ _ _ _ 0 (redP (pb * pc) (qb * qc)) _ hzb hzc (congrArg Prod.fst HMbc.out) (congrArg Prod.snd HMbc.out)).mono ?_; rintro e w19 ⟨Szn, kzn, czn, Rzn, mzn, dzn, rfl, hzn, hb⟩
 replace za0 := cell_keep hb za0
 replace za1 := cell_keep hb za1
 replace hza := hza.below hb
 replace zb0 := cell_keep hb zb0
 replace zb1 := cell_keep hb zb1
 replace hzb := hzb.below hb
 replace zc0 := cell_keep hb zc0
 replace zc1 := cell_keep hb zc1
 replace hzc := hzc.below hb
 replace zs0 := cell_keep hb zs0
 replace zs1 := cell_keep hb zs1
 replace hzs := hzs.below hb
 replace zt0 := cell_keep hb zt0
 replace zt1 := cell_keep hb zt1
 replace hzt := hzt.below hb
 replace hBza := hBza.below hb hBza.lt
 replace hBzb := hBzb.below hb hBzb.lt
 replace hBzs := hBzs.below hb hBzs.lt
 replace hBzt := hBzt.below hb hBzt.lt
 replace hbw := Below.tr hbw hb
 clear hb; have f1 := hBzt.frozen 0; have f2 := hBzt.frozen 1; go_upto_region 14 with fail; refine wp_name ?_; intro w20 HW; have hK : Kp w.heap.size zt w19 w20 := by rw [HW.out]; exact Kp.store hBzt ⟨_, _, _, _, _, _, hBzt⟩ hszt Szn kzn czn Rzn mzn dzn
 replace hBza := (hBza.far (p := ⟨zt, 0, none⟩) hne_za_zt (.slice Szn kzn czn)).far (p := ⟨zt, 1, none⟩) hne_za_zt (.slice Rzn mzn dzn)
 rw [← HW.out] at hBza
 replace hBzb := (hBzb.far (p := ⟨zt, 0, none⟩) hne_zb_zt (.slice Szn kzn czn)).far (p := ⟨zt, 1, none⟩) hne_zb_zt (.slice Rzn mzn dzn)
 rw [← HW.out] at hBzb
 replace hBzs := (hBzs.far (p := ⟨zt, 0, none⟩) hne_zs_zt (.slice Szn kzn czn)).far (p := ⟨zt, 1, none⟩) hne_zs_zt (.slice Rzn mzn dzn)
 rw [← HW.out] at hBzs
 replace hBzt : Blk w20 zt 28 #[.slice Szn kzn czn, .slice Rzn mzn dzn] := by rw [HW.out]; exact (hBzt.set_ 0 (.slice Szn kzn czn)).set_ 1 (.slice Rzn mzn dzn)
 replace za0 := hK.cell _ _ _ hne_za_zt za0
 replace za1 := hK.cell _ _ _ hne_za_zt za1
 replace hza := hza.mapL hK.lim
 replace zb0 := hK.cell _ _ _ hne_zb_zt zb0
 replace zb1 := hK.cell _ _ _ hne_zb_zt zb1
 replace hzb := hzb.mapL hK.lim
 replace zc0 := hK.cell _ _ _ hne_zc_zt zc0
 replace zc1 := hK.cell _ _ _ hne_zc_zt zc1
 replace hzc := hzc.mapL hK.lim
 replace zs0 := hK.cell _ _ _ hne_zs_zt zs0
 replace zs1 := hK.cell _ _ _ hne_zs_zt zs1
 replace hzs := hzs.mapL hK.lim
 replace hzt := hzn.mapL hK.lim
 replace hbw := Below.tr' hbw hK.be
 replace zt0 := hBzt.cell 0
 replace zt1 := hBzt.cell 1
 simp only [List.getElem?_toArray, List.getElem?_cons_zero, List.getElem?_cons_succ] at zt0 zt1; clear hK HW f1 f2 hzn; go_wp2_with fail; refine (cmp_sh _ _ _ _ S _ hzs hzt Xs2 HCm).mono ?_; rintro e w21 ⟨rfl, hb⟩
 replace za0 := cell_keep hb za0
 replace za1 := cell_keep hb za1
 replace hza := hza.below hb
 replace zb0 := cell_keep hb zb0
 replace zb1 := cell_keep hb zb1
 replace hzb := hzb.below hb
 replace zc0 := cell_keep hb zc0
 replace zc1 := cell_keep hb zc1
 replace hzc := hzc.below hb
 replace zs0 := cell_keep hb zs0
 replace zs1 := cell_keep hb zs1
 replace hzs := hzs.below hb
 replace zt0 := cell_keep hb zt0
 replace zt1 := cell_keep hb zt1
 replace hzt := hzt.below hb
 replace hBza := hBza.below hb hBza.lt
 replace hBzb := hBzb.below hb hBzb.lt
 replace hBzs := hBzs.below hb hBzs.lt
 replace hBzt := hBzt.below hb hBzt.lt
 replace hbw := Below.tr hbw hb
 clear hb; clear hne_za_zs hne_zb_zs hne_zc_zs hne_za_zt hne_zb_zt hne_zc_zt hne_zs_zt hne_zt_zs hszs hszt; clear zs0 zs1 hzs hBzs zt0 zt1 hzt hBzt; have hlen : kzc = (Nm.lb pc).length := rtP_len hzc; have hlz : pc = 0 ↔ kzc = 0 := by rw [hlen]; exact ⟨fun h => by rw [h, Nm.lb_zero]; rfl, lb_zero_len⟩
 have HLZ := Lib.hid hlz; clear hlen hlz to2 to3 to4; go_upto_region 15 with fail
 go_cut [179] from 149 to 296 (fun t wz => t = .bool false ∧ wz = w21)
 case first => as_aux_lemma =>
  by_cases hk : kzc = 0
  ·have hS := HS.out.1 (HLZ.out.2 hk); subst hS hk; go_wp2_with fail
   go_meet
   case rel => exact ⟨rfl, rfl⟩
  ·have hS := HS.out.2 (fun h => hk (HLZ.out.1 h)); have tk : decide (0 < (kzc : Int)) = true := by simp; omega
   have tk2 : ((kzc : Int) == 0) = false := by simp; omega
   subst hS; go_wp2_with fail
   go_meet
   case rel => exact ⟨rfl, rfl⟩
 obtain ⟨rfl, hx⟩ := hcut; obtain rfl := hx.symm; clear hx HLZ HS; clear zc0 zc1 hzc; go_wp2_with fail; refine (floor_sh floor_F _ (ratP pa qa) (fl : Int) 0 _ hza HF).mono ?_; rintro e w22 ⟨rfl, hb⟩
 replace za0 := cell_keep hb za0
 replace za1 := cell_keep hb za1
 replace hza := hza.below hb
 replace zb0 := cell_keep hb zb0
 replace zb1 := cell_keep hb zb1
 replace hzb := hzb.below hb
 replace hBza := hBza.below hb hBza.lt
 replace hBzb := hBzb.below hb hBzb.lt
 replace hbw := Below.tr hbw hb
 clear hb; go_wp2_with fail; refine (of_f fl 1 _ (by have := HFLs.out; omega) (by omega) (by omega)).mono ?_; rintro e w23 ⟨Szu, kzu, czu, Rzu, mzu, dzu, rfl, hzu, hb⟩
 replace za0 := cell_keep hb za0
 replace za1 := cell_keep hb za1
 replace hza := hza.below hb
 replace zb0 := cell_keep hb zb0
 replace zb1 := cell_keep hb zb1
 replace hzb := hzb.below hb
 replace hBza := hBza.below hb hBza.lt
 replace hBzb := hBzb.below hb hBzb.lt
 replace hbw := Below.tr hbw hb
 clear hb; go_upto_region 19 with fail; refine wp_name ?_; intro w24 HW; have hb : Below w23.heap.size w23 w24 := by rw [HW.out]; exact bA _ _
 have hB : Blk w24 w23.heap.size 28 #[.slice Szu kzu czu, .slice Rzu mzu dzu] := by rw [HW.out]; exact Blk.new _ _ _
 obtain ⟨zu, hg⟩ : ∃ g, Hid (g = w23.heap.size) := ⟨_, rfl⟩; rw [← hg.out] at hB ⊢
 replace za0 := cell_keep hb za0
 replace za1 := cell_keep hb za1
 replace hza := hza.below hb
 replace zb0 := cell_keep hb zb0
 replace zb1 := cell_keep hb zb1
 replace hzb := hzb.below hb
 replace hBza := hBza.below hb hBza.lt
 replace hBzb := hBzb.below hb hBzb.lt
 replace hbw := Below.tr hbw hb
 replace hzu := hzu.below hb
 have zu0 := hB.cell 0; have zu1 := hB.cell 1; simp only [List.getElem?_toArray, List.getElem?_cons_zero, List.getElem?_cons_succ] at zu0 zu1; clear HW hB hg hb; have tw : IntKind.i64.wrap ((fl : Int) + 1) = ((fl + 1 : Nat) : Int) := by rw [IntWalk.i64_in _ (by have := HFLs.out; omega)]; rfl
 go_wp2_with fail; refine (of_f (fl + 1) 1 _ (by have := HFLs.out; omega) (by omega) (by omega)).mono ?_; rintro e w25 ⟨Szv, kzv, czv, Rzv, mzv, dzv, rfl, hzv, hb⟩
 replace za0 := cell_keep hb za0
 replace za1 := cell_keep hb za1
 replace hza := hza.below hb
 replace zb0 := cell_keep hb zb0
 replace zb1 := cell_keep hb zb1
 replace hzb := hzb.below hb
 replace zu0 := cell_keep hb zu0
 replace zu1 := cell_keep hb zu1
 replace hzu := hzu.below hb
 replace hBza := hBza.below hb hBza.lt
 replace hBzb := hBzb.below hb hBzb.lt
 replace hbw := Below.tr hbw hb
 clear hb; go_upto_region 20 with fail; refine wp_name ?_; intro w26 HW; have hb : Below w25.heap.size w25 w26 := by rw [HW.out]; exact bA _ _
 have hB : Blk w26 w25.heap.size 28 #[.slice Szv kzv czv, .slice Rzv mzv dzv] := by rw [HW.out]; exact Blk.new _ _ _
 obtain ⟨zv, hg⟩ : ∃ g, Hid (g = w25.heap.size) := ⟨_, rfl⟩; rw [← hg.out] at hB ⊢
 replace za0 := cell_keep hb za0
 replace za1 := cell_keep hb za1
 replace hza := hza.below hb
 replace zb0 := cell_keep hb zb0
 replace zb1 := cell_keep hb zb1
 replace hzb := hzb.below hb
 replace zu0 := cell_keep hb zu0
 replace zu1 := cell_keep hb zu1
 replace hzu := hzu.below hb
 replace hBza := hBza.below hb hBza.lt
 replace hBzb := hBzb.below hb hBzb.lt
 replace hbw := Below.tr hbw hb
 replace hzv := hzv.below hb
 have zv0 := hB.cell 0; have zv1 := hB.cell 1; simp only [List.getElem?_toArray, List.getElem?_cons_zero, List.getElem?_cons_succ] at zv0 zv1; clear HW hB hg hb; clear tw; obtain ⟨f1, HF1⟩ : ∃ c, Hid (cmpV (redP fl 1) (ratP pa qa) = c) := ⟨_, rfl⟩; obtain ⟨f2, HF2⟩ : ∃ c, Hid (cmpV (ratP pa qa) (redP (fl + 1) 1) = c) := ⟨_, rfl⟩; have tf1 : decide (0 < f1) = false := by rw [← HF1.out]; exact HCf1.out.2
 have tf2 : decide (0 ≤ f2) = false := by rw [← HF2.out]; exact HCf2.out.2
 go_wp2_with fail; refine (cmp_sh _ _ _ _ f1 _ hzu hza HCf1.out.1 HF1).mono ?_; rintro e w27 ⟨rfl, hb⟩
 replace za0 := cell_keep hb za0
 replace za1 := cell_keep hb za1
 replace hza := hza.below hb
 replace zb0 := cell_keep hb zb0
 replace zb1 := cell_keep hb zb1
 replace hzb := hzb.below hb
 replace zu0 := cell_keep hb zu0
 replace zu1 := cell_keep hb zu1
 replace hzu := hzu.below hb
 replace zv0 := cell_keep hb zv0
 replace zv1 := cell_keep hb zv1
 replace hzv := hzv.below hb
 replace hBza := hBza.below hb hBza.lt
 replace hBzb := hBzb.below hb hBzb.lt
 replace hbw := Below.tr hbw hb
 clear hb; go_wp2_with fail; refine (cmp_sh _ _ _ _ f2 _ hza hzv HCf2.out.1 HF2).mono ?_; rintro e w28 ⟨rfl, hb⟩
 replace za0 := cell_keep hb za0
 replace za1 := cell_keep hb za1
 replace hza := hza.below hb
 replace zb0 := cell_keep hb zb0
 replace zb1 := cell_keep hb zb1
 replace hzb := hzb.below hb
 replace zu0 := cell_keep hb zu0
 replace zu1 := cell_keep hb zu1
 replace hzu := hzu.below hb
 replace zv0 := cell_keep hb zv0
 replace zv1 := cell_keep hb zv1
 replace hzv := hzv.below hb
 replace hBza := hBza.below hb hBza.lt
 replace hBzb := hBzb.below hb hBzb.lt
 replace hbw := Below.tr hbw hb
 clear hb; clear zu0 zu1 hzu zv0 zv1 hzv; go_upto_region 24 with fail; clear tf1 tf2; have HG1 : Hid (o ≤ 0 → pa * qb ≤ pb * qa) := fun h => by rw [HO.out] at h; unfold Nm.cmpN at h; split at h <;> (try split at h) <;> omega
 have HG2 : Hid (0 < o → pb * qa ≤ pa * qb) := fun h => by rw [HO.out] at h; unfold Nm.cmpN at h; split at h <;> (try split at h) <;> omega
 go_cut [235] from 208 to 296 (fun t wz => (∃ cb, t = .bool cb ∧ Hid (cb = decide (0 < o))) ∧ wz = w28)
 case first => as_aux_lemma =>
  go_wp2_with fail
  go_meet
  case rel => exact ⟨⟨_, rfl, rfl⟩, rfl⟩
 obtain ⟨⟨cb, rfl, HCB⟩, hx⟩ := hcut; obtain rfl := hx.symm; clear hx
 go_upto_if 235 with fail
 go_cut [] from 236 to 296 (fun wz => (∃ A k c A' k' c' B m d B' m' d' p q p' q', wz.cell? ⟨za, 0, none⟩ = some (.slice A k c) ∧ wz.cell? ⟨za, 1, none⟩ = some (.slice A' k' c') ∧ wz.cell? ⟨zb, 0, none⟩ = some (.slice B m d) ∧ wz.cell? ⟨zb, 1, none⟩ = some (.slice B' m' d') ∧ RtP wz (.agg #[.slice A k c, .slice A' k' c']) (ratP p q) ∧ RtP wz (.agg #[.slice B m d, .slice B' m' d']) (ratP p' q') ∧ Nm.Good p q ∧ Nm.Good p' q' ∧ Fit p q ∧ p * q' ≤ p' * q ∧ Below w.heap.size w wz))
 case first => as_aux_lemma =>
  cases cb
  rotate_left
  ·have ho : 0 < o := of_decide_eq_true HCB.out.symm; have hle := HG2.out ho; have hFb : Fit pb qb := HBb.out; have a1 := hBza.frozen 0; have a2 := hBza.frozen 1; have hne' : za ≠ zb := fun e => hne_zb_za e.symm
   have hB1 := (hBza.set_ 0 (.slice Szb kzb czb)).set_ 1 (.slice Rzb mzb dzb); have hB2 := (hBzb.far (p := ⟨za, 0, none⟩) hne_zb_za (.slice Szb kzb czb)).far (p := ⟨za, 1, none⟩) hne_zb_za (.slice Rzb mzb dzb); have b1 := hB2.frozen 0; have b2 := hB2.frozen 1; have b3 := hB2.cell 0; have b4 := hB2.cell 1; simp only [List.getElem?_toArray, List.getElem?_cons_zero, List.getElem?_cons_succ] at b3 b4; have hB3 := (hB1.far (p := ⟨zb, 0, none⟩) hne' (.slice Sza kza cza)).far (p := ⟨zb, 1, none⟩) hne' (.slice Rza mza dza); have hB4 := (hB2.set_ 0 (.slice Sza kza cza)).set_ 1 (.slice Rza mza dza); have u0 := Lib.hid (hB3.cell 0); have u1 := Lib.hid (hB3.cell 1); have v0 := Lib.hid (hB4.cell 0); have v1 := Lib.hid (hB4.cell 1); have hK1 := Kp.store (B := w.heap.size) hBza ⟨_, _, _, _, _, _, hBza⟩ hsza Szb kzb czb Rzb mzb dzb; have hK2 := Kp.store (B := w.heap.size) hB2 ⟨_, _, _, _, _, _, hB2⟩ hszb Sza kza cza Rza mza dza; have HA2 := Lib.hid ((hza.mapL hK1.lim).mapL hK2.lim); have HB2 := Lib.hid ((hzb.mapL hK1.lim).mapL hK2.lim); have HBE := Lib.hid (Below.tr' (Below.tr' hbw hK1.be) hK2.be); clear hB1 hB2 hB3 hB4 hK1 hK2 ho hza hzb; go_wp2_with fail
   go_meet
   case rel => exact ⟨_, _, _, _, _, _, _, _, _, _, _, _, pb, qb, pa, qa, u0.out, u1.out, v0.out, v1.out, HB2.out, HA2.out, gb, ga, hFb, hle, HBE.out⟩
  ·have ho : ¬ 0 < o := of_decide_eq_false HCB.out.symm; have hle := HG1.out (by omega); have hFa : Fit pa qa := HBa.out; clear ho; go_wp2_with fail
   go_meet
   case rel => exact ⟨_, _, _, _, _, _, _, _, _, _, _, _, pa, qa, pb, qb, za0, za1, zb0, zb1, hza, hzb, ga, gb, hFa, hle, hbw⟩
 clear HCB za0 za1 zb0 zb1 hza hzb hBza hBzb hsza hszb hne_zb_za ga gb HBa HBb HO HG1 HG2 HVab HVba hbw; obtain ⟨Sza, kza, cza, Rza, mza, dza, Szb, kzb, czb, Rzb, mzb, dzb, p, q, p', q', za0, za1, zb0, zb1, hza, hzb, ga, gb, fa, hle, hbw⟩ := hcut; obtain ⟨N, D, hsim, g, hl1, hl2, _, _, HLS⟩ := sim_good ga gb hle; have HSM := Lib.hid hsim; have HSS := Lib.hid (sim_self ga); have HL1 := Lib.hid hl1; have HL2 := Lib.hid hl2; clear hsim hl1 hl2 hle; go_wp2_with fail; refine (BinC.sh simplest_F _ _ _ _ 0 (ratP N D) _ hza hzb (congrArg Prod.fst HSM.out) (congrArg Prod.snd HSM.out)).mono ?_; rintro e w30 ⟨Szx, kzx, czx, Rzx, mzx, dzx, rfl, hzx, hb⟩
 replace za0 := cell_keep hb za0
 replace za1 := cell_keep hb za1
 replace hza := hza.below hb
 replace zb0 := cell_keep hb zb0
 replace zb1 := cell_keep hb zb1
 replace hzb := hzb.below hb
 replace hbw := Below.tr hbw hb
 clear hb; go_upto_region 27 with fail; refine wp_name ?_; intro w31 HW; have hb : Below w30.heap.size w30 w31 := by rw [HW.out]; exact bA _ _
 have hB : Blk w31 w30.heap.size 28 #[.slice Szx kzx czx, .slice Rzx mzx dzx] := by rw [HW.out]; exact Blk.new _ _ _
 obtain ⟨zx, hg⟩ : ∃ g, Hid (g = w30.heap.size) := ⟨_, rfl⟩; rw [← hg.out] at hB ⊢
 replace za0 := cell_keep hb za0
 replace za1 := cell_keep hb za1
 replace hza := hza.below hb
 replace zb0 := cell_keep hb zb0
 replace zb1 := cell_keep hb zb1
 replace hzb := hzb.below hb
 replace hbw := Below.tr hbw hb
 replace hzx := hzx.below hb
 have zx0 := hB.cell 0; have zx1 := hB.cell 1; simp only [List.getElem?_toArray, List.getElem?_cons_zero, List.getElem?_cons_succ] at zx0 zx1; clear HW hB hg hb; obtain ⟨l1, HLw⟩ : ∃ c, Hid (cmpV (ratP p q) (ratP N D) = c) := ⟨_, rfl⟩; obtain ⟨l2, HUp⟩ : ∃ c, Hid (cmpV (ratP N D) (ratP p' q') = c) := ⟨_, rfl⟩; have tl1 : decide (0 < l1) = false := by rw [← HLw.out, cmpV_rat ga g, cmpN_gt0]; exact decide_eq_false (by have := HL1.out; omega)
 have tl2 : decide (0 < l2) = false := by rw [← HUp.out, cmpV_rat g gb, cmpN_gt0]; exact decide_eq_false (by have := HL2.out; omega)
 go_wp2_with fail; refine (cmp_sh _ _ _ _ l1 _ hza hzx ⟨valid_rat ga, valid_rat g⟩ HLw).mono ?_; rintro e w32 ⟨rfl, hb⟩
 replace za0 := cell_keep hb za0
 replace za1 := cell_keep hb za1
 replace hza := hza.below hb
 replace zb0 := cell_keep hb zb0
 replace zb1 := cell_keep hb zb1
 replace hzb := hzb.below hb
 replace zx0 := cell_keep hb zx0
 replace zx1 := cell_keep hb zx1
 replace hzx := hzx.below hb
 replace hbw := Below.tr hbw hb
 clear hb; go_wp2_with fail; refine (cmp_sh _ _ _ _ l2 _ hzx hzb ⟨valid_rat g, valid_rat gb⟩ HUp).mono ?_; rintro e w33 ⟨rfl, hb⟩
 replace za0 := cell_keep hb za0
 replace za1 := cell_keep hb za1
 replace hza := hza.below hb
 replace zb0 := cell_keep hb zb0
 replace zb1 := cell_keep hb zb1
 replace hzb := hzb.below hb
 replace zx0 := cell_keep hb zx0
 replace zx1 := cell_keep hb zx1
 replace hzx := hzx.below hb
 replace hbw := Below.tr hbw hb
 clear hb; go_wp2_with fail; refine (BinC.sh simplest_F _ _ _ _ 0 (ratP p q) _ hza hza (congrArg Prod.fst HSS.out) (congrArg Prod.snd HSS.out)).mono ?_; rintro e w34 ⟨Szy, kzy, czy, Rzy, mzy, dzy, rfl, hzy, hb⟩
 replace za0 := cell_keep hb za0
 replace za1 := cell_keep hb za1
 replace hza := hza.below hb
 replace zb0 := cell_keep hb zb0
 replace zb1 := cell_keep hb zb1
 replace hzb := hzb.below hb
 replace zx0 := cell_keep hb zx0
 replace zx1 := cell_keep hb zx1
 replace hzx := hzx.below hb
 replace hbw := Below.tr hbw hb
 clear hb; go_upto_region 30 with fail; refine wp_name ?_; intro w35 HW; have hb : Below w34.heap.size w34 w35 := by rw [HW.out]; exact bA _ _
 have hB : Blk w35 w34.heap.size 28 #[.slice Szy kzy czy, .slice Rzy mzy dzy] := by rw [HW.out]; exact Blk.new _ _ _
 obtain ⟨zy, hg⟩ : ∃ g, Hid (g = w34.heap.size) := ⟨_, rfl⟩; rw [← hg.out] at hB ⊢
 replace za0 := cell_keep hb za0
 replace za1 := cell_keep hb za1
 replace hza := hza.below hb
 replace zb0 := cell_keep hb zb0
 replace zb1 := cell_keep hb zb1
 replace hzb := hzb.below hb
 replace zx0 := cell_keep hb zx0
 replace zx1 := cell_keep hb zx1
 replace hzx := hzx.below hb
 replace hbw := Below.tr hbw hb
 replace hzy := hzy.below hb
 have zy0 := hB.cell 0; have zy1 := hB.cell 1; simp only [List.getElem?_toArray, List.getElem?_cons_zero, List.getElem?_cons_succ] at zy0 zy1; clear HW hB hg hb; go_wp2_with fail; refine (psame_5 _ _ _ _ hzy hza).mono ?_; rintro e w36 ⟨rfl, hb⟩
 replace za0 := cell_keep hb za0
 replace za1 := cell_keep hb za1
 replace hza := hza.below hb
 replace zb0 := cell_keep hb zb0
 replace zb1 := cell_keep hb zb1
 replace hzb := hzb.below hb
 replace zx0 := cell_keep hb zx0
 replace zx1 := cell_keep hb zx1
 replace hzx := hzx.below hb
 replace zy0 := cell_keep hb zy0
 replace zy1 := cell_keep hb zy1
 replace hzy := hzy.below hb
 replace hbw := Below.tr hbw hb
 clear hb; clear zy0 zy1 hzy; go_wp2_with fail; refine (least_n _ _ _ p q p' q' N D _ hza hzb hzx ga gb g fa HL1 HL2 HLS).mono ?_; rintro e w37 ⟨rfl, hb⟩
 replace za0 := cell_keep hb za0
 replace za1 := cell_keep hb za1
 replace hza := hza.below hb
 replace zb0 := cell_keep hb zb0
 replace zb1 := cell_keep hb zb1
 replace hzb := hzb.below hb
 replace zx0 := cell_keep hb zx0
 replace zx1 := cell_keep hb zx1
 replace hzx := hzx.below hb
 replace hbw := Below.tr hbw hb
 clear hb; go_wp2_with fail; refine (lives5_n _).mono ?_; rintro e w' ⟨rfl, hb⟩; go_wp2_with fail; go_ret; exact ⟨rfl, Below.tr hbw hb⟩
end Go.Proofs.YtmbfjmilhfmnkaaDoor
