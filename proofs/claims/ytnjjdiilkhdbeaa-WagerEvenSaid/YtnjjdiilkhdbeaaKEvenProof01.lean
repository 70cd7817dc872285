import Derived.Test.YtnjjdiilkhdbeaaKCutProof28
import Derived.Test.YtnjjdiilkhdbeaaKCutProof26
import Derived.Test.YtnjjdiilkhdbeaaKCutProof24
import Derived.Test.YtnjjdiilkhdbeaaKCutProof29
import Derived.Test.YtnjjdiilkhdbeaaS0
set_option linter.unusedVariables false
set_option linter.unusedSimpArgs false
namespace Go.Proofs.Ytnjjdiilkhdbeaa
open Go Go.RowKit
theorem RatOwn.mono' {w : World} {base base' : Nat} {v : Value} {X : List LP} (h : RatOwn w base v X) (hb : base' ≤ base) : RatOwn w base' v X := h.mono hb
theorem RatsOwn.mono {w : World} {base base' : Nat} {v : Value} {rows : List (List LP)} (h : RatsOwn w base v rows) (hb : base' ≤ base) : RatsOwn w base' v rows := by
 obtain ⟨ss, h1, h2, h3, h4, h5⟩ := h; exact ⟨ss, own_mono h1 hb, h2, h3, fun i s r e1 e2 => (h4 i s r e1 e2).mono hb, h5⟩
/-- a plan whose rows are the call's own -/
def PlanO (w : World) (base : Nat) (v : Value) (b : LP) (rows : List (List LP)) : Prop := ∃ A1 k1 c1 A2 k2 c2 S k c, v = .agg #[.slice A1 k1 c1, .slice A2 k2 c2, .slice S k c] ∧ RtP w (.agg #[.slice A1 k1 c1, .slice A2 k2 c2]) b ∧ RatsOwn w base (.slice S k c) rows
set_option maxRecDepth 100000 in
set_option maxHeartbeats 4000000 in
theorem even_O (vb vs : Value) (b s : LP) (n : Int) (w : World) (hb0 : RtP w vb b) (hs0 : RtP w vs s) (l1 : b.1.length ≤ 1048576) (l2 : b.2.length ≤ 1048576) (l3 : s.1.length ≤ 1048576) (l4 : s.2.length ≤ 1048576) :
  Calls Try.prog 24 #[vb, vs, .int .i64 n] w fun e w' => ∃ v, e = .returned (.tuple #[v, .int .i64 (evenE b s n)]) ∧ (evenE b s n = 0 → PlanO w' w.heap.size v b (evenR s n.toNat)) ∧ Below w.heap.size w w' := by
 obtain ⟨B1, bk1, bc1, B2, bk2, bc2, rfl⟩ := hb0.shape; obtain ⟨S1, sk1, sc1, S2, sk2, sc2, rfl⟩ := hs0.shape; obtain ⟨E, HE⟩ : ∃ E, Hid (E = evenE b s n) := ⟨_, rfl⟩; obtain ⟨bb, Hbb⟩ : ∃ x, Hid (x = if evenE b s n = 0 then b else nilP) := ⟨_, rfl⟩; obtain ⟨rr, Hrr⟩ : ∃ x, Hid (x = if evenE b s n = 0 then evenR s n.toNat else []) := ⟨_, rfl⟩; have HNZ : Hid (E ≠ 0 → bb = nilP ∧ rr = []) := fun h => by rw [HE.out] at h; exact ⟨by rw [Hbb.out, if_neg h], by rw [Hrr.out, if_neg h]⟩
 rw [← HE.out]
 go_enter Try.func24, Try.ntmps24
 go_upto_region 1 with fail; refine wp_name ?_; intro w1 HW1; have hb1 : Below w.heap.size w w1 := by rw [HW1.out]; exact (Below.tr (Below.tr (bA _ _) (bA _ _)) (bA _ _))
 have hB1 : Blk w1 w.heap.size 25 #[.slice B1 bk1 bc1, .slice B2 bk2 bc2] := by rw [HW1.out]; exact Blk.below (Blk.newG rfl) (Below.tr (bA _ _) (bA _ _)) (Blk.newG rfl).lt
 have hB2 : Blk w1 (w.heap.size + 1) 25 #[.slice S1 sk1 sc1, .slice S2 sk2 sc2] := by rw [HW1.out]; exact Blk.below (Blk.newG (by simp)) (bA _ _) (by simp)
 have hBR : Blk w1 (w.heap.size + 1 + 1) 38 #[.slice none 0 0, .slice none 0 0, .slice none 0 0] := by rw [HW1.out]; exact Blk.newG (by simp)
 clear HW1; obtain ⟨gB, hgB⟩ : ∃ g, Hid (g = w.heap.size) := ⟨_, rfl⟩; obtain ⟨gS, hgS⟩ : ∃ g, Hid (g = w.heap.size + 1) := ⟨_, rfl⟩; obtain ⟨gR, hgR⟩ : ∃ g, Hid (g = w.heap.size + 1 + 1) := ⟨_, rfl⟩; have hgr : w.heap.size ≤ gR := by have := hgR.out; omega
 rw [← hgR.out] at hBR ⊢; rw [← hgS.out] at hB2 ⊢; rw [← hgB.out] at hB1 ⊢; have hRlt := hBR.lt; have hbv := hb0.below hb1; have hsv := hs0.below hb1; have p0 := hB1.cell 0; have p1 := hB1.cell 1; have s0 := hB2.cell 0; have s1 := hB2.cell 1; simp only [List.getElem?_toArray, List.getElem?_cons_zero, List.getElem?_cons_succ] at p0 p1 s0 s1; clear hgB hgS hB1 hB2 hb0 hs0; by_cases hrg : n < 0 ∨ 16 < n
 ·have HF : Hid (E = 5) := by show _ = _; rw [HE.out]; unfold evenE; rw [if_pos hrg]
  obtain ⟨hz1, hz2⟩ := HNZ.out (by rw [HF.out]; decide); have hz1 := Lib.hid hz1; have hz2 := Lib.hid hz2; have hBRo := hBR.below (Below.refl w1.heap.size w1) hRlt; have q0 := hBRo.cell 0; have q1 := hBRo.cell 1; have q2 := hBRo.cell 2; have r0 := hBRo.frozen 0; have r1 := hBRo.frozen 1; have r2 := hBRo.frozen 2; simp only [List.getElem?_toArray, List.getElem?_cons_zero, List.getElem?_cons_succ] at q0 q1 q2; have hf := ((hBRo.set_ 0 (.slice none 0 0)).set_ 1 (.slice none 0 0)).set_ 2 (.slice none 0 0); have z0 := hf.cell 0; have z1 := hf.cell 1; have z2 := hf.cell 2; simp at z0 z1 z2; have hbz : Below w.heap.size w (((w1.setCell ⟨gR, 0, none⟩ (.slice none 0 0)).setCell ⟨gR, 1, none⟩ (.slice none 0 0)).setCell ⟨gR, 2, none⟩ (.slice none 0 0)) := ((hb1.setCell (p := ⟨gR, 0, none⟩) hgr _).setCell (p := ⟨gR, 1, none⟩) hgr _).setCell (p := ⟨gR, 2, none⟩) hgr _; clear hBRo hf; by_cases hn : n < 0
  ·have t1 : decide (n < 0) = true := by simpa using hn
   clear hrg hn; go_wp2_with fail; exact bodyPost_ret (v := .tuple #[.agg #[.slice none 0 0, .slice none 0 0, .slice none 0 0], .int .i64 5]) (by simp [results, Try.results24, go_sem, z0, z1, z2]) rfl ⟨_, by rw [HF.out], fun h => absurd h (by rw [HF.out]; decide), hbz⟩
  ·have t1 : decide (n < 0) = false := by simpa using hn
   have t2 : decide (n > 16) = true := by simp; omega
   clear hrg hn; go_wp2_with fail; exact bodyPost_ret (v := .tuple #[.agg #[.slice none 0 0, .slice none 0 0, .slice none 0 0], .int .i64 5]) (by simp [results, Try.results24, go_sem, z0, z1, z2]) rfl ⟨_, by rw [HF.out], fun h => absurd h (by rw [HF.out]; decide), hbz⟩
 ·have t1 : decide (n < 0) = false := by simp; omega
  have t2 : decide (n > 16) = false := by simp; omega
  obtain ⟨nn, rfl⟩ := Int.eq_ofNat_of_zero_le (show 0 ≤ n by omega); have hnn : nn ≤ 16 := by omega
  have HE2 : Hid (E = planE b (evenR s nn)) := by show _ = _; rw [HE.out]; unfold evenE; rw [if_neg hrg]; rfl
  have HZ : Hid (E = 0 → bb = b ∧ rr = evenR s nn) := fun h => by rw [HE.out] at h; exact ⟨by rw [Hbb.out, if_pos h], by rw [Hrr.out, if_pos h]; rfl⟩
  clear hrg HE Hbb Hrr; go_wp2_with fail; refine (clone_F _ b _ hbv l1 l2).mono ?_; rintro e w2 ⟨v, rfl, hbd, hb2⟩; obtain ⟨X1, xk1, xc1, X2, xk2, xc2, rfl⟩ := hbd.shape; have hBR := hBR.below hb2 hRlt; have hRlt := hBR.lt; have hsv := hsv.below hb2; have s0 := cell_keep hb2 s0; have s1 := cell_keep hb2 s1; have hb12 := Below.tr hb1 hb2; clear p0 p1 hbv; go_upto_region 4 with fail; refine wp_name ?_; intro w3 HW3; have hb3 : Below w2.heap.size w2 w3 := by rw [HW3.out]; exact bA _ _
  have hB3 : Blk w3 w2.heap.size 38 #[.slice X1 xk1 xc1, .slice X2 xk2 xc2, .slice none 0 0] := by rw [HW3.out]; exact Blk.new _ _ _
  clear HW3; obtain ⟨gP, hgP⟩ : ∃ g, Hid (g = w2.heap.size) := ⟨_, rfl⟩; rw [← hgP.out] at hB3 ⊢; go_wp2_with fail
  go_loopg [24] nn (fun j x wr => ∃ (m : Nat) (rows : List (List LP)) (S : Option Addr) (cS : Nat), x = .int .i64 m ∧ m + j = nn ∧ Hid (rows = evenR s m) ∧ Blk wr gP 38 #[.slice X1 xk1 xc1, .slice X2 xk2 xc2, .slice S m cS] ∧ RatsOwn wr (gP + 1) (.slice S m cS) rows ∧ Below w2.heap.size w2 wr)
  case atStart => exact ⟨0, [], none, 0, rfl, by omega, rfl, hB3, RatsOwn.nil _ _, hb3⟩
  case round =>
   obtain ⟨G, hG1⟩ : ∃ G, G = gk := ⟨gk, rfl⟩; subst hG1; obtain ⟨m, rows, S, cS, rfl, hmj, HRE, hBP, hrs, hbe⟩ := hrel; obtain ⟨wo, hwo⟩ : ∃ wo, wo = wr := ⟨_, rfl⟩; subst hwo; have hltP := hBP.lt; have HRL : Hid (rows.length = m) := by show _ = _; rw [HRE.out, evenR_len]
   by_cases hm : m < nn
   ·have t3 : decide ((m : Int) < (nn : Int)) = true := by simp; omega
    obtain ⟨n1, HN1⟩ : ∃ n, Hid (n = m + 1) := ⟨_, rfl⟩; have hmk := make_rat ((m : Int) + 1) n1 (by rw [HN1.out]; push_cast; rfl) (by have := HN1.out; omega) wo; go_upto_region 8 with fail; refine wp_name ?_; intro w6 HW6; obtain ⟨gX, hgX⟩ : ∃ g, Hid (g = wo.heap.size) := ⟨_, rfl⟩; have hb6 : Below wo.heap.size wo w6 := by rw [HW6.out]; exact bA _ _
    have hownY : RatOwn w6 wo.heap.size (.slice (some ⟨gX, 0, none⟩) n1 n1) (List.replicate n1 nilP) := by
     have h := RatOwn.made wo n1 (by have := HN1.out; omega); rw [List.toArray_replicate, ← HW6.out, ← hgX.out] at h; rw [← hgX.out]; exact h
    have hgXo : wo.heap.size ≤ gX := by have := hgX.out; omega
    rw [← hgX.out]; clear HW6 hmk; go_wp2_with fail
    go_loopg [32] n1 (fun j x wx => ∃ (k : Nat) (X : List LP), x = .int .i64 k ∧ k + j = n1 ∧ Hid (X = List.replicate k s ++ List.replicate (n1 - k) nilP) ∧ RatOwn wx wo.heap.size (.slice (some ⟨gX, 0, none⟩) n1 n1) X ∧ Below wo.heap.size wo wx)
    case atStart => exact ⟨0, _, rfl, by omega, rfl, hownY, hb6⟩
    case round =>
     obtain ⟨G2, hG2⟩ : ∃ G, G = gk := ⟨gk, rfl⟩; subst hG2; obtain ⟨k, X, rfl, hkj, HXE, hown, hbx⟩ := hrel; obtain ⟨wx, hwx⟩ : ∃ wx, wx = wr := ⟨_, rfl⟩; subst hwx; have hbwx := hbe.trans (hbx.mono hbe.size); by_cases hk : k < n1
     ·have t4 : decide ((k : Int) < (n1 : Int)) = true := by simp; omega
      have hkn : (k : Int) < (n1 : Int) := by omega
      have hk20 : k ≤ 17 := by have := HN1.out; omega
      have S0 := cell_keep hbwx s0; have S1' := cell_keep hbwx s1; go_wp2_with fail; refine (clone_F _ s _ (hsv.below hbwx) l3 l4).mono ?_; rintro e w9 ⟨v, rfl, hv, hb9⟩; obtain ⟨D1, y1, d1, D2, y2, d2, rfl⟩ := hv.shape; have hown9 := hown.below hb9; obtain ⟨⟨x1, f1⟩, ⟨x2, f2⟩, f3, f4⟩ := own_store2 hown9 hk; obtain ⟨hu1, hu2, hu3⟩ := hown9.upd (i := k) hv; obtain ⟨j, hj⟩ : ∃ j, n1 - k = j + 1 := ⟨n1 - k - 1, by omega⟩; obtain ⟨X', HX'⟩ : ∃ X', Hid (X' = X.set k s) := ⟨_, rfl⟩
      have HXE9 : Hid (X' = List.replicate (k + 1) s ++ List.replicate (n1 - (k + 1)) nilP) := by
       show _ = _
       rw [HX'.out, HXE.out, hj, show n1 - (k + 1) = j by omega, List.replicate_succ (n := j), set_mid (by simp), List.replicate_succ' (n := k), List.append_assoc]; rfl
      rw [← HX'.out] at hu1; have hbx9 := below_own (hbx.trans (hb9.mono hbx.size)) hu3 hgXo (Nat.le_trans hbx.size hb9.size); clear hown hown9 HXE hu2 hu3 hv S0 S1' hj; go_wp2_with fail
      go_roundg (G2 - 1)
      case measure => omega
      case rel => exact ⟨k + 1, X', by go_num, by omega, HXE9, hu1, hbx9⟩
     ·have t4 : decide ((k : Int) < (n1 : Int)) = false := by simp; omega
      have hX9 : Hid (X = List.replicate (m + 1) s) := by
       show _ = _
       rw [HXE.out, show n1 - k = 0 by omega, show k = m + 1 by have := HN1.out; omega]; simp
      have hbA := bA wx (.cells #[.slice (some ⟨gX, 0, none⟩) n1 n1] 36); have hown6 := hown.below hbA; have hbx6 := Below.tr hbx hbA; have hrd6 := Rd.newC wx 36 [.slice (some ⟨gX, 0, none⟩) n1 n1]; have hlen : rows.length ≤ 1048576 := by have := HRL.out; omega
      have hBP6 := (hBP.below hbx hltP).below hbA (Nat.lt_of_lt_of_le hltP hbx.size); have hbs : gP + 1 ≤ wo.heap.size := hltP; have P2 := (hBP.below hbx hltP).cell 2; simp only [List.getElem?_toArray, List.getElem?_cons_zero, List.getElem?_cons_succ] at P2
      go_wp2_with (at_builtin; go_loud (refine wpList_push2 rfl (.tmp 42) (.tmp 44) rfl wo (gP + 1) _ rows rfl hrs hbx6 (some ⟨wx.heap.size, 0, none⟩) 1 (some ⟨gX, 0, none⟩) n1 n1 X rfl hown6 hrd6 hlen hbs ?_); intro v7 w7 hrs7 hg7 hkp7; obtain ⟨rows7, HR7⟩ : ∃ r, Hid (r = rows ++ [X]) := ⟨_, rfl⟩; rw [← HR7.out] at hrs7; have HRL7 : Hid (rows7.length = m + 1) := (by show _ = _; rw [HR7.out, List.length_append, HRL.out]; rfl); obtain ⟨n7, HN7⟩ : ∃ y, Hid (y = m + 1) := ⟨_, rfl⟩; obtain ⟨S7, c7, rfl⟩ := hrs7.shp; rw [HRL7.out, ← HN7.out] at hrs7; rw [HRL7.out, ← HN7.out]; have hBP7 := hBP6.grown hg7 (fun j hj => by have := hrs.ge j hj; omega); have f7 := hBP7.cell 2; have f8 := hBP7.frozen 2; simp only [List.getElem?_toArray, List.getElem?_cons_zero, List.getElem?_cons_succ] at f7)
      have HRE7 : Hid (rows7 = evenR s (m + 1)) := by
       show _ = _
       rw [HR7.out, HRE.out, evenR_succ, hX9.out]
      have hbe7 : Below w2.heap.size w2 w7 := (hbe.trans (hbx6.mono hbe.size)).grown hg7 (Nat.le_trans hbe.size hbx6.size) (fun j hj => by have := hrs.ge j hj; have := hgP.out; omega); have hBP8 := hBP7.set_ 2 (.slice S7 n7 c7); have hrs8 := hrs7.keepG (KeepG.set hBP7 (noU_sl _ _ _ _ _ _ _ _ _) (Nat.lt_succ_self gP) 2 (.slice S7 n7 c7)); have hbe8 := hbe7.setCell (p := ⟨gP, 2, none⟩) (by have := hgP.out; show w2.heap.size ≤ gP; omega) (.slice S7 n7 c7); simp only [sA, sB, sC] at hBP8; clear hown hown6 hrs7 hrs hg7 hkp7 hBP7 hBP6 hbx6 hbA hrd6 hBP; rw [HN7.out] at hBP8 hrs8 hbe8; go_wp2_with fail
      go_roundg (G - 1)
      case measure => omega
      case rel => rw [HN7.out]; exact ⟨m + 1, rows7, S7, c7, by go_num, by omega, HRE7, hBP8, hrs8, hbe8⟩
   ·have t3 : decide ((m : Int) < (nn : Int)) = false := by simp; omega
    have hmn : Hid (m = nn) := (by omega : m = nn); have hpl : PlanV wo (.agg #[.slice X1 xk1 xc1, .slice X2 xk2 xc2, .slice S m cS]) b rows := ⟨_, _, S, m, cS, rfl, hbd.below hbe, hrs.rows (by have := HRL.out; omega) (fun r hr => by rw [HRE.out] at hr; have := evenR_row r hr; omega)⟩; have P0 := hBP.cell 0; have P1 := hBP.cell 1; have P2 := hBP.cell 2; simp only [List.getElem?_toArray, List.getElem?_cons_zero, List.getElem?_cons_succ] at P0 P1 P2; go_wp2_with fail; refine (wvalid_F _ b rows _ hpl).mono ?_; rintro e w8 ⟨rfl, hb8⟩; have hbe8 := hbe.trans (hb8.mono hbe.size); have hb9 := hb12.trans (hbe8.mono hb12.size); have P0 := cell_keep hb8 P0; have P1 := cell_keep hb8 P1; have P2 := cell_keep hb8 P2; have HE3 : Hid (E = planE b rows) := by show _ = _; rw [HE2.out, HRE.out, hmn.out]
    by_cases h0 : planE b rows = 0
    ·obtain ⟨hz1, hz2⟩ := HZ.out (by rw [HE3.out]; exact h0); have hz1 := Lib.hid hz1; have hz2 := Lib.hid hz2; have hBRo := hBR.below hbe8 hRlt; have q0 := hBRo.cell 0; have q1 := hBRo.cell 1; have q2 := hBRo.cell 2; have r0 := hBRo.frozen 0; have r1 := hBRo.frozen 1; have r2 := hBRo.frozen 2; simp only [List.getElem?_toArray, List.getElem?_cons_zero, List.getElem?_cons_succ] at q0 q1 q2; have hf := ((hBRo.set_ 0 (.slice X1 xk1 xc1)).set_ 1 (.slice X2 xk2 xc2)).set_ 2 (.slice S m cS); have z0 := hf.cell 0; have z1 := hf.cell 1; have z2 := hf.cell 2; simp at z0 z1 z2; have hk3 := KeepG.set3 (base := gP + 1) hBRo (by have := hgP.out; omega) X1 xk1 xc1 X2 xk2 xc2 S m cS; have hbz : Below w.heap.size w (((w8.setCell ⟨gR, 0, none⟩ (.slice X1 xk1 xc1)).setCell ⟨gR, 1, none⟩ (.slice X2 xk2 xc2)).setCell ⟨gR, 2, none⟩ (.slice S m cS)) := ((hb9.setCell (p := ⟨gR, 0, none⟩) hgr _).setCell (p := ⟨gR, 1, none⟩) hgr _).setCell (p := ⟨gR, 2, none⟩) hgr _; have hpz : PlanV (((w8.setCell ⟨gR, 0, none⟩ (.slice X1 xk1 xc1)).setCell ⟨gR, 1, none⟩ (.slice X2 xk2 xc2)).setCell ⟨gR, 2, none⟩ (.slice S m cS)) (.agg #[.slice X1 xk1 xc1, .slice X2 xk2 xc2, .slice S m cS]) b rows := ⟨_, _, S, m, cS, rfl, (hbd.below hbe8).mapL hk3.lim, ((hrs.below hb8).keepG hk3).rows (by have := HRL.out; omega) (fun r hr => by rw [HRE.out] at hr; have := evenR_row r hr; omega)⟩; have HF : Hid (E = 0) := by show _ = _; rw [HE3.out]; exact h0
     have HRR : Hid (rr = rows) := by show _ = _; rw [hz2.out, HRE.out, hmn.out]
     rw [h0]; have hpo : PlanO (((w8.setCell ⟨gR, 0, none⟩ (.slice X1 xk1 xc1)).setCell ⟨gR, 1, none⟩ (.slice X2 xk2 xc2)).setCell ⟨gR, 2, none⟩ (.slice S m cS)) w.heap.size (.agg #[.slice X1 xk1 xc1, .slice X2 xk2 xc2, .slice S m cS]) b rows := ⟨_, _, _, _, _, _, _, _, _, rfl, (hbd.below hbe8).mapL hk3.lim, ((hrs.below hb8).keepG hk3).mono (by have := hgP.out; have := hb12.size; omega)⟩; clear hBRo hf hpl hrs hBP hmn hk3 hpz; go_wp2_with fail; exact bodyPost_ret (v := .tuple #[.agg #[.slice X1 xk1 xc1, .slice X2 xk2 xc2, .slice S m cS], .int .i64 0]) (by simp [results, Try.results24, go_sem, z0, z1, z2]) rfl ⟨_, by rw [HF.out], fun _ => by have e : evenR s nn = rows := hz2.out.symm.trans HRR.out; show PlanO _ _ _ _ (evenR s nn); rw [e]; exact hpo, hbz⟩
    ·have t5 : (planE b rows != 0) = true := by simpa using h0
     have HNE : Hid (E ≠ 0) := by show _ ≠ _; rw [HE3.out]; exact h0
     obtain ⟨hz1, hz2⟩ := HNZ.out (by rw [HE3.out]; exact h0); have hz1 := Lib.hid hz1; have hz2 := Lib.hid hz2; have hBRo := hBR.below hbe8 hRlt; have q0 := hBRo.cell 0; have q1 := hBRo.cell 1; have q2 := hBRo.cell 2; have r0 := hBRo.frozen 0; have r1 := hBRo.frozen 1; have r2 := hBRo.frozen 2; simp only [List.getElem?_toArray, List.getElem?_cons_zero, List.getElem?_cons_succ] at q0 q1 q2; have hf := ((hBRo.set_ 0 (.slice none 0 0)).set_ 1 (.slice none 0 0)).set_ 2 (.slice none 0 0); have z0 := hf.cell 0; have z1 := hf.cell 1; have z2 := hf.cell 2; simp at z0 z1 z2; have hbz : Below w.heap.size w (((w8.setCell ⟨gR, 0, none⟩ (.slice none 0 0)).setCell ⟨gR, 1, none⟩ (.slice none 0 0)).setCell ⟨gR, 2, none⟩ (.slice none 0 0)) := ((hb9.setCell (p := ⟨gR, 0, none⟩) hgr _).setCell (p := ⟨gR, 1, none⟩) hgr _).setCell (p := ⟨gR, 2, none⟩) hgr _; clear hBRo hf hpl hrs hBP hmn h0; go_wp2_with fail; exact bodyPost_ret (v := .tuple #[.agg #[.slice none 0 0, .slice none 0 0, .slice none 0 0], .int .i64 _]) (by simp [results, Try.results24, go_sem, z0, z1, z2]; rfl) rfl ⟨_, by rw [HE3.out], fun h => absurd h HNE.out, hbz⟩
end Go.Proofs.Ytnjjdiilkhdbeaa
namespace Go.Proofs.Ytnjjdiilkhdbeaa
open Go Go.RowKit
/- A drawn region that makes a plan and stores it into a block of its own: rows are told from the block by their types. -/
def Sq (w : World) (g : Nat) : Prop := ∃ A k c A' k' c' S kS cS, Blk w g 38 #[.slice A k c, .slice A' k' c', .slice S kS cS]
theorem Sq.lt {w : World} {g : Nat} (h : Sq w g) : g < w.heap.size := by
 obtain ⟨_, _, _, _, _, _, _, _, _, hb⟩ := h; exact hb.lt
theorem Sq.below {w w' : World} {g : Nat} (h : Sq w g) (hb : Below w.heap.size w w') : Sq w' g := by
 have hl := h.lt; obtain ⟨A, k, c, A', k', c', S, kS, cS, h⟩ := h; exact ⟨A, k, c, A', k', c', S, kS, cS, Blk.below h hb hl⟩
/-- what such a region's operation may do to the world -/
structure RQ (N : Nat) (w w' : World) : Prop where
 be : Below N w w'
 lim : ∀ A c l, Lim w A c l → Lim w' A c l
 sq : ∀ g, Sq w g → Sq w' g
 ty : ∀ (g : Nat) cur e, w.heap[g]? = some (.cells cur e) → e ≠ 38 → w'.heap[g]? = some (.cells cur e)
theorem RQ.refl (N : Nat) (w : World) : RQ N w w := ⟨Below.refl _ _, fun _ _ _ h => h, fun _ h => h, fun _ _ _ h _ => h⟩
theorem RQ.below {N : Nat} {w w' : World} (hb : Below w.heap.size w w') (hN : N ≤ w.heap.size) : RQ N w w' :=
 ⟨hb.mono hN, fun _ _ _ h => h.below hb, fun _ h => h.below hb, fun g cur e h _ => (hb.block g (Array.getElem?_eq_some_iff.1 h).1).trans h⟩
theorem RQ.store {N g : Nat} {w : World} (hs : Sq w g) (hg : N ≤ g) (A : Option Addr) (k c : Nat) (A' : Option Addr) (k' c' : Nat) (S : Option Addr) (kS cS : Nat) : RQ N w (((w.setCell ⟨g, 0, none⟩ (.slice A k c)).setCell ⟨g, 1, none⟩ (.slice A' k' c')).setCell ⟨g, 2, none⟩ (.slice S kS cS)) := by
 obtain ⟨a, b, c0, d, e, f, u, v, x, hb⟩ := hs; have hk := KeepG.set3 (base := g + 1) hb (Nat.lt_succ_self g) A k c A' k' c' S kS cS; have hf := ((hb.set_ 0 (.slice A k c)).set_ 1 (.slice A' k' c')).set_ 2 (.slice S kS cS)
 have key : ∀ b, b ≠ g → ((((w.setCell ⟨g, 0, none⟩ (.slice A k c)).setCell ⟨g, 1, none⟩ (.slice A' k' c')).setCell ⟨g, 2, none⟩ (.slice S kS cS)).heap[b]?) = w.heap[b]? := fun b hne =>
  (Below.heap_setCell _ ⟨g, 2, none⟩ _ b hne).trans ((Below.heap_setCell _ ⟨g, 1, none⟩ _ b hne).trans (Below.heap_setCell _ ⟨g, 0, none⟩ _ b hne))
 refine ⟨(((Below.refl N w).setCell (p := ⟨g, 0, none⟩) hg _).setCell (p := ⟨g, 1, none⟩) hg _).setCell (p := ⟨g, 2, none⟩) hg _, hk.lim, fun h hh => ?_, fun h cur t hc hne => ?_⟩
 ·by_cases e : h = g
  ·subst e; exact ⟨_, _, _, _, _, _, _, _, _, hf⟩
  ·obtain ⟨a, b, c0, d, e', f, u, v, x, hb2⟩ := hh; exact ⟨a, b, c0, d, e', f, u, v, x, (key h e).trans hb2⟩
 ·have e : h ≠ g := by
   rintro rfl; have := hb.symm.trans hc; injection this with this; injection this with _ h2; exact hne h2.symm
  exact (key h e).trans hc
theorem own_ty {w : World} {base : Nat} {e : TypeId} {size : Nat} {v : Value} {n : Nat} {xs : List Value} (h : w.ownsRow base e size v n xs) : ∀ g, v.ownBlock = some g → ∃ cur, w.heap[g]? = some (.cells cur e) := by
 intro g hg
 rcases h.2 with ⟨rfl, _⟩ | ⟨g', cap, cur, rfl, hb, hh, r⟩
 ·cases hg
 ·injection hg with hg; subst hg; exact ⟨_, hh⟩
theorem RQ.same {N : Nat} {w w' : World} (k : RQ N w w') {base : Nat} {e : TypeId} {size : Nat} {v : Value} {n : Nat} {xs : List Value} (h : w.ownsRow base e size v n xs) (he : e ≠ 38) : ∀ g, v.ownBlock = some g → w'.heap[g]? = w.heap[g]? := by
 intro g hg; obtain ⟨cur, hc⟩ := own_ty h g hg; rw [hc]; exact k.ty g cur e hc he
theorem OwnAll.keepQ {Pr : Value → Prop} {w w' : World} {v : Value} (h : OwnAll Pr w v) (k : ∀ g, v.ownBlock = some g → w'.heap[g]? = w.heap[g]?) : OwnAll Pr w' v := by
 intro g hg i x hx; rw [World.cell?_of_block (k g hg)] at hx; exact h g hg i x hx
theorem RatOwn.keepQ {N : Nat} {w w' : World} {base : Nat} {v : Value} {X : List LP} (h : RatOwn w base v X) (k : RQ N w w') : RatOwn w' base v X := by
 obtain ⟨ps, h1, h2, h3, h4⟩ := h; have hk := k.same h1 (by decide); exact ⟨ps, ownsRow_keep h1 hk, h2, h3.keepQ hk, fun i p x e1 e2 => (h4 i p x e1 e2).mapL k.lim⟩
theorem RatsOwn.keepQ {N : Nat} {w w' : World} {base : Nat} {v : Value} {rows : List (List LP)} (h : RatsOwn w base v rows) (k : RQ N w w') : RatsOwn w' base v rows := by
 obtain ⟨ss, h1, h2, h3, h4, h5⟩ := h; have hk := k.same h1 (by decide); exact ⟨ss, ownsRow_keep h1 hk, h2, h3.keepQ hk, fun i s r e1 e2 => (h4 i s r e1 e2).keepQ k, h5⟩
theorem PlanO.keepQ {N : Nat} {w w' : World} {base : Nat} {v : Value} {b : LP} {rows : List (List LP)} (h : PlanO w base v b rows) (k : RQ N w w') : PlanO w' base v b rows := by
 obtain ⟨A1, k1, c1, A2, k2, c2, S, kS, cS, e, h1, h2⟩ := h; exact ⟨A1, k1, c1, A2, k2, c2, S, kS, cS, e, h1.mapL k.lim, h2.keepQ k⟩
/-- an even plan that Even made -/
def EvP (w : World) (base : Nat) (v : Value) (b : LP) (z : Nat) : Prop := ∃ p q, Nm.Good p q ∧ wrongB b (ratP p q) = false ∧ PlanO w base v b (evenR (ratP p q) z)
theorem EvP.keepQ {N : Nat} {w w' : World} {base : Nat} {v : Value} {b : LP} {z : Nat} (h : EvP w base v b z) (k : RQ N w w') : EvP w' base v b z := by
 obtain ⟨p, q, h1, h2, h3⟩ := h; exact ⟨p, q, h1, h2, h3.keepQ k⟩
theorem EvP.mono {w : World} {base base' : Nat} {v : Value} {b : LP} {z : Nat} (h : EvP w base v b z) (hb : base' ≤ base) : EvP w base' v b z := by
 obtain ⟨p, q, h1, h2, A1, k1, c1, A2, k2, c2, S, kS, cS, e, h3, h4⟩ := h; exact ⟨p, q, h1, h2, A1, k1, c1, A2, k2, c2, S, kS, cS, e, h3, h4.mono hb⟩
theorem EvP.below {w w' : World} {base : Nat} {v : Value} {b : LP} {z : Nat} (h : EvP w base v b z) (hb : Below w.heap.size w w') : EvP w' base v b z := h.keepQ (RQ.below (N := 0) hb (Nat.zero_le _))
theorem exE9 {α β γ δ ε ζ η θ ι : Type} {p : α → β → γ → δ → ε → ζ → η → θ → ι → Prop} {G : Prop} (h : ∃ a b c d e f g h i, p a b c d e f g h i) (k : ∀ a b c d e f g h i, p a b c d e f g h i → G) : G := by
 obtain ⟨a, b, c, d, e, f, g, h, i, hp⟩ := h; exact k a b c d e f g h i hp
theorem EvP.shape {w : World} {base : Nat} {v : Value} {b : LP} {z : Nat} (h : EvP w base v b z) : ∃ A1 k1 c1 A2 k2 c2 S k c, v = .agg #[.slice A1 k1 c1, .slice A2 k2 c2, .slice S k c] := by
 obtain ⟨p, q, _, _, A1, k1, c1, A2, k2, c2, S, k, c, e, _⟩ := h; exact ⟨A1, k1, c1, A2, k2, c2, S, k, c, e⟩
theorem around_lt (n : Int) (m : Nat) (h : 0 < m) : aroundN n m < m := by unfold aroundN; exact Nat.mod_lt _ h
theorem even_zero {b s : LP} {z : Nat} (hz : z ≤ 16) (hp : partB b = true) (hw : wrongB b s = false) : planE b (evenR s z) = 0 := by
 refine planE_ok (by rw [evenR_len]; omega) hp ?_; intro i r e
 have hi : i < z := by
  have := (List.getElem?_eq_some_iff.1 e).1
  rwa [evenR_len] at this
 unfold evenR at e; rw [List.getElem?_map, List.getElem?_range hi] at e; simp only [Option.map_some, Option.some.injEq] at e; subst e; refine ⟨List.length_replicate, fun s' hs => ?_⟩; rw [List.eq_of_mem_replicate hs]; exact hw
theorem EvP.planV {w : World} {base : Nat} {v : Value} {b : LP} {z : Nat} (h : EvP w base v b z) (hz : z ≤ 16) (hp : partB b = true) : ∃ s, PlanV w v b (evenR s z) ∧ planE b (evenR s z) = 0 := by
 obtain ⟨p, q, hg, hw, A1, k1, c1, A2, k2, c2, S, k, c, rfl, h1, h2⟩ := h; refine ⟨ratP p q, ⟨_, _, S, k, c, rfl, h1, h2.rows (by rw [evenR_len]; omega) (fun r hr => ?_)⟩, even_zero hz hp hw⟩; have := evenR_row r hr; omega
/-- Even of a bound and a stake that fits -/
theorem even_ok (vb vs : Value) (b : LP) (n : Int) (z : Nat) (w : World) (hb0 : RtP w vb b) (hs0 : BetOk b w vs) (l1 : b.1.length ≤ 1048576) (l2 : b.2.length ≤ 1048576) (hn : n = (z : Int)) (hz : z ≤ 16) (hp : partB b = true) :
  Calls Try.prog 24 #[vb, vs, .int .i64 n] w fun e w' => ∃ v, e = .returned (.tuple #[v, .int .i64 0]) ∧ EvP w' w.heap.size v b z ∧ Below w.heap.size w w' := by
 obtain ⟨p, q, hs, hg, hw⟩ := hs0; have hl := hg.fits; refine (even_O vb vs b (ratP p q) n w hb0 hs l1 l2 (Nat.le_trans hl.1 (by omega)) (Nat.le_trans hl.2 (by omega))).mono ?_; rintro e w' ⟨v, rfl, h, hb⟩
 have h0 : evenE b (ratP p q) n = 0 := by
  unfold evenE; rw [if_neg (by omega), hn]; exact even_zero hz hp hw
 have h := h h0; rw [hn] at h; rw [h0]; exact ⟨v, rfl, ⟨p, q, hg, hw, h⟩, hb⟩
/-- what holds all along: jr the operation whose value is stored, ja that which made the block, js the store -/
structure SQ (w0 : World) (jr ja js : Nat) (L : Nat → Bool) (vs : Nat → Value) (w : World) : Prop where
 be : Below w0.heap.size w0 w
 st : L js = true → ∃ g A k c A' k' c' S kS cS, vs ja = .pointer (some ⟨g, 0, none⟩) ∧ vs jr = .agg #[.slice A k c, .slice A' k' c', .slice S kS cS] ∧ w0.heap.size ≤ g ∧ Blk w g 38 #[.slice A k c, .slice A' k' c', .slice S kS cS]
theorem SQ.start (w0 : World) (jr ja js : Nat) (vs : Nat → Value) : SQ w0 jr ja js (fun _ => false) vs w0.drew := ⟨bD _, fun h => by cases h⟩
theorem SQ.step {w0 : World} {jr ja js : Nat} {L : Nat → Bool} {vs : Nat → Value} {w w' : World} (h : SQ w0 jr ja js L vs w) (hb : Below w.heap.size w w') (i : Nat) (v : Value) (hi : ¬ (js = i)) (hj : (i = jr ∨ i = ja) → L js = false) : SQ w0 jr ja js (updB L i) (upd vs i v) w' := by
 refine ⟨h.be.trans (hb.mono h.be.size), fun hl => ?_⟩; have hl2 : L js = true := by unfold updB at hl; rwa [if_neg hi] at hl
 have n1 : ¬ (i = jr ∨ i = ja) := fun e => by rw [hj e] at hl2; cases hl2
 obtain ⟨g, A, k, c, A', k', c', S, kS, cS, e1, e2, hg, hblk⟩ := h.st hl2; exact ⟨g, A, k, c, A', k', c', S, kS, cS, by unfold upd; rw [if_neg (fun e => n1 (.inr e.symm))]; exact e1, by unfold upd; rw [if_neg (fun e => n1 (.inl e.symm))]; exact e2, hg, Blk.below hblk hb hblk.lt⟩
theorem SQ.stored {w0 : World} {jr ja js : Nat} {L : Nat → Bool} {vs : Nat → Value} {w : World} (h : SQ w0 jr ja js L vs w) {g : Nat} {A : Option Addr} {k c : Nat} {A' : Option Addr} {k' c' : Nat} {S : Option Addr} {kS cS : Nat} (e1 : vs ja = .pointer (some ⟨g, 0, none⟩)) (e2 : vs jr = .agg #[.slice A k c, .slice A' k' c', .slice S kS cS]) (hg : w0.heap.size ≤ g) (hs : Sq w g) (n1 : ¬ (ja = js)) (n2 : ¬ (jr = js)) (u : Value) :
  SQ w0 jr ja js (updB L js) (upd vs js u) (((w.setCell ⟨g, 0, none⟩ (.slice A k c)).setCell ⟨g, 1, none⟩ (.slice A' k' c')).setCell ⟨g, 2, none⟩ (.slice S kS cS)) := by
 refine ⟨h.be.trans (RQ.store hs hg A k c A' k' c' S kS cS).be, fun _ => ?_⟩; obtain ⟨a1, b1, c1, a2, b2, c2, a3, b3, c3, hb⟩ := hs; refine ⟨g, A, k, c, A', k', c', S, kS, cS, by unfold upd; rw [if_neg n1]; exact e1, by unfold upd; rw [if_neg n2]; exact e2, hg, ?_⟩; have := ((hb.set_ 0 (.slice A k c)).set_ 1 (.slice A' k' c')).set_ 2 (.slice S kS cS); exact this
theorem Sq.facts {w : World} {g : Nat} (h : Sq w g) : (∃ a, w.cell? ⟨g, 0, none⟩ = some a) ∧ (∃ a, w.cell? ⟨g, 1, none⟩ = some a) ∧ (∃ a, w.cell? ⟨g, 2, none⟩ = some a) ∧ w.frozen? ⟨g, 0, none⟩ = false ∧ w.frozen? ⟨g, 1, none⟩ = false ∧ w.frozen? ⟨g, 2, none⟩ = false := by
 obtain ⟨r1, r2, r3, r4, r5, r6, r7, r8, r9, hb⟩ := h; exact ⟨⟨_, hb.cell 0⟩, ⟨_, hb.cell 1⟩, ⟨_, hb.cell 2⟩, hb.frozen 0, hb.frozen 1, hb.frozen 2⟩
end Go.Proofs.Ytnjjdiilkhdbeaa
namespace Go.Proofs.Ytnjjdiilkhdbeaa
open Go Go.RowKit
/-- the factor of an even plan's outcome depends on the outcome alone -/
theorem even_fac {b s : LP} {N n k : Nat} (hn : n < N) (hk : k ≤ n) (x : Bool) : factorV b (evenR s N) n k x = stakeF b s x := by
 have h1 : (evenR s N)[n]? = some (List.replicate (n + 1) s) := by
  unfold evenR; rw [List.getElem?_map, List.getElem?_range hn]; rfl
 have h2 : (List.replicate (n + 1) s)[k]? = some s := by rw [List.getElem?_replicate, if_pos (by omega)]
 unfold factorV; simp only [h1, h2]
/-- the last capital of an even plan, in numbers -/
theorem even_last {b s : LP} {N A B D : Nat} (ht : Frac (stakeF b s true) A D) (hf : Frac (stakeF b s false) B D) (hA : A ≤ 2 ^ 24) (hB : B ≤ 2 ^ 24) (hD : D ≤ 2 ^ 16) : ∀ (bad : List Bool) (n k : Nat) (c : LP) (P Q m : Nat),
  Frac c P Q → P ≤ 2 ^ (24 * m) → Q ≤ 2 ^ (16 * m) → m + bad.length ≤ 80 → n + bad.length ≤ N → k ≤ n →
  Frac (lastC b (evenR s N) n k c bad) (P * (A ^ cntB bad * B ^ (bad.length - cntB bad))) (Q * D ^ bad.length)
 | [], _, _, c, P, Q, _, hc, _, _, _, _, _ => by
  unfold lastC cntB
  simpa using hc
 | x :: xs, n, k, c, P, Q, m, hc, hP, hQ, hm, hn, hk => by
  rw [List.length_cons] at hm hn; unfold lastC; rw [even_fac (by omega) hk]; have hx := cntB_le xs; have hD2 : Q * D ≤ 2 ^ (16 * (m + 1)) := by rw [Nat.mul_add, Nat.pow_add]; exact Nat.mul_le_mul hQ hD
  cases x
  ·have m1 : P * B ≤ 2 ^ (24 * (m + 1)) := by rw [Nat.mul_add, Nat.pow_add]; exact Nat.mul_le_mul hP hB
   have h1 := (hc.mul hf (lim_pow m1 (by omega)) (lim_pow hD2 (by omega))).1; have h2 := even_last (N := N) ht hf hA hB hD xs (n + 1) k _ _ _ (m + 1) h1 m1 hD2 (by omega) (by omega) (by omega); rw [List.length_cons, cntB_cons]; rw [show (if false = true then 1 else 0) + cntB xs = cntB xs by simp, show xs.length + 1 - cntB xs = xs.length - cntB xs + 1 by omega, Nat.pow_succ, Nat.pow_succ]; rw [show P * (A ^ cntB xs * (B ^ (xs.length - cntB xs) * B)) = P * B * (A ^ cntB xs * B ^ (xs.length - cntB xs)) by simp only [Nat.mul_assoc, Nat.mul_comm, Nat.mul_left_comm], show Q * (D ^ xs.length * D) = Q * D * D ^ xs.length by simp only [Nat.mul_assoc, Nat.mul_comm, Nat.mul_left_comm]]; exact h2
  ·have m1 : P * A ≤ 2 ^ (24 * (m + 1)) := by rw [Nat.mul_add, Nat.pow_add]; exact Nat.mul_le_mul hP hA
   have h1 := (hc.mul ht (lim_pow m1 (by omega)) (lim_pow hD2 (by omega))).1; have h2 := even_last (N := N) ht hf hA hB hD xs (n + 1) (k + 1) _ _ _ (m + 1) h1 m1 hD2 (by omega) (by omega) (by omega); rw [List.length_cons, cntB_cons]; rw [show (if true = true then 1 else 0) + cntB xs = cntB xs + 1 by simp [Nat.add_comm], show xs.length + 1 - (cntB xs + 1) = xs.length - cntB xs by omega, Nat.pow_succ, Nat.pow_succ]; rw [show P * (A ^ cntB xs * A * B ^ (xs.length - cntB xs)) = P * A * (A ^ cntB xs * B ^ (xs.length - cntB xs)) by simp only [Nat.mul_assoc, Nat.mul_comm, Nat.mul_left_comm], show Q * (D ^ xs.length * D) = Q * D * D ^ xs.length by simp only [Nat.mul_assoc, Nat.mul_comm, Nat.mul_left_comm]]; exact h2
/-- the last capital of an even plan is the same in every order -/
theorem even_law {b s : LP} {N pb qb : Nat} (h : PlanN b (evenR s N) pb qb) {x y : List Bool} (hl : x.length = y.length) (hc : cntB x = cntB y) (hN : x.length ≤ N) (h40 : x.length ≤ 40) :
  lastC b (evenR s N) 0 0 oneP x = lastC b (evenR s N) 0 0 oneP y := by
 by_cases h0 : N = 0
 ·have h1 : x = [] := List.eq_nil_of_length_eq_zero (by omega); have h2 : y = [] := List.eq_nil_of_length_eq_zero (by omega); rw [h1, h2]
 ·obtain ⟨ps, qs, hq, h1, h2, h3, ht, hf⟩ := h.fac 0 0; rw [even_fac (by omega) (by omega)] at ht hf; have m2 : qs * qb ≤ 255 * 255 := Nat.mul_le_mul h2 h.qle; have m3 : ps * (qb - pb) ≤ 255 * 255 := Nat.mul_le_mul h1 (by have := h.qle; omega); have ho := Frac.one (d := 1) (by omega) (b64 (by omega)); have k1 := even_last (N := N) ht hf (by omega) (by omega) (by omega) x 0 0 oneP 1 1 0 ho (by simp) (by simp) (by omega) (by omega) (by omega); have k2 := even_last (N := N) ht hf (by omega) (by omega) (by omega) y 0 0 oneP 1 1 0 ho (by simp) (by simp) (by omega) (by omega) (by omega); rw [hc, hl] at k1; exact k1.uniq k2 rfl
/-- a rotation of a list, or of its reverse -/
def turnO (odd : Bool) (l : List Bool) (r i : Nat) : Bool := (l[(if odd then l.length - 1 - (i + r) % l.length else (i + r) % l.length)]?).getD false
def turnL (odd : Bool) (l : List Bool) (r : Nat) : List Bool := (List.range l.length).map (turnO odd l r)
theorem rot_eq (l : List Bool) (r : Nat) (hr : r ≤ l.length) : (List.range l.length).map (fun i => (l[(i + r) % l.length]?).getD false) = l.drop r ++ l.take r := by
 refine List.ext_getElem? fun i => ?_
 by_cases hi : i < l.length
 ·rw [List.getElem?_map, List.getElem?_range hi]
  show some ((l[(i + r) % l.length]?).getD false) = _
  by_cases h1 : i + r < l.length
  ·rw [Nat.mod_eq_of_lt h1, List.getElem?_append_left (by rw [List.length_drop]; omega), List.getElem?_drop, Nat.add_comm r i, List.getElem?_eq_getElem h1]; rfl
  ·rw [List.getElem?_append_right (by rw [List.length_drop]; omega), List.length_drop, Nat.mod_eq_sub_mod (by omega), Nat.mod_eq_of_lt (by omega), List.getElem?_take, if_pos (by omega), show i - (l.length - r) = i + r - l.length by omega, List.getElem?_eq_getElem (show i + r - l.length < l.length by omega)]; rfl
 ·rw [List.getElem?_eq_none (by simp; omega), List.getElem?_eq_none (by simp; omega)]
theorem turn_cnt (odd : Bool) (l : List Bool) (r : Nat) (hr : r ≤ l.length) : cntB (turnL odd l r) = cntB l := by
 have key : ∀ m : List Bool, m.length = l.length → cntB ((List.range m.length).map fun i => (m[(i + r) % m.length]?).getD false) = cntB m := by
  intro m hm; rw [rot_eq m r (by omega)]; unfold cntB; rw [List.count_append, Nat.add_comm, ← List.count_append, List.take_append_drop]
 cases odd
 ·exact key l rfl
 ·have h := key l.reverse (by simp); have e : cntB l.reverse = cntB l := by unfold cntB; exact List.count_reverse
  rw [e] at h; rw [← h]; unfold turnL; rw [List.length_reverse]
  congr 1
  refine List.map_congr_left fun i hi => ?_
  rw [List.mem_range] at hi; have hlt : (i + r) % l.length < l.length := Nat.mod_lt _ (by omega); unfold turnO; rw [List.getElem?_reverse hlt]; rfl
theorem turn_len (odd : Bool) (l : List Bool) (r : Nat) : (turnL odd l r).length = l.length := by unfold turnL; simp
theorem turn_succ (odd : Bool) (l : List Bool) (r i : Nat) : (List.range (i + 1)).map (turnO odd l r) = (List.range i).map (turnO odd l r) ++ [turnO odd l r i] := by
 rw [List.range_succ, List.map_append]; rfl
end Go.Proofs.Ytnjjdiilkhdbeaa
namespace Go.Proofs.Ytnjjdiilkhdbeaa
open Go Go.RowKit
theorem tdiv13_bd (n : Int) (h1 : -9223372036854775808 ≤ n) (h2 : n ≤ 9223372036854775807) : -9223372036854775808 ≤ n.tdiv 13 ∧ n.tdiv 13 ≤ 9223372036854775807 := by
 by_cases h : 0 ≤ n
 ·rw [Int.tdiv_eq_ediv_of_nonneg h]; omega
 ·obtain ⟨m, rfl⟩ : ∃ m, n = -m := ⟨-n, by omega⟩; rw [Int.neg_tdiv, Int.tdiv_eq_ediv_of_nonneg (by omega)]; omega
set_option maxRecDepth 100000 in
set_option maxHeartbeats 4000000 in
theorem bet_Z (va : Value) (pb qb : Nat) (n : Int) (w : World) (hva : RtP w va (ratP pb qb)) (gb : Nm.Good pb qb) (hpb : pb ≤ 255) (hqb : qb ≤ 255) (hn1 : -9223372036854775808 ≤ n) (hn2 : n ≤ 9223372036854775807) (hz1 : pb = 0 → qb = 1) :
  Calls Try.prog 25 #[va, .int .i64 n] w fun e w' => ∃ v, e = .returned v ∧ BetOk (ratP pb qb) w' v ∧ Below w.heap.size w w' := by
 obtain ⟨A1, k1, c1, A2, k2, c2, rfl, hl1, hl2, e1, e2⟩ := hva
 have hk1 : k1 = 0 ↔ pb = 0 := by
  rw [e1]
  show (Nm.lb pb).length = 0 ↔ _
  rw [List.length_eq_zero_iff, Nm.lb_nil_iff]
 have hva : RtP w (.agg #[.slice A1 k1 c1, .slice A2 k2 c2]) (ratP pb qb) := ⟨_, _, _, _, _, _, rfl, hl1, hl2, e1, e2⟩; clear hl1 hl2 e1 e2
 go_enter Try.func25, Try.ntmps25
 go_upto_region 1 with fail; refine wp_name ?_; intro w1 HW1; have hb1 : Below w.heap.size w w1 := by rw [HW1.out]; exact Below.tr (bA _ _) (bA _ _)
 have hB1 : Blk w1 w.heap.size 25 #[.slice A1 k1 c1, .slice A2 k2 c2] := by rw [HW1.out]; exact Blk.below (Blk.newG rfl) (bA _ _) (Blk.newG rfl).lt
 have hs1 : Sl w1 (w.heap.size + 1) := by rw [HW1.out]; exact ⟨none, 0, 0, none, 0, 0, Blk.newG (by simp)⟩
 clear HW1; obtain ⟨gB, hgB⟩ : ∃ g, Hid (g = w.heap.size) := ⟨_, rfl⟩; obtain ⟨gr, hgrr⟩ : ∃ g, Hid (g = w.heap.size + 1) := ⟨_, rfl⟩; have hgr : w.heap.size ≤ gr := by have := hgrr.out; omega
 rw [← hgrr.out] at hs1 ⊢; rw [← hgB.out] at hB1 ⊢; have hva := hva.below hb1; have b0 := hB1.cell 0; have b1 := hB1.cell 1; simp only [List.getElem?_toArray, List.getElem?_cons_zero, List.getElem?_cons_succ] at b0 b1; clear hB1 hgB hgrr; by_cases h0 : pb = 0
 ·have hk0 := hk1.2 h0; have t1 : ((k1 : Int) == 0) = true := by simp; omega
  have hq := hz1 h0; subst h0 hq; clear hk1 hz1 hk0; go_wp2_with fail; refine (around_n n 13 _ hn1 hn2 (by omega) (by omega)).mono ?_; rintro e w' ⟨z, rfl, hz, _, rfl⟩; go_wp2_with fail; refine (around_n (n.tdiv 13) 4 _ (tdiv13_bd n hn1 hn2).1 (tdiv13_bd n hn1 hn2).2 (by omega) (by omega)).mono ?_; rintro e w' ⟨y, rfl, hy, _, rfl⟩; have s1 : IntKind.i64.wrap (1 + (y : Int)) = 1 + (y : Int) := by rw [IntWalk.i64_in _ (by omega)]
  have HO := rof_s z (1 + y) w1 (by omega) (by omega) (by omega); rw [show (((1 + y : Nat) : Nat) : Int) = 1 + (y : Int) by push_cast; rfl] at HO; obtain ⟨hg, hwr⟩ := bet_zero hz hy; go_wp2_with fail; refine HO.mono ?_; rintro e w2 ⟨C1, m1, d1, C2, m2, d2, rfl, hr, hb2⟩; have hbo : BetOk (ratP 0 1) w2 (.agg #[.slice C1 m1 d1, .slice C2 m2 d2]) := ⟨_, _, hr.1.rtP, hg, hwr⟩; clear HO hg hwr hr s1 b0 b1; go_upto_region 3 with fail; refine wp_name ?_; intro w3 HW3; have hb3 : Below w2.heap.size w2 w3 := by rw [HW3.out]; exact bA _ _
  have hB : Blk w3 w2.heap.size 25 #[.slice C1 m1 d1, .slice C2 m2 d2] := by rw [HW3.out]; exact Blk.new _ _ _
  have p0 := hB.cell 0; have p1 := hB.cell 1; simp only [List.getElem?_toArray, List.getElem?_cons_zero, List.getElem?_cons_succ] at p0 p1; obtain ⟨p, q, hpq, hg, hwr⟩ := hbo; have HGW := Lib.hid (And.intro hg hwr); clear HW3 hB hg hwr; obtain ⟨A, k', c, A', k'', c'', he, ⟨a1, u1⟩, ⟨a2, u2⟩, u3, u4, z1, z2, hr, hbz⟩ := ret_ratio (w0 := w) (hpq.below hb3) ((hs1.below hb2).below hb3) hgr (Below.tr (Below.tr hb1 hb2) hb3); simp only [Value.agg.injEq, Array.mk.injEq, List.cons.injEq, and_true, Value.slice.injEq] at he; obtain ⟨⟨rfl, rfl, rfl⟩, rfl, rfl, rfl⟩ := he; go_wp2_with fail; exact bodyPost_ret (v := .agg #[.slice C1 m1 d1, .slice C2 m2 d2]) (by simp [results, Try.results25, go_sem, z1, z2]) rfl ⟨_, rfl, ⟨p, q, hr, HGW.out⟩, hbz⟩
 ·have t1 : ((k1 : Int) == 0) = false := by
   simp; exact fun e => h0 (hk1.1 e)
  by_cases h5 : n.tmod 5 = 0
  ·have t2 : (n.tmod 5 == 0) = true := by simpa using h5
   have b0 := Lib.hid b0; have b1 := Lib.hid b1; obtain ⟨p, q, hpq, hg, hwr⟩ := bet_one gb h0 hpb hqb; have HGW := Lib.hid (And.intro hpq (And.intro hg hwr)); clear hpq hg hwr h5; go_upto_region 5 with fail; refine region_invW (PhiLs (.slice A1 k1 c1) (.slice A2 k2 c2) (divF oneP (ratP pb qb)).1 (divF oneP (ratP pb qb)).2 w1.heap.size) (RT w1.heap.size) (SD w1 4 6 7) (by kernel_rfl) (by kernel_rfl) (by kernel_rfl) PhiLs.keep (SD.start _ _ _ _ _) (fun vs => by simp only [fillR, Act.put, sA, sB, sC, Nat.zero_add, Nat.reduceAdd]; rfl) ?_ ?_
   ·refine sK ?_ (sK ?_ (sK ?_ (sK ?_ (sK ?_ (sK ?_ (sK ?_ (sK ?_ (sK ?_ (sZ)))))))))
    ·as_aux_lemma =>
     intro vs L W hS hL cl hdl hdep K hK; refine ⟨?_⟩; simp only [Act.put, sA, sB, sC, Nat.zero_add, Nat.reduceAdd] at hK ⊢; go_simp; refine (rone17_F _).mono ?_; rintro e w' ⟨v, rfl, hv, hb⟩; go_wp2_with fail; with_reducible refine hK _ _ (RT.below hb hS.be.size) (hS.step hb 0 _ (by decide) (fun e => absurd e (by decide))) ?_
     exact hv
    ·as_aux_lemma =>
     intro vs L W hS hL cl hdl hdep K hK; have f1 := cell_keep hS.be b0.out; have f2 := cell_keep hS.be b1.out; refine ⟨?_⟩; simp only [Act.put, sA, sB, sC, Nat.zero_add, Nat.reduceAdd] at hK ⊢; go_simp; with_reducible refine hK _ _ (RT.refl _ _) (hS.step (Below.refl _ _) 1 _ (by decide) (fun e => absurd e (by decide))) ?_
     exact rfl
    ·as_aux_lemma =>
     intro vs L W hS hL cl hdl hdep K hK; have d0 := hdep ⟨0, .data⟩ (by simp) rfl; simp only [PhiLs] at d0; have r0 := d0; clear d0; have d1 := hdep ⟨1, .data⟩ (by simp) rfl; simp only [PhiLs] at d1; refine ⟨?_⟩; simp only [Act.put, sA, sB, sC, Nat.zero_add, Nat.reduceAdd, d1] at hK ⊢; go_simp; refine (rdiv_F _ _ oneP (ratP pb qb) _ r0 (hva.below hS.be)).mono ?_; rintro e w' ⟨v, rfl, hn, hb⟩; go_wp2_with fail; with_reducible refine hK _ _ (RT.below hb hS.be.size) (hS.step hb 2 _ (by decide) (fun e => absurd e (by decide))) ?_
     exact ⟨v, rfl, hn⟩
    ·as_aux_lemma =>
     intro vs L W hS hL cl hdl hdep K hK; have d0 := hdep ⟨2, .data⟩ (by simp) rfl; simp only [PhiLs] at d0; refine @exE1 _ _ _ d0 ?_; clear d0; intro v0 d0; have e0 := d0.1; have n0 := d0.2; clear d0; refine ⟨?_⟩; simp only [Act.put, sA, sB, sC, Nat.zero_add, Nat.reduceAdd, e0] at hK ⊢; go_simp; with_reducible refine hK _ _ (RT.refl _ _) (hS.step (Below.refl _ _) 3 _ (by decide) (fun e => absurd e (by decide))) ?_
     exact ⟨_, rfl, n0⟩
    ·as_aux_lemma =>
     intro vs L W hS hL cl hdl hdep K hK; have d0 := hdep ⟨3, .data⟩ (by simp) rfl; simp only [PhiLs] at d0; refine @exE1 _ _ _ d0 ?_; clear d0; intro v0 d0; have e0 := d0.1; have n0 := d0.2; clear d0
     have h7 : L 7 = false := by
      cases h : L 7 with
      | false => rfl
      | true => exact absurd (cl 7 _ rfl h ⟨4, .data⟩ (by simp) rfl) (by rw [hL]; decide)
     obtain ⟨A, k, c, A', k', c', rfl⟩ := n0.shape; refine ⟨?_⟩; simp only [Act.put, sA, sB, sC, Nat.zero_add, Nat.reduceAdd, e0] at hK ⊢; go_simp; with_reducible refine hK _ _ (RT.refl _ _) (hS.step (Below.refl _ _) 4 _ (by decide) (fun _ => h7)) ?_
     exact ⟨_, _, _, _, _, _, rfl, n0⟩
    ·as_aux_lemma =>
     intro vs L W hS hL cl hdl hdep K hK; have d0 := hdep ⟨3, .data⟩ (by simp) rfl; simp only [PhiLs] at d0; refine @exE1 _ _ _ d0 ?_; clear d0; intro v0 d0; have e0 := d0.1; have n0 := d0.2; clear d0; refine ⟨?_⟩; simp only [Act.put, sA, sB, sC, Nat.zero_add, Nat.reduceAdd, e0] at hK ⊢; go_simp; with_reducible refine hK _ _ (RT.refl _ _) (hS.step (Below.refl _ _) 5 _ (by decide) (fun e => absurd e (by decide))) ?_
     exact rfl
    ·as_aux_lemma =>
     intro vs L W hS hL cl hdl hdep K hK
     have h7 : L 7 = false := by
      cases h : L 7 with
      | false => rfl
      | true => exact absurd (cl 7 _ rfl h ⟨6, .data⟩ (by simp) rfl) (by rw [hL]; decide)
     refine ⟨?_⟩; simp only [Act.put, sA, sB, sC, Nat.zero_add, Nat.reduceAdd] at hK ⊢; go_simp; with_reducible refine hK _ _ (RT.below (bA _ _) hS.be.size) (hS.step (bA _ _) 6 _ (by decide) (fun _ => h7)) ?_
     exact ⟨_, rfl, hS.be.size, none, 0, 0, none, 0, 0, Blk.new _ _ _⟩
    ·as_aux_lemma =>
     intro vs L W hS hL cl hdl hdep K hK; have d0 := hdep ⟨6, .data⟩ (by simp) rfl; simp only [PhiLs] at d0; refine @exE1 _ _ _ d0 ?_; clear d0; intro g0 d0; have e0 := d0.1; have l0 := d0.2.1; have s0 := d0.2.2; clear d0; have d1 := hdep ⟨4, .data⟩ (by simp) rfl; simp only [PhiLs] at d1; refine @exE6 _ _ _ _ _ _ _ _ d1 ?_; clear d1; intro A1 k1 c1 B1 m1 d1 d1; have e1 := d1.1; have n1 := d1.2; clear d1; obtain ⟨⟨a1, q1⟩, ⟨a2, q2⟩, q3, q4⟩ := s0.facts; refine ⟨?_⟩; simp only [Act.put, sA, sB, sC, Nat.zero_add, Nat.reduceAdd, e0, e1] at hK ⊢; go_simp; with_reducible refine hK undef _ (RT.store s0 l0 _ _ _ _ _ _) (hS.stored e0 e1 l0 s0 (by decide) (by decide) _) ?_
     exact trivial
    ·as_aux_lemma =>
     intro vs L W hS hL cl hdl hdep K hK; have d0 := hdep ⟨5, .data⟩ (by simp) rfl; simp only [PhiLs] at d0; refine ⟨?_⟩; simp only [Act.put, sA, sB, sC, Nat.zero_add, Nat.reduceAdd, d0] at hK ⊢; go_simp; with_reducible refine hK _ _ (RT.refl _ _) (hS.step (Below.refl _ _) 8 _ (by decide) (fun e => absurd e (by decide))) ?_
     exact rfl
   ·intro vs L w3 hS hall hv; have v8 := hv 4 (by simp); simp only [PhiLs] at v8; obtain ⟨_, _, _, _, _, _, e8', ho⟩ := v8; obtain ⟨g, A9, k9, c9, B9, m9, d9, e10, e8, hgN, hblk⟩ := hS.st (hall 7 (by simp)); rw [e8] at e8'; rw [← e8', HGW.out.1] at ho; have hbe := hS.be; have p0 := hblk.cell 0; have p1 := hblk.cell 1; simp only [List.getElem?_toArray, List.getElem?_cons_zero, List.getElem?_cons_succ] at p0 p1; simp only [Act.put, sA, sB, sC, Nat.zero_add, Nat.reduceAdd, e10, e8]; clear hblk hv hS hall e8' b0 b1; obtain ⟨A, k', c, A', k'', c'', he, ⟨a1, u1⟩, ⟨a2, u2⟩, u3, u4, z1, z2, hr, hbz⟩ := ret_ratio (w0 := w) ho (hs1.below hbe) hgr (Below.tr hb1 hbe); simp only [Value.agg.injEq, Array.mk.injEq, List.cons.injEq, and_true, Value.slice.injEq] at he; obtain ⟨⟨rfl, rfl, rfl⟩, rfl, rfl, rfl⟩ := he; go_wp2_with fail; exact bodyPost_ret (v := .agg #[.slice A9 k9 c9, .slice B9 m9 d9]) (by simp [results, Try.results25, go_sem, z1, z2]) rfl ⟨_, rfl, ⟨p, q, hr, HGW.out.2⟩, hbz⟩
  ·have t2 : (n.tmod 5 == 0) = false := by simpa using h5
   go_wp2_with fail; refine (around_n n 4 _ hn1 hn2 (by omega) (by omega)).mono ?_; rintro e w' ⟨z, rfl, hz, _, rfl⟩; have HO := rof_s z 4 w1 (by omega) (by omega) (by omega); obtain ⟨p, q, hpq, hg, hwr⟩ := bet_part gb h0 hpb hqb hz; have HGW := Lib.hid (And.intro hpq (And.intro hg hwr)); clear hpq hg hwr h5; go_wp2_with fail; refine HO.mono ?_; rintro e w2 ⟨C1, m1, d1, C2, m2, d2, rfl, hr, hb2⟩; have b0 := cell_keep hb2 b0; have b1 := cell_keep hb2 b1; clear HO; go_upto_region 8 with fail; refine wp_name ?_; intro w3 HW3; have hb3 : Below w2.heap.size w2 w3 := by rw [HW3.out]; exact bA _ _
   have hB : Blk w3 w2.heap.size 25 #[.slice C1 m1 d1, .slice C2 m2 d2] := by rw [HW3.out]; exact Blk.new _ _ _
   have p0 := hB.cell 0; have p1 := hB.cell 1; simp only [List.getElem?_toArray, List.getElem?_cons_zero, List.getElem?_cons_succ] at p0 p1; have b0 := cell_keep hb3 b0; have b1 := cell_keep hb3 b1; clear HW3 hB; go_wp2_with fail; refine (rdiv_F _ _ _ _ _ (hr.1.rtP.below hb3) ((hva.below hb2).below hb3)).mono ?_; rintro e w4 ⟨v, rfl, hv, hb4⟩; rw [HGW.out.1] at hv; obtain ⟨F1, l1, f1, F2, l2, f2, rfl⟩ := hv.shape; go_upto_region 9 with fail; refine wp_name ?_; intro w5 HW5; have hb5 : Below w4.heap.size w4 w5 := by rw [HW5.out]; exact bA _ _
   have hB5 : Blk w5 w4.heap.size 25 #[.slice F1 l1 f1, .slice F2 l2 f2] := by rw [HW5.out]; exact Blk.new _ _ _
   have y0 := hB5.cell 0; have y1 := hB5.cell 1; simp only [List.getElem?_toArray, List.getElem?_cons_zero, List.getElem?_cons_succ] at y0 y1; have hv5 := hv.below hb5; have hbw5 := Below.tr hb1 (Below.tr (Below.tr hb2 hb3) (Below.tr hb4 hb5)); have hs5 := ((hs1.below hb2).below hb3).below (Below.tr hb4 hb5); clear HW5 hB5 p0 p1 b0 b1 hr hv; go_wp2_with fail; refine (rsmall_F _ _ _ hv5).mono ?_; rintro e w6 ⟨rfl, hb6⟩; have y0 := cell_keep hb6 y0; have y1 := cell_keep hb6 y1; have hbw6 := Below.tr hbw5 hb6; have hs6 := hs5.below hb6; have hv6 := hv5.below hb6
   cases hsm : smallB (ratP p q)
   ·clear hsm y0 y1; obtain ⟨A, k', c, A', k'', c'', he, ⟨a1, u1⟩, ⟨a2, u2⟩, u3, u4, z1, z2, hr, hbz⟩ := ret_ratio (w0 := w) (nil_rtP w6) hs6 hgr hbw6; simp only [nilRat, Value.agg.injEq, Array.mk.injEq, List.cons.injEq, and_true, Value.slice.injEq] at he; obtain ⟨⟨rfl, rfl, rfl⟩, rfl, rfl, rfl⟩ := he; go_wp2_with fail; exact bodyPost_ret (v := .agg #[.slice none 0 0, .slice none 0 0]) (by simp [results, Try.results25, go_sem, z1, z2]) rfl ⟨_, rfl, ⟨0, 1, by rw [nil_ratP]; exact hr, g01, by rw [nil_ratP]; exact wrongB_nil gb hpb hqb⟩, hbz⟩
   ·have HW := Lib.hid (HGW.out.2.2 hsm); clear hsm; obtain ⟨A, k', c, A', k'', c'', he, ⟨a1, u1⟩, ⟨a2, u2⟩, u3, u4, z1, z2, hr, hbz⟩ := ret_ratio (w0 := w) hv6 hs6 hgr hbw6; simp only [Value.agg.injEq, Array.mk.injEq, List.cons.injEq, and_true, Value.slice.injEq] at he; obtain ⟨⟨rfl, rfl, rfl⟩, rfl, rfl, rfl⟩ := he; go_wp2_with fail; exact bodyPost_ret (v := .agg #[.slice F1 l1 f1, .slice F2 l2 f2]) (by simp [results, Try.results25, go_sem, z1, z2]) rfl ⟨_, rfl, ⟨p, q, hr, HGW.out.2.1, HW.out⟩, hbz⟩
end Go.Proofs.Ytnjjdiilkhdbeaa
namespace Go.Proofs.Ytnjjdiilkhdbeaa
open Go Go.RowKit
def PhiEe (x1 x2 : Value) (n : Int) (zN : Nat) (b : LP) (B : Nat) (j : Nat) (w : World) (x : Value) : Prop :=
 match j with
 | 0 => x = .agg #[x1, x2]
 | 1 => x = .agg #[x1, x2]
 | 2 => x = .int .i64 n
 | 3 => BetOk b w x
 | 4 => x = .int .i64 n
 | 5 => x = .int .i64 (zN : Nat)
 | 6 => ∃ v, x = .tuple #[v, .int .i64 0] ∧ EvP w B v b zN
 | 7 => ∃ v, x = .tuple #[v, .int .i64 0] ∧ EvP w B v b zN
 | 8 => ∃ A k c A' k' c' S kS cS, x = .agg #[.slice A k c, .slice A' k' c', .slice S kS cS] ∧ EvP w B (.agg #[.slice A k c, .slice A' k' c', .slice S kS cS]) b zN
 | 9 => x = .int .i64 0
 | 10 => ∃ g, x = .pointer (some ⟨g, 0, none⟩) ∧ B ≤ g ∧ Sq w g
 | 11 => True
 | 12 => x = .int .i64 0
 | _ => True
theorem PhiEe.keep {x1 x2 : Value} {n : Int} {zN : Nat} {b : LP} {B : Nat} : ∀ (w w' : World), RQ B w w' → ∀ j x, PhiEe x1 x2 n zN b B j w x → PhiEe x1 x2 n zN b B j w' x := by
 intro w w' hr j x h; unfold PhiEe at h ⊢
 split <;> simp only at h ⊢
 all_goals first
  | exact h
  | exact h.map hr.lim
  | (obtain ⟨v, e, h⟩ := h; exact ⟨v, e, h.keepQ hr⟩)
  | (obtain ⟨A, k, c, A', k', c', S, kS, cS, e, h⟩ := h; exact ⟨A, k, c, A', k', c', S, kS, cS, e, h.keepQ hr⟩)
  | (obtain ⟨g, e, h1, h2⟩ := h; exact ⟨g, e, h1, hr.sq g h2⟩)
def PhiEf (bX oX nX cX bY oY cY kb cb gP kS cS : Nat) (Ab S : Option Addr) (n : Int) (y1 y2 h1 h2 : Value) (j : Nat) (w : World) (x : Value) : Prop :=
 match j with
 | 0 => x = .slice (some ⟨bX, oX, none⟩) nX cX
 | 1 => x = .slice Ab kb cb
 | 2 => x = .int .i64 (kb : Nat)
 | 3 => x = .pointer (some ⟨bX, oX + kb * 2, none⟩)
 | 4 => x = .agg #[h1, h2]
 | 5 => x = .slice (some ⟨bY, oY, none⟩) nX cY
 | 6 => x = .slice Ab kb cb
 | 7 => x = .int .i64 (kb : Nat)
 | 8 => x = .pointer (some ⟨bY, oY + kb * 2, none⟩)
 | 9 => x = .agg #[y1, y2]
 | 10 => x = .bool true
 | 11 => x = .bool true
 | 12 => x = .pointer (some ⟨gP, 2, none⟩)
 | 13 => x = .slice S kS cS
 | 14 => x = .int .i64 (kS : Nat)
 | 15 => x = .int .i64 n
 | 16 => x = .int .i64 (kS : Nat)
 | 17 => x = .bool true
 | 18 => x = .bool true
 | 19 => x = .bool true
 | 20 => x = .bool true
 | 21 => x = .bool true
 | 22 => x = .bool true
 | _ => True
theorem PhiEf.keep {bX oX nX cX bY oY cY kb cb gP kS cS : Nat} {Ab S : Option Addr} {n : Int} {y1 y2 h1 h2 : Value} : ∀ (w w' : World), Below w.heap.size w w' → ∀ j x, PhiEf bX oX nX cX bY oY cY kb cb gP kS cS Ab S n y1 y2 h1 h2 j w x → PhiEf bX oX nX cX bY oY cY kb cb gP kS cS Ab S n y1 y2 h1 h2 j w' x := by
 intro w w' hb j x h; unfold PhiEf at h ⊢
 split <;> simp only at h ⊢
 all_goals first
  | exact h
  | exact h.below hb
set_option maxRecDepth 100000 in
set_option maxHeartbeats 40000000 in
theorem wager_even_n (a b_ n : Int) (A' : Option Addr) (k' c' : Nat) (l' : List Int) (turn : Int) (w : World) (ia : -9223372036854775808 ≤ a ∧ a ≤ 9223372036854775807) (ib : -9223372036854775808 ≤ b_ ∧ b_ ≤ 9223372036854775807) (i1 : -9223372036854775808 ≤ n ∧ n ≤ 9223372036854775807) (h' : RowL intC w A' k' l') (HL' : Hid (∀ x ∈ l', -9223372036854775808 ≤ x ∧ x ≤ 9223372036854775807)) (i2 : -9223372036854775808 ≤ turn ∧ turn ≤ 9223372036854775807) :
  Calls Try.prog 6 #[.int .i64 a, .int .i64 b_, .int .i64 n, .slice A' k' c', .int .i64 turn] w fun e w' => e = .returned (.bool true) ∧ Below w.heap.size w w' := by
 obtain ⟨i0, hi0, hzz0, hzz1, hzz2⟩ := info_parts info_bool
 go_enter Try.func6, Try.ntmps6
 go_wp2_with fail; refine (rpart_n a b_ _ ia.1 ia.2 ib.1 ib.2).mono ?_; rintro e w1 ⟨v, pb, qb, rfl, hRt, hG, hle, HK, hb1⟩; obtain ⟨V1, vk1, vc1, V2, vk2, vc2, rfl⟩ := hRt.shape
 have hqb24 : qb ≤ 24 := by
  obtain ⟨a0, k0, _, _, hk24, _, rfl⟩ := HK.out; exact Nat.le_trans (Nat.div_le_self _ _) hk24
 have hpb : pb ≤ 255 := by omega
 have hqb : qb ≤ 255 := by omega
 have hz0 : pb = 0 → qb = 1 := fun h0 => by have := hG.gcd; rwa [h0, Nat.gcd_zero_left] at this
 have hbd := hRt.rtP; have HPT := Lib.hid (part_good hG hle hqb); have hl1 : (ratP pb qb).1.length ≤ 1048576 := Nat.le_trans hG.fits.1 (by omega); have hl2 : (ratP pb qb).2.length ≤ 1048576 := Nat.le_trans hG.fits.2 (by omega); obtain ⟨zN, HZN⟩ : ∃ z, Hid (z = aroundN n 13) := ⟨_, rfl⟩
 have hzN : zN ≤ 16 := by
  have := around_lt n 13 (by omega); rw [HZN.out]; omega
 clear hRt HK hle; go_upto_region 2 with fail; refine wp_name ?_; intro w2 HW2; have hb2 : Below w1.heap.size w1 w2 := by rw [HW2.out]; exact bA _ _
 have hB2 : Blk w2 w1.heap.size 25 #[.slice V1 vk1 vc1, .slice V2 vk2 vc2] := by rw [HW2.out]; exact Blk.new _ _ _
 have b0 := hB2.cell 0; have b1 := hB2.cell 1; simp only [List.getElem?_toArray, List.getElem?_cons_zero, List.getElem?_cons_succ] at b0 b1; have hbd := hbd.below hb2; have hbw := Below.tr hb1 hb2; clear HW2 hB2; refine region_invW (PhiEe (.slice V1 vk1 vc1) (.slice V2 vk2 vc2) n zN (ratP pb qb) w2.heap.size) (RQ w2.heap.size) (SQ w2 8 10 11) (by kernel_rfl) (by kernel_rfl) (by kernel_rfl) PhiEe.keep (SQ.start _ _ _ _ _) (fun vs => by simp only [fillR, Act.put, sA, sB, sC, Nat.zero_add, Nat.reduceAdd]; rfl) ?_ ?_
 ·refine sK ?_ (sK ?_ (sK ?_ (sK ?_ (sK ?_ (sK ?_ (sK ?_ (sK ?_ (sK ?_ (sK ?_ (sK ?_ (sK ?_ (sK ?_ (sZ)))))))))))))
  ·as_aux_lemma =>
   intro vs L W hS hL cl hdl hdep K hK; have f1 := cell_keep hS.be b0; have f2 := cell_keep hS.be b1; refine ⟨?_⟩; simp only [Act.put, sA, sB, sC, Nat.zero_add, Nat.reduceAdd] at hK ⊢; go_simp; with_reducible refine hK _ _ (RQ.refl _ _) (hS.step (Below.refl _ _) 0 _ (by decide) (fun e => absurd e (by decide))) ?_
   exact rfl
  ·as_aux_lemma =>
   intro vs L W hS hL cl hdl hdep K hK; have f1 := cell_keep hS.be b0; have f2 := cell_keep hS.be b1; refine ⟨?_⟩; simp only [Act.put, sA, sB, sC, Nat.zero_add, Nat.reduceAdd] at hK ⊢; go_simp; with_reducible refine hK _ _ (RQ.refl _ _) (hS.step (Below.refl _ _) 1 _ (by decide) (fun e => absurd e (by decide))) ?_
   exact rfl
  ·as_aux_lemma =>
   intro vs L W hS hL cl hdl hdep K hK; refine ⟨?_⟩; simp only [Act.put, sA, sB, sC, Nat.zero_add, Nat.reduceAdd] at hK ⊢; go_simp; with_reducible refine hK _ _ (RQ.refl _ _) (hS.step (Below.refl _ _) 2 _ (by decide) (fun e => absurd e (by decide))) ?_
   exact rfl
  ·as_aux_lemma =>
   intro vs L W hS hL cl hdl hdep K hK; have d0 := hdep ⟨1, .data⟩ (by simp) rfl; simp only [PhiEe] at d0; have d1 := hdep ⟨2, .data⟩ (by simp) rfl; simp only [PhiEe] at d1; refine ⟨?_⟩; simp only [Act.put, sA, sB, sC, Nat.zero_add, Nat.reduceAdd, d0, d1] at hK ⊢; go_simp; refine (bet_Z _ pb qb n _ (hbd.below hS.be) hG (by omega) (by omega) i1.1 i1.2 hz0).mono ?_; rintro e w' ⟨v, rfl, hn, hb⟩; go_wp2_with fail; with_reducible refine hK _ _ (RQ.below hb hS.be.size) (hS.step hb 3 _ (by decide) (fun e => absurd e (by decide))) ?_
   exact hn
  ·as_aux_lemma =>
   intro vs L W hS hL cl hdl hdep K hK; refine ⟨?_⟩; simp only [Act.put, sA, sB, sC, Nat.zero_add, Nat.reduceAdd] at hK ⊢; go_simp; with_reducible refine hK _ _ (RQ.refl _ _) (hS.step (Below.refl _ _) 4 _ (by decide) (fun e => absurd e (by decide))) ?_
   exact rfl
  ·as_aux_lemma =>
   intro vs L W hS hL cl hdl hdep K hK; have d0 := hdep ⟨4, .data⟩ (by simp) rfl; simp only [PhiEe] at d0; refine ⟨?_⟩; simp only [Act.put, sA, sB, sC, Nat.zero_add, Nat.reduceAdd, d0] at hK ⊢; go_simp; refine (around_n n 13 _ i1.1 i1.2 (by omega) (by omega)).mono ?_; rintro e w' ⟨z, rfl, _, HZ, rfl⟩; go_wp2_with fail; with_reducible refine hK _ _ (RQ.refl _ _) (hS.step (Below.refl _ _) 5 _ (by decide) (fun e => absurd e (by decide))) ?_
   exact (congrArg (fun k : Nat => Value.int .i64 (k : Int)) (HZ.out.trans HZN.out.symm))
  ·as_aux_lemma =>
   intro vs L W hS hL cl hdl hdep K hK; have d0 := hdep ⟨0, .data⟩ (by simp) rfl; simp only [PhiEe] at d0; have d1 := hdep ⟨3, .data⟩ (by simp) rfl; simp only [PhiEe] at d1; have r1 := d1; clear d1; have d2 := hdep ⟨5, .data⟩ (by simp) rfl; simp only [PhiEe] at d2; obtain ⟨Y1, y1, z1, Y2, y2, z2, e1⟩ := r1.shape; rw [e1] at r1; refine ⟨?_⟩; simp only [Act.put, sA, sB, sC, Nat.zero_add, Nat.reduceAdd, d0, d2, e1] at hK ⊢; go_simp; refine (even_ok _ _ (ratP pb qb) _ zN _ (hbd.below hS.be) r1 hl1 hl2 rfl (by omega) HPT.out).mono ?_; rintro e w' ⟨v, rfl, hv, hb⟩; go_wp2_with fail; with_reducible refine hK _ _ (RQ.below hb hS.be.size) (hS.step hb 6 _ (by decide) (fun e => absurd e (by decide))) ?_
   exact ⟨_, rfl, hv.mono hS.be.size⟩
  ·as_aux_lemma =>
   intro vs L W hS hL cl hdl hdep K hK; have d0 := hdep ⟨6, .data⟩ (by simp) rfl; simp only [PhiEe] at d0; refine @exE1 _ _ _ d0 ?_; clear d0; intro v0 d0; have e0 := d0.1; have n0 := d0.2; clear d0; refine ⟨?_⟩; simp only [Act.put, sA, sB, sC, Nat.zero_add, Nat.reduceAdd, e0] at hK ⊢; go_simp; with_reducible refine hK _ _ (RQ.refl _ _) (hS.step (Below.refl _ _) 7 _ (by decide) (fun e => absurd e (by decide))) ?_
   exact ⟨_, rfl, n0⟩
  ·as_aux_lemma =>
   intro vs L W hS hL cl hdl hdep K hK; have d0 := hdep ⟨7, .data⟩ (by simp) rfl; simp only [PhiEe] at d0; refine @exE1 _ _ _ d0 ?_; clear d0; intro v0 d0; have e0 := d0.1; have n0 := d0.2; clear d0
   have h11 : L 11 = false := by
    cases h : L 11 with
    | false => rfl
    | true => exact absurd (cl 11 _ rfl h ⟨8, .data⟩ (by simp) rfl) (by rw [hL]; decide)
   obtain ⟨A, k, c, A', k', c', S, kS, cS, rfl⟩ := n0.shape; refine ⟨?_⟩; simp only [Act.put, sA, sB, sC, Nat.zero_add, Nat.reduceAdd, e0] at hK ⊢; go_simp; with_reducible refine hK _ _ (RQ.refl _ _) (hS.step (Below.refl _ _) 8 _ (by decide) (fun _ => h11)) ?_
   exact ⟨_, _, _, _, _, _, _, _, _, rfl, n0⟩
  ·as_aux_lemma =>
   intro vs L W hS hL cl hdl hdep K hK; have d0 := hdep ⟨7, .data⟩ (by simp) rfl; simp only [PhiEe] at d0; refine @exE1 _ _ _ d0 ?_; clear d0; intro v0 d0; have e0 := d0.1; have n0 := d0.2; clear d0; refine ⟨?_⟩; simp only [Act.put, sA, sB, sC, Nat.zero_add, Nat.reduceAdd, e0] at hK ⊢; go_simp; with_reducible refine hK _ _ (RQ.refl _ _) (hS.step (Below.refl _ _) 9 _ (by decide) (fun e => absurd e (by decide))) ?_
   exact rfl
  ·as_aux_lemma =>
   intro vs L W hS hL cl hdl hdep K hK
   have h11 : L 11 = false := by
    cases h : L 11 with
    | false => rfl
    | true => exact absurd (cl 11 _ rfl h ⟨10, .data⟩ (by simp) rfl) (by rw [hL]; decide)
   refine ⟨?_⟩; simp only [Act.put, sA, sB, sC, Nat.zero_add, Nat.reduceAdd] at hK ⊢; go_simp; with_reducible refine hK _ _ (RQ.below (bA _ _) hS.be.size) (hS.step (bA _ _) 10 _ (by decide) (fun _ => h11)) ?_
   exact ⟨_, rfl, hS.be.size, none, 0, 0, none, 0, 0, none, 0, 0, Blk.new _ _ _⟩
  ·as_aux_lemma =>
   intro vs L W hS hL cl hdl hdep K hK; have d0 := hdep ⟨10, .data⟩ (by simp) rfl; simp only [PhiEe] at d0; refine @exE1 _ _ _ d0 ?_; clear d0; intro g0 d0; have e0 := d0.1; have l0 := d0.2.1; have s0 := d0.2.2; clear d0; have d1 := hdep ⟨8, .data⟩ (by simp) rfl; simp only [PhiEe] at d1; refine @exE9 _ _ _ _ _ _ _ _ _ _ _ d1 ?_; clear d1; intro A1 k1 c1 B1 m1 d1 S1 p1 q1 d1; have e1 := d1.1; have n1 := d1.2; clear d1; obtain ⟨⟨a1, q1⟩, ⟨a2, q2⟩, ⟨a3, q3⟩, q4, q5, q6⟩ := s0.facts; refine ⟨?_⟩; simp only [Act.put, sA, sB, sC, Nat.zero_add, Nat.reduceAdd, e0, e1] at hK ⊢; go_simp; with_reducible refine hK undef _ (RQ.store s0 l0 _ _ _ _ _ _ _ _ _) (hS.stored e0 e1 l0 s0 (by decide) (by decide) _) ?_
   exact trivial
  ·as_aux_lemma =>
   intro vs L W hS hL cl hdl hdep K hK; have d0 := hdep ⟨9, .data⟩ (by simp) rfl; simp only [PhiEe] at d0; refine ⟨?_⟩; simp only [Act.put, sA, sB, sC, Nat.zero_add, Nat.reduceAdd, d0] at hK ⊢; go_simp; with_reducible refine hK _ _ (RQ.refl _ _) (hS.step (Below.refl _ _) 12 _ (by decide) (fun e => absurd e (by decide))) ?_
   exact rfl
 intro vs L w4 hS hall hv; have v12 := hv 12 (by simp); have v8 := hv 8 (by simp); simp only [PhiEe] at v12 v8; obtain ⟨_, _, _, _, _, _, _, _, _, e8', ho⟩ := v8; obtain ⟨gP, X1, xk1, xc1, X2, xk2, xc2, S, kS, cS, e10, e8, hgN, hblk⟩ := hS.st (hall 11 (by simp)); rw [e8] at e8'; rw [← e8'] at ho; have hbe := hS.be; clear hv hS hall e8'; simp only [Act.put, sA, sB, sC, Nat.zero_add, Nat.reduceAdd, v12, e10, e8]; have P0 := hblk.cell 0; have P1 := hblk.cell 1; have P2 := hblk.cell 2; simp only [List.getElem?_toArray, List.getElem?_cons_zero, List.getElem?_cons_succ] at P0 P1 P2; obtain ⟨s, hpl, hpe⟩ := ho.planV hzN HPT.out; have HPE := Lib.hid hpe
 have hkz : kS = zN := by
  obtain ⟨_, _, _, _, _, he, _, hrows⟩ := hpl; simp only [Value.agg.injEq, Array.mk.injEq, List.cons.injEq, and_true, Value.slice.injEq] at he; obtain ⟨_, _, _, hk, _⟩ := he; have := hrows.len; rw [evenR_len] at this; omega
 subst hkz; have hbw := Below.tr hbw hbe; have h2 := h'.below hbw; have HOK := Lib.hid hpl.okP; obtain ⟨pb', qb', hPN⟩ := planN_of HPE.out HOK.out.1 HOK.out.2; have HPN := Lib.hid hPN; clear ho hblk hpe v12 e10 e8 hbe HOK hPN b0 b1 hbd hb1 hb2; go_wp2_with fail; refine (bad_n A' k' c' kS l' _ h2 HL' (by omega)).mono ?_; rintro e wa ⟨v, bad, rfl, hown, hbl, hb⟩; obtain ⟨Ab, cb, rfl⟩ := own_shp hown; have hbad := own_any boolC_len (by omega) (by omega) hown; obtain ⟨kb, HKB⟩ : ∃ n, Hid (n = bad.length) := ⟨_, rfl⟩; rw [← HKB.out] at hbad hbl ⊢; have hpl := hpl.below hb; have P0 := cell_keep hb P0; have P1 := cell_keep hb P1; have P2 := cell_keep hb P2; have hbw := Below.tr hbw hb; clear hown hb h2; obtain ⟨rr, HRR⟩ : ∃ r, Hid (r = aroundN turn kb) := ⟨_, rfl⟩; obtain ⟨odd, HOD⟩ : ∃ o, Hid ((turn.tmod 2 != 0) = o) := ⟨_, rfl⟩; go_wp2_with fail
 go_loopg [15, 16] kb (fun j v x wr => ∃ (i : Nat) (Y : List Bool), x = .int .i64 i ∧ i + j = kb ∧ Hid (Y = (List.range i).map (turnO odd bad rr)) ∧ wr.ownsRow wa.heap.size 4 1 v i (Y.flatMap boolC) ∧ Below wa.heap.size wa wr)
 case atStart => exact ⟨0, [], rfl, by omega, rfl, World.ownsRow_nil _ _ _ _, Below.refl _ _⟩
 case round =>
  obtain ⟨G, hG1⟩ : ∃ G, G = gk := ⟨gk, rfl⟩; subst hG1; obtain ⟨i, Y, rfl, hij, HY, hown, hbe⟩ := hrel; obtain ⟨Ao, co, rfl⟩ := own_shp hown; by_cases hi : i < kb
  ·have t1 : decide ((i : Int) < (kb : Int)) = true := by simp; omega
   have hrr : rr < kb := by rw [HRR.out]; exact around_lt turn kb (by omega)
   obtain ⟨ix, HIX⟩ : ∃ x, Hid (x = (i + rr) % kb) := ⟨_, rfl⟩; have hix : ix < kb := by rw [HIX.out]; exact Nat.mod_lt _ (by omega)
   obtain ⟨jx, HJX⟩ : ∃ x, Hid (x = kb - 1 - ix) := ⟨_, rfl⟩; have s1 : IntKind.i64.wrap ((i : Int) + (rr : Int)) = (i : Int) + (rr : Int) := by rw [IntWalk.i64_in _ (by omega)]
   have s2 : ((i : Int) + (rr : Int)).tmod (kb : Int) = (ix : Int) := by rw [HIX.out, show (i : Int) + (rr : Int) = ((i + rr : Nat) : Int) by push_cast; rfl]; rfl
   have s3 : IntKind.i64.wrap ((kb : Int) - 1) = (kb : Int) - 1 := by rw [IntWalk.i64_in _ (by omega)]
   have s4 : IntKind.i64.wrap ((kb : Int) - 1 - (ix : Int)) = (jx : Int) := by rw [IntWalk.i64_in _ (by omega)]; have := HJX.out; omega
   have hk0 : (kb : Int) ≠ 0 := by omega
   have hk00 : ((kb : Int) == 0) = false := by simp; omega
   rcases Bool.eq_false_or_eq_true odd with ho | ho
   ·have t3 : (turn.tmod 2 != 0) = true := by rw [HOD.out, ho]
    obtain ⟨bB, oB, bb, hAe, hcb, HB⟩ := (hbad.below hbe).bool (show jx < kb by have := HJX.out; omega)
    have HT : Hid (turnO odd bad rr i = bb) := by
     show _ = _
     unfold turnO; rw [ho, ← HKB.out, ← HIX.out]; rw [if_pos rfl, ← HJX.out, HB.out]; rfl
    have hlx : (jx : Int) < (kb : Int) := by have := HJX.out; omega
    have hrd := Rd.newC wr 4 [.bool bb]; have hbA := bA wr (.cells #[.bool bb] 4); have hown3 := own_below hown hbA; have hbe3 := Below.tr hbe hbA; have hsz3 := hbe3.size; subst hAe; go_wp2_with fail; refine (around_n turn kb _ i2.1 i2.2 (by omega) (by omega)).mono ?_; rintro e w' ⟨z, rfl, _, HZ, rfl⟩; have hzr : z = rr := HZ.out.trans HRR.out.symm; subst hzr; clear HZ
    go_wp2_with (at_builtin; go_loud (refine wpList_append_any _ rfl (.tmp 63) (.tmp 68) _ rfl wa.heap.size 4 i0 _ 1 1 Try.underlying48 hi0 hzz0 hzz1 hzz2 rfl (by omega) _ i _ rfl hown3 _ 1 1 (boolC bb) rfl rfl hrd (by simp [boolC, Value.oneCell']) (by simp only [maxLen]; omega) (by omega) hsz3 ?_); intro v4 w4 hown4 hg4 hat4)
    have hbe4 : Below wa.heap.size wa w4 := hbe3.grown hg4 hsz3 (own_block_ge hown3); have hown5 : w4.ownsRow wa.heap.size 4 1 v4 (i + 1) ((Y ++ [bb]).flatMap boolC) := by rw [List.flatMap_append]; simpa using hown4
    have HY5 : Hid (Y ++ [bb] = (List.range (i + 1)).map (turnO odd bad z)) := by show _ = _; rw [turn_succ, HT.out, HY.out]
    obtain ⟨A5, c5, rfl⟩ := own_shp hown5; clear hown4 hown3 hg4 hat4 hbe3 hrd hbA hown HY; go_wp2_with fail
    go_roundg (G - 1)
    case measure => omega
    case rel => exact ⟨i + 1, Y ++ [bb], by go_num, by omega, HY5, hown5, hbe4⟩
   ·have t3 : (turn.tmod 2 != 0) = false := by rw [HOD.out, ho]
    obtain ⟨bB, oB, bb, hAe, hcb, HB⟩ := (hbad.below hbe).bool (show ix < kb by have := HIX.out; omega)
    have HT : Hid (turnO odd bad rr i = bb) := by
     show _ = _
     unfold turnO; rw [ho, ← HKB.out, ← HIX.out]; rw [if_neg (by decide), HB.out]; rfl
    have hlx : (ix : Int) < (kb : Int) := by have := HIX.out; omega
    have hrd := Rd.newC wr 4 [.bool bb]; have hbA := bA wr (.cells #[.bool bb] 4); have hown3 := own_below hown hbA; have hbe3 := Below.tr hbe hbA; have hsz3 := hbe3.size; subst hAe; go_wp2_with fail; refine (around_n turn kb _ i2.1 i2.2 (by omega) (by omega)).mono ?_; rintro e w' ⟨z, rfl, _, HZ, rfl⟩; have hzr : z = rr := HZ.out.trans HRR.out.symm; subst hzr; clear HZ
    go_wp2_with (at_builtin; go_loud (refine wpList_append_any _ rfl (.tmp 63) (.tmp 68) _ rfl wa.heap.size 4 i0 _ 1 1 Try.underlying48 hi0 hzz0 hzz1 hzz2 rfl (by omega) _ i _ rfl hown3 _ 1 1 (boolC bb) rfl rfl hrd (by simp [boolC, Value.oneCell']) (by simp only [maxLen]; omega) (by omega) hsz3 ?_); intro v4 w4 hown4 hg4 hat4)
    have hbe4 : Below wa.heap.size wa w4 := hbe3.grown hg4 hsz3 (own_block_ge hown3); have hown5 : w4.ownsRow wa.heap.size 4 1 v4 (i + 1) ((Y ++ [bb]).flatMap boolC) := by rw [List.flatMap_append]; simpa using hown4
    have HY5 : Hid (Y ++ [bb] = (List.range (i + 1)).map (turnO odd bad z)) := by show _ = _; rw [turn_succ, HT.out, HY.out]
    obtain ⟨A5, c5, rfl⟩ := own_shp hown5; clear hown4 hown3 hg4 hat4 hbe3 hrd hbA hown HY; go_wp2_with fail
    go_roundg (G - 1)
    case measure => omega
    case rel => exact ⟨i + 1, Y ++ [bb], by go_num, by omega, HY5, hown5, hbe4⟩
  ·have t1 : decide ((i : Int) < (kb : Int)) = false := by simp; omega
   have hik : i = kb := by omega
   subst hik; obtain ⟨other, HO⟩ : ∃ y, Hid (y = turnL odd bad rr) := ⟨_, rfl⟩; have hYO : Y = other := by rw [HY.out, HO.out, HKB.out]; rfl
   subst hYO; have hlenO : Y.length = i := by rw [HO.out, turn_len, HKB.out]
   have hcntO : Hid (cntB bad = cntB Y) := by
    show _ = _
    by_cases h0 : bad.length = 0
    ·have e0 : bad = [] := List.eq_nil_of_length_eq_zero h0; have e1 : Y = [] := List.eq_nil_of_length_eq_zero (by rw [hlenO, HKB.out]; exact h0); rw [e0, e1]
    ·rw [HO.out]; exact (turn_cnt odd bad rr (by rw [HRR.out, HKB.out]; exact Nat.le_of_lt (around_lt turn _ (by omega)))).symm
   have hoth := own_any boolC_len (by omega) (by omega) hown; have HLE := Lib.hid (even_law HPN.out (x := bad) (y := Y) (by rw [hlenO, HKB.out]) hcntO.out (by rw [← HKB.out]; exact hbl) (by rw [← HKB.out]; omega)); have hbad := hbad.below hbe; have hpl := hpl.below hbe; have P0 := cell_keep hbe P0; have P1 := cell_keep hbe P1; have P2 := cell_keep hbe P2; have hbw := Below.tr hbw hbe; obtain ⟨nX, HNX⟩ : ∃ n, Hid (n = i + 1) := ⟨_, rfl⟩; clear hown HO HY hbe hcntO; go_wp2_with fail; refine (caps_ok _ (ratP pb qb) _ Ab i cb nX bad _ hpl HPE.out hbad (by omega) HNX.out).mono ?_; rintro e w5 ⟨v, rfl, ⟨AX, cX, rfl, hX⟩, hb5⟩; have hpl := hpl.below hb5; have hoth := hoth.below hb5; have hbw := Below.tr hbw hb5; have P0 := cell_keep hb5 P0; have P1 := cell_keep hb5 P1; have P2 := cell_keep hb5 P2; go_wp2_with fail; refine (caps_ok _ (ratP pb qb) _ Ao i co nX Y _ hpl HPE.out hoth (by omega) HNX.out).mono ?_; rintro e w6 ⟨v, rfl, ⟨AY, cY, rfl, hY⟩, hb6⟩; have hX := hX.below hb6; have hbw := Below.tr hbw hb6; have P2 := cell_keep hb6 P2; clear P0 P1 hpl hoth hbad hb5 hb6; have s5 : IntKind.i64.wrap ((i : Int) + 1) = (i : Int) + 1 := by rw [IntWalk.i64_in _ (by omega)]
   have t4 : ((nX : Int) != (i : Int) + 1) = false := by have := HNX.out; simp; omega
   have t5 : ((nX : Int) != (nX : Int)) = false := by simp
   have l3 : i < nX := by have := HNX.out; omega
   have l3' : (i : Int) < (nX : Int) := by omega
   obtain ⟨bX, oX, h1', h2', y0, rfl, G1, G2, HC1, hhv⟩ := hX.at_ l3; obtain ⟨bY, oY, y1', y2', z0, rfl, Y1, Y2, HC2, hyv⟩ := hY.at_ l3; obtain ⟨yv, HYV⟩ : ∃ y, Hid (y = lastC (ratP pb qb) (evenR s kS) 0 0 oneP bad) := ⟨_, rfl⟩
   have hc1 : yv = y0 := by
    have h1 := capsV_last (b := ratP pb qb) (rows := evenR s kS) bad; rw [← HKB.out, HC1.out, ← HYV.out] at h1; injection h1 with h1; exact h1.symm
   have hc2 : yv = z0 := by
    have h1 := capsV_last (b := ratP pb qb) (rows := evenR s kS) Y; rw [hlenO, HC2.out, ← HLE.out, ← HYV.out] at h1; injection h1 with h1; exact h1.symm
   subst hc1; subst hc2; clear hX hY HC1 HC2 HLE HYV; go_upto_region 16 with fail; refine region_invF (PhiEf bX oX nX cX bY oY cY i cb gP kS cS Ab S n y1' y2' h1' h2') (fun w w' => Below w.heap.size w w') (fun W => Below w6.heap.size w6 W) (by kernel_rfl) (by kernel_rfl) (by kernel_rfl) PhiEf.keep (fun _ _ hR hS => Below.tr hS hR) (bD _) (fun vs => by simp only [fillR, Act.put, sA, sB, sC, Nat.zero_add, Nat.reduceAdd]; rfl) ?_ ?_
   ·refine sK ?_ (sK ?_ (sK ?_ (sK ?_ (sK ?_ (sK ?_ (sK ?_ (sK ?_ (sK ?_ (sK ?_ (sK ?_ (sK ?_ (sK ?_ (sK ?_ (sK ?_ (sK ?_ (sK ?_ (sK ?_ (sK ?_ (sK ?_ (sK ?_ (sK ?_ (sK ?_ (sZ)))))))))))))))))))))))
    ·as_aux_lemma =>
     intro vs W hS hdep K hK; refine ⟨?_⟩; simp only [Act.put, sA, sB, sC, Nat.zero_add, Nat.reduceAdd] at hK ⊢; go_simp; with_reducible refine hK _ _ (Below.refl _ _) ?_
     exact rfl
    ·as_aux_lemma =>
     intro vs W hS hdep K hK; refine ⟨?_⟩; simp only [Act.put, sA, sB, sC, Nat.zero_add, Nat.reduceAdd] at hK ⊢; go_simp; with_reducible refine hK _ _ (Below.refl _ _) ?_
     exact rfl
    ·as_aux_lemma =>
     intro vs W hS hdep K hK; have d0 := hdep ⟨1, .data⟩ (by simp) rfl; simp only [PhiEf] at d0; refine ⟨?_⟩; simp only [Act.put, sA, sB, sC, Nat.zero_add, Nat.reduceAdd, d0] at hK ⊢; go_simp; with_reducible refine hK _ _ (Below.refl _ _) ?_
     exact rfl
    ·as_aux_lemma =>
     intro vs W hS hdep K hK; have d0 := hdep ⟨0, .data⟩ (by simp) rfl; simp only [PhiEf] at d0; have d1 := hdep ⟨2, .data⟩ (by simp) rfl; simp only [PhiEf] at d1; refine ⟨?_⟩; simp only [Act.put, sA, sB, sC, Nat.zero_add, Nat.reduceAdd, d0, d1] at hK ⊢; go_simp; with_reducible refine hK _ _ (Below.refl _ _) ?_
     exact rfl
    ·as_aux_lemma =>
     intro vs W hS hdep K hK; have d0 := hdep ⟨3, .data⟩ (by simp) rfl; simp only [PhiEf] at d0; have f1 := cell_keep hS G1; have f2 := cell_keep hS G2; refine ⟨?_⟩; simp only [Act.put, sA, sB, sC, Nat.zero_add, Nat.reduceAdd, d0] at hK ⊢; go_simp; with_reducible refine hK _ _ (Below.refl _ _) ?_
     exact rfl
    ·as_aux_lemma =>
     intro vs W hS hdep K hK; refine ⟨?_⟩; simp only [Act.put, sA, sB, sC, Nat.zero_add, Nat.reduceAdd] at hK ⊢; go_simp; with_reducible refine hK _ _ (Below.refl _ _) ?_
     exact rfl
    ·as_aux_lemma =>
     intro vs W hS hdep K hK; refine ⟨?_⟩; simp only [Act.put, sA, sB, sC, Nat.zero_add, Nat.reduceAdd] at hK ⊢; go_simp; with_reducible refine hK _ _ (Below.refl _ _) ?_
     exact rfl
    ·as_aux_lemma =>
     intro vs W hS hdep K hK; have d0 := hdep ⟨6, .data⟩ (by simp) rfl; simp only [PhiEf] at d0; refine ⟨?_⟩; simp only [Act.put, sA, sB, sC, Nat.zero_add, Nat.reduceAdd, d0] at hK ⊢; go_simp; with_reducible refine hK _ _ (Below.refl _ _) ?_
     exact rfl
    ·as_aux_lemma =>
     intro vs W hS hdep K hK; have d0 := hdep ⟨5, .data⟩ (by simp) rfl; simp only [PhiEf] at d0; have d1 := hdep ⟨7, .data⟩ (by simp) rfl; simp only [PhiEf] at d1; refine ⟨?_⟩; simp only [Act.put, sA, sB, sC, Nat.zero_add, Nat.reduceAdd, d0, d1] at hK ⊢; go_simp; with_reducible refine hK _ _ (Below.refl _ _) ?_
     exact rfl
    ·as_aux_lemma =>
     intro vs W hS hdep K hK; have d0 := hdep ⟨8, .data⟩ (by simp) rfl; simp only [PhiEf] at d0; have f1 := cell_keep hS Y1; have f2 := cell_keep hS Y2; refine ⟨?_⟩; simp only [Act.put, sA, sB, sC, Nat.zero_add, Nat.reduceAdd, d0] at hK ⊢; go_simp; with_reducible refine hK _ _ (Below.refl _ _) ?_
     exact rfl
    ·as_aux_lemma =>
     intro vs W hS hdep K hK; have d0 := hdep ⟨4, .data⟩ (by simp) rfl; simp only [PhiEf] at d0; have d1 := hdep ⟨9, .data⟩ (by simp) rfl; simp only [PhiEf] at d1; refine ⟨?_⟩; simp only [Act.put, sA, sB, sC, Nat.zero_add, Nat.reduceAdd, d0, d1] at hK ⊢; go_simp; refine (psame_F _ _ yv _ (hhv.below hS) (hyv.below hS)).mono ?_; rintro e w' ⟨rfl, hb⟩; go_wp2_with fail; with_reducible refine hK _ _ hb ?_
     exact rfl
    ·as_aux_lemma =>
     intro vs W hS hdep K hK; have d0 := hdep ⟨10, .data⟩ (by simp) rfl; simp only [PhiEf] at d0; refine ⟨?_⟩; simp only [Act.put, sA, sB, sC, Nat.zero_add, Nat.reduceAdd, d0] at hK ⊢; go_simp; with_reducible refine hK _ _ (Below.refl _ _) ?_
     exact rfl
    ·as_aux_lemma =>
     intro vs W hS hdep K hK; have d0 := hdep ⟨11, .guard⟩ (by simp) rfl; simp only [PhiEf] at d0; refine ⟨?_⟩; simp only [Act.put, sA, sB, sC, Nat.zero_add, Nat.reduceAdd, d0] at hK ⊢; go_simp; with_reducible refine hK _ _ (Below.refl _ _) ?_
     exact rfl
    ·as_aux_lemma =>
     intro vs W hS hdep K hK; have d0 := hdep ⟨12, .data⟩ (by simp) rfl; simp only [PhiEf] at d0; have d1 := hdep ⟨11, .guard⟩ (by simp) rfl; simp only [PhiEf] at d1; have f1 := cell_keep hS P2; refine ⟨?_⟩; simp only [Act.put, sA, sB, sC, Nat.zero_add, Nat.reduceAdd, d0, d1] at hK ⊢; go_simp; with_reducible refine hK _ _ (Below.refl _ _) ?_
     exact rfl
    ·as_aux_lemma =>
     intro vs W hS hdep K hK; have d0 := hdep ⟨13, .data⟩ (by simp) rfl; simp only [PhiEf] at d0; have d1 := hdep ⟨11, .guard⟩ (by simp) rfl; simp only [PhiEf] at d1; refine ⟨?_⟩; simp only [Act.put, sA, sB, sC, Nat.zero_add, Nat.reduceAdd, d0, d1] at hK ⊢; go_simp; with_reducible refine hK _ _ (Below.refl _ _) ?_
     exact rfl
    ·as_aux_lemma =>
     intro vs W hS hdep K hK; have d0 := hdep ⟨11, .guard⟩ (by simp) rfl; simp only [PhiEf] at d0; refine ⟨?_⟩; simp only [Act.put, sA, sB, sC, Nat.zero_add, Nat.reduceAdd, d0] at hK ⊢; go_simp; with_reducible refine hK _ _ (Below.refl _ _) ?_
     exact rfl
    ·as_aux_lemma =>
     intro vs W hS hdep K hK; have d0 := hdep ⟨15, .data⟩ (by simp) rfl; simp only [PhiEf] at d0; have d1 := hdep ⟨11, .chain⟩ (by simp) rfl; simp only [PhiEf] at d1; refine ⟨?_⟩; simp only [Act.put, sA, sB, sC, Nat.zero_add, Nat.reduceAdd, d0, d1] at hK ⊢; go_simp; refine (around_n n 13 _ i1.1 i1.2 (by omega) (by omega)).mono ?_; rintro e w' ⟨z, rfl, _, HZ, rfl⟩; go_wp2_with fail; with_reducible refine hK _ _ (Below.refl _ _) ?_
     exact (congrArg (fun k : Nat => Value.int .i64 (k : Int)) (HZ.out.trans HZN.out.symm))
    ·as_aux_lemma =>
     intro vs W hS hdep K hK; have d0 := hdep ⟨14, .data⟩ (by simp) rfl; simp only [PhiEf] at d0; have d1 := hdep ⟨16, .data⟩ (by simp) rfl; simp only [PhiEf] at d1; have d2 := hdep ⟨11, .guard⟩ (by simp) rfl; simp only [PhiEf] at d2; refine ⟨?_⟩; simp only [Act.put, sA, sB, sC, Nat.zero_add, Nat.reduceAdd, d0, d1, d2] at hK ⊢; go_simp; with_reducible refine hK _ _ (Below.refl _ _) ?_
     exact rfl
    ·as_aux_lemma =>
     intro vs W hS hdep K hK; have d0 := hdep ⟨11, .data⟩ (by simp) rfl; simp only [PhiEf] at d0; have d1 := hdep ⟨17, .data⟩ (by simp) rfl; simp only [PhiEf] at d1; refine ⟨?_⟩; simp only [Act.put, sA, sB, sC, Nat.zero_add, Nat.reduceAdd, d0, d1] at hK ⊢; go_simp; with_reducible refine hK _ _ (Below.refl _ _) ?_
     exact rfl
    ·as_aux_lemma =>
     intro vs W hS hdep K hK; have d0 := hdep ⟨18, .data⟩ (by simp) rfl; simp only [PhiEf] at d0; have d1 := hdep ⟨16, .chain⟩ (by simp) rfl; simp only [PhiEf] at d1; refine ⟨?_⟩; simp only [Act.put, sA, sB, sC, Nat.zero_add, Nat.reduceAdd, d0, d1] at hK ⊢; go_simp; with_reducible refine hK _ _ (Below.refl _ _) ?_
     exact rfl
    ·as_aux_lemma =>
     intro vs W hS hdep K hK; have d0 := hdep ⟨19, .chain⟩ (by simp) rfl; simp only [PhiEf] at d0; refine ⟨?_⟩; simp only [Act.put, sA, sB, sC, Nat.zero_add, Nat.reduceAdd, d0] at hK ⊢; go_simp; refine (lives17_n _).mono ?_; rintro e w' ⟨rfl, hb⟩; go_wp2_with fail; with_reducible refine hK _ _ hb ?_
     exact rfl
    ·as_aux_lemma =>
     intro vs W hS hdep K hK; have d0 := hdep ⟨19, .data⟩ (by simp) rfl; simp only [PhiEf] at d0; have d1 := hdep ⟨20, .data⟩ (by simp) rfl; simp only [PhiEf] at d1; refine ⟨?_⟩; simp only [Act.put, sA, sB, sC, Nat.zero_add, Nat.reduceAdd, d0, d1] at hK ⊢; go_simp; with_reducible refine hK _ _ (Below.refl _ _) ?_
     exact rfl
    ·as_aux_lemma =>
     intro vs W hS hdep K hK; have d0 := hdep ⟨21, .data⟩ (by simp) rfl; simp only [PhiEf] at d0; have d1 := hdep ⟨20, .chain⟩ (by simp) rfl; simp only [PhiEf] at d1; refine ⟨?_⟩; simp only [Act.put, sA, sB, sC, Nat.zero_add, Nat.reduceAdd, d0, d1] at hK ⊢; go_simp; with_reducible refine hK _ _ (Below.refl _ _) ?_
     exact rfl
   intro vs3 w9 hb hv; have v22 := hv 22 (by simp); simp only [PhiEf] at v22; simp only [Act.put, sA, sB, sC, Nat.zero_add, Nat.reduceAdd, v22]; have hbw := Below.tr hbw hb; clear hv v22 hb Y1 Y2 G1 G2 hhv hyv; go_wp2_with fail; go_ret; exact ⟨rfl, hbw⟩
end Go.Proofs.Ytnjjdiilkhdbeaa
