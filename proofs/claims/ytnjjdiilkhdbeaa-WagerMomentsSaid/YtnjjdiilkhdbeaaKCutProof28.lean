import Derived.Test.YtnjjdiilkhdbeaaKCutProof27
import Derived.Test.YtnjjdiilkhdbeaaKCutProof25
import Derived.Test.YtnjjdiilkhdbeaaKCutProof24
import Derived.Test.YtnjjdiilkhdbeaaKCutProof15
import Derived.Test.YtnjjdiilkhdbeaaKCutProof26
import Derived.Test.YtnjjdiilkhdbeaaS0
set_option linter.unusedVariables false
set_option linter.unusedSimpArgs false
namespace Go.Proofs.Ytnjjdiilkhdbeaa
open Go Go.RowKit
/-- the rows of an even plan -/
def evenR (s : LP) (n : Nat) : List (List LP) := (List.range n).map fun m => List.replicate (m + 1) s
theorem evenR_succ (s : LP) (n : Nat) : evenR s (n + 1) = evenR s n ++ [List.replicate (n + 1) s] := by unfold evenR; rw [List.range_succ, List.map_append]; rfl
theorem evenR_len (s : LP) (n : Nat) : (evenR s n).length = n := by unfold evenR; simp
theorem evenR_row {s : LP} {n : Nat} : ∀ r ∈ evenR s n, r.length ≤ n := by
 intro r hr; unfold evenR at hr; obtain ⟨m, hm, rfl⟩ := List.mem_map.1 hr; have := List.mem_range.1 hm; simp; omega
noncomputable def evenE (b s : LP) (n : Int) : Int := if n < 0 ∨ 16 < n then 5 else planE b (evenR s n.toNat)
theorem RatRows.nil (w : World) : RatRows w none 0 [] := ⟨[], ⟨fun h => absurd rfl h, rfl, by omega⟩, rfl, fun i s r h => by simp at h⟩
theorem PlanV.zero (w : World) : PlanV w (.agg #[.slice none 0 0, .slice none 0 0, .slice none 0 0]) nilP [] := ⟨_, _, none, 0, 0, rfl, nil_rtP w, RatRows.nil w⟩
set_option maxRecDepth 100000 in
set_option maxHeartbeats 4000000 in
theorem even_F (vb vs : Value) (b s : LP) (n : Int) (w : World) (hb0 : RtP w vb b) (hs0 : RtP w vs s) (l1 : b.1.length ≤ 1048576) (l2 : b.2.length ≤ 1048576) (l3 : s.1.length ≤ 1048576) (l4 : s.2.length ≤ 1048576) :
  Calls Try.prog 24 #[vb, vs, .int .i64 n] w fun e w' => ∃ v, e = .returned (.tuple #[v, .int .i64 (evenE b s n)]) ∧ PlanV w' v (if evenE b s n = 0 then b else nilP) (if evenE b s n = 0 then evenR s n.toNat else []) ∧ Below w.heap.size w w' := by
 obtain ⟨B1, bk1, bc1, B2, bk2, bc2, rfl⟩ := hb0.shape; obtain ⟨S1, sk1, sc1, S2, sk2, sc2, rfl⟩ := hs0.shape; obtain ⟨E, HE⟩ : ∃ E, Hid (E = evenE b s n) := ⟨_, rfl⟩; obtain ⟨bb, Hbb⟩ : ∃ x, Hid (x = if evenE b s n = 0 then b else nilP) := ⟨_, rfl⟩; obtain ⟨rr, Hrr⟩ : ∃ x, Hid (x = if evenE b s n = 0 then evenR s n.toNat else []) := ⟨_, rfl⟩; have HNZ : Hid (E ≠ 0 → bb = nilP ∧ rr = []) := fun h => by rw [HE.out] at h; exact ⟨by rw [Hbb.out, if_neg h], by rw [Hrr.out, if_neg h]⟩
 rw [← Hbb.out, ← Hrr.out, ← HE.out]
 go_enter Try.func24, Try.ntmps24
 go_upto_region 1 with fail; refine wp_name ?_; intro w1 HW1; have hb1 : Below w.heap.size w w1 := by rw [HW1.out]; exact (Below.tr (Below.tr (bA _ _) (bA _ _)) (bA _ _))
 have hB1 : Blk w1 w.heap.size 25 #[.slice B1 bk1 bc1, .slice B2 bk2 bc2] := by rw [HW1.out]; exact Blk.below (Blk.newG rfl) (Below.tr (bA _ _) (bA _ _)) (Blk.newG rfl).lt
 have hB2 : Blk w1 (w.heap.size + 1) 25 #[.slice S1 sk1 sc1, .slice S2 sk2 sc2] := by rw [HW1.out]; exact Blk.below (Blk.newG (by simp)) (bA _ _) (by simp)
 have hBR : Blk w1 (w.heap.size + 1 + 1) 38 #[.slice none 0 0, .slice none 0 0, .slice none 0 0] := by rw [HW1.out]; exact Blk.newG (by simp)
 clear HW1; obtain ⟨gB, hgB⟩ : ∃ g, Hid (g = w.heap.size) := ⟨_, rfl⟩; obtain ⟨gS, hgS⟩ : ∃ g, Hid (g = w.heap.size + 1) := ⟨_, rfl⟩; obtain ⟨gR, hgR⟩ : ∃ g, Hid (g = w.heap.size + 1 + 1) := ⟨_, rfl⟩; have hgr : w.heap.size ≤ gR := by have := hgR.out; omega
 rw [← hgR.out] at hBR ⊢; rw [← hgS.out] at hB2 ⊢; rw [← hgB.out] at hB1 ⊢; have hRlt := hBR.lt; have hbv := hb0.below hb1; have hsv := hs0.below hb1; have p0 := hB1.cell 0; have p1 := hB1.cell 1; have s0 := hB2.cell 0; have s1 := hB2.cell 1; simp only [List.getElem?_toArray, List.getElem?_cons_zero, List.getElem?_cons_succ] at p0 p1 s0 s1; clear hgB hgS hB1 hB2 hb0 hs0; by_cases hrg : n < 0 ∨ 16 < n
 ·have HF : Hid (E = 5) := by show _ = _; rw [HE.out]; unfold evenE; rw [if_pos hrg]
  obtain ⟨hz1, hz2⟩ := HNZ.out (by rw [HF.out]; decide); have hz1 := Lib.hid hz1; have hz2 := Lib.hid hz2; have hBRo := hBR.below (Below.refl w1.heap.size w1) hRlt; have q0 := hBRo.cell 0; have q1 := hBRo.cell 1; have q2 := hBRo.cell 2; have r0 := hBRo.frozen 0; have r1 := hBRo.frozen 1; have r2 := hBRo.frozen 2; simp only [List.getElem?_toArray, List.getElem?_cons_zero, List.getElem?_cons_succ] at q0 q1 q2; have hf := ((hBRo.set_ 0 (.slice none 0 0)).set_ 1 (.slice none 0 0)).set_ 2 (.slice none 0 0); have z0 := hf.cell 0; have z1 := hf.cell 1; have z2 := hf.cell 2; simp at z0 z1 z2; have hbz : Below w.heap.size w (((w1.setCell ⟨gR, 0, none⟩ (.slice none 0 0)).setCell ⟨gR, 1, none⟩ (.slice none 0 0)).setCell ⟨gR, 2, none⟩ (.slice none 0 0)) := ((hb1.setCell (p := ⟨gR, 0, none⟩) hgr _).setCell (p := ⟨gR, 1, none⟩) hgr _).setCell (p := ⟨gR, 2, none⟩) hgr _; clear hBRo hf; by_cases hn : n < 0
  ·have t1 : decide (n < 0) = true := by simpa using hn
   clear hrg hn; go_wp2_with fail; exact bodyPost_ret (v := .tuple #[.agg #[.slice none 0 0, .slice none 0 0, .slice none 0 0], .int .i64 5]) (by simp [results, Try.results24, go_sem, z0, z1, z2]) rfl ⟨_, by rw [HF.out], by rw [hz1.out, hz2.out]; exact PlanV.zero _, hbz⟩
  ·have t1 : decide (n < 0) = false := by simpa using hn
   have t2 : decide (n > 16) = true := by simp; omega
   clear hrg hn; go_wp2_with fail; exact bodyPost_ret (v := .tuple #[.agg #[.slice none 0 0, .slice none 0 0, .slice none 0 0], .int .i64 5]) (by simp [results, Try.results24, go_sem, z0, z1, z2]) rfl ⟨_, by rw [HF.out], by rw [hz1.out, hz2.out]; exact PlanV.zero _, hbz⟩
 ·have t1 : decide (n < 0) = false := by simp; omega
  have t2 : decide (n > 16) = false := by simp; omega
  obtain ⟨nn, rfl⟩ := Int.eq_ofNat_of_zero_le (show 0 ≤ n by omega); have hnn : nn ≤ 16 := by omega
  have HE2 : Hid (E = planE b (evenR s nn)) := by show _ = _; rw [HE.out]; unfold evenE; rw [if_neg hrg]; rfl
  have HZ : Hid (E = 0 → bb = b ∧ rr = evenR s nn) := fun h => by rw [HE.out] at h; exact ⟨by rw [Hbb.out, if_pos h], by rw [Hrr.out, if_pos h]; rfl⟩
  clear hrg HE Hbb Hrr; go_wp2_with fail; refine (clone_F _ b _ hbv l1 l2).mono ?_; rintro e w2 ⟨v, rfl, hbd, hb2⟩; obtain ⟨X1, xk1, xc1, X2, xk2, xc2, rfl⟩ := hbd.shape; have hBR := hBR.below hb2 hRlt; have hRlt := hBR.lt; have hsv := hsv.below hb2; have s0 := cell_keep hb2 s0; have s1 := cell_keep hb2 s1; have hb12 := Below.tr hb1 hb2; clear p0 p1 hbv; go_upto_region 4 with fail; refine wp_name ?_; intro w3 HW3; have hb3 : Below w2.heap.size w2 w3 := by rw [HW3.out]; exact bA _ _
  have hB3 : Blk w3 w2.heap.size 38 #[.slice X1 xk1 xc1, .slice X2 xk2 xc2, .slice none 0 0] := by rw [HW3.out]; exact Blk.new _ _ _
  clear HW3; obtain ⟨gP, hgP⟩ : ∃ g, Hid (g = w2.heap.size) := ⟨_, rfl⟩; rw [← hgP.out] at hB3 ⊢; go_wp2_with fail
  go_loopg [24] nn (fun j x wr => ∃ (m : Nat) (rows : List (List LP)) (S : Option Addr) (cS : Nat), x = .int .i64 m ∧ m + j = nn ∧ Hid (rows = evenR s m) ∧ Blk wr gP 38 #[.slice X1 xk1 xc1, .slice X2 xk2 xc2, .slice S m cS] ∧ RatsOwn wr (gP + 1) (.slice S m cS) rows ∧ Below w2.heap.size w2 wr)
  case atStart => exact ⟨0, [], none, 0, rfl, by omega, rfl, hB3, RatsOwn.nil _ _, hb3⟩
  case round =>
   obtain ⟨G, hG1⟩ : ∃ G, G = gk := ⟨gk, rfl⟩; subst hG1; obtain ⟨m, rows, S, cS, rfl, hmj, HRE, hBP, hrs, hbe⟩ := hrel; obtain ⟨wo, hwo⟩ : ∃ wo, wo = wr := ⟨_, rfl⟩; subst hwo; have hltP := hBP.lt; have HRL : Hid (rows.length = m) := by show _ = _; rw [HRE.out, evenR_len]
   by_cases hm : m < nn
   ·have t3 : decide ((m : Int) < (nn : Int)) = true := by simp; omega
    obtain ⟨n1, HN1⟩ : ∃ n, Hid (n = m + 1) := ⟨_, rfl⟩; have hmk := make_rat ((m : Int) + 1) n1 (by rw [HN1.out]; push_cast; rfl) (by have := HN1.out; omega) wo; go_upto_region 8 with fail; refine wp_name ?_; intro w6 HW6; obtain ⟨gX, hgX⟩ : ∃ g, Hid (g = wo.heap.size) := ⟨_, rfl⟩; have hb6 : Below wo.heap.size wo w6 := by rw [HW6.out]; exact bA _ _
    have hownY : RatOwn w6 wo.heap.size (.slice (some ⟨gX, 0, none⟩) n1 n1) (List.replicate n1 nilP) := by
     have h := RatOwn.made wo n1 (by have := HN1.out; omega); rw [List.toArray_replicate, ← HW6.out, ← hgX.out] at h; rw [← hgX.out]; exact h
    have hgXo : wo.heap.size ≤ gX := by have := hgX.out; omega
    rw [← hgX.out]; clear HW6 hmk; go_wp2_with fail
    go_loopg [32] n1 (fun j x wx => ∃ (k : Nat) (X : List LP), x = .int .i64 k ∧ k + j = n1 ∧ Hid (X = List.replicate k s ++ List.replicate (n1 - k) nilP) ∧ RatOwn wx wo.heap.size (.slice (some ⟨gX, 0, none⟩) n1 n1) X ∧ Below wo.heap.size wo wx)
    case atStart => exact ⟨0, _, rfl, by omega, rfl, hownY, hb6⟩
    case round =>
     obtain ⟨G2, hG2⟩ : ∃ G, G = gk := ⟨gk, rfl⟩; subst hG2; obtain ⟨k, X, rfl, hkj, HXE, hown, hbx⟩ := hrel; obtain ⟨wx, hwx⟩ : ∃ wx, wx = wr := ⟨_, rfl⟩; subst hwx; have hbwx := hbe.trans (hbx.mono hbe.size); by_cases hk : k < n1
     ·have t4 : decide ((k : Int) < (n1 : Int)) = true := by simp; omega
      have hkn : (k : Int) < (n1 : Int) := by omega
      have hk20 : k ≤ 17 := by have := HN1.out; omega
      have S0 := cell_keep hbwx s0; have S1' := cell_keep hbwx s1; go_wp2_with fail; refine (clone_F _ s _ (hsv.below hbwx) l3 l4).mono ?_; rintro e w9 ⟨v, rfl, hv, hb9⟩; obtain ⟨D1, y1, d1, D2, y2, d2, rfl⟩ := hv.shape; have hown9 := hown.below hb9; obtain ⟨⟨x1, f1⟩, ⟨x2, f2⟩, f3, f4⟩ := own_store2 hown9 hk; obtain ⟨hu1, hu2, hu3⟩ := hown9.upd (i := k) hv; obtain ⟨j, hj⟩ : ∃ j, n1 - k = j + 1 := ⟨n1 - k - 1, by omega⟩; obtain ⟨X', HX'⟩ : ∃ X', Hid (X' = X.set k s) := ⟨_, rfl⟩
      have HXE9 : Hid (X' = List.replicate (k + 1) s ++ List.replicate (n1 - (k + 1)) nilP) := by
       show _ = _
       rw [HX'.out, HXE.out, hj, show n1 - (k + 1) = j by omega, List.replicate_succ (n := j), set_mid (by simp), List.replicate_succ' (n := k), List.append_assoc]; rfl
      rw [← HX'.out] at hu1; have hbx9 := below_own (hbx.trans (hb9.mono hbx.size)) hu3 hgXo (Nat.le_trans hbx.size hb9.size); clear hown hown9 HXE hu2 hu3 hv S0 S1' hj; go_wp2_with fail
      go_roundg (G2 - 1)
      case measure => omega
      case rel => exact ⟨k + 1, X', by go_num, by omega, HXE9, hu1, hbx9⟩
     ·have t4 : decide ((k : Int) < (n1 : Int)) = false := by simp; omega
      have hX9 : Hid (X = List.replicate (m + 1) s) := by
       show _ = _
       rw [HXE.out, show n1 - k = 0 by omega, show k = m + 1 by have := HN1.out; omega]; simp
      have hbA := bA wx (.cells #[.slice (some ⟨gX, 0, none⟩) n1 n1] 36); have hown6 := hown.below hbA; have hbx6 := Below.tr hbx hbA; have hrd6 := Rd.newC wx 36 [.slice (some ⟨gX, 0, none⟩) n1 n1]; have hlen : rows.length ≤ 1048576 := by have := HRL.out; omega
      have hBP6 := (hBP.below hbx hltP).below hbA (Nat.lt_of_lt_of_le hltP hbx.size); have hbs : gP + 1 ≤ wo.heap.size := hltP; have P2 := (hBP.below hbx hltP).cell 2; simp only [List.getElem?_toArray, List.getElem?_cons_zero, List.getElem?_cons_succ] at P2
      go_wp2_with (at_builtin; go_loud (refine wpList_push2 rfl (.tmp 42) (.tmp 44) rfl wo (gP + 1) _ rows rfl hrs hbx6 (some ⟨wx.heap.size, 0, none⟩) 1 (some ⟨gX, 0, none⟩) n1 n1 X rfl hown6 hrd6 hlen hbs ?_); intro v7 w7 hrs7 hg7 hkp7; obtain ⟨rows7, HR7⟩ : ∃ r, Hid (r = rows ++ [X]) := ⟨_, rfl⟩; rw [← HR7.out] at hrs7; have HRL7 : Hid (rows7.length = m + 1) := (by show _ = _; rw [HR7.out, List.length_append, HRL.out]; rfl); obtain ⟨n7, HN7⟩ : ∃ y, Hid (y = m + 1) := ⟨_, rfl⟩; obtain ⟨S7, c7, rfl⟩ := hrs7.shp; rw [HRL7.out, ← HN7.out] at hrs7; rw [HRL7.out, ← HN7.out]; have hBP7 := hBP6.grown hg7 (fun j hj => by have := hrs.ge j hj; omega); have f7 := hBP7.cell 2; have f8 := hBP7.frozen 2; simp only [List.getElem?_toArray, List.getElem?_cons_zero, List.getElem?_cons_succ] at f7)
      have HRE7 : Hid (rows7 = evenR s (m + 1)) := by
       show _ = _
       rw [HR7.out, HRE.out, evenR_succ, hX9.out]
      have hbe7 : Below w2.heap.size w2 w7 := (hbe.trans (hbx6.mono hbe.size)).grown hg7 (Nat.le_trans hbe.size hbx6.size) (fun j hj => by have := hrs.ge j hj; have := hgP.out; omega); have hBP8 := hBP7.set_ 2 (.slice S7 n7 c7); have hrs8 := hrs7.keepG (KeepG.set hBP7 (noU_sl _ _ _ _ _ _ _ _ _) (Nat.lt_succ_self gP) 2 (.slice S7 n7 c7)); have hbe8 := hbe7.setCell (p := ⟨gP, 2, none⟩) (by have := hgP.out; show w2.heap.size ≤ gP; omega) (.slice S7 n7 c7); simp only [sA, sB, sC] at hBP8; clear hown hown6 hrs7 hrs hg7 hkp7 hBP7 hBP6 hbx6 hbA hrd6 hBP; rw [HN7.out] at hBP8 hrs8 hbe8; go_wp2_with fail
      go_roundg (G - 1)
      case measure => omega
      case rel => rw [HN7.out]; exact ⟨m + 1, rows7, S7, c7, by go_num, by omega, HRE7, hBP8, hrs8, hbe8⟩
   ·have t3 : decide ((m : Int) < (nn : Int)) = false := by simp; omega
    have hmn : Hid (m = nn) := (by omega : m = nn); have hpl : PlanV wo (.agg #[.slice X1 xk1 xc1, .slice X2 xk2 xc2, .slice S m cS]) b rows := ⟨_, _, S, m, cS, rfl, hbd.below hbe, hrs.rows (by have := HRL.out; omega) (fun r hr => by rw [HRE.out] at hr; have := evenR_row r hr; omega)⟩; have P0 := hBP.cell 0; have P1 := hBP.cell 1; have P2 := hBP.cell 2; simp only [List.getElem?_toArray, List.getElem?_cons_zero, List.getElem?_cons_succ] at P0 P1 P2; go_wp2_with fail; refine (wvalid_F _ b rows _ hpl).mono ?_; rintro e w8 ⟨rfl, hb8⟩; have hbe8 := hbe.trans (hb8.mono hbe.size); have hb9 := hb12.trans (hbe8.mono hb12.size); have P0 := cell_keep hb8 P0; have P1 := cell_keep hb8 P1; have P2 := cell_keep hb8 P2; have HE3 : Hid (E = planE b rows) := by show _ = _; rw [HE2.out, HRE.out, hmn.out]
    by_cases h0 : planE b rows = 0
    ·obtain ⟨hz1, hz2⟩ := HZ.out (by rw [HE3.out]; exact h0); have hz1 := Lib.hid hz1; have hz2 := Lib.hid hz2; have hBRo := hBR.below hbe8 hRlt; have q0 := hBRo.cell 0; have q1 := hBRo.cell 1; have q2 := hBRo.cell 2; have r0 := hBRo.frozen 0; have r1 := hBRo.frozen 1; have r2 := hBRo.frozen 2; simp only [List.getElem?_toArray, List.getElem?_cons_zero, List.getElem?_cons_succ] at q0 q1 q2; have hf := ((hBRo.set_ 0 (.slice X1 xk1 xc1)).set_ 1 (.slice X2 xk2 xc2)).set_ 2 (.slice S m cS); have z0 := hf.cell 0; have z1 := hf.cell 1; have z2 := hf.cell 2; simp at z0 z1 z2; have hk3 := KeepG.set3 (base := gP + 1) hBRo (by have := hgP.out; omega) X1 xk1 xc1 X2 xk2 xc2 S m cS; have hbz : Below w.heap.size w (((w8.setCell ⟨gR, 0, none⟩ (.slice X1 xk1 xc1)).setCell ⟨gR, 1, none⟩ (.slice X2 xk2 xc2)).setCell ⟨gR, 2, none⟩ (.slice S m cS)) := ((hb9.setCell (p := ⟨gR, 0, none⟩) hgr _).setCell (p := ⟨gR, 1, none⟩) hgr _).setCell (p := ⟨gR, 2, none⟩) hgr _; have hpz : PlanV (((w8.setCell ⟨gR, 0, none⟩ (.slice X1 xk1 xc1)).setCell ⟨gR, 1, none⟩ (.slice X2 xk2 xc2)).setCell ⟨gR, 2, none⟩ (.slice S m cS)) (.agg #[.slice X1 xk1 xc1, .slice X2 xk2 xc2, .slice S m cS]) b rows := ⟨_, _, S, m, cS, rfl, (hbd.below hbe8).mapL hk3.lim, ((hrs.below hb8).keepG hk3).rows (by have := HRL.out; omega) (fun r hr => by rw [HRE.out] at hr; have := evenR_row r hr; omega)⟩; have HF : Hid (E = 0) := by show _ = _; rw [HE3.out]; exact h0
     have HRR : Hid (rr = rows) := by show _ = _; rw [hz2.out, HRE.out, hmn.out]
     rw [h0]; clear hBRo hf hpl hrs hBP hmn hk3; go_wp2_with fail; exact bodyPost_ret (v := .tuple #[.agg #[.slice X1 xk1 xc1, .slice X2 xk2 xc2, .slice S m cS], .int .i64 0]) (by simp [results, Try.results24, go_sem, z0, z1, z2]) rfl ⟨_, by rw [HF.out], by rw [hz1.out, HRR.out]; exact hpz, hbz⟩
    ·have t5 : (planE b rows != 0) = true := by simpa using h0
     obtain ⟨hz1, hz2⟩ := HNZ.out (by rw [HE3.out]; exact h0); have hz1 := Lib.hid hz1; have hz2 := Lib.hid hz2; have hBRo := hBR.below hbe8 hRlt; have q0 := hBRo.cell 0; have q1 := hBRo.cell 1; have q2 := hBRo.cell 2; have r0 := hBRo.frozen 0; have r1 := hBRo.frozen 1; have r2 := hBRo.frozen 2; simp only [List.getElem?_toArray, List.getElem?_cons_zero, List.getElem?_cons_succ] at q0 q1 q2; have hf := ((hBRo.set_ 0 (.slice none 0 0)).set_ 1 (.slice none 0 0)).set_ 2 (.slice none 0 0); have z0 := hf.cell 0; have z1 := hf.cell 1; have z2 := hf.cell 2; simp at z0 z1 z2; have hbz : Below w.heap.size w (((w8.setCell ⟨gR, 0, none⟩ (.slice none 0 0)).setCell ⟨gR, 1, none⟩ (.slice none 0 0)).setCell ⟨gR, 2, none⟩ (.slice none 0 0)) := ((hb9.setCell (p := ⟨gR, 0, none⟩) hgr _).setCell (p := ⟨gR, 1, none⟩) hgr _).setCell (p := ⟨gR, 2, none⟩) hgr _; clear hBRo hf hpl hrs hBP hmn h0; go_wp2_with fail; exact bodyPost_ret (v := .tuple #[.agg #[.slice none 0 0, .slice none 0 0, .slice none 0 0], .int .i64 _]) (by simp [results, Try.results24, go_sem, z0, z1, z2]; rfl) rfl ⟨_, by rw [HE3.out], by rw [hz1.out, hz2.out]; exact PlanV.zero _, hbz⟩
end Go.Proofs.Ytnjjdiilkhdbeaa
namespace Go.Proofs.Ytnjjdiilkhdbeaa
open Go Go.RowKit
theorem fr {n d : Nat} (h0 : 0 < d) (hn : n < 18446744073709551616) (hd : d < 18446744073709551616) : Frac (redP n d) n d := ⟨h0, b64 hn, b64 hd, rfl⟩
theorem stakeF_bad {b s : LP} {pb qb ps qs : Nat} (hb : Frac b pb qb) (hs : Frac s ps qs) (hle : pb ≤ qb) (h1 : ps ≤ 255) (h2 : qs ≤ 255) (h3 : qb ≤ 255) : Frac (stakeF b s true) (qs * qb + ps * (qb - pb)) (qs * qb) := by
 have m2 : qs * qb ≤ 255 * 255 := Nat.mul_le_mul h2 h3; have m3 : ps * (qb - pb) ≤ 255 * 255 := Nat.mul_le_mul h1 (by omega); have a1 := ((Frac.one (d := qb) hb.pos (b64 (by omega))).sub hb hle).1; have a2 := (hs.mul a1 (b64 (by omega)) (b64 (by omega))).1; exact ((Frac.one (d := qs * qb) (Nat.mul_pos hs.pos hb.pos) (b64 (by omega))).add a2 (b64 (by omega))).1
theorem stakeF_good {b s : LP} {pb qb ps qs : Nat} (hb : Frac b pb qb) (hs : Frac s ps qs) (hle : ps * pb ≤ qs * qb) (h2 : qs ≤ 255) (h3 : qb ≤ 255) : Frac (stakeF b s false) (qs * qb - ps * pb) (qs * qb) := by
 have m2 : qs * qb ≤ 255 * 255 := Nat.mul_le_mul h2 h3; have a2 := (hs.mul hb (b64 (by omega)) (b64 (by omega))).1; exact ((Frac.one (d := qs * qb) (Nat.mul_pos hs.pos hb.pos) (b64 (by omega))).sub a2 hle).1
/-- the plan of the examples -/
def lvB : LP := redP 1 4
def lvR : List (List LP) := [[redP 2 1], [redP 1 1, redP 4 1]]
theorem lvB_f : Frac lvB 1 4 := fr (by omega) (by omega) (by omega)
theorem lvS2 : Frac (redP 2 1) 2 1 := fr (by omega) (by omega) (by omega)
theorem lvS1 : Frac (redP 1 1) 1 1 := fr (by omega) (by omega) (by omega)
theorem lvS4 : Frac (redP 4 1) 4 1 := fr (by omega) (by omega) (by omega)
theorem red_rat {n d : Nat} (h : Nat.gcd n d = 1) : redP n d = ratP n d := by unfold redP; rw [h, Nat.div_one, Nat.div_one]
theorem good_num {n d : Nat} (h0 : 0 < d) (h : Nat.gcd n d = 1) (hn : n < 18446744073709551616) (hd : d < 18446744073709551616) : Nm.Good n d := by
 have := red_good (n := n) (d := d) h0 (b64 hn) (b64 hd)
 rwa [h, Nat.div_one, Nat.div_one] at this
theorem wrong_red {p q pb qb : Nat} (h0 : 0 < q) (g1 : Nat.gcd p q = 1) (k0 : 0 < qb) (g2 : Nat.gcd pb qb = 1) (hp : p ≤ 255) (hq : q ≤ 255) (hpb : pb ≤ 255) (hqb : qb ≤ 255) : wrongB (redP pb qb) (redP p q) = !decide (p * pb ≤ q * qb) := by
 have gp := good_num h0 g1 (by omega) (by omega); have gb := good_num k0 g2 (by omega) (by omega); rw [red_rat g1, red_rat g2]; have m1 : p * pb ≤ 255 * 255 := Nat.mul_le_mul hp hpb; have m2 : q * qb ≤ 255 * 255 := Nat.mul_le_mul hq hqb; have hm := ((Frac.of_good gp).mul (Frac.of_good gb) (b64 (by omega)) (b64 (by omega))).1; unfold wrongB; rw [smallB_rat gp hp hq, hm.at_ (Frac.one (d := 1) (by omega) (b64 (by omega)))]; simp
theorem part_red {p q : Nat} (h0 : 0 < q) (g1 : Nat.gcd p q = 1) (hp : p ≤ q) (hq : q ≤ 255) : partB (redP p q) = true := by
 have gp := good_num h0 g1 (by omega) (by omega); rw [red_rat g1]; unfold partB oneP; rw [smallB_rat gp (by omega) hq, atB_rat gp Good_one]; simp; omega
theorem lv_plan : planE lvB lvR = 0 := by
 have hb : badFrom (redP 1 4) 0 [[redP 2 1], [redP 1 1, redP 4 1]] = false := by
  simp only [badFrom, rowBad, List.any_cons, List.any_nil, List.length_cons, List.length_nil]; rw [wrong_red (by omega) (by decide) (by omega) (by decide) (by omega) (by omega) (by omega) (by omega), wrong_red (by omega) (by decide) (by omega) (by decide) (by omega) (by omega) (by omega) (by omega), wrong_red (by omega) (by decide) (by omega) (by decide) (by omega) (by omega) (by omega) (by omega)]
  decide
 unfold planE lvB lvR; rw [if_neg (by simp), part_red (by omega) (by decide) (by omega) (by omega), if_neg (by simp), hb, if_neg (by simp)]
theorem lv_num : PlanN lvB lvR 1 4 := by
 refine ⟨lvB_f, by omega, by omega, by decide, fun n r hn => plan_row lv_plan hn, fun n r k s hn hk => ?_⟩
 rcases n with _ | _ | n
 ·simp only [lvR, List.getElem?_cons_zero, Option.some.injEq] at hn; subst hn
  rcases k with _ | k
  ·simp only [List.getElem?_cons_zero, Option.some.injEq] at hk; subst hk; exact ⟨2, 1, lvS2, by omega, by omega, by omega⟩
  ·simp at hk
 ·simp only [lvR, List.getElem?_cons_zero, List.getElem?_cons_succ, Option.some.injEq] at hn; subst hn
  rcases k with _ | _ | k
  ·simp only [List.getElem?_cons_zero, Option.some.injEq] at hk; subst hk; exact ⟨1, 1, lvS1, by omega, by omega, by omega⟩
  ·simp only [List.getElem?_cons_zero, List.getElem?_cons_succ, Option.some.injEq] at hk; subst hk; exact ⟨4, 1, lvS4, by omega, by omega, by omega⟩
  ·simp at hk
 ·simp [lvR] at hn
theorem lv00t : Frac (factorV lvB lvR 0 0 true) 10 4 := stakeF_bad lvB_f lvS2 (by omega) (by omega) (by omega) (by omega)
theorem lv00f : Frac (factorV lvB lvR 0 0 false) 2 4 := stakeF_good lvB_f lvS2 (by omega) (by omega) (by omega)
theorem lv10t : Frac (factorV lvB lvR 1 0 true) 7 4 := stakeF_bad lvB_f lvS1 (by omega) (by omega) (by omega) (by omega)
theorem lv10f : Frac (factorV lvB lvR 1 0 false) 3 4 := stakeF_good lvB_f lvS1 (by omega) (by omega) (by omega)
theorem lv11t : Frac (factorV lvB lvR 1 1 true) 16 4 := stakeF_bad lvB_f lvS4 (by omega) (by omega) (by omega) (by omega)
theorem lv11f : Frac (factorV lvB lvR 1 1 false) 0 4 := stakeF_good lvB_f lvS4 (by omega) (by omega) (by omega)
theorem lv2 (k : Nat) (x : Bool) : Frac (factorV lvB lvR 2 k x) 1 1 := Frac.one (by omega) (b64 (by omega))
theorem lv1 : Frac oneP 1 1 := Frac.one (by omega) (b64 (by omega))
theorem fmul {x y : LP} {n d m e k l : Nat} (hx : Frac x n d) (hy : Frac y m e) (h1 : n * m = k) (h2 : d * e = l) (hk : k < 18446744073709551616) (hl : l < 18446744073709551616) : Frac (mulV x y) k l := by
 subst h1 h2; exact (hx.mul hy (b64 hk) (b64 hl)).1
theorem fadd {x y : LP} {n d m k : Nat} (hx : Frac x n d) (hy : Frac y m d) (h1 : n + m = k) (hk : k < 18446744073709551616) : Frac (addV x y) k d := by
 subst h1; exact (hx.add hy (b64 hk)).1
theorem fsc {x : LP} {n d m e : Nat} (hx : Frac x n d) (h0 : 0 < e) (h : n * e = m * d) (hk : m < 18446744073709551616) (hl : e < 18446744073709551616) : Frac x m e := hx.scale h0 (b64 hk) (b64 hl) h
theorem frq {x : LP} {n d m e : Nat} (hx : Frac x n d) (h0 : 0 < e) (h : n * e = m * d) (hk : m < 18446744073709551616) (hl : e < 18446744073709551616) : x = redP m e := (hx.scale h0 (b64 hk) (b64 hl) h).uniq (fr h0 hk hl) rfl
theorem lv_capA : capX lvB lvR [true, true] = [redP 1 1, redP 5 2, redP 10 1] := by
 unfold capX; rw [if_neg (by rw [lv_plan]; simp), if_neg (by simp)]; simp only [capsV, capsFrom, if_true, Nat.zero_add]; have c1 := fmul lv1 lv00t rfl rfl (by omega) (by omega); have c2 := fmul c1 lv11t rfl rfl (by omega) (by omega); rw [frq c2 (m := 10) (e := 1) (by omega) rfl (by omega) (by omega), frq c1 (m := 5) (e := 2) (by omega) rfl (by omega) (by omega), frq lv1 (m := 1) (e := 1) (by omega) rfl (by omega) (by omega)]
theorem lv_capB : capX lvB lvR [false, true, true] = [redP 1 1, redP 1 2, redP 7 8, redP 7 8] := by
 unfold capX; rw [if_neg (by rw [lv_plan]; simp), if_neg (by simp)]; simp only [capsV, capsFrom, if_true, Nat.zero_add, Bool.false_eq_true, if_false]; have c1 := fmul lv1 lv00f rfl rfl (by omega) (by omega); have c2 := fmul c1 lv10t rfl rfl (by omega) (by omega); have c3 := fmul c2 (lv2 1 true) rfl rfl (by omega) (by omega); rw [frq c3 (m := 7) (e := 8) (by omega) rfl (by omega) (by omega), frq c2 (m := 7) (e := 8) (by omega) rfl (by omega) (by omega), frq c1 (m := 1) (e := 2) (by omega) rfl (by omega) (by omega), frq lv1 (m := 1) (e := 1) (by omega) rfl (by omega) (by omega)]
theorem lv_capC : capX lvB lvR [true, false] = [redP 1 1, redP 5 2, nilP] := by
 unfold capX; rw [if_neg (by rw [lv_plan]; simp), if_neg (by simp)]; simp only [capsV, capsFrom, if_true, Nat.zero_add, Bool.false_eq_true, if_false]; have c1 := fmul lv1 lv00t rfl rfl (by omega) (by omega); have c2 := fmul c1 lv11f rfl rfl (by omega) (by omega); rw [c2.uniq (Frac.nil (d := 1) (by omega) (b64 (by omega))) rfl, frq c1 (m := 5) (e := 2) (by omega) rfl (by omega) (by omega), frq lv1 (m := 1) (e := 1) (by omega) rfl (by omega) (by omega)]
theorem lv_capE (l : List Bool) (h : l.length ≤ 256) : capE lvB lvR l = 0 := by
 unfold capE; rw [if_neg (by rw [lv_plan]; simp), if_neg (by omega)]
theorem lv_expE {p q : Nat} (h0 : 0 < q) (g1 : Nat.gcd p q = 1) (hp : p ≤ q) (hq : q ≤ 255) : expE lvB lvR (redP p q) 2 = 0 := by
 unfold expE; rw [if_neg (by rw [lv_plan]; simp), part_red h0 g1 hp hq, if_neg (by simp), if_neg (by simp)]
theorem lv_one : expX lvB lvR (redP 1 4) 2 = redP 1 1 := by
 unfold expX; rw [if_neg (by rw [lv_expE (by omega) (by decide) (by omega) (by omega)]; simp)]; obtain ⟨n, D, h1, h2, h3, h4⟩ := exp_num lv_num (fr (n := 1) (d := 4) (by omega) (by omega) (by omega)) (by omega) (by omega) (show 2 ≤ 16 by omega); have e : n = D := Nat.le_antisymm (h3 (by omega)) (h4 (by omega)); subst e; rw [show Int.toNat 2 = 2 from rfl, h1]; exact h2.uniq (fr (n := 1) (d := 1) (by omega) (by omega) (by omega)) (Nat.mul_comm _ _)
theorem lv_two : expX lvB lvR (redP 1 2) 2 = redP 45 16 := by
 unfold expX; rw [if_neg (by rw [lv_expE (by omega) (by decide) (by omega) (by omega)]; simp)]; have hq : Frac (redP 1 2) 1 2 := fr (by omega) (by omega) (by omega); have hr : Frac (subV oneP (redP 1 2)) 1 2 := ((Frac.one (d := 2) (by omega) (b64 (by omega))).sub hq (by omega)).1; obtain ⟨n, D, h1, h2, _, _⟩ := exp_num lv_num hq (by omega) (by omega) (show 2 ≤ 16 by omega); rw [show Int.toNat 2 = 2 from rfl, h1]; simp only [expL, expStep, List.foldl_cons, List.foldl_nil]; have n8 : Frac nilP 0 8 := Frac.nil (by omega) (b64 (by omega)); have n64 : Frac nilP 0 64 := Frac.nil (by omega) (b64 (by omega)); have a0 := fadd n8 (fmul lv1 (fmul hr lv00f rfl rfl (by omega) (by omega)) rfl rfl (by omega) (by omega)) rfl (by omega); have a1 := fadd n8 (fmul lv1 (fmul hq lv00t rfl rfl (by omega) (by omega)) rfl rfl (by omega) (by omega)) rfl (by omega); have b0 := fadd n64 (fmul a0 (fmul hr lv10f rfl rfl (by omega) (by omega)) rfl rfl (by omega) (by omega)) rfl (by omega); have b1 := fadd (fadd n64 (fmul a0 (fmul hq lv10t rfl rfl (by omega) (by omega)) rfl rfl (by omega) (by omega)) rfl (by omega)) (fmul a1 (fmul hr lv11f rfl rfl (by omega) (by omega)) rfl rfl (by omega) (by omega)) rfl (by omega); have b2 := fadd n64 (fmul a1 (fmul hq lv11t rfl rfl (by omega) (by omega)) rfl rfl (by omega) (by omega)) rfl (by omega); have s := fadd (fadd (fadd n64 b0 rfl (by omega)) b1 rfl (by omega)) b2 rfl (by omega); exact frq s (by omega) rfl (by omega) (by omega)

theorem mix_f {q x y : LP} {pq qq n d m : Nat} (hq : Frac q pq qq) (hle : pq ≤ qq) (hx : Frac x n d) (hy : Frac y m d) {k l : Nat} (hk : pq * n + (qq - pq) * m = k) (hl : qq * d = l) (h1 : k < 18446744073709551616) (h2 : l < 18446744073709551616) (h3 : qq < 18446744073709551616) : Frac (mixV q x y) k l := by
 subst hk hl; have hr := ((Frac.one (d := qq) hq.pos (b64 h3)).sub hq hle).1; have a := (hq.mul hx (b64 (by omega)) (b64 h2)).1; have b := (hr.mul hy (b64 (by omega)) (b64 h2)).1; exact (a.add b (b64 h1)).1
theorem lv_low : reachX lvB lvR (redP 1 4) 2 (redP 5 2) = redP 1 4 := by
 have hl : Frac (redP 5 2) 5 2 := fr (by omega) (by omega) (by omega)
 have hE : reachE lvB lvR (redP 1 4) 2 (redP 5 2) = 0 := by
  unfold reachE; rw [if_neg (by rw [lv_plan]; simp), part_red (by omega) (by decide) (by omega) (by omega), if_neg (by simp)]; unfold boundE; rw [if_neg (by rw [hl.valid]; simp), if_neg (by omega)]
 unfold reachX; rw [if_neg (by rw [hE]; simp), show Int.toNat 2 = 2 from rfl]; have c1 := fmul lv1 lv00t rfl rfl (by omega) (by omega); have c0 := fmul lv1 lv00f rfl rfl (by omega) (by omega); have c01 := fmul c0 lv10t rfl rfl (by omega) (by omega); have c00 := fmul c0 lv10f rfl rfl (by omega) (by omega); have n1 : Frac nilP 0 1 := Frac.nil (by omega) (b64 (by omega)); simp only [reachV, Nat.zero_add, hl.at_ lv1, hl.at_ c1, hl.at_ c0, hl.at_ c01, hl.at_ c00, Nat.reduceMul, Nat.reduceLeDiff, decide_true, decide_false, if_true, Bool.false_eq_true, if_false]; have m0 := mix_f lvB_f (by omega) n1 n1 rfl rfl (by omega) (by omega) (by omega); have m1 := mix_f lvB_f (by omega) (fsc lv1 (m := 4) (e := 4) (by omega) rfl (by omega) (by omega)) m0 rfl rfl (by omega) (by omega) (by omega); exact frq m1 (by omega) rfl (by omega) (by omega)
theorem lv_high : reachX lvB lvR (redP 1 4) 2 (redP 3 1) = redP 1 16 := by
 have hl : Frac (redP 3 1) 3 1 := fr (by omega) (by omega) (by omega)
 have hE : reachE lvB lvR (redP 1 4) 2 (redP 3 1) = 0 := by
  unfold reachE; rw [if_neg (by rw [lv_plan]; simp), part_red (by omega) (by decide) (by omega) (by omega), if_neg (by simp)]; unfold boundE; rw [if_neg (by rw [hl.valid]; simp), if_neg (by omega)]
 unfold reachX; rw [if_neg (by rw [hE]; simp), show Int.toNat 2 = 2 from rfl]; have c1 := fmul lv1 lv00t rfl rfl (by omega) (by omega); have c0 := fmul lv1 lv00f rfl rfl (by omega) (by omega); have c11 := fmul c1 lv11t rfl rfl (by omega) (by omega); have c10 := fmul c1 lv11f rfl rfl (by omega) (by omega); have c01 := fmul c0 lv10t rfl rfl (by omega) (by omega); have c00 := fmul c0 lv10f rfl rfl (by omega) (by omega); have n1 : Frac nilP 0 1 := Frac.nil (by omega) (b64 (by omega)); simp only [reachV, Nat.zero_add, hl.at_ lv1, hl.at_ c1, hl.at_ c0, hl.at_ c11, hl.at_ c10, hl.at_ c01, hl.at_ c00, Nat.reduceMul, Nat.reduceLeDiff, decide_true, decide_false, if_true, Bool.false_eq_true, if_false]; have m0 := mix_f lvB_f (by omega) n1 n1 rfl rfl (by omega) (by omega) (by omega); have m1 := mix_f lvB_f (by omega) lv1 n1 rfl rfl (by omega) (by omega) (by omega); have m2 := mix_f lvB_f (by omega) m1 m0 rfl rfl (by omega) (by omega) (by omega); exact frq m2 (by omega) rfl (by omega) (by omega)
theorem lv_worst : worstX lvB lvR 2 (redP 3 1) = redP 1 16 := by
 have hl : Frac (redP 3 1) 3 1 := fr (by omega) (by omega) (by omega)
 have hE : worstE lvB lvR 2 (redP 3 1) = 0 := by
  unfold worstE; rw [if_neg (by rw [lv_plan]; simp)]; unfold boundE; rw [if_neg (by rw [hl.valid]; simp), if_neg (by omega)]
 unfold worstX; rw [if_neg (by rw [hE]; simp), show Int.toNat 2 = 2 from rfl]; have c1 := fmul lv1 lv00t rfl rfl (by omega) (by omega); have c0 := fmul lv1 lv00f rfl rfl (by omega) (by omega); have c11 := fmul c1 lv11t rfl rfl (by omega) (by omega); have c10 := fmul c1 lv11f rfl rfl (by omega) (by omega); have c01 := fmul c0 lv10t rfl rfl (by omega) (by omega); have c00 := fmul c0 lv10f rfl rfl (by omega) (by omega); have n1 : Frac nilP 0 1 := Frac.nil (by omega) (b64 (by omega)); simp only [reachV, Nat.zero_add, hl.at_ lv1, hl.at_ c1, hl.at_ c0, hl.at_ c11, hl.at_ c10, hl.at_ c01, hl.at_ c00, Nat.reduceMul, Nat.reduceLeDiff, decide_true, decide_false, if_true, Bool.false_eq_true, if_false]; have m0 := mix_f lvB_f (by omega) n1 n1 rfl rfl (by omega) (by omega) (by omega); have m1 := mix_f lvB_f (by omega) lv1 n1 rfl rfl (by omega) (by omega) (by omega); have w0 : worstV lvB nilP nilP = mixV lvB nilP nilP := by unfold worstV; rw [if_pos (by rw [n1.at_ m0]; rfl)]
 have w1 : worstV lvB oneP nilP = mixV lvB oneP nilP := by unfold worstV; rw [if_pos (by rw [n1.at_ m1]; rfl)]
 rw [w0, w1]; have m2 := mix_f lvB_f (by omega) m1 m0 rfl rfl (by omega) (by omega) (by omega); have w2 : worstV lvB (mixV lvB oneP nilP) (mixV lvB nilP nilP) = mixV lvB (mixV lvB oneP nilP) (mixV lvB nilP nilP) := by unfold worstV; rw [if_pos (by rw [m0.at_ m2]; rfl)]
 rw [w2]; exact frq m2 (by omega) rfl (by omega) (by omega)
/-- the even plan that bets too much -/
theorem lv_even : planE (redP 1 4) [[redP 5 1]] = 1 := by
 have hb : badFrom (redP 1 4) 0 [[redP 5 1]] = true := by
  simp only [badFrom, rowBad, List.any_cons, List.any_nil, List.length_cons, List.length_nil]; rw [wrong_red (by omega) (by decide) (by omega) (by decide) (by omega) (by omega) (by omega) (by omega)]
  decide
 unfold planE; rw [if_neg (by simp), part_red (by omega) (by decide) (by omega) (by omega), if_neg (by simp), hb, if_pos rfl]
end Go.Proofs.Ytnjjdiilkhdbeaa
namespace Go.Proofs.Ytnjjdiilkhdbeaa
open Go Go.RowKit
theorem of_R (n d : Nat) (w : World) (hn : n ≤ 9223372036854775807) (hd : 0 < d) (hd2 : d ≤ 9223372036854775807) : Calls Try.prog 11 #[.int .i64 n, .int .i64 d] w fun e w' => ∃ v, e = .returned v ∧ RtP w' v (redP n d) ∧ Below w.heap.size w w' := by
 refine (of_F n d w hn hd hd2).mono ?_; rintro e w' ⟨v, rfl, h, hb⟩; exact ⟨v, rfl, h.1.rtP, hb⟩
def AllRt (w : World) : List (Value × Value) → List LP → Prop
 | [], [] => True
 | p :: ps, x :: xs => RtP w (.agg #[p.1, p.2]) x ∧ AllRt w ps xs
 | _, _ => False
theorem AllRt.len {w : World} : ∀ {ps : List (Value × Value)} {xs : List LP}, AllRt w ps xs → ps.length = xs.length
 | [], [], _ => rfl
 | p :: ps, x :: xs, h => by rw [List.length_cons, List.length_cons, AllRt.len h.2]
 | [], x :: xs, h => absurd h (by simp [AllRt])
 | p :: ps, [], h => absurd h (by simp [AllRt])
theorem AllRt.get {w : World} : ∀ {ps : List (Value × Value)} {xs : List LP}, AllRt w ps xs → ∀ (i : Nat) p x, ps[i]? = some p → xs[i]? = some x → RtP w (.agg #[p.1, p.2]) x
 | [], [], _, i, p, x, h1, _ => by simp at h1
 | q :: ps, y :: xs, h, i, p, x, h1, h2 => by
  rcases i with _ | i
  ·simp only [List.getElem?_cons_zero, Option.some.injEq] at h1 h2; subst h1 h2; exact h.1
  ·simp only [List.getElem?_cons_succ] at h1 h2; exact AllRt.get h.2 i p x h1 h2
 | [], x :: xs, h, _, _, _, _, _ => absurd h (by simp [AllRt])
 | p :: ps, [], h, _, _, _, _, _ => absurd h (by simp [AllRt])
theorem ratRow_new {w : World} (T : TypeId) (ps : List (Value × Value)) (X : List LP) (h : AllRt w ps X) (hk : ps.length ≤ 1048576) : RatRow (w.alloc (.cells (ps.flatMap prC).toArray T)) (some ⟨w.heap.size, 0, none⟩) ps.length X :=
 ⟨ps, ⟨Rd.newC _ _ _, rfl, by omega⟩, h.len, fun i p x e1 e2 => (h.get i p x e1 e2).below (bA _ _)⟩
theorem ratRows_new2 {w : World} (T : TypeId) (A1 : Option Addr) (k1 c1 : Nat) (A2 : Option Addr) (k2 c2 : Nat) (r1 r2 : List LP) (h1 : RatRow w A1 k1 r1) (h2 : RatRow w A2 k2 r2) : RatRows (w.alloc (.cells #[.slice A1 k1 c1, .slice A2 k2 c2] T)) (some ⟨w.heap.size, 0, none⟩) 2 [r1, r2] := by
 refine ⟨[⟨A1, k1, c1⟩, ⟨A2, k2, c2⟩], ⟨Rd.newC _ _ _, rfl, by omega⟩, rfl, ?_⟩; intro i s r e1 e2
 rcases i with _ | _ | i
 ·simp only [List.getElem?_cons_zero, Option.some.injEq] at e1 e2; subst e1 e2; exact h1.below (bA _ _)
 ·simp only [List.getElem?_cons_zero, List.getElem?_cons_succ, Option.some.injEq] at e1 e2; subst e1 e2; exact h2.below (bA _ _)
 ·simp at e1
theorem Frac.short {x : LP} {n d : Nat} (h : Frac x n d) : x.1.length ≤ 1048576 ∧ x.2.length ≤ 1048576 := by
 obtain ⟨a, b, g, rfl, ga, _⟩ := h.parts; exact ⟨Nat.le_trans ga.fits.1 (by omega), Nat.le_trans ga.fits.2 (by omega)⟩
theorem lv_lowE : reachE lvB lvR (redP 1 4) 2 (redP 5 2) = 0 := by
 have hl : Frac (redP 5 2) 5 2 := fr (by omega) (by omega) (by omega); unfold reachE; rw [if_neg (by rw [lv_plan]; simp), part_red (by omega) (by decide) (by omega) (by omega), if_neg (by simp)]; unfold boundE; rw [if_neg (by rw [hl.valid]; simp), if_neg (by omega)]
theorem lv_highE : reachE lvB lvR (redP 1 4) 2 (redP 3 1) = 0 := by
 have hl : Frac (redP 3 1) 3 1 := fr (by omega) (by omega) (by omega); unfold reachE; rw [if_neg (by rw [lv_plan]; simp), part_red (by omega) (by decide) (by omega) (by omega), if_neg (by simp)]; unfold boundE; rw [if_neg (by rw [hl.valid]; simp), if_neg (by omega)]
theorem lv_worstE : worstE lvB lvR 2 (redP 3 1) = 0 := by
 have hl : Frac (redP 3 1) 3 1 := fr (by omega) (by omega) (by omega); unfold worstE; rw [if_neg (by rw [lv_plan]; simp)]; unfold boundE; rw [if_neg (by rw [hl.valid]; simp), if_neg (by omega)]
theorem lv_evenE : evenE (redP 1 4) (redP 5 1) 1 = 1 := by
 unfold evenE; rw [if_neg (by omega)]; exact lv_even
/-- what the calls of the examples say -/
theorem lvx_exp (p q : Nat) (y : LP) (va vq : Value) (w : World) (hp : PlanV w va lvB lvR) (hq : RtP w vq (redP p q)) (h0 : 0 < q) (g1 : Nat.gcd p q = 1) (hpq : p ≤ q) (hq2 : q ≤ 255) (hy : expX lvB lvR (redP p q) 2 = y) : Calls Try.prog 19 #[va, vq, .int .i64 2] w fun e w' => ∃ v, e = .returned (.tuple #[v, .int .i64 0]) ∧ RtP w' v y ∧ Below w.heap.size w w' := by
 have h := expect_F va vq lvB (redP p q) lvR 2 w hp hq; rw [lv_expE h0 g1 hpq hq2, hy] at h; exact h
theorem lvx_reach (l y : LP) (va vl vq : Value) (w : World) (hp : PlanV w va lvB lvR) (hq : RtP w vq (redP 1 4)) (hl : RtP w vl l) (hE : reachE lvB lvR (redP 1 4) 2 l = 0) (hy : reachX lvB lvR (redP 1 4) 2 l = y) : Calls Try.prog 14 #[va, vq, .int .i64 2, vl] w fun e w' => ∃ v, e = .returned (.tuple #[v, .int .i64 0]) ∧ RtP w' v y ∧ Below w.heap.size w w' := by
 have h := reach_F va vl vq lvB (redP 1 4) l lvR 2 w hp hq hl; rw [hE, hy] at h; exact h
theorem lvx_worst (l y : LP) (va vl : Value) (w : World) (hp : PlanV w va lvB lvR) (hl : RtP w vl l) (hE : worstE lvB lvR 2 l = 0) (hy : worstX lvB lvR 2 l = y) : Calls Try.prog 16 #[va, .int .i64 2, vl] w fun e w' => ∃ v, e = .returned (.tuple #[v, .int .i64 0]) ∧ RtP w' v y ∧ Below w.heap.size w w' := by
 have h := worst_F va vl lvB l lvR 2 w hp hl; rw [hE, hy] at h; exact h
theorem lvx_cap (bad : List Bool) (X : List LP) (va : Value) (A : Option Addr) (k c : Nat) (w : World) (hp : PlanV w va lvB lvR) (hbad : RowS boolC w A k bad) (hl : bad.length ≤ 256) (hX : capX lvB lvR bad = X) (hXl : X.length ≤ 1048576) : Calls Try.prog 22 #[va, .slice A k c] w fun e w' => ∃ A' c', e = .returned (.tuple #[.slice A' X.length c', .int .i64 0]) ∧ RatRow w' A' X.length X ∧ Below w.heap.size w w' := by
 refine (capitals_F va lvB lvR A k c bad w hp hbad).mono ?_; rintro e w' ⟨v, rfl, h, hb⟩; rw [lv_capE bad hl]; rw [hX] at h; obtain ⟨A', c', rfl⟩ := h.shp; exact ⟨A', c', rfl, h.row (by omega), hb⟩
theorem wpList_sliceG {ops : Array Oper} {rest : List Oper} {o : Oper} {a : Act} {w : World} {Q : Exit → Act → World → Prop} (hw : Region.wanted o (yielded ops a.tmps) = true) (t e : TypeId) (len : Nat) (pl : List (Nat × Operand)) (ho : o.op = .buildSlice t len pl.toArray)
  (cells : Array Value) (ie : TypeInfo) (z : Value) (n : Nat) (vals : List (Nat × Value))
  (hu : Try.prog.underlying t = some (.slice e)) (hie : Try.prog.info? e = some ie) (hz : ie.zero = some z) (hn : ie.size = n) (hsmall : ¬ len * n > 2 ^ 24) (hpos : ¬ len * n = 0) (hv : (pl.map fun (i, x) => (i, a.eval x)) = vals)
  (hf : Instr.fill (fun i => some (i * n, n)) ((Array.range (len * n)).map (z.cells[· % z.cells.size]!)) vals = some cells)
  (h : wpList Try.prog ops Q rest (a.put o.dst (.slice (some ⟨w.heap.size, 0, none⟩) len len)) (w.alloc (.cells cells e))) : wpList Try.prog ops Q (o :: rest) a w :=
 wpList_step fun K hK => by
  rw [if_pos hw]; exact wp_sliceN t e len pl ho cells ie z n vals hu hie hz hn hsmall hpos hv hf (hK _ _ h)
theorem fill_r3 (A0 B0 A1 B1 A2 B2 : Option Addr) (k0 c0 m0 d0 k1 c1 m1 d1 k2 c2 m2 d2 : Nat) : Instr.fill (fun i => some (i * 2, 2)) ((Array.range (3 * 2)).map (nilRat.cells[· % nilRat.cells.size]!)) [(0, .agg #[.slice A0 k0 c0, .slice B0 m0 d0]), (1, .agg #[.slice A1 k1 c1, .slice B1 m1 d1]), (2, .agg #[.slice A2 k2 c2, .slice B2 m2 d2])] = some #[.slice A0 k0 c0, .slice B0 m0 d0, .slice A1 k1 c1, .slice B1 m1 d1, .slice A2 k2 c2, .slice B2 m2 d2] := by kernel_rfl
theorem fill_r4 (A0 B0 A1 B1 A2 B2 A3 B3 : Option Addr) (k0 c0 m0 d0 k1 c1 m1 d1 k2 c2 m2 d2 k3 c3 m3 d3 : Nat) : Instr.fill (fun i => some (i * 2, 2)) ((Array.range (4 * 2)).map (nilRat.cells[· % nilRat.cells.size]!)) [(0, .agg #[.slice A0 k0 c0, .slice B0 m0 d0]), (1, .agg #[.slice A1 k1 c1, .slice B1 m1 d1]), (2, .agg #[.slice A2 k2 c2, .slice B2 m2 d2]), (3, .agg #[.slice A3 k3 c3, .slice B3 m3 d3])] = some #[.slice A0 k0 c0, .slice B0 m0 d0, .slice A1 k1 c1, .slice B1 m1 d1, .slice A2 k2 c2, .slice B2 m2 d2, .slice A3 k3 c3, .slice B3 m3 d3] := by kernel_rfl
theorem fill_r5 (A0 B0 A1 B1 A2 B2 A3 B3 A4 B4 : Option Addr) (k0 c0 m0 d0 k1 c1 m1 d1 k2 c2 m2 d2 k3 c3 m3 d3 k4 c4 m4 d4 : Nat) : Instr.fill (fun i => some (i * 2, 2)) ((Array.range (5 * 2)).map (nilRat.cells[· % nilRat.cells.size]!)) [(0, .agg #[.slice A0 k0 c0, .slice B0 m0 d0]), (1, .agg #[.slice A1 k1 c1, .slice B1 m1 d1]), (2, .agg #[.slice A2 k2 c2, .slice B2 m2 d2]), (3, .agg #[.slice A3 k3 c3, .slice B3 m3 d3]), (4, .agg #[.slice A4 k4 c4, .slice B4 m4 d4])] = some #[.slice A0 k0 c0, .slice B0 m0 d0, .slice A1 k1 c1, .slice B1 m1 d1, .slice A2 k2 c2, .slice B2 m2 d2, .slice A3 k3 c3, .slice B3 m3 d3, .slice A4 k4 c4, .slice B4 m4 d4] := by kernel_rfl
theorem lvx_even (va vb : Value) (w : World) (ha : RtP w va (redP 1 4)) (hb0 : RtP w vb (redP 5 1)) : Calls Try.prog 24 #[va, vb, .int .i64 1] w fun e w' => ∃ Y1 y1 z1 Y2 y2 z2 Y3 y3 z3, e = .returned (.tuple #[.agg #[.slice Y1 y1 z1, .slice Y2 y2 z2, .slice Y3 y3 z3], .int .i64 1]) ∧ Below w.heap.size w w' := by
 have f1 : Frac (redP 1 4) 1 4 := fr (by omega) (by omega) (by omega); have f2 : Frac (redP 5 1) 5 1 := fr (by omega) (by omega) (by omega); refine (even_F va vb _ _ 1 w ha hb0 f1.short.1 f1.short.2 f2.short.1 f2.short.2).mono ?_; rintro e w' ⟨v, rfl, ⟨x1, x2, S, k, c, rfl, hv, _⟩, hb⟩; rw [lv_evenE]; obtain ⟨A1, k1, c1, A2, k2, c2, e⟩ := hv.shape; simp only [Value.agg.injEq, Array.mk.injEq, List.cons.injEq, and_true] at e; obtain ⟨rfl, rfl⟩ := e; exact ⟨_, _, _, _, _, _, _, _, _, rfl, hb⟩
def PhiL1 (p0 : Value) (f1 : LP) (X : LP) (B : Nat) (j : Nat) (w : World) (x : Value) : Prop :=
 match j with
 | 0 => x = p0
 | 1 => RtP w x f1
 | 2 => ∃ v, x = .tuple #[v, .int .i64 (0 : Int)] ∧ RtP w v X
 | 3 => ∃ v, x = .tuple #[v, .int .i64 (0 : Int)] ∧ RtP w v X
 | 4 => ∃ A k c A' k' c', x = .agg #[.slice A k c, .slice A' k' c'] ∧ RtP w (.agg #[.slice A k c, .slice A' k' c']) X
 | 5 => x = .int .i64 (0 : Int)
 | 6 => ∃ g, x = .pointer (some ⟨g, 0, none⟩) ∧ B ≤ g ∧ Sl w g
 | 7 => True
 | 8 => x = .int .i64 (0 : Int)
 | _ => True
theorem PhiL1.keep {p0 : Value} {f1 : LP} {X : LP} {B : Nat} : ∀ (w w' : World), RT B w w' → ∀ j x, PhiL1 p0 f1 X B j w x → PhiL1 p0 f1 X B j w' x := by
 intro w w' hr j x h; unfold PhiL1 at h ⊢
 split <;> simp only at h ⊢
 all_goals first
  | exact h
  | (obtain ⟨v, e, h⟩ := h; exact ⟨v, e, h.mapL hr.lim⟩)
  | (obtain ⟨A, k, c, A', k', c', e, h⟩ := h; exact ⟨A, k, c, A', k', c', e, h.mapL hr.lim⟩)
  | (obtain ⟨g, e, h1, h2⟩ := h; exact ⟨g, e, h1, hr.sl g h2⟩)
  | exact h.mapL hr.lim
def PhiL2 (p0 : Value) (f1 f2 : LP) (X : LP) (B : Nat) (j : Nat) (w : World) (x : Value) : Prop :=
 match j with
 | 0 => x = p0
 | 1 => RtP w x f1
 | 2 => RtP w x f2
 | 3 => ∃ v, x = .tuple #[v, .int .i64 (0 : Int)] ∧ RtP w v X
 | 4 => ∃ v, x = .tuple #[v, .int .i64 (0 : Int)] ∧ RtP w v X
 | 5 => ∃ A k c A' k' c', x = .agg #[.slice A k c, .slice A' k' c'] ∧ RtP w (.agg #[.slice A k c, .slice A' k' c']) X
 | 6 => x = .int .i64 (0 : Int)
 | 7 => ∃ g, x = .pointer (some ⟨g, 0, none⟩) ∧ B ≤ g ∧ Sl w g
 | 8 => True
 | 9 => x = .int .i64 (0 : Int)
 | _ => True
theorem PhiL2.keep {p0 : Value} {f1 f2 : LP} {X : LP} {B : Nat} : ∀ (w w' : World), RT B w w' → ∀ j x, PhiL2 p0 f1 f2 X B j w x → PhiL2 p0 f1 f2 X B j w' x := by
 intro w w' hr j x h; unfold PhiL2 at h ⊢
 split <;> simp only at h ⊢
 all_goals first
  | exact h
  | (obtain ⟨v, e, h⟩ := h; exact ⟨v, e, h.mapL hr.lim⟩)
  | (obtain ⟨A, k, c, A', k', c', e, h⟩ := h; exact ⟨A, k, c, A', k', c', e, h.mapL hr.lim⟩)
  | (obtain ⟨g, e, h1, h2⟩ := h; exact ⟨g, e, h1, hr.sl g h2⟩)
  | exact h.mapL hr.lim
def PhiL3 (a1 a2 b1 b2 c1 c2 d1 d2 e1 e2 : Value) (vs : Nat → Value) (j : Nat) (w : World) (x : Value) : Prop :=
 match j with
 | 0 => x = .agg #[a1, a2]
 | 1 => x = .agg #[b1, b2]
 | 2 => x = .agg #[c1, c2]
 | 3 => x = .agg #[d1, d2]
 | 4 => x = .agg #[e1, e2]
 | 5 => ∃ g, x = .slice (some ⟨g, 0, none⟩) 5 5 ∧ RatRow w (some ⟨g, 0, none⟩) 5 [redP 1 1, redP 45 16, redP 1 4, redP 1 16, redP 1 16]
 | 6 => RtP w x (redP 1 1)
 | 7 => RtP w x (redP 45 16)
 | 8 => RtP w x (redP 1 4)
 | 9 => RtP w x (redP 1 16)
 | 10 => RtP w x (redP 1 16)
 | 11 => ∃ g, x = .slice (some ⟨g, 0, none⟩) 5 5 ∧ RatRow w (some ⟨g, 0, none⟩) 5 [redP 1 1, redP 45 16, redP 1 4, redP 1 16, redP 1 16]
 | 12 => x = .bool true
 | 13 => x = .bool true
 | 14 => x = .int .i64 1
 | 15 => x = .bool true
 | 16 => x = .bool true
 | _ => True
theorem PhiL3.keepR {a1 a2 b1 b2 c1 c2 d1 d2 e1 e2 : Value} : ∀ vs (w w' : World), Below w.heap.size w w' → ∀ j x, PhiL3 a1 a2 b1 b2 c1 c2 d1 d2 e1 e2 vs j w x → PhiL3 a1 a2 b1 b2 c1 c2 d1 d2 e1 e2 vs j w' x := by
 intro vs w w' hb j x h; unfold PhiL3 at h ⊢
 split <;> simp only at h ⊢
 all_goals first
  | exact h
  | exact h.below hb
  | (obtain ⟨v, er, e, h⟩ := h; exact ⟨v, er, e, h.below hb⟩)
  | (obtain ⟨g, e, h⟩ := h; exact ⟨g, e, h.below hb⟩)
theorem PhiL3.keepF {a1 a2 b1 b2 c1 c2 d1 d2 e1 e2 : Value} : ∀ vs (w w' : World) j x, ([] : List Nat).contains j = true → PhiL3 a1 a2 b1 b2 c1 c2 d1 d2 e1 e2 vs j w x → PhiL3 a1 a2 b1 b2 c1 c2 d1 d2 e1 e2 vs j w' x := by
 intro vs w w' j x hf
 cases hf
def SL9 (w0 : World) : List Value → (Nat → Value) → World → Prop
 | [], _, W => Below w0.heap.size w0 W
 | [v], _, W => v = .bool true ∧ Below w0.heap.size w0 W
 | _, _, _ => True
end Go.Proofs.Ytnjjdiilkhdbeaa
namespace Go.Proofs.Ytnjjdiilkhdbeaa
open Go Go.RowKit
set_option maxRecDepth 10000 in
set_option maxHeartbeats 400000 in
theorem equ32_n (A1 A2 : Option Addr) (k1 c1 k2 c2 : Nat) (l1 l2 : List Nat) (w : World) (h1 : Lim w A1 c1 l1) (h2 : Lim w A2 c2 l2) (e1 : k1 = l1.length) (e2 : k2 = l2.length) :
  Calls Try.prog 51 #[.slice A1 k1 c1, .slice A2 k2 c2] w fun e w' => ∃ b, e = .returned (.bool b) ∧ Hid (b = sameB l1 l2) ∧ Below w.heap.size w w' := by
 have hkb1 : k1 ≤ 9223372036854775807 := by have := h1.2.1; have := h1.2.2.1; omega
 have E1 := Lib.hid e1; have E2 := Lib.hid e2; by_cases hk : k1 = k2
 ·subst hk; clear e1 e2
  go_enter Try.func51, Try.ntmps51
  go_wp2
  go_loopg [13] k1 (fun j x wr => ∃ i : Nat, x = .int .i64 i ∧ i + j = k1 ∧ Hid (l1.take i = l2.take i) ∧ ∃ nq, wr = w.drewN nq)
  case atStart => exact ⟨0, rfl, by omega, by show _ = _; simp, 0, rfl⟩
  case round =>
   obtain ⟨i, rfl, hij, HT, nq, rfl⟩ := hrel; by_cases hi : i < k1
   ·obtain ⟨b1, o1, a, rfl, hca, ha, HA⟩ := h1.get (k := i) (by have := E1.out; omega); obtain ⟨b2, o2, b, rfl, hcb, hb, HB⟩ := h2.get (k := i) (by have := E2.out; omega); by_cases hab : a = b
    ·have HT2 : Hid (l1.take (i + 1) = l2.take (i + 1)) := take_same (by have := E1.out; omega) (by rw [← E1.out, ← E2.out]) HT.out HA.out HB.out hab; have hd : ((a : Int) != (b : Int)) = false := by rw [hab]; simp
     clear hab; go_wp2_with fail
     go_quiet (fail)
     go_wp2_with fail
     go_roundg (gk - 1)
     case measure => omega
     case rel => exact ⟨i + 1, by go_num, by omega, HT2, _, rfl⟩
    ·have hd : ((a : Int) != (b : Int)) = true := by simp; omega
     have HF : Hid (false = sameB l1 l2) := by
      show _ = _; unfold sameB; symm; rw [decide_eq_false_iff_not]
      rintro rfl; exact hab (HA.out.trans HB.out.symm)
     clear hab; go_wp2_with fail
     go_quiet (fail)
     go_wp2_with fail; go_ret; exact ⟨_, rfl, HF, Below.tr (below_drewN _ _) (below_drewN _ _)⟩
   ·obtain rfl : k1 = i := by omega
    have HF : Hid (true = sameB l1 l2) := by
     show _ = _; unfold sameB; symm; rw [decide_eq_true_iff]
     have := HT.out
     rwa [List.take_of_length_le (by rw [← E1.out]; omega), List.take_of_length_le (by rw [← E2.out]; omega)] at this
    go_wp2_with fail; go_ret; exact ⟨_, rfl, HF, below_drewN _ _⟩
 ·have HF : Hid (false = sameB l1 l2) := by
   show _ = _; unfold sameB; symm; rw [decide_eq_false_iff_not]
   rintro rfl; exact hk (e1.trans e2.symm)
  have hd : ((k1 : Int) != (k2 : Int)) = true := by simp; omega
  clear e1 e2 hk
  go_enter Try.func51, Try.ntmps51
  go_wp2
  go_ret; exact ⟨_, rfl, HF, Below.refl _ _⟩
set_option maxRecDepth 10000 in
set_option maxHeartbeats 400000 in
theorem psame_n (va vb : Value) (L1 L2 L3 L4 : List Nat) (w : World) (ha : RtL w va L1 L2) (hb : RtL w vb L3 L4) :
  Calls Try.prog 20 #[va, vb] w fun e w' => ∃ b, e = .returned (.bool b) ∧ Hid (b = sameR L1 L2 L3 L4) ∧ Below w.heap.size w w' := by
 obtain ⟨A1, k1, c1, A2, k2, c2, rfl, h1, h2, e1, e2⟩ := ha; obtain ⟨B1, m1, d1, B2, m2, d2, rfl, h3, h4, e3, e4⟩ := hb; have E1 := Lib.hid e1; have E2 := Lib.hid e2; have E3 := Lib.hid e3; have E4 := Lib.hid e4; clear e1 e2 e3 e4; obtain ⟨W, HW⟩ : ∃ W, Hid (W = (w.alloc (.cells #[.slice A1 k1 c1, .slice A2 k2 c2] 25)).alloc (.cells #[.slice B1 m1 d1, .slice B2 m2 d2] 25)) := ⟨_, rfl⟩; have hbw : Below w.heap.size w W := by rw [HW.out]; exact Below.tr (bA _ _) (bA _ _)
 have BA : Blk W w.heap.size 25 #[.slice A1 k1 c1, .slice A2 k2 c2] := by rw [HW.out]; exact (Blk.new _ _ _).alloc _
 have BB : Blk W (w.heap.size + 1) 25 #[.slice B1 m1 d1, .slice B2 m2 d2] := by
  rw [HW.out]; have h := Blk.new (w.alloc (.cells #[.slice A1 k1 c1, .slice A2 k2 c2] 25)) 25 #[.slice B1 m1 d1, .slice B2 m2 d2]
  simpa using h
 have h1 := h1.below hbw; have h2 := h2.below hbw; have h3 := h3.below hbw; have h4 := h4.below hbw; have q0 := BA.cell 0; have q2 := BB.cell 0; simp only [List.getElem?_toArray, List.getElem?_cons_zero, List.getElem?_cons_succ] at q0 q2
 go_enter Try.func20, Try.ntmps20
 go_wp2_with fail; rw [← HW.out]; go_wp2_with fail; refine (equ32_n A1 B1 k1 c1 m1 d1 L1 L3 _ h1 h3 E1.out E3.out).mono ?_; rintro e w2 ⟨b, rfl, HX, hb2⟩; have q1 := (Blk.below BA hb2 BA.lt).cell 1; have q3 := (Blk.below BB hb2 BB.lt).cell 1; simp only [List.getElem?_toArray, List.getElem?_cons_zero, List.getElem?_cons_succ] at q1 q3; clear q0 q2
 cases b
 ·go_wp2_with fail; go_ret; exact ⟨_, rfl, by show _ = _; unfold sameR; rw [← HX.out]; rfl, Below.tr hbw hb2⟩
 ·go_wp2_with fail; refine (equ32_n A2 B2 k2 c2 m2 d2 L2 L4 _ (h2.below hb2) (h4.below hb2) E2.out E4.out).mono ?_; rintro e w3 ⟨b, rfl, HY, hb3⟩; go_wp2_with fail; go_ret; exact ⟨_, rfl, by show _ = _; unfold sameR; rw [← HX.out, ← HY.out]; simp, Below.tr hbw (Below.tr hb2 hb3)⟩
end Go.Proofs.Ytnjjdiilkhdbeaa
namespace Go.Proofs.Ytnjjdiilkhdbeaa
open Go Go.RowKit
set_option maxRecDepth 10000 in
set_option maxHeartbeats 1000000 in
theorem plan_E (va : Value) (b : LP) (rows : List (List LP)) (w : World) (hp : PlanV w va b rows) : Calls Try.prog 15 #[va] w fun e w' => e = .returned va ∧ Below w.heap.size w w' := by
 obtain ⟨x1, x2, S, kS, cS, rfl, hbd, hrows⟩ := hp; obtain ⟨X1, xk1, xc1, X2, xk2, xc2, hsh⟩ := hbd.shape; simp only [Value.agg.injEq, Array.mk.injEq, List.cons.injEq, and_true] at hsh; obtain ⟨rfl, rfl⟩ := hsh
 go_enter Try.func15, Try.ntmps15
 go_upto_region 1 with fail; refine wp_name ?_; intro w1 HW1; have hb1 : Below w.heap.size w w1 := by rw [HW1.out]; exact Below.tr (bA _ _) (bA _ _)
 have hB1 : Blk w1 w.heap.size 28 #[.slice X1 xk1 xc1, .slice X2 xk2 xc2, .slice S kS cS] := by rw [HW1.out]; exact Blk.below (Blk.newG rfl) (bA _ _) (Blk.newG rfl).lt
 have hB2 : Blk w1 (w.heap.size + 1) 38 #[.slice none 0 0, .slice none 0 0, .slice none 0 0] := by rw [HW1.out]; exact Blk.newG (by simp)
 clear HW1; have p0 := hB1.cell 0; have p1 := hB1.cell 1; have p2 := hB1.cell 2; have q0 := hB2.cell 0; have q1 := hB2.cell 1; have q2 := hB2.cell 2; have r0 := hB2.frozen 0; have r1 := hB2.frozen 1; have r2 := hB2.frozen 2; simp only [List.getElem?_toArray, List.getElem?_cons_zero, List.getElem?_cons_succ] at p0 p1 p2 q0 q1 q2; obtain ⟨gr, hgr⟩ : ∃ g, Hid (g = w.heap.size + 1) := ⟨_, rfl⟩; have hge : w.heap.size ≤ gr := by have := hgr.out; omega
 rw [← hgr.out] at hB2 q0 q1 q2 r0 r1 r2 ⊢; have hf := ((hB2.set_ 0 (.slice X1 xk1 xc1)).set_ 1 (.slice X2 xk2 xc2)).set_ 2 (.slice S kS cS); have z0 := hf.cell 0; have z1 := hf.cell 1; have z2 := hf.cell 2; simp at z0 z1 z2; have hbz : Below w.heap.size w (((w1.setCell ⟨gr, 0, none⟩ (.slice X1 xk1 xc1)).setCell ⟨gr, 1, none⟩ (.slice X2 xk2 xc2)).setCell ⟨gr, 2, none⟩ (.slice S kS cS)) := ((hb1.setCell (p := ⟨gr, 0, none⟩) hge _).setCell (p := ⟨gr, 1, none⟩) hge _).setCell (p := ⟨gr, 2, none⟩) hge _; have hpz : PlanV (((w1.setCell ⟨gr, 0, none⟩ (.slice X1 xk1 xc1)).setCell ⟨gr, 1, none⟩ (.slice X2 xk2 xc2)).setCell ⟨gr, 2, none⟩ (.slice S kS cS)) (.agg #[.slice X1 xk1 xc1, .slice X2 xk2 xc2, .slice S kS cS]) b rows := ⟨_, _, S, kS, cS, rfl, hbd.below hbz, hrows.below hbz⟩; clear hB1 hB2 hf hgr hb1; go_wp2_with fail; exact bodyPost_ret (v := .agg #[.slice X1 xk1 xc1, .slice X2 xk2 xc2, .slice S kS cS]) (by simp [results, Try.results15, go_sem, z0, z1, z2]) rfl ⟨rfl, hbz⟩
theorem psame_F (va vb : Value) (x : LP) (w : World) (ha : RtP w va x) (hb : RtP w vb x) : Calls Try.prog 20 #[va, vb] w fun e w' => e = .returned (.bool true) ∧ Below w.heap.size w w' := by
 refine (psame_n va vb x.1 x.2 x.1 x.2 w ha hb).mono ?_; rintro e w' ⟨b, rfl, HB, h⟩; rw [HB.out, same_self]; exact ⟨rfl, h⟩
theorem cmp_good (va vb : Value) (a b : LP) (w : World) (ha : RtP w va a) (hb : RtP w vb b) (h1 : validP a = 0) (h2 : validP b = 0) : Calls Try.prog 17 #[va, vb] w fun e w' => e = .returned (.tuple #[.int .i64 (cmpV a b), .int .i64 0]) ∧ Below w.heap.size w w' := by
 have h := cmp_F va vb a b w ha hb; rw [h1, h2] at h; exact h
end Go.Proofs.Ytnjjdiilkhdbeaa
namespace Go.Proofs.Ytnjjdiilkhdbeaa
open Go Go.RowKit
theorem bools_map (l : List Bool) : l.flatMap boolC = l.map Value.bool := by
 induction l with
 | nil => rfl
 | cons x l ih => rw [List.flatMap_cons, ih]; rfl
theorem Rd.takeN {w : World} {A : Option Addr} {xs : List Value} (h : Rd w A xs) (n : Nat) : Rd w A (xs.take n) := by
 intro hne; have h1 : xs ≠ [] := by rintro rfl; simp at hne
 obtain ⟨b, off, e, hc⟩ := h h1; refine ⟨b, off, e, fun i hi => ?_⟩; have hi2 : i < xs.length := by rw [List.length_take] at hi; omega
 rw [hc i hi2, List.getElem_take]
theorem Rd.dropN {w : World} {b off : Nat} {xs : List Value} (h : Rd w (some ⟨b, off, none⟩) xs) (n : Nat) : Rd w (some ⟨b, off + n, none⟩) (xs.drop n) := by
 intro hne; have h1 : xs ≠ [] := by rintro rfl; simp at hne
 obtain ⟨b', off', e, hc⟩ := h h1; simp only [Option.some.injEq, Addr.mk.injEq, and_true] at e; obtain ⟨rfl, rfl⟩ := e; refine ⟨b, off + n, rfl, fun i hi => ?_⟩; have hi2 : n + i < xs.length := by rw [List.length_drop] at hi; omega
 rw [show off + n + i = off + (n + i) by omega, hc (n + i) hi2, List.getElem_drop]
theorem RowS.takeN {w : World} {A : Option Addr} {k : Nat} {l : List Bool} (h : RowS boolC w A k l) {n : Nat} (hn : n ≤ k) : RowS boolC w A n (l.take n) := by
 obtain ⟨h1, h2, h3⟩ := h; refine ⟨?_, by rw [List.length_take]; omega, by omega⟩; rw [bools_map] at h1; rw [bools_map, List.map_take]; exact h1.takeN n
theorem RowS.dropN {w : World} {b off : Nat} {k : Nat} {l : List Bool} (h : RowS boolC w (some ⟨b, off, none⟩) k l) {n : Nat} (hn : n ≤ k) : RowS boolC w (some ⟨b, off + n, none⟩) (k - n) (l.drop n) := by
 obtain ⟨h1, h2, h3⟩ := h; refine ⟨?_, by rw [List.length_drop]; omega, by omega⟩; rw [bools_map] at h1; rw [bools_map, List.map_drop]; exact h1.dropN n
theorem bools_nil (w : World) : RowS boolC w none 0 [] := ⟨fun h => absurd rfl h, rfl, by omega⟩
/-- a row of the call's own is nil or begins its block -/
theorem own_two {w : World} {base : Nat} {e : TypeId} {size : Nat} {A : Option Addr} {n c : Nat} {xs : List Value} (h : w.ownsRow base e size (.slice A n c) n xs) : (A = none ∧ n = 0 ∧ c = 0) ∨ ∃ g, A = some ⟨g, 0, none⟩ ∧ n ≤ c ∧ c ≤ maxLen := by
 rcases h.2 with ⟨h1, h2⟩ | ⟨g, cap, cur, h1, h2, h3, h4, h5, _⟩
 ·injection h1 with e1 e2 e3; exact .inl ⟨e1, e2, e3⟩
 ·injection h1 with e1 e2 e3; subst e3; exact .inr ⟨g, e1, h4, h5⟩
theorem RowS.dropC {w : World} {Ab B : Option Addr} {kb cb : Nat} {l : List Bool} (h : RowS boolC w Ab kb l) (hcap : (Ab = none ∧ kb = 0 ∧ cb = 0) ∨ ∃ g, Ab = some ⟨g, 0, none⟩ ∧ kb ≤ cb ∧ cb ≤ maxLen) {n : Nat} (hn : n ≤ kb) (hB : B = if cb = n then Ab else Option.map (fun a => a.add (n * 1)) Ab) : RowS boolC w B (kb - n) (l.drop n) := by
 rcases hcap with ⟨rfl, rfl, rfl⟩ | ⟨g, rfl, h1, _⟩
 ·obtain rfl : n = 0 := by omega
  rw [if_pos rfl] at hB; subst hB; exact h
 ·by_cases hc : cb = n
  ·have hl : (l.drop n).length = kb - n := by rw [List.length_drop, h.2.1]
   have h0 : kb - n = 0 := by omega
   rw [h0] at hl ⊢; rw [List.eq_nil_of_length_eq_zero hl]; exact ⟨fun h => absurd rfl h, rfl, by omega⟩
  ·rw [if_neg hc, Nat.mul_one] at hB; by_cases h0 : n = 0
   ·subst h0; subst hB; exact h
   ·have e : B = some ⟨g, 0 + n, none⟩ := by
     rw [hB]
     show some (Addr.add ⟨g, 0, none⟩ n) = _
     unfold Addr.add; rw [if_neg h0]
    rw [e]; exact h.dropN hn
/-- Capitals of a valid plan and few outcomes -/
theorem caps_ok (va : Value) (b : LP) (rows : List (List LP)) (A : Option Addr) (kB cB n : Nat) (bad : List Bool) (w : World) (hp : PlanV w va b rows) (h0 : planE b rows = 0) (hbad : RowS boolC w A kB bad) (hk : kB ≤ 256) (hn : n = kB + 1) :
  Calls Try.prog 22 #[va, .slice A kB cB] w fun e w' => ∃ v, e = .returned v ∧ (∃ A' c', v = .tuple #[.slice A' n c', .int .i64 0] ∧ RatRow w' A' n (capsV b rows bad)) ∧ Below w.heap.size w w' := by
 have hl : bad.length ≤ 256 := by have := hbad.2.1; omega
 refine (capitals_F va b rows A kB cB bad w hp hbad).mono ?_; rintro e w' ⟨v, rfl, h, hb⟩; rw [capE_ok h0 hl]; rw [capX_ok h0 hl] at h; obtain ⟨A', c', rfl⟩ := h.shp; have hL : (capsV b rows bad).length = n := by rw [capsV_len, hn]; have := hbad.2.1; omega
 have hr := h.row (by omega); rw [hL] at hr ⊢; exact ⟨_, rfl, ⟨A', c', rfl, hr⟩, hb⟩
theorem mul_ok0 (va vb : Value) (a b : LP) (w : World) (ha : RtP w va a) (hb : RtP w vb b) (h0 : (mulF a b).1 = 0) : Calls Try.prog 8 #[va, vb] w fun e w' => ∃ v, e = .returned (.tuple #[v, .int .i64 0]) ∧ RtP w' v (mulV a b) ∧ Below w.heap.size w w' := by
 have h := mul_F va vb a b w ha hb; rw [h0] at h; exact h
theorem PlanV.shape {w : World} {v : Value} {b : LP} {rows : List (List LP)} (h : PlanV w v b rows) : ∃ A1 k1 c1 A2 k2 c2 S kS cS, v = .agg #[.slice A1 k1 c1, .slice A2 k2 c2, .slice S kS cS] := by
 obtain ⟨x1, x2, S, k, c, rfl, h1, _⟩ := h; obtain ⟨A1, k1, c1, A2, k2, c2, e⟩ := h1.shape; simp only [Value.agg.injEq, Array.mk.injEq, List.cons.injEq, and_true] at e; obtain ⟨rfl, rfl⟩ := e; exact ⟨_, _, _, _, _, _, _, _, _, rfl⟩
end Go.Proofs.Ytnjjdiilkhdbeaa
