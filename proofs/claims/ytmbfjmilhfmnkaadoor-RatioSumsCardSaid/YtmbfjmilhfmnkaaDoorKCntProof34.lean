import Derived.Test.YtmbfjmilhfmnkaaDoorKCntProof33
import Derived.Test.YtmbfjmilhfmnkaaDoorKCntProof15
import Derived.Test.YtmbfjmilhfmnkaaDoorKCntProof16
import Derived.Test.YtmbfjmilhfmnkaaDoorKCntProof19
import Derived.Test.YtmbfjmilhfmnkaaDoorS0
set_option linter.unusedVariables false
set_option linter.unusedSimpArgs false
namespace Go.Proofs.YtmbfjmilhfmnkaaDoor
open Go Go.RowKit
theorem sameB_refl : ∀ l : List Nat, sameB l l = true := by
 intro l; unfold sameB; simp
theorem rsame_5 (va vb : Value) (x : LP) (w : World) (ha : RtP w va x) (hb : RtP w vb x) : Calls Tryd.prog 15 #[va, vb] w fun e w' => e = .returned (.bool true) ∧ Below w.heap.size w w' := by
 refine (same_any va vb x.1 x.2 x.1 x.2 w ha hb).mono ?_; rintro e w' ⟨b, rfl, HB, h⟩; rw [HB.out]; exact ⟨by unfold sameR; simp [sameB_refl], h⟩
theorem of_5 (n d : Nat) (w : World) (hn : n ≤ 1000) (hd : 0 < d) (hd2 : d ≤ 1000) :
  Calls Tryd.prog 13 #[.int .i64 n, .int .i64 d] w fun e w' => ∃ A k c A' k' c', e = .returned (.tuple #[.agg #[.slice A k c, .slice A' k' c'], .int .i64 0]) ∧ RtP w' (.agg #[.slice A k c, .slice A' k' c']) (redP n d) ∧ Below w.heap.size w w' := by
 refine (of_n n d w (by omega) hd (by omega)).mono ?_; rintro e w' ⟨v, er, rfl, hR, hb⟩; obtain ⟨rfl, h⟩ := hR.resP; rw [resP_small (b64 (by omega)) (b64 (by omega))] at h ⊢; obtain ⟨A, k, c, A', k', c', rfl⟩ := h.shape; exact ⟨A, k, c, A', k', c', rfl, h, hb⟩
theorem add_5 (va vb : Value) (w : World) (ha : RtP w va (redP 1 6)) (hb : RtP w vb (redP 1 10)) : Calls Tryd.prog 24 #[va, vb] w fun e w' => ∃ A k c A' k' c', e = .returned (.tuple #[.agg #[.slice A k c, .slice A' k' c'], .int .i64 0]) ∧ RtP w' (.agg #[.slice A k c, .slice A' k' c']) (redP 4 15) ∧ Below w.heap.size w w' := by
 have h := add_F va vb (redP 1 6) (redP 1 10) w ha hb; rw [l5_add.1] at h; rw [show (addF (redP 1 6) (redP 1 10)).2 = redP 4 15 from l5_add.2] at h; refine h.mono ?_; rintro e w' ⟨v, rfl, h, hb⟩; obtain ⟨A, k, c, A', k', c', rfl⟩ := h.shape; exact ⟨A, k, c, A', k', c', rfl, h, hb⟩
theorem sub_5 (va vb : Value) (w : World) (ha : RtP w va (redP 1 6)) (hb : RtP w vb (redP 1 10)) : Calls Tryd.prog 26 #[va, vb] w fun e w' => ∃ A k c A' k' c', e = .returned (.tuple #[.agg #[.slice A k c, .slice A' k' c'], .int .i64 0]) ∧ RtP w' (.agg #[.slice A k c, .slice A' k' c']) (redP 1 15) ∧ Below w.heap.size w w' := by
 have h := sub_F va vb (redP 1 6) (redP 1 10) w ha hb; rw [l5_sub.1] at h; rw [show (subF (redP 1 6) (redP 1 10)).2 = redP 1 15 from l5_sub.2] at h; refine h.mono ?_; rintro e w' ⟨v, rfl, h, hb⟩; obtain ⟨A, k, c, A', k', c', rfl⟩ := h.shape; exact ⟨A, k, c, A', k', c', rfl, h, hb⟩
theorem less_5 (va vb : Value) (w : World) (ha : RtP w va (redP 1 10)) (hb : RtP w vb (redP 1 6)) : Calls Tryd.prog 26 #[va, vb] w fun e w' => ∃ A k c A' k' c', e = .returned (.tuple #[.agg #[.slice A k c, .slice A' k' c'], .int .i64 5]) ∧ RtP w' (.agg #[.slice A k c, .slice A' k' c']) (nilP) ∧ Below w.heap.size w w' := by
 have h := sub_F va vb (redP 1 10) (redP 1 6) w ha hb; rw [l5_less] at h; refine h.mono ?_; rintro e w' ⟨v, rfl, h, hb⟩; obtain ⟨A, k, c, A', k', c', rfl⟩ := h.shape; exact ⟨A, k, c, A', k', c', rfl, h, hb⟩
theorem div_5 (va vb : Value) (w : World) (ha : RtP w va (redP 2 1)) (hb : RtP w vb (nilP)) : Calls Tryd.prog 30 #[va, vb] w fun e w' => ∃ A k c A' k' c', e = .returned (.tuple #[.agg #[.slice A k c, .slice A' k' c'], .int .i64 5]) ∧ RtP w' (.agg #[.slice A k c, .slice A' k' c']) (nilP) ∧ Below w.heap.size w w' := by
 have h := div_F va vb (redP 2 1) (nilP) w ha hb; rw [l5_div] at h; refine h.mono ?_; rintro e w' ⟨v, rfl, h, hb⟩; obtain ⟨A, k, c, A', k', c', rfl⟩ := h.shape; exact ⟨A, k, c, A', k', c', rfl, h, hb⟩
theorem sim_5a (va vb : Value) (w : World) (ha : RtP w va (ratP 1 3)) (hb : RtP w vb (ratP 3 7)) : Calls Tryd.prog 34 #[va, vb] w fun e w' => ∃ A k c A' k' c', e = .returned (.tuple #[.agg #[.slice A k c, .slice A' k' c'], .int .i64 0]) ∧ RtP w' (.agg #[.slice A k c, .slice A' k' c']) (redP 1 3) ∧ Below w.heap.size w w' := by
 have h := simplest_F va vb (ratP 1 3) (ratP 3 7) w ha hb; rw [l5_sim1] at h; refine h.mono ?_; rintro e w' ⟨v, rfl, h, hb⟩; obtain ⟨A, k, c, A', k', c', rfl⟩ := h.shape; exact ⟨A, k, c, A', k', c', rfl, h, hb⟩
theorem sim_5b (va vb : Value) (w : World) (ha : RtP w va (ratP 5 2)) (hb : RtP w vb (ratP 7 2)) : Calls Tryd.prog 34 #[va, vb] w fun e w' => ∃ A k c A' k' c', e = .returned (.tuple #[.agg #[.slice A k c, .slice A' k' c'], .int .i64 0]) ∧ RtP w' (.agg #[.slice A k c, .slice A' k' c']) (redP 3 1) ∧ Below w.heap.size w w' := by
 have h := simplest_F va vb (ratP 5 2) (ratP 7 2) w ha hb; rw [l5_sim2] at h; refine h.mono ?_; rintro e w' ⟨v, rfl, h, hb⟩; obtain ⟨A, k, c, A', k', c', rfl⟩ := h.shape; exact ⟨A, k, c, A', k', c', rfl, h, hb⟩
theorem RtP.rat5 {w : World} {v : Value} {p q : Nat} (h : RtP w v (ratP p q)) : Rat w v p q := by
 obtain ⟨A1, k1, c1, A2, k2, c2, rfl, h1, h2, e1, e2⟩ := h; exact ⟨_, _, _, _, _, _, rfl, ⟨e1, h1⟩, ⟨e2, h2⟩⟩
theorem Nb.digG (w : World) (d : Nat) (x : Int) (g : Nat) (hg : g = w.heap.size) (hx : x = (d : Int)) (h0 : 0 < d) (h : d < 4294967296) : Nb (w.alloc (.cells #[.int .u32 x] 59)) (some ⟨g, 0, none⟩) 1 1 d := by
 subst hg hx; exact Nb.dig w d h0 h
theorem four5 (w : World) (a b c d : Nat) (x y z u : Int) (hx : x = (a : Int)) (hy : y = (b : Int)) (hz : z = (c : Int)) (hu : u = (d : Int)) (ha : 0 < a ∧ a < 1000) (hb : 1 < b ∧ b < 1000) (hc : 0 < c ∧ c < 1000) (hd : 1 < d ∧ d < 1000) :
  RtP ((((w.alloc (.cells #[.int .u32 x] 59)).alloc (.cells #[.int .u32 y] 59)).alloc (.cells #[.int .u32 z] 59)).alloc (.cells #[.int .u32 u] 59)) (.agg #[.slice (some ⟨w.heap.size, 0, none⟩) 1 1, .slice (some ⟨w.heap.size + 1, 0, none⟩) 1 1]) (ratP a b) ∧
  RtP ((((w.alloc (.cells #[.int .u32 x] 59)).alloc (.cells #[.int .u32 y] 59)).alloc (.cells #[.int .u32 z] 59)).alloc (.cells #[.int .u32 u] 59)) (.agg #[.slice (some ⟨w.heap.size + 1 + 1, 0, none⟩) 1 1, .slice (some ⟨w.heap.size + 1 + 1 + 1, 0, none⟩) 1 1]) (ratP c d) := by
 have n1 := ((((Nb.digG w a x _ rfl hx ha.1 (by omega)).below (bA _ (.cells #[.int .u32 y] 59))).below (bA _ (.cells #[.int .u32 z] 59))).below (bA _ (.cells #[.int .u32 u] 59))); have n2 := (((Nb.digG (w.alloc (.cells #[.int .u32 x] 59)) b y (w.heap.size + 1) (by simp) hy (by omega) (by omega)).below (bA _ (.cells #[.int .u32 z] 59))).below (bA _ (.cells #[.int .u32 u] 59))); have n3 := ((Nb.digG ((w.alloc (.cells #[.int .u32 x] 59)).alloc (.cells #[.int .u32 y] 59)) c z (w.heap.size + 1 + 1) (by simp) hz hc.1 (by omega)).below (bA _ (.cells #[.int .u32 u] 59))); have n4 := (Nb.digG (((w.alloc (.cells #[.int .u32 x] 59)).alloc (.cells #[.int .u32 y] 59)).alloc (.cells #[.int .u32 z] 59)) d u (w.heap.size + 1 + 1 + 1) (by simp) hu (by omega) (by omega)); have e1 : Nm.dn b = b := Nm.dn_ne (by omega); have e2 : Nm.dn d = d := Nm.dn_ne (by omega); refine ⟨⟨_, _, _, _, _, _, rfl, n1.2, ?_, n1.1, ?_⟩, ⟨_, _, _, _, _, _, rfl, n3.2, ?_, n3.1, ?_⟩⟩
 ·show Lim _ _ _ (Nm.lb (Nm.dn b)); rw [e1]; exact n2.2
 ·show 1 = (Nm.lb (Nm.dn b)).length; rw [e1]; exact n2.1
 ·show Lim _ _ _ (Nm.lb (Nm.dn d)); rw [e2]; exact n4.2
 ·show 1 = (Nm.lb (Nm.dn d)).length; rw [e2]; exact n4.1
theorem pow_half_good : Nm.Good 1 4294967296 := good5 (by omega) (by omega) (by omega) (by decide)
theorem pow_5a (va : Value) (w : World) (ha : Rat w va 1 2) : Calls Tryd.prog 20 #[va, .int .i64 32] w fun e w' => ∃ A k c A' k' c', e = .returned (.tuple #[.agg #[.slice A k c, .slice A' k' c'], .int .i64 0]) ∧ Rat w' (.agg #[.slice A k c, .slice A' k' c']) 1 4294967296 ∧ Below w.heap.size w w' := by
 refine (power_G va 1 2 32 w ha g12 (by omega)).mono ?_; rintro e w' ⟨v, er, rfl, hp, hb⟩; obtain ⟨rfl, hr, _⟩ := pow_half hp; obtain ⟨A, k, c, A', k', c', rfl⟩ := hr.shape; exact ⟨A, k, c, A', k', c', rfl, hr, hb⟩
theorem pow_5b (va : Value) (w : World) (ha : RtP w va (redP 2 1)) : Calls Tryd.prog 20 #[va, .int .i64 2047] w fun e w' => ∃ A k c A' k' c', e = .returned (.tuple #[.agg #[.slice A k c, .slice A' k' c'], .int .i64 0]) ∧ Below w.heap.size w w' := by
 rw [redP_good g21] at ha; refine (power_G va 2 1 2047 w ha.rat5 g21 (by omega)).mono ?_; rintro e w' ⟨v, er, rfl, hp, hb⟩; obtain ⟨rfl, x, hr⟩ := pow_ok (Nat.le_refl _) hp; obtain ⟨A, k, c, A', k', c', rfl⟩ := hr.shape; exact ⟨A, k, c, A', k', c', rfl, hb⟩
theorem pow_5c (va : Value) (w : World) (ha : RtP w va (redP 2 1)) : Calls Tryd.prog 20 #[va, .int .i64 2048] w fun e w' => ∃ A k c A' k' c', e = .returned (.tuple #[.agg #[.slice A k c, .slice A' k' c'], .int .i64 4]) ∧ Below w.heap.size w w' := by
 rw [redP_good g21] at ha; refine (power_G va 2 1 2048 w ha.rat5 g21 (by omega)).mono ?_; rintro e w' ⟨v, er, rfl, hp, hb⟩; obtain ⟨rfl, x, hr⟩ := pow_big rfl hp; obtain ⟨A, k, c, A', k', c', rfl⟩ := hr.shape; exact ⟨A, k, c, A', k', c', rfl, hb⟩
theorem par_5a (w : World) : Calls Tryd.prog 54 #[.string { data := #[50, 47, 52] }] w fun e w' => ∃ A k c A' k' c', e = .returned (.tuple #[.agg #[.slice A k c, .slice A' k' c'], .int .i64 1]) ∧ Below w.heap.size w w' := by
 have h := parse_F { data := #[50, 47, 52] } w (by decide); rw [l5_parse1] at h; refine h.mono ?_; rintro e w' ⟨v, rfl, h, hb⟩; obtain ⟨A, k, c, A', k', c', rfl⟩ := h.shape; exact ⟨A, k, c, A', k', c', rfl, hb⟩
theorem par_5b (w : World) : Calls Tryd.prog 54 #[.string { data := #[48, 50] }] w fun e w' => ∃ A k c A' k' c', e = .returned (.tuple #[.agg #[.slice A k c, .slice A' k' c'], .int .i64 2]) ∧ Below w.heap.size w w' := by
 have h := parse_F { data := #[48, 50] } w (by decide); rw [l5_parse2] at h; refine h.mono ?_; rintro e w' ⟨v, rfl, h, hb⟩; obtain ⟨A, k, c, A', k', c', rfl⟩ := h.shape; exact ⟨A, k, c, A', k', c', rfl, hb⟩
theorem par_5c (w : World) : Calls Tryd.prog 54 #[.string { data := #[51, 47, 49] }] w fun e w' => ∃ A k c A' k' c', e = .returned (.tuple #[.agg #[.slice A k c, .slice A' k' c'], .int .i64 1]) ∧ Below w.heap.size w w' := by
 have h := parse_F { data := #[51, 47, 49] } w (by decide); rw [l5_parse3] at h; refine h.mono ?_; rintro e w' ⟨v, rfl, h, hb⟩; obtain ⟨A, k, c, A', k', c', rfl⟩ := h.shape; exact ⟨A, k, c, A', k', c', rfl, hb⟩
set_option maxRecDepth 10000 in
set_option maxHeartbeats 1000000 in
theorem is_5 (va : Value) (n d : Nat) (w : World) (hv : RtP w va (redP n d)) (hn : n ≤ 1000) (hd : 0 < d) (hd2 : d ≤ 1000) :
  Calls Tryd.prog 52 #[va, .int .i64 0, .int .i64 n, .int .i64 d] w fun e w' => e = .returned (.bool true) ∧ Below w.heap.size w w' := by
 obtain ⟨A1, k1, c1, A2, k2, c2, rfl⟩ := hv.shape
 go_enter Tryd.func52, Tryd.ntmps52
 go_upto_region 1 with fail; refine wp_name ?_; intro w1 HW1; have hb1 : Below w.heap.size w w1 := by rw [HW1.out]; exact bA _ _
 have hB1 : Blk w1 w.heap.size 28 #[.slice A1 k1 c1, .slice A2 k2 c2] := by rw [HW1.out]; exact Blk.new _ _ _
 obtain ⟨g, hg⟩ : ∃ g, Hid (g = w.heap.size) := ⟨_, rfl⟩; rw [← hg.out] at hB1 ⊢; have b0 := hB1.cell 0; have b1 := hB1.cell 1; simp only [List.getElem?_toArray, List.getElem?_cons_zero, List.getElem?_cons_succ] at b0 b1; have hv := hv.below hb1; clear HW1 hB1 hg; go_wp2_with fail; refine (rof_s n d _ (by omega) hd (by omega)).mono ?_; rintro e w2 ⟨C1, m1, d1, C2, m2, d2, rfl, hr, hb2⟩; have hr := hr.1.rtP; have hv := hv.below hb2; have b0 := cell_keep hb2 b0; have b1 := cell_keep hb2 b1; have hbw := Below.tr hb1 hb2; clear hb1 hb2; go_upto_region 2 with fail; refine wp_name ?_; intro w3 HW3; have hb3 : Below w2.heap.size w2 w3 := by rw [HW3.out]; exact bA _ _
 have hB3 : Blk w3 w2.heap.size 28 #[.slice C1 m1 d1, .slice C2 m2 d2] := by rw [HW3.out]; exact Blk.new _ _ _
 have p0 := hB3.cell 0; have p1 := hB3.cell 1; simp only [List.getElem?_toArray, List.getElem?_cons_zero, List.getElem?_cons_succ] at p0 p1; have hr := hr.below hb3; have hv := hv.below hb3; have b0 := cell_keep hb3 b0; have b1 := cell_keep hb3 b1; have hbw := Below.tr hbw hb3; clear HW3 hB3 hb3; go_wp2_with fail; refine (rsame_5 _ _ (redP n d) _ hv hr).mono ?_; rintro e w4 ⟨rfl, hb4⟩; go_wp2_with fail; go_ret; exact ⟨rfl, Below.tr hbw hb4⟩
end Go.Proofs.YtmbfjmilhfmnkaaDoor
namespace Go.Proofs.YtmbfjmilhfmnkaaDoor
open Go Go.RowKit
set_option maxRecDepth 100000 in
set_option maxHeartbeats 8000000 in
theorem lives5_n (w : World) : Calls Tryd.prog 16 #[] w fun e w' => e = .returned (.bool true) ∧ Below w.heap.size w w' := by
 go_enter Tryd.func16, Tryd.ntmps16
 have hbw : Below w.heap.size w w := Below.refl _ _; go_wp2_with fail; refine (of_5 6 4 _ (by omega) (by omega) (by omega)).mono ?_; rintro e w1 ⟨Sga, kga, cga, Rga, mga, dga, rfl, hga, hb⟩
 replace hbw := Below.tr hbw hb
 clear hb; go_upto_region 2 with fail; refine wp_name ?_; intro w2 HW; have hb : Below w1.heap.size w1 w2 := by rw [HW.out]; exact bA _ _
 have hB : Blk w2 w1.heap.size 28 #[.slice Sga kga cga, .slice Rga mga dga] := by rw [HW.out]; exact Blk.new _ _ _
 obtain ⟨ga, hg⟩ : ∃ g, Hid (g = w1.heap.size) := ⟨_, rfl⟩; rw [← hg.out] at hB ⊢
 replace hbw := Below.tr hbw hb
 replace hga := hga.below hb
 have ga0 := hB.cell 0; have ga1 := hB.cell 1; simp only [List.getElem?_toArray, List.getElem?_cons_zero, List.getElem?_cons_succ] at ga0 ga1; clear HW hB hg hb; go_wp2_with fail; refine (of_5 4 2 _ (by omega) (by omega) (by omega)).mono ?_; rintro e w3 ⟨Sgb, kgb, cgb, Rgb, mgb, dgb, rfl, hgb, hb⟩
 replace ga0 := cell_keep hb ga0
 replace ga1 := cell_keep hb ga1
 replace hga := hga.below hb
 replace hbw := Below.tr hbw hb
 clear hb; go_upto_region 3 with fail; refine wp_name ?_; intro w4 HW; have hb : Below w3.heap.size w3 w4 := by rw [HW.out]; exact bA _ _
 have hB : Blk w4 w3.heap.size 28 #[.slice Sgb kgb cgb, .slice Rgb mgb dgb] := by rw [HW.out]; exact Blk.new _ _ _
 obtain ⟨gb, hg⟩ : ∃ g, Hid (g = w3.heap.size) := ⟨_, rfl⟩; rw [← hg.out] at hB ⊢
 replace ga0 := cell_keep hb ga0
 replace ga1 := cell_keep hb ga1
 replace hga := hga.below hb
 replace hbw := Below.tr hbw hb
 replace hgb := hgb.below hb
 have gb0 := hB.cell 0; have gb1 := hB.cell 1; simp only [List.getElem?_toArray, List.getElem?_cons_zero, List.getElem?_cons_succ] at gb0 gb1; clear HW hB hg hb; go_wp2_with fail; refine (of_5 1 6 _ (by omega) (by omega) (by omega)).mono ?_; rintro e w5 ⟨Sgc, kgc, cgc, Rgc, mgc, dgc, rfl, hgc, hb⟩
 replace ga0 := cell_keep hb ga0
 replace ga1 := cell_keep hb ga1
 replace hga := hga.below hb
 replace gb0 := cell_keep hb gb0
 replace gb1 := cell_keep hb gb1
 replace hgb := hgb.below hb
 replace hbw := Below.tr hbw hb
 clear hb; go_upto_region 4 with fail; refine wp_name ?_; intro w6 HW; have hb : Below w5.heap.size w5 w6 := by rw [HW.out]; exact bA _ _
 have hB : Blk w6 w5.heap.size 28 #[.slice Sgc kgc cgc, .slice Rgc mgc dgc] := by rw [HW.out]; exact Blk.new _ _ _
 obtain ⟨gc, hg⟩ : ∃ g, Hid (g = w5.heap.size) := ⟨_, rfl⟩; rw [← hg.out] at hB ⊢
 replace ga0 := cell_keep hb ga0
 replace ga1 := cell_keep hb ga1
 replace hga := hga.below hb
 replace gb0 := cell_keep hb gb0
 replace gb1 := cell_keep hb gb1
 replace hgb := hgb.below hb
 replace hbw := Below.tr hbw hb
 replace hgc := hgc.below hb
 have gc0 := hB.cell 0; have gc1 := hB.cell 1; simp only [List.getElem?_toArray, List.getElem?_cons_zero, List.getElem?_cons_succ] at gc0 gc1; clear HW hB hg hb; go_wp2_with fail; refine (of_5 1 10 _ (by omega) (by omega) (by omega)).mono ?_; rintro e w7 ⟨Sgd, kgd, cgd, Rgd, mgd, dgd, rfl, hgd, hb⟩
 replace ga0 := cell_keep hb ga0
 replace ga1 := cell_keep hb ga1
 replace hga := hga.below hb
 replace gb0 := cell_keep hb gb0
 replace gb1 := cell_keep hb gb1
 replace hgb := hgb.below hb
 replace gc0 := cell_keep hb gc0
 replace gc1 := cell_keep hb gc1
 replace hgc := hgc.below hb
 replace hbw := Below.tr hbw hb
 clear hb; go_upto_region 5 with fail; refine wp_name ?_; intro w8 HW; have hb : Below w7.heap.size w7 w8 := by rw [HW.out]; exact bA _ _
 have hB : Blk w8 w7.heap.size 28 #[.slice Sgd kgd cgd, .slice Rgd mgd dgd] := by rw [HW.out]; exact Blk.new _ _ _
 obtain ⟨gd, hg⟩ : ∃ g, Hid (g = w7.heap.size) := ⟨_, rfl⟩; rw [← hg.out] at hB ⊢
 replace ga0 := cell_keep hb ga0
 replace ga1 := cell_keep hb ga1
 replace hga := hga.below hb
 replace gb0 := cell_keep hb gb0
 replace gb1 := cell_keep hb gb1
 replace hgb := hgb.below hb
 replace gc0 := cell_keep hb gc0
 replace gc1 := cell_keep hb gc1
 replace hgc := hgc.below hb
 replace hbw := Below.tr hbw hb
 replace hgd := hgd.below hb
 have gd0 := hB.cell 0; have gd1 := hB.cell 1; simp only [List.getElem?_toArray, List.getElem?_cons_zero, List.getElem?_cons_succ] at gd0 gd1; clear HW hB hg hb; rw [l5_half] at hga; rw [l5_two] at hgb; go_wp2_with fail; refine (add_5 _ _ _ hgc hgd).mono ?_; rintro e w9 ⟨Sge, kge, cge, Rge, mge, dge, rfl, hge, hb⟩
 replace ga0 := cell_keep hb ga0
 replace ga1 := cell_keep hb ga1
 replace hga := hga.below hb
 replace gb0 := cell_keep hb gb0
 replace gb1 := cell_keep hb gb1
 replace hgb := hgb.below hb
 replace gc0 := cell_keep hb gc0
 replace gc1 := cell_keep hb gc1
 replace hgc := hgc.below hb
 replace gd0 := cell_keep hb gd0
 replace gd1 := cell_keep hb gd1
 replace hgd := hgd.below hb
 replace hbw := Below.tr hbw hb
 clear hb; go_upto_region 6 with fail; refine wp_name ?_; intro w10 HW; have hb : Below w9.heap.size w9 w10 := by rw [HW.out]; exact bA _ _
 have hB : Blk w10 w9.heap.size 28 #[.slice Sge kge cge, .slice Rge mge dge] := by rw [HW.out]; exact Blk.new _ _ _
 obtain ⟨ge, hg⟩ : ∃ g, Hid (g = w9.heap.size) := ⟨_, rfl⟩; rw [← hg.out] at hB ⊢
 replace ga0 := cell_keep hb ga0
 replace ga1 := cell_keep hb ga1
 replace hga := hga.below hb
 replace gb0 := cell_keep hb gb0
 replace gb1 := cell_keep hb gb1
 replace hgb := hgb.below hb
 replace gc0 := cell_keep hb gc0
 replace gc1 := cell_keep hb gc1
 replace hgc := hgc.below hb
 replace gd0 := cell_keep hb gd0
 replace gd1 := cell_keep hb gd1
 replace hgd := hgd.below hb
 replace hbw := Below.tr hbw hb
 replace hge := hge.below hb
 have ge0 := hB.cell 0; have ge1 := hB.cell 1; simp only [List.getElem?_toArray, List.getElem?_cons_zero, List.getElem?_cons_succ] at ge0 ge1; clear HW hB hg hb; go_wp2_with fail; refine (sub_5 _ _ _ hgc hgd).mono ?_; rintro e w11 ⟨Sgf, kgf, cgf, Rgf, mgf, dgf, rfl, hgf, hb⟩
 replace ga0 := cell_keep hb ga0
 replace ga1 := cell_keep hb ga1
 replace hga := hga.below hb
 replace gb0 := cell_keep hb gb0
 replace gb1 := cell_keep hb gb1
 replace hgb := hgb.below hb
 replace gc0 := cell_keep hb gc0
 replace gc1 := cell_keep hb gc1
 replace hgc := hgc.below hb
 replace gd0 := cell_keep hb gd0
 replace gd1 := cell_keep hb gd1
 replace hgd := hgd.below hb
 replace ge0 := cell_keep hb ge0
 replace ge1 := cell_keep hb ge1
 replace hge := hge.below hb
 replace hbw := Below.tr hbw hb
 clear hb; go_upto_region 7 with fail; refine wp_name ?_; intro w12 HW; have hb : Below w11.heap.size w11 w12 := by rw [HW.out]; exact bA _ _
 have hB : Blk w12 w11.heap.size 28 #[.slice Sgf kgf cgf, .slice Rgf mgf dgf] := by rw [HW.out]; exact Blk.new _ _ _
 obtain ⟨gf, hg⟩ : ∃ g, Hid (g = w11.heap.size) := ⟨_, rfl⟩; rw [← hg.out] at hB ⊢
 replace ga0 := cell_keep hb ga0
 replace ga1 := cell_keep hb ga1
 replace hga := hga.below hb
 replace gb0 := cell_keep hb gb0
 replace gb1 := cell_keep hb gb1
 replace hgb := hgb.below hb
 replace gc0 := cell_keep hb gc0
 replace gc1 := cell_keep hb gc1
 replace hgc := hgc.below hb
 replace gd0 := cell_keep hb gd0
 replace gd1 := cell_keep hb gd1
 replace hgd := hgd.below hb
 replace ge0 := cell_keep hb ge0
 replace ge1 := cell_keep hb ge1
 replace hge := hge.below hb
 replace hbw := Below.tr hbw hb
 replace hgf := hgf.below hb
 have gf0 := hB.cell 0; have gf1 := hB.cell 1; simp only [List.getElem?_toArray, List.getElem?_cons_zero, List.getElem?_cons_succ] at gf0 gf1; clear HW hB hg hb; go_wp2_with fail; refine (less_5 _ _ _ hgd hgc).mono ?_; rintro e w13 ⟨Sgg, kgg, cgg, Rgg, mgg, dgg, rfl, hgg, hb⟩
 replace ga0 := cell_keep hb ga0
 replace ga1 := cell_keep hb ga1
 replace hga := hga.below hb
 replace gb0 := cell_keep hb gb0
 replace gb1 := cell_keep hb gb1
 replace hgb := hgb.below hb
 replace gc0 := cell_keep hb gc0
 replace gc1 := cell_keep hb gc1
 replace hgc := hgc.below hb
 replace gd0 := cell_keep hb gd0
 replace gd1 := cell_keep hb gd1
 replace hgd := hgd.below hb
 replace ge0 := cell_keep hb ge0
 replace ge1 := cell_keep hb ge1
 replace hge := hge.below hb
 replace gf0 := cell_keep hb gf0
 replace gf1 := cell_keep hb gf1
 replace hgf := hgf.below hb
 replace hbw := Below.tr hbw hb
 clear hb; go_upto_region 8 with fail; refine wp_name ?_; intro w14 HW; have hb : Below w13.heap.size w13 w14 := by rw [HW.out]; exact bA _ _
 have hB : Blk w14 w13.heap.size 28 #[.slice Sgg kgg cgg, .slice Rgg mgg dgg] := by rw [HW.out]; exact Blk.new _ _ _
 obtain ⟨gg, hg⟩ : ∃ g, Hid (g = w13.heap.size) := ⟨_, rfl⟩; rw [← hg.out] at hB ⊢
 replace ga0 := cell_keep hb ga0
 replace ga1 := cell_keep hb ga1
 replace hga := hga.below hb
 replace gb0 := cell_keep hb gb0
 replace gb1 := cell_keep hb gb1
 replace hgb := hgb.below hb
 replace gc0 := cell_keep hb gc0
 replace gc1 := cell_keep hb gc1
 replace hgc := hgc.below hb
 replace gd0 := cell_keep hb gd0
 replace gd1 := cell_keep hb gd1
 replace hgd := hgd.below hb
 replace ge0 := cell_keep hb ge0
 replace ge1 := cell_keep hb ge1
 replace hge := hge.below hb
 replace gf0 := cell_keep hb gf0
 replace gf1 := cell_keep hb gf1
 replace hgf := hgf.below hb
 replace hbw := Below.tr hbw hb
 replace hgg := hgg.below hb
 have gg0 := hB.cell 0; have gg1 := hB.cell 1; simp only [List.getElem?_toArray, List.getElem?_cons_zero, List.getElem?_cons_succ] at gg0 gg1; clear HW hB hg hb; go_wp2_with fail; refine (div_5 _ _ _ hgb (nil_rtP _)).mono ?_; rintro e w15 ⟨Sgh, kgh, cgh, Rgh, mgh, dgh, rfl, hgh, hb⟩
 replace ga0 := cell_keep hb ga0
 replace ga1 := cell_keep hb ga1
 replace hga := hga.below hb
 replace gb0 := cell_keep hb gb0
 replace gb1 := cell_keep hb gb1
 replace hgb := hgb.below hb
 replace gc0 := cell_keep hb gc0
 replace gc1 := cell_keep hb gc1
 replace hgc := hgc.below hb
 replace gd0 := cell_keep hb gd0
 replace gd1 := cell_keep hb gd1
 replace hgd := hgd.below hb
 replace ge0 := cell_keep hb ge0
 replace ge1 := cell_keep hb ge1
 replace hge := hge.below hb
 replace gf0 := cell_keep hb gf0
 replace gf1 := cell_keep hb gf1
 replace hgf := hgf.below hb
 replace gg0 := cell_keep hb gg0
 replace gg1 := cell_keep hb gg1
 replace hgg := hgg.below hb
 replace hbw := Below.tr hbw hb
 clear hb; go_upto_region 9 with fail; refine wp_name ?_; intro w16 HW; have hb : Below w15.heap.size w15 w16 := by rw [HW.out]; exact bA _ _
 have hB : Blk w16 w15.heap.size 28 #[.slice Sgh kgh cgh, .slice Rgh mgh dgh] := by rw [HW.out]; exact Blk.new _ _ _
 obtain ⟨gh, hg⟩ : ∃ g, Hid (g = w15.heap.size) := ⟨_, rfl⟩; rw [← hg.out] at hB ⊢
 replace ga0 := cell_keep hb ga0
 replace ga1 := cell_keep hb ga1
 replace hga := hga.below hb
 replace gb0 := cell_keep hb gb0
 replace gb1 := cell_keep hb gb1
 replace hgb := hgb.below hb
 replace gc0 := cell_keep hb gc0
 replace gc1 := cell_keep hb gc1
 replace hgc := hgc.below hb
 replace gd0 := cell_keep hb gd0
 replace gd1 := cell_keep hb gd1
 replace hgd := hgd.below hb
 replace ge0 := cell_keep hb ge0
 replace ge1 := cell_keep hb ge1
 replace hge := hge.below hb
 replace gf0 := cell_keep hb gf0
 replace gf1 := cell_keep hb gf1
 replace hgf := hgf.below hb
 replace gg0 := cell_keep hb gg0
 replace gg1 := cell_keep hb gg1
 replace hgg := hgg.below hb
 replace hbw := Below.tr hbw hb
 replace hgh := hgh.below hb
 have gh0 := hB.cell 0; have gh1 := hB.cell 1; simp only [List.getElem?_toArray, List.getElem?_cons_zero, List.getElem?_cons_succ] at gh0 gh1; clear HW hB hg hb
 have hm0 : mgb = 0 := by
  obtain ⟨_, _, _, _, _, _, e1, _, _, _, e2⟩ := hgb; simp only [Value.agg.injEq, Array.mk.injEq, List.cons.injEq, and_true, Value.slice.injEq] at e1; obtain ⟨_, _, h, _⟩ := e1; rw [h, e2, l5_den]; rfl
 subst hm0; go_wp2_with fail; refine (is_5 _ 3 2 _ hga (by omega) (by omega) (by omega)).mono ?_; rintro e w17 ⟨rfl, hb⟩
 replace ga0 := cell_keep hb ga0
 replace ga1 := cell_keep hb ga1
 replace hga := hga.below hb
 replace gb0 := cell_keep hb gb0
 replace gb1 := cell_keep hb gb1
 replace hgb := hgb.below hb
 replace gc0 := cell_keep hb gc0
 replace gc1 := cell_keep hb gc1
 replace hgc := hgc.below hb
 replace gd0 := cell_keep hb gd0
 replace gd1 := cell_keep hb gd1
 replace hgd := hgd.below hb
 replace ge0 := cell_keep hb ge0
 replace ge1 := cell_keep hb ge1
 replace hge := hge.below hb
 replace gf0 := cell_keep hb gf0
 replace gf1 := cell_keep hb gf1
 replace hgf := hgf.below hb
 replace gg0 := cell_keep hb gg0
 replace gg1 := cell_keep hb gg1
 replace hgg := hgg.below hb
 replace gh0 := cell_keep hb gh0
 replace gh1 := cell_keep hb gh1
 replace hgh := hgh.below hb
 replace hbw := Below.tr hbw hb
 clear hb; go_wp2_with fail; refine (is_5 _ 2 1 _ hgb (by omega) (by omega) (by omega)).mono ?_; rintro e w18 ⟨rfl, hb⟩
 replace ga0 := cell_keep hb ga0
 replace ga1 := cell_keep hb ga1
 replace hga := hga.below hb
 replace gb0 := cell_keep hb gb0
 replace gb1 := cell_keep hb gb1
 replace hgb := hgb.below hb
 replace gc0 := cell_keep hb gc0
 replace gc1 := cell_keep hb gc1
 replace hgc := hgc.below hb
 replace gd0 := cell_keep hb gd0
 replace gd1 := cell_keep hb gd1
 replace hgd := hgd.below hb
 replace ge0 := cell_keep hb ge0
 replace ge1 := cell_keep hb ge1
 replace hge := hge.below hb
 replace gf0 := cell_keep hb gf0
 replace gf1 := cell_keep hb gf1
 replace hgf := hgf.below hb
 replace gg0 := cell_keep hb gg0
 replace gg1 := cell_keep hb gg1
 replace hgg := hgg.below hb
 replace gh0 := cell_keep hb gh0
 replace gh1 := cell_keep hb gh1
 replace hgh := hgh.below hb
 replace hbw := Below.tr hbw hb
 clear hb; go_wp2_with fail; refine (is_5 _ 4 15 _ hge (by omega) (by omega) (by omega)).mono ?_; rintro e w19 ⟨rfl, hb⟩
 replace ga0 := cell_keep hb ga0
 replace ga1 := cell_keep hb ga1
 replace hga := hga.below hb
 replace gb0 := cell_keep hb gb0
 replace gb1 := cell_keep hb gb1
 replace hgb := hgb.below hb
 replace gc0 := cell_keep hb gc0
 replace gc1 := cell_keep hb gc1
 replace hgc := hgc.below hb
 replace gd0 := cell_keep hb gd0
 replace gd1 := cell_keep hb gd1
 replace hgd := hgd.below hb
 replace ge0 := cell_keep hb ge0
 replace ge1 := cell_keep hb ge1
 replace hge := hge.below hb
 replace gf0 := cell_keep hb gf0
 replace gf1 := cell_keep hb gf1
 replace hgf := hgf.below hb
 replace gg0 := cell_keep hb gg0
 replace gg1 := cell_keep hb gg1
 replace hgg := hgg.below hb
 replace gh0 := cell_keep hb gh0
 replace gh1 := cell_keep hb gh1
 replace hgh := hgh.below hb
 replace hbw := Below.tr hbw hb
 clear hb; go_wp2_with fail; refine (is_5 _ 1 15 _ hgf (by omega) (by omega) (by omega)).mono ?_; rintro e w20 ⟨rfl, hb⟩
 replace ga0 := cell_keep hb ga0
 replace ga1 := cell_keep hb ga1
 replace hga := hga.below hb
 replace gb0 := cell_keep hb gb0
 replace gb1 := cell_keep hb gb1
 replace hgb := hgb.below hb
 replace gc0 := cell_keep hb gc0
 replace gc1 := cell_keep hb gc1
 replace hgc := hgc.below hb
 replace gd0 := cell_keep hb gd0
 replace gd1 := cell_keep hb gd1
 replace hgd := hgd.below hb
 replace ge0 := cell_keep hb ge0
 replace ge1 := cell_keep hb ge1
 replace hge := hge.below hb
 replace gf0 := cell_keep hb gf0
 replace gf1 := cell_keep hb gf1
 replace hgf := hgf.below hb
 replace gg0 := cell_keep hb gg0
 replace gg1 := cell_keep hb gg1
 replace hgg := hgg.below hb
 replace gh0 := cell_keep hb gh0
 replace gh1 := cell_keep hb gh1
 replace hgh := hgh.below hb
 replace hbw := Below.tr hbw hb
 clear hb; go_upto_region 12 with fail; refine wp_name ?_; intro w21 HW; have hb : Below w20.heap.size w20 w21 := by rw [HW.out]; exact Below.tr (Below.tr (bA _ _) (bA _ _)) (bA _ _)
 have hn1 : Nb w21 (some ⟨w20.heap.size, 0, none⟩) 1 1 1 := by rw [HW.out]; exact ((Nb.digG w20 1 1 _ rfl rfl (by omega) (by omega)).below (bA _ _)).below (bA _ _)
 have hn2 : Nb w21 (some ⟨w20.heap.size + 1, 0, none⟩) 1 1 2 := by rw [HW.out]; exact (Nb.digG _ 2 2 _ (by simp) rfl (by omega) (by omega)).below (bA _ _)
 have hB : Blk w21 (w20.heap.size + 1 + 1) 28 #[.slice (some ⟨w20.heap.size, 0, none⟩) 1 1, .slice (some ⟨w20.heap.size + 1, 0, none⟩) 1 1] := by rw [HW.out]; exact Blk.newH (by simp)
 have hhf : Rat w21 (.agg #[.slice (some ⟨w20.heap.size, 0, none⟩) 1 1, .slice (some ⟨w20.heap.size + 1, 0, none⟩) 1 1]) 1 2 := ⟨_, _, _, _, _, _, rfl, hn1, by rw [Nm.dn_ne (by omega)]; exact hn2⟩; obtain ⟨h1a, hh1⟩ : ∃ g, Hid (g = w20.heap.size) := ⟨_, rfl⟩; obtain ⟨h2a, hh2⟩ : ∃ g, Hid (g = w20.heap.size + 1) := ⟨_, rfl⟩; obtain ⟨gi, hgi⟩ : ∃ g, Hid (g = w20.heap.size + 1 + 1) := ⟨_, rfl⟩; rw [← hgi.out] at hB ⊢; rw [← hh2.out] at hB hhf ⊢; rw [← hh1.out] at hB hhf ⊢
 replace ga0 := cell_keep hb ga0
 replace ga1 := cell_keep hb ga1
 replace hga := hga.below hb
 replace gb0 := cell_keep hb gb0
 replace gb1 := cell_keep hb gb1
 replace hgb := hgb.below hb
 replace gc0 := cell_keep hb gc0
 replace gc1 := cell_keep hb gc1
 replace hgc := hgc.below hb
 replace gd0 := cell_keep hb gd0
 replace gd1 := cell_keep hb gd1
 replace hgd := hgd.below hb
 replace ge0 := cell_keep hb ge0
 replace ge1 := cell_keep hb ge1
 replace hge := hge.below hb
 replace gf0 := cell_keep hb gf0
 replace gf1 := cell_keep hb gf1
 replace hgf := hgf.below hb
 replace gg0 := cell_keep hb gg0
 replace gg1 := cell_keep hb gg1
 replace hgg := hgg.below hb
 replace gh0 := cell_keep hb gh0
 replace gh1 := cell_keep hb gh1
 replace hgh := hgh.below hb
 replace hbw := Below.tr hbw hb
 have gi0 := hB.cell 0; have gi1 := hB.cell 1; simp only [List.getElem?_toArray, List.getElem?_cons_zero, List.getElem?_cons_succ] at gi0 gi1; clear HW hn1 hn2 hB hh1 hh2 hgi hb; clear ga0 ga1 hga gc0 gc1 hgc gd0 gd1 hgd ge0 ge1 hge gf0 gf1 hgf gg0 gg1 hgg gh0 gh1 hgh; go_wp2_with fail; refine (pow_5a _ _ hhf).mono ?_; rintro e w22 ⟨Sgj, kgj, cgj, Rgj, mgj, dgj, rfl, hgj, hb⟩
 replace gb0 := cell_keep hb gb0
 replace gb1 := cell_keep hb gb1
 replace hgb := hgb.below hb
 replace hbw := Below.tr hbw hb
 clear hb; go_upto_region 13 with fail; refine wp_name ?_; intro w23 HW; have hb : Below w22.heap.size w22 w23 := by rw [HW.out]; exact bA _ _
 have hB : Blk w23 w22.heap.size 28 #[.slice Sgj kgj cgj, .slice Rgj mgj dgj] := by rw [HW.out]; exact Blk.new _ _ _
 obtain ⟨gj, hg⟩ : ∃ g, Hid (g = w22.heap.size) := ⟨_, rfl⟩; rw [← hg.out] at hB ⊢
 replace gb0 := cell_keep hb gb0
 replace gb1 := cell_keep hb gb1
 replace hgb := hgb.below hb
 replace hbw := Below.tr hbw hb
 replace hgj := hgj.below hb
 have gj0 := hB.cell 0; have gj1 := hB.cell 1; simp only [List.getElem?_toArray, List.getElem?_cons_zero, List.getElem?_cons_succ] at gj0 gj1; clear HW hB hg hb; clear gi0 gi1 hhf; go_wp2_with fail; refine (pow_5b _ _ hgb).mono ?_; rintro e w24 ⟨Sgk, kgk, cgk, Rgk, mgk, dgk, rfl, hb⟩
 replace gb0 := cell_keep hb gb0
 replace gb1 := cell_keep hb gb1
 replace hgb := hgb.below hb
 replace gj0 := cell_keep hb gj0
 replace gj1 := cell_keep hb gj1
 replace hgj := hgj.below hb
 replace hbw := Below.tr hbw hb
 clear hb; go_upto_region 14 with fail; refine wp_name ?_; intro w25 HW; have hb : Below w24.heap.size w24 w25 := by rw [HW.out]; exact bA _ _
 have hB : Blk w25 w24.heap.size 28 #[.slice Sgk kgk cgk, .slice Rgk mgk dgk] := by rw [HW.out]; exact Blk.new _ _ _
 obtain ⟨gk, hg⟩ : ∃ g, Hid (g = w24.heap.size) := ⟨_, rfl⟩; rw [← hg.out] at hB ⊢
 replace gb0 := cell_keep hb gb0
 replace gb1 := cell_keep hb gb1
 replace hgb := hgb.below hb
 replace gj0 := cell_keep hb gj0
 replace gj1 := cell_keep hb gj1
 replace hgj := hgj.below hb
 replace hbw := Below.tr hbw hb
 have gk0 := hB.cell 0; have gk1 := hB.cell 1; simp only [List.getElem?_toArray, List.getElem?_cons_zero, List.getElem?_cons_succ] at gk0 gk1; clear HW hB hg hb; go_wp2_with fail; refine (pow_5c _ _ hgb).mono ?_; rintro e w26 ⟨Sgl, kgl, cgl, Rgl, mgl, dgl, rfl, hb⟩
 replace gb0 := cell_keep hb gb0
 replace gb1 := cell_keep hb gb1
 replace hgb := hgb.below hb
 replace gj0 := cell_keep hb gj0
 replace gj1 := cell_keep hb gj1
 replace hgj := hgj.below hb
 replace gk0 := cell_keep hb gk0
 replace gk1 := cell_keep hb gk1
 replace hbw := Below.tr hbw hb
 clear hb; go_upto_region 15 with fail; refine wp_name ?_; intro w27 HW; have hb : Below w26.heap.size w26 w27 := by rw [HW.out]; exact bA _ _
 have hB : Blk w27 w26.heap.size 28 #[.slice Sgl kgl cgl, .slice Rgl mgl dgl] := by rw [HW.out]; exact Blk.new _ _ _
 obtain ⟨gl, hg⟩ : ∃ g, Hid (g = w26.heap.size) := ⟨_, rfl⟩; rw [← hg.out] at hB ⊢
 replace gb0 := cell_keep hb gb0
 replace gb1 := cell_keep hb gb1
 replace hgb := hgb.below hb
 replace gj0 := cell_keep hb gj0
 replace gj1 := cell_keep hb gj1
 replace hgj := hgj.below hb
 replace gk0 := cell_keep hb gk0
 replace gk1 := cell_keep hb gk1
 replace hbw := Below.tr hbw hb
 have gl0 := hB.cell 0; have gl1 := hB.cell 1; simp only [List.getElem?_toArray, List.getElem?_cons_zero, List.getElem?_cons_succ] at gl0 gl1; clear HW hB hg hb; clear gk0 gk1 gl0 gl1 gb0 gb1 hgb; have gp := (pow_half_good); go_wp2_with fail; refine (print_v _ 1 4294967296 _ hgj gp).mono ?_; rintro e w28 ⟨rfl, hb⟩
 replace gj0 := cell_keep hb gj0
 replace gj1 := cell_keep hb gj1
 replace hgj := hgj.below hb
 replace hbw := Below.tr hbw hb
 clear hb; rw [l5_print]; have hbA := bA w28 (.cells #[.int .u32 0, .int .u32 1] 59); have hl1 := ((hgj.nb.2).below hbA).2; have hk1 := (hgj.nb.2).1; rw [l5_limbs] at hl1 hk1; have hl2 : Lim (w28.alloc (.cells #[.int .u32 0, .int .u32 1] 59)) (some ⟨w28.heap.size, 0, none⟩) 2 [0, 1] := (show Row _ w28.heap.size [0, 1] from ⟨Blk.new _ _ _, fun x hx => by simp at hx; unfold Nm.B; omega⟩).lim (by simp) (by omega); have hbw := Below.tr hbw hbA; go_wp2_with fail; refine (samel_any _ _ 2 _ 2 _ [0, 1] [0, 1] _ hl1 hl2 rfl rfl).mono ?_; rintro e w29 ⟨b, rfl, HB, hb⟩; have hbt : b = true := by rw [HB.out]; exact sameB_refl _
 subst hbt
 replace hbw := Below.tr hbw hb
 clear hb HB hl1 hl2 hk1 hbA gj0 gj1 hgj gp; obtain ⟨q1, q2⟩ := four5 w29 1 3 3 7 1 3 3 7 rfl rfl rfl rfl (by omega) (by omega) (by omega) (by omega); have hb4 : Below w29.heap.size w29 ((((w29.alloc (.cells #[.int .u32 1] 59)).alloc (.cells #[.int .u32 3] 59)).alloc (.cells #[.int .u32 3] 59)).alloc (.cells #[.int .u32 7] 59)) := Below.tr (Below.tr (Below.tr (bA _ _) (bA _ _)) (bA _ _)) (bA _ _)
 replace hbw := Below.tr hbw hb4
 go_wp2_with fail; refine (sim_5a _ _ _ q1 q2).mono ?_; rintro e w30 ⟨Sgm, kgm, cgm, Rgm, mgm, dgm, rfl, hgm, hb⟩
 replace hbw := Below.tr hbw hb
 clear hb hb4 q1 q2; go_upto_region 19 with fail; refine wp_name ?_; intro w31 HW; have hb : Below w30.heap.size w30 w31 := by rw [HW.out]; exact bA _ _
 have hB : Blk w31 w30.heap.size 28 #[.slice Sgm kgm cgm, .slice Rgm mgm dgm] := by rw [HW.out]; exact Blk.new _ _ _
 obtain ⟨gm, hg⟩ : ∃ g, Hid (g = w30.heap.size) := ⟨_, rfl⟩; rw [← hg.out] at hB ⊢
 replace hbw := Below.tr hbw hb
 replace hgm := hgm.below hb
 have gm0 := hB.cell 0; have gm1 := hB.cell 1; simp only [List.getElem?_toArray, List.getElem?_cons_zero, List.getElem?_cons_succ] at gm0 gm1; clear HW hB hg hb; obtain ⟨q1, q2⟩ := four5 w31 5 2 7 2 5 2 7 2 rfl rfl rfl rfl (by omega) (by omega) (by omega) (by omega); have hb4 : Below w31.heap.size w31 ((((w31.alloc (.cells #[.int .u32 5] 59)).alloc (.cells #[.int .u32 2] 59)).alloc (.cells #[.int .u32 7] 59)).alloc (.cells #[.int .u32 2] 59)) := Below.tr (Below.tr (Below.tr (bA _ _) (bA _ _)) (bA _ _)) (bA _ _)
 replace gm0 := cell_keep hb4 gm0
 replace gm1 := cell_keep hb4 gm1
 replace hgm := hgm.below hb4
 replace hbw := Below.tr hbw hb4
 go_wp2_with fail; refine (sim_5b _ _ _ q1 q2).mono ?_; rintro e w32 ⟨Sgn, kgn, cgn, Rgn, mgn, dgn, rfl, hgn, hb⟩
 replace gm0 := cell_keep hb gm0
 replace gm1 := cell_keep hb gm1
 replace hgm := hgm.below hb
 replace hbw := Below.tr hbw hb
 clear hb hb4 q1 q2; go_upto_region 20 with fail; refine wp_name ?_; intro w33 HW; have hb : Below w32.heap.size w32 w33 := by rw [HW.out]; exact bA _ _
 have hB : Blk w33 w32.heap.size 28 #[.slice Sgn kgn cgn, .slice Rgn mgn dgn] := by rw [HW.out]; exact Blk.new _ _ _
 obtain ⟨gn, hg⟩ : ∃ g, Hid (g = w32.heap.size) := ⟨_, rfl⟩; rw [← hg.out] at hB ⊢
 replace gm0 := cell_keep hb gm0
 replace gm1 := cell_keep hb gm1
 replace hgm := hgm.below hb
 replace hbw := Below.tr hbw hb
 replace hgn := hgn.below hb
 have gn0 := hB.cell 0; have gn1 := hB.cell 1; simp only [List.getElem?_toArray, List.getElem?_cons_zero, List.getElem?_cons_succ] at gn0 gn1; clear HW hB hg hb; go_wp2_with fail; refine (par_5a _).mono ?_; rintro e w34 ⟨Sgo, kgo, cgo, Rgo, mgo, dgo, rfl, hb⟩
 replace gm0 := cell_keep hb gm0
 replace gm1 := cell_keep hb gm1
 replace hgm := hgm.below hb
 replace gn0 := cell_keep hb gn0
 replace gn1 := cell_keep hb gn1
 replace hgn := hgn.below hb
 replace hbw := Below.tr hbw hb
 clear hb; go_upto_region 21 with fail; refine wp_name ?_; intro w35 HW; have hb : Below w34.heap.size w34 w35 := by rw [HW.out]; exact bA _ _
 have hB : Blk w35 w34.heap.size 28 #[.slice Sgo kgo cgo, .slice Rgo mgo dgo] := by rw [HW.out]; exact Blk.new _ _ _
 obtain ⟨go, hg⟩ : ∃ g, Hid (g = w34.heap.size) := ⟨_, rfl⟩; rw [← hg.out] at hB ⊢
 replace gm0 := cell_keep hb gm0
 replace gm1 := cell_keep hb gm1
 replace hgm := hgm.below hb
 replace gn0 := cell_keep hb gn0
 replace gn1 := cell_keep hb gn1
 replace hgn := hgn.below hb
 replace hbw := Below.tr hbw hb
 have go0 := hB.cell 0; have go1 := hB.cell 1; simp only [List.getElem?_toArray, List.getElem?_cons_zero, List.getElem?_cons_succ] at go0 go1; clear HW hB hg hb; go_wp2_with fail; refine (par_5b _).mono ?_; rintro e w36 ⟨Sgp, kgp, cgp, Rgp, mgp, dgp, rfl, hb⟩
 replace gm0 := cell_keep hb gm0
 replace gm1 := cell_keep hb gm1
 replace hgm := hgm.below hb
 replace gn0 := cell_keep hb gn0
 replace gn1 := cell_keep hb gn1
 replace hgn := hgn.below hb
 replace hbw := Below.tr hbw hb
 clear hb; go_upto_region 22 with fail; refine wp_name ?_; intro w37 HW; have hb : Below w36.heap.size w36 w37 := by rw [HW.out]; exact bA _ _
 have hB : Blk w37 w36.heap.size 28 #[.slice Sgp kgp cgp, .slice Rgp mgp dgp] := by rw [HW.out]; exact Blk.new _ _ _
 obtain ⟨gp, hg⟩ : ∃ g, Hid (g = w36.heap.size) := ⟨_, rfl⟩; rw [← hg.out] at hB ⊢
 replace gm0 := cell_keep hb gm0
 replace gm1 := cell_keep hb gm1
 replace hgm := hgm.below hb
 replace gn0 := cell_keep hb gn0
 replace gn1 := cell_keep hb gn1
 replace hgn := hgn.below hb
 replace hbw := Below.tr hbw hb
 have gp0 := hB.cell 0; have gp1 := hB.cell 1; simp only [List.getElem?_toArray, List.getElem?_cons_zero, List.getElem?_cons_succ] at gp0 gp1; clear HW hB hg hb; go_wp2_with fail; refine (par_5c _).mono ?_; rintro e w38 ⟨Sgq, kgq, cgq, Rgq, mgq, dgq, rfl, hb⟩
 replace gm0 := cell_keep hb gm0
 replace gm1 := cell_keep hb gm1
 replace hgm := hgm.below hb
 replace gn0 := cell_keep hb gn0
 replace gn1 := cell_keep hb gn1
 replace hgn := hgn.below hb
 replace hbw := Below.tr hbw hb
 clear hb; go_upto_region 23 with fail; refine wp_name ?_; intro w39 HW; have hb : Below w38.heap.size w38 w39 := by rw [HW.out]; exact bA _ _
 have hB : Blk w39 w38.heap.size 28 #[.slice Sgq kgq cgq, .slice Rgq mgq dgq] := by rw [HW.out]; exact Blk.new _ _ _
 obtain ⟨gq, hg⟩ : ∃ g, Hid (g = w38.heap.size) := ⟨_, rfl⟩; rw [← hg.out] at hB ⊢
 replace gm0 := cell_keep hb gm0
 replace gm1 := cell_keep hb gm1
 replace hgm := hgm.below hb
 replace gn0 := cell_keep hb gn0
 replace gn1 := cell_keep hb gn1
 replace hgn := hgn.below hb
 replace hbw := Below.tr hbw hb
 have gq0 := hB.cell 0; have gq1 := hB.cell 1; simp only [List.getElem?_toArray, List.getElem?_cons_zero, List.getElem?_cons_succ] at gq0 gq1; clear HW hB hg hb; go_wp2_with fail; refine (is_5 _ 1 3 _ hgm (by omega) (by omega) (by omega)).mono ?_; rintro e w40 ⟨rfl, hb⟩
 replace gm0 := cell_keep hb gm0
 replace gm1 := cell_keep hb gm1
 replace hgm := hgm.below hb
 replace gn0 := cell_keep hb gn0
 replace gn1 := cell_keep hb gn1
 replace hgn := hgn.below hb
 replace hbw := Below.tr hbw hb
 clear hb; go_wp2_with fail; refine (is_5 _ 3 1 _ hgn (by omega) (by omega) (by omega)).mono ?_; rintro e w41 ⟨rfl, hb⟩
 replace gm0 := cell_keep hb gm0
 replace gm1 := cell_keep hb gm1
 replace hgm := hgm.below hb
 replace gn0 := cell_keep hb gn0
 replace gn1 := cell_keep hb gn1
 replace hgn := hgn.below hb
 replace hbw := Below.tr hbw hb
 clear hb; go_wp2_with fail; go_ret; exact ⟨rfl, hbw⟩
end Go.Proofs.YtmbfjmilhfmnkaaDoor
namespace Go.Proofs.YtmbfjmilhfmnkaaDoor
open Go Go.RowKit
theorem seven_at {w : World} {g i : Nat} {xs : List LP} (h : RatRow w (some ⟨g, 0, none⟩) 7 xs) (hi : i < 7) : ∃ y1 y2 x, w.cell? ⟨g, i * 2, none⟩ = some y1 ∧ w.cell? ⟨g, i * 2 + 1, none⟩ = some y2 ∧ RtP w (.agg #[y1, y2]) x := by
 obtain ⟨b, o, y1, y2, x, e, g1, g2, _, hx⟩ := h.at_ hi; simp only [Option.some.injEq, Addr.mk.injEq, and_true] at e; obtain ⟨rfl, rfl⟩ := e; rw [Nat.zero_add] at g1 g2; exact ⟨y1, y2, x, g1, g2, hx⟩
def zeroQ : Value := .agg #[.int .i64 0, .int .i64 0]
theorem info_q : (Tryd.prog.info? 29).map (fun i => (i.zero, i.size, i.bytes)) = some (some zeroQ, 2, 16) := by kernel_rfl
theorem fill_q4 (x0 y0 x1 y1 x2 y2 x3 y3 : Int) : Instr.fill (fun i => some (i * 2, 2)) ((Array.range (4 * 2)).map (zeroQ.cells[· % zeroQ.cells.size]!)) [(0, .agg #[.int .i64 x0, .int .i64 y0]), (1, .agg #[.int .i64 x1, .int .i64 y1]), (2, .agg #[.int .i64 x2, .int .i64 y2]), (3, .agg #[.int .i64 x3, .int .i64 y3])] = some #[.int .i64 x0, .int .i64 y0, .int .i64 x1, .int .i64 y1, .int .i64 x2, .int .i64 y2, .int .i64 x3, .int .i64 y3] := by kernel_rfl
theorem pair_at (w : World) (g i : Nat) (n m how by_ : Int) (z1 z2 : Nat) (h : Blk w g 29 #[.int .i64 n, .int .i64 m, .int .i64 (z1 : Int), .int .i64 (z2 : Int), .int .i64 how, .int .i64 by_, .int .i64 by_, .int .i64 1099511627776]) (hi : i < 4) (hn : isI64 n) (hm : isI64 m) (hh : isI64 how) (hb : isI64 by_) (h1 : z1 < 40) (h2 : z2 < 40) : ∃ x y : Int, w.cell? ⟨g, i * 2, none⟩ = some (.int .i64 x) ∧ w.cell? ⟨g, i * 2 + 1, none⟩ = some (.int .i64 y) ∧ isI64 x ∧ isI64 y := by
 have : i = 0 ∨ i = 1 ∨ i = 2 ∨ i = 3 := by omega
 rcases this with rfl | rfl | rfl | rfl
 ·exact ⟨n, m, by rw [h.cell]; rfl, by rw [h.cell]; rfl, hn, hm⟩
 ·exact ⟨z1, z2, by rw [h.cell]; rfl, by rw [h.cell]; rfl, ⟨by omega, by omega⟩, ⟨by omega, by omega⟩⟩
 ·exact ⟨how, by_, by rw [h.cell]; rfl, by rw [h.cell]; rfl, hh, hb⟩
 ·exact ⟨by_, 1099511627776, by rw [h.cell]; rfl, by rw [h.cell]; rfl, hb, ⟨by omega, by omega⟩⟩
def PhiV5m (g i : Nat) (y1 y2 : Value) (E : Int) (j : Nat) (w : World) (x : Value) : Prop :=
 match j with
 | 0 => x = .slice (some ⟨g, 0, none⟩) 7 7
 | 1 => x = .int .i64 (i : Nat)
 | 2 => x = .pointer (some ⟨g, i * 2, none⟩)
 | 3 => x = .agg #[y1, y2]
 | 4 => x = .int .i64 E
 | 5 => x = .slice (some ⟨g, 0, none⟩) 7 7
 | 6 => x = .int .i64 (i : Nat)
 | 7 => x = .pointer (some ⟨g, i * 2, none⟩)
 | 8 => x = .agg #[y1, y2]
 | 9 => x = .int .i64 E
 | 10 => x = .bool false
 | _ => True

theorem PhiV5m.keep {g i : Nat} {y1 y2 : Value} {E : Int} : ∀ (w w' : World), Below w.heap.size w w' → ∀ j x, PhiV5m g i y1 y2 E j w x → PhiV5m g i y1 y2 E j w' x := by
 intro w w' hb j x h; unfold PhiV5m at h ⊢
 split <;> simp only at h ⊢
 all_goals first
  | exact h
  | exact h.below hb

def PhiVma (g i : Nat) (nx ny E : Int) (X : LP) (B : Nat) (j : Nat) (w : World) (x : Value) : Prop :=
 match j with
 | 0 => x = .slice (some ⟨g, 0, none⟩) 4 4
 | 1 => x = .int .i64 (i : Nat)
 | 2 => x = .pointer (some ⟨g, i * 2, none⟩)
 | 3 => x = .pointer (some ⟨g, i * 2, none⟩)
 | 4 => x = .int .i64 nx
 | 5 => x = .slice (some ⟨g, 0, none⟩) 4 4
 | 6 => x = .int .i64 (i : Nat)
 | 7 => x = .pointer (some ⟨g, i * 2, none⟩)
 | 8 => x = .pointer (some ⟨g, i * 2 + 1, none⟩)
 | 9 => x = .int .i64 ny
 | 10 => ∃ v, x = .tuple #[v, .int .i64 E] ∧ RtP w v X
 | 11 => ∃ v, x = .tuple #[v, .int .i64 E] ∧ RtP w v X
 | 12 => ∃ A k c A' k' c', x = .agg #[.slice A k c, .slice A' k' c'] ∧ RtP w (.agg #[.slice A k c, .slice A' k' c']) X
 | 13 => x = .int .i64 E
 | 14 => ∃ g, x = .pointer (some ⟨g, 0, none⟩) ∧ B ≤ g ∧ Sl w g
 | 15 => True
 | 16 => x = .int .i64 E
 | _ => True

theorem PhiVma.keep {g i : Nat} {nx ny E : Int} {X : LP} {B : Nat} : ∀ (w w' : World), RT B w w' → ∀ j x, PhiVma g i nx ny E X B j w x → PhiVma g i nx ny E X B j w' x := by
 intro w w' hr j x h; unfold PhiVma at h ⊢
 split <;> simp only at h ⊢
 all_goals first
  | exact h
  | (obtain ⟨v, e, h⟩ := h; exact ⟨v, e, h.mapL hr.lim⟩)
  | (obtain ⟨A, k, c, A', k', c', e, h⟩ := h; exact ⟨A, k, c, A', k', c', e, h.mapL hr.lim⟩)
  | (obtain ⟨g, e, h1, h2⟩ := h; exact ⟨g, e, h1, hr.sl g h2⟩)
  | exact h.mapL hr.lim

def PhiVmb (g i : Nat) (nx ny E : Int) (X : LP) (B : Nat) (j : Nat) (w : World) (x : Value) : Prop :=
 match j with
 | 0 => x = .slice (some ⟨g, 0, none⟩) 4 4
 | 1 => x = .int .i64 (i : Nat)
 | 2 => x = .pointer (some ⟨g, i * 2, none⟩)
 | 3 => x = .pointer (some ⟨g, i * 2, none⟩)
 | 4 => x = .int .i64 nx
 | 5 => x = .slice (some ⟨g, 0, none⟩) 4 4
 | 6 => x = .int .i64 (i : Nat)
 | 7 => x = .pointer (some ⟨g, i * 2, none⟩)
 | 8 => x = .pointer (some ⟨g, i * 2 + 1, none⟩)
 | 9 => x = .int .i64 ny
 | 10 => ∃ v, x = .tuple #[v, .int .i64 E] ∧ RtP w v X
 | 11 => ∃ v, x = .tuple #[v, .int .i64 E] ∧ RtP w v X
 | 12 => ∃ A k c A' k' c', x = .agg #[.slice A k c, .slice A' k' c'] ∧ RtP w (.agg #[.slice A k c, .slice A' k' c']) X
 | 13 => x = .int .i64 E
 | 14 => ∃ g, x = .pointer (some ⟨g, 0, none⟩) ∧ B ≤ g ∧ Sl w g
 | 15 => True
 | 16 => x = .int .i64 E
 | _ => True

theorem PhiVmb.keep {g i : Nat} {nx ny E : Int} {X : LP} {B : Nat} : ∀ (w w' : World), RT B w w' → ∀ j x, PhiVmb g i nx ny E X B j w x → PhiVmb g i nx ny E X B j w' x := by
 intro w w' hr j x h; unfold PhiVmb at h ⊢
 split <;> simp only at h ⊢
 all_goals first
  | exact h
  | (obtain ⟨v, e, h⟩ := h; exact ⟨v, e, h.mapL hr.lim⟩)
  | (obtain ⟨A, k, c, A', k', c', e, h⟩ := h; exact ⟨A, k, c, A', k', c', e, h.mapL hr.lim⟩)
  | (obtain ⟨g, e, h1, h2⟩ := h; exact ⟨g, e, h1, hr.sl g h2⟩)
  | exact h.mapL hr.lim

set_option maxRecDepth 100000 in
set_option maxHeartbeats 8000000 in
theorem ratio_makes_n (A4 : Option Addr) (k4 c4 : Nat) (A5 : Option Addr) (k5 c5 : Nat) (l4 l5 : List Nat) (n m how by_ : Int) (w : World) (hl4 : Lim w A4 c4 l4) (hk4 : k4 = l4.length) (hl5 : Lim w A5 c5 l5) (hk5 : k5 = l5.length) (hin : isI64 n) (him : isI64 m) (hih : isI64 how) (hib : isI64 by_) :
  Calls Tryd.prog 3 #[.int .i64 n, .int .i64 m, .int .i64 how, .int .i64 by_, .slice A4 k4 c4, .slice A5 k5 c5] w fun e w' => e = .returned (.bool true) ∧ Below w.heap.size w w' := by
 obtain ⟨iQ, hiQ, hzQ, hzQ1, hzQ2⟩ := info_parts info_q; have HS := Lib.hid (some_n n m how by_ A4 k4 c4 A5 k5 c5 l4 l5 w hin him hih hib hl4 hk4 hl5 hk5); have HIN := Lib.hid hin; have HIM := Lib.hid him; have HIH := Lib.hid hih; have HIB := Lib.hid hib; clear hl4 hk4 hl5 hk5 hin him hih hib
 go_enter Tryd.func3, Tryd.ntmps3
 go_wp2_with fail; refine HS.out.mono ?_; rintro e w1 ⟨gL, xs, rfl, hL, _, hbw⟩; clear HS; go_wp2_with fail
 go_loopg [14] 7 (fun j x wr => ∃ i : Nat, x = .int .i64 i ∧ i + j = 7 ∧ Below w1.heap.size w1 wr)
 case atStart => exact ⟨0, rfl, by omega, Below.refl _ _⟩
 case round =>
  obtain ⟨G, hG⟩ : ∃ G, G = gk := ⟨gk, rfl⟩; subst hG; obtain ⟨i, rfl, hij, hbo⟩ := hrel; obtain ⟨wo, hwo⟩ : ∃ wo, wo = wr := ⟨_, rfl⟩; subst hwo; by_cases hi : i < 7
  ·have t1 : decide ((i : Int) < 7) = true := by simp; omega
   have hi7 : (i : Int) < 7 := by omega
   obtain ⟨y1, y2, q, g1, g2, hq⟩ := seven_at (hL.below hbo) hi; go_upto_region 5 with fail; refine region_invF (PhiV5m gL i y1 y2 (validP q)) (fun w w' => Below w.heap.size w w') (fun W => Below wo.heap.size wo W) (by kernel_rfl) (by kernel_rfl) (by kernel_rfl) PhiV5m.keep (fun _ _ hR hS => Below.tr hS hR) (bD _) (fun vs => by simp only [fillR, Act.put, sA, sB, sC, Nat.zero_add, Nat.reduceAdd]; rfl) ?_ ?_
   ·refine sK ?_ (sK ?_ (sK ?_ (sK ?_ (sK ?_ (sK ?_ (sK ?_ (sK ?_ (sK ?_ (sK ?_ (sK ?_ (sZ)))))))))))
    ·as_aux_lemma =>
     intro vs W hS hdep K hK; refine ⟨?_⟩; simp only [Act.put, sA, sB, sC, Nat.zero_add, Nat.reduceAdd] at hK ⊢; go_simp; with_reducible refine hK _ _ (Below.refl _ _) ?_
     exact rfl
    ·as_aux_lemma =>
     intro vs W hS hdep K hK; refine ⟨?_⟩; simp only [Act.put, sA, sB, sC, Nat.zero_add, Nat.reduceAdd] at hK ⊢; go_simp; with_reducible refine hK _ _ (Below.refl _ _) ?_
     exact rfl
    ·as_aux_lemma =>
     intro vs W hS hdep K hK; have d0 := hdep ⟨0, .data⟩ (by simp) rfl; simp only [PhiV5m] at d0; have d1 := hdep ⟨1, .data⟩ (by simp) rfl; simp only [PhiV5m] at d1; refine ⟨?_⟩; simp only [Act.put, sA, sB, sC, Nat.zero_add, Nat.reduceAdd, d0, d1] at hK ⊢; go_simp; with_reducible refine hK _ _ (Below.refl _ _) ?_
     exact rfl
    ·as_aux_lemma =>
     intro vs W hS hdep K hK; have d0 := hdep ⟨2, .data⟩ (by simp) rfl; simp only [PhiV5m] at d0; have f1 := cell_keep hS g1; have f2 := cell_keep hS g2; refine ⟨?_⟩; simp only [Act.put, sA, sB, sC, Nat.zero_add, Nat.reduceAdd, d0] at hK ⊢; go_simp; with_reducible refine hK _ _ (Below.refl _ _) ?_
     exact rfl
    ·as_aux_lemma =>
     intro vs W hS hdep K hK; have d0 := hdep ⟨3, .data⟩ (by simp) rfl; simp only [PhiV5m] at d0; refine ⟨?_⟩; simp only [Act.put, sA, sB, sC, Nat.zero_add, Nat.reduceAdd, d0] at hK ⊢; go_simp; refine (valid_P _ q _ (hq.below hS)).mono ?_; rintro e w' ⟨rfl, hb⟩; go_wp2_with fail; with_reducible refine hK _ _ hb ?_
     exact rfl
    ·as_aux_lemma =>
     intro vs W hS hdep K hK; refine ⟨?_⟩; simp only [Act.put, sA, sB, sC, Nat.zero_add, Nat.reduceAdd] at hK ⊢; go_simp; with_reducible refine hK _ _ (Below.refl _ _) ?_
     exact rfl
    ·as_aux_lemma =>
     intro vs W hS hdep K hK; refine ⟨?_⟩; simp only [Act.put, sA, sB, sC, Nat.zero_add, Nat.reduceAdd] at hK ⊢; go_simp; with_reducible refine hK _ _ (Below.refl _ _) ?_
     exact rfl
    ·as_aux_lemma =>
     intro vs W hS hdep K hK; have d0 := hdep ⟨5, .data⟩ (by simp) rfl; simp only [PhiV5m] at d0; have d1 := hdep ⟨6, .data⟩ (by simp) rfl; simp only [PhiV5m] at d1; refine ⟨?_⟩; simp only [Act.put, sA, sB, sC, Nat.zero_add, Nat.reduceAdd, d0, d1] at hK ⊢; go_simp; with_reducible refine hK _ _ (Below.refl _ _) ?_
     exact rfl
    ·as_aux_lemma =>
     intro vs W hS hdep K hK; have d0 := hdep ⟨7, .data⟩ (by simp) rfl; simp only [PhiV5m] at d0; have f1 := cell_keep hS g1; have f2 := cell_keep hS g2; refine ⟨?_⟩; simp only [Act.put, sA, sB, sC, Nat.zero_add, Nat.reduceAdd, d0] at hK ⊢; go_simp; with_reducible refine hK _ _ (Below.refl _ _) ?_
     exact rfl
    ·as_aux_lemma =>
     intro vs W hS hdep K hK; have d0 := hdep ⟨8, .data⟩ (by simp) rfl; simp only [PhiV5m] at d0; refine ⟨?_⟩; simp only [Act.put, sA, sB, sC, Nat.zero_add, Nat.reduceAdd, d0] at hK ⊢; go_simp; refine (rvalid_P _ q _ (hq.below hS)).mono ?_; rintro e w' ⟨rfl, hb⟩; go_wp2_with fail; with_reducible refine hK _ _ hb ?_
     exact rfl
    ·as_aux_lemma =>
     intro vs W hS hdep K hK; have d0 := hdep ⟨4, .data⟩ (by simp) rfl; simp only [PhiV5m] at d0; have d1 := hdep ⟨9, .data⟩ (by simp) rfl; simp only [PhiV5m] at d1; refine ⟨?_⟩; simp only [Act.put, sA, sB, sC, Nat.zero_add, Nat.reduceAdd, d0, d1] at hK ⊢; go_simp; with_reducible refine hK _ _ (Below.refl _ _) ?_
     exact rfl
   intro vs w2 hb hv; have v10 := hv 10 (by simp); simp only [PhiV5m] at v10; simp only [Act.put, sA, sB, sC, Nat.zero_add, Nat.reduceAdd, v10]; have hbo := Below.tr hbo hb; clear hv v10 hb g1 g2 hq; go_wp2_with fail
   go_roundg (G - 1)
   case measure => omega
   case rel => exact ⟨i + 1, by go_num, by omega, hbo⟩
  ·have t1 : decide ((i : Int) < 7) = false := by simp; omega
   have hbw := Below.tr hbw hbo; clear hL; go_wp2_with fail; refine (around_n n 40 _ HIN.out.1 HIN.out.2 (by omega) (by omega)).mono ?_; rintro e w' ⟨z1, rfl, hz1, _, rfl⟩; go_wp2_with fail; refine (around_n m 40 _ HIM.out.1 HIM.out.2 (by omega) (by omega)).mono ?_; rintro e w' ⟨z2, rfl, hz2, _, rfl⟩
   go_upto_region 8 with (refine wpList_sliceN rfl 31 29 4 [(0, .tmp 47), (1, .tmp 52), (2, .tmp 55), (3, .tmp 57)] rfl #[.int .i64 n, .int .i64 m, .int .i64 (z1 : Int), .int .i64 (z2 : Int), .int .i64 how, .int .i64 by_, .int .i64 by_, .int .i64 1099511627776] iQ zeroQ 2 [(0, .agg #[.int .i64 n, .int .i64 m]), (1, .agg #[.int .i64 (z1 : Int), .int .i64 (z2 : Int)]), (2, .agg #[.int .i64 how, .int .i64 by_]), (3, .agg #[.int .i64 by_, .int .i64 1099511627776])] Tryd.underlying31 hiQ hzQ hzQ1 (by omega) (by omega) rfl (fill_q4 _ _ _ _ _ _ _ _) ?_; simp only [Act.put, sA, sB, sC])
   refine wp_name ?_; intro w3 HW; have hb3 : Below wo.heap.size wo w3 := by rw [HW.out]; exact bA _ _
   have hB : Blk w3 wo.heap.size 29 #[.int .i64 n, .int .i64 m, .int .i64 (z1 : Int), .int .i64 (z2 : Int), .int .i64 how, .int .i64 by_, .int .i64 by_, .int .i64 1099511627776] := by rw [HW.out]; exact Blk.new _ _ _
   obtain ⟨gP, hgP⟩ : ∃ g, Hid (g = wo.heap.size) := ⟨_, rfl⟩; rw [← hgP.out] at hB ⊢; have hbw := Below.tr hbw hb3; have HP : Hid (∀ i, i < 4 → ∃ x y : Int, w3.cell? ⟨gP, i * 2, none⟩ = some (.int .i64 x) ∧ w3.cell? ⟨gP, i * 2 + 1, none⟩ = some (.int .i64 y) ∧ isI64 x ∧ isI64 y) := fun i hi => pair_at w3 gP i n m how by_ z1 z2 hB hi HIN.out HIM.out HIH.out HIB.out hz1 hz2
   clear HW hB hgP hb3 hbo hi hij; go_wp2_with fail
   go_loopg [16] 4 (fun j x wr => ∃ i : Nat, x = .int .i64 i ∧ i + j = 4 ∧ Below w3.heap.size w3 wr)
   case atStart => exact ⟨0, rfl, by omega, Below.refl _ _⟩
   case round =>
    obtain ⟨G2, hG2⟩ : ∃ G, G = gk := ⟨gk, rfl⟩; subst hG2; obtain ⟨i, rfl, hij, hbp⟩ := hrel; obtain ⟨wp, hwp⟩ : ∃ wo, wo = wr := ⟨_, rfl⟩; subst hwp; by_cases hi : i < 4
    ·have t1 : decide ((i : Int) < 4) = true := by simp; omega
     have hi4 : (i : Int) < 4 := by omega
     obtain ⟨x, y, c1, c2, hx, hy⟩ := HP.out i hi
     replace c1 := cell_keep hbp c1
     replace c2 := cell_keep hbp c2
     go_upto_region 11 with fail; refine region_invW (PhiVma gP i x y (ofE x y) (ofX x y) wp.heap.size) (RT wp.heap.size) (SD wp 12 14 15) (by kernel_rfl) (by kernel_rfl) (by kernel_rfl) PhiVma.keep (SD.start _ _ _ _ _) (fun vs => by simp only [fillR, Act.put, sA, sB, sC, Nat.zero_add, Nat.reduceAdd]; rfl) ?_ ?_
     ·refine sK ?_ (sK ?_ (sK ?_ (sK ?_ (sK ?_ (sK ?_ (sK ?_ (sK ?_ (sK ?_ (sK ?_ (sK ?_ (sK ?_ (sK ?_ (sK ?_ (sK ?_ (sK ?_ (sK ?_ (sZ)))))))))))))))))
      ·as_aux_lemma =>
       intro vs L W hS hL cl hdl hdep K hK; refine ⟨?_⟩; simp only [Act.put, sA, sB, sC, Nat.zero_add, Nat.reduceAdd] at hK ⊢; go_simp; with_reducible refine hK _ _ (RT.refl _ _) (hS.step (Below.refl _ _) 0 _ (by decide) (fun e => absurd e (by decide))) ?_
       exact rfl
      ·as_aux_lemma =>
       intro vs L W hS hL cl hdl hdep K hK; refine ⟨?_⟩; simp only [Act.put, sA, sB, sC, Nat.zero_add, Nat.reduceAdd] at hK ⊢; go_simp; with_reducible refine hK _ _ (RT.refl _ _) (hS.step (Below.refl _ _) 1 _ (by decide) (fun e => absurd e (by decide))) ?_
       exact rfl
      ·as_aux_lemma =>
       intro vs L W hS hL cl hdl hdep K hK; have d0 := hdep ⟨0, .data⟩ (by simp) rfl; simp only [PhiVma] at d0; have d1 := hdep ⟨1, .data⟩ (by simp) rfl; simp only [PhiVma] at d1; refine ⟨?_⟩; simp only [Act.put, sA, sB, sC, Nat.zero_add, Nat.reduceAdd, d0, d1] at hK ⊢; go_simp; with_reducible refine hK _ _ (RT.refl _ _) (hS.step (Below.refl _ _) 2 _ (by decide) (fun e => absurd e (by decide))) ?_
       exact rfl
      ·as_aux_lemma =>
       intro vs L W hS hL cl hdl hdep K hK; have d0 := hdep ⟨2, .data⟩ (by simp) rfl; simp only [PhiVma] at d0; refine ⟨?_⟩; simp only [Act.put, sA, sB, sC, Nat.zero_add, Nat.reduceAdd, d0] at hK ⊢; go_simp; with_reducible refine hK _ _ (RT.refl _ _) (hS.step (Below.refl _ _) 3 _ (by decide) (fun e => absurd e (by decide))) ?_
       exact rfl
      ·as_aux_lemma =>
       intro vs L W hS hL cl hdl hdep K hK; have d0 := hdep ⟨3, .data⟩ (by simp) rfl; simp only [PhiVma] at d0; have f1 := cell_keep hS.be c1; refine ⟨?_⟩; simp only [Act.put, sA, sB, sC, Nat.zero_add, Nat.reduceAdd, d0] at hK ⊢; go_simp; with_reducible refine hK _ _ (RT.refl _ _) (hS.step (Below.refl _ _) 4 _ (by decide) (fun e => absurd e (by decide))) ?_
       exact rfl
      ·as_aux_lemma =>
       intro vs L W hS hL cl hdl hdep K hK; refine ⟨?_⟩; simp only [Act.put, sA, sB, sC, Nat.zero_add, Nat.reduceAdd] at hK ⊢; go_simp; with_reducible refine hK _ _ (RT.refl _ _) (hS.step (Below.refl _ _) 5 _ (by decide) (fun e => absurd e (by decide))) ?_
       exact rfl
      ·as_aux_lemma =>
       intro vs L W hS hL cl hdl hdep K hK; refine ⟨?_⟩; simp only [Act.put, sA, sB, sC, Nat.zero_add, Nat.reduceAdd] at hK ⊢; go_simp; with_reducible refine hK _ _ (RT.refl _ _) (hS.step (Below.refl _ _) 6 _ (by decide) (fun e => absurd e (by decide))) ?_
       exact rfl
      ·as_aux_lemma =>
       intro vs L W hS hL cl hdl hdep K hK; have d0 := hdep ⟨5, .data⟩ (by simp) rfl; simp only [PhiVma] at d0; have d1 := hdep ⟨6, .data⟩ (by simp) rfl; simp only [PhiVma] at d1; refine ⟨?_⟩; simp only [Act.put, sA, sB, sC, Nat.zero_add, Nat.reduceAdd, d0, d1] at hK ⊢; go_simp; with_reducible refine hK _ _ (RT.refl _ _) (hS.step (Below.refl _ _) 7 _ (by decide) (fun e => absurd e (by decide))) ?_
       exact rfl
      ·as_aux_lemma =>
       intro vs L W hS hL cl hdl hdep K hK; have d0 := hdep ⟨7, .data⟩ (by simp) rfl; simp only [PhiVma] at d0; refine ⟨?_⟩; simp only [Act.put, sA, sB, sC, Nat.zero_add, Nat.reduceAdd, d0] at hK ⊢; go_simp; with_reducible refine hK _ _ (RT.refl _ _) (hS.step (Below.refl _ _) 8 _ (by decide) (fun e => absurd e (by decide))) ?_
       exact rfl
      ·as_aux_lemma =>
       intro vs L W hS hL cl hdl hdep K hK; have d0 := hdep ⟨8, .data⟩ (by simp) rfl; simp only [PhiVma] at d0; have f1 := cell_keep hS.be c2; refine ⟨?_⟩; simp only [Act.put, sA, sB, sC, Nat.zero_add, Nat.reduceAdd, d0] at hK ⊢; go_simp; with_reducible refine hK _ _ (RT.refl _ _) (hS.step (Below.refl _ _) 9 _ (by decide) (fun e => absurd e (by decide))) ?_
       exact rfl
      ·as_aux_lemma =>
       intro vs L W hS hL cl hdl hdep K hK; have d0 := hdep ⟨4, .data⟩ (by simp) rfl; simp only [PhiVma] at d0; have d1 := hdep ⟨9, .data⟩ (by simp) rfl; simp only [PhiVma] at d1; refine ⟨?_⟩; simp only [Act.put, sA, sB, sC, Nat.zero_add, Nat.reduceAdd, d0, d1] at hK ⊢; go_simp; refine (of_A x y _ hx hy).mono ?_; rintro e w' ⟨v, rfl, hn, hb⟩; go_wp2_with fail; with_reducible refine hK _ _ (RT.below hb hS.be.size) (hS.step hb 10 _ (by decide) (fun e => absurd e (by decide))) ?_
       exact ⟨v, rfl, hn⟩
      ·as_aux_lemma =>
       intro vs L W hS hL cl hdl hdep K hK; have d0 := hdep ⟨10, .data⟩ (by simp) rfl; simp only [PhiVma] at d0; refine @exE1 _ _ _ d0 ?_; clear d0; intro v0 d0; have e0 := d0.1; have n0 := d0.2; clear d0; refine ⟨?_⟩; simp only [Act.put, sA, sB, sC, Nat.zero_add, Nat.reduceAdd, e0] at hK ⊢; go_simp; with_reducible refine hK _ _ (RT.refl _ _) (hS.step (Below.refl _ _) 11 _ (by decide) (fun e => absurd e (by decide))) ?_
       exact ⟨_, rfl, n0⟩
      ·as_aux_lemma =>
       intro vs L W hS hL cl hdl hdep K hK; have d0 := hdep ⟨11, .data⟩ (by simp) rfl; simp only [PhiVma] at d0; refine @exE1 _ _ _ d0 ?_; clear d0; intro v0 d0; have e0 := d0.1; have n0 := d0.2; clear d0
       have h15 : L 15 = false := by
        cases h : L 15 with
        | false => rfl
        | true => exact absurd (cl 15 _ rfl h ⟨12, .data⟩ (by simp) rfl) (by rw [hL]; decide)
       obtain ⟨A, k, c, A', k', c', rfl⟩ := n0.shape; refine ⟨?_⟩; simp only [Act.put, sA, sB, sC, Nat.zero_add, Nat.reduceAdd, e0] at hK ⊢; go_simp; with_reducible refine hK _ _ (RT.refl _ _) (hS.step (Below.refl _ _) 12 _ (by decide) (fun _ => h15)) ?_
       exact ⟨_, _, _, _, _, _, rfl, n0⟩
      ·as_aux_lemma =>
       intro vs L W hS hL cl hdl hdep K hK; have d0 := hdep ⟨11, .data⟩ (by simp) rfl; simp only [PhiVma] at d0; refine @exE1 _ _ _ d0 ?_; clear d0; intro v0 d0; have e0 := d0.1; have n0 := d0.2; clear d0; refine ⟨?_⟩; simp only [Act.put, sA, sB, sC, Nat.zero_add, Nat.reduceAdd, e0] at hK ⊢; go_simp; with_reducible refine hK _ _ (RT.refl _ _) (hS.step (Below.refl _ _) 13 _ (by decide) (fun e => absurd e (by decide))) ?_
       exact rfl
      ·as_aux_lemma =>
       intro vs L W hS hL cl hdl hdep K hK
       have h15 : L 15 = false := by
        cases h : L 15 with
        | false => rfl
        | true => exact absurd (cl 15 _ rfl h ⟨14, .data⟩ (by simp) rfl) (by rw [hL]; decide)
       refine ⟨?_⟩; simp only [Act.put, sA, sB, sC, Nat.zero_add, Nat.reduceAdd] at hK ⊢; go_simp; with_reducible refine hK _ _ (RT.below (bA _ _) hS.be.size) (hS.step (bA _ _) 14 _ (by decide) (fun _ => h15)) ?_
       exact ⟨_, rfl, hS.be.size, none, 0, 0, none, 0, 0, Blk.new _ _ _⟩
      ·as_aux_lemma =>
       intro vs L W hS hL cl hdl hdep K hK; have d0 := hdep ⟨14, .data⟩ (by simp) rfl; simp only [PhiVma] at d0; refine @exE1 _ _ _ d0 ?_; clear d0; intro g0 d0; have e0 := d0.1; have l0 := d0.2.1; have s0 := d0.2.2; clear d0; have d1 := hdep ⟨12, .data⟩ (by simp) rfl; simp only [PhiVma] at d1; refine @exE6 _ _ _ _ _ _ _ _ d1 ?_; clear d1; intro A1 k1 c1 B1 m1 d1 d1; have e1 := d1.1; have n1 := d1.2; clear d1; obtain ⟨⟨a1, q1⟩, ⟨a2, q2⟩, q3, q4⟩ := s0.facts; refine ⟨?_⟩; simp only [Act.put, sA, sB, sC, Nat.zero_add, Nat.reduceAdd, e0, e1] at hK ⊢; go_simp; with_reducible refine hK undef _ (RT.store s0 l0 _ _ _ _ _ _) (hS.stored e0 e1 l0 s0 (by decide) (by decide) _) ?_
       exact trivial
      ·as_aux_lemma =>
       intro vs L W hS hL cl hdl hdep K hK; have d0 := hdep ⟨13, .data⟩ (by simp) rfl; simp only [PhiVma] at d0; refine ⟨?_⟩; simp only [Act.put, sA, sB, sC, Nat.zero_add, Nat.reduceAdd, d0] at hK ⊢; go_simp; with_reducible refine hK _ _ (RT.refl _ _) (hS.step (Below.refl _ _) 16 _ (by decide) (fun e => absurd e (by decide))) ?_
       exact rfl
     ·intro vs L w4 hS hall hv; have v16 := hv 16 (by simp); have v8 := hv 12 (by simp); simp only [PhiVma] at v16 v8; obtain ⟨_, _, _, _, _, _, e8', ho⟩ := v8; obtain ⟨ga, A9a, k9a, c9a, B9a, m9a, d9a, e10, e8, hgN, hblk⟩ := hS.st (hall 15 (by simp)); rw [e8] at e8'; rw [← e8'] at ho; have HOa := Lib.hid ho; have hbx := hS.be; clear hv hS hall e8' ho; simp only [Act.put, sA, sB, sC, Nat.zero_add, Nat.reduceAdd, v16, e10, e8]; have hra := HOa.out; have F0 := hblk.cell 0; have F1 := hblk.cell 1; simp only [List.getElem?_toArray, List.getElem?_cons_zero, List.getElem?_cons_succ] at F0 F1
      replace c1 := cell_keep hbx c1
      replace c2 := cell_keep hbx c2
      have hbp4 := Below.tr hbp hbx; clear HOa hblk hgN hbx; go_upto_region 12 with fail; refine region_invW (PhiVmb gP i x y (ofE x y) (ofX x y) w4.heap.size) (RT w4.heap.size) (SD w4 12 14 15) (by kernel_rfl) (by kernel_rfl) (by kernel_rfl) PhiVmb.keep (SD.start _ _ _ _ _) (fun vs => by simp only [fillR, Act.put, sA, sB, sC, Nat.zero_add, Nat.reduceAdd]; rfl) ?_ ?_
      ·refine sK ?_ (sK ?_ (sK ?_ (sK ?_ (sK ?_ (sK ?_ (sK ?_ (sK ?_ (sK ?_ (sK ?_ (sK ?_ (sK ?_ (sK ?_ (sK ?_ (sK ?_ (sK ?_ (sK ?_ (sZ)))))))))))))))))
       ·as_aux_lemma =>
        intro vs L W hS hL cl hdl hdep K hK; refine ⟨?_⟩; simp only [Act.put, sA, sB, sC, Nat.zero_add, Nat.reduceAdd] at hK ⊢; go_simp; with_reducible refine hK _ _ (RT.refl _ _) (hS.step (Below.refl _ _) 0 _ (by decide) (fun e => absurd e (by decide))) ?_
        exact rfl
       ·as_aux_lemma =>
        intro vs L W hS hL cl hdl hdep K hK; refine ⟨?_⟩; simp only [Act.put, sA, sB, sC, Nat.zero_add, Nat.reduceAdd] at hK ⊢; go_simp; with_reducible refine hK _ _ (RT.refl _ _) (hS.step (Below.refl _ _) 1 _ (by decide) (fun e => absurd e (by decide))) ?_
        exact rfl
       ·as_aux_lemma =>
        intro vs L W hS hL cl hdl hdep K hK; have d0 := hdep ⟨0, .data⟩ (by simp) rfl; simp only [PhiVmb] at d0; have d1 := hdep ⟨1, .data⟩ (by simp) rfl; simp only [PhiVmb] at d1; refine ⟨?_⟩; simp only [Act.put, sA, sB, sC, Nat.zero_add, Nat.reduceAdd, d0, d1] at hK ⊢; go_simp; with_reducible refine hK _ _ (RT.refl _ _) (hS.step (Below.refl _ _) 2 _ (by decide) (fun e => absurd e (by decide))) ?_
        exact rfl
       ·as_aux_lemma =>
        intro vs L W hS hL cl hdl hdep K hK; have d0 := hdep ⟨2, .data⟩ (by simp) rfl; simp only [PhiVmb] at d0; refine ⟨?_⟩; simp only [Act.put, sA, sB, sC, Nat.zero_add, Nat.reduceAdd, d0] at hK ⊢; go_simp; with_reducible refine hK _ _ (RT.refl _ _) (hS.step (Below.refl _ _) 3 _ (by decide) (fun e => absurd e (by decide))) ?_
        exact rfl
       ·as_aux_lemma =>
        intro vs L W hS hL cl hdl hdep K hK; have d0 := hdep ⟨3, .data⟩ (by simp) rfl; simp only [PhiVmb] at d0; have f1 := cell_keep hS.be c1; refine ⟨?_⟩; simp only [Act.put, sA, sB, sC, Nat.zero_add, Nat.reduceAdd, d0] at hK ⊢; go_simp; with_reducible refine hK _ _ (RT.refl _ _) (hS.step (Below.refl _ _) 4 _ (by decide) (fun e => absurd e (by decide))) ?_
        exact rfl
       ·as_aux_lemma =>
        intro vs L W hS hL cl hdl hdep K hK; refine ⟨?_⟩; simp only [Act.put, sA, sB, sC, Nat.zero_add, Nat.reduceAdd] at hK ⊢; go_simp; with_reducible refine hK _ _ (RT.refl _ _) (hS.step (Below.refl _ _) 5 _ (by decide) (fun e => absurd e (by decide))) ?_
        exact rfl
       ·as_aux_lemma =>
        intro vs L W hS hL cl hdl hdep K hK; refine ⟨?_⟩; simp only [Act.put, sA, sB, sC, Nat.zero_add, Nat.reduceAdd] at hK ⊢; go_simp; with_reducible refine hK _ _ (RT.refl _ _) (hS.step (Below.refl _ _) 6 _ (by decide) (fun e => absurd e (by decide))) ?_
        exact rfl
       ·as_aux_lemma =>
        intro vs L W hS hL cl hdl hdep K hK; have d0 := hdep ⟨5, .data⟩ (by simp) rfl; simp only [PhiVmb] at d0; have d1 := hdep ⟨6, .data⟩ (by simp) rfl; simp only [PhiVmb] at d1; refine ⟨?_⟩; simp only [Act.put, sA, sB, sC, Nat.zero_add, Nat.reduceAdd, d0, d1] at hK ⊢; go_simp; with_reducible refine hK _ _ (RT.refl _ _) (hS.step (Below.refl _ _) 7 _ (by decide) (fun e => absurd e (by decide))) ?_
        exact rfl
       ·as_aux_lemma =>
        intro vs L W hS hL cl hdl hdep K hK; have d0 := hdep ⟨7, .data⟩ (by simp) rfl; simp only [PhiVmb] at d0; refine ⟨?_⟩; simp only [Act.put, sA, sB, sC, Nat.zero_add, Nat.reduceAdd, d0] at hK ⊢; go_simp; with_reducible refine hK _ _ (RT.refl _ _) (hS.step (Below.refl _ _) 8 _ (by decide) (fun e => absurd e (by decide))) ?_
        exact rfl
       ·as_aux_lemma =>
        intro vs L W hS hL cl hdl hdep K hK; have d0 := hdep ⟨8, .data⟩ (by simp) rfl; simp only [PhiVmb] at d0; have f1 := cell_keep hS.be c2; refine ⟨?_⟩; simp only [Act.put, sA, sB, sC, Nat.zero_add, Nat.reduceAdd, d0] at hK ⊢; go_simp; with_reducible refine hK _ _ (RT.refl _ _) (hS.step (Below.refl _ _) 9 _ (by decide) (fun e => absurd e (by decide))) ?_
        exact rfl
       ·as_aux_lemma =>
        intro vs L W hS hL cl hdl hdep K hK; have d0 := hdep ⟨4, .data⟩ (by simp) rfl; simp only [PhiVmb] at d0; have d1 := hdep ⟨9, .data⟩ (by simp) rfl; simp only [PhiVmb] at d1; refine ⟨?_⟩; simp only [Act.put, sA, sB, sC, Nat.zero_add, Nat.reduceAdd, d0, d1] at hK ⊢; go_simp; refine (rof_A x y _ hx hy).mono ?_; rintro e w' ⟨v, rfl, hn, hb⟩; go_wp2_with fail; with_reducible refine hK _ _ (RT.below hb hS.be.size) (hS.step hb 10 _ (by decide) (fun e => absurd e (by decide))) ?_
        exact ⟨v, rfl, hn⟩
       ·as_aux_lemma =>
        intro vs L W hS hL cl hdl hdep K hK; have d0 := hdep ⟨10, .data⟩ (by simp) rfl; simp only [PhiVmb] at d0; refine @exE1 _ _ _ d0 ?_; clear d0; intro v0 d0; have e0 := d0.1; have n0 := d0.2; clear d0; refine ⟨?_⟩; simp only [Act.put, sA, sB, sC, Nat.zero_add, Nat.reduceAdd, e0] at hK ⊢; go_simp; with_reducible refine hK _ _ (RT.refl _ _) (hS.step (Below.refl _ _) 11 _ (by decide) (fun e => absurd e (by decide))) ?_
        exact ⟨_, rfl, n0⟩
       ·as_aux_lemma =>
        intro vs L W hS hL cl hdl hdep K hK; have d0 := hdep ⟨11, .data⟩ (by simp) rfl; simp only [PhiVmb] at d0; refine @exE1 _ _ _ d0 ?_; clear d0; intro v0 d0; have e0 := d0.1; have n0 := d0.2; clear d0
        have h15 : L 15 = false := by
         cases h : L 15 with
         | false => rfl
         | true => exact absurd (cl 15 _ rfl h ⟨12, .data⟩ (by simp) rfl) (by rw [hL]; decide)
        obtain ⟨A, k, c, A', k', c', rfl⟩ := n0.shape; refine ⟨?_⟩; simp only [Act.put, sA, sB, sC, Nat.zero_add, Nat.reduceAdd, e0] at hK ⊢; go_simp; with_reducible refine hK _ _ (RT.refl _ _) (hS.step (Below.refl _ _) 12 _ (by decide) (fun _ => h15)) ?_
        exact ⟨_, _, _, _, _, _, rfl, n0⟩
       ·as_aux_lemma =>
        intro vs L W hS hL cl hdl hdep K hK; have d0 := hdep ⟨11, .data⟩ (by simp) rfl; simp only [PhiVmb] at d0; refine @exE1 _ _ _ d0 ?_; clear d0; intro v0 d0; have e0 := d0.1; have n0 := d0.2; clear d0; refine ⟨?_⟩; simp only [Act.put, sA, sB, sC, Nat.zero_add, Nat.reduceAdd, e0] at hK ⊢; go_simp; with_reducible refine hK _ _ (RT.refl _ _) (hS.step (Below.refl _ _) 13 _ (by decide) (fun e => absurd e (by decide))) ?_
        exact rfl
       ·as_aux_lemma =>
        intro vs L W hS hL cl hdl hdep K hK
        have h15 : L 15 = false := by
         cases h : L 15 with
         | false => rfl
         | true => exact absurd (cl 15 _ rfl h ⟨14, .data⟩ (by simp) rfl) (by rw [hL]; decide)
        refine ⟨?_⟩; simp only [Act.put, sA, sB, sC, Nat.zero_add, Nat.reduceAdd] at hK ⊢; go_simp; with_reducible refine hK _ _ (RT.below (bA _ _) hS.be.size) (hS.step (bA _ _) 14 _ (by decide) (fun _ => h15)) ?_
        exact ⟨_, rfl, hS.be.size, none, 0, 0, none, 0, 0, Blk.new _ _ _⟩
       ·as_aux_lemma =>
        intro vs L W hS hL cl hdl hdep K hK; have d0 := hdep ⟨14, .data⟩ (by simp) rfl; simp only [PhiVmb] at d0; refine @exE1 _ _ _ d0 ?_; clear d0; intro g0 d0; have e0 := d0.1; have l0 := d0.2.1; have s0 := d0.2.2; clear d0; have d1 := hdep ⟨12, .data⟩ (by simp) rfl; simp only [PhiVmb] at d1; refine @exE6 _ _ _ _ _ _ _ _ d1 ?_; clear d1; intro A1 k1 c1 B1 m1 d1 d1; have e1 := d1.1; have n1 := d1.2; clear d1; obtain ⟨⟨a1, q1⟩, ⟨a2, q2⟩, q3, q4⟩ := s0.facts; refine ⟨?_⟩; simp only [Act.put, sA, sB, sC, Nat.zero_add, Nat.reduceAdd, e0, e1] at hK ⊢; go_simp; with_reducible refine hK undef _ (RT.store s0 l0 _ _ _ _ _ _) (hS.stored e0 e1 l0 s0 (by decide) (by decide) _) ?_
        exact trivial
       ·as_aux_lemma =>
        intro vs L W hS hL cl hdl hdep K hK; have d0 := hdep ⟨13, .data⟩ (by simp) rfl; simp only [PhiVmb] at d0; refine ⟨?_⟩; simp only [Act.put, sA, sB, sC, Nat.zero_add, Nat.reduceAdd, d0] at hK ⊢; go_simp; with_reducible refine hK _ _ (RT.refl _ _) (hS.step (Below.refl _ _) 16 _ (by decide) (fun e => absurd e (by decide))) ?_
        exact rfl
      ·intro vs L w5 hS hall hv; have v16 := hv 16 (by simp); have v8 := hv 12 (by simp); simp only [PhiVmb] at v16 v8; obtain ⟨_, _, _, _, _, _, e8', ho⟩ := v8; obtain ⟨gb, A9b, k9b, c9b, B9b, m9b, d9b, e10, e8, hgN, hblk⟩ := hS.st (hall 15 (by simp)); rw [e8] at e8'; rw [← e8'] at ho; have HOb := Lib.hid ho; have hbx := hS.be; clear hv hS hall e8' ho; simp only [Act.put, sA, sB, sC, Nat.zero_add, Nat.reduceAdd, v16, e10, e8]; have hrb := HOb.out; have G0 := hblk.cell 0; have G1 := hblk.cell 1; simp only [List.getElem?_toArray, List.getElem?_cons_zero, List.getElem?_cons_succ] at G0 G1
       replace F0 := cell_keep hbx F0
       replace F1 := cell_keep hbx F1
       have hra := hra.below hbx; have hbp5 := Below.tr hbp4 hbx; clear HOb hblk hgN hbx c1 c2; obtain ⟨E, hE⟩ : ∃ E, E = ofE x y := ⟨_, rfl⟩; rw [← hE]; clear hE; have tE : (E != E) = false := by simp
       go_wp2_with fail; refine (rsame_P _ _ _ _ hra hrb).mono ?_; rintro e w9 ⟨rfl, hb9⟩; have hbp9 := Below.tr hbp5 hb9; clear hra hrb F0 F1 G0 G1 hb9; go_wp2_with fail
       go_roundg (G2 - 1)
       case measure => omega
       case rel => exact ⟨i + 1, by go_num, by omega, hbp9⟩
    ·have t1 : decide ((i : Int) < 4) = false := by simp; omega
     have hbw := Below.tr hbw hbp; go_wp2_with fail; refine (lives5_n _).mono ?_; rintro e w' ⟨rfl, hb⟩; go_wp2_with fail; go_ret; exact ⟨rfl, Below.tr hbw hb⟩
end Go.Proofs.YtmbfjmilhfmnkaaDoor
