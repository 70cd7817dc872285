import Derived.Test.YtijkfagkbfbpmaaGreatDoorKByProof39
import Derived.Test.YtijkfagkbfbpmaaGreatDoorS0
set_option linter.unusedVariables false
set_option linter.unusedSimpArgs false
namespace Go.Proofs.YtijkfagkbfbpmaaGreatDoor
open Go Go.RowKit
theorem renc_E {w : World} {p : PC} {x : List Nat × List Nat × List Nat} {E : List Nat} (h : BOk w p x) (hE : encE p x = E) (hl : 0 < E.length ∧ E.length ≤ 67108864) : Calls Tryz.prog 41 #[.agg (cellsP p).toArray] w fun e w' => ∃ A c, e = .returned (.slice A E.length c) ∧ By w' A E.length c E ∧ Below w.heap.size w w' := by
 refine (renc_c h).mono ?_; rintro e w' ⟨v, rfl, hv, hb⟩; rw [hE] at hv; obtain ⟨A, c, rfl⟩ := hv.shp; exact ⟨A, c, rfl, hv.by_ (by omega), hb⟩
theorem pdig_D {w : World} {p : PC} {x : List Nat × List Nat × List Nat} {E : List Nat} {D : List Value} (h : BOk w p x) (hK : KcT w 0) (hE : encE p x = E) (hD : dgW (12 :: encB E) = D) : Calls Tryz.prog 42 #[.agg (cellsP p).toArray] w fun e w' => e = .returned (.agg D.toArray) ∧ Below w.heap.size w w' := by
 have := pdig_c h hK; rw [hE, hD] at this; exact this
theorem rdig_D {w : World} {p : PC} {x : List Nat × List Nat × List Nat} {E : List Nat} {D : List Value} (h : BOk w p x) (hK : KcT w 1) (hE : encE p x = E) (hD : dgW (12 :: encB E) = D) : Calls Tryz.prog 43 #[.agg (cellsP p).toArray] w fun e w' => e = .returned (.agg D.toArray) ∧ Below w.heap.size w w' := by
 have := rdig_c h hK; rw [hE, hD] at this; exact this
theorem hof_D (A : Option Addr) (c : Nat) (E : List Nat) (w : World) {D : List Value} (hl : ∀ x ∈ E, x < 256) (hn : E.length ≤ 67108864) (hA : RowS strC w A 1 [txB E]) (hK : KcT w 0) (hD : dgW (12 :: encB E) = D) : Calls Tryz.prog 44 #[.int .i64 12, .slice A 1 c] w fun e w' => e = .returned (.agg D.toArray) ∧ Below w.heap.size w w' := by
 have := hof_n A c E w hl hn hA hK; rw [hD] at this; exact this
theorem psame_S {w : World} {p q : PC} {x y : List Nat × List Nat × List Nat} {sb : Bool} (hp : BOk w p x) (hq : BOk w q y) (h : decide (encE p x = encE q y) = sb) : Calls Tryz.prog 45 #[.agg (cellsP p).toArray, .agg (cellsP q).toArray] w fun e w' => e = .returned (.bool sb) ∧ Below w.heap.size w w' := by
 have := psame_c hp hq; rw [h] at this; exact this
theorem rsame_S {w : World} {p q : PC} {x y : List Nat × List Nat × List Nat} {sb : Bool} (hp : BOk w p x) (hq : BOk w q y) (h : decide (encE p x = encE q y) = sb) : Calls Tryz.prog 46 #[.agg (cellsP p).toArray, .agg (cellsP q).toArray] w fun e w' => e = .returned (.bool sb) ∧ Below w.heap.size w w' := by
 have := rsame_c hp hq; rw [h] at this; exact this
theorem bsame_S (A1 A2 : Option Addr) (c1 c2 : Nat) (E F : List Nat) (w : World) (sb : Bool) (h1 : By w A1 E.length c1 E) (h2 : By w A2 F.length c2 F) (hs : decide (E = F) = sb) : Calls Tryz.prog 40 #[.slice A1 E.length c1, .slice A2 F.length c2] w fun e w' => e = .returned (.bool sb) ∧ Below w.heap.size w w' := by
 refine (bsame_n A1 A2 _ c1 _ c2 E F w h1 h2).mono ?_; rintro e w' ⟨b, rfl, HB, hb⟩; refine ⟨?_, hb⟩; rw [HB.out, ← hs]; rfl
theorem bsame_T (A1 A2 : Option Addr) (c1 c2 : Nat) (E : List Nat) (w : World) (h1 : By w A1 E.length c1 E) (h2 : By w A2 E.length c2 E) : Calls Tryz.prog 40 #[.slice A1 E.length c1, .slice A2 E.length c2] w fun e w' => e = .returned (.bool true) ∧ Below w.heap.size w w' := bsame_S A1 A2 c1 c2 E E w true h1 h2 (decide_eq_true rfl)
def PhiBy9 (Ab : Option Addr) (cb : Nat) (Aw : Option Addr) (cw : Nat) (p : PC) (E : List Nat) (D : List Value) (j : Nat) (w : World) (x : Value) : Prop :=
 match j with
 | 0 => x = .slice Ab E.length cb
 | 1 => x = .agg (cellsP p).toArray
 | 2 => ∃ A c, x = .slice A (E).length c ∧ By w A (E).length c E
 | 3 => x = .bool true
 | 4 => x = .bool false
 | 5 => x = .bool false
 | 6 => x = .slice Ab E.length cb
 | 7 => x = .slice Aw E.length cw
 | 8 => x = .bool true
 | 9 => x = .bool false
 | 10 => x = .bool false
 | 11 => x = .bool false
 | 12 => x = .agg (cellsP p).toArray
 | 13 => x = .agg D.toArray
 | 14 => x = .agg (cellsP p).toArray
 | 15 => x = .agg D.toArray
 | 16 => x = .bool false
 | 17 => x = .bool false
 | 18 => x = .bool false
 | 19 => x = .agg (cellsP p).toArray
 | 20 => x = .agg D.toArray
 | 21 => x = .slice Ab E.length cb
 | 22 => x = .string (txB E)
 | 23 => ∃ g', x = .slice (some ⟨g', 0, none⟩) 1 1 ∧ RowS strC w (some ⟨g', 0, none⟩) 1 [txB E]
 | 24 => x = .agg D.toArray
 | 25 => x = .bool false
 | 26 => x = .bool false
 | _ => True
theorem PhiBy9.keep {Ab : Option Addr} {cb : Nat} {Aw : Option Addr} {cw : Nat} {p : PC} {E : List Nat} {D : List Value} : ∀ (w w' : World), Below w.heap.size w w' → ∀ j x, PhiBy9 Ab cb Aw cw p E D j w x → PhiBy9 Ab cb Aw cw p E D j w' x := by
 intro w w' hb j x h; unfold PhiBy9 at h ⊢
 split <;> simp only at h ⊢
 all_goals first
  | exact h
  | (obtain ⟨A, c, e, h1⟩ := h; exact ⟨A, c, e, h1.below hb⟩)
  | (obtain ⟨g', e, h1⟩ := h; exact ⟨g', e, h1.below hb⟩)
def PhiBy14 (b off i m g : Nat) (k c : Nat) (p q : PC) (sb : Bool) (j : Nat) (w : World) (x : Value) : Prop :=
 match j with
 | 0 => x = .agg (cellsP p).toArray
 | 1 => x = .slice (some ⟨b, off, none⟩) k c
 | 2 => x = .int .i64 (m : Nat)
 | 3 => x = .pointer (some ⟨b, off + m * 24, none⟩)
 | 4 => x = .agg (cellsP q).toArray
 | 5 => x = .bool sb
 | 6 => x = .bool sb
 | _ => True
theorem PhiBy14.keep {b off i m g : Nat} {k c : Nat} {p q : PC} {sb : Bool} : ∀ (w w' : World), Below w.heap.size w w' → ∀ j x, PhiBy14 b off i m g k c p q sb j w x → PhiBy14 b off i m g k c p q sb j w' x := fun _ _ _ _ _ h => h
def PhiBy15 (b off i m g : Nat) (k c : Nat) (p q : PC) (sb : Bool) (Ab : Option Addr) (cb : Nat) (E F : List Nat) (j : Nat) (w : World) (x : Value) : Prop :=
 match j with
 | 0 => x = .bool sb
 | 1 => x = .agg (cellsP p).toArray
 | 2 => x = .slice (some ⟨b, off, none⟩) k c
 | 3 => x = .int .i64 (m : Nat)
 | 4 => x = .pointer (some ⟨b, off + m * 24, none⟩)
 | 5 => x = .agg (cellsP q).toArray
 | 6 => x = .bool sb
 | 7 => x = .bool false
 | 8 => x = .bool false
 | 9 => x = .bool sb
 | 10 => x = .slice Ab E.length cb
 | 11 => x = .slice (some ⟨b, off, none⟩) k c
 | 12 => x = .int .i64 (m : Nat)
 | 13 => x = .pointer (some ⟨b, off + m * 24, none⟩)
 | 14 => x = .agg (cellsP q).toArray
 | 15 => ∃ A c, x = .slice A (F).length c ∧ By w A (F).length c F
 | 16 => x = .bool sb
 | 17 => x = .bool false
 | 18 => x = .bool false
 | _ => True
theorem PhiBy15.keep {b off i m g : Nat} {k c : Nat} {p q : PC} {sb : Bool} {Ab : Option Addr} {cb : Nat} {E F : List Nat} : ∀ (w w' : World), Below w.heap.size w w' → ∀ j x, PhiBy15 b off i m g k c p q sb Ab cb E F j w x → PhiBy15 b off i m g k c p q sb Ab cb E F j w' x := by
 intro w w' hb j x h; unfold PhiBy15 at h ⊢
 split <;> simp only at h ⊢
 all_goals first
  | exact h
  | (obtain ⟨A, c, e, h1⟩ := h; exact ⟨A, c, e, h1.below hb⟩)
  | (obtain ⟨g', e, h1⟩ := h; exact ⟨g', e, h1.below hb⟩)
set_option maxRecDepth 100000 in
set_option maxHeartbeats 16000000 in
theorem promise_bytes_n (A0 : Option Addr) (k0 c0 : Nat) (l0 : List Int) (how by_ : Int) (w : World)
  (h0 : RowL intC w A0 k0 l0) (H0 : Hid (∀ x ∈ l0, -9223372036854775808 ≤ x ∧ x ≤ 9223372036854775807)) (hh : -9223372036854775808 ≤ how ∧ how ≤ 9223372036854775807) (hb : -9223372036854775808 ≤ by_ ∧ by_ ≤ 9223372036854775807) (K0 : KcT w 0) (K1 : KcT w 1) :
  Calls Tryz.prog 8 #[.slice A0 k0 c0, .int .i64 how, .int .i64 by_] w fun e w' => e = .returned (.bool true) ∧ Below w.heap.size w w' := by
 obtain ⟨iD, hiD, hzD, hzD1, hzD2⟩ := info_parts info_dgE
 go_enter Tryz.func8, Tryz.ntmps8
 go_wp2_with fail; refine (list_n A0 k0 c0 l0 how by_ _ h0 H0 hh.1 hh.2 hb.1 hb.2).mono ?_; rintro e wl ⟨Al, kp, c, ps0, bd, pb, pq, rfl, hrow, hkp, HK, hbw⟩; obtain ⟨Lf, Ev, dg, hls, hpl, hev⟩ := list_pls hrow HK.out.1 HK.out.2.1 HK.out.2.2; obtain ⟨xf, hxf⟩ := bls_ex hls; obtain ⟨ps, HPS⟩ : ∃ ps, Hid (ps = ps0 ++ [pb, pq]) := ⟨_, rfl⟩; obtain ⟨k, HK2⟩ : ∃ k, Hid (k = kp + 2) := ⟨_, rfl⟩; rw [← HPS.out, ← HK2.out] at hrow; rw [← HPS.out] at hxf; rw [← HK2.out]; have hkk : k ≤ 8 := by have := HK2.out; omega
 have HRW := Lib.hid hrow; have HX := Lib.hid hxf; have HKL : Hid (k = ps.length) := hrow.2.1; have K0 := K0.below hbw; have K1 := K1.below hbw; clear h0 H0 hh hb hrow HK hls hpl hev hxf HPS; go_wp2_with fail
 go_loopg [8] k (fun mm x wr => ∃ i : Nat, x = .int .i64 i ∧ i + mm = k ∧ Below wl.heap.size wl wr)
 case atStart => exact ⟨0, rfl, by omega, Below.refl _ _⟩
 case round =>
  obtain ⟨G, hG⟩ : ∃ G, G = gk := ⟨gk, rfl⟩; subst hG; obtain ⟨i, rfl, him, hbe⟩ := hrel; by_cases hi : i < k
  ·have u1 : decide ((i : Int) < (k : Int)) = true := by simp; omega
   have li : (i : Int) < (k : Int) := by omega
   have hil : i < ps.length := by have := HKL.out; omega
   obtain ⟨p, HP⟩ : ∃ p, Hid (ps[i] = p ∧ ps[i]? = some p) := ⟨_, rfl, List.getElem?_eq_getElem hil⟩; obtain ⟨wo, hwo⟩ : ∃ x, x = wr := ⟨_, rfl⟩; subst hwo; obtain ⟨b, off, hA, HCP0⟩ := (HRW.out.below hbe).at_ cellsP_len (by omega) hi hil; rw [HP.out.1] at HCP0; subst hA; have hbp := (HX.out.below hbe) i p HP.out.2; obtain ⟨⟨L1, L2, dl⟩, HXI⟩ : ∃ x, Hid (xf i = x) := ⟨_, rfl⟩; rw [HXI.out] at hbp; have HONP : Hid ((cellsP p).toArray.all (·.oneCell') = true) := pp_one hbp.dk hbp.rt; have HBO := Lib.hid hbp; have K0 := K0.below hbe; have K1 := K1.below hbe; clear hbp
   go_upto_region 6 with (first | (refine wpList_load_mid rfl 33 (.tmp 26) rfl b (off + i * 24) rfl (cellsP p) _ (fun j v h => HCP0.out j v h) Tryz.underlying33 rfl infoP ?_; simp only [Act.put, sA, sB, sC]) | (refine wpList_store_mid rfl 33 (.tmp 9) (.tmp 27) rfl wo.heap.size 0 (cellsP p).toArray rfl rfl (there_new _ _ _ 24 (by simp)) infoPs HONP.out ?_; rw [setCells_new]; rotate_left; rfl))
   refine wp_name ?_; intro w5 HW; have hb5 : Below wo.heap.size wo w5 := by rw [HW.out]; exact bA _ _
   have BP : Blk w5 wo.heap.size 33 (cellsP p).toArray := by rw [HW.out]; exact Blk.new _ _ _
   obtain ⟨g, hg⟩ : ∃ g, Hid (g = wo.heap.size) := ⟨_, rfl⟩; rw [← hg.out] at BP ⊢; have hbe := Below.tr hbe hb5; have HBO := Lib.hid (HBO.out.below hb5); have K0 := K0.below hb5; have K1 := K1.below hb5; obtain ⟨E, HE⟩ : ∃ E, Hid (encE p (L1, L2, dl) = E) := ⟨_, rfl⟩
   have HEL : Hid (0 < E.length ∧ E.length ≤ 67108864) := by
    have h := HBO.out.len; rw [HE.out] at h; exact ⟨h.1, by omega⟩
   clear HW hb5 hg HCP0 HONP; simp only [Act.put]
   go_upto_region 7 with (first | (refine wpList_load_mid rfl 33 (.tmp 9) rfl g 0 rfl (cellsP p) _ (blk_range BP) Tryz.underlying33 rfl infoP ?_; simp only [Act.put, sA, sB, sC]))
   refine (penc_c HBO.out).mono ?_; rintro e w1 ⟨vb, rfl, hvb, hb6⟩; rw [HE.out] at hvb; have HEB : Hid (∀ x ∈ E, x < 256) := hvb.2; obtain ⟨Ab, cb, rfl⟩ := hvb.shp; have HBB : Hid (By w1 Ab E.length cb E) := hvb.by_ (by have := HEL.out; omega); have hbe := Below.tr hbe hb6; have HBO := Lib.hid (HBO.out.below hb6); have BP := Blk.below BP hb6 BP.lt; have K0 := K0.below hb6; have K1 := K1.below hb6; clear hvb hb6; obtain ⟨d, hd1, hd2⟩ := HBO.out.dg; obtain ⟨t, Ht⟩ : ∃ t, Hid (t = btl p.test) := ⟨_, rfl⟩; obtain ⟨h, Hh⟩ : ∃ t, Hid (t = btl p.wh) := ⟨_, rfl⟩; have HI := Lib.hid HBO.out.iv; have HST : Hid (∀ x ∈ [t, h], x.length ≤ 100000 ∧ ∀ y ∈ x, y < 256) := by rw [Ht.out, Hh.out]; exact HBO.out.hst
   have HRT : Hid (RtP w1 (.agg #[p.b1, p.b2]) (L1, L2)) := HBO.out.rt; have HL : Hid (L1.length ≤ 1048576 ∧ L2.length ≤ 1048576) := by have h1 : L1.length ≤ 69 := HBO.out.l1; have h2 : L2.length ≤ 69 := HBO.out.l2; exact ⟨by omega, by omega⟩
   have HDL : Hid (cellsDG d = dl.flatMap u8C ∧ dl.length = 16 ∧ ∀ x ∈ dl, x < 256) := ⟨hd2, HBO.out.dn, HBO.out.db⟩; have hlens : (Wi.encIs [p.team, p.site, p.fr, p.un]).length ≤ 100 ∧ (encSs [btl p.test, btl p.wh]).length ≤ 1000 ∧ (Wi.encIs (castI L1) ++ Wi.encIs (castI L2)).length ≤ 10000 ∧ (Wi.encI 1 ++ dl).length ≤ 100 := HBO.out.lens; rw [← Ht.out, ← Hh.out] at hlens; have HLI : Hid ((Wi.encIs [p.team, p.site, p.fr, p.un]).length ≤ 100) := hlens.1; have HLS : Hid ((encSs [t, h]).length ≤ 1000000) := by have := hlens.2.1; show _ ≤ _; omega
   have HLR : Hid ((Wi.encIs (castI L1) ++ Wi.encIs (castI L2)).length ≤ 100000000) := by have := hlens.2.2.1; show _ ≤ _; omega
   have HLD : Hid ((Wi.encI 1 ++ dl).length ≤ 100) := hlens.2.2.2; have c0 : w1.cell? ⟨g, 0, none⟩ = some (.int .i64 p.team) := by rw [BP.cell]; rfl
   have c1 : w1.cell? ⟨g, 1, none⟩ = some (.string (txB t)) := by rw [BP.cell, Ht.out, txB_btl]; rfl
   have c2 : w1.cell? ⟨g, 2, none⟩ = some (.string (txB h)) := by rw [BP.cell, Hh.out, txB_btl]; rfl
   have c3 : w1.cell? ⟨g, 3, none⟩ = some (.int .i64 p.site) := by rw [BP.cell]; rfl
   have c4 : w1.cell? ⟨g, 4, none⟩ = some p.b1 := by rw [BP.cell]; rfl
   have c5 : w1.cell? ⟨g, 5, none⟩ = some p.b2 := by rw [BP.cell]; rfl
   have c6 : w1.cell? ⟨g, 6, none⟩ = some (.int .i64 p.fr) := by rw [BP.cell]; rfl
   have c7 : w1.cell? ⟨g, 7, none⟩ = some (.int .i64 p.un) := by rw [BP.cell]; rfl
   have HDG : Hid (∀ j v, (cellsDG d)[j]? = some v → w1.cell? ⟨g, 8 + j, none⟩ = some v) := by
    rw [← hd1]; exact digR BP
   have HEL2 : Hid (encL p t h dl L1 L2 = E) := by rw [Ht.out, Hh.out]; exact HE.out
   clear hlens hd1 hd2 Ht Hh
   (try go_upto_region 7 with fail)
   refine region_chain [16, 17] [.early, .early, .early, .early, .early, .early, .early, .early, .early, .early, .early, .early, .early, .early, .early, .early, .chain 0, .chain 1] [] [] (PhiEr1 w1.heap.size g p t h) (fun w w' => Below w.heap.size w w') (SEr1 w1 p t h) (by kernel_rfl) (by kernel_rfl) (by kernel_rfl) (by kernel_rfl) (sK (fun _ _ _ _ _ h => h) (sK (fun _ _ _ _ _ h => h) (sK (fun _ _ _ _ _ h => h) (sK (fun _ _ _ _ _ h => h) (sK (fun _ _ _ _ _ h => h) (sK (fun _ _ _ _ _ h => h) (sK (fun _ _ _ _ _ h => h) (sK (fun _ _ _ _ _ h => h) (sK (fun _ _ _ _ _ h => h) (sK (fun _ _ _ _ _ h => h) (sK (fun _ _ _ _ _ h => h) (sK (fun _ _ _ _ _ h => h) (sK (fun _ _ _ _ _ h => h) (sK (fun _ _ _ _ _ h => h) (sK (fun _ _ _ _ _ h => h) (sK (fun _ _ _ _ _ h => h) (sK (fun _ _ _ _ _ h => h) (sK (fun _ _ _ _ _ h => h) (sZ))))))))))))))))))) PhiEr1.keepR PhiEr1.keepF (fun _ _ _ _ hR hS => Below.tr hS hR) (by rintro (_ | ⟨_, _ | ⟨_, _ | _⟩⟩) vs vs' w _ h <;> exact h) (fun _ => bD _) (fun vs => by simp only [fillR, Act.put, sA, sB, sC, Nat.zero_add, Nat.reduceAdd]; rfl) ?_ ?_
   ·refine sK ?_ (sK ?_ (sK ?_ (sK ?_ (sK ?_ (sK ?_ (sK ?_ (sK ?_ (sK ?_ (sK ?_ (sK ?_ (sK ?_ (sK ?_ (sK ?_ (sK ?_ (sK ?_ (sK ?_ (sK ?_ (sZ))))))))))))))))))
    ·as_aux_lemma =>
     intro vs W hS hu hdep K hK; have HU := Lib.hid hu; clear hu; refine ⟨?_⟩; simp only [Act.put, sA, sB, sC, Nat.zero_add, Nat.reduceAdd] at hK ⊢; go_simp; with_reducible refine hK _ _ (Below.refl _ _) ?_
     exact rfl
    ·as_aux_lemma =>
     intro vs W hS hu hdep K hK; have HU := Lib.hid hu; clear hu; have d0 := hdep ⟨0, .data⟩ (by simp) rfl; simp only [PhiEr1] at d0; have f1 := cell_keep hS c0; refine ⟨?_⟩; simp only [Act.put, sA, sB, sC, Nat.zero_add, Nat.reduceAdd, d0] at hK ⊢; go_simp; with_reducible refine hK _ _ (Below.refl _ _) ?_
     exact rfl
    ·as_aux_lemma =>
     intro vs W hS hu hdep K hK; have HU := Lib.hid hu; clear hu; refine ⟨?_⟩; simp only [Act.put, sA, sB, sC, Nat.zero_add, Nat.reduceAdd] at hK ⊢; go_simp; with_reducible refine hK _ _ (Below.refl _ _) ?_
     exact rfl
    ·as_aux_lemma =>
     intro vs W hS hu hdep K hK; have HU := Lib.hid hu; clear hu; have d0 := hdep ⟨2, .data⟩ (by simp) rfl; simp only [PhiEr1] at d0; have f1 := cell_keep hS c3; refine ⟨?_⟩; simp only [Act.put, sA, sB, sC, Nat.zero_add, Nat.reduceAdd, d0] at hK ⊢; go_simp; with_reducible refine hK _ _ (Below.refl _ _) ?_
     exact rfl
    ·as_aux_lemma =>
     intro vs W hS hu hdep K hK; have HU := Lib.hid hu; clear hu; refine ⟨?_⟩; simp only [Act.put, sA, sB, sC, Nat.zero_add, Nat.reduceAdd] at hK ⊢; go_simp; with_reducible refine hK _ _ (Below.refl _ _) ?_
     exact rfl
    ·as_aux_lemma =>
     intro vs W hS hu hdep K hK; have HU := Lib.hid hu; clear hu; have d0 := hdep ⟨4, .data⟩ (by simp) rfl; simp only [PhiEr1] at d0; have f1 := cell_keep hS c6; refine ⟨?_⟩; simp only [Act.put, sA, sB, sC, Nat.zero_add, Nat.reduceAdd, d0] at hK ⊢; go_simp; with_reducible refine hK _ _ (Below.refl _ _) ?_
     exact rfl
    ·as_aux_lemma =>
     intro vs W hS hu hdep K hK; have HU := Lib.hid hu; clear hu; refine ⟨?_⟩; simp only [Act.put, sA, sB, sC, Nat.zero_add, Nat.reduceAdd] at hK ⊢; go_simp; with_reducible refine hK _ _ (Below.refl _ _) ?_
     exact rfl
    ·as_aux_lemma =>
     intro vs W hS hu hdep K hK; have HU := Lib.hid hu; clear hu; have d0 := hdep ⟨6, .data⟩ (by simp) rfl; simp only [PhiEr1] at d0; have f1 := cell_keep hS c7; refine ⟨?_⟩; simp only [Act.put, sA, sB, sC, Nat.zero_add, Nat.reduceAdd, d0] at hK ⊢; go_simp; with_reducible refine hK _ _ (Below.refl _ _) ?_
     exact rfl
    ·as_aux_lemma =>
     intro vs W hS hu hdep K hK; have HU := Lib.hid hu; clear hu; have d0 := hdep ⟨1, .data⟩ (by simp) rfl; simp only [PhiEr1] at d0; have d1 := hdep ⟨3, .data⟩ (by simp) rfl; simp only [PhiEr1] at d1; have d2 := hdep ⟨5, .data⟩ (by simp) rfl; simp only [PhiEr1] at d2; have d3 := hdep ⟨7, .data⟩ (by simp) rfl; simp only [PhiEr1] at d3; refine ⟨?_⟩; simp only [Act.put, sA, sB, sC, Nat.zero_add, Nat.reduceAdd, d0, d1, d2, d3] at hK ⊢; go_simp; with_reducible refine hK _ _ (bA _ _) ?_
     exact ⟨_, rfl, ⟨Rd.fresh W 3 _, rfl, by omega⟩⟩
    ·as_aux_lemma =>
     intro vs W hS hu hdep K hK; have HU := Lib.hid hu; clear hu; have d0 := hdep ⟨8, .data⟩ (by simp) rfl; simp only [PhiEr1] at d0; refine @exE1 _ _ _ d0 ?_; clear d0; intro g0 d0; have e0 := d0.1; have n0 := d0.2; clear d0; refine ⟨?_⟩; simp only [Act.put, sA, sB, sC, Nat.zero_add, Nat.reduceAdd, e0] at hK ⊢; go_simp; refine (wints_n _ 4 4 _ _ n0 HI.out (by omega)).mono ?_; rintro e w' ⟨v, rfl, hv, hb⟩; go_wp2_with fail; with_reducible refine hK _ _ hb ?_
     exact hv.mono hS.size
    ·as_aux_lemma =>
     intro vs W hS hu hdep K hK; have HU := Lib.hid hu; clear hu; refine ⟨?_⟩; simp only [Act.put, sA, sB, sC, Nat.zero_add, Nat.reduceAdd] at hK ⊢; go_simp; with_reducible refine hK _ _ (Below.refl _ _) ?_
     exact rfl
    ·as_aux_lemma =>
     intro vs W hS hu hdep K hK; have HU := Lib.hid hu; clear hu; have d0 := hdep ⟨10, .data⟩ (by simp) rfl; simp only [PhiEr1] at d0; have f1 := cell_keep hS c1; refine ⟨?_⟩; simp only [Act.put, sA, sB, sC, Nat.zero_add, Nat.reduceAdd, d0] at hK ⊢; go_simp; with_reducible refine hK _ _ (Below.refl _ _) ?_
     exact rfl
    ·as_aux_lemma =>
     intro vs W hS hu hdep K hK; have HU := Lib.hid hu; clear hu; refine ⟨?_⟩; simp only [Act.put, sA, sB, sC, Nat.zero_add, Nat.reduceAdd] at hK ⊢; go_simp; with_reducible refine hK _ _ (Below.refl _ _) ?_
     exact rfl
    ·as_aux_lemma =>
     intro vs W hS hu hdep K hK; have HU := Lib.hid hu; clear hu; have d0 := hdep ⟨12, .data⟩ (by simp) rfl; simp only [PhiEr1] at d0; have f1 := cell_keep hS c2; refine ⟨?_⟩; simp only [Act.put, sA, sB, sC, Nat.zero_add, Nat.reduceAdd, d0] at hK ⊢; go_simp; with_reducible refine hK _ _ (Below.refl _ _) ?_
     exact rfl
    ·as_aux_lemma =>
     intro vs W hS hu hdep K hK; have HU := Lib.hid hu; clear hu; have d0 := hdep ⟨11, .data⟩ (by simp) rfl; simp only [PhiEr1] at d0; have d1 := hdep ⟨13, .data⟩ (by simp) rfl; simp only [PhiEr1] at d1; refine ⟨?_⟩; simp only [Act.put, sA, sB, sC, Nat.zero_add, Nat.reduceAdd, d0, d1] at hK ⊢; go_simp; with_reducible refine hK _ _ (bA _ _) ?_
     exact ⟨_, rfl, ⟨Rd.fresh W 9 _, rfl, by omega⟩⟩
    ·as_aux_lemma =>
     intro vs W hS hu hdep K hK; have HU := Lib.hid hu; clear hu; have d0 := hdep ⟨14, .data⟩ (by simp) rfl; simp only [PhiEr1] at d0; refine @exE1 _ _ _ d0 ?_; clear d0; intro g0 d0; have e0 := d0.1; have n0 := d0.2; clear d0; refine ⟨?_⟩; simp only [Act.put, sA, sB, sC, Nat.zero_add, Nat.reduceAdd, e0] at hK ⊢; go_simp; refine (wstrings_n _ 2 2 [t, h] _ n0 HST.out (by omega)).mono ?_; rintro e w' ⟨v, rfl, hv, hb⟩; go_wp2_with fail; with_reducible refine hK _ _ hb ?_
     exact hv.mono hS.size
    ·as_aux_lemma =>
     intro vs W hS hdep K hK; have d0 := hdep ⟨9, .data⟩ (by simp) rfl (by rfl); simp only [PhiEr1] at d0; have d1 := hdep ⟨15, .data⟩ (by simp) rfl (by rfl); simp only [PhiEr1] at d1; have hS1 : Below w1.heap.size w1 W := hS; clear hS; have hsz := hS1.size; obtain ⟨A3, c3, e3⟩ := d0.shp; obtain ⟨A4, c4, e4⟩ := d1.shp; rw [e3] at d0; rw [e4] at d1; have hby := d1.by_ (Nat.le_trans HLS.out (by omega)); have hl30 : (Wi.encIs [p.team, p.site, p.fr, p.un]).length + (encSs [t, h]).length ≤ 1073741824 := by have h1 := HLI.out; have h2 := HLS.out; omega
     refine ⟨?_⟩; simp only [Act.put, sA, sB, sC, Nat.zero_add, Nat.reduceAdd, e3, e4] at hK ⊢; rw [if_pos (by rfl)]; refine wp_appB (.tmp 39) (.tmp 45) rfl w1.heap.size (.slice A3 (Wi.encIs [p.team, p.site, p.fr, p.un]).length c3) (Wi.encIs [p.team, p.site, p.fr, p.un]) rfl d0 A4 (encSs [t, h]).length c4 (encSs [t, h]) rfl hby hl30 hsz ?_; intro v7 w7 hown7 hg7 _; have hbz := hS1.grown hg7 hsz (fun q hq => d0.ge q hq); simp only [Act.put, sA, sB, sC]; with_reducible refine hK _ _ ?_
     exact ⟨hown7, hbz⟩
    ·as_aux_lemma =>
     intro vs W hS hdep K hK; have hS1 : SEr1 w1 p t h [vs 16] vs W := hS; obtain ⟨hown7, hbz⟩ := hS1; refine ⟨?_⟩; simp only [Act.put, sA, sB, sC, Nat.zero_add, Nat.reduceAdd] at hK ⊢; go_simp; with_reducible refine hK _ _ ?_
     exact ⟨rfl, hown7, hbz⟩
   ·intro vs w2 hS _; have hS2 : SEr1 w1 p t h [vs 16, vs 17] vs w2 := hS; obtain ⟨e17, hown, hb2⟩ := hS2; obtain ⟨v0, HV0⟩ : ∃ v, v = vs 16 := ⟨_, rfl⟩; simp only [Act.put, sA, sB, sC, Nat.zero_add, Nat.reduceAdd, e17]; rw [← HV0] at hown ⊢; have hlt : ∀ k, v0.ownBlock = some k → k < w2.heap.size := fun k hk => ownsRow_lt hown.1 k hk
    obtain ⟨EIS, HEI⟩ : ∃ x, Hid (x = Wi.encIs [p.team, p.site, p.fr, p.un] ++ encSs [t, h]) := ⟨_, rfl⟩; obtain ⟨ERX, HER⟩ : ∃ x, Hid (x = Wi.encIs (castI L1) ++ Wi.encIs (castI L2)) := ⟨_, rfl⟩; obtain ⟨EDX, HED⟩ : ∃ x, Hid (x = Wi.encI 1 ++ dl) := ⟨_, rfl⟩
    have HLX : Hid (EIS.length ≤ 1000100 ∧ ERX.length ≤ 100000000 ∧ EDX.length ≤ 100) := by
     have h1 := HLI.out; have h2 := HLS.out; have h3 := HLR.out; have h4 := HLD.out; rw [HEI.out, HER.out, HED.out]; refine ⟨?_, h3, h4⟩; rw [List.length_append]; omega
    have hENC : Hid (E = EIS ++ ERX ++ EDX) := by
     rw [HEI.out, HER.out, HED.out, ← HEL2.out]
     show encL p t h dl L1 L2 = _
     unfold encL; simp only [List.append_assoc]
    rw [← HEI.out] at hown; clear hS e17 HV0 c0 c1 c2 c3 c6 c7 HLI HLS HLR HLD; go_upto_region 8 with fail; refine region_invW (PhiEr2 v0 g p d) (fun _ _ => True) (SEe w1 w2.heap.size v0 v0 EIS ERX EDX d) (by kernel_rfl) (by kernel_rfl) (by kernel_rfl) PhiEr2.keep ⟨Below.tr hb2 (bD _), (bD _).size, fun _ => hown.below (bD _), fun a => (by cases a), fun a => (by cases a), fun a => (by cases a), fun a => (by cases a), fun a => (by cases a), fun a => (by cases a), fun _ => rfl⟩ (fun vs => by simp only [fillR, Act.put, sA, sB, sC, Nat.zero_add, Nat.reduceAdd]; rfl) ?_ ?_
    ·refine sK ?_ (sK ?_ (sK ?_ (sK ?_ (sK ?_ (sK ?_ (sK ?_ (sK ?_ (sK ?_ (sK ?_ (sK ?_ (sZ)))))))))))
     ·as_aux_lemma =>
      intro vs L W hS hL cl hdl hdep K hK
      have n10 : L 10 = false := by
       cases h : L 10 with
       | false => rfl
       | true => exact absurd (cl 4 _ rfl (cl 9 _ rfl (cl 10 _ rfl h ⟨9, .data⟩ (by simp) rfl) ⟨4, .data⟩ (by simp) rfl) ⟨0, .data⟩ (by simp) rfl) (by rw [hL]; decide)
      have ez := hS.z n10; refine ⟨?_⟩; simp only [Act.put, sA, sB, sC, Nat.zero_add, Nat.reduceAdd, ez] at hK ⊢; go_simp; with_reducible refine hK _ _ trivial (hS.any (Below.refl _ _) 0 _ (fun e => absurd e (by decide)) (fun e => absurd e (by decide)) (fun e => absurd e (by decide)) (fun e => absurd e (by decide)) (by decide) (by decide)) ?_
      exact rfl
     ·as_aux_lemma =>
      intro vs L W hS hL cl hdl hdep K hK; refine ⟨?_⟩; simp only [Act.put, sA, sB, sC, Nat.zero_add, Nat.reduceAdd] at hK ⊢; go_simp; with_reducible refine hK _ _ trivial (hS.any (Below.refl _ _) 1 _ (fun e => absurd e (by decide)) (fun e => absurd e (by decide)) (fun e => absurd e (by decide)) (fun e => absurd e (by decide)) (by decide) (by decide)) ?_
      exact rfl
     ·as_aux_lemma =>
      intro vs L W hS hL cl hdl hdep K hK; have d0 := hdep ⟨1, .data⟩ (by simp) rfl; simp only [PhiEr2] at d0; have f1 := cell_keep hS.be c4; have f2 := cell_keep hS.be c5; refine ⟨?_⟩; simp only [Act.put, sA, sB, sC, Nat.zero_add, Nat.reduceAdd, d0] at hK ⊢; go_simp; with_reducible refine hK _ _ trivial (hS.any (Below.refl _ _) 2 _ (fun e => absurd e (by decide)) (fun e => absurd e (by decide)) (fun e => absurd e (by decide)) (fun e => absurd e (by decide)) (by decide) (by decide)) ?_
      exact rfl
     ·as_aux_lemma =>
      intro vs L W hS hL cl hdl hdep K hK; have d0 := hdep ⟨2, .data⟩ (by simp) rfl; simp only [PhiEr2] at d0; refine ⟨?_⟩; simp only [Act.put, sA, sB, sC, Nat.zero_add, Nat.reduceAdd, d0] at hK ⊢; go_simp; refine (encode_n _ (L1, L2) _ (HRT.out.below hS.be) HL.out.1 HL.out.2).mono ?_; rintro e w' ⟨v, rfl, hv, hb⟩; go_wp2_with fail; with_reducible refine hK _ _ trivial (hS.any hb 3 _ (fun _ => (by have hq := hv.mono hS.sz; show OwnB _ _ _ ERX; rw [HER.out]; exact hq)) (fun e => absurd e (by decide)) (fun e => absurd e (by decide)) (fun e => absurd e (by decide)) (by decide) (by decide)) ?_
      trivial
     ·as_aux_lemma =>
      intro vs L W hS hL cl hdl hdep K hK; have d0 := hdep ⟨0, .data⟩ (by simp) rfl; simp only [PhiEr2] at d0; have ho := hS.o0 hL; have h3 := hS.r3 (hdl ⟨3, .data⟩ (by simp) rfl) hL
      have n8 : L 8 = false := by
       cases h : L 8 with
       | false => rfl
       | true => exact absurd (cl 8 _ rfl h ⟨4, .chain⟩ (by simp) rfl) (by rw [hL]; decide)
      have n9 : L 9 = false := by
       cases h : L 9 with
       | false => rfl
       | true => exact absurd (cl 9 _ rfl h ⟨4, .data⟩ (by simp) rfl) (by rw [hL]; decide)
      have n10 : L 10 = false := by
       cases h : L 10 with
       | false => rfl
       | true => exact absurd (cl 9 _ rfl (cl 10 _ rfl h ⟨9, .data⟩ (by simp) rfl) ⟨4, .data⟩ (by simp) rfl) (by rw [hL]; decide)
      obtain ⟨A3, c3, e3⟩ := h3.shp; rw [e3] at h3; have hby := h3.by_ (Nat.le_trans (HLX.out.2.1) (by omega)); have hl30 : ((EIS) : List Nat).length + ((ERX) : List Nat).length ≤ 1073741824 := by have h1 := HLX.out; omega
      have hsz := hS.be.size; refine ⟨?_⟩; simp only [Act.put, sA, sB, sC, Nat.zero_add, Nat.reduceAdd, e3, d0] at hK ⊢; rw [if_pos (by rfl)]; refine wp_appB (.tmp 47) (.tmp 50) rfl w1.heap.size v0 (EIS) rfl ho A3 (ERX).length c3 (ERX) rfl hby hl30 hsz ?_; intro v7 w7 hown7 hg7 _; have hbz := hS.be.grown hg7 hsz (fun q hq => ho.ge q hq)
      (try simp only [Act.put, sA, sB, sC])
      with_reducible refine hK _ _ trivial (hS.app4 hL n8 n9 n10 hown7 hg7 hbz hlt) ?_
      trivial
     ·as_aux_lemma =>
      intro vs L W hS hL cl hdl hdep K hK; refine ⟨?_⟩; simp only [Act.put, sA, sB, sC, Nat.zero_add, Nat.reduceAdd] at hK ⊢; go_simp; with_reducible refine hK _ _ trivial (hS.any (Below.refl _ _) 5 _ (fun e => absurd e (by decide)) (fun e => absurd e (by decide)) (fun e => absurd e (by decide)) (fun e => absurd e (by decide)) (by decide) (by decide)) ?_
      exact rfl
     ·as_aux_lemma =>
      intro vs L W hS hL cl hdl hdep K hK; have d0 := hdep ⟨5, .data⟩ (by simp) rfl; simp only [PhiEr2] at d0; refine ⟨?_⟩; simp only [Act.put, sA, sB, sC, Nat.zero_add, Nat.reduceAdd, d0] at hK ⊢; rw [if_pos (by rfl)]; refine wp_load_mid 31 (.tmp 52) (by rfl) g (8) (by rfl) (cellsDG d) _ (fun j v h => cell_keep hS.be (HDG.out j v h)) Tryz.underlying31 (by rfl) infoDG ?_; simp only [Act.put, sA, sB, sC]; with_reducible refine hK _ _ trivial (hS.any (Below.refl _ _) 6 _ (fun e => absurd e (by decide)) (fun e => absurd e (by decide)) (fun e => absurd e (by decide)) (fun e => absurd e (by decide)) (by decide) (by decide)) ?_
      exact rfl
     ·as_aux_lemma =>
      intro vs L W hS hL cl hdl hdep K hK; have d0 := hdep ⟨6, .data⟩ (by simp) rfl; simp only [PhiEr2] at d0; refine ⟨?_⟩; simp only [Act.put, sA, sB, sC, Nat.zero_add, Nat.reduceAdd, d0] at hK ⊢; rw [if_pos (by rfl)]; refine wp_sliceN 64 31 1 [(0, .tmp 53)] rfl (cellsDG d).toArray iD (.agg (cellsDG zeroDG).toArray) 16 [(0, .agg (cellsDG d).toArray)] Tryz.underlying64 hiD hzD hzD1 (by omega) (by omega) rfl (fill_dg1 d) ?_
      (try simp only [Act.put, sA, sB, sC])
      with_reducible refine hK _ _ trivial (hS.any (bA _ _) 7 _ (fun e => absurd e (by decide)) (fun _ => ⟨_, rfl, hS.sz, Blk.new _ _ _⟩) (fun e => absurd e (by decide)) (fun e => absurd e (by decide)) (by decide) (by decide)) ?_
      trivial
     ·as_aux_lemma =>
      intro vs L W hS hL cl hdl hdep K hK; obtain ⟨g7, e7, hg7, hB7⟩ := hS.r7 (hdl ⟨7, .data⟩ (by simp) rfl) hL; refine ⟨?_⟩; simp only [Act.put, sA, sB, sC, Nat.zero_add, Nat.reduceAdd, e7] at hK ⊢; go_simp; have hR7 : RowS cellsDG W (some ⟨g7, 0, none⟩) 1 [d] := row_dg1 hB7; refine (wdig_n _ 1 d dl _ hR7 HDL.out.1 HDL.out.2.1 HDL.out.2.2).mono ?_; rintro e w' ⟨v, rfl, hv, hb⟩; go_wp2_with fail; with_reducible refine hK _ _ trivial (hS.any hb 8 _ (fun e => absurd e (by decide)) (fun e => absurd e (by decide)) (fun _ => (by have hq := hv.mono hS.sz; show OwnB _ _ _ EDX; rw [HED.out]; exact hq)) (fun e => absurd e (by decide)) (by decide) (by decide)) ?_
      trivial
     ·as_aux_lemma =>
      intro vs L W hS hL cl hdl hdep K hK; have hl4 := hdl ⟨4, .data⟩ (by simp) rfl; have hl8 := hdl ⟨8, .data⟩ (by simp) rfl; have ho := hS.r4 hl4 hL; have h3 := hS.r8 hl8 hL
      have n10 : L 10 = false := by
       cases h : L 10 with
       | false => rfl
       | true => exact absurd (cl 10 _ rfl h ⟨9, .data⟩ (by simp) rfl) (by rw [hL]; decide)
      obtain ⟨A3, c3, e3⟩ := h3.shp; rw [e3] at h3; have hby := h3.by_ (Nat.le_trans (HLX.out.2.2) (by omega)); have hl30 : ((EIS ++ ERX) : List Nat).length + ((EDX) : List Nat).length ≤ 1073741824 := by have h1 := HLX.out; rw [List.length_append]; omega
      have hsz := hS.be.size; refine ⟨?_⟩; simp only [Act.put, sA, sB, sC, Nat.zero_add, Nat.reduceAdd, e3] at hK ⊢; rw [if_pos (by rfl)]; refine wp_appB (.tmp 51) (.tmp 55) rfl w1.heap.size (vs 4) (EIS ++ ERX) rfl ho A3 (EDX).length c3 (EDX) rfl hby hl30 hsz ?_; intro v7 w7 hown7 hg7 _; have hbz := hS.be.grown hg7 hsz (fun q hq => ho.ge q hq)
      (try simp only [Act.put, sA, sB, sC])
      with_reducible refine hK _ _ trivial (hS.app9 hl4 hl8 n10 hown7 hg7 hbz) ?_
      trivial
     ·as_aux_lemma =>
      intro vs L W hS hL cl hdl hdep K hK; have h9 := hS.r9 (hdl ⟨9, .data⟩ (by simp) rfl); refine ⟨?_⟩; simp only [Act.put, sA, sB, sC, Nat.zero_add, Nat.reduceAdd] at hK ⊢; go_simp; with_reducible refine hK _ _ trivial (hS.any (Below.refl _ _) 10 _ (fun e => absurd e (by decide)) (fun e => absurd e (by decide)) (fun e => absurd e (by decide)) (fun _ => h9) (by decide) (by decide)) ?_
      trivial
    ·intro vs L w3 hS hall hv; have h10 := hS.r10 (hall 10 (by simp)); have hb3 := hS.be; rw [← hENC.out] at h10; obtain ⟨Aw, cw, e10⟩ := h10.shp; rw [e10] at h10; have HBW : Hid (By w3 Aw E.length cw E) := h10.by_ (by have := HEL.out; omega); simp only [Act.put, sA, sB, sC, Nat.zero_add, Nat.reduceAdd, e10]; have HBB := Lib.hid (HBB.out.below hb3); have HBO := Lib.hid (HBO.out.below hb3); have BP := Blk.below BP hb3 BP.lt; have K0 := K0.below hb3; have K1 := K1.below hb3; have hbe := Below.tr hbe hb3; have HBP : Hid (∀ j v, (cellsP p)[j]? = some v → w3.cell? ⟨g, 0 + j, none⟩ = some v) := blk_range BP; obtain ⟨D, HD⟩ : ∃ D, Hid (dgW (12 :: encB E) = D) := ⟨_, rfl⟩; have hneqD : ∀ w, (binOp .neq 31 (.agg D.toArray) (.agg D.toArray)).run Tryz.prog w = .ok (.bool false) w := fun w => by rw [← HD.out]; exact dgW_same _ w
     clear hS hv hall h10 e10 hb3 c4 c5 HDG HRT HL HDL HI HST HEL2 hENC HEI HER HED HLX hown hb2 hlt; go_upto_region 9 with fail; refine region_invF (PhiBy9 Ab cb Aw cw p E D) (fun w w' => Below w.heap.size w w') (fun X => Below w3.heap.size w3 X) (by kernel_rfl) (by kernel_rfl) (by kernel_rfl) PhiBy9.keep (fun _ _ hR hS => Below.tr hS hR) (bD _) (fun vs => by simp only [fillR, Act.put, sA, sB, sC, Nat.zero_add, Nat.reduceAdd]; rfl) ?_ ?_
     ·refine sK ?_ (sK ?_ (sK ?_ (sK ?_ (sK ?_ (sK ?_ (sK ?_ (sK ?_ (sK ?_ (sK ?_ (sK ?_ (sK ?_ (sK ?_ (sK ?_ (sK ?_ (sK ?_ (sK ?_ (sK ?_ (sK ?_ (sK ?_ (sK ?_ (sK ?_ (sK ?_ (sK ?_ (sK ?_ (sK ?_ (sK ?_ (sZ)))))))))))))))))))))))))))
      ·as_aux_lemma =>
       intro vs W hS hdep K hK; refine ⟨?_⟩; simp only [Act.put, sA, sB, sC, Nat.zero_add, Nat.reduceAdd] at hK ⊢; go_simp; with_reducible refine hK _ _ (Below.refl _ _) ?_
       exact rfl
      ·as_aux_lemma =>
       intro vs W hS hdep K hK; refine ⟨?_⟩; simp only [Act.put, sA, sB, sC, Nat.zero_add, Nat.reduceAdd] at hK ⊢; rw [if_pos (by rfl)]; refine wp_load_mid 33 (.tmp 9) (by rfl) g (0) (by rfl) (cellsP p) _ (fun j v h => cell_keep hS (HBP.out j v h)) Tryz.underlying33 (by rfl) infoP ?_; simp only [Act.put, sA, sB, sC]; with_reducible refine hK _ _ (Below.refl _ _) ?_
       exact rfl
      ·as_aux_lemma =>
       intro vs W hS hdep K hK; have d0 := hdep ⟨1, .data⟩ (by simp) rfl; simp only [PhiBy9] at d0; refine ⟨?_⟩; simp only [Act.put, sA, sB, sC, Nat.zero_add, Nat.reduceAdd, d0] at hK ⊢; go_simp; refine (renc_E (HBO.out.below hS) HE.out HEL.out).mono ?_; rintro e w' ⟨A, c, rfl, hv, hb⟩; go_wp2_with fail; with_reducible refine hK _ _ hb ?_
       exact ⟨A, c, rfl, hv⟩
      ·as_aux_lemma =>
       intro vs W hS hdep K hK; have d0 := hdep ⟨0, .data⟩ (by simp) rfl; simp only [PhiBy9] at d0; have d1 := hdep ⟨2, .data⟩ (by simp) rfl; simp only [PhiBy9] at d1; refine @exE2 _ _ _ _ d1 ?_; clear d1; intro A1 c1 d1; have e1 := d1.1; have n1 := d1.2; clear d1; refine ⟨?_⟩; simp only [Act.put, sA, sB, sC, Nat.zero_add, Nat.reduceAdd, d0, e1] at hK ⊢; go_simp; refine (bsame_T _ _ _ _ E _ (HBB.out.below hS) n1).mono ?_; rintro e w' ⟨rfl, hb⟩; go_wp2_with fail; with_reducible refine hK _ _ hb ?_
       exact rfl
      ·as_aux_lemma =>
       intro vs W hS hdep K hK; have d0 := hdep ⟨3, .data⟩ (by simp) rfl; simp only [PhiBy9] at d0; refine ⟨?_⟩; simp only [Act.put, sA, sB, sC, Nat.zero_add, Nat.reduceAdd, d0] at hK ⊢; go_simp; with_reducible refine hK _ _ (Below.refl _ _) ?_
       exact rfl
      ·as_aux_lemma =>
       intro vs W hS hdep K hK; have d0 := hdep ⟨4, .data⟩ (by simp) rfl; simp only [PhiBy9] at d0; refine ⟨?_⟩; simp only [Act.put, sA, sB, sC, Nat.zero_add, Nat.reduceAdd, d0] at hK ⊢; go_simp; with_reducible refine hK _ _ (Below.refl _ _) ?_
       exact rfl
      ·as_aux_lemma =>
       intro vs W hS hdep K hK; have d0 := hdep ⟨5, .guard⟩ (by simp) rfl; simp only [PhiBy9] at d0; refine ⟨?_⟩; simp only [Act.put, sA, sB, sC, Nat.zero_add, Nat.reduceAdd, d0] at hK ⊢; go_simp; with_reducible refine hK _ _ (Below.refl _ _) ?_
       exact rfl
      ·as_aux_lemma =>
       intro vs W hS hdep K hK; have d0 := hdep ⟨5, .guard⟩ (by simp) rfl; simp only [PhiBy9] at d0; refine ⟨?_⟩; simp only [Act.put, sA, sB, sC, Nat.zero_add, Nat.reduceAdd, d0] at hK ⊢; go_simp; with_reducible refine hK _ _ (Below.refl _ _) ?_
       exact rfl
      ·as_aux_lemma =>
       intro vs W hS hdep K hK; have d0 := hdep ⟨6, .data⟩ (by simp) rfl; simp only [PhiBy9] at d0; have d1 := hdep ⟨7, .data⟩ (by simp) rfl; simp only [PhiBy9] at d1; have d2 := hdep ⟨5, .guard⟩ (by simp) rfl; simp only [PhiBy9] at d2; refine ⟨?_⟩; simp only [Act.put, sA, sB, sC, Nat.zero_add, Nat.reduceAdd, d0, d1, d2] at hK ⊢; go_simp; refine (bsame_T _ _ _ _ E _ (HBB.out.below hS) (HBW.out.below hS)).mono ?_; rintro e w' ⟨rfl, hb⟩; go_wp2_with fail; with_reducible refine hK _ _ hb ?_
       exact rfl
      ·as_aux_lemma =>
       intro vs W hS hdep K hK; have d0 := hdep ⟨8, .data⟩ (by simp) rfl; simp only [PhiBy9] at d0; have d1 := hdep ⟨5, .guard⟩ (by simp) rfl; simp only [PhiBy9] at d1; refine ⟨?_⟩; simp only [Act.put, sA, sB, sC, Nat.zero_add, Nat.reduceAdd, d0, d1] at hK ⊢; go_simp; with_reducible refine hK _ _ (Below.refl _ _) ?_
       exact rfl
      ·as_aux_lemma =>
       intro vs W hS hdep K hK; have d0 := hdep ⟨5, .data⟩ (by simp) rfl; simp only [PhiBy9] at d0; have d1 := hdep ⟨9, .data⟩ (by simp) rfl; simp only [PhiBy9] at d1; refine ⟨?_⟩; simp only [Act.put, sA, sB, sC, Nat.zero_add, Nat.reduceAdd, d0, d1] at hK ⊢; go_simp; with_reducible refine hK _ _ (Below.refl _ _) ?_
       exact rfl
      ·as_aux_lemma =>
       intro vs W hS hdep K hK; have d0 := hdep ⟨10, .data⟩ (by simp) rfl; simp only [PhiBy9] at d0; refine ⟨?_⟩; simp only [Act.put, sA, sB, sC, Nat.zero_add, Nat.reduceAdd, d0] at hK ⊢; go_simp; with_reducible refine hK _ _ (Below.refl _ _) ?_
       exact rfl
      ·as_aux_lemma =>
       intro vs W hS hdep K hK; have d0 := hdep ⟨11, .guard⟩ (by simp) rfl; simp only [PhiBy9] at d0; refine ⟨?_⟩; simp only [Act.put, sA, sB, sC, Nat.zero_add, Nat.reduceAdd, d0] at hK ⊢; rw [if_pos (by rfl)]; refine wp_load_mid 33 (.tmp 9) (by rfl) g (0) (by rfl) (cellsP p) _ (fun j v h => cell_keep hS (HBP.out j v h)) Tryz.underlying33 (by rfl) infoP ?_; simp only [Act.put, sA, sB, sC]; with_reducible refine hK _ _ (Below.refl _ _) ?_
       exact rfl
      ·as_aux_lemma =>
       intro vs W hS hdep K hK; have d0 := hdep ⟨12, .data⟩ (by simp) rfl; simp only [PhiBy9] at d0; have d1 := hdep ⟨11, .guard⟩ (by simp) rfl; simp only [PhiBy9] at d1; refine ⟨?_⟩; simp only [Act.put, sA, sB, sC, Nat.zero_add, Nat.reduceAdd, d0, d1] at hK ⊢; go_simp; refine (pdig_D (HBO.out.below hS) (K0.below hS) HE.out HD.out).mono ?_; rintro e w' ⟨rfl, hb⟩; go_wp2_with fail; with_reducible refine hK _ _ hb ?_
       exact rfl
      ·as_aux_lemma =>
       intro vs W hS hdep K hK; have d0 := hdep ⟨11, .guard⟩ (by simp) rfl; simp only [PhiBy9] at d0; refine ⟨?_⟩; simp only [Act.put, sA, sB, sC, Nat.zero_add, Nat.reduceAdd, d0] at hK ⊢; rw [if_pos (by rfl)]; refine wp_load_mid 33 (.tmp 9) (by rfl) g (0) (by rfl) (cellsP p) _ (fun j v h => cell_keep hS (HBP.out j v h)) Tryz.underlying33 (by rfl) infoP ?_; simp only [Act.put, sA, sB, sC]; with_reducible refine hK _ _ (Below.refl _ _) ?_
       exact rfl
      ·as_aux_lemma =>
       intro vs W hS hdep K hK; have d0 := hdep ⟨14, .data⟩ (by simp) rfl; simp only [PhiBy9] at d0; have d1 := hdep ⟨11, .guard⟩ (by simp) rfl; simp only [PhiBy9] at d1; refine ⟨?_⟩; simp only [Act.put, sA, sB, sC, Nat.zero_add, Nat.reduceAdd, d0, d1] at hK ⊢; go_simp; refine (rdig_D (HBO.out.below hS) (K1.below hS) HE.out HD.out).mono ?_; rintro e w' ⟨rfl, hb⟩; go_wp2_with fail; with_reducible refine hK _ _ hb ?_
       exact rfl
      ·as_aux_lemma =>
       intro vs W hS hdep K hK; have d0 := hdep ⟨13, .data⟩ (by simp) rfl; simp only [PhiBy9] at d0; have d1 := hdep ⟨15, .data⟩ (by simp) rfl; simp only [PhiBy9] at d1; have d2 := hdep ⟨11, .guard⟩ (by simp) rfl; simp only [PhiBy9] at d2; have q1 := hneqD W; refine ⟨?_⟩; simp only [Act.put, sA, sB, sC, Nat.zero_add, Nat.reduceAdd, d0, d1, d2] at hK ⊢; go_simp; with_reducible refine hK _ _ (Below.refl _ _) ?_
       exact rfl
      ·as_aux_lemma =>
       intro vs W hS hdep K hK; have d0 := hdep ⟨11, .data⟩ (by simp) rfl; simp only [PhiBy9] at d0; have d1 := hdep ⟨16, .data⟩ (by simp) rfl; simp only [PhiBy9] at d1; refine ⟨?_⟩; simp only [Act.put, sA, sB, sC, Nat.zero_add, Nat.reduceAdd, d0, d1] at hK ⊢; go_simp; with_reducible refine hK _ _ (Below.refl _ _) ?_
       exact rfl
      ·as_aux_lemma =>
       intro vs W hS hdep K hK; have d0 := hdep ⟨17, .data⟩ (by simp) rfl; simp only [PhiBy9] at d0; refine ⟨?_⟩; simp only [Act.put, sA, sB, sC, Nat.zero_add, Nat.reduceAdd, d0] at hK ⊢; go_simp; with_reducible refine hK _ _ (Below.refl _ _) ?_
       exact rfl
      ·as_aux_lemma =>
       intro vs W hS hdep K hK; have d0 := hdep ⟨18, .guard⟩ (by simp) rfl; simp only [PhiBy9] at d0; refine ⟨?_⟩; simp only [Act.put, sA, sB, sC, Nat.zero_add, Nat.reduceAdd, d0] at hK ⊢; rw [if_pos (by rfl)]; refine wp_load_mid 33 (.tmp 9) (by rfl) g (0) (by rfl) (cellsP p) _ (fun j v h => cell_keep hS (HBP.out j v h)) Tryz.underlying33 (by rfl) infoP ?_; simp only [Act.put, sA, sB, sC]; with_reducible refine hK _ _ (Below.refl _ _) ?_
       exact rfl
      ·as_aux_lemma =>
       intro vs W hS hdep K hK; have d0 := hdep ⟨19, .data⟩ (by simp) rfl; simp only [PhiBy9] at d0; have d1 := hdep ⟨18, .guard⟩ (by simp) rfl; simp only [PhiBy9] at d1; refine ⟨?_⟩; simp only [Act.put, sA, sB, sC, Nat.zero_add, Nat.reduceAdd, d0, d1] at hK ⊢; go_simp; refine (pdig_D (HBO.out.below hS) (K0.below hS) HE.out HD.out).mono ?_; rintro e w' ⟨rfl, hb⟩; go_wp2_with fail; with_reducible refine hK _ _ hb ?_
       exact rfl
      ·as_aux_lemma =>
       intro vs W hS hdep K hK; have d0 := hdep ⟨18, .guard⟩ (by simp) rfl; simp only [PhiBy9] at d0; refine ⟨?_⟩; simp only [Act.put, sA, sB, sC, Nat.zero_add, Nat.reduceAdd, d0] at hK ⊢; go_simp; with_reducible refine hK _ _ (Below.refl _ _) ?_
       exact rfl
      ·as_aux_lemma =>
       intro vs W hS hdep K hK; have d0 := hdep ⟨21, .data⟩ (by simp) rfl; simp only [PhiBy9] at d0; have d1 := hdep ⟨18, .guard⟩ (by simp) rfl; simp only [PhiBy9] at d1; have q1 := conv_by (HBB.out.below hS) HEL.out.1; refine ⟨?_⟩; simp only [Act.put, sA, sB, sC, Nat.zero_add, Nat.reduceAdd, d0, d1] at hK ⊢; go_simp; with_reducible refine hK _ _ (Below.refl _ _) ?_
       exact rfl
      ·as_aux_lemma =>
       intro vs W hS hdep K hK; have d0 := hdep ⟨22, .data⟩ (by simp) rfl; simp only [PhiBy9] at d0; have d1 := hdep ⟨18, .guard⟩ (by simp) rfl; simp only [PhiBy9] at d1; refine ⟨?_⟩; simp only [Act.put, sA, sB, sC, Nat.zero_add, Nat.reduceAdd, d0, d1] at hK ⊢; go_simp; with_reducible refine hK _ _ (bA _ _) ?_
       exact ⟨_, rfl, ⟨Rd.fresh W 9 _, rfl, by omega⟩⟩
      ·as_aux_lemma =>
       intro vs W hS hdep K hK; have d0 := hdep ⟨23, .data⟩ (by simp) rfl; simp only [PhiBy9] at d0; refine @exE1 _ _ _ d0 ?_; clear d0; intro g0 d0; have e0 := d0.1; have n0 := d0.2; clear d0; have d1 := hdep ⟨18, .guard⟩ (by simp) rfl; simp only [PhiBy9] at d1; refine ⟨?_⟩; simp only [Act.put, sA, sB, sC, Nat.zero_add, Nat.reduceAdd, e0, d1] at hK ⊢; go_simp; refine (hof_D _ 1 E _ HEB.out HEL.out.2 n0 (K0.below hS) HD.out).mono ?_; rintro e w' ⟨rfl, hb⟩; go_wp2_with fail; with_reducible refine hK _ _ hb ?_
       exact rfl
      ·as_aux_lemma =>
       intro vs W hS hdep K hK; have d0 := hdep ⟨20, .data⟩ (by simp) rfl; simp only [PhiBy9] at d0; have d1 := hdep ⟨24, .data⟩ (by simp) rfl; simp only [PhiBy9] at d1; have d2 := hdep ⟨18, .guard⟩ (by simp) rfl; simp only [PhiBy9] at d2; have q1 := hneqD W; refine ⟨?_⟩; simp only [Act.put, sA, sB, sC, Nat.zero_add, Nat.reduceAdd, d0, d1, d2] at hK ⊢; go_simp; with_reducible refine hK _ _ (Below.refl _ _) ?_
       exact rfl
      ·as_aux_lemma =>
       intro vs W hS hdep K hK; have d0 := hdep ⟨18, .data⟩ (by simp) rfl; simp only [PhiBy9] at d0; have d1 := hdep ⟨25, .data⟩ (by simp) rfl; simp only [PhiBy9] at d1; refine ⟨?_⟩; simp only [Act.put, sA, sB, sC, Nat.zero_add, Nat.reduceAdd, d0, d1] at hK ⊢; go_simp; with_reducible refine hK _ _ (Below.refl _ _) ?_
       exact rfl
     ·intro vs w4 hS hv; have v26 := hv 26 (by simp); simp only [PhiBy9] at v26; simp only [Act.put, sA, sB, sC, Nat.zero_add, Nat.reduceAdd, v26]; have HBB := Lib.hid (HBB.out.below hS); have HBO := Lib.hid (HBO.out.below hS); have HBP := Lib.hid (fun j v h => cell_keep hS (HBP.out j v h) : ∀ j v, (cellsP p)[j]? = some v → w4.cell? ⟨g, 0 + j, none⟩ = some v); have hbe := Below.tr hbe hS; clear v26 hv hS HBW K0 K1 hneqD HD BP; go_wp2_with fail
      go_loopg [12] k (fun mm x wr => ∃ m : Nat, x = .int .i64 m ∧ m + mm = k ∧ Below w4.heap.size w4 wr)
      case atStart => exact ⟨0, rfl, by omega, Below.refl _ _⟩
      case round =>
       obtain ⟨G2, hG2⟩ : ∃ G, G = gk := ⟨gk, rfl⟩; subst hG2; obtain ⟨m, rfl, hmm, hbe2⟩ := hrel; obtain ⟨wm, hwm⟩ : ∃ x, x = wr := ⟨_, rfl⟩; subst hwm; by_cases hm : m < k
       ·have u2 : decide ((m : Int) < (k : Int)) = true := by simp; omega
        have lm : (m : Int) < (k : Int) := by omega
        have hml : m < ps.length := by have := HKL.out; omega
        obtain ⟨q, HQ⟩ : ∃ p, Hid (ps[m] = p ∧ ps[m]? = some p) := ⟨_, rfl, List.getElem?_eq_getElem hml⟩; have hb4 := Below.tr hbe hbe2; obtain ⟨b', off', hA', HCQ⟩ := (HRW.out.below hb4).at_ cellsP_len (by omega) hm hml; injection hA' with hA'; injection hA' with e1 e2; subst e1 e2; rw [HQ.out.1] at HCQ; have HBQ := Lib.hid ((HX.out.below hb4) m q HQ.out.2); have HBO := Lib.hid (HBO.out.below hbe2); have HBB := Lib.hid (HBB.out.below hbe2); have HBP := Lib.hid (fun j v h => cell_keep hbe2 (HBP.out j v h) : ∀ j v, (cellsP p)[j]? = some v → wm.cell? ⟨g, 0 + j, none⟩ = some v); obtain ⟨F, HF⟩ : ∃ F, Hid (encE q (xf m) = F) := ⟨_, rfl⟩
        have HFL : Hid (0 < F.length ∧ F.length ≤ 67108864) := by
         have h := HBQ.out.len; rw [HF.out] at h; exact ⟨h.1, by omega⟩
        obtain ⟨sb, HSE⟩ : ∃ b, Hid (decide (E = F) = b) := ⟨_, rfl⟩; have HSB : Hid (decide (encE p (L1, L2, dl) = encE q (xf m)) = sb) := by rw [HE.out, HF.out]; exact HSE.out
        have hbb : (sb != sb) = false := by simp
        clear hb4; go_upto_region 14 with fail; refine region_invF (PhiBy14 b off i m g k c p q sb) (fun w w' => Below w.heap.size w w') (fun X => Below wm.heap.size wm X) (by kernel_rfl) (by kernel_rfl) (by kernel_rfl) PhiBy14.keep (fun _ _ hR hS => Below.tr hS hR) (bD _) (fun vs => by simp only [fillR, Act.put, sA, sB, sC, Nat.zero_add, Nat.reduceAdd]; rfl) ?_ ?_
        ·refine sK ?_ (sK ?_ (sK ?_ (sK ?_ (sK ?_ (sK ?_ (sK ?_ (sZ)))))))
         ·as_aux_lemma =>
          intro vs W hS hdep K hK; refine ⟨?_⟩; simp only [Act.put, sA, sB, sC, Nat.zero_add, Nat.reduceAdd] at hK ⊢; rw [if_pos (by rfl)]; refine wp_load_mid 33 (.tmp 9) (by rfl) g (0) (by rfl) (cellsP p) _ (fun j v h => cell_keep hS (HBP.out j v h)) Tryz.underlying33 (by rfl) infoP ?_; simp only [Act.put, sA, sB, sC]; with_reducible refine hK _ _ (Below.refl _ _) ?_
          exact rfl
         ·as_aux_lemma =>
          intro vs W hS hdep K hK; refine ⟨?_⟩; simp only [Act.put, sA, sB, sC, Nat.zero_add, Nat.reduceAdd] at hK ⊢; go_simp; with_reducible refine hK _ _ (Below.refl _ _) ?_
          exact rfl
         ·as_aux_lemma =>
          intro vs W hS hdep K hK; refine ⟨?_⟩; simp only [Act.put, sA, sB, sC, Nat.zero_add, Nat.reduceAdd] at hK ⊢; go_simp; with_reducible refine hK _ _ (Below.refl _ _) ?_
          exact rfl
         ·as_aux_lemma =>
          intro vs W hS hdep K hK; have d0 := hdep ⟨1, .data⟩ (by simp) rfl; simp only [PhiBy14] at d0; have d1 := hdep ⟨2, .data⟩ (by simp) rfl; simp only [PhiBy14] at d1; refine ⟨?_⟩; simp only [Act.put, sA, sB, sC, Nat.zero_add, Nat.reduceAdd, d0, d1] at hK ⊢; go_simp; with_reducible refine hK _ _ (Below.refl _ _) ?_
          exact rfl
         ·as_aux_lemma =>
          intro vs W hS hdep K hK; have d0 := hdep ⟨3, .data⟩ (by simp) rfl; simp only [PhiBy14] at d0; refine ⟨?_⟩; simp only [Act.put, sA, sB, sC, Nat.zero_add, Nat.reduceAdd, d0] at hK ⊢; rw [if_pos (by rfl)]; refine wp_load_mid 33 (.tmp 93) (by rfl) b (off + m * 24) (by rfl) (cellsP q) _ (fun j v h => cell_keep hS (HCQ.out j v h)) Tryz.underlying33 (by rfl) infoP ?_; simp only [Act.put, sA, sB, sC]; with_reducible refine hK _ _ (Below.refl _ _) ?_
          exact rfl
         ·as_aux_lemma =>
          intro vs W hS hdep K hK; have d0 := hdep ⟨0, .data⟩ (by simp) rfl; simp only [PhiBy14] at d0; have d1 := hdep ⟨4, .data⟩ (by simp) rfl; simp only [PhiBy14] at d1; refine ⟨?_⟩; simp only [Act.put, sA, sB, sC, Nat.zero_add, Nat.reduceAdd, d0, d1] at hK ⊢; go_simp; refine (psame_S (HBO.out.below hS) (HBQ.out.below hS) HSB.out).mono ?_; rintro e w' ⟨rfl, hb⟩; go_wp2_with fail; with_reducible refine hK _ _ hb ?_
          exact rfl
         ·as_aux_lemma =>
          intro vs W hS hdep K hK; have d0 := hdep ⟨5, .data⟩ (by simp) rfl; simp only [PhiBy14] at d0; refine ⟨?_⟩; simp only [Act.put, sA, sB, sC, Nat.zero_add, Nat.reduceAdd, d0] at hK ⊢; go_simp; with_reducible refine hK _ _ (Below.refl _ _) ?_
          exact rfl
        ·intro vs w5 hS hv; have v6 := hv 6 (by simp); simp only [PhiBy14] at v6; simp only [Act.put, sA, sB, sC, Nat.zero_add, Nat.reduceAdd, v6]; have HBB := Lib.hid (HBB.out.below hS); have HBO := Lib.hid (HBO.out.below hS); have HBQ := Lib.hid (HBQ.out.below hS); have HBP := Lib.hid (fun j v h => cell_keep hS (HBP.out j v h) : ∀ j v, (cellsP p)[j]? = some v → w5.cell? ⟨g, 0 + j, none⟩ = some v); have HCQ := Lib.hid (fun j v h => cell_keep hS (HCQ.out j v h) : ∀ j v, (cellsP q)[j]? = some v → w5.cell? ⟨b, off + m * 24 + j, none⟩ = some v); have hbe2 := Below.tr hbe2 hS; clear v6 hv hS; go_upto_region 15 with fail; refine region_invF (PhiBy15 b off i m g k c p q sb Ab cb E F) (fun w w' => Below w.heap.size w w') (fun X => Below w5.heap.size w5 X) (by kernel_rfl) (by kernel_rfl) (by kernel_rfl) PhiBy15.keep (fun _ _ hR hS => Below.tr hS hR) (bD _) (fun vs => by simp only [fillR, Act.put, sA, sB, sC, Nat.zero_add, Nat.reduceAdd]; rfl) ?_ ?_
         ·refine sK ?_ (sK ?_ (sK ?_ (sK ?_ (sK ?_ (sK ?_ (sK ?_ (sK ?_ (sK ?_ (sK ?_ (sK ?_ (sK ?_ (sK ?_ (sK ?_ (sK ?_ (sK ?_ (sK ?_ (sK ?_ (sK ?_ (sZ)))))))))))))))))))
          ·as_aux_lemma =>
           intro vs W hS hdep K hK; refine ⟨?_⟩; simp only [Act.put, sA, sB, sC, Nat.zero_add, Nat.reduceAdd] at hK ⊢; go_simp; with_reducible refine hK _ _ (Below.refl _ _) ?_
           exact rfl
          ·as_aux_lemma =>
           intro vs W hS hdep K hK; refine ⟨?_⟩; simp only [Act.put, sA, sB, sC, Nat.zero_add, Nat.reduceAdd] at hK ⊢; rw [if_pos (by rfl)]; refine wp_load_mid 33 (.tmp 9) (by rfl) g (0) (by rfl) (cellsP p) _ (fun j v h => cell_keep hS (HBP.out j v h)) Tryz.underlying33 (by rfl) infoP ?_; simp only [Act.put, sA, sB, sC]; with_reducible refine hK _ _ (Below.refl _ _) ?_
           exact rfl
          ·as_aux_lemma =>
           intro vs W hS hdep K hK; refine ⟨?_⟩; simp only [Act.put, sA, sB, sC, Nat.zero_add, Nat.reduceAdd] at hK ⊢; go_simp; with_reducible refine hK _ _ (Below.refl _ _) ?_
           exact rfl
          ·as_aux_lemma =>
           intro vs W hS hdep K hK; refine ⟨?_⟩; simp only [Act.put, sA, sB, sC, Nat.zero_add, Nat.reduceAdd] at hK ⊢; go_simp; with_reducible refine hK _ _ (Below.refl _ _) ?_
           exact rfl
          ·as_aux_lemma =>
           intro vs W hS hdep K hK; have d0 := hdep ⟨2, .data⟩ (by simp) rfl; simp only [PhiBy15] at d0; have d1 := hdep ⟨3, .data⟩ (by simp) rfl; simp only [PhiBy15] at d1; refine ⟨?_⟩; simp only [Act.put, sA, sB, sC, Nat.zero_add, Nat.reduceAdd, d0, d1] at hK ⊢; go_simp; with_reducible refine hK _ _ (Below.refl _ _) ?_
           exact rfl
          ·as_aux_lemma =>
           intro vs W hS hdep K hK; have d0 := hdep ⟨4, .data⟩ (by simp) rfl; simp only [PhiBy15] at d0; refine ⟨?_⟩; simp only [Act.put, sA, sB, sC, Nat.zero_add, Nat.reduceAdd, d0] at hK ⊢; rw [if_pos (by rfl)]; refine wp_load_mid 33 (.tmp 100) (by rfl) b (off + m * 24) (by rfl) (cellsP q) _ (fun j v h => cell_keep hS (HCQ.out j v h)) Tryz.underlying33 (by rfl) infoP ?_; simp only [Act.put, sA, sB, sC]; with_reducible refine hK _ _ (Below.refl _ _) ?_
           exact rfl
          ·as_aux_lemma =>
           intro vs W hS hdep K hK; have d0 := hdep ⟨1, .data⟩ (by simp) rfl; simp only [PhiBy15] at d0; have d1 := hdep ⟨5, .data⟩ (by simp) rfl; simp only [PhiBy15] at d1; refine ⟨?_⟩; simp only [Act.put, sA, sB, sC, Nat.zero_add, Nat.reduceAdd, d0, d1] at hK ⊢; go_simp; refine (rsame_S (HBO.out.below hS) (HBQ.out.below hS) HSB.out).mono ?_; rintro e w' ⟨rfl, hb⟩; go_wp2_with fail; with_reducible refine hK _ _ hb ?_
           exact rfl
          ·as_aux_lemma =>
           intro vs W hS hdep K hK; have d0 := hdep ⟨0, .data⟩ (by simp) rfl; simp only [PhiBy15] at d0; have d1 := hdep ⟨6, .data⟩ (by simp) rfl; simp only [PhiBy15] at d1; have q1 := hbb; refine ⟨?_⟩; simp only [Act.put, sA, sB, sC, Nat.zero_add, Nat.reduceAdd, d0, d1] at hK ⊢; go_simp; with_reducible refine hK _ _ (Below.refl _ _) ?_
           exact rfl
          ·as_aux_lemma =>
           intro vs W hS hdep K hK; have d0 := hdep ⟨7, .data⟩ (by simp) rfl; simp only [PhiBy15] at d0; refine ⟨?_⟩; simp only [Act.put, sA, sB, sC, Nat.zero_add, Nat.reduceAdd, d0] at hK ⊢; go_simp; with_reducible refine hK _ _ (Below.refl _ _) ?_
           exact rfl
          ·as_aux_lemma =>
           intro vs W hS hdep K hK; have d0 := hdep ⟨8, .guard⟩ (by simp) rfl; simp only [PhiBy15] at d0; refine ⟨?_⟩; simp only [Act.put, sA, sB, sC, Nat.zero_add, Nat.reduceAdd, d0] at hK ⊢; go_simp; with_reducible refine hK _ _ (Below.refl _ _) ?_
           exact rfl
          ·as_aux_lemma =>
           intro vs W hS hdep K hK; have d0 := hdep ⟨8, .guard⟩ (by simp) rfl; simp only [PhiBy15] at d0; refine ⟨?_⟩; simp only [Act.put, sA, sB, sC, Nat.zero_add, Nat.reduceAdd, d0] at hK ⊢; go_simp; with_reducible refine hK _ _ (Below.refl _ _) ?_
           exact rfl
          ·as_aux_lemma =>
           intro vs W hS hdep K hK; have d0 := hdep ⟨8, .guard⟩ (by simp) rfl; simp only [PhiBy15] at d0; refine ⟨?_⟩; simp only [Act.put, sA, sB, sC, Nat.zero_add, Nat.reduceAdd, d0] at hK ⊢; go_simp; with_reducible refine hK _ _ (Below.refl _ _) ?_
           exact rfl
          ·as_aux_lemma =>
           intro vs W hS hdep K hK; have d0 := hdep ⟨8, .guard⟩ (by simp) rfl; simp only [PhiBy15] at d0; refine ⟨?_⟩; simp only [Act.put, sA, sB, sC, Nat.zero_add, Nat.reduceAdd, d0] at hK ⊢; go_simp; with_reducible refine hK _ _ (Below.refl _ _) ?_
           exact rfl
          ·as_aux_lemma =>
           intro vs W hS hdep K hK; have d0 := hdep ⟨11, .data⟩ (by simp) rfl; simp only [PhiBy15] at d0; have d1 := hdep ⟨12, .data⟩ (by simp) rfl; simp only [PhiBy15] at d1; have d2 := hdep ⟨8, .guard⟩ (by simp) rfl; simp only [PhiBy15] at d2; refine ⟨?_⟩; simp only [Act.put, sA, sB, sC, Nat.zero_add, Nat.reduceAdd, d0, d1, d2] at hK ⊢; go_simp; with_reducible refine hK _ _ (Below.refl _ _) ?_
           exact rfl
          ·as_aux_lemma =>
           intro vs W hS hdep K hK; have d0 := hdep ⟨13, .data⟩ (by simp) rfl; simp only [PhiBy15] at d0; have d1 := hdep ⟨8, .guard⟩ (by simp) rfl; simp only [PhiBy15] at d1; refine ⟨?_⟩; simp only [Act.put, sA, sB, sC, Nat.zero_add, Nat.reduceAdd, d0, d1] at hK ⊢; rw [if_pos (by rfl)]; refine wp_load_mid 33 (.tmp 109) (by rfl) b (off + m * 24) (by rfl) (cellsP q) _ (fun j v h => cell_keep hS (HCQ.out j v h)) Tryz.underlying33 (by rfl) infoP ?_; simp only [Act.put, sA, sB, sC]; with_reducible refine hK _ _ (Below.refl _ _) ?_
           exact rfl
          ·as_aux_lemma =>
           intro vs W hS hdep K hK; have d0 := hdep ⟨14, .data⟩ (by simp) rfl; simp only [PhiBy15] at d0; have d1 := hdep ⟨8, .guard⟩ (by simp) rfl; simp only [PhiBy15] at d1; refine ⟨?_⟩; simp only [Act.put, sA, sB, sC, Nat.zero_add, Nat.reduceAdd, d0, d1] at hK ⊢; go_simp; refine (renc_E (HBQ.out.below hS) HF.out HFL.out).mono ?_; rintro e w' ⟨A, c, rfl, hv, hb⟩; go_wp2_with fail; with_reducible refine hK _ _ hb ?_
           exact ⟨A, c, rfl, hv⟩
          ·as_aux_lemma =>
           intro vs W hS hdep K hK; have d0 := hdep ⟨10, .data⟩ (by simp) rfl; simp only [PhiBy15] at d0; have d1 := hdep ⟨15, .data⟩ (by simp) rfl; simp only [PhiBy15] at d1; refine @exE2 _ _ _ _ d1 ?_; clear d1; intro A1 c1 d1; have e1 := d1.1; have n1 := d1.2; clear d1; have d2 := hdep ⟨8, .guard⟩ (by simp) rfl; simp only [PhiBy15] at d2; refine ⟨?_⟩; simp only [Act.put, sA, sB, sC, Nat.zero_add, Nat.reduceAdd, d0, e1, d2] at hK ⊢; go_simp; refine (bsame_S _ _ _ _ E F _ _ (HBB.out.below hS) n1 HSE.out).mono ?_; rintro e w' ⟨rfl, hb⟩; go_wp2_with fail; with_reducible refine hK _ _ hb ?_
           exact rfl
          ·as_aux_lemma =>
           intro vs W hS hdep K hK; have d0 := hdep ⟨9, .data⟩ (by simp) rfl; simp only [PhiBy15] at d0; have d1 := hdep ⟨16, .data⟩ (by simp) rfl; simp only [PhiBy15] at d1; have d2 := hdep ⟨8, .guard⟩ (by simp) rfl; simp only [PhiBy15] at d2; have q1 := hbb; refine ⟨?_⟩; simp only [Act.put, sA, sB, sC, Nat.zero_add, Nat.reduceAdd, d0, d1, d2] at hK ⊢; go_simp; with_reducible refine hK _ _ (Below.refl _ _) ?_
           exact rfl
          ·as_aux_lemma =>
           intro vs W hS hdep K hK; have d0 := hdep ⟨8, .data⟩ (by simp) rfl; simp only [PhiBy15] at d0; have d1 := hdep ⟨17, .data⟩ (by simp) rfl; simp only [PhiBy15] at d1; refine ⟨?_⟩; simp only [Act.put, sA, sB, sC, Nat.zero_add, Nat.reduceAdd, d0, d1] at hK ⊢; go_simp; with_reducible refine hK _ _ (Below.refl _ _) ?_
           exact rfl
         ·intro vs w6 hS hv; have v18 := hv 18 (by simp); simp only [PhiBy15] at v18; simp only [Act.put, sA, sB, sC, Nat.zero_add, Nat.reduceAdd, v18]; have hbe2 := Below.tr hbe2 hS; clear v18 hv hS HCQ HBQ HBP HBO HBB HSE HSB HFL HF; go_wp2_with fail
          go_roundg (G2 - 1)
          case measure => omega
          case rel => exact ⟨m + 1, by go_num, by omega, hbe2⟩
       ·have u2 : decide ((m : Int) < (k : Int)) = false := by simp; omega
        have hbe := Below.tr hbe hbe2; go_wp2_with fail
        go_roundg (G - 1)
        case measure => omega
        case rel => exact ⟨i + 1, by go_num, by omega, hbe⟩
  ·have u1 : decide ((i : Int) < (k : Int)) = false := by simp; omega
   go_wp2_with fail; refine (lives34_n _).mono ?_; rintro e w9 ⟨rfl, hb9⟩; go_wp2_with fail; go_ret; exact ⟨rfl, Below.tr hbw (Below.tr hbe hb9)⟩
end Go.Proofs.YtijkfagkbfbpmaaGreatDoor
