import Derived.Test.YtnjjdiilkhdbeaaGreatKReaProof22
import Derived.Test.YtnjjdiilkhdbeaaGreatS0
set_option linter.unusedVariables false
set_option linter.unusedSimpArgs false
namespace Go.Proofs.YtnjjdiilkhdbeaaGreat
open Go Go.RowKit
def RowsOk (b : LP) (rows : List (List LP)) : Prop := ∀ (i : Nat) r, rows[i]? = some r → r.length = i + 1 ∧ ∀ s ∈ r, wrongB b s = false
theorem RowsOk.snoc {b : LP} {rows : List (List LP)} {r : List LP} (h : RowsOk b rows) (hl : r.length = rows.length + 1) (hw : ∀ s ∈ r, wrongB b s = false) : RowsOk b (rows ++ [r]) := by
 intro i y e; by_cases hi : i < rows.length
 ·rw [List.getElem?_append_left hi] at e; exact h i y e
 ·have hi' : i = rows.length := by
   have := (List.getElem?_eq_some_iff.1 e).1; simp at this; omega
  subst hi'; rw [List.getElem?_append_right (by omega), Nat.sub_self] at e; simp only [List.getElem?_cons_zero, Option.some.injEq] at e; subst e; exact ⟨hl, hw⟩
theorem badFrom_ok {b : LP} : ∀ (rows : List (List LP)) (m : Nat), (∀ (i : Nat) r, rows[i]? = some r → r.length = m + i + 1 ∧ ∀ s ∈ r, wrongB b s = false) → badFrom b m rows = false
 | [], _, _ => rfl
 | x :: rs, m, h => by
  have h0 := h 0 x rfl; have h1 := badFrom_ok rs (m + 1) (fun i r e => by have := h (i + 1) r e; exact ⟨by omega, this.2⟩); unfold badFrom rowBad; rw [h1, decide_eq_false (by omega)]; have h2 : x.any (wrongB b) = false := by rw [List.any_eq_false]; intro s hs; simp [h0.2 s hs]
  rw [h2]; rfl
theorem planE_ok {b : LP} {rows : List (List LP)} (h1 : rows.length ≤ 16) (h2 : partB b = true) (h3 : RowsOk b rows) : planE b rows = 0 := by
 unfold planE; rw [if_neg (by omega), h2, if_neg (by simp), badFrom_ok rows 0 (fun i r e => by have := h3 i r e; exact ⟨by omega, this.2⟩), if_neg (by simp)]
theorem part_good {p q : Nat} (g : Nm.Good p q) (hp : p ≤ q) (hq : q ≤ 255) : partB (ratP p q) = true := by
 unfold partB oneP; rw [smallB_rat g (by omega) hq, atB_rat g Good_one]; simp; omega
theorem PlanV.okP {w : World} {v : Value} {b : LP} {rows : List (List LP)} (h : PlanV w v b rows) : okP b ∧ ∀ r ∈ rows, ∀ s ∈ r, okP s := by
 obtain ⟨x1, x2, S, k, c, rfl, h1, ss, h2, h3, h4⟩ := h; refine ⟨h1.ok, fun r hr s hs => ?_⟩; obtain ⟨i, hi, rfl⟩ := List.getElem_of_mem hr; obtain ⟨ps, k1, k2, k3⟩ := h4 i ss[i] rows[i] (List.getElem?_eq_getElem (by omega)) (List.getElem?_eq_getElem hi); obtain ⟨j, hj, rfl⟩ := List.getElem_of_mem hs; exact (k3 j ps[j] _ (List.getElem?_eq_getElem (by omega)) (List.getElem?_eq_getElem hj)).ok
/-- what Made's inner round leaves -/
def SMa (b : LP) (base : Nat) (w2 wr : World) (X : List LP) : List Value → (Nat → Value) → World → Prop
 | [], _, W => Below wr.heap.size wr W
 | [v], _, W => ∃ y, wrongB b y = false ∧ RatOwn W base v (X ++ [y]) ∧ Below base w2 W
 | [v, u], _, W => u = v ∧ ∃ y, wrongB b y = false ∧ RatOwn W base v (X ++ [y]) ∧ Below base w2 W
 | _, _, _ => True
def PhiMd (gP kk n kl cl co : Nat) (A Ao : Option Addr) (x1 x2 : Value) (b : LP) (vs : Nat → Value) (j : Nat) (w : World) (x : Value) : Prop :=
 match j with
 | 0 => x = .slice Ao kk co
 | 1 => x = .pointer (some ⟨gP, 0, none⟩)
 | 2 => x = .agg #[x1, x2]
 | 3 => x = .slice A kl cl
 | 4 => x = .int .i64 (n : Nat)
 | 5 => x = .int .i64 (n : Nat)
 | 6 => ∃ z : Int, x = .int .i64 z
 | 7 => ∃ z : Int, x = .int .i64 z
 | 8 => ∃ z : Int, x = .int .i64 z
 | 9 => ∃ z : Int, x = .int .i64 z
 | 10 => x = .int .i64 (kk : Nat)
 | 11 => ∃ z : Int, x = .int .i64 z
 | 12 => ∃ z : Nat, x = .int .i64 (z : Nat) ∧ z < 4096
 | 13 => BetOk b w x
 | 14 => ∃ g u1 u2 y, x = .slice (some ⟨g, 0, none⟩) 1 1 ∧ Rd w (some ⟨g, 0, none⟩) [u1, u2] ∧ RtP w (.agg #[u1, u2]) y ∧ wrongB b y = false
 | _ => True
theorem PhiMd.keepR {gP kk n kl cl co : Nat} {A Ao : Option Addr} {x1 x2 : Value} {b : LP} : ∀ vs (w w' : World), Below w.heap.size w w' → ∀ j x, PhiMd gP kk n kl cl co A Ao x1 x2 b vs j w x → PhiMd gP kk n kl cl co A Ao x1 x2 b vs j w' x := by
 intro vs w w' hb j x h; unfold PhiMd at h ⊢
 split <;> simp only at h ⊢
 all_goals first
  | exact h
  | exact h.map (fun A c l hl => hl.below hb)
  | (obtain ⟨g, u1, u2, y, e, h1, h2, h3⟩ := h; exact ⟨g, u1, u2, y, e, h1.below hb, h2.below hb, h3⟩)
theorem PhiMd.keepF {gP kk n kl cl co : Nat} {A Ao : Option Addr} {x1 x2 : Value} {b : LP} : ∀ vs (w w' : World) j x, ([] : List Nat).contains j = true → PhiMd gP kk n kl cl co A Ao x1 x2 b vs j w x → PhiMd gP kk n kl cl co A Ao x1 x2 b vs j w' x := by
 intro vs w w' j x hf
 cases hf
set_option maxRecDepth 100000 in
set_option maxHeartbeats 4000000 in
theorem made17_F (A : Option Addr) (kl cl : Nat) (l : List Int) (most : Nat) (w : World) (h : RowL intC w A kl l) (HL : Hid (∀ x ∈ l, -9223372036854775808 ≤ x ∧ x ≤ 9223372036854775807)) (hm : most ≤ 16) :
  Calls Tryz.prog 6 #[.slice A kl cl, .int .i64 (most : Int)] w fun e w' => ∃ v b rows, e = .returned v ∧ PlanV w' v b rows ∧ planE b rows = 0 ∧ rows.length ≤ most ∧ Below w.heap.size w w' := by
 go_enter Tryz.func6, Tryz.ntmps6
 go_upto_region 1 with fail; refine wp_name ?_; intro w1 HW1; have hb1 : Below w.heap.size w w1 := by rw [HW1.out]; exact bA _ _
 have hB1 : Blk w1 w.heap.size 28 #[.slice none 0 0, .slice none 0 0, .slice none 0 0] := by rw [HW1.out]; exact Blk.new _ _ _
 clear HW1; obtain ⟨gR, hgR⟩ : ∃ g, Hid (g = w.heap.size) := ⟨_, rfl⟩; have hge : w.heap.size ≤ gR := by have := hgR.out; omega
 rw [← hgR.out] at hB1 ⊢; have h1 := h.below hb1; go_wp2_with fail; refine (at_n A kl cl l 0 25 _ h1 HL (by omega) (by omega)).mono ?_; rintro e w' ⟨z1, rfl, hz1, rfl⟩; go_wp2_with fail; refine (at_n A kl cl l 1 24 _ h1 HL (by omega) (by omega)).mono ?_; rintro e w' ⟨z2, rfl, hz2, rfl⟩; go_wp2_with fail; refine (rpart_n z1 z2 _ (by omega) (by omega) (by omega) (by omega)).mono ?_; rintro e w2 ⟨v, pb, qb, rfl, hRt, hG, hle, HK, hb2⟩; obtain ⟨X1, xk1, xc1, X2, xk2, xc2, rfl⟩ := hRt.shape
 have hqb24 : qb ≤ 24 := by
  obtain ⟨a0, k0, _, _, hk24, _, rfl⟩ := HK.out; exact Nat.le_trans (Nat.div_le_self _ _) hk24
 have hpb : pb ≤ 255 := by omega
 have hqb : qb ≤ 255 := by omega
 have hz0 : pb = 0 → qb = 1 := fun h0 => by have := hG.gcd; rwa [h0, Nat.gcd_zero_left] at this
 have hbd := hRt.rtP; have HPT := Lib.hid (part_good hG hle hqb); have hBR := hB1.below hb2 hB1.lt; clear hRt HK hB1 hle; go_upto_region 2 with fail; refine wp_name ?_; intro w3 HW3; have hb3 : Below w2.heap.size w2 w3 := by rw [HW3.out]; exact bA _ _
 have hB3 : Blk w3 w2.heap.size 28 #[.slice X1 xk1 xc1, .slice X2 xk2 xc2, .slice none 0 0] := by rw [HW3.out]; exact Blk.new _ _ _
 clear HW3; obtain ⟨gP, hgP⟩ : ∃ g, Hid (g = w2.heap.size) := ⟨_, rfl⟩; rw [← hgP.out] at hB3 ⊢; have hl2 := h1.below hb2; have hb12 := Below.tr hb1 hb2; have s1 : IntKind.i64.wrap ((most : Int) + 1) = (most : Int) + 1 := by rw [IntWalk.i64_in _ (by omega)]
 have HA := at_n A kl cl l 2 (most + 1) w3 (hl2.below hb3) HL (by omega) (by omega); rw [show ((most + 1 : Nat) : Int) = (most : Int) + 1 by push_cast; rfl] at HA; have hRlt := hBR.lt; clear h1 hb1 hb2; go_wp2_with fail; refine HA.mono ?_; rintro e w' ⟨R, rfl, hRm, rfl⟩; clear HA s1; go_wp2_with fail
 go_loopg [7] R (fun j x wr => ∃ (n : Nat) (rows : List (List LP)) (S : Option Addr) (cS : Nat), x = .int .i64 n ∧ n + j = R ∧ Hid (rows.length = n) ∧ Hid (RowsOk (ratP pb qb) rows) ∧ Blk wr gP 28 #[.slice X1 xk1 xc1, .slice X2 xk2 xc2, .slice S n cS] ∧ RatsOwn wr (gP + 1) (.slice S n cS) rows ∧ Below w2.heap.size w2 wr)
 case atStart => exact ⟨0, [], none, 0, rfl, by omega, rfl, fun i r h => by simp at h, hB3, RatsOwn.nil _ _, hb3⟩
 case round =>
  obtain ⟨G, hG1⟩ : ∃ G, G = gk := ⟨gk, rfl⟩; subst hG1; obtain ⟨n, rows, S, cS, rfl, hnj, HRL, HOK, hBP, hrs, hbe⟩ := hrel; obtain ⟨wo, hwo⟩ : ∃ wo, wo = wr := ⟨_, rfl⟩; subst hwo; have hltP := hBP.lt; by_cases hn : n < R
  ·have t1 : decide ((n : Int) < (R : Int)) = true := by simp; omega
   go_wp2_with fail
   go_loopg [8, 9] (n + 1) (fun j v x wx => ∃ (kk : Nat) (X : List LP), x = .int .i64 kk ∧ kk + j = n + 1 ∧ RatOwn wx wo.heap.size v X ∧ Hid (X.length = kk) ∧ Hid (∀ s ∈ X, wrongB (ratP pb qb) s = false) ∧ Below wo.heap.size wo wx)
   case atStart => exact ⟨0, [], rfl, by omega, RatOwn.nil _ _, rfl, fun s h => by simp at h, Below.refl _ _⟩
   case round =>
    obtain ⟨G2, hG2⟩ : ∃ G, G = gk := ⟨gk, rfl⟩; subst hG2; obtain ⟨kk, X, rfl, hkj, hown, HXL, HXW, hbx⟩ := hrel; obtain ⟨wx, hwx⟩ : ∃ wx, wx = wr := ⟨_, rfl⟩; subst hwx; obtain ⟨Ao, co, rfl⟩ := hown.shp; rw [HXL.out] at hown ⊢; have hBPx := hBP.below hbx hltP; have P0 := Lib.hid (hBPx.cell 0); have P1 := Lib.hid (hBPx.cell 1); have P2 := hBPx.cell 2; simp only [List.getElem?_toArray, List.getElem?_cons_zero, List.getElem?_cons_succ] at P0 P1 P2; by_cases hk : kk ≤ n
    ·have t2 : decide ((kk : Int) ≤ (n : Int)) = true := by simp; omega
     have hbwx := hbe.trans (hbx.mono hbe.size); have hlx := hl2.below hbwx; have hbdx := hbd.below hbwx; have hX30 : X.length ≤ 1073741824 := by have := HXL.out; omega
     clear P2; go_upto_region 10 with fail; refine region_chain [15, 16] [.early, .early, .early, .early, .early, .early, .early, .early, .early, .early, .early, .early, .early, .early, .early, .chain 0, .chain 1] [] [] (PhiMd gP kk n kl cl co A Ao (.slice X1 xk1 xc1) (.slice X2 xk2 xc2) (ratP pb qb)) (fun w w' => Below w.heap.size w w') (SMa (ratP pb qb) wo.heap.size wo wx X) (by kernel_rfl) (by kernel_rfl) (by kernel_rfl) (by kernel_rfl) (sK (fun _ _ _ _ _ h => h) (sK (fun _ _ _ _ _ h => h) (sK (fun _ _ _ _ _ h => h) (sK (fun _ _ _ _ _ h => h) (sK (fun _ _ _ _ _ h => h) (sK (fun _ _ _ _ _ h => h) (sK (fun _ _ _ _ _ h => h) (sK (fun _ _ _ _ _ h => h) (sK (fun _ _ _ _ _ h => h) (sK (fun _ _ _ _ _ h => h) (sK (fun _ _ _ _ _ h => h) (sK (fun _ _ _ _ _ h => h) (sK (fun _ _ _ _ _ h => h) (sK (fun _ _ _ _ _ h => h) (sK (fun _ _ _ _ _ h => h) (sK (fun _ _ _ _ _ h => h) (sK (fun _ _ _ _ _ h => h) (sZ)))))))))))))))))) PhiMd.keepR PhiMd.keepF (fun _ _ _ _ hR hS => Below.tr hS hR) (by rintro (_ | ⟨_, _ | ⟨_, _ | _⟩⟩) vs vs' w _ h <;> exact h) (fun _ => bD _) (fun vs => by simp only [fillR, Act.put, sA, sB, sC, Nat.zero_add, Nat.reduceAdd]; rfl) ?_ ?_
     ·refine sK ?_ (sK ?_ (sK ?_ (sK ?_ (sK ?_ (sK ?_ (sK ?_ (sK ?_ (sK ?_ (sK ?_ (sK ?_ (sK ?_ (sK ?_ (sK ?_ (sK ?_ (sK ?_ (sK ?_ (sZ)))))))))))))))))
      ·as_aux_lemma =>
       intro vs W hS hu hdep K hK; have HU := Lib.hid hu; clear hu; have u16 : vs 16 = .slice Ao kk co := HU.out 16 (by simp); refine ⟨?_⟩; simp only [Act.put, sA, sB, sC, Nat.zero_add, Nat.reduceAdd, u16] at hK ⊢; go_simp; with_reducible refine hK _ _ (Below.refl _ _) ?_
       exact rfl
      ·as_aux_lemma =>
       intro vs W hS hu hdep K hK; have HU := Lib.hid hu; clear hu; refine ⟨?_⟩; simp only [Act.put, sA, sB, sC, Nat.zero_add, Nat.reduceAdd] at hK ⊢; go_simp; with_reducible refine hK _ _ (Below.refl _ _) ?_
       exact rfl
      ·as_aux_lemma =>
       intro vs W hS hu hdep K hK; have HU := Lib.hid hu; clear hu; have d0 := hdep ⟨1, .data⟩ (by simp) rfl; simp only [PhiMd] at d0; have f1 := cell_keep hS P0.out; have f2 := cell_keep hS P1.out; refine ⟨?_⟩; simp only [Act.put, sA, sB, sC, Nat.zero_add, Nat.reduceAdd, d0] at hK ⊢; go_simp; with_reducible refine hK _ _ (Below.refl _ _) ?_
       exact rfl
      ·as_aux_lemma =>
       intro vs W hS hu hdep K hK; have HU := Lib.hid hu; clear hu; refine ⟨?_⟩; simp only [Act.put, sA, sB, sC, Nat.zero_add, Nat.reduceAdd] at hK ⊢; go_simp; with_reducible refine hK _ _ (Below.refl _ _) ?_
       exact rfl
      ·as_aux_lemma =>
       intro vs W hS hu hdep K hK; have HU := Lib.hid hu; clear hu; refine ⟨?_⟩; simp only [Act.put, sA, sB, sC, Nat.zero_add, Nat.reduceAdd] at hK ⊢; go_simp; with_reducible refine hK _ _ (Below.refl _ _) ?_
       exact rfl
      ·as_aux_lemma =>
       intro vs W hS hu hdep K hK; have HU := Lib.hid hu; clear hu; refine ⟨?_⟩; simp only [Act.put, sA, sB, sC, Nat.zero_add, Nat.reduceAdd] at hK ⊢; go_simp; with_reducible refine hK _ _ (Below.refl _ _) ?_
       exact rfl
      ·as_aux_lemma =>
       intro vs W hS hu hdep K hK; have HU := Lib.hid hu; clear hu; have d0 := hdep ⟨5, .data⟩ (by simp) rfl; simp only [PhiMd] at d0; refine ⟨?_⟩; simp only [Act.put, sA, sB, sC, Nat.zero_add, Nat.reduceAdd, d0] at hK ⊢; go_simp; with_reducible refine hK _ _ (Below.refl _ _) ?_
       exact ⟨_, rfl⟩
      ·as_aux_lemma =>
       intro vs W hS hu hdep K hK; have HU := Lib.hid hu; clear hu; have d0 := hdep ⟨4, .data⟩ (by simp) rfl; simp only [PhiMd] at d0; have d1 := hdep ⟨6, .data⟩ (by simp) rfl; simp only [PhiMd] at d1; refine @exE1 _ _ _ d1 ?_; clear d1; intro z1 d1; have e1 := d1; clear d1; refine ⟨?_⟩; simp only [Act.put, sA, sB, sC, Nat.zero_add, Nat.reduceAdd, d0, e1] at hK ⊢; go_simp; with_reducible refine hK _ _ (Below.refl _ _) ?_
       exact ⟨_, rfl⟩
      ·as_aux_lemma =>
       intro vs W hS hu hdep K hK; have HU := Lib.hid hu; clear hu; have d0 := hdep ⟨7, .data⟩ (by simp) rfl; simp only [PhiMd] at d0; refine @exE1 _ _ _ d0 ?_; clear d0; intro z0 d0; have e0 := d0; clear d0; refine ⟨?_⟩; simp only [Act.put, sA, sB, sC, Nat.zero_add, Nat.reduceAdd, e0] at hK ⊢; go_simp; with_reducible refine hK _ _ (Below.refl _ _) ?_
       exact ⟨_, rfl⟩
      ·as_aux_lemma =>
       intro vs W hS hu hdep K hK; have HU := Lib.hid hu; clear hu; have d0 := hdep ⟨8, .data⟩ (by simp) rfl; simp only [PhiMd] at d0; refine @exE1 _ _ _ d0 ?_; clear d0; intro z0 d0; have e0 := d0; clear d0; refine ⟨?_⟩; simp only [Act.put, sA, sB, sC, Nat.zero_add, Nat.reduceAdd, e0] at hK ⊢; go_simp; with_reducible refine hK _ _ (Below.refl _ _) ?_
       exact ⟨_, rfl⟩
      ·as_aux_lemma =>
       intro vs W hS hu hdep K hK; have HU := Lib.hid hu; clear hu; refine ⟨?_⟩; simp only [Act.put, sA, sB, sC, Nat.zero_add, Nat.reduceAdd] at hK ⊢; go_simp; with_reducible refine hK _ _ (Below.refl _ _) ?_
       exact rfl
      ·as_aux_lemma =>
       intro vs W hS hu hdep K hK; have HU := Lib.hid hu; clear hu; have d0 := hdep ⟨9, .data⟩ (by simp) rfl; simp only [PhiMd] at d0; refine @exE1 _ _ _ d0 ?_; clear d0; intro z0 d0; have e0 := d0; clear d0; have d1 := hdep ⟨10, .data⟩ (by simp) rfl; simp only [PhiMd] at d1; refine ⟨?_⟩; simp only [Act.put, sA, sB, sC, Nat.zero_add, Nat.reduceAdd, e0, d1] at hK ⊢; go_simp; with_reducible refine hK _ _ (Below.refl _ _) ?_
       exact ⟨_, rfl⟩
      ·as_aux_lemma =>
       intro vs W hS hu hdep K hK; have HU := Lib.hid hu; clear hu; have d0 := hdep ⟨3, .data⟩ (by simp) rfl; simp only [PhiMd] at d0; have d1 := hdep ⟨11, .data⟩ (by simp) rfl; simp only [PhiMd] at d1; refine @exE1 _ _ _ d1 ?_; clear d1; intro z1 d1; have e1 := d1; clear d1; refine ⟨?_⟩; simp only [fillR, Act.put, sA, sB, sC, Nat.zero_add, Nat.reduceAdd, d0, e1] at hK ⊢; go_simp; refine (at_n A kl cl l z1 4096 _ (hlx.below hS) HL (by omega) (by omega)).mono ?_; rintro e w' ⟨z, rfl, hz, rfl⟩; go_wp2_with fail; with_reducible refine hK _ _ (Below.refl _ _) ?_
       exact ⟨z, rfl, hz⟩
      ·as_aux_lemma =>
       intro vs W hS hu hdep K hK; have HU := Lib.hid hu; clear hu; have d0 := hdep ⟨2, .data⟩ (by simp) rfl; simp only [PhiMd] at d0; have d1 := hdep ⟨12, .data⟩ (by simp) rfl; simp only [PhiMd] at d1; refine @exE1 _ _ _ d1 ?_; clear d1; intro z1 d1; have e1 := d1.1; have n1 := d1.2; clear d1; refine ⟨?_⟩; simp only [fillR, Act.put, sA, sB, sC, Nat.zero_add, Nat.reduceAdd, d0, e1] at hK ⊢; go_simp; refine (bet_F _ pb qb z1 _ (hbdx.below hS) hG hpb hqb (by omega) hz0).mono ?_; rintro e w' ⟨v, rfl, hv, hb⟩; go_wp2_with fail; with_reducible refine hK _ _ hb ?_
       exact hv
      ·as_aux_lemma =>
       intro vs W hS hu hdep K hK; have HU := Lib.hid hu; clear hu; have d0 := hdep ⟨13, .data⟩ (by simp) rfl; simp only [PhiMd] at d0; have r0 := d0; clear d0; obtain ⟨E1, m1, c1, E2, m2, c2, e0⟩ := r0.shape; rw [e0] at r0; obtain ⟨p, q, hr0, _, hw0⟩ := r0; have hgood := Lib.hid (And.intro hr0 hw0); clear hr0 hw0; refine ⟨?_⟩; simp only [Act.put, sA, sB, sC, Nat.zero_add, Nat.reduceAdd, e0] at hK ⊢; go_simp; with_reducible refine hK _ _ (bA _ _) ?_
       exact ⟨_, _, _, _, rfl, Rd.newC _ _ _, hgood.out.1.below (bA _ _), hgood.out.2⟩
      ·as_aux_lemma =>
       intro vs W hS hdep K hK; have d0 := hdep ⟨0, .data⟩ (by simp) rfl (by rfl); simp only [PhiMd] at d0; have d1 := hdep ⟨14, .data⟩ (by simp) rfl (by rfl); simp only [PhiMd] at d1; have hS : Below wx.heap.size wx W := hS; refine @exE2 _ _ _ _ d1 ?_; clear d1; intro g u1 d1; refine @exE2 _ _ _ _ d1 ?_; clear d1; intro u2 y d1; have e1 := d1.1; have hrd := d1.2.1; have hry := d1.2.2.1; have HW := Lib.hid d1.2.2.2; clear d1; have hown2 := hown.below hS; have hbe2 := Below.tr hbx hS; have hsz := hbe2.size; clear hS; refine ⟨?_⟩; simp only [Act.put, sA, sB, sC, Nat.zero_add, Nat.reduceAdd, d0, e1] at hK ⊢; rw [if_pos (by rfl)]; refine wp_push (.tmp 30) (.tmp 44) rfl wo.heap.size _ X rfl hown2 (some ⟨g, 0, none⟩) 1 u1 u2 _ rfl hry hrd hX30 hsz ?_; intro v4 w4 hown4 hg4 hat4 hkp4; have hbe5 := hbe2.grown hg4 hsz hown2.ge; obtain ⟨X', HX'⟩ : ∃ X', Hid (X' = X ++ [y]) := ⟨_, rfl⟩; rw [← HX'.out] at hown4; obtain ⟨A5, c5, rfl⟩ := hown4.shp; simp only [Act.put, sA, sB, sC]; with_reducible refine hK _ _ ?_
       exact ⟨y, HW.out, by rw [← HX'.out]; exact hown4, hbe5⟩
      ·as_aux_lemma =>
       intro vs W hS hdep K hK; have hS1 : SMa (ratP pb qb) wo.heap.size wo wx X [vs 15] vs W := hS; obtain ⟨y, hyw, hown5, hbe5⟩ := hS1; obtain ⟨X', HX'⟩ : ∃ X', Hid (X' = X ++ [y]) := ⟨_, rfl⟩; rw [← HX'.out] at hown5; obtain ⟨A5, c5, e5⟩ := hown5.shp; refine ⟨?_⟩; simp only [Act.put, sA, sB, sC, Nat.zero_add, Nat.reduceAdd, e5] at hK ⊢; go_simp; with_reducible refine hK _ _ ?_
       show _ = _ ∧ _
       rw [e5] at hown5 ⊢; exact ⟨rfl, y, hyw, by rw [← HX'.out]; exact hown5, hbe5⟩
     ·intro vs W hS _; have hS2 : SMa (ratP pb qb) wo.heap.size wo wx X [vs 15, vs 16] vs W := hS; obtain ⟨e16, y, hyw, hown5, hbe5⟩ := hS2; obtain ⟨X', HX'⟩ : ∃ X', Hid (X' = X ++ [y]) := ⟨_, rfl⟩; rw [← HX'.out] at hown5; obtain ⟨A5, c5, e15⟩ := hown5.shp; rw [e15] at hown5 e16; have HXL5 : Hid (X'.length = kk + 1) := by show _ = _; rw [HX'.out, List.length_append, HXL.out]; rfl
      have HXW5 : Hid (∀ s ∈ X', wrongB (ratP pb qb) s = false) := fun s hs => by
       rw [HX'.out] at hs
       rcases List.mem_append.1 hs with hs | hs
       ·exact HXW.out s hs
       ·rw [List.mem_singleton] at hs; rw [hs]; exact hyw
      simp only [Act.put, sA, sB, sC, Nat.zero_add, Nat.reduceAdd, e15, e16]; clear hown HXL HXW hyw P0 P1 hlx hbdx hS hBPx; go_wp2_with fail
      go_roundg (G2 - 1)
      case measure => omega
      case rel => exact ⟨kk + 1, X', by go_num, by omega, hown5, HXL5, HXW5, hbe5⟩
    ·have t2 : decide ((kk : Int) ≤ (n : Int)) = false := by simp; omega
     have hbA := bA wx (.cells #[.slice Ao kk co] 34); have hown6 := hown.below hbA; have hbx6 := Below.tr hbx hbA; have hrd6 := Rd.newC wx 34 [.slice Ao kk co]; have hlen : rows.length ≤ 1048576 := by have := HRL.out; omega
     have hBP6 := hBPx.below hbA hBPx.lt; have hbs : gP + 1 ≤ wo.heap.size := hltP; clear P0 P1 hBPx
     go_wp2_with (at_builtin; go_loud (refine wpList_push2 rfl (.tmp 47) (.tmp 49) rfl wo (gP + 1) _ rows rfl hrs hbx6 (some ⟨wx.heap.size, 0, none⟩) 1 Ao kk co X rfl hown6 hrd6 hlen hbs ?_); intro v7 w7 hrs7 hg7 hkp7; obtain ⟨rows7, HR7⟩ : ∃ r, Hid (r = rows ++ [X]) := ⟨_, rfl⟩; rw [← HR7.out] at hrs7; have HRL7 : Hid (rows7.length = n + 1) := (by show _ = _; rw [HR7.out, List.length_append, HRL.out]; rfl); obtain ⟨n7, HN7⟩ : ∃ m, Hid (m = n + 1) := ⟨_, rfl⟩; obtain ⟨S7, c7, rfl⟩ := hrs7.shp; rw [HRL7.out, ← HN7.out] at hrs7; rw [HRL7.out, ← HN7.out]; have hBP7 := hBP6.grown hg7 (fun j hj => by have := hrs.ge j hj; omega); have f7 := hBP7.cell 2; have f8 := hBP7.frozen 2; simp only [List.getElem?_toArray, List.getElem?_cons_zero, List.getElem?_cons_succ] at f7)
     have HOK7 : Hid (RowsOk (ratP pb qb) rows7) := by
      show RowsOk _ _
      rw [HR7.out]; exact HOK.out.snoc (by rw [HXL.out, HRL.out]; omega) HXW.out
     have hbe7 : Below w2.heap.size w2 w7 := (hbe.trans (hbx6.mono hbe.size)).grown hg7 (Nat.le_trans hbe.size hbx6.size) (fun j hj => by have := hrs.ge j hj; have := hgP.out; omega); have hBP8 := hBP7.set_ 2 (.slice S7 n7 c7); have hrs8 := hrs7.keepG (KeepG.set hBP7 (noU_sl _ _ _ _ _ _ _ _ _) (Nat.lt_succ_self gP) 2 (.slice S7 n7 c7)); have hbe8 := hbe7.setCell (p := ⟨gP, 2, none⟩) (by have := hgP.out; show w2.heap.size ≤ gP; omega) (.slice S7 n7 c7); simp only [sA, sB, sC] at hBP8; clear hown hown6 hrs7 hrs hg7 hkp7 hBP7 hBP6 hbx6 hbA hrd6 hBP; rw [HN7.out] at hBP8 hrs8 hbe8; go_wp2_with fail
     go_roundg (G - 1)
     case measure => omega
     case rel => rw [HN7.out]; exact ⟨n + 1, rows7, S7, c7, by go_num, by omega, HRL7, HOK7, hBP8, hrs8, hbe8⟩
  ·have t1 : decide ((n : Int) < (R : Int)) = false := by simp; omega
   have hBRo := hBR.below hbe hRlt; have p0 := hBP.cell 0; have p1 := hBP.cell 1; have p2 := hBP.cell 2; have q0 := hBRo.cell 0; have q1 := hBRo.cell 1; have q2 := hBRo.cell 2; have r0 := hBRo.frozen 0; have r1 := hBRo.frozen 1; have r2 := hBRo.frozen 2; simp only [List.getElem?_toArray, List.getElem?_cons_zero, List.getElem?_cons_succ] at p0 p1 p2 q0 q1 q2; have hf := ((hBRo.set_ 0 (.slice X1 xk1 xc1)).set_ 1 (.slice X2 xk2 xc2)).set_ 2 (.slice S n cS); have z0 := hf.cell 0; have z1 := hf.cell 1; have z2 := hf.cell 2; simp at z0 z1 z2; have hk3 := KeepG.set3 (base := gP + 1) hBRo (by have := hgP.out; omega) X1 xk1 xc1 X2 xk2 xc2 S n cS
   have hrsz := (hrs.keepG hk3).rows (by have := HRL.out; omega) (fun r hr => by
    obtain ⟨i, hi, rfl⟩ := List.getElem_of_mem hr; have := (HOK.out i _ (List.getElem?_eq_getElem hi)).1; have := HRL.out
    omega)
   have hbdz := (hbd.below hbe).mapL hk3.lim; have hb9 := hb12.trans (hbe.mono hb12.size); have hbz : Below w.heap.size w (((wo.setCell ⟨gR, 0, none⟩ (.slice X1 xk1 xc1)).setCell ⟨gR, 1, none⟩ (.slice X2 xk2 xc2)).setCell ⟨gR, 2, none⟩ (.slice S n cS)) := ((hb9.setCell (p := ⟨gR, 0, none⟩) hge _).setCell (p := ⟨gR, 1, none⟩) hge _).setCell (p := ⟨gR, 2, none⟩) hge _; have HPE := Lib.hid (planE_ok (b := ratP pb qb) (rows := rows) (by have := HRL.out; omega) HPT.out HOK.out); have hln : rows.length ≤ most := by have := HRL.out; omega
   clear hrs hBP hBRo hf hk3 hb9 hbe HOK HRL; go_wp2_with fail; exact bodyPost_ret (v := .agg #[.slice X1 xk1 xc1, .slice X2 xk2 xc2, .slice S n cS]) (by simp [results, Tryz.results6, go_sem, z0, z1, z2]) rfl ⟨_, ratP pb qb, rows, rfl, ⟨_, _, S, n, cS, rfl, hbdz, hrsz⟩, HPE.out, hln, hbz⟩
end Go.Proofs.YtnjjdiilkhdbeaaGreat
namespace Go.Proofs.YtnjjdiilkhdbeaaGreat
open Go Go.RowKit
theorem make_rat (k : Int) (n : Nat) (hk : k = n) (hn : n ≤ 1048576) (w : World) :
  (Instr.makeSlice 34 (.int .i64 k) (.int .i64 k)).run Tryz.prog w = .ok (.slice (some ⟨w.heap.size, 0, none⟩) n n) (w.alloc (.cells (List.replicate (n * 2) (Value.slice none 0 0)).toArray 25)) := by
 subst hk; obtain ⟨i0, hi, hz0, hz1, hz2⟩ := info_parts info_ratio; have h := run_make (P := Tryz.prog) w 34 25 i0 nilRat Tryz.underlying34 hi hz0 .i64 .i64 n n (by omega) (by omega) (by rw [hz2]; omega) (by omega); rw [h]
 have e : madeCells nilRat.cells (n * 2) = (List.replicate (n * 2) (Value.slice none 0 0)).toArray := by
  apply Array.ext_getElem?
  intro i; by_cases hi : i < n * 2
  ·have e2 : (List.replicate (n * 2) (Value.slice none 0 0)).toArray[i]? = some (Value.slice none 0 0) := by rw [List.getElem?_toArray, List.getElem?_replicate, if_pos hi]
   rw [e2]; have hz : nilRat.cells = #[Value.slice none 0 0, Value.slice none 0 0] := rfl; rw [hz]; have h2 : i % 2 = 0 ∨ i % 2 = 1 := by omega
   rcases h2 with h2 | h2 <;> simp [madeCells, hi, h2]
  ·rw [Array.getElem?_eq_none (by simp [size_madeCells]; omega), Array.getElem?_eq_none (by simp; omega)]
 simp only [Int.toNat_natCast, hz1, e]
theorem set_mid {P : List LP} {a y : LP} {l : List LP} {k : Nat} (h : P.length = k) : (P ++ a :: l).set k y = P ++ y :: l := by
 subst h; rw [List.set_append_right _ _ (Nat.le_refl _), Nat.sub_self]; rfl
theorem set_mid2 {P : List LP} {a z y : LP} {l : List LP} {k : Nat} (h : P.length = k) : (P ++ a :: z :: l).set (k + 1) y = P ++ a :: y :: l := by
 subst h; rw [List.set_append_right _ _ (by omega), Nat.add_sub_cancel_left]; rfl
theorem get_mid {P : List LP} {a : LP} {l : List LP} {k : Nat} (h : P.length = k) : (P ++ a :: l)[k]? = some a := by
 subst h; rw [List.getElem?_append_right (Nat.le_refl _), Nat.sub_self]; rfl
theorem get_mid2 {P : List LP} {a z : LP} {l : List LP} {k : Nat} (h : P.length = k) : (P ++ a :: z :: l)[k + 1]? = some z := by
 subst h; rw [List.getElem?_append_right (by omega), Nat.add_sub_cancel_left]; rfl
def PhiE8 (q1 q2 : Value) (q : LP) (B : Nat) (j : Nat) (w : World) (x : Value) : Prop :=
 match j with
 | 0 => RtP w x oneP
 | 1 => x = .agg #[q1, q2]
 | 2 => ∃ v er, x = .tuple #[v, .int .i64 er] ∧ RtP w v (subV oneP q)
 | 3 => RtP w x (subV oneP q)
 | 4 => ∃ er : Int, x = .int .i64 er
 | 5 => ∃ Y1 y2 y3 Y4 y5 y6, x = .agg #[.slice Y1 y2 y3, .slice Y4 y5 y6] ∧ RtP w (.agg #[.slice Y1 y2 y3, .slice Y4 y5 y6]) (subV oneP q)
 | 6 => ∃ g, x = .pointer (some ⟨g, 0, none⟩) ∧ B ≤ g ∧ Sl w g
 | 7 => True
 | _ => True
theorem PhiE8.keep {q1 q2 : Value} {q : LP} {B : Nat} : ∀ (w w' : World), RT B w w' → ∀ j x, PhiE8 q1 q2 q B j w x → PhiE8 q1 q2 q B j w' x := by
 intro w w' hr j x h; unfold PhiE8 at h ⊢
 split <;> simp only at h ⊢
 all_goals first
  | exact h
  | exact h.mapL hr.lim
  | (obtain ⟨v, er, e, h⟩ := h; exact ⟨v, er, e, h.mapL hr.lim⟩)
  | (obtain ⟨A, k, c, A', k', c', e, h⟩ := h; exact ⟨A, k, c, A', k', c', e, h.mapL hr.lim⟩)
  | (obtain ⟨g, e, h1, h2⟩ := h; exact ⟨g, e, h1, hr.sl g h2⟩)
def PhiEb (gN kS cS m k : Nat) (S : Option Addr) (c1 c2 p1 p2 x1 x2 : Value) (c p f : LP) (vs : Nat → Value) (j : Nat) (w : World) (x : Value) : Prop :=
 match j with
 | 0 => x = .func (.func 37) #[] #[.pointer (some ⟨gN, 0, none⟩)]
 | 1 => x = .int .i64 (k : Nat)
 | 2 => x = .agg #[c1, c2]
 | 3 => x = .agg #[p1, p2]
 | 4 => x = .agg #[x1, x2, .slice S kS cS]
 | 5 => x = .int .i64 (m : Nat)
 | 6 => x = .int .i64 (k : Nat)
 | 7 => RtP w x f
 | _ => True
theorem PhiEb.keepR {gN kS cS m k : Nat} {S : Option Addr} {c1 c2 p1 p2 x1 x2 : Value} {c p f : LP} : ∀ vs (w w' : World), Below w.heap.size w w' → ∀ j x, PhiEb gN kS cS m k S c1 c2 p1 p2 x1 x2 c p f vs j w x → PhiEb gN kS cS m k S c1 c2 p1 p2 x1 x2 c p f vs j w' x := by
 intro vs w w' hb j x h; unfold PhiEb at h ⊢
 split <;> simp only at h ⊢
 all_goals first
  | exact h
  | exact h.below hb
  | (obtain ⟨v, er, e, h⟩ := h; exact ⟨v, er, e, h.below hb⟩)
theorem PhiEb.keepF {gN kS cS m k : Nat} {S : Option Addr} {c1 c2 p1 p2 x1 x2 : Value} {c p f : LP} : ∀ vs (w w' : World) j x, ([] : List Nat).contains j = true → PhiEb gN kS cS m k S c1 c2 p1 p2 x1 x2 c p f vs j w x → PhiEb gN kS cS m k S c1 c2 p1 p2 x1 x2 c p f vs j w' x := by
 intro vs w w' j x hf
 cases hf
def PhiEc (gN kS cS m k : Nat) (S : Option Addr) (c1 c2 p1 p2 x1 x2 : Value) (c p f : LP) (vs : Nat → Value) (j : Nat) (w : World) (x : Value) : Prop :=
 match j with
 | 0 => x = .func (.func 37) #[] #[.pointer (some ⟨gN, 0, none⟩)]
 | 1 => x = .int .i64 (k : Nat)
 | 2 => x = .int .i64 ((k : Int) + 1)
 | 3 => x = .agg #[c1, c2]
 | 4 => x = .agg #[p1, p2]
 | 5 => x = .agg #[x1, x2, .slice S kS cS]
 | 6 => x = .int .i64 (m : Nat)
 | 7 => x = .int .i64 (k : Nat)
 | 8 => RtP w x f
 | _ => True
theorem PhiEc.keepR {gN kS cS m k : Nat} {S : Option Addr} {c1 c2 p1 p2 x1 x2 : Value} {c p f : LP} : ∀ vs (w w' : World), Below w.heap.size w w' → ∀ j x, PhiEc gN kS cS m k S c1 c2 p1 p2 x1 x2 c p f vs j w x → PhiEc gN kS cS m k S c1 c2 p1 p2 x1 x2 c p f vs j w' x := by
 intro vs w w' hb j x h; unfold PhiEc at h ⊢
 split <;> simp only at h ⊢
 all_goals first
  | exact h
  | exact h.below hb
  | (obtain ⟨v, er, e, h⟩ := h; exact ⟨v, er, e, h.below hb⟩)
theorem PhiEc.keepF {gN kS cS m k : Nat} {S : Option Addr} {c1 c2 p1 p2 x1 x2 : Value} {c p f : LP} : ∀ vs (w w' : World) j x, ([] : List Nat).contains j = true → PhiEc gN kS cS m k S c1 c2 p1 p2 x1 x2 c p f vs j w x → PhiEc gN kS cS m k S c1 c2 p1 p2 x1 x2 c p f vs j w' x := by
 intro vs w w' j x hf
 cases hf
set_option maxRecDepth 100000 in
set_option maxHeartbeats 4000000 in
theorem expect_F (va vq : Value) (b q : LP) (rows : List (List LP)) (n : Int) (w : World) (hp : PlanV w va b rows) (hq : RtP w vq q) :
  Calls Tryz.prog 11 #[va, vq, .int .i64 n] w fun e w' => ∃ v, e = .returned (.tuple #[v, .int .i64 (expE b rows q n)]) ∧ RtP w' v (expX b rows q n) ∧ Below w.heap.size w w' := by
 obtain ⟨x1, x2, S, kS, cS, rfl, hbd, hrows⟩ := hp; obtain ⟨Q1, qk1, qc1, Q2, qk2, qc2, rfl⟩ := hq.shape; obtain ⟨E, HE⟩ : ∃ E, Hid (E = expE b rows q n) := ⟨_, rfl⟩; obtain ⟨X, HX0⟩ : ∃ X, Hid (X = expX b rows q n) := ⟨_, rfl⟩; have HXE : Hid (E ≠ 0 → X = nilP) := fun h => by rw [HX0.out]; unfold expX; rw [if_pos (by rw [← HE.out]; exact h)]
 rw [← HE.out, ← HX0.out]
 go_enter Tryz.func11, Tryz.ntmps11
 go_upto_region 1 with fail; refine wp_name ?_; intro w1 HW1; have hb1 : Below w.heap.size w w1 := by rw [HW1.out]; exact (Below.tr (Below.tr (bA _ _) (bA _ _)) (bA _ _))
 have hB1 : Blk w1 w.heap.size 38 #[x1, x2, .slice S kS cS] := by rw [HW1.out]; exact Blk.below (Blk.newG rfl) (Below.tr (bA _ _) (bA _ _)) (Blk.newG rfl).lt
 have hB2 : Blk w1 (w.heap.size + 1) 25 #[.slice Q1 qk1 qc1, .slice Q2 qk2 qc2] := by rw [HW1.out]; exact Blk.below (Blk.newG (by simp)) (bA _ _) (by simp)
 have hs1 : Sl w1 (w.heap.size + 1 + 1) := by rw [HW1.out]; exact ⟨none, 0, 0, none, 0, 0, Blk.newG (by simp)⟩
 clear HW1; obtain ⟨gp, hgp⟩ : ∃ g, Hid (g = w.heap.size) := ⟨_, rfl⟩; obtain ⟨gq, hgq⟩ : ∃ g, Hid (g = w.heap.size + 1) := ⟨_, rfl⟩; obtain ⟨gr, hgrr⟩ : ∃ g, Hid (g = w.heap.size + 1 + 1) := ⟨_, rfl⟩; have hgr : w.heap.size ≤ gr := by have := hgrr.out; omega
 rw [← hgrr.out] at hs1 ⊢; rw [← hgq.out] at hB2 ⊢; rw [← hgp.out] at hB1 ⊢; have hpl : PlanV w1 (.agg #[x1, x2, .slice S kS cS]) b rows := ⟨x1, x2, S, kS, cS, rfl, hbd.below hb1, hrows.below hb1⟩; have hqv := hq.below hb1; have p0 := hB1.cell 0; have p1 := hB1.cell 1; have p2 := hB1.cell 2; have q0 := hB2.cell 0; have q1 := hB2.cell 1; simp only [List.getElem?_toArray, List.getElem?_cons_zero, List.getElem?_cons_succ] at p0 p1 p2 q0 q1; clear hgp hgrr hB1 hbd hrows hgq hB2 hq; go_wp2_with fail; refine (wvalid_F _ b rows _ hpl).mono ?_; rintro e w2 ⟨rfl, hb2⟩; have hbw2 := Below.tr hb1 hb2; have hs2 := hs1.below hb2; by_cases h0 : planE b rows = 0
 ·have HPE := Lib.hid h0; rw [h0]; clear h0; have p0 := cell_keep hb2 p0; have p1 := cell_keep hb2 p1; have p2 := cell_keep hb2 p2; have q0 := cell_keep hb2 q0; have q1 := cell_keep hb2 q1; have hpl := hpl.below hb2; have hqv := hqv.below hb2; go_wp2_with fail; refine (wpart_F _ q _ hqv).mono ?_; rintro e w3 ⟨rfl, hb3⟩; have hbw3 := Below.tr hbw2 hb3; have hs3 := hs2.below hb3
  cases hpq : partB q
  ·have HF : Hid (E = 1) := by show _ = _; rw [HE.out]; unfold expE; rw [if_neg (by rw [HPE.out]; simp), if_pos hpq]
   have HX : Hid (X = nilP) := HXE.out (by rw [HF.out]; decide); clear hpq p0 p1 p2 q0 q1; obtain ⟨A', k', c', A'', k'', c'', he, ⟨a1, e1⟩, ⟨a2, e2⟩, e3, e4, z1, z2, hr, hbz⟩ := ret_ratio (w0 := w) (nil_rtP w3) hs3 hgr hbw3; simp only [nilRat, Value.agg.injEq, Array.mk.injEq, List.cons.injEq, and_true, Value.slice.injEq] at he; obtain ⟨⟨rfl, rfl, rfl⟩, rfl, rfl, rfl⟩ := he; go_wp2_with fail; exact bodyPost_ret (v := .tuple #[.agg #[.slice none 0 0, .slice none 0 0], .int .i64 _]) (by simp [results, Tryz.results11, go_sem, z1, z2]; rfl) rfl ⟨_, by rw [HF.out], by rw [HX.out]; exact hr, hbz⟩
  ·have HPQ := Lib.hid hpq; clear hpq; have p0 := cell_keep hb3 p0; have p1 := cell_keep hb3 p1; have p2 := cell_keep hb3 p2; have q0 := cell_keep hb3 q0; have q1 := cell_keep hb3 q1; have hpl := hpl.below hb3; have hqv := hqv.below hb3; have HE2 : Hid (E = if n < 0 ∨ 16 < n then 5 else 0) := by show _ = _; rw [HE.out]; unfold expE; rw [if_neg (by rw [HPE.out]; simp), if_neg (by rw [HPQ.out]; simp)]
   by_cases hn : n < 0
   ·have t1 : decide (n < 0) = true := by simpa using hn
    have HF : Hid (E = 5) := by show _ = _; rw [HE2.out, if_pos (.inl hn)]
    have HX : Hid (X = nilP) := HXE.out (by rw [HF.out]; decide); clear p0 p1 p2 q0 q1 hn; obtain ⟨A', k', c', A'', k'', c'', he, ⟨a1, e1⟩, ⟨a2, e2⟩, e3, e4, z1, z2, hr, hbz⟩ := ret_ratio (w0 := w) (nil_rtP w3) hs3 hgr hbw3; simp only [nilRat, Value.agg.injEq, Array.mk.injEq, List.cons.injEq, and_true, Value.slice.injEq] at he; obtain ⟨⟨rfl, rfl, rfl⟩, rfl, rfl, rfl⟩ := he; go_wp2_with fail; exact bodyPost_ret (v := .tuple #[.agg #[.slice none 0 0, .slice none 0 0], .int .i64 _]) (by simp [results, Tryz.results11, go_sem, z1, z2]; rfl) rfl ⟨_, by rw [HF.out], by rw [HX.out]; exact hr, hbz⟩
   ·have t1 : decide (n < 0) = false := by simpa using hn
    by_cases hn2 : n > 16
    ·have t2 : decide (n > 16) = true := by simpa using hn2
     have HF : Hid (E = 5) := by show _ = _; rw [HE2.out, if_pos (.inr hn2)]
     have HX : Hid (X = nilP) := HXE.out (by rw [HF.out]; decide); clear p0 p1 p2 q0 q1 hn hn2; obtain ⟨A', k', c', A'', k'', c'', he, ⟨a1, e1⟩, ⟨a2, e2⟩, e3, e4, z1, z2, hr, hbz⟩ := ret_ratio (w0 := w) (nil_rtP w3) hs3 hgr hbw3; simp only [nilRat, Value.agg.injEq, Array.mk.injEq, List.cons.injEq, and_true, Value.slice.injEq] at he; obtain ⟨⟨rfl, rfl, rfl⟩, rfl, rfl, rfl⟩ := he; go_wp2_with fail; exact bodyPost_ret (v := .tuple #[.agg #[.slice none 0 0, .slice none 0 0], .int .i64 _]) (by simp [results, Tryz.results11, go_sem, z1, z2]; rfl) rfl ⟨_, by rw [HF.out], by rw [HX.out]; exact hr, hbz⟩
    ·have t2 : decide (n > 16) = false := by simpa using hn2
     have HF : Hid (E = 0) := by show _ = _; rw [HE2.out, if_neg (by omega)]
     obtain ⟨nn, rfl⟩ := Int.eq_ofNat_of_zero_le (show 0 ≤ n by omega); have hnn : nn ≤ 16 := by omega
     have HX : Hid (X = (sumF nilP (expL b rows q nn)).2) := by
      show _ = _
      rw [HX0.out]; unfold expX; rw [if_neg (by rw [← HE.out, HF.out]; decide)]; rfl
     clear hn hn2 HE HE2 HX0 HXE; go_upto_region 8 with fail; refine region_invW (PhiE8 (.slice Q1 qk1 qc1) (.slice Q2 qk2 qc2) q w3.heap.size) (RT w3.heap.size) (SD w3 5 6 7) (by kernel_rfl) (by kernel_rfl) (by kernel_rfl) PhiE8.keep (SD.start _ _ _ _ _) (fun vs => by simp only [fillR, Act.put, sA, sB, sC, Nat.zero_add, Nat.reduceAdd]; rfl) ?_ ?_
     ·refine sK ?_ (sK ?_ (sK ?_ (sK ?_ (sK ?_ (sK ?_ (sK ?_ (sK ?_ (sZ))))))))
      ·as_aux_lemma =>
       intro vs L W hS hL cl hdl hdep K hK; refine ⟨?_⟩; simp only [Act.put, sA, sB, sC, Nat.zero_add, Nat.reduceAdd] at hK ⊢; go_simp; refine (wone_F _).mono ?_; rintro e w' ⟨v, rfl, hv, hb⟩; go_wp2_with fail; with_reducible refine hK _ _ (RT.below hb hS.be.size) (hS.step hb 0 _ (by decide) (fun e => absurd e (by decide))) ?_
       exact hv
      ·as_aux_lemma =>
       intro vs L W hS hL cl hdl hdep K hK; have f1 := cell_keep hS.be q0; have f2 := cell_keep hS.be q1; refine ⟨?_⟩; simp only [Act.put, sA, sB, sC, Nat.zero_add, Nat.reduceAdd] at hK ⊢; go_simp; with_reducible refine hK _ _ (RT.refl _ _) (hS.step (Below.refl _ _) 1 _ (by decide) (fun e => absurd e (by decide))) ?_
       exact rfl
      ·as_aux_lemma =>
       intro vs L W hS hL cl hdl hdep K hK; have d0 := hdep ⟨0, .data⟩ (by simp) rfl; simp only [PhiE8] at d0; have r0 := d0; clear d0; have d1 := hdep ⟨1, .data⟩ (by simp) rfl; simp only [PhiE8] at d1; refine ⟨?_⟩; simp only [Act.put, sA, sB, sC, Nat.zero_add, Nat.reduceAdd, d1] at hK ⊢; go_simp; refine (sub_V _ _ oneP q _ r0 (hqv.below hS.be)).mono ?_; rintro e w' ⟨v, er, rfl, hv, hb⟩; go_wp2_with fail; with_reducible refine hK _ _ (RT.below hb hS.be.size) (hS.step hb 2 _ (by decide) (fun e => absurd e (by decide))) ?_
       exact ⟨v, er, rfl, hv⟩
      ·as_aux_lemma =>
       intro vs L W hS hL cl hdl hdep K hK; have d0 := hdep ⟨2, .data⟩ (by simp) rfl; simp only [PhiE8] at d0; refine @exE2 _ _ _ _ d0 ?_; clear d0; intro v0 er0 d0; have e0 := d0.1; have n0 := d0.2; clear d0; refine ⟨?_⟩; simp only [Act.put, sA, sB, sC, Nat.zero_add, Nat.reduceAdd, e0] at hK ⊢; go_simp; with_reducible refine hK _ _ (RT.refl _ _) (hS.step (Below.refl _ _) 3 _ (by decide) (fun e => absurd e (by decide))) ?_
       exact n0
      ·as_aux_lemma =>
       intro vs L W hS hL cl hdl hdep K hK; have d0 := hdep ⟨2, .data⟩ (by simp) rfl; simp only [PhiE8] at d0; refine @exE2 _ _ _ _ d0 ?_; clear d0; intro v0 er0 d0; have e0 := d0.1; have n0 := d0.2; clear d0; refine ⟨?_⟩; simp only [Act.put, sA, sB, sC, Nat.zero_add, Nat.reduceAdd, e0] at hK ⊢; go_simp; with_reducible refine hK _ _ (RT.refl _ _) (hS.step (Below.refl _ _) 4 _ (by decide) (fun e => absurd e (by decide))) ?_
       exact ⟨_, rfl⟩
      ·as_aux_lemma =>
       intro vs L W hS hL cl hdl hdep K hK; have d0 := hdep ⟨3, .data⟩ (by simp) rfl; simp only [PhiE8] at d0; have r0 := d0; clear d0; have d1 := hdep ⟨4, .data⟩ (by simp) rfl; simp only [PhiE8] at d1; refine @exE1 _ _ _ d1 ?_; clear d1; intro er1 d1; have e1 := d1; clear d1
       have h7 : L 7 = false := by
        cases h : L 7 with
        | false => rfl
        | true => exact absurd (cl 7 _ rfl h ⟨5, .data⟩ (by simp) rfl) (by rw [hL]; decide)
       refine ⟨?_⟩; simp only [Act.put, sA, sB, sC, Nat.zero_add, Nat.reduceAdd, e1] at hK ⊢; go_simp; refine (sure_F _ _ (subV oneP q) _ r0).mono ?_; rintro e w' ⟨v, rfl, hv, hb⟩; obtain ⟨A, k, c, A', k', c', rfl⟩ := hv.shape; go_wp2_with fail; with_reducible refine hK _ _ (RT.below hb hS.be.size) (hS.step hb 5 _ (by decide) (fun _ => h7)) ?_
       exact ⟨_, _, _, _, _, _, rfl, hv⟩
      ·as_aux_lemma =>
       intro vs L W hS hL cl hdl hdep K hK
       have h7 : L 7 = false := by
        cases h : L 7 with
        | false => rfl
        | true => exact absurd (cl 7 _ rfl h ⟨6, .data⟩ (by simp) rfl) (by rw [hL]; decide)
       refine ⟨?_⟩; simp only [Act.put, sA, sB, sC, Nat.zero_add, Nat.reduceAdd] at hK ⊢; go_simp; with_reducible refine hK _ _ (RT.below (bA _ _) hS.be.size) (hS.step (bA _ _) 6 _ (by decide) (fun _ => h7)) ?_
       exact ⟨_, rfl, hS.be.size, none, 0, 0, none, 0, 0, Blk.new _ _ _⟩
      ·as_aux_lemma =>
       intro vs L W hS hL cl hdl hdep K hK; have d0 := hdep ⟨6, .data⟩ (by simp) rfl; simp only [PhiE8] at d0; refine @exE1 _ _ _ d0 ?_; clear d0; intro g0 d0; have e0 := d0.1; have l0 := d0.2.1; have s0 := d0.2.2; clear d0; have d1 := hdep ⟨5, .data⟩ (by simp) rfl; simp only [PhiE8] at d1; refine @exE6 _ _ _ _ _ _ _ _ d1 ?_; clear d1; intro A1 k1 c1 B1 m1 d1 d1; have e1 := d1.1; have n1 := d1.2; clear d1; obtain ⟨⟨a1, q1⟩, ⟨a2, q2⟩, q3, q4⟩ := s0.facts; refine ⟨?_⟩; simp only [Act.put, sA, sB, sC, Nat.zero_add, Nat.reduceAdd, e0, e1] at hK ⊢; go_simp; with_reducible refine hK undef _ (RT.store s0 l0 _ _ _ _ _ _) (hS.stored e0 e1 l0 s0 (by decide) (by decide) _) ?_
       exact trivial
     ·intro vs L w4 hS hall hv; have v8 := hv 5 (by simp); simp only [PhiE8] at v8; obtain ⟨_, _, _, _, _, _, e8', ho⟩ := v8; obtain ⟨gS, A9, k9, c9, B9, m9, d9, e10, e8, hgN, hblk⟩ := hS.st (hall 7 (by simp)); rw [e8] at e8'; rw [← e8'] at ho; have HO := Lib.hid ho; have hbe := hS.be; clear hv hS hall e8' ho; simp only [Act.put, sA, sB, sC, Nat.zero_add, Nat.reduceAdd, e10, e8]; have hbw4 := Below.tr hbw3 hbe; have hs4 := hs3.below hbe; have p0 := cell_keep hbe p0; have p1 := cell_keep hbe p1; have p2 := cell_keep hbe p2; have q0 := cell_keep hbe q0; have q1 := cell_keep hbe q1; have hpl := hpl.below hbe; have hqv := hqv.below hbe; have e0 := hblk.cell 0; have e1 := hblk.cell 1; simp only [List.getElem?_toArray, List.getElem?_cons_zero, List.getElem?_cons_succ] at e0 e1; have hR := HO.out; have HROW := Lib.hid (fun i r => plan_row (n := i) (r := r) HPE.out); clear hblk HO; go_wp2_with fail; refine (wone_F _).mono ?_; rintro e w5 ⟨v, rfl, hv, hb5⟩; obtain ⟨C1, u1, o1, C2, u2, o2, rfl⟩ := hv.shape; have hown0 := (RatOwn.one hv).mono hb5.size; have hb50 := Below.tr hb5 (bA w5 (.cells #[.slice C1 u1 o1, .slice C2 u2 o2] 25)); clear hv hb5; go_wp2_with fail
      go_loopg [10, 45] nn (fun j x10 x45 wr => ∃ (m : Nat) (X5 : List LP), x45 = .int .i64 m ∧ m + j = nn ∧ RatOwn wr w4.heap.size x10 X5 ∧ Hid (X5 = expL b rows q m) ∧ Below w4.heap.size w4 wr)
      case atStart => exact ⟨0, [oneP], rfl, by omega, hown0, rfl, hb50⟩
      case round =>
       obtain ⟨G, hG⟩ : ∃ G, G = gk := ⟨gk, rfl⟩; subst hG; obtain ⟨m, X5, rfl, hmj, hown, HXE5, hbe5⟩ := hrel; obtain ⟨wo, hwo⟩ : ∃ wo, wo = wr := ⟨_, rfl⟩; subst hwo; obtain ⟨Ao, co, rfl⟩ := hown.shp; have HXL : Hid (X5.length = m + 1) := by show _ = _; rw [HXE5.out, expL_len]
       obtain ⟨n1, HN1⟩ : ∃ n, Hid (n = m + 1) := ⟨_, rfl⟩; rw [HXL.out, ← HN1.out] at hown ⊢; by_cases hm : m < nn
       ·have t3 : decide ((m : Int) < (nn : Int)) = true := by simp; omega
        obtain ⟨n2, HN2⟩ : ∃ n, Hid (n = m + 2) := ⟨_, rfl⟩; have hmk := make_rat ((m : Int) + 2) n2 (by rw [HN2.out]; push_cast; rfl) (by have := HN2.out; omega) wo; go_upto_region 15 with fail; refine wp_name ?_; intro w6 HW6; obtain ⟨gX, hgX⟩ : ∃ g, Hid (g = wo.heap.size) := ⟨_, rfl⟩; obtain ⟨gN, hgN⟩ : ∃ g, Hid (g = wo.heap.size + 1) := ⟨_, rfl⟩; have hb6 : Below wo.heap.size wo w6 := by rw [HW6.out]; exact Below.tr (bA _ _) (bA _ _)
        have hownY : RatOwn w6 wo.heap.size (.slice (some ⟨gX, 0, none⟩) n2 n2) (nilP :: List.replicate n1 nilP) := by
         have h := (RatOwn.made wo n2 (by have := HN2.out; omega)).below (bA _ (.cells #[.slice (some ⟨wo.heap.size, 0, none⟩) n2 n2] 34)); rw [List.toArray_replicate, ← HW6.out, ← hgX.out, show List.replicate n2 nilP = nilP :: List.replicate n1 nilP by rw [HN2.out, HN1.out]; rfl] at h; rw [← hgX.out]; exact h
        have hN : w6.cell? ⟨gN, 0, none⟩ = some (.slice (some ⟨gX, 0, none⟩) n2 n2) := by
         have h : Blk w6 gN 34 #[.slice (some ⟨gX, 0, none⟩) n2 n2] := by rw [HW6.out, hgX.out]; exact Blk.newG (by rw [hgN.out]; simp)
         rw [h.cell]; rfl
        have hgXN : gX ≠ gN := by have := hgX.out; have := hgN.out; omega
        have hgXo : wo.heap.size ≤ gX := by have := hgX.out; omega
        rw [← hgN.out, ← hgX.out]; clear HW6 hmk hgN; go_wp2_with fail
        go_loopg [54] n1 (fun j x54 wx => ∃ (k : Nat) (P : List LP) (a : LP), x54 = .int .i64 k ∧ k + j = n1 ∧ Hid (P.length = k) ∧ Hid (expStep b rows q m 0 nilP X5 = P ++ expStep b rows q m k a (X5.drop k)) ∧ RatOwn wx wo.heap.size (.slice (some ⟨gX, 0, none⟩) n2 n2) (P ++ a :: List.replicate (n1 - k) nilP) ∧ wx.cell? ⟨gN, 0, none⟩ = some (.slice (some ⟨gX, 0, none⟩) n2 n2) ∧ Below wo.heap.size wo wx)
        case atStart => exact ⟨0, [], nilP, rfl, by omega, rfl, rfl, hownY, hN, hb6⟩
        case round =>
         obtain ⟨G2, hG2⟩ : ∃ G, G = gk := ⟨gk, rfl⟩; subst hG2; obtain ⟨k, P, a, rfl, hkj, HPL, HST, hownx, hNx, hbx⟩ := hrel; obtain ⟨wx, hwx⟩ : ∃ wx, wx = wr := ⟨_, rfl⟩; subst hwx; have hbwx := hbe5.trans (hbx.mono hbe5.size); by_cases hk : k < n1
         ·have t4 : decide ((k : Int) < (n1 : Int)) = true := by simp; omega
          have hkn : (k : Int) < (n1 : Int) := by omega
          obtain ⟨bo, oo, c1, c2, c, rfl, g1, g2, HS, hcv⟩ := ((hown.below hbx).row (by have := HXL.out; omega)).at_ hk; obtain ⟨C1, u1, o1, C2, u2, o2, hsh⟩ := hcv.shape; simp only [Value.agg.injEq, Array.mk.injEq, List.cons.injEq, and_true] at hsh; obtain ⟨rfl, rfl⟩ := hsh; go_upto_region 18 with fail; refine wp_name ?_; intro wy HWy; have hby : Below wx.heap.size wx wy := by rw [HWy.out]; exact bA _ _
          have hBc : Blk wy wx.heap.size 25 #[.slice C1 u1 o1, .slice C2 u2 o2] := by rw [HWy.out]; exact Blk.new _ _ _
          obtain ⟨gC, hgC⟩ : ∃ g, Hid (g = wx.heap.size) := ⟨_, rfl⟩; rw [← hgC.out] at hBc ⊢; obtain ⟨Y, HY⟩ : ∃ Y, Hid (Y = P ++ a :: List.replicate (n1 - k) nilP) := ⟨_, rfl⟩; rw [← HY.out] at hownx
          have hXC : gX ≠ gC := by
           have h1 := hownx.lt gX rfl; have h2 := hgC.out; omega
          have hbwy := hbwx.trans (hby.mono hbwx.size); have hown7 := hownx.below hby; have hN7 := Lib.hid (cell_keep hby hNx); have hc7 := hcv.below hby; have hp7 := hR.below hbwy; have hpl7 := hpl.below hbwy; have d07 := Lib.hid (hBc.cell 0); have d17 := Lib.hid (hBc.cell 1); have e07 := Lib.hid (cell_keep hbwy e0); have e17 := Lib.hid (cell_keep hbwy e1); have P07 := Lib.hid (cell_keep hbwy p0); have P17 := Lib.hid (cell_keep hbwy p1); have P27 := Lib.hid (cell_keep hbwy p2); simp only [List.getElem?_toArray, List.getElem?_cons_zero, List.getElem?_cons_succ] at d07 d17; have HYK7 : Hid (Y[k]? = some a) := by show _ = _; rw [HY.out]; exact get_mid HPL.out
          have hm20 : m ≤ 1048576 := by omega
          have hk20 : k ≤ 17 := by have := HN1.out; omega
          have HKR : Hid (∀ r, rows[m]? = some r → k < r.length) := fun r h => by have := HROW.out _ _ h; have := HN1.out; omega
          clear HWy g1 g2 hBc; refine region_chain [8] [.early, .early, .early, .early, .early, .early, .early, .early, .chain 0] [] [] (PhiEb gN kS cS m k S (.slice C1 u1 o1) (.slice C2 u2 o2) (.slice A9 k9 c9) (.slice B9 m9 d9) x1 x2 c (subV oneP q) (factorV b rows m k false)) (fun w w' => Below w.heap.size w w') (SEa wo.heap.size wy gX n2 n2 (Y.set k (addV a (mulV c (mulV (subV oneP q) (factorV b rows m k false)))))) (by kernel_rfl) (by kernel_rfl) (by kernel_rfl) (by kernel_rfl) (sK (fun _ _ _ _ _ h => h) (sK (fun _ _ _ _ _ h => h) (sK (fun _ _ _ _ _ h => h) (sK (fun _ _ _ _ _ h => h) (sK (fun _ _ _ _ _ h => h) (sK (fun _ _ _ _ _ h => h) (sK (fun _ _ _ _ _ h => h) (sK (fun _ _ _ _ _ h => h) (sK (fun _ _ _ _ _ h => h) (sZ)))))))))) PhiEb.keepR PhiEb.keepF (fun _ _ _ _ hR hS => Below.tr hS hR) (by rintro (_ | ⟨_, _ | _⟩) vs vs' w _ h <;> exact h) (fun _ => bD _) (fun vs => by simp only [fillR, Act.put, sA, sB, sC, Nat.zero_add, Nat.reduceAdd]; rfl) ?_ ?_
          ·refine sK ?_ (sK ?_ (sK ?_ (sK ?_ (sK ?_ (sK ?_ (sK ?_ (sK ?_ (sK ?_ (sZ)))))))))
           ·as_aux_lemma =>
            intro vs W hS hu hdep K hK; have HU := Lib.hid hu; clear hu; refine ⟨?_⟩; simp only [Act.put, sA, sB, sC, Nat.zero_add, Nat.reduceAdd] at hK ⊢; go_simp; with_reducible refine hK _ _ (Below.refl _ _) ?_
            exact rfl
           ·as_aux_lemma =>
            intro vs W hS hu hdep K hK; have HU := Lib.hid hu; clear hu; refine ⟨?_⟩; simp only [Act.put, sA, sB, sC, Nat.zero_add, Nat.reduceAdd] at hK ⊢; go_simp; with_reducible refine hK _ _ (Below.refl _ _) ?_
            exact rfl
           ·as_aux_lemma =>
            intro vs W hS hu hdep K hK; have HU := Lib.hid hu; clear hu; have f0 := cell_keep hS d07.out; have f1 := cell_keep hS d17.out; refine ⟨?_⟩; simp only [Act.put, sA, sB, sC, Nat.zero_add, Nat.reduceAdd] at hK ⊢; go_simp; with_reducible refine hK _ _ (Below.refl _ _) ?_
            exact rfl
           ·as_aux_lemma =>
            intro vs W hS hu hdep K hK; have HU := Lib.hid hu; clear hu; have f0 := cell_keep hS e07.out; have f1 := cell_keep hS e17.out; refine ⟨?_⟩; simp only [Act.put, sA, sB, sC, Nat.zero_add, Nat.reduceAdd] at hK ⊢; go_simp; with_reducible refine hK _ _ (Below.refl _ _) ?_
            exact rfl
           ·as_aux_lemma =>
            intro vs W hS hu hdep K hK; have HU := Lib.hid hu; clear hu; have f0 := cell_keep hS P07.out; have f1 := cell_keep hS P17.out; have f2 := cell_keep hS P27.out; refine ⟨?_⟩; simp only [Act.put, sA, sB, sC, Nat.zero_add, Nat.reduceAdd] at hK ⊢; go_simp; with_reducible refine hK _ _ (Below.refl _ _) ?_
            exact rfl
           ·as_aux_lemma =>
            intro vs W hS hu hdep K hK; have HU := Lib.hid hu; clear hu; refine ⟨?_⟩; simp only [Act.put, sA, sB, sC, Nat.zero_add, Nat.reduceAdd] at hK ⊢; go_simp; with_reducible refine hK _ _ (Below.refl _ _) ?_
            exact rfl
           ·as_aux_lemma =>
            intro vs W hS hu hdep K hK; have HU := Lib.hid hu; clear hu; refine ⟨?_⟩; simp only [Act.put, sA, sB, sC, Nat.zero_add, Nat.reduceAdd] at hK ⊢; go_simp; with_reducible refine hK _ _ (Below.refl _ _) ?_
            exact rfl
           ·as_aux_lemma =>
            intro vs W hS hu hdep K hK; have HU := Lib.hid hu; clear hu; have d0 := hdep ⟨4, .data⟩ (by simp) rfl; simp only [PhiEb] at d0; have d1 := hdep ⟨5, .data⟩ (by simp) rfl; simp only [PhiEb] at d1; have d2 := hdep ⟨6, .data⟩ (by simp) rfl; simp only [PhiEb] at d2; refine ⟨?_⟩; simp only [fillR, Act.put, sA, sB, sC, Nat.zero_add, Nat.reduceAdd, d0, d1, d2] at hK ⊢; go_simp; refine (factor_F _ b rows m k false _ (hpl7.below hS) hm20 HKR.out).mono ?_; rintro e w' ⟨v, rfl, hv, hb⟩; go_wp2_with fail; with_reducible refine hK _ _ hb ?_
            exact hv
           ·as_aux_lemma =>
            intro vs W hS hdep K hK; have d0 := hdep ⟨0, .data⟩ (by simp) rfl (by rfl); simp only [PhiEb] at d0; have d1 := hdep ⟨1, .data⟩ (by simp) rfl (by rfl); simp only [PhiEb] at d1; have d2 := hdep ⟨2, .data⟩ (by simp) rfl (by rfl); simp only [PhiEb] at d2; have d3 := hdep ⟨3, .data⟩ (by simp) rfl (by rfl); simp only [PhiEb] at d3; have d4 := hdep ⟨7, .data⟩ (by simp) rfl (by rfl); simp only [PhiEb] at d4; have hS : Below wy.heap.size wy W := hS; have hbS := Lib.hid hS; have HOW := hown7.below hS; have HNW := cell_keep hS hN7.out; refine ⟨?_⟩; simp only [Act.put, sA, sB, sC, Nat.zero_add, Nat.reduceAdd, d0, d1, d2, d3] at hK ⊢; go_simp; refine (expadd_F wo.heap.size gN gX n2 n2 k Y _ _ _ a c (subV oneP q) (factorV b rows m k false) W HOW HNW HYK7.out (by omega) (hc7.below hbS.out) (hp7.below hbS.out) d4).mono ?_; rintro e w' ⟨rfl, k1, k2, k3⟩; go_wp2_with fail; exact ⟨k1, grown_below hbS.out k2, fun A c l h => k3 _ _ _ (h.below hbS.out)⟩
          intro vs wz hS _; have hS2 : SEa wo.heap.size wy gX n2 n2 (Y.set k (addV a (mulV c (mulV (subV oneP q) (factorV b rows m k false))))) [vs 8] vs wz := hS; obtain ⟨hown8, hg8, hl8⟩ := hS2; clear hS; obtain ⟨Y8, HY8⟩ : ∃ Y8, Hid (Y8 = (Y.set k (addV a (mulV c (mulV (subV oneP q) (factorV b rows m k false)))))) := ⟨_, rfl⟩; rw [← HY8.out] at hown8; have hbo8 : Below wo.heap.size wo wz := below_own (hbx.trans (hby.mono hbx.size)) hg8 hgXo (Nat.le_trans hbx.size hby.size); have hbwz := hbe5.trans (hbo8.mono hbe5.size); have hN8 := Lib.hid (hg8.cell hN7.out (by simp; exact fun e => hgXN e.symm)); have d08 := Lib.hid (hg8.cell d07.out (by simp; exact fun e => hXC e.symm)); have d18 := Lib.hid (hg8.cell d17.out (by simp; exact fun e => hXC e.symm)); have hc8 := hc7.mapL hl8; have hp8 := hqv.below hbwz; have hpl8 := hpl.below hbwz; have e08 := Lib.hid (cell_keep hbwz q0); have e18 := Lib.hid (cell_keep hbwz q1); have P08 := Lib.hid (cell_keep hbwz p0); have P18 := Lib.hid (cell_keep hbwz p1); have P28 := Lib.hid (cell_keep hbwz p2); obtain ⟨j, hj⟩ : ∃ j, n1 - k = j + 1 := ⟨n1 - k - 1, by omega⟩
          have HYE : Hid (Y8 = P ++ (addV a (mulV c (mulV (subV oneP q) (factorV b rows m k false)))) :: nilP :: List.replicate (n1 - (k + 1)) nilP) := by
           show _ = _
           rw [HY8.out, HY.out, hj, show n1 - (k + 1) = j by omega, set_mid HPL.out]; rfl
          have HYK8 : Hid (Y8[k + 1]? = some nilP) := by show _ = _; rw [HYE.out]; exact get_mid2 HPL.out
          have s1 : IntKind.i64.wrap ((k : Int) + 1) = (k : Int) + 1 := by rw [IntWalk.i64_in _ (by omega)]
          clear hown7 hN7 d07 d17 e07 e17 P07 P17 P27 hp7 hpl7 HYK7 hc7 hl8 HY8 HY hcv hj; go_upto_region 19 with fail; refine region_chain [9] [.early, .early, .early, .early, .early, .early, .early, .early, .early, .chain 0] [] [] (PhiEc gN kS cS m k S (.slice C1 u1 o1) (.slice C2 u2 o2) (.slice Q1 qk1 qc1) (.slice Q2 qk2 qc2) x1 x2 c q (factorV b rows m k true)) (fun w w' => Below w.heap.size w w') (SEa wo.heap.size wz gX n2 n2 (Y8.set (k + 1) (addV nilP (mulV c (mulV q (factorV b rows m k true)))))) (by kernel_rfl) (by kernel_rfl) (by kernel_rfl) (by kernel_rfl) (sK (fun _ _ _ _ _ h => h) (sK (fun _ _ _ _ _ h => h) (sK (fun _ _ _ _ _ h => h) (sK (fun _ _ _ _ _ h => h) (sK (fun _ _ _ _ _ h => h) (sK (fun _ _ _ _ _ h => h) (sK (fun _ _ _ _ _ h => h) (sK (fun _ _ _ _ _ h => h) (sK (fun _ _ _ _ _ h => h) (sK (fun _ _ _ _ _ h => h) (sZ))))))))))) PhiEc.keepR PhiEc.keepF (fun _ _ _ _ hR hS => Below.tr hS hR) (by rintro (_ | ⟨_, _ | _⟩) vs vs' w _ h <;> exact h) (fun _ => bD _) (fun vs => by simp only [fillR, Act.put, sA, sB, sC, Nat.zero_add, Nat.reduceAdd]; rfl) ?_ ?_
          ·refine sK ?_ (sK ?_ (sK ?_ (sK ?_ (sK ?_ (sK ?_ (sK ?_ (sK ?_ (sK ?_ (sK ?_ (sZ))))))))))
           ·as_aux_lemma =>
            intro vs W hS hu hdep K hK; have HU := Lib.hid hu; clear hu; refine ⟨?_⟩; simp only [Act.put, sA, sB, sC, Nat.zero_add, Nat.reduceAdd] at hK ⊢; go_simp; with_reducible refine hK _ _ (Below.refl _ _) ?_
            exact rfl
           ·as_aux_lemma =>
            intro vs W hS hu hdep K hK; have HU := Lib.hid hu; clear hu; refine ⟨?_⟩; simp only [Act.put, sA, sB, sC, Nat.zero_add, Nat.reduceAdd] at hK ⊢; go_simp; with_reducible refine hK _ _ (Below.refl _ _) ?_
            exact rfl
           ·as_aux_lemma =>
            intro vs W hS hu hdep K hK; have HU := Lib.hid hu; clear hu; have d0 := hdep ⟨1, .data⟩ (by simp) rfl; simp only [PhiEc] at d0; refine ⟨?_⟩; simp only [Act.put, sA, sB, sC, Nat.zero_add, Nat.reduceAdd, d0] at hK ⊢; go_simp; with_reducible refine hK _ _ (Below.refl _ _) ?_
            exact rfl
           ·as_aux_lemma =>
            intro vs W hS hu hdep K hK; have HU := Lib.hid hu; clear hu; have f0 := cell_keep hS d08.out; have f1 := cell_keep hS d18.out; refine ⟨?_⟩; simp only [Act.put, sA, sB, sC, Nat.zero_add, Nat.reduceAdd] at hK ⊢; go_simp; with_reducible refine hK _ _ (Below.refl _ _) ?_
            exact rfl
           ·as_aux_lemma =>
            intro vs W hS hu hdep K hK; have HU := Lib.hid hu; clear hu; have f0 := cell_keep hS e08.out; have f1 := cell_keep hS e18.out; refine ⟨?_⟩; simp only [Act.put, sA, sB, sC, Nat.zero_add, Nat.reduceAdd] at hK ⊢; go_simp; with_reducible refine hK _ _ (Below.refl _ _) ?_
            exact rfl
           ·as_aux_lemma =>
            intro vs W hS hu hdep K hK; have HU := Lib.hid hu; clear hu; have f0 := cell_keep hS P08.out; have f1 := cell_keep hS P18.out; have f2 := cell_keep hS P28.out; refine ⟨?_⟩; simp only [Act.put, sA, sB, sC, Nat.zero_add, Nat.reduceAdd] at hK ⊢; go_simp; with_reducible refine hK _ _ (Below.refl _ _) ?_
            exact rfl
           ·as_aux_lemma =>
            intro vs W hS hu hdep K hK; have HU := Lib.hid hu; clear hu; refine ⟨?_⟩; simp only [Act.put, sA, sB, sC, Nat.zero_add, Nat.reduceAdd] at hK ⊢; go_simp; with_reducible refine hK _ _ (Below.refl _ _) ?_
            exact rfl
           ·as_aux_lemma =>
            intro vs W hS hu hdep K hK; have HU := Lib.hid hu; clear hu; refine ⟨?_⟩; simp only [Act.put, sA, sB, sC, Nat.zero_add, Nat.reduceAdd] at hK ⊢; go_simp; with_reducible refine hK _ _ (Below.refl _ _) ?_
            exact rfl
           ·as_aux_lemma =>
            intro vs W hS hu hdep K hK; have HU := Lib.hid hu; clear hu; have d0 := hdep ⟨5, .data⟩ (by simp) rfl; simp only [PhiEc] at d0; have d1 := hdep ⟨6, .data⟩ (by simp) rfl; simp only [PhiEc] at d1; have d2 := hdep ⟨7, .data⟩ (by simp) rfl; simp only [PhiEc] at d2; refine ⟨?_⟩; simp only [fillR, Act.put, sA, sB, sC, Nat.zero_add, Nat.reduceAdd, d0, d1, d2] at hK ⊢; go_simp; refine (factor_F _ b rows m k true _ (hpl8.below hS) hm20 HKR.out).mono ?_; rintro e w' ⟨v, rfl, hv, hb⟩; go_wp2_with fail; with_reducible refine hK _ _ hb ?_
            exact hv
           ·as_aux_lemma =>
            intro vs W hS hdep K hK; have d0 := hdep ⟨0, .data⟩ (by simp) rfl (by rfl); simp only [PhiEc] at d0; have d1 := hdep ⟨2, .data⟩ (by simp) rfl (by rfl); simp only [PhiEc] at d1; have d2 := hdep ⟨3, .data⟩ (by simp) rfl (by rfl); simp only [PhiEc] at d2; have d3 := hdep ⟨4, .data⟩ (by simp) rfl (by rfl); simp only [PhiEc] at d3; have d4 := hdep ⟨8, .data⟩ (by simp) rfl (by rfl); simp only [PhiEc] at d4; have hS : Below wz.heap.size wz W := hS; have hbS := Lib.hid hS; have HOW := hown8.below hS; have HNW := cell_keep hS hN8.out; refine ⟨?_⟩; simp only [Act.put, sA, sB, sC, Nat.zero_add, Nat.reduceAdd, d0, d1, d2, d3] at hK ⊢; go_simp; refine (expadd_F wo.heap.size gN gX n2 n2 (k + 1) Y8 _ _ _ nilP c q (factorV b rows m k true) W HOW HNW HYK8.out (by omega) (hc8.below hbS.out) (hp8.below hbS.out) d4).mono ?_; rintro e w' ⟨rfl, k1, k2, k3⟩; go_wp2_with fail; exact ⟨k1, grown_below hbS.out k2, fun A c l h => k3 _ _ _ (h.below hbS.out)⟩
          intro vs' wv hS _; have hS3 : SEa wo.heap.size wz gX n2 n2 (Y8.set (k + 1) (addV nilP (mulV c (mulV q (factorV b rows m k true))))) [vs' 9] vs' wv := hS; obtain ⟨hown9, hg9, hl9⟩ := hS3; clear hS; have hbo9 : Below wo.heap.size wo wv := below_own hbo8 hg9 hgXo hbo8.size; have hN9 := hg9.cell hN8.out (by simp; exact fun e => hgXN e.symm); have HPL9 : Hid ((P ++ [(addV a (mulV c (mulV (subV oneP q) (factorV b rows m k false))))]).length = k + 1) := by show _ = _; rw [List.length_append, HPL.out]; rfl
          rw [HYE.out, set_mid2 HPL.out, List.append_cons] at hown9; have HST9 := HST.out; rw [expStep_drop HS.out, List.append_cons] at HST9; have HST9 := Lib.hid HST9; clear hown8 hN8 d08 d18 e08 e18 P08 P18 P28 hp8 hpl8 HYK8 hc8 hl9 HST HYE hownx hNx; go_wp2_with fail
          go_roundg (G2 - 1)
          case measure => omega
          case rel => exact ⟨k + 1, _, _, by go_num, by omega, HPL9, HST9, hown9, hN9, hbo9⟩
         ·have t4 : decide ((k : Int) < (n1 : Int)) = false := by simp; omega
          have hkn : k = n1 := by omega
          have hst := HST.out; rw [List.drop_eq_nil_of_le (by have := HXL.out; have := HN1.out; omega)] at hst
          have HE9 : Hid (P ++ a :: List.replicate (n1 - k) nilP = expL b rows q (m + 1)) := by
           show _ = _
           rw [show n1 - k = 0 by omega]; unfold expL; rw [← HXE5.out, hst]; rfl
          rw [HE9.out] at hownx; have hown9 := hownx.mono hbe5.size; clear hst HST hownx hkn; go_wp2_with fail
          go_roundg (G - 1)
          case measure => omega
          case rel => exact ⟨m + 1, _, by go_num, by omega, hown9, rfl, hbwx⟩
       ·have t3 : decide ((m : Int) < (nn : Int)) = false := by simp; omega
        have hmn : m = nn := by omega
        have HX9 : Hid (X = (sumF nilP X5).2) := by show _ = _; rw [HX.out, HXE5.out, hmn]
        have hrow := hown.row (by have := HXL.out; omega); have hbw5 := Below.tr hbw4 (hbe5.mono (Nat.le_refl _)); have hs5 := hs4.below (hbe5.mono (Nat.le_refl _)); clear hmn hown; go_wp2_with fail; refine (sum_F _ _ _ X5 _ hrow).mono ?_; rintro e w8 ⟨v, rfl, hv, hb8⟩; go_wp2_with fail; refine (sure_F _ _ _ _ hv).mono ?_; rintro e w9 ⟨v, rfl, hv, hb9⟩; obtain ⟨A, k', c, A', k'', c'', rfl, ⟨a1, r1⟩, ⟨a2, r2⟩, r3, r4, z1, z2, hr, hbz⟩ := ret_ratio (w0 := w) hv ((hs5.below hb8).below hb9) hgr (Below.tr (Below.tr hbw5 hb8) hb9); clear p0 p1 p2 q0 q1 e0 e1 hpl hqv hR hrow; go_wp2_with fail; exact bodyPost_ret (v := .tuple #[.agg #[.slice A k' c, .slice A' k'' c''], .int .i64 0]) (by simp [results, Tryz.results11, go_sem, z1, z2]) rfl ⟨_, by rw [HF.out], by rw [HX9.out]; exact hr, hbz⟩
 ·have t1 : (planE b rows != 0) = true := by simpa using h0
  have HF : Hid (E = planE b rows) := by show _ = _; rw [HE.out]; unfold expE; rw [if_pos h0]
  have HX : Hid (X = nilP) := HXE.out (by rw [HF.out]; exact h0); clear h0 p0 p1 p2 q0 q1; obtain ⟨A', k', c', A'', k'', c'', he, ⟨a1, e1⟩, ⟨a2, e2⟩, e3, e4, z1, z2, hr, hbz⟩ := ret_ratio (w0 := w) (nil_rtP w2) hs2 hgr hbw2; simp only [nilRat, Value.agg.injEq, Array.mk.injEq, List.cons.injEq, and_true, Value.slice.injEq] at he; obtain ⟨⟨rfl, rfl, rfl⟩, rfl, rfl, rfl⟩ := he; go_wp2_with fail; exact bodyPost_ret (v := .tuple #[.agg #[.slice none 0 0, .slice none 0 0], .int .i64 _]) (by simp [results, Tryz.results11, go_sem, z1, z2]; rfl) rfl ⟨_, by rw [HF.out], by rw [HX.out]; exact hr, hbz⟩
end Go.Proofs.YtnjjdiilkhdbeaaGreat
