import Derived.Test.YtmbfjmilhfmnkaaDoorKFloProof01
import Derived.Test.YtmbfjmilhfmnkaaDoorKCntProof34
import Derived.Test.YtmbfjmilhfmnkaaDoorKFldProof02
import Derived.Test.YtmbfjmilhfmnkaaDoorS0
set_option linter.unusedVariables false
set_option linter.unusedSimpArgs false
namespace Go.Proofs.YtmbfjmilhfmnkaaDoor
open Go Go.RowKit
theorem good_62 : Nm.Good 4611686018427387904 1 := good5 (by omega) (by omega) (by omega) (Nat.gcd_one_right _)
theorem good_63 : Nm.Good 9223372036854775808 1 := good5 (by omega) (by omega) (by omega) (Nat.gcd_one_right _)
theorem rof_62 (w : World) : Calls Tryd.prog 14 #[.int .i64 4611686018427387904, .int .i64 1] w fun e w' => ∃ A k c A' k' c', e = .returned (.tuple #[.agg #[.slice A k c, .slice A' k' c'], .int .i64 0]) ∧ RtP w' (.agg #[.slice A k c, .slice A' k' c']) (ratP 4611686018427387904 1) ∧ Below w.heap.size w w' := by
 refine (rof_s 4611686018427387904 1 w (by omega) (by omega) (by omega)).mono ?_; rintro e w' ⟨A, k, c, A', k', c', rfl, h, hb⟩; refine ⟨A, k, c, A', k', c', rfl, ?_, hb⟩; have := h.1.rtP
 rwa [show ratP (4611686018427387904 / Nat.gcd 4611686018427387904 1) (1 / Nat.gcd 4611686018427387904 1) = ratP 4611686018427387904 1 from redP_good good_62] at this
theorem add_62 : addF (ratP 4611686018427387904 1) (ratP 4611686018427387904 1) = (0, ratP 9223372036854775808 1) := by
 rw [add_fr good_62 good_62 (by omega) (by omega)]; exact congrArg (Prod.mk 0) (redP_good good_63)
theorem floor_62 : floorF (ratP 4611686018427387904 1) = (4611686018427387904, 0) := by
 rw [floorF_rat good_62, Nat.div_one, if_pos (by omega)]; rfl
theorem floor_63 : floorF (ratP 9223372036854775808 1) = (0, 4) := by
 rw [floorF_rat good_63, Nat.div_one, if_neg (by omega)]
theorem floor_sh {fn : Nat} (hc : ∀ (va : Value) (x : LP) (w : World), RtP w va x → Calls Tryd.prog fn #[va] w fun e w' => e = .returned (.tuple #[.int .i64 (floorF x).1, .int .i64 (floorF x).2]) ∧ Below w.heap.size w w') (va : Value) (x : LP) (n E : Int) (w : World) (h : RtP w va x) (HF : Hid (floorF x = (n, E))) :
  Calls Tryd.prog fn #[va] w fun e w' => e = .returned (.tuple #[.int .i64 n, .int .i64 E]) ∧ Below w.heap.size w w' := by
 have := hc va x w h; rw [HF.out] at this; exact this
def PhiFwa (g i k : Nat) (y1 y2 z1 z2 : Value) (E : Int) (X : LP) (B : Nat) (j : Nat) (w : World) (x : Value) : Prop :=
 match j with
 | 0 => x = .slice (some ⟨g, 0, none⟩) 7 7
 | 1 => x = .int .i64 (i : Nat)
 | 2 => x = .pointer (some ⟨g, i * 2, none⟩)
 | 3 => x = .agg #[y1, y2]
 | 4 => x = .slice (some ⟨g, 0, none⟩) 7 7
 | 5 => x = .int .i64 (k : Nat)
 | 6 => x = .pointer (some ⟨g, k * 2, none⟩)
 | 7 => x = .agg #[z1, z2]
 | 8 => ∃ v, x = .tuple #[v, .int .i64 E] ∧ RtP w v X
 | 9 => ∃ v, x = .tuple #[v, .int .i64 E] ∧ RtP w v X
 | 10 => ∃ A k c A' k' c', x = .agg #[.slice A k c, .slice A' k' c'] ∧ RtP w (.agg #[.slice A k c, .slice A' k' c']) X
 | 11 => x = .int .i64 E
 | 12 => ∃ g, x = .pointer (some ⟨g, 0, none⟩) ∧ B ≤ g ∧ Sl w g
 | 13 => True
 | 14 => x = .int .i64 E
 | _ => True

theorem PhiFwa.keep {g i k : Nat} {y1 y2 z1 z2 : Value} {E : Int} {X : LP} {B : Nat} : ∀ (w w' : World), RT B w w' → ∀ j x, PhiFwa g i k y1 y2 z1 z2 E X B j w x → PhiFwa g i k y1 y2 z1 z2 E X B j w' x := by
 intro w w' hr j x h; unfold PhiFwa at h ⊢
 split <;> simp only at h ⊢
 all_goals first
  | exact h
  | (obtain ⟨v, e, h⟩ := h; exact ⟨v, e, h.mapL hr.lim⟩)
  | (obtain ⟨A, k, c, A', k', c', e, h⟩ := h; exact ⟨A, k, c, A', k', c', e, h.mapL hr.lim⟩)
  | (obtain ⟨g, e, h1, h2⟩ := h; exact ⟨g, e, h1, hr.sl g h2⟩)
  | exact h.mapL hr.lim

def PhiFwb (g i k : Nat) (y1 y2 z1 z2 : Value) (E : Int) (X : LP) (B : Nat) (j : Nat) (w : World) (x : Value) : Prop :=
 match j with
 | 0 => x = .slice (some ⟨g, 0, none⟩) 7 7
 | 1 => x = .int .i64 (i : Nat)
 | 2 => x = .pointer (some ⟨g, i * 2, none⟩)
 | 3 => x = .agg #[y1, y2]
 | 4 => x = .slice (some ⟨g, 0, none⟩) 7 7
 | 5 => x = .int .i64 (k : Nat)
 | 6 => x = .pointer (some ⟨g, k * 2, none⟩)
 | 7 => x = .agg #[z1, z2]
 | 8 => ∃ v, x = .tuple #[v, .int .i64 E] ∧ RtP w v X
 | 9 => ∃ v, x = .tuple #[v, .int .i64 E] ∧ RtP w v X
 | 10 => ∃ A k c A' k' c', x = .agg #[.slice A k c, .slice A' k' c'] ∧ RtP w (.agg #[.slice A k c, .slice A' k' c']) X
 | 11 => x = .int .i64 E
 | 12 => ∃ g, x = .pointer (some ⟨g, 0, none⟩) ∧ B ≤ g ∧ Sl w g
 | 13 => True
 | 14 => x = .int .i64 E
 | _ => True

theorem PhiFwb.keep {g i k : Nat} {y1 y2 z1 z2 : Value} {E : Int} {X : LP} {B : Nat} : ∀ (w w' : World), RT B w w' → ∀ j x, PhiFwb g i k y1 y2 z1 z2 E X B j w x → PhiFwb g i k y1 y2 z1 z2 E X B j w' x := by
 intro w w' hr j x h; unfold PhiFwb at h ⊢
 split <;> simp only at h ⊢
 all_goals first
  | exact h
  | (obtain ⟨v, e, h⟩ := h; exact ⟨v, e, h.mapL hr.lim⟩)
  | (obtain ⟨A, k, c, A', k', c', e, h⟩ := h; exact ⟨A, k, c, A', k', c', e, h.mapL hr.lim⟩)
  | (obtain ⟨g, e, h1, h2⟩ := h; exact ⟨g, e, h1, hr.sl g h2⟩)
  | exact h.mapL hr.lim

set_option maxRecDepth 100000 in
set_option maxHeartbeats 16000000 in
theorem ratio_floors_n (A4 : Option Addr) (k4 c4 : Nat) (A5 : Option Addr) (k5 c5 : Nat) (l4 l5 : List Nat) (n m how by_ : Int) (w : World) (hl4 : Lim w A4 c4 l4) (hk4 : k4 = l4.length) (hl5 : Lim w A5 c5 l5) (hk5 : k5 = l5.length) (hin : isI64 n) (him : isI64 m) (hih : isI64 how) (hib : isI64 by_) :
  Calls Tryd.prog 6 #[.int .i64 n, .int .i64 m, .int .i64 how, .int .i64 by_, .slice A4 k4 c4, .slice A5 k5 c5] w fun e w' => e = .returned (.bool true) ∧ Below w.heap.size w w' := by
 have HS := Lib.hid (some_n n m how by_ A4 k4 c4 A5 k5 c5 l4 l5 w hin him hih hib hl4 hk4 hl5 hk5); clear hl4 hk4 hl5 hk5 hin him hih hib
 go_enter Tryd.func6, Tryd.ntmps6
 go_wp2_with fail; refine HS.out.mono ?_; rintro e w1 ⟨gL, xs, rfl, hL, _, hbw⟩; clear HS; go_wp2_with fail
 go_loopg [14] 7 (fun j x wr => ∃ i : Nat, x = .int .i64 i ∧ i + j = 7 ∧ Below w1.heap.size w1 wr)
 case atStart => exact ⟨0, rfl, by omega, Below.refl _ _⟩
 case round =>
  obtain ⟨G, hG⟩ : ∃ G, G = gk := ⟨gk, rfl⟩; subst hG; obtain ⟨i, rfl, hij, hbo⟩ := hrel; obtain ⟨wo, hwo⟩ : ∃ wo, wo = wr := ⟨_, rfl⟩; subst hwo; by_cases hi : i < 7
  ·have t1 : decide ((i : Int) < 7) = true := by simp; omega
   have hi7 : (i : Int) < 7 := by omega
   obtain ⟨y1, y2, xa, G1, G2', hXA⟩ := seven_at hL hi; obtain ⟨v1, v2, HF⟩ : ∃ n E, Hid (floorF xa = (n, E)) := ⟨_, _, rfl⟩; have g1 := cell_keep hbo G1; have g2 := cell_keep hbo G2'; have hxa := hXA.below hbo; go_wp2_with fail; refine (floor_sh floor_F _ xa v1 v2 _ hxa HF).mono ?_; rintro e w2 ⟨rfl, hb⟩
   replace g1 := cell_keep hb g1
   replace g2 := cell_keep hb g2
   replace hxa := hxa.below hb
   replace hbo := Below.tr hbo hb
   clear hb; go_wp2_with fail; refine (floor_sh rfloor_F _ xa v1 v2 _ hxa HF).mono ?_; rintro e w3 ⟨rfl, hb⟩
   replace hbo := Below.tr hbo hb
   clear hb g1 g2 hxa; have te1 : (v1 != v1) = false := by simp
   have te2 : (v2 != v2) = false := by simp
   go_wp2_with fail; clear te1 te2
   go_loopg [19] 7 (fun j x wr => ∃ k : Nat, x = .int .i64 k ∧ k + j = 7 ∧ Below w1.heap.size w1 wr)
   case atStart => exact ⟨0, rfl, by omega, hbo⟩
   case round =>
    obtain ⟨G2, hG2⟩ : ∃ G, G = gk := ⟨gk, rfl⟩; subst hG2; obtain ⟨k, rfl, hkj, hbx⟩ := hrel; obtain ⟨wp, hwp⟩ : ∃ wo, wo = wr := ⟨_, rfl⟩; subst hwp; by_cases hk : k < 7
    ·have t2 : decide ((k : Int) < 7) = true := by simp; omega
     have hk7 : (k : Int) < 7 := by omega
     obtain ⟨z1, z2, xb, H1, H2, hXB⟩ := seven_at hL hk; have g1 := cell_keep hbx G1; have g2 := cell_keep hbx G2'; have h1 := cell_keep hbx H1; have h2 := cell_keep hbx H2; have hxa := hXA.below hbx; have hxb := hXB.below hbx; clear H1 H2 hXB; go_upto_region 12 with fail; refine region_invW (PhiFwa gL i k y1 y2 z1 z2 (simF xa xb).1 (simF xa xb).2 wp.heap.size) (RT wp.heap.size) (SD wp 10 12 13) (by kernel_rfl) (by kernel_rfl) (by kernel_rfl) PhiFwa.keep (SD.start _ _ _ _ _) (fun vs => by simp only [fillR, Act.put, sA, sB, sC, Nat.zero_add, Nat.reduceAdd]; rfl) ?_ ?_
     ·refine sK ?_ (sK ?_ (sK ?_ (sK ?_ (sK ?_ (sK ?_ (sK ?_ (sK ?_ (sK ?_ (sK ?_ (sK ?_ (sK ?_ (sK ?_ (sK ?_ (sK ?_ (sZ)))))))))))))))
      ·as_aux_lemma =>
       intro vs L W hS hL cl hdl hdep K hK; refine ⟨?_⟩; simp only [Act.put, sA, sB, sC, Nat.zero_add, Nat.reduceAdd] at hK ⊢; go_simp; with_reducible refine hK _ _ (RT.refl _ _) (hS.step (Below.refl _ _) 0 _ (by decide) (fun e => absurd e (by decide))) ?_
       exact rfl
      ·as_aux_lemma =>
       intro vs L W hS hL cl hdl hdep K hK; refine ⟨?_⟩; simp only [Act.put, sA, sB, sC, Nat.zero_add, Nat.reduceAdd] at hK ⊢; go_simp; with_reducible refine hK _ _ (RT.refl _ _) (hS.step (Below.refl _ _) 1 _ (by decide) (fun e => absurd e (by decide))) ?_
       exact rfl
      ·as_aux_lemma =>
       intro vs L W hS hL cl hdl hdep K hK; have d0 := hdep ⟨0, .data⟩ (by simp) rfl; simp only [PhiFwa] at d0; have d1 := hdep ⟨1, .data⟩ (by simp) rfl; simp only [PhiFwa] at d1; refine ⟨?_⟩; simp only [Act.put, sA, sB, sC, Nat.zero_add, Nat.reduceAdd, d0, d1] at hK ⊢; go_simp; with_reducible refine hK _ _ (RT.refl _ _) (hS.step (Below.refl _ _) 2 _ (by decide) (fun e => absurd e (by decide))) ?_
       exact rfl
      ·as_aux_lemma =>
       intro vs L W hS hL cl hdl hdep K hK; have d0 := hdep ⟨2, .data⟩ (by simp) rfl; simp only [PhiFwa] at d0; have f1 := cell_keep hS.be g1; have f2 := cell_keep hS.be g2; refine ⟨?_⟩; simp only [Act.put, sA, sB, sC, Nat.zero_add, Nat.reduceAdd, d0] at hK ⊢; go_simp; with_reducible refine hK _ _ (RT.refl _ _) (hS.step (Below.refl _ _) 3 _ (by decide) (fun e => absurd e (by decide))) ?_
       exact rfl
      ·as_aux_lemma =>
       intro vs L W hS hL cl hdl hdep K hK; refine ⟨?_⟩; simp only [Act.put, sA, sB, sC, Nat.zero_add, Nat.reduceAdd] at hK ⊢; go_simp; with_reducible refine hK _ _ (RT.refl _ _) (hS.step (Below.refl _ _) 4 _ (by decide) (fun e => absurd e (by decide))) ?_
       exact rfl
      ·as_aux_lemma =>
       intro vs L W hS hL cl hdl hdep K hK; refine ⟨?_⟩; simp only [Act.put, sA, sB, sC, Nat.zero_add, Nat.reduceAdd] at hK ⊢; go_simp; with_reducible refine hK _ _ (RT.refl _ _) (hS.step (Below.refl _ _) 5 _ (by decide) (fun e => absurd e (by decide))) ?_
       exact rfl
      ·as_aux_lemma =>
       intro vs L W hS hL cl hdl hdep K hK; have d0 := hdep ⟨4, .data⟩ (by simp) rfl; simp only [PhiFwa] at d0; have d1 := hdep ⟨5, .data⟩ (by simp) rfl; simp only [PhiFwa] at d1; refine ⟨?_⟩; simp only [Act.put, sA, sB, sC, Nat.zero_add, Nat.reduceAdd, d0, d1] at hK ⊢; go_simp; with_reducible refine hK _ _ (RT.refl _ _) (hS.step (Below.refl _ _) 6 _ (by decide) (fun e => absurd e (by decide))) ?_
       exact rfl
      ·as_aux_lemma =>
       intro vs L W hS hL cl hdl hdep K hK; have d0 := hdep ⟨6, .data⟩ (by simp) rfl; simp only [PhiFwa] at d0; have f1 := cell_keep hS.be h1; have f2 := cell_keep hS.be h2; refine ⟨?_⟩; simp only [Act.put, sA, sB, sC, Nat.zero_add, Nat.reduceAdd, d0] at hK ⊢; go_simp; with_reducible refine hK _ _ (RT.refl _ _) (hS.step (Below.refl _ _) 7 _ (by decide) (fun e => absurd e (by decide))) ?_
       exact rfl
      ·as_aux_lemma =>
       intro vs L W hS hL cl hdl hdep K hK; have d0 := hdep ⟨3, .data⟩ (by simp) rfl; simp only [PhiFwa] at d0; have d1 := hdep ⟨7, .data⟩ (by simp) rfl; simp only [PhiFwa] at d1; refine ⟨?_⟩; simp only [Act.put, sA, sB, sC, Nat.zero_add, Nat.reduceAdd, d0, d1] at hK ⊢; go_simp; refine (simplest_F _ _ xa xb _ (hxa.below hS.be) (hxb.below hS.be)).mono ?_; rintro e w' ⟨v, rfl, hn, hb⟩; go_wp2_with fail; with_reducible refine hK _ _ (RT.below hb hS.be.size) (hS.step hb 8 _ (by decide) (fun e => absurd e (by decide))) ?_
       exact ⟨v, rfl, hn⟩
      ·as_aux_lemma =>
       intro vs L W hS hL cl hdl hdep K hK; have d0 := hdep ⟨8, .data⟩ (by simp) rfl; simp only [PhiFwa] at d0; refine @exE1 _ _ _ d0 ?_; clear d0; intro v0 d0; have e0 := d0.1; have n0 := d0.2; clear d0; refine ⟨?_⟩; simp only [Act.put, sA, sB, sC, Nat.zero_add, Nat.reduceAdd, e0] at hK ⊢; go_simp; with_reducible refine hK _ _ (RT.refl _ _) (hS.step (Below.refl _ _) 9 _ (by decide) (fun e => absurd e (by decide))) ?_
       exact ⟨_, rfl, n0⟩
      ·as_aux_lemma =>
       intro vs L W hS hL cl hdl hdep K hK; have d0 := hdep ⟨9, .data⟩ (by simp) rfl; simp only [PhiFwa] at d0; refine @exE1 _ _ _ d0 ?_; clear d0; intro v0 d0; have e0 := d0.1; have n0 := d0.2; clear d0
       have h13 : L 13 = false := by
        cases h : L 13 with
        | false => rfl
        | true => exact absurd (cl 13 _ rfl h ⟨10, .data⟩ (by simp) rfl) (by rw [hL]; decide)
       obtain ⟨A, k, c, A', k', c', rfl⟩ := n0.shape; refine ⟨?_⟩; simp only [Act.put, sA, sB, sC, Nat.zero_add, Nat.reduceAdd, e0] at hK ⊢; go_simp; with_reducible refine hK _ _ (RT.refl _ _) (hS.step (Below.refl _ _) 10 _ (by decide) (fun _ => h13)) ?_
       exact ⟨_, _, _, _, _, _, rfl, n0⟩
      ·as_aux_lemma =>
       intro vs L W hS hL cl hdl hdep K hK; have d0 := hdep ⟨9, .data⟩ (by simp) rfl; simp only [PhiFwa] at d0; refine @exE1 _ _ _ d0 ?_; clear d0; intro v0 d0; have e0 := d0.1; have n0 := d0.2; clear d0; refine ⟨?_⟩; simp only [Act.put, sA, sB, sC, Nat.zero_add, Nat.reduceAdd, e0] at hK ⊢; go_simp; with_reducible refine hK _ _ (RT.refl _ _) (hS.step (Below.refl _ _) 11 _ (by decide) (fun e => absurd e (by decide))) ?_
       exact rfl
      ·as_aux_lemma =>
       intro vs L W hS hL cl hdl hdep K hK
       have h13 : L 13 = false := by
        cases h : L 13 with
        | false => rfl
        | true => exact absurd (cl 13 _ rfl h ⟨12, .data⟩ (by simp) rfl) (by rw [hL]; decide)
       refine ⟨?_⟩; simp only [Act.put, sA, sB, sC, Nat.zero_add, Nat.reduceAdd] at hK ⊢; go_simp; with_reducible refine hK _ _ (RT.below (bA _ _) hS.be.size) (hS.step (bA _ _) 12 _ (by decide) (fun _ => h13)) ?_
       exact ⟨_, rfl, hS.be.size, none, 0, 0, none, 0, 0, Blk.new _ _ _⟩
      ·as_aux_lemma =>
       intro vs L W hS hL cl hdl hdep K hK; have d0 := hdep ⟨12, .data⟩ (by simp) rfl; simp only [PhiFwa] at d0; refine @exE1 _ _ _ d0 ?_; clear d0; intro g0 d0; have e0 := d0.1; have l0 := d0.2.1; have s0 := d0.2.2; clear d0; have d1 := hdep ⟨10, .data⟩ (by simp) rfl; simp only [PhiFwa] at d1; refine @exE6 _ _ _ _ _ _ _ _ d1 ?_; clear d1; intro A1 k1 c1 B1 m1 d1 d1; have e1 := d1.1; have n1 := d1.2; clear d1; obtain ⟨⟨a1, q1⟩, ⟨a2, q2⟩, q3, q4⟩ := s0.facts; refine ⟨?_⟩; simp only [Act.put, sA, sB, sC, Nat.zero_add, Nat.reduceAdd, e0, e1] at hK ⊢; go_simp; with_reducible refine hK undef _ (RT.store s0 l0 _ _ _ _ _ _) (hS.stored e0 e1 l0 s0 (by decide) (by decide) _) ?_
       exact trivial
      ·as_aux_lemma =>
       intro vs L W hS hL cl hdl hdep K hK; have d0 := hdep ⟨11, .data⟩ (by simp) rfl; simp only [PhiFwa] at d0; refine ⟨?_⟩; simp only [Act.put, sA, sB, sC, Nat.zero_add, Nat.reduceAdd, d0] at hK ⊢; go_simp; with_reducible refine hK _ _ (RT.refl _ _) (hS.step (Below.refl _ _) 14 _ (by decide) (fun e => absurd e (by decide))) ?_
       exact rfl
     ·intro vs L w4 hS hall hv; have v14 := hv 14 (by simp); have v8 := hv 10 (by simp); simp only [PhiFwa] at v14 v8; obtain ⟨_, _, _, _, _, _, e8', ho⟩ := v8; obtain ⟨ga, A9a, k9a, c9a, B9a, m9a, d9a, e10, e8, hgN, hblk⟩ := hS.st (hall 13 (by simp)); rw [e8] at e8'; rw [← e8'] at ho; have HOa := Lib.hid ho; have hbe9 := hS.be; clear hv hS hall e8' ho; simp only [Act.put, sA, sB, sC, Nat.zero_add, Nat.reduceAdd, v14, e10, e8]; have hra := HOa.out; have F0 := hblk.cell 0; have F1 := hblk.cell 1; simp only [List.getElem?_toArray, List.getElem?_cons_zero, List.getElem?_cons_succ] at F0 F1
      replace g1 := cell_keep hbe9 g1
      replace g2 := cell_keep hbe9 g2
      replace h1 := cell_keep hbe9 h1
      replace h2 := cell_keep hbe9 h2
      replace hxa := hxa.below hbe9
      replace hxb := hxb.below hbe9
      have hbp4 := Below.tr hbx hbe9; clear HOa hblk hgN hbe9; go_upto_region 13 with fail; refine region_invW (PhiFwb gL i k y1 y2 z1 z2 (simF xa xb).1 (simF xa xb).2 w4.heap.size) (RT w4.heap.size) (SD w4 10 12 13) (by kernel_rfl) (by kernel_rfl) (by kernel_rfl) PhiFwb.keep (SD.start _ _ _ _ _) (fun vs => by simp only [fillR, Act.put, sA, sB, sC, Nat.zero_add, Nat.reduceAdd]; rfl) ?_ ?_
      ·refine sK ?_ (sK ?_ (sK ?_ (sK ?_ (sK ?_ (sK ?_ (sK ?_ (sK ?_ (sK ?_ (sK ?_ (sK ?_ (sK ?_ (sK ?_ (sK ?_ (sK ?_ (sZ)))))))))))))))
       ·as_aux_lemma =>
        intro vs L W hS hL cl hdl hdep K hK; refine ⟨?_⟩; simp only [Act.put, sA, sB, sC, Nat.zero_add, Nat.reduceAdd] at hK ⊢; go_simp; with_reducible refine hK _ _ (RT.refl _ _) (hS.step (Below.refl _ _) 0 _ (by decide) (fun e => absurd e (by decide))) ?_
        exact rfl
       ·as_aux_lemma =>
        intro vs L W hS hL cl hdl hdep K hK; refine ⟨?_⟩; simp only [Act.put, sA, sB, sC, Nat.zero_add, Nat.reduceAdd] at hK ⊢; go_simp; with_reducible refine hK _ _ (RT.refl _ _) (hS.step (Below.refl _ _) 1 _ (by decide) (fun e => absurd e (by decide))) ?_
        exact rfl
       ·as_aux_lemma =>
        intro vs L W hS hL cl hdl hdep K hK; have d0 := hdep ⟨0, .data⟩ (by simp) rfl; simp only [PhiFwb] at d0; have d1 := hdep ⟨1, .data⟩ (by simp) rfl; simp only [PhiFwb] at d1; refine ⟨?_⟩; simp only [Act.put, sA, sB, sC, Nat.zero_add, Nat.reduceAdd, d0, d1] at hK ⊢; go_simp; with_reducible refine hK _ _ (RT.refl _ _) (hS.step (Below.refl _ _) 2 _ (by decide) (fun e => absurd e (by decide))) ?_
        exact rfl
       ·as_aux_lemma =>
        intro vs L W hS hL cl hdl hdep K hK; have d0 := hdep ⟨2, .data⟩ (by simp) rfl; simp only [PhiFwb] at d0; have f1 := cell_keep hS.be g1; have f2 := cell_keep hS.be g2; refine ⟨?_⟩; simp only [Act.put, sA, sB, sC, Nat.zero_add, Nat.reduceAdd, d0] at hK ⊢; go_simp; with_reducible refine hK _ _ (RT.refl _ _) (hS.step (Below.refl _ _) 3 _ (by decide) (fun e => absurd e (by decide))) ?_
        exact rfl
       ·as_aux_lemma =>
        intro vs L W hS hL cl hdl hdep K hK; refine ⟨?_⟩; simp only [Act.put, sA, sB, sC, Nat.zero_add, Nat.reduceAdd] at hK ⊢; go_simp; with_reducible refine hK _ _ (RT.refl _ _) (hS.step (Below.refl _ _) 4 _ (by decide) (fun e => absurd e (by decide))) ?_
        exact rfl
       ·as_aux_lemma =>
        intro vs L W hS hL cl hdl hdep K hK; refine ⟨?_⟩; simp only [Act.put, sA, sB, sC, Nat.zero_add, Nat.reduceAdd] at hK ⊢; go_simp; with_reducible refine hK _ _ (RT.refl _ _) (hS.step (Below.refl _ _) 5 _ (by decide) (fun e => absurd e (by decide))) ?_
        exact rfl
       ·as_aux_lemma =>
        intro vs L W hS hL cl hdl hdep K hK; have d0 := hdep ⟨4, .data⟩ (by simp) rfl; simp only [PhiFwb] at d0; have d1 := hdep ⟨5, .data⟩ (by simp) rfl; simp only [PhiFwb] at d1; refine ⟨?_⟩; simp only [Act.put, sA, sB, sC, Nat.zero_add, Nat.reduceAdd, d0, d1] at hK ⊢; go_simp; with_reducible refine hK _ _ (RT.refl _ _) (hS.step (Below.refl _ _) 6 _ (by decide) (fun e => absurd e (by decide))) ?_
        exact rfl
       ·as_aux_lemma =>
        intro vs L W hS hL cl hdl hdep K hK; have d0 := hdep ⟨6, .data⟩ (by simp) rfl; simp only [PhiFwb] at d0; have f1 := cell_keep hS.be h1; have f2 := cell_keep hS.be h2; refine ⟨?_⟩; simp only [Act.put, sA, sB, sC, Nat.zero_add, Nat.reduceAdd, d0] at hK ⊢; go_simp; with_reducible refine hK _ _ (RT.refl _ _) (hS.step (Below.refl _ _) 7 _ (by decide) (fun e => absurd e (by decide))) ?_
        exact rfl
       ·as_aux_lemma =>
        intro vs L W hS hL cl hdl hdep K hK; have d0 := hdep ⟨3, .data⟩ (by simp) rfl; simp only [PhiFwb] at d0; have d1 := hdep ⟨7, .data⟩ (by simp) rfl; simp only [PhiFwb] at d1; refine ⟨?_⟩; simp only [Act.put, sA, sB, sC, Nat.zero_add, Nat.reduceAdd, d0, d1] at hK ⊢; go_simp; refine (rsimplest_F _ _ xa xb _ (hxa.below hS.be) (hxb.below hS.be)).mono ?_; rintro e w' ⟨v, rfl, hn, hb⟩; go_wp2_with fail; with_reducible refine hK _ _ (RT.below hb hS.be.size) (hS.step hb 8 _ (by decide) (fun e => absurd e (by decide))) ?_
        exact ⟨v, rfl, hn⟩
       ·as_aux_lemma =>
        intro vs L W hS hL cl hdl hdep K hK; have d0 := hdep ⟨8, .data⟩ (by simp) rfl; simp only [PhiFwb] at d0; refine @exE1 _ _ _ d0 ?_; clear d0; intro v0 d0; have e0 := d0.1; have n0 := d0.2; clear d0; refine ⟨?_⟩; simp only [Act.put, sA, sB, sC, Nat.zero_add, Nat.reduceAdd, e0] at hK ⊢; go_simp; with_reducible refine hK _ _ (RT.refl _ _) (hS.step (Below.refl _ _) 9 _ (by decide) (fun e => absurd e (by decide))) ?_
        exact ⟨_, rfl, n0⟩
       ·as_aux_lemma =>
        intro vs L W hS hL cl hdl hdep K hK; have d0 := hdep ⟨9, .data⟩ (by simp) rfl; simp only [PhiFwb] at d0; refine @exE1 _ _ _ d0 ?_; clear d0; intro v0 d0; have e0 := d0.1; have n0 := d0.2; clear d0
        have h13 : L 13 = false := by
         cases h : L 13 with
         | false => rfl
         | true => exact absurd (cl 13 _ rfl h ⟨10, .data⟩ (by simp) rfl) (by rw [hL]; decide)
        obtain ⟨A, k, c, A', k', c', rfl⟩ := n0.shape; refine ⟨?_⟩; simp only [Act.put, sA, sB, sC, Nat.zero_add, Nat.reduceAdd, e0] at hK ⊢; go_simp; with_reducible refine hK _ _ (RT.refl _ _) (hS.step (Below.refl _ _) 10 _ (by decide) (fun _ => h13)) ?_
        exact ⟨_, _, _, _, _, _, rfl, n0⟩
       ·as_aux_lemma =>
        intro vs L W hS hL cl hdl hdep K hK; have d0 := hdep ⟨9, .data⟩ (by simp) rfl; simp only [PhiFwb] at d0; refine @exE1 _ _ _ d0 ?_; clear d0; intro v0 d0; have e0 := d0.1; have n0 := d0.2; clear d0; refine ⟨?_⟩; simp only [Act.put, sA, sB, sC, Nat.zero_add, Nat.reduceAdd, e0] at hK ⊢; go_simp; with_reducible refine hK _ _ (RT.refl _ _) (hS.step (Below.refl _ _) 11 _ (by decide) (fun e => absurd e (by decide))) ?_
        exact rfl
       ·as_aux_lemma =>
        intro vs L W hS hL cl hdl hdep K hK
        have h13 : L 13 = false := by
         cases h : L 13 with
         | false => rfl
         | true => exact absurd (cl 13 _ rfl h ⟨12, .data⟩ (by simp) rfl) (by rw [hL]; decide)
        refine ⟨?_⟩; simp only [Act.put, sA, sB, sC, Nat.zero_add, Nat.reduceAdd] at hK ⊢; go_simp; with_reducible refine hK _ _ (RT.below (bA _ _) hS.be.size) (hS.step (bA _ _) 12 _ (by decide) (fun _ => h13)) ?_
        exact ⟨_, rfl, hS.be.size, none, 0, 0, none, 0, 0, Blk.new _ _ _⟩
       ·as_aux_lemma =>
        intro vs L W hS hL cl hdl hdep K hK; have d0 := hdep ⟨12, .data⟩ (by simp) rfl; simp only [PhiFwb] at d0; refine @exE1 _ _ _ d0 ?_; clear d0; intro g0 d0; have e0 := d0.1; have l0 := d0.2.1; have s0 := d0.2.2; clear d0; have d1 := hdep ⟨10, .data⟩ (by simp) rfl; simp only [PhiFwb] at d1; refine @exE6 _ _ _ _ _ _ _ _ d1 ?_; clear d1; intro A1 k1 c1 B1 m1 d1 d1; have e1 := d1.1; have n1 := d1.2; clear d1; obtain ⟨⟨a1, q1⟩, ⟨a2, q2⟩, q3, q4⟩ := s0.facts; refine ⟨?_⟩; simp only [Act.put, sA, sB, sC, Nat.zero_add, Nat.reduceAdd, e0, e1] at hK ⊢; go_simp; with_reducible refine hK undef _ (RT.store s0 l0 _ _ _ _ _ _) (hS.stored e0 e1 l0 s0 (by decide) (by decide) _) ?_
        exact trivial
       ·as_aux_lemma =>
        intro vs L W hS hL cl hdl hdep K hK; have d0 := hdep ⟨11, .data⟩ (by simp) rfl; simp only [PhiFwb] at d0; refine ⟨?_⟩; simp only [Act.put, sA, sB, sC, Nat.zero_add, Nat.reduceAdd, d0] at hK ⊢; go_simp; with_reducible refine hK _ _ (RT.refl _ _) (hS.step (Below.refl _ _) 14 _ (by decide) (fun e => absurd e (by decide))) ?_
        exact rfl
      ·intro vs L w5 hS hall hv; have v14 := hv 14 (by simp); have v8 := hv 10 (by simp); simp only [PhiFwb] at v14 v8; obtain ⟨_, _, _, _, _, _, e8', ho⟩ := v8; obtain ⟨gb, A9b, k9b, c9b, B9b, m9b, d9b, e10, e8, hgN, hblk⟩ := hS.st (hall 13 (by simp)); rw [e8] at e8'; rw [← e8'] at ho; have HOb := Lib.hid ho; have hbe9 := hS.be; clear hv hS hall e8' ho; simp only [Act.put, sA, sB, sC, Nat.zero_add, Nat.reduceAdd, v14, e10, e8]; have hrb := HOb.out; have G0 := hblk.cell 0; have G1' := hblk.cell 1; simp only [List.getElem?_toArray, List.getElem?_cons_zero, List.getElem?_cons_succ] at G0 G1'
       replace F0 := cell_keep hbe9 F0
       replace F1 := cell_keep hbe9 F1
       have hra := hra.below hbe9; have hbp5 := Below.tr hbp4 hbe9; clear HOb hblk hgN hbe9 g1 g2 h1 h2 hxa hxb; obtain ⟨E, hE⟩ : ∃ E, E = (simF xa xb).1 := ⟨_, rfl⟩; rw [← hE]; clear hE; have tE : (E != E) = false := by simp
       go_wp2_with fail; refine (rsame_P _ _ _ _ hra hrb).mono ?_; rintro e w9 ⟨rfl, hb9⟩; have hbp9 := Below.tr hbp5 hb9; clear hra hrb F0 F1 G0 G1' hb9; go_wp2_with fail
       go_roundg (G2 - 1)
       case measure => omega
       case rel => exact ⟨k + 1, by go_num, by omega, hbp9⟩
    ·have t2 : decide ((k : Int) < 7) = false := by simp; omega
     go_wp2_with fail
     go_roundg (G - 1)
     case measure => omega
     case rel => exact ⟨i + 1, by go_num, by omega, hbx⟩
  ·have t1 : decide ((i : Int) < 7) = false := by simp; omega
   replace hbw := Below.tr hbw hbo
   clear hL hbo; go_wp2_with fail; refine (rof_62 _).mono ?_; rintro e w21 ⟨Sgn, kgn, cgn, Rgn, mgn, dgn, rfl, hgn, hb⟩
   replace hbw := Below.tr hbw hb
   clear hb; go_upto_region 17 with fail; refine wp_name ?_; intro w22 HW; have hb : Below w21.heap.size w21 w22 := by rw [HW.out]; exact bA _ _
   have hB : Blk w22 w21.heap.size 28 #[.slice Sgn kgn cgn, .slice Rgn mgn dgn] := by rw [HW.out]; exact Blk.new _ _ _
   obtain ⟨gn, hg⟩ : ∃ g, Hid (g = w21.heap.size) := ⟨_, rfl⟩; rw [← hg.out] at hB ⊢
   replace hbw := Below.tr hbw hb
   replace hgn := hgn.below hb
   have gn0 := hB.cell 0; have gn1 := hB.cell 1; simp only [List.getElem?_toArray, List.getElem?_cons_zero, List.getElem?_cons_succ] at gn0 gn1; clear HW hB hg hb; go_wp2_with fail; refine (BinC.sh radd_F _ _ _ _ 0 (ratP 9223372036854775808 1) _ hgn hgn (congrArg Prod.fst add_62) (congrArg Prod.snd add_62)).mono ?_; rintro e w23 ⟨Sgw, kgw, cgw, Rgw, mgw, dgw, rfl, hgw, hb⟩
   replace gn0 := cell_keep hb gn0
   replace gn1 := cell_keep hb gn1
   replace hgn := hgn.below hb
   replace hbw := Below.tr hbw hb
   clear hb; go_upto_region 18 with fail; refine wp_name ?_; intro w24 HW; have hb : Below w23.heap.size w23 w24 := by rw [HW.out]; exact bA _ _
   have hB : Blk w24 w23.heap.size 28 #[.slice Sgw kgw cgw, .slice Rgw mgw dgw] := by rw [HW.out]; exact Blk.new _ _ _
   obtain ⟨gw, hg⟩ : ∃ g, Hid (g = w23.heap.size) := ⟨_, rfl⟩; rw [← hg.out] at hB ⊢
   replace gn0 := cell_keep hb gn0
   replace gn1 := cell_keep hb gn1
   replace hgn := hgn.below hb
   replace hbw := Below.tr hbw hb
   replace hgw := hgw.below hb
   have gw0 := hB.cell 0; have gw1 := hB.cell 1; simp only [List.getElem?_toArray, List.getElem?_cons_zero, List.getElem?_cons_succ] at gw0 gw1; clear HW hB hg hb; go_wp2_with fail; refine (floor_sh floor_F _ _ 0 4 _ hgw floor_63).mono ?_; rintro e w25 ⟨rfl, hb⟩
   replace gn0 := cell_keep hb gn0
   replace gn1 := cell_keep hb gn1
   replace hgn := hgn.below hb
   replace gw0 := cell_keep hb gw0
   replace gw1 := cell_keep hb gw1
   replace hgw := hgw.below hb
   replace hbw := Below.tr hbw hb
   clear hb; go_wp2_with fail; refine (floor_sh floor_F _ _ 4611686018427387904 0 _ hgn floor_62).mono ?_; rintro e w26 ⟨rfl, hb⟩
   replace gn0 := cell_keep hb gn0
   replace gn1 := cell_keep hb gn1
   replace hgn := hgn.below hb
   replace gw0 := cell_keep hb gw0
   replace gw1 := cell_keep hb gw1
   replace hgw := hgw.below hb
   replace hbw := Below.tr hbw hb
   clear hb; go_wp2_with fail; refine (lives5_n _).mono ?_; rintro e w' ⟨rfl, hb⟩; go_wp2_with fail; go_ret; exact ⟨rfl, Below.tr hbw hb⟩
end Go.Proofs.YtmbfjmilhfmnkaaDoor
