import Derived.Test.YtmbfjmilhfmnkaaDoorKCntProof33
import Derived.Test.YtmbfjmilhfmnkaaDoorKCntProof31
import Derived.Test.YtmbfjmilhfmnkaaDoorKCntProof03
import Derived.Test.YtmbfjmilhfmnkaaDoorS0
set_option linter.unusedVariables false
set_option linter.unusedSimpArgs false
namespace Go.Proofs.YtmbfjmilhfmnkaaDoor
open Go Go.RowKit
noncomputable def floorF (x : LP) : Int × Int := if validP x ≠ 0 then (0, validP x) else if (numL x).1 / (numL x).2 < 9223372036854775808 then ((((numL x).1 / (numL x).2 : Nat) : Int), 0) else (0, 4)
theorem floorF_bad {x : LP} (h : validP x ≠ 0) : floorF x = (0, validP x) := if_pos h
theorem floorF_rat {p q : Nat} (g : Nm.Good p q) : floorF (ratP p q) = if p / q < 9223372036854775808 then (((p / q : Nat) : Int), 0) else (0, 4) := by
 unfold floorF; rw [if_neg (by rw [valid_rat g]; simp), numL_rat g]
theorem Nm.lb_getD0 (n : Nat) : (Nm.lb n).getD 0 0 = n % Nm.B := by
 have h := Nm.nv_lb n; have hl := Nm.lim_lb n
 rcases e : Nm.lb n with _ | ⟨a, l⟩
 ·rw [e] at h; simp [Nm.nv] at h; subst h; rfl
 ·rw [e] at h hl; rw [← h]; simp only [Nm.nv, List.getD_cons_zero]; have := hl a (by simp); unfold Nm.B at this ⊢; omega
theorem Nm.lb_getD1 (n : Nat) : (Nm.lb n).getD 1 0 = n / Nm.B % Nm.B := by
 have h := Nm.nv_lb n; have hl := Nm.lim_lb n
 rcases e : Nm.lb n with _ | ⟨a, _ | ⟨b, l⟩⟩
 ·rw [e] at h; simp [Nm.nv] at h; subst h; rfl
 ·rw [e] at h hl; rw [← h]; simp only [Nm.nv, List.getD_cons_succ, List.getD_nil]; have := hl a (by simp); unfold Nm.B at this ⊢; omega
 ·rw [e] at h hl; rw [← h]; simp only [Nm.nv, List.getD_cons_succ, List.getD_cons_zero]; have h1 := hl a (by simp); have h2 := hl b (by simp); generalize Nm.nv l = z; unfold Nm.B at *; omega
theorem lohi (l h : Nat) (hh : h < 4294967296) (hl : l < 4294967296) : bits .or .u64 (l : Int) ((h : Int) * 4294967296) = ((h * 4294967296 + l : Nat) : Int) := by
 have e : (h : Int) * 4294967296 = ((h * 4294967296 : Nat) : Int) := by omega
 rw [e, u64_or_nat _ _ (by omega) (by omega), Nat.or_comm, nat_join 32 _ _ (by omega) (by omega)]
theorem or_zero (l : Nat) (hl : l < 4294967296) : bits .or .u64 0 (l : Int) = (l : Int) := by
 have := u64_or_nat 0 l (by omega) (by omega)
 simpa using this
/-- limbs of a quotient -/
theorem len_small {n k : Nat} (h : k = (Nm.lb n).length) : (k ≤ 2 ↔ n < 18446744073709551616) ∧ (k ≤ 1 ↔ n < 4294967296) ∧ (k = 0 ↔ n = 0) := by
 refine ⟨?_, ?_, ?_⟩
 ·rw [h, Nm.lb_length_lt, show Nm.B ^ 2 = 18446744073709551616 by decide]
 ·rw [h, Nm.lb_length_lt, show Nm.B ^ 1 = 4294967296 by decide]
 ·rw [h]; exact ⟨fun e => lb_zero_len e, fun e => by rw [e, Nm.lb_zero]; rfl⟩
def PhiFl (g : Nat) (A1 : Option Addr) (k1 c1 : Nat) (A2 : Option Addr) (k2 c2 q N : Nat) (j : Nat) (w : World) (x : Value) : Prop :=
 match j with
 | 0 => x = .pointer (some ⟨g, 0, none⟩)
 | 1 => x = .slice A1 k1 c1
 | 2 => x = .agg #[.slice A1 k1 c1, .slice A2 k2 c2]
 | 3 => IsNb w x q 65
 | 4 => ∃ A k c A' k' c', x = .tuple #[.slice A k c, .slice A' k' c'] ∧ Nb w A k c N
 | 5 => ∃ A k c A' k' c', x = .tuple #[.slice A k c, .slice A' k' c'] ∧ Nb w A k c N
 | 6 => ∃ A k c, x = .slice A k c ∧ Nb w A k c N
 | 7 => ∃ A k c, x = .slice A k c
 | 8 => ∃ A k c, x = .slice A k c ∧ Nb w A k c N
 | 9 => ∃ A k c, x = .slice A k c
 | _ => True

theorem PhiFl.keep {g : Nat} {A1 : Option Addr} {k1 c1 : Nat} {A2 : Option Addr} {k2 c2 q N : Nat} : ∀ (w w' : World), Below w.heap.size w w' → ∀ j x, PhiFl g A1 k1 c1 A2 k2 c2 q N j w x → PhiFl g A1 k1 c1 A2 k2 c2 q N j w' x := by
 intro w w' hb j x h; unfold PhiFl at h ⊢
 split <;> simp only at h ⊢
 all_goals first
  | exact h
  | exact h.below hb
  | (obtain ⟨A, k, c, A', k', c', e, h⟩ := h; exact ⟨A, k, c, A', k', c', e, h.below hb⟩)
  | (obtain ⟨A, k, c, e, h⟩ := h; exact ⟨A, k, c, e, h.below hb⟩)
set_option maxRecDepth 100000 in
set_option maxHeartbeats 4000000 in
theorem floor_F (va : Value) (x : LP) (w : World) (hx : RtP w va x) :
  Calls Tryd.prog 32 #[va] w fun e w' => e = .returned (.tuple #[.int .i64 (floorF x).1, .int .i64 (floorF x).2]) ∧ Below w.heap.size w w' := by
 obtain ⟨A1, k1, c1, A2, k2, c2, rfl⟩ := hx.shape
 go_enter Tryd.func32, Tryd.ntmps32
 go_upto_region 1 with fail; refine wp_name ?_; intro w1 HW1; have hb1 : Below w.heap.size w w1 := by rw [HW1.out]; exact bA _ _
 have hB1 : Blk w1 w.heap.size 28 #[.slice A1 k1 c1, .slice A2 k2 c2] := by rw [HW1.out]; exact Blk.new _ _ _
 obtain ⟨g, hg⟩ : ∃ g, Hid (g = w.heap.size) := ⟨_, rfl⟩; rw [← hg.out] at hB1 ⊢; have ha1 := hx.below hb1; have b0 := hB1.cell 0; have b1 := hB1.cell 1; simp only [List.getElem?_toArray, List.getElem?_cons_zero, List.getElem?_cons_succ] at b0 b1; clear HW1 hB1 hx hg; go_wp2_with fail; refine (valid_P _ x _ ha1).mono ?_; rintro e w2 ⟨rfl, hb2⟩; have ha2 := ha1.below hb2; have b0 := cell_keep hb2 b0; have b1 := cell_keep hb2 b1; have hbw := Below.tr hb1 hb2; clear ha1 hb1 hb2; obtain ⟨E, hE⟩ : ∃ E, Hid (E = validP x) := ⟨_, rfl⟩; have hEv := hE.out; rw [← hEv]; clear hEv; by_cases h0 : E = 0
 rotate_left
 ·have t0 : (E != 0) = true := by simpa using h0
  have HF : Hid (floorF x = (0, E)) := by rw [hE.out] at h0 ⊢; exact floorF_bad h0
  clear h0 hE; go_wp2_with fail
  go_ret2
  exact ⟨by rw [HF.out]; rfl, hbw⟩
 subst h0; obtain ⟨p, q, rfl, ga, hr⟩ := ha2.good hE.out.symm; obtain ⟨h1, h2⟩ := hr.nb; have hk1 : k1 ≤ 64 := by rw [h1.1]; exact ga.fits.1
 have hk2 : k2 ≤ 64 := by rw [h2.1]; exact ga.fits.2
 have hq := ga.pos; obtain ⟨N, HN⟩ : ∃ N, Hid (N = p / q) := ⟨_, rfl⟩; have HF : Hid (floorF (ratP p q) = if N < 9223372036854775808 then ((N : Int), 0) else (0, 4)) := by rw [HN.out]; exact floorF_rat ga
 clear ga hr hE ha2; go_upto_region 4 with fail; refine region_invF (PhiFl g A1 k1 c1 A2 k2 c2 q N) (fun w w' => Below w.heap.size w w') (fun W => Below w2.heap.size w2 W) (by kernel_rfl) (by kernel_rfl) (by kernel_rfl) PhiFl.keep (fun _ _ hR hS => Below.tr hS hR) (bD _) (fun vs => by simp only [fillR, Act.put, sA, sB, sC, Nat.zero_add, Nat.reduceAdd]; rfl) ?_ ?_
 ·refine sK ?_ (sK ?_ (sK ?_ (sK ?_ (sK ?_ (sK ?_ (sK ?_ (sK ?_ (sK ?_ (sK ?_ (sZ))))))))))
  ·as_aux_lemma =>
   intro vs W hS hdep K hK; refine ⟨?_⟩; simp only [Act.put, sA, sB, sC, Nat.zero_add, Nat.reduceAdd] at hK ⊢; go_simp; with_reducible refine hK _ _ (Below.refl _ _) ?_
   exact rfl
  ·as_aux_lemma =>
   intro vs W hS hdep K hK; have d0 := hdep ⟨0, .data⟩ (by simp) rfl; simp only [PhiFl] at d0; have f1 := cell_keep hS b0; refine ⟨?_⟩; simp only [Act.put, sA, sB, sC, Nat.zero_add, Nat.reduceAdd, d0] at hK ⊢; go_simp; with_reducible refine hK _ _ (Below.refl _ _) ?_
   exact rfl
  ·as_aux_lemma =>
   intro vs W hS hdep K hK; have f1 := cell_keep hS b0; have f2 := cell_keep hS b1; refine ⟨?_⟩; simp only [Act.put, sA, sB, sC, Nat.zero_add, Nat.reduceAdd] at hK ⊢; go_simp; with_reducible refine hK _ _ (Below.refl _ _) ?_
   exact rfl
  ·as_aux_lemma =>
   intro vs W hS hdep K hK; have d0 := hdep ⟨2, .data⟩ (by simp) rfl; simp only [PhiFl] at d0; refine ⟨?_⟩; simp only [Act.put, sA, sB, sC, Nat.zero_add, Nat.reduceAdd, d0] at hK ⊢; go_simp; refine (den_n A1 A2 k1 c1 k2 c2 q _ (h2.below hS) hq (by omega)).mono ?_; rintro e w' ⟨A, k, c, rfl, hn, hk, hb⟩; go_wp2_with fail; with_reducible refine hK _ _ hb ?_
   exact ⟨A, k, c, rfl, hn, by have := hk.out; omega⟩
  ·as_aux_lemma =>
   intro vs W hS hdep K hK; have d0 := hdep ⟨1, .data⟩ (by simp) rfl; simp only [PhiFl] at d0; have d1 := hdep ⟨3, .data⟩ (by simp) rfl; simp only [PhiFl] at d1; refine @exE3 _ _ _ _ _ d1 ?_; clear d1; intro D1 d1 u1 d1; have e1 := d1.1; have n1 := d1.2.1; have m1 := d1.2.2; clear d1; refine ⟨?_⟩; simp only [Act.put, sA, sB, sC, Nat.zero_add, Nat.reduceAdd, d0, e1] at hK ⊢; go_simp; refine (divide_n A1 _ c1 _ k1 _ p q _ (h1.below hS) n1 (by omega) hq).mono ?_; rintro e w' ⟨A, k, c, A', k', c', rfl, hn, _, hb⟩; go_wp2_with fail; with_reducible refine hK _ _ hb ?_
   exact ⟨_, _, _, _, _, _, rfl, by rw [HN.out]; exact hn⟩
  ·as_aux_lemma =>
   intro vs W hS hdep K hK; have d0 := hdep ⟨4, .data⟩ (by simp) rfl; simp only [PhiFl] at d0; refine @exE6 _ _ _ _ _ _ _ _ d0 ?_; clear d0; intro A0 k0 c0 Z0 y0 z0 d0; have e0 := d0.1; have n0 := d0.2; clear d0; refine ⟨?_⟩; simp only [Act.put, sA, sB, sC, Nat.zero_add, Nat.reduceAdd, e0] at hK ⊢; go_simp; with_reducible refine hK _ _ (Below.refl _ _) ?_
   exact ⟨_, _, _, _, _, _, rfl, n0⟩
  ·as_aux_lemma =>
   intro vs W hS hdep K hK; have d0 := hdep ⟨5, .data⟩ (by simp) rfl; simp only [PhiFl] at d0; refine @exE6 _ _ _ _ _ _ _ _ d0 ?_; clear d0; intro A0 k0 c0 Z0 y0 z0 d0; have e0 := d0.1; have n0 := d0.2; clear d0; refine ⟨?_⟩; simp only [Act.put, sA, sB, sC, Nat.zero_add, Nat.reduceAdd, e0] at hK ⊢; go_simp; with_reducible refine hK _ _ (Below.refl _ _) ?_
   exact ⟨_, _, _, rfl, n0⟩
  ·as_aux_lemma =>
   intro vs W hS hdep K hK; have d0 := hdep ⟨5, .data⟩ (by simp) rfl; simp only [PhiFl] at d0; refine @exE6 _ _ _ _ _ _ _ _ d0 ?_; clear d0; intro A0 k0 c0 Z0 y0 z0 d0; have e0 := d0.1; have n0 := d0.2; clear d0; refine ⟨?_⟩; simp only [Act.put, sA, sB, sC, Nat.zero_add, Nat.reduceAdd, e0] at hK ⊢; go_simp; with_reducible refine hK _ _ (Below.refl _ _) ?_
   exact ⟨_, _, _, rfl⟩
  ·as_aux_lemma =>
   intro vs W hS hdep K hK; have d0 := hdep ⟨6, .data⟩ (by simp) rfl; simp only [PhiFl] at d0; refine @exE3 _ _ _ _ _ d0 ?_; clear d0; intro A0 k0 c0 d0; have e0 := d0.1; have n0 := d0.2; clear d0; refine ⟨?_⟩; simp only [Act.put, sA, sB, sC, Nat.zero_add, Nat.reduceAdd, e0] at hK ⊢; go_simp; with_reducible refine hK _ _ (Below.refl _ _) ?_
   exact ⟨_, _, _, rfl, n0⟩
  ·as_aux_lemma =>
   intro vs W hS hdep K hK; have d0 := hdep ⟨7, .data⟩ (by simp) rfl; simp only [PhiFl] at d0; refine @exE3 _ _ _ _ _ d0 ?_; clear d0; intro A0 k0 c0 d0; have e0 := d0; clear d0; refine ⟨?_⟩; simp only [Act.put, sA, sB, sC, Nat.zero_add, Nat.reduceAdd, e0] at hK ⊢; go_simp; with_reducible refine hK _ _ (Below.refl _ _) ?_
   exact ⟨_, _, _, rfl⟩
 intro vs w3 hb hv; have v8 := hv 8 (by simp); have v9 := hv 9 (by simp); simp only [PhiFl] at v8 v9; obtain ⟨Q, kq, cq, e8, hN⟩ := v8; obtain ⟨Z, kz, cz, e9⟩ := v9; simp only [Act.put, sA, sB, sC, Nat.zero_add, Nat.reduceAdd, e8, e9]; obtain ⟨ls1, ls2, ls3⟩ := len_small hN.1; have HL1 := Lib.hid ls1; have HL2 := Lib.hid ls2; have HL3 := Lib.hid ls3; have hbw := Below.tr hbw hb; clear ls1 ls2 ls3 hv hb e8 e9 h1 h2 b0 b1; go_wp2_with fail
 go_loopw [25, 7] (fun t v wr => ∃ i : Nat, t = .int .i64 i ∧ i ≤ kq ∧ i ≤ 2 ∧ v = .int .u64 ((if i = 0 then 0 else if i = 1 then N % 4294967296 else N % 18446744073709551616 : Nat) : Int) ∧ wr = w3) (fun t _ _ => kq - (intOf t).toNat)
 case atStart => exact ⟨0, rfl, by omega, by omega, rfl, rfl⟩
 case round =>
  obtain ⟨i, rfl, hi, hi2, rfl, rfl⟩ := hrel; have hkm : (kq : Int) ≤ 9223372036854775807 := by have := hN.le; omega
  by_cases hlt : i < kq
  ·obtain ⟨bx, ox, a, rfl, hca, ha, HA⟩ := hN.2.get (k := i) (by rw [← hN.1]; exact hlt); have : i = 0 ∨ i = 1 ∨ i = 2 := by omega
   rcases this with rfl | rfl | rfl
   ·rw [Nat.add_zero] at hca; have HA2 : Hid (a = N % 4294967296) := HA.out.trans (Nm.lb_getD0 N); have t1 := or_zero a ha; have t2 : decide ((0 : Int) < (kq : Int)) = true := by simp; omega
    simp only [if_pos]; go_wp2_with fail
    go_roundw
    case rel => exact ⟨1, by go_num, by omega, by omega, by simp [HA2.out]⟩
    case measure => simp [intOf]; omega
   ·have HA2 : Hid (a = N / 4294967296 % 4294967296) := HA.out.trans (Nm.lb_getD1 N); have t1 := lohi (N % 4294967296) a ha (Nat.mod_lt _ (by omega)); have t3 : a * 4294967296 + N % 4294967296 = N % 18446744073709551616 := by rw [HA2.out]; omega
    have t2 : decide ((1 : Int) < (kq : Int)) = true := by simp; omega
    have t4 : ((a : Int) * 4294967296) % 18446744073709551616 = (a : Int) * 4294967296 := by omega
    obtain ⟨M, HM⟩ : ∃ M, Hid (M = N % 4294967296) := ⟨_, rfl⟩; rw [← HM.out] at t1 t3 ⊢; simp only [if_neg (show ¬ (1 : Nat) = 0 by omega), if_pos]; go_wp2_with fail
    go_roundw
    case rel => exact ⟨2, by go_num, by omega, by omega, by simp⟩
    case measure => simp [intOf]; omega
   ·have t2 : decide ((2 : Int) < (kq : Int)) = true := by simp; omega
    have hbig : ¬ N < 9223372036854775808 := fun h => by have := HL1.out.2 (by omega); omega
    have HE := Lib.hid (HF.out.trans (if_neg hbig)); clear hbig; go_wp2_with fail
    go_ret2
    exact ⟨by rw [HE.out]; rfl, hbw⟩
  ·obtain rfl : i = kq := by omega
   have hV : (if i = 0 then 0 else if i = 1 then N % 4294967296 else N % 18446744073709551616 : Nat) = N := by
    have h64 := HL1.out.1 hi2
    rcases (show i = 0 ∨ i = 1 ∨ i = 2 by omega) with e | e | e
    ·rw [if_pos e, HL3.out.1 e]
    ·rw [if_neg (by omega), if_pos e]; have := HL2.out.1 (by omega); omega
    ·rw [if_neg (by omega), if_neg (by omega)]; omega
   rw [hV]; have h64 := HL1.out.1 hi2; have t2 : decide ((i : Int) < (i : Int)) = false := by simp
   clear hV hN HL1 HL2 HL3; by_cases hs : N < 9223372036854775808
   ·have t3 : decide ((9223372036854775807 : Int) < (N : Int)) = false := by simp; omega
    have t4 : IntKind.i64.wrap (N : Int) = (N : Int) := by rw [IntWalk.i64_in _ (by omega)]
    have HE := Lib.hid (HF.out.trans (if_pos hs)); clear hs h64; go_wp2_with fail
    go_ret2
    exact ⟨by rw [HE.out]; rfl, hbw⟩
   ·have t3 : decide ((9223372036854775807 : Int) < (N : Int)) = true := by simp; omega
    have HE := Lib.hid (HF.out.trans (if_neg hs)); clear hs h64; go_wp2_with fail
    go_ret2
    exact ⟨by rw [HE.out]; rfl, hbw⟩
set_option maxRecDepth 100000 in
set_option maxHeartbeats 4000000 in
theorem rfloor_F (va : Value) (x : LP) (w : World) (hx : RtP w va x) :
  Calls Tryd.prog 33 #[va] w fun e w' => e = .returned (.tuple #[.int .i64 (floorF x).1, .int .i64 (floorF x).2]) ∧ Below w.heap.size w w' := by
 obtain ⟨A1, k1, c1, A2, k2, c2, rfl⟩ := hx.shape
 go_enter Tryd.func33, Tryd.ntmps33
 go_upto_region 1 with fail; refine wp_name ?_; intro w1 HW1; have hb1 : Below w.heap.size w w1 := by rw [HW1.out]; exact bA _ _
 have hB1 : Blk w1 w.heap.size 28 #[.slice A1 k1 c1, .slice A2 k2 c2] := by rw [HW1.out]; exact Blk.new _ _ _
 obtain ⟨g, hg⟩ : ∃ g, Hid (g = w.heap.size) := ⟨_, rfl⟩; rw [← hg.out] at hB1 ⊢; have ha1 := hx.below hb1; have b0 := hB1.cell 0; have b1 := hB1.cell 1; simp only [List.getElem?_toArray, List.getElem?_cons_zero, List.getElem?_cons_succ] at b0 b1; clear HW1 hB1 hx hg; go_wp2_with fail; refine (rvalid_P _ x _ ha1).mono ?_; rintro e w2 ⟨rfl, hb2⟩; have ha2 := ha1.below hb2; have b0 := cell_keep hb2 b0; have b1 := cell_keep hb2 b1; have hbw := Below.tr hb1 hb2; clear ha1 hb1 hb2; obtain ⟨E, hE⟩ : ∃ E, Hid (E = validP x) := ⟨_, rfl⟩; have hEv := hE.out; rw [← hEv]; clear hEv; by_cases h0 : E = 0
 rotate_left
 ·have t0 : (E != 0) = true := by simpa using h0
  have HF : Hid (floorF x = (0, E)) := by rw [hE.out] at h0 ⊢; exact floorF_bad h0
  clear h0 hE; go_wp2_with fail
  go_ret2
  exact ⟨by rw [HF.out]; rfl, hbw⟩
 subst h0; obtain ⟨p, q, rfl, ga, hr⟩ := ha2.good hE.out.symm; obtain ⟨h1, h2⟩ := hr.nb; have hk1 : k1 ≤ 64 := by rw [h1.1]; exact ga.fits.1
 have hk2 : k2 ≤ 64 := by rw [h2.1]; exact ga.fits.2
 have hq := ga.pos; obtain ⟨N, HN⟩ : ∃ N, Hid (N = p / q) := ⟨_, rfl⟩; have HF : Hid (floorF (ratP p q) = if N < 9223372036854775808 then ((N : Int), 0) else (0, 4)) := by rw [HN.out]; exact floorF_rat ga
 clear ga hr hE ha2; go_upto_region 4 with fail; refine region_invF (PhiFl g A1 k1 c1 A2 k2 c2 q N) (fun w w' => Below w.heap.size w w') (fun W => Below w2.heap.size w2 W) (by kernel_rfl) (by kernel_rfl) (by kernel_rfl) PhiFl.keep (fun _ _ hR hS => Below.tr hS hR) (bD _) (fun vs => by simp only [fillR, Act.put, sA, sB, sC, Nat.zero_add, Nat.reduceAdd]; rfl) ?_ ?_
 ·refine sK ?_ (sK ?_ (sK ?_ (sK ?_ (sK ?_ (sK ?_ (sK ?_ (sK ?_ (sK ?_ (sK ?_ (sZ))))))))))
  ·as_aux_lemma =>
   intro vs W hS hdep K hK; refine ⟨?_⟩; simp only [Act.put, sA, sB, sC, Nat.zero_add, Nat.reduceAdd] at hK ⊢; go_simp; with_reducible refine hK _ _ (Below.refl _ _) ?_
   exact rfl
  ·as_aux_lemma =>
   intro vs W hS hdep K hK; have d0 := hdep ⟨0, .data⟩ (by simp) rfl; simp only [PhiFl] at d0; have f1 := cell_keep hS b0; refine ⟨?_⟩; simp only [Act.put, sA, sB, sC, Nat.zero_add, Nat.reduceAdd, d0] at hK ⊢; go_simp; with_reducible refine hK _ _ (Below.refl _ _) ?_
   exact rfl
  ·as_aux_lemma =>
   intro vs W hS hdep K hK; have f1 := cell_keep hS b0; have f2 := cell_keep hS b1; refine ⟨?_⟩; simp only [Act.put, sA, sB, sC, Nat.zero_add, Nat.reduceAdd] at hK ⊢; go_simp; with_reducible refine hK _ _ (Below.refl _ _) ?_
   exact rfl
  ·as_aux_lemma =>
   intro vs W hS hdep K hK; have d0 := hdep ⟨2, .data⟩ (by simp) rfl; simp only [PhiFl] at d0; refine ⟨?_⟩; simp only [Act.put, sA, sB, sC, Nat.zero_add, Nat.reduceAdd, d0] at hK ⊢; go_simp; refine (rden_n A1 A2 k1 c1 k2 c2 q _ (h2.below hS) hq (by omega)).mono ?_; rintro e w' ⟨A, k, c, rfl, hn, hk, hb⟩; go_wp2_with fail; with_reducible refine hK _ _ hb ?_
   exact ⟨A, k, c, rfl, hn, by have := hk.out; omega⟩
  ·as_aux_lemma =>
   intro vs W hS hdep K hK; have d0 := hdep ⟨1, .data⟩ (by simp) rfl; simp only [PhiFl] at d0; have d1 := hdep ⟨3, .data⟩ (by simp) rfl; simp only [PhiFl] at d1; refine @exE3 _ _ _ _ _ d1 ?_; clear d1; intro D1 d1 u1 d1; have e1 := d1.1; have n1 := d1.2.1; have m1 := d1.2.2; clear d1; refine ⟨?_⟩; simp only [Act.put, sA, sB, sC, Nat.zero_add, Nat.reduceAdd, d0, e1] at hK ⊢; go_simp; refine (quotient_n A1 _ c1 _ k1 _ p q _ (h1.below hS) n1 (by omega) (by omega) hq).mono ?_; rintro e w' ⟨A, k, c, A', k', c', rfl, hn, _, _, _, hb⟩; go_wp2_with fail; with_reducible refine hK _ _ hb ?_
   exact ⟨_, _, _, _, _, _, rfl, by rw [HN.out]; exact hn⟩
  ·as_aux_lemma =>
   intro vs W hS hdep K hK; have d0 := hdep ⟨4, .data⟩ (by simp) rfl; simp only [PhiFl] at d0; refine @exE6 _ _ _ _ _ _ _ _ d0 ?_; clear d0; intro A0 k0 c0 Z0 y0 z0 d0; have e0 := d0.1; have n0 := d0.2; clear d0; refine ⟨?_⟩; simp only [Act.put, sA, sB, sC, Nat.zero_add, Nat.reduceAdd, e0] at hK ⊢; go_simp; with_reducible refine hK _ _ (Below.refl _ _) ?_
   exact ⟨_, _, _, _, _, _, rfl, n0⟩
  ·as_aux_lemma =>
   intro vs W hS hdep K hK; have d0 := hdep ⟨5, .data⟩ (by simp) rfl; simp only [PhiFl] at d0; refine @exE6 _ _ _ _ _ _ _ _ d0 ?_; clear d0; intro A0 k0 c0 Z0 y0 z0 d0; have e0 := d0.1; have n0 := d0.2; clear d0; refine ⟨?_⟩; simp only [Act.put, sA, sB, sC, Nat.zero_add, Nat.reduceAdd, e0] at hK ⊢; go_simp; with_reducible refine hK _ _ (Below.refl _ _) ?_
   exact ⟨_, _, _, rfl, n0⟩
  ·as_aux_lemma =>
   intro vs W hS hdep K hK; have d0 := hdep ⟨5, .data⟩ (by simp) rfl; simp only [PhiFl] at d0; refine @exE6 _ _ _ _ _ _ _ _ d0 ?_; clear d0; intro A0 k0 c0 Z0 y0 z0 d0; have e0 := d0.1; have n0 := d0.2; clear d0; refine ⟨?_⟩; simp only [Act.put, sA, sB, sC, Nat.zero_add, Nat.reduceAdd, e0] at hK ⊢; go_simp; with_reducible refine hK _ _ (Below.refl _ _) ?_
   exact ⟨_, _, _, rfl⟩
  ·as_aux_lemma =>
   intro vs W hS hdep K hK; have d0 := hdep ⟨6, .data⟩ (by simp) rfl; simp only [PhiFl] at d0; refine @exE3 _ _ _ _ _ d0 ?_; clear d0; intro A0 k0 c0 d0; have e0 := d0.1; have n0 := d0.2; clear d0; refine ⟨?_⟩; simp only [Act.put, sA, sB, sC, Nat.zero_add, Nat.reduceAdd, e0] at hK ⊢; go_simp; with_reducible refine hK _ _ (Below.refl _ _) ?_
   exact ⟨_, _, _, rfl, n0⟩
  ·as_aux_lemma =>
   intro vs W hS hdep K hK; have d0 := hdep ⟨7, .data⟩ (by simp) rfl; simp only [PhiFl] at d0; refine @exE3 _ _ _ _ _ d0 ?_; clear d0; intro A0 k0 c0 d0; have e0 := d0; clear d0; refine ⟨?_⟩; simp only [Act.put, sA, sB, sC, Nat.zero_add, Nat.reduceAdd, e0] at hK ⊢; go_simp; with_reducible refine hK _ _ (Below.refl _ _) ?_
   exact ⟨_, _, _, rfl⟩
 intro vs w3 hb hv; have v8 := hv 8 (by simp); have v9 := hv 9 (by simp); simp only [PhiFl] at v8 v9; obtain ⟨Q, kq, cq, e8, hN⟩ := v8; obtain ⟨Z, kz, cz, e9⟩ := v9; simp only [Act.put, sA, sB, sC, Nat.zero_add, Nat.reduceAdd, e8, e9]; obtain ⟨ls1, ls2, ls3⟩ := len_small hN.1; have HL1 := Lib.hid ls1; have HL2 := Lib.hid ls2; have HL3 := Lib.hid ls3; have hbw := Below.tr hbw hb; clear ls1 ls2 ls3 hv hb e8 e9 h1 h2 b0 b1; have hkm : (kq : Int) ≤ 9223372036854775807 := by have := hN.le; omega
 have L0 := Lib.hid (Nm.lb_getD0 N); have L1 := Lib.hid (Nm.lb_getD1 N); by_cases hk : kq ≤ 2
 rotate_left
 ·have t1 : decide ((2 : Int) < (kq : Int)) = true := by simp; omega
  have hbig : ¬ N < 9223372036854775808 := fun h => hk (HL1.out.2 (by omega))
  have HE := Lib.hid (HF.out.trans (if_neg hbig)); clear hk hbig; go_wp2_with fail
  go_ret2
  exact ⟨by rw [HE.out]; rfl, hbw⟩
 have t1 : decide ((2 : Int) < (kq : Int)) = false := by simp; omega
 have h64 := HL1.out.1 hk; obtain ⟨a1, HA1⟩ : ∃ a, Hid (a = N / 4294967296) := ⟨_, rfl⟩; obtain ⟨a0, HA0⟩ : ∃ a, Hid (a = N % 4294967296) := ⟨_, rfl⟩; have hn0 : a0 < 4294967296 := by rw [HA0.out]; exact Nat.mod_lt _ (by omega)
 have hn1 : a1 < 4294967296 := by rw [HA1.out]; omega
 have hG1 : a1 = (Nm.lb N).getD 1 0 := by rw [L1.out]; unfold Nm.B; rw [HA1.out]; omega
 have hG0 : a0 = (Nm.lb N).getD 0 0 := by rw [L0.out]; exact HA0.out
 have HL := Lib.hid hN; have HG1 := Lib.hid hG1; have HG0 := Lib.hid hG0; have HNN : Hid (N = a1 * 4294967296 + a0) := by show _ = _; rw [HA0.out, HA1.out]; omega
 clear hN hG1 hG0 h64 HA0 HA1 L0 L1; go_wp2_with fail; refine (limb_q Q cq kq 1 a1 _ _ HL.out.2 HL.out.1 (by omega) HG1.out).mono ?_; rintro e w' ⟨rfl, rfl⟩; by_cases hs : a1 < 2147483648
 ·have t3 : decide ((2147483648 : Int) ≤ (a1 : Int)) = false := by simp; omega
  have t5 := lohi a0 a1 hn1 hn0; have t4 : ((a1 : Int) * 4294967296) % 18446744073709551616 = (a1 : Int) * 4294967296 := by omega
  obtain ⟨M, HM⟩ : ∃ M, Hid (M = a1 * 4294967296 + a0) := ⟨_, rfl⟩; rw [← HM.out] at t5; have t6 : IntKind.i64.wrap (M : Int) = (M : Int) := by rw [IntWalk.i64_in _ (by have := HM.out; omega)]
  have hs2 : N < 9223372036854775808 := by rw [HNN.out]; omega
  have HE := Lib.hid (HF.out.trans (if_pos hs2)); have HE2 : Hid (N = M) := HNN.out.trans HM.out.symm; clear hs hs2; go_wp2_with fail; refine (limb_q Q cq kq 0 a0 _ _ HL.out.2 HL.out.1 (by omega) HG0.out).mono ?_; rintro e w' ⟨rfl, rfl⟩; go_wp2_with fail; refine (limb_q Q cq kq 1 a1 _ _ HL.out.2 HL.out.1 (by omega) HG1.out).mono ?_; rintro e w' ⟨rfl, rfl⟩; go_wp2_with fail
  go_ret2
  exact ⟨by rw [HE.out, HE2.out]; rfl, hbw⟩
 ·have t3 : decide ((2147483648 : Int) ≤ (a1 : Int)) = true := by simp; omega
  have hs2 : ¬ N < 9223372036854775808 := by rw [HNN.out]; omega
  have HE := Lib.hid (HF.out.trans (if_neg hs2)); clear hs hs2; go_wp2_with fail
  go_ret2
  exact ⟨by rw [HE.out]; rfl, hbw⟩
end Go.Proofs.YtmbfjmilhfmnkaaDoor
namespace Go.Proofs.YtmbfjmilhfmnkaaDoor
open Go Go.RowKit
theorem mul_ltR {x y k l : Nat} (h1 : x < Nm.B ^ k) (h2 : y < Nm.B ^ l) : x * y < Nm.B ^ (k + l) := by
 rw [Nat.pow_add]; exact Nat.mul_lt_mul_of_lt_of_le h1 (Nat.le_of_lt h2) (Nat.lt_of_le_of_lt (Nat.zero_le _) h2)
def RBetw (f : Nat) : Prop := ∀ (an ad bn bd : Nat) (A1 : Option Addr) (k1 c1 : Nat) (A2 : Option Addr) (k2 c2 : Nat) (A3 : Option Addr) (k3 c3 : Nat) (A4 : Option Addr) (k4 c4 : Nat) (w : World), Nm.SimP an ad bn bd → ad + bd ≤ f → Hid (an < Nm.B ^ 64 ∧ ad < Nm.B ^ 64 ∧ bn < Nm.B ^ 64 ∧ bd < Nm.B ^ 64) → Nb w A1 k1 c1 an → Nb w A2 k2 c2 ad → Nb w A3 k3 c3 bn → Nb w A4 k4 c4 bd →
 Calls Tryd.prog 73 #[.slice A1 k1 c1, .slice A2 k2 c2, .slice A3 k3 c3, .slice A4 k4 c4] w fun e w' => ∃ A k c A' k' c', e = .returned (.tuple #[.slice A k c, .slice A' k' c']) ∧ Nb w' A k c (Nm.sim f an ad bn bd).1 ∧ Nb w' A' k' c' (Nm.sim f an ad bn bd).2 ∧ Below w.heap.size w w'
set_option maxRecDepth 100000 in
set_option maxHeartbeats 8000000 in
theorem rbetween_n : ∀ f, RBetw f
 | 0 => fun an ad bn bd _ _ _ _ _ _ _ _ _ _ _ _ _ hp hf => by
  exfalso
  have := hp.ha; omega
 | f + 1 => by
  have IH0 := rbetween_n f; intro an ad bn bd A1 k1 c1 A2 k2 c2 A3 k3 c3 A4 k4 c4 w hp hf HL h1 h2 h3 h4; obtain ⟨⟨fn, fd⟩, HF⟩ : ∃ r, Hid (r = Nm.sim (f + 1) an ad bn bd) := ⟨_, rfl⟩; have HOK := Lib.hid (Nm.sim_ok (f + 1) an ad bn bd hp hf); rw [← HF.out] at HOK ⊢; obtain ⟨q, HQ⟩ : ∃ q, Hid (q = an / ad) := ⟨_, rfl⟩; obtain ⟨r, HR⟩ : ∃ r, Hid (r = an % ad) := ⟨_, rfl⟩; have hk1 := h1.k64 HL.out.1; have hk2 := h2.k64 HL.out.2.1; have hk3 := h3.k64 HL.out.2.2.1; have hk4 := h4.k64 HL.out.2.2.2; have hq64 : q < Nm.B ^ 64 := by rw [HQ.out]; exact Nat.lt_of_le_of_lt (Nat.div_le_self _ _) HL.out.1
  have hqle : q * bd ≤ bn := by rw [HQ.out]; exact hp.q_le
  have hbn := HL.out.2.2.1; have hqb := Nat.lt_of_le_of_lt hqle hbn; have hpa := hp.ha; have HD := quotient_n A1 A2 c1 c2 k1 k2 an ad w h1 h2 (by omega) (by omega) hpa; rw [← HQ.out, ← HR.out] at HD; have HD := Lib.hid HD; have HLT := Lib.hid (And.intro hq64 (And.intro hqb hbn)); clear hq64 hqb hbn
  go_enter Tryd.func73, Tryd.ntmps73
  go_wp2_with fail; refine HD.out.mono ?_; rintro e w2 ⟨Q, kq, cq, R, kr, cr, rfl, hQ, hR, _, _, hb2⟩; have hbw : Below w.heap.size w w2 := hb2; have h1 := h1.below hb2; have h2 := h2.below hb2; have h3 := h3.below hb2; have h4 := h4.below hb2; have hkq := hQ.k64 HLT.out.1; clear HD hb2; by_cases hr0 : r = 0
  ·have hkr : kr = 0 := by have := hR.1; rw [hr0, Nm.lb_zero] at this; simpa using this
   have HF1 : Hid (fn = q ∧ fd = 1) := by
    have h := HF.out; rw [Nm.sim, if_pos (by rw [← HR.out]; exact hr0), ← HQ.out] at h; injection h with h5 h6; exact ⟨h5, h6⟩
   subst hkr; clear hr0; have HF1a : Hid (fn = q) := HF1.out.1; have HF1b : Hid (fd = 1) := HF1.out.2; have hone := Nb.one w2 _ rfl; have hba := bA w2 (.cells #[.int .u32 1] 59); go_wp2_with fail; exact bodyPost_ret (v := .tuple #[.slice Q kq cq, .slice (some ⟨w2.heap.size, 0, none⟩) 1 1]) (by simp [results, Tryd.results73, go_sem]) rfl ⟨_, _, _, _, _, _, rfl, by rw [HF1a.out]; exact hQ.below hba, by rw [HF1b.out]; exact hone, Below.tr hbw hba⟩
  ·have hkr : 0 < kr := by
    rcases Nat.eq_zero_or_pos kr with e | e
    ·exfalso
     have := hR.1; rw [e] at this; have h5 := List.eq_nil_of_length_eq_zero this.symm; rw [Nm.lb_nil_iff] at h5; exact hr0 h5
    ·exact e
   have t1 : ((kr : Int) == 0) = false := by simp; omega
   have hrn : an % ad ≠ 0 := by rw [← HR.out]; exact hr0
   have HRN := Lib.hid hrn; clear hr0 hrn; have hone := Nb.one w2 _ rfl; have hba := bA w2 (.cells #[.int .u32 1] 59); go_wp2_with fail; refine (rplus_n _ _ _ _ _ _ _ _ _ (hQ.below hba) hone (by omega) (by omega)).mono ?_; rintro e w3 ⟨X, kx, cx, rfl, hX, hb⟩; have hb := Below.tr hba hb; have hbw := Below.tr hbw hb; have h2 := h2.below hb; have h3 := h3.below hb; have h4 := h4.below hb; have hQ := hQ.below hb; have hR := hR.below hb; have hkx := hX.k65 HLT.out.1; clear hb hone hba h1; go_wp2_with fail; refine (rtimes_n _ _ _ _ _ _ _ _ _ hX h4 (by omega) (by omega)).mono ?_; rintro e w4 ⟨Y, ky, cy, rfl, hY, hb⟩
   have hky : ky ≤ 65 + 64 := by
    rw [hY.1, Nm.lb_length_lt]; have e1 := hX.lt; have e2 := h4.lt; exact mul_ltR (Nat.lt_of_lt_of_le e1 (Nat.pow_le_pow_right (by unfold Nm.B; omega) hkx)) (Nat.lt_of_lt_of_le e2 (Nat.pow_le_pow_right (by unfold Nm.B; omega) hk4))
   have hbw := Below.tr hbw hb; have h2 := h2.below hb; have h3 := h3.below hb; have h4 := h4.below hb; have hQ := hQ.below hb; have hR := hR.below hb; have hX := hX.below hb; clear hb; go_wp2_with fail; refine (rcompare_n _ _ _ _ _ _ _ _ _ hY h3 (by omega) (by omega)).mono ?_; rintro e w6 ⟨rfl, rfl⟩; clear hY; by_cases hn : (q + 1) * bd ≤ bn
   ·have t2 : decide (Nm.cmpN ((q + 1) * bd) bn ≤ 0) = true := by
     rw [decide_eq_true_iff]; unfold Nm.cmpN
     split
     ·omega
     ·split <;> omega
    have HF1 : Hid (fn = q + 1 ∧ fd = 1) := by
     have h := HF.out; rw [Nm.sim, if_neg HRN.out, ← HQ.out, if_pos hn] at h; injection h with h5 h6; exact ⟨h5, h6⟩
    have HF1a : Hid (fn = q + 1) := HF1.out.1; have HF1b : Hid (fd = 1) := HF1.out.2; have hone := Nb.one w4 _ rfl; have hba := bA w4 (.cells #[.int .u32 1] 59); clear hn; go_wp2_with fail; exact bodyPost_ret (v := .tuple #[.slice X kx cx, .slice (some ⟨w4.heap.size, 0, none⟩) 1 1]) (by simp [results, Tryd.results73, go_sem]) rfl ⟨_, _, _, _, _, _, rfl, by rw [HF1a.out]; exact hX.below hba, by rw [HF1b.out]; exact hone, Below.tr hbw hba⟩
   ·have t2 : decide (Nm.cmpN ((q + 1) * bd) bn ≤ 0) = false := by
     rw [decide_eq_false_iff_not]; unfold Nm.cmpN; rw [if_neg (by omega)]
     split <;> omega
    obtain ⟨⟨n, d⟩, HND⟩ : ∃ z, Hid (z = Nm.sim f bd (bn - q * bd) ad r) := ⟨Nm.sim f bd (bn - q * bd) ad r, rfl⟩; have hnx := hp.next HRN.out; rw [← HQ.out, ← HR.out] at hnx
    have hls : (bn - q * bd) + r ≤ f := by
     have := hp.less HRN.out (by rw [← HQ.out]; exact hn); rw [← HQ.out, ← HR.out] at this; omega
    have hlm : Hid (bd < Nm.B ^ 64 ∧ bn - q * bd < Nm.B ^ 64 ∧ ad < Nm.B ^ 64 ∧ r < Nm.B ^ 64) := ⟨HL.out.2.2.2, Nat.lt_of_le_of_lt (Nat.sub_le _ _) HL.out.2.2.1, HL.out.2.1, by rw [HR.out]; exact Nat.lt_trans (Nat.mod_lt _ hpa) HL.out.2.1⟩; have HSR := Lib.hid (Nm.sim_ok f bd (bn - q * bd) ad r hnx hls); rw [← HND.out] at HSR
    have HF1 : Hid (fn = q * n + d ∧ fd = n) := by
     have h := HF.out; rw [Nm.sim, if_neg HRN.out, ← HQ.out, if_neg hn, ← HR.out, ← HND.out] at h; injection h with h5 h6; exact ⟨h5, h6⟩
    have IH : Hid (∀ (B1 : Option Addr) (j1 d1 : Nat) (B2 : Option Addr) (j2 d2 : Nat) (B3 : Option Addr) (j3 d3 : Nat) (B4 : Option Addr) (j4 d4 : Nat) (W : World), Nb W B1 j1 d1 bd → Nb W B2 j2 d2 (bn - q * bd) → Nb W B3 j3 d3 ad → Nb W B4 j4 d4 r → Calls Tryd.prog 73 #[.slice B1 j1 d1, .slice B2 j2 d2, .slice B3 j3 d3, .slice B4 j4 d4] W fun e w' => ∃ A k c A' k' c', e = .returned (.tuple #[.slice A k c, .slice A' k' c']) ∧ Nb w' A k c n ∧ Nb w' A' k' c' d ∧ Below W.heap.size W w') := by
     intro B1 j1 d1 B2 j2 d2 B3 j3 d3 B4 j4 d4 W g1 g2 g3 g4; have h := IH0 bd (bn - q * bd) ad r B1 j1 d1 B2 j2 d2 B3 j3 d3 B4 j4 d4 W hnx hls hlm g1 g2 g3 g4; rw [← HND.out] at h; exact h
    have HLE := Lib.hid hqle; have HN2 : Hid (n < Nm.B ^ 64 ∧ d < Nm.B ^ 64) := ⟨Nat.lt_of_le_of_lt HSR.out.na hlm.out.1, Nat.lt_of_le_of_lt HSR.out.da hlm.out.2.1⟩; clear hn hls hnx IH0 hqle; go_wp2_with fail; refine (rtimes_n _ _ _ _ _ _ _ _ _ hQ h4 (by omega) (by omega)).mono ?_; rintro e w7 ⟨Z, kz, cz, rfl, hZ, hb⟩; have hkz := hZ.k64 HLT.out.2.1; have hbw := Below.tr hbw hb; have h2 := h2.below hb; have h3 := h3.below hb; have h4 := h4.below hb; have hQ := hQ.below hb; have hR := hR.below hb; clear hb hX; go_wp2_with fail; refine (rminus_n _ _ _ _ _ _ _ _ _ h3 hZ (by omega) (by omega) HLE.out).mono ?_; rintro e w8 ⟨Y2, ky2, cy2, rfl, hY2, hb⟩; have hbw := Below.tr hbw hb; have h2 := h2.below hb; have h4 := h4.below hb; have hQ := hQ.below hb; have hR := hR.below hb; clear hb hZ h3; go_wp2_with fail; refine (IH.out _ _ _ _ _ _ _ _ _ _ _ _ _ h4 hY2 h2 hR).mono ?_; rintro e w9 ⟨U, ku, cu, V, kv, cv, rfl, hU, hV, hb⟩; have hku := hU.k64 HN2.out.1; have hkv := hV.k64 HN2.out.2; have hbw := Below.tr hbw hb; have hQ := hQ.below hb; clear hb h4 hY2 h2 hR; go_wp2_with fail; refine (rtimes_n _ _ _ _ _ _ _ _ _ hQ hU (by omega) (by omega)).mono ?_; rintro e w10 ⟨Z, kz2, cz2, rfl, hZ, hb⟩
    have hkz2 : kz2 ≤ 64 + 64 := by
     rw [hZ.1, Nm.lb_length_lt]; have e1 := hQ.lt; have e2 := hU.lt; exact mul_ltR (Nat.lt_of_lt_of_le e1 (Nat.pow_le_pow_right (by unfold Nm.B; omega) hkq)) (Nat.lt_of_lt_of_le e2 (Nat.pow_le_pow_right (by unfold Nm.B; omega) hku))
    have hbw := Below.tr hbw hb; have hU := hU.below hb; have hV := hV.below hb; clear hb hQ; go_wp2_with fail; refine (rplus_n _ _ _ _ _ _ _ _ _ hZ hV (by omega) (by omega)).mono ?_; rintro e w11 ⟨Y, ky3, cy3, rfl, hY, hb⟩; have hbw := Below.tr hbw hb; have hU := hU.below hb; have HF1a : Hid (fn = q * n + d) := HF1.out.1; have HF1b : Hid (fd = n) := HF1.out.2; clear hb hV; go_wp2_with fail; exact bodyPost_ret (v := .tuple #[.slice Y ky3 cy3, .slice U ku cu]) (by simp [results, Tryd.results73, go_sem]) rfl ⟨_, _, _, _, _, _, rfl, by rw [HF1a.out]; exact hY, by rw [HF1b.out]; exact hU, hbw⟩
def PhiRs (A1 : Option Addr) (k1 c1 : Nat) (A2 : Option Addr) (k2 c2 : Nat) (B1 : Option Addr) (m1 d1 : Nat) (B2 : Option Addr) (m2 d2 qa qb n d g1 g2 : Nat) (j : Nat) (w : World) (x : Value) : Prop :=
 match j with
 | 0 => x = .pointer (some ⟨g1, 0, none⟩)
 | 1 => x = .slice A1 k1 c1
 | 2 => x = .agg #[.slice A1 k1 c1, .slice A2 k2 c2]
 | 3 => ∃ A k c, x = .slice A k c ∧ Nb w A k c qa
 | 4 => x = .pointer (some ⟨g2, 0, none⟩)
 | 5 => x = .slice B1 m1 d1
 | 6 => x = .agg #[.slice B1 m1 d1, .slice B2 m2 d2]
 | 7 => ∃ A k c, x = .slice A k c ∧ Nb w A k c qb
 | 8 => TwoN w x n d
 | 9 => TwoN w x n d
 | 10 => ∃ A k c, x = .slice A k c ∧ Nb w A k c n
 | 11 => ∃ A k c, x = .slice A k c ∧ Nb w A k c d
 | 12 => ∃ A k c, x = .slice A k c ∧ Nb w A k c n
 | 13 => ∃ A k c, x = .slice A k c ∧ Nb w A k c d
 | _ => True

theorem PhiRs.keep {A1 : Option Addr} {k1 c1 : Nat} {A2 : Option Addr} {k2 c2 : Nat} {B1 : Option Addr} {m1 d1 : Nat} {B2 : Option Addr} {m2 d2 qa qb n d g1 g2 : Nat} : ∀ (w w' : World), Below w.heap.size w w' → ∀ j x, PhiRs A1 k1 c1 A2 k2 c2 B1 m1 d1 B2 m2 d2 qa qb n d g1 g2 j w x → PhiRs A1 k1 c1 A2 k2 c2 B1 m1 d1 B2 m2 d2 qa qb n d g1 g2 j w' x := by
 intro w w' hb j x h; unfold PhiRs at h ⊢
 split <;> simp only at h ⊢
 all_goals first
  | exact h
  | exact h.below hb
  | (obtain ⟨A, k, c, e, h⟩ := h; exact ⟨A, k, c, e, h.below hb⟩)
theorem rreduced_ok (A1 A2 : Option Addr) (c1 c2 k1 k2 n d : Nat) (w : World) (h1 : Nb w A1 k1 c1 n) (h2 : Nb w A2 k2 c2 d) (hn : n < Nm.B ^ 64) (hd : d < Nm.B ^ 64) (h0 : 0 < d) :
  Calls Tryd.prog 49 #[.slice A1 k1 c1, .slice A2 k2 c2] w fun e w' => ∃ A k c A' k' c', e = .returned (.tuple #[.agg #[.slice A k c, .slice A' k' c'], .int .i64 0]) ∧ RtP w' (.agg #[.slice A k c, .slice A' k' c']) (redP n d) ∧ Below w.heap.size w w' := by
 have hk1 := h1.k64 hn; have hk2 := h2.k64 hd; refine (rreduced_n _ _ _ _ _ _ _ _ _ h1 h2 (by omega) (by omega) h0).mono ?_; rintro e w' ⟨v, er, rfl, hR, hb⟩; obtain ⟨rfl, h⟩ := hR.resP; rw [resP_small hn hd] at h ⊢; obtain ⟨A, k, c, A', k', c', rfl⟩ := h.shape; exact ⟨A, k, c, A', k', c', rfl, h, hb⟩
set_option maxRecDepth 100000 in
set_option maxHeartbeats 8000000 in
theorem rsimplest_F : BinC 35 simF := by
 intro va vb a b w ha hb; obtain ⟨A1, k1, c1, A2, k2, c2, rfl⟩ := ha.shape; obtain ⟨B1, m1, d1, B2, m2, d2, rfl⟩ := hb.shape; obtain ⟨E0, HE0⟩ : ∃ e, Hid ((simF a b).1 = e) := ⟨_, rfl⟩; obtain ⟨X0, HX0⟩ : ∃ X, Hid ((simF a b).2 = X) := ⟨_, rfl⟩; have HEX := Lib.hid (Prod.ext HE0.out HX0.out : simF a b = (E0, X0)); rw [HE0.out, HX0.out]; clear HE0 HX0
 go_enter Tryd.func35, Tryd.ntmps35
 go_upto_region 1 with fail; refine wp_name ?_; intro w1 HW; have hbw : Below w.heap.size w w1 := by rw [HW.out]; exact Below.tr (Below.tr (bA _ _) (bA _ _)) (bA _ _)
 have hP1 : Blk w1 w.heap.size 28 #[.slice A1 k1 c1, .slice A2 k2 c2] := by rw [HW.out]; exact Blk.below (Blk.below (Blk.newG rfl) (bA _ _) (Blk.newG rfl).lt) (bA _ _) (by simp; omega)
 have hP2 : Blk w1 (w.heap.size + 1) 28 #[.slice B1 m1 d1, .slice B2 m2 d2] := by rw [HW.out]; exact Blk.below (Blk.newG (by simp)) (bA _ _) (by simp)
 have hres : Res w1 (w.heap.size + 2) := by rw [HW.out]; exact Blk.newG (by simp)
 obtain ⟨g1, hg1⟩ : ∃ g, Hid (g = w.heap.size) := ⟨_, rfl⟩; obtain ⟨g2, hg2⟩ : ∃ g, Hid (g = w.heap.size + 1) := ⟨_, rfl⟩; obtain ⟨g, hg⟩ : ∃ g, Hid (g = w.heap.size + 2) := ⟨_, rfl⟩; have hge : w.heap.size ≤ g := by rw [hg.out]; omega
 rw [← hg.out] at hres ⊢; rw [← hg2.out] at hP2 ⊢; rw [← hg1.out] at hP1 ⊢; have ha1 := ha.below hbw; have hb1 := hb.below hbw; have pa0 := hP1.cell 0; have pa1 := hP1.cell 1; have pb0 := hP2.cell 0; have pb1 := hP2.cell 1; simp only [List.getElem?_toArray, List.getElem?_cons_zero, List.getElem?_cons_succ] at pa0 pa1 pb0 pb1; clear HW hg1 hg2 hg hP1 hP2 ha hb; go_wp2_with fail; refine (rboth_any _ _ a.1 a.2 b.1 b.2 _ ha1 hb1).mono ?_; rintro e w2 ⟨E, rfl, HE, hbe⟩; have HEE : Hid (E = firstE (validP a) (validP b)) := HE; have ha2 := ha1.below hbe; have hb2 := hb1.below hbe
 replace pa0 := cell_keep hbe pa0
 replace pa1 := cell_keep hbe pa1
 replace pb0 := cell_keep hbe pb0
 replace pb1 := cell_keep hbe pb1
 replace hres := hres.below hbe
 replace hbw := Below.tr hbw hbe
 clear HE ha1 hb1 hbe; by_cases h : E = 0
 rotate_left
 ·have h0 : (E != 0) = true := by simpa using h
  have HC : Hid (E0 = E ∧ X0 = nilP) := by
   have h2 := HEX.out; rw [show simF a b = (firstE (validP a) (validP b), nilP) from binF_bad (by rw [← HEE.out]; exact h), ← HEE.out] at h2; injection h2 with e1 e2; exact ⟨e1.symm, e2.symm⟩
  obtain ⟨r1, r2, r3, r4⟩ := hres.facts; obtain ⟨s1, s2⟩ := hres.set2 (.slice none 0 0) (.slice none 0 0); clear h; go_wp2_with fail; exact bodyPost_ret (v := .tuple #[nilRat, .int .i64 E]) (by simp [results, Tryd.results35, go_sem, s1, s2, nilRat]) rfl ⟨_, by rw [HC.out.1], by rw [HC.out.2]; exact nil_rtP _, below_set2 hbw hge _ _⟩
 have h0 : (E != 0) = false := by simpa using h
 have hz : firstE (validP a) (validP b) = 0 := by rw [← HEE.out]; exact h
 obtain ⟨e1, e2⟩ := firstE_zero.1 hz; obtain ⟨pa, qa, rfl, ga, ra⟩ := ha2.good e1; obtain ⟨pb, qb, rfl, gb, rb⟩ := hb2.good e2; have HH := Lib.hid h; clear h hz e1 e2 ha2 hb2 HEE; go_wp2_with fail; refine (rorder_n _ _ pa qa pb qb _ ra rb ga gb).mono ?_; rintro e w3 ⟨cc, rfl, hcc, hbe⟩; have HCC : Hid (cc = Nm.cmpN (pa * qb) (pb * qa)) := hcc
 replace ra := ra.below hbe
 replace rb := rb.below hbe
 replace pa0 := cell_keep hbe pa0
 replace pa1 := cell_keep hbe pa1
 replace pb0 := cell_keep hbe pb0
 replace pb1 := cell_keep hbe pb1
 replace hres := hres.below hbe
 replace hbw := Below.tr hbw hbe
 clear hcc hbe; by_cases hlt : pb * qa < pa * qb
 ·have hd : decide (0 < cc) = true := by rw [HCC.out, Nm.cmpN_gt hlt]; rfl
  have HC : Hid (E0 = 5 ∧ X0 = nilP) := by
   have h2 := HEX.out; rw [show simF (ratP pa qa) (ratP pb qb) = (5, nilP) from (binF_rat ga gb).trans (if_pos hlt)] at h2; injection h2 with e1 e2; exact ⟨e1.symm, e2.symm⟩
  obtain ⟨r1, r2, r3, r4⟩ := hres.facts; obtain ⟨s1, s2⟩ := hres.set2 (.slice none 0 0) (.slice none 0 0); clear hlt; go_wp2_with fail; exact bodyPost_ret (v := .tuple #[nilRat, .int .i64 5]) (by simp [results, Tryd.results35, go_sem, s1, s2, nilRat]) rfl ⟨_, by rw [HC.out.1], by rw [HC.out.2]; exact nil_rtP _, below_set2 hbw hge _ _⟩
 ·have hle : pa * qb ≤ pb * qa := by omega
  have hd : decide (0 < cc) = false := by
   rw [HCC.out, decide_eq_false_iff_not]; unfold Nm.cmpN; rw [if_neg hlt]
   split <;> omega
  obtain ⟨⟨n, d⟩, HND⟩ : ∃ z, Hid (z = Nm.simple pa qa pb qb) := ⟨Nm.simple pa qa pb qb, rfl⟩
  have HC : Hid (E0 = 0 ∧ X0 = redP n d) := by
   have h2 := HEX.out; rw [show simF (ratP pa qa) (ratP pb qb) = (0, redP (Nm.simple pa qa pb qb).1 (Nm.simple pa qa pb qb).2) from (binF_rat ga gb).trans (if_neg hlt), ← HND.out] at h2; injection h2 with e1 e2; exact ⟨e1.symm, e2.symm⟩
  obtain ⟨ga1, ga2⟩ := good_lt ga; obtain ⟨gb1, gb2⟩ := good_lt gb; obtain ⟨hqa, hqb⟩ := And.intro ga.pos gb.pos; have hSP : Nm.SimP pa qa pb qb := ⟨hqa, hqb, hle⟩; have HSR := Nm.sim_ok (qa + qb) pa qa pb qb hSP (Nat.le_refl _); have HND2 := HND.out; unfold Nm.simple at HND2; rw [← HND2] at HSR; have HG : Hid (n < Nm.B ^ 64 ∧ d < Nm.B ^ 64 ∧ 0 < d) := ⟨Nat.lt_of_le_of_lt HSR.na ga1, Nat.lt_of_le_of_lt HSR.da ga2, HSR.pos⟩
  have HBT : Hid (∀ (C1 : Option Addr) (j1 d1 : Nat) (C2 : Option Addr) (j2 d2 : Nat) (C3 : Option Addr) (j3 d3 : Nat) (C4 : Option Addr) (j4 d4 : Nat) (W : World), Nb W C1 j1 d1 pa → Nb W C2 j2 d2 qa → Nb W C3 j3 d3 pb → Nb W C4 j4 d4 qb → Calls Tryd.prog 73 #[.slice C1 j1 d1, .slice C2 j2 d2, .slice C3 j3 d3, .slice C4 j4 d4] W fun e w' => ∃ A k c A' k' c', e = .returned (.tuple #[.slice A k c, .slice A' k' c']) ∧ Nb w' A k c n ∧ Nb w' A' k' c' d ∧ Below W.heap.size W w') := by
   intro C1 j1 d1 C2 j2 d2 C3 j3 d3 C4 j4 d4 W g1' g2' g3' g4'; have h := rbetween_n (qa + qb) pa qa pb qb C1 j1 d1 C2 j2 d2 C3 j3 d3 C4 j4 d4 W hSP (Nat.le_refl _) ⟨ga1, ga2, gb1, gb2⟩ g1' g2' g3' g4'; rw [← HND2] at h; exact h
  have hA1 := ra.nb.1; have hA2 := ra.nb.2; have hB1 := rb.nb.1; have hB2 := rb.nb.2; obtain ⟨s1, s2⟩ := ra.small ga; obtain ⟨s3, s4⟩ := rb.small gb; clear HND2 HSR HND ra rb hle hSP HEX HCC ga1 ga2 gb1 gb2 hlt ga gb; go_upto_region 6 with fail; refine region_invF (PhiRs A1 k1 c1 A2 k2 c2 B1 m1 d1 B2 m2 d2 qa qb n d g1 g2) (fun w w' => Below w.heap.size w w') (fun W => Below w3.heap.size w3 W) (by kernel_rfl) (by kernel_rfl) (by kernel_rfl) PhiRs.keep (fun _ _ hR hS => Below.tr hS hR) (bD _) (fun vs => by simp only [fillR, Act.put, sA, sB, sC, Nat.zero_add, Nat.reduceAdd]; rfl) ?_ ?_
  ·refine sK ?_ (sK ?_ (sK ?_ (sK ?_ (sK ?_ (sK ?_ (sK ?_ (sK ?_ (sK ?_ (sK ?_ (sK ?_ (sK ?_ (sK ?_ (sK ?_ (sZ))))))))))))))
   ·as_aux_lemma =>
    intro vs W hS hdep K hK; refine ⟨?_⟩; simp only [Act.put, sA, sB, sC, Nat.zero_add, Nat.reduceAdd] at hK ⊢; go_simp; with_reducible refine hK _ _ (Below.refl _ _) ?_
    exact rfl
   ·as_aux_lemma =>
    intro vs W hS hdep K hK; have d0 := hdep ⟨0, .data⟩ (by simp) rfl; simp only [PhiRs] at d0; have f1 := cell_keep hS pa0; refine ⟨?_⟩; simp only [Act.put, sA, sB, sC, Nat.zero_add, Nat.reduceAdd, d0] at hK ⊢; go_simp; with_reducible refine hK _ _ (Below.refl _ _) ?_
    exact rfl
   ·as_aux_lemma =>
    intro vs W hS hdep K hK; have f1 := cell_keep hS pa0; have f2 := cell_keep hS pa1; refine ⟨?_⟩; simp only [Act.put, sA, sB, sC, Nat.zero_add, Nat.reduceAdd] at hK ⊢; go_simp; with_reducible refine hK _ _ (Below.refl _ _) ?_
    exact rfl
   ·as_aux_lemma =>
    intro vs W hS hdep K hK; have d0 := hdep ⟨2, .data⟩ (by simp) rfl; simp only [PhiRs] at d0; refine ⟨?_⟩; simp only [Act.put, sA, sB, sC, Nat.zero_add, Nat.reduceAdd, d0] at hK ⊢; go_simp; refine (rden_n A1 A2 k1 c1 k2 c2 qa _ (hA2.below hS) hqa (by omega)).mono ?_; rintro e w' ⟨A, k, c, rfl, hn, _, hb⟩; go_wp2_with fail; with_reducible refine hK _ _ hb ?_
    exact ⟨A, k, c, rfl, hn⟩
   ·as_aux_lemma =>
    intro vs W hS hdep K hK; refine ⟨?_⟩; simp only [Act.put, sA, sB, sC, Nat.zero_add, Nat.reduceAdd] at hK ⊢; go_simp; with_reducible refine hK _ _ (Below.refl _ _) ?_
    exact rfl
   ·as_aux_lemma =>
    intro vs W hS hdep K hK; have d0 := hdep ⟨4, .data⟩ (by simp) rfl; simp only [PhiRs] at d0; have f1 := cell_keep hS pb0; refine ⟨?_⟩; simp only [Act.put, sA, sB, sC, Nat.zero_add, Nat.reduceAdd, d0] at hK ⊢; go_simp; with_reducible refine hK _ _ (Below.refl _ _) ?_
    exact rfl
   ·as_aux_lemma =>
    intro vs W hS hdep K hK; have f1 := cell_keep hS pb0; have f2 := cell_keep hS pb1; refine ⟨?_⟩; simp only [Act.put, sA, sB, sC, Nat.zero_add, Nat.reduceAdd] at hK ⊢; go_simp; with_reducible refine hK _ _ (Below.refl _ _) ?_
    exact rfl
   ·as_aux_lemma =>
    intro vs W hS hdep K hK; have d0 := hdep ⟨6, .data⟩ (by simp) rfl; simp only [PhiRs] at d0; refine ⟨?_⟩; simp only [Act.put, sA, sB, sC, Nat.zero_add, Nat.reduceAdd, d0] at hK ⊢; go_simp; refine (rden_n B1 B2 m1 d1 m2 d2 qb _ (hB2.below hS) hqb (by omega)).mono ?_; rintro e w' ⟨A, k, c, rfl, hn, _, hb⟩; go_wp2_with fail; with_reducible refine hK _ _ hb ?_
    exact ⟨A, k, c, rfl, hn⟩
   ·as_aux_lemma =>
    intro vs W hS hdep K hK; have d0 := hdep ⟨1, .data⟩ (by simp) rfl; simp only [PhiRs] at d0; have d1 := hdep ⟨3, .data⟩ (by simp) rfl; simp only [PhiRs] at d1; refine @exE3 _ _ _ _ _ d1 ?_; clear d1; intro A1 k1 c1 d1; have e1 := d1.1; have n1 := d1.2; clear d1; have d2 := hdep ⟨5, .data⟩ (by simp) rfl; simp only [PhiRs] at d2; have d3 := hdep ⟨7, .data⟩ (by simp) rfl; simp only [PhiRs] at d3; refine @exE3 _ _ _ _ _ d3 ?_; clear d3; intro A3 k3 c3 d3; have e3 := d3.1; have n3 := d3.2; clear d3; refine ⟨?_⟩; simp only [Act.put, sA, sB, sC, Nat.zero_add, Nat.reduceAdd, d0, e1, d2, e3] at hK ⊢; go_simp; refine (HBT.out _ _ _ _ _ _ _ _ _ _ _ _ _ (hA1.below hS) n1 (hB1.below hS) n3).mono ?_; rintro e w' ⟨A, k, c, A', k', c', rfl, hn, hn', hb⟩; go_wp2_with fail; with_reducible refine hK _ _ hb ?_
    exact ⟨_, _, _, _, _, _, rfl, hn, hn'⟩
   ·as_aux_lemma =>
    intro vs W hS hdep K hK; have d0 := hdep ⟨8, .data⟩ (by simp) rfl; simp only [PhiRs] at d0; refine @exE6 _ _ _ _ _ _ _ _ d0 ?_; clear d0; intro A0 k0 c0 Z0 y0 z0 d0; have e0 := d0.1; have n0 := d0.2; clear d0; refine ⟨?_⟩; simp only [Act.put, sA, sB, sC, Nat.zero_add, Nat.reduceAdd, e0] at hK ⊢; go_simp; with_reducible refine hK _ _ (Below.refl _ _) ?_
    exact ⟨_, _, _, _, _, _, rfl, n0⟩
   ·as_aux_lemma =>
    intro vs W hS hdep K hK; have d0 := hdep ⟨9, .data⟩ (by simp) rfl; simp only [PhiRs] at d0; refine @exE6 _ _ _ _ _ _ _ _ d0 ?_; clear d0; intro A0 k0 c0 Z0 y0 z0 d0; have e0 := d0.1; have n0 := d0.2; clear d0; refine ⟨?_⟩; simp only [Act.put, sA, sB, sC, Nat.zero_add, Nat.reduceAdd, e0] at hK ⊢; go_simp; with_reducible refine hK _ _ (Below.refl _ _) ?_
    exact ⟨_, _, _, rfl, n0.1⟩
   ·as_aux_lemma =>
    intro vs W hS hdep K hK; have d0 := hdep ⟨9, .data⟩ (by simp) rfl; simp only [PhiRs] at d0; refine @exE6 _ _ _ _ _ _ _ _ d0 ?_; clear d0; intro A0 k0 c0 Z0 y0 z0 d0; have e0 := d0.1; have n0 := d0.2; clear d0; refine ⟨?_⟩; simp only [Act.put, sA, sB, sC, Nat.zero_add, Nat.reduceAdd, e0] at hK ⊢; go_simp; with_reducible refine hK _ _ (Below.refl _ _) ?_
    exact ⟨_, _, _, rfl, n0.2⟩
   ·as_aux_lemma =>
    intro vs W hS hdep K hK; have d0 := hdep ⟨10, .data⟩ (by simp) rfl; simp only [PhiRs] at d0; refine @exE3 _ _ _ _ _ d0 ?_; clear d0; intro A0 k0 c0 d0; have e0 := d0.1; have n0 := d0.2; clear d0; refine ⟨?_⟩; simp only [Act.put, sA, sB, sC, Nat.zero_add, Nat.reduceAdd, e0] at hK ⊢; go_simp; with_reducible refine hK _ _ (Below.refl _ _) ?_
    exact ⟨_, _, _, rfl, n0⟩
   ·as_aux_lemma =>
    intro vs W hS hdep K hK; have d0 := hdep ⟨11, .data⟩ (by simp) rfl; simp only [PhiRs] at d0; refine @exE3 _ _ _ _ _ d0 ?_; clear d0; intro A0 k0 c0 d0; have e0 := d0.1; have n0 := d0.2; clear d0; refine ⟨?_⟩; simp only [Act.put, sA, sB, sC, Nat.zero_add, Nat.reduceAdd, e0] at hK ⊢; go_simp; with_reducible refine hK _ _ (Below.refl _ _) ?_
    exact ⟨_, _, _, rfl, n0⟩
  intro vs w4 hb4 hv; have v12 := hv 12 (by simp); have v13 := hv 13 (by simp); simp only [PhiRs] at v12 v13; obtain ⟨Q, kq, cq, e12, hN⟩ := v12; obtain ⟨Z, kz, cz, e13, hD⟩ := v13; simp only [Act.put, sA, sB, sC, Nat.zero_add, Nat.reduceAdd, e12, e13]
  replace hres := hres.below hb4
  replace hbw := Below.tr hbw hb4
  clear hv e12 e13 hb4 hA1 hA2 hB1 hB2 pa0 pa1 pb0 pb1; go_wp2_with fail; refine (rreduced_ok _ _ _ _ _ _ n d _ hN hD HG.out.1 HG.out.2.1 HG.out.2.2).mono ?_; rintro e w5 ⟨A, k, c, A', k', c', rfl, hr, hb5⟩
  replace hres := hres.below hb5
  replace hbw := Below.tr hbw hb5
  obtain ⟨r1, r2, r3, r4⟩ := hres.facts; obtain ⟨s1', s2'⟩ := hres.set2 (.slice A k c) (.slice A' k' c'); have hfin := Lib.hid (hr.mapL (RT.store (N := w.heap.size) hres.sl hge A k c A' k' c').lim); clear hr hb5 hN hD; go_wp2_with fail; exact bodyPost_ret (v := .tuple #[.agg #[.slice A k c, .slice A' k' c'], .int .i64 0]) (by simp [results, Tryd.results35, go_sem, s1', s2']) rfl ⟨_, by rw [HC.out.1], by rw [HC.out.2]; exact hfin.out, below_set2 hbw hge _ _⟩
end Go.Proofs.YtmbfjmilhfmnkaaDoor
