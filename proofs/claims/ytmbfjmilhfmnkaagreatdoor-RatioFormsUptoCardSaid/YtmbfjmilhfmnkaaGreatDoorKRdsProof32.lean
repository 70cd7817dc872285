import Derived.Test.YtmbfjmilhfmnkaaGreatDoorKRdsProof28
import Derived.Test.YtmbfjmilhfmnkaaGreatDoorKRdsProof31
import Derived.Test.YtmbfjmilhfmnkaaGreatDoorKRdsProof27
import Derived.Test.YtmbfjmilhfmnkaaGreatDoorKRdsProof01
import Derived.Test.YtmbfjmilhfmnkaaGreatDoorKRdsProof11
import Derived.Test.YtmbfjmilhfmnkaaGreatDoorKRdsProof19
import Derived.Test.YtmbfjmilhfmnkaaGreatDoorS0
set_option linter.unusedVariables false
set_option linter.unusedSimpArgs false
namespace Go.Proofs.YtmbfjmilhfmnkaaGreatDoor
open Go Go.RowKit
/-- the printed form of a valid ratio -/
def ratS (p q : Nat) : ByteArray := if q = 1 then Nm.decS p else Nm.decS p ++ { data := #[47] } ++ Nm.decS q
theorem decS_le {n e : Nat} (h : n < 10 ^ e) (he : 0 < e) : (Nm.decS n).size ≤ e := by
 have h1 : (Nm.decS n).size = (Nm.decD n).length := by
  unfold Nm.decS ByteArray.size; simp
 rw [h1]
 rcases Nat.eq_zero_or_pos n with h0 | h0
 ·subst h0; rw [Nm.decD_small (by omega)]; exact he
 ·rw [← Nm.pad_dec e n h h0]; have := (List.dropWhile_sublist (l := Nm.padD e n) (· == 0)).length_le
  rwa [Nm.padD_len] at this
theorem decS_size {n : Nat} (h : n < Nm.B ^ 64) : (Nm.decS n).size ≤ 1000 := by
 obtain ⟨e, he⟩ : ∃ e : Nat, e = 617 := ⟨_, rfl⟩; have h1 := decS_le (Nat.lt_of_lt_of_le h (Nm.lim_ten (e := e) (by omega))) (by omega); omega
def PhiPr (g : Nat) (A1 : Option Addr) (k1 c1 : Nat) (A2 : Option Addr) (k2 c2 : Nat) (s1 s2 : ByteArray) (j : Nat) (w : World) (x : Value) : Prop :=
 match j with
 | 0 => x = .pointer (some ⟨g, 0, none⟩)
 | 1 => x = .slice A1 k1 c1
 | 2 => x = .string s1
 | 3 => x = .string (s1 ++ { data := #[47] })
 | 4 => x = .pointer (some ⟨g, 1, none⟩)
 | 5 => x = .slice A2 k2 c2
 | 6 => x = .string s2
 | 7 => x = .string (s1 ++ { data := #[47] } ++ s2)
 | 8 => x = .string (s1 ++ { data := #[47] } ++ s2)
 | 9 => x = .int .i64 0
 | _ => True
theorem PhiPr.keep {g : Nat} {A1 : Option Addr} {k1 c1 : Nat} {A2 : Option Addr} {k2 c2 : Nat} {s1 s2 : ByteArray} : ∀ (w w' : World), Below w.heap.size w w' → ∀ j x, PhiPr g A1 k1 c1 A2 k2 c2 s1 s2 j w x → PhiPr g A1 k1 c1 A2 k2 c2 s1 s2 j w' x := by
 intro w w' hb j x h; unfold PhiPr at h ⊢
 split <;> simp only at h ⊢
 all_goals exact h
set_option maxRecDepth 100000 in
set_option maxHeartbeats 4000000 in
theorem print_v (va : Value) (p q : Nat) (w : World) (ha : Rat w va p q) (ga : Nm.Good p q) :
  Calls Tryz.prog 14 #[va] w fun e w' => e = .returned (.tuple #[.string (ratS p q), .int .i64 0]) ∧ Below w.heap.size w w' := by
 obtain ⟨A1, k1, c1, A2, k2, c2, rfl⟩ := ha.shape; have hq := ga.pos
 go_enter Tryz.func14, Tryz.ntmps14
 go_upto_region 1 with fail; refine wp_name ?_; intro w1 HW1; have hb1 : Below w.heap.size w w1 := by rw [HW1.out]; exact bA _ _
 have hB1 : Blk w1 w.heap.size 29 #[.slice A1 k1 c1, .slice A2 k2 c2] := by rw [HW1.out]; exact Blk.new _ _ _
 obtain ⟨g, hg⟩ : ∃ g, Hid (g = w.heap.size) := ⟨_, rfl⟩; rw [← hg.out] at hB1 ⊢; have ha1 := ha.below hb1; have b0 := hB1.cell 0; have b1 := hB1.cell 1; simp only [List.getElem?_toArray, List.getElem?_cons_zero, List.getElem?_cons_succ] at b0 b1; clear HW1 hB1 ha hg; go_wp2_with fail; refine (valid_v ha1.rtl).mono ?_; rintro e w2 ⟨E, rfl, HE, hb2⟩; obtain rfl : E = 0 := by rw [HE.out]; exact Nm.validE_of ga
 have ha2 := ha1.below hb2; have b0 := cell_keep hb2 b0; have b1 := cell_keep hb2 b1; have hbw := Below.tr hb1 hb2; obtain ⟨h1, h2⟩ := ha2.nb; have hk1 : k1 ≤ 64 := by rw [h1.1]; exact ga.fits.1
 have hk2 : k2 ≤ 64 := by rw [h2.1]; exact ga.fits.2
 clear ha1 ha2 HE hb1 hb2; by_cases hq1 : q = 1
 ·subst hq1; have hk0 : k2 = 0 := by have := h2.1; simpa [Nm.dn_one, Nm.lb_zero] using this
  subst hk0; have HR : Hid (ratS p 1 = Nm.decS p) := by show _ = _; unfold ratS; rw [if_pos rfl]
  go_wp2_with fail; refine (decimal_n A1 k1 c1 p _ h1 hk1).mono ?_; rintro e w3 ⟨rfl, hb⟩; go_wp2_with fail; exact bodyPost_ret (v := .tuple #[.string (Nm.decS p), .int .i64 0]) (by simp [results, Tryz.results14, go_sem]) rfl ⟨by rw [HR.out], Below.tr hbw hb⟩
 ·have h2 := h2; rw [Nm.dn_ne hq1] at h2
  have hk0 : 0 < k2 := by
   rcases Nat.eq_zero_or_pos k2 with e | e
   ·exfalso
    have h3 := h2.1; rw [e] at h3; have h4 := List.eq_nil_of_length_eq_zero h3.symm; rw [Nm.lb_nil_iff] at h4; omega
   ·exact e
  have t1 : ((k2 : Int) == 0) = false := by simp; omega
  obtain ⟨s1, HS1⟩ : ∃ s, Hid (s = Nm.decS p) := ⟨_, rfl⟩; obtain ⟨s2, HS2⟩ : ∃ s, Hid (s = Nm.decS q) := ⟨_, rfl⟩; have HR : Hid (ratS p q = s1 ++ { data := #[47] } ++ s2) := by show _ = _; unfold ratS; rw [if_neg hq1, HS1.out, HS2.out]
  have HSZ : Hid (s1.size ≤ 1000 ∧ s2.size ≤ 1000) := ⟨by rw [HS1.out]; exact decS_size (good_lt ga).1, by rw [HS2.out]; exact decS_size (good_lt ga).2⟩; have hs1 := HSZ.out.1; have hs2 := HSZ.out.2; have hn1 : ¬ (9223372036854775807 < s1.size + 1) := by omega
  have hn2 : ¬ (9223372036854775807 < s1.size + 1 + s2.size) := by omega
  go_upto_region 6 with fail; refine region_invF (PhiPr g A1 k1 c1 A2 k2 c2 s1 s2) (fun w w' => Below w.heap.size w w') (fun W => Below w2.heap.size w2 W) (by kernel_rfl) (by kernel_rfl) (by kernel_rfl) PhiPr.keep (fun _ _ hR hS => Below.tr hS hR) (bD _) (fun vs => by simp only [fillR, Act.put, sA, sB, sC, Nat.zero_add, Nat.reduceAdd]; rfl) ?_ ?_
  ·refine sK ?_ (sK ?_ (sK ?_ (sK ?_ (sK ?_ (sK ?_ (sK ?_ (sK ?_ (sK ?_ (sK ?_ (sZ))))))))))
   ·as_aux_lemma =>
    intro vs W hS hdep K hK; refine ⟨?_⟩; simp only [Act.put, sA, sB, sC, Nat.zero_add, Nat.reduceAdd] at hK ⊢; go_simp; with_reducible refine hK _ _ (Below.refl _ _) ?_
    exact rfl
   ·as_aux_lemma =>
    intro vs W hS hdep K hK; have d0 := hdep ⟨0, .data⟩ (by simp) rfl; simp only [PhiPr] at d0; have f1 := cell_keep hS b0; refine ⟨?_⟩; simp only [Act.put, sA, sB, sC, Nat.zero_add, Nat.reduceAdd, d0] at hK ⊢; go_simp; with_reducible refine hK _ _ (Below.refl _ _) ?_
    exact rfl
   ·as_aux_lemma =>
    intro vs W hS hdep K hK; have d0 := hdep ⟨1, .data⟩ (by simp) rfl; simp only [PhiPr] at d0; refine ⟨?_⟩; simp only [Act.put, sA, sB, sC, Nat.zero_add, Nat.reduceAdd, d0] at hK ⊢; go_simp; refine (decimal_n A1 k1 c1 p _ (h1.below hS) hk1).mono ?_; rintro e w' ⟨rfl, hb⟩; go_wp2_with fail; with_reducible refine hK _ _ hb ?_
    exact (congrArg Value.string HS1.out.symm)
   ·as_aux_lemma =>
    intro vs W hS hdep K hK; have d0 := hdep ⟨2, .data⟩ (by simp) rfl; simp only [PhiPr] at d0; refine ⟨?_⟩; simp only [Act.put, sA, sB, sC, Nat.zero_add, Nat.reduceAdd, d0] at hK ⊢; go_simp; with_reducible refine hK _ _ (Below.refl _ _) ?_
    exact rfl
   ·as_aux_lemma =>
    intro vs W hS hdep K hK; refine ⟨?_⟩; simp only [Act.put, sA, sB, sC, Nat.zero_add, Nat.reduceAdd] at hK ⊢; go_simp; with_reducible refine hK _ _ (Below.refl _ _) ?_
    exact rfl
   ·as_aux_lemma =>
    intro vs W hS hdep K hK; have d0 := hdep ⟨4, .data⟩ (by simp) rfl; simp only [PhiPr] at d0; have f1 := cell_keep hS b1; refine ⟨?_⟩; simp only [Act.put, sA, sB, sC, Nat.zero_add, Nat.reduceAdd, d0] at hK ⊢; go_simp; with_reducible refine hK _ _ (Below.refl _ _) ?_
    exact rfl
   ·as_aux_lemma =>
    intro vs W hS hdep K hK; have d0 := hdep ⟨5, .data⟩ (by simp) rfl; simp only [PhiPr] at d0; have d1 := hdep ⟨2, .chain⟩ (by simp) rfl; simp only [PhiPr] at d1; refine ⟨?_⟩; simp only [Act.put, sA, sB, sC, Nat.zero_add, Nat.reduceAdd, d0, d1] at hK ⊢; go_simp; refine (decimal_n A2 k2 c2 q _ (h2.below hS) hk2).mono ?_; rintro e w' ⟨rfl, hb⟩; go_wp2_with fail; with_reducible refine hK _ _ hb ?_
    exact (congrArg Value.string HS2.out.symm)
   ·as_aux_lemma =>
    intro vs W hS hdep K hK; have d0 := hdep ⟨3, .data⟩ (by simp) rfl; simp only [PhiPr] at d0; have d1 := hdep ⟨6, .data⟩ (by simp) rfl; simp only [PhiPr] at d1; refine ⟨?_⟩; simp only [Act.put, sA, sB, sC, Nat.zero_add, Nat.reduceAdd, d0, d1] at hK ⊢; go_simp; with_reducible refine hK _ _ (Below.refl _ _) ?_
    exact rfl
   ·as_aux_lemma =>
    intro vs W hS hdep K hK; have d0 := hdep ⟨7, .data⟩ (by simp) rfl; simp only [PhiPr] at d0; have d1 := hdep ⟨6, .chain⟩ (by simp) rfl; simp only [PhiPr] at d1; refine ⟨?_⟩; simp only [Act.put, sA, sB, sC, Nat.zero_add, Nat.reduceAdd, d0, d1] at hK ⊢; go_simp; with_reducible refine hK _ _ (Below.refl _ _) ?_
    exact rfl
   ·as_aux_lemma =>
    intro vs W hS hdep K hK; have d0 := hdep ⟨8, .chain⟩ (by simp) rfl; simp only [PhiPr] at d0; refine ⟨?_⟩; simp only [Act.put, sA, sB, sC, Nat.zero_add, Nat.reduceAdd, d0] at hK ⊢; go_simp; with_reducible refine hK _ _ (Below.refl _ _) ?_
    exact rfl
  intro vs w3 hb hv; have v8 := hv 8 (by simp); have v9 := hv 9 (by simp); simp only [PhiPr] at v8 v9; simp only [Act.put, sA, sB, sC, Nat.zero_add, Nat.reduceAdd, v8, v9]; go_wp2_with fail; exact bodyPost_ret (v := .tuple #[.string (s1 ++ { data := #[47] } ++ s2), .int .i64 0]) (by simp [results, Tryz.results14, go_sem]) rfl ⟨by rw [HR.out], Below.tr hbw hb⟩
end Go.Proofs.YtmbfjmilhfmnkaaGreatDoor
namespace Go.Proofs.YtmbfjmilhfmnkaaGreatDoor
open Go Go.RowKit
def numP (s : ByteArray) : List Nat := Nm.lb (numV s.data.toList)
def fitN (s : ByteArray) : Bool := decide (s.size ≤ 617) && decide ((numP s).length ≤ 64)
def parseF (s : ByteArray) : Int × LP :=
 if rowB (cutA s) = false ∨ (cutY s = true ∧ rowB (cutZ s) = false) then (2, nilP)
 else if fitN (cutA s) = false ∨ fitN (cutZ s) = false then (4, nilP)
 else if validP (numP (cutA s), numP (cutZ s)) ≠ 0 ∨ (cutY s = true ∧ numP (cutZ s) = []) then (1, nilP)
 else (0, (numP (cutA s), numP (cutZ s)))
theorem number_F (s : ByteArray) (w : World) (hs : s.size ≤ 9223372036854775807) (hd : Hid (∀ b ∈ s.data.toList, 48 ≤ b.toNat ∧ b.toNat ≤ 57)) :
  Calls Tryz.prog 47 #[.string s] w fun e w' => ∃ A k c, e = .returned (.tuple #[.slice A k c, .bool (fitN s)]) ∧ (fitN s = true → Nb w' A k c (numV s.data.toList)) ∧ Below w.heap.size w w' := by
 by_cases h : s.size ≤ 617
 ·refine (number_n s w h hd).mono ?_; rintro e w' ⟨A, k, c, rfl, hn, hk, hb⟩
  have e : decide (k ≤ 64) = fitN s := by
   unfold fitN numP; rw [hn.1, decide_eq_true h, Bool.true_and]
  exact ⟨A, k, c, by rw [e], fun _ => hn, hb⟩
 ·refine (number_long s w hs (by omega)).mono ?_; rintro e w' ⟨rfl, rfl⟩
  have e : fitN s = false := by
   unfold fitN; rw [decide_eq_false h]; rfl
  exact ⟨none, 0, 0, by rw [e], fun h2 => (by rw [e] at h2; cases h2), Below.refl _ _⟩
theorem valid_P (va : Value) (x : LP) (w : World) (h : RtP w va x) : Calls Tryz.prog 30 #[va] w fun e w' => e = .returned (.int .i64 (validP x)) ∧ Below w.heap.size w w' := by
 obtain ⟨A1, k1, c1, A2, k2, c2, rfl, h1, h2, e1, e2⟩ := h; exact valid_any A1 A2 k1 c1 k2 c2 _ _ w h1 h2 e1 e2
theorem row_digits {s : ByteArray} (h : rowB s = true) : ∀ b ∈ s.data.toList, 48 ≤ b.toNat ∧ b.toNat ≤ 57 := by
 unfold rowB at h; rw [decide_eq_true_iff] at h; intro b hb; obtain ⟨i, hi, rfl⟩ := List.getElem_of_mem hb; have hi2 : i < s.size := by rw [Array.length_toList] at hi; exact hi
 have h1 := h.2.2 i hi2; unfold dgN at h1; rw [decide_eq_true_iff] at h1
 have e : s.data.toList[i] = s[i] := by
  have := bytes_get hi2; rw [List.getElem?_eq_getElem hi] at this; exact Option.some.inj this
 rw [e]; omega
theorem cutA_size (s : ByteArray) : (cutA s).size ≤ s.size := by
 unfold cutA
 split
 ·rw [ByteArray.size_extract]; omega
 ·exact Nat.le_refl _
theorem cutZ_size (s : ByteArray) : (cutZ s).size ≤ s.size := by
 unfold cutZ
 split
 ·rw [ByteArray.size_extract]; omega
 ·exact Nat.zero_le _
theorem cutZ_no {s : ByteArray} (h : cutY s = false) : cutZ s = { data := #[] } := by
 unfold cutY at h; unfold cutZ; rw [if_neg (by simpa using h)]
set_option maxRecDepth 100000 in
set_option maxHeartbeats 8000000 in
theorem parse_F (s : ByteArray) (w : World) (hs : s.size ≤ 9223372036854775807) :
  Calls Tryz.prog 19 #[.string s] w fun e w' => ∃ v, e = .returned (.tuple #[v, .int .i64 (parseF s).1]) ∧ RtP w' v (parseF s).2 ∧ Below w.heap.size w w' := by
 obtain ⟨a, HA⟩ : ∃ a, Hid (a = cutA s) := ⟨_, rfl⟩; obtain ⟨z, HZ⟩ : ∃ z, Hid (z = cutZ s) := ⟨_, rfl⟩; obtain ⟨y, HY⟩ : ∃ y, Hid (y = cutY s) := ⟨_, rfl⟩; have ha : a.size ≤ 9223372036854775807 := by rw [HA.out]; have := cutA_size s; omega
 have hz : z.size ≤ 9223372036854775807 := by rw [HZ.out]; have := cutZ_size s; omega
 go_enter Tryz.func19, Tryz.ntmps19
 go_upto_region 1 with fail; refine wp_name ?_; intro w1 HW1; have hb1 : Below w.heap.size w w1 := by rw [HW1.out]; exact bA _ _
 have hsl : Sl w1 w.heap.size := by rw [HW1.out]; exact ⟨none, 0, 0, none, 0, 0, Blk.new _ _ _⟩
 obtain ⟨gr, hgrr⟩ : ∃ g, Hid (g = w.heap.size) := ⟨_, rfl⟩; have hgr : w.heap.size ≤ gr := by have := hgrr.out; omega
 rw [← hgrr.out] at hsl ⊢; have HC := cut_n s w1 hs; rw [← HA.out, ← HZ.out, ← HY.out] at HC; have HC := Lib.hid HC; clear HW1 hgrr; go_wp2_with fail; refine HC.out.mono ?_; rintro e w2 ⟨rfl, hb2⟩; have hsl := hsl.below hb2; have hbw := Below.tr hb1 hb2; clear HC hb1 hb2; go_wp2_with fail; refine (row_n a w2 ha).mono ?_; rintro e w' ⟨rfl, hw⟩; obtain rfl := hw
 cases hra : rowB a
 ·have HF : Hid (parseF s = (2, nilP)) := by
   show _ = _
   unfold parseF; rw [if_pos (.inl (by rw [← HA.out]; exact hra))]
  obtain ⟨A, k', c', A', k'', c'', he, ⟨a1, u1⟩, ⟨a2, u2⟩, u3, u4, z1, z2, hr, hbz⟩ := ret_ratio (w0 := w) (nil_rtP w2) hsl hgr hbw; simp only [nilRat, Value.agg.injEq, Array.mk.injEq, List.cons.injEq, and_true, Value.slice.injEq] at he; obtain ⟨⟨rfl, rfl, rfl⟩, rfl, rfl, rfl⟩ := he; go_wp2_with fail; exact bodyPost_ret (v := .tuple #[.agg #[.slice none 0 0, .slice none 0 0], .int .i64 2]) (by simp [results, Tryz.results19, go_sem, z1, z2]) rfl ⟨_, by rw [HF.out], by rw [HF.out]; exact hr, hbz⟩
 ·have HDA : Hid (∀ b ∈ a.data.toList, 48 ≤ b.toNat ∧ b.toNat ≤ 57) := row_digits hra; have HRA := Lib.hid hra; clear hra
  cases y
  ·have HYY : Hid (cutY s = false) := HY.out.symm
   have HDZ : Hid (∀ b ∈ z.data.toList, 48 ≤ b.toNat ∧ b.toNat ≤ 57) := by
    show ∀ b ∈ _, _
    rw [HZ.out, cutZ_no HYY.out]; intro b hb
    cases hb
   have HN : Hid (¬ (rowB (cutA s) = false ∨ (cutY s = true ∧ rowB (cutZ s) = false))) := by
    show ¬ _
    rw [← HA.out, HRA.out, HYY.out]; simp
   have HP4 : Hid (fitN a = false ∨ fitN z = false → parseF s = (4, nilP)) := fun h => by
    rw [HA.out, HZ.out] at h; unfold parseF; rw [if_neg HN.out, if_pos h]
   have HP1 : Hid (fitN a = true ∧ fitN z = true → (validP (numP a, numP z) ≠ 0 ∨ (cutY s = true ∧ numP z = [])) → parseF s = (1, nilP)) := fun h h2 => by
    rw [HA.out, HZ.out] at h h2; unfold parseF; rw [if_neg HN.out, if_neg (by rw [h.1, h.2]; simp), if_pos h2]
   have HP0 : Hid (fitN a = true ∧ fitN z = true → validP (numP a, numP z) = 0 → (cutY s = true → numP z ≠ []) → parseF s = (0, (numP a, numP z))) := fun h h2 h3 => by
    rw [HA.out, HZ.out] at h h2 ⊢; rw [HZ.out] at h3; unfold parseF; rw [if_neg HN.out, if_neg (by rw [h.1, h.2]; simp), if_neg (fun h4 => h4.elim (fun h5 => h5 h2) (fun h5 => h3 h5.1 h5.2))]
   clear HN; go_wp2_with fail; refine (number_F a w2 ha HDA).mono ?_; rintro e wn ⟨A1, k1, c1, rfl, hn1, hbn⟩; have hsl := hsl.below hbn; have hbw := Below.tr hbw hbn; go_wp2_with fail; refine (number_F z wn hz HDZ).mono ?_; rintro e wm ⟨A2, k2, c2, rfl, hn2, hbm⟩; have hsl := hsl.below hbm; have hbw := Below.tr hbw hbm; have HN1 := Lib.hid hn1; have HN2 := Lib.hid hn2; clear hn1 hn2 hbn
   cases hf1 : fitN a
   ·have HF : Hid (parseF s = (4, nilP)) := HP4.out (.inl hf1); obtain ⟨A, k', c', A', k'', c'', he, ⟨a1, u1⟩, ⟨a2, u2⟩, u3, u4, z1, z2, hr, hbz⟩ := ret_ratio (w0 := w) (nil_rtP wm) hsl hgr hbw; simp only [nilRat, Value.agg.injEq, Array.mk.injEq, List.cons.injEq, and_true, Value.slice.injEq] at he; obtain ⟨⟨rfl, rfl, rfl⟩, rfl, rfl, rfl⟩ := he; go_wp2_with fail; exact bodyPost_ret (v := .tuple #[.agg #[.slice none 0 0, .slice none 0 0], .int .i64 4]) (by simp [results, Tryz.results19, go_sem, z1, z2]) rfl ⟨_, by rw [HF.out], by rw [HF.out]; exact hr, hbz⟩
   ·cases hf2 : fitN z
    ·have HF : Hid (parseF s = (4, nilP)) := HP4.out (.inr hf2); obtain ⟨A, k', c', A', k'', c'', he, ⟨a1, u1⟩, ⟨a2, u2⟩, u3, u4, z1, z2, hr, hbz⟩ := ret_ratio (w0 := w) (nil_rtP wm) hsl hgr hbw; simp only [nilRat, Value.agg.injEq, Array.mk.injEq, List.cons.injEq, and_true, Value.slice.injEq] at he; obtain ⟨⟨rfl, rfl, rfl⟩, rfl, rfl, rfl⟩ := he; go_wp2_with fail; exact bodyPost_ret (v := .tuple #[.agg #[.slice none 0 0, .slice none 0 0], .int .i64 4]) (by simp [results, Tryz.results19, go_sem, z1, z2]) rfl ⟨_, by rw [HF.out], by rw [HF.out]; exact hr, hbz⟩
    ·have hA := (HN1.out hf1).below hbm; have hZ := HN2.out hf2; have HFI := Lib.hid (And.intro hf1 hf2); have HZL : Hid (k2 = (numP z).length) := hZ.1; have hrt : RtP wm (.agg #[.slice A1 k1 c1, .slice A2 k2 c2]) (numP a, numP z) := ⟨_, _, _, _, _, _, rfl, hA.2, hZ.2, hA.1, hZ.1⟩; clear HN1 HN2 hA hZ hbm hf1 hf2; go_upto_region 9 with fail; refine wp_name ?_; intro wv HWV; have hb := bA wm (.cells #[.slice A1 k1 c1, .slice A2 k2 c2] 29); rw [← HWV.out] at hb; have hBV : Blk wv wm.heap.size 29 #[.slice A1 k1 c1, .slice A2 k2 c2] := by rw [HWV.out]; exact Blk.new _ _ _
     have hrt := hrt.below hb; have hsl := hsl.below hb; have hbw := Below.tr hbw hb; obtain ⟨gV, hgV⟩ : ∃ g, Hid (g = wm.heap.size) := ⟨_, rfl⟩; rw [← hgV.out] at hBV ⊢; have V0 := hBV.cell 0; have V1 := hBV.cell 1; simp only [List.getElem?_toArray, List.getElem?_cons_zero, List.getElem?_cons_succ] at V0 V1; clear HWV hBV hgV hb; go_wp2_with fail; refine (valid_P _ (numP a, numP z) _ hrt).mono ?_; rintro e wu ⟨rfl, hb⟩; have hrt := hrt.below hb; have hsl := hsl.below hb; have hbw := Below.tr hbw hb; have V0 := cell_keep hb V0; have V1 := cell_keep hb V1; clear hb; by_cases hv0 : validP (numP a, numP z) = 0
     ·have t5 : (validP (numP a, numP z) != 0) = false := by simpa using hv0
      have HF : Hid (parseF s = (0, (numP a, numP z))) := HP0.out HFI.out hv0 (fun e => by rw [HYY.out] at e; cases e); obtain ⟨A, k', c', A', k'', c'', he, ⟨a1, u1⟩, ⟨a2, u2⟩, u3, u4, z1, z2, hr, hbz⟩ := ret_ratio (w0 := w) hrt hsl hgr hbw; simp only [Value.agg.injEq, Array.mk.injEq, List.cons.injEq, and_true, Value.slice.injEq] at he; obtain ⟨⟨rfl, rfl, rfl⟩, rfl, rfl, rfl⟩ := he; go_wp2_with fail; exact bodyPost_ret (v := .tuple #[.agg #[.slice A1 k1 c1, .slice A2 k2 c2], .int .i64 0]) (by simp [results, Tryz.results19, go_sem, z1, z2]) rfl ⟨_, by rw [HF.out], by rw [HF.out]; exact hr, hbz⟩
     ·have t5 : (validP (numP a, numP z) != 0) = true := by simpa using hv0
      have HF : Hid (parseF s = (1, nilP)) := HP1.out HFI.out (.inl hv0); obtain ⟨A, k', c', A', k'', c'', he, ⟨a1, u1⟩, ⟨a2, u2⟩, u3, u4, z1, z2, hr, hbz⟩ := ret_ratio (w0 := w) (nil_rtP wu) hsl hgr hbw; simp only [nilRat, Value.agg.injEq, Array.mk.injEq, List.cons.injEq, and_true, Value.slice.injEq] at he; obtain ⟨⟨rfl, rfl, rfl⟩, rfl, rfl, rfl⟩ := he; go_wp2_with fail; exact bodyPost_ret (v := .tuple #[.agg #[.slice none 0 0, .slice none 0 0], .int .i64 1]) (by simp [results, Tryz.results19, go_sem, z1, z2]) rfl ⟨_, by rw [HF.out], by rw [HF.out]; exact hr, hbz⟩
  ·have HYY : Hid (cutY s = true) := HY.out.symm; go_wp2_with fail; refine (row_n z w2 hz).mono ?_; rintro e w' ⟨rfl, hw⟩; obtain rfl := hw
   cases hrz : rowB z
   ·have HF : Hid (parseF s = (2, nilP)) := by
     show _ = _
     unfold parseF; rw [if_pos (.inr ⟨HYY.out, by rw [← HZ.out]; exact hrz⟩)]
    obtain ⟨A, k', c', A', k'', c'', he, ⟨a1, u1⟩, ⟨a2, u2⟩, u3, u4, z1, z2, hr, hbz⟩ := ret_ratio (w0 := w) (nil_rtP w2) hsl hgr hbw; simp only [nilRat, Value.agg.injEq, Array.mk.injEq, List.cons.injEq, and_true, Value.slice.injEq] at he; obtain ⟨⟨rfl, rfl, rfl⟩, rfl, rfl, rfl⟩ := he; go_wp2_with fail; exact bodyPost_ret (v := .tuple #[.agg #[.slice none 0 0, .slice none 0 0], .int .i64 2]) (by simp [results, Tryz.results19, go_sem, z1, z2]) rfl ⟨_, by rw [HF.out], by rw [HF.out]; exact hr, hbz⟩
   ·have HDZ : Hid (∀ b ∈ z.data.toList, 48 ≤ b.toNat ∧ b.toNat ≤ 57) := row_digits hrz
    have HN : Hid (¬ (rowB (cutA s) = false ∨ (cutY s = true ∧ rowB (cutZ s) = false))) := by
     show ¬ _
     rw [← HA.out, HRA.out, ← HZ.out, hrz]; simp
    clear hrz
    have HP4 : Hid (fitN a = false ∨ fitN z = false → parseF s = (4, nilP)) := fun h => by
     rw [HA.out, HZ.out] at h; unfold parseF; rw [if_neg HN.out, if_pos h]
    have HP1 : Hid (fitN a = true ∧ fitN z = true → (validP (numP a, numP z) ≠ 0 ∨ (cutY s = true ∧ numP z = [])) → parseF s = (1, nilP)) := fun h h2 => by
     rw [HA.out, HZ.out] at h h2; unfold parseF; rw [if_neg HN.out, if_neg (by rw [h.1, h.2]; simp), if_pos h2]
    have HP0 : Hid (fitN a = true ∧ fitN z = true → validP (numP a, numP z) = 0 → (cutY s = true → numP z ≠ []) → parseF s = (0, (numP a, numP z))) := fun h h2 h3 => by
     rw [HA.out, HZ.out] at h h2 ⊢; rw [HZ.out] at h3; unfold parseF; rw [if_neg HN.out, if_neg (by rw [h.1, h.2]; simp), if_neg (fun h4 => h4.elim (fun h5 => h5 h2) (fun h5 => h3 h5.1 h5.2))]
    clear HN; go_wp2_with fail; refine (number_F a w2 ha HDA).mono ?_; rintro e wn ⟨A1, k1, c1, rfl, hn1, hbn⟩; have hsl := hsl.below hbn; have hbw := Below.tr hbw hbn; go_wp2_with fail; refine (number_F z wn hz HDZ).mono ?_; rintro e wm ⟨A2, k2, c2, rfl, hn2, hbm⟩; have hsl := hsl.below hbm; have hbw := Below.tr hbw hbm; have HN1 := Lib.hid hn1; have HN2 := Lib.hid hn2; clear hn1 hn2 hbn
    cases hf1 : fitN a
    ·have HF : Hid (parseF s = (4, nilP)) := HP4.out (.inl hf1); obtain ⟨A, k', c', A', k'', c'', he, ⟨a1, u1⟩, ⟨a2, u2⟩, u3, u4, z1, z2, hr, hbz⟩ := ret_ratio (w0 := w) (nil_rtP wm) hsl hgr hbw; simp only [nilRat, Value.agg.injEq, Array.mk.injEq, List.cons.injEq, and_true, Value.slice.injEq] at he; obtain ⟨⟨rfl, rfl, rfl⟩, rfl, rfl, rfl⟩ := he; go_wp2_with fail; exact bodyPost_ret (v := .tuple #[.agg #[.slice none 0 0, .slice none 0 0], .int .i64 4]) (by simp [results, Tryz.results19, go_sem, z1, z2]) rfl ⟨_, by rw [HF.out], by rw [HF.out]; exact hr, hbz⟩
    ·cases hf2 : fitN z
     ·have HF : Hid (parseF s = (4, nilP)) := HP4.out (.inr hf2); obtain ⟨A, k', c', A', k'', c'', he, ⟨a1, u1⟩, ⟨a2, u2⟩, u3, u4, z1, z2, hr, hbz⟩ := ret_ratio (w0 := w) (nil_rtP wm) hsl hgr hbw; simp only [nilRat, Value.agg.injEq, Array.mk.injEq, List.cons.injEq, and_true, Value.slice.injEq] at he; obtain ⟨⟨rfl, rfl, rfl⟩, rfl, rfl, rfl⟩ := he; go_wp2_with fail; exact bodyPost_ret (v := .tuple #[.agg #[.slice none 0 0, .slice none 0 0], .int .i64 4]) (by simp [results, Tryz.results19, go_sem, z1, z2]) rfl ⟨_, by rw [HF.out], by rw [HF.out]; exact hr, hbz⟩
     ·have hA := (HN1.out hf1).below hbm; have hZ := HN2.out hf2; have HFI := Lib.hid (And.intro hf1 hf2); have HZL : Hid (k2 = (numP z).length) := hZ.1; have hrt : RtP wm (.agg #[.slice A1 k1 c1, .slice A2 k2 c2]) (numP a, numP z) := ⟨_, _, _, _, _, _, rfl, hA.2, hZ.2, hA.1, hZ.1⟩; clear HN1 HN2 hA hZ hbm hf1 hf2; go_upto_region 9 with fail; refine wp_name ?_; intro wv HWV; have hb := bA wm (.cells #[.slice A1 k1 c1, .slice A2 k2 c2] 29); rw [← HWV.out] at hb; have hBV : Blk wv wm.heap.size 29 #[.slice A1 k1 c1, .slice A2 k2 c2] := by rw [HWV.out]; exact Blk.new _ _ _
      have hrt := hrt.below hb; have hsl := hsl.below hb; have hbw := Below.tr hbw hb; obtain ⟨gV, hgV⟩ : ∃ g, Hid (g = wm.heap.size) := ⟨_, rfl⟩; rw [← hgV.out] at hBV ⊢; have V0 := hBV.cell 0; have V1 := hBV.cell 1; simp only [List.getElem?_toArray, List.getElem?_cons_zero, List.getElem?_cons_succ] at V0 V1; clear HWV hBV hgV hb; go_wp2_with fail; refine (valid_P _ (numP a, numP z) _ hrt).mono ?_; rintro e wu ⟨rfl, hb⟩; have hrt := hrt.below hb; have hsl := hsl.below hb; have hbw := Below.tr hbw hb; have V0 := cell_keep hb V0; have V1 := cell_keep hb V1; clear hb; by_cases hv0 : validP (numP a, numP z) = 0
      ·have t5 : (validP (numP a, numP z) != 0) = false := by simpa using hv0
       by_cases hze : numP z = []
       ·have hk2 : k2 = 0 := by rw [HZL.out, hze]; rfl
        have HF : Hid (parseF s = (1, nilP)) := HP1.out HFI.out (.inr ⟨HYY.out, hze⟩); subst hk2; clear hze; obtain ⟨A, k', c', A', k'', c'', he, ⟨a1, u1⟩, ⟨a2, u2⟩, u3, u4, z1, z2, hr, hbz⟩ := ret_ratio (w0 := w) (nil_rtP wu) hsl hgr hbw; simp only [nilRat, Value.agg.injEq, Array.mk.injEq, List.cons.injEq, and_true, Value.slice.injEq] at he; obtain ⟨⟨rfl, rfl, rfl⟩, rfl, rfl, rfl⟩ := he; go_wp2_with fail; exact bodyPost_ret (v := .tuple #[.agg #[.slice none 0 0, .slice none 0 0], .int .i64 1]) (by simp [results, Tryz.results19, go_sem, z1, z2]) rfl ⟨_, by rw [HF.out], by rw [HF.out]; exact hr, hbz⟩
       ·have hk2 : k2 ≠ 0 := by rw [HZL.out]; exact fun e => hze (List.eq_nil_of_length_eq_zero e)
        have t6 : ((k2 : Int) == 0) = false := by simp; omega
        have HF : Hid (parseF s = (0, (numP a, numP z))) := HP0.out HFI.out hv0 (fun _ => hze); obtain ⟨A, k', c', A', k'', c'', he, ⟨a1, u1⟩, ⟨a2, u2⟩, u3, u4, z1, z2, hr, hbz⟩ := ret_ratio (w0 := w) hrt hsl hgr hbw; simp only [Value.agg.injEq, Array.mk.injEq, List.cons.injEq, and_true, Value.slice.injEq] at he; obtain ⟨⟨rfl, rfl, rfl⟩, rfl, rfl, rfl⟩ := he; go_wp2_with fail; exact bodyPost_ret (v := .tuple #[.agg #[.slice A1 k1 c1, .slice A2 k2 c2], .int .i64 0]) (by simp [results, Tryz.results19, go_sem, z1, z2]) rfl ⟨_, by rw [HF.out], by rw [HF.out]; exact hr, hbz⟩
      ·have t5 : (validP (numP a, numP z) != 0) = true := by simpa using hv0
       have HF : Hid (parseF s = (1, nilP)) := HP1.out HFI.out (.inl hv0); by_cases hk0 : k2 = 0
       ·have t6 : ((k2 : Int) == 0) = true := by simp; omega
        obtain ⟨A, k', c', A', k'', c'', he, ⟨a1, u1⟩, ⟨a2, u2⟩, u3, u4, z1, z2, hr, hbz⟩ := ret_ratio (w0 := w) (nil_rtP wu) hsl hgr hbw; simp only [nilRat, Value.agg.injEq, Array.mk.injEq, List.cons.injEq, and_true, Value.slice.injEq] at he; obtain ⟨⟨rfl, rfl, rfl⟩, rfl, rfl, rfl⟩ := he; go_wp2_with fail; exact bodyPost_ret (v := .tuple #[.agg #[.slice none 0 0, .slice none 0 0], .int .i64 1]) (by simp [results, Tryz.results19, go_sem, z1, z2]) rfl ⟨_, by rw [HF.out], by rw [HF.out]; exact hr, hbz⟩
       ·have t6 : ((k2 : Int) == 0) = false := by simp; omega
        obtain ⟨A, k', c', A', k'', c'', he, ⟨a1, u1⟩, ⟨a2, u2⟩, u3, u4, z1, z2, hr, hbz⟩ := ret_ratio (w0 := w) (nil_rtP wu) hsl hgr hbw; simp only [nilRat, Value.agg.injEq, Array.mk.injEq, List.cons.injEq, and_true, Value.slice.injEq] at he; obtain ⟨⟨rfl, rfl, rfl⟩, rfl, rfl, rfl⟩ := he; go_wp2_with fail; exact bodyPost_ret (v := .tuple #[.agg #[.slice none 0 0, .slice none 0 0], .int .i64 1]) (by simp [results, Tryz.results19, go_sem, z1, z2]) rfl ⟨_, by rw [HF.out], by rw [HF.out]; exact hr, hbz⟩
end Go.Proofs.YtmbfjmilhfmnkaaGreatDoor
namespace Go.Proofs.YtmbfjmilhfmnkaaGreatDoor.Nm
/-- the simplest number between two -/
def sim : Nat → Nat → Nat → Nat → Nat → Nat × Nat
 | 0, _, _, _, _ => (0, 1)
 | f + 1, an, ad, bn, bd => if an % ad = 0 then (an / ad, 1) else if (an / ad + 1) * bd ≤ bn then (an / ad + 1, 1) else
   ((an / ad) * (sim f bd (bn - an / ad * bd) ad (an % ad)).1 + (sim f bd (bn - an / ad * bd) ad (an % ad)).2, (sim f bd (bn - an / ad * bd) ad (an % ad)).1)
/-- what between is asked for -/
structure SimP (an ad bn bd : Nat) : Prop where
 ha : 0 < ad
 hb : 0 < bd
 le : an * bd ≤ bn * ad
theorem mul_le_cancel {a b c : Nat} (hc : 0 < c) (h : a * c ≤ b * c) : a ≤ b := Nat.le_of_mul_le_mul_right h hc
theorem SimP.q_le {an ad bn bd : Nat} (h : SimP an ad bn bd) : an / ad * bd ≤ bn := by
 refine mul_le_cancel h.ha ?_; have h1 : an / ad * ad ≤ an := Nat.div_mul_le_self an ad; have h2 := Nat.mul_le_mul_right bd h1
 calc an / ad * bd * ad = an / ad * ad * bd := by rw [Nat.mul_right_comm]
  _ ≤ an * bd := h2
  _ ≤ bn * ad := h.le
theorem SimP.q_lt {an ad bn bd : Nat} (h : SimP an ad bn bd) (hr : an % ad ≠ 0) : an / ad * bd < bn := by
 refine Nat.lt_of_mul_lt_mul_right (a := ad) ?_; have h0 := Nat.div_add_mod' an ad; have h1 : an / ad * ad < an := by omega
 have h2 := Nat.mul_lt_mul_of_pos_right h1 h.hb
 calc an / ad * bd * ad = an / ad * ad * bd := by rw [Nat.mul_right_comm]
  _ < an * bd := h2
  _ ≤ bn * ad := h.le
theorem SimP.next {an ad bn bd : Nat} (h : SimP an ad bn bd) (hr : an % ad ≠ 0) : SimP bd (bn - an / ad * bd) ad (an % ad) := by
 refine ⟨by have := h.q_lt hr; omega, by omega, ?_⟩; have h0 := Nat.div_add_mod' an ad; have h1 := h.le; have h2 : an * bd = an / ad * ad * bd + an % ad * bd := by rw [← Nat.add_mul, h0]
 rw [Nat.mul_sub, Nat.mul_comm bd (an % ad), Nat.mul_comm ad bn, ]; have h3 : ad * (an / ad * bd) = an / ad * ad * bd := by rw [Nat.mul_comm (an / ad) ad, Nat.mul_assoc]
 omega
theorem SimP.less {an ad bn bd : Nat} (h : SimP an ad bn bd) (hr : an % ad ≠ 0) (hn : ¬ (an / ad + 1) * bd ≤ bn) : (bn - an / ad * bd) + an % ad < ad + bd := by
 have h1 := Nat.mod_lt an h.ha; rw [Nat.add_mul] at hn; omega
/-- what the simplest number is -/
structure SimR (an ad bn bd : Nat) (r : Nat × Nat) : Prop where
 pos : 0 < r.2
 npos : 0 < an → 0 < r.1
 le : an * r.2 ≤ r.1 * ad
 ge : r.1 * bd ≤ bn * r.2
 gcd : Nat.gcd r.1 r.2 = 1
 na : r.1 ≤ an
 da : r.2 ≤ ad
 nb : r.1 ≤ bn
 db : r.2 ≤ bd
 least : ∀ m e, 0 < e → an * e ≤ m * ad → m * bd ≤ bn * e → r.1 ≤ m ∧ r.2 ≤ e
theorem sim_ok : ∀ (f an ad bn bd : Nat), SimP an ad bn bd → ad + bd ≤ f → SimR an ad bn bd (sim f an ad bn bd)
 | 0, _, _, _, _, h, hf => by have := h.ha; omega
 | f + 1, an, ad, bn, bd, h, hf => by
  have h0 := Nat.div_add_mod' an ad; have hml := Nat.mod_lt an h.ha; have hap := h.ha; have hbp := h.hb; have hq := h.q_le; have hless := h.less; have hnext := h.next; have hqlt := h.q_lt; have hle := h.le; rw [sim]; clear h; generalize an / ad = q at *; generalize an % ad = s at *; by_cases hs : s = 0
  ·rw [if_pos hs]; have ea : an = q * ad := by omega
   have hqn : q ≤ an := by rw [ea]; exact Nat.le_mul_of_pos_right _ hap
   refine ⟨by show 0 < 1; omega, fun hp => ?_, by show an * 1 ≤ q * ad; omega, by show q * bd ≤ bn * 1; omega, Nat.gcd_one_right q, hqn, hap, Nat.le_trans (Nat.le_mul_of_pos_right _ hbp) hq, hbp, fun m e he h1 h2 => ⟨?_, he⟩⟩
   ·show 0 < q
    rcases Nat.eq_zero_or_pos q with h1 | h1
    ·rw [h1] at ea; omega
    ·exact h1
   ·show q ≤ m
    rw [ea, Nat.mul_right_comm] at h1; exact Nat.le_trans (Nat.le_mul_of_pos_right _ he) (mul_le_cancel hap h1)
  ·rw [if_neg hs]
   have hqa : q + 1 ≤ an := by
    have : q * 1 ≤ q * ad := Nat.mul_le_mul_left _ hap; omega
   by_cases hn : (q + 1) * bd ≤ bn
   ·rw [if_pos hn]; refine ⟨by show 0 < 1; omega, fun _ => by show 0 < q + 1; omega, by show an * 1 ≤ (q + 1) * ad; rw [Nat.add_mul]; omega, by show (q + 1) * bd ≤ bn * 1; omega, Nat.gcd_one_right _, hqa, hap, Nat.le_trans (Nat.le_mul_of_pos_right _ hbp) hn, hbp, fun m e he h1 h2 => ⟨?_, he⟩⟩
    show q + 1 ≤ m
    have h3 : q * e * ad < m * ad := by
     refine Nat.lt_of_lt_of_le ?_ h1; have : q * ad < an := by omega
     calc q * e * ad = q * ad * e := by rw [Nat.mul_right_comm]
      _ < an * e := Nat.mul_lt_mul_of_pos_right this he
    have h4 : q * e < m := Nat.lt_of_mul_lt_mul_right h3; have h5 : q * 1 ≤ q * e := Nat.mul_le_mul_left _ he; omega
   ·rw [if_neg hn]; have IH := sim_ok f bd (bn - q * bd) ad s (hnext hs) (by have := hless hs hn; omega); obtain ⟨r, hr⟩ : ∃ r, r = sim f bd (bn - q * bd) ad s := ⟨_, rfl⟩; rw [← hr] at IH ⊢; have hql := hqlt hs; obtain ⟨B, hB⟩ : ∃ B, B = bn - q * bd := ⟨_, rfl⟩; have hbn : bn = q * bd + B := by omega
    rw [← hB] at IH; have n1 := IH.npos hbp; have hr2 := IH.pos; have i1 := IH.le; have i2 := IH.ge; refine ⟨n1, fun _ => by show 0 < q * r.1 + r.2; omega, ?_, ?_, ?_, ?_, IH.nb, ?_, ?_, fun m e he h1 h2 => ?_⟩
    ·show an * r.1 ≤ (q * r.1 + r.2) * ad
     rw [← h0, Nat.add_mul, Nat.add_mul, Nat.mul_right_comm q ad r.1, Nat.mul_comm s, Nat.mul_comm r.2]; omega
    ·show (q * r.1 + r.2) * bd ≤ bn * r.1
     rw [hbn, Nat.add_mul, Nat.add_mul, Nat.mul_right_comm q r.1 bd, Nat.mul_comm r.2, Nat.mul_comm B]; omega
    ·show Nat.gcd (q * r.1 + r.2) r.1 = 1
     rw [Nat.gcd_comm, Nat.add_comm, Nat.gcd_add_mul_right_right]; exact IH.gcd
    ·show q * r.1 + r.2 ≤ an
     have := Nat.mul_le_mul_left q IH.nb; have := IH.db; omega
    ·show q * r.1 + r.2 ≤ bn
     have := Nat.mul_le_mul_left q IH.na; have := IH.da; omega
    ·exact IH.na
    ·have hqm : q * e < m := by
      refine Nat.lt_of_mul_lt_mul_right (a := ad) (Nat.lt_of_lt_of_le ?_ h1); have : q * ad < an := by omega
      calc q * e * ad = q * ad * e := by rw [Nat.mul_right_comm]
       _ < an * e := Nat.mul_lt_mul_of_pos_right this he
     obtain ⟨t, ht⟩ : ∃ t, m = q * e + t := ⟨m - q * e, by omega⟩; have htp : 0 < t := by omega
     subst ht
     obtain ⟨g1, g2⟩ := IH.least e t htp (by
       rw [hbn, Nat.add_mul, Nat.add_mul, Nat.mul_right_comm q e bd, Nat.mul_comm t] at h2
       rw [Nat.mul_comm e B]; omega) (by
       rw [← h0, Nat.add_mul, Nat.add_mul, Nat.mul_right_comm q ad e, Nat.mul_comm s] at h1
       rw [Nat.mul_comm ad t]; omega)
     refine ⟨?_, g1⟩
     show q * r.1 + r.2 ≤ q * e + t
     have := Nat.mul_le_mul_left q g1; omega
theorem sim_fuel : ∀ (f g an ad bn bd : Nat), SimP an ad bn bd → ad + bd ≤ f → ad + bd ≤ g → sim f an ad bn bd = sim g an ad bn bd
 | 0, _, _, _, _, _, h, hf, _ => by have := h.ha; omega
 | _ + 1, 0, _, _, _, _, h, _, hg => by have := h.ha; omega
 | f + 1, g + 1, an, ad, bn, bd, h, hf, hg => by
  rw [sim, sim]; by_cases hs : an % ad = 0
  ·rw [if_pos hs, if_pos hs]
  ·rw [if_neg hs, if_neg hs]; by_cases hn : (an / ad + 1) * bd ≤ bn
   ·rw [if_pos hn, if_pos hn]
   ·rw [if_neg hn, if_neg hn]; have := h.less hs hn; rw [sim_fuel f g bd (bn - an / ad * bd) ad (an % ad) (h.next hs) (by omega) (by omega)]
/-- the simplest number between two -/
def simple (an ad bn bd : Nat) : Nat × Nat := sim (ad + bd) an ad bn bd
end Go.Proofs.YtmbfjmilhfmnkaaGreatDoor.Nm
namespace Go.Proofs.YtmbfjmilhfmnkaaGreatDoor
open Go Go.RowKit
theorem Nb.k64 {w : World} {A : Option Addr} {k c n : Nat} (h : Nb w A k c n) (hn : n < Nm.B ^ 64) : k ≤ 64 := by
 rw [h.1]; exact Nm.lb_length_lt.2 hn
theorem Nb.k65 {w : World} {A : Option Addr} {k c n : Nat} (h : Nb w A k c (n + 1)) (hn : n < Nm.B ^ 64) : k ≤ 65 := by
 rw [h.1]; refine Nm.lb_length_lt.2 (Nat.lt_of_le_of_lt hn ?_); exact Nat.pow_lt_pow_right (by unfold Nm.B; omega) (by omega)
/-- what the closure holds: the number 1, and itself -/
structure SmS (gO gB g1 : Nat) (w : World) : Prop where
 c1 : w.cell? ⟨gO, 0, none⟩ = some (.slice (some ⟨g1, 0, none⟩) 1 1)
 cb : w.cell? ⟨gB, 0, none⟩ = some (.func (.func 77) #[] #[.pointer (some ⟨gO, 0, none⟩), .pointer (some ⟨gB, 0, none⟩)])
 n1 : Nb w (some ⟨g1, 0, none⟩) 1 1 1
theorem SmS.below {gO gB g1 : Nat} {w w' : World} (h : SmS gO gB g1 w) (hb : Below w.heap.size w w') : SmS gO gB g1 w' := ⟨cell_keep hb h.c1, cell_keep hb h.cb, h.n1.below hb⟩
/-- what between returns -/
def TwoN (w : World) (x : Value) (n d : Nat) : Prop := ∃ A k c A' k' c', x = .tuple #[.slice A k c, .slice A' k' c'] ∧ (Nb w A k c n ∧ Nb w A' k' c' d)
theorem TwoN.below {w w' : World} {x : Value} {n d : Nat} (h : TwoN w x n d) (hb : Below w.heap.size w w') : TwoN w' x n d := by
 obtain ⟨A, k, c, A', k', c', e, h1, h2⟩ := h; exact ⟨A, k, c, A', k', c', e, h1.below hb, h2.below hb⟩
def PhiSa (Q : Option Addr) (kq cq g1 : Nat) (j : Nat) (w : World) (x : Value) : Prop :=
 match j with
 | 0 => x = .slice Q kq cq
 | 1 => x = .slice (some ⟨g1, 0, none⟩) 1 1
 | 2 => x = .slice Q kq cq
 | 3 => x = .slice (some ⟨g1, 0, none⟩) 1 1
 | _ => True
theorem PhiSa.keep {Q : Option Addr} {kq cq g1 : Nat} : ∀ (w w' : World), Below w.heap.size w w' → ∀ j x, PhiSa Q kq cq g1 j w x → PhiSa Q kq cq g1 j w' x := by
 intro w w' hb j x h; unfold PhiSa at h ⊢
 split <;> simp only at h ⊢
 all_goals first
  | exact h
  | exact h.below hb
def PhiSb (gO gB : Nat) (A2 A3 A4 Q R : Option Addr) (k2 c2 k3 c3 k4 c4 kq cq kr cr q bn bd n d : Nat) (j : Nat) (w : World) (x : Value) : Prop :=
 match j with
 | 0 => x = .func (.func 77) #[] #[.pointer (some ⟨gO, 0, none⟩), .pointer (some ⟨gB, 0, none⟩)]
 | 1 => x = .slice A4 k4 c4
 | 2 => x = .slice A3 k3 c3
 | 3 => x = .slice Q kq cq
 | 4 => x = .slice A4 k4 c4
 | 5 => IsNb w x (q * bd) 65536
 | 6 => IsNb w x (bn - q * bd) 65536
 | 7 => x = .slice A2 k2 c2
 | 8 => x = .slice R kr cr
 | 9 => TwoN w x n d
 | 10 => TwoN w x n d
 | 11 => ∃ A k c, x = .slice A k c ∧ Nb w A k c n
 | 12 => ∃ A k c, x = .slice A k c ∧ Nb w A k c d
 | 13 => ∃ A k c, x = .slice A k c ∧ Nb w A k c n
 | 14 => ∃ A k c, x = .slice A k c ∧ Nb w A k c d
 | _ => True
theorem PhiSb.keep {gO gB : Nat} {A2 A3 A4 Q R : Option Addr} {k2 c2 k3 c3 k4 c4 kq cq kr cr q bn bd n d : Nat} : ∀ (w w' : World), Below w.heap.size w w' → ∀ j x, PhiSb gO gB A2 A3 A4 Q R k2 c2 k3 c3 k4 c4 kq cq kr cr q bn bd n d j w x → PhiSb gO gB A2 A3 A4 Q R k2 c2 k3 c3 k4 c4 kq cq kr cr q bn bd n d j w' x := by
 intro w w' hb j x h; unfold PhiSb at h ⊢
 split <;> simp only at h ⊢
 all_goals first
  | exact h
  | exact h.below hb
  | (obtain ⟨A, k, c, e, h⟩ := h; exact ⟨A, k, c, e, h.below hb⟩)
def Betw (f : Nat) : Prop := ∀ (an ad bn bd : Nat) (A1 : Option Addr) (k1 c1 : Nat) (A2 : Option Addr) (k2 c2 : Nat) (A3 : Option Addr) (k3 c3 : Nat) (A4 : Option Addr) (k4 c4 gO gB g1 : Nat) (w : World), SmS gO gB g1 w → Nm.SimP an ad bn bd → ad + bd ≤ f → Hid (an < Nm.B ^ 64 ∧ ad < Nm.B ^ 64 ∧ bn < Nm.B ^ 64 ∧ bd < Nm.B ^ 64) → Nb w A1 k1 c1 an → Nb w A2 k2 c2 ad → Nb w A3 k3 c3 bn → Nb w A4 k4 c4 bd →
 Calls Tryz.prog 77 #[.slice A1 k1 c1, .slice A2 k2 c2, .slice A3 k3 c3, .slice A4 k4 c4, .pointer (some ⟨gO, 0, none⟩), .pointer (some ⟨gB, 0, none⟩)] w fun e w' => ∃ A k c A' k' c', e = .returned (.tuple #[.slice A k c, .slice A' k' c']) ∧ Nb w' A k c (Nm.sim f an ad bn bd).1 ∧ Nb w' A' k' c' (Nm.sim f an ad bn bd).2 ∧ Below w.heap.size w w'
set_option maxRecDepth 100000 in
set_option maxHeartbeats 8000000 in
theorem between_n : ∀ f, Betw f
 | 0 => fun an ad bn bd _ _ _ _ _ _ _ _ _ _ _ _ _ _ _ _ _ hp hf => by
  exfalso
  have := hp.ha; omega
 | f + 1 => by
  have IH0 := between_n f; intro an ad bn bd A1 k1 c1 A2 k2 c2 A3 k3 c3 A4 k4 c4 gO gB g1 w hcs hp hf HL h1 h2 h3 h4; obtain ⟨⟨fn, fd⟩, HF⟩ : ∃ r, Hid (r = Nm.sim (f + 1) an ad bn bd) := ⟨_, rfl⟩; have HOK := Lib.hid (Nm.sim_ok (f + 1) an ad bn bd hp hf); rw [← HF.out] at HOK ⊢; obtain ⟨q, HQ⟩ : ∃ q, Hid (q = an / ad) := ⟨_, rfl⟩; obtain ⟨r, HR⟩ : ∃ r, Hid (r = an % ad) := ⟨_, rfl⟩; have hk1 := h1.k64 HL.out.1; have hk2 := h2.k64 HL.out.2.1; have hk3 := h3.k64 HL.out.2.2.1; have hk4 := h4.k64 HL.out.2.2.2; have hq64 : q < Nm.B ^ 64 := by rw [HQ.out]; exact Nat.lt_of_le_of_lt (Nat.div_le_self _ _) HL.out.1
  have hqle : q * bd ≤ bn := by rw [HQ.out]; exact hp.q_le
  have hbn := HL.out.2.2.1; have hqb := Nat.lt_of_le_of_lt hqle hbn; have hpa := hp.ha; have HD := divide_n A1 A2 c1 c2 k1 k2 an ad w h1 h2 (by omega) hpa; rw [← HQ.out, ← HR.out] at HD; have HD := Lib.hid HD; have HLT := Lib.hid (And.intro hq64 (And.intro hqb hbn)); clear hq64 hqb hbn
  go_enter Tryz.func77, Tryz.ntmps77
  go_wp2_with fail; refine HD.out.mono ?_; rintro e w2 ⟨Q, kq, cq, R, kr, cr, rfl, hQ, hR, hb2⟩; have hbw : Below w.heap.size w w2 := hb2; have hcs := hcs.below hb2; have h1 := h1.below hb2; have h2 := h2.below hb2; have h3 := h3.below hb2; have h4 := h4.below hb2; have hkq := hQ.k64 HLT.out.1; clear HD hb2; by_cases hr0 : r = 0
  ·have hkr : kr = 0 := by have := hR.1; rw [hr0, Nm.lb_zero] at this; simpa using this
   have HF1 : Hid (fn = q ∧ fd = 1) := by
    have h := HF.out; rw [Nm.sim, if_pos (by rw [← HR.out]; exact hr0), ← HQ.out] at h; injection h with h5 h6; exact ⟨h5, h6⟩
   subst hkr; clear hr0; have HF1a : Hid (fn = q) := HF1.out.1; have HF1b : Hid (fd = 1) := HF1.out.2; go_upto_region 3 with fail; refine region_invF (PhiSa Q kq cq g1) (fun w w' => Below w.heap.size w w') (fun W => Below w2.heap.size w2 W) (by kernel_rfl) (by kernel_rfl) (by kernel_rfl) PhiSa.keep (fun _ _ hR hS => Below.tr hS hR) (bD _) (fun vs => by simp only [fillR, Act.put, sA, sB, sC, Nat.zero_add, Nat.reduceAdd]; rfl) ?_ ?_
   ·refine sK ?_ (sK ?_ (sK ?_ (sK ?_ (sZ))))
    ·as_aux_lemma =>
     intro vs W hS hdep K hK; refine ⟨?_⟩; simp only [Act.put, sA, sB, sC, Nat.zero_add, Nat.reduceAdd] at hK ⊢; go_simp; with_reducible refine hK _ _ (Below.refl _ _) ?_
     exact rfl
    ·as_aux_lemma =>
     intro vs W hS hdep K hK; have f1 := (hcs.below hS).c1; refine ⟨?_⟩; simp only [Act.put, sA, sB, sC, Nat.zero_add, Nat.reduceAdd] at hK ⊢; go_simp; with_reducible refine hK _ _ (Below.refl _ _) ?_
     exact rfl
    ·as_aux_lemma =>
     intro vs W hS hdep K hK; have d0 := hdep ⟨0, .data⟩ (by simp) rfl; simp only [PhiSa] at d0; refine ⟨?_⟩; simp only [Act.put, sA, sB, sC, Nat.zero_add, Nat.reduceAdd, d0] at hK ⊢; go_simp; with_reducible refine hK _ _ (Below.refl _ _) ?_
     exact rfl
    ·as_aux_lemma =>
     intro vs W hS hdep K hK; have d0 := hdep ⟨1, .data⟩ (by simp) rfl; simp only [PhiSa] at d0; have d1 := hdep ⟨2, .chain⟩ (by simp) rfl; simp only [PhiSa] at d1; refine ⟨?_⟩; simp only [Act.put, sA, sB, sC, Nat.zero_add, Nat.reduceAdd, d0, d1] at hK ⊢; go_simp; with_reducible refine hK _ _ (Below.refl _ _) ?_
     exact rfl
   intro vs wz hbz hv; have v2 := hv 2 (by simp); have v3 := hv 3 (by simp); simp only [PhiSa] at v2 v3; simp only [Act.put, sA, sB, sC, Nat.zero_add, Nat.reduceAdd, v2, v3]; go_wp2_with fail; exact bodyPost_ret (v := .tuple #[.slice Q kq cq, .slice (some ⟨g1, 0, none⟩) 1 1]) (by simp [results, Tryz.results77, go_sem]) rfl ⟨_, _, _, _, _, _, rfl, by rw [HF1a.out]; exact hQ.below hbz, by rw [HF1b.out]; exact hcs.n1.below hbz, Below.tr hbw hbz⟩
  ·have hkr : 0 < kr := by
    rcases Nat.eq_zero_or_pos kr with e | e
    ·exfalso
     have := hR.1; rw [e] at this; have h5 := List.eq_nil_of_length_eq_zero this.symm; rw [Nm.lb_nil_iff] at h5; exact hr0 h5
    ·exact e
   have t1 : ((kr : Int) == 0) = false := by simp; omega
   have hrn : an % ad ≠ 0 := by rw [← HR.out]; exact hr0
   have HRN := Lib.hid hrn; clear hr0 hrn; have h11 := hcs.n1; have hc1 := hcs.c1; go_wp2_with fail; refine (plus_n _ _ _ _ _ _ _ _ _ hQ h11 (by omega) (by omega)).mono ?_; rintro e w3 ⟨X, kx, cx, rfl, hX, hb⟩; have hbw := Below.tr hbw hb; have hcs := hcs.below hb; have h2 := h2.below hb; have h3 := h3.below hb; have h4 := h4.below hb; have hQ := hQ.below hb; have hR := hR.below hb; have hkx := hX.k65 HLT.out.1; clear hb h11 h1 hc1; go_wp2_with fail; refine (times_n _ _ _ _ _ _ _ _ _ hX h4 (by omega) (by omega)).mono ?_; rintro e w4 ⟨Y, ky, cy, rfl, hY, hb⟩; have hbw := Below.tr hbw hb; have hcs := hcs.below hb; have h2 := h2.below hb; have h3 := h3.below hb; have h4 := h4.below hb; have hQ := hQ.below hb; have hR := hR.below hb; have hX := hX.below hb; clear hb; go_wp2_with fail; refine (compare_n _ _ _ _ _ _ _ _ _ hY h3).mono ?_; rintro e w5 ⟨nd, rfl, rfl⟩; have hb := below_drewN w4 nd; have hbw := Below.tr hbw hb; have hcs := hcs.below hb; have h2 := h2.below hb; have h3 := h3.below hb; have h4 := h4.below hb; have hQ := hQ.below hb; have hR := hR.below hb; have hX := hX.below hb; obtain ⟨w6, hw6⟩ : ∃ z, z = w4.drewN nd := ⟨_, rfl⟩; rw [← hw6] at hbw hcs h2 h3 h4 hQ hR hX ⊢; clear hb hw6 hY; by_cases hn : (q + 1) * bd ≤ bn
   ·have t2 : decide (Nm.cmpN ((q + 1) * bd) bn ≤ 0) = true := by
     rw [decide_eq_true_iff]; unfold Nm.cmpN
     split
     ·omega
     ·split <;> omega
    have HF1 : Hid (fn = q + 1 ∧ fd = 1) := by
     have h := HF.out; rw [Nm.sim, if_neg HRN.out, ← HQ.out, if_pos hn] at h; injection h with h5 h6; exact ⟨h5, h6⟩
    have HF1a : Hid (fn = q + 1) := HF1.out.1; have HF1b : Hid (fd = 1) := HF1.out.2; clear hn; go_upto_region 6 with fail; refine region_invF (PhiSa X kx cx g1) (fun w w' => Below w.heap.size w w') (fun W => Below w6.heap.size w6 W) (by kernel_rfl) (by kernel_rfl) (by kernel_rfl) PhiSa.keep (fun _ _ hR hS => Below.tr hS hR) (bD _) (fun vs => by simp only [fillR, Act.put, sA, sB, sC, Nat.zero_add, Nat.reduceAdd]; rfl) ?_ ?_
    ·refine sK ?_ (sK ?_ (sK ?_ (sK ?_ (sZ))))
     ·as_aux_lemma =>
      intro vs W hS hdep K hK; refine ⟨?_⟩; simp only [Act.put, sA, sB, sC, Nat.zero_add, Nat.reduceAdd] at hK ⊢; go_simp; with_reducible refine hK _ _ (Below.refl _ _) ?_
      exact rfl
     ·as_aux_lemma =>
      intro vs W hS hdep K hK; have f1 := (hcs.below hS).c1; refine ⟨?_⟩; simp only [Act.put, sA, sB, sC, Nat.zero_add, Nat.reduceAdd] at hK ⊢; go_simp; with_reducible refine hK _ _ (Below.refl _ _) ?_
      exact rfl
     ·as_aux_lemma =>
      intro vs W hS hdep K hK; have d0 := hdep ⟨0, .data⟩ (by simp) rfl; simp only [PhiSa] at d0; refine ⟨?_⟩; simp only [Act.put, sA, sB, sC, Nat.zero_add, Nat.reduceAdd, d0] at hK ⊢; go_simp; with_reducible refine hK _ _ (Below.refl _ _) ?_
      exact rfl
     ·as_aux_lemma =>
      intro vs W hS hdep K hK; have d0 := hdep ⟨1, .data⟩ (by simp) rfl; simp only [PhiSa] at d0; have d1 := hdep ⟨2, .chain⟩ (by simp) rfl; simp only [PhiSa] at d1; refine ⟨?_⟩; simp only [Act.put, sA, sB, sC, Nat.zero_add, Nat.reduceAdd, d0, d1] at hK ⊢; go_simp; with_reducible refine hK _ _ (Below.refl _ _) ?_
      exact rfl
    intro vs wz hbz hv; have v2 := hv 2 (by simp); have v3 := hv 3 (by simp); simp only [PhiSa] at v2 v3; simp only [Act.put, sA, sB, sC, Nat.zero_add, Nat.reduceAdd, v2, v3]; go_wp2_with fail; exact bodyPost_ret (v := .tuple #[.slice X kx cx, .slice (some ⟨g1, 0, none⟩) 1 1]) (by simp [results, Tryz.results77, go_sem]) rfl ⟨_, _, _, _, _, _, rfl, by rw [HF1a.out]; exact hX.below hbz, by rw [HF1b.out]; exact hcs.n1.below hbz, Below.tr hbw hbz⟩
   ·have t2 : decide (Nm.cmpN ((q + 1) * bd) bn ≤ 0) = false := by
     rw [decide_eq_false_iff_not]; unfold Nm.cmpN; rw [if_neg (by omega)]
     split <;> omega
    obtain ⟨⟨n, d⟩, HND⟩ : ∃ z, Hid (z = Nm.sim f bd (bn - q * bd) ad r) := ⟨Nm.sim f bd (bn - q * bd) ad r, rfl⟩; have hnx := hp.next HRN.out; rw [← HQ.out, ← HR.out] at hnx
    have hls : (bn - q * bd) + r ≤ f := by
     have := hp.less HRN.out (by rw [← HQ.out]; exact hn); rw [← HQ.out, ← HR.out] at this; omega
    have hlm : Hid (bd < Nm.B ^ 64 ∧ bn - q * bd < Nm.B ^ 64 ∧ ad < Nm.B ^ 64 ∧ r < Nm.B ^ 64) := ⟨HL.out.2.2.2, Nat.lt_of_le_of_lt (Nat.sub_le _ _) HL.out.2.2.1, HL.out.2.1, by rw [HR.out]; exact Nat.lt_trans (Nat.mod_lt _ hpa) HL.out.2.1⟩; have HSR := Lib.hid (Nm.sim_ok f bd (bn - q * bd) ad r hnx hls); rw [← HND.out] at HSR
    have HF1 : Hid (fn = q * n + d ∧ fd = n) := by
     have h := HF.out; rw [Nm.sim, if_neg HRN.out, ← HQ.out, if_neg hn, ← HR.out, ← HND.out] at h; injection h with h5 h6; exact ⟨h5, h6⟩
    have IH : ∀ (B1 : Option Addr) (j1 d1 : Nat) (B2 : Option Addr) (j2 d2 : Nat) (B3 : Option Addr) (j3 d3 : Nat) (B4 : Option Addr) (j4 d4 : Nat) (W : World), SmS gO gB g1 W → Nb W B1 j1 d1 bd → Nb W B2 j2 d2 (bn - q * bd) → Nb W B3 j3 d3 ad → Nb W B4 j4 d4 r → Calls Tryz.prog 77 #[.slice B1 j1 d1, .slice B2 j2 d2, .slice B3 j3 d3, .slice B4 j4 d4, .pointer (some ⟨gO, 0, none⟩), .pointer (some ⟨gB, 0, none⟩)] W fun e w' => ∃ A k c A' k' c', e = .returned (.tuple #[.slice A k c, .slice A' k' c']) ∧ Nb w' A k c n ∧ Nb w' A' k' c' d ∧ Below W.heap.size W w' := by
     intro B1 j1 d1 B2 j2 d2 B3 j3 d3 B4 j4 d4 W hc g1' g2' g3' g4'; have h := IH0 bd (bn - q * bd) ad r B1 j1 d1 B2 j2 d2 B3 j3 d3 B4 j4 d4 gO gB g1 W hc hnx hls hlm g1' g2' g3' g4'; rw [← HND.out] at h; exact h
    have hqb := HLT.out.2.1; have hbn := HLT.out.2.2; clear hn IH0 hnx hls hlm HND hX; go_upto_region 7 with fail; refine region_invF (PhiSb gO gB A2 A3 A4 Q R k2 c2 k3 c3 k4 c4 kq cq kr cr q bn bd n d) (fun w w' => Below w.heap.size w w') (fun W => Below w6.heap.size w6 W) (by kernel_rfl) (by kernel_rfl) (by kernel_rfl) PhiSb.keep (fun _ _ hR hS => Below.tr hS hR) (bD _) (fun vs => by simp only [fillR, Act.put, sA, sB, sC, Nat.zero_add, Nat.reduceAdd]; rfl) ?_ ?_
    ·refine sK ?_ (sK ?_ (sK ?_ (sK ?_ (sK ?_ (sK ?_ (sK ?_ (sK ?_ (sK ?_ (sK ?_ (sK ?_ (sK ?_ (sK ?_ (sK ?_ (sK ?_ (sZ)))))))))))))))
     ·as_aux_lemma =>
      intro vs W hS hdep K hK; have f1 := (hcs.below hS).cb; refine ⟨?_⟩; simp only [Act.put, sA, sB, sC, Nat.zero_add, Nat.reduceAdd] at hK ⊢; go_simp; with_reducible refine hK _ _ (Below.refl _ _) ?_
      exact rfl
     ·as_aux_lemma =>
      intro vs W hS hdep K hK; refine ⟨?_⟩; simp only [Act.put, sA, sB, sC, Nat.zero_add, Nat.reduceAdd] at hK ⊢; go_simp; with_reducible refine hK _ _ (Below.refl _ _) ?_
      exact rfl
     ·as_aux_lemma =>
      intro vs W hS hdep K hK; refine ⟨?_⟩; simp only [Act.put, sA, sB, sC, Nat.zero_add, Nat.reduceAdd] at hK ⊢; go_simp; with_reducible refine hK _ _ (Below.refl _ _) ?_
      exact rfl
     ·as_aux_lemma =>
      intro vs W hS hdep K hK; refine ⟨?_⟩; simp only [Act.put, sA, sB, sC, Nat.zero_add, Nat.reduceAdd] at hK ⊢; go_simp; with_reducible refine hK _ _ (Below.refl _ _) ?_
      exact rfl
     ·as_aux_lemma =>
      intro vs W hS hdep K hK; refine ⟨?_⟩; simp only [Act.put, sA, sB, sC, Nat.zero_add, Nat.reduceAdd] at hK ⊢; go_simp; with_reducible refine hK _ _ (Below.refl _ _) ?_
      exact rfl
     ·as_aux_lemma =>
      intro vs W hS hdep K hK; have d0 := hdep ⟨3, .data⟩ (by simp) rfl; simp only [PhiSb] at d0; have d1 := hdep ⟨4, .data⟩ (by simp) rfl; simp only [PhiSb] at d1; refine ⟨?_⟩; simp only [Act.put, sA, sB, sC, Nat.zero_add, Nat.reduceAdd, d0, d1] at hK ⊢; go_simp; refine (times_n _ _ _ _ _ _ _ _ _ (hQ.below hS) (h4.below hS) (by omega) (by omega)).mono ?_; rintro e w' ⟨A, k, c, rfl, hn, hb⟩; go_wp2_with fail; with_reducible refine hK _ _ hb ?_
      exact ⟨A, k, c, rfl, hn, Nat.le_trans (hn.k64 hqb) (by omega)⟩
     ·as_aux_lemma =>
      intro vs W hS hdep K hK; have d0 := hdep ⟨2, .data⟩ (by simp) rfl; simp only [PhiSb] at d0; have d1 := hdep ⟨5, .data⟩ (by simp) rfl; simp only [PhiSb] at d1; refine @exE3 _ _ _ _ _ d1 ?_; clear d1; intro A1 k1 c1 d1; have e1 := d1.1; have n1 := d1.2.1; have m1 := d1.2.2; clear d1; refine ⟨?_⟩; simp only [Act.put, sA, sB, sC, Nat.zero_add, Nat.reduceAdd, d0, e1] at hK ⊢; go_simp; refine (minus_n _ _ _ _ _ _ _ _ _ (h3.below hS) n1 (by omega) m1 hqle).mono ?_; rintro e w' ⟨A, k, c, rfl, hn, hb⟩; go_wp2_with fail; with_reducible refine hK _ _ hb ?_
      exact ⟨A, k, c, rfl, hn, Nat.le_trans (hn.k64 (Nat.lt_of_le_of_lt (Nat.sub_le _ _) hbn)) (by omega)⟩
     ·as_aux_lemma =>
      intro vs W hS hdep K hK; refine ⟨?_⟩; simp only [Act.put, sA, sB, sC, Nat.zero_add, Nat.reduceAdd] at hK ⊢; go_simp; with_reducible refine hK _ _ (Below.refl _ _) ?_
      exact rfl
     ·as_aux_lemma =>
      intro vs W hS hdep K hK; refine ⟨?_⟩; simp only [Act.put, sA, sB, sC, Nat.zero_add, Nat.reduceAdd] at hK ⊢; go_simp; with_reducible refine hK _ _ (Below.refl _ _) ?_
      exact rfl
     ·as_aux_lemma =>
      intro vs W hS hdep K hK; have d0 := hdep ⟨0, .data⟩ (by simp) rfl; simp only [PhiSb] at d0; have d1 := hdep ⟨1, .data⟩ (by simp) rfl; simp only [PhiSb] at d1; have d2 := hdep ⟨6, .data⟩ (by simp) rfl; simp only [PhiSb] at d2; refine @exE3 _ _ _ _ _ d2 ?_; clear d2; intro A2 k2 c2 d2; have e2 := d2.1; have n2 := d2.2.1; have m2 := d2.2.2; clear d2; have d3 := hdep ⟨7, .data⟩ (by simp) rfl; simp only [PhiSb] at d3; have d4 := hdep ⟨8, .data⟩ (by simp) rfl; simp only [PhiSb] at d4; refine ⟨?_⟩; simp only [Act.put, sA, sB, sC, Nat.zero_add, Nat.reduceAdd, d0, d1, e2, d3, d4] at hK ⊢; go_simp; refine (IH _ _ _ _ _ _ _ _ _ _ _ _ _ (hcs.below hS) (h4.below hS) n2 (h2.below hS) (hR.below hS)).mono ?_; rintro e w' ⟨A, k, c, A', k', c', rfl, hn, hn', hb⟩; go_wp2_with fail; with_reducible refine hK _ _ hb ?_
      exact ⟨_, _, _, _, _, _, rfl, hn, hn'⟩
     ·as_aux_lemma =>
      intro vs W hS hdep K hK; have d0 := hdep ⟨9, .data⟩ (by simp) rfl; simp only [PhiSb] at d0; have r0 := d0; clear d0; obtain ⟨A, k, c, A', k', c', e, h1', h2'⟩ := r0; refine ⟨?_⟩; simp only [Act.put, sA, sB, sC, Nat.zero_add, Nat.reduceAdd, e] at hK ⊢; go_simp; with_reducible refine hK _ _ (Below.refl _ _) ?_
      exact ⟨_, _, _, _, _, _, rfl, h1', h2'⟩
     ·as_aux_lemma =>
      intro vs W hS hdep K hK; have d0 := hdep ⟨10, .data⟩ (by simp) rfl; simp only [PhiSb] at d0; have r0 := d0; clear d0; obtain ⟨A, k, c, A', k', c', e, h1', h2'⟩ := r0; refine ⟨?_⟩; simp only [Act.put, sA, sB, sC, Nat.zero_add, Nat.reduceAdd, e] at hK ⊢; go_simp; with_reducible refine hK _ _ (Below.refl _ _) ?_
      exact ⟨_, _, _, rfl, h1'⟩
     ·as_aux_lemma =>
      intro vs W hS hdep K hK; have d0 := hdep ⟨10, .data⟩ (by simp) rfl; simp only [PhiSb] at d0; have r0 := d0; clear d0; obtain ⟨A, k, c, A', k', c', e, h1', h2'⟩ := r0; refine ⟨?_⟩; simp only [Act.put, sA, sB, sC, Nat.zero_add, Nat.reduceAdd, e] at hK ⊢; go_simp; with_reducible refine hK _ _ (Below.refl _ _) ?_
      exact ⟨_, _, _, rfl, h2'⟩
     ·as_aux_lemma =>
      intro vs W hS hdep K hK; have d0 := hdep ⟨11, .data⟩ (by simp) rfl; simp only [PhiSb] at d0; refine @exE3 _ _ _ _ _ d0 ?_; clear d0; intro A0 k0 c0 d0; have e0 := d0.1; have n0 := d0.2; clear d0; refine ⟨?_⟩; simp only [Act.put, sA, sB, sC, Nat.zero_add, Nat.reduceAdd, e0] at hK ⊢; go_simp; with_reducible refine hK _ _ (Below.refl _ _) ?_
      exact ⟨_, _, _, rfl, n0⟩
     ·as_aux_lemma =>
      intro vs W hS hdep K hK; have d0 := hdep ⟨12, .data⟩ (by simp) rfl; simp only [PhiSb] at d0; refine @exE3 _ _ _ _ _ d0 ?_; clear d0; intro A0 k0 c0 d0; have e0 := d0.1; have n0 := d0.2; clear d0; refine ⟨?_⟩; simp only [Act.put, sA, sB, sC, Nat.zero_add, Nat.reduceAdd, e0] at hK ⊢; go_simp; with_reducible refine hK _ _ (Below.refl _ _) ?_
      exact ⟨_, _, _, rfl, n0⟩
    intro vs w7 hb hv; have v13 := hv 13 (by simp); have v14 := hv 14 (by simp); simp only [PhiSb] at v13 v14; obtain ⟨N1, kn, cn, v13, hN⟩ := v13; obtain ⟨D1, kd, cd, v14, hDD⟩ := v14; simp only [Act.put, sA, sB, sC, Nat.zero_add, Nat.reduceAdd, v13, v14]; have hbw := Below.tr hbw hb; have hQ := hQ.below hb; have hn64 : n < Nm.B ^ 64 := Nat.lt_of_le_of_lt HSR.out.na HL.out.2.2.2; have hd64 : d < Nm.B ^ 64 := Nat.lt_of_le_of_lt HSR.out.da (Nat.lt_of_le_of_lt (Nat.sub_le _ _) HL.out.2.2.1)
    have hqn : q * n < Nm.B ^ 64 := by
     have h5 := HOK.out.na; rw [HF1.out.1] at h5; exact Nat.lt_of_le_of_lt (Nat.le_trans (Nat.le_add_right _ _) h5) HL.out.1
    have hkn := hN.k64 hn64; have hkd := hDD.k64 hd64; have HQN := Lib.hid hqn; have HF1a : Hid (fn = q * n + d) := HF1.out.1; have HF1b : Hid (fd = n) := HF1.out.2; clear hv v13 v14 hb hn64 hd64 hqn hqb hbn IH; go_wp2_with fail; refine (times_n _ _ _ _ _ _ _ _ _ hQ hN (by omega) (by omega)).mono ?_; rintro e w8 ⟨Z, kz, cz, rfl, hZ, hb⟩; have hbw := Below.tr hbw hb; have hN := hN.below hb; have hDD := hDD.below hb; have hkz := hZ.k64 HQN.out; clear hb; go_wp2_with fail; refine (plus_n _ _ _ _ _ _ _ _ _ hZ hDD (by omega) (by omega)).mono ?_; rintro e w9 ⟨U, ku, cu, rfl, hU, hb⟩; have hbw := Below.tr hbw hb; have hN := hN.below hb; go_wp2_with fail; exact bodyPost_ret (v := .tuple #[.slice U ku cu, .slice N1 kn cn]) (by simp [results, Tryz.results77, go_sem]) rfl ⟨_, _, _, _, _, _, rfl, by rw [HF1a.out]; exact hU, by rw [HF1b.out]; exact hN, hbw⟩
end Go.Proofs.YtmbfjmilhfmnkaaGreatDoor
