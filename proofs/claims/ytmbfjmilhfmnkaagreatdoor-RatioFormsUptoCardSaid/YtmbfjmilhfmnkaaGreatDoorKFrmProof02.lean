import Derived.Test.YtmbfjmilhfmnkaaGreatDoorKFrmProof01
import Derived.Lib.IndexLaws
import Derived.Test.YtmbfjmilhfmnkaaGreatDoorS0
set_option linter.unusedVariables false
set_option linter.unusedSimpArgs false
namespace Go.Proofs.YtmbfjmilhfmnkaaGreatDoor
open Go Go.RowKit
theorem cut_none {s : ByteArray} (h : ∀ (j : Nat) (hj : j < s.size), s[j].toNat ≠ 47) : cutI s = -1 := by
 unfold cutI; by_cases hc : Lib.indexByte s.data.toList 47 = -1
 ·exact hc
 ·exfalso
  have h1 := Lib.indexByte_ge s.data.toList 47; obtain ⟨o, ho⟩ : ∃ o : Nat, Lib.indexByte s.data.toList 47 = o := ⟨(Lib.indexByte s.data.toList 47).toNat, by omega⟩; obtain ⟨h2, _⟩ := Lib.indexByte_some ho; obtain ⟨h3, h4⟩ := List.getElem?_eq_some_iff.1 h2; have h5 : o < s.size := by rw [Array.length_toList] at h3; exact h3
  have h6 := bytes_get h5; rw [h2] at h6; have h7 := Option.some.inj h6; exact h o h5 (by rw [← h7]; rfl)
theorem cut_some {s : ByteArray} {k : Nat} (hk : k < s.size) (h : s[k].toNat = 47) (hb : ∀ (j : Nat) (hj : j < s.size), j < k → s[j].toNat ≠ 47) : cutI s = k := by
 unfold cutI
 have hk47 : s.data.toList[k]? = some 47 := by
  rw [bytes_get hk]
  congr 1
  exact UInt8.toNat_inj.1 h
 have h1 := Lib.indexByte_ge s.data.toList 47; by_cases hc : Lib.indexByte s.data.toList 47 = -1
 ·exact absurd hk47 (Lib.indexByte_none hc k)
 ·obtain ⟨o, ho⟩ : ∃ o : Nat, Lib.indexByte s.data.toList 47 = o := ⟨(Lib.indexByte s.data.toList 47).toNat, by omega⟩; obtain ⟨h2, h3⟩ := Lib.indexByte_some ho; rw [ho]
  rcases Nat.lt_trichotomy o k with h4 | h4 | h4
  ·exfalso
   have h5 : o < s.size := by omega
   have h6 := bytes_get h5; rw [h2] at h6; exact hb o h5 h4 (by rw [← Option.some.inj h6]; rfl)
  ·rw [h4]
  ·exact absurd hk47 (h3 k h4)
theorem Lim.none0 {w : World} {A : Option Addr} {c : Nat} (hc : c = 0) : Lim w A c [] := by
 subst hc; exact ⟨fun h => absurd rfl h, Nat.le_refl _, by omega, (fun x hx => by cases hx), fun _ => rfl⟩
theorem fit_nil : fitN ⟨#[]⟩ = true := by kernel_rfl
theorem num_nil : numP ⟨#[]⟩ = [] := by
 unfold numP numV; exact Nm.lb_zero

set_option maxRecDepth 100000 in
set_option maxHeartbeats 8000000 in
theorem rparse_F (s : ByteArray) (w : World) (hs : s.size ≤ 9223372036854775807) :
  Calls Tryz.prog 22 #[.string s] w fun e w' => ∃ v, e = .returned (.tuple #[v, .int .i64 (parseF s).1]) ∧ RtP w' v (parseF s).2 ∧ Below w.heap.size w w' := by
 obtain ⟨a, HA⟩ : ∃ a, Hid (a = cutA s) := ⟨_, rfl⟩; obtain ⟨z, HZ⟩ : ∃ z, Hid (z = cutZ s) := ⟨_, rfl⟩; have ha : a.size ≤ 9223372036854775807 := by rw [HA.out]; have := cutA_size s; omega
 have hz : z.size ≤ 9223372036854775807 := by rw [HZ.out]; have := cutZ_size s; omega
 go_enter Tryz.func22, Tryz.ntmps22
 go_upto_region 1 with fail; refine wp_name ?_; intro w1 HW1; have hb1 : Below w.heap.size w w1 := by rw [HW1.out]; exact bA _ _
 have hsl : Sl w1 w.heap.size := by rw [HW1.out]; exact ⟨none, 0, 0, none, 0, 0, Blk.new _ _ _⟩
 obtain ⟨gr, hgrr⟩ : ∃ g, Hid (g = w.heap.size) := ⟨_, rfl⟩; have hgr : w.heap.size ≤ gr := by have := hgrr.out; omega
 rw [← hgrr.out] at hsl ⊢; have hbw := hb1; clear HW1 hgrr hb1; go_wp2_with fail
 go_loopg [4] s.size (fun j x wr => ∃ k : Nat, x = .int .i64 k ∧ k + j = s.size ∧ Hid (∀ (j : Nat) (hj : j < s.size), j < k → s[j].toNat ≠ 47) ∧ wr = w1)
 case atStart => exact ⟨0, rfl, by omega, (fun j _ h => by omega), rfl⟩
 case round =>
  obtain ⟨k, rfl, hkj, HB, rfl⟩ := hrel; obtain ⟨w1, hw1⟩ : ∃ z, z = wr := ⟨_, rfl⟩; subst hw1; by_cases hk : k < s.size
  ·have t1 : decide ((k : Int) < (s.size : Int)) = true := by simp; omega
   by_cases h47 : s[k].toNat = 47
   ·have t2 : ((s[k].toNat : Int) != 47) = false := by simp; omega
    have HI := Lib.hid (cut_some hk h47 HB.out); have HYY : Hid (cutY s = true) := by show _ = _; unfold cutY; rw [HI.out, decide_eq_true_iff]; omega
    have ea : s.extract 0 k = a := by rw [HA.out]; unfold cutA; rw [HI.out, if_pos (by omega)]; rfl
    have ez : s.extract (k + 1) s.size = z := by rw [HZ.out]; unfold cutZ; rw [HI.out, if_pos (by omega)]; rfl
    have hkI : (k : Int) ≤ (s.size : Int) := by omega
    have hkI1 : (k : Int) + 1 ≤ (s.size : Int) := by omega
    clear h47 HB HI; go_wp2_with fail; refine (rrow_n a _ ha).mono ?_; rintro e w2 ⟨rfl, hb⟩; have hsl := hsl.below hb; have hbw := Below.tr hbw hb; clear hb
    cases hra : rowB a
    ·have HF : Hid (parseF s = (2, nilP)) := by
      show _ = _
      unfold parseF; rw [if_pos (.inl (by rw [← HA.out]; exact hra))]
     obtain ⟨A, k', c', A', k'', c'', he, ⟨a1, u1⟩, ⟨a2, u2⟩, u3, u4, z1, z2, hr, hbz⟩ := ret_ratio (w0 := w) (nil_rtP w2) hsl hgr hbw; simp only [nilRat, Value.agg.injEq, Array.mk.injEq, List.cons.injEq, and_true, Value.slice.injEq] at he; obtain ⟨⟨rfl, rfl, rfl⟩, rfl, rfl, rfl⟩ := he; go_wp2_with fail; exact bodyPost_ret (v := .tuple #[.agg #[.slice none 0 0, .slice none 0 0], .int .i64 2]) (by simp [results, Tryz.results22, go_sem, z1, z2]) rfl ⟨_, by rw [HF.out], by rw [HF.out]; exact hr, hbz⟩
    ·have HDA : Hid (∀ b ∈ a.data.toList, 48 ≤ b.toNat ∧ b.toNat ≤ 57) := row_digits hra; have HRA := Lib.hid hra; clear hra; go_wp2_with fail; refine (rrow_n z _ hz).mono ?_; rintro e w2 ⟨rfl, hb⟩; have hsl := hsl.below hb; have hbw := Below.tr hbw hb; clear hb
     cases hrz : rowB z
     ·have HF : Hid (parseF s = (2, nilP)) := by
       show _ = _
       unfold parseF; rw [if_pos (.inr ⟨HYY.out, by rw [← HZ.out]; exact hrz⟩)]
      obtain ⟨A, k', c', A', k'', c'', he, ⟨a1, u1⟩, ⟨a2, u2⟩, u3, u4, z1, z2, hr, hbz⟩ := ret_ratio (w0 := w) (nil_rtP w2) hsl hgr hbw; simp only [nilRat, Value.agg.injEq, Array.mk.injEq, List.cons.injEq, and_true, Value.slice.injEq] at he; obtain ⟨⟨rfl, rfl, rfl⟩, rfl, rfl, rfl⟩ := he; go_wp2_with fail; exact bodyPost_ret (v := .tuple #[.agg #[.slice none 0 0, .slice none 0 0], .int .i64 2]) (by simp [results, Tryz.results22, go_sem, z1, z2]) rfl ⟨_, by rw [HF.out], by rw [HF.out]; exact hr, hbz⟩
     ·have HDZ : Hid (∀ b ∈ z.data.toList, 48 ≤ b.toNat ∧ b.toNat ≤ 57) := row_digits hrz
      have HN : Hid (¬ (rowB (cutA s) = false ∨ (cutY s = true ∧ rowB (cutZ s) = false))) := by
       show ¬ _
       rw [← HA.out, HRA.out, ← HZ.out, hrz]; simp
      clear hrz
      have HP4 : Hid (fitN a = false ∨ fitN z = false → parseF s = (4, nilP)) := fun h => by
       rw [HA.out, HZ.out] at h; unfold parseF; rw [if_neg HN.out, if_pos h]
      have HP1 : Hid (fitN a = true ∧ fitN z = true → (validP (numP a, numP z) ≠ 0 ∨ (cutY s = true ∧ numP z = [])) → parseF s = (1, nilP)) := fun h h2 => by
       rw [HA.out, HZ.out] at h h2; unfold parseF; rw [if_neg HN.out, if_neg (by rw [h.1, h.2]; simp), if_pos h2]
      have HP0 : Hid (fitN a = true ∧ fitN z = true → validP (numP a, numP z) = 0 → (cutY s = true → numP z ≠ []) → parseF s = (0, (numP a, numP z))) := fun h h2 h3 => by
       rw [HA.out, HZ.out] at h h2 ⊢; rw [HZ.out] at h3; unfold parseF; rw [if_neg HN.out, if_neg (by rw [h.1, h.2]; simp), if_neg (fun h4 => h4.elim (fun h5 => h5 h2) (fun h5 => h3 h5.1 h5.2))]
      clear HN; go_wp2_with fail; refine (rnumber_F a _ ha HDA).mono ?_; rintro e wn ⟨A1, k1, c1, rfl, hn1, hbn⟩; have hsl := hsl.below hbn; have hbw := Below.tr hbw hbn; have hbA := bA wn (.cells #[] 56); have hsl := hsl.below hbA; have hbw := Below.tr hbw hbA; go_wp2_with fail; refine (rnumber_F z _ hz HDZ).mono ?_; rintro e wm ⟨A2, k2, c2, rfl, hn2, hbm⟩; have hsl := hsl.below hbm; have hbw := Below.tr hbw hbm; have HN1 : Hid (fitN a = true → Nb wm A1 k1 c1 (numV a.data.toList)) := fun h => ((hn1 h).below hbA).below hbm
      have HN2 := Lib.hid hn2; clear hn1 hn2 hbn hbA hbm
      cases hf1 : fitN a
      ·have HF : Hid (parseF s = (4, nilP)) := HP4.out (.inl hf1); obtain ⟨A, k', c', A', k'', c'', he, ⟨a1, u1⟩, ⟨a2, u2⟩, u3, u4, z1, z2, hr, hbz⟩ := ret_ratio (w0 := w) (nil_rtP wm) hsl hgr hbw; simp only [nilRat, Value.agg.injEq, Array.mk.injEq, List.cons.injEq, and_true, Value.slice.injEq] at he; obtain ⟨⟨rfl, rfl, rfl⟩, rfl, rfl, rfl⟩ := he; go_wp2_with fail; exact bodyPost_ret (v := .tuple #[.agg #[.slice none 0 0, .slice none 0 0], .int .i64 4]) (by simp [results, Tryz.results22, go_sem, z1, z2]) rfl ⟨_, by rw [HF.out], by rw [HF.out]; exact hr, hbz⟩
      ·cases hf2 : fitN z
       ·have HF : Hid (parseF s = (4, nilP)) := HP4.out (.inr hf2); obtain ⟨A, k', c', A', k'', c'', he, ⟨a1, u1⟩, ⟨a2, u2⟩, u3, u4, z1, z2, hr, hbz⟩ := ret_ratio (w0 := w) (nil_rtP wm) hsl hgr hbw; simp only [nilRat, Value.agg.injEq, Array.mk.injEq, List.cons.injEq, and_true, Value.slice.injEq] at he; obtain ⟨⟨rfl, rfl, rfl⟩, rfl, rfl, rfl⟩ := he; go_wp2_with fail; exact bodyPost_ret (v := .tuple #[.agg #[.slice none 0 0, .slice none 0 0], .int .i64 4]) (by simp [results, Tryz.results22, go_sem, z1, z2]) rfl ⟨_, by rw [HF.out], by rw [HF.out]; exact hr, hbz⟩
       ·have hA := HN1.out hf1; have hZ := HN2.out hf2; have HFI := Lib.hid (And.intro hf1 hf2); have HZL : Hid (k2 = (numP z).length) := hZ.1; have hrt : RtP wm (.agg #[.slice A1 k1 c1, .slice A2 k2 c2]) (numP a, numP z) := ⟨_, _, _, _, _, _, rfl, hA.2, hZ.2, hA.1, hZ.1⟩; clear HN1 HN2 hA hZ hf1 hf2; go_upto_region 15 with fail; refine wp_name ?_; intro wv HWV; have hb := bA wm (.cells #[.slice A1 k1 c1, .slice A2 k2 c2] 29); rw [← HWV.out] at hb; have hBV : Blk wv wm.heap.size 29 #[.slice A1 k1 c1, .slice A2 k2 c2] := by rw [HWV.out]; exact Blk.new _ _ _
        have hrt := hrt.below hb; have hsl := hsl.below hb; have hbw := Below.tr hbw hb; obtain ⟨gV, hgV⟩ : ∃ g, Hid (g = wm.heap.size) := ⟨_, rfl⟩; rw [← hgV.out] at hBV ⊢; have V0 := hBV.cell 0; have V1 := hBV.cell 1; simp only [List.getElem?_toArray, List.getElem?_cons_zero, List.getElem?_cons_succ] at V0 V1; clear HWV hBV hgV hb; go_wp2_with fail; refine (rvalid_P _ (numP a, numP z) _ hrt).mono ?_; rintro e wu ⟨rfl, hb⟩; have hrt := hrt.below hb; have hsl := hsl.below hb; have hbw := Below.tr hbw hb; have V0 := cell_keep hb V0; have V1 := cell_keep hb V1; clear hb; by_cases hv0 : validP (numP a, numP z) = 0
        ·have t5 : (validP (numP a, numP z) != 0) = false := by simpa using hv0
         by_cases hze : numP z = []
         ·have hk2 : k2 = 0 := by rw [HZL.out, hze]; rfl
          have HF : Hid (parseF s = (1, nilP)) := HP1.out HFI.out (.inr ⟨HYY.out, hze⟩); subst hk2; clear hze; obtain ⟨A, k', c', A', k'', c'', he, ⟨a1, u1⟩, ⟨a2, u2⟩, u3, u4, z1, z2, hr, hbz⟩ := ret_ratio (w0 := w) (nil_rtP wu) hsl hgr hbw; simp only [nilRat, Value.agg.injEq, Array.mk.injEq, List.cons.injEq, and_true, Value.slice.injEq] at he; obtain ⟨⟨rfl, rfl, rfl⟩, rfl, rfl, rfl⟩ := he; go_wp2_with fail; exact bodyPost_ret (v := .tuple #[.agg #[.slice none 0 0, .slice none 0 0], .int .i64 1]) (by simp [results, Tryz.results22, go_sem, z1, z2]) rfl ⟨_, by rw [HF.out], by rw [HF.out]; exact hr, hbz⟩
         ·have hk2 : k2 ≠ 0 := by rw [HZL.out]; exact fun e => hze (List.eq_nil_of_length_eq_zero e)
          have t6 : ((k2 : Int) == 0) = false := by simp; omega
          have HF : Hid (parseF s = (0, (numP a, numP z))) := HP0.out HFI.out hv0 (fun _ => hze); obtain ⟨A, k', c', A', k'', c'', he, ⟨a1, u1⟩, ⟨a2, u2⟩, u3, u4, z1, z2, hr, hbz⟩ := ret_ratio (w0 := w) hrt hsl hgr hbw; simp only [Value.agg.injEq, Array.mk.injEq, List.cons.injEq, and_true, Value.slice.injEq] at he; obtain ⟨⟨rfl, rfl, rfl⟩, rfl, rfl, rfl⟩ := he; go_wp2_with fail; exact bodyPost_ret (v := .tuple #[.agg #[.slice A1 k1 c1, .slice A2 k2 c2], .int .i64 0]) (by simp [results, Tryz.results22, go_sem, z1, z2]) rfl ⟨_, by rw [HF.out], by rw [HF.out]; exact hr, hbz⟩
        ·have t5 : (validP (numP a, numP z) != 0) = true := by simpa using hv0
         have HF : Hid (parseF s = (1, nilP)) := HP1.out HFI.out (.inl hv0); obtain ⟨A, k', c', A', k'', c'', he, ⟨a1, u1⟩, ⟨a2, u2⟩, u3, u4, z1, z2, hr, hbz⟩ := ret_ratio (w0 := w) (nil_rtP wu) hsl hgr hbw; simp only [nilRat, Value.agg.injEq, Array.mk.injEq, List.cons.injEq, and_true, Value.slice.injEq] at he; obtain ⟨⟨rfl, rfl, rfl⟩, rfl, rfl, rfl⟩ := he; go_wp2_with fail; exact bodyPost_ret (v := .tuple #[.agg #[.slice none 0 0, .slice none 0 0], .int .i64 1]) (by simp [results, Tryz.results22, go_sem, z1, z2]) rfl ⟨_, by rw [HF.out], by rw [HF.out]; exact hr, hbz⟩
   ·have t2 : ((s[k].toNat : Int) != 47) = true := by simp; omega
    have HB2 : Hid (∀ (j : Nat) (hj : j < s.size), j < k + 1 → s[j].toNat ≠ 47) := by
     intro j hj hjk
     rcases Nat.lt_or_ge j k with h1 | h1
     ·exact HB.out j hj h1
     ·obtain rfl : j = k := by omega
      exact h47
    clear h47 HB; go_wp2_with fail
    go_roundg (gk - 1)
    case measure => omega
    case rel => exact ⟨k + 1, by go_num, by omega, HB2, rfl⟩
  ·obtain rfl : k = s.size := by omega
   have t1 : decide ((s.size : Int) < (s.size : Int)) = false := by simp
   have HI := Lib.hid (cut_none fun j hj => HB.out j hj hj); have HYY : Hid (cutY s = false) := by show _ = _; unfold cutY; rw [HI.out]; rfl
   have ea : s.extract 0 s.size = a := by
    rw [HA.out]; unfold cutA; rw [HI.out, if_neg (by omega)]; exact ByteArray.extract_zero_size
   have HZE : Hid (z = ⟨#[]⟩) := by show _ = _; rw [HZ.out, cutZ_no HYY.out]
   clear HB HI; go_wp2_with fail; refine (rrow_n a _ ha).mono ?_; rintro e w2 ⟨rfl, hb⟩; have hsl := hsl.below hb; have hbw := Below.tr hbw hb; clear hb
   cases hra : rowB a
   ·have HF : Hid (parseF s = (2, nilP)) := by
     show _ = _
     unfold parseF; rw [if_pos (.inl (by rw [← HA.out]; exact hra))]
    obtain ⟨A, k', c', A', k'', c'', he, ⟨a1, u1⟩, ⟨a2, u2⟩, u3, u4, z1, z2, hr, hbz⟩ := ret_ratio (w0 := w) (nil_rtP w2) hsl hgr hbw; simp only [nilRat, Value.agg.injEq, Array.mk.injEq, List.cons.injEq, and_true, Value.slice.injEq] at he; obtain ⟨⟨rfl, rfl, rfl⟩, rfl, rfl, rfl⟩ := he; go_wp2_with fail; exact bodyPost_ret (v := .tuple #[.agg #[.slice none 0 0, .slice none 0 0], .int .i64 2]) (by simp [results, Tryz.results22, go_sem, z1, z2]) rfl ⟨_, by rw [HF.out], by rw [HF.out]; exact hr, hbz⟩
   ·have HDA : Hid (∀ b ∈ a.data.toList, 48 ≤ b.toNat ∧ b.toNat ≤ 57) := row_digits hra
    have HN : Hid (¬ (rowB (cutA s) = false ∨ (cutY s = true ∧ rowB (cutZ s) = false))) := by
     show ¬ _
     rw [← HA.out, hra, HYY.out]; simp
    clear hra
    have HP4 : Hid (fitN a = false ∨ fitN z = false → parseF s = (4, nilP)) := fun h => by
     rw [HA.out, HZ.out] at h; unfold parseF; rw [if_neg HN.out, if_pos h]
    have HP1 : Hid (fitN a = true ∧ fitN z = true → (validP (numP a, numP z) ≠ 0 ∨ (cutY s = true ∧ numP z = [])) → parseF s = (1, nilP)) := fun h h2 => by
     rw [HA.out, HZ.out] at h h2; unfold parseF; rw [if_neg HN.out, if_neg (by rw [h.1, h.2]; simp), if_pos h2]
    have HP0 : Hid (fitN a = true ∧ fitN z = true → validP (numP a, numP z) = 0 → (cutY s = true → numP z ≠ []) → parseF s = (0, (numP a, numP z))) := fun h h2 h3 => by
     rw [HA.out, HZ.out] at h h2 ⊢; rw [HZ.out] at h3; unfold parseF; rw [if_neg HN.out, if_neg (by rw [h.1, h.2]; simp), if_neg (fun h4 => h4.elim (fun h5 => h5 h2) (fun h5 => h3 h5.1 h5.2))]
    clear HN; go_wp2_with fail; refine (rnumber_F a _ ha HDA).mono ?_; rintro e wn ⟨A1, k1, c1, rfl, hn1, hbn⟩; have hsl := hsl.below hbn; have hbw := Below.tr hbw hbn; have hbA := bA wn (.cells #[] 56); have hsl := hsl.below hbA; have hbw := Below.tr hbw hbA; have HN1 : Hid (fitN a = true → Nb (wn.alloc (.cells #[] 56)) A1 k1 c1 (numV a.data.toList)) := fun h => (hn1 h).below hbA
    clear hn1 hbn hbA
    cases hf1 : fitN a
    ·have HF : Hid (parseF s = (4, nilP)) := HP4.out (.inl hf1); obtain ⟨A, k', c', A', k'', c'', he, ⟨a1, u1⟩, ⟨a2, u2⟩, u3, u4, z1, z2, hr, hbz⟩ := ret_ratio (w0 := w) (nil_rtP _) hsl hgr hbw; simp only [nilRat, Value.agg.injEq, Array.mk.injEq, List.cons.injEq, and_true, Value.slice.injEq] at he; obtain ⟨⟨rfl, rfl, rfl⟩, rfl, rfl, rfl⟩ := he; go_wp2_with fail; exact bodyPost_ret (v := .tuple #[.agg #[.slice none 0 0, .slice none 0 0], .int .i64 4]) (by simp [results, Tryz.results22, go_sem, z1, z2]) rfl ⟨_, by rw [HF.out], by rw [HF.out]; exact hr, hbz⟩
    ·have hf2 : fitN z = true := by rw [HZE.out]; exact fit_nil
     have hA := HN1.out hf1; have HFI := Lib.hid (And.intro hf1 hf2); have hrt : RtP (wn.alloc (.cells #[] 56)) (.agg #[.slice A1 k1 c1, .slice (some ⟨wn.heap.size, 0, none⟩) 0 0]) (numP a, numP z) := ⟨_, _, _, _, _, _, rfl, hA.2, by rw [HZE.out, num_nil]; exact Lim.none0 rfl, hA.1, by rw [HZE.out, num_nil]; rfl⟩; obtain ⟨g0, Hg0⟩ : ∃ g, Hid (g = wn.heap.size) := ⟨_, rfl⟩; go_upto_region 8 with fail; refine wp_name ?_; intro wm HWM; rw [← HWM.out] at hrt hsl hbw; rw [← Hg0.out] at hrt ⊢; clear HN1 hA hf1 hf2 HWM Hg0; go_upto_region 15 with fail; refine wp_name ?_; intro wv HWV; have hb := bA wm (.cells #[.slice A1 k1 c1, .slice (some ⟨g0, 0, none⟩) 0 0] 29); rw [← HWV.out] at hb; have hBV : Blk wv wm.heap.size 29 #[.slice A1 k1 c1, .slice (some ⟨g0, 0, none⟩) 0 0] := by rw [HWV.out]; exact Blk.new _ _ _
     have hrt := hrt.below hb; have hsl := hsl.below hb; have hbw := Below.tr hbw hb; obtain ⟨gV, hgV⟩ : ∃ g, Hid (g = wm.heap.size) := ⟨_, rfl⟩; rw [← hgV.out] at hBV ⊢; have V0 := hBV.cell 0; have V1 := hBV.cell 1; simp only [List.getElem?_toArray, List.getElem?_cons_zero, List.getElem?_cons_succ] at V0 V1; clear HWV hBV hgV hb; go_wp2_with fail; refine (rvalid_P _ (numP a, numP z) _ hrt).mono ?_; rintro e wu ⟨rfl, hb⟩; have hrt := hrt.below hb; have hsl := hsl.below hb; have hbw := Below.tr hbw hb; have V0 := cell_keep hb V0; have V1 := cell_keep hb V1; clear hb; by_cases hv0 : validP (numP a, numP z) = 0
     ·have t5 : (validP (numP a, numP z) != 0) = false := by simpa using hv0
      have HF : Hid (parseF s = (0, (numP a, numP z))) := HP0.out HFI.out hv0 (fun e => by rw [HYY.out] at e; cases e); obtain ⟨A, k', c', A', k'', c'', he, ⟨a1, u1⟩, ⟨a2, u2⟩, u3, u4, z1, z2, hr, hbz⟩ := ret_ratio (w0 := w) hrt hsl hgr hbw; simp only [Value.agg.injEq, Array.mk.injEq, List.cons.injEq, and_true, Value.slice.injEq] at he; obtain ⟨⟨rfl, rfl, rfl⟩, rfl, rfl, rfl⟩ := he; go_wp2_with fail; exact bodyPost_ret (v := .tuple #[.agg #[.slice A1 k1 c1, .slice (some ⟨g0, 0, none⟩) 0 0], .int .i64 0]) (by simp [results, Tryz.results22, go_sem, z1, z2]) rfl ⟨_, by rw [HF.out], by rw [HF.out]; exact hr, hbz⟩
     ·have t5 : (validP (numP a, numP z) != 0) = true := by simpa using hv0
      have HF : Hid (parseF s = (1, nilP)) := HP1.out HFI.out (.inl hv0); obtain ⟨A, k', c', A', k'', c'', he, ⟨a1, u1⟩, ⟨a2, u2⟩, u3, u4, z1, z2, hr, hbz⟩ := ret_ratio (w0 := w) (nil_rtP wu) hsl hgr hbw; simp only [nilRat, Value.agg.injEq, Array.mk.injEq, List.cons.injEq, and_true, Value.slice.injEq] at he; obtain ⟨⟨rfl, rfl, rfl⟩, rfl, rfl, rfl⟩ := he; go_wp2_with fail; exact bodyPost_ret (v := .tuple #[.agg #[.slice none 0 0, .slice none 0 0], .int .i64 1]) (by simp [results, Tryz.results22, go_sem, z1, z2]) rfl ⟨_, by rw [HF.out], by rw [HF.out]; exact hr, hbz⟩
end Go.Proofs.YtmbfjmilhfmnkaaGreatDoor
