import Derived.Test.YtmbfjmilhfmnkaaGreatDoorKRdsProof24
import Derived.Test.YtmbfjmilhfmnkaaGreatDoorKRdsProof16
import Derived.Test.YtmbfjmilhfmnkaaGreatDoorKRdsProof17
import Derived.Test.YtmbfjmilhfmnkaaGreatDoorKRdsProof23
import Derived.Test.YtmbfjmilhfmnkaaGreatDoorS0
set_option linter.unusedVariables false
set_option linter.unusedSimpArgs false
namespace Go.Proofs.YtmbfjmilhfmnkaaGreatDoor
open Go Go.RowKit
theorem getN_fit {b : List Nat} : ∀ (n at_ : Nat) (acc : List Int), at_ ≤ b.length → (Wi.getN b n at_ acc).2.1 ≤ b.length
 | 0, _, _, h => h
 | n + 1, at_, acc, h => by
  unfold Wi.getN
  split
  ·exact Nat.zero_le _
  ·have h1 := (Wi.getI_used (b.drop at_)).1; rw [List.length_drop] at h1; exact getN_fit (b := b) n _ _ (by omega)
theorem getN_len {b : List Nat} : ∀ (n at_ : Nat) (acc : List Int), (Wi.getN b n at_ acc).1.length ≤ acc.length + n
 | 0, _, _ => Nat.le_refl _
 | n + 1, at_, acc => by
  unfold Wi.getN
  split
  ·exact Nat.zero_le _
  ·have := getN_len (b := b) n (at_ + (Wi.getI (b.drop at_)).2.1) (acc ++ [(Wi.getI (b.drop at_)).1]); rw [List.length_append, List.length_singleton] at this; omega
theorem By.mapB {B : Nat} {w w' : World} {A : Option Addr} {k c : Nat} {l : List Nat} (h : By w A k c l) (hb : Below B w w') (hB : w.heap.size ≤ B) : By w' A k c l := h.below (hb.mono hB)
/-- what GetInts says -/
def GiS (w w' : World) (v : Value) (l : List Nat) : Prop := ∃ s, v = .tuple #[s, .int .i64 ((Wi.getIs l).2.1 : Nat), .int .i64 (Wi.getIs l).2.2] ∧ OwnI w' w.heap.size s (Wi.getIs l).1
theorem getIs_bad {l : List Nat} (h : Wi.cntE l ≠ 0) : Wi.getIs l = ([], 0, Wi.cntE l) := if_pos h
theorem getIs_ok {l : List Nat} (h : Wi.cntE l = 0) : Wi.getIs l = Wi.getN l (Wi.getI l).1.toNat (Wi.getI l).2.1 [] := if_neg (by simp [h])
theorem cntE_fit {l : List Nat} (h : Wi.cntE l = 0) : (Wi.getI l).2.2 = 0 ∧ 0 ≤ (Wi.getI l).1 ∧ (Wi.getI l).1 ≤ l.length := by
 unfold Wi.cntE at h
 split at h
 ·rename_i h1; exact absurd h h1
 ·rename_i h1
  split at h
  ·cases h
  ·split at h
   ·cases h
   ·exact ⟨by simpa using h1, by omega, by omega⟩
set_option maxRecDepth 100000 in
set_option maxHeartbeats 8000000 in
theorem getints_n (A : Option Addr) (k c : Nat) (l : List Nat) (w : World) (h : By w A k c l) (hk : k ≤ 1073741823) :
  Calls Tryz.prog 29 #[.slice A k c] w fun e w' => ∃ v, e = .returned v ∧ GiS w w' v l ∧ Below w.heap.size w w' := by
 have hlen := h.len; have hkc := h.2.1; have hcm := h.2.2.1; obtain ⟨E, HE⟩ : ∃ E, Hid (E = Wi.cntE l) := ⟨_, rfl⟩; have HC := Lib.hid (cnt_n A k c l w h); rw [← HE.out] at HC; have HLEN := Lib.hid hlen; clear hlen
 go_enter Tryz.func29, Tryz.ntmps29
 go_wp2_with fail; refine HC.out.mono ?_; rintro e w1 ⟨n1, at1, rfl, HNA, hb1⟩; clear HC; by_cases hE : E = 0
 rotate_left
 ·have t1 : (E != 0) = true := by simpa using hE
  have HR := Lib.hid (getIs_bad (l := l) (by rw [← HE.out]; exact hE)); clear hE; go_wp2_with fail
  go_ret3
  exact ⟨_, rfl, ⟨_, by rw [HR.out, ← HE.out]; rfl, by rw [HR.out]; exact OwnI.nil _ _⟩, hb1⟩
 have t1 : (E != 0) = false := by simpa using hE
 have hc0 : Wi.cntE l = 0 := by rw [← HE.out]; exact hE
 obtain ⟨hg3, hg1, hgl⟩ := cntE_fit hc0; obtain ⟨e1, e2⟩ := HNA.out hE; have hu := Wi.getI_used l; obtain ⟨n, Hn⟩ : ∃ n, Hid (n = (Wi.getI l).1.toNat) := ⟨_, rfl⟩; obtain ⟨a0, Ha⟩ : ∃ n, Hid (n = (Wi.getI l).2.1) := ⟨_, rfl⟩; have en : n1 = (n : Int) := by rw [e1, Hn.out]; omega
 have ea : at1 = (a0 : Int) := by rw [e2, Ha.out]
 subst en ea; have HR := Lib.hid (getIs_ok hc0); rw [← Hn.out, ← Ha.out] at HR; have ha0 : a0 ≤ k := by rw [Ha.out]; have := HLEN.out; omega
 have hap : 0 < a0 := by rw [Ha.out]; exact hu.2.2 hg3
 have hnk : n ≤ k := by rw [Hn.out]; have := HLEN.out; omega
 obtain ⟨b0, o0, rfl⟩ := h.2.2.2.2 (by omega); have h1 := h.below hb1; clear e1 e2 hg3 hg1 hgl hu hc0 HNA HE hE

 go_wp2_with fail; refine (reader_n _ _ _ _ _).mono ?_; rintro e w2 ⟨rfl, hB1, hB2, hb2⟩; obtain ⟨g1, hg1⟩ : ∃ g, Hid (g = w1.heap.size) := ⟨_, rfl⟩; obtain ⟨g2, hg2⟩ : ∃ g, Hid (g = w1.heap.size + 1) := ⟨_, rfl⟩; rw [← hg2.out] at hB2 ⊢; rw [← hg1.out] at hB1 ⊢; have h2 := h1.below hb2; have hbw := Below.tr hb1 hb2; have hg12 : g1 ≠ g2 := by rw [hg1.out, hg2.out]; omega
 have hgw : w.heap.size ≤ g2 := by rw [hg2.out]; have := hb1.size; omega
 have hl1 := hB1.lt; have hl2 := hB2.lt; have h0 := h; clear hb1 hb2 hg1 hg2 h h1 h2; go_wp2_with fail
 go_loopg [6, 9, 26] n (fun j xa v x wr => ∃ (i a : Nat) (X : List Int), x = .int .i64 i ∧ i + j = n ∧ xa = .int .i64 (a : Nat) ∧ a ≤ k ∧ OwnI wr w2.heap.size v X ∧ Hid (X.length = i) ∧ Blk wr g1 23 #[.slice (some ⟨b0, o0, none⟩) k c] ∧ Blk wr g2 3 #[.int .i64 (a : Nat)] ∧ Hid (Wi.getIs l = Wi.getN l j a X) ∧ Below w.heap.size w wr ∧ w2.heap.size ≤ wr.heap.size)
 case atStart => exact ⟨0, a0, [], rfl, by omega, rfl, ha0, OwnI.nil _ _, rfl, hB1, hB2, HR.out, hbw, Nat.le_refl _⟩
 case round =>
  obtain ⟨i, a, X, rfl, hij, rfl, hak, hown, HX, hB1, hB2, HS, hbe, hsz⟩ := hrel; by_cases hi : i < n
  ·have t2 : decide ((i : Int) < (n : Int)) = true := by simp; omega
   have hin : (i : Int) < (n : Int) := by omega
   obtain ⟨j, rfl⟩ : ∃ j, gk = j + 1 := ⟨gk - 1, by omega⟩; have hr := h0.mapB hbe (Nat.le_refl _); obtain ⟨v1, v2, v3, hG, hv3, hv2, _, _, _⟩ := getI_fit (l.drop a); rw [List.length_drop] at hv2; have hav : a + v2 ≤ k := by have := HLEN.out; omega
   go_wp2_with fail; refine (next_n b0 o0 k c g1 g2 a l _ hr hak hB1 hB2 v1 v2 v3 hG hav).mono ?_; rintro e w3 ⟨rfl, hB2', hbg, hkeep⟩; have hB1' : Blk w3 g1 23 #[.slice (some ⟨b0, o0, none⟩) k c] := (hkeep g1 hB1.lt hg12).trans hB1; have hown' : OwnI w3 w2.heap.size _ X := ownsRow_keep hown fun g hg => hkeep g (ownsRow_lt hown g hg) (fun e => by have := hown.ge g hg; omega)
   have hbe' := hbe.trans (hbg.mono hgw); have hsz' := Nat.le_trans hsz hbg.size; obtain ⟨A9, c9, rfl⟩ := hown.shp; rw [HX.out] at hown hown' ⊢; by_cases h3 : v3 = 0
   ·subst h3; have HS2 : Hid (Wi.getIs l = Wi.getN l j (a + v2) (X ++ [v1])) := HS.out.trans (getN_ok hG); have hbA := bA w3 (.cells #[.int .i64 v1] 3); have hown2 := hown'.below hbA; have hrow := RowL.newI w3 v1; have hl9 : X.length + [v1].length ≤ 1073741824 := by rw [HX.out]; simp; omega
    have hbx := Below.tr hbe' hbA; have hsz2 := Nat.le_trans hsz' hbA.size; have hB1x := hB1'.below hbA hB1'.lt; have hB2x := hB2'.below hbA hB2'.lt; clear hown hown' hbA hbe' hbe hB1 hB2 hB1' hB2' hkeep hbg HS hr hv3
    go_wp2_with (at_builtin; go_loud (refine wpList_appI rfl (.tmp 37) (.tmp 39) rfl w2.heap.size _ X rfl hown2 (some ⟨w3.heap.size, 0, none⟩) 1 1 [v1] rfl hrow hl9 hsz2 ?_); intro v7 w7 hown7 hg7 _)
    have hB1z := hB1x.grown hg7 (fun q hq e => by have := hown2.ge q hq; omega); have hB2z := hB2x.grown hg7 (fun q hq e => by have := hown2.ge q hq; omega); have hbz := hbx.grown hg7 hbx.size (fun q hq => by have := hown2.ge q hq; omega); have hsz3 := Nat.le_trans hsz2 hg7.size; have HX7 : Hid ((X ++ [v1]).length = i + 1) := by show _ = _; rw [List.length_append, HX.out]; rfl
    clear hown2 hB1x hB2x hbx hg7; go_wp2_with fail
    go_roundg j
    case measure => omega
    case rel => exact ⟨i + 1, a + v2, _, by go_num, by omega, rfl, hav, hown7, HX7, hB1z, hB2z, HS2, hbz, hsz3⟩
   ·have t3 : (v3 != 0) = true := by simpa using h3
    have HR2 := Lib.hid (HS.out.trans (getN_err hG h3)); clear h3 hv3; go_wp2_with fail
    go_ret3
    exact ⟨_, rfl, ⟨_, by rw [HR2.out]; rfl, by rw [HR2.out]; exact OwnI.nil _ _⟩, hbe'⟩
  ·have t2 : decide ((i : Int) < (n : Int)) = false := by simp; omega
   have hin : ¬ (i : Int) < (n : Int) := by omega
   have hj0 : gk = 0 := by omega
   have HR2 := HS.out; rw [hj0, getN_zero] at HR2; have HR3 := Lib.hid HR2; obtain ⟨A9, c9, rfl⟩ := hown.shp; have hfin := Lib.hid (hown.mono hbw.size); rw [HX.out] at hfin hown ⊢; clear HR2 hj0 hown; go_wp2_with fail
   go_ret3
   exact ⟨_, rfl, ⟨_, by rw [HR3.out]; rfl, by rw [HR3.out]; exact hfin.out⟩, hbe⟩
set_option maxRecDepth 100000 in
set_option maxHeartbeats 8000000 in
theorem rgetints_n (A : Option Addr) (k c : Nat) (l : List Nat) (w : World) (h : By w A k c l) (hk : k ≤ 1073741823) :
  Calls Tryz.prog 31 #[.slice A k c] w fun e w' => ∃ v, e = .returned v ∧ GiS w w' v l ∧ Below w.heap.size w w' := by
 have hlen := h.len; have hkc := h.2.1; have hcm := h.2.2.1; obtain ⟨E, HE⟩ : ∃ E, Hid (E = Wi.cntE l) := ⟨_, rfl⟩; have HC := Lib.hid (rcnt_n A k c l w h); rw [← HE.out] at HC; have HLEN := Lib.hid hlen; clear hlen
 go_enter Tryz.func31, Tryz.ntmps31
 go_wp2_with fail; refine HC.out.mono ?_; rintro e w1 ⟨n1, at1, rfl, HNA, hb1⟩; clear HC; by_cases hE : E = 0
 rotate_left
 ·have t1 : (E != 0) = true := by simpa using hE
  have HR := Lib.hid (getIs_bad (l := l) (by rw [← HE.out]; exact hE)); clear hE; go_wp2_with fail
  go_ret3
  exact ⟨_, rfl, ⟨_, by rw [HR.out, ← HE.out]; rfl, by rw [HR.out]; exact OwnI.nil _ _⟩, hb1⟩
 have t1 : (E != 0) = false := by simpa using hE
 have hc0 : Wi.cntE l = 0 := by rw [← HE.out]; exact hE
 obtain ⟨hg3, hg1, hgl⟩ := cntE_fit hc0; obtain ⟨e1, e2⟩ := HNA.out hE; have hu := Wi.getI_used l; obtain ⟨n, Hn⟩ : ∃ n, Hid (n = (Wi.getI l).1.toNat) := ⟨_, rfl⟩; obtain ⟨a0, Ha⟩ : ∃ n, Hid (n = (Wi.getI l).2.1) := ⟨_, rfl⟩; have en : n1 = (n : Int) := by rw [e1, Hn.out]; omega
 have ea : at1 = (a0 : Int) := by rw [e2, Ha.out]
 subst en ea; have HR := Lib.hid (getIs_ok hc0); rw [← Hn.out, ← Ha.out] at HR; have ha0 : a0 ≤ k := by rw [Ha.out]; have := HLEN.out; omega
 have hap : 0 < a0 := by rw [Ha.out]; exact hu.2.2 hg3
 have hnk : n ≤ k := by rw [Hn.out]; have := HLEN.out; omega
 obtain ⟨b0, o0, rfl⟩ := h.2.2.2.2 (by omega); have h1 := h.below hb1; clear e1 e2 hg3 hg1 hgl hu hc0 HNA HE hE

 have h0 := h; clear h h1; go_wp2_with fail
 go_loopg [6, 8, 9] n (fun j xa v x wr => ∃ (i a : Nat) (X : List Int), x = .int .i64 i ∧ i + j = n ∧ xa = .int .i64 (a : Nat) ∧ a ≤ k ∧ OwnI wr w.heap.size v X ∧ Hid (X.length = i) ∧ Hid (Wi.getIs l = Wi.getN l j a X) ∧ Below w.heap.size w wr)
 case atStart => exact ⟨0, a0, [], rfl, by omega, rfl, ha0, OwnI.nil _ _, rfl, HR.out, hb1⟩
 case round =>
  obtain ⟨i, a, X, rfl, hij, rfl, hak, hown, HX, HS, hbe⟩ := hrel; by_cases hi : i < n
  ·have t2 : decide ((i : Int) < (n : Int)) = true := by simp; omega
   have hin : (i : Int) < (n : Int) := by omega
   obtain ⟨j, rfl⟩ : ∃ j, gk = j + 1 := ⟨gk - 1, by omega⟩; have hr := h0.mapB hbe (Nat.le_refl _); obtain ⟨v1, v2, v3, hG, hv3, hv2, _, _, _⟩ := getI_fit (l.drop a); rw [List.length_drop] at hv2; have hav : a + v2 ≤ k := by have := HLEN.out; omega
   have HG := Lib.hid hG; by_cases hac : c = a
   ·have hcase : k = a := by omega
    have hd0 : l.drop a = [] := List.drop_eq_nil_of_le (by have := HLEN.out; omega); have hE : By wr (some ⟨b0, o0, none⟩) 0 0 (l.drop a) := by rw [hd0]; exact By.empty
    have hv30 : v3 ≠ 0 := by rw [hd0] at hG; intro e; rw [e] at hG; cases hG
    have t3 : (v3 != 0) = true := by simpa using hv30
    have HR2 := Lib.hid (HS.out.trans (getN_err hG hv30)); clear hv30 hd0 hG hv3; obtain rfl := hcase; obtain rfl := hac; go_wp2_with fail
    all_goals
     refine (rgetint_n _ _ _ _ _ hE).mono ?_; rw [giV_eq HG.out]; rintro e w3 ⟨rfl, hb3⟩; have hbe' := Below.tr hbe hb3; go_wp2_with fail
     go_ret3
     exact ⟨_, rfl, ⟨_, by rw [HR2.out]; rfl, by rw [HR2.out]; exact OwnI.nil _ _⟩, hbe'⟩
   have hac1 : ¬ c - a = 0 := by omega
   have hac2 : (c == a) = false := by simpa using hac
   have hE := hr.from a hak
   go_wp2_with fail; refine (rgetint_n _ _ _ (l.drop a) _ hE).mono ?_; rw [giV_eq HG.out]; rintro e w3 ⟨rfl, hb3⟩; have hown' := hown.below hb3; have hbe' := Below.tr hbe hb3; obtain ⟨A9, c9, rfl⟩ := hown.shp; rw [HX.out] at hown hown' ⊢; by_cases h3 : v3 = 0
   ·subst h3; have HS2 : Hid (Wi.getIs l = Wi.getN l j (a + v2) (X ++ [v1])) := HS.out.trans (getN_ok HG.out); have hbA := bA w3 (.cells #[.int .i64 v1] 3); have hown2 := hown'.below hbA; have hrow := RowL.newI w3 v1; have hl9 : X.length + [v1].length ≤ 1073741824 := by rw [HX.out]; simp; omega
    have hbx := Below.tr hbe' hbA; have hsz2 := hbx.size; obtain ⟨z, Hz⟩ : ∃ z, Hid (z = a + v2) := ⟨_, rfl⟩; have tz : (a : Int) + (v2 : Int) = (z : Int) := by rw [Hz.out]; rfl
    have hzk : z ≤ k := by rw [Hz.out]; exact hav
    rw [← Hz.out] at HS2; clear hown hown' hbA hbe' hbe HS hr hv3
    go_wp2_with (at_builtin; go_loud (refine wpList_appI rfl (.tmp 38) (.tmp 40) rfl w.heap.size _ X rfl hown2 (some ⟨w3.heap.size, 0, none⟩) 1 1 [v1] rfl hrow hl9 hsz2 ?_); intro v7 w7 hown7 hg7 _)
    have hbz := hbx.grown hg7 hbx.size (fun q hq => hown2.ge q hq); have HX7 : Hid ((X ++ [v1]).length = i + 1) := by show _ = _; rw [List.length_append, HX.out]; rfl
    clear hown2 hbx hg7; go_wp2_with fail
    go_roundg j
    case measure => omega
    case rel => exact ⟨i + 1, z, _, by go_num, by omega, rfl, hzk, hown7, HX7, HS2, hbz⟩
   ·have t3 : (v3 != 0) = true := by simpa using h3
    have HR2 := Lib.hid (HS.out.trans (getN_err HG.out h3)); clear h3 hv3; go_wp2_with fail
    go_ret3
    exact ⟨_, rfl, ⟨_, by rw [HR2.out]; rfl, by rw [HR2.out]; exact OwnI.nil _ _⟩, hbe'⟩
  ·have t2 : decide ((i : Int) < (n : Int)) = false := by simp; omega
   have hin : ¬ (i : Int) < (n : Int) := by omega
   have hj0 : gk = 0 := by omega
   have HR2 := HS.out; rw [hj0, getN_zero] at HR2; have HR3 := Lib.hid HR2; obtain ⟨A9, c9, rfl⟩ := hown.shp; have hfin := Lib.hid hown; rw [HX.out] at hfin hown ⊢; clear HR2 hj0 hown; go_wp2_with fail
   go_ret3
   exact ⟨_, rfl, ⟨_, by rw [HR3.out]; rfl, by rw [HR3.out]; exact hfin.out⟩, hbe⟩
end Go.Proofs.YtmbfjmilhfmnkaaGreatDoor
namespace Go.Proofs.YtmbfjmilhfmnkaaGreatDoor
open Go Go.RowKit
theorem mny_row (W : World) (g j : Nat) (h : Blk W g 3 #[.int .i64 0, .int .i64 1, .int .i64 2, .int .i64 3, .int .i64 31, .int .i64 32, .int .i64 33, .int .i64 63, .int .i64 64, .int .i64 65, .int .i64 66]) (hj : j < 11) : ∃ z : Nat, W.cell? ⟨g, j, none⟩ = some (.int .i64 z) ∧ z ≤ 66 := by
 have hc := h.cell j; rw [hc]; have : j = 0 ∨ j = 1 ∨ j = 2 ∨ j = 3 ∨ j = 4 ∨ j = 5 ∨ j = 6 ∨ j = 7 ∨ j = 8 ∨ j = 9 ∨ j = 10 := by omega
 rcases this with rfl | rfl | rfl | rfl | rfl | rfl | rfl | rfl | rfl | rfl | rfl
 ·exact ⟨0, rfl, by omega⟩
 ·exact ⟨1, rfl, by omega⟩
 ·exact ⟨2, rfl, by omega⟩
 ·exact ⟨3, rfl, by omega⟩
 ·exact ⟨31, rfl, by omega⟩
 ·exact ⟨32, rfl, by omega⟩
 ·exact ⟨33, rfl, by omega⟩
 ·exact ⟨63, rfl, by omega⟩
 ·exact ⟨64, rfl, by omega⟩
 ·exact ⟨65, rfl, by omega⟩
 ·exact ⟨66, rfl, by omega⟩
theorem mny_lim (y n : Nat) (hj : y < 6) (hn : n < 4294967296) : ∃ z : Nat, (#[.int .u32 1, .int .u32 0, .int .u32 4294967295, .int .u32 2147483648, .int .u32 7, .int .u32 (n : Int)] : Array Value)[y]'(by simpa using hj) = .int .u32 z ∧ z < 4294967296 := by
 have : y = 0 ∨ y = 1 ∨ y = 2 ∨ y = 3 ∨ y = 4 ∨ y = 5 := by omega
 rcases this with rfl | rfl | rfl | rfl | rfl | rfl
 ·exact ⟨1, rfl, by omega⟩
 ·exact ⟨0, rfl, by omega⟩
 ·exact ⟨4294967295, rfl, by omega⟩
 ·exact ⟨2147483648, rfl, by omega⟩
 ·exact ⟨7, rfl, by omega⟩
 ·exact ⟨n, rfl, hn⟩
theorem mny_prod (e d : Nat) (he : e < 2) (hd : d < 6) : ∃ f : Nat, (e : Int) * (d : Int) = (f : Int) ∧ f < 6 := by
 refine ⟨e * d, by simp, ?_⟩; have : e = 0 ∨ e = 1 := by omega
 rcases this with rfl | rfl <;> omega
set_option maxRecDepth 10000 in
set_option maxHeartbeats 2000000 in
theorem many_n (n : Nat) (w : World) (hn : n < 1073741824) :
  Calls Tryz.prog 53 #[.int .i64 n] w fun e w' => ∃ A k c x, e = .returned (.slice A k c) ∧ Nb w' A k c x ∧ k ≤ 66 ∧ Below w.heap.size w w' := by
 obtain ⟨i0, hi0, hz0, hz1, hz2⟩ := info_parts u32_info
 go_enter Tryz.func53, Tryz.ntmps53
 go_wp2_with fail; refine (around_n (n : Int) 11 _ (by omega) (by omega) (by omega) (by omega)).mono ?_; rintro e w' ⟨j, rfl, hj, _, rfl⟩; obtain ⟨W, HW⟩ : ∃ W, Hid (W = w.alloc (.cells #[.int .i64 0, .int .i64 1, .int .i64 2, .int .i64 3, .int .i64 31, .int .i64 32, .int .i64 33, .int .i64 63, .int .i64 64, .int .i64 65, .int .i64 66] 3)) := ⟨_, rfl⟩; have hbw : Below w.heap.size w W := by rw [HW.out]; exact bA _ _
 obtain ⟨z, hz, hz66⟩ := mny_row W w.heap.size j (by rw [HW.out]; exact Blk.new _ _ _) hj; rw [← HW.out]; clear HW; obtain ⟨a, ha⟩ : ∃ a : Nat, a = n / 11 := ⟨_, rfl⟩; have s1 : (n : Int).tdiv 11 = (a : Int) := by rw [ha]; rfl
 have l1 : a < 1073741824 := by omega
 obtain ⟨b, hb⟩ : ∃ b : Nat, b = a % 6 := ⟨_, rfl⟩; have s2 : (a : Int).tmod 6 = (b : Int) := by rw [hb]; rfl
 have l2 : b < 6 := by omega
 obtain ⟨c, hc⟩ : ∃ c : Nat, c = n / 66 := ⟨_, rfl⟩; have s3 : (n : Int).tdiv 66 = (c : Int) := by rw [hc]; rfl
 have l3 : c < 1073741824 := by omega
 obtain ⟨d, hd⟩ : ∃ d : Nat, d = c % 6 := ⟨_, rfl⟩; have s4 : (c : Int).tmod 6 = (d : Int) := by rw [hd]; rfl
 have l4 : d < 6 := by omega
 clear ha hb hc hd; go_wp2_with fail
 go_loopg [4, 5] z (fun j u x wr => ∃ (i : Nat) (A : Option Addr) (k : Nat) (l : List Nat), u = .slice A i k ∧ x = .int .i64 i ∧ i + j = z ∧ Own wr w.heap.size A i k l ∧ Below w.heap.size w wr)
 case atStart => exact ⟨0, none, 0, [], rfl, rfl, by omega, ⟨World.ownsRow_nil _ _ _ _, fun x hx => absurd hx List.not_mem_nil⟩, hbw⟩
 case round =>
  obtain ⟨G, hG⟩ : ∃ G, G = gk := ⟨gk, rfl⟩; subst hG; obtain ⟨i, A, k, l, rfl, rfl, hij, hown, hbe⟩ := hrel; by_cases hi : i < z
  ·have t1 : decide ((i : Int) < (z : Int)) = true := by simp; omega
   obtain ⟨e, he⟩ : ∃ e : Nat, e = i % 2 := ⟨_, rfl⟩; have s5 : (i : Int).tmod 2 = (e : Int) := by rw [he]; rfl
   have l5 : e < 2 := by omega
   obtain ⟨f, s6, l6⟩ := mny_prod e d l5 l4; obtain ⟨y, hy⟩ : ∃ y : Nat, y = (b + 6 + f + 6) % 6 := ⟨_, rfl⟩; have s7 : ((b : Int) + 6 + (f : Int) + 6).tmod 6 = (y : Int) := by rw [hy]; rfl
   have l7 : y < 6 := by omega
   have q0 : (n : Int) % 4294967296 = (n : Int) := by omega
   obtain ⟨v, hv, lv⟩ := mny_lim y n l7 (by omega); have hdig : Lim ((wr.alloc (.cells #[.int .u32 1, .int .u32 0, .int .u32 4294967295, .int .u32 2147483648, .int .u32 7, .int .u32 (n : Int)] 56)).alloc (.cells #[.int .u32 (v : Int)] 56)) (some ⟨wr.heap.size + 1, 0, none⟩) 1 [v] := Lim.digit _ _ v (by simp) lv; have hba : Below wr.heap.size wr ((wr.alloc (.cells #[.int .u32 1, .int .u32 0, .int .u32 4294967295, .int .u32 2147483648, .int .u32 7, .int .u32 (n : Int)] 56)).alloc (.cells #[.int .u32 (v : Int)] 56)) := Below.tr (bA _ _) (bA _ _); have hown2 := hown.below hba; have hbe2 := Below.tr hbe hba; have hs2 := hbe2.size; clear hy he hown hbe hba
   go_wp2_with (at_builtin; refine wpList_append_any _ rfl (.tmp 16) (.tmp 35) _ rfl w.heap.size 56 i0 _ 1 4 Tryz.underlying27 hi0 hz0 hz1 hz2 rfl (by omega) (.slice A i k) i (u32s l) rfl hown2.1 (some ⟨wr.heap.size + 1, 0, none⟩) 1 1 (u32s [v]) rfl rfl hdig.1 (u32s_one _) (by simp only [maxLen]; omega) (by omega) hs2 ?_; intro v1 w2 hown1 hg1 hat1; obtain ⟨An, cn, hv, hon⟩ := own_app hown1 hown2.2 hdig.limb; subst hv)
   go_roundg (G - 1)
   case measure => omega
   case rel => exact ⟨i + 1, An, cn, _, rfl, rfl, by omega, hon, hown2.grown2 hbe2 (Nat.le_refl _) hs2 hg1⟩
  ·have t1 : decide ((i : Int) < (z : Int)) = false := by simp; omega
   have HL := Lib.hid hown.len; go_wp2_with fail; refine (rtrim_own A k i l _ hown.lim HL.out (by omega)).mono ?_; rintro e w' ⟨A', c', k', rfl, hk, ho, hb⟩; go_wp2_with fail; go_ret; obtain ⟨e1, e2, _⟩ := own_lim2 ho.out (Nm.lim_lb _); exact ⟨_, _, _, _, rfl, ⟨e1, e2⟩, by omega, Below.tr hbe hb⟩
end Go.Proofs.YtmbfjmilhfmnkaaGreatDoor
namespace Go.Proofs.YtmbfjmilhfmnkaaGreatDoor
open Go Go.RowKit
theorem lb_pos {x : Nat} (h : (Nm.lb x).length ≠ 0) : 0 < x := by
 rcases Nat.eq_zero_or_pos x with rfl | h0
 ·exact absurd (by rw [Nm.lb_zero]; rfl) h
 ·exact h0
theorem rat_keep {w : World} {g : Nat} {A A' : Option Addr} {k c k' c' p q : Nat} (hres : Res w g) (h : Rat w (.agg #[.slice A k c, .slice A' k' c']) p q) :
  Rat ((w.setCell ⟨g, 0, none⟩ (.slice A k c)).setCell ⟨g, 1, none⟩ (.slice A' k' c')) (.agg #[.slice A k c, .slice A' k' c']) p q := h.map (hres.sl.keep2 A A' k c k' c')
theorem RedP.good0 {w : World} {v : Value} {n d : Nat} (h : RedP w v 0 n d) (hd : 0 < d) : ∃ p q, Rat w v p q ∧ Nm.Good p q := by
 rcases h with ⟨hf, _, hr⟩ | ⟨_, h, _⟩
 ·exact ⟨_, _, hr, good_red hd hf⟩
 ·cases h
set_option maxRecDepth 10000 in
set_option maxHeartbeats 2000000 in
theorem large_n (n d : Int) (w : World) (h1 : isI64 n) (h2 : isI64 d) :
  Calls Tryz.prog 24 #[.int .i64 n, .int .i64 d] w fun e w' => ∃ v p q, e = .returned v ∧ Rat w' v p q ∧ Nm.Good p q ∧ Below w.heap.size w w' := by
 have hn := Lib.hid h1; have hd := Lib.hid h2; clear h1 h2
 go_enter Tryz.func24, Tryz.ntmps24
 go_wp2_with fail; refine (around_n d 1073741824 _ hd.out.1 hd.out.2 (by omega) (by omega)).mono ?_; rintro e w' ⟨j, rfl, hj, _, rfl⟩; go_wp2_with fail; refine (many_n j _ hj).mono ?_; rintro e w1 ⟨A2, k2, c2, x2, rfl, hx2, hk2, hb1⟩; have hres := Res.below (Res.new w) hb1; have hbw := Below.tr (bA w _) hb1; clear hb1; by_cases hk : k2 = 0
 ·have t1 : decide ((k2 : Int) = 0) = true := by simp; omega
  subst hk; go_upto_region 4 with fail; refine wp_name ?_; intro wy HW; have hby : Below w1.heap.size w1 wy := by rw [HW.out]; exact bA _ _
  have hx2 : Nb wy (some ⟨w1.heap.size, 0, none⟩) 1 1 1 := by rw [HW.out]; exact Nb.digit w1 _ 1 rfl (by omega) (by omega)
  replace hres := hres.below hby
  replace hbw := Below.tr hbw hby
  clear HW hby; go_wp2_with fail; refine (around_n n 1073741824 _ hn.out.1 hn.out.2 (by omega) (by omega)).mono ?_; rintro e w' ⟨i, rfl, hi, _, rfl⟩; go_wp2_with fail; refine (many_n i _ hi).mono ?_; rintro e w2 ⟨A1, k1, c1, x1, rfl, hx1, hk1, hb2⟩
  replace hx2 := hx2.below hb2
  replace hres := hres.below hb2
  replace hbw := Below.tr hbw hb2
  clear hb2; go_wp2_with fail; refine (rreduced_n _ _ _ _ _ _ x1 1 _ hx1 hx2 (by omega) (by omega) (by omega)).mono ?_; rintro e w3 ⟨v, er, rfl, hR, hb3⟩
  replace hres := hres.below hb3
  replace hbw := Below.tr hbw hb3
  clear hb3; obtain ⟨B1, m1, e1, B2, m2, e2, rfl⟩ := hR.shape; have he : er = 0 ∨ er = 4 := by rcases hR with ⟨_, h, _⟩ | ⟨_, h, _⟩ <;> omega
  have HR := Lib.hid hR; clear hR; go_upto_region 5 with fail; refine wp_name ?_; intro w4 HW; have hb4 : Below w3.heap.size w3 w4 := by rw [HW.out]; exact bA _ _
  have hB : Blk w4 w3.heap.size 29 #[.slice B1 m1 e1, .slice B2 m2 e2] := by rw [HW.out]; exact Blk.new _ _ _
  replace hres := hres.below hb4
  replace hbw := Below.tr hbw hb4
  rcases he with rfl | rfl
  ·obtain ⟨p, q, hr, hg⟩ := HR.out.good0 (by omega)
   replace hr := hr.below hb4
   have b0 := hB.cell 0; have b1 := hB.cell 1; simp only [List.getElem?_toArray, List.getElem?_cons_zero, List.getElem?_cons_succ] at b0 b1; obtain ⟨r1, r2, r3, r4⟩ := hres.facts; obtain ⟨s1, s2⟩ := hres.set2 (.slice B1 m1 e1) (.slice B2 m2 e2); have hfin := rat_keep hres hr; clear HW HR hB hb4 hx1 hx2 hr; go_wp2_with fail; exact bodyPost_ret (v := .agg #[.slice B1 m1 e1, .slice B2 m2 e2]) (by simp [results, Tryz.results24, go_sem, s1, s2]) rfl ⟨_, _, _, rfl, hfin, hg, below_set2 hbw (Nat.le_refl _) _ _⟩
  ·clear HW HR hB hb4 hx1 hx2; go_wp2_with fail; refine (rmade_n n d _ hn.out.1 hn.out.2 hd.out.1 hd.out.2).mono ?_; rintro e w5 ⟨v, p, q, rfl, hr, hg, hb5⟩; obtain ⟨C1, n1, f1, C2, n2, f2, rfl⟩ := hr.shape
   replace hres := hres.below hb5
   replace hbw := Below.tr hbw hb5
   clear hb5; obtain ⟨r1, r2, r3, r4⟩ := hres.facts; obtain ⟨s1, s2⟩ := hres.set2 (.slice C1 n1 f1) (.slice C2 n2 f2); have hfin := rat_keep hres hr; clear hr; go_wp2_with fail; exact bodyPost_ret (v := .agg #[.slice C1 n1 f1, .slice C2 n2 f2]) (by simp [results, Tryz.results24, go_sem, s1, s2]) rfl ⟨_, _, _, rfl, hfin, hg, below_set2 hbw (Nat.le_refl _) _ _⟩
 ·have t1 : decide ((k2 : Int) = 0) = false := by simp; omega
  have hp : 0 < x2 := lb_pos (by have := hx2.1; omega); go_upto_region 4 with fail; go_wp2_with fail; refine (around_n n 1073741824 _ hn.out.1 hn.out.2 (by omega) (by omega)).mono ?_; rintro e w' ⟨i, rfl, hi, _, rfl⟩; go_wp2_with fail; refine (many_n i _ hi).mono ?_; rintro e w2 ⟨A1, k1, c1, x1, rfl, hx1, hk1, hb2⟩
  replace hx2 := hx2.below hb2
  replace hres := hres.below hb2
  replace hbw := Below.tr hbw hb2
  clear hb2; go_wp2_with fail; refine (rreduced_n _ _ _ _ _ _ x1 x2 _ hx1 hx2 (by omega) (by omega) hp).mono ?_; rintro e w3 ⟨v, er, rfl, hR, hb3⟩
  replace hres := hres.below hb3
  replace hbw := Below.tr hbw hb3
  clear hb3; obtain ⟨B1, m1, e1, B2, m2, e2, rfl⟩ := hR.shape; have he : er = 0 ∨ er = 4 := by rcases hR with ⟨_, h, _⟩ | ⟨_, h, _⟩ <;> omega
  have HR := Lib.hid hR; clear hR; go_upto_region 5 with fail; refine wp_name ?_; intro w4 HW; have hb4 : Below w3.heap.size w3 w4 := by rw [HW.out]; exact bA _ _
  have hB : Blk w4 w3.heap.size 29 #[.slice B1 m1 e1, .slice B2 m2 e2] := by rw [HW.out]; exact Blk.new _ _ _
  replace hres := hres.below hb4
  replace hbw := Below.tr hbw hb4
  rcases he with rfl | rfl
  ·obtain ⟨p, q, hr, hg⟩ := HR.out.good0 hp
   replace hr := hr.below hb4
   have b0 := hB.cell 0; have b1 := hB.cell 1; simp only [List.getElem?_toArray, List.getElem?_cons_zero, List.getElem?_cons_succ] at b0 b1; obtain ⟨r1, r2, r3, r4⟩ := hres.facts; obtain ⟨s1, s2⟩ := hres.set2 (.slice B1 m1 e1) (.slice B2 m2 e2); have hfin := rat_keep hres hr; clear HW HR hB hb4 hx1 hx2 hr; go_wp2_with fail; exact bodyPost_ret (v := .agg #[.slice B1 m1 e1, .slice B2 m2 e2]) (by simp [results, Tryz.results24, go_sem, s1, s2]) rfl ⟨_, _, _, rfl, hfin, hg, below_set2 hbw (Nat.le_refl _) _ _⟩
  ·clear HW HR hB hb4 hx1 hx2; go_wp2_with fail; refine (rmade_n n d _ hn.out.1 hn.out.2 hd.out.1 hd.out.2).mono ?_; rintro e w5 ⟨v, p, q, rfl, hr, hg, hb5⟩; obtain ⟨C1, n1, f1, C2, n2, f2, rfl⟩ := hr.shape
   replace hres := hres.below hb5
   replace hbw := Below.tr hbw hb5
   clear hb5; obtain ⟨r1, r2, r3, r4⟩ := hres.facts; obtain ⟨s1, s2⟩ := hres.set2 (.slice C1 n1 f1) (.slice C2 n2 f2); have hfin := rat_keep hres hr; clear hr; go_wp2_with fail; exact bodyPost_ret (v := .agg #[.slice C1 n1 f1, .slice C2 n2 f2]) (by simp [results, Tryz.results24, go_sem, s1, s2]) rfl ⟨_, _, _, rfl, hfin, hg, below_set2 hbw (Nat.le_refl _) _ _⟩
end Go.Proofs.YtmbfjmilhfmnkaaGreatDoor
namespace Go.Proofs.YtmbfjmilhfmnkaaGreatDoor
open Go Go.RowKit
def AllRt (w : World) : List (Value × Value) → List LP → Prop
 | [], [] => True
 | p :: ps, x :: xs => RtP w (.agg #[p.1, p.2]) x ∧ AllRt w ps xs
 | _, _ => False
theorem AllRt.len {w : World} : ∀ {ps : List (Value × Value)} {xs : List LP}, AllRt w ps xs → ps.length = xs.length
 | [], [], _ => rfl
 | p :: ps, x :: xs, h => by rw [List.length_cons, List.length_cons, AllRt.len h.2]
 | [], x :: xs, h => absurd h (by simp [AllRt])
 | p :: ps, [], h => absurd h (by simp [AllRt])
theorem AllRt.get {w : World} : ∀ {ps : List (Value × Value)} {xs : List LP}, AllRt w ps xs → ∀ (i : Nat) p x, ps[i]? = some p → xs[i]? = some x → RtP w (.agg #[p.1, p.2]) x
 | [], [], _, i, p, x, h1, _ => by simp at h1
 | q :: ps, y :: xs, h, i, p, x, h1, h2 => by
  rcases i with _ | i
  ·simp only [List.getElem?_cons_zero, Option.some.injEq] at h1 h2; subst h1 h2; exact h.1
  ·simp only [List.getElem?_cons_succ] at h1 h2; exact AllRt.get h.2 i p x h1 h2
 | [], x :: xs, h, _, _, _, _, _ => absurd h (by simp [AllRt])
 | p :: ps, [], h, _, _, _, _, _ => absurd h (by simp [AllRt])
theorem ratRow_new {w : World} (T : TypeId) (ps : List (Value × Value)) (X : List LP) (h : AllRt w ps X) (hk : ps.length ≤ 1048576) : RatRow (w.alloc (.cells (ps.flatMap prC).toArray T)) (some ⟨w.heap.size, 0, none⟩) ps.length X :=
 ⟨ps, ⟨Rd.newC _ _ _, rfl, by omega⟩, h.len, fun i p x e1 e2 => (h.get i p x e1 e2).below (bA _ _)⟩
theorem fill_r7 (P0 Q0 P1 Q1 P2 Q2 P3 Q3 P4 Q4 P5 Q5 P6 Q6 : Option Addr) (p0 s0 q0 t0 p1 s1 q1 t1 p2 s2 q2 t2 p3 s3 q3 t3 p4 s4 q4 t4 p5 s5 q5 t5 p6 s6 q6 t6 : Nat) : Instr.fill (fun i => some (i * 2, 2)) ((Array.range (7 * 2)).map (nilRat.cells[· % nilRat.cells.size]!)) [(0, .agg #[.slice P0 p0 s0, .slice Q0 q0 t0]), (1, .agg #[.slice P1 p1 s1, .slice Q1 q1 t1]), (2, .agg #[.slice P2 p2 s2, .slice Q2 q2 t2]), (3, .agg #[.slice P3 p3 s3, .slice Q3 q3 t3]), (4, .agg #[.slice P4 p4 s4, .slice Q4 q4 t4]), (5, .agg #[.slice P5 p5 s5, .slice Q5 q5 t5]), (6, .agg #[.slice P6 p6 s6, .slice Q6 q6 t6])] = some #[.slice P0 p0 s0, .slice Q0 q0 t0, .slice P1 p1 s1, .slice Q1 q1 t1, .slice P2 p2 s2, .slice Q2 q2 t2, .slice P3 p3 s3, .slice Q3 q3 t3, .slice P4 p4 s4, .slice Q4 q4 t4, .slice P5 p5 s5, .slice Q5 q5 t5, .slice P6 p6 s6, .slice Q6 q6 t6] := by kernel_rfl
theorem rpart_X (n d : Int) (w : World) (h1 : isI64 n) (h2 : isI64 d) : Calls Tryz.prog 25 #[.int .i64 n, .int .i64 d] w fun e w' => ∃ v, e = .returned v ∧ (∃ x, RtP w' v x) ∧ Below w.heap.size w w' := by
 refine (rpart_n n d w h1.1 h1.2 h2.1 h2.2).mono ?_; rintro e w' ⟨v, p, q, rfl, h, _, _, _, hb⟩; exact ⟨v, rfl, ⟨_, h.rtP⟩, hb⟩
theorem rspoilt_X (va : Value) (p q : Nat) (how by_ : Int) (w : World) (ha : Rat w va p q) (ga : Nm.Good p q) (h1 : isI64 how) (h2 : isI64 by_) : Calls Tryz.prog 26 #[va, .int .i64 how, .int .i64 by_] w fun e w' => ∃ v, e = .returned v ∧ (∃ x, RtP w' v x) ∧ Below w.heap.size w w' := by
 refine (spoilt_n va p q how by_ w ha ga h1.1 h1.2 h2.1 h2.2).mono ?_; rintro e w' ⟨v, m1, m2, rfl, h, _, _, hb⟩; exact ⟨v, rfl, ⟨(m1, m2), h⟩, hb⟩
theorem raw_rt {w : World} {A A' : Option Addr} {c c' m m' : Nat} {l l' : List Nat} (h : Lim w A c l) (h' : Lim w A' c' l') (hm : m = min l.length 70) (hm' : m' = min l'.length 70) : RtP w (.agg #[.slice A m c, .slice A' m' c']) (l.take m, l'.take m') :=
 ⟨_, _, _, _, _, _, rfl, h.take_ m (by omega), h'.take_ m' (by omega), by rw [List.length_take]; omega, by rw [List.length_take]; omega⟩
def PhiSo (a1 a2 b1 b2 : Value) (n m how by_ : Int) (A4 A5 : Option Addr) (k4 c4 m4 k5 c5 m5 : Nat) (j : Nat) (w : World) (x : Value) : Prop :=
 match j with
 | 0 => x = .agg #[a1, a2]
 | 1 => x = .int .i64 n
 | 2 => x = .int .i64 m
 | 3 => ∃ X, RtP w x X
 | 4 => x = .agg #[b1, b2]
 | 5 => x = .agg #[a1, a2]
 | 6 => x = .int .i64 how
 | 7 => x = .int .i64 by_
 | 8 => ∃ X, RtP w x X
 | 9 => x = .agg #[b1, b2]
 | 10 => x = .int .i64 by_
 | 11 => x = .int .i64 how
 | 12 => ∃ X, RtP w x X
 | 13 => x = .slice A4 k4 c4
 | 14 => x = .slice A4 k4 c4
 | 15 => x = .int .i64 (k4 : Nat)
 | 16 => x = .int .i64 (m4 : Nat)
 | 17 => x = .slice A4 m4 c4
 | 18 => x = .slice A5 k5 c5
 | 19 => x = .slice A5 k5 c5
 | 20 => x = .int .i64 (k5 : Nat)
 | 21 => x = .int .i64 (m5 : Nat)
 | 22 => x = .slice A5 m5 c5
 | 23 => x = .agg #[.slice A4 m4 c4, .slice A5 m5 c5]
 | 24 => x = nilRat
 | 25 => ∃ g xs, x = .slice (some ⟨g, 0, none⟩) 7 7 ∧ RatRow w (some ⟨g, 0, none⟩) 7 xs
 | 26 => ∃ g xs, x = .slice (some ⟨g, 0, none⟩) 7 7 ∧ RatRow w (some ⟨g, 0, none⟩) 7 xs
 | _ => True

theorem PhiSo.keep {a1 a2 b1 b2 : Value} {n m how by_ : Int} {A4 A5 : Option Addr} {k4 c4 m4 k5 c5 m5 : Nat} : ∀ (w w' : World), Below w.heap.size w w' → ∀ j x, PhiSo a1 a2 b1 b2 n m how by_ A4 A5 k4 c4 m4 k5 c5 m5 j w x → PhiSo a1 a2 b1 b2 n m how by_ A4 A5 k4 c4 m4 k5 c5 m5 j w' x := by
 intro w w' hb j x h; unfold PhiSo at h ⊢
 split <;> simp only at h ⊢
 all_goals first
  | exact h
  | (obtain ⟨X, h⟩ := h; exact ⟨X, h.below hb⟩)
  | (obtain ⟨g, qs, e, h⟩ := h; exact ⟨g, qs, e, h.below hb⟩)
set_option maxRecDepth 100000 in
set_option maxHeartbeats 4000000 in
theorem some_n (n m how by_ : Int) (A4 : Option Addr) (k4 c4 : Nat) (A5 : Option Addr) (k5 c5 : Nat) (l4 l5 : List Nat) (w : World) (hin : isI64 n) (him : isI64 m) (hih : isI64 how) (hib : isI64 by_) (hl4 : Lim w A4 c4 l4) (hk4 : k4 = l4.length) (hl5 : Lim w A5 c5 l5) (hk5 : k5 = l5.length) :
  Calls Tryz.prog 5 #[.int .i64 n, .int .i64 m, .int .i64 how, .int .i64 by_, .slice A4 k4 c4, .slice A5 k5 c5] w fun e w' => ∃ g xs, e = .returned (.slice (some ⟨g, 0, none⟩) 7 7) ∧ RatRow w' (some ⟨g, 0, none⟩) 7 xs ∧ xs.length = 7 ∧ Below w.heap.size w w' := by
 obtain ⟨iR, hiR, hzR, hzR1, hzR2⟩ := info_parts info_ratio; have HIN := Lib.hid hin; have HIM := Lib.hid him; have HL4 := Lib.hid hl4; have HL5 := Lib.hid hl5; have HK4 := Lib.hid hk4; have HK5 := Lib.hid hk5; clear hl4 hl5 hk4 hk5
 go_enter Tryz.func5, Tryz.ntmps5
 go_wp2_with fail; refine (rmade_n n m _ hin.1 hin.2 him.1 him.2).mono ?_; rintro e w1 ⟨va, pa, qa, rfl, hra, ga, hb1⟩; obtain ⟨P0, p0, s0, Q0, q0, t0, rfl⟩ := hra.shape; go_upto_region 2 with fail; refine wp_name ?_; intro w2 HW; have hb2 : Below w1.heap.size w1 w2 := by rw [HW.out]; exact bA _ _
 have hB : Blk w2 w1.heap.size 29 #[.slice P0 p0 s0, .slice Q0 q0 t0] := by rw [HW.out]; exact Blk.new _ _ _
 obtain ⟨ga_, hga⟩ : ∃ g, Hid (g = w1.heap.size) := ⟨_, rfl⟩; rw [← hga.out] at hB ⊢; have ha0 := hB.cell 0; have ha1 := hB.cell 1; simp only [List.getElem?_toArray, List.getElem?_cons_zero, List.getElem?_cons_succ] at ha0 ha1; have hra := hra.below hb2; have hbw := Below.tr hb1 hb2; clear HW hB hga hb1 hb2; go_wp2_with fail; refine (large_n m n _ HIM.out HIN.out).mono ?_; rintro e w3 ⟨vb, pb, qb, rfl, hrb, gb, hb3⟩; obtain ⟨P2, p2, s2, Q2, q2, t2, rfl⟩ := hrb.shape; have hra := hra.below hb3; have ha0 := cell_keep hb3 ha0; have ha1 := cell_keep hb3 ha1; have hbw := Below.tr hbw hb3; clear hb3; go_upto_region 3 with fail; refine wp_name ?_; intro w4 HW; have hb4 : Below w3.heap.size w3 w4 := by rw [HW.out]; exact bA _ _
 have hB : Blk w4 w3.heap.size 29 #[.slice P2 p2 s2, .slice Q2 q2 t2] := by rw [HW.out]; exact Blk.new _ _ _
 obtain ⟨gb_, hgb⟩ : ∃ g, Hid (g = w3.heap.size) := ⟨_, rfl⟩; rw [← hgb.out] at hB ⊢; have hb0 := hB.cell 0; have hb1 := hB.cell 1; simp only [List.getElem?_toArray, List.getElem?_cons_zero, List.getElem?_cons_succ] at hb0 hb1; have hra := hra.below hb4; have hrb := hrb.below hb4; have ha0 := cell_keep hb4 ha0; have ha1 := cell_keep hb4 ha1; have hbw := Below.tr hbw hb4; clear HW hB hgb hb4; have hl4 := HL4.out.below hbw; have hl5 := HL5.out.below hbw; have hk4 := HK4.out; have hk5 := HK5.out; obtain ⟨m4, hm4⟩ : ∃ m : Nat, m = min l4.length 70 := ⟨_, rfl⟩; obtain ⟨m5, hm5⟩ : ∃ m : Nat, m = min l5.length 70 := ⟨_, rfl⟩; have x4 : min (k4 : Int) 70 = (m4 : Int) := by omega
 have x5 : min (k5 : Int) 70 = (m5 : Int) := by omega
 have y4 : m4 ≤ c4 := by have := hl4.2.1; omega
 have y5 : m5 ≤ c5 := by have := hl5.2.1; omega
 have z4 : c4 ≤ 9223372036854775807 := hl4.2.2.1; have z5 : c5 ≤ 9223372036854775807 := hl5.2.2.1
 replace hm4 := Lib.hid hm4
 replace hm5 := Lib.hid hm5
 clear hk4 hk5; refine region_invF (PhiSo (.slice P0 p0 s0) (.slice Q0 q0 t0) (.slice P2 p2 s2) (.slice Q2 q2 t2) n m how by_ A4 A5 k4 c4 m4 k5 c5 m5) (fun w w' => Below w.heap.size w w') (fun W => Below w4.heap.size w4 W) (by kernel_rfl) (by kernel_rfl) (by kernel_rfl) PhiSo.keep (fun _ _ hR hS => Below.tr hS hR) (bD _) (fun vs => by simp only [fillR, Act.put, sA, sB, sC, Nat.zero_add, Nat.reduceAdd]; rfl) ?_ ?_
 ·refine sK ?_ (sK ?_ (sK ?_ (sK ?_ (sK ?_ (sK ?_ (sK ?_ (sK ?_ (sK ?_ (sK ?_ (sK ?_ (sK ?_ (sK ?_ (sK ?_ (sK ?_ (sK ?_ (sK ?_ (sK ?_ (sK ?_ (sK ?_ (sK ?_ (sK ?_ (sK ?_ (sK ?_ (sK ?_ (sK ?_ (sK ?_ (sZ)))))))))))))))))))))))))))
  ·as_aux_lemma =>
   intro vs W hS hdep K hK; have f1 := cell_keep hS ha0; have f2 := cell_keep hS ha1; refine ⟨?_⟩; simp only [Act.put, sA, sB, sC, Nat.zero_add, Nat.reduceAdd] at hK ⊢; go_simp; with_reducible refine hK _ _ (Below.refl _ _) ?_
   exact rfl
  ·as_aux_lemma =>
   intro vs W hS hdep K hK; refine ⟨?_⟩; simp only [Act.put, sA, sB, sC, Nat.zero_add, Nat.reduceAdd] at hK ⊢; go_simp; with_reducible refine hK _ _ (Below.refl _ _) ?_
   exact rfl
  ·as_aux_lemma =>
   intro vs W hS hdep K hK; refine ⟨?_⟩; simp only [Act.put, sA, sB, sC, Nat.zero_add, Nat.reduceAdd] at hK ⊢; go_simp; with_reducible refine hK _ _ (Below.refl _ _) ?_
   exact rfl
  ·as_aux_lemma =>
   intro vs W hS hdep K hK; have d0 := hdep ⟨1, .data⟩ (by simp) rfl; simp only [PhiSo] at d0; have d1 := hdep ⟨2, .data⟩ (by simp) rfl; simp only [PhiSo] at d1; refine ⟨?_⟩; simp only [Act.put, sA, sB, sC, Nat.zero_add, Nat.reduceAdd, d0, d1] at hK ⊢; go_simp; refine (rpart_X n m _ hin him).mono ?_; rintro e w' ⟨v, rfl, hv, hb⟩; go_wp2_with fail; with_reducible refine hK _ _ hb ?_
   exact hv
  ·as_aux_lemma =>
   intro vs W hS hdep K hK; have f1 := cell_keep hS hb0; have f2 := cell_keep hS hb1; refine ⟨?_⟩; simp only [Act.put, sA, sB, sC, Nat.zero_add, Nat.reduceAdd] at hK ⊢; go_simp; with_reducible refine hK _ _ (Below.refl _ _) ?_
   exact rfl
  ·as_aux_lemma =>
   intro vs W hS hdep K hK; have f1 := cell_keep hS ha0; have f2 := cell_keep hS ha1; refine ⟨?_⟩; simp only [Act.put, sA, sB, sC, Nat.zero_add, Nat.reduceAdd] at hK ⊢; go_simp; with_reducible refine hK _ _ (Below.refl _ _) ?_
   exact rfl
  ·as_aux_lemma =>
   intro vs W hS hdep K hK; refine ⟨?_⟩; simp only [Act.put, sA, sB, sC, Nat.zero_add, Nat.reduceAdd] at hK ⊢; go_simp; with_reducible refine hK _ _ (Below.refl _ _) ?_
   exact rfl
  ·as_aux_lemma =>
   intro vs W hS hdep K hK; refine ⟨?_⟩; simp only [Act.put, sA, sB, sC, Nat.zero_add, Nat.reduceAdd] at hK ⊢; go_simp; with_reducible refine hK _ _ (Below.refl _ _) ?_
   exact rfl
  ·as_aux_lemma =>
   intro vs W hS hdep K hK; have d0 := hdep ⟨5, .data⟩ (by simp) rfl; simp only [PhiSo] at d0; have d1 := hdep ⟨6, .data⟩ (by simp) rfl; simp only [PhiSo] at d1; have d2 := hdep ⟨7, .data⟩ (by simp) rfl; simp only [PhiSo] at d2; refine ⟨?_⟩; simp only [Act.put, sA, sB, sC, Nat.zero_add, Nat.reduceAdd, d0, d1, d2] at hK ⊢; go_simp; refine (rspoilt_X _ pa qa how by_ _ (hra.below hS) ga hih hib).mono ?_; rintro e w' ⟨v, rfl, hv, hb⟩; go_wp2_with fail; with_reducible refine hK _ _ hb ?_
   exact hv
  ·as_aux_lemma =>
   intro vs W hS hdep K hK; have f1 := cell_keep hS hb0; have f2 := cell_keep hS hb1; refine ⟨?_⟩; simp only [Act.put, sA, sB, sC, Nat.zero_add, Nat.reduceAdd] at hK ⊢; go_simp; with_reducible refine hK _ _ (Below.refl _ _) ?_
   exact rfl
  ·as_aux_lemma =>
   intro vs W hS hdep K hK; refine ⟨?_⟩; simp only [Act.put, sA, sB, sC, Nat.zero_add, Nat.reduceAdd] at hK ⊢; go_simp; with_reducible refine hK _ _ (Below.refl _ _) ?_
   exact rfl
  ·as_aux_lemma =>
   intro vs W hS hdep K hK; refine ⟨?_⟩; simp only [Act.put, sA, sB, sC, Nat.zero_add, Nat.reduceAdd] at hK ⊢; go_simp; with_reducible refine hK _ _ (Below.refl _ _) ?_
   exact rfl
  ·as_aux_lemma =>
   intro vs W hS hdep K hK; have d0 := hdep ⟨9, .data⟩ (by simp) rfl; simp only [PhiSo] at d0; have d1 := hdep ⟨10, .data⟩ (by simp) rfl; simp only [PhiSo] at d1; have d2 := hdep ⟨11, .data⟩ (by simp) rfl; simp only [PhiSo] at d2; refine ⟨?_⟩; simp only [Act.put, sA, sB, sC, Nat.zero_add, Nat.reduceAdd, d0, d1, d2] at hK ⊢; go_simp; refine (rspoilt_X _ pb qb by_ how _ (hrb.below hS) gb hib hih).mono ?_; rintro e w' ⟨v, rfl, hv, hb⟩; go_wp2_with fail; with_reducible refine hK _ _ hb ?_
   exact hv
  ·as_aux_lemma =>
   intro vs W hS hdep K hK; refine ⟨?_⟩; simp only [Act.put, sA, sB, sC, Nat.zero_add, Nat.reduceAdd] at hK ⊢; go_simp; with_reducible refine hK _ _ (Below.refl _ _) ?_
   exact rfl
  ·as_aux_lemma =>
   intro vs W hS hdep K hK; refine ⟨?_⟩; simp only [Act.put, sA, sB, sC, Nat.zero_add, Nat.reduceAdd] at hK ⊢; go_simp; with_reducible refine hK _ _ (Below.refl _ _) ?_
   exact rfl
  ·as_aux_lemma =>
   intro vs W hS hdep K hK; have d0 := hdep ⟨14, .data⟩ (by simp) rfl; simp only [PhiSo] at d0; refine ⟨?_⟩; simp only [Act.put, sA, sB, sC, Nat.zero_add, Nat.reduceAdd, d0] at hK ⊢; go_simp; with_reducible refine hK _ _ (Below.refl _ _) ?_
   exact rfl
  ·as_aux_lemma =>
   intro vs W hS hdep K hK; have d0 := hdep ⟨15, .data⟩ (by simp) rfl; simp only [PhiSo] at d0; refine ⟨?_⟩; simp only [Act.put, sA, sB, sC, Nat.zero_add, Nat.reduceAdd, d0] at hK ⊢; go_simp; with_reducible refine hK _ _ (Below.refl _ _) ?_
   exact rfl
  ·as_aux_lemma =>
   intro vs W hS hdep K hK; have d0 := hdep ⟨13, .data⟩ (by simp) rfl; simp only [PhiSo] at d0; have d1 := hdep ⟨16, .data⟩ (by simp) rfl; simp only [PhiSo] at d1; refine ⟨?_⟩; simp only [Act.put, sA, sB, sC, Nat.zero_add, Nat.reduceAdd, d0, d1] at hK ⊢; go_simp; with_reducible refine hK _ _ (Below.refl _ _) ?_
   exact rfl
  ·as_aux_lemma =>
   intro vs W hS hdep K hK; refine ⟨?_⟩; simp only [Act.put, sA, sB, sC, Nat.zero_add, Nat.reduceAdd] at hK ⊢; go_simp; with_reducible refine hK _ _ (Below.refl _ _) ?_
   exact rfl
  ·as_aux_lemma =>
   intro vs W hS hdep K hK; refine ⟨?_⟩; simp only [Act.put, sA, sB, sC, Nat.zero_add, Nat.reduceAdd] at hK ⊢; go_simp; with_reducible refine hK _ _ (Below.refl _ _) ?_
   exact rfl
  ·as_aux_lemma =>
   intro vs W hS hdep K hK; have d0 := hdep ⟨19, .data⟩ (by simp) rfl; simp only [PhiSo] at d0; refine ⟨?_⟩; simp only [Act.put, sA, sB, sC, Nat.zero_add, Nat.reduceAdd, d0] at hK ⊢; go_simp; with_reducible refine hK _ _ (Below.refl _ _) ?_
   exact rfl
  ·as_aux_lemma =>
   intro vs W hS hdep K hK; have d0 := hdep ⟨20, .data⟩ (by simp) rfl; simp only [PhiSo] at d0; refine ⟨?_⟩; simp only [Act.put, sA, sB, sC, Nat.zero_add, Nat.reduceAdd, d0] at hK ⊢; go_simp; with_reducible refine hK _ _ (Below.refl _ _) ?_
   exact rfl
  ·as_aux_lemma =>
   intro vs W hS hdep K hK; have d0 := hdep ⟨18, .data⟩ (by simp) rfl; simp only [PhiSo] at d0; have d1 := hdep ⟨21, .data⟩ (by simp) rfl; simp only [PhiSo] at d1; refine ⟨?_⟩; simp only [Act.put, sA, sB, sC, Nat.zero_add, Nat.reduceAdd, d0, d1] at hK ⊢; go_simp; with_reducible refine hK _ _ (Below.refl _ _) ?_
   exact rfl
  ·as_aux_lemma =>
   intro vs W hS hdep K hK; have d0 := hdep ⟨17, .data⟩ (by simp) rfl; simp only [PhiSo] at d0; have d1 := hdep ⟨22, .data⟩ (by simp) rfl; simp only [PhiSo] at d1; refine ⟨?_⟩; simp only [Act.put, sA, sB, sC, Nat.zero_add, Nat.reduceAdd, d0, d1] at hK ⊢; go_simp; with_reducible refine hK _ _ (Below.refl _ _) ?_
   exact rfl
  ·as_aux_lemma =>
   intro vs W hS hdep K hK; refine ⟨?_⟩; simp only [Act.put, sA, sB, sC, Nat.zero_add, Nat.reduceAdd] at hK ⊢; go_simp; with_reducible refine hK _ _ (Below.refl _ _) ?_
   exact rfl
  ·as_aux_lemma =>
   intro vs W hS hdep K hK; have d0 := hdep ⟨0, .data⟩ (by simp) rfl; simp only [PhiSo] at d0; have d1 := hdep ⟨3, .data⟩ (by simp) rfl; simp only [PhiSo] at d1; refine @exE1 _ _ _ d1 ?_; clear d1; intro X1 d1; have h1 := d1; clear d1; have d2 := hdep ⟨4, .data⟩ (by simp) rfl; simp only [PhiSo] at d2; have d3 := hdep ⟨8, .data⟩ (by simp) rfl; simp only [PhiSo] at d3; refine @exE1 _ _ _ d3 ?_; clear d3; intro X3 d3; have h3 := d3; clear d3; have d4 := hdep ⟨12, .data⟩ (by simp) rfl; simp only [PhiSo] at d4; refine @exE1 _ _ _ d4 ?_; clear d4; intro X4 d4; have h4 := d4; clear d4; have d5 := hdep ⟨23, .data⟩ (by simp) rfl; simp only [PhiSo] at d5; have d6 := hdep ⟨24, .data⟩ (by simp) rfl; simp only [PhiSo] at d6; obtain ⟨P1, p1, s1, Q1, q1, t1, e1⟩ := h1.shape; rw [e1] at h1; obtain ⟨P3, p3, s3, Q3, q3, t3, e3⟩ := h3.shape; rw [e3] at h3; obtain ⟨P4, p4, s4, Q4, q4, t4, e4⟩ := h4.shape; rw [e4] at h4; have HR := Lib.hid (ratRow_new 29 [(.slice P0 p0 s0, .slice Q0 q0 t0), (.slice P1 p1 s1, .slice Q1 q1 t1), (.slice P2 p2 s2, .slice Q2 q2 t2), (.slice P3 p3 s3, .slice Q3 q3 t3), (.slice P4 p4 s4, .slice Q4 q4 t4), (.slice A4 m4 c4, .slice A5 m5 c5), (.slice none 0 0, .slice none 0 0)] [ratP pa qa, X1, ratP pb qb, X3, X4, (l4.take m4, l5.take m5), nilP] ⟨(hra.below hS).rtP, h1, (hrb.below hS).rtP, h3, h4, raw_rt (hl4.below hS) (hl5.below hS) hm4.out hm5.out, nil_rtP _, trivial⟩ (by simp)); clear h1 h3 h4; refine ⟨?_⟩; simp only [Act.put, sA, sB, sC, Nat.zero_add, Nat.reduceAdd, d0, e1, d2, e3, e4, d5, d6] at hK ⊢
   rw [if_pos (by rfl)]; refine wp_sliceN 24 29 7 [(0, .tmp 21), (1, .tmp 24), (2, .tmp 25), (3, .tmp 29), (4, .tmp 33), (5, .tmp 44), (6, .tmp 45)] rfl #[.slice P0 p0 s0, .slice Q0 q0 t0, .slice P1 p1 s1, .slice Q1 q1 t1, .slice P2 p2 s2, .slice Q2 q2 t2, .slice P3 p3 s3, .slice Q3 q3 t3, .slice P4 p4 s4, .slice Q4 q4 t4, .slice A4 m4 c4, .slice A5 m5 c5, .slice none 0 0, .slice none 0 0] iR nilRat 2 [(0, .agg #[.slice P0 p0 s0, .slice Q0 q0 t0]), (1, .agg #[.slice P1 p1 s1, .slice Q1 q1 t1]), (2, .agg #[.slice P2 p2 s2, .slice Q2 q2 t2]), (3, .agg #[.slice P3 p3 s3, .slice Q3 q3 t3]), (4, .agg #[.slice P4 p4 s4, .slice Q4 q4 t4]), (5, .agg #[.slice A4 m4 c4, .slice A5 m5 c5]), (6, .agg #[.slice none 0 0, .slice none 0 0])] Tryz.underlying24 hiR hzR hzR1 (by omega) (by omega) rfl (fill_r7 _ _ _ _ _ _ _ _ _ _ _ _ _ _ _ _ _ _ _ _ _ _ _ _ _ _ _ _ _ _ _ _ _ _ _ _ _ _ _ _ _ _) ?_; simp only [Act.put, sA, sB, sC]; with_reducible refine hK _ _ (bA _ _) ?_
   exact ⟨_, _, rfl, HR.out⟩
  ·as_aux_lemma =>
   intro vs W hS hdep K hK; have d0 := hdep ⟨25, .data⟩ (by simp) rfl; simp only [PhiSo] at d0; refine @exE2 _ _ _ _ d0 ?_; clear d0; intro g0 q0 d0; have e0 := d0.1; have n0 := d0.2; clear d0; refine ⟨?_⟩; simp only [Act.put, sA, sB, sC, Nat.zero_add, Nat.reduceAdd, e0] at hK ⊢; go_simp; with_reducible refine hK _ _ (Below.refl _ _) ?_
   exact ⟨_, _, rfl, n0⟩
 ·intro vs W hS hv; have v26 := hv 26 (by simp); simp only [PhiSo] at v26; obtain ⟨g, xs, e26, hr⟩ := v26; clear hv; simp only [Act.put, sA, sB, sC, Nat.zero_add, Nat.reduceAdd, e26]; go_wp2_with fail; go_ret; refine ⟨_, _, rfl, hr, ?_, Below.tr hbw hS⟩; obtain ⟨ps, h1, h2, _⟩ := hr; rw [← h2]; exact h1.2.1.symm
end Go.Proofs.YtmbfjmilhfmnkaaGreatDoor
