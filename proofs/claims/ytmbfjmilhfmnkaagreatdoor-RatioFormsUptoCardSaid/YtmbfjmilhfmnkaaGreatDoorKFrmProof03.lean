import Derived.Test.YtmbfjmilhfmnkaaGreatDoorKRdsProof37
import Derived.Test.YtmbfjmilhfmnkaaGreatDoorS0
set_option linter.unusedVariables false
set_option linter.unusedSimpArgs false
namespace Go.Proofs.YtmbfjmilhfmnkaaGreatDoor
open Go Go.RowKit
set_option maxRecDepth 100000 in
set_option maxHeartbeats 4000000 in
theorem wints_n (A : Option Addr) (k c : Nat) (X : List Int) (w : World) (h : RowL intC w A k X) (hr : ∀ x ∈ X, -9223372036854775808 ≤ x ∧ x ≤ 9223372036854775807) (hk : k ≤ 67108864) :
  Calls Tryz.prog 43 #[.slice A k c] w fun e w' => ∃ v, e = .returned v ∧ OwnB w' w.heap.size v (Wi.encIs X) ∧ Below w.heap.size w w' := by
 have HLEN := Lib.hid h.2.1; have HR := Lib.hid hr; clear hr; have hkm : -9223372036854775808 ≤ (k : Int) := by omega
 have hkM : (k : Int) ≤ 9223372036854775807 := by omega
 go_enter Tryz.func43, Tryz.ntmps43
 go_wp2_with fail; refine (wint_n (k : Int) _ hkm hkM).mono ?_; rintro e w1 ⟨v0, rfl, ho0, hb0⟩; obtain ⟨A0, c0, rfl⟩ := ho0.shp; obtain ⟨L, HL⟩ : ∃ L, Hid (L = Wi.encI (k : Int)) := ⟨_, rfl⟩; have hL9 : L.length ≤ 9 := by rw [HL.out]; exact Wi.encI_len hkm hkM
 rw [← HL.out] at ho0 ⊢; clear hkm hkM; go_wp2_with fail
 go_loopg [3, 11] k (fun j v x wr => ∃ (i : Nat) (P : List Nat), x = .int .i64 i ∧ i + j = k ∧ Hid (P = L ++ (X.take i).flatMap Wi.encI) ∧ OwnB wr w.heap.size v P ∧ Below w.heap.size w wr)
 case atStart => exact ⟨0, L, rfl, by omega, (by show _ = _; simp), ho0, hb0⟩
 case round =>
  obtain ⟨G, hG⟩ : ∃ G, G = gk := ⟨gk, rfl⟩; subst hG; clear ho0 hb0; obtain ⟨i, P, rfl, hij, HP, hown, hbe⟩ := hrel; by_cases hi : i < k
  ·have t1 : decide ((i : Int) < (k : Int)) = true := by simp; omega
   have hik : (i : Int) < (k : Int) := by omega
   obtain ⟨b, o, x, rfl, hc, HX⟩ := (h.below hbe).int hi; obtain ⟨x1, x2⟩ := HR.out x (List.mem_of_getElem? HX.out); obtain ⟨Z, HZ⟩ : ∃ Z, Hid (Z = Wi.encI x) := ⟨_, rfl⟩; have HX2 : Hid (P ++ Z = L ++ (X.take (i + 1)).flatMap Wi.encI) := by show _ = _; rw [HP.out, HZ.out, enc_take HX.out, List.append_assoc]
   have hl9 : Z.length ≤ 9 := by rw [HZ.out]; exact Wi.encI_len x1 x2
   have hlT : P.length ≤ 9 + 9 * k := by
    rw [HP.out]; have := enc_len (X.take i) fun y hy => HR.out y (List.mem_of_mem_take hy)
    rw [List.length_take] at this; rw [List.length_append]; omega
   obtain ⟨A3, c3, rfl⟩ := hown.shp; go_wp2_with fail; refine (wint_n x _ x1 x2).mono ?_; rintro e w2 ⟨v1, rfl, ho1, hb1⟩; rw [← HZ.out] at ho1; obtain ⟨A1, c1, rfl⟩ := ho1.shp; have hby := ho1.by_ (by omega); have hown2 := hown.below hb1; have hbx := Below.tr hbe hb1; have hsz := hbx.size; have hl : P.length + Z.length ≤ 1073741824 := by omega
   clear hown hbe hb1 ho1
   go_wp2_with (at_builtin; go_loud (refine wpList_appB rfl (.tmp 15) (.tmp 17) rfl w.heap.size (.slice A3 P.length c3) _ rfl hown2 A1 Z.length c1 _ rfl hby hl hsz ?_); intro v7 w7 hown7 hg7 _)
   have hbz := hbx.grown hg7 hsz (fun q hq => hown2.ge q hq); clear hown2 hbx hg7; go_wp2_with fail
   go_roundg (G - 1)
   case measure => omega
   case rel => exact ⟨i + 1, P ++ Z, by go_num, by omega, HX2, hown7, hbz⟩
  ·obtain rfl : i = k := by omega
   have t1 : decide ((i : Int) < (i : Int)) = false := by simp
   have e1 : X.take i = X := List.take_of_length_le (by rw [← HLEN.out]; exact Nat.le_refl _); have e2 : P = Wi.encIs X := by rw [HP.out, e1]; unfold Wi.encIs; rw [HL.out, ← HLEN.out]
   have HO2 := Lib.hid e2; clear e1 e2; obtain ⟨A7, c7, rfl⟩ := hown.shp; have HO := Lib.hid hown; clear hown; go_wp2_with fail; go_ret; exact ⟨_, rfl, by rw [← HO2.out]; exact HO.out, hbe⟩
theorem info_w : (Tryz.prog.info? 27).map (fun i => (i.zero, i.size, i.bytes)) = some (some (.slice none 0 0), 1, 24) := by kernel_rfl
theorem fill_w2 (A0 A1 : Option Addr) (k0 c0 k1 c1 : Nat) : Instr.fill (fun i => some (i * 1, 1)) ((Array.range (2 * 1)).map ((Value.slice none 0 0).cells[· % (Value.slice none 0 0).cells.size]!)) [(0, .slice A0 k0 c0), (1, .slice A1 k1 c1)] = some #[.slice A0 k0 c0, .slice A1 k1 c1] := by kernel_rfl
set_option maxRecDepth 100000 in
set_option maxHeartbeats 8000000 in
theorem encode_n (v : Value) (x : LP) (w : World) (h : RtP w v x) (hk1 : x.1.length ≤ 1048576) (hk2 : x.2.length ≤ 1048576) :
  Calls Tryz.prog 17 #[v] w fun e w' => ∃ v, e = .returned v ∧ OwnB w' w.heap.size v (Wi.encIs (castI x.1) ++ Wi.encIs (castI x.2)) ∧ Below w.heap.size w w' := by
 obtain ⟨A1, k1, c1, A2, k2, c2, rfl, hl1, hl2, e1, e2⟩ := h; obtain ⟨X1, X2⟩ := x; simp only at hl1 hl2 e1 e2 hk1 hk2 ⊢; have hk1' : k1 ≤ 1048576 := by omega
 have hk2' : k2 ≤ 1048576 := by omega
 have HK1 := Lib.hid e1; have HK2 := Lib.hid e2; clear e1 e2; obtain ⟨E1, HE1⟩ : ∃ E, Hid (E = Wi.encIs (castI X1)) := ⟨_, rfl⟩; obtain ⟨E2, HE2⟩ : ∃ E, Hid (E = Wi.encIs (castI X2)) := ⟨_, rfl⟩
 have hE1 : E1.length ≤ 10000000 := by
  rw [HE1.out]; have := encIs_len (castI_r hl1) (by rw [castI_len]; omega); rw [castI_len] at this; omega
 have hE2 : E2.length ≤ 10000000 := by
  rw [HE2.out]; have := encIs_len (castI_r hl2) (by rw [castI_len]; omega); rw [castI_len] at this; omega
 rw [← HE1.out, ← HE2.out]; obtain ⟨iS, hiS, hzS, hzS1, hzS2⟩ := info_parts info_w
 go_enter Tryz.func17, Tryz.ntmps17
 go_upto_region 1 with fail; refine wp_name ?_; intro w1 HW; have hbw : Below w.heap.size w w1 := by rw [HW.out]; exact bA _ _
 have hB : Blk w1 w.heap.size 29 #[.slice A1 k1 c1, .slice A2 k2 c2] := by rw [HW.out]; exact Blk.new _ _ _
 obtain ⟨g, hg⟩ : ∃ g, Hid (g = w.heap.size) := ⟨_, rfl⟩; rw [← hg.out] at hB ⊢; have q0 := hB.cell 0; have q1 := hB.cell 1; simp only [List.getElem?_toArray, List.getElem?_cons_zero, List.getElem?_cons_succ] at q0 q1; clear HW hB hg
 go_upto_region 3 with (refine wpList_sliceN rfl 65 27 2 [(0, .tmp 10), (1, .tmp 12)] rfl #[.slice A1 k1 c1, .slice A2 k2 c2] iS (.slice none 0 0) 1 [(0, .slice A1 k1 c1), (1, .slice A2 k2 c2)] Tryz.underlying65 hiS hzS hzS1 (by omega) (by omega) rfl (fill_w2 _ _ _ _ _ _) ?_; simp only [Act.put, sA, sB, sC])
 refine wp_name ?_; intro w2 HW; have hb2 : Below w1.heap.size w1 w2 := by rw [HW.out]; exact bA _ _
 have hB : Blk w2 w1.heap.size 27 #[.slice A1 k1 c1, .slice A2 k2 c2] := by rw [HW.out]; exact Blk.new _ _ _
 obtain ⟨gL, hgL⟩ : ∃ g, Hid (g = w1.heap.size) := ⟨_, rfl⟩; rw [← hgL.out] at hB ⊢; have hbw2 := Below.tr hbw hb2
 have HTWO : Hid (∀ i, i < 2 → ∃ A k c X E, w2.cell? ⟨gL, i, none⟩ = some (.slice A k c) ∧ Lim w2 A c X ∧ k = X.length ∧ k ≤ 1048576 ∧ E.length ≤ 10000000 ∧ E = Wi.encIs (castI X) ∧ (if i = 0 then E = E1 else E = E2)) := by
  intro i hi; have : i = 0 ∨ i = 1 := by omega
  rcases this with rfl | rfl
  ·exact ⟨A1, k1, c1, X1, E1, by rw [hB.cell]; rfl, hl1.below hbw2, HK1.out, hk1', hE1, HE1.out, rfl⟩
  ·exact ⟨A2, k2, c2, X2, E2, by rw [hB.cell]; rfl, hl2.below hbw2, HK2.out, hk2', hE2, HE2.out, rfl⟩
 clear HW hgL hB hb2 hbw q0 q1 hl1 hl2 HK1 HK2 hk1 hk2 hk1' hk2' HE1 HE2 iS hiS hzS hzS1 hzS2
 go_loopg [3, 15] 2 (fun j v3 v15 wr => ∃ (i : Nat) (P : List Nat), v15 = .int .i64 i ∧ i + j = 2 ∧ Hid (P = if i = 0 then [] else if i = 1 then E1 else E1 ++ E2) ∧ OwnB wr w2.heap.size v3 P ∧ Below w2.heap.size w2 wr)
 case atStart => exact ⟨0, [], rfl, rfl, rfl, OwnB.nil _ _, Below.refl _ _⟩
 case round =>
  obtain ⟨G, hG⟩ : ∃ G, G = gk := ⟨gk, rfl⟩; subst hG; obtain ⟨i, P, rfl, hij, HP, hown, hbr⟩ := hrel; obtain ⟨ws, hws⟩ : ∃ z, z = wr := ⟨_, rfl⟩; subst hws; by_cases hi : i < 2
  ·have t1 : decide ((i : Int) < 2) = true := by simp; omega
   have hi2 : (i : Int) < 2 := by omega
   obtain ⟨A, k, c, X, E, hcell, hlim, hkX, hk, hE, heE, hif⟩ := HTWO.out i hi; have hc2 := cell_keep hbr hcell; have hlim2 := hlim.below hbr; have HLEN := Lib.hid hkX; have HEE := Lib.hid heE
   have HP2 : Hid (P ++ E = if i + 1 = 0 then [] else if i + 1 = 1 then E1 else E1 ++ E2) := by
    show _ = _
    rw [HP.out]; have : i = 0 ∨ i = 1 := by omega
    rcases this with rfl | rfl
    ·simp at hif ⊢; exact hif
    ·simp at hif ⊢; exact hif
   have hPl : P.length ≤ 20000000 := by
    rw [HP.out]
    split
    ·simp
    ·split
     ·omega
     ·rw [List.length_append]; omega
   obtain ⟨A3, c3, rfl⟩ := hown.shp; clear hcell hlim hkX heE hif HP; go_wp2_with fail
   go_loopg [6, 21] k (fun j v x wr => ∃ m : Nat, x = .int .i64 m ∧ m + j = k ∧ OwnI wr ws.heap.size v (castI (X.take m)) ∧ Below ws.heap.size ws wr)
   case atStart => exact ⟨0, rfl, by omega, OwnI.nil _ _, Below.refl _ _⟩
   case round =>
    obtain ⟨G2, hG2⟩ : ∃ G, G = gk := ⟨gk, rfl⟩; subst hG2; obtain ⟨m, rfl, hmj, hownI, hbe⟩ := hrel; by_cases hm : m < k
    ·have t3 : decide ((m : Int) < (k : Int)) = true := by simp; omega
     have hmk : (m : Int) < (k : Int) := by omega
     obtain ⟨b, o, d, rfl, hc, hd, HD⟩ := (hlim2.below hbe).get (k := m) (by rw [← HLEN.out]; exact hm); have tm : (d : Int) % 18446744073709551616 = (d : Int) := by omega
     have HX2 : Hid (castI (X.take m) ++ [(d : Int)] = castI (X.take (m + 1))) := by show _ = _; rw [castI_take (by rw [← HLEN.out]; exact hm) HD.out]
     have hbA := bA wr (.cells #[.int .i64 (d : Int)] 3); have hown2 := hownI.below hbA; have hrd := RowL.newI wr (d : Int); have hl : (castI (X.take m)).length + [(d : Int)].length ≤ 1073741824 := by rw [castI_len, List.length_take]; simp; omega
     have hbx := Below.tr hbe hbA; have hsz := hbx.size; clear hownI hbA hbe HD
     go_wp2_with (at_builtin; go_loud (refine wpList_appI rfl (.tmp 25) (.tmp 28) rfl ws.heap.size _ _ rfl hown2 (some ⟨wr.heap.size, 0, none⟩) 1 1 [(d : Int)] rfl hrd hl hsz ?_); intro v7 w7 hown7 hg7 _)
     have hbz := hbx.grown hg7 hsz (fun q hq => hown2.ge q hq); rw [HX2.out] at hown7; clear hown2 hbx hg7; go_wp2_with fail
     go_roundg (G2 - 1)
     case measure => omega
     case rel => exact ⟨m + 1, by go_num, by omega, hown7, hbz⟩
    ·obtain rfl : m = k := by omega
     have t3 : decide ((m : Int) < (m : Int)) = false := by simp
     have e1 : X.take m = X := List.take_of_length_le (by rw [← HLEN.out]; exact Nat.le_refl _); rw [e1] at hownI; obtain ⟨A7, c7, rfl⟩ := hownI.shp; have hrow := hownI.row (by rw [castI_len, ← HLEN.out]; omega); have hownP := hown.below hbe; have hbr2 := Below.tr hbr hbe; have hsw := hbw2.size; have hsr := hbr2.size; have HKK : Hid ((castI X).length ≤ 67108864) := by show _ ≤ _; rw [castI_len, ← HLEN.out]; omega
     clear hownI e1 hown hbr; go_wp2_with fail; refine (wints_n A7 _ c7 (castI X) _ hrow (castI_r hlim2) HKK.out).mono ?_; rintro e w9 ⟨v9, rfl, hO9, hb9⟩; rw [← HEE.out] at hO9; obtain ⟨A9, c9, rfl⟩ := hO9.shp; have hby := hO9.by_ (by omega); have hown2 := hownP.below hb9; have hbx := Below.tr hbr2 hb9; have hsz9 := hb9.size; have hsz := hbx.size; have hl : P.length + E.length ≤ 1073741824 := by omega
     clear hrow hownP hO9 hb9 hbr2
     go_wp2_with (at_builtin; go_loud (refine wpList_appB rfl (.tmp 31) (.tmp 33) rfl w2.heap.size (.slice A3 P.length c3) _ rfl hown2 A9 E.length c9 _ rfl hby hl hsz ?_); intro v8 w8 hown8 hg8 _)
     have hbz := hbx.grown hg8 hsz (fun q hq => hown2.ge q hq); clear hown2 hbx hg8; go_wp2_with fail
     go_roundg (G - 1)
     case measure => omega
     case rel => exact ⟨i + 1, P ++ E, by go_num, by omega, HP2, hown8, hbz⟩
  ·obtain rfl : i = 2 := by omega
   have t1 : decide (((2 : Nat) : Int) < 2) = false := by simp
   have e2 : P = E1 ++ E2 := HP.out; have HO2 := Lib.hid e2; have hbw3 := Below.tr hbw2 hbr; clear e2; obtain ⟨A7, c7, rfl⟩ := hown.shp; have HO := Lib.hid hown; clear hown; go_wp2_with fail; go_ret; exact ⟨_, rfl, by rw [← HO2.out]; exact HO.out.mono hbw2.size, hbw3⟩
end Go.Proofs.YtmbfjmilhfmnkaaGreatDoor
