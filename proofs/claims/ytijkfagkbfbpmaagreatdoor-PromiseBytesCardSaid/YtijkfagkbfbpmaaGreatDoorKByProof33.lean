import Derived.Test.YtijkfagkbfbpmaaGreatDoorKByProof31
import Derived.Test.YtijkfagkbfbpmaaGreatDoorKByProof32
import Derived.Lib.AppendZeros
import Derived.Deep.LoopGhost
import Derived.Test.YtijkfagkbfbpmaaGreatDoorKByProof19
import Derived.Test.YtijkfagkbfbpmaaGreatDoorKByProof13
import Derived.Test.YtijkfagkbfbpmaaGreatDoorKByProof14
import Derived.Test.YtijkfagkbfbpmaaGreatDoorKByProof17
import Derived.Test.YtijkfagkbfbpmaaGreatDoorKByProof16
import Derived.Test.YtijkfagkbfbpmaaGreatDoorKByProof26
import Derived.Test.YtijkfagkbfbpmaaGreatDoorKByProof12
import Derived.Test.YtijkfagkbfbpmaaGreatDoorKByProof11
import Derived.Test.YtijkfagkbfbpmaaGreatDoorKByProof27
import Derived.Test.YtijkfagkbfbpmaaGreatDoorKByProof01
import Derived.Test.YtijkfagkbfbpmaaGreatDoorKByProof08
import Derived.Test.YtijkfagkbfbpmaaGreatDoorKByProof25
import Derived.Test.YtijkfagkbfbpmaaGreatDoorS0
set_option linter.unusedVariables false
set_option linter.unusedSimpArgs false
namespace Go.Proofs.YtijkfagkbfbpmaaGreatDoor
open Go Go.RowKit
set_option maxRecDepth 100000 in
set_option maxHeartbeats 4000000 in
theorem wdig_n (A : Option Addr) (c : Nat) (d : DG) (dl : List Nat) (w : World) (h : RowS cellsDG w A 1 [d])
  (hdl : cellsDG d = dl.flatMap u8C) (h16 : dl.length = 16) (hb : ∀ x ∈ dl, x < 256) :
  Calls Tryz.prog 39 #[.slice A 1 c] w fun e w' => ∃ v, e = .returned v ∧ OwnB w' w.heap.size v (Wi.encI 1 ++ dl) ∧ Below w.heap.size w w' := by
 obtain ⟨bD, oD, rfl, HCD⟩ := h.at_ cellsDG_len (by omega) (i := 0) (by omega) (by simp); have HCD : Hid (∀ j v, (cellsDG d)[j]? = some v → w.cell? ⟨bD, oD + 0 * 16 + j, none⟩ = some v) := HCD; have HDL := Lib.hid hdl; have H16 := Lib.hid h16; have HB := Lib.hid hb; clear hdl h16 hb
 go_enter Tryz.func39, Tryz.ntmps39
 go_wp2_with fail; refine (wint_n 1 _ (by omega) (by omega)).mono ?_; rintro e w1 ⟨v0, rfl, ho0, hb0⟩; obtain ⟨A0, c0, rfl⟩ := ho0.shp; obtain ⟨L, HL⟩ : ∃ L, Hid (L = Wi.encI 1) := ⟨_, rfl⟩; have HL9 : Hid (L.length ≤ 9) := by rw [HL.out]; exact Wi.encI_len (by omega) (by omega)
 rw [← HL.out] at ho0 ⊢; go_wp2_with fail
 go_loopg [3, 11] 1 (fun j v x wr => ∃ (i : Nat) (P : List Nat), x = .int .i64 i ∧ i + j = 1 ∧ Hid (P = if i = 0 then L else L ++ dl) ∧ OwnB wr w.heap.size v P ∧ Below w.heap.size w wr)
 case atStart => exact ⟨0, L, rfl, rfl, (by show _ = _; rfl), ho0, hb0⟩
 case round =>
  obtain ⟨G, hG⟩ : ∃ G, G = gk := ⟨gk, rfl⟩; subst hG; clear ho0 hb0; obtain ⟨i, P, rfl, hij, HP, hown, hbe⟩ := hrel; obtain ⟨z, Hz⟩ : ∃ z, Hid (z = P.length) := ⟨_, rfl⟩; obtain ⟨A3, c3, rfl⟩ := hown.shp; rw [← Hz.out] at hown ⊢; by_cases hi : i < 1
  ·have t1 : decide ((i : Int) < 1) = true := by simp; omega
   have li : (i : Int) < 1 := by omega
   have HI0 : Hid (i = 0) := (by show _ = _; omega); have HP0 : Hid (P = L) := by show _ = _; rw [HP.out, if_pos HI0.out]
   have HCR : Hid (∀ j v, (cellsDG d)[j]? = some v → wr.cell? ⟨bD, oD + i * 16 + j, none⟩ = some v) := fun j v h => by rw [HI0.out]; exact cell_keep hbe (HCD.out j v h)
   have hax := bA wr (.cells (cellsDG d).toArray 31)
   have hby : By (wr.alloc (.cells (cellsDG d).toArray 31)) (some ⟨wr.heap.size, 0, none⟩) 16 16 dl := by
    refine ⟨⟨?_, H16.out.symm, by omega⟩, Nat.le_refl _, by omega, HB.out, fun _ => ⟨_, _, rfl⟩⟩; rw [← HDL.out]; exact Rd.newC wr 31 (cellsDG d)
   have hown2 := hown.below hax; have hbx := Below.tr hbe hax; have hsz := hbx.size; have hl : P.length + dl.length ≤ 1073741824 := by rw [H16.out, HP0.out]; have := HL9.out; omega
   clear hown hbe hax; have HDO : Hid ((cellsDG d).toArray.all (·.oneCell') = true) := all_oneCell_toArray (by intro v hv; rw [HDL.out] at hv; obtain ⟨x, _, hx⟩ := List.mem_flatMap.1 hv; simp only [u8C, List.mem_singleton] at hx; rw [hx]; rfl)
   go_wp2_with (first | (refine wpList_load_mid rfl 31 (.tmp 13) rfl bD (oD + i * 16) rfl (cellsDG d) _ HCR.out Tryz.underlying31 rfl infoDG ?_; simp only [Act.put, sA, sB, sC]) | (refine wpList_store_mid rfl 31 (.tmp 5) (.tmp 14) rfl wr.heap.size 0 (cellsDG d).toArray rfl rfl (there_new _ _ _ 16 (by simp)) infoDGs HDO.out ?_; rw [setCells_new]; rotate_left; rfl) | (at_builtin; go_loud (refine wpList_appB rfl (.tmp 15) (.tmp 16) rfl w.heap.size (.slice A3 z c3) _ rfl hown2 (some ⟨wr.heap.size, 0, none⟩) 16 16 dl rfl hby hl hsz ?_); intro v7 w7 hown7 hg7 _))
   have hbz := hbx.grown hg7 hsz (fun q hq => hown2.ge q hq)
   go_roundg (G - 1)
   case measure => omega
   case rel => exact ⟨i + 1, P ++ dl, by go_num, by omega, by show _ = _; rw [if_neg (by omega), HP0.out], hown7, hbz⟩
  have t1 : decide ((i : Int) < 1) = false := by simp; omega
  go_wp2_with fail; go_ret; refine ⟨_, rfl, ?_, hbe⟩; have e : P = Wi.encI 1 ++ dl := by rw [HP.out, if_neg (by omega), HL.out]
  rw [← e]; exact hown
set_option maxRecDepth 100000 in
set_option maxHeartbeats 4000000 in
theorem rdig_n (A : Option Addr) (c : Nat) (d : DG) (dl : List Nat) (w : World) (h : RowS cellsDG w A 1 [d])
  (hdl : cellsDG d = dl.flatMap u8C) (h16 : dl.length = 16) (hb : ∀ x ∈ dl, x < 256) :
  Calls Tryz.prog 73 #[.slice A 1 c] w fun e w' => ∃ v, e = .returned v ∧ OwnB w' w.heap.size v (Wi.encI 1 ++ dl) ∧ Below w.heap.size w w' := by
 obtain ⟨bD, oD, rfl, HCD⟩ := h.at_ cellsDG_len (by omega) (i := 0) (by omega) (by simp); have HCD : Hid (∀ j v, (cellsDG d)[j]? = some v → w.cell? ⟨bD, oD + 0 * 16 + j, none⟩ = some v) := HCD; have HDL := Lib.hid hdl; have H16 := Lib.hid h16; have HB := Lib.hid hb; clear hdl h16 hb
 go_enter Tryz.func73, Tryz.ntmps73
 go_wp2_with fail; refine (rint_n 1 _ (by omega) (by omega)).mono ?_; rintro e w1 ⟨v0, rfl, ho0, hb0⟩; obtain ⟨A0, c0, rfl⟩ := ho0.shp; obtain ⟨L, HL⟩ : ∃ L, Hid (L = Wi.encI 1) := ⟨_, rfl⟩; have HL9 : Hid (L.length ≤ 9) := by rw [HL.out]; exact Wi.encI_len (by omega) (by omega)
 rw [← HL.out] at ho0 ⊢; go_wp2_with fail
 go_loopg [3, 4] 1 (fun j v x wr => ∃ (i : Nat) (P : List Nat), x = .int .i64 i ∧ i + j = 1 ∧ Hid (P = if i = 0 then L else L ++ dl) ∧ OwnB wr w.heap.size v P ∧ Below w.heap.size w wr)
 case atStart => exact ⟨0, L, rfl, rfl, (by show _ = _; rfl), ho0, hb0⟩
 case round =>
  obtain ⟨G, hG⟩ : ∃ G, G = gk := ⟨gk, rfl⟩; subst hG; clear ho0 hb0; obtain ⟨i, P, rfl, hij, HP, hown, hbe⟩ := hrel; obtain ⟨z, Hz⟩ : ∃ z, Hid (z = P.length) := ⟨_, rfl⟩; obtain ⟨A3, c3, rfl⟩ := hown.shp; rw [← Hz.out] at hown ⊢; by_cases hi : i < 1
  ·have t1 : decide ((i : Int) < 1) = true := by simp; omega
   have li : (i : Int) < 1 := by omega
   have HI0 : Hid (i = 0) := (by show _ = _; omega); have HP0 : Hid (P = L) := by show _ = _; rw [HP.out, if_pos HI0.out]
   go_wp2_with fail
   go_loopg [3, 5] 16 (fun j v x wr => ∃ (q : Nat) (R : List Nat), x = .int .i64 q ∧ q + j = 16 ∧ Hid (R = L ++ dl.take q) ∧ OwnB wr w.heap.size v R ∧ Below w.heap.size w wr)
   case atStart => exact ⟨0, P, rfl, rfl, (by show _ = _; rw [HP0.out]; simp), hown, hbe⟩
   case round =>
    clear hown hbe; obtain ⟨G2, hG2⟩ : ∃ G, G = gk := ⟨gk, rfl⟩; subst hG2; obtain ⟨q, R, rfl, hqm, HR, hown, hbe⟩ := hrel; obtain ⟨zr, Hzr⟩ : ∃ z, Hid (z = R.length) := ⟨_, rfl⟩; obtain ⟨A4, c4, rfl⟩ := hown.shp; rw [← Hzr.out] at hown ⊢; by_cases hq : q < 16
    ·have t2 : decide ((q : Int) < 16) = true := by simp; omega
     have lq : (q : Int) < 16 := by omega
     have hqd : q < dl.length := by have := H16.out; omega
     obtain ⟨y, Hy⟩ : ∃ y, Hid (dl[q]? = some y ∧ y < 256) := ⟨dl[q], List.getElem?_eq_getElem hqd, HB.out _ (List.getElem_mem _)⟩
     have hcy : wr.cell? ⟨bD, oD + i * 16 + q, none⟩ = some (.int .u8 (y : Nat)) := by
      rw [HI0.out]; refine cell_keep hbe (HCD.out q _ ?_); have hy := Hy.out.1; rw [List.getElem?_eq_getElem hqd] at hy; injection hy with hy; have hg := flat_get u8C_len dl q 0 hqd (.int .u8 (dl[q] : Nat)) rfl; rw [Nat.mul_one, Nat.add_zero, hy] at hg; rw [HDL.out]; exact hg
     have hax := bA wr (.cells #[.int .u8 (y : Nat)] 5); have hby : By (wr.alloc (.cells #[.int .u8 (y : Nat)] 5)) (some ⟨wr.heap.size, 0, none⟩) 1 1 [y] := (OwnB.one wr y Hy.out.2).by_ (by simp); have hown2 := hown.below hax; have hbx := Below.tr hbe hax; have hsz := hbx.size; have hl : R.length + [y].length ≤ 1073741824 := by rw [HR.out, List.length_append, List.length_take]; have := HL9.out; simp; omega
     have HRY : Hid (R ++ [y] = L ++ dl.take (q + 1)) := by show _ = _; rw [HR.out, List.append_assoc, List.take_add_one, Hy.out.1]; rfl
     clear hown hbe hax hqd
     go_wp2_with (first | (at_builtin; go_loud (refine wpList_appB rfl (.tmp 19) (.tmp 26) rfl w.heap.size (.slice A4 zr c4) _ rfl hown2 (some ⟨wr.heap.size, 0, none⟩) 1 1 [y] rfl hby hl hsz ?_); intro v7 w7 hown7 hg7 _))
     have hbz := hbx.grown hg7 hsz (fun q hq => hown2.ge q hq)
     go_roundg (G2 - 1)
     case measure => omega
     case rel => exact ⟨q + 1, R ++ [y], by go_num, by omega, HRY, hown7, hbz⟩
    have t2 : decide ((q : Int) < 16) = false := by simp; omega
    go_wp2_with fail
    go_roundg (G - 1)
    case measure => omega
    case rel => exact ⟨i + 1, R, by go_num, by omega, (by show _ = _; rw [if_neg (by omega), HR.out, List.take_of_length_le (by have := H16.out; omega)]), hown, hbe⟩
  have t1 : decide ((i : Int) < 1) = false := by simp; omega
  go_wp2_with fail; go_ret; refine ⟨_, rfl, ?_, hbe⟩; have e : P = Wi.encI 1 ++ dl := by rw [HP.out, if_neg (by omega), HL.out]
  rw [← e]; exact hown
end Go.Proofs.YtijkfagkbfbpmaaGreatDoor
namespace Go.Proofs.YtijkfagkbfbpmaaGreatDoor
open Go Go.RowKit
theorem zeroU8_size : (Value.int .u8 0).cells.size = 1 := by kernel_rfl
theorem int_underB : Tryz.prog.underlying 3 = some (.int .i64) := by kernel_rfl
set_option maxRecDepth 10000 in
set_option maxHeartbeats 400000 in
theorem growB_n (n : Nat) (w : World) (hn : n ≤ 1099511627776) :
  Calls Tryz.prog 117 #[.slice none 0 0, .int .i64 n] w fun e w' => ∃ v, e = .returned v ∧ OwnB w' w.heap.size v [] ∧ Below w.heap.size w w' := by
 rcases Nat.eq_zero_or_pos n with rfl | h0
 ·go_enter Tryz.func117, Tryz.ntmps117
  go_wp2_with fail; go_ret; exact ⟨_, rfl, OwnB.nil w _, Below.refl _ _⟩
 ·obtain ⟨i0, hi, hz0, hz1, hz2⟩ := info_parts info_u8; have happ := Lib.run_append_nil_zeros (P := Tryz.prog) w 72 3 72 5 i0 (.int .u8 0) .i64 .i64 Tryz.underlying72 int_underB hi hz0 n h0 (by omega) (by omega) (by rw [hz2]; omega); have hge := grownCap_ge w n 0 5; have hle := grownCap_le_maxLen w n 0 5 (by simp only [maxLen]; omega); obtain ⟨C, HC⟩ : ∃ C, Hid (C = grownCap w n 0 5) := ⟨_, rfl⟩; rw [← HC.out] at happ hge hle; obtain ⟨W, HW⟩ : ∃ W, Hid (W = w.drew.alloc (.cells (Builtin.zeroCells (Value.int .u8 0).cells n ++ Builtin.zeroCells (Value.int .u8 0).cells (C - n)) 5)) := ⟨_, rfl⟩; rw [← HW.out] at happ
  have hown : W.ownsRow w.heap.size 5 1 (.slice (some ⟨w.heap.size, 0, none⟩) 0 C) 0 [] := by
   refine ⟨rfl, .inr ⟨w.heap.size, C, Builtin.zeroCells (Value.int .u8 0).cells n ++ Builtin.zeroCells (Value.int .u8 0).cells (C - n), rfl, Nat.le_refl _, ?_, by omega, hle, ?_, rfl⟩⟩
   ·rw [HW.out]; exact heap_alloc_new w.drew _
   ·simp only [Array.size_append, size_zeroCells, zeroU8_size, ← Nat.add_mul]; congr 1; omega
  have hb : Below w.heap.size w W := by rw [HW.out]; exact Below.tr (bD w) (bA _ _)
  have hle2 : C ≤ 9223372036854775807 := by simpa [maxLen] using hle
  have HO := Lib.hid hown; clear hown hle HC hi hz0 hz1 hz2
  go_enter Tryz.func117, Tryz.ntmps117
  go_wp2_with (at_builtin; refine Lib.wpList_append_run _ rfl _ _ _ _ rfl _ _ rfl rfl _ _ happ ?_)
  go_ret; exact ⟨_, rfl, ⟨HO.out, fun x hx => by cases hx⟩, hb⟩
/-- a slice of bytes -/
structure SLB where
 A : Option Addr
 k : Nat
 c : Nat
 l : List Nat
def slBc (s : SLB) : List Value := [.slice s.A s.k s.c]
theorem slBc_len (s : SLB) : (slBc s).length = 1 := rfl
def sumB (l : List SLB) : Nat := (l.map (·.k)).sum
def allBy (l : List SLB) : List Nat := l.flatMap (·.l)
theorem sumB_take {l : List SLB} {i : Nat} (h : i < l.length) : sumB (l.take (i + 1)) = sumB (l.take i) + l[i].k := by
 unfold sumB; rw [List.take_succ_eq_append_getElem h, List.map_append, List.sum_append]; simp only [List.map_cons, List.map_nil, List.sum_cons, List.sum_nil, Nat.add_zero]
theorem allBy_take {l : List SLB} {i : Nat} (h : i < l.length) : allBy (l.take (i + 1)) = allBy (l.take i) ++ l[i].l := by
 unfold allBy; rw [List.take_succ_eq_append_getElem h, List.flatMap_append]; simp only [List.flatMap_cons, List.flatMap_nil, List.append_nil]
theorem sumB_le {l : List SLB} (i : Nat) : sumB (l.take i) ≤ sumB l := by
 have h : (l.map (·.k)).sum = ((l.take i ++ l.drop i).map (·.k)).sum := by rw [List.take_append_drop]
 rw [List.map_append, List.sum_append] at h; unfold sumB; omega
theorem RowS.slB {w : World} {A : Option Addr} {k : Nat} {l : List SLB} (h : RowS slBc w A k l) {i : Nat} (hi : i < k) : ∃ b off, ∃ s : SLB, A = some ⟨b, off, none⟩ ∧ w.cell? ⟨b, off + i, none⟩ = some (.slice s.A s.k s.c) ∧ Hid (∃ h : i < l.length, l[i] = s) := by
 have hil : i < l.length := by have := h.2.1; omega
 obtain ⟨b, off, hA, hc⟩ := h.at_ slBc_len (by omega) hi hil; refine ⟨b, off, l[i], hA, ?_, hil, rfl⟩; have := hc.out 0 _ rfl
 rwa [Nat.mul_one, Nat.add_zero] at this
theorem allBy_len {w : World} {l : List SLB} (h : ∀ s ∈ l, By w s.A s.k s.c s.l) : (allBy l).length = sumB l := by
 induction l with
 | nil => rfl
 | cons s q ih =>
  have e : (allBy (s :: q)).length = s.l.length + (allBy q).length := by simp [allBy]
  have e2 : sumB (s :: q) = s.k + sumB q := by simp [sumB]
  rw [e, e2, ih (fun y hy => h y (by simp [hy])), (h s (by simp)).len]
set_option maxRecDepth 10000 in
set_option maxHeartbeats 2000000 in
theorem concB_n (S : Option Addr) (ks cs : Nat) (l : List SLB) (w : World) (hr : RowS slBc w S ks l) (HS : Hid (∀ s ∈ l, By w s.A s.k s.c s.l)) (hsz : sumB l ≤ 1073741824) :
  Calls Tryz.prog 67 #[.slice S ks cs] w fun e w' => ∃ v, e = .returned v ∧ OwnB w' w.heap.size v (allBy l) ∧ Below w.heap.size w w' := by
 have hk := hr.2.2; have HK := Lib.hid hr.2.1
 go_enter Tryz.func67, Tryz.ntmps67
 go_wp2_with fail
 go_loopg [3, 11] ks (fun j a x wr => ∃ i : Nat, x = .int .i64 i ∧ i + j = ks ∧ a = .int .i64 (sumB (l.take i) : Nat) ∧ w = wr)
 case atStart => exact ⟨0, rfl, by omega, by simp [sumB], rfl⟩
 case round =>
  obtain ⟨i, rfl, hij, rfl, rfl⟩ := hrel; by_cases hi : i < ks
  ·obtain ⟨b, off, s, rfl, hc, HSI⟩ := hr.slB hi; have e1 : Hid (sumB (l.take (i + 1)) = sumB (l.take i) + s.k) := by obtain ⟨h, e⟩ := HSI.out; show _ = _; rw [sumB_take h, e]
   have hle : sumB (l.take i) + s.k ≤ 1073741824 := by have := sumB_le (l := l) (i + 1); have := e1.out; omega
   go_wp2_with fail
   go_roundg (gk - 1)
   case measure => omega
   case rel => exact ⟨i + 1, by go_num, by omega, by rw [e1.out]; congr 1, rfl⟩
  ·obtain rfl : ks = i := by omega
   have e1 : Hid (l.take ks = l) := by show _ = _; rw [HK.out]; exact List.take_of_length_le (Nat.le_refl _)
   rw [e1.out]; obtain ⟨N, HN⟩ : ∃ N, Hid (N = sumB l) := ⟨_, rfl⟩; rw [← HN.out] at hsz ⊢; go_wp2_with fail; refine (growB_n N _ (by omega)).mono ?_; rintro e w1 ⟨v, rfl, hown, hb⟩; go_wp2_with fail
   go_loopg [6, 27] ks (fun j v x wx => ∃ i : Nat, x = .int .i64 i ∧ i + j = ks ∧ OwnB wx w.heap.size v (allBy (l.take i)) ∧ Below w.heap.size w wx)
   case atStart => exact ⟨0, rfl, by omega, by simpa [allBy] using hown, hb⟩
   case round =>
    clear hown hb; obtain ⟨i, rfl, hij, hown, hb⟩ := hrel; by_cases hi : i < ks
    ·obtain ⟨b, off, s, rfl, hc, HSI⟩ := (hr.below hb).slB hi; have e2 : Hid (sumB (l.take (i + 1)) = sumB (l.take i) + s.k ∧ allBy (l.take (i + 1)) = allBy (l.take i) ++ s.l) := by obtain ⟨h, e⟩ := HSI.out; exact ⟨by rw [sumB_take h, e], by rw [allBy_take h, e]⟩
     have hle : sumB (l.take i) + s.k ≤ 1073741824 := by have := sumB_le (l := l) (i + 1); have := e2.out.1; have := HN.out; omega
     have hs := (HS.out s (by obtain ⟨h, e⟩ := HSI.out; rw [← e]; exact List.getElem_mem h)).below hb; have hlT : (allBy (l.take i)).length = sumB (l.take i) := allBy_len fun y hy => HS.out y (List.mem_of_mem_take hy)
     have hl30 : (allBy (l.take i)).length + s.l.length ≤ 1073741824 := by rw [hlT, ← hs.len]; exact hle
     have hbs := hb.size; obtain ⟨Y, HY⟩ : ∃ Y, Hid (Y = allBy (l.take i)) := ⟨_, rfl⟩; rw [← HY.out] at hown hl30; clear hlT hle
     go_wp2_with (at_builtin; refine wpList_appB rfl (.tmp 31) (.tmp 32) rfl w.heap.size _ Y rfl hown s.A s.k s.c s.l rfl hs hl30 hbs ?_; intro v1 w2 hown1 hg1 hat1)
     go_roundg (gk - 1)
     case measure => omega
     case rel =>
      refine ⟨i + 1, by go_num, by omega, ?_, hb.grown hg1 hbs hown.ge⟩; rw [e2.out.2, ← HY.out]; exact hown1
    ·obtain rfl : ks = i := by omega
     rw [e1.out] at hown; go_wp2_with fail; go_ret; exact ⟨_, rfl, hown, hb⟩
end Go.Proofs.YtijkfagkbfbpmaaGreatDoor
namespace Go.Proofs.YtijkfagkbfbpmaaGreatDoor
open Go Go.RowKit
theorem flat_map8 (l : List Nat) : l.flatMap u8C = l.map fun n : Nat => (Value.int .u8 (n : Int)) := by
 induction l with
 | nil => rfl
 | cons x l ih => rw [List.flatMap_cons, ih]; rfl
/-- a part of a slice of bytes -/
theorem By.sub {w : World} {b0 o0 k c : Nat} {l : List Nat} (h : By w (some ⟨b0, o0, none⟩) k c l) (a m : Nat) (hm : a + m ≤ k) : By w (some ⟨b0, o0 + a, none⟩) m (c - a) ((l.drop a).take m) := by
 have hl := h.len; have hk := h.1.2.2; have h2 := h.2.1; have h3 := h.2.2.1; refine ⟨⟨?_, by rw [List.length_take, List.length_drop]; omega, by omega⟩, by omega, by omega, fun x hx => h.2.2.2.1 x (List.mem_of_mem_drop (List.mem_of_mem_take hx)), fun _ => ⟨_, _, rfl⟩⟩; intro _; refine ⟨b0, o0 + a, rfl, fun i hi => ?_⟩; rw [flat_u8, List.length_take, List.length_drop] at hi; obtain ⟨b, off, n, e, hc, _, HL⟩ := h.get (i := a + i) (by omega); simp only [Option.some.injEq, Addr.mk.injEq, and_true] at e; obtain ⟨rfl, rfl⟩ := e; rw [Nat.add_assoc, hc]; simp only [flat_map8, List.getElem_map, List.getElem_take, List.getElem_drop]; have := (List.getElem?_eq_some_iff.1 HL.out).2; rw [this]
end Go.Proofs.YtijkfagkbfbpmaaGreatDoor
namespace Go.Proofs.YtijkfagkbfbpmaaGreatDoor
open Go Go.RowKit
end Go.Proofs.YtijkfagkbfbpmaaGreatDoor
namespace Go.Proofs.YtijkfagkbfbpmaaGreatDoor
open Go Go.RowKit
end Go.Proofs.YtijkfagkbfbpmaaGreatDoor
namespace Go.Proofs.YtijkfagkbfbpmaaGreatDoor
open Go Go.RowKit
/-- a row of integers of the call's own -/
def OwnI (w : World) (base : Nat) (v : Value) (X : List Int) : Prop := w.ownsRow base 3 1 v X.length (X.flatMap intC)
theorem OwnI.shp {w : World} {base : Nat} {v : Value} {l : List Int} (h : OwnI w base v l) : ∃ A c, v = .slice A l.length c := own_shp h
theorem OwnI.below {w w' : World} {base : Nat} {v : Value} {l : List Int} (h : OwnI w base v l) (hb : Below w.heap.size w w') : OwnI w' base v l := own_below h hb
theorem OwnI.mono {w : World} {base base' : Nat} {v : Value} {l : List Int} (h : OwnI w base v l) (hb : base' ≤ base) : OwnI w base' v l := own_mono h hb
theorem OwnI.ge {w : World} {base : Nat} {v : Value} {l : List Int} (h : OwnI w base v l) : ∀ k, v.ownBlock = some k → base ≤ k := own_block_ge h
theorem OwnI.nil (w : World) (base : Nat) : OwnI w base (.slice none 0 0) [] := World.ownsRow_nil _ _ _ _
theorem OwnI.row {w : World} {base : Nat} {A : Option Addr} {k c : Nat} {l : List Int} (h : OwnI w base (.slice A k c) l) (hl : l.length ≤ 281474976710656) : RowL intC w A k l := by
 obtain ⟨A', c', e⟩ := h.shp; injection e with e1 e2 e3; subst e1 e2 e3; obtain ⟨r1, r2, r3⟩ := own_any intC_len (by omega) hl h; exact ⟨r1, r2, by omega⟩
theorem flat_int (l : List Int) : (l.flatMap intC).length = l.length := by rw [flat_len intC_len, Nat.mul_one]
theorem RowL.newI (w : World) (x : Int) : RowL intC (w.alloc (.cells #[.int .i64 x] 3)) (some ⟨w.heap.size, 0, none⟩) 1 [x] := ⟨Rd.newC w 3 [.int .i64 x], rfl, by omega⟩
theorem wpList_appI {ops : Array Oper} {rest : List Oper} {o : Oper} {a : Act} {w : World} {Q : Exit → Act → World → Prop} (hgd : o.guard = none) (s x : Operand) (ho : o.op = .call { callee := .builtin .append, args := #[s, x], argTypes := #[22, 22] })
  (base : Nat) (v : Value) (l : List Int) (hs : a.eval s = v) (h : OwnI w base v l) (A : Option Addr) (m c : Nat) (news : List Int) (hx : a.eval x = .slice A m c) (hn : RowL intC w A m news) (hl : l.length + news.length ≤ 1073741824) (hb : base ≤ w.heap.size)
  (hK : ∀ v' w', OwnI w' base v' (l ++ news) → w.grownBy w' v.ownBlock → (v'.ownBlock = v.ownBlock ∨ v'.ownBlock = some w.heap.size) → wpList Tryz.prog ops Q rest (a.put o.dst v') w') : wpList Tryz.prog ops Q (o :: rest) a w := by
 obtain ⟨iR, hi, hz, hsz, hby⟩ := info_parts info_int; have hm := hn.2.1; refine wpList_append_all hgd (fun _ => True) s x 22 ho base 3 iR (.int .i64 0) 1 8 Tryz.underlying22 hi hz hsz hby rfl (by omega) v l.length _ hs h A m c (news.flatMap intC) hx (by rw [flat_int]; omega) hn.1 ?_ (by simp only [maxLen]; omega) (by omega) hb (fun _ _ => trivial) (fun _ _ => trivial) (fun _ _ _ _ _ => trivial) ?_
 ·intro u hu; obtain ⟨d, _, hd⟩ := List.mem_flatMap.1 hu; simp only [intC, List.mem_singleton] at hd; subst hd; rfl
 ·intro v' w' k1 k2 k3 _; refine hK v' w' ?_ k2 k3; unfold OwnI; rw [List.length_append, List.flatMap_append, ← hm]; exact k1
/-- the slice from a position on -/
theorem By.from {w : World} {b0 o0 k c : Nat} {l : List Nat} (h : By w (some ⟨b0, o0, none⟩) k c l) (a : Nat) (hm : a ≤ k) : By w (some ⟨b0, o0 + a, none⟩) (k - a) (c - a) (l.drop a) := by
 have hs := h.sub a (k - a) (by omega); rw [List.take_of_length_le (by rw [List.length_drop]; have := h.len; omega)] at hs; exact hs
/- getN: the rounds -/
end Go.Proofs.YtijkfagkbfbpmaaGreatDoor
namespace Go.Proofs.YtijkfagkbfbpmaaGreatDoor
open Go Go.RowKit
end Go.Proofs.YtijkfagkbfbpmaaGreatDoor
namespace Go.Proofs.YtijkfagkbfbpmaaGreatDoor
open Go Go.RowKit
end Go.Proofs.YtijkfagkbfbpmaaGreatDoor
namespace Go.Proofs.YtijkfagkbfbpmaaGreatDoor
open Go Go.RowKit
theorem lb_pos {x : Nat} (h : (Nm.lb x).length ≠ 0) : 0 < x := by
 rcases Nat.eq_zero_or_pos x with rfl | h0
 ·exact absurd (by rw [Nm.lb_zero]; rfl) h
 ·exact h0
end Go.Proofs.YtijkfagkbfbpmaaGreatDoor
namespace Go.Proofs.YtijkfagkbfbpmaaGreatDoor
open Go Go.RowKit
end Go.Proofs.YtijkfagkbfbpmaaGreatDoor
namespace Go.Proofs.YtijkfagkbfbpmaaGreatDoor
open Go Go.RowKit
end Go.Proofs.YtijkfagkbfbpmaaGreatDoor
namespace Go.Proofs.YtijkfagkbfbpmaaGreatDoor
open Go Go.RowKit
end Go.Proofs.YtijkfagkbfbpmaaGreatDoor
namespace Go.Proofs.YtijkfagkbfbpmaaGreatDoor
open Go Go.RowKit
theorem Nb.dig (w : World) (d : Nat) (h0 : 0 < d) (h : d < 4294967296) : Nb (w.alloc (.cells #[.int .u32 (d : Int)] 104)) (some ⟨w.heap.size, 0, none⟩) 1 1 d := by
 have hd : d < Nm.B := by unfold Nm.B; omega
 have e : Nm.lb d = [d] := by
  exact Nm.lb_small (by omega) hd
 have h : Row (w.alloc (.cells #[.int .u32 (d : Int)] 104)) w.heap.size [d] := ⟨Blk.new w _ _, fun x hx => by rw [List.mem_singleton.1 hx]; exact hd⟩; have := h.lim (c := 1) (by simp) (by omega); rw [← e] at this; exact ⟨by rw [e]; rfl, this⟩
end Go.Proofs.YtijkfagkbfbpmaaGreatDoor
namespace Go.Proofs.YtijkfagkbfbpmaaGreatDoor
open Go Go.RowKit
end Go.Proofs.YtijkfagkbfbpmaaGreatDoor
namespace Go.Proofs.YtijkfagkbfbpmaaGreatDoor.Nm
end Go.Proofs.YtijkfagkbfbpmaaGreatDoor.Nm
namespace Go.Proofs.YtijkfagkbfbpmaaGreatDoor
open Go Go.RowKit
end Go.Proofs.YtijkfagkbfbpmaaGreatDoor
namespace Go.Proofs.YtijkfagkbfbpmaaGreatDoor
open Go Go.RowKit
section
variable {w0 W : World} {g gO gB g1 : Nat} {Cs : List (Nat × Nat × Value)}
end
end Go.Proofs.YtijkfagkbfbpmaaGreatDoor
namespace Go.Proofs.YtijkfagkbfbpmaaGreatDoor
open Go.RowKit
end Go.Proofs.YtijkfagkbfbpmaaGreatDoor
namespace Go.Proofs.YtijkfagkbfbpmaaGreatDoor
open Go.RowKit
/- ratio.Power, where the power fits -/
end Go.Proofs.YtijkfagkbfbpmaaGreatDoor
namespace Go.Proofs.YtijkfagkbfbpmaaGreatDoor
open Go.RowKit
end Go.Proofs.YtijkfagkbfbpmaaGreatDoor
namespace Go.Proofs.YtijkfagkbfbpmaaGreatDoor
open Go Go.RowKit
end Go.Proofs.YtijkfagkbfbpmaaGreatDoor
namespace Go.Proofs.YtijkfagkbfbpmaaGreatDoor
open Go Go.RowKit
end Go.Proofs.YtijkfagkbfbpmaaGreatDoor
namespace Go.Proofs.YtijkfagkbfbpmaaGreatDoor
open Go Go.RowKit
/-- the old blocks but one are as they were -/
structure KG (B g : Nat) (w w' : World) : Prop where
 blk : ∀ b, b < B → b ≠ g → w'.heap[b]? = w.heap[b]?
 size : w.heap.size ≤ w'.heap.size
theorem KG.refl (B g : Nat) (w : World) : KG B g w w := ⟨fun _ _ _ => rfl, Nat.le_refl _⟩
theorem KG.trans {B g : Nat} {w w' w'' : World} (h : KG B g w w') (k : KG B g w' w'') : KG B g w w'' := ⟨fun b h1 h2 => (k.blk b h1 h2).trans (h.blk b h1 h2), Nat.le_trans h.size k.size⟩
theorem KG.below {B g : Nat} {w w' : World} (hb : Below w.heap.size w w') (hB : B ≤ w.heap.size) : KG B g w w' := ⟨fun b h1 _ => hb.block b (by omega), hb.size⟩
theorem KG.grown {B g : Nat} {w w' : World} {row : Option Nat} (k : w.grownBy w' row) (hB : B ≤ w.heap.size) (hr : ∀ q, row = some q → B ≤ q) : KG B g w w' := ⟨fun b h1 _ => k.block b (by omega) (fun e => by have := hr b e.symm; omega), k.size⟩
theorem KG.store {B g : Nat} {w : World} (i : Nat) (v : Value) : KG B g w (w.setCell ⟨g, i, none⟩ v) := ⟨fun b _ h2 => Below.heap_setCell w ⟨g, i, none⟩ v b h2, by simp⟩
theorem OwnI.keep {B g base : Nat} {w w' : World} {v : Value} {l : List Int} (h : OwnI w base v l) (k : KG B g w w') (hB : w.heap.size ≤ B) (hg : g < base) : OwnI w' base v l := ownsRow_keep h fun b hb => k.blk b (by have := ownsRow_lt h b hb; omega) (fun e => by have := h.ge b hb; omega)
/- limbs out of integers -/
def inR (x : Int) : Bool := decide (0 ≤ x) && decide (x ≤ 4294967295)
def u32N (x : Int) : Nat := (x % 4294967296).toNat
def limE (X : List Int) : Bool := X.all inR
def limX (X : List Int) : List Nat := X.map u32N
/-- what Decode says: the ratio, the length, the error -/
noncomputable def decF (l : List Nat) : LP × Nat × Int :=
 if (Wi.getIs l).2.2 ≠ 0 then (nilP, 0, (Wi.getIs l).2.2)
 else if (Wi.getIs (l.drop (Wi.getIs l).2.1)).2.2 ≠ 0 then (nilP, 0, (Wi.getIs (l.drop (Wi.getIs l).2.1)).2.2)
 else if (limE (Wi.getIs l).1 && limE (Wi.getIs (l.drop (Wi.getIs l).2.1)).1) = false ∨ validP (limX (Wi.getIs l).1, limX (Wi.getIs (l.drop (Wi.getIs l).2.1)).1) ≠ 0 then (nilP, 0, 2)
 else ((limX (Wi.getIs l).1, limX (Wi.getIs (l.drop (Wi.getIs l).2.1)).1), (Wi.getIs l).2.1 + (Wi.getIs (l.drop (Wi.getIs l).2.1)).2.1, 0)
end Go.Proofs.YtijkfagkbfbpmaaGreatDoor
namespace Go.Proofs.YtijkfagkbfbpmaaGreatDoor
open Go Go.RowKit
end Go.Proofs.YtijkfagkbfbpmaaGreatDoor
namespace Go.Proofs.YtijkfagkbfbpmaaGreatDoor
open Go Go.RowKit
end Go.Proofs.YtijkfagkbfbpmaaGreatDoor
namespace Go.Proofs.YtijkfagkbfbpmaaGreatDoor
open Go Go.RowKit
/-- limbs as integers -/
def castI (l : List Nat) : List Int := l.map fun x : Nat => (x : Int)
theorem castI_len (l : List Nat) : (castI l).length = l.length := by unfold castI; rw [List.length_map]
theorem castI_take {l : List Nat} {i d : Nat} (hi : i < l.length) (h : d = l.getD i 0) : castI (l.take (i + 1)) = castI (l.take i) ++ [(d : Int)] := by
 unfold castI; rw [List.take_add_one, List.map_append, List.getElem?_eq_getElem hi]; simp [List.getD, hi] at h; simp [h]
set_option maxRecDepth 100000 in
set_option maxHeartbeats 4000000 in
theorem uints_n (A : Option Addr) (k c : Nat) (l : List Nat) (w : World) (h : Lim w A c l) (hk : k = l.length) (hk2 : k ≤ 1073741823) :
  Calls Tryz.prog 120 #[.slice A k c] w fun e w' => ∃ v, e = .returned v ∧ OwnI w' w.heap.size v (castI l) ∧ Below w.heap.size w w' := by
 have HLEN := Lib.hid hk; clear hk
 go_enter Tryz.func120, Tryz.ntmps120
 go_wp2_with fail
 go_loopg [3, 4] k (fun j v x wr => ∃ i : Nat, x = .int .i64 i ∧ i + j = k ∧ OwnI wr w.heap.size v (castI (l.take i)) ∧ Below w.heap.size w wr)
 case atStart => exact ⟨0, rfl, by omega, OwnI.nil _ _, Below.refl _ _⟩
 case round =>
  obtain ⟨G, hG⟩ : ∃ G, G = gk := ⟨gk, rfl⟩; subst hG; obtain ⟨i, rfl, hij, hown, hbe⟩ := hrel; by_cases hi : i < k
  ·have t1 : decide ((i : Int) < (k : Int)) = true := by simp; omega
   have hik : (i : Int) < (k : Int) := by omega
   obtain ⟨b, o, d, rfl, hc, hd, HD⟩ := (h.below hbe).get (k := i) (by rw [← HLEN.out]; exact hi); have tm : (d : Int) % 18446744073709551616 = (d : Int) := by omega
   have HX2 : Hid (castI (l.take i) ++ [(d : Int)] = castI (l.take (i + 1))) := by show _ = _; rw [castI_take (by rw [← HLEN.out]; exact hi) HD.out]
   have hbA := bA wr (.cells #[.int .i64 (d : Int)] 3); have hown2 := hown.below hbA; have hrd := RowL.newI wr (d : Int); have hl : (castI (l.take i)).length + [(d : Int)].length ≤ 1073741824 := by rw [castI_len, List.length_take]; simp; omega
   have hbx := Below.tr hbe hbA; have hsz := hbx.size; clear hown hbA hbe HD
   go_wp2_with (at_builtin; go_loud (refine wpList_appI rfl (.tmp 11) (.tmp 17) rfl w.heap.size _ _ rfl hown2 (some ⟨wr.heap.size, 0, none⟩) 1 1 [(d : Int)] rfl hrd hl hsz ?_); intro v7 w7 hown7 hg7 _)
   have hbz := hbx.grown hg7 hsz (fun q hq => hown2.ge q hq); rw [HX2.out] at hown7; clear hown2 hbx hg7; go_wp2_with fail
   go_roundg (G - 1)
   case measure => omega
   case rel => exact ⟨i + 1, by go_num, by omega, hown7, hbz⟩
  ·obtain rfl : i = k := by omega
   have t1 : decide ((i : Int) < (i : Int)) = false := by simp
   have e1 : l.take i = l := List.take_of_length_le (by rw [← HLEN.out]; exact Nat.le_refl _); rw [e1] at hown; obtain ⟨A7, c7, rfl⟩ := hown.shp; have HO := Lib.hid hown; clear hown e1; go_wp2_with fail; go_ret; exact ⟨_, rfl, HO.out, hbe⟩
theorem enc_take {X : List Int} {i : Nat} {x : Int} (h : X[i]? = some x) : (X.take (i + 1)).flatMap Wi.encI = (X.take i).flatMap Wi.encI ++ Wi.encI x := by
 rw [List.take_add_one, h, List.flatMap_append]; simp
theorem enc_len (X : List Int) (h : ∀ x ∈ X, -9223372036854775808 ≤ x ∧ x ≤ 9223372036854775807) : (X.flatMap Wi.encI).length ≤ 9 * X.length := by
 induction X with
 | nil => simp
 | cons x X ih =>
  have h1 := ih fun y hy => h y (List.mem_cons_of_mem _ hy)
  have h2 := h x (List.mem_cons_self ..); have h3 := Wi.encI_len h2.1 h2.2; rw [List.flatMap_cons, List.length_append, List.length_cons]; omega
theorem encIs_len {X : List Int} (h : ∀ x ∈ X, -9223372036854775808 ≤ x ∧ x ≤ 9223372036854775807) (hl : X.length ≤ 9223372036854775807) : (Wi.encIs X).length ≤ 9 * X.length + 9 := by
 unfold Wi.encIs; have h1 := enc_len X h; have h2 := Wi.encI_len (n := (X.length : Int)) (by omega) (by omega); rw [List.length_append]; omega
theorem encIs_pos (X : List Int) : 0 < (Wi.encIs X).length := by
 unfold Wi.encIs Wi.encI Wi.encK; simp
set_option maxRecDepth 100000 in
set_option maxHeartbeats 4000000 in
theorem rints_n (A : Option Addr) (k c : Nat) (X : List Int) (w : World) (h : RowL intC w A k X) (hr : ∀ x ∈ X, -9223372036854775808 ≤ x ∧ x ≤ 9223372036854775807) (hk : k ≤ 67108864) :
  Calls Tryz.prog 70 #[.slice A k c] w fun e w' => ∃ v, e = .returned v ∧ OwnB w' w.heap.size v (Wi.encIs X) ∧ Below w.heap.size w w' := by
 have HLEN := Lib.hid h.2.1; have HR := Lib.hid hr; clear hr; have hkm : -9223372036854775808 ≤ (k : Int) := by omega
 have hkM : (k : Int) ≤ 9223372036854775807 := by omega
 go_enter Tryz.func70, Tryz.ntmps70
 go_wp2_with fail; refine (rint_n (k : Int) _ hkm hkM).mono ?_; rintro e w1 ⟨v0, rfl, ho0, hb0⟩; obtain ⟨A0, c0, rfl⟩ := ho0.shp; obtain ⟨L, HL⟩ : ∃ L, Hid (L = Wi.encI (k : Int)) := ⟨_, rfl⟩; have hL9 : L.length ≤ 9 := by rw [HL.out]; exact Wi.encI_len hkm hkM
 rw [← HL.out] at ho0 ⊢; clear hkm hkM; go_wp2_with fail
 go_loopg [3, 4] k (fun j v x wr => ∃ (i : Nat) (P : List Nat), x = .int .i64 i ∧ i + j = k ∧ Hid (P = L ++ (X.take i).flatMap Wi.encI) ∧ OwnB wr w.heap.size v P ∧ Below w.heap.size w wr)
 case atStart => exact ⟨0, L, rfl, by omega, (by show _ = _; simp), ho0, hb0⟩
 case round =>
  obtain ⟨G, hG⟩ : ∃ G, G = gk := ⟨gk, rfl⟩; subst hG; clear ho0 hb0; obtain ⟨i, P, rfl, hij, HP, hown, hbe⟩ := hrel; by_cases hi : i < k
  ·have t1 : decide ((i : Int) < (k : Int)) = true := by simp; omega
   have hik : (i : Int) < (k : Int) := by omega
   obtain ⟨b, o, x, rfl, hc, HX⟩ := (h.below hbe).int hi; obtain ⟨x1, x2⟩ := HR.out x (List.mem_of_getElem? HX.out); obtain ⟨Z, HZ⟩ : ∃ Z, Hid (Z = Wi.encI x) := ⟨_, rfl⟩; have HX2 : Hid (P ++ Z = L ++ (X.take (i + 1)).flatMap Wi.encI) := by show _ = _; rw [HP.out, HZ.out, enc_take HX.out, List.append_assoc]
   have hl9 : Z.length ≤ 9 := by rw [HZ.out]; exact Wi.encI_len x1 x2
   have hlT : P.length ≤ 9 + 9 * k := by
    rw [HP.out]; have := enc_len (X.take i) fun y hy => HR.out y (List.mem_of_mem_take hy)
    rw [List.length_take] at this; rw [List.length_append]; omega
   obtain ⟨A3, c3, rfl⟩ := hown.shp; go_wp2_with fail; refine (rint_n x _ x1 x2).mono ?_; rintro e w2 ⟨v1, rfl, ho1, hb1⟩; rw [← HZ.out] at ho1; obtain ⟨A1, c1, rfl⟩ := ho1.shp; have hby := ho1.by_ (by omega); have hown2 := hown.below hb1; have hbx := Below.tr hbe hb1; have hsz := hbx.size; have hl : P.length + Z.length ≤ 1073741824 := by omega
   clear hown hbe hb1 ho1
   go_wp2_with (at_builtin; go_loud (refine wpList_appB rfl (.tmp 14) (.tmp 19) rfl w.heap.size (.slice A3 P.length c3) _ rfl hown2 A1 Z.length c1 _ rfl hby hl hsz ?_); intro v7 w7 hown7 hg7 _)
   have hbz := hbx.grown hg7 hsz (fun q hq => hown2.ge q hq); clear hown2 hbx hg7; go_wp2_with fail
   go_roundg (G - 1)
   case measure => omega
   case rel => exact ⟨i + 1, P ++ Z, by go_num, by omega, HX2, hown7, hbz⟩
  ·obtain rfl : i = k := by omega
   have t1 : decide ((i : Int) < (i : Int)) = false := by simp
   have e1 : X.take i = X := List.take_of_length_le (by rw [← HLEN.out]; exact Nat.le_refl _); have e2 : P = Wi.encIs X := by rw [HP.out, e1]; unfold Wi.encIs; rw [HL.out, ← HLEN.out]
   have HO2 := Lib.hid e2; clear e1 e2; obtain ⟨A7, c7, rfl⟩ := hown.shp; have HO := Lib.hid hown; clear hown; go_wp2_with fail; go_ret; exact ⟨_, rfl, by rw [← HO2.out]; exact HO.out, hbe⟩
end Go.Proofs.YtijkfagkbfbpmaaGreatDoor
namespace Go.Proofs.YtijkfagkbfbpmaaGreatDoor
open Go Go.RowKit
end Go.Proofs.YtijkfagkbfbpmaaGreatDoor
namespace Go.Proofs.YtijkfagkbfbpmaaGreatDoor
open Go Go.RowKit
theorem castI_r {w : World} {A : Option Addr} {c : Nat} {l : List Nat} (h : Lim w A c l) : ∀ x ∈ castI l, -9223372036854775808 ≤ x ∧ x ≤ 9223372036854775807 := by
 intro x hx; unfold castI at hx; obtain ⟨y, hy, rfl⟩ := List.mem_map.1 hx; have := h.2.2.2.1 y hy; unfold Nm.B at this; omega
theorem wp_appB {o : Oper} {a : Act} {w : World} {K : Act → World → Prop} {Q : Exit → Act → World → Prop} (s x : Operand) (ho : o.op = .call { callee := .builtin .append, args := #[s, x], argTypes := #[72, 72] })
  (base : Nat) (v : Value) (l : List Nat) (hs : a.eval s = v) (h : OwnB w base v l) (A : Option Addr) (m c : Nat) (news : List Nat) (hx : a.eval x = .slice A m c) (hn : By w A m c news) (hl : l.length + news.length ≤ 1073741824) (hb : base ≤ w.heap.size)
  (hK : ∀ v' w', OwnB w' base v' (l ++ news) → w.grownBy w' v.ownBlock → (v'.ownBlock = v.ownBlock ∨ v'.ownBlock = some w.heap.size) → K (a.put o.dst v') w') : o.wp Tryz.prog a w K Q := by
 obtain ⟨iR, hi, hz, hsz, hby⟩ := info_parts info_u8; have hm := hn.len
 obtain ⟨v', w', hrun, k1, k2, k3, _⟩ := run_append_all (P := Tryz.prog) w (fun _ => True) base 72 o.type 5 iR (.int .u8 0) 1 1 Tryz.underlying72 hi hz hsz hby rfl (by omega) v l.length _ h.1 A m c (news.flatMap u8C) (by rw [flat_u8]; omega) hn.1.1 (by
  intro u hu; obtain ⟨d, _, hd⟩ := List.mem_flatMap.1 hu; simp only [u8C, List.mem_singleton] at hd; subst hd
  rfl) (by simp only [maxLen]; omega) (by omega) hb (fun _ _ => trivial) (fun _ _ => trivial) (fun _ _ _ _ _ => trivial)
 unfold Oper.wp execOp; simp only [ho, resolve, invoke, builtin, Sem.run_bind, Sem.run_pure, Result.andThen_ok, List.map_toArray, List.map_cons, List.map_nil, hs, hx, hrun]; refine hK v' w' ⟨?_, fun y hy => ?_⟩ k2 k3
 ·rw [List.length_append, List.flatMap_append, ← hm]; exact k1
 ·rcases List.mem_append.1 hy with hy | hy
  ·exact h.2 y hy
  ·exact hn.2.2.2.1 y hy

def PhiEn (g : Nat) (A1 : Option Addr) (k1 c1 : Nat) (A2 : Option Addr) (k2 c2 : Nat) (B0 : Nat) (X1 X2 E1 E2 : List Nat) (vs : Nat → Value) (j : Nat) (w : World) (x : Value) : Prop :=
 match j with
 | 0 => x = .pointer (some ⟨g, 0, none⟩)
 | 1 => x = .slice A1 k1 c1
 | 2 => OwnI w B0 x (castI X1)
 | 3 => OwnB w B0 x E1
 | 4 => x = .pointer (some ⟨g, 1, none⟩)
 | 5 => x = .slice A2 k2 c2
 | 6 => OwnI w B0 x (castI X2)
 | 7 => OwnB w B0 x E2
 | _ => True

theorem PhiEn.keepR {g : Nat} {A1 : Option Addr} {k1 c1 : Nat} {A2 : Option Addr} {k2 c2 : Nat} {B0 : Nat} {X1 X2 E1 E2 : List Nat} : ∀ vs (w w' : World), Below w.heap.size w w' → ∀ j x, PhiEn g A1 k1 c1 A2 k2 c2 B0 X1 X2 E1 E2 vs j w x → PhiEn g A1 k1 c1 A2 k2 c2 B0 X1 X2 E1 E2 vs j w' x := by
 intro vs w w' hb j x h; unfold PhiEn at h ⊢
 split <;> simp only at h ⊢ <;> first | exact h | exact OwnI.below h hb | exact OwnB.below h hb
theorem PhiEn.keepF {g : Nat} {A1 : Option Addr} {k1 c1 : Nat} {A2 : Option Addr} {k2 c2 : Nat} {B0 : Nat} {X1 X2 E1 E2 : List Nat} : ∀ vs (w w' : World) j x, ([] : List Nat).contains j = true → PhiEn g A1 k1 c1 A2 k2 c2 B0 X1 X2 E1 E2 vs j w x → PhiEn g A1 k1 c1 A2 k2 c2 B0 X1 X2 E1 E2 vs j w' x := by
 intro vs w w' j x hf
 cases hf
def SEn (w w1 : World) (E1 E2 : List Nat) : List Value → (Nat → Value) → World → Prop
 | [], _, W => Below w1.heap.size w1 W
 | [v], _, W => OwnB W w.heap.size v (E1 ++ E2) ∧ Below w.heap.size w W
 | v :: u :: _, _, W => u = v ∧ OwnB W w.heap.size v (E1 ++ E2) ∧ Below w.heap.size w W
set_option maxRecDepth 100000 in
set_option maxHeartbeats 4000000 in
theorem rencode_n (v : Value) (x : LP) (w : World) (h : RtP w v x) (hk1 : x.1.length ≤ 1048576) (hk2 : x.2.length ≤ 1048576) :
  Calls Tryz.prog 72 #[v] w fun e w' => ∃ v, e = .returned v ∧ OwnB w' w.heap.size v (Wi.encIs (castI x.1) ++ Wi.encIs (castI x.2)) ∧ Below w.heap.size w w' := by
 obtain ⟨A1, k1, c1, A2, k2, c2, rfl, hl1, hl2, e1, e2⟩ := h; obtain ⟨X1, X2⟩ := x; simp only at hl1 hl2 e1 e2 hk1 hk2 ⊢; have HL1 := Lib.hid hl1; have HL2 := Lib.hid hl2; have HK1 := Lib.hid e1; have HK2 := Lib.hid e2; obtain ⟨E1, HE1⟩ : ∃ E, Hid (E = Wi.encIs (castI X1)) := ⟨_, rfl⟩; obtain ⟨E2, HE2⟩ : ∃ E, Hid (E = Wi.encIs (castI X2)) := ⟨_, rfl⟩
 have hE1 : E1.length ≤ 9 * X1.length + 9 := by
  rw [HE1.out]; have := encIs_len (castI_r hl1) (by rw [castI_len]; omega)
  rwa [castI_len] at this
 have hE2 : E2.length ≤ 9 * X2.length + 9 := by
  rw [HE2.out]; have := encIs_len (castI_r hl2) (by rw [castI_len]; omega)
  rwa [castI_len] at this
 rw [← HE1.out, ← HE2.out]; have hk1' : k1 ≤ 1048576 := by omega
 have hk2' : k2 ≤ 1048576 := by omega
 have hE1 : E1.length ≤ 10000000 := by omega
 have hE2 : E2.length ≤ 10000000 := by omega
 clear hl1 hl2 e1 e2
 go_enter Tryz.func72, Tryz.ntmps72
 go_upto_region 1 with fail; refine wp_name ?_; intro w1 HW; have hbw : Below w.heap.size w w1 := by rw [HW.out]; exact bA _ _
 have hB : Blk w1 w.heap.size 29 #[.slice A1 k1 c1, .slice A2 k2 c2] := by rw [HW.out]; exact Blk.new _ _ _
 obtain ⟨g, hg⟩ : ∃ g, Hid (g = w.heap.size) := ⟨_, rfl⟩; rw [← hg.out] at hB ⊢; have q0 := hB.cell 0; have q1 := hB.cell 1; simp only [List.getElem?_toArray, List.getElem?_cons_zero, List.getElem?_cons_succ] at q0 q1; rw [hg.out] at *; clear HW hB; refine region_chain [8, 9] [.early, .early, .early, .early, .early, .early, .early, .early, .chain 0, .chain 1] [] [] (PhiEn w.heap.size A1 k1 c1 A2 k2 c2 w1.heap.size X1 X2 E1 E2) (fun w w' => Below w.heap.size w w') (SEn w w1 E1 E2) (by kernel_rfl) (by kernel_rfl) (by kernel_rfl) (by kernel_rfl) (sK (fun _ _ _ _ _ h => h) (sK (fun _ _ _ _ _ h => h) (sK (fun _ _ _ _ _ h => h) (sK (fun _ _ _ _ _ h => h) (sK (fun _ _ _ _ _ h => h) (sK (fun _ _ _ _ _ h => h) (sK (fun _ _ _ _ _ h => h) (sK (fun _ _ _ _ _ h => h) (sK (fun _ _ _ _ _ h => h) (sK (fun _ _ _ _ _ h => h) (sZ))))))))))) PhiEn.keepR PhiEn.keepF (fun _ _ _ _ hR hS => Below.tr hS hR) (by rintro (_ | ⟨_, _ | ⟨_, _⟩⟩) vs vs' w _ h <;> exact h) (fun _ => bD _) (fun vs => by simp only [fillR, Act.put, sA, sB, sC, Nat.zero_add, Nat.reduceAdd]; rfl) ?_ ?_
 ·refine sK ?_ (sK ?_ (sK ?_ (sK ?_ (sK ?_ (sK ?_ (sK ?_ (sK ?_ (sK ?_ (sK ?_ (sZ))))))))))
  ·as_aux_lemma =>
   intro vs W hS hu hdep K hK; have HU := Lib.hid hu; clear hu; refine ⟨?_⟩; simp only [Act.put, sA, sB, sC, Nat.zero_add, Nat.reduceAdd] at hK ⊢; go_simp; with_reducible refine hK _ _ (Below.refl _ _) ?_
   exact rfl
  ·as_aux_lemma =>
   intro vs W hS hu hdep K hK; have HU := Lib.hid hu; clear hu; have d0 := hdep ⟨0, .data⟩ (by simp) rfl; simp only [PhiEn] at d0; have ft := cell_keep hS q0; refine ⟨?_⟩; simp only [Act.put, sA, sB, sC, Nat.zero_add, Nat.reduceAdd, d0] at hK ⊢; go_simp; with_reducible refine hK _ _ (Below.refl _ _) ?_
   exact rfl
  ·as_aux_lemma =>
   intro vs W hS hu hdep K hK; have HU := Lib.hid hu; clear hu; have d0 := hdep ⟨1, .data⟩ (by simp) rfl; simp only [PhiEn] at d0; have hl := HL1.out.below hbw |>.below hS; have hsz := Below.size hS; refine ⟨?_⟩; simp only [Act.put, sA, sB, sC, Nat.zero_add, Nat.reduceAdd, d0] at hK ⊢; go_simp; refine (uints_n A1 k1 c1 X1 _ hl HK1.out (by omega)).mono ?_; rintro e w' ⟨v, rfl, hv, hb⟩; go_wp2_with fail; with_reducible refine hK _ _ hb ?_
   exact hv.mono (by omega)
  ·as_aux_lemma =>
   intro vs W hS hu hdep K hK; have HU := Lib.hid hu; clear hu; have d0 := hdep ⟨2, .data⟩ (by simp) rfl; simp only [PhiEn] at d0; have r0 := d0; clear d0; obtain ⟨A', c', e0⟩ := r0.shp; rw [e0] at r0; have hsz := Below.size hS; have hrow := r0.row (by rw [castI_len, ← HK1.out]; omega); refine ⟨?_⟩; simp only [Act.put, sA, sB, sC, Nat.zero_add, Nat.reduceAdd, e0] at hK ⊢; go_simp; refine (rints_n A' _ c' (castI X1) _ hrow (castI_r HL1.out) (by rw [castI_len, ← HK1.out]; omega)).mono ?_; rintro e w' ⟨v, rfl, hv, hb⟩; go_wp2_with fail; with_reducible refine hK _ _ hb ?_
   show OwnB _ _ _ E1
   rw [HE1.out]; exact hv.mono (by omega)
  ·as_aux_lemma =>
   intro vs W hS hu hdep K hK; have HU := Lib.hid hu; clear hu; refine ⟨?_⟩; simp only [Act.put, sA, sB, sC, Nat.zero_add, Nat.reduceAdd] at hK ⊢; go_simp; with_reducible refine hK _ _ (Below.refl _ _) ?_
   exact rfl
  ·as_aux_lemma =>
   intro vs W hS hu hdep K hK; have HU := Lib.hid hu; clear hu; have d0 := hdep ⟨4, .data⟩ (by simp) rfl; simp only [PhiEn] at d0; have ft := cell_keep hS q1; refine ⟨?_⟩; simp only [Act.put, sA, sB, sC, Nat.zero_add, Nat.reduceAdd, d0] at hK ⊢; go_simp; with_reducible refine hK _ _ (Below.refl _ _) ?_
   exact rfl
  ·as_aux_lemma =>
   intro vs W hS hu hdep K hK; have HU := Lib.hid hu; clear hu; have d0 := hdep ⟨5, .data⟩ (by simp) rfl; simp only [PhiEn] at d0; have hl := HL2.out.below hbw |>.below hS; have hsz := Below.size hS; refine ⟨?_⟩; simp only [Act.put, sA, sB, sC, Nat.zero_add, Nat.reduceAdd, d0] at hK ⊢; go_simp; refine (uints_n A2 k2 c2 X2 _ hl HK2.out (by omega)).mono ?_; rintro e w' ⟨v, rfl, hv, hb⟩; go_wp2_with fail; with_reducible refine hK _ _ hb ?_
   exact hv.mono (by omega)
  ·as_aux_lemma =>
   intro vs W hS hu hdep K hK; have HU := Lib.hid hu; clear hu; have d0 := hdep ⟨6, .data⟩ (by simp) rfl; simp only [PhiEn] at d0; have r0 := d0; clear d0; obtain ⟨A', c', e0⟩ := r0.shp; rw [e0] at r0; have hsz := Below.size hS; have hrow := r0.row (by rw [castI_len, ← HK2.out]; omega); refine ⟨?_⟩; simp only [Act.put, sA, sB, sC, Nat.zero_add, Nat.reduceAdd, e0] at hK ⊢; go_simp; refine (rints_n A' _ c' (castI X2) _ hrow (castI_r HL2.out) (by rw [castI_len, ← HK2.out]; omega)).mono ?_; rintro e w' ⟨v, rfl, hv, hb⟩; go_wp2_with fail; with_reducible refine hK _ _ hb ?_
   show OwnB _ _ _ E2
   rw [HE2.out]; exact hv.mono (by omega)
  ·as_aux_lemma =>
   intro vs W hS hdep K hK; have d0 := hdep ⟨3, .data⟩ (by simp) rfl (by rfl); simp only [PhiEn] at d0; have d1 := hdep ⟨7, .data⟩ (by simp) rfl (by rfl); simp only [PhiEn] at d1; have hS1 : Below w1.heap.size w1 W := hS; clear hS; have hsz := hS1.size; obtain ⟨A3, c3, e3⟩ := d0.shp; obtain ⟨A4, c4, e4⟩ := d1.shp; rw [e3] at d0; rw [e4] at d1; have hby := d1.by_ (by omega); have hbx := Below.tr hbw hS1; refine ⟨?_⟩; simp only [Act.put, sA, sB, sC, Nat.zero_add, Nat.reduceAdd, e3, e4] at hK ⊢; rw [if_pos (by rfl)]; refine wp_appB (.tmp 6) (.tmp 10) rfl w1.heap.size (.slice A3 E1.length c3) E1 rfl d0 A4 E2.length c4 E2 rfl hby (by omega) hsz ?_; intro v7 w7 hown7 hg7 _; have hbz := hbx.trans (((Below.refl w1.heap.size _).grown hg7 hsz (fun q hq => d0.ge q hq)).mono hbw.size); simp only [Act.put, sA, sB, sC]; with_reducible refine hK _ _ ?_
   exact ⟨hown7.mono hbw.size, hbz⟩
  ·as_aux_lemma =>
   intro vs W hS hdep K hK; have hS1 : SEn w w1 E1 E2 [vs 8] vs W := hS; obtain ⟨hown7, hbz⟩ := hS1; refine ⟨?_⟩; simp only [Act.put, sA, sB, sC, Nat.zero_add, Nat.reduceAdd] at hK ⊢; go_simp; with_reducible refine hK _ _ ?_
   exact ⟨rfl, hown7, hbz⟩
 ·intro vs W hS _; have hS2 : SEn w w1 E1 E2 [vs 8, vs 9] vs W := hS; obtain ⟨e9, hown, hbe⟩ := hS2; obtain ⟨Y, HY⟩ : ∃ Y, Hid (Y = E1 ++ E2) := ⟨_, rfl⟩; rw [← HY.out] at hown; obtain ⟨A9, c9, e8⟩ := hown.shp; rw [e8] at hown e9; have HO := Lib.hid hown; clear hS hown; simp only [Act.put, sA, sB, sC, Nat.zero_add, Nat.reduceAdd, e8, e9]; go_wp2_with fail; go_ret; exact ⟨_, rfl, by rw [← HY.out]; exact HO.out, hbe⟩
end Go.Proofs.YtijkfagkbfbpmaaGreatDoor
namespace Go.Proofs.YtijkfagkbfbpmaaGreatDoor
open Go Go.RowKit
set_option maxRecDepth 100000 in
set_option maxHeartbeats 4000000 in
theorem wints_n (A : Option Addr) (k c : Nat) (X : List Int) (w : World) (h : RowL intC w A k X) (hr : ∀ x ∈ X, -9223372036854775808 ≤ x ∧ x ≤ 9223372036854775807) (hk : k ≤ 67108864) :
  Calls Tryz.prog 36 #[.slice A k c] w fun e w' => ∃ v, e = .returned v ∧ OwnB w' w.heap.size v (Wi.encIs X) ∧ Below w.heap.size w w' := by
 have HLEN := Lib.hid h.2.1; have HR := Lib.hid hr; clear hr; have hkm : -9223372036854775808 ≤ (k : Int) := by omega
 have hkM : (k : Int) ≤ 9223372036854775807 := by omega
 go_enter Tryz.func36, Tryz.ntmps36
 go_wp2_with fail; refine (wint_n (k : Int) _ hkm hkM).mono ?_; rintro e w1 ⟨v0, rfl, ho0, hb0⟩; obtain ⟨A0, c0, rfl⟩ := ho0.shp; obtain ⟨L, HL⟩ : ∃ L, Hid (L = Wi.encI (k : Int)) := ⟨_, rfl⟩; have hL9 : L.length ≤ 9 := by rw [HL.out]; exact Wi.encI_len hkm hkM
 rw [← HL.out] at ho0 ⊢; clear hkm hkM; go_wp2_with fail
 go_loopg [3, 11] k (fun j v x wr => ∃ (i : Nat) (P : List Nat), x = .int .i64 i ∧ i + j = k ∧ Hid (P = L ++ (X.take i).flatMap Wi.encI) ∧ OwnB wr w.heap.size v P ∧ Below w.heap.size w wr)
 case atStart => exact ⟨0, L, rfl, by omega, (by show _ = _; simp), ho0, hb0⟩
 case round =>
  obtain ⟨G, hG⟩ : ∃ G, G = gk := ⟨gk, rfl⟩; subst hG; clear ho0 hb0; obtain ⟨i, P, rfl, hij, HP, hown, hbe⟩ := hrel; by_cases hi : i < k
  ·have t1 : decide ((i : Int) < (k : Int)) = true := by simp; omega
   have hik : (i : Int) < (k : Int) := by omega
   obtain ⟨b, o, x, rfl, hc, HX⟩ := (h.below hbe).int hi; obtain ⟨x1, x2⟩ := HR.out x (List.mem_of_getElem? HX.out); obtain ⟨Z, HZ⟩ : ∃ Z, Hid (Z = Wi.encI x) := ⟨_, rfl⟩; have HX2 : Hid (P ++ Z = L ++ (X.take (i + 1)).flatMap Wi.encI) := by show _ = _; rw [HP.out, HZ.out, enc_take HX.out, List.append_assoc]
   have hl9 : Z.length ≤ 9 := by rw [HZ.out]; exact Wi.encI_len x1 x2
   have hlT : P.length ≤ 9 + 9 * k := by
    rw [HP.out]; have := enc_len (X.take i) fun y hy => HR.out y (List.mem_of_mem_take hy)
    rw [List.length_take] at this; rw [List.length_append]; omega
   obtain ⟨A3, c3, rfl⟩ := hown.shp; go_wp2_with fail; refine (wint_n x _ x1 x2).mono ?_; rintro e w2 ⟨v1, rfl, ho1, hb1⟩; rw [← HZ.out] at ho1; obtain ⟨A1, c1, rfl⟩ := ho1.shp; have hby := ho1.by_ (by omega); have hown2 := hown.below hb1; have hbx := Below.tr hbe hb1; have hsz := hbx.size; have hl : P.length + Z.length ≤ 1073741824 := by omega
   clear hown hbe hb1 ho1
   go_wp2_with (at_builtin; go_loud (refine wpList_appB rfl (.tmp 15) (.tmp 17) rfl w.heap.size (.slice A3 P.length c3) _ rfl hown2 A1 Z.length c1 _ rfl hby hl hsz ?_); intro v7 w7 hown7 hg7 _)
   have hbz := hbx.grown hg7 hsz (fun q hq => hown2.ge q hq); clear hown2 hbx hg7; go_wp2_with fail
   go_roundg (G - 1)
   case measure => omega
   case rel => exact ⟨i + 1, P ++ Z, by go_num, by omega, HX2, hown7, hbz⟩
  ·obtain rfl : i = k := by omega
   have t1 : decide ((i : Int) < (i : Int)) = false := by simp
   have e1 : X.take i = X := List.take_of_length_le (by rw [← HLEN.out]; exact Nat.le_refl _); have e2 : P = Wi.encIs X := by rw [HP.out, e1]; unfold Wi.encIs; rw [HL.out, ← HLEN.out]
   have HO2 := Lib.hid e2; clear e1 e2; obtain ⟨A7, c7, rfl⟩ := hown.shp; have HO := Lib.hid hown; clear hown; go_wp2_with fail; go_ret; exact ⟨_, rfl, by rw [← HO2.out]; exact HO.out, hbe⟩
theorem info_w : (Tryz.prog.info? 27).map (fun i => (i.zero, i.size, i.bytes)) = some (some (.slice none 0 0), 1, 24) := by kernel_rfl
theorem fill_w2 (A0 A1 : Option Addr) (k0 c0 k1 c1 : Nat) : Instr.fill (fun i => some (i * 1, 1)) ((Array.range (2 * 1)).map ((Value.slice none 0 0).cells[· % (Value.slice none 0 0).cells.size]!)) [(0, .slice A0 k0 c0), (1, .slice A1 k1 c1)] = some #[.slice A0 k0 c0, .slice A1 k1 c1] := by kernel_rfl
set_option maxRecDepth 100000 in
set_option maxHeartbeats 8000000 in
theorem encode_n (v : Value) (x : LP) (w : World) (h : RtP w v x) (hk1 : x.1.length ≤ 1048576) (hk2 : x.2.length ≤ 1048576) :
  Calls Tryz.prog 38 #[v] w fun e w' => ∃ v, e = .returned v ∧ OwnB w' w.heap.size v (Wi.encIs (castI x.1) ++ Wi.encIs (castI x.2)) ∧ Below w.heap.size w w' := by
 obtain ⟨A1, k1, c1, A2, k2, c2, rfl, hl1, hl2, e1, e2⟩ := h; obtain ⟨X1, X2⟩ := x; simp only at hl1 hl2 e1 e2 hk1 hk2 ⊢; have hk1' : k1 ≤ 1048576 := by omega
 have hk2' : k2 ≤ 1048576 := by omega
 have HK1 := Lib.hid e1; have HK2 := Lib.hid e2; clear e1 e2; obtain ⟨E1, HE1⟩ : ∃ E, Hid (E = Wi.encIs (castI X1)) := ⟨_, rfl⟩; obtain ⟨E2, HE2⟩ : ∃ E, Hid (E = Wi.encIs (castI X2)) := ⟨_, rfl⟩
 have hE1 : E1.length ≤ 10000000 := by
  rw [HE1.out]; have := encIs_len (castI_r hl1) (by rw [castI_len]; omega); rw [castI_len] at this; omega
 have hE2 : E2.length ≤ 10000000 := by
  rw [HE2.out]; have := encIs_len (castI_r hl2) (by rw [castI_len]; omega); rw [castI_len] at this; omega
 rw [← HE1.out, ← HE2.out]; obtain ⟨iS, hiS, hzS, hzS1, hzS2⟩ := info_parts info_w
 go_enter Tryz.func38, Tryz.ntmps38
 go_upto_region 1 with fail; refine wp_name ?_; intro w1 HW; have hbw : Below w.heap.size w w1 := by rw [HW.out]; exact bA _ _
 have hB : Blk w1 w.heap.size 29 #[.slice A1 k1 c1, .slice A2 k2 c2] := by rw [HW.out]; exact Blk.new _ _ _
 obtain ⟨g, hg⟩ : ∃ g, Hid (g = w.heap.size) := ⟨_, rfl⟩; rw [← hg.out] at hB ⊢; have q0 := hB.cell 0; have q1 := hB.cell 1; simp only [List.getElem?_toArray, List.getElem?_cons_zero, List.getElem?_cons_succ] at q0 q1; clear HW hB hg
 go_upto_region 3 with (refine wpList_sliceN rfl 108 27 2 [(0, .tmp 10), (1, .tmp 12)] rfl #[.slice A1 k1 c1, .slice A2 k2 c2] iS (.slice none 0 0) 1 [(0, .slice A1 k1 c1), (1, .slice A2 k2 c2)] Tryz.underlying108 hiS hzS hzS1 (by omega) (by omega) rfl (fill_w2 _ _ _ _ _ _) ?_; simp only [Act.put, sA, sB, sC])
 refine wp_name ?_; intro w2 HW; have hb2 : Below w1.heap.size w1 w2 := by rw [HW.out]; exact bA _ _
 have hB : Blk w2 w1.heap.size 27 #[.slice A1 k1 c1, .slice A2 k2 c2] := by rw [HW.out]; exact Blk.new _ _ _
 obtain ⟨gL, hgL⟩ : ∃ g, Hid (g = w1.heap.size) := ⟨_, rfl⟩; rw [← hgL.out] at hB ⊢; have hbw2 := Below.tr hbw hb2
 have HTWO : Hid (∀ i, i < 2 → ∃ A k c X E, w2.cell? ⟨gL, i, none⟩ = some (.slice A k c) ∧ Lim w2 A c X ∧ k = X.length ∧ k ≤ 1048576 ∧ E.length ≤ 10000000 ∧ E = Wi.encIs (castI X) ∧ (if i = 0 then E = E1 else E = E2)) := by
  intro i hi; have : i = 0 ∨ i = 1 := by omega
  rcases this with rfl | rfl
  ·exact ⟨A1, k1, c1, X1, E1, by rw [hB.cell]; rfl, hl1.below hbw2, HK1.out, hk1', hE1, HE1.out, rfl⟩
  ·exact ⟨A2, k2, c2, X2, E2, by rw [hB.cell]; rfl, hl2.below hbw2, HK2.out, hk2', hE2, HE2.out, rfl⟩
 clear HW hgL hB hb2 hbw q0 q1 hl1 hl2 HK1 HK2 hk1 hk2 hk1' hk2' HE1 HE2 iS hiS hzS hzS1 hzS2
 go_loopg [3, 15] 2 (fun j v3 v15 wr => ∃ (i : Nat) (P : List Nat), v15 = .int .i64 i ∧ i + j = 2 ∧ Hid (P = if i = 0 then [] else if i = 1 then E1 else E1 ++ E2) ∧ OwnB wr w2.heap.size v3 P ∧ Below w2.heap.size w2 wr)
 case atStart => exact ⟨0, [], rfl, rfl, rfl, OwnB.nil _ _, Below.refl _ _⟩
 case round =>
  obtain ⟨G, hG⟩ : ∃ G, G = gk := ⟨gk, rfl⟩; subst hG; obtain ⟨i, P, rfl, hij, HP, hown, hbr⟩ := hrel; obtain ⟨ws, hws⟩ : ∃ z, z = wr := ⟨_, rfl⟩; subst hws; by_cases hi : i < 2
  ·have t1 : decide ((i : Int) < 2) = true := by simp; omega
   have hi2 : (i : Int) < 2 := by omega
   obtain ⟨A, k, c, X, E, hcell, hlim, hkX, hk, hE, heE, hif⟩ := HTWO.out i hi; have hc2 := cell_keep hbr hcell; have hlim2 := hlim.below hbr; have HLEN := Lib.hid hkX; have HEE := Lib.hid heE
   have HP2 : Hid (P ++ E = if i + 1 = 0 then [] else if i + 1 = 1 then E1 else E1 ++ E2) := by
    show _ = _
    rw [HP.out]; have : i = 0 ∨ i = 1 := by omega
    rcases this with rfl | rfl
    ·simp at hif ⊢; exact hif
    ·simp at hif ⊢; exact hif
   have hPl : P.length ≤ 20000000 := by
    rw [HP.out]
    split
    ·simp
    ·split
     ·omega
     ·rw [List.length_append]; omega
   obtain ⟨A3, c3, rfl⟩ := hown.shp; clear hcell hlim hkX heE hif HP; go_wp2_with fail
   go_loopg [6, 21] k (fun j v x wr => ∃ m : Nat, x = .int .i64 m ∧ m + j = k ∧ OwnI wr ws.heap.size v (castI (X.take m)) ∧ Below ws.heap.size ws wr)
   case atStart => exact ⟨0, rfl, by omega, OwnI.nil _ _, Below.refl _ _⟩
   case round =>
    obtain ⟨G2, hG2⟩ : ∃ G, G = gk := ⟨gk, rfl⟩; subst hG2; obtain ⟨m, rfl, hmj, hownI, hbe⟩ := hrel; by_cases hm : m < k
    ·have t3 : decide ((m : Int) < (k : Int)) = true := by simp; omega
     have hmk : (m : Int) < (k : Int) := by omega
     obtain ⟨b, o, d, rfl, hc, hd, HD⟩ := (hlim2.below hbe).get (k := m) (by rw [← HLEN.out]; exact hm); have tm : (d : Int) % 18446744073709551616 = (d : Int) := by omega
     have HX2 : Hid (castI (X.take m) ++ [(d : Int)] = castI (X.take (m + 1))) := by show _ = _; rw [castI_take (by rw [← HLEN.out]; exact hm) HD.out]
     have hbA := bA wr (.cells #[.int .i64 (d : Int)] 3); have hown2 := hownI.below hbA; have hrd := RowL.newI wr (d : Int); have hl : (castI (X.take m)).length + [(d : Int)].length ≤ 1073741824 := by rw [castI_len, List.length_take]; simp; omega
     have hbx := Below.tr hbe hbA; have hsz := hbx.size; clear hownI hbA hbe HD
     go_wp2_with (at_builtin; go_loud (refine wpList_appI rfl (.tmp 25) (.tmp 28) rfl ws.heap.size _ _ rfl hown2 (some ⟨wr.heap.size, 0, none⟩) 1 1 [(d : Int)] rfl hrd hl hsz ?_); intro v7 w7 hown7 hg7 _)
     have hbz := hbx.grown hg7 hsz (fun q hq => hown2.ge q hq); rw [HX2.out] at hown7; clear hown2 hbx hg7; go_wp2_with fail
     go_roundg (G2 - 1)
     case measure => omega
     case rel => exact ⟨m + 1, by go_num, by omega, hown7, hbz⟩
    ·obtain rfl : m = k := by omega
     have t3 : decide ((m : Int) < (m : Int)) = false := by simp
     have e1 : X.take m = X := List.take_of_length_le (by rw [← HLEN.out]; exact Nat.le_refl _); rw [e1] at hownI; obtain ⟨A7, c7, rfl⟩ := hownI.shp; have hrow := hownI.row (by rw [castI_len, ← HLEN.out]; omega); have hownP := hown.below hbe; have hbr2 := Below.tr hbr hbe; have hsw := hbw2.size; have hsr := hbr2.size; have HKK : Hid ((castI X).length ≤ 67108864) := by show _ ≤ _; rw [castI_len, ← HLEN.out]; omega
     clear hownI e1 hown hbr; go_wp2_with fail; refine (wints_n A7 _ c7 (castI X) _ hrow (castI_r hlim2) HKK.out).mono ?_; rintro e w9 ⟨v9, rfl, hO9, hb9⟩; rw [← HEE.out] at hO9; obtain ⟨A9, c9, rfl⟩ := hO9.shp; have hby := hO9.by_ (by omega); have hown2 := hownP.below hb9; have hbx := Below.tr hbr2 hb9; have hsz9 := hb9.size; have hsz := hbx.size; have hl : P.length + E.length ≤ 1073741824 := by omega
     clear hrow hownP hO9 hb9 hbr2
     go_wp2_with (at_builtin; go_loud (refine wpList_appB rfl (.tmp 31) (.tmp 33) rfl w2.heap.size (.slice A3 P.length c3) _ rfl hown2 A9 E.length c9 _ rfl hby hl hsz ?_); intro v8 w8 hown8 hg8 _)
     have hbz := hbx.grown hg8 hsz (fun q hq => hown2.ge q hq); clear hown2 hbx hg8; go_wp2_with fail
     go_roundg (G - 1)
     case measure => omega
     case rel => exact ⟨i + 1, P ++ E, by go_num, by omega, HP2, hown8, hbz⟩
  ·obtain rfl : i = 2 := by omega
   have t1 : decide (((2 : Nat) : Int) < 2) = false := by simp
   have e2 : P = E1 ++ E2 := HP.out; have HO2 := Lib.hid e2; have hbw3 := Below.tr hbw2 hbr; clear e2; obtain ⟨A7, c7, rfl⟩ := hown.shp; have HO := Lib.hid hown; clear hown; go_wp2_with fail; go_ret; exact ⟨_, rfl, by rw [← HO2.out]; exact HO.out.mono hbw2.size, hbw3⟩
end Go.Proofs.YtijkfagkbfbpmaaGreatDoor
namespace Go.Proofs.YtijkfagkbfbpmaaGreatDoor
open Go Go.RowKit
/-- what Encode says -/
def encL (p : PC) (t h dl : List Nat) (L1 L2 : List Nat) : List Nat := Wi.encIs [p.team, p.site, p.fr, p.un] ++ (encSs [t, h] ++ ((Wi.encIs (castI L1) ++ Wi.encIs (castI L2)) ++ (Wi.encI 1 ++ dl)))
def PhiEc34 (base g : Nat) (p : PC) (d : DG) (t h dl : List Nat) (L1 L2 : List Nat) (j : Nat) (w : World) (x : Value) : Prop :=
 match j with
 | 0 => x = .pointer (some ⟨g, 0, none⟩)
 | 1 => x = .int .i64 p.team
 | 2 => x = .pointer (some ⟨g, 3, none⟩)
 | 3 => x = .int .i64 p.site
 | 4 => x = .pointer (some ⟨g, 6, none⟩)
 | 5 => x = .int .i64 p.fr
 | 6 => x = .pointer (some ⟨g, 7, none⟩)
 | 7 => x = .int .i64 p.un
 | 8 => ∃ g', x = .slice (some ⟨g', 0, none⟩) 4 4 ∧ RowL intC w (some ⟨g', 0, none⟩) 4 [p.team, p.site, p.fr, p.un]
 | 9 => ∃ A k c, x = .slice A k c ∧ By w A k c (Wi.encIs [p.team, p.site, p.fr, p.un])
 | 10 => x = .pointer (some ⟨g, 1, none⟩)
 | 11 => x = .string (txB t)
 | 12 => x = .pointer (some ⟨g, 2, none⟩)
 | 13 => x = .string (txB h)
 | 14 => ∃ g', x = .slice (some ⟨g', 0, none⟩) 2 2 ∧ RowS strC w (some ⟨g', 0, none⟩) 2 [txB t, txB h]
 | 15 => ∃ A k c, x = .slice A k c ∧ By w A k c (encSs [t, h])
 | 16 => x = .pointer (some ⟨g, 4, none⟩)
 | 17 => x = .agg #[p.b1, p.b2]
 | 18 => ∃ A k c, x = .slice A k c ∧ By w A k c (Wi.encIs (castI L1) ++ Wi.encIs (castI L2))
 | 19 => x = .pointer (some ⟨g, 8, none⟩)
 | 20 => x = .agg (cellsDG d).toArray
 | 21 => ∃ g', x = .slice (some ⟨g', 0, none⟩) 1 1 ∧ RowS cellsDG w (some ⟨g', 0, none⟩) 1 [d]
 | 22 => ∃ A k c, x = .slice A k c ∧ By w A k c (Wi.encI 1 ++ dl)
 | 23 => ∃ g' ls, x = .slice (some ⟨g', 0, none⟩) 4 4 ∧ RowS slBc w (some ⟨g', 0, none⟩) 4 ls ∧ (∀ s ∈ ls, By w s.A s.k s.c s.l) ∧ allBy ls = encL p t h dl L1 L2 ∧ sumB ls ≤ 1073741824
 | 24 => OwnB w base x (encL p t h dl L1 L2)
 | 25 => OwnB w base x (encL p t h dl L1 L2)
 | _ => True
theorem PhiEc34.keep {base g : Nat} {p : PC} {d : DG} {t h dl : List Nat} {L1 L2 : List Nat} : ∀ (w w' : World), Below w.heap.size w w' → ∀ j x, PhiEc34 base g p d t h dl L1 L2 j w x → PhiEc34 base g p d t h dl L1 L2 j w' x := by
 intro w w' hb j x h; unfold PhiEc34 at h ⊢
 split <;> simp only at h ⊢
 all_goals first
  | exact h
  | exact OwnB.below h hb
  | (obtain ⟨A, k, c, e, h1⟩ := h; exact ⟨A, k, c, e, h1.below hb⟩)
  | (obtain ⟨g', e, h1⟩ := h; exact ⟨g', e, h1.below hb⟩)
  | (obtain ⟨g', ls, e, h1, h2, h3⟩ := h; exact ⟨g', ls, e, h1.below hb, fun s hs => (h2 s hs).below hb, h3⟩)
theorem allBy4 (s0 s1 s2 s3 : SLB) : allBy [s0, s1, s2, s3] = s0.l ++ (s1.l ++ (s2.l ++ s3.l)) := by simp [allBy]
theorem info_dgE : (Tryz.prog.info? 31).map (fun i => (i.zero, i.size, i.bytes)) = some (some (.agg (cellsDG zeroDG).toArray), 16, 16) := by kernel_rfl
theorem fill_dg1 (d : DG) : Instr.fill (fun i => some (i * 16, 16)) ((Array.range (1 * 16)).map ((Value.agg (cellsDG zeroDG).toArray).cells[· % (Value.agg (cellsDG zeroDG).toArray).cells.size]!)) [(0, .agg (cellsDG d).toArray)] = some (cellsDG d).toArray := by kernel_rfl
set_option maxRecDepth 100000 in
set_option maxHeartbeats 16000000 in
theorem pencode_n (p : PC) (d : DG) (t h dl L1 L2 : List Nat) (w : World) (ht : p.test = txB t) (hh : p.wh = txB h) (hd : pdg p = cellsDG d)
  (HI : Hid (∀ x ∈ [p.team, p.site, p.fr, p.un], -9223372036854775808 ≤ x ∧ x ≤ 9223372036854775807)) (HST : Hid (∀ x ∈ [t, h], x.length ≤ 100000 ∧ ∀ y ∈ x, y < 256)) (HRT : Hid (RtP w (.agg #[p.b1, p.b2]) (L1, L2))) (HL : Hid (L1.length ≤ 1048576 ∧ L2.length ≤ 1048576)) (HDL : Hid (cellsDG d = dl.flatMap u8C ∧ dl.length = 16 ∧ ∀ x ∈ dl, x < 256))
  (HLI : Hid ((Wi.encIs [p.team, p.site, p.fr, p.un]).length ≤ 100)) (HLS : Hid ((encSs [t, h]).length ≤ 1000000)) (HLR : Hid ((Wi.encIs (castI L1) ++ Wi.encIs (castI L2)).length ≤ 100000000)) (HLD : Hid ((Wi.encI 1 ++ dl).length ≤ 100)) :
  Calls Tryz.prog 35 #[.agg (cellsP p).toArray] w fun e w' => ∃ v, e = .returned v ∧ OwnB w' w.heap.size v (encL p t h dl L1 L2) ∧ Below w.heap.size w w' := by
 obtain ⟨iD, hiD, hzD, hzD1, hzD2⟩ := info_parts info_dgE
 go_enter Tryz.func35, Tryz.ntmps35
 go_upto_region 1 with fail; refine wp_name ?_; intro w1 HW; have hb1 : Below w.heap.size w w1 := by rw [HW.out]; exact bA _ _
 have B : Blk w1 w.heap.size 33 (cellsP p).toArray := by rw [HW.out]; exact Blk.new _ _ _
 obtain ⟨g, hg⟩ : ∃ g, Hid (g = w.heap.size) := ⟨_, rfl⟩; rw [← hg.out] at B ⊢; have c0 : w1.cell? ⟨g, 0, none⟩ = some (.int .i64 p.team) := by rw [B.cell]; rfl
 have c1 : w1.cell? ⟨g, 1, none⟩ = some (.string (txB t)) := by rw [B.cell, ← ht]; rfl
 have c2 : w1.cell? ⟨g, 2, none⟩ = some (.string (txB h)) := by rw [B.cell, ← hh]; rfl
 have c3 : w1.cell? ⟨g, 3, none⟩ = some (.int .i64 p.site) := by rw [B.cell]; rfl
 have c4 : w1.cell? ⟨g, 4, none⟩ = some p.b1 := by rw [B.cell]; rfl
 have c5 : w1.cell? ⟨g, 5, none⟩ = some p.b2 := by rw [B.cell]; rfl
 have c6 : w1.cell? ⟨g, 6, none⟩ = some (.int .i64 p.fr) := by rw [B.cell]; rfl
 have c7 : w1.cell? ⟨g, 7, none⟩ = some (.int .i64 p.un) := by rw [B.cell]; rfl
 have HDG : Hid (∀ j v, (cellsDG d)[j]? = some v → w1.cell? ⟨g, 8 + j, none⟩ = some v) := by
  rw [← hd]; exact digR B
 have HRT := Lib.hid (RtL.below HRT.out hb1); have HBA : Hid (w.heap.size ≤ w1.heap.size) := hb1.size; clear HW B ht hh hd hg; refine region_invF (PhiEc34 w.heap.size g p d t h dl L1 L2) (fun w w' => Below w.heap.size w w') (fun Y => Below w1.heap.size w1 Y) (by kernel_rfl) (by kernel_rfl) (by kernel_rfl) PhiEc34.keep (fun _ _ hR hS => Below.tr hS hR) (bD _) (fun vs => by simp only [fillR, Act.put, sA, sB, sC, Nat.zero_add, Nat.reduceAdd]; rfl) ?_ ?_
 ·refine sK ?_ (sK ?_ (sK ?_ (sK ?_ (sK ?_ (sK ?_ (sK ?_ (sK ?_ (sK ?_ (sK ?_ (sK ?_ (sK ?_ (sK ?_ (sK ?_ (sK ?_ (sK ?_ (sK ?_ (sK ?_ (sK ?_ (sK ?_ (sK ?_ (sK ?_ (sK ?_ (sK ?_ (sK ?_ (sK ?_ (sZ))))))))))))))))))))))))))
  ·as_aux_lemma =>
   intro vs W hS hdep K hK; refine ⟨?_⟩; simp only [Act.put, sA, sB, sC, Nat.zero_add, Nat.reduceAdd] at hK ⊢; go_simp; with_reducible refine hK _ _ (Below.refl _ _) ?_
   exact rfl
  ·as_aux_lemma =>
   intro vs W hS hdep K hK; have d0 := hdep ⟨0, .data⟩ (by simp) rfl; simp only [PhiEc34] at d0; have f1 := cell_keep hS c0; refine ⟨?_⟩; simp only [Act.put, sA, sB, sC, Nat.zero_add, Nat.reduceAdd, d0] at hK ⊢; go_simp; with_reducible refine hK _ _ (Below.refl _ _) ?_
   exact rfl
  ·as_aux_lemma =>
   intro vs W hS hdep K hK; refine ⟨?_⟩; simp only [Act.put, sA, sB, sC, Nat.zero_add, Nat.reduceAdd] at hK ⊢; go_simp; with_reducible refine hK _ _ (Below.refl _ _) ?_
   exact rfl
  ·as_aux_lemma =>
   intro vs W hS hdep K hK; have d0 := hdep ⟨2, .data⟩ (by simp) rfl; simp only [PhiEc34] at d0; have f1 := cell_keep hS c3; refine ⟨?_⟩; simp only [Act.put, sA, sB, sC, Nat.zero_add, Nat.reduceAdd, d0] at hK ⊢; go_simp; with_reducible refine hK _ _ (Below.refl _ _) ?_
   exact rfl
  ·as_aux_lemma =>
   intro vs W hS hdep K hK; refine ⟨?_⟩; simp only [Act.put, sA, sB, sC, Nat.zero_add, Nat.reduceAdd] at hK ⊢; go_simp; with_reducible refine hK _ _ (Below.refl _ _) ?_
   exact rfl
  ·as_aux_lemma =>
   intro vs W hS hdep K hK; have d0 := hdep ⟨4, .data⟩ (by simp) rfl; simp only [PhiEc34] at d0; have f1 := cell_keep hS c6; refine ⟨?_⟩; simp only [Act.put, sA, sB, sC, Nat.zero_add, Nat.reduceAdd, d0] at hK ⊢; go_simp; with_reducible refine hK _ _ (Below.refl _ _) ?_
   exact rfl
  ·as_aux_lemma =>
   intro vs W hS hdep K hK; refine ⟨?_⟩; simp only [Act.put, sA, sB, sC, Nat.zero_add, Nat.reduceAdd] at hK ⊢; go_simp; with_reducible refine hK _ _ (Below.refl _ _) ?_
   exact rfl
  ·as_aux_lemma =>
   intro vs W hS hdep K hK; have d0 := hdep ⟨6, .data⟩ (by simp) rfl; simp only [PhiEc34] at d0; have f1 := cell_keep hS c7; refine ⟨?_⟩; simp only [Act.put, sA, sB, sC, Nat.zero_add, Nat.reduceAdd, d0] at hK ⊢; go_simp; with_reducible refine hK _ _ (Below.refl _ _) ?_
   exact rfl
  ·as_aux_lemma =>
   intro vs W hS hdep K hK; have d0 := hdep ⟨1, .data⟩ (by simp) rfl; simp only [PhiEc34] at d0; have d1 := hdep ⟨3, .data⟩ (by simp) rfl; simp only [PhiEc34] at d1; have d2 := hdep ⟨5, .data⟩ (by simp) rfl; simp only [PhiEc34] at d2; have d3 := hdep ⟨7, .data⟩ (by simp) rfl; simp only [PhiEc34] at d3; refine ⟨?_⟩; simp only [Act.put, sA, sB, sC, Nat.zero_add, Nat.reduceAdd, d0, d1, d2, d3] at hK ⊢; go_simp; with_reducible refine hK _ _ (bA _ _) ?_
   exact ⟨_, rfl, ⟨Rd.fresh W 3 _, rfl, by omega⟩⟩
  ·as_aux_lemma =>
   intro vs W hS hdep K hK; have d0 := hdep ⟨8, .data⟩ (by simp) rfl; simp only [PhiEc34] at d0; refine @exE1 _ _ _ d0 ?_; clear d0; intro g0 d0; have e0 := d0.1; have n0 := d0.2; clear d0; refine ⟨?_⟩; simp only [Act.put, sA, sB, sC, Nat.zero_add, Nat.reduceAdd, e0] at hK ⊢; go_simp; refine (wints_n _ 4 4 _ _ n0 HI.out (by omega)).mono ?_; rintro e w' ⟨v, rfl, hv, hb⟩; obtain ⟨A, c, rfl⟩ := hv.shp; go_wp2_with fail; with_reducible refine hK _ _ hb ?_
   exact ⟨A, _, c, rfl, hv.by_ (Nat.le_trans HLI.out (by omega))⟩
  ·as_aux_lemma =>
   intro vs W hS hdep K hK; refine ⟨?_⟩; simp only [Act.put, sA, sB, sC, Nat.zero_add, Nat.reduceAdd] at hK ⊢; go_simp; with_reducible refine hK _ _ (Below.refl _ _) ?_
   exact rfl
  ·as_aux_lemma =>
   intro vs W hS hdep K hK; have d0 := hdep ⟨10, .data⟩ (by simp) rfl; simp only [PhiEc34] at d0; have f1 := cell_keep hS c1; refine ⟨?_⟩; simp only [Act.put, sA, sB, sC, Nat.zero_add, Nat.reduceAdd, d0] at hK ⊢; go_simp; with_reducible refine hK _ _ (Below.refl _ _) ?_
   exact rfl
  ·as_aux_lemma =>
   intro vs W hS hdep K hK; refine ⟨?_⟩; simp only [Act.put, sA, sB, sC, Nat.zero_add, Nat.reduceAdd] at hK ⊢; go_simp; with_reducible refine hK _ _ (Below.refl _ _) ?_
   exact rfl
  ·as_aux_lemma =>
   intro vs W hS hdep K hK; have d0 := hdep ⟨12, .data⟩ (by simp) rfl; simp only [PhiEc34] at d0; have f1 := cell_keep hS c2; refine ⟨?_⟩; simp only [Act.put, sA, sB, sC, Nat.zero_add, Nat.reduceAdd, d0] at hK ⊢; go_simp; with_reducible refine hK _ _ (Below.refl _ _) ?_
   exact rfl
  ·as_aux_lemma =>
   intro vs W hS hdep K hK; have d0 := hdep ⟨11, .data⟩ (by simp) rfl; simp only [PhiEc34] at d0; have d1 := hdep ⟨13, .data⟩ (by simp) rfl; simp only [PhiEc34] at d1; refine ⟨?_⟩; simp only [Act.put, sA, sB, sC, Nat.zero_add, Nat.reduceAdd, d0, d1] at hK ⊢; go_simp; with_reducible refine hK _ _ (bA _ _) ?_
   exact ⟨_, rfl, ⟨Rd.fresh W 9 _, rfl, by omega⟩⟩
  ·as_aux_lemma =>
   intro vs W hS hdep K hK; have d0 := hdep ⟨14, .data⟩ (by simp) rfl; simp only [PhiEc34] at d0; refine @exE1 _ _ _ d0 ?_; clear d0; intro g0 d0; have e0 := d0.1; have n0 := d0.2; clear d0; refine ⟨?_⟩; simp only [Act.put, sA, sB, sC, Nat.zero_add, Nat.reduceAdd, e0] at hK ⊢; go_simp; refine (wstrings_n _ 2 2 [t, h] _ n0 HST.out (by omega)).mono ?_; rintro e w' ⟨v, rfl, hv, hb⟩; obtain ⟨A, c, rfl⟩ := hv.shp; go_wp2_with fail; with_reducible refine hK _ _ hb ?_
   exact ⟨A, _, c, rfl, hv.by_ (Nat.le_trans HLS.out (by omega))⟩
  ·as_aux_lemma =>
   intro vs W hS hdep K hK; refine ⟨?_⟩; simp only [Act.put, sA, sB, sC, Nat.zero_add, Nat.reduceAdd] at hK ⊢; go_simp; with_reducible refine hK _ _ (Below.refl _ _) ?_
   exact rfl
  ·as_aux_lemma =>
   intro vs W hS hdep K hK; have d0 := hdep ⟨16, .data⟩ (by simp) rfl; simp only [PhiEc34] at d0; have f1 := cell_keep hS c4; have f2 := cell_keep hS c5; refine ⟨?_⟩; simp only [Act.put, sA, sB, sC, Nat.zero_add, Nat.reduceAdd, d0] at hK ⊢; go_simp; with_reducible refine hK _ _ (Below.refl _ _) ?_
   exact rfl
  ·as_aux_lemma =>
   intro vs W hS hdep K hK; have d0 := hdep ⟨17, .data⟩ (by simp) rfl; simp only [PhiEc34] at d0; refine ⟨?_⟩; simp only [Act.put, sA, sB, sC, Nat.zero_add, Nat.reduceAdd, d0] at hK ⊢; go_simp; refine (encode_n _ (L1, L2) _ (HRT.out.below hS) HL.out.1 HL.out.2).mono ?_; rintro e w' ⟨v, rfl, hv, hb⟩; obtain ⟨A, c, rfl⟩ := hv.shp; go_wp2_with fail; with_reducible refine hK _ _ hb ?_
   exact ⟨A, _, c, rfl, by have h9 := hv.by_ (Nat.le_trans HLR.out (by omega)); rw [List.length_append] at h9; exact h9⟩
  ·as_aux_lemma =>
   intro vs W hS hdep K hK; refine ⟨?_⟩; simp only [Act.put, sA, sB, sC, Nat.zero_add, Nat.reduceAdd] at hK ⊢; go_simp; with_reducible refine hK _ _ (Below.refl _ _) ?_
   exact rfl
  ·as_aux_lemma =>
   intro vs W hS hdep K hK; have d0 := hdep ⟨19, .data⟩ (by simp) rfl; simp only [PhiEc34] at d0; refine ⟨?_⟩; simp only [Act.put, sA, sB, sC, Nat.zero_add, Nat.reduceAdd, d0] at hK ⊢; rw [if_pos (by rfl)]; refine wp_load_mid 31 (.tmp 22) (by rfl) g (8) (by rfl) (cellsDG d) _ (fun j v h => cell_keep hS (HDG.out j v h)) Tryz.underlying31 (by rfl) infoDG ?_; simp only [Act.put, sA, sB, sC]; with_reducible refine hK _ _ (Below.refl _ _) ?_
   exact rfl
  ·as_aux_lemma =>
   intro vs W hS hdep K hK; have d0 := hdep ⟨20, .data⟩ (by simp) rfl; simp only [PhiEc34] at d0; refine ⟨?_⟩; simp only [Act.put, sA, sB, sC, Nat.zero_add, Nat.reduceAdd, d0] at hK ⊢; rw [if_pos (by rfl)]; refine wp_sliceN 64 31 1 [(0, .tmp 23)] rfl (cellsDG d).toArray iD (.agg (cellsDG zeroDG).toArray) 16 [(0, .agg (cellsDG d).toArray)] Tryz.underlying64 hiD hzD hzD1 (by omega) (by omega) rfl (fill_dg1 d) ?_
   (try simp only [Act.put, sA, sB, sC])
   with_reducible refine hK _ _ (bA _ _) ?_
   exact ⟨_, rfl, ⟨by simpa using Rd.newC W 31 (cellsDG d), rfl, by omega⟩⟩
  ·as_aux_lemma =>
   intro vs W hS hdep K hK; have d0 := hdep ⟨21, .data⟩ (by simp) rfl; simp only [PhiEc34] at d0; refine @exE1 _ _ _ d0 ?_; clear d0; intro g0 d0; have e0 := d0.1; have n0 := d0.2; clear d0; refine ⟨?_⟩; simp only [Act.put, sA, sB, sC, Nat.zero_add, Nat.reduceAdd, e0] at hK ⊢; go_simp; refine (wdig_n _ 1 d dl _ n0 HDL.out.1 HDL.out.2.1 HDL.out.2.2).mono ?_; rintro e w' ⟨v, rfl, hv, hb⟩; obtain ⟨A, c, rfl⟩ := hv.shp; go_wp2_with fail; with_reducible refine hK _ _ hb ?_
   exact ⟨A, _, c, rfl, by have h9 := hv.by_ (Nat.le_trans HLD.out (by omega)); rw [List.length_append] at h9; exact h9⟩
  ·as_aux_lemma =>
   intro vs W hS hdep K hK; have d0 := hdep ⟨9, .data⟩ (by simp) rfl; simp only [PhiEc34] at d0; refine @exE3 _ _ _ _ _ d0 ?_; clear d0; intro A0 k0 c0 d0; have e0 := d0.1; have n0 := d0.2; clear d0; have d1 := hdep ⟨15, .data⟩ (by simp) rfl; simp only [PhiEc34] at d1; refine @exE3 _ _ _ _ _ d1 ?_; clear d1; intro A1 k1 c1 d1; have e1 := d1.1; have n1 := d1.2; clear d1; have d2 := hdep ⟨18, .data⟩ (by simp) rfl; simp only [PhiEc34] at d2; refine @exE3 _ _ _ _ _ d2 ?_; clear d2; intro A2 k2 c2 d2; have e2 := d2.1; have n2 := d2.2; clear d2; have d3 := hdep ⟨22, .data⟩ (by simp) rfl; simp only [PhiEc34] at d3; refine @exE3 _ _ _ _ _ d3 ?_; clear d3; intro A3 k3 c3 d3; have e3 := d3.1; have n3 := d3.2; clear d3; refine ⟨?_⟩; simp only [Act.put, sA, sB, sC, Nat.zero_add, Nat.reduceAdd, e0, e1, e2, e3] at hK ⊢; go_simp; with_reducible refine hK _ _ (bA _ _) ?_
   exact ⟨_, [⟨A0, k0, c0, _⟩, ⟨A1, k1, c1, _⟩, ⟨A2, k2, c2, _⟩, ⟨A3, k3, c3, _⟩], rfl, ⟨Rd.fresh W 72 _, rfl, by omega⟩, (by intro s hs; simp only [List.mem_cons, List.not_mem_nil, or_false] at hs; rcases hs with rfl | rfl | rfl | rfl; exact n0.below (bA _ _); exact n1.below (bA _ _); exact n2.below (bA _ _); exact n3.below (bA _ _)), (allBy4 _ _ _ _), (by have h0 := n0.len; have h1 := n1.len; have h2 := n2.len; have h3 := n3.len; have l0 := HLI.out; have l1 := HLS.out; have l2 := HLR.out; have l3 := HLD.out; simp [sumB]; omega)⟩
  ·as_aux_lemma =>
   intro vs W hS hdep K hK; have d0 := hdep ⟨23, .data⟩ (by simp) rfl; simp only [PhiEc34] at d0; refine @exE2 _ _ _ _ d0 ?_; clear d0; intro g0 ls0 d0; have e0 := d0.1; have r0 := d0.2.1; have b0 := d0.2.2.1; have q0 := d0.2.2.2.1; have s0 := d0.2.2.2.2; clear d0; refine ⟨?_⟩; simp only [Act.put, sA, sB, sC, Nat.zero_add, Nat.reduceAdd, e0] at hK ⊢; go_simp; refine (concB_n _ 4 4 ls0 _ r0 (Lib.hid b0) s0).mono ?_; rintro e w' ⟨v, rfl, hv, hb⟩; go_wp2_with fail; with_reducible refine hK _ _ hb ?_
   exact (by show OwnB _ _ _ _; rw [← q0]; exact hv.mono (Nat.le_trans HBA.out hS.size))
  ·as_aux_lemma =>
   intro vs W hS hdep K hK; have d0 := hdep ⟨24, .data⟩ (by simp) rfl; simp only [PhiEc34] at d0; have n0 := d0; clear d0; refine ⟨?_⟩; simp only [Act.put, sA, sB, sC, Nat.zero_add, Nat.reduceAdd] at hK ⊢; go_simp; with_reducible refine hK _ _ (Below.refl _ _) ?_
   exact n0
 ·intro vs w2 hS hv; have u25 := hv 25 (by simp); simp only [PhiEc34] at u25; go_wp2_with fail; go_ret; exact ⟨_, rfl, u25, Below.tr hb1 hS⟩
end Go.Proofs.YtijkfagkbfbpmaaGreatDoor
