import Derived.Test.YtijkfagkbfbpmaaGreatDoorKCvProof27
import Derived.Test.YtijkfagkbfbpmaaGreatDoorKCvProof22
import Derived.Test.YtijkfagkbfbpmaaGreatDoorKCvProof21
import Derived.Test.YtijkfagkbfbpmaaGreatDoorKCvProof19
import Derived.Test.YtijkfagkbfbpmaaGreatDoorKCvProof17
import Derived.Test.YtijkfagkbfbpmaaGreatDoorS0
set_option linter.unusedVariables false
set_option linter.unusedSimpArgs false
namespace Go.Proofs.YtijkfagkbfbpmaaGreatDoor
open Go Go.RowKit
def pcF (team : Int) (b1 b2 : Value) (fr un : Int) : PC := ⟨team, ⟨#[116, 48]⟩, ⟨#[112, 48]⟩, 2, b1, b2, fr, un, .int .u8 0, .int .u8 0, .int .u8 0, .int .u8 0, .int .u8 0, .int .u8 0, .int .u8 0, .int .u8 0, .int .u8 0, .int .u8 0, .int .u8 0, .int .u8 0, .int .u8 0, .int .u8 0, .int .u8 0, .int .u8 0⟩
/-- the promises of the examples -/
def exF (a a' b b' : Value) : List PC := [pcF 1 a a' 10 90, pcF 2 b b' 50 60]
set_option maxRecDepth 100000 in
set_option maxHeartbeats 2000000 in
theorem example34_n (w : World) :
  Calls Tryz.prog 54 #[] w fun e w' => ∃ g a a' b b', e = .returned (.slice (some ⟨g, 0, none⟩) 2 2) ∧ RowS cellsP w' (some ⟨g, 0, none⟩) 2 (exF a a' b b') ∧ Rat w' (.agg #[a, a']) 1 8 ∧ Rat w' (.agg #[b, b']) 1 4 ∧ Hid (Nm.Good 1 8 ∧ Nm.Good 1 4) ∧ Below w.heap.size w w' := by
 obtain ⟨i0, hi0, hz0, hz1, hz2⟩ := info_parts info_promV
 go_enter Tryz.func54, Tryz.ntmps54
 go_wp2_with fail; refine (rof_s 1 8 _ (by omega) (by omega) (by omega)).mono ?_; rintro e w1 ⟨A1, k1, c1, A1', k1', c1', rfl, hR1, hb1⟩; go_upto_region 2 with fail; refine wp_name ?_; intro w2 HW2; have hb2 : Below w1.heap.size w1 w2 := by rw [HW2.out]; exact bA _ _
 have B1 : Blk w2 w1.heap.size 29 #[.slice A1 k1 c1, .slice A1' k1' c1'] := by rw [HW2.out]; exact Blk.new _ _ _
 obtain ⟨g1, hg1⟩ : ∃ g, Hid (g = w1.heap.size) := ⟨_, rfl⟩; rw [← hg1.out] at B1 ⊢; have HG1 := Lib.hid (hR1.to (a := 1) (b := 8) (by decide) (by decide)).2; have hR1 := (hR1.to (a := 1) (b := 8) (by decide) (by decide)).1.below hb2; have hbw := Below.tr hb1 hb2; clear hb1 hb2 HW2; go_wp2_with fail; refine (rof_s 1 4 _ (by omega) (by omega) (by omega)).mono ?_; rintro e w3 ⟨A2, k2, c2, A2', k2', c2', rfl, hR2, hb3⟩; go_upto_region 3 with fail; refine wp_name ?_; intro w4 HW4; have hb4 : Below w3.heap.size w3 w4 := by rw [HW4.out]; exact bA _ _
 have B2 : Blk w4 w3.heap.size 29 #[.slice A2 k2 c2, .slice A2' k2' c2'] := by rw [HW4.out]; exact Blk.new _ _ _
 obtain ⟨g2, hg2⟩ : ∃ g, Hid (g = w3.heap.size) := ⟨_, rfl⟩; rw [← hg2.out] at B2 ⊢; have B1 := (B1.below hb3 B1.lt).below hb4 (Nat.lt_of_lt_of_le B1.lt hb3.size); have HG2 := Lib.hid (hR2.to (a := 1) (b := 4) (by decide) (by decide)).2; have hR2 := (hR2.to (a := 1) (b := 4) (by decide) (by decide)).1.below hb4; have hR1 := (hR1.below hb3).below hb4; have hbw := Below.tr hbw (Below.tr hb3 hb4); have f1 := B1.cell 0; have f2 := B1.cell 1; have f3 := B2.cell 0; have f4 := B2.cell 1; simp only [List.getElem?_toArray, List.getElem?_cons_zero, List.getElem?_cons_succ] at f1 f2 f3 f4; clear hb3 hb4 HW4 B1 B2
 go_wp2_with (first | (refine wpList_sliceN rfl 23 33 2 [(0, .tmp 14), (1, .tmp 16)] rfl (cellsP (pcF 1 (.slice A1 k1 c1) (.slice A1' k1' c1') 10 90) ++ cellsP (pcF 2 (.slice A2 k2 c2) (.slice A2' k2' c2') 50 60)).toArray i0 zeroPV 24 [(0, .agg (cellsP (pcF 1 (.slice A1 k1 c1) (.slice A1' k1' c1') 10 90)).toArray), (1, .agg (cellsP (pcF 2 (.slice A2 k2 c2) (.slice A2' k2' c2') 50 60)).toArray)] Tryz.underlying23 hi0 hz0 hz1 (by omega) (by omega) rfl (fill_prom2 _ _) ?_; simp only [Act.put, sA, sB, sC]))
 go_ret; have hbA := bA w4 (.cells (cellsP (pcF 1 (.slice A1 k1 c1) (.slice A1' k1' c1') 10 90) ++ cellsP (pcF 2 (.slice A2 k2 c2) (.slice A2' k2' c2') 50 60)).toArray 33); exact ⟨w4.heap.size, .slice A1 k1 c1, .slice A1' k1' c1', .slice A2 k2 c2, .slice A2' k2' c2', rfl, ⟨Rd.fresh w4 33 ((exF (.slice A1 k1 c1) (.slice A1' k1' c1') (.slice A2 k2 c2) (.slice A2' k2' c2')).flatMap cellsP), rfl, by omega⟩, hR1.below hbA, hR2.below hbA, ⟨HG1.out, HG2.out⟩, Below.tr hbw hbA⟩
def z16 : List Int := List.replicate 16 0
def LfE (i : Nat) : List Nat × List Nat := if i = 0 then ([1], [8]) else ([1], [4])
theorem lb_d (n : Nat) (h0 : n ≠ 0) (h : n < 4294967296) : Nm.lb n = [n] := Nm.lb_small h0 h
theorem dn_d (n : Nat) (h0 : 1 < n) (h : n < 4294967296) : Nm.lb (Nm.dn n) = [n] := by rw [Nm.dn_ne (by omega)]; exact lb_d n (by omega) h
theorem exF_esc {w : World} {a a' b b' : Value} (h1 : Rat w (.agg #[a, a']) 1 8) (h2 : Rat w (.agg #[b, b']) 1 4) : EscOk w (exF a a' b b') LfE := by
 have e1 := rtl_rat h1; have e2 := rtl_rat h2; rw [lb_d 1 (by omega) (by omega), dn_d 8 (by omega) (by omega)] at e1; rw [lb_d 1 (by omega) (by omega), dn_d 4 (by omega) (by omega)] at e2; intro n p hp
 rcases n with _ | _ | n
 ·injection hp with hp; subst hp; exact ⟨e1, by show (2 : Nat) ≤ _; omega, by show (2 : Nat) ≤ _; omega⟩
 ·injection hp with hp; subst hp; exact ⟨e2, by show (2 : Nat) ≤ _; omega, by show (2 : Nat) ≤ _; omega⟩
 ·cases hp
theorem exF_nb (team : Int) (b1 b2 : Value) (fr un : Int) (x y : Nat) (h : x ≤ y) (h1 : 0 ≤ team ∧ team < 4) (h2 : 0 ≤ fr ∧ fr < un ∧ un ≤ 1048576) : ¬ pBad x y (pcF team b1 b2 fr un) := by
 have w1 : wordB ⟨#[116, 48]⟩ = true := by decide
 have w2 : wordB ⟨#[112, 48]⟩ = true := by decide
 have w3 : (⟨#[112, 48]⟩ : ByteArray).toList.isEmpty = false := by rw [ByteArray.toList_eq]; rfl
 unfold pBad; simp only [pcF]; rintro (e | e | e | e | ⟨_, e⟩ | e | e | ⟨e, _⟩ | e | e | e)
 ·omega
 ·omega
 ·omega
 ·rw [w1] at e; cases e
 ·rw [w2] at e; cases e
 ·omega
 ·omega
 ·rw [w3] at e; cases e
 ·omega
 ·omega
 ·omega
theorem exF_pv {a a' b b' : Value} (h : Nm.Good 1 8 ∧ Nm.Good 1 4) : ∀ (n : Nat) p, (exF a a' b b')[n]? = some p → PVal p (LfE n).1 (LfE n).2 0 := by
 intro n p hp
 rcases n with _ | _ | n
 ·injection hp with hp; subst hp; exact .inr ⟨1, 8, (lb_d 1 (by omega) (by omega)).symm, (dn_d 8 (by omega) (by omega)).symm, h.1, pE_ok (exF_nb _ _ _ _ _ _ _ (by omega) (by omega) (by omega))⟩
 ·injection hp with hp; subst hp; exact .inr ⟨1, 4, (lb_d 1 (by omega) (by omega)).symm, (dn_d 4 (by omega) (by omega)).symm, h.2, pE_ok (exF_nb _ _ _ _ _ _ _ (by omega) (by omega) (by omega))⟩
 ·cases hp
theorem exF_dg {a a' b b' : Value} : ∀ (n : Nat) p, (exF a a' b b')[n]? = some p → DgOk (pdg p) z16 := by
 intro n p hp
 rcases n with _ | _ | n
 ·injection hp with hp; subst hp; exact ⟨rfl, rfl⟩
 ·injection hp with hp; subst hp; exact ⟨rfl, rfl⟩
 ·cases hp
/-- what holds of the examples' list -/
structure ExOk (w : World) (g : Nat) (a a' b b' : Value) : Prop where
 row : RowS cellsP w (some ⟨g, 0, none⟩) 2 (exF a a' b b')
 r1 : Rat w (.agg #[a, a']) 1 8
 r2 : Rat w (.agg #[b, b']) 1 4
 gd : Nm.Good 1 8 ∧ Nm.Good 1 4
theorem ExOk.below {w w' : World} {g : Nat} {a a' b b' : Value} (h : ExOk w g a a' b b') (hb : Below w.heap.size w w') : ExOk w' g a a' b b' := ⟨h.row.below hb, h.r1.below hb, h.r2.below hb, h.gd⟩
theorem ExOk.pls {w : World} {g : Nat} {a a' b b' : Value} (h : ExOk w g a a' b b') : PLs w (some ⟨g, 0, none⟩) 2 (exF a a' b b') LfE (fun _ => 0) (fun _ => z16) :=
 ⟨h.row, exF_esc h.r1 h.r2, exF_pv h.gd, exF_dg⟩
theorem lst_n (g : Nat) (a a' b b' : Value) (t : Int) (d : DG) (dm br : List Int) (A : Option Addr) (k c : Nat) (s : Int) (w : World) (h : ExOk w g a a' b b') (hd : DgOk (cellsDG d) dm) (hbr : RowS intC w A k br) (hs : Hid (stF t dm br (fun _ => 0) LfE (fun _ => z16) (exF a a' b b') 0 = s)) :
  Calls Tryz.prog 14 #[.slice (some ⟨g, 0, none⟩) 2 2, .int .i64 0, .int .i64 t, .agg (cellsDG d).toArray, .slice A k c] w fun e w' => e = .returned (.tuple #[.int .i64 s, .int .i64 0]) ∧ Below w.heap.size w w' := by
 have hp := h.pls; refine (state_n (some ⟨g, 0, none⟩) 2 2 0 (mmOf t d A k c) (exF a a' b b') LfE (fun _ => 0) (fun _ => z16) dm br w hp.row hp.esc hp.pv hp.dk hd hbr).mono ?_; rintro e w' ⟨s', er, rfl, HS, hb⟩
 rcases HS.out with ⟨h1, _⟩ | ⟨n, h1, h2, h3⟩
 ·omega
 ·have hn : n = 0 := by omega
  subst hn
  rcases h3 with ⟨h4, _⟩ | ⟨_, h4, h5⟩
  ·exact absurd rfl h4
  ·rw [h4, h5]; have := hs.out; exact ⟨by rw [← this]; rfl, hb⟩
theorem st_9 (a a' b b' : Value) : stF 9 z16 [] (fun _ => 0) LfE (fun _ => z16) (exF a a' b b') 0 = 1 := by kernel_rfl
theorem st_10 (a a' b b' : Value) : stF 10 z16 [] (fun _ => 0) LfE (fun _ => z16) (exF a a' b b') 0 = 0 := by kernel_rfl
theorem st_50 (a a' b b' : Value) : stF 50 z16 [] (fun _ => 0) LfE (fun _ => z16) (exF a a' b b') 0 = 5 := by kernel_rfl
theorem st_60 (a a' b b' : Value) : stF 60 z16 [] (fun _ => 0) LfE (fun _ => z16) (exF a a' b b') 0 = 0 := by kernel_rfl
theorem st_90 (a a' b b' : Value) : stF 90 z16 [] (fun _ => 0) LfE (fun _ => z16) (exF a a' b b') 0 = 2 := by kernel_rfl
theorem st_b (a a' b b' : Value) : stF 50 z16 [1] (fun _ => 0) LfE (fun _ => z16) (exF a a' b b') 0 = 0 := by kernel_rfl
theorem st_c (a a' b b' : Value) : stF 50 (1 :: List.replicate 15 0) [] (fun _ => 0) LfE (fun _ => z16) (exF a a' b b') 0 = 3 := by kernel_rfl
theorem cl_1 (a a' b b' : Value) : clList (clA (fun _ => 0) LfE (fun _ => z16) (exF a a' b b')) 2 2 = [(0, 1)] := by kernel_rfl
end Go.Proofs.YtijkfagkbfbpmaaGreatDoor
namespace Go.Proofs.YtijkfagkbfbpmaaGreatDoor
open Go Go.RowKit
theorem itoa_sm (w : World) (n : Nat) (hn : n < 100) (s : ByteArray) (hs : (⟨(Lib.decDigits n).toArray⟩ : ByteArray) = s) (h1 : s.size ≤ 100) : ItoaS w (n : Int) s := by
 refine ⟨h1, fun W _ => ?_⟩; refine (Tryz.strconv_Itoa_small n hn W).mono ?_; rintro e w' ⟨rfl, rfl⟩; exact ⟨by rw [hs], Below.refl _ _⟩
theorem dd_1 (n : Nat) (h : n < 10) : Lib.decDigits n = [UInt8.ofNat (48 + n)] := by rw [Lib.decDigits, dif_pos h]
theorem dd_2 (n : Nat) (h : 10 ≤ n) (h2 : n < 100) : Lib.decDigits n = [UInt8.ofNat (48 + n / 10), UInt8.ofNat (48 + n % 10)] := by
 rw [Lib.decDigits, dif_neg (by omega), dd_1 _ (by omega)]; rfl
theorem rat18 : ratS 1 8 = ⟨#[49, 47, 56]⟩ := by
 have e1 : Nm.decS 1 = { data := #[49] } := by unfold Nm.decS; rw [Nm.decD_small (by omega)]; rfl
 have e2 : Nm.decS 8 = { data := #[56] } := by unfold Nm.decS; rw [Nm.decD_small (by omega)]; rfl
 unfold ratS; rw [if_neg (by omega), e1, e2]; rfl
def exTx : ByteArray := { data := ([116, 101, 97, 109, 32, 49, 32, 112, 114, 111, 109, 105, 115, 101, 115, 32, 116, 104, 97, 116, 32, 116, 48, 32, 102, 97, 105, 108, 115, 32, 97, 116, 32, 112, 48, 47, 50, 32, 119, 105, 116, 104, 32, 97, 116, 32, 109, 111, 115, 116, 32, 49, 47, 56, 32].append [102, 114, 111, 109, 32, 49, 48, 32, 117, 110, 116, 105, 108, 32, 57, 48, 32, 119, 104, 105, 108, 101, 32, 48, 48, 48, 48, 48, 48, 48, 48, 48, 48, 48, 48, 48, 48, 48, 48, 48, 48, 48, 48, 48, 48, 48, 48, 48, 48, 48, 48, 48, 48, 48, 48]).toArray }
theorem ex_text (a a' : Value) : joinP (wordsP (pcF 1 a a' 10 90) ⟨#[49, 47, 56]⟩ ⟨#[49]⟩ ⟨#[50]⟩ ⟨#[49, 48]⟩ ⟨#[57, 48]⟩ z16) = exTx := by kernel_rfl
theorem lpr_n (g : Nat) (a a' b b' : Value) (w : World) (h : ExOk w g a a' b b') :
  Calls Tryz.prog 47 #[.agg (cellsP (pcF 1 a a' 10 90)).toArray] w fun e w' => e = .returned (.tuple #[.string exTx, .int .i64 0]) ∧ Below w.heap.size w w' := by
 refine (print_n (pcF 1 a a' 10 90) 1 8 z16 ⟨#[49]⟩ ⟨#[50]⟩ ⟨#[49, 48]⟩ ⟨#[57, 48]⟩ w h.r1 h.gd.1 (exF_nb _ _ _ _ _ _ _ (by omega) (by omega) (by omega)) (by show (2 : Nat) ≤ _; omega) (by show (2 : Nat) ≤ _; omega) ⟨rfl, rfl⟩ (fun x hx => by rw [List.eq_of_mem_replicate hx]; exact ⟨by omega, by omega⟩)
  (itoa_sm w 1 (by omega) _ (by rw [dd_1 1 (by omega)]; rfl) (by show (1 : Nat) ≤ _; omega)) (itoa_sm w 2 (by omega) _ (by rw [dd_1 2 (by omega)]; rfl) (by show (1 : Nat) ≤ _; omega))
  (itoa_sm w 10 (by omega) _ (by rw [dd_2 10 (by omega) (by omega)]; rfl) (by show (2 : Nat) ≤ _; omega)) (itoa_sm w 90 (by omega) _ (by rw [dd_2 90 (by omega) (by omega)]; rfl) (by show (2 : Nat) ≤ _; omega)) ⟨#[49, 47, 56]⟩ ⟨rat18, by show (3 : Nat) ≤ _; omega⟩).mono ?_
 rintro e w' ⟨rfl, hb⟩; exact ⟨by rw [ex_text], hb⟩
def ticksA : Array Value := #[.int .i64 9, .int .i64 10, .int .i64 50, .int .i64 60, .int .i64 90]
def wantA : Array Value := #[.int .i64 1, .int .i64 0, .int .i64 5, .int .i64 0, .int .i64 2]
theorem lv_at (a a' b b' : Value) {i : Nat} (h : i < 5) : ∃ t s : Int, ticksA[i]? = some (.int .i64 t) ∧ wantA[i]? = some (.int .i64 s) ∧ stF t z16 [] (fun _ => 0) LfE (fun _ => z16) (exF a a' b b') 0 = s := by
 have hc : i = 0 ∨ i = 1 ∨ i = 2 ∨ i = 3 ∨ i = 4 := by omega
 rcases hc with rfl | rfl | rfl | rfl | rfl
 ·exact ⟨9, 1, rfl, rfl, st_9 ..⟩
 ·exact ⟨10, 0, rfl, rfl, st_10 ..⟩
 ·exact ⟨50, 5, rfl, rfl, st_50 ..⟩
 ·exact ⟨60, 0, rfl, rfl, st_60 ..⟩
 ·exact ⟨90, 2, rfl, rfl, st_90 ..⟩
def oneDG : DG := ⟨.int .u8 1, .int .u8 0, .int .u8 0, .int .u8 0, .int .u8 0, .int .u8 0, .int .u8 0, .int .u8 0, .int .u8 0, .int .u8 0, .int .u8 0, .int .u8 0, .int .u8 0, .int .u8 0, .int .u8 0, .int .u8 0⟩
theorem row_none (w : World) (c : Nat) : RowS intC w none 0 [] := ⟨fun h => absurd rfl h, rfl, by omega⟩
set_option maxRecDepth 100000 in
set_option maxHeartbeats 8000000 in
theorem lives34_n (w : World) :
  Calls Tryz.prog 16 #[] w fun e w' => e = .returned (.bool true) ∧ Below w.heap.size w w' := by
 go_enter Tryz.func16, Tryz.ntmps16
 go_wp2_with fail; refine (example34_n _).mono ?_; rintro e w1 ⟨g, a, a', b, b', rfl, hrow, hr1, hr2, HGD, hb1⟩; have HEX : Hid (ExOk w1 g a a' b b') := ⟨hrow, hr1, hr2, HGD.out⟩; have hbw := hb1; obtain ⟨bg, og, hA, HC0⟩ := hrow.at_ cellsP_len (by omega) (by omega : 0 < 2) (by show 0 < 2; omega); injection hA with hA; injection hA with hA1 hA2; subst hA1 hA2; clear hrow hr1 hr2 hb1 HGD
 go_upto_region 3 with (first | (refine wpList_load_mid rfl 33 (.tmp 17) rfl g (0 + 0 * 24) rfl (cellsP (pcF 1 a a' 10 90)) _ (fun j v h => HC0.out j v h) Tryz.underlying33 rfl infoP ?_; simp only [Act.put, sA, sB, sC]))
 refine (lpr_n g a a' b b' _ HEX.out).mono ?_; rintro e w2 ⟨rfl, hb2⟩; have hbw := Below.tr hbw hb2; have HEX := Lib.hid (HEX.out.below hb2); obtain ⟨S, HS⟩ : ∃ S, Hid (S = exTx) := ⟨_, rfl⟩; rw [← HS.out]; clear hb2 HC0; go_upto_region 5 with fail; refine wp_name ?_; intro w5 HW5; have hb5 : Below w2.heap.size w2 w5 := by rw [HW5.out]; exact Below.tr (bA _ _) (bA _ _)
 have BT : Blk w5 w2.heap.size 3 ticksA := by rw [HW5.out]; exact (Blk.new _ _ _).alloc _
 have BW : Blk w5 (w2.heap.size + 1) 3 wantA := by
  rw [HW5.out]; have h := Blk.new (w2.alloc (.cells ticksA 3)) 3 wantA; rw [show (w2.alloc (.cells ticksA 3)).heap.size = w2.heap.size + 1 by simp] at h; exact h
 obtain ⟨gT, hgT⟩ : ∃ g, Hid (g = w2.heap.size) := ⟨_, rfl⟩; obtain ⟨gW, hgW⟩ : ∃ g, Hid (g = w2.heap.size + 1) := ⟨_, rfl⟩; rw [← hgW.out] at BW ⊢; rw [← hgT.out] at BT ⊢; have hbw := Below.tr hbw hb5; have HEX := Lib.hid (HEX.out.below hb5); clear HW5 hb5 hgT hgW; go_wp2_with fail
 go_loopg [6] 5 (fun mm x wr => ∃ i : Nat, x = .int .i64 i ∧ i + mm = 5 ∧ Below w5.heap.size w5 wr)
 case atStart => exact ⟨0, rfl, rfl, Below.refl _ _⟩
 case round =>
  obtain ⟨G, hG⟩ : ∃ G, G = gk := ⟨gk, rfl⟩; subst hG; obtain ⟨i, rfl, him, hbe⟩ := hrel; by_cases hi : i < 5
  ·have t1 : decide ((i : Int) < 5) = true := by simp; omega
   have li : (i : Int) < 5 := by omega
   obtain ⟨t, s, ht, hs, hst⟩ := lv_at a a' b b' hi; have HST := Lib.hid hst; have hct : wr.cell? ⟨gT, i, none⟩ = some (.int .i64 t) := cell_keep hbe (by rw [BT.cell]; exact ht); have hcw : wr.cell? ⟨gW, i, none⟩ = some (.int .i64 s) := cell_keep hbe (by rw [BW.cell]; exact hs); clear ht hs hst; go_wp2_with fail; refine (lst_n g a a' b b' t zeroDG z16 [] none 0 0 s _ (HEX.out.below hbe) ⟨rfl, rfl⟩ (row_none _ 0) HST).mono ?_; rintro e w6 ⟨rfl, hb6⟩; have hcw := cell_keep hb6 hcw; have hbe := Below.tr hbe hb6; have t2 : (s != s) = false := by simp
   clear hct HST hb6; go_wp2_with fail
   go_roundg (G - 1)
   case measure => omega
   case rel => exact ⟨i + 1, by go_num, by omega, hbe⟩
  ·have t1 : decide ((i : Int) < 5) = false := by simp; omega
   have hbw := Below.tr hbw hbe; have HEX := Lib.hid (HEX.out.below hbe); clear BT BW; go_wp2_with fail; refine calls_name ?_; intro w7 HW7; have hb7 : Below wr.heap.size wr w7 := by rw [HW7.out]; exact bA _ _
   have B1 : Blk w7 wr.heap.size 3 #[.int .i64 1] := by rw [HW7.out]; exact Blk.new _ _ _
   have hbr : RowS intC w7 (some ⟨wr.heap.size, 0, none⟩) 1 [1] := ⟨rd_blk B1, rfl, by omega⟩; have hbw := Below.tr hbw hb7; have HEX := Lib.hid (HEX.out.below hb7); refine (lst_n g a a' b b' 50 zeroDG z16 [1] _ 1 1 0 _ HEX.out ⟨rfl, rfl⟩ hbr (st_b ..)).mono ?_; rintro e w8 ⟨rfl, hb8⟩; have hbw := Below.tr hbw hb8; have HEX := Lib.hid (HEX.out.below hb8); clear HW7 hb7 B1 hbr hb8 hbe; go_wp2_with fail; refine (lst_n g a a' b b' 50 oneDG (1 :: List.replicate 15 0) [] none 0 0 3 _ HEX.out ⟨rfl, rfl⟩ (row_none _ 0) (st_c ..)).mono ?_; rintro e w9 ⟨rfl, hb9⟩; have hbw := Below.tr hbw hb9; have HEX := Lib.hid (HEX.out.below hb9); clear hb9; go_wp2_with fail; refine (clashes_n _ 2 2 _ _ _ _ _ HEX.out.pls (by omega)).mono ?_; rintro e w10 ⟨Ac, kc, cc, rfl, hrc, hb10⟩; rw [cl_1] at hrc; obtain rfl : kc = 1 := hrc.2.1; have hbw := Below.tr hbw hb10; clear hrc hb10 HEX; rw [HS.out]; unfold exTx; go_wp2_with fail; go_ret; exact ⟨rfl, hbw⟩
end Go.Proofs.YtijkfagkbfbpmaaGreatDoor
namespace Go.Proofs.YtijkfagkbfbpmaaGreatDoor
open Go Go.RowKit
theorem prom_goodM {p : PC} (h : PromOk p) {a b : Nat} (hab : a ≤ b) : ¬ pBad a b p := by
 obtain ⟨team, t, h, site, fr, un, d, A1, k1, c1, A2, k2, c2, rfl, h1, ht, hh, h4, h5, h6, h7, h8, _⟩ := h; have w1 : wordB t = true := by rcases ht with rfl | rfl | rfl <;> decide
 have w2 : h.toList.isEmpty = false → wordB h = true := by
  rw [ByteArray.toList_eq]
  rcases hh with rfl | rfl | rfl <;> intro e <;> first | decide | (exact absurd e (by decide))
 have w3 : h.toList.isEmpty = true → site = 0 := by
  rw [ByteArray.toList_eq]; intro e
  rcases hh with rfl | rfl | rfl
  ·exact absurd e (by decide)
  ·exact absurd e (by decide)
  ·exact h5 rfl
 unfold pBad; simp only [promV]; rintro (e | e | e | e | ⟨e1, e2⟩ | e | e | ⟨e1, e2⟩ | e | e | e)
 ·omega
 ·omega
 ·omega
 ·rw [w1] at e; cases e
 ·rw [w2 e1] at e2; cases e2
 ·omega
 ·omega
 ·exact e2 (by rw [w3 e1]; rfl)
 ·omega
 ·omega
 ·omega
def LfM (bd : Nat → Nat × Nat) (i : Nat) : List Nat × List Nat := (Nm.lb (bd i).1, Nm.lb (Nm.dn (bd i).2))
theorem psok_ls {w : World} {ps : List PC} {bd : Nat → Nat × Nat} (h : PsOk w ps bd) : LsW w ps (LfM bd) := by
 intro n p hp; obtain ⟨k1, k2, k3, k4, k5⟩ := h n p hp; exact ⟨k1.pd k2 k3, by have := k3.fits.1; unfold LfM; simp only; omega, by have := k3.fits.2; unfold LfM; simp only; omega⟩
theorem psok_pv {w : World} {ps : List PC} {bd : Nat → Nat × Nat} (h : PsOk w ps bd) : ∀ (n : Nat) p, ps[n]? = some p → PVal p (LfM bd n).1 (LfM bd n).2 0 := by
 intro n p hp; obtain ⟨k1, k2, k3, k4, k5⟩ := h n p hp; exact .inr ⟨_, _, rfl, rfl, k3, pE_ok (prom_goodM k1 k4)⟩
end Go.Proofs.YtijkfagkbfbpmaaGreatDoor
namespace Go.Proofs.YtijkfagkbfbpmaaGreatDoor
open Go Go.RowKit
theorem list_ex {w : World} {ps : List PC} {bd : Nat → Nat × Nat} {b q : PC} (h1 : PsOk w ps bd) (h2 : PDN w b 69) (h3 : PDN w q 69) : ∃ Lf, LsW w (ps ++ [b, q]) Lf ∧ ∀ (n : Nat) p, (ps ++ [b, q])[n]? = some p → n + 2 < (ps ++ [b, q]).length → PVal p (Lf n).1 (Lf n).2 0 := by
 obtain ⟨Lf, hL⟩ := idx_choice (l := ps ++ [b, q]) (R := fun n p (L : List Nat × List Nat) => (PD w p L.1 L.2 ∧ L.1.length ≤ 69 ∧ L.2.length ≤ 69) ∧ (n + 2 < (ps ++ [b, q]).length → PVal p L.1 L.2 0)) (by
  intro n p hp; by_cases hn : n < ps.length
  ·rw [List.getElem?_append_left hn] at hp; have h4 := psok_ls h1 n p hp; exact ⟨LfM bd n, h4, fun _ => psok_pv h1 n p hp⟩
  ·have hlen : (ps ++ [b, q]).length = ps.length + 2 := by simp
   have hl := (List.getElem?_eq_some_iff.1 hp).1; rw [List.getElem?_append_right (by omega)] at hp; have hc : n - ps.length = 0 ∨ n - ps.length = 1 := by omega
   rcases hc with hc | hc
   ·rw [hc] at hp; injection hp with hp; subst hp; obtain ⟨L, hL⟩ := h2.esc; exact ⟨L, hL, fun h => (by omega)⟩
   ·rw [hc] at hp; injection hp with hp; subst hp; obtain ⟨L, hL⟩ := h3.esc
    exact ⟨L, hL, fun h => (by omega)⟩)
 exact ⟨Lf, fun n p hp => (hL n p hp).1, fun n p hp => (hL n p hp).2⟩
theorem list_pls {w : World} {A : Option Addr} {k : Nat} {ps : List PC} {bd : Nat → Nat × Nat} {b q : PC} (hr : RowS cellsP w A k (ps ++ [b, q])) (h1 : PsOk w ps bd) (h2 : PDN w b 69) (h3 : PDN w q 69) : ∃ Lf Ev dg, LsW w (ps ++ [b, q]) Lf ∧ PLs w A k (ps ++ [b, q]) Lf Ev dg ∧ ∀ n, n + 2 < k → Ev n = 0 := by
 obtain ⟨Lf, hL, hv⟩ := list_ex h1 h2 h3; obtain ⟨Ev, dg, hp⟩ := pls_ex hr hL; refine ⟨Lf, Ev, dg, hL, hp, fun n hn => ?_⟩; have hk : k = (ps ++ [b, q]).length := hr.2.1; have hnl : n < (ps ++ [b, q]).length := by omega
 exact (hp.pv n _ (List.getElem?_eq_getElem hnl)).uniq (hv n _ (List.getElem?_eq_getElem hnl) (by omega))
end Go.Proofs.YtijkfagkbfbpmaaGreatDoor
namespace Go.Proofs.YtijkfagkbfbpmaaGreatDoor
open Go Go.RowKit
theorem sameR_comm (a b c d : List Nat) : sameR a b c d = sameR c d a b := by
 unfold sameR sameB
 congr 1 <;> exact decide_eq_decide.2 ⟨Eq.symm, Eq.symm⟩
theorem clB_comm {E F : Int} {p q : PC} {dp dq : List Int} {s : Bool} : clB E F p q dp dq s = clB F E q p dq dp s := by
 unfold clB; refine decide_eq_decide.2 ⟨?_, ?_⟩
 ·rintro ⟨h1, h2, h3, h4, h5, h6, h7, h8⟩; exact ⟨h2, h1, h3.symm, h4.symm, h5.symm, h6.symm, h7, by omega⟩
 ·rintro ⟨h1, h2, h3, h4, h5, h6, h7, h8⟩; exact ⟨h2, h1, h3.symm, h4.symm, h5.symm, h6.symm, h7, by omega⟩
theorem clA_comm (Ev : Nat → Int) (Lf : Nat → List Nat × List Nat) (dg : Nat → List Int) (ps : List PC) (n i : Nat) : clA Ev Lf dg ps n i = clA Ev Lf dg ps i n := by
 unfold clA
 cases h1 : ps[n]? <;> cases h2 : ps[i]? <;> simp only
 rw [sameR_comm (Lf n).1, clB_comm]
theorem clA_irr (Ev : Nat → Int) (Lf : Nat → List Nat × List Nat) (dg : Nat → List Int) (ps : List PC) (n : Nat) : clA Ev Lf dg ps n n = false := by
 unfold clA
 cases h1 : ps[n]? <;> simp only
 unfold clB; rw [decide_eq_false_iff_not]; rintro ⟨_, _, _, _, _, _, h, _⟩; unfold sameR sameB at h; simp at h
end Go.Proofs.YtijkfagkbfbpmaaGreatDoor
namespace Go.Proofs.YtijkfagkbfbpmaaGreatDoor
open Go Go.RowKit
set_option maxRecDepth 10000 in
theorem short_n (s : ByteArray) (m : Nat) (w : World) (hs : s.size ≤ 9223372036854775807) (hm : m ≤ 1000) :
  Calls Tryz.prog 18 #[.string s, .int .i64 (m : Nat)] w fun e w' => ∃ u : ByteArray, e = .returned (.string u) ∧ Hid (u.size ≤ s.size) ∧ w = w' := by
 by_cases h : m < s.size
 ·have t1 : decide ((s.size : Int) > (m : Int)) = true := by simp; omega
  have t2 : decide (m < s.size) = true := by simpa using h
  have hs2 := h; have h1 : (m : Int) ≤ (s.size : Int) := by omega
  have HS : Hid ((s.extract 0 m).size ≤ s.size) := by show _ ≤ _; rw [ByteArray.size_extract]; omega
  go_enter Tryz.func18, Tryz.ntmps18
  go_wp2_with fail; go_ret; exact ⟨_, rfl, HS, rfl⟩
 ·have t1 : decide ((s.size : Int) > (m : Int)) = false := by simp; omega
  have t2 : decide (m < s.size) = false := by simpa using h
  clear h
  go_enter Tryz.func18, Tryz.ntmps18
  go_wp2_with fail; go_ret; exact ⟨_, rfl, Nat.le_refl _, rfl⟩
theorem pair_equal (w : World) (x y : Int) (d : Nat) : (Op.equalIn (d + 2) 40 (.agg #[.int .i64 x, .int .i64 y]) (.agg #[.int .i64 x, .int .i64 y])).run Tryz.prog w = .ok true w := by
 obtain ⟨ib, hib⟩ : ∃ i, Tryz.prog.info? 3 = some i := by
  have h : (Tryz.prog.info? 3).map (·.size) = some 1 := by kernel_rfl
  cases e : Tryz.prog.info? 3 with
  | none => rw [e] at h; cases h
  | some i => exact ⟨i, rfl⟩
 rw [run_equalIn_array w (d + 1) _ _ (show Tryz.prog.underlying 40 = some (.array 2 3) by kernel_rfl) hib, show Tryz.prog.cellsOf 3 = 1 by kernel_rfl]
 have h : (Op.eqItems (d + 1) 3 1 #[.int .i64 x, .int .i64 y] #[.int .i64 x, .int .i64 y] [0, 1]).run Tryz.prog w = .ok (x == x && (y == y && true)) w := by
  refine eqI_step w (run_part_plain w (by kernel_rfl) rfl) (run_part_plain w (by kernel_rfl) rfl) (run_equalIn_int w d _ .i64 .i64 _ _ (by kernel_rfl)) ?_; refine eqI_step w (run_part_plain w (by kernel_rfl) rfl) (run_part_plain w (by kernel_rfl) rfl) (run_equalIn_int w d _ .i64 .i64 _ _ (by kernel_rfl)) ?_; rfl
 refine Eq.trans ?_ (h.trans (by simp)); rfl
theorem pair_neq (w : World) (x y : Int) : (binOp .neq 40 (.agg #[.int .i64 x, .int .i64 y]) (.agg #[.int .i64 x, .int .i64 y])).run Tryz.prog w = .ok (.bool false) w := by
 rw [run_neq_struct, show (10000 : Nat) = 9998 + 2 from rfl, pair_equal w x y]; rfl
theorem quiet_neq2 (a : Act) (C : World → Prop) (w : World) (u v : Operand) (x y : Int) (hx : a.eval u = .agg #[.int .i64 x, .int .i64 y]) (hy : a.eval v = .agg #[.int .i64 x, .int .i64 y]) (o : Oper) (ho : o.op = .binOp .neq 40 u v 40) : o.quietAt Tryz.prog a C w (.bool false) := by
 unfold Oper.quietAt execOp; rw [ho]; simp only [hx, hy, Sem.run_bind, run_eqGuard_agg (P := Tryz.prog) w .neq 40 u v #[.int .i64 x, .int .i64 y] #[.int .i64 x, .int .i64 y] (by kernel_rfl), pair_neq w x y, Result.andThen_ok, Sem.run_pure]; exact ⟨rfl, rfl⟩
theorem fill_rs2 (a b : RC0) : Instr.fill (fun i => some (i * 22, 22)) ((Array.range (2 * 22)).map (zeroR.cells[· % zeroR.cells.size]!)) [(0, .agg (cellsR a).toArray), (1, .agg (cellsR b).toArray)] = some (cellsR a ++ cellsR b).toArray := by kernel_rfl
theorem fill_st3 (s0 s1 s2 : ByteArray) : Instr.fill (fun i => some (i * 1, 1)) ((Array.range (3 * 1)).map ((Value.string { data := #[] }).cells[· % (Value.string { data := #[] }).cells.size]!)) [(0, .string s0), (1, .string s1), (2, .string s2)] = some #[.string s0, .string s1, .string s2] := by kernel_rfl
end Go.Proofs.YtijkfagkbfbpmaaGreatDoor
