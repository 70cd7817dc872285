import Derived.Test.YtijkfagkbfbpmaaGreatDoorKSt34Proof28
import Derived.Test.YtijkfagkbfbpmaaGreatDoorKSt34Proof22
import Derived.Test.YtijkfagkbfbpmaaGreatDoorKSt34Proof23
import Derived.Test.YtijkfagkbfbpmaaGreatDoorKSt34Proof19
import Derived.Test.YtijkfagkbfbpmaaGreatDoorKSt34Proof24
import Derived.Test.YtijkfagkbfbpmaaGreatDoorKSt34Proof12
import Derived.Test.YtijkfagkbfbpmaaGreatDoorKSt34Proof16
import Derived.Test.YtijkfagkbfbpmaaGreatDoorKSt34Proof13
import Derived.Test.YtijkfagkbfbpmaaGreatDoorKSt34Proof14
import Derived.Test.YtijkfagkbfbpmaaGreatDoorKSt34Proof25
import Derived.Test.YtijkfagkbfbpmaaGreatDoorKSt34Proof11
import Derived.Test.YtijkfagkbfbpmaaGreatDoorKSt34Proof26
import Derived.Test.YtijkfagkbfbpmaaGreatDoorKSt34Proof01
import Derived.Test.YtijkfagkbfbpmaaGreatDoorKSt34Proof08
import Derived.Test.YtijkfagkbfbpmaaGreatDoorKSt34Proof17
import Derived.Test.YtijkfagkbfbpmaaGreatDoorS0
set_option linter.unusedVariables false
set_option linter.unusedSimpArgs false
namespace Go.Proofs.YtijkfagkbfbpmaaGreatDoor
open Go Go.RowKit
def pcF (team : Int) (b1 b2 : Value) (fr un : Int) : PC := ⟨team, ⟨#[116, 48]⟩, ⟨#[112, 48]⟩, 2, b1, b2, fr, un, .int .u8 0, .int .u8 0, .int .u8 0, .int .u8 0, .int .u8 0, .int .u8 0, .int .u8 0, .int .u8 0, .int .u8 0, .int .u8 0, .int .u8 0, .int .u8 0, .int .u8 0, .int .u8 0, .int .u8 0, .int .u8 0⟩
/-- the promises of the examples -/
def exF (a a' b b' : Value) : List PC := [pcF 1 a a' 10 90, pcF 2 b b' 50 60]
set_option maxRecDepth 100000 in
set_option maxHeartbeats 2000000 in
theorem example34_n (w : World) :
  Calls Tryz.prog 54 #[] w fun e w' => ∃ g a a' b b', e = .returned (.slice (some ⟨g, 0, none⟩) 2 2) ∧ RowS cellsP w' (some ⟨g, 0, none⟩) 2 (exF a a' b b') ∧ Rat w' (.agg #[a, a']) 1 8 ∧ Rat w' (.agg #[b, b']) 1 4 ∧ Hid (Nm.Good 1 8 ∧ Nm.Good 1 4) ∧ Below w.heap.size w w' := by
 obtain ⟨i0, hi0, hz0, hz1, hz2⟩ := info_parts info_promV
 go_enter Tryz.func54, Tryz.ntmps54
 go_wp2_with fail; refine (rof_s 1 8 _ (by omega) (by omega) (by omega)).mono ?_; rintro e w1 ⟨A1, k1, c1, A1', k1', c1', rfl, hR1, hb1⟩; go_upto_region 2 with fail; refine wp_name ?_; intro w2 HW2; have hb2 : Below w1.heap.size w1 w2 := by rw [HW2.out]; exact bA _ _
 have B1 : Blk w2 w1.heap.size 29 #[.slice A1 k1 c1, .slice A1' k1' c1'] := by rw [HW2.out]; exact Blk.new _ _ _
 obtain ⟨g1, hg1⟩ : ∃ g, Hid (g = w1.heap.size) := ⟨_, rfl⟩; rw [← hg1.out] at B1 ⊢; have HG1 := Lib.hid (hR1.to (a := 1) (b := 8) (by decide) (by decide)).2; have hR1 := (hR1.to (a := 1) (b := 8) (by decide) (by decide)).1.below hb2; have hbw := Below.tr hb1 hb2; clear hb1 hb2 HW2; go_wp2_with fail; refine (rof_s 1 4 _ (by omega) (by omega) (by omega)).mono ?_; rintro e w3 ⟨A2, k2, c2, A2', k2', c2', rfl, hR2, hb3⟩; go_upto_region 3 with fail; refine wp_name ?_; intro w4 HW4; have hb4 : Below w3.heap.size w3 w4 := by rw [HW4.out]; exact bA _ _
 have B2 : Blk w4 w3.heap.size 29 #[.slice A2 k2 c2, .slice A2' k2' c2'] := by rw [HW4.out]; exact Blk.new _ _ _
 obtain ⟨g2, hg2⟩ : ∃ g, Hid (g = w3.heap.size) := ⟨_, rfl⟩; rw [← hg2.out] at B2 ⊢; have B1 := (B1.below hb3 B1.lt).below hb4 (Nat.lt_of_lt_of_le B1.lt hb3.size); have HG2 := Lib.hid (hR2.to (a := 1) (b := 4) (by decide) (by decide)).2; have hR2 := (hR2.to (a := 1) (b := 4) (by decide) (by decide)).1.below hb4; have hR1 := (hR1.below hb3).below hb4; have hbw := Below.tr hbw (Below.tr hb3 hb4); have f1 := B1.cell 0; have f2 := B1.cell 1; have f3 := B2.cell 0; have f4 := B2.cell 1; simp only [List.getElem?_toArray, List.getElem?_cons_zero, List.getElem?_cons_succ] at f1 f2 f3 f4; clear hb3 hb4 HW4 B1 B2
 go_wp2_with (first | (refine wpList_sliceN rfl 23 33 2 [(0, .tmp 14), (1, .tmp 16)] rfl (cellsP (pcF 1 (.slice A1 k1 c1) (.slice A1' k1' c1') 10 90) ++ cellsP (pcF 2 (.slice A2 k2 c2) (.slice A2' k2' c2') 50 60)).toArray i0 zeroPV 24 [(0, .agg (cellsP (pcF 1 (.slice A1 k1 c1) (.slice A1' k1' c1') 10 90)).toArray), (1, .agg (cellsP (pcF 2 (.slice A2 k2 c2) (.slice A2' k2' c2') 50 60)).toArray)] Tryz.underlying23 hi0 hz0 hz1 (by omega) (by omega) rfl (fill_prom2 _ _) ?_; simp only [Act.put, sA, sB, sC]))
 go_ret; have hbA := bA w4 (.cells (cellsP (pcF 1 (.slice A1 k1 c1) (.slice A1' k1' c1') 10 90) ++ cellsP (pcF 2 (.slice A2 k2 c2) (.slice A2' k2' c2') 50 60)).toArray 33); exact ⟨w4.heap.size, .slice A1 k1 c1, .slice A1' k1' c1', .slice A2 k2 c2, .slice A2' k2' c2', rfl, ⟨Rd.fresh w4 33 ((exF (.slice A1 k1 c1) (.slice A1' k1' c1') (.slice A2 k2 c2) (.slice A2' k2' c2')).flatMap cellsP), rfl, by omega⟩, hR1.below hbA, hR2.below hbA, ⟨HG1.out, HG2.out⟩, Below.tr hbw hbA⟩
def z16 : List Int := List.replicate 16 0
def LfE (i : Nat) : List Nat × List Nat := if i = 0 then ([1], [8]) else ([1], [4])
theorem lb_d (n : Nat) (h0 : n ≠ 0) (h : n < 4294967296) : Nm.lb n = [n] := Nm.lb_small h0 h
theorem dn_d (n : Nat) (h0 : 1 < n) (h : n < 4294967296) : Nm.lb (Nm.dn n) = [n] := by rw [Nm.dn_ne (by omega)]; exact lb_d n (by omega) h
theorem exF_esc {w : World} {a a' b b' : Value} (h1 : Rat w (.agg #[a, a']) 1 8) (h2 : Rat w (.agg #[b, b']) 1 4) : EscOk w (exF a a' b b') LfE := by
 have e1 := rtl_rat h1; have e2 := rtl_rat h2; rw [lb_d 1 (by omega) (by omega), dn_d 8 (by omega) (by omega)] at e1; rw [lb_d 1 (by omega) (by omega), dn_d 4 (by omega) (by omega)] at e2; intro n p hp
 rcases n with _ | _ | n
 ·injection hp with hp; subst hp; exact ⟨e1, by show (2 : Nat) ≤ _; omega, by show (2 : Nat) ≤ _; omega⟩
 ·injection hp with hp; subst hp; exact ⟨e2, by show (2 : Nat) ≤ _; omega, by show (2 : Nat) ≤ _; omega⟩
 ·cases hp
theorem exF_nb (team : Int) (b1 b2 : Value) (fr un : Int) (x y : Nat) (h : x ≤ y) (h1 : 0 ≤ team ∧ team < 4) (h2 : 0 ≤ fr ∧ fr < un ∧ un ≤ 1048576) : ¬ pBad x y (pcF team b1 b2 fr un) := by
 have w1 : wordB ⟨#[116, 48]⟩ = true := by decide
 have w2 : wordB ⟨#[112, 48]⟩ = true := by decide
 have w3 : (⟨#[112, 48]⟩ : ByteArray).toList.isEmpty = false := by rw [ByteArray.toList_eq]; rfl
 unfold pBad; simp only [pcF]; rintro (e | e | e | e | ⟨_, e⟩ | e | e | ⟨e, _⟩ | e | e | e)
 ·omega
 ·omega
 ·omega
 ·rw [w1] at e; cases e
 ·rw [w2] at e; cases e
 ·omega
 ·omega
 ·rw [w3] at e; cases e
 ·omega
 ·omega
 ·omega
theorem exF_pv {a a' b b' : Value} (h : Nm.Good 1 8 ∧ Nm.Good 1 4) : ∀ (n : Nat) p, (exF a a' b b')[n]? = some p → PVal p (LfE n).1 (LfE n).2 0 := by
 intro n p hp
 rcases n with _ | _ | n
 ·injection hp with hp; subst hp; exact .inr ⟨1, 8, (lb_d 1 (by omega) (by omega)).symm, (dn_d 8 (by omega) (by omega)).symm, h.1, pE_ok (exF_nb _ _ _ _ _ _ _ (by omega) (by omega) (by omega))⟩
 ·injection hp with hp; subst hp; exact .inr ⟨1, 4, (lb_d 1 (by omega) (by omega)).symm, (dn_d 4 (by omega) (by omega)).symm, h.2, pE_ok (exF_nb _ _ _ _ _ _ _ (by omega) (by omega) (by omega))⟩
 ·cases hp
theorem exF_dg {a a' b b' : Value} : ∀ (n : Nat) p, (exF a a' b b')[n]? = some p → DgOk (pdg p) z16 := by
 intro n p hp
 rcases n with _ | _ | n
 ·injection hp with hp; subst hp; exact ⟨rfl, rfl⟩
 ·injection hp with hp; subst hp; exact ⟨rfl, rfl⟩
 ·cases hp
/-- what holds of the examples' list -/
structure ExOk (w : World) (g : Nat) (a a' b b' : Value) : Prop where
 row : RowS cellsP w (some ⟨g, 0, none⟩) 2 (exF a a' b b')
 r1 : Rat w (.agg #[a, a']) 1 8
 r2 : Rat w (.agg #[b, b']) 1 4
 gd : Nm.Good 1 8 ∧ Nm.Good 1 4
theorem ExOk.below {w w' : World} {g : Nat} {a a' b b' : Value} (h : ExOk w g a a' b b') (hb : Below w.heap.size w w') : ExOk w' g a a' b b' := ⟨h.row.below hb, h.r1.below hb, h.r2.below hb, h.gd⟩
theorem ExOk.pls {w : World} {g : Nat} {a a' b b' : Value} (h : ExOk w g a a' b b') : PLs w (some ⟨g, 0, none⟩) 2 (exF a a' b b') LfE (fun _ => 0) (fun _ => z16) :=
 ⟨h.row, exF_esc h.r1 h.r2, exF_pv h.gd, exF_dg⟩
theorem lst_n (g : Nat) (a a' b b' : Value) (t : Int) (d : DG) (dm br : List Int) (A : Option Addr) (k c : Nat) (s : Int) (w : World) (h : ExOk w g a a' b b') (hd : DgOk (cellsDG d) dm) (hbr : RowS intC w A k br) (hs : Hid (stF t dm br (fun _ => 0) LfE (fun _ => z16) (exF a a' b b') 0 = s)) :
  Calls Tryz.prog 14 #[.slice (some ⟨g, 0, none⟩) 2 2, .int .i64 0, .int .i64 t, .agg (cellsDG d).toArray, .slice A k c] w fun e w' => e = .returned (.tuple #[.int .i64 s, .int .i64 0]) ∧ Below w.heap.size w w' := by
 have hp := h.pls; refine (state_n (some ⟨g, 0, none⟩) 2 2 0 (mmOf t d A k c) (exF a a' b b') LfE (fun _ => 0) (fun _ => z16) dm br w hp.row hp.esc hp.pv hp.dk hd hbr).mono ?_; rintro e w' ⟨s', er, rfl, HS, hb⟩
 rcases HS.out with ⟨h1, _⟩ | ⟨n, h1, h2, h3⟩
 ·omega
 ·have hn : n = 0 := by omega
  subst hn
  rcases h3 with ⟨h4, _⟩ | ⟨_, h4, h5⟩
  ·exact absurd rfl h4
  ·rw [h4, h5]; have := hs.out; exact ⟨by rw [← this]; rfl, hb⟩
theorem st_9 (a a' b b' : Value) : stF 9 z16 [] (fun _ => 0) LfE (fun _ => z16) (exF a a' b b') 0 = 1 := by kernel_rfl
theorem st_10 (a a' b b' : Value) : stF 10 z16 [] (fun _ => 0) LfE (fun _ => z16) (exF a a' b b') 0 = 0 := by kernel_rfl
theorem st_50 (a a' b b' : Value) : stF 50 z16 [] (fun _ => 0) LfE (fun _ => z16) (exF a a' b b') 0 = 5 := by kernel_rfl
theorem st_60 (a a' b b' : Value) : stF 60 z16 [] (fun _ => 0) LfE (fun _ => z16) (exF a a' b b') 0 = 0 := by kernel_rfl
theorem st_90 (a a' b b' : Value) : stF 90 z16 [] (fun _ => 0) LfE (fun _ => z16) (exF a a' b b') 0 = 2 := by kernel_rfl
theorem st_b (a a' b b' : Value) : stF 50 z16 [1] (fun _ => 0) LfE (fun _ => z16) (exF a a' b b') 0 = 0 := by kernel_rfl
theorem st_c (a a' b b' : Value) : stF 50 (1 :: List.replicate 15 0) [] (fun _ => 0) LfE (fun _ => z16) (exF a a' b b') 0 = 3 := by kernel_rfl
theorem cl_1 (a a' b b' : Value) : clList (clA (fun _ => 0) LfE (fun _ => z16) (exF a a' b b')) 2 2 = [(0, 1)] := by kernel_rfl
end Go.Proofs.YtijkfagkbfbpmaaGreatDoor
namespace Go.Proofs.YtijkfagkbfbpmaaGreatDoor
open Go Go.RowKit
theorem itoa_sm (w : World) (n : Nat) (hn : n < 100) (s : ByteArray) (hs : (⟨(Lib.decDigits n).toArray⟩ : ByteArray) = s) (h1 : s.size ≤ 100) : ItoaS w (n : Int) s := by
 refine ⟨h1, fun W _ => ?_⟩; refine (Tryz.strconv_Itoa_small n hn W).mono ?_; rintro e w' ⟨rfl, rfl⟩; exact ⟨by rw [hs], Below.refl _ _⟩
theorem dd_1 (n : Nat) (h : n < 10) : Lib.decDigits n = [UInt8.ofNat (48 + n)] := by rw [Lib.decDigits, dif_pos h]
theorem dd_2 (n : Nat) (h : 10 ≤ n) (h2 : n < 100) : Lib.decDigits n = [UInt8.ofNat (48 + n / 10), UInt8.ofNat (48 + n % 10)] := by
 rw [Lib.decDigits, dif_neg (by omega), dd_1 _ (by omega)]; rfl
theorem rat18 : ratS 1 8 = ⟨#[49, 47, 56]⟩ := by
 have e1 : Nm.decS 1 = { data := #[49] } := by unfold Nm.decS; rw [Nm.decD_small (by omega)]; rfl
 have e2 : Nm.decS 8 = { data := #[56] } := by unfold Nm.decS; rw [Nm.decD_small (by omega)]; rfl
 unfold ratS; rw [if_neg (by omega), e1, e2]; rfl
def exTx : ByteArray := { data := ([116, 101, 97, 109, 32, 49, 32, 112, 114, 111, 109, 105, 115, 101, 115, 32, 116, 104, 97, 116, 32, 116, 48, 32, 102, 97, 105, 108, 115, 32, 97, 116, 32, 112, 48, 47, 50, 32, 119, 105, 116, 104, 32, 97, 116, 32, 109, 111, 115, 116, 32, 49, 47, 56, 32].append [102, 114, 111, 109, 32, 49, 48, 32, 117, 110, 116, 105, 108, 32, 57, 48, 32, 119, 104, 105, 108, 101, 32, 48, 48, 48, 48, 48, 48, 48, 48, 48, 48, 48, 48, 48, 48, 48, 48, 48, 48, 48, 48, 48, 48, 48, 48, 48, 48, 48, 48, 48, 48, 48, 48]).toArray }
theorem ex_text (a a' : Value) : joinP (wordsP (pcF 1 a a' 10 90) ⟨#[49, 47, 56]⟩ ⟨#[49]⟩ ⟨#[50]⟩ ⟨#[49, 48]⟩ ⟨#[57, 48]⟩ z16) = exTx := by kernel_rfl
theorem lpr_n (g : Nat) (a a' b b' : Value) (w : World) (h : ExOk w g a a' b b') :
  Calls Tryz.prog 47 #[.agg (cellsP (pcF 1 a a' 10 90)).toArray] w fun e w' => e = .returned (.tuple #[.string exTx, .int .i64 0]) ∧ Below w.heap.size w w' := by
 refine (print_n (pcF 1 a a' 10 90) 1 8 z16 ⟨#[49]⟩ ⟨#[50]⟩ ⟨#[49, 48]⟩ ⟨#[57, 48]⟩ w h.r1 h.gd.1 (exF_nb _ _ _ _ _ _ _ (by omega) (by omega) (by omega)) (by show (2 : Nat) ≤ _; omega) (by show (2 : Nat) ≤ _; omega) ⟨rfl, rfl⟩ (fun x hx => by rw [List.eq_of_mem_replicate hx]; exact ⟨by omega, by omega⟩)
  (itoa_sm w 1 (by omega) _ (by rw [dd_1 1 (by omega)]; rfl) (by show (1 : Nat) ≤ _; omega)) (itoa_sm w 2 (by omega) _ (by rw [dd_1 2 (by omega)]; rfl) (by show (1 : Nat) ≤ _; omega))
  (itoa_sm w 10 (by omega) _ (by rw [dd_2 10 (by omega) (by omega)]; rfl) (by show (2 : Nat) ≤ _; omega)) (itoa_sm w 90 (by omega) _ (by rw [dd_2 90 (by omega) (by omega)]; rfl) (by show (2 : Nat) ≤ _; omega)) ⟨#[49, 47, 56]⟩ ⟨rat18, by show (3 : Nat) ≤ _; omega⟩).mono ?_
 rintro e w' ⟨rfl, hb⟩; exact ⟨by rw [ex_text], hb⟩
def ticksA : Array Value := #[.int .i64 9, .int .i64 10, .int .i64 50, .int .i64 60, .int .i64 90]
def wantA : Array Value := #[.int .i64 1, .int .i64 0, .int .i64 5, .int .i64 0, .int .i64 2]
theorem lv_at (a a' b b' : Value) {i : Nat} (h : i < 5) : ∃ t s : Int, ticksA[i]? = some (.int .i64 t) ∧ wantA[i]? = some (.int .i64 s) ∧ stF t z16 [] (fun _ => 0) LfE (fun _ => z16) (exF a a' b b') 0 = s := by
 have hc : i = 0 ∨ i = 1 ∨ i = 2 ∨ i = 3 ∨ i = 4 := by omega
 rcases hc with rfl | rfl | rfl | rfl | rfl
 ·exact ⟨9, 1, rfl, rfl, st_9 ..⟩
 ·exact ⟨10, 0, rfl, rfl, st_10 ..⟩
 ·exact ⟨50, 5, rfl, rfl, st_50 ..⟩
 ·exact ⟨60, 0, rfl, rfl, st_60 ..⟩
 ·exact ⟨90, 2, rfl, rfl, st_90 ..⟩
def oneDG : DG := ⟨.int .u8 1, .int .u8 0, .int .u8 0, .int .u8 0, .int .u8 0, .int .u8 0, .int .u8 0, .int .u8 0, .int .u8 0, .int .u8 0, .int .u8 0, .int .u8 0, .int .u8 0, .int .u8 0, .int .u8 0, .int .u8 0⟩
theorem row_none (w : World) (c : Nat) : RowS intC w none 0 [] := ⟨fun h => absurd rfl h, rfl, by omega⟩
set_option maxRecDepth 100000 in
set_option maxHeartbeats 8000000 in
theorem lives34_n (w : World) :
  Calls Tryz.prog 16 #[] w fun e w' => e = .returned (.bool true) ∧ Below w.heap.size w w' := by
 go_enter Tryz.func16, Tryz.ntmps16
 go_wp2_with fail; refine (example34_n _).mono ?_; rintro e w1 ⟨g, a, a', b, b', rfl, hrow, hr1, hr2, HGD, hb1⟩; have HEX : Hid (ExOk w1 g a a' b b') := ⟨hrow, hr1, hr2, HGD.out⟩; have hbw := hb1; obtain ⟨bg, og, hA, HC0⟩ := hrow.at_ cellsP_len (by omega) (by omega : 0 < 2) (by show 0 < 2; omega); injection hA with hA; injection hA with hA1 hA2; subst hA1 hA2; clear hrow hr1 hr2 hb1 HGD
 go_upto_region 3 with (first | (refine wpList_load_mid rfl 33 (.tmp 17) rfl g (0 + 0 * 24) rfl (cellsP (pcF 1 a a' 10 90)) _ (fun j v h => HC0.out j v h) Tryz.underlying33 rfl infoP ?_; simp only [Act.put, sA, sB, sC]))
 refine (lpr_n g a a' b b' _ HEX.out).mono ?_; rintro e w2 ⟨rfl, hb2⟩; have hbw := Below.tr hbw hb2; have HEX := Lib.hid (HEX.out.below hb2); obtain ⟨S, HS⟩ : ∃ S, Hid (S = exTx) := ⟨_, rfl⟩; rw [← HS.out]; clear hb2 HC0; go_upto_region 5 with fail; refine wp_name ?_; intro w5 HW5; have hb5 : Below w2.heap.size w2 w5 := by rw [HW5.out]; exact Below.tr (bA _ _) (bA _ _)
 have BT : Blk w5 w2.heap.size 3 ticksA := by rw [HW5.out]; exact (Blk.new _ _ _).alloc _
 have BW : Blk w5 (w2.heap.size + 1) 3 wantA := by
  rw [HW5.out]; have h := Blk.new (w2.alloc (.cells ticksA 3)) 3 wantA; rw [show (w2.alloc (.cells ticksA 3)).heap.size = w2.heap.size + 1 by simp] at h; exact h
 obtain ⟨gT, hgT⟩ : ∃ g, Hid (g = w2.heap.size) := ⟨_, rfl⟩; obtain ⟨gW, hgW⟩ : ∃ g, Hid (g = w2.heap.size + 1) := ⟨_, rfl⟩; rw [← hgW.out] at BW ⊢; rw [← hgT.out] at BT ⊢; have hbw := Below.tr hbw hb5; have HEX := Lib.hid (HEX.out.below hb5); clear HW5 hb5 hgT hgW; go_wp2_with fail
 go_loopg [6] 5 (fun mm x wr => ∃ i : Nat, x = .int .i64 i ∧ i + mm = 5 ∧ Below w5.heap.size w5 wr)
 case atStart => exact ⟨0, rfl, rfl, Below.refl _ _⟩
 case round =>
  obtain ⟨G, hG⟩ : ∃ G, G = gk := ⟨gk, rfl⟩; subst hG; obtain ⟨i, rfl, him, hbe⟩ := hrel; by_cases hi : i < 5
  ·have t1 : decide ((i : Int) < 5) = true := by simp; omega
   have li : (i : Int) < 5 := by omega
   obtain ⟨t, s, ht, hs, hst⟩ := lv_at a a' b b' hi; have HST := Lib.hid hst; have hct : wr.cell? ⟨gT, i, none⟩ = some (.int .i64 t) := cell_keep hbe (by rw [BT.cell]; exact ht); have hcw : wr.cell? ⟨gW, i, none⟩ = some (.int .i64 s) := cell_keep hbe (by rw [BW.cell]; exact hs); clear ht hs hst; go_wp2_with fail; refine (lst_n g a a' b b' t zeroDG z16 [] none 0 0 s _ (HEX.out.below hbe) ⟨rfl, rfl⟩ (row_none _ 0) HST).mono ?_; rintro e w6 ⟨rfl, hb6⟩; have hcw := cell_keep hb6 hcw; have hbe := Below.tr hbe hb6; have t2 : (s != s) = false := by simp
   clear hct HST hb6; go_wp2_with fail
   go_roundg (G - 1)
   case measure => omega
   case rel => exact ⟨i + 1, by go_num, by omega, hbe⟩
  ·have t1 : decide ((i : Int) < 5) = false := by simp; omega
   have hbw := Below.tr hbw hbe; have HEX := Lib.hid (HEX.out.below hbe); clear BT BW; go_wp2_with fail; refine calls_name ?_; intro w7 HW7; have hb7 : Below wr.heap.size wr w7 := by rw [HW7.out]; exact bA _ _
   have B1 : Blk w7 wr.heap.size 3 #[.int .i64 1] := by rw [HW7.out]; exact Blk.new _ _ _
   have hbr : RowS intC w7 (some ⟨wr.heap.size, 0, none⟩) 1 [1] := ⟨rd_blk B1, rfl, by omega⟩; have hbw := Below.tr hbw hb7; have HEX := Lib.hid (HEX.out.below hb7); refine (lst_n g a a' b b' 50 zeroDG z16 [1] _ 1 1 0 _ HEX.out ⟨rfl, rfl⟩ hbr (st_b ..)).mono ?_; rintro e w8 ⟨rfl, hb8⟩; have hbw := Below.tr hbw hb8; have HEX := Lib.hid (HEX.out.below hb8); clear HW7 hb7 B1 hbr hb8 hbe; go_wp2_with fail; refine (lst_n g a a' b b' 50 oneDG (1 :: List.replicate 15 0) [] none 0 0 3 _ HEX.out ⟨rfl, rfl⟩ (row_none _ 0) (st_c ..)).mono ?_; rintro e w9 ⟨rfl, hb9⟩; have hbw := Below.tr hbw hb9; have HEX := Lib.hid (HEX.out.below hb9); clear hb9; go_wp2_with fail; refine (clashes_n _ 2 2 _ _ _ _ _ HEX.out.pls (by omega)).mono ?_; rintro e w10 ⟨Ac, kc, cc, rfl, hrc, hb10⟩; rw [cl_1] at hrc; obtain rfl : kc = 1 := hrc.2.1; have hbw := Below.tr hbw hb10; clear hrc hb10 HEX; rw [HS.out]; unfold exTx; go_wp2_with fail; go_ret; exact ⟨rfl, hbw⟩
end Go.Proofs.YtijkfagkbfbpmaaGreatDoor
namespace Go.Proofs.YtijkfagkbfbpmaaGreatDoor
open Go Go.RowKit
theorem list_ex {w : World} {ps : List PC} {bd : Nat → Nat × Nat} {b q : PC} (h1 : PsOk w ps bd) (h2 : PDN w b 69) (h3 : PDN w q 69) : ∃ Lf, LsW w (ps ++ [b, q]) Lf ∧ ∀ (n : Nat) p, (ps ++ [b, q])[n]? = some p → n + 2 < (ps ++ [b, q]).length → PVal p (Lf n).1 (Lf n).2 0 := by
 obtain ⟨Lf, hL⟩ := idx_choice (l := ps ++ [b, q]) (R := fun n p (L : List Nat × List Nat) => (PD w p L.1 L.2 ∧ L.1.length ≤ 69 ∧ L.2.length ≤ 69) ∧ (n + 2 < (ps ++ [b, q]).length → PVal p L.1 L.2 0)) (by
  intro n p hp; by_cases hn : n < ps.length
  ·rw [List.getElem?_append_left hn] at hp; have h4 := psok_ls h1 n p hp; exact ⟨LfM bd n, h4, fun _ => psok_pv h1 n p hp⟩
  ·have hlen : (ps ++ [b, q]).length = ps.length + 2 := by simp
   have hl := (List.getElem?_eq_some_iff.1 hp).1; rw [List.getElem?_append_right (by omega)] at hp; have hc : n - ps.length = 0 ∨ n - ps.length = 1 := by omega
   rcases hc with hc | hc
   ·rw [hc] at hp; injection hp with hp; subst hp; obtain ⟨L, hL⟩ := h2.esc; exact ⟨L, hL, fun h => (by omega)⟩
   ·rw [hc] at hp; injection hp with hp; subst hp; obtain ⟨L, hL⟩ := h3.esc
    exact ⟨L, hL, fun h => (by omega)⟩)
 exact ⟨Lf, fun n p hp => (hL n p hp).1, fun n p hp => (hL n p hp).2⟩
theorem list_pls {w : World} {A : Option Addr} {k : Nat} {ps : List PC} {bd : Nat → Nat × Nat} {b q : PC} (hr : RowS cellsP w A k (ps ++ [b, q])) (h1 : PsOk w ps bd) (h2 : PDN w b 69) (h3 : PDN w q 69) : ∃ Lf Ev dg, LsW w (ps ++ [b, q]) Lf ∧ PLs w A k (ps ++ [b, q]) Lf Ev dg ∧ ∀ n, n + 2 < k → Ev n = 0 := by
 obtain ⟨Lf, hL, hv⟩ := list_ex h1 h2 h3; obtain ⟨Ev, dg, hp⟩ := pls_ex hr hL; refine ⟨Lf, Ev, dg, hL, hp, fun n hn => ?_⟩; have hk : k = (ps ++ [b, q]).length := hr.2.1; have hnl : n < (ps ++ [b, q]).length := by omega
 exact (hp.pv n _ (List.getElem?_eq_getElem hnl)).uniq (hv n _ (List.getElem?_eq_getElem hnl) (by omega))
end Go.Proofs.YtijkfagkbfbpmaaGreatDoor
namespace Go.Proofs.YtijkfagkbfbpmaaGreatDoor
open Go
section
variable {P : Program} {Q : Exit → Act → World → Prop}
end
end Go.Proofs.YtijkfagkbfbpmaaGreatDoor
namespace Go.Proofs.YtijkfagkbfbpmaaGreatDoor
open Go Go.RowKit
theorem OwnB.kept {w w' : World} {base : Nat} {u v : Value} {l : List Nat} (h : OwnB w base u l) (k : w.grownBy w' v.ownBlock) (ha : Apt v u) : OwnB w' base u l := ⟨own_other h.1 k ha, h.2⟩
theorem Apt.nil {u : Value} {k c : Nat} : Apt (.slice none k c) u := fun g h => by cases h
end Go.Proofs.YtijkfagkbfbpmaaGreatDoor
namespace Go.Proofs.YtijkfagkbfbpmaaGreatDoor
open Go Go.RowKit
theorem flat_map8 (l : List Nat) : l.flatMap u8C = l.map fun n : Nat => (Value.int .u8 (n : Int)) := by
 induction l with
 | nil => rfl
 | cons x l ih => rw [List.flatMap_cons, ih]; rfl
theorem By.empty {w : World} {A : Option Addr} : By w A 0 0 [] := ⟨⟨fun h => absurd rfl h, rfl, by omega⟩, by omega, by omega, fun x hx => (by cases hx), fun h => by omega⟩
/-- a part of a slice of bytes -/
theorem By.sub {w : World} {b0 o0 k c : Nat} {l : List Nat} (h : By w (some ⟨b0, o0, none⟩) k c l) (a m : Nat) (hm : a + m ≤ k) : By w (some ⟨b0, o0 + a, none⟩) m (c - a) ((l.drop a).take m) := by
 have hl := h.len; have hk := h.1.2.2; have h2 := h.2.1; have h3 := h.2.2.1; refine ⟨⟨?_, by rw [List.length_take, List.length_drop]; omega, by omega⟩, by omega, by omega, fun x hx => h.2.2.2.1 x (List.mem_of_mem_drop (List.mem_of_mem_take hx)), fun _ => ⟨_, _, rfl⟩⟩; intro _; refine ⟨b0, o0 + a, rfl, fun i hi => ?_⟩; rw [flat_u8, List.length_take, List.length_drop] at hi; obtain ⟨b, off, n, e, hc, _, HL⟩ := h.get (i := a + i) (by omega); simp only [Option.some.injEq, Addr.mk.injEq, and_true] at e; obtain ⟨rfl, rfl⟩ := e; rw [Nat.add_assoc, hc]; simp only [flat_map8, List.getElem_map, List.getElem_take, List.getElem_drop]; have := (List.getElem?_eq_some_iff.1 HL.out).2; rw [this]
end Go.Proofs.YtijkfagkbfbpmaaGreatDoor
namespace Go.Proofs.YtijkfagkbfbpmaaGreatDoor
open Go Go.RowKit
end Go.Proofs.YtijkfagkbfbpmaaGreatDoor
namespace Go.Proofs.YtijkfagkbfbpmaaGreatDoor
open Go Go.RowKit
end Go.Proofs.YtijkfagkbfbpmaaGreatDoor
namespace Go.Proofs.YtijkfagkbfbpmaaGreatDoor
open Go Go.RowKit
/-- a row of integers of the call's own -/
def OwnI (w : World) (base : Nat) (v : Value) (X : List Int) : Prop := w.ownsRow base 3 1 v X.length (X.flatMap intC)
theorem OwnI.shp {w : World} {base : Nat} {v : Value} {l : List Int} (h : OwnI w base v l) : ∃ A c, v = .slice A l.length c := own_shp h
theorem OwnI.below {w w' : World} {base : Nat} {v : Value} {l : List Int} (h : OwnI w base v l) (hb : Below w.heap.size w w') : OwnI w' base v l := own_below h hb
theorem OwnI.mono {w : World} {base base' : Nat} {v : Value} {l : List Int} (h : OwnI w base v l) (hb : base' ≤ base) : OwnI w base' v l := own_mono h hb
theorem OwnI.ge {w : World} {base : Nat} {v : Value} {l : List Int} (h : OwnI w base v l) : ∀ k, v.ownBlock = some k → base ≤ k := own_block_ge h
theorem OwnI.nil (w : World) (base : Nat) : OwnI w base (.slice none 0 0) [] := World.ownsRow_nil _ _ _ _
theorem OwnI.row {w : World} {base : Nat} {A : Option Addr} {k c : Nat} {l : List Int} (h : OwnI w base (.slice A k c) l) (hl : l.length ≤ 281474976710656) : RowL intC w A k l := by
 obtain ⟨A', c', e⟩ := h.shp; injection e with e1 e2 e3; subst e1 e2 e3; obtain ⟨r1, r2, r3⟩ := own_any intC_len (by omega) hl h; exact ⟨r1, r2, by omega⟩
theorem flat_int (l : List Int) : (l.flatMap intC).length = l.length := by rw [flat_len intC_len, Nat.mul_one]
theorem wpList_appI {ops : Array Oper} {rest : List Oper} {o : Oper} {a : Act} {w : World} {Q : Exit → Act → World → Prop} (hgd : o.guard = none) (s x : Operand) (ho : o.op = .call { callee := .builtin .append, args := #[s, x], argTypes := #[22, 22] })
  (base : Nat) (v : Value) (l : List Int) (hs : a.eval s = v) (h : OwnI w base v l) (A : Option Addr) (m c : Nat) (news : List Int) (hx : a.eval x = .slice A m c) (hn : RowL intC w A m news) (hl : l.length + news.length ≤ 1073741824) (hb : base ≤ w.heap.size)
  (hK : ∀ v' w', OwnI w' base v' (l ++ news) → w.grownBy w' v.ownBlock → (v'.ownBlock = v.ownBlock ∨ v'.ownBlock = some w.heap.size) → wpList Tryz.prog ops Q rest (a.put o.dst v') w') : wpList Tryz.prog ops Q (o :: rest) a w := by
 obtain ⟨iR, hi, hz, hsz, hby⟩ := info_parts info_int; have hm := hn.2.1; refine wpList_append_all hgd (fun _ => True) s x 22 ho base 3 iR (.int .i64 0) 1 8 Tryz.underlying22 hi hz hsz hby rfl (by omega) v l.length _ hs h A m c (news.flatMap intC) hx (by rw [flat_int]; omega) hn.1 ?_ (by simp only [maxLen]; omega) (by omega) hb (fun _ _ => trivial) (fun _ _ => trivial) (fun _ _ _ _ _ => trivial) ?_
 ·intro u hu; obtain ⟨d, _, hd⟩ := List.mem_flatMap.1 hu; simp only [intC, List.mem_singleton] at hd; subst hd; rfl
 ·intro v' w' k1 k2 k3 _; refine hK v' w' ?_ k2 k3; unfold OwnI; rw [List.length_append, List.flatMap_append, ← hm]; exact k1
/-- the slice from a position on -/
theorem By.from {w : World} {b0 o0 k c : Nat} {l : List Nat} (h : By w (some ⟨b0, o0, none⟩) k c l) (a : Nat) (hm : a ≤ k) : By w (some ⟨b0, o0 + a, none⟩) (k - a) (c - a) (l.drop a) := by
 have hs := h.sub a (k - a) (by omega); rw [List.take_of_length_le (by rw [List.length_drop]; have := h.len; omega)] at hs; exact hs
/- getN: the rounds -/
end Go.Proofs.YtijkfagkbfbpmaaGreatDoor
namespace Go.Proofs.YtijkfagkbfbpmaaGreatDoor
open Go Go.RowKit
end Go.Proofs.YtijkfagkbfbpmaaGreatDoor
namespace Go.Proofs.YtijkfagkbfbpmaaGreatDoor
open Go Go.RowKit
end Go.Proofs.YtijkfagkbfbpmaaGreatDoor
namespace Go.Proofs.YtijkfagkbfbpmaaGreatDoor
open Go Go.RowKit
theorem lb_pos {x : Nat} (h : (Nm.lb x).length ≠ 0) : 0 < x := by
 rcases Nat.eq_zero_or_pos x with rfl | h0
 ·exact absurd (by rw [Nm.lb_zero]; rfl) h
 ·exact h0
end Go.Proofs.YtijkfagkbfbpmaaGreatDoor
namespace Go.Proofs.YtijkfagkbfbpmaaGreatDoor
open Go Go.RowKit
end Go.Proofs.YtijkfagkbfbpmaaGreatDoor
namespace Go.Proofs.YtijkfagkbfbpmaaGreatDoor
open Go Go.RowKit
end Go.Proofs.YtijkfagkbfbpmaaGreatDoor
namespace Go.Proofs.YtijkfagkbfbpmaaGreatDoor
open Go Go.RowKit
end Go.Proofs.YtijkfagkbfbpmaaGreatDoor
namespace Go.Proofs.YtijkfagkbfbpmaaGreatDoor
open Go Go.RowKit
theorem Nb.dig (w : World) (d : Nat) (h0 : 0 < d) (h : d < 4294967296) : Nb (w.alloc (.cells #[.int .u32 (d : Int)] 104)) (some ⟨w.heap.size, 0, none⟩) 1 1 d := by
 have hd : d < Nm.B := by unfold Nm.B; omega
 have e : Nm.lb d = [d] := by
  exact Nm.lb_small (by omega) hd
 have h : Row (w.alloc (.cells #[.int .u32 (d : Int)] 104)) w.heap.size [d] := ⟨Blk.new w _ _, fun x hx => by rw [List.mem_singleton.1 hx]; exact hd⟩; have := h.lim (c := 1) (by simp) (by omega); rw [← e] at this; exact ⟨by rw [e]; rfl, this⟩
end Go.Proofs.YtijkfagkbfbpmaaGreatDoor
namespace Go.Proofs.YtijkfagkbfbpmaaGreatDoor
open Go Go.RowKit
end Go.Proofs.YtijkfagkbfbpmaaGreatDoor
namespace Go.Proofs.YtijkfagkbfbpmaaGreatDoor.Nm
end Go.Proofs.YtijkfagkbfbpmaaGreatDoor.Nm
namespace Go.Proofs.YtijkfagkbfbpmaaGreatDoor
open Go Go.RowKit
end Go.Proofs.YtijkfagkbfbpmaaGreatDoor
namespace Go.Proofs.YtijkfagkbfbpmaaGreatDoor
open Go Go.RowKit
section
variable {w0 W : World} {g gO gB g1 : Nat} {Cs : List (Nat × Nat × Value)}
end
end Go.Proofs.YtijkfagkbfbpmaaGreatDoor
namespace Go.Proofs.YtijkfagkbfbpmaaGreatDoor
open Go.RowKit
end Go.Proofs.YtijkfagkbfbpmaaGreatDoor
namespace Go.Proofs.YtijkfagkbfbpmaaGreatDoor
open Go.RowKit
/- ratio.Power, where the power fits -/
end Go.Proofs.YtijkfagkbfbpmaaGreatDoor
namespace Go.Proofs.YtijkfagkbfbpmaaGreatDoor
open Go.RowKit
end Go.Proofs.YtijkfagkbfbpmaaGreatDoor
namespace Go.Proofs.YtijkfagkbfbpmaaGreatDoor
open Go Go.RowKit
end Go.Proofs.YtijkfagkbfbpmaaGreatDoor
namespace Go.Proofs.YtijkfagkbfbpmaaGreatDoor
open Go Go.RowKit
end Go.Proofs.YtijkfagkbfbpmaaGreatDoor
namespace Go.Proofs.YtijkfagkbfbpmaaGreatDoor
open Go Go.RowKit
/-- the old blocks but one are as they were -/
structure KG (B g : Nat) (w w' : World) : Prop where
 blk : ∀ b, b < B → b ≠ g → w'.heap[b]? = w.heap[b]?
 size : w.heap.size ≤ w'.heap.size
theorem KG.refl (B g : Nat) (w : World) : KG B g w w := ⟨fun _ _ _ => rfl, Nat.le_refl _⟩
theorem KG.trans {B g : Nat} {w w' w'' : World} (h : KG B g w w') (k : KG B g w' w'') : KG B g w w'' := ⟨fun b h1 h2 => (k.blk b h1 h2).trans (h.blk b h1 h2), Nat.le_trans h.size k.size⟩
theorem KG.below {B g : Nat} {w w' : World} (hb : Below w.heap.size w w') (hB : B ≤ w.heap.size) : KG B g w w' := ⟨fun b h1 _ => hb.block b (by omega), hb.size⟩
theorem KG.grown {B g : Nat} {w w' : World} {row : Option Nat} (k : w.grownBy w' row) (hB : B ≤ w.heap.size) (hr : ∀ q, row = some q → B ≤ q) : KG B g w w' := ⟨fun b h1 _ => k.block b (by omega) (fun e => by have := hr b e.symm; omega), k.size⟩
theorem KG.store {B g : Nat} {w : World} (i : Nat) (v : Value) : KG B g w (w.setCell ⟨g, i, none⟩ v) := ⟨fun b _ h2 => Below.heap_setCell w ⟨g, i, none⟩ v b h2, by simp⟩
theorem OwnI.keep {B g base : Nat} {w w' : World} {v : Value} {l : List Int} (h : OwnI w base v l) (k : KG B g w w') (hB : w.heap.size ≤ B) (hg : g < base) : OwnI w' base v l := ownsRow_keep h fun b hb => k.blk b (by have := ownsRow_lt h b hb; omega) (fun e => by have := h.ge b hb; omega)
/- limbs out of integers -/
def inR (x : Int) : Bool := decide (0 ≤ x) && decide (x ≤ 4294967295)
def u32N (x : Int) : Nat := (x % 4294967296).toNat
def limE (X : List Int) : Bool := X.all inR
def limX (X : List Int) : List Nat := X.map u32N
/-- what Decode says: the ratio, the length, the error -/
noncomputable def decF (l : List Nat) : LP × Nat × Int :=
 if (Wi.getIs l).2.2 ≠ 0 then (nilP, 0, (Wi.getIs l).2.2)
 else if (Wi.getIs (l.drop (Wi.getIs l).2.1)).2.2 ≠ 0 then (nilP, 0, (Wi.getIs (l.drop (Wi.getIs l).2.1)).2.2)
 else if (limE (Wi.getIs l).1 && limE (Wi.getIs (l.drop (Wi.getIs l).2.1)).1) = false ∨ validP (limX (Wi.getIs l).1, limX (Wi.getIs (l.drop (Wi.getIs l).2.1)).1) ≠ 0 then (nilP, 0, 2)
 else ((limX (Wi.getIs l).1, limX (Wi.getIs (l.drop (Wi.getIs l).2.1)).1), (Wi.getIs l).2.1 + (Wi.getIs (l.drop (Wi.getIs l).2.1)).2.1, 0)
end Go.Proofs.YtijkfagkbfbpmaaGreatDoor
namespace Go.Proofs.YtijkfagkbfbpmaaGreatDoor
open Go Go.RowKit
end Go.Proofs.YtijkfagkbfbpmaaGreatDoor
namespace Go.Proofs.YtijkfagkbfbpmaaGreatDoor
open Go Go.RowKit
end Go.Proofs.YtijkfagkbfbpmaaGreatDoor
namespace Go.Proofs.YtijkfagkbfbpmaaGreatDoor
open Go Go.RowKit
theorem RowL.take_int {w : World} {A : Option Addr} {k : Nat} {X : List Int} (h : RowL intC w A k X) (m : Nat) (hm : m ≤ k) : RowL intC w A m (X.take m) := by
 obtain ⟨h1, h2, h3⟩ := h; refine ⟨?_, by rw [List.length_take]; omega, by omega⟩; have e : X.flatMap intC = (X.take m).flatMap intC ++ (X.drop m).flatMap intC := by rw [← List.flatMap_append, List.take_append_drop]
 intro hne; obtain ⟨b, off, rfl, hc⟩ := h1 (by rw [e]; simp [hne]); refine ⟨b, off, rfl, fun i hi => ?_⟩; rw [hc i (by rw [e, List.length_append]; omega)]
 congr 1
 simp only [e]; exact List.getElem_append_left hi
set_option maxRecDepth 100000 in
set_option maxHeartbeats 4000000 in
theorem takeI_n (A : Option Addr) (k c : Nat) (X : List Int) (m : Nat) (w : World) (h : RowL intC w A k X) (hkc : k ≤ c) (hc : c ≤ 9223372036854775807) (hm : m ≤ 1048576) :
  Calls Tryz.prog 11 #[.slice A k c, .int .i64 (m : Nat)] w fun e w' => ∃ v, e = .returned v ∧ OwnI w' w.heap.size v (X.take m) ∧ Below w.heap.size w w' := by
 have HLEN := Lib.hid h.2.1; obtain ⟨q, Hq⟩ : ∃ q, Hid (q = min k m) := ⟨_, rfl⟩; have hqk : q ≤ k := by rw [Hq.out]; omega
 have hqc : q ≤ c := by omega
 have hqm : q ≤ 1048576 := by rw [Hq.out]; omega
 have hmin : min (k : Int) (m : Int) = (q : Int) := by rw [Hq.out]; omega
 have hrow := h.take_int q hqk
 have HE : Hid (X.take q = X.take m) := by
  show _ = _
  rcases Nat.le_total k m with hl | hl
  ·rw [Hq.out, Nat.min_eq_left hl, List.take_of_length_le (by rw [← HLEN.out]; exact Nat.le_refl _), List.take_of_length_le (by rw [← HLEN.out]; exact hl)]
  ·rw [Hq.out, Nat.min_eq_right hl]
 have hl : ([] : List Int).length + (X.take q).length ≤ 1073741824 := by rw [List.length_take]; simp; omega
 have hsz : w.heap.size ≤ w.heap.size := Nat.le_refl _; have hown2 := OwnI.nil w w.heap.size
 go_enter Tryz.func11, Tryz.ntmps11
 go_wp2_with (at_builtin; go_loud (refine wpList_appI rfl (.tmp 6) (.tmp 12) rfl w.heap.size (.slice none 0 0) _ rfl hown2 A q c _ rfl hrow hl hsz ?_); intro v7 w7 hown7 hg7 _)
 have hbz := (Below.refl w.heap.size w).grown hg7 hsz (fun q hq => hown2.ge q hq); obtain ⟨Y, HY⟩ : ∃ Y, Hid (Y = X.take m) := ⟨_, rfl⟩; rw [List.nil_append, HE.out, ← HY.out] at hown7; rw [← HY.out]; obtain ⟨A7, c7, rfl⟩ := hown7.shp; have HO := Lib.hid hown7; clear hown7 hown2 hg7 hrow; go_wp2_with fail; go_ret; exact ⟨_, rfl, HO.out, hbz⟩
end Go.Proofs.YtijkfagkbfbpmaaGreatDoor
namespace Go.Proofs.YtijkfagkbfbpmaaGreatDoor
open Go Go.RowKit
def byDG (n : Nat) : DG := ⟨.int .u8 (n : Nat), .int .u8 0, .int .u8 0, .int .u8 0, .int .u8 0, .int .u8 0, .int .u8 0, .int .u8 0, .int .u8 0, .int .u8 0, .int .u8 0, .int .u8 0, .int .u8 0, .int .u8 0, .int .u8 0, .int .u8 0⟩
def byL (n : Nat) : List Int := [(n : Int), 0, 0, 0, 0, 0, 0, 0, 0, 0, 0, 0, 0, 0, 0, 0]
theorem byDG_ok (n : Nat) : DgOk (cellsDG (byDG n)) (byL n) := ⟨rfl, rfl⟩
end Go.Proofs.YtijkfagkbfbpmaaGreatDoor
namespace Go.Proofs.YtijkfagkbfbpmaaGreatDoor
open Go Go.RowKit
theorem fill_st3 (s0 s1 s2 : ByteArray) : Instr.fill (fun i => some (i * 1, 1)) ((Array.range (3 * 1)).map ((Value.string { data := #[] }).cells[· % (Value.string { data := #[] }).cells.size]!)) [(0, .string s0), (1, .string s1), (2, .string s2)] = some #[.string s0, .string s1, .string s2] := by kernel_rfl
end Go.Proofs.YtijkfagkbfbpmaaGreatDoor
namespace Go.Proofs.YtijkfagkbfbpmaaGreatDoor
open Go Go.RowKit
def nmA : List ByteArray := [⟨#[116, 48]⟩, ⟨#[116, 49]⟩, ⟨#[117]⟩]
theorem nm_size {s : ByteArray} (h : s ∈ nmA) : s.size ≤ 9223372036854775807 := by
 simp only [nmA, List.mem_cons, List.not_mem_nil, or_false] at h
 rcases h with rfl | rfl | rfl
 ·show (2 : Nat) ≤ _; omega
 ·show (2 : Nat) ≤ _; omega
 ·show (1 : Nat) ≤ _; omega
theorem info_dg3 : (Tryz.prog.info? 31).map (fun i => (i.zero, i.size, i.bytes)) = some (some (.agg (cellsDG zeroDG).toArray), 16, 16) := by kernel_rfl
theorem fill_dg3 (a b c : DG) : Instr.fill (fun i => some (i * 16, 16)) ((Array.range (3 * 16)).map ((Value.agg (cellsDG zeroDG).toArray).cells[· % (Value.agg (cellsDG zeroDG).toArray).cells.size]!)) [(0, .agg (cellsDG a).toArray), (1, .agg (cellsDG b).toArray), (2, .agg (cellsDG c).toArray)] = some (cellsDG a ++ cellsDG b ++ cellsDG c).toArray := by kernel_rfl
end Go.Proofs.YtijkfagkbfbpmaaGreatDoor
