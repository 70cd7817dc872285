import Derived.Test.YtijkfagkbfbpmaaGreatDoorKTmProof27
import Derived.Test.YtijkfagkbfbpmaaGreatDoorKTmProof21
import Derived.Test.YtijkfagkbfbpmaaGreatDoorKTmProof22
import Derived.Test.YtijkfagkbfbpmaaGreatDoorKTmProof23
import Derived.Test.YtijkfagkbfbpmaaGreatDoorKTmProof13
import Derived.Test.YtijkfagkbfbpmaaGreatDoorKTmProof17
import Derived.Test.YtijkfagkbfbpmaaGreatDoorKTmProof14
import Derived.Test.YtijkfagkbfbpmaaGreatDoorKTmProof15
import Derived.Test.YtijkfagkbfbpmaaGreatDoorKTmProof24
import Derived.Test.YtijkfagkbfbpmaaGreatDoorKTmProof20
import Derived.Test.YtijkfagkbfbpmaaGreatDoorKTmProof12
import Derived.Test.YtijkfagkbfbpmaaGreatDoorKTmProof25
import Derived.Test.YtijkfagkbfbpmaaGreatDoorKTmProof01
import Derived.Test.YtijkfagkbfbpmaaGreatDoorKTmProof08
import Derived.Test.YtijkfagkbfbpmaaGreatDoorS0
set_option linter.unusedVariables false
set_option linter.unusedSimpArgs false
namespace Go.Proofs.YtijkfagkbfbpmaaGreatDoor
open Go Go.RowKit
def pcF (team : Int) (b1 b2 : Value) (fr un : Int) : PC := ⟨team, ⟨#[116, 48]⟩, ⟨#[112, 48]⟩, 2, b1, b2, fr, un, .int .u8 0, .int .u8 0, .int .u8 0, .int .u8 0, .int .u8 0, .int .u8 0, .int .u8 0, .int .u8 0, .int .u8 0, .int .u8 0, .int .u8 0, .int .u8 0, .int .u8 0, .int .u8 0, .int .u8 0, .int .u8 0⟩
/-- the promises of the examples -/
def exF (a a' b b' : Value) : List PC := [pcF 1 a a' 10 90, pcF 2 b b' 50 60]
set_option maxRecDepth 100000 in
set_option maxHeartbeats 2000000 in
theorem example34_n (w : World) :
  Calls Tryz.prog 54 #[] w fun e w' => ∃ g a a' b b', e = .returned (.slice (some ⟨g, 0, none⟩) 2 2) ∧ RowS cellsP w' (some ⟨g, 0, none⟩) 2 (exF a a' b b') ∧ Rat w' (.agg #[a, a']) 1 8 ∧ Rat w' (.agg #[b, b']) 1 4 ∧ Hid (Nm.Good 1 8 ∧ Nm.Good 1 4) ∧ Below w.heap.size w w' := by
 obtain ⟨i0, hi0, hz0, hz1, hz2⟩ := info_parts info_promV
 go_enter Tryz.func54, Tryz.ntmps54
 go_wp2_with fail; refine (rof_s 1 8 _ (by omega) (by omega) (by omega)).mono ?_; rintro e w1 ⟨A1, k1, c1, A1', k1', c1', rfl, hR1, hb1⟩; go_upto_region 2 with fail; refine wp_name ?_; intro w2 HW2; have hb2 : Below w1.heap.size w1 w2 := by rw [HW2.out]; exact bA _ _
 have B1 : Blk w2 w1.heap.size 29 #[.slice A1 k1 c1, .slice A1' k1' c1'] := by rw [HW2.out]; exact Blk.new _ _ _
 obtain ⟨g1, hg1⟩ : ∃ g, Hid (g = w1.heap.size) := ⟨_, rfl⟩; rw [← hg1.out] at B1 ⊢; have HG1 := Lib.hid (hR1.to (a := 1) (b := 8) (by decide) (by decide)).2; have hR1 := (hR1.to (a := 1) (b := 8) (by decide) (by decide)).1.below hb2; have hbw := Below.tr hb1 hb2; clear hb1 hb2 HW2; go_wp2_with fail; refine (rof_s 1 4 _ (by omega) (by omega) (by omega)).mono ?_; rintro e w3 ⟨A2, k2, c2, A2', k2', c2', rfl, hR2, hb3⟩; go_upto_region 3 with fail; refine wp_name ?_; intro w4 HW4; have hb4 : Below w3.heap.size w3 w4 := by rw [HW4.out]; exact bA _ _
 have B2 : Blk w4 w3.heap.size 29 #[.slice A2 k2 c2, .slice A2' k2' c2'] := by rw [HW4.out]; exact Blk.new _ _ _
 obtain ⟨g2, hg2⟩ : ∃ g, Hid (g = w3.heap.size) := ⟨_, rfl⟩; rw [← hg2.out] at B2 ⊢; have B1 := (B1.below hb3 B1.lt).below hb4 (Nat.lt_of_lt_of_le B1.lt hb3.size); have HG2 := Lib.hid (hR2.to (a := 1) (b := 4) (by decide) (by decide)).2; have hR2 := (hR2.to (a := 1) (b := 4) (by decide) (by decide)).1.below hb4; have hR1 := (hR1.below hb3).below hb4; have hbw := Below.tr hbw (Below.tr hb3 hb4); have f1 := B1.cell 0; have f2 := B1.cell 1; have f3 := B2.cell 0; have f4 := B2.cell 1; simp only [List.getElem?_toArray, List.getElem?_cons_zero, List.getElem?_cons_succ] at f1 f2 f3 f4; clear hb3 hb4 HW4 B1 B2
 go_wp2_with (first | (refine wpList_sliceN rfl 23 33 2 [(0, .tmp 14), (1, .tmp 16)] rfl (cellsP (pcF 1 (.slice A1 k1 c1) (.slice A1' k1' c1') 10 90) ++ cellsP (pcF 2 (.slice A2 k2 c2) (.slice A2' k2' c2') 50 60)).toArray i0 zeroPV 24 [(0, .agg (cellsP (pcF 1 (.slice A1 k1 c1) (.slice A1' k1' c1') 10 90)).toArray), (1, .agg (cellsP (pcF 2 (.slice A2 k2 c2) (.slice A2' k2' c2') 50 60)).toArray)] Tryz.underlying23 hi0 hz0 hz1 (by omega) (by omega) rfl (fill_prom2 _ _) ?_; simp only [Act.put, sA, sB, sC]))
 go_ret; have hbA := bA w4 (.cells (cellsP (pcF 1 (.slice A1 k1 c1) (.slice A1' k1' c1') 10 90) ++ cellsP (pcF 2 (.slice A2 k2 c2) (.slice A2' k2' c2') 50 60)).toArray 33); exact ⟨w4.heap.size, .slice A1 k1 c1, .slice A1' k1' c1', .slice A2 k2 c2, .slice A2' k2' c2', rfl, ⟨Rd.fresh w4 33 ((exF (.slice A1 k1 c1) (.slice A1' k1' c1') (.slice A2 k2 c2) (.slice A2' k2' c2')).flatMap cellsP), rfl, by omega⟩, hR1.below hbA, hR2.below hbA, ⟨HG1.out, HG2.out⟩, Below.tr hbw hbA⟩
def z16 : List Int := List.replicate 16 0
def LfE (i : Nat) : List Nat × List Nat := if i = 0 then ([1], [8]) else ([1], [4])
theorem lb_d (n : Nat) (h0 : n ≠ 0) (h : n < 4294967296) : Nm.lb n = [n] := Nm.lb_small h0 h
theorem dn_d (n : Nat) (h0 : 1 < n) (h : n < 4294967296) : Nm.lb (Nm.dn n) = [n] := by rw [Nm.dn_ne (by omega)]; exact lb_d n (by omega) h
theorem exF_esc {w : World} {a a' b b' : Value} (h1 : Rat w (.agg #[a, a']) 1 8) (h2 : Rat w (.agg #[b, b']) 1 4) : EscOk w (exF a a' b b') LfE := by
 have e1 := rtl_rat h1; have e2 := rtl_rat h2; rw [lb_d 1 (by omega) (by omega), dn_d 8 (by omega) (by omega)] at e1; rw [lb_d 1 (by omega) (by omega), dn_d 4 (by omega) (by omega)] at e2; intro n p hp
 rcases n with _ | _ | n
 ·injection hp with hp; subst hp; exact ⟨e1, by show (2 : Nat) ≤ _; omega, by show (2 : Nat) ≤ _; omega⟩
 ·injection hp with hp; subst hp; exact ⟨e2, by show (2 : Nat) ≤ _; omega, by show (2 : Nat) ≤ _; omega⟩
 ·cases hp
theorem exF_nb (team : Int) (b1 b2 : Value) (fr un : Int) (x y : Nat) (h : x ≤ y) (h1 : 0 ≤ team ∧ team < 4) (h2 : 0 ≤ fr ∧ fr < un ∧ un ≤ 1048576) : ¬ pBad x y (pcF team b1 b2 fr un) := by
 have w1 : wordB ⟨#[116, 48]⟩ = true := by decide
 have w2 : wordB ⟨#[112, 48]⟩ = true := by decide
 have w3 : (⟨#[112, 48]⟩ : ByteArray).toList.isEmpty = false := by rw [ByteArray.toList_eq]; rfl
 unfold pBad; simp only [pcF]; rintro (e | e | e | e | ⟨_, e⟩ | e | e | ⟨e, _⟩ | e | e | e)
 ·omega
 ·omega
 ·omega
 ·rw [w1] at e; cases e
 ·rw [w2] at e; cases e
 ·omega
 ·omega
 ·rw [w3] at e; cases e
 ·omega
 ·omega
 ·omega
theorem exF_pv {a a' b b' : Value} (h : Nm.Good 1 8 ∧ Nm.Good 1 4) : ∀ (n : Nat) p, (exF a a' b b')[n]? = some p → PVal p (LfE n).1 (LfE n).2 0 := by
 intro n p hp
 rcases n with _ | _ | n
 ·injection hp with hp; subst hp; exact .inr ⟨1, 8, (lb_d 1 (by omega) (by omega)).symm, (dn_d 8 (by omega) (by omega)).symm, h.1, pE_ok (exF_nb _ _ _ _ _ _ _ (by omega) (by omega) (by omega))⟩
 ·injection hp with hp; subst hp; exact .inr ⟨1, 4, (lb_d 1 (by omega) (by omega)).symm, (dn_d 4 (by omega) (by omega)).symm, h.2, pE_ok (exF_nb _ _ _ _ _ _ _ (by omega) (by omega) (by omega))⟩
 ·cases hp
theorem exF_dg {a a' b b' : Value} : ∀ (n : Nat) p, (exF a a' b b')[n]? = some p → DgOk (pdg p) z16 := by
 intro n p hp
 rcases n with _ | _ | n
 ·injection hp with hp; subst hp; exact ⟨rfl, rfl⟩
 ·injection hp with hp; subst hp; exact ⟨rfl, rfl⟩
 ·cases hp
/-- what holds of the examples' list -/
structure ExOk (w : World) (g : Nat) (a a' b b' : Value) : Prop where
 row : RowS cellsP w (some ⟨g, 0, none⟩) 2 (exF a a' b b')
 r1 : Rat w (.agg #[a, a']) 1 8
 r2 : Rat w (.agg #[b, b']) 1 4
 gd : Nm.Good 1 8 ∧ Nm.Good 1 4
theorem ExOk.below {w w' : World} {g : Nat} {a a' b b' : Value} (h : ExOk w g a a' b b') (hb : Below w.heap.size w w') : ExOk w' g a a' b b' := ⟨h.row.below hb, h.r1.below hb, h.r2.below hb, h.gd⟩
theorem ExOk.pls {w : World} {g : Nat} {a a' b b' : Value} (h : ExOk w g a a' b b') : PLs w (some ⟨g, 0, none⟩) 2 (exF a a' b b') LfE (fun _ => 0) (fun _ => z16) :=
 ⟨h.row, exF_esc h.r1 h.r2, exF_pv h.gd, exF_dg⟩
theorem lst_n (g : Nat) (a a' b b' : Value) (t : Int) (d : DG) (dm br : List Int) (A : Option Addr) (k c : Nat) (s : Int) (w : World) (h : ExOk w g a a' b b') (hd : DgOk (cellsDG d) dm) (hbr : RowS intC w A k br) (hs : Hid (stF t dm br (fun _ => 0) LfE (fun _ => z16) (exF a a' b b') 0 = s)) :
  Calls Tryz.prog 14 #[.slice (some ⟨g, 0, none⟩) 2 2, .int .i64 0, .int .i64 t, .agg (cellsDG d).toArray, .slice A k c] w fun e w' => e = .returned (.tuple #[.int .i64 s, .int .i64 0]) ∧ Below w.heap.size w w' := by
 have hp := h.pls; refine (state_n (some ⟨g, 0, none⟩) 2 2 0 (mmOf t d A k c) (exF a a' b b') LfE (fun _ => 0) (fun _ => z16) dm br w hp.row hp.esc hp.pv hp.dk hd hbr).mono ?_; rintro e w' ⟨s', er, rfl, HS, hb⟩
 rcases HS.out with ⟨h1, _⟩ | ⟨n, h1, h2, h3⟩
 ·omega
 ·have hn : n = 0 := by omega
  subst hn
  rcases h3 with ⟨h4, _⟩ | ⟨_, h4, h5⟩
  ·exact absurd rfl h4
  ·rw [h4, h5]; have := hs.out; exact ⟨by rw [← this]; rfl, hb⟩
theorem st_9 (a a' b b' : Value) : stF 9 z16 [] (fun _ => 0) LfE (fun _ => z16) (exF a a' b b') 0 = 1 := by kernel_rfl
theorem st_10 (a a' b b' : Value) : stF 10 z16 [] (fun _ => 0) LfE (fun _ => z16) (exF a a' b b') 0 = 0 := by kernel_rfl
theorem st_50 (a a' b b' : Value) : stF 50 z16 [] (fun _ => 0) LfE (fun _ => z16) (exF a a' b b') 0 = 5 := by kernel_rfl
theorem st_60 (a a' b b' : Value) : stF 60 z16 [] (fun _ => 0) LfE (fun _ => z16) (exF a a' b b') 0 = 0 := by kernel_rfl
theorem st_90 (a a' b b' : Value) : stF 90 z16 [] (fun _ => 0) LfE (fun _ => z16) (exF a a' b b') 0 = 2 := by kernel_rfl
theorem st_b (a a' b b' : Value) : stF 50 z16 [1] (fun _ => 0) LfE (fun _ => z16) (exF a a' b b') 0 = 0 := by kernel_rfl
theorem st_c (a a' b b' : Value) : stF 50 (1 :: List.replicate 15 0) [] (fun _ => 0) LfE (fun _ => z16) (exF a a' b b') 0 = 3 := by kernel_rfl
theorem cl_1 (a a' b b' : Value) : clList (clA (fun _ => 0) LfE (fun _ => z16) (exF a a' b b')) 2 2 = [(0, 1)] := by kernel_rfl
end Go.Proofs.YtijkfagkbfbpmaaGreatDoor
namespace Go.Proofs.YtijkfagkbfbpmaaGreatDoor
open Go Go.RowKit
theorem itoa_sm (w : World) (n : Nat) (hn : n < 100) (s : ByteArray) (hs : (⟨(Lib.decDigits n).toArray⟩ : ByteArray) = s) (h1 : s.size ≤ 100) : ItoaS w (n : Int) s := by
 refine ⟨h1, fun W _ => ?_⟩; refine (Tryz.strconv_Itoa_small n hn W).mono ?_; rintro e w' ⟨rfl, rfl⟩; exact ⟨by rw [hs], Below.refl _ _⟩
theorem dd_1 (n : Nat) (h : n < 10) : Lib.decDigits n = [UInt8.ofNat (48 + n)] := by rw [Lib.decDigits, dif_pos h]
theorem dd_2 (n : Nat) (h : 10 ≤ n) (h2 : n < 100) : Lib.decDigits n = [UInt8.ofNat (48 + n / 10), UInt8.ofNat (48 + n % 10)] := by
 rw [Lib.decDigits, dif_neg (by omega), dd_1 _ (by omega)]; rfl
theorem rat18 : ratS 1 8 = ⟨#[49, 47, 56]⟩ := by
 have e1 : Nm.decS 1 = { data := #[49] } := by unfold Nm.decS; rw [Nm.decD_small (by omega)]; rfl
 have e2 : Nm.decS 8 = { data := #[56] } := by unfold Nm.decS; rw [Nm.decD_small (by omega)]; rfl
 unfold ratS; rw [if_neg (by omega), e1, e2]; rfl
def exTx : ByteArray := { data := ([116, 101, 97, 109, 32, 49, 32, 112, 114, 111, 109, 105, 115, 101, 115, 32, 116, 104, 97, 116, 32, 116, 48, 32, 102, 97, 105, 108, 115, 32, 97, 116, 32, 112, 48, 47, 50, 32, 119, 105, 116, 104, 32, 97, 116, 32, 109, 111, 115, 116, 32, 49, 47, 56, 32].append [102, 114, 111, 109, 32, 49, 48, 32, 117, 110, 116, 105, 108, 32, 57, 48, 32, 119, 104, 105, 108, 101, 32, 48, 48, 48, 48, 48, 48, 48, 48, 48, 48, 48, 48, 48, 48, 48, 48, 48, 48, 48, 48, 48, 48, 48, 48, 48, 48, 48, 48, 48, 48, 48, 48]).toArray }
theorem ex_text (a a' : Value) : joinP (wordsP (pcF 1 a a' 10 90) ⟨#[49, 47, 56]⟩ ⟨#[49]⟩ ⟨#[50]⟩ ⟨#[49, 48]⟩ ⟨#[57, 48]⟩ z16) = exTx := by kernel_rfl
theorem lpr_n (g : Nat) (a a' b b' : Value) (w : World) (h : ExOk w g a a' b b') :
  Calls Tryz.prog 47 #[.agg (cellsP (pcF 1 a a' 10 90)).toArray] w fun e w' => e = .returned (.tuple #[.string exTx, .int .i64 0]) ∧ Below w.heap.size w w' := by
 refine (print_n (pcF 1 a a' 10 90) 1 8 z16 ⟨#[49]⟩ ⟨#[50]⟩ ⟨#[49, 48]⟩ ⟨#[57, 48]⟩ w h.r1 h.gd.1 (exF_nb _ _ _ _ _ _ _ (by omega) (by omega) (by omega)) (by show (2 : Nat) ≤ _; omega) (by show (2 : Nat) ≤ _; omega) ⟨rfl, rfl⟩ (fun x hx => by rw [List.eq_of_mem_replicate hx]; exact ⟨by omega, by omega⟩)
  (itoa_sm w 1 (by omega) _ (by rw [dd_1 1 (by omega)]; rfl) (by show (1 : Nat) ≤ _; omega)) (itoa_sm w 2 (by omega) _ (by rw [dd_1 2 (by omega)]; rfl) (by show (1 : Nat) ≤ _; omega))
  (itoa_sm w 10 (by omega) _ (by rw [dd_2 10 (by omega) (by omega)]; rfl) (by show (2 : Nat) ≤ _; omega)) (itoa_sm w 90 (by omega) _ (by rw [dd_2 90 (by omega) (by omega)]; rfl) (by show (2 : Nat) ≤ _; omega)) ⟨#[49, 47, 56]⟩ ⟨rat18, by show (3 : Nat) ≤ _; omega⟩).mono ?_
 rintro e w' ⟨rfl, hb⟩; exact ⟨by rw [ex_text], hb⟩
def ticksA : Array Value := #[.int .i64 9, .int .i64 10, .int .i64 50, .int .i64 60, .int .i64 90]
def wantA : Array Value := #[.int .i64 1, .int .i64 0, .int .i64 5, .int .i64 0, .int .i64 2]
theorem lv_at (a a' b b' : Value) {i : Nat} (h : i < 5) : ∃ t s : Int, ticksA[i]? = some (.int .i64 t) ∧ wantA[i]? = some (.int .i64 s) ∧ stF t z16 [] (fun _ => 0) LfE (fun _ => z16) (exF a a' b b') 0 = s := by
 have hc : i = 0 ∨ i = 1 ∨ i = 2 ∨ i = 3 ∨ i = 4 := by omega
 rcases hc with rfl | rfl | rfl | rfl | rfl
 ·exact ⟨9, 1, rfl, rfl, st_9 ..⟩
 ·exact ⟨10, 0, rfl, rfl, st_10 ..⟩
 ·exact ⟨50, 5, rfl, rfl, st_50 ..⟩
 ·exact ⟨60, 0, rfl, rfl, st_60 ..⟩
 ·exact ⟨90, 2, rfl, rfl, st_90 ..⟩
def oneDG : DG := ⟨.int .u8 1, .int .u8 0, .int .u8 0, .int .u8 0, .int .u8 0, .int .u8 0, .int .u8 0, .int .u8 0, .int .u8 0, .int .u8 0, .int .u8 0, .int .u8 0, .int .u8 0, .int .u8 0, .int .u8 0, .int .u8 0⟩
theorem row_none (w : World) (c : Nat) : RowS intC w none 0 [] := ⟨fun h => absurd rfl h, rfl, by omega⟩
set_option maxRecDepth 100000 in
set_option maxHeartbeats 8000000 in
theorem lives34_n (w : World) :
  Calls Tryz.prog 16 #[] w fun e w' => e = .returned (.bool true) ∧ Below w.heap.size w w' := by
 go_enter Tryz.func16, Tryz.ntmps16
 go_wp2_with fail; refine (example34_n _).mono ?_; rintro e w1 ⟨g, a, a', b, b', rfl, hrow, hr1, hr2, HGD, hb1⟩; have HEX : Hid (ExOk w1 g a a' b b') := ⟨hrow, hr1, hr2, HGD.out⟩; have hbw := hb1; obtain ⟨bg, og, hA, HC0⟩ := hrow.at_ cellsP_len (by omega) (by omega : 0 < 2) (by show 0 < 2; omega); injection hA with hA; injection hA with hA1 hA2; subst hA1 hA2; clear hrow hr1 hr2 hb1 HGD
 go_upto_region 3 with (first | (refine wpList_load_mid rfl 33 (.tmp 17) rfl g (0 + 0 * 24) rfl (cellsP (pcF 1 a a' 10 90)) _ (fun j v h => HC0.out j v h) Tryz.underlying33 rfl infoP ?_; simp only [Act.put, sA, sB, sC]))
 refine (lpr_n g a a' b b' _ HEX.out).mono ?_; rintro e w2 ⟨rfl, hb2⟩; have hbw := Below.tr hbw hb2; have HEX := Lib.hid (HEX.out.below hb2); obtain ⟨S, HS⟩ : ∃ S, Hid (S = exTx) := ⟨_, rfl⟩; rw [← HS.out]; clear hb2 HC0; go_upto_region 5 with fail; refine wp_name ?_; intro w5 HW5; have hb5 : Below w2.heap.size w2 w5 := by rw [HW5.out]; exact Below.tr (bA _ _) (bA _ _)
 have BT : Blk w5 w2.heap.size 3 ticksA := by rw [HW5.out]; exact (Blk.new _ _ _).alloc _
 have BW : Blk w5 (w2.heap.size + 1) 3 wantA := by
  rw [HW5.out]; have h := Blk.new (w2.alloc (.cells ticksA 3)) 3 wantA; rw [show (w2.alloc (.cells ticksA 3)).heap.size = w2.heap.size + 1 by simp] at h; exact h
 obtain ⟨gT, hgT⟩ : ∃ g, Hid (g = w2.heap.size) := ⟨_, rfl⟩; obtain ⟨gW, hgW⟩ : ∃ g, Hid (g = w2.heap.size + 1) := ⟨_, rfl⟩; rw [← hgW.out] at BW ⊢; rw [← hgT.out] at BT ⊢; have hbw := Below.tr hbw hb5; have HEX := Lib.hid (HEX.out.below hb5); clear HW5 hb5 hgT hgW; go_wp2_with fail
 go_loopg [6] 5 (fun mm x wr => ∃ i : Nat, x = .int .i64 i ∧ i + mm = 5 ∧ Below w5.heap.size w5 wr)
 case atStart => exact ⟨0, rfl, rfl, Below.refl _ _⟩
 case round =>
  obtain ⟨G, hG⟩ : ∃ G, G = gk := ⟨gk, rfl⟩; subst hG; obtain ⟨i, rfl, him, hbe⟩ := hrel; by_cases hi : i < 5
  ·have t1 : decide ((i : Int) < 5) = true := by simp; omega
   have li : (i : Int) < 5 := by omega
   obtain ⟨t, s, ht, hs, hst⟩ := lv_at a a' b b' hi; have HST := Lib.hid hst; have hct : wr.cell? ⟨gT, i, none⟩ = some (.int .i64 t) := cell_keep hbe (by rw [BT.cell]; exact ht); have hcw : wr.cell? ⟨gW, i, none⟩ = some (.int .i64 s) := cell_keep hbe (by rw [BW.cell]; exact hs); clear ht hs hst; go_wp2_with fail; refine (lst_n g a a' b b' t zeroDG z16 [] none 0 0 s _ (HEX.out.below hbe) ⟨rfl, rfl⟩ (row_none _ 0) HST).mono ?_; rintro e w6 ⟨rfl, hb6⟩; have hcw := cell_keep hb6 hcw; have hbe := Below.tr hbe hb6; have t2 : (s != s) = false := by simp
   clear hct HST hb6; go_wp2_with fail
   go_roundg (G - 1)
   case measure => omega
   case rel => exact ⟨i + 1, by go_num, by omega, hbe⟩
  ·have t1 : decide ((i : Int) < 5) = false := by simp; omega
   have hbw := Below.tr hbw hbe; have HEX := Lib.hid (HEX.out.below hbe); clear BT BW; go_wp2_with fail; refine calls_name ?_; intro w7 HW7; have hb7 : Below wr.heap.size wr w7 := by rw [HW7.out]; exact bA _ _
   have B1 : Blk w7 wr.heap.size 3 #[.int .i64 1] := by rw [HW7.out]; exact Blk.new _ _ _
   have hbr : RowS intC w7 (some ⟨wr.heap.size, 0, none⟩) 1 [1] := ⟨rd_blk B1, rfl, by omega⟩; have hbw := Below.tr hbw hb7; have HEX := Lib.hid (HEX.out.below hb7); refine (lst_n g a a' b b' 50 zeroDG z16 [1] _ 1 1 0 _ HEX.out ⟨rfl, rfl⟩ hbr (st_b ..)).mono ?_; rintro e w8 ⟨rfl, hb8⟩; have hbw := Below.tr hbw hb8; have HEX := Lib.hid (HEX.out.below hb8); clear HW7 hb7 B1 hbr hb8 hbe; go_wp2_with fail; refine (lst_n g a a' b b' 50 oneDG (1 :: List.replicate 15 0) [] none 0 0 3 _ HEX.out ⟨rfl, rfl⟩ (row_none _ 0) (st_c ..)).mono ?_; rintro e w9 ⟨rfl, hb9⟩; have hbw := Below.tr hbw hb9; have HEX := Lib.hid (HEX.out.below hb9); clear hb9; go_wp2_with fail; refine (clashes_n _ 2 2 _ _ _ _ _ HEX.out.pls (by omega)).mono ?_; rintro e w10 ⟨Ac, kc, cc, rfl, hrc, hb10⟩; rw [cl_1] at hrc; obtain rfl : kc = 1 := hrc.2.1; have hbw := Below.tr hbw hb10; clear hrc hb10 HEX; rw [HS.out]; unfold exTx; go_wp2_with fail; go_ret; exact ⟨rfl, hbw⟩
end Go.Proofs.YtijkfagkbfbpmaaGreatDoor
namespace Go.Proofs.YtijkfagkbfbpmaaGreatDoor
open Go Go.RowKit
end Go.Proofs.YtijkfagkbfbpmaaGreatDoor
namespace Go.Proofs.YtijkfagkbfbpmaaGreatDoor
open Go Go.RowKit
theorem flat_map8 (l : List Nat) : l.flatMap u8C = l.map fun n : Nat => (Value.int .u8 (n : Int)) := by
 induction l with
 | nil => rfl
 | cons x l ih => rw [List.flatMap_cons, ih]; rfl
/-- a part of a slice of bytes -/
theorem By.sub {w : World} {b0 o0 k c : Nat} {l : List Nat} (h : By w (some ⟨b0, o0, none⟩) k c l) (a m : Nat) (hm : a + m ≤ k) : By w (some ⟨b0, o0 + a, none⟩) m (c - a) ((l.drop a).take m) := by
 have hl := h.len; have hk := h.1.2.2; have h2 := h.2.1; have h3 := h.2.2.1; refine ⟨⟨?_, by rw [List.length_take, List.length_drop]; omega, by omega⟩, by omega, by omega, fun x hx => h.2.2.2.1 x (List.mem_of_mem_drop (List.mem_of_mem_take hx)), fun _ => ⟨_, _, rfl⟩⟩; intro _; refine ⟨b0, o0 + a, rfl, fun i hi => ?_⟩; rw [flat_u8, List.length_take, List.length_drop] at hi; obtain ⟨b, off, n, e, hc, _, HL⟩ := h.get (i := a + i) (by omega); simp only [Option.some.injEq, Addr.mk.injEq, and_true] at e; obtain ⟨rfl, rfl⟩ := e; rw [Nat.add_assoc, hc]; simp only [flat_map8, List.getElem_map, List.getElem_take, List.getElem_drop]; have := (List.getElem?_eq_some_iff.1 HL.out).2; rw [this]
end Go.Proofs.YtijkfagkbfbpmaaGreatDoor
namespace Go.Proofs.YtijkfagkbfbpmaaGreatDoor
open Go Go.RowKit
end Go.Proofs.YtijkfagkbfbpmaaGreatDoor
namespace Go.Proofs.YtijkfagkbfbpmaaGreatDoor
open Go Go.RowKit
end Go.Proofs.YtijkfagkbfbpmaaGreatDoor
namespace Go.Proofs.YtijkfagkbfbpmaaGreatDoor
open Go Go.RowKit
/-- a row of integers of the call's own -/
def OwnI (w : World) (base : Nat) (v : Value) (X : List Int) : Prop := w.ownsRow base 3 1 v X.length (X.flatMap intC)
theorem OwnI.shp {w : World} {base : Nat} {v : Value} {l : List Int} (h : OwnI w base v l) : ∃ A c, v = .slice A l.length c := own_shp h
theorem OwnI.below {w w' : World} {base : Nat} {v : Value} {l : List Int} (h : OwnI w base v l) (hb : Below w.heap.size w w') : OwnI w' base v l := own_below h hb
theorem OwnI.mono {w : World} {base base' : Nat} {v : Value} {l : List Int} (h : OwnI w base v l) (hb : base' ≤ base) : OwnI w base' v l := own_mono h hb
theorem OwnI.ge {w : World} {base : Nat} {v : Value} {l : List Int} (h : OwnI w base v l) : ∀ k, v.ownBlock = some k → base ≤ k := own_block_ge h
theorem OwnI.nil (w : World) (base : Nat) : OwnI w base (.slice none 0 0) [] := World.ownsRow_nil _ _ _ _
theorem OwnI.row {w : World} {base : Nat} {A : Option Addr} {k c : Nat} {l : List Int} (h : OwnI w base (.slice A k c) l) (hl : l.length ≤ 281474976710656) : RowL intC w A k l := by
 obtain ⟨A', c', e⟩ := h.shp; injection e with e1 e2 e3; subst e1 e2 e3; obtain ⟨r1, r2, r3⟩ := own_any intC_len (by omega) hl h; exact ⟨r1, r2, by omega⟩
theorem flat_int (l : List Int) : (l.flatMap intC).length = l.length := by rw [flat_len intC_len, Nat.mul_one]
theorem wpList_appI {ops : Array Oper} {rest : List Oper} {o : Oper} {a : Act} {w : World} {Q : Exit → Act → World → Prop} (hgd : o.guard = none) (s x : Operand) (ho : o.op = .call { callee := .builtin .append, args := #[s, x], argTypes := #[22, 22] })
  (base : Nat) (v : Value) (l : List Int) (hs : a.eval s = v) (h : OwnI w base v l) (A : Option Addr) (m c : Nat) (news : List Int) (hx : a.eval x = .slice A m c) (hn : RowL intC w A m news) (hl : l.length + news.length ≤ 1073741824) (hb : base ≤ w.heap.size)
  (hK : ∀ v' w', OwnI w' base v' (l ++ news) → w.grownBy w' v.ownBlock → (v'.ownBlock = v.ownBlock ∨ v'.ownBlock = some w.heap.size) → wpList Tryz.prog ops Q rest (a.put o.dst v') w') : wpList Tryz.prog ops Q (o :: rest) a w := by
 obtain ⟨iR, hi, hz, hsz, hby⟩ := info_parts info_int; have hm := hn.2.1; refine wpList_append_all hgd (fun _ => True) s x 22 ho base 3 iR (.int .i64 0) 1 8 Tryz.underlying22 hi hz hsz hby rfl (by omega) v l.length _ hs h A m c (news.flatMap intC) hx (by rw [flat_int]; omega) hn.1 ?_ (by simp only [maxLen]; omega) (by omega) hb (fun _ _ => trivial) (fun _ _ => trivial) (fun _ _ _ _ _ => trivial) ?_
 ·intro u hu; obtain ⟨d, _, hd⟩ := List.mem_flatMap.1 hu; simp only [intC, List.mem_singleton] at hd; subst hd; rfl
 ·intro v' w' k1 k2 k3 _; refine hK v' w' ?_ k2 k3; unfold OwnI; rw [List.length_append, List.flatMap_append, ← hm]; exact k1
/-- the slice from a position on -/
theorem By.from {w : World} {b0 o0 k c : Nat} {l : List Nat} (h : By w (some ⟨b0, o0, none⟩) k c l) (a : Nat) (hm : a ≤ k) : By w (some ⟨b0, o0 + a, none⟩) (k - a) (c - a) (l.drop a) := by
 have hs := h.sub a (k - a) (by omega); rw [List.take_of_length_le (by rw [List.length_drop]; have := h.len; omega)] at hs; exact hs
/- getN: the rounds -/
end Go.Proofs.YtijkfagkbfbpmaaGreatDoor
namespace Go.Proofs.YtijkfagkbfbpmaaGreatDoor
open Go Go.RowKit
end Go.Proofs.YtijkfagkbfbpmaaGreatDoor
namespace Go.Proofs.YtijkfagkbfbpmaaGreatDoor
open Go Go.RowKit
end Go.Proofs.YtijkfagkbfbpmaaGreatDoor
namespace Go.Proofs.YtijkfagkbfbpmaaGreatDoor
open Go Go.RowKit
theorem lb_pos {x : Nat} (h : (Nm.lb x).length ≠ 0) : 0 < x := by
 rcases Nat.eq_zero_or_pos x with rfl | h0
 ·exact absurd (by rw [Nm.lb_zero]; rfl) h
 ·exact h0
end Go.Proofs.YtijkfagkbfbpmaaGreatDoor
namespace Go.Proofs.YtijkfagkbfbpmaaGreatDoor
open Go Go.RowKit
end Go.Proofs.YtijkfagkbfbpmaaGreatDoor
namespace Go.Proofs.YtijkfagkbfbpmaaGreatDoor
open Go Go.RowKit
end Go.Proofs.YtijkfagkbfbpmaaGreatDoor
namespace Go.Proofs.YtijkfagkbfbpmaaGreatDoor
open Go Go.RowKit
end Go.Proofs.YtijkfagkbfbpmaaGreatDoor
namespace Go.Proofs.YtijkfagkbfbpmaaGreatDoor
open Go Go.RowKit
theorem Nb.dig (w : World) (d : Nat) (h0 : 0 < d) (h : d < 4294967296) : Nb (w.alloc (.cells #[.int .u32 (d : Int)] 104)) (some ⟨w.heap.size, 0, none⟩) 1 1 d := by
 have hd : d < Nm.B := by unfold Nm.B; omega
 have e : Nm.lb d = [d] := by
  exact Nm.lb_small (by omega) hd
 have h : Row (w.alloc (.cells #[.int .u32 (d : Int)] 104)) w.heap.size [d] := ⟨Blk.new w _ _, fun x hx => by rw [List.mem_singleton.1 hx]; exact hd⟩; have := h.lim (c := 1) (by simp) (by omega); rw [← e] at this; exact ⟨by rw [e]; rfl, this⟩
end Go.Proofs.YtijkfagkbfbpmaaGreatDoor
namespace Go.Proofs.YtijkfagkbfbpmaaGreatDoor
open Go Go.RowKit
end Go.Proofs.YtijkfagkbfbpmaaGreatDoor
namespace Go.Proofs.YtijkfagkbfbpmaaGreatDoor.Nm
end Go.Proofs.YtijkfagkbfbpmaaGreatDoor.Nm
namespace Go.Proofs.YtijkfagkbfbpmaaGreatDoor
open Go Go.RowKit
end Go.Proofs.YtijkfagkbfbpmaaGreatDoor
namespace Go.Proofs.YtijkfagkbfbpmaaGreatDoor
open Go Go.RowKit
section
variable {w0 W : World} {g gO gB g1 : Nat} {Cs : List (Nat × Nat × Value)}
end
end Go.Proofs.YtijkfagkbfbpmaaGreatDoor
namespace Go.Proofs.YtijkfagkbfbpmaaGreatDoor
open Go.RowKit
end Go.Proofs.YtijkfagkbfbpmaaGreatDoor
namespace Go.Proofs.YtijkfagkbfbpmaaGreatDoor
open Go.RowKit
/- ratio.Power, where the power fits -/
end Go.Proofs.YtijkfagkbfbpmaaGreatDoor
namespace Go.Proofs.YtijkfagkbfbpmaaGreatDoor
open Go.RowKit
end Go.Proofs.YtijkfagkbfbpmaaGreatDoor
namespace Go.Proofs.YtijkfagkbfbpmaaGreatDoor
open Go Go.RowKit
end Go.Proofs.YtijkfagkbfbpmaaGreatDoor
namespace Go.Proofs.YtijkfagkbfbpmaaGreatDoor
open Go Go.RowKit
end Go.Proofs.YtijkfagkbfbpmaaGreatDoor
namespace Go.Proofs.YtijkfagkbfbpmaaGreatDoor
open Go Go.RowKit
/-- the old blocks but one are as they were -/
structure KG (B g : Nat) (w w' : World) : Prop where
 blk : ∀ b, b < B → b ≠ g → w'.heap[b]? = w.heap[b]?
 size : w.heap.size ≤ w'.heap.size
theorem KG.refl (B g : Nat) (w : World) : KG B g w w := ⟨fun _ _ _ => rfl, Nat.le_refl _⟩
theorem KG.trans {B g : Nat} {w w' w'' : World} (h : KG B g w w') (k : KG B g w' w'') : KG B g w w'' := ⟨fun b h1 h2 => (k.blk b h1 h2).trans (h.blk b h1 h2), Nat.le_trans h.size k.size⟩
theorem KG.below {B g : Nat} {w w' : World} (hb : Below w.heap.size w w') (hB : B ≤ w.heap.size) : KG B g w w' := ⟨fun b h1 _ => hb.block b (by omega), hb.size⟩
theorem KG.grown {B g : Nat} {w w' : World} {row : Option Nat} (k : w.grownBy w' row) (hB : B ≤ w.heap.size) (hr : ∀ q, row = some q → B ≤ q) : KG B g w w' := ⟨fun b h1 _ => k.block b (by omega) (fun e => by have := hr b e.symm; omega), k.size⟩
theorem OwnI.keep {B g base : Nat} {w w' : World} {v : Value} {l : List Int} (h : OwnI w base v l) (k : KG B g w w') (hB : w.heap.size ≤ B) (hg : g < base) : OwnI w' base v l := ownsRow_keep h fun b hb => k.blk b (by have := ownsRow_lt h b hb; omega) (fun e => by have := h.ge b hb; omega)
/- limbs out of integers -/
def inR (x : Int) : Bool := decide (0 ≤ x) && decide (x ≤ 4294967295)
def u32N (x : Int) : Nat := (x % 4294967296).toNat
def limE (X : List Int) : Bool := X.all inR
def limX (X : List Int) : List Nat := X.map u32N
/-- what Decode says: the ratio, the length, the error -/
noncomputable def decF (l : List Nat) : LP × Nat × Int :=
 if (Wi.getIs l).2.2 ≠ 0 then (nilP, 0, (Wi.getIs l).2.2)
 else if (Wi.getIs (l.drop (Wi.getIs l).2.1)).2.2 ≠ 0 then (nilP, 0, (Wi.getIs (l.drop (Wi.getIs l).2.1)).2.2)
 else if (limE (Wi.getIs l).1 && limE (Wi.getIs (l.drop (Wi.getIs l).2.1)).1) = false ∨ validP (limX (Wi.getIs l).1, limX (Wi.getIs (l.drop (Wi.getIs l).2.1)).1) ≠ 0 then (nilP, 0, 2)
 else ((limX (Wi.getIs l).1, limX (Wi.getIs (l.drop (Wi.getIs l).2.1)).1), (Wi.getIs l).2.1 + (Wi.getIs (l.drop (Wi.getIs l).2.1)).2.1, 0)
end Go.Proofs.YtijkfagkbfbpmaaGreatDoor
namespace Go.Proofs.YtijkfagkbfbpmaaGreatDoor
open Go Go.RowKit
end Go.Proofs.YtijkfagkbfbpmaaGreatDoor
namespace Go.Proofs.YtijkfagkbfbpmaaGreatDoor
open Go Go.RowKit
end Go.Proofs.YtijkfagkbfbpmaaGreatDoor
namespace Go.Proofs.YtijkfagkbfbpmaaGreatDoor
open Go Go.RowKit
theorem RowL.take_int {w : World} {A : Option Addr} {k : Nat} {X : List Int} (h : RowL intC w A k X) (m : Nat) (hm : m ≤ k) : RowL intC w A m (X.take m) := by
 obtain ⟨h1, h2, h3⟩ := h; refine ⟨?_, by rw [List.length_take]; omega, by omega⟩; have e : X.flatMap intC = (X.take m).flatMap intC ++ (X.drop m).flatMap intC := by rw [← List.flatMap_append, List.take_append_drop]
 intro hne; obtain ⟨b, off, rfl, hc⟩ := h1 (by rw [e]; simp [hne]); refine ⟨b, off, rfl, fun i hi => ?_⟩; rw [hc i (by rw [e, List.length_append]; omega)]
 congr 1
 simp only [e]; exact List.getElem_append_left hi
set_option maxRecDepth 100000 in
set_option maxHeartbeats 4000000 in
theorem takeI_n (A : Option Addr) (k c : Nat) (X : List Int) (m : Nat) (w : World) (h : RowL intC w A k X) (hkc : k ≤ c) (hc : c ≤ 9223372036854775807) (hm : m ≤ 1048576) :
  Calls Tryz.prog 11 #[.slice A k c, .int .i64 (m : Nat)] w fun e w' => ∃ v, e = .returned v ∧ OwnI w' w.heap.size v (X.take m) ∧ Below w.heap.size w w' := by
 have HLEN := Lib.hid h.2.1; obtain ⟨q, Hq⟩ : ∃ q, Hid (q = min k m) := ⟨_, rfl⟩; have hqk : q ≤ k := by rw [Hq.out]; omega
 have hqc : q ≤ c := by omega
 have hqm : q ≤ 1048576 := by rw [Hq.out]; omega
 have hmin : min (k : Int) (m : Int) = (q : Int) := by rw [Hq.out]; omega
 have hrow := h.take_int q hqk
 have HE : Hid (X.take q = X.take m) := by
  show _ = _
  rcases Nat.le_total k m with hl | hl
  ·rw [Hq.out, Nat.min_eq_left hl, List.take_of_length_le (by rw [← HLEN.out]; exact Nat.le_refl _), List.take_of_length_le (by rw [← HLEN.out]; exact hl)]
  ·rw [Hq.out, Nat.min_eq_right hl]
 have hl : ([] : List Int).length + (X.take q).length ≤ 1073741824 := by rw [List.length_take]; simp; omega
 have hsz : w.heap.size ≤ w.heap.size := Nat.le_refl _; have hown2 := OwnI.nil w w.heap.size
 go_enter Tryz.func11, Tryz.ntmps11
 go_wp2_with (at_builtin; go_loud (refine wpList_appI rfl (.tmp 6) (.tmp 12) rfl w.heap.size (.slice none 0 0) _ rfl hown2 A q c _ rfl hrow hl hsz ?_); intro v7 w7 hown7 hg7 _)
 have hbz := (Below.refl w.heap.size w).grown hg7 hsz (fun q hq => hown2.ge q hq); obtain ⟨Y, HY⟩ : ∃ Y, Hid (Y = X.take m) := ⟨_, rfl⟩; rw [List.nil_append, HE.out, ← HY.out] at hown7; rw [← HY.out]; obtain ⟨A7, c7, rfl⟩ := hown7.shp; have HO := Lib.hid hown7; clear hown7 hown2 hg7 hrow; go_wp2_with fail; go_ret; exact ⟨_, rfl, HO.out, hbz⟩
end Go.Proofs.YtijkfagkbfbpmaaGreatDoor
namespace Go.Proofs.YtijkfagkbfbpmaaGreatDoor
open Go Go.RowKit
theorem info_int4 : (Tryz.prog.info? 3).map (fun i => (i.zero, i.size, i.bytes)) = some (some (.int .i64 0), 1, 8) := by kernel_rfl
def edB (ps : List PC) (t : Int) (i : Nat) : Bool := (ps.take i).any fun p => p.fr == t + 1 || p.un == t + 1
theorem edB_succ {ps : List PC} {t : Int} {i : Nat} {p : PC} (h : ps[i]? = some p) : edB ps t (i + 1) = (edB ps t i || (p.fr == t + 1 || p.un == t + 1)) := by
 obtain ⟨h1, h2⟩ := List.getElem?_eq_some_iff.1 h; unfold edB; rw [List.take_succ_eq_append_getElem h1, List.any_append, h2]; simp
theorem edB_no {ps : List PC} {t : Int} (h : edB ps t ps.length = false) : NoEdge ps t := by
 intro p hp; unfold edB at h; rw [List.take_length, List.any_eq_false] at h; have := h p hp
 simpa using this
def byDG (n : Nat) : DG := ⟨.int .u8 (n : Nat), .int .u8 0, .int .u8 0, .int .u8 0, .int .u8 0, .int .u8 0, .int .u8 0, .int .u8 0, .int .u8 0, .int .u8 0, .int .u8 0, .int .u8 0, .int .u8 0, .int .u8 0, .int .u8 0, .int .u8 0⟩
def byL (n : Nat) : List Int := [(n : Int), 0, 0, 0, 0, 0, 0, 0, 0, 0, 0, 0, 0, 0, 0, 0]
theorem byDG_ok (n : Nat) : DgOk (cellsDG (byDG n)) (byL n) := ⟨rfl, rfl⟩
theorem infoDGt {d : DG} : (Tryz.prog.info? 31).map (·.size) = some (cellsDG d).length := by kernel_rfl
def apB (L : List (Nat × Nat)) (k i : Nat) : Bool := (L.take i).all fun x => x.1 != k && x.2 != k
theorem apB_succ {L : List (Nat × Nat)} {k i : Nat} {x : Nat × Nat} (h : L[i]? = some x) : apB L k (i + 1) = (apB L k i && (x.1 != k && x.2 != k)) := by
 obtain ⟨h1, h2⟩ := List.getElem?_eq_some_iff.1 h; unfold apB; rw [List.take_succ_eq_append_getElem h1, List.all_append, h2]; simp
def PhiTm19 (N : Nat) (Ap : Option Addr) (kp cp k : Nat) (t more : Int) (n : Nat) (As : Option Addr) (ks cs : Nat) (br : List Int) (z : Int) (vs : Nat → Value) (j : Nat) (w : World) (x : Value) : Prop :=
 match j with
 | 0 => x = .slice Ap kp cp
 | 1 => x = .int .i64 (k : Nat)
 | 2 => x = .int .i64 t
 | 3 => x = .agg (cellsDG (byDG n)).toArray
 | 4 => ∃ g, x = .slice (some ⟨g, 0, none⟩) 0 0 ∧ w.ownsRow N 3 1 (.slice (some ⟨g, 0, none⟩) 0 0) 0 []
 | 5 => x = .slice As ks cs
 | 6 => ∃ A c, x = .slice A ks c ∧ w.ownsRow N 3 1 (.slice A ks c) ks (br.flatMap intC)
 | 7 => x = .int .i64 more
 | 8 => ∃ g, x = .slice (some ⟨g, 0, none⟩) 1 1 ∧ Blk w g 3 #[.int .i64 more]
 | 11 => x = .tuple #[.int .i64 z, .int .i64 0]
 | 12 => x = .int .i64 z
 | 13 => x = .int .i64 0
 | 14 => x = .int .i64 z
 | 15 => x = .int .i64 0
 | _ => True

theorem PhiTm19.keepR {N : Nat} {Ap : Option Addr} {kp cp k : Nat} {t more : Int} {n : Nat} {As : Option Addr} {ks cs : Nat} {br : List Int} {z : Int} : ∀ vs (w w' : World), Below w.heap.size w w' → ∀ j x, PhiTm19 N Ap kp cp k t more n As ks cs br z vs j w x → PhiTm19 N Ap kp cp k t more n As ks cs br z vs j w' x := by
 intro vs w w' hb j x h; unfold PhiTm19 at h ⊢
 split <;> simp only at h ⊢
 all_goals first
  | exact h
  | (obtain ⟨g, e, h1⟩ := h; exact ⟨g, e, own_below h1 hb⟩)
  | (obtain ⟨A, c, e, h1⟩ := h; exact ⟨A, c, e, own_below h1 hb⟩)
  | (obtain ⟨g, e, h1⟩ := h; exact ⟨g, e, Blk.below h1 hb h1.lt⟩)
theorem PhiTm19.keepF {N : Nat} {Ap : Option Addr} {kp cp k : Nat} {t more : Int} {n : Nat} {As : Option Addr} {ks cs : Nat} {br : List Int} {z : Int} : ∀ vs (w w' : World) j x, ([0, 1, 2, 3, 11, 12, 13, 14, 15] : List Nat).contains j = true → PhiTm19 N Ap kp cp k t more n As ks cs br z vs j w x → PhiTm19 N Ap kp cp k t more n As ks cs br z vs j w' x := by
 intro vs w w' j x hf h; have hc : j = 0 ∨ j = 1 ∨ j = 2 ∨ j = 3 ∨ j = 11 ∨ j = 12 ∨ j = 13 ∨ j = 14 ∨ j = 15 := by simpa using hf
 rcases hc with rfl | rfl | rfl | rfl | rfl | rfl | rfl | rfl | rfl <;> exact h
def STm19 (w0 : World) (ks : Nat) (br : List Int) (more z : Int) : List Value → (Nat → Value) → World → Prop
 | [], _, W => Below w0.heap.size w0 W
 | [v], _, W => (∃ A c, v = .slice A (ks + 1) c ∧ RowS intC W A (ks + 1) (br ++ [more])) ∧ Below w0.heap.size w0 W
 | [_, v], _, W => v = .tuple #[.int .i64 z, .int .i64 0] ∧ Below w0.heap.size w0 W
 | _, _, _ => False
theorem quiet_eqlD (a : Act) (C : World → Prop) (w : World) (x y : Operand) (l m : List Value) (d1 d2 : List Int) (h1 : DgOk l d1) (h2 : DgOk m d2) (hx : a.eval x = .agg l.toArray) (hy : a.eval y = .agg m.toArray) (o : Oper) (ho : o.op = .binOp .eql 31 x y 31) : o.quietAt Tryz.prog a C w (.bool (d1 == d2)) := by
 have h : (binOp .eql 31 (.agg l.toArray) (.agg m.toArray)).run Tryz.prog w = .ok (.bool (d1 == d2)) w := by rw [h1.1, h2.1]; exact dig_eql w d1 d2 h1.2 h2.2
 unfold Oper.quietAt execOp; rw [ho]; simp only [hx, hy, Sem.run_bind, run_eqGuard_agg (P := Tryz.prog) w .eql 31 x y l.toArray m.toArray (by kernel_rfl), h, Result.andThen_ok, Sem.run_pure]; exact ⟨rfl, rfl⟩
theorem digRow {w : World} {b o : Nat} {p : PC} (h : ∀ j v, (cellsP p)[j]? = some v → w.cell? ⟨b, o + j, none⟩ = some v) : w.rangeAt b (o + 8) (pdg p) := by
 intro j v hj; rw [Nat.add_assoc]; refine h (8 + j) v ?_; have h1 := (List.getElem?_eq_some_iff.1 hj).1
 rcases j with _ | _ | _ | _ | _ | _ | _ | _ | _ | _ | _ | _ | _ | _ | _ | _ | j <;> first | exact hj | (exfalso; simp only [pdg, List.length_cons, List.length_nil] at h1; omega)
theorem ints_flat_len (l : List Int) : (l.flatMap intC).length = l.length * 1 := flat_len intC_len l
theorem ints_one {l : List Int} : ∀ u ∈ l.flatMap intC, u.oneCell' = true := by
 intro u hu; obtain ⟨d, _, hd⟩ := List.mem_flatMap.1 hu; simp only [intC, List.mem_singleton] at hd; rw [hd]; rfl
set_option maxRecDepth 100000 in
set_option maxHeartbeats 16000000 in
theorem promise_times_n (A0 : Option Addr) (k0 c0 : Nat) (l0 : List Int) (tick : Int) (A2 : Option Addr) (k2 c2 : Nat) (l2 : List Int) (more : Int) (w : World)
  (h0 : RowL intC w A0 k0 l0) (H0 : Hid (∀ x ∈ l0, -9223372036854775808 ≤ x ∧ x ≤ 9223372036854775807)) (ht : -9223372036854775808 ≤ tick ∧ tick ≤ 9223372036854775807) (h2 : RowL intC w A2 k2 l2) (hc2 : k2 ≤ c2) (hd2 : c2 ≤ 9223372036854775807) :
  Calls Tryz.prog 3 #[.slice A0 k0 c0, .int .i64 tick, .slice A2 k2 c2, .int .i64 more] w fun e w' => e = .returned (.bool true) ∧ Below w.heap.size w w' := by
 obtain ⟨i0, hi0, hz0, hz1, hz2⟩ := info_parts info_int4
 go_enter Tryz.func3, Tryz.ntmps3
 go_wp2_with fail; refine (made_n A0 k0 c0 l0 _ h0 H0).mono ?_; rintro e w1 ⟨Ap, kp, cp, ps, bd, rfl, _, _, hps, hkp, hok, hb1⟩; have h2 := h2.below hb1; have hbw := hb1; clear h0 H0 hb1; go_wp2_with fail; refine (takeI_n A2 k2 c2 l2 4 _ h2 hc2 hd2 (by omega)).mono ?_; rintro e w2 ⟨vS, rfl, hoS, hb2⟩; obtain ⟨br, HBR⟩ : ∃ br, Hid (br = l2.take 4) := ⟨_, rfl⟩; rw [← HBR.out] at hoS; obtain ⟨As, cs, rfl⟩ := hoS.shp; obtain ⟨ks, HBK⟩ : ∃ ks, Hid (ks = br.length) := ⟨_, rfl⟩; have hks : ks ≤ 4 := by rw [HBK.out, HBR.out, List.length_take]; omega
 rw [← HBK.out]
 have hbr : RowS intC w2 As ks br := by
  have h := hoS; unfold OwnI at h; rw [← HBK.out] at h; exact own_any intC_len (by omega) (by omega) h
 have hps := hps.below hb2; have hok := hok.below hb2; have hbw := Below.tr hbw hb2; obtain ⟨dg, hpl⟩ := made_pls hps hok; have HPL := Lib.hid hpl; have HKL : Hid (kp = ps.length) := hpl.row.2.1; clear hb2 h2 hoS HBR hps hok hpl; go_wp2_with fail; refine (around_n tick 28 _ ht.1 ht.2 (by omega) (by omega)).mono ?_; rintro e w' ⟨tn, rfl, htn, _, rfl⟩; obtain ⟨t, HT⟩ : ∃ t : Int, Hid (t = (tn : Int)) := ⟨_, rfl⟩; rw [← HT.out]; have ht1 : 0 ≤ t := by rw [HT.out]; omega
 have ht2 : t < 28 := by rw [HT.out]; omega
 have hts : IntKind.i64.wrap (t + 1) = t + 1 := by rw [IntWalk.i64_in _ (by omega)]
 clear HT ht htn; go_wp2_with fail
 go_loopg [11, 12] kp (fun mm b x wr => ∃ i : Nat, x = .int .i64 i ∧ i + mm = kp ∧ b = .bool (edB ps t i) ∧ wr = w2)
 case atStart => exact ⟨0, rfl, by omega, rfl, rfl⟩
 case round =>
  obtain ⟨G, hG⟩ : ∃ G, G = gk := ⟨gk, rfl⟩; subst hG; obtain ⟨i, rfl, him, rfl, rfl⟩ := hrel; by_cases hi : i < kp
  ·have u1 : decide ((i : Int) < (kp : Int)) = true := by simp; omega
   have li : (i : Int) < (kp : Int) := by omega
   have hil : i < ps.length := by have := HKL.out; omega
   obtain ⟨p, HP⟩ : ∃ p, Hid (ps[i] = p ∧ ps[i]? = some p) := ⟨_, rfl, List.getElem?_eq_getElem hil⟩; obtain ⟨b, off, rfl, HCP⟩ := HPL.out.row.at_ cellsP_len (by omega) hi hil; rw [HP.out.1] at HCP; have f6 := HCP.out 6 _ rfl; have f7 := HCP.out 7 _ rfl; have HES := Lib.hid (edB_succ (t := t) HP.out.2)
   cases hE : edB ps t i with
   | true =>
    have HE2 : Hid (edB ps t (i + 1) = true) := by show _ = _; rw [HES.out, hE]; rfl
    go_wp2_with fail
    go_roundg (G - 1)
    case measure => omega
    case rel => exact ⟨i + 1, by go_num, by omega, by rw [HE2.out], rfl⟩
   | false =>
    by_cases h6 : p.fr = t + 1
    ·have v1 : (p.fr == t + 1) = true := by simpa using h6
     have HE2 : Hid (edB ps t (i + 1) = true) := by show _ = _; rw [HES.out, hE, v1]; rfl
     clear h6; go_wp2_with fail
     go_roundg (G - 1)
     case measure => omega
     case rel => exact ⟨i + 1, by go_num, by omega, by rw [HE2.out], rfl⟩
    ·have v1 : (p.fr == t + 1) = false := by simpa using h6
     obtain ⟨v, hv⟩ : ∃ v, (p.un == t + 1) = v := ⟨_, rfl⟩; have HE2 : Hid (edB ps t (i + 1) = v) := by show _ = _; rw [HES.out, hE, v1, hv]; rfl
     clear h6; go_wp2_with fail
     go_roundg (G - 1)
     case measure => omega
     case rel => exact ⟨i + 1, by go_num, by omega, by rw [HE2.out], rfl⟩
  ·have u1 : decide ((i : Int) < (kp : Int)) = false := by simp; omega
   have HED : Hid (edB ps t i = false → NoEdge ps t) := fun h => edB_no (by rw [← HKL.out, show kp = i by omega]; exact h)
   generalize edB ps t i = ed at HED ⊢; go_wp2_with fail; refine (clashes_n Ap kp cp ps _ _ dg _ HPL.out (by omega)).mono ?_; rintro e w3 ⟨Ac, kc, cc, rfl, hrc, hb3⟩; obtain ⟨L, HL⟩ : ∃ L, Hid (L = clList (clA (fun _ => 0) (LfM bd) dg ps) kp kp) := ⟨_, rfl⟩; rw [← HL.out] at hrc; have HKC : Hid (kc = L.length) := hrc.2.1; have hkc := hrc.2.2; have HPL := Lib.hid (HPL.out.below hb3); have hbr := hbr.below hb3; have hbw := Below.tr hbw hb3; clear hb3; go_wp2_with fail
   go_loopg [14] kp (fun mm x wr => ∃ k : Nat, x = .int .i64 k ∧ k + mm = kp ∧ Below w3.heap.size w3 wr)
   case atStart => exact ⟨0, rfl, by omega, Below.refl _ _⟩
   case round =>
    obtain ⟨G1, hG1⟩ : ∃ G, G = gk := ⟨gk, rfl⟩; subst hG1; obtain ⟨k, rfl, hkm, hbe1⟩ := hrel; obtain ⟨wk, hwk⟩ : ∃ x, x = wr := ⟨_, rfl⟩; subst hwk; by_cases hk : k < kp
    rotate_left
    ·have u2 : decide ((k : Int) < (kp : Int)) = false := by simp; omega
     go_wp2_with fail; refine (lives34_n _).mono ?_; rintro e w9 ⟨rfl, hb9⟩; go_wp2_with fail; go_ret; exact ⟨rfl, Below.tr hbw (Below.tr hbe1 hb9)⟩
    have u2 : decide ((k : Int) < (kp : Int)) = true := by simp; omega
    have lk : (k : Int) < (kp : Int) := by omega
    have hkl : k < ps.length := by have := HKL.out; omega
    obtain ⟨p, HP⟩ : ∃ p, Hid (ps[k] = p ∧ ps[k]? = some p) := ⟨_, rfl, List.getElem?_eq_getElem hkl⟩; go_wp2_with fail
    go_loopg [15] 2 (fun mm x wr => ∃ j : Nat, x = .int .i64 j ∧ j + mm = 2 ∧ Below wk.heap.size wk wr)
    case atStart => exact ⟨0, rfl, rfl, Below.refl _ _⟩
    case round =>
     obtain ⟨G2, hG2⟩ : ∃ G, G = gk := ⟨gk, rfl⟩; subst hG2; obtain ⟨j, rfl, hjm, hbe2⟩ := hrel; obtain ⟨wj, hwj⟩ : ∃ x, x = wr := ⟨_, rfl⟩; subst hwj; by_cases hj : j < 2
     rotate_left
     ·have u3 : decide ((j : Int) < 2) = false := by simp; omega
      have hbe := Below.tr hbe1 hbe2; go_wp2_with fail
      go_roundg (G1 - 1)
      case measure => omega
      case rel => exact ⟨k + 1, by go_num, by omega, hbe⟩
     have u3 : decide ((j : Int) < 2) = true := by simp; omega
     have lj : (j : Int) < 2 := by omega
     have hwj : IntKind.u8.wrap (j : Int) = (j : Int) := by
      have : IntKind.u8.wrap (j : Int) = (j : Int) % 256 := by simp [IntKind.wrap, IntKind.bits, IntKind.signed]
      rw [this]; omega
     have hbj := Below.tr hbe1 hbe2; go_upto_region 17 with fail; refine wp_name ?_; intro w4 HW4; have hb4 : Below wj.heap.size wj w4 := by rw [HW4.out]; exact bA _ _
     have BDG : Blk w4 wj.heap.size 31 (cellsDG (byDG j)).toArray := by rw [HW4.out]; exact Blk.new _ _ _
     obtain ⟨gd, hgd⟩ : ∃ g, Hid (g = wj.heap.size) := ⟨_, rfl⟩; rw [← hgd.out] at BDG ⊢; have hbe := Below.tr hbj hb4; have hbe2 := Below.tr hbe2 hb4; have HPLk := Lib.hid (HPL.out.below hbe); have hbrk := hbr.below hbe; clear HW4 hb4 hgd hwj; obtain ⟨x, HX⟩ : ∃ x, Hid (stF t (byL j) br (fun _ => 0) (LfM bd) dg ps k = x) := ⟨_, rfl⟩; obtain ⟨y, HYY⟩ : ∃ y, Hid (stF (t + 1) (byL j) br (fun _ => 0) (LfM bd) dg ps k = y) := ⟨_, rfl⟩; obtain ⟨z, HZ⟩ : ∃ z, Hid (stF t (byL j) (br ++ [more]) (fun _ => 0) (LfM bd) dg ps k = z) := ⟨_, rfl⟩
     go_wp2_with (first | (refine wpList_load_mid rfl 31 (.tmp 16) rfl gd 0 rfl (cellsDG (byDG j)) _ (blk_range BDG) Tryz.underlying31 rfl (infoDGt (d := byDG j)) ?_; simp only [Act.put, sA, sB, sC]))
     refine (stv_n Ap kp cp k ps (LfM bd) (fun _ => 0) dg t (byDG j) (byL j) br As ks cs _ HPLk.out hk rfl (byDG_ok j) hbrk).mono ?_; rintro e w5 ⟨rfl, hb5⟩; rw [HX.out]; have hbe := Below.tr hbe hb5; have hbe2 := Below.tr hbe2 hb5; have HPLk := Lib.hid (HPLk.out.below hb5); have hbrk := hbrk.below hb5; have BDG := Blk.below BDG hb5 BDG.lt; clear hb5
     go_wp2_with (first | (refine wpList_load_mid rfl 31 (.tmp 16) rfl gd 0 rfl (cellsDG (byDG j)) _ (blk_range BDG) Tryz.underlying31 rfl (infoDGt (d := byDG j)) ?_; simp only [Act.put, sA, sB, sC]))
     refine (stv_n Ap kp cp k ps (LfM bd) (fun _ => 0) dg (t + 1) (byDG j) (byL j) br As ks cs _ HPLk.out hk rfl (byDG_ok j) hbrk).mono ?_; rintro e w5 ⟨rfl, hb5⟩; rw [HYY.out]; have hbe := Below.tr hbe hb5; have hbe2 := Below.tr hbe2 hb5; have HPLk := Lib.hid (HPLk.out.below hb5); have hbrk := hbrk.below hb5; have BDG := Blk.below BDG hb5 BDG.lt; clear hb5; go_upto_region 19 with fail; have HDG : Hid (∀ i v, (cellsDG (byDG j))[i]? = some v → w5.cell? ⟨gd, 0 + i, none⟩ = some v) := fun i v h => by rw [Nat.zero_add, BDG.cell]; simpa using h
     have hbr := hbrk; have HPL := HPLk; clear HPLk hbrk; refine region_late [9, 10] [.free, .free, .free, .free, .early, .early, .early, .early, .early, .chain 0, .chain 1, .late, .late, .late, .late, .late] [0, 1, 2, 3, 11, 12, 13, 14, 15] [] (PhiTm19 w5.heap.size Ap kp cp k t more j As ks cs br z) (fun w w' => Below w.heap.size w w') (STm19 w5 ks br more z) (fun W => Below w5.heap.size w5 W) (by rintro (_ | ⟨_, _ | ⟨_, _ | _⟩⟩) vs W h <;> first | exact h | exact h.2 | exact h.elim) (by kernel_rfl) (by kernel_rfl) (by kernel_rfl) (by kernel_rfl) (sK (fun _ _ _ _ _ h => h) (sK (fun _ _ _ _ _ h => h) (sK (fun _ _ _ _ _ h => h) (sK (fun _ _ _ _ _ h => h) (sK (fun _ _ _ _ _ h => h) (sK (fun _ _ _ _ _ h => h) (sK (fun _ _ _ _ _ h => h) (sK (fun _ _ _ _ _ h => h) (sK (fun _ _ _ _ _ h => h) (sK (fun _ _ _ _ _ h => h) (sK (fun _ _ _ _ _ h => h) (sK (fun _ _ _ _ _ h => h) (sK (fun _ _ _ _ _ h => h) (sK (fun _ _ _ _ _ h => h) (sK (fun _ _ _ _ _ h => h) (sK (fun _ _ _ _ _ h => h) (sZ))))))))))))))))) PhiTm19.keepR PhiTm19.keepF (fun _ _ _ _ hR hS => Below.tr hS hR) (by rintro (_ | ⟨_, _ | ⟨_, _ | _⟩⟩) vs vs' w _ h <;> exact h) (fun _ => bD _) (fun vs => by simp only [fillR, Act.put, sA, sB, sC, Nat.zero_add, Nat.reduceAdd]; rfl) ?_ ?_
     ·refine sK ?_ (sK ?_ (sK ?_ (sK ?_ (sK ?_ (sK ?_ (sK ?_ (sK ?_ (sK ?_ (sK ?_ (sK ?_ (sK ?_ (sK ?_ (sK ?_ (sK ?_ (sK ?_ (sZ))))))))))))))))
      ·as_aux_lemma =>
       intro vs W hI hdep K hK; refine ⟨?_⟩; simp only [Act.put, sA, sB, sC, Nat.zero_add, Nat.reduceAdd] at hK ⊢; go_simp; with_reducible refine hK _ ?_
       exact rfl
      ·as_aux_lemma =>
       intro vs W hI hdep K hK; refine ⟨?_⟩; simp only [Act.put, sA, sB, sC, Nat.zero_add, Nat.reduceAdd] at hK ⊢; go_simp; with_reducible refine hK _ ?_
       exact rfl
      ·as_aux_lemma =>
       intro vs W hI hdep K hK; refine ⟨?_⟩; simp only [Act.put, sA, sB, sC, Nat.zero_add, Nat.reduceAdd] at hK ⊢; go_simp; with_reducible refine hK _ ?_
       exact rfl
      ·as_aux_lemma =>
       intro vs W hI hdep K hK; refine ⟨?_⟩; simp only [Act.put, sA, sB, sC, Nat.zero_add, Nat.reduceAdd] at hK ⊢; rw [if_pos (by rfl)]; refine wp_load_mid 31 (.tmp 16) (by rfl) gd (0) (by rfl) (cellsDG (byDG j)) _ (range_keep hI HDG.out) Tryz.underlying31 (by rfl) (infoDGt (d := byDG j)) ?_; simp only [Act.put, sA, sB, sC]; with_reducible refine hK _ ?_
       exact rfl
      ·as_aux_lemma =>
       intro vs W hS hu hdep K hK; have HU := Lib.hid hu; clear hu; have hS : Below w5.heap.size w5 W := hS; refine ⟨?_⟩; simp only [Act.put, sA, sB, sC, Nat.zero_add, Nat.reduceAdd] at hK ⊢; go_simp; with_reducible refine hK _ _ (bA _ _) ?_
       exact ⟨W.heap.size, rfl, own_mono (own_nil0 W 3 1) hS.size⟩
      ·as_aux_lemma =>
       intro vs W hS hu hdep K hK; have HU := Lib.hid hu; clear hu; refine ⟨?_⟩; simp only [Act.put, sA, sB, sC, Nat.zero_add, Nat.reduceAdd] at hK ⊢; go_simp; with_reducible refine hK _ _ (Below.refl _ _) ?_
       exact rfl
      ·as_aux_lemma =>
       intro vs W hS hu hdep K hK; have HU := Lib.hid hu; clear hu; have d0 := hdep ⟨4, .data⟩ (by simp) rfl; simp only [PhiTm19] at d0; refine @exE1 _ _ _ d0 ?_; clear d0; intro g0 d0; have e0 := d0.1; have n0 := d0.2; clear d0; have d1 := hdep ⟨5, .data⟩ (by simp) rfl; simp only [PhiTm19] at d1; have hS : Below w5.heap.size w5 W := hS; refine ⟨?_⟩; simp only [Act.put, sA, sB, sC, Nat.zero_add, Nat.reduceAdd, e0, d1] at hK ⊢; rw [if_pos (by rfl)]; refine wp_append_fresh (fun _ => True) (.tmp 97) (.tmp 98) _ rfl w5.heap.size 3 i0 (.int .i64 0) 1 8 Tryz.underlying22 hi0 hz0 hz1 hz2 rfl (by omega) g0 rfl n0 As ks cs (br.flatMap intC) rfl (by rw [ints_flat_len, ← HBK.out]) (hbr.1.below hS) ints_one (by simp only [maxLen]; omega) (by omega) hS.size (fun _ _ => trivial) (fun _ _ => trivial) (fun _ _ _ _ _ => trivial) ?_; intro v' w' h2 hb2 _; simp only [Act.put, sA, sB, sC]; obtain ⟨A, c, rfl⟩ := own_shp h2; with_reducible refine hK _ _ hb2 ?_
       exact ⟨A, c, rfl, h2⟩
      ·as_aux_lemma =>
       intro vs W hS hu hdep K hK; have HU := Lib.hid hu; clear hu; refine ⟨?_⟩; simp only [Act.put, sA, sB, sC, Nat.zero_add, Nat.reduceAdd] at hK ⊢; go_simp; with_reducible refine hK _ _ (Below.refl _ _) ?_
       exact rfl
      ·as_aux_lemma =>
       intro vs W hS hu hdep K hK; have HU := Lib.hid hu; clear hu; have d0 := hdep ⟨7, .data⟩ (by simp) rfl; simp only [PhiTm19] at d0; refine ⟨?_⟩; simp only [Act.put, sA, sB, sC, Nat.zero_add, Nat.reduceAdd, d0] at hK ⊢; go_simp; with_reducible refine hK _ _ (bA _ _) ?_
       exact ⟨_, rfl, Blk.new _ _ _⟩
      ·as_aux_lemma =>
       intro vs W hS hdep K hK; have d0 := hdep ⟨6, .data⟩ (by simp) rfl (by rfl); simp only [PhiTm19] at d0; have d1 := hdep ⟨8, .data⟩ (by simp) rfl (by rfl); simp only [PhiTm19] at d1; have hS : Below w5.heap.size w5 W := hS; refine @exE2 _ _ _ _ d0 ?_; clear d0; intro A c d0; have e0 := d0.1; have n0 := d0.2; clear d0; refine @exE1 _ _ _ d1 ?_; clear d1; intro g d1; have e1 := d1.1; have k1 := d1.2; clear d1; refine ⟨?_⟩; simp only [Act.put, sA, sB, sC, Nat.zero_add, Nat.reduceAdd, e0, e1] at hK ⊢; rw [if_pos (by rfl)]; refine wp_append_any W (.tmp 99) (.tmp 101) _ rfl w5.heap.size 3 i0 (.int .i64 0) 1 8 Tryz.underlying22 hi0 hz0 hz1 hz2 rfl (by omega) (.slice A ks c) ks (br.flatMap intC) rfl n0 (some ⟨g, 0, none⟩) 1 1 [.int .i64 more] rfl rfl (rd_blk k1) (by simp [Value.oneCell']) (by simp only [maxLen]; omega) (by omega) hS.size ?_; intro v' w' h2 hg h4; simp only [Act.put, sA, sB, sC]; have hrow : ∃ A' c', v' = .slice A' (ks + 1) c' ∧ RowS intC w' A' (ks + 1) (br ++ [more]) := own_rowS intC_len (by omega) (by omega) (by rw [List.flatMap_append]; simpa [intC] using h2); with_reducible refine hK _ _ ?_
       exact ⟨hrow, hS.grown hg hS.size (own_block_ge n0)⟩
      ·as_aux_lemma =>
       intro vs W hS hdep K hK; have d0 := hdep ⟨0, .data⟩ (by simp) rfl (by rfl); simp only [PhiTm19] at d0; have d1 := hdep ⟨1, .data⟩ (by simp) rfl (by rfl); simp only [PhiTm19] at d1; have d2 := hdep ⟨2, .data⟩ (by simp) rfl (by rfl); simp only [PhiTm19] at d2; have d3 := hdep ⟨3, .data⟩ (by simp) rfl (by rfl); simp only [PhiTm19] at d3; have hS : (∃ A c, vs 9 = .slice A (ks + 1) c ∧ RowS intC W A (ks + 1) (br ++ [more])) ∧ Below w5.heap.size w5 W := hS; refine @exE2 _ _ _ _ hS.1 ?_; intro A c h9; have e9 := h9.1; have hr9 := h9.2; have hbw5 := hS.2; clear hS h9; refine ⟨?_⟩; simp only [Act.put, sA, sB, sC, Nat.zero_add, Nat.reduceAdd, d0, d1, d2, d3, e9] at hK ⊢; go_simp; refine (stv_n Ap kp cp k ps (LfM bd) (fun _ => 0) dg t (byDG j) (byL j) (br ++ [more]) A (ks + 1) c W (HPL.out.below hbw5) hk rfl (byDG_ok j) hr9).mono ?_; rintro e w' ⟨rfl, hb⟩; exact hK _ _ ⟨by rw [HZ.out], Below.tr hbw5 hb⟩
      ·as_aux_lemma =>
       intro vs W hS hdep K hK; have hS : vs 10 = .tuple #[.int .i64 z, .int .i64 0] ∧ Below w5.heap.size w5 W := hS; have e0 := hS.1; refine ⟨?_⟩; simp only [Act.put, sA, sB, sC, Nat.zero_add, Nat.reduceAdd, e0] at hK ⊢; go_simp; with_reducible refine hK _ ?_
       exact rfl
      ·as_aux_lemma =>
       intro vs W hS hdep K hK; have d0 := hdep ⟨11, .data⟩ (by simp) rfl (by rfl); simp only [PhiTm19] at d0; refine ⟨?_⟩; simp only [Act.put, sA, sB, sC, Nat.zero_add, Nat.reduceAdd, d0] at hK ⊢; go_simp; with_reducible refine hK _ ?_
       exact rfl
      ·as_aux_lemma =>
       intro vs W hS hdep K hK; have d0 := hdep ⟨11, .data⟩ (by simp) rfl (by rfl); simp only [PhiTm19] at d0; refine ⟨?_⟩; simp only [Act.put, sA, sB, sC, Nat.zero_add, Nat.reduceAdd, d0] at hK ⊢; go_simp; with_reducible refine hK _ ?_
       exact rfl
      ·as_aux_lemma =>
       intro vs W hS hdep K hK; have d0 := hdep ⟨12, .data⟩ (by simp) rfl (by rfl); simp only [PhiTm19] at d0; refine ⟨?_⟩; simp only [Act.put, sA, sB, sC, Nat.zero_add, Nat.reduceAdd, d0] at hK ⊢; go_simp; with_reducible refine hK _ ?_
       exact rfl
      ·as_aux_lemma =>
       intro vs W hS hdep K hK; have d0 := hdep ⟨13, .data⟩ (by simp) rfl (by rfl); simp only [PhiTm19] at d0; refine ⟨?_⟩; simp only [Act.put, sA, sB, sC, Nat.zero_add, Nat.reduceAdd, d0] at hK ⊢; go_simp; with_reducible refine hK _ ?_
       exact rfl
     ·intro vs W9 hS hfr; have q14 := hfr 14 (by simp) rfl; have q15 := hfr 15 (by simp) rfl; simp only [PhiTm19] at q14 q15; have hb9 : Below w5.heap.size w5 W9 := (show _ ∧ _ from hS).2; simp only [q14, q15]; clear hfr q14 q15 hS HDG; have hbe := Below.tr hbe hb9; have hbe2 := Below.tr hbe2 hb9; have HPL := Lib.hid (HPL.out.below hb9); have hbr := hbr.below hb9; have BDG := Blk.below BDG hb9 BDG.lt; clear hb9; go_upto_region 20 with fail; have HNE : Hid (ed = false → x = y) := fun h => by rw [← HX.out, ← HYY.out]; exact stF_next (HED.out h) k
      have HMZ : Hid (x = 0 → more ≠ (k : Int) → z = 0) := fun h h2 => by rw [← HZ.out]; exact stF_more hkl (HX.out.trans h) h2
      obtain ⟨wx, hwx⟩ : ∃ q, q = W9 := ⟨_, rfl⟩; subst hwx
      go_cut [137] from 106 to 137 (fun u wq => u = .bool false ∧ wq = wx)
      case first => as_aux_lemma =>
       clear BDG HPL hbr HX HYY HZ hrc; by_cases hxy : ed = false
       ·obtain rfl := HNE.out hxy; have v1 : (x != x) = false := by simp
        subst hxy; by_cases hx0 : x = 0
        ·by_cases hmk : more = (k : Int)
         ·have v2 : (x == 0) = true := by simpa using hx0
          have v3 : (more != (k : Int)) = false := by simpa using hmk
          clear hx0 hmk; go_wp2_with fail
          go_meet
          case rel => exact ⟨rfl, rfl⟩
         ·have v2 : (x == 0) = true := by simpa using hx0
          have v3 : (more != (k : Int)) = true := by simpa using hmk
          have v4 : (z != 0) = false := by rw [HMZ.out hx0 hmk]; rfl
          clear hx0 hmk; go_wp2_with fail
          go_meet
          case rel => exact ⟨rfl, rfl⟩
        ·have v2 : (x == 0) = false := by simpa using hx0
         clear hx0; go_wp2_with fail
         go_meet
         case rel => exact ⟨rfl, rfl⟩
       ·obtain rfl : ed = true := by simpa using hxy
        clear hxy; by_cases hx0 : x = 0
        ·by_cases hmk : more = (k : Int)
         ·have v2 : (x == 0) = true := by simpa using hx0
          have v3 : (more != (k : Int)) = false := by simpa using hmk
          clear hx0 hmk; go_wp2_with fail
          go_meet
          case rel => exact ⟨rfl, rfl⟩
         ·have v2 : (x == 0) = true := by simpa using hx0
          have v3 : (more != (k : Int)) = true := by simpa using hmk
          have v4 : (z != 0) = false := by rw [HMZ.out hx0 hmk]; rfl
          clear hx0 hmk; go_wp2_with fail
          go_meet
          case rel => exact ⟨rfl, rfl⟩
        ·have v2 : (x == 0) = false := by simpa using hx0
         clear hx0; go_wp2_with fail
         go_meet
         case rel => exact ⟨rfl, rfl⟩
      obtain ⟨rfl, rfl⟩ := hcut; clear HNE HMZ HYY HZ; have HPk := HPL.out; go_wp2_with fail; refine (in34_n As ks cs br (k : Int) _ hbr).mono ?_; rintro e w6 ⟨rfl, hb6⟩; obtain ⟨cb, HCB⟩ : ∃ cb, Hid (br.contains (k : Int) = cb) := ⟨_, rfl⟩; rw [HCB.out]; have hbe := Below.tr hbe hb6; have hbe2 := Below.tr hbe2 hb6; have HPL := Lib.hid (HPL.out.below hb6); have BDG := Blk.below BDG hb6 BDG.lt; have hrc6 := hrc.below hbe; clear hb6 HPk hbr; go_wp2_with fail
      go_loopg [23, 24] kc (fun mm v y wr => ∃ q : Nat, y = .int .i64 q ∧ q + mm = kc ∧ v = .bool (!cb && apB L k q) ∧ wr = w6)
      case atStart => exact ⟨0, rfl, by omega, by simp [apB], rfl⟩
      case round =>
       obtain ⟨G3, hG3⟩ : ∃ G, G = gk := ⟨gk, rfl⟩; subst hG3; obtain ⟨q, rfl, hqm, rfl, rfl⟩ := hrel; by_cases hq : q < kc
       ·have v1 : decide ((q : Int) < (kc : Int)) = true := by simp; omega
        have lq : (q : Int) < (kc : Int) := by omega
        have hql : q < L.length := by have := HKC.out; omega
        obtain ⟨xy, HXY⟩ : ∃ p, Hid (L[q] = p ∧ L[q]? = some p) := ⟨_, rfl, List.getElem?_eq_getElem hql⟩; obtain ⟨b3, o3, hA3, HC3⟩ := hrc6.at_ pairC_len (by omega) hq hql; rw [HXY.out.1] at HC3; have f0 := HC3.out 0 _ rfl; have f1 := HC3.out 1 _ rfl; rw [Nat.add_zero] at f0; subst hA3; have HAS := Lib.hid (apB_succ (k := k) HXY.out.2)
        cases hap : (!cb && apB L k q) with
        | false =>
         have HA2 : Hid ((!cb && apB L k (q + 1)) = false) := by
          show _ = _
          rw [HAS.out, ← Bool.and_assoc, hap]; rfl
         clear hap; go_wp2_with fail
         go_roundg (G3 - 1)
         case measure => omega
         case rel => exact ⟨q + 1, by go_num, by omega, by rw [HA2.out], rfl⟩
        | true =>
         by_cases hx1 : (xy.1 : Int) = (k : Int)
         ·have v2 : ((xy.1 : Int) != (k : Int)) = false := by simpa using hx1
          have HA2 : Hid ((!cb && apB L k (q + 1)) = false) := by
           show _ = _
           have : xy.1 = k := by omega
           rw [HAS.out, this]; simp
          clear hap hx1; go_wp2_with fail
          go_roundg (G3 - 1)
          case measure => omega
          case rel => exact ⟨q + 1, by go_num, by omega, by rw [HA2.out], rfl⟩
         ·have v2 : ((xy.1 : Int) != (k : Int)) = true := by simpa using hx1
          obtain ⟨v, hv⟩ : ∃ v, ((xy.2 : Int) != (k : Int)) = v := ⟨_, rfl⟩
          have HA2 : Hid ((!cb && apB L k (q + 1)) = v) := by
           show _ = _
           have h1 : (xy.1 != k) = true := by simp; omega
           have h2 : (xy.2 != k) = v := by rw [← hv, Bool.eq_iff_iff]; simp; omega
           rw [HAS.out, ← Bool.and_assoc, hap, h1, h2]; simp
          clear hap hx1; go_wp2_with fail
          go_roundg (G3 - 1)
          case measure => omega
          case rel => exact ⟨q + 1, by go_num, by omega, by rw [HA2.out], rfl⟩
       ·have v1 : decide ((q : Int) < (kc : Int)) = false := by simp; omega
        have HAP : Hid ((!cb && apB L k q) = true → byL j = dg k → (x = 0 ↔ p.fr ≤ t ∧ t < p.un)) := by
         intro h hd; simp only [Bool.and_eq_true, Bool.not_eq_true'] at h; rw [← HX.out, hd]; refine stF_apart HP.out.2 (HCB.out.trans h.1) fun z hz => ?_
         have h2 := h.2; unfold apB at h2; rw [show q = L.length by have := HKC.out; omega, List.take_length, List.all_eq_true] at h2; rw [← HKL.out, ← HL.out] at hz; have h3 := h2 z hz
         simpa using h3
        generalize (!cb && apB L k q) = ap at HAP ⊢; obtain ⟨b, off, hAp, HCP⟩ := HPL.out.row.at_ cellsP_len (by omega) hk hkl; rw [HP.out.1] at HCP; have hdk := HPL.out.dk k p HP.out.2; subst hAp; have f6 := HCP.out 6 _ rfl; have f7 := HCP.out 7 _ rfl; have HDK := Lib.hid hdk; clear hdk hrc6 HX HCB HL; go_upto_region 27 with fail; obtain ⟨wx, hwx⟩ : ∃ q, q = wr := ⟨_, rfl⟩; subst hwx
        go_cut [197] from 167 to 197 (fun u wq => u = .bool false ∧ Below wx.heap.size wx wq)
        case first => as_aux_lemma =>
         clear HPL
         cases ap with
         | false =>
          clear HAP f6 f7 HCP BDG; refine wp_region_quiet_lit (by kernel_rfl) (by kernel_rfl) ?_
          repeat (go_big_quiet_step (fail))
          refine wpQuiet_nil ?_; intro _ hw'; obtain ⟨nq, hw''⟩ := hw'; subst hw''; go_wp2_with fail
          go_meet
          case rel => exact ⟨rfl, below_drewN _ _⟩
         | true =>
          by_cases hd : byL j = dg k
          ·have hdd : (byL j == dg k) = true := by simpa using hd
           have HEQ := Lib.hid (HAP.out rfl hd); clear hd HAP; by_cases g1 : p.fr ≤ t
           ·by_cases g2 : t < p.un
            ·have v1 : decide (t ≥ p.fr) = true := by simpa using g1
             have v2 : decide (t < p.un) = true := by simpa using g2
             have v3 : (x == 0) = true := by rw [HEQ.out.2 ⟨g1, g2⟩]; rfl
             clear g1 g2; refine wp_region_quiet_lit (by kernel_rfl) (by kernel_rfl) ?_
             repeat (go_big_quiet_step (fail))
             refine wpQuiet_step (fun K hK => ?_); rw [if_pos (by rfl)]; refine ⟨.agg (cellsDG (byDG j)).toArray, fun w hw => quiet_load_mid 31 (.tmp 16) rfl gd (0) rfl (cellsDG (byDG j)) _ ((blk_range BDG)) Tryz.underlying31 rfl (infoDGt (d := byDG j)) w hw, ?_⟩; simp only [Act.put, sA, sB, sC]; refine hK _ ?_; clear hK K
             repeat (go_big_quiet_step (fail))
             refine wpQuiet_step (fun K hK => ?_); rw [if_pos (by rfl)]; refine ⟨.agg (pdg p).toArray, fun w hw => quiet_load_mid 31 (.tmp 173) rfl b (off + k * 24 + 8) rfl (pdg p) _ (digRow HCP.out) Tryz.underlying31 rfl infoPd w hw, ?_⟩; simp only [Act.put, sA, sB, sC]; refine hK _ ?_; clear hK K
             repeat (go_big_quiet_step (fail))
             refine wpQuiet_step (fun K hK => ?_); rw [if_pos (by rfl)]; refine ⟨.bool (byL j == dg k), fun w _ => quiet_eqlD _ _ w (.tmp 169) (.tmp 174) (cellsDG (byDG j)) (pdg p) (byL j) (dg k) (byDG_ok j) HDK.out rfl rfl _ rfl, ?_⟩; rw [hdd]; simp only [Act.put, sA, sB, sC]; refine hK _ ?_; clear hK K
             repeat (go_big_quiet_step (fail))
             refine wpQuiet_nil ?_; intro _ hw'; obtain ⟨nq, hw''⟩ := hw'; subst hw''; go_wp2_with fail
             go_meet
             case rel => exact ⟨rfl, below_drewN _ _⟩
            ·have v1 : decide (t ≥ p.fr) = true := by simpa using g1
             have v2 : decide (t < p.un) = false := by simpa using g2
             have v3 : (x == 0) = false := by
              cases h : (x == 0) with
              | false => rfl
              | true => exact absurd (HEQ.out.1 (by simpa using h)).2 g2
             clear g1 g2; refine wp_region_quiet_lit (by kernel_rfl) (by kernel_rfl) ?_
             repeat (go_big_quiet_step (fail))
             refine wpQuiet_step (fun K hK => ?_); rw [if_pos (by rfl)]; refine ⟨.agg (cellsDG (byDG j)).toArray, fun w hw => quiet_load_mid 31 (.tmp 16) rfl gd (0) rfl (cellsDG (byDG j)) _ ((blk_range BDG)) Tryz.underlying31 rfl (infoDGt (d := byDG j)) w hw, ?_⟩; simp only [Act.put, sA, sB, sC]; refine hK _ ?_; clear hK K
             repeat (go_big_quiet_step (fail))
             refine wpQuiet_step (fun K hK => ?_); rw [if_pos (by rfl)]; refine ⟨.agg (pdg p).toArray, fun w hw => quiet_load_mid 31 (.tmp 173) rfl b (off + k * 24 + 8) rfl (pdg p) _ (digRow HCP.out) Tryz.underlying31 rfl infoPd w hw, ?_⟩; simp only [Act.put, sA, sB, sC]; refine hK _ ?_; clear hK K
             repeat (go_big_quiet_step (fail))
             refine wpQuiet_step (fun K hK => ?_); rw [if_pos (by rfl)]; refine ⟨.bool (byL j == dg k), fun w _ => quiet_eqlD _ _ w (.tmp 169) (.tmp 174) (cellsDG (byDG j)) (pdg p) (byL j) (dg k) (byDG_ok j) HDK.out rfl rfl _ rfl, ?_⟩; rw [hdd]; simp only [Act.put, sA, sB, sC]; refine hK _ ?_; clear hK K
             repeat (go_big_quiet_step (fail))
             refine wpQuiet_nil ?_; intro _ hw'; obtain ⟨nq, hw''⟩ := hw'; subst hw''; go_wp2_with fail
             go_meet
             case rel => exact ⟨rfl, below_drewN _ _⟩
           ·have v1 : decide (t ≥ p.fr) = false := by simpa using g1
            have v3 : (x == 0) = false := by
             cases h : (x == 0) with
             | false => rfl
             | true => exact absurd (HEQ.out.1 (by simpa using h)).1 g1
            clear g1; refine wp_region_quiet_lit (by kernel_rfl) (by kernel_rfl) ?_
            repeat (go_big_quiet_step (fail))
            refine wpQuiet_step (fun K hK => ?_); rw [if_pos (by rfl)]; refine ⟨.agg (cellsDG (byDG j)).toArray, fun w hw => quiet_load_mid 31 (.tmp 16) rfl gd (0) rfl (cellsDG (byDG j)) _ ((blk_range BDG)) Tryz.underlying31 rfl (infoDGt (d := byDG j)) w hw, ?_⟩; simp only [Act.put, sA, sB, sC]; refine hK _ ?_; clear hK K
            repeat (go_big_quiet_step (fail))
            refine wpQuiet_step (fun K hK => ?_); rw [if_pos (by rfl)]; refine ⟨.agg (pdg p).toArray, fun w hw => quiet_load_mid 31 (.tmp 173) rfl b (off + k * 24 + 8) rfl (pdg p) _ (digRow HCP.out) Tryz.underlying31 rfl infoPd w hw, ?_⟩; simp only [Act.put, sA, sB, sC]; refine hK _ ?_; clear hK K
            repeat (go_big_quiet_step (fail))
            refine wpQuiet_step (fun K hK => ?_); rw [if_pos (by rfl)]; refine ⟨.bool (byL j == dg k), fun w _ => quiet_eqlD _ _ w (.tmp 169) (.tmp 174) (cellsDG (byDG j)) (pdg p) (byL j) (dg k) (byDG_ok j) HDK.out rfl rfl _ rfl, ?_⟩; rw [hdd]; simp only [Act.put, sA, sB, sC]; refine hK _ ?_; clear hK K
            repeat (go_big_quiet_step (fail))
            refine wpQuiet_nil ?_; intro _ hw'; obtain ⟨nq, hw''⟩ := hw'; subst hw''; go_wp2_with fail
            go_meet
            case rel => exact ⟨rfl, below_drewN _ _⟩
          ·have hdd : (byL j == dg k) = false := by simpa using hd
           clear hd HAP; refine wp_region_quiet_lit (by kernel_rfl) (by kernel_rfl) ?_
           repeat (go_big_quiet_step (fail))
           refine wpQuiet_step (fun K hK => ?_); rw [if_pos (by rfl)]; refine ⟨.agg (cellsDG (byDG j)).toArray, fun w hw => quiet_load_mid 31 (.tmp 16) rfl gd (0) rfl (cellsDG (byDG j)) _ ((blk_range BDG)) Tryz.underlying31 rfl (infoDGt (d := byDG j)) w hw, ?_⟩; simp only [Act.put, sA, sB, sC]; refine hK _ ?_; clear hK K
           repeat (go_big_quiet_step (fail))
           refine wpQuiet_step (fun K hK => ?_); rw [if_pos (by rfl)]; refine ⟨.agg (pdg p).toArray, fun w hw => quiet_load_mid 31 (.tmp 173) rfl b (off + k * 24 + 8) rfl (pdg p) _ (digRow HCP.out) Tryz.underlying31 rfl infoPd w hw, ?_⟩; simp only [Act.put, sA, sB, sC]; refine hK _ ?_; clear hK K
           repeat (go_big_quiet_step (fail))
           refine wpQuiet_step (fun K hK => ?_); rw [if_pos (by rfl)]; refine ⟨.bool (byL j == dg k), fun w _ => quiet_eqlD _ _ w (.tmp 169) (.tmp 174) (cellsDG (byDG j)) (pdg p) (byL j) (dg k) (byDG_ok j) HDK.out rfl rfl _ rfl, ?_⟩; rw [hdd]; simp only [Act.put, sA, sB, sC]; refine hK _ ?_; clear hK K
           repeat (go_big_quiet_step (fail))
           refine wpQuiet_nil ?_; intro _ hw'; obtain ⟨nq, hw''⟩ := hw'; subst hw''; go_wp2_with fail
           go_meet
           case rel => exact ⟨rfl, below_drewN _ _⟩
        obtain ⟨rfl, hb7⟩ := hcut; have hbe := Below.tr hbe hb7; have hbe2 := Below.tr hbe2 hb7; clear hb7 HAP f6 f7 HCP BDG HPL HDK; go_wp2_with fail
        go_roundg (G2 - 1)
        case measure => omega
        case rel => exact ⟨j + 1, by go_num, by omega, hbe2⟩
end Go.Proofs.YtijkfagkbfbpmaaGreatDoor
