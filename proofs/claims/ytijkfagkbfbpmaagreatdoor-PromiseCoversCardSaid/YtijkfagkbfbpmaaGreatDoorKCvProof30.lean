import Derived.Test.YtijkfagkbfbpmaaGreatDoorKCvProof22
import Derived.Test.YtijkfagkbfbpmaaGreatDoorKCvProof18
import Derived.ProofKit
import Derived.OpenShut
import Derived.Test.YtijkfagkbfbpmaaGreatDoorS0
set_option linter.unusedVariables false
set_option linter.unusedSimpArgs false
namespace Go.Proofs.YtijkfagkbfbpmaaGreatDoor
open Go Go.RowKit Go.ChangeShapes Go.WideShapes Go.ChangeAt
end Go.Proofs.YtijkfagkbfbpmaaGreatDoor
namespace Go.Proofs.YtijkfagkbfbpmaaGreatDoor
open Go Go.RowKit Go.ChangeShapes Go.WideShapes Go.ChangeAt
theorem at_oneR {cs : List Value} {k : Nat} {v : Value} (h : (cs.drop k).take 1 = [v]) : cs[k]? = some v := by
 have h2 : ((cs.drop k).take 1)[0]? = some v := by rw [h]; rfl
 rw [List.getElem?_take_of_lt (by omega), List.getElem?_drop] at h2
 simpa using h2
theorem at_twoR {cs : List Value} {k m j : Nat} {v : Value} (hj : j < m) (h : (((cs.drop k).take m).drop j).take 1 = [v]) : cs[k + j]? = some v := by
 have h2 := at_oneR h
 rwa [List.getElem?_take_of_lt hj, List.getElem?_drop] at h2
/-- the cells of what reads as a result -/
theorem trod_res {H : Type} {enc : TypeId × Value → H} {w : World} {base : Nat} {sp : Nat → Bool} {held : Bool} {fuel : Nat} {cs : List Value} {x : DataW H × List MemPlace} (h : DataW.trod enc Tryz.prog w base sp held fuel 46 cs = some x) : ∃ r, RcTy r ∧ cs = cellsR r := by
 obtain ⟨xs, n, rfl, _, hlen, hxl, hel⟩ := DataW.trod_struct Tryz.underlying46 h; have h22 : cs.length = 22 := by rw [hlen]; kernel_rfl
 have hx5 : xs.length = 5 := by rw [hxl]; rfl
 have hg : ∀ i (hi : i < 5), ∃ y, xs[i]? = some y := fun i hi => ⟨_, List.getElem?_eq_getElem (by omega)⟩
 have e1 : Tryz.prog.cellsOf 3 = 1 := by kernel_rfl
 have e2 : Tryz.prog.cellsOf 9 = 1 := by kernel_rfl
 have e3 : Tryz.prog.cellsOf 44 = 3 := by kernel_rfl
 have e4 : Tryz.prog.cellsOf 31 = 16 := by kernel_rfl
 have e5 : Tryz.prog.cellsOf 5 = 1 := by kernel_rfl
 obtain ⟨y0, g0⟩ := hg 0 (by omega); obtain ⟨y1, g1⟩ := hg 1 (by omega); obtain ⟨y2, g2⟩ := hg 2 (by omega); obtain ⟨y3, g3⟩ := hg 3 (by omega); obtain ⟨y4, g4⟩ := hg 4 (by omega); have f0 : DataW.trod enc Tryz.prog w base sp held n 3 ((cs.drop 0).take (Tryz.prog.cellsOf 3)) = xs[0]? := hel 0 _ rfl; have f1 : DataW.trod enc Tryz.prog w base sp held n 9 ((cs.drop 1).take (Tryz.prog.cellsOf 9)) = xs[1]? := hel 1 _ rfl; have f2 : DataW.trod enc Tryz.prog w base sp held n 3 ((cs.drop 2).take (Tryz.prog.cellsOf 3)) = xs[2]? := hel 2 _ rfl; have f3 : DataW.trod enc Tryz.prog w base sp held n 44 ((cs.drop 3).take (Tryz.prog.cellsOf 44)) = xs[3]? := hel 3 _ rfl; have f4 : DataW.trod enc Tryz.prog w base sp held n 31 ((cs.drop 6).take (Tryz.prog.cellsOf 31)) = xs[4]? := hel 4 _ rfl; rw [g0, e1] at f0; rw [g1, e2] at f1; rw [g2, e1] at f2; rw [g3, e3] at f3; rw [g4, e4] at f4; obtain ⟨oc, c0, _, _⟩ := DataW.trod_int Tryz.underlying3 f0; obtain ⟨pl, c1, _, _⟩ := DataW.trod_string Tryz.underlying9 f1; obtain ⟨st, c2, _, _⟩ := DataW.trod_int Tryz.underlying3 f2; obtain ⟨zs, m, rfl, _, _, hz, hzel⟩ := DataW.trod_struct Tryz.underlying44 f3; have hz3 : zs.length = 3 := by rw [hz]; rfl
 have hg3 : ∀ i (hi : i < 3), ∃ y, zs[i]? = some y := fun i hi => ⟨_, List.getElem?_eq_getElem (by omega)⟩
 obtain ⟨z0, k0⟩ := hg3 0 (by omega); obtain ⟨z1, k1⟩ := hg3 1 (by omega); obtain ⟨z2, k2⟩ := hg3 2 (by omega); have p0 : DataW.trod enc Tryz.prog w base sp held m 3 ((((cs.drop 3).take 3).drop 0).take (Tryz.prog.cellsOf 3)) = zs[0]? := hzel 0 _ rfl; have p1 : DataW.trod enc Tryz.prog w base sp held m 3 ((((cs.drop 3).take 3).drop 1).take (Tryz.prog.cellsOf 3)) = zs[1]? := hzel 1 _ rfl; have p2 : DataW.trod enc Tryz.prog w base sp held m 3 ((((cs.drop 3).take 3).drop 2).take (Tryz.prog.cellsOf 3)) = zs[2]? := hzel 2 _ rfl; rw [k0, e1] at p0; rw [k1, e1] at p1; rw [k2, e1] at p2; obtain ⟨a0, b0, _, _⟩ := DataW.trod_int Tryz.underlying3 p0; obtain ⟨a1, b1, _, _⟩ := DataW.trod_int Tryz.underlying3 p1; obtain ⟨a2, b2, _, _⟩ := DataW.trod_int Tryz.underlying3 p2; obtain ⟨us, m2, _, _, _, hu, huel⟩ := DataW.trod_array Tryz.underlying31 f4
 have hd : ∀ i, i < 16 → ∃ d : Int, cs[6 + i]? = some (.int .u8 d) := by
  intro i hi; have hu2 := huel i hi; rw [List.getElem?_eq_getElem (show i < us.length by omega), e5, Nat.mul_one] at hu2; obtain ⟨d, q, _, _⟩ := DataW.trod_int Tryz.underlying5 hu2; exact ⟨d, at_twoR hi q⟩
 obtain ⟨d0, q0⟩ := hd 0 (by omega); obtain ⟨d1, q1⟩ := hd 1 (by omega); obtain ⟨d2, q2⟩ := hd 2 (by omega); obtain ⟨d3, q3⟩ := hd 3 (by omega); obtain ⟨d4, q4⟩ := hd 4 (by omega); obtain ⟨d5, q5⟩ := hd 5 (by omega); obtain ⟨d6, q6⟩ := hd 6 (by omega); obtain ⟨d7, q7⟩ := hd 7 (by omega); obtain ⟨d8, q8⟩ := hd 8 (by omega); obtain ⟨d9, q9⟩ := hd 9 (by omega); obtain ⟨d10, q10⟩ := hd 10 (by omega); obtain ⟨d11, q11⟩ := hd 11 (by omega); obtain ⟨d12, q12⟩ := hd 12 (by omega); obtain ⟨d13, q13⟩ := hd 13 (by omega); obtain ⟨d14, q14⟩ := hd 14 (by omega); obtain ⟨d15, q15⟩ := hd 15 (by omega); have r0 := at_oneR c0; have r1 := at_oneR c1; have r2 := at_oneR c2; have r3 := at_twoR (by omega) b0; have r4 := at_twoR (by omega) b1; have r5 := at_twoR (by omega) b2; refine ⟨⟨oc, pl, st, .int .i64 a0, .int .i64 a1, .int .i64 a2, .int .u8 d0, .int .u8 d1, .int .u8 d2, .int .u8 d3, .int .u8 d4, .int .u8 d5, .int .u8 d6, .int .u8 d7, .int .u8 d8, .int .u8 d9, .int .u8 d10, .int .u8 d11, .int .u8 d12, .int .u8 d13, .int .u8 d14, .int .u8 d15⟩, ⟨a0, a1, a2, d0, d1, d2, d3, d4, d5, d6, d7, d8, d9, d10, d11, d12, d13, d14, d15, rfl⟩, ?_⟩
 apply List.ext_getElem?
 intro i
 rcases Nat.lt_or_ge i 22 with hi | hi
 ·have hc : i = 0 ∨ i = 1 ∨ i = 2 ∨ i = 3 ∨ i = 4 ∨ i = 5 ∨ i = 6 ∨ i = 7 ∨ i = 8 ∨ i = 9 ∨ i = 10 ∨ i = 11 ∨ i = 12 ∨ i = 13 ∨ i = 14 ∨ i = 15 ∨ i = 16 ∨ i = 17 ∨ i = 18 ∨ i = 19 ∨ i = 20 ∨ i = 21 := by omega
  rcases hc with rfl | rfl | rfl | rfl | rfl | rfl | rfl | rfl | rfl | rfl | rfl | rfl | rfl | rfl | rfl | rfl | rfl | rfl | rfl | rfl | rfl | rfl
  ·exact r0
  ·exact r1
  ·exact r2
  ·exact r3
  ·exact r4
  ·exact r5
  ·exact q0
  ·exact q1
  ·exact q2
  ·exact q3
  ·exact q4
  ·exact q5
  ·exact q6
  ·exact q7
  ·exact q8
  ·exact q9
  ·exact q10
  ·exact q11
  ·exact q12
  ·exact q13
  ·exact q14
  ·exact q15
 ·rw [List.getElem?_eq_none (by omega), List.getElem?_eq_none (by rw [cellsR_len]; omega)]
theorem raw_rs {H : Type} {enc : TypeId × Value → H} {w : World} {base : Nat} {sp : Nat → Bool} {held : Bool} {fuel : Nat} {cs : Array Value} {x : DataW H × List MemPlace} (h : DataW.trod enc Tryz.prog w base sp held fuel 46 cs.toList = some x) : ∃ r : RC0, RcTy r ∧ cs = (cellsR r).toArray := by
 obtain ⟨r, h1, h2⟩ := trod_res h; exact ⟨r, h1, Array.toList_inj.1 (by rw [h2])⟩
end Go.Proofs.YtijkfagkbfbpmaaGreatDoor
