import Derived.Test.YtijkfagkbfbpmaaGreatDoorKVdProof22
import Derived.Test.YtijkfagkbfbpmaaGreatDoorKVdProof18
import Derived.ProofKit
import Derived.OpenShut
import Derived.Test.YtijkfagkbfbpmaaGreatDoorS0
set_option linter.unusedVariables false
set_option linter.unusedSimpArgs false
namespace Go.Proofs.YtijkfagkbfbpmaaGreatDoor
open Go Go.RowKit Go.ChangeShapes Go.WideShapes Go.ChangeAt
theorem okWide_arr {P : Program} {w : World} {r : Reach} {base : Nat} {t e : TypeId} {n : Nat} {v : Value} (ht : P.underlying t = some (.array n e)) (h : Value.okWide P w r base t v) : ∃ cs, v = .agg cs := by
 unfold Value.okWide at h; rw [ht] at h; obtain ⟨cs, e, _⟩ := h; exact ⟨cs, e⟩
theorem at_oneT {cs : List Value} {k : Nat} {v : Value} (h : (cs.drop k).take 1 = [v]) : cs[k]? = some v := by
 have h2 : ((cs.drop k).take 1)[0]? = some v := by rw [h]; rfl
 rw [List.getElem?_take_of_lt (by omega), List.getElem?_drop] at h2
 simpa using h2
theorem wf_by {x : Int} (h : (Lit.int .u8 x).wf = true) : BY x := by
 have := bounds_u8 h; unfold BY; omega
theorem wf_i64 {x : Int} (h : (Lit.int .i64 x).wf = true) : I64 x := by
 have := bounds_i64 h; unfold I64; omega
theorem raw_dig {H : Type} {enc : TypeId × Value → H} {w : World} {base : Nat} {sp : Nat → Bool} {held : Bool} {fuel : Nat} {cs : Array Value} {x : DataW H × List MemPlace} (h : DataW.trod enc Tryz.prog w base sp held fuel 31 cs.toList = some x) : ∃ (d : DG) (dm : List Int), cs = (cellsDG d).toArray ∧ DgOk (cellsDG d) dm ∧ ∀ x ∈ dm, BY x := by
 have e5 : Tryz.prog.cellsOf 5 = 1 := by kernel_rfl
 obtain ⟨us, m2, _, _, hlen, hu, huel⟩ := DataW.trod_array Tryz.underlying31 h; have h16 : cs.toList.length = 16 := by rw [hlen]; kernel_rfl
 have hd : ∀ i, i < 16 → ∃ d : Int, cs.toList[i]? = some (.int .u8 d) ∧ BY d := by
  intro i hi; have hu2 := huel i hi; rw [List.getElem?_eq_getElem (show i < us.length by omega), e5, Nat.mul_one] at hu2; obtain ⟨d, q, _, hw⟩ := DataW.trod_int Tryz.underlying5 hu2; exact ⟨d, at_oneT q, wf_by hw⟩
 obtain ⟨d0, q0, b0⟩ := hd 0 (by omega); obtain ⟨d1, q1, b1⟩ := hd 1 (by omega); obtain ⟨d2, q2, b2⟩ := hd 2 (by omega); obtain ⟨d3, q3, b3⟩ := hd 3 (by omega); obtain ⟨d4, q4, b4⟩ := hd 4 (by omega); obtain ⟨d5, q5, b5⟩ := hd 5 (by omega); obtain ⟨d6, q6, b6⟩ := hd 6 (by omega); obtain ⟨d7, q7, b7⟩ := hd 7 (by omega); obtain ⟨d8, q8, b8⟩ := hd 8 (by omega); obtain ⟨d9, q9, b9⟩ := hd 9 (by omega); obtain ⟨d10, q10, b10⟩ := hd 10 (by omega); obtain ⟨d11, q11, b11⟩ := hd 11 (by omega); obtain ⟨d12, q12, b12⟩ := hd 12 (by omega); obtain ⟨d13, q13, b13⟩ := hd 13 (by omega); obtain ⟨d14, q14, b14⟩ := hd 14 (by omega); obtain ⟨d15, q15, b15⟩ := hd 15 (by omega); refine ⟨⟨.int .u8 d0, .int .u8 d1, .int .u8 d2, .int .u8 d3, .int .u8 d4, .int .u8 d5, .int .u8 d6, .int .u8 d7, .int .u8 d8, .int .u8 d9, .int .u8 d10, .int .u8 d11, .int .u8 d12, .int .u8 d13, .int .u8 d14, .int .u8 d15⟩, [d0, d1, d2, d3, d4, d5, d6, d7, d8, d9, d10, d11, d12, d13, d14, d15], ?_, ⟨rfl, rfl⟩, fun x hx => ?_⟩
 ·apply Array.toList_inj.1
  apply List.ext_getElem?
  intro i
  rcases Nat.lt_or_ge i 16 with hi | hi
  ·have hc : i = 0 ∨ i = 1 ∨ i = 2 ∨ i = 3 ∨ i = 4 ∨ i = 5 ∨ i = 6 ∨ i = 7 ∨ i = 8 ∨ i = 9 ∨ i = 10 ∨ i = 11 ∨ i = 12 ∨ i = 13 ∨ i = 14 ∨ i = 15 := by omega
   rcases hc with rfl | rfl | rfl | rfl | rfl | rfl | rfl | rfl | rfl | rfl | rfl | rfl | rfl | rfl | rfl | rfl
   ·exact q0
   ·exact q1
   ·exact q2
   ·exact q3
   ·exact q4
   ·exact q5
   ·exact q6
   ·exact q7
   ·exact q8
   ·exact q9
   ·exact q10
   ·exact q11
   ·exact q12
   ·exact q13
   ·exact q14
   ·exact q15
  ·rw [List.getElem?_eq_none (by omega), List.getElem?_eq_none (by simp [cellsDG]; omega)]
 ·simp only [List.mem_cons, List.not_mem_nil, or_false] at hx
  rcases hx with rfl | rfl | rfl | rfl | rfl | rfl | rfl | rfl | rfl | rfl | rfl | rfl | rfl | rfl | rfl | rfl <;> assumption
theorem raw_env {H : Type} {enc : TypeId × Value → H} {w : World} {base : Nat} {sp : Nat → Bool} {held : Bool} {fuel : Nat} {cs : Array Value} {x : DataW H × List MemPlace} (h : DataW.trod enc Tryz.prog w base sp held fuel 56 cs.toList = some x) : ∃ n1 n2 n3 : Int, cs = (cellsE n1 n2 n3).toArray ∧ I64 n1 ∧ I64 n2 ∧ I64 n3 := by
 have e1 : Tryz.prog.cellsOf 3 = 1 := by kernel_rfl
 obtain ⟨zs, m, rfl, _, hlen, hz, hzel⟩ := DataW.trod_struct Tryz.underlying56 h; have h3 : cs.toList.length = 3 := by rw [hlen]; kernel_rfl
 have hz3 : zs.length = 3 := by rw [hz]; rfl
 have hg3 : ∀ i (hi : i < 3), ∃ y, zs[i]? = some y := fun i hi => ⟨_, List.getElem?_eq_getElem (by omega)⟩
 obtain ⟨z0, k0⟩ := hg3 0 (by omega); obtain ⟨z1, k1⟩ := hg3 1 (by omega); obtain ⟨z2, k2⟩ := hg3 2 (by omega); have p0 : DataW.trod enc Tryz.prog w base sp held m 3 ((cs.toList.drop 0).take (Tryz.prog.cellsOf 3)) = zs[0]? := hzel 0 _ rfl; have p1 : DataW.trod enc Tryz.prog w base sp held m 3 ((cs.toList.drop 1).take (Tryz.prog.cellsOf 3)) = zs[1]? := hzel 1 _ rfl; have p2 : DataW.trod enc Tryz.prog w base sp held m 3 ((cs.toList.drop 2).take (Tryz.prog.cellsOf 3)) = zs[2]? := hzel 2 _ rfl; rw [k0, e1] at p0; rw [k1, e1] at p1; rw [k2, e1] at p2; obtain ⟨a0, b0, _, w0⟩ := DataW.trod_int Tryz.underlying3 p0; obtain ⟨a1, b1, _, w1⟩ := DataW.trod_int Tryz.underlying3 p1; obtain ⟨a2, b2, _, w2⟩ := DataW.trod_int Tryz.underlying3 p2; refine ⟨a0, a1, a2, ?_, wf_i64 w0, wf_i64 w1, wf_i64 w2⟩
 apply Array.toList_inj.1
 apply List.ext_getElem?
 intro i
 rcases Nat.lt_or_ge i 3 with hi | hi
 ·have hc : i = 0 ∨ i = 1 ∨ i = 2 := by omega
  rcases hc with rfl | rfl | rfl
  ·exact at_oneT b0
  ·exact at_oneT b1
  ·exact at_oneT b2
 ·rw [List.getElem?_eq_none (by omega), List.getElem?_eq_none (by simp [cellsE]; omega)]
end Go.Proofs.YtijkfagkbfbpmaaGreatDoor
