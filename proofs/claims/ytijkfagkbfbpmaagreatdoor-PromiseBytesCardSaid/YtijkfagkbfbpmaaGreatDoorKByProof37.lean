import Derived.Test.YtijkfagkbfbpmaaGreatDoorKByProof36
import Derived.Test.YtijkfagkbfbpmaaGreatDoorKByProof32
import Derived.Test.YtijkfagkbfbpmaaGreatDoorKByProof22
import Derived.Test.YtijkfagkbfbpmaaGreatDoorKByProof12
import Derived.Test.YtijkfagkbfbpmaaGreatDoorS0
set_option linter.unusedVariables false
set_option linter.unusedSimpArgs false
namespace Go.Proofs.YtijkfagkbfbpmaaGreatDoor
open Go Go.RowKit Go.Maps Go.WideMaps
theorem str_ne {a b : ByteArray} (h : a ≠ b) : ¬ a.toList = b.toList := fun e => h (by simpa [ByteArray.toList_eq, ByteArray.ext_iff] using e)
end Go.Proofs.YtijkfagkbfbpmaaGreatDoor
namespace Go.Proofs.YtijkfagkbfbpmaaGreatDoor
open Go Go.RowKit
theorem alloc_szS (w : World) (o : Obj) : w.heap.size + 1 = (w.alloc o).heap.size := by show _ = (w.heap.push o).size; rw [Array.size_push]
theorem heap_alloc_newS {g : Nat} (w : World) (T : TypeId) (arr : Array Value) (h : g = w.heap.size) : Blk (w.alloc (.cells arr T)) g T arr := h ▸ Blk.new w T arr
/-- what Same says -/
def sameP (p q : PC) (dp dq : List Int) (L1 L2 M1 M2 : List Nat) : Bool := decide (p.team = q.team ∧ p.test = q.test ∧ p.wh = q.wh ∧ p.site = q.site ∧ p.fr = q.fr ∧ p.un = q.un ∧ dp = dq) && sameR L1 L2 M1 M2
set_option maxRecDepth 100000 in
set_option maxHeartbeats 8000000 in
theorem rsame34_n (p q : PC) (dp dq : List Int) (L1 L2 M1 M2 : List Nat) (w : World) (hdp : DgOk (pdg p) dp) (hdq : DgOk (pdg q) dq) (hrp : RtL w (.agg #[p.b1, p.b2]) L1 L2) (hrq : RtL w (.agg #[q.b1, q.b2]) M1 M2) :
  Calls Tryz.prog 46 #[.agg (cellsP p).toArray, .agg (cellsP q).toArray] w fun e w' => e = .returned (.bool (sameP p q dp dq L1 L2 M1 M2)) ∧ Below w.heap.size w w' := by
 go_enter Tryz.func46, Tryz.ntmps46
 go_upto_region 1 with fail; refine wp_name ?_; intro w2 HW; have hbz : Below w.heap.size w w2 := by rw [HW.out]; exact Below.tr (bA _ _) (bA _ _)
 have BA : Blk w2 w.heap.size 33 (cellsP p).toArray := by rw [HW.out]; exact (Blk.new _ _ _).alloc _
 have BB : Blk w2 (w.heap.size + 1) 33 (cellsP q).toArray := by rw [HW.out]; exact heap_alloc_newS _ _ _ (alloc_szS _ _)
 clear HW; have hrp := hrp.below hbz; have hrq := hrq.below hbz; have a0 : w2.cell? ⟨w.heap.size, 0, none⟩ = some (.int .i64 p.team) := by rw [BA.cell]; rfl
 have a1 : w2.cell? ⟨w.heap.size, 1, none⟩ = some (.string p.test) := by rw [BA.cell]; rfl
 have a2 : w2.cell? ⟨w.heap.size, 2, none⟩ = some (.string p.wh) := by rw [BA.cell]; rfl
 have a3 : w2.cell? ⟨w.heap.size, 3, none⟩ = some (.int .i64 p.site) := by rw [BA.cell]; rfl
 have a4 : w2.cell? ⟨w.heap.size, 4, none⟩ = some (p.b1) := by rw [BA.cell]; rfl
 have a5 : w2.cell? ⟨w.heap.size, 5, none⟩ = some (p.b2) := by rw [BA.cell]; rfl
 have a6 : w2.cell? ⟨w.heap.size, 6, none⟩ = some (.int .i64 p.fr) := by rw [BA.cell]; rfl
 have a7 : w2.cell? ⟨w.heap.size, 7, none⟩ = some (.int .i64 p.un) := by rw [BA.cell]; rfl
 have b0 : w2.cell? ⟨w.heap.size + 1, 0, none⟩ = some (.int .i64 q.team) := by rw [BB.cell]; rfl
 have b1 : w2.cell? ⟨w.heap.size + 1, 1, none⟩ = some (.string q.test) := by rw [BB.cell]; rfl
 have b2 : w2.cell? ⟨w.heap.size + 1, 2, none⟩ = some (.string q.wh) := by rw [BB.cell]; rfl
 have b3 : w2.cell? ⟨w.heap.size + 1, 3, none⟩ = some (.int .i64 q.site) := by rw [BB.cell]; rfl
 have b4 : w2.cell? ⟨w.heap.size + 1, 4, none⟩ = some (q.b1) := by rw [BB.cell]; rfl
 have b5 : w2.cell? ⟨w.heap.size + 1, 5, none⟩ = some (q.b2) := by rw [BB.cell]; rfl
 have b6 : w2.cell? ⟨w.heap.size + 1, 6, none⟩ = some (.int .i64 q.fr) := by rw [BB.cell]; rfl
 have b7 : w2.cell? ⟨w.heap.size + 1, 7, none⟩ = some (.int .i64 q.un) := by rw [BB.cell]; rfl
 obtain ⟨bd, HBD⟩ : ∃ bd, Hid (bd = (dp == dq)) := ⟨_, rfl⟩
 have hneq : ∀ w, (binOp .eql 31 (.agg (pdg p).toArray) (.agg (pdg q).toArray)).run Tryz.prog w = .ok (.bool bd) w := fun w => by
  rw [hdp.1, hdq.1, dig_eql w dp dq hdp.2 hdq.2, HBD.out]
 by_cases h0 : p.team = q.team
 rotate_left
 ·have N0 : Hid (sameP p q dp dq L1 L2 M1 M2 = false) := by show _ = _; unfold sameP; simp [h0]
  have m0b : (p.team == q.team) = false := by simpa using h0
  have m0c : (p.team != q.team) = true := by simpa using h0
  go_wp2_with (first | (refine wpList_load_midG (by rfl) 31 (.tmp 44) rfl w.heap.size 8 rfl (pdg p) _ (digR BA) Tryz.underlying31 rfl infoPd ?_; simp only [Act.put, sA, sB, sC]) | (refine wpList_load_midG (by rfl) 31 (.tmp 46) rfl (w.heap.size + 1) 8 rfl (pdg q) _ (digR BB) Tryz.underlying31 rfl infoPd ?_; simp only [Act.put, sA, sB, sC]))
  go_ret; exact ⟨congrArg (fun b => Ending.returned (Value.bool b)) N0.out.symm, hbz⟩
 by_cases h1 : p.test = q.test
 rotate_left
 ·have N1 : Hid (sameP p q dp dq L1 L2 M1 M2 = false) := by show _ = _; unfold sameP; simp [h1]
  have m1 := str_ne h1; have m1b : (p.test.toList == q.test.toList) = false := by simpa using m1
  have m1c : (p.test.toList != q.test.toList) = true := by simpa using m1
  go_wp2_with (first | (refine wpList_load_midG (by rfl) 31 (.tmp 44) rfl w.heap.size 8 rfl (pdg p) _ (digR BA) Tryz.underlying31 rfl infoPd ?_; simp only [Act.put, sA, sB, sC]) | (refine wpList_load_midG (by rfl) 31 (.tmp 46) rfl (w.heap.size + 1) 8 rfl (pdg q) _ (digR BB) Tryz.underlying31 rfl infoPd ?_; simp only [Act.put, sA, sB, sC]))
  go_ret; exact ⟨congrArg (fun b => Ending.returned (Value.bool b)) N1.out.symm, hbz⟩
 by_cases h2 : p.wh = q.wh
 rotate_left
 ·have N2 : Hid (sameP p q dp dq L1 L2 M1 M2 = false) := by show _ = _; unfold sameP; simp [h2]
  have m2 := str_ne h2; have m2b : (p.wh.toList == q.wh.toList) = false := by simpa using m2
  have m2c : (p.wh.toList != q.wh.toList) = true := by simpa using m2
  go_wp2_with (first | (refine wpList_load_midG (by rfl) 31 (.tmp 44) rfl w.heap.size 8 rfl (pdg p) _ (digR BA) Tryz.underlying31 rfl infoPd ?_; simp only [Act.put, sA, sB, sC]) | (refine wpList_load_midG (by rfl) 31 (.tmp 46) rfl (w.heap.size + 1) 8 rfl (pdg q) _ (digR BB) Tryz.underlying31 rfl infoPd ?_; simp only [Act.put, sA, sB, sC]))
  go_ret; exact ⟨congrArg (fun b => Ending.returned (Value.bool b)) N2.out.symm, hbz⟩
 by_cases h3 : p.site = q.site
 rotate_left
 ·have N3 : Hid (sameP p q dp dq L1 L2 M1 M2 = false) := by show _ = _; unfold sameP; simp [h3]
  have m3b : (p.site == q.site) = false := by simpa using h3
  have m3c : (p.site != q.site) = true := by simpa using h3
  go_wp2_with (first | (refine wpList_load_midG (by rfl) 31 (.tmp 44) rfl w.heap.size 8 rfl (pdg p) _ (digR BA) Tryz.underlying31 rfl infoPd ?_; simp only [Act.put, sA, sB, sC]) | (refine wpList_load_midG (by rfl) 31 (.tmp 46) rfl (w.heap.size + 1) 8 rfl (pdg q) _ (digR BB) Tryz.underlying31 rfl infoPd ?_; simp only [Act.put, sA, sB, sC]))
  go_ret; exact ⟨congrArg (fun b => Ending.returned (Value.bool b)) N3.out.symm, hbz⟩
 by_cases h4 : p.fr = q.fr
 rotate_left
 ·have N4 : Hid (sameP p q dp dq L1 L2 M1 M2 = false) := by show _ = _; unfold sameP; simp [h4]
  have m4b : (p.fr == q.fr) = false := by simpa using h4
  have m4c : (p.fr != q.fr) = true := by simpa using h4
  go_wp2_with (first | (refine wpList_load_midG (by rfl) 31 (.tmp 44) rfl w.heap.size 8 rfl (pdg p) _ (digR BA) Tryz.underlying31 rfl infoPd ?_; simp only [Act.put, sA, sB, sC]) | (refine wpList_load_midG (by rfl) 31 (.tmp 46) rfl (w.heap.size + 1) 8 rfl (pdg q) _ (digR BB) Tryz.underlying31 rfl infoPd ?_; simp only [Act.put, sA, sB, sC]))
  go_ret; exact ⟨congrArg (fun b => Ending.returned (Value.bool b)) N4.out.symm, hbz⟩
 by_cases h5 : p.un = q.un
 rotate_left
 ·have N5 : Hid (sameP p q dp dq L1 L2 M1 M2 = false) := by show _ = _; unfold sameP; simp [h5]
  have m5b : (p.un == q.un) = false := by simpa using h5
  have m5c : (p.un != q.un) = true := by simpa using h5
  go_wp2_with (first | (refine wpList_load_midG (by rfl) 31 (.tmp 44) rfl w.heap.size 8 rfl (pdg p) _ (digR BA) Tryz.underlying31 rfl infoPd ?_; simp only [Act.put, sA, sB, sC]) | (refine wpList_load_midG (by rfl) 31 (.tmp 46) rfl (w.heap.size + 1) 8 rfl (pdg q) _ (digR BB) Tryz.underlying31 rfl infoPd ?_; simp only [Act.put, sA, sB, sC]))
  go_ret; exact ⟨congrArg (fun b => Ending.returned (Value.bool b)) N5.out.symm, hbz⟩
 by_cases hd : dp = dq
 ·obtain rfl : bd = true := by rw [HBD.out, hd]; simp
  clear hdp hdq
  go_wp2_with (first | (refine wpList_load_midG (by rfl) 31 (.tmp 44) rfl w.heap.size 8 rfl (pdg p) _ (digR BA) Tryz.underlying31 rfl infoPd ?_; simp only [Act.put, sA, sB, sC]) | (refine wpList_load_midG (by rfl) 31 (.tmp 46) rfl (w.heap.size + 1) 8 rfl (pdg q) _ (digR BB) Tryz.underlying31 rfl infoPd ?_; simp only [Act.put, sA, sB, sC]))
  refine (same_any _ _ L1 L2 M1 M2 _ hrp hrq).mono ?_; rintro e w4 ⟨sb, rfl, HS, hb4⟩; go_wp2_with fail; go_ret; refine ⟨congrArg (fun b => Ending.returned (Value.bool b)) ?_, Below.tr hbz hb4⟩; unfold sameP; rw [HS.out]; simp [h0, h1, h2, h3, h4, h5, hd]
 ·obtain rfl : bd = false := by rw [HBD.out]; simpa using hd
  go_wp2_with (first | (refine wpList_load_midG (by rfl) 31 (.tmp 44) rfl w.heap.size 8 rfl (pdg p) _ (digR BA) Tryz.underlying31 rfl infoPd ?_; simp only [Act.put, sA, sB, sC]) | (refine wpList_load_midG (by rfl) 31 (.tmp 46) rfl (w.heap.size + 1) 8 rfl (pdg q) _ (digR BB) Tryz.underlying31 rfl infoPd ?_; simp only [Act.put, sA, sB, sC]))
  go_ret; exact ⟨congrArg (fun b => Ending.returned (Value.bool b)) (by unfold sameP; simp [hd]), hbz⟩
set_option maxRecDepth 100000 in
set_option maxHeartbeats 8000000 in
theorem psame34_n (p q : PC) (dp dq : List Int) (L1 L2 M1 M2 : List Nat) (w : World) (hdp : DgOk (pdg p) dp) (hdq : DgOk (pdg q) dq) (hrp : RtL w (.agg #[p.b1, p.b2]) L1 L2) (hrq : RtL w (.agg #[q.b1, q.b2]) M1 M2) :
  Calls Tryz.prog 45 #[.agg (cellsP p).toArray, .agg (cellsP q).toArray] w fun e w' => e = .returned (.bool (sameP p q dp dq L1 L2 M1 M2)) ∧ Below w.heap.size w w' := by
 go_enter Tryz.func45, Tryz.ntmps45
 go_upto_region 1 with fail; refine wp_name ?_; intro w2 HW; have hbz : Below w.heap.size w w2 := by rw [HW.out]; exact Below.tr (bA _ _) (bA _ _)
 have BA : Blk w2 w.heap.size 33 (cellsP p).toArray := by rw [HW.out]; exact (Blk.new _ _ _).alloc _
 have BB : Blk w2 (w.heap.size + 1) 33 (cellsP q).toArray := by rw [HW.out]; exact heap_alloc_newS _ _ _ (alloc_szS _ _)
 clear HW; have hrp := hrp.below hbz; have hrq := hrq.below hbz; have a0 : w2.cell? ⟨w.heap.size, 0, none⟩ = some (.int .i64 p.team) := by rw [BA.cell]; rfl
 have a1 : w2.cell? ⟨w.heap.size, 1, none⟩ = some (.string p.test) := by rw [BA.cell]; rfl
 have a2 : w2.cell? ⟨w.heap.size, 2, none⟩ = some (.string p.wh) := by rw [BA.cell]; rfl
 have a3 : w2.cell? ⟨w.heap.size, 3, none⟩ = some (.int .i64 p.site) := by rw [BA.cell]; rfl
 have a4 : w2.cell? ⟨w.heap.size, 4, none⟩ = some (p.b1) := by rw [BA.cell]; rfl
 have a5 : w2.cell? ⟨w.heap.size, 5, none⟩ = some (p.b2) := by rw [BA.cell]; rfl
 have a6 : w2.cell? ⟨w.heap.size, 6, none⟩ = some (.int .i64 p.fr) := by rw [BA.cell]; rfl
 have a7 : w2.cell? ⟨w.heap.size, 7, none⟩ = some (.int .i64 p.un) := by rw [BA.cell]; rfl
 have b0 : w2.cell? ⟨w.heap.size + 1, 0, none⟩ = some (.int .i64 q.team) := by rw [BB.cell]; rfl
 have b1 : w2.cell? ⟨w.heap.size + 1, 1, none⟩ = some (.string q.test) := by rw [BB.cell]; rfl
 have b2 : w2.cell? ⟨w.heap.size + 1, 2, none⟩ = some (.string q.wh) := by rw [BB.cell]; rfl
 have b3 : w2.cell? ⟨w.heap.size + 1, 3, none⟩ = some (.int .i64 q.site) := by rw [BB.cell]; rfl
 have b4 : w2.cell? ⟨w.heap.size + 1, 4, none⟩ = some (q.b1) := by rw [BB.cell]; rfl
 have b5 : w2.cell? ⟨w.heap.size + 1, 5, none⟩ = some (q.b2) := by rw [BB.cell]; rfl
 have b6 : w2.cell? ⟨w.heap.size + 1, 6, none⟩ = some (.int .i64 q.fr) := by rw [BB.cell]; rfl
 have b7 : w2.cell? ⟨w.heap.size + 1, 7, none⟩ = some (.int .i64 q.un) := by rw [BB.cell]; rfl
 obtain ⟨bd, HBD⟩ : ∃ bd, Hid (bd = (dp == dq)) := ⟨_, rfl⟩
 have hneq : ∀ w, (binOp .eql 31 (.agg (pdg p).toArray) (.agg (pdg q).toArray)).run Tryz.prog w = .ok (.bool bd) w := fun w => by
  rw [hdp.1, hdq.1, dig_eql w dp dq hdp.2 hdq.2, HBD.out]
 by_cases h0 : p.team = q.team
 rotate_left
 ·have N0 : Hid (sameP p q dp dq L1 L2 M1 M2 = false) := by show _ = _; unfold sameP; simp [h0]
  have m0b : (p.team == q.team) = false := by simpa using h0
  have m0c : (p.team != q.team) = true := by simpa using h0
  go_wp2_with (first | (refine wpList_load_midG (by rfl) 31 (.tmp 46) rfl w.heap.size 8 rfl (pdg p) _ (digR BA) Tryz.underlying31 rfl infoPd ?_; simp only [Act.put, sA, sB, sC]) | (refine wpList_load_midG (by rfl) 31 (.tmp 48) rfl (w.heap.size + 1) 8 rfl (pdg q) _ (digR BB) Tryz.underlying31 rfl infoPd ?_; simp only [Act.put, sA, sB, sC]))
  go_ret; exact ⟨congrArg (fun b => Ending.returned (Value.bool b)) N0.out.symm, hbz⟩
 by_cases h1 : p.test = q.test
 rotate_left
 ·have N1 : Hid (sameP p q dp dq L1 L2 M1 M2 = false) := by show _ = _; unfold sameP; simp [h1]
  have m1 := str_ne h1; have m1b : (p.test.toList == q.test.toList) = false := by simpa using m1
  have m1c : (p.test.toList != q.test.toList) = true := by simpa using m1
  go_wp2_with (first | (refine wpList_load_midG (by rfl) 31 (.tmp 46) rfl w.heap.size 8 rfl (pdg p) _ (digR BA) Tryz.underlying31 rfl infoPd ?_; simp only [Act.put, sA, sB, sC]) | (refine wpList_load_midG (by rfl) 31 (.tmp 48) rfl (w.heap.size + 1) 8 rfl (pdg q) _ (digR BB) Tryz.underlying31 rfl infoPd ?_; simp only [Act.put, sA, sB, sC]))
  go_ret; exact ⟨congrArg (fun b => Ending.returned (Value.bool b)) N1.out.symm, hbz⟩
 by_cases h2 : p.wh = q.wh
 rotate_left
 ·have N2 : Hid (sameP p q dp dq L1 L2 M1 M2 = false) := by show _ = _; unfold sameP; simp [h2]
  have m2 := str_ne h2; have m2b : (p.wh.toList == q.wh.toList) = false := by simpa using m2
  have m2c : (p.wh.toList != q.wh.toList) = true := by simpa using m2
  go_wp2_with (first | (refine wpList_load_midG (by rfl) 31 (.tmp 46) rfl w.heap.size 8 rfl (pdg p) _ (digR BA) Tryz.underlying31 rfl infoPd ?_; simp only [Act.put, sA, sB, sC]) | (refine wpList_load_midG (by rfl) 31 (.tmp 48) rfl (w.heap.size + 1) 8 rfl (pdg q) _ (digR BB) Tryz.underlying31 rfl infoPd ?_; simp only [Act.put, sA, sB, sC]))
  go_ret; exact ⟨congrArg (fun b => Ending.returned (Value.bool b)) N2.out.symm, hbz⟩
 by_cases h3 : p.site = q.site
 rotate_left
 ·have N3 : Hid (sameP p q dp dq L1 L2 M1 M2 = false) := by show _ = _; unfold sameP; simp [h3]
  have m3b : (p.site == q.site) = false := by simpa using h3
  have m3c : (p.site != q.site) = true := by simpa using h3
  go_wp2_with (first | (refine wpList_load_midG (by rfl) 31 (.tmp 46) rfl w.heap.size 8 rfl (pdg p) _ (digR BA) Tryz.underlying31 rfl infoPd ?_; simp only [Act.put, sA, sB, sC]) | (refine wpList_load_midG (by rfl) 31 (.tmp 48) rfl (w.heap.size + 1) 8 rfl (pdg q) _ (digR BB) Tryz.underlying31 rfl infoPd ?_; simp only [Act.put, sA, sB, sC]))
  go_ret; exact ⟨congrArg (fun b => Ending.returned (Value.bool b)) N3.out.symm, hbz⟩
 by_cases h4 : p.fr = q.fr
 rotate_left
 ·have N4 : Hid (sameP p q dp dq L1 L2 M1 M2 = false) := by show _ = _; unfold sameP; simp [h4]
  have m4b : (p.fr == q.fr) = false := by simpa using h4
  have m4c : (p.fr != q.fr) = true := by simpa using h4
  go_wp2_with (first | (refine wpList_load_midG (by rfl) 31 (.tmp 46) rfl w.heap.size 8 rfl (pdg p) _ (digR BA) Tryz.underlying31 rfl infoPd ?_; simp only [Act.put, sA, sB, sC]) | (refine wpList_load_midG (by rfl) 31 (.tmp 48) rfl (w.heap.size + 1) 8 rfl (pdg q) _ (digR BB) Tryz.underlying31 rfl infoPd ?_; simp only [Act.put, sA, sB, sC]))
  go_ret; exact ⟨congrArg (fun b => Ending.returned (Value.bool b)) N4.out.symm, hbz⟩
 by_cases h5 : p.un = q.un
 rotate_left
 ·have N5 : Hid (sameP p q dp dq L1 L2 M1 M2 = false) := by show _ = _; unfold sameP; simp [h5]
  have m5b : (p.un == q.un) = false := by simpa using h5
  have m5c : (p.un != q.un) = true := by simpa using h5
  go_wp2_with (first | (refine wpList_load_midG (by rfl) 31 (.tmp 46) rfl w.heap.size 8 rfl (pdg p) _ (digR BA) Tryz.underlying31 rfl infoPd ?_; simp only [Act.put, sA, sB, sC]) | (refine wpList_load_midG (by rfl) 31 (.tmp 48) rfl (w.heap.size + 1) 8 rfl (pdg q) _ (digR BB) Tryz.underlying31 rfl infoPd ?_; simp only [Act.put, sA, sB, sC]))
  go_ret; exact ⟨congrArg (fun b => Ending.returned (Value.bool b)) N5.out.symm, hbz⟩
 by_cases hd : dp = dq
 ·obtain rfl : bd = true := by rw [HBD.out, hd]; simp
  clear hdp hdq
  go_wp2_with (first | (refine wpList_load_midG (by rfl) 31 (.tmp 46) rfl w.heap.size 8 rfl (pdg p) _ (digR BA) Tryz.underlying31 rfl infoPd ?_; simp only [Act.put, sA, sB, sC]) | (refine wpList_load_midG (by rfl) 31 (.tmp 48) rfl (w.heap.size + 1) 8 rfl (pdg q) _ (digR BB) Tryz.underlying31 rfl infoPd ?_; simp only [Act.put, sA, sB, sC]))
  refine (psame_n _ _ L1 L2 M1 M2 _ hrp hrq).mono ?_; rintro e w4 ⟨sb, rfl, HS, hb4⟩; go_wp2_with fail; go_ret; refine ⟨congrArg (fun b => Ending.returned (Value.bool b)) ?_, Below.tr hbz hb4⟩; unfold sameP; rw [HS.out]; simp [h0, h1, h2, h3, h4, h5, hd]
 ·obtain rfl : bd = false := by rw [HBD.out]; simpa using hd
  go_wp2_with (first | (refine wpList_load_midG (by rfl) 31 (.tmp 46) rfl w.heap.size 8 rfl (pdg p) _ (digR BA) Tryz.underlying31 rfl infoPd ?_; simp only [Act.put, sA, sB, sC]) | (refine wpList_load_midG (by rfl) 31 (.tmp 48) rfl (w.heap.size + 1) 8 rfl (pdg q) _ (digR BB) Tryz.underlying31 rfl infoPd ?_; simp only [Act.put, sA, sB, sC]))
  go_ret; exact ⟨congrArg (fun b => Ending.returned (Value.bool b)) (by unfold sameP; simp [hd]), hbz⟩
end Go.Proofs.YtijkfagkbfbpmaaGreatDoor
