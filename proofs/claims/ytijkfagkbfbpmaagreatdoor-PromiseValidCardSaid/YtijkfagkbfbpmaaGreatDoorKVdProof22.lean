import Derived.Test.YtijkfagkbfbpmaaGreatDoorKVdProof19
import Derived.Maps.OwnSet
import Derived.Deep.DeepMust
import Derived.Test.YtijkfagkbfbpmaaGreatDoorKVdProof21
import Derived.Test.YtijkfagkbfbpmaaGreatDoorKVdProof16
import Derived.Laws.ResultCell
import Derived.Test.YtijkfagkbfbpmaaGreatDoorKVdProof12
import Derived.Test.YtijkfagkbfbpmaaGreatDoorKVdProof18
import Derived.Test.YtijkfagkbfbpmaaGreatDoorKVdProof14
import Derived.Test.YtijkfagkbfbpmaaGreatDoorKVdProof04
import Derived.Test.YtijkfagkbfbpmaaGreatDoorKVdProof11
import Derived.Test.YtijkfagkbfbpmaaGreatDoorS0
set_option linter.unusedVariables false
set_option linter.unusedSimpArgs false
namespace Go.Proofs.YtijkfagkbfbpmaaGreatDoor
open Go Go.RowKit Go.Maps Go.WideMaps
/-- a digest -/
structure DG where
 r0 : Value
 r1 : Value
 r2 : Value
 r3 : Value
 r4 : Value
 r5 : Value
 r6 : Value
 r7 : Value
 r8 : Value
 r9 : Value
 r10 : Value
 r11 : Value
 r12 : Value
 r13 : Value
 r14 : Value
 r15 : Value
def cellsDG (d : DG) : List Value := [d.r0, d.r1, d.r2, d.r3, d.r4, d.r5, d.r6, d.r7, d.r8, d.r9, d.r10, d.r11, d.r12, d.r13, d.r14, d.r15]
def zeroDG : DG := ⟨.int .u8 0, .int .u8 0, .int .u8 0, .int .u8 0, .int .u8 0, .int .u8 0, .int .u8 0, .int .u8 0, .int .u8 0, .int .u8 0, .int .u8 0, .int .u8 0, .int .u8 0, .int .u8 0, .int .u8 0, .int .u8 0⟩
theorem zeroDG_ok : DgOk (cellsDG zeroDG) (List.replicate 16 0) := ⟨rfl, rfl⟩
def mmOf (tick : Int) (d : DG) (A : Option Addr) (k c : Nat) : MM := ⟨tick, d.r0, d.r1, d.r2, d.r3, d.r4, d.r5, d.r6, d.r7, d.r8, d.r9, d.r10, d.r11, d.r12, d.r13, d.r14, d.r15, A, k, c⟩
def kl (s : ByteArray) : Lit := .string s.data.toList
end Go.Proofs.YtijkfagkbfbpmaaGreatDoor
namespace Go.Proofs.YtijkfagkbfbpmaaGreatDoor
open Go Go.RowKit
/-- the three numbers of an environment -/
def cellsE (n1 n2 n3 : Int) : List Value := [.int .i64 n1, .int .i64 n2, .int .i64 n3]
def zeroC : List Value := [.int .i64 0, .int .u8 0, .int .u8 0, .int .u8 0, .int .u8 0, .int .u8 0, .int .u8 0, .int .u8 0, .int .u8 0, .int .u8 0, .int .u8 0, .int .u8 0, .int .u8 0, .int .u8 0, .int .u8 0, .int .u8 0, .int .u8 0, .string ⟨#[]⟩, .int .i64 0, .int .i64 0, .int .i64 0, .string ⟨#[]⟩, .int .i64 0, .int .i64 0, .slice none 0 0, .slice none 0 0]
def fullC (p : PC) (d : DG) (n1 n2 n3 : Int) : List Value := [.int .i64 0, d.r0, d.r1, d.r2, d.r3, d.r4, d.r5, d.r6, d.r7, d.r8, d.r9, d.r10, d.r11, d.r12, d.r13, d.r14, d.r15, .string p.test, .int .i64 n1, .int .i64 n2, .int .i64 n3, .string ⟨#[]⟩, .int .i64 0, .int .i64 0, p.b1, p.b2]
/-- the claim of a promise -/
def clC (E : Int) (p : PC) (d : DG) (n1 n2 n3 : Int) : List Value := if E = 0 then fullC p d n1 n2 n3 else zeroC
theorem built_cl {p : PC} {d : DG} {n1 n2 n3 : Int} : (Tryz.prog).built 58 [(0, .int .i64 0), (1, .agg (cellsDG d).toArray), (2, .string p.test), (3, .agg (cellsE n1 n2 n3).toArray), (7, .agg #[p.b1, p.b2])] = some (fullC p d n1 n2 n3).toArray := by kernel_rfl
theorem infoC26 {p : PC} {d : DG} {n1 n2 n3 : Int} : (Tryz.prog.info? 58).map (·.size) = some (fullC p d n1 n2 n3).toArray.size := by kernel_rfl
theorem infoCz : (Tryz.prog.info? 58).map (·.size) = some zeroC.toArray.size := by kernel_rfl
theorem infoE3 {n1 n2 n3 : Int} : (Tryz.prog.info? 56).map (·.size) = some (cellsE n1 n2 n3).length := by kernel_rfl
theorem infoDGc {d : DG} : (Tryz.prog.info? 31).map (·.size) = some (cellsDG d).length := by kernel_rfl
theorem zeroC_one : ∀ v ∈ zeroC, v.oneCell' = true := by
 intro v hv; simp only [zeroC, List.mem_cons, List.not_mem_nil, or_false] at hv
 rcases hv with rfl | rfl | rfl | rfl | rfl | rfl | rfl | rfl | rfl | rfl | rfl | rfl | rfl | rfl | rfl | rfl | rfl | rfl | rfl | rfl | rfl | rfl | rfl | rfl | rfl | rfl <;> rfl
theorem fullC_one {p : PC} {d : DG} {dm : List Int} {n1 n2 n3 : Int} {w : World} {L1 L2 : List Nat} (hr : RtL w (.agg #[p.b1, p.b2]) L1 L2) (hd : DgOk (cellsDG d) dm) : ∀ v ∈ fullC p d n1 n2 n3, v.oneCell' = true := by
 obtain ⟨A1, k1, c1, A2, k2, c2, e, _⟩ := hr; injection e with e; have e1 : p.b1 = .slice A1 k1 c1 := by injection e with e; injection e
 have e2 : p.b2 = .slice A2 k2 c2 := by injection e with e; injection e with _ e; injection e
 have hb := bytes_one hd; intro v hv; simp only [fullC, List.mem_cons, List.not_mem_nil, or_false] at hv
 rcases hv with rfl | h | h | h | h | h | h | h | h | h | h | h | h | h | h | h | h | rfl | rfl | rfl | rfl | rfl | rfl | rfl | rfl | rfl
 all_goals first
  | rfl
  | (rw [e1]; rfl)
  | (rw [e2]; rfl)
  | (exact hb v (by rw [h]; simp [cellsDG]))
theorem results_cl {fn : Func} {p u : Tmp} {tmps : Array Value} {w : World} {g : Nat} {cs : List Value} {T : TypeId} {x : Value} (h : fn.results = #[.cell p 58, .tmp u]) (hp : tmps.getD p undef = .pointer (some ⟨g, 0, none⟩)) (hu : tmps.getD u undef = x) (hb : Blk w g T cs.toArray) (hl : (Tryz.prog.info? 58).map (·.size) = some cs.length) :
  (results fn tmps).run Tryz.prog w = .ok (.tuple #[.agg cs.toArray, x]) w := by
 rw [results_cell_tmp h, hp, hu]; simp [asAddr, Result.andThen, run_loadVar_mid w g 0 58 cs _ (blk_range hb) Tryz.underlying58 rfl hl]

set_option maxRecDepth 100000 in
set_option maxHeartbeats 4000000 in
theorem claim_n (p : PC) (L1 L2 : List Nat) (d : DG) (dm : List Int) (n1 n2 n3 E : Int) (w : World) (hr : RtL w (.agg #[p.b1, p.b2]) L1 L2) (hp1 : p.test.size ≤ 9223372036854775807) (hp2 : p.wh.size ≤ 9223372036854775807) (hd : DgOk (cellsDG d) dm) (hE : Hid (PVal p L1 L2 E)) :
  Calls Tryz.prog 25 #[.agg (cellsP p).toArray, .agg (cellsDG d).toArray, .agg (cellsE n1 n2 n3).toArray] w fun e w' => e = .returned (.tuple #[.agg (clC E p d n1 n2 n3).toArray, .int .i64 E]) ∧ Below w.heap.size w w' := by
 obtain ⟨ZA, HZA⟩ : ∃ ZA : Array Value, Hid (ZA = zeroC.toArray) := ⟨_, rfl⟩; obtain ⟨W, HW⟩ : ∃ W, Hid (W = (((w.alloc (.cells (cellsP p).toArray 33)).alloc (.cells (cellsDG d).toArray 31)).alloc (.cells (cellsE n1 n2 n3).toArray 56)).alloc (.cells zeroC.toArray 58)) := ⟨_, rfl⟩; have hbw : Below w.heap.size w W := by rw [HW.out]; exact Below.tr (Below.tr (Below.tr (bA _ _) (bA _ _)) (bA _ _)) (bA _ _)
 have BA : Blk W w.heap.size 33 (cellsP p).toArray := by rw [HW.out]; exact (((Blk.new _ _ _).alloc _).alloc _).alloc _
 have BD : Blk W (w.heap.size + 1) 31 (cellsDG d).toArray := by
  rw [HW.out]; have h := Blk.new (w.alloc (.cells (cellsP p).toArray 33)) 31 (cellsDG d).toArray; rw [show (w.alloc (.cells (cellsP p).toArray 33)).heap.size = w.heap.size + 1 by simp] at h; exact (h.alloc _).alloc _
 have BE : Blk W (w.heap.size + 1 + 1) 56 (cellsE n1 n2 n3).toArray := by
  rw [HW.out]; have h := Blk.new ((w.alloc (.cells (cellsP p).toArray 33)).alloc (.cells (cellsDG d).toArray 31)) 56 (cellsE n1 n2 n3).toArray; rw [show ((w.alloc (.cells (cellsP p).toArray 33)).alloc (.cells (cellsDG d).toArray 31)).heap.size = w.heap.size + 1 + 1 by simp] at h; exact h.alloc _
 have BZ : Blk W (w.heap.size + 1 + 1 + 1) 58 zeroC.toArray := by
  rw [HW.out]; have h := Blk.new (((w.alloc (.cells (cellsP p).toArray 33)).alloc (.cells (cellsDG d).toArray 31)).alloc (.cells (cellsE n1 n2 n3).toArray 56)) 58 zeroC.toArray; rw [show (((w.alloc (.cells (cellsP p).toArray 33)).alloc (.cells (cellsDG d).toArray 31)).alloc (.cells (cellsE n1 n2 n3).toArray 56)).heap.size = w.heap.size + 1 + 1 + 1 by simp] at h; exact h
 have hr := hr.below hbw
 go_enter Tryz.func25, Tryz.ntmps25
 go_upto_region 1 with fail; refine wp_name ?_; intro W1 HW1; obtain rfl : W1 = W := by rw [HW1.out, HW.out]; rfl
 obtain ⟨gA, hgA⟩ : ∃ g, Hid (g = w.heap.size) := ⟨_, rfl⟩; obtain ⟨gD, hgD⟩ : ∃ g, Hid (g = w.heap.size + 1) := ⟨_, rfl⟩; obtain ⟨gE, hgE⟩ : ∃ g, Hid (g = w.heap.size + 1 + 1) := ⟨_, rfl⟩; obtain ⟨gZ, hgZ⟩ : ∃ g, Hid (g = w.heap.size + 1 + 1 + 1) := ⟨_, rfl⟩; have hgz : w.heap.size ≤ gZ := by have := hgZ.out; omega
 rw [← hgZ.out] at BZ ⊢; rw [← hgE.out] at BE ⊢; rw [← hgD.out] at BD ⊢; rw [← hgA.out] at BA
 conv in Value.pointer (some ⟨w.heap.size, 0, none⟩) => rw [← hgA.out]
 clear HW HW1
 go_wp2_with (first | (refine wpList_load_mid rfl 33 (.tmp 3) rfl gA 0 rfl (cellsP p) _ (blk_range BA) Tryz.underlying33 rfl infoP ?_; simp only [Act.put, sA, sB, sC]))
 refine (pvalid_n p L1 L2 _ hr hp1 hp2).mono ?_; rintro e w2 ⟨E2, rfl, HE2, hb2⟩; obtain rfl : E2 = E := HE2.out.uniq hE.out; have BA := Blk.below BA hb2 BA.lt; have BD := Blk.below BD hb2 BD.lt; have BE := Blk.below BE hb2 BE.lt; have BZ := Blk.below BZ hb2 BZ.lt; have hr := hr.below hb2; have hbw := Below.tr hbw hb2; clear hb2 HE2; by_cases hE0 : E2 = 0
 ·have t1 : (E2 != 0) = false := by simpa using hE0
  have HCL : Hid (clC E2 p d n1 n2 n3 = fullC p d n1 n2 n3) := by show _ = _; unfold clC; rw [if_pos hE0]
  subst hE0; have HON : Hid ((fullC p d n1 n2 n3).toArray.all (·.oneCell') = true) := all_oneCell_toArray (fullC_one hr hd); have HBZ := Lib.hid BZ; have a1 := BA.cell 1; have a4 := BA.cell 4; have a5 := BA.cell 5; simp only [cellsP, List.getElem?_toArray, List.getElem?_cons_zero, List.getElem?_cons_succ] at a1 a4 a5; have hF : Blk (w2.setCells gZ 0 (fullC p d n1 n2 n3).toArray.toList) gZ 58 (fullC p d n1 n2 n3).toArray := Blk.setAll BZ rfl; have hbz := below_setAll (g := gZ) hgz (fullC p d n1 n2 n3).toArray.toList 0 hbw; clear hr hd
  go_wp2_with (first | (refine wpList_load_mid rfl 31 (.tmp 4) rfl gD 0 rfl (cellsDG d) _ (blk_range BD) Tryz.underlying31 rfl (infoDGc (d := d)) ?_; simp only [Act.put, sA, sB, sC]) | (refine wpList_load_mid rfl 56 (.tmp 5) rfl gE 0 rfl (cellsE n1 n2 n3) _ (blk_range BE) Tryz.underlying56 rfl infoE3 ?_; simp only [Act.put, sA, sB, sC]) | (refine wpList_buildW rfl 58 [(0, .const (.int .i64 0)), (1, .tmp 15), (2, .tmp 17), (3, .tmp 18), (7, .tmp 20)] (by rfl) (fullC p d n1 n2 n3).toArray [(0, .int .i64 0), (1, .agg (cellsDG d).toArray), (2, .string p.test), (3, .agg (cellsE n1 n2 n3).toArray), (7, .agg #[p.b1, p.b2])] (by rfl) built_cl ?_; simp only [Act.put, sA, sB, sC]) | (refine wpList_store_mid rfl 58 (.tmp 6) (.tmp 21) rfl gZ 0 (fullC p d n1 n2 n3).toArray rfl rfl (Blk.there HBZ.out rfl) infoC26 HON.out ?_))
  (try simp only [Exit.inBlock, Exit.then])
  exact bodyPost_ret (results_cl rfl rfl rfl hF infoC26) rfl ⟨by rw [HCL.out]; rfl, hbz⟩
 ·have t1 : (E2 != 0) = true := by simpa using hE0
  have HCL : Hid (clC E2 p d n1 n2 n3 = zeroC) := by show _ = _; unfold clC; rw [if_neg hE0]
  have HON : Hid (zeroC.toArray.all (·.oneCell') = true) := all_oneCell_toArray zeroC_one; have HBZ := Lib.hid BZ; have hF : Blk (w2.setCells gZ 0 zeroC.toArray.toList) gZ 58 zeroC.toArray := Blk.setAll BZ rfl; have hbz := below_setAll (g := gZ) hgz zeroC.toArray.toList 0 hbw; clear hr hd hE0
  go_wp2_with (first | (refine wpList_store_mid rfl 58 (.tmp 6) (.tmp 13) rfl gZ 0 zeroC.toArray rfl rfl (Blk.there HBZ.out rfl) infoCz HON.out ?_))
  (try simp only [Exit.inBlock, Exit.then])
  exact bodyPost_ret (results_cl rfl rfl rfl hF infoCz) rfl ⟨by rw [HCL.out]; rfl, hbz⟩

set_option maxRecDepth 100000 in
set_option maxHeartbeats 4000000 in
theorem rclaim_n (p : PC) (L1 L2 : List Nat) (d : DG) (dm : List Int) (n1 n2 n3 E : Int) (w : World) (hr : RtL w (.agg #[p.b1, p.b2]) L1 L2) (hp1 : p.test.size ≤ 9223372036854775807) (hp2 : p.wh.size ≤ 9223372036854775807) (hd : DgOk (cellsDG d) dm) (hE : Hid (PVal p L1 L2 E)) :
  Calls Tryz.prog 26 #[.agg (cellsP p).toArray, .agg (cellsDG d).toArray, .agg (cellsE n1 n2 n3).toArray] w fun e w' => e = .returned (.tuple #[.agg (clC E p d n1 n2 n3).toArray, .int .i64 E]) ∧ Below w.heap.size w w' := by
 obtain ⟨ZA, HZA⟩ : ∃ ZA : Array Value, Hid (ZA = zeroC.toArray) := ⟨_, rfl⟩; obtain ⟨W, HW⟩ : ∃ W, Hid (W = (((w.alloc (.cells (cellsP p).toArray 33)).alloc (.cells (cellsDG d).toArray 31)).alloc (.cells (cellsE n1 n2 n3).toArray 56)).alloc (.cells zeroC.toArray 58)) := ⟨_, rfl⟩; have hbw : Below w.heap.size w W := by rw [HW.out]; exact Below.tr (Below.tr (Below.tr (bA _ _) (bA _ _)) (bA _ _)) (bA _ _)
 have BA : Blk W w.heap.size 33 (cellsP p).toArray := by rw [HW.out]; exact (((Blk.new _ _ _).alloc _).alloc _).alloc _
 have BD : Blk W (w.heap.size + 1) 31 (cellsDG d).toArray := by
  rw [HW.out]; have h := Blk.new (w.alloc (.cells (cellsP p).toArray 33)) 31 (cellsDG d).toArray; rw [show (w.alloc (.cells (cellsP p).toArray 33)).heap.size = w.heap.size + 1 by simp] at h; exact (h.alloc _).alloc _
 have BE : Blk W (w.heap.size + 1 + 1) 56 (cellsE n1 n2 n3).toArray := by
  rw [HW.out]; have h := Blk.new ((w.alloc (.cells (cellsP p).toArray 33)).alloc (.cells (cellsDG d).toArray 31)) 56 (cellsE n1 n2 n3).toArray; rw [show ((w.alloc (.cells (cellsP p).toArray 33)).alloc (.cells (cellsDG d).toArray 31)).heap.size = w.heap.size + 1 + 1 by simp] at h; exact h.alloc _
 have BZ : Blk W (w.heap.size + 1 + 1 + 1) 58 zeroC.toArray := by
  rw [HW.out]; have h := Blk.new (((w.alloc (.cells (cellsP p).toArray 33)).alloc (.cells (cellsDG d).toArray 31)).alloc (.cells (cellsE n1 n2 n3).toArray 56)) 58 zeroC.toArray; rw [show (((w.alloc (.cells (cellsP p).toArray 33)).alloc (.cells (cellsDG d).toArray 31)).alloc (.cells (cellsE n1 n2 n3).toArray 56)).heap.size = w.heap.size + 1 + 1 + 1 by simp] at h; exact h
 have hr := hr.below hbw
 go_enter Tryz.func26, Tryz.ntmps26
 go_upto_region 1 with fail; refine wp_name ?_; intro W1 HW1; obtain rfl : W1 = W := by rw [HW1.out, HW.out]; rfl
 obtain ⟨gA, hgA⟩ : ∃ g, Hid (g = w.heap.size) := ⟨_, rfl⟩; obtain ⟨gD, hgD⟩ : ∃ g, Hid (g = w.heap.size + 1) := ⟨_, rfl⟩; obtain ⟨gE, hgE⟩ : ∃ g, Hid (g = w.heap.size + 1 + 1) := ⟨_, rfl⟩; obtain ⟨gZ, hgZ⟩ : ∃ g, Hid (g = w.heap.size + 1 + 1 + 1) := ⟨_, rfl⟩; have hgz : w.heap.size ≤ gZ := by have := hgZ.out; omega
 rw [← hgZ.out] at BZ ⊢; rw [← hgE.out] at BE ⊢; rw [← hgD.out] at BD ⊢; rw [← hgA.out] at BA
 conv in Value.pointer (some ⟨w.heap.size, 0, none⟩) => rw [← hgA.out]
 clear HW HW1
 go_wp2_with (first | (refine wpList_load_mid rfl 33 (.tmp 3) rfl gA 0 rfl (cellsP p) _ (blk_range BA) Tryz.underlying33 rfl infoP ?_; simp only [Act.put, sA, sB, sC]))
 refine (rpval_n p L1 L2 _ hr hp1 hp2).mono ?_; rintro e w2 ⟨E2, rfl, HE2, hb2⟩; obtain rfl : E2 = E := HE2.out.uniq hE.out; have BA := Blk.below BA hb2 BA.lt; have BD := Blk.below BD hb2 BD.lt; have BE := Blk.below BE hb2 BE.lt; have BZ := Blk.below BZ hb2 BZ.lt; have hr := hr.below hb2; have hbw := Below.tr hbw hb2; clear hb2 HE2; by_cases hE0 : E2 = 0
 ·have t1 : (E2 != 0) = false := by simpa using hE0
  have HCL : Hid (clC E2 p d n1 n2 n3 = fullC p d n1 n2 n3) := by show _ = _; unfold clC; rw [if_pos hE0]
  subst hE0; have HON : Hid ((fullC p d n1 n2 n3).toArray.all (·.oneCell') = true) := all_oneCell_toArray (fullC_one hr hd); have HBZ := Lib.hid BZ; have a1 := BA.cell 1; have a4 := BA.cell 4; have a5 := BA.cell 5; simp only [cellsP, List.getElem?_toArray, List.getElem?_cons_zero, List.getElem?_cons_succ] at a1 a4 a5; have hF : Blk (w2.setCells gZ 0 (fullC p d n1 n2 n3).toArray.toList) gZ 58 (fullC p d n1 n2 n3).toArray := Blk.setAll BZ rfl; have hbz := below_setAll (g := gZ) hgz (fullC p d n1 n2 n3).toArray.toList 0 hbw; clear hr hd
  go_wp2_with (first | (refine wpList_load_mid rfl 31 (.tmp 4) rfl gD 0 rfl (cellsDG d) _ (blk_range BD) Tryz.underlying31 rfl (infoDGc (d := d)) ?_; simp only [Act.put, sA, sB, sC]) | (refine wpList_load_mid rfl 56 (.tmp 5) rfl gE 0 rfl (cellsE n1 n2 n3) _ (blk_range BE) Tryz.underlying56 rfl infoE3 ?_; simp only [Act.put, sA, sB, sC]) | (refine wpList_buildW rfl 58 [(0, .const (.int .i64 0)), (1, .tmp 15), (2, .tmp 17), (3, .tmp 18), (7, .tmp 20)] (by rfl) (fullC p d n1 n2 n3).toArray [(0, .int .i64 0), (1, .agg (cellsDG d).toArray), (2, .string p.test), (3, .agg (cellsE n1 n2 n3).toArray), (7, .agg #[p.b1, p.b2])] (by rfl) built_cl ?_; simp only [Act.put, sA, sB, sC]) | (refine wpList_store_mid rfl 58 (.tmp 6) (.tmp 21) rfl gZ 0 (fullC p d n1 n2 n3).toArray rfl rfl (Blk.there HBZ.out rfl) infoC26 HON.out ?_))
  (try simp only [Exit.inBlock, Exit.then])
  exact bodyPost_ret (results_cl rfl rfl rfl hF infoC26) rfl ⟨by rw [HCL.out]; rfl, hbz⟩
 ·have t1 : (E2 != 0) = true := by simpa using hE0
  have HCL : Hid (clC E2 p d n1 n2 n3 = zeroC) := by show _ = _; unfold clC; rw [if_neg hE0]
  have HON : Hid (zeroC.toArray.all (·.oneCell') = true) := all_oneCell_toArray zeroC_one; have HBZ := Lib.hid BZ; have hF : Blk (w2.setCells gZ 0 zeroC.toArray.toList) gZ 58 zeroC.toArray := Blk.setAll BZ rfl; have hbz := below_setAll (g := gZ) hgz zeroC.toArray.toList 0 hbw; clear hr hd hE0
  go_wp2_with (first | (refine wpList_store_mid rfl 58 (.tmp 6) (.tmp 13) rfl gZ 0 zeroC.toArray rfl rfl (Blk.there HBZ.out rfl) infoCz HON.out ?_))
  (try simp only [Exit.inBlock, Exit.then])
  exact bodyPost_ret (results_cl rfl rfl rfl hF infoCz) rfl ⟨by rw [HCL.out]; rfl, hbz⟩

end Go.Proofs.YtijkfagkbfbpmaaGreatDoor
namespace Go.Proofs.YtijkfagkbfbpmaaGreatDoor
open Go.RowKit
/-- two rows of limbs are those of a valid ratio -/
def GoodL (l1 l2 : List Nat) (p q : Nat) : Prop := l1 = Nm.lb p ∧ l2 = Nm.lb (Nm.dn q) ∧ Nm.Good p q
theorem RtL.good {w : World} {v : Value} {l1 l2 : List Nat} (h : RtL w v l1 l2) (hv : Nm.validE l1 l2 = 0) : ∃ p q, GoodL l1 l2 p q ∧ Rat w v p q := by
 obtain ⟨A1, k1, c1, A2, k2, c2, rfl, h1, h2, h3, h4⟩ := h; obtain ⟨p, q, e1, e2, hg⟩ := Nm.validE_spec h1.2.2.2.1 h2.2.2.2.1 hv; subst e1 e2; exact ⟨p, q, ⟨rfl, rfl, hg⟩, _, _, _, _, _, _, rfl, ⟨h3, h1⟩, ⟨h4, h2⟩⟩
end Go.Proofs.YtijkfagkbfbpmaaGreatDoor
namespace Go.Proofs.YtijkfagkbfbpmaaGreatDoor
open Go.RowKit
theorem Sl.facts {w : World} {g : Nat} (h : Sl w g) : (∃ a, w.cell? ⟨g, 0, none⟩ = some a) ∧ (∃ a, w.cell? ⟨g, 1, none⟩ = some a) ∧ w.frozen? ⟨g, 0, none⟩ = false ∧ w.frozen? ⟨g, 1, none⟩ = false := by
 obtain ⟨r1, r2, r3, r4, r5, r6, hb⟩ := h; exact ⟨⟨_, hb.cell 0⟩, ⟨_, hb.cell 1⟩, hb.frozen 0, hb.frozen 1⟩
end Go.Proofs.YtijkfagkbfbpmaaGreatDoor
namespace Go.Proofs.YtijkfagkbfbpmaaGreatDoor
open Go.RowKit
/-- the limbs of a ratio, whatever they are -/
abbrev LP := List Nat × List Nat
def RtP (w : World) (v : Value) (x : LP) : Prop := RtL w v x.1 x.2
theorem RtP.below {w w' : World} {v : Value} {x : LP} (h : RtP w v x) (hb : Below w.heap.size w w') : RtP w' v x := RtL.below h hb
theorem RtP.shape {w : World} {v : Value} {x : LP} (h : RtP w v x) : ∃ A1 k1 c1 A2 k2 c2, v = .agg #[.slice A1 k1 c1, .slice A2 k2 c2] := RtL.shape h
def nilP : LP := ([], [])
def ratP (p q : Nat) : LP := (Nm.lb p, Nm.lb (Nm.dn q))
theorem nil_rtP (w : World) : RtP w nilRat nilP := by
 have := (show Rat w (.agg #[.slice none 0 0, .slice none 0 0]) 0 1 from ⟨none, 0, 0, none, 0, 0, rfl, Nb.zero _, Nb.zero _⟩).rtl
 rwa [Nm.dn_one, Nm.lb_zero] at this
def validP (x : LP) : Int := Nm.validE x.1 x.2
theorem RtP.good {w : World} {v : Value} {x : LP} (h : RtP w v x) (hv : validP x = 0) : ∃ p q, x = ratP p q ∧ Nm.Good p q ∧ Rat w v p q := by
 obtain ⟨p, q, ⟨e1, e2, hg⟩, hr⟩ := RtL.good h hv; exact ⟨p, q, Prod.ext e1 e2, hg, hr⟩
end Go.Proofs.YtijkfagkbfbpmaaGreatDoor
namespace Go.Proofs.YtijkfagkbfbpmaaGreatDoor
open Go Go.RowKit
theorem cl_dig {w : World} {g : Nat} {T : TypeId} {p : PC} {d : DG} {n1 n2 n3 : Int} (h : Blk w g T (fullC p d n1 n2 n3).toArray) : w.rangeAt g 1 (cellsDG d) := by
 intro j v hj; rw [h.cell]; have h1 := (List.getElem?_eq_some_iff.1 hj).1
 rcases j with _ | _ | _ | _ | _ | _ | _ | _ | _ | _ | _ | _ | _ | _ | _ | _ | j <;> first | exact hj | (exfalso; simp only [cellsDG, List.length_cons, List.length_nil] at h1; omega)
theorem cl_env {w : World} {g : Nat} {T : TypeId} {p : PC} {d : DG} {n1 n2 n3 : Int} (h : Blk w g T (fullC p d n1 n2 n3).toArray) : w.rangeAt g 18 (cellsE n1 n2 n3) := by
 intro j v hj; rw [h.cell]; have h1 := (List.getElem?_eq_some_iff.1 hj).1
 rcases j with _ | _ | _ | j <;> first | exact hj | (exfalso; simp only [cellsE, List.length_cons, List.length_nil] at h1; omega)
theorem env_equal (w : World) (n1 n2 n3 : Int) (d : Nat) : (Op.equalIn (d + 2) 56 (.agg (cellsE n1 n2 n3).toArray) (.agg (cellsE n1 n2 n3).toArray)).run Tryz.prog w = .ok true w := by
 have h : (Op.equalIn (d + 2) 56 (.agg #[.int .i64 n1, .int .i64 n2, .int .i64 n3]) (.agg #[.int .i64 n1, .int .i64 n2, .int .i64 n3])).run Tryz.prog w = .ok (n1 == n1 && (n2 == n2 && (n3 == n3 && true))) w := by
  rw [eq_struct w (d + 1) 56 _ _ [(true, 3, 0), (true, 3, 1), (true, 3, 2)] (by kernel_rfl) (by kernel_rfl) (by kernel_rfl)]; refine eqF_step w (run_part_plain w (by kernel_rfl) rfl) (run_part_plain w (by kernel_rfl) rfl) (run_equalIn_int w d _ .i64 .i64 _ _ (by kernel_rfl)) ?_; refine eqF_step w (run_part_plain w (by kernel_rfl) rfl) (run_part_plain w (by kernel_rfl) rfl) (run_equalIn_int w d _ .i64 .i64 _ _ (by kernel_rfl)) ?_; refine eqF_step w (run_part_plain w (by kernel_rfl) rfl) (run_part_plain w (by kernel_rfl) rfl) (run_equalIn_int w d _ .i64 .i64 _ _ (by kernel_rfl)) ?_; rfl
 exact h.trans (by simp)
theorem env_neq (w : World) (n1 n2 n3 : Int) : (binOp .neq 56 (.agg (cellsE n1 n2 n3).toArray) (.agg (cellsE n1 n2 n3).toArray)).run Tryz.prog w = .ok (.bool false) w := by
 rw [run_neq_struct, show (10000 : Nat) = 9998 + 2 from rfl, env_equal w n1 n2 n3]; rfl
set_option maxRecDepth 100000 in
set_option maxHeartbeats 4000000 in
theorem sclaim_n (p : PC) (L1 L2 : List Nat) (d : DG) (dm : List Int) (n1 n2 n3 : Int) (w : World) (hr : RtL w (.agg #[p.b1, p.b2]) L1 L2) (hd : DgOk (cellsDG d) dm) :
  Calls Tryz.prog 29 #[.agg (fullC p d n1 n2 n3).toArray, .agg (fullC p d n1 n2 n3).toArray] w fun e w' => e = .returned (.bool true) ∧ Below w.heap.size w w' := by
 obtain ⟨W, HW⟩ : ∃ W, Hid (W = (w.alloc (.cells (fullC p d n1 n2 n3).toArray 58)).alloc (.cells (fullC p d n1 n2 n3).toArray 58)) := ⟨_, rfl⟩; have hbw : Below w.heap.size w W := by rw [HW.out]; exact Below.tr (bA _ _) (bA _ _)
 have B1 : Blk W w.heap.size 58 (fullC p d n1 n2 n3).toArray := by rw [HW.out]; exact (Blk.new _ _ _).alloc _
 have B2 : Blk W (w.heap.size + 1) 58 (fullC p d n1 n2 n3).toArray := by
  rw [HW.out]; have h := Blk.new (w.alloc (.cells (fullC p d n1 n2 n3).toArray 58)) 58 (fullC p d n1 n2 n3).toArray; rw [show (w.alloc (.cells (fullC p d n1 n2 n3).toArray 58)).heap.size = w.heap.size + 1 by simp] at h; exact h
 have hr := hr.below hbw
 have hneq : ∀ w, (binOp .neq 31 (.agg (cellsDG d).toArray) (.agg (cellsDG d).toArray)).run Tryz.prog w = .ok (.bool false) w := fun w => by
  rw [hd.1, dig_neq w dm dm hd.2 hd.2]; simp
 have hnE := fun w => env_neq w n1 n2 n3
 go_enter Tryz.func29, Tryz.ntmps29
 go_upto_region 1 with fail; refine wp_name ?_; intro W1 HW1; obtain rfl : W1 = W := by rw [HW1.out, HW.out]
 obtain ⟨gA, hgA⟩ : ∃ g, Hid (g = w.heap.size) := ⟨_, rfl⟩; obtain ⟨gB, hgB⟩ : ∃ g, Hid (g = w.heap.size + 1) := ⟨_, rfl⟩; rw [← hgB.out] at B2 ⊢; rw [← hgA.out] at B1
 conv in Value.pointer (some ⟨w.heap.size, 0, none⟩) => rw [← hgA.out]
 clear HW HW1 hd

 have a0 := B1.cell 0; have b0 := B2.cell 0; have a17 := B1.cell 17; have b17 := B2.cell 17; have a21 := B1.cell 21; have b21 := B2.cell 21; have a22 := B1.cell 22; have b22 := B2.cell 22; have a23 := B1.cell 23; have b23 := B2.cell 23; have a24 := B1.cell 24; have b24 := B2.cell 24; have a25 := B1.cell 25; have b25 := B2.cell 25; simp only [fullC, List.getElem?_toArray, List.getElem?_cons_zero, List.getElem?_cons_succ] at a0 a17 a21 a22 a23 a24 a25 b0 b17 b21 b22 b23 b24 b25
 go_wp2_with (first | (refine wpList_load_midG (by rfl) 31 (.tmp 11) rfl gA 1 rfl (cellsDG d) _ (cl_dig B1) Tryz.underlying31 rfl (infoDGc (d := d)) ?_; simp only [Act.put, sA, sB, sC]) | (refine wpList_load_midG (by rfl) 31 (.tmp 13) rfl gB 1 rfl (cellsDG d) _ (cl_dig B2) Tryz.underlying31 rfl (infoDGc (d := d)) ?_; simp only [Act.put, sA, sB, sC]) | (refine wpList_load_midG (by rfl) 56 (.tmp 25) rfl gA 18 rfl (cellsE n1 n2 n3) _ (cl_env B1) Tryz.underlying56 rfl infoE3 ?_; simp only [Act.put, sA, sB, sC]) | (refine wpList_load_midG (by rfl) 56 (.tmp 27) rfl gB 18 rfl (cellsE n1 n2 n3) _ (cl_env B2) Tryz.underlying56 rfl infoE3 ?_; simp only [Act.put, sA, sB, sC]))
 refine (same_any _ _ L1 L2 L1 L2 _ hr hr).mono ?_; rintro e w4 ⟨sb, rfl, HS, hb4⟩; obtain rfl : sb = true := by rw [HS.out]; unfold sameR sameB; simp
 go_wp2_with fail; go_ret; exact ⟨rfl, Below.tr hbw hb4⟩
theorem zeroC_full : zeroC = fullC ⟨0, ⟨#[]⟩, ⟨#[]⟩, 0, .slice none 0 0, .slice none 0 0, 0, 0, undef, undef, undef, undef, undef, undef, undef, undef, undef, undef, undef, undef, undef, undef, undef, undef⟩ zeroDG 0 0 0 := rfl
theorem sclaim_c (p : PC) (L1 L2 : List Nat) (d : DG) (dm : List Int) (n1 n2 n3 E : Int) (w : World) (hr : RtL w (.agg #[p.b1, p.b2]) L1 L2) (hd : DgOk (cellsDG d) dm) :
  Calls Tryz.prog 29 #[.agg (clC E p d n1 n2 n3).toArray, .agg (clC E p d n1 n2 n3).toArray] w fun e w' => e = .returned (.bool true) ∧ Below w.heap.size w w' := by
 unfold clC
 split
 ·exact sclaim_n p L1 L2 d dm n1 n2 n3 w hr hd
 ·rw [zeroC_full]; exact sclaim_n _ [] [] zeroDG (List.replicate 16 0) 0 0 0 w (nil_rtP w) zeroDG_ok
end Go.Proofs.YtijkfagkbfbpmaaGreatDoor
namespace Go.Proofs.YtijkfagkbfbpmaaGreatDoor
open Go Go.RowKit
def ShBx (T : TypeId) (n : Nat) (w : World) (g : Nat) : Prop := ∃ arr : Array Value, Blk w g T arr ∧ arr.size = n
theorem ShBx.mk' {T : TypeId} {n : Nat} {w : World} {g : Nat} {arr : Array Value} (h : Blk w g T arr) (e : arr.size = n) : ShBx T n w g := ⟨arr, h, e⟩
theorem ShBx.below {T : TypeId} {n : Nat} {w w' : World} {g : Nat} (h : ShBx T n w g) (hb : Below w.heap.size w w') : ShBx T n w' g := by
 obtain ⟨arr, h1, h2⟩ := h; exact ⟨arr, Blk.below h1 hb h1.lt, h2⟩
structure RBx (N : Nat) (T : TypeId) (n : Nat) (w w' : World) : Prop where
 be : Below N w w'
 kp : ∀ g, ShBx T n w g → ShBx T n w' g
theorem RBx.refl (N : Nat) (T : TypeId) (n : Nat) (w : World) : RBx N T n w w := ⟨Below.refl _ _, fun _ h => h⟩
theorem RBx.below {N : Nat} {T : TypeId} {n : Nat} {w w' : World} (hb : Below w.heap.size w w') (hN : N ≤ w.heap.size) : RBx N T n w w' := ⟨hb.mono hN, fun _ h => h.below hb⟩
theorem RBx.store {N g : Nat} {T : TypeId} {n : Nat} {w : World} (hg : N ≤ g) (cs : Array Value) (hn : cs.size = n) : RBx N T n w (w.setCells g 0 cs.toList) := by
 refine ⟨below_setAll hg _ 0 (Below.refl _ _), fun g' h => ?_⟩; obtain ⟨arr, h1, h2⟩ := h; by_cases e : g' = g
 ·subst e; exact ⟨cs, Blk.setAll h1 (by rw [h2, hn]), hn⟩
 ·exact ⟨arr, Blk.farAll e _ 0 h1, h2⟩
structure SBx (w0 : World) (ja js : Nat) (T : TypeId) (cs : Array Value) (L : Nat → Bool) (vs : Nat → Value) (w : World) : Prop where
 be : Below w0.heap.size w0 w
 st : L js = true → ∃ g, vs ja = .pointer (some ⟨g, 0, none⟩) ∧ w0.heap.size ≤ g ∧ Blk w g T cs
theorem SBx.start (w0 : World) (ja js : Nat) (T : TypeId) (cs : Array Value) (vs : Nat → Value) : SBx w0 ja js T cs (fun _ => false) vs w0.drew := ⟨bD _, fun h => by cases h⟩
theorem SBx.step {w0 : World} {ja js : Nat} {T : TypeId} {cs : Array Value} {L : Nat → Bool} {vs : Nat → Value} {w w' : World} (h : SBx w0 ja js T cs L vs w) (hb : Below w.heap.size w w') (i : Nat) (v : Value) (hi : ¬ (js = i)) (hj : i = ja → L js = false) : SBx w0 ja js T cs (updB L i) (upd vs i v) w' := by
 refine ⟨Below.tr h.be hb, fun hL => ?_⟩; have hL2 : L js = true := by rwa [show updB L i js = L js from if_neg hi] at hL
 obtain ⟨g, e, hg, hB⟩ := h.st hL2; have hne : ¬ (ja = i) := fun e2 => by rw [hj e2.symm] at hL2; cases hL2
 exact ⟨g, by rw [show upd vs i v ja = vs ja from if_neg hne]; exact e, hg, Blk.below hB hb hB.lt⟩
theorem SBx.stored {w0 : World} {ja js : Nat} {T : TypeId} {cs : Array Value} {L : Nat → Bool} {vs : Nat → Value} {w : World} (h : SBx w0 ja js T cs L vs w) {g : Nat} (e1 : vs ja = .pointer (some ⟨g, 0, none⟩)) (hg : w0.heap.size ≤ g) (hs : ShBx T cs.size w g) (n1 : ¬ (ja = js)) (u : Value) :
  SBx w0 ja js T cs (updB L js) (upd vs js u) (w.setCells g 0 cs.toList) := by
 obtain ⟨arr, h1, h2⟩ := hs; exact ⟨below_setAll hg _ 0 h.be, fun _ => ⟨g, by rw [show upd vs js u ja = vs ja from if_neg n1]; exact e1, hg, Blk.setAll h1 h2⟩⟩
end Go.Proofs.YtijkfagkbfbpmaaGreatDoor
namespace Go.Proofs.YtijkfagkbfbpmaaGreatDoor
open Go Go.RowKit
/- the encoding of integers, in plain numbers -/
namespace Wi
/-- the number of bytes of a number -/
def nb (m : Nat) : Nat := if h : m = 0 then 0 else nb (m / 256) + 1
termination_by m
decreasing_by omega
/-- big-endian digits -/
def be : Nat → Nat → List Nat
 | 0, _ => []
 | k + 1, m => (m / 256 ^ k % 256) :: be k m
end Wi
end Go.Proofs.YtijkfagkbfbpmaaGreatDoor
namespace Go.Proofs.YtijkfagkbfbpmaaGreatDoor.Nm
end Go.Proofs.YtijkfagkbfbpmaaGreatDoor.Nm
namespace Go.Proofs.YtijkfagkbfbpmaaGreatDoor
open Go.RowKit
end Go.Proofs.YtijkfagkbfbpmaaGreatDoor
namespace Go.Proofs.YtijkfagkbfbpmaaGreatDoor
open Go.RowKit
end Go.Proofs.YtijkfagkbfbpmaaGreatDoor
namespace Go.Proofs.YtijkfagkbfbpmaaGreatDoor
open Go.RowKit
theorem good_lt {p q : Nat} (g : Nm.Good p q) : p < Nm.B ^ 64 ∧ q < Nm.B ^ 64 := by
 refine ⟨Nm.lb_length_lt.1 g.fits.1, ?_⟩; have h := g.fits.2; unfold Nm.dn at h; by_cases h1 : q = 1
 ·subst h1; exact Nat.one_lt_pow (by omega) (by unfold Nm.B; omega)
 ·rw [if_neg h1] at h; exact Nm.lb_length_lt.1 h
end Go.Proofs.YtijkfagkbfbpmaaGreatDoor
namespace Go.Proofs.YtijkfagkbfbpmaaGreatDoor
open Go Go.RowKit
theorem RtP.mapL {w w' : World} {v : Value} {x : LP} (h : RtP w v x) (hm : ∀ A c l, Lim w A c l → Lim w' A c l) : RtP w' v x := by
 obtain ⟨A1, k1, c1, A2, k2, c2, rfl, h1, h2, e1, e2⟩ := h; exact ⟨A1, k1, c1, A2, k2, c2, rfl, hm _ _ _ h1, hm _ _ _ h2, e1, e2⟩
end Go.Proofs.YtijkfagkbfbpmaaGreatDoor
namespace Go.Proofs.YtijkfagkbfbpmaaGreatDoor
open Go Go.RowKit
end Go.Proofs.YtijkfagkbfbpmaaGreatDoor
namespace Go.Proofs.YtijkfagkbfbpmaaGreatDoor
open Go Go.RowKit
/- A region of calls on ratios whose last value goes to the result's block g. -/
end Go.Proofs.YtijkfagkbfbpmaaGreatDoor
namespace Go.Proofs.YtijkfagkbfbpmaaGreatDoor
open Go Go.RowKit
end Go.Proofs.YtijkfagkbfbpmaaGreatDoor
namespace Go.Proofs.YtijkfagkbfbpmaaGreatDoor
open Go Go.RowKit
end Go.Proofs.YtijkfagkbfbpmaaGreatDoor
namespace Go.Proofs.YtijkfagkbfbpmaaGreatDoor
open Go Go.RowKit
end Go.Proofs.YtijkfagkbfbpmaaGreatDoor
namespace Go.Proofs.YtijkfagkbfbpmaaGreatDoor
open Go Go.RowKit
/-- limbs -/
def okP (x : LP) : Prop := (∀ a ∈ x.1, a < Nm.B) ∧ ∀ a ∈ x.2, a < Nm.B
theorem RtP.ok {w : World} {v : Value} {x : LP} (h : RtP w v x) : okP x := by
 obtain ⟨A1, k1, c1, A2, k2, c2, rfl, h1, h2, h3, h4⟩ := h; exact ⟨h1.2.2.2.1, h2.2.2.2.1⟩
end Go.Proofs.YtijkfagkbfbpmaaGreatDoor
namespace Go.Proofs.YtijkfagkbfbpmaaGreatDoor
open Go Go.RowKit
theorem Rd.newC (w : World) (T : TypeId) (cs : List Value) : Rd (w.alloc (.cells cs.toArray T)) (some ⟨w.heap.size, 0, none⟩) cs := by
 intro _; refine ⟨_, _, rfl, fun i h => ?_⟩; rw [Nat.zero_add, (Blk.new w T cs.toArray).cell]; simp [h]
theorem RtP.grownBy {w w' : World} {v a : Value} {x : LP} (h : RtP w v x) (k : w.grownBy w' a.ownBlock) (hO : OwnAll NoL w a) : RtP w' v x := h.mapL fun _ _ _ hl => hl.grownBy k hO
theorem RtP.noL {w : World} {v1 v2 : Value} {x : LP} (h : RtP w (.agg #[v1, v2]) x) : (∀ u ∈ [v1, v2], NoL u) ∧ ∀ u ∈ [v1, v2], u.oneCell' = true := by
 obtain ⟨A1, k1, c1, A2, k2, c2, e⟩ := h.shape; simp only [Value.agg.injEq, Array.mk.injEq, List.cons.injEq, and_true] at e; obtain ⟨rfl, rfl⟩ := e
 constructor
 ·intro u hu; simp only [List.mem_cons, List.not_mem_nil, or_false] at hu
  rcases hu with rfl | rfl <;> (intro n e; cases e)
 ·intro u hu; simp only [List.mem_cons, List.not_mem_nil, or_false] at hu
  rcases hu with rfl | rfl <;> rfl
end Go.Proofs.YtijkfagkbfbpmaaGreatDoor
