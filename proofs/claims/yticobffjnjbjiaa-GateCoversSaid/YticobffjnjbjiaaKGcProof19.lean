import Derived.Test.YticobffjnjbjiaaKGcProof18
import Derived.Test.YticobffjnjbjiaaJ10
import Derived.Laws.EntriesVeiled
import Derived.Test.YticobffjnjbjiaaJ16
import Derived.Test.YticobffjnjbjiaaJ13
import Derived.Test.YticobffjnjbjiaaJ11
import Derived.Test.YticobffjnjbjiaaKGcProof17
import Derived.Test.YticobffjnjbjiaaJ09
import Derived.Test.YticobffjnjbjiaaS0
set_option linter.unusedVariables false
set_option linter.unusedSimpArgs false
namespace Go.Proofs.Yticobffjnjbjiaa
open Go Go.RowKit
/-- what is known at a moment -/
structure MM where
 tick : Int
 r0 : Value
 r1 : Value
 r2 : Value
 r3 : Value
 r4 : Value
 r5 : Value
 r6 : Value
 r7 : Value
 r8 : Value
 r9 : Value
 r10 : Value
 r11 : Value
 r12 : Value
 r13 : Value
 r14 : Value
 r15 : Value
 A : Option Addr
 k : Nat
 c : Nat
def cellsM (m : MM) : List Value := [.int .i64 m.tick, m.r0, m.r1, m.r2, m.r3, m.r4, m.r5, m.r6, m.r7, m.r8, m.r9, m.r10, m.r11, m.r12, m.r13, m.r14, m.r15, .slice m.A m.k m.c]
def mdg (m : MM) : List Value := [m.r0, m.r1, m.r2, m.r3, m.r4, m.r5, m.r6, m.r7, m.r8, m.r9, m.r10, m.r11, m.r12, m.r13, m.r14, m.r15]
def pdg (m : PC) : List Value := [m.r0, m.r1, m.r2, m.r3, m.r4, m.r5, m.r6, m.r7, m.r8, m.r9, m.r10, m.r11, m.r12, m.r13, m.r14, m.r15]
theorem infoM {m : MM} : (Try.prog.info? 138).map (·.size) = some (cellsM m).length := by kernel_rfl
theorem infoMd {m : MM} : (Try.prog.info? 51).map (·.size) = some (mdg m).length := by kernel_rfl
theorem infoPd {m : PC} : (Try.prog.info? 51).map (·.size) = some (pdg m).length := by kernel_rfl
/-- equality of digests -/
theorem dig_equal (w : World) (d : Nat) (l m : List Int) (hl : l.length = 16) (hm : m.length = 16) : (Op.equalIn (d + 2) 51 (.agg (bytes16 l).toArray) (.agg (bytes16 m).toArray)).run Try.prog w = .ok (l == m) w := by
 obtain ⟨ib, hib⟩ : ∃ i, Try.prog.info? 5 = some i := by
  have h : (Try.prog.info? 5).map (·.size) = some 1 := by kernel_rfl
  cases e : Try.prog.info? 5 with
  | none => rw [e] at h; cases h
  | some i => exact ⟨i, rfl⟩
 rw [run_equalIn_array w (d + 1) _ _ (show Try.prog.underlying 51 = some (.array 16 5) by kernel_rfl) hib, show Try.prog.cellsOf 5 = 1 by kernel_rfl]; refine eq_bytes w d _ _ _ _ _ (by rw [hl, hm]) ?_ ?_ (by simp [hl])
 ·intro j n h; have h1 := (List.getElem?_eq_some_iff.1 h).1; rw [hl] at h1; refine ⟨j, ?_, ?_⟩
  ·simp [h1]
  ·simp [bytes16, h]
 ·intro j n h; have h1 := (List.getElem?_eq_some_iff.1 h).1; rw [hm] at h1; refine ⟨j, ?_, ?_⟩
  ·simp [h1]
  ·simp [bytes16, h]
theorem dig_neq (w : World) (l m : List Int) (hl : l.length = 16) (hm : m.length = 16) : (binOp .neq 51 (.agg (bytes16 l).toArray) (.agg (bytes16 m).toArray)).run Try.prog w = .ok (.bool (!(l == m))) w := by
 rw [run_neq_struct, show (10000 : Nat) = 9998 + 2 from rfl, dig_equal w 9998 l m hl hm]; rfl
/-- digests of bytes -/
def DgOk (l : List Value) (d : List Int) : Prop := l = bytes16 d ∧ d.length = 16
theorem early_n (m : MM) (p : PC) (k : Int) (w : World) :
  Calls Try.prog 117 #[.agg (cellsM m).toArray, .agg (cellsP p).toArray, .int .i64 k] w fun e w' => e = .returned (.bool (decide (m.tick < p.fr))) ∧ Below w.heap.size w w' := by
 unfold cellsM cellsP
 go_enter Try.func117, Try.ntmps117
 go_wp2_with fail; go_ret; exact ⟨rfl, Below.tr (bA _ _) (bA _ _)⟩
theorem over_n (m : MM) (p : PC) (k : Int) (w : World) :
  Calls Try.prog 118 #[.agg (cellsM m).toArray, .agg (cellsP p).toArray, .int .i64 k] w fun e w' => e = .returned (.bool (decide (p.un ≤ m.tick))) ∧ Below w.heap.size w w' := by
 unfold cellsM cellsP
 go_enter Try.func118, Try.ntmps118
 go_wp2_with fail; go_ret; exact ⟨rfl, Below.tr (bA _ _) (bA _ _)⟩
set_option maxRecDepth 10000 in
theorem changed_n (m : MM) (p : PC) (k : Int) (dm dp : List Int) (hm : DgOk (mdg m) dm) (hp : DgOk (pdg p) dp) (w : World) :
  Calls Try.prog 119 #[.agg (cellsM m).toArray, .agg (cellsP p).toArray, .int .i64 k] w fun e w' => e = .returned (.bool (!(dm == dp))) ∧ Below w.heap.size w w' := by
 obtain ⟨b, HB⟩ : ∃ b, Hid (b = !(dm == dp)) := ⟨_, rfl⟩; rw [← HB.out]
 have hneq : ∀ w, (binOp .neq 51 (.agg (mdg m).toArray) (.agg (pdg p).toArray)).run Try.prog w = .ok (.bool b) w := fun w => by
  rw [hm.1, hp.1, dig_neq w dm dp hm.2 hp.2, HB.out]
 clear hm hp; have hb1 := bA w (.cells (cellsM m).toArray 138); have hb2 := bA (w.alloc (.cells (cellsM m).toArray 138)) (.cells (cellsP p).toArray 53)
 have r1 : (((w.alloc (.cells (cellsM m).toArray 138)).alloc (.cells (cellsP p).toArray 53))).rangeAt w.heap.size 1 (mdg m) := by
  have hB := (Blk.new w 138 (cellsM m).toArray).alloc (.cells (cellsP p).toArray 53); intro j v hj; rw [hB.cell]; have h1 := (List.getElem?_eq_some_iff.1 hj).1
  rcases j with _ | _ | _ | _ | _ | _ | _ | _ | _ | _ | _ | _ | _ | _ | _ | _ | j <;> first | exact hj | (exfalso; simp only [mdg, List.length_cons, List.length_nil] at h1; omega)
 have r2 : (((w.alloc (.cells (cellsM m).toArray 138)).alloc (.cells (cellsP p).toArray 53))).rangeAt (w.heap.size + 1) 8 (pdg p) := by
  have hB := Blk.new (w.alloc (.cells (cellsM m).toArray 138)) 53 (cellsP p).toArray; have e : (w.alloc (.cells (cellsM m).toArray 138)).heap.size = w.heap.size + 1 := by simp
  rw [e] at hB; intro j v hj; rw [hB.cell]; have h1 := (List.getElem?_eq_some_iff.1 hj).1
  rcases j with _ | _ | _ | _ | _ | _ | _ | _ | _ | _ | _ | _ | _ | _ | _ | _ | j <;> first | exact hj | (exfalso; simp only [pdg, List.length_cons, List.length_nil] at h1; omega)
 go_enter Try.func119, Try.ntmps119
 go_wp2_with (first | (refine wpList_load_mid rfl 51 (.tmp 7) rfl w.heap.size 1 rfl (mdg m) _ r1 Try.underlying51 rfl infoMd ?_; simp only [Act.put, sA, sB, sC]) | (refine wpList_load_mid rfl 51 (.tmp 9) rfl (w.heap.size + 1) 8 rfl (pdg p) _ r2 Try.underlying51 rfl infoPd ?_; simp only [Act.put, sA, sB, sC]))
 go_ret; exact ⟨rfl, Below.tr hb1 hb2⟩
theorem index_n (A : Option Addr) (k c : Nat) (l : List Int) (x : Int) (w : World) (hl : RowS intC w A k l) :
  Calls Try.prog 130 #[.slice A k c, .int .i64 x] w fun e w' => ∃ n : Int, e = .returned (.int .i64 n) ∧ Hid (0 ≤ n ↔ x ∈ l) ∧ w = w' := by
 have hk := hl.2.1; have hk2 := hl.2.2; have HK := Lib.hid hk
 go_enter Try.func130, Try.ntmps130
 go_wp2_with fail
 go_loopg [8] k (fun m v wr => ∃ i : Nat, v = .int .i64 i ∧ i + m = k ∧ Hid (x ∉ l.take i) ∧ wr = w)
 case atStart => exact ⟨0, rfl, by omega, by show _ ∉ _; simp, rfl⟩
 case round =>
  obtain ⟨i, rfl, him, HN, rfl⟩ := hrel; by_cases hi : i < k
  ·have t1 : decide ((i : Int) < (k : Int)) = true := by simp; omega
   have li : (i : Int) < (k : Int) := by omega
   obtain ⟨b, off, n, rfl, hc, HX⟩ := hl.int hi; by_cases hn : x = n
   ·subst hn; have HI : Hid (0 ≤ (i : Int) ↔ x ∈ l) := ⟨fun _ => List.mem_of_getElem? HX.out, fun _ => by omega⟩; go_wp2_with fail; go_ret; exact ⟨_, rfl, HI, rfl⟩
   ·have hn2 : (x == n) = false := by simpa using hn
    have HN2 : Hid (x ∉ l.take (i + 1)) := by
     show _ ∉ _
     rw [List.take_add_one, HX.out]; simp only [Option.toList, List.mem_append, List.mem_singleton, not_or]; exact ⟨HN.out, hn⟩
    go_wp2_with fail
    go_roundg (gk - 1)
    case measure => omega
    case rel => exact ⟨i + 1, by go_num, by omega, HN2, rfl⟩
  ·have t1 : decide ((i : Int) < (k : Int)) = false := by simp; omega
   have li : ¬ ((i : Int) < (k : Int)) := by omega
   have HI : Hid (0 ≤ (-1 : Int) ↔ x ∈ l) := by
    have h := HN.out; rw [List.take_of_length_le (by have := HK.out; omega)] at h; exact ⟨fun h => by omega, fun h' => absurd h' h⟩
   go_wp2_with fail; go_ret; exact ⟨_, rfl, HI, rfl⟩
theorem ctn_n (A : Option Addr) (k c : Nat) (l : List Int) (x : Int) (w : World) (hl : RowS intC w A k l) :
  Calls Try.prog 121 #[.slice A k c, .int .i64 x] w fun e w' => e = .returned (.bool (l.contains x)) ∧ w = w' := by
 obtain ⟨b, HB⟩ : ∃ b, Hid (b = l.contains x) := ⟨_, rfl⟩; rw [← HB.out]
 go_enter Try.func121, Try.ntmps121
 go_wp2_with fail; refine (index_n A k c l x _ hl).mono ?_; rintro e w' ⟨n, rfl, HI, rfl⟩; by_cases h : 0 ≤ n
 ·have h1 : decide (n ≥ 0) = true := by simpa using h
  obtain rfl : b = true := by rw [HB.out]; simpa using HI.out.1 h
  go_wp2_with fail; go_ret; exact ⟨rfl, rfl⟩
 ·have h1 : decide (n ≥ 0) = false := by simpa using h
  obtain rfl : b = false := by rw [HB.out]; simpa using fun h' => h (HI.out.2 h')
  go_wp2_with fail; go_ret; exact ⟨rfl, rfl⟩
set_option maxRecDepth 10000 in
theorem broken_n (m : MM) (p : PC) (k : Int) (l : List Int) (w : World) (hl : RowS intC w m.A m.k l) :
  Calls Try.prog 120 #[.agg (cellsM m).toArray, .agg (cellsP p).toArray, .int .i64 k] w fun e w' => e = .returned (.bool (l.contains k)) ∧ Below w.heap.size w w' := by
 obtain ⟨b, HB⟩ : ∃ b, Hid (b = l.contains k) := ⟨_, rfl⟩; rw [← HB.out]; have hl2 := (hl.below (bA w (.cells (cellsM m).toArray 138))).below (bA (w.alloc (.cells (cellsM m).toArray 138)) (.cells (cellsP p).toArray 53)); unfold cellsM cellsP at *
 go_enter Try.func120, Try.ntmps120
 go_wp2_with fail; refine (ctn_n m.A m.k m.c l k _ hl2).mono ?_; rintro e w' ⟨he, rfl⟩; rw [← HB.out] at he; subst he; go_wp2_with fail; go_ret; exact ⟨rfl, Below.tr (bA _ _) (bA _ _)⟩
/-- what alone returns: four rules -/
def rulesC : List Value := [.int .i64 1, .func (.func 117) #[] #[], .int .i64 2, .func (.func 118) #[] #[], .int .i64 3, .func (.func 119) #[] #[], .int .i64 4, .func (.func 120) #[] #[]]
/-- the state of a promise by itself -/
def stN (tick : Int) (dm : List Int) (br : List Int) (p : PC) (dp : List Int) (k : Int) : Int :=
 if tick < p.fr then 1 else if p.un ≤ tick then 2 else if !(dm == dp) then 3 else if br.contains k then 4 else 0
theorem alone_n (w : World) :
  Calls Try.prog 108 #[] w fun e w' => e = .returned (.slice (some ⟨w.heap.size, 0, none⟩) 4 4) ∧ Hid (Blk w' w.heap.size 155 rulesC.toArray) ∧ Below w.heap.size w w' := by
 go_enter Try.func108, Try.ntmps108
 go_wp2_with fail; go_ret; exact ⟨rfl, Blk.new _ _ _, bA _ _⟩
theorem blk_range {w : World} {g : Nat} {T : TypeId} {cs : List Value} (h : Blk w g T cs.toArray) : w.rangeAt g 0 cs := by
 intro j v hj; rw [h.cell, Nat.zero_add]
 simpa using hj
theorem infoRu2 {v1 v2 : Value} : (Try.prog.info? 155).map (·.size) = some (#[v1, v2] : Array Value).size := by kernel_rfl
def HRel (m : MM) (p : PC) (dm dp br : List Int) (k : Int) : Nat → Prop
 | 0 => True
 | 1 => ¬ m.tick < p.fr ∧ True
 | 2 => ¬ m.tick < p.fr ∧ ¬ p.un ≤ m.tick ∧ True
 | 3 => ¬ m.tick < p.fr ∧ ¬ p.un ≤ m.tick ∧ ¬ (!(dm == dp)) = true ∧ True
 | _ => ¬ m.tick < p.fr ∧ ¬ p.un ≤ m.tick ∧ ¬ (!(dm == dp)) = true ∧ ¬ br.contains k = true ∧ True
set_option maxRecDepth 100000 in
set_option maxHeartbeats 4000000 in
theorem mstate_n (m : MM) (p : PC) (k : Int) (dm dp br : List Int) (hdm : DgOk (mdg m) dm) (hdp : DgOk (pdg p) dp) (w : World) (hbr : RowS intC w m.A m.k br) :
  Calls Try.prog 87 #[.agg (cellsM m).toArray, .agg (cellsP p).toArray, .int .i64 k] w fun e w' => e = .returned (.int .i64 (stN m.tick dm br p dp k)) ∧ Below w.heap.size w w' := by
 have hbw0 : Below w.heap.size w ((w.alloc (.cells (cellsM m).toArray 138)).alloc (.cells (cellsP p).toArray 53)) := Below.tr (bA _ _) (bA _ _); have BM0 := (Blk.new w 138 (cellsM m).toArray).alloc (.cells (cellsP p).toArray 53); have BP0 := Blk.new (w.alloc (.cells (cellsM m).toArray 138)) 53 (cellsP p).toArray; rw [show (w.alloc (.cells (cellsM m).toArray 138)).heap.size = w.heap.size + 1 by simp] at BP0
 go_enter Try.func87, Try.ntmps87
 go_wp2_with fail; refine (alone_n _).mono ?_; rintro e w1 ⟨rfl, HR1, hb1⟩; have hbw0 := Below.tr hbw0 hb1; have HBM := Lib.hid (Blk.below BM0 hb1 BM0.lt); have HBP := Lib.hid (Blk.below BP0 hb1 BP0.lt); clear BM0 BP0 hb1; generalize ((w.alloc (.cells (cellsM m).toArray 138)).alloc (.cells (cellsP p).toArray 53)).heap.size = gR at HR1; go_wp2_with fail
 go_loopg [11] 4 (fun mm x wr => ∃ i : Nat, x = .int .i64 i ∧ i + mm = 4 ∧ Hid (HRel m p dm dp br k i) ∧ Below w1.heap.size w1 wr)
 case atStart => exact ⟨0, rfl, by omega, trivial, Below.refl _ _⟩
 case round =>
  obtain ⟨i, rfl, him, H, hbe⟩ := hrel; have hR := Blk.below HR1.out hbe HR1.out.lt
  rcases i with _ | _ | _ | _ | i
  ·have q0 : wr.cell? ⟨gR, 0 + 0, none⟩ = some (.int .i64 1) := by rw [hR.cell]; rfl
   have q1 : wr.cell? ⟨gR, 0 + 0 + 1, none⟩ = some (.func (.func 117) #[] #[]) := by rw [hR.cell]; rfl
   simp only [Nat.zero_add, Nat.reduceAdd] at q0 q1; go_upto_region 4 with fail; refine wp_name ?_; intro v4 HV4; have hb4 : Below wr.heap.size wr v4 := by rw [HV4.out]; exact bA _ _
   have B8 : Blk v4 wr.heap.size 155 #[.int .i64 1, .func (.func 117) #[] #[]] := by rw [HV4.out]; exact Blk.new _ _ _
   have BM4 := Blk.below (Blk.below HBM.out hbe HBM.out.lt) hb4 (Nat.lt_of_lt_of_le HBM.out.lt hbe.size); have BP4 := Blk.below (Blk.below HBP.out hbe HBP.out.lt) hb4 (Nat.lt_of_lt_of_le HBP.out.lt hbe.size); have q1 := B8.cell 1; simp only [List.getElem?_toArray, List.getElem?_cons_zero, List.getElem?_cons_succ] at q1; generalize wr.heap.size = g8 at B8 q1; clear HV4 q0
   go_wp2_with (first | (refine wpList_load_mid rfl 138 (.tmp 3) rfl w.heap.size 0 rfl (cellsM m) _ (blk_range BM4) Try.underlying138 rfl infoM ?_; simp only [Act.put, sA, sB, sC]) | (refine wpList_load_mid rfl 53 (.tmp 4) rfl (w.heap.size + 1) 0 rfl (cellsP p) _ (blk_range BP4) Try.underlying53 rfl infoP ?_; simp only [Act.put, sA, sB, sC]))
   refine (early_n m p k _).mono ?_; rintro e w5 ⟨rfl, hb5⟩; have B8 := Blk.below B8 hb5 B8.lt; have q0 := B8.cell 0; simp only [List.getElem?_toArray, List.getElem?_cons_zero, List.getElem?_cons_succ] at q0; have hbz := Below.tr hbe (Below.tr hb4 hb5); clear q1 BM4 BP4 hb4 hb5 hR; by_cases hc : m.tick < p.fr
   ·have hd : decide (m.tick < p.fr) = true := by simpa using hc
    have HS : Hid ((1 : Int) = stN m.tick dm br p dp k) := by
     show _ = _
     unfold stN; rw [if_pos hc]
    clear hc; go_wp2_with fail; go_ret; exact ⟨by rw [← HS.out]; rfl, Below.tr hbw0 hbz⟩
   ·have hd : decide (m.tick < p.fr) = false := by simpa using hc
    have HH : Hid (¬ m.tick < p.fr ∧ True) := ⟨hc, trivial⟩; clear hc H; go_wp2_with fail
    go_roundg (gk - 1)
    case measure => omega
    case rel => exact ⟨1, by go_num, by omega, by simpa [HRel] using HH, hbz⟩
  ·have q0 : wr.cell? ⟨gR, 0 + 2, none⟩ = some (.int .i64 2) := by rw [hR.cell]; rfl
   have q1 : wr.cell? ⟨gR, 0 + 2 + 1, none⟩ = some (.func (.func 118) #[] #[]) := by rw [hR.cell]; rfl
   simp only [Nat.zero_add, Nat.reduceAdd] at q0 q1; go_upto_region 4 with fail; refine wp_name ?_; intro v4 HV4; have hb4 : Below wr.heap.size wr v4 := by rw [HV4.out]; exact bA _ _
   have B8 : Blk v4 wr.heap.size 155 #[.int .i64 2, .func (.func 118) #[] #[]] := by rw [HV4.out]; exact Blk.new _ _ _
   have BM4 := Blk.below (Blk.below HBM.out hbe HBM.out.lt) hb4 (Nat.lt_of_lt_of_le HBM.out.lt hbe.size); have BP4 := Blk.below (Blk.below HBP.out hbe HBP.out.lt) hb4 (Nat.lt_of_lt_of_le HBP.out.lt hbe.size); have q1 := B8.cell 1; simp only [List.getElem?_toArray, List.getElem?_cons_zero, List.getElem?_cons_succ] at q1; generalize wr.heap.size = g8 at B8 q1; clear HV4 q0
   go_wp2_with (first | (refine wpList_load_mid rfl 138 (.tmp 3) rfl w.heap.size 0 rfl (cellsM m) _ (blk_range BM4) Try.underlying138 rfl infoM ?_; simp only [Act.put, sA, sB, sC]) | (refine wpList_load_mid rfl 53 (.tmp 4) rfl (w.heap.size + 1) 0 rfl (cellsP p) _ (blk_range BP4) Try.underlying53 rfl infoP ?_; simp only [Act.put, sA, sB, sC]))
   refine (over_n m p k _).mono ?_; rintro e w5 ⟨rfl, hb5⟩; have B8 := Blk.below B8 hb5 B8.lt; have q0 := B8.cell 0; simp only [List.getElem?_toArray, List.getElem?_cons_zero, List.getElem?_cons_succ] at q0; have hbz := Below.tr hbe (Below.tr hb4 hb5); clear q1 BM4 BP4 hb4 hb5 hR; by_cases hc : p.un ≤ m.tick
   ·have hd : decide (p.un ≤ m.tick) = true := by simpa using hc
    have HS : Hid ((2 : Int) = stN m.tick dm br p dp k) := by
     show _ = _
     unfold stN; rw [if_neg H.out.1]; rw [if_pos hc]
    clear hc; go_wp2_with fail; go_ret; exact ⟨by rw [← HS.out]; rfl, Below.tr hbw0 hbz⟩
   ·have hd : decide (p.un ≤ m.tick) = false := by simpa using hc
    have HH : Hid (¬ m.tick < p.fr ∧ ¬ p.un ≤ m.tick ∧ True) := ⟨H.out.1, hc, trivial⟩; clear hc H; go_wp2_with fail
    go_roundg (gk - 1)
    case measure => omega
    case rel => exact ⟨2, by go_num, by omega, by simpa [HRel] using HH, hbz⟩
  ·have q0 : wr.cell? ⟨gR, 0 + 4, none⟩ = some (.int .i64 3) := by rw [hR.cell]; rfl
   have q1 : wr.cell? ⟨gR, 0 + 4 + 1, none⟩ = some (.func (.func 119) #[] #[]) := by rw [hR.cell]; rfl
   simp only [Nat.zero_add, Nat.reduceAdd] at q0 q1; go_upto_region 4 with fail; refine wp_name ?_; intro v4 HV4; have hb4 : Below wr.heap.size wr v4 := by rw [HV4.out]; exact bA _ _
   have B8 : Blk v4 wr.heap.size 155 #[.int .i64 3, .func (.func 119) #[] #[]] := by rw [HV4.out]; exact Blk.new _ _ _
   have BM4 := Blk.below (Blk.below HBM.out hbe HBM.out.lt) hb4 (Nat.lt_of_lt_of_le HBM.out.lt hbe.size); have BP4 := Blk.below (Blk.below HBP.out hbe HBP.out.lt) hb4 (Nat.lt_of_lt_of_le HBP.out.lt hbe.size); have q1 := B8.cell 1; simp only [List.getElem?_toArray, List.getElem?_cons_zero, List.getElem?_cons_succ] at q1; generalize wr.heap.size = g8 at B8 q1; clear HV4 q0
   go_wp2_with (first | (refine wpList_load_mid rfl 138 (.tmp 3) rfl w.heap.size 0 rfl (cellsM m) _ (blk_range BM4) Try.underlying138 rfl infoM ?_; simp only [Act.put, sA, sB, sC]) | (refine wpList_load_mid rfl 53 (.tmp 4) rfl (w.heap.size + 1) 0 rfl (cellsP p) _ (blk_range BP4) Try.underlying53 rfl infoP ?_; simp only [Act.put, sA, sB, sC]))
   refine (changed_n m p k dm dp hdm hdp _).mono ?_; rintro e w5 ⟨rfl, hb5⟩; have B8 := Blk.below B8 hb5 B8.lt; have q0 := B8.cell 0; simp only [List.getElem?_toArray, List.getElem?_cons_zero, List.getElem?_cons_succ] at q0; have hbz := Below.tr hbe (Below.tr hb4 hb5); clear q1 BM4 BP4 hb4 hb5 hR; by_cases hc : (!(dm == dp)) = true
   ·have hd : (!(dm == dp)) = true := by exact hc
    have HS : Hid ((3 : Int) = stN m.tick dm br p dp k) := by
     show _ = _
     unfold stN; rw [if_neg H.out.1]; rw [if_neg H.out.2.1]; rw [if_pos hc]
    clear hc; go_wp2_with fail; go_ret; exact ⟨by rw [← HS.out]; rfl, Below.tr hbw0 hbz⟩
   ·have hd : (!(dm == dp)) = false := by simpa using hc
    have HH : Hid (¬ m.tick < p.fr ∧ ¬ p.un ≤ m.tick ∧ ¬ (!(dm == dp)) = true ∧ True) := ⟨H.out.1, H.out.2.1, hc, trivial⟩; clear hc H; go_wp2_with fail
    go_roundg (gk - 1)
    case measure => omega
    case rel => exact ⟨3, by go_num, by omega, by simpa [HRel] using HH, hbz⟩
  ·have q0 : wr.cell? ⟨gR, 0 + 6, none⟩ = some (.int .i64 4) := by rw [hR.cell]; rfl
   have q1 : wr.cell? ⟨gR, 0 + 6 + 1, none⟩ = some (.func (.func 120) #[] #[]) := by rw [hR.cell]; rfl
   simp only [Nat.zero_add, Nat.reduceAdd] at q0 q1; go_upto_region 4 with fail; refine wp_name ?_; intro v4 HV4; have hb4 : Below wr.heap.size wr v4 := by rw [HV4.out]; exact bA _ _
   have B8 : Blk v4 wr.heap.size 155 #[.int .i64 4, .func (.func 120) #[] #[]] := by rw [HV4.out]; exact Blk.new _ _ _
   have BM4 := Blk.below (Blk.below HBM.out hbe HBM.out.lt) hb4 (Nat.lt_of_lt_of_le HBM.out.lt hbe.size); have BP4 := Blk.below (Blk.below HBP.out hbe HBP.out.lt) hb4 (Nat.lt_of_lt_of_le HBP.out.lt hbe.size); have q1 := B8.cell 1; simp only [List.getElem?_toArray, List.getElem?_cons_zero, List.getElem?_cons_succ] at q1; generalize wr.heap.size = g8 at B8 q1; clear HV4 q0
   go_wp2_with (first | (refine wpList_load_mid rfl 138 (.tmp 3) rfl w.heap.size 0 rfl (cellsM m) _ (blk_range BM4) Try.underlying138 rfl infoM ?_; simp only [Act.put, sA, sB, sC]) | (refine wpList_load_mid rfl 53 (.tmp 4) rfl (w.heap.size + 1) 0 rfl (cellsP p) _ (blk_range BP4) Try.underlying53 rfl infoP ?_; simp only [Act.put, sA, sB, sC]))
   refine (broken_n m p k br _ (hbr.below (Below.tr hbw0 (Below.tr hbe hb4)))).mono ?_; rintro e w5 ⟨he, hb5⟩; obtain ⟨bb, HBB⟩ : ∃ bb, Hid (bb = br.contains k) := ⟨_, rfl⟩; rw [← HBB.out] at he; subst he; have B8 := Blk.below B8 hb5 B8.lt; have q0 := B8.cell 0; simp only [List.getElem?_toArray, List.getElem?_cons_zero, List.getElem?_cons_succ] at q0; have hbz := Below.tr hbe (Below.tr hb4 hb5); clear q1 BM4 BP4 hb4 hb5 hR; by_cases hc : br.contains k = true
   ·have hd : bb = true := by rw [HBB.out]; exact hc
    have HS : Hid ((4 : Int) = stN m.tick dm br p dp k) := by
     show _ = _
     unfold stN; rw [if_neg H.out.1]; rw [if_neg H.out.2.1]; rw [if_neg H.out.2.2.1]; rw [if_pos hc]
    clear hc; go_wp2_with fail; go_ret; exact ⟨by rw [← HS.out]; rfl, Below.tr hbw0 hbz⟩
   ·have hd : bb = false := by rw [HBB.out]; simpa using hc
    have HH : Hid (¬ m.tick < p.fr ∧ ¬ p.un ≤ m.tick ∧ ¬ (!(dm == dp)) = true ∧ ¬ br.contains k = true ∧ True) := ⟨H.out.1, H.out.2.1, H.out.2.2.1, hc, trivial⟩; clear hc H; go_wp2_with fail
    go_roundg (gk - 1)
    case measure => omega
    case rel => exact ⟨4, by go_num, by omega, by simpa [HRel] using HH, hbz⟩
  ·obtain rfl : i = 0 := by omega
   have HS : Hid ((0 : Int) = stN m.tick dm br p dp k) := by
    show _ = _
    unfold stN; rw [if_neg H.out.1, if_neg H.out.2.1, if_neg H.out.2.2.1, if_neg H.out.2.2.2.1]
   go_wp2_with fail; go_ret; exact ⟨by rw [← HS.out]; rfl, Below.tr hbw0 hbe⟩
end Go.Proofs.Yticobffjnjbjiaa
namespace Go.Proofs.Yticobffjnjbjiaa
open Go Go.RowKit
set_option maxRecDepth 10000 in
set_option maxHeartbeats 400000 in
theorem equ32_n (A1 A2 : Option Addr) (k1 c1 k2 c2 : Nat) (l1 l2 : List Nat) (w : World) (h1 : Lim w A1 c1 l1) (h2 : Lim w A2 c2 l2) (e1 : k1 = l1.length) (e2 : k2 = l2.length) :
  Calls Try.prog 122 #[.slice A1 k1 c1, .slice A2 k2 c2] w fun e w' => ∃ b, e = .returned (.bool b) ∧ Hid (b = sameB l1 l2) ∧ Below w.heap.size w w' := by
 have hkb1 : k1 ≤ 9223372036854775807 := by have := h1.2.1; have := h1.2.2.1; omega
 have E1 := Lib.hid e1; have E2 := Lib.hid e2; by_cases hk : k1 = k2
 ·subst hk; clear e1 e2
  go_enter Try.func122, Try.ntmps122
  go_wp2
  go_loopg [13] k1 (fun j x wr => ∃ i : Nat, x = .int .i64 i ∧ i + j = k1 ∧ Hid (l1.take i = l2.take i) ∧ ∃ nq, wr = w.drewN nq)
  case atStart => exact ⟨0, rfl, by omega, by show _ = _; simp, 0, rfl⟩
  case round =>
   obtain ⟨i, rfl, hij, HT, nq, rfl⟩ := hrel; by_cases hi : i < k1
   ·obtain ⟨b1, o1, a, rfl, hca, ha, HA⟩ := h1.get (k := i) (by have := E1.out; omega); obtain ⟨b2, o2, b, rfl, hcb, hb, HB⟩ := h2.get (k := i) (by have := E2.out; omega); by_cases hab : a = b
    ·have HT2 : Hid (l1.take (i + 1) = l2.take (i + 1)) := take_same (by have := E1.out; omega) (by rw [← E1.out, ← E2.out]) HT.out HA.out HB.out hab; have hd : ((a : Int) != (b : Int)) = false := by rw [hab]; simp
     clear hab; go_wp2_with fail
     go_quiet (fail)
     go_wp2_with fail
     go_roundg (gk - 1)
     case measure => omega
     case rel => exact ⟨i + 1, by go_num, by omega, HT2, _, rfl⟩
    ·have hd : ((a : Int) != (b : Int)) = true := by simp; omega
     have HF : Hid (false = sameB l1 l2) := by
      show _ = _; unfold sameB; symm; rw [decide_eq_false_iff_not]
      rintro rfl; exact hab (HA.out.trans HB.out.symm)
     clear hab; go_wp2_with fail
     go_quiet (fail)
     go_wp2_with fail; go_ret; exact ⟨_, rfl, HF, Below.tr (below_drewN _ _) (below_drewN _ _)⟩
   ·obtain rfl : k1 = i := by omega
    have HF : Hid (true = sameB l1 l2) := by
     show _ = _; unfold sameB; symm; rw [decide_eq_true_iff]
     have := HT.out
     rwa [List.take_of_length_le (by rw [← E1.out]; omega), List.take_of_length_le (by rw [← E2.out]; omega)] at this
    go_wp2_with fail; go_ret; exact ⟨_, rfl, HF, below_drewN _ _⟩
 ·have HF : Hid (false = sameB l1 l2) := by
   show _ = _; unfold sameB; symm; rw [decide_eq_false_iff_not]
   rintro rfl; exact hk (e1.trans e2.symm)
  have hd : ((k1 : Int) != (k2 : Int)) = true := by simp; omega
  clear e1 e2 hk
  go_enter Try.func122, Try.ntmps122
  go_wp2
  go_ret; exact ⟨_, rfl, HF, Below.refl _ _⟩
set_option maxRecDepth 10000 in
set_option maxHeartbeats 400000 in
theorem psame_n (va vb : Value) (L1 L2 L3 L4 : List Nat) (w : World) (ha : RtL w va L1 L2) (hb : RtL w vb L3 L4) :
  Calls Try.prog 109 #[va, vb] w fun e w' => ∃ b, e = .returned (.bool b) ∧ Hid (b = sameR L1 L2 L3 L4) ∧ Below w.heap.size w w' := by
 obtain ⟨A1, k1, c1, A2, k2, c2, rfl, h1, h2, e1, e2⟩ := ha; obtain ⟨B1, m1, d1, B2, m2, d2, rfl, h3, h4, e3, e4⟩ := hb; have E1 := Lib.hid e1; have E2 := Lib.hid e2; have E3 := Lib.hid e3; have E4 := Lib.hid e4; clear e1 e2 e3 e4; obtain ⟨W, HW⟩ : ∃ W, Hid (W = (w.alloc (.cells #[.slice A1 k1 c1, .slice A2 k2 c2] 24)).alloc (.cells #[.slice B1 m1 d1, .slice B2 m2 d2] 24)) := ⟨_, rfl⟩; have hbw : Below w.heap.size w W := by rw [HW.out]; exact Below.tr (bA _ _) (bA _ _)
 have BA : Blk W w.heap.size 24 #[.slice A1 k1 c1, .slice A2 k2 c2] := by rw [HW.out]; exact (Blk.new _ _ _).alloc _
 have BB : Blk W (w.heap.size + 1) 24 #[.slice B1 m1 d1, .slice B2 m2 d2] := by
  rw [HW.out]; have h := Blk.new (w.alloc (.cells #[.slice A1 k1 c1, .slice A2 k2 c2] 24)) 24 #[.slice B1 m1 d1, .slice B2 m2 d2]
  simpa using h
 have h1 := h1.below hbw; have h2 := h2.below hbw; have h3 := h3.below hbw; have h4 := h4.below hbw; have q0 := BA.cell 0; have q2 := BB.cell 0; simp only [List.getElem?_toArray, List.getElem?_cons_zero, List.getElem?_cons_succ] at q0 q2
 go_enter Try.func109, Try.ntmps109
 go_wp2_with fail; rw [← HW.out]; go_wp2_with fail; refine (equ32_n A1 B1 k1 c1 m1 d1 L1 L3 _ h1 h3 E1.out E3.out).mono ?_; rintro e w2 ⟨b, rfl, HX, hb2⟩; have q1 := (Blk.below BA hb2 BA.lt).cell 1; have q3 := (Blk.below BB hb2 BB.lt).cell 1; simp only [List.getElem?_toArray, List.getElem?_cons_zero, List.getElem?_cons_succ] at q1 q3; clear q0 q2
 cases b
 ·go_wp2_with fail; go_ret; exact ⟨_, rfl, by show _ = _; unfold sameR; rw [← HX.out]; rfl, Below.tr hbw hb2⟩
 ·go_wp2_with fail; refine (equ32_n A2 B2 k2 c2 m2 d2 L2 L4 _ (h2.below hb2) (h4.below hb2) E2.out E4.out).mono ?_; rintro e w3 ⟨b, rfl, HY, hb3⟩; go_wp2_with fail; go_ret; exact ⟨_, rfl, by show _ = _; unfold sameR; rw [← HX.out, ← HY.out]; simp, Below.tr hbw (Below.tr hb2 hb3)⟩
end Go.Proofs.Yticobffjnjbjiaa
namespace Go.Proofs.Yticobffjnjbjiaa
open Go Go.RowKit
theorem wpList_load_midG {P : Program} {ops : Array Oper} {rest : List Oper} {op : Oper} {a : Act} {w : World} {Q : Exit → Act → World → Prop} (hw : Region.wanted op (yielded ops a.tmps) = true) (ty : TypeId) (x : Operand) (ho : op.op = .load ty x)
  (b o : Nat) (hx : a.eval x = .pointer (some ⟨b, o, none⟩)) (cs : List Value) (d : TypeDesc) (hc : w.rangeAt b o cs)
  (hu : P.underlying ty = some d) (hd : d.isRow = true) (hi : (P.info? ty).map (·.size) = some cs.length)
  (h : wpList P ops Q rest (a.put op.dst (.agg cs.toArray)) w) : wpList P ops Q (op :: rest) a w :=
 wpList_step fun _ hK => by rw [if_pos hw]; exact wp_load_mid ty x ho b o hx cs d hc hu hd hi (hK _ _ h)
/-- two promises contradict each other -/
def clB (E F : Int) (p q : PC) (dp dq : List Int) (s : Bool) : Bool :=
 decide (E = 0 ∧ F = 0 ∧ p.test = q.test ∧ p.wh = q.wh ∧ p.site = q.site ∧ dp = dq ∧ s = false ∧ max p.fr q.fr < min p.un q.un)
theorem digR {w : World} {g : Nat} {T : TypeId} {p : PC} (h : Blk w g T (cellsP p).toArray) : w.rangeAt g 8 (pdg p) := by
 intro j v hj; rw [h.cell]; have h1 := (List.getElem?_eq_some_iff.1 hj).1
 rcases j with _ | _ | _ | _ | _ | _ | _ | _ | _ | _ | _ | _ | _ | _ | _ | _ | j <;> first | exact hj | (exfalso; simp only [pdg, List.length_cons, List.length_nil] at h1; omega)
set_option maxRecDepth 100000 in
set_option maxHeartbeats 4000000 in
theorem clash_n (p q : PC) (L1 L2 M1 M2 : List Nat) (dp dq : List Int) (w : World) (hrp : RtL w (.agg #[p.b1, p.b2]) L1 L2) (hrq : RtL w (.agg #[q.b1, q.b2]) M1 M2) (hp1 : p.test.size ≤ 9223372036854775807) (hp2 : p.wh.size ≤ 9223372036854775807) (hq1 : q.test.size ≤ 9223372036854775807) (hq2 : q.wh.size ≤ 9223372036854775807) (hdp : DgOk (pdg p) dp) (hdq : DgOk (pdg q) dq) :
  Calls Try.prog 88 #[.agg (cellsP p).toArray, .agg (cellsP q).toArray] w fun e w' => ∃ E F b, e = .returned (.bool b) ∧ Hid (PVal p L1 L2 E ∧ (E = 0 → PVal q M1 M2 F) ∧ b = clB E F p q dp dq (sameR L1 L2 M1 M2)) ∧ Below w.heap.size w w' := by
 obtain ⟨W, HW⟩ : ∃ W, Hid (W = (w.alloc (.cells (cellsP p).toArray 53)).alloc (.cells (cellsP q).toArray 53)) := ⟨_, rfl⟩; have hbw : Below w.heap.size w W := by rw [HW.out]; exact Below.tr (bA _ _) (bA _ _)
 have BA : Blk W w.heap.size 53 (cellsP p).toArray := by rw [HW.out]; exact (Blk.new _ _ _).alloc _
 have BB : Blk W (w.heap.size + 1) 53 (cellsP q).toArray := by
  rw [HW.out]; have h := Blk.new (w.alloc (.cells (cellsP p).toArray 53)) 53 (cellsP q).toArray
  simpa using h
 have hrp := hrp.below hbw; have hrq := hrq.below hbw
 go_enter Try.func88, Try.ntmps88
 go_upto_region 1 with fail; rw [← HW.out]
 go_wp2_with (first | (refine wpList_load_mid rfl 53 (.tmp 2) rfl w.heap.size 0 rfl (cellsP p) _ (blk_range BA) Try.underlying53 rfl infoP ?_; simp only [Act.put, sA, sB, sC]))
 refine (pvalid_n p L1 L2 _ hrp hp1 hp2).mono ?_; rintro e w2 ⟨E, rfl, HE, hb2⟩; have hbz := Below.tr hbw hb2; have BA := Blk.below BA hb2 BA.lt; have BB := Blk.below BB hb2 BB.lt; by_cases hE : E = 0
 ·have h0 : (E != 0) = false := by simpa using hE
  go_wp2_with (first | (refine wpList_load_midG (by rfl) 53 (.tmp 3) rfl (w.heap.size + 1) 0 rfl (cellsP q) _ (blk_range BB) Try.underlying53 rfl infoP ?_; simp only [Act.put, sA, sB, sC]))
  refine (pvalid_n q M1 M2 _ (hrq.below hb2) hq1 hq2).mono ?_; rintro e w3 ⟨F, rfl, HF, hb3⟩; have hbz := Below.tr hbz hb3; have BA := Blk.below BA hb3 BA.lt; have BB := Blk.below BB hb3 BB.lt; have hrp := (hrp.below hb2).below hb3; have hrq := (hrq.below hb2).below hb3; clear hb2 hb3 hbw; by_cases hF : F = 0
  ·have hF0 : (F != 0) = false := by simpa using hF
   have a1 := BA.cell 1; have a2 := BA.cell 2; have a3 := BA.cell 3; have a4 := BA.cell 4; have a5 := BA.cell 5; have a6 := BA.cell 6; have a7 := BA.cell 7; have b1 := BB.cell 1; have b2 := BB.cell 2; have b3 := BB.cell 3; have b4 := BB.cell 4; have b5 := BB.cell 5; have b6 := BB.cell 6; have b7 := BB.cell 7; simp only [cellsP, List.getElem?_toArray, List.getElem?_cons_zero, List.getElem?_cons_succ] at a1 a2 a3 a4 a5 a6 a7 b1 b2 b3 b4 b5 b6 b7; have HEF : Hid (PVal p L1 L2 E ∧ (E = 0 → PVal q M1 M2 F)) := ⟨HE.out, fun _ => HF.out⟩; by_cases ht : p.test = q.test
   ·by_cases hw : p.wh = q.wh
    ·by_cases hs : p.site = q.site
     ·obtain ⟨bd, HBD⟩ : ∃ bd, Hid (bd = !(dp == dq)) := ⟨_, rfl⟩
      have hneq : ∀ w, (binOp .neq 51 (.agg (pdg p).toArray) (.agg (pdg q).toArray)).run Try.prog w = .ok (.bool bd) w := fun w => by
       rw [hdp.1, hdq.1, dig_neq w dp dq hdp.2 hdq.2, HBD.out]
      have HT3 : Hid (p.test = q.test ∧ p.wh = q.wh ∧ p.site = q.site) := ⟨ht, hw, hs⟩; by_cases hd : dp = dq
      ·obtain rfl : bd = false := by rw [HBD.out, hd]; simp
       clear hdp hdq
       go_upto_region 3 with (first | (refine wpList_load_midG (by rfl) 51 (.tmp 35) rfl w.heap.size 8 rfl (pdg p) _ (digR BA) Try.underlying51 rfl infoPd ?_; simp only [Act.put, sA, sB, sC]) | (refine wpList_load_midG (by rfl) 51 (.tmp 37) rfl (w.heap.size + 1) 8 rfl (pdg q) _ (digR BB) Try.underlying51 rfl infoPd ?_; simp only [Act.put, sA, sB, sC]))
       clear ht hw hs; go_wp2_with fail; refine (psame_n _ _ L1 L2 M1 M2 _ hrp hrq).mono ?_; rintro e w4 ⟨sb, rfl, HS, hb4⟩; have hbz := Below.tr hbz hb4; have a6 := cell_keep hb4 a6; have a7 := cell_keep hb4 a7; have b6 := cell_keep hb4 b6; have b7 := cell_keep hb4 b7
       have HFIN : ∀ b : Bool, (b = true ↔ sb = false ∧ max p.fr q.fr < min p.un q.un) → Hid (PVal p L1 L2 E ∧ (E = 0 → PVal q M1 M2 F) ∧ b = clB E F p q dp dq (sameR L1 L2 M1 M2)) := by
        intro b hb; refine ⟨HEF.out.1, HEF.out.2, ?_⟩; unfold clB; rw [Bool.eq_iff_iff, hb, decide_eq_true_iff, ← HS.out]; exact ⟨fun h => ⟨hE, hF, HT3.out.1, HT3.out.2.1, HT3.out.2.2, hd, h.1, h.2⟩, fun h => h.2.2.2.2.2.2⟩
       have HFI := Lib.hid HFIN; clear HFIN hE hF hd HT3
       cases sb
       ·go_wp2_with fail; go_ret; exact ⟨E, F, _, rfl, HFI.out _ (by simp), hbz⟩
       ·go_wp2_with fail; go_ret; exact ⟨E, F, false, rfl, HFI.out _ (by simp), hbz⟩
      ·obtain rfl : bd = true := by rw [HBD.out]; simpa using hd
       clear hdp hdq
       go_wp2_with (first | (refine wpList_load_midG (by rfl) 51 (.tmp 35) rfl w.heap.size 8 rfl (pdg p) _ (digR BA) Try.underlying51 rfl infoPd ?_; simp only [Act.put, sA, sB, sC]) | (refine wpList_load_midG (by rfl) 51 (.tmp 37) rfl (w.heap.size + 1) 8 rfl (pdg q) _ (digR BB) Try.underlying51 rfl infoPd ?_; simp only [Act.put, sA, sB, sC]))
       go_ret; exact ⟨E, F, false, rfl, ⟨HEF.out.1, HEF.out.2, by unfold clB; symm; rw [decide_eq_false_iff_not]; exact fun h => hd h.2.2.2.2.2.1⟩, hbz⟩
     ·go_wp2_with (first | (refine wpList_load_midG (by rfl) 51 (.tmp 35) rfl w.heap.size 8 rfl (pdg p) _ (digR BA) Try.underlying51 rfl infoPd ?_; simp only [Act.put, sA, sB, sC]) | (refine wpList_load_midG (by rfl) 51 (.tmp 37) rfl (w.heap.size + 1) 8 rfl (pdg q) _ (digR BB) Try.underlying51 rfl infoPd ?_; simp only [Act.put, sA, sB, sC]))
      go_ret; exact ⟨E, F, false, rfl, ⟨HEF.out.1, HEF.out.2, by unfold clB; symm; rw [decide_eq_false_iff_not]; exact fun h => hs h.2.2.2.2.1⟩, hbz⟩
    ·have hw2 : ¬ p.wh.toList = q.wh.toList := fun h => hw (by simpa [ByteArray.toList_eq, ByteArray.ext_iff] using h)
     go_wp2_with (first | (refine wpList_load_midG (by rfl) 51 (.tmp 35) rfl w.heap.size 8 rfl (pdg p) _ (digR BA) Try.underlying51 rfl infoPd ?_; simp only [Act.put, sA, sB, sC]) | (refine wpList_load_midG (by rfl) 51 (.tmp 37) rfl (w.heap.size + 1) 8 rfl (pdg q) _ (digR BB) Try.underlying51 rfl infoPd ?_; simp only [Act.put, sA, sB, sC]))
     go_ret; exact ⟨E, F, false, rfl, ⟨HEF.out.1, HEF.out.2, by unfold clB; symm; rw [decide_eq_false_iff_not]; exact fun h => hw h.2.2.2.1⟩, hbz⟩
   ·have ht2 : ¬ p.test.toList = q.test.toList := fun h => ht (by simpa [ByteArray.toList_eq, ByteArray.ext_iff] using h)
    go_wp2_with (first | (refine wpList_load_midG (by rfl) 51 (.tmp 35) rfl w.heap.size 8 rfl (pdg p) _ (digR BA) Try.underlying51 rfl infoPd ?_; simp only [Act.put, sA, sB, sC]) | (refine wpList_load_midG (by rfl) 51 (.tmp 37) rfl (w.heap.size + 1) 8 rfl (pdg q) _ (digR BB) Try.underlying51 rfl infoPd ?_; simp only [Act.put, sA, sB, sC]))
    go_ret; exact ⟨E, F, false, rfl, ⟨HEF.out.1, HEF.out.2, by unfold clB; symm; rw [decide_eq_false_iff_not]; exact fun h => ht h.2.2.1⟩, hbz⟩
  ·have hF0 : (F != 0) = true := by simpa using hF
   go_wp2_with fail; go_ret; exact ⟨E, F, false, rfl, ⟨HE.out, fun _ => HF.out, by unfold clB; symm; rw [decide_eq_false_iff_not]; exact fun h => hF h.2.1⟩, hbz⟩
 ·have h0 : (E != 0) = true := by simpa using hE
  go_wp2_with fail; go_ret; exact ⟨E, 0, false, rfl, ⟨HE.out, fun h => absurd h hE, by unfold clB; symm; rw [decide_eq_false_iff_not]; exact fun h => hE h.1⟩, hbz⟩
end Go.Proofs.Yticobffjnjbjiaa
namespace Go.Proofs.Yticobffjnjbjiaa
open Go Go.RowKit
theorem own_nil0 (w : World) (T : TypeId) (size : Nat) : (w.alloc (.cells #[] T)).ownsRow w.heap.size T size (.slice (some ⟨w.heap.size, 0, none⟩) 0 0) 0 [] :=
 ⟨by simp, .inr ⟨_, 0, #[], rfl, Nat.le_refl _, heap_alloc_new w _, Nat.le_refl _, by unfold maxLen; omega, by simp, by simp⟩⟩
theorem own_any {α : Type} {f : α → List Value} {m : Nat} (hf : ∀ x, (f x).length = m) {w : World} {base : Nat} {T : TypeId} {A : Option Addr} {n c : Nat} {X : List α} (hm : 0 < m) (hn : n ≤ 281474976710656) (h : w.ownsRow base T m (.slice A n c) n (X.flatMap f)) : RowS f w A n X := by
 obtain ⟨_, _, e, hr⟩ := own_rowS hf hm hn h; injection e with e1 _ _; subst e1; exact hr
theorem rtl_rat {w : World} {v : Value} {p q : Nat} (h : Rat w v p q) : RtL w v (Nm.lb p) (Nm.lb (Nm.dn q)) := by
 obtain ⟨A1, k1, c1, A2, k2, c2, rfl, h1, h2⟩ := h; exact ⟨A1, k1, c1, A2, k2, c2, rfl, h1.2, h2.2, h1.1, h2.1⟩
theorem PVal.uniq {p : PC} {L1 L2 : List Nat} {e f : Int} (h : PVal p L1 L2 e) (k : PVal p L1 L2 f) : e = f := by
 rcases h with ⟨h1, rfl⟩ | ⟨a, b, h1, h2, h3, rfl⟩
 ·rcases k with ⟨_, k2⟩ | ⟨a, b, k1, k2, k3, _⟩
  ·exact k2.symm
  ·rw [k1, k2] at h1; exact absurd (Nm.validE_of k3) h1
 ·rcases k with ⟨k1, _⟩ | ⟨a', b', k1, k2, k3, rfl⟩
  ·rw [h1, h2] at k1; exact absurd (Nm.validE_of h3) k1
  ·have e1 : a = a' := Nm.lb_inj (h1.symm.trans k1); have e2 : b = b' := Nm.dn_inj h3.pos k3.pos (Nm.lb_inj (h2.symm.trans k2)); rw [e1, e2]
def EscOk (w : World) (ps : List PC) (Lf : Nat → List Nat × List Nat) : Prop := ∀ (n : Nat) p, ps[n]? = some p → RtL w (.agg #[p.b1, p.b2]) (Lf n).1 (Lf n).2 ∧ p.test.size ≤ 9223372036854775807 ∧ p.wh.size ≤ 9223372036854775807
theorem EscOk.below {w w' : World} {ps : List PC} {Lf : Nat → List Nat × List Nat} (h : EscOk w ps Lf) (hb : Below w.heap.size w w') : EscOk w' ps Lf := fun n p hp => ⟨(h n p hp).1.below hb, (h n p hp).2⟩
end Go.Proofs.Yticobffjnjbjiaa
namespace Go.Proofs.Yticobffjnjbjiaa
open Go Go.RowKit
/-- the state of the promise i of a list, by itself -/
def stA (tick : Int) (dm br : List Int) (dg : Nat → List Int) (ps : List PC) (i : Nat) : Int := match ps[i]? with
 | some p => stN tick dm br p (dg i) (i : Int)
 | none => 0
/-- two promises of a list contradict each other -/
def clA (Ev : Nat → Int) (Lf : Nat → List Nat × List Nat) (dg : Nat → List Int) (ps : List PC) (n i : Nat) : Bool := match ps[n]?, ps[i]? with
 | some p, some q => clB (Ev n) (Ev i) p q (dg n) (dg i) (sameR (Lf n).1 (Lf n).2 (Lf i).1 (Lf i).2)
 | _, _ => false
/-- a promise contradicts the promise n, and holds by itself -/
def hitA (tick : Int) (dm br : List Int) (Ev : Nat → Int) (Lf : Nat → List Nat × List Nat) (dg : Nat → List Int) (ps : List PC) (n i : Nat) : Bool :=
 (i != n) && clA Ev Lf dg ps n i && (stA tick dm br dg ps i == 0)
/-- the state of the promise n of a list -/
def stF (tick : Int) (dm br : List Int) (Ev : Nat → Int) (Lf : Nat → List Nat × List Nat) (dg : Nat → List Int) (ps : List PC) (n : Nat) : Int :=
 if stA tick dm br dg ps n ≠ 0 then stA tick dm br dg ps n else if (List.range ps.length).any (hitA tick dm br Ev Lf dg ps n) then 5 else 0
/-- what State says -/
def StP (kl : Nat) (tick : Int) (dm br : List Int) (Ev : Nat → Int) (Lf : Nat → List Nat × List Nat) (dg : Nat → List Int) (ps : List PC) (k s er : Int) : Prop :=
 ((k < 0 ∨ (kl : Int) ≤ k) ∧ s = 0 ∧ er = 5) ∨ ∃ n : Nat, k = (n : Int) ∧ n < kl ∧ ((Ev n ≠ 0 ∧ s = 0 ∧ er = Ev n) ∨ (Ev n = 0 ∧ er = 0 ∧ s = stF tick dm br Ev Lf dg ps n))
theorem wpList_buildW {P : Program} {ops : Array Oper} {rest : List Oper} {o : Oper} {a : Act} {w : World} {Q : Exit → Act → World → Prop} (hg : o.guard = none) (t : TypeId) (pl : List (Nat × Operand)) (ho : o.op = .build t pl.toArray)
  (cells : Array Value) (vals : List (Nat × Value)) (hv : (pl.map fun (i, x) => (i, a.eval x)) = vals) (hf : P.built t vals = some cells) (h : wpList P ops Q rest (a.put o.dst (.agg cells)) w) : wpList P ops Q (o :: rest) a w :=
 wpList_plain hg fun _ hK => wp_buildTo t _ ho cells (by rw [← hv] at hf; simpa using hf) (hK _ _ h)
theorem built_mm {m : MM} : (Try.prog).built 138 [(0, .int .i64 m.tick), (1, .agg (mdg m).toArray), (2, .slice m.A m.k m.c)] = some (cellsM m).toArray := by kernel_rfl
theorem infoMs {m : MM} : (Try.prog.info? 138).map (·.size) = some (cellsM m).toArray.size := by kernel_rfl
theorem infoPs {p : PC} : (Try.prog.info? 53).map (·.size) = some (cellsP p).toArray.size := by kernel_rfl
theorem bytes_one {l : List Value} {d : List Int} (h : DgOk l d) : ∀ v ∈ l, v.oneCell' = true := by
 intro v hv; rw [h.1] at hv; obtain ⟨n, _, rfl⟩ := List.mem_map.1 hv; rfl
theorem mm_one {m : MM} {d : List Int} (h : DgOk (mdg m) d) : ((cellsM m).toArray.all (·.oneCell') = true) := by
 refine all_oneCell_toArray fun v hv => ?_
 simp only [cellsM, List.mem_cons] at hv; have h1 := bytes_one h; simp only [mdg, List.mem_cons] at h1
 rcases hv with rfl | hv
 ·rfl
 ·rcases hv with h2 | h2 | h2 | h2 | h2 | h2 | h2 | h2 | h2 | h2 | h2 | h2 | h2 | h2 | h2 | h2 | h2 | h2
  all_goals first | (exact absurd h2 List.not_mem_nil) | (subst h2; rfl) | exact h1 v (by simp [h2])
theorem pp_one {p : PC} {d : List Int} {w : World} {L1 L2 : List Nat} (h : DgOk (pdg p) d) (hr : RtL w (.agg #[p.b1, p.b2]) L1 L2) : ((cellsP p).toArray.all (·.oneCell') = true) := by
 obtain ⟨A1, k1, c1, A2, k2, c2, hsh⟩ := hr.shape; simp only [Value.agg.injEq, Array.mk.injEq, List.cons.injEq, and_true] at hsh; refine all_oneCell_toArray fun v hv => ?_
 simp only [cellsP, List.mem_cons] at hv; have h1 := bytes_one h; simp only [pdg, List.mem_cons] at h1
 rcases hv with rfl | rfl | rfl | rfl | rfl | rfl | rfl | rfl | hv
 ·rfl
 ·rfl
 ·rfl
 ·rfl
 ·rw [hsh.1]; rfl
 ·rw [hsh.2]; rfl
 ·rfl
 ·rfl
 ·rcases hv with h2 | h2 | h2 | h2 | h2 | h2 | h2 | h2 | h2 | h2 | h2 | h2 | h2 | h2 | h2 | h2 | h2
  all_goals first | (exact absurd h2 List.not_mem_nil) | exact h1 v (by simp [h2])
def PhiSt7 (Al : Option Addr) (kl cl b off n : Nat) (m : MM) (p : PC) (s : Int) (j : Nat) (w : World) (x : Value) : Prop :=
 match j with
 | 0 => x = .agg (cellsM m).toArray
 | 1 => x = .slice Al kl cl
 | 2 => x = .int .i64 (n : Nat)
 | 3 => x = .pointer (some ⟨b, off + n * 24, none⟩)
 | 4 => x = .agg (cellsP p).toArray
 | 5 => x = .int .i64 (n : Nat)
 | 6 => x = .int .i64 s
 | 7 => x = .int .i64 s
 | _ => True
theorem PhiSt7.keep {Al : Option Addr} {kl cl b off n : Nat} {m : MM} {p : PC} {s : Int} : ∀ (w w' : World), Below w.heap.size w w' → ∀ j x, PhiSt7 Al kl cl b off n m p s j w x → PhiSt7 Al kl cl b off n m p s j w' x := by
 intro w w' hb j x h; unfold PhiSt7 at h ⊢; exact h
def PhiSt13A (Al : Option Addr) (kl cl b off n i : Nat) (m : MM) (p q : PC) (s : Int) (gm gp : Nat) (j : Nat) (w : World) (x : Value) : Prop :=
 match j with
 | 0 => x = .int .i64 (i : Nat)
 | 1 => x = .int .i64 (n : Nat)
 | 2 => x = .bool false
 | 3 => x = .bool false
 | 4 => x = undef
 | 5 => x = undef
 | 6 => x = undef
 | 7 => x = undef
 | 8 => x = undef
 | 9 => x = undef
 | 10 => x = .bool false
 | 11 => x = .bool false
 | 12 => x = undef
 | 13 => x = undef
 | 14 => x = undef
 | 15 => x = undef
 | 16 => x = undef
 | 17 => x = .bool false
 | _ => True
theorem PhiSt13A.keep {Al : Option Addr} {kl cl b off n i : Nat} {m : MM} {p q : PC} {s : Int} {gm gp : Nat} : ∀ (w w' : World), Below w.heap.size w w' → ∀ j x, PhiSt13A Al kl cl b off n i m p q s gm gp j w x → PhiSt13A Al kl cl b off n i m p q s gm gp j w' x := by
 intro w w' hb j x h; unfold PhiSt13A at h ⊢; exact h
def PhiSt13B (Al : Option Addr) (kl cl b off n i : Nat) (m : MM) (p q : PC) (s : Int) (gm gp : Nat) (j : Nat) (w : World) (x : Value) : Prop :=
 match j with
 | 0 => x = .int .i64 (i : Nat)
 | 1 => x = .int .i64 (n : Nat)
 | 2 => x = .bool true
 | 3 => x = .bool true
 | 4 => x = .slice Al kl cl
 | 5 => x = .int .i64 (n : Nat)
 | 6 => x = .pointer (some ⟨b, off + n * 24, none⟩)
 | 7 => x = .agg (cellsP p).toArray
 | 8 => x = .agg (cellsP q).toArray
 | 9 => x = .bool false
 | 10 => x = .bool false
 | 11 => x = .bool false
 | 12 => x = undef
 | 13 => x = undef
 | 14 => x = undef
 | 15 => x = undef
 | 16 => x = undef
 | 17 => x = .bool false
 | _ => True
theorem PhiSt13B.keep {Al : Option Addr} {kl cl b off n i : Nat} {m : MM} {p q : PC} {s : Int} {gm gp : Nat} : ∀ (w w' : World), Below w.heap.size w w' → ∀ j x, PhiSt13B Al kl cl b off n i m p q s gm gp j w x → PhiSt13B Al kl cl b off n i m p q s gm gp j w' x := by
 intro w w' hb j x h; unfold PhiSt13B at h ⊢; exact h
def PhiSt13C (Al : Option Addr) (kl cl b off n i : Nat) (m : MM) (p q : PC) (s : Int) (gm gp : Nat) (j : Nat) (w : World) (x : Value) : Prop :=
 match j with
 | 0 => x = .int .i64 (i : Nat)
 | 1 => x = .int .i64 (n : Nat)
 | 2 => x = .bool true
 | 3 => x = .bool true
 | 4 => x = .slice Al kl cl
 | 5 => x = .int .i64 (n : Nat)
 | 6 => x = .pointer (some ⟨b, off + n * 24, none⟩)
 | 7 => x = .agg (cellsP p).toArray
 | 8 => x = .agg (cellsP q).toArray
 | 9 => x = .bool true
 | 10 => x = .bool true
 | 11 => x = .bool true
 | 12 => x = .agg (cellsM m).toArray
 | 13 => x = .agg (cellsP q).toArray
 | 14 => x = .int .i64 (i : Nat)
 | 15 => x = .int .i64 s
 | 16 => x = .bool (s == 0)
 | 17 => x = .bool (s == 0)
 | _ => True
theorem PhiSt13C.keep {Al : Option Addr} {kl cl b off n i : Nat} {m : MM} {p q : PC} {s : Int} {gm gp : Nat} : ∀ (w w' : World), Below w.heap.size w w' → ∀ j x, PhiSt13C Al kl cl b off n i m p q s gm gp j w x → PhiSt13C Al kl cl b off n i m p q s gm gp j w' x := by
 intro w w' hb j x h; unfold PhiSt13C at h ⊢; exact h
set_option maxRecDepth 100000 in
set_option maxHeartbeats 8000000 in
theorem state_n (Al : Option Addr) (kl cl : Nat) (k : Int) (m : MM) (ps : List PC) (Lf : Nat → List Nat × List Nat) (Ev : Nat → Int) (dg : Nat → List Int) (dm br : List Int) (w : World) (hp : RowS cellsP w Al kl ps)
  (HE : Hid (EscOk w ps Lf)) (HV : Hid (∀ (n : Nat) p, ps[n]? = some p → PVal p (Lf n).1 (Lf n).2 (Ev n))) (HD : Hid (∀ (n : Nat) p, ps[n]? = some p → DgOk (pdg p) (dg n))) (hdm : DgOk (mdg m) dm) (hbr : RowS intC w m.A m.k br) :
  Calls Try.prog 47 #[.slice Al kl cl, .int .i64 k, .int .i64 m.tick, .agg (mdg m).toArray, .slice m.A m.k m.c] w fun e w' => ∃ s er : Int, e = .returned (.tuple #[.int .i64 s, .int .i64 er]) ∧ Hid (StP kl m.tick dm br Ev Lf dg ps k s er) ∧ Below w.heap.size w w' := by
 have hkl := hp.2.1; have hkl2 := hp.2.2; by_cases hbad : k < 0 ∨ (kl : Int) ≤ k
 ·have HS : Hid (StP kl m.tick dm br Ev Lf dg ps k 0 5) := .inl ⟨hbad, rfl, rfl⟩
  rcases hbad with h | h
  ·have d1 : decide (k < 0) = true := by simpa using h
   go_enter Try.func47, Try.ntmps47
   go_wp2_with fail
   go_ret2
   exact ⟨0, 5, rfl, HS, bA _ _⟩
  ·have d1 : decide (k < 0) = false := by simp; omega
   have d2 : decide (k ≥ (kl : Int)) = true := by simpa using h
   go_enter Try.func47, Try.ntmps47
   go_wp2_with fail
   go_ret2
   exact ⟨0, 5, rfl, HS, bA _ _⟩
 ·obtain ⟨n, rfl⟩ := Int.eq_ofNat_of_zero_le (show 0 ≤ k by omega); have hn : n < kl := by omega
  have hnl : n < ps.length := by omega
  have d1 : decide ((n : Int) < 0) = false := by simp
  have d2 : decide ((n : Int) ≥ (kl : Int)) = false := by simp; omega
  have ln : (n : Int) < (kl : Int) := by omega
  have HKL := Lib.hid hkl; clear hbad hkl; obtain ⟨p, HP⟩ : ∃ p, Hid (ps[n] = p ∧ ps[n]? = some p) := ⟨_, rfl, List.getElem?_eq_getElem hnl⟩; have HEn := Lib.hid (HE.out n p HP.out.2); have hdpn := HD.out n p HP.out.2; have HVn := Lib.hid (HV.out n p HP.out.2); obtain ⟨W, HW⟩ : ∃ W, Hid (W = w.alloc (.cells (mdg m).toArray 51)) := ⟨_, rfl⟩; have hbW : Below w.heap.size w W := by rw [HW.out]; exact bA _ _
  have BD : Blk W w.heap.size 51 (mdg m).toArray := by rw [HW.out]; exact Blk.new _ _ _
  obtain ⟨b, off, rfl, HC0⟩ := (hp.below hbW).at_ cellsP_len (by omega) hn hnl; rw [HP.out.1] at HC0
  go_enter Try.func47, Try.ntmps47
  go_upto_region 1 with fail; rw [← HW.out]
  go_wp2_with (first | (refine wpList_load_mid rfl 53 (.tmp 27) rfl b (off + n * 24) rfl (cellsP p) _ (fun j v h => HC0.out j v h) Try.underlying53 rfl infoP ?_; simp only [Act.put, sA, sB, sC]))
  refine (pvalid_n p (Lf n).1 (Lf n).2 _ (HEn.out.1.below hbW) HEn.out.2.1 HEn.out.2.2).mono ?_; rintro e w2 ⟨E, rfl, HX, hb2⟩; have hEE : E = Ev n := HX.out.uniq HVn.out; have HEE := Lib.hid hEE; clear hEE HX; have hbw2 := Below.tr hbW hb2; by_cases hE : E = 0
  ·have h0 : (E != 0) = false := by simpa using hE
   have HE0 : Hid (Ev n = 0) := by show _ = _; rw [← HEE.out]; exact hE
   have BD := Blk.below BD hb2 BD.lt; have HONM := Lib.hid (mm_one hdm); clear hE HEE
   go_upto_region 7 with (first | (refine wpList_load_mid rfl 51 (.tmp 8) rfl w.heap.size 0 rfl (mdg m) _ (blk_range BD) Try.underlying51 rfl infoMd ?_; simp only [Act.put, sA, sB, sC]) | (refine wpList_buildW rfl 138 [(0, .tmp 33), (1, .tmp 34), (2, .tmp 35)] (by rfl) (cellsM m).toArray [(0, .int .i64 m.tick), (1, .agg (mdg m).toArray), (2, .slice m.A m.k m.c)] (by rfl) built_mm ?_; simp only [Act.put, sA, sB, sC]) | (refine wpList_store_mid rfl 138 (.tmp 13) (.tmp 36) rfl w2.heap.size 0 (cellsM m).toArray rfl rfl (there_new _ _ _ 18 (by simp)) infoMs HONM.out ?_; rw [setCells_new]; rotate_left; rfl))
   refine wp_name ?_; intro v7 HV7; have hbv : Below w2.heap.size w2 v7 := by rw [HV7.out]; exact bA _ _
   have HBM : Hid (Blk v7 w2.heap.size 138 (cellsM m).toArray) := by
    show Blk _ _ _ _
    rw [HV7.out]; exact Blk.new _ _ _
   have hbw7 := Below.tr hbw2 hbv; have HC : Hid (∀ j v, (cellsP p)[j]? = some v → v7.cell? ⟨b, off + n * 24 + j, none⟩ = some v) := fun j v h => cell_keep (Below.tr hb2 hbv) (HC0.out j v h)
   have hbr4 := hbr.below hbw7; generalize w2.heap.size = gm at HBM; obtain ⟨s, HSN⟩ : ∃ s, Hid (s = stN m.tick dm br p (dg n) (n : Int)) := ⟨_, rfl⟩; clear HV7 hbv BD HONM hb2 hbw2 hbW; refine region_invF (PhiSt7 (some ⟨b, off, none⟩) kl cl b off n m p s) (fun w w' => Below w.heap.size w w') (fun W => Below v7.heap.size v7 W) (by kernel_rfl) (by kernel_rfl) (by kernel_rfl) PhiSt7.keep (fun _ _ hR hS => Below.tr hS hR) (bD _) (fun vs => by simp only [fillR, Act.put, sA, sB, sC, Nat.zero_add, Nat.reduceAdd]; rfl) ?_ ?_
   ·refine sK ?_ (sK ?_ (sK ?_ (sK ?_ (sK ?_ (sK ?_ (sK ?_ (sK ?_ (sZ))))))))
    ·as_aux_lemma =>
     intro vs W hS hdep K hK; refine ⟨?_⟩; simp only [Act.put, sA, sB, sC, Nat.zero_add, Nat.reduceAdd] at hK ⊢; rw [if_pos (by rfl)]; refine wp_load_mid 138 (.tmp 13) (by rfl) gm (0) (by rfl) (cellsM m) _ (blk_range (Blk.below HBM.out hS HBM.out.lt)) Try.underlying138 (by rfl) infoM ?_; simp only [Act.put, sA, sB, sC]; with_reducible refine hK _ _ (Below.refl _ _) ?_
     exact rfl
    ·as_aux_lemma =>
     intro vs W hS hdep K hK; refine ⟨?_⟩; simp only [Act.put, sA, sB, sC, Nat.zero_add, Nat.reduceAdd] at hK ⊢; go_simp; with_reducible refine hK _ _ (Below.refl _ _) ?_
     exact rfl
    ·as_aux_lemma =>
     intro vs W hS hdep K hK; refine ⟨?_⟩; simp only [Act.put, sA, sB, sC, Nat.zero_add, Nat.reduceAdd] at hK ⊢; go_simp; with_reducible refine hK _ _ (Below.refl _ _) ?_
     exact rfl
    ·as_aux_lemma =>
     intro vs W hS hdep K hK; have d0 := hdep ⟨1, .data⟩ (by simp) rfl; simp only [PhiSt7] at d0; have d1 := hdep ⟨2, .data⟩ (by simp) rfl; simp only [PhiSt7] at d1; refine ⟨?_⟩; simp only [Act.put, sA, sB, sC, Nat.zero_add, Nat.reduceAdd, d0, d1] at hK ⊢; go_simp; with_reducible refine hK _ _ (Below.refl _ _) ?_
     exact rfl
    ·as_aux_lemma =>
     intro vs W hS hdep K hK; have d0 := hdep ⟨3, .data⟩ (by simp) rfl; simp only [PhiSt7] at d0; refine ⟨?_⟩; simp only [Act.put, sA, sB, sC, Nat.zero_add, Nat.reduceAdd, d0] at hK ⊢; rw [if_pos (by rfl)]; refine wp_load_mid 53 (.tmp 40) (by rfl) b (off + n * 24) (by rfl) (cellsP p) _ (fun j v h => cell_keep hS (HC.out j v h)) Try.underlying53 (by rfl) infoP ?_; simp only [Act.put, sA, sB, sC]; with_reducible refine hK _ _ (Below.refl _ _) ?_
     exact rfl
    ·as_aux_lemma =>
     intro vs W hS hdep K hK; refine ⟨?_⟩; simp only [Act.put, sA, sB, sC, Nat.zero_add, Nat.reduceAdd] at hK ⊢; go_simp; with_reducible refine hK _ _ (Below.refl _ _) ?_
     exact rfl
    ·as_aux_lemma =>
     intro vs W hS hdep K hK; have d0 := hdep ⟨0, .data⟩ (by simp) rfl; simp only [PhiSt7] at d0; have d1 := hdep ⟨4, .data⟩ (by simp) rfl; simp only [PhiSt7] at d1; have d2 := hdep ⟨5, .data⟩ (by simp) rfl; simp only [PhiSt7] at d2; refine ⟨?_⟩; simp only [Act.put, sA, sB, sC, Nat.zero_add, Nat.reduceAdd, d0, d1, d2] at hK ⊢; go_simp; refine (mstate_n m p n dm (dg n) br hdm hdpn _ (hbr4.below hS)).mono ?_; rintro e w' ⟨rfl, hb⟩; rw [← HSN.out]; go_wp2_with fail; with_reducible refine hK _ _ hb ?_
     exact rfl
    ·as_aux_lemma =>
     intro vs W hS hdep K hK; have d0 := hdep ⟨6, .data⟩ (by simp) rfl; simp only [PhiSt7] at d0; refine ⟨?_⟩; simp only [Act.put, sA, sB, sC, Nat.zero_add, Nat.reduceAdd, d0] at hK ⊢; go_simp; with_reducible refine hK _ _ (Below.refl _ _) ?_
     exact rfl
   ·intro vs7 w7 hS hv; have u7 := hv 7 (by simp); simp only [PhiSt7] at u7; simp only [Act.put, sA, sB, sC, Nat.zero_add, Nat.reduceAdd, u7]; clear u7 hv; have HSA : Hid (stA m.tick dm br dg ps n = s) := by show _ = _; unfold stA; rw [HP.out.2, HSN.out]
    have hbz := Below.tr hbw7 hS; by_cases hs : s = 0
    ·have hs0 : (s != 0) = false := by simpa using hs
     have HS0 : Hid (stA m.tick dm br dg ps n = 0) := HSA.out.trans hs; have HBM := Lib.hid (Blk.below HBM.out hS HBM.out.lt); clear hs HSA HSN hbw7 hS hbr4 HC; go_wp2_with fail
     go_loopg [49] kl (fun mm x wr => ∃ i : Nat, x = .int .i64 i ∧ i + mm = kl ∧ Hid (∀ j, j < i → hitA m.tick dm br Ev Lf dg ps n j = false) ∧ Below w7.heap.size w7 wr)
     case atStart => exact ⟨0, rfl, by omega, fun j h => absurd h (Nat.not_lt_zero _), Below.refl _ _⟩
     case round =>
      obtain ⟨i, rfl, him, HN, hbe⟩ := hrel; by_cases hi : i < kl
      ·have t1 : decide ((i : Int) < (kl : Int)) = true := by simp; omega
       have li : (i : Int) < (kl : Int) := by omega
       have hil : i < ps.length := by have := HKL.out; omega
       obtain ⟨q, HQ⟩ : ∃ q, Hid (ps[i] = q ∧ ps[i]? = some q) := ⟨_, rfl, List.getElem?_eq_getElem hil⟩; have HEi := Lib.hid (HE.out i q HQ.out.2); have hdpi := HD.out i q HQ.out.2; have HVi := Lib.hid (HV.out i q HQ.out.2); have hbz13 := Below.tr hbz hbe; obtain ⟨b', off', hA', HCq⟩ := (hp.below hbz13).at_ cellsP_len (by omega) hi hil; injection hA' with hA'; injection hA' with hA1 hA2; subst hA1 hA2; rw [HQ.out.1] at HCq; have HONQ := Lib.hid (pp_one hdpi HEi.out.1)
       go_upto_region 13 with (first | (refine wpList_load_mid rfl 53 (.tmp 52) rfl b (off + i * 24) rfl (cellsP q) _ (fun j v h => HCq.out j v h) Try.underlying53 rfl infoP ?_; simp only [Act.put, sA, sB, sC]) | (refine wpList_store_mid rfl 53 (.tmp 16) (.tmp 53) rfl wr.heap.size 0 (cellsP q).toArray rfl rfl (there_new _ _ _ 24 (by simp)) infoPs HONQ.out ?_; rw [setCells_new]; rotate_left; rfl))
       refine wp_name ?_; intro v13 HV13; have hbv : Below wr.heap.size wr v13 := by rw [HV13.out]; exact bA _ _
       have HBP : Hid (Blk v13 wr.heap.size 53 (cellsP q).toArray) := by
        show Blk _ _ _ _
        rw [HV13.out]; exact Blk.new _ _ _
       generalize wr.heap.size = gp at HBP; have hb13 := Below.tr hbe hbv; have hbw13 := Below.tr hbz13 hbv; have HBM13 := Lib.hid (Blk.below HBM.out hb13 HBM.out.lt); obtain ⟨b', off', hA', HC13⟩ := (hp.below hbw13).at_ cellsP_len (by omega) hn hnl; injection hA' with hA'; injection hA' with hA1 hA2; subst hA1 hA2; rw [HP.out.1] at HC13; have HEn : Hid (RtL v13 (.agg #[p.b1, p.b2]) (Lf n).1 (Lf n).2 ∧ p.test.size ≤ 9223372036854775807 ∧ p.wh.size ≤ 9223372036854775807) := ⟨HEn.out.1.below hbw13, HEn.out.2⟩; have HEi : Hid (RtL v13 (.agg #[q.b1, q.b2]) (Lf i).1 (Lf i).2 ∧ q.test.size ≤ 9223372036854775807 ∧ q.wh.size ≤ 9223372036854775807) := ⟨HEi.out.1.below hbw13, HEi.out.2⟩; have hbr13 := hbr.below hbw13; obtain ⟨s, HSI⟩ : ∃ s, Hid (s = stN m.tick dm br q (dg i) (i : Int)) := ⟨_, rfl⟩; have HSA : Hid (stA m.tick dm br dg ps i = s) := by show _ = _; unfold stA; rw [HQ.out.2, HSI.out]
       clear HV13 hbv HCq HONQ hbe; by_cases hni : i = n
       ·have hne : ((i : Int) != (n : Int)) = false := by rw [hni]; simp
        have HN2 : Hid (∀ j, j < i + 1 → hitA m.tick dm br Ev Lf dg ps n j = false) := fun j hj => by
         rcases Nat.lt_or_ge j i with h | h
         ·exact HN.out j h
         ·rw [show j = i by omega, hni]; unfold hitA; simp
        clear hni; refine region_invF (PhiSt13A (some ⟨b, off, none⟩) kl cl b off n i m p q s gm gp) (fun w w' => Below w.heap.size w w') (fun W => Below v13.heap.size v13 W) (by kernel_rfl) (by kernel_rfl) (by kernel_rfl) PhiSt13A.keep (fun _ _ hR hS => Below.tr hS hR) (bD _) (fun vs => by simp only [fillR, Act.put, sA, sB, sC, Nat.zero_add, Nat.reduceAdd]; rfl) ?_ ?_
        ·refine sK ?_ (sK ?_ (sK ?_ (sK ?_ (sK ?_ (sK ?_ (sK ?_ (sK ?_ (sK ?_ (sK ?_ (sK ?_ (sK ?_ (sK ?_ (sK ?_ (sK ?_ (sK ?_ (sK ?_ (sK ?_ (sZ))))))))))))))))))
         ·as_aux_lemma =>
          intro vs W hS hdep K hK; refine ⟨?_⟩; simp only [Act.put, sA, sB, sC, Nat.zero_add, Nat.reduceAdd] at hK ⊢; go_simp; with_reducible refine hK _ _ (Below.refl _ _) ?_
          exact rfl
         ·as_aux_lemma =>
          intro vs W hS hdep K hK; refine ⟨?_⟩; simp only [Act.put, sA, sB, sC, Nat.zero_add, Nat.reduceAdd] at hK ⊢; go_simp; with_reducible refine hK _ _ (Below.refl _ _) ?_
          exact rfl
         ·as_aux_lemma =>
          intro vs W hS hdep K hK; have d0 := hdep ⟨0, .data⟩ (by simp) rfl; simp only [PhiSt13A] at d0; have d1 := hdep ⟨1, .data⟩ (by simp) rfl; simp only [PhiSt13A] at d1; refine ⟨?_⟩; simp only [Act.put, sA, sB, sC, Nat.zero_add, Nat.reduceAdd, d0, d1] at hK ⊢; go_simp; with_reducible refine hK _ _ (Below.refl _ _) ?_
          exact rfl
         ·as_aux_lemma =>
          intro vs W hS hdep K hK; have d0 := hdep ⟨2, .data⟩ (by simp) rfl; simp only [PhiSt13A] at d0; refine ⟨?_⟩; simp only [Act.put, sA, sB, sC, Nat.zero_add, Nat.reduceAdd, d0] at hK ⊢; go_simp; with_reducible refine hK _ _ (Below.refl _ _) ?_
          exact rfl
         ·as_aux_lemma =>
          intro vs W hS hdep K hK; have d0 := hdep ⟨3, .guard⟩ (by simp) rfl; simp only [PhiSt13A] at d0; refine ⟨?_⟩; simp only [Act.put, sA, sB, sC, Nat.zero_add, Nat.reduceAdd, d0] at hK ⊢; go_simp
          try rw [if_neg (by simp [undef])]
          with_reducible refine hK _ _ (Below.refl _ _) ?_
          exact rfl
         ·as_aux_lemma =>
          intro vs W hS hdep K hK; have d0 := hdep ⟨3, .guard⟩ (by simp) rfl; simp only [PhiSt13A] at d0; refine ⟨?_⟩; simp only [Act.put, sA, sB, sC, Nat.zero_add, Nat.reduceAdd, d0] at hK ⊢; go_simp
          try rw [if_neg (by simp [undef])]
          with_reducible refine hK _ _ (Below.refl _ _) ?_
          exact rfl
         ·as_aux_lemma =>
          intro vs W hS hdep K hK; have d0 := hdep ⟨3, .guard⟩ (by simp) rfl; simp only [PhiSt13A] at d0; refine ⟨?_⟩; simp only [Act.put, sA, sB, sC, Nat.zero_add, Nat.reduceAdd, d0] at hK ⊢; go_simp
          try rw [if_neg (by simp [undef])]
          with_reducible refine hK _ _ (Below.refl _ _) ?_
          exact rfl
         ·as_aux_lemma =>
          intro vs W hS hdep K hK; have d0 := hdep ⟨3, .guard⟩ (by simp) rfl; simp only [PhiSt13A] at d0; refine ⟨?_⟩; simp only [Act.put, sA, sB, sC, Nat.zero_add, Nat.reduceAdd, d0] at hK ⊢; go_simp
          try rw [if_neg (by simp [undef])]
          with_reducible refine hK _ _ (Below.refl _ _) ?_
          exact rfl
         ·as_aux_lemma =>
          intro vs W hS hdep K hK; have d0 := hdep ⟨3, .guard⟩ (by simp) rfl; simp only [PhiSt13A] at d0; refine ⟨?_⟩; simp only [Act.put, sA, sB, sC, Nat.zero_add, Nat.reduceAdd, d0] at hK ⊢; go_simp
          try rw [if_neg (by simp [undef])]
          with_reducible refine hK _ _ (Below.refl _ _) ?_
          exact rfl
         ·as_aux_lemma =>
          intro vs W hS hdep K hK; have d0 := hdep ⟨3, .guard⟩ (by simp) rfl; simp only [PhiSt13A] at d0; refine ⟨?_⟩; simp only [Act.put, sA, sB, sC, Nat.zero_add, Nat.reduceAdd, d0] at hK ⊢; go_simp
          try rw [if_neg (by simp [undef])]
          with_reducible refine hK _ _ (Below.refl _ _) ?_
          exact rfl
         ·as_aux_lemma =>
          intro vs W hS hdep K hK; have d0 := hdep ⟨3, .data⟩ (by simp) rfl; simp only [PhiSt13A] at d0; refine ⟨?_⟩; simp only [Act.put, sA, sB, sC, Nat.zero_add, Nat.reduceAdd, d0] at hK ⊢; go_simp; with_reducible refine hK _ _ (Below.refl _ _) ?_
          exact rfl
         ·as_aux_lemma =>
          intro vs W hS hdep K hK; have d0 := hdep ⟨10, .data⟩ (by simp) rfl; simp only [PhiSt13A] at d0; refine ⟨?_⟩; simp only [Act.put, sA, sB, sC, Nat.zero_add, Nat.reduceAdd, d0] at hK ⊢; go_simp; with_reducible refine hK _ _ (Below.refl _ _) ?_
          exact rfl
         ·as_aux_lemma =>
          intro vs W hS hdep K hK; have d0 := hdep ⟨11, .guard⟩ (by simp) rfl; simp only [PhiSt13A] at d0; refine ⟨?_⟩; simp only [Act.put, sA, sB, sC, Nat.zero_add, Nat.reduceAdd, d0] at hK ⊢; go_simp
          try rw [if_neg (by simp [undef])]
          with_reducible refine hK _ _ (Below.refl _ _) ?_
          exact rfl
         ·as_aux_lemma =>
          intro vs W hS hdep K hK; have d0 := hdep ⟨11, .guard⟩ (by simp) rfl; simp only [PhiSt13A] at d0; refine ⟨?_⟩; simp only [Act.put, sA, sB, sC, Nat.zero_add, Nat.reduceAdd, d0] at hK ⊢; go_simp
          try rw [if_neg (by simp [undef])]
          with_reducible refine hK _ _ (Below.refl _ _) ?_
          exact rfl
         ·as_aux_lemma =>
          intro vs W hS hdep K hK; have d0 := hdep ⟨11, .guard⟩ (by simp) rfl; simp only [PhiSt13A] at d0; refine ⟨?_⟩; simp only [Act.put, sA, sB, sC, Nat.zero_add, Nat.reduceAdd, d0] at hK ⊢; go_simp
          try rw [if_neg (by simp [undef])]
          with_reducible refine hK _ _ (Below.refl _ _) ?_
          exact rfl
         ·as_aux_lemma =>
          intro vs W hS hdep K hK; have d0 := hdep ⟨11, .guard⟩ (by simp) rfl; simp only [PhiSt13A] at d0; refine ⟨?_⟩; simp only [Act.put, sA, sB, sC, Nat.zero_add, Nat.reduceAdd, d0] at hK ⊢; go_simp
          try rw [if_neg (by simp [undef])]
          with_reducible refine hK _ _ (Below.refl _ _) ?_
          exact rfl
         ·as_aux_lemma =>
          intro vs W hS hdep K hK; have d0 := hdep ⟨11, .guard⟩ (by simp) rfl; simp only [PhiSt13A] at d0; refine ⟨?_⟩; simp only [Act.put, sA, sB, sC, Nat.zero_add, Nat.reduceAdd, d0] at hK ⊢; go_simp
          try rw [if_neg (by simp [undef])]
          with_reducible refine hK _ _ (Below.refl _ _) ?_
          exact rfl
         ·as_aux_lemma =>
          intro vs W hS hdep K hK; have d0 := hdep ⟨11, .data⟩ (by simp) rfl; simp only [PhiSt13A] at d0; refine ⟨?_⟩; simp only [Act.put, sA, sB, sC, Nat.zero_add, Nat.reduceAdd, d0] at hK ⊢; go_simp; with_reducible refine hK _ _ (Below.refl _ _) ?_
          exact rfl
        ·intro vs13 w13 hS hv; have u17 := hv 17 (by simp); simp only [PhiSt13A] at u17; simp only [Act.put, sA, sB, sC, Nat.zero_add, Nat.reduceAdd, u17]; clear u17 hv; have hbe := Below.tr hb13 hS; go_wp2_with fail
         go_roundg (gk - 1)
         case measure => omega
         case rel => exact ⟨i + 1, by go_num, by omega, HN2, hbe⟩
       ·have hne : ((i : Int) != (n : Int)) = true := by simp; omega
        have HCLG : Hid (∀ (E F : Int) (cb : Bool), (PVal p (Lf n).1 (Lf n).2 E ∧ (E = 0 → PVal q (Lf i).1 (Lf i).2 F) ∧ cb = clB E F p q (dg n) (dg i) (sameR (Lf n).1 (Lf n).2 (Lf i).1 (Lf i).2)) → cb = clA Ev Lf dg ps n i) := by
         intro E F cb h; have e1 := h.1.uniq HVn.out; have e2 := (h.2.1 (by rw [e1]; exact HE0.out)).uniq HVi.out; unfold clA; rw [HP.out.2, HQ.out.2, h.2.2, e1, e2]
        by_cases hcb : clA Ev Lf dg ps n i = true
        ·have HCL : Hid (∀ (E F : Int) (cb : Bool), (PVal p (Lf n).1 (Lf n).2 E ∧ (E = 0 → PVal q (Lf i).1 (Lf i).2 F) ∧ cb = clB E F p q (dg n) (dg i) (sameR (Lf n).1 (Lf n).2 (Lf i).1 (Lf i).2)) → cb = true) := fun E F cb h => (HCLG.out E F cb h).trans hcb
         have HHI : Hid (hitA m.tick dm br Ev Lf dg ps n i = (s == 0)) := by
          show _ = _
          unfold hitA; rw [hcb, HSA.out]; simp [hni]
         clear hcb HCLG; refine region_invF (PhiSt13C (some ⟨b, off, none⟩) kl cl b off n i m p q s gm gp) (fun w w' => Below w.heap.size w w') (fun W => Below v13.heap.size v13 W) (by kernel_rfl) (by kernel_rfl) (by kernel_rfl) PhiSt13C.keep (fun _ _ hR hS => Below.tr hS hR) (bD _) (fun vs => by simp only [fillR, Act.put, sA, sB, sC, Nat.zero_add, Nat.reduceAdd]; rfl) ?_ ?_
         ·refine sK ?_ (sK ?_ (sK ?_ (sK ?_ (sK ?_ (sK ?_ (sK ?_ (sK ?_ (sK ?_ (sK ?_ (sK ?_ (sK ?_ (sK ?_ (sK ?_ (sK ?_ (sK ?_ (sK ?_ (sK ?_ (sZ))))))))))))))))))
          ·as_aux_lemma =>
           intro vs W hS hdep K hK; refine ⟨?_⟩; simp only [Act.put, sA, sB, sC, Nat.zero_add, Nat.reduceAdd] at hK ⊢; go_simp; with_reducible refine hK _ _ (Below.refl _ _) ?_
           exact rfl
          ·as_aux_lemma =>
           intro vs W hS hdep K hK; refine ⟨?_⟩; simp only [Act.put, sA, sB, sC, Nat.zero_add, Nat.reduceAdd] at hK ⊢; go_simp; with_reducible refine hK _ _ (Below.refl _ _) ?_
           exact rfl
          ·as_aux_lemma =>
           intro vs W hS hdep K hK; have d0 := hdep ⟨0, .data⟩ (by simp) rfl; simp only [PhiSt13C] at d0; have d1 := hdep ⟨1, .data⟩ (by simp) rfl; simp only [PhiSt13C] at d1; refine ⟨?_⟩; simp only [Act.put, sA, sB, sC, Nat.zero_add, Nat.reduceAdd, d0, d1] at hK ⊢; go_simp; with_reducible refine hK _ _ (Below.refl _ _) ?_
           exact rfl
          ·as_aux_lemma =>
           intro vs W hS hdep K hK; have d0 := hdep ⟨2, .data⟩ (by simp) rfl; simp only [PhiSt13C] at d0; refine ⟨?_⟩; simp only [Act.put, sA, sB, sC, Nat.zero_add, Nat.reduceAdd, d0] at hK ⊢; go_simp; with_reducible refine hK _ _ (Below.refl _ _) ?_
           exact rfl
          ·as_aux_lemma =>
           intro vs W hS hdep K hK; have d0 := hdep ⟨3, .guard⟩ (by simp) rfl; simp only [PhiSt13C] at d0; refine ⟨?_⟩; simp only [Act.put, sA, sB, sC, Nat.zero_add, Nat.reduceAdd, d0] at hK ⊢; go_simp; with_reducible refine hK _ _ (Below.refl _ _) ?_
           exact rfl
          ·as_aux_lemma =>
           intro vs W hS hdep K hK; have d0 := hdep ⟨3, .guard⟩ (by simp) rfl; simp only [PhiSt13C] at d0; refine ⟨?_⟩; simp only [Act.put, sA, sB, sC, Nat.zero_add, Nat.reduceAdd, d0] at hK ⊢; go_simp; with_reducible refine hK _ _ (Below.refl _ _) ?_
           exact rfl
          ·as_aux_lemma =>
           intro vs W hS hdep K hK; have d0 := hdep ⟨4, .data⟩ (by simp) rfl; simp only [PhiSt13C] at d0; have d1 := hdep ⟨5, .data⟩ (by simp) rfl; simp only [PhiSt13C] at d1; have d2 := hdep ⟨3, .guard⟩ (by simp) rfl; simp only [PhiSt13C] at d2; refine ⟨?_⟩; simp only [Act.put, sA, sB, sC, Nat.zero_add, Nat.reduceAdd, d0, d1, d2] at hK ⊢; go_simp; with_reducible refine hK _ _ (Below.refl _ _) ?_
           exact rfl
          ·as_aux_lemma =>
           intro vs W hS hdep K hK; have d0 := hdep ⟨6, .data⟩ (by simp) rfl; simp only [PhiSt13C] at d0; have d1 := hdep ⟨3, .guard⟩ (by simp) rfl; simp only [PhiSt13C] at d1; refine ⟨?_⟩; simp only [Act.put, sA, sB, sC, Nat.zero_add, Nat.reduceAdd, d0, d1] at hK ⊢; rw [if_pos (by rfl)]; refine wp_load_mid 53 (.tmp 60) (by rfl) b (off + n * 24) (by rfl) (cellsP p) _ (fun j v h => cell_keep hS (HC13.out j v h)) Try.underlying53 (by rfl) infoP ?_; simp only [Act.put, sA, sB, sC]; with_reducible refine hK _ _ (Below.refl _ _) ?_
           exact rfl
          ·as_aux_lemma =>
           intro vs W hS hdep K hK; have d0 := hdep ⟨3, .guard⟩ (by simp) rfl; simp only [PhiSt13C] at d0; refine ⟨?_⟩; simp only [Act.put, sA, sB, sC, Nat.zero_add, Nat.reduceAdd, d0] at hK ⊢; rw [if_pos (by rfl)]; refine wp_load_mid 53 (.tmp 16) (by rfl) gp (0) (by rfl) (cellsP q) _ (blk_range (Blk.below HBP.out hS HBP.out.lt)) Try.underlying53 (by rfl) infoP ?_; simp only [Act.put, sA, sB, sC]; with_reducible refine hK _ _ (Below.refl _ _) ?_
           exact rfl
          ·as_aux_lemma =>
           intro vs W hS hdep K hK; have d0 := hdep ⟨7, .data⟩ (by simp) rfl; simp only [PhiSt13C] at d0; have d1 := hdep ⟨8, .data⟩ (by simp) rfl; simp only [PhiSt13C] at d1; have d2 := hdep ⟨3, .guard⟩ (by simp) rfl; simp only [PhiSt13C] at d2; refine ⟨?_⟩; simp only [Act.put, sA, sB, sC, Nat.zero_add, Nat.reduceAdd, d0, d1, d2] at hK ⊢; go_simp; refine (clash_n p q (Lf n).1 (Lf n).2 (Lf i).1 (Lf i).2 (dg n) (dg i) _ (HEn.out.1.below hS) (HEi.out.1.below hS) HEn.out.2.1 HEn.out.2.2 HEi.out.2.1 HEi.out.2.2 hdpn hdpi).mono ?_; rintro e w' ⟨E, F, cb, rfl, HX, hb⟩; obtain rfl : cb = true := HCL.out E F cb HX.out; clear HX; go_wp2_with fail; with_reducible refine hK _ _ hb ?_
           exact rfl
          ·as_aux_lemma =>
           intro vs W hS hdep K hK; have d0 := hdep ⟨3, .data⟩ (by simp) rfl; simp only [PhiSt13C] at d0; have d1 := hdep ⟨9, .data⟩ (by simp) rfl; simp only [PhiSt13C] at d1; refine ⟨?_⟩; simp only [Act.put, sA, sB, sC, Nat.zero_add, Nat.reduceAdd, d0, d1] at hK ⊢; go_simp; with_reducible refine hK _ _ (Below.refl _ _) ?_
           exact rfl
          ·as_aux_lemma =>
           intro vs W hS hdep K hK; have d0 := hdep ⟨10, .data⟩ (by simp) rfl; simp only [PhiSt13C] at d0; refine ⟨?_⟩; simp only [Act.put, sA, sB, sC, Nat.zero_add, Nat.reduceAdd, d0] at hK ⊢; go_simp; with_reducible refine hK _ _ (Below.refl _ _) ?_
           exact rfl
          ·as_aux_lemma =>
           intro vs W hS hdep K hK; have d0 := hdep ⟨11, .guard⟩ (by simp) rfl; simp only [PhiSt13C] at d0; refine ⟨?_⟩; simp only [Act.put, sA, sB, sC, Nat.zero_add, Nat.reduceAdd, d0] at hK ⊢; rw [if_pos (by rfl)]; refine wp_load_mid 138 (.tmp 13) (by rfl) gm (0) (by rfl) (cellsM m) _ (blk_range (Blk.below HBM13.out hS HBM13.out.lt)) Try.underlying138 (by rfl) infoM ?_; simp only [Act.put, sA, sB, sC]; with_reducible refine hK _ _ (Below.refl _ _) ?_
           exact rfl
          ·as_aux_lemma =>
           intro vs W hS hdep K hK; have d0 := hdep ⟨11, .guard⟩ (by simp) rfl; simp only [PhiSt13C] at d0; refine ⟨?_⟩; simp only [Act.put, sA, sB, sC, Nat.zero_add, Nat.reduceAdd, d0] at hK ⊢; rw [if_pos (by rfl)]; refine wp_load_mid 53 (.tmp 16) (by rfl) gp (0) (by rfl) (cellsP q) _ (blk_range (Blk.below HBP.out hS HBP.out.lt)) Try.underlying53 (by rfl) infoP ?_; simp only [Act.put, sA, sB, sC]; with_reducible refine hK _ _ (Below.refl _ _) ?_
           exact rfl
          ·as_aux_lemma =>
           intro vs W hS hdep K hK; have d0 := hdep ⟨11, .guard⟩ (by simp) rfl; simp only [PhiSt13C] at d0; refine ⟨?_⟩; simp only [Act.put, sA, sB, sC, Nat.zero_add, Nat.reduceAdd, d0] at hK ⊢; go_simp; with_reducible refine hK _ _ (Below.refl _ _) ?_
           exact rfl
          ·as_aux_lemma =>
           intro vs W hS hdep K hK; have d0 := hdep ⟨12, .data⟩ (by simp) rfl; simp only [PhiSt13C] at d0; have d1 := hdep ⟨13, .data⟩ (by simp) rfl; simp only [PhiSt13C] at d1; have d2 := hdep ⟨14, .data⟩ (by simp) rfl; simp only [PhiSt13C] at d2; have d3 := hdep ⟨11, .guard⟩ (by simp) rfl; simp only [PhiSt13C] at d3; refine ⟨?_⟩; simp only [Act.put, sA, sB, sC, Nat.zero_add, Nat.reduceAdd, d0, d1, d2, d3] at hK ⊢; go_simp; refine (mstate_n m q i dm (dg i) br hdm hdpi _ (hbr13.below hS)).mono ?_; rintro e w' ⟨rfl, hb⟩; rw [← HSI.out]; go_wp2_with fail; with_reducible refine hK _ _ hb ?_
           exact rfl
          ·as_aux_lemma =>
           intro vs W hS hdep K hK; have d0 := hdep ⟨15, .data⟩ (by simp) rfl; simp only [PhiSt13C] at d0; have d1 := hdep ⟨11, .guard⟩ (by simp) rfl; simp only [PhiSt13C] at d1; refine ⟨?_⟩; simp only [Act.put, sA, sB, sC, Nat.zero_add, Nat.reduceAdd, d0, d1] at hK ⊢; go_simp; with_reducible refine hK _ _ (Below.refl _ _) ?_
           exact rfl
          ·as_aux_lemma =>
           intro vs W hS hdep K hK; have d0 := hdep ⟨11, .data⟩ (by simp) rfl; simp only [PhiSt13C] at d0; have d1 := hdep ⟨16, .data⟩ (by simp) rfl; simp only [PhiSt13C] at d1; refine ⟨?_⟩; simp only [Act.put, sA, sB, sC, Nat.zero_add, Nat.reduceAdd, d0, d1] at hK ⊢; go_simp; with_reducible refine hK _ _ (Below.refl _ _) ?_
           exact rfl
         ·intro vs13 w13 hS hv; have u17 := hv 17 (by simp); simp only [PhiSt13C] at u17; simp only [Act.put, sA, sB, sC, Nat.zero_add, Nat.reduceAdd, u17]; clear u17 hv; have hbe := Below.tr hb13 hS; by_cases hs : s = 0
          ·have hs2 : (s == 0) = true := by simpa using hs
           have HF : Hid (StP kl m.tick dm br Ev Lf dg ps (n : Int) 5 0) := by
            refine .inr ⟨n, rfl, hn, .inr ⟨HE0.out, rfl, ?_⟩⟩; unfold stF; rw [if_neg (by rw [HS0.out]; simp), if_pos]; rw [List.any_eq_true]; exact ⟨i, List.mem_range.2 hil, by rw [HHI.out]; exact hs2⟩
           clear hs; go_wp2_with fail
           go_ret2
           exact ⟨5, 0, rfl, HF, Below.tr hbz hbe⟩
          ·have hs2 : (s == 0) = false := by simpa using hs
           have HN2 : Hid (∀ j, j < i + 1 → hitA m.tick dm br Ev Lf dg ps n j = false) := fun j hj => by
            rcases Nat.lt_or_ge j i with h | h
            ·exact HN.out j h
            ·rw [show j = i by omega, HHI.out]; exact hs2
           clear hs; go_wp2_with fail
           go_roundg (gk - 1)
           case measure => omega
           case rel => exact ⟨i + 1, by go_num, by omega, HN2, hbe⟩
        ·have hcb : clA Ev Lf dg ps n i = false := by simpa using hcb
         have HCL : Hid (∀ (E F : Int) (cb : Bool), (PVal p (Lf n).1 (Lf n).2 E ∧ (E = 0 → PVal q (Lf i).1 (Lf i).2 F) ∧ cb = clB E F p q (dg n) (dg i) (sameR (Lf n).1 (Lf n).2 (Lf i).1 (Lf i).2)) → cb = false) := fun E F cb h => (HCLG.out E F cb h).trans hcb
         have HN2 : Hid (∀ j, j < i + 1 → hitA m.tick dm br Ev Lf dg ps n j = false) := fun j hj => by
          rcases Nat.lt_or_ge j i with h | h
          ·exact HN.out j h
          ·rw [show j = i by omega]; unfold hitA; rw [hcb]; simp
         clear hcb HCLG; refine region_invF (PhiSt13B (some ⟨b, off, none⟩) kl cl b off n i m p q s gm gp) (fun w w' => Below w.heap.size w w') (fun W => Below v13.heap.size v13 W) (by kernel_rfl) (by kernel_rfl) (by kernel_rfl) PhiSt13B.keep (fun _ _ hR hS => Below.tr hS hR) (bD _) (fun vs => by simp only [fillR, Act.put, sA, sB, sC, Nat.zero_add, Nat.reduceAdd]; rfl) ?_ ?_
         ·refine sK ?_ (sK ?_ (sK ?_ (sK ?_ (sK ?_ (sK ?_ (sK ?_ (sK ?_ (sK ?_ (sK ?_ (sK ?_ (sK ?_ (sK ?_ (sK ?_ (sK ?_ (sK ?_ (sK ?_ (sK ?_ (sZ))))))))))))))))))
          ·as_aux_lemma =>
           intro vs W hS hdep K hK; refine ⟨?_⟩; simp only [Act.put, sA, sB, sC, Nat.zero_add, Nat.reduceAdd] at hK ⊢; go_simp; with_reducible refine hK _ _ (Below.refl _ _) ?_
           exact rfl
          ·as_aux_lemma =>
           intro vs W hS hdep K hK; refine ⟨?_⟩; simp only [Act.put, sA, sB, sC, Nat.zero_add, Nat.reduceAdd] at hK ⊢; go_simp; with_reducible refine hK _ _ (Below.refl _ _) ?_
           exact rfl
          ·as_aux_lemma =>
           intro vs W hS hdep K hK; have d0 := hdep ⟨0, .data⟩ (by simp) rfl; simp only [PhiSt13B] at d0; have d1 := hdep ⟨1, .data⟩ (by simp) rfl; simp only [PhiSt13B] at d1; refine ⟨?_⟩; simp only [Act.put, sA, sB, sC, Nat.zero_add, Nat.reduceAdd, d0, d1] at hK ⊢; go_simp; with_reducible refine hK _ _ (Below.refl _ _) ?_
           exact rfl
          ·as_aux_lemma =>
           intro vs W hS hdep K hK; have d0 := hdep ⟨2, .data⟩ (by simp) rfl; simp only [PhiSt13B] at d0; refine ⟨?_⟩; simp only [Act.put, sA, sB, sC, Nat.zero_add, Nat.reduceAdd, d0] at hK ⊢; go_simp; with_reducible refine hK _ _ (Below.refl _ _) ?_
           exact rfl
          ·as_aux_lemma =>
           intro vs W hS hdep K hK; have d0 := hdep ⟨3, .guard⟩ (by simp) rfl; simp only [PhiSt13B] at d0; refine ⟨?_⟩; simp only [Act.put, sA, sB, sC, Nat.zero_add, Nat.reduceAdd, d0] at hK ⊢; go_simp; with_reducible refine hK _ _ (Below.refl _ _) ?_
           exact rfl
          ·as_aux_lemma =>
           intro vs W hS hdep K hK; have d0 := hdep ⟨3, .guard⟩ (by simp) rfl; simp only [PhiSt13B] at d0; refine ⟨?_⟩; simp only [Act.put, sA, sB, sC, Nat.zero_add, Nat.reduceAdd, d0] at hK ⊢; go_simp; with_reducible refine hK _ _ (Below.refl _ _) ?_
           exact rfl
          ·as_aux_lemma =>
           intro vs W hS hdep K hK; have d0 := hdep ⟨4, .data⟩ (by simp) rfl; simp only [PhiSt13B] at d0; have d1 := hdep ⟨5, .data⟩ (by simp) rfl; simp only [PhiSt13B] at d1; have d2 := hdep ⟨3, .guard⟩ (by simp) rfl; simp only [PhiSt13B] at d2; refine ⟨?_⟩; simp only [Act.put, sA, sB, sC, Nat.zero_add, Nat.reduceAdd, d0, d1, d2] at hK ⊢; go_simp; with_reducible refine hK _ _ (Below.refl _ _) ?_
           exact rfl
          ·as_aux_lemma =>
           intro vs W hS hdep K hK; have d0 := hdep ⟨6, .data⟩ (by simp) rfl; simp only [PhiSt13B] at d0; have d1 := hdep ⟨3, .guard⟩ (by simp) rfl; simp only [PhiSt13B] at d1; refine ⟨?_⟩; simp only [Act.put, sA, sB, sC, Nat.zero_add, Nat.reduceAdd, d0, d1] at hK ⊢; rw [if_pos (by rfl)]; refine wp_load_mid 53 (.tmp 60) (by rfl) b (off + n * 24) (by rfl) (cellsP p) _ (fun j v h => cell_keep hS (HC13.out j v h)) Try.underlying53 (by rfl) infoP ?_; simp only [Act.put, sA, sB, sC]; with_reducible refine hK _ _ (Below.refl _ _) ?_
           exact rfl
          ·as_aux_lemma =>
           intro vs W hS hdep K hK; have d0 := hdep ⟨3, .guard⟩ (by simp) rfl; simp only [PhiSt13B] at d0; refine ⟨?_⟩; simp only [Act.put, sA, sB, sC, Nat.zero_add, Nat.reduceAdd, d0] at hK ⊢; rw [if_pos (by rfl)]; refine wp_load_mid 53 (.tmp 16) (by rfl) gp (0) (by rfl) (cellsP q) _ (blk_range (Blk.below HBP.out hS HBP.out.lt)) Try.underlying53 (by rfl) infoP ?_; simp only [Act.put, sA, sB, sC]; with_reducible refine hK _ _ (Below.refl _ _) ?_
           exact rfl
          ·as_aux_lemma =>
           intro vs W hS hdep K hK; have d0 := hdep ⟨7, .data⟩ (by simp) rfl; simp only [PhiSt13B] at d0; have d1 := hdep ⟨8, .data⟩ (by simp) rfl; simp only [PhiSt13B] at d1; have d2 := hdep ⟨3, .guard⟩ (by simp) rfl; simp only [PhiSt13B] at d2; refine ⟨?_⟩; simp only [Act.put, sA, sB, sC, Nat.zero_add, Nat.reduceAdd, d0, d1, d2] at hK ⊢; go_simp; refine (clash_n p q (Lf n).1 (Lf n).2 (Lf i).1 (Lf i).2 (dg n) (dg i) _ (HEn.out.1.below hS) (HEi.out.1.below hS) HEn.out.2.1 HEn.out.2.2 HEi.out.2.1 HEi.out.2.2 hdpn hdpi).mono ?_; rintro e w' ⟨E, F, cb, rfl, HX, hb⟩; obtain rfl : cb = false := HCL.out E F cb HX.out; clear HX; go_wp2_with fail; with_reducible refine hK _ _ hb ?_
           exact rfl
          ·as_aux_lemma =>
           intro vs W hS hdep K hK; have d0 := hdep ⟨3, .data⟩ (by simp) rfl; simp only [PhiSt13B] at d0; have d1 := hdep ⟨9, .data⟩ (by simp) rfl; simp only [PhiSt13B] at d1; refine ⟨?_⟩; simp only [Act.put, sA, sB, sC, Nat.zero_add, Nat.reduceAdd, d0, d1] at hK ⊢; go_simp; with_reducible refine hK _ _ (Below.refl _ _) ?_
           exact rfl
          ·as_aux_lemma =>
           intro vs W hS hdep K hK; have d0 := hdep ⟨10, .data⟩ (by simp) rfl; simp only [PhiSt13B] at d0; refine ⟨?_⟩; simp only [Act.put, sA, sB, sC, Nat.zero_add, Nat.reduceAdd, d0] at hK ⊢; go_simp; with_reducible refine hK _ _ (Below.refl _ _) ?_
           exact rfl
          ·as_aux_lemma =>
           intro vs W hS hdep K hK; have d0 := hdep ⟨11, .guard⟩ (by simp) rfl; simp only [PhiSt13B] at d0; refine ⟨?_⟩; simp only [Act.put, sA, sB, sC, Nat.zero_add, Nat.reduceAdd, d0] at hK ⊢; go_simp
           try rw [if_neg (by simp [undef])]
           with_reducible refine hK _ _ (Below.refl _ _) ?_
           exact rfl
          ·as_aux_lemma =>
           intro vs W hS hdep K hK; have d0 := hdep ⟨11, .guard⟩ (by simp) rfl; simp only [PhiSt13B] at d0; refine ⟨?_⟩; simp only [Act.put, sA, sB, sC, Nat.zero_add, Nat.reduceAdd, d0] at hK ⊢; go_simp
           try rw [if_neg (by simp [undef])]
           with_reducible refine hK _ _ (Below.refl _ _) ?_
           exact rfl
          ·as_aux_lemma =>
           intro vs W hS hdep K hK; have d0 := hdep ⟨11, .guard⟩ (by simp) rfl; simp only [PhiSt13B] at d0; refine ⟨?_⟩; simp only [Act.put, sA, sB, sC, Nat.zero_add, Nat.reduceAdd, d0] at hK ⊢; go_simp
           try rw [if_neg (by simp [undef])]
           with_reducible refine hK _ _ (Below.refl _ _) ?_
           exact rfl
          ·as_aux_lemma =>
           intro vs W hS hdep K hK; have d0 := hdep ⟨11, .guard⟩ (by simp) rfl; simp only [PhiSt13B] at d0; refine ⟨?_⟩; simp only [Act.put, sA, sB, sC, Nat.zero_add, Nat.reduceAdd, d0] at hK ⊢; go_simp
           try rw [if_neg (by simp [undef])]
           with_reducible refine hK _ _ (Below.refl _ _) ?_
           exact rfl
          ·as_aux_lemma =>
           intro vs W hS hdep K hK; have d0 := hdep ⟨11, .guard⟩ (by simp) rfl; simp only [PhiSt13B] at d0; refine ⟨?_⟩; simp only [Act.put, sA, sB, sC, Nat.zero_add, Nat.reduceAdd, d0] at hK ⊢; go_simp
           try rw [if_neg (by simp [undef])]
           with_reducible refine hK _ _ (Below.refl _ _) ?_
           exact rfl
          ·as_aux_lemma =>
           intro vs W hS hdep K hK; have d0 := hdep ⟨11, .data⟩ (by simp) rfl; simp only [PhiSt13B] at d0; refine ⟨?_⟩; simp only [Act.put, sA, sB, sC, Nat.zero_add, Nat.reduceAdd, d0] at hK ⊢; go_simp; with_reducible refine hK _ _ (Below.refl _ _) ?_
           exact rfl
         ·intro vs13 w13 hS hv; have u17 := hv 17 (by simp); simp only [PhiSt13B] at u17; simp only [Act.put, sA, sB, sC, Nat.zero_add, Nat.reduceAdd, u17]; clear u17 hv; have hbe := Below.tr hb13 hS; go_wp2_with fail
          go_roundg (gk - 1)
          case measure => omega
          case rel => exact ⟨i + 1, by go_num, by omega, HN2, hbe⟩
      ·have t1 : decide ((i : Int) < (kl : Int)) = false := by simp; omega
       have li : ¬ ((i : Int) < (kl : Int)) := by omega
       have HF : Hid (StP kl m.tick dm br Ev Lf dg ps (n : Int) 0 0) := by
        refine .inr ⟨n, rfl, hn, .inr ⟨HE0.out, rfl, ?_⟩⟩; unfold stF; rw [if_neg (by rw [HS0.out]; simp), if_neg]; rw [List.any_eq_true]; rintro ⟨j, hj, h⟩; rw [HN.out j (by have := List.mem_range.1 hj; have := HKL.out; omega)] at h
        cases h
       go_wp2_with fail
       go_ret2
       exact ⟨0, 0, rfl, HF, Below.tr hbz hbe⟩
    ·have hs0 : (s != 0) = true := by simpa using hs
     have HF : Hid (StP kl m.tick dm br Ev Lf dg ps (n : Int) s 0) := .inr ⟨n, rfl, hn, .inr ⟨HE0.out, rfl, by unfold stF; rw [if_pos (by rw [HSA.out]; exact hs), HSA.out]⟩⟩; clear hs; go_wp2_with fail
     go_ret2
     exact ⟨s, 0, rfl, HF, hbz⟩
  ·have h0 : (E != 0) = true := by simpa using hE
   have HF : Hid (StP kl m.tick dm br Ev Lf dg ps (n : Int) 0 E) := .inr ⟨n, rfl, hn, .inl ⟨by rw [← HEE.out]; exact hE, rfl, HEE.out⟩⟩; clear hE; go_wp2_with fail
   go_ret2
   exact ⟨0, E, rfl, HF, hbw2⟩
end Go.Proofs.Yticobffjnjbjiaa
