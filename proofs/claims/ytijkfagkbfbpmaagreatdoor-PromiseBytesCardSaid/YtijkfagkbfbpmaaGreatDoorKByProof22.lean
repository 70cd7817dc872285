import Derived.Test.YtijkfagkbfbpmaaGreatDoorKByProof21
import Derived.ChangeKeysEq
import Derived.Test.YtijkfagkbfbpmaaGreatDoorKByProof12
import Derived.Laws.EntriesVeiled
import Derived.Test.YtijkfagkbfbpmaaGreatDoorKByProof17
import Derived.Test.YtijkfagkbfbpmaaGreatDoorKByProof15
import Derived.Test.YtijkfagkbfbpmaaGreatDoorKByProof14
import Derived.Deep.CutRange
import Derived.Test.YtijkfagkbfbpmaaGreatDoorS0
set_option linter.unusedVariables false
set_option linter.unusedSimpArgs false
namespace Go.Proofs.YtijkfagkbfbpmaaGreatDoor
open Go Go.RowKit
section
variable (w : World)
theorem eqI_step {P : Program} {d : Nat} {xs ys : Array Value} {e : TypeId} {k i : Nat} {is : List Nat} {u v : Value} {b c : Bool} (h1 : (part e xs (i * k)).run P w = .ok u w) (h2 : (part e ys (i * k)).run P w = .ok v w) (h3 : (Op.equalIn d e u v).run P w = .ok b w) (h4 : (Op.eqItems d e k xs ys is).run P w = .ok c w) :
  (Op.eqItems d e k xs ys (i :: is)).run P w = .ok (b && c) w := by
 unfold Op.eqItems; simp only [Sem.run_bind, h1, h2, h3, Result.andThen_ok]
 cases b
 ·simp
 ·simpa using h4
def bytes16 (l : List Int) : List Value := l.map fun n => .int .u8 n
theorem eq_bytes (d : Nat) : ∀ (l m : List Int) (is : List Nat) (xs ys : Array Value), l.length = m.length → (∀ (j : Nat) n, l[j]? = some n → ∃ i, is[j]? = some i ∧ xs[i]? = some (.int .u8 n)) → (∀ (j : Nat) n, m[j]? = some n → ∃ i, is[j]? = some i ∧ ys[i]? = some (.int .u8 n)) → is.length = l.length →
  (Op.eqItems (d + 1) 5 1 xs ys is).run Tryz.prog w = .ok (l == m) w
 | [], [], [], xs, ys, _, _, _, _ => by simp [Op.eqItems]
 | n :: l, k :: m, i :: is, xs, ys, hl, hx, hy, hi => by
  obtain ⟨i1, e1, h1⟩ := hx 0 n rfl; obtain ⟨i2, e2, h2⟩ := hy 0 k rfl; simp only [List.getElem?_cons_zero, Option.some.injEq] at e1 e2; subst e1 e2
  have ih := eq_bytes d l m is xs ys (by simpa using hl) (fun j a h => by
   obtain ⟨i, h3, h4⟩ := hx (j + 1) a (by simpa using h); exact ⟨i, by simpa using h3, h4⟩) (fun j a h => by
   obtain ⟨i, h3, h4⟩ := hy (j + 1) a (by simpa using h); exact ⟨i, by simpa using h3, h4⟩) (by simpa using hi)
  rw [List.cons_beq_cons]; exact eqI_step w (run_part_plain w (by kernel_rfl) (by rw [Nat.mul_one]; exact h1)) (run_part_plain w (by kernel_rfl) (by rw [Nat.mul_one]; exact h2)) (run_equalIn_int w d 5 .u8 .u8 n k (by kernel_rfl)) ih
end
end Go.Proofs.YtijkfagkbfbpmaaGreatDoor
namespace Go.Proofs.YtijkfagkbfbpmaaGreatDoor
open Go Go.RowKit
/-- what is known at a moment -/
structure MM where
 tick : Int
 r0 : Value
 r1 : Value
 r2 : Value
 r3 : Value
 r4 : Value
 r5 : Value
 r6 : Value
 r7 : Value
 r8 : Value
 r9 : Value
 r10 : Value
 r11 : Value
 r12 : Value
 r13 : Value
 r14 : Value
 r15 : Value
 A : Option Addr
 k : Nat
 c : Nat
def cellsM (m : MM) : List Value := [.int .i64 m.tick, m.r0, m.r1, m.r2, m.r3, m.r4, m.r5, m.r6, m.r7, m.r8, m.r9, m.r10, m.r11, m.r12, m.r13, m.r14, m.r15, .slice m.A m.k m.c]
def mdg (m : MM) : List Value := [m.r0, m.r1, m.r2, m.r3, m.r4, m.r5, m.r6, m.r7, m.r8, m.r9, m.r10, m.r11, m.r12, m.r13, m.r14, m.r15]
def pdg (m : PC) : List Value := [m.r0, m.r1, m.r2, m.r3, m.r4, m.r5, m.r6, m.r7, m.r8, m.r9, m.r10, m.r11, m.r12, m.r13, m.r14, m.r15]
theorem infoM {m : MM} : (Tryz.prog.info? 90).map (·.size) = some (cellsM m).length := by kernel_rfl
theorem infoMd {m : MM} : (Tryz.prog.info? 31).map (·.size) = some (mdg m).length := by kernel_rfl
theorem infoPd {m : PC} : (Tryz.prog.info? 31).map (·.size) = some (pdg m).length := by kernel_rfl
/-- equality of digests -/
theorem dig_equal (w : World) (d : Nat) (l m : List Int) (hl : l.length = 16) (hm : m.length = 16) : (Op.equalIn (d + 2) 31 (.agg (bytes16 l).toArray) (.agg (bytes16 m).toArray)).run Tryz.prog w = .ok (l == m) w := by
 obtain ⟨ib, hib⟩ : ∃ i, Tryz.prog.info? 5 = some i := by
  have h : (Tryz.prog.info? 5).map (·.size) = some 1 := by kernel_rfl
  cases e : Tryz.prog.info? 5 with
  | none => rw [e] at h; cases h
  | some i => exact ⟨i, rfl⟩
 rw [run_equalIn_array w (d + 1) _ _ (show Tryz.prog.underlying 31 = some (.array 16 5) by kernel_rfl) hib, show Tryz.prog.cellsOf 5 = 1 by kernel_rfl]; refine eq_bytes w d _ _ _ _ _ (by rw [hl, hm]) ?_ ?_ (by simp [hl])
 ·intro j n h; have h1 := (List.getElem?_eq_some_iff.1 h).1; rw [hl] at h1; refine ⟨j, ?_, ?_⟩
  ·simp [h1]
  ·simp [bytes16, h]
 ·intro j n h; have h1 := (List.getElem?_eq_some_iff.1 h).1; rw [hm] at h1; refine ⟨j, ?_, ?_⟩
  ·simp [h1]
  ·simp [bytes16, h]
theorem dig_neq (w : World) (l m : List Int) (hl : l.length = 16) (hm : m.length = 16) : (binOp .neq 31 (.agg (bytes16 l).toArray) (.agg (bytes16 m).toArray)).run Tryz.prog w = .ok (.bool (!(l == m))) w := by
 rw [run_neq_struct, show (10000 : Nat) = 9998 + 2 from rfl, dig_equal w 9998 l m hl hm]; rfl
/-- digests of bytes -/
def DgOk (l : List Value) (d : List Int) : Prop := l = bytes16 d ∧ d.length = 16
theorem early_n (m : MM) (p : PC) (k : Int) (w : World) :
  Calls Tryz.prog 139 #[.agg (cellsM m).toArray, .agg (cellsP p).toArray, .int .i64 k] w fun e w' => e = .returned (.bool (decide (m.tick < p.fr))) ∧ Below w.heap.size w w' := by
 unfold cellsM cellsP
 go_enter Tryz.func139, Tryz.ntmps139
 go_wp2_with fail; go_ret; exact ⟨rfl, Below.tr (bA _ _) (bA _ _)⟩
theorem over_n (m : MM) (p : PC) (k : Int) (w : World) :
  Calls Tryz.prog 140 #[.agg (cellsM m).toArray, .agg (cellsP p).toArray, .int .i64 k] w fun e w' => e = .returned (.bool (decide (p.un ≤ m.tick))) ∧ Below w.heap.size w w' := by
 unfold cellsM cellsP
 go_enter Tryz.func140, Tryz.ntmps140
 go_wp2_with fail; go_ret; exact ⟨rfl, Below.tr (bA _ _) (bA _ _)⟩
set_option maxRecDepth 10000 in
theorem changed_n (m : MM) (p : PC) (k : Int) (dm dp : List Int) (hm : DgOk (mdg m) dm) (hp : DgOk (pdg p) dp) (w : World) :
  Calls Tryz.prog 141 #[.agg (cellsM m).toArray, .agg (cellsP p).toArray, .int .i64 k] w fun e w' => e = .returned (.bool (!(dm == dp))) ∧ Below w.heap.size w w' := by
 obtain ⟨b, HB⟩ : ∃ b, Hid (b = !(dm == dp)) := ⟨_, rfl⟩; rw [← HB.out]
 have hneq : ∀ w, (binOp .neq 31 (.agg (mdg m).toArray) (.agg (pdg p).toArray)).run Tryz.prog w = .ok (.bool b) w := fun w => by
  rw [hm.1, hp.1, dig_neq w dm dp hm.2 hp.2, HB.out]
 clear hm hp; have hb1 := bA w (.cells (cellsM m).toArray 90); have hb2 := bA (w.alloc (.cells (cellsM m).toArray 90)) (.cells (cellsP p).toArray 33)
 have r1 : (((w.alloc (.cells (cellsM m).toArray 90)).alloc (.cells (cellsP p).toArray 33))).rangeAt w.heap.size 1 (mdg m) := by
  have hB := (Blk.new w 90 (cellsM m).toArray).alloc (.cells (cellsP p).toArray 33); intro j v hj; rw [hB.cell]; have h1 := (List.getElem?_eq_some_iff.1 hj).1
  rcases j with _ | _ | _ | _ | _ | _ | _ | _ | _ | _ | _ | _ | _ | _ | _ | _ | j <;> first | exact hj | (exfalso; simp only [mdg, List.length_cons, List.length_nil] at h1; omega)
 have r2 : (((w.alloc (.cells (cellsM m).toArray 90)).alloc (.cells (cellsP p).toArray 33))).rangeAt (w.heap.size + 1) 8 (pdg p) := by
  have hB := Blk.new (w.alloc (.cells (cellsM m).toArray 90)) 33 (cellsP p).toArray; have e : (w.alloc (.cells (cellsM m).toArray 90)).heap.size = w.heap.size + 1 := by simp
  rw [e] at hB; intro j v hj; rw [hB.cell]; have h1 := (List.getElem?_eq_some_iff.1 hj).1
  rcases j with _ | _ | _ | _ | _ | _ | _ | _ | _ | _ | _ | _ | _ | _ | _ | _ | j <;> first | exact hj | (exfalso; simp only [pdg, List.length_cons, List.length_nil] at h1; omega)
 go_enter Tryz.func141, Tryz.ntmps141
 go_wp2_with (first | (refine wpList_load_mid rfl 31 (.tmp 7) rfl w.heap.size 1 rfl (mdg m) _ r1 Tryz.underlying31 rfl infoMd ?_; simp only [Act.put, sA, sB, sC]) | (refine wpList_load_mid rfl 31 (.tmp 9) rfl (w.heap.size + 1) 8 rfl (pdg p) _ r2 Tryz.underlying31 rfl infoPd ?_; simp only [Act.put, sA, sB, sC]))
 go_ret; exact ⟨rfl, Below.tr hb1 hb2⟩
theorem sidx_n (A : Option Addr) (k c : Nat) (l : List Int) (x : Int) (w : World) (hl : RowS intC w A k l) :
  Calls Tryz.prog 172 #[.slice A k c, .int .i64 x] w fun e w' => ∃ n : Int, e = .returned (.int .i64 n) ∧ Hid (0 ≤ n ↔ x ∈ l) ∧ w = w' := by
 have hk := hl.2.1; have hk2 := hl.2.2; have HK := Lib.hid hk
 go_enter Tryz.func172, Tryz.ntmps172
 go_wp2_with fail
 go_loopg [8] k (fun m v wr => ∃ i : Nat, v = .int .i64 i ∧ i + m = k ∧ Hid (x ∉ l.take i) ∧ wr = w)
 case atStart => exact ⟨0, rfl, by omega, by show _ ∉ _; simp, rfl⟩
 case round =>
  obtain ⟨i, rfl, him, HN, rfl⟩ := hrel; by_cases hi : i < k
  ·have t1 : decide ((i : Int) < (k : Int)) = true := by simp; omega
   have li : (i : Int) < (k : Int) := by omega
   obtain ⟨b, off, n, rfl, hc, HX⟩ := hl.int hi; by_cases hn : x = n
   ·subst hn; have HI : Hid (0 ≤ (i : Int) ↔ x ∈ l) := ⟨fun _ => List.mem_of_getElem? HX.out, fun _ => by omega⟩; go_wp2_with fail; go_ret; exact ⟨_, rfl, HI, rfl⟩
   ·have hn2 : (x == n) = false := by simpa using hn
    have HN2 : Hid (x ∉ l.take (i + 1)) := by
     show _ ∉ _
     rw [List.take_add_one, HX.out]; simp only [Option.toList, List.mem_append, List.mem_singleton, not_or]; exact ⟨HN.out, hn⟩
    go_wp2_with fail
    go_roundg (gk - 1)
    case measure => omega
    case rel => exact ⟨i + 1, by go_num, by omega, HN2, rfl⟩
  ·have t1 : decide ((i : Int) < (k : Int)) = false := by simp; omega
   have li : ¬ ((i : Int) < (k : Int)) := by omega
   have HI : Hid (0 ≤ (-1 : Int) ↔ x ∈ l) := by
    have h := HN.out; rw [List.take_of_length_le (by have := HK.out; omega)] at h; exact ⟨fun h => by omega, fun h' => absurd h' h⟩
   go_wp2_with fail; go_ret; exact ⟨_, rfl, HI, rfl⟩
theorem ctn_n (A : Option Addr) (k c : Nat) (l : List Int) (x : Int) (w : World) (hl : RowS intC w A k l) :
  Calls Tryz.prog 143 #[.slice A k c, .int .i64 x] w fun e w' => e = .returned (.bool (l.contains x)) ∧ w = w' := by
 obtain ⟨b, HB⟩ : ∃ b, Hid (b = l.contains x) := ⟨_, rfl⟩; rw [← HB.out]
 go_enter Tryz.func143, Tryz.ntmps143
 go_wp2_with fail; refine (sidx_n A k c l x _ hl).mono ?_; rintro e w' ⟨n, rfl, HI, rfl⟩; by_cases h : 0 ≤ n
 ·have h1 : decide (n ≥ 0) = true := by simpa using h
  obtain rfl : b = true := by rw [HB.out]; simpa using HI.out.1 h
  go_wp2_with fail; go_ret; exact ⟨rfl, rfl⟩
 ·have h1 : decide (n ≥ 0) = false := by simpa using h
  obtain rfl : b = false := by rw [HB.out]; simpa using fun h' => h (HI.out.2 h')
  go_wp2_with fail; go_ret; exact ⟨rfl, rfl⟩
set_option maxRecDepth 10000 in
theorem broken_n (m : MM) (p : PC) (k : Int) (l : List Int) (w : World) (hl : RowS intC w m.A m.k l) :
  Calls Tryz.prog 142 #[.agg (cellsM m).toArray, .agg (cellsP p).toArray, .int .i64 k] w fun e w' => e = .returned (.bool (l.contains k)) ∧ Below w.heap.size w w' := by
 obtain ⟨b, HB⟩ : ∃ b, Hid (b = l.contains k) := ⟨_, rfl⟩; rw [← HB.out]; have hl2 := (hl.below (bA w (.cells (cellsM m).toArray 90))).below (bA (w.alloc (.cells (cellsM m).toArray 90)) (.cells (cellsP p).toArray 33)); unfold cellsM cellsP at *
 go_enter Tryz.func142, Tryz.ntmps142
 go_wp2_with fail; refine (ctn_n m.A m.k m.c l k _ hl2).mono ?_; rintro e w' ⟨he, rfl⟩; rw [← HB.out] at he; subst he; go_wp2_with fail; go_ret; exact ⟨rfl, Below.tr (bA _ _) (bA _ _)⟩
/-- what alone returns: four rules -/
def rulesC : List Value := [.int .i64 1, .func (.func 139) #[] #[], .int .i64 2, .func (.func 140) #[] #[], .int .i64 3, .func (.func 141) #[] #[], .int .i64 4, .func (.func 142) #[] #[]]
/-- the state of a promise by itself -/
def stN (tick : Int) (dm : List Int) (br : List Int) (p : PC) (dp : List Int) (k : Int) : Int :=
 if tick < p.fr then 1 else if p.un ≤ tick then 2 else if !(dm == dp) then 3 else if br.contains k then 4 else 0
theorem alone_n (w : World) :
  Calls Tryz.prog 97 #[] w fun e w' => e = .returned (.slice (some ⟨w.heap.size, 0, none⟩) 4 4) ∧ Hid (Blk w' w.heap.size 139 rulesC.toArray) ∧ Below w.heap.size w w' := by
 go_enter Tryz.func97, Tryz.ntmps97
 go_wp2_with fail; go_ret; exact ⟨rfl, Blk.new _ _ _, bA _ _⟩
theorem blk_range {w : World} {g : Nat} {T : TypeId} {cs : List Value} (h : Blk w g T cs.toArray) : w.rangeAt g 0 cs := by
 intro j v hj; rw [h.cell, Nat.zero_add]
 simpa using hj
def HRel (m : MM) (p : PC) (dm dp br : List Int) (k : Int) : Nat → Prop
 | 0 => True
 | 1 => ¬ m.tick < p.fr ∧ True
 | 2 => ¬ m.tick < p.fr ∧ ¬ p.un ≤ m.tick ∧ True
 | 3 => ¬ m.tick < p.fr ∧ ¬ p.un ≤ m.tick ∧ ¬ (!(dm == dp)) = true ∧ True
 | _ => ¬ m.tick < p.fr ∧ ¬ p.un ≤ m.tick ∧ ¬ (!(dm == dp)) = true ∧ ¬ br.contains k = true ∧ True
set_option maxRecDepth 100000 in
set_option maxHeartbeats 4000000 in
theorem mstate_n (m : MM) (p : PC) (k : Int) (dm dp br : List Int) (hdm : DgOk (mdg m) dm) (hdp : DgOk (pdg p) dp) (w : World) (hbr : RowS intC w m.A m.k br) :
  Calls Tryz.prog 53 #[.agg (cellsM m).toArray, .agg (cellsP p).toArray, .int .i64 k] w fun e w' => e = .returned (.int .i64 (stN m.tick dm br p dp k)) ∧ Below w.heap.size w w' := by
 have hbw0 : Below w.heap.size w ((w.alloc (.cells (cellsM m).toArray 90)).alloc (.cells (cellsP p).toArray 33)) := Below.tr (bA _ _) (bA _ _); have BM0 := (Blk.new w 90 (cellsM m).toArray).alloc (.cells (cellsP p).toArray 33); have BP0 := Blk.new (w.alloc (.cells (cellsM m).toArray 90)) 33 (cellsP p).toArray; rw [show (w.alloc (.cells (cellsM m).toArray 90)).heap.size = w.heap.size + 1 by simp] at BP0
 go_enter Tryz.func53, Tryz.ntmps53
 go_wp2_with fail; refine (alone_n _).mono ?_; rintro e w1 ⟨rfl, HR1, hb1⟩; have hbw0 := Below.tr hbw0 hb1; have HBM := Lib.hid (Blk.below BM0 hb1 BM0.lt); have HBP := Lib.hid (Blk.below BP0 hb1 BP0.lt); clear BM0 BP0 hb1; generalize ((w.alloc (.cells (cellsM m).toArray 90)).alloc (.cells (cellsP p).toArray 33)).heap.size = gR at HR1; go_wp2_with fail
 go_loopg [11] 4 (fun mm x wr => ∃ i : Nat, x = .int .i64 i ∧ i + mm = 4 ∧ Hid (HRel m p dm dp br k i) ∧ Below w1.heap.size w1 wr)
 case atStart => exact ⟨0, rfl, by omega, trivial, Below.refl _ _⟩
 case round =>
  obtain ⟨i, rfl, him, H, hbe⟩ := hrel; have hR := Blk.below HR1.out hbe HR1.out.lt
  rcases i with _ | _ | _ | _ | i
  ·have q0 : wr.cell? ⟨gR, 0 + 0, none⟩ = some (.int .i64 1) := by rw [hR.cell]; rfl
   have q1 : wr.cell? ⟨gR, 0 + 0 + 1, none⟩ = some (.func (.func 139) #[] #[]) := by rw [hR.cell]; rfl
   simp only [Nat.zero_add, Nat.reduceAdd] at q0 q1; go_upto_region 4 with fail; refine wp_name ?_; intro v4 HV4; have hb4 : Below wr.heap.size wr v4 := by rw [HV4.out]; exact bA _ _
   have B8 : Blk v4 wr.heap.size 139 #[.int .i64 1, .func (.func 139) #[] #[]] := by rw [HV4.out]; exact Blk.new _ _ _
   have BM4 := Blk.below (Blk.below HBM.out hbe HBM.out.lt) hb4 (Nat.lt_of_lt_of_le HBM.out.lt hbe.size); have BP4 := Blk.below (Blk.below HBP.out hbe HBP.out.lt) hb4 (Nat.lt_of_lt_of_le HBP.out.lt hbe.size); have q1 := B8.cell 1; simp only [List.getElem?_toArray, List.getElem?_cons_zero, List.getElem?_cons_succ] at q1; generalize wr.heap.size = g8 at B8 q1; clear HV4 q0
   go_wp2_with (first | (refine wpList_load_mid rfl 90 (.tmp 3) rfl w.heap.size 0 rfl (cellsM m) _ (blk_range BM4) Tryz.underlying90 rfl infoM ?_; simp only [Act.put, sA, sB, sC]) | (refine wpList_load_mid rfl 33 (.tmp 4) rfl (w.heap.size + 1) 0 rfl (cellsP p) _ (blk_range BP4) Tryz.underlying33 rfl infoP ?_; simp only [Act.put, sA, sB, sC]))
   refine (early_n m p k _).mono ?_; rintro e w5 ⟨rfl, hb5⟩; have B8 := Blk.below B8 hb5 B8.lt; have q0 := B8.cell 0; simp only [List.getElem?_toArray, List.getElem?_cons_zero, List.getElem?_cons_succ] at q0; have hbz := Below.tr hbe (Below.tr hb4 hb5); clear q1 BM4 BP4 hb4 hb5 hR; by_cases hc : m.tick < p.fr
   ·have hd : decide (m.tick < p.fr) = true := by simpa using hc
    have HS : Hid ((1 : Int) = stN m.tick dm br p dp k) := by
     show _ = _
     unfold stN; rw [if_pos hc]
    clear hc; go_wp2_with fail; go_ret; exact ⟨by rw [← HS.out]; rfl, Below.tr hbw0 hbz⟩
   ·have hd : decide (m.tick < p.fr) = false := by simpa using hc
    have HH : Hid (¬ m.tick < p.fr ∧ True) := ⟨hc, trivial⟩; clear hc H; go_wp2_with fail
    go_roundg (gk - 1)
    case measure => omega
    case rel => exact ⟨1, by go_num, by omega, by simpa [HRel] using HH, hbz⟩
  ·have q0 : wr.cell? ⟨gR, 0 + 2, none⟩ = some (.int .i64 2) := by rw [hR.cell]; rfl
   have q1 : wr.cell? ⟨gR, 0 + 2 + 1, none⟩ = some (.func (.func 140) #[] #[]) := by rw [hR.cell]; rfl
   simp only [Nat.zero_add, Nat.reduceAdd] at q0 q1; go_upto_region 4 with fail; refine wp_name ?_; intro v4 HV4; have hb4 : Below wr.heap.size wr v4 := by rw [HV4.out]; exact bA _ _
   have B8 : Blk v4 wr.heap.size 139 #[.int .i64 2, .func (.func 140) #[] #[]] := by rw [HV4.out]; exact Blk.new _ _ _
   have BM4 := Blk.below (Blk.below HBM.out hbe HBM.out.lt) hb4 (Nat.lt_of_lt_of_le HBM.out.lt hbe.size); have BP4 := Blk.below (Blk.below HBP.out hbe HBP.out.lt) hb4 (Nat.lt_of_lt_of_le HBP.out.lt hbe.size); have q1 := B8.cell 1; simp only [List.getElem?_toArray, List.getElem?_cons_zero, List.getElem?_cons_succ] at q1; generalize wr.heap.size = g8 at B8 q1; clear HV4 q0
   go_wp2_with (first | (refine wpList_load_mid rfl 90 (.tmp 3) rfl w.heap.size 0 rfl (cellsM m) _ (blk_range BM4) Tryz.underlying90 rfl infoM ?_; simp only [Act.put, sA, sB, sC]) | (refine wpList_load_mid rfl 33 (.tmp 4) rfl (w.heap.size + 1) 0 rfl (cellsP p) _ (blk_range BP4) Tryz.underlying33 rfl infoP ?_; simp only [Act.put, sA, sB, sC]))
   refine (over_n m p k _).mono ?_; rintro e w5 ⟨rfl, hb5⟩; have B8 := Blk.below B8 hb5 B8.lt; have q0 := B8.cell 0; simp only [List.getElem?_toArray, List.getElem?_cons_zero, List.getElem?_cons_succ] at q0; have hbz := Below.tr hbe (Below.tr hb4 hb5); clear q1 BM4 BP4 hb4 hb5 hR; by_cases hc : p.un ≤ m.tick
   ·have hd : decide (p.un ≤ m.tick) = true := by simpa using hc
    have HS : Hid ((2 : Int) = stN m.tick dm br p dp k) := by
     show _ = _
     unfold stN; rw [if_neg H.out.1]; rw [if_pos hc]
    clear hc; go_wp2_with fail; go_ret; exact ⟨by rw [← HS.out]; rfl, Below.tr hbw0 hbz⟩
   ·have hd : decide (p.un ≤ m.tick) = false := by simpa using hc
    have HH : Hid (¬ m.tick < p.fr ∧ ¬ p.un ≤ m.tick ∧ True) := ⟨H.out.1, hc, trivial⟩; clear hc H; go_wp2_with fail
    go_roundg (gk - 1)
    case measure => omega
    case rel => exact ⟨2, by go_num, by omega, by simpa [HRel] using HH, hbz⟩
  ·have q0 : wr.cell? ⟨gR, 0 + 4, none⟩ = some (.int .i64 3) := by rw [hR.cell]; rfl
   have q1 : wr.cell? ⟨gR, 0 + 4 + 1, none⟩ = some (.func (.func 141) #[] #[]) := by rw [hR.cell]; rfl
   simp only [Nat.zero_add, Nat.reduceAdd] at q0 q1; go_upto_region 4 with fail; refine wp_name ?_; intro v4 HV4; have hb4 : Below wr.heap.size wr v4 := by rw [HV4.out]; exact bA _ _
   have B8 : Blk v4 wr.heap.size 139 #[.int .i64 3, .func (.func 141) #[] #[]] := by rw [HV4.out]; exact Blk.new _ _ _
   have BM4 := Blk.below (Blk.below HBM.out hbe HBM.out.lt) hb4 (Nat.lt_of_lt_of_le HBM.out.lt hbe.size); have BP4 := Blk.below (Blk.below HBP.out hbe HBP.out.lt) hb4 (Nat.lt_of_lt_of_le HBP.out.lt hbe.size); have q1 := B8.cell 1; simp only [List.getElem?_toArray, List.getElem?_cons_zero, List.getElem?_cons_succ] at q1; generalize wr.heap.size = g8 at B8 q1; clear HV4 q0
   go_wp2_with (first | (refine wpList_load_mid rfl 90 (.tmp 3) rfl w.heap.size 0 rfl (cellsM m) _ (blk_range BM4) Tryz.underlying90 rfl infoM ?_; simp only [Act.put, sA, sB, sC]) | (refine wpList_load_mid rfl 33 (.tmp 4) rfl (w.heap.size + 1) 0 rfl (cellsP p) _ (blk_range BP4) Tryz.underlying33 rfl infoP ?_; simp only [Act.put, sA, sB, sC]))
   refine (changed_n m p k dm dp hdm hdp _).mono ?_; rintro e w5 ⟨rfl, hb5⟩; have B8 := Blk.below B8 hb5 B8.lt; have q0 := B8.cell 0; simp only [List.getElem?_toArray, List.getElem?_cons_zero, List.getElem?_cons_succ] at q0; have hbz := Below.tr hbe (Below.tr hb4 hb5); clear q1 BM4 BP4 hb4 hb5 hR; by_cases hc : (!(dm == dp)) = true
   ·have hd : (!(dm == dp)) = true := by exact hc
    have HS : Hid ((3 : Int) = stN m.tick dm br p dp k) := by
     show _ = _
     unfold stN; rw [if_neg H.out.1]; rw [if_neg H.out.2.1]; rw [if_pos hc]
    clear hc; go_wp2_with fail; go_ret; exact ⟨by rw [← HS.out]; rfl, Below.tr hbw0 hbz⟩
   ·have hd : (!(dm == dp)) = false := by simpa using hc
    have HH : Hid (¬ m.tick < p.fr ∧ ¬ p.un ≤ m.tick ∧ ¬ (!(dm == dp)) = true ∧ True) := ⟨H.out.1, H.out.2.1, hc, trivial⟩; clear hc H; go_wp2_with fail
    go_roundg (gk - 1)
    case measure => omega
    case rel => exact ⟨3, by go_num, by omega, by simpa [HRel] using HH, hbz⟩
  ·have q0 : wr.cell? ⟨gR, 0 + 6, none⟩ = some (.int .i64 4) := by rw [hR.cell]; rfl
   have q1 : wr.cell? ⟨gR, 0 + 6 + 1, none⟩ = some (.func (.func 142) #[] #[]) := by rw [hR.cell]; rfl
   simp only [Nat.zero_add, Nat.reduceAdd] at q0 q1; go_upto_region 4 with fail; refine wp_name ?_; intro v4 HV4; have hb4 : Below wr.heap.size wr v4 := by rw [HV4.out]; exact bA _ _
   have B8 : Blk v4 wr.heap.size 139 #[.int .i64 4, .func (.func 142) #[] #[]] := by rw [HV4.out]; exact Blk.new _ _ _
   have BM4 := Blk.below (Blk.below HBM.out hbe HBM.out.lt) hb4 (Nat.lt_of_lt_of_le HBM.out.lt hbe.size); have BP4 := Blk.below (Blk.below HBP.out hbe HBP.out.lt) hb4 (Nat.lt_of_lt_of_le HBP.out.lt hbe.size); have q1 := B8.cell 1; simp only [List.getElem?_toArray, List.getElem?_cons_zero, List.getElem?_cons_succ] at q1; generalize wr.heap.size = g8 at B8 q1; clear HV4 q0
   go_wp2_with (first | (refine wpList_load_mid rfl 90 (.tmp 3) rfl w.heap.size 0 rfl (cellsM m) _ (blk_range BM4) Tryz.underlying90 rfl infoM ?_; simp only [Act.put, sA, sB, sC]) | (refine wpList_load_mid rfl 33 (.tmp 4) rfl (w.heap.size + 1) 0 rfl (cellsP p) _ (blk_range BP4) Tryz.underlying33 rfl infoP ?_; simp only [Act.put, sA, sB, sC]))
   refine (broken_n m p k br _ (hbr.below (Below.tr hbw0 (Below.tr hbe hb4)))).mono ?_; rintro e w5 ⟨he, hb5⟩; obtain ⟨bb, HBB⟩ : ∃ bb, Hid (bb = br.contains k) := ⟨_, rfl⟩; rw [← HBB.out] at he; subst he; have B8 := Blk.below B8 hb5 B8.lt; have q0 := B8.cell 0; simp only [List.getElem?_toArray, List.getElem?_cons_zero, List.getElem?_cons_succ] at q0; have hbz := Below.tr hbe (Below.tr hb4 hb5); clear q1 BM4 BP4 hb4 hb5 hR; by_cases hc : br.contains k = true
   ·have hd : bb = true := by rw [HBB.out]; exact hc
    have HS : Hid ((4 : Int) = stN m.tick dm br p dp k) := by
     show _ = _
     unfold stN; rw [if_neg H.out.1]; rw [if_neg H.out.2.1]; rw [if_neg H.out.2.2.1]; rw [if_pos hc]
    clear hc; go_wp2_with fail; go_ret; exact ⟨by rw [← HS.out]; rfl, Below.tr hbw0 hbz⟩
   ·have hd : bb = false := by rw [HBB.out]; simpa using hc
    have HH : Hid (¬ m.tick < p.fr ∧ ¬ p.un ≤ m.tick ∧ ¬ (!(dm == dp)) = true ∧ ¬ br.contains k = true ∧ True) := ⟨H.out.1, H.out.2.1, H.out.2.2.1, hc, trivial⟩; clear hc H; go_wp2_with fail
    go_roundg (gk - 1)
    case measure => omega
    case rel => exact ⟨4, by go_num, by omega, by simpa [HRel] using HH, hbz⟩
  ·obtain rfl : i = 0 := by omega
   have HS : Hid ((0 : Int) = stN m.tick dm br p dp k) := by
    show _ = _
    unfold stN; rw [if_neg H.out.1, if_neg H.out.2.1, if_neg H.out.2.2.1, if_neg H.out.2.2.2.1]
   go_wp2_with fail; go_ret; exact ⟨by rw [← HS.out]; rfl, Below.tr hbw0 hbe⟩
end Go.Proofs.YtijkfagkbfbpmaaGreatDoor
namespace Go.Proofs.YtijkfagkbfbpmaaGreatDoor
open Go Go.RowKit
set_option maxRecDepth 10000 in
set_option maxHeartbeats 400000 in
theorem equ32_n (A1 A2 : Option Addr) (k1 c1 k2 c2 : Nat) (l1 l2 : List Nat) (w : World) (h1 : Lim w A1 c1 l1) (h2 : Lim w A2 c2 l2) (e1 : k1 = l1.length) (e2 : k2 = l2.length) :
  Calls Tryz.prog 66 #[.slice A1 k1 c1, .slice A2 k2 c2] w fun e w' => ∃ b, e = .returned (.bool b) ∧ Hid (b = sameB l1 l2) ∧ Below w.heap.size w w' := by
 have hkb1 : k1 ≤ 9223372036854775807 := by have := h1.2.1; have := h1.2.2.1; omega
 have E1 := Lib.hid e1; have E2 := Lib.hid e2; by_cases hk : k1 = k2
 ·subst hk; clear e1 e2
  go_enter Tryz.func66, Tryz.ntmps66
  go_wp2
  go_loopg [13] k1 (fun j x wr => ∃ i : Nat, x = .int .i64 i ∧ i + j = k1 ∧ Hid (l1.take i = l2.take i) ∧ ∃ nq, wr = w.drewN nq)
  case atStart => exact ⟨0, rfl, by omega, by show _ = _; simp, 0, rfl⟩
  case round =>
   obtain ⟨i, rfl, hij, HT, nq, rfl⟩ := hrel; by_cases hi : i < k1
   ·obtain ⟨b1, o1, a, rfl, hca, ha, HA⟩ := h1.get (k := i) (by have := E1.out; omega); obtain ⟨b2, o2, b, rfl, hcb, hb, HB⟩ := h2.get (k := i) (by have := E2.out; omega); by_cases hab : a = b
    ·have HT2 : Hid (l1.take (i + 1) = l2.take (i + 1)) := take_same (by have := E1.out; omega) (by rw [← E1.out, ← E2.out]) HT.out HA.out HB.out hab; have hd : ((a : Int) != (b : Int)) = false := by rw [hab]; simp
     clear hab; go_wp2_with fail
     go_quiet (fail)
     go_wp2_with fail
     go_roundg (gk - 1)
     case measure => omega
     case rel => exact ⟨i + 1, by go_num, by omega, HT2, _, rfl⟩
    ·have hd : ((a : Int) != (b : Int)) = true := by simp; omega
     have HF : Hid (false = sameB l1 l2) := by
      show _ = _; unfold sameB; symm; rw [decide_eq_false_iff_not]
      rintro rfl; exact hab (HA.out.trans HB.out.symm)
     clear hab; go_wp2_with fail
     go_quiet (fail)
     go_wp2_with fail; go_ret; exact ⟨_, rfl, HF, Below.tr (below_drewN _ _) (below_drewN _ _)⟩
   ·obtain rfl : k1 = i := by omega
    have HF : Hid (true = sameB l1 l2) := by
     show _ = _; unfold sameB; symm; rw [decide_eq_true_iff]
     have := HT.out
     rwa [List.take_of_length_le (by rw [← E1.out]; omega), List.take_of_length_le (by rw [← E2.out]; omega)] at this
    go_wp2_with fail; go_ret; exact ⟨_, rfl, HF, below_drewN _ _⟩
 ·have HF : Hid (false = sameB l1 l2) := by
   show _ = _; unfold sameB; symm; rw [decide_eq_false_iff_not]
   rintro rfl; exact hk (e1.trans e2.symm)
  have hd : ((k1 : Int) != (k2 : Int)) = true := by simp; omega
  clear e1 e2 hk
  go_enter Tryz.func66, Tryz.ntmps66
  go_wp2
  go_ret; exact ⟨_, rfl, HF, Below.refl _ _⟩
set_option maxRecDepth 10000 in
set_option maxHeartbeats 400000 in
theorem psame_n (va vb : Value) (L1 L2 L3 L4 : List Nat) (w : World) (ha : RtL w va L1 L2) (hb : RtL w vb L3 L4) :
  Calls Tryz.prog 34 #[va, vb] w fun e w' => ∃ b, e = .returned (.bool b) ∧ Hid (b = sameR L1 L2 L3 L4) ∧ Below w.heap.size w w' := by
 obtain ⟨A1, k1, c1, A2, k2, c2, rfl, h1, h2, e1, e2⟩ := ha; obtain ⟨B1, m1, d1, B2, m2, d2, rfl, h3, h4, e3, e4⟩ := hb; have E1 := Lib.hid e1; have E2 := Lib.hid e2; have E3 := Lib.hid e3; have E4 := Lib.hid e4; clear e1 e2 e3 e4; obtain ⟨W, HW⟩ : ∃ W, Hid (W = (w.alloc (.cells #[.slice A1 k1 c1, .slice A2 k2 c2] 29)).alloc (.cells #[.slice B1 m1 d1, .slice B2 m2 d2] 29)) := ⟨_, rfl⟩; have hbw : Below w.heap.size w W := by rw [HW.out]; exact Below.tr (bA _ _) (bA _ _)
 have BA : Blk W w.heap.size 29 #[.slice A1 k1 c1, .slice A2 k2 c2] := by rw [HW.out]; exact (Blk.new _ _ _).alloc _
 have BB : Blk W (w.heap.size + 1) 29 #[.slice B1 m1 d1, .slice B2 m2 d2] := by
  rw [HW.out]; have h := Blk.new (w.alloc (.cells #[.slice A1 k1 c1, .slice A2 k2 c2] 29)) 29 #[.slice B1 m1 d1, .slice B2 m2 d2]
  simpa using h
 have h1 := h1.below hbw; have h2 := h2.below hbw; have h3 := h3.below hbw; have h4 := h4.below hbw; have q0 := BA.cell 0; have q2 := BB.cell 0; simp only [List.getElem?_toArray, List.getElem?_cons_zero, List.getElem?_cons_succ] at q0 q2
 go_enter Tryz.func34, Tryz.ntmps34
 go_wp2_with fail; rw [← HW.out]; go_wp2_with fail; refine (equ32_n A1 B1 k1 c1 m1 d1 L1 L3 _ h1 h3 E1.out E3.out).mono ?_; rintro e w2 ⟨b, rfl, HX, hb2⟩; have q1 := (Blk.below BA hb2 BA.lt).cell 1; have q3 := (Blk.below BB hb2 BB.lt).cell 1; simp only [List.getElem?_toArray, List.getElem?_cons_zero, List.getElem?_cons_succ] at q1 q3; clear q0 q2
 cases b
 ·go_wp2_with fail; go_ret; exact ⟨_, rfl, by show _ = _; unfold sameR; rw [← HX.out]; rfl, Below.tr hbw hb2⟩
 ·go_wp2_with fail; refine (equ32_n A2 B2 k2 c2 m2 d2 L2 L4 _ (h2.below hb2) (h4.below hb2) E2.out E4.out).mono ?_; rintro e w3 ⟨b, rfl, HY, hb3⟩; go_wp2_with fail; go_ret; exact ⟨_, rfl, by show _ = _; unfold sameR; rw [← HX.out, ← HY.out]; simp, Below.tr hbw (Below.tr hb2 hb3)⟩
end Go.Proofs.YtijkfagkbfbpmaaGreatDoor
namespace Go.Proofs.YtijkfagkbfbpmaaGreatDoor
open Go Go.RowKit
theorem wpList_load_midG {P : Program} {ops : Array Oper} {rest : List Oper} {op : Oper} {a : Act} {w : World} {Q : Exit → Act → World → Prop} (hw : Region.wanted op (yielded ops a.tmps) = true) (ty : TypeId) (x : Operand) (ho : op.op = .load ty x)
  (b o : Nat) (hx : a.eval x = .pointer (some ⟨b, o, none⟩)) (cs : List Value) (d : TypeDesc) (hc : w.rangeAt b o cs)
  (hu : P.underlying ty = some d) (hd : d.isRow = true) (hi : (P.info? ty).map (·.size) = some cs.length)
  (h : wpList P ops Q rest (a.put op.dst (.agg cs.toArray)) w) : wpList P ops Q (op :: rest) a w :=
 wpList_step fun _ hK => by rw [if_pos hw]; exact wp_load_mid ty x ho b o hx cs d hc hu hd hi (hK _ _ h)
/-- two promises contradict each other -/
def clB (E F : Int) (p q : PC) (dp dq : List Int) (s : Bool) : Bool :=
 decide (E = 0 ∧ F = 0 ∧ p.test = q.test ∧ p.wh = q.wh ∧ p.site = q.site ∧ dp = dq ∧ s = false ∧ max p.fr q.fr < min p.un q.un)
theorem digR {w : World} {g : Nat} {T : TypeId} {p : PC} (h : Blk w g T (cellsP p).toArray) : w.rangeAt g 8 (pdg p) := by
 intro j v hj; rw [h.cell]; have h1 := (List.getElem?_eq_some_iff.1 hj).1
 rcases j with _ | _ | _ | _ | _ | _ | _ | _ | _ | _ | _ | _ | _ | _ | _ | _ | j <;> first | exact hj | (exfalso; simp only [pdg, List.length_cons, List.length_nil] at h1; omega)
set_option maxRecDepth 100000 in
set_option maxHeartbeats 4000000 in
theorem clash_n (p q : PC) (L1 L2 M1 M2 : List Nat) (dp dq : List Int) (w : World) (hrp : RtL w (.agg #[p.b1, p.b2]) L1 L2) (hrq : RtL w (.agg #[q.b1, q.b2]) M1 M2) (hp1 : p.test.size ≤ 9223372036854775807) (hp2 : p.wh.size ≤ 9223372036854775807) (hq1 : q.test.size ≤ 9223372036854775807) (hq2 : q.wh.size ≤ 9223372036854775807) (hdp : DgOk (pdg p) dp) (hdq : DgOk (pdg q) dq) :
  Calls Tryz.prog 22 #[.agg (cellsP p).toArray, .agg (cellsP q).toArray] w fun e w' => ∃ E F b, e = .returned (.bool b) ∧ Hid (PVal p L1 L2 E ∧ (E = 0 → PVal q M1 M2 F) ∧ b = clB E F p q dp dq (sameR L1 L2 M1 M2)) ∧ Below w.heap.size w w' := by
 obtain ⟨W, HW⟩ : ∃ W, Hid (W = (w.alloc (.cells (cellsP p).toArray 33)).alloc (.cells (cellsP q).toArray 33)) := ⟨_, rfl⟩; have hbw : Below w.heap.size w W := by rw [HW.out]; exact Below.tr (bA _ _) (bA _ _)
 have BA : Blk W w.heap.size 33 (cellsP p).toArray := by rw [HW.out]; exact (Blk.new _ _ _).alloc _
 have BB : Blk W (w.heap.size + 1) 33 (cellsP q).toArray := by
  rw [HW.out]; have h := Blk.new (w.alloc (.cells (cellsP p).toArray 33)) 33 (cellsP q).toArray
  simpa using h
 have hrp := hrp.below hbw; have hrq := hrq.below hbw
 go_enter Tryz.func22, Tryz.ntmps22
 go_upto_region 1 with fail; rw [← HW.out]
 go_wp2_with (first | (refine wpList_load_mid rfl 33 (.tmp 2) rfl w.heap.size 0 rfl (cellsP p) _ (blk_range BA) Tryz.underlying33 rfl infoP ?_; simp only [Act.put, sA, sB, sC]))
 refine (pvalid_n p L1 L2 _ hrp hp1 hp2).mono ?_; rintro e w2 ⟨E, rfl, HE, hb2⟩; have hbz := Below.tr hbw hb2; have BA := Blk.below BA hb2 BA.lt; have BB := Blk.below BB hb2 BB.lt; by_cases hE : E = 0
 ·have h0 : (E != 0) = false := by simpa using hE
  go_wp2_with (first | (refine wpList_load_midG (by rfl) 33 (.tmp 3) rfl (w.heap.size + 1) 0 rfl (cellsP q) _ (blk_range BB) Tryz.underlying33 rfl infoP ?_; simp only [Act.put, sA, sB, sC]))
  refine (pvalid_n q M1 M2 _ (hrq.below hb2) hq1 hq2).mono ?_; rintro e w3 ⟨F, rfl, HF, hb3⟩; have hbz := Below.tr hbz hb3; have BA := Blk.below BA hb3 BA.lt; have BB := Blk.below BB hb3 BB.lt; have hrp := (hrp.below hb2).below hb3; have hrq := (hrq.below hb2).below hb3; clear hb2 hb3 hbw; by_cases hF : F = 0
  ·have hF0 : (F != 0) = false := by simpa using hF
   have a1 := BA.cell 1; have a2 := BA.cell 2; have a3 := BA.cell 3; have a4 := BA.cell 4; have a5 := BA.cell 5; have a6 := BA.cell 6; have a7 := BA.cell 7; have b1 := BB.cell 1; have b2 := BB.cell 2; have b3 := BB.cell 3; have b4 := BB.cell 4; have b5 := BB.cell 5; have b6 := BB.cell 6; have b7 := BB.cell 7; simp only [cellsP, List.getElem?_toArray, List.getElem?_cons_zero, List.getElem?_cons_succ] at a1 a2 a3 a4 a5 a6 a7 b1 b2 b3 b4 b5 b6 b7; have HEF : Hid (PVal p L1 L2 E ∧ (E = 0 → PVal q M1 M2 F)) := ⟨HE.out, fun _ => HF.out⟩; by_cases ht : p.test = q.test
   ·by_cases hw : p.wh = q.wh
    ·by_cases hs : p.site = q.site
     ·obtain ⟨bd, HBD⟩ : ∃ bd, Hid (bd = !(dp == dq)) := ⟨_, rfl⟩
      have hneq : ∀ w, (binOp .neq 31 (.agg (pdg p).toArray) (.agg (pdg q).toArray)).run Tryz.prog w = .ok (.bool bd) w := fun w => by
       rw [hdp.1, hdq.1, dig_neq w dp dq hdp.2 hdq.2, HBD.out]
      have HT3 : Hid (p.test = q.test ∧ p.wh = q.wh ∧ p.site = q.site) := ⟨ht, hw, hs⟩; by_cases hd : dp = dq
      ·obtain rfl : bd = false := by rw [HBD.out, hd]; simp
       clear hdp hdq
       go_upto_region 3 with (first | (refine wpList_load_midG (by rfl) 31 (.tmp 35) rfl w.heap.size 8 rfl (pdg p) _ (digR BA) Tryz.underlying31 rfl infoPd ?_; simp only [Act.put, sA, sB, sC]) | (refine wpList_load_midG (by rfl) 31 (.tmp 37) rfl (w.heap.size + 1) 8 rfl (pdg q) _ (digR BB) Tryz.underlying31 rfl infoPd ?_; simp only [Act.put, sA, sB, sC]))
       clear ht hw hs; go_wp2_with fail; refine (psame_n _ _ L1 L2 M1 M2 _ hrp hrq).mono ?_; rintro e w4 ⟨sb, rfl, HS, hb4⟩; have hbz := Below.tr hbz hb4; have a6 := cell_keep hb4 a6; have a7 := cell_keep hb4 a7; have b6 := cell_keep hb4 b6; have b7 := cell_keep hb4 b7
       have HFIN : ∀ b : Bool, (b = true ↔ sb = false ∧ max p.fr q.fr < min p.un q.un) → Hid (PVal p L1 L2 E ∧ (E = 0 → PVal q M1 M2 F) ∧ b = clB E F p q dp dq (sameR L1 L2 M1 M2)) := by
        intro b hb; refine ⟨HEF.out.1, HEF.out.2, ?_⟩; unfold clB; rw [Bool.eq_iff_iff, hb, decide_eq_true_iff, ← HS.out]; exact ⟨fun h => ⟨hE, hF, HT3.out.1, HT3.out.2.1, HT3.out.2.2, hd, h.1, h.2⟩, fun h => h.2.2.2.2.2.2⟩
       have HFI := Lib.hid HFIN; clear HFIN hE hF hd HT3
       cases sb
       ·go_wp2_with fail; go_ret; exact ⟨E, F, _, rfl, HFI.out _ (by simp), hbz⟩
       ·go_wp2_with fail; go_ret; exact ⟨E, F, false, rfl, HFI.out _ (by simp), hbz⟩
      ·obtain rfl : bd = true := by rw [HBD.out]; simpa using hd
       clear hdp hdq
       go_wp2_with (first | (refine wpList_load_midG (by rfl) 31 (.tmp 35) rfl w.heap.size 8 rfl (pdg p) _ (digR BA) Tryz.underlying31 rfl infoPd ?_; simp only [Act.put, sA, sB, sC]) | (refine wpList_load_midG (by rfl) 31 (.tmp 37) rfl (w.heap.size + 1) 8 rfl (pdg q) _ (digR BB) Tryz.underlying31 rfl infoPd ?_; simp only [Act.put, sA, sB, sC]))
       go_ret; exact ⟨E, F, false, rfl, ⟨HEF.out.1, HEF.out.2, by unfold clB; symm; rw [decide_eq_false_iff_not]; exact fun h => hd h.2.2.2.2.2.1⟩, hbz⟩
     ·go_wp2_with (first | (refine wpList_load_midG (by rfl) 31 (.tmp 35) rfl w.heap.size 8 rfl (pdg p) _ (digR BA) Tryz.underlying31 rfl infoPd ?_; simp only [Act.put, sA, sB, sC]) | (refine wpList_load_midG (by rfl) 31 (.tmp 37) rfl (w.heap.size + 1) 8 rfl (pdg q) _ (digR BB) Tryz.underlying31 rfl infoPd ?_; simp only [Act.put, sA, sB, sC]))
      go_ret; exact ⟨E, F, false, rfl, ⟨HEF.out.1, HEF.out.2, by unfold clB; symm; rw [decide_eq_false_iff_not]; exact fun h => hs h.2.2.2.2.1⟩, hbz⟩
    ·have hw2 : ¬ p.wh.toList = q.wh.toList := fun h => hw (by simpa [ByteArray.toList_eq, ByteArray.ext_iff] using h)
     go_wp2_with (first | (refine wpList_load_midG (by rfl) 31 (.tmp 35) rfl w.heap.size 8 rfl (pdg p) _ (digR BA) Tryz.underlying31 rfl infoPd ?_; simp only [Act.put, sA, sB, sC]) | (refine wpList_load_midG (by rfl) 31 (.tmp 37) rfl (w.heap.size + 1) 8 rfl (pdg q) _ (digR BB) Tryz.underlying31 rfl infoPd ?_; simp only [Act.put, sA, sB, sC]))
     go_ret; exact ⟨E, F, false, rfl, ⟨HEF.out.1, HEF.out.2, by unfold clB; symm; rw [decide_eq_false_iff_not]; exact fun h => hw h.2.2.2.1⟩, hbz⟩
   ·have ht2 : ¬ p.test.toList = q.test.toList := fun h => ht (by simpa [ByteArray.toList_eq, ByteArray.ext_iff] using h)
    go_wp2_with (first | (refine wpList_load_midG (by rfl) 31 (.tmp 35) rfl w.heap.size 8 rfl (pdg p) _ (digR BA) Tryz.underlying31 rfl infoPd ?_; simp only [Act.put, sA, sB, sC]) | (refine wpList_load_midG (by rfl) 31 (.tmp 37) rfl (w.heap.size + 1) 8 rfl (pdg q) _ (digR BB) Tryz.underlying31 rfl infoPd ?_; simp only [Act.put, sA, sB, sC]))
    go_ret; exact ⟨E, F, false, rfl, ⟨HEF.out.1, HEF.out.2, by unfold clB; symm; rw [decide_eq_false_iff_not]; exact fun h => ht h.2.2.1⟩, hbz⟩
  ·have hF0 : (F != 0) = true := by simpa using hF
   go_wp2_with fail; go_ret; exact ⟨E, F, false, rfl, ⟨HE.out, fun _ => HF.out, by unfold clB; symm; rw [decide_eq_false_iff_not]; exact fun h => hF h.2.1⟩, hbz⟩
 ·have h0 : (E != 0) = true := by simpa using hE
  go_wp2_with fail; go_ret; exact ⟨E, 0, false, rfl, ⟨HE.out, fun h => absurd h hE, by unfold clB; symm; rw [decide_eq_false_iff_not]; exact fun h => hE h.1⟩, hbz⟩
end Go.Proofs.YtijkfagkbfbpmaaGreatDoor
namespace Go.Proofs.YtijkfagkbfbpmaaGreatDoor
open Go Go.RowKit
end Go.Proofs.YtijkfagkbfbpmaaGreatDoor
namespace Go.Proofs.YtijkfagkbfbpmaaGreatDoor
open Go Go.RowKit
theorem dig_eql (w : World) (l m : List Int) (hl : l.length = 16) (hm : m.length = 16) : (binOp .eql 31 (.agg (bytes16 l).toArray) (.agg (bytes16 m).toArray)).run Tryz.prog w = .ok (.bool (l == m)) w := by
 rw [run_eql_struct, show (10000 : Nat) = 9998 + 2 from rfl, dig_equal w 9998 l m hl hm]; rfl
end Go.Proofs.YtijkfagkbfbpmaaGreatDoor
namespace Go.Proofs.YtijkfagkbfbpmaaGreatDoor
open Go Go.RowKit
theorem PVal.uniq {p : PC} {L1 L2 : List Nat} {e f : Int} (h : PVal p L1 L2 e) (k : PVal p L1 L2 f) : e = f := by
 rcases h with ⟨h1, rfl⟩ | ⟨a, b, h1, h2, h3, rfl⟩
 ·rcases k with ⟨_, k2⟩ | ⟨a, b, k1, k2, k3, _⟩
  ·exact k2.symm
  ·rw [k1, k2] at h1; exact absurd (Nm.validE_of k3) h1
 ·rcases k with ⟨k1, _⟩ | ⟨a', b', k1, k2, k3, rfl⟩
  ·rw [h1, h2] at k1; exact absurd (Nm.validE_of h3) k1
  ·have e1 : a = a' := Nm.lb_inj (h1.symm.trans k1); have e2 : b = b' := Nm.dn_inj h3.pos k3.pos (Nm.lb_inj (h2.symm.trans k2)); rw [e1, e2]
def EscOk (w : World) (ps : List PC) (Lf : Nat → List Nat × List Nat) : Prop := ∀ (n : Nat) p, ps[n]? = some p → RtL w (.agg #[p.b1, p.b2]) (Lf n).1 (Lf n).2 ∧ p.test.size ≤ 9223372036854775807 ∧ p.wh.size ≤ 9223372036854775807
theorem EscOk.below {w w' : World} {ps : List PC} {Lf : Nat → List Nat × List Nat} (h : EscOk w ps Lf) (hb : Below w.heap.size w w') : EscOk w' ps Lf := fun n p hp => ⟨(h n p hp).1.below hb, (h n p hp).2⟩
end Go.Proofs.YtijkfagkbfbpmaaGreatDoor
