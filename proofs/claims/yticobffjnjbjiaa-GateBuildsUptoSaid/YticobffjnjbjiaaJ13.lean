import Derived.Test.YticobffjnjbjiaaJ12
import Derived.Lib.AppendZeros
import Derived.Deep.LoopGhost
import Derived.Deep.MidRow
import Derived.Test.YticobffjnjbjiaaJ08
import Derived.Test.YticobffjnjbjiaaS0
set_option linter.unusedVariables false
set_option linter.unusedSimpArgs false
namespace Go.Proofs.Yticobffjnjbjiaa
open Go.RowKit
def zero22 : Value := .agg #[.int .i64 0, .string ⟨#[]⟩, .int .i64 0, .int .i64 0, .int .i64 0, .int .i64 0, .int .u8 0, .int .u8 0, .int .u8 0, .int .u8 0, .int .u8 0, .int .u8 0, .int .u8 0, .int .u8 0, .int .u8 0, .int .u8 0, .int .u8 0, .int .u8 0, .int .u8 0, .int .u8 0, .int .u8 0, .int .u8 0]
theorem info_res : (Try.prog.info? 64).map (fun i => (i.zero, i.size, i.bytes)) = some (some zero22, 22, 72) := by kernel_rfl
theorem zero22_size : zero22.cells.size = 22 := by kernel_rfl
theorem int_under : Try.prog.underlying 3 = some (.int .i64) := by kernel_rfl
set_option maxRecDepth 10000 in
set_option maxHeartbeats 400000 in
theorem grow_n (n : Nat) (w : World) (hn : n ≤ 1099511627776) :
  Calls Try.prog 112 #[.slice none 0 0, .int .i64 n] w fun e w' => ∃ v, e = .returned v ∧ w'.ownsRow w.heap.size 64 22 v 0 [] ∧ Below w.heap.size w w' := by
 rcases Nat.eq_zero_or_pos n with rfl | h0
 ·go_enter Try.func112, Try.ntmps112
  go_wp2_with fail; go_ret; exact ⟨_, rfl, World.ownsRow_nil w _ _ _, Below.refl _ _⟩
 ·obtain ⟨i0, hi, hz0, hz1, hz2⟩ := info_parts info_res; have happ := Lib.run_append_nil_zeros (P := Try.prog) w 41 3 41 64 i0 zero22 .i64 .i64 Try.underlying41 int_under hi hz0 n h0 (by omega) (by omega) (by rw [hz2]; omega); have hge := grownCap_ge w n 0 64; have hle := grownCap_le_maxLen w n 0 64 (by simp only [maxLen]; omega); obtain ⟨C, HC⟩ : ∃ C, Hid (C = grownCap w n 0 64) := ⟨_, rfl⟩; rw [← HC.out] at happ hge hle; obtain ⟨W, HW⟩ : ∃ W, Hid (W = w.drew.alloc (.cells (Builtin.zeroCells zero22.cells n ++ Builtin.zeroCells zero22.cells (C - n)) 64)) := ⟨_, rfl⟩; rw [← HW.out] at happ
  have hown : W.ownsRow w.heap.size 64 22 (.slice (some ⟨w.heap.size, 0, none⟩) 0 C) 0 [] := by
   refine ⟨rfl, .inr ⟨w.heap.size, C, Builtin.zeroCells zero22.cells n ++ Builtin.zeroCells zero22.cells (C - n), rfl, Nat.le_refl _, ?_, by omega, hle, ?_, rfl⟩⟩
   ·rw [HW.out]; exact heap_alloc_new w.drew _
   ·simp only [Array.size_append, size_zeroCells, zero22_size, ← Nat.add_mul]; congr 1; omega
  have hb : Below w.heap.size w W := by rw [HW.out]; exact Below.tr (bD w) (bA _ _)
  have hle2 : C ≤ 9223372036854775807 := by simpa [maxLen] using hle
  have HO := Lib.hid hown; clear hown hle HC hi hz0 hz1 hz2
  go_enter Try.func112, Try.ntmps112
  go_wp2_with (at_builtin; refine Lib.wpList_append_run _ rfl _ _ _ _ rfl _ _ rfl rfl _ _ happ ?_)
  go_ret; exact ⟨_, rfl, HO.out, hb⟩
end Go.Proofs.Yticobffjnjbjiaa
namespace Go.Proofs.Yticobffjnjbjiaa
open Go.RowKit
/-- a slice of results -/
structure SLR where
 A : Option Addr
 k : Nat
 c : Nat
 rs : List RC0
def slC (s : SLR) : List Value := [.slice s.A s.k s.c]
theorem slC_len (s : SLR) : (slC s).length = 1 := rfl
def sumK (l : List SLR) : Nat := (l.map (·.k)).sum
def allR (l : List SLR) : List RC0 := l.flatMap (·.rs)
theorem sumK_take {l : List SLR} {i : Nat} (h : i < l.length) : sumK (l.take (i + 1)) = sumK (l.take i) + l[i].k := by
 unfold sumK; rw [List.take_succ_eq_append_getElem h, List.map_append, List.sum_append]; simp only [List.map_cons, List.map_nil, List.sum_cons, List.sum_nil, Nat.add_zero]
theorem allR_take {l : List SLR} {i : Nat} (h : i < l.length) : allR (l.take (i + 1)) = allR (l.take i) ++ l[i].rs := by
 unfold allR; rw [List.take_succ_eq_append_getElem h, List.flatMap_append]; simp only [List.flatMap_cons, List.flatMap_nil, List.append_nil]
theorem sumK_le {l : List SLR} (i : Nat) : sumK (l.take i) ≤ sumK l := by
 have h : (l.map (·.k)).sum = ((l.take i ++ l.drop i).map (·.k)).sum := by rw [List.take_append_drop]
 rw [List.map_append, List.sum_append] at h; unfold sumK; omega
theorem RowS.sl {w : World} {A : Option Addr} {k : Nat} {l : List SLR} (h : RowS slC w A k l) {i : Nat} (hi : i < k) : ∃ b off, ∃ s : SLR, A = some ⟨b, off, none⟩ ∧ w.cell? ⟨b, off + i, none⟩ = some (.slice s.A s.k s.c) ∧ Hid (∃ h : i < l.length, l[i] = s) := by
 have hil : i < l.length := by have := h.2.1; omega
 obtain ⟨b, off, hA, hc⟩ := h.at_ slC_len (by omega) hi hil; refine ⟨b, off, l[i], hA, ?_, hil, rfl⟩; have := hc.out 0 _ rfl
 rwa [Nat.mul_one, Nat.add_zero] at this
theorem own_block_ge {w : World} {base : Nat} {e : TypeId} {size : Nat} {v : Value} {n : Nat} {xs : List Value} (h : w.ownsRow base e size v n xs) : ∀ k, v.ownBlock = some k → base ≤ k := by
 intro k hk
 rcases h.2 with ⟨rfl, _⟩ | ⟨g, cap, cur, rfl, hbg, _⟩
 ·simp [Value.ownBlock] at hk
 ·simp [Value.ownBlock] at hk; omega
theorem cellsR_one (r : List RC0) (h : ∀ x ∈ r, ∀ v ∈ cellsR x, v.oneCell' = true) : ∀ u ∈ r.flatMap cellsR, u.oneCell' = true := by
 intro u hu; obtain ⟨x, hx, hv⟩ := List.mem_flatMap.1 hu; exact h x hx u hv
set_option maxRecDepth 10000 in
set_option maxHeartbeats 1000000 in
theorem concat_n (S : Option Addr) (ks cs : Nat) (l : List SLR) (w : World) (hr : RowS slC w S ks l) (HS : Hid (∀ s ∈ l, RowS cellsR w s.A s.k s.rs ∧ ∀ x ∈ s.rs, ∀ v ∈ cellsR x, v.oneCell' = true)) (hsz : sumK l ≤ 1073741824) :
  Calls Try.prog 99 #[.slice S ks cs] w fun e w' => ∃ v, e = .returned v ∧ w'.ownsRow w.heap.size 64 22 v (sumK l) ((allR l).flatMap cellsR) ∧ Below w.heap.size w w' := by
 have hk := hr.2.2; have HK := Lib.hid hr.2.1; obtain ⟨i0, hi0, hz0, hz1, hz2⟩ := info_parts info_res
 go_enter Try.func99, Try.ntmps99
 go_wp2_with fail
 go_loopg [3, 11] ks (fun j a x wr => ∃ i : Nat, x = .int .i64 i ∧ i + j = ks ∧ a = .int .i64 (sumK (l.take i) : Nat) ∧ w = wr)
 case atStart => exact ⟨0, rfl, by omega, by simp [sumK], rfl⟩
 case round =>
  obtain ⟨i, rfl, hij, rfl, rfl⟩ := hrel; by_cases hi : i < ks
  ·obtain ⟨b, off, s, rfl, hc, HSI⟩ := hr.sl hi; have e1 : Hid (sumK (l.take (i + 1)) = sumK (l.take i) + s.k) := by obtain ⟨h, e⟩ := HSI.out; show _ = _; rw [sumK_take h, e]
   have hle : sumK (l.take i) + s.k ≤ 1073741824 := by have := sumK_le (l := l) (i + 1); have := e1.out; omega
   go_wp2_with fail
   go_roundg (gk - 1)
   case measure => omega
   case rel => exact ⟨i + 1, by go_num, by omega, by rw [e1.out]; congr 1, rfl⟩
  ·obtain rfl : ks = i := by omega
   have e1 : Hid (l.take ks = l) := by show _ = _; rw [HK.out]; exact List.take_of_length_le (Nat.le_refl _)
   rw [e1.out]; obtain ⟨N, HN⟩ : ∃ N, Hid (N = sumK l) := ⟨_, rfl⟩; rw [← HN.out] at hsz ⊢; go_wp2_with fail; refine (grow_n N _ (by omega)).mono ?_; rintro e w1 ⟨v, rfl, hown, hb⟩; go_wp2_with fail
   go_loopg [6, 27] ks (fun j v x wx => ∃ i : Nat, x = .int .i64 i ∧ i + j = ks ∧ wx.ownsRow w.heap.size 64 22 v (sumK (l.take i)) ((allR (l.take i)).flatMap cellsR) ∧ Below w.heap.size w wx)
   case atStart => exact ⟨0, rfl, by omega, by simpa [sumK, allR] using hown, hb⟩
   case round =>
    clear hown hb; obtain ⟨i, rfl, hij, hown, hb⟩ := hrel; by_cases hi : i < ks
    ·obtain ⟨b, off, s, rfl, hc, HSI⟩ := (hr.below hb).sl hi; have e2 : Hid (sumK (l.take (i + 1)) = sumK (l.take i) + s.k ∧ allR (l.take (i + 1)) = allR (l.take i) ++ s.rs) := by obtain ⟨h, e⟩ := HSI.out; exact ⟨by rw [sumK_take h, e], by rw [allR_take h, e]⟩
     have hle : sumK (l.take i) + s.k ≤ 1073741824 := by have := sumK_le (l := l) (i + 1); have := e2.out.1; have := HN.out; omega
     have hs := (HS.out s (by obtain ⟨h, e⟩ := HSI.out; rw [← e]; exact List.getElem_mem h)); have hrs := (hs.1.below hb); have hone := cellsR_one _ hs.2; have HONE := Lib.hid hone; have hlen : (s.rs.flatMap cellsR).length = s.k * 22 := by rw [flat_len cellsR_len, hs.1.2.1]
     have HLEN := Lib.hid hlen; have hbs := hb.size; obtain ⟨m, HM⟩ : ∃ m, Hid (m = sumK (l.take i)) := ⟨_, rfl⟩; rw [← HM.out] at hown hle; clear hone hlen hs
     go_wp2_with (at_builtin; refine wpList_append_any _ rfl (.tmp 31) (.tmp 32) _ rfl w.heap.size 64 i0 _ 22 72 Try.underlying41 hi0 hz0 hz1 hz2 zero22_size (by omega) _ m _ rfl hown s.A s.k s.c (s.rs.flatMap cellsR) rfl HLEN.out hrs.1 HONE.out (by simp only [maxLen]; omega) (by omega) hbs ?_; intro v1 w2 hown1 hg1 hat1)
     go_roundg (gk - 1)
     case measure => omega
     case rel =>
      refine ⟨i + 1, by go_num, by omega, ?_, hb.grown hg1 hbs (own_block_ge hown)⟩; rw [e2.out.1, e2.out.2, List.flatMap_append, ← HM.out]; exact hown1
    ·obtain rfl : ks = i := by omega
     rw [e1.out] at hown; rw [HN.out]; go_wp2_with fail; go_ret; exact ⟨_, rfl, hown, hb⟩
end Go.Proofs.Yticobffjnjbjiaa
namespace Go.Proofs.Yticobffjnjbjiaa
open Go.RowKit
/-- a list laid over an array from o on -/
def overL (arr : Array Value) : Nat → List Value → Array Value
 | _, [] => arr
 | o, v :: r => overL (arr.setIfInBounds o v) (o + 1) r
theorem setCell_new (w : World) (arr : Array Value) (T : TypeId) (o : Nat) (v : Value) : (w.alloc (.cells arr T)).setCell ⟨w.heap.size, o, none⟩ v = w.alloc (.cells (arr.setIfInBounds o v) T) :=
 World.setCell_alloc_at arr T w.heap.size o v rfl
theorem setCells_over (w : World) (T : TypeId) : ∀ (vs : List Value) (o : Nat) (arr : Array Value), (w.alloc (.cells arr T)).setCells w.heap.size o vs = w.alloc (.cells (overL arr o vs) T)
 | [], _, _ => rfl
 | v :: r, o, arr => by
  show ((w.alloc (.cells arr T)).setCell ⟨w.heap.size, o, none⟩ v).setCells w.heap.size (o + 1) r = _
  rw [setCell_new]; exact setCells_over w T r (o + 1) _
theorem overL_get (vs : List Value) : ∀ (o : Nat) (arr : Array Value), o + vs.length ≤ arr.size → (overL arr o vs).size = arr.size ∧ ∀ i, (overL arr o vs)[i]? = if i < o then arr[i]? else if i < o + vs.length then vs[i - o]? else arr[i]? := by
 induction vs with
 | nil =>
  intro o arr h; refine ⟨rfl, fun i => ?_⟩
  show arr[i]? = _
  split
  ·rfl
  ·split
   ·rename_i h1 h2; simp at h2; omega
   ·rfl
 | cons v r ih =>
  intro o arr h; simp only [List.length_cons] at h; obtain ⟨h1, h2⟩ := ih (o + 1) (arr.setIfInBounds o v) (by simp; omega); refine ⟨by rw [show overL arr o (v :: r) = overL (arr.setIfInBounds o v) (o + 1) r from rfl, h1]; simp, fun i => ?_⟩; rw [show overL arr o (v :: r) = overL (arr.setIfInBounds o v) (o + 1) r from rfl, h2]; simp only [Array.getElem?_setIfInBounds, List.length_cons]; by_cases hi : i < o
  ·rw [if_pos (by omega), if_neg (by omega), if_pos hi]
  ·by_cases ho : i = o
   ·subst ho; rw [if_pos (by omega), if_pos rfl, if_neg hi, if_pos (by omega)]; rw [if_pos (by omega)]; simp
   ·rw [if_neg (by omega), if_neg hi]; by_cases hl : i < o + 1 + r.length
    ·rw [if_pos hl, if_pos (by omega), show i - o = (i - (o + 1)) + 1 by omega]; simp
    ·rw [if_neg hl, if_neg (by omega), if_neg (by omega)]
theorem setCells_new (w : World) (T : TypeId) (z : Array Value) (cs : Array Value) (h : z.size = cs.size) : (w.alloc (.cells z T)).setCells w.heap.size 0 cs.toList = w.alloc (.cells cs T) := by
 rw [setCells_over]; obtain ⟨h1, h2⟩ := overL_get cs.toList 0 z (by simp; omega)
 have : overL z 0 cs.toList = cs := by
  apply Array.ext_getElem?
  intro i; rw [h2, if_neg (by omega)]; by_cases hi : i < cs.size
  ·rw [if_pos (by simpa using hi)]; simp
  ·rw [if_neg (by simpa using hi), Array.getElem?_eq_none (by omega), Array.getElem?_eq_none (by omega)]
 rw [this]
theorem there_new (w : World) (T : TypeId) (z : Array Value) (n : Nat) (h : n ≤ z.size) : (w.alloc (.cells z T)).there w.heap.size 0 n := by
 intro j hj; rw [Nat.zero_add]; have hb := Blk.new w T z; refine ⟨?_, hb.frozen j⟩; rw [hb.cell, Array.getElem?_eq_getElem (by omega)]; rfl
end Go.Proofs.Yticobffjnjbjiaa
namespace Go.Proofs.Yticobffjnjbjiaa
open Go.RowKit
theorem own_rowS {α : Type} {f : α → List Value} {m : Nat} (hf : ∀ x, (f x).length = m) {w : World} {base : Nat} {e : TypeId} {v : Value} {n : Nat} {l : List α} (hm : 0 < m) (hn : n ≤ 281474976710656) (h : w.ownsRow base e m v n (l.flatMap f)) : ∃ A c, v = .slice A n c ∧ RowS f w A n l := by
 have hlen : l.length = n := by
  have := h.1; rw [flat_len hf] at this; exact Nat.eq_of_mul_eq_mul_right hm this
 rcases h.2 with ⟨rfl, h0⟩ | ⟨g, cap, cur, rfl, hb, hh, h1, h2, h3, h4⟩
 ·subst h0; have : l = [] := List.eq_nil_of_length_eq_zero hlen; subst this; exact ⟨none, 0, rfl, fun h => absurd rfl h, hlen.symm, by omega⟩
 ·refine ⟨_, cap, rfl, fun _ => ⟨g, 0, rfl, fun i hi => ?_⟩, hlen.symm, hn⟩; rw [Nat.zero_add, World.ownsRow.cellAt h i (by rw [← h.1]; exact hi)]; exact List.getElem?_eq_getElem hi
def oddO (r : RC0) : Bool := decide (r.oc < 0 ∨ 4 < r.oc)
/-- the error of active indexes and results -/
def fitE (m : Nat) (l : List Int) (t k : Int) (rs : List RC0) : Int := if l.any (outB m) then 5 else if t ≠ k then 1 else if rs.any oddO then 1 else 0
set_option maxRecDepth 100000 in
set_option maxHeartbeats 2000000 in
theorem fits_n (Al A S : Option Addr) (kl cl k c ks cs : Nat) (t m : Int) (l : List Int) (rows : List SLR) (w : World) (hkl : kl ≤ 281474976710656) (hr : RowS intC w A k l) (hs : RowS slC w S ks rows) (HS : Hid (∀ s ∈ rows, RowS cellsR w s.A s.k s.rs ∧ ∀ x ∈ s.rs, ∀ v ∈ cellsR x, v.oneCell' = true)) (hsz : sumK rows ≤ 1073741824) :
  Calls Try.prog 64 #[.slice Al kl cl, .slice A k c, .int .i64 t, .int .i64 m, .slice S ks cs] w fun e w' => ∃ er, e = .returned (.int .i64 er) ∧ Hid (er = fitE kl l t m (allR rows)) ∧ Below w.heap.size w w' := by
 have hbw := bA w (.cells #[.slice Al kl cl] 37); have hg : (w.alloc (.cells #[.slice Al kl cl] 37)).cell? ⟨w.heap.size, 0, none⟩ = some (.slice Al kl cl) := (Blk.new w 37 #[.slice Al kl cl]).cell 0
 go_enter Try.func64, Try.ntmps64
 go_wp2_with fail; refine (contains_n A Al k c w.heap.size kl cl l _ (hr.below hbw) hg hkl).mono ?_; rintro e w' ⟨bb, rfl, HB, rfl⟩
 cases bb
 ·have HB2 : Hid (l.any (outB kl) = false) := by
   show _ = _; rw [Bool.eq_false_iff]; intro h
   obtain ⟨n, hn, hb⟩ := List.any_eq_true.1 h; exact absurd (HB.out.2 ⟨n, hn, hb⟩) (by simp)
  clear HB; by_cases htm : t = m
  ·have hd : (t != m) = false := by simp [htm]
   have HTM := Lib.hid htm; clear htm; go_wp2_with fail; refine (concat_n S ks cs rows _ (hs.below hbw) (fun s h => ⟨(HS.out s h).1.below hbw, (HS.out s h).2⟩) hsz).mono ?_; rintro e w1 ⟨v, rfl, hown, hb⟩; obtain ⟨A1, c1, rfl, hrow⟩ := own_rowS cellsR_len (by omega) (by omega) hown; obtain ⟨N, HN⟩ : ∃ N, Hid (N = sumK rows) := ⟨_, rfl⟩; obtain ⟨rs, HRS⟩ : ∃ rs, Hid (rs = allR rows) := ⟨_, rfl⟩; rw [← HN.out, ← HRS.out] at hrow; rw [← HN.out] at hsz ⊢; have hbw1 := Below.tr hbw hb; have HLR := Lib.hid hrow.2.1; clear hown hb; go_wp2_with fail
   go_loopg [22] N (fun j x wr => ∃ i : Nat, x = .int .i64 i ∧ i + j = N ∧ Hid (∀ (j : Nat) r, j < i → rs[j]? = some r → oddO r = false) ∧ Below w1.heap.size w1 wr)
   case atStart => exact ⟨0, rfl, by omega, fun j b h => by omega, Below.refl _ _⟩
   case round =>
    obtain ⟨i, rfl, hij, HP, hbr⟩ := hrel; by_cases hi : i < N
    ·have hil : i < rs.length := by have := HLR.out; omega
     obtain ⟨b, off, rfl, HC⟩ := (hrow.below hbr).at_ cellsR_len (by omega) hi hil; obtain ⟨r, HR⟩ : ∃ r, Hid (rs[i]? = some r) := ⟨rs[i], List.getElem?_eq_getElem hil⟩; have hri : rs[i] = r := by have := HR.out; rw [List.getElem?_eq_getElem hil] at this; injection this
     rw [hri] at HC; clear hri
     have hone : ∀ v ∈ cellsR r, v.oneCell' = true := by
      have hmem : r ∈ allR rows := by rw [← HRS.out]; exact List.mem_of_getElem? HR.out
      obtain ⟨s, hs1, hs2⟩ := List.mem_flatMap.1 hmem; exact (HS.out s hs1).2 r hs2
     have HALL := Lib.hid (all_oneCell_toArray hone); have HP2 : Hid (oddO r = false → ∀ (j : Nat) b, j < i + 1 → rs[j]? = some b → oddO b = false) := fun h => first_step HP.out HR.out h
     have HBAD : Hid (oddO r = true → (1 : Int) = fitE kl l t m (allR rows)) := fun h => by
      unfold fitE; rw [HB2.out, HTM.out, ← HRS.out]; have : rs.any oddO = true := List.any_eq_true.2 ⟨r, List.mem_of_getElem? HR.out, h⟩; rw [this]; simp
     have hbwr := Below.tr hbw1 hbr; clear hone HP; by_cases ho : r.oc < 0
     ·have hod := HBAD.out (by unfold oddO; simp [ho]); have HF := Lib.hid hod; have hd : decide (r.oc < 0) = true := by simp [ho]
      clear hod HBAD HP2
      go_wp2_with (first | (refine wpList_load_mid rfl 64 (.tmp 24) rfl b (off + i * 22) rfl [.int .i64 r.oc, .string r.at_, .int .i64 r.st, r.v3, r.v4, r.v5, r.v6, r.v7, r.v8, r.v9, r.v10, r.v11, r.v12, r.v13, r.v14, r.v15, r.v16, r.v17, r.v18, r.v19, r.v20, r.v21] _ (fun j v h => HC.out j v h) Try.underlying64 rfl infoR ?_) | (refine wpList_store_mid rfl 64 (.tmp 12) (.tmp 25) rfl wr.heap.size 0 #[.int .i64 r.oc, .string r.at_, .int .i64 r.st, r.v3, r.v4, r.v5, r.v6, r.v7, r.v8, r.v9, r.v10, r.v11, r.v12, r.v13, r.v14, r.v15, r.v16, r.v17, r.v18, r.v19, r.v20, r.v21] rfl rfl (there_new _ _ _ 22 (by simp)) (by kernel_rfl) HALL.out ?_; rw [setCells_new]; rotate_left; rfl))
      go_ret; exact ⟨_, rfl, HF, Below.tr hbwr (bA _ _)⟩
     ·by_cases ho4 : 4 < r.oc
      ·have hod := HBAD.out (by unfold oddO; simp [ho4]); have HF := Lib.hid hod; have hd : decide (r.oc < 0) = false := by simp; omega
       have hd2 : decide (4 < r.oc) = true := by simp [ho4]
       clear hod HBAD HP2
       go_wp2_with (first | (refine wpList_load_mid rfl 64 (.tmp 24) rfl b (off + i * 22) rfl [.int .i64 r.oc, .string r.at_, .int .i64 r.st, r.v3, r.v4, r.v5, r.v6, r.v7, r.v8, r.v9, r.v10, r.v11, r.v12, r.v13, r.v14, r.v15, r.v16, r.v17, r.v18, r.v19, r.v20, r.v21] _ (fun j v h => HC.out j v h) Try.underlying64 rfl infoR ?_) | (refine wpList_store_mid rfl 64 (.tmp 12) (.tmp 25) rfl wr.heap.size 0 #[.int .i64 r.oc, .string r.at_, .int .i64 r.st, r.v3, r.v4, r.v5, r.v6, r.v7, r.v8, r.v9, r.v10, r.v11, r.v12, r.v13, r.v14, r.v15, r.v16, r.v17, r.v18, r.v19, r.v20, r.v21] rfl rfl (there_new _ _ _ 22 (by simp)) (by kernel_rfl) HALL.out ?_; rw [setCells_new]; rotate_left; rfl))
       go_ret; exact ⟨_, rfl, HF, Below.tr hbwr (bA _ _)⟩
      ·have hp3 := HP2.out (by unfold oddO; simp; omega); have HP3 := Lib.hid hp3; have hd : decide (r.oc < 0) = false := by simp; omega
       have hd2 : decide (4 < r.oc) = false := by simp; omega
       clear hp3 HBAD HP2
       go_wp2_with (first | (refine wpList_load_mid rfl 64 (.tmp 24) rfl b (off + i * 22) rfl [.int .i64 r.oc, .string r.at_, .int .i64 r.st, r.v3, r.v4, r.v5, r.v6, r.v7, r.v8, r.v9, r.v10, r.v11, r.v12, r.v13, r.v14, r.v15, r.v16, r.v17, r.v18, r.v19, r.v20, r.v21] _ (fun j v h => HC.out j v h) Try.underlying64 rfl infoR ?_) | (refine wpList_store_mid rfl 64 (.tmp 12) (.tmp 25) rfl wr.heap.size 0 #[.int .i64 r.oc, .string r.at_, .int .i64 r.st, r.v3, r.v4, r.v5, r.v6, r.v7, r.v8, r.v9, r.v10, r.v11, r.v12, r.v13, r.v14, r.v15, r.v16, r.v17, r.v18, r.v19, r.v20, r.v21] rfl rfl (there_new _ _ _ 22 (by simp)) (by kernel_rfl) HALL.out ?_; rw [setCells_new]; rotate_left; rfl))
       go_roundg (gk - 1)
       case measure => omega
       case rel => exact ⟨i + 1, by go_num, by omega, HP3, Below.tr hbr (bA _ _)⟩
    ·obtain rfl : N = i := by omega
     have HF : Hid ((0 : Int) = fitE kl l t m (allR rows)) := by
      show _ = _; unfold fitE; rw [HB2.out, HTM.out, ← HRS.out]
      have : rs.any oddO = false := by
       rw [Bool.eq_false_iff]; intro h; obtain ⟨x, hx, hb⟩ := List.any_eq_true.1 h; obtain ⟨j, hj⟩ := List.getElem?_of_mem hx; have hjl := (List.getElem?_eq_some_iff.1 hj).1; rw [HP.out j x (by have := HLR.out; omega) hj] at hb; cases hb
      rw [this]; simp
     go_wp2_with fail; go_ret; exact ⟨_, rfl, HF, Below.tr hbw1 hbr⟩
  ·have hd : (t != m) = true := by simpa using htm
   have HF : Hid ((1 : Int) = fitE kl l t m (allR rows)) := by show _ = _; unfold fitE; rw [HB2.out]; simp [htm]
   clear htm; go_wp2_with fail; go_ret; exact ⟨_, rfl, HF, hbw⟩
 ·have HF : Hid ((5 : Int) = fitE kl l t m (allR rows)) := by
   obtain ⟨n, hn, hb⟩ := HB.out.1 rfl
   show _ = _; unfold fitE; rw [if_pos (List.any_eq_true.2 ⟨n, hn, hb⟩)]
  clear HB; go_wp2_with fail; go_ret; exact ⟨_, rfl, HF, hbw⟩
end Go.Proofs.Yticobffjnjbjiaa
namespace Go.Proofs.Yticobffjnjbjiaa
open Go
/- The same, where what is known of a value may name the values that it hangs on. -/
section
variable {P : Program} {ops : Array Oper} {Q : Exit → Act → World → Prop} {md : Region.Mode}
def closedB (md : Region.Mode) (ops : Array Oper) (listed : Array Bool) : Prop := ∀ j o, ops[j]? = some o → listed.getD j false = true → ∀ e ∈ o.after, Region.binds md e = true → listed.getD e.on false = true
theorem wpAny_invd (Φ : (Nat → Value) → Nat → World → Value → Prop) (R : World → World → Prop) (S : World → Prop) (a0 : Act) (hd : apartL ops.toList = true) (hb : backB ops = true)
  (hΦ : ∀ vs w w', R w w' → ∀ j x, Φ vs j w x → Φ vs j w' x) (hS : ∀ w w', R w w' → S w → S w')
  (hC : ∀ j o, ops[j]? = some o → ∀ vs vs' w x, (∀ e ∈ o.after, Region.binds md e = true → vs e.on = vs' e.on) → Φ vs j w x → Φ vs' j w x)
  (hstep : ∀ i o, ops[i]? = some o → ∀ vs w, S w → (∀ e ∈ o.after, Region.binds md e = true → Φ vs e.on w (vs e.on)) →
   ∀ K : Act → World → Prop, (∀ v w', R w w' → Φ vs i w' v → K ((fillR ops.toList 0 vs a0).put o.dst v) w') →
    if Region.wanted o (yielded ops (fillR ops.toList 0 vs a0).tmps) = true then Oper.wp P o (fillR ops.toList 0 vs a0) w K Q else K ((fillR ops.toList 0 vs a0).put o.dst undef) w)
  (hend : ∀ vs w, S w → (∀ i, i < ops.size → Φ vs i w (vs i)) → Q .normal (fillR ops.toList 0 vs a0) w) :
  ∀ (fuel : Nat) (listed : Array Bool) (vs : Nat → Value) (w : World), listed.size = ops.size → listed.toList.count false = fuel → closedB md ops listed → S w → (∀ j, listed.getD j false = true → Φ vs j w (vs j)) →
   wpAny P md ops Q fuel listed (fillR ops.toList 0 vs a0) w := by
 intro fuel
 induction fuel with
 | zero =>
  intro listed vs w hs hc hcl hSw hl
  have hall : ∀ i, i < ops.size → listed.getD i false = true := by
   intro i hi; have h' : i < listed.size := by omega
   rw [List.count_eq_zero] at hc
   cases hx : listed.getD i false with
   | true => rfl
   | false =>
    exfalso
    apply hc
    simp [h'] at hx; rw [← hx]; exact Array.getElem_mem_toList h'
  refine ⟨?_, hend vs w hSw (fun i hi => hl i (hall i hi))⟩; rw [List.eq_nil_iff_forall_not_mem]; intro i hi; obtain ⟨h1, o, ho, _⟩ := mem_ready.1 hi; have hi' : i < ops.size := (Array.getElem?_eq_some_iff.1 ho).1; have h2 := hall i hi'; have h' : i < listed.size := by omega
  simp [h'] at h1 h2; rw [h1] at h2
  cases h2
 | succ fuel ih =>
  intro listed vs w hs hc hcl hSw hl; refine ⟨fun hr => hend vs w hSw (fun i hi => hl i (all_listed hb hs hr i hi)), fun i hi => ?_⟩; obtain ⟨h1, o, ho, hall⟩ := mem_ready.1 hi; have hi' : i < ops.size := (Array.getElem?_eq_some_iff.1 ho).1; have hil : i < listed.size := by omega
  have hun : listed.getD i false = false := by simp [hil] at h1 ⊢; exact h1
  refine wpOp_step ho fun K' hK => ?_
  refine hstep i o ho vs w hSw (fun e he hbd => hl e.on (hall e he hbd)) K' fun v w' hR hv => ?_
  apply hK
  rw [fillR_upd ops.toList 0 i vs a0 o v hd (by simpa using ho), Nat.zero_add]; refine ih _ _ _ (by simp [hs]) ?_ ?_ (hS _ _ hR hSw) ?_
  ·have h1' : listed.toList[i]'(by simpa using hil) = false := by simp [hil] at h1; simpa using h1
   simp only [Array.toList_setIfInBounds]; rw [List.count_set (by simpa using hil), h1', hc]; simp
  ·intro j oj hj hlj e he hbd; by_cases hei : e.on = i
   ·rw [hei]; simp [hil]
   ·have hold : listed.getD e.on false = true := by
     by_cases hji : j = i
     ·subst hji; have : oj = o := Option.some.inj (hj.symm.trans ho); subst this; exact hall e he hbd
     ·refine hcl j oj hj ?_ e he hbd; simp [Array.getElem?_setIfInBounds, Ne.symm hji] at hlj
      simpa using hlj
    have h3 : e.on < listed.size := by
     rcases Nat.lt_or_ge e.on listed.size with h | h
     ·exact h
     ·simp [Array.getElem?_eq_none h] at hold
    simp [Array.getElem?_setIfInBounds, Ne.symm hei] at hold ⊢; exact hold
  ·intro j hj; by_cases hji : j = i
   ·subst hji; rw [show upd vs j v j = v from if_pos rfl]; refine hC j o ho vs (upd vs j v) w' v (fun e he hbd => ?_) hv
    have hne : e.on ≠ j := by
     intro h; have := hall e he hbd; rw [h, hun] at this; cases this
    exact (if_neg hne).symm
   ·rw [show upd vs i v j = vs j from if_neg hji]
    have hlj : listed.getD j false = true := by
     simp [Array.getElem?_setIfInBounds, Ne.symm hji] at hj
     simpa using hj
    have hjs : j < listed.size := by
     rcases Nat.lt_or_ge j listed.size with h | h
     ·exact h
     ·simp [Array.getElem?_eq_none h] at hlj
    have hjo : ops[j]? = some ops[j] := Array.getElem?_eq_getElem (by omega); refine hC j _ hjo vs (upd vs i v) w' (vs j) (fun e he hbd => ?_) (hΦ vs _ _ hR j _ (hl j hlj))
    have hne : e.on ≠ i := by
     intro h; have := hcl j _ hjo hlj e he hbd; rw [h, hun] at this; cases this
    exact (if_neg hne).symm
def OwesD (P : Program) (Q : Exit → Act → World → Prop) (l : List Oper) (a0 : Act) (Φ : (Nat → Value) → Nat → World → Value → Prop) (R : World → World → Prop) (S : World → Prop) (i : Nat) (o : Oper) : Prop :=
 ∀ vs w, S w → (∀ e ∈ o.after.toList, Region.binds .any e = true → Φ vs e.on w (vs e.on)) → ∀ K : Act → World → Prop, (∀ v w', R w w' → Φ vs i w' v → K ((fillR l 0 vs a0).put o.dst v) w') →
  Wrap (if Region.wanted o (yielded l.toArray (fillR l 0 vs a0).tmps) = true then Oper.wp P o (fillR l 0 vs a0) w K Q else K ((fillR l 0 vs a0).put o.dst undef) w)
/-- what an operation's knowledge hangs on: that alone -/
def Hangs (Φ : (Nat → Value) → Nat → World → Value → Prop) (i : Nat) (o : Oper) : Prop :=
 ∀ vs vs' w x, (∀ e ∈ o.after.toList, Region.binds .any e = true → vs e.on = vs' e.on) → Φ vs i w x → Φ vs' i w x
theorem region_invd {id : Nat} {a0 : Act} {w : World} {l : List Oper} (Φ : (Nat → Value) → Nat → World → Value → Prop) (R : World → World → Prop) (S : World → Prop) (hm : P.follows .mixedOrders = true) (hd : apartL l = true) (hb : backB l.toArray = true)
  (hΦ : ∀ vs w w', R w w' → ∀ j x, Φ vs j w x → Φ vs j w' x) (hS : ∀ w w', R w w' → S w → S w') (hC : StepsL (Hangs Φ) 0 l) (hS0 : S w.drew)
  (hstep : StepsL (OwesD P Q l a0 Φ R S) 0 l)
  (hend : ∀ vs w, S w → (∀ i, i < l.length → Φ vs i w (vs i)) → Q .normal (fillR l 0 vs a0) w) : (Code.region id l.toArray true).wp P Q a0 w := by
 refine wp_region_any hm ?_
 have h := wpAny_invd (P := P) (Q := Q) (md := .any) (ops := l.toArray) Φ R S a0 hd hb hΦ hS (fun j o ho vs vs' w x h => by
  have := hC j o (by simpa using ho); rw [Nat.zero_add] at this
  exact this vs vs' w x (fun e he hbd => h e (by simpa using he) hbd)) (fun i o ho vs w hSw hdep K hK => by
  have := hstep i o (by simpa using ho); rw [Nat.zero_add] at this
  exact (this vs w hSw (fun e he hbd => hdep e (by simpa using he) hbd) K hK).un) (fun vs w hSw h => hend vs w hSw (fun i hi => h i (by simpa using hi))) l.toArray.size (Array.replicate l.toArray.size false) (ownV l a0) w.drew (by simp) (by simp) (fun j o _ hj => by rw [repF] at hj; cases hj) hS0 (fun j hj => by rw [repF] at hj; cases hj)
 rw [fillR_id] at h
 ·exact h
 ·intro j o ho d hd'; rw [Nat.zero_add]; unfold ownV; rw [ho]; simp [hd']
end
end Go.Proofs.Yticobffjnjbjiaa
namespace Go.Proofs.Yticobffjnjbjiaa
open Go.RowKit
structure IT where
 test : ByteArray
 r : RC0
 p : Int
def cellsI (it : IT) : List Value := [.string it.test, .int .i64 it.r.oc, .string it.r.at_, .int .i64 it.r.st, it.r.v3, it.r.v4, it.r.v5, it.r.v6, it.r.v7, it.r.v8, it.r.v9, it.r.v10, it.r.v11, it.r.v12, it.r.v13, it.r.v14, it.r.v15, it.r.v16, it.r.v17, it.r.v18, it.r.v19, it.r.v20, it.r.v21, .int .i64 it.p]
theorem cellsI_len (it : IT) : (cellsI it).length = 24 := rfl
def ofN (l : List Nat) (ps : List PC) (name : ByteArray) (r : RC0) : Int := match l.find? (covAt ps name r) with
 | some n => (n : Int)
 | none => -1
theorem OfP.eq : ∀ {l : List Nat} {ps : List PC} {name : ByteArray} {r : RC0} {x : Int}, OfP l ps name r x → x = ofN l ps name r
 | [], ps, name, r, x, h => by
  rcases h with ⟨h, _⟩ | ⟨i, n, _, h, _⟩
  ·exact h
  ·simp at h
 | a :: l, ps, name, r, x, h => by
  unfold ofN
  cases hc : covAt ps name r a
  ·rw [List.find?_cons_of_neg (by simp [hc])]; refine OfP.eq (l := l) ?_
   rcases h with ⟨h1, h2⟩ | ⟨i, n, h1, h2, h3, h4⟩
   ·exact .inl ⟨h1, fun j n hj => h2 (j + 1) n (by simpa using hj)⟩
   ·rcases i with _ | i
    ·obtain rfl : a = n := by simpa using h2
     rw [hc] at h3; cases h3
    ·exact .inr ⟨i, n, h1, by simpa using h2, h3, fun j b hj hb => h4 (j + 1) b (by omega) (by simpa using hb)⟩
  ·rw [List.find?_cons_of_pos (by simp [hc])]
   rcases h with ⟨h1, h2⟩ | ⟨i, n, h1, h2, h3, h4⟩
   ·rw [h2 0 a rfl] at hc; cases hc
   ·rcases i with _ | i
    ·obtain rfl : a = n := by simpa using h2
     exact h1
    ·rw [h4 0 a (by omega) rfl] at hc; cases hc
/-- the items of results: those that did not pass -/
def itemsL (l : List Nat) (ps : List PC) (xs : List (ByteArray × RC0)) : List IT := (xs.filter fun x => x.2.oc != 0).map fun x => ⟨x.1, x.2, ofN l ps x.1 x.2⟩
def pasL (l : List Nat) (ps : List PC) (xs : List (ByteArray × RC0)) : List IT := (itemsL l ps xs).filter fun it => decide (0 ≤ it.p)
def stoL (l : List Nat) (ps : List PC) (xs : List (ByteArray × RC0)) : List IT := (itemsL l ps xs).filter fun it => decide (it.p < 0)
theorem items_take {l : List Nat} {ps : List PC} {xs : List (ByteArray × RC0)} {i : Nat} {x : ByteArray × RC0} (h : xs[i]? = some x) : itemsL l ps (xs.take (i + 1)) = itemsL l ps (xs.take i) ++ (if x.2.oc = 0 then [] else [⟨x.1, x.2, ofN l ps x.1 x.2⟩]) := by
 obtain ⟨hi, e⟩ := List.getElem?_eq_some_iff.1 h; unfold itemsL; rw [List.take_succ_eq_append_getElem hi, e, List.filter_append, List.map_append]
 congr 1
 by_cases ho : x.2.oc = 0
 ·rw [if_pos ho, List.filter_cons_of_neg (by simp [ho])]; rfl
 ·rw [if_neg ho, List.filter_cons_of_pos (by simp [ho])]; rfl
theorem step_none {l : List Nat} {ps : List PC} {xs : List (ByteArray × RC0)} {i : Nat} {x : ByteArray × RC0} (h : xs[i]? = some x) (ho : x.2.oc = 0) : pasL l ps (xs.take (i + 1)) = pasL l ps (xs.take i) ∧ stoL l ps (xs.take (i + 1)) = stoL l ps (xs.take i) := by
 unfold pasL stoL; rw [items_take h, if_pos ho, List.append_nil]; exact ⟨rfl, rfl⟩
theorem step_pas {l : List Nat} {ps : List PC} {xs : List (ByteArray × RC0)} {i : Nat} {x : ByteArray × RC0} (h : xs[i]? = some x) (ho : x.2.oc ≠ 0) (hp : 0 ≤ ofN l ps x.1 x.2) : pasL l ps (xs.take (i + 1)) = pasL l ps (xs.take i) ++ [⟨x.1, x.2, ofN l ps x.1 x.2⟩] ∧ stoL l ps (xs.take (i + 1)) = stoL l ps (xs.take i) := by
 unfold pasL stoL; rw [items_take h, if_neg ho, List.filter_append, List.filter_append]; rw [List.filter_cons_of_pos (by simpa using hp), List.filter_nil, List.filter_cons_of_neg (by simp; omega), List.filter_nil, List.append_nil]; exact ⟨rfl, rfl⟩
theorem step_sto {l : List Nat} {ps : List PC} {xs : List (ByteArray × RC0)} {i : Nat} {x : ByteArray × RC0} (h : xs[i]? = some x) (ho : x.2.oc ≠ 0) (hp : ofN l ps x.1 x.2 < 0) : pasL l ps (xs.take (i + 1)) = pasL l ps (xs.take i) ∧ stoL l ps (xs.take (i + 1)) = stoL l ps (xs.take i) ++ [⟨x.1, x.2, ofN l ps x.1 x.2⟩] := by
 unfold pasL stoL; rw [items_take h, if_neg ho, List.filter_append, List.filter_append]; rw [List.filter_cons_of_neg (by simp; omega), List.filter_nil, List.append_nil, List.filter_cons_of_pos (by simpa using hp), List.filter_nil]; exact ⟨rfl, rfl⟩
def strC (s : ByteArray) : List Value := [.string s]
theorem strC_len (s : ByteArray) : (strC s).length = 1 := rfl
theorem RowS.str {w : World} {A : Option Addr} {k : Nat} {l : List ByteArray} (h : RowS strC w A k l) {i : Nat} (hi : i < k) : ∃ b off, ∃ n : ByteArray, A = some ⟨b, off, none⟩ ∧ w.cell? ⟨b, off + i, none⟩ = some (.string n) ∧ Hid (l[i]? = some n) := by
 have hil : i < l.length := by have := h.2.1; omega
 obtain ⟨b, off, hA, hc⟩ := h.at_ strC_len (by omega) hi hil; refine ⟨b, off, l[i], hA, ?_, List.getElem?_eq_getElem hil⟩; have := hc.out 0 _ rfl
 rwa [Nat.mul_one, Nat.add_zero] at this
theorem nat_rows {w : World} {A : Option Addr} {k : Nat} {l : List Nat} (h : RowS natC w A k l) : RowS intC w A k (l.map fun n : Nat => (n : Int)) := by
 refine ⟨?_, by rw [List.length_map]; exact h.2.1, h.2.2⟩
 have e : (l.map fun n : Nat => (n : Int)).flatMap intC = l.flatMap natC := by
  clear h
  induction l with
  | nil => rfl
  | cons a l ih => rw [List.map_cons, List.flatMap_cons, List.flatMap_cons, ih]; rfl
 rw [e]; exact h.1
theorem nat_of {w : World} {A : Option Addr} {k kl : Nat} {l : List Int} {Lz : List Nat} (hr : RowS intC w A k l) (hin : ∀ n ∈ l, outB kl n = false) (HLz : Lz = l.map Int.toNat) : RowS natC w A k Lz ∧ Hid (∀ (j : Nat) n, Lz[j]? = some n → n < kl) := by
 constructor
 ·have e : l = Lz.map (fun n : Nat => (n : Int)) := by
   rw [HLz, List.map_map]
   conv => lhs; rw [← List.map_id l]
   apply List.map_congr_left
   intro n hn; have := hin n hn; unfold outB at this; simp at this; simp; omega
  rw [e] at hr; refine ⟨?_, by simpa using hr.2.1, hr.2.2⟩
  have e2 : ∀ L : List Nat, (L.map fun n : Nat => (n : Int)).flatMap intC = L.flatMap natC := by
   intro L
   induction L with
   | nil => rfl
   | cons a l ih => rw [List.map_cons, List.flatMap_cons, List.flatMap_cons, ih]; rfl
  rw [← e2]; exact hr.1
 ·intro j n hj; rw [HLz, List.getElem?_map] at hj
  cases hlj : l[j]? with
  | none => rw [hlj] at hj; cases hj
  | some m =>
   rw [hlj] at hj; have hm : m.toNat = n := by simpa using hj
   have := hin m (List.mem_of_getElem? hlj); unfold outB at this; simp at this; omega
theorem ownsRow_keep {w w' : World} {base : Nat} {e : TypeId} {size : Nat} {v : Value} {n : Nat} {xs : List Value} (h : w.ownsRow base e size v n xs) (hk : ∀ g, v.ownBlock = some g → w'.heap[g]? = w.heap[g]?) : w'.ownsRow base e size v n xs := by
 refine ⟨h.1, ?_⟩
 rcases h.2 with h0 | ⟨g, cap, cur, rfl, hb, hh, r⟩
 ·exact .inl h0
 ·exact .inr ⟨g, cap, cur, rfl, hb, (hk g rfl).trans hh, r⟩
theorem ownsRow_lt {w : World} {base : Nat} {e : TypeId} {size : Nat} {v : Value} {n : Nat} {xs : List Value} (h : w.ownsRow base e size v n xs) : ∀ g, v.ownBlock = some g → g < w.heap.size := by
 intro g hg
 rcases h.2 with ⟨rfl, _⟩ | ⟨g', cap, cur, rfl, hb, hh, r⟩
 ·simp [Value.ownBlock] at hg
 ·simp [Value.ownBlock] at hg; subst hg
  rcases Nat.lt_or_ge g' w.heap.size with h1 | h1
  ·exact h1
  ·rw [Array.getElem?_eq_none h1] at hh; cases hh
theorem grown_new {a w w' : World} {g : Nat} {row : Option Nat} (h : a.grownBy w (some g)) (k : w.grownBy w' row) (hr : ∀ j, row = some j → a.heap.size ≤ j) : a.grownBy w' (some g) :=
 ⟨k.os.trans h.os, k.tape.trans h.tape, k.output.trans h.output, Nat.le_trans h.size k.size, fun i hi hn => (k.block i (Nat.lt_of_lt_of_le hi h.size) (fun e => by have := hr i e.symm; omega)).trans (h.block i hi hn)⟩
theorem cell_grown {w w' : World} {g : Nat} (hb : w.grownBy w' (some g)) {a : Addr} {v : Value} (h : w.cell? a = some v) (hne : a.block ≠ g) : w'.cell? a = some v := by
 rw [World.cell?_of_block (w := w) (hb.block _ (cell_lt h) (fun e => hne (by injection e)))]; exact h
end Go.Proofs.Yticobffjnjbjiaa
