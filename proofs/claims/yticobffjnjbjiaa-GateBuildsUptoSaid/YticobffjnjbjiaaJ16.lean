import Derived.Test.YticobffjnjbjiaaJ15
import Derived.Deep.MidRow
import Derived.Deep.Quiet
import Derived.Deep.QuietTactic
import Derived.BigQuiet
import Derived.Test.YticobffjnjbjiaaS0
set_option linter.unusedVariables false
set_option linter.unusedSimpArgs false
namespace Go.Proofs.Yticobffjnjbjiaa
open Go Go.RowKit
section
variable {P : Program}
theorem wpList_sliceN {ops : Array Oper} {rest : List Oper} {o : Oper} {a : Act} {w : World} {Q : Exit → Act → World → Prop} (hg : o.guard = none) (t e : TypeId) (len : Nat) (pl : List (Nat × Operand)) (ho : o.op = .buildSlice t len pl.toArray)
  (cells : Array Value) (ie : TypeInfo) (z : Value) (n : Nat) (vals : List (Nat × Value))
  (hu : P.underlying t = some (.slice e)) (hie : P.info? e = some ie) (hz : ie.zero = some z) (hn : ie.size = n) (hsmall : ¬ len * n > 2 ^ 24) (hpos : ¬ len * n = 0) (hv : (pl.map fun (i, x) => (i, a.eval x)) = vals)
  (hf : Instr.fill (fun i => some (i * n, n)) ((Array.range (len * n)).map (z.cells[· % z.cells.size]!)) vals = some cells)
  (h : wpList P ops Q rest (a.put o.dst (.slice (some ⟨w.heap.size, 0, none⟩) len len)) (w.alloc (.cells cells e))) : wpList P ops Q (o :: rest) a w := by
 subst hn; exact wpList_buildSlice hg t e len _ ho cells ie z hu hie hz hsmall hpos (by rw [← hv] at hf; simpa using hf) h
theorem wp_sliceN {o : Oper} {a : Act} {w : World} {K : Act → World → Prop} {Q : Exit → Act → World → Prop} (t e : TypeId) (len : Nat) (pl : List (Nat × Operand)) (ho : o.op = .buildSlice t len pl.toArray)
  (cells : Array Value) (ie : TypeInfo) (z : Value) (n : Nat) (vals : List (Nat × Value))
  (hu : P.underlying t = some (.slice e)) (hie : P.info? e = some ie) (hz : ie.zero = some z) (hn : ie.size = n) (hsmall : ¬ len * n > 2 ^ 24) (hpos : ¬ len * n = 0) (hv : (pl.map fun (i, x) => (i, a.eval x)) = vals)
  (hf : Instr.fill (fun i => some (i * n, n)) ((Array.range (len * n)).map (z.cells[· % z.cells.size]!)) vals = some cells)
  (h : K (a.put o.dst (.slice (some ⟨w.heap.size, 0, none⟩) len len)) (w.alloc (.cells cells e))) : o.wp P a w K Q := by
 subst hn; exact wp_buildSlice t e len _ ho cells ie z hu hie hz hsmall hpos (by rw [← hv] at hf; simpa using hf) h
theorem quiet_load_mid {w0 : World} {C : World → Prop} {op : Oper} {a : Act} (ty : TypeId) (x : Operand) (ho : op.op = .load ty x) (b o : Nat) (hx : a.eval x = .pointer (some ⟨b, o, none⟩)) (cs : List Value) (d : TypeDesc) (hc : w0.rangeAt b o cs)
  (hu : P.underlying ty = some d) (hd : d.isRow = true) (hi : (P.info? ty).map (·.size) = some cs.length) (w : World) (hw : ∃ n, w = w0.drewN n) : op.quietAt P a C w (.agg cs.toArray) := by
 obtain ⟨n, rfl⟩ := hw; have hc2 : (w0.drewN n).rangeAt b o cs := hc; unfold Oper.quietAt execOp; simp only [ho, hx, Instr.loadAt, Instr.sureAddr, Sem.run_bind, Sem.run_pure, Result.andThen_ok, run_loadVar_mid (w0.drewN n) b o ty cs d hc2 hu hd hi]; exact ⟨rfl, rfl⟩
theorem wp_name {c : Code} {Q : Exit → Act → World → Prop} {a : Act} {w : World} (h : ∀ W, Hid (W = w) → c.wp P Q a W) : c.wp P Q a w := h w rfl
theorem wpList_name {ops : Array Oper} {rest : List Oper} {Q : Exit → Act → World → Prop} {a : Act} {w : World} (h : ∀ W, Hid (W = w) → wpList P ops Q rest a W) : wpList P ops Q rest a w := h w rfl
theorem wpList_buildTo {ops : Array Oper} {rest : List Oper} {o : Oper} {a : Act} {w : World} {Q : Exit → Act → World → Prop} (hg : o.guard = none) (t : TypeId) (pl : List (Nat × Operand)) (ho : o.op = .build t pl.toArray)
  (cells : Array Value) (hf : P.built t (pl.map fun (i, x) => (i, a.eval x)) = some cells) (h : wpList P ops Q rest (a.put o.dst (.agg cells)) w) : wpList P ops Q (o :: rest) a w :=
 wpList_plain hg fun _ hK => wp_buildTo t _ ho cells (by simpa using hf) (hK _ _ h)
theorem calls_name {f : Nat} {args : Array Value} {w : World} {Q : Ending → World → Prop} (h : ∀ W, Hid (W = w) → Calls P f args W Q) : Calls P f args w Q := h w rfl
end
def zeroR : Value := .agg (cellsR rPass).toArray
theorem info_resR : (Try.prog.info? 64).map (fun i => (i.zero, i.size, i.bytes)) = some (some zeroR, 22, 72) := by kernel_rfl
def rowE (l : List RC0) : Array Value := (l.flatMap cellsR).toArray
theorem rowE_rows (w : World) (l : List RC0) (k : Nat) (hk : k = l.length) (hk2 : k ≤ 281474976710656) : RowS cellsR (w.alloc (.cells (rowE l) 64)) (some ⟨w.heap.size, 0, none⟩) k l := ⟨Rd.fresh w 64 (l.flatMap cellsR), hk, hk2⟩
theorem fill_3 : Instr.fill (fun i => some (i * 22, 22)) ((Array.range (3 * 22)).map (zeroR.cells[· % zeroR.cells.size]!)) [(0, .agg (cellsR rBad).toArray), (1, .agg (cellsR rOther).toArray), (2, .agg (cellsR rPass).toArray)] = some (rowE [rBad, rOther, rPass]) := by kernel_rfl
theorem fill_bbb : Instr.fill (fun i => some (i * 22, 22)) ((Array.range (3 * 22)).map (zeroR.cells[· % zeroR.cells.size]!)) [(0, .agg (cellsR rBad).toArray), (1, .agg (cellsR rBad).toArray), (2, .agg (cellsR rBad).toArray)] = some (rowE [rBad, rBad, rBad]) := by kernel_rfl
theorem fill_bb : Instr.fill (fun i => some (i * 22, 22)) ((Array.range (2 * 22)).map (zeroR.cells[· % zeroR.cells.size]!)) [(0, .agg (cellsR rBad).toArray), (1, .agg (cellsR rBad).toArray)] = some (rowE [rBad, rBad]) := by kernel_rfl
theorem fill_bbp : Instr.fill (fun i => some (i * 22, 22)) ((Array.range (3 * 22)).map (zeroR.cells[· % zeroR.cells.size]!)) [(0, .agg (cellsR rBad).toArray), (1, .agg (cellsR rBad).toArray), (2, .agg (cellsR rPass).toArray)] = some (rowE [rBad, rBad, rPass]) := by kernel_rfl
theorem fill_ssss : Instr.fill (fun i => some (i * 22, 22)) ((Array.range (4 * 22)).map (zeroR.cells[· % zeroR.cells.size]!)) [(0, .agg (cellsR rStuck).toArray), (1, .agg (cellsR rStuck).toArray), (2, .agg (cellsR rStuck).toArray), (3, .agg (cellsR rStuck).toArray)] = some (rowE [rStuck, rStuck, rStuck, rStuck]) := by kernel_rfl
theorem items_in {W : World} {b o : Nat} {t : ByteArray} {r : RC0} {p : Int} (h : ∀ (j : Nat) v, (cellsI ⟨t, r, p⟩)[j]? = some v → W.cell? ⟨b, o + j, none⟩ = some v) {j : Nat} {v : Value} (hj : (cellsR r)[j]? = some v) : W.cell? ⟨b, o + 1 + j, none⟩ = some v := by
 have e : cellsI ⟨t, r, p⟩ = (.string t) :: (cellsR r ++ [.int .i64 p]) := rfl; have := h (j + 1) v (by rw [e, List.getElem?_cons_succ, List.getElem?_append_left (List.getElem?_eq_some_iff.1 hj).1]; exact hj)
 rwa [show o + 1 + j = o + (j + 1) by omega]
theorem neq_other (w : World) : (binOp .neq 64 (.agg (cellsR rOther).toArray) (.agg (cellsR rOther).toArray)).run Try.prog w = .ok (.bool false) w := by
 kernel_rfl
theorem quiet_other (a : Act) (C : World → Prop) (w : World) (x y : Operand) (hx : a.eval x = (.agg (cellsR rOther).toArray)) (hy : a.eval y = .agg (cellsR rOther).toArray) (o : Oper) (ho : o.op = .binOp .neq 64 x y 64) : o.quietAt Try.prog a C w (.bool false) := by
 unfold Oper.quietAt execOp; rw [ho]; simp only [hx, hy]; simp [go_sem, neq_other]
theorem built_pass : (Try.prog).built 64 [] = some (cellsR rPass).toArray := by kernel_rfl
theorem nil_rat {w : World} : Rat w (.agg #[.slice none 0 0, .slice none 0 0]) 0 1 := ⟨none, 0, 0, none, 0, 0, rfl, Nb.zero _, Nb.zero _⟩
theorem g01 : Nm.Good 0 1 := ⟨by omega, rfl, fits_small (b64 (by omega)) (b64 (by omega))⟩
end Go.Proofs.Yticobffjnjbjiaa
namespace Go.Proofs.Yticobffjnjbjiaa
open Go.RowKit
def PhiV (sv rv : Value) (j : Nat) (w : World) (x : Value) : Prop :=
 match j with
 | 0 => x = .int .i64 0
 | 1 => x = .bool true
 | 2 => x = .bool true
 | 3 => x = .int .i64 0
 | 4 => x = .bool true
 | 5 => x = .bool true
 | 6 => x = .bool true
 | 7 => x = sv
 | 8 => ∃ A c, x = .slice A 4 c ∧ RowS intC w A 4 [2, 1, 0, 1]
 | 9 => x = .bool true
 | 10 => x = .bool true
 | 11 => x = .bool true
 | 12 => x = rv
 | 13 => ∃ A k c A' k' c', x = .agg #[.slice A k c, .slice A' k' c'] ∧ Rat w (.agg #[.slice A k c, .slice A' k' c']) 5 2
 | 14 => x = .bool true
 | 15 => x = .bool true
 | 16 => x = .bool true
 | _ => True
theorem PhiV.keep {sv rv : Value} : ∀ (w w' : World), Below w.heap.size w w' → ∀ j x, PhiV sv rv j w x → PhiV sv rv j w' x := by
 intro w w' hb j x h; unfold PhiV at h ⊢
 split <;> simp only at h ⊢
 all_goals first
  | exact h
  | (obtain ⟨A, c, rfl, h⟩ := h; exact ⟨A, c, rfl, h.below hb⟩)
  | (obtain ⟨A, k, c, A', k', c', rfl, h⟩ := h; exact ⟨A, k, c, A', k', c', rfl, h.below hb⟩)
set_option maxRecDepth 100000 in
set_option maxHeartbeats 4000000 in
theorem lives_n (w : World) :
  Calls Try.prog 18 #[] w fun e w' => e = .returned (.bool true) ∧ Below w.heap.size w w' := by
 go_enter Try.func18, Try.ntmps18
 go_wp2_with fail; obtain ⟨i0, hi0, hz0, hz1, hz2⟩ := info_parts info_resR; refine (example_n _).mono ?_; rintro e w1 ⟨g, a, a', b, b', c, c', rfl, hp, h1, h2, h3, hb1⟩
 go_upto_region 3 with (first | (refine wpList_store_mid rfl 64 (.tmp 2) (.tmp 25) rfl w1.heap.size 0 #[.int .i64 1, .string ⟨#[112, 48]⟩, .int .i64 2, .int .i64 0, .int .i64 0, .int .i64 0, .int .u8 0, .int .u8 0, .int .u8 0, .int .u8 0, .int .u8 0, .int .u8 0, .int .u8 0, .int .u8 0, .int .u8 0, .int .u8 0, .int .u8 0, .int .u8 0, .int .u8 0, .int .u8 0, .int .u8 0, .int .u8 0] rfl rfl (there_new _ _ _ 22 (by simp)) (by kernel_rfl) (all_oneCell_toArray (cs := [.int .i64 1, .string ⟨#[112, 48]⟩, .int .i64 2, .int .i64 0, .int .i64 0, .int .i64 0, .int .u8 0, .int .u8 0, .int .u8 0, .int .u8 0, .int .u8 0, .int .u8 0, .int .u8 0, .int .u8 0, .int .u8 0, .int .u8 0, .int .u8 0, .int .u8 0, .int .u8 0, .int .u8 0, .int .u8 0, .int .u8 0]) rc_one) ?_; rw [setCells_new]; rotate_left; rfl))
 refine wp_name ?_; intro W2 HW2; have hbW2 : Below w1.heap.size w1 W2 := by rw [HW2.out]; exact bA _ _
 have B2 : Blk W2 w1.heap.size 64 #[.int .i64 1, .string ⟨#[112, 48]⟩, .int .i64 2, .int .i64 0, .int .i64 0, .int .i64 0, .int .u8 0, .int .u8 0, .int .u8 0, .int .u8 0, .int .u8 0, .int .u8 0, .int .u8 0, .int .u8 0, .int .u8 0, .int .u8 0, .int .u8 0, .int .u8 0, .int .u8 0, .int .u8 0, .int .u8 0, .int .u8 0] := by rw [HW2.out]; exact Blk.new _ _ _
 go_upto_region 4 with (first | (refine wpList_store_mid rfl 64 (.tmp 3) (.tmp 26) rfl W2.heap.size 0 #[.int .i64 1, .string ⟨#[112, 48]⟩, .int .i64 1, .int .i64 0, .int .i64 0, .int .i64 0, .int .u8 0, .int .u8 0, .int .u8 0, .int .u8 0, .int .u8 0, .int .u8 0, .int .u8 0, .int .u8 0, .int .u8 0, .int .u8 0, .int .u8 0, .int .u8 0, .int .u8 0, .int .u8 0, .int .u8 0, .int .u8 0] rfl rfl (there_new _ _ _ 22 (by simp)) (by kernel_rfl) (all_oneCell_toArray (cs := [.int .i64 1, .string ⟨#[112, 48]⟩, .int .i64 1, .int .i64 0, .int .i64 0, .int .i64 0, .int .u8 0, .int .u8 0, .int .u8 0, .int .u8 0, .int .u8 0, .int .u8 0, .int .u8 0, .int .u8 0, .int .u8 0, .int .u8 0, .int .u8 0, .int .u8 0, .int .u8 0, .int .u8 0, .int .u8 0, .int .u8 0]) rc_one) ?_; rw [setCells_new]; rotate_left; rfl))
 refine wp_name ?_; intro W3 HW3; have hbW3 : Below W2.heap.size W2 W3 := by rw [HW3.out]; exact bA _ _
 have B3 : Blk W3 W2.heap.size 64 #[.int .i64 1, .string ⟨#[112, 48]⟩, .int .i64 1, .int .i64 0, .int .i64 0, .int .i64 0, .int .u8 0, .int .u8 0, .int .u8 0, .int .u8 0, .int .u8 0, .int .u8 0, .int .u8 0, .int .u8 0, .int .u8 0, .int .u8 0, .int .u8 0, .int .u8 0, .int .u8 0, .int .u8 0, .int .u8 0, .int .u8 0] := by rw [HW3.out]; exact Blk.new _ _ _
 have B2 := Blk.below B2 hbW3 B2.lt; go_upto_region 5 with fail; refine wp_name ?_; intro W4 HW4; have hbW4 : Below W3.heap.size W3 W4 := by rw [HW4.out]; exact bA _ _
 have ht4 : RowS strC W4 (some ⟨W3.heap.size, 0, none⟩) 3 [tT0, tT0, tT1] := ⟨by rw [HW4.out]; exact Rd.fresh W3 9 [.string ⟨#[116, 48]⟩, .string ⟨#[116, 48]⟩, .string ⟨#[116, 49]⟩], rfl, by omega⟩; have B2 := Blk.below B2 hbW4 B2.lt; have B3 := Blk.below B3 hbW4 B3.lt
 go_upto_region 6 with (first | (refine wpList_load_mid rfl 64 (.tmp 2) rfl w1.heap.size 0 rfl [.int .i64 1, .string ⟨#[112, 48]⟩, .int .i64 2, .int .i64 0, .int .i64 0, .int .i64 0, .int .u8 0, .int .u8 0, .int .u8 0, .int .u8 0, .int .u8 0, .int .u8 0, .int .u8 0, .int .u8 0, .int .u8 0, .int .u8 0, .int .u8 0, .int .u8 0, .int .u8 0, .int .u8 0, .int .u8 0, .int .u8 0] _ (Blk.range B2) Try.underlying64 rfl (infoR (r := rBad)) ?_) | (refine wpList_load_mid rfl 64 (.tmp 3) rfl W2.heap.size 0 rfl [.int .i64 1, .string ⟨#[112, 48]⟩, .int .i64 1, .int .i64 0, .int .i64 0, .int .i64 0, .int .u8 0, .int .u8 0, .int .u8 0, .int .u8 0, .int .u8 0, .int .u8 0, .int .u8 0, .int .u8 0, .int .u8 0, .int .u8 0, .int .u8 0, .int .u8 0, .int .u8 0, .int .u8 0, .int .u8 0, .int .u8 0] _ (Blk.range B3) Try.underlying64 rfl (infoR (r := rBad)) ?_) | (refine wpList_sliceN rfl 41 64 3 _ rfl (rowE [rBad, rOther, rPass]) i0 zeroR 22 [(0, .agg (cellsR rBad).toArray), (1, .agg (cellsR rOther).toArray), (2, .agg (cellsR rPass).toArray)] Try.underlying41 hi0 hz0 hz1 (by omega) (by omega) rfl fill_3 ?_))
 refine wp_name ?_; intro W5 HW5; have hbW5 : Below W4.heap.size W4 W5 := by rw [HW5.out]; exact bA _ _
 have hs5 : RowS cellsR W5 (some ⟨W4.heap.size, 0, none⟩) 3 [rBad, rOther, rPass] := by rw [HW5.out]; exact rowE_rows _ _ _ rfl (by omega)
 have B2 := Blk.below B2 hbW5 B2.lt; have B3 := Blk.below B3 hbW5 B3.lt; have ht5 := ht4.below hbW5; have hw5 : Below w1.heap.size w1 W5 := Below.tr (Below.tr (Below.tr hbW2 hbW3) hbW4) hbW5; have hp5 := hp.below hw5; have h15 := h1.below hw5; have h25 := h2.below hw5; have h35 := h3.below hw5; clear hp h1 h2 h3 ht4 hbW2 hbW3 hbW4 hbW5 HW2 HW3 HW4 HW5; go_wp2_with fail; refine calls_name ?_; intro W6 HW6; have hbW6 : Below W5.heap.size W5 W6 := by rw [HW6.out]; exact bA _ _
 have hr6 : RowS intC W6 (some ⟨W5.heap.size, 0, none⟩) 3 [0, 1, 2] := ⟨by rw [HW6.out]; exact Rd.fresh W5 3 [.int .i64 0, .int .i64 1, .int .i64 2], rfl, by omega⟩; refine (decide_ex _ _ _ _ _ _ _ _ _ [0, 1, 2] 0 _ (hp5.below hbW6) hr6 (ht5.below hbW6) (hs5.below hbW6) (by decide) of_bad (by decide) of_other).mono ?_; rintro e W7 ⟨Ap, cp, As, cs, rfl, hx1, hx2, hb7⟩; clear hr6; go_upto_region 7 with fail; refine wp_name ?_; intro W8 HW8; have hbW8 : Below W7.heap.size W7 W8 := by rw [HW8.out]; exact bA _ _
 have BL : Blk W8 W7.heap.size 58 #[.slice Ap 1 cp, .slice As 1 cs] := by rw [HW8.out]; exact Blk.new _ _ _
 have h58 := Below.tr (Below.tr hbW6 hb7) hbW8; have hx1 := hx1.below hbW8; have hx2 := hx2.below hbW8; clear hbW6 hb7 hbW8 HW6 HW8; go_wp2_with fail; refine calls_name ?_; intro W9 HW9; have hbW9 : Below W8.heap.size W8 W9 := by rw [HW9.out]; exact bA _ _
 have hr9 : RowS intC W9 (some ⟨W8.heap.size, 0, none⟩) 2 [1, 0] := ⟨by rw [HW9.out]; exact Rd.fresh W8 3 [.int .i64 1, .int .i64 0], rfl, by omega⟩; have h59 := Below.tr h58 hbW9; refine (decide_ex _ _ _ _ _ _ _ _ _ [1, 0] 1 _ (hp5.below h59) hr9 (ht5.below h59) (hs5.below h59) (by decide) of_bad2 (by decide) of_other2).mono ?_; rintro e W10 ⟨Aq, cq, At, ct, rfl, hy1, hy2, hb10⟩; clear hr9; go_upto_region 8 with fail; refine wp_name ?_; intro W11 HW11; have hbW11 : Below W10.heap.size W10 W11 := by rw [HW11.out]; exact bA _ _
 have BM : Blk W11 W10.heap.size 58 #[.slice Aq 1 cq, .slice At 1 ct] := by rw [HW11.out]; exact Blk.new _ _ _
 have h8B := Below.tr (Below.tr hbW9 hb10) hbW11; have h5B := Below.tr h58 h8B; have BL := Blk.below BL h8B BL.lt; have hx1 := hx1.below h8B; have hx2 := hx2.below h8B; have hy1 := hy1.below hbW11; have hp := hp5.below h5B; have h1 := h15.below h5B; have h2 := h25.below h5B; have h3 := h35.below h5B; have B2 := Blk.below B2 h5B B2.lt; have B3 := Blk.below B3 h5B B3.lt; have hbB := Below.tr hb1 (Below.tr hw5 h5B); clear hp5 h15 h25 h35 ht5 hs5 h58 h59 h8B hb10 hbW9 hbW11 hy2 HW9 HW11 hw5 hb1 h5B; obtain ⟨bp, op, rfl, HIp⟩ := hx1.at_ cellsI_len (by omega) (i := 0) (by omega) (by simp); simp only [Nat.zero_mul, Nat.add_zero] at HIp; obtain ⟨bq, oq, rfl, HIq⟩ := hx2.at_ cellsI_len (by omega) (i := 0) (by omega) (by simp); simp only [Nat.zero_mul, Nat.add_zero] at HIq; obtain ⟨br, or, rfl, HIr⟩ := hy1.at_ cellsI_len (by omega) (i := 0) (by omega) (by simp); simp only [Nat.zero_mul, Nat.add_zero] at HIr; clear hx1 hx2 hy1; have q0 := BL.cell 0; have q1 := BL.cell 1; have q2 := BM.cell 0; simp only [List.getElem?_toArray, List.getElem?_cons_zero, List.getElem?_cons_succ] at q0 q1 q2; go_upto_region 10 with fail; go_wp2_with fail; refine (part_n 1 8 _ (by omega) (by omega) (by omega)).mono ?_; rintro e V1 ⟨v, rfl, hR1, hV1⟩; obtain ⟨D1, m1, o1, D2, m2, o2, rfl⟩ := hR1.1.shape; go_wp2_with fail; refine (part_n 1 100 _ (by omega) (by omega) (by omega)).mono ?_; rintro e V2 ⟨v, rfl, hR2, hV2⟩; obtain ⟨F1, l1, u1, F2, l2, u2, rfl⟩ := hR2.1.shape; obtain ⟨ra, ga⟩ := (hR1.below hV2).to (a := 1) (b := 8) (by decide) (by decide)
 obtain ⟨rb, gb⟩ := hR2.to (a := 1) (b := 100) (by decide) (by decide); go_wp2_with fail; refine (retries_rat _ _ 1 8 1 100 3 0 _ ra rb ga gb ret_a).mono ?_; rintro e V3 ⟨rfl, hV3⟩; have hz := (Below.tr (Below.tr hV1 hV2) hV3); clear ra ga rb gb hR1 hR2 hV1 hV2 hV3; go_upto_region 11 with fail; go_wp2_with fail; refine (part_n 1 1 _ (by omega) (by omega) (by omega)).mono ?_; rintro e V1 ⟨v, rfl, hR1, hV1⟩; obtain ⟨D1, m1, o1, D2, m2, o2, rfl⟩ := hR1.1.shape; go_wp2_with fail; refine (part_n 1 2 _ (by omega) (by omega) (by omega)).mono ?_; rintro e V2 ⟨v, rfl, hR2, hV2⟩; obtain ⟨F1, l1, u1, F2, l2, u2, rfl⟩ := hR2.1.shape; obtain ⟨ra, ga⟩ := (hR1.below hV2).to (a := 1) (b := 1) (by decide) (by decide); obtain ⟨rb, gb⟩ := hR2.to (a := 1) (b := 2) (by decide) (by decide); go_wp2_with fail; refine (retries_rat _ _ 1 1 1 2 0 6 _ ra rb ga gb ret_b).mono ?_; rintro e V3 ⟨rfl, hV3⟩; have hz := Below.tr hz (Below.tr (Below.tr hV1 hV2) hV3); clear ra ga rb gb hR1 hR2 hV1 hV2 hV3; go_upto_region 12 with fail; go_wp2_with fail; refine (retries_rat _ _ 0 1 0 1 1 0 _ nil_rat nil_rat g01 g01 ret_c).mono ?_; rintro e V3 ⟨rfl, hV3⟩; have hz := Below.tr hz hV3; clear hV3; go_upto_region 13 with fail; go_wp2_with fail; refine (part_n 1 2 _ (by omega) (by omega) (by omega)).mono ?_; rintro e V1 ⟨v, rfl, hR1, hV1⟩; obtain ⟨D1, m1, o1, D2, m2, o2, rfl⟩ := hR1.1.shape; go_wp2_with fail; refine (part_n 1 1 _ (by omega) (by omega) (by omega)).mono ?_; rintro e V2 ⟨v, rfl, hR2, hV2⟩; obtain ⟨F1, l1, u1, F2, l2, u2, rfl⟩ := hR2.1.shape
 obtain ⟨ra, ga⟩ := (hR1.below hV2).to (a := 1) (b := 2) (by decide) (by decide); obtain ⟨rb, gb⟩ := hR2.to (a := 1) (b := 1) (by decide) (by decide); go_wp2_with fail; refine (retries_rat _ _ 1 2 1 1 0 0 _ ra rb ga gb ret_d).mono ?_; rintro e V3 ⟨rfl, hV3⟩; have hz := Below.tr hz (Below.tr (Below.tr hV1 hV2) hV3); clear ra ga rb gb hR1 hR2 hV1 hV2 hV3; go_upto_region 14 with fail; have hp := hp.below hz; have h1 := h1.below hz; have h2 := h2.below hz; have h3 := h3.below hz; have B2 := Blk.below B2 hz B2.lt; have B3 := Blk.below B3 hz B3.lt; have BL := Blk.below BL hz BL.lt; have BM := Blk.below BM hz BM.lt; have hbz := Below.tr hbB hz; have HIp : Hid (∀ (j : Nat) v, (cellsI ⟨tT0, rBad, 0⟩)[j]? = some v → V3.cell? ⟨bp, op + j, none⟩ = some v) := fun j v h => cell_keep hz (HIp.out j v h)
 have HIq : Hid (∀ (j : Nat) v, (cellsI ⟨tT0, rOther, -1⟩)[j]? = some v → V3.cell? ⟨bq, oq + j, none⟩ = some v) := fun j v h => cell_keep hz (HIq.out j v h)
 have HIr : Hid (∀ (j : Nat) v, (cellsI ⟨tT0, rBad, 1⟩)[j]? = some v → V3.cell? ⟨br, or + j, none⟩ = some v) := fun j v h => cell_keep hz (HIr.out j v h)
 clear hz hbB q0 q1 q2; have x0 := BL.cell 0; have x1 := BL.cell 1; have y0 := BM.cell 0; simp only [List.getElem?_toArray, List.getElem?_cons_zero, List.getElem?_cons_succ] at x0 x1 y0; have ip := HIp.out 23 _ rfl; have ir := HIr.out 23 _ rfl; have HIq1 : Hid (∀ (j : Nat) v, (cellsR rOther)[j]? = some v → V3.cell? ⟨bq, oq + 1 + j, none⟩ = some v) := fun j v h => items_in HIq.out h
 refine wp_region_quiet_lit (by kernel_rfl) (by kernel_rfl) ?_
 go_big_quiet_step (fail)
 go_big_quiet_step (fail)
 go_big_quiet_step (fail)
 go_big_quiet_step (fail)
 go_big_quiet_step (fail)
 go_big_quiet_step (fail)
 go_big_quiet_step (fail)
 go_big_quiet_step (fail)
 go_big_quiet_step (fail)
 go_big_quiet_step (fail)
 go_big_quiet_step (fail)
 go_big_quiet_step (fail)
 go_big_quiet_step (fail)
 go_big_quiet_step (fail)
 go_big_quiet_step (fail)
 go_big_quiet_step (fail)
 go_big_quiet_step (fail)
 go_big_quiet_step (fail)
 go_big_quiet_step (fail)
 refine wpQuiet_step (fun K hK => ?_); rw [if_pos (by rfl)]; refine ⟨.agg (cellsR rOther).toArray, fun w hw => quiet_load_mid 64 (.tmp 114) rfl bq (oq + 1) rfl (cellsR rOther) _ (HIq1.out) Try.underlying64 rfl (infoR (r := rOther)) w hw, ?_⟩; simp only [Act.put, sA, sB, sC]; refine hK _ ?_; clear hK K; refine wpQuiet_step (fun K hK => ?_); rw [if_pos (by rfl)]; refine ⟨.agg (cellsR rOther).toArray, fun w hw => quiet_load_mid 64 (.tmp 3) rfl W2.heap.size (0) rfl (cellsR rOther) _ (Blk.range B3) Try.underlying64 rfl (infoR (r := rOther)) w hw, ?_⟩; simp only [Act.put, sA, sB, sC]; refine hK _ ?_; clear hK K; refine wpQuiet_step (fun K hK => ?_); rw [if_pos (by rfl)]; refine ⟨.bool false, fun w _ => quiet_other _ _ w (.tmp 115) (.tmp 116) rfl rfl _ rfl, ?_⟩; simp only [Act.put, sA, sB, sC]; refine hK _ ?_; clear hK K
 repeat (go_big_quiet_step (fail))
 refine wpQuiet_nil ?_; intro _ hw'; obtain ⟨nq, hw''⟩ := hw'; subst hw''; clear x0 x1 y0 ip ir HIp HIq HIr BL BM HIq1; go_upto_region 16 with fail; refine wp_name ?_; intro X0 HX0; have hx0 : Below V3.heap.size V3 X0 := by rw [HX0.out]; exact below_drewN _ _
 go_upto_region 17 with (first | (refine wpList_store_mid rfl 64 (.tmp 18) (.tmp 147) rfl X0.heap.size 0 #[.int .i64 2, .string ⟨#[116, 49]⟩, .int .i64 0, .int .i64 0, .int .i64 0, .int .i64 0, .int .u8 0, .int .u8 0, .int .u8 0, .int .u8 0, .int .u8 0, .int .u8 0, .int .u8 0, .int .u8 0, .int .u8 0, .int .u8 0, .int .u8 0, .int .u8 0, .int .u8 0, .int .u8 0, .int .u8 0, .int .u8 0] rfl rfl (there_new _ _ _ 22 (by simp)) (by kernel_rfl) (all_oneCell_toArray (cs := [.int .i64 2, .string ⟨#[116, 49]⟩, .int .i64 0, .int .i64 0, .int .i64 0, .int .i64 0, .int .u8 0, .int .u8 0, .int .u8 0, .int .u8 0, .int .u8 0, .int .u8 0, .int .u8 0, .int .u8 0, .int .u8 0, .int .u8 0, .int .u8 0, .int .u8 0, .int .u8 0, .int .u8 0, .int .u8 0, .int .u8 0]) rc_one) ?_; rw [setCells_new]; rotate_left; rfl))
 refine wp_name ?_; intro X1 HX1; have hbX1 : Below X0.heap.size X0 X1 := by rw [HX1.out]; exact bA _ _
 have BS : Blk X1 X0.heap.size 64 #[.int .i64 2, .string ⟨#[116, 49]⟩, .int .i64 0, .int .i64 0, .int .i64 0, .int .i64 0, .int .u8 0, .int .u8 0, .int .u8 0, .int .u8 0, .int .u8 0, .int .u8 0, .int .u8 0, .int .u8 0, .int .u8 0, .int .u8 0, .int .u8 0, .int .u8 0, .int .u8 0, .int .u8 0, .int .u8 0, .int .u8 0] := by rw [HX1.out]; exact Blk.new _ _ _
 have hX := Below.tr hx0 hbX1; have hp := hp.below hX; have h1 := h1.below hX; have h2 := h2.below hX; have h3 := h3.below hX; have B2 := Blk.below B2 hX B2.lt; have hbX := Below.tr hbz hX; clear hx0 hbX1 hX hbz HX0 HX1 B3; refine wp_region_lit ?_; refine wpList_load_mid rfl 64 (.tmp 2) rfl w1.heap.size 0 rfl (cellsR rBad) _ (Blk.range B2) Try.underlying64 rfl (infoR (r := rBad)) ?_; simp only [Act.put, sA, sB, sC]; refine wpList_load_mid rfl 64 (.tmp 2) rfl w1.heap.size 0 rfl (cellsR rBad) _ (Blk.range B2) Try.underlying64 rfl (infoR (r := rBad)) ?_; simp only [Act.put, sA, sB, sC]; refine wpList_load_mid rfl 64 (.tmp 2) rfl w1.heap.size 0 rfl (cellsR rBad) _ (Blk.range B2) Try.underlying64 rfl (infoR (r := rBad)) ?_; simp only [Act.put, sA, sB, sC]; refine wpList_sliceN rfl 41 64 3 [(0, .tmp 148), (1, .tmp 149), (2, .tmp 150)] rfl (rowE [rBad, rBad, rBad]) i0 zeroR 22 [(0, .agg (cellsR rBad).toArray), (1, .agg (cellsR rBad).toArray), (2, .agg (cellsR rBad).toArray)] Try.underlying41 hi0 hz0 hz1 (by omega) (by omega) rfl fill_bbb ?_; simp only [Act.put, sA, sB, sC]; refine wpList_name ?_; intro Y1 HY1; have hbY1 : Below X1.heap.size X1 Y1 := by rw [HY1.out]; exact bA _ _
 have hrY1 : RowS cellsR Y1 (some ⟨X1.heap.size, 0, none⟩) 3 [rBad, rBad, rBad] := by rw [HY1.out]; exact rowE_rows _ _ _ rfl (by omega)
 have B2 := Blk.below B2 hbY1 B2.lt; have BS := Blk.below BS hbY1 BS.lt; refine wpList_load_mid rfl 64 (.tmp 2) rfl w1.heap.size 0 rfl (cellsR rBad) _ (Blk.range B2) Try.underlying64 rfl (infoR (r := rBad)) ?_; simp only [Act.put, sA, sB, sC]; refine wpList_load_mid rfl 64 (.tmp 2) rfl w1.heap.size 0 rfl (cellsR rBad) _ (Blk.range B2) Try.underlying64 rfl (infoR (r := rBad)) ?_; simp only [Act.put, sA, sB, sC]; refine wpList_sliceN rfl 41 64 2 [(0, .tmp 152), (1, .tmp 153)] rfl (rowE [rBad, rBad]) i0 zeroR 22 [(0, .agg (cellsR rBad).toArray), (1, .agg (cellsR rBad).toArray)] Try.underlying41 hi0 hz0 hz1 (by omega) (by omega) rfl fill_bb ?_; simp only [Act.put, sA, sB, sC]; refine wpList_name ?_; intro Y2 HY2; have hbY2 : Below Y1.heap.size Y1 Y2 := by rw [HY2.out]; exact bA _ _
 have hrY2 : RowS cellsR Y2 (some ⟨Y1.heap.size, 0, none⟩) 2 [rBad, rBad] := by rw [HY2.out]; exact rowE_rows _ _ _ rfl (by omega)
 have B2 := Blk.below B2 hbY2 B2.lt; have BS := Blk.below BS hbY2 BS.lt; refine wpList_load_mid rfl 64 (.tmp 2) rfl w1.heap.size 0 rfl (cellsR rBad) _ (Blk.range B2) Try.underlying64 rfl (infoR (r := rBad)) ?_; simp only [Act.put, sA, sB, sC]; refine wpList_load_mid rfl 64 (.tmp 2) rfl w1.heap.size 0 rfl (cellsR rBad) _ (Blk.range B2) Try.underlying64 rfl (infoR (r := rBad)) ?_; simp only [Act.put, sA, sB, sC]; refine wpList_buildTo rfl 64 [] rfl (cellsR rPass).toArray built_pass ?_; simp only [Act.put, sA, sB, sC]; refine wpList_sliceN rfl 41 64 3 [(0, .tmp 155), (1, .tmp 156), (2, .tmp 157)] rfl (rowE [rBad, rBad, rPass]) i0 zeroR 22 [(0, .agg (cellsR rBad).toArray), (1, .agg (cellsR rBad).toArray), (2, .agg (cellsR rPass).toArray)] Try.underlying41 hi0 hz0 hz1 (by omega) (by omega) rfl fill_bbp ?_; simp only [Act.put, sA, sB, sC]; refine wpList_name ?_; intro Y3 HY3; have hbY3 : Below Y2.heap.size Y2 Y3 := by rw [HY3.out]; exact bA _ _
 have hrY3 : RowS cellsR Y3 (some ⟨Y2.heap.size, 0, none⟩) 3 [rBad, rBad, rPass] := by rw [HY3.out]; exact rowE_rows _ _ _ rfl (by omega)
 have B2 := Blk.below B2 hbY3 B2.lt; have BS := Blk.below BS hbY3 BS.lt; refine wpList_load_mid rfl 64 (.tmp 18) rfl X0.heap.size 0 rfl (cellsR rStuck) _ (Blk.range BS) Try.underlying64 rfl (infoR (r := rStuck)) ?_; simp only [Act.put, sA, sB, sC]; refine wpList_load_mid rfl 64 (.tmp 18) rfl X0.heap.size 0 rfl (cellsR rStuck) _ (Blk.range BS) Try.underlying64 rfl (infoR (r := rStuck)) ?_; simp only [Act.put, sA, sB, sC]; refine wpList_load_mid rfl 64 (.tmp 18) rfl X0.heap.size 0 rfl (cellsR rStuck) _ (Blk.range BS) Try.underlying64 rfl (infoR (r := rStuck)) ?_; simp only [Act.put, sA, sB, sC]; refine wpList_load_mid rfl 64 (.tmp 18) rfl X0.heap.size 0 rfl (cellsR rStuck) _ (Blk.range BS) Try.underlying64 rfl (infoR (r := rStuck)) ?_; simp only [Act.put, sA, sB, sC]; refine wpList_sliceN rfl 41 64 4 [(0, .tmp 159), (1, .tmp 160), (2, .tmp 161), (3, .tmp 162)] rfl (rowE [rStuck, rStuck, rStuck, rStuck]) i0 zeroR 22 [(0, .agg (cellsR rStuck).toArray), (1, .agg (cellsR rStuck).toArray), (2, .agg (cellsR rStuck).toArray), (3, .agg (cellsR rStuck).toArray)] Try.underlying41 hi0 hz0 hz1 (by omega) (by omega) rfl fill_ssss ?_; simp only [Act.put, sA, sB, sC]; refine wpList_name ?_; intro Y4 HY4; have hbY4 : Below Y3.heap.size Y3 Y4 := by rw [HY4.out]; exact bA _ _
 have hrY4 : RowS cellsR Y4 (some ⟨Y3.heap.size, 0, none⟩) 4 [rStuck, rStuck, rStuck, rStuck] := by rw [HY4.out]; exact rowE_rows _ _ _ rfl (by omega)
 have B2 := Blk.below B2 hbY4 B2.lt; have BS := Blk.below BS hbY4 BS.lt; go_upto_region 18 with fail; refine wp_name ?_; intro Y5 HY5; have hbY5 : Below Y4.heap.size Y4 Y5 := by rw [HY5.out]; exact bA _ _
 have hts : RowS slC Y5 (some ⟨Y4.heap.size, 0, none⟩) 4 [⟨some ⟨X1.heap.size, 0, none⟩, 3, 3, [rBad, rBad, rBad]⟩, ⟨some ⟨Y1.heap.size, 0, none⟩, 2, 2, [rBad, rBad]⟩, ⟨some ⟨Y2.heap.size, 0, none⟩, 3, 3, [rBad, rBad, rPass]⟩, ⟨some ⟨Y3.heap.size, 0, none⟩, 4, 4, [rStuck, rStuck, rStuck, rStuck]⟩] := ⟨by rw [HY5.out]; exact Rd.fresh Y4 41 [.slice (some ⟨X1.heap.size, 0, none⟩) 3 3, .slice (some ⟨Y1.heap.size, 0, none⟩) 2 2, .slice (some ⟨Y2.heap.size, 0, none⟩) 3 3, .slice (some ⟨Y3.heap.size, 0, none⟩) 4 4], rfl, by omega⟩; have b45 := hbY5; have b35 := Below.tr hbY4 b45; have b25 := Below.tr hbY3 b35; have b15 := Below.tr hbY2 b25; have bX5 := Below.tr hbY1 b15; have r1 := hrY1.below b15; have r2 := hrY2.below b25; have r3 := hrY3.below b35; have r4 := hrY4.below b45; have hp := hp.below bX5; have h1 := h1.below bX5; have h2 := h2.below bX5; have h3 := h3.below bX5; have hbX := Below.tr hbX bX5; clear b45 b35 b25 b15 bX5 hrY1 hrY2 hrY3 hrY4 B2 BS HY1 HY2 HY3 HY4 HY5 hbY1 hbY2 hbY3 hbY4 hbY5; go_wp2_with fail; refine calls_name ?_; intro Z1 HZ1; have hbZ1 : Below Y5.heap.size Y5 Z1 := by rw [HZ1.out]; exact Below.tr (bA _ _) (bA _ _)
 have hri : RowS intC Z1 (some ⟨Y5.heap.size, 0, none⟩) 3 [0, 1, 2] := ⟨by rw [HZ1.out]; exact (Rd.fresh Y5 3 [.int .i64 0, .int .i64 1, .int .i64 2]).below (bA _ _), rfl, by omega⟩; have hrs : RowS strC Z1 (some ⟨Y5.heap.size + 1, 0, none⟩) 4 [tT0, tT0, tT0, tT1] := ⟨by rw [HZ1.out]; have h := Rd.fresh (Y5.alloc (.cells #[.int .i64 0, .int .i64 1, .int .i64 2] 3)) 9 [.string ⟨#[116, 48]⟩, .string ⟨#[116, 48]⟩, .string ⟨#[116, 48]⟩, .string ⟨#[116, 49]⟩]; rwa [show (Y5.alloc (.cells #[.int .i64 0, .int .i64 1, .int .i64 2] 3)).heap.size = Y5.heap.size + 1 by simp] at h, rfl, by omega⟩; clear HZ1; refine (part_n 1 100 _ (by omega) (by omega) (by omega)).mono ?_; rintro e Z2 ⟨v, rfl, hR, hbZ2⟩; obtain ⟨D1, m1, o1, D2, m2, o2, rfl⟩ := hR.1.shape; have ra := (hR.to (a := 1) (b := 100) (by decide) (by decide)).1; have b52 := Below.tr hbZ1 hbZ2; go_wp2_with fail; refine (build_ex _ _ _ _ _ _ _ _ _ _ _ _ _ _ _ _ _ _ (hp.below b52) (hri.below hbZ2) (hrs.below hbZ2) (hts.below b52) (r1.below b52) (r2.below b52) (r3.below b52) (r4.below b52) (h1.below b52) (h2.below b52) (h3.below b52) ra).mono ?_; rintro e Z3 ⟨Av, cv, rfl, hco, hbZ3⟩; have b53 := Below.tr b52 hbZ3; clear hR ra hri hrs hts r1 r2 r3 r4 hbZ1 hbZ2 b52 hbZ3; go_upto_region 19 with fail; go_wp2_with fail; refine (esc_ex _ _ _ (hp.below b53) (h1.below b53) (h2.below b53) (h3.below b53)).mono ?_; rintro e Z4 ⟨v, rfl, hR5, hbZ4⟩; obtain ⟨D1, m1, o1, D2, m2, o2, rfl⟩ := hR5.shape; go_upto_region 20 with fail; refine wp_name ?_
 intro Z5 HZ5; have hbZ5 : Below Z4.heap.size Z4 Z5 := by rw [HZ5.out]; exact bA _ _
 have BR : Box Z5 Z4.heap.size (.slice D1 m1 o1) (.slice D2 m2 o2) := by rw [HZ5.out]; exact Blk.new _ _ _
 have hR5 := hR5.below hbZ5; have hco := hco.below (Below.tr hbZ4 hbZ5); have hbe := Below.tr hbX (Below.tr b53 (Below.tr hbZ4 hbZ5)); clear hp h1 h2 h3 hbX b53 hbZ4 hbZ5 HZ5; refine region_invF (PhiV (.slice Av 4 cv) (.agg #[.slice D1 m1 o1, .slice D2 m2 o2])) (fun w w' => Below w.heap.size w w') (fun W => Below Z5.heap.size Z5 W) (by kernel_rfl) (by kernel_rfl) (by kernel_rfl) PhiV.keep (fun _ _ hR hS => Below.tr hS hR) (bD _) (fun vs => by simp only [fillR, Act.put, sA, sB, sC, Nat.zero_add, Nat.reduceAdd]; rfl) ?_ ?_
 ·refine sK ?_ (sK ?_ (sK ?_ (sK ?_ (sK ?_ (sK ?_ (sK ?_ (sK ?_ (sK ?_ (sK ?_ (sK ?_ (sK ?_ (sK ?_ (sK ?_ (sK ?_ (sK ?_ (sK ?_ (sZ)))))))))))))))))
  ·as_aux_lemma =>
   intro vs W hS hdep K hK; refine ⟨?_⟩; simp only [Act.put, sA, sB, sC, Nat.zero_add, Nat.reduceAdd] at hK ⊢; go_simp; with_reducible refine hK _ _ (Below.refl _ _) ?_
   exact rfl
  ·as_aux_lemma =>
   intro vs W hS hdep K hK; have d0 := hdep ⟨0, .data⟩ (by simp) rfl; simp only [PhiV] at d0; refine ⟨?_⟩; simp only [Act.put, sA, sB, sC, Nat.zero_add, Nat.reduceAdd, d0] at hK ⊢; go_simp; with_reducible refine hK _ _ (Below.refl _ _) ?_
   exact rfl
  ·as_aux_lemma =>
   intro vs W hS hdep K hK; have d0 := hdep ⟨1, .data⟩ (by simp) rfl; simp only [PhiV] at d0; refine ⟨?_⟩; simp only [Act.put, sA, sB, sC, Nat.zero_add, Nat.reduceAdd, d0] at hK ⊢; go_simp; with_reducible refine hK _ _ (Below.refl _ _) ?_
   exact rfl
  ·as_aux_lemma =>
   intro vs W hS hdep K hK; have d0 := hdep ⟨2, .guard⟩ (by simp) rfl; simp only [PhiV] at d0; refine ⟨?_⟩; simp only [Act.put, sA, sB, sC, Nat.zero_add, Nat.reduceAdd, d0] at hK ⊢; go_simp; with_reducible refine hK _ _ (Below.refl _ _) ?_
   exact rfl
  ·as_aux_lemma =>
   intro vs W hS hdep K hK; have d0 := hdep ⟨3, .data⟩ (by simp) rfl; simp only [PhiV] at d0; have d1 := hdep ⟨2, .guard⟩ (by simp) rfl; simp only [PhiV] at d1; refine ⟨?_⟩; simp only [Act.put, sA, sB, sC, Nat.zero_add, Nat.reduceAdd, d0, d1] at hK ⊢; go_simp; with_reducible refine hK _ _ (Below.refl _ _) ?_
   exact rfl
  ·as_aux_lemma =>
   intro vs W hS hdep K hK; have d0 := hdep ⟨2, .data⟩ (by simp) rfl; simp only [PhiV] at d0; have d1 := hdep ⟨4, .data⟩ (by simp) rfl; simp only [PhiV] at d1; refine ⟨?_⟩; simp only [Act.put, sA, sB, sC, Nat.zero_add, Nat.reduceAdd, d0, d1] at hK ⊢; go_simp; with_reducible refine hK _ _ (Below.refl _ _) ?_
   exact rfl
  ·as_aux_lemma =>
   intro vs W hS hdep K hK; have d0 := hdep ⟨5, .data⟩ (by simp) rfl; simp only [PhiV] at d0; have d1 := hdep ⟨2, .chain⟩ (by simp) rfl; simp only [PhiV] at d1; refine ⟨?_⟩; simp only [Act.put, sA, sB, sC, Nat.zero_add, Nat.reduceAdd, d0, d1] at hK ⊢; go_simp; with_reducible refine hK _ _ (Below.refl _ _) ?_
   exact rfl
  ·as_aux_lemma =>
   intro vs W hS hdep K hK; have d0 := hdep ⟨6, .guard⟩ (by simp) rfl; simp only [PhiV] at d0; refine ⟨?_⟩; simp only [Act.put, sA, sB, sC, Nat.zero_add, Nat.reduceAdd, d0] at hK ⊢; go_simp; with_reducible refine hK _ _ (Below.refl _ _) ?_
   exact rfl
  ·as_aux_lemma =>
   intro vs W hS hdep K hK; have d0 := hdep ⟨6, .guard⟩ (by simp) rfl; simp only [PhiV] at d0; refine ⟨?_⟩; simp only [Act.put, sA, sB, sC, Nat.zero_add, Nat.reduceAdd, d0] at hK ⊢; go_simp; with_reducible refine hK _ _ (bA _ _) ?_
   exact ⟨_, _, rfl, Rd.fresh W 3 [.int .i64 2, .int .i64 1, .int .i64 0, .int .i64 1], rfl, by omega⟩
  ·as_aux_lemma =>
   intro vs W hS hdep K hK; have d0 := hdep ⟨7, .data⟩ (by simp) rfl; simp only [PhiV] at d0; have d1 := hdep ⟨8, .data⟩ (by simp) rfl; simp only [PhiV] at d1; refine @exE2 _ _ _ _ d1 ?_; clear d1; intro A1 c1 d1; have e1 := d1.1; have n1 := d1.2; clear d1; have d2 := hdep ⟨6, .chain⟩ (by simp) rfl; simp only [PhiV] at d2; refine ⟨?_⟩; simp only [Act.put, sA, sB, sC, Nat.zero_add, Nat.reduceAdd, d0, e1, d2] at hK ⊢; go_simp; refine (ints_n _ _ _ _ _ _ _ _ _ (hco.below hS) n1).mono ?_; rintro e w' ⟨rfl, hb⟩; go_wp2_with fail; with_reducible refine hK _ _ hb ?_
   exact rfl
  ·as_aux_lemma =>
   intro vs W hS hdep K hK; have d0 := hdep ⟨6, .data⟩ (by simp) rfl; simp only [PhiV] at d0; have d1 := hdep ⟨9, .data⟩ (by simp) rfl; simp only [PhiV] at d1; refine ⟨?_⟩; simp only [Act.put, sA, sB, sC, Nat.zero_add, Nat.reduceAdd, d0, d1] at hK ⊢; go_simp; with_reducible refine hK _ _ (Below.refl _ _) ?_
   exact rfl
  ·as_aux_lemma =>
   intro vs W hS hdep K hK; have d0 := hdep ⟨10, .data⟩ (by simp) rfl; simp only [PhiV] at d0; have d1 := hdep ⟨9, .chain⟩ (by simp) rfl; simp only [PhiV] at d1; refine ⟨?_⟩; simp only [Act.put, sA, sB, sC, Nat.zero_add, Nat.reduceAdd, d0, d1] at hK ⊢; go_simp; with_reducible refine hK _ _ (Below.refl _ _) ?_
   exact rfl
  ·as_aux_lemma =>
   intro vs W hS hdep K hK; have d0 := hdep ⟨11, .guard⟩ (by simp) rfl; simp only [PhiV] at d0; have f1 := (BR.below hS).facts.1; have f2 := (BR.below hS).facts.2; refine ⟨?_⟩; simp only [Act.put, sA, sB, sC, Nat.zero_add, Nat.reduceAdd, d0] at hK ⊢; go_simp; with_reducible refine hK _ _ (Below.refl _ _) ?_
   exact rfl
  ·as_aux_lemma =>
   intro vs W hS hdep K hK; have d0 := hdep ⟨11, .chain⟩ (by simp) rfl; simp only [PhiV] at d0; refine ⟨?_⟩; simp only [Act.put, sA, sB, sC, Nat.zero_add, Nat.reduceAdd, d0] at hK ⊢; go_simp; refine (part_n 5 2 _ (by omega) (by omega) (by omega)).mono ?_; rintro e w' ⟨v, rfl, hn, hb⟩; go_wp2_with fail; with_reducible refine hK _ _ hb ?_
   exact (by obtain ⟨B1, l1, u1, B2, l2, u2, rfl⟩ := hn.1.shape; exact ⟨_, _, _, _, _, _, rfl, (hn.to (by decide) (by decide)).1⟩)
  ·as_aux_lemma =>
   intro vs W hS hdep K hK; have d0 := hdep ⟨12, .data⟩ (by simp) rfl; simp only [PhiV] at d0; have d1 := hdep ⟨13, .data⟩ (by simp) rfl; simp only [PhiV] at d1; obtain ⟨A, k, c, A', k', c', e13, n13⟩ := d1; have d2 := hdep ⟨11, .guard⟩ (by simp) rfl; simp only [PhiV] at d2; refine ⟨?_⟩; simp only [Act.put, sA, sB, sC, Nat.zero_add, Nat.reduceAdd, d0, d2, e13] at hK ⊢; go_simp; refine (same_any _ _ _ _ _ _ _ (hR5.below hS).rtl n13.rtl).mono ?_; rintro e w' ⟨b, rfl, HB, hb⟩; obtain rfl : b = true := by rw [HB.out]; unfold sameR sameB; simp
   go_wp2_with fail; with_reducible refine hK _ _ hb ?_
   exact rfl
  ·as_aux_lemma =>
   intro vs W hS hdep K hK; have d0 := hdep ⟨11, .data⟩ (by simp) rfl; simp only [PhiV] at d0; have d1 := hdep ⟨14, .data⟩ (by simp) rfl; simp only [PhiV] at d1; refine ⟨?_⟩; simp only [Act.put, sA, sB, sC, Nat.zero_add, Nat.reduceAdd, d0, d1] at hK ⊢; go_simp; with_reducible refine hK _ _ (Below.refl _ _) ?_
   exact rfl
  ·as_aux_lemma =>
   intro vs W hS hdep K hK; have d0 := hdep ⟨15, .data⟩ (by simp) rfl; simp only [PhiV] at d0; have d1 := hdep ⟨14, .chain⟩ (by simp) rfl; simp only [PhiV] at d1; refine ⟨?_⟩; simp only [Act.put, sA, sB, sC, Nat.zero_add, Nat.reduceAdd, d0, d1] at hK ⊢; go_simp; with_reducible refine hK _ _ (Below.refl _ _) ?_
   exact rfl
 ·intro vs W20 hS hv; have v16 := hv 16 (by simp); simp only [PhiV] at v16; clear hv hR5 hco BR; simp only [fillR, Act.put, sA, sB, sC, Nat.zero_add, Nat.reduceAdd, v16]; go_wp2_with fail; go_ret; exact ⟨rfl, Below.tr hbe hS⟩
end Go.Proofs.Yticobffjnjbjiaa
