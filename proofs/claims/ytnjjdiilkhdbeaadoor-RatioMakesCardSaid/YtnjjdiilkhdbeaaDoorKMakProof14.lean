import Derived.Test.YtnjjdiilkhdbeaaDoorKMakProof13
import Derived.Deep.MidRow
import Derived.Deep.LoopGhost
import Derived.Deep.QuietTactic
import Derived.BigQuiet
import Derived.Great.BuildSlice
import Derived.Laws.EntriesVeiled
import Derived.Test.YtnjjdiilkhdbeaaDoorKMakProof12
import Derived.Test.YtnjjdiilkhdbeaaDoorKMakProof04
import Derived.Test.YtnjjdiilkhdbeaaDoorKMakProof11
import Derived.Test.YtnjjdiilkhdbeaaDoorS0
set_option linter.unusedVariables false
set_option linter.unusedSimpArgs false
namespace Go.Proofs.YtnjjdiilkhdbeaaDoor
open Go Go.RowKit
variable {P : Program}
theorem flat_get {α : Type} {f : α → List Value} {m : Nat} (hf : ∀ x, (f x).length = m) : ∀ (l : List α) (i j : Nat) (h : i < l.length) (v : Value), (f l[i])[j]? = some v → (l.flatMap f)[i * m + j]? = some v
 | [], _, _, h, _, _ => by simp at h
 | x :: l, 0, j, _, v, hv => by
  have hj : j < (f x).length := by
   rcases Nat.lt_or_ge j (f x).length with h | h
   ·exact h
   ·simp [List.getElem?_eq_none h] at hv
  rw [List.flatMap_cons, Nat.zero_mul, Nat.zero_add, List.getElem?_append_left hj]
  simpa using hv
 | x :: l, i + 1, j, h, v, hv => by
  have := flat_get hf l i j (by simpa using h) v (by simpa using hv); rw [List.flatMap_cons, List.getElem?_append_right (by rw [hf x, Nat.add_mul]; omega), hf x]; rw [show (i + 1) * m + j - m = i * m + j by rw [Nat.add_mul]; omega]; exact this
theorem flat_len {α : Type} {f : α → List Value} {m : Nat} (hf : ∀ x, (f x).length = m) (l : List α) : (l.flatMap f).length = l.length * m := by
 induction l with
 | nil => simp
 | cons x l ih => rw [List.flatMap_cons, List.length_append, hf, ih, List.length_cons, Nat.add_mul]; omega
/-- a slice of structs of m cells -/
def RowS {α : Type} (f : α → List Value) (w : World) (A : Option Addr) (k : Nat) (l : List α) : Prop := Rd w A (l.flatMap f) ∧ k = l.length ∧ k ≤ 281474976710656
theorem RowS.below {α : Type} {f : α → List Value} {w w' : World} {A : Option Addr} {k : Nat} {l : List α} (h : RowS f w A k l) (hb : Below w.heap.size w w') : RowS f w' A k l := ⟨h.1.below hb, h.2⟩
theorem RowS.at_ {α : Type} {f : α → List Value} {m : Nat} (hf : ∀ x, (f x).length = m) (hm : 0 < m) {w : World} {A : Option Addr} {k : Nat} {l : List α} (h : RowS f w A k l) {i : Nat} (hi : i < k) (hil : i < l.length) :
  ∃ b off, A = some ⟨b, off, none⟩ ∧ Hid (∀ j v, (f l[i])[j]? = some v → w.cell? ⟨b, off + i * m + j, none⟩ = some v) := by
 have hne : l.flatMap f ≠ [] := by
  intro e; have := flat_len hf l; rw [e] at this; have h2 : 0 < l.length * m := Nat.mul_pos (by omega) hm; simp at this; omega
 obtain ⟨b, off, hA, hc⟩ := h.1 hne; refine ⟨b, off, hA, fun j v hv => ?_⟩; have h1 := flat_get hf l i j hil v hv; obtain ⟨h2, h3⟩ := List.getElem?_eq_some_iff.1 h1; have := hc _ h2; rw [h3, ← Nat.add_assoc] at this; exact this
theorem cell_keep {w w' : World} (hb : Below w.heap.size w w') {a : Addr} {v : Value} (h : w.cell? a = some v) : w'.cell? a = some v := by rw [hb.cell (cell_lt h)]; exact h
def intC (n : Int) : List Value := [.int .i64 n]
theorem intC_len (n : Int) : (intC n).length = 1 := rfl
/-- one number of a slice of numbers -/
theorem RowS.int {w : World} {A : Option Addr} {k : Nat} {l : List Int} (h : RowS intC w A k l) {i : Nat} (hi : i < k) : ∃ b off, ∃ n : Int, A = some ⟨b, off, none⟩ ∧ w.cell? ⟨b, off + i, none⟩ = some (.int .i64 n) ∧ Hid (l[i]? = some n) := by
 have hil : i < l.length := by have := h.2.1; omega
 obtain ⟨b, off, hA, hc⟩ := h.at_ intC_len (by omega) hi hil; refine ⟨b, off, l[i], hA, ?_, List.getElem?_eq_getElem hil⟩; have := hc.out 0 _ rfl
 rwa [Nat.mul_one, Nat.add_zero] at this
theorem Blk.range {w : World} {g : Nat} {t : TypeId} {cs : List Value} (h : Blk w g t cs.toArray) : w.rangeAt g 0 cs := by
 intro j v hv; rw [Nat.zero_add, h.cell]
 simpa using hv
theorem Blk.grown {w w' : World} {g : Nat} {T : TypeId} {z : Array Value} {row : Option Nat} (h : Blk w g T z) (k : w.grownBy w' row) (hne : ∀ j, row = some j → g ≠ j) : Blk w' g T z :=
 (k.block g h.lt (fun e => hne g e.symm rfl)).trans h
theorem wp_name {c : Code} {Q : Exit → Act → World → Prop} {a : Act} {w : World} (h : ∀ W, Hid (W = w) → c.wp P Q a W) : c.wp P Q a w := h w rfl
theorem wpList_sliceN {ops : Array Oper} {rest : List Oper} {o : Oper} {a : Act} {w : World} {Q : Exit → Act → World → Prop} (hg : o.guard = none) (t e : TypeId) (len : Nat) (pl : List (Nat × Operand)) (ho : o.op = .buildSlice t len pl.toArray)
  (cells : Array Value) (ie : TypeInfo) (z : Value) (n : Nat) (vals : List (Nat × Value))
  (hu : P.underlying t = some (.slice e)) (hie : P.info? e = some ie) (hz : ie.zero = some z) (hn : ie.size = n) (hsmall : ¬ len * n > 2 ^ 24) (hpos : ¬ len * n = 0) (hv : (pl.map fun (i, x) => (i, a.eval x)) = vals)
  (hf : Instr.fill (fun i => some (i * n, n)) ((Array.range (len * n)).map (z.cells[· % z.cells.size]!)) vals = some cells)
  (h : wpList P ops Q rest (a.put o.dst (.slice (some ⟨w.heap.size, 0, none⟩) len len)) (w.alloc (.cells cells e))) : wpList P ops Q (o :: rest) a w := by
 subst hn; exact wpList_buildSlice hg t e len _ ho cells ie z hu hie hz hsmall hpos (by rw [← hv] at hf; simpa using hf) h
theorem wp_sliceN {o : Oper} {a : Act} {w : World} {K : Act → World → Prop} {Q : Exit → Act → World → Prop} (t e : TypeId) (len : Nat) (pl : List (Nat × Operand)) (ho : o.op = .buildSlice t len pl.toArray)
  (cells : Array Value) (ie : TypeInfo) (z : Value) (n : Nat) (vals : List (Nat × Value))
  (hu : P.underlying t = some (.slice e)) (hie : P.info? e = some ie) (hz : ie.zero = some z) (hn : ie.size = n) (hsmall : ¬ len * n > 2 ^ 24) (hpos : ¬ len * n = 0) (hv : (pl.map fun (i, x) => (i, a.eval x)) = vals)
  (hf : Instr.fill (fun i => some (i * n, n)) ((Array.range (len * n)).map (z.cells[· % z.cells.size]!)) vals = some cells)
  (h : K (a.put o.dst (.slice (some ⟨w.heap.size, 0, none⟩) len len)) (w.alloc (.cells cells e))) : o.wp P a w K Q := by
 subst hn; exact wp_buildSlice t e len _ ho cells ie z hu hie hz hsmall hpos (by rw [← hv] at hf; simpa using hf) h
/-- no limb is here -/
def NoU (arr : Array Value) : Prop := ∀ (i : Nat) (n : Int), arr[i]? ≠ some (.int .u32 n)
theorem Lim.setB {w : World} {A : Option Addr} {c g i : Nat} {T : TypeId} {arr : Array Value} {l : List Nat} (h : Lim w A c l) (hb : Blk w g T arr) (hn : NoU arr) (u : Value) : Lim (w.setCell ⟨g, i, none⟩ u) A c l := by
 by_cases hl : l = []
 ·subst hl; exact ⟨fun hx => absurd rfl hx, h.2⟩
 ·refine h.only (only_set w i u) (fun b off hA e => ?_); have h0 : 0 < l.length := List.length_pos_iff.2 hl; obtain ⟨b', off', hA', hc⟩ := h.at_ h0; rw [hA'] at hA; injection hA with hA; injection hA with e1 e2; have h1 := hc 0 h0; rw [e1, e, hb.cell] at h1; exact hn _ _ h1
theorem Rat.setB {w : World} {v : Value} {p q g i : Nat} {T : TypeId} {arr : Array Value} (h : Rat w v p q) (hb : Blk w g T arr) (hn : NoU arr) (u : Value) : Rat (w.setCell ⟨g, i, none⟩ u) v p q := by
 obtain ⟨A1, k1, c1, A2, k2, c2, rfl, h1, h2⟩ := h; exact ⟨A1, k1, c1, A2, k2, c2, rfl, ⟨h1.1, h1.2.setB hb hn u⟩, ⟨h2.1, h2.2.setB hb hn u⟩⟩
theorem NoU.set {arr : Array Value} (h : NoU arr) {i : Nat} {u : Value} (hu : ∀ n, u ≠ .int .u32 n) : NoU (arr.setIfInBounds i u) := by
 intro j n e; by_cases hj : i = j
 ·subst hj; rw [Array.getElem?_setIfInBounds_self] at e
  split at e
  ·injection e with e; exact hu n e
  ·cases e
 ·rw [Array.getElem?_setIfInBounds_ne hj] at e; exact h j n e
/-- all cells of the slice's own block are so -/
def OwnAll (Pr : Value → Prop) (w : World) (v : Value) : Prop := ∀ g, v.ownBlock = some g → ∀ i x, w.cell? ⟨g, i, none⟩ = some x → Pr x
theorem OwnAll.nil {Pr : Value → Prop} {w : World} {k c : Nat} : OwnAll Pr w (.slice none k c) := fun _ h => by cases h
theorem OwnAll.below {Pr : Value → Prop} {w w' : World} {v : Value} (h : OwnAll Pr w v) (hb : Below w.heap.size w w') (hv : ∀ g, v.ownBlock = some g → g < w.heap.size) : OwnAll Pr w' v := by
 intro g hg i x hx; refine h g hg i x ?_; rw [← World.cell?_of_block (w := w) (w' := w') (a := ⟨g, i, none⟩) (hb.block g (hv g hg))]; exact hx
/-- no limb -/
def NoL (v : Value) : Prop := ∀ n, v ≠ .int .u32 n
theorem Lim.grownBy {w w' : World} {A : Option Addr} {c : Nat} {l : List Nat} {a : Value} (h : Lim w A c l) (k : w.grownBy w' a.ownBlock) (hO : OwnAll NoL w a) : Lim w' A c l := by
 refine ⟨fun hx => ?_, h.2⟩; obtain ⟨b, off, rfl, hc⟩ := h.1 hx; have hl : 0 < (u32s l).length := List.length_pos_iff.2 hx; refine ⟨b, off, rfl, fun i hi => ?_⟩; refine World.grownBy.cell k (hc i hi) fun e => ?_
 have h0 := hc 0 hl; have := hO b e.symm _ _ h0; have h2 : (u32s l)[0] ∈ u32s l := List.getElem_mem hl; unfold u32s at h2; obtain ⟨n, _, hn⟩ := List.mem_map.1 h2; exact this n hn.symm
theorem Rat.grownBy {w w' : World} {v a : Value} {p q : Nat} (h : Rat w v p q) (k : w.grownBy w' a.ownBlock) (hO : OwnAll NoL w a) : Rat w' v p q := by
 obtain ⟨A1, k1, c1, A2, k2, c2, rfl, h1, h2⟩ := h; exact ⟨A1, k1, c1, A2, k2, c2, rfl, ⟨h1.1, h1.2.grownBy k hO⟩, ⟨h2.1, h2.2.grownBy k hO⟩⟩
theorem g01 : Nm.Good 0 1 := ⟨by omega, rfl, fits_small (b64 (by omega)) (b64 (by omega))⟩
end Go.Proofs.YtnjjdiilkhdbeaaDoor
namespace Go.Proofs.YtnjjdiilkhdbeaaDoor
open Go Go.RowKit
theorem lb_pos {x : Nat} (h : (Nm.lb x).length ≠ 0) : 0 < x := by
 rcases Nat.eq_zero_or_pos x with rfl | h0
 ·exact absurd (by rw [Nm.lb_zero]; rfl) h
 ·exact h0
theorem rat_keep {w : World} {g : Nat} {A A' : Option Addr} {k c k' c' p q : Nat} (hres : Res w g) (h : Rat w (.agg #[.slice A k c, .slice A' k' c']) p q) :
  Rat ((w.setCell ⟨g, 0, none⟩ (.slice A k c)).setCell ⟨g, 1, none⟩ (.slice A' k' c')) (.agg #[.slice A k c, .slice A' k' c']) p q := h.map (hres.sl.keep2 A A' k c k' c')
theorem RedP.good0 {w : World} {v : Value} {n d : Nat} (h : RedP w v 0 n d) (hd : 0 < d) : ∃ p q, Rat w v p q ∧ Nm.Good p q := by
 rcases h with ⟨hf, _, hr⟩ | ⟨_, h, _⟩
 ·exact ⟨_, _, hr, good_red hd hf⟩
 ·cases h
set_option maxRecDepth 10000 in
set_option maxHeartbeats 2000000 in
theorem large_n (n d : Int) (w : World) (h1 : isI64 n) (h2 : isI64 d) :
  Calls Tryd.prog 37 #[.int .i64 n, .int .i64 d] w fun e w' => ∃ v p q, e = .returned v ∧ Rat w' v p q ∧ Nm.Good p q ∧ Below w.heap.size w w' := by
 have hn := Lib.hid h1; have hd := Lib.hid h2; clear h1 h2
 go_enter Tryd.func37, Tryd.ntmps37
 go_wp2_with fail; refine (around_n d 1073741824 _ hd.out.1 hd.out.2 (by omega) (by omega)).mono ?_; rintro e w' ⟨j, rfl, hj, _, rfl⟩; go_wp2_with fail; refine (many_n j _ hj).mono ?_; rintro e w1 ⟨A2, k2, c2, x2, rfl, hx2, hk2, hb1⟩; have hres := Res.below (Res.new w) hb1; have hbw := Below.tr (bA w _) hb1; clear hb1; by_cases hk : k2 = 0
 ·have t1 : decide ((k2 : Int) = 0) = true := by simp; omega
  subst hk; go_upto_region 4 with fail; refine wp_name ?_; intro wy HW; have hby : Below w1.heap.size w1 wy := by rw [HW.out]; exact bA _ _
  have hx2 : Nb wy (some ⟨w1.heap.size, 0, none⟩) 1 1 1 := by rw [HW.out]; exact Nb.digit w1 _ 1 rfl (by omega) (by omega)
  replace hres := hres.below hby
  replace hbw := Below.tr hbw hby
  clear HW hby; go_wp2_with fail; refine (around_n n 1073741824 _ hn.out.1 hn.out.2 (by omega) (by omega)).mono ?_; rintro e w' ⟨i, rfl, hi, _, rfl⟩; go_wp2_with fail; refine (many_n i _ hi).mono ?_; rintro e w2 ⟨A1, k1, c1, x1, rfl, hx1, hk1, hb2⟩
  replace hx2 := hx2.below hb2
  replace hres := hres.below hb2
  replace hbw := Below.tr hbw hb2
  clear hb2; go_wp2_with fail; refine (rreduced_n _ _ _ _ _ _ x1 1 _ hx1 hx2 (by omega) (by omega) (by omega)).mono ?_; rintro e w3 ⟨v, er, rfl, hR, hb3⟩
  replace hres := hres.below hb3
  replace hbw := Below.tr hbw hb3
  clear hb3; obtain ⟨B1, m1, e1, B2, m2, e2, rfl⟩ := hR.shape; have he : er = 0 ∨ er = 4 := by rcases hR with ⟨_, h, _⟩ | ⟨_, h, _⟩ <;> omega
  have HR := Lib.hid hR; clear hR; go_upto_region 5 with fail; refine wp_name ?_; intro w4 HW; have hb4 : Below w3.heap.size w3 w4 := by rw [HW.out]; exact bA _ _
  have hB : Blk w4 w3.heap.size 28 #[.slice B1 m1 e1, .slice B2 m2 e2] := by rw [HW.out]; exact Blk.new _ _ _
  replace hres := hres.below hb4
  replace hbw := Below.tr hbw hb4
  rcases he with rfl | rfl
  ·obtain ⟨p, q, hr, hg⟩ := HR.out.good0 (by omega)
   replace hr := hr.below hb4
   have b0 := hB.cell 0; have b1 := hB.cell 1; simp only [List.getElem?_toArray, List.getElem?_cons_zero, List.getElem?_cons_succ] at b0 b1; obtain ⟨r1, r2, r3, r4⟩ := hres.facts; obtain ⟨s1, s2⟩ := hres.set2 (.slice B1 m1 e1) (.slice B2 m2 e2); have hfin := rat_keep hres hr; clear HW HR hB hb4 hx1 hx2 hr; go_wp2_with fail; exact bodyPost_ret (v := .agg #[.slice B1 m1 e1, .slice B2 m2 e2]) (by simp [results, Tryd.results37, go_sem, s1, s2]) rfl ⟨_, _, _, rfl, hfin, hg, below_set2 hbw (Nat.le_refl _) _ _⟩
  ·clear HW HR hB hb4 hx1 hx2; go_wp2_with fail; refine (rmade_n n d _ hn.out.1 hn.out.2 hd.out.1 hd.out.2).mono ?_; rintro e w5 ⟨v, p, q, rfl, hr, hg, hb5⟩; obtain ⟨C1, n1, f1, C2, n2, f2, rfl⟩ := hr.shape
   replace hres := hres.below hb5
   replace hbw := Below.tr hbw hb5
   clear hb5; obtain ⟨r1, r2, r3, r4⟩ := hres.facts; obtain ⟨s1, s2⟩ := hres.set2 (.slice C1 n1 f1) (.slice C2 n2 f2); have hfin := rat_keep hres hr; clear hr; go_wp2_with fail; exact bodyPost_ret (v := .agg #[.slice C1 n1 f1, .slice C2 n2 f2]) (by simp [results, Tryd.results37, go_sem, s1, s2]) rfl ⟨_, _, _, rfl, hfin, hg, below_set2 hbw (Nat.le_refl _) _ _⟩
 ·have t1 : decide ((k2 : Int) = 0) = false := by simp; omega
  have hp : 0 < x2 := lb_pos (by have := hx2.1; omega); go_upto_region 4 with fail; go_wp2_with fail; refine (around_n n 1073741824 _ hn.out.1 hn.out.2 (by omega) (by omega)).mono ?_; rintro e w' ⟨i, rfl, hi, _, rfl⟩; go_wp2_with fail; refine (many_n i _ hi).mono ?_; rintro e w2 ⟨A1, k1, c1, x1, rfl, hx1, hk1, hb2⟩
  replace hx2 := hx2.below hb2
  replace hres := hres.below hb2
  replace hbw := Below.tr hbw hb2
  clear hb2; go_wp2_with fail; refine (rreduced_n _ _ _ _ _ _ x1 x2 _ hx1 hx2 (by omega) (by omega) hp).mono ?_; rintro e w3 ⟨v, er, rfl, hR, hb3⟩
  replace hres := hres.below hb3
  replace hbw := Below.tr hbw hb3
  clear hb3; obtain ⟨B1, m1, e1, B2, m2, e2, rfl⟩ := hR.shape; have he : er = 0 ∨ er = 4 := by rcases hR with ⟨_, h, _⟩ | ⟨_, h, _⟩ <;> omega
  have HR := Lib.hid hR; clear hR; go_upto_region 5 with fail; refine wp_name ?_; intro w4 HW; have hb4 : Below w3.heap.size w3 w4 := by rw [HW.out]; exact bA _ _
  have hB : Blk w4 w3.heap.size 28 #[.slice B1 m1 e1, .slice B2 m2 e2] := by rw [HW.out]; exact Blk.new _ _ _
  replace hres := hres.below hb4
  replace hbw := Below.tr hbw hb4
  rcases he with rfl | rfl
  ·obtain ⟨p, q, hr, hg⟩ := HR.out.good0 hp
   replace hr := hr.below hb4
   have b0 := hB.cell 0; have b1 := hB.cell 1; simp only [List.getElem?_toArray, List.getElem?_cons_zero, List.getElem?_cons_succ] at b0 b1; obtain ⟨r1, r2, r3, r4⟩ := hres.facts; obtain ⟨s1, s2⟩ := hres.set2 (.slice B1 m1 e1) (.slice B2 m2 e2); have hfin := rat_keep hres hr; clear HW HR hB hb4 hx1 hx2 hr; go_wp2_with fail; exact bodyPost_ret (v := .agg #[.slice B1 m1 e1, .slice B2 m2 e2]) (by simp [results, Tryd.results37, go_sem, s1, s2]) rfl ⟨_, _, _, rfl, hfin, hg, below_set2 hbw (Nat.le_refl _) _ _⟩
  ·clear HW HR hB hb4 hx1 hx2; go_wp2_with fail; refine (rmade_n n d _ hn.out.1 hn.out.2 hd.out.1 hd.out.2).mono ?_; rintro e w5 ⟨v, p, q, rfl, hr, hg, hb5⟩; obtain ⟨C1, n1, f1, C2, n2, f2, rfl⟩ := hr.shape
   replace hres := hres.below hb5
   replace hbw := Below.tr hbw hb5
   clear hb5; obtain ⟨r1, r2, r3, r4⟩ := hres.facts; obtain ⟨s1, s2⟩ := hres.set2 (.slice C1 n1 f1) (.slice C2 n2 f2); have hfin := rat_keep hres hr; clear hr; go_wp2_with fail; exact bodyPost_ret (v := .agg #[.slice C1 n1 f1, .slice C2 n2 f2]) (by simp [results, Tryd.results37, go_sem, s1, s2]) rfl ⟨_, _, _, rfl, hfin, hg, below_set2 hbw (Nat.le_refl _) _ _⟩
end Go.Proofs.YtnjjdiilkhdbeaaDoor
namespace Go.Proofs.YtnjjdiilkhdbeaaDoor
open Go.RowKit
/-- two rows of limbs are those of a valid ratio -/
def GoodL (l1 l2 : List Nat) (p q : Nat) : Prop := l1 = Nm.lb p ∧ l2 = Nm.lb (Nm.dn q) ∧ Nm.Good p q
theorem RtL.good {w : World} {v : Value} {l1 l2 : List Nat} (h : RtL w v l1 l2) (hv : Nm.validE l1 l2 = 0) : ∃ p q, GoodL l1 l2 p q ∧ Rat w v p q := by
 obtain ⟨A1, k1, c1, A2, k2, c2, rfl, h1, h2, h3, h4⟩ := h; obtain ⟨p, q, e1, e2, hg⟩ := Nm.validE_spec h1.2.2.2.1 h2.2.2.2.1 hv; subst e1 e2; exact ⟨p, q, ⟨rfl, rfl, hg⟩, _, _, _, _, _, _, rfl, ⟨h3, h1⟩, ⟨h4, h2⟩⟩
theorem firstE_zero {a b : Int} : firstE a b = 0 ↔ a = 0 ∧ b = 0 := by
 unfold firstE; split <;> simp_all
end Go.Proofs.YtnjjdiilkhdbeaaDoor
namespace Go.Proofs.YtnjjdiilkhdbeaaDoor.Nm
theorem nv_take_any (l : List Nat) (k : Nat) : nv (l.take (k + 1)) = nv (l.take k) + B ^ k * l.getD k 0 := by
 rcases Nat.lt_or_ge k l.length with h | h
 ·exact nv_take_succ h
 ·rw [List.take_of_length_le (by omega), List.take_of_length_le h, show l.getD k 0 = 0 by simp [List.getD, List.getElem?_eq_none h]]; omega
/-- a sum, i limbs of it done -/
def PlQ (x y out : List Nat) (n i cy : Nat) : Prop := out.length = n ∧ nv out + B ^ i * cy = nv (x.take i) + nv (y.take i) ∧ ∀ j, i ≤ j → out.getD j 0 = 0
theorem set_zeros {out : List Nat} {i u : Nat} (h : ∀ j, i ≤ j → out.getD j 0 = 0) : ∀ j, i + 1 ≤ j → (out.set i u).getD j 0 = 0 := fun j hj => by
 rw [getD_set_ne (by omega)]; exact h j (by omega)
theorem PlQ.start {x y : List Nat} {n : Nat} : PlQ x y (List.replicate n 0) n 0 0 := ⟨by simp, by simp [nv_replicate, nv], fun j _ => getD_replicate _ _⟩
theorem PlQ.step {x y out : List Nat} {n i cy a b u c1 : Nat} (h : PlQ x y out n i cy) (hi : i < n) (ha : a = x.getD i 0) (hb : b = y.getD i 0) (hu : u + B * c1 = a + b + cy) : PlQ x y (out.set i u) n (i + 1) c1 := by
 obtain ⟨h1, h2, h3⟩ := h; refine ⟨by simp [h1], ?_, set_zeros h3⟩; have e := nv_set (l := out) (j := i) (by omega) u; rw [h3 i (Nat.le_refl _), Nat.mul_zero, Nat.add_zero] at e; rw [e, nv_take_any, nv_take_any, ← ha, ← hb, Nat.pow_succ]; have : B ^ i * (u + B * c1) = B ^ i * (a + b + cy) := by rw [hu]
 rw [Nat.mul_add, Nat.mul_add, Nat.mul_add, ← Nat.mul_assoc] at this; omega
theorem PlQ.last {x y out : List Nat} {m cy : Nat} (h : PlQ x y out (m + 1) m cy) (hx : x.length ≤ m) (hy : y.length ≤ m) : nv (out.set m cy) = nv x + nv y := by
 obtain ⟨h1, h2, h3⟩ := h; have e := nv_set (l := out) (j := m) (by omega) cy; rw [h3 m (Nat.le_refl _), Nat.mul_zero, Nat.add_zero] at e; rw [List.take_of_length_le hx, List.take_of_length_le hy] at h2; omega
/-- a difference, i limbs of it done -/
def MiQ (x y out : List Nat) (n i bo : Nat) : Prop := out.length = n ∧ nv out + nv (y.take i) = nv (x.take i) + B ^ i * bo ∧ ∀ j, i ≤ j → out.getD j 0 = 0
theorem MiQ.start {x y : List Nat} {n : Nat} : MiQ x y (List.replicate n 0) n 0 0 := ⟨by simp, by simp [nv_replicate, nv], fun j _ => getD_replicate _ _⟩
theorem MiQ.step {x y out : List Nat} {n i bo a b u c1 : Nat} (h : MiQ x y out n i bo) (hi : i < n) (ha : a = x.getD i 0) (hb : b = y.getD i 0) (hu : u + b + bo = a + B * c1) : MiQ x y (out.set i u) n (i + 1) c1 := by
 obtain ⟨h1, h2, h3⟩ := h; refine ⟨by simp [h1], ?_, set_zeros h3⟩; have e := nv_set (l := out) (j := i) (by omega) u; rw [h3 i (Nat.le_refl _), Nat.mul_zero, Nat.add_zero] at e; rw [e, nv_take_any, nv_take_any, ← ha, ← hb, Nat.pow_succ]; have : B ^ i * (u + b + bo) = B ^ i * (a + B * c1) := by rw [hu]
 rw [Nat.mul_add, Nat.mul_add, Nat.mul_add, ← Nat.mul_assoc] at this; omega
theorem MiQ.done {x y out : List Nat} {n bo : Nat} (h : MiQ x y out n n bo) (hx : x.length ≤ n) (hy : y.length ≤ n) (ho : Lim out) (hle : nv y ≤ nv x) : nv out = nv x - nv y := by
 obtain ⟨h1, h2, h3⟩ := h; rw [List.take_of_length_le hx, List.take_of_length_le hy] at h2; have hlt := nv_lt ho; rw [h1] at hlt
 rcases Nat.eq_zero_or_pos bo with h0 | h0
 ·subst h0; omega
 ·have : B ^ n * 1 ≤ B ^ n * bo := Nat.mul_le_mul_left _ h0; omega
end Go.Proofs.YtnjjdiilkhdbeaaDoor.Nm
namespace Go.Proofs.YtnjjdiilkhdbeaaDoor
open Go.RowKit
theorem prod_ltG {x y k l m1 m2 m : Nat} (h1 : x < Nm.B ^ k) (hk : k ≤ m1) (h2 : y < Nm.B ^ l) (hl : l ≤ m2) (hm : m1 + m2 = m) : x * y < Nm.B ^ m := by
 subst hm; rw [Nat.pow_add]; have p1 : x < Nm.B ^ m1 := Nat.lt_of_lt_of_le h1 (Nat.pow_le_pow_right Nm.B_pos hk); have p2 : y < Nm.B ^ m2 := Nat.lt_of_lt_of_le h2 (Nat.pow_le_pow_right Nm.B_pos hl); exact Nat.mul_lt_mul_of_lt_of_le p1 (Nat.le_of_lt p2) (Nat.pow_pos Nm.B_pos)
theorem sum_ltG {x y k l m : Nat} (h1 : x < Nm.B ^ k) (hk : k ≤ m) (h2 : y < Nm.B ^ l) (hl : l ≤ m) : x + y < Nm.B ^ (m + 1) := by
 have p1 : x < Nm.B ^ m := Nat.lt_of_lt_of_le h1 (Nat.pow_le_pow_right Nm.B_pos hk); have p2 : y < Nm.B ^ m := Nat.lt_of_lt_of_le h2 (Nat.pow_le_pow_right Nm.B_pos hl); have e : Nm.B ^ (m + 1) = Nm.B ^ m * Nm.B := Nat.pow_succ ..; have h3 : Nm.B ^ m * 2 ≤ Nm.B ^ m * Nm.B := Nat.mul_le_mul_left _ (by unfold Nm.B; omega); omega
theorem sub_ltG {x y k m : Nat} (h1 : x < Nm.B ^ k) (hk : k ≤ m) : x - y < Nm.B ^ m := by
 have p1 : x < Nm.B ^ m := Nat.lt_of_lt_of_le h1 (Nat.pow_le_pow_right Nm.B_pos hk); omega
/-- what holds all along in an operation's last region -/
structure SR (w0 : World) (g : Nat) (Ks : List (Option Addr × Nat × Nat × Nat)) (Bs : List (Nat × Value × Value)) (W : World) : Prop where
 nb : ∀ x ∈ Ks, Nb W x.1 x.2.1 x.2.2.1 x.2.2.2
 bx : ∀ b ∈ Bs, Box W b.1 b.2.1 b.2.2 ∧ b.1 ≠ g
 sl : Sl W g
 be : Below w0.heap.size w0 W
 ge : w0.heap.size ≤ g
theorem SR.step {w0 w w' : World} {g n d : Nat} {Ks : List (Option Addr × Nat × Nat × Nat)} {Bs : List (Nat × Value × Value)} (hr : RM w0.heap.size g n d w w') (h : SR w0 g Ks Bs w) : SR w0 g Ks Bs w' :=
 ⟨fun x hx => hr.nb _ _ _ _ (h.nb x hx), fun b hb => ⟨hr.box _ _ _ (h.bx b hb).2 (h.bx b hb).1, (h.bx b hb).2⟩, hr.sl h.sl, h.be.trans hr.be, h.ge⟩
theorem SR.size {w0 w : World} {g : Nat} {Ks : List (Option Addr × Nat × Nat × Nat)} {Bs : List (Nat × Value × Value)} (h : SR w0 g Ks Bs w) : w0.heap.size ≤ w.heap.size := h.be.size
theorem SR.lt {w0 w : World} {g : Nat} {Ks : List (Option Addr × Nat × Nat × Nat)} {Bs : List (Nat × Value × Value)} (h : SR w0 g Ks Bs w) : g < w.heap.size := h.sl.lt
theorem SR.below {w0 w w' : World} {g : Nat} {Ks : List (Option Addr × Nat × Nat × Nat)} {Bs : List (Nat × Value × Value)} (h : SR w0 g Ks Bs w) (hb : Below w.heap.size w w') : SR w0 g Ks Bs w' :=
 h.step (n := 0) (d := 0) (RM.below hb h.size h.lt)
end Go.Proofs.YtnjjdiilkhdbeaaDoor
namespace Go.Proofs.YtnjjdiilkhdbeaaDoor
open Go
/- The same, where what is known of a value may name the values that it hangs on. -/
section
variable {P : Program} {ops : Array Oper} {Q : Exit → Act → World → Prop} {md : Region.Mode}
def closedB (md : Region.Mode) (ops : Array Oper) (listed : Array Bool) : Prop := ∀ j o, ops[j]? = some o → listed.getD j false = true → ∀ e ∈ o.after, Region.binds md e = true → listed.getD e.on false = true
/-- what an operation's knowledge hangs on: that alone -/
def Hangs (Φ : (Nat → Value) → Nat → World → Value → Prop) (i : Nat) (o : Oper) : Prop :=
 ∀ vs vs' w x, (∀ e ∈ o.after.toList, Region.binds .any e = true → vs e.on = vs' e.on) → Φ vs i w x → Φ vs' i w x
end
end Go.Proofs.YtnjjdiilkhdbeaaDoor
namespace Go.Proofs.YtnjjdiilkhdbeaaDoor
open Go
/- The same, where what holds all along may hang on which operations are done. -/
section
variable {P : Program} {ops : Array Oper} {Q : Exit → Act → World → Prop} {md : Region.Mode}
def updB (L : Nat → Bool) (i : Nat) : Nat → Bool := fun j => if j = i then true else L j
/-- each tie that binds leads back -/
def backC (md : Region.Mode) (ops : Array Oper) : Bool := (List.range ops.size).all fun i => ((ops[i]?).map fun o => o.after.all fun e => !Region.binds md e || decide (e.on < i)).getD true
theorem backC_spec (h : backC md ops = true) {i : Nat} {o : Oper} (ho : ops[i]? = some o) : ∀ e ∈ o.after, Region.binds md e = true → e.on < i := by
 intro e he hb; have hi : i < ops.size := (Array.getElem?_eq_some_iff.1 ho).1; have := List.all_eq_true.1 h i (List.mem_range.2 hi); rw [ho] at this; simp only [Option.map_some, Option.getD_some] at this; have := Array.all_eq_true_iff_forall_mem.1 this e he; rw [hb] at this
 simpa using this
theorem all_listedC (hb : backC md ops = true) {listed : Array Bool} (hs : listed.size = ops.size) (hr : Region.ready md ops listed = []) : ∀ i, i < ops.size → listed.getD i false = true := by
 intro i
 induction i using Nat.strongRecOn with
 | _ i ih =>
  intro hi
  cases hl : listed.getD i false with
  | true => rfl
  | false =>
   exfalso
   have : i ∈ Region.ready md ops listed := by
    rw [mem_ready]; refine ⟨?_, ops[i], Array.getElem?_eq_getElem hi, fun e he hbd => ?_⟩
    ·have h' : i < listed.size := by omega
     rw [getD_in h'] at hl ⊢; exact hl
    ·have := backC_spec hb (o := ops[i]) (Array.getElem?_eq_getElem hi) e he hbd; exact ih e.on this (by omega)
   rw [hr] at this
   cases this
theorem wpAny_invl {Φ : Nat → World → Value → Prop} {R : World → World → Prop} (S : (Nat → Bool) → World → Prop) (a0 : Act) (hd : apartL ops.toList = true) (hb : backC md ops = true)
  (hΦ : ∀ w w', R w w' → ∀ j x, Φ j w x → Φ j w' x)
  (hstep : ∀ i o, ops[i]? = some o → ∀ vs (L : Nat → Bool) w, S L w → L i = false → (∀ j o', ops[j]? = some o' → L j = true → ∀ e ∈ o'.after, Region.binds md e = true → L e.on = true) → (∀ e ∈ o.after, Region.binds md e = true → Φ e.on w (vs e.on)) →
   ∀ K : Act → World → Prop, (∀ v w', R w w' → S (updB L i) w' → Φ i w' v → K ((fillR ops.toList 0 vs a0).put o.dst v) w') →
    if Region.wanted o (yielded ops (fillR ops.toList 0 vs a0).tmps) = true then Oper.wp P o (fillR ops.toList 0 vs a0) w K Q else K ((fillR ops.toList 0 vs a0).put o.dst undef) w)
  (hend : ∀ vs L w, S L w → (∀ i, i < ops.size → L i = true) → (∀ i, i < ops.size → Φ i w (vs i)) → Q .normal (fillR ops.toList 0 vs a0) w) :
  ∀ (fuel : Nat) (listed : Array Bool) (vs : Nat → Value) (w : World), listed.size = ops.size → listed.toList.count false = fuel → closedB md ops listed → S (fun j => listed.getD j false) w → (∀ j, listed.getD j false = true → Φ j w (vs j)) →
   wpAny P md ops Q fuel listed (fillR ops.toList 0 vs a0) w := by
 intro fuel
 induction fuel with
 | zero =>
  intro listed vs w hs hc hcl hSw hl
  have hall : ∀ i, i < ops.size → listed.getD i false = true := by
   intro i hi; have h' : i < listed.size := by omega
   rw [List.count_eq_zero] at hc
   cases hx : listed.getD i false with
   | true => rfl
   | false =>
    exfalso
    apply hc
    simp [h'] at hx; rw [← hx]; exact Array.getElem_mem_toList h'
  refine ⟨?_, hend vs _ w hSw hall (fun i hi => hl i (hall i hi))⟩; rw [List.eq_nil_iff_forall_not_mem]; intro i hi; obtain ⟨h1, o, ho, _⟩ := mem_ready.1 hi; have hi' : i < ops.size := (Array.getElem?_eq_some_iff.1 ho).1; have h2 := hall i hi'; have h' : i < listed.size := by omega
  simp [h'] at h1 h2; rw [h1] at h2
  cases h2
 | succ fuel ih =>
  intro listed vs w hs hc hcl hSw hl; refine ⟨fun hr => hend vs _ w hSw (all_listedC hb hs hr) (fun i hi => hl i (all_listedC hb hs hr i hi)), fun i hi => ?_⟩; obtain ⟨h1, o, ho, hall⟩ := mem_ready.1 hi; have hi' : i < ops.size := (Array.getElem?_eq_some_iff.1 ho).1; have hil : i < listed.size := by omega
  have hun : listed.getD i false = false := by simp [hil] at h1 ⊢; exact h1
  refine wpOp_step ho fun K' hK => ?_
  refine hstep i o ho vs _ w hSw hun hcl (fun e he hbd => hl e.on (hall e he hbd)) K' fun v w' hR hS' hv => ?_
  apply hK
  rw [fillR_upd ops.toList 0 i vs a0 o v hd (by simpa using ho), Nat.zero_add]
  have hset : (fun j => (listed.setIfInBounds i true).getD j false) = updB (fun j => listed.getD j false) i := by
   funext j
   unfold updB; by_cases hji : j = i
   ·subst hji; simp [hil]
   ·rw [if_neg hji]; simp [Array.getElem?_setIfInBounds, Ne.symm hji]
  refine ih _ _ _ (by simp [hs]) ?_ ?_ (by rw [hset]; exact hS') ?_
  ·have h1' : listed.toList[i]'(by simpa using hil) = false := by simp [hil] at h1; simpa using h1
   simp only [Array.toList_setIfInBounds]; rw [List.count_set (by simpa using hil), h1', hc]; simp
  ·intro j oj hj hlj e he hbd; by_cases hei : e.on = i
   ·rw [hei]; simp [hil]
   ·have hold : listed.getD e.on false = true := by
     by_cases hji : j = i
     ·subst hji; have : oj = o := Option.some.inj (hj.symm.trans ho); subst this; exact hall e he hbd
     ·refine hcl j oj hj ?_ e he hbd; simp [Array.getElem?_setIfInBounds, Ne.symm hji] at hlj
      simpa using hlj
    simp [Array.getElem?_setIfInBounds, Ne.symm hei] at hold ⊢; exact hold
  ·intro j hj; by_cases hji : j = i
   ·subst hji; rw [show upd vs j v j = v from if_pos rfl]; exact hv
   ·rw [show upd vs i v j = vs j from if_neg hji]; refine hΦ _ _ hR j _ (hl j ?_); simp [Array.getElem?_setIfInBounds, Ne.symm hji] at hj
    simpa using hj
def OwesL (P : Program) (Q : Exit → Act → World → Prop) (l : List Oper) (a0 : Act) (Φ : Nat → World → Value → Prop) (R : World → World → Prop) (S : (Nat → Bool) → World → Prop) (i : Nat) (o : Oper) : Prop :=
 ∀ vs (L : Nat → Bool) w, S L w → L i = false → (∀ j o', l[j]? = some o' → L j = true → ∀ e ∈ o'.after.toList, Region.binds .any e = true → L e.on = true) → (∀ e ∈ o.after.toList, Region.binds .any e = true → Φ e.on w (vs e.on)) → ∀ K : Act → World → Prop, (∀ v w', R w w' → S (updB L i) w' → Φ i w' v → K ((fillR l 0 vs a0).put o.dst v) w') →
  Wrap (if Region.wanted o (yielded l.toArray (fillR l 0 vs a0).tmps) = true then Oper.wp P o (fillR l 0 vs a0) w K Q else K ((fillR l 0 vs a0).put o.dst undef) w)
theorem region_invl {id : Nat} {a0 : Act} {w : World} {l : List Oper} (Φ : Nat → World → Value → Prop) (R : World → World → Prop) (S : (Nat → Bool) → World → Prop) (hm : P.follows .mixedOrders = true) (hd : apartL l = true) (hb : backC .any l.toArray = true)
  (hΦ : ∀ w w', R w w' → ∀ j x, Φ j w x → Φ j w' x) (hS0 : S (fun _ => false) w.drew)
  (hstep : StepsL (OwesL P Q l a0 Φ R S) 0 l)
  (hend : ∀ vs L w, S L w → (∀ i, i < l.length → L i = true) → (∀ i, i < l.length → Φ i w (vs i)) → Q .normal (fillR l 0 vs a0) w) : (Code.region id l.toArray true).wp P Q a0 w := by
 refine wp_region_any hm ?_; have hrep : (fun j => (Array.replicate l.toArray.size false).getD j false) = (fun _ => false) := by funext j; exact repF
 have h := wpAny_invl (P := P) (Q := Q) (md := .any) (ops := l.toArray) (Φ := Φ) (R := R) S a0 hd hb hΦ (fun i o ho vs L w hSw hL hcl hdep K hK => by
  have := hstep i o (by simpa using ho); rw [Nat.zero_add] at this
  exact (this vs L w hSw hL (fun j o' hj hlj e he hbd => hcl j o' (by simpa using hj) hlj e (by simpa using he) hbd) (fun e he hbd => hdep e (by simpa using he) hbd) K hK).un) (fun vs L w hSw hall h => hend vs L w hSw (fun i hi => hall i (by simpa using hi)) (fun i hi => h i (by simpa using hi))) l.toArray.size (Array.replicate l.toArray.size false) (ownV l a0) w.drew (by simp) (by simp) (fun j o _ hj => by rw [repF] at hj; cases hj) (by rw [hrep]; exact hS0) (fun j hj => by rw [repF] at hj; cases hj)
 rw [fillR_id] at h
 ·exact h
 ·intro j o ho d hd'; rw [Nat.zero_add]; unfold ownV; rw [ho]; simp [hd']
/-- as 'region_inv', where ties that do not bind may lead forward -/
theorem region_invc {id : Nat} {a0 : Act} {w : World} {l : List Oper} (Φ : Nat → World → Value → Prop) (R : World → World → Prop) (S : World → Prop) (hm : P.follows .mixedOrders = true) (hd : apartL l = true) (hb : backC .any l.toArray = true)
  (hΦ : ∀ w w', R w w' → ∀ j x, Φ j w x → Φ j w' x) (hS : ∀ w w', R w w' → S w → S w') (hS0 : S w.drew)
  (hstep : StepsL (Owes P Q l a0 Φ R S) 0 l)
  (hend : ∀ vs w, S w → (∀ i, i < l.length → Φ i w (vs i)) → Q .normal (fillR l 0 vs a0) w) : (Code.region id l.toArray true).wp P Q a0 w :=
 region_invl Φ R (fun _ => S) hm hd hb hΦ hS0
  (fun i o ho vs L w hSw _ _ hdep K hK => hstep i o ho vs w hSw hdep K (fun v w' hR hv => hK v w' hR (hS _ _ hR hSw) hv))
  (fun vs L w hSw _ h => hend vs w hSw h)
/-- what an operation owes, where the frame is written out once: F -/
def OwesF (P : Program) (Q : Exit → Act → World → Prop) (l : List Oper) (F : (Nat → Value) → Act) (Φ : Nat → World → Value → Prop) (R : World → World → Prop) (S : World → Prop) (i : Nat) (o : Oper) : Prop :=
 ∀ vs w, S w → (∀ e ∈ o.after.toList, Region.binds .any e = true → Φ e.on w (vs e.on)) → ∀ K : Act → World → Prop, (∀ v w', R w w' → Φ i w' v → K ((F vs).put o.dst v) w') →
  Wrap (if Region.wanted o (yielded l.toArray (F vs).tmps) = true then Oper.wp P o (F vs) w K Q else K ((F vs).put o.dst undef) w)
theorem region_invF {id : Nat} {a0 : Act} {w : World} {l : List Oper} {F : (Nat → Value) → Act} (Φ : Nat → World → Value → Prop) (R : World → World → Prop) (S : World → Prop) (hm : P.follows .mixedOrders = true) (hd : apartL l = true) (hb : backC .any l.toArray = true)
  (hΦ : ∀ w w', R w w' → ∀ j x, Φ j w x → Φ j w' x) (hS : ∀ w w', R w w' → S w → S w') (hS0 : S w.drew) (hF : ∀ vs, fillR l 0 vs a0 = F vs)
  (hstep : StepsL (OwesF P Q l F Φ R S) 0 l)
  (hend : ∀ vs w, S w → (∀ i, i < l.length → Φ i w (vs i)) → Q .normal (F vs) w) : (Code.region id l.toArray true).wp P Q a0 w :=
 region_invc Φ R S hm hd hb hΦ hS hS0
  (fun i o ho vs w hSw hdep K hK => by
   have h := hstep i o ho vs w hSw hdep K (by rw [← hF vs]; exact hK); rw [← hF vs] at h
   exact h)
  (fun vs w hSw h => by rw [hF vs]; exact hend vs w hSw h)
end
end Go.Proofs.YtnjjdiilkhdbeaaDoor
namespace Go.Proofs.YtnjjdiilkhdbeaaDoor
open Go
/- The same, where what holds all along may speak of the slots' values before they are written. -/
section
variable {P : Program} {ops : Array Oper} {Q : Exit → Act → World → Prop} {md : Region.Mode}
theorem wpAny_invv {Φ : Nat → World → Value → Prop} {R : World → World → Prop} (S : (Nat → Bool) → (Nat → Value) → World → Prop) (a0 : Act) (hd : apartL ops.toList = true) (hb : backC md ops = true)
  (hΦ : ∀ w w', R w w' → ∀ j x, Φ j w x → Φ j w' x)
  (hstep : ∀ i o, ops[i]? = some o → ∀ vs (L : Nat → Bool) w, S L vs w → L i = false → (∀ j o', ops[j]? = some o' → L j = true → ∀ e ∈ o'.after, Region.binds md e = true → L e.on = true) → (∀ e ∈ o.after, Region.binds md e = true → Φ e.on w (vs e.on)) →
   ∀ K : Act → World → Prop, (∀ v w', R w w' → S (updB L i) (upd vs i v) w' → Φ i w' v → K ((fillR ops.toList 0 vs a0).put o.dst v) w') →
    if Region.wanted o (yielded ops (fillR ops.toList 0 vs a0).tmps) = true then Oper.wp P o (fillR ops.toList 0 vs a0) w K Q else K ((fillR ops.toList 0 vs a0).put o.dst undef) w)
  (hend : ∀ vs L w, S L vs w → (∀ i, i < ops.size → L i = true) → (∀ i, i < ops.size → Φ i w (vs i)) → Q .normal (fillR ops.toList 0 vs a0) w) :
  ∀ (fuel : Nat) (listed : Array Bool) (vs : Nat → Value) (w : World), listed.size = ops.size → listed.toList.count false = fuel → closedB md ops listed → S (fun j => listed.getD j false) vs w → (∀ j, listed.getD j false = true → Φ j w (vs j)) →
   wpAny P md ops Q fuel listed (fillR ops.toList 0 vs a0) w := by
 intro fuel
 induction fuel with
 | zero =>
  intro listed vs w hs hc hcl hSw hl
  have hall : ∀ i, i < ops.size → listed.getD i false = true := by
   intro i hi; have h' : i < listed.size := by omega
   rw [List.count_eq_zero] at hc
   cases hx : listed.getD i false with
   | true => rfl
   | false =>
    exfalso
    apply hc
    simp [h'] at hx; rw [← hx]; exact Array.getElem_mem_toList h'
  refine ⟨?_, hend vs _ w hSw hall (fun i hi => hl i (hall i hi))⟩; rw [List.eq_nil_iff_forall_not_mem]; intro i hi; obtain ⟨h1, o, ho, _⟩ := mem_ready.1 hi; have hi' : i < ops.size := (Array.getElem?_eq_some_iff.1 ho).1; have h2 := hall i hi'; have h' : i < listed.size := by omega
  simp [h'] at h1 h2; rw [h1] at h2
  cases h2
 | succ fuel ih =>
  intro listed vs w hs hc hcl hSw hl; refine ⟨fun hr => hend vs _ w hSw (all_listedC hb hs hr) (fun i hi => hl i (all_listedC hb hs hr i hi)), fun i hi => ?_⟩; obtain ⟨h1, o, ho, hall⟩ := mem_ready.1 hi; have hi' : i < ops.size := (Array.getElem?_eq_some_iff.1 ho).1; have hil : i < listed.size := by omega
  have hun : listed.getD i false = false := by simp [hil] at h1 ⊢; exact h1
  refine wpOp_step ho fun K' hK => ?_
  refine hstep i o ho vs _ w hSw hun hcl (fun e he hbd => hl e.on (hall e he hbd)) K' fun v w' hR hS' hv => ?_
  apply hK
  rw [fillR_upd ops.toList 0 i vs a0 o v hd (by simpa using ho), Nat.zero_add]
  have hset : (fun j => (listed.setIfInBounds i true).getD j false) = updB (fun j => listed.getD j false) i := by
   funext j
   unfold updB; by_cases hji : j = i
   ·subst hji; simp [hil]
   ·rw [if_neg hji]; simp [Array.getElem?_setIfInBounds, Ne.symm hji]
  refine ih _ _ _ (by simp [hs]) ?_ ?_ (by rw [hset]; exact hS') ?_
  ·have h1' : listed.toList[i]'(by simpa using hil) = false := by simp [hil] at h1; simpa using h1
   simp only [Array.toList_setIfInBounds]; rw [List.count_set (by simpa using hil), h1', hc]; simp
  ·intro j oj hj hlj e he hbd; by_cases hei : e.on = i
   ·rw [hei]; simp [hil]
   ·have hold : listed.getD e.on false = true := by
     by_cases hji : j = i
     ·subst hji; have : oj = o := Option.some.inj (hj.symm.trans ho); subst this; exact hall e he hbd
     ·refine hcl j oj hj ?_ e he hbd; simp [Array.getElem?_setIfInBounds, Ne.symm hji] at hlj
      simpa using hlj
    simp [Array.getElem?_setIfInBounds, Ne.symm hei] at hold ⊢; exact hold
  ·intro j hj; by_cases hji : j = i
   ·subst hji; rw [show upd vs j v j = v from if_pos rfl]; exact hv
   ·rw [show upd vs i v j = vs j from if_neg hji]; refine hΦ _ _ hR j _ (hl j ?_); simp [Array.getElem?_setIfInBounds, Ne.symm hji] at hj
    simpa using hj
/-- what an operation owes; S knows what is listed, and the slots -/
def OwesV (P : Program) (Q : Exit → Act → World → Prop) (l : List Oper) (F : (Nat → Value) → Act) (Φ : Nat → World → Value → Prop) (R : World → World → Prop) (S : (Nat → Bool) → (Nat → Value) → World → Prop) (i : Nat) (o : Oper) : Prop :=
 ∀ vs (L : Nat → Bool) w, S L vs w → L i = false → (∀ j o', l[j]? = some o' → L j = true → ∀ e ∈ o'.after.toList, Region.binds .any e = true → L e.on = true) → (∀ e ∈ o.after.toList, Region.binds .any e = true → Φ e.on w (vs e.on)) → ∀ K : Act → World → Prop, (∀ v w', R w w' → S (updB L i) (upd vs i v) w' → Φ i w' v → K ((F vs).put o.dst v) w') →
  Wrap (if Region.wanted o (yielded l.toArray (F vs).tmps) = true then Oper.wp P o (F vs) w K Q else K ((F vs).put o.dst undef) w)
theorem region_invV {id : Nat} {a0 : Act} {w : World} {l : List Oper} {F : (Nat → Value) → Act} (Φ : Nat → World → Value → Prop) (R : World → World → Prop) (S : (Nat → Bool) → (Nat → Value) → World → Prop) (hm : P.follows .mixedOrders = true) (hd : apartL l = true) (hb : backC .any l.toArray = true)
  (hΦ : ∀ w w', R w w' → ∀ j x, Φ j w x → Φ j w' x) (hS0 : S (fun _ => false) (ownV l a0) w.drew) (hF : ∀ vs, fillR l 0 vs a0 = F vs)
  (hstep : StepsL (OwesV P Q l F Φ R S) 0 l)
  (hend : ∀ vs L w, S L vs w → (∀ i, i < l.length → L i = true) → (∀ i, i < l.length → Φ i w (vs i)) → Q .normal (F vs) w) : (Code.region id l.toArray true).wp P Q a0 w := by
 refine wp_region_any hm ?_; have hrep : (fun j => (Array.replicate l.toArray.size false).getD j false) = (fun _ => false) := by funext j; exact repF
 have h := wpAny_invv (P := P) (Q := Q) (md := .any) (ops := l.toArray) (Φ := Φ) (R := R) S a0 hd hb hΦ (fun i o ho vs L w hSw hL hcl hdep K hK => by
  have := hstep i o (by simpa using ho); rw [Nat.zero_add] at this; have h2 := (this vs L w hSw hL (fun j o' hj hlj e he hbd => hcl j o' (by simpa using hj) hlj e (by simpa using he) hbd) (fun e he hbd => hdep e (by simpa using he) hbd) K (by rw [← hF vs]; exact hK)).un; rw [← hF vs] at h2
  exact h2) (fun vs L w hSw hall h => by
   have h3 := hend vs L w hSw (fun i hi => hall i (by simpa using hi)) (fun i hi => h i (by simpa using hi)); rw [← hF vs] at h3
   exact h3) l.toArray.size (Array.replicate l.toArray.size false) (ownV l a0) w.drew (by simp) (by simp) (fun j o _ hj => by rw [repF] at hj; cases hj) (by rw [hrep]; exact hS0) (fun j hj => by rw [repF] at hj; cases hj)
 rw [fillR_id] at h
 ·exact h
 ·intro j o ho d hd'; rw [Nat.zero_add]; unfold ownV; rw [ho]; simp [hd']
end
end Go.Proofs.YtnjjdiilkhdbeaaDoor
namespace Go.Proofs.YtnjjdiilkhdbeaaDoor
open Go
/- The same, told besides that what an operation hangs on is done. -/
section
variable {P : Program} {ops : Array Oper} {Q : Exit → Act → World → Prop} {md : Region.Mode}
theorem wpAny_invw {Φ : Nat → World → Value → Prop} {R : World → World → Prop} (S : (Nat → Bool) → (Nat → Value) → World → Prop) (a0 : Act) (hd : apartL ops.toList = true) (hb : backC md ops = true)
  (hΦ : ∀ w w', R w w' → ∀ j x, Φ j w x → Φ j w' x)
  (hstep : ∀ i o, ops[i]? = some o → ∀ vs (L : Nat → Bool) w, S L vs w → L i = false → (∀ j o', ops[j]? = some o' → L j = true → ∀ e ∈ o'.after, Region.binds md e = true → L e.on = true) → (∀ e ∈ o.after, Region.binds md e = true → L e.on = true) → (∀ e ∈ o.after, Region.binds md e = true → Φ e.on w (vs e.on)) →
   ∀ K : Act → World → Prop, (∀ v w', R w w' → S (updB L i) (upd vs i v) w' → Φ i w' v → K ((fillR ops.toList 0 vs a0).put o.dst v) w') →
    if Region.wanted o (yielded ops (fillR ops.toList 0 vs a0).tmps) = true then Oper.wp P o (fillR ops.toList 0 vs a0) w K Q else K ((fillR ops.toList 0 vs a0).put o.dst undef) w)
  (hend : ∀ vs L w, S L vs w → (∀ i, i < ops.size → L i = true) → (∀ i, i < ops.size → Φ i w (vs i)) → Q .normal (fillR ops.toList 0 vs a0) w) :
  ∀ (fuel : Nat) (listed : Array Bool) (vs : Nat → Value) (w : World), listed.size = ops.size → listed.toList.count false = fuel → closedB md ops listed → S (fun j => listed.getD j false) vs w → (∀ j, listed.getD j false = true → Φ j w (vs j)) →
   wpAny P md ops Q fuel listed (fillR ops.toList 0 vs a0) w := by
 intro fuel
 induction fuel with
 | zero =>
  intro listed vs w hs hc hcl hSw hl
  have hall : ∀ i, i < ops.size → listed.getD i false = true := by
   intro i hi; have h' : i < listed.size := by omega
   rw [List.count_eq_zero] at hc
   cases hx : listed.getD i false with
   | true => rfl
   | false =>
    exfalso
    apply hc
    simp [h'] at hx; rw [← hx]; exact Array.getElem_mem_toList h'
  refine ⟨?_, hend vs _ w hSw hall (fun i hi => hl i (hall i hi))⟩; rw [List.eq_nil_iff_forall_not_mem]; intro i hi; obtain ⟨h1, o, ho, _⟩ := mem_ready.1 hi; have hi' : i < ops.size := (Array.getElem?_eq_some_iff.1 ho).1; have h2 := hall i hi'; have h' : i < listed.size := by omega
  simp [h'] at h1 h2; rw [h1] at h2
  cases h2
 | succ fuel ih =>
  intro listed vs w hs hc hcl hSw hl; refine ⟨fun hr => hend vs _ w hSw (all_listedC hb hs hr) (fun i hi => hl i (all_listedC hb hs hr i hi)), fun i hi => ?_⟩; obtain ⟨h1, o, ho, hall⟩ := mem_ready.1 hi; have hi' : i < ops.size := (Array.getElem?_eq_some_iff.1 ho).1; have hil : i < listed.size := by omega
  have hun : listed.getD i false = false := by simp [hil] at h1 ⊢; exact h1
  refine wpOp_step ho fun K' hK => ?_
  refine hstep i o ho vs _ w hSw hun hcl hall (fun e he hbd => hl e.on (hall e he hbd)) K' fun v w' hR hS' hv => ?_
  apply hK
  rw [fillR_upd ops.toList 0 i vs a0 o v hd (by simpa using ho), Nat.zero_add]
  have hset : (fun j => (listed.setIfInBounds i true).getD j false) = updB (fun j => listed.getD j false) i := by
   funext j
   unfold updB; by_cases hji : j = i
   ·subst hji; simp [hil]
   ·rw [if_neg hji]; simp [Array.getElem?_setIfInBounds, Ne.symm hji]
  refine ih _ _ _ (by simp [hs]) ?_ ?_ (by rw [hset]; exact hS') ?_
  ·have h1' : listed.toList[i]'(by simpa using hil) = false := by simp [hil] at h1; simpa using h1
   simp only [Array.toList_setIfInBounds]; rw [List.count_set (by simpa using hil), h1', hc]; simp
  ·intro j oj hj hlj e he hbd; by_cases hei : e.on = i
   ·rw [hei]; simp [hil]
   ·have hold : listed.getD e.on false = true := by
     by_cases hji : j = i
     ·subst hji; have : oj = o := Option.some.inj (hj.symm.trans ho); subst this; exact hall e he hbd
     ·refine hcl j oj hj ?_ e he hbd; simp [Array.getElem?_setIfInBounds, Ne.symm hji] at hlj
      simpa using hlj
    simp [Array.getElem?_setIfInBounds, Ne.symm hei] at hold ⊢; exact hold
  ·intro j hj; by_cases hji : j = i
   ·subst hji; rw [show upd vs j v j = v from if_pos rfl]; exact hv
   ·rw [show upd vs i v j = vs j from if_neg hji]; refine hΦ _ _ hR j _ (hl j ?_); simp [Array.getElem?_setIfInBounds, Ne.symm hji] at hj
    simpa using hj
/-- what an operation owes; S knows what is listed, and the slots -/
def OwesW (P : Program) (Q : Exit → Act → World → Prop) (l : List Oper) (F : (Nat → Value) → Act) (Φ : Nat → World → Value → Prop) (R : World → World → Prop) (S : (Nat → Bool) → (Nat → Value) → World → Prop) (i : Nat) (o : Oper) : Prop :=
 ∀ vs (L : Nat → Bool) w, S L vs w → L i = false → (∀ j o', l[j]? = some o' → L j = true → ∀ e ∈ o'.after.toList, Region.binds .any e = true → L e.on = true) → (∀ e ∈ o.after.toList, Region.binds .any e = true → L e.on = true) → (∀ e ∈ o.after.toList, Region.binds .any e = true → Φ e.on w (vs e.on)) → ∀ K : Act → World → Prop, (∀ v w', R w w' → S (updB L i) (upd vs i v) w' → Φ i w' v → K ((F vs).put o.dst v) w') →
  Wrap (if Region.wanted o (yielded l.toArray (F vs).tmps) = true then Oper.wp P o (F vs) w K Q else K ((F vs).put o.dst undef) w)
theorem region_invW {id : Nat} {a0 : Act} {w : World} {l : List Oper} {F : (Nat → Value) → Act} (Φ : Nat → World → Value → Prop) (R : World → World → Prop) (S : (Nat → Bool) → (Nat → Value) → World → Prop) (hm : P.follows .mixedOrders = true) (hd : apartL l = true) (hb : backC .any l.toArray = true)
  (hΦ : ∀ w w', R w w' → ∀ j x, Φ j w x → Φ j w' x) (hS0 : S (fun _ => false) (ownV l a0) w.drew) (hF : ∀ vs, fillR l 0 vs a0 = F vs)
  (hstep : StepsL (OwesW P Q l F Φ R S) 0 l)
  (hend : ∀ vs L w, S L vs w → (∀ i, i < l.length → L i = true) → (∀ i, i < l.length → Φ i w (vs i)) → Q .normal (F vs) w) : (Code.region id l.toArray true).wp P Q a0 w := by
 refine wp_region_any hm ?_; have hrep : (fun j => (Array.replicate l.toArray.size false).getD j false) = (fun _ => false) := by funext j; exact repF
 have h := wpAny_invw (P := P) (Q := Q) (md := .any) (ops := l.toArray) (Φ := Φ) (R := R) S a0 hd hb hΦ (fun i o ho vs L w hSw hL hcl hdl hdep K hK => by
  have := hstep i o (by simpa using ho); rw [Nat.zero_add] at this; have h2 := (this vs L w hSw hL (fun j o' hj hlj e he hbd => hcl j o' (by simpa using hj) hlj e (by simpa using he) hbd) (fun e he hbd => hdl e (by simpa using he) hbd) (fun e he hbd => hdep e (by simpa using he) hbd) K (by rw [← hF vs]; exact hK)).un; rw [← hF vs] at h2
  exact h2) (fun vs L w hSw hall h => by
   have h3 := hend vs L w hSw (fun i hi => hall i (by simpa using hi)) (fun i hi => h i (by simpa using hi)); rw [← hF vs] at h3
   exact h3) l.toArray.size (Array.replicate l.toArray.size false) (ownV l a0) w.drew (by simp) (by simp) (fun j o _ hj => by rw [repF] at hj; cases hj) (by rw [hrep]; exact hS0) (fun j hj => by rw [repF] at hj; cases hj)
 rw [fillR_id] at h
 ·exact h
 ·intro j o ho d hd'; rw [Nat.zero_add]; unfold ownV; rw [ho]; simp [hd']
end
end Go.Proofs.YtnjjdiilkhdbeaaDoor
namespace Go.Proofs.YtnjjdiilkhdbeaaDoor
open Go.RowKit
theorem exE5 {α β γ δ ε : Type} {p : α → β → γ → δ → ε → Prop} {G : Prop} (h : ∃ a b c d e, p a b c d e) (k : ∀ a b c d e, p a b c d e → G) : G := h.elim fun a h => exE4 h (k a)
theorem exE6 {α β γ δ ε ζ : Type} {p : α → β → γ → δ → ε → ζ → Prop} {G : Prop} (h : ∃ a b c d e f, p a b c d e f) (k : ∀ a b c d e f, p a b c d e f → G) : G := h.elim fun a h => exE5 h (k a)
/-- the numbers that two rows of limbs stand for -/
def numL (x : List Nat × List Nat) : Nat × Nat := (Nm.nv x.1, if Nm.nv x.2 = 0 then 1 else Nm.nv x.2)
theorem numL_good {l1 l2 : List Nat} {p q : Nat} (h : GoodL l1 l2 p q) : numL (l1, l2) = (p, q) := by
 obtain ⟨rfl, rfl, hg⟩ := h; have hq := hg.pos; unfold numL; simp only [Nm.nv_lb]; unfold Nm.dn; by_cases h1 : q = 1
 ·rw [if_pos h1, if_pos rfl, h1]
 ·rw [if_neg h1, if_neg (by omega)]
open Classical in
/-- what an operation of such a region may do to the world -/
structure RS (N : Nat) (w w' : World) : Prop where
 be : Below N w w'
 nb : ∀ A k c x, Nb w A k c x → Nb w' A k c x
 sl : ∀ g, Sl w g → Sl w' g
theorem RS.refl (N : Nat) (w : World) : RS N w w := ⟨Below.refl _ _, fun _ _ _ _ h => h, fun _ h => h⟩
theorem RS.below {N : Nat} {w w' : World} (hb : Below w.heap.size w w') (hN : N ≤ w.heap.size) : RS N w w' := ⟨hb.mono hN, fun _ _ _ _ h => h.below hb, fun _ h => h.below hb⟩
theorem Sl.set1 {w : World} {g : Nat} (h : Sl w g) (A : Option Addr) (k c : Nat) : Sl (w.setCell ⟨g, 1, none⟩ (.slice A k c)) g := by
 obtain ⟨a1, k1, c1, a2, k2, c2, hb⟩ := h; have := hb.set_ 1 (.slice A k c); exact ⟨a1, k1, c1, A, k, c, this⟩
theorem Sl.setS {w : World} {g h i : Nat} (hs : Sl w g) (hi : i < 2) (A : Option Addr) (k c : Nat) : Sl (w.setCell ⟨h, i, none⟩ (.slice A k c)) g := by
 by_cases e : g = h
 ·subst e; have hi : i = 0 ∨ i = 1 := by omega
  rcases hi with rfl | rfl
  ·exact hs.set0 A k c
  ·exact hs.set1 A k c
 ·obtain ⟨a1, k1, c1, a2, k2, c2, hb⟩ := hs; exact ⟨a1, k1, c1, a2, k2, c2, Blk.far hb e _⟩
theorem RS.store {N g : Nat} {w : World} (hs : Sl w g) (hg : N ≤ g) (A : Option Addr) (k c : Nat) (A' : Option Addr) (k' c' : Nat) : RS N w ((w.setCell ⟨g, 0, none⟩ (.slice A k c)).setCell ⟨g, 1, none⟩ (.slice A' k' c')) :=
 ⟨((Below.refl N w).setCell (p := ⟨g, 0, none⟩) hg _).setCell (p := ⟨g, 1, none⟩) hg _, fun _ _ _ _ h => (h.setSl hs _).setSl (hs.set0 A k c) _, fun _ h => (h.setS (by omega) A k c).setS (by omega) A' k' c'⟩
/-- what holds all along: jr the operation whose value is stored, ja that which made the block, js the store -/
structure SD (w0 : World) (jr ja js : Nat) (L : Nat → Bool) (vs : Nat → Value) (w : World) : Prop where
 be : Below w0.heap.size w0 w
 st : L js = true → ∃ g A k c A' k' c', vs ja = .pointer (some ⟨g, 0, none⟩) ∧ vs jr = .agg #[.slice A k c, .slice A' k' c'] ∧ w0.heap.size ≤ g ∧ Blk w g 28 #[.slice A k c, .slice A' k' c']
theorem SD.start (w0 : World) (jr ja js : Nat) (vs : Nat → Value) : SD w0 jr ja js (fun _ => false) vs w0.drew := ⟨bD _, fun h => by cases h⟩
theorem SD.step {w0 : World} {jr ja js : Nat} {L : Nat → Bool} {vs : Nat → Value} {w w' : World} (h : SD w0 jr ja js L vs w) (hb : Below w.heap.size w w') (i : Nat) (v : Value) (hi : ¬ (js = i)) (hj : (i = jr ∨ i = ja) → L js = false) : SD w0 jr ja js (updB L i) (upd vs i v) w' := by
 refine ⟨h.be.trans (hb.mono h.be.size), fun hl => ?_⟩; have hl2 : L js = true := by unfold updB at hl; rwa [if_neg hi] at hl
 have n1 : ¬ (i = jr ∨ i = ja) := fun e => by rw [hj e] at hl2; cases hl2
 obtain ⟨g, A, k, c, A', k', c', e1, e2, hg, hblk⟩ := h.st hl2; exact ⟨g, A, k, c, A', k', c', by unfold upd; rw [if_neg (fun e => n1 (.inr e.symm))]; exact e1, by unfold upd; rw [if_neg (fun e => n1 (.inl e.symm))]; exact e2, hg, Blk.below hblk hb hblk.lt⟩
theorem SD.stored {w0 : World} {jr ja js : Nat} {L : Nat → Bool} {vs : Nat → Value} {w : World} (h : SD w0 jr ja js L vs w) {g : Nat} {A : Option Addr} {k c : Nat} {A' : Option Addr} {k' c' : Nat} (e1 : vs ja = .pointer (some ⟨g, 0, none⟩)) (e2 : vs jr = .agg #[.slice A k c, .slice A' k' c']) (hg : w0.heap.size ≤ g) (hs : Sl w g) (n1 : ¬ (ja = js)) (n2 : ¬ (jr = js)) (u : Value) :
  SD w0 jr ja js (updB L js) (upd vs js u) ((w.setCell ⟨g, 0, none⟩ (.slice A k c)).setCell ⟨g, 1, none⟩ (.slice A' k' c')) := by
 refine ⟨h.be.trans (RS.store hs hg A k c A' k' c').be, fun _ => ?_⟩; obtain ⟨a1, b1, c1, a2, b2, c2, hb⟩ := hs; refine ⟨g, A, k, c, A', k', c', by unfold upd; rw [if_neg n1]; exact e1, by unfold upd; rw [if_neg n2]; exact e2, hg, ?_⟩; have := (hb.set_ 0 (.slice A k c)).set_ 1 (.slice A' k' c'); exact this
theorem Sl.facts {w : World} {g : Nat} (h : Sl w g) : (∃ a, w.cell? ⟨g, 0, none⟩ = some a) ∧ (∃ a, w.cell? ⟨g, 1, none⟩ = some a) ∧ w.frozen? ⟨g, 0, none⟩ = false ∧ w.frozen? ⟨g, 1, none⟩ = false := by
 obtain ⟨r1, r2, r3, r4, r5, r6, hb⟩ := h; exact ⟨⟨_, hb.cell 0⟩, ⟨_, hb.cell 1⟩, hb.frozen 0, hb.frozen 1⟩
end Go.Proofs.YtnjjdiilkhdbeaaDoor
namespace Go.Proofs.YtnjjdiilkhdbeaaDoor
open Go.RowKit
/-- the limbs of a ratio, whatever they are -/
abbrev LP := List Nat × List Nat
def RtP (w : World) (v : Value) (x : LP) : Prop := RtL w v x.1 x.2
theorem RtP.below {w w' : World} {v : Value} {x : LP} (h : RtP w v x) (hb : Below w.heap.size w w') : RtP w' v x := RtL.below h hb
theorem RtP.shape {w : World} {v : Value} {x : LP} (h : RtP w v x) : ∃ A1 k1 c1 A2 k2 c2, v = .agg #[.slice A1 k1 c1, .slice A2 k2 c2] := RtL.shape h
def nilP : LP := ([], [])
def ratP (p q : Nat) : LP := (Nm.lb p, Nm.lb (Nm.dn q))
theorem nil_ratP : ratP 0 1 = nilP := by unfold ratP nilP; rw [Nm.dn_one, Nm.lb_zero]
theorem nil_rtP (w : World) : RtP w nilRat nilP := by
 have := (show Rat w (.agg #[.slice none 0 0, .slice none 0 0]) 0 1 from ⟨none, 0, 0, none, 0, 0, rfl, Nb.zero _, Nb.zero _⟩).rtl
 rwa [Nm.dn_one, Nm.lb_zero] at this
theorem Rat.rtP {w : World} {v : Value} {p q : Nat} (h : Rat w v p q) : RtP w v (ratP p q) := h.rtl
def validP (x : LP) : Int := Nm.validE x.1 x.2
theorem RtP.good {w : World} {v : Value} {x : LP} (h : RtP w v x) (hv : validP x = 0) : ∃ p q, x = ratP p q ∧ Nm.Good p q ∧ Rat w v p q := by
 obtain ⟨p, q, ⟨e1, e2, hg⟩, hr⟩ := RtL.good h hv; exact ⟨p, q, Prod.ext e1 e2, hg, hr⟩
theorem numL_rat {p q : Nat} (hg : Nm.Good p q) : numL (ratP p q) = (p, q) := numL_good ⟨rfl, rfl, hg⟩
theorem valid_rat {p q : Nat} (hg : Nm.Good p q) : validP (ratP p q) = 0 := Nm.validE_of hg
open Classical in
/-- n by d in lowest form, if it fits -/
noncomputable def resP (n d : Nat) : Int × LP := if Nm.Fits (n / Nat.gcd n d) (d / Nat.gcd n d) then (0, ratP (n / Nat.gcd n d) (d / Nat.gcd n d)) else (4, nilP)
theorem RedP.resP {w : World} {v : Value} {er : Int} {n d : Nat} (h : RedP w v er n d) : er = (resP n d).1 ∧ RtP w v (resP n d).2 := by
 unfold YtnjjdiilkhdbeaaDoor.resP
 rcases h with ⟨h1, h2, h3⟩ | ⟨h1, h2, h3⟩
 ·rw [if_pos h1]; exact ⟨h2, h3.rtP⟩
 ·rw [if_neg h1]; exact ⟨h2, by rw [h3]; exact nil_rtP w⟩
noncomputable def binF (f : Nat × Nat → Nat × Nat → Int × LP) (a b : LP) : Int × LP := if firstE (validP a) (validP b) ≠ 0 then (firstE (validP a) (validP b), nilP) else f (numL a) (numL b)
theorem binF_bad {f : Nat × Nat → Nat × Nat → Int × LP} {a b : LP} (h : firstE (validP a) (validP b) ≠ 0) : binF f a b = (firstE (validP a) (validP b), nilP) := if_pos h
theorem binF_rat {f : Nat × Nat → Nat × Nat → Int × LP} {pa qa pb qb : Nat} (ga : Nm.Good pa qa) (gb : Nm.Good pb qb) : binF f (ratP pa qa) (ratP pb qb) = f (pa, qa) (pb, qb) := by
 unfold binF; rw [if_neg (by rw [valid_rat ga, valid_rat gb]; simp [firstE]), numL_rat ga, numL_rat gb]
noncomputable def addF : LP → LP → Int × LP := binF fun x y => resP (x.1 * y.2 + y.1 * x.2) (x.2 * y.2)
noncomputable def subF : LP → LP → Int × LP := binF fun x y => if x.1 * y.2 < y.1 * x.2 then (5, nilP) else resP (x.1 * y.2 - y.1 * x.2) (x.2 * y.2)
noncomputable def divF : LP → LP → Int × LP := binF fun x y => if y.1 = 0 then (5, nilP) else resP (x.1 * y.2) (x.2 * y.1)
/-- an operation on two ratios does what f says -/
def BinC (fn : Nat) (f : LP → LP → Int × LP) : Prop := ∀ (va vb : Value) (a b : LP) (w : World), RtP w va a → RtP w vb b → Calls Tryd.prog fn #[va, vb] w fun e w' => ∃ v, e = .returned (.tuple #[v, .int .i64 (f a b).1]) ∧ RtP w' v (f a b).2 ∧ Below w.heap.size w w'
theorem binC_of {fn : Nat} {f : Nat × Nat → Nat × Nat → Int × LP}
  (he : ∀ (va vb : Value) (a b : LP) (w : World), RtP w va a → RtP w vb b → firstE (validP a) (validP b) ≠ 0 → Calls Tryd.prog fn #[va, vb] w fun e w' => e = .returned (.tuple #[nilRat, .int .i64 (firstE (validP a) (validP b))]) ∧ Below w.heap.size w w')
  (hg : ∀ (va vb : Value) (pa qa pb qb : Nat) (w : World), Rat w va pa qa → Rat w vb pb qb → Nm.Good pa qa → Nm.Good pb qb → Calls Tryd.prog fn #[va, vb] w fun e w' => ∃ v, e = .returned (.tuple #[v, .int .i64 (f (pa, qa) (pb, qb)).1]) ∧ RtP w' v (f (pa, qa) (pb, qb)).2 ∧ Below w.heap.size w w') : BinC fn (binF f) := by
 intro va vb a b w ha hb; by_cases h : firstE (validP a) (validP b) = 0
 ·obtain ⟨e1, e2⟩ := firstE_zero.1 h; obtain ⟨pa, qa, rfl, ga, ra⟩ := ha.good e1; obtain ⟨pb, qb, rfl, gb, rb⟩ := hb.good e2; rw [binF_rat ga gb]; exact hg va vb pa qa pb qb w ra rb ga gb
 ·rw [binF_bad h]; refine (he va vb a b w ha hb h).mono ?_; rintro e w' ⟨rfl, hb⟩; exact ⟨_, rfl, nil_rtP w', hb⟩
end Go.Proofs.YtnjjdiilkhdbeaaDoor
namespace Go.Proofs.YtnjjdiilkhdbeaaDoor
open Go.RowKit
set_option maxRecDepth 10000 in
set_option maxHeartbeats 1000000 in
theorem plus_any (A1 A2 : Option Addr) (c1 c2 : Nat) (x y : List Nat) (w : World) (hx : Lim w A1 c1 x) (hy : Lim w A2 c2 y) (hxl : x.length ≤ 1048576) (hyl : y.length ≤ 1048576) :
  Calls Tryd.prog 65 #[.slice A1 x.length c1, .slice A2 y.length c2] w fun e w' => ∃ A n, e = .returned (.slice A n n) ∧ n = (Nm.lb (Nm.nv x + Nm.nv y)).length ∧ Lim w' A n (Nm.lb (Nm.nv x + Nm.nv y)) ∧ Below w.heap.size w w' := by
 go_enter Tryd.func65, Tryd.ntmps65
 by_cases hsw : x.length < y.length
 ·have hxl2 : y.length ≤ 1048576 := by omega
  have t0 : decide ((x.length : Int) < (y.length : Int)) = true := by simp; omega
  have s0 : IntKind.i64.wrap ((y.length : Int) + 1) = (y.length : Int) + 1 := by rw [IntWalk.i64_in _ (by omega)]
  have hmk := run_make32 (↑y.length + 1) (y.length + 1) (by omega) (by omega)
  go_wp2
  go_loopw [23, 6] (fun t v wr => ∃ (i : Nat) (out : List Nat) (cy : Nat), t = .int .i64 i ∧ i ≤ y.length ∧ v = .int .u32 cy ∧ cy ≤ 1 ∧ Row wr w.heap.size out ∧ Hid (Nm.PlQ y x out (y.length + 1) i cy) ∧ Below w.heap.size w wr) (fun t _ _ => y.length - (intOf t).toNat)
  case atStart => exact ⟨0, _, 0, rfl, Nat.zero_le _, rfl, by omega, Row.new w _, Nm.PlQ.start, bA w _⟩
  case round =>
   obtain ⟨i, out, cy, rfl, hi, rfl, hcy, hrow, HP, hb⟩ := hrel; by_cases hlt : i < y.length
   ·obtain ⟨bx, ox, a, rfl, hca, ha, HA⟩ := (hy.below hb).get hlt; obtain ⟨o, hco, hfo, ho, HO⟩ := hrow.get (k := i) (by have := HP.out.1; omega); by_cases hly : i < x.length
    ·obtain ⟨by_, oy, b, rfl, hcb, hbl, HB⟩ := (hx.below hb).get hly
     go_wp2_with (go_at_call 85; refine (add32_w a b cy _ ha hbl hcy).mono ?_; rintro e w' ⟨u, c1', rfl, hul, hc1, HU, rfl⟩)
     go_roundw
     case rel => exact ⟨i + 1, _, c1', by go_num, by omega, rfl, hc1, hrow.set_ _ _ hul, HP.out.step (by omega) HA HB HU.out, hb.setCell (Nat.le_refl _) _⟩
     case measure => simp [intOf]; omega
    ·have HB : Hid ((0 : Nat) = x.getD i 0) := by show _ = _; simp [List.getD, List.getElem?_eq_none (Nat.le_of_not_lt hly)]
     go_wp2_with (go_at_call 85; refine (add32_w a 0 cy _ ha (by omega) hcy).mono ?_; rintro e w' ⟨u, c1', rfl, hul, hc1, HU, rfl⟩)
     go_roundw
     case rel => exact ⟨i + 1, _, c1', by go_num, by omega, rfl, hc1, hrow.set_ _ _ hul, HP.out.step (by omega) HA HB.out HU.out, hb.setCell (Nat.le_refl _) _⟩
     case measure => simp [intOf]; omega
   ·obtain rfl : i = y.length := by omega
    obtain ⟨o, hco, hfo, ho, HO⟩ := hrow.get (k := y.length) (by have := HP.out.1; omega); have hcl : cy < 4294967296 := by omega
    have hr2 := hrow.set_ y.length cy hcl; have hN : Nm.nv (out.set y.length cy) = Nm.nv y + Nm.nv x := HP.out.last (Nat.le_refl _) (by omega); have hln : (out.set y.length cy).length = y.length + 1 := by rw [List.length_set]; exact HP.out.1
    have HN := Lib.hid hN; have HLN := Lib.hid hln; clear hN hln
    go_wp2_with (go_at_call 41; have hlen := HLN.out; rw [show (((y.length + 1 : Nat)) : Nat) = (out.set y.length cy).length from hlen.symm]; refine (trim_any _ _ _ _ (hr2.lim (Nat.le_refl _) (by omega))).mono ?_; rintro e w' ⟨rfl, rfl⟩)
    go_ret; refine ⟨_, _, rfl, by rw [HN.out, Nat.add_comm], ?_, hb.setCell (Nat.le_refl _) _⟩; rw [Nat.add_comm (Nm.nv x), ← HN.out]; exact (hr2.lim (Nat.le_refl _) (by rw [HLN.out]; omega)).trim
 ·have hxl2 : x.length ≤ 1048576 := by omega
  have t0 : decide ((x.length : Int) < (y.length : Int)) = false := by simp; omega
  have s0 : IntKind.i64.wrap ((x.length : Int) + 1) = (x.length : Int) + 1 := by rw [IntWalk.i64_in _ (by omega)]
  have hmk := run_make32 (↑x.length + 1) (x.length + 1) (by omega) (by omega)
  go_wp2
  go_loopw [23, 6] (fun t v wr => ∃ (i : Nat) (out : List Nat) (cy : Nat), t = .int .i64 i ∧ i ≤ x.length ∧ v = .int .u32 cy ∧ cy ≤ 1 ∧ Row wr w.heap.size out ∧ Hid (Nm.PlQ x y out (x.length + 1) i cy) ∧ Below w.heap.size w wr) (fun t _ _ => x.length - (intOf t).toNat)
  case atStart => exact ⟨0, _, 0, rfl, Nat.zero_le _, rfl, by omega, Row.new w _, Nm.PlQ.start, bA w _⟩
  case round =>
   obtain ⟨i, out, cy, rfl, hi, rfl, hcy, hrow, HP, hb⟩ := hrel; by_cases hlt : i < x.length
   ·obtain ⟨bx, ox, a, rfl, hca, ha, HA⟩ := (hx.below hb).get hlt; obtain ⟨o, hco, hfo, ho, HO⟩ := hrow.get (k := i) (by have := HP.out.1; omega); by_cases hly : i < y.length
    ·obtain ⟨by_, oy, b, rfl, hcb, hbl, HB⟩ := (hy.below hb).get hly
     go_wp2_with (go_at_call 85; refine (add32_w a b cy _ ha hbl hcy).mono ?_; rintro e w' ⟨u, c1', rfl, hul, hc1, HU, rfl⟩)
     go_roundw
     case rel => exact ⟨i + 1, _, c1', by go_num, by omega, rfl, hc1, hrow.set_ _ _ hul, HP.out.step (by omega) HA HB HU.out, hb.setCell (Nat.le_refl _) _⟩
     case measure => simp [intOf]; omega
    ·have HB : Hid ((0 : Nat) = y.getD i 0) := by show _ = _; simp [List.getD, List.getElem?_eq_none (Nat.le_of_not_lt hly)]
     go_wp2_with (go_at_call 85; refine (add32_w a 0 cy _ ha (by omega) hcy).mono ?_; rintro e w' ⟨u, c1', rfl, hul, hc1, HU, rfl⟩)
     go_roundw
     case rel => exact ⟨i + 1, _, c1', by go_num, by omega, rfl, hc1, hrow.set_ _ _ hul, HP.out.step (by omega) HA HB.out HU.out, hb.setCell (Nat.le_refl _) _⟩
     case measure => simp [intOf]; omega
   ·obtain rfl : i = x.length := by omega
    obtain ⟨o, hco, hfo, ho, HO⟩ := hrow.get (k := x.length) (by have := HP.out.1; omega); have hcl : cy < 4294967296 := by omega
    have hr2 := hrow.set_ x.length cy hcl; have hN : Nm.nv (out.set x.length cy) = Nm.nv x + Nm.nv y := HP.out.last (Nat.le_refl _) (by omega); have hln : (out.set x.length cy).length = x.length + 1 := by rw [List.length_set]; exact HP.out.1
    have HN := Lib.hid hN; have HLN := Lib.hid hln; clear hN hln
    go_wp2_with (go_at_call 41; have hlen := HLN.out; rw [show (((x.length + 1 : Nat)) : Nat) = (out.set x.length cy).length from hlen.symm]; refine (trim_any _ _ _ _ (hr2.lim (Nat.le_refl _) (by omega))).mono ?_; rintro e w' ⟨rfl, rfl⟩)
    go_ret; refine ⟨_, _, rfl, by rw [HN.out], ?_, hb.setCell (Nat.le_refl _) _⟩; rw [← HN.out]; exact (hr2.lim (Nat.le_refl _) (by rw [HLN.out]; omega)).trim
set_option maxRecDepth 10000 in
set_option maxHeartbeats 1000000 in
theorem minus_any (A1 A2 : Option Addr) (c1 c2 : Nat) (x y : List Nat) (w : World) (hx : Lim w A1 c1 x) (hy : Lim w A2 c2 y) (hxl : x.length ≤ 1048576) (hyl : y.length ≤ x.length) (hle : Nm.nv y ≤ Nm.nv x) :
  Calls Tryd.prog 67 #[.slice A1 x.length c1, .slice A2 y.length c2] w fun e w' => ∃ A n, e = .returned (.slice A n n) ∧ n = (Nm.lb (Nm.nv x - Nm.nv y)).length ∧ Lim w' A n (Nm.lb (Nm.nv x - Nm.nv y)) ∧ Below w.heap.size w w' := by
 have HLE := Lib.hid hle; clear hle; have hmk := run_make32 (↑x.length) x.length rfl (by omega)
 go_enter Tryd.func67, Tryd.ntmps67
 go_wp2
 go_loopw [15, 6] (fun t v wr => ∃ (i : Nat) (out : List Nat) (cy : Nat), t = .int .i64 i ∧ i ≤ x.length ∧ v = .int .u32 cy ∧ cy ≤ 1 ∧ Row wr w.heap.size out ∧ Hid (Nm.MiQ x y out x.length i cy) ∧ Below w.heap.size w wr) (fun t _ _ => x.length - (intOf t).toNat)
 case atStart => exact ⟨0, _, 0, rfl, Nat.zero_le _, rfl, by omega, Row.new w _, Nm.MiQ.start, bA w _⟩
 case round =>
  obtain ⟨i, out, cy, rfl, hi, rfl, hcy, hrow, HP, hb⟩ := hrel; by_cases hlt : i < x.length
  ·obtain ⟨bx, ox, a, rfl, hca, ha, HA⟩ := (hx.below hb).get hlt; obtain ⟨o, hco, hfo, ho, HO⟩ := hrow.get (k := i) (by have := HP.out.1; omega); by_cases hly : i < y.length
   ·obtain ⟨by_, oy, b, rfl, hcb, hbl, HB⟩ := (hy.below hb).get hly
    go_wp2_with (go_at_call 86; refine (sub32_w a b cy _ ha hbl hcy).mono ?_; rintro e w' ⟨u, c1', rfl, hul, hc1, HU, rfl⟩)
    go_roundw
    case rel => exact ⟨i + 1, _, c1', by go_num, by omega, rfl, hc1, hrow.set_ _ _ hul, HP.out.step (by omega) HA HB HU.out, hb.setCell (Nat.le_refl _) _⟩
    case measure => simp [intOf]; omega
   ·have HB : Hid ((0 : Nat) = y.getD i 0) := by show _ = _; simp [List.getD, List.getElem?_eq_none (Nat.le_of_not_lt hly)]
    go_wp2_with (go_at_call 86; refine (sub32_w a 0 cy _ ha (by omega) hcy).mono ?_; rintro e w' ⟨u, c1', rfl, hul, hc1, HU, rfl⟩)
    go_roundw
    case rel => exact ⟨i + 1, _, c1', by go_num, by omega, rfl, hc1, hrow.set_ _ _ hul, HP.out.step (by omega) HA HB.out HU.out, hb.setCell (Nat.le_refl _) _⟩
    case measure => simp [intOf]; omega
  ·obtain rfl : i = x.length := by omega
   have hN : Nm.nv out = Nm.nv x - Nm.nv y := HP.out.done (Nat.le_refl _) hyl hrow.2 HLE.out; have HN := Lib.hid hN; clear hN
   go_wp2_with (go_at_call 41; have hlen := HP.out.1; rw [← hlen]; refine (trim_any _ _ _ _ (hrow.lim (Nat.le_refl _) (by omega))).mono ?_; rintro e w' ⟨rfl, rfl⟩)
   go_ret; refine ⟨_, _, rfl, by rw [HN.out], ?_, hb⟩; rw [← HN.out]; exact (hrow.lim (Nat.le_refl _) (by rw [HP.out.1]; omega)).trim
theorem plus_n (A1 A2 : Option Addr) (c1 c2 k1 k2 x y : Nat) (w : World) (h1 : Nb w A1 k1 c1 x) (h2 : Nb w A2 k2 c2 y) (hl1 : k1 ≤ 65536) (hl2 : k2 ≤ 65536) :
  Calls Tryd.prog 65 #[.slice A1 k1 c1, .slice A2 k2 c2] w fun e w' => ∃ A k c, e = .returned (.slice A k c) ∧ Nb w' A k c (x + y) ∧ Below w.heap.size w w' := by
 obtain ⟨rfl, h1⟩ := h1; obtain ⟨rfl, h2⟩ := h2; refine (plus_any A1 A2 c1 c2 _ _ w h1 h2 (by omega) (by omega)).mono ?_; rintro e w' ⟨A, n, rfl, hn, hl, hb⟩; rw [Nm.nv_lb, Nm.nv_lb] at hn hl; exact ⟨A, n, n, rfl, ⟨hn, hl⟩, hb⟩
theorem minus_n (A1 A2 : Option Addr) (c1 c2 k1 k2 x y : Nat) (w : World) (h1 : Nb w A1 k1 c1 x) (h2 : Nb w A2 k2 c2 y) (hl1 : k1 ≤ 65536) (hl2 : k2 ≤ 65536) (hle : y ≤ x) :
  Calls Tryd.prog 67 #[.slice A1 k1 c1, .slice A2 k2 c2] w fun e w' => ∃ A k c, e = .returned (.slice A k c) ∧ Nb w' A k c (x - y) ∧ Below w.heap.size w w' := by
 obtain ⟨rfl, h1⟩ := h1; obtain ⟨rfl, h2⟩ := h2; refine (minus_any A1 A2 c1 c2 _ _ w h1 h2 (by omega) (Nm.lb_length_le_of_lt hle) (by rw [Nm.nv_lb, Nm.nv_lb]; exact hle)).mono ?_; rintro e w' ⟨A, n, rfl, hn, hl, hb⟩; rw [Nm.nv_lb, Nm.nv_lb] at hn hl; exact ⟨A, n, n, rfl, ⟨hn, hl⟩, hb⟩
end Go.Proofs.YtnjjdiilkhdbeaaDoor
