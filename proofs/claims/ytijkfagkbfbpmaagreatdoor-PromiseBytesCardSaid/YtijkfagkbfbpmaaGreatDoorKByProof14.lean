import Derived.Test.YtijkfagkbfbpmaaGreatDoorKByProof13
import Derived.Deep.MidRow
import Derived.Deep.LoopGhost
import Derived.Deep.QuietTactic
import Derived.BigQuiet
import Derived.Great.BuildSlice
import Derived.Laws.EntriesVeiled
import Derived.Test.YtijkfagkbfbpmaaGreatDoorKByProof02
import Derived.Test.YtijkfagkbfbpmaaGreatDoorS0
set_option linter.unusedVariables false
set_option linter.unusedSimpArgs false
namespace Go.Proofs.YtijkfagkbfbpmaaGreatDoor
open Go Go.RowKit
variable {P : Program}
theorem flat_get {α : Type} {f : α → List Value} {m : Nat} (hf : ∀ x, (f x).length = m) : ∀ (l : List α) (i j : Nat) (h : i < l.length) (v : Value), (f l[i])[j]? = some v → (l.flatMap f)[i * m + j]? = some v
 | [], _, _, h, _, _ => by simp at h
 | x :: l, 0, j, _, v, hv => by
  have hj : j < (f x).length := by
   rcases Nat.lt_or_ge j (f x).length with h | h
   ·exact h
   ·simp [List.getElem?_eq_none h] at hv
  rw [List.flatMap_cons, Nat.zero_mul, Nat.zero_add, List.getElem?_append_left hj]
  simpa using hv
 | x :: l, i + 1, j, h, v, hv => by
  have := flat_get hf l i j (by simpa using h) v (by simpa using hv); rw [List.flatMap_cons, List.getElem?_append_right (by rw [hf x, Nat.add_mul]; omega), hf x]; rw [show (i + 1) * m + j - m = i * m + j by rw [Nat.add_mul]; omega]; exact this
theorem flat_len {α : Type} {f : α → List Value} {m : Nat} (hf : ∀ x, (f x).length = m) (l : List α) : (l.flatMap f).length = l.length * m := by
 induction l with
 | nil => simp
 | cons x l ih => rw [List.flatMap_cons, List.length_append, hf, ih, List.length_cons, Nat.add_mul]; omega
/-- a slice of structs of m cells -/
def RowS {α : Type} (f : α → List Value) (w : World) (A : Option Addr) (k : Nat) (l : List α) : Prop := Rd w A (l.flatMap f) ∧ k = l.length ∧ k ≤ 281474976710656
theorem RowS.below {α : Type} {f : α → List Value} {w w' : World} {A : Option Addr} {k : Nat} {l : List α} (h : RowS f w A k l) (hb : Below w.heap.size w w') : RowS f w' A k l := ⟨h.1.below hb, h.2⟩
theorem RowS.at_ {α : Type} {f : α → List Value} {m : Nat} (hf : ∀ x, (f x).length = m) (hm : 0 < m) {w : World} {A : Option Addr} {k : Nat} {l : List α} (h : RowS f w A k l) {i : Nat} (hi : i < k) (hil : i < l.length) :
  ∃ b off, A = some ⟨b, off, none⟩ ∧ Hid (∀ j v, (f l[i])[j]? = some v → w.cell? ⟨b, off + i * m + j, none⟩ = some v) := by
 have hne : l.flatMap f ≠ [] := by
  intro e; have := flat_len hf l; rw [e] at this; have h2 : 0 < l.length * m := Nat.mul_pos (by omega) hm; simp at this; omega
 obtain ⟨b, off, hA, hc⟩ := h.1 hne; refine ⟨b, off, hA, fun j v hv => ?_⟩; have h1 := flat_get hf l i j hil v hv; obtain ⟨h2, h3⟩ := List.getElem?_eq_some_iff.1 h1; have := hc _ h2; rw [h3, ← Nat.add_assoc] at this; exact this
theorem cell_keep {w w' : World} (hb : Below w.heap.size w w') {a : Addr} {v : Value} (h : w.cell? a = some v) : w'.cell? a = some v := by rw [hb.cell (cell_lt h)]; exact h
def intC (n : Int) : List Value := [.int .i64 n]
theorem intC_len (n : Int) : (intC n).length = 1 := rfl
/-- one number of a slice of numbers -/
theorem RowS.int {w : World} {A : Option Addr} {k : Nat} {l : List Int} (h : RowS intC w A k l) {i : Nat} (hi : i < k) : ∃ b off, ∃ n : Int, A = some ⟨b, off, none⟩ ∧ w.cell? ⟨b, off + i, none⟩ = some (.int .i64 n) ∧ Hid (l[i]? = some n) := by
 have hil : i < l.length := by have := h.2.1; omega
 obtain ⟨b, off, hA, hc⟩ := h.at_ intC_len (by omega) hi hil; refine ⟨b, off, l[i], hA, ?_, List.getElem?_eq_getElem hil⟩; have := hc.out 0 _ rfl
 rwa [Nat.mul_one, Nat.add_zero] at this
theorem Blk.range {w : World} {g : Nat} {t : TypeId} {cs : List Value} (h : Blk w g t cs.toArray) : w.rangeAt g 0 cs := by
 intro j v hv; rw [Nat.zero_add, h.cell]
 simpa using hv
theorem own_block_ge {w : World} {base : Nat} {e : TypeId} {size : Nat} {v : Value} {n : Nat} {xs : List Value} (h : w.ownsRow base e size v n xs) : ∀ k, v.ownBlock = some k → base ≤ k := by
 intro k hk
 rcases h.2 with ⟨rfl, _⟩ | ⟨g, cap, cur, rfl, hbg, _⟩
 ·simp [Value.ownBlock] at hk
 ·simp [Value.ownBlock] at hk; omega
/-- a list laid over an array from o on -/
def overL (arr : Array Value) : Nat → List Value → Array Value
 | _, [] => arr
 | o, v :: r => overL (arr.setIfInBounds o v) (o + 1) r
theorem setCell_new (w : World) (arr : Array Value) (T : TypeId) (o : Nat) (v : Value) : (w.alloc (.cells arr T)).setCell ⟨w.heap.size, o, none⟩ v = w.alloc (.cells (arr.setIfInBounds o v) T) :=
 World.setCell_alloc_at arr T w.heap.size o v rfl
theorem setCells_over (w : World) (T : TypeId) : ∀ (vs : List Value) (o : Nat) (arr : Array Value), (w.alloc (.cells arr T)).setCells w.heap.size o vs = w.alloc (.cells (overL arr o vs) T)
 | [], _, _ => rfl
 | v :: r, o, arr => by
  show ((w.alloc (.cells arr T)).setCell ⟨w.heap.size, o, none⟩ v).setCells w.heap.size (o + 1) r = _
  rw [setCell_new]; exact setCells_over w T r (o + 1) _
theorem overL_get (vs : List Value) : ∀ (o : Nat) (arr : Array Value), o + vs.length ≤ arr.size → (overL arr o vs).size = arr.size ∧ ∀ i, (overL arr o vs)[i]? = if i < o then arr[i]? else if i < o + vs.length then vs[i - o]? else arr[i]? := by
 induction vs with
 | nil =>
  intro o arr h; refine ⟨rfl, fun i => ?_⟩
  show arr[i]? = _
  split
  ·rfl
  ·split
   ·rename_i h1 h2; simp at h2; omega
   ·rfl
 | cons v r ih =>
  intro o arr h; simp only [List.length_cons] at h; obtain ⟨h1, h2⟩ := ih (o + 1) (arr.setIfInBounds o v) (by simp; omega); refine ⟨by rw [show overL arr o (v :: r) = overL (arr.setIfInBounds o v) (o + 1) r from rfl, h1]; simp, fun i => ?_⟩; rw [show overL arr o (v :: r) = overL (arr.setIfInBounds o v) (o + 1) r from rfl, h2]; simp only [Array.getElem?_setIfInBounds, List.length_cons]; by_cases hi : i < o
  ·rw [if_pos (by omega), if_neg (by omega), if_pos hi]
  ·by_cases ho : i = o
   ·subst ho; rw [if_pos (by omega), if_pos rfl, if_neg hi, if_pos (by omega)]; rw [if_pos (by omega)]; simp
   ·rw [if_neg (by omega), if_neg hi]; by_cases hl : i < o + 1 + r.length
    ·rw [if_pos hl, if_pos (by omega), show i - o = (i - (o + 1)) + 1 by omega]; simp
    ·rw [if_neg hl, if_neg (by omega), if_neg (by omega)]
theorem setCells_new (w : World) (T : TypeId) (z : Array Value) (cs : Array Value) (h : z.size = cs.size) : (w.alloc (.cells z T)).setCells w.heap.size 0 cs.toList = w.alloc (.cells cs T) := by
 rw [setCells_over]; obtain ⟨h1, h2⟩ := overL_get cs.toList 0 z (by simp; omega)
 have : overL z 0 cs.toList = cs := by
  apply Array.ext_getElem?
  intro i; rw [h2, if_neg (by omega)]; by_cases hi : i < cs.size
  ·rw [if_pos (by simpa using hi)]; simp
  ·rw [if_neg (by simpa using hi), Array.getElem?_eq_none (by omega), Array.getElem?_eq_none (by omega)]
 rw [this]
theorem there_new (w : World) (T : TypeId) (z : Array Value) (n : Nat) (h : n ≤ z.size) : (w.alloc (.cells z T)).there w.heap.size 0 n := by
 intro j hj; rw [Nat.zero_add]; have hb := Blk.new w T z; refine ⟨?_, hb.frozen j⟩; rw [hb.cell, Array.getElem?_eq_getElem (by omega)]; rfl
def strC (s : ByteArray) : List Value := [.string s]
theorem strC_len (s : ByteArray) : (strC s).length = 1 := rfl
theorem RowS.str {w : World} {A : Option Addr} {k : Nat} {l : List ByteArray} (h : RowS strC w A k l) {i : Nat} (hi : i < k) : ∃ b off, ∃ n : ByteArray, A = some ⟨b, off, none⟩ ∧ w.cell? ⟨b, off + i, none⟩ = some (.string n) ∧ Hid (l[i]? = some n) := by
 have hil : i < l.length := by have := h.2.1; omega
 obtain ⟨b, off, hA, hc⟩ := h.at_ strC_len (by omega) hi hil; refine ⟨b, off, l[i], hA, ?_, List.getElem?_eq_getElem hil⟩; have := hc.out 0 _ rfl
 rwa [Nat.mul_one, Nat.add_zero] at this
theorem ownsRow_keep {w w' : World} {base : Nat} {e : TypeId} {size : Nat} {v : Value} {n : Nat} {xs : List Value} (h : w.ownsRow base e size v n xs) (hk : ∀ g, v.ownBlock = some g → w'.heap[g]? = w.heap[g]?) : w'.ownsRow base e size v n xs := by
 refine ⟨h.1, ?_⟩
 rcases h.2 with h0 | ⟨g, cap, cur, rfl, hb, hh, r⟩
 ·exact .inl h0
 ·exact .inr ⟨g, cap, cur, rfl, hb, (hk g rfl).trans hh, r⟩
theorem ownsRow_lt {w : World} {base : Nat} {e : TypeId} {size : Nat} {v : Value} {n : Nat} {xs : List Value} (h : w.ownsRow base e size v n xs) : ∀ g, v.ownBlock = some g → g < w.heap.size := by
 intro g hg
 rcases h.2 with ⟨rfl, _⟩ | ⟨g', cap, cur, rfl, hb, hh, r⟩
 ·simp [Value.ownBlock] at hg
 ·simp [Value.ownBlock] at hg; subst hg
  rcases Nat.lt_or_ge g' w.heap.size with h1 | h1
  ·exact h1
  ·rw [Array.getElem?_eq_none h1] at hh; cases hh
theorem own_rowS {α : Type} {f : α → List Value} {m : Nat} (hf : ∀ x, (f x).length = m) {w : World} {base : Nat} {e : TypeId} {v : Value} {n : Nat} {l : List α} (hm : 0 < m) (hn : n ≤ 281474976710656) (h : w.ownsRow base e m v n (l.flatMap f)) : ∃ A c, v = .slice A n c ∧ RowS f w A n l := by
 have hlen : l.length = n := by
  have := h.1; rw [flat_len hf] at this; exact Nat.eq_of_mul_eq_mul_right hm this
 rcases h.2 with ⟨rfl, h0⟩ | ⟨g, cap, cur, rfl, hb, hh, h1, h2, h3, h4⟩
 ·subst h0; have : l = [] := List.eq_nil_of_length_eq_zero hlen; subst this; exact ⟨none, 0, rfl, fun h => absurd rfl h, hlen.symm, by omega⟩
 ·refine ⟨_, cap, rfl, fun _ => ⟨g, 0, rfl, fun i hi => ?_⟩, hlen.symm, hn⟩; rw [Nat.zero_add, World.ownsRow.cellAt h i (by rw [← h.1]; exact hi)]; exact List.getElem?_eq_getElem hi
theorem overL_full (z cs : Array Value) (h : z.size = cs.size) : overL z 0 cs.toList = cs := by
 obtain ⟨h1, h2⟩ := overL_get cs.toList 0 z (by simp; omega)
 apply Array.ext_getElem?
 intro i; rw [h2, if_neg (by omega)]; by_cases hi : i < cs.size
 ·rw [if_pos (by simpa using hi)]; simp
 ·rw [if_neg (by simpa using hi), Array.getElem?_eq_none (by omega), Array.getElem?_eq_none (by omega)]
theorem Blk.over {g : Nat} {T : TypeId} : ∀ (vs : List Value) (o : Nat) {w : World} {arr : Array Value}, Blk w g T arr → Blk (w.setCells g o vs) g T (overL arr o vs)
 | [], _, _, _, h => h
 | v :: r, o, _, _, h => Blk.over r (o + 1) (h.set_ o v)
theorem Blk.setAll {w : World} {g : Nat} {T : TypeId} {z cs : Array Value} (h : Blk w g T z) (e : z.size = cs.size) : Blk (w.setCells g 0 cs.toList) g T cs := by
 have := Blk.over cs.toList 0 h
 rwa [overL_full z cs e] at this
theorem Blk.farAll {g g' : Nat} {T : TypeId} (hne : g ≠ g') : ∀ (vs : List Value) (o : Nat) {w : World} {arr : Array Value}, Blk w g T arr → Blk (w.setCells g' o vs) g T arr
 | [], _, _, _, h => h
 | v :: r, o, _, _, h => Blk.farAll hne r (o + 1) (h.far (p := ⟨g', o, none⟩) hne v)
theorem Blk.there {w : World} {g : Nat} {T : TypeId} {z : Array Value} {n : Nat} (h : Blk w g T z) (e : z.size = n) : w.there g 0 n := by
 intro j hj; rw [Nat.zero_add]; refine ⟨?_, h.frozen j⟩; rw [h.cell, Array.getElem?_eq_getElem (by omega)]; rfl
theorem below_setAll {B g : Nat} {a : World} (hb : B ≤ g) : ∀ (vs : List Value) (o : Nat) {w : World}, Below B a w → Below B a (w.setCells g o vs)
 | [], _, _, h => h
 | v :: r, o, _, h => below_setAll hb r (o + 1) (h.setCell (p := ⟨g, o, none⟩) hb v)
theorem Blk.grown {w w' : World} {g : Nat} {T : TypeId} {z : Array Value} {row : Option Nat} (h : Blk w g T z) (k : w.grownBy w' row) (hne : ∀ j, row = some j → g ≠ j) : Blk w' g T z :=
 (k.block g h.lt (fun e => hne g e.symm rfl)).trans h
theorem own_below {w w' : World} {base : Nat} {e : TypeId} {size : Nat} {v : Value} {n : Nat} {xs : List Value} (h : w.ownsRow base e size v n xs) (hb : Below w.heap.size w w') : w'.ownsRow base e size v n xs :=
 ownsRow_keep h fun g hg => hb.block g (ownsRow_lt h g hg)
theorem own_mono {w : World} {base base' : Nat} {e : TypeId} {size : Nat} {v : Value} {n : Nat} {xs : List Value} (h : w.ownsRow base e size v n xs) (hb : base' ≤ base) : w.ownsRow base' e size v n xs := by
 refine ⟨h.1, ?_⟩
 rcases h.2 with h0 | ⟨g, cap, cur, rfl, hg, r⟩
 ·exact .inl h0
 ·exact .inr ⟨g, cap, cur, rfl, Nat.le_trans hb hg, r⟩
/-- apart: no block is both's -/
def Apt (v u : Value) : Prop := ∀ g, v.ownBlock = some g → u.ownBlock ≠ some g
theorem own_other {w w' : World} {base : Nat} {e : TypeId} {size : Nat} {v u : Value} {n : Nat} {xs : List Value} (h : w.ownsRow base e size u n xs) (k : w.grownBy w' v.ownBlock) (ha : Apt v u) : w'.ownsRow base e size u n xs :=
 ownsRow_keep h fun g hg => k.block g (ownsRow_lt h g hg) (fun e => ha g e.symm hg)
theorem own_shp {w : World} {base : Nat} {e : TypeId} {size : Nat} {v : Value} {n : Nat} {xs : List Value} (h : w.ownsRow base e size v n xs) : ∃ A c, v = .slice A n c := by
 rcases h.2 with ⟨rfl, rfl⟩ | ⟨g, cap, cur, rfl, _⟩
 ·exact ⟨_, _, rfl⟩
 ·exact ⟨_, _, rfl⟩
theorem Apt.symm {v u : Value} (h : Apt v u) : Apt u v := fun g hu hv => h g hv hu
theorem Apt.step {w : World} {base : Nat} {e : TypeId} {size : Nat} {v v' u : Value} {n : Nat} {xs : List Value} (h : w.ownsRow base e size u n xs) (ha : Apt v u) (k : v'.ownBlock = v.ownBlock ∨ v'.ownBlock = some w.heap.size) : Apt v' u := by
 intro g hg hu
 rcases k with k | k
 ·exact ha g (k ▸ hg) hu
 ·have := ownsRow_lt h g hu; rw [k] at hg; injection hg with hg; omega
theorem wp_buildTo {o : Oper} {a : Act} {w : World} {K : Act → World → Prop} {Q : Exit → Act → World → Prop} (t : TypeId) (parts : Array (Nat × Operand)) (ho : o.op = .build t parts)
  (cells : Array Value) (hf : P.built t (parts.map fun (i, x) => (i, a.eval x)).toList = some cells) (h : K (a.put o.dst (.agg cells)) w) : o.wp P a w K Q := by
 refine wp_build t parts ho (by rw [hf]; rfl) ?_; rw [hf]; exact h
theorem wp_name {c : Code} {Q : Exit → Act → World → Prop} {a : Act} {w : World} (h : ∀ W, Hid (W = w) → c.wp P Q a W) : c.wp P Q a w := h w rfl
theorem calls_name {f : Nat} {args : Array Value} {w : World} {Q : Ending → World → Prop} (h : ∀ W, Hid (W = w) → Calls P f args W Q) : Calls P f args w Q := h w rfl
theorem wpList_sliceN {ops : Array Oper} {rest : List Oper} {o : Oper} {a : Act} {w : World} {Q : Exit → Act → World → Prop} (hg : o.guard = none) (t e : TypeId) (len : Nat) (pl : List (Nat × Operand)) (ho : o.op = .buildSlice t len pl.toArray)
  (cells : Array Value) (ie : TypeInfo) (z : Value) (n : Nat) (vals : List (Nat × Value))
  (hu : P.underlying t = some (.slice e)) (hie : P.info? e = some ie) (hz : ie.zero = some z) (hn : ie.size = n) (hsmall : ¬ len * n > 2 ^ 24) (hpos : ¬ len * n = 0) (hv : (pl.map fun (i, x) => (i, a.eval x)) = vals)
  (hf : Instr.fill (fun i => some (i * n, n)) ((Array.range (len * n)).map (z.cells[· % z.cells.size]!)) vals = some cells)
  (h : wpList P ops Q rest (a.put o.dst (.slice (some ⟨w.heap.size, 0, none⟩) len len)) (w.alloc (.cells cells e))) : wpList P ops Q (o :: rest) a w := by
 subst hn; exact wpList_buildSlice hg t e len _ ho cells ie z hu hie hz hsmall hpos (by rw [← hv] at hf; simpa using hf) h
theorem wp_sliceN {o : Oper} {a : Act} {w : World} {K : Act → World → Prop} {Q : Exit → Act → World → Prop} (t e : TypeId) (len : Nat) (pl : List (Nat × Operand)) (ho : o.op = .buildSlice t len pl.toArray)
  (cells : Array Value) (ie : TypeInfo) (z : Value) (n : Nat) (vals : List (Nat × Value))
  (hu : P.underlying t = some (.slice e)) (hie : P.info? e = some ie) (hz : ie.zero = some z) (hn : ie.size = n) (hsmall : ¬ len * n > 2 ^ 24) (hpos : ¬ len * n = 0) (hv : (pl.map fun (i, x) => (i, a.eval x)) = vals)
  (hf : Instr.fill (fun i => some (i * n, n)) ((Array.range (len * n)).map (z.cells[· % z.cells.size]!)) vals = some cells)
  (h : K (a.put o.dst (.slice (some ⟨w.heap.size, 0, none⟩) len len)) (w.alloc (.cells cells e))) : o.wp P a w K Q := by
 subst hn; exact wp_buildSlice t e len _ ho cells ie z hu hie hz hsmall hpos (by rw [← hv] at hf; simpa using hf) h
/-- a slice that was handed in: as long as can be -/
def RowL {α : Type} (f : α → List Value) (w : World) (A : Option Addr) (k : Nat) (l : List α) : Prop := Rd w A (l.flatMap f) ∧ k = l.length ∧ k ≤ 9223372036854775807
theorem RowL.below {α : Type} {f : α → List Value} {w w' : World} {A : Option Addr} {k : Nat} {l : List α} (h : RowL f w A k l) (hb : Below w.heap.size w w') : RowL f w' A k l := ⟨h.1.below hb, h.2⟩
theorem RowL.at_ {α : Type} {f : α → List Value} {m : Nat} (hf : ∀ x, (f x).length = m) (hm : 0 < m) {w : World} {A : Option Addr} {k : Nat} {l : List α} (h : RowL f w A k l) {i : Nat} (hi : i < k) (hil : i < l.length) :
  ∃ b off, A = some ⟨b, off, none⟩ ∧ Hid (∀ j v, (f l[i])[j]? = some v → w.cell? ⟨b, off + i * m + j, none⟩ = some v) := by
 have hne : l.flatMap f ≠ [] := by
  intro e; have := flat_len hf l; rw [e] at this; have h2 : 0 < l.length * m := Nat.mul_pos (by omega) hm; simp at this; omega
 obtain ⟨b, off, hA, hc⟩ := h.1 hne; refine ⟨b, off, hA, fun j v hv => ?_⟩; have h1 := flat_get hf l i j hil v hv; obtain ⟨h2, h3⟩ := List.getElem?_eq_some_iff.1 h1; have := hc _ h2; rw [h3, ← Nat.add_assoc] at this; exact this
theorem RowL.int {w : World} {A : Option Addr} {k : Nat} {l : List Int} (h : RowL intC w A k l) {i : Nat} (hi : i < k) : ∃ b off, ∃ n : Int, A = some ⟨b, off, none⟩ ∧ w.cell? ⟨b, off + i, none⟩ = some (.int .i64 n) ∧ Hid (l[i]? = some n) := by
 have hil : i < l.length := by have := h.2.1; omega
 obtain ⟨b, off, hA, hc⟩ := h.at_ intC_len (by omega) hi hil; refine ⟨b, off, l[i], hA, ?_, List.getElem?_eq_getElem hil⟩; have := hc.out 0 _ rfl
 rwa [Nat.mul_one, Nat.add_zero] at this
set_option maxHeartbeats 400000 in
theorem at_n (A : Option Addr) (k c : Nat) (l : List Int) (i : Int) (m : Nat) (w : World) (h : RowL intC w A k l) (HL : Hid (∀ x ∈ l, -9223372036854775808 ≤ x ∧ x ≤ 9223372036854775807)) (hm : 0 < m) (hm2 : m ≤ 4611686018427387904) :
  Calls Tryz.prog 51 #[.slice A k c, .int .i64 i, .int .i64 m] w fun e w' => ∃ n : Nat, e = .returned (.int .i64 n) ∧ n < m ∧ w = w' := by
 have hk := h.2.2; by_cases h0 : i < 0
 ·have t1 : decide (i < 0) = true := by simpa using h0
  go_enter Tryz.func51, Tryz.ntmps51
  go_wp2_with fail; go_ret; exact ⟨0, rfl, hm, rfl⟩
 ·obtain ⟨n, rfl⟩ := Int.eq_ofNat_of_zero_le (show 0 ≤ i by omega); have t1 : decide ((n : Int) < 0) = false := by simp
  by_cases hn : n < k
  ·obtain ⟨b, off, x, rfl, hc, HX⟩ := h.int hn; have hx := HL.out x (List.mem_of_getElem? HX.out); have t2 : decide ((n : Int) ≥ (k : Int)) = false := by simp; omega
   go_enter Tryz.func51, Tryz.ntmps51
   go_wp2_with fail; refine (around_n x m _ hx.1 hx.2 hm hm2).mono ?_; rintro e w' ⟨z, rfl, hz, _, rfl⟩; go_wp2_with fail; go_ret; exact ⟨z, rfl, hz, rfl⟩
  ·have t2 : decide ((n : Int) ≥ (k : Int)) = true := by simp; omega
   go_enter Tryz.func51, Tryz.ntmps51
   go_wp2_with fail; go_ret; exact ⟨0, rfl, hm, rfl⟩
/-- no limb is here -/
def NoU (arr : Array Value) : Prop := ∀ (i : Nat) (n : Int), arr[i]? ≠ some (.int .u32 n)
theorem Lim.setB {w : World} {A : Option Addr} {c g i : Nat} {T : TypeId} {arr : Array Value} {l : List Nat} (h : Lim w A c l) (hb : Blk w g T arr) (hn : NoU arr) (u : Value) : Lim (w.setCell ⟨g, i, none⟩ u) A c l := by
 by_cases hl : l = []
 ·subst hl; exact ⟨fun hx => absurd rfl hx, h.2⟩
 ·refine h.only (only_set w i u) (fun b off hA e => ?_); have h0 : 0 < l.length := List.length_pos_iff.2 hl; obtain ⟨b', off', hA', hc⟩ := h.at_ h0; rw [hA'] at hA; injection hA with hA; injection hA with e1 e2; have h1 := hc 0 h0; rw [e1, e, hb.cell] at h1; exact hn _ _ h1
theorem Rat.setB {w : World} {v : Value} {p q g i : Nat} {T : TypeId} {arr : Array Value} (h : Rat w v p q) (hb : Blk w g T arr) (hn : NoU arr) (u : Value) : Rat (w.setCell ⟨g, i, none⟩ u) v p q := by
 obtain ⟨A1, k1, c1, A2, k2, c2, rfl, h1, h2⟩ := h; exact ⟨A1, k1, c1, A2, k2, c2, rfl, ⟨h1.1, h1.2.setB hb hn u⟩, ⟨h2.1, h2.2.setB hb hn u⟩⟩
theorem NoU.set {arr : Array Value} (h : NoU arr) {i : Nat} {u : Value} (hu : ∀ n, u ≠ .int .u32 n) : NoU (arr.setIfInBounds i u) := by
 intro j n e; by_cases hj : i = j
 ·subst hj; rw [Array.getElem?_setIfInBounds_self] at e
  split at e
  ·injection e with e; exact hu n e
  ·cases e
 ·rw [Array.getElem?_setIfInBounds_ne hj] at e; exact h j n e
theorem wp_buildV {P : Program} {o : Oper} {a : Act} {w : World} {K : Act → World → Prop} {Q : Exit → Act → World → Prop} (t : TypeId) (pl : List (Nat × Operand)) (ho : o.op = .build t pl.toArray)
  (cells : Array Value) (vals : List (Nat × Value)) (hv : (pl.map fun (i, x) => (i, a.eval x)) = vals) (hf : P.built t vals = some cells) (h : K (a.put o.dst (.agg cells)) w) : o.wp P a w K Q :=
 wp_buildTo t _ ho cells (by rw [← hv] at hf; simpa using hf) h
/-- all cells of the slice's own block are so -/
def OwnAll (Pr : Value → Prop) (w : World) (v : Value) : Prop := ∀ g, v.ownBlock = some g → ∀ i x, w.cell? ⟨g, i, none⟩ = some x → Pr x
theorem OwnAll.nil {Pr : Value → Prop} {w : World} {k c : Nat} : OwnAll Pr w (.slice none k c) := fun _ h => by cases h
theorem OwnAll.below {Pr : Value → Prop} {w w' : World} {v : Value} (h : OwnAll Pr w v) (hb : Below w.heap.size w w') (hv : ∀ g, v.ownBlock = some g → g < w.heap.size) : OwnAll Pr w' v := by
 intro g hg i x hx; refine h g hg i x ?_; rw [← World.cell?_of_block (w := w) (w' := w') (a := ⟨g, i, none⟩) (hb.block g (hv g hg))]; exact hx
theorem OwnAll.blk {Pr : Value → Prop} {w : World} {g k c : Nat} {T : TypeId} {arr : Array Value} (hb : Blk w g T arr) (h : ∀ x ∈ arr.toList, Pr x) : OwnAll Pr w (.slice (some ⟨g, 0, none⟩) k c) := by
 intro g' hg i x hx; simp only [Value.ownBlock, Option.some.injEq] at hg; subst hg; rw [hb.cell] at hx; exact h x (by rw [Array.mem_toList_iff]; exact Array.mem_of_getElem? hx)
theorem zeroCells_mem {z : Array Value} {n : Nat} {x : Value} (h : x ∈ (Builtin.zeroCells z n).toList) : x ∈ z.toList := by
 simp only [Builtin.zeroCells] at h; simp at h; obtain ⟨i, hi, rfl⟩ := h
 rcases Nat.eq_zero_or_pos z.size with h0 | h0
 ·rw [h0] at hi; omega
 ·have := Nat.mod_lt i h0; simp [Nat.mod_lt i h0]
theorem run_append_all (w : World) (Pr : Value → Prop) (base : Nat) (t ty e : TypeId) (i : TypeInfo) (z : Value) (size bytes : Nat) (ht : P.underlying t = some (.slice e)) (hi : P.info? e = some i) (hz : i.zero = some z)
  (hsize : i.size = size) (hby : i.bytes = bytes) (hzs : z.cells.size = size) (hsz : 0 < size)
  (v : Value) (n : Nat) (xs : List Value) (hown : w.ownsRow base e size v n xs)
  (A : Option Addr) (m c : Nat) (news : List Value) (hm : news.length = m * size) (hr : Rd w A news) (h1 : ∀ u ∈ news, u.oneCell' = true)
  (h63 : n + m ≤ maxLen) (hbytes : (n + m) * bytes ≤ 140737488355328) (hbase : base ≤ w.heap.size)
  (hPz : ∀ x ∈ z.cells.toList, Pr x) (hPn : ∀ x ∈ news, Pr x) (hPo : OwnAll Pr w v) :
  ∃ v' w', (Builtin.append_ #[t, t] ty #[v, .slice A m c]).run P w = .ok v' w' ∧ w'.ownsRow base e size v' (n + m) (xs ++ news) ∧ w.grownBy w' v.ownBlock ∧
   (v'.ownBlock = v.ownBlock ∨ v'.ownBlock = some w.heap.size) ∧ OwnAll Pr w' v' := by
 obtain ⟨v', w', hrun, h2, h3, h4⟩ := run_append_any (P := P) w base t ty e i z size bytes ht hi hz hsize hby hzs hsz v n xs hown A m c news hm hr h1 h63 hbytes hbase; refine ⟨v', w', hrun, h2, h3, h4, ?_⟩; subst hsize; have hsmall : n + m ≤ 9223372036854775807 := by simp only [maxLen] at h63; omega
 by_cases h0 : news = []
 ·subst h0
  have hm0 : m = 0 := by
   rcases Nat.eq_zero_or_pos m with h0 | h0
   ·exact h0
   ·have := Nat.mul_pos h0 hsz; simp at hm; omega
  subst hm0
  have e : (Builtin.append_ #[t, t] ty #[v, .slice A 0 c]).run P w = .ok v w := by
   rcases A with _ | ad
   ·exact run_append_of_nil w base t ty e i i.size ht hi v n xs hown c
   ·rcases hown.2 with ⟨rfl, rfl⟩ | ⟨g, cap, cur, rfl, _, _, hnc, _⟩
    ·simp [Builtin.append_, run_underlying ht, sizeOf, typeInfo, hi, Builtin.lenOf, Builtin.firstCells, loadCells, loadCellsFrom]
    ·simp [Builtin.append_, run_underlying ht, sizeOf, typeInfo, hi, Builtin.lenOf, Builtin.firstCells, hnc, storeCells, loadCells, loadCellsFrom]
  rw [e] at hrun; injection hrun with e1 e2; subst e1 e2; exact hPo
 ·obtain ⟨b, off, rfl, hc⟩ := hr h0
  have hmp : 0 < m := by
   rcases Nat.eq_zero_or_pos m with h | h
   ·subst h; exact absurd (List.eq_nil_of_length_eq_zero (by simpa using hm)) h0
   ·exact h
  have hcells : ∀ j u, news[j]? = some u → w.cell? ((⟨b, off, none⟩ : Addr).add j) = some u := by
   intro j u hu; have hj : j < news.length := (List.getElem?_eq_some_iff.1 hu).1; rw [List.getElem?_eq_getElem hj] at hu; have := hc j hj; have e : (⟨b, off, none⟩ : Addr).add j = ⟨b, off + j, none⟩ := by unfold Addr.add; split <;> simp_all
   rw [e, this]; exact hu
  rcases hown.2 with ⟨rfl, rfl⟩ | ⟨g, cap, cur, rfl, hbg, hg, hnc, hcm, hcs, htake⟩
  ·have hr := run_append_nil (P := P) w t ty e i z ht hi hz ⟨b, off, none⟩ m c news hm hcells hmp (by omega) (by rw [hby]; simp only [Nat.zero_add] at hbytes; omega); rw [hr] at hrun; injection hrun with e1 e2; subst e1 e2; refine OwnAll.blk (Blk.new w.drew e _) fun x hx => ?_
   rw [Array.toList_append] at hx
   rcases List.mem_append.1 hx with h | h
   ·exact hPn x (by simpa using h)
   ·exact hPz x (zeroCells_mem h)
  ·have hcur : ∀ x ∈ cur.toList, Pr x := by
    intro x hx; obtain ⟨j, hj, e⟩ := List.getElem_of_mem hx; refine hPo g rfl j x ?_; rw [cell_of_row w g j cur _ _ hg]; rw [← e]; simp
   by_cases hroom : n + m ≤ cap
   ·have hfit : n * i.size + news.length ≤ cur.size := by rw [hm, hcs, ← Nat.add_mul]; exact Nat.mul_le_mul_right _ hroom
    have hr := run_append_room (P := P) w t ty e i ht hi g n cap cur hg ⟨b, off, none⟩ m c news hm hcells h1 hroom hfit; rw [hr] at hrun; injection hrun with e1 e2; subst e1 e2; refine OwnAll.blk (setRow_heap w g cur _ e _ hg) fun x hx => ?_
    simp only [List.mem_append] at hx
    rcases hx with (h | h) | h
    ·exact hcur x (List.mem_of_mem_take h)
    ·exact hPn x h
    ·exact hcur x (List.mem_of_mem_drop h)
   ·have holds : ∀ j u, xs[j]? = some u → w.cell? ((⟨g, 0, none⟩ : Addr).add j) = some u := hown.cells (g := g) rfl; have hr := run_append_grow (P := P) w t ty e i z ht hi hz ⟨g, 0, none⟩ n cap xs hown.1 holds ⟨b, off, none⟩ m c news hm hcells (by omega) (by omega) (growslice_fits (by omega) (by rw [hby]; exact hbytes)); rw [hr] at hrun; injection hrun with e1 e2; subst e1 e2; refine OwnAll.blk (Blk.new w.drew e _) fun x hx => ?_
    simp only [Array.toList_append, List.mem_append] at hx
    rcases hx with (h | h) | h
    ·exact hcur x (List.mem_of_mem_take (by rw [htake]; exact h))
    ·exact hPn x h
    ·exact hPz x (zeroCells_mem h)
theorem wpList_append_all {ops : Array Oper} {rest : List Oper} {o : Oper} {a : Act} {w : World} {Q : Exit → Act → World → Prop} (hgd : o.guard = none) (Pr : Value → Prop) (s x : Operand) (t : TypeId)
  (ho : o.op = .call { callee := .builtin .append, args := #[s, x], argTypes := #[t, t] })
  (base : Nat) (e : TypeId) (i : TypeInfo) (z : Value) (size bytes : Nat) (ht : P.underlying t = some (.slice e)) (hi : P.info? e = some i) (hz : i.zero = some z)
  (hsize : i.size = size) (hby : i.bytes = bytes) (hzs : z.cells.size = size) (hsz : 0 < size)
  (v : Value) (n : Nat) (xs : List Value) (hs : a.eval s = v) (hown : w.ownsRow base e size v n xs)
  (A : Option Addr) (m c : Nat) (news : List Value) (hx : a.eval x = .slice A m c) (hm : news.length = m * size) (hr : Rd w A news) (h1 : ∀ u ∈ news, u.oneCell' = true)
  (h63 : n + m ≤ maxLen) (hbytes : (n + m) * bytes ≤ 140737488355328) (hbase : base ≤ w.heap.size)
  (hPz : ∀ x ∈ z.cells.toList, Pr x) (hPn : ∀ x ∈ news, Pr x) (hPo : OwnAll Pr w v)
  (h : ∀ v' w', w'.ownsRow base e size v' (n + m) (xs ++ news) → w.grownBy w' v.ownBlock → (v'.ownBlock = v.ownBlock ∨ v'.ownBlock = some w.heap.size) → OwnAll Pr w' v' → wpList P ops Q rest (a.put o.dst v') w') : wpList P ops Q (o :: rest) a w := by
 refine wpList_plain hgd fun K hK => ?_
 obtain ⟨v', w', hrun, h2, h3, h4, h5⟩ := run_append_all (P := P) w Pr base t o.type e i z size bytes ht hi hz hsize hby hzs hsz v n xs hown A m c news hm hr h1 h63 hbytes hbase hPz hPn hPo; unfold Oper.wp execOp; simp only [ho, resolve, invoke, builtin, Sem.run_bind, Sem.run_pure, Result.andThen_ok, List.map_toArray, List.map_cons, List.map_nil, hs, hx, hrun]; exact hK _ _ (h v' w' h2 h3 h4 h5)
/-- no limb -/
def NoL (v : Value) : Prop := ∀ n, v ≠ .int .u32 n
theorem Lim.grownBy {w w' : World} {A : Option Addr} {c : Nat} {l : List Nat} {a : Value} (h : Lim w A c l) (k : w.grownBy w' a.ownBlock) (hO : OwnAll NoL w a) : Lim w' A c l := by
 refine ⟨fun hx => ?_, h.2⟩; obtain ⟨b, off, rfl, hc⟩ := h.1 hx; have hl : 0 < (u32s l).length := List.length_pos_iff.2 hx; refine ⟨b, off, rfl, fun i hi => ?_⟩; refine World.grownBy.cell k (hc i hi) fun e => ?_
 have h0 := hc 0 hl; have := hO b e.symm _ _ h0; have h2 : (u32s l)[0] ∈ u32s l := List.getElem_mem hl; unfold u32s at h2; obtain ⟨n, _, hn⟩ := List.mem_map.1 h2; exact this n hn.symm
theorem Rat.grownBy {w w' : World} {v a : Value} {p q : Nat} (h : Rat w v p q) (k : w.grownBy w' a.ownBlock) (hO : OwnAll NoL w a) : Rat w' v p q := by
 obtain ⟨A1, k1, c1, A2, k2, c2, rfl, h1, h2⟩ := h; exact ⟨A1, k1, c1, A2, k2, c2, rfl, ⟨h1.1, h1.2.grownBy k hO⟩, ⟨h2.1, h2.2.grownBy k hO⟩⟩
theorem own_nil0 (w : World) (T : TypeId) (size : Nat) : (w.alloc (.cells #[] T)).ownsRow w.heap.size T size (.slice (some ⟨w.heap.size, 0, none⟩) 0 0) 0 [] :=
 ⟨by simp, .inr ⟨_, 0, #[], rfl, Nat.le_refl _, heap_alloc_new w _, Nat.le_refl _, by unfold maxLen; omega, by simp, by simp⟩⟩
theorem own_any {α : Type} {f : α → List Value} {m : Nat} (hf : ∀ x, (f x).length = m) {w : World} {base : Nat} {T : TypeId} {A : Option Addr} {n c : Nat} {X : List α} (hm : 0 < m) (hn : n ≤ 281474976710656) (h : w.ownsRow base T m (.slice A n c) n (X.flatMap f)) : RowS f w A n X := by
 obtain ⟨_, _, e, hr⟩ := own_rowS hf hm hn h; injection e with e1 _ _; subst e1; exact hr
theorem rtl_rat {w : World} {v : Value} {p q : Nat} (h : Rat w v p q) : RtL w v (Nm.lb p) (Nm.lb (Nm.dn q)) := by
 obtain ⟨A1, k1, c1, A2, k2, c2, rfl, h1, h2⟩ := h; exact ⟨A1, k1, c1, A2, k2, c2, rfl, h1.2, h2.2, h1.1, h2.1⟩
theorem info_int : (Tryz.prog.info? 3).map (fun i => (i.zero, i.size, i.bytes)) = some (some (.int .i64 0), 1, 8) := by kernel_rfl
end Go.Proofs.YtijkfagkbfbpmaaGreatDoor
namespace Go.Proofs.YtijkfagkbfbpmaaGreatDoor
open Go.RowKit
/- promise.word -/
def okN (i : Nat) (n : Int) : Bool := decide ((97 ≤ n ∧ n ≤ 122) ∨ (i ≠ 0 ∧ 48 ≤ n ∧ n ≤ 57))
def wordB (s : ByteArray) : Bool := decide (s.size ≠ 0 ∧ s.size ≤ 16 ∧ ∀ (i : Nat) (h : i < s.size), okN i (s[i].toNat : Int) = true)
theorem retB {a b : Bool} (h : a = b) : Ending.returned (.bool a) = .returned (.bool b) := by rw [h]
set_option maxRecDepth 10000 in
set_option maxHeartbeats 1000000 in
theorem word_n (s : ByteArray) (w : World) (hs : s.size ≤ 9223372036854775807) :
  Calls Tryz.prog 60 #[.string s] w fun e w' => e = .returned (.bool (wordB s)) ∧ w = w' := by
 by_cases h0 : s.size = 0
 ·have he : s = ⟨#[]⟩ := by
   have h1 : s.data.size = 0 := h0; have : s.data = #[] := Array.eq_empty_of_size_eq_zero h1
   cases s; simp_all
  subst he; clear hs h0
  go_enter Tryz.func60, Tryz.ntmps60
  go_wp2_with fail
  go_loop [7] (fun i => i = .int .i64 0) (fun _ => 0)
  case atStart => rfl
  case round =>
   subst hrel; go_wp2_with fail; go_ret; exact ⟨retB (by unfold wordB; symm; rw [decide_eq_false_iff_not]; intro h; exact h.1 rfl), rfl⟩
 ·have hd : s.toList.isEmpty = false := by
   rw [ByteArray.toList_eq]
   cases h : s.data.toList with
   | nil =>
    exfalso; apply h0; have : s.data.size = 0 := by rw [← Array.length_toList, h]; rfl
    exact this
   | cons => rfl
  go_enter Tryz.func60, Tryz.ntmps60
  go_wp2_with fail
  go_loop [7] (fun i => ∃ k : Nat, i = .int .i64 k ∧ k ≤ s.size ∧ Hid (∀ (j : Nat) (h : j < s.size), j < k → okN j (s[j].toNat : Int) = true)) (fun i => s.size - (intOf i).toNat)
  case atStart => exact ⟨0, rfl, Nat.zero_le _, fun j _ h => by omega⟩
  case round =>
   obtain ⟨k, rfl, hk, HP⟩ := hrel; by_cases hlt : k < s.size
   ·obtain ⟨n, HN⟩ : ∃ n : Nat, Hid (n = s[k].toNat) := ⟨s[k].toNat, rfl⟩
    have HB : Hid (okN k (n : Int) = false → false = wordB s) := by
     intro h; unfold wordB
     symm
     rw [decide_eq_false_iff_not]; rintro ⟨_, _, h3⟩; have := h3 k hlt; rw [← HN.out, h] at this; cases this
    have HP2 : Hid (okN k (n : Int) = true → ∀ (j : Nat) (h : j < s.size), j < k + 1 → okN j (s[j].toNat : Int) = true) := by
     intro h j hj hjk
     rcases Nat.lt_or_ge j k with h1 | h1
     ·exact HP.out j hj h1
     ·obtain rfl : j = k := by omega
      rw [← HN.out]; exact h
    go_wp2_with fail
    all_goals (try (rename k = 0 => hz; subst hz))
    all_goals first
     | (go_ret; exact ⟨retB (HB.out (by rw [HN.out]; unfold okN; rw [decide_eq_false_iff_not]; (try simp only [beq_iff_eq] at *); omega)), rfl⟩)
     | exact ⟨⟨_, by go_num, by omega, HP2.out (by rw [HN.out]; unfold okN; rw [decide_eq_true_iff]; (try simp only [beq_iff_eq] at *); omega)⟩, by simp [intOf]; omega⟩
   ·obtain rfl : k = s.size := by omega
    have HF : Hid (decide (s.size ≤ 16) = wordB s) := by
     show _ = _; unfold wordB; rw [decide_eq_decide]
     exact ⟨fun h => ⟨h0, h, fun i hi => HP.out i hi hi⟩, fun h => h.2.1⟩
    go_wp2_with fail; go_ret; exact ⟨retB (by rw [← HF.out, decide_eq_decide]; omega), rfl⟩
end Go.Proofs.YtijkfagkbfbpmaaGreatDoor
namespace Go.Proofs.YtijkfagkbfbpmaaGreatDoor
open Go.RowKit
/- Rows of structs in memory: promises, results. -/
structure PC where
 team : Int
 test : ByteArray
 wh : ByteArray
 site : Int
 b1 : Value
 b2 : Value
 fr : Int
 un : Int
 r0 : Value
 r1 : Value
 r2 : Value
 r3 : Value
 r4 : Value
 r5 : Value
 r6 : Value
 r7 : Value
 r8 : Value
 r9 : Value
 r10 : Value
 r11 : Value
 r12 : Value
 r13 : Value
 r14 : Value
 r15 : Value
structure RC0 where
 oc : Int
 at_ : ByteArray
 st : Int
 v3 : Value
 v4 : Value
 v5 : Value
 v6 : Value
 v7 : Value
 v8 : Value
 v9 : Value
 v10 : Value
 v11 : Value
 v12 : Value
 v13 : Value
 v14 : Value
 v15 : Value
 v16 : Value
 v17 : Value
 v18 : Value
 v19 : Value
 v20 : Value
 v21 : Value
def cellsP (p : PC) : List Value := [.int .i64 p.team, .string p.test, .string p.wh, .int .i64 p.site, p.b1, p.b2, .int .i64 p.fr, .int .i64 p.un, p.r0, p.r1, p.r2, p.r3, p.r4, p.r5, p.r6, p.r7, p.r8, p.r9, p.r10, p.r11, p.r12, p.r13, p.r14, p.r15]
theorem cellsP_len (p : PC) : (cellsP p).length = 24 := rfl
end Go.Proofs.YtijkfagkbfbpmaaGreatDoor
namespace Go.Proofs.YtijkfagkbfbpmaaGreatDoor
open Go.RowKit
/- promise.Valid -/
/-- what ails a promise whose bound a/b is valid -/
def pBad (a b : Nat) (p : PC) : Prop := b < a ∨ p.team < 0 ∨ 4 ≤ p.team ∨ wordB p.test = false ∨ (p.wh.toList.isEmpty = false ∧ wordB p.wh = false) ∨ p.site < 0 ∨ 512 ≤ p.site ∨ (p.wh.toList.isEmpty = true ∧ p.site ≠ 0) ∨ p.fr < 0 ∨ p.un ≤ p.fr ∨ 1048576 < p.un
open Classical in
noncomputable def pE (a b : Nat) (p : PC) : Int := if pBad a b p then 1 else 0
theorem pE_bad {a b : Nat} {p : PC} (h : pBad a b p) : (1 : Int) = pE a b p := by unfold pE; rw [if_pos h]
theorem pE_ok {a b : Nat} {p : PC} (h : ¬ pBad a b p) : (0 : Int) = pE a b p := by unfold pE; rw [if_neg h]
def PVal (p : PC) (L1 L2 : List Nat) (er : Int) : Prop :=
 (Nm.validE L1 L2 ≠ 0 ∧ er = Nm.validE L1 L2) ∨ ∃ a b, L1 = Nm.lb a ∧ L2 = Nm.lb (Nm.dn b) ∧ Nm.Good a b ∧ er = pE a b p
set_option maxRecDepth 100000 in
set_option maxHeartbeats 2000000 in
theorem pvalid_n (p : PC) (L1 L2 : List Nat) (w : World) (hr : RtL w (.agg #[p.b1, p.b2]) L1 L2) (hs1 : p.test.size ≤ 9223372036854775807) (hs2 : p.wh.size ≤ 9223372036854775807) :
  Calls Tryz.prog 27 #[.agg (cellsP p).toArray] w fun e w' => ∃ er, e = .returned (.int .i64 er) ∧ Hid (PVal p L1 L2 er) ∧ Below w.heap.size w w' := by
 obtain ⟨A1, k1, c1, A2, k2, c2, hsh⟩ := hr.shape; simp only [Value.agg.injEq, Array.mk.injEq, List.cons.injEq, and_true] at hsh; obtain ⟨team, test, wh, site, b1, b2, fr, un, r0, r1, r2, r3, r4, r5, r6, r7, r8, r9, r10, r11, r12, r13, r14, r15⟩ := p; obtain ⟨rfl, rfl⟩ := hsh; simp only [cellsP] at *; obtain ⟨W, HW⟩ : ∃ W, Hid (W = w.alloc (.cells #[.int .i64 team, .string test, .string wh, .int .i64 site, .slice A1 k1 c1, .slice A2 k2 c2, .int .i64 fr, .int .i64 un, r0, r1, r2, r3, r4, r5, r6, r7, r8, r9, r10, r11, r12, r13, r14, r15] 33)) := ⟨_, rfl⟩; have hbw : Below w.heap.size w W := by rw [HW.out]; exact bA _ _
 have hB : Blk W w.heap.size 33 #[.int .i64 team, .string test, .string wh, .int .i64 site, .slice A1 k1 c1, .slice A2 k2 c2, .int .i64 fr, .int .i64 un, r0, r1, r2, r3, r4, r5, r6, r7, r8, r9, r10, r11, r12, r13, r14, r15] := by rw [HW.out]; exact Blk.new _ _ _
 have hr1 := hr.below hbw; obtain ⟨bt, HBT⟩ : ∃ b, Hid (b = wordB test) := ⟨wordB test, rfl⟩; obtain ⟨bw, HBW⟩ : ∃ b, Hid (b = wordB wh) := ⟨wordB wh, rfl⟩; have hwt : ∀ w, Calls Tryz.prog 60 #[.string test] w fun e w' => e = .returned (.bool bt) ∧ w = w' := fun w => by rw [HBT.out]; exact word_n test w hs1
 have hww : ∀ w, Calls Tryz.prog 60 #[.string wh] w fun e w' => e = .returned (.bool bw) ∧ w = w' := fun w => by rw [HBW.out]; exact word_n wh w hs2
 go_enter Tryz.func27, Tryz.ntmps27
 go_wp2_with fail; rw [← HW.out]; refine (valid_v hr1).mono ?_; rintro e W2 ⟨E, rfl, HE, hb2⟩; have hB2 := Blk.below hB hb2 hB.lt; have hbw2 := Below.tr hbw hb2; by_cases hE : E = 0
 ·have h0 : (E != 0) = false := by rw [hE]; rfl
  have HV0 : Nm.validE L1 L2 = 0 := by rw [← HE.out]; exact hE
  obtain ⟨a, b, rfl, rfl, ga⟩ := Nm.validE_spec hr.limb.1 hr.limb.2 HV0; have hra := (hr.below hbw2).rat; clear hE HV0; go_wp2_with fail; refine (of_n 1 1 _ (by omega) (by omega) (by omega)).mono ?_; rintro e W3 ⟨v, er, rfl, hR, hb3⟩; obtain ⟨rfl, hR1, gone⟩ := hR.small (by omega) (b64 (by omega)) (b64 (by omega)); rw [Nat.gcd_self, Nat.div_self (by omega)] at hR1 gone; obtain ⟨D1, m1, o1, D2, m2, o2, rfl⟩ := hR1.shape; have hbA := bA W3 (.cells #[.slice D1 m1 o1, .slice D2 m2 o2] 29); have hB4 := Blk.below (Blk.below hB2 hb3 hB2.lt) hbA (Nat.lt_of_lt_of_le hB2.lt hb3.size); have hbw4 := Below.tr (Below.tr hbw2 hb3) hbA; obtain ⟨cc, HC⟩ : ∃ cc, Hid (cc = Nm.cmpN (a * 1) (1 * b)) := ⟨_, rfl⟩; have hRA := (hra.below (Below.tr hb3 hbA)); have hRB := hR1.below hbA; clear hR hb3 hR1 hra; have q4 := hB4.cell 4; have q5 := hB4.cell 5; simp only [List.getElem?_toArray, List.getElem?_cons_zero, List.getElem?_cons_succ] at q4 q5; go_wp2_with fail; refine (cmp_n _ _ a b 1 1 _ hRA hRB ga gone).mono ?_; rintro e W5 ⟨rfl, hb5⟩; rw [← HC.out]; have hB5 := Blk.below hB4 hb5 hB4.lt; have hbw5 := Below.tr hbw4 hb5; clear hB hB2 hB4 hbw hbw2 hbw4 hb5 hRA hRB q4 q5; have q0 := hB5.cell 0; have q1 := hB5.cell 1; have q2 := hB5.cell 2; have q3 := hB5.cell 3; have q6 := hB5.cell 6; have q7 := hB5.cell 7; simp only [List.getElem?_toArray, List.getElem?_cons_zero, List.getElem?_cons_succ] at q0 q1 q2 q3 q6 q7; obtain ⟨P, HP⟩ : ∃ P, Hid (P = (⟨team, test, wh, site, .slice A1 k1 c1, .slice A2 k2 c2, fr, un, r0, r1, r2, r3, r4, r5, r6, r7, r8, r9, r10, r11, r12, r13, r14, r15⟩ : PC)) := ⟨_, rfl⟩
  have HY : Hid (∀ er, er = pE a b P → PVal ⟨team, test, wh, site, .slice A1 k1 c1, .slice A2 k2 c2, fr, un, r0, r1, r2, r3, r4, r5, r6, r7, r8, r9, r10, r11, r12, r13, r14, r15⟩ (Nm.lb a) (Nm.lb (Nm.dn b)) er) := fun er h => .inr ⟨a, b, rfl, rfl, ga, by rw [h, HP.out]⟩
  clear hr hr1; by_cases hc : 0 < cc
  ·have hd : decide (0 < cc) = true := by simpa using hc
   have HF : Hid ((1 : Int) = pE a b P) := pE_bad (.inl (by
    have h1 := HC.out; unfold Nm.cmpN at h1; split at h1
    ·omega
    ·split at h1 <;> omega))
   clear hc; go_wp2_with fail; go_ret; exact ⟨_, rfl, HY.out _ HF.out, hbw5⟩
  ·have hd : decide (0 < cc) = false := by simpa using hc
   have HAB : Hid (¬ b < a) := by
    intro h; have h1 := HC.out; rw [Nm.cmpN_gt (by omega)] at h1; omega
   have HBT2 : Hid (bt = wordB P.test) := by rw [HP.out]; exact HBT.out
   have HBW2 : Hid (bw = wordB P.wh) := by rw [HP.out]; exact HBW.out
   have HQ : Hid (P.team = team ∧ P.site = site ∧ P.fr = fr ∧ P.un = un ∧ P.wh = wh) := by rw [HP.out]; exact ⟨rfl, rfl, rfl, rfl, rfl⟩
   clear hc HP HBT HBW HC
-- TAIL
   by_cases t1 : team < 0
   ·have dt1 : decide (team < 0) = true := by simpa using t1
    have HF : Hid ((1 : Int) = pE a b P) := pE_bad (.inr (.inl (by rw [HQ.out.1]; exact t1))); go_wp2_with fail; go_ret; exact ⟨_, rfl, HY.out _ HF.out, hbw5⟩
   ·have dt1 : decide (team < 0) = false := by simpa using t1
    by_cases t2 : 4 ≤ team
    ·have dt2 : decide (4 ≤ team) = true := by simpa using t2
     have HF : Hid ((1 : Int) = pE a b P) := pE_bad (.inr (.inr (.inl (by rw [HQ.out.1]; exact t2)))); go_wp2_with fail; go_ret; exact ⟨_, rfl, HY.out _ HF.out, hbw5⟩
    ·have dt2 : decide (4 ≤ team) = false := by simpa using t2
     go_wp2_with fail; refine (hwt _).mono ?_; rintro e w' ⟨rfl, rfl⟩
     cases bt
     ·-- no word
      have HF : Hid ((1 : Int) = pE a b P) := pE_bad (.inr (.inr (.inr (.inl HBT2.out.symm)))); go_wp2_with fail; go_ret; exact ⟨_, rfl, HY.out _ HF.out, hbw5⟩
     ·cases hwh : wh.toList.isEmpty
      ·go_wp2_with fail; refine (hww _).mono ?_; rintro e w' ⟨rfl, rfl⟩
       cases bw
       ·-- no word
        have HF : Hid ((1 : Int) = pE a b P) := pE_bad (.inr (.inr (.inr (.inr (.inl ⟨by rw [HQ.out.2.2.2.2]; exact hwh, HBW2.out.symm⟩))))); go_wp2_with fail; go_ret; exact ⟨_, rfl, HY.out _ HF.out, hbw5⟩
       ·skip
        by_cases s1 : site < 0
        ·have ds1 : decide (site < 0) = true := by simpa using s1
         have HF : Hid ((1 : Int) = pE a b P) := pE_bad (.inr (.inr (.inr (.inr (.inr (.inl (by rw [HQ.out.2.1]; exact s1))))))); go_wp2_with fail; go_ret; exact ⟨_, rfl, HY.out _ HF.out, hbw5⟩
        ·have ds1 : decide (site < 0) = false := by simpa using s1
         by_cases s2 : 512 ≤ site
         ·have ds2 : decide (512 ≤ site) = true := by simpa using s2
          have HF : Hid ((1 : Int) = pE a b P) := pE_bad (.inr (.inr (.inr (.inr (.inr (.inr (.inl (by rw [HQ.out.2.1]; exact s2)))))))); go_wp2_with fail; go_ret; exact ⟨_, rfl, HY.out _ HF.out, hbw5⟩
         ·have ds2 : decide (512 ≤ site) = false := by simpa using s2
          by_cases f1 : fr < 0
          ·have df1 : decide (fr < 0) = true := by simpa using f1
           have HF : Hid ((1 : Int) = pE a b P) := pE_bad (.inr (.inr (.inr (.inr (.inr (.inr (.inr (.inr (.inl (by rw [HQ.out.2.2.1]; exact f1)))))))))); go_wp2_with fail; go_ret; exact ⟨_, rfl, HY.out _ HF.out, hbw5⟩
          ·have df1 : decide (fr < 0) = false := by simpa using f1
           by_cases f2 : un ≤ fr
           ·have df2 : decide (un ≤ fr) = true := by simpa using f2
            have HF : Hid ((1 : Int) = pE a b P) := pE_bad (.inr (.inr (.inr (.inr (.inr (.inr (.inr (.inr (.inr (.inl (by rw [HQ.out.2.2.1, HQ.out.2.2.2.1]; exact f2))))))))))); go_wp2_with fail; go_ret; exact ⟨_, rfl, HY.out _ HF.out, hbw5⟩
           ·have df2 : decide (un ≤ fr) = false := by simpa using f2
            by_cases f3 : 1048576 < un
            ·have df3 : decide (1048576 < un) = true := by simpa using f3
             have HF : Hid ((1 : Int) = pE a b P) := pE_bad (.inr (.inr (.inr (.inr (.inr (.inr (.inr (.inr (.inr (.inr (by rw [HQ.out.2.2.2.1]; exact f3))))))))))); go_wp2_with fail; go_ret; exact ⟨_, rfl, HY.out _ HF.out, hbw5⟩
            ·have df3 : decide (1048576 < un) = false := by simpa using f3
             have HF : Hid ((0 : Int) = pE a b P) := pE_ok (by unfold pBad; rw [HQ.out.1, HQ.out.2.1, HQ.out.2.2.1, HQ.out.2.2.2.1, HQ.out.2.2.2.2, ← HBT2.out, hwh]; have := HAB.out; have h9 := HBW2.out; rw [HQ.out.2.2.2.2] at h9; rw [← h9]; simp; omega); go_wp2_with fail; go_ret; exact ⟨_, rfl, HY.out _ HF.out, hbw5⟩
      ·skip
       by_cases s1 : site < 0
       ·have ds1 : decide (site < 0) = true := by simpa using s1
        have HF : Hid ((1 : Int) = pE a b P) := pE_bad (.inr (.inr (.inr (.inr (.inr (.inl (by rw [HQ.out.2.1]; exact s1))))))); go_wp2_with fail; go_ret; exact ⟨_, rfl, HY.out _ HF.out, hbw5⟩
       ·have ds1 : decide (site < 0) = false := by simpa using s1
        by_cases s2 : 512 ≤ site
        ·have ds2 : decide (512 ≤ site) = true := by simpa using s2
         have HF : Hid ((1 : Int) = pE a b P) := pE_bad (.inr (.inr (.inr (.inr (.inr (.inr (.inl (by rw [HQ.out.2.1]; exact s2)))))))); go_wp2_with fail; go_ret; exact ⟨_, rfl, HY.out _ HF.out, hbw5⟩
        ·have ds2 : decide (512 ≤ site) = false := by simpa using s2
         by_cases s3 : site = 0
         ·subst s3; by_cases f1 : fr < 0
          ·have df1 : decide (fr < 0) = true := by simpa using f1
           have HF : Hid ((1 : Int) = pE a b P) := pE_bad (.inr (.inr (.inr (.inr (.inr (.inr (.inr (.inr (.inl (by rw [HQ.out.2.2.1]; exact f1)))))))))); go_wp2_with fail; go_ret; exact ⟨_, rfl, HY.out _ HF.out, hbw5⟩
          ·have df1 : decide (fr < 0) = false := by simpa using f1
           by_cases f2 : un ≤ fr
           ·have df2 : decide (un ≤ fr) = true := by simpa using f2
            have HF : Hid ((1 : Int) = pE a b P) := pE_bad (.inr (.inr (.inr (.inr (.inr (.inr (.inr (.inr (.inr (.inl (by rw [HQ.out.2.2.1, HQ.out.2.2.2.1]; exact f2))))))))))); go_wp2_with fail; go_ret; exact ⟨_, rfl, HY.out _ HF.out, hbw5⟩
           ·have df2 : decide (un ≤ fr) = false := by simpa using f2
            by_cases f3 : 1048576 < un
            ·have df3 : decide (1048576 < un) = true := by simpa using f3
             have HF : Hid ((1 : Int) = pE a b P) := pE_bad (.inr (.inr (.inr (.inr (.inr (.inr (.inr (.inr (.inr (.inr (by rw [HQ.out.2.2.2.1]; exact f3))))))))))); go_wp2_with fail; go_ret; exact ⟨_, rfl, HY.out _ HF.out, hbw5⟩
            ·have df3 : decide (1048576 < un) = false := by simpa using f3
             have HF : Hid ((0 : Int) = pE a b P) := pE_ok (by unfold pBad; rw [HQ.out.1, HQ.out.2.1, HQ.out.2.2.1, HQ.out.2.2.2.1, HQ.out.2.2.2.2, ← HBT2.out, hwh]; have := HAB.out; simp; omega); go_wp2_with fail; go_ret; exact ⟨_, rfl, HY.out _ HF.out, hbw5⟩
         ·have ds3 : (site != 0) = true := by simpa using s3
          have HF : Hid ((1 : Int) = pE a b P) := pE_bad (.inr (.inr (.inr (.inr (.inr (.inr (.inr (.inl ⟨by rw [HQ.out.2.2.2.2]; exact hwh, by rw [HQ.out.2.1]; exact s3⟩)))))))); go_wp2_with fail; go_ret; exact ⟨_, rfl, HY.out _ HF.out, hbw5⟩
 ·have h0 : (E != 0) = true := by simpa using hE
  have HP : Hid (PVal ⟨team, test, wh, site, .slice A1 k1 c1, .slice A2 k2 c2, fr, un, r0, r1, r2, r3, r4, r5, r6, r7, r8, r9, r10, r11, r12, r13, r14, r15⟩ L1 L2 E) := .inl ⟨by rw [← HE.out]; exact hE, HE.out⟩; go_wp2_with fail; go_ret; exact ⟨_, rfl, HP, hbw2⟩
end Go.Proofs.YtijkfagkbfbpmaaGreatDoor
namespace Go.Proofs.YtijkfagkbfbpmaaGreatDoor
open Go.RowKit
theorem infoP {p : PC} : (Tryz.prog.info? 33).map (·.size) = some (cellsP p).length := by kernel_rfl
end Go.Proofs.YtijkfagkbfbpmaaGreatDoor
namespace Go.Proofs.YtijkfagkbfbpmaaGreatDoor
open Go.RowKit
end Go.Proofs.YtijkfagkbfbpmaaGreatDoor
namespace Go.Proofs.YtijkfagkbfbpmaaGreatDoor
open Go.RowKit
end Go.Proofs.YtijkfagkbfbpmaaGreatDoor
