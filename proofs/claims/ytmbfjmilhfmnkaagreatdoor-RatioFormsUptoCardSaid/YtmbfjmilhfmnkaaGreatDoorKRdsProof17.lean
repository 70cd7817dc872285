import Derived.Test.YtmbfjmilhfmnkaaGreatDoorKRdsProof16
import Derived.Deep.MidRow
import Derived.Deep.LoopGhost
import Derived.Deep.QuietTactic
import Derived.BigQuiet
import Derived.Great.BuildSlice
import Derived.Laws.EntriesVeiled
import Derived.Test.YtmbfjmilhfmnkaaGreatDoorKRdsProof12
import Derived.Test.YtmbfjmilhfmnkaaGreatDoorKRdsProof04
import Derived.Test.YtmbfjmilhfmnkaaGreatDoorKRdsProof11
import Derived.Test.YtmbfjmilhfmnkaaGreatDoorS0
set_option linter.unusedVariables false
set_option linter.unusedSimpArgs false
namespace Go.Proofs.YtmbfjmilhfmnkaaGreatDoor
open Go Go.RowKit
variable {P : Program}
theorem flat_get {α : Type} {f : α → List Value} {m : Nat} (hf : ∀ x, (f x).length = m) : ∀ (l : List α) (i j : Nat) (h : i < l.length) (v : Value), (f l[i])[j]? = some v → (l.flatMap f)[i * m + j]? = some v
 | [], _, _, h, _, _ => by simp at h
 | x :: l, 0, j, _, v, hv => by
  have hj : j < (f x).length := by
   rcases Nat.lt_or_ge j (f x).length with h | h
   ·exact h
   ·simp [List.getElem?_eq_none h] at hv
  rw [List.flatMap_cons, Nat.zero_mul, Nat.zero_add, List.getElem?_append_left hj]
  simpa using hv
 | x :: l, i + 1, j, h, v, hv => by
  have := flat_get hf l i j (by simpa using h) v (by simpa using hv); rw [List.flatMap_cons, List.getElem?_append_right (by rw [hf x, Nat.add_mul]; omega), hf x]; rw [show (i + 1) * m + j - m = i * m + j by rw [Nat.add_mul]; omega]; exact this
theorem flat_len {α : Type} {f : α → List Value} {m : Nat} (hf : ∀ x, (f x).length = m) (l : List α) : (l.flatMap f).length = l.length * m := by
 induction l with
 | nil => simp
 | cons x l ih => rw [List.flatMap_cons, List.length_append, hf, ih, List.length_cons, Nat.add_mul]; omega
/-- a slice of structs of m cells -/
def RowS {α : Type} (f : α → List Value) (w : World) (A : Option Addr) (k : Nat) (l : List α) : Prop := Rd w A (l.flatMap f) ∧ k = l.length ∧ k ≤ 281474976710656
theorem RowS.below {α : Type} {f : α → List Value} {w w' : World} {A : Option Addr} {k : Nat} {l : List α} (h : RowS f w A k l) (hb : Below w.heap.size w w') : RowS f w' A k l := ⟨h.1.below hb, h.2⟩
theorem RowS.at_ {α : Type} {f : α → List Value} {m : Nat} (hf : ∀ x, (f x).length = m) (hm : 0 < m) {w : World} {A : Option Addr} {k : Nat} {l : List α} (h : RowS f w A k l) {i : Nat} (hi : i < k) (hil : i < l.length) :
  ∃ b off, A = some ⟨b, off, none⟩ ∧ Hid (∀ j v, (f l[i])[j]? = some v → w.cell? ⟨b, off + i * m + j, none⟩ = some v) := by
 have hne : l.flatMap f ≠ [] := by
  intro e; have := flat_len hf l; rw [e] at this; have h2 : 0 < l.length * m := Nat.mul_pos (by omega) hm; simp at this; omega
 obtain ⟨b, off, hA, hc⟩ := h.1 hne; refine ⟨b, off, hA, fun j v hv => ?_⟩; have h1 := flat_get hf l i j hil v hv; obtain ⟨h2, h3⟩ := List.getElem?_eq_some_iff.1 h1; have := hc _ h2; rw [h3, ← Nat.add_assoc] at this; exact this
theorem retb {a b : Bool} (h : a = b) : Ending.returned (.bool a) = .returned (.bool b) := by rw [h]
theorem cell_keep {w w' : World} (hb : Below w.heap.size w w') {a : Addr} {v : Value} (h : w.cell? a = some v) : w'.cell? a = some v := by rw [hb.cell (cell_lt h)]; exact h
def intC (n : Int) : List Value := [.int .i64 n]
def natC (n : Nat) : List Value := [.int .i64 (n : Int)]
theorem intC_len (n : Int) : (intC n).length = 1 := rfl
theorem natC_len (n : Nat) : (natC n).length = 1 := rfl
/-- one number of a slice of numbers -/
theorem RowS.int {w : World} {A : Option Addr} {k : Nat} {l : List Int} (h : RowS intC w A k l) {i : Nat} (hi : i < k) : ∃ b off, ∃ n : Int, A = some ⟨b, off, none⟩ ∧ w.cell? ⟨b, off + i, none⟩ = some (.int .i64 n) ∧ Hid (l[i]? = some n) := by
 have hil : i < l.length := by have := h.2.1; omega
 obtain ⟨b, off, hA, hc⟩ := h.at_ intC_len (by omega) hi hil; refine ⟨b, off, l[i], hA, ?_, List.getElem?_eq_getElem hil⟩; have := hc.out 0 _ rfl
 rwa [Nat.mul_one, Nat.add_zero] at this
theorem RowS.nat {w : World} {A : Option Addr} {k : Nat} {l : List Nat} (h : RowS natC w A k l) {i : Nat} (hi : i < k) : ∃ b off, ∃ n : Nat, A = some ⟨b, off, none⟩ ∧ w.cell? ⟨b, off + i, none⟩ = some (.int .i64 (n : Int)) ∧ Hid (l[i]? = some n) := by
 have hil : i < l.length := by have := h.2.1; omega
 obtain ⟨b, off, hA, hc⟩ := h.at_ natC_len (by omega) hi hil; refine ⟨b, off, l[i], hA, ?_, List.getElem?_eq_getElem hil⟩; have := hc.out 0 _ rfl
 rwa [Nat.mul_one, Nat.add_zero] at this
/-- the first index at which p holds, or -1 -/
def FirstI {α : Type} (l : List α) (p : α → Bool) (x : Int) : Prop := (x = -1 ∧ ∀ (j : Nat) a, l[j]? = some a → p a = false) ∨ ∃ (i : Nat) (a : α), x = (i : Int) ∧ l[i]? = some a ∧ p a = true ∧ ∀ (j : Nat) b, j < i → l[j]? = some b → p b = false
theorem first_step {α : Type} {l : List α} {p : α → Bool} {i : Nat} {a : α} (h : ∀ (j : Nat) b, j < i → l[j]? = some b → p b = false) (ha : l[i]? = some a) (hp : p a = false) : ∀ (j : Nat) b, j < i + 1 → l[j]? = some b → p b = false := by
 intro j b hj hb
 rcases Nat.lt_or_ge j i with h1 | h1
 ·exact h j b h1 hb
 ·obtain rfl : j = i := by omega
  rw [ha] at hb; injection hb with hb; rw [← hb]; exact hp
theorem Blk.range {w : World} {g : Nat} {t : TypeId} {cs : List Value} (h : Blk w g t cs.toArray) : w.rangeAt g 0 cs := by
 intro j v hv; rw [Nat.zero_add, h.cell]
 simpa using hv
theorem own_block_ge {w : World} {base : Nat} {e : TypeId} {size : Nat} {v : Value} {n : Nat} {xs : List Value} (h : w.ownsRow base e size v n xs) : ∀ k, v.ownBlock = some k → base ≤ k := by
 intro k hk
 rcases h.2 with ⟨rfl, _⟩ | ⟨g, cap, cur, rfl, hbg, _⟩
 ·simp [Value.ownBlock] at hk
 ·simp [Value.ownBlock] at hk; omega
/-- a list laid over an array from o on -/
def overL (arr : Array Value) : Nat → List Value → Array Value
 | _, [] => arr
 | o, v :: r => overL (arr.setIfInBounds o v) (o + 1) r
theorem setCell_new (w : World) (arr : Array Value) (T : TypeId) (o : Nat) (v : Value) : (w.alloc (.cells arr T)).setCell ⟨w.heap.size, o, none⟩ v = w.alloc (.cells (arr.setIfInBounds o v) T) :=
 World.setCell_alloc_at arr T w.heap.size o v rfl
theorem setCells_over (w : World) (T : TypeId) : ∀ (vs : List Value) (o : Nat) (arr : Array Value), (w.alloc (.cells arr T)).setCells w.heap.size o vs = w.alloc (.cells (overL arr o vs) T)
 | [], _, _ => rfl
 | v :: r, o, arr => by
  show ((w.alloc (.cells arr T)).setCell ⟨w.heap.size, o, none⟩ v).setCells w.heap.size (o + 1) r = _
  rw [setCell_new]; exact setCells_over w T r (o + 1) _
theorem overL_get (vs : List Value) : ∀ (o : Nat) (arr : Array Value), o + vs.length ≤ arr.size → (overL arr o vs).size = arr.size ∧ ∀ i, (overL arr o vs)[i]? = if i < o then arr[i]? else if i < o + vs.length then vs[i - o]? else arr[i]? := by
 induction vs with
 | nil =>
  intro o arr h; refine ⟨rfl, fun i => ?_⟩
  show arr[i]? = _
  split
  ·rfl
  ·split
   ·rename_i h1 h2; simp at h2; omega
   ·rfl
 | cons v r ih =>
  intro o arr h; simp only [List.length_cons] at h; obtain ⟨h1, h2⟩ := ih (o + 1) (arr.setIfInBounds o v) (by simp; omega); refine ⟨by rw [show overL arr o (v :: r) = overL (arr.setIfInBounds o v) (o + 1) r from rfl, h1]; simp, fun i => ?_⟩; rw [show overL arr o (v :: r) = overL (arr.setIfInBounds o v) (o + 1) r from rfl, h2]; simp only [Array.getElem?_setIfInBounds, List.length_cons]; by_cases hi : i < o
  ·rw [if_pos (by omega), if_neg (by omega), if_pos hi]
  ·by_cases ho : i = o
   ·subst ho; rw [if_pos (by omega), if_pos rfl, if_neg hi, if_pos (by omega)]; rw [if_pos (by omega)]; simp
   ·rw [if_neg (by omega), if_neg hi]; by_cases hl : i < o + 1 + r.length
    ·rw [if_pos hl, if_pos (by omega), show i - o = (i - (o + 1)) + 1 by omega]; simp
    ·rw [if_neg hl, if_neg (by omega), if_neg (by omega)]
theorem setCells_new (w : World) (T : TypeId) (z : Array Value) (cs : Array Value) (h : z.size = cs.size) : (w.alloc (.cells z T)).setCells w.heap.size 0 cs.toList = w.alloc (.cells cs T) := by
 rw [setCells_over]; obtain ⟨h1, h2⟩ := overL_get cs.toList 0 z (by simp; omega)
 have : overL z 0 cs.toList = cs := by
  apply Array.ext_getElem?
  intro i; rw [h2, if_neg (by omega)]; by_cases hi : i < cs.size
  ·rw [if_pos (by simpa using hi)]; simp
  ·rw [if_neg (by simpa using hi), Array.getElem?_eq_none (by omega), Array.getElem?_eq_none (by omega)]
 rw [this]
theorem there_new (w : World) (T : TypeId) (z : Array Value) (n : Nat) (h : n ≤ z.size) : (w.alloc (.cells z T)).there w.heap.size 0 n := by
 intro j hj; rw [Nat.zero_add]; have hb := Blk.new w T z; refine ⟨?_, hb.frozen j⟩; rw [hb.cell, Array.getElem?_eq_getElem (by omega)]; rfl
def strC (s : ByteArray) : List Value := [.string s]
theorem strC_len (s : ByteArray) : (strC s).length = 1 := rfl
theorem RowS.str {w : World} {A : Option Addr} {k : Nat} {l : List ByteArray} (h : RowS strC w A k l) {i : Nat} (hi : i < k) : ∃ b off, ∃ n : ByteArray, A = some ⟨b, off, none⟩ ∧ w.cell? ⟨b, off + i, none⟩ = some (.string n) ∧ Hid (l[i]? = some n) := by
 have hil : i < l.length := by have := h.2.1; omega
 obtain ⟨b, off, hA, hc⟩ := h.at_ strC_len (by omega) hi hil; refine ⟨b, off, l[i], hA, ?_, List.getElem?_eq_getElem hil⟩; have := hc.out 0 _ rfl
 rwa [Nat.mul_one, Nat.add_zero] at this
theorem nat_rows {w : World} {A : Option Addr} {k : Nat} {l : List Nat} (h : RowS natC w A k l) : RowS intC w A k (l.map fun n : Nat => (n : Int)) := by
 refine ⟨?_, by rw [List.length_map]; exact h.2.1, h.2.2⟩
 have e : (l.map fun n : Nat => (n : Int)).flatMap intC = l.flatMap natC := by
  clear h
  induction l with
  | nil => rfl
  | cons a l ih => rw [List.map_cons, List.flatMap_cons, List.flatMap_cons, ih]; rfl
 rw [e]; exact h.1
theorem ownsRow_keep {w w' : World} {base : Nat} {e : TypeId} {size : Nat} {v : Value} {n : Nat} {xs : List Value} (h : w.ownsRow base e size v n xs) (hk : ∀ g, v.ownBlock = some g → w'.heap[g]? = w.heap[g]?) : w'.ownsRow base e size v n xs := by
 refine ⟨h.1, ?_⟩
 rcases h.2 with h0 | ⟨g, cap, cur, rfl, hb, hh, r⟩
 ·exact .inl h0
 ·exact .inr ⟨g, cap, cur, rfl, hb, (hk g rfl).trans hh, r⟩
theorem ownsRow_lt {w : World} {base : Nat} {e : TypeId} {size : Nat} {v : Value} {n : Nat} {xs : List Value} (h : w.ownsRow base e size v n xs) : ∀ g, v.ownBlock = some g → g < w.heap.size := by
 intro g hg
 rcases h.2 with ⟨rfl, _⟩ | ⟨g', cap, cur, rfl, hb, hh, r⟩
 ·simp [Value.ownBlock] at hg
 ·simp [Value.ownBlock] at hg; subst hg
  rcases Nat.lt_or_ge g' w.heap.size with h1 | h1
  ·exact h1
  ·rw [Array.getElem?_eq_none h1] at hh; cases hh
theorem grown_new {a w w' : World} {g : Nat} {row : Option Nat} (h : a.grownBy w (some g)) (k : w.grownBy w' row) (hr : ∀ j, row = some j → a.heap.size ≤ j) : a.grownBy w' (some g) :=
 ⟨k.os.trans h.os, k.tape.trans h.tape, k.output.trans h.output, Nat.le_trans h.size k.size, fun i hi hn => (k.block i (Nat.lt_of_lt_of_le hi h.size) (fun e => by have := hr i e.symm; omega)).trans (h.block i hi hn)⟩
theorem cell_grown {w w' : World} {g : Nat} (hb : w.grownBy w' (some g)) {a : Addr} {v : Value} (h : w.cell? a = some v) (hne : a.block ≠ g) : w'.cell? a = some v := by
 rw [World.cell?_of_block (w := w) (hb.block _ (cell_lt h) (fun e => hne (by injection e)))]; exact h
theorem own_rowS {α : Type} {f : α → List Value} {m : Nat} (hf : ∀ x, (f x).length = m) {w : World} {base : Nat} {e : TypeId} {v : Value} {n : Nat} {l : List α} (hm : 0 < m) (hn : n ≤ 281474976710656) (h : w.ownsRow base e m v n (l.flatMap f)) : ∃ A c, v = .slice A n c ∧ RowS f w A n l := by
 have hlen : l.length = n := by
  have := h.1; rw [flat_len hf] at this; exact Nat.eq_of_mul_eq_mul_right hm this
 rcases h.2 with ⟨rfl, h0⟩ | ⟨g, cap, cur, rfl, hb, hh, h1, h2, h3, h4⟩
 ·subst h0; have : l = [] := List.eq_nil_of_length_eq_zero hlen; subst this; exact ⟨none, 0, rfl, fun h => absurd rfl h, hlen.symm, by omega⟩
 ·refine ⟨_, cap, rfl, fun _ => ⟨g, 0, rfl, fun i hi => ?_⟩, hlen.symm, hn⟩; rw [Nat.zero_add, World.ownsRow.cellAt h i (by rw [← h.1]; exact hi)]; exact List.getElem?_eq_getElem hi
theorem overL_full (z cs : Array Value) (h : z.size = cs.size) : overL z 0 cs.toList = cs := by
 obtain ⟨h1, h2⟩ := overL_get cs.toList 0 z (by simp; omega)
 apply Array.ext_getElem?
 intro i; rw [h2, if_neg (by omega)]; by_cases hi : i < cs.size
 ·rw [if_pos (by simpa using hi)]; simp
 ·rw [if_neg (by simpa using hi), Array.getElem?_eq_none (by omega), Array.getElem?_eq_none (by omega)]
theorem Blk.over {g : Nat} {T : TypeId} : ∀ (vs : List Value) (o : Nat) {w : World} {arr : Array Value}, Blk w g T arr → Blk (w.setCells g o vs) g T (overL arr o vs)
 | [], _, _, _, h => h
 | v :: r, o, _, _, h => Blk.over r (o + 1) (h.set_ o v)
theorem Blk.setAll {w : World} {g : Nat} {T : TypeId} {z cs : Array Value} (h : Blk w g T z) (e : z.size = cs.size) : Blk (w.setCells g 0 cs.toList) g T cs := by
 have := Blk.over cs.toList 0 h
 rwa [overL_full z cs e] at this
theorem Blk.farAll {g g' : Nat} {T : TypeId} (hne : g ≠ g') : ∀ (vs : List Value) (o : Nat) {w : World} {arr : Array Value}, Blk w g T arr → Blk (w.setCells g' o vs) g T arr
 | [], _, _, _, h => h
 | v :: r, o, _, _, h => Blk.farAll hne r (o + 1) (h.far (p := ⟨g', o, none⟩) hne v)
theorem Blk.there {w : World} {g : Nat} {T : TypeId} {z : Array Value} {n : Nat} (h : Blk w g T z) (e : z.size = n) : w.there g 0 n := by
 intro j hj; rw [Nat.zero_add]; refine ⟨?_, h.frozen j⟩; rw [h.cell, Array.getElem?_eq_getElem (by omega)]; rfl
theorem below_setAll {B g : Nat} {a : World} (hb : B ≤ g) : ∀ (vs : List Value) (o : Nat) {w : World}, Below B a w → Below B a (w.setCells g o vs)
 | [], _, _, h => h
 | v :: r, o, _, h => below_setAll hb r (o + 1) (h.setCell (p := ⟨g, o, none⟩) hb v)
theorem Blk.grown {w w' : World} {g : Nat} {T : TypeId} {z : Array Value} {row : Option Nat} (h : Blk w g T z) (k : w.grownBy w' row) (hne : ∀ j, row = some j → g ≠ j) : Blk w' g T z :=
 (k.block g h.lt (fun e => hne g e.symm rfl)).trans h
theorem own_set {w : World} {base : Nat} {e : TypeId} {size : Nat} {v : Value} {n : Nat} {xs : List Value} (h : w.ownsRow base e size v n xs) {p : Addr} (hp : p.block < base) (u : Value) : (w.setCell p u).ownsRow base e size v n xs :=
 ownsRow_keep h fun g hg => Below.heap_setCell w p u g (fun e => by have := own_block_ge h g hg; omega)
theorem own_below {w w' : World} {base : Nat} {e : TypeId} {size : Nat} {v : Value} {n : Nat} {xs : List Value} (h : w.ownsRow base e size v n xs) (hb : Below w.heap.size w w') : w'.ownsRow base e size v n xs :=
 ownsRow_keep h fun g hg => hb.block g (ownsRow_lt h g hg)
theorem own_mono {w : World} {base base' : Nat} {e : TypeId} {size : Nat} {v : Value} {n : Nat} {xs : List Value} (h : w.ownsRow base e size v n xs) (hb : base' ≤ base) : w.ownsRow base' e size v n xs := by
 refine ⟨h.1, ?_⟩
 rcases h.2 with h0 | ⟨g, cap, cur, rfl, hg, r⟩
 ·exact .inl h0
 ·exact .inr ⟨g, cap, cur, rfl, Nat.le_trans hb hg, r⟩
/-- apart: no block is both's -/
def Apt (v u : Value) : Prop := ∀ g, v.ownBlock = some g → u.ownBlock ≠ some g
theorem own_other {w w' : World} {base : Nat} {e : TypeId} {size : Nat} {v u : Value} {n : Nat} {xs : List Value} (h : w.ownsRow base e size u n xs) (k : w.grownBy w' v.ownBlock) (ha : Apt v u) : w'.ownsRow base e size u n xs :=
 ownsRow_keep h fun g hg => k.block g (ownsRow_lt h g hg) (fun e => ha g e.symm hg)
theorem own_shp {w : World} {base : Nat} {e : TypeId} {size : Nat} {v : Value} {n : Nat} {xs : List Value} (h : w.ownsRow base e size v n xs) : ∃ A c, v = .slice A n c := by
 rcases h.2 with ⟨rfl, rfl⟩ | ⟨g, cap, cur, rfl, _⟩
 ·exact ⟨_, _, rfl⟩
 ·exact ⟨_, _, rfl⟩
theorem Apt.symm {v u : Value} (h : Apt v u) : Apt u v := fun g hu hv => h g hv hu
theorem Apt.step {w : World} {base : Nat} {e : TypeId} {size : Nat} {v v' u : Value} {n : Nat} {xs : List Value} (h : w.ownsRow base e size u n xs) (ha : Apt v u) (k : v'.ownBlock = v.ownBlock ∨ v'.ownBlock = some w.heap.size) : Apt v' u := by
 intro g hg hu
 rcases k with k | k
 ·exact ha g (k ▸ hg) hu
 ·have := ownsRow_lt h g hu; rw [k] at hg; injection hg with hg; omega
theorem quiet_load_mid {w0 : World} {C : World → Prop} {op : Oper} {a : Act} (ty : TypeId) (x : Operand) (ho : op.op = .load ty x) (b o : Nat) (hx : a.eval x = .pointer (some ⟨b, o, none⟩)) (cs : List Value) (d : TypeDesc) (hc : w0.rangeAt b o cs)
  (hu : P.underlying ty = some d) (hd : d.isRow = true) (hi : (P.info? ty).map (·.size) = some cs.length) (w : World) (hw : ∃ n, w = w0.drewN n) : op.quietAt P a C w (.agg cs.toArray) := by
 obtain ⟨n, rfl⟩ := hw; have hc2 : (w0.drewN n).rangeAt b o cs := hc; unfold Oper.quietAt execOp; simp only [ho, hx, Instr.loadAt, Instr.sureAddr, Sem.run_bind, Sem.run_pure, Result.andThen_ok, run_loadVar_mid (w0.drewN n) b o ty cs d hc2 hu hd hi]; exact ⟨rfl, rfl⟩
theorem wp_buildTo {o : Oper} {a : Act} {w : World} {K : Act → World → Prop} {Q : Exit → Act → World → Prop} (t : TypeId) (parts : Array (Nat × Operand)) (ho : o.op = .build t parts)
  (cells : Array Value) (hf : P.built t (parts.map fun (i, x) => (i, a.eval x)).toList = some cells) (h : K (a.put o.dst (.agg cells)) w) : o.wp P a w K Q := by
 refine wp_build t parts ho (by rw [hf]; rfl) ?_; rw [hf]; exact h
theorem wp_name {c : Code} {Q : Exit → Act → World → Prop} {a : Act} {w : World} (h : ∀ W, Hid (W = w) → c.wp P Q a W) : c.wp P Q a w := h w rfl
theorem calls_name {f : Nat} {args : Array Value} {w : World} {Q : Ending → World → Prop} (h : ∀ W, Hid (W = w) → Calls P f args W Q) : Calls P f args w Q := h w rfl
theorem wpList_name {ops : Array Oper} {rest : List Oper} {Q : Exit → Act → World → Prop} {a : Act} {w : World} (h : ∀ W, Hid (W = w) → wpList P ops Q rest a W) : wpList P ops Q rest a w := h w rfl
theorem wpList_sliceN {ops : Array Oper} {rest : List Oper} {o : Oper} {a : Act} {w : World} {Q : Exit → Act → World → Prop} (hg : o.guard = none) (t e : TypeId) (len : Nat) (pl : List (Nat × Operand)) (ho : o.op = .buildSlice t len pl.toArray)
  (cells : Array Value) (ie : TypeInfo) (z : Value) (n : Nat) (vals : List (Nat × Value))
  (hu : P.underlying t = some (.slice e)) (hie : P.info? e = some ie) (hz : ie.zero = some z) (hn : ie.size = n) (hsmall : ¬ len * n > 2 ^ 24) (hpos : ¬ len * n = 0) (hv : (pl.map fun (i, x) => (i, a.eval x)) = vals)
  (hf : Instr.fill (fun i => some (i * n, n)) ((Array.range (len * n)).map (z.cells[· % z.cells.size]!)) vals = some cells)
  (h : wpList P ops Q rest (a.put o.dst (.slice (some ⟨w.heap.size, 0, none⟩) len len)) (w.alloc (.cells cells e))) : wpList P ops Q (o :: rest) a w := by
 subst hn; exact wpList_buildSlice hg t e len _ ho cells ie z hu hie hz hsmall hpos (by rw [← hv] at hf; simpa using hf) h
theorem wp_sliceN {o : Oper} {a : Act} {w : World} {K : Act → World → Prop} {Q : Exit → Act → World → Prop} (t e : TypeId) (len : Nat) (pl : List (Nat × Operand)) (ho : o.op = .buildSlice t len pl.toArray)
  (cells : Array Value) (ie : TypeInfo) (z : Value) (n : Nat) (vals : List (Nat × Value))
  (hu : P.underlying t = some (.slice e)) (hie : P.info? e = some ie) (hz : ie.zero = some z) (hn : ie.size = n) (hsmall : ¬ len * n > 2 ^ 24) (hpos : ¬ len * n = 0) (hv : (pl.map fun (i, x) => (i, a.eval x)) = vals)
  (hf : Instr.fill (fun i => some (i * n, n)) ((Array.range (len * n)).map (z.cells[· % z.cells.size]!)) vals = some cells)
  (h : K (a.put o.dst (.slice (some ⟨w.heap.size, 0, none⟩) len len)) (w.alloc (.cells cells e))) : o.wp P a w K Q := by
 subst hn; exact wp_buildSlice t e len _ ho cells ie z hu hie hz hsmall hpos (by rw [← hv] at hf; simpa using hf) h
theorem wpList_buildTo {ops : Array Oper} {rest : List Oper} {o : Oper} {a : Act} {w : World} {Q : Exit → Act → World → Prop} (hg : o.guard = none) (t : TypeId) (pl : List (Nat × Operand)) (ho : o.op = .build t pl.toArray)
  (cells : Array Value) (hf : P.built t (pl.map fun (i, x) => (i, a.eval x)) = some cells) (h : wpList P ops Q rest (a.put o.dst (.agg cells)) w) : wpList P ops Q (o :: rest) a w :=
 wpList_plain hg fun _ hK => wp_buildTo t _ ho cells (by simpa using hf) (hK _ _ h)
/-- a slice that was handed in: as long as can be -/
def RowL {α : Type} (f : α → List Value) (w : World) (A : Option Addr) (k : Nat) (l : List α) : Prop := Rd w A (l.flatMap f) ∧ k = l.length ∧ k ≤ 9223372036854775807
theorem RowL.below {α : Type} {f : α → List Value} {w w' : World} {A : Option Addr} {k : Nat} {l : List α} (h : RowL f w A k l) (hb : Below w.heap.size w w') : RowL f w' A k l := ⟨h.1.below hb, h.2⟩
theorem RowL.at_ {α : Type} {f : α → List Value} {m : Nat} (hf : ∀ x, (f x).length = m) (hm : 0 < m) {w : World} {A : Option Addr} {k : Nat} {l : List α} (h : RowL f w A k l) {i : Nat} (hi : i < k) (hil : i < l.length) :
  ∃ b off, A = some ⟨b, off, none⟩ ∧ Hid (∀ j v, (f l[i])[j]? = some v → w.cell? ⟨b, off + i * m + j, none⟩ = some v) := by
 have hne : l.flatMap f ≠ [] := by
  intro e; have := flat_len hf l; rw [e] at this; have h2 : 0 < l.length * m := Nat.mul_pos (by omega) hm; simp at this; omega
 obtain ⟨b, off, hA, hc⟩ := h.1 hne; refine ⟨b, off, hA, fun j v hv => ?_⟩; have h1 := flat_get hf l i j hil v hv; obtain ⟨h2, h3⟩ := List.getElem?_eq_some_iff.1 h1; have := hc _ h2; rw [h3, ← Nat.add_assoc] at this; exact this
theorem RowL.int {w : World} {A : Option Addr} {k : Nat} {l : List Int} (h : RowL intC w A k l) {i : Nat} (hi : i < k) : ∃ b off, ∃ n : Int, A = some ⟨b, off, none⟩ ∧ w.cell? ⟨b, off + i, none⟩ = some (.int .i64 n) ∧ Hid (l[i]? = some n) := by
 have hil : i < l.length := by have := h.2.1; omega
 obtain ⟨b, off, hA, hc⟩ := h.at_ intC_len (by omega) hi hil; refine ⟨b, off, l[i], hA, ?_, List.getElem?_eq_getElem hil⟩; have := hc.out 0 _ rfl
 rwa [Nat.mul_one, Nat.add_zero] at this
/-- no limb is here -/
def NoU (arr : Array Value) : Prop := ∀ (i : Nat) (n : Int), arr[i]? ≠ some (.int .u32 n)
theorem Lim.setB {w : World} {A : Option Addr} {c g i : Nat} {T : TypeId} {arr : Array Value} {l : List Nat} (h : Lim w A c l) (hb : Blk w g T arr) (hn : NoU arr) (u : Value) : Lim (w.setCell ⟨g, i, none⟩ u) A c l := by
 by_cases hl : l = []
 ·subst hl; exact ⟨fun hx => absurd rfl hx, h.2⟩
 ·refine h.only (only_set w i u) (fun b off hA e => ?_); have h0 : 0 < l.length := List.length_pos_iff.2 hl; obtain ⟨b', off', hA', hc⟩ := h.at_ h0; rw [hA'] at hA; injection hA with hA; injection hA with e1 e2; have h1 := hc 0 h0; rw [e1, e, hb.cell] at h1; exact hn _ _ h1
theorem Rat.setB {w : World} {v : Value} {p q g i : Nat} {T : TypeId} {arr : Array Value} (h : Rat w v p q) (hb : Blk w g T arr) (hn : NoU arr) (u : Value) : Rat (w.setCell ⟨g, i, none⟩ u) v p q := by
 obtain ⟨A1, k1, c1, A2, k2, c2, rfl, h1, h2⟩ := h; exact ⟨A1, k1, c1, A2, k2, c2, rfl, ⟨h1.1, h1.2.setB hb hn u⟩, ⟨h2.1, h2.2.setB hb hn u⟩⟩
theorem NoU.set {arr : Array Value} (h : NoU arr) {i : Nat} {u : Value} (hu : ∀ n, u ≠ .int .u32 n) : NoU (arr.setIfInBounds i u) := by
 intro j n e; by_cases hj : i = j
 ·subst hj; rw [Array.getElem?_setIfInBounds_self] at e
  split at e
  ·injection e with e; exact hu n e
  ·cases e
 ·rw [Array.getElem?_setIfInBounds_ne hj] at e; exact h j n e
theorem wp_buildV {P : Program} {o : Oper} {a : Act} {w : World} {K : Act → World → Prop} {Q : Exit → Act → World → Prop} (t : TypeId) (pl : List (Nat × Operand)) (ho : o.op = .build t pl.toArray)
  (cells : Array Value) (vals : List (Nat × Value)) (hv : (pl.map fun (i, x) => (i, a.eval x)) = vals) (hf : P.built t vals = some cells) (h : K (a.put o.dst (.agg cells)) w) : o.wp P a w K Q :=
 wp_buildTo t _ ho cells (by rw [← hv] at hf; simpa using hf) h
/-- all cells of the slice's own block are so -/
def OwnAll (Pr : Value → Prop) (w : World) (v : Value) : Prop := ∀ g, v.ownBlock = some g → ∀ i x, w.cell? ⟨g, i, none⟩ = some x → Pr x
theorem OwnAll.nil {Pr : Value → Prop} {w : World} {k c : Nat} : OwnAll Pr w (.slice none k c) := fun _ h => by cases h
theorem OwnAll.below {Pr : Value → Prop} {w w' : World} {v : Value} (h : OwnAll Pr w v) (hb : Below w.heap.size w w') (hv : ∀ g, v.ownBlock = some g → g < w.heap.size) : OwnAll Pr w' v := by
 intro g hg i x hx; refine h g hg i x ?_; rw [← World.cell?_of_block (w := w) (w' := w') (a := ⟨g, i, none⟩) (hb.block g (hv g hg))]; exact hx
theorem OwnAll.blk {Pr : Value → Prop} {w : World} {g k c : Nat} {T : TypeId} {arr : Array Value} (hb : Blk w g T arr) (h : ∀ x ∈ arr.toList, Pr x) : OwnAll Pr w (.slice (some ⟨g, 0, none⟩) k c) := by
 intro g' hg i x hx; simp only [Value.ownBlock, Option.some.injEq] at hg; subst hg; rw [hb.cell] at hx; exact h x (by rw [Array.mem_toList_iff]; exact Array.mem_of_getElem? hx)
theorem zeroCells_mem {z : Array Value} {n : Nat} {x : Value} (h : x ∈ (Builtin.zeroCells z n).toList) : x ∈ z.toList := by
 simp only [Builtin.zeroCells] at h; simp at h; obtain ⟨i, hi, rfl⟩ := h
 rcases Nat.eq_zero_or_pos z.size with h0 | h0
 ·rw [h0] at hi; omega
 ·have := Nat.mod_lt i h0; simp [Nat.mod_lt i h0]
theorem run_append_all (w : World) (Pr : Value → Prop) (base : Nat) (t ty e : TypeId) (i : TypeInfo) (z : Value) (size bytes : Nat) (ht : P.underlying t = some (.slice e)) (hi : P.info? e = some i) (hz : i.zero = some z)
  (hsize : i.size = size) (hby : i.bytes = bytes) (hzs : z.cells.size = size) (hsz : 0 < size)
  (v : Value) (n : Nat) (xs : List Value) (hown : w.ownsRow base e size v n xs)
  (A : Option Addr) (m c : Nat) (news : List Value) (hm : news.length = m * size) (hr : Rd w A news) (h1 : ∀ u ∈ news, u.oneCell' = true)
  (h63 : n + m ≤ maxLen) (hbytes : (n + m) * bytes ≤ 140737488355328) (hbase : base ≤ w.heap.size)
  (hPz : ∀ x ∈ z.cells.toList, Pr x) (hPn : ∀ x ∈ news, Pr x) (hPo : OwnAll Pr w v) :
  ∃ v' w', (Builtin.append_ #[t, t] ty #[v, .slice A m c]).run P w = .ok v' w' ∧ w'.ownsRow base e size v' (n + m) (xs ++ news) ∧ w.grownBy w' v.ownBlock ∧
   (v'.ownBlock = v.ownBlock ∨ v'.ownBlock = some w.heap.size) ∧ OwnAll Pr w' v' := by
 obtain ⟨v', w', hrun, h2, h3, h4⟩ := run_append_any (P := P) w base t ty e i z size bytes ht hi hz hsize hby hzs hsz v n xs hown A m c news hm hr h1 h63 hbytes hbase; refine ⟨v', w', hrun, h2, h3, h4, ?_⟩; subst hsize; have hsmall : n + m ≤ 9223372036854775807 := by simp only [maxLen] at h63; omega
 by_cases h0 : news = []
 ·subst h0
  have hm0 : m = 0 := by
   rcases Nat.eq_zero_or_pos m with h0 | h0
   ·exact h0
   ·have := Nat.mul_pos h0 hsz; simp at hm; omega
  subst hm0
  have e : (Builtin.append_ #[t, t] ty #[v, .slice A 0 c]).run P w = .ok v w := by
   rcases A with _ | ad
   ·exact run_append_of_nil w base t ty e i i.size ht hi v n xs hown c
   ·rcases hown.2 with ⟨rfl, rfl⟩ | ⟨g, cap, cur, rfl, _, _, hnc, _⟩
    ·simp [Builtin.append_, run_underlying ht, sizeOf, typeInfo, hi, Builtin.lenOf, Builtin.firstCells, loadCells, loadCellsFrom]
    ·simp [Builtin.append_, run_underlying ht, sizeOf, typeInfo, hi, Builtin.lenOf, Builtin.firstCells, hnc, storeCells, loadCells, loadCellsFrom]
  rw [e] at hrun; injection hrun with e1 e2; subst e1 e2; exact hPo
 ·obtain ⟨b, off, rfl, hc⟩ := hr h0
  have hmp : 0 < m := by
   rcases Nat.eq_zero_or_pos m with h | h
   ·subst h; exact absurd (List.eq_nil_of_length_eq_zero (by simpa using hm)) h0
   ·exact h
  have hcells : ∀ j u, news[j]? = some u → w.cell? ((⟨b, off, none⟩ : Addr).add j) = some u := by
   intro j u hu; have hj : j < news.length := (List.getElem?_eq_some_iff.1 hu).1; rw [List.getElem?_eq_getElem hj] at hu; have := hc j hj; have e : (⟨b, off, none⟩ : Addr).add j = ⟨b, off + j, none⟩ := by unfold Addr.add; split <;> simp_all
   rw [e, this]; exact hu
  rcases hown.2 with ⟨rfl, rfl⟩ | ⟨g, cap, cur, rfl, hbg, hg, hnc, hcm, hcs, htake⟩
  ·have hr := run_append_nil (P := P) w t ty e i z ht hi hz ⟨b, off, none⟩ m c news hm hcells hmp (by omega) (by rw [hby]; simp only [Nat.zero_add] at hbytes; omega); rw [hr] at hrun; injection hrun with e1 e2; subst e1 e2; refine OwnAll.blk (Blk.new w.drew e _) fun x hx => ?_
   rw [Array.toList_append] at hx
   rcases List.mem_append.1 hx with h | h
   ·exact hPn x (by simpa using h)
   ·exact hPz x (zeroCells_mem h)
  ·have hcur : ∀ x ∈ cur.toList, Pr x := by
    intro x hx; obtain ⟨j, hj, e⟩ := List.getElem_of_mem hx; refine hPo g rfl j x ?_; rw [cell_of_row w g j cur _ _ hg]; rw [← e]; simp
   by_cases hroom : n + m ≤ cap
   ·have hfit : n * i.size + news.length ≤ cur.size := by rw [hm, hcs, ← Nat.add_mul]; exact Nat.mul_le_mul_right _ hroom
    have hr := run_append_room (P := P) w t ty e i ht hi g n cap cur hg ⟨b, off, none⟩ m c news hm hcells h1 hroom hfit; rw [hr] at hrun; injection hrun with e1 e2; subst e1 e2; refine OwnAll.blk (setRow_heap w g cur _ e _ hg) fun x hx => ?_
    simp only [List.mem_append] at hx
    rcases hx with (h | h) | h
    ·exact hcur x (List.mem_of_mem_take h)
    ·exact hPn x h
    ·exact hcur x (List.mem_of_mem_drop h)
   ·have holds : ∀ j u, xs[j]? = some u → w.cell? ((⟨g, 0, none⟩ : Addr).add j) = some u := hown.cells (g := g) rfl; have hr := run_append_grow (P := P) w t ty e i z ht hi hz ⟨g, 0, none⟩ n cap xs hown.1 holds ⟨b, off, none⟩ m c news hm hcells (by omega) (by omega) (growslice_fits (by omega) (by rw [hby]; exact hbytes)); rw [hr] at hrun; injection hrun with e1 e2; subst e1 e2; refine OwnAll.blk (Blk.new w.drew e _) fun x hx => ?_
    simp only [Array.toList_append, List.mem_append] at hx
    rcases hx with (h | h) | h
    ·exact hcur x (List.mem_of_mem_take (by rw [htake]; exact h))
    ·exact hPn x h
    ·exact hPz x (zeroCells_mem h)
theorem wpList_append_all {ops : Array Oper} {rest : List Oper} {o : Oper} {a : Act} {w : World} {Q : Exit → Act → World → Prop} (hgd : o.guard = none) (Pr : Value → Prop) (s x : Operand) (t : TypeId)
  (ho : o.op = .call { callee := .builtin .append, args := #[s, x], argTypes := #[t, t] })
  (base : Nat) (e : TypeId) (i : TypeInfo) (z : Value) (size bytes : Nat) (ht : P.underlying t = some (.slice e)) (hi : P.info? e = some i) (hz : i.zero = some z)
  (hsize : i.size = size) (hby : i.bytes = bytes) (hzs : z.cells.size = size) (hsz : 0 < size)
  (v : Value) (n : Nat) (xs : List Value) (hs : a.eval s = v) (hown : w.ownsRow base e size v n xs)
  (A : Option Addr) (m c : Nat) (news : List Value) (hx : a.eval x = .slice A m c) (hm : news.length = m * size) (hr : Rd w A news) (h1 : ∀ u ∈ news, u.oneCell' = true)
  (h63 : n + m ≤ maxLen) (hbytes : (n + m) * bytes ≤ 140737488355328) (hbase : base ≤ w.heap.size)
  (hPz : ∀ x ∈ z.cells.toList, Pr x) (hPn : ∀ x ∈ news, Pr x) (hPo : OwnAll Pr w v)
  (h : ∀ v' w', w'.ownsRow base e size v' (n + m) (xs ++ news) → w.grownBy w' v.ownBlock → (v'.ownBlock = v.ownBlock ∨ v'.ownBlock = some w.heap.size) → OwnAll Pr w' v' → wpList P ops Q rest (a.put o.dst v') w') : wpList P ops Q (o :: rest) a w := by
 refine wpList_plain hgd fun K hK => ?_
 obtain ⟨v', w', hrun, h2, h3, h4, h5⟩ := run_append_all (P := P) w Pr base t o.type e i z size bytes ht hi hz hsize hby hzs hsz v n xs hown A m c news hm hr h1 h63 hbytes hbase hPz hPn hPo; unfold Oper.wp execOp; simp only [ho, resolve, invoke, builtin, Sem.run_bind, Sem.run_pure, Result.andThen_ok, List.map_toArray, List.map_cons, List.map_nil, hs, hx, hrun]; exact hK _ _ (h v' w' h2 h3 h4 h5)
/-- no limb -/
def NoL (v : Value) : Prop := ∀ n, v ≠ .int .u32 n
theorem Lim.grownBy {w w' : World} {A : Option Addr} {c : Nat} {l : List Nat} {a : Value} (h : Lim w A c l) (k : w.grownBy w' a.ownBlock) (hO : OwnAll NoL w a) : Lim w' A c l := by
 refine ⟨fun hx => ?_, h.2⟩; obtain ⟨b, off, rfl, hc⟩ := h.1 hx; have hl : 0 < (u32s l).length := List.length_pos_iff.2 hx; refine ⟨b, off, rfl, fun i hi => ?_⟩; refine World.grownBy.cell k (hc i hi) fun e => ?_
 have h0 := hc 0 hl; have := hO b e.symm _ _ h0; have h2 : (u32s l)[0] ∈ u32s l := List.getElem_mem hl; unfold u32s at h2; obtain ⟨n, _, hn⟩ := List.mem_map.1 h2; exact this n hn.symm
theorem Rat.grownBy {w w' : World} {v a : Value} {p q : Nat} (h : Rat w v p q) (k : w.grownBy w' a.ownBlock) (hO : OwnAll NoL w a) : Rat w' v p q := by
 obtain ⟨A1, k1, c1, A2, k2, c2, rfl, h1, h2⟩ := h; exact ⟨A1, k1, c1, A2, k2, c2, rfl, ⟨h1.1, h1.2.grownBy k hO⟩, ⟨h2.1, h2.2.grownBy k hO⟩⟩
theorem nil_rat {w : World} : Rat w (.agg #[.slice none 0 0, .slice none 0 0]) 0 1 := ⟨none, 0, 0, none, 0, 0, rfl, Nb.zero _, Nb.zero _⟩
theorem g01 : Nm.Good 0 1 := ⟨by omega, rfl, fits_small (b64 (by omega)) (b64 (by omega))⟩
theorem own_nil0 (w : World) (T : TypeId) (size : Nat) : (w.alloc (.cells #[] T)).ownsRow w.heap.size T size (.slice (some ⟨w.heap.size, 0, none⟩) 0 0) 0 [] :=
 ⟨by simp, .inr ⟨_, 0, #[], rfl, Nat.le_refl _, heap_alloc_new w _, Nat.le_refl _, by unfold maxLen; omega, by simp, by simp⟩⟩
theorem own_any {α : Type} {f : α → List Value} {m : Nat} (hf : ∀ x, (f x).length = m) {w : World} {base : Nat} {T : TypeId} {A : Option Addr} {n c : Nat} {X : List α} (hm : 0 < m) (hn : n ≤ 281474976710656) (h : w.ownsRow base T m (.slice A n c) n (X.flatMap f)) : RowS f w A n X := by
 obtain ⟨_, _, e, hr⟩ := own_rowS hf hm hn h; injection e with e1 _ _; subst e1; exact hr
theorem rtl_rat {w : World} {v : Value} {p q : Nat} (h : Rat w v p q) : RtL w v (Nm.lb p) (Nm.lb (Nm.dn q)) := by
 obtain ⟨A1, k1, c1, A2, k2, c2, rfl, h1, h2⟩ := h; exact ⟨A1, k1, c1, A2, k2, c2, rfl, h1.2, h2.2, h1.1, h2.1⟩
/-- the first error of a list -/
noncomputable def fbad {α : Type} (f : α → Int × Int) (xs : List α) : Int :=
 match xs.find? (fun x => (f x).2 != 0) with
 | some x => (f x).2
 | none => 0
theorem info_int : (Tryz.prog.info? 3).map (fun i => (i.zero, i.size, i.bytes)) = some (some (.int .i64 0), 1, 8) := by kernel_rfl
theorem take_map {α : Type} {f : α → Value} {xs : List α} {i : Nat} {x : α} {v : Value} (h : xs[i]? = some x) (e : f x = v) : (xs.take i).map f ++ [v] = (xs.take (i + 1)).map f := by
 obtain ⟨hi, h2⟩ := List.getElem?_eq_some_iff.1 h; rw [List.take_succ_eq_append_getElem hi, List.map_append, h2, ← e]; rfl
end Go.Proofs.YtmbfjmilhfmnkaaGreatDoor
namespace Go.Proofs.YtmbfjmilhfmnkaaGreatDoor
open Go Go.RowKit
/- the encoding of integers, in plain numbers -/
namespace Wi
/-- the number of bytes of a number -/
def nb (m : Nat) : Nat := if h : m = 0 then 0 else nb (m / 256) + 1
termination_by m
decreasing_by omega
theorem nb_zero : nb 0 = 0 := by rw [nb]; rfl
theorem nb_pos {m : Nat} (h : m ≠ 0) : nb m = nb (m / 256) + 1 := by rw [nb, dif_neg h]
theorem nb_le : ∀ (k m : Nat), nb m ≤ k ↔ m < 256 ^ k
 | 0, m => by
  rw [Nat.pow_zero]; by_cases h : m = 0
  ·subst h; rw [nb_zero]; simp
  ·rw [nb_pos h]; omega
 | k + 1, m => by
  by_cases h : m = 0
  ·subst h; rw [nb_zero]; simp [Nat.pow_pos]
  ·rw [nb_pos h, Nat.add_le_add_iff_right, nb_le k (m / 256), Nat.div_lt_iff_lt_mul (by omega), ← Nat.pow_succ]
/-- big-endian digits -/
def be : Nat → Nat → List Nat
 | 0, _ => []
 | k + 1, m => (m / 256 ^ k % 256) :: be k m
theorem be_len : ∀ (k m : Nat), (be k m).length = k
 | 0, _ => rfl
 | k + 1, m => by rw [be, List.length_cons, be_len k m]
theorem be_lt : ∀ (k m : Nat), ∀ d ∈ be k m, d < 256
 | 0, _, d, h => by cases h
 | k + 1, m, d, h => by
  rw [be, List.mem_cons] at h
  rcases h with rfl | h
  ·exact Nat.mod_lt _ (by omega)
  ·exact be_lt k m d h
def val (l : List Nat) : Nat := l.foldl (fun a d => a * 256 + d) 0
theorem val_from (l : List Nat) : ∀ a : Nat, l.foldl (fun a d => a * 256 + d) a = a * 256 ^ l.length + val l := by
 unfold val
 induction l with
 | nil => intro a; simp
 | cons d l ih =>
  intro a; rw [List.foldl_cons, ih, List.foldl_cons, ih (0 * 256 + d), List.length_cons, Nat.pow_succ]
  grind
theorem val_cons (d : Nat) (l : List Nat) : val (d :: l) = d * 256 ^ l.length + val l := by
 unfold val; rw [List.foldl_cons, val_from]; rw [Nat.zero_mul, Nat.zero_add]; rfl
theorem val_snoc (l : List Nat) (d : Nat) : val (l ++ [d]) = val l * 256 + d := by
 unfold val; rw [List.foldl_append]; rfl
theorem val_lt : ∀ l : List Nat, (∀ d ∈ l, d < 256) → val l < 256 ^ l.length
 | [], _ => by simp [val]
 | d :: l, h => by
  have h1 := h d (by simp); have h2 := val_lt l (fun x hx => h x (by simp [hx])); rw [val_cons, List.length_cons, Nat.pow_succ]; have h3 : d * 256 ^ l.length ≤ 255 * 256 ^ l.length := Nat.mul_le_mul_right _ (by omega); omega
theorem be_val : ∀ l : List Nat, (∀ d ∈ l, d < 256) → ∀ a : Nat, be l.length (a * 256 ^ l.length + val l) = l
 | [], _, _ => rfl
 | d :: l, h, a => by
  have h1 := h d (by simp); have hl : ∀ x ∈ l, x < 256 := fun x hx => h x (by simp [hx])
  have h2 := val_lt l hl; rw [List.length_cons, be]
  have e : a * 256 ^ (l.length + 1) + val (d :: l) = (a * 256 + d) * 256 ^ l.length + val l := by
   rw [val_cons, Nat.pow_succ]
   grind
  rw [e, be_val l hl (a * 256 + d)]
  congr 1
  have hp : 0 < 256 ^ l.length := Nat.pow_pos (by omega); rw [Nat.add_comm, Nat.mul_comm, Nat.add_mul_div_left _ _ hp, Nat.div_eq_of_lt h2]; omega
theorem val_be : ∀ (k m : Nat), val (be k m) = m % 256 ^ k
 | 0, m => by simp [be, val, Nat.mod_one]
 | k + 1, m => by
  rw [be, val_cons, be_len, val_be k m, Nat.pow_succ, Nat.mod_mul, Nat.mul_comm (256 ^ k), Nat.add_comm]
/-- a digit, turned for negative numbers -/
def fl (neg : Bool) (d : Nat) : Nat := if neg then 255 - d else d
theorem fl_fl {neg : Bool} {d : Nat} (h : d < 256) : fl neg (fl neg d) = d := by unfold fl; cases neg <;> simp <;> omega
theorem fl_lt {neg : Bool} {d : Nat} (h : d < 256) : fl neg d < 256 := by unfold fl; cases neg <;> simp <;> omega
def negB (n : Int) : Bool := decide (n < 0)
def mag (n : Int) : Nat := if n < 0 then (-1 - n).toNat else n.toNat
def headB (neg : Bool) (k : Nat) : Nat := if neg then 127 - k else 128 + k
def encK (neg : Bool) (m k : Nat) : List Nat := headB neg k :: (be k m).map (fl neg)
def encI (n : Int) : List Nat := encK (negB n) (mag n) (nb (mag n))
theorem mag_lt {n : Int} (h1 : -9223372036854775808 ≤ n) (h2 : n ≤ 9223372036854775807) : mag n < 9223372036854775808 := by
 unfold mag
 split <;> omega
theorem nb_mag {n : Int} (h1 : -9223372036854775808 ≤ n) (h2 : n ≤ 9223372036854775807) : nb (mag n) ≤ 8 := by
 rw [nb_le]; have := mag_lt h1 h2; have e : (256 : Nat) ^ 8 = 18446744073709551616 := by decide
 omega
theorem encI_len {n : Int} (h1 : -9223372036854775808 ≤ n) (h2 : n ≤ 9223372036854775807) : (encI n).length ≤ 9 := by
 unfold encI encK; rw [List.length_cons, List.length_map, be_len]; have := nb_mag h1 h2; omega
theorem encI_lt {n : Int} (h1 : -9223372036854775808 ≤ n) (h2 : n ≤ 9223372036854775807) : ∀ d ∈ encI n, d < 256 := by
 intro d hd; unfold encI encK at hd; have hk := nb_mag h1 h2
 rcases List.mem_cons.1 hd with rfl | hd
 ·unfold headB; split <;> omega
 ·obtain ⟨x, hx, rfl⟩ := List.mem_map.1 hd; exact fl_lt (be_lt _ _ x hx)
def kOf (h : Nat) : Nat := if h < 128 then 127 - h else h - 128
def dgs (h : Nat) (r : List Nat) : List Nat := (r.take (kOf h)).map (fl (decide (h < 128)))
def numI (h : Nat) (r : List Nat) : Int := if h < 128 then -1 - (val (dgs h r) : Int) else (val (dgs h r) : Int)
def getR (h : Nat) (r : List Nat) : Int × Nat × Int := if h < 119 ∨ 136 < h then (0, 0, 2) else if r.length < kOf h then (0, 0, 3) else if (dgs h r).head? = some 0 ∨ 9223372036854775808 ≤ val (dgs h r) then (0, 0, 2) else (numI h r, kOf h + 1, 0)
/-- what a byte sequence's first integer is: value, length, error -/
def getI : List Nat → Int × Nat × Int
 | [] => (0, 0, 3)
 | h :: r => getR h r
def encIs (l : List Int) : List Nat := encI l.length ++ l.flatMap encI
/-- n integers one after the other, from a position on: the integers, the position behind, the error -/
def getN (b : List Nat) : Nat → Nat → List Int → List Int × Nat × Int
 | 0, at_, acc => (acc, at_, 0)
 | n + 1, at_, acc => if (getI (b.drop at_)).2.2 ≠ 0 then ([], 0, (getI (b.drop at_)).2.2) else getN b n (at_ + (getI (b.drop at_)).2.1) (acc ++ [(getI (b.drop at_)).1])
def cntE (b : List Nat) : Int := if (getI b).2.2 ≠ 0 then (getI b).2.2 else if (getI b).1 < 0 then 2 else if ((b.length - (getI b).2.1 : Nat) : Int) < (getI b).1 then 3 else 0
def getIs (b : List Nat) : List Int × Nat × Int := if cntE b ≠ 0 then ([], 0, cntE b) else getN b (getI b).1.toNat (getI b).2.1 []
theorem getR_cases (h : Nat) (r : List Nat) : (getR h r = (0, 0, 2)) ∨ (getR h r = (0, 0, 3)) ∨ (kOf h ≤ 8 ∧ kOf h ≤ r.length ∧ val (dgs h r) < 9223372036854775808 ∧ getR h r = (numI h r, kOf h + 1, 0)) := by
 unfold getR; by_cases h1 : h < 119 ∨ 136 < h
 ·rw [if_pos h1]; exact .inl rfl
 ·rw [if_neg h1]; by_cases h2 : r.length < kOf h
  ·rw [if_pos h2]; exact .inr (.inl rfl)
  ·rw [if_neg h2]; by_cases h3 : (dgs h r).head? = some 0 ∨ 9223372036854775808 ≤ val (dgs h r)
   ·rw [if_pos h3]; exact .inl rfl
   ·rw [if_neg h3]; exact .inr (.inr ⟨by unfold kOf; split <;> omega, by omega, by omega, rfl⟩)
theorem getI_cases (b : List Nat) : (getI b = (0, 0, 2)) ∨ (getI b = (0, 0, 3)) ∨ ∃ h r, b = h :: r ∧ kOf h ≤ 8 ∧ kOf h ≤ r.length ∧ val (dgs h r) < 9223372036854775808 ∧ getI b = (numI h r, kOf h + 1, 0) := by
 rcases b with _ | ⟨h, r⟩
 ·exact .inr (.inl rfl)
 ·rcases getR_cases h r with e | e | e
  ·exact .inl e
  ·exact .inr (.inl e)
  ·exact .inr (.inr ⟨h, r, rfl, e⟩)
theorem getI_err (b : List Nat) : (getI b).2.2 = 0 ∨ (getI b).2.2 = 2 ∨ (getI b).2.2 = 3 := by
 rcases getI_cases b with e | e | ⟨h, r, _, _, _, _, e⟩ <;> rw [e]
 ·exact .inr (.inl rfl)
 ·exact .inr (.inr rfl)
 ·exact .inl rfl
theorem getI_used (b : List Nat) : (getI b).2.1 ≤ b.length ∧ (getI b).2.1 ≤ 9 ∧ ((getI b).2.2 = 0 → 0 < (getI b).2.1) := by
 rcases getI_cases b with e | e | ⟨h, r, e0, h1, h2, _, e⟩ <;> rw [e]
 ·exact ⟨Nat.zero_le _, Nat.zero_le _, fun h => by cases h⟩
 ·exact ⟨Nat.zero_le _, Nat.zero_le _, fun h => by cases h⟩
 ·rw [e0, List.length_cons]; exact ⟨by dsimp only; omega, by dsimp only; omega, fun _ => Nat.succ_pos _⟩
theorem getI_range (b : List Nat) : -9223372036854775808 ≤ (getI b).1 ∧ (getI b).1 ≤ 9223372036854775807 := by
 rcases getI_cases b with e | e | ⟨h, r, e0, h1, h2, h3, e⟩ <;> rw [e]
 ·dsimp only; omega
 ·dsimp only; omega
 ·dsimp only
  unfold numI
  split <;> omega
/-- decoding leads back -/
theorem fl_map {neg : Bool} {l : List Nat} (h : ∀ d ∈ l, d < 256) : (l.map (fl neg)).map (fl neg) = l := by
 rw [List.map_map]
 conv => rhs; rw [← List.map_id l]
 exact List.map_congr_left fun d hd => fl_fl (h d hd)
theorem be_head {m : Nat} (h : m ≠ 0) : (be (nb m) m).head? ≠ some 0 := by
 rw [nb_pos h, be, List.head?_cons]; intro e; injection e with e; have h1 : ¬ nb m ≤ nb (m / 256) := by rw [nb_pos h]; omega
 rw [nb_le] at h1; have h2 : m < 256 ^ (nb (m / 256) + 1) := by rw [← nb_le, nb_pos h]; exact Nat.le_refl _
 have hp : 0 < 256 ^ nb (m / 256) := Nat.pow_pos (by omega); have h3 : 1 ≤ m / 256 ^ nb (m / 256) := (Nat.le_div_iff_mul_le hp).2 (by omega); have h4 : m / 256 ^ nb (m / 256) < 256 := by rw [Nat.div_lt_iff_lt_mul hp, Nat.mul_comm, ← Nat.pow_succ]; exact h2
 omega
theorem getI_enc {n : Int} (h1 : -9223372036854775808 ≤ n) (h2 : n ≤ 9223372036854775807) (rest : List Nat) : getI (encI n ++ rest) = (n, (encI n).length, 0) := by
 have hk := nb_mag h1 h2; have hm := mag_lt h1 h2; have hv : val (be (nb (mag n)) (mag n)) = mag n := by rw [val_be, Nat.mod_eq_of_lt ((nb_le _ _).1 (Nat.le_refl _))]
 have hh : (be (nb (mag n)) (mag n)).head? ≠ some 0 := by
  by_cases h0 : mag n = 0
  ·rw [h0, nb_zero]; simp [be]
  ·exact be_head h0
 have hlen : (encI n).length = nb (mag n) + 1 := by unfold encI encK; rw [List.length_cons, List.length_map, be_len]
 rw [hlen]; unfold encI encK; rw [List.cons_append]; generalize hK : nb (mag n) = k at *
 have e1 : kOf (headB (negB n) k) = k := by
  unfold kOf headB
  cases negB n
  ·rw [if_neg (by simp), if_neg (by simp)]; simp
  ·rw [if_pos rfl, if_pos (by omega)]; omega
 have e2 : decide (headB (negB n) k < 128) = negB n := by
  unfold headB
  cases negB n
  ·rw [if_neg (by simp)]; simp
  ·rw [if_pos rfl]; simp; omega
 have e3 : dgs (headB (negB n) k) (((be k (mag n)).map (fl (negB n))) ++ rest) = be k (mag n) := by
  unfold dgs; rw [e1, e2, List.take_left' (by rw [List.length_map, be_len]), fl_map (be_lt _ _)]
 have e4 : numI (headB (negB n) k) (((be k (mag n)).map (fl (negB n))) ++ rest) = n := by
  have : headB (negB n) k < 128 ↔ n < 0 := by
   unfold negB at e2; exact decide_eq_decide.1 e2
  unfold numI; rw [e3, hv]; by_cases h : n < 0
  ·rw [if_pos (this.2 h)]; unfold mag; rw [if_pos h]; omega
  ·rw [if_neg (fun e => h (this.1 e))]; unfold mag; rw [if_neg h]; omega
 show getR _ _ = _
 unfold getR; rw [e1, e3, e4, hv, if_neg (by unfold headB; split <;> omega), if_neg (by rw [List.length_append, List.length_map, be_len]; omega), if_neg (by intro h; rcases h with h | h; exact hh h; omega)]
/-- the reference's test: the candidate's encoding is the given bytes -/
theorem same_iff {n : Int} {neg : Bool} {k : Nat} {ds : List Nat} (hd : ∀ d ∈ ds, d < 256) (hk : ds.length = k) (hn : negB n = neg) (hm : mag n = val (ds.map (fl neg))) (hk8 : k ≤ 8) : encI n = headB neg k :: ds ↔ ¬ (ds.map (fl neg)).head? = some 0 := by
 have hd2 : ∀ d ∈ ds.map (fl neg), d < 256 := by
  intro d h; obtain ⟨x, hx, rfl⟩ := List.mem_map.1 h; exact fl_lt (hd x hx)
 have hlen : (ds.map (fl neg)).length = k := by rw [List.length_map, hk]
 have hlt := val_lt _ hd2; rw [hlen] at hlt; have hnb : nb (mag n) ≤ k := by rw [nb_le, hm]; exact hlt
 constructor
 ·intro e h0; have h1 : (encI n).length = k + 1 := by rw [e, List.length_cons, hk]
  have h2 : nb (mag n) = k := by unfold encI encK at h1; rw [List.length_cons, List.length_map, be_len] at h1; omega
  have h3 : k ≠ 0 := by
   intro e0; rw [e0] at hlen; rw [List.eq_nil_of_length_eq_zero hlen] at h0
   cases h0
  have h4 : mag n ≠ 0 := by
   intro e0; rw [e0, nb_zero] at h2; exact h3 h2.symm
  have h5 := be_head h4; rw [h2, hm] at h5; have h6 := be_val _ hd2 0; rw [hlen, Nat.zero_mul, Nat.zero_add] at h6; rw [h6] at h5; exact h5 h0
 ·intro h0
  have h2 : nb (mag n) = k := by
   rcases Nat.lt_or_ge (nb (mag n)) k with h | h
   ·exfalso
    apply h0
    rcases e : ds.map (fl neg) with _ | ⟨d, l⟩
    ·rw [e] at hlen; simp at hlen; omega
    ·rw [e] at hlen hm; rw [List.length_cons] at hlen; rw [val_cons] at hm; have h3 : mag n < 256 ^ l.length := by rw [← nb_le]; omega
     have h4 : d = 0 := by
      rcases Nat.eq_zero_or_pos d with h | h
      ·exact h
      ·exfalso
       have := Nat.le_mul_of_pos_left (256 ^ l.length) h; omega
     rw [h4]; rfl
   ·omega
  unfold encI encK; rw [h2, hn, hm]; have h6 := be_val _ hd2 0; rw [hlen, Nat.zero_mul, Nat.zero_add] at h6; rw [h6, fl_map hd]
end Wi
end Go.Proofs.YtmbfjmilhfmnkaaGreatDoor
namespace Go.Proofs.YtmbfjmilhfmnkaaGreatDoor
open Go.RowKit
/-- two rows of limbs are those of a valid ratio -/
def GoodL (l1 l2 : List Nat) (p q : Nat) : Prop := l1 = Nm.lb p ∧ l2 = Nm.lb (Nm.dn q) ∧ Nm.Good p q
theorem RtL.good {w : World} {v : Value} {l1 l2 : List Nat} (h : RtL w v l1 l2) (hv : Nm.validE l1 l2 = 0) : ∃ p q, GoodL l1 l2 p q ∧ Rat w v p q := by
 obtain ⟨A1, k1, c1, A2, k2, c2, rfl, h1, h2, h3, h4⟩ := h; obtain ⟨p, q, e1, e2, hg⟩ := Nm.validE_spec h1.2.2.2.1 h2.2.2.2.1 hv; subst e1 e2; exact ⟨p, q, ⟨rfl, rfl, hg⟩, _, _, _, _, _, _, rfl, ⟨h3, h1⟩, ⟨h4, h2⟩⟩
theorem firstE_zero {a b : Int} : firstE a b = 0 ↔ a = 0 ∧ b = 0 := by
 unfold firstE; split <;> simp_all
/-- what an operation on two ratios says, with what it says of valid ones -/
def OpP (R : World → Value → Int → Nat → Nat → Nat → Nat → Prop) (l1 l2 l3 l4 : List Nat) (w : World) (v : Value) (er : Int) : Prop :=
 (firstE (Nm.validE l1 l2) (Nm.validE l3 l4) ≠ 0 ∧ er = firstE (Nm.validE l1 l2) (Nm.validE l3 l4) ∧ v = nilRat) ∨ (∃ pa qa pb qb, GoodL l1 l2 pa qa ∧ GoodL l3 l4 pb qb ∧ R w v er pa qa pb qb)
def MulR (w : World) (v : Value) (er : Int) (pa qa pb qb : Nat) : Prop := RedP w v er (pa * pb) (qa * qb)
end Go.Proofs.YtmbfjmilhfmnkaaGreatDoor
namespace Go.Proofs.YtmbfjmilhfmnkaaGreatDoor.Nm
theorem nv_take_any (l : List Nat) (k : Nat) : nv (l.take (k + 1)) = nv (l.take k) + B ^ k * l.getD k 0 := by
 rcases Nat.lt_or_ge k l.length with h | h
 ·exact nv_take_succ h
 ·rw [List.take_of_length_le (by omega), List.take_of_length_le h, show l.getD k 0 = 0 by simp [List.getD, List.getElem?_eq_none h]]; omega
/-- a sum, i limbs of it done -/
def PlQ (x y out : List Nat) (n i cy : Nat) : Prop := out.length = n ∧ nv out + B ^ i * cy = nv (x.take i) + nv (y.take i) ∧ ∀ j, i ≤ j → out.getD j 0 = 0
theorem set_zeros {out : List Nat} {i u : Nat} (h : ∀ j, i ≤ j → out.getD j 0 = 0) : ∀ j, i + 1 ≤ j → (out.set i u).getD j 0 = 0 := fun j hj => by
 rw [getD_set_ne (by omega)]; exact h j (by omega)
theorem PlQ.start {x y : List Nat} {n : Nat} : PlQ x y (List.replicate n 0) n 0 0 := ⟨by simp, by simp [nv_replicate, nv], fun j _ => getD_replicate _ _⟩
theorem PlQ.step {x y out : List Nat} {n i cy a b u c1 : Nat} (h : PlQ x y out n i cy) (hi : i < n) (ha : a = x.getD i 0) (hb : b = y.getD i 0) (hu : u + B * c1 = a + b + cy) : PlQ x y (out.set i u) n (i + 1) c1 := by
 obtain ⟨h1, h2, h3⟩ := h; refine ⟨by simp [h1], ?_, set_zeros h3⟩; have e := nv_set (l := out) (j := i) (by omega) u; rw [h3 i (Nat.le_refl _), Nat.mul_zero, Nat.add_zero] at e; rw [e, nv_take_any, nv_take_any, ← ha, ← hb, Nat.pow_succ]; have : B ^ i * (u + B * c1) = B ^ i * (a + b + cy) := by rw [hu]
 rw [Nat.mul_add, Nat.mul_add, Nat.mul_add, ← Nat.mul_assoc] at this; omega
theorem PlQ.last {x y out : List Nat} {m cy : Nat} (h : PlQ x y out (m + 1) m cy) (hx : x.length ≤ m) (hy : y.length ≤ m) : nv (out.set m cy) = nv x + nv y := by
 obtain ⟨h1, h2, h3⟩ := h; have e := nv_set (l := out) (j := m) (by omega) cy; rw [h3 m (Nat.le_refl _), Nat.mul_zero, Nat.add_zero] at e; rw [List.take_of_length_le hx, List.take_of_length_le hy] at h2; omega
/-- a difference, i limbs of it done -/
def MiQ (x y out : List Nat) (n i bo : Nat) : Prop := out.length = n ∧ nv out + nv (y.take i) = nv (x.take i) + B ^ i * bo ∧ ∀ j, i ≤ j → out.getD j 0 = 0
theorem MiQ.start {x y : List Nat} {n : Nat} : MiQ x y (List.replicate n 0) n 0 0 := ⟨by simp, by simp [nv_replicate, nv], fun j _ => getD_replicate _ _⟩
theorem MiQ.step {x y out : List Nat} {n i bo a b u c1 : Nat} (h : MiQ x y out n i bo) (hi : i < n) (ha : a = x.getD i 0) (hb : b = y.getD i 0) (hu : u + b + bo = a + B * c1) : MiQ x y (out.set i u) n (i + 1) c1 := by
 obtain ⟨h1, h2, h3⟩ := h; refine ⟨by simp [h1], ?_, set_zeros h3⟩; have e := nv_set (l := out) (j := i) (by omega) u; rw [h3 i (Nat.le_refl _), Nat.mul_zero, Nat.add_zero] at e; rw [e, nv_take_any, nv_take_any, ← ha, ← hb, Nat.pow_succ]; have : B ^ i * (u + b + bo) = B ^ i * (a + B * c1) := by rw [hu]
 rw [Nat.mul_add, Nat.mul_add, Nat.mul_add, ← Nat.mul_assoc] at this; omega
theorem MiQ.done {x y out : List Nat} {n bo : Nat} (h : MiQ x y out n n bo) (hx : x.length ≤ n) (hy : y.length ≤ n) (ho : Lim out) (hle : nv y ≤ nv x) : nv out = nv x - nv y := by
 obtain ⟨h1, h2, h3⟩ := h; rw [List.take_of_length_le hx, List.take_of_length_le hy] at h2; have hlt := nv_lt ho; rw [h1] at hlt
 rcases Nat.eq_zero_or_pos bo with h0 | h0
 ·subst h0; omega
 ·have : B ^ n * 1 ≤ B ^ n * bo := Nat.mul_le_mul_left _ h0; omega
end Go.Proofs.YtmbfjmilhfmnkaaGreatDoor.Nm
namespace Go.Proofs.YtmbfjmilhfmnkaaGreatDoor
open Go.RowKit
theorem prod_ltG {x y k l m1 m2 m : Nat} (h1 : x < Nm.B ^ k) (hk : k ≤ m1) (h2 : y < Nm.B ^ l) (hl : l ≤ m2) (hm : m1 + m2 = m) : x * y < Nm.B ^ m := by
 subst hm; rw [Nat.pow_add]; have p1 : x < Nm.B ^ m1 := Nat.lt_of_lt_of_le h1 (Nat.pow_le_pow_right Nm.B_pos hk); have p2 : y < Nm.B ^ m2 := Nat.lt_of_lt_of_le h2 (Nat.pow_le_pow_right Nm.B_pos hl); exact Nat.mul_lt_mul_of_lt_of_le p1 (Nat.le_of_lt p2) (Nat.pow_pos Nm.B_pos)
theorem sum_ltG {x y k l m : Nat} (h1 : x < Nm.B ^ k) (hk : k ≤ m) (h2 : y < Nm.B ^ l) (hl : l ≤ m) : x + y < Nm.B ^ (m + 1) := by
 have p1 : x < Nm.B ^ m := Nat.lt_of_lt_of_le h1 (Nat.pow_le_pow_right Nm.B_pos hk); have p2 : y < Nm.B ^ m := Nat.lt_of_lt_of_le h2 (Nat.pow_le_pow_right Nm.B_pos hl); have e : Nm.B ^ (m + 1) = Nm.B ^ m * Nm.B := Nat.pow_succ ..; have h3 : Nm.B ^ m * 2 ≤ Nm.B ^ m * Nm.B := Nat.mul_le_mul_left _ (by unfold Nm.B; omega); omega
theorem sub_ltG {x y k m : Nat} (h1 : x < Nm.B ^ k) (hk : k ≤ m) : x - y < Nm.B ^ m := by
 have p1 : x < Nm.B ^ m := Nat.lt_of_lt_of_le h1 (Nat.pow_le_pow_right Nm.B_pos hk); omega
/-- what holds all along in an operation's last region -/
structure SR (w0 : World) (g : Nat) (Ks : List (Option Addr × Nat × Nat × Nat)) (Bs : List (Nat × Value × Value)) (W : World) : Prop where
 nb : ∀ x ∈ Ks, Nb W x.1 x.2.1 x.2.2.1 x.2.2.2
 bx : ∀ b ∈ Bs, Box W b.1 b.2.1 b.2.2 ∧ b.1 ≠ g
 sl : Sl W g
 be : Below w0.heap.size w0 W
 ge : w0.heap.size ≤ g
theorem SR.step {w0 w w' : World} {g n d : Nat} {Ks : List (Option Addr × Nat × Nat × Nat)} {Bs : List (Nat × Value × Value)} (hr : RM w0.heap.size g n d w w') (h : SR w0 g Ks Bs w) : SR w0 g Ks Bs w' :=
 ⟨fun x hx => hr.nb _ _ _ _ (h.nb x hx), fun b hb => ⟨hr.box _ _ _ (h.bx b hb).2 (h.bx b hb).1, (h.bx b hb).2⟩, hr.sl h.sl, h.be.trans hr.be, h.ge⟩
theorem SR.size {w0 w : World} {g : Nat} {Ks : List (Option Addr × Nat × Nat × Nat)} {Bs : List (Nat × Value × Value)} (h : SR w0 g Ks Bs w) : w0.heap.size ≤ w.heap.size := h.be.size
theorem SR.lt {w0 w : World} {g : Nat} {Ks : List (Option Addr × Nat × Nat × Nat)} {Bs : List (Nat × Value × Value)} (h : SR w0 g Ks Bs w) : g < w.heap.size := h.sl.lt
theorem SR.below {w0 w w' : World} {g : Nat} {Ks : List (Option Addr × Nat × Nat × Nat)} {Bs : List (Nat × Value × Value)} (h : SR w0 g Ks Bs w) (hb : Below w.heap.size w w') : SR w0 g Ks Bs w' :=
 h.step (n := 0) (d := 0) (RM.below hb h.size h.lt)
end Go.Proofs.YtmbfjmilhfmnkaaGreatDoor
namespace Go.Proofs.YtmbfjmilhfmnkaaGreatDoor
open Go
/- The same, where what is known of a value may name the values that it hangs on. -/
section
variable {P : Program} {ops : Array Oper} {Q : Exit → Act → World → Prop} {md : Region.Mode}
def closedB (md : Region.Mode) (ops : Array Oper) (listed : Array Bool) : Prop := ∀ j o, ops[j]? = some o → listed.getD j false = true → ∀ e ∈ o.after, Region.binds md e = true → listed.getD e.on false = true
theorem wpAny_invd (Φ : (Nat → Value) → Nat → World → Value → Prop) (R : World → World → Prop) (S : World → Prop) (a0 : Act) (hd : apartL ops.toList = true) (hb : backB ops = true)
  (hΦ : ∀ vs w w', R w w' → ∀ j x, Φ vs j w x → Φ vs j w' x) (hS : ∀ w w', R w w' → S w → S w')
  (hC : ∀ j o, ops[j]? = some o → ∀ vs vs' w x, (∀ e ∈ o.after, Region.binds md e = true → vs e.on = vs' e.on) → Φ vs j w x → Φ vs' j w x)
  (hstep : ∀ i o, ops[i]? = some o → ∀ vs w, S w → (∀ e ∈ o.after, Region.binds md e = true → Φ vs e.on w (vs e.on)) →
   ∀ K : Act → World → Prop, (∀ v w', R w w' → Φ vs i w' v → K ((fillR ops.toList 0 vs a0).put o.dst v) w') →
    if Region.wanted o (yielded ops (fillR ops.toList 0 vs a0).tmps) = true then Oper.wp P o (fillR ops.toList 0 vs a0) w K Q else K ((fillR ops.toList 0 vs a0).put o.dst undef) w)
  (hend : ∀ vs w, S w → (∀ i, i < ops.size → Φ vs i w (vs i)) → Q .normal (fillR ops.toList 0 vs a0) w) :
  ∀ (fuel : Nat) (listed : Array Bool) (vs : Nat → Value) (w : World), listed.size = ops.size → listed.toList.count false = fuel → closedB md ops listed → S w → (∀ j, listed.getD j false = true → Φ vs j w (vs j)) →
   wpAny P md ops Q fuel listed (fillR ops.toList 0 vs a0) w := by
 intro fuel
 induction fuel with
 | zero =>
  intro listed vs w hs hc hcl hSw hl
  have hall : ∀ i, i < ops.size → listed.getD i false = true := by
   intro i hi; have h' : i < listed.size := by omega
   rw [List.count_eq_zero] at hc
   cases hx : listed.getD i false with
   | true => rfl
   | false =>
    exfalso
    apply hc
    simp [h'] at hx; rw [← hx]; exact Array.getElem_mem_toList h'
  refine ⟨?_, hend vs w hSw (fun i hi => hl i (hall i hi))⟩; rw [List.eq_nil_iff_forall_not_mem]; intro i hi; obtain ⟨h1, o, ho, _⟩ := mem_ready.1 hi; have hi' : i < ops.size := (Array.getElem?_eq_some_iff.1 ho).1; have h2 := hall i hi'; have h' : i < listed.size := by omega
  simp [h'] at h1 h2; rw [h1] at h2
  cases h2
 | succ fuel ih =>
  intro listed vs w hs hc hcl hSw hl; refine ⟨fun hr => hend vs w hSw (fun i hi => hl i (all_listed hb hs hr i hi)), fun i hi => ?_⟩; obtain ⟨h1, o, ho, hall⟩ := mem_ready.1 hi; have hi' : i < ops.size := (Array.getElem?_eq_some_iff.1 ho).1; have hil : i < listed.size := by omega
  have hun : listed.getD i false = false := by simp [hil] at h1 ⊢; exact h1
  refine wpOp_step ho fun K' hK => ?_
  refine hstep i o ho vs w hSw (fun e he hbd => hl e.on (hall e he hbd)) K' fun v w' hR hv => ?_
  apply hK
  rw [fillR_upd ops.toList 0 i vs a0 o v hd (by simpa using ho), Nat.zero_add]; refine ih _ _ _ (by simp [hs]) ?_ ?_ (hS _ _ hR hSw) ?_
  ·have h1' : listed.toList[i]'(by simpa using hil) = false := by simp [hil] at h1; simpa using h1
   simp only [Array.toList_setIfInBounds]; rw [List.count_set (by simpa using hil), h1', hc]; simp
  ·intro j oj hj hlj e he hbd; by_cases hei : e.on = i
   ·rw [hei]; simp [hil]
   ·have hold : listed.getD e.on false = true := by
     by_cases hji : j = i
     ·subst hji; have : oj = o := Option.some.inj (hj.symm.trans ho); subst this; exact hall e he hbd
     ·refine hcl j oj hj ?_ e he hbd; simp [Array.getElem?_setIfInBounds, Ne.symm hji] at hlj
      simpa using hlj
    have h3 : e.on < listed.size := by
     rcases Nat.lt_or_ge e.on listed.size with h | h
     ·exact h
     ·simp [Array.getElem?_eq_none h] at hold
    simp [Array.getElem?_setIfInBounds, Ne.symm hei] at hold ⊢; exact hold
  ·intro j hj; by_cases hji : j = i
   ·subst hji; rw [show upd vs j v j = v from if_pos rfl]; refine hC j o ho vs (upd vs j v) w' v (fun e he hbd => ?_) hv
    have hne : e.on ≠ j := by
     intro h; have := hall e he hbd; rw [h, hun] at this; cases this
    exact (if_neg hne).symm
   ·rw [show upd vs i v j = vs j from if_neg hji]
    have hlj : listed.getD j false = true := by
     simp [Array.getElem?_setIfInBounds, Ne.symm hji] at hj
     simpa using hj
    have hjs : j < listed.size := by
     rcases Nat.lt_or_ge j listed.size with h | h
     ·exact h
     ·simp [Array.getElem?_eq_none h] at hlj
    have hjo : ops[j]? = some ops[j] := Array.getElem?_eq_getElem (by omega); refine hC j _ hjo vs (upd vs i v) w' (vs j) (fun e he hbd => ?_) (hΦ vs _ _ hR j _ (hl j hlj))
    have hne : e.on ≠ i := by
     intro h; have := hcl j _ hjo hlj e he hbd; rw [h, hun] at this; cases this
    exact (if_neg hne).symm
def OwesD (P : Program) (Q : Exit → Act → World → Prop) (l : List Oper) (a0 : Act) (Φ : (Nat → Value) → Nat → World → Value → Prop) (R : World → World → Prop) (S : World → Prop) (i : Nat) (o : Oper) : Prop :=
 ∀ vs w, S w → (∀ e ∈ o.after.toList, Region.binds .any e = true → Φ vs e.on w (vs e.on)) → ∀ K : Act → World → Prop, (∀ v w', R w w' → Φ vs i w' v → K ((fillR l 0 vs a0).put o.dst v) w') →
  Wrap (if Region.wanted o (yielded l.toArray (fillR l 0 vs a0).tmps) = true then Oper.wp P o (fillR l 0 vs a0) w K Q else K ((fillR l 0 vs a0).put o.dst undef) w)
/-- what an operation's knowledge hangs on: that alone -/
def Hangs (Φ : (Nat → Value) → Nat → World → Value → Prop) (i : Nat) (o : Oper) : Prop :=
 ∀ vs vs' w x, (∀ e ∈ o.after.toList, Region.binds .any e = true → vs e.on = vs' e.on) → Φ vs i w x → Φ vs' i w x
theorem region_invd {id : Nat} {a0 : Act} {w : World} {l : List Oper} (Φ : (Nat → Value) → Nat → World → Value → Prop) (R : World → World → Prop) (S : World → Prop) (hm : P.follows .mixedOrders = true) (hd : apartL l = true) (hb : backB l.toArray = true)
  (hΦ : ∀ vs w w', R w w' → ∀ j x, Φ vs j w x → Φ vs j w' x) (hS : ∀ w w', R w w' → S w → S w') (hC : StepsL (Hangs Φ) 0 l) (hS0 : S w.drew)
  (hstep : StepsL (OwesD P Q l a0 Φ R S) 0 l)
  (hend : ∀ vs w, S w → (∀ i, i < l.length → Φ vs i w (vs i)) → Q .normal (fillR l 0 vs a0) w) : (Code.region id l.toArray true).wp P Q a0 w := by
 refine wp_region_any hm ?_
 have h := wpAny_invd (P := P) (Q := Q) (md := .any) (ops := l.toArray) Φ R S a0 hd hb hΦ hS (fun j o ho vs vs' w x h => by
  have := hC j o (by simpa using ho); rw [Nat.zero_add] at this
  exact this vs vs' w x (fun e he hbd => h e (by simpa using he) hbd)) (fun i o ho vs w hSw hdep K hK => by
  have := hstep i o (by simpa using ho); rw [Nat.zero_add] at this
  exact (this vs w hSw (fun e he hbd => hdep e (by simpa using he) hbd) K hK).un) (fun vs w hSw h => hend vs w hSw (fun i hi => h i (by simpa using hi))) l.toArray.size (Array.replicate l.toArray.size false) (ownV l a0) w.drew (by simp) (by simp) (fun j o _ hj => by rw [repF] at hj; cases hj) hS0 (fun j hj => by rw [repF] at hj; cases hj)
 rw [fillR_id] at h
 ·exact h
 ·intro j o ho d hd'; rw [Nat.zero_add]; unfold ownV; rw [ho]; simp [hd']
end
end Go.Proofs.YtmbfjmilhfmnkaaGreatDoor
namespace Go.Proofs.YtmbfjmilhfmnkaaGreatDoor
open Go
/- The same, where what holds all along may hang on which operations are done. -/
section
variable {P : Program} {ops : Array Oper} {Q : Exit → Act → World → Prop} {md : Region.Mode}
def updB (L : Nat → Bool) (i : Nat) : Nat → Bool := fun j => if j = i then true else L j
/-- each tie that binds leads back -/
def backC (md : Region.Mode) (ops : Array Oper) : Bool := (List.range ops.size).all fun i => ((ops[i]?).map fun o => o.after.all fun e => !Region.binds md e || decide (e.on < i)).getD true
theorem backC_spec (h : backC md ops = true) {i : Nat} {o : Oper} (ho : ops[i]? = some o) : ∀ e ∈ o.after, Region.binds md e = true → e.on < i := by
 intro e he hb; have hi : i < ops.size := (Array.getElem?_eq_some_iff.1 ho).1; have := List.all_eq_true.1 h i (List.mem_range.2 hi); rw [ho] at this; simp only [Option.map_some, Option.getD_some] at this; have := Array.all_eq_true_iff_forall_mem.1 this e he; rw [hb] at this
 simpa using this
theorem all_listedC (hb : backC md ops = true) {listed : Array Bool} (hs : listed.size = ops.size) (hr : Region.ready md ops listed = []) : ∀ i, i < ops.size → listed.getD i false = true := by
 intro i
 induction i using Nat.strongRecOn with
 | _ i ih =>
  intro hi
  cases hl : listed.getD i false with
  | true => rfl
  | false =>
   exfalso
   have : i ∈ Region.ready md ops listed := by
    rw [mem_ready]; refine ⟨?_, ops[i], Array.getElem?_eq_getElem hi, fun e he hbd => ?_⟩
    ·have h' : i < listed.size := by omega
     rw [getD_in h'] at hl ⊢; exact hl
    ·have := backC_spec hb (o := ops[i]) (Array.getElem?_eq_getElem hi) e he hbd; exact ih e.on this (by omega)
   rw [hr] at this
   cases this
theorem wpAny_invl {Φ : Nat → World → Value → Prop} {R : World → World → Prop} (S : (Nat → Bool) → World → Prop) (a0 : Act) (hd : apartL ops.toList = true) (hb : backC md ops = true)
  (hΦ : ∀ w w', R w w' → ∀ j x, Φ j w x → Φ j w' x)
  (hstep : ∀ i o, ops[i]? = some o → ∀ vs (L : Nat → Bool) w, S L w → L i = false → (∀ j o', ops[j]? = some o' → L j = true → ∀ e ∈ o'.after, Region.binds md e = true → L e.on = true) → (∀ e ∈ o.after, Region.binds md e = true → Φ e.on w (vs e.on)) →
   ∀ K : Act → World → Prop, (∀ v w', R w w' → S (updB L i) w' → Φ i w' v → K ((fillR ops.toList 0 vs a0).put o.dst v) w') →
    if Region.wanted o (yielded ops (fillR ops.toList 0 vs a0).tmps) = true then Oper.wp P o (fillR ops.toList 0 vs a0) w K Q else K ((fillR ops.toList 0 vs a0).put o.dst undef) w)
  (hend : ∀ vs L w, S L w → (∀ i, i < ops.size → L i = true) → (∀ i, i < ops.size → Φ i w (vs i)) → Q .normal (fillR ops.toList 0 vs a0) w) :
  ∀ (fuel : Nat) (listed : Array Bool) (vs : Nat → Value) (w : World), listed.size = ops.size → listed.toList.count false = fuel → closedB md ops listed → S (fun j => listed.getD j false) w → (∀ j, listed.getD j false = true → Φ j w (vs j)) →
   wpAny P md ops Q fuel listed (fillR ops.toList 0 vs a0) w := by
 intro fuel
 induction fuel with
 | zero =>
  intro listed vs w hs hc hcl hSw hl
  have hall : ∀ i, i < ops.size → listed.getD i false = true := by
   intro i hi; have h' : i < listed.size := by omega
   rw [List.count_eq_zero] at hc
   cases hx : listed.getD i false with
   | true => rfl
   | false =>
    exfalso
    apply hc
    simp [h'] at hx; rw [← hx]; exact Array.getElem_mem_toList h'
  refine ⟨?_, hend vs _ w hSw hall (fun i hi => hl i (hall i hi))⟩; rw [List.eq_nil_iff_forall_not_mem]; intro i hi; obtain ⟨h1, o, ho, _⟩ := mem_ready.1 hi; have hi' : i < ops.size := (Array.getElem?_eq_some_iff.1 ho).1; have h2 := hall i hi'; have h' : i < listed.size := by omega
  simp [h'] at h1 h2; rw [h1] at h2
  cases h2
 | succ fuel ih =>
  intro listed vs w hs hc hcl hSw hl; refine ⟨fun hr => hend vs _ w hSw (all_listedC hb hs hr) (fun i hi => hl i (all_listedC hb hs hr i hi)), fun i hi => ?_⟩; obtain ⟨h1, o, ho, hall⟩ := mem_ready.1 hi; have hi' : i < ops.size := (Array.getElem?_eq_some_iff.1 ho).1; have hil : i < listed.size := by omega
  have hun : listed.getD i false = false := by simp [hil] at h1 ⊢; exact h1
  refine wpOp_step ho fun K' hK => ?_
  refine hstep i o ho vs _ w hSw hun hcl (fun e he hbd => hl e.on (hall e he hbd)) K' fun v w' hR hS' hv => ?_
  apply hK
  rw [fillR_upd ops.toList 0 i vs a0 o v hd (by simpa using ho), Nat.zero_add]
  have hset : (fun j => (listed.setIfInBounds i true).getD j false) = updB (fun j => listed.getD j false) i := by
   funext j
   unfold updB; by_cases hji : j = i
   ·subst hji; simp [hil]
   ·rw [if_neg hji]; simp [Array.getElem?_setIfInBounds, Ne.symm hji]
  refine ih _ _ _ (by simp [hs]) ?_ ?_ (by rw [hset]; exact hS') ?_
  ·have h1' : listed.toList[i]'(by simpa using hil) = false := by simp [hil] at h1; simpa using h1
   simp only [Array.toList_setIfInBounds]; rw [List.count_set (by simpa using hil), h1', hc]; simp
  ·intro j oj hj hlj e he hbd; by_cases hei : e.on = i
   ·rw [hei]; simp [hil]
   ·have hold : listed.getD e.on false = true := by
     by_cases hji : j = i
     ·subst hji; have : oj = o := Option.some.inj (hj.symm.trans ho); subst this; exact hall e he hbd
     ·refine hcl j oj hj ?_ e he hbd; simp [Array.getElem?_setIfInBounds, Ne.symm hji] at hlj
      simpa using hlj
    simp [Array.getElem?_setIfInBounds, Ne.symm hei] at hold ⊢; exact hold
  ·intro j hj; by_cases hji : j = i
   ·subst hji; rw [show upd vs j v j = v from if_pos rfl]; exact hv
   ·rw [show upd vs i v j = vs j from if_neg hji]; refine hΦ _ _ hR j _ (hl j ?_); simp [Array.getElem?_setIfInBounds, Ne.symm hji] at hj
    simpa using hj
def OwesL (P : Program) (Q : Exit → Act → World → Prop) (l : List Oper) (a0 : Act) (Φ : Nat → World → Value → Prop) (R : World → World → Prop) (S : (Nat → Bool) → World → Prop) (i : Nat) (o : Oper) : Prop :=
 ∀ vs (L : Nat → Bool) w, S L w → L i = false → (∀ j o', l[j]? = some o' → L j = true → ∀ e ∈ o'.after.toList, Region.binds .any e = true → L e.on = true) → (∀ e ∈ o.after.toList, Region.binds .any e = true → Φ e.on w (vs e.on)) → ∀ K : Act → World → Prop, (∀ v w', R w w' → S (updB L i) w' → Φ i w' v → K ((fillR l 0 vs a0).put o.dst v) w') →
  Wrap (if Region.wanted o (yielded l.toArray (fillR l 0 vs a0).tmps) = true then Oper.wp P o (fillR l 0 vs a0) w K Q else K ((fillR l 0 vs a0).put o.dst undef) w)
theorem region_invl {id : Nat} {a0 : Act} {w : World} {l : List Oper} (Φ : Nat → World → Value → Prop) (R : World → World → Prop) (S : (Nat → Bool) → World → Prop) (hm : P.follows .mixedOrders = true) (hd : apartL l = true) (hb : backC .any l.toArray = true)
  (hΦ : ∀ w w', R w w' → ∀ j x, Φ j w x → Φ j w' x) (hS0 : S (fun _ => false) w.drew)
  (hstep : StepsL (OwesL P Q l a0 Φ R S) 0 l)
  (hend : ∀ vs L w, S L w → (∀ i, i < l.length → L i = true) → (∀ i, i < l.length → Φ i w (vs i)) → Q .normal (fillR l 0 vs a0) w) : (Code.region id l.toArray true).wp P Q a0 w := by
 refine wp_region_any hm ?_; have hrep : (fun j => (Array.replicate l.toArray.size false).getD j false) = (fun _ => false) := by funext j; exact repF
 have h := wpAny_invl (P := P) (Q := Q) (md := .any) (ops := l.toArray) (Φ := Φ) (R := R) S a0 hd hb hΦ (fun i o ho vs L w hSw hL hcl hdep K hK => by
  have := hstep i o (by simpa using ho); rw [Nat.zero_add] at this
  exact (this vs L w hSw hL (fun j o' hj hlj e he hbd => hcl j o' (by simpa using hj) hlj e (by simpa using he) hbd) (fun e he hbd => hdep e (by simpa using he) hbd) K hK).un) (fun vs L w hSw hall h => hend vs L w hSw (fun i hi => hall i (by simpa using hi)) (fun i hi => h i (by simpa using hi))) l.toArray.size (Array.replicate l.toArray.size false) (ownV l a0) w.drew (by simp) (by simp) (fun j o _ hj => by rw [repF] at hj; cases hj) (by rw [hrep]; exact hS0) (fun j hj => by rw [repF] at hj; cases hj)
 rw [fillR_id] at h
 ·exact h
 ·intro j o ho d hd'; rw [Nat.zero_add]; unfold ownV; rw [ho]; simp [hd']
/-- as 'region_inv', where ties that do not bind may lead forward -/
theorem region_invc {id : Nat} {a0 : Act} {w : World} {l : List Oper} (Φ : Nat → World → Value → Prop) (R : World → World → Prop) (S : World → Prop) (hm : P.follows .mixedOrders = true) (hd : apartL l = true) (hb : backC .any l.toArray = true)
  (hΦ : ∀ w w', R w w' → ∀ j x, Φ j w x → Φ j w' x) (hS : ∀ w w', R w w' → S w → S w') (hS0 : S w.drew)
  (hstep : StepsL (Owes P Q l a0 Φ R S) 0 l)
  (hend : ∀ vs w, S w → (∀ i, i < l.length → Φ i w (vs i)) → Q .normal (fillR l 0 vs a0) w) : (Code.region id l.toArray true).wp P Q a0 w :=
 region_invl Φ R (fun _ => S) hm hd hb hΦ hS0
  (fun i o ho vs L w hSw _ _ hdep K hK => hstep i o ho vs w hSw hdep K (fun v w' hR hv => hK v w' hR (hS _ _ hR hSw) hv))
  (fun vs L w hSw _ h => hend vs w hSw h)
/-- what an operation owes, where the frame is written out once: F -/
def OwesF (P : Program) (Q : Exit → Act → World → Prop) (l : List Oper) (F : (Nat → Value) → Act) (Φ : Nat → World → Value → Prop) (R : World → World → Prop) (S : World → Prop) (i : Nat) (o : Oper) : Prop :=
 ∀ vs w, S w → (∀ e ∈ o.after.toList, Region.binds .any e = true → Φ e.on w (vs e.on)) → ∀ K : Act → World → Prop, (∀ v w', R w w' → Φ i w' v → K ((F vs).put o.dst v) w') →
  Wrap (if Region.wanted o (yielded l.toArray (F vs).tmps) = true then Oper.wp P o (F vs) w K Q else K ((F vs).put o.dst undef) w)
theorem region_invF {id : Nat} {a0 : Act} {w : World} {l : List Oper} {F : (Nat → Value) → Act} (Φ : Nat → World → Value → Prop) (R : World → World → Prop) (S : World → Prop) (hm : P.follows .mixedOrders = true) (hd : apartL l = true) (hb : backC .any l.toArray = true)
  (hΦ : ∀ w w', R w w' → ∀ j x, Φ j w x → Φ j w' x) (hS : ∀ w w', R w w' → S w → S w') (hS0 : S w.drew) (hF : ∀ vs, fillR l 0 vs a0 = F vs)
  (hstep : StepsL (OwesF P Q l F Φ R S) 0 l)
  (hend : ∀ vs w, S w → (∀ i, i < l.length → Φ i w (vs i)) → Q .normal (F vs) w) : (Code.region id l.toArray true).wp P Q a0 w :=
 region_invc Φ R S hm hd hb hΦ hS hS0
  (fun i o ho vs w hSw hdep K hK => by
   have h := hstep i o ho vs w hSw hdep K (by rw [← hF vs]; exact hK); rw [← hF vs] at h
   exact h)
  (fun vs w hSw h => by rw [hF vs]; exact hend vs w hSw h)
end
end Go.Proofs.YtmbfjmilhfmnkaaGreatDoor
namespace Go.Proofs.YtmbfjmilhfmnkaaGreatDoor
open Go
/- The same, where what holds all along may speak of the slots' values before they are written. -/
section
variable {P : Program} {ops : Array Oper} {Q : Exit → Act → World → Prop} {md : Region.Mode}
theorem wpAny_invv {Φ : Nat → World → Value → Prop} {R : World → World → Prop} (S : (Nat → Bool) → (Nat → Value) → World → Prop) (a0 : Act) (hd : apartL ops.toList = true) (hb : backC md ops = true)
  (hΦ : ∀ w w', R w w' → ∀ j x, Φ j w x → Φ j w' x)
  (hstep : ∀ i o, ops[i]? = some o → ∀ vs (L : Nat → Bool) w, S L vs w → L i = false → (∀ j o', ops[j]? = some o' → L j = true → ∀ e ∈ o'.after, Region.binds md e = true → L e.on = true) → (∀ e ∈ o.after, Region.binds md e = true → Φ e.on w (vs e.on)) →
   ∀ K : Act → World → Prop, (∀ v w', R w w' → S (updB L i) (upd vs i v) w' → Φ i w' v → K ((fillR ops.toList 0 vs a0).put o.dst v) w') →
    if Region.wanted o (yielded ops (fillR ops.toList 0 vs a0).tmps) = true then Oper.wp P o (fillR ops.toList 0 vs a0) w K Q else K ((fillR ops.toList 0 vs a0).put o.dst undef) w)
  (hend : ∀ vs L w, S L vs w → (∀ i, i < ops.size → L i = true) → (∀ i, i < ops.size → Φ i w (vs i)) → Q .normal (fillR ops.toList 0 vs a0) w) :
  ∀ (fuel : Nat) (listed : Array Bool) (vs : Nat → Value) (w : World), listed.size = ops.size → listed.toList.count false = fuel → closedB md ops listed → S (fun j => listed.getD j false) vs w → (∀ j, listed.getD j false = true → Φ j w (vs j)) →
   wpAny P md ops Q fuel listed (fillR ops.toList 0 vs a0) w := by
 intro fuel
 induction fuel with
 | zero =>
  intro listed vs w hs hc hcl hSw hl
  have hall : ∀ i, i < ops.size → listed.getD i false = true := by
   intro i hi; have h' : i < listed.size := by omega
   rw [List.count_eq_zero] at hc
   cases hx : listed.getD i false with
   | true => rfl
   | false =>
    exfalso
    apply hc
    simp [h'] at hx; rw [← hx]; exact Array.getElem_mem_toList h'
  refine ⟨?_, hend vs _ w hSw hall (fun i hi => hl i (hall i hi))⟩; rw [List.eq_nil_iff_forall_not_mem]; intro i hi; obtain ⟨h1, o, ho, _⟩ := mem_ready.1 hi; have hi' : i < ops.size := (Array.getElem?_eq_some_iff.1 ho).1; have h2 := hall i hi'; have h' : i < listed.size := by omega
  simp [h'] at h1 h2; rw [h1] at h2
  cases h2
 | succ fuel ih =>
  intro listed vs w hs hc hcl hSw hl; refine ⟨fun hr => hend vs _ w hSw (all_listedC hb hs hr) (fun i hi => hl i (all_listedC hb hs hr i hi)), fun i hi => ?_⟩; obtain ⟨h1, o, ho, hall⟩ := mem_ready.1 hi; have hi' : i < ops.size := (Array.getElem?_eq_some_iff.1 ho).1; have hil : i < listed.size := by omega
  have hun : listed.getD i false = false := by simp [hil] at h1 ⊢; exact h1
  refine wpOp_step ho fun K' hK => ?_
  refine hstep i o ho vs _ w hSw hun hcl (fun e he hbd => hl e.on (hall e he hbd)) K' fun v w' hR hS' hv => ?_
  apply hK
  rw [fillR_upd ops.toList 0 i vs a0 o v hd (by simpa using ho), Nat.zero_add]
  have hset : (fun j => (listed.setIfInBounds i true).getD j false) = updB (fun j => listed.getD j false) i := by
   funext j
   unfold updB; by_cases hji : j = i
   ·subst hji; simp [hil]
   ·rw [if_neg hji]; simp [Array.getElem?_setIfInBounds, Ne.symm hji]
  refine ih _ _ _ (by simp [hs]) ?_ ?_ (by rw [hset]; exact hS') ?_
  ·have h1' : listed.toList[i]'(by simpa using hil) = false := by simp [hil] at h1; simpa using h1
   simp only [Array.toList_setIfInBounds]; rw [List.count_set (by simpa using hil), h1', hc]; simp
  ·intro j oj hj hlj e he hbd; by_cases hei : e.on = i
   ·rw [hei]; simp [hil]
   ·have hold : listed.getD e.on false = true := by
     by_cases hji : j = i
     ·subst hji; have : oj = o := Option.some.inj (hj.symm.trans ho); subst this; exact hall e he hbd
     ·refine hcl j oj hj ?_ e he hbd; simp [Array.getElem?_setIfInBounds, Ne.symm hji] at hlj
      simpa using hlj
    simp [Array.getElem?_setIfInBounds, Ne.symm hei] at hold ⊢; exact hold
  ·intro j hj; by_cases hji : j = i
   ·subst hji; rw [show upd vs j v j = v from if_pos rfl]; exact hv
   ·rw [show upd vs i v j = vs j from if_neg hji]; refine hΦ _ _ hR j _ (hl j ?_); simp [Array.getElem?_setIfInBounds, Ne.symm hji] at hj
    simpa using hj
/-- what an operation owes; S knows what is listed, and the slots -/
def OwesV (P : Program) (Q : Exit → Act → World → Prop) (l : List Oper) (F : (Nat → Value) → Act) (Φ : Nat → World → Value → Prop) (R : World → World → Prop) (S : (Nat → Bool) → (Nat → Value) → World → Prop) (i : Nat) (o : Oper) : Prop :=
 ∀ vs (L : Nat → Bool) w, S L vs w → L i = false → (∀ j o', l[j]? = some o' → L j = true → ∀ e ∈ o'.after.toList, Region.binds .any e = true → L e.on = true) → (∀ e ∈ o.after.toList, Region.binds .any e = true → Φ e.on w (vs e.on)) → ∀ K : Act → World → Prop, (∀ v w', R w w' → S (updB L i) (upd vs i v) w' → Φ i w' v → K ((F vs).put o.dst v) w') →
  Wrap (if Region.wanted o (yielded l.toArray (F vs).tmps) = true then Oper.wp P o (F vs) w K Q else K ((F vs).put o.dst undef) w)
theorem region_invV {id : Nat} {a0 : Act} {w : World} {l : List Oper} {F : (Nat → Value) → Act} (Φ : Nat → World → Value → Prop) (R : World → World → Prop) (S : (Nat → Bool) → (Nat → Value) → World → Prop) (hm : P.follows .mixedOrders = true) (hd : apartL l = true) (hb : backC .any l.toArray = true)
  (hΦ : ∀ w w', R w w' → ∀ j x, Φ j w x → Φ j w' x) (hS0 : S (fun _ => false) (ownV l a0) w.drew) (hF : ∀ vs, fillR l 0 vs a0 = F vs)
  (hstep : StepsL (OwesV P Q l F Φ R S) 0 l)
  (hend : ∀ vs L w, S L vs w → (∀ i, i < l.length → L i = true) → (∀ i, i < l.length → Φ i w (vs i)) → Q .normal (F vs) w) : (Code.region id l.toArray true).wp P Q a0 w := by
 refine wp_region_any hm ?_; have hrep : (fun j => (Array.replicate l.toArray.size false).getD j false) = (fun _ => false) := by funext j; exact repF
 have h := wpAny_invv (P := P) (Q := Q) (md := .any) (ops := l.toArray) (Φ := Φ) (R := R) S a0 hd hb hΦ (fun i o ho vs L w hSw hL hcl hdep K hK => by
  have := hstep i o (by simpa using ho); rw [Nat.zero_add] at this; have h2 := (this vs L w hSw hL (fun j o' hj hlj e he hbd => hcl j o' (by simpa using hj) hlj e (by simpa using he) hbd) (fun e he hbd => hdep e (by simpa using he) hbd) K (by rw [← hF vs]; exact hK)).un; rw [← hF vs] at h2
  exact h2) (fun vs L w hSw hall h => by
   have h3 := hend vs L w hSw (fun i hi => hall i (by simpa using hi)) (fun i hi => h i (by simpa using hi)); rw [← hF vs] at h3
   exact h3) l.toArray.size (Array.replicate l.toArray.size false) (ownV l a0) w.drew (by simp) (by simp) (fun j o _ hj => by rw [repF] at hj; cases hj) (by rw [hrep]; exact hS0) (fun j hj => by rw [repF] at hj; cases hj)
 rw [fillR_id] at h
 ·exact h
 ·intro j o ho d hd'; rw [Nat.zero_add]; unfold ownV; rw [ho]; simp [hd']
end
end Go.Proofs.YtmbfjmilhfmnkaaGreatDoor
