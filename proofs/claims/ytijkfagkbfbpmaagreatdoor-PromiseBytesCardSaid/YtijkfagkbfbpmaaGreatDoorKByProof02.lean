import Derived.Test.YtijkfagkbfbpmaaGreatDoorProg
import Derived.Test.YtijkfagkbfbpmaaGreatDoorKByProof01
import Derived.WalkKit
import Derived.WalkSpells
import Derived.WalkLawsBesides
import Derived.Lib.Hide
import Derived.Test.YtijkfagkbfbpmaaGreatDoorS0
set_option linter.unusedVariables false
set_option linter.unusedSimpArgs false
namespace Go.Proofs.YtijkfagkbfbpmaaGreatDoor
open Go.RowKit
/-- a slice's address and the list of the values in it -/
def Rd (w : World) (A : Option Addr) (xs : List Value) : Prop :=
 xs ≠ [] → ∃ b off, A = some ⟨b, off, none⟩ ∧ ∀ i (h : i < xs.length), w.cell? ⟨b, off + i, none⟩ = some xs[i]
def u32s (l : List Nat) : List Value := l.map fun (n : Nat) => Value.int .u32 (n : Int)
/-- the slice holds these limbs -/
def Lim (w : World) (A : Option Addr) (c : Nat) (l : List Nat) : Prop := Rd w A (u32s l) ∧ l.length ≤ c ∧ c ≤ 9223372036854775807 ∧ Nm.Lim l ∧ (A = none → c = 0)

theorem cell_lt {w : World} {a : Addr} {v : Value} (h : w.cell? a = some v) : a.block < w.heap.size := by
 unfold World.cell? at h
 rcases Nat.lt_or_ge a.block w.heap.size with h1 | h1
 ·exact h1
 ·rw [Array.getElem?_eq_none h1] at h; cases h
theorem Rd.keep {w w' : World} {A : Option Addr} {xs : List Value} (h : Rd w A xs) (hk : ∀ p : Addr, p.block < w.heap.size → w'.cell? p = w.cell? p) : Rd w' A xs := by
 intro hne; obtain ⟨b, off, hA, hc⟩ := h hne; exact ⟨b, off, hA, fun i hi => by rw [hk _ (cell_lt (hc i hi))]; exact hc i hi⟩
theorem Rd.below {w w' : World} {A : Option Addr} {xs : List Value} (h : Rd w A xs) (hb : Below w.heap.size w w') : Rd w' A xs := h.keep fun _ hp => hb.cell hp
theorem Lim.limb {w : World} {A : Option Addr} {c : Nat} {l : List Nat} (h : Lim w A c l) : Nm.Lim l := h.2.2.2.1
theorem Lim.below {w w' : World} {A : Option Addr} {c : Nat} {l : List Nat} (h : Lim w A c l) (hb : Below w.heap.size w w') : Lim w' A c l := ⟨h.1.below hb, h.2⟩
theorem bD (w : World) : Below w.heap.size w w.drew := (Below.refl _ _).drew
theorem bA (w : World) (o : Obj) : Below w.heap.size w (w.alloc o) := (Below.refl _ _).alloc (Nat.le_refl _) o
theorem below_drewN (w : World) (n : Nat) : Below w.heap.size w (w.drewN n) := ⟨rfl, rfl, rfl, Nat.le_refl _, fun _ _ => rfl⟩
theorem Lim.drew {w : World} {A : Option Addr} {c : Nat} {l : List Nat} (h : Lim w A c l) : Lim w.drew A c l := h.below (bD w)
theorem Lim.alloc {w : World} {A : Option Addr} {c : Nat} {l : List Nat} (h : Lim w A c l) (o : Obj) : Lim (w.alloc o) A c l := h.below (bA w o)
theorem Lim.drewN {w : World} {A : Option Addr} {c : Nat} {l : List Nat} (h : Lim w A c l) (n : Nat) : Lim (w.drewN n) A c l := h.below (below_drewN w n)
/-- transitivity for what was there at the start -/
theorem Below.tr {a b c : World} (h : Below a.heap.size a b) (k : Below b.heap.size b c) : Below a.heap.size a c := h.trans (k.mono h.size)
theorem Lim.at_ {w : World} {A : Option Addr} {c : Nat} {l : List Nat} (h : Lim w A c l) {k : Nat} (hk : k < l.length) :
  ∃ b off, A = some ⟨b, off, none⟩ ∧ ∀ i, i < l.length → w.cell? ⟨b, off + i, none⟩ = some (.int .u32 (l.getD i 0 : Nat)) := by
 have hne : u32s l ≠ [] := by
  intro e; have := congrArg List.length e; simp [u32s] at this; subst this; simp at hk
 obtain ⟨b, off, hA, hc⟩ := h.1 hne; refine ⟨b, off, hA, fun i hi => ?_⟩; rw [hc i (by simpa [u32s] using hi)]; simp [u32s, List.getD, hi]
theorem Lim.lt {w : World} {A : Option Addr} {c : Nat} {l : List Nat} (h : Lim w A c l) (k : Nat) : l.getD k 0 < 4294967296 := by
 rcases Nat.lt_or_ge k l.length with h1 | h1
 ·have := h.2.2.2.1 l[k] (List.getElem_mem h1); simp only [List.getD, List.getElem?_eq_getElem h1, Option.getD_some]; exact this
 ·simp [List.getD, List.getElem?_eq_none h1]
/-- A block that is known whole -/
def Blk (w : World) (g : Nat) (t : TypeId) (cs : Array Value) : Prop := w.heap[g]? = some (.cells cs t (0, 0))
section
variable {w w' : World} {g : Nat} {t : TypeId} {cs : Array Value}
theorem Blk.lt (h : Blk w g t cs) : g < w.heap.size := by
 rcases Nat.lt_or_ge g w.heap.size with hlt | hge
 ·exact hlt
 ·unfold Blk at h; rw [Array.getElem?_eq_none hge] at h; cases h
theorem Blk.cell (h : Blk w g t cs) (i : Nat) : w.cell? ⟨g, i, none⟩ = cs[i]? := cell_of_row w g i cs t (0, 0) h
theorem Blk.frozen (h : Blk w g t cs) (i : Nat) : w.frozen? ⟨g, i, none⟩ = false := by
 unfold Blk at h; simp [World.frozen?, h]
theorem Blk.new (w : World) (t : TypeId) (cs : Array Value) : Blk (w.alloc (.cells cs t)) w.heap.size t cs := heap_alloc_new w _
theorem Blk.drew (h : Blk w g t cs) : Blk w.drew g t cs := h
theorem Blk.alloc (h : Blk w g t cs) (o : Obj) : Blk (w.alloc o) g t cs := (Below.heap_alloc w o g h.lt).trans h
theorem Blk.set_ (h : Blk w g t cs) (i : Nat) (u : Value) : Blk (w.setCell ⟨g, i, none⟩ u) g t (cs.setIfInBounds i u) := by
 unfold Blk at h ⊢; simp [World.setCell, Array.getElem?_modify, h]
theorem Blk.far (h : Blk w g t cs) {p : Addr} (hp : g ≠ p.block) (u : Value) : Blk (w.setCell p u) g t cs := (Below.heap_setCell w p u g hp).trans h
theorem Blk.below {B : Nat} (h : Blk w g t cs) (hb : Below B w w') (hg : g < B) : Blk w' g t cs := (hb.block g hg).trans h
end
/-- a row of limbs that fills a block -/
def arr (l : List Nat) : Array Value := (u32s l).toArray
def Row (w : World) (g : Nat) (l : List Nat) : Prop := Blk w g 104 (arr l) ∧ Nm.Lim l
theorem arr_get (l : List Nat) (i : Nat) (h : i < l.length) : (arr l)[i]? = some (.int .u32 (l.getD i 0 : Nat)) := by
 simp [arr, u32s, List.getD, h]
theorem Row.cell {w : World} {g : Nat} {l : List Nat} (h : Row w g l) {i : Nat} (hi : i < l.length) : w.cell? ⟨g, i, none⟩ = some (.int .u32 (l.getD i 0 : Nat)) := (h.1.cell i).trans (arr_get l i hi)
theorem Row.frozen {w : World} {g : Nat} {l : List Nat} (h : Row w g l) (i : Nat) : w.frozen? ⟨g, i, none⟩ = false := h.1.frozen i
theorem Row.lt {w : World} {g : Nat} {l : List Nat} (h : Row w g l) (k : Nat) : l.getD k 0 < 4294967296 := by
 rcases Nat.lt_or_ge k l.length with h1 | h1
 ·have := h.2 l[k] (List.getElem_mem h1); simp only [List.getD, List.getElem?_eq_getElem h1, Option.getD_some]; exact this
 ·simp [List.getD, List.getElem?_eq_none h1]
theorem Row.set_ {w : World} {g : Nat} {l : List Nat} (h : Row w g l) (i : Nat) (n : Nat) (hn : n < 4294967296) : Row (w.setCell ⟨g, i, none⟩ (.int .u32 (n : Int))) g (l.set i n) := by
 refine ⟨?_, fun x hx => ?_⟩
 ·have := h.1.set_ i (.int .u32 (n : Int)); have e : arr (l.set i n) = (arr l).setIfInBounds i (.int .u32 (n : Int)) := by simp [arr, u32s, List.map_set]
  rw [e]; exact this
 ·rcases List.mem_or_eq_of_mem_set hx with h1 | h1
  ·exact h.2 x h1
  ·subst h1; exact hn
theorem Row.below {w w' : World} {g : Nat} {l : List Nat} (h : Row w g l) (hb : Below w.heap.size w w') : Row w' g l := ⟨h.1.below hb h.1.lt, h.2⟩
theorem Row.drew {w : World} {g : Nat} {l : List Nat} (h : Row w g l) : Row w.drew g l := h
theorem Row.lim {w : World} {g : Nat} {l : List Nat} (h : Row w g l) {c : Nat} (h1 : l.length ≤ c) (h2 : c ≤ 9223372036854775807) : Lim w (some ⟨g, 0, none⟩) c l := by
 refine ⟨fun _ => ⟨g, 0, rfl, fun i hi => ?_⟩, h1, h2, h.2, fun h => by cases h⟩; have hi' : i < l.length := by simpa [u32s] using hi
 rw [Nat.zero_add, h.cell hi']; simp [u32s, List.getD, hi']
theorem Row.new (w : World) (n : Nat) : Row (w.alloc (.cells (arr (List.replicate n 0)) 104)) w.heap.size (List.replicate n 0) :=
 ⟨Blk.new w _ _, fun x hx => by rw [(List.mem_replicate.1 hx).2]; unfold Nm.B; omega⟩
theorem Row.congr {w : World} {g : Nat} {l l' : List Nat} (h : Row w g l) (e : l = l') : Row w g l' := e ▸ h
/-- only block g, and what is new, has turned -/
theorem only_refl (w : World) (row : Option Nat) : w.grownBy w row := World.grownBy.refl w row
theorem only_trans {a b c : World} {row : Option Nat} (h : a.grownBy b row) (k : b.grownBy c row) : a.grownBy c row :=
 ⟨k.os.trans h.os, k.tape.trans h.tape, k.output.trans h.output, Nat.le_trans h.size k.size, fun i hi hn => (k.block i (Nat.lt_of_lt_of_le hi h.size) hn).trans (h.block i hi hn)⟩
theorem only_below {a w : World} (h : Below a.heap.size a w) (row : Option Nat) : a.grownBy w row := ⟨h.os, h.tape, h.output, h.size, fun i hi _ => h.block i hi⟩
theorem only_set (w : World) {g : Nat} (i : Nat) (u : Value) : w.grownBy (w.setCell ⟨g, i, none⟩ u) (some g) :=
 ⟨rfl, rfl, rfl, by simp [World.setCell], fun j _ hne => Below.heap_setCell w ⟨g, i, none⟩ u j (fun e => hne (by rw [e]))⟩
theorem Lim.only {w w' : World} {A : Option Addr} {c : Nat} {l : List Nat} {g : Nat} (h : Lim w A c l) (hb : w.grownBy w' (some g)) (hne : ∀ b off, A = some ⟨b, off, none⟩ → b ≠ g) : Lim w' A c l := by
 refine ⟨fun hx => ?_, h.2⟩; obtain ⟨b, off, hA, hc⟩ := h.1 hx; refine ⟨b, off, hA, fun i hi => ?_⟩; rw [← hc i hi]; exact World.cell?_of_block (w := w) (hb.block b (cell_lt (hc i hi)) (fun e => hne b off hA (by injection e)))
theorem Row.only {w w' : World} {g g' : Nat} {l : List Nat} (h : Row w g l) (hb : w.grownBy w' (some g')) (hne : g ≠ g') : Row w' g l :=
 ⟨(hb.block g h.1.lt (fun e => hne (by injection e))).trans h.1, h.2⟩
theorem Row.setFar {w : World} {g : Nat} {l : List Nat} (h : Row w g l) {g' i : Nat} (hne : g ≠ g') (u : Value) : Row (w.setCell ⟨g', i, none⟩ u) g l := h.only (only_set w i u) hne
theorem Lim.setFar {w : World} {g c : Nat} {l : List Nat} (h : Lim w (some ⟨g, 0, none⟩) c l) {g' i : Nat} (hne : g ≠ g') (u : Value) : Lim (w.setCell ⟨g', i, none⟩ u) (some ⟨g, 0, none⟩) c l :=
 h.only (only_set w i u) (fun b off hA => by injection hA with hA; injection hA with e _; omega)
/-- one limb of a slice -/
theorem Lim.get {w : World} {A : Option Addr} {c : Nat} {l : List Nat} (h : Lim w A c l) {k : Nat} (hk : k < l.length) :
  ∃ b off a, A = some ⟨b, off, none⟩ ∧ w.cell? ⟨b, off + k, none⟩ = some (.int .u32 ((a : Nat) : Int)) ∧ a < 4294967296 ∧ Hid (a = l.getD k 0) := by
 obtain ⟨b, off, hA, hc⟩ := h.at_ hk; exact ⟨b, off, l.getD k 0, hA, hc k hk, h.lt k, rfl⟩
theorem Lim.get0 {w : World} {A : Option Addr} {c : Nat} {l : List Nat} (h : Lim w A c l) (hk : 0 < l.length) :
  ∃ b off a, A = some ⟨b, off, none⟩ ∧ w.cell? ⟨b, off, none⟩ = some (.int .u32 ((a : Nat) : Int)) ∧ a < 4294967296 ∧ Hid (a = l.getD 0 0) := by
 obtain ⟨b, off, hA, hc⟩ := h.at_ hk; have := hc 0 hk; rw [Nat.add_zero] at this; exact ⟨b, off, l.getD 0 0, hA, this, h.lt 0, rfl⟩
theorem Lim.getz {w : World} {g : Nat} {c : Nat} {l : List Nat} (h : Lim w (some ⟨g, 0, none⟩) c l) {k : Nat} (hk : k < l.length) :
  ∃ a, w.cell? ⟨g, k, none⟩ = some (.int .u32 ((a : Nat) : Int)) ∧ a < 4294967296 ∧ Hid (a = l.getD k 0) := by
 obtain ⟨b, off, a, hA, hc, ha, HA⟩ := h.get hk; injection hA with hA; injection hA with e1 e2; subst e1; subst e2; rw [Nat.zero_add] at hc; exact ⟨a, hc, ha, HA⟩
/-- one limb of a row -/
theorem Row.get {w : World} {g : Nat} {l : List Nat} (h : Row w g l) {k : Nat} (hk : k < l.length) :
  ∃ a, w.cell? ⟨g, k, none⟩ = some (.int .u32 ((a : Nat) : Int)) ∧ w.frozen? ⟨g, k, none⟩ = false ∧ a < 4294967296 ∧ Hid (a = l.getD k 0) :=
 ⟨l.getD k 0, h.cell hk, h.frozen k, h.lt k, rfl⟩
theorem u32_info : (Tryz.prog.info? 104).map (fun i => (i.zero, i.size, i.bytes)) = some (some (.int .u32 0), 1, 4) := by kernel_rfl
/-- 'make([]uint32, n)' -/
theorem run_make32 (k : Int) (n : Nat) (hk : k = n) (hn : n ≤ 35184372088832) (w : World) :
  (Instr.makeSlice 27 (.int .i64 k) (.int .i64 k)).run Tryz.prog w = .ok (.slice (some ⟨w.heap.size, 0, none⟩) n n) (w.alloc (.cells (arr (List.replicate n 0)) 104)) := by
 subst hk; obtain ⟨i0, hi, hz0, hz1, hz2⟩ := info_parts u32_info; have h := run_make (P := Tryz.prog) w 27 104 i0 (.int .u32 0) Tryz.underlying27 hi hz0 .i64 .i64 n n (by omega) (by omega) (by rw [hz2]; omega) (by omega); rw [h]
 have e : madeCells (Value.int .u32 0).cells n = arr (List.replicate n 0) := by
  apply Array.ext
  ·simp [arr, u32s, size_madeCells]
  ·intro i h1 h2; simp [madeCells, arr, u32s, Value.cells, Nat.mod_one]
 simp only [Int.toNat_natCast, hz1, Nat.mul_one, e]
end Go.Proofs.YtijkfagkbfbpmaaGreatDoor
namespace Go.Proofs.YtijkfagkbfbpmaaGreatDoor
open Go.RowKit
def trimLen : List Nat → Nat → Nat
 | _, 0 => 0
 | l, n + 1 => if l.getD n 0 = 0 then trimLen l n else n + 1
theorem trimLen_le (l : List Nat) (n : Nat) : trimLen l n ≤ n := by
 induction n with
 | zero => exact Nat.le_refl _
 | succ n ih => unfold trimLen; split <;> omega
theorem trimLen_zero (l : List Nat) (n k : Nat) (h : trimLen l n ≤ k) (hk : k < n) : l.getD k 0 = 0 := by
 induction n with
 | zero => omega
 | succ n ih =>
  unfold trimLen at h
  split at h
  ·rename_i h0
   rcases Nat.lt_or_ge k n with h1 | h1
   ·exact ih h h1
   ·have : k = n := by omega
    subst this; exact h0
  ·omega
theorem trimLen_ne (l : List Nat) (n : Nat) (h : 0 < trimLen l n) : l.getD (trimLen l n - 1) 0 ≠ 0 := by
 induction n with
 | zero => simp [trimLen] at h
 | succ n ih =>
  unfold trimLen at h ⊢
  split at h
  ·rename_i h0; simp only [if_pos h0]; exact ih h
  ·rename_i h0; simp only [if_neg h0]; simpa using h0
theorem take_trimLen {l : List Nat} (hl : Nm.Lim l) : l.take (trimLen l l.length) = Nm.lb (Nm.nv l) := by
 refine Nm.take_trim hl (trimLen_le _ _) (fun k hk h => ?_) (fun h => ?_)
 ·have := trimLen_zero l l.length k h hk
  simpa [List.getD, hk] using this
 ·have h1 := trimLen_ne l l.length h; have := trimLen_le l l.length; have hlt : trimLen l l.length - 1 < l.length := by omega
  simpa [List.getD, hlt] using h1
theorem len_trimLen {l : List Nat} (hl : Nm.Lim l) : trimLen l l.length = (Nm.lb (Nm.nv l)).length := by
 have := congrArg List.length (take_trimLen hl); have h2 := trimLen_le l l.length; rw [List.length_take] at this; omega
theorem Lim.trim {w : World} {A : Option Addr} {c : Nat} {l : List Nat} (h : Lim w A c l) : Lim w A (Nm.lb (Nm.nv l)).length (Nm.lb (Nm.nv l)) := by
 have hl := h.2.2.2.1; have e := take_trimLen hl; have hle := trimLen_le l l.length; have hlen := len_trimLen hl; refine ⟨fun hne => ?_, Nat.le_refl _, by have := h.2.1; have := h.2.2.1; omega, Nm.lim_lb _, fun hA => by have := h.2.2.2.2 hA; have := h.2.1; omega⟩
 have h0 : 0 < l.length := by
  rcases Nat.eq_zero_or_pos l.length with h0 | h0
  ·have : l = [] := List.eq_nil_of_length_eq_zero h0; subst this; exact absurd rfl hne
  ·exact h0
 obtain ⟨b, off, hA, hc⟩ := h.at_ h0; refine ⟨b, off, hA, fun i hi => ?_⟩; simp only [u32s, List.length_map] at hi; rw [hc i (by omega)]; simp only [u32s, List.getElem_map]
 congr 3
 have : (Nm.lb (Nm.nv l))[i] = (l.take (trimLen l l.length))[i]'(by rw [e]; exact hi) := by simp only [e]
 rw [this]; have hil : i < l.length := by omega
 simp [List.getD, hil]

set_option maxHeartbeats 400000 in
theorem trim_any (A : Option Addr) (c : Nat) (l : List Nat) (w : World) (hr : Lim w A c l) :
  Calls Tryz.prog 101 #[.slice A l.length c] w fun e w' => e = .returned (.slice A (Nm.lb (Nm.nv l)).length (Nm.lb (Nm.nv l)).length) ∧ w = w' := by
 rw [← len_trimLen hr.2.2.2.1]; have hl := hr.2.1; have hc := hr.2.2.1
 go_enter Tryz.func101, Tryz.ntmps101
 go_wp2
 go_loop [3] (fun t => ∃ k : Nat, k ≤ l.length ∧ t = .int .i64 k ∧ trimLen l k = trimLen l l.length) (fun t => (intOf t).toNat)
 case atStart => exact ⟨_, Nat.le_refl _, rfl, rfl⟩
 case round =>
  obtain ⟨k, hk, rfl, ht⟩ := hrel; have HT := Lib.hid ht; clear ht
  rcases k with _ | k
  ·go_wp2
   go_ret; exact ⟨by rw [← HT.out]; rfl, rfl⟩
  ·obtain ⟨b, off, rfl, hcell⟩ := hr.at_ (k := k) (by omega); have h1 := hcell k (by omega); clear hcell
   go_wp2
   ·have h0 : (((l[k]?.getD 0 : Nat) : Int) == 0) = true := by assumption
    go_round
    case rel => exact ⟨k, by omega, rfl, by rw [← HT.out, trimLen, if_pos (by simp at h0 ⊢; omega)]⟩
    case measure => simp [intOf]
   ·have h0 : (((l[k]?.getD 0 : Nat) : Int) == 0) = false := by assumption
    go_ret; exact ⟨by rw [← HT.out, trimLen, if_neg (by simp at h0 ⊢; omega)]; rfl, rfl⟩
theorem trim_k (A : Option Addr) (c k : Nat) (l : List Nat) (w : World) (hr : Lim w A c l) (hk : k = l.length) :
  Calls Tryz.prog 101 #[.slice A k c] w fun e w' => e = .returned (.slice A (Nm.lb (Nm.nv l)).length (Nm.lb (Nm.nv l)).length) ∧ w = w' := by
 subst hk; exact trim_any A c l w hr
end Go.Proofs.YtijkfagkbfbpmaaGreatDoor
