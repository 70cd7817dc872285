import Derived.Test.YticobffjnjbjiaaKGcProof20
import Derived.Test.YticobffjnjbjiaaKGcProof21
import Derived.Test.YticobffjnjbjiaaS0
set_option linter.unusedVariables false
set_option linter.unusedSimpArgs false
namespace Go.Proofs.Yticobffjnjbjiaa
open Go Go.RowKit
theorem dgs_of (n : Nat) : ∀ l : List Value, l.length = 16 * n → ∃ ds : List DG, ds.flatMap cellsDG = l ∧ ds.length = n := by
 induction n with
 | zero =>
  intro l h; exact ⟨[], (List.eq_nil_of_length_eq_zero (by omega) : l = []).symm, rfl⟩
 | succ n ih =>
  intro l h
  rcases l with _ | ⟨a0, l⟩
  ·simp only [List.length_cons, List.length_nil] at h; omega
  rcases l with _ | ⟨a1, l⟩
  ·simp only [List.length_cons, List.length_nil] at h; omega
  rcases l with _ | ⟨a2, l⟩
  ·simp only [List.length_cons, List.length_nil] at h; omega
  rcases l with _ | ⟨a3, l⟩
  ·simp only [List.length_cons, List.length_nil] at h; omega
  rcases l with _ | ⟨a4, l⟩
  ·simp only [List.length_cons, List.length_nil] at h; omega
  rcases l with _ | ⟨a5, l⟩
  ·simp only [List.length_cons, List.length_nil] at h; omega
  rcases l with _ | ⟨a6, l⟩
  ·simp only [List.length_cons, List.length_nil] at h; omega
  rcases l with _ | ⟨a7, l⟩
  ·simp only [List.length_cons, List.length_nil] at h; omega
  rcases l with _ | ⟨a8, l⟩
  ·simp only [List.length_cons, List.length_nil] at h; omega
  rcases l with _ | ⟨a9, l⟩
  ·simp only [List.length_cons, List.length_nil] at h; omega
  rcases l with _ | ⟨a10, l⟩
  ·simp only [List.length_cons, List.length_nil] at h; omega
  rcases l with _ | ⟨a11, l⟩
  ·simp only [List.length_cons, List.length_nil] at h; omega
  rcases l with _ | ⟨a12, l⟩
  ·simp only [List.length_cons, List.length_nil] at h; omega
  rcases l with _ | ⟨a13, l⟩
  ·simp only [List.length_cons, List.length_nil] at h; omega
  rcases l with _ | ⟨a14, l⟩
  ·simp only [List.length_cons, List.length_nil] at h; omega
  rcases l with _ | ⟨a15, l⟩
  ·simp only [List.length_cons, List.length_nil] at h; omega
  obtain ⟨ds, e, hl⟩ := ih l (by simp only [List.length_cons] at h; omega); exact ⟨⟨a0, a1, a2, a3, a4, a5, a6, a7, a8, a9, a10, a11, a12, a13, a14, a15⟩ :: ds, by rw [List.flatMap_cons, e]; rfl, by rw [List.length_cons, hl]⟩
def intsV (l : List Value) : List Int := l.map fun v => match v with
 | .int _ n => n
 | _ => 0
theorem ints_bytes {l : List Value} (h : ∀ v ∈ l, ∃ n : Int, v = .int .u8 n) : l = bytes16 (intsV l) := by
 unfold bytes16 intsV; rw [List.map_map]
 conv => lhs; rw [← List.map_id l]
 apply List.map_congr_left
 intro v hv; obtain ⟨n, rfl⟩ := h v hv; rfl
/-- a block of three digests, all else as before -/
def DgS (w0 W : World) : Prop := ∃ arr : Array Value, Blk W w0.heap.size 51 arr ∧ arr.size = 48 ∧ (∀ v ∈ arr.toList, ∃ n : Int, v = .int .u8 n) ∧ Below w0.heap.size w0 W
theorem DgS.set {w0 W : World} (h : DgS w0 W) (i : Nat) (n : Int) : DgS w0 (W.setCell ⟨w0.heap.size, i, none⟩ (.int .u8 n)) := by
 obtain ⟨arr, h1, h2, h3, h4⟩ := h; refine ⟨_, h1.set_ i _, by simp [h2], fun v hv => ?_, h4.setCell (Nat.le_refl _) _⟩; rw [Array.toList_setIfInBounds] at hv
 rcases List.mem_or_eq_of_mem_set hv with h | h
 ·exact h3 v h
 ·exact ⟨n, h⟩
theorem DgS.drew {w0 W : World} (h : DgS w0 W) : DgS w0 W.drew := by
 obtain ⟨arr, h1, h2, h3, h4⟩ := h; exact ⟨arr, h1, h2, h3, h4.drew⟩
theorem DgS.row {w0 W : World} (h : DgS w0 W) : ∃ (ds : List DG) (rd : Nat → List Int), RowS cellsDG W (some ⟨w0.heap.size, 0, none⟩) 3 ds ∧ (∀ (j : Nat) d, ds[j]? = some d → DgOk (cellsDG d) (rd j)) ∧ Below w0.heap.size w0 W := by
 obtain ⟨arr, h1, h2, h3, h4⟩ := h; obtain ⟨ds, e, hl⟩ := dgs_of 3 arr.toList (by simpa using h2); refine ⟨ds, fun j => match ds[j]? with | some d => intsV (cellsDG d) | none => [], ⟨fun _ => ⟨_, 0, rfl, fun i hi => ?_⟩, hl.symm, by omega⟩, fun j d hd => ?_, h4⟩
 ·rw [Nat.zero_add, h1.cell]; simp only [e] at hi ⊢; simp at hi; simp [hi]
 ·simp only [hd]; refine ⟨ints_bytes fun v hv => h3 v ?_, by simp [intsV, cellsDG_len]⟩; rw [← e]; exact List.mem_flatMap.2 ⟨d, List.mem_of_getElem? hd, hv⟩
theorem info_dg : (Try.prog.info? 51).map (fun i => (i.zero, i.size, i.bytes)) = some (some (.agg #[.int .u8 0, .int .u8 0, .int .u8 0, .int .u8 0, .int .u8 0, .int .u8 0, .int .u8 0, .int .u8 0, .int .u8 0, .int .u8 0, .int .u8 0, .int .u8 0, .int .u8 0, .int .u8 0, .int .u8 0, .int .u8 0]), 16, 16) := by kernel_rfl
def zeros48 : Array Value := Array.replicate 48 (.int .u8 0)
theorem make_dg (w : World) : (Instr.makeSlice 97 (.int .i64 3) (.int .i64 3)).run Try.prog w = .ok (.slice (some ⟨w.heap.size, 0, none⟩) 3 3) (w.alloc (.cells zeros48 51)) := by
 obtain ⟨i0, hi, hz0, hz1, hz2⟩ := info_parts info_dg; have h := run_make (P := Try.prog) w 97 51 i0 _ Try.underlying97 hi hz0 .i64 .i64 3 3 (by omega) (by omega) (by rw [hz2]; omega) (by omega); have e : madeCells (Value.agg #[.int .u8 0, .int .u8 0, .int .u8 0, .int .u8 0, .int .u8 0, .int .u8 0, .int .u8 0, .int .u8 0, .int .u8 0, .int .u8 0, .int .u8 0, .int .u8 0, .int .u8 0, .int .u8 0, .int .u8 0, .int .u8 0]).cells (Int.toNat 3 * 16) = zeros48 := by kernel_rfl
 rw [h, hz1, e]; rfl
theorem DgS.new (w : World) : DgS w (w.alloc (.cells zeros48 51)) := by
 refine ⟨zeros48, Blk.new _ _ _, by simp [zeros48], fun v hv => ?_, bA _ _⟩; simp [zeros48] at hv; exact ⟨0, hv⟩
end Go.Proofs.Yticobffjnjbjiaa
namespace Go.Proofs.Yticobffjnjbjiaa
open Go Go.RowKit
theorem flat_ints : ∀ l : List Int, l.flatMap intC = l.map (Value.int .i64)
 | [] => rfl
 | n :: l => by rw [List.flatMap_cons, flat_ints l]; rfl
theorem ints_take {w : World} {A : Option Addr} {k : Nat} {l : List Int} (h : RowL intC w A k l) {m : Nat} (hm : m ≤ k) (hm2 : m ≤ 4) : RowS intC w A m (l.take m) := by
 have hk := h.2.1; refine ⟨fun hx => ?_, by rw [List.length_take]; omega, by omega⟩; have h1 := h.1; rw [flat_ints] at h1 hx ⊢; obtain ⟨b, off, e, hc⟩ := h1 (fun e => hx (by rw [List.map_eq_nil_iff.1 e]; simp)); refine ⟨b, off, e, fun i hi => ?_⟩; simp only [List.length_map, List.length_take] at hi; rw [hc i (by simp; omega)]; simp
open Classical in
theorem eql_res (w : World) (r s : RC0) (hr : RcTy r) (hs : RcTy s) {b : Bool} (hb : b = true ↔ r = s) : (binOp .eql 64 (.agg (cellsR r).toArray) (.agg (cellsR s).toArray)).run Try.prog w = .ok (.bool b) w := by
 rw [run_eql_struct, show (10000 : Nat) = 9997 + 3 from rfl, res_equal w 9997 r s hr hs, show decide (r = s) = b by rw [Bool.eq_iff_iff, decide_eq_true_iff]; exact hb.symm]; rfl
theorem quiet_eqlR (a : Act) (C : World → Prop) (w : World) (x y : Operand) (r s : RC0) (hr : RcTy r) (hs : RcTy s) {b : Bool} (hb : b = true ↔ r = s) (hx : a.eval x = (.agg (cellsR r).toArray)) (hy : a.eval y = .agg (cellsR s).toArray) (o : Oper) (ho : o.op = .binOp .eql 64 x y 64) : o.quietAt Try.prog a C w (.bool b) := by
 have h := eql_res w r s hr hs hb; unfold Oper.quietAt execOp; rw [ho]; simp only [hx, hy, Sem.run_bind, run_eqGuard_agg (P := Try.prog) w .eql 64 x y (cellsR r).toArray (cellsR s).toArray (by kernel_rfl), h, Result.andThen_ok, Sem.run_pure]; exact ⟨rfl, rfl⟩
def names3 : List ByteArray := [(⟨#[116, 48]⟩ : ByteArray), ⟨#[116, 49]⟩, ⟨#[117]⟩]
theorem tw3 : twA names3 = false := by kernel_rfl
def LfB (bd : Nat → Nat × Nat) (i : Nat) : List Nat × List Nat := (Nm.lb (bd i).1, Nm.lb (Nm.dn (bd i).2))
theorem prom_sizes {p : PC} (h : PromOk p) : p.test.size ≤ 100 ∧ p.wh.size ≤ 100 := by
 obtain ⟨team, t, h, site, fr, un, d, A1, k1, c1, A2, k2, c2, rfl, _, ht, hh, _⟩ := h; refine ⟨?_, ?_⟩
 ·show t.size ≤ 100
  rcases ht with rfl | rfl | rfl <;> decide
 ·show h.size ≤ 100
  rcases hh with rfl | rfl | rfl <;> decide
theorem esc_all {w : World} {ps : List PC} {bd : Nat → Nat × Nat} (h : PsOk w ps bd) : EscOk w ps (LfB bd) := by
 intro n p hp; obtain ⟨k1, k2, _⟩ := h n p hp; have k3 := prom_sizes k1; exact ⟨rtl_rat k2, by omega, by omega⟩
theorem prom_good {p : PC} (h : PromOk p) {a b : Nat} (hab : a ≤ b) : ¬ pBad a b p := by
 obtain ⟨team, t, h, site, fr, un, d, A1, k1, c1, A2, k2, c2, rfl, h1, ht, hh, h4, h5, h6, h7, h8, _⟩ := h; have w1 : wordB t = true := by rcases ht with rfl | rfl | rfl <;> decide
 have w2 : h.toList.isEmpty = false → wordB h = true := by
  rw [ByteArray.toList_eq]
  rcases hh with rfl | rfl | rfl <;> intro e <;> first | decide | (exact absurd e (by decide))
 have w3 : h.toList.isEmpty = true → site = 0 := by
  rw [ByteArray.toList_eq]; intro e
  rcases hh with rfl | rfl | rfl
  ·exact absurd e (by decide)
  ·exact absurd e (by decide)
  ·exact h5 rfl
 unfold pBad; simp only [promV]; rintro (e | e | e | e | ⟨e1, e2⟩ | e | e | ⟨e1, e2⟩ | e | e | e)
 ·omega
 ·omega
 ·omega
 ·rw [w1] at e; cases e
 ·rw [w2 e1] at e2; cases e2
 ·omega
 ·omega
 ·exact e2 (by rw [w3 e1]; rfl)
 ·omega
 ·omega
 ·omega
theorem pval_all {w : World} {ps : List PC} {bd : Nat → Nat × Nat} (h : PsOk w ps bd) : ∀ (n : Nat) p, ps[n]? = some p → PVal p (LfB bd n).1 (LfB bd n).2 0 := by
 intro n p hp; obtain ⟨k1, k2, k3, k4, _⟩ := h n p hp; exact .inr ⟨_, _, rfl, rfl, k3, pE_ok (prom_good k1 k4)⟩
def dgP (ps : List PC) (n : Nat) : List Int := match ps[n]? with
 | some p => intsV (pdg p)
 | none => []
theorem dg_all {w : World} {ps : List PC} {bd : Nat → Nat × Nat} (h : PsOk w ps bd) : ∀ (n : Nat) p, ps[n]? = some p → DgOk (pdg p) (dgP ps n) := by
 intro n p hp; obtain ⟨k1, _⟩ := h n p hp; obtain ⟨team, t, h, site, fr, un, d, A1, k1, c1, A2, k2, c2, rfl, _⟩ := k1; unfold dgP; rw [hp]; exact ⟨rfl, rfl⟩
theorem row_strs {w : World} {g : Nat} {T : TypeId} (h : Blk w g T (names3.flatMap strC).toArray) : RowS strC w (some ⟨g, 0, none⟩) 3 names3 :=
 ⟨fun _ => ⟨g, 0, rfl, fun i hi => by rw [Nat.zero_add, h.cell]; simp [hi]⟩, rfl, by omega⟩
/-- what the law's walk holds -/
structure GcF (W : World) (Ap : Option Addr) (kp : Nat) (ps : List PC) (bd : Nat → Nat × Nat) (An : Option Addr) (kn : Nat) (names : List ByteArray) (Ar : Option Addr) (rs : List RC0) (gT gd : Nat) (ds : List DG) (A4 : Option Addr) (m4 : Nat) (br : List Int) (gl : Nat) (ya : Ln) : Prop where
 hps : RowS cellsP W Ap kp ps
 pok : PsOk W ps bd
 hnm : RowS strC W An kn names
 hrs : RowS cellsR W Ar kn rs
 hts : RowS strC W (some ⟨gT, 0, none⟩) 3 names3
 hds : RowS cellsDG W (some ⟨gd, 0, none⟩) 3 ds
 hbr : RowS intC W A4 m4 br
 bl : Blk W gl 58 #[.slice ya.A1 ya.k1 ya.c1, .slice ya.A2 ya.k2 ya.c2]
 oy : ya.Ok W
theorem GcF.below {W W' : World} {Ap : Option Addr} {kp : Nat} {ps : List PC} {bd : Nat → Nat × Nat} {An : Option Addr} {kn : Nat} {names : List ByteArray} {Ar : Option Addr} {rs : List RC0} {gT gd : Nat} {ds : List DG} {A4 : Option Addr} {m4 : Nat} {br : List Int} {gl : Nat} {ya : Ln} (h : GcF W Ap kp ps bd An kn names Ar rs gT gd ds A4 m4 br gl ya) (hb : Below W.heap.size W W') : GcF W' Ap kp ps bd An kn names Ar rs gT gd ds A4 m4 br gl ya :=
 ⟨h.hps.below hb, h.pok.below hb, h.hnm.below hb, h.hrs.below hb, h.hts.below hb, h.hds.below hb, h.hbr.below hb, Blk.below h.bl hb h.bl.lt, h.oy.below hb⟩
/-- where a name stands among the first j of the three -/
def AtP (s : ByteArray) (j : Nat) (at_ : Int) : Prop := (at_ = -1 ∧ ∀ q, q < j → names3[q]? ≠ some s) ∨ ∃ q : Nat, q < j ∧ at_ = (q : Int) ∧ names3[q]? = some s
theorem AtP.neg {s : ByteArray} {at_ : Int} (h : AtP s 3 at_) (h0 : at_ < 0) : idxN names3 s = none := by
 rcases h with ⟨_, h⟩ | ⟨q, _, rfl, _⟩
 ·refine idx_none fun hm => ?_
  obtain ⟨n, hn⟩ := List.getElem?_of_mem hm; have := (List.getElem?_eq_some_iff.1 hn).1; exact h n (by simpa [names3] using this) hn
 ·omega
theorem AtP.pos {s : ByteArray} {at_ : Int} (h : AtP s 3 at_) (h0 : ¬ at_ < 0) : ∃ q : Nat, q < 3 ∧ at_ = (q : Int) ∧ idxN names3 s = some q := by
 rcases h with ⟨rfl, _⟩ | ⟨q, h1, rfl, h2⟩
 ·omega
 ·obtain ⟨j, e1, e2⟩ := idx_some (List.mem_of_getElem? h2); refine ⟨q, h1, rfl, ?_⟩
  rcases Nat.lt_trichotomy j q with h | h | h
  ·exact (tw_apart tw3 e2 h2 h).elim
  ·rw [e1, h]
  ·exact (tw_apart tw3 h2 e2 h).elim
theorem AtP.hit {s : ByteArray} {j : Nat} (h : names3[j]? = some s) : AtP s (j + 1) (j : Int) := .inr ⟨j, by omega, rfl, h⟩
theorem AtP.miss {s : ByteArray} {j : Nat} {at_ : Int} (h : AtP s j at_) (h2 : names3[j]? ≠ some s) : AtP s (j + 1) at_ := by
 rcases h with ⟨h1, h3⟩ | ⟨q, h1, h3⟩
 ·refine .inl ⟨h1, fun q hq => ?_⟩
  rcases Nat.lt_or_ge q j with h | h
  ·exact h3 q h
  ·rw [show q = j by omega]; exact h2
 ·exact .inr ⟨q, by omega, h3⟩
def PhiGc8 (gd i : Nat) (rests : Int) (j : Nat) (w : World) (x : Value) : Prop :=
 match j with
 | 0 => x = .slice (some ⟨gd, 0, none⟩) 3 3
 | 1 => x = .int .i64 (i : Nat)
 | 2 => x = .int .i64 rests
 | 3 => ∃ z : Nat, x = .int .i64 (z : Nat)
 | 4 => x = .int .i64 (i : Nat)
 | 5 => x = .int .u64 (i : Nat)
 | 6 => ∃ z : Int, x = .int .i64 z
 | 7 => ∃ z : Int, x = .int .i64 z
 | 8 => ∃ z : Int, x = .int .u8 z
 | 9 => x = .pointer (some ⟨gd, i * 16, none⟩)
 | 10 => x = .pointer (some ⟨gd, i * 16, none⟩)
 | _ => True
def PhiGc33A (bP oP bN oN bR oR kp cp kn cn cr k i : Nat) (p : PC) (s : ByteArray) (r : RC0) (sv : Int) (cb : Bool) (j : Nat) (w : World) (x : Value) : Prop :=
 match j with
 | 0 => x = .int .i64 sv
 | 1 => x = .bool false
 | 2 => x = .bool false
 | 3 => x = undef
 | 4 => x = undef
 | 5 => x = undef
 | 6 => x = undef
 | 7 => x = undef
 | 8 => x = undef
 | 9 => x = .bool false
 | 10 => x = .bool false
 | 11 => x = undef
 | 12 => x = undef
 | 13 => x = undef
 | 14 => x = undef
 | 15 => x = undef
 | 16 => x = undef
 | 17 => x = undef
 | 18 => x = undef
 | 19 => x = undef
 | 20 => x = undef
 | 21 => x = undef
 | 22 => x = undef
 | 23 => x = undef
 | 24 => x = .bool false
 | 25 => x = .bool false
 | _ => True
theorem PhiGc33A.keep {bP oP bN oN bR oR kp cp kn cn cr k i : Nat} {p : PC} {s : ByteArray} {r : RC0} {sv : Int} {cb : Bool} : ∀ (w w' : World), Below w.heap.size w w' → ∀ j x, PhiGc33A bP oP bN oN bR oR kp cp kn cn cr k i p s r sv cb j w x → PhiGc33A bP oP bN oN bR oR kp cp kn cn cr k i p s r sv cb j w' x := by
 intro w w' hb j x h; unfold PhiGc33A at h ⊢; exact h
def PhiGc33B (bP oP bN oN bR oR kp cp kn cn cr k i : Nat) (p : PC) (s : ByteArray) (r : RC0) (sv : Int) (cb : Bool) (j : Nat) (w : World) (x : Value) : Prop :=
 match j with
 | 0 => x = .int .i64 sv
 | 1 => x = .bool true
 | 2 => x = .bool true
 | 3 => x = .slice (some ⟨bP, oP, none⟩) kp cp
 | 4 => x = .int .i64 (k : Nat)
 | 5 => x = .pointer (some ⟨bP, oP + k * 24, none⟩)
 | 6 => x = .agg (cellsP p).toArray
 | 7 => x = .int .i64 0
 | 8 => x = .bool true
 | 9 => x = .bool true
 | 10 => x = .bool true
 | 11 => x = .slice (some ⟨bP, oP, none⟩) kp cp
 | 12 => x = .int .i64 (k : Nat)
 | 13 => x = .pointer (some ⟨bP, oP + k * 24, none⟩)
 | 14 => x = .agg (cellsP p).toArray
 | 15 => x = .slice (some ⟨bN, oN, none⟩) kn cn
 | 16 => x = .int .i64 (i : Nat)
 | 17 => x = .pointer (some ⟨bN, oN + i, none⟩)
 | 18 => x = .string s
 | 19 => x = .slice (some ⟨bR, oR, none⟩) kn cr
 | 20 => x = .int .i64 (i : Nat)
 | 21 => x = .pointer (some ⟨bR, oR + i * 22, none⟩)
 | 22 => x = .agg (cellsR r).toArray
 | 23 => x = .bool cb
 | 24 => x = .bool cb
 | 25 => x = .bool cb
 | _ => True
theorem PhiGc33B.keep {bP oP bN oN bR oR kp cp kn cn cr k i : Nat} {p : PC} {s : ByteArray} {r : RC0} {sv : Int} {cb : Bool} : ∀ (w w' : World), Below w.heap.size w w' → ∀ j x, PhiGc33B bP oP bN oN bR oR kp cp kn cn cr k i p s r sv cb j w x → PhiGc33B bP oP bN oN bR oR kp cp kn cn cr k i p s r sv cb j w' x := by
 intro w w' hb j x h; unfold PhiGc33B at h ⊢; exact h
set_option maxRecDepth 100000 in
set_option maxHeartbeats 16000000 in
theorem gate_covers_n (A0 A1 A4 : Option Addr) (k0 c0 k1 c1 k4 c4 : Nat) (l0 l1 l4 : List Int) (tick rests : Int) (w : World)
  (h0 : RowL intC w A0 k0 l0) (H0 : Hid (∀ x ∈ l0, -9223372036854775808 ≤ x ∧ x ≤ 9223372036854775807)) (h1 : RowL intC w A1 k1 l1) (H1 : Hid (∀ x ∈ l1, -9223372036854775808 ≤ x ∧ x ≤ 9223372036854775807)) (h4 : RowL intC w A4 k4 l4) (hc4 : k4 ≤ c4) (hc5 : c4 ≤ 9223372036854775807)
  (ho1 : -9223372036854775808 ≤ tick) (ho2 : tick ≤ 9223372036854775807) (ho3 : -9223372036854775808 ≤ rests) (ho4 : rests ≤ 9223372036854775807) :
  Calls Try.prog 10 #[.slice A0 k0 c0, .slice A1 k1 c1, .int .i64 tick, .int .i64 rests, .slice A4 k4 c4] w fun e w' => e = .returned (.bool true) ∧ Below w.heap.size w w' := by
 have hmk := make_dg
 go_enter Try.func10, Try.ntmps10
 go_wp2_with fail; refine (made_n A0 k0 c0 l0 _ h0 H0).mono ?_; rintro e w1 ⟨Ap, kp, cp, ps, bd, rfl, _, _, hps, hkp, hok, hb1⟩; go_wp2_with fail
 have HPO : Hid (∀ p ∈ ps, PromOk p) := fun p hp => by
  obtain ⟨n, hn⟩ := List.getElem?_of_mem hp; exact (hok n p hn).1
 refine (tests_n Ap kp cp ps A1 k1 c1 l1 _ hps HPO (by omega) (h1.below hb1) H1).mono ?_; rintro e w2 ⟨names, rs, kn, An, cn, Ar, cr, rfl, hon, hor, hkn, HRS, HNS, hb2⟩; have hnm := own_any strC_len (by omega) (by omega) hon; have hrs := own_any cellsR_len (by omega) (by omega) hor; have hps := hps.below hb2; have hok := hok.below hb2; have hbw := Below.tr hb1 hb2; clear hb1 hb2 h0 h1 H0 H1 HPO hon hor; go_upto_region 4 with fail; refine wp_name ?_; intro v4 HV4; have hbv : Below w2.heap.size w2 v4 := by rw [HV4.out]; exact bA _ _
 have BT : Blk v4 w2.heap.size 9 (names3.flatMap strC).toArray := by rw [HV4.out]; exact Blk.new _ _ _
 have hnm := hnm.below hbv; have hrs := hrs.below hbv; have hps := hps.below hbv; have hok := hok.below hbv; have hbw := Below.tr hbw hbv; generalize w2.heap.size = gT at BT; clear HV4 hbv; have HD0 := DgS.new v4; go_wp2_with fail; clear hmk
 go_loopg [16] 3 (fun m x wr => ∃ i : Nat, x = .int .i64 i ∧ i + m = 3 ∧ Hid (DgS v4 wr))
 case atStart => exact ⟨0, rfl, by omega, HD0⟩
 case round =>
  obtain ⟨G, hG⟩ : ∃ G, G = gk := ⟨gk, rfl⟩; subst hG; obtain ⟨i, rfl, him, HD⟩ := hrel; clear HD0; by_cases hi : i < 3
  ·have t1 : decide ((i : Int) < 3) = true := by simp; omega
   have li : (i : Int) < 3 := by omega
   go_upto_region 8 with fail; obtain ⟨xr, hxr⟩ : ∃ x, x = wr := ⟨_, rfl⟩; subst hxr; refine region_invF (PhiGc8 v4.heap.size i rests) (fun w w' => DgS v4 w → DgS v4 w') (fun W => DgS v4 W) (by kernel_rfl) (by kernel_rfl) (by kernel_rfl) (fun _ _ _ _ _ h => h) (fun _ _ hR hS => hR hS) HD.out.drew (fun vs => by simp only [fillR, Act.put, sA, sB, sC, Nat.zero_add, Nat.reduceAdd]; rfl) ?_ ?_
   ·refine sK ?_ (sK ?_ (sK ?_ (sK ?_ (sK ?_ (sK ?_ (sK ?_ (sK ?_ (sK ?_ (sK ?_ (sK ?_ (sK ?_ (sZ))))))))))))
    ·as_aux_lemma =>
     intro vs W hS hdep K hK; refine ⟨?_⟩; simp only [Act.put, sA, sB, sC, Nat.zero_add, Nat.reduceAdd] at hK ⊢; go_simp; with_reducible refine hK _ _ (fun h => h) ?_
     exact rfl
    ·as_aux_lemma =>
     intro vs W hS hdep K hK; refine ⟨?_⟩; simp only [Act.put, sA, sB, sC, Nat.zero_add, Nat.reduceAdd] at hK ⊢; go_simp; with_reducible refine hK _ _ (fun h => h) ?_
     exact rfl
    ·as_aux_lemma =>
     intro vs W hS hdep K hK; refine ⟨?_⟩; simp only [Act.put, sA, sB, sC, Nat.zero_add, Nat.reduceAdd] at hK ⊢; go_simp; with_reducible refine hK _ _ (fun h => h) ?_
     exact rfl
    ·as_aux_lemma =>
     intro vs W hS hdep K hK; have d0 := hdep ⟨2, .data⟩ (by simp) rfl; simp only [PhiGc8] at d0; refine ⟨?_⟩; simp only [Act.put, sA, sB, sC, Nat.zero_add, Nat.reduceAdd, d0] at hK ⊢; go_simp; refine (around_n rests 8 _ ho3 ho4 (by omega) (by omega)).mono ?_; rintro e w' ⟨z, rfl, hz, -, rfl⟩; go_wp2_with fail; with_reducible refine hK _ _ (fun h => h) ?_
     exact ⟨z, rfl⟩
    ·as_aux_lemma =>
     intro vs W hS hdep K hK; refine ⟨?_⟩; simp only [Act.put, sA, sB, sC, Nat.zero_add, Nat.reduceAdd] at hK ⊢; go_simp; with_reducible refine hK _ _ (fun h => h) ?_
     exact rfl
    ·as_aux_lemma =>
     intro vs W hS hdep K hK; have d0 := hdep ⟨4, .data⟩ (by simp) rfl; simp only [PhiGc8] at d0; have hwr : IntKind.u64.wrap (i : Int) = (i : Int) := by rcases i with _ | _ | _ | i <;> first | rfl | omega
     refine ⟨?_⟩; simp only [Act.put, sA, sB, sC, Nat.zero_add, Nat.reduceAdd, d0] at hK ⊢; go_simp; with_reducible refine hK _ _ (fun h => h) ?_
     exact rfl
    ·as_aux_lemma =>
     intro vs W hS hdep K hK; have d0 := hdep ⟨3, .data⟩ (by simp) rfl; simp only [PhiGc8] at d0; refine @exE1 _ _ _ d0 ?_; clear d0; intro z0 d0; have e0 := d0; clear d0; have d1 := hdep ⟨5, .data⟩ (by simp) rfl; simp only [PhiGc8] at d1; have li2 := li; have hi2 := hi; refine ⟨?_⟩; simp only [Act.put, sA, sB, sC, Nat.zero_add, Nat.reduceAdd, e0, d1] at hK ⊢; go_simp; with_reducible refine hK _ _ (fun h => h) ?_
     exact ⟨_, rfl⟩
    ·as_aux_lemma =>
     intro vs W hS hdep K hK; have d0 := hdep ⟨6, .data⟩ (by simp) rfl; simp only [PhiGc8] at d0; refine @exE1 _ _ _ d0 ?_; clear d0; intro z0 d0; have e0 := d0; clear d0; have li2 := li; have hi2 := hi; refine ⟨?_⟩; simp only [Act.put, sA, sB, sC, Nat.zero_add, Nat.reduceAdd, e0] at hK ⊢; go_simp; with_reducible refine hK _ _ (fun h => h) ?_
     exact ⟨_, rfl⟩
    ·as_aux_lemma =>
     intro vs W hS hdep K hK; have d0 := hdep ⟨7, .data⟩ (by simp) rfl; simp only [PhiGc8] at d0; refine @exE1 _ _ _ d0 ?_; clear d0; intro z0 d0; have e0 := d0; clear d0; have li2 := li; have hi2 := hi; refine ⟨?_⟩; simp only [Act.put, sA, sB, sC, Nat.zero_add, Nat.reduceAdd, e0] at hK ⊢; go_simp; with_reducible refine hK _ _ (fun h => h) ?_
     exact ⟨_, rfl⟩
    ·as_aux_lemma =>
     intro vs W hS hdep K hK; have d0 := hdep ⟨0, .data⟩ (by simp) rfl; simp only [PhiGc8] at d0; have d1 := hdep ⟨1, .data⟩ (by simp) rfl; simp only [PhiGc8] at d1; refine ⟨?_⟩; simp only [Act.put, sA, sB, sC, Nat.zero_add, Nat.reduceAdd, d0, d1] at hK ⊢; go_simp; with_reducible refine hK _ _ (fun h => h) ?_
     exact rfl
    ·as_aux_lemma =>
     intro vs W hS hdep K hK; have d0 := hdep ⟨9, .data⟩ (by simp) rfl; simp only [PhiGc8] at d0; refine ⟨?_⟩; simp only [Act.put, sA, sB, sC, Nat.zero_add, Nat.reduceAdd, d0] at hK ⊢; go_simp; with_reducible refine hK _ _ (fun h => h) ?_
     exact rfl
    ·as_aux_lemma =>
     intro vs W hS hdep K hK; have d0 := hdep ⟨10, .data⟩ (by simp) rfl; simp only [PhiGc8] at d0; have d1 := hdep ⟨8, .data⟩ (by simp) rfl; simp only [PhiGc8] at d1; refine @exE1 _ _ _ d1 ?_; clear d1; intro z1 d1; have e1 := d1; clear d1; obtain ⟨arr, hB, hsz, hty, hbl⟩ := hS; have hli : i * 16 < arr.size := by rw [hsz]; omega
     have f1 : W.cell? ⟨v4.heap.size, i * 16, none⟩ = some arr[i * 16] := by rw [hB.cell]; exact Array.getElem?_eq_getElem hli
     have f2 := hB.frozen (i * 16); clear hB hty hbl hsz; refine ⟨?_⟩; simp only [Act.put, sA, sB, sC, Nat.zero_add, Nat.reduceAdd, d0, e1] at hK ⊢; go_simp; with_reducible refine hK undef _ (fun h => DgS.set h _ _) ?_
     trivial
   ·intro vs8 w8 hS hv; have HD2 := Lib.hid hS; clear hv HD hS; go_wp2_with fail
    go_roundg (G - 1)
    case measure => omega
    case rel => exact ⟨i + 1, by go_num, by omega, HD2⟩
  ·have t1 : decide ((i : Int) < 3) = false := by simp; omega
   have li : ¬ ((i : Int) < 3) := by omega
   obtain ⟨ds, rd, hds, HR, hbd⟩ := HD.out.row; have HR := Lib.hid HR; have hnm := hnm.below hbd; have hrs := hrs.below hbd; have hps := hps.below hbd; have hok := hok.below hbd; have hts := (row_strs BT).below hbd; have hbw := Below.tr hbw hbd; have h4 := h4.below hbw; clear HD hbd BT; generalize v4.heap.size = gd at hds; obtain ⟨m4, hm4⟩ : ∃ m : Nat, m = min k4 4 := ⟨_, rfl⟩; have hmm : min (k4 : Int) 4 = (m4 : Int) := by omega
   have hm5 : m4 ≤ c4 := by omega
   have hbr : RowS intC wr A4 m4 (l4.take m4) := by
    exact ints_take h4 (by omega) (by omega)
   have hm6 : m4 ≤ 4 := by omega
   clear hm4 h4; go_wp2_with fail; refine (around_n tick 26 _ ho1 ho2 (by omega) (by omega)).mono ?_; rintro e w' ⟨tk, rfl, htk, -, rfl⟩; go_wp2_with fail
   have HN3 : Hid (∀ s ∈ names3, s.size ≤ 9223372036854775807) := by
    intro s hs; simp only [names3, List.mem_cons, List.not_mem_nil, or_false] at hs
    rcases hs with rfl | rfl | rfl <;> decide
   refine (pactive_n Ap kp cp (tk : Int) (some ⟨gT, 0, none⟩) 3 3 (some ⟨gd, 0, none⟩) 3 3 A4 m4 c4 ps names3 ds (l4.take m4) (LfB bd) (fun _ => 0) (dgP ps) rd _ hps hts hds hbr (by omega) HN3 (esc_all hok) (pval_all hok) (dg_all hok) HR).mono ?_; rintro e w5 ⟨v, er, rfl, HA, hb5⟩; obtain ⟨L, HL⟩ : ∃ L, Hid (L = actL (tk : Int) (l4.take m4) (fun _ => 0) (LfB bd) (dgP ps) ps names3 rd) := ⟨_, rfl⟩; have hkps := hps.2.1
   obtain ⟨rfl, ka, Aa, ca, rfl, hL⟩ : er = 0 ∧ ∃ ka Aa ca, v = .slice Aa ka ca ∧ RowS natC w5 Aa ka L := by
    rcases HA.out with ⟨h, _⟩ | ⟨_, h, _⟩ | ⟨_, _, h, h2⟩
    ·exact absurd rfl h
    ·rw [tw3] at h; cases h
    ·refine ⟨h, ?_⟩; obtain ⟨A, c, e, hr⟩ := own_rowS natC_len (by omega) (Nat.le_trans (List.length_filter_le _ _) (by rw [List.length_range]; omega)) h2; exact ⟨_, A, c, e, by rw [HL.out]; exact hr⟩
   have HLT : Hid (∀ n ∈ L, n < kp) := fun n hn => by
    rw [HL.out] at hn; rw [hkps]; exact actL_lt hn
   have HPL : Hid (kp = ps.length) := hkps; have HTR : Hid (∀ r ∈ rs, RcTy r) := fun r hr => (HRS.out r hr).ty
   have HONR : Hid (∀ x ∈ rs, ∀ v ∈ cellsR x, v.oneCell' = true) := fun x hx => (HTR.out x hx).one
   have hnm := hnm.below hb5; have hrs := hrs.below hb5; have hps := hps.below hb5; have hok := hok.below hb5; have hts := hts.below hb5; have hds := hds.below hb5; have hbr := hbr.below hb5; have hbw := Below.tr hbw hb5; clear HA hb5 hkps; go_wp2_with fail; refine (decide_n Ap Aa An Ar kp cp ka ca kn cn kn cr (L.map fun n : Nat => (n : Int)) ps names rs _ hps (nat_rows hL) hnm hrs HONR (by omega)).mono ?_; rintro e w6 ⟨vp, np, vs, ns, er, rfl, HE, hop, hos, hb6⟩; obtain rfl : er = 0 := by rw [HE.out]; exact fit_zero HLT.out HRS.out
   obtain ⟨ya, -, rfl, rfl, hya, HYA, -, hya1, hya2⟩ := dec_ln (by omega) hnm.2.1 HTR hop hos
   have HY : Hid (ya.P = pasL L ps (names.zip rs) ∧ ya.S = stoL L ps (names.zip rs)) := by
    have h := HYA.out rfl; rw [nats_back] at h; exact h
   clear hop hos HE HYA hL HONR; go_upto_region 13 with fail; refine wp_name ?_; intro x0 HX0; have hbv : Below w6.heap.size w6 x0 := by rw [HX0.out]; exact bA _ _
   have hbq := Below.tr hb6 hbv
   have F0 : GcF x0 Ap kp ps bd An kn names Ar rs gT gd ds A4 m4 (l4.take m4) w6.heap.size ya :=
    ⟨hps.below hbq, hok.below hbq, hnm.below hbq, hrs.below hbq, hts.below hbq, hds.below hbq, hbr.below hbq, by rw [HX0.out]; exact Blk.new _ _ _, hya.below hbv⟩
   have hbw := Below.tr hbw hbq; have HLN : Hid (kn = names.length ∧ kn = rs.length) := ⟨hnm.2.1, hrs.2.1⟩; have HLY : Hid (ya.k1 = ya.P.length ∧ ya.k2 = ya.S.length) := ⟨hya.1.2.1, hya.2.1.2.1⟩; generalize w6.heap.size = gl at F0; have HF := Lib.hid F0; clear F0 hps hok hnm hrs hts hds hbr hya hbv hbq hb6 HX0; go_wp2_with fail
   go_loopg [23, 24, 25] kn (fun m x y z wr => ∃ i a b : Nat, z = .int .i64 i ∧ i + m = kn ∧ x = .int .i64 a ∧ y = .int .i64 b ∧ Hid (a = (pasL L ps ((names.zip rs).take i)).length ∧ b = (stoL L ps ((names.zip rs).take i)).length) ∧ a ≤ 8 ∧ b ≤ 8 ∧ Below x0.heap.size x0 wr)
   case atStart => exact ⟨0, 0, 0, rfl, by omega, rfl, rfl, ⟨rfl, rfl⟩, by omega, by omega, Below.refl _ _⟩
   case round =>
    obtain ⟨G1, hG1⟩ : ∃ G, G = gk := ⟨gk, rfl⟩; subst hG1; obtain ⟨i, a, b, rfl, him, rfl, rfl, HAB, ha8, hb8, hbe⟩ := hrel; by_cases hi : i < kn
    ·have t1 : decide ((i : Int) < (kn : Int)) = true := by simp; omega
     have li : (i : Int) < (kn : Int) := by omega
     have hirs : i < rs.length := by have := HLN.out; omega
     have hinm : i < names.length := by have := HLN.out; omega
     obtain ⟨r, HRI⟩ : ∃ r, Hid (rs[i] = r ∧ rs[i]? = some r) := ⟨_, rfl, List.getElem?_eq_getElem hirs⟩; obtain ⟨s, HSI⟩ : ∃ s, Hid (names[i] = s ∧ names[i]? = some s) := ⟨_, rfl, List.getElem?_eq_getElem hinm⟩
     have HXI : Hid ((names.zip rs)[i]? = some (s, r)) := by
      show _ = _
      rw [List.getElem?_zip_eq_some]; exact ⟨HSI.out.2, HRI.out.2⟩
     obtain ⟨bR, oR, rfl, HCR⟩ := (HF.out.hrs.below hbe).at_ cellsR_len (by omega) hi hirs; rw [HRI.out.1] at HCR; have f0 : wr.cell? ⟨bR, oR + i * 22, none⟩ = some (.int .i64 r.oc) := HCR.out 0 _ rfl; by_cases hoc : r.oc = 0
     ·have h0 : (r.oc == 0) = true := by simpa using hoc
      have HAB2 : Hid (a = (pasL L ps ((names.zip rs).take (i + 1))).length ∧ b = (stoL L ps ((names.zip rs).take (i + 1))).length) := by
       have h := pass_at (l := L) (ps := ps) HXI.out hoc
       show _ ∧ _
       rw [h.1, h.2]; exact HAB.out
      clear hoc HCR; go_wp2_with fail
      go_roundg (G1 - 1)
      case measure => omega
      case rel => exact ⟨i + 1, a, b, by go_num, by omega, rfl, rfl, HAB2, ha8, hb8, hbe⟩
     ·have h0 : (r.oc == 0) = false := by simpa using hoc
      have HOC := Lib.hid hoc; clear hoc; go_wp2_with fail
      go_loopg [26, 27] kp (fun m x y wx => ∃ (k : Nat) (cv : Bool), y = .int .i64 k ∧ k + m = kp ∧ x = .bool cv ∧ Hid (cv = covU (tk : Int) (l4.take m4) (fun _ => 0) (LfB bd) (dgP ps) ps names3 rd s r k) ∧ Below x0.heap.size x0 wx)
      case atStart => exact ⟨0, false, rfl, by omega, rfl, rfl, hbe⟩
      case round =>
       obtain ⟨G2, hG2⟩ : ∃ G, G = gk := ⟨gk, rfl⟩; subst hG2; obtain ⟨k, cv, rfl, hkm, rfl, HCV, hbe3⟩ := hrel; clear f0 HCR; by_cases hk : k < kp
       ·have t2 : decide ((k : Int) < (kp : Int)) = true := by simp; omega
        have lk : (k : Int) < (kp : Int) := by omega
        have hkl : k < ps.length := by have := HPL.out; omega
        obtain ⟨p, HP⟩ : ∃ p, Hid (ps[k] = p ∧ ps[k]? = some p) := ⟨_, rfl, List.getElem?_eq_getElem hkl⟩; go_wp2_with fail
        go_loopg [28, 29] 3 (fun m x y wz => ∃ (j : Nat) (at_ : Int), y = .int .i64 j ∧ j + m = 3 ∧ x = .int .i64 at_ ∧ Hid (AtP s j at_) ∧ -1 ≤ at_ ∧ at_ ≤ 3 ∧ Below x0.heap.size x0 wz)
        case atStart => exact ⟨0, -1, rfl, by omega, rfl, .inl ⟨rfl, fun q h => absurd h (Nat.not_lt_zero _)⟩, by omega, by omega, hbe3⟩
        case round =>
         obtain ⟨G3, hG3⟩ : ∃ G, G = gk := ⟨gk, rfl⟩; subst hG3; obtain ⟨j, at_, rfl, hjm, rfl, HAT, hat1, hat2, hbe4⟩ := hrel; obtain ⟨bN, oN, s2, rfl, hcs, HS2⟩ := (HF.out.hnm.below hbe4).str hi
         obtain rfl : s = s2 := by
          have h := HS2.out; rw [HSI.out.2] at h; injection h
         by_cases hj : j < 3
         ·have t3 : decide ((j : Int) < 3) = true := by simp; omega
          have lj : (j : Int) < 3 := by omega
          obtain ⟨bT, oT, u, hT, hcu, HU⟩ := (HF.out.hts.below hbe4).str hj; injection hT with hT; injection hT with hT1 hT2; subst hT1 hT2; rw [Nat.zero_add] at hcu; by_cases hus : u = s
          ·have HAT2 : Hid (AtP s (j + 1) (j : Int)) := AtP.hit (by rw [HU.out, hus]); subst hus; go_upto_region 29 with fail; refine wp_region_quiet_lit (by kernel_rfl) (by kernel_rfl) ?_
           repeat (go_big_quiet_step (fail))
           refine wpQuiet_nil ?_; intro _ hw'; obtain ⟨nq, hw''⟩ := hw'; subst hw''; go_wp2_with fail
           go_roundg (G3 - 1)
           case measure => omega
           case rel => exact ⟨j + 1, j, by go_num, by omega, rfl, HAT2, by omega, by omega, Below.tr hbe4 (below_drewN _ _)⟩
          ·have hus2 : ¬ u.toList = s.toList := fun h => hus (by simpa [ByteArray.toList_eq, ByteArray.ext_iff] using h)
           have hus3 : (u.toList == s.toList) = false := by simpa using hus2
           have HAT2 : Hid (AtP s (j + 1) at_) := HAT.out.miss (by rw [HU.out]; intro h; injection h with h; exact hus h); go_upto_region 29 with fail; refine wp_region_quiet_lit (by kernel_rfl) (by kernel_rfl) ?_
           repeat (go_big_quiet_step (fail))
           refine wpQuiet_nil ?_; intro _ hw'; obtain ⟨nq, hw''⟩ := hw'; subst hw''; go_wp2_with fail
           go_roundg (G3 - 1)
           case measure => omega
           case rel => exact ⟨j + 1, at_, by go_num, by omega, rfl, HAT2, hat1, hat2, Below.tr hbe4 (below_drewN _ _)⟩
         ·have t3 : decide ((j : Int) < 3) = false := by simp; omega
          have lj : ¬ ((j : Int) < 3) := by omega
          obtain rfl : j = 3 := by omega
          by_cases hat : at_ < 0
          ·have t4 : decide (at_ < 0) = true := by simpa using hat
           have HCV2 : Hid (cv = covU (tk : Int) (l4.take m4) (fun _ => 0) (LfB bd) (dgP ps) ps names3 rd s r (k + 1)) := by
            show _ = _
            rw [covU_succ HP.out.2, hold_none (HAT.out.neg hat) HP.out.2, Bool.or_false]; exact HCV.out
           go_wp2_with fail
           go_roundg (G2 - 1)
           case measure => omega
           case rel => exact ⟨k + 1, cv, by go_num, by omega, rfl, HCV2, hbe4⟩
          ·obtain ⟨q, hq, rfl, hidx⟩ := HAT.out.pos hat; have t4 : decide ((q : Int) < 0) = false := by simp
           have lq : (q : Int) < 3 := by omega
           have HIX := Lib.hid hidx; have hql : q < ds.length := by have := HF.out.hds.2.1; omega
           obtain ⟨d, HDQ⟩ : ∃ d, Hid (ds[q] = d ∧ ds[q]? = some d) := ⟨_, rfl, List.getElem?_eq_getElem hql⟩; obtain ⟨bd_, od_, hD, HCD⟩ := (HF.out.hds.below hbe4).at_ cellsDG_len (by omega) hq hql; injection hD with hD; injection hD with hD1 hD2; subst hD1 hD2; rw [HDQ.out.1] at HCD; have FB := HF.out.below hbe4; clear hat hat1 hat2 HAT hidx hcs HS2
           go_wp2_with (first | (refine wpList_load_mid rfl 51 (.tmp 128) rfl gd (q * 16) rfl (cellsDG d) _ (fun j v h => by have := HCD.out j v h; rwa [Nat.zero_add] at this) Try.underlying51 rfl infoDG ?_; simp only [Act.put, sA, sB, sC]))
           refine (state_n Ap kp cp (k : Int) (mmOf (tk : Int) d A4 m4 c4) ps (LfB bd) (fun _ => 0) (dgP ps) (rd q) (l4.take m4) _ FB.hps (esc_all FB.pok) (pval_all FB.pok) (dg_all FB.pok) (HR.out q d HDQ.out.2) FB.hbr).mono ?_; rintro e w8 ⟨sv, er, rfl, HS, hb8⟩; have hbe8 := Below.tr hbe4 hb8
           have HSV : Hid (er = 0 ∧ sv = stF (tk : Int) (rd q) (l4.take m4) (fun _ => 0) (LfB bd) (dgP ps) ps k) := by
            rcases HS.out with ⟨h, _⟩ | ⟨n, h1, h2, h3⟩
            ·exfalso; rcases h with h | h <;> omega
            ·obtain rfl : k = n := by omega
             rcases h3 with ⟨h4, _⟩ | ⟨_, h5, h6⟩
             ·exact absurd rfl h4
             ·exact ⟨h5, h6⟩
           obtain rfl : er = 0 := HSV.out.1; clear HS HCD FB hb8; have F8 := Lib.hid (HF.out.below hbe8); obtain ⟨bP, oP, rfl, HCP⟩ := F8.out.hps.at_ cellsP_len (by omega) hk hkl; rw [HP.out.1] at HCP; obtain ⟨bN2, oN2, s3, hA', hcs8, HS3⟩ := F8.out.hnm.str hi; injection hA' with hA'; injection hA' with hA1 hA2; subst hA1 hA2
           obtain rfl : s = s3 := by
            have h := HS3.out; rw [HSI.out.2] at h; injection h
           obtain ⟨bR2, oR2, hA', HCR8⟩ := F8.out.hrs.at_ cellsR_len (by omega) hi hirs; injection hA' with hA'; injection hA' with hA1 hA2; subst hA1 hA2; rw [HRI.out.1] at HCR8; have HEK := Lib.hid (esc_all F8.out.pok k p HP.out.2); have HVK := Lib.hid (pval_all F8.out.pok k p HP.out.2); obtain ⟨cb, HCB⟩ : ∃ cb, Hid (cb = covB p s r) := ⟨_, rfl⟩
           have HHS : Hid ((sv == 0 && cb) = (actB (tk : Int) (l4.take m4) (fun _ => 0) (LfB bd) (dgP ps) ps names3 rd k && covB p s r)) := by
            show _ = _
            rw [← hold_some HIX.out HP.out.2, HCB.out, HSV.out.2]; simp
           clear HSV HS3; go_upto_region 33 with fail; by_cases hs0 : sv = 0
           ·have hs1 : (sv == 0) = true := by simpa using hs0
            have HHV : Hid (cb = (actB (tk : Int) (l4.take m4) (fun _ => 0) (LfB bd) (dgP ps) ps names3 rd k && covB p s r)) := by
             show _ = _
             rw [← HHS.out, hs1]; simp
            clear hs0; refine region_invF (PhiGc33B bP oP bN oN bR oR kp cp kn cn cr k i p s r sv cb) (fun w w' => Below w.heap.size w w') (fun W => Below w8.heap.size w8 W) (by kernel_rfl) (by kernel_rfl) (by kernel_rfl) PhiGc33B.keep (fun _ _ hR hS => Below.tr hS hR) (bD _) (fun vs => by simp only [fillR, Act.put, sA, sB, sC, Nat.zero_add, Nat.reduceAdd]; rfl) ?_ ?_
            ·refine sK ?_ (sK ?_ (sK ?_ (sK ?_ (sK ?_ (sK ?_ (sK ?_ (sK ?_ (sK ?_ (sK ?_ (sK ?_ (sK ?_ (sK ?_ (sK ?_ (sK ?_ (sK ?_ (sK ?_ (sK ?_ (sK ?_ (sK ?_ (sK ?_ (sK ?_ (sK ?_ (sK ?_ (sK ?_ (sK ?_ (sZ))))))))))))))))))))))))))
             ·as_aux_lemma =>
              intro vs W hS hdep K hK; refine ⟨?_⟩; simp only [Act.put, sA, sB, sC, Nat.zero_add, Nat.reduceAdd] at hK ⊢; go_simp; with_reducible refine hK _ _ (Below.refl _ _) ?_
              exact rfl
             ·as_aux_lemma =>
              intro vs W hS hdep K hK; have d0 := hdep ⟨0, .data⟩ (by simp) rfl; simp only [PhiGc33B] at d0; refine ⟨?_⟩; simp only [Act.put, sA, sB, sC, Nat.zero_add, Nat.reduceAdd, d0] at hK ⊢; go_simp; with_reducible refine hK _ _ (Below.refl _ _) ?_
              exact rfl
             ·as_aux_lemma =>
              intro vs W hS hdep K hK; have d0 := hdep ⟨1, .data⟩ (by simp) rfl; simp only [PhiGc33B] at d0; refine ⟨?_⟩; simp only [Act.put, sA, sB, sC, Nat.zero_add, Nat.reduceAdd, d0] at hK ⊢; go_simp; with_reducible refine hK _ _ (Below.refl _ _) ?_
              exact rfl
             ·as_aux_lemma =>
              intro vs W hS hdep K hK; have d0 := hdep ⟨2, .guard⟩ (by simp) rfl; simp only [PhiGc33B] at d0; refine ⟨?_⟩; simp only [Act.put, sA, sB, sC, Nat.zero_add, Nat.reduceAdd, d0] at hK ⊢; go_simp; with_reducible refine hK _ _ (Below.refl _ _) ?_
              exact rfl
             ·as_aux_lemma =>
              intro vs W hS hdep K hK; have d0 := hdep ⟨2, .guard⟩ (by simp) rfl; simp only [PhiGc33B] at d0; refine ⟨?_⟩; simp only [Act.put, sA, sB, sC, Nat.zero_add, Nat.reduceAdd, d0] at hK ⊢; go_simp; with_reducible refine hK _ _ (Below.refl _ _) ?_
              exact rfl
             ·as_aux_lemma =>
              intro vs W hS hdep K hK; have d0 := hdep ⟨3, .data⟩ (by simp) rfl; simp only [PhiGc33B] at d0; have d1 := hdep ⟨4, .data⟩ (by simp) rfl; simp only [PhiGc33B] at d1; have d2 := hdep ⟨2, .guard⟩ (by simp) rfl; simp only [PhiGc33B] at d2; refine ⟨?_⟩; simp only [Act.put, sA, sB, sC, Nat.zero_add, Nat.reduceAdd, d0, d1, d2] at hK ⊢; go_simp; with_reducible refine hK _ _ (Below.refl _ _) ?_
              exact rfl
             ·as_aux_lemma =>
              intro vs W hS hdep K hK; have d0 := hdep ⟨5, .data⟩ (by simp) rfl; simp only [PhiGc33B] at d0; have d1 := hdep ⟨2, .guard⟩ (by simp) rfl; simp only [PhiGc33B] at d1; refine ⟨?_⟩; simp only [Act.put, sA, sB, sC, Nat.zero_add, Nat.reduceAdd, d0, d1] at hK ⊢; rw [if_pos (by rfl)]; refine wp_load_mid 53 (.tmp 139) (by rfl) bP (oP + k * 24) (by rfl) (cellsP p) _ (fun j v h => cell_keep hS (HCP.out j v h)) Try.underlying53 (by rfl) infoP ?_; simp only [Act.put, sA, sB, sC]; with_reducible refine hK _ _ (Below.refl _ _) ?_
              exact rfl
             ·as_aux_lemma =>
              intro vs W hS hdep K hK; have d0 := hdep ⟨6, .data⟩ (by simp) rfl; simp only [PhiGc33B] at d0; have d1 := hdep ⟨2, .guard⟩ (by simp) rfl; simp only [PhiGc33B] at d1; refine ⟨?_⟩; simp only [Act.put, sA, sB, sC, Nat.zero_add, Nat.reduceAdd, d0, d1] at hK ⊢; go_simp; refine (pvalid_n p (LfB bd k).1 (LfB bd k).2 _ (HEK.out.1.below hS) HEK.out.2.1 HEK.out.2.2).mono ?_; rintro e w' ⟨E, rfl, HX, hb⟩; obtain rfl : E = 0 := HX.out.uniq HVK.out; go_wp2_with fail; with_reducible refine hK _ _ hb ?_
              exact rfl
             ·as_aux_lemma =>
              intro vs W hS hdep K hK; have d0 := hdep ⟨7, .data⟩ (by simp) rfl; simp only [PhiGc33B] at d0; have d1 := hdep ⟨2, .guard⟩ (by simp) rfl; simp only [PhiGc33B] at d1; refine ⟨?_⟩; simp only [Act.put, sA, sB, sC, Nat.zero_add, Nat.reduceAdd, d0, d1] at hK ⊢; go_simp; with_reducible refine hK _ _ (Below.refl _ _) ?_
              exact rfl
             ·as_aux_lemma =>
              intro vs W hS hdep K hK; have d0 := hdep ⟨2, .data⟩ (by simp) rfl; simp only [PhiGc33B] at d0; have d1 := hdep ⟨8, .data⟩ (by simp) rfl; simp only [PhiGc33B] at d1; refine ⟨?_⟩; simp only [Act.put, sA, sB, sC, Nat.zero_add, Nat.reduceAdd, d0, d1] at hK ⊢; go_simp; with_reducible refine hK _ _ (Below.refl _ _) ?_
              exact rfl
             ·as_aux_lemma =>
              intro vs W hS hdep K hK; have d0 := hdep ⟨9, .data⟩ (by simp) rfl; simp only [PhiGc33B] at d0; refine ⟨?_⟩; simp only [Act.put, sA, sB, sC, Nat.zero_add, Nat.reduceAdd, d0] at hK ⊢; go_simp; with_reducible refine hK _ _ (Below.refl _ _) ?_
              exact rfl
             ·as_aux_lemma =>
              intro vs W hS hdep K hK; have d0 := hdep ⟨10, .guard⟩ (by simp) rfl; simp only [PhiGc33B] at d0; refine ⟨?_⟩; simp only [Act.put, sA, sB, sC, Nat.zero_add, Nat.reduceAdd, d0] at hK ⊢; go_simp; with_reducible refine hK _ _ (Below.refl _ _) ?_
              exact rfl
             ·as_aux_lemma =>
              intro vs W hS hdep K hK; have d0 := hdep ⟨10, .guard⟩ (by simp) rfl; simp only [PhiGc33B] at d0; refine ⟨?_⟩; simp only [Act.put, sA, sB, sC, Nat.zero_add, Nat.reduceAdd, d0] at hK ⊢; go_simp; with_reducible refine hK _ _ (Below.refl _ _) ?_
              exact rfl
             ·as_aux_lemma =>
              intro vs W hS hdep K hK; have d0 := hdep ⟨11, .data⟩ (by simp) rfl; simp only [PhiGc33B] at d0; have d1 := hdep ⟨12, .data⟩ (by simp) rfl; simp only [PhiGc33B] at d1; have d2 := hdep ⟨10, .guard⟩ (by simp) rfl; simp only [PhiGc33B] at d2; refine ⟨?_⟩; simp only [Act.put, sA, sB, sC, Nat.zero_add, Nat.reduceAdd, d0, d1, d2] at hK ⊢; go_simp; with_reducible refine hK _ _ (Below.refl _ _) ?_
              exact rfl
             ·as_aux_lemma =>
              intro vs W hS hdep K hK; have d0 := hdep ⟨13, .data⟩ (by simp) rfl; simp only [PhiGc33B] at d0; have d1 := hdep ⟨10, .guard⟩ (by simp) rfl; simp only [PhiGc33B] at d1; refine ⟨?_⟩; simp only [Act.put, sA, sB, sC, Nat.zero_add, Nat.reduceAdd, d0, d1] at hK ⊢; rw [if_pos (by rfl)]; refine wp_load_mid 53 (.tmp 147) (by rfl) bP (oP + k * 24) (by rfl) (cellsP p) _ (fun j v h => cell_keep hS (HCP.out j v h)) Try.underlying53 (by rfl) infoP ?_; simp only [Act.put, sA, sB, sC]; with_reducible refine hK _ _ (Below.refl _ _) ?_
              exact rfl
             ·as_aux_lemma =>
              intro vs W hS hdep K hK; have d0 := hdep ⟨10, .guard⟩ (by simp) rfl; simp only [PhiGc33B] at d0; refine ⟨?_⟩; simp only [Act.put, sA, sB, sC, Nat.zero_add, Nat.reduceAdd, d0] at hK ⊢; go_simp; with_reducible refine hK _ _ (Below.refl _ _) ?_
              exact rfl
             ·as_aux_lemma =>
              intro vs W hS hdep K hK; have d0 := hdep ⟨10, .guard⟩ (by simp) rfl; simp only [PhiGc33B] at d0; refine ⟨?_⟩; simp only [Act.put, sA, sB, sC, Nat.zero_add, Nat.reduceAdd, d0] at hK ⊢; go_simp; with_reducible refine hK _ _ (Below.refl _ _) ?_
              exact rfl
             ·as_aux_lemma =>
              intro vs W hS hdep K hK; have d0 := hdep ⟨15, .data⟩ (by simp) rfl; simp only [PhiGc33B] at d0; have d1 := hdep ⟨16, .data⟩ (by simp) rfl; simp only [PhiGc33B] at d1; have d2 := hdep ⟨10, .guard⟩ (by simp) rfl; simp only [PhiGc33B] at d2; refine ⟨?_⟩; simp only [Act.put, sA, sB, sC, Nat.zero_add, Nat.reduceAdd, d0, d1, d2] at hK ⊢; go_simp; with_reducible refine hK _ _ (Below.refl _ _) ?_
              exact rfl
             ·as_aux_lemma =>
              intro vs W hS hdep K hK; have d0 := hdep ⟨17, .data⟩ (by simp) rfl; simp only [PhiGc33B] at d0; have d1 := hdep ⟨10, .guard⟩ (by simp) rfl; simp only [PhiGc33B] at d1; have f1 := cell_keep hS hcs8; refine ⟨?_⟩; simp only [Act.put, sA, sB, sC, Nat.zero_add, Nat.reduceAdd, d0, d1] at hK ⊢; go_simp; with_reducible refine hK _ _ (Below.refl _ _) ?_
              exact rfl
             ·as_aux_lemma =>
              intro vs W hS hdep K hK; have d0 := hdep ⟨10, .guard⟩ (by simp) rfl; simp only [PhiGc33B] at d0; refine ⟨?_⟩; simp only [Act.put, sA, sB, sC, Nat.zero_add, Nat.reduceAdd, d0] at hK ⊢; go_simp; with_reducible refine hK _ _ (Below.refl _ _) ?_
              exact rfl
             ·as_aux_lemma =>
              intro vs W hS hdep K hK; have d0 := hdep ⟨10, .guard⟩ (by simp) rfl; simp only [PhiGc33B] at d0; refine ⟨?_⟩; simp only [Act.put, sA, sB, sC, Nat.zero_add, Nat.reduceAdd, d0] at hK ⊢; go_simp; with_reducible refine hK _ _ (Below.refl _ _) ?_
              exact rfl
             ·as_aux_lemma =>
              intro vs W hS hdep K hK; have d0 := hdep ⟨19, .data⟩ (by simp) rfl; simp only [PhiGc33B] at d0; have d1 := hdep ⟨20, .data⟩ (by simp) rfl; simp only [PhiGc33B] at d1; have d2 := hdep ⟨10, .guard⟩ (by simp) rfl; simp only [PhiGc33B] at d2; refine ⟨?_⟩; simp only [Act.put, sA, sB, sC, Nat.zero_add, Nat.reduceAdd, d0, d1, d2] at hK ⊢; go_simp; with_reducible refine hK _ _ (Below.refl _ _) ?_
              exact rfl
             ·as_aux_lemma =>
              intro vs W hS hdep K hK; have d0 := hdep ⟨21, .data⟩ (by simp) rfl; simp only [PhiGc33B] at d0; have d1 := hdep ⟨10, .guard⟩ (by simp) rfl; simp only [PhiGc33B] at d1; refine ⟨?_⟩; simp only [Act.put, sA, sB, sC, Nat.zero_add, Nat.reduceAdd, d0, d1] at hK ⊢; rw [if_pos (by rfl)]; refine wp_load_mid 64 (.tmp 155) (by rfl) bR (oR + i * 22) (by rfl) (cellsR r) _ (fun j v h => cell_keep hS (HCR8.out j v h)) Try.underlying64 (by rfl) infoR ?_; simp only [Act.put, sA, sB, sC]; with_reducible refine hK _ _ (Below.refl _ _) ?_
              exact rfl
             ·as_aux_lemma =>
              intro vs W hS hdep K hK; have d0 := hdep ⟨14, .data⟩ (by simp) rfl; simp only [PhiGc33B] at d0; have d1 := hdep ⟨18, .data⟩ (by simp) rfl; simp only [PhiGc33B] at d1; have d2 := hdep ⟨22, .data⟩ (by simp) rfl; simp only [PhiGc33B] at d2; have d3 := hdep ⟨10, .guard⟩ (by simp) rfl; simp only [PhiGc33B] at d3; refine ⟨?_⟩; simp only [Act.put, sA, sB, sC, Nat.zero_add, Nat.reduceAdd, d0, d1, d2, d3] at hK ⊢; go_simp; refine (covers_n p s r _).mono ?_; rintro e w' ⟨rfl, hb⟩; rw [← HCB.out]; go_wp2_with fail; with_reducible refine hK _ _ hb ?_
              exact rfl
             ·as_aux_lemma =>
              intro vs W hS hdep K hK; have d0 := hdep ⟨10, .data⟩ (by simp) rfl; simp only [PhiGc33B] at d0; have d1 := hdep ⟨23, .data⟩ (by simp) rfl; simp only [PhiGc33B] at d1; refine ⟨?_⟩; simp only [Act.put, sA, sB, sC, Nat.zero_add, Nat.reduceAdd, d0, d1] at hK ⊢; go_simp; with_reducible refine hK _ _ (Below.refl _ _) ?_
              exact rfl
             ·as_aux_lemma =>
              intro vs W hS hdep K hK; have d0 := hdep ⟨24, .data⟩ (by simp) rfl; simp only [PhiGc33B] at d0; refine ⟨?_⟩; simp only [Act.put, sA, sB, sC, Nat.zero_add, Nat.reduceAdd, d0] at hK ⊢; go_simp; with_reducible refine hK _ _ (Below.refl _ _) ?_
              exact rfl
            ·intro vs33 w9 hS hv; have u25 := hv 25 (by simp); simp only [PhiGc33B] at u25; simp only [Act.put, sA, sB, sC, Nat.zero_add, Nat.reduceAdd, u25]; clear u25 hv HEK HVK HCP HCR8 hcs8; have F9 := Lib.hid (F8.out.below hS); have hbe9 := Below.tr hbe8 hS; clear hS F8; obtain ⟨c2, HC2⟩ : ∃ c2, Hid (c2 = (cv || cb)) := ⟨_, rfl⟩
             have HCV2 : Hid (c2 = covU (tk : Int) (l4.take m4) (fun _ => 0) (LfB bd) (dgP ps) ps names3 rd s r (k + 1)) := by
              show _ = _
              rw [covU_succ HP.out.2, HC2.out, HCV.out, HHV.out]
             go_upto_region 34 with fail
             go_cut [26] from 159 to 163 (fun t wx => t = .bool c2 ∧ Below w9.heap.size w9 wx)
             case first => as_aux_lemma =>
              cases cv
              ·obtain rfl : c2 = cb := by rw [HC2.out]; simp
               go_wp2_with fail
               go_meet
               case rel => exact ⟨rfl, Below.refl _ _⟩
              ·obtain rfl : c2 = true := by rw [HC2.out]; simp
               go_wp2_with fail
               go_meet
               case rel => exact ⟨rfl, Below.refl _ _⟩
             obtain ⟨rfl, hbc⟩ := hcut; have F10 := Lib.hid (F9.out.below hbc); have hbe10 := Below.tr hbe9 hbc; have q0 := F10.out.bl.cell 0; simp only [List.getElem?_toArray, List.getElem?_cons_zero, List.getElem?_cons_succ] at q0; clear hbc F9 HC2; go_upto_region 35 with fail; by_cases ha : a < ya.k1
             ·have d1 : decide ((a : Int) < (ya.k1 : Int)) = true := by simp; omega
              have la : (a : Int) < (ya.k1 : Int) := by omega
              have hal : a < ya.P.length := by have := HLY.out; omega
              obtain ⟨bA, oA, hA1, HCI⟩ := F10.out.oy.1.at_ cellsI_len (by omega) ha hal; obtain ⟨it, HIT⟩ : ∃ it, Hid (ya.P[a] = it ∧ ya.P[a]? = some it) := ⟨_, rfl, List.getElem?_eq_getElem hal⟩; rw [HIT.out.1] at HCI; rw [hA1] at q0; have e0 : wc.cell? ⟨bA, oA + a * 24, none⟩ = some (.string it.test) := HCI.out 0 _ rfl; have e23 : wc.cell? ⟨bA, oA + a * 24 + 23, none⟩ = some (.int .i64 it.p) := HCI.out 23 _ rfl; obtain ⟨bN4, oN4, s4, hA', hcs9, HS4⟩ := F10.out.hnm.str hi; injection hA' with hA'; injection hA' with hA1' hA2'; subst hA1' hA2'
              obtain rfl : s = s4 := by
               have h := HS4.out; rw [HSI.out.2] at h; injection h
              obtain ⟨bR4, oR4, hA', HRY⟩ := F10.out.hrs.at_ cellsR_len (by omega) hi hirs; injection hA' with hA'; injection hA' with hA1' hA2'; subst hA1' hA2'; rw [HRI.out.1] at HRY; have HRX : Hid (∀ j v, (cellsR it.r)[j]? = some v → wc.cell? ⟨bA, oA + a * 24 + 1 + j, none⟩ = some v) := fun j v h => items_in (fun j v h => HCI.out j v h) h
              have rY := HTR.out r (List.mem_of_getElem? HRI.out.2); have rX : RcTy it.r := F10.out.oy.2.2.1 it (List.mem_of_getElem? HIT.out.2); clear HCI HS4 hA1; by_cases hpk : it.p = (k : Int)
              ·have d2 : (it.p == (k : Int)) = true := by simpa using hpk
               by_cases hts2 : it.test = s
               ·have d3 : (it.test.toList == s.toList) = true := by rw [hts2]; simp
                obtain ⟨bq, HBQ⟩ : ∃ bq : Bool, Hid (bq = true ↔ it.r = r) := by
                 by_cases h : it.r = r
                 ·exact ⟨true, show (true = true ↔ it.r = r) by simpa using h⟩
                 ·exact ⟨false, show (false = true ↔ it.r = r) by simpa using h⟩
                have HHT : bq = true → cb = true := fun h => by
                 have hr := HBQ.out.1 h
                 have h2 : it ∈ pasL (actL (tk : Int) (l4.take m4) (fun _ => 0) (LfB bd) (dgP ps) ps names3 rd) ps (names.zip rs) := by
                  rw [← HL.out, ← HY.out.1]; exact List.mem_of_getElem? HIT.out.2
                 have h3 := pas_holds h2 hpk HP.out.2; rw [HHV.out, ← hts2, ← hr]; exact h3
                clear hts2 hpk
                cases bq
                ·as_aux_lemma =>
                  refine wp_region_quiet_lit (by kernel_rfl) (by kernel_rfl) ?_
                  repeat (go_big_quiet_step (fail))
                  refine wpQuiet_step (fun K hK => ?_); rw [if_pos (by rfl)]; refine ⟨.agg (cellsR it.r).toArray, fun w hw => quiet_load_mid 64 (.tmp 196) rfl bA (oA + a * 24 + 1) rfl (cellsR it.r) _ (HRX.out) Try.underlying64 rfl (infoR (r := it.r)) w hw, ?_⟩; simp only [Act.put, sA, sB, sC]; refine hK _ ?_; clear hK K
                  repeat (go_big_quiet_step (fail))
                  refine wpQuiet_step (fun K hK => ?_); rw [if_pos (by rfl)]; refine ⟨.agg (cellsR r).toArray, fun w hw => quiet_load_mid 64 (.tmp 200) rfl bR (oR + i * 22) rfl (cellsR r) _ (HRY.out) Try.underlying64 rfl (infoR (r := r)) w hw, ?_⟩; simp only [Act.put, sA, sB, sC]; refine hK _ ?_; clear hK K
                  repeat (go_big_quiet_step (fail))
                  refine wpQuiet_step (fun K hK => ?_); rw [if_pos (by rfl)]; refine ⟨.bool false, fun w _ => quiet_eqlR _ _ w (.tmp 197) (.tmp 201) it.r r rX rY HBQ.out rfl rfl _ rfl, ?_⟩; simp only [Act.put, sA, sB, sC]; refine hK _ ?_; clear hK K
                  repeat (go_big_quiet_step (fail))
                  refine wpQuiet_nil ?_; intro _ hw'; obtain ⟨nq, hw''⟩ := hw'; subst hw''; go_wp2_with fail
                  go_roundg (G2 - 1)
                  case measure => omega
                  case rel => exact ⟨k + 1, c2, by go_num, by omega, rfl, HCV2, Below.tr hbe10 (below_drewN _ _)⟩
                ·obtain rfl : cb = true := HHT rfl
                 as_aux_lemma =>
                  refine wp_region_quiet_lit (by kernel_rfl) (by kernel_rfl) ?_
                  repeat (go_big_quiet_step (fail))
                  refine wpQuiet_step (fun K hK => ?_); rw [if_pos (by rfl)]; refine ⟨.agg (cellsR it.r).toArray, fun w hw => quiet_load_mid 64 (.tmp 196) rfl bA (oA + a * 24 + 1) rfl (cellsR it.r) _ (HRX.out) Try.underlying64 rfl (infoR (r := it.r)) w hw, ?_⟩; simp only [Act.put, sA, sB, sC]; refine hK _ ?_; clear hK K
                  repeat (go_big_quiet_step (fail))
                  refine wpQuiet_step (fun K hK => ?_); rw [if_pos (by rfl)]; refine ⟨.agg (cellsR r).toArray, fun w hw => quiet_load_mid 64 (.tmp 200) rfl bR (oR + i * 22) rfl (cellsR r) _ (HRY.out) Try.underlying64 rfl (infoR (r := r)) w hw, ?_⟩; simp only [Act.put, sA, sB, sC]; refine hK _ ?_; clear hK K
                  repeat (go_big_quiet_step (fail))
                  refine wpQuiet_step (fun K hK => ?_); rw [if_pos (by rfl)]; refine ⟨.bool true, fun w _ => quiet_eqlR _ _ w (.tmp 197) (.tmp 201) it.r r rX rY HBQ.out rfl rfl _ rfl, ?_⟩; simp only [Act.put, sA, sB, sC]; refine hK _ ?_; clear hK K
                  repeat (go_big_quiet_step (fail))
                  refine wpQuiet_nil ?_; intro _ hw'; obtain ⟨nq, hw''⟩ := hw'; subst hw''; go_wp2_with fail
                  go_roundg (G2 - 1)
                  case measure => omega
                  case rel => exact ⟨k + 1, c2, by go_num, by omega, rfl, HCV2, Below.tr hbe10 (below_drewN _ _)⟩
               ·have d3 : (it.test.toList == s.toList) = false := by
                 have : ¬ it.test.toList = s.toList := fun h => hts2 (by simpa [ByteArray.toList_eq, ByteArray.ext_iff] using h)
                 simpa using this
                clear hts2 hpk
                as_aux_lemma =>
                 refine wp_region_quiet_lit (by kernel_rfl) (by kernel_rfl) ?_
                 repeat (go_big_quiet_step (fail))
                 refine wpQuiet_nil ?_; intro _ hw'; obtain ⟨nq, hw''⟩ := hw'; subst hw''; go_wp2_with fail
                 go_roundg (G2 - 1)
                 case measure => omega
                 case rel => exact ⟨k + 1, c2, by go_num, by omega, rfl, HCV2, Below.tr hbe10 (below_drewN _ _)⟩
              ·have d2 : (it.p == (k : Int)) = false := by simpa using hpk
               clear hpk
               as_aux_lemma =>
                refine wp_region_quiet_lit (by kernel_rfl) (by kernel_rfl) ?_
                repeat (go_big_quiet_step (fail))
                refine wpQuiet_nil ?_; intro _ hw'; obtain ⟨nq, hw''⟩ := hw'; subst hw''; go_wp2_with fail
                go_roundg (G2 - 1)
                case measure => omega
                case rel => exact ⟨k + 1, c2, by go_num, by omega, rfl, HCV2, Below.tr hbe10 (below_drewN _ _)⟩
             ·have d1 : decide ((a : Int) < (ya.k1 : Int)) = false := by simp; omega
              have la : ¬ ((a : Int) < (ya.k1 : Int)) := by omega
              as_aux_lemma =>
               refine wp_region_quiet_lit (by kernel_rfl) (by kernel_rfl) ?_
               repeat (go_big_quiet_step (fail))
               refine wpQuiet_nil ?_; intro _ hw'; obtain ⟨nq, hw''⟩ := hw'; subst hw''; go_wp2_with fail
               go_roundg (G2 - 1)
               case measure => omega
               case rel => exact ⟨k + 1, c2, by go_num, by omega, rfl, HCV2, Below.tr hbe10 (below_drewN _ _)⟩
           ·have hs1 : (sv == 0) = false := by simpa using hs0
            have HHV : Hid (false = (actB (tk : Int) (l4.take m4) (fun _ => 0) (LfB bd) (dgP ps) ps names3 rd k && covB p s r)) := by
             show _ = _
             rw [← HHS.out, hs1]; simp
            clear hs0; refine region_invF (PhiGc33A bP oP bN oN bR oR kp cp kn cn cr k i p s r sv cb) (fun w w' => Below w.heap.size w w') (fun W => Below w8.heap.size w8 W) (by kernel_rfl) (by kernel_rfl) (by kernel_rfl) PhiGc33A.keep (fun _ _ hR hS => Below.tr hS hR) (bD _) (fun vs => by simp only [fillR, Act.put, sA, sB, sC, Nat.zero_add, Nat.reduceAdd]; rfl) ?_ ?_
            ·refine sK ?_ (sK ?_ (sK ?_ (sK ?_ (sK ?_ (sK ?_ (sK ?_ (sK ?_ (sK ?_ (sK ?_ (sK ?_ (sK ?_ (sK ?_ (sK ?_ (sK ?_ (sK ?_ (sK ?_ (sK ?_ (sK ?_ (sK ?_ (sK ?_ (sK ?_ (sK ?_ (sK ?_ (sK ?_ (sK ?_ (sZ))))))))))))))))))))))))))
             ·as_aux_lemma =>
              intro vs W hS hdep K hK; refine ⟨?_⟩; simp only [Act.put, sA, sB, sC, Nat.zero_add, Nat.reduceAdd] at hK ⊢; go_simp; with_reducible refine hK _ _ (Below.refl _ _) ?_
              exact rfl
             ·as_aux_lemma =>
              intro vs W hS hdep K hK; have d0 := hdep ⟨0, .data⟩ (by simp) rfl; simp only [PhiGc33A] at d0; refine ⟨?_⟩; simp only [Act.put, sA, sB, sC, Nat.zero_add, Nat.reduceAdd, d0] at hK ⊢; go_simp; with_reducible refine hK _ _ (Below.refl _ _) ?_
              exact rfl
             ·as_aux_lemma =>
              intro vs W hS hdep K hK; have d0 := hdep ⟨1, .data⟩ (by simp) rfl; simp only [PhiGc33A] at d0; refine ⟨?_⟩; simp only [Act.put, sA, sB, sC, Nat.zero_add, Nat.reduceAdd, d0] at hK ⊢; go_simp; with_reducible refine hK _ _ (Below.refl _ _) ?_
              exact rfl
             ·as_aux_lemma =>
              intro vs W hS hdep K hK; have d0 := hdep ⟨2, .guard⟩ (by simp) rfl; simp only [PhiGc33A] at d0; refine ⟨?_⟩; simp only [Act.put, sA, sB, sC, Nat.zero_add, Nat.reduceAdd, d0] at hK ⊢; go_simp
              try rw [if_neg (by simp [undef])]
              with_reducible refine hK _ _ (Below.refl _ _) ?_
              exact rfl
             ·as_aux_lemma =>
              intro vs W hS hdep K hK; have d0 := hdep ⟨2, .guard⟩ (by simp) rfl; simp only [PhiGc33A] at d0; refine ⟨?_⟩; simp only [Act.put, sA, sB, sC, Nat.zero_add, Nat.reduceAdd, d0] at hK ⊢; go_simp
              try rw [if_neg (by simp [undef])]
              with_reducible refine hK _ _ (Below.refl _ _) ?_
              exact rfl
             ·as_aux_lemma =>
              intro vs W hS hdep K hK; have d0 := hdep ⟨2, .guard⟩ (by simp) rfl; simp only [PhiGc33A] at d0; refine ⟨?_⟩; simp only [Act.put, sA, sB, sC, Nat.zero_add, Nat.reduceAdd, d0] at hK ⊢; go_simp
              try rw [if_neg (by simp [undef])]
              with_reducible refine hK _ _ (Below.refl _ _) ?_
              exact rfl
             ·as_aux_lemma =>
              intro vs W hS hdep K hK; have d0 := hdep ⟨2, .guard⟩ (by simp) rfl; simp only [PhiGc33A] at d0; refine ⟨?_⟩; simp only [Act.put, sA, sB, sC, Nat.zero_add, Nat.reduceAdd, d0] at hK ⊢; go_simp
              try rw [if_neg (by simp [undef])]
              with_reducible refine hK _ _ (Below.refl _ _) ?_
              exact rfl
             ·as_aux_lemma =>
              intro vs W hS hdep K hK; have d0 := hdep ⟨2, .guard⟩ (by simp) rfl; simp only [PhiGc33A] at d0; refine ⟨?_⟩; simp only [Act.put, sA, sB, sC, Nat.zero_add, Nat.reduceAdd, d0] at hK ⊢; go_simp
              try rw [if_neg (by simp [undef])]
              with_reducible refine hK _ _ (Below.refl _ _) ?_
              exact rfl
             ·as_aux_lemma =>
              intro vs W hS hdep K hK; have d0 := hdep ⟨2, .guard⟩ (by simp) rfl; simp only [PhiGc33A] at d0; refine ⟨?_⟩; simp only [Act.put, sA, sB, sC, Nat.zero_add, Nat.reduceAdd, d0] at hK ⊢; go_simp
              try rw [if_neg (by simp [undef])]
              with_reducible refine hK _ _ (Below.refl _ _) ?_
              exact rfl
             ·as_aux_lemma =>
              intro vs W hS hdep K hK; have d0 := hdep ⟨2, .data⟩ (by simp) rfl; simp only [PhiGc33A] at d0; refine ⟨?_⟩; simp only [Act.put, sA, sB, sC, Nat.zero_add, Nat.reduceAdd, d0] at hK ⊢; go_simp; with_reducible refine hK _ _ (Below.refl _ _) ?_
              exact rfl
             ·as_aux_lemma =>
              intro vs W hS hdep K hK; have d0 := hdep ⟨9, .data⟩ (by simp) rfl; simp only [PhiGc33A] at d0; refine ⟨?_⟩; simp only [Act.put, sA, sB, sC, Nat.zero_add, Nat.reduceAdd, d0] at hK ⊢; go_simp; with_reducible refine hK _ _ (Below.refl _ _) ?_
              exact rfl
             ·as_aux_lemma =>
              intro vs W hS hdep K hK; have d0 := hdep ⟨10, .guard⟩ (by simp) rfl; simp only [PhiGc33A] at d0; refine ⟨?_⟩; simp only [Act.put, sA, sB, sC, Nat.zero_add, Nat.reduceAdd, d0] at hK ⊢; go_simp
              try rw [if_neg (by simp [undef])]
              with_reducible refine hK _ _ (Below.refl _ _) ?_
              exact rfl
             ·as_aux_lemma =>
              intro vs W hS hdep K hK; have d0 := hdep ⟨10, .guard⟩ (by simp) rfl; simp only [PhiGc33A] at d0; refine ⟨?_⟩; simp only [Act.put, sA, sB, sC, Nat.zero_add, Nat.reduceAdd, d0] at hK ⊢; go_simp
              try rw [if_neg (by simp [undef])]
              with_reducible refine hK _ _ (Below.refl _ _) ?_
              exact rfl
             ·as_aux_lemma =>
              intro vs W hS hdep K hK; have d0 := hdep ⟨10, .guard⟩ (by simp) rfl; simp only [PhiGc33A] at d0; refine ⟨?_⟩; simp only [Act.put, sA, sB, sC, Nat.zero_add, Nat.reduceAdd, d0] at hK ⊢; go_simp
              try rw [if_neg (by simp [undef])]
              with_reducible refine hK _ _ (Below.refl _ _) ?_
              exact rfl
             ·as_aux_lemma =>
              intro vs W hS hdep K hK; have d0 := hdep ⟨10, .guard⟩ (by simp) rfl; simp only [PhiGc33A] at d0; refine ⟨?_⟩; simp only [Act.put, sA, sB, sC, Nat.zero_add, Nat.reduceAdd, d0] at hK ⊢; go_simp
              try rw [if_neg (by simp [undef])]
              with_reducible refine hK _ _ (Below.refl _ _) ?_
              exact rfl
             ·as_aux_lemma =>
              intro vs W hS hdep K hK; have d0 := hdep ⟨10, .guard⟩ (by simp) rfl; simp only [PhiGc33A] at d0; refine ⟨?_⟩; simp only [Act.put, sA, sB, sC, Nat.zero_add, Nat.reduceAdd, d0] at hK ⊢; go_simp
              try rw [if_neg (by simp [undef])]
              with_reducible refine hK _ _ (Below.refl _ _) ?_
              exact rfl
             ·as_aux_lemma =>
              intro vs W hS hdep K hK; have d0 := hdep ⟨10, .guard⟩ (by simp) rfl; simp only [PhiGc33A] at d0; refine ⟨?_⟩; simp only [Act.put, sA, sB, sC, Nat.zero_add, Nat.reduceAdd, d0] at hK ⊢; go_simp
              try rw [if_neg (by simp [undef])]
              with_reducible refine hK _ _ (Below.refl _ _) ?_
              exact rfl
             ·as_aux_lemma =>
              intro vs W hS hdep K hK; have d0 := hdep ⟨10, .guard⟩ (by simp) rfl; simp only [PhiGc33A] at d0; refine ⟨?_⟩; simp only [Act.put, sA, sB, sC, Nat.zero_add, Nat.reduceAdd, d0] at hK ⊢; go_simp
              try rw [if_neg (by simp [undef])]
              with_reducible refine hK _ _ (Below.refl _ _) ?_
              exact rfl
             ·as_aux_lemma =>
              intro vs W hS hdep K hK; have d0 := hdep ⟨10, .guard⟩ (by simp) rfl; simp only [PhiGc33A] at d0; refine ⟨?_⟩; simp only [Act.put, sA, sB, sC, Nat.zero_add, Nat.reduceAdd, d0] at hK ⊢; go_simp
              try rw [if_neg (by simp [undef])]
              with_reducible refine hK _ _ (Below.refl _ _) ?_
              exact rfl
             ·as_aux_lemma =>
              intro vs W hS hdep K hK; have d0 := hdep ⟨10, .guard⟩ (by simp) rfl; simp only [PhiGc33A] at d0; refine ⟨?_⟩; simp only [Act.put, sA, sB, sC, Nat.zero_add, Nat.reduceAdd, d0] at hK ⊢; go_simp
              try rw [if_neg (by simp [undef])]
              with_reducible refine hK _ _ (Below.refl _ _) ?_
              exact rfl
             ·as_aux_lemma =>
              intro vs W hS hdep K hK; have d0 := hdep ⟨10, .guard⟩ (by simp) rfl; simp only [PhiGc33A] at d0; refine ⟨?_⟩; simp only [Act.put, sA, sB, sC, Nat.zero_add, Nat.reduceAdd, d0] at hK ⊢; go_simp
              try rw [if_neg (by simp [undef])]
              with_reducible refine hK _ _ (Below.refl _ _) ?_
              exact rfl
             ·as_aux_lemma =>
              intro vs W hS hdep K hK; have d0 := hdep ⟨10, .guard⟩ (by simp) rfl; simp only [PhiGc33A] at d0; refine ⟨?_⟩; simp only [Act.put, sA, sB, sC, Nat.zero_add, Nat.reduceAdd, d0] at hK ⊢; go_simp
              try rw [if_neg (by simp [undef])]
              with_reducible refine hK _ _ (Below.refl _ _) ?_
              exact rfl
             ·as_aux_lemma =>
              intro vs W hS hdep K hK; have d0 := hdep ⟨10, .guard⟩ (by simp) rfl; simp only [PhiGc33A] at d0; refine ⟨?_⟩; simp only [Act.put, sA, sB, sC, Nat.zero_add, Nat.reduceAdd, d0] at hK ⊢; go_simp
              try rw [if_neg (by simp [undef])]
              with_reducible refine hK _ _ (Below.refl _ _) ?_
              exact rfl
             ·as_aux_lemma =>
              intro vs W hS hdep K hK; have d0 := hdep ⟨10, .guard⟩ (by simp) rfl; simp only [PhiGc33A] at d0; refine ⟨?_⟩; simp only [Act.put, sA, sB, sC, Nat.zero_add, Nat.reduceAdd, d0] at hK ⊢; go_simp
              try rw [if_neg (by simp [undef])]
              with_reducible refine hK _ _ (Below.refl _ _) ?_
              exact rfl
             ·as_aux_lemma =>
              intro vs W hS hdep K hK; have d0 := hdep ⟨10, .data⟩ (by simp) rfl; simp only [PhiGc33A] at d0; refine ⟨?_⟩; simp only [Act.put, sA, sB, sC, Nat.zero_add, Nat.reduceAdd, d0] at hK ⊢; go_simp; with_reducible refine hK _ _ (Below.refl _ _) ?_
              exact rfl
             ·as_aux_lemma =>
              intro vs W hS hdep K hK; have d0 := hdep ⟨24, .data⟩ (by simp) rfl; simp only [PhiGc33A] at d0; refine ⟨?_⟩; simp only [Act.put, sA, sB, sC, Nat.zero_add, Nat.reduceAdd, d0] at hK ⊢; go_simp; with_reducible refine hK _ _ (Below.refl _ _) ?_
              exact rfl
            ·intro vs33 w9 hS hv; have u25 := hv 25 (by simp); simp only [PhiGc33A] at u25; simp only [Act.put, sA, sB, sC, Nat.zero_add, Nat.reduceAdd, u25]; clear u25 hv HEK HVK HCP HCR8 hcs8; have F9 := Lib.hid (F8.out.below hS); have hbe9 := Below.tr hbe8 hS; clear hS F8; obtain ⟨c2, HC2⟩ : ∃ c2, Hid (c2 = (cv || false)) := ⟨_, rfl⟩
             have HCV2 : Hid (c2 = covU (tk : Int) (l4.take m4) (fun _ => 0) (LfB bd) (dgP ps) ps names3 rd s r (k + 1)) := by
              show _ = _
              rw [covU_succ HP.out.2, HC2.out, HCV.out, HHV.out]
             go_upto_region 34 with fail
             go_cut [26] from 159 to 163 (fun t wx => t = .bool c2 ∧ Below w9.heap.size w9 wx)
             case first => as_aux_lemma =>
              cases cv
              ·obtain rfl : c2 = false := by rw [HC2.out]; simp
               go_wp2_with fail
               go_meet
               case rel => exact ⟨rfl, Below.refl _ _⟩
              ·obtain rfl : c2 = true := by rw [HC2.out]; simp
               go_wp2_with fail
               go_meet
               case rel => exact ⟨rfl, Below.refl _ _⟩
             obtain ⟨rfl, hbc⟩ := hcut; have F10 := Lib.hid (F9.out.below hbc); have hbe10 := Below.tr hbe9 hbc; have q0 := F10.out.bl.cell 0; simp only [List.getElem?_toArray, List.getElem?_cons_zero, List.getElem?_cons_succ] at q0; clear hbc F9 HC2; go_upto_region 35 with fail; by_cases ha : a < ya.k1
             ·have d1 : decide ((a : Int) < (ya.k1 : Int)) = true := by simp; omega
              have la : (a : Int) < (ya.k1 : Int) := by omega
              have hal : a < ya.P.length := by have := HLY.out; omega
              obtain ⟨bA, oA, hA1, HCI⟩ := F10.out.oy.1.at_ cellsI_len (by omega) ha hal; obtain ⟨it, HIT⟩ : ∃ it, Hid (ya.P[a] = it ∧ ya.P[a]? = some it) := ⟨_, rfl, List.getElem?_eq_getElem hal⟩; rw [HIT.out.1] at HCI; rw [hA1] at q0; have e0 : wc.cell? ⟨bA, oA + a * 24, none⟩ = some (.string it.test) := HCI.out 0 _ rfl; have e23 : wc.cell? ⟨bA, oA + a * 24 + 23, none⟩ = some (.int .i64 it.p) := HCI.out 23 _ rfl; obtain ⟨bN4, oN4, s4, hA', hcs9, HS4⟩ := F10.out.hnm.str hi; injection hA' with hA'; injection hA' with hA1' hA2'; subst hA1' hA2'
              obtain rfl : s = s4 := by
               have h := HS4.out; rw [HSI.out.2] at h; injection h
              obtain ⟨bR4, oR4, hA', HRY⟩ := F10.out.hrs.at_ cellsR_len (by omega) hi hirs; injection hA' with hA'; injection hA' with hA1' hA2'; subst hA1' hA2'; rw [HRI.out.1] at HRY; have HRX : Hid (∀ j v, (cellsR it.r)[j]? = some v → wc.cell? ⟨bA, oA + a * 24 + 1 + j, none⟩ = some v) := fun j v h => items_in (fun j v h => HCI.out j v h) h
              have rY := HTR.out r (List.mem_of_getElem? HRI.out.2); have rX : RcTy it.r := F10.out.oy.2.2.1 it (List.mem_of_getElem? HIT.out.2); clear HCI HS4 hA1; by_cases hpk : it.p = (k : Int)
              ·have d2 : (it.p == (k : Int)) = true := by simpa using hpk
               by_cases hts2 : it.test = s
               ·have d3 : (it.test.toList == s.toList) = true := by rw [hts2]; simp
                obtain ⟨bq, HBQ⟩ : ∃ bq : Bool, Hid (bq = true ↔ it.r = r) := by
                 by_cases h : it.r = r
                 ·exact ⟨true, show (true = true ↔ it.r = r) by simpa using h⟩
                 ·exact ⟨false, show (false = true ↔ it.r = r) by simpa using h⟩
                have HHT : bq = true → false = true := fun h => by
                 have hr := HBQ.out.1 h
                 have h2 : it ∈ pasL (actL (tk : Int) (l4.take m4) (fun _ => 0) (LfB bd) (dgP ps) ps names3 rd) ps (names.zip rs) := by
                  rw [← HL.out, ← HY.out.1]; exact List.mem_of_getElem? HIT.out.2
                 have h3 := pas_holds h2 hpk HP.out.2; rw [HHV.out, ← hts2, ← hr]; exact h3
                clear hts2 hpk
                cases bq
                ·as_aux_lemma =>
                  refine wp_region_quiet_lit (by kernel_rfl) (by kernel_rfl) ?_
                  repeat (go_big_quiet_step (fail))
                  refine wpQuiet_step (fun K hK => ?_); rw [if_pos (by rfl)]; refine ⟨.agg (cellsR it.r).toArray, fun w hw => quiet_load_mid 64 (.tmp 196) rfl bA (oA + a * 24 + 1) rfl (cellsR it.r) _ (HRX.out) Try.underlying64 rfl (infoR (r := it.r)) w hw, ?_⟩; simp only [Act.put, sA, sB, sC]; refine hK _ ?_; clear hK K
                  repeat (go_big_quiet_step (fail))
                  refine wpQuiet_step (fun K hK => ?_); rw [if_pos (by rfl)]; refine ⟨.agg (cellsR r).toArray, fun w hw => quiet_load_mid 64 (.tmp 200) rfl bR (oR + i * 22) rfl (cellsR r) _ (HRY.out) Try.underlying64 rfl (infoR (r := r)) w hw, ?_⟩; simp only [Act.put, sA, sB, sC]; refine hK _ ?_; clear hK K
                  repeat (go_big_quiet_step (fail))
                  refine wpQuiet_step (fun K hK => ?_); rw [if_pos (by rfl)]; refine ⟨.bool false, fun w _ => quiet_eqlR _ _ w (.tmp 197) (.tmp 201) it.r r rX rY HBQ.out rfl rfl _ rfl, ?_⟩; simp only [Act.put, sA, sB, sC]; refine hK _ ?_; clear hK K
                  repeat (go_big_quiet_step (fail))
                  refine wpQuiet_nil ?_; intro _ hw'; obtain ⟨nq, hw''⟩ := hw'; subst hw''; go_wp2_with fail
                  go_roundg (G2 - 1)
                  case measure => omega
                  case rel => exact ⟨k + 1, c2, by go_num, by omega, rfl, HCV2, Below.tr hbe10 (below_drewN _ _)⟩
                ·exact absurd (HHT rfl) (by simp)
                 
               ·have d3 : (it.test.toList == s.toList) = false := by
                 have : ¬ it.test.toList = s.toList := fun h => hts2 (by simpa [ByteArray.toList_eq, ByteArray.ext_iff] using h)
                 simpa using this
                clear hts2 hpk
                as_aux_lemma =>
                 refine wp_region_quiet_lit (by kernel_rfl) (by kernel_rfl) ?_
                 repeat (go_big_quiet_step (fail))
                 refine wpQuiet_nil ?_; intro _ hw'; obtain ⟨nq, hw''⟩ := hw'; subst hw''; go_wp2_with fail
                 go_roundg (G2 - 1)
                 case measure => omega
                 case rel => exact ⟨k + 1, c2, by go_num, by omega, rfl, HCV2, Below.tr hbe10 (below_drewN _ _)⟩
              ·have d2 : (it.p == (k : Int)) = false := by simpa using hpk
               clear hpk
               as_aux_lemma =>
                refine wp_region_quiet_lit (by kernel_rfl) (by kernel_rfl) ?_
                repeat (go_big_quiet_step (fail))
                refine wpQuiet_nil ?_; intro _ hw'; obtain ⟨nq, hw''⟩ := hw'; subst hw''; go_wp2_with fail
                go_roundg (G2 - 1)
                case measure => omega
                case rel => exact ⟨k + 1, c2, by go_num, by omega, rfl, HCV2, Below.tr hbe10 (below_drewN _ _)⟩
             ·have d1 : decide ((a : Int) < (ya.k1 : Int)) = false := by simp; omega
              have la : ¬ ((a : Int) < (ya.k1 : Int)) := by omega
              as_aux_lemma =>
               refine wp_region_quiet_lit (by kernel_rfl) (by kernel_rfl) ?_
               repeat (go_big_quiet_step (fail))
               refine wpQuiet_nil ?_; intro _ hw'; obtain ⟨nq, hw''⟩ := hw'; subst hw''; go_wp2_with fail
               go_roundg (G2 - 1)
               case measure => omega
               case rel => exact ⟨k + 1, c2, by go_num, by omega, rfl, HCV2, Below.tr hbe10 (below_drewN _ _)⟩
       ·have t2 : decide ((k : Int) < (kp : Int)) = false := by simp; omega
        have lk : ¬ ((k : Int) < (kp : Int)) := by omega
        have HCO : Hid (cv = decide (0 ≤ ofN L ps s r)) := by
         show _ = _
         rw [HCV.out, show k = ps.length by rw [← HPL.out]; omega, covU_all, ← HL.out]
        by_cases hof : 0 ≤ ofN L ps s r
        ·obtain rfl : cv = true := by rw [HCO.out]; simpa using hof
         obtain ⟨n, hn⟩ : ∃ n : Nat, ofN L ps s r = (n : Int) := Int.eq_ofNat_of_zero_le hof; have hP := pas_at (l := L) (ps := ps) HXI.out HOC.out hof; simp only at hP; rw [hn, ← HAB.out.1] at hP
         have hnk : n < kp := by
          unfold ofN at hn
          cases hf : L.find? (covAt ps s r) with
          | none => rw [hf] at hn; simp only at hn; omega
          | some m =>
           rw [hf] at hn; simp only at hn; have := HLT.out m (List.mem_of_find?_eq_some hf); omega
         have HIT : Hid (ya.P[a]? = some ⟨s, r, (n : Int)⟩) := by show _ = _; rw [HY.out.1]; exact hP.1
         have hal := (List.getElem?_eq_some_iff.1 HIT.out).1; have HIT : Hid (ya.P[a] = ⟨s, r, (n : Int)⟩ ∧ True) := ⟨(List.getElem?_eq_some_iff.1 HIT.out).2, trivial⟩; have hal1 : a < ya.k1 := by have := HLY.out; omega
         have HAB2 : Hid (a + 1 = (pasL L ps ((names.zip rs).take (i + 1))).length ∧ b = (stoL L ps ((names.zip rs).take (i + 1))).length) := by
          refine ⟨?_, ?_⟩
          ·rw [hP.2.1]
          ·rw [hP.2.2]; exact HAB.out.2
         have d1 : decide ((a : Int) ≥ (ya.k1 : Int)) = false := by simp; omega
         have la : (a : Int) < (ya.k1 : Int) := by omega
         have d4 : decide ((n : Int) < 0) = false := by simp
         have d5 : decide ((n : Int) ≥ (kp : Int)) = false := by simp; omega
         clear hP hn hof HCO HCV; have F3 := HF.out.below hbe3; have q0 := F3.bl.cell 0; simp only [List.getElem?_toArray, List.getElem?_cons_zero, List.getElem?_cons_succ] at q0; obtain ⟨bA, oA, hA1, HCI⟩ := F3.oy.1.at_ cellsI_len (by omega) hal1 hal; rw [HIT.out.1] at HCI; rw [hA1] at q0; have e0 : wr.cell? ⟨bA, oA + a * 24, none⟩ = some (.string s) := HCI.out 0 _ rfl; have e23 : wr.cell? ⟨bA, oA + a * 24 + 23, none⟩ = some (.int .i64 (n : Int)) := HCI.out 23 _ rfl; obtain ⟨bN, oN, s4, rfl, hcs9, HS4⟩ := F3.hnm.str hi
         obtain rfl : s = s4 := by
          have h := HS4.out; rw [HSI.out.2] at h; injection h
         obtain ⟨bR4, oR4, hA', HRY⟩ := F3.hrs.at_ cellsR_len (by omega) hi hirs; injection hA' with hA'; injection hA' with hA1' hA2'; subst hA1' hA2'; rw [HRI.out.1] at HRY; have HRX : Hid (∀ j v, (cellsR r)[j]? = some v → wr.cell? ⟨bA, oA + a * 24 + 1 + j, none⟩ = some v) := fun j v h => items_in (t := s) (p := (n : Int)) (fun j v h => HCI.out j v h) h
         have rY := HTR.out r (List.mem_of_getElem? HRI.out.2); clear HCI HS4 hA1 F3
         as_aux_lemma =>
          go_upto_region 40 with fail; refine wp_region_quiet_lit (by kernel_rfl) (by kernel_rfl) ?_
          repeat (go_big_quiet_step (fail))
          refine wpQuiet_step (fun K hK => ?_); rw [if_pos (by rfl)]; refine ⟨.agg (cellsR r).toArray, fun w hw => quiet_load_mid 64 (.tmp 230) rfl bA (oA + a * 24 + 1) rfl (cellsR r) _ (HRX.out) Try.underlying64 rfl (infoR (r := r)) w hw, ?_⟩; simp only [Act.put, sA, sB, sC]; refine hK _ ?_; clear hK K
          repeat (go_big_quiet_step (fail))
          refine wpQuiet_step (fun K hK => ?_); rw [if_pos (by rfl)]; refine ⟨.agg (cellsR r).toArray, fun w hw => quiet_load_mid 64 (.tmp 234) rfl bR (oR + i * 22) rfl (cellsR r) _ (HRY.out) Try.underlying64 rfl (infoR (r := r)) w hw, ?_⟩; simp only [Act.put, sA, sB, sC]; refine hK _ ?_; clear hK K
          repeat (go_big_quiet_step (fail))
          refine wpQuiet_step (fun K hK => ?_); rw [if_pos (by rfl)]; refine ⟨.bool (!true), fun w _ => quiet_neqR _ _ w (.tmp 231) (.tmp 235) r r rY rY (show (true = true ↔ r = r) by simp) rfl rfl _ rfl, ?_⟩; simp only [Bool.not_true]; simp only [Act.put, sA, sB, sC]; refine hK _ ?_; clear hK K
          repeat (go_big_quiet_step (fail))
          refine wpQuiet_nil ?_; intro _ hw'; obtain ⟨nq, hw''⟩ := hw'; subst hw''; go_wp2_with fail
          go_roundg (G1 - 1)
          case measure => omega
          case rel => exact ⟨i + 1, a + 1, b, by go_num, by omega, by go_num, rfl, HAB2, by omega, hb8, Below.tr hbe3 (below_drewN _ _)⟩
        ·obtain rfl : cv = false := by rw [HCO.out]; simpa using hof
         have hP := sto_at (l := L) (ps := ps) HXI.out HOC.out (by show ofN L ps s r < 0; omega); simp only at hP; rw [← HAB.out.2] at hP; have HIT : Hid (ya.S[b]? = some ⟨s, r, -1⟩) := by show _ = _; rw [HY.out.2]; exact hP.1
         have hal := (List.getElem?_eq_some_iff.1 HIT.out).1; have HIT : Hid (ya.S[b] = ⟨s, r, -1⟩ ∧ True) := ⟨(List.getElem?_eq_some_iff.1 HIT.out).2, trivial⟩; have hal1 : b < ya.k2 := by have := HLY.out; omega
         have HAB2 : Hid (a = (pasL L ps ((names.zip rs).take (i + 1))).length ∧ b + 1 = (stoL L ps ((names.zip rs).take (i + 1))).length) := by
          refine ⟨?_, ?_⟩
          ·rw [hP.2.2]; exact HAB.out.1
          ·rw [hP.2.1]
         have d1 : decide ((b : Int) ≥ (ya.k2 : Int)) = false := by simp; omega
         have la : (b : Int) < (ya.k2 : Int) := by omega
         clear hP hof HCO HCV; have F3 := HF.out.below hbe3; have q0 := F3.bl.cell 1; simp only [List.getElem?_toArray, List.getElem?_cons_zero, List.getElem?_cons_succ] at q0; obtain ⟨bA, oA, hA1, HCI⟩ := F3.oy.2.1.at_ cellsI_len (by omega) hal1 hal; rw [HIT.out.1] at HCI; rw [hA1] at q0; have e0 : wr.cell? ⟨bA, oA + b * 24, none⟩ = some (.string s) := HCI.out 0 _ rfl; have e23 : wr.cell? ⟨bA, oA + b * 24 + 23, none⟩ = some (.int .i64 (-1)) := HCI.out 23 _ rfl; obtain ⟨bN, oN, s4, rfl, hcs9, HS4⟩ := F3.hnm.str hi
         obtain rfl : s = s4 := by
          have h := HS4.out; rw [HSI.out.2] at h; injection h
         obtain ⟨bR4, oR4, hA', HRY⟩ := F3.hrs.at_ cellsR_len (by omega) hi hirs; injection hA' with hA'; injection hA' with hA1' hA2'; subst hA1' hA2'; rw [HRI.out.1] at HRY; have HRX : Hid (∀ j v, (cellsR r)[j]? = some v → wr.cell? ⟨bA, oA + b * 24 + 1 + j, none⟩ = some v) := fun j v h => items_in (t := s) (p := (-1)) (fun j v h => HCI.out j v h) h
         have rY := HTR.out r (List.mem_of_getElem? HRI.out.2); clear HCI HS4 hA1 F3
         as_aux_lemma =>
          go_upto_region 45 with fail; refine wp_region_quiet_lit (by kernel_rfl) (by kernel_rfl) ?_
          repeat (go_big_quiet_step (fail))
          refine wpQuiet_step (fun K hK => ?_); rw [if_pos (by rfl)]; refine ⟨.agg (cellsR r).toArray, fun w hw => quiet_load_mid 64 (.tmp 281) rfl bA (oA + b * 24 + 1) rfl (cellsR r) _ (HRX.out) Try.underlying64 rfl (infoR (r := r)) w hw, ?_⟩; simp only [Act.put, sA, sB, sC]; refine hK _ ?_; clear hK K
          repeat (go_big_quiet_step (fail))
          refine wpQuiet_step (fun K hK => ?_); rw [if_pos (by rfl)]; refine ⟨.agg (cellsR r).toArray, fun w hw => quiet_load_mid 64 (.tmp 285) rfl bR (oR + i * 22) rfl (cellsR r) _ (HRY.out) Try.underlying64 rfl (infoR (r := r)) w hw, ?_⟩; simp only [Act.put, sA, sB, sC]; refine hK _ ?_; clear hK K
          repeat (go_big_quiet_step (fail))
          refine wpQuiet_step (fun K hK => ?_); rw [if_pos (by rfl)]; refine ⟨.bool (!true), fun w _ => quiet_neqR _ _ w (.tmp 282) (.tmp 286) r r rY rY (show (true = true ↔ r = r) by simp) rfl rfl _ rfl, ?_⟩; simp only [Bool.not_true]; simp only [Act.put, sA, sB, sC]; refine hK _ ?_; clear hK K
          repeat (go_big_quiet_step (fail))
          refine wpQuiet_nil ?_; intro _ hw'; obtain ⟨nq, hw''⟩ := hw'; subst hw''; go_wp2_with fail
          go_roundg (G1 - 1)
          case measure => omega
          case rel => exact ⟨i + 1, a, b + 1, by go_num, by omega, rfl, by go_num, HAB2, ha8, by omega, Below.tr hbe3 (below_drewN _ _)⟩
    ·have t1 : decide ((i : Int) < (kn : Int)) = false := by simp; omega
     have li : ¬ ((i : Int) < (kn : Int)) := by omega
     have HE2 : Hid (a = ya.k1 ∧ b = ya.k2) := by
      have h := HAB.out; rw [List.take_of_length_le (by rw [List.length_zip]; have := HLN.out; omega), ← HY.out.1, ← HY.out.2] at h; have := HLY.out; exact ⟨by omega, by omega⟩
     obtain rfl : a = ya.k1 := HE2.out.1; obtain rfl : b = ya.k2 := HE2.out.2; have F3 := HF.out.below hbe; have q0 := F3.bl.cell 0; have q1 := F3.bl.cell 1; simp only [List.getElem?_toArray, List.getElem?_cons_zero, List.getElem?_cons_succ] at q0 q1; clear F3 HF HAB HE2
     as_aux_lemma =>
      go_wp2_with fail; refine (lives_n _).mono ?_; rintro e w9 ⟨rfl, hb9⟩; go_wp2_with fail; go_ret; exact ⟨rfl, Below.tr hbw (Below.tr hbe hb9)⟩
end Go.Proofs.Yticobffjnjbjiaa
