import Derived.Test.YtijkfagkbfbpmaaGreatDoorKByProof19
import Derived.Test.YtijkfagkbfbpmaaGreatDoorS0
set_option linter.unusedVariables false
set_option linter.unusedSimpArgs false
namespace Go.Proofs.YtijkfagkbfbpmaaGreatDoor
open Go Go.RowKit
/-- a state's word j -/
def R8.wd (r : R8) (j : Nat) : BitVec 32 := [r.a, r.b, r.c, r.d, r.e, r.f, r.g, r.h].getD j 0
theorem cells8_eq (r : R8) : cells8 r = arL 8 r.wd := rfl
theorem wd_add (s r : R8) {j : Nat} (h : j < 8) : (s.add r).wd j = s.wd j + r.wd j := by
 have hc : j = 0 ∨ j = 1 ∨ j = 2 ∨ j = 3 ∨ j = 4 ∨ j = 5 ∨ j = 6 ∨ j = 7 := by omega
 rcases hc with rfl | rfl | rfl | rfl | rfl | rfl | rfl | rfl <;> rfl
/-- a variable that is laid with the round constants -/
def KcT (w : World) (g : Nat) : Prop := ∃ t fr, w.heap[g]? = some (.cells (arW 64 kcW) t fr)
theorem KcT.lt {w : World} {g : Nat} (h : KcT w g) : g < w.heap.size := by
 obtain ⟨t, fr, h⟩ := h; exact (Array.getElem?_eq_some_iff.1 h).1
theorem KcT.below {w w' : World} {g : Nat} (h : KcT w g) (hb : Below w.heap.size w w') : KcT w' g := by
 have hl := h.lt; obtain ⟨t, fr, h⟩ := h; exact ⟨t, fr, (hb.block g hl).trans h⟩
theorem KcT.cell {w : World} {g : Nat} (h : KcT w g) {i : Nat} (hi : i < 64) : w.cell? ⟨g, i, none⟩ = some (.int .u32 (wv (kcW i))) := by
 obtain ⟨t, fr, h⟩ := h; rw [cell_of_row w g i _ t fr h, arW_get hi]
theorem infoW4 {f : Nat → BitVec 32} : (Tryz.prog.info? 182).map (·.size) = some (arL 4 f).length := by rw [arL_len]; kernel_rfl
theorem infoW4s {f : Nat → BitVec 32} : (Tryz.prog.info? 182).map (·.size) = some (arW 4 f).size := by rw [arW_size]; kernel_rfl
theorem infoW8 {f : Nat → BitVec 32} : (Tryz.prog.info? 110).map (·.size) = some (arL 8 f).length := by rw [arL_len]; kernel_rfl
theorem infoW8s {f : Nat → BitVec 32} : (Tryz.prog.info? 110).map (·.size) = some (arW 8 f).size := by rw [arW_size]; kernel_rfl
theorem arrAt4 (g o c : Nat) (w : World) : (Instr.arrayAt 182 (.slice (some ⟨g, o, none⟩) 4 c)).run Tryz.prog w = .ok (.pointer (some ⟨g, o, none⟩)) w := by
 simp [Instr.arrayAt, run_underlying Tryz.underlying182, go_sem]
theorem arW_zero4 : arW 4 (fun _ => 0) = #[.int .u32 0, .int .u32 0, .int .u32 0, .int .u32 0] := rfl
theorem arW_zero8 : arW 8 (fun _ => 0) = #[.int .u32 0, .int .u32 0, .int .u32 0, .int .u32 0, .int .u32 0, .int .u32 0, .int .u32 0, .int .u32 0] := rfl
def PhiCo2 (gS : Nat) (V E : Array Value) (j : Nat) (w : World) (x : Value) : Prop :=
 match j with
 | 0 => x = .slice (some ⟨gS, 0, none⟩) 4 8
 | 1 => x = .pointer (some ⟨gS, 0, none⟩)
 | 2 => x = .agg V
 | 3 => x = .slice (some ⟨gS, 4, none⟩) 4 4
 | 4 => x = .pointer (some ⟨gS, 4, none⟩)
 | 5 => x = .agg E
 | 6 => ∃ g, x = .pointer (some ⟨g, 0, none⟩)
 | 7 => ∃ g, x = .pointer (some ⟨g, 0, none⟩)
 | _ => True
theorem PhiCo2.keep {gS : Nat} {V E : Array Value} : ∀ (w w' : World), True → ∀ j x, PhiCo2 gS V E j w x → PhiCo2 gS V E j w' x := fun _ _ _ _ _ h => h
/-- the region that lays v and e -/
structure SCo (w1 : World) (fv fe : Nat → BitVec 32) (L : Nat → Bool) (vs : Nat → Value) (W : World) : Prop where
 be : Below w1.heap.size w1 W
 a : L 6 = true → ∃ g, vs 6 = .pointer (some ⟨g, 0, none⟩) ∧ w1.heap.size ≤ g ∧ Blk W g 182 (if L 8 = true then arW 4 fv else arW 4 fun _ => 0)
 b : L 7 = true → ∃ g, vs 7 = .pointer (some ⟨g, 0, none⟩) ∧ w1.heap.size ≤ g ∧ Blk W g 182 (if L 9 = true then arW 4 fe else arW 4 fun _ => 0)
 ne : L 6 = true → L 7 = true → vs 6 ≠ vs 7
theorem SCo.plain {w1 : World} {fv fe : Nat → BitVec 32} {L : Nat → Bool} {vs : Nat → Value} {W W' : World} (h : SCo w1 fv fe L vs W) (hb : Below W.heap.size W W') (i : Nat) (x : Value) (hi : i < 6) : SCo w1 fv fe (updB L i) (upd vs i x) W' := by
 have e : ∀ k, 6 ≤ k → updB L i k = L k := fun k hk => if_neg (by omega)
 have e2 : ∀ k, 6 ≤ k → upd vs i x k = vs k := fun k hk => if_neg (by omega)
 refine ⟨Below.tr h.be hb, ?_, ?_, ?_⟩
 ·rw [e 6 (by omega), e 8 (by omega), e2 6 (by omega)]; intro h6; obtain ⟨g, h1, h2, h3⟩ := h.a h6; exact ⟨g, h1, h2, Blk.below h3 hb h3.lt⟩
 ·rw [e 7 (by omega), e 9 (by omega), e2 7 (by omega)]; intro h6; obtain ⟨g, h1, h2, h3⟩ := h.b h6; exact ⟨g, h1, h2, Blk.below h3 hb h3.lt⟩
 ·rw [e 6 (by omega), e 7 (by omega), e2 6 (by omega), e2 7 (by omega)]; exact h.ne
theorem SCo.alloc6 {w1 : World} {fv fe : Nat → BitVec 32} {L : Nat → Bool} {vs : Nat → Value} {W : World} (h : SCo w1 fv fe L vs W) (hn : L 8 = false) : SCo w1 fv fe (updB L 6) (upd vs 6 (.pointer (some ⟨W.heap.size, 0, none⟩))) (W.alloc (.cells (arW 4 fun _ => 0) 182)) := by
 have hb := bA W (.cells (arW 4 fun _ => 0) 182); refine ⟨Below.tr h.be hb, ?_, ?_, ?_⟩
 ·intro _; rw [show updB L 6 8 = false from (if_neg (by decide)).trans hn, show upd vs 6 (.pointer (some ⟨W.heap.size, 0, none⟩)) 6 = .pointer (some ⟨W.heap.size, 0, none⟩) from if_pos rfl]; exact ⟨_, rfl, h.be.size, Blk.new _ _ _⟩
 ·rw [show updB L 6 7 = L 7 from if_neg (by decide), show updB L 6 9 = L 9 from if_neg (by decide), show upd vs 6 (.pointer (some ⟨W.heap.size, 0, none⟩)) 7 = vs 7 from if_neg (by decide)]; intro h6; obtain ⟨g, h1, h2, h3⟩ := h.b h6; exact ⟨g, h1, h2, Blk.below h3 hb h3.lt⟩
 ·rw [show updB L 6 7 = L 7 from if_neg (by decide), show upd vs 6 (.pointer (some ⟨W.heap.size, 0, none⟩)) 6 = .pointer (some ⟨W.heap.size, 0, none⟩) from if_pos rfl, show upd vs 6 (.pointer (some ⟨W.heap.size, 0, none⟩)) 7 = vs 7 from if_neg (by decide)]; intro h6 h7 e; obtain ⟨g, h1, h2, h3⟩ := h.b h7; rw [h1] at e; injection e with e; injection e with e; injection e with e; have := h3.lt; omega
theorem SCo.alloc7 {w1 : World} {fv fe : Nat → BitVec 32} {L : Nat → Bool} {vs : Nat → Value} {W : World} (h : SCo w1 fv fe L vs W) (hn : L 9 = false) : SCo w1 fv fe (updB L 7) (upd vs 7 (.pointer (some ⟨W.heap.size, 0, none⟩))) (W.alloc (.cells (arW 4 fun _ => 0) 182)) := by
 have hb := bA W (.cells (arW 4 fun _ => 0) 182); refine ⟨Below.tr h.be hb, ?_, ?_, ?_⟩
 ·rw [show updB L 7 6 = L 6 from if_neg (by decide), show updB L 7 8 = L 8 from if_neg (by decide), show upd vs 7 (.pointer (some ⟨W.heap.size, 0, none⟩)) 6 = vs 6 from if_neg (by decide)]; intro h6; obtain ⟨g, h1, h2, h3⟩ := h.a h6; exact ⟨g, h1, h2, Blk.below h3 hb h3.lt⟩
 ·intro _; rw [show updB L 7 9 = false from (if_neg (by decide)).trans hn, show upd vs 7 (.pointer (some ⟨W.heap.size, 0, none⟩)) 7 = .pointer (some ⟨W.heap.size, 0, none⟩) from if_pos rfl]; exact ⟨_, rfl, h.be.size, Blk.new _ _ _⟩
 ·rw [show updB L 7 6 = L 6 from if_neg (by decide), show upd vs 7 (.pointer (some ⟨W.heap.size, 0, none⟩)) 7 = .pointer (some ⟨W.heap.size, 0, none⟩) from if_pos rfl, show upd vs 7 (.pointer (some ⟨W.heap.size, 0, none⟩)) 6 = vs 6 from if_neg (by decide)]; intro h6 h7 e; obtain ⟨g, h1, h2, h3⟩ := h.a h6; rw [h1] at e; injection e with e; injection e with e; injection e with e; have := h3.lt; omega
theorem SCo.store8 {w1 : World} {fv fe : Nat → BitVec 32} {L : Nat → Bool} {vs : Nat → Value} {W : World} {g : Nat} (h : SCo w1 fv fe L vs W) (hq : L 6 = true) (hn : L 8 = false) (hg : vs 6 = .pointer (some ⟨g, 0, none⟩)) (hge : w1.heap.size ≤ g) (hb : Blk W g 182 (arW 4 fun _ => 0)) : SCo w1 fv fe (updB L 8) (upd vs 8 undef) (W.setCells g 0 (arW 4 fv).toList) := by
 refine ⟨below_setAll hge _ 0 h.be, ?_, ?_, ?_⟩
 ·intro h6; rw [show updB L 8 8 = true from if_pos rfl, show upd vs 8 undef 6 = vs 6 from if_neg (by decide), if_pos rfl]; exact ⟨g, hg, hge, Blk.setAll hb (by rw [arW_size, arW_size])⟩
 ·rw [show updB L 8 7 = L 7 from if_neg (by decide), show updB L 8 9 = L 9 from if_neg (by decide), show upd vs 8 undef 7 = vs 7 from if_neg (by decide)]; intro h6; obtain ⟨g', h1, h2, h3⟩ := h.b h6; refine ⟨g', h1, h2, Blk.farAll (fun e => ?_) _ _ h3⟩; subst e; exact h.ne hq h6 (hg.trans h1.symm)
 ·rw [show updB L 8 6 = L 6 from if_neg (by decide), show updB L 8 7 = L 7 from if_neg (by decide), show upd vs 8 undef 6 = vs 6 from if_neg (by decide), show upd vs 8 undef 7 = vs 7 from if_neg (by decide)]; exact h.ne
theorem SCo.store9 {w1 : World} {fv fe : Nat → BitVec 32} {L : Nat → Bool} {vs : Nat → Value} {W : World} {g : Nat} (h : SCo w1 fv fe L vs W) (hq : L 7 = true) (hn : L 9 = false) (hg : vs 7 = .pointer (some ⟨g, 0, none⟩)) (hge : w1.heap.size ≤ g) (hb : Blk W g 182 (arW 4 fun _ => 0)) : SCo w1 fv fe (updB L 9) (upd vs 9 undef) (W.setCells g 0 (arW 4 fe).toList) := by
 refine ⟨below_setAll hge _ 0 h.be, ?_, ?_, ?_⟩
 ·rw [show updB L 9 6 = L 6 from if_neg (by decide), show updB L 9 8 = L 8 from if_neg (by decide), show upd vs 9 undef 6 = vs 6 from if_neg (by decide)]; intro h6; obtain ⟨g', h1, h2, h3⟩ := h.a h6; refine ⟨g', h1, h2, Blk.farAll (fun e => ?_) _ _ h3⟩; subst e; exact h.ne h6 hq (h1.trans hg.symm)
 ·intro h6; rw [show updB L 9 9 = true from if_pos rfl, show upd vs 9 undef 7 = vs 7 from if_neg (by decide), if_pos rfl]; exact ⟨g, hg, hge, Blk.setAll hb (by rw [arW_size, arW_size])⟩
 ·rw [show updB L 9 6 = L 6 from if_neg (by decide), show updB L 9 7 = L 7 from if_neg (by decide), show upd vs 9 undef 6 = vs 6 from if_neg (by decide), show upd vs 9 undef 7 = vs 7 from if_neg (by decide)]; exact h.ne
theorem kc_ix {i : Nat} (hi : i < 64) (w : World) : (Instr.index 180 (.agg (arW 64 kcW)) (.int .i64 (i : Nat))).run Tryz.prog w = .ok (.int .u32 (wv (kcW i))) w := by
 have hn : (0 : Int) ≤ (i : Int) ∧ (i : Int) < 64 := by omega
 have h := arW_get (n := 64) (f := kcW) hi; unfold arW at h ⊢; rw [List.getElem?_toArray] at h; simp [Instr.index, run_underlying Tryz.underlying180, asIntOf, hn, go_sem]; rw [if_pos hi, h]; rfl
def PhiCo6 (g7 gW t : Nat) (r : R8) (k m : BitVec 32) (j : Nat) (w : World) (x : Value) : Prop :=
 match j with
 | 0 => x = .pointer (some ⟨g7, 3, none⟩)
 | 1 => x = .int .u32 (wv (r.h))
 | 2 => x = .pointer (some ⟨g7, 0, none⟩)
 | 3 => x = .int .u32 (wv (r.e))
 | 4 => x = .int .u32 (wv (bs1 r.e))
 | 5 => x = .int .u32 (wv (r.h + bs1 r.e))
 | 6 => x = .pointer (some ⟨g7, 0, none⟩)
 | 7 => x = .int .u32 (wv (r.e))
 | 8 => x = .pointer (some ⟨g7, 1, none⟩)
 | 9 => x = .int .u32 (wv (r.f))
 | 10 => x = .int .u32 (wv (r.e &&& r.f))
 | 11 => x = .pointer (some ⟨g7, 0, none⟩)
 | 12 => x = .int .u32 (wv (r.e))
 | 13 => x = .int .u32 (wv (~~~r.e))
 | 14 => x = .pointer (some ⟨g7, 2, none⟩)
 | 15 => x = .int .u32 (wv (r.g))
 | 16 => x = .int .u32 (wv (~~~r.e &&& r.g))
 | 17 => x = .int .u32 (wv (chW r.e r.f r.g))
 | 18 => x = .int .u32 (wv (r.h + bs1 r.e + chW r.e r.f r.g))
 | 19 => x = .int .u32 (wv (k))
 | 20 => x = .int .u32 (wv (r.h + bs1 r.e + chW r.e r.f r.g + k))
 | 21 => x = .int .i64 (t : Nat)
 | 22 => x = .pointer (some ⟨gW, t, none⟩)
 | 23 => x = .int .u32 (wv (m))
 | 24 => x = .int .u32 (wv (r.x k m))
 | 25 => x = .int .u32 (wv (r.x k m))
 | _ => True
theorem PhiCo6.keep {g7 gW t : Nat} {r : R8} {k m : BitVec 32} : ∀ (w w' : World), Below w.heap.size w w' → ∀ j x, PhiCo6 g7 gW t r k m j w x → PhiCo6 g7 gW t r k m j w' x := fun _ _ _ _ _ h => h
def PhiCo7 (g6 : Nat) (r : R8) (j : Nat) (w : World) (x : Value) : Prop :=
 match j with
 | 0 => x = .pointer (some ⟨g6, 0, none⟩)
 | 1 => x = .int .u32 (wv (r.a))
 | 2 => x = .int .u32 (wv (bs0 r.a))
 | 3 => x = .pointer (some ⟨g6, 0, none⟩)
 | 4 => x = .int .u32 (wv (r.a))
 | 5 => x = .pointer (some ⟨g6, 1, none⟩)
 | 6 => x = .int .u32 (wv (r.b))
 | 7 => x = .int .u32 (wv (r.a &&& r.b))
 | 8 => x = .pointer (some ⟨g6, 0, none⟩)
 | 9 => x = .int .u32 (wv (r.a))
 | 10 => x = .pointer (some ⟨g6, 2, none⟩)
 | 11 => x = .int .u32 (wv (r.c))
 | 12 => x = .int .u32 (wv (r.a &&& r.c))
 | 13 => x = .int .u32 (wv ((r.a &&& r.b) ^^^ (r.a &&& r.c)))
 | 14 => x = .pointer (some ⟨g6, 1, none⟩)
 | 15 => x = .int .u32 (wv (r.b))
 | 16 => x = .pointer (some ⟨g6, 2, none⟩)
 | 17 => x = .int .u32 (wv (r.c))
 | 18 => x = .int .u32 (wv (r.b &&& r.c))
 | 19 => x = .int .u32 (wv (majW r.a r.b r.c))
 | 20 => x = .int .u32 (wv (r.y))
 | 21 => x = .int .u32 (wv (r.y))
 | _ => True
theorem PhiCo7.keep {g6 : Nat} {r : R8} : ∀ (w w' : World), Below w.heap.size w w' → ∀ j x, PhiCo7 g6 r j w x → PhiCo7 g6 r j w' x := fun _ _ _ _ _ h => h
def PhiCo14 (gS g6 i : Nat) (x0 y0 : BitVec 32) (vs : Nat → Value) (j : Nat) (w : World) (x : Value) : Prop :=
 match j with
 | 0 => x = .int .i64 (i : Nat)
 | 1 => x = .pointer (some ⟨gS, i, none⟩)
 | 2 => x = .int .u32 (wv x0)
 | 3 => x = .int .i64 (i : Nat)
 | 4 => x = .pointer (some ⟨g6, i, none⟩)
 | 5 => x = .int .u32 (wv y0)
 | 6 => x = .int .u32 (wv (x0 + y0))
 | 7 => x = .pointer (some ⟨gS, i, none⟩)
 | _ => True
theorem PhiCo14.keepR {gS g6 i : Nat} {x0 y0 : BitVec 32} : ∀ vs (w w' : World), Below w.heap.size w w' → ∀ j x, PhiCo14 gS g6 i x0 y0 vs j w x → PhiCo14 gS g6 i x0 y0 vs j w' x := fun _ _ _ _ _ _ h => h
theorem PhiCo14.keepF {gS g6 i : Nat} {x0 y0 : BitVec 32} : ∀ vs (w w' : World) j x, ([] : List Nat).contains j = true → PhiCo14 gS g6 i x0 y0 vs j w x → PhiCo14 gS g6 i x0 y0 vs j w' x := fun _ _ _ _ _ _ h => h
def PhiCo15 (gS g7 i m : Nat) (x0 y0 : BitVec 32) (vs : Nat → Value) (j : Nat) (w : World) (x : Value) : Prop :=
 match j with
 | 0 => x = .int .i64 (i : Nat)
 | 1 => x = .int .i64 (m : Nat)
 | 2 => x = .pointer (some ⟨gS, m, none⟩)
 | 3 => x = .int .u32 (wv x0)
 | 4 => x = .int .i64 (i : Nat)
 | 5 => x = .pointer (some ⟨g7, i, none⟩)
 | 6 => x = .int .u32 (wv y0)
 | 7 => x = .int .u32 (wv (x0 + y0))
 | 8 => x = .pointer (some ⟨gS, m, none⟩)
 | _ => True
theorem PhiCo15.keepR {gS g7 i m : Nat} {x0 y0 : BitVec 32} : ∀ vs (w w' : World), Below w.heap.size w w' → ∀ j x, PhiCo15 gS g7 i m x0 y0 vs j w x → PhiCo15 gS g7 i m x0 y0 vs j w' x := fun _ _ _ _ _ _ h => h
theorem PhiCo15.keepF {gS g7 i m : Nat} {x0 y0 : BitVec 32} : ∀ vs (w w' : World) j x, ([] : List Nat).contains j = true → PhiCo15 gS g7 i m x0 y0 vs j w x → PhiCo15 gS g7 i m x0 y0 vs j w' x := fun _ _ _ _ _ _ h => h
set_option maxRecDepth 100000 in
set_option maxHeartbeats 8000000 in
theorem compress_n (s : R8) (A : Option Addr) (c : Nat) (l : List Nat) (w : World) (h : By w A 64 c l) (hK : KcT w 0) : Calls Tryz.prog 123 #[.agg (cells8 s).toArray, .slice A 64 c] w fun e w' => e = .returned (.agg (cells8 (cmpW s l)).toArray) ∧ Below w.heap.size w w' := by
 obtain ⟨sw, HSW⟩ : ∃ f, Hid (s.wd = f) := ⟨_, rfl⟩; rw [cells8_eq s, HSW.out]
 show Calls _ _ #[.agg (arW 8 sw), _] _ _
 go_enter Tryz.func123, Tryz.ntmps123
 go_wp2_with fail; refine calls_name ?_; intro w2 HW; rw [← arW_zero8] at HW; have hb2 : Below w.heap.size w w2 := by rw [HW.out]; exact Below.tr (bA _ _) (bA _ _)
 have BS : Blk w2 w.heap.size 110 (arW 8 sw) := by rw [HW.out]; exact (Blk.new _ _ _).alloc _
 have BR : Blk w2 (w.heap.size + 1) 110 (arW 8 fun _ => 0) := by rw [HW.out]; exact heap_alloc_new' _ _ _ (alloc_sz _ _)
 clear HW; have HR2 := BR.lt; refine (sched_n A c l _ (h.below hb2)).mono ?_; rintro e w3 ⟨rfl, hb3⟩
 go_upto_region 2 with (first | (refine wpList_store_mid rfl 180 (.tmp 5) (.tmp 14) rfl w3.heap.size 0 (arW 64 (swW l)) rfl rfl (there_new _ _ _ 64 (by simp)) infoW64s (all_oneCell_toArray arW_one) ?_; rw [setCells_new]; rotate_left; rfl))
 refine wp_name ?_; intro w4 HW4; have hb4 : Below w3.heap.size w3 w4 := by rw [HW4.out]; exact bA _ _
 have BW : Blk w4 w3.heap.size 180 (arW 64 (swW l)) := by rw [HW4.out]; exact Blk.new _ _ _
 have hb34 := Below.tr hb3 hb4; have BS := Blk.below BS hb34 BS.lt; have BR := Blk.below BR hb34 BR.lt; have hbe := Below.tr hb2 hb34; have hsz3 : w.heap.size + 2 ≤ w3.heap.size := by have := (BR.lt); have := hb3.size; have h2 : w.heap.size + 1 < w2.heap.size := HR2; omega
 have hK := hK.below hbe; obtain ⟨gS, hgS⟩ : ∃ g, Hid (g = w.heap.size) := ⟨_, rfl⟩; obtain ⟨gR, hgR⟩ : ∃ g, Hid (g = w.heap.size + 1) := ⟨_, rfl⟩; obtain ⟨gW, hgW⟩ : ∃ g, Hid (g = w3.heap.size) := ⟨_, rfl⟩; rw [← hgR.out] at BR ⊢; rw [← hgS.out] at BS ⊢; rw [← hgW.out] at BW ⊢; have hlW : gW < w4.heap.size := BW.lt; have HlS := Lib.hid BS.lt; have HlR := Lib.hid BR.lt; have hbe4 := Lib.hid hbe.size; have hSR : gS ≠ gR := by have h1 := hgS.out; have h2 := hgR.out; omega
 have hSW' : gS ≠ gW := by have h1 := hgS.out; have h2 := hgW.out; omega
 have hgeS : w.heap.size ≤ gS := by have := hgS.out; omega
 have hgeR : w.heap.size ≤ gR := by have := hgR.out; omega
 clear HW4 hb2 hb3 hb4 hb34 hgW HR2 hsz3; obtain ⟨fv, hfv⟩ : ∃ f, Hid (f = fun j => sw j) := ⟨_, rfl⟩; obtain ⟨fe, hfe⟩ : ∃ f, Hid (f = fun j => sw (4 + j)) := ⟨_, rfl⟩
 have HRV : Hid (∀ j v, (arL 4 fv)[j]? = some v → w4.cell? ⟨gS, 0 + j, none⟩ = some v) := by
  intro j v hv; have hj : j < 4 := by have := (List.getElem?_eq_some_iff.1 hv).1; simpa [arL_len] using this
  have h2 : (arW 4 fv)[j]? = some v := by simpa [arW] using hv
  rw [arW_get hj] at h2; rw [Nat.zero_add, BS.cell, arW_get (by omega), ← h2, hfv.out]
 have HRE : Hid (∀ j v, (arL 4 fe)[j]? = some v → w4.cell? ⟨gS, 4 + j, none⟩ = some v) := by
  intro j v hv; have hj : j < 4 := by have := (List.getElem?_eq_some_iff.1 hv).1; simpa [arL_len] using this
  have h2 : (arW 4 fe)[j]? = some v := by simpa [arW] using hv
  rw [arW_get hj] at h2; rw [BS.cell, arW_get (by omega), ← h2, hfe.out]
 refine region_invW (PhiCo2 gS (arW 4 fv) (arW 4 fe)) (fun _ _ => True) (SCo w4 fv fe) (by kernel_rfl) (by kernel_rfl) (by kernel_rfl) PhiCo2.keep ⟨bD _, fun h => (by cases h), fun h => (by cases h), fun h => (by cases h)⟩ (fun vs => by simp only [fillR, Act.put, sA, sB, sC, Nat.zero_add, Nat.reduceAdd]; rfl) ?_ ?_
 ·refine sK ?_ (sK ?_ (sK ?_ (sK ?_ (sK ?_ (sK ?_ (sK ?_ (sK ?_ (sK ?_ (sK ?_ (sZ))))))))))
  ·as_aux_lemma =>
   intro vs L W hS hL cl hdl hdep K hK; refine ⟨?_⟩; simp only [fillR, Act.put, sA, sB, sC, Nat.zero_add, Nat.reduceAdd] at hK ⊢; go_simp; with_reducible refine hK _ _ trivial (hS.plain (Below.refl _ _) 0 _ (by decide)) ?_
   exact rfl
  ·as_aux_lemma =>
   intro vs L W hS hL cl hdl hdep K hK; have d0 := hdep ⟨0, .data⟩ (by simp) rfl; simp only [PhiCo2] at d0; have g1 := arrAt4 gS 0 8 W; refine ⟨?_⟩; simp only [fillR, Act.put, sA, sB, sC, Nat.zero_add, Nat.reduceAdd, d0] at hK ⊢; go_simp; with_reducible refine hK _ _ trivial (hS.plain (Below.refl _ _) 1 _ (by decide)) ?_
   exact rfl
  ·as_aux_lemma =>
   intro vs L W hS hL cl hdl hdep K hK; have d0 := hdep ⟨1, .data⟩ (by simp) rfl; simp only [PhiCo2] at d0; refine ⟨?_⟩; simp only [fillR, Act.put, sA, sB, sC, Nat.zero_add, Nat.reduceAdd, d0] at hK ⊢; rw [if_pos (by rfl)]; refine wp_load_mid 182 (.tmp 16) (by rfl) gS 0 (by rfl) (arL 4 fv) _ (fun j v h => cell_keep hS.be (HRV.out j v h)) Tryz.underlying182 (by rfl) infoW4 ?_; simp only [Act.put, sA, sB, sC]; with_reducible refine hK _ _ trivial (hS.plain (Below.refl _ _) 2 _ (by decide)) ?_
   exact rfl
  ·as_aux_lemma =>
   intro vs L W hS hL cl hdl hdep K hK; refine ⟨?_⟩; simp only [fillR, Act.put, sA, sB, sC, Nat.zero_add, Nat.reduceAdd] at hK ⊢; go_simp; with_reducible refine hK _ _ trivial (hS.plain (Below.refl _ _) 3 _ (by decide)) ?_
   exact rfl
  ·as_aux_lemma =>
   intro vs L W hS hL cl hdl hdep K hK; have d0 := hdep ⟨3, .data⟩ (by simp) rfl; simp only [PhiCo2] at d0; have g1 := arrAt4 gS 4 4 W; refine ⟨?_⟩; simp only [fillR, Act.put, sA, sB, sC, Nat.zero_add, Nat.reduceAdd, d0] at hK ⊢; go_simp; with_reducible refine hK _ _ trivial (hS.plain (Below.refl _ _) 4 _ (by decide)) ?_
   exact rfl
  ·as_aux_lemma =>
   intro vs L W hS hL cl hdl hdep K hK; have d0 := hdep ⟨4, .data⟩ (by simp) rfl; simp only [PhiCo2] at d0; refine ⟨?_⟩; simp only [fillR, Act.put, sA, sB, sC, Nat.zero_add, Nat.reduceAdd, d0] at hK ⊢; rw [if_pos (by rfl)]; refine wp_load_mid 182 (.tmp 19) (by rfl) gS 4 (by rfl) (arL 4 fe) _ (fun j v h => cell_keep hS.be (HRE.out j v h)) Tryz.underlying182 (by rfl) infoW4 ?_; simp only [Act.put, sA, sB, sC]; with_reducible refine hK _ _ trivial (hS.plain (Below.refl _ _) 5 _ (by decide)) ?_
   exact rfl
  ·as_aux_lemma =>
   intro vs L W hS hL cl hdl hdep K hK
   have hn : L 8 = false := by
    cases h : L 8 with
    | false => rfl
    | true => exact absurd (cl 8 _ rfl h ⟨6, .data⟩ (by simp) rfl) (by rw [hL]; decide)
   refine ⟨?_⟩; simp only [fillR, Act.put, sA, sB, sC, Nat.zero_add, Nat.reduceAdd] at hK ⊢; go_simp; have ha := hS.alloc6 hn; rw [arW_zero4] at ha; with_reducible refine hK _ _ trivial ha ?_
   exact ⟨_, rfl⟩
  ·as_aux_lemma =>
   intro vs L W hS hL cl hdl hdep K hK
   have hn : L 9 = false := by
    cases h : L 9 with
    | false => rfl
    | true => exact absurd (cl 9 _ rfl h ⟨7, .data⟩ (by simp) rfl) (by rw [hL]; decide)
   refine ⟨?_⟩; simp only [fillR, Act.put, sA, sB, sC, Nat.zero_add, Nat.reduceAdd] at hK ⊢; go_simp; have ha := hS.alloc7 hn; rw [arW_zero4] at ha; with_reducible refine hK _ _ trivial ha ?_
   exact ⟨_, rfl⟩
  ·as_aux_lemma =>
   intro vs L W hS hL cl hdl hdep K hK; have d0 := hdep ⟨6, .data⟩ (by simp) rfl; simp only [PhiCo2] at d0; refine @exE1 _ _ _ d0 ?_; clear d0; intro g0 d0; have e0 := d0; clear d0; have d1 := hdep ⟨2, .data⟩ (by simp) rfl; simp only [PhiCo2] at d1; have hq := hdl ⟨6, .data⟩ (by simp) rfl; obtain ⟨g1, hg1, hge, hbk⟩ := hS.a hq; rw [if_neg (by rw [hL]; decide)] at hbk; refine ⟨?_⟩; simp only [fillR, Act.put, sA, sB, sC, Nat.zero_add, Nat.reduceAdd, hg1, d1] at hK ⊢; rw [if_pos (by rfl)]; refine wp_store_mid 182 (.tmp 6) (.tmp 17) (by rfl) g1 0 (arW 4 fv) (by rfl) (by rfl) (Blk.there hbk (by rw [arW_size, arW_size])) infoW4s (all_oneCell_toArray arW_one) ?_
   (try simp only [Act.put, sA, sB, sC])
   with_reducible refine hK undef _ trivial (hS.store8 hq hL hg1 hge hbk) ?_
   trivial
  ·as_aux_lemma =>
   intro vs L W hS hL cl hdl hdep K hK; have d0 := hdep ⟨7, .data⟩ (by simp) rfl; simp only [PhiCo2] at d0; refine @exE1 _ _ _ d0 ?_; clear d0; intro g0 d0; have e0 := d0; clear d0; have d1 := hdep ⟨5, .data⟩ (by simp) rfl; simp only [PhiCo2] at d1; have hq := hdl ⟨7, .data⟩ (by simp) rfl; obtain ⟨g1, hg1, hge, hbk⟩ := hS.b hq; rw [if_neg (by rw [hL]; decide)] at hbk; refine ⟨?_⟩; simp only [fillR, Act.put, sA, sB, sC, Nat.zero_add, Nat.reduceAdd, hg1, d1] at hK ⊢; rw [if_pos (by rfl)]; refine wp_store_mid 182 (.tmp 7) (.tmp 20) (by rfl) g1 0 (arW 4 fe) (by rfl) (by rfl) (Blk.there hbk (by rw [arW_size, arW_size])) infoW4s (all_oneCell_toArray arW_one) ?_
   (try simp only [Act.put, sA, sB, sC])
   with_reducible refine hK undef _ trivial (hS.store9 hq hL hg1 hge hbk) ?_
   trivial
 ·intro vs L W hS hall hv; obtain ⟨g6, e6, hg6, B6⟩ := hS.a (hall 6 (by simp)); obtain ⟨g7, e7, hg7, B7⟩ := hS.b (hall 7 (by simp)); have hne := hS.ne (hall 6 (by simp)) (hall 7 (by simp)); have h67 : g6 ≠ g7 := fun e => hne (by rw [e6, e7, e])
  rw [if_pos (hall 8 (by simp))] at B6; rw [if_pos (hall 9 (by simp))] at B7; have hbx := hS.be; simp only [Act.put, sA, sB, sC, Nat.zero_add, Nat.reduceAdd, e6, e7]; have BS := Blk.below BS hbx BS.lt; have BR := Blk.below BR hbx BR.lt; have BW := Blk.below BW hbx BW.lt; have hbe := Below.tr hbe hbx; have hK := hK.below hbx; have h6S : gS ≠ g6 := by have := BS.lt; have h9 : gS < w4.heap.size := HlS.out; omega
  have h7S : gS ≠ g7 := by have h9 : gS < w4.heap.size := HlS.out; omega
  have h6R : gR ≠ g6 := by have h9 : gR < w4.heap.size := HlR.out; omega
  have h7R : gR ≠ g7 := by have h9 : gR < w4.heap.size := HlR.out; omega
  have h6W : gW ≠ g6 := by omega
  have h7W : gW ≠ g7 := by omega
  have hge6 : w.heap.size ≤ g6 := by have := hbe4.out; omega
  have hge7 : w.heap.size ≤ g7 := by have := hbe4.out; omega
  obtain ⟨tK, frK, hgK⟩ := hK; clear hS hall hv hne e6 e7 hbx hg6 hg7 HRV HRE hlW
  go_wp2_with (first | (refine wpList_load_row rfl 180 (.global 0) rfl 0 rfl tK (arW 64 kcW) frK _ hgK Tryz.underlying180 rfl infoW64s ?_; simp only [Act.put, sA, sB, sC]))
  clear hgK
  go_loopg [22] 64 (fun mm x wr => ∃ t : Nat, x = .int .i64 t ∧ t + mm = 64 ∧ Hid (Blk wr g6 182 (arW 4 fun j => (rnds l s t).wd j)) ∧ Hid (Blk wr g7 182 (arW 4 fun j => (rnds l s t).wd (4 + j))) ∧ Hid (Blk wr gS 110 (arW 8 sw)) ∧ Hid (Blk wr gR 110 (arW 8 fun _ => 0)) ∧ Hid (Blk wr gW 180 (arW 64 (swW l))) ∧ Below w.heap.size w wr)
  case atStart =>
   refine ⟨0, rfl, rfl, ?_, ?_, BS, BR, BW, hbe⟩
   ·show Blk _ _ _ _
    rw [show arW 4 (fun j => (rnds l s 0).wd j) = arW 4 fv from by rw [hfv.out, ← HSW.out]; rfl]; exact B6
   ·show Blk _ _ _ _
    rw [show arW 4 (fun j => (rnds l s 0).wd (4 + j)) = arW 4 fe from by rw [hfe.out, ← HSW.out]; rfl]; exact B7
  case round =>
   clear BS BR BW B6 B7 hbe; obtain ⟨G, hG⟩ : ∃ G, G = gk := ⟨gk, rfl⟩; subst hG; obtain ⟨t, rfl, htm, HV, HE, HS, HR, HW, hbe⟩ := hrel; obtain ⟨r, Hr⟩ : ∃ r, Hid (rnds l s t = r) := ⟨_, rfl⟩; rw [Hr.out] at HV HE; by_cases ht : t < 64
   ·have t1 : decide ((t : Int) < 64) = true := by simp; omega
    have lt : (t : Int) < 64 := by omega
    have B6 := HV.out; have B7 := HE.out; have v0 : wr.cell? ⟨g6, 0, none⟩ = some (.int .u32 (wv r.a)) := by rw [B6.cell]; rfl
    have v1 : wr.cell? ⟨g6, 1, none⟩ = some (.int .u32 (wv r.b)) := by rw [B6.cell]; rfl
    have v2 : wr.cell? ⟨g6, 2, none⟩ = some (.int .u32 (wv r.c)) := by rw [B6.cell]; rfl
    have v3 : wr.cell? ⟨g6, 3, none⟩ = some (.int .u32 (wv r.d)) := by rw [B6.cell]; rfl
    have e0 : wr.cell? ⟨g7, 0, none⟩ = some (.int .u32 (wv r.e)) := by rw [B7.cell]; rfl
    have e1 : wr.cell? ⟨g7, 1, none⟩ = some (.int .u32 (wv r.f)) := by rw [B7.cell]; rfl
    have e2 : wr.cell? ⟨g7, 2, none⟩ = some (.int .u32 (wv r.g)) := by rw [B7.cell]; rfl
    have e3 : wr.cell? ⟨g7, 3, none⟩ = some (.int .u32 (wv r.h)) := by rw [B7.cell]; rfl
    have cw : wr.cell? ⟨gW, t, none⟩ = some (.int .u32 (wv (swW l t))) := by rw [HW.out.cell, arW_get ht]
    have hix := fun w => kc_ix ht w
    have z1 : (wv r.d + wv (r.x (kcW t) (swW l t))) % 4294967296 = wv (r.d + r.x (kcW t) (swW l t)) := wv_add _ _; have z2 : (wv (r.x (kcW t) (swW l t)) + wv r.y) % 4294967296 = wv (r.x (kcW t) (swW l t) + r.y) := wv_add _ _; go_upto_region 6 with fail; refine region_invF (PhiCo6 g7 gW t r (kcW t) (swW l t)) (fun w w' => Below w.heap.size w w') (fun Y => Below wr.heap.size wr Y) (by kernel_rfl) (by kernel_rfl) (by kernel_rfl) PhiCo6.keep (fun _ _ hR hS => Below.tr hS hR) (bD _) (fun vs => by simp only [fillR, Act.put, sA, sB, sC, Nat.zero_add, Nat.reduceAdd]; rfl) ?_ ?_
    ·refine sK ?_ (sK ?_ (sK ?_ (sK ?_ (sK ?_ (sK ?_ (sK ?_ (sK ?_ (sK ?_ (sK ?_ (sK ?_ (sK ?_ (sK ?_ (sK ?_ (sK ?_ (sK ?_ (sK ?_ (sK ?_ (sK ?_ (sK ?_ (sK ?_ (sK ?_ (sK ?_ (sK ?_ (sK ?_ (sK ?_ (sZ))))))))))))))))))))))))))
     ·as_aux_lemma =>
      intro vs W hS hdep K hK; refine ⟨?_⟩; simp only [Act.put, sA, sB, sC, Nat.zero_add, Nat.reduceAdd] at hK ⊢; go_simp; with_reducible refine hK _ _ (Below.refl _ _) ?_
      exact rfl
     ·as_aux_lemma =>
      intro vs W hS hdep K hK; have d0 := hdep ⟨0, .data⟩ (by simp) rfl; simp only [PhiCo6] at d0; have g1 := cell_keep hS e3; refine ⟨?_⟩; simp only [Act.put, sA, sB, sC, Nat.zero_add, Nat.reduceAdd, d0] at hK ⊢; go_simp; with_reducible refine hK _ _ (Below.refl _ _) ?_
      exact rfl
     ·as_aux_lemma =>
      intro vs W hS hdep K hK; refine ⟨?_⟩; simp only [Act.put, sA, sB, sC, Nat.zero_add, Nat.reduceAdd] at hK ⊢; go_simp; with_reducible refine hK _ _ (Below.refl _ _) ?_
      exact rfl
     ·as_aux_lemma =>
      intro vs W hS hdep K hK; have d0 := hdep ⟨2, .data⟩ (by simp) rfl; simp only [PhiCo6] at d0; have g1 := cell_keep hS e0; refine ⟨?_⟩; simp only [Act.put, sA, sB, sC, Nat.zero_add, Nat.reduceAdd, d0] at hK ⊢; go_simp; with_reducible refine hK _ _ (Below.refl _ _) ?_
      exact rfl
     ·as_aux_lemma =>
      intro vs W hS hdep K hK; have d0 := hdep ⟨3, .data⟩ (by simp) rfl; simp only [PhiCo6] at d0; refine ⟨?_⟩; simp only [Act.put, sA, sB, sC, Nat.zero_add, Nat.reduceAdd, d0] at hK ⊢; go_simp; refine (mixbs1_n (r.e) _).mono ?_; rintro e w' ⟨rfl, rfl⟩; go_wp2_with fail; with_reducible refine hK _ _ (Below.refl _ _) ?_
      exact rfl
     ·as_aux_lemma =>
      intro vs W hS hdep K hK; have d0 := hdep ⟨1, .data⟩ (by simp) rfl; simp only [PhiCo6] at d0; have d1 := hdep ⟨4, .data⟩ (by simp) rfl; simp only [PhiCo6] at d1; refine ⟨?_⟩; simp only [Act.put, sA, sB, sC, Nat.zero_add, Nat.reduceAdd, d0, d1] at hK ⊢; go_simp; with_reducible refine hK _ _ (Below.refl _ _) ?_
      exact (congrArg (Value.int .u32) (wv_add _ _))
     ·as_aux_lemma =>
      intro vs W hS hdep K hK; refine ⟨?_⟩; simp only [Act.put, sA, sB, sC, Nat.zero_add, Nat.reduceAdd] at hK ⊢; go_simp; with_reducible refine hK _ _ (Below.refl _ _) ?_
      exact rfl
     ·as_aux_lemma =>
      intro vs W hS hdep K hK; have d0 := hdep ⟨6, .data⟩ (by simp) rfl; simp only [PhiCo6] at d0; have g1 := cell_keep hS e0; refine ⟨?_⟩; simp only [Act.put, sA, sB, sC, Nat.zero_add, Nat.reduceAdd, d0] at hK ⊢; go_simp; with_reducible refine hK _ _ (Below.refl _ _) ?_
      exact rfl
     ·as_aux_lemma =>
      intro vs W hS hdep K hK; refine ⟨?_⟩; simp only [Act.put, sA, sB, sC, Nat.zero_add, Nat.reduceAdd] at hK ⊢; go_simp; with_reducible refine hK _ _ (Below.refl _ _) ?_
      exact rfl
     ·as_aux_lemma =>
      intro vs W hS hdep K hK; have d0 := hdep ⟨8, .data⟩ (by simp) rfl; simp only [PhiCo6] at d0; have g1 := cell_keep hS e1; refine ⟨?_⟩; simp only [Act.put, sA, sB, sC, Nat.zero_add, Nat.reduceAdd, d0] at hK ⊢; go_simp; with_reducible refine hK _ _ (Below.refl _ _) ?_
      exact rfl
     ·as_aux_lemma =>
      intro vs W hS hdep K hK; have d0 := hdep ⟨7, .data⟩ (by simp) rfl; simp only [PhiCo6] at d0; have d1 := hdep ⟨9, .data⟩ (by simp) rfl; simp only [PhiCo6] at d1; refine ⟨?_⟩; simp only [Act.put, sA, sB, sC, Nat.zero_add, Nat.reduceAdd, d0, d1] at hK ⊢; go_simp; with_reducible refine hK _ _ (Below.refl _ _) ?_
      exact (congrArg (Value.int .u32) (wv_and _ _))
     ·as_aux_lemma =>
      intro vs W hS hdep K hK; refine ⟨?_⟩; simp only [Act.put, sA, sB, sC, Nat.zero_add, Nat.reduceAdd] at hK ⊢; go_simp; with_reducible refine hK _ _ (Below.refl _ _) ?_
      exact rfl
     ·as_aux_lemma =>
      intro vs W hS hdep K hK; have d0 := hdep ⟨11, .data⟩ (by simp) rfl; simp only [PhiCo6] at d0; have g1 := cell_keep hS e0; refine ⟨?_⟩; simp only [Act.put, sA, sB, sC, Nat.zero_add, Nat.reduceAdd, d0] at hK ⊢; go_simp; with_reducible refine hK _ _ (Below.refl _ _) ?_
      exact rfl
     ·as_aux_lemma =>
      intro vs W hS hdep K hK; have d0 := hdep ⟨12, .data⟩ (by simp) rfl; simp only [PhiCo6] at d0; refine ⟨?_⟩; simp only [Act.put, sA, sB, sC, Nat.zero_add, Nat.reduceAdd, d0] at hK ⊢; go_simp; with_reducible refine hK _ _ (Below.refl _ _) ?_
      exact (congrArg (Value.int .u32) (wv_not _))
     ·as_aux_lemma =>
      intro vs W hS hdep K hK; refine ⟨?_⟩; simp only [Act.put, sA, sB, sC, Nat.zero_add, Nat.reduceAdd] at hK ⊢; go_simp; with_reducible refine hK _ _ (Below.refl _ _) ?_
      exact rfl
     ·as_aux_lemma =>
      intro vs W hS hdep K hK; have d0 := hdep ⟨14, .data⟩ (by simp) rfl; simp only [PhiCo6] at d0; have g1 := cell_keep hS e2; refine ⟨?_⟩; simp only [Act.put, sA, sB, sC, Nat.zero_add, Nat.reduceAdd, d0] at hK ⊢; go_simp; with_reducible refine hK _ _ (Below.refl _ _) ?_
      exact rfl
     ·as_aux_lemma =>
      intro vs W hS hdep K hK; have d0 := hdep ⟨13, .data⟩ (by simp) rfl; simp only [PhiCo6] at d0; have d1 := hdep ⟨15, .data⟩ (by simp) rfl; simp only [PhiCo6] at d1; refine ⟨?_⟩; simp only [Act.put, sA, sB, sC, Nat.zero_add, Nat.reduceAdd, d0, d1] at hK ⊢; go_simp; with_reducible refine hK _ _ (Below.refl _ _) ?_
      exact (congrArg (Value.int .u32) (wv_and _ _))
     ·as_aux_lemma =>
      intro vs W hS hdep K hK; have d0 := hdep ⟨10, .data⟩ (by simp) rfl; simp only [PhiCo6] at d0; have d1 := hdep ⟨16, .data⟩ (by simp) rfl; simp only [PhiCo6] at d1; refine ⟨?_⟩; simp only [Act.put, sA, sB, sC, Nat.zero_add, Nat.reduceAdd, d0, d1] at hK ⊢; go_simp; with_reducible refine hK _ _ (Below.refl _ _) ?_
      exact (congrArg (Value.int .u32) (wv_xor _ _))
     ·as_aux_lemma =>
      intro vs W hS hdep K hK; have d0 := hdep ⟨5, .data⟩ (by simp) rfl; simp only [PhiCo6] at d0; have d1 := hdep ⟨17, .data⟩ (by simp) rfl; simp only [PhiCo6] at d1; refine ⟨?_⟩; simp only [Act.put, sA, sB, sC, Nat.zero_add, Nat.reduceAdd, d0, d1] at hK ⊢; go_simp; with_reducible refine hK _ _ (Below.refl _ _) ?_
      exact (congrArg (Value.int .u32) (wv_add _ _))
     ·as_aux_lemma =>
      intro vs W hS hdep K hK; refine ⟨?_⟩; simp only [Act.put, sA, sB, sC, Nat.zero_add, Nat.reduceAdd] at hK ⊢; go_simp; with_reducible refine hK _ _ (Below.refl _ _) ?_
      exact rfl
     ·as_aux_lemma =>
      intro vs W hS hdep K hK; have d0 := hdep ⟨18, .data⟩ (by simp) rfl; simp only [PhiCo6] at d0; have d1 := hdep ⟨19, .data⟩ (by simp) rfl; simp only [PhiCo6] at d1; refine ⟨?_⟩; simp only [Act.put, sA, sB, sC, Nat.zero_add, Nat.reduceAdd, d0, d1] at hK ⊢; go_simp; with_reducible refine hK _ _ (Below.refl _ _) ?_
      exact (congrArg (Value.int .u32) (wv_add _ _))
     ·as_aux_lemma =>
      intro vs W hS hdep K hK; refine ⟨?_⟩; simp only [Act.put, sA, sB, sC, Nat.zero_add, Nat.reduceAdd] at hK ⊢; go_simp; with_reducible refine hK _ _ (Below.refl _ _) ?_
      exact rfl
     ·as_aux_lemma =>
      intro vs W hS hdep K hK; have d0 := hdep ⟨21, .data⟩ (by simp) rfl; simp only [PhiCo6] at d0; refine ⟨?_⟩; simp only [Act.put, sA, sB, sC, Nat.zero_add, Nat.reduceAdd, d0] at hK ⊢; go_simp; with_reducible refine hK _ _ (Below.refl _ _) ?_
      exact rfl
     ·as_aux_lemma =>
      intro vs W hS hdep K hK; have d0 := hdep ⟨22, .data⟩ (by simp) rfl; simp only [PhiCo6] at d0; have g1 := cell_keep hS cw; refine ⟨?_⟩; simp only [Act.put, sA, sB, sC, Nat.zero_add, Nat.reduceAdd, d0] at hK ⊢; go_simp; with_reducible refine hK _ _ (Below.refl _ _) ?_
      exact rfl
     ·as_aux_lemma =>
      intro vs W hS hdep K hK; have d0 := hdep ⟨20, .data⟩ (by simp) rfl; simp only [PhiCo6] at d0; have d1 := hdep ⟨23, .data⟩ (by simp) rfl; simp only [PhiCo6] at d1; refine ⟨?_⟩; simp only [Act.put, sA, sB, sC, Nat.zero_add, Nat.reduceAdd, d0, d1] at hK ⊢; go_simp; with_reducible refine hK _ _ (Below.refl _ _) ?_
      exact (congrArg (Value.int .u32) (wv_add _ _))
     ·as_aux_lemma =>
      intro vs W hS hdep K hK; have d0 := hdep ⟨24, .data⟩ (by simp) rfl; simp only [PhiCo6] at d0; refine ⟨?_⟩; simp only [Act.put, sA, sB, sC, Nat.zero_add, Nat.reduceAdd, d0] at hK ⊢; go_simp; with_reducible refine hK _ _ (Below.refl _ _) ?_
      exact rfl
    ·intro vs wx hS hv; have u25 := hv 25 (by simp); simp only [PhiCo6] at u25; simp only [Act.put, sA, sB, sC, Nat.zero_add, Nat.reduceAdd, u25]; have hbe := Below.tr hbe hS; have HS := Lib.hid (Blk.below HS.out hS HS.out.lt); have HR := Lib.hid (Blk.below HR.out hS HR.out.lt); have HW := Lib.hid (Blk.below HW.out hS HW.out.lt); have B6 := Blk.below B6 hS B6.lt; have B7 := Blk.below B7 hS B7.lt; have v0 := cell_keep hS v0; have v1 := cell_keep hS v1; have v2 := cell_keep hS v2; have v3 := cell_keep hS v3; have e0 := cell_keep hS e0; have e1 := cell_keep hS e1; have e2 := cell_keep hS e2; clear u25 hv hS HV HE cw e3; go_upto_region 7 with fail; refine region_invF (PhiCo7 g6 r) (fun w w' => Below w.heap.size w w') (fun Y => Below wx.heap.size wx Y) (by kernel_rfl) (by kernel_rfl) (by kernel_rfl) PhiCo7.keep (fun _ _ hR hS => Below.tr hS hR) (bD _) (fun vs => by simp only [fillR, Act.put, sA, sB, sC, Nat.zero_add, Nat.reduceAdd]; rfl) ?_ ?_
     ·refine sK ?_ (sK ?_ (sK ?_ (sK ?_ (sK ?_ (sK ?_ (sK ?_ (sK ?_ (sK ?_ (sK ?_ (sK ?_ (sK ?_ (sK ?_ (sK ?_ (sK ?_ (sK ?_ (sK ?_ (sK ?_ (sK ?_ (sK ?_ (sK ?_ (sK ?_ (sZ))))))))))))))))))))))
      ·as_aux_lemma =>
       intro vs W hS hdep K hK; refine ⟨?_⟩; simp only [Act.put, sA, sB, sC, Nat.zero_add, Nat.reduceAdd] at hK ⊢; go_simp; with_reducible refine hK _ _ (Below.refl _ _) ?_
       exact rfl
      ·as_aux_lemma =>
       intro vs W hS hdep K hK; have d0 := hdep ⟨0, .data⟩ (by simp) rfl; simp only [PhiCo7] at d0; have g1 := cell_keep hS v0; refine ⟨?_⟩; simp only [Act.put, sA, sB, sC, Nat.zero_add, Nat.reduceAdd, d0] at hK ⊢; go_simp; with_reducible refine hK _ _ (Below.refl _ _) ?_
       exact rfl
      ·as_aux_lemma =>
       intro vs W hS hdep K hK; have d0 := hdep ⟨1, .data⟩ (by simp) rfl; simp only [PhiCo7] at d0; refine ⟨?_⟩; simp only [Act.put, sA, sB, sC, Nat.zero_add, Nat.reduceAdd, d0] at hK ⊢; go_simp; refine (mixbs0_n (r.a) _).mono ?_; rintro e w' ⟨rfl, rfl⟩; go_wp2_with fail; with_reducible refine hK _ _ (Below.refl _ _) ?_
       exact rfl
      ·as_aux_lemma =>
       intro vs W hS hdep K hK; refine ⟨?_⟩; simp only [Act.put, sA, sB, sC, Nat.zero_add, Nat.reduceAdd] at hK ⊢; go_simp; with_reducible refine hK _ _ (Below.refl _ _) ?_
       exact rfl
      ·as_aux_lemma =>
       intro vs W hS hdep K hK; have d0 := hdep ⟨3, .data⟩ (by simp) rfl; simp only [PhiCo7] at d0; have g1 := cell_keep hS v0; refine ⟨?_⟩; simp only [Act.put, sA, sB, sC, Nat.zero_add, Nat.reduceAdd, d0] at hK ⊢; go_simp; with_reducible refine hK _ _ (Below.refl _ _) ?_
       exact rfl
      ·as_aux_lemma =>
       intro vs W hS hdep K hK; refine ⟨?_⟩; simp only [Act.put, sA, sB, sC, Nat.zero_add, Nat.reduceAdd] at hK ⊢; go_simp; with_reducible refine hK _ _ (Below.refl _ _) ?_
       exact rfl
      ·as_aux_lemma =>
       intro vs W hS hdep K hK; have d0 := hdep ⟨5, .data⟩ (by simp) rfl; simp only [PhiCo7] at d0; have g1 := cell_keep hS v1; refine ⟨?_⟩; simp only [Act.put, sA, sB, sC, Nat.zero_add, Nat.reduceAdd, d0] at hK ⊢; go_simp; with_reducible refine hK _ _ (Below.refl _ _) ?_
       exact rfl
      ·as_aux_lemma =>
       intro vs W hS hdep K hK; have d0 := hdep ⟨4, .data⟩ (by simp) rfl; simp only [PhiCo7] at d0; have d1 := hdep ⟨6, .data⟩ (by simp) rfl; simp only [PhiCo7] at d1; refine ⟨?_⟩; simp only [Act.put, sA, sB, sC, Nat.zero_add, Nat.reduceAdd, d0, d1] at hK ⊢; go_simp; with_reducible refine hK _ _ (Below.refl _ _) ?_
       exact (congrArg (Value.int .u32) (wv_and _ _))
      ·as_aux_lemma =>
       intro vs W hS hdep K hK; refine ⟨?_⟩; simp only [Act.put, sA, sB, sC, Nat.zero_add, Nat.reduceAdd] at hK ⊢; go_simp; with_reducible refine hK _ _ (Below.refl _ _) ?_
       exact rfl
      ·as_aux_lemma =>
       intro vs W hS hdep K hK; have d0 := hdep ⟨8, .data⟩ (by simp) rfl; simp only [PhiCo7] at d0; have g1 := cell_keep hS v0; refine ⟨?_⟩; simp only [Act.put, sA, sB, sC, Nat.zero_add, Nat.reduceAdd, d0] at hK ⊢; go_simp; with_reducible refine hK _ _ (Below.refl _ _) ?_
       exact rfl
      ·as_aux_lemma =>
       intro vs W hS hdep K hK; refine ⟨?_⟩; simp only [Act.put, sA, sB, sC, Nat.zero_add, Nat.reduceAdd] at hK ⊢; go_simp; with_reducible refine hK _ _ (Below.refl _ _) ?_
       exact rfl
      ·as_aux_lemma =>
       intro vs W hS hdep K hK; have d0 := hdep ⟨10, .data⟩ (by simp) rfl; simp only [PhiCo7] at d0; have g1 := cell_keep hS v2; refine ⟨?_⟩; simp only [Act.put, sA, sB, sC, Nat.zero_add, Nat.reduceAdd, d0] at hK ⊢; go_simp; with_reducible refine hK _ _ (Below.refl _ _) ?_
       exact rfl
      ·as_aux_lemma =>
       intro vs W hS hdep K hK; have d0 := hdep ⟨9, .data⟩ (by simp) rfl; simp only [PhiCo7] at d0; have d1 := hdep ⟨11, .data⟩ (by simp) rfl; simp only [PhiCo7] at d1; refine ⟨?_⟩; simp only [Act.put, sA, sB, sC, Nat.zero_add, Nat.reduceAdd, d0, d1] at hK ⊢; go_simp; with_reducible refine hK _ _ (Below.refl _ _) ?_
       exact (congrArg (Value.int .u32) (wv_and _ _))
      ·as_aux_lemma =>
       intro vs W hS hdep K hK; have d0 := hdep ⟨7, .data⟩ (by simp) rfl; simp only [PhiCo7] at d0; have d1 := hdep ⟨12, .data⟩ (by simp) rfl; simp only [PhiCo7] at d1; refine ⟨?_⟩; simp only [Act.put, sA, sB, sC, Nat.zero_add, Nat.reduceAdd, d0, d1] at hK ⊢; go_simp; with_reducible refine hK _ _ (Below.refl _ _) ?_
       exact (congrArg (Value.int .u32) (wv_xor _ _))
      ·as_aux_lemma =>
       intro vs W hS hdep K hK; refine ⟨?_⟩; simp only [Act.put, sA, sB, sC, Nat.zero_add, Nat.reduceAdd] at hK ⊢; go_simp; with_reducible refine hK _ _ (Below.refl _ _) ?_
       exact rfl
      ·as_aux_lemma =>
       intro vs W hS hdep K hK; have d0 := hdep ⟨14, .data⟩ (by simp) rfl; simp only [PhiCo7] at d0; have g1 := cell_keep hS v1; refine ⟨?_⟩; simp only [Act.put, sA, sB, sC, Nat.zero_add, Nat.reduceAdd, d0] at hK ⊢; go_simp; with_reducible refine hK _ _ (Below.refl _ _) ?_
       exact rfl
      ·as_aux_lemma =>
       intro vs W hS hdep K hK; refine ⟨?_⟩; simp only [Act.put, sA, sB, sC, Nat.zero_add, Nat.reduceAdd] at hK ⊢; go_simp; with_reducible refine hK _ _ (Below.refl _ _) ?_
       exact rfl
      ·as_aux_lemma =>
       intro vs W hS hdep K hK; have d0 := hdep ⟨16, .data⟩ (by simp) rfl; simp only [PhiCo7] at d0; have g1 := cell_keep hS v2; refine ⟨?_⟩; simp only [Act.put, sA, sB, sC, Nat.zero_add, Nat.reduceAdd, d0] at hK ⊢; go_simp; with_reducible refine hK _ _ (Below.refl _ _) ?_
       exact rfl
      ·as_aux_lemma =>
       intro vs W hS hdep K hK; have d0 := hdep ⟨15, .data⟩ (by simp) rfl; simp only [PhiCo7] at d0; have d1 := hdep ⟨17, .data⟩ (by simp) rfl; simp only [PhiCo7] at d1; refine ⟨?_⟩; simp only [Act.put, sA, sB, sC, Nat.zero_add, Nat.reduceAdd, d0, d1] at hK ⊢; go_simp; with_reducible refine hK _ _ (Below.refl _ _) ?_
       exact (congrArg (Value.int .u32) (wv_and _ _))
      ·as_aux_lemma =>
       intro vs W hS hdep K hK; have d0 := hdep ⟨13, .data⟩ (by simp) rfl; simp only [PhiCo7] at d0; have d1 := hdep ⟨18, .data⟩ (by simp) rfl; simp only [PhiCo7] at d1; refine ⟨?_⟩; simp only [Act.put, sA, sB, sC, Nat.zero_add, Nat.reduceAdd, d0, d1] at hK ⊢; go_simp; with_reducible refine hK _ _ (Below.refl _ _) ?_
       exact (congrArg (Value.int .u32) (wv_xor _ _))
      ·as_aux_lemma =>
       intro vs W hS hdep K hK; have d0 := hdep ⟨2, .data⟩ (by simp) rfl; simp only [PhiCo7] at d0; have d1 := hdep ⟨19, .data⟩ (by simp) rfl; simp only [PhiCo7] at d1; refine ⟨?_⟩; simp only [Act.put, sA, sB, sC, Nat.zero_add, Nat.reduceAdd, d0, d1] at hK ⊢; go_simp; with_reducible refine hK _ _ (Below.refl _ _) ?_
       exact (congrArg (Value.int .u32) (wv_add _ _))
      ·as_aux_lemma =>
       intro vs W hS hdep K hK; have d0 := hdep ⟨20, .data⟩ (by simp) rfl; simp only [PhiCo7] at d0; refine ⟨?_⟩; simp only [Act.put, sA, sB, sC, Nat.zero_add, Nat.reduceAdd, d0] at hK ⊢; go_simp; with_reducible refine hK _ _ (Below.refl _ _) ?_
       exact rfl
     ·intro vs wy hS hv; have u21 := hv 21 (by simp); simp only [PhiCo7] at u21; simp only [Act.put, sA, sB, sC, Nat.zero_add, Nat.reduceAdd, u21]; have hbe := Below.tr hbe hS; have HS := Lib.hid (Blk.below HS.out hS HS.out.lt); have HR := Lib.hid (Blk.below HR.out hS HR.out.lt); have HW := Lib.hid (Blk.below HW.out hS HW.out.lt); have B6 := Blk.below B6 hS B6.lt; have B7 := Blk.below B7 hS B7.lt; have v0 := cell_keep hS v0; have v1 := cell_keep hS v1; have v2 := cell_keep hS v2; have v3 := cell_keep hS v3; have e0 := cell_keep hS e0; have e1 := cell_keep hS e1; have e2 := cell_keep hS e2; clear u21 hv hS; clear e0 e1 e2; have e0 : wy.cell? ⟨g7, 0, none⟩ = some (.int .u32 (wv r.e)) := by rw [B7.cell]; rfl
      have e1 : wy.cell? ⟨g7, 1, none⟩ = some (.int .u32 (wv r.f)) := by rw [B7.cell]; rfl
      have e2 : wy.cell? ⟨g7, 2, none⟩ = some (.int .u32 (wv r.g)) := by rw [B7.cell]; rfl
      go_upto_region 9 with (first | (refine wpList_store_mid rfl 182 (.tmp 7) (.tmp 82) rfl g7 0 (arW 4 fun j => [r.d + r.x (kcW t) (swW l t), r.e, r.f, r.g].getD j 0) rfl rfl (Blk.there B7 (by rw [arW_size, arW_size])) infoW4s (all_oneCell_toArray arW_one) ?_))
      refine wp_name ?_; intro wa Hwa; have B7a : Blk wa g7 182 (arW 4 fun j => [r.d + r.x (kcW t) (swW l t), r.e, r.f, r.g].getD j 0) := by rw [Hwa.out]; exact Blk.setAll B7 (by rw [arW_size, arW_size])
      have B6a := Blk.farAll h67 ((arW 4 fun j => [r.d + r.x (kcW t) (swW l t), r.e, r.f, r.g].getD j 0)).toList 0 B6; have HS := Blk.farAll h7S ((arW 4 fun j => [r.d + r.x (kcW t) (swW l t), r.e, r.f, r.g].getD j 0)).toList 0 HS.out; have HR := Blk.farAll h7R ((arW 4 fun j => [r.d + r.x (kcW t) (swW l t), r.e, r.f, r.g].getD j 0)).toList 0 HR.out; have HW := Blk.farAll h7W ((arW 4 fun j => [r.d + r.x (kcW t) (swW l t), r.e, r.f, r.g].getD j 0)).toList 0 HW.out; have hbe := below_setAll hge7 ((arW 4 fun j => [r.d + r.x (kcW t) (swW l t), r.e, r.f, r.g].getD j 0)).toList 0 hbe; rw [← Hwa.out] at B6a HS HR HW hbe; clear Hwa B6 B7 v0 v1 v2 v3 e0 e1 e2; have v0 : wa.cell? ⟨g6, 0, none⟩ = some (.int .u32 (wv r.a)) := by rw [B6a.cell]; rfl
      have v1 : wa.cell? ⟨g6, 1, none⟩ = some (.int .u32 (wv r.b)) := by rw [B6a.cell]; rfl
      have v2 : wa.cell? ⟨g6, 2, none⟩ = some (.int .u32 (wv r.c)) := by rw [B6a.cell]; rfl
      have BV : Blk (wa.setCells g6 0 ((arW 4 fun j => [r.x (kcW t) (swW l t) + r.y, r.a, r.b, r.c].getD j 0)).toList) g6 182 (arW 4 fun j => (rnds l s (t + 1)).wd j) := by
       rw [show arW 4 (fun j => (rnds l s (t + 1)).wd j) = (arW 4 fun j => [r.x (kcW t) (swW l t) + r.y, r.a, r.b, r.c].getD j 0) from by rw [rnds, Hr.out]; rfl]; exact Blk.setAll B6a (by rw [arW_size, arW_size])
      have BE : Blk (wa.setCells g6 0 ((arW 4 fun j => [r.x (kcW t) (swW l t) + r.y, r.a, r.b, r.c].getD j 0)).toList) g7 182 (arW 4 fun j => (rnds l s (t + 1)).wd (4 + j)) := by
       rw [show arW 4 (fun j => (rnds l s (t + 1)).wd (4 + j)) = (arW 4 fun j => [r.d + r.x (kcW t) (swW l t), r.e, r.f, r.g].getD j 0) from by rw [rnds, Hr.out]; rfl]; exact Blk.farAll (Ne.symm h67) _ 0 B7a
      have HS := Blk.farAll h6S ((arW 4 fun j => [r.x (kcW t) (swW l t) + r.y, r.a, r.b, r.c].getD j 0)).toList 0 HS; have HR := Blk.farAll h6R ((arW 4 fun j => [r.x (kcW t) (swW l t) + r.y, r.a, r.b, r.c].getD j 0)).toList 0 HR; have HW := Blk.farAll h6W ((arW 4 fun j => [r.x (kcW t) (swW l t) + r.y, r.a, r.b, r.c].getD j 0)).toList 0 HW; have hbe := below_setAll hge6 ((arW 4 fun j => [r.x (kcW t) (swW l t) + r.y, r.a, r.b, r.c].getD j 0)).toList 0 hbe
      go_wp2_with (first | (refine wpList_store_mid rfl 182 (.tmp 6) (.tmp 92) rfl g6 0 (arW 4 fun j => [r.x (kcW t) (swW l t) + r.y, r.a, r.b, r.c].getD j 0) rfl rfl (Blk.there B6a (by rw [arW_size, arW_size])) infoW4s (all_oneCell_toArray arW_one) ?_))
      go_roundg (G - 1)
      case measure => omega
      case rel => exact ⟨t + 1, by go_num, by omega, BV, BE, HS, HR, HW, hbe⟩
   have t1 : decide ((t : Int) < 64) = false := by simp; omega
   obtain ⟨t64, Ht64⟩ : ∃ x, Hid (x = t) := ⟨_, rfl⟩; obtain ⟨fr, hfr⟩ : ∃ f, Hid (f = fun j => r.wd j) := ⟨_, rfl⟩; obtain ⟨fr4, hfr4⟩ : ∃ f, Hid (f = fun j => r.wd (4 + j)) := ⟨_, rfl⟩; have B6 : Blk wr g6 182 (arW 4 fr) := by rw [hfr.out]; exact HV.out
   have B7 : Blk wr g7 182 (arW 4 fr4) := by rw [hfr4.out]; exact HE.out
   have HRT : Hid (rnds l s 64 = r) := by
    show _ = _
    rw [← Hr.out, show t = 64 by omega]
   have hlg6 := B6.lt; have hlg7 := B7.lt; clear htm HV HE Hr HW; go_wp2_with fail; obtain ⟨we, Hwe⟩ : ∃ x, x = wr := ⟨_, rfl⟩; subst Hwe
   go_loopg [94] 4 (fun mm x wr => ∃ i : Nat, x = .int .i64 i ∧ i + mm = 4 ∧ Hid (Blk wr gS 110 (arW 8 fun j => if j < i then sw j + fr j else if j < 4 then sw j else if j < 4 + i then sw j + fr4 (j - 4) else sw j)) ∧ Hid (Blk wr gR 110 (arW 8 fun _ => 0)) ∧ Hid (Blk wr g6 182 (arW 4 fr)) ∧ Hid (Blk wr g7 182 (arW 4 fr4)) ∧ Below w.heap.size w wr)
   case atStart =>
    refine ⟨0, rfl, rfl, ?_, HR, B6, B7, hbe⟩
    show Blk _ _ _ _
    rw [arW_congr (g := sw)]
    ·exact HS.out
    ·intro j hj; by_cases h4 : j < 4
     ·rw [if_neg (by omega), if_pos h4]
     ·rw [if_neg (by omega), if_neg h4, if_neg (by omega)]
   case round =>
    clear HS HR B6 B7 hbe; obtain ⟨G2, hG2⟩ : ∃ G, G = gk := ⟨gk, rfl⟩; subst hG2; obtain ⟨i, rfl, him, HS, HR, H6, H7, hbe⟩ := hrel; by_cases hi : i < 4
    rotate_left
    ·have t2 : decide ((i : Int) < 4) = false := by simp; omega
     obtain ⟨fz, Hfz⟩ : ∃ f, Hid (f = (cmpW s l).wd) := ⟨_, rfl⟩
     have BF : Blk wr gS 110 (arL 8 fz).toArray := by
      have h2 := HS.out; rw [arW_congr (g := fz)] at h2
      ·exact h2
      ·intro j hj; rw [Hfz.out]; unfold cmpW; rw [wd_add _ _ hj, HRT.out, HSW.out, hfr.out, hfr4.out]; by_cases h4 : j < 4
       ·rw [if_pos (by omega)]
       ·rw [if_neg (by omega), if_neg h4, if_pos (by omega)]
        show sw j + r.wd (4 + (j - 4)) = _
        rw [show 4 + (j - 4) = j by omega]
     go_wp2_with (first | (refine wpList_load_mid rfl 110 (.tmp 2) rfl gS 0 rfl (arL 8 fz) _ (Blk.range BF) Tryz.underlying110 rfl infoW8 ?_; simp only [Act.put, sA, sB, sC]) | (refine wpList_store_mid rfl 110 (.tmp 4) (.tmp 115) rfl gR 0 (arW 8 fz) rfl rfl (Blk.there HR.out (by rw [arW_size, arW_size])) infoW8s (all_oneCell_toArray arW_one) ?_))
     (try simp only [Exit.inBlock, Exit.then])
     have hfin := Blk.setAll (cs := arW 8 fz) HR.out (by rw [arW_size, arW_size]); refine bodyPost_ret (results_cell_row rfl _ _ gR 110 _ (0, 0) _ rfl hfin Tryz.underlying110 rfl infoW8s) rfl ⟨?_, below_setAll hgeR _ 0 hbe⟩; rw [Hfz.out]; rfl
    have t2 : decide ((i : Int) < 4) = true := by simp; omega
    have li : (i : Int) < 4 := by omega
    have li8 : (i : Int) < 8 := by omega
    obtain ⟨m, Hm⟩ : ∃ m : Nat, Hid (m = i + 4) := ⟨_, rfl⟩; have hwm : IntKind.i64.wrap ((i : Int) + 4) = (m : Int) := by rw [IntWalk.i64_in _ (by omega)]; have := Hm.out; omega
    have lm : (m : Int) < 8 := by have := Hm.out; omega
    have BS := HS.out; have cS : wr.cell? ⟨gS, i, none⟩ = some (.int .u32 (wv (sw i))) := by rw [BS.cell, arW_get (by omega), if_neg (by omega), if_pos hi]
    have cM : wr.cell? ⟨gS, m, none⟩ = some (.int .u32 (wv (sw m))) := by have := Hm.out; rw [BS.cell, arW_get (by omega), if_neg (by omega), if_neg (by omega), if_neg (by omega)]
    have c6 : wr.cell? ⟨g6, i, none⟩ = some (.int .u32 (wv (fr i))) := by rw [H6.out.cell, arW_get hi]
    have c7 : wr.cell? ⟨g7, i, none⟩ = some (.int .u32 (wv (fr4 i))) := by rw [H7.out.cell, arW_get hi]
    go_upto_region 14 with fail; refine region_chain [8] [.early, .early, .early, .early, .early, .early, .early, .early, .chain 0] [] [] (PhiCo14 gS g6 i (sw i) (fr i)) (fun w w' => Below w.heap.size w w') (SStore wr gS i (.int .u32 (wv (sw i + fr i)))) (by kernel_rfl) (by kernel_rfl) (by kernel_rfl) (by kernel_rfl) (sK (fun _ _ _ _ _ h => h) (sK (fun _ _ _ _ _ h => h) (sK (fun _ _ _ _ _ h => h) (sK (fun _ _ _ _ _ h => h) (sK (fun _ _ _ _ _ h => h) (sK (fun _ _ _ _ _ h => h) (sK (fun _ _ _ _ _ h => h) (sK (fun _ _ _ _ _ h => h) (sK (fun _ _ _ _ _ h => h) (sZ)))))))))) PhiCo14.keepR PhiCo14.keepF (fun _ _ _ _ hR hS => Below.tr hS hR) (by rintro (_ | ⟨_, _ | _⟩) vs vs' w _ h <;> exact h) (fun _ => bD _) (fun vs => by simp only [fillR, Act.put, sA, sB, sC, Nat.zero_add, Nat.reduceAdd]; rfl) ?_ ?_
    ·refine sK ?_ (sK ?_ (sK ?_ (sK ?_ (sK ?_ (sK ?_ (sK ?_ (sK ?_ (sK ?_ (sZ)))))))))
     ·as_aux_lemma =>
      intro vs W hS hu hdep K hK; have HU := Lib.hid hu; clear hu; refine ⟨?_⟩; simp only [Act.put, sA, sB, sC, Nat.zero_add, Nat.reduceAdd] at hK ⊢; go_simp; with_reducible refine hK _ _ (Below.refl _ _) ?_
      exact rfl
     ·as_aux_lemma =>
      intro vs W hS hu hdep K hK; have HU := Lib.hid hu; clear hu; have d0 := hdep ⟨0, .data⟩ (by simp) rfl; simp only [PhiCo14] at d0; refine ⟨?_⟩; simp only [Act.put, sA, sB, sC, Nat.zero_add, Nat.reduceAdd, d0] at hK ⊢; go_simp; with_reducible refine hK _ _ (Below.refl _ _) ?_
      exact rfl
     ·as_aux_lemma =>
      intro vs W hS hu hdep K hK; have HU := Lib.hid hu; clear hu; have d0 := hdep ⟨1, .data⟩ (by simp) rfl; simp only [PhiCo14] at d0; have g1 := cell_keep hS cS; refine ⟨?_⟩; simp only [Act.put, sA, sB, sC, Nat.zero_add, Nat.reduceAdd, d0] at hK ⊢; go_simp; with_reducible refine hK _ _ (Below.refl _ _) ?_
      exact rfl
     ·as_aux_lemma =>
      intro vs W hS hu hdep K hK; have HU := Lib.hid hu; clear hu; refine ⟨?_⟩; simp only [Act.put, sA, sB, sC, Nat.zero_add, Nat.reduceAdd] at hK ⊢; go_simp; with_reducible refine hK _ _ (Below.refl _ _) ?_
      exact rfl
     ·as_aux_lemma =>
      intro vs W hS hu hdep K hK; have HU := Lib.hid hu; clear hu; have d0 := hdep ⟨3, .data⟩ (by simp) rfl; simp only [PhiCo14] at d0; refine ⟨?_⟩; simp only [Act.put, sA, sB, sC, Nat.zero_add, Nat.reduceAdd, d0] at hK ⊢; go_simp; with_reducible refine hK _ _ (Below.refl _ _) ?_
      exact rfl
     ·as_aux_lemma =>
      intro vs W hS hu hdep K hK; have HU := Lib.hid hu; clear hu; have d0 := hdep ⟨4, .data⟩ (by simp) rfl; simp only [PhiCo14] at d0; have g1 := cell_keep hS c6; refine ⟨?_⟩; simp only [Act.put, sA, sB, sC, Nat.zero_add, Nat.reduceAdd, d0] at hK ⊢; go_simp; with_reducible refine hK _ _ (Below.refl _ _) ?_
      exact rfl
     ·as_aux_lemma =>
      intro vs W hS hu hdep K hK; have HU := Lib.hid hu; clear hu; have d0 := hdep ⟨2, .data⟩ (by simp) rfl; simp only [PhiCo14] at d0; have d1 := hdep ⟨5, .data⟩ (by simp) rfl; simp only [PhiCo14] at d1; refine ⟨?_⟩; simp only [Act.put, sA, sB, sC, Nat.zero_add, Nat.reduceAdd, d0, d1] at hK ⊢; go_simp; with_reducible refine hK _ _ (Below.refl _ _) ?_
      exact (congrArg (Value.int .u32) (wv_add _ _))
     ·as_aux_lemma =>
      intro vs W hS hu hdep K hK; have HU := Lib.hid hu; clear hu; have d0 := hdep ⟨0, .data⟩ (by simp) rfl; simp only [PhiCo14] at d0; refine ⟨?_⟩; simp only [Act.put, sA, sB, sC, Nat.zero_add, Nat.reduceAdd, d0] at hK ⊢; go_simp; with_reducible refine hK _ _ (Below.refl _ _) ?_
      exact rfl
     ·as_aux_lemma =>
      intro vs W hS hdep K hK; have d0 := hdep ⟨7, .data⟩ (by simp) rfl (by rfl); simp only [PhiCo14] at d0; have d1 := hdep ⟨6, .data⟩ (by simp) rfl (by rfl); simp only [PhiCo14] at d1; have hS : Below wr.heap.size wr W := hS; have f1 := cell_keep hS cS; have f2 := (Blk.below BS hS BS.lt).frozen i; refine ⟨?_⟩; simp only [Act.put, sA, sB, sC, Nat.zero_add, Nat.reduceAdd, d0, d1] at hK ⊢; go_simp; with_reducible refine hK undef _ ?_
      exact ⟨_, hS, rfl⟩
    ·intro vs W hS _; have hS2 : SStore wr gS i (.int .u32 (wv (sw i + fr i))) [vs 8] vs W := hS; obtain ⟨W0, hb0, rfl⟩ := hS2; have h6 := (Blk.below H6.out hb0 H6.out.lt).far (p := ⟨gS, i, none⟩) (Ne.symm h6S) (.int .u32 (wv (sw i + fr i))); have h7 := (Blk.below H7.out hb0 H7.out.lt).far (p := ⟨gS, i, none⟩) (Ne.symm h7S) (.int .u32 (wv (sw i + fr i))); have hR := (Blk.below HR.out hb0 HR.out.lt).far (p := ⟨gS, i, none⟩) (Ne.symm hSR) (.int .u32 (wv (sw i + fr i))); have hSn := (Blk.below BS hb0 BS.lt).set_ i (.int .u32 (wv (sw i + fr i))); rw [arW_set] at hSn; have hbe := (Below.tr hbe hb0).setCell (p := ⟨gS, i, none⟩) hgeS (.int .u32 (wv (sw i + fr i))); obtain ⟨wx, Hwx⟩ : ∃ x, Hid (x = W0.setCell ⟨gS, i, none⟩ (.int .u32 (wv (sw i + fr i)))) := ⟨_, rfl⟩; rw [← Hwx.out] at h6 h7 hR hSn hbe ⊢; clear hS hb0 HR H6 H7 HS BS cS cM c6 c7 Hwx; have c7 : wx.cell? ⟨g7, i, none⟩ = some (.int .u32 (wv (fr4 i))) := by rw [h7.cell, arW_get hi]
     have cM : wx.cell? ⟨gS, m, none⟩ = some (.int .u32 (wv (sw m))) := by have := Hm.out; rw [hSn.cell, arW_get (by omega), if_neg (by omega), if_neg (by omega), if_neg (by omega), if_neg (by omega)]
     go_upto_region 15 with fail; refine region_chain [9] [.early, .early, .early, .early, .early, .early, .early, .early, .early, .chain 0] [] [] (PhiCo15 gS g7 i m (sw m) (fr4 i)) (fun w w' => Below w.heap.size w w') (SStore wx gS m (.int .u32 (wv (sw m + fr4 i)))) (by kernel_rfl) (by kernel_rfl) (by kernel_rfl) (by kernel_rfl) (sK (fun _ _ _ _ _ h => h) (sK (fun _ _ _ _ _ h => h) (sK (fun _ _ _ _ _ h => h) (sK (fun _ _ _ _ _ h => h) (sK (fun _ _ _ _ _ h => h) (sK (fun _ _ _ _ _ h => h) (sK (fun _ _ _ _ _ h => h) (sK (fun _ _ _ _ _ h => h) (sK (fun _ _ _ _ _ h => h) (sK (fun _ _ _ _ _ h => h) (sZ))))))))))) PhiCo15.keepR PhiCo15.keepF (fun _ _ _ _ hR hS => Below.tr hS hR) (by rintro (_ | ⟨_, _ | _⟩) vs vs' w _ h <;> exact h) (fun _ => bD _) (fun vs => by simp only [fillR, Act.put, sA, sB, sC, Nat.zero_add, Nat.reduceAdd]; rfl) ?_ ?_
     ·refine sK ?_ (sK ?_ (sK ?_ (sK ?_ (sK ?_ (sK ?_ (sK ?_ (sK ?_ (sK ?_ (sK ?_ (sZ))))))))))
      ·as_aux_lemma =>
       intro vs W hS hu hdep K hK; have HU := Lib.hid hu; clear hu; refine ⟨?_⟩; simp only [Act.put, sA, sB, sC, Nat.zero_add, Nat.reduceAdd] at hK ⊢; go_simp; with_reducible refine hK _ _ (Below.refl _ _) ?_
       exact rfl
      ·as_aux_lemma =>
       intro vs W hS hu hdep K hK; have HU := Lib.hid hu; clear hu; have d0 := hdep ⟨0, .data⟩ (by simp) rfl; simp only [PhiCo15] at d0; have g1 := hwm; refine ⟨?_⟩; simp only [Act.put, sA, sB, sC, Nat.zero_add, Nat.reduceAdd, d0] at hK ⊢; go_simp; with_reducible refine hK _ _ (Below.refl _ _) ?_
       exact rfl
      ·as_aux_lemma =>
       intro vs W hS hu hdep K hK; have HU := Lib.hid hu; clear hu; have d0 := hdep ⟨1, .data⟩ (by simp) rfl; simp only [PhiCo15] at d0; refine ⟨?_⟩; simp only [Act.put, sA, sB, sC, Nat.zero_add, Nat.reduceAdd, d0] at hK ⊢; go_simp; with_reducible refine hK _ _ (Below.refl _ _) ?_
       exact rfl
      ·as_aux_lemma =>
       intro vs W hS hu hdep K hK; have HU := Lib.hid hu; clear hu; have d0 := hdep ⟨2, .data⟩ (by simp) rfl; simp only [PhiCo15] at d0; have g1 := cell_keep hS cM; refine ⟨?_⟩; simp only [Act.put, sA, sB, sC, Nat.zero_add, Nat.reduceAdd, d0] at hK ⊢; go_simp; with_reducible refine hK _ _ (Below.refl _ _) ?_
       exact rfl
      ·as_aux_lemma =>
       intro vs W hS hu hdep K hK; have HU := Lib.hid hu; clear hu; refine ⟨?_⟩; simp only [Act.put, sA, sB, sC, Nat.zero_add, Nat.reduceAdd] at hK ⊢; go_simp; with_reducible refine hK _ _ (Below.refl _ _) ?_
       exact rfl
      ·as_aux_lemma =>
       intro vs W hS hu hdep K hK; have HU := Lib.hid hu; clear hu; have d0 := hdep ⟨4, .data⟩ (by simp) rfl; simp only [PhiCo15] at d0; refine ⟨?_⟩; simp only [Act.put, sA, sB, sC, Nat.zero_add, Nat.reduceAdd, d0] at hK ⊢; go_simp; with_reducible refine hK _ _ (Below.refl _ _) ?_
       exact rfl
      ·as_aux_lemma =>
       intro vs W hS hu hdep K hK; have HU := Lib.hid hu; clear hu; have d0 := hdep ⟨5, .data⟩ (by simp) rfl; simp only [PhiCo15] at d0; have g1 := cell_keep hS c7; refine ⟨?_⟩; simp only [Act.put, sA, sB, sC, Nat.zero_add, Nat.reduceAdd, d0] at hK ⊢; go_simp; with_reducible refine hK _ _ (Below.refl _ _) ?_
       exact rfl
      ·as_aux_lemma =>
       intro vs W hS hu hdep K hK; have HU := Lib.hid hu; clear hu; have d0 := hdep ⟨3, .data⟩ (by simp) rfl; simp only [PhiCo15] at d0; have d1 := hdep ⟨6, .data⟩ (by simp) rfl; simp only [PhiCo15] at d1; refine ⟨?_⟩; simp only [Act.put, sA, sB, sC, Nat.zero_add, Nat.reduceAdd, d0, d1] at hK ⊢; go_simp; with_reducible refine hK _ _ (Below.refl _ _) ?_
       exact (congrArg (Value.int .u32) (wv_add _ _))
      ·as_aux_lemma =>
       intro vs W hS hu hdep K hK; have HU := Lib.hid hu; clear hu; have d0 := hdep ⟨1, .data⟩ (by simp) rfl; simp only [PhiCo15] at d0; refine ⟨?_⟩; simp only [Act.put, sA, sB, sC, Nat.zero_add, Nat.reduceAdd, d0] at hK ⊢; go_simp; with_reducible refine hK _ _ (Below.refl _ _) ?_
       exact rfl
      ·as_aux_lemma =>
       intro vs W hS hdep K hK; have d0 := hdep ⟨8, .data⟩ (by simp) rfl (by rfl); simp only [PhiCo15] at d0; have d1 := hdep ⟨7, .data⟩ (by simp) rfl (by rfl); simp only [PhiCo15] at d1; have hS : Below wx.heap.size wx W := hS; have f1 := cell_keep hS cM; have f2 := (Blk.below hSn hS hSn.lt).frozen m; refine ⟨?_⟩; simp only [Act.put, sA, sB, sC, Nat.zero_add, Nat.reduceAdd, d0, d1] at hK ⊢; go_simp; with_reducible refine hK undef _ ?_
       exact ⟨_, hS, rfl⟩
     ·intro vs W hS _; have hS2 : SStore wx gS m (.int .u32 (wv (sw m + fr4 i))) [vs 9] vs W := hS; obtain ⟨W0, hb0, rfl⟩ := hS2; have h6 := (Blk.below h6 hb0 h6.lt).far (p := ⟨gS, m, none⟩) (Ne.symm h6S) (.int .u32 (wv (sw m + fr4 i))); have h7 := (Blk.below h7 hb0 h7.lt).far (p := ⟨gS, m, none⟩) (Ne.symm h7S) (.int .u32 (wv (sw m + fr4 i))); have hR := (Blk.below hR hb0 hR.lt).far (p := ⟨gS, m, none⟩) (Ne.symm hSR) (.int .u32 (wv (sw m + fr4 i))); have hSn := (Blk.below hSn hb0 hSn.lt).set_ m (.int .u32 (wv (sw m + fr4 i))); rw [arW_set] at hSn; have hbe := (Below.tr hbe hb0).setCell (p := ⟨gS, m, none⟩) hgeS (.int .u32 (wv (sw m + fr4 i)))
      rw [arW_congr (g := fun j => if j < i + 1 then sw j + fr j else if j < 4 then sw j else if j < 4 + (i + 1) then sw j + fr4 (j - 4) else sw j) (fun j hj => by
       have hm := Hm.out; by_cases h1 : j = m
       ·rw [if_pos h1, if_neg (by omega), if_neg (by omega), if_pos (by omega), h1, show m - 4 = i by omega]
       ·rw [if_neg h1]; by_cases h2 : j = i
        ·rw [if_pos h2, if_pos (by omega), h2]
        ·rw [if_neg h2]; by_cases h3 : j < i
         ·rw [if_pos h3, if_pos (by omega)]
         ·rw [if_neg h3, if_neg (show ¬ j < i + 1 by omega)]; by_cases h4 : j < 4
          ·rw [if_pos h4, if_pos h4]
          ·rw [if_neg h4, if_neg h4]; by_cases h5 : j < 4 + i
           ·rw [if_pos h5, if_pos (show j < 4 + (i + 1) by omega)]
           ·rw [if_neg h5, if_neg (show ¬ j < 4 + (i + 1) by omega)])] at hSn
      clear hS hb0 c7 cM; go_wp2_with fail
      go_roundg (G2 - 1)
      case measure => omega
      case rel => exact ⟨i + 1, by go_num, by omega, hSn, hR, h6, h7, hbe⟩
end Go.Proofs.YtijkfagkbfbpmaaGreatDoor
