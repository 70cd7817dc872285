import Derived.Test.YtmbfjmilhfmnkaaDoorKCntProof22
import Derived.Test.YtmbfjmilhfmnkaaDoorKCntProof17
import Derived.Test.YtmbfjmilhfmnkaaDoorS0
set_option linter.unusedVariables false
set_option linter.unusedSimpArgs false
namespace Go.Proofs.YtmbfjmilhfmnkaaDoor
open Go Go.RowKit
theorem info_ratio : (Tryd.prog.info? 28).map (fun i => (i.zero, i.size, i.bytes)) = some (some nilRat, 2, 48) := by kernel_rfl
theorem Rd.newC (w : World) (T : TypeId) (cs : List Value) : Rd (w.alloc (.cells cs.toArray T)) (some ⟨w.heap.size, 0, none⟩) cs := by
 intro _; refine ⟨_, _, rfl, fun i h => ?_⟩; rw [Nat.zero_add, (Blk.new w T cs.toArray).cell]; simp [h]
/-- a row of ratios of the call's own -/
def RatOwn (w : World) (base : Nat) (v : Value) (X : List LP) : Prop := ∃ ps : List (Value × Value), w.ownsRow base 28 2 v X.length (ps.flatMap prC) ∧ ps.length = X.length ∧ OwnAll NoL w v ∧ ∀ (i : Nat) p x, ps[i]? = some p → X[i]? = some x → RtP w (.agg #[p.1, p.2]) x
theorem RatOwn.below {w w' : World} {base : Nat} {v : Value} {X : List LP} (h : RatOwn w base v X) (hb : Below w.heap.size w w') : RatOwn w' base v X := by
 obtain ⟨ps, h1, h2, h3, h4⟩ := h; exact ⟨ps, own_below h1 hb, h2, h3.below hb (fun g hg => ownsRow_lt h1 g hg), fun i p x e1 e2 => (h4 i p x e1 e2).below hb⟩
theorem RatOwn.mono {w : World} {base base' : Nat} {v : Value} {X : List LP} (h : RatOwn w base v X) (hb : base' ≤ base) : RatOwn w base' v X := by
 obtain ⟨ps, h1, h2⟩ := h; exact ⟨ps, own_mono h1 hb, h2⟩
theorem RatOwn.nil (w : World) (base : Nat) : RatOwn w base (.slice none 0 0) [] :=
 ⟨[], World.ownsRow_nil _ _ _ _, rfl, OwnAll.nil, fun i p x h => by cases h⟩
theorem RatOwn.shp {w : World} {base : Nat} {v : Value} {X : List LP} (h : RatOwn w base v X) : ∃ A c, v = .slice A X.length c := by
 obtain ⟨ps, h1, _⟩ := h; exact own_shp h1
theorem RatOwn.ge {w : World} {base : Nat} {v : Value} {X : List LP} (h : RatOwn w base v X) : ∀ k, v.ownBlock = some k → base ≤ k := by
 obtain ⟨ps, h1, _⟩ := h; exact own_block_ge h1
theorem RatOwn.lt {w : World} {base : Nat} {v : Value} {X : List LP} (h : RatOwn w base v X) : ∀ k, v.ownBlock = some k → k < w.heap.size := by
 obtain ⟨ps, h1, _⟩ := h; exact ownsRow_lt h1
theorem RatOwn.row {w : World} {base : Nat} {A : Option Addr} {k c : Nat} {X : List LP} (h : RatOwn w base (.slice A k c) X) (hX : X.length ≤ 281474976710656) : RatRow w A k X := by
 obtain ⟨ps, h1, h2, h3, h4⟩ := h; obtain ⟨A', c', e, _⟩ := own_rowS (l := ps) (f := prC) prC_len (by omega) hX h1; injection e with e1 e2 e3; subst e1 e2 e3; exact ⟨ps, own_any prC_len (by omega) hX h1, h2, h4⟩
theorem RtP.grownBy {w w' : World} {v a : Value} {x : LP} (h : RtP w v x) (k : w.grownBy w' a.ownBlock) (hO : OwnAll NoL w a) : RtP w' v x := h.mapL fun _ _ _ hl => hl.grownBy k hO
theorem RtP.noL {w : World} {v1 v2 : Value} {x : LP} (h : RtP w (.agg #[v1, v2]) x) : (∀ u ∈ [v1, v2], NoL u) ∧ ∀ u ∈ [v1, v2], u.oneCell' = true := by
 obtain ⟨A1, k1, c1, A2, k2, c2, e⟩ := h.shape; simp only [Value.agg.injEq, Array.mk.injEq, List.cons.injEq, and_true] at e; obtain ⟨rfl, rfl⟩ := e
 constructor
 ·intro u hu; simp only [List.mem_cons, List.not_mem_nil, or_false] at hu
  rcases hu with rfl | rfl <;> (intro n e; cases e)
 ·intro u hu; simp only [List.mem_cons, List.not_mem_nil, or_false] at hu
  rcases hu with rfl | rfl <;> rfl
theorem nilRat_noL : ∀ x ∈ nilRat.cells.toList, NoL x := by
 intro x hx; have h : x ∈ [Value.slice none 0 0, Value.slice none 0 0] := hx; simp only [List.mem_cons, List.not_mem_nil, or_false] at h
 rcases h with rfl | rfl <;> (intro n e; cases e)
/-- one ratio more -/
theorem run_push (w : World) (ty : TypeId) (base : Nat) (v : Value) (X : List LP) (h : RatOwn w base v X) (A : Option Addr) (c : Nat) (v1 v2 : Value) (x : LP) (hx : RtP w (.agg #[v1, v2]) x) (hr : Rd w A [v1, v2]) (hX : X.length ≤ 1073741824) (hb : base ≤ w.heap.size) :
  ∃ v' w', (Builtin.append_ #[23, 23] ty #[v, .slice A 1 c]).run Tryd.prog w = .ok v' w' ∧ RatOwn w' base v' (X ++ [x]) ∧ w.grownBy w' v.ownBlock ∧ (v'.ownBlock = v.ownBlock ∨ v'.ownBlock = some w.heap.size) ∧ ∀ u y, RtP w u y → RtP w' u y := by
 obtain ⟨iR, hi, hz, hs, hby⟩ := info_parts info_ratio; obtain ⟨ps, h1, h2, h3, h4⟩ := h; obtain ⟨v', w', hrun, k1, k2, k3, k4⟩ := run_append_all (P := Tryd.prog) w NoL base 23 ty 28 iR nilRat 2 48 Tryd.underlying23 hi hz hs hby rfl (by omega) v X.length _ h1 A 1 c [v1, v2] rfl hr hx.noL.2 (by simp only [maxLen]; omega) (by omega) hb nilRat_noL hx.noL.1 h3; refine ⟨v', w', hrun, ⟨ps ++ [(v1, v2)], by rw [List.flatMap_append, List.length_append]; exact k1, by simp [h2], k4, ?_⟩, k2, k3, fun u y h => h.grownBy k2 h3⟩; intro i p y e1 e2; by_cases hi : i < ps.length
 ·rw [List.getElem?_append_left hi] at e1; rw [List.getElem?_append_left (by omega)] at e2; exact (h4 i p y e1 e2).grownBy k2 h3
 ·have hi' : i = ps.length := by
   have := (List.getElem?_eq_some_iff.1 e1).1; simp at this; omega
  subst hi'; rw [List.getElem?_append_right (by omega), Nat.sub_self] at e1; rw [h2, List.getElem?_append_right (by omega), Nat.sub_self] at e2; simp only [List.getElem?_cons_zero, Option.some.injEq] at e1 e2; subst e1 e2; exact hx.grownBy k2 h3
theorem wp_push {o : Oper} {a : Act} {w : World} {K : Act → World → Prop} {Q : Exit → Act → World → Prop} (s x : Operand) (ho : o.op = .call { callee := .builtin .append, args := #[s, x], argTypes := #[23, 23] })
  (base : Nat) (v : Value) (X : List LP) (hs : a.eval s = v) (h : RatOwn w base v X) (A : Option Addr) (c : Nat) (v1 v2 : Value) (y : LP) (hx : a.eval x = .slice A 1 c) (hy : RtP w (.agg #[v1, v2]) y) (hr : Rd w A [v1, v2]) (hX : X.length ≤ 1073741824) (hb : base ≤ w.heap.size)
  (hK : ∀ v' w', RatOwn w' base v' (X ++ [y]) → w.grownBy w' v.ownBlock → (v'.ownBlock = v.ownBlock ∨ v'.ownBlock = some w.heap.size) → (∀ u z, RtP w u z → RtP w' u z) → K (a.put o.dst v') w') : o.wp Tryd.prog a w K Q := by
 obtain ⟨v', w', hrun, h2, h3, h4, h5⟩ := run_push w o.type base v X h A c v1 v2 y hy hr hX hb; unfold Oper.wp execOp; simp only [ho, resolve, invoke, builtin, Sem.run_bind, Sem.run_pure, Result.andThen_ok, List.map_toArray, List.map_cons, List.map_nil, hs, hx, hrun]; exact hK _ _ h2 h3 h4 h5
theorem wpList_push {ops : Array Oper} {rest : List Oper} {o : Oper} {a : Act} {w : World} {Q : Exit → Act → World → Prop} (hgd : o.guard = none) (s x : Operand) (ho : o.op = .call { callee := .builtin .append, args := #[s, x], argTypes := #[23, 23] })
  (base : Nat) (v : Value) (X : List LP) (hs : a.eval s = v) (h : RatOwn w base v X) (A : Option Addr) (c : Nat) (v1 v2 : Value) (y : LP) (hx : a.eval x = .slice A 1 c) (hy : RtP w (.agg #[v1, v2]) y) (hr : Rd w A [v1, v2]) (hX : X.length ≤ 1073741824) (hb : base ≤ w.heap.size)
  (hK : ∀ v' w', RatOwn w' base v' (X ++ [y]) → w.grownBy w' v.ownBlock → (v'.ownBlock = v.ownBlock ∨ v'.ownBlock = some w.heap.size) → (∀ u z, RtP w u z → RtP w' u z) → wpList Tryd.prog ops Q rest (a.put o.dst v') w') : wpList Tryd.prog ops Q (o :: rest) a w :=
 wpList_plain hgd fun _ hK2 => wp_push s x ho base v X hs h A c v1 v2 y hx hy hr hX hb fun v' w' h1 h2 h3 h4 => hK2 _ _ (hK v' w' h1 h2 h3 h4)
/-- a made row of one ratio -/
theorem RatOwn.one {w : World} {v1 v2 : Value} {x : LP} (hx : RtP w (.agg #[v1, v2]) x) : RatOwn (w.alloc (.cells #[v1, v2] 28)) w.heap.size (.slice (some ⟨w.heap.size, 0, none⟩) 1 1) [x] := by
 have hb := bA w (.cells #[v1, v2] 28); refine ⟨[(v1, v2)], ⟨rfl, .inr ⟨_, 1, #[v1, v2], rfl, Nat.le_refl _, heap_alloc_new w _, Nat.le_refl _, by unfold maxLen; omega, rfl, rfl⟩⟩, rfl, OwnAll.blk (Blk.new w _ _) hx.noL.1, ?_⟩; intro i p y e1 e2
 rcases i with _ | i
 ·simp only [List.getElem?_cons_zero, Option.some.injEq] at e1 e2; subst e1 e2; exact hx.below hb
 ·simp at e1
end Go.Proofs.YtmbfjmilhfmnkaaDoor
namespace Go.Proofs.YtmbfjmilhfmnkaaDoor
open Go Go.RowKit
def AllRt (w : World) : List (Value × Value) → List LP → Prop
 | [], [] => True
 | p :: ps, x :: xs => RtP w (.agg #[p.1, p.2]) x ∧ AllRt w ps xs
 | _, _ => False
theorem AllRt.len {w : World} : ∀ {ps : List (Value × Value)} {xs : List LP}, AllRt w ps xs → ps.length = xs.length
 | [], [], _ => rfl
 | p :: ps, x :: xs, h => by rw [List.length_cons, List.length_cons, AllRt.len h.2]
 | [], x :: xs, h => absurd h (by simp [AllRt])
 | p :: ps, [], h => absurd h (by simp [AllRt])
theorem AllRt.get {w : World} : ∀ {ps : List (Value × Value)} {xs : List LP}, AllRt w ps xs → ∀ (i : Nat) p x, ps[i]? = some p → xs[i]? = some x → RtP w (.agg #[p.1, p.2]) x
 | [], [], _, i, p, x, h1, _ => by simp at h1
 | q :: ps, y :: xs, h, i, p, x, h1, h2 => by
  rcases i with _ | i
  ·simp only [List.getElem?_cons_zero, Option.some.injEq] at h1 h2; subst h1 h2; exact h.1
  ·simp only [List.getElem?_cons_succ] at h1 h2; exact AllRt.get h.2 i p x h1 h2
 | [], x :: xs, h, _, _, _, _, _ => absurd h (by simp [AllRt])
 | p :: ps, [], h, _, _, _, _, _ => absurd h (by simp [AllRt])
theorem ratRow_new {w : World} (T : TypeId) (ps : List (Value × Value)) (X : List LP) (h : AllRt w ps X) (hk : ps.length ≤ 1048576) : RatRow (w.alloc (.cells (ps.flatMap prC).toArray T)) (some ⟨w.heap.size, 0, none⟩) ps.length X :=
 ⟨ps, ⟨Rd.newC _ _ _, rfl, by omega⟩, h.len, fun i p x e1 e2 => (h.get i p x e1 e2).below (bA _ _)⟩
theorem fill_r7 (P0 Q0 P1 Q1 P2 Q2 P3 Q3 P4 Q4 P5 Q5 P6 Q6 : Option Addr) (p0 s0 q0 t0 p1 s1 q1 t1 p2 s2 q2 t2 p3 s3 q3 t3 p4 s4 q4 t4 p5 s5 q5 t5 p6 s6 q6 t6 : Nat) : Instr.fill (fun i => some (i * 2, 2)) ((Array.range (7 * 2)).map (nilRat.cells[· % nilRat.cells.size]!)) [(0, .agg #[.slice P0 p0 s0, .slice Q0 q0 t0]), (1, .agg #[.slice P1 p1 s1, .slice Q1 q1 t1]), (2, .agg #[.slice P2 p2 s2, .slice Q2 q2 t2]), (3, .agg #[.slice P3 p3 s3, .slice Q3 q3 t3]), (4, .agg #[.slice P4 p4 s4, .slice Q4 q4 t4]), (5, .agg #[.slice P5 p5 s5, .slice Q5 q5 t5]), (6, .agg #[.slice P6 p6 s6, .slice Q6 q6 t6])] = some #[.slice P0 p0 s0, .slice Q0 q0 t0, .slice P1 p1 s1, .slice Q1 q1 t1, .slice P2 p2 s2, .slice Q2 q2 t2, .slice P3 p3 s3, .slice Q3 q3 t3, .slice P4 p4 s4, .slice Q4 q4 t4, .slice P5 p5 s5, .slice Q5 q5 t5, .slice P6 p6 s6, .slice Q6 q6 t6] := by kernel_rfl
theorem rpart_X (n d : Int) (w : World) (h1 : isI64 n) (h2 : isI64 d) : Calls Tryd.prog 17 #[.int .i64 n, .int .i64 d] w fun e w' => ∃ v, e = .returned v ∧ (∃ x, RtP w' v x) ∧ Below w.heap.size w w' := by
 refine (rpart_n n d w h1.1 h1.2 h2.1 h2.2).mono ?_; rintro e w' ⟨v, p, q, rfl, h, _, _, _, hb⟩; exact ⟨v, rfl, ⟨_, h.rtP⟩, hb⟩
theorem rspoilt_X (va : Value) (p q : Nat) (how by_ : Int) (w : World) (ha : Rat w va p q) (ga : Nm.Good p q) (h1 : isI64 how) (h2 : isI64 by_) : Calls Tryd.prog 40 #[va, .int .i64 how, .int .i64 by_] w fun e w' => ∃ v, e = .returned v ∧ (∃ x, RtP w' v x) ∧ Below w.heap.size w w' := by
 refine (spoilt_n va p q how by_ w ha ga h1.1 h1.2 h2.1 h2.2).mono ?_; rintro e w' ⟨v, m1, m2, rfl, h, _, _, hb⟩; exact ⟨v, rfl, ⟨(m1, m2), h⟩, hb⟩
theorem raw_rt {w : World} {A A' : Option Addr} {c c' m m' : Nat} {l l' : List Nat} (h : Lim w A c l) (h' : Lim w A' c' l') (hm : m = min l.length 70) (hm' : m' = min l'.length 70) : RtP w (.agg #[.slice A m c, .slice A' m' c']) (l.take m, l'.take m') :=
 ⟨_, _, _, _, _, _, rfl, h.take_ m (by omega), h'.take_ m' (by omega), by rw [List.length_take]; omega, by rw [List.length_take]; omega⟩
def PhiSo (a1 a2 b1 b2 : Value) (n m how by_ : Int) (A4 A5 : Option Addr) (k4 c4 m4 k5 c5 m5 : Nat) (j : Nat) (w : World) (x : Value) : Prop :=
 match j with
 | 0 => x = .agg #[a1, a2]
 | 1 => x = .int .i64 n
 | 2 => x = .int .i64 m
 | 3 => ∃ X, RtP w x X
 | 4 => x = .agg #[b1, b2]
 | 5 => x = .agg #[a1, a2]
 | 6 => x = .int .i64 how
 | 7 => x = .int .i64 by_
 | 8 => ∃ X, RtP w x X
 | 9 => x = .agg #[b1, b2]
 | 10 => x = .int .i64 by_
 | 11 => x = .int .i64 how
 | 12 => ∃ X, RtP w x X
 | 13 => x = .slice A4 k4 c4
 | 14 => x = .slice A4 k4 c4
 | 15 => x = .int .i64 (k4 : Nat)
 | 16 => x = .int .i64 (m4 : Nat)
 | 17 => x = .slice A4 m4 c4
 | 18 => x = .slice A5 k5 c5
 | 19 => x = .slice A5 k5 c5
 | 20 => x = .int .i64 (k5 : Nat)
 | 21 => x = .int .i64 (m5 : Nat)
 | 22 => x = .slice A5 m5 c5
 | 23 => x = .agg #[.slice A4 m4 c4, .slice A5 m5 c5]
 | 24 => x = nilRat
 | 25 => ∃ g xs, x = .slice (some ⟨g, 0, none⟩) 7 7 ∧ RatRow w (some ⟨g, 0, none⟩) 7 xs
 | 26 => ∃ g xs, x = .slice (some ⟨g, 0, none⟩) 7 7 ∧ RatRow w (some ⟨g, 0, none⟩) 7 xs
 | _ => True

theorem PhiSo.keep {a1 a2 b1 b2 : Value} {n m how by_ : Int} {A4 A5 : Option Addr} {k4 c4 m4 k5 c5 m5 : Nat} : ∀ (w w' : World), Below w.heap.size w w' → ∀ j x, PhiSo a1 a2 b1 b2 n m how by_ A4 A5 k4 c4 m4 k5 c5 m5 j w x → PhiSo a1 a2 b1 b2 n m how by_ A4 A5 k4 c4 m4 k5 c5 m5 j w' x := by
 intro w w' hb j x h; unfold PhiSo at h ⊢
 split <;> simp only at h ⊢
 all_goals first
  | exact h
  | (obtain ⟨X, h⟩ := h; exact ⟨X, h.below hb⟩)
  | (obtain ⟨g, qs, e, h⟩ := h; exact ⟨g, qs, e, h.below hb⟩)
set_option maxRecDepth 100000 in
set_option maxHeartbeats 4000000 in
theorem some_n (n m how by_ : Int) (A4 : Option Addr) (k4 c4 : Nat) (A5 : Option Addr) (k5 c5 : Nat) (l4 l5 : List Nat) (w : World) (hin : isI64 n) (him : isI64 m) (hih : isI64 how) (hib : isI64 by_) (hl4 : Lim w A4 c4 l4) (hk4 : k4 = l4.length) (hl5 : Lim w A5 c5 l5) (hk5 : k5 = l5.length) :
  Calls Tryd.prog 9 #[.int .i64 n, .int .i64 m, .int .i64 how, .int .i64 by_, .slice A4 k4 c4, .slice A5 k5 c5] w fun e w' => ∃ g xs, e = .returned (.slice (some ⟨g, 0, none⟩) 7 7) ∧ RatRow w' (some ⟨g, 0, none⟩) 7 xs ∧ xs.length = 7 ∧ Below w.heap.size w w' := by
 obtain ⟨iR, hiR, hzR, hzR1, hzR2⟩ := info_parts info_ratio; have HIN := Lib.hid hin; have HIM := Lib.hid him; have HL4 := Lib.hid hl4; have HL5 := Lib.hid hl5; have HK4 := Lib.hid hk4; have HK5 := Lib.hid hk5; clear hl4 hl5 hk4 hk5
 go_enter Tryd.func9, Tryd.ntmps9
 go_wp2_with fail; refine (rmade_n n m _ hin.1 hin.2 him.1 him.2).mono ?_; rintro e w1 ⟨va, pa, qa, rfl, hra, ga, hb1⟩; obtain ⟨P0, p0, s0, Q0, q0, t0, rfl⟩ := hra.shape; go_upto_region 2 with fail; refine wp_name ?_; intro w2 HW; have hb2 : Below w1.heap.size w1 w2 := by rw [HW.out]; exact bA _ _
 have hB : Blk w2 w1.heap.size 28 #[.slice P0 p0 s0, .slice Q0 q0 t0] := by rw [HW.out]; exact Blk.new _ _ _
 obtain ⟨ga_, hga⟩ : ∃ g, Hid (g = w1.heap.size) := ⟨_, rfl⟩; rw [← hga.out] at hB ⊢; have ha0 := hB.cell 0; have ha1 := hB.cell 1; simp only [List.getElem?_toArray, List.getElem?_cons_zero, List.getElem?_cons_succ] at ha0 ha1; have hra := hra.below hb2; have hbw := Below.tr hb1 hb2; clear HW hB hga hb1 hb2; go_wp2_with fail; refine (large_n m n _ HIM.out HIN.out).mono ?_; rintro e w3 ⟨vb, pb, qb, rfl, hrb, gb, hb3⟩; obtain ⟨P2, p2, s2, Q2, q2, t2, rfl⟩ := hrb.shape; have hra := hra.below hb3; have ha0 := cell_keep hb3 ha0; have ha1 := cell_keep hb3 ha1; have hbw := Below.tr hbw hb3; clear hb3; go_upto_region 3 with fail; refine wp_name ?_; intro w4 HW; have hb4 : Below w3.heap.size w3 w4 := by rw [HW.out]; exact bA _ _
 have hB : Blk w4 w3.heap.size 28 #[.slice P2 p2 s2, .slice Q2 q2 t2] := by rw [HW.out]; exact Blk.new _ _ _
 obtain ⟨gb_, hgb⟩ : ∃ g, Hid (g = w3.heap.size) := ⟨_, rfl⟩; rw [← hgb.out] at hB ⊢; have hb0 := hB.cell 0; have hb1 := hB.cell 1; simp only [List.getElem?_toArray, List.getElem?_cons_zero, List.getElem?_cons_succ] at hb0 hb1; have hra := hra.below hb4; have hrb := hrb.below hb4; have ha0 := cell_keep hb4 ha0; have ha1 := cell_keep hb4 ha1; have hbw := Below.tr hbw hb4; clear HW hB hgb hb4; have hl4 := HL4.out.below hbw; have hl5 := HL5.out.below hbw; have hk4 := HK4.out; have hk5 := HK5.out; obtain ⟨m4, hm4⟩ : ∃ m : Nat, m = min l4.length 70 := ⟨_, rfl⟩; obtain ⟨m5, hm5⟩ : ∃ m : Nat, m = min l5.length 70 := ⟨_, rfl⟩; have x4 : min (k4 : Int) 70 = (m4 : Int) := by omega
 have x5 : min (k5 : Int) 70 = (m5 : Int) := by omega
 have y4 : m4 ≤ c4 := by have := hl4.2.1; omega
 have y5 : m5 ≤ c5 := by have := hl5.2.1; omega
 have z4 : c4 ≤ 9223372036854775807 := hl4.2.2.1; have z5 : c5 ≤ 9223372036854775807 := hl5.2.2.1
 replace hm4 := Lib.hid hm4
 replace hm5 := Lib.hid hm5
 clear hk4 hk5; refine region_invF (PhiSo (.slice P0 p0 s0) (.slice Q0 q0 t0) (.slice P2 p2 s2) (.slice Q2 q2 t2) n m how by_ A4 A5 k4 c4 m4 k5 c5 m5) (fun w w' => Below w.heap.size w w') (fun W => Below w4.heap.size w4 W) (by kernel_rfl) (by kernel_rfl) (by kernel_rfl) PhiSo.keep (fun _ _ hR hS => Below.tr hS hR) (bD _) (fun vs => by simp only [fillR, Act.put, sA, sB, sC, Nat.zero_add, Nat.reduceAdd]; rfl) ?_ ?_
 ·refine sK ?_ (sK ?_ (sK ?_ (sK ?_ (sK ?_ (sK ?_ (sK ?_ (sK ?_ (sK ?_ (sK ?_ (sK ?_ (sK ?_ (sK ?_ (sK ?_ (sK ?_ (sK ?_ (sK ?_ (sK ?_ (sK ?_ (sK ?_ (sK ?_ (sK ?_ (sK ?_ (sK ?_ (sK ?_ (sK ?_ (sK ?_ (sZ)))))))))))))))))))))))))))
  ·as_aux_lemma =>
   intro vs W hS hdep K hK; have f1 := cell_keep hS ha0; have f2 := cell_keep hS ha1; refine ⟨?_⟩; simp only [Act.put, sA, sB, sC, Nat.zero_add, Nat.reduceAdd] at hK ⊢; go_simp; with_reducible refine hK _ _ (Below.refl _ _) ?_
   exact rfl
  ·as_aux_lemma =>
   intro vs W hS hdep K hK; refine ⟨?_⟩; simp only [Act.put, sA, sB, sC, Nat.zero_add, Nat.reduceAdd] at hK ⊢; go_simp; with_reducible refine hK _ _ (Below.refl _ _) ?_
   exact rfl
  ·as_aux_lemma =>
   intro vs W hS hdep K hK; refine ⟨?_⟩; simp only [Act.put, sA, sB, sC, Nat.zero_add, Nat.reduceAdd] at hK ⊢; go_simp; with_reducible refine hK _ _ (Below.refl _ _) ?_
   exact rfl
  ·as_aux_lemma =>
   intro vs W hS hdep K hK; have d0 := hdep ⟨1, .data⟩ (by simp) rfl; simp only [PhiSo] at d0; have d1 := hdep ⟨2, .data⟩ (by simp) rfl; simp only [PhiSo] at d1; refine ⟨?_⟩; simp only [Act.put, sA, sB, sC, Nat.zero_add, Nat.reduceAdd, d0, d1] at hK ⊢; go_simp; refine (rpart_X n m _ hin him).mono ?_; rintro e w' ⟨v, rfl, hv, hb⟩; go_wp2_with fail; with_reducible refine hK _ _ hb ?_
   exact hv
  ·as_aux_lemma =>
   intro vs W hS hdep K hK; have f1 := cell_keep hS hb0; have f2 := cell_keep hS hb1; refine ⟨?_⟩; simp only [Act.put, sA, sB, sC, Nat.zero_add, Nat.reduceAdd] at hK ⊢; go_simp; with_reducible refine hK _ _ (Below.refl _ _) ?_
   exact rfl
  ·as_aux_lemma =>
   intro vs W hS hdep K hK; have f1 := cell_keep hS ha0; have f2 := cell_keep hS ha1; refine ⟨?_⟩; simp only [Act.put, sA, sB, sC, Nat.zero_add, Nat.reduceAdd] at hK ⊢; go_simp; with_reducible refine hK _ _ (Below.refl _ _) ?_
   exact rfl
  ·as_aux_lemma =>
   intro vs W hS hdep K hK; refine ⟨?_⟩; simp only [Act.put, sA, sB, sC, Nat.zero_add, Nat.reduceAdd] at hK ⊢; go_simp; with_reducible refine hK _ _ (Below.refl _ _) ?_
   exact rfl
  ·as_aux_lemma =>
   intro vs W hS hdep K hK; refine ⟨?_⟩; simp only [Act.put, sA, sB, sC, Nat.zero_add, Nat.reduceAdd] at hK ⊢; go_simp; with_reducible refine hK _ _ (Below.refl _ _) ?_
   exact rfl
  ·as_aux_lemma =>
   intro vs W hS hdep K hK; have d0 := hdep ⟨5, .data⟩ (by simp) rfl; simp only [PhiSo] at d0; have d1 := hdep ⟨6, .data⟩ (by simp) rfl; simp only [PhiSo] at d1; have d2 := hdep ⟨7, .data⟩ (by simp) rfl; simp only [PhiSo] at d2; refine ⟨?_⟩; simp only [Act.put, sA, sB, sC, Nat.zero_add, Nat.reduceAdd, d0, d1, d2] at hK ⊢; go_simp; refine (rspoilt_X _ pa qa how by_ _ (hra.below hS) ga hih hib).mono ?_; rintro e w' ⟨v, rfl, hv, hb⟩; go_wp2_with fail; with_reducible refine hK _ _ hb ?_
   exact hv
  ·as_aux_lemma =>
   intro vs W hS hdep K hK; have f1 := cell_keep hS hb0; have f2 := cell_keep hS hb1; refine ⟨?_⟩; simp only [Act.put, sA, sB, sC, Nat.zero_add, Nat.reduceAdd] at hK ⊢; go_simp; with_reducible refine hK _ _ (Below.refl _ _) ?_
   exact rfl
  ·as_aux_lemma =>
   intro vs W hS hdep K hK; refine ⟨?_⟩; simp only [Act.put, sA, sB, sC, Nat.zero_add, Nat.reduceAdd] at hK ⊢; go_simp; with_reducible refine hK _ _ (Below.refl _ _) ?_
   exact rfl
  ·as_aux_lemma =>
   intro vs W hS hdep K hK; refine ⟨?_⟩; simp only [Act.put, sA, sB, sC, Nat.zero_add, Nat.reduceAdd] at hK ⊢; go_simp; with_reducible refine hK _ _ (Below.refl _ _) ?_
   exact rfl
  ·as_aux_lemma =>
   intro vs W hS hdep K hK; have d0 := hdep ⟨9, .data⟩ (by simp) rfl; simp only [PhiSo] at d0; have d1 := hdep ⟨10, .data⟩ (by simp) rfl; simp only [PhiSo] at d1; have d2 := hdep ⟨11, .data⟩ (by simp) rfl; simp only [PhiSo] at d2; refine ⟨?_⟩; simp only [Act.put, sA, sB, sC, Nat.zero_add, Nat.reduceAdd, d0, d1, d2] at hK ⊢; go_simp; refine (rspoilt_X _ pb qb by_ how _ (hrb.below hS) gb hib hih).mono ?_; rintro e w' ⟨v, rfl, hv, hb⟩; go_wp2_with fail; with_reducible refine hK _ _ hb ?_
   exact hv
  ·as_aux_lemma =>
   intro vs W hS hdep K hK; refine ⟨?_⟩; simp only [Act.put, sA, sB, sC, Nat.zero_add, Nat.reduceAdd] at hK ⊢; go_simp; with_reducible refine hK _ _ (Below.refl _ _) ?_
   exact rfl
  ·as_aux_lemma =>
   intro vs W hS hdep K hK; refine ⟨?_⟩; simp only [Act.put, sA, sB, sC, Nat.zero_add, Nat.reduceAdd] at hK ⊢; go_simp; with_reducible refine hK _ _ (Below.refl _ _) ?_
   exact rfl
  ·as_aux_lemma =>
   intro vs W hS hdep K hK; have d0 := hdep ⟨14, .data⟩ (by simp) rfl; simp only [PhiSo] at d0; refine ⟨?_⟩; simp only [Act.put, sA, sB, sC, Nat.zero_add, Nat.reduceAdd, d0] at hK ⊢; go_simp; with_reducible refine hK _ _ (Below.refl _ _) ?_
   exact rfl
  ·as_aux_lemma =>
   intro vs W hS hdep K hK; have d0 := hdep ⟨15, .data⟩ (by simp) rfl; simp only [PhiSo] at d0; refine ⟨?_⟩; simp only [Act.put, sA, sB, sC, Nat.zero_add, Nat.reduceAdd, d0] at hK ⊢; go_simp; with_reducible refine hK _ _ (Below.refl _ _) ?_
   exact rfl
  ·as_aux_lemma =>
   intro vs W hS hdep K hK; have d0 := hdep ⟨13, .data⟩ (by simp) rfl; simp only [PhiSo] at d0; have d1 := hdep ⟨16, .data⟩ (by simp) rfl; simp only [PhiSo] at d1; refine ⟨?_⟩; simp only [Act.put, sA, sB, sC, Nat.zero_add, Nat.reduceAdd, d0, d1] at hK ⊢; go_simp; with_reducible refine hK _ _ (Below.refl _ _) ?_
   exact rfl
  ·as_aux_lemma =>
   intro vs W hS hdep K hK; refine ⟨?_⟩; simp only [Act.put, sA, sB, sC, Nat.zero_add, Nat.reduceAdd] at hK ⊢; go_simp; with_reducible refine hK _ _ (Below.refl _ _) ?_
   exact rfl
  ·as_aux_lemma =>
   intro vs W hS hdep K hK; refine ⟨?_⟩; simp only [Act.put, sA, sB, sC, Nat.zero_add, Nat.reduceAdd] at hK ⊢; go_simp; with_reducible refine hK _ _ (Below.refl _ _) ?_
   exact rfl
  ·as_aux_lemma =>
   intro vs W hS hdep K hK; have d0 := hdep ⟨19, .data⟩ (by simp) rfl; simp only [PhiSo] at d0; refine ⟨?_⟩; simp only [Act.put, sA, sB, sC, Nat.zero_add, Nat.reduceAdd, d0] at hK ⊢; go_simp; with_reducible refine hK _ _ (Below.refl _ _) ?_
   exact rfl
  ·as_aux_lemma =>
   intro vs W hS hdep K hK; have d0 := hdep ⟨20, .data⟩ (by simp) rfl; simp only [PhiSo] at d0; refine ⟨?_⟩; simp only [Act.put, sA, sB, sC, Nat.zero_add, Nat.reduceAdd, d0] at hK ⊢; go_simp; with_reducible refine hK _ _ (Below.refl _ _) ?_
   exact rfl
  ·as_aux_lemma =>
   intro vs W hS hdep K hK; have d0 := hdep ⟨18, .data⟩ (by simp) rfl; simp only [PhiSo] at d0; have d1 := hdep ⟨21, .data⟩ (by simp) rfl; simp only [PhiSo] at d1; refine ⟨?_⟩; simp only [Act.put, sA, sB, sC, Nat.zero_add, Nat.reduceAdd, d0, d1] at hK ⊢; go_simp; with_reducible refine hK _ _ (Below.refl _ _) ?_
   exact rfl
  ·as_aux_lemma =>
   intro vs W hS hdep K hK; have d0 := hdep ⟨17, .data⟩ (by simp) rfl; simp only [PhiSo] at d0; have d1 := hdep ⟨22, .data⟩ (by simp) rfl; simp only [PhiSo] at d1; refine ⟨?_⟩; simp only [Act.put, sA, sB, sC, Nat.zero_add, Nat.reduceAdd, d0, d1] at hK ⊢; go_simp; with_reducible refine hK _ _ (Below.refl _ _) ?_
   exact rfl
  ·as_aux_lemma =>
   intro vs W hS hdep K hK; refine ⟨?_⟩; simp only [Act.put, sA, sB, sC, Nat.zero_add, Nat.reduceAdd] at hK ⊢; go_simp; with_reducible refine hK _ _ (Below.refl _ _) ?_
   exact rfl
  ·as_aux_lemma =>
   intro vs W hS hdep K hK; have d0 := hdep ⟨0, .data⟩ (by simp) rfl; simp only [PhiSo] at d0; have d1 := hdep ⟨3, .data⟩ (by simp) rfl; simp only [PhiSo] at d1; refine @exE1 _ _ _ d1 ?_; clear d1; intro X1 d1; have h1 := d1; clear d1; have d2 := hdep ⟨4, .data⟩ (by simp) rfl; simp only [PhiSo] at d2; have d3 := hdep ⟨8, .data⟩ (by simp) rfl; simp only [PhiSo] at d3; refine @exE1 _ _ _ d3 ?_; clear d3; intro X3 d3; have h3 := d3; clear d3; have d4 := hdep ⟨12, .data⟩ (by simp) rfl; simp only [PhiSo] at d4; refine @exE1 _ _ _ d4 ?_; clear d4; intro X4 d4; have h4 := d4; clear d4; have d5 := hdep ⟨23, .data⟩ (by simp) rfl; simp only [PhiSo] at d5; have d6 := hdep ⟨24, .data⟩ (by simp) rfl; simp only [PhiSo] at d6; obtain ⟨P1, p1, s1, Q1, q1, t1, e1⟩ := h1.shape; rw [e1] at h1; obtain ⟨P3, p3, s3, Q3, q3, t3, e3⟩ := h3.shape; rw [e3] at h3; obtain ⟨P4, p4, s4, Q4, q4, t4, e4⟩ := h4.shape; rw [e4] at h4; have HR := Lib.hid (ratRow_new 28 [(.slice P0 p0 s0, .slice Q0 q0 t0), (.slice P1 p1 s1, .slice Q1 q1 t1), (.slice P2 p2 s2, .slice Q2 q2 t2), (.slice P3 p3 s3, .slice Q3 q3 t3), (.slice P4 p4 s4, .slice Q4 q4 t4), (.slice A4 m4 c4, .slice A5 m5 c5), (.slice none 0 0, .slice none 0 0)] [ratP pa qa, X1, ratP pb qb, X3, X4, (l4.take m4, l5.take m5), nilP] ⟨(hra.below hS).rtP, h1, (hrb.below hS).rtP, h3, h4, raw_rt (hl4.below hS) (hl5.below hS) hm4.out hm5.out, nil_rtP _, trivial⟩ (by simp)); clear h1 h3 h4; refine ⟨?_⟩; simp only [Act.put, sA, sB, sC, Nat.zero_add, Nat.reduceAdd, d0, e1, d2, e3, e4, d5, d6] at hK ⊢
   rw [if_pos (by rfl)]; refine wp_sliceN 23 28 7 [(0, .tmp 21), (1, .tmp 24), (2, .tmp 25), (3, .tmp 29), (4, .tmp 33), (5, .tmp 44), (6, .tmp 45)] rfl #[.slice P0 p0 s0, .slice Q0 q0 t0, .slice P1 p1 s1, .slice Q1 q1 t1, .slice P2 p2 s2, .slice Q2 q2 t2, .slice P3 p3 s3, .slice Q3 q3 t3, .slice P4 p4 s4, .slice Q4 q4 t4, .slice A4 m4 c4, .slice A5 m5 c5, .slice none 0 0, .slice none 0 0] iR nilRat 2 [(0, .agg #[.slice P0 p0 s0, .slice Q0 q0 t0]), (1, .agg #[.slice P1 p1 s1, .slice Q1 q1 t1]), (2, .agg #[.slice P2 p2 s2, .slice Q2 q2 t2]), (3, .agg #[.slice P3 p3 s3, .slice Q3 q3 t3]), (4, .agg #[.slice P4 p4 s4, .slice Q4 q4 t4]), (5, .agg #[.slice A4 m4 c4, .slice A5 m5 c5]), (6, .agg #[.slice none 0 0, .slice none 0 0])] Tryd.underlying23 hiR hzR hzR1 (by omega) (by omega) rfl (fill_r7 _ _ _ _ _ _ _ _ _ _ _ _ _ _ _ _ _ _ _ _ _ _ _ _ _ _ _ _ _ _ _ _ _ _ _ _ _ _ _ _ _ _) ?_; simp only [Act.put, sA, sB, sC]; with_reducible refine hK _ _ (bA _ _) ?_
   exact ⟨_, _, rfl, HR.out⟩
  ·as_aux_lemma =>
   intro vs W hS hdep K hK; have d0 := hdep ⟨25, .data⟩ (by simp) rfl; simp only [PhiSo] at d0; refine @exE2 _ _ _ _ d0 ?_; clear d0; intro g0 q0 d0; have e0 := d0.1; have n0 := d0.2; clear d0; refine ⟨?_⟩; simp only [Act.put, sA, sB, sC, Nat.zero_add, Nat.reduceAdd, e0] at hK ⊢; go_simp; with_reducible refine hK _ _ (Below.refl _ _) ?_
   exact ⟨_, _, rfl, n0⟩
 ·intro vs W hS hv; have v26 := hv 26 (by simp); simp only [PhiSo] at v26; obtain ⟨g, xs, e26, hr⟩ := v26; clear hv; simp only [Act.put, sA, sB, sC, Nat.zero_add, Nat.reduceAdd, e26]; go_wp2_with fail; go_ret; refine ⟨_, _, rfl, hr, ?_, Below.tr hbw hS⟩; obtain ⟨ps, h1, h2, _⟩ := hr; rw [← h2]; exact h1.2.1.symm
end Go.Proofs.YtmbfjmilhfmnkaaDoor
