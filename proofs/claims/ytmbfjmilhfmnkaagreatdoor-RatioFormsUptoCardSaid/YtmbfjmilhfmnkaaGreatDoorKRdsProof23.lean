import Derived.Test.YtmbfjmilhfmnkaaGreatDoorKRdsProof22
import Derived.Test.YtmbfjmilhfmnkaaGreatDoorS0
set_option linter.unusedVariables false
set_option linter.unusedSimpArgs false
namespace Go.Proofs.YtmbfjmilhfmnkaaGreatDoor
open Go Go.RowKit
theorem info_ratio : (Tryz.prog.info? 29).map (fun i => (i.zero, i.size, i.bytes)) = some (some nilRat, 2, 48) := by kernel_rfl
theorem Rd.newC (w : World) (T : TypeId) (cs : List Value) : Rd (w.alloc (.cells cs.toArray T)) (some ⟨w.heap.size, 0, none⟩) cs := by
 intro _; refine ⟨_, _, rfl, fun i h => ?_⟩; rw [Nat.zero_add, (Blk.new w T cs.toArray).cell]; simp [h]
/-- a row of ratios of the call's own -/
def RatOwn (w : World) (base : Nat) (v : Value) (X : List LP) : Prop := ∃ ps : List (Value × Value), w.ownsRow base 29 2 v X.length (ps.flatMap prC) ∧ ps.length = X.length ∧ OwnAll NoL w v ∧ ∀ (i : Nat) p x, ps[i]? = some p → X[i]? = some x → RtP w (.agg #[p.1, p.2]) x
theorem RatOwn.below {w w' : World} {base : Nat} {v : Value} {X : List LP} (h : RatOwn w base v X) (hb : Below w.heap.size w w') : RatOwn w' base v X := by
 obtain ⟨ps, h1, h2, h3, h4⟩ := h; exact ⟨ps, own_below h1 hb, h2, h3.below hb (fun g hg => ownsRow_lt h1 g hg), fun i p x e1 e2 => (h4 i p x e1 e2).below hb⟩
theorem RatOwn.mono {w : World} {base base' : Nat} {v : Value} {X : List LP} (h : RatOwn w base v X) (hb : base' ≤ base) : RatOwn w base' v X := by
 obtain ⟨ps, h1, h2⟩ := h; exact ⟨ps, own_mono h1 hb, h2⟩
theorem RatOwn.nil (w : World) (base : Nat) : RatOwn w base (.slice none 0 0) [] :=
 ⟨[], World.ownsRow_nil _ _ _ _, rfl, OwnAll.nil, fun i p x h => by cases h⟩
theorem RatOwn.shp {w : World} {base : Nat} {v : Value} {X : List LP} (h : RatOwn w base v X) : ∃ A c, v = .slice A X.length c := by
 obtain ⟨ps, h1, _⟩ := h; exact own_shp h1
theorem RatOwn.ge {w : World} {base : Nat} {v : Value} {X : List LP} (h : RatOwn w base v X) : ∀ k, v.ownBlock = some k → base ≤ k := by
 obtain ⟨ps, h1, _⟩ := h; exact own_block_ge h1
theorem RatOwn.lt {w : World} {base : Nat} {v : Value} {X : List LP} (h : RatOwn w base v X) : ∀ k, v.ownBlock = some k → k < w.heap.size := by
 obtain ⟨ps, h1, _⟩ := h; exact ownsRow_lt h1
theorem RatOwn.row {w : World} {base : Nat} {A : Option Addr} {k c : Nat} {X : List LP} (h : RatOwn w base (.slice A k c) X) (hX : X.length ≤ 281474976710656) : RatRow w A k X := by
 obtain ⟨ps, h1, h2, h3, h4⟩ := h; obtain ⟨A', c', e, _⟩ := own_rowS (l := ps) (f := prC) prC_len (by omega) hX h1; injection e with e1 e2 e3; subst e1 e2 e3; exact ⟨ps, own_any prC_len (by omega) hX h1, h2, h4⟩
theorem RtP.grownBy {w w' : World} {v a : Value} {x : LP} (h : RtP w v x) (k : w.grownBy w' a.ownBlock) (hO : OwnAll NoL w a) : RtP w' v x := h.mapL fun _ _ _ hl => hl.grownBy k hO
theorem RtP.noL {w : World} {v1 v2 : Value} {x : LP} (h : RtP w (.agg #[v1, v2]) x) : (∀ u ∈ [v1, v2], NoL u) ∧ ∀ u ∈ [v1, v2], u.oneCell' = true := by
 obtain ⟨A1, k1, c1, A2, k2, c2, e⟩ := h.shape; simp only [Value.agg.injEq, Array.mk.injEq, List.cons.injEq, and_true] at e; obtain ⟨rfl, rfl⟩ := e
 constructor
 ·intro u hu; simp only [List.mem_cons, List.not_mem_nil, or_false] at hu
  rcases hu with rfl | rfl <;> (intro n e; cases e)
 ·intro u hu; simp only [List.mem_cons, List.not_mem_nil, or_false] at hu
  rcases hu with rfl | rfl <;> rfl
theorem nilRat_noL : ∀ x ∈ nilRat.cells.toList, NoL x := by
 intro x hx; have h : x ∈ [Value.slice none 0 0, Value.slice none 0 0] := hx; simp only [List.mem_cons, List.not_mem_nil, or_false] at h
 rcases h with rfl | rfl <;> (intro n e; cases e)
/-- one ratio more -/
theorem run_push (w : World) (ty : TypeId) (base : Nat) (v : Value) (X : List LP) (h : RatOwn w base v X) (A : Option Addr) (c : Nat) (v1 v2 : Value) (x : LP) (hx : RtP w (.agg #[v1, v2]) x) (hr : Rd w A [v1, v2]) (hX : X.length ≤ 1073741824) (hb : base ≤ w.heap.size) :
  ∃ v' w', (Builtin.append_ #[24, 24] ty #[v, .slice A 1 c]).run Tryz.prog w = .ok v' w' ∧ RatOwn w' base v' (X ++ [x]) ∧ w.grownBy w' v.ownBlock ∧ (v'.ownBlock = v.ownBlock ∨ v'.ownBlock = some w.heap.size) ∧ ∀ u y, RtP w u y → RtP w' u y := by
 obtain ⟨iR, hi, hz, hs, hby⟩ := info_parts info_ratio; obtain ⟨ps, h1, h2, h3, h4⟩ := h; obtain ⟨v', w', hrun, k1, k2, k3, k4⟩ := run_append_all (P := Tryz.prog) w NoL base 24 ty 29 iR nilRat 2 48 Tryz.underlying24 hi hz hs hby rfl (by omega) v X.length _ h1 A 1 c [v1, v2] rfl hr hx.noL.2 (by simp only [maxLen]; omega) (by omega) hb nilRat_noL hx.noL.1 h3; refine ⟨v', w', hrun, ⟨ps ++ [(v1, v2)], by rw [List.flatMap_append, List.length_append]; exact k1, by simp [h2], k4, ?_⟩, k2, k3, fun u y h => h.grownBy k2 h3⟩; intro i p y e1 e2; by_cases hi : i < ps.length
 ·rw [List.getElem?_append_left hi] at e1; rw [List.getElem?_append_left (by omega)] at e2; exact (h4 i p y e1 e2).grownBy k2 h3
 ·have hi' : i = ps.length := by
   have := (List.getElem?_eq_some_iff.1 e1).1; simp at this; omega
  subst hi'; rw [List.getElem?_append_right (by omega), Nat.sub_self] at e1; rw [h2, List.getElem?_append_right (by omega), Nat.sub_self] at e2; simp only [List.getElem?_cons_zero, Option.some.injEq] at e1 e2; subst e1 e2; exact hx.grownBy k2 h3
theorem wp_push {o : Oper} {a : Act} {w : World} {K : Act → World → Prop} {Q : Exit → Act → World → Prop} (s x : Operand) (ho : o.op = .call { callee := .builtin .append, args := #[s, x], argTypes := #[24, 24] })
  (base : Nat) (v : Value) (X : List LP) (hs : a.eval s = v) (h : RatOwn w base v X) (A : Option Addr) (c : Nat) (v1 v2 : Value) (y : LP) (hx : a.eval x = .slice A 1 c) (hy : RtP w (.agg #[v1, v2]) y) (hr : Rd w A [v1, v2]) (hX : X.length ≤ 1073741824) (hb : base ≤ w.heap.size)
  (hK : ∀ v' w', RatOwn w' base v' (X ++ [y]) → w.grownBy w' v.ownBlock → (v'.ownBlock = v.ownBlock ∨ v'.ownBlock = some w.heap.size) → (∀ u z, RtP w u z → RtP w' u z) → K (a.put o.dst v') w') : o.wp Tryz.prog a w K Q := by
 obtain ⟨v', w', hrun, h2, h3, h4, h5⟩ := run_push w o.type base v X h A c v1 v2 y hy hr hX hb; unfold Oper.wp execOp; simp only [ho, resolve, invoke, builtin, Sem.run_bind, Sem.run_pure, Result.andThen_ok, List.map_toArray, List.map_cons, List.map_nil, hs, hx, hrun]; exact hK _ _ h2 h3 h4 h5
theorem wpList_push {ops : Array Oper} {rest : List Oper} {o : Oper} {a : Act} {w : World} {Q : Exit → Act → World → Prop} (hgd : o.guard = none) (s x : Operand) (ho : o.op = .call { callee := .builtin .append, args := #[s, x], argTypes := #[24, 24] })
  (base : Nat) (v : Value) (X : List LP) (hs : a.eval s = v) (h : RatOwn w base v X) (A : Option Addr) (c : Nat) (v1 v2 : Value) (y : LP) (hx : a.eval x = .slice A 1 c) (hy : RtP w (.agg #[v1, v2]) y) (hr : Rd w A [v1, v2]) (hX : X.length ≤ 1073741824) (hb : base ≤ w.heap.size)
  (hK : ∀ v' w', RatOwn w' base v' (X ++ [y]) → w.grownBy w' v.ownBlock → (v'.ownBlock = v.ownBlock ∨ v'.ownBlock = some w.heap.size) → (∀ u z, RtP w u z → RtP w' u z) → wpList Tryz.prog ops Q rest (a.put o.dst v') w') : wpList Tryz.prog ops Q (o :: rest) a w :=
 wpList_plain hgd fun _ hK2 => wp_push s x ho base v X hs h A c v1 v2 y hx hy hr hX hb fun v' w' h1 h2 h3 h4 => hK2 _ _ (hK v' w' h1 h2 h3 h4)
/-- a made row of one ratio -/
theorem RatOwn.one {w : World} {v1 v2 : Value} {x : LP} (hx : RtP w (.agg #[v1, v2]) x) : RatOwn (w.alloc (.cells #[v1, v2] 29)) w.heap.size (.slice (some ⟨w.heap.size, 0, none⟩) 1 1) [x] := by
 have hb := bA w (.cells #[v1, v2] 29); refine ⟨[(v1, v2)], ⟨rfl, .inr ⟨_, 1, #[v1, v2], rfl, Nat.le_refl _, heap_alloc_new w _, Nat.le_refl _, by unfold maxLen; omega, rfl, rfl⟩⟩, rfl, OwnAll.blk (Blk.new w _ _) hx.noL.1, ?_⟩; intro i p y e1 e2
 rcases i with _ | i
 ·simp only [List.getElem?_cons_zero, Option.some.injEq] at e1 e2; subst e1 e2; exact hx.below hb
 ·simp at e1
end Go.Proofs.YtmbfjmilhfmnkaaGreatDoor
