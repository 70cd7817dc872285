import Derived.Test.YtnjjdiilkhdbeaaKCutProof21
import Derived.Test.YtnjjdiilkhdbeaaS0
set_option linter.unusedVariables false
set_option linter.unusedSimpArgs false
namespace Go.Proofs.Ytnjjdiilkhdbeaa
open Go Go.RowKit
theorem info_ratio : (Try.prog.info? 25).map (fun i => (i.zero, i.size, i.bytes)) = some (some nilRat, 2, 48) := by kernel_rfl
theorem Rd.newC (w : World) (T : TypeId) (cs : List Value) : Rd (w.alloc (.cells cs.toArray T)) (some ⟨w.heap.size, 0, none⟩) cs := by
 intro _; refine ⟨_, _, rfl, fun i h => ?_⟩; rw [Nat.zero_add, (Blk.new w T cs.toArray).cell]; simp [h]
/-- a row of ratios of the call's own -/
def RatOwn (w : World) (base : Nat) (v : Value) (X : List LP) : Prop := ∃ ps : List (Value × Value), w.ownsRow base 25 2 v X.length (ps.flatMap prC) ∧ ps.length = X.length ∧ OwnAll NoL w v ∧ ∀ (i : Nat) p x, ps[i]? = some p → X[i]? = some x → RtP w (.agg #[p.1, p.2]) x
theorem RatOwn.below {w w' : World} {base : Nat} {v : Value} {X : List LP} (h : RatOwn w base v X) (hb : Below w.heap.size w w') : RatOwn w' base v X := by
 obtain ⟨ps, h1, h2, h3, h4⟩ := h; exact ⟨ps, own_below h1 hb, h2, h3.below hb (fun g hg => ownsRow_lt h1 g hg), fun i p x e1 e2 => (h4 i p x e1 e2).below hb⟩
theorem RatOwn.mono {w : World} {base base' : Nat} {v : Value} {X : List LP} (h : RatOwn w base v X) (hb : base' ≤ base) : RatOwn w base' v X := by
 obtain ⟨ps, h1, h2⟩ := h; exact ⟨ps, own_mono h1 hb, h2⟩
theorem RatOwn.nil (w : World) (base : Nat) : RatOwn w base (.slice none 0 0) [] :=
 ⟨[], World.ownsRow_nil _ _ _ _, rfl, OwnAll.nil, fun i p x h => by cases h⟩
theorem RatOwn.shp {w : World} {base : Nat} {v : Value} {X : List LP} (h : RatOwn w base v X) : ∃ A c, v = .slice A X.length c := by
 obtain ⟨ps, h1, _⟩ := h; exact own_shp h1
theorem RatOwn.ge {w : World} {base : Nat} {v : Value} {X : List LP} (h : RatOwn w base v X) : ∀ k, v.ownBlock = some k → base ≤ k := by
 obtain ⟨ps, h1, _⟩ := h; exact own_block_ge h1
theorem RatOwn.lt {w : World} {base : Nat} {v : Value} {X : List LP} (h : RatOwn w base v X) : ∀ k, v.ownBlock = some k → k < w.heap.size := by
 obtain ⟨ps, h1, _⟩ := h; exact ownsRow_lt h1
theorem RatOwn.row {w : World} {base : Nat} {A : Option Addr} {k c : Nat} {X : List LP} (h : RatOwn w base (.slice A k c) X) (hX : X.length ≤ 281474976710656) : RatRow w A k X := by
 obtain ⟨ps, h1, h2, h3, h4⟩ := h; obtain ⟨A', c', e, _⟩ := own_rowS (l := ps) (f := prC) prC_len (by omega) hX h1; injection e with e1 e2 e3; subst e1 e2 e3; exact ⟨ps, own_any prC_len (by omega) hX h1, h2, h4⟩
theorem RtP.grownBy {w w' : World} {v a : Value} {x : LP} (h : RtP w v x) (k : w.grownBy w' a.ownBlock) (hO : OwnAll NoL w a) : RtP w' v x := h.mapL fun _ _ _ hl => hl.grownBy k hO
theorem RtP.noL {w : World} {v1 v2 : Value} {x : LP} (h : RtP w (.agg #[v1, v2]) x) : (∀ u ∈ [v1, v2], NoL u) ∧ ∀ u ∈ [v1, v2], u.oneCell' = true := by
 obtain ⟨A1, k1, c1, A2, k2, c2, e⟩ := h.shape; simp only [Value.agg.injEq, Array.mk.injEq, List.cons.injEq, and_true] at e; obtain ⟨rfl, rfl⟩ := e
 constructor
 ·intro u hu; simp only [List.mem_cons, List.not_mem_nil, or_false] at hu
  rcases hu with rfl | rfl <;> (intro n e; cases e)
 ·intro u hu; simp only [List.mem_cons, List.not_mem_nil, or_false] at hu
  rcases hu with rfl | rfl <;> rfl
theorem nilRat_noL : ∀ x ∈ nilRat.cells.toList, NoL x := by
 intro x hx; have h : x ∈ [Value.slice none 0 0, Value.slice none 0 0] := hx; simp only [List.mem_cons, List.not_mem_nil, or_false] at h
 rcases h with rfl | rfl <;> (intro n e; cases e)
/-- one ratio more -/
theorem run_push (w : World) (ty : TypeId) (base : Nat) (v : Value) (X : List LP) (h : RatOwn w base v X) (A : Option Addr) (c : Nat) (v1 v2 : Value) (x : LP) (hx : RtP w (.agg #[v1, v2]) x) (hr : Rd w A [v1, v2]) (hX : X.length ≤ 1073741824) (hb : base ≤ w.heap.size) :
  ∃ v' w', (Builtin.append_ #[36, 36] ty #[v, .slice A 1 c]).run Try.prog w = .ok v' w' ∧ RatOwn w' base v' (X ++ [x]) ∧ w.grownBy w' v.ownBlock ∧ (v'.ownBlock = v.ownBlock ∨ v'.ownBlock = some w.heap.size) ∧ ∀ u y, RtP w u y → RtP w' u y := by
 obtain ⟨iR, hi, hz, hs, hby⟩ := info_parts info_ratio; obtain ⟨ps, h1, h2, h3, h4⟩ := h; obtain ⟨v', w', hrun, k1, k2, k3, k4⟩ := run_append_all (P := Try.prog) w NoL base 36 ty 25 iR nilRat 2 48 Try.underlying36 hi hz hs hby rfl (by omega) v X.length _ h1 A 1 c [v1, v2] rfl hr hx.noL.2 (by simp only [maxLen]; omega) (by omega) hb nilRat_noL hx.noL.1 h3; refine ⟨v', w', hrun, ⟨ps ++ [(v1, v2)], by rw [List.flatMap_append, List.length_append]; exact k1, by simp [h2], k4, ?_⟩, k2, k3, fun u y h => h.grownBy k2 h3⟩; intro i p y e1 e2; by_cases hi : i < ps.length
 ·rw [List.getElem?_append_left hi] at e1; rw [List.getElem?_append_left (by omega)] at e2; exact (h4 i p y e1 e2).grownBy k2 h3
 ·have hi' : i = ps.length := by
   have := (List.getElem?_eq_some_iff.1 e1).1; simp at this; omega
  subst hi'; rw [List.getElem?_append_right (by omega), Nat.sub_self] at e1; rw [h2, List.getElem?_append_right (by omega), Nat.sub_self] at e2; simp only [List.getElem?_cons_zero, Option.some.injEq] at e1 e2; subst e1 e2; exact hx.grownBy k2 h3
theorem wp_push {o : Oper} {a : Act} {w : World} {K : Act → World → Prop} {Q : Exit → Act → World → Prop} (s x : Operand) (ho : o.op = .call { callee := .builtin .append, args := #[s, x], argTypes := #[36, 36] })
  (base : Nat) (v : Value) (X : List LP) (hs : a.eval s = v) (h : RatOwn w base v X) (A : Option Addr) (c : Nat) (v1 v2 : Value) (y : LP) (hx : a.eval x = .slice A 1 c) (hy : RtP w (.agg #[v1, v2]) y) (hr : Rd w A [v1, v2]) (hX : X.length ≤ 1073741824) (hb : base ≤ w.heap.size)
  (hK : ∀ v' w', RatOwn w' base v' (X ++ [y]) → w.grownBy w' v.ownBlock → (v'.ownBlock = v.ownBlock ∨ v'.ownBlock = some w.heap.size) → (∀ u z, RtP w u z → RtP w' u z) → K (a.put o.dst v') w') : o.wp Try.prog a w K Q := by
 obtain ⟨v', w', hrun, h2, h3, h4, h5⟩ := run_push w o.type base v X h A c v1 v2 y hy hr hX hb; unfold Oper.wp execOp; simp only [ho, resolve, invoke, builtin, Sem.run_bind, Sem.run_pure, Result.andThen_ok, List.map_toArray, List.map_cons, List.map_nil, hs, hx, hrun]; exact hK _ _ h2 h3 h4 h5
theorem wpList_push {ops : Array Oper} {rest : List Oper} {o : Oper} {a : Act} {w : World} {Q : Exit → Act → World → Prop} (hgd : o.guard = none) (s x : Operand) (ho : o.op = .call { callee := .builtin .append, args := #[s, x], argTypes := #[36, 36] })
  (base : Nat) (v : Value) (X : List LP) (hs : a.eval s = v) (h : RatOwn w base v X) (A : Option Addr) (c : Nat) (v1 v2 : Value) (y : LP) (hx : a.eval x = .slice A 1 c) (hy : RtP w (.agg #[v1, v2]) y) (hr : Rd w A [v1, v2]) (hX : X.length ≤ 1073741824) (hb : base ≤ w.heap.size)
  (hK : ∀ v' w', RatOwn w' base v' (X ++ [y]) → w.grownBy w' v.ownBlock → (v'.ownBlock = v.ownBlock ∨ v'.ownBlock = some w.heap.size) → (∀ u z, RtP w u z → RtP w' u z) → wpList Try.prog ops Q rest (a.put o.dst v') w') : wpList Try.prog ops Q (o :: rest) a w :=
 wpList_plain hgd fun _ hK2 => wp_push s x ho base v X hs h A c v1 v2 y hx hy hr hX hb fun v' w' h1 h2 h3 h4 => hK2 _ _ (hK v' w' h1 h2 h3 h4)
/-- a made row of one ratio -/
theorem RatOwn.one {w : World} {v1 v2 : Value} {x : LP} (hx : RtP w (.agg #[v1, v2]) x) : RatOwn (w.alloc (.cells #[v1, v2] 25)) w.heap.size (.slice (some ⟨w.heap.size, 0, none⟩) 1 1) [x] := by
 have hb := bA w (.cells #[v1, v2] 25); refine ⟨[(v1, v2)], ⟨rfl, .inr ⟨_, 1, #[v1, v2], rfl, Nat.le_refl _, heap_alloc_new w _, Nat.le_refl _, by unfold maxLen; omega, rfl, rfl⟩⟩, rfl, OwnAll.blk (Blk.new w _ _) hx.noL.1, ?_⟩; intro i p y e1 e2
 rcases i with _ | i
 ·simp only [List.getElem?_cons_zero, Option.some.injEq] at e1 e2; subst e1 e2; exact hx.below hb
 ·simp at e1
end Go.Proofs.Ytnjjdiilkhdbeaa
namespace Go.Proofs.Ytnjjdiilkhdbeaa
open Go Go.RowKit
def boolC (b : Bool) : List Value := [.bool b]
theorem boolC_len (b : Bool) : (boolC b).length = 1 := rfl
theorem RowS.bool {w : World} {A : Option Addr} {k : Nat} {l : List Bool} (h : RowS boolC w A k l) {i : Nat} (hi : i < k) : ∃ b off x, A = some ⟨b, off, none⟩ ∧ w.cell? ⟨b, off + i, none⟩ = some (.bool x) ∧ Hid (l[i]? = some x) := by
 have hil : i < l.length := by have := h.2.1; omega
 obtain ⟨b, off, hA, hc⟩ := h.at_ boolC_len (by omega) hi hil; refine ⟨b, off, l[i], hA, ?_, List.getElem?_eq_getElem hil⟩; have := hc.out 0 _ rfl
 rwa [Nat.mul_one, Nat.add_zero] at this
/-- the capitals after the first one -/
noncomputable def capsFrom (b : LP) (rows : List (List LP)) : Nat → Nat → LP → List Bool → List LP
 | _, _, _, [] => []
 | n, k, c, x :: xs => mulV c (factorV b rows n k x) :: capsFrom b rows (n + 1) (if x then k + 1 else k) (mulV c (factorV b rows n k x)) xs
noncomputable def capsV (b : LP) (rows : List (List LP)) (bad : List Bool) : List LP := oneP :: capsFrom b rows 0 0 oneP bad
noncomputable def capE (b : LP) (rows : List (List LP)) (bad : List Bool) : Int := if planE b rows ≠ 0 then planE b rows else if 256 < bad.length then 4 else 0
noncomputable def capX (b : LP) (rows : List (List LP)) (bad : List Bool) : List LP := if planE b rows ≠ 0 then [] else if 256 < bad.length then [] else capsV b rows bad
theorem capsFrom_drop {b : LP} {rows : List (List LP)} {i k : Nat} {c : LP} {bad : List Bool} {x : Bool} (h : bad[i]? = some x) : capsFrom b rows i k c (bad.drop i) = mulV c (factorV b rows i k x) :: capsFrom b rows (i + 1) (if x then k + 1 else k) (mulV c (factorV b rows i k x)) (bad.drop (i + 1)) := by
 obtain ⟨h1, h2⟩ := List.getElem?_eq_some_iff.1 h; rw [List.drop_eq_getElem_cons h1, h2]; rfl
theorem planE_zero {b : LP} {rows : List (List LP)} (h : planE b rows = 0) : rows.length ≤ 16 ∧ partB b = true ∧ badFrom b 0 rows = false := by
 unfold planE at h
 split at h
 ·cases h
 ·split at h
  ·cases h
  ·split at h
   ·cases h
   ·rename_i h1 h2 h3
    exact ⟨by omega, by simpa using h2, by simpa using h3⟩
theorem badFrom_row {b : LP} : ∀ {rows : List (List LP)} {m n : Nat} {r : List LP}, badFrom b m rows = false → rows[n]? = some r → r.length = m + n + 1 ∧ ∀ s ∈ r, wrongB b s = false
 | [], m, n, r, _, hr => by simp at hr
 | x :: rs, m, n, r, h, hr => by
  unfold badFrom at h; simp only [Bool.or_eq_false_iff] at h
  rcases n with _ | n
  ·simp only [List.getElem?_cons_zero, Option.some.injEq] at hr; subst hr; have h1 := h.1; unfold rowBad at h1; simp only [Bool.or_eq_false_iff, decide_eq_false_iff_not, Decidable.not_not] at h1; refine ⟨by omega, fun s hs => ?_⟩; have := h1.2; rw [List.any_eq_false] at this
   simpa using this s hs
  ·simp only [List.getElem?_cons_succ] at hr; obtain ⟨h1, h2⟩ := badFrom_row h.2 hr; exact ⟨by omega, h2⟩
theorem plan_row {b : LP} {rows : List (List LP)} (h : planE b rows = 0) {n : Nat} {r : List LP} (hr : rows[n]? = some r) : r.length = n + 1 := by
 have := (badFrom_row (planE_zero h).2.2 hr).1; omega
def PhiCa (bo oo n co i kk : Nat) (bb : Bool) (v1 v2 x1 x2 : Value) (S : Option Addr) (kS cS : Nat) (f y : LP) (vs : Nat → Value) (j : Nat) (w : World) (x : Value) : Prop :=
 match j with
 | 0 => x = .slice (some ⟨bo, oo, none⟩) n co
 | 1 => x = .slice (some ⟨bo, oo, none⟩) n co
 | 2 => x = .int .i64 (i : Nat)
 | 3 => x = .pointer (some ⟨bo, oo + i * 2, none⟩)
 | 4 => x = .agg #[v1, v2]
 | 5 => x = .agg #[x1, x2, .slice S kS cS]
 | 6 => x = .int .i64 (i : Nat)
 | 7 => x = .int .i64 (kk : Nat)
 | 8 => x = .bool bb
 | 9 => RtP w x f
 | 10 => ∃ v er, x = .tuple #[v, .int .i64 er] ∧ RtP w v y
 | 11 => RtP w x y
 | 12 => ∃ er : Int, x = .int .i64 er
 | 13 => RtP w x y
 | 14 => ∃ g u1 u2, x = .slice (some ⟨g, 0, none⟩) 1 1 ∧ Rd w (some ⟨g, 0, none⟩) [u1, u2] ∧ RtP w (.agg #[u1, u2]) y
 | _ => True
theorem PhiCa.keepR {bo oo n co i kk : Nat} {bb : Bool} {v1 v2 x1 x2 : Value} {S : Option Addr} {kS cS : Nat} {f y : LP} : ∀ vs (w w' : World), Below w.heap.size w w' → ∀ j x, PhiCa bo oo n co i kk bb v1 v2 x1 x2 S kS cS f y vs j w x → PhiCa bo oo n co i kk bb v1 v2 x1 x2 S kS cS f y vs j w' x := by
 intro vs w w' hb j x h; unfold PhiCa at h ⊢
 split <;> simp only at h ⊢
 all_goals first
  | exact h
  | exact h.below hb
  | (obtain ⟨v, er, e, h⟩ := h; exact ⟨v, er, e, h.below hb⟩)
  | (obtain ⟨g, u1, u2, e, h1, h2⟩ := h; exact ⟨g, u1, u2, e, h1.below hb, h2.below hb⟩)
theorem PhiCa.keepF {bo oo n co i kk : Nat} {bb : Bool} {v1 v2 x1 x2 : Value} {S : Option Addr} {kS cS : Nat} {f y : LP} : ∀ vs (w w' : World) j x, ([] : List Nat).contains j = true → PhiCa bo oo n co i kk bb v1 v2 x1 x2 S kS cS f y vs j w x → PhiCa bo oo n co i kk bb v1 v2 x1 x2 S kS cS f y vs j w' x := by
 intro vs w w' j x hf
 cases hf
def SCa (base : Nat) (w2 wr : World) (X : List LP) : List Value → (Nat → Value) → World → Prop
 | [], _, W => Below wr.heap.size wr W
 | [v], _, W => RatOwn W base v X ∧ Below base w2 W
 | [v, u], _, W => u = v ∧ RatOwn W base v X ∧ Below base w2 W
 | _, _, _ => True
set_option maxRecDepth 100000 in
set_option maxHeartbeats 4000000 in
theorem capitals_F (va : Value) (b : LP) (rows : List (List LP)) (A : Option Addr) (kB cB : Nat) (bad : List Bool) (w : World) (hp : PlanV w va b rows) (hbad : RowS boolC w A kB bad) :
  Calls Try.prog 22 #[va, .slice A kB cB] w fun e w' => ∃ v, e = .returned (.tuple #[v, .int .i64 (capE b rows bad)]) ∧ RatOwn w' w.heap.size v (capX b rows bad) ∧ Below w.heap.size w w' := by
 obtain ⟨x1, x2, S, kS, cS, rfl, hbd, hrows⟩ := hp; have hkB := hbad.2.2; have HKB := Lib.hid hbad.2.1; obtain ⟨E, HE⟩ : ∃ E, Hid (E = capE b rows bad) := ⟨_, rfl⟩; obtain ⟨Y, HY⟩ : ∃ Y, Hid (Y = capX b rows bad) := ⟨_, rfl⟩; rw [← HE.out, ← HY.out]
 go_enter Try.func22, Try.ntmps22
 go_upto_region 1 with fail; refine wp_name ?_; intro w1 HW1; have hb1 : Below w.heap.size w w1 := by rw [HW1.out]; exact bA _ _
 have hx : Blk w1 w.heap.size 38 #[x1, x2, .slice S kS cS] := by rw [HW1.out]; exact Blk.new w _ _
 obtain ⟨g, hg⟩ : ∃ g, Hid (g = w.heap.size) := ⟨_, rfl⟩; rw [← hg.out] at hx ⊢; have hpl : PlanV w1 (.agg #[x1, x2, .slice S kS cS]) b rows := ⟨x1, x2, S, kS, cS, rfl, hbd.below hb1, hrows.below hb1⟩; clear HW1 hbd hrows hg; have p0 := hx.cell 0; have p1 := hx.cell 1; have p2 := hx.cell 2; simp only [List.getElem?_toArray, List.getElem?_cons_zero, List.getElem?_cons_succ] at p0 p1 p2; clear hx; go_wp2_with fail; refine (wvalid_F _ b rows _ hpl).mono ?_; rintro e w2 ⟨rfl, hb2⟩; by_cases h0 : planE b rows = 0
 ·rw [h0]; have p0 := cell_keep hb2 p0; have p1 := cell_keep hb2 p1; have p2 := cell_keep hb2 p2; have hbw2 := Below.tr hb1 hb2; have hpl := hpl.below hb2; have HROW := Lib.hid (fun n r => plan_row (n := n) (r := r) h0); by_cases h256 : 256 < kB
  ·have t1 : decide ((kB : Int) > 256) = true := by simp; omega
   have HF : Hid (E = 4) := by
    show _ = _
    rw [HE.out]; unfold capE; rw [if_neg (by rw [h0]; simp), if_pos (by have := HKB.out; omega)]
   have HG : Hid (Y = []) := by
    show _ = _
    rw [HY.out]; unfold capX; rw [if_neg (by rw [h0]; simp), if_pos (by have := HKB.out; omega)]
   clear h0 HE HY HROW; go_wp2_with fail
   go_ret2
   exact ⟨_, by rw [HF.out]; rfl, by rw [HG.out]; exact RatOwn.nil _ _, hbw2⟩
  ·have t1 : decide ((kB : Int) > 256) = false := by simp; omega
   have HF : Hid (E = 0) := by
    show _ = _
    rw [HE.out]; unfold capE; rw [if_neg (by rw [h0]; simp), if_neg (by have := HKB.out; omega)]
   have HG : Hid (Y = capsV b rows bad) := by
    show _ = _
    rw [HY.out]; unfold capX; rw [if_neg (by rw [h0]; simp), if_neg (by have := HKB.out; omega)]
   clear h0 HE HY; go_wp2_with fail; refine (wone_F _).mono ?_; rintro e w3 ⟨v, rfl, hv, hb3⟩; obtain ⟨C1, n1, e1, C2, n2, e2, rfl⟩ := hv.shape; have hown0 := (RatOwn.one hv).mono hb3.size; have hb30 := Below.tr hb3 (bA w3 (.cells #[.slice C1 n1 e1, .slice C2 n2 e2] 25)); clear hv hb3; go_wp2_with fail
   go_loopg [7, 8, 23] kB (fun j x7 x8 x wr => ∃ (i kk : Nat) (X : List LP) (c : LP), x = .int .i64 i ∧ i + j = kB ∧ x8 = .int .i64 kk ∧ kk ≤ i ∧ RatOwn wr w2.heap.size x7 X ∧ Hid (X.length = i + 1) ∧ Hid (X[i]? = some c) ∧ Hid (capsV b rows bad = X ++ capsFrom b rows i kk c (bad.drop i)) ∧ Below w2.heap.size w2 wr)
   case atStart => exact ⟨0, 0, [oneP], oneP, rfl, by omega, rfl, by omega, hown0, rfl, rfl, rfl, hb30⟩
   case round =>
    obtain ⟨G, hG⟩ : ∃ G, G = gk := ⟨gk, rfl⟩; subst hG; obtain ⟨i, kk, X, c, rfl, hij, rfl, hkk, hown, HXL, HXC, HCP, hbe⟩ := hrel; obtain ⟨n, HN⟩ : ∃ n, Hid (n = i + 1) := ⟨_, rfl⟩; have HXN : Hid (X.length = n) := by show _ = _; rw [HXL.out, HN.out]
    obtain ⟨Ao, co, rfl⟩ := hown.shp; rw [HXN.out] at hown ⊢; by_cases hi : i < kB
    ·have P0 := Lib.hid (cell_keep hbe p0); have P1 := Lib.hid (cell_keep hbe p1); have P2 := Lib.hid (cell_keep hbe p2); have hpl := hpl.below hbe; obtain ⟨bB, oB, bb, rfl, hcb, HB⟩ := (hbad.below (Below.tr hbw2 hbe)).bool hi; have hXi : X.length ≤ 281474976710656 := by have := HXL.out; omega
     have hX30 : X.length ≤ 1073741824 := by have := HXL.out; omega
     have hrow := hown.row hXi; obtain ⟨bo, oo, v1, v2, c', rfl, q1, q2, HS, hcv⟩ := hrow.at_ (show i < n by have := HN.out; omega)
     have hcc : c = c' := by
      have h1 := HS.out; rw [HXC.out] at h1; injection h1
     subst hcc; have q1 := Lib.hid q1; have q2 := Lib.hid q2; have hi1 : (i : Int) < (n : Int) := by have := HN.out; omega
     have hi20 : i ≤ 1048576 := by omega
     have HKR : Hid (∀ r, rows[i]? = some r → kk < r.length) := fun r h => by have := HROW.out _ _ h; omega
     clear HS hrow hXi; obtain ⟨X', HX'⟩ : ∃ X', Hid (X' = X ++ [mulV c (factorV b rows i kk bb)]) := ⟨_, rfl⟩; go_upto_region 11 with fail; refine region_chain [15, 16] [.early, .early, .early, .early, .early, .early, .early, .early, .early, .early, .early, .early, .early, .early, .early, .chain 0, .chain 1] [] [] (PhiCa bo oo n co i kk bb v1 v2 x1 x2 S kS cS (factorV b rows i kk bb) (mulV c (factorV b rows i kk bb))) (fun w w' => Below w.heap.size w w') (SCa w2.heap.size w2 wr X') (by kernel_rfl) (by kernel_rfl) (by kernel_rfl) (by kernel_rfl) (sK (fun _ _ _ _ _ h => h) (sK (fun _ _ _ _ _ h => h) (sK (fun _ _ _ _ _ h => h) (sK (fun _ _ _ _ _ h => h) (sK (fun _ _ _ _ _ h => h) (sK (fun _ _ _ _ _ h => h) (sK (fun _ _ _ _ _ h => h) (sK (fun _ _ _ _ _ h => h) (sK (fun _ _ _ _ _ h => h) (sK (fun _ _ _ _ _ h => h) (sK (fun _ _ _ _ _ h => h) (sK (fun _ _ _ _ _ h => h) (sK (fun _ _ _ _ _ h => h) (sK (fun _ _ _ _ _ h => h) (sK (fun _ _ _ _ _ h => h) (sK (fun _ _ _ _ _ h => h) (sK (fun _ _ _ _ _ h => h) (sZ)))))))))))))))))) PhiCa.keepR PhiCa.keepF (fun _ _ _ _ hR hS => Below.tr hS hR) (by rintro (_ | ⟨_, _ | ⟨_, _ | _⟩⟩) vs vs' w _ h <;> exact h) (fun _ => bD _) (fun vs => by simp only [fillR, Act.put, sA, sB, sC, Nat.zero_add, Nat.reduceAdd]; rfl) ?_ ?_
     ·refine sK ?_ (sK ?_ (sK ?_ (sK ?_ (sK ?_ (sK ?_ (sK ?_ (sK ?_ (sK ?_ (sK ?_ (sK ?_ (sK ?_ (sK ?_ (sK ?_ (sK ?_ (sK ?_ (sK ?_ (sZ)))))))))))))))))
      ·as_aux_lemma =>
       intro vs W hS hu hdep K hK; have HU := Lib.hid hu; clear hu; have u16 : vs 16 = .slice (some ⟨bo, oo, none⟩) n co := HU.out 16 (by simp); refine ⟨?_⟩; simp only [Act.put, sA, sB, sC, Nat.zero_add, Nat.reduceAdd, u16] at hK ⊢; go_simp; with_reducible refine hK _ _ (Below.refl _ _) ?_
       exact rfl
      ·as_aux_lemma =>
       intro vs W hS hu hdep K hK; have HU := Lib.hid hu; clear hu; have u16 : vs 16 = .slice (some ⟨bo, oo, none⟩) n co := HU.out 16 (by simp); refine ⟨?_⟩; simp only [Act.put, sA, sB, sC, Nat.zero_add, Nat.reduceAdd, u16] at hK ⊢; go_simp; with_reducible refine hK _ _ (Below.refl _ _) ?_
       exact rfl
      ·as_aux_lemma =>
       intro vs W hS hu hdep K hK; have HU := Lib.hid hu; clear hu; refine ⟨?_⟩; simp only [Act.put, sA, sB, sC, Nat.zero_add, Nat.reduceAdd] at hK ⊢; go_simp; with_reducible refine hK _ _ (Below.refl _ _) ?_
       exact rfl
      ·as_aux_lemma =>
       intro vs W hS hu hdep K hK; have HU := Lib.hid hu; clear hu; have d0 := hdep ⟨1, .data⟩ (by simp) rfl; simp only [PhiCa] at d0; have d1 := hdep ⟨2, .data⟩ (by simp) rfl; simp only [PhiCa] at d1; refine ⟨?_⟩; simp only [Act.put, sA, sB, sC, Nat.zero_add, Nat.reduceAdd, d0, d1] at hK ⊢; go_simp; with_reducible refine hK _ _ (Below.refl _ _) ?_
       exact rfl
      ·as_aux_lemma =>
       intro vs W hS hu hdep K hK; have HU := Lib.hid hu; clear hu; have d0 := hdep ⟨3, .data⟩ (by simp) rfl; simp only [PhiCa] at d0; have f1 := cell_keep hS q1.out; have f2 := cell_keep hS q2.out; refine ⟨?_⟩; simp only [Act.put, sA, sB, sC, Nat.zero_add, Nat.reduceAdd, d0] at hK ⊢; go_simp; with_reducible refine hK _ _ (Below.refl _ _) ?_
       exact rfl
      ·as_aux_lemma =>
       intro vs W hS hu hdep K hK; have HU := Lib.hid hu; clear hu; have f1 := cell_keep hS P0.out; have f2 := cell_keep hS P1.out; have f3 := cell_keep hS P2.out; refine ⟨?_⟩; simp only [Act.put, sA, sB, sC, Nat.zero_add, Nat.reduceAdd] at hK ⊢; go_simp; with_reducible refine hK _ _ (Below.refl _ _) ?_
       exact rfl
      ·as_aux_lemma =>
       intro vs W hS hu hdep K hK; have HU := Lib.hid hu; clear hu; refine ⟨?_⟩; simp only [Act.put, sA, sB, sC, Nat.zero_add, Nat.reduceAdd] at hK ⊢; go_simp; with_reducible refine hK _ _ (Below.refl _ _) ?_
       exact rfl
      ·as_aux_lemma =>
       intro vs W hS hu hdep K hK; have HU := Lib.hid hu; clear hu; refine ⟨?_⟩; simp only [Act.put, sA, sB, sC, Nat.zero_add, Nat.reduceAdd] at hK ⊢; go_simp; with_reducible refine hK _ _ (Below.refl _ _) ?_
       exact rfl
      ·as_aux_lemma =>
       intro vs W hS hu hdep K hK; have HU := Lib.hid hu; clear hu; refine ⟨?_⟩; simp only [Act.put, sA, sB, sC, Nat.zero_add, Nat.reduceAdd] at hK ⊢; go_simp; with_reducible refine hK _ _ (Below.refl _ _) ?_
       exact rfl
      ·as_aux_lemma =>
       intro vs W hS hu hdep K hK; have HU := Lib.hid hu; clear hu; have d0 := hdep ⟨5, .data⟩ (by simp) rfl; simp only [PhiCa] at d0; have d1 := hdep ⟨6, .data⟩ (by simp) rfl; simp only [PhiCa] at d1; have d2 := hdep ⟨7, .data⟩ (by simp) rfl; simp only [PhiCa] at d2; have d3 := hdep ⟨8, .data⟩ (by simp) rfl; simp only [PhiCa] at d3; refine ⟨?_⟩; simp only [fillR, Act.put, sA, sB, sC, Nat.zero_add, Nat.reduceAdd, d0, d1, d2, d3] at hK ⊢; go_simp; refine (factor_F _ b rows i kk bb _ (hpl.below hS) hi20 HKR.out).mono ?_; rintro e w' ⟨v, rfl, hv, hb⟩; go_wp2_with fail; with_reducible refine hK _ _ hb ?_
       exact hv
      ·as_aux_lemma =>
       intro vs W hS hu hdep K hK; have HU := Lib.hid hu; clear hu; have d0 := hdep ⟨4, .data⟩ (by simp) rfl; simp only [PhiCa] at d0; have d1 := hdep ⟨9, .data⟩ (by simp) rfl; simp only [PhiCa] at d1; have r1 := d1; clear d1; refine ⟨?_⟩; simp only [fillR, Act.put, sA, sB, sC, Nat.zero_add, Nat.reduceAdd, d0] at hK ⊢; go_simp; refine (mul_V _ _ c _ _ (hcv.below hS) r1).mono ?_; rintro e w' ⟨v, er, rfl, hv, hb⟩; go_wp2_with fail; with_reducible refine hK _ _ hb ?_
       exact ⟨v, er, rfl, hv⟩
      ·as_aux_lemma =>
       intro vs W hS hu hdep K hK; have HU := Lib.hid hu; clear hu; have d0 := hdep ⟨10, .data⟩ (by simp) rfl; simp only [PhiCa] at d0; refine @exE2 _ _ _ _ d0 ?_; clear d0; intro v0 er0 d0; have e0 := d0.1; have n0 := d0.2; clear d0; refine ⟨?_⟩; simp only [Act.put, sA, sB, sC, Nat.zero_add, Nat.reduceAdd, e0] at hK ⊢; go_simp; with_reducible refine hK _ _ (Below.refl _ _) ?_
       exact n0
      ·as_aux_lemma =>
       intro vs W hS hu hdep K hK; have HU := Lib.hid hu; clear hu; have d0 := hdep ⟨10, .data⟩ (by simp) rfl; simp only [PhiCa] at d0; refine @exE2 _ _ _ _ d0 ?_; clear d0; intro v0 er0 d0; have e0 := d0.1; have n0 := d0.2; clear d0; refine ⟨?_⟩; simp only [Act.put, sA, sB, sC, Nat.zero_add, Nat.reduceAdd, e0] at hK ⊢; go_simp; with_reducible refine hK _ _ (Below.refl _ _) ?_
       exact ⟨_, rfl⟩
      ·as_aux_lemma =>
       intro vs W hS hu hdep K hK; have HU := Lib.hid hu; clear hu; have d0 := hdep ⟨11, .data⟩ (by simp) rfl; simp only [PhiCa] at d0; have r0 := d0; clear d0; have d1 := hdep ⟨12, .data⟩ (by simp) rfl; simp only [PhiCa] at d1; refine @exE1 _ _ _ d1 ?_; clear d1; intro er1 d1; have e1 := d1; clear d1; refine ⟨?_⟩; simp only [fillR, Act.put, sA, sB, sC, Nat.zero_add, Nat.reduceAdd, e1] at hK ⊢; go_simp; refine (sure_F _ _ _ _ r0).mono ?_; rintro e w' ⟨v, rfl, hv, hb⟩; go_wp2_with fail; with_reducible refine hK _ _ hb ?_
       exact hv
      ·as_aux_lemma =>
       intro vs W hS hu hdep K hK; have HU := Lib.hid hu; clear hu; have d0 := hdep ⟨13, .data⟩ (by simp) rfl; simp only [PhiCa] at d0; have r0 := d0; clear d0; obtain ⟨E1, k1, c1, E2, k2, c2, e0⟩ := r0.shape; rw [e0] at r0; have hgood := Lib.hid r0; clear r0; refine ⟨?_⟩; simp only [Act.put, sA, sB, sC, Nat.zero_add, Nat.reduceAdd, e0] at hK ⊢; go_simp; with_reducible refine hK _ _ (bA _ _) ?_
       exact ⟨_, _, _, rfl, Rd.newC _ _ _, hgood.out.below (bA _ _)⟩
      ·as_aux_lemma =>
       intro vs W hS hdep K hK; have d0 := hdep ⟨0, .data⟩ (by simp) rfl (by rfl); simp only [PhiCa] at d0; have d1 := hdep ⟨14, .data⟩ (by simp) rfl (by rfl); simp only [PhiCa] at d1; have hS : Below wr.heap.size wr W := hS; refine @exE1 _ _ _ d1 ?_; clear d1; intro g d1; refine @exE2 _ _ _ _ d1 ?_; clear d1; intro u1 u2 d1; have e1 := d1.1; have hrd := d1.2.1; have hry := d1.2.2; clear d1; have hown2 := hown.below hS; have hbe2 := Below.tr hbe hS; have hsz := hbe2.size; clear hS; refine ⟨?_⟩; simp only [Act.put, sA, sB, sC, Nat.zero_add, Nat.reduceAdd, d0, e1] at hK ⊢; rw [if_pos (by rfl)]; refine wp_push (.tmp 28) (.tmp 42) rfl w2.heap.size _ X rfl hown2 (some ⟨g, 0, none⟩) 1 u1 u2 _ rfl hry hrd hX30 hsz ?_; rw [← HX'.out]; intro v4 w4 hown4 hg4 hat4 hkp4; have hbe5 := hbe2.grown hg4 hsz hown2.ge; obtain ⟨A5, c5, rfl⟩ := hown4.shp; simp only [Act.put, sA, sB, sC]; with_reducible refine hK _ _ ?_
       exact ⟨hown4, hbe5⟩
      ·as_aux_lemma =>
       intro vs W hS hdep K hK; have hS1 : SCa w2.heap.size w2 wr X' [vs 15] vs W := hS; obtain ⟨hown5, hbe5⟩ := hS1; obtain ⟨A5, c5, e5⟩ := hown5.shp; refine ⟨?_⟩; simp only [Act.put, sA, sB, sC, Nat.zero_add, Nat.reduceAdd, e5] at hK ⊢; go_simp; with_reducible refine hK _ _ ?_
       show _ = _ ∧ _
       rw [e5] at hown5 ⊢; exact ⟨rfl, hown5, hbe5⟩
     ·intro vs W hS _; have hS2 : SCa w2.heap.size w2 wr X' [vs 15, vs 16] vs W := hS; obtain ⟨e16, hown5, hbe5⟩ := hS2; obtain ⟨A5, c5, e15⟩ := hown5.shp; rw [e15] at hown5 e16; have HXL5 : Hid (X'.length = i + 1 + 1) := by show _ = _; rw [HX'.out, List.length_append, HXL.out]; rfl
      have HXC5 : Hid (X'[i + 1]? = some (mulV c (factorV b rows i kk bb))) := by show _ = _; rw [HX'.out, List.getElem?_append_right (by have := HXL.out; omega), HXL.out, Nat.sub_self]; rfl
      have HCP5 := HCP.out; rw [capsFrom_drop HB.out, List.append_cons, ← HX'.out] at HCP5; have HCP5 := Lib.hid HCP5; simp only [Act.put, sA, sB, sC, Nat.zero_add, Nat.reduceAdd, e15, e16]; clear hown HXL HXC HCP q1 q2 hcv hpl P0 P1 P2 hbe
      cases bb
      all_goals
       go_wp2_with fail
       go_roundg (G - 1)
       case measure => omega
      case rel => exact ⟨i + 1, kk, _, _, by go_num, by omega, rfl, by omega, hown5, HXL5, HXC5, HCP5, hbe5⟩
      case rel => exact ⟨i + 1, kk + 1, _, _, by go_num, by omega, by go_num, by omega, hown5, HXL5, HXC5, HCP5, hbe5⟩
    ·have hcp := HCP.out; rw [List.drop_eq_nil_of_le (by have := HKB.out; omega)] at hcp; have HZ : Hid (Y = X) := by show _ = _; rw [HG.out, hcp]; exact List.append_nil _
     clear hcp HCP; go_wp2_with fail
     go_ret2
     refine ⟨_, by rw [HF.out]; rfl, ?_, hbw2.trans (hbe.mono hbw2.size)⟩; rw [HZ.out]; exact hown.mono hbw2.size
 ·have t1 : (planE b rows != 0) = true := by simpa using h0
  have HF : Hid (E = planE b rows) := by
   show _ = _
   rw [HE.out]; unfold capE; rw [if_pos h0]
  have HG : Hid (Y = []) := by
   show _ = _
   rw [HY.out]; unfold capX; rw [if_pos h0]
  clear h0 HE HY; go_wp2_with fail
  go_ret2
  exact ⟨_, by rw [HF.out]; rfl, by rw [HG.out]; exact RatOwn.nil _ _, Below.tr hb1 hb2⟩
end Go.Proofs.Ytnjjdiilkhdbeaa
namespace Go.Proofs.Ytnjjdiilkhdbeaa
open Go Go.RowKit
theorem good_smb {s : LP} (hk : okP s) (h : smallB s = true) : ∃ p q, s = ratP p q ∧ Nm.Good p q := valid_good hk (smallB_and h).1
theorem mulV_rat {pa qa pb qb : Nat} (ga : Nm.Good pa qa) (gb : Nm.Good pb qb) : mulV (ratP pa qa) (ratP pb qb) = (resP (pa * pb) (qa * qb)).2 := by unfold mulV mulF; rw [binF_rat ga gb]
theorem addV_rat {pa qa pb qb : Nat} (ga : Nm.Good pa qa) (gb : Nm.Good pb qb) : addV (ratP pa qa) (ratP pb qb) = (resP (pa * qb + pb * qa) (qa * qb)).2 := by unfold addV addF; rw [binF_rat ga gb]
theorem subV_rat {pa qa pb qb : Nat} (ga : Nm.Good pa qa) (gb : Nm.Good pb qb) (h : pb * qa ≤ pa * qb) : subV (ratP pa qa) (ratP pb qb) = (resP (pa * qb - pb * qa) (qa * qb)).2 := by
 unfold subV subF; rw [binF_rat ga gb]; dsimp only; rw [if_neg (by omega)]
theorem fits01 : Nm.Fits 0 1 := g01.3
theorem resP_zero {d : Nat} (hd : 0 < d) : (resP 0 d).2 = nilP := by
 unfold resP; rw [Nat.gcd_zero_left, Nat.zero_div, Nat.div_self hd, if_pos fits01]; exact nil_ratP
theorem resP_one : (resP 1 1).2 = oneP := by
 unfold resP; rw [Nat.gcd_self, Nat.div_self (by omega), if_pos Good_one.3]; rfl
theorem mulV_nil {z : LP} (hz : okP z) (hv : validP z = 0) : mulV nilP z = nilP := by
 obtain ⟨p, q, rfl, g⟩ := valid_good hz hv; rw [← nil_ratP, mulV_rat g01 g, Nat.zero_mul]; rw [resP_zero (Nat.mul_pos (by omega) g.1), nil_ratP]
theorem okP_lb {p q : Nat} : okP (ratP p q) := ⟨Nm.lim_lb _, Nm.lim_lb _⟩
theorem okP_nil : okP nilP := by rw [← nil_ratP]; exact okP_lb
theorem resP_ok (n d : Nat) : okP (resP n d).2 := by
 unfold resP
 split
 ·exact okP_lb
 ·exact okP_nil
theorem binF_ok {f : Nat × Nat → Nat × Nat → Int × LP} (hf : ∀ x y, okP (f x y).2) (a b : LP) : okP (binF f a b).2 := by
 unfold binF
 split
 ·exact okP_nil
 ·exact hf _ _
theorem mulV_ok (a b : LP) : okP (mulV a b) := binF_ok (fun _ _ => resP_ok _ _) a b
theorem addV_ok (a b : LP) : okP (addV a b) := binF_ok (fun _ _ => resP_ok _ _) a b
theorem subV_ok (a b : LP) : okP (subV a b) := binF_ok (fun x y => by show okP (if _ then _ else _ : Int × LP).2; split; exact okP_nil; exact resP_ok _ _) a b
theorem stakeF_nil {b : LP} (hb : okP b) (hv : validP b = 0) (bad : Bool) : stakeF b nilP bad = oneP := by
 unfold stakeF
 cases bad
 ·rw [if_neg (by simp), mulV_nil hb hv, ← nil_ratP]; unfold oneP; rw [subV_rat Good_one g01 (by omega)]; exact resP_one
 ·rw [if_pos rfl, mulV_nil (z := subV oneP b) (subV_ok _ _) (subV_valid (a := oneP) okP_lb hb), ← nil_ratP]; unfold oneP; rw [addV_rat Good_one g01]; exact resP_one
theorem partB_valid {b : LP} (h : partB b = true) : validP b = 0 := by
 unfold partB at h; exact (smallB_and (Bool.and_eq_true_iff.1 h).1).1
theorem stake_factor {b : LP} {rows : List (List LP)} (hb : okP b) (h : planE b rows = 0) {n k : Nat} (hk : k ≤ n) (bad : Bool) : stakeF b (stakeV rows n k) bad = factorV b rows n k bad := by
 have hv := partB_valid (planE_zero h).2.1; unfold stakeV factorV
 cases hr : rows[n]? with
 | none => exact stakeF_nil hb hv bad
 | some r =>
  have hl := plan_row h hr
  dsimp only
  rw [List.getElem?_eq_getElem (show k < r.length by omega)]
theorem RatOwn.set {w : World} {base g : Nat} {v : Value} {X : List LP} (h : RatOwn w base v X) (hs : Sl w g) (hg : g < base) (A : Option Addr) (k c : Nat) (A' : Option Addr) (k' c' : Nat) : RatOwn ((w.setCell ⟨g, 0, none⟩ (.slice A k c)).setCell ⟨g, 1, none⟩ (.slice A' k' c')) base v X := by
 have hrt := RT.store (N := g) hs (Nat.le_refl _) A k c A' k' c'; obtain ⟨ps, h1, h2, h3, h4⟩ := h; refine ⟨ps, own_set (own_set h1 hg _) hg _, h2, ?_, fun i p x e1 e2 => (h4 i p x e1 e2).mapL hrt.lim⟩; intro g' hg' i x hx; have hge := own_block_ge h1 _ hg'; rw [World.cell?_of_block (Below.heap_setCell _ ⟨g, 1, none⟩ _ g' (by show g' ≠ g; omega)), World.cell?_of_block (Below.heap_setCell _ ⟨g, 0, none⟩ _ g' (by show g' ≠ g; omega))] at hx; exact h3 g' hg' i x hx
def PhiCr (g gs : Nat) (bo oo kB cB i kk : Nat) (bb : Bool) (v1 v2 x1 x2 : Value) (S : Option Addr) (kS cS : Nat) (s f y : LP) (vs : Nat → Value) (j : Nat) (w : World) (x : Value) : Prop :=
 match j with
 | 0 => x = .agg #[v1, v2]
 | 1 => x = .agg #[x1, x2, .slice S kS cS]
 | 2 => x = .int .i64 (i : Nat)
 | 3 => x = .int .i64 (kk : Nat)
 | 4 => RtP w x s
 | 5 => x = .pointer (some ⟨g, 0, none⟩)
 | 6 => x = .agg #[x1, x2]
 | 7 => x = .slice (some ⟨bo, oo, none⟩) kB cB
 | 8 => x = .int .i64 (i : Nat)
 | 9 => x = .pointer (some ⟨bo, oo + i, none⟩)
 | 10 => x = .bool bb
 | 11 => RtP w x f
 | 12 => RtP w x y
 | _ => True
theorem PhiCr.keepR {g gs : Nat} {bo oo kB cB i kk : Nat} {bb : Bool} {v1 v2 x1 x2 : Value} {S : Option Addr} {kS cS : Nat} {s f y : LP} : ∀ vs (w w' : World), Below w.heap.size w w' → ∀ j x, PhiCr g gs bo oo kB cB i kk bb v1 v2 x1 x2 S kS cS s f y vs j w x → PhiCr g gs bo oo kB cB i kk bb v1 v2 x1 x2 S kS cS s f y vs j w' x := by
 intro vs w w' hb j x h; unfold PhiCr at h ⊢
 split <;> simp only at h ⊢
 all_goals first
  | exact h
  | exact h.below hb
theorem PhiCr.keepF {g gs : Nat} {bo oo kB cB i kk : Nat} {bb : Bool} {v1 v2 x1 x2 : Value} {S : Option Addr} {kS cS : Nat} {s f y : LP} : ∀ vs (w w' : World) j x, ([] : List Nat).contains j = true → PhiCr g gs bo oo kB cB i kk bb v1 v2 x1 x2 S kS cS s f y vs j w x → PhiCr g gs bo oo kB cB i kk bb v1 v2 x1 x2 S kS cS s f y vs j w' x := by
 intro vs w w' j x hf
 cases hf
def SCr (base g4 gC : Nat) (w2 wr : World) (v : Value) (X : List LP) (y : LP) : List Value → (Nat → Value) → World → Prop
 | [], _, W => Below wr.heap.size wr W
 | [_], _, W => GoodX W gC y ∧ RatOwn W g4 v X ∧ Below base w2 W ∧ g4 ≤ W.heap.size
 | _, _, _ => True
end Go.Proofs.Ytnjjdiilkhdbeaa
namespace Go.Proofs.Ytnjjdiilkhdbeaa
open Go Go.RowKit
noncomputable def mixV (q a b : LP) : LP := addV (mulV q a) (mulV (subV oneP q) b)
/-- what the arguments of Reach and Worst say -/
def boundE (n : Int) (x : LP) : Int := if validP x ≠ 0 then validP x else if n < 0 ∨ 10 < n then 5 else 0
theorem valid_R (va : Value) (x : LP) (w : World) (h : RtP w va x) : Calls Try.prog 56 #[va] w fun e w' => e = .returned (.int .i64 (validP x)) ∧ Below w.heap.size w w' := by
 obtain ⟨A1, k1, c1, A2, k2, c2, rfl, h1, h2, e1, e2⟩ := h; exact valid_any A1 A2 k1 c1 k2 c2 _ _ w h1 h2 e1 e2
theorem rvalid_R (va : Value) (x : LP) (w : World) (h : RtP w va x) : Calls Try.prog 34 #[va] w fun e w' => e = .returned (.int .i64 (validP x)) ∧ Below w.heap.size w w' := by
 obtain ⟨A1, k1, c1, A2, k2, c2, rfl, h1, h2, e1, e2⟩ := h; exact rvalid_any A1 A2 k1 c1 k2 c2 _ _ w h1 h2 e1 e2
set_option maxRecDepth 10000 in
set_option maxHeartbeats 1000000 in
theorem wbounded_F (n : Int) (va : Value) (x : LP) (w : World) (h : RtP w va x) : Calls Try.prog 37 #[.int .i64 n, va] w fun e w' => e = .returned (.int .i64 (boundE n x)) ∧ Below w.heap.size w w' := by
 obtain ⟨A1, k1, c1, A2, k2, c2, rfl⟩ := h.shape; obtain ⟨E, HE⟩ : ∃ E, Hid (E = boundE n x) := ⟨_, rfl⟩; rw [← HE.out]; have hb1 := bA w (.cells #[.slice A1 k1 c1, .slice A2 k2 c2] 25)
 go_enter Try.func37, Try.ntmps37
 go_wp2_with fail; refine (valid_R _ x _ (h.below hb1)).mono ?_; rintro e w2 ⟨rfl, hb2⟩; by_cases h0 : validP x = 0
 ·rw [h0]; by_cases hn : n < 0
  ·have t1 : decide (n < 0) = true := by simpa using hn
   have HF : Hid (E = 5) := by show _ = _; rw [HE.out]; unfold boundE; rw [if_neg (by rw [h0]; simp), if_pos (.inl hn)]
   clear h0 HE hn; go_wp2_with fail; go_ret; exact ⟨by rw [HF.out]; rfl, Below.tr hb1 hb2⟩
  ·have t1 : decide (n < 0) = false := by simpa using hn
   by_cases hn2 : n > 10
   ·have t2 : decide (n > 10) = true := by simpa using hn2
    have HF : Hid (E = 5) := by show _ = _; rw [HE.out]; unfold boundE; rw [if_neg (by rw [h0]; simp), if_pos (.inr hn2)]
    clear h0 HE hn hn2; go_wp2_with fail; go_ret; exact ⟨by rw [HF.out]; rfl, Below.tr hb1 hb2⟩
   ·have t2 : decide (n > 10) = false := by simpa using hn2
    have HF : Hid (E = 0) := by show _ = _; rw [HE.out]; unfold boundE; rw [if_neg (by rw [h0]; simp), if_neg (by omega)]
    clear h0 HE hn hn2; go_wp2_with fail; go_ret; exact ⟨by rw [HF.out]; rfl, Below.tr hb1 hb2⟩
 ·have t1 : (validP x != 0) = true := by simpa using h0
  have HF : Hid (E = validP x) := by show _ = _; rw [HE.out]; unfold boundE; rw [if_pos h0]
  clear h0 HE; go_wp2_with fail; go_ret; exact ⟨by rw [HF.out]; rfl, Below.tr hb1 hb2⟩
def PhiMx (g ga gb gc : Nat) (a1 a2 b1 b2 d1 d2 : Value) (q a b : LP) (j : Nat) (w : World) (x : Value) : Prop :=
 match j with
 | 0 => x = .agg #[a1, a2]
 | 1 => x = .agg #[b1, b2]
 | 2 => ∃ v er, x = .tuple #[v, .int .i64 er] ∧ RtP w v (mulV q a)
 | 3 => RtP w x (mulV q a)
 | 4 => ∃ er : Int, x = .int .i64 er
 | 5 => RtP w x (mulV q a)
 | 6 => RtP w x oneP
 | 7 => x = .agg #[a1, a2]
 | 8 => ∃ v er, x = .tuple #[v, .int .i64 er] ∧ RtP w v (subV oneP q)
 | 9 => RtP w x (subV oneP q)
 | 10 => ∃ er : Int, x = .int .i64 er
 | 11 => RtP w x (subV oneP q)
 | 12 => x = .agg #[d1, d2]
 | 13 => ∃ v er, x = .tuple #[v, .int .i64 er] ∧ RtP w v (mulV (subV oneP q) b)
 | 14 => RtP w x (mulV (subV oneP q) b)
 | 15 => ∃ er : Int, x = .int .i64 er
 | 16 => RtP w x (mulV (subV oneP q) b)
 | 17 => ∃ v er, x = .tuple #[v, .int .i64 er] ∧ RtP w v (addV (mulV q a) (mulV (subV oneP q) b))
 | 18 => RtP w x (addV (mulV q a) (mulV (subV oneP q) b))
 | 19 => ∃ er : Int, x = .int .i64 er
 | 20 => RtP w x (addV (mulV q a) (mulV (subV oneP q) b))
 | 21 => GoodX w g (addV (mulV q a) (mulV (subV oneP q) b))
 | _ => True
theorem PhiMx.keep {B : Nat} {g ga gb gc : Nat} {a1 a2 b1 b2 d1 d2 : Value} {q a b : LP} : ∀ (w w' : World), RX B g (addV (mulV q a) (mulV (subV oneP q) b)) w w' → ∀ j x, PhiMx g ga gb gc a1 a2 b1 b2 d1 d2 q a b j w x → PhiMx g ga gb gc a1 a2 b1 b2 d1 d2 q a b j w' x := by
 intro w w' hr j x h; unfold PhiMx at h ⊢
 split <;> simp only at h ⊢
 all_goals first
  | exact h
  | exact h.mapL hr.lim
  | exact h.map hr
  | (obtain ⟨v, er, e, h⟩ := h; exact ⟨v, er, e, h.mapL hr.lim⟩)
set_option maxRecDepth 10000 in
set_option maxHeartbeats 2000000 in
theorem mix_F (vq va vb : Value) (q a b : LP) (w : World) (hq : RtP w vq q) (ha : RtP w va a) (hb0 : RtP w vb b) :
  Calls Try.prog 40 #[vq, va, vb] w fun e w' => ∃ v, e = .returned v ∧ RtP w' v (mixV q a b) ∧ Below w.heap.size w w' := by
 obtain ⟨A1, ak1, ac1, A2, ak2, ac2, rfl⟩ := hq.shape; obtain ⟨B1, bk1, bc1, B2, bk2, bc2, rfl⟩ := ha.shape; obtain ⟨D1, dk1, dc1, D2, dk2, dc2, rfl⟩ := hb0.shape
 go_enter Try.func40, Try.ntmps40
 go_upto_region 1 with fail; refine wp_name ?_; intro w1 HW1; have n1 : (w.alloc (.cells #[.slice A1 ak1 ac1, .slice A2 ak2 ac2] 25)).heap.size = w.heap.size + 1 := by simp
 have n2 : ((w.alloc (.cells #[.slice A1 ak1 ac1, .slice A2 ak2 ac2] 25)).alloc (.cells #[.slice B1 bk1 bc1, .slice B2 bk2 bc2] 25)).heap.size = w.heap.size + 2 := by simp
 have n3 : (((w.alloc (.cells #[.slice A1 ak1 ac1, .slice A2 ak2 ac2] 25)).alloc (.cells #[.slice B1 bk1 bc1, .slice B2 bk2 bc2] 25)).alloc (.cells #[.slice D1 dk1 dc1, .slice D2 dk2 dc2] 25)).heap.size = w.heap.size + 3 := by simp
 have k1 := bA w (.cells #[.slice A1 ak1 ac1, .slice A2 ak2 ac2] 25); have k2 := bA (w.alloc (.cells #[.slice A1 ak1 ac1, .slice A2 ak2 ac2] 25)) (.cells #[.slice B1 bk1 bc1, .slice B2 bk2 bc2] 25); have k3 := bA ((w.alloc (.cells #[.slice A1 ak1 ac1, .slice A2 ak2 ac2] 25)).alloc (.cells #[.slice B1 bk1 bc1, .slice B2 bk2 bc2] 25)) (.cells #[.slice D1 dk1 dc1, .slice D2 dk2 dc2] 25); have k4 := bA (((w.alloc (.cells #[.slice A1 ak1 ac1, .slice A2 ak2 ac2] 25)).alloc (.cells #[.slice B1 bk1 bc1, .slice B2 bk2 bc2] 25)).alloc (.cells #[.slice D1 dk1 dc1, .slice D2 dk2 dc2] 25)) (.cells #[.slice none 0 0, .slice none 0 0] 25); have hx : Blk w1 w.heap.size 25 #[.slice A1 ak1 ac1, .slice A2 ak2 ac2] := by rw [HW1.out]; exact Blk.below (Blk.new w _ _) (Below.tr (Below.tr k2 k3) k4) (Blk.new w _ _).lt
 have hy : Blk w1 (w.heap.size + 1) 25 #[.slice B1 bk1 bc1, .slice B2 bk2 bc2] := by
  rw [HW1.out, ← n1]; exact Blk.below (Blk.new _ _ _) (Below.tr k3 k4) (Blk.new _ _ _).lt
 have hu : Blk w1 (w.heap.size + 2) 25 #[.slice D1 dk1 dc1, .slice D2 dk2 dc2] := by
  rw [HW1.out, ← n2]; exact Blk.below (Blk.new _ _ _) k4 (Blk.new _ _ _).lt
 have hz : Sl w1 (w.heap.size + 3) := by
  rw [HW1.out, ← n3]; exact Sl.new2 _
 have hb1 : Below w.heap.size w w1 := by rw [HW1.out]; exact Below.tr (Below.tr (Below.tr k1 k2) k3) k4
 clear HW1 n1 n2 n3 k1 k2 k3 k4; have p0 := hx.cell 0; have p1 := hx.cell 1; have p2 := hy.cell 0; have p3 := hy.cell 1; have p4 := hu.cell 0; have p5 := hu.cell 1; simp only [List.getElem?_toArray, List.getElem?_cons_zero, List.getElem?_cons_succ] at p0 p1 p2 p3 p4 p5
 have hS1 : SX w (w.heap.size + 3) [(w.heap.size, 0, .slice A1 ak1 ac1), (w.heap.size, 1, .slice A2 ak2 ac2), (w.heap.size + 1, 0, .slice B1 bk1 bc1), (w.heap.size + 1, 1, .slice B2 bk2 bc2), (w.heap.size + 2, 0, .slice D1 dk1 dc1), (w.heap.size + 2, 1, .slice D2 dk2 dc2)] w1 := by
  refine ⟨?_, hz, hb1, by omega⟩; intro x hx'; simp only [List.mem_cons, List.not_mem_nil, or_false] at hx'
  rcases hx' with rfl | rfl | rfl | rfl | rfl | rfl
  ·exact ⟨p0, by show w.heap.size ≠ w.heap.size + 3; omega⟩
  ·exact ⟨p1, by show w.heap.size ≠ w.heap.size + 3; omega⟩
  ·exact ⟨p2, by show w.heap.size + 1 ≠ w.heap.size + 3; omega⟩
  ·exact ⟨p3, by show w.heap.size + 1 ≠ w.heap.size + 3; omega⟩
  ·exact ⟨p4, by show w.heap.size + 2 ≠ w.heap.size + 3; omega⟩
  ·exact ⟨p5, by show w.heap.size + 2 ≠ w.heap.size + 3; omega⟩
 clear p0 p1 p2 p3 p4 p5 hx hy hu hz hb1; refine region_inv (PhiMx (w.heap.size + 3) w.heap.size (w.heap.size + 1) (w.heap.size + 2) (.slice A1 ak1 ac1) (.slice A2 ak2 ac2) (.slice B1 bk1 bc1) (.slice B2 bk2 bc2) (.slice D1 dk1 dc1) (.slice D2 dk2 dc2) q a b) (RX w.heap.size (w.heap.size + 3) (addV (mulV q a) (mulV (subV oneP q) b))) (SX w (w.heap.size + 3) [(w.heap.size, 0, .slice A1 ak1 ac1), (w.heap.size, 1, .slice A2 ak2 ac2), (w.heap.size + 1, 0, .slice B1 bk1 bc1), (w.heap.size + 1, 1, .slice B2 bk2 bc2), (w.heap.size + 2, 0, .slice D1 dk1 dc1), (w.heap.size + 2, 1, .slice D2 dk2 dc2)]) (by kernel_rfl) (by kernel_rfl) (by kernel_rfl) PhiMx.keep (fun _ _ hR hS => hS.step hR) (hS1.below (bD _)) ?_ ?_
 ·refine sK ?_ (sK ?_ (sK ?_ (sK ?_ (sK ?_ (sK ?_ (sK ?_ (sK ?_ (sK ?_ (sK ?_ (sK ?_ (sK ?_ (sK ?_ (sK ?_ (sK ?_ (sK ?_ (sK ?_ (sK ?_ (sK ?_ (sK ?_ (sK ?_ (sK ?_ (sZ))))))))))))))))))))))
  ·intro vs W hS hdep K hK; have f1 := (hS.cl (w.heap.size, 0, .slice A1 ak1 ac1) (by simp)).1; have f2 := (hS.cl (w.heap.size, 1, .slice A2 ak2 ac2) (by simp)).1; refine ⟨?_⟩; simp only [fillR, Act.put, sA, sB, sC, Nat.zero_add, Nat.reduceAdd] at hK ⊢; go_simp; with_reducible refine hK _ _ (RX.refl _) ?_
   exact rfl
  ·intro vs W hS hdep K hK; have f1 := (hS.cl ((w.heap.size + 1), 0, .slice B1 bk1 bc1) (by simp)).1; have f2 := (hS.cl ((w.heap.size + 1), 1, .slice B2 bk2 bc2) (by simp)).1; refine ⟨?_⟩; simp only [fillR, Act.put, sA, sB, sC, Nat.zero_add, Nat.reduceAdd] at hK ⊢; go_simp; with_reducible refine hK _ _ (RX.refl _) ?_
   exact rfl
  ·intro vs W hS hdep K hK; have d0 := hdep ⟨0, .data⟩ (by simp) rfl; simp only [PhiMx] at d0; have d1 := hdep ⟨1, .data⟩ (by simp) rfl; simp only [PhiMx] at d1; refine ⟨?_⟩; simp only [fillR, Act.put, sA, sB, sC, Nat.zero_add, Nat.reduceAdd, d0, d1] at hK ⊢; go_simp; refine (mul_V _ _ q a _ (hq.below hS.be) (ha.below hS.be)).mono ?_; rintro e w' ⟨v, er, rfl, hv, hb⟩; go_wp2_with fail; with_reducible refine hK _ _ (RX.below hb hS.size hS.lt) ?_
   exact ⟨v, er, rfl, hv⟩
  ·intro vs W hS hdep K hK; have d0 := hdep ⟨2, .data⟩ (by simp) rfl; simp only [PhiMx] at d0; refine @exE2 _ _ _ _ d0 ?_; clear d0; intro v0 er0 d0; have e0 := d0.1; have n0 := d0.2; clear d0; refine ⟨?_⟩; simp only [fillR, Act.put, sA, sB, sC, Nat.zero_add, Nat.reduceAdd, e0] at hK ⊢; go_simp; with_reducible refine hK _ _ (RX.refl _) ?_
   exact n0
  ·intro vs W hS hdep K hK; have d0 := hdep ⟨2, .data⟩ (by simp) rfl; simp only [PhiMx] at d0; refine @exE2 _ _ _ _ d0 ?_; clear d0; intro v0 er0 d0; have e0 := d0.1; have n0 := d0.2; clear d0; refine ⟨?_⟩; simp only [fillR, Act.put, sA, sB, sC, Nat.zero_add, Nat.reduceAdd, e0] at hK ⊢; go_simp; with_reducible refine hK _ _ (RX.refl _) ?_
   exact ⟨_, rfl⟩
  ·intro vs W hS hdep K hK; have d0 := hdep ⟨3, .data⟩ (by simp) rfl; simp only [PhiMx] at d0; have r0 := d0; clear d0; have d1 := hdep ⟨4, .data⟩ (by simp) rfl; simp only [PhiMx] at d1; refine @exE1 _ _ _ d1 ?_; clear d1; intro er1 d1; have e1 := d1; clear d1; refine ⟨?_⟩; simp only [fillR, Act.put, sA, sB, sC, Nat.zero_add, Nat.reduceAdd, e1] at hK ⊢; go_simp; refine (sure_F _ _ (mulV q a) _ r0).mono ?_; rintro e w' ⟨v, rfl, hv, hb⟩; go_wp2_with fail; with_reducible refine hK _ _ (RX.below hb hS.size hS.lt) ?_
   exact hv
  ·intro vs W hS hdep K hK; refine ⟨?_⟩; simp only [fillR, Act.put, sA, sB, sC, Nat.zero_add, Nat.reduceAdd] at hK ⊢; go_simp; refine (wone_F _).mono ?_; rintro e w' ⟨v, rfl, hv, hb⟩; go_wp2_with fail; with_reducible refine hK _ _ (RX.below hb hS.size hS.lt) ?_
   exact hv
  ·intro vs W hS hdep K hK; have f1 := (hS.cl (w.heap.size, 0, .slice A1 ak1 ac1) (by simp)).1; have f2 := (hS.cl (w.heap.size, 1, .slice A2 ak2 ac2) (by simp)).1; refine ⟨?_⟩; simp only [fillR, Act.put, sA, sB, sC, Nat.zero_add, Nat.reduceAdd] at hK ⊢; go_simp; with_reducible refine hK _ _ (RX.refl _) ?_
   exact rfl
  ·intro vs W hS hdep K hK; have d0 := hdep ⟨6, .data⟩ (by simp) rfl; simp only [PhiMx] at d0; have r0 := d0; clear d0; have d1 := hdep ⟨7, .data⟩ (by simp) rfl; simp only [PhiMx] at d1; refine ⟨?_⟩; simp only [fillR, Act.put, sA, sB, sC, Nat.zero_add, Nat.reduceAdd, d1] at hK ⊢; go_simp; refine (sub_V _ _ oneP q _ r0 (hq.below hS.be)).mono ?_; rintro e w' ⟨v, er, rfl, hv, hb⟩; go_wp2_with fail; with_reducible refine hK _ _ (RX.below hb hS.size hS.lt) ?_
   exact ⟨v, er, rfl, hv⟩
  ·intro vs W hS hdep K hK; have d0 := hdep ⟨8, .data⟩ (by simp) rfl; simp only [PhiMx] at d0; refine @exE2 _ _ _ _ d0 ?_; clear d0; intro v0 er0 d0; have e0 := d0.1; have n0 := d0.2; clear d0; refine ⟨?_⟩; simp only [fillR, Act.put, sA, sB, sC, Nat.zero_add, Nat.reduceAdd, e0] at hK ⊢; go_simp; with_reducible refine hK _ _ (RX.refl _) ?_
   exact n0
  ·intro vs W hS hdep K hK; have d0 := hdep ⟨8, .data⟩ (by simp) rfl; simp only [PhiMx] at d0; refine @exE2 _ _ _ _ d0 ?_; clear d0; intro v0 er0 d0; have e0 := d0.1; have n0 := d0.2; clear d0; refine ⟨?_⟩; simp only [fillR, Act.put, sA, sB, sC, Nat.zero_add, Nat.reduceAdd, e0] at hK ⊢; go_simp; with_reducible refine hK _ _ (RX.refl _) ?_
   exact ⟨_, rfl⟩
  ·intro vs W hS hdep K hK; have d0 := hdep ⟨9, .data⟩ (by simp) rfl; simp only [PhiMx] at d0; have r0 := d0; clear d0; have d1 := hdep ⟨10, .data⟩ (by simp) rfl; simp only [PhiMx] at d1; refine @exE1 _ _ _ d1 ?_; clear d1; intro er1 d1; have e1 := d1; clear d1; refine ⟨?_⟩; simp only [fillR, Act.put, sA, sB, sC, Nat.zero_add, Nat.reduceAdd, e1] at hK ⊢; go_simp; refine (sure_F _ _ (subV oneP q) _ r0).mono ?_; rintro e w' ⟨v, rfl, hv, hb⟩; go_wp2_with fail; with_reducible refine hK _ _ (RX.below hb hS.size hS.lt) ?_
   exact hv
  ·intro vs W hS hdep K hK; have f1 := (hS.cl ((w.heap.size + 2), 0, .slice D1 dk1 dc1) (by simp)).1; have f2 := (hS.cl ((w.heap.size + 2), 1, .slice D2 dk2 dc2) (by simp)).1; refine ⟨?_⟩; simp only [fillR, Act.put, sA, sB, sC, Nat.zero_add, Nat.reduceAdd] at hK ⊢; go_simp; with_reducible refine hK _ _ (RX.refl _) ?_
   exact rfl
  ·intro vs W hS hdep K hK; have d0 := hdep ⟨11, .data⟩ (by simp) rfl; simp only [PhiMx] at d0; have r0 := d0; clear d0; have d1 := hdep ⟨12, .data⟩ (by simp) rfl; simp only [PhiMx] at d1; refine ⟨?_⟩; simp only [fillR, Act.put, sA, sB, sC, Nat.zero_add, Nat.reduceAdd, d1] at hK ⊢; go_simp; refine (mul_V _ _ (subV oneP q) b _ r0 (hb0.below hS.be)).mono ?_; rintro e w' ⟨v, er, rfl, hv, hb⟩; go_wp2_with fail; with_reducible refine hK _ _ (RX.below hb hS.size hS.lt) ?_
   exact ⟨v, er, rfl, hv⟩
  ·intro vs W hS hdep K hK; have d0 := hdep ⟨13, .data⟩ (by simp) rfl; simp only [PhiMx] at d0; refine @exE2 _ _ _ _ d0 ?_; clear d0; intro v0 er0 d0; have e0 := d0.1; have n0 := d0.2; clear d0; refine ⟨?_⟩; simp only [fillR, Act.put, sA, sB, sC, Nat.zero_add, Nat.reduceAdd, e0] at hK ⊢; go_simp; with_reducible refine hK _ _ (RX.refl _) ?_
   exact n0
  ·intro vs W hS hdep K hK; have d0 := hdep ⟨13, .data⟩ (by simp) rfl; simp only [PhiMx] at d0; refine @exE2 _ _ _ _ d0 ?_; clear d0; intro v0 er0 d0; have e0 := d0.1; have n0 := d0.2; clear d0; refine ⟨?_⟩; simp only [fillR, Act.put, sA, sB, sC, Nat.zero_add, Nat.reduceAdd, e0] at hK ⊢; go_simp; with_reducible refine hK _ _ (RX.refl _) ?_
   exact ⟨_, rfl⟩
  ·intro vs W hS hdep K hK; have d0 := hdep ⟨14, .data⟩ (by simp) rfl; simp only [PhiMx] at d0; have r0 := d0; clear d0; have d1 := hdep ⟨15, .data⟩ (by simp) rfl; simp only [PhiMx] at d1; refine @exE1 _ _ _ d1 ?_; clear d1; intro er1 d1; have e1 := d1; clear d1; refine ⟨?_⟩; simp only [fillR, Act.put, sA, sB, sC, Nat.zero_add, Nat.reduceAdd, e1] at hK ⊢; go_simp; refine (sure_F _ _ (mulV (subV oneP q) b) _ r0).mono ?_; rintro e w' ⟨v, rfl, hv, hb⟩; go_wp2_with fail; with_reducible refine hK _ _ (RX.below hb hS.size hS.lt) ?_
   exact hv
  ·intro vs W hS hdep K hK; have d0 := hdep ⟨5, .data⟩ (by simp) rfl; simp only [PhiMx] at d0; have r0 := d0; clear d0; have d1 := hdep ⟨16, .data⟩ (by simp) rfl; simp only [PhiMx] at d1; have r1 := d1; clear d1; refine ⟨?_⟩; simp only [fillR, Act.put, sA, sB, sC, Nat.zero_add, Nat.reduceAdd] at hK ⊢; go_simp; refine (add_V _ _ (mulV q a) (mulV (subV oneP q) b) _ r0 r1).mono ?_; rintro e w' ⟨v, er, rfl, hv, hb⟩; go_wp2_with fail; with_reducible refine hK _ _ (RX.below hb hS.size hS.lt) ?_
   exact ⟨v, er, rfl, hv⟩
  ·intro vs W hS hdep K hK; have d0 := hdep ⟨17, .data⟩ (by simp) rfl; simp only [PhiMx] at d0; refine @exE2 _ _ _ _ d0 ?_; clear d0; intro v0 er0 d0; have e0 := d0.1; have n0 := d0.2; clear d0; refine ⟨?_⟩; simp only [fillR, Act.put, sA, sB, sC, Nat.zero_add, Nat.reduceAdd, e0] at hK ⊢; go_simp; with_reducible refine hK _ _ (RX.refl _) ?_
   exact n0
  ·intro vs W hS hdep K hK; have d0 := hdep ⟨17, .data⟩ (by simp) rfl; simp only [PhiMx] at d0; refine @exE2 _ _ _ _ d0 ?_; clear d0; intro v0 er0 d0; have e0 := d0.1; have n0 := d0.2; clear d0; refine ⟨?_⟩; simp only [fillR, Act.put, sA, sB, sC, Nat.zero_add, Nat.reduceAdd, e0] at hK ⊢; go_simp; with_reducible refine hK _ _ (RX.refl _) ?_
   exact ⟨_, rfl⟩
  ·intro vs W hS hdep K hK; have d0 := hdep ⟨18, .data⟩ (by simp) rfl; simp only [PhiMx] at d0; have r0 := d0; clear d0; have d1 := hdep ⟨19, .data⟩ (by simp) rfl; simp only [PhiMx] at d1; refine @exE1 _ _ _ d1 ?_; clear d1; intro er1 d1; have e1 := d1; clear d1; refine ⟨?_⟩; simp only [fillR, Act.put, sA, sB, sC, Nat.zero_add, Nat.reduceAdd, e1] at hK ⊢; go_simp; refine (sure_F _ _ (addV (mulV q a) (mulV (subV oneP q) b)) _ r0).mono ?_; rintro e w' ⟨v, rfl, hv, hb⟩; go_wp2_with fail; with_reducible refine hK _ _ (RX.below hb hS.size hS.lt) ?_
   exact hv
  ·intro vs W hS hdep K hK; have d0 := hdep ⟨20, .data⟩ (by simp) rfl; simp only [PhiMx] at d0; have r0 := d0; clear d0; obtain ⟨A, k, c, A', k', c', e0⟩ := r0.shape; rw [e0] at r0; obtain ⟨r1, r2, r3, r4, r5, r6, hres⟩ := hS.sl; have q1 := hres.cell 0; have q2 := hres.cell 1; have q3 := hres.frozen 0; have q4 := hres.frozen 1; simp at q1 q2; have HR := Lib.hid (RX.store (B := w.heap.size) hS.sl hS.ge r0); clear hres; refine ⟨?_⟩; simp only [fillR, Act.put, sA, sB, sC, Nat.zero_add, Nat.reduceAdd, e0] at hK ⊢; go_simp; with_reducible refine hK undef _ HR.out.1 ?_
   exact HR.out.2
 ·intro vs W hS hv; have vG := hv 21 (by simp); simp only [PhiMx] at vG; obtain ⟨A, k, c, A', k', c', hblk, hP⟩ := vG; have q1 := hblk.cell 0; have q2 := hblk.cell 1; simp at q1 q2; have HP := Lib.hid hP; have hbz := hS.be; clear hv hblk hP hS; simp only [fillR, Act.put, sA, sB, sC, Nat.zero_add, Nat.reduceAdd]; go_wp2_with fail; exact bodyPost_ret (v := .agg #[.slice A k c, .slice A' k' c']) (by simp [results, Try.results40, go_sem, q1, q2]) rfl ⟨_, rfl, HP.out, hbz⟩
/-- what Factor says -/
noncomputable def facE (b : LP) (rows : List (List LP)) (n k : Int) : Int := if planE b rows ≠ 0 then planE b rows else if n < 0 ∨ k < 0 ∨ n < k then 5 else 0
end Go.Proofs.Ytnjjdiilkhdbeaa
