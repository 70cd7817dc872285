import Derived.Test.YtnjjdiilkhdbeaaGreatKReaProof26
import Derived.Test.YtnjjdiilkhdbeaaGreatKReaProof28
import Derived.Test.YtnjjdiilkhdbeaaGreatS0
set_option linter.unusedVariables false
set_option linter.unusedSimpArgs false
namespace Go.Proofs.YtnjjdiilkhdbeaaGreat
open Go Go.RowKit
/-- a list of three plans -/
def PL3 (w : World) (g : Nat) : Prop := ∀ i, i < 3 → ∃ z1 z2 z3 b rows, w.cell? ⟨g, i * 3, none⟩ = some z1 ∧ w.cell? ⟨g, i * 3 + 1, none⟩ = some z2 ∧ w.cell? ⟨g, i * 3 + 2, none⟩ = some z3 ∧ PlanV w (.agg #[z1, z2, z3]) b rows
theorem PL3.below {w w' : World} {g : Nat} (h : PL3 w g) (hb : Below w.heap.size w w') : PL3 w' g := fun i hi => by
 obtain ⟨z1, z2, z3, b, rows, c1, c2, c3, hp⟩ := h i hi; exact ⟨z1, z2, z3, b, rows, cell_keep hb c1, cell_keep hb c2, cell_keep hb c3, hp.below hb⟩
theorem PL3.new (w : World) (T : TypeId) (x1 x2 x3 y1 y2 y3 u1 u2 u3 : Value) (b b' b'' : LP) (rows rows' rows'' : List (List LP)) (h1 : PlanV w (.agg #[x1, x2, x3]) b rows) (h2 : PlanV w (.agg #[y1, y2, y3]) b' rows') (h3 : PlanV w (.agg #[u1, u2, u3]) b'' rows'') : PL3 (w.alloc (.cells #[x1, x2, x3, y1, y2, y3, u1, u2, u3] T)) w.heap.size := by
 have hB := Blk.new w T #[x1, x2, x3, y1, y2, y3, u1, u2, u3]; have hb := bA w (.cells #[x1, x2, x3, y1, y2, y3, u1, u2, u3] T); intro i hi; have h : i = 0 ∨ i = 1 ∨ i = 2 := by omega
 rcases h with rfl | rfl | rfl
 ·exact ⟨_, _, _, _, _, by rw [hB.cell]; rfl, by rw [hB.cell]; rfl, by rw [hB.cell]; rfl, h1.below hb⟩
 ·exact ⟨_, _, _, _, _, by rw [hB.cell]; rfl, by rw [hB.cell]; rfl, by rw [hB.cell]; rfl, h2.below hb⟩
 ·exact ⟨_, _, _, _, _, by rw [hB.cell]; rfl, by rw [hB.cell]; rfl, by rw [hB.cell]; rfl, h3.below hb⟩
theorem fill_p3 (A0 B0 C0 A1 B1 C1 A2 B2 C2 : Option Addr) (k0 c0 m0 d0 n0 e0 k1 c1 m1 d1 n1 e1 k2 c2 m2 d2 n2 e2 : Nat) : Instr.fill (fun i => some (i * 3, 3)) ((Array.range (3 * 3)).map (nilPlan.cells[· % nilPlan.cells.size]!)) [(0, .agg #[.slice A0 k0 c0, .slice B0 m0 d0, .slice C0 n0 e0]), (1, .agg #[.slice A1 k1 c1, .slice B1 m1 d1, .slice C1 n1 e1]), (2, .agg #[.slice A2 k2 c2, .slice B2 m2 d2, .slice C2 n2 e2])] = some #[.slice A0 k0 c0, .slice B0 m0 d0, .slice C0 n0 e0, .slice A1 k1 c1, .slice B1 m1 d1, .slice C1 n1 e1, .slice A2 k2 c2, .slice B2 m2 d2, .slice C2 n2 e2] := by kernel_rfl
def PhiY2 (p0 : Value) (how by_ : Int) (j : Nat) (w : World) (x : Value) : Prop :=
 match j with
 | 0 => x = p0
 | 1 => x = p0
 | 2 => x = .int .i64 how
 | 3 => x = .int .i64 by_
 | 4 => ∃ b' rows', PlanV w x b' rows'
 | 5 => x = p0
 | 6 => ∃ g, x = .slice (some ⟨g, 0, none⟩) 3 3 ∧ PL3 w g
 | 7 => ∃ g, x = .slice (some ⟨g, 0, none⟩) 3 3 ∧ PL3 w g
 | _ => True
theorem PhiY2.keep {p0 : Value} {how by_ : Int} : ∀ (w w' : World), Below w.heap.size w w' → ∀ j x, PhiY2 p0 how by_ j w x → PhiY2 p0 how by_ j w' x := by
 intro w w' hb j x h; unfold PhiY2 at h ⊢
 split <;> simp only at h ⊢
 all_goals first
  | exact h
  | exact h.below hb
  | (obtain ⟨b, r, h⟩ := h; exact ⟨b, r, h.below hb⟩)
  | (obtain ⟨g, e, h⟩ := h; exact ⟨g, e, h.below hb⟩)
def PhiY3 (n1 n2 : Int) (r1 r2 : Value) (j : Nat) (w : World) (x : Value) : Prop :=
 match j with
 | 0 => x = .int .i64 n1
 | 1 => x = .int .i64 n2
 | 2 => ∃ X, RtP w x X
 | 3 => x = .int .i64 n2
 | 4 => x = .int .i64 n1
 | 5 => ∃ X, RtP w x X
 | 6 => x = .agg #[r1, r2]
 | 7 => ∃ g qs, x = .slice (some ⟨g, 0, none⟩) 3 3 ∧ RatRow w (some ⟨g, 0, none⟩) 3 qs
 | 8 => ∃ g qs, x = .slice (some ⟨g, 0, none⟩) 3 3 ∧ RatRow w (some ⟨g, 0, none⟩) 3 qs
 | _ => True
theorem PhiY3.keep {n1 n2 : Int} {r1 r2 : Value} : ∀ (w w' : World), Below w.heap.size w w' → ∀ j x, PhiY3 n1 n2 r1 r2 j w x → PhiY3 n1 n2 r1 r2 j w' x := by
 intro w w' hb j x h; unfold PhiY3 at h ⊢
 split <;> simp only at h ⊢
 all_goals first
  | exact h
  | exact h.below hb
  | (obtain ⟨X, h⟩ := h; exact ⟨X, h.below hb⟩)
  | (obtain ⟨g, qs, e, h⟩ := h; exact ⟨g, qs, e, h.below hb⟩)
def PhiY4 (how by_ : Int) (r1 r2 : Value) (j : Nat) (w : World) (x : Value) : Prop :=
 match j with
 | 0 => x = .int .i64 by_
 | 1 => ∃ y : Nat, x = .int .i64 (y : Nat) ∧ y < 258
 | 2 => ∃ y : Nat, x = .int .i64 (y : Nat) ∧ 0 < y ∧ y ≤ 1000
 | 3 => x = .int .i64 how
 | 4 => ∃ y : Nat, x = .int .i64 (y : Nat) ∧ y < 258
 | 5 => ∃ y : Nat, x = .int .i64 (y : Nat) ∧ 0 < y ∧ y ≤ 1000
 | 6 => ∃ X, RtP w x X
 | 7 => x = .agg #[r1, r2]
 | 8 => x = .int .i64 by_
 | 9 => ∃ y : Nat, x = .int .i64 (y : Nat) ∧ y < 258
 | 10 => ∃ X, RtP w x X
 | 11 => ∃ g qs, x = .slice (some ⟨g, 0, none⟩) 3 3 ∧ RatRow w (some ⟨g, 0, none⟩) 3 qs
 | 12 => ∃ g qs, x = .slice (some ⟨g, 0, none⟩) 3 3 ∧ RatRow w (some ⟨g, 0, none⟩) 3 qs
 | _ => True
theorem PhiY4.keep {how by_ : Int} {r1 r2 : Value} : ∀ (w w' : World), Below w.heap.size w w' → ∀ j x, PhiY4 how by_ r1 r2 j w x → PhiY4 how by_ r1 r2 j w' x := by
 intro w w' hb j x h; unfold PhiY4 at h ⊢
 split <;> simp only at h ⊢
 all_goals first
  | exact h
  | exact h.below hb
  | (obtain ⟨X, h⟩ := h; exact ⟨X, h.below hb⟩)
  | (obtain ⟨g, qs, e, h⟩ := h; exact ⟨g, qs, e, h.below hb⟩)
def PhiYa (gL gM gI gV i : Nat) (z1 z2 z3 y1 y2 l1 l2 : Value) (z E : Int) (X : LP) (B : Nat) (j : Nat) (w : World) (x : Value) : Prop :=
 match j with
 | 0 => x = .slice (some ⟨gL, 0, none⟩) 3 3
 | 1 => x = .int .i64 (i : Nat)
 | 2 => x = .pointer (some ⟨gL, i * 3, none⟩)
 | 3 => x = .agg #[z1, z2, z3]
 | 4 => x = .agg #[z1, z2, z3]
 | 5 => x = .slice (some ⟨gM, 0, none⟩) 3 3
 | 6 => x = .int .i64 (i : Nat)
 | 7 => x = .pointer (some ⟨gM, i * 2, none⟩)
 | 8 => x = .agg #[y1, y2]
 | 9 => x = .slice (some ⟨gI, 0, none⟩) 3 3
 | 10 => x = .int .i64 (i : Nat)
 | 11 => x = .pointer (some ⟨gI, i, none⟩)
 | 12 => x = .int .i64 z
 | 13 => x = .slice (some ⟨gV, 0, none⟩) 3 3
 | 14 => x = .int .i64 (i : Nat)
 | 15 => x = .pointer (some ⟨gV, i * 2, none⟩)
 | 16 => x = .agg #[l1, l2]
 | 17 => ∃ v, x = .tuple #[v, .int .i64 E] ∧ RtP w v X
 | 18 => ∃ v, x = .tuple #[v, .int .i64 E] ∧ RtP w v X
 | 19 => ∃ A k c A' k' c', x = .agg #[.slice A k c, .slice A' k' c'] ∧ RtP w (.agg #[.slice A k c, .slice A' k' c']) X
 | 20 => x = .int .i64 E
 | 21 => ∃ g, x = .pointer (some ⟨g, 0, none⟩) ∧ B ≤ g ∧ Sl w g
 | 22 => True
 | 23 => x = .int .i64 E
 | _ => True
theorem PhiYa.keep {gL gM gI gV i : Nat} {z1 z2 z3 y1 y2 l1 l2 : Value} {z E : Int} {X : LP} {B : Nat} : ∀ (w w' : World), RT B w w' → ∀ j x, PhiYa gL gM gI gV i z1 z2 z3 y1 y2 l1 l2 z E X B j w x → PhiYa gL gM gI gV i z1 z2 z3 y1 y2 l1 l2 z E X B j w' x := by
 intro w w' hr j x h; unfold PhiYa at h ⊢
 split <;> simp only at h ⊢
 all_goals first
  | exact h
  | (obtain ⟨v, e, h⟩ := h; exact ⟨v, e, h.mapL hr.lim⟩)
  | (obtain ⟨A, k, c, A', k', c', e, h⟩ := h; exact ⟨A, k, c, A', k', c', e, h.mapL hr.lim⟩)
  | (obtain ⟨g, e, h1, h2⟩ := h; exact ⟨g, e, h1, hr.sl g h2⟩)
  | exact h.mapL hr.lim
def PhiYb (gL gM gI gV i : Nat) (z1 z2 z3 y1 y2 l1 l2 : Value) (z E : Int) (X : LP) (B : Nat) (j : Nat) (w : World) (x : Value) : Prop :=
 match j with
 | 0 => x = .slice (some ⟨gL, 0, none⟩) 3 3
 | 1 => x = .int .i64 (i : Nat)
 | 2 => x = .pointer (some ⟨gL, i * 3, none⟩)
 | 3 => x = .agg #[z1, z2, z3]
 | 4 => x = .slice (some ⟨gM, 0, none⟩) 3 3
 | 5 => x = .int .i64 (i : Nat)
 | 6 => x = .pointer (some ⟨gM, i * 2, none⟩)
 | 7 => x = .agg #[y1, y2]
 | 8 => x = .slice (some ⟨gI, 0, none⟩) 3 3
 | 9 => x = .int .i64 (i : Nat)
 | 10 => x = .pointer (some ⟨gI, i, none⟩)
 | 11 => x = .int .i64 z
 | 12 => x = .slice (some ⟨gV, 0, none⟩) 3 3
 | 13 => x = .int .i64 (i : Nat)
 | 14 => x = .pointer (some ⟨gV, i * 2, none⟩)
 | 15 => x = .agg #[l1, l2]
 | 16 => ∃ v, x = .tuple #[v, .int .i64 E] ∧ RtP w v X
 | 17 => ∃ v, x = .tuple #[v, .int .i64 E] ∧ RtP w v X
 | 18 => ∃ A k c A' k' c', x = .agg #[.slice A k c, .slice A' k' c'] ∧ RtP w (.agg #[.slice A k c, .slice A' k' c']) X
 | 19 => x = .int .i64 E
 | 20 => ∃ g, x = .pointer (some ⟨g, 0, none⟩) ∧ B ≤ g ∧ Sl w g
 | 21 => True
 | 22 => x = .int .i64 E
 | _ => True
theorem PhiYb.keep {gL gM gI gV i : Nat} {z1 z2 z3 y1 y2 l1 l2 : Value} {z E : Int} {X : LP} {B : Nat} : ∀ (w w' : World), RT B w w' → ∀ j x, PhiYb gL gM gI gV i z1 z2 z3 y1 y2 l1 l2 z E X B j w x → PhiYb gL gM gI gV i z1 z2 z3 y1 y2 l1 l2 z E X B j w' x := by
 intro w w' hr j x h; unfold PhiYb at h ⊢
 split <;> simp only at h ⊢
 all_goals first
  | exact h
  | (obtain ⟨v, e, h⟩ := h; exact ⟨v, e, h.mapL hr.lim⟩)
  | (obtain ⟨A, k, c, A', k', c', e, h⟩ := h; exact ⟨A, k, c, A', k', c', e, h.mapL hr.lim⟩)
  | (obtain ⟨g, e, h1, h2⟩ := h; exact ⟨g, e, h1, hr.sl g h2⟩)
  | exact h.mapL hr.lim
def PhiYc (gL gM gI gV i : Nat) (z1 z2 z3 y1 y2 l1 l2 : Value) (z E : Int) (X : LP) (B : Nat) (j : Nat) (w : World) (x : Value) : Prop :=
 match j with
 | 0 => x = .slice (some ⟨gL, 0, none⟩) 3 3
 | 1 => x = .int .i64 (i : Nat)
 | 2 => x = .pointer (some ⟨gL, i * 3, none⟩)
 | 3 => x = .agg #[z1, z2, z3]
 | 4 => x = .agg #[z1, z2, z3]
 | 5 => x = .slice (some ⟨gI, 0, none⟩) 3 3
 | 6 => x = .int .i64 (i : Nat)
 | 7 => x = .pointer (some ⟨gI, i, none⟩)
 | 8 => x = .int .i64 z
 | 9 => x = .slice (some ⟨gV, 0, none⟩) 3 3
 | 10 => x = .int .i64 (i : Nat)
 | 11 => x = .pointer (some ⟨gV, i * 2, none⟩)
 | 12 => x = .agg #[l1, l2]
 | 13 => ∃ v, x = .tuple #[v, .int .i64 E] ∧ RtP w v X
 | 14 => ∃ v, x = .tuple #[v, .int .i64 E] ∧ RtP w v X
 | 15 => ∃ A k c A' k' c', x = .agg #[.slice A k c, .slice A' k' c'] ∧ RtP w (.agg #[.slice A k c, .slice A' k' c']) X
 | 16 => x = .int .i64 E
 | 17 => ∃ g, x = .pointer (some ⟨g, 0, none⟩) ∧ B ≤ g ∧ Sl w g
 | 18 => True
 | 19 => x = .int .i64 E
 | _ => True
theorem PhiYc.keep {gL gM gI gV i : Nat} {z1 z2 z3 y1 y2 l1 l2 : Value} {z E : Int} {X : LP} {B : Nat} : ∀ (w w' : World), RT B w w' → ∀ j x, PhiYc gL gM gI gV i z1 z2 z3 y1 y2 l1 l2 z E X B j w x → PhiYc gL gM gI gV i z1 z2 z3 y1 y2 l1 l2 z E X B j w' x := by
 intro w w' hr j x h; unfold PhiYc at h ⊢
 split <;> simp only at h ⊢
 all_goals first
  | exact h
  | (obtain ⟨v, e, h⟩ := h; exact ⟨v, e, h.mapL hr.lim⟩)
  | (obtain ⟨A, k, c, A', k', c', e, h⟩ := h; exact ⟨A, k, c, A', k', c', e, h.mapL hr.lim⟩)
  | (obtain ⟨g, e, h1, h2⟩ := h; exact ⟨g, e, h1, hr.sl g h2⟩)
  | exact h.mapL hr.lim
def PhiYd (gL gM gI gV i : Nat) (z1 z2 z3 y1 y2 l1 l2 : Value) (z E : Int) (X : LP) (B : Nat) (j : Nat) (w : World) (x : Value) : Prop :=
 match j with
 | 0 => x = .slice (some ⟨gL, 0, none⟩) 3 3
 | 1 => x = .int .i64 (i : Nat)
 | 2 => x = .pointer (some ⟨gL, i * 3, none⟩)
 | 3 => x = .agg #[z1, z2, z3]
 | 4 => x = .slice (some ⟨gI, 0, none⟩) 3 3
 | 5 => x = .int .i64 (i : Nat)
 | 6 => x = .pointer (some ⟨gI, i, none⟩)
 | 7 => x = .int .i64 z
 | 8 => x = .slice (some ⟨gV, 0, none⟩) 3 3
 | 9 => x = .int .i64 (i : Nat)
 | 10 => x = .pointer (some ⟨gV, i * 2, none⟩)
 | 11 => x = .agg #[l1, l2]
 | 12 => ∃ v, x = .tuple #[v, .int .i64 E] ∧ RtP w v X
 | 13 => ∃ v, x = .tuple #[v, .int .i64 E] ∧ RtP w v X
 | 14 => ∃ A k c A' k' c', x = .agg #[.slice A k c, .slice A' k' c'] ∧ RtP w (.agg #[.slice A k c, .slice A' k' c']) X
 | 15 => x = .int .i64 E
 | 16 => ∃ g, x = .pointer (some ⟨g, 0, none⟩) ∧ B ≤ g ∧ Sl w g
 | 17 => True
 | 18 => x = .int .i64 E
 | _ => True
theorem PhiYd.keep {gL gM gI gV i : Nat} {z1 z2 z3 y1 y2 l1 l2 : Value} {z E : Int} {X : LP} {B : Nat} : ∀ (w w' : World), RT B w w' → ∀ j x, PhiYd gL gM gI gV i z1 z2 z3 y1 y2 l1 l2 z E X B j w x → PhiYd gL gM gI gV i z1 z2 z3 y1 y2 l1 l2 z E X B j w' x := by
 intro w w' hr j x h; unfold PhiYd at h ⊢
 split <;> simp only at h ⊢
 all_goals first
  | exact h
  | (obtain ⟨v, e, h⟩ := h; exact ⟨v, e, h.mapL hr.lim⟩)
  | (obtain ⟨A, k, c, A', k', c', e, h⟩ := h; exact ⟨A, k, c, A', k', c', e, h.mapL hr.lim⟩)
  | (obtain ⟨g, e, h1, h2⟩ := h; exact ⟨g, e, h1, hr.sl g h2⟩)
  | exact h.mapL hr.lim
set_option maxRecDepth 100000 in
set_option maxHeartbeats 40000000 in
theorem wager_reaches_n (A : Option Addr) (k c : Nat) (l : List Int) (n1 n2 n3 how by_ : Int) (vr : Value) (rX : LP) (w : World) (h : RowL intC w A k l) (HL : Hid (∀ x ∈ l, -9223372036854775808 ≤ x ∧ x ≤ 9223372036854775807)) (i1 : -9223372036854775808 ≤ n1 ∧ n1 ≤ 9223372036854775807) (i2 : -9223372036854775808 ≤ n2 ∧ n2 ≤ 9223372036854775807) (i3 : -9223372036854775808 ≤ n3 ∧ n3 ≤ 9223372036854775807) (i4 : -9223372036854775808 ≤ how ∧ how ≤ 9223372036854775807) (i5 : -9223372036854775808 ≤ by_ ∧ by_ ≤ 9223372036854775807) (hraw : RtP w vr rX) :
  Calls Tryz.prog 4 #[.slice A k c, .int .i64 n1, .int .i64 n2, .int .i64 n3, .int .i64 how, .int .i64 by_, vr] w fun e w' => e = .returned (.bool true) ∧ Below w.heap.size w w' := by
 obtain ⟨iR, hiR, hzR, hzR1, hzR2⟩ := info_parts info_ratio; obtain ⟨iP, hiP, hzP, hzP1, hzP2⟩ := info_parts info_plan17; obtain ⟨R1, rk1, rc1, R2, rk2, rc2, rfl⟩ := hraw.shape
 go_enter Tryz.func4, Tryz.ntmps4
 go_upto_region 1 with fail; refine wp_name ?_; intro w0 HW0; have hb0 : Below w.heap.size w w0 := by rw [HW0.out]; exact bA _ _
 have hBR : Blk w0 w.heap.size 25 #[.slice R1 rk1 rc1, .slice R2 rk2 rc2] := by rw [HW0.out]; exact Blk.new _ _ _
 obtain ⟨gW, hgW⟩ : ∃ g, Hid (g = w.heap.size) := ⟨_, rfl⟩; rw [← hgW.out] at hBR ⊢; have Q0 := hBR.cell 0; have Q1 := hBR.cell 1; simp only [List.getElem?_toArray, List.getElem?_cons_zero, List.getElem?_cons_succ] at Q0 Q1; have hraw := hraw.below hb0; have h1 := h.below hb0; clear HW0 hBR hgW; go_wp2_with fail; refine (made17_F A k c l 4 _ h1 HL (by omega)).mono ?_; rintro e w1 ⟨v, b, rows, rfl, hpl, hpe, hlen, hb1⟩; obtain ⟨X1, xk1, xc1, X2, xk2, xc2, S, kS, cS, rfl⟩ := hpl.shape; have HPE := Lib.hid hpe; clear hpe hlen h1; go_upto_region 2 with fail; refine wp_name ?_; intro w2 HW2; have hb : Below w1.heap.size w1 w2 := by rw [HW2.out]; exact bA _ _
 have hBP : Blk w2 w1.heap.size 28 #[.slice X1 xk1 xc1, .slice X2 xk2 xc2, .slice S kS cS] := by rw [HW2.out]; exact Blk.new _ _ _
 obtain ⟨gP, hgP⟩ : ∃ g, Hid (g = w1.heap.size) := ⟨_, rfl⟩; rw [← hgP.out] at hBP ⊢; have P0 := hBP.cell 0; have P1 := hBP.cell 1; have P2 := hBP.cell 2; simp only [List.getElem?_toArray, List.getElem?_cons_zero, List.getElem?_cons_succ] at P0 P1 P2; have hpl := hpl.below hb; have hb12 := Below.tr hb1 hb; have hbw := Below.tr hb0 hb12; have Q0 := cell_keep hb12 Q0; have Q1 := cell_keep hb12 Q1; have hraw := hraw.below hb12; clear HW2 hBP hgP hb hb1 hb0 hb12; refine region_invF (PhiY2 (.agg #[.slice X1 xk1 xc1, .slice X2 xk2 xc2, .slice S kS cS]) how by_) (fun w w' => Below w.heap.size w w') (fun W => Below w2.heap.size w2 W) (by kernel_rfl) (by kernel_rfl) (by kernel_rfl) PhiY2.keep (fun _ _ hR hS => Below.tr hS hR) (bD _) (fun vs => by simp only [fillR, Act.put, sA, sB, sC, Nat.zero_add, Nat.reduceAdd]; rfl) ?_ ?_
 ·refine sK ?_ (sK ?_ (sK ?_ (sK ?_ (sK ?_ (sK ?_ (sK ?_ (sK ?_ (sZ))))))))
  ·as_aux_lemma =>
   intro vs W hS hdep K hK; have f1 := cell_keep hS P0; have f2 := cell_keep hS P1; have f3 := cell_keep hS P2; refine ⟨?_⟩; simp only [Act.put, sA, sB, sC, Nat.zero_add, Nat.reduceAdd] at hK ⊢; go_simp; with_reducible refine hK _ _ (Below.refl _ _) ?_
   exact rfl
  ·as_aux_lemma =>
   intro vs W hS hdep K hK; have f1 := cell_keep hS P0; have f2 := cell_keep hS P1; have f3 := cell_keep hS P2; refine ⟨?_⟩; simp only [Act.put, sA, sB, sC, Nat.zero_add, Nat.reduceAdd] at hK ⊢; go_simp; with_reducible refine hK _ _ (Below.refl _ _) ?_
   exact rfl
  ·as_aux_lemma =>
   intro vs W hS hdep K hK; refine ⟨?_⟩; simp only [Act.put, sA, sB, sC, Nat.zero_add, Nat.reduceAdd] at hK ⊢; go_simp; with_reducible refine hK _ _ (Below.refl _ _) ?_
   exact rfl
  ·as_aux_lemma =>
   intro vs W hS hdep K hK; refine ⟨?_⟩; simp only [Act.put, sA, sB, sC, Nat.zero_add, Nat.reduceAdd] at hK ⊢; go_simp; with_reducible refine hK _ _ (Below.refl _ _) ?_
   exact rfl
  ·as_aux_lemma =>
   intro vs W hS hdep K hK; have d0 := hdep ⟨1, .data⟩ (by simp) rfl; simp only [PhiY2] at d0; have d1 := hdep ⟨2, .data⟩ (by simp) rfl; simp only [PhiY2] at d1; have d2 := hdep ⟨3, .data⟩ (by simp) rfl; simp only [PhiY2] at d2; refine ⟨?_⟩; simp only [Act.put, sA, sB, sC, Nat.zero_add, Nat.reduceAdd, d0, d1, d2] at hK ⊢; go_simp; refine (spoilt17_V _ b rows how by_ _ (hpl.below hS) HPE.out i4 i5).mono ?_; rintro e w' ⟨v, rfl, hv, hb⟩; go_wp2_with fail; with_reducible refine hK _ _ hb ?_
   exact hv
  ·as_aux_lemma =>
   intro vs W hS hdep K hK; have f1 := cell_keep hS P0; have f2 := cell_keep hS P1; have f3 := cell_keep hS P2; refine ⟨?_⟩; simp only [Act.put, sA, sB, sC, Nat.zero_add, Nat.reduceAdd] at hK ⊢; go_simp; with_reducible refine hK _ _ (Below.refl _ _) ?_
   exact rfl
  ·as_aux_lemma =>
   intro vs W hS hdep K hK; have d0 := hdep ⟨0, .data⟩ (by simp) rfl; simp only [PhiY2] at d0; have d1 := hdep ⟨4, .data⟩ (by simp) rfl; simp only [PhiY2] at d1; refine @exE2 _ _ _ _ d1 ?_; clear d1; intro b1 r1 d1; have h1 := d1; clear d1; have d2 := hdep ⟨5, .data⟩ (by simp) rfl; simp only [PhiY2] at d2; obtain ⟨Y1, y1, z1, Y2, y2, z2, Y3, y3, z3, e1⟩ := h1.shape; rw [e1] at h1; have HP2 := Lib.hid (PL3.new W 28 _ _ _ _ _ _ _ _ _ _ _ _ _ _ _ (hpl.below hS) h1 (hpl.below hS)); clear h1; refine ⟨?_⟩; simp only [Act.put, sA, sB, sC, Nat.zero_add, Nat.reduceAdd, d0, e1, d2] at hK ⊢; rw [if_pos (by rfl)]; refine wp_sliceN 31 28 3 [(0, .tmp 31), (1, .tmp 35), (2, .tmp 36)] rfl #[.slice X1 xk1 xc1, .slice X2 xk2 xc2, .slice S kS cS, .slice Y1 y1 z1, .slice Y2 y2 z2, .slice Y3 y3 z3, .slice X1 xk1 xc1, .slice X2 xk2 xc2, .slice S kS cS] iP nilPlan 3 [(0, .agg #[.slice X1 xk1 xc1, .slice X2 xk2 xc2, .slice S kS cS]), (1, .agg #[.slice Y1 y1 z1, .slice Y2 y2 z2, .slice Y3 y3 z3]), (2, .agg #[.slice X1 xk1 xc1, .slice X2 xk2 xc2, .slice S kS cS])] Tryz.underlying31 hiP hzP hzP1 (by omega) (by omega) rfl (fill_p3 _ _ _ _ _ _ _ _ _ _ _ _ _ _ _ _ _ _ _ _ _ _ _ _ _ _ _ ) ?_; simp only [Act.put, sA, sB, sC]; with_reducible refine hK _ _ (bA _ _) ?_
   exact ⟨_, rfl, HP2.out⟩
  ·as_aux_lemma =>
   intro vs W hS hdep K hK; have d0 := hdep ⟨6, .data⟩ (by simp) rfl; simp only [PhiY2] at d0; refine @exE1 _ _ _ d0 ?_; clear d0; intro g0 d0; have e0 := d0.1; have n0 := d0.2; clear d0; refine ⟨?_⟩; simp only [Act.put, sA, sB, sC, Nat.zero_add, Nat.reduceAdd, e0] at hK ⊢; go_simp; with_reducible refine hK _ _ (Below.refl _ _) ?_
   exact ⟨_, rfl, n0⟩
 intro vs w3 hb hv; have v6 := hv 7 (by simp); simp only [PhiY2] at v6; obtain ⟨gL, v6, hL⟩ := v6; simp only [Act.put, sA, sB, sC, Nat.zero_add, Nat.reduceAdd, v6]; have Q0 := cell_keep hb Q0; have Q1 := cell_keep hb Q1; have hraw := hraw.below hb; have hbw := Below.tr hbw hb; clear hv v6 hb P0 P1 P2 hpl; go_upto_region 3 with fail; refine region_invF (PhiY3 n1 n2 (.slice R1 rk1 rc1) (.slice R2 rk2 rc2)) (fun w w' => Below w.heap.size w w') (fun W => Below w3.heap.size w3 W) (by kernel_rfl) (by kernel_rfl) (by kernel_rfl) PhiY3.keep (fun _ _ hR hS => Below.tr hS hR) (bD _) (fun vs => by simp only [fillR, Act.put, sA, sB, sC, Nat.zero_add, Nat.reduceAdd]; rfl) ?_ ?_
 ·refine sK ?_ (sK ?_ (sK ?_ (sK ?_ (sK ?_ (sK ?_ (sK ?_ (sK ?_ (sK ?_ (sZ)))))))))
  ·as_aux_lemma =>
   intro vs W hS hdep K hK; refine ⟨?_⟩; simp only [Act.put, sA, sB, sC, Nat.zero_add, Nat.reduceAdd] at hK ⊢; go_simp; with_reducible refine hK _ _ (Below.refl _ _) ?_
   exact rfl
  ·as_aux_lemma =>
   intro vs W hS hdep K hK; refine ⟨?_⟩; simp only [Act.put, sA, sB, sC, Nat.zero_add, Nat.reduceAdd] at hK ⊢; go_simp; with_reducible refine hK _ _ (Below.refl _ _) ?_
   exact rfl
  ·as_aux_lemma =>
   intro vs W hS hdep K hK; have d0 := hdep ⟨0, .data⟩ (by simp) rfl; simp only [PhiY3] at d0; have d1 := hdep ⟨1, .data⟩ (by simp) rfl; simp only [PhiY3] at d1; refine ⟨?_⟩; simp only [Act.put, sA, sB, sC, Nat.zero_add, Nat.reduceAdd, d0, d1] at hK ⊢; go_simp; refine (part_X n1 n2 _ i1 i2).mono ?_; rintro e w' ⟨v, rfl, hv, hb⟩; go_wp2_with fail; with_reducible refine hK _ _ hb ?_
   exact hv
  ·as_aux_lemma =>
   intro vs W hS hdep K hK; refine ⟨?_⟩; simp only [Act.put, sA, sB, sC, Nat.zero_add, Nat.reduceAdd] at hK ⊢; go_simp; with_reducible refine hK _ _ (Below.refl _ _) ?_
   exact rfl
  ·as_aux_lemma =>
   intro vs W hS hdep K hK; refine ⟨?_⟩; simp only [Act.put, sA, sB, sC, Nat.zero_add, Nat.reduceAdd] at hK ⊢; go_simp; with_reducible refine hK _ _ (Below.refl _ _) ?_
   exact rfl
  ·as_aux_lemma =>
   intro vs W hS hdep K hK; have d0 := hdep ⟨3, .data⟩ (by simp) rfl; simp only [PhiY3] at d0; have d1 := hdep ⟨4, .data⟩ (by simp) rfl; simp only [PhiY3] at d1; refine ⟨?_⟩; simp only [Act.put, sA, sB, sC, Nat.zero_add, Nat.reduceAdd, d0, d1] at hK ⊢; go_simp; refine (part_X n2 n1 _ i2 i1).mono ?_; rintro e w' ⟨v, rfl, hv, hb⟩; go_wp2_with fail; with_reducible refine hK _ _ hb ?_
   exact hv
  ·as_aux_lemma =>
   intro vs W hS hdep K hK; have f1 := cell_keep hS Q0; have f2 := cell_keep hS Q1; refine ⟨?_⟩; simp only [Act.put, sA, sB, sC, Nat.zero_add, Nat.reduceAdd] at hK ⊢; go_simp; with_reducible refine hK _ _ (Below.refl _ _) ?_
   exact rfl
  ·as_aux_lemma =>
   intro vs W hS hdep K hK; have d0 := hdep ⟨2, .data⟩ (by simp) rfl; simp only [PhiY3] at d0; refine @exE1 _ _ _ d0 ?_; clear d0; intro X0 d0; have h0 := d0; clear d0; have d1 := hdep ⟨5, .data⟩ (by simp) rfl; simp only [PhiY3] at d1; refine @exE1 _ _ _ d1 ?_; clear d1; intro X1 d1; have h1 := d1; clear d1; have d2 := hdep ⟨6, .data⟩ (by simp) rfl; simp only [PhiY3] at d2; obtain ⟨A0, k0, c0, B0, m0, d0', e0⟩ := h0.shape; rw [e0] at h0; obtain ⟨A1, k1, c1, B1, m1, d1', e1⟩ := h1.shape; rw [e1] at h1; have HR := Lib.hid (ratRow_new 25 [(.slice A0 k0 c0, .slice B0 m0 d0'), (.slice A1 k1 c1, .slice B1 m1 d1'), (.slice R1 rk1 rc1, .slice R2 rk2 rc2)] [X0, X1, rX] ⟨h0, h1, hraw.below hS, trivial⟩ (by simp)); clear h0 h1; refine ⟨?_⟩; simp only [Act.put, sA, sB, sC, Nat.zero_add, Nat.reduceAdd, e0, e1, d2] at hK ⊢; rw [if_pos (by rfl)]; refine wp_sliceN 34 25 3 [(0, .tmp 40), (1, .tmp 43), (2, .tmp 44)] rfl #[.slice A0 k0 c0, .slice B0 m0 d0', .slice A1 k1 c1, .slice B1 m1 d1', .slice R1 rk1 rc1, .slice R2 rk2 rc2] iR nilRat 2 [(0, .agg #[.slice A0 k0 c0, .slice B0 m0 d0']), (1, .agg #[.slice A1 k1 c1, .slice B1 m1 d1']), (2, .agg #[.slice R1 rk1 rc1, .slice R2 rk2 rc2])] Tryz.underlying34 hiR hzR hzR1 (by omega) (by omega) rfl (fill_r3 _ _ _ _ _ _ _ _ _ _ _ _ _ _ _ _ _ _) ?_; simp only [Act.put, sA, sB, sC]; with_reducible refine hK _ _ (bA _ _) ?_
   exact ⟨_, _, rfl, HR.out⟩
  ·as_aux_lemma =>
   intro vs W hS hdep K hK; have d0 := hdep ⟨7, .data⟩ (by simp) rfl; simp only [PhiY3] at d0; refine @exE2 _ _ _ _ d0 ?_; clear d0; intro g0 q0 d0; have e0 := d0.1; have n0 := d0.2; clear d0; refine ⟨?_⟩; simp only [Act.put, sA, sB, sC, Nat.zero_add, Nat.reduceAdd, e0] at hK ⊢; go_simp; with_reducible refine hK _ _ (Below.refl _ _) ?_
   exact ⟨_, _, rfl, n0⟩
 intro vs' w4 hb hv; have v11 := hv 8 (by simp); simp only [PhiY3] at v11; obtain ⟨gM, qs, v11, hM⟩ := v11; simp only [Act.put, sA, sB, sC, Nat.zero_add, Nat.reduceAdd, v11]; have hL := hL.below hb; have hbw := Below.tr hbw hb; have Q0 := cell_keep hb Q0; have Q1 := cell_keep hb Q1; have hraw := hraw.below hb; clear hv v11 hb; go_upto_region 4 with fail; refine region_invF (PhiY4 how by_ (.slice R1 rk1 rc1) (.slice R2 rk2 rc2)) (fun w w' => Below w.heap.size w w') (fun W => Below w4.heap.size w4 W) (by kernel_rfl) (by kernel_rfl) (by kernel_rfl) PhiY4.keep (fun _ _ hR hS => Below.tr hS hR) (bD _) (fun vs => by simp only [fillR, Act.put, sA, sB, sC, Nat.zero_add, Nat.reduceAdd]; rfl) ?_ ?_
 ·refine sK ?_ (sK ?_ (sK ?_ (sK ?_ (sK ?_ (sK ?_ (sK ?_ (sK ?_ (sK ?_ (sK ?_ (sK ?_ (sK ?_ (sK ?_ (sZ)))))))))))))
  ·as_aux_lemma =>
   intro vs W hS hdep K hK; refine ⟨?_⟩; simp only [Act.put, sA, sB, sC, Nat.zero_add, Nat.reduceAdd] at hK ⊢; go_simp; with_reducible refine hK _ _ (Below.refl _ _) ?_
   exact rfl
  ·as_aux_lemma =>
   intro vs W hS hdep K hK; have d0 := hdep ⟨0, .data⟩ (by simp) rfl; simp only [PhiY4] at d0; refine ⟨?_⟩; simp only [Act.put, sA, sB, sC, Nat.zero_add, Nat.reduceAdd, d0] at hK ⊢; go_simp; refine (around_n by_ 40 _ i5.1 i5.2 (by omega) (by omega)).mono ?_; rintro e w' ⟨z, rfl, hz, _, rfl⟩; go_wp2_with fail; with_reducible refine hK _ _ (Below.refl _ _) ?_
   exact ⟨z, rfl, by omega⟩
  ·as_aux_lemma =>
   intro vs W hS hdep K hK; have d0 := hdep ⟨1, .data⟩ (by simp) rfl; simp only [PhiY4] at d0; refine @exE1 _ _ _ d0 ?_; clear d0; intro y0 d0; have e0 := d0.1; have n0 := d0.2; clear d0; refine ⟨?_⟩; simp only [Act.put, sA, sB, sC, Nat.zero_add, Nat.reduceAdd, e0] at hK ⊢; have s1 : IntKind.i64.wrap (1 + (y0 : Int)) = 1 + (y0 : Int) := by rw [IntWalk.i64_in _ (by omega)]
   go_simp; with_reducible refine hK _ _ (Below.refl _ _) ?_
   exact ⟨1 + y0, by push_cast; rfl, by omega, by omega⟩
  ·as_aux_lemma =>
   intro vs W hS hdep K hK; refine ⟨?_⟩; simp only [Act.put, sA, sB, sC, Nat.zero_add, Nat.reduceAdd] at hK ⊢; go_simp; with_reducible refine hK _ _ (Below.refl _ _) ?_
   exact rfl
  ·as_aux_lemma =>
   intro vs W hS hdep K hK; have d0 := hdep ⟨3, .data⟩ (by simp) rfl; simp only [PhiY4] at d0; refine ⟨?_⟩; simp only [Act.put, sA, sB, sC, Nat.zero_add, Nat.reduceAdd, d0] at hK ⊢; go_simp; refine (around_n how 12 _ i4.1 i4.2 (by omega) (by omega)).mono ?_; rintro e w' ⟨z, rfl, hz, _, rfl⟩; go_wp2_with fail; with_reducible refine hK _ _ (Below.refl _ _) ?_
   exact ⟨z, rfl, by omega⟩
  ·as_aux_lemma =>
   intro vs W hS hdep K hK; have d0 := hdep ⟨4, .data⟩ (by simp) rfl; simp only [PhiY4] at d0; refine @exE1 _ _ _ d0 ?_; clear d0; intro y0 d0; have e0 := d0.1; have n0 := d0.2; clear d0; refine ⟨?_⟩; simp only [Act.put, sA, sB, sC, Nat.zero_add, Nat.reduceAdd, e0] at hK ⊢; have s1 : IntKind.i64.wrap (1 + (y0 : Int)) = 1 + (y0 : Int) := by rw [IntWalk.i64_in _ (by omega)]
   go_simp; with_reducible refine hK _ _ (Below.refl _ _) ?_
   exact ⟨1 + y0, by push_cast; rfl, by omega, by omega⟩
  ·as_aux_lemma =>
   intro vs W hS hdep K hK; have d0 := hdep ⟨2, .data⟩ (by simp) rfl; simp only [PhiY4] at d0; refine @exE1 _ _ _ d0 ?_; clear d0; intro y0 d0; have e0 := d0.1; have n0 := d0.2; clear d0; have d1 := hdep ⟨5, .data⟩ (by simp) rfl; simp only [PhiY4] at d1; refine @exE1 _ _ _ d1 ?_; clear d1; intro y1 d1; have e1 := d1.1; have n1 := d1.2; clear d1; refine ⟨?_⟩; simp only [Act.put, sA, sB, sC, Nat.zero_add, Nat.reduceAdd, e0, e1] at hK ⊢; go_simp; refine (of_X y0 y1 _ n0.2 n1.1 n1.2).mono ?_; rintro e w' ⟨v, rfl, hv, hb⟩; go_wp2_with fail; with_reducible refine hK _ _ hb ?_
   exact hv
  ·as_aux_lemma =>
   intro vs W hS hdep K hK; have f1 := cell_keep hS Q0; have f2 := cell_keep hS Q1; refine ⟨?_⟩; simp only [Act.put, sA, sB, sC, Nat.zero_add, Nat.reduceAdd] at hK ⊢; go_simp; with_reducible refine hK _ _ (Below.refl _ _) ?_
   exact rfl
  ·as_aux_lemma =>
   intro vs W hS hdep K hK; refine ⟨?_⟩; simp only [Act.put, sA, sB, sC, Nat.zero_add, Nat.reduceAdd] at hK ⊢; go_simp; with_reducible refine hK _ _ (Below.refl _ _) ?_
   exact rfl
  ·as_aux_lemma =>
   intro vs W hS hdep K hK; have d0 := hdep ⟨8, .data⟩ (by simp) rfl; simp only [PhiY4] at d0; refine ⟨?_⟩; simp only [Act.put, sA, sB, sC, Nat.zero_add, Nat.reduceAdd, d0] at hK ⊢; go_simp; refine (around_n by_ 5 _ i5.1 i5.2 (by omega) (by omega)).mono ?_; rintro e w' ⟨z, rfl, hz, _, rfl⟩; go_wp2_with fail; with_reducible refine hK _ _ (Below.refl _ _) ?_
   exact ⟨z, rfl, by omega⟩
  ·as_aux_lemma =>
   intro vs W hS hdep K hK; have d0 := hdep ⟨9, .data⟩ (by simp) rfl; simp only [PhiY4] at d0; refine @exE1 _ _ _ d0 ?_; clear d0; intro y0 d0; have e0 := d0.1; have n0 := d0.2; clear d0; refine ⟨?_⟩; simp only [Act.put, sA, sB, sC, Nat.zero_add, Nat.reduceAdd, e0] at hK ⊢; go_simp; refine (of_X y0 2 _ (by omega) (by omega) (by omega)).mono ?_; rintro e w' ⟨v, rfl, hv, hb⟩; go_wp2_with fail; with_reducible refine hK _ _ hb ?_
   exact hv
  ·as_aux_lemma =>
   intro vs W hS hdep K hK; have d0 := hdep ⟨6, .data⟩ (by simp) rfl; simp only [PhiY4] at d0; refine @exE1 _ _ _ d0 ?_; clear d0; intro X0 d0; have h0 := d0; clear d0; have d1 := hdep ⟨7, .data⟩ (by simp) rfl; simp only [PhiY4] at d1; have d2 := hdep ⟨10, .data⟩ (by simp) rfl; simp only [PhiY4] at d2; refine @exE1 _ _ _ d2 ?_; clear d2; intro X2 d2; have h2 := d2; clear d2; obtain ⟨A0, k0, c0, B0, m0, d0', e0⟩ := h0.shape; rw [e0] at h0; obtain ⟨A2, k2, c2, B2, m2, d2', e2⟩ := h2.shape; rw [e2] at h2; have HR := Lib.hid (ratRow_new 25 [(.slice A0 k0 c0, .slice B0 m0 d0'), (.slice R1 rk1 rc1, .slice R2 rk2 rc2), (.slice A2 k2 c2, .slice B2 m2 d2')] [X0, rX, X2] ⟨h0, hraw.below hS, h2, trivial⟩ (by simp)); clear h0 h2; refine ⟨?_⟩; simp only [Act.put, sA, sB, sC, Nat.zero_add, Nat.reduceAdd, e0, d1, e2] at hK ⊢; rw [if_pos (by rfl)]; refine wp_sliceN 34 25 3 [(0, .tmp 52), (1, .tmp 53), (2, .tmp 56)] rfl #[.slice A0 k0 c0, .slice B0 m0 d0', .slice R1 rk1 rc1, .slice R2 rk2 rc2, .slice A2 k2 c2, .slice B2 m2 d2'] iR nilRat 2 [(0, .agg #[.slice A0 k0 c0, .slice B0 m0 d0']), (1, .agg #[.slice R1 rk1 rc1, .slice R2 rk2 rc2]), (2, .agg #[.slice A2 k2 c2, .slice B2 m2 d2'])] Tryz.underlying34 hiR hzR hzR1 (by omega) (by omega) rfl (fill_r3 _ _ _ _ _ _ _ _ _ _ _ _ _ _ _ _ _ _) ?_; simp only [Act.put, sA, sB, sC]; with_reducible refine hK _ _ (bA _ _) ?_
   exact ⟨_, _, rfl, HR.out⟩
  ·as_aux_lemma =>
   intro vs W hS hdep K hK; have d0 := hdep ⟨11, .data⟩ (by simp) rfl; simp only [PhiY4] at d0; refine @exE2 _ _ _ _ d0 ?_; clear d0; intro g0 q0 d0; have e0 := d0.1; have n0 := d0.2; clear d0; refine ⟨?_⟩; simp only [Act.put, sA, sB, sC, Nat.zero_add, Nat.reduceAdd, e0] at hK ⊢; go_simp; with_reducible refine hK _ _ (Below.refl _ _) ?_
   exact ⟨_, _, rfl, n0⟩
 intro vs2 wq hb hv; have v12 := hv 12 (by simp); simp only [PhiY4] at v12; obtain ⟨gV, lvs, v12, hV⟩ := v12; simp only [Act.put, sA, sB, sC, Nat.zero_add, Nat.reduceAdd, v12]; have hL := hL.below hb; have hM := hM.below hb; have hbw := Below.tr hbw hb; clear hv v12 hb Q0 Q1 hraw; go_wp2_with fail; refine (around_n n3 7 _ i3.1 i3.2 (by omega) (by omega)).mono ?_; rintro e w' ⟨y1, rfl, hy1, _, rfl⟩; go_wp2_with fail; refine (around_n n3 7 _ i3.1 i3.2 (by omega) (by omega)).mono ?_; rintro e w' ⟨y2, rfl, hy2, _, rfl⟩; go_wp2_with fail; refine (around_n n3 12 _ i3.1 i3.2 (by omega) (by omega)).mono ?_; rintro e w' ⟨y3, rfl, hy3, _, rfl⟩; go_upto_region 6 with fail; refine wp_name ?_; intro w5 HW5; have hb : Below wq.heap.size wq w5 := by rw [HW5.out]; exact bA _ _
 have hBI : Blk w5 wq.heap.size 3 #[.int .i64 (y1 : Int), .int .i64 (y2 : Int), .int .i64 (y3 : Int)] := by rw [HW5.out]; exact Blk.new _ _ _
 obtain ⟨gI, hgI⟩ : ∃ g, Hid (g = wq.heap.size) := ⟨_, rfl⟩; rw [← hgI.out] at hBI ⊢; have hL := hL.below hb; have hM := hM.below hb; have hV := hV.below hb; have hbw := Below.tr hbw hb
 have HI : ∀ j, j < 3 → ∃ z : Int, w5.cell? ⟨gI, j, none⟩ = some (.int .i64 z) := by
  intro j hj; have hj3 : j = 0 ∨ j = 1 ∨ j = 2 := by omega
  rcases hj3 with rfl | rfl | rfl
  ·exact ⟨_, by rw [hBI.cell]; rfl⟩
  ·exact ⟨_, by rw [hBI.cell]; rfl⟩
  ·exact ⟨_, by rw [hBI.cell]; rfl⟩
 have HI := Lib.hid HI; clear HW5 hBI hgI hb; go_wp2_with fail
 go_loopg [20] 3 (fun j x wr => ∃ i : Nat, x = .int .i64 i ∧ i + j = 3 ∧ Below w5.heap.size w5 wr)
 case atStart => exact ⟨0, rfl, by omega, Below.refl _ _⟩
 case round =>
  obtain ⟨G, hG⟩ : ∃ G, G = gk := ⟨gk, rfl⟩; subst hG; obtain ⟨i, rfl, hij, hbo⟩ := hrel; obtain ⟨wo, hwo⟩ : ∃ wo, wo = wr := ⟨_, rfl⟩; subst hwo; by_cases hi : i < 3
  ·have t1 : decide ((i : Int) < 3) = true := by simp; omega
   have hi3 : (i : Int) < 3 := by omega
   obtain ⟨z1, z2, z3, b', rows', c1, c2, c3, hpi⟩ := (hL.below hbo) i hi; obtain ⟨bM, oM, y1', y2', q, eM, g1, g2, HQ, hqv⟩ := (hM.below hbo).at_ hi; simp only [Option.some.injEq, Addr.mk.injEq, and_true] at eM; obtain ⟨rfl, rfl⟩ := eM; obtain ⟨bV, oV, l1', l2', lv, eV, k1, k2, HLV, hlv⟩ := (hV.below hbo).at_ hi; simp only [Option.some.injEq, Addr.mk.injEq, and_true] at eV; obtain ⟨rfl, rfl⟩ := eV; rw [Nat.zero_add] at g1 g2 k1 k2; obtain ⟨z, hci0⟩ := HI.out i hi; have hci := cell_keep hbo hci0; obtain ⟨E, HE⟩ : ∃ E, Hid (E = reachE b' rows' q z lv) := ⟨_, rfl⟩; obtain ⟨E2, HE2⟩ : ∃ E, Hid (E = worstE b' rows' z lv) := ⟨_, rfl⟩; clear hci0 HQ HLV; go_upto_region 9 with fail; refine region_invW (PhiYa gL gM gI gV i z1 z2 z3 y1' y2' l1' l2' z (reachE b' rows' q z lv) (reachX b' rows' q z lv) wo.heap.size) (RT wo.heap.size) (SD wo 19 21 22) (by kernel_rfl) (by kernel_rfl) (by kernel_rfl) PhiYa.keep (SD.start _ _ _ _ _) (fun vs => by simp only [fillR, Act.put, sA, sB, sC, Nat.zero_add, Nat.reduceAdd]; rfl) ?_ ?_
   ·refine sK ?_ (sK ?_ (sK ?_ (sK ?_ (sK ?_ (sK ?_ (sK ?_ (sK ?_ (sK ?_ (sK ?_ (sK ?_ (sK ?_ (sK ?_ (sK ?_ (sK ?_ (sK ?_ (sK ?_ (sK ?_ (sK ?_ (sK ?_ (sK ?_ (sK ?_ (sK ?_ (sK ?_ (sZ))))))))))))))))))))))))
    ·as_aux_lemma =>
     intro vs L W hS hL cl hdl hdep K hK; refine ⟨?_⟩; simp only [Act.put, sA, sB, sC, Nat.zero_add, Nat.reduceAdd] at hK ⊢; go_simp; with_reducible refine hK _ _ (RT.refl _ _) (hS.step (Below.refl _ _) 0 _ (by decide) (fun e => absurd e (by decide))) ?_
     exact rfl
    ·as_aux_lemma =>
     intro vs L W hS hL cl hdl hdep K hK; refine ⟨?_⟩; simp only [Act.put, sA, sB, sC, Nat.zero_add, Nat.reduceAdd] at hK ⊢; go_simp; with_reducible refine hK _ _ (RT.refl _ _) (hS.step (Below.refl _ _) 1 _ (by decide) (fun e => absurd e (by decide))) ?_
     exact rfl
    ·as_aux_lemma =>
     intro vs L W hS hL cl hdl hdep K hK; have d0 := hdep ⟨0, .data⟩ (by simp) rfl; simp only [PhiYa] at d0; have d1 := hdep ⟨1, .data⟩ (by simp) rfl; simp only [PhiYa] at d1; refine ⟨?_⟩; simp only [Act.put, sA, sB, sC, Nat.zero_add, Nat.reduceAdd, d0, d1] at hK ⊢; go_simp; with_reducible refine hK _ _ (RT.refl _ _) (hS.step (Below.refl _ _) 2 _ (by decide) (fun e => absurd e (by decide))) ?_
     exact rfl
    ·as_aux_lemma =>
     intro vs L W hS hL cl hdl hdep K hK; have d0 := hdep ⟨2, .data⟩ (by simp) rfl; simp only [PhiYa] at d0; have f1 := cell_keep hS.be c1; have f2 := cell_keep hS.be c2; have f3 := cell_keep hS.be c3; refine ⟨?_⟩; simp only [Act.put, sA, sB, sC, Nat.zero_add, Nat.reduceAdd, d0] at hK ⊢; go_simp; with_reducible refine hK _ _ (RT.refl _ _) (hS.step (Below.refl _ _) 3 _ (by decide) (fun e => absurd e (by decide))) ?_
     exact rfl
    ·as_aux_lemma =>
     intro vs L W hS hL cl hdl hdep K hK; have d0 := hdep ⟨3, .data⟩ (by simp) rfl; simp only [PhiYa] at d0; refine ⟨?_⟩; simp only [Act.put, sA, sB, sC, Nat.zero_add, Nat.reduceAdd, d0] at hK ⊢; go_simp; refine (plan_E _ b' rows' _ (hpi.below hS.be)).mono ?_; rintro e w' ⟨rfl, hb⟩; go_wp2_with fail; with_reducible refine hK _ _ (RT.below hb hS.be.size) (hS.step hb 4 _ (by decide) (fun e => absurd e (by decide))) ?_
     exact rfl
    ·as_aux_lemma =>
     intro vs L W hS hL cl hdl hdep K hK; refine ⟨?_⟩; simp only [Act.put, sA, sB, sC, Nat.zero_add, Nat.reduceAdd] at hK ⊢; go_simp; with_reducible refine hK _ _ (RT.refl _ _) (hS.step (Below.refl _ _) 5 _ (by decide) (fun e => absurd e (by decide))) ?_
     exact rfl
    ·as_aux_lemma =>
     intro vs L W hS hL cl hdl hdep K hK; refine ⟨?_⟩; simp only [Act.put, sA, sB, sC, Nat.zero_add, Nat.reduceAdd] at hK ⊢; go_simp; with_reducible refine hK _ _ (RT.refl _ _) (hS.step (Below.refl _ _) 6 _ (by decide) (fun e => absurd e (by decide))) ?_
     exact rfl
    ·as_aux_lemma =>
     intro vs L W hS hL cl hdl hdep K hK; have d0 := hdep ⟨5, .data⟩ (by simp) rfl; simp only [PhiYa] at d0; have d1 := hdep ⟨6, .data⟩ (by simp) rfl; simp only [PhiYa] at d1; refine ⟨?_⟩; simp only [Act.put, sA, sB, sC, Nat.zero_add, Nat.reduceAdd, d0, d1] at hK ⊢; go_simp; with_reducible refine hK _ _ (RT.refl _ _) (hS.step (Below.refl _ _) 7 _ (by decide) (fun e => absurd e (by decide))) ?_
     exact rfl
    ·as_aux_lemma =>
     intro vs L W hS hL cl hdl hdep K hK; have d0 := hdep ⟨7, .data⟩ (by simp) rfl; simp only [PhiYa] at d0; have f1 := cell_keep hS.be g1; have f2 := cell_keep hS.be g2; refine ⟨?_⟩; simp only [Act.put, sA, sB, sC, Nat.zero_add, Nat.reduceAdd, d0] at hK ⊢; go_simp; with_reducible refine hK _ _ (RT.refl _ _) (hS.step (Below.refl _ _) 8 _ (by decide) (fun e => absurd e (by decide))) ?_
     exact rfl
    ·as_aux_lemma =>
     intro vs L W hS hL cl hdl hdep K hK; refine ⟨?_⟩; simp only [Act.put, sA, sB, sC, Nat.zero_add, Nat.reduceAdd] at hK ⊢; go_simp; with_reducible refine hK _ _ (RT.refl _ _) (hS.step (Below.refl _ _) 9 _ (by decide) (fun e => absurd e (by decide))) ?_
     exact rfl
    ·as_aux_lemma =>
     intro vs L W hS hL cl hdl hdep K hK; refine ⟨?_⟩; simp only [Act.put, sA, sB, sC, Nat.zero_add, Nat.reduceAdd] at hK ⊢; go_simp; with_reducible refine hK _ _ (RT.refl _ _) (hS.step (Below.refl _ _) 10 _ (by decide) (fun e => absurd e (by decide))) ?_
     exact rfl
    ·as_aux_lemma =>
     intro vs L W hS hL cl hdl hdep K hK; have d0 := hdep ⟨9, .data⟩ (by simp) rfl; simp only [PhiYa] at d0; have d1 := hdep ⟨10, .data⟩ (by simp) rfl; simp only [PhiYa] at d1; refine ⟨?_⟩; simp only [Act.put, sA, sB, sC, Nat.zero_add, Nat.reduceAdd, d0, d1] at hK ⊢; go_simp; with_reducible refine hK _ _ (RT.refl _ _) (hS.step (Below.refl _ _) 11 _ (by decide) (fun e => absurd e (by decide))) ?_
     exact rfl
    ·as_aux_lemma =>
     intro vs L W hS hL cl hdl hdep K hK; have d0 := hdep ⟨11, .data⟩ (by simp) rfl; simp only [PhiYa] at d0; have f1 := cell_keep hS.be hci; refine ⟨?_⟩; simp only [Act.put, sA, sB, sC, Nat.zero_add, Nat.reduceAdd, d0] at hK ⊢; go_simp; with_reducible refine hK _ _ (RT.refl _ _) (hS.step (Below.refl _ _) 12 _ (by decide) (fun e => absurd e (by decide))) ?_
     exact rfl
    ·as_aux_lemma =>
     intro vs L W hS hL cl hdl hdep K hK; refine ⟨?_⟩; simp only [Act.put, sA, sB, sC, Nat.zero_add, Nat.reduceAdd] at hK ⊢; go_simp; with_reducible refine hK _ _ (RT.refl _ _) (hS.step (Below.refl _ _) 13 _ (by decide) (fun e => absurd e (by decide))) ?_
     exact rfl
    ·as_aux_lemma =>
     intro vs L W hS hL cl hdl hdep K hK; refine ⟨?_⟩; simp only [Act.put, sA, sB, sC, Nat.zero_add, Nat.reduceAdd] at hK ⊢; go_simp; with_reducible refine hK _ _ (RT.refl _ _) (hS.step (Below.refl _ _) 14 _ (by decide) (fun e => absurd e (by decide))) ?_
     exact rfl
    ·as_aux_lemma =>
     intro vs L W hS hL cl hdl hdep K hK; have d0 := hdep ⟨13, .data⟩ (by simp) rfl; simp only [PhiYa] at d0; have d1 := hdep ⟨14, .data⟩ (by simp) rfl; simp only [PhiYa] at d1; refine ⟨?_⟩; simp only [Act.put, sA, sB, sC, Nat.zero_add, Nat.reduceAdd, d0, d1] at hK ⊢; go_simp; with_reducible refine hK _ _ (RT.refl _ _) (hS.step (Below.refl _ _) 15 _ (by decide) (fun e => absurd e (by decide))) ?_
     exact rfl
    ·as_aux_lemma =>
     intro vs L W hS hL cl hdl hdep K hK; have d0 := hdep ⟨15, .data⟩ (by simp) rfl; simp only [PhiYa] at d0; have f1 := cell_keep hS.be k1; have f2 := cell_keep hS.be k2; refine ⟨?_⟩; simp only [Act.put, sA, sB, sC, Nat.zero_add, Nat.reduceAdd, d0] at hK ⊢; go_simp; with_reducible refine hK _ _ (RT.refl _ _) (hS.step (Below.refl _ _) 16 _ (by decide) (fun e => absurd e (by decide))) ?_
     exact rfl
    ·as_aux_lemma =>
     intro vs L W hS hL cl hdl hdep K hK; have d0 := hdep ⟨4, .data⟩ (by simp) rfl; simp only [PhiYa] at d0; have d1 := hdep ⟨8, .data⟩ (by simp) rfl; simp only [PhiYa] at d1; have d2 := hdep ⟨12, .data⟩ (by simp) rfl; simp only [PhiYa] at d2; have d3 := hdep ⟨16, .data⟩ (by simp) rfl; simp only [PhiYa] at d3; refine ⟨?_⟩; simp only [Act.put, sA, sB, sC, Nat.zero_add, Nat.reduceAdd, d0, d1, d2, d3] at hK ⊢; go_simp; refine (reach_F _ _ _ b' q lv rows' z _ (hpi.below hS.be) (hqv.below hS.be) (hlv.below hS.be)).mono ?_; rintro e w' ⟨v, rfl, hn, hb⟩; go_wp2_with fail; with_reducible refine hK _ _ (RT.below hb hS.be.size) (hS.step hb 17 _ (by decide) (fun e => absurd e (by decide))) ?_
     exact ⟨v, rfl, hn⟩
    ·as_aux_lemma =>
     intro vs L W hS hL cl hdl hdep K hK; have d0 := hdep ⟨17, .data⟩ (by simp) rfl; simp only [PhiYa] at d0; refine @exE1 _ _ _ d0 ?_; clear d0; intro v0 d0; have e0 := d0.1; have n0 := d0.2; clear d0; refine ⟨?_⟩; simp only [Act.put, sA, sB, sC, Nat.zero_add, Nat.reduceAdd, e0] at hK ⊢; go_simp; with_reducible refine hK _ _ (RT.refl _ _) (hS.step (Below.refl _ _) 18 _ (by decide) (fun e => absurd e (by decide))) ?_
     exact ⟨_, rfl, n0⟩
    ·as_aux_lemma =>
     intro vs L W hS hL cl hdl hdep K hK; have d0 := hdep ⟨18, .data⟩ (by simp) rfl; simp only [PhiYa] at d0; refine @exE1 _ _ _ d0 ?_; clear d0; intro v0 d0; have e0 := d0.1; have n0 := d0.2; clear d0
     have h22 : L 22 = false := by
      cases h : L 22 with
      | false => rfl
      | true => exact absurd (cl 22 _ rfl h ⟨19, .data⟩ (by simp) rfl) (by rw [hL]; decide)
     obtain ⟨A, k, c, A', k', c', rfl⟩ := n0.shape; refine ⟨?_⟩; simp only [Act.put, sA, sB, sC, Nat.zero_add, Nat.reduceAdd, e0] at hK ⊢; go_simp; with_reducible refine hK _ _ (RT.refl _ _) (hS.step (Below.refl _ _) 19 _ (by decide) (fun _ => h22)) ?_
     exact ⟨_, _, _, _, _, _, rfl, n0⟩
    ·as_aux_lemma =>
     intro vs L W hS hL cl hdl hdep K hK; have d0 := hdep ⟨18, .data⟩ (by simp) rfl; simp only [PhiYa] at d0; refine @exE1 _ _ _ d0 ?_; clear d0; intro v0 d0; have e0 := d0.1; have n0 := d0.2; clear d0; refine ⟨?_⟩; simp only [Act.put, sA, sB, sC, Nat.zero_add, Nat.reduceAdd, e0] at hK ⊢; go_simp; with_reducible refine hK _ _ (RT.refl _ _) (hS.step (Below.refl _ _) 20 _ (by decide) (fun e => absurd e (by decide))) ?_
     exact rfl
    ·as_aux_lemma =>
     intro vs L W hS hL cl hdl hdep K hK
     have h22 : L 22 = false := by
      cases h : L 22 with
      | false => rfl
      | true => exact absurd (cl 22 _ rfl h ⟨21, .data⟩ (by simp) rfl) (by rw [hL]; decide)
     refine ⟨?_⟩; simp only [Act.put, sA, sB, sC, Nat.zero_add, Nat.reduceAdd] at hK ⊢; go_simp; with_reducible refine hK _ _ (RT.below (bA _ _) hS.be.size) (hS.step (bA _ _) 21 _ (by decide) (fun _ => h22)) ?_
     exact ⟨_, rfl, hS.be.size, none, 0, 0, none, 0, 0, Blk.new _ _ _⟩
    ·as_aux_lemma =>
     intro vs L W hS hL cl hdl hdep K hK; have d0 := hdep ⟨21, .data⟩ (by simp) rfl; simp only [PhiYa] at d0; refine @exE1 _ _ _ d0 ?_; clear d0; intro g0 d0; have e0 := d0.1; have l0 := d0.2.1; have s0 := d0.2.2; clear d0; have d1 := hdep ⟨19, .data⟩ (by simp) rfl; simp only [PhiYa] at d1; refine @exE6 _ _ _ _ _ _ _ _ d1 ?_; clear d1; intro A1 k1 c1 B1 m1 d1 d1; have e1 := d1.1; have n1 := d1.2; clear d1; obtain ⟨⟨a1, q1⟩, ⟨a2, q2⟩, q3, q4⟩ := s0.facts; refine ⟨?_⟩; simp only [Act.put, sA, sB, sC, Nat.zero_add, Nat.reduceAdd, e0, e1] at hK ⊢; go_simp; with_reducible refine hK undef _ (RT.store s0 l0 _ _ _ _ _ _) (hS.stored e0 e1 l0 s0 (by decide) (by decide) _) ?_
     exact trivial
    ·as_aux_lemma =>
     intro vs L W hS hL cl hdl hdep K hK; have d0 := hdep ⟨20, .data⟩ (by simp) rfl; simp only [PhiYa] at d0; refine ⟨?_⟩; simp only [Act.put, sA, sB, sC, Nat.zero_add, Nat.reduceAdd, d0] at hK ⊢; go_simp; with_reducible refine hK _ _ (RT.refl _ _) (hS.step (Below.refl _ _) 23 _ (by decide) (fun e => absurd e (by decide))) ?_
     exact rfl
   intro vs L wa hS hall hv; have v23 := hv 23 (by simp); have v8 := hv 19 (by simp); simp only [PhiYa] at v23 v8; obtain ⟨_, _, _, _, _, _, e8', ho⟩ := v8; obtain ⟨g, A9a, k9a, c9a, B9a, m9a, d9a, e10, e8, hgN, hblk⟩ := hS.st (hall 22 (by simp)); rw [e8] at e8'; rw [← e8'] at ho; have HO := Lib.hid ho; have hbx := hS.be; clear hv hS hall e8' ho; simp only [Act.put, sA, sB, sC, Nat.zero_add, Nat.reduceAdd, v23, e10, e8]; have xa := HO.out; have Fa0 := hblk.cell 0; have Fa1 := hblk.cell 1; simp only [List.getElem?_toArray, List.getElem?_cons_zero, List.getElem?_cons_succ] at Fa0 Fa1; rw [← HE.out]; have hbo := Below.tr hbo hbx; have c1 := cell_keep hbx c1; have c2 := cell_keep hbx c2; have c3 := cell_keep hbx c3; have g1 := cell_keep hbx g1; have g2 := cell_keep hbx g2; have k1 := cell_keep hbx k1; have k2 := cell_keep hbx k2; have hci := cell_keep hbx hci; have hpi := hpi.below hbx; have hqv := hqv.below hbx; have hlv := hlv.below hbx; clear HO hblk hgN hbx; go_upto_region 10 with fail; refine region_invW (PhiYb gL gM gI gV i z1 z2 z3 y1' y2' l1' l2' z (reachE b' rows' q z lv) (reachX b' rows' q z lv) wa.heap.size) (RT wa.heap.size) (SD wa 18 20 21) (by kernel_rfl) (by kernel_rfl) (by kernel_rfl) PhiYb.keep (SD.start _ _ _ _ _) (fun vs => by simp only [fillR, Act.put, sA, sB, sC, Nat.zero_add, Nat.reduceAdd]; rfl) ?_ ?_
   ·refine sK ?_ (sK ?_ (sK ?_ (sK ?_ (sK ?_ (sK ?_ (sK ?_ (sK ?_ (sK ?_ (sK ?_ (sK ?_ (sK ?_ (sK ?_ (sK ?_ (sK ?_ (sK ?_ (sK ?_ (sK ?_ (sK ?_ (sK ?_ (sK ?_ (sK ?_ (sK ?_ (sZ)))))))))))))))))))))))
    ·as_aux_lemma =>
     intro vs L W hS hL cl hdl hdep K hK; refine ⟨?_⟩; simp only [Act.put, sA, sB, sC, Nat.zero_add, Nat.reduceAdd] at hK ⊢; go_simp; with_reducible refine hK _ _ (RT.refl _ _) (hS.step (Below.refl _ _) 0 _ (by decide) (fun e => absurd e (by decide))) ?_
     exact rfl
    ·as_aux_lemma =>
     intro vs L W hS hL cl hdl hdep K hK; refine ⟨?_⟩; simp only [Act.put, sA, sB, sC, Nat.zero_add, Nat.reduceAdd] at hK ⊢; go_simp; with_reducible refine hK _ _ (RT.refl _ _) (hS.step (Below.refl _ _) 1 _ (by decide) (fun e => absurd e (by decide))) ?_
     exact rfl
    ·as_aux_lemma =>
     intro vs L W hS hL cl hdl hdep K hK; have d0 := hdep ⟨0, .data⟩ (by simp) rfl; simp only [PhiYb] at d0; have d1 := hdep ⟨1, .data⟩ (by simp) rfl; simp only [PhiYb] at d1; refine ⟨?_⟩; simp only [Act.put, sA, sB, sC, Nat.zero_add, Nat.reduceAdd, d0, d1] at hK ⊢; go_simp; with_reducible refine hK _ _ (RT.refl _ _) (hS.step (Below.refl _ _) 2 _ (by decide) (fun e => absurd e (by decide))) ?_
     exact rfl
    ·as_aux_lemma =>
     intro vs L W hS hL cl hdl hdep K hK; have d0 := hdep ⟨2, .data⟩ (by simp) rfl; simp only [PhiYb] at d0; have f1 := cell_keep hS.be c1; have f2 := cell_keep hS.be c2; have f3 := cell_keep hS.be c3; refine ⟨?_⟩; simp only [Act.put, sA, sB, sC, Nat.zero_add, Nat.reduceAdd, d0] at hK ⊢; go_simp; with_reducible refine hK _ _ (RT.refl _ _) (hS.step (Below.refl _ _) 3 _ (by decide) (fun e => absurd e (by decide))) ?_
     exact rfl
    ·as_aux_lemma =>
     intro vs L W hS hL cl hdl hdep K hK; refine ⟨?_⟩; simp only [Act.put, sA, sB, sC, Nat.zero_add, Nat.reduceAdd] at hK ⊢; go_simp; with_reducible refine hK _ _ (RT.refl _ _) (hS.step (Below.refl _ _) 4 _ (by decide) (fun e => absurd e (by decide))) ?_
     exact rfl
    ·as_aux_lemma =>
     intro vs L W hS hL cl hdl hdep K hK; refine ⟨?_⟩; simp only [Act.put, sA, sB, sC, Nat.zero_add, Nat.reduceAdd] at hK ⊢; go_simp; with_reducible refine hK _ _ (RT.refl _ _) (hS.step (Below.refl _ _) 5 _ (by decide) (fun e => absurd e (by decide))) ?_
     exact rfl
    ·as_aux_lemma =>
     intro vs L W hS hL cl hdl hdep K hK; have d0 := hdep ⟨4, .data⟩ (by simp) rfl; simp only [PhiYb] at d0; have d1 := hdep ⟨5, .data⟩ (by simp) rfl; simp only [PhiYb] at d1; refine ⟨?_⟩; simp only [Act.put, sA, sB, sC, Nat.zero_add, Nat.reduceAdd, d0, d1] at hK ⊢; go_simp; with_reducible refine hK _ _ (RT.refl _ _) (hS.step (Below.refl _ _) 6 _ (by decide) (fun e => absurd e (by decide))) ?_
     exact rfl
    ·as_aux_lemma =>
     intro vs L W hS hL cl hdl hdep K hK; have d0 := hdep ⟨6, .data⟩ (by simp) rfl; simp only [PhiYb] at d0; have f1 := cell_keep hS.be g1; have f2 := cell_keep hS.be g2; refine ⟨?_⟩; simp only [Act.put, sA, sB, sC, Nat.zero_add, Nat.reduceAdd, d0] at hK ⊢; go_simp; with_reducible refine hK _ _ (RT.refl _ _) (hS.step (Below.refl _ _) 7 _ (by decide) (fun e => absurd e (by decide))) ?_
     exact rfl
    ·as_aux_lemma =>
     intro vs L W hS hL cl hdl hdep K hK; refine ⟨?_⟩; simp only [Act.put, sA, sB, sC, Nat.zero_add, Nat.reduceAdd] at hK ⊢; go_simp; with_reducible refine hK _ _ (RT.refl _ _) (hS.step (Below.refl _ _) 8 _ (by decide) (fun e => absurd e (by decide))) ?_
     exact rfl
    ·as_aux_lemma =>
     intro vs L W hS hL cl hdl hdep K hK; refine ⟨?_⟩; simp only [Act.put, sA, sB, sC, Nat.zero_add, Nat.reduceAdd] at hK ⊢; go_simp; with_reducible refine hK _ _ (RT.refl _ _) (hS.step (Below.refl _ _) 9 _ (by decide) (fun e => absurd e (by decide))) ?_
     exact rfl
    ·as_aux_lemma =>
     intro vs L W hS hL cl hdl hdep K hK; have d0 := hdep ⟨8, .data⟩ (by simp) rfl; simp only [PhiYb] at d0; have d1 := hdep ⟨9, .data⟩ (by simp) rfl; simp only [PhiYb] at d1; refine ⟨?_⟩; simp only [Act.put, sA, sB, sC, Nat.zero_add, Nat.reduceAdd, d0, d1] at hK ⊢; go_simp; with_reducible refine hK _ _ (RT.refl _ _) (hS.step (Below.refl _ _) 10 _ (by decide) (fun e => absurd e (by decide))) ?_
     exact rfl
    ·as_aux_lemma =>
     intro vs L W hS hL cl hdl hdep K hK; have d0 := hdep ⟨10, .data⟩ (by simp) rfl; simp only [PhiYb] at d0; have f1 := cell_keep hS.be hci; refine ⟨?_⟩; simp only [Act.put, sA, sB, sC, Nat.zero_add, Nat.reduceAdd, d0] at hK ⊢; go_simp; with_reducible refine hK _ _ (RT.refl _ _) (hS.step (Below.refl _ _) 11 _ (by decide) (fun e => absurd e (by decide))) ?_
     exact rfl
    ·as_aux_lemma =>
     intro vs L W hS hL cl hdl hdep K hK; refine ⟨?_⟩; simp only [Act.put, sA, sB, sC, Nat.zero_add, Nat.reduceAdd] at hK ⊢; go_simp; with_reducible refine hK _ _ (RT.refl _ _) (hS.step (Below.refl _ _) 12 _ (by decide) (fun e => absurd e (by decide))) ?_
     exact rfl
    ·as_aux_lemma =>
     intro vs L W hS hL cl hdl hdep K hK; refine ⟨?_⟩; simp only [Act.put, sA, sB, sC, Nat.zero_add, Nat.reduceAdd] at hK ⊢; go_simp; with_reducible refine hK _ _ (RT.refl _ _) (hS.step (Below.refl _ _) 13 _ (by decide) (fun e => absurd e (by decide))) ?_
     exact rfl
    ·as_aux_lemma =>
     intro vs L W hS hL cl hdl hdep K hK; have d0 := hdep ⟨12, .data⟩ (by simp) rfl; simp only [PhiYb] at d0; have d1 := hdep ⟨13, .data⟩ (by simp) rfl; simp only [PhiYb] at d1; refine ⟨?_⟩; simp only [Act.put, sA, sB, sC, Nat.zero_add, Nat.reduceAdd, d0, d1] at hK ⊢; go_simp; with_reducible refine hK _ _ (RT.refl _ _) (hS.step (Below.refl _ _) 14 _ (by decide) (fun e => absurd e (by decide))) ?_
     exact rfl
    ·as_aux_lemma =>
     intro vs L W hS hL cl hdl hdep K hK; have d0 := hdep ⟨14, .data⟩ (by simp) rfl; simp only [PhiYb] at d0; have f1 := cell_keep hS.be k1; have f2 := cell_keep hS.be k2; refine ⟨?_⟩; simp only [Act.put, sA, sB, sC, Nat.zero_add, Nat.reduceAdd, d0] at hK ⊢; go_simp; with_reducible refine hK _ _ (RT.refl _ _) (hS.step (Below.refl _ _) 15 _ (by decide) (fun e => absurd e (by decide))) ?_
     exact rfl
    ·as_aux_lemma =>
     intro vs L W hS hL cl hdl hdep K hK; have d0 := hdep ⟨3, .data⟩ (by simp) rfl; simp only [PhiYb] at d0; have d1 := hdep ⟨7, .data⟩ (by simp) rfl; simp only [PhiYb] at d1; have d2 := hdep ⟨11, .data⟩ (by simp) rfl; simp only [PhiYb] at d2; have d3 := hdep ⟨15, .data⟩ (by simp) rfl; simp only [PhiYb] at d3; refine ⟨?_⟩; simp only [Act.put, sA, sB, sC, Nat.zero_add, Nat.reduceAdd, d0, d1, d2, d3] at hK ⊢; go_simp; refine (rreach_F _ _ _ b' q lv rows' z _ (hpi.below hS.be) (hqv.below hS.be) (hlv.below hS.be)).mono ?_; rintro e w' ⟨v, rfl, hn, hb⟩; go_wp2_with fail; with_reducible refine hK _ _ (RT.below hb hS.be.size) (hS.step hb 16 _ (by decide) (fun e => absurd e (by decide))) ?_
     exact ⟨v, rfl, hn⟩
    ·as_aux_lemma =>
     intro vs L W hS hL cl hdl hdep K hK; have d0 := hdep ⟨16, .data⟩ (by simp) rfl; simp only [PhiYb] at d0; refine @exE1 _ _ _ d0 ?_; clear d0; intro v0 d0; have e0 := d0.1; have n0 := d0.2; clear d0; refine ⟨?_⟩; simp only [Act.put, sA, sB, sC, Nat.zero_add, Nat.reduceAdd, e0] at hK ⊢; go_simp; with_reducible refine hK _ _ (RT.refl _ _) (hS.step (Below.refl _ _) 17 _ (by decide) (fun e => absurd e (by decide))) ?_
     exact ⟨_, rfl, n0⟩
    ·as_aux_lemma =>
     intro vs L W hS hL cl hdl hdep K hK; have d0 := hdep ⟨17, .data⟩ (by simp) rfl; simp only [PhiYb] at d0; refine @exE1 _ _ _ d0 ?_; clear d0; intro v0 d0; have e0 := d0.1; have n0 := d0.2; clear d0
     have h21 : L 21 = false := by
      cases h : L 21 with
      | false => rfl
      | true => exact absurd (cl 21 _ rfl h ⟨18, .data⟩ (by simp) rfl) (by rw [hL]; decide)
     obtain ⟨A, k, c, A', k', c', rfl⟩ := n0.shape; refine ⟨?_⟩; simp only [Act.put, sA, sB, sC, Nat.zero_add, Nat.reduceAdd, e0] at hK ⊢; go_simp; with_reducible refine hK _ _ (RT.refl _ _) (hS.step (Below.refl _ _) 18 _ (by decide) (fun _ => h21)) ?_
     exact ⟨_, _, _, _, _, _, rfl, n0⟩
    ·as_aux_lemma =>
     intro vs L W hS hL cl hdl hdep K hK; have d0 := hdep ⟨17, .data⟩ (by simp) rfl; simp only [PhiYb] at d0; refine @exE1 _ _ _ d0 ?_; clear d0; intro v0 d0; have e0 := d0.1; have n0 := d0.2; clear d0; refine ⟨?_⟩; simp only [Act.put, sA, sB, sC, Nat.zero_add, Nat.reduceAdd, e0] at hK ⊢; go_simp; with_reducible refine hK _ _ (RT.refl _ _) (hS.step (Below.refl _ _) 19 _ (by decide) (fun e => absurd e (by decide))) ?_
     exact rfl
    ·as_aux_lemma =>
     intro vs L W hS hL cl hdl hdep K hK
     have h21 : L 21 = false := by
      cases h : L 21 with
      | false => rfl
      | true => exact absurd (cl 21 _ rfl h ⟨20, .data⟩ (by simp) rfl) (by rw [hL]; decide)
     refine ⟨?_⟩; simp only [Act.put, sA, sB, sC, Nat.zero_add, Nat.reduceAdd] at hK ⊢; go_simp; with_reducible refine hK _ _ (RT.below (bA _ _) hS.be.size) (hS.step (bA _ _) 20 _ (by decide) (fun _ => h21)) ?_
     exact ⟨_, rfl, hS.be.size, none, 0, 0, none, 0, 0, Blk.new _ _ _⟩
    ·as_aux_lemma =>
     intro vs L W hS hL cl hdl hdep K hK; have d0 := hdep ⟨20, .data⟩ (by simp) rfl; simp only [PhiYb] at d0; refine @exE1 _ _ _ d0 ?_; clear d0; intro g0 d0; have e0 := d0.1; have l0 := d0.2.1; have s0 := d0.2.2; clear d0; have d1 := hdep ⟨18, .data⟩ (by simp) rfl; simp only [PhiYb] at d1; refine @exE6 _ _ _ _ _ _ _ _ d1 ?_; clear d1; intro A1 k1 c1 B1 m1 d1 d1; have e1 := d1.1; have n1 := d1.2; clear d1; obtain ⟨⟨a1, q1⟩, ⟨a2, q2⟩, q3, q4⟩ := s0.facts; refine ⟨?_⟩; simp only [Act.put, sA, sB, sC, Nat.zero_add, Nat.reduceAdd, e0, e1] at hK ⊢; go_simp; with_reducible refine hK undef _ (RT.store s0 l0 _ _ _ _ _ _) (hS.stored e0 e1 l0 s0 (by decide) (by decide) _) ?_
     exact trivial
    ·as_aux_lemma =>
     intro vs L W hS hL cl hdl hdep K hK; have d0 := hdep ⟨19, .data⟩ (by simp) rfl; simp only [PhiYb] at d0; refine ⟨?_⟩; simp only [Act.put, sA, sB, sC, Nat.zero_add, Nat.reduceAdd, d0] at hK ⊢; go_simp; with_reducible refine hK _ _ (RT.refl _ _) (hS.step (Below.refl _ _) 22 _ (by decide) (fun e => absurd e (by decide))) ?_
     exact rfl
   intro vs L wb hS hall hv; have v22 := hv 22 (by simp); have v8 := hv 18 (by simp); simp only [PhiYb] at v22 v8; obtain ⟨_, _, _, _, _, _, e8', ho⟩ := v8; obtain ⟨g, A9b, k9b, c9b, B9b, m9b, d9b, e10, e8, hgN, hblk⟩ := hS.st (hall 21 (by simp)); rw [e8] at e8'; rw [← e8'] at ho; have HO := Lib.hid ho; have hbx := hS.be; clear hv hS hall e8' ho; simp only [Act.put, sA, sB, sC, Nat.zero_add, Nat.reduceAdd, v22, e10, e8]; have xb := HO.out; have Fb0 := hblk.cell 0; have Fb1 := hblk.cell 1; simp only [List.getElem?_toArray, List.getElem?_cons_zero, List.getElem?_cons_succ] at Fb0 Fb1; rw [← HE.out]; have hbo := Below.tr hbo hbx; have xa := xa.below hbx; have Fa0 := cell_keep hbx Fa0; have Fa1 := cell_keep hbx Fa1; have c1 := cell_keep hbx c1; have c2 := cell_keep hbx c2; have c3 := cell_keep hbx c3; have g1 := cell_keep hbx g1; have g2 := cell_keep hbx g2; have k1 := cell_keep hbx k1; have k2 := cell_keep hbx k2; have hci := cell_keep hbx hci; have hpi := hpi.below hbx; have hqv := hqv.below hbx; have hlv := hlv.below hbx; clear HO hblk hgN hbx; go_upto_region 11 with fail; refine region_invW (PhiYc gL gM gI gV i z1 z2 z3 y1' y2' l1' l2' z (worstE b' rows' z lv) (worstX b' rows' z lv) wb.heap.size) (RT wb.heap.size) (SD wb 15 17 18) (by kernel_rfl) (by kernel_rfl) (by kernel_rfl) PhiYc.keep (SD.start _ _ _ _ _) (fun vs => by simp only [fillR, Act.put, sA, sB, sC, Nat.zero_add, Nat.reduceAdd]; rfl) ?_ ?_
   ·refine sK ?_ (sK ?_ (sK ?_ (sK ?_ (sK ?_ (sK ?_ (sK ?_ (sK ?_ (sK ?_ (sK ?_ (sK ?_ (sK ?_ (sK ?_ (sK ?_ (sK ?_ (sK ?_ (sK ?_ (sK ?_ (sK ?_ (sK ?_ (sZ))))))))))))))))))))
    ·as_aux_lemma =>
     intro vs L W hS hL cl hdl hdep K hK; refine ⟨?_⟩; simp only [Act.put, sA, sB, sC, Nat.zero_add, Nat.reduceAdd] at hK ⊢; go_simp; with_reducible refine hK _ _ (RT.refl _ _) (hS.step (Below.refl _ _) 0 _ (by decide) (fun e => absurd e (by decide))) ?_
     exact rfl
    ·as_aux_lemma =>
     intro vs L W hS hL cl hdl hdep K hK; refine ⟨?_⟩; simp only [Act.put, sA, sB, sC, Nat.zero_add, Nat.reduceAdd] at hK ⊢; go_simp; with_reducible refine hK _ _ (RT.refl _ _) (hS.step (Below.refl _ _) 1 _ (by decide) (fun e => absurd e (by decide))) ?_
     exact rfl
    ·as_aux_lemma =>
     intro vs L W hS hL cl hdl hdep K hK; have d0 := hdep ⟨0, .data⟩ (by simp) rfl; simp only [PhiYc] at d0; have d1 := hdep ⟨1, .data⟩ (by simp) rfl; simp only [PhiYc] at d1; refine ⟨?_⟩; simp only [Act.put, sA, sB, sC, Nat.zero_add, Nat.reduceAdd, d0, d1] at hK ⊢; go_simp; with_reducible refine hK _ _ (RT.refl _ _) (hS.step (Below.refl _ _) 2 _ (by decide) (fun e => absurd e (by decide))) ?_
     exact rfl
    ·as_aux_lemma =>
     intro vs L W hS hL cl hdl hdep K hK; have d0 := hdep ⟨2, .data⟩ (by simp) rfl; simp only [PhiYc] at d0; have f1 := cell_keep hS.be c1; have f2 := cell_keep hS.be c2; have f3 := cell_keep hS.be c3; refine ⟨?_⟩; simp only [Act.put, sA, sB, sC, Nat.zero_add, Nat.reduceAdd, d0] at hK ⊢; go_simp; with_reducible refine hK _ _ (RT.refl _ _) (hS.step (Below.refl _ _) 3 _ (by decide) (fun e => absurd e (by decide))) ?_
     exact rfl
    ·as_aux_lemma =>
     intro vs L W hS hL cl hdl hdep K hK; have d0 := hdep ⟨3, .data⟩ (by simp) rfl; simp only [PhiYc] at d0; refine ⟨?_⟩; simp only [Act.put, sA, sB, sC, Nat.zero_add, Nat.reduceAdd, d0] at hK ⊢; go_simp; refine (plan_E _ b' rows' _ (hpi.below hS.be)).mono ?_; rintro e w' ⟨rfl, hb⟩; go_wp2_with fail; with_reducible refine hK _ _ (RT.below hb hS.be.size) (hS.step hb 4 _ (by decide) (fun e => absurd e (by decide))) ?_
     exact rfl
    ·as_aux_lemma =>
     intro vs L W hS hL cl hdl hdep K hK; refine ⟨?_⟩; simp only [Act.put, sA, sB, sC, Nat.zero_add, Nat.reduceAdd] at hK ⊢; go_simp; with_reducible refine hK _ _ (RT.refl _ _) (hS.step (Below.refl _ _) 5 _ (by decide) (fun e => absurd e (by decide))) ?_
     exact rfl
    ·as_aux_lemma =>
     intro vs L W hS hL cl hdl hdep K hK; refine ⟨?_⟩; simp only [Act.put, sA, sB, sC, Nat.zero_add, Nat.reduceAdd] at hK ⊢; go_simp; with_reducible refine hK _ _ (RT.refl _ _) (hS.step (Below.refl _ _) 6 _ (by decide) (fun e => absurd e (by decide))) ?_
     exact rfl
    ·as_aux_lemma =>
     intro vs L W hS hL cl hdl hdep K hK; have d0 := hdep ⟨5, .data⟩ (by simp) rfl; simp only [PhiYc] at d0; have d1 := hdep ⟨6, .data⟩ (by simp) rfl; simp only [PhiYc] at d1; refine ⟨?_⟩; simp only [Act.put, sA, sB, sC, Nat.zero_add, Nat.reduceAdd, d0, d1] at hK ⊢; go_simp; with_reducible refine hK _ _ (RT.refl _ _) (hS.step (Below.refl _ _) 7 _ (by decide) (fun e => absurd e (by decide))) ?_
     exact rfl
    ·as_aux_lemma =>
     intro vs L W hS hL cl hdl hdep K hK; have d0 := hdep ⟨7, .data⟩ (by simp) rfl; simp only [PhiYc] at d0; have f1 := cell_keep hS.be hci; refine ⟨?_⟩; simp only [Act.put, sA, sB, sC, Nat.zero_add, Nat.reduceAdd, d0] at hK ⊢; go_simp; with_reducible refine hK _ _ (RT.refl _ _) (hS.step (Below.refl _ _) 8 _ (by decide) (fun e => absurd e (by decide))) ?_
     exact rfl
    ·as_aux_lemma =>
     intro vs L W hS hL cl hdl hdep K hK; refine ⟨?_⟩; simp only [Act.put, sA, sB, sC, Nat.zero_add, Nat.reduceAdd] at hK ⊢; go_simp; with_reducible refine hK _ _ (RT.refl _ _) (hS.step (Below.refl _ _) 9 _ (by decide) (fun e => absurd e (by decide))) ?_
     exact rfl
    ·as_aux_lemma =>
     intro vs L W hS hL cl hdl hdep K hK; refine ⟨?_⟩; simp only [Act.put, sA, sB, sC, Nat.zero_add, Nat.reduceAdd] at hK ⊢; go_simp; with_reducible refine hK _ _ (RT.refl _ _) (hS.step (Below.refl _ _) 10 _ (by decide) (fun e => absurd e (by decide))) ?_
     exact rfl
    ·as_aux_lemma =>
     intro vs L W hS hL cl hdl hdep K hK; have d0 := hdep ⟨9, .data⟩ (by simp) rfl; simp only [PhiYc] at d0; have d1 := hdep ⟨10, .data⟩ (by simp) rfl; simp only [PhiYc] at d1; refine ⟨?_⟩; simp only [Act.put, sA, sB, sC, Nat.zero_add, Nat.reduceAdd, d0, d1] at hK ⊢; go_simp; with_reducible refine hK _ _ (RT.refl _ _) (hS.step (Below.refl _ _) 11 _ (by decide) (fun e => absurd e (by decide))) ?_
     exact rfl
    ·as_aux_lemma =>
     intro vs L W hS hL cl hdl hdep K hK; have d0 := hdep ⟨11, .data⟩ (by simp) rfl; simp only [PhiYc] at d0; have f1 := cell_keep hS.be k1; have f2 := cell_keep hS.be k2; refine ⟨?_⟩; simp only [Act.put, sA, sB, sC, Nat.zero_add, Nat.reduceAdd, d0] at hK ⊢; go_simp; with_reducible refine hK _ _ (RT.refl _ _) (hS.step (Below.refl _ _) 12 _ (by decide) (fun e => absurd e (by decide))) ?_
     exact rfl
    ·as_aux_lemma =>
     intro vs L W hS hL cl hdl hdep K hK; have d0 := hdep ⟨4, .data⟩ (by simp) rfl; simp only [PhiYc] at d0; have d1 := hdep ⟨8, .data⟩ (by simp) rfl; simp only [PhiYc] at d1; have d2 := hdep ⟨12, .data⟩ (by simp) rfl; simp only [PhiYc] at d2; refine ⟨?_⟩; simp only [Act.put, sA, sB, sC, Nat.zero_add, Nat.reduceAdd, d0, d1, d2] at hK ⊢; go_simp; refine (worst_F _ _ b' lv rows' z _ (hpi.below hS.be) (hlv.below hS.be)).mono ?_; rintro e w' ⟨v, rfl, hn, hb⟩; go_wp2_with fail; with_reducible refine hK _ _ (RT.below hb hS.be.size) (hS.step hb 13 _ (by decide) (fun e => absurd e (by decide))) ?_
     exact ⟨v, rfl, hn⟩
    ·as_aux_lemma =>
     intro vs L W hS hL cl hdl hdep K hK; have d0 := hdep ⟨13, .data⟩ (by simp) rfl; simp only [PhiYc] at d0; refine @exE1 _ _ _ d0 ?_; clear d0; intro v0 d0; have e0 := d0.1; have n0 := d0.2; clear d0; refine ⟨?_⟩; simp only [Act.put, sA, sB, sC, Nat.zero_add, Nat.reduceAdd, e0] at hK ⊢; go_simp; with_reducible refine hK _ _ (RT.refl _ _) (hS.step (Below.refl _ _) 14 _ (by decide) (fun e => absurd e (by decide))) ?_
     exact ⟨_, rfl, n0⟩
    ·as_aux_lemma =>
     intro vs L W hS hL cl hdl hdep K hK; have d0 := hdep ⟨14, .data⟩ (by simp) rfl; simp only [PhiYc] at d0; refine @exE1 _ _ _ d0 ?_; clear d0; intro v0 d0; have e0 := d0.1; have n0 := d0.2; clear d0
     have h18 : L 18 = false := by
      cases h : L 18 with
      | false => rfl
      | true => exact absurd (cl 18 _ rfl h ⟨15, .data⟩ (by simp) rfl) (by rw [hL]; decide)
     obtain ⟨A, k, c, A', k', c', rfl⟩ := n0.shape; refine ⟨?_⟩; simp only [Act.put, sA, sB, sC, Nat.zero_add, Nat.reduceAdd, e0] at hK ⊢; go_simp; with_reducible refine hK _ _ (RT.refl _ _) (hS.step (Below.refl _ _) 15 _ (by decide) (fun _ => h18)) ?_
     exact ⟨_, _, _, _, _, _, rfl, n0⟩
    ·as_aux_lemma =>
     intro vs L W hS hL cl hdl hdep K hK; have d0 := hdep ⟨14, .data⟩ (by simp) rfl; simp only [PhiYc] at d0; refine @exE1 _ _ _ d0 ?_; clear d0; intro v0 d0; have e0 := d0.1; have n0 := d0.2; clear d0; refine ⟨?_⟩; simp only [Act.put, sA, sB, sC, Nat.zero_add, Nat.reduceAdd, e0] at hK ⊢; go_simp; with_reducible refine hK _ _ (RT.refl _ _) (hS.step (Below.refl _ _) 16 _ (by decide) (fun e => absurd e (by decide))) ?_
     exact rfl
    ·as_aux_lemma =>
     intro vs L W hS hL cl hdl hdep K hK
     have h18 : L 18 = false := by
      cases h : L 18 with
      | false => rfl
      | true => exact absurd (cl 18 _ rfl h ⟨17, .data⟩ (by simp) rfl) (by rw [hL]; decide)
     refine ⟨?_⟩; simp only [Act.put, sA, sB, sC, Nat.zero_add, Nat.reduceAdd] at hK ⊢; go_simp; with_reducible refine hK _ _ (RT.below (bA _ _) hS.be.size) (hS.step (bA _ _) 17 _ (by decide) (fun _ => h18)) ?_
     exact ⟨_, rfl, hS.be.size, none, 0, 0, none, 0, 0, Blk.new _ _ _⟩
    ·as_aux_lemma =>
     intro vs L W hS hL cl hdl hdep K hK; have d0 := hdep ⟨17, .data⟩ (by simp) rfl; simp only [PhiYc] at d0; refine @exE1 _ _ _ d0 ?_; clear d0; intro g0 d0; have e0 := d0.1; have l0 := d0.2.1; have s0 := d0.2.2; clear d0; have d1 := hdep ⟨15, .data⟩ (by simp) rfl; simp only [PhiYc] at d1; refine @exE6 _ _ _ _ _ _ _ _ d1 ?_; clear d1; intro A1 k1 c1 B1 m1 d1 d1; have e1 := d1.1; have n1 := d1.2; clear d1; obtain ⟨⟨a1, q1⟩, ⟨a2, q2⟩, q3, q4⟩ := s0.facts; refine ⟨?_⟩; simp only [Act.put, sA, sB, sC, Nat.zero_add, Nat.reduceAdd, e0, e1] at hK ⊢; go_simp; with_reducible refine hK undef _ (RT.store s0 l0 _ _ _ _ _ _) (hS.stored e0 e1 l0 s0 (by decide) (by decide) _) ?_
     exact trivial
    ·as_aux_lemma =>
     intro vs L W hS hL cl hdl hdep K hK; have d0 := hdep ⟨16, .data⟩ (by simp) rfl; simp only [PhiYc] at d0; refine ⟨?_⟩; simp only [Act.put, sA, sB, sC, Nat.zero_add, Nat.reduceAdd, d0] at hK ⊢; go_simp; with_reducible refine hK _ _ (RT.refl _ _) (hS.step (Below.refl _ _) 19 _ (by decide) (fun e => absurd e (by decide))) ?_
     exact rfl
   intro vs L wc hS hall hv; have v19 := hv 19 (by simp); have v8 := hv 15 (by simp); simp only [PhiYc] at v19 v8; obtain ⟨_, _, _, _, _, _, e8', ho⟩ := v8; obtain ⟨g, A9c, k9c, c9c, B9c, m9c, d9c, e10, e8, hgN, hblk⟩ := hS.st (hall 18 (by simp)); rw [e8] at e8'; rw [← e8'] at ho; have HO := Lib.hid ho; have hbx := hS.be; clear hv hS hall e8' ho; simp only [Act.put, sA, sB, sC, Nat.zero_add, Nat.reduceAdd, v19, e10, e8]; have xc := HO.out; have Fc0 := hblk.cell 0; have Fc1 := hblk.cell 1; simp only [List.getElem?_toArray, List.getElem?_cons_zero, List.getElem?_cons_succ] at Fc0 Fc1; rw [← HE2.out]; have hbo := Below.tr hbo hbx; have xa := xa.below hbx; have Fa0 := cell_keep hbx Fa0; have Fa1 := cell_keep hbx Fa1; have xb := xb.below hbx; have Fb0 := cell_keep hbx Fb0; have Fb1 := cell_keep hbx Fb1; have c1 := cell_keep hbx c1; have c2 := cell_keep hbx c2; have c3 := cell_keep hbx c3; have g1 := cell_keep hbx g1; have g2 := cell_keep hbx g2; have k1 := cell_keep hbx k1; have k2 := cell_keep hbx k2; have hci := cell_keep hbx hci; have hpi := hpi.below hbx; have hqv := hqv.below hbx; have hlv := hlv.below hbx; clear HO hblk hgN hbx; go_upto_region 12 with fail; refine region_invW (PhiYd gL gM gI gV i z1 z2 z3 y1' y2' l1' l2' z (worstE b' rows' z lv) (worstX b' rows' z lv) wc.heap.size) (RT wc.heap.size) (SD wc 14 16 17) (by kernel_rfl) (by kernel_rfl) (by kernel_rfl) PhiYd.keep (SD.start _ _ _ _ _) (fun vs => by simp only [fillR, Act.put, sA, sB, sC, Nat.zero_add, Nat.reduceAdd]; rfl) ?_ ?_
   ·refine sK ?_ (sK ?_ (sK ?_ (sK ?_ (sK ?_ (sK ?_ (sK ?_ (sK ?_ (sK ?_ (sK ?_ (sK ?_ (sK ?_ (sK ?_ (sK ?_ (sK ?_ (sK ?_ (sK ?_ (sK ?_ (sK ?_ (sZ)))))))))))))))))))
    ·as_aux_lemma =>
     intro vs L W hS hL cl hdl hdep K hK; refine ⟨?_⟩; simp only [Act.put, sA, sB, sC, Nat.zero_add, Nat.reduceAdd] at hK ⊢; go_simp; with_reducible refine hK _ _ (RT.refl _ _) (hS.step (Below.refl _ _) 0 _ (by decide) (fun e => absurd e (by decide))) ?_
     exact rfl
    ·as_aux_lemma =>
     intro vs L W hS hL cl hdl hdep K hK; refine ⟨?_⟩; simp only [Act.put, sA, sB, sC, Nat.zero_add, Nat.reduceAdd] at hK ⊢; go_simp; with_reducible refine hK _ _ (RT.refl _ _) (hS.step (Below.refl _ _) 1 _ (by decide) (fun e => absurd e (by decide))) ?_
     exact rfl
    ·as_aux_lemma =>
     intro vs L W hS hL cl hdl hdep K hK; have d0 := hdep ⟨0, .data⟩ (by simp) rfl; simp only [PhiYd] at d0; have d1 := hdep ⟨1, .data⟩ (by simp) rfl; simp only [PhiYd] at d1; refine ⟨?_⟩; simp only [Act.put, sA, sB, sC, Nat.zero_add, Nat.reduceAdd, d0, d1] at hK ⊢; go_simp; with_reducible refine hK _ _ (RT.refl _ _) (hS.step (Below.refl _ _) 2 _ (by decide) (fun e => absurd e (by decide))) ?_
     exact rfl
    ·as_aux_lemma =>
     intro vs L W hS hL cl hdl hdep K hK; have d0 := hdep ⟨2, .data⟩ (by simp) rfl; simp only [PhiYd] at d0; have f1 := cell_keep hS.be c1; have f2 := cell_keep hS.be c2; have f3 := cell_keep hS.be c3; refine ⟨?_⟩; simp only [Act.put, sA, sB, sC, Nat.zero_add, Nat.reduceAdd, d0] at hK ⊢; go_simp; with_reducible refine hK _ _ (RT.refl _ _) (hS.step (Below.refl _ _) 3 _ (by decide) (fun e => absurd e (by decide))) ?_
     exact rfl
    ·as_aux_lemma =>
     intro vs L W hS hL cl hdl hdep K hK; refine ⟨?_⟩; simp only [Act.put, sA, sB, sC, Nat.zero_add, Nat.reduceAdd] at hK ⊢; go_simp; with_reducible refine hK _ _ (RT.refl _ _) (hS.step (Below.refl _ _) 4 _ (by decide) (fun e => absurd e (by decide))) ?_
     exact rfl
    ·as_aux_lemma =>
     intro vs L W hS hL cl hdl hdep K hK; refine ⟨?_⟩; simp only [Act.put, sA, sB, sC, Nat.zero_add, Nat.reduceAdd] at hK ⊢; go_simp; with_reducible refine hK _ _ (RT.refl _ _) (hS.step (Below.refl _ _) 5 _ (by decide) (fun e => absurd e (by decide))) ?_
     exact rfl
    ·as_aux_lemma =>
     intro vs L W hS hL cl hdl hdep K hK; have d0 := hdep ⟨4, .data⟩ (by simp) rfl; simp only [PhiYd] at d0; have d1 := hdep ⟨5, .data⟩ (by simp) rfl; simp only [PhiYd] at d1; refine ⟨?_⟩; simp only [Act.put, sA, sB, sC, Nat.zero_add, Nat.reduceAdd, d0, d1] at hK ⊢; go_simp; with_reducible refine hK _ _ (RT.refl _ _) (hS.step (Below.refl _ _) 6 _ (by decide) (fun e => absurd e (by decide))) ?_
     exact rfl
    ·as_aux_lemma =>
     intro vs L W hS hL cl hdl hdep K hK; have d0 := hdep ⟨6, .data⟩ (by simp) rfl; simp only [PhiYd] at d0; have f1 := cell_keep hS.be hci; refine ⟨?_⟩; simp only [Act.put, sA, sB, sC, Nat.zero_add, Nat.reduceAdd, d0] at hK ⊢; go_simp; with_reducible refine hK _ _ (RT.refl _ _) (hS.step (Below.refl _ _) 7 _ (by decide) (fun e => absurd e (by decide))) ?_
     exact rfl
    ·as_aux_lemma =>
     intro vs L W hS hL cl hdl hdep K hK; refine ⟨?_⟩; simp only [Act.put, sA, sB, sC, Nat.zero_add, Nat.reduceAdd] at hK ⊢; go_simp; with_reducible refine hK _ _ (RT.refl _ _) (hS.step (Below.refl _ _) 8 _ (by decide) (fun e => absurd e (by decide))) ?_
     exact rfl
    ·as_aux_lemma =>
     intro vs L W hS hL cl hdl hdep K hK; refine ⟨?_⟩; simp only [Act.put, sA, sB, sC, Nat.zero_add, Nat.reduceAdd] at hK ⊢; go_simp; with_reducible refine hK _ _ (RT.refl _ _) (hS.step (Below.refl _ _) 9 _ (by decide) (fun e => absurd e (by decide))) ?_
     exact rfl
    ·as_aux_lemma =>
     intro vs L W hS hL cl hdl hdep K hK; have d0 := hdep ⟨8, .data⟩ (by simp) rfl; simp only [PhiYd] at d0; have d1 := hdep ⟨9, .data⟩ (by simp) rfl; simp only [PhiYd] at d1; refine ⟨?_⟩; simp only [Act.put, sA, sB, sC, Nat.zero_add, Nat.reduceAdd, d0, d1] at hK ⊢; go_simp; with_reducible refine hK _ _ (RT.refl _ _) (hS.step (Below.refl _ _) 10 _ (by decide) (fun e => absurd e (by decide))) ?_
     exact rfl
    ·as_aux_lemma =>
     intro vs L W hS hL cl hdl hdep K hK; have d0 := hdep ⟨10, .data⟩ (by simp) rfl; simp only [PhiYd] at d0; have f1 := cell_keep hS.be k1; have f2 := cell_keep hS.be k2; refine ⟨?_⟩; simp only [Act.put, sA, sB, sC, Nat.zero_add, Nat.reduceAdd, d0] at hK ⊢; go_simp; with_reducible refine hK _ _ (RT.refl _ _) (hS.step (Below.refl _ _) 11 _ (by decide) (fun e => absurd e (by decide))) ?_
     exact rfl
    ·as_aux_lemma =>
     intro vs L W hS hL cl hdl hdep K hK; have d0 := hdep ⟨3, .data⟩ (by simp) rfl; simp only [PhiYd] at d0; have d1 := hdep ⟨7, .data⟩ (by simp) rfl; simp only [PhiYd] at d1; have d2 := hdep ⟨11, .data⟩ (by simp) rfl; simp only [PhiYd] at d2; refine ⟨?_⟩; simp only [Act.put, sA, sB, sC, Nat.zero_add, Nat.reduceAdd, d0, d1, d2] at hK ⊢; go_simp; refine (rworst_F _ _ b' lv rows' z _ (hpi.below hS.be) (hlv.below hS.be)).mono ?_; rintro e w' ⟨v, rfl, hn, hb⟩; go_wp2_with fail; with_reducible refine hK _ _ (RT.below hb hS.be.size) (hS.step hb 12 _ (by decide) (fun e => absurd e (by decide))) ?_
     exact ⟨v, rfl, hn⟩
    ·as_aux_lemma =>
     intro vs L W hS hL cl hdl hdep K hK; have d0 := hdep ⟨12, .data⟩ (by simp) rfl; simp only [PhiYd] at d0; refine @exE1 _ _ _ d0 ?_; clear d0; intro v0 d0; have e0 := d0.1; have n0 := d0.2; clear d0; refine ⟨?_⟩; simp only [Act.put, sA, sB, sC, Nat.zero_add, Nat.reduceAdd, e0] at hK ⊢; go_simp; with_reducible refine hK _ _ (RT.refl _ _) (hS.step (Below.refl _ _) 13 _ (by decide) (fun e => absurd e (by decide))) ?_
     exact ⟨_, rfl, n0⟩
    ·as_aux_lemma =>
     intro vs L W hS hL cl hdl hdep K hK; have d0 := hdep ⟨13, .data⟩ (by simp) rfl; simp only [PhiYd] at d0; refine @exE1 _ _ _ d0 ?_; clear d0; intro v0 d0; have e0 := d0.1; have n0 := d0.2; clear d0
     have h17 : L 17 = false := by
      cases h : L 17 with
      | false => rfl
      | true => exact absurd (cl 17 _ rfl h ⟨14, .data⟩ (by simp) rfl) (by rw [hL]; decide)
     obtain ⟨A, k, c, A', k', c', rfl⟩ := n0.shape; refine ⟨?_⟩; simp only [Act.put, sA, sB, sC, Nat.zero_add, Nat.reduceAdd, e0] at hK ⊢; go_simp; with_reducible refine hK _ _ (RT.refl _ _) (hS.step (Below.refl _ _) 14 _ (by decide) (fun _ => h17)) ?_
     exact ⟨_, _, _, _, _, _, rfl, n0⟩
    ·as_aux_lemma =>
     intro vs L W hS hL cl hdl hdep K hK; have d0 := hdep ⟨13, .data⟩ (by simp) rfl; simp only [PhiYd] at d0; refine @exE1 _ _ _ d0 ?_; clear d0; intro v0 d0; have e0 := d0.1; have n0 := d0.2; clear d0; refine ⟨?_⟩; simp only [Act.put, sA, sB, sC, Nat.zero_add, Nat.reduceAdd, e0] at hK ⊢; go_simp; with_reducible refine hK _ _ (RT.refl _ _) (hS.step (Below.refl _ _) 15 _ (by decide) (fun e => absurd e (by decide))) ?_
     exact rfl
    ·as_aux_lemma =>
     intro vs L W hS hL cl hdl hdep K hK
     have h17 : L 17 = false := by
      cases h : L 17 with
      | false => rfl
      | true => exact absurd (cl 17 _ rfl h ⟨16, .data⟩ (by simp) rfl) (by rw [hL]; decide)
     refine ⟨?_⟩; simp only [Act.put, sA, sB, sC, Nat.zero_add, Nat.reduceAdd] at hK ⊢; go_simp; with_reducible refine hK _ _ (RT.below (bA _ _) hS.be.size) (hS.step (bA _ _) 16 _ (by decide) (fun _ => h17)) ?_
     exact ⟨_, rfl, hS.be.size, none, 0, 0, none, 0, 0, Blk.new _ _ _⟩
    ·as_aux_lemma =>
     intro vs L W hS hL cl hdl hdep K hK; have d0 := hdep ⟨16, .data⟩ (by simp) rfl; simp only [PhiYd] at d0; refine @exE1 _ _ _ d0 ?_; clear d0; intro g0 d0; have e0 := d0.1; have l0 := d0.2.1; have s0 := d0.2.2; clear d0; have d1 := hdep ⟨14, .data⟩ (by simp) rfl; simp only [PhiYd] at d1; refine @exE6 _ _ _ _ _ _ _ _ d1 ?_; clear d1; intro A1 k1 c1 B1 m1 d1 d1; have e1 := d1.1; have n1 := d1.2; clear d1; obtain ⟨⟨a1, q1⟩, ⟨a2, q2⟩, q3, q4⟩ := s0.facts; refine ⟨?_⟩; simp only [Act.put, sA, sB, sC, Nat.zero_add, Nat.reduceAdd, e0, e1] at hK ⊢; go_simp; with_reducible refine hK undef _ (RT.store s0 l0 _ _ _ _ _ _) (hS.stored e0 e1 l0 s0 (by decide) (by decide) _) ?_
     exact trivial
    ·as_aux_lemma =>
     intro vs L W hS hL cl hdl hdep K hK; have d0 := hdep ⟨15, .data⟩ (by simp) rfl; simp only [PhiYd] at d0; refine ⟨?_⟩; simp only [Act.put, sA, sB, sC, Nat.zero_add, Nat.reduceAdd, d0] at hK ⊢; go_simp; with_reducible refine hK _ _ (RT.refl _ _) (hS.step (Below.refl _ _) 18 _ (by decide) (fun e => absurd e (by decide))) ?_
     exact rfl
   intro vs L wd hS hall hv; have v18 := hv 18 (by simp); have v8 := hv 14 (by simp); simp only [PhiYd] at v18 v8; obtain ⟨_, _, _, _, _, _, e8', ho⟩ := v8; obtain ⟨g, A9d, k9d, c9d, B9d, m9d, d9d, e10, e8, hgN, hblk⟩ := hS.st (hall 17 (by simp)); rw [e8] at e8'; rw [← e8'] at ho; have HO := Lib.hid ho; have hbx := hS.be; clear hv hS hall e8' ho; simp only [Act.put, sA, sB, sC, Nat.zero_add, Nat.reduceAdd, v18, e10, e8]; have xd := HO.out; have Fd0 := hblk.cell 0; have Fd1 := hblk.cell 1; simp only [List.getElem?_toArray, List.getElem?_cons_zero, List.getElem?_cons_succ] at Fd0 Fd1; rw [← HE2.out]; have hbo := Below.tr hbo hbx; have xa := xa.below hbx; have Fa0 := cell_keep hbx Fa0; have Fa1 := cell_keep hbx Fa1; have xb := xb.below hbx; have Fb0 := cell_keep hbx Fb0; have Fb1 := cell_keep hbx Fb1; have xc := xc.below hbx; have Fc0 := cell_keep hbx Fc0; have Fc1 := cell_keep hbx Fc1; clear HO hblk hgN hbx c1 c2 c3 g1 g2 k1 k2 hci hpi hqv hlv; have tE : (E != E) = false := by simp
   have tE2 : (E2 != E2) = false := by simp
   go_wp2_with fail; refine (rsame_F _ _ _ _ xa xb).mono ?_; rintro e w9 ⟨rfl, hb9⟩; have xc := xc.below hb9; have xd := xd.below hb9; have Fc0 := cell_keep hb9 Fc0; have Fc1 := cell_keep hb9 Fc1; have Fd0 := cell_keep hb9 Fd0; have Fd1 := cell_keep hb9 Fd1; have hbo := Below.tr hbo hb9; clear xa xb Fa0 Fa1 Fb0 Fb1 hb9; go_wp2_with fail; refine (rsame_F _ _ _ _ xc xd).mono ?_; rintro e w8 ⟨rfl, hb8⟩; have hbo := Below.tr hbo hb8; clear xc xd Fc0 Fc1 Fd0 Fd1 hb8; go_wp2_with fail
   go_roundg (G - 1)
   case measure => omega
   case rel => exact ⟨i + 1, by go_num, by omega, hbo⟩
  ·have t1 : decide ((i : Int) < 3) = false := by simp; omega
   have hbw := Below.tr hbw hbo; go_wp2_with fail; refine (lives17_n _).mono ?_; rintro e w' ⟨rfl, hb⟩; go_wp2_with fail; go_ret; exact ⟨rfl, Below.tr hbw hb⟩
end Go.Proofs.YtnjjdiilkhdbeaaGreat
