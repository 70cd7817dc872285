import Derived.Test.YtmbfjmilhfmnkaaGreatDoorKRdsProof17
import Derived.Test.YtmbfjmilhfmnkaaGreatDoorKRdsProof20
import Derived.Test.YtmbfjmilhfmnkaaGreatDoorS0
set_option linter.unusedVariables false
set_option linter.unusedSimpArgs false
namespace Go.Proofs.YtmbfjmilhfmnkaaGreatDoor
open Go Go.RowKit
def oneP : LP := ratP 1 1
noncomputable def addV (a b : LP) : LP := (addF a b).2
noncomputable def subV (a b : LP) : LP := (subF a b).2
noncomputable def mulV (a b : LP) : LP := (mulF a b).2
def fewB (l : List Nat) : Bool := decide (l.length = 0) || (decide (l.length = 1) && decide (l.getD 0 0 ≤ 255))
def smallB (x : LP) : Bool := decide (validP x = 0) && (fewB x.1 && fewB x.2)
def cmpV (a b : LP) : Int := if firstE (validP a) (validP b) ≠ 0 then 0 else Nm.cmpN ((numL a).1 * (numL b).2) ((numL b).1 * (numL a).2)
def atB (a b : LP) : Bool := decide (cmpV a b ≤ 0)
def partB (x : LP) : Bool := smallB x && atB x oneP
theorem cmpV_rat {pa qa pb qb : Nat} (ga : Nm.Good pa qa) (gb : Nm.Good pb qb) : cmpV (ratP pa qa) (ratP pb qb) = Nm.cmpN (pa * qb) (pb * qa) := by
 unfold cmpV; rw [if_neg (by rw [valid_rat ga, valid_rat gb]; simp [firstE]), numL_rat ga, numL_rat gb]
/-- what an operation may do to the world: rows of limbs last -/
structure RT (N : Nat) (w w' : World) : Prop where
 be : Below N w w'
 lim : ∀ A c l, Lim w A c l → Lim w' A c l
 sl : ∀ g, Sl w g → Sl w' g
theorem RT.refl (N : Nat) (w : World) : RT N w w := ⟨Below.refl _ _, fun _ _ _ h => h, fun _ h => h⟩
theorem RT.below {N : Nat} {w w' : World} (hb : Below w.heap.size w w') (hN : N ≤ w.heap.size) : RT N w w' := ⟨hb.mono hN, fun _ _ _ h => h.below hb, fun _ h => h.below hb⟩
theorem RT.store {N g : Nat} {w : World} (hs : Sl w g) (hg : N ≤ g) (A : Option Addr) (k c : Nat) (A' : Option Addr) (k' c' : Nat) : RT N w ((w.setCell ⟨g, 0, none⟩ (.slice A k c)).setCell ⟨g, 1, none⟩ (.slice A' k' c')) :=
 ⟨(RS.store hs hg A k c A' k' c').be, fun _ _ _ h => (h.setSl hs _).setSl (hs.set0 A k c) _, (RS.store hs hg A k c A' k' c').sl⟩
theorem RtP.mapL {w w' : World} {v : Value} {x : LP} (h : RtP w v x) (hm : ∀ A c l, Lim w A c l → Lim w' A c l) : RtP w' v x := by
 obtain ⟨A1, k1, c1, A2, k2, c2, rfl, h1, h2, e1, e2⟩ := h; exact ⟨A1, k1, c1, A2, k2, c2, rfl, hm _ _ _ h1, hm _ _ _ h2, e1, e2⟩
/-- the call returns a ratio out of the block of its result -/
theorem ret_ratio {w0 w : World} {v : Value} {x : LP} {g : Nat} (h : RtP w v x) (hs : Sl w g) (hg : w0.heap.size ≤ g) (hb : Below w0.heap.size w0 w) :
  ∃ A k c A' k' c', v = .agg #[.slice A k c, .slice A' k' c'] ∧ (∃ a, w.cell? ⟨g, 0, none⟩ = some a) ∧ (∃ a, w.cell? ⟨g, 1, none⟩ = some a) ∧ w.frozen? ⟨g, 0, none⟩ = false ∧ w.frozen? ⟨g, 1, none⟩ = false ∧
   ((w.setCell ⟨g, 0, none⟩ (.slice A k c)).setCell ⟨g, 1, none⟩ (.slice A' k' c')).cell? ⟨g, 0, none⟩ = some (.slice A k c) ∧ ((w.setCell ⟨g, 0, none⟩ (.slice A k c)).setCell ⟨g, 1, none⟩ (.slice A' k' c')).cell? ⟨g, 1, none⟩ = some (.slice A' k' c') ∧
   RtP ((w.setCell ⟨g, 0, none⟩ (.slice A k c)).setCell ⟨g, 1, none⟩ (.slice A' k' c')) (.agg #[.slice A k c, .slice A' k' c']) x ∧ Below w0.heap.size w0 ((w.setCell ⟨g, 0, none⟩ (.slice A k c)).setCell ⟨g, 1, none⟩ (.slice A' k' c')) := by
 obtain ⟨A, k, c, A', k', c', rfl⟩ := h.shape; have hrt := RT.store (N := w0.heap.size) hs hg A k c A' k' c'; obtain ⟨q1, q2, q3, q4⟩ := hs.facts; obtain ⟨a1, b1, c1, a2, b2, c2, hblk⟩ := hs; have hb2 := (hblk.set_ 0 (.slice A k c)).set_ 1 (.slice A' k' c'); exact ⟨A, k, c, A', k', c', rfl, q1, q2, q3, q4, by rw [hb2.cell]; rfl, by rw [hb2.cell]; rfl, h.mapL hrt.lim, hb.trans hrt.be⟩
end Go.Proofs.YtmbfjmilhfmnkaaGreatDoor
namespace Go.Proofs.YtmbfjmilhfmnkaaGreatDoor
open Go Go.RowKit
theorem smallB_and {x : LP} (h : smallB x = true) : validP x = 0 ∧ fewB x.1 = true ∧ fewB x.2 = true := by
 unfold smallB at h
 simpa using h
def PhiwpartY (s1 s2 : Value) (B : Bool) (j : Nat) (w : World) (x : Value) : Prop :=
 match j with
 | 0 => x = .agg #[s1, s2]
 | 1 => x = .bool true
 | 2 => x = .bool true
 | 3 => x = .agg #[s1, s2]
 | 4 => RtP w x oneP
 | 5 => x = .bool B
 | 6 => x = .bool B
 | 7 => x = .bool B
 | _ => True
def PhiwpartN (s1 s2 : Value) (j : Nat) (w : World) (x : Value) : Prop :=
 match j with
 | 0 => x = .agg #[s1, s2]
 | 1 => x = .bool false
 | 2 => x = .bool false
 | 3 => x = undef
 | 4 => x = undef
 | 5 => x = undef
 | 6 => x = .bool false
 | 7 => x = .bool false
 | _ => True
theorem PhiwpartY.keep {s1 s2 : Value} {B : Bool} : ∀ (w w' : World), Below w.heap.size w w' → ∀ j x, PhiwpartY s1 s2 B j w x → PhiwpartY s1 s2 B j w' x := by
 intro w w' hb j x h; unfold PhiwpartY at h ⊢
 split <;> simp only at h ⊢ <;> first | exact h | exact h.below hb
theorem valid_one : validP oneP = 0 := valid_rat Good_one
theorem fewB_cases (l : List Nat) : (1 < l.length ∧ fewB l = false) ∨ (l.length = 0 ∧ fewB l = true) ∨ (l.length = 1 ∧ fewB l = decide ((l.getD 0 0 : Int) ≤ 255)) := by
 unfold fewB
 rcases Nat.lt_trichotomy l.length 1 with h | h | h
 ·right; left; refine ⟨by omega, ?_⟩; simp [show l.length = 0 by omega]
 ·right; right; refine ⟨h, ?_⟩
  rw [Bool.eq_iff_iff]; simp [h]; omega
 ·left; refine ⟨h, ?_⟩; simp [show ¬ l.length = 0 by omega, show ¬ l.length = 1 by omega]
def Phirpart17Y (s1 s2 : Value) (B : Bool) (j : Nat) (w : World) (x : Value) : Prop :=
 match j with
 | 0 => x = .agg #[s1, s2]
 | 1 => x = .bool true
 | 2 => x = .bool true
 | 3 => x = .agg #[s1, s2]
 | 4 => RtP w x oneP
 | 5 => ∃ cc, x = .int .i64 cc ∧ Hid (decide (cc ≤ 0) = B)
 | 6 => x = .bool B
 | 7 => x = .bool B
 | 8 => x = .bool B
 | _ => True
def Phirpart17N (s1 s2 : Value) (j : Nat) (w : World) (x : Value) : Prop :=
 match j with
 | 0 => x = .agg #[s1, s2]
 | 1 => x = .bool false
 | 2 => x = .bool false
 | 3 => x = undef
 | 4 => x = undef
 | 5 => x = undef
 | 6 => x = undef
 | 7 => x = .bool false
 | 8 => x = .bool false
 | _ => True
theorem Phirpart17Y.keep {s1 s2 : Value} {B : Bool} : ∀ (w w' : World), Below w.heap.size w w' → ∀ j x, Phirpart17Y s1 s2 B j w x → Phirpart17Y s1 s2 B j w' x := by
 intro w w' hb j x h; unfold Phirpart17Y at h ⊢
 split <;> simp only at h ⊢ <;> first | exact h | exact h.below hb
def PhiLs (s1 s2 : Value) (E : Int) (X : LP) (B : Nat) (j : Nat) (w : World) (x : Value) : Prop :=
 match j with
 | 0 => RtP w x oneP
 | 1 => x = .agg #[s1, s2]
 | 2 => ∃ v, x = .tuple #[v, .int .i64 E] ∧ RtP w v X
 | 3 => ∃ v, x = .tuple #[v, .int .i64 E] ∧ RtP w v X
 | 4 => ∃ A k c A' k' c', x = .agg #[.slice A k c, .slice A' k' c'] ∧ RtP w (.agg #[.slice A k c, .slice A' k' c']) X
 | 5 => x = .int .i64 E
 | 6 => ∃ g, x = .pointer (some ⟨g, 0, none⟩) ∧ B ≤ g ∧ Sl w g
 | 7 => True
 | 8 => x = .int .i64 E
 | _ => True
theorem PhiLs.keep {s1 s2 : Value} {E : Int} {X : LP} {B : Nat} : ∀ (w w' : World), RT B w w' → ∀ j x, PhiLs s1 s2 E X B j w x → PhiLs s1 s2 E X B j w' x := by
 intro w w' hr j x h; unfold PhiLs at h ⊢
 split <;> simp only at h ⊢
 all_goals first
  | exact h
  | (obtain ⟨v, e, h⟩ := h; exact ⟨v, e, h.mapL hr.lim⟩)
  | (obtain ⟨A, k, c, A', k', c', e, h⟩ := h; exact ⟨A, k, c, A', k', c', e, h.mapL hr.lim⟩)
  | (obtain ⟨g, e, h1, h2⟩ := h; exact ⟨g, e, h1, hr.sl g h2⟩)
  | exact h.mapL hr.lim
end Go.Proofs.YtmbfjmilhfmnkaaGreatDoor
namespace Go.Proofs.YtmbfjmilhfmnkaaGreatDoor
open Go Go.RowKit
/- A region of calls on ratios whose last value goes to the result's block g. -/
def GoodX (w : World) (g : Nat) (X : LP) : Prop := ∃ A k c A' k' c', Blk w g 29 #[.slice A k c, .slice A' k' c'] ∧ RtP w (.agg #[.slice A k c, .slice A' k' c']) X
/-- what an operation of such a region may do to the world -/
structure RX (B g : Nat) (X : LP) (w w' : World) : Prop where
 lim : ∀ A c l, Lim w A c l → Lim w' A c l
 cell : ∀ b i v, b ≠ g → w.cell? ⟨b, i, none⟩ = some v → w'.cell? ⟨b, i, none⟩ = some v
 sl : Sl w g → Sl w' g
 be : Below B w w'
 good : GoodX w' g X ∨ w'.heap[g]? = w.heap[g]?
theorem RX.refl {B g : Nat} {X : LP} (w : World) : RX B g X w w := ⟨fun _ _ _ h => h, fun _ _ _ _ h => h, fun h => h, Below.refl _ _, .inr rfl⟩
theorem RX.below {B g : Nat} {X : LP} {w w' : World} (hb : Below w.heap.size w w') (hB : B ≤ w.heap.size) (hg : g < w.heap.size) : RX B g X w w' :=
 ⟨fun _ _ _ h => h.below hb, fun _ _ _ _ h => cell_keep hb h, fun h => h.below hb, hb.mono hB, .inr (hb.block g hg)⟩
theorem RX.store {B g : Nat} {X : LP} {w : World} {A A' : Option Addr} {k c k' c' : Nat} (hs : Sl w g) (hB : B ≤ g) (h : RtP w (.agg #[.slice A k c, .slice A' k' c']) X) :
  RX B g X w ((w.setCell ⟨g, 0, none⟩ (.slice A k c)).setCell ⟨g, 1, none⟩ (.slice A' k' c')) ∧ GoodX ((w.setCell ⟨g, 0, none⟩ (.slice A k c)).setCell ⟨g, 1, none⟩ (.slice A' k' c')) g X := by
 have hrt := RT.store (N := B) hs hB A k c A' k' c'
 have hg : GoodX ((w.setCell ⟨g, 0, none⟩ (.slice A k c)).setCell ⟨g, 1, none⟩ (.slice A' k' c')) g X := by
  obtain ⟨r1, r2, r3, r4, r5, r6, hb⟩ := hs; exact ⟨A, k, c, A', k', c', (hb.set_ 0 _).set_ 1 _, h.mapL hrt.lim⟩
 refine ⟨⟨hrt.lim, fun b i v hne hc => ?_, hrt.sl g, hrt.be, .inl hg⟩, hg⟩; rw [World.cell?_of_block (Below.heap_setCell _ ⟨g, 1, none⟩ _ b hne), World.cell?_of_block (Below.heap_setCell _ ⟨g, 0, none⟩ _ b hne)]; exact hc
theorem GoodX.map {w w' : World} {g : Nat} {X : LP} {B : Nat} (h : GoodX w g X) (hr : RX B g X w w') : GoodX w' g X := by
 rcases hr.good with h2 | h2
 ·exact h2
 ·obtain ⟨A, k, c, A', k', c', h3, h4⟩ := h; exact ⟨A, k, c, A', k', c', h2.trans h3, h4.mapL hr.lim⟩
/-- what holds all along -/
structure SX (w0 : World) (g : Nat) (Cs : List (Nat × Nat × Value)) (W : World) : Prop where
 cl : ∀ c ∈ Cs, W.cell? ⟨c.1, c.2.1, none⟩ = some c.2.2 ∧ c.1 ≠ g
 sl : Sl W g
 be : Below w0.heap.size w0 W
 ge : w0.heap.size ≤ g
theorem SX.step {w0 w w' : World} {g : Nat} {X : LP} {Cs : List (Nat × Nat × Value)} (hr : RX w0.heap.size g X w w') (h : SX w0 g Cs w) : SX w0 g Cs w' :=
 ⟨fun c hc => ⟨hr.cell _ _ _ (h.cl c hc).2 (h.cl c hc).1, (h.cl c hc).2⟩, hr.sl h.sl, h.be.trans hr.be, h.ge⟩
theorem SX.size {w0 w : World} {g : Nat} {Cs : List (Nat × Nat × Value)} (h : SX w0 g Cs w) : w0.heap.size ≤ w.heap.size := h.be.size
theorem SX.lt {w0 w : World} {g : Nat} {Cs : List (Nat × Nat × Value)} (h : SX w0 g Cs w) : g < w.heap.size := h.sl.lt
theorem SX.below {w0 w w' : World} {g : Nat} {Cs : List (Nat × Nat × Value)} (h : SX w0 g Cs w) (hb : Below w.heap.size w w') : SX w0 g Cs w' :=
 h.step (X := nilP) (RX.below hb h.size h.lt)
theorem add_V (va vb : Value) (a b : LP) (w : World) (ha : RtP w va a) (hb : RtP w vb b) : Calls Tryz.prog 36 #[va, vb] w fun e w' => ∃ v er, e = .returned (.tuple #[v, .int .i64 er]) ∧ RtP w' v (addV a b) ∧ Below w.heap.size w w' := by
 refine (add_F va vb a b w ha hb).mono ?_; rintro e w' ⟨v, rfl, h, hb⟩; exact ⟨v, _, rfl, h, hb⟩
theorem sub_V (va vb : Value) (a b : LP) (w : World) (ha : RtP w va a) (hb : RtP w vb b) : Calls Tryz.prog 37 #[va, vb] w fun e w' => ∃ v er, e = .returned (.tuple #[v, .int .i64 er]) ∧ RtP w' v (subV a b) ∧ Below w.heap.size w w' := by
 refine (sub_F va vb a b w ha hb).mono ?_; rintro e w' ⟨v, rfl, h, hb⟩; exact ⟨v, _, rfl, h, hb⟩
end Go.Proofs.YtmbfjmilhfmnkaaGreatDoor
