import Derived.Test.YtnjjdiilkhdbeaaKFairProof24
import Derived.Test.YtnjjdiilkhdbeaaS0
set_option linter.unusedVariables false
set_option linter.unusedSimpArgs false
namespace Go.Proofs.Ytnjjdiilkhdbeaa
open Go Go.RowKit
theorem oneP_ok : okP oneP := okP_lb
theorem stakeF_ok (b s : LP) (bad : Bool) : okP (stakeF b s bad) := by
 unfold stakeF
 split
 ·exact addV_ok _ _
 ·exact subV_ok _ _
theorem mixV_valid (q a b : LP) : validP (mixV q a b) = 0 := addV_valid (mulV_ok _ _) (mulV_ok _ _)
theorem worstV_valid (q a b : LP) (hb : validP b = 0) : validP (worstV q a b) = 0 := by
 unfold worstV
 split
 ·exact mixV_valid _ _ _
 ·exact hb
theorem reachV_valid {ch : LP → LP → LP} (hch : ∀ a b, validP b = 0 → validP (ch a b) = 0) (b : LP) (rows : List (List LP)) (level : LP) : ∀ d m k c, validP (reachV ch b rows level d m k c) = 0 := by
 intro d
 induction d with
 | zero =>
  intro m k c; rw [reachV]
  split
  ·exact valid_one
  ·exact valid_nilP
 | succ d ih =>
  intro m k c; rw [reachV]
  split
  ·exact valid_one
  ·exact hch _ _ (ih _ _ _)
/-- how the reference combines two measures -/
noncomputable def chV (hard : Bool) (q : LP) : LP → LP → LP := if hard then worstV q else mixV q
theorem chV_valid (hard : Bool) (q a b : LP) (hb : validP b = 0) : validP (chV hard q a b) = 0 := by
 unfold chV
 cases hard
 ·exact mixV_valid _ _ _
 ·exact worstV_valid _ _ _ hb
def PhiR6 (gp m k n kS cS : Nat) (S : Option Addr) (hard : Bool) (q1 q2 c1 c2 s1 s2 l1 l2 x1 x2 : Value) (q c s b level : LP) (xb xg : LP → LP) (B : Nat) (j : Nat) (w : World) (x : Value) : Prop :=
 match j with
 | 0 => x = .agg #[x1, x2, .slice S kS cS]
 | 1 => x = .agg #[q1, q2]
 | 2 => x = .bool hard
 | 3 => x = .int .i64 (m : Int)
 | 4 => x = .int .i64 ((m : Int) + 1)
 | 5 => x = .int .i64 (k : Int)
 | 6 => x = .int .i64 ((k : Int) + 1)
 | 7 => x = .int .i64 (n : Int)
 | 8 => x = .agg #[c1, c2]
 | 9 => x = .agg #[s1, s2]
 | 10 => x = .pointer (some ⟨gp, 0, none⟩)
 | 11 => x = .agg #[x1, x2]
 | 12 => RtP w x (stakeF b s true)
 | 13 => RtP w x (mulV c (stakeF b s true))
 | 14 => x = .agg #[l1, l2]
 | 15 => ∃ Y1 y2 y3 Y4 y5 y6, x = .agg #[.slice Y1 y2 y3, .slice Y4 y5 y6] ∧ RtP w (.agg #[.slice Y1 y2 y3, .slice Y4 y5 y6]) (xb (mulV c (stakeF b s true)))
 | 16 => ∃ g, x = .pointer (some ⟨g, 0, none⟩) ∧ B ≤ g ∧ Sl w g
 | 17 => True
 | _ => True
theorem PhiR6.keep {gp m k n kS cS : Nat} {S : Option Addr} {hard : Bool} {q1 q2 c1 c2 s1 s2 l1 l2 x1 x2 : Value} {q c s b level : LP} {xb xg : LP → LP} {B : Nat} : ∀ (w w' : World), RT B w w' → ∀ j x, PhiR6 gp m k n kS cS S hard q1 q2 c1 c2 s1 s2 l1 l2 x1 x2 q c s b level xb xg B j w x → PhiR6 gp m k n kS cS S hard q1 q2 c1 c2 s1 s2 l1 l2 x1 x2 q c s b level xb xg B j w' x := by
 intro w w' hr j x h; unfold PhiR6 at h ⊢
 split <;> simp only at h ⊢
 all_goals first
  | exact h
  | exact h.mapL hr.lim
  | (obtain ⟨v, er, e, h⟩ := h; exact ⟨v, er, e, h.mapL hr.lim⟩)
  | (obtain ⟨A, k, c, A', k', c', e, h⟩ := h; exact ⟨A, k, c, A', k', c', e, h.mapL hr.lim⟩)
  | (obtain ⟨g, e, h1, h2⟩ := h; exact ⟨g, e, h1, hr.sl g h2⟩)
def PhiR7 (gp m k n kS cS : Nat) (S : Option Addr) (hard : Bool) (q1 q2 c1 c2 s1 s2 l1 l2 x1 x2 : Value) (q c s b level : LP) (xb xg : LP → LP) (B : Nat) (j : Nat) (w : World) (x : Value) : Prop :=
 match j with
 | 0 => x = .agg #[x1, x2, .slice S kS cS]
 | 1 => x = .agg #[q1, q2]
 | 2 => x = .bool hard
 | 3 => x = .int .i64 (m : Int)
 | 4 => x = .int .i64 ((m : Int) + 1)
 | 5 => x = .int .i64 (k : Int)
 | 6 => x = .int .i64 (n : Int)
 | 7 => x = .agg #[c1, c2]
 | 8 => x = .agg #[s1, s2]
 | 9 => x = .pointer (some ⟨gp, 0, none⟩)
 | 10 => x = .agg #[x1, x2]
 | 11 => RtP w x (stakeF b s false)
 | 12 => RtP w x (mulV c (stakeF b s false))
 | 13 => x = .agg #[l1, l2]
 | 14 => ∃ Y1 y2 y3 Y4 y5 y6, x = .agg #[.slice Y1 y2 y3, .slice Y4 y5 y6] ∧ RtP w (.agg #[.slice Y1 y2 y3, .slice Y4 y5 y6]) (xg (mulV c (stakeF b s false)))
 | 15 => ∃ g, x = .pointer (some ⟨g, 0, none⟩) ∧ B ≤ g ∧ Sl w g
 | 16 => True
 | _ => True
theorem PhiR7.keep {gp m k n kS cS : Nat} {S : Option Addr} {hard : Bool} {q1 q2 c1 c2 s1 s2 l1 l2 x1 x2 : Value} {q c s b level : LP} {xb xg : LP → LP} {B : Nat} : ∀ (w w' : World), RT B w w' → ∀ j x, PhiR7 gp m k n kS cS S hard q1 q2 c1 c2 s1 s2 l1 l2 x1 x2 q c s b level xb xg B j w x → PhiR7 gp m k n kS cS S hard q1 q2 c1 c2 s1 s2 l1 l2 x1 x2 q c s b level xb xg B j w' x := by
 intro w w' hr j x h; unfold PhiR7 at h ⊢
 split <;> simp only at h ⊢
 all_goals first
  | exact h
  | exact h.mapL hr.lim
  | (obtain ⟨v, er, e, h⟩ := h; exact ⟨v, er, e, h.mapL hr.lim⟩)
  | (obtain ⟨A, k, c, A', k', c', e, h⟩ := h; exact ⟨A, k, c, A', k', c', e, h.mapL hr.lim⟩)
  | (obtain ⟨g, e, h1, h2⟩ := h; exact ⟨g, e, h1, hr.sl g h2⟩)
def PhiR8 (q1 q2 a1 a2 g1 g2 : Value) (q a gg : LP) (B : Nat) (j : Nat) (w : World) (x : Value) : Prop :=
 match j with
 | 0 => x = .agg #[q1, q2]
 | 1 => x = .agg #[a1, a2]
 | 2 => RtP w x (mulV q a)
 | 3 => x = .agg #[q1, q2]
 | 4 => RtP w x (subV oneP q)
 | 5 => x = .agg #[g1, g2]
 | 6 => RtP w x (mulV (subV oneP q) gg)
 | 7 => ∃ Y1 y2 y3 Y4 y5 y6, x = .agg #[.slice Y1 y2 y3, .slice Y4 y5 y6] ∧ RtP w (.agg #[.slice Y1 y2 y3, .slice Y4 y5 y6]) (addV (mulV q a) (mulV (subV oneP q) gg))
 | 8 => ∃ g, x = .pointer (some ⟨g, 0, none⟩) ∧ B ≤ g ∧ Sl w g
 | 9 => True
 | _ => True
theorem PhiR8.keep {q1 q2 a1 a2 g1 g2 : Value} {q a gg : LP} {B : Nat} : ∀ (w w' : World), RT B w w' → ∀ j x, PhiR8 q1 q2 a1 a2 g1 g2 q a gg B j w x → PhiR8 q1 q2 a1 a2 g1 g2 q a gg B j w' x := by
 intro w w' hr j x h; unfold PhiR8 at h ⊢
 split <;> simp only at h ⊢
 all_goals first
  | exact h
  | exact h.mapL hr.lim
  | (obtain ⟨v, er, e, h⟩ := h; exact ⟨v, er, e, h.mapL hr.lim⟩)
  | (obtain ⟨A, k, c, A', k', c', e, h⟩ := h; exact ⟨A, k, c, A', k', c', e, h.mapL hr.lim⟩)
  | (obtain ⟨g, e, h1, h2⟩ := h; exact ⟨g, e, h1, hr.sl g h2⟩)
end Go.Proofs.Ytnjjdiilkhdbeaa
