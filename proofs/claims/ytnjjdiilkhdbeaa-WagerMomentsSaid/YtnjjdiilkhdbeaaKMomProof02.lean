import Derived.Test.YtnjjdiilkhdbeaaKMomProof01
import Derived.Test.YtnjjdiilkhdbeaaKCutProof28
import Derived.Test.YtnjjdiilkhdbeaaKCutProof29
import Derived.Test.YtnjjdiilkhdbeaaS0
set_option linter.unusedVariables false
set_option linter.unusedSimpArgs false
namespace Go.Proofs.Ytnjjdiilkhdbeaa
open Go Go.RowKit
theorem tdiv25_bd (n : Int) (h1 : -9223372036854775808 ≤ n) (h2 : n ≤ 9223372036854775807) : -9223372036854775808 ≤ n.tdiv 25 ∧ n.tdiv 25 ≤ 9223372036854775807 := by
 by_cases h : 0 ≤ n
 ·rw [Int.tdiv_eq_ediv_of_nonneg h]; omega
 ·obtain ⟨m, rfl⟩ : ∃ m, n = -m := ⟨-n, by omega⟩; rw [Int.neg_tdiv, Int.tdiv_eq_ediv_of_nonneg (by omega)]; omega
/-- a part of 1 -/
def PartP (w : World) (v : Value) : Prop := ∃ p q, RtP w v (ratP p q) ∧ Nm.Good p q ∧ p ≤ q ∧ q ≤ 24
theorem PartP.mapL {w w' : World} {v : Value} (h : PartP w v) (hm : ∀ A c l, Lim w A c l → Lim w' A c l) : PartP w' v := by
 obtain ⟨p, q, h1, h2⟩ := h; exact ⟨p, q, h1.mapL hm, h2⟩
/-- a ratio times a part -/
def MulP (w : World) (v : Value) (b : LP) : Prop := ∃ p q, RtP w v (mulV b (ratP p q)) ∧ Nm.Good p q ∧ p ≤ q ∧ q ≤ 24
theorem MulP.mapL {w w' : World} {v : Value} {b : LP} (h : MulP w v b) (hm : ∀ A c l, Lim w A c l → Lim w' A c l) : MulP w' v b := by
 obtain ⟨p, q, h1, h2⟩ := h; exact ⟨p, q, h1.mapL hm, h2⟩
theorem MulP.shape {w : World} {v : Value} {b : LP} (h : MulP w v b) : ∃ A k c A' k' c', v = .agg #[.slice A k c, .slice A' k' c'] := by
 obtain ⟨p, q, h1, _⟩ := h; exact h1.shape
theorem partp (n d : Int) (w : World) (h1 : -9223372036854775808 ≤ n ∧ n ≤ 9223372036854775807) (h2 : -9223372036854775808 ≤ d ∧ d ≤ 9223372036854775807) : Calls Try.prog 9 #[.int .i64 n, .int .i64 d] w fun e w' => ∃ v, e = .returned v ∧ PartP w' v ∧ Below w.heap.size w w' := by
 refine (rpart_n n d w h1.1 h1.2 h2.1 h2.2).mono ?_; rintro e w' ⟨v, p, q, rfl, hR, hG, hle, HK, hb⟩; refine ⟨v, rfl, ⟨p, q, hR.rtP, hG, hle, ?_⟩, hb⟩; obtain ⟨a0, k0, _, _, hk24, _, rfl⟩ := HK.out; exact Nat.le_trans (Nat.div_le_self _ _) hk24
theorem mulp (va vb : Value) (b : LP) (pb qb : Nat) (w : World) (ha : RtP w va b) (hb : PartP w vb) (hf : Frac b pb qb) (h1 : pb ≤ 255) (h2 : qb ≤ 255) : Calls Try.prog 8 #[va, vb] w fun e w' => ∃ v, e = .returned (.tuple #[v, .int .i64 0]) ∧ MulP w' v b ∧ Below w.heap.size w w' := by
 obtain ⟨p, q, hr, hg, hle, hq⟩ := hb; have u1 : pb * p ≤ 255 * 24 := Nat.mul_le_mul h1 (by omega); have u2 : qb * q ≤ 255 * 24 := Nat.mul_le_mul h2 hq; refine (mul_ok0 va vb b (ratP p q) w ha hr (hf.mul (Frac.of_good hg) (b64 (by omega)) (b64 (by omega))).2).mono ?_; rintro e w' ⟨v, rfl, h, hb⟩; exact ⟨v, rfl, ⟨p, q, h, hg, hle, hq⟩, hb⟩
theorem add_ok0 (va vb : Value) (a b : LP) (w : World) (ha : RtP w va a) (hb : RtP w vb b) (h0 : (addF a b).1 = 0) : Calls Try.prog 12 #[va, vb] w fun e w' => ∃ v, e = .returned (.tuple #[v, .int .i64 0]) ∧ RtP w' v (addV a b) ∧ Below w.heap.size w w' := by
 have h := add_F va vb a b w ha hb; rw [h0] at h; exact h
theorem reach_I (va vq vl : Value) (b q low high : LP) (rows : List (List LP)) (mm i mi : Nat) (w : World) (hp : PlanV w va b rows) (hq : RtP w vq q) (hl : RtP w vl (lI low high i)) (h0 : planE b rows = 0) (hqp : partB q = true) (hv : validP (lI low high i) = 0) (hmi : mi = mI mm i) (hn : mi ≤ 10) :
  Calls Try.prog 14 #[va, vq, .int .i64 (mi : Int), vl] w fun e w' => ∃ v, e = .returned (.tuple #[v, .int .i64 0]) ∧ RtP w' v (rI b rows q low high mm i) ∧ Below w.heap.size w w' := by
 have h := reach_F va vl vq b q (lI low high i) rows mi w hp hq hl
 have hE : reachE b rows q mi (lI low high i) = 0 := by
  unfold reachE boundE; rw [if_neg (by rw [h0]; simp), hqp, if_neg (by simp), if_neg (by rw [hv]; simp), if_neg (by omega)]
 have hX : reachX b rows q mi (lI low high i) = rI b rows q low high mm i := by
  unfold reachX rI; rw [if_neg (by rw [hE]; simp), ← hmi]; rfl
 rw [hE, hX] at h; exact h
theorem worst_I (va vl : Value) (b low high : LP) (rows : List (List LP)) (mm i mi : Nat) (w : World) (hp : PlanV w va b rows) (hl : RtP w vl (lI low high i)) (h0 : planE b rows = 0) (hv : validP (lI low high i) = 0) (hmi : mi = mI mm i) (hn : mi ≤ 10) :
  Calls Try.prog 16 #[va, .int .i64 (mi : Int), vl] w fun e w' => ∃ v, e = .returned (.tuple #[v, .int .i64 0]) ∧ RtP w' v (wI b rows low high mm i) ∧ Below w.heap.size w w' := by
 have h := worst_F va vl b (lI low high i) rows mi w hp hl
 have hE : worstE b rows mi (lI low high i) = 0 := by
  unfold worstE boundE; rw [if_neg (by rw [h0]; simp), if_neg (by rw [hv]; simp), if_neg (by omega)]
 have hX : worstX b rows mi (lI low high i) = wI b rows low high mm i := by
  unfold worstX wI; rw [if_neg (by rw [hE]; simp), ← hmi]; rfl
 rw [hE, hX] at h; exact h
theorem RatOwn.apt {w : World} {base : Nat} {u v v' : Value} {X : List LP} (h : RatOwn w base u X) (ha : Apt v u) (k : v'.ownBlock = v.ownBlock ∨ v'.ownBlock = some w.heap.size) : Apt v' u := by
 obtain ⟨ps, h1, _⟩ := h; exact Apt.step h1 ha k
theorem RatOwn.kept' {w w' : World} {base base' : Nat} {u a : Value} {X Y : List LP} (h : RatOwn w base u X) (ha : RatOwn w base' a Y) (k : w.grownBy w' a.ownBlock) (hne : Apt u a) : RatOwn w' base u X := by
 obtain ⟨ps, _, _, hO, _⟩ := ha; exact h.kept k hO hne
theorem low_frac {lz : Nat} (h : lz < 30) : Frac (redP (2 + lz) 2) (2 * (2 + lz)) 4 :=
 (fr (n := 2 + lz) (d := 2) (by omega) (by omega) (by omega)).scale (by omega) (b64 (by omega)) (b64 (by omega)) (by omega)
theorem high_frac {lz sz : Nat} (h : lz < 30) (h2 : sz < 9) : Frac (addV (redP (2 + lz) 2) (redP sz 4)) (2 * (2 + lz) + sz) 4 ∧ (addF (redP (2 + lz) 2) (redP sz 4)).1 = 0 :=
 (low_frac h).add (fr (n := sz) (d := 4) (by omega) (by omega) (by omega)) (b64 (by omega))
theorem lI_get {low high lv : LP} {i : Nat} (h : [low, low, high][i]? = some lv) : lv = lI low high i := by
 rcases i with _ | _ | _ | i
 ·exact (Option.some.inj h).symm
 ·exact (Option.some.inj h).symm
 ·exact (Option.some.inj h).symm
 ·simp at h
def PhiZma (x1 x2 : Value) (gP : Nat) (n1 : Int) (b : LP) (B : Nat) (j : Nat) (w : World) (x : Value) : Prop :=
 match j with
 | 0 => x = .pointer (some ⟨gP, 0, none⟩)
 | 1 => x = .agg #[x1, x2]
 | 2 => x = .int .i64 n1
 | 3 => x = .int .i64 n1
 | 4 => x = .int .i64 (n1.tdiv 25)
 | 5 => PartP w x
 | 6 => ∃ v, x = .tuple #[v, .int .i64 (0 : Int)] ∧ MulP w v b
 | 7 => ∃ v, x = .tuple #[v, .int .i64 (0 : Int)] ∧ MulP w v b
 | 8 => ∃ A k c A' k' c', x = .agg #[.slice A k c, .slice A' k' c'] ∧ MulP w (.agg #[.slice A k c, .slice A' k' c']) b
 | 9 => x = .int .i64 (0 : Int)
 | 10 => ∃ g, x = .pointer (some ⟨g, 0, none⟩) ∧ B ≤ g ∧ Sl w g
 | 11 => True
 | 12 => x = .int .i64 (0 : Int)
 | _ => True
theorem PhiZma.keep {x1 x2 : Value} {gP : Nat} {n1 : Int} {b : LP} {B : Nat} : ∀ (w w' : World), RT B w w' → ∀ j x, PhiZma x1 x2 gP n1 b B j w x → PhiZma x1 x2 gP n1 b B j w' x := by
 intro w w' hr j x h; unfold PhiZma at h ⊢
 split <;> simp only at h ⊢
 all_goals first
  | exact h
  | (obtain ⟨v, e, h⟩ := h; exact ⟨v, e, h.mapL hr.lim⟩)
  | (obtain ⟨A, k, c, A', k', c', e, h⟩ := h; exact ⟨A, k, c, A', k', c', e, h.mapL hr.lim⟩)
  | (obtain ⟨g, e, h1, h2⟩ := h; exact ⟨g, e, h1, hr.sl g h2⟩)
  | exact h.mapL hr.lim
def PhiZmb (y1 y2 : Value) (n4 : Int) (sz : Nat) (X : LP) (B : Nat) (j : Nat) (w : World) (x : Value) : Prop :=
 match j with
 | 0 => x = .agg #[y1, y2]
 | 1 => x = .int .i64 n4
 | 2 => x = .int .i64 (sz : Nat)
 | 3 => RtP w x (redP sz 4)
 | 4 => ∃ v, x = .tuple #[v, .int .i64 (0 : Int)] ∧ RtP w v X
 | 5 => ∃ v, x = .tuple #[v, .int .i64 (0 : Int)] ∧ RtP w v X
 | 6 => ∃ A k c A' k' c', x = .agg #[.slice A k c, .slice A' k' c'] ∧ RtP w (.agg #[.slice A k c, .slice A' k' c']) X
 | 7 => x = .int .i64 (0 : Int)
 | 8 => ∃ g, x = .pointer (some ⟨g, 0, none⟩) ∧ B ≤ g ∧ Sl w g
 | 9 => True
 | 10 => x = .int .i64 (0 : Int)
 | _ => True
theorem PhiZmb.keep {y1 y2 : Value} {n4 : Int} {sz : Nat} {X : LP} {B : Nat} : ∀ (w w' : World), RT B w w' → ∀ j x, PhiZmb y1 y2 n4 sz X B j w x → PhiZmb y1 y2 n4 sz X B j w' x := by
 intro w w' hr j x h; unfold PhiZmb at h ⊢
 split <;> simp only at h ⊢
 all_goals first
  | exact h
  | (obtain ⟨v, e, h⟩ := h; exact ⟨v, e, h.mapL hr.lim⟩)
  | (obtain ⟨A, k, c, A', k', c', e, h⟩ := h; exact ⟨A, k, c, A', k', c', e, h.mapL hr.lim⟩)
  | (obtain ⟨g, e, h1, h2⟩ := h; exact ⟨g, e, h1, hr.sl g h2⟩)
  | exact h.mapL hr.lim
def PhiZmc (p0 : Value) (gI gV i mi : Nat) (q1 q2 l1 l2 : Value) (X : LP) (B : Nat) (j : Nat) (w : World) (x : Value) : Prop :=
 match j with
 | 0 => x = p0
 | 1 => x = p0
 | 2 => x = .agg #[q1, q2]
 | 3 => x = .slice (some ⟨gI, 0, none⟩) 3 3
 | 4 => x = .int .i64 (i : Nat)
 | 5 => x = .pointer (some ⟨gI, i, none⟩)
 | 6 => x = .int .i64 (mi : Nat)
 | 7 => x = .slice (some ⟨gV, 0, none⟩) 3 3
 | 8 => x = .int .i64 (i : Nat)
 | 9 => x = .pointer (some ⟨gV, i * 2, none⟩)
 | 10 => x = .agg #[l1, l2]
 | 11 => ∃ v, x = .tuple #[v, .int .i64 (0 : Int)] ∧ RtP w v X
 | 12 => ∃ v, x = .tuple #[v, .int .i64 (0 : Int)] ∧ RtP w v X
 | 13 => ∃ A k c A' k' c', x = .agg #[.slice A k c, .slice A' k' c'] ∧ RtP w (.agg #[.slice A k c, .slice A' k' c']) X
 | 14 => x = .int .i64 (0 : Int)
 | 15 => ∃ g, x = .pointer (some ⟨g, 0, none⟩) ∧ B ≤ g ∧ Sl w g
 | 16 => True
 | 17 => x = .int .i64 (0 : Int)
 | _ => True
theorem PhiZmc.keep {p0 : Value} {gI gV i mi : Nat} {q1 q2 l1 l2 : Value} {X : LP} {B : Nat} : ∀ (w w' : World), RT B w w' → ∀ j x, PhiZmc p0 gI gV i mi q1 q2 l1 l2 X B j w x → PhiZmc p0 gI gV i mi q1 q2 l1 l2 X B j w' x := by
 intro w w' hr j x h; unfold PhiZmc at h ⊢
 split <;> simp only at h ⊢
 all_goals first
  | exact h
  | (obtain ⟨v, e, h⟩ := h; exact ⟨v, e, h.mapL hr.lim⟩)
  | (obtain ⟨A, k, c, A', k', c', e, h⟩ := h; exact ⟨A, k, c, A', k', c', e, h.mapL hr.lim⟩)
  | (obtain ⟨g, e, h1, h2⟩ := h; exact ⟨g, e, h1, hr.sl g h2⟩)
  | exact h.mapL hr.lim
def PhiZmd (p0 : Value) (gI gV i mi : Nat) (l1 l2 : Value) (X : LP) (B : Nat) (j : Nat) (w : World) (x : Value) : Prop :=
 match j with
 | 0 => x = p0
 | 1 => x = p0
 | 2 => x = .slice (some ⟨gI, 0, none⟩) 3 3
 | 3 => x = .int .i64 (i : Nat)
 | 4 => x = .pointer (some ⟨gI, i, none⟩)
 | 5 => x = .int .i64 (mi : Nat)
 | 6 => x = .slice (some ⟨gV, 0, none⟩) 3 3
 | 7 => x = .int .i64 (i : Nat)
 | 8 => x = .pointer (some ⟨gV, i * 2, none⟩)
 | 9 => x = .agg #[l1, l2]
 | 10 => ∃ v, x = .tuple #[v, .int .i64 (0 : Int)] ∧ RtP w v X
 | 11 => ∃ v, x = .tuple #[v, .int .i64 (0 : Int)] ∧ RtP w v X
 | 12 => ∃ A k c A' k' c', x = .agg #[.slice A k c, .slice A' k' c'] ∧ RtP w (.agg #[.slice A k c, .slice A' k' c']) X
 | 13 => x = .int .i64 (0 : Int)
 | 14 => ∃ g, x = .pointer (some ⟨g, 0, none⟩) ∧ B ≤ g ∧ Sl w g
 | 15 => True
 | 16 => x = .int .i64 (0 : Int)
 | _ => True
theorem PhiZmd.keep {p0 : Value} {gI gV i mi : Nat} {l1 l2 : Value} {X : LP} {B : Nat} : ∀ (w w' : World), RT B w w' → ∀ j x, PhiZmd p0 gI gV i mi l1 l2 X B j w x → PhiZmd p0 gI gV i mi l1 l2 X B j w' x := by
 intro w w' hr j x h; unfold PhiZmd at h ⊢
 split <;> simp only at h ⊢
 all_goals first
  | exact h
  | (obtain ⟨v, e, h⟩ := h; exact ⟨v, e, h.mapL hr.lim⟩)
  | (obtain ⟨A, k, c, A', k', c', e, h⟩ := h; exact ⟨A, k, c, A', k', c', e, h.mapL hr.lim⟩)
  | (obtain ⟨g, e, h1, h2⟩ := h; exact ⟨g, e, h1, hr.sl g h2⟩)
  | exact h.mapL hr.lim
def PhiZmf (gV i : Nat) (u1 u2 l1 l2 : Value) (X : LP) (B : Nat) (j : Nat) (w : World) (x : Value) : Prop :=
 match j with
 | 0 => x = .agg #[u1, u2]
 | 1 => x = .slice (some ⟨gV, 0, none⟩) 3 3
 | 2 => x = .int .i64 (i : Nat)
 | 3 => x = .pointer (some ⟨gV, i * 2, none⟩)
 | 4 => x = .agg #[l1, l2]
 | 5 => ∃ v, x = .tuple #[v, .int .i64 (0 : Int)] ∧ RtP w v X
 | 6 => ∃ v, x = .tuple #[v, .int .i64 (0 : Int)] ∧ RtP w v X
 | 7 => ∃ A k c A' k' c', x = .agg #[.slice A k c, .slice A' k' c'] ∧ RtP w (.agg #[.slice A k c, .slice A' k' c']) X
 | 8 => x = .int .i64 (0 : Int)
 | 9 => ∃ g, x = .pointer (some ⟨g, 0, none⟩) ∧ B ≤ g ∧ Sl w g
 | 10 => True
 | 11 => x = .int .i64 (0 : Int)
 | _ => True
theorem PhiZmf.keep {gV i : Nat} {u1 u2 l1 l2 : Value} {X : LP} {B : Nat} : ∀ (w w' : World), RT B w w' → ∀ j x, PhiZmf gV i u1 u2 l1 l2 X B j w x → PhiZmf gV i u1 u2 l1 l2 X B j w' x := by
 intro w w' hr j x h; unfold PhiZmf at h ⊢
 split <;> simp only at h ⊢
 all_goals first
  | exact h
  | (obtain ⟨v, e, h⟩ := h; exact ⟨v, e, h.mapL hr.lim⟩)
  | (obtain ⟨A, k, c, A', k', c', e, h⟩ := h; exact ⟨A, k, c, A', k', c', e, h.mapL hr.lim⟩)
  | (obtain ⟨g, e, h1, h2⟩ := h; exact ⟨g, e, h1, hr.sl g h2⟩)
  | exact h.mapL hr.lim
def PhiZmg (y1 y2 : Value) (cc : Int) (j : Nat) (w : World) (x : Value) : Prop :=
 match j with
 | 0 => x = .agg #[y1, y2]
 | 1 => RtP w x (redP 1 1)
 | 2 => x = .tuple #[.int .i64 cc, .int .i64 0]
 | 3 => x = .tuple #[.int .i64 cc, .int .i64 0]
 | 4 => x = .int .i64 cc
 | 5 => x = .int .i64 0
 | 6 => x = .int .i64 cc
 | 7 => x = .int .i64 0
 | _ => True
theorem PhiZmg.keep {y1 y2 : Value} {cc : Int} : ∀ (w w' : World), Below w.heap.size w w' → ∀ j x, PhiZmg y1 y2 cc j w x → PhiZmg y1 y2 cc j w' x := by
 intro w w' hb j x h; unfold PhiZmg at h ⊢
 split <;> simp only at h ⊢
 all_goals first
  | exact h
  | exact h.below hb
def PhiZmh (bR oR n cR o1 o2 : Nat) (y1 y2 u1 u2 : Value) (cc : Int) (j : Nat) (w : World) (x : Value) : Prop :=
 match j with
 | 0 => x = .slice (some ⟨bR, oR, none⟩) n cR
 | 1 => x = .pointer (some ⟨bR, o1, none⟩)
 | 2 => x = .agg #[y1, y2]
 | 3 => x = .slice (some ⟨bR, oR, none⟩) n cR
 | 4 => x = .pointer (some ⟨bR, o2, none⟩)
 | 5 => x = .agg #[u1, u2]
 | 6 => x = .tuple #[.int .i64 cc, .int .i64 0]
 | 7 => x = .tuple #[.int .i64 cc, .int .i64 0]
 | 8 => x = .int .i64 cc
 | 9 => x = .int .i64 0
 | 10 => x = .int .i64 cc
 | 11 => x = .int .i64 0
 | _ => True
theorem PhiZmh.keep {bR oR n cR o1 o2 : Nat} {y1 y2 u1 u2 : Value} {cc : Int} : ∀ (w w' : World), Below w.heap.size w w' → ∀ j x, PhiZmh bR oR n cR o1 o2 y1 y2 u1 u2 cc j w x → PhiZmh bR oR n cR o1 o2 y1 y2 u1 u2 cc j w' x := by
 intro w w' hb j x h; unfold PhiZmh at h ⊢
 split <;> simp only at h ⊢
 all_goals first
  | exact h
  | exact h.below hb
set_option maxRecDepth 100000 in
set_option maxHeartbeats 40000000 in
theorem wager_moments_n (A : Option Addr) (k c : Nat) (l : List Int) (n1 n2 n3 n4 : Int) (w : World) (h : RowL intC w A k l) (HL : Hid (∀ x ∈ l, -9223372036854775808 ≤ x ∧ x ≤ 9223372036854775807)) (i1 : -9223372036854775808 ≤ n1 ∧ n1 ≤ 9223372036854775807) (i2 : -9223372036854775808 ≤ n2 ∧ n2 ≤ 9223372036854775807) (i3 : -9223372036854775808 ≤ n3 ∧ n3 ≤ 9223372036854775807) (i4 : -9223372036854775808 ≤ n4 ∧ n4 ≤ 9223372036854775807) :
  Calls Try.prog 3 #[.slice A k c, .int .i64 n1, .int .i64 n2, .int .i64 n3, .int .i64 n4] w fun e w' => e = .returned (.bool true) ∧ Below w.heap.size w w' := by
 obtain ⟨iR, hiR, hzR, hzR1, hzR2⟩ := info_parts info_ratio
 go_enter Try.func3, Try.ntmps3
 go_wp2_with fail; refine (made17_F A k c l 4 _ h HL (by omega)).mono ?_; rintro e w1 ⟨v, b, rows, rfl, hpl, hpe, hlen, hb1⟩; obtain ⟨X1, xk1, xc1, X2, xk2, xc2, S, kS, cS, rfl⟩ := hpl.shape; have HPE := Lib.hid hpe; clear hpe hlen; go_upto_region 2 with fail; refine wp_name ?_; intro w2 HW2; have hb : Below w1.heap.size w1 w2 := by rw [HW2.out]; exact bA _ _
 have hBP : Blk w2 w1.heap.size 28 #[.slice X1 xk1 xc1, .slice X2 xk2 xc2, .slice S kS cS] := by rw [HW2.out]; exact Blk.new _ _ _
 obtain ⟨gP, hgP⟩ : ∃ g, Hid (g = w1.heap.size) := ⟨_, rfl⟩; rw [← hgP.out] at hBP ⊢; have hPlt := hBP.lt; have P0 := hBP.cell 0; have P1 := hBP.cell 1; have P2 := hBP.cell 2; simp only [List.getElem?_toArray, List.getElem?_cons_zero, List.getElem?_cons_succ] at P0 P1 P2
 replace hpl := hpl.below hb
 have hbw := Below.tr hb1 hb
 have hbd : RtP w2 (.agg #[.slice X1 xk1 xc1, .slice X2 xk2 xc2]) b := by
  obtain ⟨y1, y2, S', k', c', e, hbd, _⟩ := hpl; simp only [Value.agg.injEq, Array.mk.injEq, List.cons.injEq, and_true] at e; obtain ⟨rfl, rfl, _⟩ := e; exact hbd
 have HOK := Lib.hid hpl.okP; obtain ⟨pb, qb, hPN⟩ := planN_of HPE.out HOK.out.1 HOK.out.2; have HPN := Lib.hid hPN; have HPB := Lib.hid (planE_zero HPE.out).2.1; clear HW2 hBP hgP hb hb1 HOK hPN; refine region_invW (PhiZma (.slice X1 xk1 xc1) (.slice X2 xk2 xc2) gP n1 b w2.heap.size) (RT w2.heap.size) (SD w2 8 10 11) (by kernel_rfl) (by kernel_rfl) (by kernel_rfl) PhiZma.keep (SD.start _ _ _ _ _) (fun vs => by simp only [fillR, Act.put, sA, sB, sC, Nat.zero_add, Nat.reduceAdd]; rfl) ?_ ?_
 ·refine sK ?_ (sK ?_ (sK ?_ (sK ?_ (sK ?_ (sK ?_ (sK ?_ (sK ?_ (sK ?_ (sK ?_ (sK ?_ (sK ?_ (sK ?_ (sZ)))))))))))))
  ·as_aux_lemma =>
   intro vs L W hS hL cl hdl hdep K hK; refine ⟨?_⟩; simp only [Act.put, sA, sB, sC, Nat.zero_add, Nat.reduceAdd] at hK ⊢; go_simp; with_reducible refine hK _ _ (RT.refl _ _) (hS.step (Below.refl _ _) 0 _ (by decide) (fun e => absurd e (by decide))) ?_
   exact rfl
  ·as_aux_lemma =>
   intro vs L W hS hL cl hdl hdep K hK; have d0 := hdep ⟨0, .data⟩ (by simp) rfl; simp only [PhiZma] at d0; have f1 := cell_keep hS.be P0; have f2 := cell_keep hS.be P1; refine ⟨?_⟩; simp only [Act.put, sA, sB, sC, Nat.zero_add, Nat.reduceAdd, d0] at hK ⊢; go_simp; with_reducible refine hK _ _ (RT.refl _ _) (hS.step (Below.refl _ _) 1 _ (by decide) (fun e => absurd e (by decide))) ?_
   exact rfl
  ·as_aux_lemma =>
   intro vs L W hS hL cl hdl hdep K hK; refine ⟨?_⟩; simp only [Act.put, sA, sB, sC, Nat.zero_add, Nat.reduceAdd] at hK ⊢; go_simp; with_reducible refine hK _ _ (RT.refl _ _) (hS.step (Below.refl _ _) 2 _ (by decide) (fun e => absurd e (by decide))) ?_
   exact rfl
  ·as_aux_lemma =>
   intro vs L W hS hL cl hdl hdep K hK; refine ⟨?_⟩; simp only [Act.put, sA, sB, sC, Nat.zero_add, Nat.reduceAdd] at hK ⊢; go_simp; with_reducible refine hK _ _ (RT.refl _ _) (hS.step (Below.refl _ _) 3 _ (by decide) (fun e => absurd e (by decide))) ?_
   exact rfl
  ·as_aux_lemma =>
   intro vs L W hS hL cl hdl hdep K hK; have d0 := hdep ⟨3, .data⟩ (by simp) rfl; simp only [PhiZma] at d0; have s25 : IntKind.i64.wrap (n1.tdiv 25) = n1.tdiv 25 := by rw [IntWalk.i64_in _ (by have := tdiv25_bd n1 i1.1 i1.2; omega)]
   refine ⟨?_⟩; simp only [Act.put, sA, sB, sC, Nat.zero_add, Nat.reduceAdd, d0] at hK ⊢; go_simp; with_reducible refine hK _ _ (RT.refl _ _) (hS.step (Below.refl _ _) 4 _ (by decide) (fun e => absurd e (by decide))) ?_
   exact rfl
  ·as_aux_lemma =>
   intro vs L W hS hL cl hdl hdep K hK; have d0 := hdep ⟨2, .data⟩ (by simp) rfl; simp only [PhiZma] at d0; have d1 := hdep ⟨4, .data⟩ (by simp) rfl; simp only [PhiZma] at d1; refine ⟨?_⟩; simp only [Act.put, sA, sB, sC, Nat.zero_add, Nat.reduceAdd, d0, d1] at hK ⊢; go_simp; refine (partp n1 (n1.tdiv 25) _ i1 (tdiv25_bd n1 i1.1 i1.2)).mono ?_; rintro e w' ⟨v, rfl, hv, hb⟩; go_wp2_with fail; with_reducible refine hK _ _ (RT.below hb hS.be.size) (hS.step hb 5 _ (by decide) (fun e => absurd e (by decide))) ?_
   exact hv
  ·as_aux_lemma =>
   intro vs L W hS hL cl hdl hdep K hK; have d0 := hdep ⟨1, .data⟩ (by simp) rfl; simp only [PhiZma] at d0; have d1 := hdep ⟨5, .data⟩ (by simp) rfl; simp only [PhiZma] at d1; have r1 := d1; clear d1; refine ⟨?_⟩; simp only [Act.put, sA, sB, sC, Nat.zero_add, Nat.reduceAdd, d0] at hK ⊢; go_simp; refine (mulp _ _ b pb qb _ (hbd.below hS.be) r1 HPN.out.bd (Nat.le_trans HPN.out.le HPN.out.qle) HPN.out.qle).mono ?_; rintro e w' ⟨v, rfl, hn, hb⟩; go_wp2_with fail; with_reducible refine hK _ _ (RT.below hb hS.be.size) (hS.step hb 6 _ (by decide) (fun e => absurd e (by decide))) ?_
   exact ⟨v, rfl, hn⟩
  ·as_aux_lemma =>
   intro vs L W hS hL cl hdl hdep K hK; have d0 := hdep ⟨6, .data⟩ (by simp) rfl; simp only [PhiZma] at d0; refine @exE1 _ _ _ d0 ?_; clear d0; intro v0 d0; have e0 := d0.1; have n0 := d0.2; clear d0; refine ⟨?_⟩; simp only [Act.put, sA, sB, sC, Nat.zero_add, Nat.reduceAdd, e0] at hK ⊢; go_simp; with_reducible refine hK _ _ (RT.refl _ _) (hS.step (Below.refl _ _) 7 _ (by decide) (fun e => absurd e (by decide))) ?_
   exact ⟨_, rfl, n0⟩
  ·as_aux_lemma =>
   intro vs L W hS hL cl hdl hdep K hK; have d0 := hdep ⟨7, .data⟩ (by simp) rfl; simp only [PhiZma] at d0; refine @exE1 _ _ _ d0 ?_; clear d0; intro v0 d0; have e0 := d0.1; have n0 := d0.2; clear d0
   have h11 : L 11 = false := by
    cases h : L 11 with
    | false => rfl
    | true => exact absurd (cl 11 _ rfl h ⟨8, .data⟩ (by simp) rfl) (by rw [hL]; decide)
   obtain ⟨A, k, c, A', k', c', rfl⟩ := n0.shape; refine ⟨?_⟩; simp only [Act.put, sA, sB, sC, Nat.zero_add, Nat.reduceAdd, e0] at hK ⊢; go_simp; with_reducible refine hK _ _ (RT.refl _ _) (hS.step (Below.refl _ _) 8 _ (by decide) (fun _ => h11)) ?_
   exact ⟨_, _, _, _, _, _, rfl, n0⟩
  ·as_aux_lemma =>
   intro vs L W hS hL cl hdl hdep K hK; have d0 := hdep ⟨7, .data⟩ (by simp) rfl; simp only [PhiZma] at d0; refine @exE1 _ _ _ d0 ?_; clear d0; intro v0 d0; have e0 := d0.1; have n0 := d0.2; clear d0; refine ⟨?_⟩; simp only [Act.put, sA, sB, sC, Nat.zero_add, Nat.reduceAdd, e0] at hK ⊢; go_simp; with_reducible refine hK _ _ (RT.refl _ _) (hS.step (Below.refl _ _) 9 _ (by decide) (fun e => absurd e (by decide))) ?_
   exact rfl
  ·as_aux_lemma =>
   intro vs L W hS hL cl hdl hdep K hK
   have h11 : L 11 = false := by
    cases h : L 11 with
    | false => rfl
    | true => exact absurd (cl 11 _ rfl h ⟨10, .data⟩ (by simp) rfl) (by rw [hL]; decide)
   refine ⟨?_⟩; simp only [Act.put, sA, sB, sC, Nat.zero_add, Nat.reduceAdd] at hK ⊢; go_simp; with_reducible refine hK _ _ (RT.below (bA _ _) hS.be.size) (hS.step (bA _ _) 10 _ (by decide) (fun _ => h11)) ?_
   exact ⟨_, rfl, hS.be.size, none, 0, 0, none, 0, 0, Blk.new _ _ _⟩
  ·as_aux_lemma =>
   intro vs L W hS hL cl hdl hdep K hK; have d0 := hdep ⟨10, .data⟩ (by simp) rfl; simp only [PhiZma] at d0; refine @exE1 _ _ _ d0 ?_; clear d0; intro g0 d0; have e0 := d0.1; have l0 := d0.2.1; have s0 := d0.2.2; clear d0; have d1 := hdep ⟨8, .data⟩ (by simp) rfl; simp only [PhiZma] at d1; refine @exE6 _ _ _ _ _ _ _ _ d1 ?_; clear d1; intro A1 k1 c1 B1 m1 d1 d1; have e1 := d1.1; have n1 := d1.2; clear d1; obtain ⟨⟨a1, q1⟩, ⟨a2, q2⟩, q3, q4⟩ := s0.facts; refine ⟨?_⟩; simp only [Act.put, sA, sB, sC, Nat.zero_add, Nat.reduceAdd, e0, e1] at hK ⊢; go_simp; with_reducible refine hK undef _ (RT.store s0 l0 _ _ _ _ _ _) (hS.stored e0 e1 l0 s0 (by decide) (by decide) _) ?_
   exact trivial
  ·as_aux_lemma =>
   intro vs L W hS hL cl hdl hdep K hK; have d0 := hdep ⟨9, .data⟩ (by simp) rfl; simp only [PhiZma] at d0; refine ⟨?_⟩; simp only [Act.put, sA, sB, sC, Nat.zero_add, Nat.reduceAdd, d0] at hK ⊢; go_simp; with_reducible refine hK _ _ (RT.refl _ _) (hS.step (Below.refl _ _) 12 _ (by decide) (fun e => absurd e (by decide))) ?_
   exact rfl
 intro vs L w3 hS hall hv; have v12 := hv 12 (by simp); have v8 := hv 8 (by simp); simp only [PhiZma] at v12 v8; obtain ⟨_, _, _, _, _, _, e8', ho⟩ := v8; obtain ⟨g, A9q, k9q, c9q, B9q, m9q, d9q, e10, e8, hgN, hblk⟩ := hS.st (hall 11 (by simp)); rw [e8] at e8'; rw [← e8'] at ho; have HO := Lib.hid ho; have hbx := hS.be; clear hv hS hall e8' ho; simp only [Act.put, sA, sB, sC, Nat.zero_add, Nat.reduceAdd, v12, e10, e8]; obtain ⟨p, q, hmv, hG, hle, hq24⟩ := HO.out; obtain ⟨gQ, hgQ⟩ : ∃ z, Hid (z = g) := ⟨_, rfl⟩; rw [← hgQ.out] at hblk hgN ⊢; have HMQ := Lib.hid (moment_q HPN.out HPB.out (Frac.of_good hG) hle hq24); have Q0 := hblk.cell 0; have Q1 := hblk.cell 1; simp only [List.getElem?_toArray, List.getElem?_cons_zero, List.getElem?_cons_succ] at Q0 Q1; have hQlt := hblk.lt; have hslQ : Sl w3 gQ := ⟨_, _, _, _, _, _, hblk⟩; have hbA := hbx; have hgQ0 := hgN; clear HO hblk hgQ hbx hG hle hq24; go_wp2_with fail; refine (around_n n2 6 _ i2.1 i2.2 (by omega) (by omega)).mono ?_; rintro e w' ⟨mm, rfl, hmm, _, rfl⟩; go_wp2_with fail; refine (around_n n3 30 _ i3.1 i3.2 (by omega) (by omega)).mono ?_; rintro e w' ⟨lz, rfl, hlz, _, rfl⟩; have s1 : IntKind.i64.wrap (2 + (lz : Int)) = 2 + (lz : Int) := by rw [IntWalk.i64_in _ (by omega)]
 have HOF := of_R (2 + lz) 2 w3 (by omega) (by omega) (by omega); rw [show (((2 + lz : Nat) : Nat) : Int) = 2 + (lz : Int) by push_cast; rfl] at HOF; have HOF := Lib.hid HOF; go_wp2_with fail; refine HOF.out.mono ?_; rintro e w4 ⟨v, rfl, hlow, hb4⟩; obtain ⟨L1, lk1, lc1, L2, lk2, lc2, rfl⟩ := hlow.shape; clear HOF; go_upto_region 5 with fail; refine wp_name ?_; intro w5 HW5; have hb5 : Below w4.heap.size w4 w5 := by rw [HW5.out]; exact bA _ _
 have hBL : Blk w5 w4.heap.size 25 #[.slice L1 lk1 lc1, .slice L2 lk2 lc2] := by rw [HW5.out]; exact Blk.new _ _ _
 obtain ⟨gL, hgL⟩ : ∃ g, Hid (g = w4.heap.size) := ⟨_, rfl⟩; have hQL : gQ < gL := by have := hgL.out; have := hb4.size; omega
 rw [← hgL.out] at hBL ⊢; have L0 := hBL.cell 0; have L1' := hBL.cell 1; simp only [List.getElem?_toArray, List.getElem?_cons_zero, List.getElem?_cons_succ] at L0 L1'; have hb45 := Below.tr hb4 hb5
 replace hbA := hbA.trans (hb45.mono (Nat.le_of_lt (Nat.lt_of_le_of_lt hgN hQlt)))
 replace hlow := hlow.below hb5
 replace hmv := hmv.below hb45
 replace hslQ := hslQ.below hb45
 have hQlt := hslQ.lt
 replace Q0 := cell_keep hb45 Q0
 replace Q1 := cell_keep hb45 Q1
 have hlt5 := hBL.lt; obtain ⟨sz, HSZ⟩ : ∃ s, Hid (s = aroundN n4 9) := ⟨_, rfl⟩; have hsz : sz < 9 := by rw [HSZ.out]; exact Nat.mod_lt _ (by omega)
 have HHF := Lib.hid (high_frac hlz hsz); clear HW5 hBL hgL hb4 hb5 hb45; refine region_invW (PhiZmb (.slice L1 lk1 lc1) (.slice L2 lk2 lc2) n4 sz (addV (redP (2 + lz) 2) (redP sz 4)) w5.heap.size) (RT w5.heap.size) (SD w5 6 8 9) (by kernel_rfl) (by kernel_rfl) (by kernel_rfl) PhiZmb.keep (SD.start _ _ _ _ _) (fun vs => by simp only [fillR, Act.put, sA, sB, sC, Nat.zero_add, Nat.reduceAdd]; rfl) ?_ ?_
 ·refine sK ?_ (sK ?_ (sK ?_ (sK ?_ (sK ?_ (sK ?_ (sK ?_ (sK ?_ (sK ?_ (sK ?_ (sK ?_ (sZ)))))))))))
  ·as_aux_lemma =>
   intro vs L W hS hL cl hdl hdep K hK; have f1 := cell_keep hS.be L0; have f2 := cell_keep hS.be L1'; refine ⟨?_⟩; simp only [Act.put, sA, sB, sC, Nat.zero_add, Nat.reduceAdd] at hK ⊢; go_simp; with_reducible refine hK _ _ (RT.refl _ _) (hS.step (Below.refl _ _) 0 _ (by decide) (fun e => absurd e (by decide))) ?_
   exact rfl
  ·as_aux_lemma =>
   intro vs L W hS hL cl hdl hdep K hK; refine ⟨?_⟩; simp only [Act.put, sA, sB, sC, Nat.zero_add, Nat.reduceAdd] at hK ⊢; go_simp; with_reducible refine hK _ _ (RT.refl _ _) (hS.step (Below.refl _ _) 1 _ (by decide) (fun e => absurd e (by decide))) ?_
   exact rfl
  ·as_aux_lemma =>
   intro vs L W hS hL cl hdl hdep K hK; have d0 := hdep ⟨1, .data⟩ (by simp) rfl; simp only [PhiZmb] at d0; refine ⟨?_⟩; simp only [Act.put, sA, sB, sC, Nat.zero_add, Nat.reduceAdd, d0] at hK ⊢; go_simp; refine (around_n n4 9 _ i4.1 i4.2 (by omega) (by omega)).mono ?_; rintro e w' ⟨z, rfl, _, HZ, rfl⟩; go_wp2_with fail; with_reducible refine hK _ _ (RT.refl _ _) (hS.step (Below.refl _ _) 2 _ (by decide) (fun e => absurd e (by decide))) ?_
   exact (congrArg (fun k : Nat => Value.int .i64 (k : Int)) (HZ.out.trans HSZ.out.symm))
  ·as_aux_lemma =>
   intro vs L W hS hL cl hdl hdep K hK; have d0 := hdep ⟨2, .data⟩ (by simp) rfl; simp only [PhiZmb] at d0; refine ⟨?_⟩; simp only [Act.put, sA, sB, sC, Nat.zero_add, Nat.reduceAdd, d0] at hK ⊢; go_simp; refine (of_R sz 4 _ (by omega) (by omega) (by omega)).mono ?_; rintro e w' ⟨v, rfl, hv, hb⟩; go_wp2_with fail; with_reducible refine hK _ _ (RT.below hb hS.be.size) (hS.step hb 3 _ (by decide) (fun e => absurd e (by decide))) ?_
   exact hv
  ·as_aux_lemma =>
   intro vs L W hS hL cl hdl hdep K hK; have d0 := hdep ⟨0, .data⟩ (by simp) rfl; simp only [PhiZmb] at d0; have d1 := hdep ⟨3, .data⟩ (by simp) rfl; simp only [PhiZmb] at d1; have r1 := d1; clear d1; refine ⟨?_⟩; simp only [Act.put, sA, sB, sC, Nat.zero_add, Nat.reduceAdd, d0] at hK ⊢; go_simp; refine (add_ok0 _ _ (redP (2 + lz) 2) (redP sz 4) _ (hlow.below hS.be) r1 HHF.out.2).mono ?_; rintro e w' ⟨v, rfl, hn, hb⟩; go_wp2_with fail; with_reducible refine hK _ _ (RT.below hb hS.be.size) (hS.step hb 4 _ (by decide) (fun e => absurd e (by decide))) ?_
   exact ⟨v, rfl, hn⟩
  ·as_aux_lemma =>
   intro vs L W hS hL cl hdl hdep K hK; have d0 := hdep ⟨4, .data⟩ (by simp) rfl; simp only [PhiZmb] at d0; refine @exE1 _ _ _ d0 ?_; clear d0; intro v0 d0; have e0 := d0.1; have n0 := d0.2; clear d0; refine ⟨?_⟩; simp only [Act.put, sA, sB, sC, Nat.zero_add, Nat.reduceAdd, e0] at hK ⊢; go_simp; with_reducible refine hK _ _ (RT.refl _ _) (hS.step (Below.refl _ _) 5 _ (by decide) (fun e => absurd e (by decide))) ?_
   exact ⟨_, rfl, n0⟩
  ·as_aux_lemma =>
   intro vs L W hS hL cl hdl hdep K hK; have d0 := hdep ⟨5, .data⟩ (by simp) rfl; simp only [PhiZmb] at d0; refine @exE1 _ _ _ d0 ?_; clear d0; intro v0 d0; have e0 := d0.1; have n0 := d0.2; clear d0
   have h9 : L 9 = false := by
    cases h : L 9 with
    | false => rfl
    | true => exact absurd (cl 9 _ rfl h ⟨6, .data⟩ (by simp) rfl) (by rw [hL]; decide)
   obtain ⟨A, k, c, A', k', c', rfl⟩ := n0.shape; refine ⟨?_⟩; simp only [Act.put, sA, sB, sC, Nat.zero_add, Nat.reduceAdd, e0] at hK ⊢; go_simp; with_reducible refine hK _ _ (RT.refl _ _) (hS.step (Below.refl _ _) 6 _ (by decide) (fun _ => h9)) ?_
   exact ⟨_, _, _, _, _, _, rfl, n0⟩
  ·as_aux_lemma =>
   intro vs L W hS hL cl hdl hdep K hK; have d0 := hdep ⟨5, .data⟩ (by simp) rfl; simp only [PhiZmb] at d0; refine @exE1 _ _ _ d0 ?_; clear d0; intro v0 d0; have e0 := d0.1; have n0 := d0.2; clear d0; refine ⟨?_⟩; simp only [Act.put, sA, sB, sC, Nat.zero_add, Nat.reduceAdd, e0] at hK ⊢; go_simp; with_reducible refine hK _ _ (RT.refl _ _) (hS.step (Below.refl _ _) 7 _ (by decide) (fun e => absurd e (by decide))) ?_
   exact rfl
  ·as_aux_lemma =>
   intro vs L W hS hL cl hdl hdep K hK
   have h9 : L 9 = false := by
    cases h : L 9 with
    | false => rfl
    | true => exact absurd (cl 9 _ rfl h ⟨8, .data⟩ (by simp) rfl) (by rw [hL]; decide)
   refine ⟨?_⟩; simp only [Act.put, sA, sB, sC, Nat.zero_add, Nat.reduceAdd] at hK ⊢; go_simp; with_reducible refine hK _ _ (RT.below (bA _ _) hS.be.size) (hS.step (bA _ _) 8 _ (by decide) (fun _ => h9)) ?_
   exact ⟨_, rfl, hS.be.size, none, 0, 0, none, 0, 0, Blk.new _ _ _⟩
  ·as_aux_lemma =>
   intro vs L W hS hL cl hdl hdep K hK; have d0 := hdep ⟨8, .data⟩ (by simp) rfl; simp only [PhiZmb] at d0; refine @exE1 _ _ _ d0 ?_; clear d0; intro g0 d0; have e0 := d0.1; have l0 := d0.2.1; have s0 := d0.2.2; clear d0; have d1 := hdep ⟨6, .data⟩ (by simp) rfl; simp only [PhiZmb] at d1; refine @exE6 _ _ _ _ _ _ _ _ d1 ?_; clear d1; intro A1 k1 c1 B1 m1 d1 d1; have e1 := d1.1; have n1 := d1.2; clear d1; obtain ⟨⟨a1, q1⟩, ⟨a2, q2⟩, q3, q4⟩ := s0.facts; refine ⟨?_⟩; simp only [Act.put, sA, sB, sC, Nat.zero_add, Nat.reduceAdd, e0, e1] at hK ⊢; go_simp; with_reducible refine hK undef _ (RT.store s0 l0 _ _ _ _ _ _) (hS.stored e0 e1 l0 s0 (by decide) (by decide) _) ?_
   exact trivial
  ·as_aux_lemma =>
   intro vs L W hS hL cl hdl hdep K hK; have d0 := hdep ⟨7, .data⟩ (by simp) rfl; simp only [PhiZmb] at d0; refine ⟨?_⟩; simp only [Act.put, sA, sB, sC, Nat.zero_add, Nat.reduceAdd, d0] at hK ⊢; go_simp; with_reducible refine hK _ _ (RT.refl _ _) (hS.step (Below.refl _ _) 10 _ (by decide) (fun e => absurd e (by decide))) ?_
   exact rfl
 intro vs L w6 hS hall hv; have v10 := hv 10 (by simp); have v8 := hv 6 (by simp); simp only [PhiZmb] at v10 v8; obtain ⟨_, _, _, _, _, _, e8', ho⟩ := v8; obtain ⟨g, A9h, k9h, c9h, B9h, m9h, d9h, e10, e8, hgN, hblk⟩ := hS.st (hall 9 (by simp)); rw [e8] at e8'; rw [← e8'] at ho; have HO := Lib.hid ho; have hbx := hS.be; clear hv hS hall e8' ho; simp only [Act.put, sA, sB, sC, Nat.zero_add, Nat.reduceAdd, v10, e10, e8]; have hhg := HO.out; obtain ⟨gH, hgH⟩ : ∃ z, Hid (z = g) := ⟨_, rfl⟩; rw [← hgH.out] at hblk hgN ⊢; have hQH : gQ < gH := by have := hgN; omega
 have H0 := hblk.cell 0; have H1 := hblk.cell 1; simp only [List.getElem?_toArray, List.getElem?_cons_zero, List.getElem?_cons_succ] at H0 H1
 replace hbA := hbA.trans (hbx.mono hbA.size)
 replace hlow := hlow.below hbx
 replace hmv := hmv.below hbx
 replace hslQ := hslQ.below hbx
 have hQlt := hslQ.lt
 replace Q0 := cell_keep hbx Q0
 replace Q1 := cell_keep hbx Q1
 replace L0 := cell_keep hbx L0
 have L1' := cell_keep hbx L1'
 replace P0 := cell_keep hbA P0
 replace P1 := cell_keep hbA P1
 replace P2 := cell_keep hbA P2
 have hsz6 := hbA.size
 replace hbd := hbd.below hbA
 clear HO hblk hgH hbx s1; obtain ⟨qv, HQV⟩ : ∃ z, Hid (z = if smallB (mulV b (ratP p q)) then mulV b (ratP p q) else b) := ⟨_, rfl⟩; have HMQ2 := HMQ.out; rw [← HQV.out] at HMQ2; obtain ⟨qn, qd, hq1, hq2, hq3, hq4, hq5⟩ := HMQ2; have HQP := Lib.hid hq5; obtain ⟨low, HLOW⟩ : ∃ z, Hid (z = redP (2 + lz) 2) := ⟨_, rfl⟩; obtain ⟨hgh, HHGH⟩ : ∃ z, Hid (z = addV (redP (2 + lz) 2) (redP sz 4)) := ⟨_, rfl⟩; have MOK := Lib.hid (mom_ok (mm := mm) HPN.out hq1 hq2 hq3 hq4 (low_frac hlz) HHF.out.1 (by omega) (by omega) (by omega)); rw [← HHGH.out, ← HLOW.out] at MOK; rw [← HLOW.out] at hlow; rw [← HHGH.out] at hhg; have HO1 : Hid (validP (redP 1 1) = 0) := (fr (n := 1) (d := 1) (by omega) (by omega) (by omega)).valid; clear HMQ hq1 hq2 hq3 hq4 hq5 HLOW HHGH HHF HPB HPN HSZ; go_wp2_with fail; refine (rsmall_F _ _ _ hmv).mono ?_; rintro e w7 ⟨rfl, hb7⟩
 replace hmv := hmv.below hb7
 replace hbd := hbd.below hb7
 replace hslQ := hslQ.below hb7
 replace hlow := hlow.below hb7
 replace hhg := hhg.below hb7
 replace P0 := cell_keep hb7 P0
 replace P1 := cell_keep hb7 P1
 replace P2 := cell_keep hb7 P2
 replace Q0 := cell_keep hb7 Q0
 replace Q1 := cell_keep hb7 Q1
 replace L0 := cell_keep hb7 L0
 replace L1' := cell_keep hb7 L1'
 replace H0 := cell_keep hb7 H0
 replace H1 := cell_keep hb7 H1
 have hbA := hbA.trans (hb7.mono hbA.size); have hsz7 := hbA.size; have hQlt := hslQ.lt; obtain ⟨sm, HSM⟩ : ∃ s, Hid (s = smallB (mulV b (ratP p q))) := ⟨_, rfl⟩; rw [← HSM.out]; clear hb7
 go_upto_if 69 with fail
 go_cut [14] from 70 to 71 (fun t wx => t = .int .i64 mm ∧ ∃ q1 q2, wx.cell? ⟨gQ, 0, none⟩ = some q1 ∧ wx.cell? ⟨gQ, 1, none⟩ = some q2 ∧ RtP wx (.agg #[q1, q2]) qv ∧ RX w2.heap.size gQ qv w7 wx)
 case first => as_aux_lemma =>
  clear MOK HPE HO1 hlow hhg hpl
  cases sm
  ·have hqb : qv = b := by rw [HQV.out, ← HSM.out]; rfl
   rw [← hqb] at hbd; have HRS := Lib.hid (RX.store hslQ hgQ0 hbd); obtain ⟨⟨a1, g1⟩, ⟨a2, g2⟩, g3, g4⟩ := hslQ.facts; obtain ⟨r1, r2, r3, r4, r5, r6, hbq⟩ := hslQ; have hf := (hbq.set_ 0 (.slice X1 xk1 xc1)).set_ 1 (.slice X2 xk2 xc2); have z0 := hf.cell 0; have z1 := hf.cell 1; simp at z0 z1; have hbz := Lib.hid (hbd.mapL HRS.out.1.lim); clear hbq hf hmv; go_wp2_with fail
   go_meet
   case rel => exact ⟨rfl, _, _, z0, z1, hbz.out, HRS.out.1⟩
  ·have hqb : qv = mulV b (ratP p q) := by rw [HQV.out, ← HSM.out]; rfl
   rw [← hqb] at hmv; go_wp2_with fail
   go_meet
   case rel => exact ⟨rfl, _, _, Q0, Q1, hmv, RX.refl _⟩
 obtain ⟨rfl, q1, q2, Q0', Q1', hqv, hRX⟩ := hcut; obtain ⟨wb, hwb⟩ : ∃ z, z = wc := ⟨_, rfl⟩; subst hwb
 replace hbA := hbA.trans hRX.be
 replace hpl := hpl.below hbA
 replace P0 := hRX.cell _ _ _ (by omega) P0
 replace P1 := hRX.cell _ _ _ (by omega) P1
 replace P2 := hRX.cell _ _ _ (by omega) P2
 replace L0 := hRX.cell _ _ _ (by omega) L0
 replace L1' := hRX.cell _ _ _ (by omega) L1'
 replace H0 := hRX.cell _ _ _ (by omega) H0
 replace H1 := hRX.cell _ _ _ (by omega) H1
 replace hlow := hlow.mapL hRX.lim
 replace hhg := hhg.mapL hRX.lim
 replace hbw := hbw.trans (hbA.mono hbw.size)
 replace Q0 := Q0'
 replace Q1 := Q1'
 clear hRX hbA hmv hbd hslQ HQV Q0' Q1'
 go_upto_region 9 with (refine wpList_sliceN rfl 36 25 3 [(0, .tmp 72), (1, .tmp 73), (2, .tmp 74)] rfl #[.slice L1 lk1 lc1, .slice L2 lk2 lc2, .slice L1 lk1 lc1, .slice L2 lk2 lc2, .slice A9h k9h c9h, .slice B9h m9h d9h] iR nilRat 2 [(0, .agg #[.slice L1 lk1 lc1, .slice L2 lk2 lc2]), (1, .agg #[.slice L1 lk1 lc1, .slice L2 lk2 lc2]), (2, .agg #[.slice A9h k9h c9h, .slice B9h m9h d9h])] Try.underlying36 hiR hzR hzR1 (by omega) (by omega) rfl (fill_r3 _ _ _ _ _ _ _ _ _ _ _ _ _ _ _ _ _ _) ?_; simp only [Act.put, sA, sB, sC])
 refine wp_name ?_; intro w7 HW7; have hb : Below wb.heap.size wb w7 := by rw [HW7.out]; exact bA _ _
 have hV : RatRow w7 (some ⟨wb.heap.size, 0, none⟩) 3 [low, low, hgh] := by
  rw [HW7.out]; exact ratRow_new 25 [(.slice L1 lk1 lc1, .slice L2 lk2 lc2), (.slice L1 lk1 lc1, .slice L2 lk2 lc2), (.slice A9h k9h c9h, .slice B9h m9h d9h)] [low, low, hgh] ⟨hlow, hlow, hhg, trivial⟩ (by simp)
 obtain ⟨gV, hgV⟩ : ∃ g, Hid (g = wb.heap.size) := ⟨_, rfl⟩; rw [← hgV.out] at hV ⊢
 replace hpl := hpl.below hb
 replace hqv := hqv.below hb
 replace P0 := cell_keep hb P0
 replace P1 := cell_keep hb P1
 replace P2 := cell_keep hb P2
 replace Q0 := cell_keep hb Q0
 replace Q1 := cell_keep hb Q1
 have hbw := Below.tr hbw hb; clear HW7 hgV hb hlow hhg L0 L1' H0 H1; have s2 : IntKind.i64.wrap ((mm : Int) + 1) = (mm : Int) + 1 := by rw [IntWalk.i64_in _ (by omega)]
 go_upto_region 10 with fail; refine wp_name ?_; intro w8 HW8; have hb : Below w7.heap.size w7 w8 := by rw [HW8.out]; exact bA _ _
 have hBI : Blk w8 w7.heap.size 3 #[.int .i64 (mm : Int), .int .i64 ((mm : Int) + 1), .int .i64 (mm : Int)] := by rw [HW8.out]; exact Blk.new _ _ _
 obtain ⟨gI, hgI⟩ : ∃ g, Hid (g = w7.heap.size) := ⟨_, rfl⟩; rw [← hgI.out] at hBI ⊢
 have HI : ∀ j, j < 3 → w8.cell? ⟨gI, j, none⟩ = some (.int .i64 ((mI mm j : Nat) : Int)) := by
  intro j hj; have hj3 : j = 0 ∨ j = 1 ∨ j = 2 := by omega
  rcases hj3 with rfl | rfl | rfl
  ·rw [hBI.cell]; rfl
  ·rw [hBI.cell]; rfl
  ·rw [hBI.cell]; rfl
 have HI := Lib.hid HI
 replace hpl := hpl.below hb
 replace hqv := hqv.below hb
 replace hV := hV.below hb
 replace P0 := cell_keep hb P0
 replace P1 := cell_keep hb P1
 replace P2 := cell_keep hb P2
 replace Q0 := cell_keep hb Q0
 replace Q1 := cell_keep hb Q1
 have hbw := Below.tr hbw hb; clear HW8 hBI hgI hb s2; go_wp2_with fail
 go_loopg [20, 21, 22] 3 (fun j u v x wr => ∃ (i : Nat) (Y Z : List LP), x = .int .i64 i ∧ i + j = 3 ∧ Hid (Y = (List.range i).map (rI b rows qv low hgh mm)) ∧ Hid (Z = (List.range i).map (wI b rows low hgh mm)) ∧ RatOwn wr w8.heap.size u Y ∧ RatOwn wr w8.heap.size v Z ∧ Apt u v ∧ Below w8.heap.size w8 wr)
 case atStart => exact ⟨0, [], [], rfl, by omega, rfl, rfl, RatOwn.nil _ _, RatOwn.nil _ _, (fun g hg => by cases hg), Below.refl _ _⟩
 case round =>
  obtain ⟨G, hG⟩ : ∃ G, G = gk := ⟨gk, rfl⟩; subst hG; obtain ⟨i, Y, Z, rfl, hij, HY, HZ, hrr, hww, hap, hbo⟩ := hrel; obtain ⟨wo, hwo⟩ : ∃ wo, wo = wr := ⟨_, rfl⟩; subst hwo; have hbY : Hid (Y.length = i) := by show _ = _; rw [HY.out]; simp
  have hbZ : Hid (Z.length = i) := by show _ = _; rw [HZ.out]; simp
  obtain ⟨AR, cR, rfl⟩ := hrr.shp; obtain ⟨AW, cW, rfl⟩ := hww.shp; rw [hbY.out] at hrr hap ⊢; rw [hbZ.out] at hww hap ⊢; by_cases hi : i < 3
  ·have t1 : decide ((i : Int) < 3) = true := by simp; omega
   have hi3 : (i : Int) < 3 := by omega
   replace hpl := hpl.below hbo
   replace hqv := hqv.below hbo
   replace P0 := cell_keep hbo P0
   replace P1 := cell_keep hbo P1
   replace P2 := cell_keep hbo P2
   replace Q0 := cell_keep hbo Q0
   replace Q1 := cell_keep hbo Q1
   obtain ⟨bV, oV, l1', l2', lv, eV, k1, k2, HLV, hlv⟩ := (hV.below hbo).at_ hi; simp only [Option.some.injEq, Addr.mk.injEq, and_true] at eV; obtain ⟨rfl, rfl⟩ := eV; rw [Nat.zero_add] at k1 k2; have hle : lv = lI low hgh i := lI_get HLV.out; subst hle; obtain ⟨mi, HMI⟩ : ∃ z, Hid (z = mI mm i) := ⟨_, rfl⟩; have hmi : mi ≤ 10 := by rw [HMI.out]; unfold mI; split <;> omega
   have hci := cell_keep hbo (HI.out i hi); rw [← HMI.out] at hci; have hbo0 := hbo; have hszo := hbo.size; have hltR := hrr.lt; have hltW := hww.lt; clear HLV; go_upto_region 15 with fail; refine region_invW (PhiZmc (.agg #[.slice X1 xk1 xc1, .slice X2 xk2 xc2, .slice S kS cS]) gI gV i mi q1 q2 l1' l2' (rI b rows qv low hgh mm i) wo.heap.size) (RT wo.heap.size) (SD wo 13 15 16) (by kernel_rfl) (by kernel_rfl) (by kernel_rfl) PhiZmc.keep (SD.start _ _ _ _ _) (fun vs => by simp only [fillR, Act.put, sA, sB, sC, Nat.zero_add, Nat.reduceAdd]; rfl) ?_ ?_
   ·refine sK ?_ (sK ?_ (sK ?_ (sK ?_ (sK ?_ (sK ?_ (sK ?_ (sK ?_ (sK ?_ (sK ?_ (sK ?_ (sK ?_ (sK ?_ (sK ?_ (sK ?_ (sK ?_ (sK ?_ (sK ?_ (sZ))))))))))))))))))
    ·as_aux_lemma =>
     intro vs L W hS hL cl hdl hdep K hK; have f1 := cell_keep hS.be P0; have f2 := cell_keep hS.be P1; have f3 := cell_keep hS.be P2; refine ⟨?_⟩; simp only [Act.put, sA, sB, sC, Nat.zero_add, Nat.reduceAdd] at hK ⊢; go_simp; with_reducible refine hK _ _ (RT.refl _ _) (hS.step (Below.refl _ _) 0 _ (by decide) (fun e => absurd e (by decide))) ?_
     exact rfl
    ·as_aux_lemma =>
     intro vs L W hS hL cl hdl hdep K hK; have d0 := hdep ⟨0, .data⟩ (by simp) rfl; simp only [PhiZmc] at d0; refine ⟨?_⟩; simp only [Act.put, sA, sB, sC, Nat.zero_add, Nat.reduceAdd, d0] at hK ⊢; go_simp; refine (plan_E _ b rows _ (hpl.below hS.be)).mono ?_; rintro e w' ⟨rfl, hb⟩; go_wp2_with fail; with_reducible refine hK _ _ (RT.below hb hS.be.size) (hS.step hb 1 _ (by decide) (fun e => absurd e (by decide))) ?_
     exact rfl
    ·as_aux_lemma =>
     intro vs L W hS hL cl hdl hdep K hK; have f1 := cell_keep hS.be Q0; have f2 := cell_keep hS.be Q1; refine ⟨?_⟩; simp only [Act.put, sA, sB, sC, Nat.zero_add, Nat.reduceAdd] at hK ⊢; go_simp; with_reducible refine hK _ _ (RT.refl _ _) (hS.step (Below.refl _ _) 2 _ (by decide) (fun e => absurd e (by decide))) ?_
     exact rfl
    ·as_aux_lemma =>
     intro vs L W hS hL cl hdl hdep K hK; refine ⟨?_⟩; simp only [Act.put, sA, sB, sC, Nat.zero_add, Nat.reduceAdd] at hK ⊢; go_simp; with_reducible refine hK _ _ (RT.refl _ _) (hS.step (Below.refl _ _) 3 _ (by decide) (fun e => absurd e (by decide))) ?_
     exact rfl
    ·as_aux_lemma =>
     intro vs L W hS hL cl hdl hdep K hK; refine ⟨?_⟩; simp only [Act.put, sA, sB, sC, Nat.zero_add, Nat.reduceAdd] at hK ⊢; go_simp; with_reducible refine hK _ _ (RT.refl _ _) (hS.step (Below.refl _ _) 4 _ (by decide) (fun e => absurd e (by decide))) ?_
     exact rfl
    ·as_aux_lemma =>
     intro vs L W hS hL cl hdl hdep K hK; have d0 := hdep ⟨3, .data⟩ (by simp) rfl; simp only [PhiZmc] at d0; have d1 := hdep ⟨4, .data⟩ (by simp) rfl; simp only [PhiZmc] at d1; refine ⟨?_⟩; simp only [Act.put, sA, sB, sC, Nat.zero_add, Nat.reduceAdd, d0, d1] at hK ⊢; go_simp; with_reducible refine hK _ _ (RT.refl _ _) (hS.step (Below.refl _ _) 5 _ (by decide) (fun e => absurd e (by decide))) ?_
     exact rfl
    ·as_aux_lemma =>
     intro vs L W hS hL cl hdl hdep K hK; have d0 := hdep ⟨5, .data⟩ (by simp) rfl; simp only [PhiZmc] at d0; have f1 := cell_keep hS.be hci; refine ⟨?_⟩; simp only [Act.put, sA, sB, sC, Nat.zero_add, Nat.reduceAdd, d0] at hK ⊢; go_simp; with_reducible refine hK _ _ (RT.refl _ _) (hS.step (Below.refl _ _) 6 _ (by decide) (fun e => absurd e (by decide))) ?_
     exact rfl
    ·as_aux_lemma =>
     intro vs L W hS hL cl hdl hdep K hK; refine ⟨?_⟩; simp only [Act.put, sA, sB, sC, Nat.zero_add, Nat.reduceAdd] at hK ⊢; go_simp; with_reducible refine hK _ _ (RT.refl _ _) (hS.step (Below.refl _ _) 7 _ (by decide) (fun e => absurd e (by decide))) ?_
     exact rfl
    ·as_aux_lemma =>
     intro vs L W hS hL cl hdl hdep K hK; refine ⟨?_⟩; simp only [Act.put, sA, sB, sC, Nat.zero_add, Nat.reduceAdd] at hK ⊢; go_simp; with_reducible refine hK _ _ (RT.refl _ _) (hS.step (Below.refl _ _) 8 _ (by decide) (fun e => absurd e (by decide))) ?_
     exact rfl
    ·as_aux_lemma =>
     intro vs L W hS hL cl hdl hdep K hK; have d0 := hdep ⟨7, .data⟩ (by simp) rfl; simp only [PhiZmc] at d0; have d1 := hdep ⟨8, .data⟩ (by simp) rfl; simp only [PhiZmc] at d1; refine ⟨?_⟩; simp only [Act.put, sA, sB, sC, Nat.zero_add, Nat.reduceAdd, d0, d1] at hK ⊢; go_simp; with_reducible refine hK _ _ (RT.refl _ _) (hS.step (Below.refl _ _) 9 _ (by decide) (fun e => absurd e (by decide))) ?_
     exact rfl
    ·as_aux_lemma =>
     intro vs L W hS hL cl hdl hdep K hK; have d0 := hdep ⟨9, .data⟩ (by simp) rfl; simp only [PhiZmc] at d0; have f1 := cell_keep hS.be k1; have f2 := cell_keep hS.be k2; refine ⟨?_⟩; simp only [Act.put, sA, sB, sC, Nat.zero_add, Nat.reduceAdd, d0] at hK ⊢; go_simp; with_reducible refine hK _ _ (RT.refl _ _) (hS.step (Below.refl _ _) 10 _ (by decide) (fun e => absurd e (by decide))) ?_
     exact rfl
    ·as_aux_lemma =>
     intro vs L W hS hL cl hdl hdep K hK; have d0 := hdep ⟨1, .data⟩ (by simp) rfl; simp only [PhiZmc] at d0; have d1 := hdep ⟨2, .data⟩ (by simp) rfl; simp only [PhiZmc] at d1; have d2 := hdep ⟨6, .data⟩ (by simp) rfl; simp only [PhiZmc] at d2; have d3 := hdep ⟨10, .data⟩ (by simp) rfl; simp only [PhiZmc] at d3; refine ⟨?_⟩; simp only [Act.put, sA, sB, sC, Nat.zero_add, Nat.reduceAdd, d0, d1, d2, d3] at hK ⊢; go_simp; refine (reach_I _ _ _ b qv low hgh rows mm i mi _ (hpl.below hS.be) (hqv.below hS.be) (hlv.below hS.be) HPE.out HQP.out (MOK.out.lv i) HMI.out hmi).mono ?_; rintro e w' ⟨v, rfl, hn, hb⟩; go_wp2_with fail; with_reducible refine hK _ _ (RT.below hb hS.be.size) (hS.step hb 11 _ (by decide) (fun e => absurd e (by decide))) ?_
     exact ⟨v, rfl, hn⟩
    ·as_aux_lemma =>
     intro vs L W hS hL cl hdl hdep K hK; have d0 := hdep ⟨11, .data⟩ (by simp) rfl; simp only [PhiZmc] at d0; refine @exE1 _ _ _ d0 ?_; clear d0; intro v0 d0; have e0 := d0.1; have n0 := d0.2; clear d0; refine ⟨?_⟩; simp only [Act.put, sA, sB, sC, Nat.zero_add, Nat.reduceAdd, e0] at hK ⊢; go_simp; with_reducible refine hK _ _ (RT.refl _ _) (hS.step (Below.refl _ _) 12 _ (by decide) (fun e => absurd e (by decide))) ?_
     exact ⟨_, rfl, n0⟩
    ·as_aux_lemma =>
     intro vs L W hS hL cl hdl hdep K hK; have d0 := hdep ⟨12, .data⟩ (by simp) rfl; simp only [PhiZmc] at d0; refine @exE1 _ _ _ d0 ?_; clear d0; intro v0 d0; have e0 := d0.1; have n0 := d0.2; clear d0
     have h16 : L 16 = false := by
      cases h : L 16 with
      | false => rfl
      | true => exact absurd (cl 16 _ rfl h ⟨13, .data⟩ (by simp) rfl) (by rw [hL]; decide)
     obtain ⟨A, k, c, A', k', c', rfl⟩ := n0.shape; refine ⟨?_⟩; simp only [Act.put, sA, sB, sC, Nat.zero_add, Nat.reduceAdd, e0] at hK ⊢; go_simp; with_reducible refine hK _ _ (RT.refl _ _) (hS.step (Below.refl _ _) 13 _ (by decide) (fun _ => h16)) ?_
     exact ⟨_, _, _, _, _, _, rfl, n0⟩
    ·as_aux_lemma =>
     intro vs L W hS hL cl hdl hdep K hK; have d0 := hdep ⟨12, .data⟩ (by simp) rfl; simp only [PhiZmc] at d0; refine @exE1 _ _ _ d0 ?_; clear d0; intro v0 d0; have e0 := d0.1; have n0 := d0.2; clear d0; refine ⟨?_⟩; simp only [Act.put, sA, sB, sC, Nat.zero_add, Nat.reduceAdd, e0] at hK ⊢; go_simp; with_reducible refine hK _ _ (RT.refl _ _) (hS.step (Below.refl _ _) 14 _ (by decide) (fun e => absurd e (by decide))) ?_
     exact rfl
    ·as_aux_lemma =>
     intro vs L W hS hL cl hdl hdep K hK
     have h16 : L 16 = false := by
      cases h : L 16 with
      | false => rfl
      | true => exact absurd (cl 16 _ rfl h ⟨15, .data⟩ (by simp) rfl) (by rw [hL]; decide)
     refine ⟨?_⟩; simp only [Act.put, sA, sB, sC, Nat.zero_add, Nat.reduceAdd] at hK ⊢; go_simp; with_reducible refine hK _ _ (RT.below (bA _ _) hS.be.size) (hS.step (bA _ _) 15 _ (by decide) (fun _ => h16)) ?_
     exact ⟨_, rfl, hS.be.size, none, 0, 0, none, 0, 0, Blk.new _ _ _⟩
    ·as_aux_lemma =>
     intro vs L W hS hL cl hdl hdep K hK; have d0 := hdep ⟨15, .data⟩ (by simp) rfl; simp only [PhiZmc] at d0; refine @exE1 _ _ _ d0 ?_; clear d0; intro g0 d0; have e0 := d0.1; have l0 := d0.2.1; have s0 := d0.2.2; clear d0; have d1 := hdep ⟨13, .data⟩ (by simp) rfl; simp only [PhiZmc] at d1; refine @exE6 _ _ _ _ _ _ _ _ d1 ?_; clear d1; intro A1 k1 c1 B1 m1 d1 d1; have e1 := d1.1; have n1 := d1.2; clear d1; obtain ⟨⟨a1, q1⟩, ⟨a2, q2⟩, q3, q4⟩ := s0.facts; refine ⟨?_⟩; simp only [Act.put, sA, sB, sC, Nat.zero_add, Nat.reduceAdd, e0, e1] at hK ⊢; go_simp; with_reducible refine hK undef _ (RT.store s0 l0 _ _ _ _ _ _) (hS.stored e0 e1 l0 s0 (by decide) (by decide) _) ?_
     exact trivial
    ·as_aux_lemma =>
     intro vs L W hS hL cl hdl hdep K hK; have d0 := hdep ⟨14, .data⟩ (by simp) rfl; simp only [PhiZmc] at d0; refine ⟨?_⟩; simp only [Act.put, sA, sB, sC, Nat.zero_add, Nat.reduceAdd, d0] at hK ⊢; go_simp; with_reducible refine hK _ _ (RT.refl _ _) (hS.step (Below.refl _ _) 17 _ (by decide) (fun e => absurd e (by decide))) ?_
     exact rfl
   intro vs L wa hS hall hv; have v17 := hv 17 (by simp); have v8 := hv 13 (by simp); simp only [PhiZmc] at v17 v8; obtain ⟨_, _, _, _, _, _, e8', ho⟩ := v8; obtain ⟨g, A9a, k9a, c9a, B9a, m9a, d9a, e10, e8, hgN, hblk⟩ := hS.st (hall 16 (by simp)); rw [e8] at e8'; rw [← e8'] at ho; have HO := Lib.hid ho; have hbx := hS.be; clear hv hS hall e8' ho; simp only [Act.put, sA, sB, sC, Nat.zero_add, Nat.reduceAdd, v17, e10, e8]; have xa := HO.out; have hblkA := hblk; obtain ⟨gA, hgA⟩ : ∃ z, Hid (z = g) := ⟨_, rfl⟩; rw [← hgA.out] at hblkA hgN ⊢; have hgA0 := hgN; have hgA1 := hbx.size
   replace hpl := hpl.below hbx
   replace hqv := hqv.below hbx
   replace hlv := hlv.below hbx
   replace hrr := hrr.below hbx
   replace hww := hww.below hbx
   replace P0 := cell_keep hbx P0
   replace P1 := cell_keep hbx P1
   replace P2 := cell_keep hbx P2
   replace Q0 := cell_keep hbx Q0
   replace Q1 := cell_keep hbx Q1
   replace k1 := cell_keep hbx k1
   replace k2 := cell_keep hbx k2
   replace hci := cell_keep hbx hci
   have hbo := hbo.trans (hbx.mono hbo.size); clear HO hblk hgN hbx hgA; go_upto_region 16 with fail; refine region_invW (PhiZmd (.agg #[.slice X1 xk1 xc1, .slice X2 xk2 xc2, .slice S kS cS]) gI gV i mi l1' l2' (wI b rows low hgh mm i) wa.heap.size) (RT wa.heap.size) (SD wa 12 14 15) (by kernel_rfl) (by kernel_rfl) (by kernel_rfl) PhiZmd.keep (SD.start _ _ _ _ _) (fun vs => by simp only [fillR, Act.put, sA, sB, sC, Nat.zero_add, Nat.reduceAdd]; rfl) ?_ ?_
   ·refine sK ?_ (sK ?_ (sK ?_ (sK ?_ (sK ?_ (sK ?_ (sK ?_ (sK ?_ (sK ?_ (sK ?_ (sK ?_ (sK ?_ (sK ?_ (sK ?_ (sK ?_ (sK ?_ (sK ?_ (sZ)))))))))))))))))
    ·as_aux_lemma =>
     intro vs L W hS hL cl hdl hdep K hK; have f1 := cell_keep hS.be P0; have f2 := cell_keep hS.be P1; have f3 := cell_keep hS.be P2; refine ⟨?_⟩; simp only [Act.put, sA, sB, sC, Nat.zero_add, Nat.reduceAdd] at hK ⊢; go_simp; with_reducible refine hK _ _ (RT.refl _ _) (hS.step (Below.refl _ _) 0 _ (by decide) (fun e => absurd e (by decide))) ?_
     exact rfl
    ·as_aux_lemma =>
     intro vs L W hS hL cl hdl hdep K hK; have d0 := hdep ⟨0, .data⟩ (by simp) rfl; simp only [PhiZmd] at d0; refine ⟨?_⟩; simp only [Act.put, sA, sB, sC, Nat.zero_add, Nat.reduceAdd, d0] at hK ⊢; go_simp; refine (plan_E _ b rows _ (hpl.below hS.be)).mono ?_; rintro e w' ⟨rfl, hb⟩; go_wp2_with fail; with_reducible refine hK _ _ (RT.below hb hS.be.size) (hS.step hb 1 _ (by decide) (fun e => absurd e (by decide))) ?_
     exact rfl
    ·as_aux_lemma =>
     intro vs L W hS hL cl hdl hdep K hK; refine ⟨?_⟩; simp only [Act.put, sA, sB, sC, Nat.zero_add, Nat.reduceAdd] at hK ⊢; go_simp; with_reducible refine hK _ _ (RT.refl _ _) (hS.step (Below.refl _ _) 2 _ (by decide) (fun e => absurd e (by decide))) ?_
     exact rfl
    ·as_aux_lemma =>
     intro vs L W hS hL cl hdl hdep K hK; refine ⟨?_⟩; simp only [Act.put, sA, sB, sC, Nat.zero_add, Nat.reduceAdd] at hK ⊢; go_simp; with_reducible refine hK _ _ (RT.refl _ _) (hS.step (Below.refl _ _) 3 _ (by decide) (fun e => absurd e (by decide))) ?_
     exact rfl
    ·as_aux_lemma =>
     intro vs L W hS hL cl hdl hdep K hK; have d0 := hdep ⟨2, .data⟩ (by simp) rfl; simp only [PhiZmd] at d0; have d1 := hdep ⟨3, .data⟩ (by simp) rfl; simp only [PhiZmd] at d1; refine ⟨?_⟩; simp only [Act.put, sA, sB, sC, Nat.zero_add, Nat.reduceAdd, d0, d1] at hK ⊢; go_simp; with_reducible refine hK _ _ (RT.refl _ _) (hS.step (Below.refl _ _) 4 _ (by decide) (fun e => absurd e (by decide))) ?_
     exact rfl
    ·as_aux_lemma =>
     intro vs L W hS hL cl hdl hdep K hK; have d0 := hdep ⟨4, .data⟩ (by simp) rfl; simp only [PhiZmd] at d0; have f1 := cell_keep hS.be hci; refine ⟨?_⟩; simp only [Act.put, sA, sB, sC, Nat.zero_add, Nat.reduceAdd, d0] at hK ⊢; go_simp; with_reducible refine hK _ _ (RT.refl _ _) (hS.step (Below.refl _ _) 5 _ (by decide) (fun e => absurd e (by decide))) ?_
     exact rfl
    ·as_aux_lemma =>
     intro vs L W hS hL cl hdl hdep K hK; refine ⟨?_⟩; simp only [Act.put, sA, sB, sC, Nat.zero_add, Nat.reduceAdd] at hK ⊢; go_simp; with_reducible refine hK _ _ (RT.refl _ _) (hS.step (Below.refl _ _) 6 _ (by decide) (fun e => absurd e (by decide))) ?_
     exact rfl
    ·as_aux_lemma =>
     intro vs L W hS hL cl hdl hdep K hK; refine ⟨?_⟩; simp only [Act.put, sA, sB, sC, Nat.zero_add, Nat.reduceAdd] at hK ⊢; go_simp; with_reducible refine hK _ _ (RT.refl _ _) (hS.step (Below.refl _ _) 7 _ (by decide) (fun e => absurd e (by decide))) ?_
     exact rfl
    ·as_aux_lemma =>
     intro vs L W hS hL cl hdl hdep K hK; have d0 := hdep ⟨6, .data⟩ (by simp) rfl; simp only [PhiZmd] at d0; have d1 := hdep ⟨7, .data⟩ (by simp) rfl; simp only [PhiZmd] at d1; refine ⟨?_⟩; simp only [Act.put, sA, sB, sC, Nat.zero_add, Nat.reduceAdd, d0, d1] at hK ⊢; go_simp; with_reducible refine hK _ _ (RT.refl _ _) (hS.step (Below.refl _ _) 8 _ (by decide) (fun e => absurd e (by decide))) ?_
     exact rfl
    ·as_aux_lemma =>
     intro vs L W hS hL cl hdl hdep K hK; have d0 := hdep ⟨8, .data⟩ (by simp) rfl; simp only [PhiZmd] at d0; have f1 := cell_keep hS.be k1; have f2 := cell_keep hS.be k2; refine ⟨?_⟩; simp only [Act.put, sA, sB, sC, Nat.zero_add, Nat.reduceAdd, d0] at hK ⊢; go_simp; with_reducible refine hK _ _ (RT.refl _ _) (hS.step (Below.refl _ _) 9 _ (by decide) (fun e => absurd e (by decide))) ?_
     exact rfl
    ·as_aux_lemma =>
     intro vs L W hS hL cl hdl hdep K hK; have d0 := hdep ⟨1, .data⟩ (by simp) rfl; simp only [PhiZmd] at d0; have d1 := hdep ⟨5, .data⟩ (by simp) rfl; simp only [PhiZmd] at d1; have d2 := hdep ⟨9, .data⟩ (by simp) rfl; simp only [PhiZmd] at d2; refine ⟨?_⟩; simp only [Act.put, sA, sB, sC, Nat.zero_add, Nat.reduceAdd, d0, d1, d2] at hK ⊢; go_simp; refine (worst_I _ _ b low hgh rows mm i mi _ (hpl.below hS.be) (hlv.below hS.be) HPE.out (MOK.out.lv i) HMI.out hmi).mono ?_; rintro e w' ⟨v, rfl, hn, hb⟩; go_wp2_with fail; with_reducible refine hK _ _ (RT.below hb hS.be.size) (hS.step hb 10 _ (by decide) (fun e => absurd e (by decide))) ?_
     exact ⟨v, rfl, hn⟩
    ·as_aux_lemma =>
     intro vs L W hS hL cl hdl hdep K hK; have d0 := hdep ⟨10, .data⟩ (by simp) rfl; simp only [PhiZmd] at d0; refine @exE1 _ _ _ d0 ?_; clear d0; intro v0 d0; have e0 := d0.1; have n0 := d0.2; clear d0; refine ⟨?_⟩; simp only [Act.put, sA, sB, sC, Nat.zero_add, Nat.reduceAdd, e0] at hK ⊢; go_simp; with_reducible refine hK _ _ (RT.refl _ _) (hS.step (Below.refl _ _) 11 _ (by decide) (fun e => absurd e (by decide))) ?_
     exact ⟨_, rfl, n0⟩
    ·as_aux_lemma =>
     intro vs L W hS hL cl hdl hdep K hK; have d0 := hdep ⟨11, .data⟩ (by simp) rfl; simp only [PhiZmd] at d0; refine @exE1 _ _ _ d0 ?_; clear d0; intro v0 d0; have e0 := d0.1; have n0 := d0.2; clear d0
     have h15 : L 15 = false := by
      cases h : L 15 with
      | false => rfl
      | true => exact absurd (cl 15 _ rfl h ⟨12, .data⟩ (by simp) rfl) (by rw [hL]; decide)
     obtain ⟨A, k, c, A', k', c', rfl⟩ := n0.shape; refine ⟨?_⟩; simp only [Act.put, sA, sB, sC, Nat.zero_add, Nat.reduceAdd, e0] at hK ⊢; go_simp; with_reducible refine hK _ _ (RT.refl _ _) (hS.step (Below.refl _ _) 12 _ (by decide) (fun _ => h15)) ?_
     exact ⟨_, _, _, _, _, _, rfl, n0⟩
    ·as_aux_lemma =>
     intro vs L W hS hL cl hdl hdep K hK; have d0 := hdep ⟨11, .data⟩ (by simp) rfl; simp only [PhiZmd] at d0; refine @exE1 _ _ _ d0 ?_; clear d0; intro v0 d0; have e0 := d0.1; have n0 := d0.2; clear d0; refine ⟨?_⟩; simp only [Act.put, sA, sB, sC, Nat.zero_add, Nat.reduceAdd, e0] at hK ⊢; go_simp; with_reducible refine hK _ _ (RT.refl _ _) (hS.step (Below.refl _ _) 13 _ (by decide) (fun e => absurd e (by decide))) ?_
     exact rfl
    ·as_aux_lemma =>
     intro vs L W hS hL cl hdl hdep K hK
     have h15 : L 15 = false := by
      cases h : L 15 with
      | false => rfl
      | true => exact absurd (cl 15 _ rfl h ⟨14, .data⟩ (by simp) rfl) (by rw [hL]; decide)
     refine ⟨?_⟩; simp only [Act.put, sA, sB, sC, Nat.zero_add, Nat.reduceAdd] at hK ⊢; go_simp; with_reducible refine hK _ _ (RT.below (bA _ _) hS.be.size) (hS.step (bA _ _) 14 _ (by decide) (fun _ => h15)) ?_
     exact ⟨_, rfl, hS.be.size, none, 0, 0, none, 0, 0, Blk.new _ _ _⟩
    ·as_aux_lemma =>
     intro vs L W hS hL cl hdl hdep K hK; have d0 := hdep ⟨14, .data⟩ (by simp) rfl; simp only [PhiZmd] at d0; refine @exE1 _ _ _ d0 ?_; clear d0; intro g0 d0; have e0 := d0.1; have l0 := d0.2.1; have s0 := d0.2.2; clear d0; have d1 := hdep ⟨12, .data⟩ (by simp) rfl; simp only [PhiZmd] at d1; refine @exE6 _ _ _ _ _ _ _ _ d1 ?_; clear d1; intro A1 k1 c1 B1 m1 d1 d1; have e1 := d1.1; have n1 := d1.2; clear d1; obtain ⟨⟨a1, q1⟩, ⟨a2, q2⟩, q3, q4⟩ := s0.facts; refine ⟨?_⟩; simp only [Act.put, sA, sB, sC, Nat.zero_add, Nat.reduceAdd, e0, e1] at hK ⊢; go_simp; with_reducible refine hK undef _ (RT.store s0 l0 _ _ _ _ _ _) (hS.stored e0 e1 l0 s0 (by decide) (by decide) _) ?_
     exact trivial
    ·as_aux_lemma =>
     intro vs L W hS hL cl hdl hdep K hK; have d0 := hdep ⟨13, .data⟩ (by simp) rfl; simp only [PhiZmd] at d0; refine ⟨?_⟩; simp only [Act.put, sA, sB, sC, Nat.zero_add, Nat.reduceAdd, d0] at hK ⊢; go_simp; with_reducible refine hK _ _ (RT.refl _ _) (hS.step (Below.refl _ _) 16 _ (by decide) (fun e => absurd e (by decide))) ?_
     exact rfl
   intro vs L wb' hS hall hv; have v16 := hv 16 (by simp); have v8 := hv 12 (by simp); simp only [PhiZmd] at v16 v8; obtain ⟨_, _, _, _, _, _, e8', ho⟩ := v8; obtain ⟨g, A9b, k9b, c9b, B9b, m9b, d9b, e10, e8, hgN, hblk⟩ := hS.st (hall 15 (by simp)); rw [e8] at e8'; rw [← e8'] at ho; have HO := Lib.hid ho; have hbx := hS.be; clear hv hS hall e8' ho; simp only [Act.put, sA, sB, sC, Nat.zero_add, Nat.reduceAdd, v16, e10, e8]; have xb := HO.out; have hblkB := hblk; obtain ⟨gB, hgB⟩ : ∃ z, Hid (z = g) := ⟨_, rfl⟩; rw [← hgB.out] at hblkB hgN ⊢; have hgB0 := Nat.le_trans hgA1 hgN; have Fb0 := hblkB.cell 0; have Fb1 := hblkB.cell 1; simp only [List.getElem?_toArray, List.getElem?_cons_zero, List.getElem?_cons_succ] at Fb0 Fb1
   replace hpl := hpl.below hbx
   replace hqv := hqv.below hbx
   replace hlv := hlv.below hbx
   replace hrr := hrr.below hbx
   replace hww := hww.below hbx
   replace xa := xa.below hbx
   replace P0 := cell_keep hbx P0
   replace P1 := cell_keep hbx P1
   replace P2 := cell_keep hbx P2
   replace Q0 := cell_keep hbx Q0
   replace Q1 := cell_keep hbx Q1
   replace k1 := cell_keep hbx k1
   replace k2 := cell_keep hbx k2
   replace hci := cell_keep hbx hci
   have hblkA := hblkA.below hbx hblkA.lt
   replace hbo := hbo.trans (hbx.mono hbo.size)
   clear HO hblk hgN hbx hgB; go_upto_region 17 with fail; refine region_invW (PhiZmf gV i (.slice A9b k9b c9b) (.slice B9b m9b d9b) l1' l2' (mulV (wI b rows low hgh mm i) (lI low hgh i)) wb'.heap.size) (RT wb'.heap.size) (SD wb' 7 9 10) (by kernel_rfl) (by kernel_rfl) (by kernel_rfl) PhiZmf.keep (SD.start _ _ _ _ _) (fun vs => by simp only [fillR, Act.put, sA, sB, sC, Nat.zero_add, Nat.reduceAdd]; rfl) ?_ ?_
   ·refine sK ?_ (sK ?_ (sK ?_ (sK ?_ (sK ?_ (sK ?_ (sK ?_ (sK ?_ (sK ?_ (sK ?_ (sK ?_ (sK ?_ (sZ))))))))))))
    ·as_aux_lemma =>
     intro vs L W hS hL cl hdl hdep K hK; have f1 := cell_keep hS.be Fb0; have f2 := cell_keep hS.be Fb1; refine ⟨?_⟩; simp only [Act.put, sA, sB, sC, Nat.zero_add, Nat.reduceAdd] at hK ⊢; go_simp; with_reducible refine hK _ _ (RT.refl _ _) (hS.step (Below.refl _ _) 0 _ (by decide) (fun e => absurd e (by decide))) ?_
     exact rfl
    ·as_aux_lemma =>
     intro vs L W hS hL cl hdl hdep K hK; refine ⟨?_⟩; simp only [Act.put, sA, sB, sC, Nat.zero_add, Nat.reduceAdd] at hK ⊢; go_simp; with_reducible refine hK _ _ (RT.refl _ _) (hS.step (Below.refl _ _) 1 _ (by decide) (fun e => absurd e (by decide))) ?_
     exact rfl
    ·as_aux_lemma =>
     intro vs L W hS hL cl hdl hdep K hK; refine ⟨?_⟩; simp only [Act.put, sA, sB, sC, Nat.zero_add, Nat.reduceAdd] at hK ⊢; go_simp; with_reducible refine hK _ _ (RT.refl _ _) (hS.step (Below.refl _ _) 2 _ (by decide) (fun e => absurd e (by decide))) ?_
     exact rfl
    ·as_aux_lemma =>
     intro vs L W hS hL cl hdl hdep K hK; have d0 := hdep ⟨1, .data⟩ (by simp) rfl; simp only [PhiZmf] at d0; have d1 := hdep ⟨2, .data⟩ (by simp) rfl; simp only [PhiZmf] at d1; refine ⟨?_⟩; simp only [Act.put, sA, sB, sC, Nat.zero_add, Nat.reduceAdd, d0, d1] at hK ⊢; go_simp; with_reducible refine hK _ _ (RT.refl _ _) (hS.step (Below.refl _ _) 3 _ (by decide) (fun e => absurd e (by decide))) ?_
     exact rfl
    ·as_aux_lemma =>
     intro vs L W hS hL cl hdl hdep K hK; have d0 := hdep ⟨3, .data⟩ (by simp) rfl; simp only [PhiZmf] at d0; have f1 := cell_keep hS.be k1; have f2 := cell_keep hS.be k2; refine ⟨?_⟩; simp only [Act.put, sA, sB, sC, Nat.zero_add, Nat.reduceAdd, d0] at hK ⊢; go_simp; with_reducible refine hK _ _ (RT.refl _ _) (hS.step (Below.refl _ _) 4 _ (by decide) (fun e => absurd e (by decide))) ?_
     exact rfl
    ·as_aux_lemma =>
     intro vs L W hS hL cl hdl hdep K hK; have d0 := hdep ⟨0, .data⟩ (by simp) rfl; simp only [PhiZmf] at d0; have d1 := hdep ⟨4, .data⟩ (by simp) rfl; simp only [PhiZmf] at d1; refine ⟨?_⟩; simp only [Act.put, sA, sB, sC, Nat.zero_add, Nat.reduceAdd, d0, d1] at hK ⊢; go_simp; refine (mul_ok0 _ _ (wI b rows low hgh mm i) (lI low hgh i) _ (xb.below hS.be) (hlv.below hS.be) (MOK.out.e0 i)).mono ?_; rintro e w' ⟨v, rfl, hn, hb⟩; go_wp2_with fail; with_reducible refine hK _ _ (RT.below hb hS.be.size) (hS.step hb 5 _ (by decide) (fun e => absurd e (by decide))) ?_
     exact ⟨v, rfl, hn⟩
    ·as_aux_lemma =>
     intro vs L W hS hL cl hdl hdep K hK; have d0 := hdep ⟨5, .data⟩ (by simp) rfl; simp only [PhiZmf] at d0; refine @exE1 _ _ _ d0 ?_; clear d0; intro v0 d0; have e0 := d0.1; have n0 := d0.2; clear d0; refine ⟨?_⟩; simp only [Act.put, sA, sB, sC, Nat.zero_add, Nat.reduceAdd, e0] at hK ⊢; go_simp; with_reducible refine hK _ _ (RT.refl _ _) (hS.step (Below.refl _ _) 6 _ (by decide) (fun e => absurd e (by decide))) ?_
     exact ⟨_, rfl, n0⟩
    ·as_aux_lemma =>
     intro vs L W hS hL cl hdl hdep K hK; have d0 := hdep ⟨6, .data⟩ (by simp) rfl; simp only [PhiZmf] at d0; refine @exE1 _ _ _ d0 ?_; clear d0; intro v0 d0; have e0 := d0.1; have n0 := d0.2; clear d0
     have h10 : L 10 = false := by
      cases h : L 10 with
      | false => rfl
      | true => exact absurd (cl 10 _ rfl h ⟨7, .data⟩ (by simp) rfl) (by rw [hL]; decide)
     obtain ⟨A, k, c, A', k', c', rfl⟩ := n0.shape; refine ⟨?_⟩; simp only [Act.put, sA, sB, sC, Nat.zero_add, Nat.reduceAdd, e0] at hK ⊢; go_simp; with_reducible refine hK _ _ (RT.refl _ _) (hS.step (Below.refl _ _) 7 _ (by decide) (fun _ => h10)) ?_
     exact ⟨_, _, _, _, _, _, rfl, n0⟩
    ·as_aux_lemma =>
     intro vs L W hS hL cl hdl hdep K hK; have d0 := hdep ⟨6, .data⟩ (by simp) rfl; simp only [PhiZmf] at d0; refine @exE1 _ _ _ d0 ?_; clear d0; intro v0 d0; have e0 := d0.1; have n0 := d0.2; clear d0; refine ⟨?_⟩; simp only [Act.put, sA, sB, sC, Nat.zero_add, Nat.reduceAdd, e0] at hK ⊢; go_simp; with_reducible refine hK _ _ (RT.refl _ _) (hS.step (Below.refl _ _) 8 _ (by decide) (fun e => absurd e (by decide))) ?_
     exact rfl
    ·as_aux_lemma =>
     intro vs L W hS hL cl hdl hdep K hK
     have h10 : L 10 = false := by
      cases h : L 10 with
      | false => rfl
      | true => exact absurd (cl 10 _ rfl h ⟨9, .data⟩ (by simp) rfl) (by rw [hL]; decide)
     refine ⟨?_⟩; simp only [Act.put, sA, sB, sC, Nat.zero_add, Nat.reduceAdd] at hK ⊢; go_simp; with_reducible refine hK _ _ (RT.below (bA _ _) hS.be.size) (hS.step (bA _ _) 9 _ (by decide) (fun _ => h10)) ?_
     exact ⟨_, rfl, hS.be.size, none, 0, 0, none, 0, 0, Blk.new _ _ _⟩
    ·as_aux_lemma =>
     intro vs L W hS hL cl hdl hdep K hK; have d0 := hdep ⟨9, .data⟩ (by simp) rfl; simp only [PhiZmf] at d0; refine @exE1 _ _ _ d0 ?_; clear d0; intro g0 d0; have e0 := d0.1; have l0 := d0.2.1; have s0 := d0.2.2; clear d0; have d1 := hdep ⟨7, .data⟩ (by simp) rfl; simp only [PhiZmf] at d1; refine @exE6 _ _ _ _ _ _ _ _ d1 ?_; clear d1; intro A1 k1 c1 B1 m1 d1 d1; have e1 := d1.1; have n1 := d1.2; clear d1; obtain ⟨⟨a1, q1⟩, ⟨a2, q2⟩, q3, q4⟩ := s0.facts; refine ⟨?_⟩; simp only [Act.put, sA, sB, sC, Nat.zero_add, Nat.reduceAdd, e0, e1] at hK ⊢; go_simp; with_reducible refine hK undef _ (RT.store s0 l0 _ _ _ _ _ _) (hS.stored e0 e1 l0 s0 (by decide) (by decide) _) ?_
     exact trivial
    ·as_aux_lemma =>
     intro vs L W hS hL cl hdl hdep K hK; have d0 := hdep ⟨8, .data⟩ (by simp) rfl; simp only [PhiZmf] at d0; refine ⟨?_⟩; simp only [Act.put, sA, sB, sC, Nat.zero_add, Nat.reduceAdd, d0] at hK ⊢; go_simp; with_reducible refine hK _ _ (RT.refl _ _) (hS.step (Below.refl _ _) 11 _ (by decide) (fun e => absurd e (by decide))) ?_
     exact rfl
   intro vs L wc hS hall hv; have v11 := hv 11 (by simp); have v8 := hv 7 (by simp); simp only [PhiZmf] at v11 v8; obtain ⟨_, _, _, _, _, _, e8', ho⟩ := v8; obtain ⟨g, A9c, k9c, c9c, B9c, m9c, d9c, e10, e8, hgN, hblk⟩ := hS.st (hall 10 (by simp)); rw [e8] at e8'; rw [← e8'] at ho; have HO := Lib.hid ho; have hbx := hS.be; clear hv hS hall e8' ho; simp only [Act.put, sA, sB, sC, Nat.zero_add, Nat.reduceAdd, v11, e10, e8]; have xc := HO.out; have Fc0 := hblk.cell 0; have Fc1 := hblk.cell 1; simp only [List.getElem?_toArray, List.getElem?_cons_zero, List.getElem?_cons_succ] at Fc0 Fc1
   replace hrr := hrr.below hbx
   replace hww := hww.below hbx
   replace xa := xa.below hbx
   replace xb := xb.below hbx
   replace hblkA := hblkA.below hbx hblkA.lt
   replace hblkB := hblkB.below hbx hblkB.lt
   replace hbo := hbo.trans (hbx.mono hbo.size)
   have Fa0 := hblkA.cell 0; have Fa1 := hblkA.cell 1; have Fb0 := hblkB.cell 0; have Fb1 := hblkB.cell 1; simp only [List.getElem?_toArray, List.getElem?_cons_zero, List.getElem?_cons_succ] at Fa0 Fa1 Fb0 Fb1; clear HO hblk hgN hbx hpl hqv hlv P0 P1 P2 Q0 Q1 k1 k2 hci; obtain ⟨cc1, HC1⟩ : ∃ c, Hid (c = cmpV (rI b rows qv low hgh mm i) (wI b rows low hgh mm i)) := ⟨_, rfl⟩; obtain ⟨cc2, HC2⟩ : ∃ c, Hid (c = cmpV (mulV (wI b rows low hgh mm i) (lI low hgh i)) (redP 1 1)) := ⟨_, rfl⟩; have HCG := cmp_good _ _ (rI b rows qv low hgh mm i) (wI b rows low hgh mm i) _ xa xb (MOK.out.rv i) (MOK.out.wv i); rw [← HC1.out] at HCG; have HCG := Lib.hid HCG; go_wp2_with fail; refine HCG.out.mono ?_; rintro e wd ⟨rfl, hbx⟩
   replace hrr := hrr.below hbx
   replace hww := hww.below hbx
   replace xa := xa.below hbx
   replace xb := xb.below hbx
   replace xc := xc.below hbx
   replace Fa0 := cell_keep hbx Fa0
   replace Fa1 := cell_keep hbx Fa1
   replace Fb0 := cell_keep hbx Fb0
   replace Fb1 := cell_keep hbx Fb1
   replace Fc0 := cell_keep hbx Fc0
   replace Fc1 := cell_keep hbx Fc1
   have hblkA := hblkA.below hbx hblkA.lt
   replace hblkB := hblkB.below hbx hblkB.lt
   replace hbo := hbo.trans (hbx.mono hbo.size)
   clear HCG hbx; go_upto_region 19 with fail; refine region_invF (PhiZmg (.slice A9c k9c c9c) (.slice B9c m9c d9c) cc2) (fun w w' => Below w.heap.size w w') (fun W => Below wd.heap.size wd W) (by kernel_rfl) (by kernel_rfl) (by kernel_rfl) PhiZmg.keep (fun _ _ hR hS => Below.tr hS hR) (bD _) (fun vs => by simp only [fillR, Act.put, sA, sB, sC, Nat.zero_add, Nat.reduceAdd]; rfl) ?_ ?_
   ·refine sK ?_ (sK ?_ (sK ?_ (sK ?_ (sK ?_ (sK ?_ (sK ?_ (sK ?_ (sZ))))))))
    ·as_aux_lemma =>
     intro vs W hS hdep K hK; have f1 := cell_keep hS Fc0; have f2 := cell_keep hS Fc1; refine ⟨?_⟩; simp only [Act.put, sA, sB, sC, Nat.zero_add, Nat.reduceAdd] at hK ⊢; go_simp; with_reducible refine hK _ _ (Below.refl _ _) ?_
     exact rfl
    ·as_aux_lemma =>
     intro vs W hS hdep K hK; refine ⟨?_⟩; simp only [Act.put, sA, sB, sC, Nat.zero_add, Nat.reduceAdd] at hK ⊢; go_simp; refine (of_R 1 1 _ (by omega) (by omega) (by omega)).mono ?_; rintro e w' ⟨v, rfl, hv, hb⟩; go_wp2_with fail; with_reducible refine hK _ _ hb ?_
     exact hv
    ·as_aux_lemma =>
     intro vs W hS hdep K hK; have d0 := hdep ⟨0, .data⟩ (by simp) rfl; simp only [PhiZmg] at d0; have d1 := hdep ⟨1, .data⟩ (by simp) rfl; simp only [PhiZmg] at d1; have r1 := d1; clear d1; refine ⟨?_⟩; simp only [Act.put, sA, sB, sC, Nat.zero_add, Nat.reduceAdd, d0] at hK ⊢; go_simp; refine (cmp_good _ _ (mulV (wI b rows low hgh mm i) (lI low hgh i)) (redP 1 1) _ (xc.below hS) r1 (MOK.out.mv i) HO1.out).mono ?_; rintro e w' ⟨rfl, hb⟩; go_wp2_with fail; with_reducible refine hK _ _ hb ?_
     exact by show _ = _; rw [HC2.out]
    ·as_aux_lemma =>
     intro vs W hS hdep K hK; have d0 := hdep ⟨2, .data⟩ (by simp) rfl; simp only [PhiZmg] at d0; refine ⟨?_⟩; simp only [Act.put, sA, sB, sC, Nat.zero_add, Nat.reduceAdd, d0] at hK ⊢; go_simp; with_reducible refine hK _ _ (Below.refl _ _) ?_
     exact rfl
    ·as_aux_lemma =>
     intro vs W hS hdep K hK; have d0 := hdep ⟨3, .data⟩ (by simp) rfl; simp only [PhiZmg] at d0; refine ⟨?_⟩; simp only [Act.put, sA, sB, sC, Nat.zero_add, Nat.reduceAdd, d0] at hK ⊢; go_simp; with_reducible refine hK _ _ (Below.refl _ _) ?_
     exact rfl
    ·as_aux_lemma =>
     intro vs W hS hdep K hK; have d0 := hdep ⟨3, .data⟩ (by simp) rfl; simp only [PhiZmg] at d0; refine ⟨?_⟩; simp only [Act.put, sA, sB, sC, Nat.zero_add, Nat.reduceAdd, d0] at hK ⊢; go_simp; with_reducible refine hK _ _ (Below.refl _ _) ?_
     exact rfl
    ·as_aux_lemma =>
     intro vs W hS hdep K hK; have d0 := hdep ⟨4, .data⟩ (by simp) rfl; simp only [PhiZmg] at d0; refine ⟨?_⟩; simp only [Act.put, sA, sB, sC, Nat.zero_add, Nat.reduceAdd, d0] at hK ⊢; go_simp; with_reducible refine hK _ _ (Below.refl _ _) ?_
     exact rfl
    ·as_aux_lemma =>
     intro vs W hS hdep K hK; have d0 := hdep ⟨5, .data⟩ (by simp) rfl; simp only [PhiZmg] at d0; refine ⟨?_⟩; simp only [Act.put, sA, sB, sC, Nat.zero_add, Nat.reduceAdd, d0] at hK ⊢; go_simp; with_reducible refine hK _ _ (Below.refl _ _) ?_
     exact rfl
   intro vs we hbx hv; have v6 := hv 6 (by simp); have v7 := hv 7 (by simp); simp only [PhiZmg] at v6 v7; simp only [Act.put, sA, sB, sC, Nat.zero_add, Nat.reduceAdd, v6, v7]
   replace hrr := hrr.below hbx
   replace hww := hww.below hbx
   replace xa := xa.below hbx
   replace xb := xb.below hbx
   replace Fa0 := cell_keep hbx Fa0
   replace Fa1 := cell_keep hbx Fa1
   replace Fb0 := cell_keep hbx Fb0
   replace Fb1 := cell_keep hbx Fb1
   have hblkA := hblkA.below hbx hblkA.lt
   replace hblkB := hblkB.below hbx hblkB.lt
   replace hbo := hbo.trans (hbx.mono hbo.size)
   have c1 : cc1 ≤ 0 := by rw [HC1.out]; exact MOK.out.le i
   have c2 : cc2 ≤ 0 := by rw [HC2.out]; exact MOK.out.top i
   have t2 : decide (0 < cc1) = false := by simp; omega
   have t3 : decide (0 < cc2) = false := by simp; omega
   have t4 : decide (cc1 > 0) = false := by simp; omega
   have t5 : decide (cc2 > 0) = false := by simp; omega
   clear hv v6 v7 hbx Fc0 Fc1 xc HC1 HC2; have hb6 := bA we (.cells #[.slice A9a k9a c9a, .slice B9a m9a d9a] 25); have hrr6 := hrr.below hb6; have hww6 := hww.below hb6; have xa6 := xa.below hb6; have xb6 := xb.below hb6; have hblkB6 := hblkB.below hb6 hblkB.lt; have hbo6 := hbo.trans (hb6.mono hbo.size); have hs6 := hbo6.size; have hrd6 := Rd.newC we 25 [.slice A9a k9a c9a, .slice B9a m9a d9a]; have hX30 : Y.length ≤ 1073741824 := by rw [hbY.out]; omega
   have hX31 : Z.length ≤ 1073741824 := by rw [hbZ.out]; omega
   go_upto_region 23 with (at_builtin; go_loud (refine wpList_push rfl (.tmp 153) (.tmp 155) rfl w8.heap.size _ Y rfl hrr6 (some ⟨we.heap.size, 0, none⟩) 1 _ _ (rI b rows qv low hgh mm i) rfl xa6 hrd6 hX30 hs6 ?_); intro v7 wf hrr7 hg7 hat7 hkp7)
   have hww7 := hww6.kept' hrr6 hg7 hap.symm; have hap7 : Apt v7 (.slice AW i cW) := hww6.apt hap hat7; have hblkB7 := hblkB6.grown hg7 (fun j hj e => by have := hltR j hj; omega); have hbo7 := hbo6.grown hg7 hbo6.size (fun q hq => hrr6.ge q hq); have xb7 := hkp7 _ _ xb6; have Fb0 := hblkB7.cell 0; have Fb1 := hblkB7.cell 1; simp only [List.getElem?_toArray, List.getElem?_cons_zero, List.getElem?_cons_succ] at Fb0 Fb1; obtain ⟨Y', HY'⟩ : ∃ y, Hid (y = Y ++ [rI b rows qv low hgh mm i]) := ⟨_, rfl⟩; rw [← HY'.out] at hrr7; have hY7 : Hid (Y' = (List.range (i + 1)).map (rI b rows qv low hgh mm)) := by show _ = _; rw [HY'.out, HY.out, List.range_succ, List.map_append]; rfl
   obtain ⟨A7, c7, rfl⟩ := hrr7.shp; have hb8 := bA wf (.cells #[.slice A9b k9b c9b, .slice B9b m9b d9b] 25); have hrr8 := hrr7.below hb8; have hww8 := hww7.below hb8; have xb8 := xb7.below hb8; have hbo8 := hbo7.trans (hb8.mono hbo7.size); have hs8 := hbo8.size; have hrd8 := Rd.newC wf 25 [.slice A9b k9b c9b, .slice B9b m9b d9b]; clear hrr hww xa xb hblkA hblkB hblkB6 hblkB7 hrr6 hww6 xa6 xb6 xb7 hbo6 hbo7 hg7 hkp7 hat7 hb6 hb8 hrr7 hww7 hs6 hrd6 Fa0 Fa1
   go_wp2_with (at_builtin; go_loud (refine wpList_push rfl (.tmp 157) (.tmp 159) rfl w8.heap.size _ Z rfl hww8 (some ⟨wf.heap.size, 0, none⟩) 1 _ _ (wI b rows low hgh mm i) rfl xb8 hrd8 hX31 hs8 ?_); intro v9 wg hww9 hg9 hat9 hkp9)
   have hrr9 := hrr8.kept' hww8 hg9 hap7; have hap9 := (hrr8.apt hap7.symm hat9).symm; have hbo9 := hbo8.grown hg9 hbo8.size (fun q hq => hww8.ge q hq); obtain ⟨Z', HZ'⟩ : ∃ y, Hid (y = Z ++ [wI b rows low hgh mm i]) := ⟨_, rfl⟩; rw [← HZ'.out] at hww9; have hZ9 : Hid (Z' = (List.range (i + 1)).map (wI b rows low hgh mm)) := by show _ = _; rw [HZ'.out, HZ.out, List.range_succ, List.map_append]; rfl
   obtain ⟨A9z, c9z, rfl⟩ := hww9.shp; clear hrr8 hww8 xb8 hbo8 hg9 hkp9 hat9 hs8 hrd8 Fb0 Fb1; go_wp2_with fail
   go_roundg (G - 1)
   case measure => omega
   case rel => exact ⟨i + 1, Y', Z', by go_num, by omega, hY7, hZ9, hrr9, hww9, hap9, hbo9⟩
  ·have t1 : decide ((i : Int) < 3) = false := by simp; omega
   have hi3 : i = 3 := by omega
   have q0 : (0 : Int) < (i : Int) := by omega
   have q00 : 0 < i := by omega
   have q1' : (1 : Int) < (i : Int) := by omega
   have q2' : (2 : Int) < (i : Int) := by omega
   replace hbw := hbw.trans (hbo.mono hbw.size)
   have hR := hrr.row (by rw [hbY.out]; omega); have hW := hww.row (by rw [hbZ.out]; omega); obtain ⟨bR, oR, y1, y2, x0, rfl, G01, G00, K0, hx0⟩ := hR.at_ (show 0 < i by omega); obtain ⟨b', o', u1, u2, x1, e1, G11, G10, K1, hx1⟩ := hR.at_ (show 1 < i by omega); obtain ⟨b'', o'', t1', t2', x2, e2, G21, G20, K2, hx2⟩ := hR.at_ (show 2 < i by omega); simp only [Option.some.injEq, Addr.mk.injEq, and_true] at e1 e2; obtain ⟨rfl, rfl⟩ := e1; obtain ⟨rfl, rfl⟩ := e2; obtain ⟨bW, oW, p1, p2, z0, rfl, D01, D00, J0, hz0⟩ := hW.at_ (show 0 < i by omega); obtain ⟨b', o', r1, r2, z1, e1, D11, D10, J1, hz1⟩ := hW.at_ (show 1 < i by omega); obtain ⟨b'', o'', m1, m2, z2, e2, D21, D20, J2, hz2⟩ := hW.at_ (show 2 < i by omega); simp only [Option.some.injEq, Addr.mk.injEq, and_true] at e1 e2; obtain ⟨rfl, rfl⟩ := e1; obtain ⟨rfl, rfl⟩ := e2; have E0 := K0.out; have E1 := K1.out; have E2 := K2.out; rw [HY.out, hi3] at E0 E1 E2; have E0 := Option.some.inj E0; have E1 := Option.some.inj E1; have E2 := Option.some.inj E2; subst E0 E1 E2; have I0 := J0.out; have I1 := J1.out; have I2 := J2.out; rw [HZ.out, hi3] at I0 I1 I2; have I0 := Option.some.inj I0; have I1 := Option.some.inj I1; have I2 := Option.some.inj I2; subst I0 I1 I2; simp only [Nat.zero_mul, Nat.add_zero, Nat.one_mul, Nat.reduceMul, Nat.reduceAdd, Nat.zero_add] at G00 G01 G10 G11 G20 G21 D00 D01 D10 D11 D20 D21; clear hpl hqv hV P0 P1 P2 Q0 Q1 hrr hww hap hR hW K0 K1 K2 J0 J1 J2 HY HZ hbo hbY hbZ hij hi3 t1; obtain ⟨ca, HCC⟩ : ∃ c, Hid (c = cmpV (rI b rows qv low hgh mm 0) (rI b rows qv low hgh mm 1)) := ⟨_, rfl⟩
   go_upto_region 24 with fail; refine region_invF (PhiZmh bR oR i cR oR (oR + 2) y1 y2 u1 u2 ca) (fun w w' => Below w.heap.size w w') (fun W => Below wo.heap.size wo W) (by kernel_rfl) (by kernel_rfl) (by kernel_rfl) PhiZmh.keep (fun _ _ hR hS => Below.tr hS hR) (bD _) (fun vs => by simp only [fillR, Act.put, sA, sB, sC, Nat.zero_add, Nat.reduceAdd]; rfl) ?_ ?_
   ·refine sK ?_ (sK ?_ (sK ?_ (sK ?_ (sK ?_ (sK ?_ (sK ?_ (sK ?_ (sK ?_ (sK ?_ (sK ?_ (sK ?_ (sZ))))))))))))
    ·as_aux_lemma =>
     intro vs W hS hdep K hK; refine ⟨?_⟩; simp only [Act.put, sA, sB, sC, Nat.zero_add, Nat.reduceAdd] at hK ⊢; go_simp; with_reducible refine hK _ _ (Below.refl _ _) ?_
     exact rfl
    ·as_aux_lemma =>
     intro vs W hS hdep K hK; have d0 := hdep ⟨0, .data⟩ (by simp) rfl; simp only [PhiZmh] at d0; refine ⟨?_⟩; simp only [Act.put, sA, sB, sC, Nat.zero_add, Nat.reduceAdd, d0] at hK ⊢; go_simp; with_reducible refine hK _ _ (Below.refl _ _) ?_
     exact rfl
    ·as_aux_lemma =>
     intro vs W hS hdep K hK; have d0 := hdep ⟨1, .data⟩ (by simp) rfl; simp only [PhiZmh] at d0; have f1 := cell_keep hS G00; have f2 := cell_keep hS G01; refine ⟨?_⟩; simp only [Act.put, sA, sB, sC, Nat.zero_add, Nat.reduceAdd, d0] at hK ⊢; go_simp; with_reducible refine hK _ _ (Below.refl _ _) ?_
     exact rfl
    ·as_aux_lemma =>
     intro vs W hS hdep K hK; refine ⟨?_⟩; simp only [Act.put, sA, sB, sC, Nat.zero_add, Nat.reduceAdd] at hK ⊢; go_simp; with_reducible refine hK _ _ (Below.refl _ _) ?_
     exact rfl
    ·as_aux_lemma =>
     intro vs W hS hdep K hK; have d0 := hdep ⟨3, .data⟩ (by simp) rfl; simp only [PhiZmh] at d0; refine ⟨?_⟩; simp only [Act.put, sA, sB, sC, Nat.zero_add, Nat.reduceAdd, d0] at hK ⊢; go_simp; with_reducible refine hK _ _ (Below.refl _ _) ?_
     exact rfl
    ·as_aux_lemma =>
     intro vs W hS hdep K hK; have d0 := hdep ⟨4, .data⟩ (by simp) rfl; simp only [PhiZmh] at d0; have f1 := cell_keep hS G10; have f2 := cell_keep hS G11; refine ⟨?_⟩; simp only [Act.put, sA, sB, sC, Nat.zero_add, Nat.reduceAdd, d0] at hK ⊢; go_simp; with_reducible refine hK _ _ (Below.refl _ _) ?_
     exact rfl
    ·as_aux_lemma =>
     intro vs W hS hdep K hK; have d0 := hdep ⟨2, .data⟩ (by simp) rfl; simp only [PhiZmh] at d0; have d1 := hdep ⟨5, .data⟩ (by simp) rfl; simp only [PhiZmh] at d1; refine ⟨?_⟩; simp only [Act.put, sA, sB, sC, Nat.zero_add, Nat.reduceAdd, d0, d1] at hK ⊢; go_simp; refine (cmp_good _ _ (rI b rows qv low hgh mm 0) (rI b rows qv low hgh mm 1) _ (hx0.below hS) (hx1.below hS) (MOK.out.rv 0) (MOK.out.rv 1)).mono ?_; rintro e w' ⟨rfl, hb⟩; go_wp2_with fail; with_reducible refine hK _ _ hb ?_
     exact by show _ = _; rw [HCC.out]
    ·as_aux_lemma =>
     intro vs W hS hdep K hK; have d0 := hdep ⟨6, .data⟩ (by simp) rfl; simp only [PhiZmh] at d0; refine ⟨?_⟩; simp only [Act.put, sA, sB, sC, Nat.zero_add, Nat.reduceAdd, d0] at hK ⊢; go_simp; with_reducible refine hK _ _ (Below.refl _ _) ?_
     exact rfl
    ·as_aux_lemma =>
     intro vs W hS hdep K hK; have d0 := hdep ⟨7, .data⟩ (by simp) rfl; simp only [PhiZmh] at d0; refine ⟨?_⟩; simp only [Act.put, sA, sB, sC, Nat.zero_add, Nat.reduceAdd, d0] at hK ⊢; go_simp; with_reducible refine hK _ _ (Below.refl _ _) ?_
     exact rfl
    ·as_aux_lemma =>
     intro vs W hS hdep K hK; have d0 := hdep ⟨7, .data⟩ (by simp) rfl; simp only [PhiZmh] at d0; refine ⟨?_⟩; simp only [Act.put, sA, sB, sC, Nat.zero_add, Nat.reduceAdd, d0] at hK ⊢; go_simp; with_reducible refine hK _ _ (Below.refl _ _) ?_
     exact rfl
    ·as_aux_lemma =>
     intro vs W hS hdep K hK; have d0 := hdep ⟨8, .data⟩ (by simp) rfl; simp only [PhiZmh] at d0; refine ⟨?_⟩; simp only [Act.put, sA, sB, sC, Nat.zero_add, Nat.reduceAdd, d0] at hK ⊢; go_simp; with_reducible refine hK _ _ (Below.refl _ _) ?_
     exact rfl
    ·as_aux_lemma =>
     intro vs W hS hdep K hK; have d0 := hdep ⟨9, .data⟩ (by simp) rfl; simp only [PhiZmh] at d0; refine ⟨?_⟩; simp only [Act.put, sA, sB, sC, Nat.zero_add, Nat.reduceAdd, d0] at hK ⊢; go_simp; with_reducible refine hK _ _ (Below.refl _ _) ?_
     exact rfl
   intro vs w24 hb hv; have v10 := hv 10 (by simp); have v11 := hv 11 (by simp); simp only [PhiZmh] at v10 v11; simp only [Act.put, sA, sB, sC, Nat.zero_add, Nat.reduceAdd, v10, v11]; have d1 : decide (ca ≤ 0) = true := by have h := HCC.out; have h2 := MOK.out.a1; rw [← h] at h2; simpa using h2
   replace hx0 := hx0.below hb
   replace hx2 := hx2.below hb
   replace hz0 := hz0.below hb
   replace hz1 := hz1.below hb
   replace hz2 := hz2.below hb
   replace G00 := cell_keep hb G00
   replace G01 := cell_keep hb G01
   replace G20 := cell_keep hb G20
   replace G21 := cell_keep hb G21
   replace D00 := cell_keep hb D00
   replace D01 := cell_keep hb D01
   replace D10 := cell_keep hb D10
   replace D11 := cell_keep hb D11
   replace D20 := cell_keep hb D20
   replace D21 := cell_keep hb D21
   have hbw := Below.tr hbw hb; clear hv v10 v11 hb HCC hx1 G10 G11; obtain ⟨cb, HCC⟩ : ∃ c, Hid (c = cmpV (wI b rows low hgh mm 0) (wI b rows low hgh mm 1)) := ⟨_, rfl⟩; go_upto_region 25 with fail; refine region_invF (PhiZmh bW oW i cW oW (oW + 2) p1 p2 r1 r2 cb) (fun w w' => Below w.heap.size w w') (fun W => Below w24.heap.size w24 W) (by kernel_rfl) (by kernel_rfl) (by kernel_rfl) PhiZmh.keep (fun _ _ hR hS => Below.tr hS hR) (bD _) (fun vs => by simp only [fillR, Act.put, sA, sB, sC, Nat.zero_add, Nat.reduceAdd]; rfl) ?_ ?_
   ·refine sK ?_ (sK ?_ (sK ?_ (sK ?_ (sK ?_ (sK ?_ (sK ?_ (sK ?_ (sK ?_ (sK ?_ (sK ?_ (sK ?_ (sZ))))))))))))
    ·as_aux_lemma =>
     intro vs W hS hdep K hK; refine ⟨?_⟩; simp only [Act.put, sA, sB, sC, Nat.zero_add, Nat.reduceAdd] at hK ⊢; go_simp; with_reducible refine hK _ _ (Below.refl _ _) ?_
     exact rfl
    ·as_aux_lemma =>
     intro vs W hS hdep K hK; have d0 := hdep ⟨0, .data⟩ (by simp) rfl; simp only [PhiZmh] at d0; refine ⟨?_⟩; simp only [Act.put, sA, sB, sC, Nat.zero_add, Nat.reduceAdd, d0] at hK ⊢; go_simp; with_reducible refine hK _ _ (Below.refl _ _) ?_
     exact rfl
    ·as_aux_lemma =>
     intro vs W hS hdep K hK; have d0 := hdep ⟨1, .data⟩ (by simp) rfl; simp only [PhiZmh] at d0; have f1 := cell_keep hS D00; have f2 := cell_keep hS D01; refine ⟨?_⟩; simp only [Act.put, sA, sB, sC, Nat.zero_add, Nat.reduceAdd, d0] at hK ⊢; go_simp; with_reducible refine hK _ _ (Below.refl _ _) ?_
     exact rfl
    ·as_aux_lemma =>
     intro vs W hS hdep K hK; refine ⟨?_⟩; simp only [Act.put, sA, sB, sC, Nat.zero_add, Nat.reduceAdd] at hK ⊢; go_simp; with_reducible refine hK _ _ (Below.refl _ _) ?_
     exact rfl
    ·as_aux_lemma =>
     intro vs W hS hdep K hK; have d0 := hdep ⟨3, .data⟩ (by simp) rfl; simp only [PhiZmh] at d0; refine ⟨?_⟩; simp only [Act.put, sA, sB, sC, Nat.zero_add, Nat.reduceAdd, d0] at hK ⊢; go_simp; with_reducible refine hK _ _ (Below.refl _ _) ?_
     exact rfl
    ·as_aux_lemma =>
     intro vs W hS hdep K hK; have d0 := hdep ⟨4, .data⟩ (by simp) rfl; simp only [PhiZmh] at d0; have f1 := cell_keep hS D10; have f2 := cell_keep hS D11; refine ⟨?_⟩; simp only [Act.put, sA, sB, sC, Nat.zero_add, Nat.reduceAdd, d0] at hK ⊢; go_simp; with_reducible refine hK _ _ (Below.refl _ _) ?_
     exact rfl
    ·as_aux_lemma =>
     intro vs W hS hdep K hK; have d0 := hdep ⟨2, .data⟩ (by simp) rfl; simp only [PhiZmh] at d0; have d1 := hdep ⟨5, .data⟩ (by simp) rfl; simp only [PhiZmh] at d1; refine ⟨?_⟩; simp only [Act.put, sA, sB, sC, Nat.zero_add, Nat.reduceAdd, d0, d1] at hK ⊢; go_simp; refine (cmp_good _ _ (wI b rows low hgh mm 0) (wI b rows low hgh mm 1) _ (hz0.below hS) (hz1.below hS) (MOK.out.wv 0) (MOK.out.wv 1)).mono ?_; rintro e w' ⟨rfl, hb⟩; go_wp2_with fail; with_reducible refine hK _ _ hb ?_
     exact by show _ = _; rw [HCC.out]
    ·as_aux_lemma =>
     intro vs W hS hdep K hK; have d0 := hdep ⟨6, .data⟩ (by simp) rfl; simp only [PhiZmh] at d0; refine ⟨?_⟩; simp only [Act.put, sA, sB, sC, Nat.zero_add, Nat.reduceAdd, d0] at hK ⊢; go_simp; with_reducible refine hK _ _ (Below.refl _ _) ?_
     exact rfl
    ·as_aux_lemma =>
     intro vs W hS hdep K hK; have d0 := hdep ⟨7, .data⟩ (by simp) rfl; simp only [PhiZmh] at d0; refine ⟨?_⟩; simp only [Act.put, sA, sB, sC, Nat.zero_add, Nat.reduceAdd, d0] at hK ⊢; go_simp; with_reducible refine hK _ _ (Below.refl _ _) ?_
     exact rfl
    ·as_aux_lemma =>
     intro vs W hS hdep K hK; have d0 := hdep ⟨7, .data⟩ (by simp) rfl; simp only [PhiZmh] at d0; refine ⟨?_⟩; simp only [Act.put, sA, sB, sC, Nat.zero_add, Nat.reduceAdd, d0] at hK ⊢; go_simp; with_reducible refine hK _ _ (Below.refl _ _) ?_
     exact rfl
    ·as_aux_lemma =>
     intro vs W hS hdep K hK; have d0 := hdep ⟨8, .data⟩ (by simp) rfl; simp only [PhiZmh] at d0; refine ⟨?_⟩; simp only [Act.put, sA, sB, sC, Nat.zero_add, Nat.reduceAdd, d0] at hK ⊢; go_simp; with_reducible refine hK _ _ (Below.refl _ _) ?_
     exact rfl
    ·as_aux_lemma =>
     intro vs W hS hdep K hK; have d0 := hdep ⟨9, .data⟩ (by simp) rfl; simp only [PhiZmh] at d0; refine ⟨?_⟩; simp only [Act.put, sA, sB, sC, Nat.zero_add, Nat.reduceAdd, d0] at hK ⊢; go_simp; with_reducible refine hK _ _ (Below.refl _ _) ?_
     exact rfl
   intro vs w25 hb hv; have v10 := hv 10 (by simp); have v11 := hv 11 (by simp); simp only [PhiZmh] at v10 v11; simp only [Act.put, sA, sB, sC, Nat.zero_add, Nat.reduceAdd, v10, v11]; have d2 : decide (cb ≤ 0) = true := by have h := HCC.out; have h2 := MOK.out.a2; rw [← h] at h2; simpa using h2
   replace hx0 := hx0.below hb
   replace hx2 := hx2.below hb
   replace hz0 := hz0.below hb
   replace hz2 := hz2.below hb
   replace G00 := cell_keep hb G00
   replace G01 := cell_keep hb G01
   replace G20 := cell_keep hb G20
   replace G21 := cell_keep hb G21
   replace D00 := cell_keep hb D00
   replace D01 := cell_keep hb D01
   replace D20 := cell_keep hb D20
   replace D21 := cell_keep hb D21
   have hbw := Below.tr hbw hb; clear hv v10 v11 hb HCC hz1 D10 D11; obtain ⟨cc, HCC⟩ : ∃ c, Hid (c = cmpV (rI b rows qv low hgh mm 2) (rI b rows qv low hgh mm 0)) := ⟨_, rfl⟩; go_upto_region 26 with fail; refine region_invF (PhiZmh bR oR i cR (oR + 4) oR t1' t2' y1 y2 cc) (fun w w' => Below w.heap.size w w') (fun W => Below w25.heap.size w25 W) (by kernel_rfl) (by kernel_rfl) (by kernel_rfl) PhiZmh.keep (fun _ _ hR hS => Below.tr hS hR) (bD _) (fun vs => by simp only [fillR, Act.put, sA, sB, sC, Nat.zero_add, Nat.reduceAdd]; rfl) ?_ ?_
   ·refine sK ?_ (sK ?_ (sK ?_ (sK ?_ (sK ?_ (sK ?_ (sK ?_ (sK ?_ (sK ?_ (sK ?_ (sK ?_ (sK ?_ (sZ))))))))))))
    ·as_aux_lemma =>
     intro vs W hS hdep K hK; refine ⟨?_⟩; simp only [Act.put, sA, sB, sC, Nat.zero_add, Nat.reduceAdd] at hK ⊢; go_simp; with_reducible refine hK _ _ (Below.refl _ _) ?_
     exact rfl
    ·as_aux_lemma =>
     intro vs W hS hdep K hK; have d0 := hdep ⟨0, .data⟩ (by simp) rfl; simp only [PhiZmh] at d0; refine ⟨?_⟩; simp only [Act.put, sA, sB, sC, Nat.zero_add, Nat.reduceAdd, d0] at hK ⊢; go_simp; with_reducible refine hK _ _ (Below.refl _ _) ?_
     exact rfl
    ·as_aux_lemma =>
     intro vs W hS hdep K hK; have d0 := hdep ⟨1, .data⟩ (by simp) rfl; simp only [PhiZmh] at d0; have f1 := cell_keep hS G20; have f2 := cell_keep hS G21; refine ⟨?_⟩; simp only [Act.put, sA, sB, sC, Nat.zero_add, Nat.reduceAdd, d0] at hK ⊢; go_simp; with_reducible refine hK _ _ (Below.refl _ _) ?_
     exact rfl
    ·as_aux_lemma =>
     intro vs W hS hdep K hK; refine ⟨?_⟩; simp only [Act.put, sA, sB, sC, Nat.zero_add, Nat.reduceAdd] at hK ⊢; go_simp; with_reducible refine hK _ _ (Below.refl _ _) ?_
     exact rfl
    ·as_aux_lemma =>
     intro vs W hS hdep K hK; have d0 := hdep ⟨3, .data⟩ (by simp) rfl; simp only [PhiZmh] at d0; refine ⟨?_⟩; simp only [Act.put, sA, sB, sC, Nat.zero_add, Nat.reduceAdd, d0] at hK ⊢; go_simp; with_reducible refine hK _ _ (Below.refl _ _) ?_
     exact rfl
    ·as_aux_lemma =>
     intro vs W hS hdep K hK; have d0 := hdep ⟨4, .data⟩ (by simp) rfl; simp only [PhiZmh] at d0; have f1 := cell_keep hS G00; have f2 := cell_keep hS G01; refine ⟨?_⟩; simp only [Act.put, sA, sB, sC, Nat.zero_add, Nat.reduceAdd, d0] at hK ⊢; go_simp; with_reducible refine hK _ _ (Below.refl _ _) ?_
     exact rfl
    ·as_aux_lemma =>
     intro vs W hS hdep K hK; have d0 := hdep ⟨2, .data⟩ (by simp) rfl; simp only [PhiZmh] at d0; have d1 := hdep ⟨5, .data⟩ (by simp) rfl; simp only [PhiZmh] at d1; refine ⟨?_⟩; simp only [Act.put, sA, sB, sC, Nat.zero_add, Nat.reduceAdd, d0, d1] at hK ⊢; go_simp; refine (cmp_good _ _ (rI b rows qv low hgh mm 2) (rI b rows qv low hgh mm 0) _ (hx2.below hS) (hx0.below hS) (MOK.out.rv 2) (MOK.out.rv 0)).mono ?_; rintro e w' ⟨rfl, hb⟩; go_wp2_with fail; with_reducible refine hK _ _ hb ?_
     exact by show _ = _; rw [HCC.out]
    ·as_aux_lemma =>
     intro vs W hS hdep K hK; have d0 := hdep ⟨6, .data⟩ (by simp) rfl; simp only [PhiZmh] at d0; refine ⟨?_⟩; simp only [Act.put, sA, sB, sC, Nat.zero_add, Nat.reduceAdd, d0] at hK ⊢; go_simp; with_reducible refine hK _ _ (Below.refl _ _) ?_
     exact rfl
    ·as_aux_lemma =>
     intro vs W hS hdep K hK; have d0 := hdep ⟨7, .data⟩ (by simp) rfl; simp only [PhiZmh] at d0; refine ⟨?_⟩; simp only [Act.put, sA, sB, sC, Nat.zero_add, Nat.reduceAdd, d0] at hK ⊢; go_simp; with_reducible refine hK _ _ (Below.refl _ _) ?_
     exact rfl
    ·as_aux_lemma =>
     intro vs W hS hdep K hK; have d0 := hdep ⟨7, .data⟩ (by simp) rfl; simp only [PhiZmh] at d0; refine ⟨?_⟩; simp only [Act.put, sA, sB, sC, Nat.zero_add, Nat.reduceAdd, d0] at hK ⊢; go_simp; with_reducible refine hK _ _ (Below.refl _ _) ?_
     exact rfl
    ·as_aux_lemma =>
     intro vs W hS hdep K hK; have d0 := hdep ⟨8, .data⟩ (by simp) rfl; simp only [PhiZmh] at d0; refine ⟨?_⟩; simp only [Act.put, sA, sB, sC, Nat.zero_add, Nat.reduceAdd, d0] at hK ⊢; go_simp; with_reducible refine hK _ _ (Below.refl _ _) ?_
     exact rfl
    ·as_aux_lemma =>
     intro vs W hS hdep K hK; have d0 := hdep ⟨9, .data⟩ (by simp) rfl; simp only [PhiZmh] at d0; refine ⟨?_⟩; simp only [Act.put, sA, sB, sC, Nat.zero_add, Nat.reduceAdd, d0] at hK ⊢; go_simp; with_reducible refine hK _ _ (Below.refl _ _) ?_
     exact rfl
   intro vs w26 hb hv; have v10 := hv 10 (by simp); have v11 := hv 11 (by simp); simp only [PhiZmh] at v10 v11; simp only [Act.put, sA, sB, sC, Nat.zero_add, Nat.reduceAdd, v10, v11]; have d3 : decide (cc ≤ 0) = true := by have h := HCC.out; have h2 := MOK.out.b1; rw [← h] at h2; simpa using h2
   replace hz0 := hz0.below hb
   replace hz2 := hz2.below hb
   replace D00 := cell_keep hb D00
   replace D01 := cell_keep hb D01
   replace D20 := cell_keep hb D20
   replace D21 := cell_keep hb D21
   have hbw := Below.tr hbw hb; clear hv v10 v11 hb HCC hx0 hx2 G00 G01 G20 G21; obtain ⟨cd, HCC⟩ : ∃ c, Hid (c = cmpV (wI b rows low hgh mm 2) (wI b rows low hgh mm 0)) := ⟨_, rfl⟩; go_upto_region 27 with fail; refine region_invF (PhiZmh bW oW i cW (oW + 4) oW m1 m2 p1 p2 cd) (fun w w' => Below w.heap.size w w') (fun W => Below w26.heap.size w26 W) (by kernel_rfl) (by kernel_rfl) (by kernel_rfl) PhiZmh.keep (fun _ _ hR hS => Below.tr hS hR) (bD _) (fun vs => by simp only [fillR, Act.put, sA, sB, sC, Nat.zero_add, Nat.reduceAdd]; rfl) ?_ ?_
   ·refine sK ?_ (sK ?_ (sK ?_ (sK ?_ (sK ?_ (sK ?_ (sK ?_ (sK ?_ (sK ?_ (sK ?_ (sK ?_ (sK ?_ (sZ))))))))))))
    ·as_aux_lemma =>
     intro vs W hS hdep K hK; refine ⟨?_⟩; simp only [Act.put, sA, sB, sC, Nat.zero_add, Nat.reduceAdd] at hK ⊢; go_simp; with_reducible refine hK _ _ (Below.refl _ _) ?_
     exact rfl
    ·as_aux_lemma =>
     intro vs W hS hdep K hK; have d0 := hdep ⟨0, .data⟩ (by simp) rfl; simp only [PhiZmh] at d0; refine ⟨?_⟩; simp only [Act.put, sA, sB, sC, Nat.zero_add, Nat.reduceAdd, d0] at hK ⊢; go_simp; with_reducible refine hK _ _ (Below.refl _ _) ?_
     exact rfl
    ·as_aux_lemma =>
     intro vs W hS hdep K hK; have d0 := hdep ⟨1, .data⟩ (by simp) rfl; simp only [PhiZmh] at d0; have f1 := cell_keep hS D20; have f2 := cell_keep hS D21; refine ⟨?_⟩; simp only [Act.put, sA, sB, sC, Nat.zero_add, Nat.reduceAdd, d0] at hK ⊢; go_simp; with_reducible refine hK _ _ (Below.refl _ _) ?_
     exact rfl
    ·as_aux_lemma =>
     intro vs W hS hdep K hK; refine ⟨?_⟩; simp only [Act.put, sA, sB, sC, Nat.zero_add, Nat.reduceAdd] at hK ⊢; go_simp; with_reducible refine hK _ _ (Below.refl _ _) ?_
     exact rfl
    ·as_aux_lemma =>
     intro vs W hS hdep K hK; have d0 := hdep ⟨3, .data⟩ (by simp) rfl; simp only [PhiZmh] at d0; refine ⟨?_⟩; simp only [Act.put, sA, sB, sC, Nat.zero_add, Nat.reduceAdd, d0] at hK ⊢; go_simp; with_reducible refine hK _ _ (Below.refl _ _) ?_
     exact rfl
    ·as_aux_lemma =>
     intro vs W hS hdep K hK; have d0 := hdep ⟨4, .data⟩ (by simp) rfl; simp only [PhiZmh] at d0; have f1 := cell_keep hS D00; have f2 := cell_keep hS D01; refine ⟨?_⟩; simp only [Act.put, sA, sB, sC, Nat.zero_add, Nat.reduceAdd, d0] at hK ⊢; go_simp; with_reducible refine hK _ _ (Below.refl _ _) ?_
     exact rfl
    ·as_aux_lemma =>
     intro vs W hS hdep K hK; have d0 := hdep ⟨2, .data⟩ (by simp) rfl; simp only [PhiZmh] at d0; have d1 := hdep ⟨5, .data⟩ (by simp) rfl; simp only [PhiZmh] at d1; refine ⟨?_⟩; simp only [Act.put, sA, sB, sC, Nat.zero_add, Nat.reduceAdd, d0, d1] at hK ⊢; go_simp; refine (cmp_good _ _ (wI b rows low hgh mm 2) (wI b rows low hgh mm 0) _ (hz2.below hS) (hz0.below hS) (MOK.out.wv 2) (MOK.out.wv 0)).mono ?_; rintro e w' ⟨rfl, hb⟩; go_wp2_with fail; with_reducible refine hK _ _ hb ?_
     exact by show _ = _; rw [HCC.out]
    ·as_aux_lemma =>
     intro vs W hS hdep K hK; have d0 := hdep ⟨6, .data⟩ (by simp) rfl; simp only [PhiZmh] at d0; refine ⟨?_⟩; simp only [Act.put, sA, sB, sC, Nat.zero_add, Nat.reduceAdd, d0] at hK ⊢; go_simp; with_reducible refine hK _ _ (Below.refl _ _) ?_
     exact rfl
    ·as_aux_lemma =>
     intro vs W hS hdep K hK; have d0 := hdep ⟨7, .data⟩ (by simp) rfl; simp only [PhiZmh] at d0; refine ⟨?_⟩; simp only [Act.put, sA, sB, sC, Nat.zero_add, Nat.reduceAdd, d0] at hK ⊢; go_simp; with_reducible refine hK _ _ (Below.refl _ _) ?_
     exact rfl
    ·as_aux_lemma =>
     intro vs W hS hdep K hK; have d0 := hdep ⟨7, .data⟩ (by simp) rfl; simp only [PhiZmh] at d0; refine ⟨?_⟩; simp only [Act.put, sA, sB, sC, Nat.zero_add, Nat.reduceAdd, d0] at hK ⊢; go_simp; with_reducible refine hK _ _ (Below.refl _ _) ?_
     exact rfl
    ·as_aux_lemma =>
     intro vs W hS hdep K hK; have d0 := hdep ⟨8, .data⟩ (by simp) rfl; simp only [PhiZmh] at d0; refine ⟨?_⟩; simp only [Act.put, sA, sB, sC, Nat.zero_add, Nat.reduceAdd, d0] at hK ⊢; go_simp; with_reducible refine hK _ _ (Below.refl _ _) ?_
     exact rfl
    ·as_aux_lemma =>
     intro vs W hS hdep K hK; have d0 := hdep ⟨9, .data⟩ (by simp) rfl; simp only [PhiZmh] at d0; refine ⟨?_⟩; simp only [Act.put, sA, sB, sC, Nat.zero_add, Nat.reduceAdd, d0] at hK ⊢; go_simp; with_reducible refine hK _ _ (Below.refl _ _) ?_
     exact rfl
   intro vs w27 hb hv; have v10 := hv 10 (by simp); have v11 := hv 11 (by simp); simp only [PhiZmh] at v10 v11; simp only [Act.put, sA, sB, sC, Nat.zero_add, Nat.reduceAdd, v10, v11]; have d4 : decide (cd ≤ 0) = true := by have h := HCC.out; have h2 := MOK.out.b2; rw [← h] at h2; simpa using h2
   replace hbw := Below.tr hbw hb
   clear hv v10 v11 hb HCC hz0 hz2 D00 D01 D20 D21; go_wp2_with fail; refine (lives17_n _).mono ?_; rintro e w' ⟨rfl, hb⟩; go_wp2_with fail; go_ret; exact ⟨rfl, Below.tr hbw hb⟩
end Go.Proofs.Ytnjjdiilkhdbeaa
