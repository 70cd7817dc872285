import Derived.Test.YtnjjdiilkhdbeaaKCutProof17
import Derived.Test.YtnjjdiilkhdbeaaKCutProof19
import Derived.Test.YtnjjdiilkhdbeaaS0
set_option linter.unusedVariables false
set_option linter.unusedSimpArgs false
namespace Go.Proofs.Ytnjjdiilkhdbeaa
open Go Go.RowKit
def oneP : LP := ratP 1 1
noncomputable def addV (a b : LP) : LP := (addF a b).2
noncomputable def subV (a b : LP) : LP := (subF a b).2
noncomputable def mulV (a b : LP) : LP := (mulF a b).2
def fewB (l : List Nat) : Bool := decide (l.length = 0) || (decide (l.length = 1) && decide (l.getD 0 0 ≤ 255))
def smallB (x : LP) : Bool := decide (validP x = 0) && (fewB x.1 && fewB x.2)
def cmpV (a b : LP) : Int := if firstE (validP a) (validP b) ≠ 0 then 0 else Nm.cmpN ((numL a).1 * (numL b).2) ((numL b).1 * (numL a).2)
def atB (a b : LP) : Bool := decide (cmpV a b ≤ 0)
def partB (x : LP) : Bool := smallB x && atB x oneP
theorem cmpV_rat {pa qa pb qb : Nat} (ga : Nm.Good pa qa) (gb : Nm.Good pb qb) : cmpV (ratP pa qa) (ratP pb qb) = Nm.cmpN (pa * qb) (pb * qa) := by
 unfold cmpV; rw [if_neg (by rw [valid_rat ga, valid_rat gb]; simp [firstE]), numL_rat ga, numL_rat gb]
/-- what an operation may do to the world: rows of limbs last -/
structure RT (N : Nat) (w w' : World) : Prop where
 be : Below N w w'
 lim : ∀ A c l, Lim w A c l → Lim w' A c l
 sl : ∀ g, Sl w g → Sl w' g
theorem RT.refl (N : Nat) (w : World) : RT N w w := ⟨Below.refl _ _, fun _ _ _ h => h, fun _ h => h⟩
theorem RT.below {N : Nat} {w w' : World} (hb : Below w.heap.size w w') (hN : N ≤ w.heap.size) : RT N w w' := ⟨hb.mono hN, fun _ _ _ h => h.below hb, fun _ h => h.below hb⟩
theorem RT.store {N g : Nat} {w : World} (hs : Sl w g) (hg : N ≤ g) (A : Option Addr) (k c : Nat) (A' : Option Addr) (k' c' : Nat) : RT N w ((w.setCell ⟨g, 0, none⟩ (.slice A k c)).setCell ⟨g, 1, none⟩ (.slice A' k' c')) :=
 ⟨(RS.store hs hg A k c A' k' c').be, fun _ _ _ h => (h.setSl hs _).setSl (hs.set0 A k c) _, (RS.store hs hg A k c A' k' c').sl⟩
theorem RtP.mapL {w w' : World} {v : Value} {x : LP} (h : RtP w v x) (hm : ∀ A c l, Lim w A c l → Lim w' A c l) : RtP w' v x := by
 obtain ⟨A1, k1, c1, A2, k2, c2, rfl, h1, h2, e1, e2⟩ := h; exact ⟨A1, k1, c1, A2, k2, c2, rfl, hm _ _ _ h1, hm _ _ _ h2, e1, e2⟩
/-- the call returns a ratio out of the block of its result -/
theorem ret_ratio {w0 w : World} {v : Value} {x : LP} {g : Nat} (h : RtP w v x) (hs : Sl w g) (hg : w0.heap.size ≤ g) (hb : Below w0.heap.size w0 w) :
  ∃ A k c A' k' c', v = .agg #[.slice A k c, .slice A' k' c'] ∧ (∃ a, w.cell? ⟨g, 0, none⟩ = some a) ∧ (∃ a, w.cell? ⟨g, 1, none⟩ = some a) ∧ w.frozen? ⟨g, 0, none⟩ = false ∧ w.frozen? ⟨g, 1, none⟩ = false ∧
   ((w.setCell ⟨g, 0, none⟩ (.slice A k c)).setCell ⟨g, 1, none⟩ (.slice A' k' c')).cell? ⟨g, 0, none⟩ = some (.slice A k c) ∧ ((w.setCell ⟨g, 0, none⟩ (.slice A k c)).setCell ⟨g, 1, none⟩ (.slice A' k' c')).cell? ⟨g, 1, none⟩ = some (.slice A' k' c') ∧
   RtP ((w.setCell ⟨g, 0, none⟩ (.slice A k c)).setCell ⟨g, 1, none⟩ (.slice A' k' c')) (.agg #[.slice A k c, .slice A' k' c']) x ∧ Below w0.heap.size w0 ((w.setCell ⟨g, 0, none⟩ (.slice A k c)).setCell ⟨g, 1, none⟩ (.slice A' k' c')) := by
 obtain ⟨A, k, c, A', k', c', rfl⟩ := h.shape; have hrt := RT.store (N := w0.heap.size) hs hg A k c A' k' c'; obtain ⟨q1, q2, q3, q4⟩ := hs.facts; obtain ⟨a1, b1, c1, a2, b2, c2, hblk⟩ := hs; have hb2 := (hblk.set_ 0 (.slice A k c)).set_ 1 (.slice A' k' c'); exact ⟨A, k, c, A', k', c', rfl, q1, q2, q3, q4, by rw [hb2.cell]; rfl, by rw [hb2.cell]; rfl, h.mapL hrt.lim, hb.trans hrt.be⟩
set_option maxHeartbeats 400000 in
theorem wone_n (w : World) : Calls Try.prog 47 #[] w fun e w' => ∃ v, e = .returned v ∧ Rat w' v 1 1 ∧ Below w.heap.size w w' := by
 go_enter Try.func47, Try.ntmps47
 go_wp2
 exact bodyPost_ret (v := .agg #[.slice (some ⟨w.heap.size + 1, 0, none⟩) 1 1, .slice none 0 0]) (by simp [results, Try.results47, go_sem]) rfl ⟨_, rfl, unit_rat _ _ (Nb.one _ _ (by simp)), Below.tr (bA _ _) (bA _ _)⟩
theorem wone_F (w : World) : Calls Try.prog 47 #[] w fun e w' => ∃ v, e = .returned v ∧ RtP w' v oneP ∧ Below w.heap.size w w' := by
 refine (wone_n w).mono ?_; rintro e w' ⟨v, rfl, h, hb⟩; exact ⟨v, rfl, h.rtP, hb⟩
set_option maxHeartbeats 400000 in
theorem rone17_n (w : World) : Calls Try.prog 55 #[] w fun e w' => ∃ v, e = .returned v ∧ Rat w' v 1 1 ∧ Below w.heap.size w w' := by
 go_enter Try.func55, Try.ntmps55
 go_wp2
 exact bodyPost_ret (v := .agg #[.slice (some ⟨w.heap.size + 1, 0, none⟩) 1 1, .slice none 0 0]) (by simp [results, Try.results55, go_sem]) rfl ⟨_, rfl, unit_rat _ _ (Nb.one _ _ (by simp)), Below.tr (bA _ _) (bA _ _)⟩
theorem rone17_F (w : World) : Calls Try.prog 55 #[] w fun e w' => ∃ v, e = .returned v ∧ RtP w' v oneP ∧ Below w.heap.size w w' := by
 refine (rone17_n w).mono ?_; rintro e w' ⟨v, rfl, h, hb⟩; exact ⟨v, rfl, h.rtP, hb⟩
set_option maxRecDepth 10000 in
set_option maxHeartbeats 400000 in
theorem sure_F (va : Value) (e0 : Int) (x : LP) (w : World) (h : RtP w va x) : Calls Try.prog 45 #[va, .int .i64 e0] w fun e w' => ∃ v, e = .returned v ∧ RtP w' v x ∧ Below w.heap.size w w' := by
 obtain ⟨A1, k1, c1, A2, k2, c2, rfl⟩ := h.shape
 go_enter Try.func45, Try.ntmps45
 go_upto_region 1 with fail; refine wp_name ?_; intro w1 HW1; have hb1 : Below w.heap.size w w1 := by rw [HW1.out]; exact Below.tr (bA _ _) (bA _ _)
 have hx : Box w1 w.heap.size (.slice A1 k1 c1) (.slice A2 k2 c2) := by rw [HW1.out]; exact Box.below (Blk.new w _ _) (bA _ _)
 have hs : Sl w1 (w.heap.size + 1) := by
  rw [HW1.out]; have := Blk.new (w.alloc (.cells #[.slice A1 k1 c1, .slice A2 k2 c2] 25)) 25 #[.slice none 0 0, .slice none 0 0]; exact ⟨none, 0, 0, none, 0, 0, by simpa using this⟩
 clear HW1; obtain ⟨f1, f2⟩ := hx.facts; obtain ⟨A, k, c, A', k', c', he, ⟨a1, q1⟩, ⟨a2, q2⟩, q3, q4, z1, z2, hr, hb⟩ := ret_ratio (h.below hb1) hs (by omega) hb1; simp only [Value.agg.injEq, Array.mk.injEq, List.cons.injEq, and_true, Value.slice.injEq] at he; obtain ⟨⟨rfl, rfl, rfl⟩, rfl, rfl, rfl⟩ := he; clear hx hs hb1; go_wp2_with fail; exact bodyPost_ret (v := .agg #[.slice A1 k1 c1, .slice A2 k2 c2]) (by simp [results, Try.results45, go_sem, z1, z2]) rfl ⟨_, rfl, hr, hb⟩
theorem surei_F (n e0 : Int) (w : World) : Calls Try.prog 72 #[.int .i64 n, .int .i64 e0] w fun e w' => e = .returned (.int .i64 n) ∧ w' = w := by
 go_enter Try.func72, Try.ntmps72
 go_wp2
 go_ret; exact ⟨rfl, rfl⟩
set_option maxRecDepth 10000 in
set_option maxHeartbeats 400000 in
theorem few_F (A : Option Addr) (k c : Nat) (l : List Nat) (w : World) (h : Lim w A c l) (hk : k = l.length) : Calls Try.prog 90 #[.slice A k c] w fun e w' => e = .returned (.bool (fewB l)) ∧ Below w.heap.size w w' := by
 have HF : Hid (∀ b, b = fewB l → Ending.returned (.bool b) = .returned (.bool (fewB l))) := fun b e => by rw [e]
 have hkm : (k : Int) ≤ 9223372036854775807 := by have := h.2.1; have := h.2.2.1; omega
 by_cases h0 : l.length = 0
 ·obtain rfl : k = 0 := by omega
  have hf : fewB l = true := by unfold fewB; simp [h0]
  rw [hf]; clear HF hf h0 hk h hkm
  go_enter Try.func90, Try.ntmps90
  go_wp2_with fail; go_ret; exact ⟨rfl, Below.refl _ _⟩
 ·have t0 : ((k : Int) == 0) = false := by simp; omega
  by_cases h1 : l.length = 1
  ·obtain rfl : k = 1 := by omega
   obtain ⟨b, off, a, rfl, hc, ha, HA⟩ := h.get (k := 0) (by omega); rw [Nat.add_zero] at hc
   have hf : fewB l = decide ((a : Int) ≤ 255) := by
    unfold fewB; rw [HA, Bool.eq_iff_iff]; simp [h0, h1]; omega
   rw [hf]; clear HF hf HA h0 h1 hk h
   go_enter Try.func90, Try.ntmps90
   go_wp2_with fail; go_ret; exact ⟨rfl, Below.refl _ _⟩
  ·have t1 : ((k : Int) == 1) = false := by simp; omega
   have hf : fewB l = false := by unfold fewB; simp [h0, h1]
   rw [hf]; clear HF hf h0 h1 hk h
   go_enter Try.func90, Try.ntmps90
   go_wp2_with fail; go_ret; exact ⟨rfl, Below.refl _ _⟩
end Go.Proofs.Ytnjjdiilkhdbeaa
namespace Go.Proofs.Ytnjjdiilkhdbeaa
open Go Go.RowKit
theorem smallB_and {x : LP} (h : smallB x = true) : validP x = 0 ∧ fewB x.1 = true ∧ fewB x.2 = true := by
 unfold smallB at h
 simpa using h
set_option maxRecDepth 10000 in
set_option maxHeartbeats 1000000 in
theorem small_F (va : Value) (x : LP) (w : World) (h : RtP w va x) : Calls Try.prog 69 #[va] w fun e w' => e = .returned (.bool (smallB x)) ∧ Below w.heap.size w w' := by
 obtain ⟨A1, k1, c1, A2, k2, c2, rfl⟩ := h.shape; obtain ⟨W, HW⟩ : ∃ W, Hid (W = w.alloc (.cells #[.slice A1 k1 c1, .slice A2 k2 c2] 25)) := ⟨_, rfl⟩; have hb1 : Below w.heap.size w W := by rw [HW.out]; exact bA _ _
 have hx : Box W w.heap.size (.slice A1 k1 c1) (.slice A2 k2 c2) := by rw [HW.out]; exact Blk.new _ _ _
 have h1 := h.below hb1
 go_enter Try.func69, Try.ntmps69
 go_wp2_with fail; rw [← HW.out]; refine (valid_v h1).mono ?_; rintro e W2 ⟨E, rfl, HE, hb2⟩; have hb := Below.tr hb1 hb2; have hx := hx.below hb2; obtain ⟨f1, f2⟩ := hx.facts; obtain ⟨_, _, _, _, _, _, he, l1, l2, e1, e2⟩ := h1.below hb2; simp only [Value.agg.injEq, Array.mk.injEq, List.cons.injEq, and_true, Value.slice.injEq] at he; obtain ⟨⟨rfl, rfl, rfl⟩, rfl, rfl, rfl⟩ := he; have E1 := Lib.hid e1; have E2 := Lib.hid e2; clear h1 hb1 HW h hb2 e1 e2; by_cases hE : E = 0
 ·have t0 : (E == 0) = true := by simpa using hE
  have HS : Hid (smallB x = (fewB x.1 && fewB x.2)) := by
   have hv : validP x = 0 := HE.out.symm.trans hE
   show _ = _; unfold smallB; rw [hv]; simp
  obtain ⟨F1, HF1⟩ : ∃ b, Hid (b = fewB x.1) := ⟨_, rfl⟩; obtain ⟨F2, HF2⟩ : ∃ b, Hid (b = fewB x.2) := ⟨_, rfl⟩; clear hE HE; go_wp2_with fail; refine (few_F _ _ _ x.1 _ l1 E1.out).mono ?_; rintro e W3 ⟨rfl, hb3⟩; rw [← HF1.out]; have hb := Below.tr hb hb3; have hx := hx.below hb3; have l2 := l2.below hb3; clear f1 f2 l1
  cases F1
  ·go_wp2_with fail; go_ret; exact ⟨by rw [HS.out, ← HF1.out]; rfl, hb⟩
  ·obtain ⟨f1, f2⟩ := hx.facts; go_wp2_with fail; refine (few_F _ _ _ x.2 _ l2 E2.out).mono ?_; rintro e W4 ⟨rfl, hb4⟩; rw [← HF2.out]; have hb := Below.tr hb hb4; clear f1 f2; go_wp2_with fail; go_ret; exact ⟨by rw [HS.out, ← HF1.out, ← HF2.out]; cases F2 <;> rfl, hb⟩
 ·have t0 : (E == 0) = false := by simpa using hE
  have HS : Hid (smallB x = false) := by
   show _ = _; unfold smallB
   have hv : ¬ validP x = 0 := fun e => hE (HE.out.trans e)
   simp [hv]
  clear hE HE f1 f2; go_wp2_with fail; go_ret; exact ⟨by rw [HS.out]; rfl, hb⟩
set_option maxRecDepth 10000 in
set_option maxHeartbeats 1000000 in
theorem cmp_F (va vb : Value) (a b : LP) (w : World) (ha : RtP w va a) (hb : RtP w vb b) : Calls Try.prog 17 #[va, vb] w fun e w' => e = .returned (.tuple #[.int .i64 (cmpV a b), .int .i64 (firstE (validP a) (validP b))]) ∧ Below w.heap.size w w' := by
 by_cases h : firstE (validP a) (validP b) = 0
 ·obtain ⟨e1, e2⟩ := firstE_zero.1 h; obtain ⟨pa, qa, rfl, ga, ra⟩ := ha.good e1; obtain ⟨pb, qb, rfl, gb, rb⟩ := hb.good e2; rw [cmpV_rat ga gb, h]; exact cmp_n va vb pa qa pb qb w ra rb ga gb
 ·have hc : cmpV a b = 0 := if_pos h; rw [hc]; obtain ⟨A1, k1, c1, A2, k2, c2, rfl⟩ := ha.shape; obtain ⟨B1, m1, d1, B2, m2, d2, rfl⟩ := hb.shape; obtain ⟨W1, HW1⟩ : ∃ W1, Hid (W1 = (w.alloc (.cells #[.slice A1 k1 c1, .slice A2 k2 c2] 25)).alloc (.cells #[.slice B1 m1 d1, .slice B2 m2 d2] 25)) := ⟨_, rfl⟩; have hbw1 : Below w.heap.size w W1 := by rw [HW1.out]; exact Below.tr (bA _ _) (bA _ _)
  obtain ⟨W, HW⟩ : ∃ W, Hid (W = W1.alloc (.cells #[.slice A1 k1 c1, .slice A2 k2 c2, .slice B1 m1 d1, .slice B2 m2 d2] 25)) := ⟨_, rfl⟩
  have hp : Pair W (w.heap.size + 2) (.slice A1 k1 c1) (.slice A2 k2 c2) (.slice B1 m1 d1) (.slice B2 m2 d2) := by
   have := Blk.new W1 25 #[.slice A1 k1 c1, .slice A2 k2 c2, .slice B1 m1 d1, .slice B2 m2 d2]; rw [HW.out]; have e : W1.heap.size = w.heap.size + 2 := by rw [HW1.out]; simp
   rw [e] at this; exact this
  have hbw : Below w.heap.size w W := by rw [HW.out]; exact Below.tr hbw1 (bA _ _)
  have ha1 := ha.below hbw; have hb1 := hb.below hbw
  go_enter Try.func17, Try.ntmps17
  go_wp2_with fail; rw [← HW1.out, ← HW.out]; refine (valid2_any _ _ _ _ _ a.1 a.2 b.1 b.2 _ hp ha1 hb1).mono ?_; rintro e W2 ⟨E, rfl, HE, hbe⟩; have h0 : (E != 0) = true := by rw [HE.out]; simpa [validP] using h
  have HEE : Hid (E = firstE (validP a) (validP b)) := HE; clear h hc ha1 hb1 hp HW HW1 ha hb hbw1 HE; go_wp2_with fail
  go_ret2
  exact ⟨by rw [← HEE.out]; rfl, Below.tr hbw hbe⟩
set_option maxRecDepth 10000 in
set_option maxHeartbeats 1000000 in
theorem atMost_F (va vb : Value) (a b : LP) (w : World) (ha : RtP w va a) (hb : RtP w vb b) : Calls Try.prog 42 #[va, vb] w fun e w' => e = .returned (.bool (atB a b)) ∧ Below w.heap.size w w' := by
 obtain ⟨A1, k1, c1, A2, k2, c2, rfl⟩ := ha.shape; obtain ⟨B1, m1, d1, B2, m2, d2, rfl⟩ := hb.shape; obtain ⟨W1, HW1⟩ : ∃ W1, Hid (W1 = (w.alloc (.cells #[.slice A1 k1 c1, .slice A2 k2 c2] 25)).alloc (.cells #[.slice B1 m1 d1, .slice B2 m2 d2] 25)) := ⟨_, rfl⟩; have hbw : Below w.heap.size w W1 := by rw [HW1.out]; exact Below.tr (bA _ _) (bA _ _)
 obtain ⟨C, HC⟩ : ∃ C, Hid (C = cmpV a b) := ⟨_, rfl⟩; have HR : Hid (atB a b = decide (C ≤ 0)) := by show _ = _; rw [HC.out]; rfl
 go_enter Try.func42, Try.ntmps42
 go_wp2_with fail; rw [← HW1.out]; refine (cmp_F _ _ a b _ (ha.below hbw) (hb.below hbw)).mono ?_; rintro e W2 ⟨rfl, hb2⟩; rw [← HC.out]; clear ha hb HW1; go_wp2_with fail; refine (surei_F _ _ _).mono ?_; rintro e W3 ⟨rfl, rfl⟩; go_wp2_with fail; go_ret; exact ⟨by rw [HR.out]; rfl, Below.tr hbw hb2⟩
def PhiwpartY (s1 s2 : Value) (B : Bool) (j : Nat) (w : World) (x : Value) : Prop :=
 match j with
 | 0 => x = .agg #[s1, s2]
 | 1 => x = .bool true
 | 2 => x = .bool true
 | 3 => x = .agg #[s1, s2]
 | 4 => RtP w x oneP
 | 5 => x = .bool B
 | 6 => x = .bool B
 | 7 => x = .bool B
 | _ => True
def PhiwpartN (s1 s2 : Value) (j : Nat) (w : World) (x : Value) : Prop :=
 match j with
 | 0 => x = .agg #[s1, s2]
 | 1 => x = .bool false
 | 2 => x = .bool false
 | 3 => x = undef
 | 4 => x = undef
 | 5 => x = undef
 | 6 => x = .bool false
 | 7 => x = .bool false
 | _ => True
theorem PhiwpartY.keep {s1 s2 : Value} {B : Bool} : ∀ (w w' : World), Below w.heap.size w w' → ∀ j x, PhiwpartY s1 s2 B j w x → PhiwpartY s1 s2 B j w' x := by
 intro w w' hb j x h; unfold PhiwpartY at h ⊢
 split <;> simp only at h ⊢ <;> first | exact h | exact h.below hb
set_option maxRecDepth 10000 in
set_option maxHeartbeats 2000000 in
theorem wpart_F (va : Value) (x : LP) (w : World) (h : RtP w va x) : Calls Try.prog 36 #[va] w fun e w' => e = .returned (.bool (partB x)) ∧ Below w.heap.size w w' := by
 obtain ⟨A1, k1, c1, A2, k2, c2, rfl⟩ := h.shape; obtain ⟨W, HW⟩ : ∃ W, Hid (W = w.alloc (.cells #[.slice A1 k1 c1, .slice A2 k2 c2] 25)) := ⟨_, rfl⟩; have hb1 : Below w.heap.size w W := by rw [HW.out]; exact bA _ _
 have hx : Box W w.heap.size (.slice A1 k1 c1) (.slice A2 k2 c2) := by rw [HW.out]; exact Blk.new _ _ _
 have h1 := h.below hb1
 go_enter Try.func36, Try.ntmps36
 go_upto_region 1 with fail; rw [← HW.out]; obtain ⟨B, HB⟩ : ∃ B, Hid (B = atB x oneP) := ⟨_, rfl⟩; by_cases hsm : smallB x = true
 ·have HP : Hid (partB x = B) := by show _ = _; unfold partB; rw [hsm, HB.out]; rfl
  have hvx := (smallB_and hsm).1; have HB : Hid (atB x oneP = B) := HB.out.symm; clear HW h; refine region_invc (PhiwpartY (.slice A1 k1 c1) (.slice A2 k2 c2) B) (fun w w' => Below w.heap.size w w') (fun W' => Below W.heap.size W W') (by kernel_rfl) (by kernel_rfl) (by kernel_rfl) PhiwpartY.keep (fun _ _ hR hS => Below.tr hS hR) (bD _) ?_ ?_
  ·refine sK ?_ (sK ?_ (sK ?_ (sK ?_ (sK ?_ (sK ?_ (sK ?_ (sK ?_ (sZ))))))))
   ·intro vs W hS hdep K hK; have f1 := (hx.below hS).facts.1; have f2 := (hx.below hS).facts.2; refine ⟨?_⟩; simp only [fillR, Act.put, sA, sB, sC, Nat.zero_add, Nat.reduceAdd] at hK ⊢; go_simp; with_reducible refine hK _ _ (Below.refl _ _) ?_
    exact rfl
   ·intro vs W hS hdep K hK; have d0 := hdep ⟨0, .data⟩ (by simp) rfl; simp only [PhiwpartY] at d0; refine ⟨?_⟩; simp only [fillR, Act.put, sA, sB, sC, Nat.zero_add, Nat.reduceAdd, d0] at hK ⊢; go_simp; refine (small_F _ x _ (h1.below hS)).mono ?_; rintro e w' ⟨rfl, hb⟩; rw [hsm]; go_wp2_with fail; with_reducible refine hK _ _ hb ?_
    exact rfl
   ·intro vs W hS hdep K hK; have d0 := hdep ⟨1, .data⟩ (by simp) rfl; simp only [PhiwpartY] at d0; refine ⟨?_⟩; simp only [fillR, Act.put, sA, sB, sC, Nat.zero_add, Nat.reduceAdd, d0] at hK ⊢; go_simp; with_reducible refine hK _ _ (Below.refl _ _) ?_
    exact rfl
   ·intro vs W hS hdep K hK; have d0 := hdep ⟨2, .guard⟩ (by simp) rfl; simp only [PhiwpartY] at d0; have f1 := (hx.below hS).facts.1; have f2 := (hx.below hS).facts.2; refine ⟨?_⟩; simp only [fillR, Act.put, sA, sB, sC, Nat.zero_add, Nat.reduceAdd, d0] at hK ⊢; go_simp; with_reducible refine hK _ _ (Below.refl _ _) ?_
    exact rfl
   ·intro vs W hS hdep K hK; have d0 := hdep ⟨2, .guard⟩ (by simp) rfl; simp only [PhiwpartY] at d0; refine ⟨?_⟩; simp only [fillR, Act.put, sA, sB, sC, Nat.zero_add, Nat.reduceAdd, d0] at hK ⊢; go_simp; refine (wone_F _).mono ?_; rintro e w' ⟨v, rfl, hv, hb⟩; go_wp2_with fail; with_reducible refine hK _ _ hb ?_
    exact hv
   ·intro vs W hS hdep K hK; have d0 := hdep ⟨2, .guard⟩ (by simp) rfl; simp only [PhiwpartY] at d0; have d1 := hdep ⟨3, .data⟩ (by simp) rfl; simp only [PhiwpartY] at d1; have d2 := hdep ⟨4, .data⟩ (by simp) rfl; simp only [PhiwpartY] at d2; have r2 := d2; clear d2; refine ⟨?_⟩; simp only [fillR, Act.put, sA, sB, sC, Nat.zero_add, Nat.reduceAdd, d0, d1] at hK ⊢; go_simp; refine (atMost_F _ _ x oneP _ (h1.below hS) r2).mono ?_; rintro e w' ⟨rfl, hb⟩; rw [HB.out]; go_wp2_with fail; with_reducible refine hK _ _ hb ?_
    exact rfl
   ·intro vs W hS hdep K hK; have d0 := hdep ⟨2, .data⟩ (by simp) rfl; simp only [PhiwpartY] at d0; have d1 := hdep ⟨5, .data⟩ (by simp) rfl; simp only [PhiwpartY] at d1; refine ⟨?_⟩; simp only [fillR, Act.put, sA, sB, sC, Nat.zero_add, Nat.reduceAdd, d0, d1] at hK ⊢; go_simp; with_reducible refine hK _ _ (Below.refl _ _) ?_
    exact rfl
   ·intro vs W hS hdep K hK; have d0 := hdep ⟨6, .data⟩ (by simp) rfl; simp only [PhiwpartY] at d0; refine ⟨?_⟩; simp only [fillR, Act.put, sA, sB, sC, Nat.zero_add, Nat.reduceAdd, d0] at hK ⊢; go_simp; with_reducible refine hK _ _ (Below.refl _ _) ?_
    exact rfl
  ·intro vs W3 hS hv; have vz := hv 7 (by simp); simp only [PhiwpartY] at vz; simp only [fillR, Act.put, sA, sB, sC, Nat.zero_add, Nat.reduceAdd, vz]; clear hv vz; go_wp2_with fail; go_ret; exact ⟨by rw [HP.out]; rfl, Below.tr hb1 hS⟩
 ·have hsm : smallB x = false := by simpa using hsm
  have HP : Hid (partB x = false) := by show _ = _; unfold partB; rw [hsm]; rfl
  clear HW h HB; refine region_invc (PhiwpartN (.slice A1 k1 c1) (.slice A2 k2 c2)) (fun w w' => Below w.heap.size w w') (fun W' => Below W.heap.size W W') (by kernel_rfl) (by kernel_rfl) (by kernel_rfl) (fun _ _ _ _ _ h => h) (fun _ _ hR hS => Below.tr hS hR) (bD _) ?_ ?_
  ·refine sK ?_ (sK ?_ (sK ?_ (sK ?_ (sK ?_ (sK ?_ (sK ?_ (sK ?_ (sZ))))))))
   ·intro vs W hS hdep K hK; have f1 := (hx.below hS).facts.1; have f2 := (hx.below hS).facts.2; refine ⟨?_⟩; simp only [fillR, Act.put, sA, sB, sC, Nat.zero_add, Nat.reduceAdd] at hK ⊢; go_simp; with_reducible refine hK _ _ (Below.refl _ _) ?_
    exact rfl
   ·intro vs W hS hdep K hK; have d0 := hdep ⟨0, .data⟩ (by simp) rfl; simp only [PhiwpartN] at d0; refine ⟨?_⟩; simp only [fillR, Act.put, sA, sB, sC, Nat.zero_add, Nat.reduceAdd, d0] at hK ⊢; go_simp; refine (small_F _ x _ (h1.below hS)).mono ?_; rintro e w' ⟨rfl, hb⟩; rw [hsm]; go_wp2_with fail; with_reducible refine hK _ _ hb ?_
    exact rfl
   ·intro vs W hS hdep K hK; have d0 := hdep ⟨1, .data⟩ (by simp) rfl; simp only [PhiwpartN] at d0; refine ⟨?_⟩; simp only [fillR, Act.put, sA, sB, sC, Nat.zero_add, Nat.reduceAdd, d0] at hK ⊢; go_simp; with_reducible refine hK _ _ (Below.refl _ _) ?_
    exact rfl
   ·intro vs W hS hdep K hK; have d0 := hdep ⟨2, .guard⟩ (by simp) rfl; simp only [PhiwpartN] at d0; refine ⟨?_⟩; simp only [fillR, Act.put, sA, sB, sC, Nat.zero_add, Nat.reduceAdd, d0] at hK ⊢; go_simp
    try rw [if_neg (by simp [undef])]
    with_reducible refine hK _ _ (Below.refl _ _) ?_
    exact rfl
   ·intro vs W hS hdep K hK; have d0 := hdep ⟨2, .guard⟩ (by simp) rfl; simp only [PhiwpartN] at d0; refine ⟨?_⟩; simp only [fillR, Act.put, sA, sB, sC, Nat.zero_add, Nat.reduceAdd, d0] at hK ⊢; go_simp
    try rw [if_neg (by simp [undef])]
    with_reducible refine hK _ _ (Below.refl _ _) ?_
    exact rfl
   ·intro vs W hS hdep K hK; have d0 := hdep ⟨2, .guard⟩ (by simp) rfl; simp only [PhiwpartN] at d0; refine ⟨?_⟩; simp only [fillR, Act.put, sA, sB, sC, Nat.zero_add, Nat.reduceAdd, d0] at hK ⊢; go_simp
    try rw [if_neg (by simp [undef])]
    with_reducible refine hK _ _ (Below.refl _ _) ?_
    exact rfl
   ·intro vs W hS hdep K hK; have d0 := hdep ⟨2, .data⟩ (by simp) rfl; simp only [PhiwpartN] at d0; refine ⟨?_⟩; simp only [fillR, Act.put, sA, sB, sC, Nat.zero_add, Nat.reduceAdd, d0] at hK ⊢; go_simp; with_reducible refine hK _ _ (Below.refl _ _) ?_
    exact rfl
   ·intro vs W hS hdep K hK; have d0 := hdep ⟨6, .data⟩ (by simp) rfl; simp only [PhiwpartN] at d0; refine ⟨?_⟩; simp only [fillR, Act.put, sA, sB, sC, Nat.zero_add, Nat.reduceAdd, d0] at hK ⊢; go_simp; with_reducible refine hK _ _ (Below.refl _ _) ?_
    exact rfl
  ·intro vs W3 hS hv; have vz := hv 7 (by simp); simp only [PhiwpartN] at vz; simp only [fillR, Act.put, sA, sB, sC, Nat.zero_add, Nat.reduceAdd, vz]; clear hv vz; go_wp2_with fail; go_ret; exact ⟨by rw [HP.out]; rfl, Below.tr hb1 hS⟩

theorem valid_one : validP oneP = 0 := valid_rat Good_one
theorem fewB_cases (l : List Nat) : (1 < l.length ∧ fewB l = false) ∨ (l.length = 0 ∧ fewB l = true) ∨ (l.length = 1 ∧ fewB l = decide ((l.getD 0 0 : Int) ≤ 255)) := by
 unfold fewB
 rcases Nat.lt_trichotomy l.length 1 with h | h | h
 ·right; left; refine ⟨by omega, ?_⟩; simp [show l.length = 0 by omega]
 ·right; right; refine ⟨h, ?_⟩
  rw [Bool.eq_iff_iff]; simp [h]; omega
 ·left; refine ⟨h, ?_⟩; simp [show ¬ l.length = 0 by omega, show ¬ l.length = 1 by omega]
set_option maxRecDepth 10000 in
set_option maxHeartbeats 2000000 in
theorem rsmall_F (va : Value) (x : LP) (w : World) (h : RtP w va x) : Calls Try.prog 13 #[va] w fun e w' => e = .returned (.bool (smallB x)) ∧ Below w.heap.size w w' := by
 obtain ⟨A1, k1, c1, A2, k2, c2, rfl⟩ := h.shape; obtain ⟨W, HW⟩ : ∃ W, Hid (W = w.alloc (.cells #[.slice A1 k1 c1, .slice A2 k2 c2] 25)) := ⟨_, rfl⟩; have hb1 : Below w.heap.size w W := by rw [HW.out]; exact bA _ _
 have hx : Box W w.heap.size (.slice A1 k1 c1) (.slice A2 k2 c2) := by rw [HW.out]; exact Blk.new _ _ _
 have h1 := h.below hb1
 go_enter Try.func13, Try.ntmps13
 go_wp2_with fail; rw [← HW.out]; refine (rvalid_v h1).mono ?_; rintro e W2 ⟨E, rfl, HE, hb2⟩; have hb := Below.tr hb1 hb2; have hx := hx.below hb2; obtain ⟨f1, f2⟩ := hx.facts; obtain ⟨_, _, _, _, _, _, he, l1, l2, e1, e2⟩ := h1.below hb2; simp only [Value.agg.injEq, Array.mk.injEq, List.cons.injEq, and_true, Value.slice.injEq] at he; obtain ⟨⟨rfl, rfl, rfl⟩, rfl, rfl, rfl⟩ := he; have E1 := Lib.hid e1; have E2 := Lib.hid e2; clear h1 hb1 HW h hb2 e1 e2 hx; by_cases hE : E = 0
 ·have t0 : (E != 0) = false := by rw [hE]; rfl
  have HS : Hid (smallB x = (fewB x.1 && fewB x.2)) := by
   have hv : validP x = 0 := HE.out.symm.trans hE
   show _ = _; unfold smallB; rw [hv]; simp
  clear hE HE; have C1 := Lib.hid (fewB_cases x.1); have C2 := Lib.hid (fewB_cases x.2); by_cases g1 : 1 < k1
  ·have HF : Hid (fewB x.1 = false) := by
    rcases C1.out with ⟨_, h⟩ | ⟨h, _⟩ | ⟨h, _⟩
    ·exact h
    ·have := E1.out; omega
    ·have := E1.out; omega
   have t1 : decide ((k1 : Int) > 1) = true := by simp; omega
   clear g1 C1 C2; go_wp2_with fail; go_ret; exact ⟨by rw [HS.out, HF.out]; rfl, hb⟩
  ·have t1 : decide ((k1 : Int) > 1) = false := by simp; omega
   by_cases g2 : 1 < k2
   ·have HF : Hid (fewB x.2 = false) := by
     rcases C2.out with ⟨_, h⟩ | ⟨h, _⟩ | ⟨h, _⟩
     ·exact h
     ·have := E2.out; omega
     ·have := E2.out; omega
    have t2 : decide ((k2 : Int) > 1) = true := by simp; omega
    clear g1 g2 C1 C2; go_wp2_with fail; go_ret; exact ⟨by rw [HS.out, HF.out, Bool.and_false]; rfl, hb⟩
   ·have t2 : decide ((k2 : Int) > 1) = false := by simp; omega
    have K1 : k1 = 0 ∨ k1 = 1 := by omega
    have K2 : k2 = 0 ∨ k2 = 1 := by omega
    clear g1 g2
    rcases K1 with rfl | rfl
    ·have HF1 : Hid (fewB x.1 = true) := by
      rcases C1.out with ⟨h, _⟩ | ⟨_, h⟩ | ⟨h, _⟩
      ·have := E1.out; omega
      ·exact h
      ·have := E1.out; omega
     rcases K2 with rfl | rfl
     ·have HF2 : Hid (fewB x.2 = true) := by
       rcases C2.out with ⟨h, _⟩ | ⟨_, h⟩ | ⟨h, _⟩
       ·have := E2.out; omega
       ·exact h
       ·have := E2.out; omega
      clear C1 C2; go_wp2_with fail; go_ret; exact ⟨by rw [HS.out, HF1.out, HF2.out]; rfl, hb⟩
     ·obtain ⟨b', off', a', hA', hc', ha', HA'⟩ := l2.get (k := 0) (by have := E2.out; omega); rw [Nat.add_zero] at hc'; rw [hA'] at f2
      have HF2 : Hid (fewB x.2 = decide ((a' : Int) ≤ 255)) := by
       rcases C2.out with ⟨h, _⟩ | ⟨h, _⟩ | ⟨_, h⟩
       ·have := E2.out; omega
       ·have := E2.out; omega
       ·rw [HA']; exact h
      clear C1 C2 HA' l1 l2; go_wp2_with fail; go_ret; exact ⟨by rw [HS.out, HF1.out, HF2.out]; rfl, hb⟩
    ·obtain ⟨b, off, a, hA, hc, ha, HA⟩ := l1.get (k := 0) (by have := E1.out; omega); rw [Nat.add_zero] at hc; rw [hA] at f1
     have HF1 : Hid (fewB x.1 = decide ((a : Int) ≤ 255)) := by
      rcases C1.out with ⟨h, _⟩ | ⟨h, _⟩ | ⟨_, h⟩
      ·have := E1.out; omega
      ·have := E1.out; omega
      ·rw [HA]; exact h
     obtain ⟨bb, hbb⟩ : ∃ bb, decide ((a : Int) ≤ 255) = bb := ⟨_, rfl⟩; have HBB := Lib.hid hbb.symm
     rcases K2 with rfl | rfl
     ·have HF2 : Hid (fewB x.2 = true) := by
       rcases C2.out with ⟨h, _⟩ | ⟨_, h⟩ | ⟨h, _⟩
       ·have := E2.out; omega
       ·exact h
       ·have := E2.out; omega
      clear C1 C2 HA l1 l2
      cases bb
      ·go_wp2_with fail; go_ret; exact ⟨by rw [HS.out, HF1.out, ← HBB.out]; rfl, hb⟩
      ·go_wp2_with fail; go_ret; exact ⟨by rw [HS.out, HF1.out, HF2.out, ← HBB.out]; rfl, hb⟩
     ·obtain ⟨b', off', a', hA', hc', ha', HA'⟩ := l2.get (k := 0) (by have := E2.out; omega); rw [Nat.add_zero] at hc'; rw [hA'] at f2
      have HF2 : Hid (fewB x.2 = decide ((a' : Int) ≤ 255)) := by
       rcases C2.out with ⟨h, _⟩ | ⟨h, _⟩ | ⟨_, h⟩
       ·have := E2.out; omega
       ·have := E2.out; omega
       ·rw [HA']; exact h
      clear C1 C2 HA HA' l1 l2
      cases bb
      ·go_wp2_with fail; go_ret; exact ⟨by rw [HS.out, HF1.out, ← HBB.out]; rfl, hb⟩
      ·go_wp2_with fail; go_ret; exact ⟨by rw [HS.out, HF1.out, HF2.out, ← HBB.out]; rfl, hb⟩
 ·have t0 : (E != 0) = true := by simpa using hE
  have HS : Hid (smallB x = false) := by
   show _ = _; unfold smallB
   have hv : ¬ validP x = 0 := fun e => hE (HE.out.trans e)
   simp [hv]
  clear hE HE f1 f2 l1 l2; go_wp2_with fail; go_ret; exact ⟨by rw [HS.out]; rfl, hb⟩
def Phirpart17Y (s1 s2 : Value) (B : Bool) (j : Nat) (w : World) (x : Value) : Prop :=
 match j with
 | 0 => x = .agg #[s1, s2]
 | 1 => x = .bool true
 | 2 => x = .bool true
 | 3 => x = .agg #[s1, s2]
 | 4 => RtP w x oneP
 | 5 => ∃ cc, x = .int .i64 cc ∧ Hid (decide (cc ≤ 0) = B)
 | 6 => x = .bool B
 | 7 => x = .bool B
 | 8 => x = .bool B
 | _ => True
def Phirpart17N (s1 s2 : Value) (j : Nat) (w : World) (x : Value) : Prop :=
 match j with
 | 0 => x = .agg #[s1, s2]
 | 1 => x = .bool false
 | 2 => x = .bool false
 | 3 => x = undef
 | 4 => x = undef
 | 5 => x = undef
 | 6 => x = undef
 | 7 => x = .bool false
 | 8 => x = .bool false
 | _ => True
theorem Phirpart17Y.keep {s1 s2 : Value} {B : Bool} : ∀ (w w' : World), Below w.heap.size w w' → ∀ j x, Phirpart17Y s1 s2 B j w x → Phirpart17Y s1 s2 B j w' x := by
 intro w w' hb j x h; unfold Phirpart17Y at h ⊢
 split <;> simp only at h ⊢ <;> first | exact h | exact h.below hb
def PhiLs (s1 s2 : Value) (E : Int) (X : LP) (B : Nat) (j : Nat) (w : World) (x : Value) : Prop :=
 match j with
 | 0 => RtP w x oneP
 | 1 => x = .agg #[s1, s2]
 | 2 => ∃ v, x = .tuple #[v, .int .i64 E] ∧ RtP w v X
 | 3 => ∃ v, x = .tuple #[v, .int .i64 E] ∧ RtP w v X
 | 4 => ∃ A k c A' k' c', x = .agg #[.slice A k c, .slice A' k' c'] ∧ RtP w (.agg #[.slice A k c, .slice A' k' c']) X
 | 5 => x = .int .i64 E
 | 6 => ∃ g, x = .pointer (some ⟨g, 0, none⟩) ∧ B ≤ g ∧ Sl w g
 | 7 => True
 | 8 => x = .int .i64 E
 | _ => True
theorem PhiLs.keep {s1 s2 : Value} {E : Int} {X : LP} {B : Nat} : ∀ (w w' : World), RT B w w' → ∀ j x, PhiLs s1 s2 E X B j w x → PhiLs s1 s2 E X B j w' x := by
 intro w w' hr j x h; unfold PhiLs at h ⊢
 split <;> simp only at h ⊢
 all_goals first
  | exact h
  | (obtain ⟨v, e, h⟩ := h; exact ⟨v, e, h.mapL hr.lim⟩)
  | (obtain ⟨A, k, c, A', k', c', e, h⟩ := h; exact ⟨A, k, c, A', k', c', e, h.mapL hr.lim⟩)
  | (obtain ⟨g, e, h1, h2⟩ := h; exact ⟨g, e, h1, hr.sl g h2⟩)
  | exact h.mapL hr.lim
end Go.Proofs.Ytnjjdiilkhdbeaa
namespace Go.Proofs.Ytnjjdiilkhdbeaa
open Go Go.RowKit
/- A region of calls on ratios whose last value goes to the result's block g. -/
def GoodX (w : World) (g : Nat) (X : LP) : Prop := ∃ A k c A' k' c', Blk w g 25 #[.slice A k c, .slice A' k' c'] ∧ RtP w (.agg #[.slice A k c, .slice A' k' c']) X
/-- what an operation of such a region may do to the world -/
structure RX (B g : Nat) (X : LP) (w w' : World) : Prop where
 lim : ∀ A c l, Lim w A c l → Lim w' A c l
 cell : ∀ b i v, b ≠ g → w.cell? ⟨b, i, none⟩ = some v → w'.cell? ⟨b, i, none⟩ = some v
 sl : Sl w g → Sl w' g
 be : Below B w w'
 good : GoodX w' g X ∨ w'.heap[g]? = w.heap[g]?
theorem RX.refl {B g : Nat} {X : LP} (w : World) : RX B g X w w := ⟨fun _ _ _ h => h, fun _ _ _ _ h => h, fun h => h, Below.refl _ _, .inr rfl⟩
theorem RX.below {B g : Nat} {X : LP} {w w' : World} (hb : Below w.heap.size w w') (hB : B ≤ w.heap.size) (hg : g < w.heap.size) : RX B g X w w' :=
 ⟨fun _ _ _ h => h.below hb, fun _ _ _ _ h => cell_keep hb h, fun h => h.below hb, hb.mono hB, .inr (hb.block g hg)⟩
theorem RX.store {B g : Nat} {X : LP} {w : World} {A A' : Option Addr} {k c k' c' : Nat} (hs : Sl w g) (hB : B ≤ g) (h : RtP w (.agg #[.slice A k c, .slice A' k' c']) X) :
  RX B g X w ((w.setCell ⟨g, 0, none⟩ (.slice A k c)).setCell ⟨g, 1, none⟩ (.slice A' k' c')) ∧ GoodX ((w.setCell ⟨g, 0, none⟩ (.slice A k c)).setCell ⟨g, 1, none⟩ (.slice A' k' c')) g X := by
 have hrt := RT.store (N := B) hs hB A k c A' k' c'
 have hg : GoodX ((w.setCell ⟨g, 0, none⟩ (.slice A k c)).setCell ⟨g, 1, none⟩ (.slice A' k' c')) g X := by
  obtain ⟨r1, r2, r3, r4, r5, r6, hb⟩ := hs; exact ⟨A, k, c, A', k', c', (hb.set_ 0 _).set_ 1 _, h.mapL hrt.lim⟩
 refine ⟨⟨hrt.lim, fun b i v hne hc => ?_, hrt.sl g, hrt.be, .inl hg⟩, hg⟩; rw [World.cell?_of_block (Below.heap_setCell _ ⟨g, 1, none⟩ _ b hne), World.cell?_of_block (Below.heap_setCell _ ⟨g, 0, none⟩ _ b hne)]; exact hc
theorem GoodX.map {w w' : World} {g : Nat} {X : LP} {B : Nat} (h : GoodX w g X) (hr : RX B g X w w') : GoodX w' g X := by
 rcases hr.good with h2 | h2
 ·exact h2
 ·obtain ⟨A, k, c, A', k', c', h3, h4⟩ := h; exact ⟨A, k, c, A', k', c', h2.trans h3, h4.mapL hr.lim⟩
/-- what holds all along -/
structure SX (w0 : World) (g : Nat) (Cs : List (Nat × Nat × Value)) (W : World) : Prop where
 cl : ∀ c ∈ Cs, W.cell? ⟨c.1, c.2.1, none⟩ = some c.2.2 ∧ c.1 ≠ g
 sl : Sl W g
 be : Below w0.heap.size w0 W
 ge : w0.heap.size ≤ g
theorem SX.step {w0 w w' : World} {g : Nat} {X : LP} {Cs : List (Nat × Nat × Value)} (hr : RX w0.heap.size g X w w') (h : SX w0 g Cs w) : SX w0 g Cs w' :=
 ⟨fun c hc => ⟨hr.cell _ _ _ (h.cl c hc).2 (h.cl c hc).1, (h.cl c hc).2⟩, hr.sl h.sl, h.be.trans hr.be, h.ge⟩
theorem SX.size {w0 w : World} {g : Nat} {Cs : List (Nat × Nat × Value)} (h : SX w0 g Cs w) : w0.heap.size ≤ w.heap.size := h.be.size
theorem SX.lt {w0 w : World} {g : Nat} {Cs : List (Nat × Nat × Value)} (h : SX w0 g Cs w) : g < w.heap.size := h.sl.lt
theorem SX.below {w0 w w' : World} {g : Nat} {Cs : List (Nat × Nat × Value)} (h : SX w0 g Cs w) (hb : Below w.heap.size w w') : SX w0 g Cs w' :=
 h.step (X := nilP) (RX.below hb h.size h.lt)
theorem mul_V (va vb : Value) (a b : LP) (w : World) (ha : RtP w va a) (hb : RtP w vb b) : Calls Try.prog 8 #[va, vb] w fun e w' => ∃ v er, e = .returned (.tuple #[v, .int .i64 er]) ∧ RtP w' v (mulV a b) ∧ Below w.heap.size w w' := by
 refine (mul_F va vb a b w ha hb).mono ?_; rintro e w' ⟨v, rfl, h, hb⟩; exact ⟨v, _, rfl, h, hb⟩
theorem add_V (va vb : Value) (a b : LP) (w : World) (ha : RtP w va a) (hb : RtP w vb b) : Calls Try.prog 12 #[va, vb] w fun e w' => ∃ v er, e = .returned (.tuple #[v, .int .i64 er]) ∧ RtP w' v (addV a b) ∧ Below w.heap.size w w' := by
 refine (add_F va vb a b w ha hb).mono ?_; rintro e w' ⟨v, rfl, h, hb⟩; exact ⟨v, _, rfl, h, hb⟩
theorem sub_V (va vb : Value) (a b : LP) (w : World) (ha : RtP w va a) (hb : RtP w vb b) : Calls Try.prog 46 #[va, vb] w fun e w' => ∃ v er, e = .returned (.tuple #[v, .int .i64 er]) ∧ RtP w' v (subV a b) ∧ Below w.heap.size w w' := by
 refine (sub_F va vb a b w ha hb).mono ?_; rintro e w' ⟨v, rfl, h, hb⟩; exact ⟨v, _, rfl, h, hb⟩
end Go.Proofs.Ytnjjdiilkhdbeaa
