import Derived.Test.YtmbfjmilhfmnkaaGreatDoorKRdsProof17
import Derived.Test.YtmbfjmilhfmnkaaGreatDoorKRdsProof13
import Derived.Test.YtmbfjmilhfmnkaaGreatDoorKRdsProof19
import Derived.Test.YtmbfjmilhfmnkaaGreatDoorS0
set_option linter.unusedVariables false
set_option linter.unusedSimpArgs false
namespace Go.Proofs.YtmbfjmilhfmnkaaGreatDoor
open Go.RowKit
theorem good_lt {p q : Nat} (g : Nm.Good p q) : p < Nm.B ^ 64 ∧ q < Nm.B ^ 64 := by
 refine ⟨Nm.lb_length_lt.1 g.fits.1, ?_⟩; have h := g.fits.2; unfold Nm.dn at h; by_cases h1 : q = 1
 ·subst h1; exact Nat.one_lt_pow (by omega) (by unfold Nm.B; omega)
 ·rw [if_neg h1] at h; exact Nm.lb_length_lt.1 h
def PhiRA (b1 b2 g : Nat) (a1 a2 d1 d2 : Value) (pa qa pb qb : Nat) (j : Nat) (w : World) (x : Value) : Prop :=
 match j with
 | 0 => x = .pointer (some ⟨b1, 0, none⟩)
 | 1 => x = a1
 | 2 => x = .agg #[d1, d2]
 | 3 => IsNb w x qb 65
 | 4 => IsNb w x (pa * qb) 130
 | 5 => x = .pointer (some ⟨b2, 0, none⟩)
 | 6 => x = d1
 | 7 => x = .agg #[a1, a2]
 | 8 => IsNb w x qa 65
 | 9 => IsNb w x (pb * qa) 130
 | 10 => IsNb w x ((pa * qb) + (pb * qa)) 131
 | 11 => x = .agg #[a1, a2]
 | 12 => IsNb w x qa 65
 | 13 => x = .agg #[d1, d2]
 | 14 => IsNb w x qb 65
 | 15 => IsNb w x (qa * qb) 130
 | 16 => ∃ v er, x = .tuple #[v, .int .i64 er] ∧ RedP w v er (pa * qb + pb * qa) (qa * qb)
 | 17 => RedV w x (pa * qb + pb * qa) (qa * qb)
 | 18 => ∃ er, x = .int .i64 er ∧ ErrOf (pa * qb + pb * qa) (qa * qb) er
 | 19 => GoodR w g (pa * qb + pb * qa) (qa * qb)
 | 20 => ∃ er, x = .int .i64 er ∧ ErrOf (pa * qb + pb * qa) (qa * qb) er
 | _ => True
theorem PhiRA.keep {B : Nat} {b1 b2 g : Nat} {a1 a2 d1 d2 : Value} {pa qa pb qb : Nat} : ∀ (w w' : World), RM B g (pa * qb + pb * qa) (qa * qb) w w' → ∀ j x, PhiRA b1 b2 g a1 a2 d1 d2 pa qa pb qb j w x → PhiRA b1 b2 g a1 a2 d1 d2 pa qa pb qb j w' x := by
 intro w w' hr j x h; unfold PhiRA at h ⊢
 split <;> simp only at h ⊢
 all_goals first
  | exact h
  | exact h.map hr.nb
  | (obtain ⟨v, er, rfl, h⟩ := h; exact ⟨v, er, rfl, h.map hr.nb⟩)
  | (obtain ⟨A, k, c, A', k', c', er, rfl, h⟩ := h; exact ⟨A, k, c, A', k', c', er, rfl, h.map hr.nb⟩)
  | (rcases hr.good with h2 | h2; exact h2; obtain ⟨A, k, c, A', k', c', er, h3, h4⟩ := h; exact ⟨A, k, c, A', k', c', er, h2.trans h3, h4.map hr.nb⟩)
def PhiRS (b1 b2 g : Nat) (a1 a2 d1 d2 : Value) (pa qa pb qb : Nat) (j : Nat) (w : World) (x : Value) : Prop :=
 match j with
 | 0 => x = .pointer (some ⟨b1, 0, none⟩)
 | 1 => x = a1
 | 2 => x = .agg #[d1, d2]
 | 3 => IsNb w x qb 65
 | 4 => IsNb w x (pa * qb) 130
 | 5 => x = .pointer (some ⟨b2, 0, none⟩)
 | 6 => x = d1
 | 7 => x = .agg #[a1, a2]
 | 8 => IsNb w x qa 65
 | 9 => IsNb w x (pb * qa) 130
 | 10 => IsNb w x ((pa * qb) - (pb * qa)) 130
 | 11 => x = .agg #[a1, a2]
 | 12 => IsNb w x qa 65
 | 13 => x = .agg #[d1, d2]
 | 14 => IsNb w x qb 65
 | 15 => IsNb w x (qa * qb) 130
 | 16 => ∃ v er, x = .tuple #[v, .int .i64 er] ∧ RedP w v er (pa * qb - pb * qa) (qa * qb)
 | 17 => RedV w x (pa * qb - pb * qa) (qa * qb)
 | 18 => ∃ er, x = .int .i64 er ∧ ErrOf (pa * qb - pb * qa) (qa * qb) er
 | 19 => GoodR w g (pa * qb - pb * qa) (qa * qb)
 | 20 => ∃ er, x = .int .i64 er ∧ ErrOf (pa * qb - pb * qa) (qa * qb) er
 | _ => True
theorem PhiRS.keep {B : Nat} {b1 b2 g : Nat} {a1 a2 d1 d2 : Value} {pa qa pb qb : Nat} : ∀ (w w' : World), RM B g (pa * qb - pb * qa) (qa * qb) w w' → ∀ j x, PhiRS b1 b2 g a1 a2 d1 d2 pa qa pb qb j w x → PhiRS b1 b2 g a1 a2 d1 d2 pa qa pb qb j w' x := by
 intro w w' hr j x h; unfold PhiRS at h ⊢
 split <;> simp only at h ⊢
 all_goals first
  | exact h
  | exact h.map hr.nb
  | (obtain ⟨v, er, rfl, h⟩ := h; exact ⟨v, er, rfl, h.map hr.nb⟩)
  | (obtain ⟨A, k, c, A', k', c', er, rfl, h⟩ := h; exact ⟨A, k, c, A', k', c', er, rfl, h.map hr.nb⟩)
  | (rcases hr.good with h2 | h2; exact h2; obtain ⟨A, k, c, A', k', c', er, h3, h4⟩ := h; exact ⟨A, k, c, A', k', c', er, h2.trans h3, h4.map hr.nb⟩)
def PhiRD (b1 b2 g : Nat) (a1 a2 d1 d2 : Value) (pa qa pb qb : Nat) (j : Nat) (w : World) (x : Value) : Prop :=
 match j with
 | 0 => x = .pointer (some ⟨b1, 0, none⟩)
 | 1 => x = a1
 | 2 => x = .agg #[d1, d2]
 | 3 => IsNb w x qb 65
 | 4 => IsNb w x (pa * qb) 130
 | 5 => x = .agg #[a1, a2]
 | 6 => IsNb w x qa 65
 | 7 => x = .pointer (some ⟨b2, 0, none⟩)
 | 8 => x = d1
 | 9 => IsNb w x (qa * pb) 130
 | 10 => ∃ v er, x = .tuple #[v, .int .i64 er] ∧ RedP w v er (pa * qb) (qa * pb)
 | 11 => RedV w x (pa * qb) (qa * pb)
 | 12 => ∃ er, x = .int .i64 er ∧ ErrOf (pa * qb) (qa * pb) er
 | 13 => GoodR w g (pa * qb) (qa * pb)
 | 14 => ∃ er, x = .int .i64 er ∧ ErrOf (pa * qb) (qa * pb) er
 | _ => True
theorem PhiRD.keep {B : Nat} {b1 b2 g : Nat} {a1 a2 d1 d2 : Value} {pa qa pb qb : Nat} : ∀ (w w' : World), RM B g (pa * qb) (qa * pb) w w' → ∀ j x, PhiRD b1 b2 g a1 a2 d1 d2 pa qa pb qb j w x → PhiRD b1 b2 g a1 a2 d1 d2 pa qa pb qb j w' x := by
 intro w w' hr j x h; unfold PhiRD at h ⊢
 split <;> simp only at h ⊢
 all_goals first
  | exact h
  | exact h.map hr.nb
  | (obtain ⟨v, er, rfl, h⟩ := h; exact ⟨v, er, rfl, h.map hr.nb⟩)
  | (obtain ⟨A, k, c, A', k', c', er, rfl, h⟩ := h; exact ⟨A, k, c, A', k', c', er, rfl, h.map hr.nb⟩)
  | (rcases hr.good with h2 | h2; exact h2; obtain ⟨A, k, c, A', k', c', er, h3, h4⟩ := h; exact ⟨A, k, c, A', k', c', er, h2.trans h3, h4.map hr.nb⟩)
set_option maxRecDepth 10000 in
set_option maxHeartbeats 2000000 in
theorem add_n (va vb : Value) (pa qa pb qb : Nat) (w : World) (ha : Rat w va pa qa) (hb : Rat w vb pb qb) (ga : Nm.Good pa qa) (gb : Nm.Good pb qb) :
  Calls Tryz.prog 36 #[va, vb] w fun e w' => ∃ v er, e = .returned (.tuple #[v, .int .i64 er]) ∧ RedP w' v er (pa * qb + pb * qa) (qa * qb) ∧ Below w.heap.size w w' := by
 obtain ⟨A1, k1, c1, A2, k2, c2, rfl⟩ := ha.shape; obtain ⟨B1, l1, u1, B2, l2, u2, rfl⟩ := hb.shape; obtain ⟨W, HW⟩ : ∃ W, Hid (W = ((((w.alloc (.cells #[.slice A1 k1 c1, .slice A2 k2 c2] 29)).alloc (.cells #[.slice B1 l1 u1, .slice B2 l2 u2] 29)).alloc (.cells #[.slice none 0 0, .slice none 0 0] 29)).alloc (.cells #[.slice A1 k1 c1, .slice A2 k2 c2, .slice B1 l1 u1, .slice B2 l2 u2] 29))) := ⟨_, rfl⟩; have hqa := ga.pos; have hqb := gb.pos; obtain ⟨s1, s2⟩ := ha.small ga; obtain ⟨s3, s4⟩ := hb.small gb
 have hS0 : SR w (w.heap.size + 2) [(A1, k1, c1, pa), (A2, k2, c2, Nm.dn qa), (B1, l1, u1, pb), (B2, l2, u2, Nm.dn qb)] [(w.heap.size, .slice A1 k1 c1, .slice A2 k2 c2), (w.heap.size + 1, .slice B1 l1 u1, .slice B2 l2 u2)] W := by
  have hbw : Below w.heap.size w (((w.alloc (.cells #[.slice A1 k1 c1, .slice A2 k2 c2] 29)).alloc (.cells #[.slice B1 l1 u1, .slice B2 l2 u2] 29)).alloc (.cells #[.slice none 0 0, .slice none 0 0] 29)) := Below.tr (Below.tr (bA _ _) (bA _ _)) (bA _ _)
  have h0 : SR w (w.heap.size + 2) [(A1, k1, c1, pa), (A2, k2, c2, Nm.dn qa), (B1, l1, u1, pb), (B2, l2, u2, Nm.dn qb)] [(w.heap.size, .slice A1 k1 c1, .slice A2 k2 c2), (w.heap.size + 1, .slice B1 l1 u1, .slice B2 l2 u2)] (((w.alloc (.cells #[.slice A1 k1 c1, .slice A2 k2 c2] 29)).alloc (.cells #[.slice B1 l1 u1, .slice B2 l2 u2] 29)).alloc (.cells #[.slice none 0 0, .slice none 0 0] 29)) := by
   refine ⟨?_, ?_, ?_, hbw, by omega⟩
   ·intro x hx; simp only [List.mem_cons, List.not_mem_nil, or_false] at hx
    rcases hx with rfl | rfl | rfl | rfl
    ·exact ((ha.below hbw).nb).1
    ·exact ((ha.below hbw).nb).2
    ·exact ((hb.below hbw).nb).1
    ·exact ((hb.below hbw).nb).2
   ·intro x hx; simp only [List.mem_cons, List.not_mem_nil, or_false] at hx
    rcases hx with rfl | rfl
    ·exact ⟨(Box.below (Blk.new w _ _) (bA _ _)).below (bA _ _), by show w.heap.size ≠ w.heap.size + 2; omega⟩
    ·refine ⟨?_, by show w.heap.size + 1 ≠ w.heap.size + 2; omega⟩; have := Blk.new (w.alloc (.cells #[.slice A1 k1 c1, .slice A2 k2 c2] 29)) 29 #[.slice B1 l1 u1, .slice B2 l2 u2]; refine Box.below ?_ (bA _ _); unfold Box; simpa using this
   ·have := Blk.new ((w.alloc (.cells #[.slice A1 k1 c1, .slice A2 k2 c2] 29)).alloc (.cells #[.slice B1 l1 u1, .slice B2 l2 u2] 29)) 29 #[.slice none 0 0, .slice none 0 0]; exact ⟨none, 0, 0, none, 0, 0, by simpa using this⟩
  rw [HW.out]; exact h0.below (bA _ _)
 have hp : Pair W (w.heap.size + 3) (.slice A1 k1 c1) (.slice A2 k2 c2) (.slice B1 l1 u1) (.slice B2 l2 u2) := by
  rw [HW.out]; have := Blk.new (((w.alloc (.cells #[.slice A1 k1 c1, .slice A2 k2 c2] 29)).alloc (.cells #[.slice B1 l1 u1, .slice B2 l2 u2] 29)).alloc (.cells #[.slice none 0 0, .slice none 0 0] 29)) 29 #[.slice A1 k1 c1, .slice A2 k2 c2, .slice B1 l1 u1, .slice B2 l2 u2]; unfold Pair; simpa using this
 have ha1 := ha.below hS0.be; have hb1 := hb.below hS0.be
 go_enter Tryz.func36, Tryz.ntmps36
 go_wp2_with fail; rw [← HW.out]; refine (valid2_good _ _ _ _ _ pa qa pb qb _ hp ha1 hb1 ga gb).mono ?_; rintro e W2 ⟨rfl, hbe⟩; have hS2 := hS0.below hbe; have f1 := (hS2.bx (w.heap.size, .slice A1 k1 c1, .slice A2 k2 c2) (by simp)).1.facts.1; have f2 := (hS2.bx (w.heap.size, .slice A1 k1 c1, .slice A2 k2 c2) (by simp)).1.facts.2; have f3 := (hS2.bx (w.heap.size + 1, .slice B1 l1 u1, .slice B2 l2 u2) (by simp)).1.facts.1; have f4 := (hS2.bx (w.heap.size + 1, .slice B1 l1 u1, .slice B2 l2 u2) (by simp)).1.facts.2; go_wp2_with fail; refine (crossed3_n A1 A2 B1 B2 k1 c1 k2 c2 l1 u1 l2 u2 pa qa pb qb _ (show Nb W2 A1 k1 c1 (pa) from hS2.nb (A1, k1, c1, pa) (by simp)) (show Nb W2 A2 k2 c2 (Nm.dn qa) from hS2.nb (A2, k2, c2, Nm.dn qa) (by simp)) (show Nb W2 B1 l1 u1 (pb) from hS2.nb (B1, l1, u1, pb) (by simp)) (show Nb W2 B2 l2 u2 (Nm.dn qb) from hS2.nb (B2, l2, u2, Nm.dn qb) (by simp)) hqa hqb s1 s2 s3 s4).mono ?_; rintro e W3 ⟨x, y, z, rfl, ⟨X, kx, cx, rfl, hx⟩, ⟨Y, ky, cy, rfl, hy⟩, ⟨Z, kz, cz, rfl, hz⟩, hb3⟩; obtain ⟨ga1, ga2⟩ := good_lt ga; obtain ⟨gb1, gb2⟩ := good_lt gb; have kx1 := hx.lek (prod_ltG (m := 128) ga1 (Nat.le_refl _) gb2 (Nat.le_refl _) rfl); have ky1 := hy.lek (prod_ltG (m := 128) gb1 (Nat.le_refl _) ga2 (Nat.le_refl _) rfl); have kz1 := hz.lek (prod_ltG (m := 128) ga2 (Nat.le_refl _) gb2 (Nat.le_refl _) rfl); have hS3 := hS2.below hb3; clear f1 f2 f3 f4 hS2 hS0 hbe hb3 ha1 hb1 HW hp ga1 ga2 gb1 gb2; go_wp2_with fail; refine (plus_n _ _ _ _ _ _ _ _ _ hx hy (by omega) (by omega)).mono ?_
 rintro e W5 ⟨U, ku, cu, rfl, hu, hb5⟩; have ku1 : ku ≤ 129 := hu.lek (sum_ltG (m := 128) hx.lt kx1 hy.lt ky1); have hz := hz.below hb5; have hS3 := hS3.below hb5; clear hx hy hb5; go_wp2_with fail; refine (reduced_n _ _ _ _ _ _ _ _ _ hu hz (by omega) (by omega) (Nat.mul_pos hqa hqb)).mono ?_; rintro e W6 ⟨v, er, rfl, hR, hb6⟩; have hS3 := hS3.below hb6; obtain ⟨C1, m1, e1, C2, m2, e2, rfl⟩ := hR.shape; have hRM := (RM.store (B := w.heap.size) hS3.sl hS3.ge hR).1; have hR2 := hR.map hRM.nb; have hbz := hS3.be.trans hRM.be; obtain ⟨r1, r2, r3, r4, r5, r6, hres⟩ := hS3.sl; have q1 := hres.cell 0; have q2 := hres.cell 1; have q3 := hres.frozen 0; have q4 := hres.frozen 1; simp only [List.getElem?_toArray, List.getElem?_cons_zero, List.getElem?_cons_succ] at q1 q2; have hblk := (hres.set_ 0 (.slice C1 m1 e1)).set_ 1 (.slice C2 m2 e2); have z1 := hblk.cell 0; have z2 := hblk.cell 1; simp at z1 z2; clear hres hblk hRM hu hz hS3; go_wp2_with fail; exact bodyPost_ret (v := .tuple #[.agg #[.slice C1 m1 e1, .slice C2 m2 e2], .int .i64 er]) (by simp [results, Tryz.results36, go_sem, z1, z2]) rfl ⟨_, _, rfl, hR2, hbz⟩
set_option maxRecDepth 10000 in
set_option maxHeartbeats 2000000 in
theorem sub_n (va vb : Value) (pa qa pb qb : Nat) (w : World) (ha : Rat w va pa qa) (hb : Rat w vb pb qb) (ga : Nm.Good pa qa) (gb : Nm.Good pb qb) (hle : pb * qa ≤ pa * qb) :
  Calls Tryz.prog 37 #[va, vb] w fun e w' => ∃ v er, e = .returned (.tuple #[v, .int .i64 er]) ∧ RedP w' v er (pa * qb - pb * qa) (qa * qb) ∧ Below w.heap.size w w' := by
 obtain ⟨A1, k1, c1, A2, k2, c2, rfl⟩ := ha.shape; obtain ⟨B1, l1, u1, B2, l2, u2, rfl⟩ := hb.shape; obtain ⟨W, HW⟩ : ∃ W, Hid (W = ((((w.alloc (.cells #[.slice A1 k1 c1, .slice A2 k2 c2] 29)).alloc (.cells #[.slice B1 l1 u1, .slice B2 l2 u2] 29)).alloc (.cells #[.slice none 0 0, .slice none 0 0] 29)).alloc (.cells #[.slice A1 k1 c1, .slice A2 k2 c2, .slice B1 l1 u1, .slice B2 l2 u2] 29))) := ⟨_, rfl⟩; have hqa := ga.pos; have hqb := gb.pos; obtain ⟨s1, s2⟩ := ha.small ga; obtain ⟨s3, s4⟩ := hb.small gb
 have hS0 : SR w (w.heap.size + 2) [(A1, k1, c1, pa), (A2, k2, c2, Nm.dn qa), (B1, l1, u1, pb), (B2, l2, u2, Nm.dn qb)] [(w.heap.size, .slice A1 k1 c1, .slice A2 k2 c2), (w.heap.size + 1, .slice B1 l1 u1, .slice B2 l2 u2)] W := by
  have hbw : Below w.heap.size w (((w.alloc (.cells #[.slice A1 k1 c1, .slice A2 k2 c2] 29)).alloc (.cells #[.slice B1 l1 u1, .slice B2 l2 u2] 29)).alloc (.cells #[.slice none 0 0, .slice none 0 0] 29)) := Below.tr (Below.tr (bA _ _) (bA _ _)) (bA _ _)
  have h0 : SR w (w.heap.size + 2) [(A1, k1, c1, pa), (A2, k2, c2, Nm.dn qa), (B1, l1, u1, pb), (B2, l2, u2, Nm.dn qb)] [(w.heap.size, .slice A1 k1 c1, .slice A2 k2 c2), (w.heap.size + 1, .slice B1 l1 u1, .slice B2 l2 u2)] (((w.alloc (.cells #[.slice A1 k1 c1, .slice A2 k2 c2] 29)).alloc (.cells #[.slice B1 l1 u1, .slice B2 l2 u2] 29)).alloc (.cells #[.slice none 0 0, .slice none 0 0] 29)) := by
   refine ⟨?_, ?_, ?_, hbw, by omega⟩
   ·intro x hx; simp only [List.mem_cons, List.not_mem_nil, or_false] at hx
    rcases hx with rfl | rfl | rfl | rfl
    ·exact ((ha.below hbw).nb).1
    ·exact ((ha.below hbw).nb).2
    ·exact ((hb.below hbw).nb).1
    ·exact ((hb.below hbw).nb).2
   ·intro x hx; simp only [List.mem_cons, List.not_mem_nil, or_false] at hx
    rcases hx with rfl | rfl
    ·exact ⟨(Box.below (Blk.new w _ _) (bA _ _)).below (bA _ _), by show w.heap.size ≠ w.heap.size + 2; omega⟩
    ·refine ⟨?_, by show w.heap.size + 1 ≠ w.heap.size + 2; omega⟩; have := Blk.new (w.alloc (.cells #[.slice A1 k1 c1, .slice A2 k2 c2] 29)) 29 #[.slice B1 l1 u1, .slice B2 l2 u2]; refine Box.below ?_ (bA _ _); unfold Box; simpa using this
   ·have := Blk.new ((w.alloc (.cells #[.slice A1 k1 c1, .slice A2 k2 c2] 29)).alloc (.cells #[.slice B1 l1 u1, .slice B2 l2 u2] 29)) 29 #[.slice none 0 0, .slice none 0 0]; exact ⟨none, 0, 0, none, 0, 0, by simpa using this⟩
  rw [HW.out]; exact h0.below (bA _ _)
 have hp : Pair W (w.heap.size + 3) (.slice A1 k1 c1) (.slice A2 k2 c2) (.slice B1 l1 u1) (.slice B2 l2 u2) := by
  rw [HW.out]; have := Blk.new (((w.alloc (.cells #[.slice A1 k1 c1, .slice A2 k2 c2] 29)).alloc (.cells #[.slice B1 l1 u1, .slice B2 l2 u2] 29)).alloc (.cells #[.slice none 0 0, .slice none 0 0] 29)) 29 #[.slice A1 k1 c1, .slice A2 k2 c2, .slice B1 l1 u1, .slice B2 l2 u2]; unfold Pair; simpa using this
 have ha1 := ha.below hS0.be; have hb1 := hb.below hS0.be
 go_enter Tryz.func37, Tryz.ntmps37
 go_wp2_with fail; rw [← HW.out]; refine (valid2_good _ _ _ _ _ pa qa pb qb _ hp ha1 hb1 ga gb).mono ?_; rintro e W2 ⟨rfl, hbe⟩; have hS2 := hS0.below hbe; have f1 := (hS2.bx (w.heap.size, .slice A1 k1 c1, .slice A2 k2 c2) (by simp)).1.facts.1; have f2 := (hS2.bx (w.heap.size, .slice A1 k1 c1, .slice A2 k2 c2) (by simp)).1.facts.2; have f3 := (hS2.bx (w.heap.size + 1, .slice B1 l1 u1, .slice B2 l2 u2) (by simp)).1.facts.1; have f4 := (hS2.bx (w.heap.size + 1, .slice B1 l1 u1, .slice B2 l2 u2) (by simp)).1.facts.2; go_wp2_with fail; refine (crossed3_n A1 A2 B1 B2 k1 c1 k2 c2 l1 u1 l2 u2 pa qa pb qb _ (show Nb W2 A1 k1 c1 (pa) from hS2.nb (A1, k1, c1, pa) (by simp)) (show Nb W2 A2 k2 c2 (Nm.dn qa) from hS2.nb (A2, k2, c2, Nm.dn qa) (by simp)) (show Nb W2 B1 l1 u1 (pb) from hS2.nb (B1, l1, u1, pb) (by simp)) (show Nb W2 B2 l2 u2 (Nm.dn qb) from hS2.nb (B2, l2, u2, Nm.dn qb) (by simp)) hqa hqb s1 s2 s3 s4).mono ?_; rintro e W3 ⟨x, y, z, rfl, ⟨X, kx, cx, rfl, hx⟩, ⟨Y, ky, cy, rfl, hy⟩, ⟨Z, kz, cz, rfl, hz⟩, hb3⟩; obtain ⟨ga1, ga2⟩ := good_lt ga; obtain ⟨gb1, gb2⟩ := good_lt gb; have kx1 := hx.lek (prod_ltG (m := 128) ga1 (Nat.le_refl _) gb2 (Nat.le_refl _) rfl); have ky1 := hy.lek (prod_ltG (m := 128) gb1 (Nat.le_refl _) ga2 (Nat.le_refl _) rfl); have kz1 := hz.lek (prod_ltG (m := 128) ga2 (Nat.le_refl _) gb2 (Nat.le_refl _) rfl); have hS3 := hS2.below hb3; clear f1 f2 f3 f4 hS2 hS0 hbe hb3 ha1 hb1 HW hp ga1 ga2 gb1 gb2; go_wp2_with fail; refine (compare_n _ _ _ _ _ _ _ _ _ hx hy).mono ?_
 rintro e W4' ⟨dr, rfl, rfl⟩; obtain ⟨cc, hcc⟩ : ∃ cc, Hid (cc = Nm.cmpN (pa * qb) (pb * qa)) := ⟨_, rfl⟩; rw [← hcc.out]; have hb4 := below_drewN W3 dr
 have hcn : ¬ cc < 0 := by
  rw [hcc.out]; unfold Nm.cmpN; rw [if_neg (by omega)]; split <;> omega
 have hd : decide (cc < 0) = false := by simpa using hcn
 clear hcc hcn; have hS3 := hS3.below hb4; have hx := hx.below hb4; have hy := hy.below hb4; have hz := hz.below hb4; clear hb4; go_wp2_with fail; refine (minus_n _ _ _ _ _ _ _ _ _ hx hy (by omega) (by omega) hle).mono ?_; rintro e W5 ⟨U, ku, cu, rfl, hu, hb5⟩; have ku1 : ku ≤ 129 := hu.lek (Nat.lt_of_lt_of_le (sub_ltG (m := 128) hx.lt kx1) (Nat.pow_le_pow_right Nm.B_pos (by omega))); have hz := hz.below hb5; have hS3 := hS3.below hb5; clear hx hy hb5; go_wp2_with fail; refine (reduced_n _ _ _ _ _ _ _ _ _ hu hz (by omega) (by omega) (Nat.mul_pos hqa hqb)).mono ?_; rintro e W6 ⟨v, er, rfl, hR, hb6⟩; have hS3 := hS3.below hb6; obtain ⟨C1, m1, e1, C2, m2, e2, rfl⟩ := hR.shape; have hRM := (RM.store (B := w.heap.size) hS3.sl hS3.ge hR).1; have hR2 := hR.map hRM.nb; have hbz := hS3.be.trans hRM.be; obtain ⟨r1, r2, r3, r4, r5, r6, hres⟩ := hS3.sl; have q1 := hres.cell 0; have q2 := hres.cell 1; have q3 := hres.frozen 0; have q4 := hres.frozen 1; simp only [List.getElem?_toArray, List.getElem?_cons_zero, List.getElem?_cons_succ] at q1 q2; have hblk := (hres.set_ 0 (.slice C1 m1 e1)).set_ 1 (.slice C2 m2 e2); have z1 := hblk.cell 0; have z2 := hblk.cell 1; simp at z1 z2; clear hres hblk hRM hu hz hS3; go_wp2_with fail; exact bodyPost_ret (v := .tuple #[.agg #[.slice C1 m1 e1, .slice C2 m2 e2], .int .i64 er]) (by simp [results, Tryz.results37, go_sem, z1, z2]) rfl ⟨_, _, rfl, hR2, hbz⟩
set_option maxRecDepth 10000 in
set_option maxHeartbeats 2000000 in
theorem sub_lt (va vb : Value) (pa qa pb qb : Nat) (w : World) (ha : Rat w va pa qa) (hb : Rat w vb pb qb) (ga : Nm.Good pa qa) (gb : Nm.Good pb qb) (hlt : pa * qb < pb * qa) :
  Calls Tryz.prog 37 #[va, vb] w fun e w' => e = .returned (.tuple #[nilRat, .int .i64 5]) ∧ Below w.heap.size w w' := by
 obtain ⟨A1, k1, c1, A2, k2, c2, rfl⟩ := ha.shape; obtain ⟨B1, l1, u1, B2, l2, u2, rfl⟩ := hb.shape; obtain ⟨W, HW⟩ : ∃ W, Hid (W = ((((w.alloc (.cells #[.slice A1 k1 c1, .slice A2 k2 c2] 29)).alloc (.cells #[.slice B1 l1 u1, .slice B2 l2 u2] 29)).alloc (.cells #[.slice none 0 0, .slice none 0 0] 29)).alloc (.cells #[.slice A1 k1 c1, .slice A2 k2 c2, .slice B1 l1 u1, .slice B2 l2 u2] 29))) := ⟨_, rfl⟩; have hqa := ga.pos; have hqb := gb.pos; obtain ⟨s1, s2⟩ := ha.small ga; obtain ⟨s3, s4⟩ := hb.small gb
 have hS0 : SR w (w.heap.size + 2) [(A1, k1, c1, pa), (A2, k2, c2, Nm.dn qa), (B1, l1, u1, pb), (B2, l2, u2, Nm.dn qb)] [(w.heap.size, .slice A1 k1 c1, .slice A2 k2 c2), (w.heap.size + 1, .slice B1 l1 u1, .slice B2 l2 u2)] W := by
  have hbw : Below w.heap.size w (((w.alloc (.cells #[.slice A1 k1 c1, .slice A2 k2 c2] 29)).alloc (.cells #[.slice B1 l1 u1, .slice B2 l2 u2] 29)).alloc (.cells #[.slice none 0 0, .slice none 0 0] 29)) := Below.tr (Below.tr (bA _ _) (bA _ _)) (bA _ _)
  have h0 : SR w (w.heap.size + 2) [(A1, k1, c1, pa), (A2, k2, c2, Nm.dn qa), (B1, l1, u1, pb), (B2, l2, u2, Nm.dn qb)] [(w.heap.size, .slice A1 k1 c1, .slice A2 k2 c2), (w.heap.size + 1, .slice B1 l1 u1, .slice B2 l2 u2)] (((w.alloc (.cells #[.slice A1 k1 c1, .slice A2 k2 c2] 29)).alloc (.cells #[.slice B1 l1 u1, .slice B2 l2 u2] 29)).alloc (.cells #[.slice none 0 0, .slice none 0 0] 29)) := by
   refine ⟨?_, ?_, ?_, hbw, by omega⟩
   ·intro x hx; simp only [List.mem_cons, List.not_mem_nil, or_false] at hx
    rcases hx with rfl | rfl | rfl | rfl
    ·exact ((ha.below hbw).nb).1
    ·exact ((ha.below hbw).nb).2
    ·exact ((hb.below hbw).nb).1
    ·exact ((hb.below hbw).nb).2
   ·intro x hx; simp only [List.mem_cons, List.not_mem_nil, or_false] at hx
    rcases hx with rfl | rfl
    ·exact ⟨(Box.below (Blk.new w _ _) (bA _ _)).below (bA _ _), by show w.heap.size ≠ w.heap.size + 2; omega⟩
    ·refine ⟨?_, by show w.heap.size + 1 ≠ w.heap.size + 2; omega⟩; have := Blk.new (w.alloc (.cells #[.slice A1 k1 c1, .slice A2 k2 c2] 29)) 29 #[.slice B1 l1 u1, .slice B2 l2 u2]; refine Box.below ?_ (bA _ _); unfold Box; simpa using this
   ·have := Blk.new ((w.alloc (.cells #[.slice A1 k1 c1, .slice A2 k2 c2] 29)).alloc (.cells #[.slice B1 l1 u1, .slice B2 l2 u2] 29)) 29 #[.slice none 0 0, .slice none 0 0]; exact ⟨none, 0, 0, none, 0, 0, by simpa using this⟩
  rw [HW.out]; exact h0.below (bA _ _)
 have hp : Pair W (w.heap.size + 3) (.slice A1 k1 c1) (.slice A2 k2 c2) (.slice B1 l1 u1) (.slice B2 l2 u2) := by
  rw [HW.out]; have := Blk.new (((w.alloc (.cells #[.slice A1 k1 c1, .slice A2 k2 c2] 29)).alloc (.cells #[.slice B1 l1 u1, .slice B2 l2 u2] 29)).alloc (.cells #[.slice none 0 0, .slice none 0 0] 29)) 29 #[.slice A1 k1 c1, .slice A2 k2 c2, .slice B1 l1 u1, .slice B2 l2 u2]; unfold Pair; simpa using this
 have ha1 := ha.below hS0.be; have hb1 := hb.below hS0.be
 go_enter Tryz.func37, Tryz.ntmps37
 go_wp2_with fail; rw [← HW.out]; refine (valid2_good _ _ _ _ _ pa qa pb qb _ hp ha1 hb1 ga gb).mono ?_; rintro e W2 ⟨rfl, hbe⟩; have hS2 := hS0.below hbe; have f1 := (hS2.bx (w.heap.size, .slice A1 k1 c1, .slice A2 k2 c2) (by simp)).1.facts.1; have f2 := (hS2.bx (w.heap.size, .slice A1 k1 c1, .slice A2 k2 c2) (by simp)).1.facts.2; have f3 := (hS2.bx (w.heap.size + 1, .slice B1 l1 u1, .slice B2 l2 u2) (by simp)).1.facts.1; have f4 := (hS2.bx (w.heap.size + 1, .slice B1 l1 u1, .slice B2 l2 u2) (by simp)).1.facts.2; go_wp2_with fail; refine (crossed3_n A1 A2 B1 B2 k1 c1 k2 c2 l1 u1 l2 u2 pa qa pb qb _ (show Nb W2 A1 k1 c1 (pa) from hS2.nb (A1, k1, c1, pa) (by simp)) (show Nb W2 A2 k2 c2 (Nm.dn qa) from hS2.nb (A2, k2, c2, Nm.dn qa) (by simp)) (show Nb W2 B1 l1 u1 (pb) from hS2.nb (B1, l1, u1, pb) (by simp)) (show Nb W2 B2 l2 u2 (Nm.dn qb) from hS2.nb (B2, l2, u2, Nm.dn qb) (by simp)) hqa hqb s1 s2 s3 s4).mono ?_; rintro e W3 ⟨x, y, z, rfl, ⟨X, kx, cx, rfl, hx⟩, ⟨Y, ky, cy, rfl, hy⟩, ⟨Z, kz, cz, rfl, hz⟩, hb3⟩; obtain ⟨ga1, ga2⟩ := good_lt ga; obtain ⟨gb1, gb2⟩ := good_lt gb; have kx1 := hx.lek (prod_ltG (m := 128) ga1 (Nat.le_refl _) gb2 (Nat.le_refl _) rfl); have ky1 := hy.lek (prod_ltG (m := 128) gb1 (Nat.le_refl _) ga2 (Nat.le_refl _) rfl); have kz1 := hz.lek (prod_ltG (m := 128) ga2 (Nat.le_refl _) gb2 (Nat.le_refl _) rfl); have hS3 := hS2.below hb3; clear f1 f2 f3 f4 hS2 hS0 hbe hb3 ha1 hb1 HW hp ga1 ga2 gb1 gb2; go_wp2_with fail; refine (compare_n _ _ _ _ _ _ _ _ _ hx hy).mono ?_
 rintro e W4' ⟨dr, rfl, rfl⟩; obtain ⟨cc, hcc⟩ : ∃ cc, Hid (cc = Nm.cmpN (pa * qb) (pb * qa)) := ⟨_, rfl⟩; rw [← hcc.out]; have hb4 := below_drewN W3 dr; have hd : decide (cc < 0) = true := by rw [hcc.out, Nm.cmpN_lt hlt]; rfl
 clear hcc; have hS3 := hS3.below hb4; have hbe3 := hS3.be; clear hx hy hz hb4; obtain ⟨r1, r2, r3, r4, r5, r6, hres⟩ := hS3.sl; have q1 := hres.cell 0; have q2 := hres.cell 1; have q3 := hres.frozen 0; have q4 := hres.frozen 1; simp only [List.getElem?_toArray, List.getElem?_cons_zero, List.getElem?_cons_succ] at q1 q2; have hblk := (hres.set_ 0 (.slice none 0 0)).set_ 1 (.slice none 0 0); have z1 := hblk.cell 0; have z2 := hblk.cell 1; simp at z1 z2; have hbz := (hbe3.setCell (p := ⟨w.heap.size + 2, 0, none⟩) (show w.heap.size ≤ w.heap.size + 2 by omega) (.slice none 0 0)).setCell (p := ⟨w.heap.size + 2, 1, none⟩) (show w.heap.size ≤ w.heap.size + 2 by omega) (.slice none 0 0); clear hres hblk; go_wp2_with fail; exact bodyPost_ret (v := .tuple #[nilRat, .int .i64 5]) (by simp [results, Tryz.results37, go_sem, z1, z2, nilRat]) rfl ⟨rfl, hbz⟩
set_option maxRecDepth 10000 in
set_option maxHeartbeats 2000000 in
theorem add_err (va vb : Value) (l1 l2 l3 l4 : List Nat) (w : World) (ha : RtL w va l1 l2) (hb : RtL w vb l3 l4) (hne : firstE (Nm.validE l1 l2) (Nm.validE l3 l4) ≠ 0) :
  Calls Tryz.prog 36 #[va, vb] w fun e w' => e = .returned (.tuple #[nilRat, .int .i64 (firstE (Nm.validE l1 l2) (Nm.validE l3 l4))]) ∧ Below w.heap.size w w' := by
 obtain ⟨A1, k1, c1, A2, k2, c2, rfl⟩ := ha.shape; obtain ⟨B1, m1, d1, B2, m2, d2, rfl⟩ := hb.shape; obtain ⟨W1, HW1⟩ : ∃ W1, Hid (W1 = (((w.alloc (.cells #[.slice A1 k1 c1, .slice A2 k2 c2] 29)).alloc (.cells #[.slice B1 m1 d1, .slice B2 m2 d2] 29)).alloc (.cells #[.slice none 0 0, .slice none 0 0] 29))) := ⟨_, rfl⟩
 have hres : Res W1 (w.heap.size + 2) := by
  rw [HW1.out]; have := Blk.new ((w.alloc (.cells #[.slice A1 k1 c1, .slice A2 k2 c2] 29)).alloc (.cells #[.slice B1 m1 d1, .slice B2 m2 d2] 29)) 29 #[.slice none 0 0, .slice none 0 0]; unfold Res; simpa using this
 have hbw1 : Below w.heap.size w W1 := by rw [HW1.out]; exact Below.tr (Below.tr (bA _ _) (bA _ _)) (bA _ _)
 obtain ⟨W, HW⟩ : ∃ W, Hid (W = (W1.alloc (.cells #[.slice A1 k1 c1, .slice A2 k2 c2, .slice B1 m1 d1, .slice B2 m2 d2] 29))) := ⟨_, rfl⟩
 have hp : Pair W (w.heap.size + 3) (.slice A1 k1 c1) (.slice A2 k2 c2) (.slice B1 m1 d1) (.slice B2 m2 d2) := by
  have := Blk.new W1 29 #[.slice A1 k1 c1, .slice A2 k2 c2, .slice B1 m1 d1, .slice B2 m2 d2]; rw [HW.out]; have e : W1.heap.size = w.heap.size + 3 := by rw [HW1.out]; simp
  rw [e] at this; exact this
 have hbw : Below w.heap.size w W := by rw [HW.out]; exact Below.tr hbw1 (bA _ _)
 have hres := hres.below (show Below W1.heap.size W1 W by rw [HW.out]; exact bA _ _); have ha1 := ha.below hbw; have hb1 := hb.below hbw
 go_enter Tryz.func36, Tryz.ntmps36
 go_wp2_with fail; rw [← HW1.out, ← HW.out]; refine (valid2_any _ _ _ _ _ l1 l2 l3 l4 _ hp ha1 hb1).mono ?_; rintro e W2 ⟨E, rfl, HE, hbe⟩; have h0 : (E != 0) = true := by rw [HE.out]; simpa using hne
 have hres2 := hres.below hbe; obtain ⟨r1, r2, r3, r4⟩ := hres2.facts; obtain ⟨s1, s2⟩ := hres2.set2 (.slice none 0 0) (.slice none 0 0); have hbw2 := below_set2 (Below.tr hbw hbe) (show w.heap.size ≤ w.heap.size + 2 by omega) (.slice none 0 0) (.slice none 0 0); clear hne; go_wp2_with fail; exact bodyPost_ret (v := .tuple #[nilRat, .int .i64 E]) (by simp [results, Tryz.results36, go_sem, s1, s2, nilRat]) rfl ⟨by rw [HE.out], hbw2⟩
set_option maxRecDepth 10000 in
set_option maxHeartbeats 2000000 in
theorem sub_err (va vb : Value) (l1 l2 l3 l4 : List Nat) (w : World) (ha : RtL w va l1 l2) (hb : RtL w vb l3 l4) (hne : firstE (Nm.validE l1 l2) (Nm.validE l3 l4) ≠ 0) :
  Calls Tryz.prog 37 #[va, vb] w fun e w' => e = .returned (.tuple #[nilRat, .int .i64 (firstE (Nm.validE l1 l2) (Nm.validE l3 l4))]) ∧ Below w.heap.size w w' := by
 obtain ⟨A1, k1, c1, A2, k2, c2, rfl⟩ := ha.shape; obtain ⟨B1, m1, d1, B2, m2, d2, rfl⟩ := hb.shape; obtain ⟨W1, HW1⟩ : ∃ W1, Hid (W1 = (((w.alloc (.cells #[.slice A1 k1 c1, .slice A2 k2 c2] 29)).alloc (.cells #[.slice B1 m1 d1, .slice B2 m2 d2] 29)).alloc (.cells #[.slice none 0 0, .slice none 0 0] 29))) := ⟨_, rfl⟩
 have hres : Res W1 (w.heap.size + 2) := by
  rw [HW1.out]; have := Blk.new ((w.alloc (.cells #[.slice A1 k1 c1, .slice A2 k2 c2] 29)).alloc (.cells #[.slice B1 m1 d1, .slice B2 m2 d2] 29)) 29 #[.slice none 0 0, .slice none 0 0]; unfold Res; simpa using this
 have hbw1 : Below w.heap.size w W1 := by rw [HW1.out]; exact Below.tr (Below.tr (bA _ _) (bA _ _)) (bA _ _)
 obtain ⟨W, HW⟩ : ∃ W, Hid (W = (W1.alloc (.cells #[.slice A1 k1 c1, .slice A2 k2 c2, .slice B1 m1 d1, .slice B2 m2 d2] 29))) := ⟨_, rfl⟩
 have hp : Pair W (w.heap.size + 3) (.slice A1 k1 c1) (.slice A2 k2 c2) (.slice B1 m1 d1) (.slice B2 m2 d2) := by
  have := Blk.new W1 29 #[.slice A1 k1 c1, .slice A2 k2 c2, .slice B1 m1 d1, .slice B2 m2 d2]; rw [HW.out]; have e : W1.heap.size = w.heap.size + 3 := by rw [HW1.out]; simp
  rw [e] at this; exact this
 have hbw : Below w.heap.size w W := by rw [HW.out]; exact Below.tr hbw1 (bA _ _)
 have hres := hres.below (show Below W1.heap.size W1 W by rw [HW.out]; exact bA _ _); have ha1 := ha.below hbw; have hb1 := hb.below hbw
 go_enter Tryz.func37, Tryz.ntmps37
 go_wp2_with fail; rw [← HW1.out, ← HW.out]; refine (valid2_any _ _ _ _ _ l1 l2 l3 l4 _ hp ha1 hb1).mono ?_; rintro e W2 ⟨E, rfl, HE, hbe⟩; have h0 : (E != 0) = true := by rw [HE.out]; simpa using hne
 have hres2 := hres.below hbe; obtain ⟨r1, r2, r3, r4⟩ := hres2.facts; obtain ⟨s1, s2⟩ := hres2.set2 (.slice none 0 0) (.slice none 0 0); have hbw2 := below_set2 (Below.tr hbw hbe) (show w.heap.size ≤ w.heap.size + 2 by omega) (.slice none 0 0) (.slice none 0 0); clear hne; go_wp2_with fail; exact bodyPost_ret (v := .tuple #[nilRat, .int .i64 E]) (by simp [results, Tryz.results37, go_sem, s1, s2, nilRat]) rfl ⟨by rw [HE.out], hbw2⟩
theorem add_F : BinC 36 addF := binC_of (fun va vb a b w ha hb h => add_err va vb _ _ _ _ w ha hb h) fun va vb pa qa pb qb w ha hb ga gb => by
 refine (add_n va vb pa qa pb qb w ha hb ga gb).mono ?_; rintro e w' ⟨v, er, rfl, hr, hb⟩; obtain ⟨rfl, h⟩ := hr.resP; exact ⟨v, rfl, h, hb⟩
theorem sub_F : BinC 37 subF := binC_of (fun va vb a b w ha hb h => sub_err va vb _ _ _ _ w ha hb h) fun va vb pa qa pb qb w ha hb ga gb => by
 dsimp only
 by_cases hlt : pa * qb < pb * qa
 ·rw [if_pos hlt]; refine (sub_lt va vb pa qa pb qb w ha hb ga gb hlt).mono ?_; rintro e w' ⟨rfl, hb⟩; exact ⟨_, rfl, nil_rtP w', hb⟩
 ·rw [if_neg hlt]; refine (sub_n va vb pa qa pb qb w ha hb ga gb (by omega)).mono ?_; rintro e w' ⟨v, er, rfl, hr, hb⟩; obtain ⟨rfl, h⟩ := hr.resP; exact ⟨v, rfl, h, hb⟩
end Go.Proofs.YtmbfjmilhfmnkaaGreatDoor
