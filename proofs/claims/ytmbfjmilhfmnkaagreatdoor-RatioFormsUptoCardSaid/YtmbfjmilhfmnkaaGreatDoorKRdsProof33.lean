import Derived.Test.YtmbfjmilhfmnkaaGreatDoorKRdsProof32
import Derived.Test.YtmbfjmilhfmnkaaGreatDoorKRdsProof21
import Derived.Test.YtmbfjmilhfmnkaaGreatDoorKRdsProof20
import Derived.Test.YtmbfjmilhfmnkaaGreatDoorS0
set_option linter.unusedVariables false
set_option linter.unusedSimpArgs false
namespace Go.Proofs.YtmbfjmilhfmnkaaGreatDoor
open Go Go.RowKit
theorem Blk.newH {w : World} {T : TypeId} {arr : Array Value} {g : Nat} (h : g = w.heap.size) : Blk (w.alloc (.cells arr T)) g T arr := h ▸ Blk.new w T arr
theorem wp_nmS {P : Program} {c : Code} {Q : Exit → Act → World → Prop} {a : Act} {w : World} (h : ∀ W, Hid (W = w) → c.wp P Q a W) : c.wp P Q a w := h w rfl
theorem TwoN.mapL {w w' : World} {x : Value} {n d : Nat} (h : TwoN w x n d) (hm : ∀ A c l, Lim w A c l → Lim w' A c l) : TwoN w' x n d := by
 obtain ⟨A, k, c, A', k', c', e, h1, h2⟩ := h; exact ⟨A, k, c, A', k', c', e, ⟨h1.1, hm _ _ _ h1.2⟩, ⟨h2.1, hm _ _ _ h2.2⟩⟩
/-- what holds all along -/
structure SZ (w0 : World) (g : Nat) (Cs : List (Nat × Nat × Value)) (gO gB g1 : Nat) (W : World) : Prop where
 sx : SX w0 g Cs W
 sm : SmS gO gB g1 W
 nO : gO ≠ g
 nB : gB ≠ g
theorem SZ.step {w0 w w' : World} {g : Nat} {X : LP} {Cs : List (Nat × Nat × Value)} {gO gB g1 : Nat} (hr : RX w0.heap.size g X w w') (h : SZ w0 g Cs gO gB g1 w) : SZ w0 g Cs gO gB g1 w' :=
 ⟨h.sx.step hr, ⟨hr.cell _ _ _ h.nO h.sm.c1, hr.cell _ _ _ h.nB h.sm.cb, ⟨h.sm.n1.1, hr.lim _ _ _ h.sm.n1.2⟩⟩, h.nO, h.nB⟩
section
variable {w0 W : World} {g gO gB g1 : Nat} {Cs : List (Nat × Nat × Value)}
theorem SZ.cl (h : SZ w0 g Cs gO gB g1 W) : ∀ c ∈ Cs, W.cell? ⟨c.1, c.2.1, none⟩ = some c.2.2 ∧ c.1 ≠ g := h.sx.cl
theorem SZ.sl (h : SZ w0 g Cs gO gB g1 W) : Sl W g := h.sx.sl
theorem SZ.be (h : SZ w0 g Cs gO gB g1 W) : Below w0.heap.size w0 W := h.sx.be
theorem SZ.ge (h : SZ w0 g Cs gO gB g1 W) : w0.heap.size ≤ g := h.sx.ge
theorem SZ.size (h : SZ w0 g Cs gO gB g1 W) : w0.heap.size ≤ W.heap.size := h.sx.size
theorem SZ.lt (h : SZ w0 g Cs gO gB g1 W) : g < W.heap.size := h.sx.lt
end
theorem redP_le {n d : Nat} : n / Nat.gcd n d ≤ n ∧ d / Nat.gcd n d ≤ d := ⟨Nat.div_le_self _ _, Nat.div_le_self _ _⟩
theorem reduced_ok (A1 A2 : Option Addr) (c1 c2 k1 k2 n d : Nat) (w : World) (h1 : Nb w A1 k1 c1 n) (h2 : Nb w A2 k2 c2 d) (hn : n < Nm.B ^ 64) (hd : d < Nm.B ^ 64) (h0 : 0 < d) :
  Calls Tryz.prog 67 #[.slice A1 k1 c1, .slice A2 k2 c2] w fun e w' => ∃ v, e = .returned (.tuple #[v, .int .i64 0]) ∧ RtP w' v (redP n d) ∧ Below w.heap.size w w' := by
 have hk1 := h1.k64 hn; have hk2 := h2.k64 hd; refine (reduced_n _ _ _ _ _ _ _ _ _ h1 h2 (by omega) (by omega) h0).mono ?_; rintro e w' ⟨v, er, rfl, hR, hb⟩; obtain ⟨rfl, h⟩ := hR.resP; rw [resP_small hn hd] at h ⊢; exact ⟨v, rfl, h, hb⟩
noncomputable def simF : LP → LP → Int × LP := binF fun x y => if y.1 * x.2 < x.1 * y.2 then (5, nilP) else (0, redP (Nm.simple x.1 x.2 y.1 y.2).1 (Nm.simple x.1 x.2 y.1 y.2).2)
def PhiSml (gO gB ba bb g : Nat) (a1 a2 b1 b2 : Value) (qa qb n d : Nat) (j : Nat) (w : World) (x : Value) : Prop :=
 match j with
 | 0 => x = .func (.func 77) #[] #[.pointer (some ⟨gO, 0, none⟩), .pointer (some ⟨gB, 0, none⟩)]
 | 1 => x = .pointer (some ⟨ba, 0, none⟩)
 | 2 => x = a1
 | 3 => x = .agg #[a1, a2]
 | 4 => ∃ A k c, x = .slice A k c ∧ Nb w A k c qa
 | 5 => x = .pointer (some ⟨bb, 0, none⟩)
 | 6 => x = b1
 | 7 => x = .agg #[b1, b2]
 | 8 => ∃ A k c, x = .slice A k c ∧ Nb w A k c qb
 | 9 => TwoN w x n d
 | 10 => ∃ A k c, x = .slice A k c ∧ Nb w A k c n
 | 11 => ∃ A k c, x = .slice A k c ∧ Nb w A k c d
 | 12 => ∃ v, x = .tuple #[v, .int .i64 0] ∧ RtP w v (redP n d)
 | 13 => RtP w x (redP n d)
 | 14 => x = .int .i64 0
 | 15 => GoodX w g (redP n d)
 | 16 => x = .int .i64 0
 | _ => True

theorem PhiSml.keep {B : Nat} {gO gB ba bb g : Nat} {a1 a2 b1 b2 : Value} {qa qb n d : Nat} : ∀ (w w' : World), RX B g (redP n d) w w' → ∀ j x, PhiSml gO gB ba bb g a1 a2 b1 b2 qa qb n d j w x → PhiSml gO gB ba bb g a1 a2 b1 b2 qa qb n d j w' x := by
 intro w w' hr j x h; unfold PhiSml at h ⊢
 split <;> simp only at h ⊢
 all_goals first
  | exact h
  | exact h.mapL hr.lim
  | exact h.map hr
  | (obtain ⟨A, k, c, e, h1, h2⟩ := h; exact ⟨A, k, c, e, h1, hr.lim _ _ _ h2⟩)
  | (obtain ⟨v, e, h⟩ := h; exact ⟨v, e, h.mapL hr.lim⟩)
set_option maxRecDepth 10000 in
set_option maxHeartbeats 2000000 in
theorem simplest_n (va vb : Value) (pa qa pb qb : Nat) (w : World) (ha : Rat w va pa qa) (hb : Rat w vb pb qb) (ga : Nm.Good pa qa) (gb : Nm.Good pb qb) (hle : pa * qb ≤ pb * qa) :
  Calls Tryz.prog 41 #[va, vb] w fun e w' => ∃ v, e = .returned (.tuple #[v, .int .i64 0]) ∧ RtP w' v (redP (Nm.simple pa qa pb qb).1 (Nm.simple pa qa pb qb).2) ∧ Below w.heap.size w w' := by
 obtain ⟨⟨n, d⟩, HND⟩ : ∃ z, Hid (z = Nm.simple pa qa pb qb) := ⟨Nm.simple pa qa pb qb, rfl⟩; rw [← HND.out]; obtain ⟨A1, k1, c1, A2, k2, c2, rfl⟩ := ha.shape; obtain ⟨B1, l1, u1, B2, l2, u2, rfl⟩ := hb.shape; obtain ⟨W, HW⟩ : ∃ W, Hid (W = ((((w.alloc (.cells #[.slice A1 k1 c1, .slice A2 k2 c2] 29)).alloc (.cells #[.slice B1 l1 u1, .slice B2 l2 u2] 29)).alloc (.cells #[.slice none 0 0, .slice none 0 0] 29)).alloc (.cells #[.slice A1 k1 c1, .slice A2 k2 c2, .slice B1 l1 u1, .slice B2 l2 u2] 29))) := ⟨_, rfl⟩; have hqa := ga.pos; have hqb := gb.pos; obtain ⟨s1, s2⟩ := ha.small ga; obtain ⟨s3, s4⟩ := hb.small gb
 have hS0 : SR w (w.heap.size + 2) [(A1, k1, c1, pa), (A2, k2, c2, Nm.dn qa), (B1, l1, u1, pb), (B2, l2, u2, Nm.dn qb)] [(w.heap.size, .slice A1 k1 c1, .slice A2 k2 c2), (w.heap.size + 1, .slice B1 l1 u1, .slice B2 l2 u2)] W := by
  have hbw : Below w.heap.size w (((w.alloc (.cells #[.slice A1 k1 c1, .slice A2 k2 c2] 29)).alloc (.cells #[.slice B1 l1 u1, .slice B2 l2 u2] 29)).alloc (.cells #[.slice none 0 0, .slice none 0 0] 29)) := Below.tr (Below.tr (bA _ _) (bA _ _)) (bA _ _)
  have h0 : SR w (w.heap.size + 2) [(A1, k1, c1, pa), (A2, k2, c2, Nm.dn qa), (B1, l1, u1, pb), (B2, l2, u2, Nm.dn qb)] [(w.heap.size, .slice A1 k1 c1, .slice A2 k2 c2), (w.heap.size + 1, .slice B1 l1 u1, .slice B2 l2 u2)] (((w.alloc (.cells #[.slice A1 k1 c1, .slice A2 k2 c2] 29)).alloc (.cells #[.slice B1 l1 u1, .slice B2 l2 u2] 29)).alloc (.cells #[.slice none 0 0, .slice none 0 0] 29)) := by
   refine ⟨?_, ?_, ?_, hbw, by omega⟩
   ·intro x hx; simp only [List.mem_cons, List.not_mem_nil, or_false] at hx
    rcases hx with rfl | rfl | rfl | rfl
    ·exact ((ha.below hbw).nb).1
    ·exact ((ha.below hbw).nb).2
    ·exact ((hb.below hbw).nb).1
    ·exact ((hb.below hbw).nb).2
   ·intro x hx; simp only [List.mem_cons, List.not_mem_nil, or_false] at hx
    rcases hx with rfl | rfl
    ·exact ⟨(Box.below (Blk.new w _ _) (bA _ _)).below (bA _ _), by show w.heap.size ≠ w.heap.size + 2; omega⟩
    ·refine ⟨?_, by show w.heap.size + 1 ≠ w.heap.size + 2; omega⟩; have := Blk.new (w.alloc (.cells #[.slice A1 k1 c1, .slice A2 k2 c2] 29)) 29 #[.slice B1 l1 u1, .slice B2 l2 u2]; refine Box.below ?_ (bA _ _); unfold Box; simpa using this
   ·have := Blk.new ((w.alloc (.cells #[.slice A1 k1 c1, .slice A2 k2 c2] 29)).alloc (.cells #[.slice B1 l1 u1, .slice B2 l2 u2] 29)) 29 #[.slice none 0 0, .slice none 0 0]; exact ⟨none, 0, 0, none, 0, 0, by simpa using this⟩
  rw [HW.out]; exact h0.below (bA _ _)
 have hp : Pair W (w.heap.size + 3) (.slice A1 k1 c1) (.slice A2 k2 c2) (.slice B1 l1 u1) (.slice B2 l2 u2) := by
  rw [HW.out]; have := Blk.new (((w.alloc (.cells #[.slice A1 k1 c1, .slice A2 k2 c2] 29)).alloc (.cells #[.slice B1 l1 u1, .slice B2 l2 u2] 29)).alloc (.cells #[.slice none 0 0, .slice none 0 0] 29)) 29 #[.slice A1 k1 c1, .slice A2 k2 c2, .slice B1 l1 u1, .slice B2 l2 u2]; unfold Pair; simpa using this
 have ha1 := ha.below hS0.be; have hb1 := hb.below hS0.be
 go_enter Tryz.func41, Tryz.ntmps41
 go_wp2_with fail; rw [← HW.out]; refine (valid2_good _ _ _ _ _ pa qa pb qb _ hp ha1 hb1 ga gb).mono ?_; rintro e W2 ⟨rfl, hbe⟩; have hS2 := hS0.below hbe; have f1 := (hS2.bx (w.heap.size, .slice A1 k1 c1, .slice A2 k2 c2) (by simp)).1.facts.1; have f2 := (hS2.bx (w.heap.size, .slice A1 k1 c1, .slice A2 k2 c2) (by simp)).1.facts.2; have f3 := (hS2.bx (w.heap.size + 1, .slice B1 l1 u1, .slice B2 l2 u2) (by simp)).1.facts.1; have f4 := (hS2.bx (w.heap.size + 1, .slice B1 l1 u1, .slice B2 l2 u2) (by simp)).1.facts.2; go_wp2_with fail; refine (crossed3_n A1 A2 B1 B2 k1 c1 k2 c2 l1 u1 l2 u2 pa qa pb qb _ (show Nb W2 A1 k1 c1 (pa) from hS2.nb (A1, k1, c1, pa) (by simp)) (show Nb W2 A2 k2 c2 (Nm.dn qa) from hS2.nb (A2, k2, c2, Nm.dn qa) (by simp)) (show Nb W2 B1 l1 u1 (pb) from hS2.nb (B1, l1, u1, pb) (by simp)) (show Nb W2 B2 l2 u2 (Nm.dn qb) from hS2.nb (B2, l2, u2, Nm.dn qb) (by simp)) hqa hqb s1 s2 s3 s4).mono ?_; rintro e W3 ⟨x, y, z, rfl, ⟨X, kx, cx, rfl, hx⟩, ⟨Y, ky, cy, rfl, hy⟩, ⟨Z, kz, cz, rfl, hz⟩, hb3⟩; have hS3 := hS2.below hb3; clear f1 f2 f3 f4 hS2 hS0 hbe hb3 ha1 hb1 HW hp; go_wp2_with fail; refine (compare_n _ _ _ _ _ _ _ _ _ hx hy).mono ?_; rintro e W4' ⟨dr, rfl, rfl⟩; obtain ⟨cc, hcc⟩ : ∃ cc, Hid (cc = Nm.cmpN (pa * qb) (pb * qa)) := ⟨_, rfl⟩; rw [← hcc.out]; have hb4 := below_drewN W3 dr
 have hcn : ¬ 0 < cc := by
  rw [hcc.out]; unfold Nm.cmpN
  split
  ·omega
  ·rw [if_neg (by omega)]; omega
 have hd : decide (0 < cc) = false := by simpa using hcn
 have hS3 := hS3.below hb4; obtain ⟨W4, hW4⟩ : ∃ z, z = W3.drewN dr := ⟨_, rfl⟩; rw [← hW4] at hS3 ⊢; clear hcc hcn hx hy hz hb4 hW4; go_upto_region 10 with fail; refine wp_nmS ?_; intro W5 HW5; have hb45 : Below W4.heap.size W4 W5 := by rw [HW5.out]; exact Below.tr (Below.tr (bA _ _) (bA _ _)) (bA _ _)
 have hN1 : Nb W5 (some ⟨W4.heap.size, 0, none⟩) 1 1 1 := by rw [HW5.out]; exact ((Nb.one W4 _ rfl).below (bA _ _)).below (bA _ _)
 obtain ⟨T1, hB1'⟩ : ∃ T, Blk W5 (W4.heap.size + 1) T #[.slice (some ⟨W4.heap.size, 0, none⟩) 1 1] := ⟨_, by rw [HW5.out]; exact Blk.below (Blk.newH (by simp)) (bA _ _) (by simp)⟩; obtain ⟨T2, hB2'⟩ : ∃ T, Blk W5 (W4.heap.size + 1 + 1) T #[.func (.func 77) #[] #[.pointer (some ⟨W4.heap.size + 1, 0, none⟩), .pointer (some ⟨W4.heap.size + 1 + 1, 0, none⟩)]] := ⟨_, by rw [HW5.out]; exact Blk.newH (by simp)⟩; obtain ⟨g1, hg1⟩ : ∃ g, Hid (g = W4.heap.size) := ⟨_, rfl⟩; obtain ⟨gO, hgO⟩ : ∃ g, Hid (g = W4.heap.size + 1) := ⟨_, rfl⟩; obtain ⟨gB, hgB⟩ : ∃ g, Hid (g = W4.heap.size + 1 + 1) := ⟨_, rfl⟩; rw [← hgB.out] at hB2' ⊢; rw [← hgO.out] at hB1' hB2' ⊢; rw [← hg1.out] at hN1 hB1' ⊢; have hsm : SmS gO gB g1 W5 := ⟨hB1'.cell 0, hB2'.cell 0, hN1⟩; have hgl := hS3.sl.lt; have hS5 := hS3.below hb45
 have hZ : SZ w (w.heap.size + 2) [(w.heap.size, 0, .slice A1 k1 c1), (w.heap.size, 1, .slice A2 k2 c2), (w.heap.size + 1, 0, .slice B1 l1 u1), (w.heap.size + 1, 1, .slice B2 l2 u2)] gO gB g1 W5 := by
  refine ⟨⟨?_, hS5.sl, hS5.be, by omega⟩, hsm, by have := hgO.out; omega, by have := hgB.out; omega⟩; intro x hx; have g1 := (hS5.bx (w.heap.size, .slice A1 k1 c1, .slice A2 k2 c2) (by simp)).1.facts; have g2 := (hS5.bx (w.heap.size + 1, .slice B1 l1 u1, .slice B2 l2 u2) (by simp)).1.facts; simp only [List.mem_cons, List.not_mem_nil, or_false] at hx
  rcases hx with rfl | rfl | rfl | rfl
  ·exact ⟨g1.1, by show w.heap.size ≠ w.heap.size + 2; omega⟩
  ·exact ⟨g1.2, by show w.heap.size ≠ w.heap.size + 2; omega⟩
  ·exact ⟨g2.1, by show w.heap.size + 1 ≠ w.heap.size + 2; omega⟩
  ·exact ⟨g2.2, by show w.heap.size + 1 ≠ w.heap.size + 2; omega⟩
 obtain ⟨ga1, ga2⟩ := good_lt ga; obtain ⟨gb1, gb2⟩ := good_lt gb; have hSP : Nm.SimP pa qa pb qb := ⟨hqa, hqb, hle⟩; have HSR := Nm.sim_ok (qa + qb) pa qa pb qb hSP (Nat.le_refl _); have HND2 := HND.out; unfold Nm.simple at HND2; rw [← HND2] at HSR; have HG : Hid (n < Nm.B ^ 64 ∧ d < Nm.B ^ 64 ∧ 0 < d) := ⟨Nat.lt_of_le_of_lt HSR.na ga1, Nat.lt_of_le_of_lt HSR.da ga2, HSR.pos⟩
 have HB : ∀ (C1 : Option Addr) (j1 d1 : Nat) (C2 : Option Addr) (j2 d2 : Nat) (C3 : Option Addr) (j3 d3 : Nat) (C4 : Option Addr) (j4 d4 : Nat) (W : World), SmS gO gB g1 W → Nb W C1 j1 d1 pa → Nb W C2 j2 d2 qa → Nb W C3 j3 d3 pb → Nb W C4 j4 d4 qb → Calls Tryz.prog 77 #[.slice C1 j1 d1, .slice C2 j2 d2, .slice C3 j3 d3, .slice C4 j4 d4, .pointer (some ⟨gO, 0, none⟩), .pointer (some ⟨gB, 0, none⟩)] W fun e w' => ∃ A k c A' k' c', e = .returned (.tuple #[.slice A k c, .slice A' k' c']) ∧ Nb w' A k c n ∧ Nb w' A' k' c' d ∧ Below W.heap.size W w' := by
  intro C1 j1 d1 C2 j2 d2 C3 j3 d3 C4 j4 d4 W hc g1' g2' g3' g4'; have h := between_n (qa + qb) pa qa pb qb C1 j1 d1 C2 j2 d2 C3 j3 d3 C4 j4 d4 gO gB g1 W hc hSP (Nat.le_refl _) ⟨ga1, ga2, gb1, gb2⟩ g1' g2' g3' g4'; rw [← HND2] at h; exact h
 have hA1 := ha.nb.1; have hA2 := ha.nb.2; have hB1 := hb.nb.1; have hB2 := hb.nb.2; clear HW5 hb45 hN1 hB1' hB2' hS3 hS5 hsm hgl HND2 HSR HND ha hb hle hd; refine region_inv (PhiSml gO gB w.heap.size (w.heap.size + 1) (w.heap.size + 2) (.slice A1 k1 c1) (.slice A2 k2 c2) (.slice B1 l1 u1) (.slice B2 l2 u2) qa qb n d) (RX w.heap.size (w.heap.size + 2) (redP n d)) (SZ w (w.heap.size + 2) [(w.heap.size, 0, .slice A1 k1 c1), (w.heap.size, 1, .slice A2 k2 c2), (w.heap.size + 1, 0, .slice B1 l1 u1), (w.heap.size + 1, 1, .slice B2 l2 u2)] gO gB g1) (by kernel_rfl) (by kernel_rfl) (by kernel_rfl) PhiSml.keep (fun _ _ hR hS => hS.step hR) (hZ.step (X := redP n d) (RX.below (bD _) hZ.size hZ.lt)) ?_ ?_
 ·refine sK ?_ (sK ?_ (sK ?_ (sK ?_ (sK ?_ (sK ?_ (sK ?_ (sK ?_ (sK ?_ (sK ?_ (sK ?_ (sK ?_ (sK ?_ (sK ?_ (sK ?_ (sK ?_ (sK ?_ (sZ)))))))))))))))))
  ·intro vs W hS hdep K hK; have f1 := hS.sm.cb; refine ⟨?_⟩; simp only [fillR, Act.put, sA, sB, sC, Nat.zero_add, Nat.reduceAdd] at hK ⊢; go_simp; with_reducible refine hK _ _ (RX.refl _) ?_
   exact rfl
  ·intro vs W hS hdep K hK; refine ⟨?_⟩; simp only [fillR, Act.put, sA, sB, sC, Nat.zero_add, Nat.reduceAdd] at hK ⊢; go_simp; with_reducible refine hK _ _ (RX.refl _) ?_
   exact rfl
  ·intro vs W hS hdep K hK; have d0 := hdep ⟨1, .data⟩ (by simp) rfl; simp only [PhiSml] at d0; have f1 := (hS.cl (w.heap.size, 0, .slice A1 k1 c1) (by simp)).1; refine ⟨?_⟩; simp only [fillR, Act.put, sA, sB, sC, Nat.zero_add, Nat.reduceAdd, d0] at hK ⊢; go_simp; with_reducible refine hK _ _ (RX.refl _) ?_
   exact rfl
  ·intro vs W hS hdep K hK; have f1 := (hS.cl (w.heap.size, 0, .slice A1 k1 c1) (by simp)).1; have f2 := (hS.cl (w.heap.size, 1, .slice A2 k2 c2) (by simp)).1; refine ⟨?_⟩; simp only [fillR, Act.put, sA, sB, sC, Nat.zero_add, Nat.reduceAdd] at hK ⊢; go_simp; with_reducible refine hK _ _ (RX.refl _) ?_
   exact rfl
  ·intro vs W hS hdep K hK; have d0 := hdep ⟨3, .data⟩ (by simp) rfl; simp only [PhiSml] at d0; refine ⟨?_⟩; simp only [fillR, Act.put, sA, sB, sC, Nat.zero_add, Nat.reduceAdd, d0] at hK ⊢; go_simp; refine (den_n _ _ _ _ _ _ _ _ (hA2.below hS.be) hqa (by omega)).mono ?_; rintro e w' ⟨A, k, c, rfl, hn, _, hb⟩; go_wp2_with fail; with_reducible refine hK _ _ (RX.below hb hS.size hS.lt) ?_
   exact ⟨A, k, c, rfl, hn⟩
  ·intro vs W hS hdep K hK; refine ⟨?_⟩; simp only [fillR, Act.put, sA, sB, sC, Nat.zero_add, Nat.reduceAdd] at hK ⊢; go_simp; with_reducible refine hK _ _ (RX.refl _) ?_
   exact rfl
  ·intro vs W hS hdep K hK; have d0 := hdep ⟨5, .data⟩ (by simp) rfl; simp only [PhiSml] at d0; have f1 := (hS.cl (w.heap.size + 1, 0, .slice B1 l1 u1) (by simp)).1; refine ⟨?_⟩; simp only [fillR, Act.put, sA, sB, sC, Nat.zero_add, Nat.reduceAdd, d0] at hK ⊢; go_simp; with_reducible refine hK _ _ (RX.refl _) ?_
   exact rfl
  ·intro vs W hS hdep K hK; have f1 := (hS.cl (w.heap.size + 1, 0, .slice B1 l1 u1) (by simp)).1; have f2 := (hS.cl (w.heap.size + 1, 1, .slice B2 l2 u2) (by simp)).1; refine ⟨?_⟩; simp only [fillR, Act.put, sA, sB, sC, Nat.zero_add, Nat.reduceAdd] at hK ⊢; go_simp; with_reducible refine hK _ _ (RX.refl _) ?_
   exact rfl
  ·intro vs W hS hdep K hK; have d0 := hdep ⟨7, .data⟩ (by simp) rfl; simp only [PhiSml] at d0; refine ⟨?_⟩; simp only [fillR, Act.put, sA, sB, sC, Nat.zero_add, Nat.reduceAdd, d0] at hK ⊢; go_simp; refine (den_n _ _ _ _ _ _ _ _ (hB2.below hS.be) hqb (by omega)).mono ?_; rintro e w' ⟨A, k, c, rfl, hn, _, hb⟩; go_wp2_with fail; with_reducible refine hK _ _ (RX.below hb hS.size hS.lt) ?_
   exact ⟨A, k, c, rfl, hn⟩
  ·intro vs W hS hdep K hK; have d0 := hdep ⟨0, .data⟩ (by simp) rfl; simp only [PhiSml] at d0; have d1 := hdep ⟨2, .data⟩ (by simp) rfl; simp only [PhiSml] at d1; have d2 := hdep ⟨4, .data⟩ (by simp) rfl; simp only [PhiSml] at d2; refine @exE3 _ _ _ _ _ d2 ?_; clear d2; intro A2 k2 c2 d2; have e2 := d2.1; have n2 := d2.2; clear d2; have d3 := hdep ⟨6, .data⟩ (by simp) rfl; simp only [PhiSml] at d3; have d4 := hdep ⟨8, .data⟩ (by simp) rfl; simp only [PhiSml] at d4; refine @exE3 _ _ _ _ _ d4 ?_; clear d4; intro A4 k4 c4 d4; have e4 := d4.1; have n4 := d4.2; clear d4; refine ⟨?_⟩; simp only [fillR, Act.put, sA, sB, sC, Nat.zero_add, Nat.reduceAdd, d0, d1, e2, d3, e4] at hK ⊢; go_simp; refine (HB _ _ _ _ _ _ _ _ _ _ _ _ _ hS.sm (hA1.below hS.be) n2 (hB1.below hS.be) n4).mono ?_; rintro e w' ⟨A, k, c, A', k', c', rfl, hn, hn', hb⟩; go_wp2_with fail; with_reducible refine hK _ _ (RX.below hb hS.size hS.lt) ?_
   exact ⟨_, _, _, _, _, _, rfl, hn, hn'⟩
  ·intro vs W hS hdep K hK; have d0 := hdep ⟨9, .data⟩ (by simp) rfl; simp only [PhiSml] at d0; have r0 := d0; clear d0; obtain ⟨A, k, c, A', k', c', e, h1', h2'⟩ := r0; refine ⟨?_⟩; simp only [fillR, Act.put, sA, sB, sC, Nat.zero_add, Nat.reduceAdd, e] at hK ⊢; go_simp; with_reducible refine hK _ _ (RX.refl _) ?_
   exact ⟨_, _, _, rfl, h1'⟩
  ·intro vs W hS hdep K hK; have d0 := hdep ⟨9, .data⟩ (by simp) rfl; simp only [PhiSml] at d0; have r0 := d0; clear d0; obtain ⟨A, k, c, A', k', c', e, h1', h2'⟩ := r0; refine ⟨?_⟩; simp only [fillR, Act.put, sA, sB, sC, Nat.zero_add, Nat.reduceAdd, e] at hK ⊢; go_simp; with_reducible refine hK _ _ (RX.refl _) ?_
   exact ⟨_, _, _, rfl, h2'⟩
  ·intro vs W hS hdep K hK; have d0 := hdep ⟨10, .data⟩ (by simp) rfl; simp only [PhiSml] at d0; refine @exE3 _ _ _ _ _ d0 ?_; clear d0; intro A0 k0 c0 d0; have e0 := d0.1; have n0 := d0.2; clear d0; have d1 := hdep ⟨11, .data⟩ (by simp) rfl; simp only [PhiSml] at d1; refine @exE3 _ _ _ _ _ d1 ?_; clear d1; intro A1 k1 c1 d1; have e1 := d1.1; have n1 := d1.2; clear d1; refine ⟨?_⟩; simp only [fillR, Act.put, sA, sB, sC, Nat.zero_add, Nat.reduceAdd, e0, e1] at hK ⊢; go_simp; refine (reduced_ok _ _ _ _ _ _ n d _ n0 n1 HG.out.1 HG.out.2.1 HG.out.2.2).mono ?_; rintro e w' ⟨v, rfl, hv, hb⟩; go_wp2_with fail; with_reducible refine hK _ _ (RX.below hb hS.size hS.lt) ?_
   exact ⟨v, rfl, hv⟩
  ·intro vs W hS hdep K hK; have d0 := hdep ⟨12, .data⟩ (by simp) rfl; simp only [PhiSml] at d0; refine @exE1 _ _ _ d0 ?_; clear d0; intro v0 d0; have e0 := d0.1; have n0 := d0.2; clear d0; refine ⟨?_⟩; simp only [fillR, Act.put, sA, sB, sC, Nat.zero_add, Nat.reduceAdd, e0] at hK ⊢; go_simp; with_reducible refine hK _ _ (RX.refl _) ?_
   exact n0
  ·intro vs W hS hdep K hK; have d0 := hdep ⟨12, .data⟩ (by simp) rfl; simp only [PhiSml] at d0; refine @exE1 _ _ _ d0 ?_; clear d0; intro v0 d0; have e0 := d0.1; have n0 := d0.2; clear d0; refine ⟨?_⟩; simp only [fillR, Act.put, sA, sB, sC, Nat.zero_add, Nat.reduceAdd, e0] at hK ⊢; go_simp; with_reducible refine hK _ _ (RX.refl _) ?_
   exact rfl
  ·intro vs W hS hdep K hK; have d0 := hdep ⟨13, .data⟩ (by simp) rfl; simp only [PhiSml] at d0; have r0 := d0; clear d0; obtain ⟨A, k, c, A', k', c', e0⟩ := r0.shape; rw [e0] at r0; obtain ⟨r1, r2, r3, r4, r5, r6, hres⟩ := hS.sl; have q1 := hres.cell 0; have q2 := hres.cell 1; have q3 := hres.frozen 0; have q4 := hres.frozen 1; simp at q1 q2; have HR := Lib.hid (RX.store (B := w.heap.size) hS.sl hS.ge r0); clear hres; refine ⟨?_⟩; simp only [fillR, Act.put, sA, sB, sC, Nat.zero_add, Nat.reduceAdd, e0] at hK ⊢; go_simp; with_reducible refine hK undef _ HR.out.1 ?_
   exact HR.out.2
  ·intro vs W hS hdep K hK; have d0 := hdep ⟨14, .data⟩ (by simp) rfl; simp only [PhiSml] at d0; refine ⟨?_⟩; simp only [fillR, Act.put, sA, sB, sC, Nat.zero_add, Nat.reduceAdd, d0] at hK ⊢; go_simp; with_reducible refine hK _ _ (RX.refl _) ?_
   exact rfl
 ·intro vs W hS hv; have vG := hv 15 (by simp); have v16 := hv 16 (by simp); simp only [PhiSml] at vG v16; obtain ⟨A, k, c, A', k', c', hblk, hP⟩ := vG; have q1 := hblk.cell 0; have q2 := hblk.cell 1; simp at q1 q2; have HP := Lib.hid hP; have hbz := hS.be; clear hv hblk hP hS; simp only [fillR, Act.put, sA, sB, sC, Nat.zero_add, Nat.reduceAdd, v16]; go_wp2_with fail; exact bodyPost_ret (v := .tuple #[.agg #[.slice A k c, .slice A' k' c'], .int .i64 0]) (by simp [results, Tryz.results41, go_sem, q1, q2]) rfl ⟨_, rfl, HP.out, hbz⟩
set_option maxRecDepth 10000 in
set_option maxHeartbeats 2000000 in
theorem simplest_gt (va vb : Value) (pa qa pb qb : Nat) (w : World) (ha : Rat w va pa qa) (hb : Rat w vb pb qb) (ga : Nm.Good pa qa) (gb : Nm.Good pb qb) (hlt : pb * qa < pa * qb) :
  Calls Tryz.prog 41 #[va, vb] w fun e w' => e = .returned (.tuple #[nilRat, .int .i64 5]) ∧ Below w.heap.size w w' := by
 obtain ⟨A1, k1, c1, A2, k2, c2, rfl⟩ := ha.shape; obtain ⟨B1, l1, u1, B2, l2, u2, rfl⟩ := hb.shape; obtain ⟨W, HW⟩ : ∃ W, Hid (W = ((((w.alloc (.cells #[.slice A1 k1 c1, .slice A2 k2 c2] 29)).alloc (.cells #[.slice B1 l1 u1, .slice B2 l2 u2] 29)).alloc (.cells #[.slice none 0 0, .slice none 0 0] 29)).alloc (.cells #[.slice A1 k1 c1, .slice A2 k2 c2, .slice B1 l1 u1, .slice B2 l2 u2] 29))) := ⟨_, rfl⟩; have hqa := ga.pos; have hqb := gb.pos; obtain ⟨s1, s2⟩ := ha.small ga; obtain ⟨s3, s4⟩ := hb.small gb
 have hS0 : SR w (w.heap.size + 2) [(A1, k1, c1, pa), (A2, k2, c2, Nm.dn qa), (B1, l1, u1, pb), (B2, l2, u2, Nm.dn qb)] [(w.heap.size, .slice A1 k1 c1, .slice A2 k2 c2), (w.heap.size + 1, .slice B1 l1 u1, .slice B2 l2 u2)] W := by
  have hbw : Below w.heap.size w (((w.alloc (.cells #[.slice A1 k1 c1, .slice A2 k2 c2] 29)).alloc (.cells #[.slice B1 l1 u1, .slice B2 l2 u2] 29)).alloc (.cells #[.slice none 0 0, .slice none 0 0] 29)) := Below.tr (Below.tr (bA _ _) (bA _ _)) (bA _ _)
  have h0 : SR w (w.heap.size + 2) [(A1, k1, c1, pa), (A2, k2, c2, Nm.dn qa), (B1, l1, u1, pb), (B2, l2, u2, Nm.dn qb)] [(w.heap.size, .slice A1 k1 c1, .slice A2 k2 c2), (w.heap.size + 1, .slice B1 l1 u1, .slice B2 l2 u2)] (((w.alloc (.cells #[.slice A1 k1 c1, .slice A2 k2 c2] 29)).alloc (.cells #[.slice B1 l1 u1, .slice B2 l2 u2] 29)).alloc (.cells #[.slice none 0 0, .slice none 0 0] 29)) := by
   refine ⟨?_, ?_, ?_, hbw, by omega⟩
   ·intro x hx; simp only [List.mem_cons, List.not_mem_nil, or_false] at hx
    rcases hx with rfl | rfl | rfl | rfl
    ·exact ((ha.below hbw).nb).1
    ·exact ((ha.below hbw).nb).2
    ·exact ((hb.below hbw).nb).1
    ·exact ((hb.below hbw).nb).2
   ·intro x hx; simp only [List.mem_cons, List.not_mem_nil, or_false] at hx
    rcases hx with rfl | rfl
    ·exact ⟨(Box.below (Blk.new w _ _) (bA _ _)).below (bA _ _), by show w.heap.size ≠ w.heap.size + 2; omega⟩
    ·refine ⟨?_, by show w.heap.size + 1 ≠ w.heap.size + 2; omega⟩; have := Blk.new (w.alloc (.cells #[.slice A1 k1 c1, .slice A2 k2 c2] 29)) 29 #[.slice B1 l1 u1, .slice B2 l2 u2]; refine Box.below ?_ (bA _ _); unfold Box; simpa using this
   ·have := Blk.new ((w.alloc (.cells #[.slice A1 k1 c1, .slice A2 k2 c2] 29)).alloc (.cells #[.slice B1 l1 u1, .slice B2 l2 u2] 29)) 29 #[.slice none 0 0, .slice none 0 0]; exact ⟨none, 0, 0, none, 0, 0, by simpa using this⟩
  rw [HW.out]; exact h0.below (bA _ _)
 have hp : Pair W (w.heap.size + 3) (.slice A1 k1 c1) (.slice A2 k2 c2) (.slice B1 l1 u1) (.slice B2 l2 u2) := by
  rw [HW.out]; have := Blk.new (((w.alloc (.cells #[.slice A1 k1 c1, .slice A2 k2 c2] 29)).alloc (.cells #[.slice B1 l1 u1, .slice B2 l2 u2] 29)).alloc (.cells #[.slice none 0 0, .slice none 0 0] 29)) 29 #[.slice A1 k1 c1, .slice A2 k2 c2, .slice B1 l1 u1, .slice B2 l2 u2]; unfold Pair; simpa using this
 have ha1 := ha.below hS0.be; have hb1 := hb.below hS0.be
 go_enter Tryz.func41, Tryz.ntmps41
 go_wp2_with fail; rw [← HW.out]; refine (valid2_good _ _ _ _ _ pa qa pb qb _ hp ha1 hb1 ga gb).mono ?_; rintro e W2 ⟨rfl, hbe⟩; have hS2 := hS0.below hbe; have f1 := (hS2.bx (w.heap.size, .slice A1 k1 c1, .slice A2 k2 c2) (by simp)).1.facts.1; have f2 := (hS2.bx (w.heap.size, .slice A1 k1 c1, .slice A2 k2 c2) (by simp)).1.facts.2; have f3 := (hS2.bx (w.heap.size + 1, .slice B1 l1 u1, .slice B2 l2 u2) (by simp)).1.facts.1; have f4 := (hS2.bx (w.heap.size + 1, .slice B1 l1 u1, .slice B2 l2 u2) (by simp)).1.facts.2; go_wp2_with fail; refine (crossed3_n A1 A2 B1 B2 k1 c1 k2 c2 l1 u1 l2 u2 pa qa pb qb _ (show Nb W2 A1 k1 c1 (pa) from hS2.nb (A1, k1, c1, pa) (by simp)) (show Nb W2 A2 k2 c2 (Nm.dn qa) from hS2.nb (A2, k2, c2, Nm.dn qa) (by simp)) (show Nb W2 B1 l1 u1 (pb) from hS2.nb (B1, l1, u1, pb) (by simp)) (show Nb W2 B2 l2 u2 (Nm.dn qb) from hS2.nb (B2, l2, u2, Nm.dn qb) (by simp)) hqa hqb s1 s2 s3 s4).mono ?_; rintro e W3 ⟨x, y, z, rfl, ⟨X, kx, cx, rfl, hx⟩, ⟨Y, ky, cy, rfl, hy⟩, ⟨Z, kz, cz, rfl, hz⟩, hb3⟩; have hS3 := hS2.below hb3; clear f1 f2 f3 f4 hS2 hS0 hbe hb3 ha1 hb1 HW hp; go_wp2_with fail; refine (compare_n _ _ _ _ _ _ _ _ _ hx hy).mono ?_; rintro e W4' ⟨dr, rfl, rfl⟩; obtain ⟨cc, hcc⟩ : ∃ cc, Hid (cc = Nm.cmpN (pa * qb) (pb * qa)) := ⟨_, rfl⟩; rw [← hcc.out]; have hb4 := below_drewN W3 dr
 have hd : decide (0 < cc) = true := by
  rw [hcc.out]; unfold Nm.cmpN; rw [if_neg (by omega), if_pos hlt]; rfl
 clear hcc; have hS3 := hS3.below hb4; have hbe3 := hS3.be; clear hx hy hz hb4; obtain ⟨r1, r2, r3, r4, r5, r6, hres⟩ := hS3.sl; have q1 := hres.cell 0; have q2 := hres.cell 1; have q3 := hres.frozen 0; have q4 := hres.frozen 1; simp only [List.getElem?_toArray, List.getElem?_cons_zero, List.getElem?_cons_succ] at q1 q2; have hblk := (hres.set_ 0 (.slice none 0 0)).set_ 1 (.slice none 0 0); have z1 := hblk.cell 0; have z2 := hblk.cell 1; simp at z1 z2; have hbz := (hbe3.setCell (p := ⟨w.heap.size + 2, 0, none⟩) (show w.heap.size ≤ w.heap.size + 2 by omega) (.slice none 0 0)).setCell (p := ⟨w.heap.size + 2, 1, none⟩) (show w.heap.size ≤ w.heap.size + 2 by omega) (.slice none 0 0); clear hres hblk; go_wp2_with fail; exact bodyPost_ret (v := .tuple #[nilRat, .int .i64 5]) (by simp [results, Tryz.results41, go_sem, z1, z2, nilRat]) rfl ⟨rfl, hbz⟩
set_option maxRecDepth 10000 in
set_option maxHeartbeats 2000000 in
theorem simplest_err (va vb : Value) (l1 l2 l3 l4 : List Nat) (w : World) (ha : RtL w va l1 l2) (hb : RtL w vb l3 l4) (hne : firstE (Nm.validE l1 l2) (Nm.validE l3 l4) ≠ 0) :
  Calls Tryz.prog 41 #[va, vb] w fun e w' => e = .returned (.tuple #[nilRat, .int .i64 (firstE (Nm.validE l1 l2) (Nm.validE l3 l4))]) ∧ Below w.heap.size w w' := by
 obtain ⟨A1, k1, c1, A2, k2, c2, rfl⟩ := ha.shape; obtain ⟨B1, m1, d1, B2, m2, d2, rfl⟩ := hb.shape; obtain ⟨W1, HW1⟩ : ∃ W1, Hid (W1 = (((w.alloc (.cells #[.slice A1 k1 c1, .slice A2 k2 c2] 29)).alloc (.cells #[.slice B1 m1 d1, .slice B2 m2 d2] 29)).alloc (.cells #[.slice none 0 0, .slice none 0 0] 29))) := ⟨_, rfl⟩
 have hres : Res W1 (w.heap.size + 2) := by
  rw [HW1.out]; have := Blk.new ((w.alloc (.cells #[.slice A1 k1 c1, .slice A2 k2 c2] 29)).alloc (.cells #[.slice B1 m1 d1, .slice B2 m2 d2] 29)) 29 #[.slice none 0 0, .slice none 0 0]; unfold Res; simpa using this
 have hbw1 : Below w.heap.size w W1 := by rw [HW1.out]; exact Below.tr (Below.tr (bA _ _) (bA _ _)) (bA _ _)
 obtain ⟨W, HW⟩ : ∃ W, Hid (W = (W1.alloc (.cells #[.slice A1 k1 c1, .slice A2 k2 c2, .slice B1 m1 d1, .slice B2 m2 d2] 29))) := ⟨_, rfl⟩
 have hp : Pair W (w.heap.size + 3) (.slice A1 k1 c1) (.slice A2 k2 c2) (.slice B1 m1 d1) (.slice B2 m2 d2) := by
  have := Blk.new W1 29 #[.slice A1 k1 c1, .slice A2 k2 c2, .slice B1 m1 d1, .slice B2 m2 d2]; rw [HW.out]; have e : W1.heap.size = w.heap.size + 3 := by rw [HW1.out]; simp
  rw [e] at this; exact this
 have hbw : Below w.heap.size w W := by rw [HW.out]; exact Below.tr hbw1 (bA _ _)
 have hres := hres.below (show Below W1.heap.size W1 W by rw [HW.out]; exact bA _ _); have ha1 := ha.below hbw; have hb1 := hb.below hbw
 go_enter Tryz.func41, Tryz.ntmps41
 go_wp2_with fail; rw [← HW1.out, ← HW.out]; refine (valid2_any _ _ _ _ _ l1 l2 l3 l4 _ hp ha1 hb1).mono ?_; rintro e W2 ⟨E, rfl, HE, hbe⟩; have h0 : (E != 0) = true := by rw [HE.out]; simpa using hne
 have hres2 := hres.below hbe; obtain ⟨r1, r2, r3, r4⟩ := hres2.facts; obtain ⟨s1, s2⟩ := hres2.set2 (.slice none 0 0) (.slice none 0 0); have hbw2 := below_set2 (Below.tr hbw hbe) (show w.heap.size ≤ w.heap.size + 2 by omega) (.slice none 0 0) (.slice none 0 0); clear hne; go_wp2_with fail; exact bodyPost_ret (v := .tuple #[nilRat, .int .i64 E]) (by simp [results, Tryz.results41, go_sem, s1, s2, nilRat]) rfl ⟨by rw [HE.out], hbw2⟩
theorem simplest_F : BinC 41 simF := binC_of (fun va vb a b w ha hb h => simplest_err va vb _ _ _ _ w ha hb h) fun va vb pa qa pb qb w ha hb ga gb => by
 dsimp only
 by_cases hlt : pb * qa < pa * qb
 ·rw [if_pos hlt]; refine (simplest_gt va vb pa qa pb qb w ha hb ga gb hlt).mono ?_; rintro e w' ⟨rfl, hb⟩; exact ⟨_, rfl, nil_rtP w', hb⟩
 ·rw [if_neg hlt]; exact simplest_n va vb pa qa pb qb w ha hb ga gb (by omega)
end Go.Proofs.YtmbfjmilhfmnkaaGreatDoor
namespace Go.Proofs.YtmbfjmilhfmnkaaGreatDoor
open Go.RowKit
def PhiPD (b1 b2 g : Nat) (a1 a2 d1 d2 : Value) (pa qa pb qb : Nat) (j : Nat) (w : World) (x : Value) : Prop :=
 match j with
 | 0 => x = .pointer (some ⟨b1, 0, none⟩)
 | 1 => x = a1
 | 2 => x = .agg #[d1, d2]
 | 3 => IsNb w x qb 65
 | 4 => IsNb w x (pa * qb) 130
 | 5 => x = .agg #[a1, a2]
 | 6 => IsNb w x qa 65
 | 7 => x = .pointer (some ⟨b2, 0, none⟩)
 | 8 => x = d1
 | 9 => IsNb w x (qa * pb) 130
 | 10 => ∃ v er, x = .tuple #[v, .int .i64 er] ∧ RedP w v er (pa * qb) (qa * pb)
 | 11 => RedV w x (pa * qb) (qa * pb)
 | 12 => ∃ er, x = .int .i64 er ∧ ErrOf (pa * qb) (qa * pb) er
 | 13 => GoodR w g (pa * qb) (qa * pb)
 | 14 => ∃ er, x = .int .i64 er ∧ ErrOf (pa * qb) (qa * pb) er
 | _ => True
theorem PhiPD.keep {B : Nat} {b1 b2 g : Nat} {a1 a2 d1 d2 : Value} {pa qa pb qb : Nat} : ∀ (w w' : World), RM B g (pa * qb) (qa * pb) w w' → ∀ j x, PhiPD b1 b2 g a1 a2 d1 d2 pa qa pb qb j w x → PhiPD b1 b2 g a1 a2 d1 d2 pa qa pb qb j w' x := by
 intro w w' hr j x h; unfold PhiPD at h ⊢
 split <;> simp only at h ⊢
 all_goals first
  | exact h
  | exact h.map hr.nb
  | (obtain ⟨v, er, rfl, h⟩ := h; exact ⟨v, er, rfl, h.map hr.nb⟩)
  | (obtain ⟨A, k, c, A', k', c', er, rfl, h⟩ := h; exact ⟨A, k, c, A', k', c', er, rfl, h.map hr.nb⟩)
  | (rcases hr.good with h2 | h2; exact h2; obtain ⟨A, k, c, A', k', c', er, h3, h4⟩ := h; exact ⟨A, k, c, A', k', c', er, h2.trans h3, h4.map hr.nb⟩)
set_option maxRecDepth 10000 in
set_option maxHeartbeats 2000000 in
theorem div_n (va vb : Value) (pa qa pb qb : Nat) (w : World) (ha : Rat w va pa qa) (hb : Rat w vb pb qb) (ga : Nm.Good pa qa) (gb : Nm.Good pb qb) (hpb : 0 < pb) :
  Calls Tryz.prog 38 #[va, vb] w fun e w' => ∃ v er, e = .returned (.tuple #[v, .int .i64 er]) ∧ RedP w' v er (pa * qb) (qa * pb) ∧ Below w.heap.size w w' := by
 obtain ⟨A1, k1, c1, A2, k2, c2, rfl⟩ := ha.shape; obtain ⟨B1, l1, u1, B2, l2, u2, rfl⟩ := hb.shape; obtain ⟨W, HW⟩ : ∃ W, Hid (W = ((((w.alloc (.cells #[.slice A1 k1 c1, .slice A2 k2 c2] 29)).alloc (.cells #[.slice B1 l1 u1, .slice B2 l2 u2] 29)).alloc (.cells #[.slice none 0 0, .slice none 0 0] 29)).alloc (.cells #[.slice A1 k1 c1, .slice A2 k2 c2, .slice B1 l1 u1, .slice B2 l2 u2] 29))) := ⟨_, rfl⟩; have hqa := ga.pos; have hqb := gb.pos; obtain ⟨s1, s2⟩ := ha.small ga; obtain ⟨s3, s4⟩ := hb.small gb
 have hS0 : SR w (w.heap.size + 2) [(A1, k1, c1, pa), (A2, k2, c2, Nm.dn qa), (B1, l1, u1, pb), (B2, l2, u2, Nm.dn qb)] [(w.heap.size, .slice A1 k1 c1, .slice A2 k2 c2), (w.heap.size + 1, .slice B1 l1 u1, .slice B2 l2 u2)] W := by
  have hbw : Below w.heap.size w (((w.alloc (.cells #[.slice A1 k1 c1, .slice A2 k2 c2] 29)).alloc (.cells #[.slice B1 l1 u1, .slice B2 l2 u2] 29)).alloc (.cells #[.slice none 0 0, .slice none 0 0] 29)) := Below.tr (Below.tr (bA _ _) (bA _ _)) (bA _ _)
  have h0 : SR w (w.heap.size + 2) [(A1, k1, c1, pa), (A2, k2, c2, Nm.dn qa), (B1, l1, u1, pb), (B2, l2, u2, Nm.dn qb)] [(w.heap.size, .slice A1 k1 c1, .slice A2 k2 c2), (w.heap.size + 1, .slice B1 l1 u1, .slice B2 l2 u2)] (((w.alloc (.cells #[.slice A1 k1 c1, .slice A2 k2 c2] 29)).alloc (.cells #[.slice B1 l1 u1, .slice B2 l2 u2] 29)).alloc (.cells #[.slice none 0 0, .slice none 0 0] 29)) := by
   refine ⟨?_, ?_, ?_, hbw, by omega⟩
   ·intro x hx; simp only [List.mem_cons, List.not_mem_nil, or_false] at hx
    rcases hx with rfl | rfl | rfl | rfl
    ·exact ((ha.below hbw).nb).1
    ·exact ((ha.below hbw).nb).2
    ·exact ((hb.below hbw).nb).1
    ·exact ((hb.below hbw).nb).2
   ·intro x hx; simp only [List.mem_cons, List.not_mem_nil, or_false] at hx
    rcases hx with rfl | rfl
    ·exact ⟨(Box.below (Blk.new w _ _) (bA _ _)).below (bA _ _), by show w.heap.size ≠ w.heap.size + 2; omega⟩
    ·refine ⟨?_, by show w.heap.size + 1 ≠ w.heap.size + 2; omega⟩; have := Blk.new (w.alloc (.cells #[.slice A1 k1 c1, .slice A2 k2 c2] 29)) 29 #[.slice B1 l1 u1, .slice B2 l2 u2]; refine Box.below ?_ (bA _ _); unfold Box; simpa using this
   ·have := Blk.new ((w.alloc (.cells #[.slice A1 k1 c1, .slice A2 k2 c2] 29)).alloc (.cells #[.slice B1 l1 u1, .slice B2 l2 u2] 29)) 29 #[.slice none 0 0, .slice none 0 0]; exact ⟨none, 0, 0, none, 0, 0, by simpa using this⟩
  rw [HW.out]; exact h0.below (bA _ _)
 have hp : Pair W (w.heap.size + 3) (.slice A1 k1 c1) (.slice A2 k2 c2) (.slice B1 l1 u1) (.slice B2 l2 u2) := by
  rw [HW.out]; have := Blk.new (((w.alloc (.cells #[.slice A1 k1 c1, .slice A2 k2 c2] 29)).alloc (.cells #[.slice B1 l1 u1, .slice B2 l2 u2] 29)).alloc (.cells #[.slice none 0 0, .slice none 0 0] 29)) 29 #[.slice A1 k1 c1, .slice A2 k2 c2, .slice B1 l1 u1, .slice B2 l2 u2]; unfold Pair; simpa using this
 have ha1 := ha.below hS0.be; have hb1 := hb.below hS0.be
 go_enter Tryz.func38, Tryz.ntmps38
 have hl1 : 0 < l1 := (hb.nb).1.pos hpb; have tz : ((l1 : Int) == 0) = false := by simp; omega
 go_wp2_with fail; rw [← HW.out]; refine (valid2_good _ _ _ _ _ pa qa pb qb _ hp ha1 hb1 ga gb).mono ?_; rintro e W2 ⟨rfl, hbe⟩; have hS2 := hS0.below hbe; have f1 := (hS2.bx (w.heap.size, .slice A1 k1 c1, .slice A2 k2 c2) (by simp)).1.facts.1; have f2 := (hS2.bx (w.heap.size, .slice A1 k1 c1, .slice A2 k2 c2) (by simp)).1.facts.2; have f3 := (hS2.bx (w.heap.size + 1, .slice B1 l1 u1, .slice B2 l2 u2) (by simp)).1.facts.1; have f4 := (hS2.bx (w.heap.size + 1, .slice B1 l1 u1, .slice B2 l2 u2) (by simp)).1.facts.2; go_wp2_with fail; clear f1 f2 f3 f4 ha1 hb1 hS0 hbe HW ha hb hp; refine region_inv (PhiPD w.heap.size (w.heap.size + 1) (w.heap.size + 2) (.slice A1 k1 c1) (.slice A2 k2 c2) (.slice B1 l1 u1) (.slice B2 l2 u2) pa qa pb qb) (RM w.heap.size (w.heap.size + 2) (pa * qb) (qa * pb)) (SR w (w.heap.size + 2) [(A1, k1, c1, pa), (A2, k2, c2, Nm.dn qa), (B1, l1, u1, pb), (B2, l2, u2, Nm.dn qb)] [(w.heap.size, .slice A1 k1 c1, .slice A2 k2 c2), (w.heap.size + 1, .slice B1 l1 u1, .slice B2 l2 u2)]) (by kernel_rfl) (by kernel_rfl) (by kernel_rfl) PhiPD.keep (fun _ _ hR hS => hS.step hR) (hS2.below (bD _)) ?_ ?_
 ·refine sK ?_ (sK ?_ (sK ?_ (sK ?_ (sK ?_ (sK ?_ (sK ?_ (sK ?_ (sK ?_ (sK ?_ (sK ?_ (sK ?_ (sK ?_ (sK ?_ (sK ?_ (sZ)))))))))))))))
  ·intro vs W hS hdep K hK; refine ⟨?_⟩; simp only [fillR, Act.put, sA, sB, sC, Nat.zero_add, Nat.reduceAdd] at hK ⊢; go_simp; with_reducible refine hK _ _ (RM.refl _) ?_
   exact rfl
  ·intro vs W hS hdep K hK; have d0 := hdep ⟨0, .data⟩ (by simp) rfl; simp only [PhiPD] at d0; have f1 := (hS.bx (w.heap.size, .slice A1 k1 c1, .slice A2 k2 c2) (by simp)).1.facts.1; have f2 := (hS.bx (w.heap.size, .slice A1 k1 c1, .slice A2 k2 c2) (by simp)).1.facts.2; refine ⟨?_⟩; simp only [fillR, Act.put, sA, sB, sC, Nat.zero_add, Nat.reduceAdd, d0] at hK ⊢; go_simp; with_reducible refine hK _ _ (RM.refl _) ?_
   exact rfl
  ·intro vs W hS hdep K hK; have f1 := (hS.bx (w.heap.size + 1, .slice B1 l1 u1, .slice B2 l2 u2) (by simp)).1.facts.1; have f2 := (hS.bx (w.heap.size + 1, .slice B1 l1 u1, .slice B2 l2 u2) (by simp)).1.facts.2; refine ⟨?_⟩; simp only [fillR, Act.put, sA, sB, sC, Nat.zero_add, Nat.reduceAdd] at hK ⊢; go_simp; with_reducible refine hK _ _ (RM.refl _) ?_
   exact rfl
  ·intro vs W hS hdep K hK; have d0 := hdep ⟨2, .data⟩ (by simp) rfl; simp only [PhiPD] at d0; refine ⟨?_⟩; simp only [fillR, Act.put, sA, sB, sC, Nat.zero_add, Nat.reduceAdd, d0] at hK ⊢; go_simp; refine (den_n _ _ _ _ _ _ _ _ (show Nb W B2 l2 u2 (Nm.dn qb) from hS.nb (B2, l2, u2, Nm.dn qb) (by simp)) hqb (by omega)).mono ?_; rintro e w' ⟨A, k, c, rfl, hn, hk, hb⟩; go_wp2_with fail; with_reducible refine hK _ _ (RM.below hb hS.size hS.lt) ?_
   exact ⟨A, k, c, rfl, hn, by have := hk.out; omega⟩
  ·intro vs W hS hdep K hK; have d0 := hdep ⟨1, .data⟩ (by simp) rfl; simp only [PhiPD] at d0; have d1 := hdep ⟨3, .data⟩ (by simp) rfl; simp only [PhiPD] at d1; refine @exE3 _ _ _ _ _ d1 ?_; clear d1; intro P1 p1 q1 d1; have e1 := d1.1; have n1 := d1.2.1; have m1 := d1.2.2; clear d1; refine ⟨?_⟩; simp only [fillR, Act.put, sA, sB, sC, Nat.zero_add, Nat.reduceAdd, d0, e1] at hK ⊢; go_simp; refine (times_n _ _ _ _ _ _ _ _ _ (show Nb W A1 k1 c1 (pa) from hS.nb (A1, k1, c1, pa) (by simp)) n1 (by omega) (by omega)).mono ?_; rintro e w' ⟨A, k, c, rfl, hn, hb⟩; go_wp2_with fail; with_reducible refine hK _ _ (RM.below hb hS.size hS.lt) ?_
   exact ⟨A, k, c, rfl, hn, hn.lek (prod_ltG (m1 := 65) (m2 := 65) (show Nb W A1 k1 c1 (pa) from hS.nb (A1, k1, c1, pa) (by simp)).lt (by omega) n1.lt m1 (by decide))⟩
  ·intro vs W hS hdep K hK; have f1 := (hS.bx (w.heap.size, .slice A1 k1 c1, .slice A2 k2 c2) (by simp)).1.facts.1; have f2 := (hS.bx (w.heap.size, .slice A1 k1 c1, .slice A2 k2 c2) (by simp)).1.facts.2; refine ⟨?_⟩; simp only [fillR, Act.put, sA, sB, sC, Nat.zero_add, Nat.reduceAdd] at hK ⊢; go_simp; with_reducible refine hK _ _ (RM.refl _) ?_
   exact rfl
  ·intro vs W hS hdep K hK; have d0 := hdep ⟨5, .data⟩ (by simp) rfl; simp only [PhiPD] at d0; refine ⟨?_⟩; simp only [fillR, Act.put, sA, sB, sC, Nat.zero_add, Nat.reduceAdd, d0] at hK ⊢; go_simp; refine (den_n _ _ _ _ _ _ _ _ (show Nb W A2 k2 c2 (Nm.dn qa) from hS.nb (A2, k2, c2, Nm.dn qa) (by simp)) hqa (by omega)).mono ?_; rintro e w' ⟨A, k, c, rfl, hn, hk, hb⟩; go_wp2_with fail; with_reducible refine hK _ _ (RM.below hb hS.size hS.lt) ?_
   exact ⟨A, k, c, rfl, hn, by have := hk.out; omega⟩
  ·intro vs W hS hdep K hK; refine ⟨?_⟩; simp only [fillR, Act.put, sA, sB, sC, Nat.zero_add, Nat.reduceAdd] at hK ⊢; go_simp; with_reducible refine hK _ _ (RM.refl _) ?_
   exact rfl
  ·intro vs W hS hdep K hK; have d0 := hdep ⟨7, .data⟩ (by simp) rfl; simp only [PhiPD] at d0; have f1 := (hS.bx (w.heap.size + 1, .slice B1 l1 u1, .slice B2 l2 u2) (by simp)).1.facts.1; have f2 := (hS.bx (w.heap.size + 1, .slice B1 l1 u1, .slice B2 l2 u2) (by simp)).1.facts.2; refine ⟨?_⟩; simp only [fillR, Act.put, sA, sB, sC, Nat.zero_add, Nat.reduceAdd, d0] at hK ⊢; go_simp; with_reducible refine hK _ _ (RM.refl _) ?_
   exact rfl
  ·intro vs W hS hdep K hK; have d0 := hdep ⟨6, .data⟩ (by simp) rfl; simp only [PhiPD] at d0; refine @exE3 _ _ _ _ _ d0 ?_; clear d0; intro P0 p0 q0 d0; have e0 := d0.1; have n0 := d0.2.1; have m0 := d0.2.2; clear d0; have d1 := hdep ⟨8, .data⟩ (by simp) rfl; simp only [PhiPD] at d1; refine ⟨?_⟩; simp only [fillR, Act.put, sA, sB, sC, Nat.zero_add, Nat.reduceAdd, e0, d1] at hK ⊢; go_simp; refine (times_n _ _ _ _ _ _ _ _ _ n0 (show Nb W B1 l1 u1 (pb) from hS.nb (B1, l1, u1, pb) (by simp)) (by omega) (by omega)).mono ?_; rintro e w' ⟨A, k, c, rfl, hn, hb⟩; go_wp2_with fail; with_reducible refine hK _ _ (RM.below hb hS.size hS.lt) ?_
   exact ⟨A, k, c, rfl, hn, hn.lek (prod_ltG (m1 := 65) (m2 := 65) n0.lt m0 (show Nb W B1 l1 u1 (pb) from hS.nb (B1, l1, u1, pb) (by simp)).lt (by omega) (by decide))⟩
  ·intro vs W hS hdep K hK; have d0 := hdep ⟨4, .data⟩ (by simp) rfl; simp only [PhiPD] at d0; refine @exE3 _ _ _ _ _ d0 ?_; clear d0; intro P0 p0 q0 d0; have e0 := d0.1; have n0 := d0.2.1; have m0 := d0.2.2; clear d0; have d1 := hdep ⟨9, .data⟩ (by simp) rfl; simp only [PhiPD] at d1; refine @exE3 _ _ _ _ _ d1 ?_; clear d1; intro P1 p1 q1 d1; have e1 := d1.1; have n1 := d1.2.1; have m1 := d1.2.2; clear d1; refine ⟨?_⟩; simp only [fillR, Act.put, sA, sB, sC, Nat.zero_add, Nat.reduceAdd, e0, e1] at hK ⊢; go_simp; refine (reduced_n _ _ _ _ _ _ _ _ _ n0 n1 (by omega) (by omega) (Nat.mul_pos hqa hpb)).mono ?_; rintro e w' ⟨v, er, rfl, hn, hb⟩; go_wp2_with fail; with_reducible refine hK _ _ (RM.below hb hS.size hS.lt) ?_
   exact ⟨v, er, rfl, hn⟩
  ·intro vs W hS hdep K hK; have d0 := hdep ⟨10, .data⟩ (by simp) rfl; simp only [PhiPD] at d0; refine @exE2 _ _ _ _ d0 ?_; clear d0; intro v0 er0 d0; have e0 := d0.1; have n0 := d0.2; clear d0; refine ⟨?_⟩; simp only [fillR, Act.put, sA, sB, sC, Nat.zero_add, Nat.reduceAdd, e0] at hK ⊢; go_simp; with_reducible refine hK _ _ (RM.refl _) ?_
   exact RedV.of n0
  ·intro vs W hS hdep K hK; have d0 := hdep ⟨10, .data⟩ (by simp) rfl; simp only [PhiPD] at d0; refine @exE2 _ _ _ _ d0 ?_; clear d0; intro v0 er0 d0; have e0 := d0.1; have n0 := d0.2; clear d0; refine ⟨?_⟩; simp only [fillR, Act.put, sA, sB, sC, Nat.zero_add, Nat.reduceAdd, e0] at hK ⊢; go_simp; with_reducible refine hK _ _ (RM.refl _) ?_
   exact ⟨_, rfl, n0.err⟩
  ·intro vs W hS hdep K hK; have d0 := hdep ⟨11, .data⟩ (by simp) rfl; simp only [PhiPD] at d0; obtain ⟨A, k, c, A', k', c', er, e0, n0⟩ := d0; obtain ⟨r1, r2, r3, r4, r5, r6, hres⟩ := hS.sl; have q1 := hres.cell 0; have q2 := hres.cell 1; have q3 := hres.frozen 0; have q4 := hres.frozen 1; simp at q1 q2; have HR := Lib.hid (RM.store (B := w.heap.size) hS.sl hS.ge n0); clear hres; refine ⟨?_⟩; simp only [fillR, Act.put, sA, sB, sC, Nat.zero_add, Nat.reduceAdd, e0] at hK ⊢; go_simp; with_reducible refine hK undef _ HR.out.1 ?_
   exact HR.out.2
  ·intro vs W hS hdep K hK; have d0 := hdep ⟨12, .data⟩ (by simp) rfl; simp only [PhiPD] at d0; refine @exE1 _ _ _ d0 ?_; clear d0; intro er0 d0; have e0 := d0.1; have n0 := d0.2; clear d0; refine ⟨?_⟩; simp only [fillR, Act.put, sA, sB, sC, Nat.zero_add, Nat.reduceAdd, e0] at hK ⊢; go_simp; with_reducible refine hK _ _ (RM.refl _) ?_
   exact ⟨_, rfl, n0⟩
 ·intro vs W hS hv; have vE := hv 14 (by simp); have vG := hv 13 (by simp); simp only [PhiPD] at vE vG; obtain ⟨er, eE, hErr⟩ := vE; obtain ⟨A, k, c, A', k', c', er', hblk, hP⟩ := vG; obtain rfl : er = er' := hErr.uniq hP.err; have q1 := hblk.cell 0; have q2 := hblk.cell 1; simp at q1 q2; have HP := Lib.hid hP; clear hv hErr hblk hP; simp only [fillR, Act.put, sA, sB, sC, Nat.zero_add, Nat.reduceAdd, eE]; go_wp2_with fail; exact bodyPost_ret (v := .tuple #[.agg #[.slice A k c, .slice A' k' c'], .int .i64 er]) (by simp [results, Tryz.results38, go_sem, q1, q2]) rfl ⟨_, _, rfl, HP.out, hS.be⟩
set_option maxRecDepth 10000 in
set_option maxHeartbeats 2000000 in
theorem div_z (va vb : Value) (pa qa pb qb : Nat) (w : World) (ha : Rat w va pa qa) (hb : Rat w vb pb qb) (ga : Nm.Good pa qa) (gb : Nm.Good pb qb) (hpb : pb = 0) :
  Calls Tryz.prog 38 #[va, vb] w fun e w' => e = .returned (.tuple #[nilRat, .int .i64 5]) ∧ Below w.heap.size w w' := by
 obtain ⟨A1, k1, c1, A2, k2, c2, rfl⟩ := ha.shape; obtain ⟨B1, l1, u1, B2, l2, u2, rfl⟩ := hb.shape; obtain ⟨W, HW⟩ : ∃ W, Hid (W = ((((w.alloc (.cells #[.slice A1 k1 c1, .slice A2 k2 c2] 29)).alloc (.cells #[.slice B1 l1 u1, .slice B2 l2 u2] 29)).alloc (.cells #[.slice none 0 0, .slice none 0 0] 29)).alloc (.cells #[.slice A1 k1 c1, .slice A2 k2 c2, .slice B1 l1 u1, .slice B2 l2 u2] 29))) := ⟨_, rfl⟩; have hqa := ga.pos; have hqb := gb.pos; obtain ⟨s1, s2⟩ := ha.small ga; obtain ⟨s3, s4⟩ := hb.small gb
 have hS0 : SR w (w.heap.size + 2) [(A1, k1, c1, pa), (A2, k2, c2, Nm.dn qa), (B1, l1, u1, pb), (B2, l2, u2, Nm.dn qb)] [(w.heap.size, .slice A1 k1 c1, .slice A2 k2 c2), (w.heap.size + 1, .slice B1 l1 u1, .slice B2 l2 u2)] W := by
  have hbw : Below w.heap.size w (((w.alloc (.cells #[.slice A1 k1 c1, .slice A2 k2 c2] 29)).alloc (.cells #[.slice B1 l1 u1, .slice B2 l2 u2] 29)).alloc (.cells #[.slice none 0 0, .slice none 0 0] 29)) := Below.tr (Below.tr (bA _ _) (bA _ _)) (bA _ _)
  have h0 : SR w (w.heap.size + 2) [(A1, k1, c1, pa), (A2, k2, c2, Nm.dn qa), (B1, l1, u1, pb), (B2, l2, u2, Nm.dn qb)] [(w.heap.size, .slice A1 k1 c1, .slice A2 k2 c2), (w.heap.size + 1, .slice B1 l1 u1, .slice B2 l2 u2)] (((w.alloc (.cells #[.slice A1 k1 c1, .slice A2 k2 c2] 29)).alloc (.cells #[.slice B1 l1 u1, .slice B2 l2 u2] 29)).alloc (.cells #[.slice none 0 0, .slice none 0 0] 29)) := by
   refine ⟨?_, ?_, ?_, hbw, by omega⟩
   ·intro x hx; simp only [List.mem_cons, List.not_mem_nil, or_false] at hx
    rcases hx with rfl | rfl | rfl | rfl
    ·exact ((ha.below hbw).nb).1
    ·exact ((ha.below hbw).nb).2
    ·exact ((hb.below hbw).nb).1
    ·exact ((hb.below hbw).nb).2
   ·intro x hx; simp only [List.mem_cons, List.not_mem_nil, or_false] at hx
    rcases hx with rfl | rfl
    ·exact ⟨(Box.below (Blk.new w _ _) (bA _ _)).below (bA _ _), by show w.heap.size ≠ w.heap.size + 2; omega⟩
    ·refine ⟨?_, by show w.heap.size + 1 ≠ w.heap.size + 2; omega⟩; have := Blk.new (w.alloc (.cells #[.slice A1 k1 c1, .slice A2 k2 c2] 29)) 29 #[.slice B1 l1 u1, .slice B2 l2 u2]; refine Box.below ?_ (bA _ _); unfold Box; simpa using this
   ·have := Blk.new ((w.alloc (.cells #[.slice A1 k1 c1, .slice A2 k2 c2] 29)).alloc (.cells #[.slice B1 l1 u1, .slice B2 l2 u2] 29)) 29 #[.slice none 0 0, .slice none 0 0]; exact ⟨none, 0, 0, none, 0, 0, by simpa using this⟩
  rw [HW.out]; exact h0.below (bA _ _)
 have hp : Pair W (w.heap.size + 3) (.slice A1 k1 c1) (.slice A2 k2 c2) (.slice B1 l1 u1) (.slice B2 l2 u2) := by
  rw [HW.out]; have := Blk.new (((w.alloc (.cells #[.slice A1 k1 c1, .slice A2 k2 c2] 29)).alloc (.cells #[.slice B1 l1 u1, .slice B2 l2 u2] 29)).alloc (.cells #[.slice none 0 0, .slice none 0 0] 29)) 29 #[.slice A1 k1 c1, .slice A2 k2 c2, .slice B1 l1 u1, .slice B2 l2 u2]; unfold Pair; simpa using this
 have ha1 := ha.below hS0.be; have hb1 := hb.below hS0.be
 go_enter Tryz.func38, Tryz.ntmps38
 have hl1 : l1 = 0 := by subst hpb; exact (hb.nb).1.kzero
 have tz : ((l1 : Int) == 0) = true := by simp; omega
 clear hl1; go_wp2_with fail; rw [← HW.out]; refine (valid2_good _ _ _ _ _ pa qa pb qb _ hp ha1 hb1 ga gb).mono ?_; rintro e W2 ⟨rfl, hbe⟩; have hS2 := hS0.below hbe; have f1 := (hS2.bx (w.heap.size, .slice A1 k1 c1, .slice A2 k2 c2) (by simp)).1.facts.1; have f2 := (hS2.bx (w.heap.size, .slice A1 k1 c1, .slice A2 k2 c2) (by simp)).1.facts.2; have f3 := (hS2.bx (w.heap.size + 1, .slice B1 l1 u1, .slice B2 l2 u2) (by simp)).1.facts.1; have f4 := (hS2.bx (w.heap.size + 1, .slice B1 l1 u1, .slice B2 l2 u2) (by simp)).1.facts.2; have hbe3 := hS2.be; obtain ⟨r1, r2, r3, r4, r5, r6, hres⟩ := hS2.sl; have q1 := hres.cell 0; have q2 := hres.cell 1; have q3 := hres.frozen 0; have q4 := hres.frozen 1; simp only [List.getElem?_toArray, List.getElem?_cons_zero, List.getElem?_cons_succ] at q1 q2; have hblk := (hres.set_ 0 (.slice none 0 0)).set_ 1 (.slice none 0 0); have z1 := hblk.cell 0; have z2 := hblk.cell 1; simp at z1 z2; have hbz := (hbe3.setCell (p := ⟨w.heap.size + 2, 0, none⟩) (show w.heap.size ≤ w.heap.size + 2 by omega) (.slice none 0 0)).setCell (p := ⟨w.heap.size + 2, 1, none⟩) (show w.heap.size ≤ w.heap.size + 2 by omega) (.slice none 0 0); clear hres hblk; go_wp2_with fail; exact bodyPost_ret (v := .tuple #[nilRat, .int .i64 5]) (by simp [results, Tryz.results38, go_sem, z1, z2, nilRat]) rfl ⟨rfl, hbz⟩
set_option maxRecDepth 10000 in
set_option maxHeartbeats 2000000 in
theorem div_err (va vb : Value) (l1 l2 l3 l4 : List Nat) (w : World) (ha : RtL w va l1 l2) (hb : RtL w vb l3 l4) (hne : firstE (Nm.validE l1 l2) (Nm.validE l3 l4) ≠ 0) :
  Calls Tryz.prog 38 #[va, vb] w fun e w' => e = .returned (.tuple #[nilRat, .int .i64 (firstE (Nm.validE l1 l2) (Nm.validE l3 l4))]) ∧ Below w.heap.size w w' := by
 obtain ⟨A1, k1, c1, A2, k2, c2, rfl⟩ := ha.shape; obtain ⟨B1, m1, d1, B2, m2, d2, rfl⟩ := hb.shape; obtain ⟨W1, HW1⟩ : ∃ W1, Hid (W1 = (((w.alloc (.cells #[.slice A1 k1 c1, .slice A2 k2 c2] 29)).alloc (.cells #[.slice B1 m1 d1, .slice B2 m2 d2] 29)).alloc (.cells #[.slice none 0 0, .slice none 0 0] 29))) := ⟨_, rfl⟩
 have hres : Res W1 (w.heap.size + 2) := by
  rw [HW1.out]; have := Blk.new ((w.alloc (.cells #[.slice A1 k1 c1, .slice A2 k2 c2] 29)).alloc (.cells #[.slice B1 m1 d1, .slice B2 m2 d2] 29)) 29 #[.slice none 0 0, .slice none 0 0]; unfold Res; simpa using this
 have hbw1 : Below w.heap.size w W1 := by rw [HW1.out]; exact Below.tr (Below.tr (bA _ _) (bA _ _)) (bA _ _)
 obtain ⟨W, HW⟩ : ∃ W, Hid (W = (W1.alloc (.cells #[.slice A1 k1 c1, .slice A2 k2 c2, .slice B1 m1 d1, .slice B2 m2 d2] 29))) := ⟨_, rfl⟩
 have hp : Pair W (w.heap.size + 3) (.slice A1 k1 c1) (.slice A2 k2 c2) (.slice B1 m1 d1) (.slice B2 m2 d2) := by
  have := Blk.new W1 29 #[.slice A1 k1 c1, .slice A2 k2 c2, .slice B1 m1 d1, .slice B2 m2 d2]; rw [HW.out]; have e : W1.heap.size = w.heap.size + 3 := by rw [HW1.out]; simp
  rw [e] at this; exact this
 have hbw : Below w.heap.size w W := by rw [HW.out]; exact Below.tr hbw1 (bA _ _)
 have hres := hres.below (show Below W1.heap.size W1 W by rw [HW.out]; exact bA _ _); have ha1 := ha.below hbw; have hb1 := hb.below hbw
 go_enter Tryz.func38, Tryz.ntmps38
 go_wp2_with fail; rw [← HW1.out, ← HW.out]; refine (valid2_any _ _ _ _ _ l1 l2 l3 l4 _ hp ha1 hb1).mono ?_; rintro e W2 ⟨E, rfl, HE, hbe⟩; have h0 : (E != 0) = true := by rw [HE.out]; simpa using hne
 have hres2 := hres.below hbe; obtain ⟨r1, r2, r3, r4⟩ := hres2.facts; obtain ⟨s1, s2⟩ := hres2.set2 (.slice none 0 0) (.slice none 0 0); have hbw2 := below_set2 (Below.tr hbw hbe) (show w.heap.size ≤ w.heap.size + 2 by omega) (.slice none 0 0) (.slice none 0 0); clear hne; go_wp2_with fail; exact bodyPost_ret (v := .tuple #[nilRat, .int .i64 E]) (by simp [results, Tryz.results38, go_sem, s1, s2, nilRat]) rfl ⟨by rw [HE.out], hbw2⟩
theorem div_F : BinC 38 divF := binC_of (fun va vb a b w ha hb h => div_err va vb _ _ _ _ w ha hb h) fun va vb pa qa pb qb w ha hb ga gb => by
 dsimp only
 by_cases hz : pb = 0
 ·rw [if_pos hz]; refine (div_z va vb pa qa pb qb w ha hb ga gb hz).mono ?_; rintro e w' ⟨rfl, hb⟩; exact ⟨_, rfl, nil_rtP w', hb⟩
 ·rw [if_neg hz]; refine (div_n va vb pa qa pb qb w ha hb ga gb (by omega)).mono ?_; rintro e w' ⟨v, er, rfl, hr, hb⟩; obtain ⟨rfl, h⟩ := hr.resP; exact ⟨v, rfl, h, hb⟩
end Go.Proofs.YtmbfjmilhfmnkaaGreatDoor
