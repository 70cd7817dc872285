import Derived.Test.YtmbfjmilhfmnkaaGreatDoorKRdsProof15
import Derived.Deep.RegionLawGrows
import Derived.Deep.LoopGhost
import Derived.Test.YtmbfjmilhfmnkaaGreatDoorS0
set_option linter.unusedVariables false
set_option linter.unusedSimpArgs false
namespace Go.Proofs.YtmbfjmilhfmnkaaGreatDoor
open Go.RowKit
/-- append onto an empty row without room: a row anew -/
theorem step_clone {P : Program} {ops : Array Oper} {o : Oper} {a : Act} {w : World} {K : Act → World → Prop} {Q : Exit → Act → World → Prop} {E : Prop}
  (hg : o.guard = none) (s x : Operand) (t : TypeId) (hop : o.op = Op.call { callee := Callee.builtin Builtin.append, args := #[s, x], argTypes := #[t, t] })
  (hinfo : (P.info? 56).map (fun i => (i.zero, i.size, i.bytes)) = some (some (.int .u32 0), 1, 4)) (h1 : P.underlying t = some (.slice 56))
  (base b : Nat) (hs : a.eval s = .slice (some ⟨b, 0, none⟩) 0 0) (hown : Own w base (some ⟨b, 0, none⟩) 0 0 [])
  (A : Option Addr) (k c : Nat) (l : List Nat) (hx : a.eval x = .slice A k c) (hl : Lim w A c l) (hk : Hid (k = l.length)) (hsz : k ≤ 1048576) (hbase : base ≤ w.heap.size)
  (hK : ∀ v' w' A' c', v' = .slice A' k c' → Own w' base A' k c' l → Below w.heap.size w w' → (∀ g, A' = some ⟨g, 0, none⟩ → g = b ∨ w.heap.size ≤ g) → K (a.put o.dst v') w') :
  if Region.wanted o (yielded ops a.tmps) = true then Oper.wp P o a w K Q else E := by
 obtain ⟨i0, hi, hz0, hz1, hz2⟩ := info_parts hinfo; obtain rfl : k = l.length := hk.out
 rcases l with _ | ⟨x0, l⟩
 ·have hw : Region.wanted o (yielded ops a.tmps) = true := by simp [Region.wanted, hg]
  rw [if_pos hw]
  have hrun : (Builtin.append_ #[t, t] o.type #[.slice (some ⟨b, 0, none⟩) 0 0, .slice A 0 c]).run P w = .ok (.slice (some ⟨b, 0, none⟩) 0 0) w := by
   rcases A with _ | ad
   ·exact run_append_of_nil w base t o.type 56 i0 1 h1 hi _ 0 _ hown.1 c
   ·simp [Builtin.append_, run_underlying h1, sizeOf, typeInfo, hi, Builtin.lenOf, Builtin.firstCells, storeCells, loadCells, loadCellsFrom]
  unfold Oper.wp execOp; simp only [List.length_nil] at hx; simp only [hop, resolve, invoke, builtin, Sem.run_bind, Sem.run_pure, Result.andThen_ok, List.map_toArray, List.map_cons, List.map_nil, hs, hx, hrun]; exact hK _ w _ 0 rfl hown (Below.refl _ _) (fun g e => .inl (by injection e with e; injection e with e _; exact e.symm))
 ·obtain ⟨b', off, hA, hc⟩ := hl.at_ (k := 0) (by simp); subst hA; refine step_append_grows hg s x t hop 56 i0 (.int .u32 0) 1 4 h1 hi hz0 hz1 hz2 rfl (by omega) (some ⟨b, 0, none⟩) 0 0 [] hs (fun h => by cases h) rfl (fun _ _ j u hu => by simp at hu) ⟨b', off, none⟩ (x0 :: l).length c (u32s (x0 :: l)) hx (by simp [u32s]) ?_ (u32s_one _) (by simp) (by simp only [maxLen]; omega) (by omega) ?_
  ·intro j u hu
   have hj : j < (u32s (x0 :: l)).length := by
    rcases Nat.lt_or_ge j (u32s (x0 :: l)).length with h | h
    ·exact h
    ·rw [List.getElem?_eq_none h] at hu; cases hu
   rw [List.getElem?_eq_getElem hj] at hu; have hj' : j < (x0 :: l).length := by simpa [u32s] using hj
   have e : (⟨b', off, none⟩ : Addr).add j = ⟨b', off + j, none⟩ := by unfold Addr.add; split <;> simp_all
   rw [e, hc j hj', ← hu]; generalize x0 :: l = L at *; simp [u32s, List.getD, hj']
  ·intro v' w' ho hgr; rw [Nat.zero_add, List.nil_append] at ho; obtain ⟨A', c', rfl, hlim, hfr⟩ := own_lim ho hl.limb; refine hK _ w' A' c' rfl ⟨own_base ho hbase, hl.limb⟩ ⟨hgr.os, hgr.tape, hgr.output, hgr.size, fun i hi => hgr.block i hi (by simp)⟩ (fun g e => .inr (hfr g 0 e))
theorem wp_clone {P : Program} {o : Oper} {a : Act} {w : World} {K : Act → World → Prop} {Q : Exit → Act → World → Prop}
  (s x : Operand) (t : TypeId) (hinfo : (P.info? 56).map (fun i => (i.zero, i.size, i.bytes)) = some (some (.int .u32 0), 1, 4)) (h1 : P.underlying t = some (.slice 56))
  (base b : Nat) (hown : Own w base (some ⟨b, 0, none⟩) 0 0 [])
  (A : Option Addr) (k c : Nat) (l : List Nat) (hl : Lim w A c l) (hk : Hid (k = l.length)) (hsz : k ≤ 1048576) (hbase : base ≤ w.heap.size)
  (hg : o.guard = none) (hop : o.op = Op.call { callee := Callee.builtin Builtin.append, args := #[s, x], argTypes := #[t, t] }) (hs : a.eval s = .slice (some ⟨b, 0, none⟩) 0 0) (hx : a.eval x = .slice A k c)
  (hK : ∀ v' w' A' c', v' = .slice A' k c' → Own w' base A' k c' l → Below w.heap.size w w' → (∀ g, A' = some ⟨g, 0, none⟩ → g = b ∨ w.heap.size ≤ g) → K (a.put o.dst v') w') : Oper.wp P o a w K Q := by
 have h := step_clone (ops := #[]) (E := True) (Q := Q) hg s x t hop hinfo h1 base b hs hown A k c l hx hl hk hsz hbase hK; have hw : Region.wanted o (yielded #[] a.tmps) = true := by simp [Region.wanted, hg]
 rwa [if_pos hw] at h
def ext (γ : Nat → Nat) (w : World) (c : Nat) : Nat → Nat := fun b => if w.heap.size ≤ b then c else γ b
theorem ext_of {γ : Nat → Nat} {w : World} {A : Option Addr} {b0 col base : Nat} (hfr : ∀ g, A = some ⟨g, 0, none⟩ → g = b0 ∨ w.heap.size ≤ g) (hown : Own w base (some ⟨b0, 0, none⟩) 0 0 []) (hc : γ b0 = col) {b : Nat} (hb : A = some ⟨b, 0, none⟩) : ext γ w col b = col := by
 have hl := hown.lt b0 rfl
 rcases hfr b hb with rfl | h
 ·unfold ext; rw [if_neg (by omega)]; exact hc
 ·unfold ext; rw [if_pos h]
theorem own_new (w : World) {B : Nat} (hB : B ≤ w.heap.size) : Own (w.alloc (.cells #[] 56)) B (some ⟨w.heap.size, 0, none⟩) 0 0 [] := ⟨own_base (own_empty w) hB, fun x hx => by cases hx⟩
theorem Sl.facts' {w : World} {g : Nat} (h : Sl w g) : w.frozen? ⟨g, 0, none⟩ = false ∧ w.frozen? ⟨g, 1, none⟩ = false := by
 obtain ⟨r1, r2, r3, r4, r5, r6, hb⟩ := h; exact ⟨hb.frozen 0, hb.frozen 1⟩
theorem Own.setSl {w : World} {B k c g i : Nat} {A : Option Addr} {l : List Nat} (h : Own w B A k c l) (hs : Sl w g) (u : Value) : Own (w.setCell ⟨g, i, none⟩ u) B A k c l := by
 refine h.keep fun g' hA => ?_
 refine Below.heap_setCell w ⟨g, i, none⟩ u g' (fun e => ?_); obtain ⟨r1, r2, r3, r4, r5, r6, hb⟩ := hs
 rcases h.1.2 with ⟨h0, _⟩ | ⟨g2, cap, cur, hv, _, hh, _⟩
 ·injection h0 with e1; rw [hA] at e1; cases e1
 ·injection hv with e1 _ _; rw [hA] at e1; injection e1 with e1; injection e1 with e1 _; unfold Blk at hb; rw [← e1, show g' = g from e, hb] at hh; simp at hh
theorem Lim.setSl {w : World} {A : Option Addr} {c g i : Nat} {l : List Nat} (h : Lim w A c l) (hs : Sl w g) (u : Value) : Lim (w.setCell ⟨g, i, none⟩ u) A c l := by
 by_cases hl : l = []
 ·subst hl; exact ⟨fun hx => absurd rfl hx, h.2⟩
 ·refine h.only (only_set w i u) (fun b off hA e => ?_); have h0 : 0 < l.length := List.length_pos_iff.2 hl; obtain ⟨b', off', hA', hc⟩ := h.at_ h0; rw [hA'] at hA; injection hA with hA; injection hA with e1 e2; have h1 := hc 0 h0; obtain ⟨r1, r2, r3, r4, r5, r6, hb⟩ := hs; rw [e1, e, hb.cell] at h1; generalize off' + 0 = m at h1
  rcases m with _ | _ | m <;> simp at h1
def GoodC (w : World) (B g k1 k2 : Nat) (l1 l2 : List Nat) : Prop := ∃ A c A' c', Blk w g 29 #[.slice A k1 c, .slice A' k2 c'] ∧ Own w B A k1 c l1 ∧ Own w B A' k2 c' l2 ∧ Apart A A'
structure RC (B g k1 k2 : Nat) (l1 l2 : List Nat) (γ : Nat → Nat) (w : World) (γ' : Nat → Nat) (w' : World) : Prop where
 col : ∀ b, b < w.heap.size → γ' b = γ b
 own : ∀ A k c l, Own w B A k c l → Own w' B A k c l
 box : ∀ b v1 v2, b ≠ g → Box w b v1 v2 → Box w' b v1 v2
 lim : ∀ A c l, Lim w A c l → Lim w' A c l
 sl : Sl w g → Sl w' g
 be : Below B w w'
 good : GoodC w' B g k1 k2 l1 l2 ∨ w'.heap[g]? = w.heap[g]?
section
variable {B g k1 k2 : Nat} {l1 l2 : List Nat}
theorem RC.refl (γ : Nat → Nat) (w : World) : RC B g k1 k2 l1 l2 γ w γ w := ⟨fun _ _ => rfl, fun _ _ _ _ h => h, fun _ _ _ _ h => h, fun _ _ _ h => h, fun h => h, Below.refl _ _, .inr rfl⟩
theorem RC.below (γ : Nat → Nat) (w w' : World) (c : Nat) (hB : B ≤ w.heap.size) (hg : g < w.heap.size) (hb : Below w.heap.size w w') : RC B g k1 k2 l1 l2 γ w (ext γ w c) w' :=
 ⟨fun b h => by unfold ext; rw [if_neg (by omega)], fun _ _ _ _ h => h.below hb, fun _ _ _ _ h => h.below hb, fun _ _ _ h => h.below hb, fun h => h.below hb, hb.mono hB, .inr (hb.block g hg)⟩
theorem RC.alloc (γ : Nat → Nat) (w : World) (c : Nat) (hB : B ≤ w.heap.size) (hg : g < w.heap.size) (o : Obj) : RC B g k1 k2 l1 l2 γ w (ext γ w c) (w.alloc o) := RC.below γ w _ c hB hg (bA _ _)
theorem RC.store (γ : Nat → Nat) {w : World} {A A' : Option Addr} {c c' : Nat} (hs : Sl w g) (hB : B ≤ g) (h1 : Own w B A k1 c l1) (h2 : Own w B A' k2 c' l2) (hap : Apart A A') :
  RC B g k1 k2 l1 l2 γ w γ ((w.setCell ⟨g, 0, none⟩ (.slice A k1 c)).setCell ⟨g, 1, none⟩ (.slice A' k2 c')) ∧ GoodC ((w.setCell ⟨g, 0, none⟩ (.slice A k1 c)).setCell ⟨g, 1, none⟩ (.slice A' k2 c')) B g k1 k2 l1 l2 := by
 have hn : ∀ A2 k2 c2 x, Own w B A2 k2 c2 x → Own ((w.setCell ⟨g, 0, none⟩ (.slice A k1 c)).setCell ⟨g, 1, none⟩ (.slice A' k2 c')) B A2 k2 c2 x := fun A2 k2 c2 x h => (h.setSl hs _).setSl (hs.set0 _ _ _) _
 have hn : ∀ A2 m c2 x, Own w B A2 m c2 x → Own ((w.setCell ⟨g, 0, none⟩ (.slice A k1 c)).setCell ⟨g, 1, none⟩ (.slice A' k2 c')) B A2 m c2 x := fun A2 m c2 x h => (h.setSl hs _).setSl (hs.set0 _ _ _) _
 have hbk : Blk ((w.setCell ⟨g, 0, none⟩ (.slice A k1 c)).setCell ⟨g, 1, none⟩ (.slice A' k2 c')) g 29 #[.slice A k1 c, .slice A' k2 c'] := by
  obtain ⟨r1, r2, r3, r4, r5, r6, hb⟩ := hs; exact (hb.set_ 0 _).set_ 1 _
 have hgd : GoodC ((w.setCell ⟨g, 0, none⟩ (.slice A k1 c)).setCell ⟨g, 1, none⟩ (.slice A' k2 c')) B g k1 k2 l1 l2 := ⟨A, c, A', c', hbk, hn _ _ _ _ h1, hn _ _ _ _ h2, hap⟩; exact ⟨⟨fun _ _ => rfl, hn, fun b v1 v2 hne hb => Blk.far (Blk.far hb hne _) hne _, fun A2 c2 x h => (h.setSl hs _).setSl (hs.set0 _ _ _) _, fun _ => ⟨_, _, _, _, _, _, hbk⟩, ((Below.refl _ _).setCell hB _).setCell hB _, .inl hgd⟩, hgd⟩
end
structure SC (w0 : World) (g b1 : Nat) (A1 A2 : Option Addr) (k1 c1 k2 c2 : Nat) (l1 l2 : List Nat) (w : World) : Prop where
 x1 : Box w b1 (.slice A1 k1 c1) (.slice A2 k2 c2)
 la : Lim w A1 c1 l1
 lb : Lim w A2 c2 l2
 e1 : Hid (k1 = l1.length)
 e2 : Hid (k2 = l2.length)
 sl : Sl w g
 be : Below w0.heap.size w0 w
 n1 : b1 ≠ g
 ge : w0.heap.size ≤ g
section
variable {w0 w w' : World} {γ γ' : Nat → Nat} {g b1 : Nat} {A1 A2 : Option Addr} {k1 c1 k2 c2 : Nat} {l1 l2 : List Nat}
theorem SC.size (h : SC w0 g b1 A1 A2 k1 c1 k2 c2 l1 l2 w) : w0.heap.size ≤ w.heap.size := h.be.size
theorem SC.lt (h : SC w0 g b1 A1 A2 k1 c1 k2 c2 l1 l2 w) : g < w.heap.size := h.sl.lt
theorem SC.step (hr : RC w0.heap.size g k1 k2 l1 l2 γ w γ' w') (h : SC w0 g b1 A1 A2 k1 c1 k2 c2 l1 l2 w) : SC w0 g b1 A1 A2 k1 c1 k2 c2 l1 l2 w' :=
 ⟨hr.box _ _ _ h.n1 h.x1, hr.lim _ _ _ h.la, hr.lim _ _ _ h.lb, h.e1, h.e2, hr.sl h.sl, h.be.trans hr.be, h.n1, h.ge⟩
end
def PhiCp (B b1 g k1 k2 : Nat) (a1 a2 : Value) (l1 l2 : List Nat) (γ : Nat → Nat) (j : Nat) (w : World) (x : Value) : Prop :=
 match j with
 | 0 => ∃ b, x = .slice (some ⟨b, 0, none⟩) 0 0 ∧ Own w B (some ⟨b, 0, none⟩) 0 0 [] ∧ γ b = 0
 | 1 => x = .pointer (some ⟨b1, 0, none⟩)
 | 2 => x = a1
 | 3 => ∃ A c, x = .slice A k1 c ∧ Own w B A k1 c l1 ∧ (∀ b, A = some ⟨b, 0, none⟩ → γ b = 0)
 | 4 => ∃ b, x = .slice (some ⟨b, 0, none⟩) 0 0 ∧ Own w B (some ⟨b, 0, none⟩) 0 0 [] ∧ γ b = 1
 | 5 => x = .pointer (some ⟨b1, 1, none⟩)
 | 6 => x = a2
 | 7 => ∃ A c, x = .slice A k2 c ∧ Own w B A k2 c l2 ∧ (∀ b, A = some ⟨b, 0, none⟩ → γ b = 1)
 | 8 => ∃ A c A' c', x = .agg #[.slice A k1 c, .slice A' k2 c'] ∧ Own w B A k1 c l1 ∧ Own w B A' k2 c' l2 ∧ Apart A A'
 | 9 => GoodC w B g k1 k2 l1 l2
 | _ => True
theorem PhiCp.keep {B b1 g k1 k2 : Nat} {a1 a2 : Value} {l1 l2 : List Nat} : ∀ (γ : Nat → Nat) (w : World) (γ' : Nat → Nat) (w' : World), RC B g k1 k2 l1 l2 γ w γ' w' → ∀ j x, PhiCp B b1 g k1 k2 a1 a2 l1 l2 γ j w x → PhiCp B b1 g k1 k2 a1 a2 l1 l2 γ' j w' x := by
 intro γ w γ' w' hr j x h; unfold PhiCp at h ⊢
 split <;> simp only at h ⊢
 all_goals first
  | exact h
  | (obtain ⟨b, rfl, h1, h2⟩ := h; exact ⟨b, rfl, hr.own _ _ _ _ h1, by rw [hr.col b (h1.lt b rfl)]; exact h2⟩)
  | (obtain ⟨A, c, rfl, h1, h2⟩ := h; exact ⟨A, c, rfl, hr.own _ _ _ _ h1, fun b hb => by rw [hr.col b (h1.lt b hb)]; exact h2 b hb⟩)
  | (obtain ⟨A, c, A', c', rfl, h1, h2, h3⟩ := h; exact ⟨A, c, A', c', rfl, hr.own _ _ _ _ h1, hr.own _ _ _ _ h2, h3⟩)
  | (rcases hr.good with h2 | h2; exact h2; obtain ⟨A, c, A', c', h3, h4, h5, h6⟩ := h; exact ⟨A, c, A', c', h2.trans h3, hr.own _ _ _ _ h4, hr.own _ _ _ _ h5, h6⟩)
theorem Lim.below_lt {w : World} {A : Option Addr} {c : Nat} {l : List Nat} (h : Lim w A c l) (hl : l ≠ []) : ∀ b off, A = some ⟨b, off, none⟩ → b < w.heap.size := by
 intro b off hA; have h0 : 0 < l.length := List.length_pos_iff.2 hl; obtain ⟨b', off', hA', hc⟩ := h.at_ h0; rw [hA'] at hA; injection hA with hA; injection hA with e1 e2; subst e1; exact cell_lt (hc 0 h0)
set_option maxRecDepth 10000 in
set_option maxHeartbeats 2000000 in
theorem copy_n (va : Value) (L1 L2 : List Nat) (w : World) (ha : RtL w va L1 L2) (hs1 : L1.length ≤ 1048576) (hs2 : L2.length ≤ 1048576) :
  Calls Tryz.prog 55 #[va] w fun e w' => ∃ A k c A' k' c', e = .returned (.agg #[.slice A k c, .slice A' k' c']) ∧ Own w' w.heap.size A k c L1 ∧ Own w' w.heap.size A' k' c' L2 ∧ Apart A A' ∧ Below w.heap.size w w' := by
 obtain ⟨A1, k1, c1, A2, k2, c2, rfl⟩ := ha.shape; obtain ⟨W, HW⟩ : ∃ W, Hid (W = ((w.alloc (.cells #[.slice A1 k1 c1, .slice A2 k2 c2] 29)).alloc (.cells #[.slice none 0 0, .slice none 0 0] 29))) := ⟨_, rfl⟩; have hbw : Below w.heap.size w W := by rw [HW.out]; exact Below.tr (bA _ _) (bA _ _)
 obtain ⟨a1, a2, a3, a4⟩ := (ha.below hbw).nb; have sz1 : k1 ≤ 1048576 := by omega
 have sz2 : k2 ≤ 1048576 := by omega
 have hS0 : SC w (w.heap.size + 1) w.heap.size A1 A2 k1 c1 k2 c2 L1 L2 W := by
  refine ⟨?_, a1, a2, a3, a4, ?_, hbw, by omega, by omega⟩
  ·rw [HW.out]; exact Box.below (Blk.new w _ _) (bA _ _)
  ·rw [HW.out]; have := Blk.new (w.alloc (.cells #[.slice A1 k1 c1, .slice A2 k2 c2] 29)) 29 #[.slice none 0 0, .slice none 0 0]; exact ⟨none, 0, 0, none, 0, 0, by simpa using this⟩
 clear a1 a2 a3 a4 ha
 go_enter Tryz.func55, Tryz.ntmps55
 go_wp2_with fail; rw [← HW.out]; clear HW; refine region_invg (Γ := Nat → Nat) (PhiCp w.heap.size w.heap.size (w.heap.size + 1) k1 k2 (.slice A1 k1 c1) (.slice A2 k2 c2) L1 L2) (RC w.heap.size (w.heap.size + 1) k1 k2 L1 L2) (fun _ => SC w (w.heap.size + 1) w.heap.size A1 A2 k1 c1 k2 c2 L1 L2) (fun _ => 0) (by kernel_rfl) (by kernel_rfl) (by kernel_rfl) PhiCp.keep (fun _ _ _ _ hR hS => hS.step hR) (hS0.step (γ := fun _ => 0) (RC.below _ _ _ 0 hS0.size hS0.lt (bD _))) ?_ ?_
 ·refine sK ?_ (sK ?_ (sK ?_ (sK ?_ (sK ?_ (sK ?_ (sK ?_ (sK ?_ (sK ?_ (sK ?_ (sZ))))))))))
  ·intro vs γ W hS hdep K hK; have hx := RC.alloc γ W 0 hS.size hS.lt (.cells #[] 56) (g := w.heap.size + 1) (k1 := k1) (k2 := k2) (l1 := L1) (l2 := L2); have hy := own_new W hS.size; refine ⟨?_⟩; simp only [fillR, Act.put, sA, sB, sC, Nat.zero_add, Nat.reduceAdd] at hK ⊢; go_simp; with_reducible refine hK _ _ _ hx ?_
   exact ⟨_, rfl, hy, by simp [ext]⟩
  ·intro vs γ W hS hdep K hK; refine ⟨?_⟩; simp only [fillR, Act.put, sA, sB, sC, Nat.zero_add, Nat.reduceAdd] at hK ⊢; go_simp; with_reducible refine hK _ _ _ (RC.refl _ _) ?_
   exact rfl
  ·intro vs γ W hS hdep K hK; have d0 := hdep ⟨1, .data⟩ (by simp) rfl; simp only [PhiCp] at d0; have f1 := hS.x1.facts.1; have f2 := hS.x1.facts.2; refine ⟨?_⟩; simp only [fillR, Act.put, sA, sB, sC, Nat.zero_add, Nat.reduceAdd, d0] at hK ⊢; go_simp; with_reducible refine hK _ _ _ (RC.refl _ _) ?_
   exact rfl
  ·intro vs γ W hS hdep K hK; have d0 := hdep ⟨0, .data⟩ (by simp) rfl; simp only [PhiCp] at d0; refine @exE1 _ _ _ d0 ?_; clear d0; intro b0 d0; have e0 := d0.1; have n0 := d0.2.1; have m0 := d0.2.2; clear d0; have d1 := hdep ⟨2, .data⟩ (by simp) rfl; simp only [PhiCp] at d1; refine ⟨?_⟩; simp only [fillR, Act.put, sA, sB, sC, Nat.zero_add, Nat.reduceAdd, e0, d1] at hK ⊢; rw [if_pos (by rfl)]; refine wp_clone (.tmp 3) (.tmp 5) 27 u32_info Tryz.underlying27 w.heap.size b0 n0 A1 k1 c1 L1 hS.la hS.e1 sz1 hS.size (by rfl) (by rfl) (by rfl) (by rfl) ?_; intro v' w' A' c' hv hown hb hfr; subst hv; have hx := RC.below γ W w' 0 hS.size hS.lt hb (g := w.heap.size + 1) (k1 := k1) (k2 := k2) (l1 := L1) (l2 := L2); have hz : ∀ b, A' = some ⟨b, 0, none⟩ → ext γ W 0 b = 0 := fun b hb2 => ext_of hfr n0 m0 hb2
   simp only [Act.put, sA, sB, sC]; with_reducible refine hK _ _ _ hx ?_
   exact ⟨A', c', rfl, hown, hz⟩
  ·intro vs γ W hS hdep K hK; have hx := RC.alloc γ W 1 hS.size hS.lt (.cells #[] 56) (g := w.heap.size + 1) (k1 := k1) (k2 := k2) (l1 := L1) (l2 := L2); have hy := own_new W hS.size; refine ⟨?_⟩; simp only [fillR, Act.put, sA, sB, sC, Nat.zero_add, Nat.reduceAdd] at hK ⊢; go_simp; with_reducible refine hK _ _ _ hx ?_
   exact ⟨_, rfl, hy, by simp [ext]⟩
  ·intro vs γ W hS hdep K hK; refine ⟨?_⟩; simp only [fillR, Act.put, sA, sB, sC, Nat.zero_add, Nat.reduceAdd] at hK ⊢; go_simp; with_reducible refine hK _ _ _ (RC.refl _ _) ?_
   exact rfl
  ·intro vs γ W hS hdep K hK; have d0 := hdep ⟨5, .data⟩ (by simp) rfl; simp only [PhiCp] at d0; have f1 := hS.x1.facts.1; have f2 := hS.x1.facts.2; refine ⟨?_⟩; simp only [fillR, Act.put, sA, sB, sC, Nat.zero_add, Nat.reduceAdd, d0] at hK ⊢; go_simp; with_reducible refine hK _ _ _ (RC.refl _ _) ?_
   exact rfl
  ·intro vs γ W hS hdep K hK; have d0 := hdep ⟨4, .data⟩ (by simp) rfl; simp only [PhiCp] at d0; refine @exE1 _ _ _ d0 ?_; clear d0; intro b0 d0; have e0 := d0.1; have n0 := d0.2.1; have m0 := d0.2.2; clear d0; have d1 := hdep ⟨6, .data⟩ (by simp) rfl; simp only [PhiCp] at d1; refine ⟨?_⟩; simp only [fillR, Act.put, sA, sB, sC, Nat.zero_add, Nat.reduceAdd, e0, d1] at hK ⊢; rw [if_pos (by rfl)]; refine wp_clone (.tmp 7) (.tmp 9) 27 u32_info Tryz.underlying27 w.heap.size b0 n0 A2 k2 c2 L2 hS.lb hS.e2 sz2 hS.size (by rfl) (by rfl) (by rfl) (by rfl) ?_; intro v' w' A' c' hv hown hb hfr; subst hv; have hx := RC.below γ W w' 1 hS.size hS.lt hb (g := w.heap.size + 1) (k1 := k1) (k2 := k2) (l1 := L1) (l2 := L2); have hz : ∀ b, A' = some ⟨b, 0, none⟩ → ext γ W 1 b = 1 := fun b hb2 => ext_of hfr n0 m0 hb2
   simp only [Act.put, sA, sB, sC]; with_reducible refine hK _ _ _ hx ?_
   exact ⟨A', c', rfl, hown, hz⟩
  ·intro vs γ W hS hdep K hK; have d0 := hdep ⟨3, .data⟩ (by simp) rfl; simp only [PhiCp] at d0; refine @exE2 _ _ _ _ d0 ?_; clear d0; intro A0 c0 d0; have e0 := d0.1; have n0 := d0.2.1; have m0 := d0.2.2; clear d0; have d1 := hdep ⟨7, .data⟩ (by simp) rfl; simp only [PhiCp] at d1; refine @exE2 _ _ _ _ d1 ?_; clear d1; intro A1 c1 d1; have e1 := d1.1; have n1 := d1.2.1; have m1 := d1.2.2; clear d1; refine ⟨?_⟩; simp only [fillR, Act.put, sA, sB, sC, Nat.zero_add, Nat.reduceAdd, e0, e1] at hK ⊢; go_simp; with_reducible refine hK _ _ _ (RC.refl _ _) ?_
   exact ⟨A0, c0, A1, c1, rfl, n0, n1, fun x y hx hy e => by have h1 := m0 x hx; have h2 := m1 y hy; rw [e] at h1; omega⟩
  ·intro vs γ W hS hdep K hK; have d0 := hdep ⟨8, .data⟩ (by simp) rfl; simp only [PhiCp] at d0; refine @exE4 _ _ _ _ _ _ d0 ?_; clear d0; intro A0 c0 B0 d0 d0; have e0 := d0.1; have n0 := d0.2.1; have m0 := d0.2.2.1; have o0 := d0.2.2.2; clear d0; have q1 := (hS.sl.facts').1; have q2 := (hS.sl.facts').2; have HR := Lib.hid (RC.store (B := w.heap.size) γ hS.sl hS.ge n0 m0 o0); obtain ⟨r1, r2, r3, r4, r5, r6, hres⟩ := hS.sl; have q3 := hres.cell 0; have q4 := hres.cell 1; simp at q3 q4; clear hres; refine ⟨?_⟩; simp only [fillR, Act.put, sA, sB, sC, Nat.zero_add, Nat.reduceAdd, e0] at hK ⊢; go_simp; with_reducible refine hK undef _ _ HR.out.1 ?_
   exact HR.out.2
 ·intro vs γ W3 hS hv; have v9 := hv 9 (by simp); simp only [PhiCp] at v9; obtain ⟨A, c, A', c', hblk, h1, h2, h3⟩ := v9; have q1 := hblk.cell 0; have q2 := hblk.cell 1; simp at q1 q2; have HX := Lib.hid (And.intro h1 (And.intro h2 h3)); have hbe := hS.be; clear hv hblk h1 h2 h3 hS; simp only [fillR, Act.put, sA, sB, sC, Nat.zero_add, Nat.reduceAdd]; go_wp2_with fail; exact bodyPost_ret (v := .agg #[.slice A k1 c, .slice A' k2 c']) (by simp [results, Tryz.results55, go_sem, q1, q2]) rfl ⟨_, _, _, _, _, _, rfl, HX.out.1, HX.out.2.1, HX.out.2.2, hbe⟩
end Go.Proofs.YtmbfjmilhfmnkaaGreatDoor
namespace Go.Proofs.YtmbfjmilhfmnkaaGreatDoor
open Go.RowKit
/-- n divided by d, in lowest form -/
def RatOf (w : World) (v : Value) (n d : Nat) : Prop := Rat w v (n / Nat.gcd n d) (d / Nat.gcd n d) ∧ Nm.Good (n / Nat.gcd n d) (d / Nat.gcd n d)
theorem RatOf.below {w w' : World} {v : Value} {n d : Nat} (h : RatOf w v n d) (hb : Below w.heap.size w w') : RatOf w' v n d := ⟨h.1.below hb, h.2⟩
theorem RatOf.map {w w' : World} {v : Value} {n d : Nat} (h : RatOf w v n d) (hm : ∀ A k c x, Nb w A k c x → Nb w' A k c x) : RatOf w' v n d := ⟨h.1.map hm, h.2⟩
theorem rof_s (n d : Nat) (w : World) (hn : n ≤ 9223372036854775807) (hd : 0 < d) (hd2 : d ≤ 9223372036854775807) :
  Calls Tryz.prog 52 #[.int .i64 n, .int .i64 d] w fun e w' => ∃ A k c A' k' c', e = .returned (.tuple #[.agg #[.slice A k c, .slice A' k' c'], .int .i64 0]) ∧ RatOf w' (.agg #[.slice A k c, .slice A' k' c']) n d ∧ Below w.heap.size w w' := by
 refine (rof_n n d w hn hd hd2).mono ?_; rintro e w' ⟨v, er, rfl, hP, hb⟩; obtain ⟨rfl, h1, h2⟩ := hP.small hd (b64 (by omega)) (b64 (by omega)); obtain ⟨A, k, c, A', k', c', rfl⟩ := h1.shape; exact ⟨A, k, c, A', k', c', rfl, ⟨h1, h2⟩, hb⟩
theorem rat_ret {w0 w : World} {g : Nat} {A A' : Option Addr} {k c k' c' n d : Nat} (hres : Res w g) (h : RatOf w (.agg #[.slice A k c, .slice A' k' c']) n d) :
  RatOf ((w.setCell ⟨g, 0, none⟩ (.slice A k c)).setCell ⟨g, 1, none⟩ (.slice A' k' c')) (.agg #[.slice A k c, .slice A' k' c']) n d := h.map (hres.sl.keep2 A A' k c k' c')
theorem part_le {a k : Nat} (h : a ≤ k) : a / Nat.gcd a k ≤ k / Nat.gcd a k := Nat.div_le_div_right h
def isI64 (n : Int) : Prop := -9223372036854775808 ≤ n ∧ n ≤ 9223372036854775807
set_option maxRecDepth 10000 in
set_option maxHeartbeats 400000 in
theorem rpart_n (n d : Int) (w : World) (h1 : -9223372036854775808 ≤ n) (h2 : n ≤ 9223372036854775807) (h3 : -9223372036854775808 ≤ d) (h4 : d ≤ 9223372036854775807) :
  Calls Tryz.prog 25 #[.int .i64 n, .int .i64 d] w fun e w' => ∃ v p q, e = .returned v ∧ Rat w' v p q ∧ Nm.Good p q ∧ p ≤ q ∧ Hid (∃ a k, a ≤ k ∧ 0 < k ∧ k ≤ 24 ∧ p = a / Nat.gcd a k ∧ q = k / Nat.gcd a k) ∧ Below w.heap.size w w' := by
 go_enter Tryz.func25, Tryz.ntmps25
 go_wp2_with fail; refine (around_n d 24 _ h3 h4 (by omega) (by omega)).mono ?_; rintro e w' ⟨x, rfl, hx, _, rfl⟩; go_wp2_with fail; refine (around_n n (1 + x + 1) _ h1 h2 (by omega) (by omega)).mono ?_; rintro e w' ⟨y, rfl, hy, _, rfl⟩; go_wp2_with fail; refine (rof_s y (1 + x) _ (by omega) (by omega) (by omega)).mono ?_; rintro e w1 ⟨A, k, c, A', k', c', rfl, hR, hb⟩; have hres := Res.below (Res.below (Res.new w) hb) (bA w1 (.cells #[.slice A k c, .slice A' k' c'] 29)); have hR2 := hR.below (bA w1 (.cells #[.slice A k c, .slice A' k' c'] 29)); obtain ⟨r1, r2, r3, r4⟩ := hres.facts; obtain ⟨s1, s2⟩ := hres.set2 (.slice A k c) (.slice A' k' c'); have hfin := rat_ret (w0 := w) hres hR2; have hbw := Below.tr (Below.tr (bA w _) hb) (bA w1 (.cells #[.slice A k c, .slice A' k' c'] 29)); clear hR hR2 hb; go_wp2_with fail; exact bodyPost_ret (v := .agg #[.slice A k c, .slice A' k' c']) (by simp [results, Tryz.results25, go_sem, s1, s2]) rfl ⟨_, _, _, rfl, hfin.1, hfin.2, part_le (by omega), ⟨y, 1 + x, by omega, by omega, by omega, rfl, rfl⟩, below_set2 hbw (Nat.le_refl _) _ _⟩
set_option maxRecDepth 10000 in
set_option maxHeartbeats 400000 in
theorem rmade_n (n d : Int) (w : World) (h1 : -9223372036854775808 ≤ n) (h2 : n ≤ 9223372036854775807) (h3 : -9223372036854775808 ≤ d) (h4 : d ≤ 9223372036854775807) :
  Calls Tryz.prog 23 #[.int .i64 n, .int .i64 d] w fun e w' => ∃ v p q, e = .returned v ∧ Rat w' v p q ∧ Nm.Good p q ∧ Below w.heap.size w w' := by
 go_enter Tryz.func23, Tryz.ntmps23
 go_wp2_with fail; refine (around_n n 1048576 _ h1 h2 (by omega) (by omega)).mono ?_; rintro e w' ⟨y, rfl, hy, _, rfl⟩; go_wp2_with fail; refine (around_n d 1048576 _ h3 h4 (by omega) (by omega)).mono ?_; rintro e w' ⟨x, rfl, hx, _, rfl⟩; go_wp2_with fail; refine (rof_s y (1 + x) _ (by omega) (by omega) (by omega)).mono ?_; rintro e w1 ⟨A, k, c, A', k', c', rfl, hR, hb⟩; have hres := Res.below (Res.below (Res.new w) hb) (bA w1 (.cells #[.slice A k c, .slice A' k' c'] 29)); have hR2 := hR.below (bA w1 (.cells #[.slice A k c, .slice A' k' c'] 29)); obtain ⟨r1, r2, r3, r4⟩ := hres.facts; obtain ⟨s1, s2⟩ := hres.set2 (.slice A k c) (.slice A' k' c'); have hfin := rat_ret (w0 := w) hres hR2; have hbw := Below.tr (Below.tr (bA w _) hb) (bA w1 (.cells #[.slice A k c, .slice A' k' c'] 29)); clear hR hR2 hb; go_wp2_with fail; exact bodyPost_ret (v := .agg #[.slice A k c, .slice A' k' c']) (by simp [results, Tryz.results23, go_sem, s1, s2]) rfl ⟨_, _, _, rfl, hfin.1, hfin.2, below_set2 hbw (Nat.le_refl _) _ _⟩
end Go.Proofs.YtmbfjmilhfmnkaaGreatDoor
namespace Go.Proofs.YtmbfjmilhfmnkaaGreatDoor
open Go.RowKit
theorem own_app {w : World} {base n : Nat} {v : Value} {l l2 : List Nat} (h : w.ownsRow base 56 1 v n (u32s l ++ u32s l2)) (hl : Nm.Lim l) (hl2 : Nm.Lim l2) : ∃ A c, v = .slice A n c ∧ Own w base A n c (l ++ l2) := by
 rw [← u32s_append] at h; have hL : Nm.Lim (l ++ l2) := fun x hx => by rcases List.mem_append.1 hx with h | h; exact hl x h; exact hl2 x h
 obtain ⟨A, c, rfl, _, _⟩ := own_lim h hL; have e : (l ++ l2).length = n := by have := h.1; simp [u32s] at this; simp; omega
 rw [e] at h ⊢; exact ⟨A, c, rfl, h, hL⟩
theorem Own.notBox {w : World} {base k c g : Nat} {A : Option Addr} {l : List Nat} {v1 v2 : Value} (h : Own w base A k c l) (hb : Box w g v1 v2) : ∀ g', A = some ⟨g', 0, none⟩ → g' ≠ g := by
 rintro g' hA rfl
 rcases h.1.2 with ⟨h0, _⟩ | ⟨g2, cap, cur, hv, _, hh, _⟩
 ·injection h0 with e1; rw [hA] at e1; cases e1
 ·injection hv with e1 _ _; rw [hA] at e1; injection e1 with e1; injection e1 with e1 _; unfold Box Blk at hb; rw [← e1, hb] at hh; simp at hh
theorem Box.other {w w' : World} {base k c g : Nat} {A : Option Addr} {l : List Nat} {v1 v2 : Value} (hb : Box w g v1 v2) (h : Own w base A k c l) (hg : w.grownBy w' (Value.ownBlock (.slice A k c))) : Box w' g v1 v2 := by
 refine (hg.block g (Blk.lt hb) fun e => ?_).trans hb
 rcases h.zeroOff with rfl | ⟨g', rfl, _⟩
 ·simp [Value.ownBlock] at e
 ·simp [Value.ownBlock] at e; exact h.notBox hb g' rfl e.symm
theorem RtL.setSl2 {w : World} {v : Value} {g : Nat} {l1 l2 : List Nat} (h : RtL w v l1 l2) (hs : Sl w g) (A A' : Option Addr) (k c k' c' : Nat) : RtL ((w.setCell ⟨g, 0, none⟩ (.slice A k c)).setCell ⟨g, 1, none⟩ (.slice A' k' c')) v l1 l2 := by
 obtain ⟨A1, k1, c1, A2, k2, c2, rfl, h1, h2, e1, e2⟩ := h; exact ⟨A1, k1, c1, A2, k2, c2, rfl, (h1.setSl hs _).setSl (hs.set0 _ _ _) _, (h2.setSl hs _).setSl (hs.set0 _ _ _) _, e1, e2⟩
theorem Own.grown2 {w w' w0 : World} {base b ka ca : Nat} {A : Option Addr} {la : List Nat} (ha : Own w base A ka ca la) (h : Below b w0 w) (hb : b ≤ base) (hw : b ≤ w.heap.size) (hg : w.grownBy w' (Value.ownBlock (.slice A ka ca))) : Below b w0 w' := by
 refine h.grown hg hw fun k hk => ?_
 rcases ha.zeroOff with rfl | ⟨g', rfl, hb2⟩
 ·simp [Value.ownBlock] at hk
 ·simp [Value.ownBlock] at hk; omega
theorem rtl_own {w : World} {B1 B2 : Nat} {A A' : Option Addr} {k c k' c' : Nat} {l l' : List Nat} (h1 : Own w B1 A k c l) (h2 : Own w B2 A' k' c' l') : RtL w (.agg #[.slice A k c, .slice A' k' c']) l l' := ⟨_, _, _, _, _, _, rfl, h1.lim, h2.lim, h1.len, h2.len⟩
theorem rtl_lim {w : World} {A A' : Option Addr} {k c k' c' : Nat} {l l' : List Nat} (h1 : Lim w A c l) (h2 : Lim w A' c' l') (e1 : k = l.length) (e2 : k' = l'.length) : RtL w (.agg #[.slice A k c, .slice A' k' c']) l l' := ⟨_, _, _, _, _, _, rfl, h1, h2, e1, e2⟩
theorem Nb.digit (w : World) (g n : Nat) (hg : g = w.heap.size) (h0 : 0 < n) (hn : n < 4294967296) : Nb (w.alloc (.cells #[.int .u32 (n : Int)] 56)) (some ⟨g, 0, none⟩) 1 1 n := by
 subst hg; have h : Row (w.alloc (.cells #[.int .u32 (n : Int)] 56)) w.heap.size [n] := ⟨Blk.new w _ _, fun x hx => by rw [List.mem_singleton.1 hx]; exact hn⟩; have := h.lim (c := 1) (by simp) (by omega); have e : Nm.lb n = [n] := Nm.lb_small (by omega) hn; rw [← e] at this; exact ⟨by rw [e]; rfl, this⟩
theorem Lim.digit (w : World) (g n : Nat) (hg : g = w.heap.size) (hn : n < 4294967296) : Lim (w.alloc (.cells #[.int .u32 (n : Int)] 56)) (some ⟨g, 0, none⟩) 1 [n] := by
 subst hg; have h : Row (w.alloc (.cells #[.int .u32 (n : Int)] 56)) w.heap.size [n] := ⟨Blk.new w _ _, fun x hx => by rw [List.mem_singleton.1 hx]; exact hn⟩; exact h.lim (c := 1) (by simp) (by omega)
set_option maxRecDepth 10000 in
set_option maxHeartbeats 2000000 in
theorem spoilt_0 (va : Value) (p q : Nat) (how by_ : Int) (w : World) (ha : Rat w va p q) (ga : Nm.Good p q) (i1 : -9223372036854775808 ≤ how) (i2 : how ≤ 9223372036854775807) (i3 : -9223372036854775808 ≤ by_) (i4 : by_ ≤ 9223372036854775807) (h7 : aroundN how 7 = 0) :
  Calls Tryz.prog 26 #[va, .int .i64 how, .int .i64 by_] w fun e w' => ∃ v m1 m2, e = .returned v ∧ RtL w' v m1 m2 ∧ m1.length ≤ 200 ∧ m2.length ≤ 200 ∧ Below w.heap.size w w' := by
 obtain ⟨A1, k1, c1, A2, k2, c2, rfl⟩ := ha.shape; have hW0 : Below w.heap.size w ((w.alloc (.cells #[.slice A1 k1 c1, .slice A2 k2 c2] 29)).alloc (.cells #[.slice none 0 0, .slice none 0 0] 29)) := Below.tr (bA _ _) (bA _ _)
 have hR0 : Res ((w.alloc (.cells #[.slice A1 k1 c1, .slice A2 k2 c2] 29)).alloc (.cells #[.slice none 0 0, .slice none 0 0] 29)) (w.heap.size + 1) := by
  have := Blk.new (w.alloc (.cells #[.slice A1 k1 c1, .slice A2 k2 c2] 29)) 29 #[.slice none 0 0, .slice none 0 0]; unfold Res; simpa using this
 obtain ⟨W0, HW⟩ : ∃ W, Hid (W = ((w.alloc (.cells #[.slice A1 k1 c1, .slice A2 k2 c2] 29)).alloc (.cells #[.slice none 0 0, .slice none 0 0] 29))) := ⟨_, rfl⟩; rw [← HW.out] at hW0 hR0; have hz := hW0.size; have hcp := copy_n _ _ _ W0 (ha.below hW0).rtl (by have := ga.fits.1; omega) (by have := ga.fits.2; omega); have HCP := Lib.hid hcp; have HH7 := Lib.hid h7; clear hcp h7
 go_enter Tryz.func26, Tryz.ntmps26
 go_wp2_with fail; rw [← HW.out]; refine HCP.out.mono ?_; rintro e w1 ⟨A, k, c, A', k', c', rfl, ho1, ho2, hap, hb1⟩; have hlen1 : k ≤ 64 := by have := ho1.len; have := ga.fits.1; omega
 have hlen2 : k' ≤ 64 := by have := ho2.len; have := ga.fits.2; omega
 have hb7 : Box (w1.alloc (.cells #[.slice A k c, .slice A' k' c'] 29)) w1.heap.size (.slice A k c) (.slice A' k' c') := Blk.new _ _ _; have hR1 := Res.below (Res.below hR0 hb1) (bA w1 (.cells #[.slice A k c, .slice A' k' c'] 29)); have hne : w.heap.size + 1 < w1.heap.size := Nat.lt_of_lt_of_le hR0.lt hb1.size; have hbw := Below.tr (Below.tr hW0 hb1) (bA w1 (.cells #[.slice A k c, .slice A' k' c'] 29)); have ho1 := ho1.below (bA w1 (.cells #[.slice A k c, .slice A' k' c'] 29)); have ho2 := ho2.below (bA w1 (.cells #[.slice A k c, .slice A' k' c'] 29)); have hsz0 : W0.heap.size ≤ (w1.alloc (.cells #[.slice A k c, .slice A' k' c'] 29)).heap.size := Nat.le_trans hb1.size (bA _ _).size; clear hb1 hR0 hW0 HCP HW ha; obtain ⟨W1, HW1⟩ : ∃ W, Hid (W = w1.alloc (.cells #[.slice A k c, .slice A' k' c'] 29)) := ⟨_, rfl⟩; obtain ⟨g7, HG7⟩ : ∃ g, Hid (g = w1.heap.size) := ⟨_, rfl⟩; rw [← HW1.out, ← HG7.out] at hb7; rw [← HW1.out] at hR1 hbw ho1 ho2 hsz0; rw [← HG7.out] at hne; go_wp2_with fail; rw [← HW1.out, ← HG7.out]; refine (around_n by_ 5 _ i3 i4 (by omega) (by omega)).mono ?_; rintro e w' ⟨k5, rfl, hk5, _, rfl⟩; go_wp2_with fail; refine (around_n how 7 _ i1 i2 (by omega) (by omega)).mono ?_; rintro e w' ⟨x7, rfl, hx7, HX7, rfl⟩; obtain rfl : x7 = 0 := HX7.out.trans HH7.out; clear hx7; obtain ⟨f1, f2⟩ := hb7.facts; have q1 := Blk.frozen hb7 0; have q2 := Blk.frozen hb7 1; obtain ⟨i0, hi0, hz0, hz1, hz2⟩ := info_parts u32_info; have hdig := Lim.digit W1 W1.heap.size 0 rfl (by omega)
 have hown := ho1.below (bA W1 (.cells #[.int .u32 ((0 : Nat) : Int)] 56)); have hoth := ho2.below (bA W1 (.cells #[.int .u32 ((0 : Nat) : Int)] 56)); have hb7 := hb7.below (bA W1 (.cells #[.int .u32 ((0 : Nat) : Int)] 56)); have hR1 := Res.below hR1 (bA W1 (.cells #[.int .u32 ((0 : Nat) : Int)] 56)); have hbw := Below.tr hbw (bA W1 (.cells #[.int .u32 ((0 : Nat) : Int)] 56)); have hsz : W0.heap.size ≤ (W1.alloc (.cells #[.int .u32 ((0 : Nat) : Int)] 56)).heap.size := Nat.le_trans hsz0 (bA _ _).size
 go_wp2_with (at_builtin; refine wpList_append_any _ rfl (.tmp 31) (.tmp 32) _ rfl W0.heap.size 56 i0 _ 1 4 Tryz.underlying27 hi0 hz0 hz1 hz2 rfl (by omega) (.slice A k c) k (u32s (Nm.lb p)) rfl hown.1 (some ⟨W1.heap.size, 0, none⟩) 1 1 (u32s [0]) rfl rfl hdig.1 (u32s_one _) (by simp only [maxLen]; omega) (by omega) hsz ?_; intro v1 w2 hown1 hg1 hat1; obtain ⟨An, cn, hv, hon⟩ := own_app hown1 (Nm.lim_lb _) hdig.limb; subst hv; have hb7' := hb7.other hown hg1; have hR1' := Box.other hR1 hown hg1; have hoth' := hoth.other hown hg1 hap; have f1 := hb7'.facts.1; have f2 := hb7'.facts.2; have q1 := Blk.frozen hb7' 0; have q2 := Blk.frozen hb7' 1; have hb8 := Blk.set_ hb7' 0 (.slice An (k + 1) cn); have g1 := hb8.cell 0; have g2 := hb8.cell 1; simp at g1 g2; have hR8 : Res (w2.setCell ⟨g7, 0, none⟩ (.slice An (k + 1) cn)) (w.heap.size + 1) := Blk.far hR1' (by show w.heap.size + 1 ≠ g7; omega) _; have r1 := hR8.facts.1; have r2 := hR8.facts.2.1; have r3 := hR8.facts.2.2.1; have r4 := hR8.facts.2.2.2)
 have hrt : RtL (w2.setCell ⟨g7, 0, none⟩ (.slice An (k + 1) cn)) (.agg #[.slice An (k + 1) cn, .slice A' k' c']) (Nm.lb p ++ [0]) (Nm.lb (Nm.dn q)) := rtl_own (hon.setSl hb7'.sl _) (hoth'.setSl hb7'.sl _); have hbe := ((hown.grown2 hbw hz hbw.size hg1).setCell (p := ⟨g7, 0, none⟩) (show w.heap.size ≤ g7 by omega) (.slice An (k + 1) cn)); obtain ⟨s1, s2⟩ := hR8.set2 (.slice An (k + 1) cn) (.slice A' k' c'); exact bodyPost_ret (v := (.agg #[.slice An (k + 1) cn, .slice A' k' c'])) (by simp [results, Tryz.results26, go_sem, s1, s2]) rfl ⟨_, _, _, rfl, hrt.setSl2 hR8.sl _ _ _ _ _ _, by have := ho1.len; simp; omega, by have := ho2.len; simp; omega, below_set2 hbe (by omega) _ _⟩
set_option maxRecDepth 10000 in
set_option maxHeartbeats 2000000 in
theorem spoilt_1 (va : Value) (p q : Nat) (how by_ : Int) (w : World) (ha : Rat w va p q) (ga : Nm.Good p q) (i1 : -9223372036854775808 ≤ how) (i2 : how ≤ 9223372036854775807) (i3 : -9223372036854775808 ≤ by_) (i4 : by_ ≤ 9223372036854775807) (h7 : aroundN how 7 = 1) :
  Calls Tryz.prog 26 #[va, .int .i64 how, .int .i64 by_] w fun e w' => ∃ v m1 m2, e = .returned v ∧ RtL w' v m1 m2 ∧ m1.length ≤ 200 ∧ m2.length ≤ 200 ∧ Below w.heap.size w w' := by
 obtain ⟨A1, k1, c1, A2, k2, c2, rfl⟩ := ha.shape; have hW0 : Below w.heap.size w ((w.alloc (.cells #[.slice A1 k1 c1, .slice A2 k2 c2] 29)).alloc (.cells #[.slice none 0 0, .slice none 0 0] 29)) := Below.tr (bA _ _) (bA _ _)
 have hR0 : Res ((w.alloc (.cells #[.slice A1 k1 c1, .slice A2 k2 c2] 29)).alloc (.cells #[.slice none 0 0, .slice none 0 0] 29)) (w.heap.size + 1) := by
  have := Blk.new (w.alloc (.cells #[.slice A1 k1 c1, .slice A2 k2 c2] 29)) 29 #[.slice none 0 0, .slice none 0 0]; unfold Res; simpa using this
 obtain ⟨W0, HW⟩ : ∃ W, Hid (W = ((w.alloc (.cells #[.slice A1 k1 c1, .slice A2 k2 c2] 29)).alloc (.cells #[.slice none 0 0, .slice none 0 0] 29))) := ⟨_, rfl⟩; rw [← HW.out] at hW0 hR0; have hz := hW0.size; have hcp := copy_n _ _ _ W0 (ha.below hW0).rtl (by have := ga.fits.1; omega) (by have := ga.fits.2; omega); have HCP := Lib.hid hcp; have HH7 := Lib.hid h7; clear hcp h7
 go_enter Tryz.func26, Tryz.ntmps26
 go_wp2_with fail; rw [← HW.out]; refine HCP.out.mono ?_; rintro e w1 ⟨A, k, c, A', k', c', rfl, ho1, ho2, hap, hb1⟩; have hlen1 : k ≤ 64 := by have := ho1.len; have := ga.fits.1; omega
 have hlen2 : k' ≤ 64 := by have := ho2.len; have := ga.fits.2; omega
 have hb7 : Box (w1.alloc (.cells #[.slice A k c, .slice A' k' c'] 29)) w1.heap.size (.slice A k c) (.slice A' k' c') := Blk.new _ _ _; have hR1 := Res.below (Res.below hR0 hb1) (bA w1 (.cells #[.slice A k c, .slice A' k' c'] 29)); have hne : w.heap.size + 1 < w1.heap.size := Nat.lt_of_lt_of_le hR0.lt hb1.size; have hbw := Below.tr (Below.tr hW0 hb1) (bA w1 (.cells #[.slice A k c, .slice A' k' c'] 29)); have ho1 := ho1.below (bA w1 (.cells #[.slice A k c, .slice A' k' c'] 29)); have ho2 := ho2.below (bA w1 (.cells #[.slice A k c, .slice A' k' c'] 29)); have hsz0 : W0.heap.size ≤ (w1.alloc (.cells #[.slice A k c, .slice A' k' c'] 29)).heap.size := Nat.le_trans hb1.size (bA _ _).size; clear hb1 hR0 hW0 HCP HW ha; obtain ⟨W1, HW1⟩ : ∃ W, Hid (W = w1.alloc (.cells #[.slice A k c, .slice A' k' c'] 29)) := ⟨_, rfl⟩; obtain ⟨g7, HG7⟩ : ∃ g, Hid (g = w1.heap.size) := ⟨_, rfl⟩; rw [← HW1.out, ← HG7.out] at hb7; rw [← HW1.out] at hR1 hbw ho1 ho2 hsz0; rw [← HG7.out] at hne; go_wp2_with fail; rw [← HW1.out, ← HG7.out]; refine (around_n by_ 5 _ i3 i4 (by omega) (by omega)).mono ?_; rintro e w' ⟨k5, rfl, hk5, _, rfl⟩; go_wp2_with fail; refine (around_n how 7 _ i1 i2 (by omega) (by omega)).mono ?_; rintro e w' ⟨x7, rfl, hx7, HX7, rfl⟩; obtain rfl : x7 = 1 := HX7.out.trans HH7.out; clear hx7; obtain ⟨f1, f2⟩ := hb7.facts; have q1 := Blk.frozen hb7 0; have q2 := Blk.frozen hb7 1; obtain ⟨i0, hi0, hz0, hz1, hz2⟩ := info_parts u32_info; have hdig := Lim.digit W1 W1.heap.size 0 rfl (by omega)
 have hown := ho2.below (bA W1 (.cells #[.int .u32 ((0 : Nat) : Int)] 56)); have hoth := ho1.below (bA W1 (.cells #[.int .u32 ((0 : Nat) : Int)] 56)); have hb7 := hb7.below (bA W1 (.cells #[.int .u32 ((0 : Nat) : Int)] 56)); have hR1 := Res.below hR1 (bA W1 (.cells #[.int .u32 ((0 : Nat) : Int)] 56)); have hbw := Below.tr hbw (bA W1 (.cells #[.int .u32 ((0 : Nat) : Int)] 56)); have hsz : W0.heap.size ≤ (W1.alloc (.cells #[.int .u32 ((0 : Nat) : Int)] 56)).heap.size := Nat.le_trans hsz0 (bA _ _).size
 go_wp2_with (at_builtin; refine wpList_append_any _ rfl (.tmp 38) (.tmp 39) _ rfl W0.heap.size 56 i0 _ 1 4 Tryz.underlying27 hi0 hz0 hz1 hz2 rfl (by omega) (.slice A' k' c') k' (u32s (Nm.lb (Nm.dn q))) rfl hown.1 (some ⟨W1.heap.size, 0, none⟩) 1 1 (u32s [0]) rfl rfl hdig.1 (u32s_one _) (by simp only [maxLen]; omega) (by omega) hsz ?_; intro v1 w2 hown1 hg1 hat1; obtain ⟨An, cn, hv, hon⟩ := own_app hown1 (Nm.lim_lb _) hdig.limb; subst hv; have hb7' := hb7.other hown hg1; have hR1' := Box.other hR1 hown hg1; have hoth' := hoth.other hown hg1 hap.symm; have f1 := hb7'.facts.1; have f2 := hb7'.facts.2; have q1 := Blk.frozen hb7' 0; have q2 := Blk.frozen hb7' 1; have hb8 := Blk.set_ hb7' 1 (.slice An (k' + 1) cn); have g1 := hb8.cell 0; have g2 := hb8.cell 1; simp at g1 g2; have hR8 : Res (w2.setCell ⟨g7, 1, none⟩ (.slice An (k' + 1) cn)) (w.heap.size + 1) := Blk.far hR1' (by show w.heap.size + 1 ≠ g7; omega) _; have r1 := hR8.facts.1; have r2 := hR8.facts.2.1; have r3 := hR8.facts.2.2.1; have r4 := hR8.facts.2.2.2)
 have hrt : RtL (w2.setCell ⟨g7, 1, none⟩ (.slice An (k' + 1) cn)) (.agg #[.slice A k c, .slice An (k' + 1) cn]) (Nm.lb p) (Nm.lb (Nm.dn q) ++ [0]) := rtl_own (hoth'.setSl hb7'.sl _) (hon.setSl hb7'.sl _); have hbe := ((hown.grown2 hbw hz hbw.size hg1).setCell (p := ⟨g7, 1, none⟩) (show w.heap.size ≤ g7 by omega) (.slice An (k' + 1) cn)); obtain ⟨s1, s2⟩ := hR8.set2 (.slice A k c) (.slice An (k' + 1) cn); exact bodyPost_ret (v := (.agg #[.slice A k c, .slice An (k' + 1) cn])) (by simp [results, Tryz.results26, go_sem, s1, s2]) rfl ⟨_, _, _, rfl, hrt.setSl2 hR8.sl _ _ _ _ _ _, by have := ho1.len; simp; omega, by have := ho2.len; simp; omega, below_set2 hbe (by omega) _ _⟩
set_option maxRecDepth 10000 in
set_option maxHeartbeats 2000000 in
theorem spoilt_4 (va : Value) (p q : Nat) (how by_ : Int) (w : World) (ha : Rat w va p q) (ga : Nm.Good p q) (i1 : -9223372036854775808 ≤ how) (i2 : how ≤ 9223372036854775807) (i3 : -9223372036854775808 ≤ by_) (i4 : by_ ≤ 9223372036854775807) (h7 : aroundN how 7 = 4) :
  Calls Tryz.prog 26 #[va, .int .i64 how, .int .i64 by_] w fun e w' => ∃ v m1 m2, e = .returned v ∧ RtL w' v m1 m2 ∧ m1.length ≤ 200 ∧ m2.length ≤ 200 ∧ Below w.heap.size w w' := by
 obtain ⟨A1, k1, c1, A2, k2, c2, rfl⟩ := ha.shape; have hW0 : Below w.heap.size w ((w.alloc (.cells #[.slice A1 k1 c1, .slice A2 k2 c2] 29)).alloc (.cells #[.slice none 0 0, .slice none 0 0] 29)) := Below.tr (bA _ _) (bA _ _)
 have hR0 : Res ((w.alloc (.cells #[.slice A1 k1 c1, .slice A2 k2 c2] 29)).alloc (.cells #[.slice none 0 0, .slice none 0 0] 29)) (w.heap.size + 1) := by
  have := Blk.new (w.alloc (.cells #[.slice A1 k1 c1, .slice A2 k2 c2] 29)) 29 #[.slice none 0 0, .slice none 0 0]; unfold Res; simpa using this
 obtain ⟨W0, HW⟩ : ∃ W, Hid (W = ((w.alloc (.cells #[.slice A1 k1 c1, .slice A2 k2 c2] 29)).alloc (.cells #[.slice none 0 0, .slice none 0 0] 29))) := ⟨_, rfl⟩; rw [← HW.out] at hW0 hR0; have hz := hW0.size; have hcp := copy_n _ _ _ W0 (ha.below hW0).rtl (by have := ga.fits.1; omega) (by have := ga.fits.2; omega); have HCP := Lib.hid hcp; have HH7 := Lib.hid h7; clear hcp h7
 go_enter Tryz.func26, Tryz.ntmps26
 go_wp2_with fail; rw [← HW.out]; refine HCP.out.mono ?_; rintro e w1 ⟨A, k, c, A', k', c', rfl, ho1, ho2, hap, hb1⟩; have hlen1 : k ≤ 64 := by have := ho1.len; have := ga.fits.1; omega
 have hlen2 : k' ≤ 64 := by have := ho2.len; have := ga.fits.2; omega
 have hb7 : Box (w1.alloc (.cells #[.slice A k c, .slice A' k' c'] 29)) w1.heap.size (.slice A k c) (.slice A' k' c') := Blk.new _ _ _; have hR1 := Res.below (Res.below hR0 hb1) (bA w1 (.cells #[.slice A k c, .slice A' k' c'] 29)); have hne : w.heap.size + 1 < w1.heap.size := Nat.lt_of_lt_of_le hR0.lt hb1.size; have hbw := Below.tr (Below.tr hW0 hb1) (bA w1 (.cells #[.slice A k c, .slice A' k' c'] 29)); have ho1 := ho1.below (bA w1 (.cells #[.slice A k c, .slice A' k' c'] 29)); have ho2 := ho2.below (bA w1 (.cells #[.slice A k c, .slice A' k' c'] 29)); have hsz0 : W0.heap.size ≤ (w1.alloc (.cells #[.slice A k c, .slice A' k' c'] 29)).heap.size := Nat.le_trans hb1.size (bA _ _).size; clear hb1 hR0 hW0 HCP HW ha; obtain ⟨W1, HW1⟩ : ∃ W, Hid (W = w1.alloc (.cells #[.slice A k c, .slice A' k' c'] 29)) := ⟨_, rfl⟩; obtain ⟨g7, HG7⟩ : ∃ g, Hid (g = w1.heap.size) := ⟨_, rfl⟩; rw [← HW1.out, ← HG7.out] at hb7; rw [← HW1.out] at hR1 hbw ho1 ho2 hsz0; rw [← HG7.out] at hne; go_wp2_with fail; rw [← HW1.out, ← HG7.out]; refine (around_n by_ 5 _ i3 i4 (by omega) (by omega)).mono ?_; rintro e w' ⟨k5, rfl, hk5, _, rfl⟩; go_wp2_with fail; refine (around_n how 7 _ i1 i2 (by omega) (by omega)).mono ?_; rintro e w' ⟨x7, rfl, hx7, HX7, rfl⟩; obtain rfl : x7 = 4 := HX7.out.trans HH7.out; clear hx7; obtain ⟨f1, f2⟩ := hb7.facts; have q1 := Blk.frozen hb7 0; have q2 := Blk.frozen hb7 1; obtain ⟨i0, hi0, hz0, hz1, hz2⟩ := info_parts u32_info; have hdig := Lim.digit W1 W1.heap.size k5 rfl (by omega)
 have hown := ho1.below (bA W1 (.cells #[.int .u32 ((k5 : Nat) : Int)] 56)); have hoth := ho2.below (bA W1 (.cells #[.int .u32 ((k5 : Nat) : Int)] 56)); have hb7 := hb7.below (bA W1 (.cells #[.int .u32 ((k5 : Nat) : Int)] 56)); have hR1 := Res.below hR1 (bA W1 (.cells #[.int .u32 ((k5 : Nat) : Int)] 56)); have hbw := Below.tr hbw (bA W1 (.cells #[.int .u32 ((k5 : Nat) : Int)] 56)); have hsz : W0.heap.size ≤ (W1.alloc (.cells #[.int .u32 ((k5 : Nat) : Int)] 56)).heap.size := Nat.le_trans hsz0 (bA _ _).size
 go_wp2_with (at_builtin; refine wpList_append_any _ rfl (.tmp 65) (.tmp 67) _ rfl W0.heap.size 56 i0 _ 1 4 Tryz.underlying27 hi0 hz0 hz1 hz2 rfl (by omega) (.slice A k c) k (u32s (Nm.lb p)) rfl hown.1 (some ⟨W1.heap.size, 0, none⟩) 1 1 (u32s [k5]) rfl rfl hdig.1 (u32s_one _) (by simp only [maxLen]; omega) (by omega) hsz ?_; intro v1 w2 hown1 hg1 hat1; obtain ⟨An, cn, hv, hon⟩ := own_app hown1 (Nm.lim_lb _) hdig.limb; subst hv; have hb7' := hb7.other hown hg1; have hR1' := Box.other hR1 hown hg1; have hoth' := hoth.other hown hg1 hap; have f1 := hb7'.facts.1; have f2 := hb7'.facts.2; have q1 := Blk.frozen hb7' 0; have q2 := Blk.frozen hb7' 1; have hb8 := Blk.set_ hb7' 0 (.slice An (k + 1) cn); have g1 := hb8.cell 0; have g2 := hb8.cell 1; simp at g1 g2; have hR8 : Res (w2.setCell ⟨g7, 0, none⟩ (.slice An (k + 1) cn)) (w.heap.size + 1) := Blk.far hR1' (by show w.heap.size + 1 ≠ g7; omega) _; have r1 := hR8.facts.1; have r2 := hR8.facts.2.1; have r3 := hR8.facts.2.2.1; have r4 := hR8.facts.2.2.2)
 have hrt : RtL (w2.setCell ⟨g7, 0, none⟩ (.slice An (k + 1) cn)) (.agg #[.slice An (k + 1) cn, .slice A' k' c']) (Nm.lb p ++ [k5]) (Nm.lb (Nm.dn q)) := rtl_own (hon.setSl hb7'.sl _) (hoth'.setSl hb7'.sl _); have hbe := ((hown.grown2 hbw hz hbw.size hg1).setCell (p := ⟨g7, 0, none⟩) (show w.heap.size ≤ g7 by omega) (.slice An (k + 1) cn)); obtain ⟨s1, s2⟩ := hR8.set2 (.slice An (k + 1) cn) (.slice A' k' c'); exact bodyPost_ret (v := (.agg #[.slice An (k + 1) cn, .slice A' k' c'])) (by simp [results, Tryz.results26, go_sem, s1, s2]) rfl ⟨_, _, _, rfl, hrt.setSl2 hR8.sl _ _ _ _ _ _, by have := ho1.len; simp; omega, by have := ho2.len; simp; omega, below_set2 hbe (by omega) _ _⟩
set_option maxRecDepth 10000 in
set_option maxHeartbeats 2000000 in
theorem spoilt_2 (va : Value) (p q : Nat) (how by_ : Int) (w : World) (ha : Rat w va p q) (ga : Nm.Good p q) (i1 : -9223372036854775808 ≤ how) (i2 : how ≤ 9223372036854775807) (i3 : -9223372036854775808 ≤ by_) (i4 : by_ ≤ 9223372036854775807) (h7 : aroundN how 7 = 2) :
  Calls Tryz.prog 26 #[va, .int .i64 how, .int .i64 by_] w fun e w' => ∃ v m1 m2, e = .returned v ∧ RtL w' v m1 m2 ∧ m1.length ≤ 200 ∧ m2.length ≤ 200 ∧ Below w.heap.size w w' := by
 obtain ⟨A1, k1, c1, A2, k2, c2, rfl⟩ := ha.shape; have hW0 : Below w.heap.size w ((w.alloc (.cells #[.slice A1 k1 c1, .slice A2 k2 c2] 29)).alloc (.cells #[.slice none 0 0, .slice none 0 0] 29)) := Below.tr (bA _ _) (bA _ _)
 have hR0 : Res ((w.alloc (.cells #[.slice A1 k1 c1, .slice A2 k2 c2] 29)).alloc (.cells #[.slice none 0 0, .slice none 0 0] 29)) (w.heap.size + 1) := by
  have := Blk.new (w.alloc (.cells #[.slice A1 k1 c1, .slice A2 k2 c2] 29)) 29 #[.slice none 0 0, .slice none 0 0]; unfold Res; simpa using this
 obtain ⟨W0, HW⟩ : ∃ W, Hid (W = ((w.alloc (.cells #[.slice A1 k1 c1, .slice A2 k2 c2] 29)).alloc (.cells #[.slice none 0 0, .slice none 0 0] 29))) := ⟨_, rfl⟩; rw [← HW.out] at hW0 hR0; have hz := hW0.size; have hcp := copy_n _ _ _ W0 (ha.below hW0).rtl (by have := ga.fits.1; omega) (by have := ga.fits.2; omega); have HCP := Lib.hid hcp; have HH7 := Lib.hid h7; clear hcp h7
 go_enter Tryz.func26, Tryz.ntmps26
 go_wp2_with fail; rw [← HW.out]; refine HCP.out.mono ?_; rintro e w1 ⟨A, k, c, A', k', c', rfl, ho1, ho2, hap, hb1⟩; have hlen1 : k ≤ 64 := by have := ho1.len; have := ga.fits.1; omega
 have hlen2 : k' ≤ 64 := by have := ho2.len; have := ga.fits.2; omega
 have hb7 : Box (w1.alloc (.cells #[.slice A k c, .slice A' k' c'] 29)) w1.heap.size (.slice A k c) (.slice A' k' c') := Blk.new _ _ _; have hR1 := Res.below (Res.below hR0 hb1) (bA w1 (.cells #[.slice A k c, .slice A' k' c'] 29)); have hne : w.heap.size + 1 < w1.heap.size := Nat.lt_of_lt_of_le hR0.lt hb1.size; have hbw := Below.tr (Below.tr hW0 hb1) (bA w1 (.cells #[.slice A k c, .slice A' k' c'] 29)); have ho1 := ho1.below (bA w1 (.cells #[.slice A k c, .slice A' k' c'] 29)); have ho2 := ho2.below (bA w1 (.cells #[.slice A k c, .slice A' k' c'] 29)); have hsz0 : W0.heap.size ≤ (w1.alloc (.cells #[.slice A k c, .slice A' k' c'] 29)).heap.size := Nat.le_trans hb1.size (bA _ _).size; clear hb1 hR0 hW0 HCP HW ha; obtain ⟨W1, HW1⟩ : ∃ W, Hid (W = w1.alloc (.cells #[.slice A k c, .slice A' k' c'] 29)) := ⟨_, rfl⟩; obtain ⟨g7, HG7⟩ : ∃ g, Hid (g = w1.heap.size) := ⟨_, rfl⟩; rw [← HW1.out, ← HG7.out] at hb7; rw [← HW1.out] at hR1 hbw ho1 ho2 hsz0; rw [← HG7.out] at hne; go_wp2_with fail; rw [← HW1.out, ← HG7.out]; refine (around_n by_ 5 _ i3 i4 (by omega) (by omega)).mono ?_; rintro e w' ⟨k5, rfl, hk5, _, rfl⟩; go_wp2_with fail; refine (around_n how 7 _ i1 i2 (by omega) (by omega)).mono ?_; rintro e w' ⟨x7, rfl, hx7, HX7, rfl⟩; obtain rfl : x7 = 2 := HX7.out.trans HH7.out; clear hx7; obtain ⟨f1, f2⟩ := hb7.facts; have hdig : Lim (W1.alloc (.cells #[.int .u32 1] 56)) (some ⟨W1.heap.size, 0, none⟩) 1 [1] := Lim.digit W1 W1.heap.size 1 rfl (by omega)
 have hR1 := Res.below hR1 (bA W1 (.cells #[.int .u32 1] 56)); have hb7 := hb7.below (bA W1 (.cells #[.int .u32 1] 56)); have hbw := Below.tr hbw (bA W1 (.cells #[.int .u32 1] 56)); have ho1 := ho1.below (bA W1 (.cells #[.int .u32 1] 56)); clear f1 f2; obtain ⟨W2, HW2⟩ : ∃ W, Hid (W = W1.alloc (.cells #[.int .u32 1] 56)) := ⟨_, rfl⟩; rw [← HW2.out] at hdig hR1 hb7 hbw ho1; have f1 := hb7.facts.1; have f2 := hb7.facts.2; have q1 := Blk.frozen hb7 0; have q2 := Blk.frozen hb7 1; have hb8 := Blk.set_ hb7 1 (.slice (some ⟨W1.heap.size, 0, none⟩) 1 1); have g1 := hb8.cell 0; have g2 := hb8.cell 1; simp at g1 g2; have hR8 : Res (W2.setCell ⟨g7, 1, none⟩ (.slice (some ⟨W1.heap.size, 0, none⟩) 1 1)) (w.heap.size + 1) := Blk.far hR1 (by show w.heap.size + 1 ≠ g7; omega) _; obtain ⟨r1, r2, r3, r4⟩ := hR8.facts; have hrt : RtL (W2.setCell ⟨g7, 1, none⟩ (.slice (some ⟨W1.heap.size, 0, none⟩) 1 1)) (.agg #[.slice A k c, .slice (some ⟨W1.heap.size, 0, none⟩) 1 1]) (Nm.lb p) [1] := rtl_lim (ho1.setSl hb7.sl _).lim (hdig.setSl hb7.sl _) ho1.len rfl; have hbe := hbw.setCell (p := ⟨g7, 1, none⟩) (show w.heap.size ≤ g7 by omega) (.slice (some ⟨W1.heap.size, 0, none⟩) 1 1); obtain ⟨s1, s2⟩ := hR8.set2 (.slice A k c) (.slice (some ⟨W1.heap.size, 0, none⟩) 1 1); rw [HW2.out] at f1 f2 q1 q2 g1 g2 r1 r2 r3 r4 s1 s2 hrt hR8 hbe; go_wp2_with fail; exact bodyPost_ret (v := (.agg #[.slice A k c, .slice (some ⟨W1.heap.size, 0, none⟩) 1 1])) (by simp [results, Tryz.results26, go_sem, s1, s2]) rfl ⟨_, _, _, rfl, hrt.setSl2 hR8.sl _ _ _ _ _ _, by have := ho1.len; omega, by simp, below_set2 hbe (by omega) _ _⟩
set_option maxRecDepth 10000 in
set_option maxHeartbeats 2000000 in
theorem spoilt_5 (va : Value) (p q : Nat) (how by_ : Int) (w : World) (ha : Rat w va p q) (ga : Nm.Good p q) (i1 : -9223372036854775808 ≤ how) (i2 : how ≤ 9223372036854775807) (i3 : -9223372036854775808 ≤ by_) (i4 : by_ ≤ 9223372036854775807) (h7 : aroundN how 7 = 5) :
  Calls Tryz.prog 26 #[va, .int .i64 how, .int .i64 by_] w fun e w' => ∃ v m1 m2, e = .returned v ∧ RtL w' v m1 m2 ∧ m1.length ≤ 200 ∧ m2.length ≤ 200 ∧ Below w.heap.size w w' := by
 obtain ⟨A1, k1, c1, A2, k2, c2, rfl⟩ := ha.shape; have hW0 : Below w.heap.size w ((w.alloc (.cells #[.slice A1 k1 c1, .slice A2 k2 c2] 29)).alloc (.cells #[.slice none 0 0, .slice none 0 0] 29)) := Below.tr (bA _ _) (bA _ _)
 have hR0 : Res ((w.alloc (.cells #[.slice A1 k1 c1, .slice A2 k2 c2] 29)).alloc (.cells #[.slice none 0 0, .slice none 0 0] 29)) (w.heap.size + 1) := by
  have := Blk.new (w.alloc (.cells #[.slice A1 k1 c1, .slice A2 k2 c2] 29)) 29 #[.slice none 0 0, .slice none 0 0]; unfold Res; simpa using this
 obtain ⟨W0, HW⟩ : ∃ W, Hid (W = ((w.alloc (.cells #[.slice A1 k1 c1, .slice A2 k2 c2] 29)).alloc (.cells #[.slice none 0 0, .slice none 0 0] 29))) := ⟨_, rfl⟩; rw [← HW.out] at hW0 hR0; have hz := hW0.size; have hcp := copy_n _ _ _ W0 (ha.below hW0).rtl (by have := ga.fits.1; omega) (by have := ga.fits.2; omega); have HCP := Lib.hid hcp; have HH7 := Lib.hid h7; clear hcp h7
 go_enter Tryz.func26, Tryz.ntmps26
 go_wp2_with fail; rw [← HW.out]; refine HCP.out.mono ?_; rintro e w1 ⟨A, k, c, A', k', c', rfl, ho1, ho2, hap, hb1⟩; have hlen1 : k ≤ 64 := by have := ho1.len; have := ga.fits.1; omega
 have hlen2 : k' ≤ 64 := by have := ho2.len; have := ga.fits.2; omega
 have hb7 : Box (w1.alloc (.cells #[.slice A k c, .slice A' k' c'] 29)) w1.heap.size (.slice A k c) (.slice A' k' c') := Blk.new _ _ _; have hR1 := Res.below (Res.below hR0 hb1) (bA w1 (.cells #[.slice A k c, .slice A' k' c'] 29)); have hne : w.heap.size + 1 < w1.heap.size := Nat.lt_of_lt_of_le hR0.lt hb1.size; have hbw := Below.tr (Below.tr hW0 hb1) (bA w1 (.cells #[.slice A k c, .slice A' k' c'] 29)); have ho1 := ho1.below (bA w1 (.cells #[.slice A k c, .slice A' k' c'] 29)); have ho2 := ho2.below (bA w1 (.cells #[.slice A k c, .slice A' k' c'] 29)); have hsz0 : W0.heap.size ≤ (w1.alloc (.cells #[.slice A k c, .slice A' k' c'] 29)).heap.size := Nat.le_trans hb1.size (bA _ _).size; clear hb1 hR0 hW0 HCP HW ha; obtain ⟨W1, HW1⟩ : ∃ W, Hid (W = w1.alloc (.cells #[.slice A k c, .slice A' k' c'] 29)) := ⟨_, rfl⟩; obtain ⟨g7, HG7⟩ : ∃ g, Hid (g = w1.heap.size) := ⟨_, rfl⟩; rw [← HW1.out, ← HG7.out] at hb7; rw [← HW1.out] at hR1 hbw ho1 ho2 hsz0; rw [← HG7.out] at hne; go_wp2_with fail; rw [← HW1.out, ← HG7.out]; refine (around_n by_ 5 _ i3 i4 (by omega) (by omega)).mono ?_; rintro e w' ⟨k5, rfl, hk5, _, rfl⟩; go_wp2_with fail; refine (around_n how 7 _ i1 i2 (by omega) (by omega)).mono ?_; rintro e w' ⟨x7, rfl, hx7, HX7, rfl⟩; obtain rfl : x7 = 5 := HX7.out.trans HH7.out; clear hx7; obtain ⟨f1, f2⟩ := hb7.facts; have q1 := Blk.frozen hb7 0; have q2 := Blk.frozen hb7 1; have hb8 := Blk.set_ hb7 0 (.slice none 0 0); have g1 := hb8.cell 0; have g2 := hb8.cell 1
 simp at g1 g2; have hR8 : Res (W1.setCell ⟨g7, 0, none⟩ (.slice none 0 0)) (w.heap.size + 1) := Blk.far hR1 (by show w.heap.size + 1 ≠ g7; omega) _; obtain ⟨r1, r2, r3, r4⟩ := hR8.facts; have hrt : RtL (W1.setCell ⟨g7, 0, none⟩ (.slice none 0 0)) (.agg #[.slice none 0 0, .slice A' k' c']) [] (Nm.lb (Nm.dn q)) := rtl_lim (Nb.zero _).2 (ho2.setSl hb7.sl _).lim rfl ho2.len; have hbe := hbw.setCell (p := ⟨g7, 0, none⟩) (show w.heap.size ≤ g7 by omega) (.slice none 0 0); obtain ⟨s1, s2⟩ := hR8.set2 (.slice none 0 0) (.slice A' k' c'); go_wp2_with fail; exact bodyPost_ret (v := (.agg #[.slice none 0 0, .slice A' k' c'])) (by simp [results, Tryz.results26, go_sem, s1, s2]) rfl ⟨_, _, _, rfl, hrt.setSl2 hR8.sl _ _ _ _ _ _, by simp, by have := ho2.len; omega, below_set2 hbe (by omega) _ _⟩
end Go.Proofs.YtmbfjmilhfmnkaaGreatDoor
namespace Go.Proofs.YtmbfjmilhfmnkaaGreatDoor
open Go.RowKit
theorem Nb.digit2 (w : World) (k : Nat) (hk : k < 5) : Nb (w.alloc (.cells #[.int .u32 (2 + (k : Int))] 56)) (some ⟨w.heap.size, 0, none⟩) 1 1 (2 + k) := by
 have := Nb.digit w w.heap.size (2 + k) rfl (by omega) (by omega)
 simpa using this
set_option maxRecDepth 10000 in
set_option maxHeartbeats 2000000 in
theorem spoilt_3 (va : Value) (p q : Nat) (how by_ : Int) (w : World) (ha : Rat w va p q) (ga : Nm.Good p q) (i1 : -9223372036854775808 ≤ how) (i2 : how ≤ 9223372036854775807) (i3 : -9223372036854775808 ≤ by_) (i4 : by_ ≤ 9223372036854775807) (h7 : aroundN how 7 = 3) :
  Calls Tryz.prog 26 #[va, .int .i64 how, .int .i64 by_] w fun e w' => ∃ v m1 m2, e = .returned v ∧ RtL w' v m1 m2 ∧ m1.length ≤ 200 ∧ m2.length ≤ 200 ∧ Below w.heap.size w w' := by
 obtain ⟨A1, k1, c1, A2, k2, c2, rfl⟩ := ha.shape; have hW0 : Below w.heap.size w ((w.alloc (.cells #[.slice A1 k1 c1, .slice A2 k2 c2] 29)).alloc (.cells #[.slice none 0 0, .slice none 0 0] 29)) := Below.tr (bA _ _) (bA _ _)
 have hR0 : Res ((w.alloc (.cells #[.slice A1 k1 c1, .slice A2 k2 c2] 29)).alloc (.cells #[.slice none 0 0, .slice none 0 0] 29)) (w.heap.size + 1) := by
  have := Blk.new (w.alloc (.cells #[.slice A1 k1 c1, .slice A2 k2 c2] 29)) 29 #[.slice none 0 0, .slice none 0 0]; unfold Res; simpa using this
 obtain ⟨W0, HW⟩ : ∃ W, Hid (W = ((w.alloc (.cells #[.slice A1 k1 c1, .slice A2 k2 c2] 29)).alloc (.cells #[.slice none 0 0, .slice none 0 0] 29))) := ⟨_, rfl⟩; rw [← HW.out] at hW0 hR0; have hz := hW0.size; have hcp := copy_n _ _ _ W0 (ha.below hW0).rtl (by have := ga.fits.1; omega) (by have := ga.fits.2; omega); have HCP := Lib.hid hcp; have HH7 := Lib.hid h7; clear hcp h7
 go_enter Tryz.func26, Tryz.ntmps26
 go_wp2_with fail; rw [← HW.out]; refine HCP.out.mono ?_; rintro e w1 ⟨A, k, c, A', k', c', rfl, ho1, ho2, hap, hb1⟩; have hlen1 : k ≤ 64 := by have := ho1.len; have := ga.fits.1; omega
 have hlen2 : k' ≤ 64 := by have := ho2.len; have := ga.fits.2; omega
 have hb7 : Box (w1.alloc (.cells #[.slice A k c, .slice A' k' c'] 29)) w1.heap.size (.slice A k c) (.slice A' k' c') := Blk.new _ _ _; have hR1 := Res.below (Res.below hR0 hb1) (bA w1 (.cells #[.slice A k c, .slice A' k' c'] 29)); have hne : w.heap.size + 1 < w1.heap.size := Nat.lt_of_lt_of_le hR0.lt hb1.size; have hbw := Below.tr (Below.tr hW0 hb1) (bA w1 (.cells #[.slice A k c, .slice A' k' c'] 29)); have ho1 := ho1.below (bA w1 (.cells #[.slice A k c, .slice A' k' c'] 29)); have ho2 := ho2.below (bA w1 (.cells #[.slice A k c, .slice A' k' c'] 29)); have hsz0 : W0.heap.size ≤ (w1.alloc (.cells #[.slice A k c, .slice A' k' c'] 29)).heap.size := Nat.le_trans hb1.size (bA _ _).size; clear hb1 hR0 hW0 HCP HW ha; obtain ⟨W1, HW1⟩ : ∃ W, Hid (W = w1.alloc (.cells #[.slice A k c, .slice A' k' c'] 29)) := ⟨_, rfl⟩; obtain ⟨g7, HG7⟩ : ∃ g, Hid (g = w1.heap.size) := ⟨_, rfl⟩; rw [← HW1.out, ← HG7.out] at hb7; rw [← HW1.out] at hR1 hbw ho1 ho2 hsz0; rw [← HG7.out] at hne; go_wp2_with fail; rw [← HW1.out, ← HG7.out]; refine (around_n by_ 5 _ i3 i4 (by omega) (by omega)).mono ?_; rintro e w' ⟨k5, rfl, hk5, _, rfl⟩; go_wp2_with fail; refine (around_n how 7 _ i1 i2 (by omega) (by omega)).mono ?_; rintro e w' ⟨x7, rfl, hx7, HX7, rfl⟩; obtain rfl : x7 = 3 := HX7.out.trans HH7.out; clear hx7; obtain ⟨f1, f2⟩ := hb7.facts; have hdig := Nb.digit2 W1 k5 hk5; have hR1 := Res.below hR1 (bA W1 (.cells #[.int .u32 (2 + (k5 : Int))] 56)); have hb7 := hb7.below (bA W1 (.cells #[.int .u32 (2 + (k5 : Int))] 56))
 have hbw := Below.tr hbw (bA W1 (.cells #[.int .u32 (2 + (k5 : Int))] 56)); have ho1' := ho1.below (bA W1 (.cells #[.int .u32 (2 + (k5 : Int))] 56)); have ho2' := ho2.below (bA W1 (.cells #[.int .u32 (2 + (k5 : Int))] 56)); go_wp2_with fail; refine (rtimes_n _ _ _ _ _ _ p (2 + k5) _ ho1'.nb hdig (by omega) (by omega)).mono ?_; rintro e w2 ⟨An, kn, cn, rfl, hn, hb2⟩; have hR1 := Res.below hR1 hb2; have hb7 := hb7.below hb2; have hbw := Below.tr hbw hb2; have ho2' := ho2'.below hb2; clear f1 f2 ho1'; have f1 := hb7.facts.1; have f2 := hb7.facts.2; have q1 := Blk.frozen hb7 0; have q2 := Blk.frozen hb7 1; have hb8 : Box (w2.setCell ⟨g7, 0, none⟩ (.slice An kn cn)) g7 (.slice An kn cn) (.slice A' k' c') := Blk.set_ hb7 0 (.slice An kn cn); have hR8 : Res (w2.setCell ⟨g7, 0, none⟩ (.slice An kn cn)) (w.heap.size + 1) := Blk.far hR1 (by show w.heap.size + 1 ≠ g7; omega) _; have hn8 := hn.setSl (i := 0) hb7.sl (.slice An kn cn); have ho8 := ho2'.setSl (i := 0) hb7.sl (.slice An kn cn); have hbw8 := hbw.setCell (p := ⟨g7, 0, none⟩) (show w.heap.size ≤ g7 by omega) (.slice An kn cn); have g1 := hb8.facts.1; have g2 := hb8.facts.2; go_wp2_with fail; refine (rden_n _ _ _ _ _ _ q _ ho8.nb ga.pos (by omega)).mono ?_; rintro e w3 ⟨Ad, kd, cd, rfl, hd, hkd, hb3⟩; have hkd2 := hkd.out; have hdig := Nb.digit2 w3 k5 hk5; have hR9 := Res.below (hR8.below hb3) (bA w3 (.cells #[.int .u32 (2 + (k5 : Int))] 56)); have hb9 := (hb8.below hb3).below (bA w3 (.cells #[.int .u32 (2 + (k5 : Int))] 56))
 have hn9 := (hn8.below hb3).below (bA w3 (.cells #[.int .u32 (2 + (k5 : Int))] 56)); have hd9 := hd.below (bA w3 (.cells #[.int .u32 (2 + (k5 : Int))] 56)); have hbw9 := Below.tr (Below.tr hbw8 hb3) (bA w3 (.cells #[.int .u32 (2 + (k5 : Int))] 56)); clear g1 g2 hb8 hR8 hn8 ho8 hbw8 hb3 hd hkd; go_wp2_with fail; refine (rtimes_n _ _ _ _ _ _ q (2 + k5) _ hd9 hdig (by omega) (by omega)).mono ?_; rintro e w4 ⟨Am, km, cm, rfl, hm, hb4⟩; have hb10 := hb9.below hb4; have hR10 := hR9.below hb4; have hn10 := hn9.below hb4; have hbw10 := Below.tr hbw9 hb4; clear f1 f2 q1 q2; have f1 := hb10.facts.1; have f2 := hb10.facts.2; have q1 := Blk.frozen hb10 0; have q2 := Blk.frozen hb10 1; have hb8 := Blk.set_ hb10 1 (.slice Am km cm); have g1 := hb8.cell 0; have g2 := hb8.cell 1; simp at g1 g2; have hR8 : Res (w4.setCell ⟨g7, 1, none⟩ (.slice Am km cm)) (w.heap.size + 1) := Blk.far hR10 (by show w.heap.size + 1 ≠ g7; omega) _; obtain ⟨r1, r2, r3, r4⟩ := hR8.facts; have hrt : RtL (w4.setCell ⟨g7, 1, none⟩ (.slice Am km cm)) (.agg #[.slice An kn cn, .slice Am km cm]) (Nm.lb (p * (2 + k5))) (Nm.lb (q * (2 + k5))) := rtl_lim (hn10.2.setSl hb10.sl _) (hm.2.setSl hb10.sl _) hn10.1 hm.1; have hbe := hbw10.setCell (p := ⟨g7, 1, none⟩) (show w.heap.size ≤ g7 by omega) (.slice Am km cm); obtain ⟨s1, s2⟩ := hR8.set2 (.slice An kn cn) (.slice Am km cm); have hl1 : (Nm.lb (p * (2 + k5))).length ≤ 129 := Nm.lb_length_lt.2 (prod_lt (Nm.lb_length_lt.1 ga.fits.1) (by omega) (show 2 + k5 < Nm.B ^ 1 by unfold Nm.B; omega) (by omega))
 have hl2 : (Nm.lb (q * (2 + k5))).length ≤ 130 := by
  have hq : q < Nm.B ^ kd := hd9.lt; exact Nm.lb_length_lt.2 (prod_lt2 hq (by omega) (show 2 + k5 < Nm.B ^ 1 by unfold Nm.B; omega) (by omega))
 go_wp2_with fail; exact bodyPost_ret (v := (.agg #[.slice An kn cn, .slice Am km cm])) (by simp [results, Tryz.results26, go_sem, s1, s2]) rfl ⟨_, _, _, rfl, hrt.setSl2 hR8.sl _ _ _ _ _ _, by omega, by omega, below_set2 hbe (by omega) _ _⟩
set_option maxRecDepth 10000 in
set_option maxHeartbeats 2000000 in
theorem spoilt_6 (va : Value) (p q : Nat) (how by_ : Int) (w : World) (ha : Rat w va p q) (ga : Nm.Good p q) (i1 : -9223372036854775808 ≤ how) (i2 : how ≤ 9223372036854775807) (i3 : -9223372036854775808 ≤ by_) (i4 : by_ ≤ 9223372036854775807) (h7 : aroundN how 7 = 6) :
  Calls Tryz.prog 26 #[va, .int .i64 how, .int .i64 by_] w fun e w' => ∃ v m1 m2, e = .returned v ∧ RtL w' v m1 m2 ∧ m1.length ≤ 200 ∧ m2.length ≤ 200 ∧ Below w.heap.size w w' := by
 obtain ⟨A1, k1, c1, A2, k2, c2, rfl⟩ := ha.shape; have hW0 : Below w.heap.size w ((w.alloc (.cells #[.slice A1 k1 c1, .slice A2 k2 c2] 29)).alloc (.cells #[.slice none 0 0, .slice none 0 0] 29)) := Below.tr (bA _ _) (bA _ _)
 have hR0 : Res ((w.alloc (.cells #[.slice A1 k1 c1, .slice A2 k2 c2] 29)).alloc (.cells #[.slice none 0 0, .slice none 0 0] 29)) (w.heap.size + 1) := by
  have := Blk.new (w.alloc (.cells #[.slice A1 k1 c1, .slice A2 k2 c2] 29)) 29 #[.slice none 0 0, .slice none 0 0]; unfold Res; simpa using this
 obtain ⟨W0, HW⟩ : ∃ W, Hid (W = ((w.alloc (.cells #[.slice A1 k1 c1, .slice A2 k2 c2] 29)).alloc (.cells #[.slice none 0 0, .slice none 0 0] 29))) := ⟨_, rfl⟩; rw [← HW.out] at hW0 hR0; have hz := hW0.size; have hcp := copy_n _ _ _ W0 (ha.below hW0).rtl (by have := ga.fits.1; omega) (by have := ga.fits.2; omega); have HCP := Lib.hid hcp; have HH7 := Lib.hid h7; clear hcp h7
 go_enter Tryz.func26, Tryz.ntmps26
 go_wp2_with fail; rw [← HW.out]; refine HCP.out.mono ?_; rintro e w1 ⟨A, k, c, A', k', c', rfl, ho1, ho2, hap, hb1⟩; have hlen1 : k ≤ 64 := by have := ho1.len; have := ga.fits.1; omega
 have hlen2 : k' ≤ 64 := by have := ho2.len; have := ga.fits.2; omega
 have hb7 : Box (w1.alloc (.cells #[.slice A k c, .slice A' k' c'] 29)) w1.heap.size (.slice A k c) (.slice A' k' c') := Blk.new _ _ _; have hR1 := Res.below (Res.below hR0 hb1) (bA w1 (.cells #[.slice A k c, .slice A' k' c'] 29)); have hne : w.heap.size + 1 < w1.heap.size := Nat.lt_of_lt_of_le hR0.lt hb1.size; have hbw := Below.tr (Below.tr hW0 hb1) (bA w1 (.cells #[.slice A k c, .slice A' k' c'] 29)); have ho1 := ho1.below (bA w1 (.cells #[.slice A k c, .slice A' k' c'] 29)); have ho2 := ho2.below (bA w1 (.cells #[.slice A k c, .slice A' k' c'] 29)); have hsz0 : W0.heap.size ≤ (w1.alloc (.cells #[.slice A k c, .slice A' k' c'] 29)).heap.size := Nat.le_trans hb1.size (bA _ _).size; clear hb1 hR0 hW0 HCP HW ha; obtain ⟨W1, HW1⟩ : ∃ W, Hid (W = w1.alloc (.cells #[.slice A k c, .slice A' k' c'] 29)) := ⟨_, rfl⟩; obtain ⟨g7, HG7⟩ : ∃ g, Hid (g = w1.heap.size) := ⟨_, rfl⟩; rw [← HW1.out, ← HG7.out] at hb7; rw [← HW1.out] at hR1 hbw ho1 ho2 hsz0; rw [← HG7.out] at hne; go_wp2_with fail; rw [← HW1.out, ← HG7.out]; refine (around_n by_ 5 _ i3 i4 (by omega) (by omega)).mono ?_; rintro e w' ⟨k5, rfl, hk5, _, rfl⟩; go_wp2_with fail; refine (around_n how 7 _ i1 i2 (by omega) (by omega)).mono ?_; rintro e w' ⟨x7, rfl, hx7, HX7, rfl⟩; obtain rfl : x7 = 6 := HX7.out.trans HH7.out; clear hx7; obtain ⟨f1, f2⟩ := hb7.facts; obtain ⟨i0, hi0, hz0, hz1, hz2⟩ := info_parts u32_info; obtain ⟨N, HN⟩ : ∃ N, Hid (N = 63 + k5 - k') := ⟨_, rfl⟩; have hl2 := ho2.len
 have HL2 := Lib.hid hl2; clear f1 f2 hl2; go_wp2_with fail
 go_loopg [] N (fun j wr => ∃ (n c2 : Nat) (A2 : Option Addr), Box wr g7 (.slice A k c) (.slice A2 (k' + n) c2) ∧ Own wr W0.heap.size A k c (Nm.lb p) ∧ Own wr W0.heap.size A2 (k' + n) c2 (Nm.lb (Nm.dn q) ++ List.replicate n 7) ∧ Apart A A2 ∧ Res wr (w.heap.size + 1) ∧ Hid (j = 63 + k5 - (k' + n)) ∧ n ≤ 67 ∧ W0.heap.size ≤ wr.heap.size ∧ Below w.heap.size w wr)
 case atStart => exact ⟨0, c', A', hb7, ho1, by simpa using ho2, hap, hR1, HN.out, by omega, hsz0, hbw⟩
 case round =>
  clear hb7 ho1 ho2 hap hR1 hsz0 hbw; obtain ⟨n, c2n, A2n, hb7, ho1, ho2, hap, hR1, HJ, hnn, hsz0, hbw⟩ := hrel; obtain ⟨f1, f2⟩ := hb7.facts; by_cases hlt : k' + n < 63 + k5
  ·have hd : decide ((k' : Int) + (n : Int) < 63 + (k5 : Int)) = true := by simp; omega
   have hdig : Lim (wr.alloc (.cells #[.int .u32 7] 56)) (some ⟨wr.heap.size, 0, none⟩) 1 [7] := Lim.digit wr wr.heap.size 7 rfl (by omega); have hown := ho2.below (bA wr (.cells #[.int .u32 7] 56)); have hoth := ho1.below (bA wr (.cells #[.int .u32 7] 56)); have hb7 := hb7.below (bA wr (.cells #[.int .u32 7] 56)); have hR1 := Res.below hR1 (bA wr (.cells #[.int .u32 7] 56)); have hbw := Below.tr hbw (bA wr (.cells #[.int .u32 7] 56)); have hsz : W0.heap.size ≤ (wr.alloc (.cells #[.int .u32 7] 56)).heap.size := Nat.le_trans hsz0 (bA _ _).size; have HLT := Lib.hid hlt; clear hlt
   go_wp2_with (at_builtin; refine wpList_append_any _ rfl (.tmp 24) (.tmp 25) _ rfl W0.heap.size 56 i0 _ 1 4 Tryz.underlying27 hi0 hz0 hz1 hz2 rfl (by omega) (.slice A2n (k' + n) c2n) (k' + n) (u32s (Nm.lb (Nm.dn q) ++ List.replicate n 7)) rfl hown.1 (some ⟨wr.heap.size, 0, none⟩) 1 1 (u32s [7]) rfl rfl hdig.1 (u32s_one _) (by simp only [maxLen]; omega) (by omega) hsz ?_; intro v1 w2 hown1 hg1 hat1; obtain ⟨An, cn, hv, hon⟩ := own_app hown1 hown.2 hdig.limb; subst hv; have hb7' := hb7.other hown hg1; have hR1' := Box.other hR1 hown hg1; have hoth' := hoth.other hown hg1 hap.symm; have f1 := hb7'.facts.1; have f2 := hb7'.facts.2; have q1 := Blk.frozen hb7' 0; have q2 := Blk.frozen hb7' 1)
   have hb8 : Box (w2.setCell ⟨g7, 1, none⟩ (.slice An (k' + n + 1) cn)) g7 (.slice A k c) (.slice An (k' + (n + 1)) cn) := Blk.set_ hb7' 1 (.slice An (k' + n + 1) cn); have hR8 : Res (w2.setCell ⟨g7, 1, none⟩ (.slice An (k' + n + 1) cn)) (w.heap.size + 1) := Blk.far hR1' (by show w.heap.size + 1 ≠ g7; omega) _
   have hon8 : Own (w2.setCell ⟨g7, 1, none⟩ (.slice An (k' + n + 1) cn)) W0.heap.size An (k' + (n + 1)) cn (Nm.lb (Nm.dn q) ++ List.replicate (n + 1) 7) := by
    have := hon.setSl (i := 1) hb7'.sl (.slice An (k' + n + 1) cn); rw [List.replicate_succ', ← List.append_assoc]; exact this
   have hbe := ((hown.grown2 hbw hz hbw.size hg1).setCell (p := ⟨g7, 1, none⟩) (show w.heap.size ≤ g7 by omega) (.slice An (k' + n + 1) cn))
   have hap8 : Apart A An := fun x y hx hy e => by
    rcases hat1 with h | h
    ·rw [hy] at h
     rcases hown.zeroOff with h2 | ⟨g2, h2, _⟩
     ·rw [h2] at h; simp [Value.ownBlock] at h
     ·rw [h2] at h; simp [Value.ownBlock] at h; exact hap x g2 hx h2 (e.trans h)
    ·rw [hy] at h; simp [Value.ownBlock] at h; have := ho1.lt x hx; omega
   have hsz2 : W0.heap.size ≤ (w2.setCell ⟨g7, 1, none⟩ (.slice An (k' + n + 1) cn)).heap.size := by have h1 := hg1.size; simp only [World.setCell] at *; simp; omega
   go_roundg (gk - 1)
   case measure => have := HJ.out; have := HLT.out; omega
   case rel => exact ⟨n + 1, cn, An, hb8, hoth'.setSl hb7'.sl _, hon8, hap8, hR8, by have := HJ.out; show _ = _; omega, by have := HLT.out; omega, hsz2, hbe⟩
  ·have hd : decide ((k' : Int) + (n : Int) < 63 + (k5 : Int)) = false := by simp; omega
   obtain ⟨r1, r2, r3, r4⟩ := hR1.facts; obtain ⟨s1, s2⟩ := hR1.set2 (.slice A k c) (.slice A2n (k' + n) c2n); have hrt := rtl_own ho1 ho2; clear hlt; go_wp2_with fail; exact bodyPost_ret (v := (.agg #[.slice A k c, .slice A2n (k' + n) c2n])) (by simp [results, Tryz.results26, go_sem, s1, s2]) rfl ⟨_, _, _, rfl, hrt.setSl2 hR1.sl _ _ _ _ _ _, by have := ho1.len; omega, by have := HL2.out; simp; omega, below_set2 hbw (by omega) _ _⟩
theorem aroundN_lt (n : Int) {m : Nat} (hm : 0 < m) : aroundN n m < m := Nat.mod_lt _ hm
theorem spoilt_n (va : Value) (p q : Nat) (how by_ : Int) (w : World) (ha : Rat w va p q) (ga : Nm.Good p q) (i1 : -9223372036854775808 ≤ how) (i2 : how ≤ 9223372036854775807) (i3 : -9223372036854775808 ≤ by_) (i4 : by_ ≤ 9223372036854775807) :
  Calls Tryz.prog 26 #[va, .int .i64 how, .int .i64 by_] w fun e w' => ∃ v m1 m2, e = .returned v ∧ RtL w' v m1 m2 ∧ m1.length ≤ 200 ∧ m2.length ≤ 200 ∧ Below w.heap.size w w' := by
 have h := aroundN_lt how (m := 7) (by omega); generalize hx : aroundN how 7 = x at h
 rcases x with _ | _ | _ | _ | _ | _ | _ | x
 ·exact spoilt_0 va p q how by_ w ha ga i1 i2 i3 i4 hx
 ·exact spoilt_1 va p q how by_ w ha ga i1 i2 i3 i4 hx
 ·exact spoilt_2 va p q how by_ w ha ga i1 i2 i3 i4 hx
 ·exact spoilt_3 va p q how by_ w ha ga i1 i2 i3 i4 hx
 ·exact spoilt_4 va p q how by_ w ha ga i1 i2 i3 i4 hx
 ·exact spoilt_5 va p q how by_ w ha ga i1 i2 i3 i4 hx
 ·exact spoilt_6 va p q how by_ w ha ga i1 i2 i3 i4 hx
 ·omega
end Go.Proofs.YtmbfjmilhfmnkaaGreatDoor
