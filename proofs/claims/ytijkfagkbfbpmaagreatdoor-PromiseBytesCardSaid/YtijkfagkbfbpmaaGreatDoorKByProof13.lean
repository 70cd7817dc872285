import Derived.Test.YtijkfagkbfbpmaaGreatDoorKByProof12
import Derived.Deep.RegionLawGrows
import Derived.Deep.LoopGhost
import Derived.Test.YtijkfagkbfbpmaaGreatDoorS0
set_option linter.unusedVariables false
set_option linter.unusedSimpArgs false
namespace Go.Proofs.YtijkfagkbfbpmaaGreatDoor
open Go.RowKit
/-- append onto an empty row without room: a row anew -/
theorem step_clone {P : Program} {ops : Array Oper} {o : Oper} {a : Act} {w : World} {K : Act → World → Prop} {Q : Exit → Act → World → Prop} {E : Prop}
  (hg : o.guard = none) (s x : Operand) (t : TypeId) (hop : o.op = Op.call { callee := Callee.builtin Builtin.append, args := #[s, x], argTypes := #[t, t] })
  (hinfo : (P.info? 104).map (fun i => (i.zero, i.size, i.bytes)) = some (some (.int .u32 0), 1, 4)) (h1 : P.underlying t = some (.slice 104))
  (base b : Nat) (hs : a.eval s = .slice (some ⟨b, 0, none⟩) 0 0) (hown : Own w base (some ⟨b, 0, none⟩) 0 0 [])
  (A : Option Addr) (k c : Nat) (l : List Nat) (hx : a.eval x = .slice A k c) (hl : Lim w A c l) (hk : Hid (k = l.length)) (hsz : k ≤ 1048576) (hbase : base ≤ w.heap.size)
  (hK : ∀ v' w' A' c', v' = .slice A' k c' → Own w' base A' k c' l → Below w.heap.size w w' → (∀ g, A' = some ⟨g, 0, none⟩ → g = b ∨ w.heap.size ≤ g) → K (a.put o.dst v') w') :
  if Region.wanted o (yielded ops a.tmps) = true then Oper.wp P o a w K Q else E := by
 obtain ⟨i0, hi, hz0, hz1, hz2⟩ := info_parts hinfo; obtain rfl : k = l.length := hk.out
 rcases l with _ | ⟨x0, l⟩
 ·have hw : Region.wanted o (yielded ops a.tmps) = true := by simp [Region.wanted, hg]
  rw [if_pos hw]
  have hrun : (Builtin.append_ #[t, t] o.type #[.slice (some ⟨b, 0, none⟩) 0 0, .slice A 0 c]).run P w = .ok (.slice (some ⟨b, 0, none⟩) 0 0) w := by
   rcases A with _ | ad
   ·exact run_append_of_nil w base t o.type 104 i0 1 h1 hi _ 0 _ hown.1 c
   ·simp [Builtin.append_, run_underlying h1, sizeOf, typeInfo, hi, Builtin.lenOf, Builtin.firstCells, storeCells, loadCells, loadCellsFrom]
  unfold Oper.wp execOp; simp only [List.length_nil] at hx; simp only [hop, resolve, invoke, builtin, Sem.run_bind, Sem.run_pure, Result.andThen_ok, List.map_toArray, List.map_cons, List.map_nil, hs, hx, hrun]; exact hK _ w _ 0 rfl hown (Below.refl _ _) (fun g e => .inl (by injection e with e; injection e with e _; exact e.symm))
 ·obtain ⟨b', off, hA, hc⟩ := hl.at_ (k := 0) (by simp); subst hA; refine step_append_grows hg s x t hop 104 i0 (.int .u32 0) 1 4 h1 hi hz0 hz1 hz2 rfl (by omega) (some ⟨b, 0, none⟩) 0 0 [] hs (fun h => by cases h) rfl (fun _ _ j u hu => by simp at hu) ⟨b', off, none⟩ (x0 :: l).length c (u32s (x0 :: l)) hx (by simp [u32s]) ?_ (u32s_one _) (by simp) (by simp only [maxLen]; omega) (by omega) ?_
  ·intro j u hu
   have hj : j < (u32s (x0 :: l)).length := by
    rcases Nat.lt_or_ge j (u32s (x0 :: l)).length with h | h
    ·exact h
    ·rw [List.getElem?_eq_none h] at hu; cases hu
   rw [List.getElem?_eq_getElem hj] at hu; have hj' : j < (x0 :: l).length := by simpa [u32s] using hj
   have e : (⟨b', off, none⟩ : Addr).add j = ⟨b', off + j, none⟩ := by unfold Addr.add; split <;> simp_all
   rw [e, hc j hj', ← hu]; generalize x0 :: l = L at *; simp [u32s, List.getD, hj']
  ·intro v' w' ho hgr; rw [Nat.zero_add, List.nil_append] at ho; obtain ⟨A', c', rfl, hlim, hfr⟩ := own_lim ho hl.limb; refine hK _ w' A' c' rfl ⟨own_base ho hbase, hl.limb⟩ ⟨hgr.os, hgr.tape, hgr.output, hgr.size, fun i hi => hgr.block i hi (by simp)⟩ (fun g e => .inr (hfr g 0 e))
theorem wp_clone {P : Program} {o : Oper} {a : Act} {w : World} {K : Act → World → Prop} {Q : Exit → Act → World → Prop}
  (s x : Operand) (t : TypeId) (hinfo : (P.info? 104).map (fun i => (i.zero, i.size, i.bytes)) = some (some (.int .u32 0), 1, 4)) (h1 : P.underlying t = some (.slice 104))
  (base b : Nat) (hown : Own w base (some ⟨b, 0, none⟩) 0 0 [])
  (A : Option Addr) (k c : Nat) (l : List Nat) (hl : Lim w A c l) (hk : Hid (k = l.length)) (hsz : k ≤ 1048576) (hbase : base ≤ w.heap.size)
  (hg : o.guard = none) (hop : o.op = Op.call { callee := Callee.builtin Builtin.append, args := #[s, x], argTypes := #[t, t] }) (hs : a.eval s = .slice (some ⟨b, 0, none⟩) 0 0) (hx : a.eval x = .slice A k c)
  (hK : ∀ v' w' A' c', v' = .slice A' k c' → Own w' base A' k c' l → Below w.heap.size w w' → (∀ g, A' = some ⟨g, 0, none⟩ → g = b ∨ w.heap.size ≤ g) → K (a.put o.dst v') w') : Oper.wp P o a w K Q := by
 have h := step_clone (ops := #[]) (E := True) (Q := Q) hg s x t hop hinfo h1 base b hs hown A k c l hx hl hk hsz hbase hK; have hw : Region.wanted o (yielded #[] a.tmps) = true := by simp [Region.wanted, hg]
 rwa [if_pos hw] at h
def ext (γ : Nat → Nat) (w : World) (c : Nat) : Nat → Nat := fun b => if w.heap.size ≤ b then c else γ b
theorem ext_of {γ : Nat → Nat} {w : World} {A : Option Addr} {b0 col base : Nat} (hfr : ∀ g, A = some ⟨g, 0, none⟩ → g = b0 ∨ w.heap.size ≤ g) (hown : Own w base (some ⟨b0, 0, none⟩) 0 0 []) (hc : γ b0 = col) {b : Nat} (hb : A = some ⟨b, 0, none⟩) : ext γ w col b = col := by
 have hl := hown.lt b0 rfl
 rcases hfr b hb with rfl | h
 ·unfold ext; rw [if_neg (by omega)]; exact hc
 ·unfold ext; rw [if_pos h]
theorem own_new (w : World) {B : Nat} (hB : B ≤ w.heap.size) : Own (w.alloc (.cells #[] 104)) B (some ⟨w.heap.size, 0, none⟩) 0 0 [] := ⟨own_base (own_empty w) hB, fun x hx => by cases hx⟩
theorem Sl.facts' {w : World} {g : Nat} (h : Sl w g) : w.frozen? ⟨g, 0, none⟩ = false ∧ w.frozen? ⟨g, 1, none⟩ = false := by
 obtain ⟨r1, r2, r3, r4, r5, r6, hb⟩ := h; exact ⟨hb.frozen 0, hb.frozen 1⟩
theorem Own.setSl {w : World} {B k c g i : Nat} {A : Option Addr} {l : List Nat} (h : Own w B A k c l) (hs : Sl w g) (u : Value) : Own (w.setCell ⟨g, i, none⟩ u) B A k c l := by
 refine h.keep fun g' hA => ?_
 refine Below.heap_setCell w ⟨g, i, none⟩ u g' (fun e => ?_); obtain ⟨r1, r2, r3, r4, r5, r6, hb⟩ := hs
 rcases h.1.2 with ⟨h0, _⟩ | ⟨g2, cap, cur, hv, _, hh, _⟩
 ·injection h0 with e1; rw [hA] at e1; cases e1
 ·injection hv with e1 _ _; rw [hA] at e1; injection e1 with e1; injection e1 with e1 _; unfold Blk at hb; rw [← e1, show g' = g from e, hb] at hh; simp at hh
theorem Lim.setSl {w : World} {A : Option Addr} {c g i : Nat} {l : List Nat} (h : Lim w A c l) (hs : Sl w g) (u : Value) : Lim (w.setCell ⟨g, i, none⟩ u) A c l := by
 by_cases hl : l = []
 ·subst hl; exact ⟨fun hx => absurd rfl hx, h.2⟩
 ·refine h.only (only_set w i u) (fun b off hA e => ?_); have h0 : 0 < l.length := List.length_pos_iff.2 hl; obtain ⟨b', off', hA', hc⟩ := h.at_ h0; rw [hA'] at hA; injection hA with hA; injection hA with e1 e2; have h1 := hc 0 h0; obtain ⟨r1, r2, r3, r4, r5, r6, hb⟩ := hs; rw [e1, e, hb.cell] at h1; generalize off' + 0 = m at h1
  rcases m with _ | _ | m <;> simp at h1
def GoodC (w : World) (B g k1 k2 : Nat) (l1 l2 : List Nat) : Prop := ∃ A c A' c', Blk w g 29 #[.slice A k1 c, .slice A' k2 c'] ∧ Own w B A k1 c l1 ∧ Own w B A' k2 c' l2 ∧ Apart A A'
structure RC (B g k1 k2 : Nat) (l1 l2 : List Nat) (γ : Nat → Nat) (w : World) (γ' : Nat → Nat) (w' : World) : Prop where
 col : ∀ b, b < w.heap.size → γ' b = γ b
 own : ∀ A k c l, Own w B A k c l → Own w' B A k c l
 box : ∀ b v1 v2, b ≠ g → Box w b v1 v2 → Box w' b v1 v2
 lim : ∀ A c l, Lim w A c l → Lim w' A c l
 sl : Sl w g → Sl w' g
 be : Below B w w'
 good : GoodC w' B g k1 k2 l1 l2 ∨ w'.heap[g]? = w.heap[g]?
section
variable {B g k1 k2 : Nat} {l1 l2 : List Nat}
theorem RC.refl (γ : Nat → Nat) (w : World) : RC B g k1 k2 l1 l2 γ w γ w := ⟨fun _ _ => rfl, fun _ _ _ _ h => h, fun _ _ _ _ h => h, fun _ _ _ h => h, fun h => h, Below.refl _ _, .inr rfl⟩
theorem RC.below (γ : Nat → Nat) (w w' : World) (c : Nat) (hB : B ≤ w.heap.size) (hg : g < w.heap.size) (hb : Below w.heap.size w w') : RC B g k1 k2 l1 l2 γ w (ext γ w c) w' :=
 ⟨fun b h => by unfold ext; rw [if_neg (by omega)], fun _ _ _ _ h => h.below hb, fun _ _ _ _ h => h.below hb, fun _ _ _ h => h.below hb, fun h => h.below hb, hb.mono hB, .inr (hb.block g hg)⟩
theorem RC.alloc (γ : Nat → Nat) (w : World) (c : Nat) (hB : B ≤ w.heap.size) (hg : g < w.heap.size) (o : Obj) : RC B g k1 k2 l1 l2 γ w (ext γ w c) (w.alloc o) := RC.below γ w _ c hB hg (bA _ _)
theorem RC.store (γ : Nat → Nat) {w : World} {A A' : Option Addr} {c c' : Nat} (hs : Sl w g) (hB : B ≤ g) (h1 : Own w B A k1 c l1) (h2 : Own w B A' k2 c' l2) (hap : Apart A A') :
  RC B g k1 k2 l1 l2 γ w γ ((w.setCell ⟨g, 0, none⟩ (.slice A k1 c)).setCell ⟨g, 1, none⟩ (.slice A' k2 c')) ∧ GoodC ((w.setCell ⟨g, 0, none⟩ (.slice A k1 c)).setCell ⟨g, 1, none⟩ (.slice A' k2 c')) B g k1 k2 l1 l2 := by
 have hn : ∀ A2 k2 c2 x, Own w B A2 k2 c2 x → Own ((w.setCell ⟨g, 0, none⟩ (.slice A k1 c)).setCell ⟨g, 1, none⟩ (.slice A' k2 c')) B A2 k2 c2 x := fun A2 k2 c2 x h => (h.setSl hs _).setSl (hs.set0 _ _ _) _
 have hn : ∀ A2 m c2 x, Own w B A2 m c2 x → Own ((w.setCell ⟨g, 0, none⟩ (.slice A k1 c)).setCell ⟨g, 1, none⟩ (.slice A' k2 c')) B A2 m c2 x := fun A2 m c2 x h => (h.setSl hs _).setSl (hs.set0 _ _ _) _
 have hbk : Blk ((w.setCell ⟨g, 0, none⟩ (.slice A k1 c)).setCell ⟨g, 1, none⟩ (.slice A' k2 c')) g 29 #[.slice A k1 c, .slice A' k2 c'] := by
  obtain ⟨r1, r2, r3, r4, r5, r6, hb⟩ := hs; exact (hb.set_ 0 _).set_ 1 _
 have hgd : GoodC ((w.setCell ⟨g, 0, none⟩ (.slice A k1 c)).setCell ⟨g, 1, none⟩ (.slice A' k2 c')) B g k1 k2 l1 l2 := ⟨A, c, A', c', hbk, hn _ _ _ _ h1, hn _ _ _ _ h2, hap⟩; exact ⟨⟨fun _ _ => rfl, hn, fun b v1 v2 hne hb => Blk.far (Blk.far hb hne _) hne _, fun A2 c2 x h => (h.setSl hs _).setSl (hs.set0 _ _ _) _, fun _ => ⟨_, _, _, _, _, _, hbk⟩, ((Below.refl _ _).setCell hB _).setCell hB _, .inl hgd⟩, hgd⟩
end
structure SC (w0 : World) (g b1 : Nat) (A1 A2 : Option Addr) (k1 c1 k2 c2 : Nat) (l1 l2 : List Nat) (w : World) : Prop where
 x1 : Box w b1 (.slice A1 k1 c1) (.slice A2 k2 c2)
 la : Lim w A1 c1 l1
 lb : Lim w A2 c2 l2
 e1 : Hid (k1 = l1.length)
 e2 : Hid (k2 = l2.length)
 sl : Sl w g
 be : Below w0.heap.size w0 w
 n1 : b1 ≠ g
 ge : w0.heap.size ≤ g
section
variable {w0 w w' : World} {γ γ' : Nat → Nat} {g b1 : Nat} {A1 A2 : Option Addr} {k1 c1 k2 c2 : Nat} {l1 l2 : List Nat}
theorem SC.size (h : SC w0 g b1 A1 A2 k1 c1 k2 c2 l1 l2 w) : w0.heap.size ≤ w.heap.size := h.be.size
theorem SC.lt (h : SC w0 g b1 A1 A2 k1 c1 k2 c2 l1 l2 w) : g < w.heap.size := h.sl.lt
theorem SC.step (hr : RC w0.heap.size g k1 k2 l1 l2 γ w γ' w') (h : SC w0 g b1 A1 A2 k1 c1 k2 c2 l1 l2 w) : SC w0 g b1 A1 A2 k1 c1 k2 c2 l1 l2 w' :=
 ⟨hr.box _ _ _ h.n1 h.x1, hr.lim _ _ _ h.la, hr.lim _ _ _ h.lb, h.e1, h.e2, hr.sl h.sl, h.be.trans hr.be, h.n1, h.ge⟩
end
def PhiCp (B b1 g k1 k2 : Nat) (a1 a2 : Value) (l1 l2 : List Nat) (γ : Nat → Nat) (j : Nat) (w : World) (x : Value) : Prop :=
 match j with
 | 0 => ∃ b, x = .slice (some ⟨b, 0, none⟩) 0 0 ∧ Own w B (some ⟨b, 0, none⟩) 0 0 [] ∧ γ b = 0
 | 1 => x = .pointer (some ⟨b1, 0, none⟩)
 | 2 => x = a1
 | 3 => ∃ A c, x = .slice A k1 c ∧ Own w B A k1 c l1 ∧ (∀ b, A = some ⟨b, 0, none⟩ → γ b = 0)
 | 4 => ∃ b, x = .slice (some ⟨b, 0, none⟩) 0 0 ∧ Own w B (some ⟨b, 0, none⟩) 0 0 [] ∧ γ b = 1
 | 5 => x = .pointer (some ⟨b1, 1, none⟩)
 | 6 => x = a2
 | 7 => ∃ A c, x = .slice A k2 c ∧ Own w B A k2 c l2 ∧ (∀ b, A = some ⟨b, 0, none⟩ → γ b = 1)
 | 8 => ∃ A c A' c', x = .agg #[.slice A k1 c, .slice A' k2 c'] ∧ Own w B A k1 c l1 ∧ Own w B A' k2 c' l2 ∧ Apart A A'
 | 9 => GoodC w B g k1 k2 l1 l2
 | _ => True
theorem PhiCp.keep {B b1 g k1 k2 : Nat} {a1 a2 : Value} {l1 l2 : List Nat} : ∀ (γ : Nat → Nat) (w : World) (γ' : Nat → Nat) (w' : World), RC B g k1 k2 l1 l2 γ w γ' w' → ∀ j x, PhiCp B b1 g k1 k2 a1 a2 l1 l2 γ j w x → PhiCp B b1 g k1 k2 a1 a2 l1 l2 γ' j w' x := by
 intro γ w γ' w' hr j x h; unfold PhiCp at h ⊢
 split <;> simp only at h ⊢
 all_goals first
  | exact h
  | (obtain ⟨b, rfl, h1, h2⟩ := h; exact ⟨b, rfl, hr.own _ _ _ _ h1, by rw [hr.col b (h1.lt b rfl)]; exact h2⟩)
  | (obtain ⟨A, c, rfl, h1, h2⟩ := h; exact ⟨A, c, rfl, hr.own _ _ _ _ h1, fun b hb => by rw [hr.col b (h1.lt b hb)]; exact h2 b hb⟩)
  | (obtain ⟨A, c, A', c', rfl, h1, h2, h3⟩ := h; exact ⟨A, c, A', c', rfl, hr.own _ _ _ _ h1, hr.own _ _ _ _ h2, h3⟩)
  | (rcases hr.good with h2 | h2; exact h2; obtain ⟨A, c, A', c', h3, h4, h5, h6⟩ := h; exact ⟨A, c, A', c', h2.trans h3, hr.own _ _ _ _ h4, hr.own _ _ _ _ h5, h6⟩)
set_option maxRecDepth 10000 in
set_option maxHeartbeats 2000000 in
theorem copy_n (va : Value) (L1 L2 : List Nat) (w : World) (ha : RtL w va L1 L2) (hs1 : L1.length ≤ 1048576) (hs2 : L2.length ≤ 1048576) :
  Calls Tryz.prog 144 #[va] w fun e w' => ∃ A k c A' k' c', e = .returned (.agg #[.slice A k c, .slice A' k' c']) ∧ Own w' w.heap.size A k c L1 ∧ Own w' w.heap.size A' k' c' L2 ∧ Apart A A' ∧ Below w.heap.size w w' := by
 obtain ⟨A1, k1, c1, A2, k2, c2, rfl⟩ := ha.shape; obtain ⟨W, HW⟩ : ∃ W, Hid (W = ((w.alloc (.cells #[.slice A1 k1 c1, .slice A2 k2 c2] 29)).alloc (.cells #[.slice none 0 0, .slice none 0 0] 29))) := ⟨_, rfl⟩; have hbw : Below w.heap.size w W := by rw [HW.out]; exact Below.tr (bA _ _) (bA _ _)
 obtain ⟨a1, a2, a3, a4⟩ := (ha.below hbw).nb; have sz1 : k1 ≤ 1048576 := by omega
 have sz2 : k2 ≤ 1048576 := by omega
 have hS0 : SC w (w.heap.size + 1) w.heap.size A1 A2 k1 c1 k2 c2 L1 L2 W := by
  refine ⟨?_, a1, a2, a3, a4, ?_, hbw, by omega, by omega⟩
  ·rw [HW.out]; exact Box.below (Blk.new w _ _) (bA _ _)
  ·rw [HW.out]; have := Blk.new (w.alloc (.cells #[.slice A1 k1 c1, .slice A2 k2 c2] 29)) 29 #[.slice none 0 0, .slice none 0 0]; exact ⟨none, 0, 0, none, 0, 0, by simpa using this⟩
 clear a1 a2 a3 a4 ha
 go_enter Tryz.func144, Tryz.ntmps144
 go_wp2_with fail; rw [← HW.out]; clear HW; refine region_invg (Γ := Nat → Nat) (PhiCp w.heap.size w.heap.size (w.heap.size + 1) k1 k2 (.slice A1 k1 c1) (.slice A2 k2 c2) L1 L2) (RC w.heap.size (w.heap.size + 1) k1 k2 L1 L2) (fun _ => SC w (w.heap.size + 1) w.heap.size A1 A2 k1 c1 k2 c2 L1 L2) (fun _ => 0) (by kernel_rfl) (by kernel_rfl) (by kernel_rfl) PhiCp.keep (fun _ _ _ _ hR hS => hS.step hR) (hS0.step (γ := fun _ => 0) (RC.below _ _ _ 0 hS0.size hS0.lt (bD _))) ?_ ?_
 ·refine sK ?_ (sK ?_ (sK ?_ (sK ?_ (sK ?_ (sK ?_ (sK ?_ (sK ?_ (sK ?_ (sK ?_ (sZ))))))))))
  ·intro vs γ W hS hdep K hK; have hx := RC.alloc γ W 0 hS.size hS.lt (.cells #[] 104) (g := w.heap.size + 1) (k1 := k1) (k2 := k2) (l1 := L1) (l2 := L2); have hy := own_new W hS.size; refine ⟨?_⟩; simp only [fillR, Act.put, sA, sB, sC, Nat.zero_add, Nat.reduceAdd] at hK ⊢; go_simp; with_reducible refine hK _ _ _ hx ?_
   exact ⟨_, rfl, hy, by simp [ext]⟩
  ·intro vs γ W hS hdep K hK; refine ⟨?_⟩; simp only [fillR, Act.put, sA, sB, sC, Nat.zero_add, Nat.reduceAdd] at hK ⊢; go_simp; with_reducible refine hK _ _ _ (RC.refl _ _) ?_
   exact rfl
  ·intro vs γ W hS hdep K hK; have d0 := hdep ⟨1, .data⟩ (by simp) rfl; simp only [PhiCp] at d0; have f1 := hS.x1.facts.1; have f2 := hS.x1.facts.2; refine ⟨?_⟩; simp only [fillR, Act.put, sA, sB, sC, Nat.zero_add, Nat.reduceAdd, d0] at hK ⊢; go_simp; with_reducible refine hK _ _ _ (RC.refl _ _) ?_
   exact rfl
  ·intro vs γ W hS hdep K hK; have d0 := hdep ⟨0, .data⟩ (by simp) rfl; simp only [PhiCp] at d0; refine @exE1 _ _ _ d0 ?_; clear d0; intro b0 d0; have e0 := d0.1; have n0 := d0.2.1; have m0 := d0.2.2; clear d0; have d1 := hdep ⟨2, .data⟩ (by simp) rfl; simp only [PhiCp] at d1; refine ⟨?_⟩; simp only [fillR, Act.put, sA, sB, sC, Nat.zero_add, Nat.reduceAdd, e0, d1] at hK ⊢; rw [if_pos (by rfl)]; refine wp_clone (.tmp 3) (.tmp 5) 27 u32_info Tryz.underlying27 w.heap.size b0 n0 A1 k1 c1 L1 hS.la hS.e1 sz1 hS.size (by rfl) (by rfl) (by rfl) (by rfl) ?_; intro v' w' A' c' hv hown hb hfr; subst hv; have hx := RC.below γ W w' 0 hS.size hS.lt hb (g := w.heap.size + 1) (k1 := k1) (k2 := k2) (l1 := L1) (l2 := L2); have hz : ∀ b, A' = some ⟨b, 0, none⟩ → ext γ W 0 b = 0 := fun b hb2 => ext_of hfr n0 m0 hb2
   simp only [Act.put, sA, sB, sC]; with_reducible refine hK _ _ _ hx ?_
   exact ⟨A', c', rfl, hown, hz⟩
  ·intro vs γ W hS hdep K hK; have hx := RC.alloc γ W 1 hS.size hS.lt (.cells #[] 104) (g := w.heap.size + 1) (k1 := k1) (k2 := k2) (l1 := L1) (l2 := L2); have hy := own_new W hS.size; refine ⟨?_⟩; simp only [fillR, Act.put, sA, sB, sC, Nat.zero_add, Nat.reduceAdd] at hK ⊢; go_simp; with_reducible refine hK _ _ _ hx ?_
   exact ⟨_, rfl, hy, by simp [ext]⟩
  ·intro vs γ W hS hdep K hK; refine ⟨?_⟩; simp only [fillR, Act.put, sA, sB, sC, Nat.zero_add, Nat.reduceAdd] at hK ⊢; go_simp; with_reducible refine hK _ _ _ (RC.refl _ _) ?_
   exact rfl
  ·intro vs γ W hS hdep K hK; have d0 := hdep ⟨5, .data⟩ (by simp) rfl; simp only [PhiCp] at d0; have f1 := hS.x1.facts.1; have f2 := hS.x1.facts.2; refine ⟨?_⟩; simp only [fillR, Act.put, sA, sB, sC, Nat.zero_add, Nat.reduceAdd, d0] at hK ⊢; go_simp; with_reducible refine hK _ _ _ (RC.refl _ _) ?_
   exact rfl
  ·intro vs γ W hS hdep K hK; have d0 := hdep ⟨4, .data⟩ (by simp) rfl; simp only [PhiCp] at d0; refine @exE1 _ _ _ d0 ?_; clear d0; intro b0 d0; have e0 := d0.1; have n0 := d0.2.1; have m0 := d0.2.2; clear d0; have d1 := hdep ⟨6, .data⟩ (by simp) rfl; simp only [PhiCp] at d1; refine ⟨?_⟩; simp only [fillR, Act.put, sA, sB, sC, Nat.zero_add, Nat.reduceAdd, e0, d1] at hK ⊢; rw [if_pos (by rfl)]; refine wp_clone (.tmp 7) (.tmp 9) 27 u32_info Tryz.underlying27 w.heap.size b0 n0 A2 k2 c2 L2 hS.lb hS.e2 sz2 hS.size (by rfl) (by rfl) (by rfl) (by rfl) ?_; intro v' w' A' c' hv hown hb hfr; subst hv; have hx := RC.below γ W w' 1 hS.size hS.lt hb (g := w.heap.size + 1) (k1 := k1) (k2 := k2) (l1 := L1) (l2 := L2); have hz : ∀ b, A' = some ⟨b, 0, none⟩ → ext γ W 1 b = 1 := fun b hb2 => ext_of hfr n0 m0 hb2
   simp only [Act.put, sA, sB, sC]; with_reducible refine hK _ _ _ hx ?_
   exact ⟨A', c', rfl, hown, hz⟩
  ·intro vs γ W hS hdep K hK; have d0 := hdep ⟨3, .data⟩ (by simp) rfl; simp only [PhiCp] at d0; refine @exE2 _ _ _ _ d0 ?_; clear d0; intro A0 c0 d0; have e0 := d0.1; have n0 := d0.2.1; have m0 := d0.2.2; clear d0; have d1 := hdep ⟨7, .data⟩ (by simp) rfl; simp only [PhiCp] at d1; refine @exE2 _ _ _ _ d1 ?_; clear d1; intro A1 c1 d1; have e1 := d1.1; have n1 := d1.2.1; have m1 := d1.2.2; clear d1; refine ⟨?_⟩; simp only [fillR, Act.put, sA, sB, sC, Nat.zero_add, Nat.reduceAdd, e0, e1] at hK ⊢; go_simp; with_reducible refine hK _ _ _ (RC.refl _ _) ?_
   exact ⟨A0, c0, A1, c1, rfl, n0, n1, fun x y hx hy e => by have h1 := m0 x hx; have h2 := m1 y hy; rw [e] at h1; omega⟩
  ·intro vs γ W hS hdep K hK; have d0 := hdep ⟨8, .data⟩ (by simp) rfl; simp only [PhiCp] at d0; refine @exE4 _ _ _ _ _ _ d0 ?_; clear d0; intro A0 c0 B0 d0 d0; have e0 := d0.1; have n0 := d0.2.1; have m0 := d0.2.2.1; have o0 := d0.2.2.2; clear d0; have q1 := (hS.sl.facts').1; have q2 := (hS.sl.facts').2; have HR := Lib.hid (RC.store (B := w.heap.size) γ hS.sl hS.ge n0 m0 o0); obtain ⟨r1, r2, r3, r4, r5, r6, hres⟩ := hS.sl; have q3 := hres.cell 0; have q4 := hres.cell 1; simp at q3 q4; clear hres; refine ⟨?_⟩; simp only [fillR, Act.put, sA, sB, sC, Nat.zero_add, Nat.reduceAdd, e0] at hK ⊢; go_simp; with_reducible refine hK undef _ _ HR.out.1 ?_
   exact HR.out.2
 ·intro vs γ W3 hS hv; have v9 := hv 9 (by simp); simp only [PhiCp] at v9; obtain ⟨A, c, A', c', hblk, h1, h2, h3⟩ := v9; have q1 := hblk.cell 0; have q2 := hblk.cell 1; simp at q1 q2; have HX := Lib.hid (And.intro h1 (And.intro h2 h3)); have hbe := hS.be; clear hv hblk h1 h2 h3 hS; simp only [fillR, Act.put, sA, sB, sC, Nat.zero_add, Nat.reduceAdd]; go_wp2_with fail; exact bodyPost_ret (v := .agg #[.slice A k1 c, .slice A' k2 c']) (by simp [results, Tryz.results144, go_sem, q1, q2]) rfl ⟨_, _, _, _, _, _, rfl, HX.out.1, HX.out.2.1, HX.out.2.2, hbe⟩
end Go.Proofs.YtijkfagkbfbpmaaGreatDoor
namespace Go.Proofs.YtijkfagkbfbpmaaGreatDoor
open Go.RowKit
/-- n divided by d, in lowest form -/
def RatOf (w : World) (v : Value) (n d : Nat) : Prop := Rat w v (n / Nat.gcd n d) (d / Nat.gcd n d) ∧ Nm.Good (n / Nat.gcd n d) (d / Nat.gcd n d)
theorem RatOf.below {w w' : World} {v : Value} {n d : Nat} (h : RatOf w v n d) (hb : Below w.heap.size w w') : RatOf w' v n d := ⟨h.1.below hb, h.2⟩
theorem RatOf.map {w w' : World} {v : Value} {n d : Nat} (h : RatOf w v n d) (hm : ∀ A k c x, Nb w A k c x → Nb w' A k c x) : RatOf w' v n d := ⟨h.1.map hm, h.2⟩
theorem rof_s (n d : Nat) (w : World) (hn : n ≤ 9223372036854775807) (hd : 0 < d) (hd2 : d ≤ 9223372036854775807) :
  Calls Tryz.prog 62 #[.int .i64 n, .int .i64 d] w fun e w' => ∃ A k c A' k' c', e = .returned (.tuple #[.agg #[.slice A k c, .slice A' k' c'], .int .i64 0]) ∧ RatOf w' (.agg #[.slice A k c, .slice A' k' c']) n d ∧ Below w.heap.size w w' := by
 refine (rof_n n d w hn hd hd2).mono ?_; rintro e w' ⟨v, er, rfl, hP, hb⟩; obtain ⟨rfl, h1, h2⟩ := hP.small hd (b64 (by omega)) (b64 (by omega)); obtain ⟨A, k, c, A', k', c', rfl⟩ := h1.shape; exact ⟨A, k, c, A', k', c', rfl, ⟨h1, h2⟩, hb⟩
theorem rat_ret {w0 w : World} {g : Nat} {A A' : Option Addr} {k c k' c' n d : Nat} (hres : Res w g) (h : RatOf w (.agg #[.slice A k c, .slice A' k' c']) n d) :
  RatOf ((w.setCell ⟨g, 0, none⟩ (.slice A k c)).setCell ⟨g, 1, none⟩ (.slice A' k' c')) (.agg #[.slice A k c, .slice A' k' c']) n d := h.map (hres.sl.keep2 A A' k c k' c')
theorem part_le {a k : Nat} (h : a ≤ k) : a / Nat.gcd a k ≤ k / Nat.gcd a k := Nat.div_le_div_right h
set_option maxRecDepth 10000 in
set_option maxHeartbeats 400000 in
theorem rpart_n (n d : Int) (w : World) (h1 : -9223372036854775808 ≤ n) (h2 : n ≤ 9223372036854775807) (h3 : -9223372036854775808 ≤ d) (h4 : d ≤ 9223372036854775807) :
  Calls Tryz.prog 96 #[.int .i64 n, .int .i64 d] w fun e w' => ∃ v p q, e = .returned v ∧ Rat w' v p q ∧ Nm.Good p q ∧ p ≤ q ∧ Hid (∃ a k, a ≤ k ∧ 0 < k ∧ k ≤ 24 ∧ p = a / Nat.gcd a k ∧ q = k / Nat.gcd a k) ∧ Below w.heap.size w w' := by
 go_enter Tryz.func96, Tryz.ntmps96
 go_wp2_with fail; refine (around_n d 24 _ h3 h4 (by omega) (by omega)).mono ?_; rintro e w' ⟨x, rfl, hx, _, rfl⟩; go_wp2_with fail; refine (around_n n (1 + x + 1) _ h1 h2 (by omega) (by omega)).mono ?_; rintro e w' ⟨y, rfl, hy, _, rfl⟩; go_wp2_with fail; refine (rof_s y (1 + x) _ (by omega) (by omega) (by omega)).mono ?_; rintro e w1 ⟨A, k, c, A', k', c', rfl, hR, hb⟩; have hres := Res.below (Res.below (Res.new w) hb) (bA w1 (.cells #[.slice A k c, .slice A' k' c'] 29)); have hR2 := hR.below (bA w1 (.cells #[.slice A k c, .slice A' k' c'] 29)); obtain ⟨r1, r2, r3, r4⟩ := hres.facts; obtain ⟨s1, s2⟩ := hres.set2 (.slice A k c) (.slice A' k' c'); have hfin := rat_ret (w0 := w) hres hR2; have hbw := Below.tr (Below.tr (bA w _) hb) (bA w1 (.cells #[.slice A k c, .slice A' k' c'] 29)); clear hR hR2 hb; go_wp2_with fail; exact bodyPost_ret (v := .agg #[.slice A k c, .slice A' k' c']) (by simp [results, Tryz.results96, go_sem, s1, s2]) rfl ⟨_, _, _, rfl, hfin.1, hfin.2, part_le (by omega), ⟨y, 1 + x, by omega, by omega, by omega, rfl, rfl⟩, below_set2 hbw (Nat.le_refl _) _ _⟩
set_option maxRecDepth 10000 in
set_option maxHeartbeats 400000 in
theorem rmade_n (n d : Int) (w : World) (h1 : -9223372036854775808 ≤ n) (h2 : n ≤ 9223372036854775807) (h3 : -9223372036854775808 ≤ d) (h4 : d ≤ 9223372036854775807) :
  Calls Tryz.prog 99 #[.int .i64 n, .int .i64 d] w fun e w' => ∃ v p q, e = .returned v ∧ Rat w' v p q ∧ Nm.Good p q ∧ Below w.heap.size w w' := by
 go_enter Tryz.func99, Tryz.ntmps99
 go_wp2_with fail; refine (around_n n 1048576 _ h1 h2 (by omega) (by omega)).mono ?_; rintro e w' ⟨y, rfl, hy, _, rfl⟩; go_wp2_with fail; refine (around_n d 1048576 _ h3 h4 (by omega) (by omega)).mono ?_; rintro e w' ⟨x, rfl, hx, _, rfl⟩; go_wp2_with fail; refine (rof_s y (1 + x) _ (by omega) (by omega) (by omega)).mono ?_; rintro e w1 ⟨A, k, c, A', k', c', rfl, hR, hb⟩; have hres := Res.below (Res.below (Res.new w) hb) (bA w1 (.cells #[.slice A k c, .slice A' k' c'] 29)); have hR2 := hR.below (bA w1 (.cells #[.slice A k c, .slice A' k' c'] 29)); obtain ⟨r1, r2, r3, r4⟩ := hres.facts; obtain ⟨s1, s2⟩ := hres.set2 (.slice A k c) (.slice A' k' c'); have hfin := rat_ret (w0 := w) hres hR2; have hbw := Below.tr (Below.tr (bA w _) hb) (bA w1 (.cells #[.slice A k c, .slice A' k' c'] 29)); clear hR hR2 hb; go_wp2_with fail; exact bodyPost_ret (v := .agg #[.slice A k c, .slice A' k' c']) (by simp [results, Tryz.results99, go_sem, s1, s2]) rfl ⟨_, _, _, rfl, hfin.1, hfin.2, below_set2 hbw (Nat.le_refl _) _ _⟩
end Go.Proofs.YtijkfagkbfbpmaaGreatDoor
namespace Go.Proofs.YtijkfagkbfbpmaaGreatDoor
open Go.RowKit
theorem own_app {w : World} {base n : Nat} {v : Value} {l l2 : List Nat} (h : w.ownsRow base 104 1 v n (u32s l ++ u32s l2)) (hl : Nm.Lim l) (hl2 : Nm.Lim l2) : ∃ A c, v = .slice A n c ∧ Own w base A n c (l ++ l2) := by
 rw [← u32s_append] at h; have hL : Nm.Lim (l ++ l2) := fun x hx => by rcases List.mem_append.1 hx with h | h; exact hl x h; exact hl2 x h
 obtain ⟨A, c, rfl, _, _⟩ := own_lim h hL; have e : (l ++ l2).length = n := by have := h.1; simp [u32s] at this; simp; omega
 rw [e] at h ⊢; exact ⟨A, c, rfl, h, hL⟩
theorem Own.notBox {w : World} {base k c g : Nat} {A : Option Addr} {l : List Nat} {v1 v2 : Value} (h : Own w base A k c l) (hb : Box w g v1 v2) : ∀ g', A = some ⟨g', 0, none⟩ → g' ≠ g := by
 rintro g' hA rfl
 rcases h.1.2 with ⟨h0, _⟩ | ⟨g2, cap, cur, hv, _, hh, _⟩
 ·injection h0 with e1; rw [hA] at e1; cases e1
 ·injection hv with e1 _ _; rw [hA] at e1; injection e1 with e1; injection e1 with e1 _; unfold Box Blk at hb; rw [← e1, hb] at hh; simp at hh
theorem Box.other {w w' : World} {base k c g : Nat} {A : Option Addr} {l : List Nat} {v1 v2 : Value} (hb : Box w g v1 v2) (h : Own w base A k c l) (hg : w.grownBy w' (Value.ownBlock (.slice A k c))) : Box w' g v1 v2 := by
 refine (hg.block g (Blk.lt hb) fun e => ?_).trans hb
 rcases h.zeroOff with rfl | ⟨g', rfl, _⟩
 ·simp [Value.ownBlock] at e
 ·simp [Value.ownBlock] at e; exact h.notBox hb g' rfl e.symm
theorem RtL.setSl2 {w : World} {v : Value} {g : Nat} {l1 l2 : List Nat} (h : RtL w v l1 l2) (hs : Sl w g) (A A' : Option Addr) (k c k' c' : Nat) : RtL ((w.setCell ⟨g, 0, none⟩ (.slice A k c)).setCell ⟨g, 1, none⟩ (.slice A' k' c')) v l1 l2 := by
 obtain ⟨A1, k1, c1, A2, k2, c2, rfl, h1, h2, e1, e2⟩ := h; exact ⟨A1, k1, c1, A2, k2, c2, rfl, (h1.setSl hs _).setSl (hs.set0 _ _ _) _, (h2.setSl hs _).setSl (hs.set0 _ _ _) _, e1, e2⟩
theorem Own.grown2 {w w' w0 : World} {base b ka ca : Nat} {A : Option Addr} {la : List Nat} (ha : Own w base A ka ca la) (h : Below b w0 w) (hb : b ≤ base) (hw : b ≤ w.heap.size) (hg : w.grownBy w' (Value.ownBlock (.slice A ka ca))) : Below b w0 w' := by
 refine h.grown hg hw fun k hk => ?_
 rcases ha.zeroOff with rfl | ⟨g', rfl, hb2⟩
 ·simp [Value.ownBlock] at hk
 ·simp [Value.ownBlock] at hk; omega
theorem rtl_own {w : World} {B1 B2 : Nat} {A A' : Option Addr} {k c k' c' : Nat} {l l' : List Nat} (h1 : Own w B1 A k c l) (h2 : Own w B2 A' k' c' l') : RtL w (.agg #[.slice A k c, .slice A' k' c']) l l' := ⟨_, _, _, _, _, _, rfl, h1.lim, h2.lim, h1.len, h2.len⟩
theorem rtl_lim {w : World} {A A' : Option Addr} {k c k' c' : Nat} {l l' : List Nat} (h1 : Lim w A c l) (h2 : Lim w A' c' l') (e1 : k = l.length) (e2 : k' = l'.length) : RtL w (.agg #[.slice A k c, .slice A' k' c']) l l' := ⟨_, _, _, _, _, _, rfl, h1, h2, e1, e2⟩
theorem Nb.digit (w : World) (g n : Nat) (hg : g = w.heap.size) (h0 : 0 < n) (hn : n < 4294967296) : Nb (w.alloc (.cells #[.int .u32 (n : Int)] 104)) (some ⟨g, 0, none⟩) 1 1 n := by
 subst hg; have h : Row (w.alloc (.cells #[.int .u32 (n : Int)] 104)) w.heap.size [n] := ⟨Blk.new w _ _, fun x hx => by rw [List.mem_singleton.1 hx]; exact hn⟩; have := h.lim (c := 1) (by simp) (by omega); have e : Nm.lb n = [n] := Nm.lb_small (by omega) hn; rw [← e] at this; exact ⟨by rw [e]; rfl, this⟩
theorem Lim.digit (w : World) (g n : Nat) (hg : g = w.heap.size) (hn : n < 4294967296) : Lim (w.alloc (.cells #[.int .u32 (n : Int)] 104)) (some ⟨g, 0, none⟩) 1 [n] := by
 subst hg; have h : Row (w.alloc (.cells #[.int .u32 (n : Int)] 104)) w.heap.size [n] := ⟨Blk.new w _ _, fun x hx => by rw [List.mem_singleton.1 hx]; exact hn⟩; exact h.lim (c := 1) (by simp) (by omega)
end Go.Proofs.YtijkfagkbfbpmaaGreatDoor
namespace Go.Proofs.YtijkfagkbfbpmaaGreatDoor
open Go.RowKit
end Go.Proofs.YtijkfagkbfbpmaaGreatDoor
