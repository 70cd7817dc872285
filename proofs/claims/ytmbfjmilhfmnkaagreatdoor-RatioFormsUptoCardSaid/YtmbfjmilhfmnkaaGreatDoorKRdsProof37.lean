import Derived.Test.YtmbfjmilhfmnkaaGreatDoorKRdsProof36
import Derived.Test.YtmbfjmilhfmnkaaGreatDoorKRdsProof22
import Derived.Test.YtmbfjmilhfmnkaaGreatDoorKRdsProof35
import Derived.Test.YtmbfjmilhfmnkaaGreatDoorKRdsProof15
import Derived.Test.YtmbfjmilhfmnkaaGreatDoorKRdsProof16
import Derived.Test.YtmbfjmilhfmnkaaGreatDoorS0
set_option linter.unusedVariables false
set_option linter.unusedSimpArgs false
namespace Go.Proofs.YtmbfjmilhfmnkaaGreatDoor
open Go Go.RowKit
theorem castI_r {w : World} {A : Option Addr} {c : Nat} {l : List Nat} (h : Lim w A c l) : ∀ x ∈ castI l, -9223372036854775808 ≤ x ∧ x ≤ 9223372036854775807 := by
 intro x hx; unfold castI at hx; obtain ⟨y, hy, rfl⟩ := List.mem_map.1 hx; have := h.2.2.2.1 y hy; unfold Nm.B at this; omega
theorem wp_appB {o : Oper} {a : Act} {w : World} {K : Act → World → Prop} {Q : Exit → Act → World → Prop} (s x : Operand) (ho : o.op = .call { callee := .builtin .append, args := #[s, x], argTypes := #[23, 23] })
  (base : Nat) (v : Value) (l : List Nat) (hs : a.eval s = v) (h : OwnB w base v l) (A : Option Addr) (m c : Nat) (news : List Nat) (hx : a.eval x = .slice A m c) (hn : By w A m c news) (hl : l.length + news.length ≤ 1073741824) (hb : base ≤ w.heap.size)
  (hK : ∀ v' w', OwnB w' base v' (l ++ news) → w.grownBy w' v.ownBlock → (v'.ownBlock = v.ownBlock ∨ v'.ownBlock = some w.heap.size) → K (a.put o.dst v') w') : o.wp Tryz.prog a w K Q := by
 obtain ⟨iR, hi, hz, hsz, hby⟩ := info_parts info_u8; have hm := hn.len
 obtain ⟨v', w', hrun, k1, k2, k3, _⟩ := run_append_all (P := Tryz.prog) w (fun _ => True) base 23 o.type 5 iR (.int .u8 0) 1 1 Tryz.underlying23 hi hz hsz hby rfl (by omega) v l.length _ h.1 A m c (news.flatMap u8C) (by rw [flat_u8]; omega) hn.1.1 (by
  intro u hu; obtain ⟨d, _, hd⟩ := List.mem_flatMap.1 hu; simp only [u8C, List.mem_singleton] at hd; subst hd
  rfl) (by simp only [maxLen]; omega) (by omega) hb (fun _ _ => trivial) (fun _ _ => trivial) (fun _ _ _ _ _ => trivial)
 unfold Oper.wp execOp; simp only [ho, resolve, invoke, builtin, Sem.run_bind, Sem.run_pure, Result.andThen_ok, List.map_toArray, List.map_cons, List.map_nil, hs, hx, hrun]; refine hK v' w' ⟨?_, fun y hy => ?_⟩ k2 k3
 ·rw [List.length_append, List.flatMap_append, ← hm]; exact k1
 ·rcases List.mem_append.1 hy with hy | hy
  ·exact h.2 y hy
  ·exact hn.2.2.2.1 y hy

def PhiEn (g : Nat) (A1 : Option Addr) (k1 c1 : Nat) (A2 : Option Addr) (k2 c2 : Nat) (B0 : Nat) (X1 X2 E1 E2 : List Nat) (vs : Nat → Value) (j : Nat) (w : World) (x : Value) : Prop :=
 match j with
 | 0 => x = .pointer (some ⟨g, 0, none⟩)
 | 1 => x = .slice A1 k1 c1
 | 2 => OwnI w B0 x (castI X1)
 | 3 => OwnB w B0 x E1
 | 4 => x = .pointer (some ⟨g, 1, none⟩)
 | 5 => x = .slice A2 k2 c2
 | 6 => OwnI w B0 x (castI X2)
 | 7 => OwnB w B0 x E2
 | _ => True

theorem PhiEn.keepR {g : Nat} {A1 : Option Addr} {k1 c1 : Nat} {A2 : Option Addr} {k2 c2 : Nat} {B0 : Nat} {X1 X2 E1 E2 : List Nat} : ∀ vs (w w' : World), Below w.heap.size w w' → ∀ j x, PhiEn g A1 k1 c1 A2 k2 c2 B0 X1 X2 E1 E2 vs j w x → PhiEn g A1 k1 c1 A2 k2 c2 B0 X1 X2 E1 E2 vs j w' x := by
 intro vs w w' hb j x h; unfold PhiEn at h ⊢
 split <;> simp only at h ⊢ <;> first | exact h | exact OwnI.below h hb | exact OwnB.below h hb
theorem PhiEn.keepF {g : Nat} {A1 : Option Addr} {k1 c1 : Nat} {A2 : Option Addr} {k2 c2 : Nat} {B0 : Nat} {X1 X2 E1 E2 : List Nat} : ∀ vs (w w' : World) j x, ([] : List Nat).contains j = true → PhiEn g A1 k1 c1 A2 k2 c2 B0 X1 X2 E1 E2 vs j w x → PhiEn g A1 k1 c1 A2 k2 c2 B0 X1 X2 E1 E2 vs j w' x := by
 intro vs w w' j x hf
 cases hf
def SEn (w w1 : World) (E1 E2 : List Nat) : List Value → (Nat → Value) → World → Prop
 | [], _, W => Below w1.heap.size w1 W
 | [v], _, W => OwnB W w.heap.size v (E1 ++ E2) ∧ Below w.heap.size w W
 | v :: u :: _, _, W => u = v ∧ OwnB W w.heap.size v (E1 ++ E2) ∧ Below w.heap.size w W
set_option maxRecDepth 100000 in
set_option maxHeartbeats 4000000 in
theorem rencode_n (v : Value) (x : LP) (w : World) (h : RtP w v x) (hk1 : x.1.length ≤ 1048576) (hk2 : x.2.length ≤ 1048576) :
  Calls Tryz.prog 6 #[v] w fun e w' => ∃ v, e = .returned v ∧ OwnB w' w.heap.size v (Wi.encIs (castI x.1) ++ Wi.encIs (castI x.2)) ∧ Below w.heap.size w w' := by
 obtain ⟨A1, k1, c1, A2, k2, c2, rfl, hl1, hl2, e1, e2⟩ := h; obtain ⟨X1, X2⟩ := x; simp only at hl1 hl2 e1 e2 hk1 hk2 ⊢; have HL1 := Lib.hid hl1; have HL2 := Lib.hid hl2; have HK1 := Lib.hid e1; have HK2 := Lib.hid e2; obtain ⟨E1, HE1⟩ : ∃ E, Hid (E = Wi.encIs (castI X1)) := ⟨_, rfl⟩; obtain ⟨E2, HE2⟩ : ∃ E, Hid (E = Wi.encIs (castI X2)) := ⟨_, rfl⟩
 have hE1 : E1.length ≤ 9 * X1.length + 9 := by
  rw [HE1.out]; have := encIs_len (castI_r hl1) (by rw [castI_len]; omega)
  rwa [castI_len] at this
 have hE2 : E2.length ≤ 9 * X2.length + 9 := by
  rw [HE2.out]; have := encIs_len (castI_r hl2) (by rw [castI_len]; omega)
  rwa [castI_len] at this
 rw [← HE1.out, ← HE2.out]; have hk1' : k1 ≤ 1048576 := by omega
 have hk2' : k2 ≤ 1048576 := by omega
 have hE1 : E1.length ≤ 10000000 := by omega
 have hE2 : E2.length ≤ 10000000 := by omega
 clear hl1 hl2 e1 e2
 go_enter Tryz.func6, Tryz.ntmps6
 go_upto_region 1 with fail; refine wp_name ?_; intro w1 HW; have hbw : Below w.heap.size w w1 := by rw [HW.out]; exact bA _ _
 have hB : Blk w1 w.heap.size 29 #[.slice A1 k1 c1, .slice A2 k2 c2] := by rw [HW.out]; exact Blk.new _ _ _
 obtain ⟨g, hg⟩ : ∃ g, Hid (g = w.heap.size) := ⟨_, rfl⟩; rw [← hg.out] at hB ⊢; have q0 := hB.cell 0; have q1 := hB.cell 1; simp only [List.getElem?_toArray, List.getElem?_cons_zero, List.getElem?_cons_succ] at q0 q1; rw [hg.out] at *; clear HW hB; refine region_chain [8, 9] [.early, .early, .early, .early, .early, .early, .early, .early, .chain 0, .chain 1] [] [] (PhiEn w.heap.size A1 k1 c1 A2 k2 c2 w1.heap.size X1 X2 E1 E2) (fun w w' => Below w.heap.size w w') (SEn w w1 E1 E2) (by kernel_rfl) (by kernel_rfl) (by kernel_rfl) (by kernel_rfl) (sK (fun _ _ _ _ _ h => h) (sK (fun _ _ _ _ _ h => h) (sK (fun _ _ _ _ _ h => h) (sK (fun _ _ _ _ _ h => h) (sK (fun _ _ _ _ _ h => h) (sK (fun _ _ _ _ _ h => h) (sK (fun _ _ _ _ _ h => h) (sK (fun _ _ _ _ _ h => h) (sK (fun _ _ _ _ _ h => h) (sK (fun _ _ _ _ _ h => h) (sZ))))))))))) PhiEn.keepR PhiEn.keepF (fun _ _ _ _ hR hS => Below.tr hS hR) (by rintro (_ | ⟨_, _ | ⟨_, _⟩⟩) vs vs' w _ h <;> exact h) (fun _ => bD _) (fun vs => by simp only [fillR, Act.put, sA, sB, sC, Nat.zero_add, Nat.reduceAdd]; rfl) ?_ ?_
 ·refine sK ?_ (sK ?_ (sK ?_ (sK ?_ (sK ?_ (sK ?_ (sK ?_ (sK ?_ (sK ?_ (sK ?_ (sZ))))))))))
  ·as_aux_lemma =>
   intro vs W hS hu hdep K hK; have HU := Lib.hid hu; clear hu; refine ⟨?_⟩; simp only [Act.put, sA, sB, sC, Nat.zero_add, Nat.reduceAdd] at hK ⊢; go_simp; with_reducible refine hK _ _ (Below.refl _ _) ?_
   exact rfl
  ·as_aux_lemma =>
   intro vs W hS hu hdep K hK; have HU := Lib.hid hu; clear hu; have d0 := hdep ⟨0, .data⟩ (by simp) rfl; simp only [PhiEn] at d0; have ft := cell_keep hS q0; refine ⟨?_⟩; simp only [Act.put, sA, sB, sC, Nat.zero_add, Nat.reduceAdd, d0] at hK ⊢; go_simp; with_reducible refine hK _ _ (Below.refl _ _) ?_
   exact rfl
  ·as_aux_lemma =>
   intro vs W hS hu hdep K hK; have HU := Lib.hid hu; clear hu; have d0 := hdep ⟨1, .data⟩ (by simp) rfl; simp only [PhiEn] at d0; have hl := HL1.out.below hbw |>.below hS; have hsz := Below.size hS; refine ⟨?_⟩; simp only [Act.put, sA, sB, sC, Nat.zero_add, Nat.reduceAdd, d0] at hK ⊢; go_simp; refine (uints_n A1 k1 c1 X1 _ hl HK1.out (by omega)).mono ?_; rintro e w' ⟨v, rfl, hv, hb⟩; go_wp2_with fail; with_reducible refine hK _ _ hb ?_
   exact hv.mono (by omega)
  ·as_aux_lemma =>
   intro vs W hS hu hdep K hK; have HU := Lib.hid hu; clear hu; have d0 := hdep ⟨2, .data⟩ (by simp) rfl; simp only [PhiEn] at d0; have r0 := d0; clear d0; obtain ⟨A', c', e0⟩ := r0.shp; rw [e0] at r0; have hsz := Below.size hS; have hrow := r0.row (by rw [castI_len, ← HK1.out]; omega); refine ⟨?_⟩; simp only [Act.put, sA, sB, sC, Nat.zero_add, Nat.reduceAdd, e0] at hK ⊢; go_simp; refine (rints_n A' _ c' (castI X1) _ hrow (castI_r HL1.out) (by rw [castI_len, ← HK1.out]; omega)).mono ?_; rintro e w' ⟨v, rfl, hv, hb⟩; go_wp2_with fail; with_reducible refine hK _ _ hb ?_
   show OwnB _ _ _ E1
   rw [HE1.out]; exact hv.mono (by omega)
  ·as_aux_lemma =>
   intro vs W hS hu hdep K hK; have HU := Lib.hid hu; clear hu; refine ⟨?_⟩; simp only [Act.put, sA, sB, sC, Nat.zero_add, Nat.reduceAdd] at hK ⊢; go_simp; with_reducible refine hK _ _ (Below.refl _ _) ?_
   exact rfl
  ·as_aux_lemma =>
   intro vs W hS hu hdep K hK; have HU := Lib.hid hu; clear hu; have d0 := hdep ⟨4, .data⟩ (by simp) rfl; simp only [PhiEn] at d0; have ft := cell_keep hS q1; refine ⟨?_⟩; simp only [Act.put, sA, sB, sC, Nat.zero_add, Nat.reduceAdd, d0] at hK ⊢; go_simp; with_reducible refine hK _ _ (Below.refl _ _) ?_
   exact rfl
  ·as_aux_lemma =>
   intro vs W hS hu hdep K hK; have HU := Lib.hid hu; clear hu; have d0 := hdep ⟨5, .data⟩ (by simp) rfl; simp only [PhiEn] at d0; have hl := HL2.out.below hbw |>.below hS; have hsz := Below.size hS; refine ⟨?_⟩; simp only [Act.put, sA, sB, sC, Nat.zero_add, Nat.reduceAdd, d0] at hK ⊢; go_simp; refine (uints_n A2 k2 c2 X2 _ hl HK2.out (by omega)).mono ?_; rintro e w' ⟨v, rfl, hv, hb⟩; go_wp2_with fail; with_reducible refine hK _ _ hb ?_
   exact hv.mono (by omega)
  ·as_aux_lemma =>
   intro vs W hS hu hdep K hK; have HU := Lib.hid hu; clear hu; have d0 := hdep ⟨6, .data⟩ (by simp) rfl; simp only [PhiEn] at d0; have r0 := d0; clear d0; obtain ⟨A', c', e0⟩ := r0.shp; rw [e0] at r0; have hsz := Below.size hS; have hrow := r0.row (by rw [castI_len, ← HK2.out]; omega); refine ⟨?_⟩; simp only [Act.put, sA, sB, sC, Nat.zero_add, Nat.reduceAdd, e0] at hK ⊢; go_simp; refine (rints_n A' _ c' (castI X2) _ hrow (castI_r HL2.out) (by rw [castI_len, ← HK2.out]; omega)).mono ?_; rintro e w' ⟨v, rfl, hv, hb⟩; go_wp2_with fail; with_reducible refine hK _ _ hb ?_
   show OwnB _ _ _ E2
   rw [HE2.out]; exact hv.mono (by omega)
  ·as_aux_lemma =>
   intro vs W hS hdep K hK; have d0 := hdep ⟨3, .data⟩ (by simp) rfl (by rfl); simp only [PhiEn] at d0; have d1 := hdep ⟨7, .data⟩ (by simp) rfl (by rfl); simp only [PhiEn] at d1; have hS1 : Below w1.heap.size w1 W := hS; clear hS; have hsz := hS1.size; obtain ⟨A3, c3, e3⟩ := d0.shp; obtain ⟨A4, c4, e4⟩ := d1.shp; rw [e3] at d0; rw [e4] at d1; have hby := d1.by_ (by omega); have hbx := Below.tr hbw hS1; refine ⟨?_⟩; simp only [Act.put, sA, sB, sC, Nat.zero_add, Nat.reduceAdd, e3, e4] at hK ⊢; rw [if_pos (by rfl)]; refine wp_appB (.tmp 6) (.tmp 10) rfl w1.heap.size (.slice A3 E1.length c3) E1 rfl d0 A4 E2.length c4 E2 rfl hby (by omega) hsz ?_; intro v7 w7 hown7 hg7 _; have hbz := hbx.trans (((Below.refl w1.heap.size _).grown hg7 hsz (fun q hq => d0.ge q hq)).mono hbw.size); simp only [Act.put, sA, sB, sC]; with_reducible refine hK _ _ ?_
   exact ⟨hown7.mono hbw.size, hbz⟩
  ·as_aux_lemma =>
   intro vs W hS hdep K hK; have hS1 : SEn w w1 E1 E2 [vs 8] vs W := hS; obtain ⟨hown7, hbz⟩ := hS1; refine ⟨?_⟩; simp only [Act.put, sA, sB, sC, Nat.zero_add, Nat.reduceAdd] at hK ⊢; go_simp; with_reducible refine hK _ _ ?_
   exact ⟨rfl, hown7, hbz⟩
 ·intro vs W hS _; have hS2 : SEn w w1 E1 E2 [vs 8, vs 9] vs W := hS; obtain ⟨e9, hown, hbe⟩ := hS2; obtain ⟨Y, HY⟩ : ∃ Y, Hid (Y = E1 ++ E2) := ⟨_, rfl⟩; rw [← HY.out] at hown; obtain ⟨A9, c9, e8⟩ := hown.shp; rw [e8] at hown e9; have HO := Lib.hid hown; clear hS hown; simp only [Act.put, sA, sB, sC, Nat.zero_add, Nat.reduceAdd, e8, e9]; go_wp2_with fail; go_ret; exact ⟨_, rfl, by rw [← HY.out]; exact HO.out, hbe⟩
end Go.Proofs.YtmbfjmilhfmnkaaGreatDoor
namespace Go.Proofs.YtmbfjmilhfmnkaaGreatDoor
open Go Go.RowKit
theorem sameB_refl : ∀ l : List Nat, sameB l l = true := by
 intro l; unfold sameB; simp
theorem rsame_5 (va vb : Value) (x : LP) (w : World) (ha : RtP w va x) (hb : RtP w vb x) : Calls Tryz.prog 12 #[va, vb] w fun e w' => e = .returned (.bool true) ∧ Below w.heap.size w w' := by
 refine (same_any va vb x.1 x.2 x.1 x.2 w ha hb).mono ?_; rintro e w' ⟨b, rfl, HB, h⟩; rw [HB.out]; exact ⟨by unfold sameR; simp [sameB_refl], h⟩
theorem of_5 (n d : Nat) (w : World) (hn : n ≤ 1000) (hd : 0 < d) (hd2 : d ≤ 1000) :
  Calls Tryz.prog 35 #[.int .i64 n, .int .i64 d] w fun e w' => ∃ A k c A' k' c', e = .returned (.tuple #[.agg #[.slice A k c, .slice A' k' c'], .int .i64 0]) ∧ RtP w' (.agg #[.slice A k c, .slice A' k' c']) (redP n d) ∧ Below w.heap.size w w' := by
 refine (of_n n d w (by omega) hd (by omega)).mono ?_; rintro e w' ⟨v, er, rfl, hR, hb⟩; obtain ⟨rfl, h⟩ := hR.resP; rw [resP_small (b64 (by omega)) (b64 (by omega))] at h ⊢; obtain ⟨A, k, c, A', k', c', rfl⟩ := h.shape; exact ⟨A, k, c, A', k', c', rfl, h, hb⟩
theorem add_5 (va vb : Value) (w : World) (ha : RtP w va (redP 1 6)) (hb : RtP w vb (redP 1 10)) : Calls Tryz.prog 36 #[va, vb] w fun e w' => ∃ A k c A' k' c', e = .returned (.tuple #[.agg #[.slice A k c, .slice A' k' c'], .int .i64 0]) ∧ RtP w' (.agg #[.slice A k c, .slice A' k' c']) (redP 4 15) ∧ Below w.heap.size w w' := by
 have h := add_F va vb (redP 1 6) (redP 1 10) w ha hb; rw [l5_add.1] at h; rw [show (addF (redP 1 6) (redP 1 10)).2 = redP 4 15 from l5_add.2] at h; refine h.mono ?_; rintro e w' ⟨v, rfl, h, hb⟩; obtain ⟨A, k, c, A', k', c', rfl⟩ := h.shape; exact ⟨A, k, c, A', k', c', rfl, h, hb⟩
theorem sub_5 (va vb : Value) (w : World) (ha : RtP w va (redP 1 6)) (hb : RtP w vb (redP 1 10)) : Calls Tryz.prog 37 #[va, vb] w fun e w' => ∃ A k c A' k' c', e = .returned (.tuple #[.agg #[.slice A k c, .slice A' k' c'], .int .i64 0]) ∧ RtP w' (.agg #[.slice A k c, .slice A' k' c']) (redP 1 15) ∧ Below w.heap.size w w' := by
 have h := sub_F va vb (redP 1 6) (redP 1 10) w ha hb; rw [l5_sub.1] at h; rw [show (subF (redP 1 6) (redP 1 10)).2 = redP 1 15 from l5_sub.2] at h; refine h.mono ?_; rintro e w' ⟨v, rfl, h, hb⟩; obtain ⟨A, k, c, A', k', c', rfl⟩ := h.shape; exact ⟨A, k, c, A', k', c', rfl, h, hb⟩
theorem less_5 (va vb : Value) (w : World) (ha : RtP w va (redP 1 10)) (hb : RtP w vb (redP 1 6)) : Calls Tryz.prog 37 #[va, vb] w fun e w' => ∃ A k c A' k' c', e = .returned (.tuple #[.agg #[.slice A k c, .slice A' k' c'], .int .i64 5]) ∧ RtP w' (.agg #[.slice A k c, .slice A' k' c']) (nilP) ∧ Below w.heap.size w w' := by
 have h := sub_F va vb (redP 1 10) (redP 1 6) w ha hb; rw [l5_less] at h; refine h.mono ?_; rintro e w' ⟨v, rfl, h, hb⟩; obtain ⟨A, k, c, A', k', c', rfl⟩ := h.shape; exact ⟨A, k, c, A', k', c', rfl, h, hb⟩
theorem div_5 (va vb : Value) (w : World) (ha : RtP w va (redP 2 1)) (hb : RtP w vb (nilP)) : Calls Tryz.prog 38 #[va, vb] w fun e w' => ∃ A k c A' k' c', e = .returned (.tuple #[.agg #[.slice A k c, .slice A' k' c'], .int .i64 5]) ∧ RtP w' (.agg #[.slice A k c, .slice A' k' c']) (nilP) ∧ Below w.heap.size w w' := by
 have h := div_F va vb (redP 2 1) (nilP) w ha hb; rw [l5_div] at h; refine h.mono ?_; rintro e w' ⟨v, rfl, h, hb⟩; obtain ⟨A, k, c, A', k', c', rfl⟩ := h.shape; exact ⟨A, k, c, A', k', c', rfl, h, hb⟩
theorem sim_5a (va vb : Value) (w : World) (ha : RtP w va (ratP 1 3)) (hb : RtP w vb (ratP 3 7)) : Calls Tryz.prog 41 #[va, vb] w fun e w' => ∃ A k c A' k' c', e = .returned (.tuple #[.agg #[.slice A k c, .slice A' k' c'], .int .i64 0]) ∧ RtP w' (.agg #[.slice A k c, .slice A' k' c']) (redP 1 3) ∧ Below w.heap.size w w' := by
 have h := simplest_F va vb (ratP 1 3) (ratP 3 7) w ha hb; rw [l5_sim1] at h; refine h.mono ?_; rintro e w' ⟨v, rfl, h, hb⟩; obtain ⟨A, k, c, A', k', c', rfl⟩ := h.shape; exact ⟨A, k, c, A', k', c', rfl, h, hb⟩
theorem sim_5b (va vb : Value) (w : World) (ha : RtP w va (ratP 5 2)) (hb : RtP w vb (ratP 7 2)) : Calls Tryz.prog 41 #[va, vb] w fun e w' => ∃ A k c A' k' c', e = .returned (.tuple #[.agg #[.slice A k c, .slice A' k' c'], .int .i64 0]) ∧ RtP w' (.agg #[.slice A k c, .slice A' k' c']) (redP 3 1) ∧ Below w.heap.size w w' := by
 have h := simplest_F va vb (ratP 5 2) (ratP 7 2) w ha hb; rw [l5_sim2] at h; refine h.mono ?_; rintro e w' ⟨v, rfl, h, hb⟩; obtain ⟨A, k, c, A', k', c', rfl⟩ := h.shape; exact ⟨A, k, c, A', k', c', rfl, h, hb⟩
theorem RtP.rat5 {w : World} {v : Value} {p q : Nat} (h : RtP w v (ratP p q)) : Rat w v p q := by
 obtain ⟨A1, k1, c1, A2, k2, c2, rfl, h1, h2, e1, e2⟩ := h; exact ⟨_, _, _, _, _, _, rfl, ⟨e1, h1⟩, ⟨e2, h2⟩⟩
theorem Nb.digG (w : World) (d : Nat) (x : Int) (g : Nat) (hg : g = w.heap.size) (hx : x = (d : Int)) (h0 : 0 < d) (h : d < 4294967296) : Nb (w.alloc (.cells #[.int .u32 x] 56)) (some ⟨g, 0, none⟩) 1 1 d := by
 subst hg hx; exact Nb.dig w d h0 h
theorem four5 (w : World) (a b c d : Nat) (x y z u : Int) (hx : x = (a : Int)) (hy : y = (b : Int)) (hz : z = (c : Int)) (hu : u = (d : Int)) (ha : 0 < a ∧ a < 1000) (hb : 1 < b ∧ b < 1000) (hc : 0 < c ∧ c < 1000) (hd : 1 < d ∧ d < 1000) :
  RtP ((((w.alloc (.cells #[.int .u32 x] 56)).alloc (.cells #[.int .u32 y] 56)).alloc (.cells #[.int .u32 z] 56)).alloc (.cells #[.int .u32 u] 56)) (.agg #[.slice (some ⟨w.heap.size, 0, none⟩) 1 1, .slice (some ⟨w.heap.size + 1, 0, none⟩) 1 1]) (ratP a b) ∧
  RtP ((((w.alloc (.cells #[.int .u32 x] 56)).alloc (.cells #[.int .u32 y] 56)).alloc (.cells #[.int .u32 z] 56)).alloc (.cells #[.int .u32 u] 56)) (.agg #[.slice (some ⟨w.heap.size + 1 + 1, 0, none⟩) 1 1, .slice (some ⟨w.heap.size + 1 + 1 + 1, 0, none⟩) 1 1]) (ratP c d) := by
 have n1 := ((((Nb.digG w a x _ rfl hx ha.1 (by omega)).below (bA _ (.cells #[.int .u32 y] 56))).below (bA _ (.cells #[.int .u32 z] 56))).below (bA _ (.cells #[.int .u32 u] 56))); have n2 := (((Nb.digG (w.alloc (.cells #[.int .u32 x] 56)) b y (w.heap.size + 1) (by simp) hy (by omega) (by omega)).below (bA _ (.cells #[.int .u32 z] 56))).below (bA _ (.cells #[.int .u32 u] 56))); have n3 := ((Nb.digG ((w.alloc (.cells #[.int .u32 x] 56)).alloc (.cells #[.int .u32 y] 56)) c z (w.heap.size + 1 + 1) (by simp) hz hc.1 (by omega)).below (bA _ (.cells #[.int .u32 u] 56))); have n4 := (Nb.digG (((w.alloc (.cells #[.int .u32 x] 56)).alloc (.cells #[.int .u32 y] 56)).alloc (.cells #[.int .u32 z] 56)) d u (w.heap.size + 1 + 1 + 1) (by simp) hu (by omega) (by omega)); have e1 : Nm.dn b = b := Nm.dn_ne (by omega); have e2 : Nm.dn d = d := Nm.dn_ne (by omega); refine ⟨⟨_, _, _, _, _, _, rfl, n1.2, ?_, n1.1, ?_⟩, ⟨_, _, _, _, _, _, rfl, n3.2, ?_, n3.1, ?_⟩⟩
 ·show Lim _ _ _ (Nm.lb (Nm.dn b)); rw [e1]; exact n2.2
 ·show 1 = (Nm.lb (Nm.dn b)).length; rw [e1]; exact n2.1
 ·show Lim _ _ _ (Nm.lb (Nm.dn d)); rw [e2]; exact n4.2
 ·show 1 = (Nm.lb (Nm.dn d)).length; rw [e2]; exact n4.1
theorem pow_half_good : Nm.Good 1 4294967296 := good5 (by omega) (by omega) (by omega) (by decide)
theorem pow_5a (va : Value) (w : World) (ha : Rat w va 1 2) : Calls Tryz.prog 40 #[va, .int .i64 32] w fun e w' => ∃ A k c A' k' c', e = .returned (.tuple #[.agg #[.slice A k c, .slice A' k' c'], .int .i64 0]) ∧ Rat w' (.agg #[.slice A k c, .slice A' k' c']) 1 4294967296 ∧ Below w.heap.size w w' := by
 refine (power_G va 1 2 32 w ha g12 (by omega)).mono ?_; rintro e w' ⟨v, er, rfl, hp, hb⟩; obtain ⟨rfl, hr, _⟩ := pow_half hp; obtain ⟨A, k, c, A', k', c', rfl⟩ := hr.shape; exact ⟨A, k, c, A', k', c', rfl, hr, hb⟩
theorem pow_5b (va : Value) (w : World) (ha : RtP w va (redP 2 1)) : Calls Tryz.prog 40 #[va, .int .i64 2047] w fun e w' => ∃ A k c A' k' c', e = .returned (.tuple #[.agg #[.slice A k c, .slice A' k' c'], .int .i64 0]) ∧ Below w.heap.size w w' := by
 rw [redP_good g21] at ha; refine (power_G va 2 1 2047 w ha.rat5 g21 (by omega)).mono ?_; rintro e w' ⟨v, er, rfl, hp, hb⟩; obtain ⟨rfl, x, hr⟩ := pow_ok (Nat.le_refl _) hp; obtain ⟨A, k, c, A', k', c', rfl⟩ := hr.shape; exact ⟨A, k, c, A', k', c', rfl, hb⟩
theorem pow_5c (va : Value) (w : World) (ha : RtP w va (redP 2 1)) : Calls Tryz.prog 40 #[va, .int .i64 2048] w fun e w' => ∃ A k c A' k' c', e = .returned (.tuple #[.agg #[.slice A k c, .slice A' k' c'], .int .i64 4]) ∧ Below w.heap.size w w' := by
 rw [redP_good g21] at ha; refine (power_G va 2 1 2048 w ha.rat5 g21 (by omega)).mono ?_; rintro e w' ⟨v, er, rfl, hp, hb⟩; obtain ⟨rfl, x, hr⟩ := pow_big rfl hp; obtain ⟨A, k, c, A', k', c', rfl⟩ := hr.shape; exact ⟨A, k, c, A', k', c', rfl, hb⟩
theorem par_5a (w : World) : Calls Tryz.prog 19 #[.string { data := #[50, 47, 52] }] w fun e w' => ∃ A k c A' k' c', e = .returned (.tuple #[.agg #[.slice A k c, .slice A' k' c'], .int .i64 1]) ∧ Below w.heap.size w w' := by
 have h := parse_F { data := #[50, 47, 52] } w (by decide); rw [l5_parse1] at h; refine h.mono ?_; rintro e w' ⟨v, rfl, h, hb⟩; obtain ⟨A, k, c, A', k', c', rfl⟩ := h.shape; exact ⟨A, k, c, A', k', c', rfl, hb⟩
theorem par_5b (w : World) : Calls Tryz.prog 19 #[.string { data := #[48, 50] }] w fun e w' => ∃ A k c A' k' c', e = .returned (.tuple #[.agg #[.slice A k c, .slice A' k' c'], .int .i64 2]) ∧ Below w.heap.size w w' := by
 have h := parse_F { data := #[48, 50] } w (by decide); rw [l5_parse2] at h; refine h.mono ?_; rintro e w' ⟨v, rfl, h, hb⟩; obtain ⟨A, k, c, A', k', c', rfl⟩ := h.shape; exact ⟨A, k, c, A', k', c', rfl, hb⟩
theorem par_5c (w : World) : Calls Tryz.prog 19 #[.string { data := #[51, 47, 49] }] w fun e w' => ∃ A k c A' k' c', e = .returned (.tuple #[.agg #[.slice A k c, .slice A' k' c'], .int .i64 1]) ∧ Below w.heap.size w w' := by
 have h := parse_F { data := #[51, 47, 49] } w (by decide); rw [l5_parse3] at h; refine h.mono ?_; rintro e w' ⟨v, rfl, h, hb⟩; obtain ⟨A, k, c, A', k', c', rfl⟩ := h.shape; exact ⟨A, k, c, A', k', c', rfl, hb⟩
set_option maxRecDepth 10000 in
set_option maxHeartbeats 1000000 in
theorem is_5 (va : Value) (n d : Nat) (w : World) (hv : RtP w va (redP n d)) (hn : n ≤ 1000) (hd : 0 < d) (hd2 : d ≤ 1000) :
  Calls Tryz.prog 39 #[va, .int .i64 0, .int .i64 n, .int .i64 d] w fun e w' => e = .returned (.bool true) ∧ Below w.heap.size w w' := by
 obtain ⟨A1, k1, c1, A2, k2, c2, rfl⟩ := hv.shape
 go_enter Tryz.func39, Tryz.ntmps39
 go_upto_region 1 with fail; refine wp_name ?_; intro w1 HW1; have hb1 : Below w.heap.size w w1 := by rw [HW1.out]; exact bA _ _
 have hB1 : Blk w1 w.heap.size 29 #[.slice A1 k1 c1, .slice A2 k2 c2] := by rw [HW1.out]; exact Blk.new _ _ _
 obtain ⟨g, hg⟩ : ∃ g, Hid (g = w.heap.size) := ⟨_, rfl⟩; rw [← hg.out] at hB1 ⊢; have b0 := hB1.cell 0; have b1 := hB1.cell 1; simp only [List.getElem?_toArray, List.getElem?_cons_zero, List.getElem?_cons_succ] at b0 b1; have hv := hv.below hb1; clear HW1 hB1 hg; go_wp2_with fail; refine (rof_s n d _ (by omega) hd (by omega)).mono ?_; rintro e w2 ⟨C1, m1, d1, C2, m2, d2, rfl, hr, hb2⟩; have hr := hr.1.rtP; have hv := hv.below hb2; have b0 := cell_keep hb2 b0; have b1 := cell_keep hb2 b1; have hbw := Below.tr hb1 hb2; clear hb1 hb2; go_upto_region 2 with fail; refine wp_name ?_; intro w3 HW3; have hb3 : Below w2.heap.size w2 w3 := by rw [HW3.out]; exact bA _ _
 have hB3 : Blk w3 w2.heap.size 29 #[.slice C1 m1 d1, .slice C2 m2 d2] := by rw [HW3.out]; exact Blk.new _ _ _
 have p0 := hB3.cell 0; have p1 := hB3.cell 1; simp only [List.getElem?_toArray, List.getElem?_cons_zero, List.getElem?_cons_succ] at p0 p1; have hr := hr.below hb3; have hv := hv.below hb3; have b0 := cell_keep hb3 b0; have b1 := cell_keep hb3 b1; have hbw := Below.tr hbw hb3; clear HW3 hB3 hb3; go_wp2_with fail; refine (rsame_5 _ _ (redP n d) _ hv hr).mono ?_; rintro e w4 ⟨rfl, hb4⟩; go_wp2_with fail; go_ret; exact ⟨rfl, Below.tr hbw hb4⟩
end Go.Proofs.YtmbfjmilhfmnkaaGreatDoor
namespace Go.Proofs.YtmbfjmilhfmnkaaGreatDoor
open Go Go.RowKit
set_option maxRecDepth 100000 in
set_option maxHeartbeats 8000000 in
theorem lives5_n (w : World) : Calls Tryz.prog 13 #[] w fun e w' => e = .returned (.bool true) ∧ Below w.heap.size w w' := by
 go_enter Tryz.func13, Tryz.ntmps13
 have hbw : Below w.heap.size w w := Below.refl _ _; go_wp2_with fail; refine (of_5 6 4 _ (by omega) (by omega) (by omega)).mono ?_; rintro e w1 ⟨Sga, kga, cga, Rga, mga, dga, rfl, hga, hb⟩
 replace hbw := Below.tr hbw hb
 clear hb; go_upto_region 2 with fail; refine wp_name ?_; intro w2 HW; have hb : Below w1.heap.size w1 w2 := by rw [HW.out]; exact bA _ _
 have hB : Blk w2 w1.heap.size 29 #[.slice Sga kga cga, .slice Rga mga dga] := by rw [HW.out]; exact Blk.new _ _ _
 obtain ⟨ga, hg⟩ : ∃ g, Hid (g = w1.heap.size) := ⟨_, rfl⟩; rw [← hg.out] at hB ⊢
 replace hbw := Below.tr hbw hb
 replace hga := hga.below hb
 have ga0 := hB.cell 0; have ga1 := hB.cell 1; simp only [List.getElem?_toArray, List.getElem?_cons_zero, List.getElem?_cons_succ] at ga0 ga1; clear HW hB hg hb; go_wp2_with fail; refine (of_5 4 2 _ (by omega) (by omega) (by omega)).mono ?_; rintro e w3 ⟨Sgb, kgb, cgb, Rgb, mgb, dgb, rfl, hgb, hb⟩
 replace ga0 := cell_keep hb ga0
 replace ga1 := cell_keep hb ga1
 replace hga := hga.below hb
 replace hbw := Below.tr hbw hb
 clear hb; go_upto_region 3 with fail; refine wp_name ?_; intro w4 HW; have hb : Below w3.heap.size w3 w4 := by rw [HW.out]; exact bA _ _
 have hB : Blk w4 w3.heap.size 29 #[.slice Sgb kgb cgb, .slice Rgb mgb dgb] := by rw [HW.out]; exact Blk.new _ _ _
 obtain ⟨gb, hg⟩ : ∃ g, Hid (g = w3.heap.size) := ⟨_, rfl⟩; rw [← hg.out] at hB ⊢
 replace ga0 := cell_keep hb ga0
 replace ga1 := cell_keep hb ga1
 replace hga := hga.below hb
 replace hbw := Below.tr hbw hb
 replace hgb := hgb.below hb
 have gb0 := hB.cell 0; have gb1 := hB.cell 1; simp only [List.getElem?_toArray, List.getElem?_cons_zero, List.getElem?_cons_succ] at gb0 gb1; clear HW hB hg hb; go_wp2_with fail; refine (of_5 1 6 _ (by omega) (by omega) (by omega)).mono ?_; rintro e w5 ⟨Sgc, kgc, cgc, Rgc, mgc, dgc, rfl, hgc, hb⟩
 replace ga0 := cell_keep hb ga0
 replace ga1 := cell_keep hb ga1
 replace hga := hga.below hb
 replace gb0 := cell_keep hb gb0
 replace gb1 := cell_keep hb gb1
 replace hgb := hgb.below hb
 replace hbw := Below.tr hbw hb
 clear hb; go_upto_region 4 with fail; refine wp_name ?_; intro w6 HW; have hb : Below w5.heap.size w5 w6 := by rw [HW.out]; exact bA _ _
 have hB : Blk w6 w5.heap.size 29 #[.slice Sgc kgc cgc, .slice Rgc mgc dgc] := by rw [HW.out]; exact Blk.new _ _ _
 obtain ⟨gc, hg⟩ : ∃ g, Hid (g = w5.heap.size) := ⟨_, rfl⟩; rw [← hg.out] at hB ⊢
 replace ga0 := cell_keep hb ga0
 replace ga1 := cell_keep hb ga1
 replace hga := hga.below hb
 replace gb0 := cell_keep hb gb0
 replace gb1 := cell_keep hb gb1
 replace hgb := hgb.below hb
 replace hbw := Below.tr hbw hb
 replace hgc := hgc.below hb
 have gc0 := hB.cell 0; have gc1 := hB.cell 1; simp only [List.getElem?_toArray, List.getElem?_cons_zero, List.getElem?_cons_succ] at gc0 gc1; clear HW hB hg hb; go_wp2_with fail; refine (of_5 1 10 _ (by omega) (by omega) (by omega)).mono ?_; rintro e w7 ⟨Sgd, kgd, cgd, Rgd, mgd, dgd, rfl, hgd, hb⟩
 replace ga0 := cell_keep hb ga0
 replace ga1 := cell_keep hb ga1
 replace hga := hga.below hb
 replace gb0 := cell_keep hb gb0
 replace gb1 := cell_keep hb gb1
 replace hgb := hgb.below hb
 replace gc0 := cell_keep hb gc0
 replace gc1 := cell_keep hb gc1
 replace hgc := hgc.below hb
 replace hbw := Below.tr hbw hb
 clear hb; go_upto_region 5 with fail; refine wp_name ?_; intro w8 HW; have hb : Below w7.heap.size w7 w8 := by rw [HW.out]; exact bA _ _
 have hB : Blk w8 w7.heap.size 29 #[.slice Sgd kgd cgd, .slice Rgd mgd dgd] := by rw [HW.out]; exact Blk.new _ _ _
 obtain ⟨gd, hg⟩ : ∃ g, Hid (g = w7.heap.size) := ⟨_, rfl⟩; rw [← hg.out] at hB ⊢
 replace ga0 := cell_keep hb ga0
 replace ga1 := cell_keep hb ga1
 replace hga := hga.below hb
 replace gb0 := cell_keep hb gb0
 replace gb1 := cell_keep hb gb1
 replace hgb := hgb.below hb
 replace gc0 := cell_keep hb gc0
 replace gc1 := cell_keep hb gc1
 replace hgc := hgc.below hb
 replace hbw := Below.tr hbw hb
 replace hgd := hgd.below hb
 have gd0 := hB.cell 0; have gd1 := hB.cell 1; simp only [List.getElem?_toArray, List.getElem?_cons_zero, List.getElem?_cons_succ] at gd0 gd1; clear HW hB hg hb; rw [l5_half] at hga; rw [l5_two] at hgb; go_wp2_with fail; refine (add_5 _ _ _ hgc hgd).mono ?_; rintro e w9 ⟨Sge, kge, cge, Rge, mge, dge, rfl, hge, hb⟩
 replace ga0 := cell_keep hb ga0
 replace ga1 := cell_keep hb ga1
 replace hga := hga.below hb
 replace gb0 := cell_keep hb gb0
 replace gb1 := cell_keep hb gb1
 replace hgb := hgb.below hb
 replace gc0 := cell_keep hb gc0
 replace gc1 := cell_keep hb gc1
 replace hgc := hgc.below hb
 replace gd0 := cell_keep hb gd0
 replace gd1 := cell_keep hb gd1
 replace hgd := hgd.below hb
 replace hbw := Below.tr hbw hb
 clear hb; go_upto_region 6 with fail; refine wp_name ?_; intro w10 HW; have hb : Below w9.heap.size w9 w10 := by rw [HW.out]; exact bA _ _
 have hB : Blk w10 w9.heap.size 29 #[.slice Sge kge cge, .slice Rge mge dge] := by rw [HW.out]; exact Blk.new _ _ _
 obtain ⟨ge, hg⟩ : ∃ g, Hid (g = w9.heap.size) := ⟨_, rfl⟩; rw [← hg.out] at hB ⊢
 replace ga0 := cell_keep hb ga0
 replace ga1 := cell_keep hb ga1
 replace hga := hga.below hb
 replace gb0 := cell_keep hb gb0
 replace gb1 := cell_keep hb gb1
 replace hgb := hgb.below hb
 replace gc0 := cell_keep hb gc0
 replace gc1 := cell_keep hb gc1
 replace hgc := hgc.below hb
 replace gd0 := cell_keep hb gd0
 replace gd1 := cell_keep hb gd1
 replace hgd := hgd.below hb
 replace hbw := Below.tr hbw hb
 replace hge := hge.below hb
 have ge0 := hB.cell 0; have ge1 := hB.cell 1; simp only [List.getElem?_toArray, List.getElem?_cons_zero, List.getElem?_cons_succ] at ge0 ge1; clear HW hB hg hb; go_wp2_with fail; refine (sub_5 _ _ _ hgc hgd).mono ?_; rintro e w11 ⟨Sgf, kgf, cgf, Rgf, mgf, dgf, rfl, hgf, hb⟩
 replace ga0 := cell_keep hb ga0
 replace ga1 := cell_keep hb ga1
 replace hga := hga.below hb
 replace gb0 := cell_keep hb gb0
 replace gb1 := cell_keep hb gb1
 replace hgb := hgb.below hb
 replace gc0 := cell_keep hb gc0
 replace gc1 := cell_keep hb gc1
 replace hgc := hgc.below hb
 replace gd0 := cell_keep hb gd0
 replace gd1 := cell_keep hb gd1
 replace hgd := hgd.below hb
 replace ge0 := cell_keep hb ge0
 replace ge1 := cell_keep hb ge1
 replace hge := hge.below hb
 replace hbw := Below.tr hbw hb
 clear hb; go_upto_region 7 with fail; refine wp_name ?_; intro w12 HW; have hb : Below w11.heap.size w11 w12 := by rw [HW.out]; exact bA _ _
 have hB : Blk w12 w11.heap.size 29 #[.slice Sgf kgf cgf, .slice Rgf mgf dgf] := by rw [HW.out]; exact Blk.new _ _ _
 obtain ⟨gf, hg⟩ : ∃ g, Hid (g = w11.heap.size) := ⟨_, rfl⟩; rw [← hg.out] at hB ⊢
 replace ga0 := cell_keep hb ga0
 replace ga1 := cell_keep hb ga1
 replace hga := hga.below hb
 replace gb0 := cell_keep hb gb0
 replace gb1 := cell_keep hb gb1
 replace hgb := hgb.below hb
 replace gc0 := cell_keep hb gc0
 replace gc1 := cell_keep hb gc1
 replace hgc := hgc.below hb
 replace gd0 := cell_keep hb gd0
 replace gd1 := cell_keep hb gd1
 replace hgd := hgd.below hb
 replace ge0 := cell_keep hb ge0
 replace ge1 := cell_keep hb ge1
 replace hge := hge.below hb
 replace hbw := Below.tr hbw hb
 replace hgf := hgf.below hb
 have gf0 := hB.cell 0; have gf1 := hB.cell 1; simp only [List.getElem?_toArray, List.getElem?_cons_zero, List.getElem?_cons_succ] at gf0 gf1; clear HW hB hg hb; go_wp2_with fail; refine (less_5 _ _ _ hgd hgc).mono ?_; rintro e w13 ⟨Sgg, kgg, cgg, Rgg, mgg, dgg, rfl, hgg, hb⟩
 replace ga0 := cell_keep hb ga0
 replace ga1 := cell_keep hb ga1
 replace hga := hga.below hb
 replace gb0 := cell_keep hb gb0
 replace gb1 := cell_keep hb gb1
 replace hgb := hgb.below hb
 replace gc0 := cell_keep hb gc0
 replace gc1 := cell_keep hb gc1
 replace hgc := hgc.below hb
 replace gd0 := cell_keep hb gd0
 replace gd1 := cell_keep hb gd1
 replace hgd := hgd.below hb
 replace ge0 := cell_keep hb ge0
 replace ge1 := cell_keep hb ge1
 replace hge := hge.below hb
 replace gf0 := cell_keep hb gf0
 replace gf1 := cell_keep hb gf1
 replace hgf := hgf.below hb
 replace hbw := Below.tr hbw hb
 clear hb; go_upto_region 8 with fail; refine wp_name ?_; intro w14 HW; have hb : Below w13.heap.size w13 w14 := by rw [HW.out]; exact bA _ _
 have hB : Blk w14 w13.heap.size 29 #[.slice Sgg kgg cgg, .slice Rgg mgg dgg] := by rw [HW.out]; exact Blk.new _ _ _
 obtain ⟨gg, hg⟩ : ∃ g, Hid (g = w13.heap.size) := ⟨_, rfl⟩; rw [← hg.out] at hB ⊢
 replace ga0 := cell_keep hb ga0
 replace ga1 := cell_keep hb ga1
 replace hga := hga.below hb
 replace gb0 := cell_keep hb gb0
 replace gb1 := cell_keep hb gb1
 replace hgb := hgb.below hb
 replace gc0 := cell_keep hb gc0
 replace gc1 := cell_keep hb gc1
 replace hgc := hgc.below hb
 replace gd0 := cell_keep hb gd0
 replace gd1 := cell_keep hb gd1
 replace hgd := hgd.below hb
 replace ge0 := cell_keep hb ge0
 replace ge1 := cell_keep hb ge1
 replace hge := hge.below hb
 replace gf0 := cell_keep hb gf0
 replace gf1 := cell_keep hb gf1
 replace hgf := hgf.below hb
 replace hbw := Below.tr hbw hb
 replace hgg := hgg.below hb
 have gg0 := hB.cell 0; have gg1 := hB.cell 1; simp only [List.getElem?_toArray, List.getElem?_cons_zero, List.getElem?_cons_succ] at gg0 gg1; clear HW hB hg hb; go_wp2_with fail; refine (div_5 _ _ _ hgb (nil_rtP _)).mono ?_; rintro e w15 ⟨Sgh, kgh, cgh, Rgh, mgh, dgh, rfl, hgh, hb⟩
 replace ga0 := cell_keep hb ga0
 replace ga1 := cell_keep hb ga1
 replace hga := hga.below hb
 replace gb0 := cell_keep hb gb0
 replace gb1 := cell_keep hb gb1
 replace hgb := hgb.below hb
 replace gc0 := cell_keep hb gc0
 replace gc1 := cell_keep hb gc1
 replace hgc := hgc.below hb
 replace gd0 := cell_keep hb gd0
 replace gd1 := cell_keep hb gd1
 replace hgd := hgd.below hb
 replace ge0 := cell_keep hb ge0
 replace ge1 := cell_keep hb ge1
 replace hge := hge.below hb
 replace gf0 := cell_keep hb gf0
 replace gf1 := cell_keep hb gf1
 replace hgf := hgf.below hb
 replace gg0 := cell_keep hb gg0
 replace gg1 := cell_keep hb gg1
 replace hgg := hgg.below hb
 replace hbw := Below.tr hbw hb
 clear hb; go_upto_region 9 with fail; refine wp_name ?_; intro w16 HW; have hb : Below w15.heap.size w15 w16 := by rw [HW.out]; exact bA _ _
 have hB : Blk w16 w15.heap.size 29 #[.slice Sgh kgh cgh, .slice Rgh mgh dgh] := by rw [HW.out]; exact Blk.new _ _ _
 obtain ⟨gh, hg⟩ : ∃ g, Hid (g = w15.heap.size) := ⟨_, rfl⟩; rw [← hg.out] at hB ⊢
 replace ga0 := cell_keep hb ga0
 replace ga1 := cell_keep hb ga1
 replace hga := hga.below hb
 replace gb0 := cell_keep hb gb0
 replace gb1 := cell_keep hb gb1
 replace hgb := hgb.below hb
 replace gc0 := cell_keep hb gc0
 replace gc1 := cell_keep hb gc1
 replace hgc := hgc.below hb
 replace gd0 := cell_keep hb gd0
 replace gd1 := cell_keep hb gd1
 replace hgd := hgd.below hb
 replace ge0 := cell_keep hb ge0
 replace ge1 := cell_keep hb ge1
 replace hge := hge.below hb
 replace gf0 := cell_keep hb gf0
 replace gf1 := cell_keep hb gf1
 replace hgf := hgf.below hb
 replace gg0 := cell_keep hb gg0
 replace gg1 := cell_keep hb gg1
 replace hgg := hgg.below hb
 replace hbw := Below.tr hbw hb
 replace hgh := hgh.below hb
 have gh0 := hB.cell 0; have gh1 := hB.cell 1; simp only [List.getElem?_toArray, List.getElem?_cons_zero, List.getElem?_cons_succ] at gh0 gh1; clear HW hB hg hb
 have hm0 : mgb = 0 := by
  obtain ⟨_, _, _, _, _, _, e1, _, _, _, e2⟩ := hgb; simp only [Value.agg.injEq, Array.mk.injEq, List.cons.injEq, and_true, Value.slice.injEq] at e1; obtain ⟨_, _, h, _⟩ := e1; rw [h, e2, l5_den]; rfl
 subst hm0; go_wp2_with fail; refine (is_5 _ 3 2 _ hga (by omega) (by omega) (by omega)).mono ?_; rintro e w17 ⟨rfl, hb⟩
 replace ga0 := cell_keep hb ga0
 replace ga1 := cell_keep hb ga1
 replace hga := hga.below hb
 replace gb0 := cell_keep hb gb0
 replace gb1 := cell_keep hb gb1
 replace hgb := hgb.below hb
 replace gc0 := cell_keep hb gc0
 replace gc1 := cell_keep hb gc1
 replace hgc := hgc.below hb
 replace gd0 := cell_keep hb gd0
 replace gd1 := cell_keep hb gd1
 replace hgd := hgd.below hb
 replace ge0 := cell_keep hb ge0
 replace ge1 := cell_keep hb ge1
 replace hge := hge.below hb
 replace gf0 := cell_keep hb gf0
 replace gf1 := cell_keep hb gf1
 replace hgf := hgf.below hb
 replace gg0 := cell_keep hb gg0
 replace gg1 := cell_keep hb gg1
 replace hgg := hgg.below hb
 replace gh0 := cell_keep hb gh0
 replace gh1 := cell_keep hb gh1
 replace hgh := hgh.below hb
 replace hbw := Below.tr hbw hb
 clear hb; go_wp2_with fail; refine (is_5 _ 2 1 _ hgb (by omega) (by omega) (by omega)).mono ?_; rintro e w18 ⟨rfl, hb⟩
 replace ga0 := cell_keep hb ga0
 replace ga1 := cell_keep hb ga1
 replace hga := hga.below hb
 replace gb0 := cell_keep hb gb0
 replace gb1 := cell_keep hb gb1
 replace hgb := hgb.below hb
 replace gc0 := cell_keep hb gc0
 replace gc1 := cell_keep hb gc1
 replace hgc := hgc.below hb
 replace gd0 := cell_keep hb gd0
 replace gd1 := cell_keep hb gd1
 replace hgd := hgd.below hb
 replace ge0 := cell_keep hb ge0
 replace ge1 := cell_keep hb ge1
 replace hge := hge.below hb
 replace gf0 := cell_keep hb gf0
 replace gf1 := cell_keep hb gf1
 replace hgf := hgf.below hb
 replace gg0 := cell_keep hb gg0
 replace gg1 := cell_keep hb gg1
 replace hgg := hgg.below hb
 replace gh0 := cell_keep hb gh0
 replace gh1 := cell_keep hb gh1
 replace hgh := hgh.below hb
 replace hbw := Below.tr hbw hb
 clear hb; go_wp2_with fail; refine (is_5 _ 4 15 _ hge (by omega) (by omega) (by omega)).mono ?_; rintro e w19 ⟨rfl, hb⟩
 replace ga0 := cell_keep hb ga0
 replace ga1 := cell_keep hb ga1
 replace hga := hga.below hb
 replace gb0 := cell_keep hb gb0
 replace gb1 := cell_keep hb gb1
 replace hgb := hgb.below hb
 replace gc0 := cell_keep hb gc0
 replace gc1 := cell_keep hb gc1
 replace hgc := hgc.below hb
 replace gd0 := cell_keep hb gd0
 replace gd1 := cell_keep hb gd1
 replace hgd := hgd.below hb
 replace ge0 := cell_keep hb ge0
 replace ge1 := cell_keep hb ge1
 replace hge := hge.below hb
 replace gf0 := cell_keep hb gf0
 replace gf1 := cell_keep hb gf1
 replace hgf := hgf.below hb
 replace gg0 := cell_keep hb gg0
 replace gg1 := cell_keep hb gg1
 replace hgg := hgg.below hb
 replace gh0 := cell_keep hb gh0
 replace gh1 := cell_keep hb gh1
 replace hgh := hgh.below hb
 replace hbw := Below.tr hbw hb
 clear hb; go_wp2_with fail; refine (is_5 _ 1 15 _ hgf (by omega) (by omega) (by omega)).mono ?_; rintro e w20 ⟨rfl, hb⟩
 replace ga0 := cell_keep hb ga0
 replace ga1 := cell_keep hb ga1
 replace hga := hga.below hb
 replace gb0 := cell_keep hb gb0
 replace gb1 := cell_keep hb gb1
 replace hgb := hgb.below hb
 replace gc0 := cell_keep hb gc0
 replace gc1 := cell_keep hb gc1
 replace hgc := hgc.below hb
 replace gd0 := cell_keep hb gd0
 replace gd1 := cell_keep hb gd1
 replace hgd := hgd.below hb
 replace ge0 := cell_keep hb ge0
 replace ge1 := cell_keep hb ge1
 replace hge := hge.below hb
 replace gf0 := cell_keep hb gf0
 replace gf1 := cell_keep hb gf1
 replace hgf := hgf.below hb
 replace gg0 := cell_keep hb gg0
 replace gg1 := cell_keep hb gg1
 replace hgg := hgg.below hb
 replace gh0 := cell_keep hb gh0
 replace gh1 := cell_keep hb gh1
 replace hgh := hgh.below hb
 replace hbw := Below.tr hbw hb
 clear hb; go_upto_region 12 with fail; refine wp_name ?_; intro w21 HW; have hb : Below w20.heap.size w20 w21 := by rw [HW.out]; exact Below.tr (Below.tr (bA _ _) (bA _ _)) (bA _ _)
 have hn1 : Nb w21 (some ⟨w20.heap.size, 0, none⟩) 1 1 1 := by rw [HW.out]; exact ((Nb.digG w20 1 1 _ rfl rfl (by omega) (by omega)).below (bA _ _)).below (bA _ _)
 have hn2 : Nb w21 (some ⟨w20.heap.size + 1, 0, none⟩) 1 1 2 := by rw [HW.out]; exact (Nb.digG _ 2 2 _ (by simp) rfl (by omega) (by omega)).below (bA _ _)
 have hB : Blk w21 (w20.heap.size + 1 + 1) 29 #[.slice (some ⟨w20.heap.size, 0, none⟩) 1 1, .slice (some ⟨w20.heap.size + 1, 0, none⟩) 1 1] := by rw [HW.out]; exact Blk.newH (by simp)
 have hhf : Rat w21 (.agg #[.slice (some ⟨w20.heap.size, 0, none⟩) 1 1, .slice (some ⟨w20.heap.size + 1, 0, none⟩) 1 1]) 1 2 := ⟨_, _, _, _, _, _, rfl, hn1, by rw [Nm.dn_ne (by omega)]; exact hn2⟩; obtain ⟨h1a, hh1⟩ : ∃ g, Hid (g = w20.heap.size) := ⟨_, rfl⟩; obtain ⟨h2a, hh2⟩ : ∃ g, Hid (g = w20.heap.size + 1) := ⟨_, rfl⟩; obtain ⟨gi, hgi⟩ : ∃ g, Hid (g = w20.heap.size + 1 + 1) := ⟨_, rfl⟩; rw [← hgi.out] at hB ⊢; rw [← hh2.out] at hB hhf ⊢; rw [← hh1.out] at hB hhf ⊢
 replace ga0 := cell_keep hb ga0
 replace ga1 := cell_keep hb ga1
 replace hga := hga.below hb
 replace gb0 := cell_keep hb gb0
 replace gb1 := cell_keep hb gb1
 replace hgb := hgb.below hb
 replace gc0 := cell_keep hb gc0
 replace gc1 := cell_keep hb gc1
 replace hgc := hgc.below hb
 replace gd0 := cell_keep hb gd0
 replace gd1 := cell_keep hb gd1
 replace hgd := hgd.below hb
 replace ge0 := cell_keep hb ge0
 replace ge1 := cell_keep hb ge1
 replace hge := hge.below hb
 replace gf0 := cell_keep hb gf0
 replace gf1 := cell_keep hb gf1
 replace hgf := hgf.below hb
 replace gg0 := cell_keep hb gg0
 replace gg1 := cell_keep hb gg1
 replace hgg := hgg.below hb
 replace gh0 := cell_keep hb gh0
 replace gh1 := cell_keep hb gh1
 replace hgh := hgh.below hb
 replace hbw := Below.tr hbw hb
 have gi0 := hB.cell 0; have gi1 := hB.cell 1; simp only [List.getElem?_toArray, List.getElem?_cons_zero, List.getElem?_cons_succ] at gi0 gi1; clear HW hn1 hn2 hB hh1 hh2 hgi hb; clear ga0 ga1 hga gc0 gc1 hgc gd0 gd1 hgd ge0 ge1 hge gf0 gf1 hgf gg0 gg1 hgg gh0 gh1 hgh; go_wp2_with fail; refine (pow_5a _ _ hhf).mono ?_; rintro e w22 ⟨Sgj, kgj, cgj, Rgj, mgj, dgj, rfl, hgj, hb⟩
 replace gb0 := cell_keep hb gb0
 replace gb1 := cell_keep hb gb1
 replace hgb := hgb.below hb
 replace hbw := Below.tr hbw hb
 clear hb; go_upto_region 13 with fail; refine wp_name ?_; intro w23 HW; have hb : Below w22.heap.size w22 w23 := by rw [HW.out]; exact bA _ _
 have hB : Blk w23 w22.heap.size 29 #[.slice Sgj kgj cgj, .slice Rgj mgj dgj] := by rw [HW.out]; exact Blk.new _ _ _
 obtain ⟨gj, hg⟩ : ∃ g, Hid (g = w22.heap.size) := ⟨_, rfl⟩; rw [← hg.out] at hB ⊢
 replace gb0 := cell_keep hb gb0
 replace gb1 := cell_keep hb gb1
 replace hgb := hgb.below hb
 replace hbw := Below.tr hbw hb
 replace hgj := hgj.below hb
 have gj0 := hB.cell 0; have gj1 := hB.cell 1; simp only [List.getElem?_toArray, List.getElem?_cons_zero, List.getElem?_cons_succ] at gj0 gj1; clear HW hB hg hb; clear gi0 gi1 hhf; go_wp2_with fail; refine (pow_5b _ _ hgb).mono ?_; rintro e w24 ⟨Sgk, kgk, cgk, Rgk, mgk, dgk, rfl, hb⟩
 replace gb0 := cell_keep hb gb0
 replace gb1 := cell_keep hb gb1
 replace hgb := hgb.below hb
 replace gj0 := cell_keep hb gj0
 replace gj1 := cell_keep hb gj1
 replace hgj := hgj.below hb
 replace hbw := Below.tr hbw hb
 clear hb; go_upto_region 14 with fail; refine wp_name ?_; intro w25 HW; have hb : Below w24.heap.size w24 w25 := by rw [HW.out]; exact bA _ _
 have hB : Blk w25 w24.heap.size 29 #[.slice Sgk kgk cgk, .slice Rgk mgk dgk] := by rw [HW.out]; exact Blk.new _ _ _
 obtain ⟨gk, hg⟩ : ∃ g, Hid (g = w24.heap.size) := ⟨_, rfl⟩; rw [← hg.out] at hB ⊢
 replace gb0 := cell_keep hb gb0
 replace gb1 := cell_keep hb gb1
 replace hgb := hgb.below hb
 replace gj0 := cell_keep hb gj0
 replace gj1 := cell_keep hb gj1
 replace hgj := hgj.below hb
 replace hbw := Below.tr hbw hb
 have gk0 := hB.cell 0; have gk1 := hB.cell 1; simp only [List.getElem?_toArray, List.getElem?_cons_zero, List.getElem?_cons_succ] at gk0 gk1; clear HW hB hg hb; go_wp2_with fail; refine (pow_5c _ _ hgb).mono ?_; rintro e w26 ⟨Sgl, kgl, cgl, Rgl, mgl, dgl, rfl, hb⟩
 replace gb0 := cell_keep hb gb0
 replace gb1 := cell_keep hb gb1
 replace hgb := hgb.below hb
 replace gj0 := cell_keep hb gj0
 replace gj1 := cell_keep hb gj1
 replace hgj := hgj.below hb
 replace gk0 := cell_keep hb gk0
 replace gk1 := cell_keep hb gk1
 replace hbw := Below.tr hbw hb
 clear hb; go_upto_region 15 with fail; refine wp_name ?_; intro w27 HW; have hb : Below w26.heap.size w26 w27 := by rw [HW.out]; exact bA _ _
 have hB : Blk w27 w26.heap.size 29 #[.slice Sgl kgl cgl, .slice Rgl mgl dgl] := by rw [HW.out]; exact Blk.new _ _ _
 obtain ⟨gl, hg⟩ : ∃ g, Hid (g = w26.heap.size) := ⟨_, rfl⟩; rw [← hg.out] at hB ⊢
 replace gb0 := cell_keep hb gb0
 replace gb1 := cell_keep hb gb1
 replace hgb := hgb.below hb
 replace gj0 := cell_keep hb gj0
 replace gj1 := cell_keep hb gj1
 replace hgj := hgj.below hb
 replace gk0 := cell_keep hb gk0
 replace gk1 := cell_keep hb gk1
 replace hbw := Below.tr hbw hb
 have gl0 := hB.cell 0; have gl1 := hB.cell 1; simp only [List.getElem?_toArray, List.getElem?_cons_zero, List.getElem?_cons_succ] at gl0 gl1; clear HW hB hg hb; clear gk0 gk1 gl0 gl1 gb0 gb1 hgb; have gp := (pow_half_good); go_wp2_with fail; refine (print_v _ 1 4294967296 _ hgj gp).mono ?_; rintro e w28 ⟨rfl, hb⟩
 replace gj0 := cell_keep hb gj0
 replace gj1 := cell_keep hb gj1
 replace hgj := hgj.below hb
 replace hbw := Below.tr hbw hb
 clear hb; rw [l5_print]; have hbA := bA w28 (.cells #[.int .u32 0, .int .u32 1] 56); have hl1 := ((hgj.nb.2).below hbA).2; have hk1 := (hgj.nb.2).1; rw [l5_limbs] at hl1 hk1; have hl2 : Lim (w28.alloc (.cells #[.int .u32 0, .int .u32 1] 56)) (some ⟨w28.heap.size, 0, none⟩) 2 [0, 1] := (show Row _ w28.heap.size [0, 1] from ⟨Blk.new _ _ _, fun x hx => by simp at hx; unfold Nm.B; omega⟩).lim (by simp) (by omega); have hbw := Below.tr hbw hbA; go_wp2_with fail; refine (samel_any _ _ 2 _ 2 _ [0, 1] [0, 1] _ hl1 hl2 rfl rfl).mono ?_; rintro e w29 ⟨b, rfl, HB, hb⟩; have hbt : b = true := by rw [HB.out]; exact sameB_refl _
 subst hbt
 replace hbw := Below.tr hbw hb
 clear hb HB hl1 hl2 hk1 hbA gj0 gj1 hgj gp; obtain ⟨q1, q2⟩ := four5 w29 1 3 3 7 1 3 3 7 rfl rfl rfl rfl (by omega) (by omega) (by omega) (by omega); have hb4 : Below w29.heap.size w29 ((((w29.alloc (.cells #[.int .u32 1] 56)).alloc (.cells #[.int .u32 3] 56)).alloc (.cells #[.int .u32 3] 56)).alloc (.cells #[.int .u32 7] 56)) := Below.tr (Below.tr (Below.tr (bA _ _) (bA _ _)) (bA _ _)) (bA _ _)
 replace hbw := Below.tr hbw hb4
 go_wp2_with fail; refine (sim_5a _ _ _ q1 q2).mono ?_; rintro e w30 ⟨Sgm, kgm, cgm, Rgm, mgm, dgm, rfl, hgm, hb⟩
 replace hbw := Below.tr hbw hb
 clear hb hb4 q1 q2; go_upto_region 19 with fail; refine wp_name ?_; intro w31 HW; have hb : Below w30.heap.size w30 w31 := by rw [HW.out]; exact bA _ _
 have hB : Blk w31 w30.heap.size 29 #[.slice Sgm kgm cgm, .slice Rgm mgm dgm] := by rw [HW.out]; exact Blk.new _ _ _
 obtain ⟨gm, hg⟩ : ∃ g, Hid (g = w30.heap.size) := ⟨_, rfl⟩; rw [← hg.out] at hB ⊢
 replace hbw := Below.tr hbw hb
 replace hgm := hgm.below hb
 have gm0 := hB.cell 0; have gm1 := hB.cell 1; simp only [List.getElem?_toArray, List.getElem?_cons_zero, List.getElem?_cons_succ] at gm0 gm1; clear HW hB hg hb; obtain ⟨q1, q2⟩ := four5 w31 5 2 7 2 5 2 7 2 rfl rfl rfl rfl (by omega) (by omega) (by omega) (by omega); have hb4 : Below w31.heap.size w31 ((((w31.alloc (.cells #[.int .u32 5] 56)).alloc (.cells #[.int .u32 2] 56)).alloc (.cells #[.int .u32 7] 56)).alloc (.cells #[.int .u32 2] 56)) := Below.tr (Below.tr (Below.tr (bA _ _) (bA _ _)) (bA _ _)) (bA _ _)
 replace gm0 := cell_keep hb4 gm0
 replace gm1 := cell_keep hb4 gm1
 replace hgm := hgm.below hb4
 replace hbw := Below.tr hbw hb4
 go_wp2_with fail; refine (sim_5b _ _ _ q1 q2).mono ?_; rintro e w32 ⟨Sgn, kgn, cgn, Rgn, mgn, dgn, rfl, hgn, hb⟩
 replace gm0 := cell_keep hb gm0
 replace gm1 := cell_keep hb gm1
 replace hgm := hgm.below hb
 replace hbw := Below.tr hbw hb
 clear hb hb4 q1 q2; go_upto_region 20 with fail; refine wp_name ?_; intro w33 HW; have hb : Below w32.heap.size w32 w33 := by rw [HW.out]; exact bA _ _
 have hB : Blk w33 w32.heap.size 29 #[.slice Sgn kgn cgn, .slice Rgn mgn dgn] := by rw [HW.out]; exact Blk.new _ _ _
 obtain ⟨gn, hg⟩ : ∃ g, Hid (g = w32.heap.size) := ⟨_, rfl⟩; rw [← hg.out] at hB ⊢
 replace gm0 := cell_keep hb gm0
 replace gm1 := cell_keep hb gm1
 replace hgm := hgm.below hb
 replace hbw := Below.tr hbw hb
 replace hgn := hgn.below hb
 have gn0 := hB.cell 0; have gn1 := hB.cell 1; simp only [List.getElem?_toArray, List.getElem?_cons_zero, List.getElem?_cons_succ] at gn0 gn1; clear HW hB hg hb; go_wp2_with fail; refine (par_5a _).mono ?_; rintro e w34 ⟨Sgo, kgo, cgo, Rgo, mgo, dgo, rfl, hb⟩
 replace gm0 := cell_keep hb gm0
 replace gm1 := cell_keep hb gm1
 replace hgm := hgm.below hb
 replace gn0 := cell_keep hb gn0
 replace gn1 := cell_keep hb gn1
 replace hgn := hgn.below hb
 replace hbw := Below.tr hbw hb
 clear hb; go_upto_region 21 with fail; refine wp_name ?_; intro w35 HW; have hb : Below w34.heap.size w34 w35 := by rw [HW.out]; exact bA _ _
 have hB : Blk w35 w34.heap.size 29 #[.slice Sgo kgo cgo, .slice Rgo mgo dgo] := by rw [HW.out]; exact Blk.new _ _ _
 obtain ⟨go, hg⟩ : ∃ g, Hid (g = w34.heap.size) := ⟨_, rfl⟩; rw [← hg.out] at hB ⊢
 replace gm0 := cell_keep hb gm0
 replace gm1 := cell_keep hb gm1
 replace hgm := hgm.below hb
 replace gn0 := cell_keep hb gn0
 replace gn1 := cell_keep hb gn1
 replace hgn := hgn.below hb
 replace hbw := Below.tr hbw hb
 have go0 := hB.cell 0; have go1 := hB.cell 1; simp only [List.getElem?_toArray, List.getElem?_cons_zero, List.getElem?_cons_succ] at go0 go1; clear HW hB hg hb; go_wp2_with fail; refine (par_5b _).mono ?_; rintro e w36 ⟨Sgp, kgp, cgp, Rgp, mgp, dgp, rfl, hb⟩
 replace gm0 := cell_keep hb gm0
 replace gm1 := cell_keep hb gm1
 replace hgm := hgm.below hb
 replace gn0 := cell_keep hb gn0
 replace gn1 := cell_keep hb gn1
 replace hgn := hgn.below hb
 replace hbw := Below.tr hbw hb
 clear hb; go_upto_region 22 with fail; refine wp_name ?_; intro w37 HW; have hb : Below w36.heap.size w36 w37 := by rw [HW.out]; exact bA _ _
 have hB : Blk w37 w36.heap.size 29 #[.slice Sgp kgp cgp, .slice Rgp mgp dgp] := by rw [HW.out]; exact Blk.new _ _ _
 obtain ⟨gp, hg⟩ : ∃ g, Hid (g = w36.heap.size) := ⟨_, rfl⟩; rw [← hg.out] at hB ⊢
 replace gm0 := cell_keep hb gm0
 replace gm1 := cell_keep hb gm1
 replace hgm := hgm.below hb
 replace gn0 := cell_keep hb gn0
 replace gn1 := cell_keep hb gn1
 replace hgn := hgn.below hb
 replace hbw := Below.tr hbw hb
 have gp0 := hB.cell 0; have gp1 := hB.cell 1; simp only [List.getElem?_toArray, List.getElem?_cons_zero, List.getElem?_cons_succ] at gp0 gp1; clear HW hB hg hb; go_wp2_with fail; refine (par_5c _).mono ?_; rintro e w38 ⟨Sgq, kgq, cgq, Rgq, mgq, dgq, rfl, hb⟩
 replace gm0 := cell_keep hb gm0
 replace gm1 := cell_keep hb gm1
 replace hgm := hgm.below hb
 replace gn0 := cell_keep hb gn0
 replace gn1 := cell_keep hb gn1
 replace hgn := hgn.below hb
 replace hbw := Below.tr hbw hb
 clear hb; go_upto_region 23 with fail; refine wp_name ?_; intro w39 HW; have hb : Below w38.heap.size w38 w39 := by rw [HW.out]; exact bA _ _
 have hB : Blk w39 w38.heap.size 29 #[.slice Sgq kgq cgq, .slice Rgq mgq dgq] := by rw [HW.out]; exact Blk.new _ _ _
 obtain ⟨gq, hg⟩ : ∃ g, Hid (g = w38.heap.size) := ⟨_, rfl⟩; rw [← hg.out] at hB ⊢
 replace gm0 := cell_keep hb gm0
 replace gm1 := cell_keep hb gm1
 replace hgm := hgm.below hb
 replace gn0 := cell_keep hb gn0
 replace gn1 := cell_keep hb gn1
 replace hgn := hgn.below hb
 replace hbw := Below.tr hbw hb
 have gq0 := hB.cell 0; have gq1 := hB.cell 1; simp only [List.getElem?_toArray, List.getElem?_cons_zero, List.getElem?_cons_succ] at gq0 gq1; clear HW hB hg hb; go_wp2_with fail; refine (is_5 _ 1 3 _ hgm (by omega) (by omega) (by omega)).mono ?_; rintro e w40 ⟨rfl, hb⟩
 replace gm0 := cell_keep hb gm0
 replace gm1 := cell_keep hb gm1
 replace hgm := hgm.below hb
 replace gn0 := cell_keep hb gn0
 replace gn1 := cell_keep hb gn1
 replace hgn := hgn.below hb
 replace hbw := Below.tr hbw hb
 clear hb; go_wp2_with fail; refine (is_5 _ 3 1 _ hgn (by omega) (by omega) (by omega)).mono ?_; rintro e w41 ⟨rfl, hb⟩
 replace gm0 := cell_keep hb gm0
 replace gm1 := cell_keep hb gm1
 replace hgm := hgm.below hb
 replace gn0 := cell_keep hb gn0
 replace gn1 := cell_keep hb gn1
 replace hgn := hgn.below hb
 replace hbw := Below.tr hbw hb
 clear hb; go_wp2_with fail; go_ret; exact ⟨rfl, hbw⟩
end Go.Proofs.YtmbfjmilhfmnkaaGreatDoor
namespace Go.Proofs.YtmbfjmilhfmnkaaGreatDoor
open Go Go.RowKit
theorem lim_nil (w : World) : Lim w none 0 [] := ⟨fun h => absurd rfl h, Nat.le_refl _, by omega, (fun x hx => by cases hx), fun _ => rfl⟩
theorem seven_s {w : World} {g i : Nat} {xs : List LP} (h : RatRow w (some ⟨g, 0, none⟩) 7 xs) (hi : i < 7) : ∃ y1 y2 x, w.cell? ⟨g, i * 2, none⟩ = some y1 ∧ w.cell? ⟨g, i * 2 + 1, none⟩ = some y2 ∧ RtP w (.agg #[y1, y2]) x ∧ x ∈ xs := by
 obtain ⟨ps, hrow, hlen, hv⟩ := h; have hil : i < ps.length := by have := hrow.2.1; omega
 obtain ⟨b, off, hA, hc⟩ := hrow.at_ prC_len (by omega) hi hil; injection hA with hA; injection hA with hb ho; subst hb ho; obtain ⟨⟨y1, y2⟩, hp⟩ : ∃ p, ps[i]? = some p := ⟨_, List.getElem?_eq_getElem hil⟩; have hx : ∃ x, xs[i]? = some x := ⟨_, List.getElem?_eq_getElem (by omega)⟩; obtain ⟨x, hx⟩ := hx; have hpi : ps[i] = (y1, y2) := by rw [List.getElem?_eq_getElem hil] at hp; exact Option.some.inj hp
 refine ⟨y1, y2, x, ?_, ?_, hv i _ x hp hx, List.mem_of_getElem? hx⟩
 ·have := hc.out 0 y1 (by rw [hpi]; rfl); simpa using this
 ·have := hc.out 1 y2 (by rw [hpi]; rfl); simpa using this
theorem RowL.take_u8 {w : World} {A : Option Addr} {k : Nat} {X : List Nat} (h : RowL u8C w A k X) (m : Nat) (hm : m ≤ k) : RowL u8C w A m (X.take m) := by
 obtain ⟨h1, h2, h3⟩ := h; refine ⟨?_, by rw [List.length_take]; omega, by omega⟩; have e : X.flatMap u8C = (X.take m).flatMap u8C ++ (X.drop m).flatMap u8C := by rw [← List.flatMap_append, List.take_append_drop]
 intro hne; obtain ⟨b, off, rfl, hc⟩ := h1 (by rw [e]; simp [hne]); refine ⟨b, off, rfl, fun i hi => ?_⟩; rw [hc i (by rw [e, List.length_append]; omega)]
 congr 1
 simp only [e]; exact List.getElem_append_left hi
theorem By.to {w : World} {A : Option Addr} {k c : Nat} {l : List Nat} (h : By w A k c l) (m : Nat) (hm : m ≤ k) : By w A m c (l.take m) :=
 ⟨h.1.take_u8 m hm, by have := h.2.1; omega, h.2.2.1, fun x hx => h.2.2.2.1 x (List.mem_of_mem_take hx), h.2.2.2.2⟩
theorem OwnB.shp0 {w : World} {base : Nat} {v : Value} {l : List Nat} (h : OwnB w base v l) (hl : 0 < l.length) : ∃ g c, v = .slice (some ⟨g, 0, none⟩) l.length c ∧ base ≤ g := by
 rcases h.1.2 with ⟨_, h0⟩ | ⟨g, cap, cur, e, hb, _⟩
 ·omega
 ·exact ⟨g, cap, e, hb⟩
theorem OwnB.cell {w : World} {base g c : Nat} {l : List Nat} (h : OwnB w base (.slice (some ⟨g, 0, none⟩) l.length c) l) {k : Nat} (hk : k < l.length) : (∃ u, w.cell? ⟨g, k, none⟩ = some u) ∧ w.frozen? ⟨g, k, none⟩ = false := by
 rcases h.1.2 with ⟨h', _⟩ | ⟨g', cap, cur, e, hb, hg, hn, _, hcs, _⟩
 ·simp at h'
 ·simp only [Value.slice.injEq, Option.some.injEq, Addr.mk.injEq, and_true, true_and] at e; obtain ⟨rfl, rfl⟩ := e; refine ⟨⟨cur[k]'(by omega), ?_⟩, by simp [World.frozen?, hg]⟩; rw [cell_of_row w g k cur _ (0, 0) hg, Array.getElem?_eq_getElem (by omega)]
theorem flat_u8m (l : List Nat) : l.flatMap u8C = l.map fun d : Nat => Value.int .u8 (d : Int) := by
 induction l with
 | nil => rfl
 | cons x l ih => rw [List.flatMap_cons, ih]; rfl
theorem OwnB.set {w : World} {base g c : Nat} {l : List Nat} (h : OwnB w base (.slice (some ⟨g, 0, none⟩) l.length c) l) (k d : Nat) (hd : d < 256) : OwnB (w.setCell ⟨g, k, none⟩ (.int .u8 (d : Int))) base (.slice (some ⟨g, 0, none⟩) l.length c) (l.set k d) := by
 refine ⟨?_, fun x hx => ?_⟩
 ·rw [flat_u8m, List.map_set, ← flat_u8m, List.length_set]; exact (World.ownsRow.stored h.1 k _).1
 ·rcases List.mem_or_eq_of_mem_set hx with hx | hx
  ·exact h.2 x hx
  ·omega
theorem info_b : (Tryz.prog.info? 23).map (fun i => (i.zero, i.size, i.bytes)) = some (some (.slice none 0 0), 1, 24) := by kernel_rfl
theorem fill_b5 (A0 A1 A2 A3 A4 : Option Addr) (k0 c0 k1 c1 k2 c2 k3 c3 k4 c4 : Nat) : Instr.fill (fun i => some (i * 1, 1)) ((Array.range (5 * 1)).map ((Value.slice none 0 0).cells[· % (Value.slice none 0 0).cells.size]!)) [(0, .slice A0 k0 c0), (1, .slice A1 k1 c1), (2, .slice A2 k2 c2), (3, .slice A3 k3 c3), (4, .slice A4 k4 c4)] = some #[.slice A0 k0 c0, .slice A1 k1 c1, .slice A2 k2 c2, .slice A3 k3 c3, .slice A4 k4 c4] := by kernel_rfl
theorem take6_n (A : Option Addr) (k c : Nat) (X : List Int) (w : World) (h : RowL intC w A k X) (hkc : k ≤ c) (hc : c ≤ 9223372036854775807) :
  Calls Tryz.prog 9 #[.slice A k c, .int .i64 6] w fun e w' => ∃ v, e = .returned v ∧ OwnI w' w.heap.size v (X.take 6) ∧ Below w.heap.size w w' :=
 takeI_n A k c X 6 w h hkc hc (by omega)
theorem dec_sh {fn : Nat} (hc : ∀ (A : Option Addr) (k c : Nat) (l : List Nat) (w : World), By w A k c l → k ≤ 536870911 → Calls Tryz.prog fn #[.slice A k c] w fun e w' => ∃ v, e = .returned (.tuple #[v, .int .i64 ((decF l).2.1 : Nat), .int .i64 (decF l).2.2]) ∧ RtP w' v (decF l).1 ∧ Below w.heap.size w w') (A : Option Addr) (k c : Nat) (l : List Nat) (w : World) (h : By w A k c l) (hk : k ≤ 536870911) (x0 : LP) (n0 : Nat) (r0 : Int) (HD : Hid (decF l = (x0, n0, r0))) :
  Calls Tryz.prog fn #[.slice A k c] w fun e w' => ∃ A1 k1 c1 A2 k2 c2, e = .returned (.tuple #[.agg #[.slice A1 k1 c1, .slice A2 k2 c2], .int .i64 (n0 : Nat), .int .i64 r0]) ∧ RtP w' (.agg #[.slice A1 k1 c1, .slice A2 k2 c2]) x0 ∧ Below w.heap.size w w' := by
 refine (hc A k c l w h hk).mono ?_; rintro e w' ⟨v, rfl, hr, hb⟩; rw [HD.out] at hr ⊢; obtain ⟨A1, k1, c1, A2, k2, c2, rfl⟩ := hr.shape; exact ⟨A1, k1, c1, A2, k2, c2, rfl, hr, hb⟩
set_option maxRecDepth 100000 in
set_option maxHeartbeats 8000000 in
theorem ratio_reads_n (A5 : Option Addr) (k5 c5 : Nat) (A6 : Option Addr) (k6 c6 : Nat) (X5 : List Int) (l6 : List Nat) (n m how by_ at_ : Int) (w : World) (h5 : RowL intC w A5 k5 X5) (hk5 : k5 ≤ c5) (hc5 : c5 ≤ 9223372036854775807) (hx5 : Hid (∀ x ∈ X5, -9223372036854775808 ≤ x ∧ x ≤ 9223372036854775807)) (h6 : By w A6 k6 c6 l6) (hk6 : k6 ≤ 1048576) (hin : isI64 n) (him : isI64 m) (hih : isI64 how) (hib : isI64 by_) (hia : isI64 at_) :
  Calls Tryz.prog 3 #[.int .i64 n, .int .i64 m, .int .i64 how, .int .i64 by_, .int .i64 at_, .slice A5 k5 c5, .slice A6 k6 c6] w fun e w' => e = .returned (.bool true) ∧ Below w.heap.size w w' := by
 have HS := Lib.hid (some_s n m how by_ none 0 0 none 0 0 [] [] w hin him hih hib (lim_nil w) rfl (lim_nil w) rfl); have HIA := Lib.hid hia; obtain ⟨iS, hiS, hzS, hzS1, hzS2⟩ := info_parts info_b; clear hin him hih hib hia
 go_enter Tryz.func3, Tryz.ntmps3
 go_wp2_with fail; refine HS.out.mono ?_; rintro e w1 ⟨gL, xs, rfl, hL, _, HSm, hbw⟩; clear HS; have h5 := h5.below hbw; have h6 := h6.below hbw; go_wp2_with fail
 go_loopg [16] 7 (fun j x wr => ∃ i : Nat, x = .int .i64 i ∧ i + j = 7 ∧ Below w1.heap.size w1 wr)
 case atStart => exact ⟨0, rfl, by omega, Below.refl _ _⟩
 case round =>
  obtain ⟨G, hG⟩ : ∃ G, G = gk := ⟨gk, rfl⟩; subst hG; obtain ⟨i, rfl, hij, hbo⟩ := hrel; obtain ⟨wo, hwo⟩ : ∃ wo, wo = wr := ⟨_, rfl⟩; subst hwo; by_cases hi : i < 7
  ·have t1 : decide ((i : Int) < 7) = true := by simp; omega
   have hi7 : (i : Int) < 7 := by omega
   obtain ⟨y1, y2, x, g1, g2, hX, hxm⟩ := seven_s (hL.below hbo) hi; obtain ⟨s1, s2⟩ := HSm.out x hxm; clear hxm; go_wp2_with fail; refine (rencode_n _ x _ hX (by omega) (by omega)).mono ?_; rintro e w2 ⟨vb, rfl, hOb, hb2⟩; obtain ⟨E, HE⟩ : ∃ E, Hid (E = Wi.encIs (castI x.1) ++ Wi.encIs (castI x.2)) := ⟨_, rfl⟩
   have hE0 : 0 < E.length := by
    rw [HE.out, List.length_append]; have := encIs_pos (castI x.1); omega
   obtain ⟨_, _, _, _, _, _, _, q1, q2, _, _⟩ := hX
   have hE1 : E.length ≤ 10000 := by
    rw [HE.out, List.length_append]; have h1 := encIs_len (castI_r q1) (by rw [castI_len]; omega); have h2 := encIs_len (castI_r q2) (by rw [castI_len]; omega); rw [castI_len] at h1 h2; omega
   rw [← HE.out] at hOb; obtain ⟨gb, cb, rfl, _⟩ := hOb.shp0 hE0; have hBb := hOb.by_ (by omega); have hbo2 := Below.tr hbo hb2; clear HE g1 g2 q1 q2 s1 s2 hOb hb2; go_wp2_with fail; refine (around_n at_ E.length _ HIA.out.1 HIA.out.2 hE0 (by omega)).mono ?_; rintro e w' ⟨k, rfl, hk, _, rfl⟩; have hbA := bA w2 (.cells #[] 5); have hown0 : OwnB (w2.alloc (.cells #[] 5)) w2.heap.size (.slice (some ⟨w2.heap.size, 0, none⟩) 0 0) [] := ⟨own_nil0 _ _ _, fun x hx => by cases hx⟩; have hBA := hBb.below hbA; have hl : ([] : List Nat).length + E.length ≤ 1073741824 := by simp; omega
   have hsz := hbA.size
   go_wp2_with (at_builtin; go_loud (refine wpList_appB rfl (.tmp 49) (.tmp 50) rfl w2.heap.size (.slice (some ⟨w2.heap.size, 0, none⟩) 0 0) [] rfl hown0 (some ⟨gb, 0, none⟩) E.length cb E rfl hBA hl hsz ?_); intro v7 w7 hown7 hg7 _)
   have hb7 := hbA.trans ((Below.refl w2.heap.size _).grown hg7 hsz (fun q hq => hown0.ge q hq)); rw [List.nil_append] at hown7; obtain ⟨g7, c7, rfl, hg7b⟩ := hown7.shp0 hE0; have hB7 := hown7.by_ (by omega); have hc7 := hB7.2.1; obtain ⟨⟨u7, hu7⟩, hf7⟩ := hown7.cell hk; obtain ⟨d, Hd⟩ : ∃ d : Nat, Hid (d = (by_ % 256).toNat) := ⟨_, rfl⟩; have hd : d < 256 := by rw [Hd.out]; omega
   have tm : by_ % 256 = (d : Int) := by rw [Hd.out]; omega
   have hkI : (k : Int) < (E.length : Int) := by omega
   clear hbA hown0 hBA hl hsz hg7 Hd hB7; go_upto_region 8 with fail
   iterate 10 (try go_step)
   go_simp; go_upto_region 9 with fail; refine wp_name ?_; intro w8 HW; have hb8 : Below w2.heap.size w2 w8 := by rw [HW.out]; exact hb7.setCell (p := ⟨g7, k, none⟩) hg7b _
   have hown8 : OwnB w8 w2.heap.size (.slice (some ⟨g7, 0, none⟩) E.length c7) (E.set k d) := by rw [HW.out]; exact hown7.set k d hd
   have hBn : By w8 (some ⟨g7, 0, none⟩) E.length c7 (E.set k d) := by
    have := hown8; have e : E.length = (E.set k d).length := by rw [List.length_set]
    rw [e] at this ⊢; exact this.by_ (by rw [← e]; omega)
   have hB8 := hBb.below hb8; have hbo8 := Below.tr hbo2 hb8; clear HW hb8 hown8 hown7 hb7 hu7 hf7 hBb hbo2; go_wp2_with fail; refine (take6_n A5 k5 c5 X5 _ (h5.below hbo8) hk5 hc5).mono ?_; rintro e w9 ⟨v9, rfl, hO9, hb9⟩; obtain ⟨Y, HY⟩ : ∃ Y, Hid (Y = X5.take 6) := ⟨_, rfl⟩; have hY6 : Y.length ≤ 6 := by rw [HY.out, List.length_take]; omega
   have HYr : Hid (∀ x ∈ Y, -9223372036854775808 ≤ x ∧ x ≤ 9223372036854775807) := by
    show ∀ x ∈ Y, _
    rw [HY.out]; exact fun x hx => hx5.out x (List.mem_of_mem_take hx)
   rw [← HY.out] at hO9; obtain ⟨A9, c9, rfl⟩ := hO9.shp; have hR9 := hO9.row (by omega); have hB9 := hB8.below hb9; have hN9 := hBn.below hb9; have hbo9 := Below.tr hbo8 hb9; clear HY hO9 hb9 hB8 hBn hbo8; go_wp2_with fail; refine (rints_n A9 _ c9 Y _ hR9 HYr.out (by omega)).mono ?_; rintro e w10 ⟨v10, rfl, hO10, hb10⟩; obtain ⟨F, HF⟩ : ∃ F, Hid (F = Wi.encIs Y) := ⟨_, rfl⟩
   have hF6 : F.length ≤ 63 := by
    rw [HF.out]; have := encIs_len HYr.out (by omega); omega
   rw [← HF.out] at hO10; obtain ⟨A10, c10, rfl⟩ := hO10.shp; have hB10 := hB9.below hb10; have hN10 := hN9.below hb10; have hbo10 := Below.tr hbo9 hb10; have hsz := hb10.size; have hl : F.length + E.length ≤ 1073741824 := by omega
   clear HF hR9 HYr
   go_upto_region 10 with (at_builtin; go_loud (refine wpList_appB rfl (.tmp 59) (.tmp 60) rfl w9.heap.size (.slice A10 F.length c10) F rfl hO10 (some ⟨gb, 0, none⟩) E.length cb E rfl hB10 hl hsz ?_); intro v11 w11 hown11 hg11 _)
   have hs9 := hbo9.size; have hbl9 := (Below.refl w9.heap.size w10).grown hg11 hsz (fun q hq => hO10.ge q hq); have hbo11 := hbo10.trans (hbl9.mono hs9); have hB11 := hB9.mapB (hb10.trans hbl9) (Nat.le_refl _); have hN11 := hN9.mapB (hb10.trans hbl9) (Nat.le_refl _); obtain ⟨Z, HZ⟩ : ∃ Z, Hid (Z = F ++ E) := ⟨_, rfl⟩; have hZ : Z.length ≤ 20000 := by rw [HZ.out, List.length_append]; omega
   rw [← HZ.out] at hown11; obtain ⟨A11, c11, rfl⟩ := hown11.shp; have hZ11 := hown11.by_ (by omega); have hcb := hB11.2.1; have hcm := hB11.2.2.1; have hkcI : (k : Int) ≤ (cb : Int) := by omega
   have hkc0 : ¬ cb = 0 := by omega
   have hT11 := hB11.to k (by omega); have h611 := h6.below hbo11; clear HZ hown11 hsz hl hbl9 hB9 hN9 hb10 hO10 hB10 hN10 hg11 hbo10 hbo9
   go_upto_region 11 with (refine wpList_sliceN rfl 33 23 5 [(0, .tmp 62), (1, .tmp 65), (2, .tmp 66), (3, .tmp 67), (4, .tmp 68)] rfl #[.slice (some ⟨gb, 0, none⟩) E.length cb, .slice (some ⟨gb, 0, none⟩) k cb, .slice (some ⟨g7, 0, none⟩) E.length c7, .slice A6 k6 c6, .slice A11 Z.length c11] iS (.slice none 0 0) 1 [(0, .slice (some ⟨gb, 0, none⟩) E.length cb), (1, .slice (some ⟨gb, 0, none⟩) k cb), (2, .slice (some ⟨g7, 0, none⟩) E.length c7), (3, .slice A6 k6 c6), (4, .slice A11 Z.length c11)] Tryz.underlying33 hiS hzS hzS1 (by omega) (by omega) rfl (fill_b5 _ _ _ _ _ _ _ _ _ _ _ _ _ _ _) ?_; simp only [Act.put, sA, sB, sC])
   refine wp_name ?_; intro w12 HW; have hb12 : Below w11.heap.size w11 w12 := by rw [HW.out]; exact bA _ _
   have hBk : Blk w12 w11.heap.size 23 #[.slice (some ⟨gb, 0, none⟩) E.length cb, .slice (some ⟨gb, 0, none⟩) k cb, .slice (some ⟨g7, 0, none⟩) E.length c7, .slice A6 k6 c6, .slice A11 Z.length c11] := by rw [HW.out]; exact Blk.new _ _ _
   obtain ⟨gV, hgV⟩ : ∃ g, Hid (g = w11.heap.size) := ⟨_, rfl⟩; rw [← hgV.out] at hBk ⊢
   have HFIVE : Hid (∀ j, j < 5 → ∃ A k c l, w12.cell? ⟨gV, j, none⟩ = some (.slice A k c) ∧ By w12 A k c l ∧ k ≤ 536870911) := by
    intro j hj; have : j = 0 ∨ j = 1 ∨ j = 2 ∨ j = 3 ∨ j = 4 := by omega
    rcases this with rfl | rfl | rfl | rfl | rfl
    ·exact ⟨_, _, _, _, by rw [hBk.cell]; rfl, hB11.below hb12, by omega⟩
    ·exact ⟨_, _, _, _, by rw [hBk.cell]; rfl, hT11.below hb12, by omega⟩
    ·exact ⟨_, _, _, _, by rw [hBk.cell]; rfl, hN11.below hb12, by omega⟩
    ·exact ⟨_, _, _, _, by rw [hBk.cell]; rfl, h611.below hb12, by omega⟩
    ·exact ⟨_, _, _, _, by rw [hBk.cell]; rfl, hZ11.below hb12, by omega⟩
   have hbo12 := Below.tr hbo11 hb12; clear HW hgV hBk hb12 hB11 hT11 hN11 h611 hZ11 hbo11; go_wp2_with fail
   go_loopg [22] 5 (fun j x wr => ∃ i : Nat, x = .int .i64 i ∧ i + j = 5 ∧ Below w12.heap.size w12 wr)
   case atStart => exact ⟨0, rfl, by omega, Below.refl _ _⟩
   case round =>
    obtain ⟨G2, hG2⟩ : ∃ G, G = gk := ⟨gk, rfl⟩; subst hG2; obtain ⟨j, rfl, hjj, hbp⟩ := hrel; obtain ⟨wp, hwp⟩ : ∃ wo, wo = wr := ⟨_, rfl⟩; subst hwp; by_cases hj : j < 5
    ·have t2 : decide ((j : Int) < 5) = true := by simp; omega
     have hj5 : (j : Int) < 5 := by omega
     obtain ⟨AA, kk, cc, ll, hcell, hby, hkk⟩ := HFIVE.out j hj; have hc13 := cell_keep hbp hcell; have hby13 := hby.below hbp; obtain ⟨x0, HX0⟩ : ∃ x, Hid (x = (decF ll).1) := ⟨_, rfl⟩; obtain ⟨n0, HN0⟩ : ∃ x, Hid (x = (decF ll).2.1) := ⟨_, rfl⟩; obtain ⟨r0, HR0⟩ : ∃ x, Hid (x = (decF ll).2.2) := ⟨_, rfl⟩; have HD : Hid (decF ll = (x0, n0, r0)) := by show _ = _; rw [HX0.out, HN0.out, HR0.out]
     clear HX0 HN0 HR0 hcell hby; go_wp2_with fail; refine (dec_sh decode_n5 AA kk cc ll _ hby13 hkk x0 n0 r0 HD).mono ?_; rintro e w13 ⟨P1, p1, d1, P2, p2, d2, rfl, hra, hb13⟩; have hc14 := cell_keep hb13 hc13; have hby14 := hby13.below hb13; have hbp13 := Below.tr hbp hb13; clear hc13 hby13 hb13; go_upto_region 15 with fail; refine wp_name ?_; intro w14 HW; have hb14 : Below w13.heap.size w13 w14 := by rw [HW.out]; exact bA _ _
     have hBk : Blk w14 w13.heap.size 29 #[.slice P1 p1 d1, .slice P2 p2 d2] := by rw [HW.out]; exact Blk.new _ _ _
     obtain ⟨g3, hg3⟩ : ∃ g, Hid (g = w13.heap.size) := ⟨_, rfl⟩; rw [← hg3.out] at hBk ⊢; have F0 := hBk.cell 0; have F1 := hBk.cell 1; simp only [List.getElem?_toArray, List.getElem?_cons_zero, List.getElem?_cons_succ] at F0 F1; have hc15 := cell_keep hb14 hc14; have hby15 := hby14.below hb14; have hra15 := hra.below hb14; have hbp14 := Below.tr hbp13 hb14; clear HW hg3 hBk hb14 hc14 hby14 hra hbp13; go_wp2_with fail; refine (dec_sh rdecode_n5 AA kk cc ll _ hby15 hkk x0 n0 r0 HD).mono ?_; rintro e w15 ⟨R1, m1, f1, R2, m2, f2, rfl, hrb, hb15⟩
     replace F0 := cell_keep hb15 F0
     replace F1 := cell_keep hb15 F1
     have hra16 := hra15.below hb15; have hbp15 := Below.tr hbp14 hb15; clear hc15 hby15 hra15 hb15 hbp14; go_upto_region 16 with fail; refine wp_name ?_; intro w16 HW; have hb16 : Below w15.heap.size w15 w16 := by rw [HW.out]; exact bA _ _
     have hBk : Blk w16 w15.heap.size 29 #[.slice R1 m1 f1, .slice R2 m2 f2] := by rw [HW.out]; exact Blk.new _ _ _
     obtain ⟨g4, hg4⟩ : ∃ g, Hid (g = w15.heap.size) := ⟨_, rfl⟩; rw [← hg4.out] at hBk ⊢; have G0 := hBk.cell 0; have G1 := hBk.cell 1; simp only [List.getElem?_toArray, List.getElem?_cons_zero, List.getElem?_cons_succ] at G0 G1
     replace F0 := cell_keep hb16 F0
     replace F1 := cell_keep hb16 F1
     have hra17 := hra16.below hb16; have hrb17 := hrb.below hb16; have hbp16 := Below.tr hbp15 hb16; have tE : (r0 != r0) = false := by simp
     have tN : ((n0 : Int) != (n0 : Int)) = false := by simp
     clear HW hg4 hBk hb16 hra16 hrb hbp15; go_wp2_with fail; refine (rsame_P _ _ _ _ hra17 hrb17).mono ?_; rintro e w17 ⟨rfl, hb17⟩; have hbp17 := Below.tr hbp16 hb17; clear hra17 hrb17 F0 F1 G0 G1 hb17; go_wp2_with fail
     go_roundg (G2 - 1)
     case measure => omega
     case rel => exact ⟨j + 1, by go_num, by omega, hbp17⟩
    ·have t2 : decide ((j : Int) < 5) = false := by simp; omega
     have hbo13 := Below.tr hbo12 hbp; go_wp2_with fail
     go_roundg (G - 1)
     case measure => omega
     case rel => exact ⟨i + 1, by go_num, by omega, hbo13⟩
  ·have t1 : decide ((i : Int) < 7) = false := by simp; omega
   have hbw := Below.tr hbw hbo; go_wp2_with fail; refine (lives5_n _).mono ?_; rintro e w' ⟨rfl, hb⟩; go_wp2_with fail; go_ret; exact ⟨rfl, Below.tr hbw hb⟩
end Go.Proofs.YtmbfjmilhfmnkaaGreatDoor
