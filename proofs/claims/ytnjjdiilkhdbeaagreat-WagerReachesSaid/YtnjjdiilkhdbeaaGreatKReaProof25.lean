import Derived.Test.YtnjjdiilkhdbeaaGreatKReaProof24
import Derived.Test.YtnjjdiilkhdbeaaGreatKReaProof22
import Derived.Test.YtnjjdiilkhdbeaaGreatS0
set_option linter.unusedVariables false
set_option linter.unusedSimpArgs false
namespace Go.Proofs.YtnjjdiilkhdbeaaGreat
open Go Go.RowKit
def SSq (gQ : Nat) (w1 wo : World) (X1 : Option Addr) (xk1 xc1 : Nat) (X2 : Option Addr) (xk2 xc2 : Nat) (S2 : Option Addr) (n c2 n1 : Nat) (X : List (List LP)) (r : List LP) : List Value → (Nat → Value) → World → Prop
 | [], _, W => Below wo.heap.size wo W
 | [v], _, W => ∃ S7 c7 X7, v = .slice S7 n1 c7 ∧ X7 = X ++ [r] ∧ RatsOwn W (gQ + 1) (.slice S7 n1 c7) X7 ∧ Blk W gQ 28 #[.slice X1 xk1 xc1, .slice X2 xk2 xc2, .slice S2 n c2] ∧ Below gQ w1 W
 | [v, u], _, W => u = .pointer (some ⟨gQ, 2, none⟩) ∧ ∃ S7 c7 X7, v = .slice S7 n1 c7 ∧ X7 = X ++ [r] ∧ RatsOwn W (gQ + 1) (.slice S7 n1 c7) X7 ∧ Blk W gQ 28 #[.slice X1 xk1 xc1, .slice X2 xk2 xc2, .slice S2 n c2] ∧ Below gQ w1 W
 | [v, _, _], _, W => ∃ S7 c7 X7, v = .slice S7 n1 c7 ∧ X7 = X ++ [r] ∧ RatsOwn W (gQ + 1) (.slice S7 n1 c7) X7 ∧ Blk W gQ 28 #[.slice X1 xk1 xc1, .slice X2 xk2 xc2, .slice S7 n1 c7] ∧ Below gQ w1 W
 | _, _, _ => True
def PhiSq (gQ gA bS oS n kS cS c2 mr cr NB : Nat) (S2 Ar : Option Addr) (r : List LP) (vs : Nat → Value) (j : Nat) (w : World) (x : Value) : Prop :=
 match j with
 | 0 => x = .pointer (some ⟨gQ, 2, none⟩)
 | 1 => x = .slice S2 n c2
 | 2 => ∃ g, x = .slice (some ⟨g, 0, none⟩) 0 0 ∧ Blk w g 25 #[]
 | 3 => x = .pointer (some ⟨gA, 2, none⟩)
 | 4 => x = .slice (some ⟨bS, oS, none⟩) kS cS
 | 5 => x = .int .i64 (n : Nat)
 | 6 => x = .pointer (some ⟨bS, oS + n, none⟩)
 | 7 => x = .slice Ar mr cr
 | 8 => ∃ B m d, x = .slice B m d ∧ RatOwn w NB (.slice B m d) r
 | 9 => ∃ g B m d, x = .slice (some ⟨g, 0, none⟩) 1 1 ∧ Rd w (some ⟨g, 0, none⟩) [.slice B m d] ∧ RatOwn w NB (.slice B m d) r
 | _ => True
theorem PhiSq.keepR {gQ gA bS oS n kS cS c2 mr cr NB : Nat} {S2 Ar : Option Addr} {r : List LP} : ∀ vs (w w' : World), Below w.heap.size w w' → ∀ j x, PhiSq gQ gA bS oS n kS cS c2 mr cr NB S2 Ar r vs j w x → PhiSq gQ gA bS oS n kS cS c2 mr cr NB S2 Ar r vs j w' x := by
 intro vs w w' hb j x h; unfold PhiSq at h ⊢
 split <;> simp only at h ⊢
 all_goals first
  | exact h
  | (obtain ⟨g, e, h⟩ := h; exact ⟨g, e, h.below hb h.lt⟩)
  | (obtain ⟨B, m, d, e, h⟩ := h; exact ⟨B, m, d, e, h.below hb⟩)
  | (obtain ⟨g, B, m, d, e, h1, h2⟩ := h; exact ⟨g, B, m, d, e, h1.below hb, h2.below hb⟩)
theorem PhiSq.keepF {gQ gA bS oS n kS cS c2 mr cr NB : Nat} {S2 Ar : Option Addr} {r : List LP} : ∀ vs (w w' : World) j x, ([] : List Nat).contains j = true → PhiSq gQ gA bS oS n kS cS c2 mr cr NB S2 Ar r vs j w x → PhiSq gQ gA bS oS n kS cS c2 mr cr NB S2 Ar r vs j w' x := by
 intro vs w w' j x hf
 cases hf
/-- what is left of a store into the plan -/
def SpOk (gQ : Nat) (w1 : World) (kS : Nat) (W : World) : Prop := ∃ B1 k1 c1 B2 k2 c2 S c b rows, Blk W gQ 28 #[.slice B1 k1 c1, .slice B2 k2 c2, .slice S kS c] ∧ RtP W (.agg #[.slice B1 k1 c1, .slice B2 k2 c2]) b ∧ (∀ W', KeepG (gQ + 1) W W' → RatRows W' S kS rows) ∧ Below gQ w1 W
def SSx (gQ : Nat) (w1 : World) (kS : Nat) (w4 : World) : List Value → (Nat → Value) → World → Prop
 | [], _, W => Below w4.heap.size w4 W
 | [_], _, W => SpOk gQ w1 kS W
 | _, _, _ => True
def PhiSr (gQ gS kS c2 z m d gB : Nat) (Ar : Option Addr) (by_ : Int) (o1 o2 : Value) (vs : Nat → Value) (j : Nat) (w : World) (x : Value) : Prop :=
 match j with
 | 0 => x = .pointer (some ⟨gQ, 2, none⟩)
 | 1 => x = .slice (some ⟨gS, 0, none⟩) kS c2
 | 2 => x = .int .i64 (z : Nat)
 | 3 => x = .pointer (some ⟨gQ, 2, none⟩)
 | 4 => x = .slice (some ⟨gS, 0, none⟩) kS c2
 | 5 => x = .int .i64 (z : Nat)
 | 6 => x = .pointer (some ⟨gS, z, none⟩)
 | 7 => x = .slice Ar m d
 | 8 => x = .int .i64 by_
 | 9 => x = .pointer (some ⟨gQ, 2, none⟩)
 | 10 => x = .slice (some ⟨gS, 0, none⟩) kS c2
 | 11 => x = .int .i64 (z : Nat)
 | 12 => x = .pointer (some ⟨gS, z, none⟩)
 | 13 => x = .slice Ar m d
 | 14 => x = .int .i64 (m : Nat)
 | 15 => x = .int .i64 ((m : Int) + 1)
 | 16 => ∃ y : Nat, x = .int .i64 (y : Nat) ∧ y ≤ m
 | 17 => ∃ (y d' : Nat), x = .slice Ar y d' ∧ y ≤ m
 | 18 => x = .pointer (some ⟨gS, z, none⟩)
 | _ => True
theorem PhiSr.keepR {gQ gS kS c2 z m d gB : Nat} {Ar : Option Addr} {by_ : Int} {o1 o2 : Value} : ∀ vs (w w' : World), Below w.heap.size w w' → ∀ j x, PhiSr gQ gS kS c2 z m d gB Ar by_ o1 o2 vs j w x → PhiSr gQ gS kS c2 z m d gB Ar by_ o1 o2 vs j w' x := by
 intro vs w w' hb j x h; unfold PhiSr at h ⊢
 split <;> simp only at h ⊢
 all_goals first
  | exact h
  | exact h.below hb
  | (obtain ⟨v, er, e, h⟩ := h; exact ⟨v, er, e, h.below hb⟩)
theorem PhiSr.keepF {gQ gS kS c2 z m d gB : Nat} {Ar : Option Addr} {by_ : Int} {o1 o2 : Value} : ∀ vs (w w' : World) j x, ([] : List Nat).contains j = true → PhiSr gQ gS kS c2 z m d gB Ar by_ o1 o2 vs j w x → PhiSr gQ gS kS c2 z m d gB Ar by_ o1 o2 vs j w' x := by
 intro vs w w' j x hf
 cases hf
def PhiSs (gQ gS kS c2 z m d gB : Nat) (Ar : Option Addr) (by_ : Int) (o1 o2 : Value) (vs : Nat → Value) (j : Nat) (w : World) (x : Value) : Prop :=
 match j with
 | 0 => x = .pointer (some ⟨gQ, 2, none⟩)
 | 1 => x = .slice (some ⟨gS, 0, none⟩) kS c2
 | 2 => x = .int .i64 (z : Nat)
 | 3 => x = .pointer (some ⟨gS, z, none⟩)
 | 4 => x = .slice Ar m d
 | 5 => x = .int .i64 by_
 | 6 => x = .pointer (some ⟨gQ, 2, none⟩)
 | 7 => x = .slice (some ⟨gS, 0, none⟩) kS c2
 | 8 => x = .int .i64 (z : Nat)
 | 9 => x = .pointer (some ⟨gS, z, none⟩)
 | 10 => x = .slice Ar m d
 | 11 => x = .int .i64 (m : Nat)
 | 12 => ∃ y : Nat, x = .int .i64 (y : Nat) ∧ y < m
 | 13 => x = .agg #[o1, o2]
 | 14 => ∃ y : Nat, x = .pointer (some ⟨gB, y * 2, none⟩) ∧ y < m
 | _ => True
theorem PhiSs.keepR {gQ gS kS c2 z m d gB : Nat} {Ar : Option Addr} {by_ : Int} {o1 o2 : Value} : ∀ vs (w w' : World), Below w.heap.size w w' → ∀ j x, PhiSs gQ gS kS c2 z m d gB Ar by_ o1 o2 vs j w x → PhiSs gQ gS kS c2 z m d gB Ar by_ o1 o2 vs j w' x := by
 intro vs w w' hb j x h; unfold PhiSs at h ⊢
 split <;> simp only at h ⊢
 all_goals first
  | exact h
  | exact h.below hb
  | (obtain ⟨v, er, e, h⟩ := h; exact ⟨v, er, e, h.below hb⟩)
theorem PhiSs.keepF {gQ gS kS c2 z m d gB : Nat} {Ar : Option Addr} {by_ : Int} {o1 o2 : Value} : ∀ vs (w w' : World) j x, ([] : List Nat).contains j = true → PhiSs gQ gS kS c2 z m d gB Ar by_ o1 o2 vs j w x → PhiSs gQ gS kS c2 z m d gB Ar by_ o1 o2 vs j w' x := by
 intro vs w w' j x hf
 cases hf
set_option maxRecDepth 100000 in
set_option maxHeartbeats 4000000 in
theorem spoilt17_F (va : Value) (b : LP) (rows : List (List LP)) (how by_ : Int) (w : World) (hp : PlanV w va b rows) (hrl : rows.length ≤ 16) (hlen : ∀ (i : Nat) r, rows[i]? = some r → r.length = i + 1) (i1 : -9223372036854775808 ≤ how ∧ how ≤ 9223372036854775807) (i2 : -9223372036854775808 ≤ by_ ∧ by_ ≤ 9223372036854775807) :
  Calls Tryz.prog 7 #[va, .int .i64 how, .int .i64 by_] w fun e w' => ∃ v b' rows', e = .returned v ∧ PlanV w' v b' rows' ∧ Below w.heap.size w w' := by
 obtain ⟨x1, x2, S, kS, cS, rfl, hbd, hrows⟩ := hp; obtain ⟨X1, xk1, xc1, X2, xk2, xc2, hsh⟩ := hbd.shape; simp only [Value.agg.injEq, Array.mk.injEq, List.cons.injEq, and_true] at hsh; obtain ⟨rfl, rfl⟩ := hsh; have HKS := Lib.hid hrows.len; have HLEN := Lib.hid hlen; clear hlen
 go_enter Tryz.func7, Tryz.ntmps7
 go_upto_region 2 with fail; refine wp_name ?_; intro w1 HW1; have hb1 : Below w.heap.size w w1 := by rw [HW1.out]; exact (Below.tr (Below.tr (bA _ _) (bA _ _)) (bA _ _))
 have hBA : Blk w1 w.heap.size 28 #[.slice X1 xk1 xc1, .slice X2 xk2 xc2, .slice S kS cS] := by rw [HW1.out]; exact Blk.below (Blk.newG rfl) (Below.tr (bA _ _) (bA _ _)) (Blk.newG rfl).lt
 have hBR : Blk w1 (w.heap.size + 1) 28 #[.slice none 0 0, .slice none 0 0, .slice none 0 0] := by rw [HW1.out]; exact Blk.below (Blk.newG (by simp)) (bA _ _) (by simp)
 have hBQ : Blk w1 (w.heap.size + 1 + 1) 28 #[.slice X1 xk1 xc1, .slice X2 xk2 xc2, .slice none 0 0] := by rw [HW1.out]; exact Blk.newG (by simp)
 clear HW1; obtain ⟨gA, hgA⟩ : ∃ g, Hid (g = w.heap.size) := ⟨_, rfl⟩; obtain ⟨gR, hgR⟩ : ∃ g, Hid (g = w.heap.size + 1) := ⟨_, rfl⟩; obtain ⟨gQ, hgQ⟩ : ∃ g, Hid (g = w.heap.size + 1 + 1) := ⟨_, rfl⟩; have hgr : w.heap.size ≤ gR := by have := hgR.out; omega
 have hAQ : gA < gQ := by have := hgA.out; have := hgQ.out; omega
 have hRQ : gR < gQ := by have := hgR.out; have := hgQ.out; omega
 have hwQ : w.heap.size ≤ gQ := by have := hgQ.out; omega
 rw [← hgQ.out] at hBQ ⊢; rw [← hgR.out] at hBR ⊢; rw [← hgA.out] at hBA ⊢; clear hgA hgR hgQ; go_wp2_with fail
 go_loopg [8] kS (fun j x wr => ∃ (n : Nat) (X : List (List LP)) (S2 : Option Addr) (c2 : Nat), x = .int .i64 n ∧ n + j = kS ∧ Hid (X = rows.take n) ∧ Blk wr gQ 28 #[.slice X1 xk1 xc1, .slice X2 xk2 xc2, .slice S2 n c2] ∧ RatsOwn wr (gQ + 1) (.slice S2 n c2) X ∧ Below gQ w1 wr)
 case atStart => exact ⟨0, [], none, 0, rfl, by omega, rfl, hBQ, RatsOwn.nil _ _, Below.refl _ _⟩
 case round =>
  obtain ⟨G, hG1⟩ : ∃ G, G = gk := ⟨gk, rfl⟩; subst hG1; obtain ⟨n, X, S2, c2, rfl, hnj, HXE, hBQ, hrs, hbe⟩ := hrel; obtain ⟨wo, hwo⟩ : ∃ wo, wo = wr := ⟨_, rfl⟩; subst hwo; have hQlt := hBQ.lt; have hQle : gQ ≤ wo.heap.size := Nat.le_of_lt hQlt; have hQle2 := hQle; have hbs : gQ + 1 ≤ wo.heap.size := hQlt; have HXL : Hid (X.length = n) := by show _ = _; rw [HXE.out, List.length_take]; have := HKS.out; omega
  have hlen : X.length ≤ 1048576 := by have := HXL.out; have := HKS.out; omega
  have hbew : Below w.heap.size w wo := hb1.trans (hbe.mono hwQ); have hBAo := hBA.below hbe hAQ; by_cases hn : n < kS
  ·have t1 : decide ((n : Int) < (kS : Int)) = true := by simp; omega
   have hnk : (n : Int) < (kS : Int) := by omega
   have hn20 : n ≤ 16 := by have := HKS.out; omega
   obtain ⟨n1, HN1⟩ : ∃ m, Hid (m = n + 1) := ⟨_, rfl⟩; obtain ⟨bS, oS, Ar, mr, cr, r, rfl, hc, HR, hrow⟩ := (hrows.below hbew).at_ hn; have HC := Lib.hid hc; have hrl1 := HLEN.out n r HR.out; have hmr0 : 0 < mr := by have := hrow.len; omega
   have hmr : mr ≤ 1048576 := by have := hrow.len; have := HKS.out; omega
   have A2 := Lib.hid (hBAo.cell 2); have T2 := Lib.hid (hBQ.cell 2); simp only [List.getElem?_toArray, List.getElem?_cons_zero, List.getElem?_cons_succ] at A2 T2; clear hc hrl1; have a2 := A2.out; go_upto_region 5 with fail; clear a2; refine region_chain [10, 11, 12] [.early, .early, .early, .early, .early, .early, .early, .early, .early, .early, .chain 0, .chain 1, .chain 2] [] [] (PhiSq gQ gA bS oS n kS cS c2 mr cr wo.heap.size S2 Ar r) (fun w w' => Below w.heap.size w w') (SSq gQ w1 wo X1 xk1 xc1 X2 xk2 xc2 S2 n c2 n1 X r) (by kernel_rfl) (by kernel_rfl) (by kernel_rfl) (by kernel_rfl) (sK (fun _ _ _ _ _ h => h) (sK (fun _ _ _ _ _ h => h) (sK (fun _ _ _ _ _ h => h) (sK (fun _ _ _ _ _ h => h) (sK (fun _ _ _ _ _ h => h) (sK (fun _ _ _ _ _ h => h) (sK (fun _ _ _ _ _ h => h) (sK (fun _ _ _ _ _ h => h) (sK (fun _ _ _ _ _ h => h) (sK (fun _ _ _ _ _ h => h) (sK (fun _ _ _ _ _ h => h) (sK (fun _ _ _ _ _ h => h) (sK (fun _ _ _ _ _ h => h) (sZ)))))))))))))) PhiSq.keepR PhiSq.keepF (fun _ _ _ _ hR hS => Below.tr hS hR) (by rintro (_ | ⟨_, _ | ⟨_, _ | ⟨_, _ | _⟩⟩⟩) vs vs' w _ h <;> exact h) (fun _ => bD _) (fun vs => by simp only [fillR, Act.put, sA, sB, sC, Nat.zero_add, Nat.reduceAdd]; rfl) ?_ ?_
   ·refine sK ?_ (sK ?_ (sK ?_ (sK ?_ (sK ?_ (sK ?_ (sK ?_ (sK ?_ (sK ?_ (sK ?_ (sK ?_ (sK ?_ (sK ?_ (sZ)))))))))))))
    ·as_aux_lemma =>
     intro vs W hS hu hdep K hK; have HU := Lib.hid hu; clear hu; refine ⟨?_⟩; simp only [Act.put, sA, sB, sC, Nat.zero_add, Nat.reduceAdd] at hK ⊢; go_simp; with_reducible refine hK _ _ (Below.refl _ _) ?_
     exact rfl
    ·as_aux_lemma =>
     intro vs W hS hu hdep K hK; have HU := Lib.hid hu; clear hu; have d0 := hdep ⟨0, .data⟩ (by simp) rfl; simp only [PhiSq] at d0; have f1 := cell_keep hS T2.out; refine ⟨?_⟩; simp only [Act.put, sA, sB, sC, Nat.zero_add, Nat.reduceAdd, d0] at hK ⊢; go_simp; with_reducible refine hK _ _ (Below.refl _ _) ?_
     exact rfl
    ·as_aux_lemma =>
     intro vs W hS hu hdep K hK; have HU := Lib.hid hu; clear hu; refine ⟨?_⟩; simp only [Act.put, sA, sB, sC, Nat.zero_add, Nat.reduceAdd] at hK ⊢; go_simp; with_reducible refine hK _ _ (bA _ _) ?_
     exact ⟨_, rfl, Blk.new _ _ _⟩
    ·as_aux_lemma =>
     intro vs W hS hu hdep K hK; have HU := Lib.hid hu; clear hu; refine ⟨?_⟩; simp only [Act.put, sA, sB, sC, Nat.zero_add, Nat.reduceAdd] at hK ⊢; go_simp; with_reducible refine hK _ _ (Below.refl _ _) ?_
     exact rfl
    ·as_aux_lemma =>
     intro vs W hS hu hdep K hK; have HU := Lib.hid hu; clear hu; have d0 := hdep ⟨3, .data⟩ (by simp) rfl; simp only [PhiSq] at d0; have f1 := cell_keep hS A2.out; refine ⟨?_⟩; simp only [Act.put, sA, sB, sC, Nat.zero_add, Nat.reduceAdd, d0] at hK ⊢; go_simp; with_reducible refine hK _ _ (Below.refl _ _) ?_
     exact rfl
    ·as_aux_lemma =>
     intro vs W hS hu hdep K hK; have HU := Lib.hid hu; clear hu; refine ⟨?_⟩; simp only [Act.put, sA, sB, sC, Nat.zero_add, Nat.reduceAdd] at hK ⊢; go_simp; with_reducible refine hK _ _ (Below.refl _ _) ?_
     exact rfl
    ·as_aux_lemma =>
     intro vs W hS hu hdep K hK; have HU := Lib.hid hu; clear hu; have d0 := hdep ⟨4, .data⟩ (by simp) rfl; simp only [PhiSq] at d0; have d1 := hdep ⟨5, .data⟩ (by simp) rfl; simp only [PhiSq] at d1; refine ⟨?_⟩; simp only [Act.put, sA, sB, sC, Nat.zero_add, Nat.reduceAdd, d0, d1] at hK ⊢; go_simp; with_reducible refine hK _ _ (Below.refl _ _) ?_
     exact rfl
    ·as_aux_lemma =>
     intro vs W hS hu hdep K hK; have HU := Lib.hid hu; clear hu; have d0 := hdep ⟨6, .data⟩ (by simp) rfl; simp only [PhiSq] at d0; have f1 := cell_keep hS HC.out; refine ⟨?_⟩; simp only [Act.put, sA, sB, sC, Nat.zero_add, Nat.reduceAdd, d0] at hK ⊢; go_simp; with_reducible refine hK _ _ (Below.refl _ _) ?_
     exact rfl
    ·as_aux_lemma =>
     intro vs W hS hu hdep K hK; have HU := Lib.hid hu; clear hu; have d0 := hdep ⟨2, .data⟩ (by simp) rfl; simp only [PhiSq] at d0; refine @exE1 _ _ _ d0 ?_; clear d0; intro g0 d0; have e0 := d0.1; have b0 := d0.2; clear d0; have d1 := hdep ⟨7, .data⟩ (by simp) rfl; simp only [PhiSq] at d1; have hS : Below wo.heap.size wo W := hS; have hbS := Lib.hid hS; refine ⟨?_⟩; simp only [Act.put, sA, sB, sC, Nat.zero_add, Nat.reduceAdd, e0, d1] at hK ⊢; rw [if_pos (by rfl)]; refine wp_fresh (.tmp 25) (.tmp 30) rfl g0 rfl b0 Ar mr cr r rfl (hrow.below hbS.out) hmr0 hmr ?_; intro B m d w' hown hb; simp only [Act.put, sA, sB, sC]; with_reducible refine hK _ _ hb ?_
     exact ⟨_, _, _, rfl, hown.mono hbS.out.size⟩
    ·as_aux_lemma =>
     intro vs W hS hu hdep K hK; have HU := Lib.hid hu; clear hu; have d0 := hdep ⟨8, .data⟩ (by simp) rfl; simp only [PhiSq] at d0; refine @exE3 _ _ _ _ _ d0 ?_; clear d0; intro B0 m0 d0 d0; have e0 := d0.1; have n0 := d0.2; clear d0; have hown := Lib.hid n0; clear n0; refine ⟨?_⟩; simp only [Act.put, sA, sB, sC, Nat.zero_add, Nat.reduceAdd, e0] at hK ⊢; go_simp; with_reducible refine hK _ _ (bA _ _) ?_
     exact ⟨_, _, _, _, rfl, Rd.newC _ _ _, hown.out.below (bA _ _)⟩
    ·as_aux_lemma =>
     intro vs W hS hdep K hK; have d0 := hdep ⟨1, .data⟩ (by simp) rfl (by rfl); simp only [PhiSq] at d0; have d1 := hdep ⟨9, .data⟩ (by simp) rfl (by rfl); simp only [PhiSq] at d1; have hS : Below wo.heap.size wo W := hS; have hbS := Lib.hid hS; refine @exE2 _ _ _ _ d1 ?_; clear d1; intro g B d1; refine @exE2 _ _ _ _ d1 ?_; clear d1; intro m d d1; have e1 := d1.1; have hrd := d1.2.1; have hown := d1.2.2; clear d1; refine ⟨?_⟩; simp only [Act.put, sA, sB, sC, Nat.zero_add, Nat.reduceAdd, d0, e1] at hK ⊢; rw [if_pos (by rfl)]; refine wp_push2 (.tmp 24) (.tmp 32) rfl wo (gQ + 1) _ X rfl hrs hbS.out (some ⟨g, 0, none⟩) 1 B m d r rfl hown hrd hlen hbs ?_; intro v7 w7 hrs7 hg7 hkp7; obtain ⟨X7, HX7⟩ : ∃ r', Hid (r' = X ++ [r]) := ⟨_, rfl⟩; rw [← HX7.out] at hrs7; have HL7 : Hid (X7.length = n1) := (by show _ = _; rw [HX7.out, List.length_append, HXL.out, HN1.out]; rfl); obtain ⟨S7, c7, rfl⟩ := hrs7.shp; rw [HL7.out] at hrs7 ⊢; have hBQ7 := (hBQ.below hbS.out hQlt).grown hg7 (fun j hj => by have := hrs.ge j hj; omega); have hbe7 : Below gQ w1 w7 := (hbe.trans (hbS.out.mono hQle)).grown hg7 (Nat.le_trans hQle2 hbS.out.size) (fun j hj => by have := hrs.ge j hj; omega); simp only [Act.put, sA, sB, sC]; with_reducible refine hK _ _ ?_
     exact ⟨S7, c7, X7, rfl, HX7.out, hrs7, hBQ7, hbe7⟩
    ·as_aux_lemma =>
     intro vs W hS hdep K hK; have hS1 : SSq gQ w1 wo X1 xk1 xc1 X2 xk2 xc2 S2 n c2 n1 X r [vs 10] vs W := hS; clear hS; have HS1 := Lib.hid hS1; refine ⟨?_⟩; simp only [Act.put, sA, sB, sC, Nat.zero_add, Nat.reduceAdd] at hK ⊢; go_simp; with_reducible refine hK _ _ ?_
     exact ⟨rfl, HS1.out⟩
    ·as_aux_lemma =>
     intro vs W hS hdep K hK; have hS1 : SSq gQ w1 wo X1 xk1 xc1 X2 xk2 xc2 S2 n c2 n1 X r [vs 10, vs 11] vs W := hS; obtain ⟨d0, S7, c7, X7, e10, HX7, hrs7, hBQ7, hbe7⟩ := hS1; have f1 := hBQ7.cell 2; have f2 := hBQ7.frozen 2; simp only [List.getElem?_toArray, List.getElem?_cons_zero, List.getElem?_cons_succ] at f1; have hBQ8 := hBQ7.set_ 2 (.slice S7 n1 c7); have hrs8 := hrs7.keepG (KeepG.set hBQ7 (noU_sl _ _ _ _ _ _ _ _ _) (Nat.lt_succ_self gQ) 2 (.slice S7 n1 c7)); have hbe8 := hbe7.setCell (p := ⟨gQ, 2, none⟩) (Nat.le_refl gQ) (.slice S7 n1 c7); simp only [sA, sB, sC] at hBQ8; have HX7 := Lib.hid HX7; clear hBQ7 hrs7 hbe7 hS; refine ⟨?_⟩; simp only [Act.put, sA, sB, sC, Nat.zero_add, Nat.reduceAdd, d0, e10] at hK ⊢; go_simp; with_reducible refine hK undef _ ?_
     exact ⟨S7, c7, X7, e10, HX7.out, hrs8, hBQ8, hbe8⟩
   intro vs W hS _; have hS2 : SSq gQ w1 wo X1 xk1 xc1 X2 xk2 xc2 S2 n c2 n1 X r [vs 10, vs 11, vs 12] vs W := hS; obtain ⟨S7, c7, X7, e10, HX7, hrs7, hBQ7, hbe7⟩ := hS2
   have HX9 : Hid (X7 = rows.take (n + 1)) := by
    show _ = _
    rw [HX7, HXE.out, List.take_add_one, HR.out]; rfl
   rw [HN1.out] at hrs7 hBQ7 e10; simp only [Act.put, sA, sB, sC, Nat.zero_add, Nat.reduceAdd, e10]; clear hrs HXE HX7 hBQ A2 T2 HC hrow hS; go_wp2_with fail
   go_roundg (G - 1)
   case measure => omega
   case rel => exact ⟨n + 1, X7, S7, c7, by go_num, by omega, HX9, hBQ7, hrs7, hbe7⟩
  ·have t1 : decide ((n : Int) < (kS : Int)) = false := by simp; omega
   obtain rfl : kS = n := by omega
   have HX0 : Hid (X = rows) := by show _ = _; rw [HXE.out, List.take_of_length_le (by have := HKS.out; omega)]
   have hrs := hrs; rw [HX0.out] at hrs; have a2 := hBAo.cell 2; have t2 := hBQ.cell 2; simp only [List.getElem?_toArray, List.getElem?_cons_zero, List.getElem?_cons_succ] at a2 t2; obtain ⟨M, HM⟩ : ∃ M : Nat, Hid (M = max kS 1) := ⟨_, rfl⟩; have HA := around_n by_ M wo i2.1 i2.2 (by have := HM.out; omega) (by have := HM.out; have := HKS.out; omega); rw [show ((M : Nat) : Int) = max (kS : Int) 1 by have := HM.out; omega] at HA
   have hrrow : ∀ r ∈ rows, r.length ≤ 1048576 := fun r hr => by
    obtain ⟨i, hi, rfl⟩ := List.getElem_of_mem hr; have := HLEN.out i _ (List.getElem?_eq_getElem hi); omega
   clear HXE hlen HXL hbs HX0; go_wp2_with fail; refine HA.mono ?_; rintro e w' ⟨z, rfl, hz, _, rfl⟩; clear HA; go_wp2_with fail; have b7 := tdiv7_bd by_ i2.1 i2.2; have b5 := tdiv5_bd how i1.1 i1.2; refine (rmade_n by_ (by_.tdiv 7) _ i2.1 i2.2 b7.1 b7.2).mono ?_; rintro e w2 ⟨v, pm, qm, rfl, hRm, hGm, hb2⟩; go_wp2_with fail; refine (spoilt_n _ pm qm (how.tdiv 5) by_ _ hRm hGm b5.1 b5.2 i2.1 i2.2).mono ?_; rintro e w3 ⟨v, m1, m2, rfl, hRo, _, _, hb3⟩; have ho : RtP w3 v (m1, m2) := hRo; obtain ⟨O1, ok1, oc1, O2, ok2, oc2, rfl⟩ := ho.shape; have hb23 := Below.tr hb2 hb3; clear hRm hGm hRo hb2 hb3 b7 b5; go_upto_region 8 with fail; refine wp_name ?_; intro w4 HW4; have hb4 : Below w3.heap.size w3 w4 := by rw [HW4.out]; exact bA _ _
   have hBO : Blk w4 w3.heap.size 25 #[.slice O1 ok1 oc1, .slice O2 ok2 oc2] := by rw [HW4.out]; exact Blk.new _ _ _
   obtain ⟨gO, hgO⟩ : ∃ g, Hid (g = w3.heap.size) := ⟨_, rfl⟩; have hgOx : wo.heap.size ≤ gO := by have := hgO.out; have := hb23.size; omega
   rw [← hgO.out] at hBO ⊢; have hoo := ho.below hb4; have hb24 := Below.tr hb23 hb4; have hBQ := hBQ.below hb24 hQlt; have hQlt := hBQ.lt; have hrs := hrs.below hb24; have hbd := (hbd.below hbew).below hb24; have hbe : Below gQ w1 w4 := hbe.trans (hb24.mono hQle); have O0 := hBO.cell 0; have O1' := hBO.cell 1; simp only [List.getElem?_toArray, List.getElem?_cons_zero, List.getElem?_cons_succ] at O0 O1'; have t2 := hBQ.cell 2; simp only [List.getElem?_toArray, List.getElem?_cons_zero, List.getElem?_cons_succ] at t2; have hrl1 : rows.length ≤ 1048576 := by omega
   have hkeep0 : ∀ W', KeepG (gQ + 1) w4 W' → RatRows W' S2 kS rows := fun W' hk => (hrs.keepG hk).rows hrl1 hrrow
   have hOQ : gO ≠ gQ := by omega
   clear HW4 hb23 hb24 hb4 hBAo a2 hQle hQle2 ho hBA hbew hrows; go_wp2_with fail; refine (around_n how 5 _ i1.1 i1.2 (by omega) (by omega)).mono ?_; rintro e w' ⟨s, rfl, hs, _, rfl⟩; have hQ0 := hBQ.cell 0; have hQ1 := hBQ.cell 1; have hF0 := hBQ.frozen 0; have hF1 := hBQ.frozen 1; simp only [List.getElem?_toArray, List.getElem?_cons_zero, List.getElem?_cons_succ] at hQ0 hQ1; have hs5 : s = 0 ∨ s = 1 ∨ s = 2 ∨ s = 3 ∨ s = 4 := by omega
   rcases hs5 with rfl | rfl | rfl | rfl | rfl
   ·go_upto_region 22 with fail; refine wp_name ?_; intro w5 HW5
    have hok : SpOk gQ w1 kS w5 := by
     rw [HW5.out]; have h0 := hBQ.set_ 0 (.slice O1 ok1 oc1); have h1 := h0.set_ 1 (.slice O2 ok2 oc2); have k0 := KeepG.set (base := gQ + 1) hBQ (noU_sl _ _ _ _ _ _ _ _ _) (Nat.lt_succ_self gQ) 0 (.slice O1 ok1 oc1); have k1 := KeepG.set (base := gQ + 1) h0 (noU_sl O1 ok1 oc1 X2 xk2 xc2 S2 kS c2) (Nat.lt_succ_self gQ) 1 (.slice O2 ok2 oc2); have kk := k0.trans k1; exact ⟨_, _, _, _, _, _, _, _, _, rows, h1, hoo.mapL kk.lim, fun W' hk => hkeep0 W' (kk.trans hk), (hbe.setCell (p := ⟨gQ, 0, none⟩) (Nat.le_refl gQ) _).setCell (p := ⟨gQ, 1, none⟩) (Nat.le_refl gQ) _⟩
    clear HW5 hBQ hrs hbd hbe O0 O1' t2 hQ0 hQ1 hF0 hF1 hoo hkeep0 hBO; obtain ⟨B1, y1, d1, B2, y2, d2, S9, c9, b9, rows9, hB9, hb9, hr9, hbz⟩ := hok; have hBRo := hBR.below hbz hRQ; have p0 := hB9.cell 0; have p1 := hB9.cell 1; have p2 := hB9.cell 2; have q0 := hBRo.cell 0; have q1 := hBRo.cell 1; have q2 := hBRo.cell 2; have r0 := hBRo.frozen 0; have r1 := hBRo.frozen 1; have r2 := hBRo.frozen 2; simp only [List.getElem?_toArray, List.getElem?_cons_zero, List.getElem?_cons_succ] at p0 p1 p2 q0 q1 q2; have hf := ((hBRo.set_ 0 (.slice B1 y1 d1)).set_ 1 (.slice B2 y2 d2)).set_ 2 (.slice S9 kS c9); have z0 := hf.cell 0; have z1 := hf.cell 1; have z2 := hf.cell 2; simp at z0 z1 z2; have hk3 := KeepG.set3 (base := gQ + 1) hBRo (by omega) B1 y1 d1 B2 y2 d2 S9 kS c9; have hrz := hr9 _ hk3; have hbdz := hb9.mapL hk3.lim; have hbw : Below w.heap.size w w5 := hb1.trans (hbz.mono hwQ); have hbf : Below w.heap.size w (((w5.setCell ⟨gR, 0, none⟩ (.slice B1 y1 d1)).setCell ⟨gR, 1, none⟩ (.slice B2 y2 d2)).setCell ⟨gR, 2, none⟩ (.slice S9 kS c9)) := ((hbw.setCell (p := ⟨gR, 0, none⟩) hgr _).setCell (p := ⟨gR, 1, none⟩) hgr _).setCell (p := ⟨gR, 2, none⟩) hgr _; clear hB9 hBRo hf hk3 hr9 hb9; go_wp2_with fail; exact bodyPost_ret (v := .agg #[.slice B1 y1 d1, .slice B2 y2 d2, .slice S9 kS c9]) (by simp [results, Tryz.results7, go_sem, z0, z1, z2]) rfl ⟨_, b9, rows9, rfl, ⟨_, _, S9, kS, c9, rfl, hbdz, hrz⟩, hbf⟩
   ·go_wp2_with fail; refine (around_n by_ 300 _ i2.1 i2.2 (by omega) (by omega)).mono ?_; rintro e w' ⟨y1, rfl, hy1, _, rfl⟩; go_wp2_with fail; refine (around_n by_ 3 _ i2.1 i2.2 (by omega) (by omega)).mono ?_; rintro e w' ⟨y2, rfl, hy2, _, rfl⟩; have s1 : IntKind.i64.wrap (255 + (y2 : Int)) = 255 + (y2 : Int) := by rw [IntWalk.i64_in _ (by omega)]
    have HO := rof_s y1 (255 + y2) w4 (by omega) (by omega) (by omega); rw [show (((255 + y2 : Nat) : Nat) : Int) = 255 + (y2 : Int) by push_cast; rfl] at HO; go_wp2_with fail; refine HO.mono ?_; rintro e w6 ⟨C1, ck1, cc1, C2, ck2, cc2, rfl, hr, hb6⟩; have hrp := hr.1.rtP; have hBQ := hBQ.below hb6 hQlt; have hQ0 := cell_keep hb6 hQ0; have hQ1 := cell_keep hb6 hQ1; have hF0 := hBQ.frozen 0; have hF1 := hBQ.frozen 1; have hrs := hrs.below hb6; have hbe : Below gQ w1 w6 := hbe.trans (hb6.mono (Nat.le_of_lt hQlt)); have hkeep0 : ∀ W', KeepG (gQ + 1) w6 W' → RatRows W' S2 kS rows := fun W' hk => (hrs.keepG hk).rows hrl1 hrrow
    clear HO s1 hr; go_upto_region 22 with fail; refine wp_name ?_; intro w5 HW5
    have hok : SpOk gQ w1 kS w5 := by
     rw [HW5.out]; have h0 := hBQ.set_ 0 (.slice C1 ck1 cc1); have h1 := h0.set_ 1 (.slice C2 ck2 cc2); have k0 := KeepG.set (base := gQ + 1) hBQ (noU_sl _ _ _ _ _ _ _ _ _) (Nat.lt_succ_self gQ) 0 (.slice C1 ck1 cc1); have k1 := KeepG.set (base := gQ + 1) h0 (noU_sl C1 ck1 cc1 X2 xk2 xc2 S2 kS c2) (Nat.lt_succ_self gQ) 1 (.slice C2 ck2 cc2); have kk := k0.trans k1; exact ⟨_, _, _, _, _, _, _, _, _, rows, h1, hrp.mapL kk.lim, fun W' hk => hkeep0 W' (kk.trans hk), (hbe.setCell (p := ⟨gQ, 0, none⟩) (Nat.le_refl gQ) _).setCell (p := ⟨gQ, 1, none⟩) (Nat.le_refl gQ) _⟩
    clear HW5 hBQ hrs hbd hbe O0 O1' t2 hQ0 hQ1 hF0 hF1 hoo hkeep0 hBO hrp; obtain ⟨B1, y1, d1, B2, y2, d2, S9, c9, b9, rows9, hB9, hb9, hr9, hbz⟩ := hok; have hBRo := hBR.below hbz hRQ; have p0 := hB9.cell 0; have p1 := hB9.cell 1; have p2 := hB9.cell 2; have q0 := hBRo.cell 0; have q1 := hBRo.cell 1; have q2 := hBRo.cell 2; have r0 := hBRo.frozen 0; have r1 := hBRo.frozen 1; have r2 := hBRo.frozen 2; simp only [List.getElem?_toArray, List.getElem?_cons_zero, List.getElem?_cons_succ] at p0 p1 p2 q0 q1 q2; have hf := ((hBRo.set_ 0 (.slice B1 y1 d1)).set_ 1 (.slice B2 y2 d2)).set_ 2 (.slice S9 kS c9); have z0 := hf.cell 0; have z1 := hf.cell 1; have z2 := hf.cell 2; simp at z0 z1 z2; have hk3 := KeepG.set3 (base := gQ + 1) hBRo (by omega) B1 y1 d1 B2 y2 d2 S9 kS c9; have hrz := hr9 _ hk3; have hbdz := hb9.mapL hk3.lim; have hbw : Below w.heap.size w w5 := hb1.trans (hbz.mono hwQ); have hbf : Below w.heap.size w (((w5.setCell ⟨gR, 0, none⟩ (.slice B1 y1 d1)).setCell ⟨gR, 1, none⟩ (.slice B2 y2 d2)).setCell ⟨gR, 2, none⟩ (.slice S9 kS c9)) := ((hbw.setCell (p := ⟨gR, 0, none⟩) hgr _).setCell (p := ⟨gR, 1, none⟩) hgr _).setCell (p := ⟨gR, 2, none⟩) hgr _; clear hB9 hBRo hf hk3 hr9 hb9; go_wp2_with fail; exact bodyPost_ret (v := .agg #[.slice B1 y1 d1, .slice B2 y2 d2, .slice S9 kS c9]) (by simp [results, Tryz.results7, go_sem, z0, z1, z2]) rfl ⟨_, b9, rows9, rfl, ⟨_, _, S9, kS, c9, rfl, hbdz, hrz⟩, hbf⟩
   ·by_cases hz9 : z < kS
    ·have t9 : decide ((z : Int) < (kS : Int)) = true := by simp; omega
     have hzk : (z : Int) < (kS : Int) := by omega
     have hzl : z < rows.length := by have := HKS.out; omega
     have hz20 : z ≤ 16 := by omega
     obtain ⟨gS, c8, Ar, m, d, r, e0, hc8, hfz8, HR, hro, hml⟩ := hrs.at_ hzl; have hml2 := HLEN.out z r HR.out; have hm0 : 0 < m := by omega
     have hm20 : m ≤ 17 := by omega
     have hmd := hro.cap; have t10 : decide ((m : Int) > 0) = true := by simp; omega
     have e0' : S2 = some ⟨gS, 0, none⟩ := by injection e0
     subst e0'; obtain ⟨gB, rfl⟩ := hro.some_ hm0; have HC := Lib.hid hc8; have T2 := Lib.hid t2
     have har : ∀ W, Calls Tryz.prog 10 #[.int .i64 by_, .int .i64 ((m : Int) + 1)] W fun e w' => ∃ y : Nat, e = .returned (.int .i64 (y : Int)) ∧ y < m + 1 ∧ W = w' := fun W => by
      have h := around_n by_ (m + 1) W i2.1 i2.2 (by omega) (by omega); rw [show ((m + 1 : Nat) : Int) = (m : Int) + 1 by push_cast; rfl] at h; refine h.mono ?_; rintro e w' ⟨y, h1, h2, _, h3⟩; exact ⟨y, h1, h2, h3⟩
     have s1m : IntKind.i64.wrap ((m : Int) + 1) = (m : Int) + 1 := by rw [IntWalk.i64_in _ (by omega)]
     clear hml hml2 e0 hfz8; clear hc8; go_upto_region 18 with fail; have OC0 := Lib.hid O0; have OC1 := Lib.hid O1'; clear t2; refine region_chain [19] [.early, .early, .early, .early, .early, .early, .early, .early, .early, .early, .early, .early, .early, .early, .early, .early, .early, .early, .early, .chain 0] [] [] (PhiSr gQ gS kS c2 z m d gB (some ⟨gB, 0, none⟩) by_ (.int .i64 0) (.int .i64 0)) (fun w w' => Below w.heap.size w w') (SSx gQ w1 kS w4) (by kernel_rfl) (by kernel_rfl) (by kernel_rfl) (by kernel_rfl) (sK (fun _ _ _ _ _ h => h) (sK (fun _ _ _ _ _ h => h) (sK (fun _ _ _ _ _ h => h) (sK (fun _ _ _ _ _ h => h) (sK (fun _ _ _ _ _ h => h) (sK (fun _ _ _ _ _ h => h) (sK (fun _ _ _ _ _ h => h) (sK (fun _ _ _ _ _ h => h) (sK (fun _ _ _ _ _ h => h) (sK (fun _ _ _ _ _ h => h) (sK (fun _ _ _ _ _ h => h) (sK (fun _ _ _ _ _ h => h) (sK (fun _ _ _ _ _ h => h) (sK (fun _ _ _ _ _ h => h) (sK (fun _ _ _ _ _ h => h) (sK (fun _ _ _ _ _ h => h) (sK (fun _ _ _ _ _ h => h) (sK (fun _ _ _ _ _ h => h) (sK (fun _ _ _ _ _ h => h) (sK (fun _ _ _ _ _ h => h) (sZ))))))))))))))))))))) PhiSr.keepR PhiSr.keepF (fun _ _ _ _ hR hS => Below.tr hS hR) (by rintro (_ | ⟨_, _ | _⟩) vs vs' w _ h <;> exact h) (fun _ => bD _) (fun vs => by simp only [fillR, Act.put, sA, sB, sC, Nat.zero_add, Nat.reduceAdd]; rfl) ?_ ?_
     ·refine sK ?_ (sK ?_ (sK ?_ (sK ?_ (sK ?_ (sK ?_ (sK ?_ (sK ?_ (sK ?_ (sK ?_ (sK ?_ (sK ?_ (sK ?_ (sK ?_ (sK ?_ (sK ?_ (sK ?_ (sK ?_ (sK ?_ (sK ?_ (sZ))))))))))))))))))))
      ·as_aux_lemma =>
       intro vs W hS hu hdep K hK; have HU := Lib.hid hu; clear hu; refine ⟨?_⟩; simp only [Act.put, sA, sB, sC, Nat.zero_add, Nat.reduceAdd] at hK ⊢; go_simp; with_reducible refine hK _ _ (Below.refl _ _) ?_
       exact rfl
      ·as_aux_lemma =>
       intro vs W hS hu hdep K hK; have HU := Lib.hid hu; clear hu; have d0 := hdep ⟨0, .data⟩ (by simp) rfl; simp only [PhiSr] at d0; have f0 := cell_keep hS T2.out; refine ⟨?_⟩; simp only [Act.put, sA, sB, sC, Nat.zero_add, Nat.reduceAdd, d0] at hK ⊢; go_simp; with_reducible refine hK _ _ (Below.refl _ _) ?_
       exact rfl
      ·as_aux_lemma =>
       intro vs W hS hu hdep K hK; have HU := Lib.hid hu; clear hu; refine ⟨?_⟩; simp only [Act.put, sA, sB, sC, Nat.zero_add, Nat.reduceAdd] at hK ⊢; go_simp; with_reducible refine hK _ _ (Below.refl _ _) ?_
       exact rfl
      ·as_aux_lemma =>
       intro vs W hS hu hdep K hK; have HU := Lib.hid hu; clear hu; refine ⟨?_⟩; simp only [Act.put, sA, sB, sC, Nat.zero_add, Nat.reduceAdd] at hK ⊢; go_simp; with_reducible refine hK _ _ (Below.refl _ _) ?_
       exact rfl
      ·as_aux_lemma =>
       intro vs W hS hu hdep K hK; have HU := Lib.hid hu; clear hu; have d0 := hdep ⟨3, .data⟩ (by simp) rfl; simp only [PhiSr] at d0; have f0 := cell_keep hS T2.out; refine ⟨?_⟩; simp only [Act.put, sA, sB, sC, Nat.zero_add, Nat.reduceAdd, d0] at hK ⊢; go_simp; with_reducible refine hK _ _ (Below.refl _ _) ?_
       exact rfl
      ·as_aux_lemma =>
       intro vs W hS hu hdep K hK; have HU := Lib.hid hu; clear hu; refine ⟨?_⟩; simp only [Act.put, sA, sB, sC, Nat.zero_add, Nat.reduceAdd] at hK ⊢; go_simp; with_reducible refine hK _ _ (Below.refl _ _) ?_
       exact rfl
      ·as_aux_lemma =>
       intro vs W hS hu hdep K hK; have HU := Lib.hid hu; clear hu; have d0 := hdep ⟨4, .data⟩ (by simp) rfl; simp only [PhiSr] at d0; have d1 := hdep ⟨5, .data⟩ (by simp) rfl; simp only [PhiSr] at d1; refine ⟨?_⟩; simp only [Act.put, sA, sB, sC, Nat.zero_add, Nat.reduceAdd, d0, d1] at hK ⊢; go_simp; with_reducible refine hK _ _ (Below.refl _ _) ?_
       exact rfl
      ·as_aux_lemma =>
       intro vs W hS hu hdep K hK; have HU := Lib.hid hu; clear hu; have d0 := hdep ⟨6, .data⟩ (by simp) rfl; simp only [PhiSr] at d0; have f0 := cell_keep hS HC.out; refine ⟨?_⟩; simp only [Act.put, sA, sB, sC, Nat.zero_add, Nat.reduceAdd, d0] at hK ⊢; go_simp; with_reducible refine hK _ _ (Below.refl _ _) ?_
       exact rfl
      ·as_aux_lemma =>
       intro vs W hS hu hdep K hK; have HU := Lib.hid hu; clear hu; refine ⟨?_⟩; simp only [Act.put, sA, sB, sC, Nat.zero_add, Nat.reduceAdd] at hK ⊢; go_simp; with_reducible refine hK _ _ (Below.refl _ _) ?_
       exact rfl
      ·as_aux_lemma =>
       intro vs W hS hu hdep K hK; have HU := Lib.hid hu; clear hu; refine ⟨?_⟩; simp only [Act.put, sA, sB, sC, Nat.zero_add, Nat.reduceAdd] at hK ⊢; go_simp; with_reducible refine hK _ _ (Below.refl _ _) ?_
       exact rfl
      ·as_aux_lemma =>
       intro vs W hS hu hdep K hK; have HU := Lib.hid hu; clear hu; have d0 := hdep ⟨9, .data⟩ (by simp) rfl; simp only [PhiSr] at d0; have f0 := cell_keep hS T2.out; refine ⟨?_⟩; simp only [Act.put, sA, sB, sC, Nat.zero_add, Nat.reduceAdd, d0] at hK ⊢; go_simp; with_reducible refine hK _ _ (Below.refl _ _) ?_
       exact rfl
      ·as_aux_lemma =>
       intro vs W hS hu hdep K hK; have HU := Lib.hid hu; clear hu; refine ⟨?_⟩; simp only [Act.put, sA, sB, sC, Nat.zero_add, Nat.reduceAdd] at hK ⊢; go_simp; with_reducible refine hK _ _ (Below.refl _ _) ?_
       exact rfl
      ·as_aux_lemma =>
       intro vs W hS hu hdep K hK; have HU := Lib.hid hu; clear hu; have d0 := hdep ⟨10, .data⟩ (by simp) rfl; simp only [PhiSr] at d0; have d1 := hdep ⟨11, .data⟩ (by simp) rfl; simp only [PhiSr] at d1; refine ⟨?_⟩; simp only [Act.put, sA, sB, sC, Nat.zero_add, Nat.reduceAdd, d0, d1] at hK ⊢; go_simp; with_reducible refine hK _ _ (Below.refl _ _) ?_
       exact rfl
      ·as_aux_lemma =>
       intro vs W hS hu hdep K hK; have HU := Lib.hid hu; clear hu; have d0 := hdep ⟨12, .data⟩ (by simp) rfl; simp only [PhiSr] at d0; have f0 := cell_keep hS HC.out; refine ⟨?_⟩; simp only [Act.put, sA, sB, sC, Nat.zero_add, Nat.reduceAdd, d0] at hK ⊢; go_simp; with_reducible refine hK _ _ (Below.refl _ _) ?_
       exact rfl
      ·as_aux_lemma =>
       intro vs W hS hu hdep K hK; have HU := Lib.hid hu; clear hu; have d0 := hdep ⟨13, .data⟩ (by simp) rfl; simp only [PhiSr] at d0; refine ⟨?_⟩; simp only [Act.put, sA, sB, sC, Nat.zero_add, Nat.reduceAdd, d0] at hK ⊢; go_simp; with_reducible refine hK _ _ (Below.refl _ _) ?_
       exact rfl
      ·as_aux_lemma =>
       intro vs W hS hu hdep K hK; have HU := Lib.hid hu; clear hu; have d0 := hdep ⟨14, .data⟩ (by simp) rfl; simp only [PhiSr] at d0; refine ⟨?_⟩; simp only [Act.put, sA, sB, sC, Nat.zero_add, Nat.reduceAdd, d0] at hK ⊢; go_simp; with_reducible refine hK _ _ (Below.refl _ _) ?_
       exact rfl
      ·as_aux_lemma =>
       intro vs W hS hu hdep K hK; have HU := Lib.hid hu; clear hu; have d0 := hdep ⟨8, .data⟩ (by simp) rfl; simp only [PhiSr] at d0; have d1 := hdep ⟨15, .data⟩ (by simp) rfl; simp only [PhiSr] at d1; refine ⟨?_⟩; simp only [fillR, Act.put, sA, sB, sC, Nat.zero_add, Nat.reduceAdd, d0, d1] at hK ⊢; go_simp; refine (har _).mono ?_; rintro e w' ⟨y, rfl, hy, rfl⟩; go_wp2_with fail; with_reducible refine hK _ _ (Below.refl _ _) ?_
       exact ⟨y, rfl, by omega⟩
      ·as_aux_lemma =>
       intro vs W hS hu hdep K hK; have HU := Lib.hid hu; clear hu; have d0 := hdep ⟨7, .data⟩ (by simp) rfl; simp only [PhiSr] at d0; have d1 := hdep ⟨16, .data⟩ (by simp) rfl; simp only [PhiSr] at d1; refine @exE1 _ _ _ d1 ?_; clear d1; intro y1 d1; have e1 := d1.1; have n1 := d1.2; clear d1; have hyd : (y1 : Int) ≤ (d : Int) := by omega
       refine ⟨?_⟩; simp only [Act.put, sA, sB, sC, Nat.zero_add, Nat.reduceAdd, d0, e1] at hK ⊢; go_simp; with_reducible refine hK _ _ (Below.refl _ _) ?_
       exact ⟨y1, _, rfl, n1⟩
      ·as_aux_lemma =>
       intro vs W hS hu hdep K hK; have HU := Lib.hid hu; clear hu; have d0 := hdep ⟨1, .data⟩ (by simp) rfl; simp only [PhiSr] at d0; have d1 := hdep ⟨2, .data⟩ (by simp) rfl; simp only [PhiSr] at d1; refine ⟨?_⟩; simp only [Act.put, sA, sB, sC, Nat.zero_add, Nat.reduceAdd, d0, d1] at hK ⊢; go_simp; with_reducible refine hK _ _ (Below.refl _ _) ?_
       exact rfl
      ·as_aux_lemma =>
       intro vs W hS hdep K hK; have d0 := hdep ⟨18, .data⟩ (by simp) rfl (by rfl); simp only [PhiSr] at d0; have d1 := hdep ⟨17, .data⟩ (by simp) rfl (by rfl); simp only [PhiSr] at d1; have hS : Below w4.heap.size w4 W := hS; refine @exE2 _ _ _ _ d1 ?_; clear d1; intro y d' d1; have e1 := d1.1; have hy := d1.2; clear d1; have hBQW := hBQ.below hS hQlt; have hrsW := hrs.below hS; have hcW := cell_keep hS HC.out; have hbdW := hbd.below hS; have hbeW : Below gQ w1 W := hbe.trans (hS.mono (Nat.le_of_lt hQlt)); obtain ⟨hx1, hx2, hx3⟩ := hrsW.cutRow hzl hcW hy hrl1 hrrow d'; have hfz := hrsW.frz z; have HX := Lib.hid (And.intro hx1 (And.intro hx2 hx3)); have HBW := Lib.hid hBQW; have HDW := Lib.hid hbdW; have HEW := Lib.hid hbeW; have hge := hrsW.ge gS rfl; clear hx1 hx2 hx3 hBQW hbdW hbeW hrsW hS; refine ⟨?_⟩; simp only [Act.put, sA, sB, sC, Nat.zero_add, Nat.reduceAdd, d0, e1] at hK ⊢; go_simp; with_reducible refine hK undef _ ?_
       obtain ⟨rows', hx1⟩ := HX.out.1; exact ⟨_, _, _, _, _, _, _, _, _, rows', HBW.out.far (p := ⟨gS, z, none⟩) (by show gQ ≠ gS; omega) _, HDW.out.mapL HX.out.2.2, hx1, HEW.out.grown HX.out.2.1 (Nat.le_of_lt HBW.out.lt) (fun j hj => by have := Option.some.inj hj; omega)⟩
     intro vs w5 hS _; have hok : SpOk gQ w1 kS w5 := hS; clear hS hBQ hrs hbd hbe OC0 OC1 O0 O1' hQ0 hQ1 hF0 hF1 hoo hkeep0 hBO HC T2 hro har; go_upto_region 22 with fail; obtain ⟨B1, y1, d1, B2, y2, d2, S9, c9, b9, rows9, hB9, hb9, hr9, hbz⟩ := hok; have hBRo := hBR.below hbz hRQ; have p0 := hB9.cell 0; have p1 := hB9.cell 1; have p2 := hB9.cell 2; have q0 := hBRo.cell 0; have q1 := hBRo.cell 1; have q2 := hBRo.cell 2; have r0 := hBRo.frozen 0; have r1 := hBRo.frozen 1; have r2 := hBRo.frozen 2; simp only [List.getElem?_toArray, List.getElem?_cons_zero, List.getElem?_cons_succ] at p0 p1 p2 q0 q1 q2; have hf := ((hBRo.set_ 0 (.slice B1 y1 d1)).set_ 1 (.slice B2 y2 d2)).set_ 2 (.slice S9 kS c9); have z0 := hf.cell 0; have z1 := hf.cell 1; have z2 := hf.cell 2; simp at z0 z1 z2; have hk3 := KeepG.set3 (base := gQ + 1) hBRo (by omega) B1 y1 d1 B2 y2 d2 S9 kS c9; have hrz := hr9 _ hk3; have hbdz := hb9.mapL hk3.lim; have hbw : Below w.heap.size w w5 := hb1.trans (hbz.mono hwQ); have hbf : Below w.heap.size w (((w5.setCell ⟨gR, 0, none⟩ (.slice B1 y1 d1)).setCell ⟨gR, 1, none⟩ (.slice B2 y2 d2)).setCell ⟨gR, 2, none⟩ (.slice S9 kS c9)) := ((hbw.setCell (p := ⟨gR, 0, none⟩) hgr _).setCell (p := ⟨gR, 1, none⟩) hgr _).setCell (p := ⟨gR, 2, none⟩) hgr _; clear hB9 hBRo hf hk3 hr9 hb9; go_wp2_with fail; exact bodyPost_ret (v := .agg #[.slice B1 y1 d1, .slice B2 y2 d2, .slice S9 kS c9]) (by simp [results, Tryz.results7, go_sem, z0, z1, z2]) rfl ⟨_, b9, rows9, rfl, ⟨_, _, S9, kS, c9, rfl, hbdz, hrz⟩, hbf⟩
    ·have t9 : decide ((z : Int) < (kS : Int)) = false := by simp; omega
     go_upto_region 22 with fail; refine wp_name ?_; intro w5 HW5
     have hok : SpOk gQ w1 kS w5 := by
      rw [HW5.out]; exact ⟨_, _, _, _, _, _, _, _, _, rows, hBQ, hbd, hkeep0, hbe⟩
     clear HW5 hBQ hrs hbd hbe O0 O1' t2 hQ0 hQ1 hF0 hF1 hoo hkeep0 hBO; obtain ⟨B1, y1, d1, B2, y2, d2, S9, c9, b9, rows9, hB9, hb9, hr9, hbz⟩ := hok; have hBRo := hBR.below hbz hRQ; have p0 := hB9.cell 0; have p1 := hB9.cell 1; have p2 := hB9.cell 2; have q0 := hBRo.cell 0; have q1 := hBRo.cell 1; have q2 := hBRo.cell 2; have r0 := hBRo.frozen 0; have r1 := hBRo.frozen 1; have r2 := hBRo.frozen 2; simp only [List.getElem?_toArray, List.getElem?_cons_zero, List.getElem?_cons_succ] at p0 p1 p2 q0 q1 q2; have hf := ((hBRo.set_ 0 (.slice B1 y1 d1)).set_ 1 (.slice B2 y2 d2)).set_ 2 (.slice S9 kS c9); have z0 := hf.cell 0; have z1 := hf.cell 1; have z2 := hf.cell 2; simp at z0 z1 z2; have hk3 := KeepG.set3 (base := gQ + 1) hBRo (by omega) B1 y1 d1 B2 y2 d2 S9 kS c9; have hrz := hr9 _ hk3; have hbdz := hb9.mapL hk3.lim; have hbw : Below w.heap.size w w5 := hb1.trans (hbz.mono hwQ); have hbf : Below w.heap.size w (((w5.setCell ⟨gR, 0, none⟩ (.slice B1 y1 d1)).setCell ⟨gR, 1, none⟩ (.slice B2 y2 d2)).setCell ⟨gR, 2, none⟩ (.slice S9 kS c9)) := ((hbw.setCell (p := ⟨gR, 0, none⟩) hgr _).setCell (p := ⟨gR, 1, none⟩) hgr _).setCell (p := ⟨gR, 2, none⟩) hgr _; clear hB9 hBRo hf hk3 hr9 hb9; go_wp2_with fail; exact bodyPost_ret (v := .agg #[.slice B1 y1 d1, .slice B2 y2 d2, .slice S9 kS c9]) (by simp [results, Tryz.results7, go_sem, z0, z1, z2]) rfl ⟨_, b9, rows9, rfl, ⟨_, _, S9, kS, c9, rfl, hbdz, hrz⟩, hbf⟩
   ·by_cases hz9 : z < kS
    ·have t9 : decide ((z : Int) < (kS : Int)) = true := by simp; omega
     have hzk : (z : Int) < (kS : Int) := by omega
     have hzl : z < rows.length := by have := HKS.out; omega
     have hz20 : z ≤ 16 := by omega
     obtain ⟨gS, c8, Ar, m, d, r, e0, hc8, hfz8, HR, hro, hml⟩ := hrs.at_ hzl; have hml2 := HLEN.out z r HR.out; have hm0 : 0 < m := by omega
     have hm20 : m ≤ 17 := by omega
     have hmd := hro.cap; have t10 : decide ((m : Int) > 0) = true := by simp; omega
     have e0' : S2 = some ⟨gS, 0, none⟩ := by injection e0
     subst e0'; obtain ⟨gB, rfl⟩ := hro.some_ hm0; have HC := Lib.hid hc8; have T2 := Lib.hid t2
     have har : ∀ W, Calls Tryz.prog 10 #[.int .i64 by_, .int .i64 ((m : Int))] W fun e w' => ∃ y : Nat, e = .returned (.int .i64 (y : Int)) ∧ y < m ∧ W = w' := fun W => by
      have h := around_n by_ (m) W i2.1 i2.2 (by omega) (by omega)
      skip
      refine h.mono ?_; rintro e w' ⟨y, h1, h2, _, h3⟩; exact ⟨y, h1, h2, h3⟩
     have s1m : IntKind.i64.wrap ((m : Int) + 1) = (m : Int) + 1 := by rw [IntWalk.i64_in _ (by omega)]
     clear hml hml2 e0 hfz8; have c9 := hc8; clear hc8; go_upto_region 21 with fail; have OC0 := Lib.hid O0; have OC1 := Lib.hid O1'; clear t2; refine region_chain [15] [.early, .early, .early, .early, .early, .early, .early, .early, .early, .early, .early, .early, .early, .early, .early, .chain 0] [] [] (PhiSs gQ gS kS c2 z m d gB (some ⟨gB, 0, none⟩) by_ (.slice O1 ok1 oc1) (.slice O2 ok2 oc2)) (fun w w' => Below w.heap.size w w') (SSx gQ w1 kS w4) (by kernel_rfl) (by kernel_rfl) (by kernel_rfl) (by kernel_rfl) (sK (fun _ _ _ _ _ h => h) (sK (fun _ _ _ _ _ h => h) (sK (fun _ _ _ _ _ h => h) (sK (fun _ _ _ _ _ h => h) (sK (fun _ _ _ _ _ h => h) (sK (fun _ _ _ _ _ h => h) (sK (fun _ _ _ _ _ h => h) (sK (fun _ _ _ _ _ h => h) (sK (fun _ _ _ _ _ h => h) (sK (fun _ _ _ _ _ h => h) (sK (fun _ _ _ _ _ h => h) (sK (fun _ _ _ _ _ h => h) (sK (fun _ _ _ _ _ h => h) (sK (fun _ _ _ _ _ h => h) (sK (fun _ _ _ _ _ h => h) (sK (fun _ _ _ _ _ h => h) (sZ))))))))))))))))) PhiSs.keepR PhiSs.keepF (fun _ _ _ _ hR hS => Below.tr hS hR) (by rintro (_ | ⟨_, _ | _⟩) vs vs' w _ h <;> exact h) (fun _ => bD _) (fun vs => by simp only [fillR, Act.put, sA, sB, sC, Nat.zero_add, Nat.reduceAdd]; rfl) ?_ ?_
     ·refine sK ?_ (sK ?_ (sK ?_ (sK ?_ (sK ?_ (sK ?_ (sK ?_ (sK ?_ (sK ?_ (sK ?_ (sK ?_ (sK ?_ (sK ?_ (sK ?_ (sK ?_ (sK ?_ (sZ))))))))))))))))
      ·as_aux_lemma =>
       intro vs W hS hu hdep K hK; have HU := Lib.hid hu; clear hu; refine ⟨?_⟩; simp only [Act.put, sA, sB, sC, Nat.zero_add, Nat.reduceAdd] at hK ⊢; go_simp; with_reducible refine hK _ _ (Below.refl _ _) ?_
       exact rfl
      ·as_aux_lemma =>
       intro vs W hS hu hdep K hK; have HU := Lib.hid hu; clear hu; have d0 := hdep ⟨0, .data⟩ (by simp) rfl; simp only [PhiSs] at d0; have f0 := cell_keep hS T2.out; refine ⟨?_⟩; simp only [Act.put, sA, sB, sC, Nat.zero_add, Nat.reduceAdd, d0] at hK ⊢; go_simp; with_reducible refine hK _ _ (Below.refl _ _) ?_
       exact rfl
      ·as_aux_lemma =>
       intro vs W hS hu hdep K hK; have HU := Lib.hid hu; clear hu; refine ⟨?_⟩; simp only [Act.put, sA, sB, sC, Nat.zero_add, Nat.reduceAdd] at hK ⊢; go_simp; with_reducible refine hK _ _ (Below.refl _ _) ?_
       exact rfl
      ·as_aux_lemma =>
       intro vs W hS hu hdep K hK; have HU := Lib.hid hu; clear hu; have d0 := hdep ⟨1, .data⟩ (by simp) rfl; simp only [PhiSs] at d0; have d1 := hdep ⟨2, .data⟩ (by simp) rfl; simp only [PhiSs] at d1; refine ⟨?_⟩; simp only [Act.put, sA, sB, sC, Nat.zero_add, Nat.reduceAdd, d0, d1] at hK ⊢; go_simp; with_reducible refine hK _ _ (Below.refl _ _) ?_
       exact rfl
      ·as_aux_lemma =>
       intro vs W hS hu hdep K hK; have HU := Lib.hid hu; clear hu; have d0 := hdep ⟨3, .data⟩ (by simp) rfl; simp only [PhiSs] at d0; have f0 := cell_keep hS HC.out; refine ⟨?_⟩; simp only [Act.put, sA, sB, sC, Nat.zero_add, Nat.reduceAdd, d0] at hK ⊢; go_simp; with_reducible refine hK _ _ (Below.refl _ _) ?_
       exact rfl
      ·as_aux_lemma =>
       intro vs W hS hu hdep K hK; have HU := Lib.hid hu; clear hu; refine ⟨?_⟩; simp only [Act.put, sA, sB, sC, Nat.zero_add, Nat.reduceAdd] at hK ⊢; go_simp; with_reducible refine hK _ _ (Below.refl _ _) ?_
       exact rfl
      ·as_aux_lemma =>
       intro vs W hS hu hdep K hK; have HU := Lib.hid hu; clear hu; refine ⟨?_⟩; simp only [Act.put, sA, sB, sC, Nat.zero_add, Nat.reduceAdd] at hK ⊢; go_simp; with_reducible refine hK _ _ (Below.refl _ _) ?_
       exact rfl
      ·as_aux_lemma =>
       intro vs W hS hu hdep K hK; have HU := Lib.hid hu; clear hu; have d0 := hdep ⟨6, .data⟩ (by simp) rfl; simp only [PhiSs] at d0; have f0 := cell_keep hS T2.out; refine ⟨?_⟩; simp only [Act.put, sA, sB, sC, Nat.zero_add, Nat.reduceAdd, d0] at hK ⊢; go_simp; with_reducible refine hK _ _ (Below.refl _ _) ?_
       exact rfl
      ·as_aux_lemma =>
       intro vs W hS hu hdep K hK; have HU := Lib.hid hu; clear hu; refine ⟨?_⟩; simp only [Act.put, sA, sB, sC, Nat.zero_add, Nat.reduceAdd] at hK ⊢; go_simp; with_reducible refine hK _ _ (Below.refl _ _) ?_
       exact rfl
      ·as_aux_lemma =>
       intro vs W hS hu hdep K hK; have HU := Lib.hid hu; clear hu; have d0 := hdep ⟨7, .data⟩ (by simp) rfl; simp only [PhiSs] at d0; have d1 := hdep ⟨8, .data⟩ (by simp) rfl; simp only [PhiSs] at d1; refine ⟨?_⟩; simp only [Act.put, sA, sB, sC, Nat.zero_add, Nat.reduceAdd, d0, d1] at hK ⊢; go_simp; with_reducible refine hK _ _ (Below.refl _ _) ?_
       exact rfl
      ·as_aux_lemma =>
       intro vs W hS hu hdep K hK; have HU := Lib.hid hu; clear hu; have d0 := hdep ⟨9, .data⟩ (by simp) rfl; simp only [PhiSs] at d0; have f0 := cell_keep hS HC.out; refine ⟨?_⟩; simp only [Act.put, sA, sB, sC, Nat.zero_add, Nat.reduceAdd, d0] at hK ⊢; go_simp; with_reducible refine hK _ _ (Below.refl _ _) ?_
       exact rfl
      ·as_aux_lemma =>
       intro vs W hS hu hdep K hK; have HU := Lib.hid hu; clear hu; have d0 := hdep ⟨10, .data⟩ (by simp) rfl; simp only [PhiSs] at d0; refine ⟨?_⟩; simp only [Act.put, sA, sB, sC, Nat.zero_add, Nat.reduceAdd, d0] at hK ⊢; go_simp; with_reducible refine hK _ _ (Below.refl _ _) ?_
       exact rfl
      ·as_aux_lemma =>
       intro vs W hS hu hdep K hK; have HU := Lib.hid hu; clear hu; have d0 := hdep ⟨5, .data⟩ (by simp) rfl; simp only [PhiSs] at d0; have d1 := hdep ⟨11, .data⟩ (by simp) rfl; simp only [PhiSs] at d1; refine ⟨?_⟩; simp only [fillR, Act.put, sA, sB, sC, Nat.zero_add, Nat.reduceAdd, d0, d1] at hK ⊢; go_simp; refine (har _).mono ?_; rintro e w' ⟨y, rfl, hy, rfl⟩; go_wp2_with fail; with_reducible refine hK _ _ (Below.refl _ _) ?_
       exact ⟨y, rfl, by omega⟩
      ·as_aux_lemma =>
       intro vs W hS hu hdep K hK; have HU := Lib.hid hu; clear hu; have f0 := cell_keep hS OC0.out; have f1 := cell_keep hS OC1.out; refine ⟨?_⟩; simp only [Act.put, sA, sB, sC, Nat.zero_add, Nat.reduceAdd] at hK ⊢; go_simp; with_reducible refine hK _ _ (Below.refl _ _) ?_
       exact rfl
      ·as_aux_lemma =>
       intro vs W hS hu hdep K hK; have HU := Lib.hid hu; clear hu; have d0 := hdep ⟨4, .data⟩ (by simp) rfl; simp only [PhiSs] at d0; have d1 := hdep ⟨12, .data⟩ (by simp) rfl; simp only [PhiSs] at d1; refine @exE1 _ _ _ d1 ?_; clear d1; intro y1 d1; have e1 := d1.1; have n1 := d1.2; clear d1; have hyd : (y1 : Int) < (m : Int) := by omega
       refine ⟨?_⟩; simp only [Act.put, sA, sB, sC, Nat.zero_add, Nat.reduceAdd, d0, e1] at hK ⊢; go_simp; with_reducible refine hK _ _ (Below.refl _ _) ?_
       exact ⟨y1, rfl, n1⟩
      ·as_aux_lemma =>
       intro vs W hS hdep K hK; have d0 := hdep ⟨14, .data⟩ (by simp) rfl (by rfl); simp only [PhiSs] at d0; have d1 := hdep ⟨13, .data⟩ (by simp) rfl (by rfl); simp only [PhiSs] at d1; have hS : Below w4.heap.size w4 W := hS; refine @exE1 _ _ _ d0 ?_; clear d0; intro y d0; have e0 := d0.1; have hy := d0.2; clear d0; have hBQW := hBQ.below hS hQlt; have hrsW := hrs.below hS; have hcW := cell_keep hS HC.out; have hbdW := hbd.below hS; have hooW := hoo.below hS; have hbeW : Below gQ w1 W := hbe.trans (hS.mono (Nat.le_of_lt hQlt)); obtain ⟨hx1, hx2, hx3, hge⟩ := hrsW.updRow (i := y) hzl hcW hooW hrl1 hrrow; obtain ⟨⟨u1, f1⟩, ⟨u2, f2⟩, f3, f4⟩ := own_store2 (hro.below hS) hy; have HX := Lib.hid (And.intro hx1 (And.intro hx2 hx3)); have HBW := Lib.hid hBQW; have HDW := Lib.hid hbdW; have HEW := Lib.hid hbeW; clear hx1 hx2 hx3 hBQW hbdW hbeW hrsW hS hooW; refine ⟨?_⟩; simp only [Act.put, sA, sB, sC, Nat.zero_add, Nat.reduceAdd, e0, d1] at hK ⊢; go_simp; with_reducible refine hK undef _ ?_
       obtain ⟨rows', hx1⟩ := HX.out.1; exact ⟨_, _, _, _, _, _, _, _, _, rows', (HBW.out.far (p := ⟨gB, y * 2, none⟩) (by show gQ ≠ gB; omega) _).far (p := ⟨gB, y * 2 + 1, none⟩) (by show gQ ≠ gB; omega) _, HDW.out.mapL HX.out.2.2, hx1, HEW.out.grown HX.out.2.1 (Nat.le_of_lt HBW.out.lt) (fun j hj => by have := Option.some.inj hj; omega)⟩
     intro vs w5 hS _; have hok : SpOk gQ w1 kS w5 := hS; clear hS hBQ hrs hbd hbe OC0 OC1 O0 O1' hQ0 hQ1 hF0 hF1 hoo hkeep0 hBO HC T2 hro har; go_upto_region 22 with fail; obtain ⟨B1, y1, d1, B2, y2, d2, S9, c9, b9, rows9, hB9, hb9, hr9, hbz⟩ := hok; have hBRo := hBR.below hbz hRQ; have p0 := hB9.cell 0; have p1 := hB9.cell 1; have p2 := hB9.cell 2; have q0 := hBRo.cell 0; have q1 := hBRo.cell 1; have q2 := hBRo.cell 2; have r0 := hBRo.frozen 0; have r1 := hBRo.frozen 1; have r2 := hBRo.frozen 2; simp only [List.getElem?_toArray, List.getElem?_cons_zero, List.getElem?_cons_succ] at p0 p1 p2 q0 q1 q2; have hf := ((hBRo.set_ 0 (.slice B1 y1 d1)).set_ 1 (.slice B2 y2 d2)).set_ 2 (.slice S9 kS c9); have z0 := hf.cell 0; have z1 := hf.cell 1; have z2 := hf.cell 2; simp at z0 z1 z2; have hk3 := KeepG.set3 (base := gQ + 1) hBRo (by omega) B1 y1 d1 B2 y2 d2 S9 kS c9; have hrz := hr9 _ hk3; have hbdz := hb9.mapL hk3.lim; have hbw : Below w.heap.size w w5 := hb1.trans (hbz.mono hwQ); have hbf : Below w.heap.size w (((w5.setCell ⟨gR, 0, none⟩ (.slice B1 y1 d1)).setCell ⟨gR, 1, none⟩ (.slice B2 y2 d2)).setCell ⟨gR, 2, none⟩ (.slice S9 kS c9)) := ((hbw.setCell (p := ⟨gR, 0, none⟩) hgr _).setCell (p := ⟨gR, 1, none⟩) hgr _).setCell (p := ⟨gR, 2, none⟩) hgr _; clear hB9 hBRo hf hk3 hr9 hb9; go_wp2_with fail; exact bodyPost_ret (v := .agg #[.slice B1 y1 d1, .slice B2 y2 d2, .slice S9 kS c9]) (by simp [results, Tryz.results7, go_sem, z0, z1, z2]) rfl ⟨_, b9, rows9, rfl, ⟨_, _, S9, kS, c9, rfl, hbdz, hrz⟩, hbf⟩
    ·have t9 : decide ((z : Int) < (kS : Int)) = false := by simp; omega
     go_upto_region 22 with fail; refine wp_name ?_; intro w5 HW5
     have hok : SpOk gQ w1 kS w5 := by
      rw [HW5.out]; exact ⟨_, _, _, _, _, _, _, _, _, rows, hBQ, hbd, hkeep0, hbe⟩
     clear HW5 hBQ hrs hbd hbe O0 O1' t2 hQ0 hQ1 hF0 hF1 hoo hkeep0 hBO; obtain ⟨B1, y1, d1, B2, y2, d2, S9, c9, b9, rows9, hB9, hb9, hr9, hbz⟩ := hok; have hBRo := hBR.below hbz hRQ; have p0 := hB9.cell 0; have p1 := hB9.cell 1; have p2 := hB9.cell 2; have q0 := hBRo.cell 0; have q1 := hBRo.cell 1; have q2 := hBRo.cell 2; have r0 := hBRo.frozen 0; have r1 := hBRo.frozen 1; have r2 := hBRo.frozen 2; simp only [List.getElem?_toArray, List.getElem?_cons_zero, List.getElem?_cons_succ] at p0 p1 p2 q0 q1 q2; have hf := ((hBRo.set_ 0 (.slice B1 y1 d1)).set_ 1 (.slice B2 y2 d2)).set_ 2 (.slice S9 kS c9); have z0 := hf.cell 0; have z1 := hf.cell 1; have z2 := hf.cell 2; simp at z0 z1 z2; have hk3 := KeepG.set3 (base := gQ + 1) hBRo (by omega) B1 y1 d1 B2 y2 d2 S9 kS c9; have hrz := hr9 _ hk3; have hbdz := hb9.mapL hk3.lim; have hbw : Below w.heap.size w w5 := hb1.trans (hbz.mono hwQ); have hbf : Below w.heap.size w (((w5.setCell ⟨gR, 0, none⟩ (.slice B1 y1 d1)).setCell ⟨gR, 1, none⟩ (.slice B2 y2 d2)).setCell ⟨gR, 2, none⟩ (.slice S9 kS c9)) := ((hbw.setCell (p := ⟨gR, 0, none⟩) hgr _).setCell (p := ⟨gR, 1, none⟩) hgr _).setCell (p := ⟨gR, 2, none⟩) hgr _; clear hB9 hBRo hf hk3 hr9 hb9; go_wp2_with fail; exact bodyPost_ret (v := .agg #[.slice B1 y1 d1, .slice B2 y2 d2, .slice S9 kS c9]) (by simp [results, Tryz.results7, go_sem, z0, z1, z2]) rfl ⟨_, b9, rows9, rfl, ⟨_, _, S9, kS, c9, rfl, hbdz, hrz⟩, hbf⟩
   ·by_cases hz9 : z < kS
    ·have t9 : decide ((z : Int) < (kS : Int)) = true := by simp; omega
     have hzk : (z : Int) < (kS : Int) := by omega
     have hzl : z < rows.length := by have := HKS.out; omega
     have hz20 : z ≤ 16 := by omega
     obtain ⟨gS, c8, Ar, m, d, r, e0, hc8, hfz8, HR, hro, hml⟩ := hrs.at_ hzl; have hml2 := HLEN.out z r HR.out; have hm0 : 0 < m := by omega
     have hm20 : m ≤ 17 := by omega
     have hmd := hro.cap; have t10 : decide ((m : Int) > 0) = true := by simp; omega
     have e0' : S2 = some ⟨gS, 0, none⟩ := by injection e0
     subst e0'; obtain ⟨gB, rfl⟩ := hro.some_ hm0; have HC := Lib.hid hc8; have T2 := Lib.hid t2
     have har : ∀ W, Calls Tryz.prog 10 #[.int .i64 by_, .int .i64 ((m : Int))] W fun e w' => ∃ y : Nat, e = .returned (.int .i64 (y : Int)) ∧ y < m ∧ W = w' := fun W => by
      have h := around_n by_ (m) W i2.1 i2.2 (by omega) (by omega)
      skip
      refine h.mono ?_; rintro e w' ⟨y, h1, h2, _, h3⟩; exact ⟨y, h1, h2, h3⟩
     have s1m : IntKind.i64.wrap ((m : Int) + 1) = (m : Int) + 1 := by rw [IntWalk.i64_in _ (by omega)]
     clear hml hml2 e0 hfz8; have c9 := hc8; clear hc8; go_wp2_with fail; refine (around_n by_ 400 _ i2.1 i2.2 (by omega) (by omega)).mono ?_; rintro e w' ⟨y1, rfl, hy1, _, rfl⟩; go_wp2_with fail; refine (around_n by_ 3 _ i2.1 i2.2 (by omega) (by omega)).mono ?_; rintro e w' ⟨y2, rfl, hy2, _, rfl⟩; have s1 : IntKind.i64.wrap (1 + (y2 : Int)) = 1 + (y2 : Int) := by rw [IntWalk.i64_in _ (by omega)]
     have HO := rof_s y1 (1 + y2) w4 (by omega) (by omega) (by omega); rw [show (((1 + y2 : Nat) : Nat) : Int) = 1 + (y2 : Int) by push_cast; rfl] at HO; go_wp2_with fail; refine HO.mono ?_; rintro e w6 ⟨C1, ck1, cc1, C2, ck2, cc2, rfl, hr, hb6⟩; have hrp := hr.1.rtP; clear HO s1 hr; go_upto_region 11 with fail; refine wp_name ?_; intro w7 HW7; have hb67 : Below w6.heap.size w6 w7 := by rw [HW7.out]; exact bA _ _
     have hBC : Blk w7 w6.heap.size 25 #[.slice C1 ck1 cc1, .slice C2 ck2 cc2] := by rw [HW7.out]; exact Blk.new _ _ _
     obtain ⟨gC, hgC⟩ : ∃ g, Hid (g = w6.heap.size) := ⟨_, rfl⟩; rw [← hgC.out] at hBC ⊢; have hoo := hrp.below hb67; have hb7 := Below.tr hb6 hb67; have O0 := hBC.cell 0; have O1' := hBC.cell 1; simp only [List.getElem?_toArray, List.getElem?_cons_zero, List.getElem?_cons_succ] at O0 O1'; have hBQ := hBQ.below hb7 hQlt; have hbe : Below gQ w1 w7 := hbe.trans (hb7.mono (Nat.le_of_lt hQlt)); have hQlt := hBQ.lt; have hrs := hrs.below hb7; have hro := hro.below hb7; have hbd := hbd.below hb7; have t2 := cell_keep hb7 t2; have HC := Lib.hid (cell_keep hb7 HC.out); clear HW7 hgC hBC hrp hb6 hb67 hb7; have T2 := Lib.hid t2; have OC0 := Lib.hid O0; have OC1 := Lib.hid O1'; clear t2; refine region_chain [15] [.early, .early, .early, .early, .early, .early, .early, .early, .early, .early, .early, .early, .early, .early, .early, .chain 0] [] [] (PhiSs gQ gS kS c2 z m d gB (some ⟨gB, 0, none⟩) by_ (.slice C1 ck1 cc1) (.slice C2 ck2 cc2)) (fun w w' => Below w.heap.size w w') (SSx gQ w1 kS w7) (by kernel_rfl) (by kernel_rfl) (by kernel_rfl) (by kernel_rfl) (sK (fun _ _ _ _ _ h => h) (sK (fun _ _ _ _ _ h => h) (sK (fun _ _ _ _ _ h => h) (sK (fun _ _ _ _ _ h => h) (sK (fun _ _ _ _ _ h => h) (sK (fun _ _ _ _ _ h => h) (sK (fun _ _ _ _ _ h => h) (sK (fun _ _ _ _ _ h => h) (sK (fun _ _ _ _ _ h => h) (sK (fun _ _ _ _ _ h => h) (sK (fun _ _ _ _ _ h => h) (sK (fun _ _ _ _ _ h => h) (sK (fun _ _ _ _ _ h => h) (sK (fun _ _ _ _ _ h => h) (sK (fun _ _ _ _ _ h => h) (sK (fun _ _ _ _ _ h => h) (sZ))))))))))))))))) PhiSs.keepR PhiSs.keepF (fun _ _ _ _ hR hS => Below.tr hS hR) (by rintro (_ | ⟨_, _ | _⟩) vs vs' w _ h <;> exact h) (fun _ => bD _) (fun vs => by simp only [fillR, Act.put, sA, sB, sC, Nat.zero_add, Nat.reduceAdd]; rfl) ?_ ?_
     ·refine sK ?_ (sK ?_ (sK ?_ (sK ?_ (sK ?_ (sK ?_ (sK ?_ (sK ?_ (sK ?_ (sK ?_ (sK ?_ (sK ?_ (sK ?_ (sK ?_ (sK ?_ (sK ?_ (sZ))))))))))))))))
      ·as_aux_lemma =>
       intro vs W hS hu hdep K hK; have HU := Lib.hid hu; clear hu; refine ⟨?_⟩; simp only [Act.put, sA, sB, sC, Nat.zero_add, Nat.reduceAdd] at hK ⊢; go_simp; with_reducible refine hK _ _ (Below.refl _ _) ?_
       exact rfl
      ·as_aux_lemma =>
       intro vs W hS hu hdep K hK; have HU := Lib.hid hu; clear hu; have d0 := hdep ⟨0, .data⟩ (by simp) rfl; simp only [PhiSs] at d0; have f0 := cell_keep hS T2.out; refine ⟨?_⟩; simp only [Act.put, sA, sB, sC, Nat.zero_add, Nat.reduceAdd, d0] at hK ⊢; go_simp; with_reducible refine hK _ _ (Below.refl _ _) ?_
       exact rfl
      ·as_aux_lemma =>
       intro vs W hS hu hdep K hK; have HU := Lib.hid hu; clear hu; refine ⟨?_⟩; simp only [Act.put, sA, sB, sC, Nat.zero_add, Nat.reduceAdd] at hK ⊢; go_simp; with_reducible refine hK _ _ (Below.refl _ _) ?_
       exact rfl
      ·as_aux_lemma =>
       intro vs W hS hu hdep K hK; have HU := Lib.hid hu; clear hu; have d0 := hdep ⟨1, .data⟩ (by simp) rfl; simp only [PhiSs] at d0; have d1 := hdep ⟨2, .data⟩ (by simp) rfl; simp only [PhiSs] at d1; refine ⟨?_⟩; simp only [Act.put, sA, sB, sC, Nat.zero_add, Nat.reduceAdd, d0, d1] at hK ⊢; go_simp; with_reducible refine hK _ _ (Below.refl _ _) ?_
       exact rfl
      ·as_aux_lemma =>
       intro vs W hS hu hdep K hK; have HU := Lib.hid hu; clear hu; have d0 := hdep ⟨3, .data⟩ (by simp) rfl; simp only [PhiSs] at d0; have f0 := cell_keep hS HC.out; refine ⟨?_⟩; simp only [Act.put, sA, sB, sC, Nat.zero_add, Nat.reduceAdd, d0] at hK ⊢; go_simp; with_reducible refine hK _ _ (Below.refl _ _) ?_
       exact rfl
      ·as_aux_lemma =>
       intro vs W hS hu hdep K hK; have HU := Lib.hid hu; clear hu; refine ⟨?_⟩; simp only [Act.put, sA, sB, sC, Nat.zero_add, Nat.reduceAdd] at hK ⊢; go_simp; with_reducible refine hK _ _ (Below.refl _ _) ?_
       exact rfl
      ·as_aux_lemma =>
       intro vs W hS hu hdep K hK; have HU := Lib.hid hu; clear hu; refine ⟨?_⟩; simp only [Act.put, sA, sB, sC, Nat.zero_add, Nat.reduceAdd] at hK ⊢; go_simp; with_reducible refine hK _ _ (Below.refl _ _) ?_
       exact rfl
      ·as_aux_lemma =>
       intro vs W hS hu hdep K hK; have HU := Lib.hid hu; clear hu; have d0 := hdep ⟨6, .data⟩ (by simp) rfl; simp only [PhiSs] at d0; have f0 := cell_keep hS T2.out; refine ⟨?_⟩; simp only [Act.put, sA, sB, sC, Nat.zero_add, Nat.reduceAdd, d0] at hK ⊢; go_simp; with_reducible refine hK _ _ (Below.refl _ _) ?_
       exact rfl
      ·as_aux_lemma =>
       intro vs W hS hu hdep K hK; have HU := Lib.hid hu; clear hu; refine ⟨?_⟩; simp only [Act.put, sA, sB, sC, Nat.zero_add, Nat.reduceAdd] at hK ⊢; go_simp; with_reducible refine hK _ _ (Below.refl _ _) ?_
       exact rfl
      ·as_aux_lemma =>
       intro vs W hS hu hdep K hK; have HU := Lib.hid hu; clear hu; have d0 := hdep ⟨7, .data⟩ (by simp) rfl; simp only [PhiSs] at d0; have d1 := hdep ⟨8, .data⟩ (by simp) rfl; simp only [PhiSs] at d1; refine ⟨?_⟩; simp only [Act.put, sA, sB, sC, Nat.zero_add, Nat.reduceAdd, d0, d1] at hK ⊢; go_simp; with_reducible refine hK _ _ (Below.refl _ _) ?_
       exact rfl
      ·as_aux_lemma =>
       intro vs W hS hu hdep K hK; have HU := Lib.hid hu; clear hu; have d0 := hdep ⟨9, .data⟩ (by simp) rfl; simp only [PhiSs] at d0; have f0 := cell_keep hS HC.out; refine ⟨?_⟩; simp only [Act.put, sA, sB, sC, Nat.zero_add, Nat.reduceAdd, d0] at hK ⊢; go_simp; with_reducible refine hK _ _ (Below.refl _ _) ?_
       exact rfl
      ·as_aux_lemma =>
       intro vs W hS hu hdep K hK; have HU := Lib.hid hu; clear hu; have d0 := hdep ⟨10, .data⟩ (by simp) rfl; simp only [PhiSs] at d0; refine ⟨?_⟩; simp only [Act.put, sA, sB, sC, Nat.zero_add, Nat.reduceAdd, d0] at hK ⊢; go_simp; with_reducible refine hK _ _ (Below.refl _ _) ?_
       exact rfl
      ·as_aux_lemma =>
       intro vs W hS hu hdep K hK; have HU := Lib.hid hu; clear hu; have d0 := hdep ⟨5, .data⟩ (by simp) rfl; simp only [PhiSs] at d0; have d1 := hdep ⟨11, .data⟩ (by simp) rfl; simp only [PhiSs] at d1; refine ⟨?_⟩; simp only [fillR, Act.put, sA, sB, sC, Nat.zero_add, Nat.reduceAdd, d0, d1] at hK ⊢; go_simp; refine (har _).mono ?_; rintro e w' ⟨y, rfl, hy, rfl⟩; go_wp2_with fail; with_reducible refine hK _ _ (Below.refl _ _) ?_
       exact ⟨y, rfl, by omega⟩
      ·as_aux_lemma =>
       intro vs W hS hu hdep K hK; have HU := Lib.hid hu; clear hu; have f0 := cell_keep hS OC0.out; have f1 := cell_keep hS OC1.out; refine ⟨?_⟩; simp only [Act.put, sA, sB, sC, Nat.zero_add, Nat.reduceAdd] at hK ⊢; go_simp; with_reducible refine hK _ _ (Below.refl _ _) ?_
       exact rfl
      ·as_aux_lemma =>
       intro vs W hS hu hdep K hK; have HU := Lib.hid hu; clear hu; have d0 := hdep ⟨4, .data⟩ (by simp) rfl; simp only [PhiSs] at d0; have d1 := hdep ⟨12, .data⟩ (by simp) rfl; simp only [PhiSs] at d1; refine @exE1 _ _ _ d1 ?_; clear d1; intro y1 d1; have e1 := d1.1; have n1 := d1.2; clear d1; have hyd : (y1 : Int) < (m : Int) := by omega
       refine ⟨?_⟩; simp only [Act.put, sA, sB, sC, Nat.zero_add, Nat.reduceAdd, d0, e1] at hK ⊢; go_simp; with_reducible refine hK _ _ (Below.refl _ _) ?_
       exact ⟨y1, rfl, n1⟩
      ·as_aux_lemma =>
       intro vs W hS hdep K hK; have d0 := hdep ⟨14, .data⟩ (by simp) rfl (by rfl); simp only [PhiSs] at d0; have d1 := hdep ⟨13, .data⟩ (by simp) rfl (by rfl); simp only [PhiSs] at d1; have hS : Below w7.heap.size w7 W := hS; refine @exE1 _ _ _ d0 ?_; clear d0; intro y d0; have e0 := d0.1; have hy := d0.2; clear d0; have hBQW := hBQ.below hS hQlt; have hrsW := hrs.below hS; have hcW := cell_keep hS HC.out; have hbdW := hbd.below hS; have hooW := hoo.below hS; have hbeW : Below gQ w1 W := hbe.trans (hS.mono (Nat.le_of_lt hQlt)); obtain ⟨hx1, hx2, hx3, hge⟩ := hrsW.updRow (i := y) hzl hcW hooW hrl1 hrrow; obtain ⟨⟨u1, f1⟩, ⟨u2, f2⟩, f3, f4⟩ := own_store2 (hro.below hS) hy; have HX := Lib.hid (And.intro hx1 (And.intro hx2 hx3)); have HBW := Lib.hid hBQW; have HDW := Lib.hid hbdW; have HEW := Lib.hid hbeW; clear hx1 hx2 hx3 hBQW hbdW hbeW hrsW hS hooW; refine ⟨?_⟩; simp only [Act.put, sA, sB, sC, Nat.zero_add, Nat.reduceAdd, e0, d1] at hK ⊢; go_simp; with_reducible refine hK undef _ ?_
       obtain ⟨rows', hx1⟩ := HX.out.1; exact ⟨_, _, _, _, _, _, _, _, _, rows', (HBW.out.far (p := ⟨gB, y * 2, none⟩) (by show gQ ≠ gB; omega) _).far (p := ⟨gB, y * 2 + 1, none⟩) (by show gQ ≠ gB; omega) _, HDW.out.mapL HX.out.2.2, hx1, HEW.out.grown HX.out.2.1 (Nat.le_of_lt HBW.out.lt) (fun j hj => by have := Option.some.inj hj; omega)⟩
     intro vs w5 hS _; have hok : SpOk gQ w1 kS w5 := hS; clear hS hBQ hrs hbd hbe OC0 OC1 O0 O1' hQ0 hQ1 hF0 hF1 hoo hkeep0 hBO HC T2 hro har; go_upto_region 22 with fail; obtain ⟨B1, y1, d1, B2, y2, d2, S9, c9, b9, rows9, hB9, hb9, hr9, hbz⟩ := hok; have hBRo := hBR.below hbz hRQ; have p0 := hB9.cell 0; have p1 := hB9.cell 1; have p2 := hB9.cell 2; have q0 := hBRo.cell 0; have q1 := hBRo.cell 1; have q2 := hBRo.cell 2; have r0 := hBRo.frozen 0; have r1 := hBRo.frozen 1; have r2 := hBRo.frozen 2; simp only [List.getElem?_toArray, List.getElem?_cons_zero, List.getElem?_cons_succ] at p0 p1 p2 q0 q1 q2; have hf := ((hBRo.set_ 0 (.slice B1 y1 d1)).set_ 1 (.slice B2 y2 d2)).set_ 2 (.slice S9 kS c9); have z0 := hf.cell 0; have z1 := hf.cell 1; have z2 := hf.cell 2; simp at z0 z1 z2; have hk3 := KeepG.set3 (base := gQ + 1) hBRo (by omega) B1 y1 d1 B2 y2 d2 S9 kS c9; have hrz := hr9 _ hk3; have hbdz := hb9.mapL hk3.lim; have hbw : Below w.heap.size w w5 := hb1.trans (hbz.mono hwQ); have hbf : Below w.heap.size w (((w5.setCell ⟨gR, 0, none⟩ (.slice B1 y1 d1)).setCell ⟨gR, 1, none⟩ (.slice B2 y2 d2)).setCell ⟨gR, 2, none⟩ (.slice S9 kS c9)) := ((hbw.setCell (p := ⟨gR, 0, none⟩) hgr _).setCell (p := ⟨gR, 1, none⟩) hgr _).setCell (p := ⟨gR, 2, none⟩) hgr _; clear hB9 hBRo hf hk3 hr9 hb9; go_wp2_with fail; exact bodyPost_ret (v := .agg #[.slice B1 y1 d1, .slice B2 y2 d2, .slice S9 kS c9]) (by simp [results, Tryz.results7, go_sem, z0, z1, z2]) rfl ⟨_, b9, rows9, rfl, ⟨_, _, S9, kS, c9, rfl, hbdz, hrz⟩, hbf⟩
    ·have t9 : decide ((z : Int) < (kS : Int)) = false := by simp; omega
     go_upto_region 22 with fail; refine wp_name ?_; intro w5 HW5
     have hok : SpOk gQ w1 kS w5 := by
      rw [HW5.out]; exact ⟨_, _, _, _, _, _, _, _, _, rows, hBQ, hbd, hkeep0, hbe⟩
     clear HW5 hBQ hrs hbd hbe O0 O1' t2 hQ0 hQ1 hF0 hF1 hoo hkeep0 hBO; obtain ⟨B1, y1, d1, B2, y2, d2, S9, c9, b9, rows9, hB9, hb9, hr9, hbz⟩ := hok; have hBRo := hBR.below hbz hRQ; have p0 := hB9.cell 0; have p1 := hB9.cell 1; have p2 := hB9.cell 2; have q0 := hBRo.cell 0; have q1 := hBRo.cell 1; have q2 := hBRo.cell 2; have r0 := hBRo.frozen 0; have r1 := hBRo.frozen 1; have r2 := hBRo.frozen 2; simp only [List.getElem?_toArray, List.getElem?_cons_zero, List.getElem?_cons_succ] at p0 p1 p2 q0 q1 q2; have hf := ((hBRo.set_ 0 (.slice B1 y1 d1)).set_ 1 (.slice B2 y2 d2)).set_ 2 (.slice S9 kS c9); have z0 := hf.cell 0; have z1 := hf.cell 1; have z2 := hf.cell 2; simp at z0 z1 z2; have hk3 := KeepG.set3 (base := gQ + 1) hBRo (by omega) B1 y1 d1 B2 y2 d2 S9 kS c9; have hrz := hr9 _ hk3; have hbdz := hb9.mapL hk3.lim; have hbw : Below w.heap.size w w5 := hb1.trans (hbz.mono hwQ); have hbf : Below w.heap.size w (((w5.setCell ⟨gR, 0, none⟩ (.slice B1 y1 d1)).setCell ⟨gR, 1, none⟩ (.slice B2 y2 d2)).setCell ⟨gR, 2, none⟩ (.slice S9 kS c9)) := ((hbw.setCell (p := ⟨gR, 0, none⟩) hgr _).setCell (p := ⟨gR, 1, none⟩) hgr _).setCell (p := ⟨gR, 2, none⟩) hgr _; clear hB9 hBRo hf hk3 hr9 hb9; go_wp2_with fail; exact bodyPost_ret (v := .agg #[.slice B1 y1 d1, .slice B2 y2 d2, .slice S9 kS c9]) (by simp [results, Tryz.results7, go_sem, z0, z1, z2]) rfl ⟨_, b9, rows9, rfl, ⟨_, _, S9, kS, c9, rfl, hbdz, hrz⟩, hbf⟩
end Go.Proofs.YtnjjdiilkhdbeaaGreat
namespace Go.Proofs.YtnjjdiilkhdbeaaGreat
open Go Go.RowKit
end Go.Proofs.YtnjjdiilkhdbeaaGreat
namespace Go.Proofs.YtnjjdiilkhdbeaaGreat
open Go Go.RowKit
def nilPlan : Value := .agg #[.slice none 0 0, .slice none 0 0, .slice none 0 0]
theorem info_plan17 : (Tryz.prog.info? 28).map (fun i => (i.zero, i.size, i.bytes)) = some (some nilPlan, 3, 72) := by kernel_rfl
theorem PlanV.shape {w : World} {v : Value} {b : LP} {rows : List (List LP)} (h : PlanV w v b rows) : ∃ A1 k1 c1 A2 k2 c2 S kS cS, v = .agg #[.slice A1 k1 c1, .slice A2 k2 c2, .slice S kS cS] := by
 obtain ⟨x1, x2, S, k, c, rfl, h1, _⟩ := h; obtain ⟨A1, k1, c1, A2, k2, c2, e⟩ := h1.shape; simp only [Value.agg.injEq, Array.mk.injEq, List.cons.injEq, and_true] at e; obtain ⟨rfl, rfl⟩ := e; exact ⟨_, _, _, _, _, _, _, _, _, rfl⟩
/-- Spoilt of a valid plan of few rows -/
theorem spoilt17_V (va : Value) (b : LP) (rows : List (List LP)) (how by_ : Int) (w : World) (hp : PlanV w va b rows) (h0 : planE b rows = 0) (i1 : -9223372036854775808 ≤ how ∧ how ≤ 9223372036854775807) (i2 : -9223372036854775808 ≤ by_ ∧ by_ ≤ 9223372036854775807) :
  Calls Tryz.prog 7 #[va, .int .i64 how, .int .i64 by_] w fun e w' => ∃ v, e = .returned v ∧ (∃ b' rows', PlanV w' v b' rows') ∧ Below w.heap.size w w' := by
 refine (spoilt17_F va b rows how by_ w hp (planE_zero h0).1 (fun i r h => plan_row h0 h) i1 i2).mono ?_; rintro e w' ⟨v, b', rows', rfl, h, hb⟩; exact ⟨v, rfl, ⟨b', rows', h⟩, hb⟩
end Go.Proofs.YtnjjdiilkhdbeaaGreat
