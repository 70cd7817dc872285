import Derived.Test.YticobffjnjbjiaaKGcProof20
import Derived.Test.YticobffjnjbjiaaS0
set_option linter.unusedVariables false
set_option linter.unusedSimpArgs false
namespace Go.Proofs.Yticobffjnjbjiaa
open Go Go.RowKit
def PhiIt (Ao : Option Addr) (co b off k c i : Nat) (it : IT) (vs : Nat → Value) (j : Nat) (w : World) (x : Value) : Prop :=
 match j with
 | 0 => x = .slice Ao i co
 | 1 => x = .slice (some ⟨b, off, none⟩) k c
 | 2 => x = .int .i64 (i : Nat)
 | 3 => x = .pointer (some ⟨b, off + i * 24, none⟩)
 | 4 => x = .pointer (some ⟨b, off + i * 24, none⟩)
 | 5 => x = .string it.test
 | 6 => x = .slice (some ⟨b, off, none⟩) k c
 | 7 => x = .int .i64 (i : Nat)
 | 8 => x = .pointer (some ⟨b, off + i * 24, none⟩)
 | 9 => x = .pointer (some ⟨b, off + i * 24 + 1, none⟩)
 | 10 => x = .agg (cellsR it.r).toArray
 | 11 => x = .slice (some ⟨b, off, none⟩) k c
 | 12 => x = .int .i64 (i : Nat)
 | 13 => x = .pointer (some ⟨b, off + i * 24, none⟩)
 | 14 => x = .pointer (some ⟨b, off + i * 24 + 23, none⟩)
 | 15 => x = .int .i64 it.p
 | 16 => x = .agg (cellsI it).toArray
 | 17 => ∃ g, x = .slice (some ⟨g, 0, none⟩) 1 1 ∧ Rd w (some ⟨g, 0, none⟩) (cellsI it)
 | _ => True
theorem PhiIt.keepR {Ao : Option Addr} {co b off k c i : Nat} {it : IT} : ∀ vs (w w' : World), Below w.heap.size w w' → ∀ j x, PhiIt Ao co b off k c i it vs j w x → PhiIt Ao co b off k c i it vs j w' x := by
 intro vs w w' hb j x h; unfold PhiIt at h ⊢
 split <;> simp only at h ⊢ <;> first | exact h | skip
 obtain ⟨g, e, h1⟩ := h; exact ⟨g, e, h1.below hb⟩
theorem PhiIt.keepF {Ao : Option Addr} {co b off k c i : Nat} {it : IT} : ∀ vs (w w' : World) j x, ([] : List Nat).contains j = true → PhiIt Ao co b off k c i it vs j w x → PhiIt Ao co b off k c i it vs j w' x := by
 intro vs w w' j x hf
 cases hf
def SIt (T : TypeId) (w wr : World) (n : Nat) (xs : List Value) : List Value → (Nat → Value) → World → Prop
 | [], _, W => Below wr.heap.size wr W
 | [v], _, W => W.ownsRow w.heap.size T 24 v n xs ∧ Below w.heap.size w W
 | [v, u], _, W => u = v ∧ W.ownsRow w.heap.size T 24 v n xs ∧ Below w.heap.size w W
 | _, _, _ => True
set_option maxRecDepth 100000 in
set_option maxHeartbeats 4000000 in
theorem items_n (A : Option Addr) (k c : Nat) (X : List IT) (w : World) (hX : RowS cellsI w A k X) (HT : Hid (∀ it ∈ X, ItTy it)) (hk : k ≤ 1073741824) :
  Calls Try.prog 72 #[.slice A k c] w fun e w' => ∃ v, e = .returned v ∧ w'.ownsRow w.heap.size 122 24 v k (X.flatMap cellsI) ∧ Below w.heap.size w w' := by
 obtain ⟨i0, hi0, hz0, hz1, hz2⟩ := info_parts info_ritem; have E1 := Lib.hid hX.2.1
 go_enter Try.func72, Try.ntmps72
 go_wp2_with fail
 go_loopg [3, 4] k (fun j v x wr => ∃ i : Nat, x = .int .i64 i ∧ i + j = k ∧ wr.ownsRow w.heap.size 122 24 v i ((X.take i).flatMap cellsI) ∧ Below w.heap.size w wr)
 case atStart => exact ⟨0, rfl, by omega, World.ownsRow_nil _ _ _ _, Below.refl _ _⟩
 case round =>
  obtain ⟨G, hG⟩ : ∃ G, G = gk := ⟨gk, rfl⟩; subst hG; obtain ⟨i, rfl, hij, hown, hbe⟩ := hrel; obtain ⟨Ao, co, rfl⟩ := own_shp hown; by_cases hi : i < k
  ·have hiX : i < X.length := by have := E1.out; omega
   have t1 : decide ((i : Int) < (k : Int)) = true := by simp; omega
   obtain ⟨b, off, rfl, HC⟩ := (hX.below hbe).at_ cellsI_len (by omega) hi hiX; have HONL := Lib.hid (HT.out _ (List.getElem_mem hiX)).one
   have HTK : Hid ((X.take (i + 1)).flatMap cellsI = (X.take i).flatMap cellsI ++ cellsI X[i]) := by
    show _ = _
    rw [List.take_succ_eq_append_getElem hiX, List.flatMap_append]; simp
   generalize X[i] = it at HC HONL HTK; have q0 : Hid (wr.cell? ⟨b, off + i * 24, none⟩ = some (.string it.test)) := HC.out 0 _ rfl; have q23 : Hid (wr.cell? ⟨b, off + i * 24 + 23, none⟩ = some (.int .i64 it.p)) := HC.out 23 _ rfl; have HR : Hid (∀ (j : Nat) v, (cellsR it.r)[j]? = some v → wr.cell? ⟨b, off + i * 24 + 1 + j, none⟩ = some v) := fun j v h => items_in (t := it.test) (p := it.p) HC.out h
   have li : (i : Int) < (k : Int) := by omega
   clear HC; go_upto_region 5 with fail; refine region_chain [18, 19] [.early, .early, .early, .early, .early, .early, .early, .early, .early, .early, .early, .early, .early, .early, .early, .early, .early, .early, .chain 0, .chain 1] [] [] (PhiIt Ao co b off k c i it) (fun w w' => Below w.heap.size w w') (SIt 122 w wr (i + 1) ((X.take (i + 1)).flatMap cellsI)) (by kernel_rfl) (by kernel_rfl) (by kernel_rfl) (by kernel_rfl) (sK (fun _ _ _ _ _ h => h) (sK (fun _ _ _ _ _ h => h) (sK (fun _ _ _ _ _ h => h) (sK (fun _ _ _ _ _ h => h) (sK (fun _ _ _ _ _ h => h) (sK (fun _ _ _ _ _ h => h) (sK (fun _ _ _ _ _ h => h) (sK (fun _ _ _ _ _ h => h) (sK (fun _ _ _ _ _ h => h) (sK (fun _ _ _ _ _ h => h) (sK (fun _ _ _ _ _ h => h) (sK (fun _ _ _ _ _ h => h) (sK (fun _ _ _ _ _ h => h) (sK (fun _ _ _ _ _ h => h) (sK (fun _ _ _ _ _ h => h) (sK (fun _ _ _ _ _ h => h) (sK (fun _ _ _ _ _ h => h) (sK (fun _ _ _ _ _ h => h) (sK (fun _ _ _ _ _ h => h) (sK (fun _ _ _ _ _ h => h) (sZ))))))))))))))))))))) PhiIt.keepR PhiIt.keepF (fun _ _ _ _ hR hS => Below.tr hS hR) (by rintro (_ | ⟨_, _ | ⟨_, _ | _⟩⟩) vs vs' w _ h <;> exact h) (fun _ => bD _) (fun vs => by simp only [fillR, Act.put, sA, sB, sC, Nat.zero_add, Nat.reduceAdd]; rfl) ?_ ?_
   ·refine sK ?_ (sK ?_ (sK ?_ (sK ?_ (sK ?_ (sK ?_ (sK ?_ (sK ?_ (sK ?_ (sK ?_ (sK ?_ (sK ?_ (sK ?_ (sK ?_ (sK ?_ (sK ?_ (sK ?_ (sK ?_ (sK ?_ (sK ?_ (sZ))))))))))))))))))))
    ·as_aux_lemma =>
     intro vs W hS hu hdep K hK; have HU := Lib.hid hu; clear hu; have u19 : vs 19 = .slice Ao i co := HU.out 19 (by simp); refine ⟨?_⟩; simp only [Act.put, sA, sB, sC, Nat.zero_add, Nat.reduceAdd, u19] at hK ⊢; go_simp; with_reducible refine hK _ _ (Below.refl _ _) ?_
     exact rfl
    ·as_aux_lemma =>
     intro vs W hS hu hdep K hK; have HU := Lib.hid hu; clear hu; refine ⟨?_⟩; simp only [Act.put, sA, sB, sC, Nat.zero_add, Nat.reduceAdd] at hK ⊢; go_simp; with_reducible refine hK _ _ (Below.refl _ _) ?_
     exact rfl
    ·as_aux_lemma =>
     intro vs W hS hu hdep K hK; have HU := Lib.hid hu; clear hu; refine ⟨?_⟩; simp only [Act.put, sA, sB, sC, Nat.zero_add, Nat.reduceAdd] at hK ⊢; go_simp; with_reducible refine hK _ _ (Below.refl _ _) ?_
     exact rfl
    ·as_aux_lemma =>
     intro vs W hS hu hdep K hK; have HU := Lib.hid hu; clear hu; have d0 := hdep ⟨1, .data⟩ (by simp) rfl; simp only [PhiIt] at d0; have d1 := hdep ⟨2, .data⟩ (by simp) rfl; simp only [PhiIt] at d1; refine ⟨?_⟩; simp only [Act.put, sA, sB, sC, Nat.zero_add, Nat.reduceAdd, d0, d1] at hK ⊢; go_simp; with_reducible refine hK _ _ (Below.refl _ _) ?_
     exact rfl
    ·as_aux_lemma =>
     intro vs W hS hu hdep K hK; have HU := Lib.hid hu; clear hu; have d0 := hdep ⟨3, .data⟩ (by simp) rfl; simp only [PhiIt] at d0; refine ⟨?_⟩; simp only [Act.put, sA, sB, sC, Nat.zero_add, Nat.reduceAdd, d0] at hK ⊢; go_simp; with_reducible refine hK _ _ (Below.refl _ _) ?_
     exact rfl
    ·as_aux_lemma =>
     intro vs W hS hu hdep K hK; have HU := Lib.hid hu; clear hu; have d0 := hdep ⟨4, .data⟩ (by simp) rfl; simp only [PhiIt] at d0; have ft := cell_keep hS q0.out; refine ⟨?_⟩; simp only [Act.put, sA, sB, sC, Nat.zero_add, Nat.reduceAdd, d0] at hK ⊢; go_simp; with_reducible refine hK _ _ (Below.refl _ _) ?_
     exact rfl
    ·as_aux_lemma =>
     intro vs W hS hu hdep K hK; have HU := Lib.hid hu; clear hu; refine ⟨?_⟩; simp only [Act.put, sA, sB, sC, Nat.zero_add, Nat.reduceAdd] at hK ⊢; go_simp; with_reducible refine hK _ _ (Below.refl _ _) ?_
     exact rfl
    ·as_aux_lemma =>
     intro vs W hS hu hdep K hK; have HU := Lib.hid hu; clear hu; refine ⟨?_⟩; simp only [Act.put, sA, sB, sC, Nat.zero_add, Nat.reduceAdd] at hK ⊢; go_simp; with_reducible refine hK _ _ (Below.refl _ _) ?_
     exact rfl
    ·as_aux_lemma =>
     intro vs W hS hu hdep K hK; have HU := Lib.hid hu; clear hu; have d0 := hdep ⟨6, .data⟩ (by simp) rfl; simp only [PhiIt] at d0; have d1 := hdep ⟨7, .data⟩ (by simp) rfl; simp only [PhiIt] at d1; refine ⟨?_⟩; simp only [Act.put, sA, sB, sC, Nat.zero_add, Nat.reduceAdd, d0, d1] at hK ⊢; go_simp; with_reducible refine hK _ _ (Below.refl _ _) ?_
     exact rfl
    ·as_aux_lemma =>
     intro vs W hS hu hdep K hK; have HU := Lib.hid hu; clear hu; have d0 := hdep ⟨8, .data⟩ (by simp) rfl; simp only [PhiIt] at d0; refine ⟨?_⟩; simp only [Act.put, sA, sB, sC, Nat.zero_add, Nat.reduceAdd, d0] at hK ⊢; go_simp; with_reducible refine hK _ _ (Below.refl _ _) ?_
     exact rfl
    ·as_aux_lemma =>
     intro vs W hS hu hdep K hK; have HU := Lib.hid hu; clear hu; have d0 := hdep ⟨9, .data⟩ (by simp) rfl; simp only [PhiIt] at d0; refine ⟨?_⟩; simp only [Act.put, sA, sB, sC, Nat.zero_add, Nat.reduceAdd, d0] at hK ⊢; rw [if_pos (by rfl)]; refine wp_load_mid 64 (.tmp 20) (by rfl) b (off + i * 24 + 1) (by rfl) (cellsR it.r) _ (fun j v h => cell_keep hS (HR.out j v h)) Try.underlying64 (by rfl) (infoR (r := it.r)) ?_; simp only [Act.put, sA, sB, sC]; with_reducible refine hK _ _ (Below.refl _ _) ?_
     exact rfl
    ·as_aux_lemma =>
     intro vs W hS hu hdep K hK; have HU := Lib.hid hu; clear hu; refine ⟨?_⟩; simp only [Act.put, sA, sB, sC, Nat.zero_add, Nat.reduceAdd] at hK ⊢; go_simp; with_reducible refine hK _ _ (Below.refl _ _) ?_
     exact rfl
    ·as_aux_lemma =>
     intro vs W hS hu hdep K hK; have HU := Lib.hid hu; clear hu; refine ⟨?_⟩; simp only [Act.put, sA, sB, sC, Nat.zero_add, Nat.reduceAdd] at hK ⊢; go_simp; with_reducible refine hK _ _ (Below.refl _ _) ?_
     exact rfl
    ·as_aux_lemma =>
     intro vs W hS hu hdep K hK; have HU := Lib.hid hu; clear hu; have d0 := hdep ⟨11, .data⟩ (by simp) rfl; simp only [PhiIt] at d0; have d1 := hdep ⟨12, .data⟩ (by simp) rfl; simp only [PhiIt] at d1; refine ⟨?_⟩; simp only [Act.put, sA, sB, sC, Nat.zero_add, Nat.reduceAdd, d0, d1] at hK ⊢; go_simp; with_reducible refine hK _ _ (Below.refl _ _) ?_
     exact rfl
    ·as_aux_lemma =>
     intro vs W hS hu hdep K hK; have HU := Lib.hid hu; clear hu; have d0 := hdep ⟨13, .data⟩ (by simp) rfl; simp only [PhiIt] at d0; refine ⟨?_⟩; simp only [Act.put, sA, sB, sC, Nat.zero_add, Nat.reduceAdd, d0] at hK ⊢; go_simp; with_reducible refine hK _ _ (Below.refl _ _) ?_
     exact rfl
    ·as_aux_lemma =>
     intro vs W hS hu hdep K hK; have HU := Lib.hid hu; clear hu; have d0 := hdep ⟨14, .data⟩ (by simp) rfl; simp only [PhiIt] at d0; have ft := cell_keep hS q23.out; refine ⟨?_⟩; simp only [Act.put, sA, sB, sC, Nat.zero_add, Nat.reduceAdd, d0] at hK ⊢; go_simp; with_reducible refine hK _ _ (Below.refl _ _) ?_
     exact rfl
    ·as_aux_lemma =>
     intro vs W hS hu hdep K hK; have HU := Lib.hid hu; clear hu; have d0 := hdep ⟨5, .data⟩ (by simp) rfl; simp only [PhiIt] at d0; have d1 := hdep ⟨10, .data⟩ (by simp) rfl; simp only [PhiIt] at d1; have d2 := hdep ⟨15, .data⟩ (by simp) rfl; simp only [PhiIt] at d2; refine ⟨?_⟩; simp only [Act.put, sA, sB, sC, Nat.zero_add, Nat.reduceAdd, d0, d1, d2] at hK ⊢; rw [if_pos (by rfl)]; refine wp_buildW 122 [(0, .tmp 16), (1, .tmp 21), (2, .tmp 26)] (by rfl) (cellsI it).toArray [(0, .string it.test), (1, .agg (cellsR it.r).toArray), (2, .int .i64 it.p)] (by rfl) (built_ritem (it := it)) ?_; simp only [Act.put, sA, sB, sC]; with_reducible refine hK _ _ (Below.refl _ _) ?_
     exact rfl
    ·as_aux_lemma =>
     intro vs W hS hu hdep K hK; have HU := Lib.hid hu; clear hu; have d0 := hdep ⟨16, .data⟩ (by simp) rfl; simp only [PhiIt] at d0; refine ⟨?_⟩; simp only [Act.put, sA, sB, sC, Nat.zero_add, Nat.reduceAdd, d0] at hK ⊢; rw [if_pos (by rfl)]; refine wp_sliceN 70 122 1 [(0, .tmp 27)] rfl (cellsI it).toArray i0 zeroI 24 [(0, .agg (cellsI it).toArray)] Try.underlying70 hi0 hz0 hz1 (by omega) (by omega) rfl (fill_item it) ?_; simp only [Act.put, sA, sB, sC]; with_reducible refine hK _ _ (bA _ _) ?_
     exact ⟨_, rfl, Rd.fresh _ _ _⟩
    ·as_aux_lemma =>
     intro vs W hS hdep K hK; have d0 := hdep ⟨0, .data⟩ (by simp) rfl (by rfl); simp only [PhiIt] at d0; have d1 := hdep ⟨17, .data⟩ (by simp) rfl (by rfl); simp only [PhiIt] at d1; simp only [List.take_zero, List.map_nil, SIt] at hS; refine @exE1 _ _ _ d1 ?_; clear d1; intro g d1; have e1 := d1.1; have hrd := d1.2; clear d1; have hown2 := own_below hown hS; have hbe2 := Below.tr hbe hS; have hsz := hbe2.size; clear hS; refine ⟨?_⟩; simp only [Act.put, sA, sB, sC, Nat.zero_add, Nat.reduceAdd, d0, e1] at hK ⊢; rw [if_pos (by rfl)]; refine wp_append_any _ (.tmp 11) (.tmp 28) _ rfl w.heap.size 122 i0 _ 24 96 Try.underlying70 hi0 hz0 hz1 hz2 zeroI_size (by omega) _ i _ rfl hown2 _ 1 1 (cellsI it) rfl rfl hrd HONL.out (by simp only [maxLen]; omega) (by omega) hsz ?_; intro v4 w4 hown4 hg4 hat4; have hown5 : w4.ownsRow w.heap.size 122 24 v4 (i + 1) ((X.take (i + 1)).flatMap cellsI) := by rw [HTK.out]; exact hown4
     have hbe5 := hbe2.grown hg4 hsz (own_block_ge hown2); obtain ⟨A5, c5, rfl⟩ := own_shp hown5; simp only [Act.put, sA, sB, sC]; with_reducible refine hK _ _ ?_
     exact ⟨hown5, hbe5⟩
    ·as_aux_lemma =>
     intro vs W hS hdep K hK; have hS1 : SIt 122 w wr (i + 1) ((X.take (i + 1)).flatMap cellsI) [vs 18] vs W := hS; obtain ⟨hown5, hbe5⟩ := hS1; obtain ⟨A5, c5, e5⟩ := own_shp hown5; refine ⟨?_⟩; simp only [Act.put, sA, sB, sC, Nat.zero_add, Nat.reduceAdd, e5] at hK ⊢; go_simp; with_reducible refine hK _ _ ?_
     show _ = _ ∧ _
     rw [e5] at hown5 ⊢; exact ⟨rfl, hown5, hbe5⟩
   ·intro vs W hS _; have hS2 : SIt 122 w wr (i + 1) ((X.take (i + 1)).flatMap cellsI) [vs 18, vs 19] vs W := hS; obtain ⟨e19, hown5, hbe5⟩ := hS2; obtain ⟨A5, c5, e18⟩ := own_shp hown5; rw [e18] at hown5 e19; simp only [Act.put, sA, sB, sC, Nat.zero_add, Nat.reduceAdd, e18, e19]; clear hown hX HONL HTK q0 q23 HR hbe; go_wp2_with fail
    go_roundg (G - 1)
    case measure => omega
    case rel => exact ⟨i + 1, by go_num, by omega, hown5, hbe5⟩
  ·obtain rfl : k = i := by omega
   have t1 : decide ((k : Int) < (k : Int)) = false := by simp
   rw [List.take_of_length_le (by rw [← E1.out]; omega)] at hown; go_wp2_with fail; go_ret; exact ⟨_, rfl, hown, hbe⟩
set_option maxRecDepth 100000 in
set_option maxHeartbeats 4000000 in
theorem own_n (A : Option Addr) (k c : Nat) (X : List IT) (w : World) (hX : RowS cellsI w A k X) (HT : Hid (∀ it ∈ X, ItTy it)) (hk : k ≤ 1073741824) :
  Calls Try.prog 73 #[.slice A k c] w fun e w' => ∃ v, e = .returned v ∧ w'.ownsRow w.heap.size 66 24 v k (X.flatMap cellsI) ∧ Below w.heap.size w w' := by
 obtain ⟨i0, hi0, hz0, hz1, hz2⟩ := info_parts info_item; have E1 := Lib.hid hX.2.1
 go_enter Try.func73, Try.ntmps73
 go_wp2_with fail
 go_loopg [3, 4] k (fun j v x wr => ∃ i : Nat, x = .int .i64 i ∧ i + j = k ∧ wr.ownsRow w.heap.size 66 24 v i ((X.take i).flatMap cellsI) ∧ Below w.heap.size w wr)
 case atStart => exact ⟨0, rfl, by omega, World.ownsRow_nil _ _ _ _, Below.refl _ _⟩
 case round =>
  obtain ⟨G, hG⟩ : ∃ G, G = gk := ⟨gk, rfl⟩; subst hG; obtain ⟨i, rfl, hij, hown, hbe⟩ := hrel; obtain ⟨Ao, co, rfl⟩ := own_shp hown; by_cases hi : i < k
  ·have hiX : i < X.length := by have := E1.out; omega
   have t1 : decide ((i : Int) < (k : Int)) = true := by simp; omega
   obtain ⟨b, off, rfl, HC⟩ := (hX.below hbe).at_ cellsI_len (by omega) hi hiX; have HONL := Lib.hid (HT.out _ (List.getElem_mem hiX)).one
   have HTK : Hid ((X.take (i + 1)).flatMap cellsI = (X.take i).flatMap cellsI ++ cellsI X[i]) := by
    show _ = _
    rw [List.take_succ_eq_append_getElem hiX, List.flatMap_append]; simp
   generalize X[i] = it at HC HONL HTK; have q0 : Hid (wr.cell? ⟨b, off + i * 24, none⟩ = some (.string it.test)) := HC.out 0 _ rfl; have q23 : Hid (wr.cell? ⟨b, off + i * 24 + 23, none⟩ = some (.int .i64 it.p)) := HC.out 23 _ rfl; have HR : Hid (∀ (j : Nat) v, (cellsR it.r)[j]? = some v → wr.cell? ⟨b, off + i * 24 + 1 + j, none⟩ = some v) := fun j v h => items_in (t := it.test) (p := it.p) HC.out h
   have li : (i : Int) < (k : Int) := by omega
   clear HC; go_upto_region 5 with fail; refine region_chain [18, 19] [.early, .early, .early, .early, .early, .early, .early, .early, .early, .early, .early, .early, .early, .early, .early, .early, .early, .early, .chain 0, .chain 1] [] [] (PhiIt Ao co b off k c i it) (fun w w' => Below w.heap.size w w') (SIt 66 w wr (i + 1) ((X.take (i + 1)).flatMap cellsI)) (by kernel_rfl) (by kernel_rfl) (by kernel_rfl) (by kernel_rfl) (sK (fun _ _ _ _ _ h => h) (sK (fun _ _ _ _ _ h => h) (sK (fun _ _ _ _ _ h => h) (sK (fun _ _ _ _ _ h => h) (sK (fun _ _ _ _ _ h => h) (sK (fun _ _ _ _ _ h => h) (sK (fun _ _ _ _ _ h => h) (sK (fun _ _ _ _ _ h => h) (sK (fun _ _ _ _ _ h => h) (sK (fun _ _ _ _ _ h => h) (sK (fun _ _ _ _ _ h => h) (sK (fun _ _ _ _ _ h => h) (sK (fun _ _ _ _ _ h => h) (sK (fun _ _ _ _ _ h => h) (sK (fun _ _ _ _ _ h => h) (sK (fun _ _ _ _ _ h => h) (sK (fun _ _ _ _ _ h => h) (sK (fun _ _ _ _ _ h => h) (sK (fun _ _ _ _ _ h => h) (sK (fun _ _ _ _ _ h => h) (sZ))))))))))))))))))))) PhiIt.keepR PhiIt.keepF (fun _ _ _ _ hR hS => Below.tr hS hR) (by rintro (_ | ⟨_, _ | ⟨_, _ | _⟩⟩) vs vs' w _ h <;> exact h) (fun _ => bD _) (fun vs => by simp only [fillR, Act.put, sA, sB, sC, Nat.zero_add, Nat.reduceAdd]; rfl) ?_ ?_
   ·refine sK ?_ (sK ?_ (sK ?_ (sK ?_ (sK ?_ (sK ?_ (sK ?_ (sK ?_ (sK ?_ (sK ?_ (sK ?_ (sK ?_ (sK ?_ (sK ?_ (sK ?_ (sK ?_ (sK ?_ (sK ?_ (sK ?_ (sK ?_ (sZ))))))))))))))))))))
    ·as_aux_lemma =>
     intro vs W hS hu hdep K hK; have HU := Lib.hid hu; clear hu; have u19 : vs 19 = .slice Ao i co := HU.out 19 (by simp); refine ⟨?_⟩; simp only [Act.put, sA, sB, sC, Nat.zero_add, Nat.reduceAdd, u19] at hK ⊢; go_simp; with_reducible refine hK _ _ (Below.refl _ _) ?_
     exact rfl
    ·as_aux_lemma =>
     intro vs W hS hu hdep K hK; have HU := Lib.hid hu; clear hu; refine ⟨?_⟩; simp only [Act.put, sA, sB, sC, Nat.zero_add, Nat.reduceAdd] at hK ⊢; go_simp; with_reducible refine hK _ _ (Below.refl _ _) ?_
     exact rfl
    ·as_aux_lemma =>
     intro vs W hS hu hdep K hK; have HU := Lib.hid hu; clear hu; refine ⟨?_⟩; simp only [Act.put, sA, sB, sC, Nat.zero_add, Nat.reduceAdd] at hK ⊢; go_simp; with_reducible refine hK _ _ (Below.refl _ _) ?_
     exact rfl
    ·as_aux_lemma =>
     intro vs W hS hu hdep K hK; have HU := Lib.hid hu; clear hu; have d0 := hdep ⟨1, .data⟩ (by simp) rfl; simp only [PhiIt] at d0; have d1 := hdep ⟨2, .data⟩ (by simp) rfl; simp only [PhiIt] at d1; refine ⟨?_⟩; simp only [Act.put, sA, sB, sC, Nat.zero_add, Nat.reduceAdd, d0, d1] at hK ⊢; go_simp; with_reducible refine hK _ _ (Below.refl _ _) ?_
     exact rfl
    ·as_aux_lemma =>
     intro vs W hS hu hdep K hK; have HU := Lib.hid hu; clear hu; have d0 := hdep ⟨3, .data⟩ (by simp) rfl; simp only [PhiIt] at d0; refine ⟨?_⟩; simp only [Act.put, sA, sB, sC, Nat.zero_add, Nat.reduceAdd, d0] at hK ⊢; go_simp; with_reducible refine hK _ _ (Below.refl _ _) ?_
     exact rfl
    ·as_aux_lemma =>
     intro vs W hS hu hdep K hK; have HU := Lib.hid hu; clear hu; have d0 := hdep ⟨4, .data⟩ (by simp) rfl; simp only [PhiIt] at d0; have ft := cell_keep hS q0.out; refine ⟨?_⟩; simp only [Act.put, sA, sB, sC, Nat.zero_add, Nat.reduceAdd, d0] at hK ⊢; go_simp; with_reducible refine hK _ _ (Below.refl _ _) ?_
     exact rfl
    ·as_aux_lemma =>
     intro vs W hS hu hdep K hK; have HU := Lib.hid hu; clear hu; refine ⟨?_⟩; simp only [Act.put, sA, sB, sC, Nat.zero_add, Nat.reduceAdd] at hK ⊢; go_simp; with_reducible refine hK _ _ (Below.refl _ _) ?_
     exact rfl
    ·as_aux_lemma =>
     intro vs W hS hu hdep K hK; have HU := Lib.hid hu; clear hu; refine ⟨?_⟩; simp only [Act.put, sA, sB, sC, Nat.zero_add, Nat.reduceAdd] at hK ⊢; go_simp; with_reducible refine hK _ _ (Below.refl _ _) ?_
     exact rfl
    ·as_aux_lemma =>
     intro vs W hS hu hdep K hK; have HU := Lib.hid hu; clear hu; have d0 := hdep ⟨6, .data⟩ (by simp) rfl; simp only [PhiIt] at d0; have d1 := hdep ⟨7, .data⟩ (by simp) rfl; simp only [PhiIt] at d1; refine ⟨?_⟩; simp only [Act.put, sA, sB, sC, Nat.zero_add, Nat.reduceAdd, d0, d1] at hK ⊢; go_simp; with_reducible refine hK _ _ (Below.refl _ _) ?_
     exact rfl
    ·as_aux_lemma =>
     intro vs W hS hu hdep K hK; have HU := Lib.hid hu; clear hu; have d0 := hdep ⟨8, .data⟩ (by simp) rfl; simp only [PhiIt] at d0; refine ⟨?_⟩; simp only [Act.put, sA, sB, sC, Nat.zero_add, Nat.reduceAdd, d0] at hK ⊢; go_simp; with_reducible refine hK _ _ (Below.refl _ _) ?_
     exact rfl
    ·as_aux_lemma =>
     intro vs W hS hu hdep K hK; have HU := Lib.hid hu; clear hu; have d0 := hdep ⟨9, .data⟩ (by simp) rfl; simp only [PhiIt] at d0; refine ⟨?_⟩; simp only [Act.put, sA, sB, sC, Nat.zero_add, Nat.reduceAdd, d0] at hK ⊢; rw [if_pos (by rfl)]; refine wp_load_mid 64 (.tmp 20) (by rfl) b (off + i * 24 + 1) (by rfl) (cellsR it.r) _ (fun j v h => cell_keep hS (HR.out j v h)) Try.underlying64 (by rfl) (infoR (r := it.r)) ?_; simp only [Act.put, sA, sB, sC]; with_reducible refine hK _ _ (Below.refl _ _) ?_
     exact rfl
    ·as_aux_lemma =>
     intro vs W hS hu hdep K hK; have HU := Lib.hid hu; clear hu; refine ⟨?_⟩; simp only [Act.put, sA, sB, sC, Nat.zero_add, Nat.reduceAdd] at hK ⊢; go_simp; with_reducible refine hK _ _ (Below.refl _ _) ?_
     exact rfl
    ·as_aux_lemma =>
     intro vs W hS hu hdep K hK; have HU := Lib.hid hu; clear hu; refine ⟨?_⟩; simp only [Act.put, sA, sB, sC, Nat.zero_add, Nat.reduceAdd] at hK ⊢; go_simp; with_reducible refine hK _ _ (Below.refl _ _) ?_
     exact rfl
    ·as_aux_lemma =>
     intro vs W hS hu hdep K hK; have HU := Lib.hid hu; clear hu; have d0 := hdep ⟨11, .data⟩ (by simp) rfl; simp only [PhiIt] at d0; have d1 := hdep ⟨12, .data⟩ (by simp) rfl; simp only [PhiIt] at d1; refine ⟨?_⟩; simp only [Act.put, sA, sB, sC, Nat.zero_add, Nat.reduceAdd, d0, d1] at hK ⊢; go_simp; with_reducible refine hK _ _ (Below.refl _ _) ?_
     exact rfl
    ·as_aux_lemma =>
     intro vs W hS hu hdep K hK; have HU := Lib.hid hu; clear hu; have d0 := hdep ⟨13, .data⟩ (by simp) rfl; simp only [PhiIt] at d0; refine ⟨?_⟩; simp only [Act.put, sA, sB, sC, Nat.zero_add, Nat.reduceAdd, d0] at hK ⊢; go_simp; with_reducible refine hK _ _ (Below.refl _ _) ?_
     exact rfl
    ·as_aux_lemma =>
     intro vs W hS hu hdep K hK; have HU := Lib.hid hu; clear hu; have d0 := hdep ⟨14, .data⟩ (by simp) rfl; simp only [PhiIt] at d0; have ft := cell_keep hS q23.out; refine ⟨?_⟩; simp only [Act.put, sA, sB, sC, Nat.zero_add, Nat.reduceAdd, d0] at hK ⊢; go_simp; with_reducible refine hK _ _ (Below.refl _ _) ?_
     exact rfl
    ·as_aux_lemma =>
     intro vs W hS hu hdep K hK; have HU := Lib.hid hu; clear hu; have d0 := hdep ⟨5, .data⟩ (by simp) rfl; simp only [PhiIt] at d0; have d1 := hdep ⟨10, .data⟩ (by simp) rfl; simp only [PhiIt] at d1; have d2 := hdep ⟨15, .data⟩ (by simp) rfl; simp only [PhiIt] at d2; refine ⟨?_⟩; simp only [Act.put, sA, sB, sC, Nat.zero_add, Nat.reduceAdd, d0, d1, d2] at hK ⊢; rw [if_pos (by rfl)]; refine wp_buildW 66 [(0, .tmp 16), (1, .tmp 21), (2, .tmp 26)] (by rfl) (cellsI it).toArray [(0, .string it.test), (1, .agg (cellsR it.r).toArray), (2, .int .i64 it.p)] (by rfl) (built_item (name := it.test) (r := it.r) (p := it.p)) ?_; simp only [Act.put, sA, sB, sC]; with_reducible refine hK _ _ (Below.refl _ _) ?_
     exact rfl
    ·as_aux_lemma =>
     intro vs W hS hu hdep K hK; have HU := Lib.hid hu; clear hu; have d0 := hdep ⟨16, .data⟩ (by simp) rfl; simp only [PhiIt] at d0; refine ⟨?_⟩; simp only [Act.put, sA, sB, sC, Nat.zero_add, Nat.reduceAdd, d0] at hK ⊢; rw [if_pos (by rfl)]; refine wp_sliceN 56 66 1 [(0, .tmp 27)] rfl (cellsI it).toArray i0 zeroI 24 [(0, .agg (cellsI it).toArray)] Try.underlying56 hi0 hz0 hz1 (by omega) (by omega) rfl (fill_item it) ?_; simp only [Act.put, sA, sB, sC]; with_reducible refine hK _ _ (bA _ _) ?_
     exact ⟨_, rfl, Rd.fresh _ _ _⟩
    ·as_aux_lemma =>
     intro vs W hS hdep K hK; have d0 := hdep ⟨0, .data⟩ (by simp) rfl (by rfl); simp only [PhiIt] at d0; have d1 := hdep ⟨17, .data⟩ (by simp) rfl (by rfl); simp only [PhiIt] at d1; simp only [List.take_zero, List.map_nil, SIt] at hS; refine @exE1 _ _ _ d1 ?_; clear d1; intro g d1; have e1 := d1.1; have hrd := d1.2; clear d1; have hown2 := own_below hown hS; have hbe2 := Below.tr hbe hS; have hsz := hbe2.size; clear hS; refine ⟨?_⟩; simp only [Act.put, sA, sB, sC, Nat.zero_add, Nat.reduceAdd, d0, e1] at hK ⊢; rw [if_pos (by rfl)]; refine wp_append_any _ (.tmp 11) (.tmp 28) _ rfl w.heap.size 66 i0 _ 24 96 Try.underlying56 hi0 hz0 hz1 hz2 zeroI_size (by omega) _ i _ rfl hown2 _ 1 1 (cellsI it) rfl rfl hrd HONL.out (by simp only [maxLen]; omega) (by omega) hsz ?_; intro v4 w4 hown4 hg4 hat4; have hown5 : w4.ownsRow w.heap.size 66 24 v4 (i + 1) ((X.take (i + 1)).flatMap cellsI) := by rw [HTK.out]; exact hown4
     have hbe5 := hbe2.grown hg4 hsz (own_block_ge hown2); obtain ⟨A5, c5, rfl⟩ := own_shp hown5; simp only [Act.put, sA, sB, sC]; with_reducible refine hK _ _ ?_
     exact ⟨hown5, hbe5⟩
    ·as_aux_lemma =>
     intro vs W hS hdep K hK; have hS1 : SIt 66 w wr (i + 1) ((X.take (i + 1)).flatMap cellsI) [vs 18] vs W := hS; obtain ⟨hown5, hbe5⟩ := hS1; obtain ⟨A5, c5, e5⟩ := own_shp hown5; refine ⟨?_⟩; simp only [Act.put, sA, sB, sC, Nat.zero_add, Nat.reduceAdd, e5] at hK ⊢; go_simp; with_reducible refine hK _ _ ?_
     show _ = _ ∧ _
     rw [e5] at hown5 ⊢; exact ⟨rfl, hown5, hbe5⟩
   ·intro vs W hS _; have hS2 : SIt 66 w wr (i + 1) ((X.take (i + 1)).flatMap cellsI) [vs 18, vs 19] vs W := hS; obtain ⟨e19, hown5, hbe5⟩ := hS2; obtain ⟨A5, c5, e18⟩ := own_shp hown5; rw [e18] at hown5 e19; simp only [Act.put, sA, sB, sC, Nat.zero_add, Nat.reduceAdd, e18, e19]; clear hown hX HONL HTK q0 q23 HR hbe; go_wp2_with fail
    go_roundg (G - 1)
    case measure => omega
    case rel => exact ⟨i + 1, by go_num, by omega, hown5, hbe5⟩
  ·obtain rfl : k = i := by omega
   have t1 : decide ((k : Int) < (k : Int)) = false := by simp
   rw [List.take_of_length_le (by rw [← E1.out]; omega)] at hown; go_wp2_with fail; go_ret; exact ⟨_, rfl, hown, hbe⟩
end Go.Proofs.Yticobffjnjbjiaa
namespace Go.Proofs.Yticobffjnjbjiaa
open Go Go.RowKit
/-- a line's two lists -/
structure Ln where
 A1 : Option Addr
 k1 : Nat
 c1 : Nat
 A2 : Option Addr
 k2 : Nat
 c2 : Nat
 P : List IT
 S : List IT
def Ln.val (x : Ln) : Value := .agg #[.slice x.A1 x.k1 x.c1, .slice x.A2 x.k2 x.c2]
def Ln.Ok (w : World) (x : Ln) : Prop := RowS cellsI w x.A1 x.k1 x.P ∧ RowS cellsI w x.A2 x.k2 x.S ∧ (∀ it ∈ x.P, ItTy it) ∧ (∀ it ∈ x.S, ItTy it)
theorem Ln.Ok.below {w w' : World} {x : Ln} (h : x.Ok w) (hb : Below w.heap.size w w') : x.Ok w' := ⟨h.1.below hb, h.2.1.below hb, h.2.2⟩
theorem results_gln {fn : Func} {p : Tmp} {tmps : Array Value} {w : World} {g : Nat} {v1 v2 : Value} (h : fn.results = #[.cell p 58]) (hp : tmps.getD p undef = .pointer (some ⟨g, 0, none⟩)) (hb : Blk w g 58 #[v1, v2]) :
  (results fn tmps).run Try.prog w = .ok (.agg #[v1, v2]) w :=
 results_cell_row h tmps w g 58 _ (0, 0) _ hp hb Try.underlying58 rfl (by kernel_rfl)
theorem info_gln {v1 v2 : Value} : (Try.prog.info? 58).map (·.size) = some (#[v1, v2] : Array Value).size := by kernel_rfl
theorem built_gln {A A' : Option Addr} {k c k' c' : Nat} : (Try.prog).built 58 [(0, .slice A k c), (1, .slice A' k' c')] = some #[.slice A k c, .slice A' k' c'] := by kernel_rfl
theorem built_gln0 : (Try.prog).built 58 [] = some #[.slice none 0 0, .slice none 0 0] := by kernel_rfl
theorem results_rln {fn : Func} {p : Tmp} {tmps : Array Value} {w : World} {g : Nat} {v1 v2 : Value} (h : fn.results = #[.cell p 72]) (hp : tmps.getD p undef = .pointer (some ⟨g, 0, none⟩)) (hb : Blk w g 72 #[v1, v2]) :
  (results fn tmps).run Try.prog w = .ok (.agg #[v1, v2]) w :=
 results_cell_row h tmps w g 72 _ (0, 0) _ hp hb Try.underlying72 rfl (by kernel_rfl)
theorem info_rln {v1 v2 : Value} : (Try.prog.info? 72).map (·.size) = some (#[v1, v2] : Array Value).size := by kernel_rfl
theorem built_rln {A A' : Option Addr} {k c k' c' : Nat} : (Try.prog).built 72 [(0, .slice A k c), (1, .slice A' k' c')] = some #[.slice A k c, .slice A' k' c'] := by kernel_rfl
theorem built_rln0 : (Try.prog).built 72 [] = some #[.slice none 0 0, .slice none 0 0] := by kernel_rfl
set_option maxRecDepth 100000 in
set_option maxHeartbeats 2000000 in
open Classical in
theorem rsame_nd (x y : Ln) (w : World) (hx : x.Ok w) (hy : y.Ok w) :
  Calls Try.prog 29 #[x.val, y.val] w fun e w' => e = .returned (.bool (decide (x.P = y.P ∧ x.S = y.S))) ∧ Below w.heap.size w w' := by
 obtain ⟨A1, k1, c1, A2, k2, c2, X1, X2⟩ := x; obtain ⟨B1, l1, d1, B2, l2, d2, Y1, Y2⟩ := y; simp only [Ln.val]; obtain ⟨hx1, hx2, tx1, tx2⟩ := hx; obtain ⟨hy1, hy2, ty1, ty2⟩ := hy; simp only at hx1 hx2 tx1 tx2 hy1 hy2 ty1 ty2; obtain ⟨bb, HBB⟩ : ∃ b, Hid (b = decide (X1 = Y1 ∧ X2 = Y2)) := ⟨_, rfl⟩; simp only [← HBB.out]; have TX1 := Lib.hid tx1; have TX2 := Lib.hid tx2; have TY1 := Lib.hid ty1; have TY2 := Lib.hid ty2; clear tx1 tx2 ty1 ty2
 go_enter Try.func29, Try.ntmps29
 go_upto_region 1 with fail; refine wp_name ?_; intro w1 HW1; have hb1 : Below w.heap.size w w1 := by rw [HW1.out]; exact Below.tr (bA _ _) (bA _ _)
 have BB2 : Blk w1 w.heap.size 72 #[.slice A1 k1 c1, .slice A2 k2 c2] := by rw [HW1.out]; exact (Blk.new _ _ _).alloc _
 have BB3 : Blk w1 (w.heap.size + 1) 72 #[.slice B1 l1 d1, .slice B2 l2 d2] := by
  rw [HW1.out]; have h := Blk.new (w.alloc (.cells #[.slice A1 k1 c1, .slice A2 k2 c2] 72)) 72 #[.slice B1 l1 d1, .slice B2 l2 d2]
  simpa using h
 have q20 := BB2.cell 0; have q21 := BB2.cell 1; have q30 := BB3.cell 0; have q31 := BB3.cell 1; simp only [List.getElem?_toArray, List.getElem?_cons_zero, List.getElem?_cons_succ] at q20 q21 q30 q31; clear HW1; go_wp2_with fail; refine (sameitems_n A1 B1 k1 c1 l1 d1 X1 Y1 _ (hx1.below hb1) (hy1.below hb1) TX1 TY1).mono ?_; rintro e w2 ⟨b1, rfl, HB1, hb2⟩; have hb := Below.tr hb1 hb2; have BB2 := Blk.below BB2 hb2 BB2.lt; have BB3 := Blk.below BB3 hb2 BB3.lt; clear q20 q21 q30 q31
 cases b1
 ·have HF : Hid (false = bb) := bool_f (fun h => by have := HB1.out.2 h.1; cases this) HBB.out; clear HB1; go_wp2_with fail; go_ret; exact ⟨retBit HF.out, hb⟩
 ·have E1 := HB1.out.1 rfl; have q20 := BB2.cell 0; have q21 := BB2.cell 1; have q30 := BB3.cell 0; have q31 := BB3.cell 1; simp only [List.getElem?_toArray, List.getElem?_cons_zero, List.getElem?_cons_succ] at q20 q21 q30 q31; go_wp2_with fail; refine (sameitems_n A2 B2 k2 c2 l2 d2 X2 Y2 _ (hx2.below hb) (hy2.below hb) TX2 TY2).mono ?_; rintro e w3 ⟨b2, rfl, HB2, hb3⟩; have HF : Hid (b2 = bb) := bool_of ⟨fun h => ⟨E1, HB2.out.1 h⟩, fun h => HB2.out.2 h.2⟩ HBB.out; have hb4 := Below.tr hb hb3; clear HB1 HB2 E1 q20 q21 q30 q31; go_wp2_with fail; go_ret; exact ⟨retBit HF.out, hb4⟩
theorem rsame_n (x y : Ln) (w : World) (hx : x.Ok w) (hy : y.Ok w) :
  Calls Try.prog 29 #[x.val, y.val] w fun e w' => ∃ b : Bool, e = .returned (.bool b) ∧ Hid (b = true ↔ x.P = y.P ∧ x.S = y.S) ∧ Below w.heap.size w w' :=
 (rsame_nd x y w hx hy).mono fun e w' h => ⟨_, h.1, by show _ ↔ _; simp, h.2⟩
set_option maxRecDepth 100000 in
set_option maxHeartbeats 2000000 in
open Classical in
theorem gsame_nd (x y : Ln) (w : World) (hx : x.Ok w) (hy : y.Ok w) :
  Calls Try.prog 40 #[x.val, y.val] w fun e w' => e = .returned (.bool (decide (x.P = y.P ∧ x.S = y.S))) ∧ Below w.heap.size w w' := by
 obtain ⟨A1, k1, c1, A2, k2, c2, X1, X2⟩ := x; obtain ⟨B1, l1, d1, B2, l2, d2, Y1, Y2⟩ := y; simp only [Ln.val]; obtain ⟨hx1, hx2, tx1, tx2⟩ := hx; obtain ⟨hy1, hy2, ty1, ty2⟩ := hy; simp only at hx1 hx2 tx1 tx2 hy1 hy2 ty1 ty2; obtain ⟨bb, HBB⟩ : ∃ b, Hid (b = decide (X1 = Y1 ∧ X2 = Y2)) := ⟨_, rfl⟩; simp only [← HBB.out]; have TX1 := Lib.hid tx1; have TX2 := Lib.hid tx2; have TY1 := Lib.hid ty1; have TY2 := Lib.hid ty2; clear tx1 tx2 ty1 ty2
 go_enter Try.func40, Try.ntmps40
 go_upto_region 1 with fail; refine wp_name ?_; intro w1 HW1; have hb1 : Below w.heap.size w w1 := by rw [HW1.out]; exact Below.tr (bA _ _) (bA _ _)
 have BB2 : Blk w1 w.heap.size 58 #[.slice A1 k1 c1, .slice A2 k2 c2] := by rw [HW1.out]; exact (Blk.new _ _ _).alloc _
 have BB3 : Blk w1 (w.heap.size + 1) 58 #[.slice B1 l1 d1, .slice B2 l2 d2] := by
  rw [HW1.out]; have h := Blk.new (w.alloc (.cells #[.slice A1 k1 c1, .slice A2 k2 c2] 58)) 58 #[.slice B1 l1 d1, .slice B2 l2 d2]
  simpa using h
 have q20 := BB2.cell 0; have q21 := BB2.cell 1; have q30 := BB3.cell 0; have q31 := BB3.cell 1; simp only [List.getElem?_toArray, List.getElem?_cons_zero, List.getElem?_cons_succ] at q20 q21 q30 q31; clear HW1; go_wp2_with fail; refine (equalitems_n A1 B1 k1 c1 l1 d1 X1 Y1 _ (hx1.below hb1) (hy1.below hb1) TX1 TY1).mono ?_; rintro e w2 ⟨b1, rfl, HB1, hb2⟩; have hb := Below.tr hb1 hb2; have BB2 := Blk.below BB2 hb2 BB2.lt; have BB3 := Blk.below BB3 hb2 BB3.lt; clear q20 q21 q30 q31
 cases b1
 ·have HF : Hid (false = bb) := bool_f (fun h => by have := HB1.out.2 h.1; cases this) HBB.out; clear HB1; go_wp2_with fail; go_ret; exact ⟨retBit HF.out, hb⟩
 ·have E1 := HB1.out.1 rfl; have q20 := BB2.cell 0; have q21 := BB2.cell 1; have q30 := BB3.cell 0; have q31 := BB3.cell 1; simp only [List.getElem?_toArray, List.getElem?_cons_zero, List.getElem?_cons_succ] at q20 q21 q30 q31; go_wp2_with fail; refine (equalitems_n A2 B2 k2 c2 l2 d2 X2 Y2 _ (hx2.below hb) (hy2.below hb) TX2 TY2).mono ?_; rintro e w3 ⟨b2, rfl, HB2, hb3⟩; have HF : Hid (b2 = bb) := bool_of ⟨fun h => ⟨E1, HB2.out.1 h⟩, fun h => HB2.out.2 h.2⟩ HBB.out; have hb4 := Below.tr hb hb3; clear HB1 HB2 E1 q20 q21 q30 q31; go_wp2_with fail; go_ret; exact ⟨retBit HF.out, hb4⟩
theorem gsame_n (x y : Ln) (w : World) (hx : x.Ok w) (hy : y.Ok w) :
  Calls Try.prog 40 #[x.val, y.val] w fun e w' => ∃ b : Bool, e = .returned (.bool b) ∧ Hid (b = true ↔ x.P = y.P ∧ x.S = y.S) ∧ Below w.heap.size w w' :=
 (gsame_nd x y w hx hy).mono fun e w' h => ⟨_, h.1, by show _ ↔ _; simp, h.2⟩
def PhiMo (N g1 k1 k2 : Nat) (x1 x2 : Value) (X1 X2 : List IT) (vs : Nat → Value) (j : Nat) (w : World) (x : Value) : Prop :=
 match j with
 | 0 => x = .pointer (some ⟨g1, 0, none⟩)
 | 1 => x = x1
 | 2 => ∃ A c, x = .slice A k1 c ∧ w.ownsRow N 122 24 x k1 (X1.flatMap cellsI)
 | 3 => x = .pointer (some ⟨g1, 1, none⟩)
 | 4 => x = x2
 | 5 => ∃ A c, x = .slice A k2 c ∧ w.ownsRow N 122 24 x k2 (X2.flatMap cellsI)
 | 6 => ∃ A c A' c', x = .agg #[.slice A k1 c, .slice A' k2 c'] ∧ w.ownsRow N 122 24 (.slice A k1 c) k1 (X1.flatMap cellsI) ∧ w.ownsRow N 122 24 (.slice A' k2 c') k2 (X2.flatMap cellsI)
 | _ => True
theorem PhiMo.keepR {N g1 k1 k2 : Nat} {x1 x2 : Value} {X1 X2 : List IT} : ∀ vs (w w' : World), Below w.heap.size w w' → ∀ j x, PhiMo N g1 k1 k2 x1 x2 X1 X2 vs j w x → PhiMo N g1 k1 k2 x1 x2 X1 X2 vs j w' x := by
 intro vs w w' hb j x h; unfold PhiMo at h ⊢
 split <;> simp only at h ⊢ <;> first | exact h | skip
 ·obtain ⟨A, c, e, h⟩ := h; exact ⟨A, c, e, own_below h hb⟩
 ·obtain ⟨A, c, e, h⟩ := h; exact ⟨A, c, e, own_below h hb⟩
 ·obtain ⟨A, c, A', c', e, h1, h2⟩ := h; exact ⟨A, c, A', c', e, own_below h1 hb, own_below h2 hb⟩
theorem PhiMo.keepF {N g1 k1 k2 : Nat} {x1 x2 : Value} {X1 X2 : List IT} : ∀ vs (w w' : World) j x, ([] : List Nat).contains j = true → PhiMo N g1 k1 k2 x1 x2 X1 X2 vs j w x → PhiMo N g1 k1 k2 x1 x2 X1 X2 vs j w' x := by
 intro vs w w' j x hf
 cases hf
def SMo (w w1 : World) (k1 k2 : Nat) (X1 X2 : List IT) : List Value → (Nat → Value) → World → Prop
 | [], _, W => Below w1.heap.size w1 W
 | _, _, W => ∃ A c A' c', Blk W (w.heap.size + 1) 72 #[.slice A k1 c, .slice A' k2 c'] ∧ W.ownsRow (w.heap.size + 2) 122 24 (.slice A k1 c) k1 (X1.flatMap cellsI) ∧ W.ownsRow (w.heap.size + 2) 122 24 (.slice A' k2 c') k2 (X2.flatMap cellsI) ∧ Below w.heap.size w W
set_option maxRecDepth 100000 in
set_option maxHeartbeats 4000000 in
theorem model_n (x : Ln) (w : World) (hx : x.Ok w) (hk1 : x.k1 ≤ 1073741824) (hk2 : x.k2 ≤ 1073741824) :
  Calls Try.prog 30 #[x.val] w fun e w' => ∃ y : Ln, e = .returned y.val ∧ y.Ok w' ∧ y.P = x.P ∧ y.S = x.S ∧ y.k1 = x.k1 ∧ y.k2 = x.k2 ∧ w'.ownsRow w.heap.size 122 24 (.slice y.A1 y.k1 y.c1) y.k1 (x.P.flatMap cellsI) ∧ w'.ownsRow w.heap.size 122 24 (.slice y.A2 y.k2 y.c2) y.k2 (x.S.flatMap cellsI) ∧ Below w.heap.size w w' := by
 obtain ⟨A1, k1, c1, A2, k2, c2, X1, X2⟩ := x; simp only [Ln.val]; obtain ⟨hx1, hx2, tx1, tx2⟩ := hx; simp only at hx1 hx2 tx1 tx2 hk1 hk2; have TX1 := Lib.hid tx1; have TX2 := Lib.hid tx2; clear tx1 tx2
 go_enter Try.func30, Try.ntmps30
 go_upto_region 1 with fail; refine wp_name ?_; intro w1 HW1; have hb1 : Below w.heap.size w w1 := by rw [HW1.out]; exact Below.tr (bA _ _) (bA _ _)
 have B2 : Blk w1 w.heap.size 58 #[.slice A1 k1 c1, .slice A2 k2 c2] := by rw [HW1.out]; exact (Blk.new _ _ _).alloc _
 have B3 : Blk w1 (w.heap.size + 1) 72 #[.slice none 0 0, .slice none 0 0] := by
  rw [HW1.out]; have h := Blk.new (w.alloc (.cells #[.slice A1 k1 c1, .slice A2 k2 c2] 58)) 72 #[.slice none 0 0, .slice none 0 0]
  simpa using h
 have hsz1 : w.heap.size + 2 ≤ w1.heap.size := B3.lt; have q10 := B2.cell 0; have q11 := B2.cell 1; simp only [List.getElem?_toArray, List.getElem?_cons_zero, List.getElem?_cons_succ] at q10 q11; clear HW1; refine region_chain [7] [.early, .early, .early, .early, .early, .early, .early, .chain 0] [] [] (PhiMo (w.heap.size + 2) w.heap.size k1 k2 (.slice A1 k1 c1) (.slice A2 k2 c2) X1 X2) (fun w w' => Below w.heap.size w w') (SMo w w1 k1 k2 X1 X2) (by kernel_rfl) (by kernel_rfl) (by kernel_rfl) (by kernel_rfl) (sK (fun _ _ _ _ _ h => h) (sK (fun _ _ _ _ _ h => h) (sK (fun _ _ _ _ _ h => h) (sK (fun _ _ _ _ _ h => h) (sK (fun _ _ _ _ _ h => h) (sK (fun _ _ _ _ _ h => h) (sK (fun _ _ _ _ _ h => h) (sK (fun _ _ _ _ _ h => h) (sZ))))))))) PhiMo.keepR PhiMo.keepF (fun _ _ _ _ hR hS => Below.tr hS hR) (by rintro (_ | ⟨_, _⟩) vs vs' w _ h <;> exact h) (fun _ => bD _) (fun vs => by simp only [fillR, Act.put, sA, sB, sC, Nat.zero_add, Nat.reduceAdd]; rfl) ?_ ?_
 ·refine sK ?_ (sK ?_ (sK ?_ (sK ?_ (sK ?_ (sK ?_ (sK ?_ (sK ?_ (sZ))))))))
  ·as_aux_lemma =>
   intro vs W hS hu hdep K hK; have HU := Lib.hid hu; clear hu; refine ⟨?_⟩; simp only [Act.put, sA, sB, sC, Nat.zero_add, Nat.reduceAdd] at hK ⊢; go_simp; with_reducible refine hK _ _ (Below.refl _ _) ?_
   exact rfl
  ·as_aux_lemma =>
   intro vs W hS hu hdep K hK; have HU := Lib.hid hu; clear hu; have d0 := hdep ⟨0, .data⟩ (by simp) rfl; simp only [PhiMo] at d0; have ft := cell_keep hS q10; refine ⟨?_⟩; simp only [Act.put, sA, sB, sC, Nat.zero_add, Nat.reduceAdd, d0] at hK ⊢; go_simp; with_reducible refine hK _ _ (Below.refl _ _) ?_
   exact rfl
  ·as_aux_lemma =>
   intro vs W hS hu hdep K hK; have HU := Lib.hid hu; clear hu; have d0 := hdep ⟨1, .data⟩ (by simp) rfl; simp only [PhiMo] at d0; refine ⟨?_⟩; simp only [fillR, Act.put, sA, sB, sC, Nat.zero_add, Nat.reduceAdd, d0] at hK ⊢; go_simp; refine (items_n A1 k1 c1 X1 _ ((hx1.below hb1).below hS) TX1 hk1).mono ?_; rintro e w' ⟨v, rfl, ho, hb⟩; obtain ⟨Av, cv, rfl⟩ := own_shp ho; go_wp2_with fail; with_reducible refine hK _ _ hb ?_
   exact ⟨_, _, rfl, own_mono ho (by have := hS.size; omega)⟩
  ·as_aux_lemma =>
   intro vs W hS hu hdep K hK; have HU := Lib.hid hu; clear hu; refine ⟨?_⟩; simp only [Act.put, sA, sB, sC, Nat.zero_add, Nat.reduceAdd] at hK ⊢; go_simp; with_reducible refine hK _ _ (Below.refl _ _) ?_
   exact rfl
  ·as_aux_lemma =>
   intro vs W hS hu hdep K hK; have HU := Lib.hid hu; clear hu; have d0 := hdep ⟨3, .data⟩ (by simp) rfl; simp only [PhiMo] at d0; have ft := cell_keep hS q11; refine ⟨?_⟩; simp only [Act.put, sA, sB, sC, Nat.zero_add, Nat.reduceAdd, d0] at hK ⊢; go_simp; with_reducible refine hK _ _ (Below.refl _ _) ?_
   exact rfl
  ·as_aux_lemma =>
   intro vs W hS hu hdep K hK; have HU := Lib.hid hu; clear hu; have d0 := hdep ⟨4, .data⟩ (by simp) rfl; simp only [PhiMo] at d0; refine ⟨?_⟩; simp only [fillR, Act.put, sA, sB, sC, Nat.zero_add, Nat.reduceAdd, d0] at hK ⊢; go_simp; refine (items_n A2 k2 c2 X2 _ ((hx2.below hb1).below hS) TX2 hk2).mono ?_; rintro e w' ⟨v, rfl, ho, hb⟩; obtain ⟨Av, cv, rfl⟩ := own_shp ho; go_wp2_with fail; with_reducible refine hK _ _ hb ?_
   exact ⟨_, _, rfl, own_mono ho (by have := hS.size; omega)⟩
  ·as_aux_lemma =>
   intro vs W hS hu hdep K hK; have HU := Lib.hid hu; clear hu; have d0 := hdep ⟨2, .data⟩ (by simp) rfl; simp only [PhiMo] at d0; refine @exE2 _ _ _ _ d0 ?_; clear d0; intro A0 c0 d0; have e0 := d0.1; have o0 := d0.2; clear d0; have d1 := hdep ⟨5, .data⟩ (by simp) rfl; simp only [PhiMo] at d1; refine @exE2 _ _ _ _ d1 ?_; clear d1; intro B1 d1 d1; have f1 := d1.1; have p1 := d1.2; clear d1; refine ⟨?_⟩; simp only [Act.put, sA, sB, sC, Nat.zero_add, Nat.reduceAdd, e0, f1] at hK ⊢; rw [if_pos (by rfl)]; rw [e0] at o0; rw [f1] at p1; refine wp_buildW 72 [(0, .tmp 5), (1, .tmp 8)] (by rfl) #[.slice A0 k1 c0, .slice B1 k2 d1] [(0, .slice A0 k1 c0), (1, .slice B1 k2 d1)] (by rfl) built_rln ?_; simp only [Act.put, sA, sB, sC]; with_reducible refine hK _ _ (Below.refl _ _) ?_
   exact ⟨_, _, _, _, rfl, o0, p1⟩
  ·as_aux_lemma =>
   intro vs W hS hdep K hK; have d0 := hdep ⟨6, .data⟩ (by simp) rfl (by rfl); simp only [PhiMo] at d0; simp only [List.take_zero, List.map_nil] at hS; have hS0 : Below w1.heap.size w1 W := hS; clear hS; refine @exE4 _ _ _ _ _ _ d0 ?_; clear d0; intro A c A' c' d0; have e0 := d0.1; have o1 := d0.2.1; have o2 := d0.2.2; clear d0; have BB := Blk.below B3 hS0 B3.lt; have hbb := Below.tr hb1 hS0; refine ⟨?_⟩; simp only [Act.put, sA, sB, sC, Nat.zero_add, Nat.reduceAdd, e0] at hK ⊢; rw [if_pos (by rfl)]; refine wp_store_mid 72 (.tmp 2) (.tmp 9) (by rfl) (w.heap.size + 1) 0 #[.slice A k1 c, .slice A' k2 c'] (by rfl) (by rfl) (Blk.there BB rfl) info_rln (by simp [Value.oneCell']) ?_; simp only [Act.put, sA, sB, sC]; with_reducible refine hK undef _ ?_
   refine ⟨A, c, A', c', Blk.setAll BB rfl, ?_, ?_, below_setAll (by omega) _ _ hbb⟩
   ·exact own_set (own_set o1 (p := ⟨w.heap.size + 1, 0, none⟩) (by show w.heap.size + 1 < _; omega) _) (p := ⟨w.heap.size + 1, 1, none⟩) (by show w.heap.size + 1 < _; omega) _
   ·exact own_set (own_set o2 (p := ⟨w.heap.size + 1, 0, none⟩) (by show w.heap.size + 1 < _; omega) _) (p := ⟨w.heap.size + 1, 1, none⟩) (by show w.heap.size + 1 < _; omega) _
 ·intro vs W hS _; obtain ⟨A, c, A', c', BF, o1, o2, hbf⟩ := hS; obtain ⟨_, _, e1, r1⟩ := own_rowS cellsI_len (by omega) (by omega) o1; obtain ⟨_, _, e2, r2⟩ := own_rowS cellsI_len (by omega) (by omega) o2; injection e1 with e11 _ e12; injection e2 with e21 _ e22; subst e11 e12 e21 e22; go_wp2_with fail
  (try simp only [Exit.inBlock, Exit.then])
  refine bodyPost_ret (results_rln rfl rfl BF) rfl ?_; exact ⟨⟨A, k1, c, A', k2, c', X1, X2⟩, rfl, ⟨r1, r2, TX1.out, TX2.out⟩, rfl, rfl, rfl, rfl, own_mono o1 (by omega), own_mono o2 (by omega), hbf⟩
def PhiGi (N g1 k1 k2 : Nat) (x1 x2 : Value) (X1 X2 : List IT) (vs : Nat → Value) (j : Nat) (w : World) (x : Value) : Prop :=
 match j with
 | 0 => x = .pointer (some ⟨g1, 0, none⟩)
 | 1 => x = x1
 | 2 => ∃ A c, x = .slice A k1 c ∧ w.ownsRow N 66 24 x k1 (X1.flatMap cellsI)
 | 3 => x = .pointer (some ⟨g1, 1, none⟩)
 | 4 => x = x2
 | 5 => ∃ A c, x = .slice A k2 c ∧ w.ownsRow N 66 24 x k2 (X2.flatMap cellsI)
 | 6 => ∃ A c A' c', x = .agg #[.slice A k1 c, .slice A' k2 c'] ∧ w.ownsRow N 66 24 (.slice A k1 c) k1 (X1.flatMap cellsI) ∧ w.ownsRow N 66 24 (.slice A' k2 c') k2 (X2.flatMap cellsI)
 | _ => True
theorem PhiGi.keepR {N g1 k1 k2 : Nat} {x1 x2 : Value} {X1 X2 : List IT} : ∀ vs (w w' : World), Below w.heap.size w w' → ∀ j x, PhiGi N g1 k1 k2 x1 x2 X1 X2 vs j w x → PhiGi N g1 k1 k2 x1 x2 X1 X2 vs j w' x := by
 intro vs w w' hb j x h; unfold PhiGi at h ⊢
 split <;> simp only at h ⊢ <;> first | exact h | skip
 ·obtain ⟨A, c, e, h⟩ := h; exact ⟨A, c, e, own_below h hb⟩
 ·obtain ⟨A, c, e, h⟩ := h; exact ⟨A, c, e, own_below h hb⟩
 ·obtain ⟨A, c, A', c', e, h1, h2⟩ := h; exact ⟨A, c, A', c', e, own_below h1 hb, own_below h2 hb⟩
theorem PhiGi.keepF {N g1 k1 k2 : Nat} {x1 x2 : Value} {X1 X2 : List IT} : ∀ vs (w w' : World) j x, ([] : List Nat).contains j = true → PhiGi N g1 k1 k2 x1 x2 X1 X2 vs j w x → PhiGi N g1 k1 k2 x1 x2 X1 X2 vs j w' x := by
 intro vs w w' j x hf
 cases hf
def SGi (w w1 : World) (k1 k2 : Nat) (X1 X2 : List IT) : List Value → (Nat → Value) → World → Prop
 | [], _, W => Below w1.heap.size w1 W
 | _, _, W => ∃ A c A' c', Blk W (w.heap.size + 1) 58 #[.slice A k1 c, .slice A' k2 c'] ∧ W.ownsRow (w.heap.size + 2) 66 24 (.slice A k1 c) k1 (X1.flatMap cellsI) ∧ W.ownsRow (w.heap.size + 2) 66 24 (.slice A' k2 c') k2 (X2.flatMap cellsI) ∧ Below w.heap.size w W
set_option maxRecDepth 100000 in
set_option maxHeartbeats 4000000 in
theorem given_n (x : Ln) (w : World) (hx : x.Ok w) (hk1 : x.k1 ≤ 1073741824) (hk2 : x.k2 ≤ 1073741824) :
  Calls Try.prog 33 #[x.val] w fun e w' => ∃ y : Ln, e = .returned y.val ∧ y.Ok w' ∧ y.P = x.P ∧ y.S = x.S ∧ y.k1 = x.k1 ∧ y.k2 = x.k2 ∧ w'.ownsRow w.heap.size 66 24 (.slice y.A1 y.k1 y.c1) y.k1 (x.P.flatMap cellsI) ∧ w'.ownsRow w.heap.size 66 24 (.slice y.A2 y.k2 y.c2) y.k2 (x.S.flatMap cellsI) ∧ Below w.heap.size w w' := by
 obtain ⟨A1, k1, c1, A2, k2, c2, X1, X2⟩ := x; simp only [Ln.val]; obtain ⟨hx1, hx2, tx1, tx2⟩ := hx; simp only at hx1 hx2 tx1 tx2 hk1 hk2; have TX1 := Lib.hid tx1; have TX2 := Lib.hid tx2; clear tx1 tx2
 go_enter Try.func33, Try.ntmps33
 go_upto_region 1 with fail; refine wp_name ?_; intro w1 HW1; have hb1 : Below w.heap.size w w1 := by rw [HW1.out]; exact Below.tr (bA _ _) (bA _ _)
 have B2 : Blk w1 w.heap.size 72 #[.slice A1 k1 c1, .slice A2 k2 c2] := by rw [HW1.out]; exact (Blk.new _ _ _).alloc _
 have B3 : Blk w1 (w.heap.size + 1) 58 #[.slice none 0 0, .slice none 0 0] := by
  rw [HW1.out]; have h := Blk.new (w.alloc (.cells #[.slice A1 k1 c1, .slice A2 k2 c2] 72)) 58 #[.slice none 0 0, .slice none 0 0]
  simpa using h
 have hsz1 : w.heap.size + 2 ≤ w1.heap.size := B3.lt; have q10 := B2.cell 0; have q11 := B2.cell 1; simp only [List.getElem?_toArray, List.getElem?_cons_zero, List.getElem?_cons_succ] at q10 q11; clear HW1; refine region_chain [7] [.early, .early, .early, .early, .early, .early, .early, .chain 0] [] [] (PhiGi (w.heap.size + 2) w.heap.size k1 k2 (.slice A1 k1 c1) (.slice A2 k2 c2) X1 X2) (fun w w' => Below w.heap.size w w') (SGi w w1 k1 k2 X1 X2) (by kernel_rfl) (by kernel_rfl) (by kernel_rfl) (by kernel_rfl) (sK (fun _ _ _ _ _ h => h) (sK (fun _ _ _ _ _ h => h) (sK (fun _ _ _ _ _ h => h) (sK (fun _ _ _ _ _ h => h) (sK (fun _ _ _ _ _ h => h) (sK (fun _ _ _ _ _ h => h) (sK (fun _ _ _ _ _ h => h) (sK (fun _ _ _ _ _ h => h) (sZ))))))))) PhiGi.keepR PhiGi.keepF (fun _ _ _ _ hR hS => Below.tr hS hR) (by rintro (_ | ⟨_, _⟩) vs vs' w _ h <;> exact h) (fun _ => bD _) (fun vs => by simp only [fillR, Act.put, sA, sB, sC, Nat.zero_add, Nat.reduceAdd]; rfl) ?_ ?_
 ·refine sK ?_ (sK ?_ (sK ?_ (sK ?_ (sK ?_ (sK ?_ (sK ?_ (sK ?_ (sZ))))))))
  ·as_aux_lemma =>
   intro vs W hS hu hdep K hK; have HU := Lib.hid hu; clear hu; refine ⟨?_⟩; simp only [Act.put, sA, sB, sC, Nat.zero_add, Nat.reduceAdd] at hK ⊢; go_simp; with_reducible refine hK _ _ (Below.refl _ _) ?_
   exact rfl
  ·as_aux_lemma =>
   intro vs W hS hu hdep K hK; have HU := Lib.hid hu; clear hu; have d0 := hdep ⟨0, .data⟩ (by simp) rfl; simp only [PhiGi] at d0; have ft := cell_keep hS q10; refine ⟨?_⟩; simp only [Act.put, sA, sB, sC, Nat.zero_add, Nat.reduceAdd, d0] at hK ⊢; go_simp; with_reducible refine hK _ _ (Below.refl _ _) ?_
   exact rfl
  ·as_aux_lemma =>
   intro vs W hS hu hdep K hK; have HU := Lib.hid hu; clear hu; have d0 := hdep ⟨1, .data⟩ (by simp) rfl; simp only [PhiGi] at d0; refine ⟨?_⟩; simp only [fillR, Act.put, sA, sB, sC, Nat.zero_add, Nat.reduceAdd, d0] at hK ⊢; go_simp; refine (own_n A1 k1 c1 X1 _ ((hx1.below hb1).below hS) TX1 hk1).mono ?_; rintro e w' ⟨v, rfl, ho, hb⟩; obtain ⟨Av, cv, rfl⟩ := own_shp ho; go_wp2_with fail; with_reducible refine hK _ _ hb ?_
   exact ⟨_, _, rfl, own_mono ho (by have := hS.size; omega)⟩
  ·as_aux_lemma =>
   intro vs W hS hu hdep K hK; have HU := Lib.hid hu; clear hu; refine ⟨?_⟩; simp only [Act.put, sA, sB, sC, Nat.zero_add, Nat.reduceAdd] at hK ⊢; go_simp; with_reducible refine hK _ _ (Below.refl _ _) ?_
   exact rfl
  ·as_aux_lemma =>
   intro vs W hS hu hdep K hK; have HU := Lib.hid hu; clear hu; have d0 := hdep ⟨3, .data⟩ (by simp) rfl; simp only [PhiGi] at d0; have ft := cell_keep hS q11; refine ⟨?_⟩; simp only [Act.put, sA, sB, sC, Nat.zero_add, Nat.reduceAdd, d0] at hK ⊢; go_simp; with_reducible refine hK _ _ (Below.refl _ _) ?_
   exact rfl
  ·as_aux_lemma =>
   intro vs W hS hu hdep K hK; have HU := Lib.hid hu; clear hu; have d0 := hdep ⟨4, .data⟩ (by simp) rfl; simp only [PhiGi] at d0; refine ⟨?_⟩; simp only [fillR, Act.put, sA, sB, sC, Nat.zero_add, Nat.reduceAdd, d0] at hK ⊢; go_simp; refine (own_n A2 k2 c2 X2 _ ((hx2.below hb1).below hS) TX2 hk2).mono ?_; rintro e w' ⟨v, rfl, ho, hb⟩; obtain ⟨Av, cv, rfl⟩ := own_shp ho; go_wp2_with fail; with_reducible refine hK _ _ hb ?_
   exact ⟨_, _, rfl, own_mono ho (by have := hS.size; omega)⟩
  ·as_aux_lemma =>
   intro vs W hS hu hdep K hK; have HU := Lib.hid hu; clear hu; have d0 := hdep ⟨2, .data⟩ (by simp) rfl; simp only [PhiGi] at d0; refine @exE2 _ _ _ _ d0 ?_; clear d0; intro A0 c0 d0; have e0 := d0.1; have o0 := d0.2; clear d0; have d1 := hdep ⟨5, .data⟩ (by simp) rfl; simp only [PhiGi] at d1; refine @exE2 _ _ _ _ d1 ?_; clear d1; intro B1 d1 d1; have f1 := d1.1; have p1 := d1.2; clear d1; refine ⟨?_⟩; simp only [Act.put, sA, sB, sC, Nat.zero_add, Nat.reduceAdd, e0, f1] at hK ⊢; rw [if_pos (by rfl)]; rw [e0] at o0; rw [f1] at p1; refine wp_buildW 58 [(0, .tmp 5), (1, .tmp 8)] (by rfl) #[.slice A0 k1 c0, .slice B1 k2 d1] [(0, .slice A0 k1 c0), (1, .slice B1 k2 d1)] (by rfl) built_gln ?_; simp only [Act.put, sA, sB, sC]; with_reducible refine hK _ _ (Below.refl _ _) ?_
   exact ⟨_, _, _, _, rfl, o0, p1⟩
  ·as_aux_lemma =>
   intro vs W hS hdep K hK; have d0 := hdep ⟨6, .data⟩ (by simp) rfl (by rfl); simp only [PhiGi] at d0; simp only [List.take_zero, List.map_nil] at hS; have hS0 : Below w1.heap.size w1 W := hS; clear hS; refine @exE4 _ _ _ _ _ _ d0 ?_; clear d0; intro A c A' c' d0; have e0 := d0.1; have o1 := d0.2.1; have o2 := d0.2.2; clear d0; have BB := Blk.below B3 hS0 B3.lt; have hbb := Below.tr hb1 hS0; refine ⟨?_⟩; simp only [Act.put, sA, sB, sC, Nat.zero_add, Nat.reduceAdd, e0] at hK ⊢; rw [if_pos (by rfl)]; refine wp_store_mid 58 (.tmp 2) (.tmp 9) (by rfl) (w.heap.size + 1) 0 #[.slice A k1 c, .slice A' k2 c'] (by rfl) (by rfl) (Blk.there BB rfl) info_gln (by simp [Value.oneCell']) ?_; simp only [Act.put, sA, sB, sC]; with_reducible refine hK undef _ ?_
   refine ⟨A, c, A', c', Blk.setAll BB rfl, ?_, ?_, below_setAll (by omega) _ _ hbb⟩
   ·exact own_set (own_set o1 (p := ⟨w.heap.size + 1, 0, none⟩) (by show w.heap.size + 1 < _; omega) _) (p := ⟨w.heap.size + 1, 1, none⟩) (by show w.heap.size + 1 < _; omega) _
   ·exact own_set (own_set o2 (p := ⟨w.heap.size + 1, 0, none⟩) (by show w.heap.size + 1 < _; omega) _) (p := ⟨w.heap.size + 1, 1, none⟩) (by show w.heap.size + 1 < _; omega) _
 ·intro vs W hS _; obtain ⟨A, c, A', c', BF, o1, o2, hbf⟩ := hS; obtain ⟨_, _, e1, r1⟩ := own_rowS cellsI_len (by omega) (by omega) o1; obtain ⟨_, _, e2, r2⟩ := own_rowS cellsI_len (by omega) (by omega) o2; injection e1 with e11 _ e12; injection e2 with e21 _ e22; subst e11 e12 e21 e22; go_wp2_with fail
  (try simp only [Exit.inBlock, Exit.then])
  refine bodyPost_ret (results_gln rfl rfl BF) rfl ?_; exact ⟨⟨A, k1, c, A', k2, c', X1, X2⟩, rfl, ⟨r1, r2, TX1.out, TX2.out⟩, rfl, rfl, rfl, rfl, own_mono o1 (by omega), own_mono o2 (by omega), hbf⟩
/-- what Check says -/
noncomputable def ckE (f : Int) (P S P' S' : List IT) : Int := open Classical in if f = 0 then (if P = P' ∧ S = S' then 0 else 16) else f
theorem zip_ty {names : List ByteArray} {rs : List RC0} (h : ∀ r ∈ rs, RcTy r) : ∀ x ∈ names.zip rs, RcTy x.2 := fun x hx => h _ (List.of_mem_zip (a := x.1) (b := x.2) hx).2
theorem pas_ty {l : List Nat} {ps : List PC} {xs : List (ByteArray × RC0)} (h : ∀ x ∈ xs, RcTy x.2) : ∀ it ∈ pasL l ps xs, ItTy it := by
 intro it hit; obtain ⟨h1, _⟩ := List.mem_filter.1 hit; obtain ⟨x, h2, rfl⟩ := List.mem_map.1 h1; exact h x (List.mem_filter.1 h2).1
theorem sto_ty {l : List Nat} {ps : List PC} {xs : List (ByteArray × RC0)} (h : ∀ x ∈ xs, RcTy x.2) : ∀ it ∈ stoL l ps xs, ItTy it := by
 intro it hit; obtain ⟨h1, _⟩ := List.mem_filter.1 hit; obtain ⟨x, h2, rfl⟩ := List.mem_map.1 h1; exact h x (List.mem_filter.1 h2).1
/-- what Decide makes, as a line -/
theorem dec_ln {w : World} {T : TypeId} {base : Nat} {l : List Nat} {ps : List PC} {names : List ByteArray} {rs : List RC0} {vp vs : Value} {np ns kt : Nat} {er : Int} (hk : kt ≤ 1073741824) (hkt : kt = names.length) (HT : Hid (∀ r ∈ rs, RcTy r))
  (h1 : w.ownsRow base T 24 vp np ((pasL l ps (if er = 0 then names.zip rs else [])).flatMap cellsI)) (h2 : w.ownsRow base T 24 vs ns ((stoL l ps (if er = 0 then names.zip rs else [])).flatMap cellsI)) :
  ∃ y : Ln, (.agg #[vp, vs] : Value) = y.val ∧ vp = .slice y.A1 y.k1 y.c1 ∧ vs = .slice y.A2 y.k2 y.c2 ∧ y.Ok w ∧ Hid (er = 0 → y.P = pasL l ps (names.zip rs) ∧ y.S = stoL l ps (names.zip rs)) ∧ Hid (y.P = pasL l ps (if er = 0 then names.zip rs else []) ∧ y.S = stoL l ps (if er = 0 then names.zip rs else [])) ∧ y.k1 ≤ kt ∧ y.k2 ≤ kt := by
 have hz : (if er = 0 then names.zip rs else []).length ≤ kt := by
  split
  ·rw [List.length_zip]; omega
  ·simp
 have ht : ∀ x ∈ (if er = 0 then names.zip rs else []), RcTy x.2 := by
  intro x hx
  split at hx
  ·exact zip_ty HT.out x hx
  ·cases hx
 have g1 := h1.1; have g2 := h2.1; rw [flat_len cellsI_len] at g1 g2; have p1 := pas_le l ps (if er = 0 then names.zip rs else []); have p2 := sto_le l ps (if er = 0 then names.zip rs else []); obtain ⟨A1, c1, rfl, r1⟩ := own_rowS cellsI_len (by omega) (by omega) h1; obtain ⟨A2, c2, rfl, r2⟩ := own_rowS cellsI_len (by omega) (by omega) h2; refine ⟨⟨A1, np, c1, A2, ns, c2, _, _⟩, rfl, rfl, rfl, ⟨r1, r2, pas_ty ht, sto_ty ht⟩, fun he => ?_, ⟨rfl, rfl⟩, by show np ≤ kt; omega, by show ns ≤ kt; omega⟩; simp only; rw [if_pos he]; exact ⟨rfl, rfl⟩
set_option maxRecDepth 100000 in
set_option maxHeartbeats 4000000 in
theorem gcheck_n (Al A T S : Option Addr) (kl cl k c kt ct ks cs : Nat) (l : List Int) (ps : List PC) (names : List ByteArray) (rs : List RC0) (x : Ln) (w : World) (hp : RowS cellsP w Al kl ps) (hr : RowS intC w A k l) (ht : RowS strC w T kt names) (hs : RowS cellsR w S ks rs) (HT : Hid (∀ r ∈ rs, RcTy r)) (hx : x.Ok w) (hks : ks ≤ 1073741824) (hkt : kt ≤ 1073741824) :
  Calls Try.prog 32 #[.slice Al kl cl, .slice A k c, .slice T kt ct, .slice S ks cs, x.val] w fun e w' => ∃ z : Int, e = .returned (.int .i64 z) ∧ Hid (z = ckE (fitE kl l kt ks rs) x.P x.S (pasL (l.map Int.toNat) ps (names.zip rs)) (stoL (l.map Int.toNat) ps (names.zip rs))) ∧ Below w.heap.size w w' := by
 have HS : Hid (∀ x ∈ rs, ∀ v ∈ cellsR x, v.oneCell' = true) := fun x h => (HT.out x h).one
 obtain ⟨vx1, vx2, evx⟩ : ∃ v1 v2, x.val = .agg #[v1, v2] := ⟨_, _, rfl⟩; have HVX := Lib.hid evx; rw [evx]; clear evx
 go_enter Try.func32, Try.ntmps32
 go_upto_region 1 with fail; refine wp_name ?_; intro w1 HW1; have hb1 : Below w.heap.size w w1 := by rw [HW1.out]; exact bA _ _
 have B9 : Blk w1 w.heap.size 58 #[vx1, vx2] := by rw [HW1.out]; exact Blk.new _ _ _
 clear HW1; go_wp2_with fail; refine (decide_n Al A T S kl cl k c kt ct ks cs l ps names rs _ (hp.below hb1) (hr.below hb1) (ht.below hb1) (hs.below hb1) HS hks).mono ?_; rintro e w2 ⟨vp, np, vs, ns, er, rfl, HE, hop, hos, hb2⟩; obtain ⟨y, -, rfl, rfl, hy, HY, _, _, _⟩ := dec_ln hkt ht.2.1 HT hop hos; clear hop hos; go_upto_region 2 with fail; refine wp_name ?_; intro w3 HW3; have hb3 : Below w2.heap.size w2 w3 := by rw [HW3.out]; exact bA _ _
 have B11 : Blk w3 w2.heap.size 58 #[.slice y.A1 y.k1 y.c1, .slice y.A2 y.k2 y.c2] := by rw [HW3.out]; exact Blk.new _ _ _
 have hb23 := Below.tr hb2 hb3; have B9 := Blk.below B9 hb23 B9.lt; have hb := Below.tr hb1 hb23; clear HW3; by_cases he : er = 0
 ·subst he; have hy := hy.below hb3; have hx := hx.below hb; have q90 := B9.cell 0; have q91 := B9.cell 1; have q110 := B11.cell 0; have q111 := B11.cell 1; simp only [List.getElem?_toArray, List.getElem?_cons_zero, List.getElem?_cons_succ] at q90 q91 q110 q111; clear hb2 hb3 hb23 hp hr ht hs HS HT; go_wp2_with fail; rw [← HVX.out]; refine (gsame_n x y _ hx hy).mono ?_; rintro e w4 ⟨b, rfl, HB, hb4⟩; have hb5 := Below.tr hb hb4
  have HZ : Hid ((if b then 0 else 16 : Int) = ckE (fitE kl l kt ks rs) x.P x.S (pasL (l.map Int.toNat) ps (names.zip rs)) (stoL (l.map Int.toNat) ps (names.zip rs))) := by
   show _ = _
   rw [← HE.out]; unfold ckE; rw [if_pos rfl]; obtain ⟨e1, e2⟩ := HY.out (by first | rfl | trivial); have hb := HB.out; rw [e1, e2] at hb; by_cases h : x.P = pasL (l.map Int.toNat) ps (names.zip rs) ∧ x.S = stoL (l.map Int.toNat) ps (names.zip rs)
   ·rw [if_pos h, hb.2 h]; rfl
   ·rw [if_neg h, if_neg (fun h2 => h (hb.1 h2))]
  clear HE HY HB hx hy q90 q91 q110 q111
  cases b
  ·go_wp2_with fail; go_ret; exact ⟨16, rfl, HZ, hb5⟩
  ·go_wp2_with fail; go_ret; exact ⟨0, rfl, HZ, hb5⟩
 ·have h0 : (er == 0) = false := by simpa using he
  have HZ : Hid (er = ckE (fitE kl l kt ks rs) x.P x.S (pasL (l.map Int.toNat) ps (names.zip rs)) (stoL (l.map Int.toNat) ps (names.zip rs))) := by
   show _ = _
   rw [← HE.out]; unfold ckE; rw [if_neg he]
  clear HE HY hx hy hp hr ht hs HS HT he; go_wp2_with fail; go_ret; exact ⟨er, rfl, HZ, hb⟩
set_option maxRecDepth 100000 in
set_option maxHeartbeats 4000000 in
theorem rcheck_n (Al A T S : Option Addr) (kl cl k c kt ct ks cs : Nat) (l : List Int) (ps : List PC) (names : List ByteArray) (rs : List RC0) (x : Ln) (w : World) (hp : RowS cellsP w Al kl ps) (hr : RowS intC w A k l) (ht : RowS strC w T kt names) (hs : RowS cellsR w S ks rs) (HT : Hid (∀ r ∈ rs, RcTy r)) (hx : x.Ok w) (hks : ks ≤ 1073741824) (hkt : kt ≤ 1073741824) :
  Calls Try.prog 34 #[.slice Al kl cl, .slice A k c, .slice T kt ct, .slice S ks cs, x.val] w fun e w' => ∃ z : Int, e = .returned (.int .i64 z) ∧ Hid (z = ckE (fitE kl l kt ks rs) x.P x.S (pasL (l.map Int.toNat) ps (names.zip rs)) (stoL (l.map Int.toNat) ps (names.zip rs))) ∧ Below w.heap.size w w' := by
 have HS : Hid (∀ x ∈ rs, ∀ v ∈ cellsR x, v.oneCell' = true) := fun x h => (HT.out x h).one
 obtain ⟨vx1, vx2, evx⟩ : ∃ v1 v2, x.val = .agg #[v1, v2] := ⟨_, _, rfl⟩; have HVX := Lib.hid evx; rw [evx]; clear evx
 go_enter Try.func34, Try.ntmps34
 go_upto_region 1 with fail; refine wp_name ?_; intro w1 HW1; have hb1 : Below w.heap.size w w1 := by rw [HW1.out]; exact bA _ _
 have B9 : Blk w1 w.heap.size 72 #[vx1, vx2] := by rw [HW1.out]; exact Blk.new _ _ _
 clear HW1; go_wp2_with fail; refine (rdecide_n Al A T S kl cl k c kt ct ks cs l ps names rs _ (hp.below hb1) (hr.below hb1) (ht.below hb1) (hs.below hb1) HS hks).mono ?_; rintro e w2 ⟨vp, np, vs, ns, er, rfl, HE, hop, hos, hb2⟩; obtain ⟨y, -, rfl, rfl, hy, HY, _, _, _⟩ := dec_ln hkt ht.2.1 HT hop hos; clear hop hos; go_upto_region 2 with fail; refine wp_name ?_; intro w3 HW3; have hb3 : Below w2.heap.size w2 w3 := by rw [HW3.out]; exact bA _ _
 have B11 : Blk w3 w2.heap.size 72 #[.slice y.A1 y.k1 y.c1, .slice y.A2 y.k2 y.c2] := by rw [HW3.out]; exact Blk.new _ _ _
 have hb23 := Below.tr hb2 hb3; have B9 := Blk.below B9 hb23 B9.lt; have hb := Below.tr hb1 hb23; clear HW3; by_cases he : er = 0
 ·subst he; have hy := hy.below hb3; have hx := hx.below hb; have q90 := B9.cell 0; have q91 := B9.cell 1; have q110 := B11.cell 0; have q111 := B11.cell 1; simp only [List.getElem?_toArray, List.getElem?_cons_zero, List.getElem?_cons_succ] at q90 q91 q110 q111; clear hb2 hb3 hb23 hp hr ht hs HS HT; go_wp2_with fail; rw [← HVX.out]; refine (rsame_n x y _ hx hy).mono ?_; rintro e w4 ⟨b, rfl, HB, hb4⟩; have hb5 := Below.tr hb hb4
  have HZ : Hid ((if b then 0 else 16 : Int) = ckE (fitE kl l kt ks rs) x.P x.S (pasL (l.map Int.toNat) ps (names.zip rs)) (stoL (l.map Int.toNat) ps (names.zip rs))) := by
   show _ = _
   rw [← HE.out]; unfold ckE; rw [if_pos rfl]; obtain ⟨e1, e2⟩ := HY.out (by first | rfl | trivial); have hb := HB.out; rw [e1, e2] at hb; by_cases h : x.P = pasL (l.map Int.toNat) ps (names.zip rs) ∧ x.S = stoL (l.map Int.toNat) ps (names.zip rs)
   ·rw [if_pos h, hb.2 h]; rfl
   ·rw [if_neg h, if_neg (fun h2 => h (hb.1 h2))]
  clear HE HY HB hx hy q90 q91 q110 q111
  cases b
  ·go_wp2_with fail; go_ret; exact ⟨16, rfl, HZ, hb5⟩
  ·go_wp2_with fail; go_ret; exact ⟨0, rfl, HZ, hb5⟩
 ·have h0 : (er == 0) = false := by simpa using he
  have HZ : Hid (er = ckE (fitE kl l kt ks rs) x.P x.S (pasL (l.map Int.toNat) ps (names.zip rs)) (stoL (l.map Int.toNat) ps (names.zip rs))) := by
   show _ = _
   rw [← HE.out]; unfold ckE; rw [if_neg he]
  clear HE HY hx hy hp hr ht hs HS HT he; go_wp2_with fail; go_ret; exact ⟨er, rfl, HZ, hb⟩
end Go.Proofs.Yticobffjnjbjiaa
