import Derived.Test.YtijkfagkbfbpmaaGreatDoorKApProof21
import Derived.Test.YtijkfagkbfbpmaaGreatDoorKApProof16
import Derived.Test.YtijkfagkbfbpmaaGreatDoorS0
set_option linter.unusedVariables false
set_option linter.unusedSimpArgs false
namespace Go.Proofs.YtijkfagkbfbpmaaGreatDoor
open Go Go.RowKit
def pairC (x : Nat × Nat) : List Value := [.int .i64 (x.1 : Nat), .int .i64 (x.2 : Nat)]
theorem pairC_len (x : Nat × Nat) : (pairC x).length = 2 := rfl
/-- the pairs (i, k) of a row, k less than m -/
def clRow (C : Nat → Nat → Bool) (i m : Nat) : List (Nat × Nat) := ((List.range m).filter fun k => decide (i < k) && C i k).map fun k => (i, k)
/-- the pairs of the first m rows -/
def clList (C : Nat → Nat → Bool) (n m : Nat) : List (Nat × Nat) := (List.range m).flatMap fun i => clRow C i n
theorem clRow_start (C : Nat → Nat → Bool) (i : Nat) : clRow C i (i + 1) = [] := by
 unfold clRow; rw [List.map_eq_nil_iff, List.filter_eq_nil_iff]; intro k hk; have := List.mem_range.1 hk; simp; omega
theorem clRow_yes {C : Nat → Nat → Bool} {i m : Nat} (h : i < m) (hc : C i m = true) : clRow C i (m + 1) = clRow C i m ++ [(i, m)] := by
 unfold clRow; rw [List.range_succ, List.filter_append, List.map_append]
 congr 1
 simp [h, hc]
theorem clRow_no {C : Nat → Nat → Bool} {i m : Nat} (hc : C i m = false) : clRow C i (m + 1) = clRow C i m := by
 unfold clRow; rw [List.range_succ, List.filter_append, List.map_append]; simp [hc]
theorem clList_succ (C : Nat → Nat → Bool) (n m : Nat) : clList C n (m + 1) = clList C n m ++ clRow C m n := by
 unfold clList; rw [List.range_succ, List.flatMap_append]; simp
theorem clRow_len (C : Nat → Nat → Bool) (i m : Nat) : (clRow C i m).length ≤ m := by
 unfold clRow; rw [List.length_map]; exact Nat.le_trans (List.length_filter_le _ _) (by rw [List.length_range]; exact Nat.le_refl _)
theorem clList_len (C : Nat → Nat → Bool) (n m : Nat) : (clList C n m).length ≤ m * n := by
 induction m with
 | zero => simp [clList]
 | succ m ih =>
  rw [clList_succ, List.length_append, Nat.succ_mul]; have := clRow_len C m n; omega
theorem info_pair : (Tryz.prog.info? 40).map (fun i => (i.zero, i.size, i.bytes)) = some (some (.agg #[.int .i64 0, .int .i64 0]), 2, 16) := by kernel_rfl
theorem own_pairs {w : World} {base : Nat} {v : Value} {n : Nat} {l : List (Nat × Nat)} (hn : n ≤ 281474976710656) (h : w.ownsRow base 40 2 v n (l.flatMap pairC)) : ∃ A c, v = .slice A n c ∧ RowS pairC w A n l := own_rowS pairC_len (by omega) hn h
def PhiCs8 (A : Option Addr) (k c b off i m : Nat) (p q : PC) (cb : Bool) (j : Nat) (w : World) (x : Value) : Prop :=
 match j with
 | 0 => x = .slice A k c
 | 1 => x = .int .i64 (i : Nat)
 | 2 => x = .pointer (some ⟨b, off + i * 24, none⟩)
 | 3 => x = .agg (cellsP p).toArray
 | 4 => x = .slice A k c
 | 5 => x = .int .i64 (m : Nat)
 | 6 => x = .pointer (some ⟨b, off + m * 24, none⟩)
 | 7 => x = .agg (cellsP q).toArray
 | 8 => x = .bool cb
 | _ => True

theorem PhiCs8.keep {A : Option Addr} {k c b off i m : Nat} {p q : PC} {cb : Bool} : ∀ (w w' : World), Below w.heap.size w w' → ∀ j x, PhiCs8 A k c b off i m p q cb j w x → PhiCs8 A k c b off i m p q cb j w' x := by
 intro w w' hb j x h; unfold PhiCs8 at h ⊢; exact h
set_option maxRecDepth 100000 in
set_option maxHeartbeats 4000000 in
theorem clashes_n (A : Option Addr) (k c : Nat) (ps : List PC) (Lf : Nat → List Nat × List Nat) (Ev : Nat → Int) (dg : Nat → List Int) (w : World) (h : PLs w A k ps Lf Ev dg) (hk : k ≤ 1000) :
  Calls Tryz.prog 13 #[.slice A k c] w fun e w' => ∃ A' k' c', e = .returned (.slice A' k' c') ∧ RowS pairC w' A' k' (clList (clA Ev Lf dg ps) k k) ∧ Below w.heap.size w w' := by
 obtain ⟨i0, hi0, hz0, hz1, hz2⟩ := info_parts info_pair; have HH := Lib.hid h; have HKL : Hid (k = ps.length) := h.row.2.1; clear h
 go_enter Tryz.func13, Tryz.ntmps13
 go_wp2_with fail
 go_loopg [3, 8] k (fun mm v x wr => ∃ (i : Nat) (L : List (Nat × Nat)), x = .int .i64 i ∧ i + mm = k ∧ wr.ownsRow w.heap.size 40 2 v L.length (L.flatMap pairC) ∧ Hid (L = clList (clA Ev Lf dg ps) k i) ∧ Below w.heap.size w wr)
 case atStart => exact ⟨0, [], rfl, by omega, World.ownsRow_nil _ _ _ _, rfl, Below.refl _ _⟩
 case round =>
  obtain ⟨G, hG⟩ : ∃ G, G = gk := ⟨gk, rfl⟩; subst hG; obtain ⟨i, L, rfl, him, hown, HL, hbe⟩ := hrel; obtain ⟨A2, c2, rfl⟩ := own_shp hown; by_cases hi : i < k
  ·have t1 : decide ((i : Int) < (k : Int)) = true := by simp; omega
   have li : (i : Int) < (k : Int) := by omega
   have s1 : IntKind.i64.wrap ((i : Int) + 1) = (i : Int) + 1 := by rw [IntWalk.i64_in _ (by omega)]
   have hil : i < ps.length := by have := HKL.out; omega
   obtain ⟨p, HP⟩ : ∃ p, Hid (ps[i] = p ∧ ps[i]? = some p) := ⟨_, rfl, List.getElem?_eq_getElem hil⟩; obtain ⟨wo, hwo⟩ : ∃ x, x = wr := ⟨_, rfl⟩; subst hwo; go_wp2_with fail
   go_loopg [3, 5] (k - (i + 1)) (fun mm v x wr => ∃ (m : Nat) (L2 : List (Nat × Nat)), x = .int .i64 m ∧ m + mm = k ∧ i < m ∧ wr.ownsRow w.heap.size 40 2 v L2.length (L2.flatMap pairC) ∧ Hid (L2 = clList (clA Ev Lf dg ps) k i ++ clRow (clA Ev Lf dg ps) i m) ∧ Below w.heap.size w wr)
   case atStart => exact ⟨i + 1, L, by go_num, by omega, by omega, hown, by show _ = _; rw [clRow_start, List.append_nil]; exact HL.out, hbe⟩
   case round =>
    obtain ⟨G2, hG2⟩ : ∃ G, G = gk := ⟨gk, rfl⟩; subst hG2; clear hown hbe; obtain ⟨m, L2, rfl, hmm, hlm, hown, HL2, hbe⟩ := hrel; obtain ⟨A3, c3, rfl⟩ := own_shp hown; by_cases hm : m < k
    ·have t2 : decide ((m : Int) < (k : Int)) = true := by simp; omega
     have lm : (m : Int) < (k : Int) := by omega
     have hml : m < ps.length := by have := HKL.out; omega
     obtain ⟨q, HQ⟩ : ∃ q, Hid (ps[m] = q ∧ ps[m]? = some q) := ⟨_, rfl, List.getElem?_eq_getElem hml⟩; have HPL := Lib.hid (HH.out.below hbe); obtain ⟨b, off, hA', HCP⟩ := HPL.out.row.at_ cellsP_len (by omega) hi hil; obtain ⟨b', off', hA2', HCQ⟩ := HPL.out.row.at_ cellsP_len (by omega) hm hml; rw [hA'] at hA2'; injection hA2' with hA2'; injection hA2' with e1 e2; subst e1 e2; subst hA'; rw [HP.out.1] at HCP; rw [HQ.out.1] at HCQ; have HEP := Lib.hid (HPL.out.esc i p HP.out.2); have HEQ := Lib.hid (HPL.out.esc m q HQ.out.2); have HDP := Lib.hid (HPL.out.dk i p HP.out.2); have HDQ := Lib.hid (HPL.out.dk m q HQ.out.2); obtain ⟨cb, HC⟩ : ∃ cb, Hid (cb = clA Ev Lf dg ps i m) := ⟨_, rfl⟩
     have HCB : Hid (∀ (E F : Int) (cb' : Bool), (PVal p (Lf i).1 (Lf i).2 E ∧ (E = 0 → PVal q (Lf m).1 (Lf m).2 F) ∧ cb' = clB E F p q (dg i) (dg m) (sameR (Lf i).1 (Lf i).2 (Lf m).1 (Lf m).2)) → cb' = cb) := by
      intro E F cb' h; have e1 := h.1.uniq (HPL.out.pv i p HP.out.2); rw [h.2.2, HC.out]; unfold clA; rw [HP.out.2, HQ.out.2]; simp only; by_cases hE : E = 0
      ·have e2 := (h.2.1 hE).uniq (HPL.out.pv m q HQ.out.2); rw [e1, e2]
      ·unfold clB; rw [← e1]; simp [hE]
     clear HPL; go_upto_region 8 with fail; obtain ⟨wp, hwp⟩ : ∃ x, x = wr := ⟨_, rfl⟩; subst hwp; refine region_invF (PhiCs8 (some ⟨b, off, none⟩) k c b off i m p q cb) (fun w w' => Below w.heap.size w w') (fun W => Below wp.heap.size wp W) (by kernel_rfl) (by kernel_rfl) (by kernel_rfl) PhiCs8.keep (fun _ _ hR hS => Below.tr hS hR) (bD _) (fun vs => by simp only [fillR, Act.put, sA, sB, sC, Nat.zero_add, Nat.reduceAdd]; rfl) ?_ ?_
     ·refine sK ?_ (sK ?_ (sK ?_ (sK ?_ (sK ?_ (sK ?_ (sK ?_ (sK ?_ (sK ?_ (sZ)))))))))
      ·as_aux_lemma =>
       intro vs W hS hdep K hK; refine ⟨?_⟩; simp only [Act.put, sA, sB, sC, Nat.zero_add, Nat.reduceAdd] at hK ⊢; go_simp; with_reducible refine hK _ _ (Below.refl _ _) ?_
       exact rfl
      ·as_aux_lemma =>
       intro vs W hS hdep K hK; refine ⟨?_⟩; simp only [Act.put, sA, sB, sC, Nat.zero_add, Nat.reduceAdd] at hK ⊢; go_simp; with_reducible refine hK _ _ (Below.refl _ _) ?_
       exact rfl
      ·as_aux_lemma =>
       intro vs W hS hdep K hK; have d0 := hdep ⟨0, .data⟩ (by simp) rfl; simp only [PhiCs8] at d0; have d1 := hdep ⟨1, .data⟩ (by simp) rfl; simp only [PhiCs8] at d1; refine ⟨?_⟩; simp only [Act.put, sA, sB, sC, Nat.zero_add, Nat.reduceAdd, d0, d1] at hK ⊢; go_simp; with_reducible refine hK _ _ (Below.refl _ _) ?_
       exact rfl
      ·as_aux_lemma =>
       intro vs W hS hdep K hK; have d0 := hdep ⟨2, .data⟩ (by simp) rfl; simp only [PhiCs8] at d0; refine ⟨?_⟩; simp only [Act.put, sA, sB, sC, Nat.zero_add, Nat.reduceAdd, d0] at hK ⊢; rw [if_pos (by rfl)]; refine wp_load_mid 33 (.tmp 21) (by rfl) b (off + i * 24) (by rfl) (cellsP p) _ (fun j v h => cell_keep hS (HCP.out j v h)) Tryz.underlying33 (by rfl) infoP ?_; simp only [Act.put, sA, sB, sC]; with_reducible refine hK _ _ (Below.refl _ _) ?_
       exact rfl
      ·as_aux_lemma =>
       intro vs W hS hdep K hK; refine ⟨?_⟩; simp only [Act.put, sA, sB, sC, Nat.zero_add, Nat.reduceAdd] at hK ⊢; go_simp; with_reducible refine hK _ _ (Below.refl _ _) ?_
       exact rfl
      ·as_aux_lemma =>
       intro vs W hS hdep K hK; refine ⟨?_⟩; simp only [Act.put, sA, sB, sC, Nat.zero_add, Nat.reduceAdd] at hK ⊢; go_simp; with_reducible refine hK _ _ (Below.refl _ _) ?_
       exact rfl
      ·as_aux_lemma =>
       intro vs W hS hdep K hK; have d0 := hdep ⟨4, .data⟩ (by simp) rfl; simp only [PhiCs8] at d0; have d1 := hdep ⟨5, .data⟩ (by simp) rfl; simp only [PhiCs8] at d1; refine ⟨?_⟩; simp only [Act.put, sA, sB, sC, Nat.zero_add, Nat.reduceAdd, d0, d1] at hK ⊢; go_simp; with_reducible refine hK _ _ (Below.refl _ _) ?_
       exact rfl
      ·as_aux_lemma =>
       intro vs W hS hdep K hK; have d0 := hdep ⟨6, .data⟩ (by simp) rfl; simp only [PhiCs8] at d0; refine ⟨?_⟩; simp only [Act.put, sA, sB, sC, Nat.zero_add, Nat.reduceAdd, d0] at hK ⊢; rw [if_pos (by rfl)]; refine wp_load_mid 33 (.tmp 25) (by rfl) b (off + m * 24) (by rfl) (cellsP q) _ (fun j v h => cell_keep hS (HCQ.out j v h)) Tryz.underlying33 (by rfl) infoP ?_; simp only [Act.put, sA, sB, sC]; with_reducible refine hK _ _ (Below.refl _ _) ?_
       exact rfl
      ·as_aux_lemma =>
       intro vs W hS hdep K hK; have d0 := hdep ⟨3, .data⟩ (by simp) rfl; simp only [PhiCs8] at d0; have d1 := hdep ⟨7, .data⟩ (by simp) rfl; simp only [PhiCs8] at d1; refine ⟨?_⟩; simp only [Act.put, sA, sB, sC, Nat.zero_add, Nat.reduceAdd, d0, d1] at hK ⊢; go_simp; refine (clash_n p q (Lf i).1 (Lf i).2 (Lf m).1 (Lf m).2 (dg i) (dg m) _ (HEP.out.1.below hS) (HEQ.out.1.below hS) HEP.out.2.1 HEP.out.2.2 HEQ.out.2.1 HEQ.out.2.2 HDP.out HDQ.out).mono ?_; rintro e w' ⟨E, F, cb', rfl, HX, hb⟩; obtain rfl : cb' = cb := HCB.out E F cb' HX.out; go_wp2_with fail; with_reducible refine hK _ _ hb ?_
       exact rfl
     ·intro vs8 w8 hS hv; have u8 := hv 8 (by simp); simp only [PhiCs8] at u8; simp only [Act.put, sA, sB, sC, Nat.zero_add, Nat.reduceAdd, u8]; have hown := own_below hown hS; have hbe := Below.tr hbe hS; clear u8 hv hS HCP HCQ HEP HEQ HDP HDQ HCB; by_cases hcb : cb = true
      ·subst hcb
       have HL3 : Hid (L2 ++ [(i, m)] = clList (clA Ev Lf dg ps) k i ++ clRow (clA Ev Lf dg ps) i (m + 1)) := by
        show _ = _
        rw [clRow_yes hlm HC.out.symm, HL2.out, List.append_assoc]
       have hln : L2.length ≤ 1001000 := by
        have h1 := clList_len (clA Ev Lf dg ps) k i; have h2 := clRow_len (clA Ev Lf dg ps) i m; have h3 : i * k ≤ 1000 * 1000 := Nat.mul_le_mul (by omega) hk; rw [HL2.out, List.length_append]; omega
       clear HL2 HC; have hb3 := bA w8 (.cells (pairC (i, m)).toArray 40); have hown3 := own_below hown hb3; have hrd : Rd (w8.alloc (.cells (pairC (i, m)).toArray 40)) (some ⟨w8.heap.size, 0, none⟩) (pairC (i, m)) := Rd.fresh w8 40 (pairC (i, m)); have hbe3 := Below.tr hbe hb3; have hsz := hbe3.size; clear hb3 hown hbe
       go_wp2_with (first | (at_builtin; go_loud (refine wpList_append_any _ rfl (.tmp 28) (.tmp 32) _ rfl w.heap.size 40 i0 _ 2 16 Tryz.underlying34 hi0 hz0 hz1 hz2 rfl (by omega) _ L2.length _ rfl hown3 _ 1 1 (pairC (i, m)) rfl rfl hrd (by simp [pairC, Value.oneCell']) (by simp only [maxLen]; omega) (by omega) hsz ?_); intro v4 w4 hown4 hg4 hat4))
       have hbe4 : Below w.heap.size w w4 := hbe3.grown hg4 hsz (own_block_ge hown3); have hown5 : w4.ownsRow w.heap.size 40 2 v4 (L2 ++ [(i, m)]).length ((L2 ++ [(i, m)]).flatMap pairC) := by rw [List.flatMap_append, List.length_append]; simpa using hown4
       clear hown4 hown3 hg4 hat4 hbe3 hsz hrd hln; go_wp2_with fail
       go_roundg (G2 - 1)
       case measure => omega
       case rel => exact ⟨m + 1, L2 ++ [(i, m)], by go_num, by omega, by omega, hown5, HL3, hbe4⟩
      ·have hcb : cb = false := by simpa using hcb
       subst hcb
       have HL3 : Hid (L2 = clList (clA Ev Lf dg ps) k i ++ clRow (clA Ev Lf dg ps) i (m + 1)) := by
        show _ = _
        rw [clRow_no HC.out.symm]; exact HL2.out
       clear HL2 HC; go_wp2_with fail
       go_roundg (G2 - 1)
       case measure => omega
       case rel => exact ⟨m + 1, L2, by go_num, by omega, by omega, hown, HL3, hbe⟩
    ·have t2 : decide ((m : Int) < (k : Int)) = false := by simp; omega
     have HL3 : Hid (L2 = clList (clA Ev Lf dg ps) k (i + 1)) := by
      show _ = _
      rw [clList_succ, HL2.out, show m = k by omega]
     clear HL2; go_wp2_with fail
     go_roundg (G - 1)
     case measure => omega
     case rel => exact ⟨i + 1, L2, by go_num, by omega, hown, HL3, hbe⟩
  ·have t1 : decide ((i : Int) < (k : Int)) = false := by simp; omega
   have hln : L.length ≤ 281474976710656 := by
    have h1 := clList_len (clA Ev Lf dg ps) k i; have h3 : i * k ≤ 1000 * 1000 := Nat.mul_le_mul (by omega) hk; rw [HL.out]; omega
   have HL2 : Hid (L = clList (clA Ev Lf dg ps) k k) := by show _ = _; rw [HL.out, show i = k by omega]
   obtain ⟨A5, c5, e5, hrow⟩ := own_pairs hln hown; injection e5 with e1 e2 e3; subst e1 e3; clear HL hown hln; go_wp2_with fail; go_ret; exact ⟨_, _, ⟨_, rfl⟩, HL2.out ▸ hrow, hbe⟩
end Go.Proofs.YtijkfagkbfbpmaaGreatDoor
namespace Go.Proofs.YtijkfagkbfbpmaaGreatDoor
open Go Go.RowKit
theorem stN_zero {t : Int} {dm br : List Int} {p : PC} {dp : List Int} {k : Int} : stN t dm br p dp k = 0 ↔ ¬ t < p.fr ∧ ¬ p.un ≤ t ∧ dm = dp ∧ br.contains k = false := by
 unfold stN; by_cases h1 : t < p.fr
 ·rw [if_pos h1]; exact ⟨fun h => (by omega), fun h => absurd h1 h.1⟩
 rw [if_neg h1]; by_cases h2 : p.un ≤ t
 ·rw [if_pos h2]; exact ⟨fun h => (by omega), fun h => absurd h2 h.2.1⟩
 rw [if_neg h2]; by_cases h3 : dm = dp
 ·rw [if_neg (by simp [h3])]; by_cases h4 : br.contains k = true
  ·rw [if_pos h4]; exact ⟨fun h => (by omega), fun h => by rw [h4] at h; simp at h⟩
  ·rw [if_neg h4]; exact ⟨fun _ => ⟨h1, h2, h3, by simpa using h4⟩, fun _ => rfl⟩
 ·rw [if_pos (by simpa using h3)]; exact ⟨fun h => (by omega), fun h => absurd h.2.2.1 h3⟩
theorem stA_zero {t : Int} {dm br : List Int} {dg : Nat → List Int} {ps : List PC} {i : Nat} {p : PC} (hp : ps[i]? = some p) : stA t dm br dg ps i = 0 ↔ ¬ t < p.fr ∧ ¬ p.un ≤ t ∧ dm = dg i ∧ br.contains (i : Int) = false := by
 unfold stA; rw [hp]; exact stN_zero
theorem stF_zero {t : Int} {dm br : List Int} {Ev : Nat → Int} {Lf : Nat → List Nat × List Nat} {dg : Nat → List Int} {ps : List PC} {n : Nat} : stF t dm br Ev Lf dg ps n = 0 ↔ stA t dm br dg ps n = 0 ∧ ∀ i, i < ps.length → hitA t dm br Ev Lf dg ps n i = false := by
 unfold stF; by_cases h : stA t dm br dg ps n = 0
 ·rw [if_neg (by simpa using h)]; by_cases h2 : (List.range ps.length).any (hitA t dm br Ev Lf dg ps n) = true
  ·rw [if_pos h2]; refine ⟨fun h => (by omega), fun h3 => ?_⟩; obtain ⟨i, hi, hh⟩ := List.any_eq_true.1 h2; rw [h3.2 i (List.mem_range.1 hi)] at hh
   cases hh
  ·rw [if_neg h2]; refine ⟨fun _ => ⟨h, fun i hi => ?_⟩, fun _ => rfl⟩
   cases hh : hitA t dm br Ev Lf dg ps n i with
   | false => rfl
   | true => exact absurd (List.any_eq_true.2 ⟨i, List.mem_range.2 hi, hh⟩) h2
 ·rw [if_pos h]; exact ⟨fun e => absurd e h, fun e => absurd e.1 h⟩
end Go.Proofs.YtijkfagkbfbpmaaGreatDoor
