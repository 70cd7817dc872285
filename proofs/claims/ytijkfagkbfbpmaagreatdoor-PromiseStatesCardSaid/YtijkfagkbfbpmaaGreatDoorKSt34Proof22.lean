import Derived.Test.YtijkfagkbfbpmaaGreatDoorKSt34Proof21
import Derived.Test.YtijkfagkbfbpmaaGreatDoorKSt34Proof16
import Derived.Test.YtijkfagkbfbpmaaGreatDoorKSt34Proof18
import Derived.Test.YtijkfagkbfbpmaaGreatDoorKSt34Proof19
import Derived.Test.YtijkfagkbfbpmaaGreatDoorS0
set_option linter.unusedVariables false
set_option linter.unusedSimpArgs false
namespace Go.Proofs.YtijkfagkbfbpmaaGreatDoor
open Go Go.RowKit
def pairC (x : Nat × Nat) : List Value := [.int .i64 (x.1 : Nat), .int .i64 (x.2 : Nat)]
theorem pairC_len (x : Nat × Nat) : (pairC x).length = 2 := rfl
/-- the pairs (i, k) of a row, k less than m -/
def clRow (C : Nat → Nat → Bool) (i m : Nat) : List (Nat × Nat) := ((List.range m).filter fun k => decide (i < k) && C i k).map fun k => (i, k)
/-- the pairs of the first m rows -/
def clList (C : Nat → Nat → Bool) (n m : Nat) : List (Nat × Nat) := (List.range m).flatMap fun i => clRow C i n
theorem clRow_start (C : Nat → Nat → Bool) (i : Nat) : clRow C i (i + 1) = [] := by
 unfold clRow; rw [List.map_eq_nil_iff, List.filter_eq_nil_iff]; intro k hk; have := List.mem_range.1 hk; simp; omega
theorem clRow_yes {C : Nat → Nat → Bool} {i m : Nat} (h : i < m) (hc : C i m = true) : clRow C i (m + 1) = clRow C i m ++ [(i, m)] := by
 unfold clRow; rw [List.range_succ, List.filter_append, List.map_append]
 congr 1
 simp [h, hc]
theorem clRow_no {C : Nat → Nat → Bool} {i m : Nat} (hc : C i m = false) : clRow C i (m + 1) = clRow C i m := by
 unfold clRow; rw [List.range_succ, List.filter_append, List.map_append]; simp [hc]
theorem clList_succ (C : Nat → Nat → Bool) (n m : Nat) : clList C n (m + 1) = clList C n m ++ clRow C m n := by
 unfold clList; rw [List.range_succ, List.flatMap_append]; simp
theorem clRow_len (C : Nat → Nat → Bool) (i m : Nat) : (clRow C i m).length ≤ m := by
 unfold clRow; rw [List.length_map]; exact Nat.le_trans (List.length_filter_le _ _) (by rw [List.length_range]; exact Nat.le_refl _)
theorem clList_len (C : Nat → Nat → Bool) (n m : Nat) : (clList C n m).length ≤ m * n := by
 induction m with
 | zero => simp [clList]
 | succ m ih =>
  rw [clList_succ, List.length_append, Nat.succ_mul]; have := clRow_len C m n; omega
theorem info_pair : (Tryz.prog.info? 40).map (fun i => (i.zero, i.size, i.bytes)) = some (some (.agg #[.int .i64 0, .int .i64 0]), 2, 16) := by kernel_rfl
theorem own_pairs {w : World} {base : Nat} {v : Value} {n : Nat} {l : List (Nat × Nat)} (hn : n ≤ 281474976710656) (h : w.ownsRow base 40 2 v n (l.flatMap pairC)) : ∃ A c, v = .slice A n c ∧ RowS pairC w A n l := own_rowS pairC_len (by omega) hn h
def PhiCs8 (A : Option Addr) (k c b off i m : Nat) (p q : PC) (cb : Bool) (j : Nat) (w : World) (x : Value) : Prop :=
 match j with
 | 0 => x = .slice A k c
 | 1 => x = .int .i64 (i : Nat)
 | 2 => x = .pointer (some ⟨b, off + i * 24, none⟩)
 | 3 => x = .agg (cellsP p).toArray
 | 4 => x = .slice A k c
 | 5 => x = .int .i64 (m : Nat)
 | 6 => x = .pointer (some ⟨b, off + m * 24, none⟩)
 | 7 => x = .agg (cellsP q).toArray
 | 8 => x = .bool cb
 | _ => True

theorem PhiCs8.keep {A : Option Addr} {k c b off i m : Nat} {p q : PC} {cb : Bool} : ∀ (w w' : World), Below w.heap.size w w' → ∀ j x, PhiCs8 A k c b off i m p q cb j w x → PhiCs8 A k c b off i m p q cb j w' x := by
 intro w w' hb j x h; unfold PhiCs8 at h ⊢; exact h
set_option maxRecDepth 100000 in
set_option maxHeartbeats 4000000 in
theorem clashes_n (A : Option Addr) (k c : Nat) (ps : List PC) (Lf : Nat → List Nat × List Nat) (Ev : Nat → Int) (dg : Nat → List Int) (w : World) (h : PLs w A k ps Lf Ev dg) (hk : k ≤ 1000) :
  Calls Tryz.prog 13 #[.slice A k c] w fun e w' => ∃ A' k' c', e = .returned (.slice A' k' c') ∧ RowS pairC w' A' k' (clList (clA Ev Lf dg ps) k k) ∧ Below w.heap.size w w' := by
 obtain ⟨i0, hi0, hz0, hz1, hz2⟩ := info_parts info_pair; have HH := Lib.hid h; have HKL : Hid (k = ps.length) := h.row.2.1; clear h
 go_enter Tryz.func13, Tryz.ntmps13
 go_wp2_with fail
 go_loopg [3, 8] k (fun mm v x wr => ∃ (i : Nat) (L : List (Nat × Nat)), x = .int .i64 i ∧ i + mm = k ∧ wr.ownsRow w.heap.size 40 2 v L.length (L.flatMap pairC) ∧ Hid (L = clList (clA Ev Lf dg ps) k i) ∧ Below w.heap.size w wr)
 case atStart => exact ⟨0, [], rfl, by omega, World.ownsRow_nil _ _ _ _, rfl, Below.refl _ _⟩
 case round =>
  obtain ⟨G, hG⟩ : ∃ G, G = gk := ⟨gk, rfl⟩; subst hG; obtain ⟨i, L, rfl, him, hown, HL, hbe⟩ := hrel; obtain ⟨A2, c2, rfl⟩ := own_shp hown; by_cases hi : i < k
  ·have t1 : decide ((i : Int) < (k : Int)) = true := by simp; omega
   have li : (i : Int) < (k : Int) := by omega
   have s1 : IntKind.i64.wrap ((i : Int) + 1) = (i : Int) + 1 := by rw [IntWalk.i64_in _ (by omega)]
   have hil : i < ps.length := by have := HKL.out; omega
   obtain ⟨p, HP⟩ : ∃ p, Hid (ps[i] = p ∧ ps[i]? = some p) := ⟨_, rfl, List.getElem?_eq_getElem hil⟩; obtain ⟨wo, hwo⟩ : ∃ x, x = wr := ⟨_, rfl⟩; subst hwo; go_wp2_with fail
   go_loopg [3, 5] (k - (i + 1)) (fun mm v x wr => ∃ (m : Nat) (L2 : List (Nat × Nat)), x = .int .i64 m ∧ m + mm = k ∧ i < m ∧ wr.ownsRow w.heap.size 40 2 v L2.length (L2.flatMap pairC) ∧ Hid (L2 = clList (clA Ev Lf dg ps) k i ++ clRow (clA Ev Lf dg ps) i m) ∧ Below w.heap.size w wr)
   case atStart => exact ⟨i + 1, L, by go_num, by omega, by omega, hown, by show _ = _; rw [clRow_start, List.append_nil]; exact HL.out, hbe⟩
   case round =>
    obtain ⟨G2, hG2⟩ : ∃ G, G = gk := ⟨gk, rfl⟩; subst hG2; clear hown hbe; obtain ⟨m, L2, rfl, hmm, hlm, hown, HL2, hbe⟩ := hrel; obtain ⟨A3, c3, rfl⟩ := own_shp hown; by_cases hm : m < k
    ·have t2 : decide ((m : Int) < (k : Int)) = true := by simp; omega
     have lm : (m : Int) < (k : Int) := by omega
     have hml : m < ps.length := by have := HKL.out; omega
     obtain ⟨q, HQ⟩ : ∃ q, Hid (ps[m] = q ∧ ps[m]? = some q) := ⟨_, rfl, List.getElem?_eq_getElem hml⟩; have HPL := Lib.hid (HH.out.below hbe); obtain ⟨b, off, hA', HCP⟩ := HPL.out.row.at_ cellsP_len (by omega) hi hil; obtain ⟨b', off', hA2', HCQ⟩ := HPL.out.row.at_ cellsP_len (by omega) hm hml; rw [hA'] at hA2'; injection hA2' with hA2'; injection hA2' with e1 e2; subst e1 e2; subst hA'; rw [HP.out.1] at HCP; rw [HQ.out.1] at HCQ; have HEP := Lib.hid (HPL.out.esc i p HP.out.2); have HEQ := Lib.hid (HPL.out.esc m q HQ.out.2); have HDP := Lib.hid (HPL.out.dk i p HP.out.2); have HDQ := Lib.hid (HPL.out.dk m q HQ.out.2); obtain ⟨cb, HC⟩ : ∃ cb, Hid (cb = clA Ev Lf dg ps i m) := ⟨_, rfl⟩
     have HCB : Hid (∀ (E F : Int) (cb' : Bool), (PVal p (Lf i).1 (Lf i).2 E ∧ (E = 0 → PVal q (Lf m).1 (Lf m).2 F) ∧ cb' = clB E F p q (dg i) (dg m) (sameR (Lf i).1 (Lf i).2 (Lf m).1 (Lf m).2)) → cb' = cb) := by
      intro E F cb' h; have e1 := h.1.uniq (HPL.out.pv i p HP.out.2); rw [h.2.2, HC.out]; unfold clA; rw [HP.out.2, HQ.out.2]; simp only; by_cases hE : E = 0
      ·have e2 := (h.2.1 hE).uniq (HPL.out.pv m q HQ.out.2); rw [e1, e2]
      ·unfold clB; rw [← e1]; simp [hE]
     clear HPL; go_upto_region 8 with fail; obtain ⟨wp, hwp⟩ : ∃ x, x = wr := ⟨_, rfl⟩; subst hwp; refine region_invF (PhiCs8 (some ⟨b, off, none⟩) k c b off i m p q cb) (fun w w' => Below w.heap.size w w') (fun W => Below wp.heap.size wp W) (by kernel_rfl) (by kernel_rfl) (by kernel_rfl) PhiCs8.keep (fun _ _ hR hS => Below.tr hS hR) (bD _) (fun vs => by simp only [fillR, Act.put, sA, sB, sC, Nat.zero_add, Nat.reduceAdd]; rfl) ?_ ?_
     ·refine sK ?_ (sK ?_ (sK ?_ (sK ?_ (sK ?_ (sK ?_ (sK ?_ (sK ?_ (sK ?_ (sZ)))))))))
      ·as_aux_lemma =>
       intro vs W hS hdep K hK; refine ⟨?_⟩; simp only [Act.put, sA, sB, sC, Nat.zero_add, Nat.reduceAdd] at hK ⊢; go_simp; with_reducible refine hK _ _ (Below.refl _ _) ?_
       exact rfl
      ·as_aux_lemma =>
       intro vs W hS hdep K hK; refine ⟨?_⟩; simp only [Act.put, sA, sB, sC, Nat.zero_add, Nat.reduceAdd] at hK ⊢; go_simp; with_reducible refine hK _ _ (Below.refl _ _) ?_
       exact rfl
      ·as_aux_lemma =>
       intro vs W hS hdep K hK; have d0 := hdep ⟨0, .data⟩ (by simp) rfl; simp only [PhiCs8] at d0; have d1 := hdep ⟨1, .data⟩ (by simp) rfl; simp only [PhiCs8] at d1; refine ⟨?_⟩; simp only [Act.put, sA, sB, sC, Nat.zero_add, Nat.reduceAdd, d0, d1] at hK ⊢; go_simp; with_reducible refine hK _ _ (Below.refl _ _) ?_
       exact rfl
      ·as_aux_lemma =>
       intro vs W hS hdep K hK; have d0 := hdep ⟨2, .data⟩ (by simp) rfl; simp only [PhiCs8] at d0; refine ⟨?_⟩; simp only [Act.put, sA, sB, sC, Nat.zero_add, Nat.reduceAdd, d0] at hK ⊢; rw [if_pos (by rfl)]; refine wp_load_mid 33 (.tmp 21) (by rfl) b (off + i * 24) (by rfl) (cellsP p) _ (fun j v h => cell_keep hS (HCP.out j v h)) Tryz.underlying33 (by rfl) infoP ?_; simp only [Act.put, sA, sB, sC]; with_reducible refine hK _ _ (Below.refl _ _) ?_
       exact rfl
      ·as_aux_lemma =>
       intro vs W hS hdep K hK; refine ⟨?_⟩; simp only [Act.put, sA, sB, sC, Nat.zero_add, Nat.reduceAdd] at hK ⊢; go_simp; with_reducible refine hK _ _ (Below.refl _ _) ?_
       exact rfl
      ·as_aux_lemma =>
       intro vs W hS hdep K hK; refine ⟨?_⟩; simp only [Act.put, sA, sB, sC, Nat.zero_add, Nat.reduceAdd] at hK ⊢; go_simp; with_reducible refine hK _ _ (Below.refl _ _) ?_
       exact rfl
      ·as_aux_lemma =>
       intro vs W hS hdep K hK; have d0 := hdep ⟨4, .data⟩ (by simp) rfl; simp only [PhiCs8] at d0; have d1 := hdep ⟨5, .data⟩ (by simp) rfl; simp only [PhiCs8] at d1; refine ⟨?_⟩; simp only [Act.put, sA, sB, sC, Nat.zero_add, Nat.reduceAdd, d0, d1] at hK ⊢; go_simp; with_reducible refine hK _ _ (Below.refl _ _) ?_
       exact rfl
      ·as_aux_lemma =>
       intro vs W hS hdep K hK; have d0 := hdep ⟨6, .data⟩ (by simp) rfl; simp only [PhiCs8] at d0; refine ⟨?_⟩; simp only [Act.put, sA, sB, sC, Nat.zero_add, Nat.reduceAdd, d0] at hK ⊢; rw [if_pos (by rfl)]; refine wp_load_mid 33 (.tmp 25) (by rfl) b (off + m * 24) (by rfl) (cellsP q) _ (fun j v h => cell_keep hS (HCQ.out j v h)) Tryz.underlying33 (by rfl) infoP ?_; simp only [Act.put, sA, sB, sC]; with_reducible refine hK _ _ (Below.refl _ _) ?_
       exact rfl
      ·as_aux_lemma =>
       intro vs W hS hdep K hK; have d0 := hdep ⟨3, .data⟩ (by simp) rfl; simp only [PhiCs8] at d0; have d1 := hdep ⟨7, .data⟩ (by simp) rfl; simp only [PhiCs8] at d1; refine ⟨?_⟩; simp only [Act.put, sA, sB, sC, Nat.zero_add, Nat.reduceAdd, d0, d1] at hK ⊢; go_simp; refine (clash_n p q (Lf i).1 (Lf i).2 (Lf m).1 (Lf m).2 (dg i) (dg m) _ (HEP.out.1.below hS) (HEQ.out.1.below hS) HEP.out.2.1 HEP.out.2.2 HEQ.out.2.1 HEQ.out.2.2 HDP.out HDQ.out).mono ?_; rintro e w' ⟨E, F, cb', rfl, HX, hb⟩; obtain rfl : cb' = cb := HCB.out E F cb' HX.out; go_wp2_with fail; with_reducible refine hK _ _ hb ?_
       exact rfl
     ·intro vs8 w8 hS hv; have u8 := hv 8 (by simp); simp only [PhiCs8] at u8; simp only [Act.put, sA, sB, sC, Nat.zero_add, Nat.reduceAdd, u8]; have hown := own_below hown hS; have hbe := Below.tr hbe hS; clear u8 hv hS HCP HCQ HEP HEQ HDP HDQ HCB; by_cases hcb : cb = true
      ·subst hcb
       have HL3 : Hid (L2 ++ [(i, m)] = clList (clA Ev Lf dg ps) k i ++ clRow (clA Ev Lf dg ps) i (m + 1)) := by
        show _ = _
        rw [clRow_yes hlm HC.out.symm, HL2.out, List.append_assoc]
       have hln : L2.length ≤ 1001000 := by
        have h1 := clList_len (clA Ev Lf dg ps) k i; have h2 := clRow_len (clA Ev Lf dg ps) i m; have h3 : i * k ≤ 1000 * 1000 := Nat.mul_le_mul (by omega) hk; rw [HL2.out, List.length_append]; omega
       clear HL2 HC; have hb3 := bA w8 (.cells (pairC (i, m)).toArray 40); have hown3 := own_below hown hb3; have hrd : Rd (w8.alloc (.cells (pairC (i, m)).toArray 40)) (some ⟨w8.heap.size, 0, none⟩) (pairC (i, m)) := Rd.fresh w8 40 (pairC (i, m)); have hbe3 := Below.tr hbe hb3; have hsz := hbe3.size; clear hb3 hown hbe
       go_wp2_with (first | (at_builtin; go_loud (refine wpList_append_any _ rfl (.tmp 28) (.tmp 32) _ rfl w.heap.size 40 i0 _ 2 16 Tryz.underlying34 hi0 hz0 hz1 hz2 rfl (by omega) _ L2.length _ rfl hown3 _ 1 1 (pairC (i, m)) rfl rfl hrd (by simp [pairC, Value.oneCell']) (by simp only [maxLen]; omega) (by omega) hsz ?_); intro v4 w4 hown4 hg4 hat4))
       have hbe4 : Below w.heap.size w w4 := hbe3.grown hg4 hsz (own_block_ge hown3); have hown5 : w4.ownsRow w.heap.size 40 2 v4 (L2 ++ [(i, m)]).length ((L2 ++ [(i, m)]).flatMap pairC) := by rw [List.flatMap_append, List.length_append]; simpa using hown4
       clear hown4 hown3 hg4 hat4 hbe3 hsz hrd hln; go_wp2_with fail
       go_roundg (G2 - 1)
       case measure => omega
       case rel => exact ⟨m + 1, L2 ++ [(i, m)], by go_num, by omega, by omega, hown5, HL3, hbe4⟩
      ·have hcb : cb = false := by simpa using hcb
       subst hcb
       have HL3 : Hid (L2 = clList (clA Ev Lf dg ps) k i ++ clRow (clA Ev Lf dg ps) i (m + 1)) := by
        show _ = _
        rw [clRow_no HC.out.symm]; exact HL2.out
       clear HL2 HC; go_wp2_with fail
       go_roundg (G2 - 1)
       case measure => omega
       case rel => exact ⟨m + 1, L2, by go_num, by omega, by omega, hown, HL3, hbe⟩
    ·have t2 : decide ((m : Int) < (k : Int)) = false := by simp; omega
     have HL3 : Hid (L2 = clList (clA Ev Lf dg ps) k (i + 1)) := by
      show _ = _
      rw [clList_succ, HL2.out, show m = k by omega]
     clear HL2; go_wp2_with fail
     go_roundg (G - 1)
     case measure => omega
     case rel => exact ⟨i + 1, L2, by go_num, by omega, hown, HL3, hbe⟩
  ·have t1 : decide ((i : Int) < (k : Int)) = false := by simp; omega
   have hln : L.length ≤ 281474976710656 := by
    have h1 := clList_len (clA Ev Lf dg ps) k i; have h3 : i * k ≤ 1000 * 1000 := Nat.mul_le_mul (by omega) hk; rw [HL.out]; omega
   have HL2 : Hid (L = clList (clA Ev Lf dg ps) k k) := by show _ = _; rw [HL.out, show i = k by omega]
   obtain ⟨A5, c5, e5, hrow⟩ := own_pairs hln hown; injection e5 with e1 e2 e3; subst e1 e3; clear HL hown hln; go_wp2_with fail; go_ret; exact ⟨_, _, ⟨_, rfl⟩, HL2.out ▸ hrow, hbe⟩
end Go.Proofs.YtijkfagkbfbpmaaGreatDoor
namespace Go.Proofs.YtijkfagkbfbpmaaGreatDoor
open Go Go.RowKit
theorem sameR_comm (a b c d : List Nat) : sameR a b c d = sameR c d a b := by
 unfold sameR sameB
 congr 1 <;> exact decide_eq_decide.2 ⟨Eq.symm, Eq.symm⟩
theorem clB_comm {E F : Int} {p q : PC} {dp dq : List Int} {s : Bool} : clB E F p q dp dq s = clB F E q p dq dp s := by
 unfold clB; refine decide_eq_decide.2 ⟨?_, ?_⟩
 ·rintro ⟨h1, h2, h3, h4, h5, h6, h7, h8⟩; exact ⟨h2, h1, h3.symm, h4.symm, h5.symm, h6.symm, h7, by omega⟩
 ·rintro ⟨h1, h2, h3, h4, h5, h6, h7, h8⟩; exact ⟨h2, h1, h3.symm, h4.symm, h5.symm, h6.symm, h7, by omega⟩
theorem clA_comm (Ev : Nat → Int) (Lf : Nat → List Nat × List Nat) (dg : Nat → List Int) (ps : List PC) (n i : Nat) : clA Ev Lf dg ps n i = clA Ev Lf dg ps i n := by
 unfold clA
 cases h1 : ps[n]? <;> cases h2 : ps[i]? <;> simp only
 rw [sameR_comm (Lf n).1, clB_comm]
end Go.Proofs.YtijkfagkbfbpmaaGreatDoor
namespace Go.Proofs.YtijkfagkbfbpmaaGreatDoor
open Go Go.RowKit
theorem pdg_cells {p : PC} {j : Nat} {v : Value} (h : (pdg p)[j]? = some v) : (cellsP p)[8 + j]? = some v := by
 have h1 := (List.getElem?_eq_some_iff.1 h).1
 rcases j with _ | _ | _ | _ | _ | _ | _ | _ | _ | _ | _ | _ | _ | _ | _ | _ | j <;> first | exact h | (exfalso; simp only [pdg, List.length_cons, List.length_nil] at h1; omega)
def PhiRa (Al : Option Addr) (kl cl b off n : Nat) (m : MM) (p : PC) (bb : Bool) (j : Nat) (w : World) (x : Value) : Prop :=
 match j with
 | 0 => x = .agg (mdg m).toArray
 | 1 => x = .slice Al kl cl
 | 2 => x = .int .i64 (n : Nat)
 | 3 => x = .pointer (some ⟨b, off + n * 24, none⟩)
 | 4 => x = .pointer (some ⟨b, off + n * 24 + 8, none⟩)
 | 5 => x = .agg (pdg p).toArray
 | 6 => x = .bool bb
 | _ => True
theorem PhiRa.keep {Al : Option Addr} {kl cl b off n : Nat} {m : MM} {p : PC} {bb : Bool} : ∀ (w w' : World), Below w.heap.size w w' → ∀ j x, PhiRa Al kl cl b off n m p bb j w x → PhiRa Al kl cl b off n m p bb j w' x := by
 intro w w' hb j x h; unfold PhiRa at h ⊢; exact h
set_option maxRecDepth 100000 in
set_option maxHeartbeats 4000000 in
theorem ralone_n (Al : Option Addr) (kl cl n : Nat) (m : MM) (ps : List PC) (p : PC) (dm dp br : List Int) (w : World) (hn : n < kl) (hp : RowS cellsP w Al kl ps) (HP : Hid (ps[n]? = some p)) (hdm : DgOk (mdg m) dm) (hdp : DgOk (pdg p) dp) (hbr : RowS intC w m.A m.k br) :
  Calls Tryz.prog 65 #[.slice Al kl cl, .int .i64 (n : Nat), .int .i64 m.tick, .agg (mdg m).toArray, .slice m.A m.k m.c] w fun e w' => e = .returned (.int .i64 (stN m.tick dm br p dp (n : Int))) ∧ Below w.heap.size w w' := by
 have hnl : n < ps.length := by have := hp.2.1; omega
 have hkl2 := hp.2.2; have ln : (n : Int) < (kl : Int) := by omega
 have HP2 : Hid (ps[n] = p) := by
  have h := HP.out; rw [List.getElem?_eq_getElem hnl] at h; injection h
 obtain ⟨W, HW⟩ : ∃ W, Hid (W = w.alloc (.cells (mdg m).toArray 31)) := ⟨_, rfl⟩; have hbw : Below w.heap.size w W := by rw [HW.out]; exact bA _ _
 have HBD : Hid (Blk W w.heap.size 31 (mdg m).toArray) := by
  show Blk _ _ _ _
  rw [HW.out]; exact Blk.new _ _ _
 have hbr1 := hbr.below hbw; obtain ⟨b, off, rfl, HC⟩ := (hp.below hbw).at_ cellsP_len (by omega) hn hnl; rw [HP2.out] at HC; have c5 := HC.out 6 _ rfl; have c6 := HC.out 7 _ rfl
 have HCD : Hid (∀ j v, (pdg p)[j]? = some v → W.cell? ⟨b, off + n * 24 + 8 + j, none⟩ = some v) := fun j v h => by
  rw [Nat.add_assoc]; exact HC.out _ v (pdg_cells h)
 obtain ⟨bb, HBB⟩ : ∃ bb, Hid (bb = !(dm == dp)) := ⟨_, rfl⟩
 have hneq : ∀ w, (binOp .neq 31 (.agg (mdg m).toArray) (.agg (pdg p).toArray)).run Tryz.prog w = .ok (.bool bb) w := fun w => by
  rw [hdm.1, hdp.1, dig_neq w dm dp hdm.2 hdp.2, HBB.out]
 have HDM := Lib.hid hdm; have HDP := Lib.hid hdp; clear hdm hdp HC; obtain ⟨g, HG⟩ : ∃ g, Hid (g = w.heap.size) := ⟨_, rfl⟩
 go_enter Tryz.func65, Tryz.ntmps65
 go_upto_region 1 with fail; rw [← HW.out]; rw [← HG.out]; rw [← HG.out] at HBD; by_cases h1 : m.tick < p.fr
 ·have hd : decide (m.tick < p.fr) = true := by simpa using h1
  have HS : Hid ((1 : Int) = stN m.tick dm br p dp (n : Int)) := by
   show _ = _
   unfold stN; rw [if_pos h1]
  clear h1; go_wp2_with fail; go_ret; exact ⟨by rw [← HS.out]; rfl, hbw⟩
 ·have hd : decide (m.tick < p.fr) = false := by simpa using h1
  have H1 := Lib.hid h1; clear h1; by_cases h2 : p.un ≤ m.tick
  ·have hd2 : decide (m.tick ≥ p.un) = true := by simpa using h2
   have HS : Hid ((2 : Int) = stN m.tick dm br p dp (n : Int)) := by
    show _ = _
    unfold stN; rw [if_neg H1.out, if_pos h2]
   clear h2; go_wp2_with fail; go_ret; exact ⟨by rw [← HS.out]; rfl, hbw⟩
  ·have hd2 : decide (m.tick ≥ p.un) = false := by simpa using h2
   have H2 := Lib.hid h2; clear h2; go_upto_region 5 with fail; refine region_invF (PhiRa (some ⟨b, off, none⟩) kl cl b off n m p bb) (fun w w' => Below w.heap.size w w') (fun Y => Below W.heap.size W Y) (by kernel_rfl) (by kernel_rfl) (by kernel_rfl) PhiRa.keep (fun _ _ hR hS => Below.tr hS hR) (bD _) (fun vs => by simp only [fillR, Act.put, sA, sB, sC, Nat.zero_add, Nat.reduceAdd]; rfl) ?_ ?_
   ·refine sK ?_ (sK ?_ (sK ?_ (sK ?_ (sK ?_ (sK ?_ (sK ?_ (sZ)))))))
    ·as_aux_lemma =>
     intro vs W hS hdep K hK; refine ⟨?_⟩; simp only [Act.put, sA, sB, sC, Nat.zero_add, Nat.reduceAdd] at hK ⊢; rw [if_pos (by rfl)]; refine wp_load_mid 31 (.tmp 8) (by rfl) g (0) (by rfl) (mdg m) _ (blk_range (Blk.below HBD.out hS HBD.out.lt)) Tryz.underlying31 (by rfl) infoMd ?_; simp only [Act.put, sA, sB, sC]; with_reducible refine hK _ _ (Below.refl _ _) ?_
     exact rfl
    ·as_aux_lemma =>
     intro vs W hS hdep K hK; refine ⟨?_⟩; simp only [Act.put, sA, sB, sC, Nat.zero_add, Nat.reduceAdd] at hK ⊢; go_simp; with_reducible refine hK _ _ (Below.refl _ _) ?_
     exact rfl
    ·as_aux_lemma =>
     intro vs W hS hdep K hK; refine ⟨?_⟩; simp only [Act.put, sA, sB, sC, Nat.zero_add, Nat.reduceAdd] at hK ⊢; go_simp; with_reducible refine hK _ _ (Below.refl _ _) ?_
     exact rfl
    ·as_aux_lemma =>
     intro vs W hS hdep K hK; have d0 := hdep ⟨1, .data⟩ (by simp) rfl; simp only [PhiRa] at d0; have d1 := hdep ⟨2, .data⟩ (by simp) rfl; simp only [PhiRa] at d1; refine ⟨?_⟩; simp only [Act.put, sA, sB, sC, Nat.zero_add, Nat.reduceAdd, d0, d1] at hK ⊢; go_simp; with_reducible refine hK _ _ (Below.refl _ _) ?_
     exact rfl
    ·as_aux_lemma =>
     intro vs W hS hdep K hK; have d0 := hdep ⟨3, .data⟩ (by simp) rfl; simp only [PhiRa] at d0; refine ⟨?_⟩; simp only [Act.put, sA, sB, sC, Nat.zero_add, Nat.reduceAdd, d0] at hK ⊢; go_simp; with_reducible refine hK _ _ (Below.refl _ _) ?_
     exact rfl
    ·as_aux_lemma =>
     intro vs W hS hdep K hK; have d0 := hdep ⟨4, .data⟩ (by simp) rfl; simp only [PhiRa] at d0; refine ⟨?_⟩; simp only [Act.put, sA, sB, sC, Nat.zero_add, Nat.reduceAdd, d0] at hK ⊢; rw [if_pos (by rfl)]; refine wp_load_mid 31 (.tmp 29) (by rfl) b (off + n * 24 + 8) (by rfl) (pdg p) _ (fun j v h => cell_keep hS (HCD.out j v h)) Tryz.underlying31 (by rfl) infoPd ?_; simp only [Act.put, sA, sB, sC]; with_reducible refine hK _ _ (Below.refl _ _) ?_
     exact rfl
    ·as_aux_lemma =>
     intro vs W hS hdep K hK; have d0 := hdep ⟨0, .data⟩ (by simp) rfl; simp only [PhiRa] at d0; have d1 := hdep ⟨5, .data⟩ (by simp) rfl; simp only [PhiRa] at d1; refine ⟨?_⟩; simp only [Act.put, sA, sB, sC, Nat.zero_add, Nat.reduceAdd, d0, d1] at hK ⊢; go_simp; with_reducible refine hK _ _ (Below.refl _ _) ?_
     exact rfl
   ·intro vs5 w5 hS hv; have u6 := hv 6 (by simp); simp only [PhiRa] at u6; simp only [Act.put, sA, sB, sC, Nat.zero_add, Nat.reduceAdd, u6]; clear u6 hv; have hbz := Below.tr hbw hS; by_cases h3 : (!(dm == dp)) = true
    ·obtain rfl : bb = true := by rw [HBB.out]; exact h3
     have HS : Hid ((3 : Int) = stN m.tick dm br p dp (n : Int)) := by
      show _ = _
      unfold stN; rw [if_neg H1.out, if_neg H2.out, if_pos h3]
     clear h3; go_wp2_with fail; go_ret; exact ⟨by rw [← HS.out]; rfl, hbz⟩
    ·obtain rfl : bb = false := by rw [HBB.out]; simpa using h3
     have H3 := Lib.hid h3; clear h3; go_wp2_with fail; refine (in34_n m.A m.k m.c br (n : Int) _ (hbr1.below hS)).mono ?_; rintro e w6 ⟨he, hb6⟩; obtain ⟨b4, HB4⟩ : ∃ b4, Hid (b4 = br.contains (n : Int)) := ⟨_, rfl⟩; rw [← HB4.out] at he; subst he; by_cases h4 : br.contains (n : Int) = true
     ·obtain rfl : b4 = true := by rw [HB4.out]; exact h4
      have HS : Hid ((4 : Int) = stN m.tick dm br p dp (n : Int)) := by
       show _ = _
       unfold stN; rw [if_neg (by have := H1.out; omega), if_neg (by have := H2.out; omega), if_neg (by simpa using H3.out), if_pos h4]
      clear h4; go_wp2_with fail; go_ret; exact ⟨by rw [← HS.out]; rfl, Below.tr hbz hb6⟩
     ·obtain rfl : b4 = false := by rw [HB4.out]; simpa using h4
      have HS : Hid ((0 : Int) = stN m.tick dm br p dp (n : Int)) := by
       show _ = _
       unfold stN; rw [if_neg (by have := H1.out; omega), if_neg (by have := H2.out; omega), if_neg (by simpa using H3.out), if_neg h4]
      clear h4; go_wp2_with fail; go_ret; exact ⟨by rw [← HS.out]; rfl, Below.tr hbz hb6⟩
end Go.Proofs.YtijkfagkbfbpmaaGreatDoor
namespace Go.Proofs.YtijkfagkbfbpmaaGreatDoor
open Go Go.RowKit
def PhiRsA (Al : Option Addr) (kl cl b off n i g : Nat) (m : MM) (p q : PC) (s : Int) (j : Nat) (w : World) (x : Value) : Prop :=
 match j with
 | 0 => x = .int .i64 (i : Nat)
 | 1 => x = .int .i64 (n : Nat)
 | 2 => x = .bool false
 | 3 => x = .bool false
 | 4 => x = undef
 | 5 => x = undef
 | 6 => x = undef
 | 7 => x = undef
 | 8 => x = undef
 | 9 => x = undef
 | 10 => x = undef
 | 11 => x = undef
 | 12 => x = undef
 | 13 => x = .bool false
 | 14 => x = .bool false
 | 15 => x = undef
 | 16 => x = undef
 | 17 => x = undef
 | 18 => x = undef
 | 19 => x = undef
 | 20 => x = undef
 | 21 => x = undef
 | 22 => x = .bool false
 | _ => True
theorem PhiRsA.keep {Al : Option Addr} {kl cl b off n i g : Nat} {m : MM} {p q : PC} {s : Int} : ∀ (w w' : World), Below w.heap.size w w' → ∀ j x, PhiRsA Al kl cl b off n i g m p q s j w x → PhiRsA Al kl cl b off n i g m p q s j w' x := by
 intro w w' hb j x h; unfold PhiRsA at h ⊢; exact h
def PhiRsB (Al : Option Addr) (kl cl b off n i g : Nat) (m : MM) (p q : PC) (s : Int) (j : Nat) (w : World) (x : Value) : Prop :=
 match j with
 | 0 => x = .int .i64 (i : Nat)
 | 1 => x = .int .i64 (n : Nat)
 | 2 => x = .bool true
 | 3 => x = .bool true
 | 4 => x = .slice Al kl cl
 | 5 => x = .int .i64 (i : Nat)
 | 6 => x = .pointer (some ⟨b, off + i * 24, none⟩)
 | 7 => x = .agg (cellsP q).toArray
 | 8 => x = .slice Al kl cl
 | 9 => x = .int .i64 (n : Nat)
 | 10 => x = .pointer (some ⟨b, off + n * 24, none⟩)
 | 11 => x = .agg (cellsP p).toArray
 | 12 => x = .bool false
 | 13 => x = .bool false
 | 14 => x = .bool false
 | 15 => x = undef
 | 16 => x = undef
 | 17 => x = undef
 | 18 => x = undef
 | 19 => x = undef
 | 20 => x = undef
 | 21 => x = undef
 | 22 => x = .bool false
 | _ => True
theorem PhiRsB.keep {Al : Option Addr} {kl cl b off n i g : Nat} {m : MM} {p q : PC} {s : Int} : ∀ (w w' : World), Below w.heap.size w w' → ∀ j x, PhiRsB Al kl cl b off n i g m p q s j w x → PhiRsB Al kl cl b off n i g m p q s j w' x := by
 intro w w' hb j x h; unfold PhiRsB at h ⊢; exact h
def PhiRsC (Al : Option Addr) (kl cl b off n i g : Nat) (m : MM) (p q : PC) (s : Int) (j : Nat) (w : World) (x : Value) : Prop :=
 match j with
 | 0 => x = .int .i64 (i : Nat)
 | 1 => x = .int .i64 (n : Nat)
 | 2 => x = .bool true
 | 3 => x = .bool true
 | 4 => x = .slice Al kl cl
 | 5 => x = .int .i64 (i : Nat)
 | 6 => x = .pointer (some ⟨b, off + i * 24, none⟩)
 | 7 => x = .agg (cellsP q).toArray
 | 8 => x = .slice Al kl cl
 | 9 => x = .int .i64 (n : Nat)
 | 10 => x = .pointer (some ⟨b, off + n * 24, none⟩)
 | 11 => x = .agg (cellsP p).toArray
 | 12 => x = .bool true
 | 13 => x = .bool true
 | 14 => x = .bool true
 | 15 => x = .slice Al kl cl
 | 16 => x = .int .i64 (i : Nat)
 | 17 => x = .int .i64 m.tick
 | 18 => x = .agg (mdg m).toArray
 | 19 => x = .slice m.A m.k m.c
 | 20 => x = .int .i64 s
 | 21 => x = .bool (s == 0)
 | 22 => x = .bool (s == 0)
 | _ => True
theorem PhiRsC.keep {Al : Option Addr} {kl cl b off n i g : Nat} {m : MM} {p q : PC} {s : Int} : ∀ (w w' : World), Below w.heap.size w w' → ∀ j x, PhiRsC Al kl cl b off n i g m p q s j w x → PhiRsC Al kl cl b off n i g m p q s j w' x := by
 intro w w' hb j x h; unfold PhiRsC at h ⊢; exact h
set_option maxRecDepth 100000 in
set_option maxHeartbeats 8000000 in
theorem rstate_n (Al : Option Addr) (kl cl : Nat) (k : Int) (m : MM) (ps : List PC) (Lf : Nat → List Nat × List Nat) (Ev : Nat → Int) (dg : Nat → List Int) (dm br : List Int) (w : World) (hp : RowS cellsP w Al kl ps)
  (HE : Hid (EscOk w ps Lf)) (HV : Hid (∀ (n : Nat) p, ps[n]? = some p → PVal p (Lf n).1 (Lf n).2 (Ev n))) (HD : Hid (∀ (n : Nat) p, ps[n]? = some p → DgOk (pdg p) (dg n))) (hdm : DgOk (mdg m) dm) (hbr : RowS intC w m.A m.k br) :
  Calls Tryz.prog 30 #[.slice Al kl cl, .int .i64 k, .int .i64 m.tick, .agg (mdg m).toArray, .slice m.A m.k m.c] w fun e w' => ∃ s er : Int, e = .returned (.tuple #[.int .i64 s, .int .i64 er]) ∧ Hid (StP kl m.tick dm br Ev Lf dg ps k s er) ∧ Below w.heap.size w w' := by
 have hkl := hp.2.1; have hkl2 := hp.2.2; by_cases hbad : k < 0 ∨ (kl : Int) ≤ k
 ·have HS : Hid (StP kl m.tick dm br Ev Lf dg ps k 0 5) := .inl ⟨hbad, rfl, rfl⟩
  rcases hbad with h | h
  ·have d1 : decide (k < 0) = true := by simpa using h
   go_enter Tryz.func30, Tryz.ntmps30
   go_wp2_with fail
   go_ret2
   exact ⟨0, 5, rfl, HS, bA _ _⟩
  ·have d1 : decide (k < 0) = false := by simp; omega
   have d2 : decide (k ≥ (kl : Int)) = true := by simpa using h
   go_enter Tryz.func30, Tryz.ntmps30
   go_wp2_with fail
   go_ret2
   exact ⟨0, 5, rfl, HS, bA _ _⟩
 ·obtain ⟨n, rfl⟩ := Int.eq_ofNat_of_zero_le (show 0 ≤ k by omega); have hn : n < kl := by omega
  have hnl : n < ps.length := by omega
  have d1 : decide ((n : Int) < 0) = false := by simp
  have d2 : decide ((n : Int) ≥ (kl : Int)) = false := by simp; omega
  have ln : (n : Int) < (kl : Int) := by omega
  have HKL := Lib.hid hkl; clear hbad hkl; obtain ⟨p, HP⟩ : ∃ p, Hid (ps[n] = p ∧ ps[n]? = some p) := ⟨_, rfl, List.getElem?_eq_getElem hnl⟩; have HEn := Lib.hid (HE.out n p HP.out.2); have hdpn := HD.out n p HP.out.2; have HVn := Lib.hid (HV.out n p HP.out.2); obtain ⟨W, HW⟩ : ∃ W, Hid (W = w.alloc (.cells (mdg m).toArray 31)) := ⟨_, rfl⟩; have hbW : Below w.heap.size w W := by rw [HW.out]; exact bA _ _
  have HBD : Hid (Blk W w.heap.size 31 (mdg m).toArray) := by
   show Blk _ _ _ _
   rw [HW.out]; exact Blk.new _ _ _
  obtain ⟨b, off, rfl, HC0⟩ := (hp.below hbW).at_ cellsP_len (by omega) hn hnl; rw [HP.out.1] at HC0; obtain ⟨g, HG⟩ : ∃ g, Hid (g = w.heap.size) := ⟨_, rfl⟩
  go_enter Tryz.func30, Tryz.ntmps30
  go_upto_region 1 with fail; rw [← HW.out]; rw [← HG.out]; rw [← HG.out] at HBD
  go_wp2_with (first | (refine wpList_load_mid rfl 33 (.tmp 25) rfl b (off + n * 24) rfl (cellsP p) _ (fun j v h => HC0.out j v h) Tryz.underlying33 rfl infoP ?_; simp only [Act.put, sA, sB, sC]))
  refine (rpval_n p (Lf n).1 (Lf n).2 _ (HEn.out.1.below hbW) HEn.out.2.1 HEn.out.2.2).mono ?_; rintro e w2 ⟨E, rfl, HX, hb2⟩; have hEE : E = Ev n := HX.out.uniq HVn.out; have HEE := Lib.hid hEE; clear hEE HX; have hbw2 := Below.tr hbW hb2; by_cases hE : E = 0
  ·have h0 : (E != 0) = false := by simpa using hE
   have HE0 : Hid (Ev n = 0) := by show _ = _; rw [← HEE.out]; exact hE
   have HBD2 := Lib.hid (Blk.below HBD.out hb2 HBD.out.lt); clear hE HEE
   go_wp2_with (first | (refine wpList_load_mid rfl 31 (.tmp 8) rfl g 0 rfl (mdg m) _ (blk_range HBD2.out) Tryz.underlying31 rfl infoMd ?_; simp only [Act.put, sA, sB, sC]))
   refine (ralone_n _ kl cl n m ps p dm (dg n) br _ hn (hp.below hbw2) HP.out.2 hdm hdpn (hbr.below hbw2)).mono ?_; rintro e w7 ⟨he, hb7⟩; obtain ⟨s0, HSN⟩ : ∃ s, Hid (s = stN m.tick dm br p (dg n) (n : Int)) := ⟨_, rfl⟩; rw [← HSN.out] at he; subst he; have HSA : Hid (stA m.tick dm br dg ps n = s0) := by show _ = _; unfold stA; rw [HP.out.2, HSN.out]
   have hbz := Below.tr hbw2 hb7; have HBD7 := Lib.hid (Blk.below HBD2.out hb7 HBD2.out.lt); clear HBD HBD2 hb7 hb2 hbW HC0; go_wp2_with fail
   go_loopg [13, 14] kl (fun mm u x wr => ∃ (i : Nat) (s : Int), x = .int .i64 i ∧ u = .int .i64 s ∧ i + mm = kl ∧ Hid ((s = 0 ∧ stA m.tick dm br dg ps n = 0 ∧ ∀ j, j < i → hitA m.tick dm br Ev Lf dg ps n j = false) ∨ (s ≠ 0 ∧ s = stF m.tick dm br Ev Lf dg ps n)) ∧ Below w7.heap.size w7 wr)
   case atStart =>
    refine ⟨0, s0, rfl, rfl, by omega, ?_, Below.refl _ _⟩; by_cases hs : s0 = 0
    ·exact .inl ⟨hs, HSA.out.trans hs, fun j h => absurd h (Nat.not_lt_zero _)⟩
    ·exact .inr ⟨hs, by unfold stF; rw [if_pos (by rw [HSA.out]; exact hs), HSA.out]⟩
   case round =>
    obtain ⟨i, s, rfl, rfl, him, HN, hbe⟩ := hrel; obtain ⟨G, hG⟩ : ∃ G, G = gk := ⟨gk, rfl⟩; subst hG; by_cases hs : s = 0
    ·subst hs
     have HM : Hid (stA m.tick dm br dg ps n = 0 ∧ ∀ j, j < i → hitA m.tick dm br Ev Lf dg ps n j = false) := by
      rcases HN.out with h | h
      ·exact h.2
      ·exact absurd rfl h.1
     clear HN; by_cases hi : i < kl
     ·have t1 : decide ((i : Int) < (kl : Int)) = true := by simp; omega
      have li : (i : Int) < (kl : Int) := by omega
      have hil : i < ps.length := by have := HKL.out; omega
      obtain ⟨q, HQ2⟩ : ∃ q, Hid (ps[i] = q ∧ ps[i]? = some q) := ⟨_, rfl, List.getElem?_eq_getElem hil⟩; have HQ : Hid (ps[i]? = some q) := HQ2.out.2; have HEi := Lib.hid (HE.out i q HQ.out); have hdpi := HD.out i q HQ.out; have HVi := Lib.hid (HV.out i q HQ.out); have hbz13 := Below.tr hbz hbe; have hpz := hp.below hbz13; obtain ⟨b', off', hA', HCq⟩ := hpz.at_ cellsP_len (by omega) hi hil; injection hA' with hA'; injection hA' with hA1 hA2; subst hA1 hA2; rw [HQ2.out.1] at HCq; obtain ⟨b', off', hA', HCp⟩ := hpz.at_ cellsP_len (by omega) hn hnl; injection hA' with hA'; injection hA' with hA1 hA2; subst hA1 hA2; rw [HP.out.1] at HCp; have HBDz := Lib.hid (Blk.below HBD7.out hbe HBD7.out.lt); have HEn : Hid (RtL wr (.agg #[p.b1, p.b2]) (Lf n).1 (Lf n).2 ∧ p.test.size ≤ 9223372036854775807 ∧ p.wh.size ≤ 9223372036854775807) := ⟨HEn.out.1.below hbz13, HEn.out.2⟩; have HEi : Hid (RtL wr (.agg #[q.b1, q.b2]) (Lf i).1 (Lf i).2 ∧ q.test.size ≤ 9223372036854775807 ∧ q.wh.size ≤ 9223372036854775807) := ⟨HEi.out.1.below hbz13, HEi.out.2⟩; have hbrz := hbr.below hbz13; obtain ⟨s, HSI⟩ : ∃ s, Hid (s = stN m.tick dm br q (dg i) (i : Int)) := ⟨_, rfl⟩; have HSA2 : Hid (stA m.tick dm br dg ps i = s) := by show _ = _; unfold stA; rw [HQ.out, HSI.out]
      go_upto_region 10 with fail; by_cases hni : i = n
      ·have hne : ((i : Int) != (n : Int)) = false := by rw [hni]; simp
       have HN2 : Hid (∀ j, j < i + 1 → hitA m.tick dm br Ev Lf dg ps n j = false) := fun j hj => by
        rcases Nat.lt_or_ge j i with h | h
        ·exact HM.out.2 j h
        ·rw [show j = i by omega, hni]; unfold hitA; simp
       clear hni; refine region_invF (PhiRsA (some ⟨b, off, none⟩) kl cl b off n i g m p q s) (fun w w' => Below w.heap.size w w') (fun Y => Below wr.heap.size wr Y) (by kernel_rfl) (by kernel_rfl) (by kernel_rfl) PhiRsA.keep (fun _ _ hR hS => Below.tr hS hR) (bD _) (fun vs => by simp only [fillR, Act.put, sA, sB, sC, Nat.zero_add, Nat.reduceAdd]; rfl) ?_ ?_
       ·refine sK ?_ (sK ?_ (sK ?_ (sK ?_ (sK ?_ (sK ?_ (sK ?_ (sK ?_ (sK ?_ (sK ?_ (sK ?_ (sK ?_ (sK ?_ (sK ?_ (sK ?_ (sK ?_ (sK ?_ (sK ?_ (sK ?_ (sK ?_ (sK ?_ (sK ?_ (sK ?_ (sZ)))))))))))))))))))))))
        ·as_aux_lemma =>
         intro vs W hS hdep K hK; refine ⟨?_⟩; simp only [Act.put, sA, sB, sC, Nat.zero_add, Nat.reduceAdd] at hK ⊢; go_simp; with_reducible refine hK _ _ (Below.refl _ _) ?_
         exact rfl
        ·as_aux_lemma =>
         intro vs W hS hdep K hK; refine ⟨?_⟩; simp only [Act.put, sA, sB, sC, Nat.zero_add, Nat.reduceAdd] at hK ⊢; go_simp; with_reducible refine hK _ _ (Below.refl _ _) ?_
         exact rfl
        ·as_aux_lemma =>
         intro vs W hS hdep K hK; have d0 := hdep ⟨0, .data⟩ (by simp) rfl; simp only [PhiRsA] at d0; have d1 := hdep ⟨1, .data⟩ (by simp) rfl; simp only [PhiRsA] at d1; refine ⟨?_⟩; simp only [Act.put, sA, sB, sC, Nat.zero_add, Nat.reduceAdd, d0, d1] at hK ⊢; go_simp; with_reducible refine hK _ _ (Below.refl _ _) ?_
         exact rfl
        ·as_aux_lemma =>
         intro vs W hS hdep K hK; have d0 := hdep ⟨2, .data⟩ (by simp) rfl; simp only [PhiRsA] at d0; refine ⟨?_⟩; simp only [Act.put, sA, sB, sC, Nat.zero_add, Nat.reduceAdd, d0] at hK ⊢; go_simp; with_reducible refine hK _ _ (Below.refl _ _) ?_
         exact rfl
        ·as_aux_lemma =>
         intro vs W hS hdep K hK; have d0 := hdep ⟨3, .guard⟩ (by simp) rfl; simp only [PhiRsA] at d0; refine ⟨?_⟩; simp only [Act.put, sA, sB, sC, Nat.zero_add, Nat.reduceAdd, d0] at hK ⊢; go_simp
         try rw [if_neg (by simp [undef])]
         with_reducible refine hK _ _ (Below.refl _ _) ?_
         exact rfl
        ·as_aux_lemma =>
         intro vs W hS hdep K hK; have d0 := hdep ⟨3, .guard⟩ (by simp) rfl; simp only [PhiRsA] at d0; refine ⟨?_⟩; simp only [Act.put, sA, sB, sC, Nat.zero_add, Nat.reduceAdd, d0] at hK ⊢; go_simp
         try rw [if_neg (by simp [undef])]
         with_reducible refine hK _ _ (Below.refl _ _) ?_
         exact rfl
        ·as_aux_lemma =>
         intro vs W hS hdep K hK; have d0 := hdep ⟨3, .guard⟩ (by simp) rfl; simp only [PhiRsA] at d0; refine ⟨?_⟩; simp only [Act.put, sA, sB, sC, Nat.zero_add, Nat.reduceAdd, d0] at hK ⊢; go_simp
         try rw [if_neg (by simp [undef])]
         with_reducible refine hK _ _ (Below.refl _ _) ?_
         exact rfl
        ·as_aux_lemma =>
         intro vs W hS hdep K hK; have d0 := hdep ⟨3, .guard⟩ (by simp) rfl; simp only [PhiRsA] at d0; refine ⟨?_⟩; simp only [Act.put, sA, sB, sC, Nat.zero_add, Nat.reduceAdd, d0] at hK ⊢; go_simp
         try rw [if_neg (by simp [undef])]
         with_reducible refine hK _ _ (Below.refl _ _) ?_
         exact rfl
        ·as_aux_lemma =>
         intro vs W hS hdep K hK; have d0 := hdep ⟨3, .guard⟩ (by simp) rfl; simp only [PhiRsA] at d0; refine ⟨?_⟩; simp only [Act.put, sA, sB, sC, Nat.zero_add, Nat.reduceAdd, d0] at hK ⊢; go_simp
         try rw [if_neg (by simp [undef])]
         with_reducible refine hK _ _ (Below.refl _ _) ?_
         exact rfl
        ·as_aux_lemma =>
         intro vs W hS hdep K hK; have d0 := hdep ⟨3, .guard⟩ (by simp) rfl; simp only [PhiRsA] at d0; refine ⟨?_⟩; simp only [Act.put, sA, sB, sC, Nat.zero_add, Nat.reduceAdd, d0] at hK ⊢; go_simp
         try rw [if_neg (by simp [undef])]
         with_reducible refine hK _ _ (Below.refl _ _) ?_
         exact rfl
        ·as_aux_lemma =>
         intro vs W hS hdep K hK; have d0 := hdep ⟨3, .guard⟩ (by simp) rfl; simp only [PhiRsA] at d0; refine ⟨?_⟩; simp only [Act.put, sA, sB, sC, Nat.zero_add, Nat.reduceAdd, d0] at hK ⊢; go_simp
         try rw [if_neg (by simp [undef])]
         with_reducible refine hK _ _ (Below.refl _ _) ?_
         exact rfl
        ·as_aux_lemma =>
         intro vs W hS hdep K hK; have d0 := hdep ⟨3, .guard⟩ (by simp) rfl; simp only [PhiRsA] at d0; refine ⟨?_⟩; simp only [Act.put, sA, sB, sC, Nat.zero_add, Nat.reduceAdd, d0] at hK ⊢; go_simp
         try rw [if_neg (by simp [undef])]
         with_reducible refine hK _ _ (Below.refl _ _) ?_
         exact rfl
        ·as_aux_lemma =>
         intro vs W hS hdep K hK; have d0 := hdep ⟨3, .guard⟩ (by simp) rfl; simp only [PhiRsA] at d0; refine ⟨?_⟩; simp only [Act.put, sA, sB, sC, Nat.zero_add, Nat.reduceAdd, d0] at hK ⊢; go_simp
         try rw [if_neg (by simp [undef])]
         with_reducible refine hK _ _ (Below.refl _ _) ?_
         exact rfl
        ·as_aux_lemma =>
         intro vs W hS hdep K hK; have d0 := hdep ⟨3, .data⟩ (by simp) rfl; simp only [PhiRsA] at d0; refine ⟨?_⟩; simp only [Act.put, sA, sB, sC, Nat.zero_add, Nat.reduceAdd, d0] at hK ⊢; go_simp; with_reducible refine hK _ _ (Below.refl _ _) ?_
         exact rfl
        ·as_aux_lemma =>
         intro vs W hS hdep K hK; have d0 := hdep ⟨13, .data⟩ (by simp) rfl; simp only [PhiRsA] at d0; refine ⟨?_⟩; simp only [Act.put, sA, sB, sC, Nat.zero_add, Nat.reduceAdd, d0] at hK ⊢; go_simp; with_reducible refine hK _ _ (Below.refl _ _) ?_
         exact rfl
        ·as_aux_lemma =>
         intro vs W hS hdep K hK; have d0 := hdep ⟨14, .guard⟩ (by simp) rfl; simp only [PhiRsA] at d0; refine ⟨?_⟩; simp only [Act.put, sA, sB, sC, Nat.zero_add, Nat.reduceAdd, d0] at hK ⊢; go_simp
         try rw [if_neg (by simp [undef])]
         with_reducible refine hK _ _ (Below.refl _ _) ?_
         exact rfl
        ·as_aux_lemma =>
         intro vs W hS hdep K hK; have d0 := hdep ⟨14, .guard⟩ (by simp) rfl; simp only [PhiRsA] at d0; refine ⟨?_⟩; simp only [Act.put, sA, sB, sC, Nat.zero_add, Nat.reduceAdd, d0] at hK ⊢; go_simp
         try rw [if_neg (by simp [undef])]
         with_reducible refine hK _ _ (Below.refl _ _) ?_
         exact rfl
        ·as_aux_lemma =>
         intro vs W hS hdep K hK; have d0 := hdep ⟨14, .guard⟩ (by simp) rfl; simp only [PhiRsA] at d0; refine ⟨?_⟩; simp only [Act.put, sA, sB, sC, Nat.zero_add, Nat.reduceAdd, d0] at hK ⊢; go_simp
         try rw [if_neg (by simp [undef])]
         with_reducible refine hK _ _ (Below.refl _ _) ?_
         exact rfl
        ·as_aux_lemma =>
         intro vs W hS hdep K hK; have d0 := hdep ⟨14, .guard⟩ (by simp) rfl; simp only [PhiRsA] at d0; refine ⟨?_⟩; simp only [Act.put, sA, sB, sC, Nat.zero_add, Nat.reduceAdd, d0] at hK ⊢; go_simp
         try rw [if_neg (by simp [undef])]
         with_reducible refine hK _ _ (Below.refl _ _) ?_
         exact rfl
        ·as_aux_lemma =>
         intro vs W hS hdep K hK; have d0 := hdep ⟨14, .guard⟩ (by simp) rfl; simp only [PhiRsA] at d0; refine ⟨?_⟩; simp only [Act.put, sA, sB, sC, Nat.zero_add, Nat.reduceAdd, d0] at hK ⊢; go_simp
         try rw [if_neg (by simp [undef])]
         with_reducible refine hK _ _ (Below.refl _ _) ?_
         exact rfl
        ·as_aux_lemma =>
         intro vs W hS hdep K hK; have d0 := hdep ⟨14, .guard⟩ (by simp) rfl; simp only [PhiRsA] at d0; refine ⟨?_⟩; simp only [Act.put, sA, sB, sC, Nat.zero_add, Nat.reduceAdd, d0] at hK ⊢; go_simp
         try rw [if_neg (by simp [undef])]
         with_reducible refine hK _ _ (Below.refl _ _) ?_
         exact rfl
        ·as_aux_lemma =>
         intro vs W hS hdep K hK; have d0 := hdep ⟨14, .guard⟩ (by simp) rfl; simp only [PhiRsA] at d0; refine ⟨?_⟩; simp only [Act.put, sA, sB, sC, Nat.zero_add, Nat.reduceAdd, d0] at hK ⊢; go_simp
         try rw [if_neg (by simp [undef])]
         with_reducible refine hK _ _ (Below.refl _ _) ?_
         exact rfl
        ·as_aux_lemma =>
         intro vs W hS hdep K hK; have d0 := hdep ⟨14, .data⟩ (by simp) rfl; simp only [PhiRsA] at d0; refine ⟨?_⟩; simp only [Act.put, sA, sB, sC, Nat.zero_add, Nat.reduceAdd, d0] at hK ⊢; go_simp; with_reducible refine hK _ _ (Below.refl _ _) ?_
         exact rfl
       ·intro vsz wz hS hv; have u22 := hv 22 (by simp); simp only [PhiRsA] at u22; simp only [Act.put, sA, sB, sC, Nat.zero_add, Nat.reduceAdd, u22]; clear u22 hv; have hbe2 := Below.tr hbe hS; go_wp2_with fail
        go_roundg (G - 1)
        case measure => omega
        case rel => exact ⟨i + 1, 0, by go_num, rfl, by omega, .inl ⟨rfl, HM.out.1, HN2.out⟩, hbe2⟩
      ·have hne : ((i : Int) != (n : Int)) = true := by simp; omega
       have HCLG : Hid (∀ (E F : Int) (cb : Bool), (PVal q (Lf i).1 (Lf i).2 E ∧ (E = 0 → PVal p (Lf n).1 (Lf n).2 F) ∧ cb = clB E F q p (dg i) (dg n) (sameR (Lf i).1 (Lf i).2 (Lf n).1 (Lf n).2)) → cb = clA Ev Lf dg ps n i) := by
        intro E F cb h; have e1 := h.1.uniq HVi.out; rw [clA_comm]; unfold clA; rw [HP.out.2, HQ.out, h.2.2, e1]; by_cases hz : E = 0
        ·have e2 := (h.2.1 hz).uniq HVn.out; rw [e2]
        ·unfold clB; rw [← e1]; refine decide_eq_decide.2 ⟨fun h => absurd h.1 hz, fun h => absurd h.1 hz⟩
       by_cases hcb : clA Ev Lf dg ps n i = true
       ·have HCL : Hid (∀ (E F : Int) (cb : Bool), (PVal q (Lf i).1 (Lf i).2 E ∧ (E = 0 → PVal p (Lf n).1 (Lf n).2 F) ∧ cb = clB E F q p (dg i) (dg n) (sameR (Lf i).1 (Lf i).2 (Lf n).1 (Lf n).2)) → cb = true) := fun E F cb h => (HCLG.out E F cb h).trans hcb
        have HHI : Hid (hitA m.tick dm br Ev Lf dg ps n i = (s == 0)) := by
         show _ = _
         unfold hitA; rw [hcb, HSA2.out]; simp [hni]
        clear hcb HCLG; refine region_invF (PhiRsC (some ⟨b, off, none⟩) kl cl b off n i g m p q s) (fun w w' => Below w.heap.size w w') (fun Y => Below wr.heap.size wr Y) (by kernel_rfl) (by kernel_rfl) (by kernel_rfl) PhiRsC.keep (fun _ _ hR hS => Below.tr hS hR) (bD _) (fun vs => by simp only [fillR, Act.put, sA, sB, sC, Nat.zero_add, Nat.reduceAdd]; rfl) ?_ ?_
        ·refine sK ?_ (sK ?_ (sK ?_ (sK ?_ (sK ?_ (sK ?_ (sK ?_ (sK ?_ (sK ?_ (sK ?_ (sK ?_ (sK ?_ (sK ?_ (sK ?_ (sK ?_ (sK ?_ (sK ?_ (sK ?_ (sK ?_ (sK ?_ (sK ?_ (sK ?_ (sK ?_ (sZ)))))))))))))))))))))))
         ·as_aux_lemma =>
          intro vs W hS hdep K hK; refine ⟨?_⟩; simp only [Act.put, sA, sB, sC, Nat.zero_add, Nat.reduceAdd] at hK ⊢; go_simp; with_reducible refine hK _ _ (Below.refl _ _) ?_
          exact rfl
         ·as_aux_lemma =>
          intro vs W hS hdep K hK; refine ⟨?_⟩; simp only [Act.put, sA, sB, sC, Nat.zero_add, Nat.reduceAdd] at hK ⊢; go_simp; with_reducible refine hK _ _ (Below.refl _ _) ?_
          exact rfl
         ·as_aux_lemma =>
          intro vs W hS hdep K hK; have d0 := hdep ⟨0, .data⟩ (by simp) rfl; simp only [PhiRsC] at d0; have d1 := hdep ⟨1, .data⟩ (by simp) rfl; simp only [PhiRsC] at d1; refine ⟨?_⟩; simp only [Act.put, sA, sB, sC, Nat.zero_add, Nat.reduceAdd, d0, d1] at hK ⊢; go_simp; with_reducible refine hK _ _ (Below.refl _ _) ?_
          exact rfl
         ·as_aux_lemma =>
          intro vs W hS hdep K hK; have d0 := hdep ⟨2, .data⟩ (by simp) rfl; simp only [PhiRsC] at d0; refine ⟨?_⟩; simp only [Act.put, sA, sB, sC, Nat.zero_add, Nat.reduceAdd, d0] at hK ⊢; go_simp; with_reducible refine hK _ _ (Below.refl _ _) ?_
          exact rfl
         ·as_aux_lemma =>
          intro vs W hS hdep K hK; have d0 := hdep ⟨3, .guard⟩ (by simp) rfl; simp only [PhiRsC] at d0; refine ⟨?_⟩; simp only [Act.put, sA, sB, sC, Nat.zero_add, Nat.reduceAdd, d0] at hK ⊢; go_simp; with_reducible refine hK _ _ (Below.refl _ _) ?_
          exact rfl
         ·as_aux_lemma =>
          intro vs W hS hdep K hK; have d0 := hdep ⟨3, .guard⟩ (by simp) rfl; simp only [PhiRsC] at d0; refine ⟨?_⟩; simp only [Act.put, sA, sB, sC, Nat.zero_add, Nat.reduceAdd, d0] at hK ⊢; go_simp; with_reducible refine hK _ _ (Below.refl _ _) ?_
          exact rfl
         ·as_aux_lemma =>
          intro vs W hS hdep K hK; have d0 := hdep ⟨4, .data⟩ (by simp) rfl; simp only [PhiRsC] at d0; have d1 := hdep ⟨5, .data⟩ (by simp) rfl; simp only [PhiRsC] at d1; have d2 := hdep ⟨3, .guard⟩ (by simp) rfl; simp only [PhiRsC] at d2; refine ⟨?_⟩; simp only [Act.put, sA, sB, sC, Nat.zero_add, Nat.reduceAdd, d0, d1, d2] at hK ⊢; go_simp; with_reducible refine hK _ _ (Below.refl _ _) ?_
          exact rfl
         ·as_aux_lemma =>
          intro vs W hS hdep K hK; have d0 := hdep ⟨6, .data⟩ (by simp) rfl; simp only [PhiRsC] at d0; have d1 := hdep ⟨3, .guard⟩ (by simp) rfl; simp only [PhiRsC] at d1; refine ⟨?_⟩; simp only [Act.put, sA, sB, sC, Nat.zero_add, Nat.reduceAdd, d0, d1] at hK ⊢; rw [if_pos (by rfl)]; refine wp_load_mid 33 (.tmp 53) (by rfl) b (off + i * 24) (by rfl) (cellsP q) _ (fun j v h => cell_keep hS (HCq.out j v h)) Tryz.underlying33 (by rfl) infoP ?_; simp only [Act.put, sA, sB, sC]; with_reducible refine hK _ _ (Below.refl _ _) ?_
          exact rfl
         ·as_aux_lemma =>
          intro vs W hS hdep K hK; have d0 := hdep ⟨3, .guard⟩ (by simp) rfl; simp only [PhiRsC] at d0; refine ⟨?_⟩; simp only [Act.put, sA, sB, sC, Nat.zero_add, Nat.reduceAdd, d0] at hK ⊢; go_simp; with_reducible refine hK _ _ (Below.refl _ _) ?_
          exact rfl
         ·as_aux_lemma =>
          intro vs W hS hdep K hK; have d0 := hdep ⟨3, .guard⟩ (by simp) rfl; simp only [PhiRsC] at d0; refine ⟨?_⟩; simp only [Act.put, sA, sB, sC, Nat.zero_add, Nat.reduceAdd, d0] at hK ⊢; go_simp; with_reducible refine hK _ _ (Below.refl _ _) ?_
          exact rfl
         ·as_aux_lemma =>
          intro vs W hS hdep K hK; have d0 := hdep ⟨8, .data⟩ (by simp) rfl; simp only [PhiRsC] at d0; have d1 := hdep ⟨9, .data⟩ (by simp) rfl; simp only [PhiRsC] at d1; have d2 := hdep ⟨3, .guard⟩ (by simp) rfl; simp only [PhiRsC] at d2; refine ⟨?_⟩; simp only [Act.put, sA, sB, sC, Nat.zero_add, Nat.reduceAdd, d0, d1, d2] at hK ⊢; go_simp; with_reducible refine hK _ _ (Below.refl _ _) ?_
          exact rfl
         ·as_aux_lemma =>
          intro vs W hS hdep K hK; have d0 := hdep ⟨10, .data⟩ (by simp) rfl; simp only [PhiRsC] at d0; have d1 := hdep ⟨3, .guard⟩ (by simp) rfl; simp only [PhiRsC] at d1; refine ⟨?_⟩; simp only [Act.put, sA, sB, sC, Nat.zero_add, Nat.reduceAdd, d0, d1] at hK ⊢; rw [if_pos (by rfl)]; refine wp_load_mid 33 (.tmp 57) (by rfl) b (off + n * 24) (by rfl) (cellsP p) _ (fun j v h => cell_keep hS (HCp.out j v h)) Tryz.underlying33 (by rfl) infoP ?_; simp only [Act.put, sA, sB, sC]; with_reducible refine hK _ _ (Below.refl _ _) ?_
          exact rfl
         ·as_aux_lemma =>
          intro vs W hS hdep K hK; have d0 := hdep ⟨7, .data⟩ (by simp) rfl; simp only [PhiRsC] at d0; have d1 := hdep ⟨11, .data⟩ (by simp) rfl; simp only [PhiRsC] at d1; have d2 := hdep ⟨3, .guard⟩ (by simp) rfl; simp only [PhiRsC] at d2; refine ⟨?_⟩; simp only [Act.put, sA, sB, sC, Nat.zero_add, Nat.reduceAdd, d0, d1, d2] at hK ⊢; go_simp; refine (rclash_n q p (Lf i).1 (Lf i).2 (Lf n).1 (Lf n).2 (dg i) (dg n) _ (HEi.out.1.below hS) (HEn.out.1.below hS) HEi.out.2.1 HEi.out.2.2 HEn.out.2.1 HEn.out.2.2 hdpi hdpn).mono ?_; rintro e w' ⟨E, F, cb, rfl, HX, hb⟩; obtain rfl : cb = true := HCL.out E F cb HX.out; clear HX; go_wp2_with fail; with_reducible refine hK _ _ hb ?_
          exact rfl
         ·as_aux_lemma =>
          intro vs W hS hdep K hK; have d0 := hdep ⟨3, .data⟩ (by simp) rfl; simp only [PhiRsC] at d0; have d1 := hdep ⟨12, .data⟩ (by simp) rfl; simp only [PhiRsC] at d1; refine ⟨?_⟩; simp only [Act.put, sA, sB, sC, Nat.zero_add, Nat.reduceAdd, d0, d1] at hK ⊢; go_simp; with_reducible refine hK _ _ (Below.refl _ _) ?_
          exact rfl
         ·as_aux_lemma =>
          intro vs W hS hdep K hK; have d0 := hdep ⟨13, .data⟩ (by simp) rfl; simp only [PhiRsC] at d0; refine ⟨?_⟩; simp only [Act.put, sA, sB, sC, Nat.zero_add, Nat.reduceAdd, d0] at hK ⊢; go_simp; with_reducible refine hK _ _ (Below.refl _ _) ?_
          exact rfl
         ·as_aux_lemma =>
          intro vs W hS hdep K hK; have d0 := hdep ⟨14, .guard⟩ (by simp) rfl; simp only [PhiRsC] at d0; refine ⟨?_⟩; simp only [Act.put, sA, sB, sC, Nat.zero_add, Nat.reduceAdd, d0] at hK ⊢; go_simp; with_reducible refine hK _ _ (Below.refl _ _) ?_
          exact rfl
         ·as_aux_lemma =>
          intro vs W hS hdep K hK; have d0 := hdep ⟨14, .guard⟩ (by simp) rfl; simp only [PhiRsC] at d0; refine ⟨?_⟩; simp only [Act.put, sA, sB, sC, Nat.zero_add, Nat.reduceAdd, d0] at hK ⊢; go_simp; with_reducible refine hK _ _ (Below.refl _ _) ?_
          exact rfl
         ·as_aux_lemma =>
          intro vs W hS hdep K hK; have d0 := hdep ⟨14, .guard⟩ (by simp) rfl; simp only [PhiRsC] at d0; refine ⟨?_⟩; simp only [Act.put, sA, sB, sC, Nat.zero_add, Nat.reduceAdd, d0] at hK ⊢; go_simp; with_reducible refine hK _ _ (Below.refl _ _) ?_
          exact rfl
         ·as_aux_lemma =>
          intro vs W hS hdep K hK; have d0 := hdep ⟨14, .guard⟩ (by simp) rfl; simp only [PhiRsC] at d0; refine ⟨?_⟩; simp only [Act.put, sA, sB, sC, Nat.zero_add, Nat.reduceAdd, d0] at hK ⊢; rw [if_pos (by rfl)]; refine wp_load_mid 31 (.tmp 8) (by rfl) g (0) (by rfl) (mdg m) _ (blk_range (Blk.below HBDz.out hS HBDz.out.lt)) Tryz.underlying31 (by rfl) infoMd ?_; simp only [Act.put, sA, sB, sC]; with_reducible refine hK _ _ (Below.refl _ _) ?_
          exact rfl
         ·as_aux_lemma =>
          intro vs W hS hdep K hK; have d0 := hdep ⟨14, .guard⟩ (by simp) rfl; simp only [PhiRsC] at d0; refine ⟨?_⟩; simp only [Act.put, sA, sB, sC, Nat.zero_add, Nat.reduceAdd, d0] at hK ⊢; go_simp; with_reducible refine hK _ _ (Below.refl _ _) ?_
          exact rfl
         ·as_aux_lemma =>
          intro vs W hS hdep K hK; have d0 := hdep ⟨15, .data⟩ (by simp) rfl; simp only [PhiRsC] at d0; have d1 := hdep ⟨16, .data⟩ (by simp) rfl; simp only [PhiRsC] at d1; have d2 := hdep ⟨17, .data⟩ (by simp) rfl; simp only [PhiRsC] at d2; have d3 := hdep ⟨18, .data⟩ (by simp) rfl; simp only [PhiRsC] at d3; have d4 := hdep ⟨19, .data⟩ (by simp) rfl; simp only [PhiRsC] at d4; have d5 := hdep ⟨14, .guard⟩ (by simp) rfl; simp only [PhiRsC] at d5; refine ⟨?_⟩; simp only [Act.put, sA, sB, sC, Nat.zero_add, Nat.reduceAdd, d0, d1, d2, d3, d4, d5] at hK ⊢; go_simp; refine (ralone_n _ kl cl i m ps q dm (dg i) br _ hi (hpz.below hS) HQ hdm hdpi (hbrz.below hS)).mono ?_; rintro e w' ⟨rfl, hb⟩; rw [← HSI.out]; go_wp2_with fail; with_reducible refine hK _ _ hb ?_
          exact rfl
         ·as_aux_lemma =>
          intro vs W hS hdep K hK; have d0 := hdep ⟨20, .data⟩ (by simp) rfl; simp only [PhiRsC] at d0; have d1 := hdep ⟨14, .guard⟩ (by simp) rfl; simp only [PhiRsC] at d1; refine ⟨?_⟩; simp only [Act.put, sA, sB, sC, Nat.zero_add, Nat.reduceAdd, d0, d1] at hK ⊢; go_simp; with_reducible refine hK _ _ (Below.refl _ _) ?_
          exact rfl
         ·as_aux_lemma =>
          intro vs W hS hdep K hK; have d0 := hdep ⟨14, .data⟩ (by simp) rfl; simp only [PhiRsC] at d0; have d1 := hdep ⟨21, .data⟩ (by simp) rfl; simp only [PhiRsC] at d1; refine ⟨?_⟩; simp only [Act.put, sA, sB, sC, Nat.zero_add, Nat.reduceAdd, d0, d1] at hK ⊢; go_simp; with_reducible refine hK _ _ (Below.refl _ _) ?_
          exact rfl
        ·intro vsz wz hS hv; have u22 := hv 22 (by simp); simp only [PhiRsC] at u22; simp only [Act.put, sA, sB, sC, Nat.zero_add, Nat.reduceAdd, u22]; clear u22 hv; have hbe2 := Below.tr hbe hS; by_cases hs : s = 0
         ·have hs2 : (s == 0) = true := by simpa using hs
          have HF : Hid ((5 : Int) = stF m.tick dm br Ev Lf dg ps n) := by
           show _ = _
           unfold stF; rw [if_neg (by rw [HM.out.1]; simp), if_pos]; rw [List.any_eq_true]; exact ⟨i, List.mem_range.2 hil, by rw [HHI.out]; exact hs2⟩
          clear hs; go_wp2_with fail
          go_roundg (G - 1)
          case measure => omega
          case rel => exact ⟨i + 1, 5, by go_num, rfl, by omega, .inr ⟨by decide, HF.out⟩, hbe2⟩
         ·have hs2 : (s == 0) = false := by simpa using hs
          have HN2 : Hid (∀ j, j < i + 1 → hitA m.tick dm br Ev Lf dg ps n j = false) := fun j hj => by
           rcases Nat.lt_or_ge j i with h | h
           ·exact HM.out.2 j h
           ·rw [show j = i by omega, HHI.out]; exact hs2
          clear hs; go_wp2_with fail
          go_roundg (G - 1)
          case measure => omega
          case rel => exact ⟨i + 1, 0, by go_num, rfl, by omega, .inl ⟨rfl, HM.out.1, HN2.out⟩, hbe2⟩
       ·have hcb : clA Ev Lf dg ps n i = false := by simpa using hcb
        have HCL : Hid (∀ (E F : Int) (cb : Bool), (PVal q (Lf i).1 (Lf i).2 E ∧ (E = 0 → PVal p (Lf n).1 (Lf n).2 F) ∧ cb = clB E F q p (dg i) (dg n) (sameR (Lf i).1 (Lf i).2 (Lf n).1 (Lf n).2)) → cb = false) := fun E F cb h => (HCLG.out E F cb h).trans hcb
        have HN2 : Hid (∀ j, j < i + 1 → hitA m.tick dm br Ev Lf dg ps n j = false) := fun j hj => by
         rcases Nat.lt_or_ge j i with h | h
         ·exact HM.out.2 j h
         ·rw [show j = i by omega]; unfold hitA; rw [hcb]; simp
        clear hcb HCLG; refine region_invF (PhiRsB (some ⟨b, off, none⟩) kl cl b off n i g m p q s) (fun w w' => Below w.heap.size w w') (fun Y => Below wr.heap.size wr Y) (by kernel_rfl) (by kernel_rfl) (by kernel_rfl) PhiRsB.keep (fun _ _ hR hS => Below.tr hS hR) (bD _) (fun vs => by simp only [fillR, Act.put, sA, sB, sC, Nat.zero_add, Nat.reduceAdd]; rfl) ?_ ?_
        ·refine sK ?_ (sK ?_ (sK ?_ (sK ?_ (sK ?_ (sK ?_ (sK ?_ (sK ?_ (sK ?_ (sK ?_ (sK ?_ (sK ?_ (sK ?_ (sK ?_ (sK ?_ (sK ?_ (sK ?_ (sK ?_ (sK ?_ (sK ?_ (sK ?_ (sK ?_ (sK ?_ (sZ)))))))))))))))))))))))
         ·as_aux_lemma =>
          intro vs W hS hdep K hK; refine ⟨?_⟩; simp only [Act.put, sA, sB, sC, Nat.zero_add, Nat.reduceAdd] at hK ⊢; go_simp; with_reducible refine hK _ _ (Below.refl _ _) ?_
          exact rfl
         ·as_aux_lemma =>
          intro vs W hS hdep K hK; refine ⟨?_⟩; simp only [Act.put, sA, sB, sC, Nat.zero_add, Nat.reduceAdd] at hK ⊢; go_simp; with_reducible refine hK _ _ (Below.refl _ _) ?_
          exact rfl
         ·as_aux_lemma =>
          intro vs W hS hdep K hK; have d0 := hdep ⟨0, .data⟩ (by simp) rfl; simp only [PhiRsB] at d0; have d1 := hdep ⟨1, .data⟩ (by simp) rfl; simp only [PhiRsB] at d1; refine ⟨?_⟩; simp only [Act.put, sA, sB, sC, Nat.zero_add, Nat.reduceAdd, d0, d1] at hK ⊢; go_simp; with_reducible refine hK _ _ (Below.refl _ _) ?_
          exact rfl
         ·as_aux_lemma =>
          intro vs W hS hdep K hK; have d0 := hdep ⟨2, .data⟩ (by simp) rfl; simp only [PhiRsB] at d0; refine ⟨?_⟩; simp only [Act.put, sA, sB, sC, Nat.zero_add, Nat.reduceAdd, d0] at hK ⊢; go_simp; with_reducible refine hK _ _ (Below.refl _ _) ?_
          exact rfl
         ·as_aux_lemma =>
          intro vs W hS hdep K hK; have d0 := hdep ⟨3, .guard⟩ (by simp) rfl; simp only [PhiRsB] at d0; refine ⟨?_⟩; simp only [Act.put, sA, sB, sC, Nat.zero_add, Nat.reduceAdd, d0] at hK ⊢; go_simp; with_reducible refine hK _ _ (Below.refl _ _) ?_
          exact rfl
         ·as_aux_lemma =>
          intro vs W hS hdep K hK; have d0 := hdep ⟨3, .guard⟩ (by simp) rfl; simp only [PhiRsB] at d0; refine ⟨?_⟩; simp only [Act.put, sA, sB, sC, Nat.zero_add, Nat.reduceAdd, d0] at hK ⊢; go_simp; with_reducible refine hK _ _ (Below.refl _ _) ?_
          exact rfl
         ·as_aux_lemma =>
          intro vs W hS hdep K hK; have d0 := hdep ⟨4, .data⟩ (by simp) rfl; simp only [PhiRsB] at d0; have d1 := hdep ⟨5, .data⟩ (by simp) rfl; simp only [PhiRsB] at d1; have d2 := hdep ⟨3, .guard⟩ (by simp) rfl; simp only [PhiRsB] at d2; refine ⟨?_⟩; simp only [Act.put, sA, sB, sC, Nat.zero_add, Nat.reduceAdd, d0, d1, d2] at hK ⊢; go_simp; with_reducible refine hK _ _ (Below.refl _ _) ?_
          exact rfl
         ·as_aux_lemma =>
          intro vs W hS hdep K hK; have d0 := hdep ⟨6, .data⟩ (by simp) rfl; simp only [PhiRsB] at d0; have d1 := hdep ⟨3, .guard⟩ (by simp) rfl; simp only [PhiRsB] at d1; refine ⟨?_⟩; simp only [Act.put, sA, sB, sC, Nat.zero_add, Nat.reduceAdd, d0, d1] at hK ⊢; rw [if_pos (by rfl)]; refine wp_load_mid 33 (.tmp 53) (by rfl) b (off + i * 24) (by rfl) (cellsP q) _ (fun j v h => cell_keep hS (HCq.out j v h)) Tryz.underlying33 (by rfl) infoP ?_; simp only [Act.put, sA, sB, sC]; with_reducible refine hK _ _ (Below.refl _ _) ?_
          exact rfl
         ·as_aux_lemma =>
          intro vs W hS hdep K hK; have d0 := hdep ⟨3, .guard⟩ (by simp) rfl; simp only [PhiRsB] at d0; refine ⟨?_⟩; simp only [Act.put, sA, sB, sC, Nat.zero_add, Nat.reduceAdd, d0] at hK ⊢; go_simp; with_reducible refine hK _ _ (Below.refl _ _) ?_
          exact rfl
         ·as_aux_lemma =>
          intro vs W hS hdep K hK; have d0 := hdep ⟨3, .guard⟩ (by simp) rfl; simp only [PhiRsB] at d0; refine ⟨?_⟩; simp only [Act.put, sA, sB, sC, Nat.zero_add, Nat.reduceAdd, d0] at hK ⊢; go_simp; with_reducible refine hK _ _ (Below.refl _ _) ?_
          exact rfl
         ·as_aux_lemma =>
          intro vs W hS hdep K hK; have d0 := hdep ⟨8, .data⟩ (by simp) rfl; simp only [PhiRsB] at d0; have d1 := hdep ⟨9, .data⟩ (by simp) rfl; simp only [PhiRsB] at d1; have d2 := hdep ⟨3, .guard⟩ (by simp) rfl; simp only [PhiRsB] at d2; refine ⟨?_⟩; simp only [Act.put, sA, sB, sC, Nat.zero_add, Nat.reduceAdd, d0, d1, d2] at hK ⊢; go_simp; with_reducible refine hK _ _ (Below.refl _ _) ?_
          exact rfl
         ·as_aux_lemma =>
          intro vs W hS hdep K hK; have d0 := hdep ⟨10, .data⟩ (by simp) rfl; simp only [PhiRsB] at d0; have d1 := hdep ⟨3, .guard⟩ (by simp) rfl; simp only [PhiRsB] at d1; refine ⟨?_⟩; simp only [Act.put, sA, sB, sC, Nat.zero_add, Nat.reduceAdd, d0, d1] at hK ⊢; rw [if_pos (by rfl)]; refine wp_load_mid 33 (.tmp 57) (by rfl) b (off + n * 24) (by rfl) (cellsP p) _ (fun j v h => cell_keep hS (HCp.out j v h)) Tryz.underlying33 (by rfl) infoP ?_; simp only [Act.put, sA, sB, sC]; with_reducible refine hK _ _ (Below.refl _ _) ?_
          exact rfl
         ·as_aux_lemma =>
          intro vs W hS hdep K hK; have d0 := hdep ⟨7, .data⟩ (by simp) rfl; simp only [PhiRsB] at d0; have d1 := hdep ⟨11, .data⟩ (by simp) rfl; simp only [PhiRsB] at d1; have d2 := hdep ⟨3, .guard⟩ (by simp) rfl; simp only [PhiRsB] at d2; refine ⟨?_⟩; simp only [Act.put, sA, sB, sC, Nat.zero_add, Nat.reduceAdd, d0, d1, d2] at hK ⊢; go_simp; refine (rclash_n q p (Lf i).1 (Lf i).2 (Lf n).1 (Lf n).2 (dg i) (dg n) _ (HEi.out.1.below hS) (HEn.out.1.below hS) HEi.out.2.1 HEi.out.2.2 HEn.out.2.1 HEn.out.2.2 hdpi hdpn).mono ?_; rintro e w' ⟨E, F, cb, rfl, HX, hb⟩; obtain rfl : cb = false := HCL.out E F cb HX.out; clear HX; go_wp2_with fail; with_reducible refine hK _ _ hb ?_
          exact rfl
         ·as_aux_lemma =>
          intro vs W hS hdep K hK; have d0 := hdep ⟨3, .data⟩ (by simp) rfl; simp only [PhiRsB] at d0; have d1 := hdep ⟨12, .data⟩ (by simp) rfl; simp only [PhiRsB] at d1; refine ⟨?_⟩; simp only [Act.put, sA, sB, sC, Nat.zero_add, Nat.reduceAdd, d0, d1] at hK ⊢; go_simp; with_reducible refine hK _ _ (Below.refl _ _) ?_
          exact rfl
         ·as_aux_lemma =>
          intro vs W hS hdep K hK; have d0 := hdep ⟨13, .data⟩ (by simp) rfl; simp only [PhiRsB] at d0; refine ⟨?_⟩; simp only [Act.put, sA, sB, sC, Nat.zero_add, Nat.reduceAdd, d0] at hK ⊢; go_simp; with_reducible refine hK _ _ (Below.refl _ _) ?_
          exact rfl
         ·as_aux_lemma =>
          intro vs W hS hdep K hK; have d0 := hdep ⟨14, .guard⟩ (by simp) rfl; simp only [PhiRsB] at d0; refine ⟨?_⟩; simp only [Act.put, sA, sB, sC, Nat.zero_add, Nat.reduceAdd, d0] at hK ⊢; go_simp
          try rw [if_neg (by simp [undef])]
          with_reducible refine hK _ _ (Below.refl _ _) ?_
          exact rfl
         ·as_aux_lemma =>
          intro vs W hS hdep K hK; have d0 := hdep ⟨14, .guard⟩ (by simp) rfl; simp only [PhiRsB] at d0; refine ⟨?_⟩; simp only [Act.put, sA, sB, sC, Nat.zero_add, Nat.reduceAdd, d0] at hK ⊢; go_simp
          try rw [if_neg (by simp [undef])]
          with_reducible refine hK _ _ (Below.refl _ _) ?_
          exact rfl
         ·as_aux_lemma =>
          intro vs W hS hdep K hK; have d0 := hdep ⟨14, .guard⟩ (by simp) rfl; simp only [PhiRsB] at d0; refine ⟨?_⟩; simp only [Act.put, sA, sB, sC, Nat.zero_add, Nat.reduceAdd, d0] at hK ⊢; go_simp
          try rw [if_neg (by simp [undef])]
          with_reducible refine hK _ _ (Below.refl _ _) ?_
          exact rfl
         ·as_aux_lemma =>
          intro vs W hS hdep K hK; have d0 := hdep ⟨14, .guard⟩ (by simp) rfl; simp only [PhiRsB] at d0; refine ⟨?_⟩; simp only [Act.put, sA, sB, sC, Nat.zero_add, Nat.reduceAdd, d0] at hK ⊢; go_simp
          try rw [if_neg (by simp [undef])]
          with_reducible refine hK _ _ (Below.refl _ _) ?_
          exact rfl
         ·as_aux_lemma =>
          intro vs W hS hdep K hK; have d0 := hdep ⟨14, .guard⟩ (by simp) rfl; simp only [PhiRsB] at d0; refine ⟨?_⟩; simp only [Act.put, sA, sB, sC, Nat.zero_add, Nat.reduceAdd, d0] at hK ⊢; go_simp
          try rw [if_neg (by simp [undef])]
          with_reducible refine hK _ _ (Below.refl _ _) ?_
          exact rfl
         ·as_aux_lemma =>
          intro vs W hS hdep K hK; have d0 := hdep ⟨14, .guard⟩ (by simp) rfl; simp only [PhiRsB] at d0; refine ⟨?_⟩; simp only [Act.put, sA, sB, sC, Nat.zero_add, Nat.reduceAdd, d0] at hK ⊢; go_simp
          try rw [if_neg (by simp [undef])]
          with_reducible refine hK _ _ (Below.refl _ _) ?_
          exact rfl
         ·as_aux_lemma =>
          intro vs W hS hdep K hK; have d0 := hdep ⟨14, .guard⟩ (by simp) rfl; simp only [PhiRsB] at d0; refine ⟨?_⟩; simp only [Act.put, sA, sB, sC, Nat.zero_add, Nat.reduceAdd, d0] at hK ⊢; go_simp
          try rw [if_neg (by simp [undef])]
          with_reducible refine hK _ _ (Below.refl _ _) ?_
          exact rfl
         ·as_aux_lemma =>
          intro vs W hS hdep K hK; have d0 := hdep ⟨14, .data⟩ (by simp) rfl; simp only [PhiRsB] at d0; refine ⟨?_⟩; simp only [Act.put, sA, sB, sC, Nat.zero_add, Nat.reduceAdd, d0] at hK ⊢; go_simp; with_reducible refine hK _ _ (Below.refl _ _) ?_
          exact rfl
        ·intro vsz wz hS hv; have u22 := hv 22 (by simp); simp only [PhiRsB] at u22; simp only [Act.put, sA, sB, sC, Nat.zero_add, Nat.reduceAdd, u22]; clear u22 hv; have hbe2 := Below.tr hbe hS; go_wp2_with fail
         go_roundg (G - 1)
         case measure => omega
         case rel => exact ⟨i + 1, 0, by go_num, rfl, by omega, .inl ⟨rfl, HM.out.1, HN2.out⟩, hbe2⟩
     ·have t1 : decide ((i : Int) < (kl : Int)) = false := by simp; omega
      have li : ¬ ((i : Int) < (kl : Int)) := by omega
      have HF : Hid (StP kl m.tick dm br Ev Lf dg ps (n : Int) 0 0) := by
       refine .inr ⟨n, rfl, hn, .inr ⟨HE0.out, rfl, ?_⟩⟩; unfold stF; rw [if_neg (by rw [HM.out.1]; simp), if_neg]; rw [List.any_eq_true]; rintro ⟨j, hj, h⟩; rw [HM.out.2 j (by have := List.mem_range.1 hj; have := HKL.out; omega)] at h
       cases h
      go_wp2_with fail
      go_ret2
      exact ⟨0, 0, rfl, HF, Below.tr hbz hbe⟩
    ·have hs0 : (s == 0) = false := by simpa using hs
     have HF : Hid (StP kl m.tick dm br Ev Lf dg ps (n : Int) s 0) := by
      rcases HN.out with h | h
      ·exact absurd h.1 hs
      ·exact .inr ⟨n, rfl, hn, .inr ⟨HE0.out, rfl, h.2⟩⟩
     clear hs HN; by_cases hi : i < kl
     ·have t1 : decide ((i : Int) < (kl : Int)) = true := by simp; omega
      have li : (i : Int) < (kl : Int) := by omega
      go_wp2_with fail
      go_ret2
      exact ⟨s, 0, rfl, HF, Below.tr hbz hbe⟩
     ·have t1 : decide ((i : Int) < (kl : Int)) = false := by simp; omega
      have li : ¬ ((i : Int) < (kl : Int)) := by omega
      go_wp2_with fail
      go_ret2
      exact ⟨s, 0, rfl, HF, Below.tr hbz hbe⟩
  ·have h0 : (E != 0) = true := by simpa using hE
   have HF : Hid (StP kl m.tick dm br Ev Lf dg ps (n : Int) 0 E) := .inr ⟨n, rfl, hn, .inl ⟨by rw [← HEE.out]; exact hE, rfl, HEE.out⟩⟩; clear hE; go_wp2_with fail
   go_ret2
   exact ⟨0, E, rfl, HF, hbw2⟩
end Go.Proofs.YtijkfagkbfbpmaaGreatDoor
