import Derived.Test.YtijkfagkbfbpmaaGreatDoorKByProof22
import Derived.Test.YtijkfagkbfbpmaaGreatDoorKByProof16
import Derived.Test.YtijkfagkbfbpmaaGreatDoorKByProof17
import Derived.Deep.QuietTactic
import Derived.BigQuiet
import Derived.Test.YtijkfagkbfbpmaaGreatDoorKByProof15
import Derived.Test.YtijkfagkbfbpmaaGreatDoorKByProof21
import Derived.Test.YtijkfagkbfbpmaaGreatDoorS0
set_option linter.unusedVariables false
set_option linter.unusedSimpArgs false
namespace Go.Proofs.YtijkfagkbfbpmaaGreatDoor
open Go Go.RowKit
/-- the state of the promise i of a list, by itself -/
def stA (tick : Int) (dm br : List Int) (dg : Nat → List Int) (ps : List PC) (i : Nat) : Int := match ps[i]? with
 | some p => stN tick dm br p (dg i) (i : Int)
 | none => 0
/-- two promises of a list contradict each other -/
def clA (Ev : Nat → Int) (Lf : Nat → List Nat × List Nat) (dg : Nat → List Int) (ps : List PC) (n i : Nat) : Bool := match ps[n]?, ps[i]? with
 | some p, some q => clB (Ev n) (Ev i) p q (dg n) (dg i) (sameR (Lf n).1 (Lf n).2 (Lf i).1 (Lf i).2)
 | _, _ => false
/-- a promise contradicts the promise n, and holds by itself -/
def hitA (tick : Int) (dm br : List Int) (Ev : Nat → Int) (Lf : Nat → List Nat × List Nat) (dg : Nat → List Int) (ps : List PC) (n i : Nat) : Bool :=
 (i != n) && clA Ev Lf dg ps n i && (stA tick dm br dg ps i == 0)
/-- the state of the promise n of a list -/
def stF (tick : Int) (dm br : List Int) (Ev : Nat → Int) (Lf : Nat → List Nat × List Nat) (dg : Nat → List Int) (ps : List PC) (n : Nat) : Int :=
 if stA tick dm br dg ps n ≠ 0 then stA tick dm br dg ps n else if (List.range ps.length).any (hitA tick dm br Ev Lf dg ps n) then 5 else 0
/-- what State says -/
def StP (kl : Nat) (tick : Int) (dm br : List Int) (Ev : Nat → Int) (Lf : Nat → List Nat × List Nat) (dg : Nat → List Int) (ps : List PC) (k s er : Int) : Prop :=
 ((k < 0 ∨ (kl : Int) ≤ k) ∧ s = 0 ∧ er = 5) ∨ ∃ n : Nat, k = (n : Int) ∧ n < kl ∧ ((Ev n ≠ 0 ∧ s = 0 ∧ er = Ev n) ∨ (Ev n = 0 ∧ er = 0 ∧ s = stF tick dm br Ev Lf dg ps n))
theorem wpList_buildW {P : Program} {ops : Array Oper} {rest : List Oper} {o : Oper} {a : Act} {w : World} {Q : Exit → Act → World → Prop} (hg : o.guard = none) (t : TypeId) (pl : List (Nat × Operand)) (ho : o.op = .build t pl.toArray)
  (cells : Array Value) (vals : List (Nat × Value)) (hv : (pl.map fun (i, x) => (i, a.eval x)) = vals) (hf : P.built t vals = some cells) (h : wpList P ops Q rest (a.put o.dst (.agg cells)) w) : wpList P ops Q (o :: rest) a w :=
 wpList_plain hg fun _ hK => wp_buildTo t _ ho cells (by rw [← hv] at hf; simpa using hf) (hK _ _ h)
theorem built_mm {m : MM} : (Tryz.prog).built 90 [(0, .int .i64 m.tick), (1, .agg (mdg m).toArray), (2, .slice m.A m.k m.c)] = some (cellsM m).toArray := by kernel_rfl
theorem infoMs {m : MM} : (Tryz.prog.info? 90).map (·.size) = some (cellsM m).toArray.size := by kernel_rfl
theorem infoPs {p : PC} : (Tryz.prog.info? 33).map (·.size) = some (cellsP p).toArray.size := by kernel_rfl
theorem bytes_one {l : List Value} {d : List Int} (h : DgOk l d) : ∀ v ∈ l, v.oneCell' = true := by
 intro v hv; rw [h.1] at hv; obtain ⟨n, _, rfl⟩ := List.mem_map.1 hv; rfl
theorem mm_one {m : MM} {d : List Int} (h : DgOk (mdg m) d) : ((cellsM m).toArray.all (·.oneCell') = true) := by
 refine all_oneCell_toArray fun v hv => ?_
 simp only [cellsM, List.mem_cons] at hv; have h1 := bytes_one h; simp only [mdg, List.mem_cons] at h1
 rcases hv with rfl | hv
 ·rfl
 ·rcases hv with h2 | h2 | h2 | h2 | h2 | h2 | h2 | h2 | h2 | h2 | h2 | h2 | h2 | h2 | h2 | h2 | h2 | h2
  all_goals first | (exact absurd h2 List.not_mem_nil) | (subst h2; rfl) | exact h1 v (by simp [h2])
theorem pp_one {p : PC} {d : List Int} {w : World} {L1 L2 : List Nat} (h : DgOk (pdg p) d) (hr : RtL w (.agg #[p.b1, p.b2]) L1 L2) : ((cellsP p).toArray.all (·.oneCell') = true) := by
 obtain ⟨A1, k1, c1, A2, k2, c2, hsh⟩ := hr.shape; simp only [Value.agg.injEq, Array.mk.injEq, List.cons.injEq, and_true] at hsh; refine all_oneCell_toArray fun v hv => ?_
 simp only [cellsP, List.mem_cons] at hv; have h1 := bytes_one h; simp only [pdg, List.mem_cons] at h1
 rcases hv with rfl | rfl | rfl | rfl | rfl | rfl | rfl | rfl | hv
 ·rfl
 ·rfl
 ·rfl
 ·rfl
 ·rw [hsh.1]; rfl
 ·rw [hsh.2]; rfl
 ·rfl
 ·rfl
 ·rcases hv with h2 | h2 | h2 | h2 | h2 | h2 | h2 | h2 | h2 | h2 | h2 | h2 | h2 | h2 | h2 | h2 | h2
  all_goals first | (exact absurd h2 List.not_mem_nil) | exact h1 v (by simp [h2])
def PhiSt7 (Al : Option Addr) (kl cl b off n : Nat) (m : MM) (p : PC) (s : Int) (j : Nat) (w : World) (x : Value) : Prop :=
 match j with
 | 0 => x = .agg (cellsM m).toArray
 | 1 => x = .slice Al kl cl
 | 2 => x = .int .i64 (n : Nat)
 | 3 => x = .pointer (some ⟨b, off + n * 24, none⟩)
 | 4 => x = .agg (cellsP p).toArray
 | 5 => x = .int .i64 (n : Nat)
 | 6 => x = .int .i64 s
 | 7 => x = .int .i64 s
 | _ => True
theorem PhiSt7.keep {Al : Option Addr} {kl cl b off n : Nat} {m : MM} {p : PC} {s : Int} : ∀ (w w' : World), Below w.heap.size w w' → ∀ j x, PhiSt7 Al kl cl b off n m p s j w x → PhiSt7 Al kl cl b off n m p s j w' x := by
 intro w w' hb j x h; unfold PhiSt7 at h ⊢; exact h
def PhiSt13A (Al : Option Addr) (kl cl b off n i : Nat) (m : MM) (p q : PC) (s : Int) (gm gp : Nat) (j : Nat) (w : World) (x : Value) : Prop :=
 match j with
 | 0 => x = .int .i64 (i : Nat)
 | 1 => x = .int .i64 (n : Nat)
 | 2 => x = .bool false
 | 3 => x = .bool false
 | 4 => x = undef
 | 5 => x = undef
 | 6 => x = undef
 | 7 => x = undef
 | 8 => x = undef
 | 9 => x = undef
 | 10 => x = .bool false
 | 11 => x = .bool false
 | 12 => x = undef
 | 13 => x = undef
 | 14 => x = undef
 | 15 => x = undef
 | 16 => x = undef
 | 17 => x = .bool false
 | _ => True
theorem PhiSt13A.keep {Al : Option Addr} {kl cl b off n i : Nat} {m : MM} {p q : PC} {s : Int} {gm gp : Nat} : ∀ (w w' : World), Below w.heap.size w w' → ∀ j x, PhiSt13A Al kl cl b off n i m p q s gm gp j w x → PhiSt13A Al kl cl b off n i m p q s gm gp j w' x := by
 intro w w' hb j x h; unfold PhiSt13A at h ⊢; exact h
def PhiSt13B (Al : Option Addr) (kl cl b off n i : Nat) (m : MM) (p q : PC) (s : Int) (gm gp : Nat) (j : Nat) (w : World) (x : Value) : Prop :=
 match j with
 | 0 => x = .int .i64 (i : Nat)
 | 1 => x = .int .i64 (n : Nat)
 | 2 => x = .bool true
 | 3 => x = .bool true
 | 4 => x = .slice Al kl cl
 | 5 => x = .int .i64 (n : Nat)
 | 6 => x = .pointer (some ⟨b, off + n * 24, none⟩)
 | 7 => x = .agg (cellsP p).toArray
 | 8 => x = .agg (cellsP q).toArray
 | 9 => x = .bool false
 | 10 => x = .bool false
 | 11 => x = .bool false
 | 12 => x = undef
 | 13 => x = undef
 | 14 => x = undef
 | 15 => x = undef
 | 16 => x = undef
 | 17 => x = .bool false
 | _ => True
theorem PhiSt13B.keep {Al : Option Addr} {kl cl b off n i : Nat} {m : MM} {p q : PC} {s : Int} {gm gp : Nat} : ∀ (w w' : World), Below w.heap.size w w' → ∀ j x, PhiSt13B Al kl cl b off n i m p q s gm gp j w x → PhiSt13B Al kl cl b off n i m p q s gm gp j w' x := by
 intro w w' hb j x h; unfold PhiSt13B at h ⊢; exact h
def PhiSt13C (Al : Option Addr) (kl cl b off n i : Nat) (m : MM) (p q : PC) (s : Int) (gm gp : Nat) (j : Nat) (w : World) (x : Value) : Prop :=
 match j with
 | 0 => x = .int .i64 (i : Nat)
 | 1 => x = .int .i64 (n : Nat)
 | 2 => x = .bool true
 | 3 => x = .bool true
 | 4 => x = .slice Al kl cl
 | 5 => x = .int .i64 (n : Nat)
 | 6 => x = .pointer (some ⟨b, off + n * 24, none⟩)
 | 7 => x = .agg (cellsP p).toArray
 | 8 => x = .agg (cellsP q).toArray
 | 9 => x = .bool true
 | 10 => x = .bool true
 | 11 => x = .bool true
 | 12 => x = .agg (cellsM m).toArray
 | 13 => x = .agg (cellsP q).toArray
 | 14 => x = .int .i64 (i : Nat)
 | 15 => x = .int .i64 s
 | 16 => x = .bool (s == 0)
 | 17 => x = .bool (s == 0)
 | _ => True
theorem PhiSt13C.keep {Al : Option Addr} {kl cl b off n i : Nat} {m : MM} {p q : PC} {s : Int} {gm gp : Nat} : ∀ (w w' : World), Below w.heap.size w w' → ∀ j x, PhiSt13C Al kl cl b off n i m p q s gm gp j w x → PhiSt13C Al kl cl b off n i m p q s gm gp j w' x := by
 intro w w' hb j x h; unfold PhiSt13C at h ⊢; exact h
set_option maxRecDepth 100000 in
set_option maxHeartbeats 8000000 in
theorem state_n (Al : Option Addr) (kl cl : Nat) (k : Int) (m : MM) (ps : List PC) (Lf : Nat → List Nat × List Nat) (Ev : Nat → Int) (dg : Nat → List Int) (dm br : List Int) (w : World) (hp : RowS cellsP w Al kl ps)
  (HE : Hid (EscOk w ps Lf)) (HV : Hid (∀ (n : Nat) p, ps[n]? = some p → PVal p (Lf n).1 (Lf n).2 (Ev n))) (HD : Hid (∀ (n : Nat) p, ps[n]? = some p → DgOk (pdg p) (dg n))) (hdm : DgOk (mdg m) dm) (hbr : RowS intC w m.A m.k br) :
  Calls Tryz.prog 14 #[.slice Al kl cl, .int .i64 k, .int .i64 m.tick, .agg (mdg m).toArray, .slice m.A m.k m.c] w fun e w' => ∃ s er : Int, e = .returned (.tuple #[.int .i64 s, .int .i64 er]) ∧ Hid (StP kl m.tick dm br Ev Lf dg ps k s er) ∧ Below w.heap.size w w' := by
 have hkl := hp.2.1; have hkl2 := hp.2.2; by_cases hbad : k < 0 ∨ (kl : Int) ≤ k
 ·have HS : Hid (StP kl m.tick dm br Ev Lf dg ps k 0 5) := .inl ⟨hbad, rfl, rfl⟩
  rcases hbad with h | h
  ·have d1 : decide (k < 0) = true := by simpa using h
   go_enter Tryz.func14, Tryz.ntmps14
   go_wp2_with fail
   go_ret2
   exact ⟨0, 5, rfl, HS, bA _ _⟩
  ·have d1 : decide (k < 0) = false := by simp; omega
   have d2 : decide (k ≥ (kl : Int)) = true := by simpa using h
   go_enter Tryz.func14, Tryz.ntmps14
   go_wp2_with fail
   go_ret2
   exact ⟨0, 5, rfl, HS, bA _ _⟩
 ·obtain ⟨n, rfl⟩ := Int.eq_ofNat_of_zero_le (show 0 ≤ k by omega); have hn : n < kl := by omega
  have hnl : n < ps.length := by omega
  have d1 : decide ((n : Int) < 0) = false := by simp
  have d2 : decide ((n : Int) ≥ (kl : Int)) = false := by simp; omega
  have ln : (n : Int) < (kl : Int) := by omega
  have HKL := Lib.hid hkl; clear hbad hkl; obtain ⟨p, HP⟩ : ∃ p, Hid (ps[n] = p ∧ ps[n]? = some p) := ⟨_, rfl, List.getElem?_eq_getElem hnl⟩; have HEn := Lib.hid (HE.out n p HP.out.2); have hdpn := HD.out n p HP.out.2; have HVn := Lib.hid (HV.out n p HP.out.2); obtain ⟨W, HW⟩ : ∃ W, Hid (W = w.alloc (.cells (mdg m).toArray 31)) := ⟨_, rfl⟩; have hbW : Below w.heap.size w W := by rw [HW.out]; exact bA _ _
  have BD : Blk W w.heap.size 31 (mdg m).toArray := by rw [HW.out]; exact Blk.new _ _ _
  obtain ⟨b, off, rfl, HC0⟩ := (hp.below hbW).at_ cellsP_len (by omega) hn hnl; rw [HP.out.1] at HC0
  go_enter Tryz.func14, Tryz.ntmps14
  go_upto_region 1 with fail; rw [← HW.out]
  go_wp2_with (first | (refine wpList_load_mid rfl 33 (.tmp 27) rfl b (off + n * 24) rfl (cellsP p) _ (fun j v h => HC0.out j v h) Tryz.underlying33 rfl infoP ?_; simp only [Act.put, sA, sB, sC]))
  refine (pvalid_n p (Lf n).1 (Lf n).2 _ (HEn.out.1.below hbW) HEn.out.2.1 HEn.out.2.2).mono ?_; rintro e w2 ⟨E, rfl, HX, hb2⟩; have hEE : E = Ev n := HX.out.uniq HVn.out; have HEE := Lib.hid hEE; clear hEE HX; have hbw2 := Below.tr hbW hb2; by_cases hE : E = 0
  ·have h0 : (E != 0) = false := by simpa using hE
   have HE0 : Hid (Ev n = 0) := by show _ = _; rw [← HEE.out]; exact hE
   have BD := Blk.below BD hb2 BD.lt; have HONM := Lib.hid (mm_one hdm); clear hE HEE
   go_upto_region 7 with (first | (refine wpList_load_mid rfl 31 (.tmp 8) rfl w.heap.size 0 rfl (mdg m) _ (blk_range BD) Tryz.underlying31 rfl infoMd ?_; simp only [Act.put, sA, sB, sC]) | (refine wpList_buildW rfl 90 [(0, .tmp 33), (1, .tmp 34), (2, .tmp 35)] (by rfl) (cellsM m).toArray [(0, .int .i64 m.tick), (1, .agg (mdg m).toArray), (2, .slice m.A m.k m.c)] (by rfl) built_mm ?_; simp only [Act.put, sA, sB, sC]) | (refine wpList_store_mid rfl 90 (.tmp 13) (.tmp 36) rfl w2.heap.size 0 (cellsM m).toArray rfl rfl (there_new _ _ _ 18 (by simp)) infoMs HONM.out ?_; rw [setCells_new]; rotate_left; rfl))
   refine wp_name ?_; intro v7 HV7; have hbv : Below w2.heap.size w2 v7 := by rw [HV7.out]; exact bA _ _
   have HBM : Hid (Blk v7 w2.heap.size 90 (cellsM m).toArray) := by
    show Blk _ _ _ _
    rw [HV7.out]; exact Blk.new _ _ _
   have hbw7 := Below.tr hbw2 hbv; have HC : Hid (∀ j v, (cellsP p)[j]? = some v → v7.cell? ⟨b, off + n * 24 + j, none⟩ = some v) := fun j v h => cell_keep (Below.tr hb2 hbv) (HC0.out j v h)
   have hbr4 := hbr.below hbw7; generalize w2.heap.size = gm at HBM; obtain ⟨s, HSN⟩ : ∃ s, Hid (s = stN m.tick dm br p (dg n) (n : Int)) := ⟨_, rfl⟩; clear HV7 hbv BD HONM hb2 hbw2 hbW; refine region_invF (PhiSt7 (some ⟨b, off, none⟩) kl cl b off n m p s) (fun w w' => Below w.heap.size w w') (fun W => Below v7.heap.size v7 W) (by kernel_rfl) (by kernel_rfl) (by kernel_rfl) PhiSt7.keep (fun _ _ hR hS => Below.tr hS hR) (bD _) (fun vs => by simp only [fillR, Act.put, sA, sB, sC, Nat.zero_add, Nat.reduceAdd]; rfl) ?_ ?_
   ·refine sK ?_ (sK ?_ (sK ?_ (sK ?_ (sK ?_ (sK ?_ (sK ?_ (sK ?_ (sZ))))))))
    ·as_aux_lemma =>
     intro vs W hS hdep K hK; refine ⟨?_⟩; simp only [Act.put, sA, sB, sC, Nat.zero_add, Nat.reduceAdd] at hK ⊢; rw [if_pos (by rfl)]; refine wp_load_mid 90 (.tmp 13) (by rfl) gm (0) (by rfl) (cellsM m) _ (blk_range (Blk.below HBM.out hS HBM.out.lt)) Tryz.underlying90 (by rfl) infoM ?_; simp only [Act.put, sA, sB, sC]; with_reducible refine hK _ _ (Below.refl _ _) ?_
     exact rfl
    ·as_aux_lemma =>
     intro vs W hS hdep K hK; refine ⟨?_⟩; simp only [Act.put, sA, sB, sC, Nat.zero_add, Nat.reduceAdd] at hK ⊢; go_simp; with_reducible refine hK _ _ (Below.refl _ _) ?_
     exact rfl
    ·as_aux_lemma =>
     intro vs W hS hdep K hK; refine ⟨?_⟩; simp only [Act.put, sA, sB, sC, Nat.zero_add, Nat.reduceAdd] at hK ⊢; go_simp; with_reducible refine hK _ _ (Below.refl _ _) ?_
     exact rfl
    ·as_aux_lemma =>
     intro vs W hS hdep K hK; have d0 := hdep ⟨1, .data⟩ (by simp) rfl; simp only [PhiSt7] at d0; have d1 := hdep ⟨2, .data⟩ (by simp) rfl; simp only [PhiSt7] at d1; refine ⟨?_⟩; simp only [Act.put, sA, sB, sC, Nat.zero_add, Nat.reduceAdd, d0, d1] at hK ⊢; go_simp; with_reducible refine hK _ _ (Below.refl _ _) ?_
     exact rfl
    ·as_aux_lemma =>
     intro vs W hS hdep K hK; have d0 := hdep ⟨3, .data⟩ (by simp) rfl; simp only [PhiSt7] at d0; refine ⟨?_⟩; simp only [Act.put, sA, sB, sC, Nat.zero_add, Nat.reduceAdd, d0] at hK ⊢; rw [if_pos (by rfl)]; refine wp_load_mid 33 (.tmp 40) (by rfl) b (off + n * 24) (by rfl) (cellsP p) _ (fun j v h => cell_keep hS (HC.out j v h)) Tryz.underlying33 (by rfl) infoP ?_; simp only [Act.put, sA, sB, sC]; with_reducible refine hK _ _ (Below.refl _ _) ?_
     exact rfl
    ·as_aux_lemma =>
     intro vs W hS hdep K hK; refine ⟨?_⟩; simp only [Act.put, sA, sB, sC, Nat.zero_add, Nat.reduceAdd] at hK ⊢; go_simp; with_reducible refine hK _ _ (Below.refl _ _) ?_
     exact rfl
    ·as_aux_lemma =>
     intro vs W hS hdep K hK; have d0 := hdep ⟨0, .data⟩ (by simp) rfl; simp only [PhiSt7] at d0; have d1 := hdep ⟨4, .data⟩ (by simp) rfl; simp only [PhiSt7] at d1; have d2 := hdep ⟨5, .data⟩ (by simp) rfl; simp only [PhiSt7] at d2; refine ⟨?_⟩; simp only [Act.put, sA, sB, sC, Nat.zero_add, Nat.reduceAdd, d0, d1, d2] at hK ⊢; go_simp; refine (mstate_n m p n dm (dg n) br hdm hdpn _ (hbr4.below hS)).mono ?_; rintro e w' ⟨rfl, hb⟩; rw [← HSN.out]; go_wp2_with fail; with_reducible refine hK _ _ hb ?_
     exact rfl
    ·as_aux_lemma =>
     intro vs W hS hdep K hK; have d0 := hdep ⟨6, .data⟩ (by simp) rfl; simp only [PhiSt7] at d0; refine ⟨?_⟩; simp only [Act.put, sA, sB, sC, Nat.zero_add, Nat.reduceAdd, d0] at hK ⊢; go_simp; with_reducible refine hK _ _ (Below.refl _ _) ?_
     exact rfl
   ·intro vs7 w7 hS hv; have u7 := hv 7 (by simp); simp only [PhiSt7] at u7; simp only [Act.put, sA, sB, sC, Nat.zero_add, Nat.reduceAdd, u7]; clear u7 hv; have HSA : Hid (stA m.tick dm br dg ps n = s) := by show _ = _; unfold stA; rw [HP.out.2, HSN.out]
    have hbz := Below.tr hbw7 hS; by_cases hs : s = 0
    ·have hs0 : (s != 0) = false := by simpa using hs
     have HS0 : Hid (stA m.tick dm br dg ps n = 0) := HSA.out.trans hs; have HBM := Lib.hid (Blk.below HBM.out hS HBM.out.lt); clear hs HSA HSN hbw7 hS hbr4 HC; go_wp2_with fail
     go_loopg [49] kl (fun mm x wr => ∃ i : Nat, x = .int .i64 i ∧ i + mm = kl ∧ Hid (∀ j, j < i → hitA m.tick dm br Ev Lf dg ps n j = false) ∧ Below w7.heap.size w7 wr)
     case atStart => exact ⟨0, rfl, by omega, fun j h => absurd h (Nat.not_lt_zero _), Below.refl _ _⟩
     case round =>
      obtain ⟨i, rfl, him, HN, hbe⟩ := hrel; by_cases hi : i < kl
      ·have t1 : decide ((i : Int) < (kl : Int)) = true := by simp; omega
       have li : (i : Int) < (kl : Int) := by omega
       have hil : i < ps.length := by have := HKL.out; omega
       obtain ⟨q, HQ⟩ : ∃ q, Hid (ps[i] = q ∧ ps[i]? = some q) := ⟨_, rfl, List.getElem?_eq_getElem hil⟩; have HEi := Lib.hid (HE.out i q HQ.out.2); have hdpi := HD.out i q HQ.out.2; have HVi := Lib.hid (HV.out i q HQ.out.2); have hbz13 := Below.tr hbz hbe; obtain ⟨b', off', hA', HCq⟩ := (hp.below hbz13).at_ cellsP_len (by omega) hi hil; injection hA' with hA'; injection hA' with hA1 hA2; subst hA1 hA2; rw [HQ.out.1] at HCq; have HONQ := Lib.hid (pp_one hdpi HEi.out.1)
       go_upto_region 13 with (first | (refine wpList_load_mid rfl 33 (.tmp 52) rfl b (off + i * 24) rfl (cellsP q) _ (fun j v h => HCq.out j v h) Tryz.underlying33 rfl infoP ?_; simp only [Act.put, sA, sB, sC]) | (refine wpList_store_mid rfl 33 (.tmp 16) (.tmp 53) rfl wr.heap.size 0 (cellsP q).toArray rfl rfl (there_new _ _ _ 24 (by simp)) infoPs HONQ.out ?_; rw [setCells_new]; rotate_left; rfl))
       refine wp_name ?_; intro v13 HV13; have hbv : Below wr.heap.size wr v13 := by rw [HV13.out]; exact bA _ _
       have HBP : Hid (Blk v13 wr.heap.size 33 (cellsP q).toArray) := by
        show Blk _ _ _ _
        rw [HV13.out]; exact Blk.new _ _ _
       generalize wr.heap.size = gp at HBP; have hb13 := Below.tr hbe hbv; have hbw13 := Below.tr hbz13 hbv; have HBM13 := Lib.hid (Blk.below HBM.out hb13 HBM.out.lt); obtain ⟨b', off', hA', HC13⟩ := (hp.below hbw13).at_ cellsP_len (by omega) hn hnl; injection hA' with hA'; injection hA' with hA1 hA2; subst hA1 hA2; rw [HP.out.1] at HC13; have HEn : Hid (RtL v13 (.agg #[p.b1, p.b2]) (Lf n).1 (Lf n).2 ∧ p.test.size ≤ 9223372036854775807 ∧ p.wh.size ≤ 9223372036854775807) := ⟨HEn.out.1.below hbw13, HEn.out.2⟩; have HEi : Hid (RtL v13 (.agg #[q.b1, q.b2]) (Lf i).1 (Lf i).2 ∧ q.test.size ≤ 9223372036854775807 ∧ q.wh.size ≤ 9223372036854775807) := ⟨HEi.out.1.below hbw13, HEi.out.2⟩; have hbr13 := hbr.below hbw13; obtain ⟨s, HSI⟩ : ∃ s, Hid (s = stN m.tick dm br q (dg i) (i : Int)) := ⟨_, rfl⟩; have HSA : Hid (stA m.tick dm br dg ps i = s) := by show _ = _; unfold stA; rw [HQ.out.2, HSI.out]
       clear HV13 hbv HCq HONQ hbe; by_cases hni : i = n
       ·have hne : ((i : Int) != (n : Int)) = false := by rw [hni]; simp
        have HN2 : Hid (∀ j, j < i + 1 → hitA m.tick dm br Ev Lf dg ps n j = false) := fun j hj => by
         rcases Nat.lt_or_ge j i with h | h
         ·exact HN.out j h
         ·rw [show j = i by omega, hni]; unfold hitA; simp
        clear hni; refine region_invF (PhiSt13A (some ⟨b, off, none⟩) kl cl b off n i m p q s gm gp) (fun w w' => Below w.heap.size w w') (fun W => Below v13.heap.size v13 W) (by kernel_rfl) (by kernel_rfl) (by kernel_rfl) PhiSt13A.keep (fun _ _ hR hS => Below.tr hS hR) (bD _) (fun vs => by simp only [fillR, Act.put, sA, sB, sC, Nat.zero_add, Nat.reduceAdd]; rfl) ?_ ?_
        ·refine sK ?_ (sK ?_ (sK ?_ (sK ?_ (sK ?_ (sK ?_ (sK ?_ (sK ?_ (sK ?_ (sK ?_ (sK ?_ (sK ?_ (sK ?_ (sK ?_ (sK ?_ (sK ?_ (sK ?_ (sK ?_ (sZ))))))))))))))))))
         ·as_aux_lemma =>
          intro vs W hS hdep K hK; refine ⟨?_⟩; simp only [Act.put, sA, sB, sC, Nat.zero_add, Nat.reduceAdd] at hK ⊢; go_simp; with_reducible refine hK _ _ (Below.refl _ _) ?_
          exact rfl
         ·as_aux_lemma =>
          intro vs W hS hdep K hK; refine ⟨?_⟩; simp only [Act.put, sA, sB, sC, Nat.zero_add, Nat.reduceAdd] at hK ⊢; go_simp; with_reducible refine hK _ _ (Below.refl _ _) ?_
          exact rfl
         ·as_aux_lemma =>
          intro vs W hS hdep K hK; have d0 := hdep ⟨0, .data⟩ (by simp) rfl; simp only [PhiSt13A] at d0; have d1 := hdep ⟨1, .data⟩ (by simp) rfl; simp only [PhiSt13A] at d1; refine ⟨?_⟩; simp only [Act.put, sA, sB, sC, Nat.zero_add, Nat.reduceAdd, d0, d1] at hK ⊢; go_simp; with_reducible refine hK _ _ (Below.refl _ _) ?_
          exact rfl
         ·as_aux_lemma =>
          intro vs W hS hdep K hK; have d0 := hdep ⟨2, .data⟩ (by simp) rfl; simp only [PhiSt13A] at d0; refine ⟨?_⟩; simp only [Act.put, sA, sB, sC, Nat.zero_add, Nat.reduceAdd, d0] at hK ⊢; go_simp; with_reducible refine hK _ _ (Below.refl _ _) ?_
          exact rfl
         ·as_aux_lemma =>
          intro vs W hS hdep K hK; have d0 := hdep ⟨3, .guard⟩ (by simp) rfl; simp only [PhiSt13A] at d0; refine ⟨?_⟩; simp only [Act.put, sA, sB, sC, Nat.zero_add, Nat.reduceAdd, d0] at hK ⊢; go_simp
          try rw [if_neg (by simp [undef])]
          with_reducible refine hK _ _ (Below.refl _ _) ?_
          exact rfl
         ·as_aux_lemma =>
          intro vs W hS hdep K hK; have d0 := hdep ⟨3, .guard⟩ (by simp) rfl; simp only [PhiSt13A] at d0; refine ⟨?_⟩; simp only [Act.put, sA, sB, sC, Nat.zero_add, Nat.reduceAdd, d0] at hK ⊢; go_simp
          try rw [if_neg (by simp [undef])]
          with_reducible refine hK _ _ (Below.refl _ _) ?_
          exact rfl
         ·as_aux_lemma =>
          intro vs W hS hdep K hK; have d0 := hdep ⟨3, .guard⟩ (by simp) rfl; simp only [PhiSt13A] at d0; refine ⟨?_⟩; simp only [Act.put, sA, sB, sC, Nat.zero_add, Nat.reduceAdd, d0] at hK ⊢; go_simp
          try rw [if_neg (by simp [undef])]
          with_reducible refine hK _ _ (Below.refl _ _) ?_
          exact rfl
         ·as_aux_lemma =>
          intro vs W hS hdep K hK; have d0 := hdep ⟨3, .guard⟩ (by simp) rfl; simp only [PhiSt13A] at d0; refine ⟨?_⟩; simp only [Act.put, sA, sB, sC, Nat.zero_add, Nat.reduceAdd, d0] at hK ⊢; go_simp
          try rw [if_neg (by simp [undef])]
          with_reducible refine hK _ _ (Below.refl _ _) ?_
          exact rfl
         ·as_aux_lemma =>
          intro vs W hS hdep K hK; have d0 := hdep ⟨3, .guard⟩ (by simp) rfl; simp only [PhiSt13A] at d0; refine ⟨?_⟩; simp only [Act.put, sA, sB, sC, Nat.zero_add, Nat.reduceAdd, d0] at hK ⊢; go_simp
          try rw [if_neg (by simp [undef])]
          with_reducible refine hK _ _ (Below.refl _ _) ?_
          exact rfl
         ·as_aux_lemma =>
          intro vs W hS hdep K hK; have d0 := hdep ⟨3, .guard⟩ (by simp) rfl; simp only [PhiSt13A] at d0; refine ⟨?_⟩; simp only [Act.put, sA, sB, sC, Nat.zero_add, Nat.reduceAdd, d0] at hK ⊢; go_simp
          try rw [if_neg (by simp [undef])]
          with_reducible refine hK _ _ (Below.refl _ _) ?_
          exact rfl
         ·as_aux_lemma =>
          intro vs W hS hdep K hK; have d0 := hdep ⟨3, .data⟩ (by simp) rfl; simp only [PhiSt13A] at d0; refine ⟨?_⟩; simp only [Act.put, sA, sB, sC, Nat.zero_add, Nat.reduceAdd, d0] at hK ⊢; go_simp; with_reducible refine hK _ _ (Below.refl _ _) ?_
          exact rfl
         ·as_aux_lemma =>
          intro vs W hS hdep K hK; have d0 := hdep ⟨10, .data⟩ (by simp) rfl; simp only [PhiSt13A] at d0; refine ⟨?_⟩; simp only [Act.put, sA, sB, sC, Nat.zero_add, Nat.reduceAdd, d0] at hK ⊢; go_simp; with_reducible refine hK _ _ (Below.refl _ _) ?_
          exact rfl
         ·as_aux_lemma =>
          intro vs W hS hdep K hK; have d0 := hdep ⟨11, .guard⟩ (by simp) rfl; simp only [PhiSt13A] at d0; refine ⟨?_⟩; simp only [Act.put, sA, sB, sC, Nat.zero_add, Nat.reduceAdd, d0] at hK ⊢; go_simp
          try rw [if_neg (by simp [undef])]
          with_reducible refine hK _ _ (Below.refl _ _) ?_
          exact rfl
         ·as_aux_lemma =>
          intro vs W hS hdep K hK; have d0 := hdep ⟨11, .guard⟩ (by simp) rfl; simp only [PhiSt13A] at d0; refine ⟨?_⟩; simp only [Act.put, sA, sB, sC, Nat.zero_add, Nat.reduceAdd, d0] at hK ⊢; go_simp
          try rw [if_neg (by simp [undef])]
          with_reducible refine hK _ _ (Below.refl _ _) ?_
          exact rfl
         ·as_aux_lemma =>
          intro vs W hS hdep K hK; have d0 := hdep ⟨11, .guard⟩ (by simp) rfl; simp only [PhiSt13A] at d0; refine ⟨?_⟩; simp only [Act.put, sA, sB, sC, Nat.zero_add, Nat.reduceAdd, d0] at hK ⊢; go_simp
          try rw [if_neg (by simp [undef])]
          with_reducible refine hK _ _ (Below.refl _ _) ?_
          exact rfl
         ·as_aux_lemma =>
          intro vs W hS hdep K hK; have d0 := hdep ⟨11, .guard⟩ (by simp) rfl; simp only [PhiSt13A] at d0; refine ⟨?_⟩; simp only [Act.put, sA, sB, sC, Nat.zero_add, Nat.reduceAdd, d0] at hK ⊢; go_simp
          try rw [if_neg (by simp [undef])]
          with_reducible refine hK _ _ (Below.refl _ _) ?_
          exact rfl
         ·as_aux_lemma =>
          intro vs W hS hdep K hK; have d0 := hdep ⟨11, .guard⟩ (by simp) rfl; simp only [PhiSt13A] at d0; refine ⟨?_⟩; simp only [Act.put, sA, sB, sC, Nat.zero_add, Nat.reduceAdd, d0] at hK ⊢; go_simp
          try rw [if_neg (by simp [undef])]
          with_reducible refine hK _ _ (Below.refl _ _) ?_
          exact rfl
         ·as_aux_lemma =>
          intro vs W hS hdep K hK; have d0 := hdep ⟨11, .data⟩ (by simp) rfl; simp only [PhiSt13A] at d0; refine ⟨?_⟩; simp only [Act.put, sA, sB, sC, Nat.zero_add, Nat.reduceAdd, d0] at hK ⊢; go_simp; with_reducible refine hK _ _ (Below.refl _ _) ?_
          exact rfl
        ·intro vs13 w13 hS hv; have u17 := hv 17 (by simp); simp only [PhiSt13A] at u17; simp only [Act.put, sA, sB, sC, Nat.zero_add, Nat.reduceAdd, u17]; clear u17 hv; have hbe := Below.tr hb13 hS; go_wp2_with fail
         go_roundg (gk - 1)
         case measure => omega
         case rel => exact ⟨i + 1, by go_num, by omega, HN2, hbe⟩
       ·have hne : ((i : Int) != (n : Int)) = true := by simp; omega
        have HCLG : Hid (∀ (E F : Int) (cb : Bool), (PVal p (Lf n).1 (Lf n).2 E ∧ (E = 0 → PVal q (Lf i).1 (Lf i).2 F) ∧ cb = clB E F p q (dg n) (dg i) (sameR (Lf n).1 (Lf n).2 (Lf i).1 (Lf i).2)) → cb = clA Ev Lf dg ps n i) := by
         intro E F cb h; have e1 := h.1.uniq HVn.out; have e2 := (h.2.1 (by rw [e1]; exact HE0.out)).uniq HVi.out; unfold clA; rw [HP.out.2, HQ.out.2, h.2.2, e1, e2]
        by_cases hcb : clA Ev Lf dg ps n i = true
        ·have HCL : Hid (∀ (E F : Int) (cb : Bool), (PVal p (Lf n).1 (Lf n).2 E ∧ (E = 0 → PVal q (Lf i).1 (Lf i).2 F) ∧ cb = clB E F p q (dg n) (dg i) (sameR (Lf n).1 (Lf n).2 (Lf i).1 (Lf i).2)) → cb = true) := fun E F cb h => (HCLG.out E F cb h).trans hcb
         have HHI : Hid (hitA m.tick dm br Ev Lf dg ps n i = (s == 0)) := by
          show _ = _
          unfold hitA; rw [hcb, HSA.out]; simp [hni]
         clear hcb HCLG; refine region_invF (PhiSt13C (some ⟨b, off, none⟩) kl cl b off n i m p q s gm gp) (fun w w' => Below w.heap.size w w') (fun W => Below v13.heap.size v13 W) (by kernel_rfl) (by kernel_rfl) (by kernel_rfl) PhiSt13C.keep (fun _ _ hR hS => Below.tr hS hR) (bD _) (fun vs => by simp only [fillR, Act.put, sA, sB, sC, Nat.zero_add, Nat.reduceAdd]; rfl) ?_ ?_
         ·refine sK ?_ (sK ?_ (sK ?_ (sK ?_ (sK ?_ (sK ?_ (sK ?_ (sK ?_ (sK ?_ (sK ?_ (sK ?_ (sK ?_ (sK ?_ (sK ?_ (sK ?_ (sK ?_ (sK ?_ (sK ?_ (sZ))))))))))))))))))
          ·as_aux_lemma =>
           intro vs W hS hdep K hK; refine ⟨?_⟩; simp only [Act.put, sA, sB, sC, Nat.zero_add, Nat.reduceAdd] at hK ⊢; go_simp; with_reducible refine hK _ _ (Below.refl _ _) ?_
           exact rfl
          ·as_aux_lemma =>
           intro vs W hS hdep K hK; refine ⟨?_⟩; simp only [Act.put, sA, sB, sC, Nat.zero_add, Nat.reduceAdd] at hK ⊢; go_simp; with_reducible refine hK _ _ (Below.refl _ _) ?_
           exact rfl
          ·as_aux_lemma =>
           intro vs W hS hdep K hK; have d0 := hdep ⟨0, .data⟩ (by simp) rfl; simp only [PhiSt13C] at d0; have d1 := hdep ⟨1, .data⟩ (by simp) rfl; simp only [PhiSt13C] at d1; refine ⟨?_⟩; simp only [Act.put, sA, sB, sC, Nat.zero_add, Nat.reduceAdd, d0, d1] at hK ⊢; go_simp; with_reducible refine hK _ _ (Below.refl _ _) ?_
           exact rfl
          ·as_aux_lemma =>
           intro vs W hS hdep K hK; have d0 := hdep ⟨2, .data⟩ (by simp) rfl; simp only [PhiSt13C] at d0; refine ⟨?_⟩; simp only [Act.put, sA, sB, sC, Nat.zero_add, Nat.reduceAdd, d0] at hK ⊢; go_simp; with_reducible refine hK _ _ (Below.refl _ _) ?_
           exact rfl
          ·as_aux_lemma =>
           intro vs W hS hdep K hK; have d0 := hdep ⟨3, .guard⟩ (by simp) rfl; simp only [PhiSt13C] at d0; refine ⟨?_⟩; simp only [Act.put, sA, sB, sC, Nat.zero_add, Nat.reduceAdd, d0] at hK ⊢; go_simp; with_reducible refine hK _ _ (Below.refl _ _) ?_
           exact rfl
          ·as_aux_lemma =>
           intro vs W hS hdep K hK; have d0 := hdep ⟨3, .guard⟩ (by simp) rfl; simp only [PhiSt13C] at d0; refine ⟨?_⟩; simp only [Act.put, sA, sB, sC, Nat.zero_add, Nat.reduceAdd, d0] at hK ⊢; go_simp; with_reducible refine hK _ _ (Below.refl _ _) ?_
           exact rfl
          ·as_aux_lemma =>
           intro vs W hS hdep K hK; have d0 := hdep ⟨4, .data⟩ (by simp) rfl; simp only [PhiSt13C] at d0; have d1 := hdep ⟨5, .data⟩ (by simp) rfl; simp only [PhiSt13C] at d1; have d2 := hdep ⟨3, .guard⟩ (by simp) rfl; simp only [PhiSt13C] at d2; refine ⟨?_⟩; simp only [Act.put, sA, sB, sC, Nat.zero_add, Nat.reduceAdd, d0, d1, d2] at hK ⊢; go_simp; with_reducible refine hK _ _ (Below.refl _ _) ?_
           exact rfl
          ·as_aux_lemma =>
           intro vs W hS hdep K hK; have d0 := hdep ⟨6, .data⟩ (by simp) rfl; simp only [PhiSt13C] at d0; have d1 := hdep ⟨3, .guard⟩ (by simp) rfl; simp only [PhiSt13C] at d1; refine ⟨?_⟩; simp only [Act.put, sA, sB, sC, Nat.zero_add, Nat.reduceAdd, d0, d1] at hK ⊢; rw [if_pos (by rfl)]; refine wp_load_mid 33 (.tmp 60) (by rfl) b (off + n * 24) (by rfl) (cellsP p) _ (fun j v h => cell_keep hS (HC13.out j v h)) Tryz.underlying33 (by rfl) infoP ?_; simp only [Act.put, sA, sB, sC]; with_reducible refine hK _ _ (Below.refl _ _) ?_
           exact rfl
          ·as_aux_lemma =>
           intro vs W hS hdep K hK; have d0 := hdep ⟨3, .guard⟩ (by simp) rfl; simp only [PhiSt13C] at d0; refine ⟨?_⟩; simp only [Act.put, sA, sB, sC, Nat.zero_add, Nat.reduceAdd, d0] at hK ⊢; rw [if_pos (by rfl)]; refine wp_load_mid 33 (.tmp 16) (by rfl) gp (0) (by rfl) (cellsP q) _ (blk_range (Blk.below HBP.out hS HBP.out.lt)) Tryz.underlying33 (by rfl) infoP ?_; simp only [Act.put, sA, sB, sC]; with_reducible refine hK _ _ (Below.refl _ _) ?_
           exact rfl
          ·as_aux_lemma =>
           intro vs W hS hdep K hK; have d0 := hdep ⟨7, .data⟩ (by simp) rfl; simp only [PhiSt13C] at d0; have d1 := hdep ⟨8, .data⟩ (by simp) rfl; simp only [PhiSt13C] at d1; have d2 := hdep ⟨3, .guard⟩ (by simp) rfl; simp only [PhiSt13C] at d2; refine ⟨?_⟩; simp only [Act.put, sA, sB, sC, Nat.zero_add, Nat.reduceAdd, d0, d1, d2] at hK ⊢; go_simp; refine (clash_n p q (Lf n).1 (Lf n).2 (Lf i).1 (Lf i).2 (dg n) (dg i) _ (HEn.out.1.below hS) (HEi.out.1.below hS) HEn.out.2.1 HEn.out.2.2 HEi.out.2.1 HEi.out.2.2 hdpn hdpi).mono ?_; rintro e w' ⟨E, F, cb, rfl, HX, hb⟩; obtain rfl : cb = true := HCL.out E F cb HX.out; clear HX; go_wp2_with fail; with_reducible refine hK _ _ hb ?_
           exact rfl
          ·as_aux_lemma =>
           intro vs W hS hdep K hK; have d0 := hdep ⟨3, .data⟩ (by simp) rfl; simp only [PhiSt13C] at d0; have d1 := hdep ⟨9, .data⟩ (by simp) rfl; simp only [PhiSt13C] at d1; refine ⟨?_⟩; simp only [Act.put, sA, sB, sC, Nat.zero_add, Nat.reduceAdd, d0, d1] at hK ⊢; go_simp; with_reducible refine hK _ _ (Below.refl _ _) ?_
           exact rfl
          ·as_aux_lemma =>
           intro vs W hS hdep K hK; have d0 := hdep ⟨10, .data⟩ (by simp) rfl; simp only [PhiSt13C] at d0; refine ⟨?_⟩; simp only [Act.put, sA, sB, sC, Nat.zero_add, Nat.reduceAdd, d0] at hK ⊢; go_simp; with_reducible refine hK _ _ (Below.refl _ _) ?_
           exact rfl
          ·as_aux_lemma =>
           intro vs W hS hdep K hK; have d0 := hdep ⟨11, .guard⟩ (by simp) rfl; simp only [PhiSt13C] at d0; refine ⟨?_⟩; simp only [Act.put, sA, sB, sC, Nat.zero_add, Nat.reduceAdd, d0] at hK ⊢; rw [if_pos (by rfl)]; refine wp_load_mid 90 (.tmp 13) (by rfl) gm (0) (by rfl) (cellsM m) _ (blk_range (Blk.below HBM13.out hS HBM13.out.lt)) Tryz.underlying90 (by rfl) infoM ?_; simp only [Act.put, sA, sB, sC]; with_reducible refine hK _ _ (Below.refl _ _) ?_
           exact rfl
          ·as_aux_lemma =>
           intro vs W hS hdep K hK; have d0 := hdep ⟨11, .guard⟩ (by simp) rfl; simp only [PhiSt13C] at d0; refine ⟨?_⟩; simp only [Act.put, sA, sB, sC, Nat.zero_add, Nat.reduceAdd, d0] at hK ⊢; rw [if_pos (by rfl)]; refine wp_load_mid 33 (.tmp 16) (by rfl) gp (0) (by rfl) (cellsP q) _ (blk_range (Blk.below HBP.out hS HBP.out.lt)) Tryz.underlying33 (by rfl) infoP ?_; simp only [Act.put, sA, sB, sC]; with_reducible refine hK _ _ (Below.refl _ _) ?_
           exact rfl
          ·as_aux_lemma =>
           intro vs W hS hdep K hK; have d0 := hdep ⟨11, .guard⟩ (by simp) rfl; simp only [PhiSt13C] at d0; refine ⟨?_⟩; simp only [Act.put, sA, sB, sC, Nat.zero_add, Nat.reduceAdd, d0] at hK ⊢; go_simp; with_reducible refine hK _ _ (Below.refl _ _) ?_
           exact rfl
          ·as_aux_lemma =>
           intro vs W hS hdep K hK; have d0 := hdep ⟨12, .data⟩ (by simp) rfl; simp only [PhiSt13C] at d0; have d1 := hdep ⟨13, .data⟩ (by simp) rfl; simp only [PhiSt13C] at d1; have d2 := hdep ⟨14, .data⟩ (by simp) rfl; simp only [PhiSt13C] at d2; have d3 := hdep ⟨11, .guard⟩ (by simp) rfl; simp only [PhiSt13C] at d3; refine ⟨?_⟩; simp only [Act.put, sA, sB, sC, Nat.zero_add, Nat.reduceAdd, d0, d1, d2, d3] at hK ⊢; go_simp; refine (mstate_n m q i dm (dg i) br hdm hdpi _ (hbr13.below hS)).mono ?_; rintro e w' ⟨rfl, hb⟩; rw [← HSI.out]; go_wp2_with fail; with_reducible refine hK _ _ hb ?_
           exact rfl
          ·as_aux_lemma =>
           intro vs W hS hdep K hK; have d0 := hdep ⟨15, .data⟩ (by simp) rfl; simp only [PhiSt13C] at d0; have d1 := hdep ⟨11, .guard⟩ (by simp) rfl; simp only [PhiSt13C] at d1; refine ⟨?_⟩; simp only [Act.put, sA, sB, sC, Nat.zero_add, Nat.reduceAdd, d0, d1] at hK ⊢; go_simp; with_reducible refine hK _ _ (Below.refl _ _) ?_
           exact rfl
          ·as_aux_lemma =>
           intro vs W hS hdep K hK; have d0 := hdep ⟨11, .data⟩ (by simp) rfl; simp only [PhiSt13C] at d0; have d1 := hdep ⟨16, .data⟩ (by simp) rfl; simp only [PhiSt13C] at d1; refine ⟨?_⟩; simp only [Act.put, sA, sB, sC, Nat.zero_add, Nat.reduceAdd, d0, d1] at hK ⊢; go_simp; with_reducible refine hK _ _ (Below.refl _ _) ?_
           exact rfl
         ·intro vs13 w13 hS hv; have u17 := hv 17 (by simp); simp only [PhiSt13C] at u17; simp only [Act.put, sA, sB, sC, Nat.zero_add, Nat.reduceAdd, u17]; clear u17 hv; have hbe := Below.tr hb13 hS; by_cases hs : s = 0
          ·have hs2 : (s == 0) = true := by simpa using hs
           have HF : Hid (StP kl m.tick dm br Ev Lf dg ps (n : Int) 5 0) := by
            refine .inr ⟨n, rfl, hn, .inr ⟨HE0.out, rfl, ?_⟩⟩; unfold stF; rw [if_neg (by rw [HS0.out]; simp), if_pos]; rw [List.any_eq_true]; exact ⟨i, List.mem_range.2 hil, by rw [HHI.out]; exact hs2⟩
           clear hs; go_wp2_with fail
           go_ret2
           exact ⟨5, 0, rfl, HF, Below.tr hbz hbe⟩
          ·have hs2 : (s == 0) = false := by simpa using hs
           have HN2 : Hid (∀ j, j < i + 1 → hitA m.tick dm br Ev Lf dg ps n j = false) := fun j hj => by
            rcases Nat.lt_or_ge j i with h | h
            ·exact HN.out j h
            ·rw [show j = i by omega, HHI.out]; exact hs2
           clear hs; go_wp2_with fail
           go_roundg (gk - 1)
           case measure => omega
           case rel => exact ⟨i + 1, by go_num, by omega, HN2, hbe⟩
        ·have hcb : clA Ev Lf dg ps n i = false := by simpa using hcb
         have HCL : Hid (∀ (E F : Int) (cb : Bool), (PVal p (Lf n).1 (Lf n).2 E ∧ (E = 0 → PVal q (Lf i).1 (Lf i).2 F) ∧ cb = clB E F p q (dg n) (dg i) (sameR (Lf n).1 (Lf n).2 (Lf i).1 (Lf i).2)) → cb = false) := fun E F cb h => (HCLG.out E F cb h).trans hcb
         have HN2 : Hid (∀ j, j < i + 1 → hitA m.tick dm br Ev Lf dg ps n j = false) := fun j hj => by
          rcases Nat.lt_or_ge j i with h | h
          ·exact HN.out j h
          ·rw [show j = i by omega]; unfold hitA; rw [hcb]; simp
         clear hcb HCLG; refine region_invF (PhiSt13B (some ⟨b, off, none⟩) kl cl b off n i m p q s gm gp) (fun w w' => Below w.heap.size w w') (fun W => Below v13.heap.size v13 W) (by kernel_rfl) (by kernel_rfl) (by kernel_rfl) PhiSt13B.keep (fun _ _ hR hS => Below.tr hS hR) (bD _) (fun vs => by simp only [fillR, Act.put, sA, sB, sC, Nat.zero_add, Nat.reduceAdd]; rfl) ?_ ?_
         ·refine sK ?_ (sK ?_ (sK ?_ (sK ?_ (sK ?_ (sK ?_ (sK ?_ (sK ?_ (sK ?_ (sK ?_ (sK ?_ (sK ?_ (sK ?_ (sK ?_ (sK ?_ (sK ?_ (sK ?_ (sK ?_ (sZ))))))))))))))))))
          ·as_aux_lemma =>
           intro vs W hS hdep K hK; refine ⟨?_⟩; simp only [Act.put, sA, sB, sC, Nat.zero_add, Nat.reduceAdd] at hK ⊢; go_simp; with_reducible refine hK _ _ (Below.refl _ _) ?_
           exact rfl
          ·as_aux_lemma =>
           intro vs W hS hdep K hK; refine ⟨?_⟩; simp only [Act.put, sA, sB, sC, Nat.zero_add, Nat.reduceAdd] at hK ⊢; go_simp; with_reducible refine hK _ _ (Below.refl _ _) ?_
           exact rfl
          ·as_aux_lemma =>
           intro vs W hS hdep K hK; have d0 := hdep ⟨0, .data⟩ (by simp) rfl; simp only [PhiSt13B] at d0; have d1 := hdep ⟨1, .data⟩ (by simp) rfl; simp only [PhiSt13B] at d1; refine ⟨?_⟩; simp only [Act.put, sA, sB, sC, Nat.zero_add, Nat.reduceAdd, d0, d1] at hK ⊢; go_simp; with_reducible refine hK _ _ (Below.refl _ _) ?_
           exact rfl
          ·as_aux_lemma =>
           intro vs W hS hdep K hK; have d0 := hdep ⟨2, .data⟩ (by simp) rfl; simp only [PhiSt13B] at d0; refine ⟨?_⟩; simp only [Act.put, sA, sB, sC, Nat.zero_add, Nat.reduceAdd, d0] at hK ⊢; go_simp; with_reducible refine hK _ _ (Below.refl _ _) ?_
           exact rfl
          ·as_aux_lemma =>
           intro vs W hS hdep K hK; have d0 := hdep ⟨3, .guard⟩ (by simp) rfl; simp only [PhiSt13B] at d0; refine ⟨?_⟩; simp only [Act.put, sA, sB, sC, Nat.zero_add, Nat.reduceAdd, d0] at hK ⊢; go_simp; with_reducible refine hK _ _ (Below.refl _ _) ?_
           exact rfl
          ·as_aux_lemma =>
           intro vs W hS hdep K hK; have d0 := hdep ⟨3, .guard⟩ (by simp) rfl; simp only [PhiSt13B] at d0; refine ⟨?_⟩; simp only [Act.put, sA, sB, sC, Nat.zero_add, Nat.reduceAdd, d0] at hK ⊢; go_simp; with_reducible refine hK _ _ (Below.refl _ _) ?_
           exact rfl
          ·as_aux_lemma =>
           intro vs W hS hdep K hK; have d0 := hdep ⟨4, .data⟩ (by simp) rfl; simp only [PhiSt13B] at d0; have d1 := hdep ⟨5, .data⟩ (by simp) rfl; simp only [PhiSt13B] at d1; have d2 := hdep ⟨3, .guard⟩ (by simp) rfl; simp only [PhiSt13B] at d2; refine ⟨?_⟩; simp only [Act.put, sA, sB, sC, Nat.zero_add, Nat.reduceAdd, d0, d1, d2] at hK ⊢; go_simp; with_reducible refine hK _ _ (Below.refl _ _) ?_
           exact rfl
          ·as_aux_lemma =>
           intro vs W hS hdep K hK; have d0 := hdep ⟨6, .data⟩ (by simp) rfl; simp only [PhiSt13B] at d0; have d1 := hdep ⟨3, .guard⟩ (by simp) rfl; simp only [PhiSt13B] at d1; refine ⟨?_⟩; simp only [Act.put, sA, sB, sC, Nat.zero_add, Nat.reduceAdd, d0, d1] at hK ⊢; rw [if_pos (by rfl)]; refine wp_load_mid 33 (.tmp 60) (by rfl) b (off + n * 24) (by rfl) (cellsP p) _ (fun j v h => cell_keep hS (HC13.out j v h)) Tryz.underlying33 (by rfl) infoP ?_; simp only [Act.put, sA, sB, sC]; with_reducible refine hK _ _ (Below.refl _ _) ?_
           exact rfl
          ·as_aux_lemma =>
           intro vs W hS hdep K hK; have d0 := hdep ⟨3, .guard⟩ (by simp) rfl; simp only [PhiSt13B] at d0; refine ⟨?_⟩; simp only [Act.put, sA, sB, sC, Nat.zero_add, Nat.reduceAdd, d0] at hK ⊢; rw [if_pos (by rfl)]; refine wp_load_mid 33 (.tmp 16) (by rfl) gp (0) (by rfl) (cellsP q) _ (blk_range (Blk.below HBP.out hS HBP.out.lt)) Tryz.underlying33 (by rfl) infoP ?_; simp only [Act.put, sA, sB, sC]; with_reducible refine hK _ _ (Below.refl _ _) ?_
           exact rfl
          ·as_aux_lemma =>
           intro vs W hS hdep K hK; have d0 := hdep ⟨7, .data⟩ (by simp) rfl; simp only [PhiSt13B] at d0; have d1 := hdep ⟨8, .data⟩ (by simp) rfl; simp only [PhiSt13B] at d1; have d2 := hdep ⟨3, .guard⟩ (by simp) rfl; simp only [PhiSt13B] at d2; refine ⟨?_⟩; simp only [Act.put, sA, sB, sC, Nat.zero_add, Nat.reduceAdd, d0, d1, d2] at hK ⊢; go_simp; refine (clash_n p q (Lf n).1 (Lf n).2 (Lf i).1 (Lf i).2 (dg n) (dg i) _ (HEn.out.1.below hS) (HEi.out.1.below hS) HEn.out.2.1 HEn.out.2.2 HEi.out.2.1 HEi.out.2.2 hdpn hdpi).mono ?_; rintro e w' ⟨E, F, cb, rfl, HX, hb⟩; obtain rfl : cb = false := HCL.out E F cb HX.out; clear HX; go_wp2_with fail; with_reducible refine hK _ _ hb ?_
           exact rfl
          ·as_aux_lemma =>
           intro vs W hS hdep K hK; have d0 := hdep ⟨3, .data⟩ (by simp) rfl; simp only [PhiSt13B] at d0; have d1 := hdep ⟨9, .data⟩ (by simp) rfl; simp only [PhiSt13B] at d1; refine ⟨?_⟩; simp only [Act.put, sA, sB, sC, Nat.zero_add, Nat.reduceAdd, d0, d1] at hK ⊢; go_simp; with_reducible refine hK _ _ (Below.refl _ _) ?_
           exact rfl
          ·as_aux_lemma =>
           intro vs W hS hdep K hK; have d0 := hdep ⟨10, .data⟩ (by simp) rfl; simp only [PhiSt13B] at d0; refine ⟨?_⟩; simp only [Act.put, sA, sB, sC, Nat.zero_add, Nat.reduceAdd, d0] at hK ⊢; go_simp; with_reducible refine hK _ _ (Below.refl _ _) ?_
           exact rfl
          ·as_aux_lemma =>
           intro vs W hS hdep K hK; have d0 := hdep ⟨11, .guard⟩ (by simp) rfl; simp only [PhiSt13B] at d0; refine ⟨?_⟩; simp only [Act.put, sA, sB, sC, Nat.zero_add, Nat.reduceAdd, d0] at hK ⊢; go_simp
           try rw [if_neg (by simp [undef])]
           with_reducible refine hK _ _ (Below.refl _ _) ?_
           exact rfl
          ·as_aux_lemma =>
           intro vs W hS hdep K hK; have d0 := hdep ⟨11, .guard⟩ (by simp) rfl; simp only [PhiSt13B] at d0; refine ⟨?_⟩; simp only [Act.put, sA, sB, sC, Nat.zero_add, Nat.reduceAdd, d0] at hK ⊢; go_simp
           try rw [if_neg (by simp [undef])]
           with_reducible refine hK _ _ (Below.refl _ _) ?_
           exact rfl
          ·as_aux_lemma =>
           intro vs W hS hdep K hK; have d0 := hdep ⟨11, .guard⟩ (by simp) rfl; simp only [PhiSt13B] at d0; refine ⟨?_⟩; simp only [Act.put, sA, sB, sC, Nat.zero_add, Nat.reduceAdd, d0] at hK ⊢; go_simp
           try rw [if_neg (by simp [undef])]
           with_reducible refine hK _ _ (Below.refl _ _) ?_
           exact rfl
          ·as_aux_lemma =>
           intro vs W hS hdep K hK; have d0 := hdep ⟨11, .guard⟩ (by simp) rfl; simp only [PhiSt13B] at d0; refine ⟨?_⟩; simp only [Act.put, sA, sB, sC, Nat.zero_add, Nat.reduceAdd, d0] at hK ⊢; go_simp
           try rw [if_neg (by simp [undef])]
           with_reducible refine hK _ _ (Below.refl _ _) ?_
           exact rfl
          ·as_aux_lemma =>
           intro vs W hS hdep K hK; have d0 := hdep ⟨11, .guard⟩ (by simp) rfl; simp only [PhiSt13B] at d0; refine ⟨?_⟩; simp only [Act.put, sA, sB, sC, Nat.zero_add, Nat.reduceAdd, d0] at hK ⊢; go_simp
           try rw [if_neg (by simp [undef])]
           with_reducible refine hK _ _ (Below.refl _ _) ?_
           exact rfl
          ·as_aux_lemma =>
           intro vs W hS hdep K hK; have d0 := hdep ⟨11, .data⟩ (by simp) rfl; simp only [PhiSt13B] at d0; refine ⟨?_⟩; simp only [Act.put, sA, sB, sC, Nat.zero_add, Nat.reduceAdd, d0] at hK ⊢; go_simp; with_reducible refine hK _ _ (Below.refl _ _) ?_
           exact rfl
         ·intro vs13 w13 hS hv; have u17 := hv 17 (by simp); simp only [PhiSt13B] at u17; simp only [Act.put, sA, sB, sC, Nat.zero_add, Nat.reduceAdd, u17]; clear u17 hv; have hbe := Below.tr hb13 hS; go_wp2_with fail
          go_roundg (gk - 1)
          case measure => omega
          case rel => exact ⟨i + 1, by go_num, by omega, HN2, hbe⟩
      ·have t1 : decide ((i : Int) < (kl : Int)) = false := by simp; omega
       have li : ¬ ((i : Int) < (kl : Int)) := by omega
       have HF : Hid (StP kl m.tick dm br Ev Lf dg ps (n : Int) 0 0) := by
        refine .inr ⟨n, rfl, hn, .inr ⟨HE0.out, rfl, ?_⟩⟩; unfold stF; rw [if_neg (by rw [HS0.out]; simp), if_neg]; rw [List.any_eq_true]; rintro ⟨j, hj, h⟩; rw [HN.out j (by have := List.mem_range.1 hj; have := HKL.out; omega)] at h
        cases h
       go_wp2_with fail
       go_ret2
       exact ⟨0, 0, rfl, HF, Below.tr hbz hbe⟩
    ·have hs0 : (s != 0) = true := by simpa using hs
     have HF : Hid (StP kl m.tick dm br Ev Lf dg ps (n : Int) s 0) := .inr ⟨n, rfl, hn, .inr ⟨HE0.out, rfl, by unfold stF; rw [if_pos (by rw [HSA.out]; exact hs), HSA.out]⟩⟩; clear hs; go_wp2_with fail
     go_ret2
     exact ⟨s, 0, rfl, HF, hbz⟩
  ·have h0 : (E != 0) = true := by simpa using hE
   have HF : Hid (StP kl m.tick dm br Ev Lf dg ps (n : Int) 0 E) := .inr ⟨n, rfl, hn, .inl ⟨by rw [← HEE.out]; exact hE, rfl, HEE.out⟩⟩; clear hE; go_wp2_with fail
   go_ret2
   exact ⟨0, E, rfl, HF, hbw2⟩
end Go.Proofs.YtijkfagkbfbpmaaGreatDoor
namespace Go.Proofs.YtijkfagkbfbpmaaGreatDoor
open Go Go.RowKit
end Go.Proofs.YtijkfagkbfbpmaaGreatDoor
namespace Go.Proofs.YtijkfagkbfbpmaaGreatDoor
open Go Go.RowKit
end Go.Proofs.YtijkfagkbfbpmaaGreatDoor
namespace Go.Proofs.YtijkfagkbfbpmaaGreatDoor
open Go Go.RowKit
end Go.Proofs.YtijkfagkbfbpmaaGreatDoor
namespace Go.Proofs.YtijkfagkbfbpmaaGreatDoor
open Go Go.RowKit
end Go.Proofs.YtijkfagkbfbpmaaGreatDoor
namespace Go.Proofs.YtijkfagkbfbpmaaGreatDoor
open Go Go.RowKit
end Go.Proofs.YtijkfagkbfbpmaaGreatDoor
namespace Go.Proofs.YtijkfagkbfbpmaaGreatDoor
open Go Go.RowKit
end Go.Proofs.YtijkfagkbfbpmaaGreatDoor
namespace Go.Proofs.YtijkfagkbfbpmaaGreatDoor
open Go Go.RowKit
section
variable {P : Program}
end
theorem RowS.set {α : Type} {f : α → List Value} {w : World} {A : Option Addr} {k : Nat} {l : List α} {p : Addr} (h : RowS f w A k l) (hb : ∀ b off, A = some ⟨b, off, none⟩ → b ≠ p.block) (u : Value) : RowS f (w.setCell p u) A k l := by
 refine ⟨fun hx => ?_, h.2⟩; obtain ⟨b, off, rfl, hc⟩ := h.1 hx; refine ⟨b, off, rfl, fun i hi => ?_⟩; rw [World.cell?_of_block (Below.heap_setCell w p u b (hb b off rfl))]; exact hc i hi
theorem Rd.drop {w : World} {b off : Nat} {xs : List Value} (h : Rd w (some ⟨b, off, none⟩) xs) (i : Nat) : Rd w (some ⟨b, off + i, none⟩) (xs.drop i) := by
 intro hx; have hne : xs ≠ [] := fun e => hx (by rw [e]; simp)
 obtain ⟨b', off', e, hc⟩ := h hne; injection e with e; injection e with e1 e2; subst e1 e2; refine ⟨b, off + i, rfl, fun j hj => ?_⟩; have hj2 : i + j < xs.length := by simp at hj; omega
 rw [List.getElem_drop, Nat.add_assoc]; exact hc _ hj2
end Go.Proofs.YtijkfagkbfbpmaaGreatDoor
namespace Go.Proofs.YtijkfagkbfbpmaaGreatDoor
open Go Go.RowKit
end Go.Proofs.YtijkfagkbfbpmaaGreatDoor
namespace Go.Proofs.YtijkfagkbfbpmaaGreatDoor
open Go Go.RowKit
theorem RtL.setB {w : World} {v : Value} {l1 l2 : List Nat} {g i : Nat} {T : TypeId} {arr : Array Value} (h : RtL w v l1 l2) (hb : Blk w g T arr) (hn : NoU arr) (u : Value) : RtL (w.setCell ⟨g, i, none⟩ u) v l1 l2 := by
 obtain ⟨A1, k1, c1, A2, k2, c2, rfl, h1, h2, e1, e2⟩ := h; exact ⟨A1, k1, c1, A2, k2, c2, rfl, h1.setB hb hn u, h2.setB hb hn u, e1, e2⟩
theorem RtL.setsB {v : Value} {l1 l2 : List Nat} {g : Nat} {T : TypeId} : ∀ (us : List Value) (o : Nat) {w : World} {arr : Array Value}, RtL w v l1 l2 → Blk w g T arr → NoU arr → (∀ u ∈ us, ∀ n, u ≠ .int .u32 n) → RtL (w.setCells g o us) v l1 l2
 | [], _, _, _, h, _, _, _ => h
 | u :: us, o, _, _, h, hb, hn, hu => RtL.setsB us (o + 1) (h.setB hb hn u) (hb.set_ o u) (hn.set (hu u (List.mem_cons_self ..))) fun x hx => hu x (List.mem_cons_of_mem _ hx)
/-- a promise by its fields, the digest's bytes as bytes -/
def promD (team : Int) (t h : ByteArray) (site : Int) (b1 b2 : Value) (fr un : Int) (r0 r1 r2 r3 r4 r5 r6 r7 r8 r9 r10 r11 r12 r13 r14 r15 : Int) : PC := ⟨team, t, h, site, b1, b2, fr, un, .int .u8 r0, .int .u8 r1, .int .u8 r2, .int .u8 r3, .int .u8 r4, .int .u8 r5, .int .u8 r6, .int .u8 r7, .int .u8 r8, .int .u8 r9, .int .u8 r10, .int .u8 r11, .int .u8 r12, .int .u8 r13, .int .u8 r14, .int .u8 r15⟩
theorem promD_no {team site fr un r0 r1 r2 r3 r4 r5 r6 r7 r8 r9 r10 r11 r12 r13 r14 r15 : Int} {t h : ByteArray} {A1 A2 : Option Addr} {k1 c1 k2 c2 : Nat} : ∀ u ∈ cellsP (promD team t h site (.slice A1 k1 c1) (.slice A2 k2 c2) fr un r0 r1 r2 r3 r4 r5 r6 r7 r8 r9 r10 r11 r12 r13 r14 r15), ∀ n, u ≠ .int .u32 n := by
 intro u hu n e; subst e; simp [cellsP, promD] at hu
theorem promD_noU {team site fr un r0 r1 r2 r3 r4 r5 r6 r7 r8 r9 r10 r11 r12 r13 r14 r15 : Int} {t h : ByteArray} {A1 A2 : Option Addr} {k1 c1 k2 c2 : Nat} : NoU (cellsP (promD team t h site (.slice A1 k1 c1) (.slice A2 k2 c2) fr un r0 r1 r2 r3 r4 r5 r6 r7 r8 r9 r10 r11 r12 r13 r14 r15)).toArray := by
 intro i n e; exact promD_no _ (List.mem_of_getElem? (by simpa using e)) n rfl
theorem promD_one {team site fr un r0 r1 r2 r3 r4 r5 r6 r7 r8 r9 r10 r11 r12 r13 r14 r15 : Int} {t h : ByteArray} {A1 A2 : Option Addr} {k1 c1 k2 c2 : Nat} : ∀ v ∈ cellsP (promD team t h site (.slice A1 k1 c1) (.slice A2 k2 c2) fr un r0 r1 r2 r3 r4 r5 r6 r7 r8 r9 r10 r11 r12 r13 r14 r15), v.oneCell' = true := by
 intro v hv; simp only [cellsP, promD, List.mem_cons, List.not_mem_nil, or_false] at hv
 rcases hv with rfl | rfl | rfl | rfl | rfl | rfl | rfl | rfl | rfl | rfl | rfl | rfl | rfl | rfl | rfl | rfl | rfl | rfl | rfl | rfl | rfl | rfl | rfl | rfl <;> rfl
theorem tdiv9_bd (n : Int) (h1 : -9223372036854775808 ≤ n) (h2 : n ≤ 9223372036854775807) : -9223372036854775808 ≤ n.tdiv 9 ∧ n.tdiv 9 ≤ 9223372036854775807 := by
 rcases Int.le_total 0 n with h | h
 ·rw [Int.tdiv_eq_ediv_of_nonneg h]; omega
 ·obtain ⟨m, rfl⟩ : ∃ m, n = -m := ⟨-n, by omega⟩; rw [Int.neg_tdiv, Int.tdiv_eq_ediv_of_nonneg (by omega)]; omega
theorem tdiv3_bd' (n : Int) (h1 : -9223372036854775808 ≤ n) (h2 : n ≤ 9223372036854775807) : -9223372036854775808 ≤ n.tdiv 3 ∧ n.tdiv 3 ≤ 9223372036854775807 := by
 rcases Int.le_total 0 n with h | h
 ·rw [Int.tdiv_eq_ediv_of_nonneg h]; omega
 ·obtain ⟨m, rfl⟩ : ∃ m, n = -m := ⟨-n, by omega⟩; rw [Int.neg_tdiv, Int.tdiv_eq_ediv_of_nonneg (by omega)]; omega
def intsA (b : Int) : Array Value := #[.int .i64 (-1), .int .i64 0, .int .i64 1, .int .i64 3, .int .i64 4, .int .i64 511, .int .i64 512, .int .i64 1048576, .int .i64 1048577, .int .i64 b]
def strsA : Array Value := #[.string ⟨#[]⟩, .string ⟨#[116, 48]⟩, .string ⟨#[45]⟩, .string ⟨#[97, 49]⟩, .string ⟨#[49, 97]⟩, .string ⟨#[65]⟩, .string ⟨#[116, 32, 48]⟩, .string ⟨#[97, 98, 99, 100, 101, 102, 103, 104, 105, 106, 107, 108, 109, 110, 111, 112]⟩, .string ⟨#[97, 98, 99, 100, 101, 102, 103, 104, 105, 106, 107, 108, 109, 110, 111, 112, 113]⟩]
theorem fill_ints {b : Int} : Instr.fill (fun i => some (i * 1, 1)) ((Array.range (10 * 1)).map ((Value.int .i64 0).cells[· % (Value.int .i64 0).cells.size]!)) [(0, .int .i64 (-1)), (1, .int .i64 0), (2, .int .i64 1), (3, .int .i64 3), (4, .int .i64 4), (5, .int .i64 511), (6, .int .i64 512), (7, .int .i64 1048576), (8, .int .i64 1048577), (9, .int .i64 b)] = some (intsA b) := by kernel_rfl
theorem fill_strs : Instr.fill (fun i => some (i * 1, 1)) ((Array.range (9 * 1)).map ((Value.string ⟨#[]⟩).cells[· % (Value.string ⟨#[]⟩).cells.size]!)) [(0, .string ⟨#[]⟩), (1, .string ⟨#[116, 48]⟩), (2, .string ⟨#[45]⟩), (3, .string ⟨#[97, 49]⟩), (4, .string ⟨#[49, 97]⟩), (5, .string ⟨#[65]⟩), (6, .string ⟨#[116, 32, 48]⟩), (7, .string ⟨#[97, 98, 99, 100, 101, 102, 103, 104, 105, 106, 107, 108, 109, 110, 111, 112]⟩), (8, .string ⟨#[97, 98, 99, 100, 101, 102, 103, 104, 105, 106, 107, 108, 109, 110, 111, 112, 113]⟩)] = some strsA := by kernel_rfl
theorem strsA_at {k : Nat} (h : k < 9) : ∃ s : ByteArray, strsA[k]? = some (.string s) ∧ s.size ≤ 100 := by
 have hc : k = 0 ∨ k = 1 ∨ k = 2 ∨ k = 3 ∨ k = 4 ∨ k = 5 ∨ k = 6 ∨ k = 7 ∨ k = 8 := by omega
 rcases hc with rfl | rfl | rfl | rfl | rfl | rfl | rfl | rfl | rfl <;> exact ⟨_, rfl, by decide⟩
theorem zeroP_noU : NoU (cellsP (promV 0 ⟨#[]⟩ ⟨#[]⟩ 0 (.slice none 0 0) (.slice none 0 0) 0 0 0)).toArray := promV_noU
theorem infoP_len {p : PC} : (Tryz.prog.info? 33).map (·.size) = some (cellsP p).length := by kernel_rfl
end Go.Proofs.YtijkfagkbfbpmaaGreatDoor
