import Derived.Test.YtijkfagkbfbpmaaGreatDoorKSt34Proof18
import Derived.Test.YtijkfagkbfbpmaaGreatDoorKSt34Proof14
import Derived.Test.YtijkfagkbfbpmaaGreatDoorKSt34Proof16
import Derived.Test.YtijkfagkbfbpmaaGreatDoorKSt34Proof17
import Derived.Deep.QuietTactic
import Derived.BigQuiet
import Derived.Test.YtijkfagkbfbpmaaGreatDoorKSt34Proof15
import Derived.Test.YtijkfagkbfbpmaaGreatDoorS0
set_option linter.unusedVariables false
set_option linter.unusedSimpArgs false
namespace Go.Proofs.YtijkfagkbfbpmaaGreatDoor
open Go Go.RowKit
/-- the state of the promise i of a list, by itself -/
def stA (tick : Int) (dm br : List Int) (dg : Nat → List Int) (ps : List PC) (i : Nat) : Int := match ps[i]? with
 | some p => stN tick dm br p (dg i) (i : Int)
 | none => 0
/-- two promises of a list contradict each other -/
def clA (Ev : Nat → Int) (Lf : Nat → List Nat × List Nat) (dg : Nat → List Int) (ps : List PC) (n i : Nat) : Bool := match ps[n]?, ps[i]? with
 | some p, some q => clB (Ev n) (Ev i) p q (dg n) (dg i) (sameR (Lf n).1 (Lf n).2 (Lf i).1 (Lf i).2)
 | _, _ => false
/-- a promise contradicts the promise n, and holds by itself -/
def hitA (tick : Int) (dm br : List Int) (Ev : Nat → Int) (Lf : Nat → List Nat × List Nat) (dg : Nat → List Int) (ps : List PC) (n i : Nat) : Bool :=
 (i != n) && clA Ev Lf dg ps n i && (stA tick dm br dg ps i == 0)
/-- the state of the promise n of a list -/
def stF (tick : Int) (dm br : List Int) (Ev : Nat → Int) (Lf : Nat → List Nat × List Nat) (dg : Nat → List Int) (ps : List PC) (n : Nat) : Int :=
 if stA tick dm br dg ps n ≠ 0 then stA tick dm br dg ps n else if (List.range ps.length).any (hitA tick dm br Ev Lf dg ps n) then 5 else 0
/-- what State says -/
def StP (kl : Nat) (tick : Int) (dm br : List Int) (Ev : Nat → Int) (Lf : Nat → List Nat × List Nat) (dg : Nat → List Int) (ps : List PC) (k s er : Int) : Prop :=
 ((k < 0 ∨ (kl : Int) ≤ k) ∧ s = 0 ∧ er = 5) ∨ ∃ n : Nat, k = (n : Int) ∧ n < kl ∧ ((Ev n ≠ 0 ∧ s = 0 ∧ er = Ev n) ∨ (Ev n = 0 ∧ er = 0 ∧ s = stF tick dm br Ev Lf dg ps n))
theorem wpList_buildW {P : Program} {ops : Array Oper} {rest : List Oper} {o : Oper} {a : Act} {w : World} {Q : Exit → Act → World → Prop} (hg : o.guard = none) (t : TypeId) (pl : List (Nat × Operand)) (ho : o.op = .build t pl.toArray)
  (cells : Array Value) (vals : List (Nat × Value)) (hv : (pl.map fun (i, x) => (i, a.eval x)) = vals) (hf : P.built t vals = some cells) (h : wpList P ops Q rest (a.put o.dst (.agg cells)) w) : wpList P ops Q (o :: rest) a w :=
 wpList_plain hg fun _ hK => wp_buildTo t _ ho cells (by rw [← hv] at hf; simpa using hf) (hK _ _ h)
theorem built_mm {m : MM} : (Tryz.prog).built 90 [(0, .int .i64 m.tick), (1, .agg (mdg m).toArray), (2, .slice m.A m.k m.c)] = some (cellsM m).toArray := by kernel_rfl
theorem infoMs {m : MM} : (Tryz.prog.info? 90).map (·.size) = some (cellsM m).toArray.size := by kernel_rfl
theorem infoPs {p : PC} : (Tryz.prog.info? 33).map (·.size) = some (cellsP p).toArray.size := by kernel_rfl
theorem bytes_one {l : List Value} {d : List Int} (h : DgOk l d) : ∀ v ∈ l, v.oneCell' = true := by
 intro v hv; rw [h.1] at hv; obtain ⟨n, _, rfl⟩ := List.mem_map.1 hv; rfl
theorem mm_one {m : MM} {d : List Int} (h : DgOk (mdg m) d) : ((cellsM m).toArray.all (·.oneCell') = true) := by
 refine all_oneCell_toArray fun v hv => ?_
 simp only [cellsM, List.mem_cons] at hv; have h1 := bytes_one h; simp only [mdg, List.mem_cons] at h1
 rcases hv with rfl | hv
 ·rfl
 ·rcases hv with h2 | h2 | h2 | h2 | h2 | h2 | h2 | h2 | h2 | h2 | h2 | h2 | h2 | h2 | h2 | h2 | h2 | h2
  all_goals first | (exact absurd h2 List.not_mem_nil) | (subst h2; rfl) | exact h1 v (by simp [h2])
theorem pp_one {p : PC} {d : List Int} {w : World} {L1 L2 : List Nat} (h : DgOk (pdg p) d) (hr : RtL w (.agg #[p.b1, p.b2]) L1 L2) : ((cellsP p).toArray.all (·.oneCell') = true) := by
 obtain ⟨A1, k1, c1, A2, k2, c2, hsh⟩ := hr.shape; simp only [Value.agg.injEq, Array.mk.injEq, List.cons.injEq, and_true] at hsh; refine all_oneCell_toArray fun v hv => ?_
 simp only [cellsP, List.mem_cons] at hv; have h1 := bytes_one h; simp only [pdg, List.mem_cons] at h1
 rcases hv with rfl | rfl | rfl | rfl | rfl | rfl | rfl | rfl | hv
 ·rfl
 ·rfl
 ·rfl
 ·rfl
 ·rw [hsh.1]; rfl
 ·rw [hsh.2]; rfl
 ·rfl
 ·rfl
 ·rcases hv with h2 | h2 | h2 | h2 | h2 | h2 | h2 | h2 | h2 | h2 | h2 | h2 | h2 | h2 | h2 | h2 | h2
  all_goals first | (exact absurd h2 List.not_mem_nil) | exact h1 v (by simp [h2])
def PhiSt7 (Al : Option Addr) (kl cl b off n : Nat) (m : MM) (p : PC) (s : Int) (j : Nat) (w : World) (x : Value) : Prop :=
 match j with
 | 0 => x = .agg (cellsM m).toArray
 | 1 => x = .slice Al kl cl
 | 2 => x = .int .i64 (n : Nat)
 | 3 => x = .pointer (some ⟨b, off + n * 24, none⟩)
 | 4 => x = .agg (cellsP p).toArray
 | 5 => x = .int .i64 (n : Nat)
 | 6 => x = .int .i64 s
 | 7 => x = .int .i64 s
 | _ => True
theorem PhiSt7.keep {Al : Option Addr} {kl cl b off n : Nat} {m : MM} {p : PC} {s : Int} : ∀ (w w' : World), Below w.heap.size w w' → ∀ j x, PhiSt7 Al kl cl b off n m p s j w x → PhiSt7 Al kl cl b off n m p s j w' x := by
 intro w w' hb j x h; unfold PhiSt7 at h ⊢; exact h
def PhiSt13A (Al : Option Addr) (kl cl b off n i : Nat) (m : MM) (p q : PC) (s : Int) (gm gp : Nat) (j : Nat) (w : World) (x : Value) : Prop :=
 match j with
 | 0 => x = .int .i64 (i : Nat)
 | 1 => x = .int .i64 (n : Nat)
 | 2 => x = .bool false
 | 3 => x = .bool false
 | 4 => x = undef
 | 5 => x = undef
 | 6 => x = undef
 | 7 => x = undef
 | 8 => x = undef
 | 9 => x = undef
 | 10 => x = .bool false
 | 11 => x = .bool false
 | 12 => x = undef
 | 13 => x = undef
 | 14 => x = undef
 | 15 => x = undef
 | 16 => x = undef
 | 17 => x = .bool false
 | _ => True
theorem PhiSt13A.keep {Al : Option Addr} {kl cl b off n i : Nat} {m : MM} {p q : PC} {s : Int} {gm gp : Nat} : ∀ (w w' : World), Below w.heap.size w w' → ∀ j x, PhiSt13A Al kl cl b off n i m p q s gm gp j w x → PhiSt13A Al kl cl b off n i m p q s gm gp j w' x := by
 intro w w' hb j x h; unfold PhiSt13A at h ⊢; exact h
def PhiSt13B (Al : Option Addr) (kl cl b off n i : Nat) (m : MM) (p q : PC) (s : Int) (gm gp : Nat) (j : Nat) (w : World) (x : Value) : Prop :=
 match j with
 | 0 => x = .int .i64 (i : Nat)
 | 1 => x = .int .i64 (n : Nat)
 | 2 => x = .bool true
 | 3 => x = .bool true
 | 4 => x = .slice Al kl cl
 | 5 => x = .int .i64 (n : Nat)
 | 6 => x = .pointer (some ⟨b, off + n * 24, none⟩)
 | 7 => x = .agg (cellsP p).toArray
 | 8 => x = .agg (cellsP q).toArray
 | 9 => x = .bool false
 | 10 => x = .bool false
 | 11 => x = .bool false
 | 12 => x = undef
 | 13 => x = undef
 | 14 => x = undef
 | 15 => x = undef
 | 16 => x = undef
 | 17 => x = .bool false
 | _ => True
theorem PhiSt13B.keep {Al : Option Addr} {kl cl b off n i : Nat} {m : MM} {p q : PC} {s : Int} {gm gp : Nat} : ∀ (w w' : World), Below w.heap.size w w' → ∀ j x, PhiSt13B Al kl cl b off n i m p q s gm gp j w x → PhiSt13B Al kl cl b off n i m p q s gm gp j w' x := by
 intro w w' hb j x h; unfold PhiSt13B at h ⊢; exact h
def PhiSt13C (Al : Option Addr) (kl cl b off n i : Nat) (m : MM) (p q : PC) (s : Int) (gm gp : Nat) (j : Nat) (w : World) (x : Value) : Prop :=
 match j with
 | 0 => x = .int .i64 (i : Nat)
 | 1 => x = .int .i64 (n : Nat)
 | 2 => x = .bool true
 | 3 => x = .bool true
 | 4 => x = .slice Al kl cl
 | 5 => x = .int .i64 (n : Nat)
 | 6 => x = .pointer (some ⟨b, off + n * 24, none⟩)
 | 7 => x = .agg (cellsP p).toArray
 | 8 => x = .agg (cellsP q).toArray
 | 9 => x = .bool true
 | 10 => x = .bool true
 | 11 => x = .bool true
 | 12 => x = .agg (cellsM m).toArray
 | 13 => x = .agg (cellsP q).toArray
 | 14 => x = .int .i64 (i : Nat)
 | 15 => x = .int .i64 s
 | 16 => x = .bool (s == 0)
 | 17 => x = .bool (s == 0)
 | _ => True
theorem PhiSt13C.keep {Al : Option Addr} {kl cl b off n i : Nat} {m : MM} {p q : PC} {s : Int} {gm gp : Nat} : ∀ (w w' : World), Below w.heap.size w w' → ∀ j x, PhiSt13C Al kl cl b off n i m p q s gm gp j w x → PhiSt13C Al kl cl b off n i m p q s gm gp j w' x := by
 intro w w' hb j x h; unfold PhiSt13C at h ⊢; exact h
set_option maxRecDepth 100000 in
set_option maxHeartbeats 8000000 in
theorem state_n (Al : Option Addr) (kl cl : Nat) (k : Int) (m : MM) (ps : List PC) (Lf : Nat → List Nat × List Nat) (Ev : Nat → Int) (dg : Nat → List Int) (dm br : List Int) (w : World) (hp : RowS cellsP w Al kl ps)
  (HE : Hid (EscOk w ps Lf)) (HV : Hid (∀ (n : Nat) p, ps[n]? = some p → PVal p (Lf n).1 (Lf n).2 (Ev n))) (HD : Hid (∀ (n : Nat) p, ps[n]? = some p → DgOk (pdg p) (dg n))) (hdm : DgOk (mdg m) dm) (hbr : RowS intC w m.A m.k br) :
  Calls Tryz.prog 14 #[.slice Al kl cl, .int .i64 k, .int .i64 m.tick, .agg (mdg m).toArray, .slice m.A m.k m.c] w fun e w' => ∃ s er : Int, e = .returned (.tuple #[.int .i64 s, .int .i64 er]) ∧ Hid (StP kl m.tick dm br Ev Lf dg ps k s er) ∧ Below w.heap.size w w' := by
 have hkl := hp.2.1; have hkl2 := hp.2.2; by_cases hbad : k < 0 ∨ (kl : Int) ≤ k
 ·have HS : Hid (StP kl m.tick dm br Ev Lf dg ps k 0 5) := .inl ⟨hbad, rfl, rfl⟩
  rcases hbad with h | h
  ·have d1 : decide (k < 0) = true := by simpa using h
   go_enter Tryz.func14, Tryz.ntmps14
   go_wp2_with fail
   go_ret2
   exact ⟨0, 5, rfl, HS, bA _ _⟩
  ·have d1 : decide (k < 0) = false := by simp; omega
   have d2 : decide (k ≥ (kl : Int)) = true := by simpa using h
   go_enter Tryz.func14, Tryz.ntmps14
   go_wp2_with fail
   go_ret2
   exact ⟨0, 5, rfl, HS, bA _ _⟩
 ·obtain ⟨n, rfl⟩ := Int.eq_ofNat_of_zero_le (show 0 ≤ k by omega); have hn : n < kl := by omega
  have hnl : n < ps.length := by omega
  have d1 : decide ((n : Int) < 0) = false := by simp
  have d2 : decide ((n : Int) ≥ (kl : Int)) = false := by simp; omega
  have ln : (n : Int) < (kl : Int) := by omega
  have HKL := Lib.hid hkl; clear hbad hkl; obtain ⟨p, HP⟩ : ∃ p, Hid (ps[n] = p ∧ ps[n]? = some p) := ⟨_, rfl, List.getElem?_eq_getElem hnl⟩; have HEn := Lib.hid (HE.out n p HP.out.2); have hdpn := HD.out n p HP.out.2; have HVn := Lib.hid (HV.out n p HP.out.2); obtain ⟨W, HW⟩ : ∃ W, Hid (W = w.alloc (.cells (mdg m).toArray 31)) := ⟨_, rfl⟩; have hbW : Below w.heap.size w W := by rw [HW.out]; exact bA _ _
  have BD : Blk W w.heap.size 31 (mdg m).toArray := by rw [HW.out]; exact Blk.new _ _ _
  obtain ⟨b, off, rfl, HC0⟩ := (hp.below hbW).at_ cellsP_len (by omega) hn hnl; rw [HP.out.1] at HC0
  go_enter Tryz.func14, Tryz.ntmps14
  go_upto_region 1 with fail; rw [← HW.out]
  go_wp2_with (first | (refine wpList_load_mid rfl 33 (.tmp 27) rfl b (off + n * 24) rfl (cellsP p) _ (fun j v h => HC0.out j v h) Tryz.underlying33 rfl infoP ?_; simp only [Act.put, sA, sB, sC]))
  refine (pvalid_n p (Lf n).1 (Lf n).2 _ (HEn.out.1.below hbW) HEn.out.2.1 HEn.out.2.2).mono ?_; rintro e w2 ⟨E, rfl, HX, hb2⟩; have hEE : E = Ev n := HX.out.uniq HVn.out; have HEE := Lib.hid hEE; clear hEE HX; have hbw2 := Below.tr hbW hb2; by_cases hE : E = 0
  ·have h0 : (E != 0) = false := by simpa using hE
   have HE0 : Hid (Ev n = 0) := by show _ = _; rw [← HEE.out]; exact hE
   have BD := Blk.below BD hb2 BD.lt; have HONM := Lib.hid (mm_one hdm); clear hE HEE
   go_upto_region 7 with (first | (refine wpList_load_mid rfl 31 (.tmp 8) rfl w.heap.size 0 rfl (mdg m) _ (blk_range BD) Tryz.underlying31 rfl infoMd ?_; simp only [Act.put, sA, sB, sC]) | (refine wpList_buildW rfl 90 [(0, .tmp 33), (1, .tmp 34), (2, .tmp 35)] (by rfl) (cellsM m).toArray [(0, .int .i64 m.tick), (1, .agg (mdg m).toArray), (2, .slice m.A m.k m.c)] (by rfl) built_mm ?_; simp only [Act.put, sA, sB, sC]) | (refine wpList_store_mid rfl 90 (.tmp 13) (.tmp 36) rfl w2.heap.size 0 (cellsM m).toArray rfl rfl (there_new _ _ _ 18 (by simp)) infoMs HONM.out ?_; rw [setCells_new]; rotate_left; rfl))
   refine wp_name ?_; intro v7 HV7; have hbv : Below w2.heap.size w2 v7 := by rw [HV7.out]; exact bA _ _
   have HBM : Hid (Blk v7 w2.heap.size 90 (cellsM m).toArray) := by
    show Blk _ _ _ _
    rw [HV7.out]; exact Blk.new _ _ _
   have hbw7 := Below.tr hbw2 hbv; have HC : Hid (∀ j v, (cellsP p)[j]? = some v → v7.cell? ⟨b, off + n * 24 + j, none⟩ = some v) := fun j v h => cell_keep (Below.tr hb2 hbv) (HC0.out j v h)
   have hbr4 := hbr.below hbw7; generalize w2.heap.size = gm at HBM; obtain ⟨s, HSN⟩ : ∃ s, Hid (s = stN m.tick dm br p (dg n) (n : Int)) := ⟨_, rfl⟩; clear HV7 hbv BD HONM hb2 hbw2 hbW; refine region_invF (PhiSt7 (some ⟨b, off, none⟩) kl cl b off n m p s) (fun w w' => Below w.heap.size w w') (fun W => Below v7.heap.size v7 W) (by kernel_rfl) (by kernel_rfl) (by kernel_rfl) PhiSt7.keep (fun _ _ hR hS => Below.tr hS hR) (bD _) (fun vs => by simp only [fillR, Act.put, sA, sB, sC, Nat.zero_add, Nat.reduceAdd]; rfl) ?_ ?_
   ·refine sK ?_ (sK ?_ (sK ?_ (sK ?_ (sK ?_ (sK ?_ (sK ?_ (sK ?_ (sZ))))))))
    ·as_aux_lemma =>
     intro vs W hS hdep K hK; refine ⟨?_⟩; simp only [Act.put, sA, sB, sC, Nat.zero_add, Nat.reduceAdd] at hK ⊢; rw [if_pos (by rfl)]; refine wp_load_mid 90 (.tmp 13) (by rfl) gm (0) (by rfl) (cellsM m) _ (blk_range (Blk.below HBM.out hS HBM.out.lt)) Tryz.underlying90 (by rfl) infoM ?_; simp only [Act.put, sA, sB, sC]; with_reducible refine hK _ _ (Below.refl _ _) ?_
     exact rfl
    ·as_aux_lemma =>
     intro vs W hS hdep K hK; refine ⟨?_⟩; simp only [Act.put, sA, sB, sC, Nat.zero_add, Nat.reduceAdd] at hK ⊢; go_simp; with_reducible refine hK _ _ (Below.refl _ _) ?_
     exact rfl
    ·as_aux_lemma =>
     intro vs W hS hdep K hK; refine ⟨?_⟩; simp only [Act.put, sA, sB, sC, Nat.zero_add, Nat.reduceAdd] at hK ⊢; go_simp; with_reducible refine hK _ _ (Below.refl _ _) ?_
     exact rfl
    ·as_aux_lemma =>
     intro vs W hS hdep K hK; have d0 := hdep ⟨1, .data⟩ (by simp) rfl; simp only [PhiSt7] at d0; have d1 := hdep ⟨2, .data⟩ (by simp) rfl; simp only [PhiSt7] at d1; refine ⟨?_⟩; simp only [Act.put, sA, sB, sC, Nat.zero_add, Nat.reduceAdd, d0, d1] at hK ⊢; go_simp; with_reducible refine hK _ _ (Below.refl _ _) ?_
     exact rfl
    ·as_aux_lemma =>
     intro vs W hS hdep K hK; have d0 := hdep ⟨3, .data⟩ (by simp) rfl; simp only [PhiSt7] at d0; refine ⟨?_⟩; simp only [Act.put, sA, sB, sC, Nat.zero_add, Nat.reduceAdd, d0] at hK ⊢; rw [if_pos (by rfl)]; refine wp_load_mid 33 (.tmp 40) (by rfl) b (off + n * 24) (by rfl) (cellsP p) _ (fun j v h => cell_keep hS (HC.out j v h)) Tryz.underlying33 (by rfl) infoP ?_; simp only [Act.put, sA, sB, sC]; with_reducible refine hK _ _ (Below.refl _ _) ?_
     exact rfl
    ·as_aux_lemma =>
     intro vs W hS hdep K hK; refine ⟨?_⟩; simp only [Act.put, sA, sB, sC, Nat.zero_add, Nat.reduceAdd] at hK ⊢; go_simp; with_reducible refine hK _ _ (Below.refl _ _) ?_
     exact rfl
    ·as_aux_lemma =>
     intro vs W hS hdep K hK; have d0 := hdep ⟨0, .data⟩ (by simp) rfl; simp only [PhiSt7] at d0; have d1 := hdep ⟨4, .data⟩ (by simp) rfl; simp only [PhiSt7] at d1; have d2 := hdep ⟨5, .data⟩ (by simp) rfl; simp only [PhiSt7] at d2; refine ⟨?_⟩; simp only [Act.put, sA, sB, sC, Nat.zero_add, Nat.reduceAdd, d0, d1, d2] at hK ⊢; go_simp; refine (mstate_n m p n dm (dg n) br hdm hdpn _ (hbr4.below hS)).mono ?_; rintro e w' ⟨rfl, hb⟩; rw [← HSN.out]; go_wp2_with fail; with_reducible refine hK _ _ hb ?_
     exact rfl
    ·as_aux_lemma =>
     intro vs W hS hdep K hK; have d0 := hdep ⟨6, .data⟩ (by simp) rfl; simp only [PhiSt7] at d0; refine ⟨?_⟩; simp only [Act.put, sA, sB, sC, Nat.zero_add, Nat.reduceAdd, d0] at hK ⊢; go_simp; with_reducible refine hK _ _ (Below.refl _ _) ?_
     exact rfl
   ·intro vs7 w7 hS hv; have u7 := hv 7 (by simp); simp only [PhiSt7] at u7; simp only [Act.put, sA, sB, sC, Nat.zero_add, Nat.reduceAdd, u7]; clear u7 hv; have HSA : Hid (stA m.tick dm br dg ps n = s) := by show _ = _; unfold stA; rw [HP.out.2, HSN.out]
    have hbz := Below.tr hbw7 hS; by_cases hs : s = 0
    ·have hs0 : (s != 0) = false := by simpa using hs
     have HS0 : Hid (stA m.tick dm br dg ps n = 0) := HSA.out.trans hs; have HBM := Lib.hid (Blk.below HBM.out hS HBM.out.lt); clear hs HSA HSN hbw7 hS hbr4 HC; go_wp2_with fail
     go_loopg [49] kl (fun mm x wr => ∃ i : Nat, x = .int .i64 i ∧ i + mm = kl ∧ Hid (∀ j, j < i → hitA m.tick dm br Ev Lf dg ps n j = false) ∧ Below w7.heap.size w7 wr)
     case atStart => exact ⟨0, rfl, by omega, fun j h => absurd h (Nat.not_lt_zero _), Below.refl _ _⟩
     case round =>
      obtain ⟨i, rfl, him, HN, hbe⟩ := hrel; by_cases hi : i < kl
      ·have t1 : decide ((i : Int) < (kl : Int)) = true := by simp; omega
       have li : (i : Int) < (kl : Int) := by omega
       have hil : i < ps.length := by have := HKL.out; omega
       obtain ⟨q, HQ⟩ : ∃ q, Hid (ps[i] = q ∧ ps[i]? = some q) := ⟨_, rfl, List.getElem?_eq_getElem hil⟩; have HEi := Lib.hid (HE.out i q HQ.out.2); have hdpi := HD.out i q HQ.out.2; have HVi := Lib.hid (HV.out i q HQ.out.2); have hbz13 := Below.tr hbz hbe; obtain ⟨b', off', hA', HCq⟩ := (hp.below hbz13).at_ cellsP_len (by omega) hi hil; injection hA' with hA'; injection hA' with hA1 hA2; subst hA1 hA2; rw [HQ.out.1] at HCq; have HONQ := Lib.hid (pp_one hdpi HEi.out.1)
       go_upto_region 13 with (first | (refine wpList_load_mid rfl 33 (.tmp 52) rfl b (off + i * 24) rfl (cellsP q) _ (fun j v h => HCq.out j v h) Tryz.underlying33 rfl infoP ?_; simp only [Act.put, sA, sB, sC]) | (refine wpList_store_mid rfl 33 (.tmp 16) (.tmp 53) rfl wr.heap.size 0 (cellsP q).toArray rfl rfl (there_new _ _ _ 24 (by simp)) infoPs HONQ.out ?_; rw [setCells_new]; rotate_left; rfl))
       refine wp_name ?_; intro v13 HV13; have hbv : Below wr.heap.size wr v13 := by rw [HV13.out]; exact bA _ _
       have HBP : Hid (Blk v13 wr.heap.size 33 (cellsP q).toArray) := by
        show Blk _ _ _ _
        rw [HV13.out]; exact Blk.new _ _ _
       generalize wr.heap.size = gp at HBP; have hb13 := Below.tr hbe hbv; have hbw13 := Below.tr hbz13 hbv; have HBM13 := Lib.hid (Blk.below HBM.out hb13 HBM.out.lt); obtain ⟨b', off', hA', HC13⟩ := (hp.below hbw13).at_ cellsP_len (by omega) hn hnl; injection hA' with hA'; injection hA' with hA1 hA2; subst hA1 hA2; rw [HP.out.1] at HC13; have HEn : Hid (RtL v13 (.agg #[p.b1, p.b2]) (Lf n).1 (Lf n).2 ∧ p.test.size ≤ 9223372036854775807 ∧ p.wh.size ≤ 9223372036854775807) := ⟨HEn.out.1.below hbw13, HEn.out.2⟩; have HEi : Hid (RtL v13 (.agg #[q.b1, q.b2]) (Lf i).1 (Lf i).2 ∧ q.test.size ≤ 9223372036854775807 ∧ q.wh.size ≤ 9223372036854775807) := ⟨HEi.out.1.below hbw13, HEi.out.2⟩; have hbr13 := hbr.below hbw13; obtain ⟨s, HSI⟩ : ∃ s, Hid (s = stN m.tick dm br q (dg i) (i : Int)) := ⟨_, rfl⟩; have HSA : Hid (stA m.tick dm br dg ps i = s) := by show _ = _; unfold stA; rw [HQ.out.2, HSI.out]
       clear HV13 hbv HCq HONQ hbe; by_cases hni : i = n
       ·have hne : ((i : Int) != (n : Int)) = false := by rw [hni]; simp
        have HN2 : Hid (∀ j, j < i + 1 → hitA m.tick dm br Ev Lf dg ps n j = false) := fun j hj => by
         rcases Nat.lt_or_ge j i with h | h
         ·exact HN.out j h
         ·rw [show j = i by omega, hni]; unfold hitA; simp
        clear hni; refine region_invF (PhiSt13A (some ⟨b, off, none⟩) kl cl b off n i m p q s gm gp) (fun w w' => Below w.heap.size w w') (fun W => Below v13.heap.size v13 W) (by kernel_rfl) (by kernel_rfl) (by kernel_rfl) PhiSt13A.keep (fun _ _ hR hS => Below.tr hS hR) (bD _) (fun vs => by simp only [fillR, Act.put, sA, sB, sC, Nat.zero_add, Nat.reduceAdd]; rfl) ?_ ?_
        ·refine sK ?_ (sK ?_ (sK ?_ (sK ?_ (sK ?_ (sK ?_ (sK ?_ (sK ?_ (sK ?_ (sK ?_ (sK ?_ (sK ?_ (sK ?_ (sK ?_ (sK ?_ (sK ?_ (sK ?_ (sK ?_ (sZ))))))))))))))))))
         ·as_aux_lemma =>
          intro vs W hS hdep K hK; refine ⟨?_⟩; simp only [Act.put, sA, sB, sC, Nat.zero_add, Nat.reduceAdd] at hK ⊢; go_simp; with_reducible refine hK _ _ (Below.refl _ _) ?_
          exact rfl
         ·as_aux_lemma =>
          intro vs W hS hdep K hK; refine ⟨?_⟩; simp only [Act.put, sA, sB, sC, Nat.zero_add, Nat.reduceAdd] at hK ⊢; go_simp; with_reducible refine hK _ _ (Below.refl _ _) ?_
          exact rfl
         ·as_aux_lemma =>
          intro vs W hS hdep K hK; have d0 := hdep ⟨0, .data⟩ (by simp) rfl; simp only [PhiSt13A] at d0; have d1 := hdep ⟨1, .data⟩ (by simp) rfl; simp only [PhiSt13A] at d1; refine ⟨?_⟩; simp only [Act.put, sA, sB, sC, Nat.zero_add, Nat.reduceAdd, d0, d1] at hK ⊢; go_simp; with_reducible refine hK _ _ (Below.refl _ _) ?_
          exact rfl
         ·as_aux_lemma =>
          intro vs W hS hdep K hK; have d0 := hdep ⟨2, .data⟩ (by simp) rfl; simp only [PhiSt13A] at d0; refine ⟨?_⟩; simp only [Act.put, sA, sB, sC, Nat.zero_add, Nat.reduceAdd, d0] at hK ⊢; go_simp; with_reducible refine hK _ _ (Below.refl _ _) ?_
          exact rfl
         ·as_aux_lemma =>
          intro vs W hS hdep K hK; have d0 := hdep ⟨3, .guard⟩ (by simp) rfl; simp only [PhiSt13A] at d0; refine ⟨?_⟩; simp only [Act.put, sA, sB, sC, Nat.zero_add, Nat.reduceAdd, d0] at hK ⊢; go_simp
          try rw [if_neg (by simp [undef])]
          with_reducible refine hK _ _ (Below.refl _ _) ?_
          exact rfl
         ·as_aux_lemma =>
          intro vs W hS hdep K hK; have d0 := hdep ⟨3, .guard⟩ (by simp) rfl; simp only [PhiSt13A] at d0; refine ⟨?_⟩; simp only [Act.put, sA, sB, sC, Nat.zero_add, Nat.reduceAdd, d0] at hK ⊢; go_simp
          try rw [if_neg (by simp [undef])]
          with_reducible refine hK _ _ (Below.refl _ _) ?_
          exact rfl
         ·as_aux_lemma =>
          intro vs W hS hdep K hK; have d0 := hdep ⟨3, .guard⟩ (by simp) rfl; simp only [PhiSt13A] at d0; refine ⟨?_⟩; simp only [Act.put, sA, sB, sC, Nat.zero_add, Nat.reduceAdd, d0] at hK ⊢; go_simp
          try rw [if_neg (by simp [undef])]
          with_reducible refine hK _ _ (Below.refl _ _) ?_
          exact rfl
         ·as_aux_lemma =>
          intro vs W hS hdep K hK; have d0 := hdep ⟨3, .guard⟩ (by simp) rfl; simp only [PhiSt13A] at d0; refine ⟨?_⟩; simp only [Act.put, sA, sB, sC, Nat.zero_add, Nat.reduceAdd, d0] at hK ⊢; go_simp
          try rw [if_neg (by simp [undef])]
          with_reducible refine hK _ _ (Below.refl _ _) ?_
          exact rfl
         ·as_aux_lemma =>
          intro vs W hS hdep K hK; have d0 := hdep ⟨3, .guard⟩ (by simp) rfl; simp only [PhiSt13A] at d0; refine ⟨?_⟩; simp only [Act.put, sA, sB, sC, Nat.zero_add, Nat.reduceAdd, d0] at hK ⊢; go_simp
          try rw [if_neg (by simp [undef])]
          with_reducible refine hK _ _ (Below.refl _ _) ?_
          exact rfl
         ·as_aux_lemma =>
          intro vs W hS hdep K hK; have d0 := hdep ⟨3, .guard⟩ (by simp) rfl; simp only [PhiSt13A] at d0; refine ⟨?_⟩; simp only [Act.put, sA, sB, sC, Nat.zero_add, Nat.reduceAdd, d0] at hK ⊢; go_simp
          try rw [if_neg (by simp [undef])]
          with_reducible refine hK _ _ (Below.refl _ _) ?_
          exact rfl
         ·as_aux_lemma =>
          intro vs W hS hdep K hK; have d0 := hdep ⟨3, .data⟩ (by simp) rfl; simp only [PhiSt13A] at d0; refine ⟨?_⟩; simp only [Act.put, sA, sB, sC, Nat.zero_add, Nat.reduceAdd, d0] at hK ⊢; go_simp; with_reducible refine hK _ _ (Below.refl _ _) ?_
          exact rfl
         ·as_aux_lemma =>
          intro vs W hS hdep K hK; have d0 := hdep ⟨10, .data⟩ (by simp) rfl; simp only [PhiSt13A] at d0; refine ⟨?_⟩; simp only [Act.put, sA, sB, sC, Nat.zero_add, Nat.reduceAdd, d0] at hK ⊢; go_simp; with_reducible refine hK _ _ (Below.refl _ _) ?_
          exact rfl
         ·as_aux_lemma =>
          intro vs W hS hdep K hK; have d0 := hdep ⟨11, .guard⟩ (by simp) rfl; simp only [PhiSt13A] at d0; refine ⟨?_⟩; simp only [Act.put, sA, sB, sC, Nat.zero_add, Nat.reduceAdd, d0] at hK ⊢; go_simp
          try rw [if_neg (by simp [undef])]
          with_reducible refine hK _ _ (Below.refl _ _) ?_
          exact rfl
         ·as_aux_lemma =>
          intro vs W hS hdep K hK; have d0 := hdep ⟨11, .guard⟩ (by simp) rfl; simp only [PhiSt13A] at d0; refine ⟨?_⟩; simp only [Act.put, sA, sB, sC, Nat.zero_add, Nat.reduceAdd, d0] at hK ⊢; go_simp
          try rw [if_neg (by simp [undef])]
          with_reducible refine hK _ _ (Below.refl _ _) ?_
          exact rfl
         ·as_aux_lemma =>
          intro vs W hS hdep K hK; have d0 := hdep ⟨11, .guard⟩ (by simp) rfl; simp only [PhiSt13A] at d0; refine ⟨?_⟩; simp only [Act.put, sA, sB, sC, Nat.zero_add, Nat.reduceAdd, d0] at hK ⊢; go_simp
          try rw [if_neg (by simp [undef])]
          with_reducible refine hK _ _ (Below.refl _ _) ?_
          exact rfl
         ·as_aux_lemma =>
          intro vs W hS hdep K hK; have d0 := hdep ⟨11, .guard⟩ (by simp) rfl; simp only [PhiSt13A] at d0; refine ⟨?_⟩; simp only [Act.put, sA, sB, sC, Nat.zero_add, Nat.reduceAdd, d0] at hK ⊢; go_simp
          try rw [if_neg (by simp [undef])]
          with_reducible refine hK _ _ (Below.refl _ _) ?_
          exact rfl
         ·as_aux_lemma =>
          intro vs W hS hdep K hK; have d0 := hdep ⟨11, .guard⟩ (by simp) rfl; simp only [PhiSt13A] at d0; refine ⟨?_⟩; simp only [Act.put, sA, sB, sC, Nat.zero_add, Nat.reduceAdd, d0] at hK ⊢; go_simp
          try rw [if_neg (by simp [undef])]
          with_reducible refine hK _ _ (Below.refl _ _) ?_
          exact rfl
         ·as_aux_lemma =>
          intro vs W hS hdep K hK; have d0 := hdep ⟨11, .data⟩ (by simp) rfl; simp only [PhiSt13A] at d0; refine ⟨?_⟩; simp only [Act.put, sA, sB, sC, Nat.zero_add, Nat.reduceAdd, d0] at hK ⊢; go_simp; with_reducible refine hK _ _ (Below.refl _ _) ?_
          exact rfl
        ·intro vs13 w13 hS hv; have u17 := hv 17 (by simp); simp only [PhiSt13A] at u17; simp only [Act.put, sA, sB, sC, Nat.zero_add, Nat.reduceAdd, u17]; clear u17 hv; have hbe := Below.tr hb13 hS; go_wp2_with fail
         go_roundg (gk - 1)
         case measure => omega
         case rel => exact ⟨i + 1, by go_num, by omega, HN2, hbe⟩
       ·have hne : ((i : Int) != (n : Int)) = true := by simp; omega
        have HCLG : Hid (∀ (E F : Int) (cb : Bool), (PVal p (Lf n).1 (Lf n).2 E ∧ (E = 0 → PVal q (Lf i).1 (Lf i).2 F) ∧ cb = clB E F p q (dg n) (dg i) (sameR (Lf n).1 (Lf n).2 (Lf i).1 (Lf i).2)) → cb = clA Ev Lf dg ps n i) := by
         intro E F cb h; have e1 := h.1.uniq HVn.out; have e2 := (h.2.1 (by rw [e1]; exact HE0.out)).uniq HVi.out; unfold clA; rw [HP.out.2, HQ.out.2, h.2.2, e1, e2]
        by_cases hcb : clA Ev Lf dg ps n i = true
        ·have HCL : Hid (∀ (E F : Int) (cb : Bool), (PVal p (Lf n).1 (Lf n).2 E ∧ (E = 0 → PVal q (Lf i).1 (Lf i).2 F) ∧ cb = clB E F p q (dg n) (dg i) (sameR (Lf n).1 (Lf n).2 (Lf i).1 (Lf i).2)) → cb = true) := fun E F cb h => (HCLG.out E F cb h).trans hcb
         have HHI : Hid (hitA m.tick dm br Ev Lf dg ps n i = (s == 0)) := by
          show _ = _
          unfold hitA; rw [hcb, HSA.out]; simp [hni]
         clear hcb HCLG; refine region_invF (PhiSt13C (some ⟨b, off, none⟩) kl cl b off n i m p q s gm gp) (fun w w' => Below w.heap.size w w') (fun W => Below v13.heap.size v13 W) (by kernel_rfl) (by kernel_rfl) (by kernel_rfl) PhiSt13C.keep (fun _ _ hR hS => Below.tr hS hR) (bD _) (fun vs => by simp only [fillR, Act.put, sA, sB, sC, Nat.zero_add, Nat.reduceAdd]; rfl) ?_ ?_
         ·refine sK ?_ (sK ?_ (sK ?_ (sK ?_ (sK ?_ (sK ?_ (sK ?_ (sK ?_ (sK ?_ (sK ?_ (sK ?_ (sK ?_ (sK ?_ (sK ?_ (sK ?_ (sK ?_ (sK ?_ (sK ?_ (sZ))))))))))))))))))
          ·as_aux_lemma =>
           intro vs W hS hdep K hK; refine ⟨?_⟩; simp only [Act.put, sA, sB, sC, Nat.zero_add, Nat.reduceAdd] at hK ⊢; go_simp; with_reducible refine hK _ _ (Below.refl _ _) ?_
           exact rfl
          ·as_aux_lemma =>
           intro vs W hS hdep K hK; refine ⟨?_⟩; simp only [Act.put, sA, sB, sC, Nat.zero_add, Nat.reduceAdd] at hK ⊢; go_simp; with_reducible refine hK _ _ (Below.refl _ _) ?_
           exact rfl
          ·as_aux_lemma =>
           intro vs W hS hdep K hK; have d0 := hdep ⟨0, .data⟩ (by simp) rfl; simp only [PhiSt13C] at d0; have d1 := hdep ⟨1, .data⟩ (by simp) rfl; simp only [PhiSt13C] at d1; refine ⟨?_⟩; simp only [Act.put, sA, sB, sC, Nat.zero_add, Nat.reduceAdd, d0, d1] at hK ⊢; go_simp; with_reducible refine hK _ _ (Below.refl _ _) ?_
           exact rfl
          ·as_aux_lemma =>
           intro vs W hS hdep K hK; have d0 := hdep ⟨2, .data⟩ (by simp) rfl; simp only [PhiSt13C] at d0; refine ⟨?_⟩; simp only [Act.put, sA, sB, sC, Nat.zero_add, Nat.reduceAdd, d0] at hK ⊢; go_simp; with_reducible refine hK _ _ (Below.refl _ _) ?_
           exact rfl
          ·as_aux_lemma =>
           intro vs W hS hdep K hK; have d0 := hdep ⟨3, .guard⟩ (by simp) rfl; simp only [PhiSt13C] at d0; refine ⟨?_⟩; simp only [Act.put, sA, sB, sC, Nat.zero_add, Nat.reduceAdd, d0] at hK ⊢; go_simp; with_reducible refine hK _ _ (Below.refl _ _) ?_
           exact rfl
          ·as_aux_lemma =>
           intro vs W hS hdep K hK; have d0 := hdep ⟨3, .guard⟩ (by simp) rfl; simp only [PhiSt13C] at d0; refine ⟨?_⟩; simp only [Act.put, sA, sB, sC, Nat.zero_add, Nat.reduceAdd, d0] at hK ⊢; go_simp; with_reducible refine hK _ _ (Below.refl _ _) ?_
           exact rfl
          ·as_aux_lemma =>
           intro vs W hS hdep K hK; have d0 := hdep ⟨4, .data⟩ (by simp) rfl; simp only [PhiSt13C] at d0; have d1 := hdep ⟨5, .data⟩ (by simp) rfl; simp only [PhiSt13C] at d1; have d2 := hdep ⟨3, .guard⟩ (by simp) rfl; simp only [PhiSt13C] at d2; refine ⟨?_⟩; simp only [Act.put, sA, sB, sC, Nat.zero_add, Nat.reduceAdd, d0, d1, d2] at hK ⊢; go_simp; with_reducible refine hK _ _ (Below.refl _ _) ?_
           exact rfl
          ·as_aux_lemma =>
           intro vs W hS hdep K hK; have d0 := hdep ⟨6, .data⟩ (by simp) rfl; simp only [PhiSt13C] at d0; have d1 := hdep ⟨3, .guard⟩ (by simp) rfl; simp only [PhiSt13C] at d1; refine ⟨?_⟩; simp only [Act.put, sA, sB, sC, Nat.zero_add, Nat.reduceAdd, d0, d1] at hK ⊢; rw [if_pos (by rfl)]; refine wp_load_mid 33 (.tmp 60) (by rfl) b (off + n * 24) (by rfl) (cellsP p) _ (fun j v h => cell_keep hS (HC13.out j v h)) Tryz.underlying33 (by rfl) infoP ?_; simp only [Act.put, sA, sB, sC]; with_reducible refine hK _ _ (Below.refl _ _) ?_
           exact rfl
          ·as_aux_lemma =>
           intro vs W hS hdep K hK; have d0 := hdep ⟨3, .guard⟩ (by simp) rfl; simp only [PhiSt13C] at d0; refine ⟨?_⟩; simp only [Act.put, sA, sB, sC, Nat.zero_add, Nat.reduceAdd, d0] at hK ⊢; rw [if_pos (by rfl)]; refine wp_load_mid 33 (.tmp 16) (by rfl) gp (0) (by rfl) (cellsP q) _ (blk_range (Blk.below HBP.out hS HBP.out.lt)) Tryz.underlying33 (by rfl) infoP ?_; simp only [Act.put, sA, sB, sC]; with_reducible refine hK _ _ (Below.refl _ _) ?_
           exact rfl
          ·as_aux_lemma =>
           intro vs W hS hdep K hK; have d0 := hdep ⟨7, .data⟩ (by simp) rfl; simp only [PhiSt13C] at d0; have d1 := hdep ⟨8, .data⟩ (by simp) rfl; simp only [PhiSt13C] at d1; have d2 := hdep ⟨3, .guard⟩ (by simp) rfl; simp only [PhiSt13C] at d2; refine ⟨?_⟩; simp only [Act.put, sA, sB, sC, Nat.zero_add, Nat.reduceAdd, d0, d1, d2] at hK ⊢; go_simp; refine (clash_n p q (Lf n).1 (Lf n).2 (Lf i).1 (Lf i).2 (dg n) (dg i) _ (HEn.out.1.below hS) (HEi.out.1.below hS) HEn.out.2.1 HEn.out.2.2 HEi.out.2.1 HEi.out.2.2 hdpn hdpi).mono ?_; rintro e w' ⟨E, F, cb, rfl, HX, hb⟩; obtain rfl : cb = true := HCL.out E F cb HX.out; clear HX; go_wp2_with fail; with_reducible refine hK _ _ hb ?_
           exact rfl
          ·as_aux_lemma =>
           intro vs W hS hdep K hK; have d0 := hdep ⟨3, .data⟩ (by simp) rfl; simp only [PhiSt13C] at d0; have d1 := hdep ⟨9, .data⟩ (by simp) rfl; simp only [PhiSt13C] at d1; refine ⟨?_⟩; simp only [Act.put, sA, sB, sC, Nat.zero_add, Nat.reduceAdd, d0, d1] at hK ⊢; go_simp; with_reducible refine hK _ _ (Below.refl _ _) ?_
           exact rfl
          ·as_aux_lemma =>
           intro vs W hS hdep K hK; have d0 := hdep ⟨10, .data⟩ (by simp) rfl; simp only [PhiSt13C] at d0; refine ⟨?_⟩; simp only [Act.put, sA, sB, sC, Nat.zero_add, Nat.reduceAdd, d0] at hK ⊢; go_simp; with_reducible refine hK _ _ (Below.refl _ _) ?_
           exact rfl
          ·as_aux_lemma =>
           intro vs W hS hdep K hK; have d0 := hdep ⟨11, .guard⟩ (by simp) rfl; simp only [PhiSt13C] at d0; refine ⟨?_⟩; simp only [Act.put, sA, sB, sC, Nat.zero_add, Nat.reduceAdd, d0] at hK ⊢; rw [if_pos (by rfl)]; refine wp_load_mid 90 (.tmp 13) (by rfl) gm (0) (by rfl) (cellsM m) _ (blk_range (Blk.below HBM13.out hS HBM13.out.lt)) Tryz.underlying90 (by rfl) infoM ?_; simp only [Act.put, sA, sB, sC]; with_reducible refine hK _ _ (Below.refl _ _) ?_
           exact rfl
          ·as_aux_lemma =>
           intro vs W hS hdep K hK; have d0 := hdep ⟨11, .guard⟩ (by simp) rfl; simp only [PhiSt13C] at d0; refine ⟨?_⟩; simp only [Act.put, sA, sB, sC, Nat.zero_add, Nat.reduceAdd, d0] at hK ⊢; rw [if_pos (by rfl)]; refine wp_load_mid 33 (.tmp 16) (by rfl) gp (0) (by rfl) (cellsP q) _ (blk_range (Blk.below HBP.out hS HBP.out.lt)) Tryz.underlying33 (by rfl) infoP ?_; simp only [Act.put, sA, sB, sC]; with_reducible refine hK _ _ (Below.refl _ _) ?_
           exact rfl
          ·as_aux_lemma =>
           intro vs W hS hdep K hK; have d0 := hdep ⟨11, .guard⟩ (by simp) rfl; simp only [PhiSt13C] at d0; refine ⟨?_⟩; simp only [Act.put, sA, sB, sC, Nat.zero_add, Nat.reduceAdd, d0] at hK ⊢; go_simp; with_reducible refine hK _ _ (Below.refl _ _) ?_
           exact rfl
          ·as_aux_lemma =>
           intro vs W hS hdep K hK; have d0 := hdep ⟨12, .data⟩ (by simp) rfl; simp only [PhiSt13C] at d0; have d1 := hdep ⟨13, .data⟩ (by simp) rfl; simp only [PhiSt13C] at d1; have d2 := hdep ⟨14, .data⟩ (by simp) rfl; simp only [PhiSt13C] at d2; have d3 := hdep ⟨11, .guard⟩ (by simp) rfl; simp only [PhiSt13C] at d3; refine ⟨?_⟩; simp only [Act.put, sA, sB, sC, Nat.zero_add, Nat.reduceAdd, d0, d1, d2, d3] at hK ⊢; go_simp; refine (mstate_n m q i dm (dg i) br hdm hdpi _ (hbr13.below hS)).mono ?_; rintro e w' ⟨rfl, hb⟩; rw [← HSI.out]; go_wp2_with fail; with_reducible refine hK _ _ hb ?_
           exact rfl
          ·as_aux_lemma =>
           intro vs W hS hdep K hK; have d0 := hdep ⟨15, .data⟩ (by simp) rfl; simp only [PhiSt13C] at d0; have d1 := hdep ⟨11, .guard⟩ (by simp) rfl; simp only [PhiSt13C] at d1; refine ⟨?_⟩; simp only [Act.put, sA, sB, sC, Nat.zero_add, Nat.reduceAdd, d0, d1] at hK ⊢; go_simp; with_reducible refine hK _ _ (Below.refl _ _) ?_
           exact rfl
          ·as_aux_lemma =>
           intro vs W hS hdep K hK; have d0 := hdep ⟨11, .data⟩ (by simp) rfl; simp only [PhiSt13C] at d0; have d1 := hdep ⟨16, .data⟩ (by simp) rfl; simp only [PhiSt13C] at d1; refine ⟨?_⟩; simp only [Act.put, sA, sB, sC, Nat.zero_add, Nat.reduceAdd, d0, d1] at hK ⊢; go_simp; with_reducible refine hK _ _ (Below.refl _ _) ?_
           exact rfl
         ·intro vs13 w13 hS hv; have u17 := hv 17 (by simp); simp only [PhiSt13C] at u17; simp only [Act.put, sA, sB, sC, Nat.zero_add, Nat.reduceAdd, u17]; clear u17 hv; have hbe := Below.tr hb13 hS; by_cases hs : s = 0
          ·have hs2 : (s == 0) = true := by simpa using hs
           have HF : Hid (StP kl m.tick dm br Ev Lf dg ps (n : Int) 5 0) := by
            refine .inr ⟨n, rfl, hn, .inr ⟨HE0.out, rfl, ?_⟩⟩; unfold stF; rw [if_neg (by rw [HS0.out]; simp), if_pos]; rw [List.any_eq_true]; exact ⟨i, List.mem_range.2 hil, by rw [HHI.out]; exact hs2⟩
           clear hs; go_wp2_with fail
           go_ret2
           exact ⟨5, 0, rfl, HF, Below.tr hbz hbe⟩
          ·have hs2 : (s == 0) = false := by simpa using hs
           have HN2 : Hid (∀ j, j < i + 1 → hitA m.tick dm br Ev Lf dg ps n j = false) := fun j hj => by
            rcases Nat.lt_or_ge j i with h | h
            ·exact HN.out j h
            ·rw [show j = i by omega, HHI.out]; exact hs2
           clear hs; go_wp2_with fail
           go_roundg (gk - 1)
           case measure => omega
           case rel => exact ⟨i + 1, by go_num, by omega, HN2, hbe⟩
        ·have hcb : clA Ev Lf dg ps n i = false := by simpa using hcb
         have HCL : Hid (∀ (E F : Int) (cb : Bool), (PVal p (Lf n).1 (Lf n).2 E ∧ (E = 0 → PVal q (Lf i).1 (Lf i).2 F) ∧ cb = clB E F p q (dg n) (dg i) (sameR (Lf n).1 (Lf n).2 (Lf i).1 (Lf i).2)) → cb = false) := fun E F cb h => (HCLG.out E F cb h).trans hcb
         have HN2 : Hid (∀ j, j < i + 1 → hitA m.tick dm br Ev Lf dg ps n j = false) := fun j hj => by
          rcases Nat.lt_or_ge j i with h | h
          ·exact HN.out j h
          ·rw [show j = i by omega]; unfold hitA; rw [hcb]; simp
         clear hcb HCLG; refine region_invF (PhiSt13B (some ⟨b, off, none⟩) kl cl b off n i m p q s gm gp) (fun w w' => Below w.heap.size w w') (fun W => Below v13.heap.size v13 W) (by kernel_rfl) (by kernel_rfl) (by kernel_rfl) PhiSt13B.keep (fun _ _ hR hS => Below.tr hS hR) (bD _) (fun vs => by simp only [fillR, Act.put, sA, sB, sC, Nat.zero_add, Nat.reduceAdd]; rfl) ?_ ?_
         ·refine sK ?_ (sK ?_ (sK ?_ (sK ?_ (sK ?_ (sK ?_ (sK ?_ (sK ?_ (sK ?_ (sK ?_ (sK ?_ (sK ?_ (sK ?_ (sK ?_ (sK ?_ (sK ?_ (sK ?_ (sK ?_ (sZ))))))))))))))))))
          ·as_aux_lemma =>
           intro vs W hS hdep K hK; refine ⟨?_⟩; simp only [Act.put, sA, sB, sC, Nat.zero_add, Nat.reduceAdd] at hK ⊢; go_simp; with_reducible refine hK _ _ (Below.refl _ _) ?_
           exact rfl
          ·as_aux_lemma =>
           intro vs W hS hdep K hK; refine ⟨?_⟩; simp only [Act.put, sA, sB, sC, Nat.zero_add, Nat.reduceAdd] at hK ⊢; go_simp; with_reducible refine hK _ _ (Below.refl _ _) ?_
           exact rfl
          ·as_aux_lemma =>
           intro vs W hS hdep K hK; have d0 := hdep ⟨0, .data⟩ (by simp) rfl; simp only [PhiSt13B] at d0; have d1 := hdep ⟨1, .data⟩ (by simp) rfl; simp only [PhiSt13B] at d1; refine ⟨?_⟩; simp only [Act.put, sA, sB, sC, Nat.zero_add, Nat.reduceAdd, d0, d1] at hK ⊢; go_simp; with_reducible refine hK _ _ (Below.refl _ _) ?_
           exact rfl
          ·as_aux_lemma =>
           intro vs W hS hdep K hK; have d0 := hdep ⟨2, .data⟩ (by simp) rfl; simp only [PhiSt13B] at d0; refine ⟨?_⟩; simp only [Act.put, sA, sB, sC, Nat.zero_add, Nat.reduceAdd, d0] at hK ⊢; go_simp; with_reducible refine hK _ _ (Below.refl _ _) ?_
           exact rfl
          ·as_aux_lemma =>
           intro vs W hS hdep K hK; have d0 := hdep ⟨3, .guard⟩ (by simp) rfl; simp only [PhiSt13B] at d0; refine ⟨?_⟩; simp only [Act.put, sA, sB, sC, Nat.zero_add, Nat.reduceAdd, d0] at hK ⊢; go_simp; with_reducible refine hK _ _ (Below.refl _ _) ?_
           exact rfl
          ·as_aux_lemma =>
           intro vs W hS hdep K hK; have d0 := hdep ⟨3, .guard⟩ (by simp) rfl; simp only [PhiSt13B] at d0; refine ⟨?_⟩; simp only [Act.put, sA, sB, sC, Nat.zero_add, Nat.reduceAdd, d0] at hK ⊢; go_simp; with_reducible refine hK _ _ (Below.refl _ _) ?_
           exact rfl
          ·as_aux_lemma =>
           intro vs W hS hdep K hK; have d0 := hdep ⟨4, .data⟩ (by simp) rfl; simp only [PhiSt13B] at d0; have d1 := hdep ⟨5, .data⟩ (by simp) rfl; simp only [PhiSt13B] at d1; have d2 := hdep ⟨3, .guard⟩ (by simp) rfl; simp only [PhiSt13B] at d2; refine ⟨?_⟩; simp only [Act.put, sA, sB, sC, Nat.zero_add, Nat.reduceAdd, d0, d1, d2] at hK ⊢; go_simp; with_reducible refine hK _ _ (Below.refl _ _) ?_
           exact rfl
          ·as_aux_lemma =>
           intro vs W hS hdep K hK; have d0 := hdep ⟨6, .data⟩ (by simp) rfl; simp only [PhiSt13B] at d0; have d1 := hdep ⟨3, .guard⟩ (by simp) rfl; simp only [PhiSt13B] at d1; refine ⟨?_⟩; simp only [Act.put, sA, sB, sC, Nat.zero_add, Nat.reduceAdd, d0, d1] at hK ⊢; rw [if_pos (by rfl)]; refine wp_load_mid 33 (.tmp 60) (by rfl) b (off + n * 24) (by rfl) (cellsP p) _ (fun j v h => cell_keep hS (HC13.out j v h)) Tryz.underlying33 (by rfl) infoP ?_; simp only [Act.put, sA, sB, sC]; with_reducible refine hK _ _ (Below.refl _ _) ?_
           exact rfl
          ·as_aux_lemma =>
           intro vs W hS hdep K hK; have d0 := hdep ⟨3, .guard⟩ (by simp) rfl; simp only [PhiSt13B] at d0; refine ⟨?_⟩; simp only [Act.put, sA, sB, sC, Nat.zero_add, Nat.reduceAdd, d0] at hK ⊢; rw [if_pos (by rfl)]; refine wp_load_mid 33 (.tmp 16) (by rfl) gp (0) (by rfl) (cellsP q) _ (blk_range (Blk.below HBP.out hS HBP.out.lt)) Tryz.underlying33 (by rfl) infoP ?_; simp only [Act.put, sA, sB, sC]; with_reducible refine hK _ _ (Below.refl _ _) ?_
           exact rfl
          ·as_aux_lemma =>
           intro vs W hS hdep K hK; have d0 := hdep ⟨7, .data⟩ (by simp) rfl; simp only [PhiSt13B] at d0; have d1 := hdep ⟨8, .data⟩ (by simp) rfl; simp only [PhiSt13B] at d1; have d2 := hdep ⟨3, .guard⟩ (by simp) rfl; simp only [PhiSt13B] at d2; refine ⟨?_⟩; simp only [Act.put, sA, sB, sC, Nat.zero_add, Nat.reduceAdd, d0, d1, d2] at hK ⊢; go_simp; refine (clash_n p q (Lf n).1 (Lf n).2 (Lf i).1 (Lf i).2 (dg n) (dg i) _ (HEn.out.1.below hS) (HEi.out.1.below hS) HEn.out.2.1 HEn.out.2.2 HEi.out.2.1 HEi.out.2.2 hdpn hdpi).mono ?_; rintro e w' ⟨E, F, cb, rfl, HX, hb⟩; obtain rfl : cb = false := HCL.out E F cb HX.out; clear HX; go_wp2_with fail; with_reducible refine hK _ _ hb ?_
           exact rfl
          ·as_aux_lemma =>
           intro vs W hS hdep K hK; have d0 := hdep ⟨3, .data⟩ (by simp) rfl; simp only [PhiSt13B] at d0; have d1 := hdep ⟨9, .data⟩ (by simp) rfl; simp only [PhiSt13B] at d1; refine ⟨?_⟩; simp only [Act.put, sA, sB, sC, Nat.zero_add, Nat.reduceAdd, d0, d1] at hK ⊢; go_simp; with_reducible refine hK _ _ (Below.refl _ _) ?_
           exact rfl
          ·as_aux_lemma =>
           intro vs W hS hdep K hK; have d0 := hdep ⟨10, .data⟩ (by simp) rfl; simp only [PhiSt13B] at d0; refine ⟨?_⟩; simp only [Act.put, sA, sB, sC, Nat.zero_add, Nat.reduceAdd, d0] at hK ⊢; go_simp; with_reducible refine hK _ _ (Below.refl _ _) ?_
           exact rfl
          ·as_aux_lemma =>
           intro vs W hS hdep K hK; have d0 := hdep ⟨11, .guard⟩ (by simp) rfl; simp only [PhiSt13B] at d0; refine ⟨?_⟩; simp only [Act.put, sA, sB, sC, Nat.zero_add, Nat.reduceAdd, d0] at hK ⊢; go_simp
           try rw [if_neg (by simp [undef])]
           with_reducible refine hK _ _ (Below.refl _ _) ?_
           exact rfl
          ·as_aux_lemma =>
           intro vs W hS hdep K hK; have d0 := hdep ⟨11, .guard⟩ (by simp) rfl; simp only [PhiSt13B] at d0; refine ⟨?_⟩; simp only [Act.put, sA, sB, sC, Nat.zero_add, Nat.reduceAdd, d0] at hK ⊢; go_simp
           try rw [if_neg (by simp [undef])]
           with_reducible refine hK _ _ (Below.refl _ _) ?_
           exact rfl
          ·as_aux_lemma =>
           intro vs W hS hdep K hK; have d0 := hdep ⟨11, .guard⟩ (by simp) rfl; simp only [PhiSt13B] at d0; refine ⟨?_⟩; simp only [Act.put, sA, sB, sC, Nat.zero_add, Nat.reduceAdd, d0] at hK ⊢; go_simp
           try rw [if_neg (by simp [undef])]
           with_reducible refine hK _ _ (Below.refl _ _) ?_
           exact rfl
          ·as_aux_lemma =>
           intro vs W hS hdep K hK; have d0 := hdep ⟨11, .guard⟩ (by simp) rfl; simp only [PhiSt13B] at d0; refine ⟨?_⟩; simp only [Act.put, sA, sB, sC, Nat.zero_add, Nat.reduceAdd, d0] at hK ⊢; go_simp
           try rw [if_neg (by simp [undef])]
           with_reducible refine hK _ _ (Below.refl _ _) ?_
           exact rfl
          ·as_aux_lemma =>
           intro vs W hS hdep K hK; have d0 := hdep ⟨11, .guard⟩ (by simp) rfl; simp only [PhiSt13B] at d0; refine ⟨?_⟩; simp only [Act.put, sA, sB, sC, Nat.zero_add, Nat.reduceAdd, d0] at hK ⊢; go_simp
           try rw [if_neg (by simp [undef])]
           with_reducible refine hK _ _ (Below.refl _ _) ?_
           exact rfl
          ·as_aux_lemma =>
           intro vs W hS hdep K hK; have d0 := hdep ⟨11, .data⟩ (by simp) rfl; simp only [PhiSt13B] at d0; refine ⟨?_⟩; simp only [Act.put, sA, sB, sC, Nat.zero_add, Nat.reduceAdd, d0] at hK ⊢; go_simp; with_reducible refine hK _ _ (Below.refl _ _) ?_
           exact rfl
         ·intro vs13 w13 hS hv; have u17 := hv 17 (by simp); simp only [PhiSt13B] at u17; simp only [Act.put, sA, sB, sC, Nat.zero_add, Nat.reduceAdd, u17]; clear u17 hv; have hbe := Below.tr hb13 hS; go_wp2_with fail
          go_roundg (gk - 1)
          case measure => omega
          case rel => exact ⟨i + 1, by go_num, by omega, HN2, hbe⟩
      ·have t1 : decide ((i : Int) < (kl : Int)) = false := by simp; omega
       have li : ¬ ((i : Int) < (kl : Int)) := by omega
       have HF : Hid (StP kl m.tick dm br Ev Lf dg ps (n : Int) 0 0) := by
        refine .inr ⟨n, rfl, hn, .inr ⟨HE0.out, rfl, ?_⟩⟩; unfold stF; rw [if_neg (by rw [HS0.out]; simp), if_neg]; rw [List.any_eq_true]; rintro ⟨j, hj, h⟩; rw [HN.out j (by have := List.mem_range.1 hj; have := HKL.out; omega)] at h
        cases h
       go_wp2_with fail
       go_ret2
       exact ⟨0, 0, rfl, HF, Below.tr hbz hbe⟩
    ·have hs0 : (s != 0) = true := by simpa using hs
     have HF : Hid (StP kl m.tick dm br Ev Lf dg ps (n : Int) s 0) := .inr ⟨n, rfl, hn, .inr ⟨HE0.out, rfl, by unfold stF; rw [if_pos (by rw [HSA.out]; exact hs), HSA.out]⟩⟩; clear hs; go_wp2_with fail
     go_ret2
     exact ⟨s, 0, rfl, HF, hbz⟩
  ·have h0 : (E != 0) = true := by simpa using hE
   have HF : Hid (StP kl m.tick dm br Ev Lf dg ps (n : Int) 0 E) := .inr ⟨n, rfl, hn, .inl ⟨by rw [← HEE.out]; exact hE, rfl, HEE.out⟩⟩; clear hE; go_wp2_with fail
   go_ret2
   exact ⟨0, E, rfl, HF, hbw2⟩
end Go.Proofs.YtijkfagkbfbpmaaGreatDoor
namespace Go.Proofs.YtijkfagkbfbpmaaGreatDoor
open Go Go.RowKit
set_option maxRecDepth 10000 in
set_option maxHeartbeats 400000 in
theorem in34_n (A : Option Addr) (k c : Nat) (l : List Int) (x : Int) (w : World) (h : RowS intC w A k l) :
  Calls Tryz.prog 15 #[.slice A k c, .int .i64 x] w fun e w' => e = .returned (.bool (l.contains x)) ∧ Below w.heap.size w w' := by
 have hkb : k ≤ 281474976710656 := h.2.2; have E1 := Lib.hid h.2.1; obtain ⟨bb, HBB⟩ : ∃ b, Hid (b = l.contains x) := ⟨_, rfl⟩; rw [← HBB.out]
 go_enter Tryz.func15, Tryz.ntmps15
 go_wp2
 go_loopg [5] k (fun j y wr => ∃ i : Nat, y = .int .i64 i ∧ i + j = k ∧ Hid (∀ j, j < i → l[j]? ≠ some x) ∧ Below w.heap.size w wr)
 case atStart => exact ⟨0, rfl, by omega, fun j h => absurd h (Nat.not_lt_zero _), Below.refl _ _⟩
 case round =>
  obtain ⟨G, hG⟩ : ∃ G, G = gk := ⟨gk, rfl⟩; subst hG; obtain ⟨i, rfl, hij, HN, hbe⟩ := hrel; by_cases hi : i < k
  ·have t1 : decide ((i : Int) < (k : Int)) = true := by simp; omega
   have li : (i : Int) < (k : Int) := by omega
   obtain ⟨b1, o1, a, rfl, hca, HA⟩ := (h.below hbe).int hi; by_cases hax : a = x
   ·have t2 : (a == x) = true := by simpa using hax
    have HR : Hid (bb = true) := by
     show _ = _
     rw [HBB.out, List.contains_iff_mem, ← hax]; exact List.mem_of_getElem? HA.out
    clear hax; go_wp2_with fail; go_ret; exact ⟨by rw [HR.out]; rfl, hbe⟩
   ·have t2 : (a == x) = false := by simpa using hax
    have HN2 : Hid (∀ j, j < i + 1 → l[j]? ≠ some x) := fun j hj => by
     rcases Nat.lt_or_ge j i with h | h
     ·exact HN.out j h
     ·rw [show j = i by omega, HA.out]; intro e; injection e with e; exact hax e
    clear hax; go_wp2_with fail
    go_roundg (G - 1)
    case measure => omega
    case rel => exact ⟨i + 1, by go_num, by omega, HN2, hbe⟩
  ·have t1 : decide ((i : Int) < (k : Int)) = false := by simp; omega
   have HR : Hid (bb = false) := by
    show _ = _
    rw [HBB.out, Bool.eq_false_iff]; intro h; obtain ⟨j, hj⟩ := List.getElem?_of_mem (List.contains_iff_mem.1 h); have := (List.getElem?_eq_some_iff.1 hj).1; exact HN.out j (by have := E1.out; omega) hj
   go_wp2_with fail; go_ret; exact ⟨by rw [HR.out]; rfl, hbe⟩
end Go.Proofs.YtijkfagkbfbpmaaGreatDoor
namespace Go.Proofs.YtijkfagkbfbpmaaGreatDoor
open Go Go.RowKit
end Go.Proofs.YtijkfagkbfbpmaaGreatDoor
namespace Go.Proofs.YtijkfagkbfbpmaaGreatDoor
open Go Go.RowKit
end Go.Proofs.YtijkfagkbfbpmaaGreatDoor
namespace Go.Proofs.YtijkfagkbfbpmaaGreatDoor
open Go Go.RowKit
end Go.Proofs.YtijkfagkbfbpmaaGreatDoor
namespace Go.Proofs.YtijkfagkbfbpmaaGreatDoor
open Go
/- The same, where what holds all along may speak of the slots' values before they are written. -/
section
variable {P : Program} {ops : Array Oper} {Q : Exit → Act → World → Prop} {md : Region.Mode}
end
end Go.Proofs.YtijkfagkbfbpmaaGreatDoor
namespace Go.Proofs.YtijkfagkbfbpmaaGreatDoor
open Go
/- The same, told besides that what an operation hangs on is done. -/
section
variable {P : Program} {ops : Array Oper} {Q : Exit → Act → World → Prop} {md : Region.Mode}
theorem wpAny_invw {Φ : Nat → World → Value → Prop} {R : World → World → Prop} (S : (Nat → Bool) → (Nat → Value) → World → Prop) (a0 : Act) (hd : apartL ops.toList = true) (hb : backC md ops = true)
  (hΦ : ∀ w w', R w w' → ∀ j x, Φ j w x → Φ j w' x)
  (hstep : ∀ i o, ops[i]? = some o → ∀ vs (L : Nat → Bool) w, S L vs w → L i = false → (∀ j o', ops[j]? = some o' → L j = true → ∀ e ∈ o'.after, Region.binds md e = true → L e.on = true) → (∀ e ∈ o.after, Region.binds md e = true → L e.on = true) → (∀ e ∈ o.after, Region.binds md e = true → Φ e.on w (vs e.on)) →
   ∀ K : Act → World → Prop, (∀ v w', R w w' → S (updB L i) (upd vs i v) w' → Φ i w' v → K ((fillR ops.toList 0 vs a0).put o.dst v) w') →
    if Region.wanted o (yielded ops (fillR ops.toList 0 vs a0).tmps) = true then Oper.wp P o (fillR ops.toList 0 vs a0) w K Q else K ((fillR ops.toList 0 vs a0).put o.dst undef) w)
  (hend : ∀ vs L w, S L vs w → (∀ i, i < ops.size → L i = true) → (∀ i, i < ops.size → Φ i w (vs i)) → Q .normal (fillR ops.toList 0 vs a0) w) :
  ∀ (fuel : Nat) (listed : Array Bool) (vs : Nat → Value) (w : World), listed.size = ops.size → listed.toList.count false = fuel → closedB md ops listed → S (fun j => listed.getD j false) vs w → (∀ j, listed.getD j false = true → Φ j w (vs j)) →
   wpAny P md ops Q fuel listed (fillR ops.toList 0 vs a0) w := by
 intro fuel
 induction fuel with
 | zero =>
  intro listed vs w hs hc hcl hSw hl
  have hall : ∀ i, i < ops.size → listed.getD i false = true := by
   intro i hi; have h' : i < listed.size := by omega
   rw [List.count_eq_zero] at hc
   cases hx : listed.getD i false with
   | true => rfl
   | false =>
    exfalso
    apply hc
    simp [h'] at hx; rw [← hx]; exact Array.getElem_mem_toList h'
  refine ⟨?_, hend vs _ w hSw hall (fun i hi => hl i (hall i hi))⟩; rw [List.eq_nil_iff_forall_not_mem]; intro i hi; obtain ⟨h1, o, ho, _⟩ := mem_ready.1 hi; have hi' : i < ops.size := (Array.getElem?_eq_some_iff.1 ho).1; have h2 := hall i hi'; have h' : i < listed.size := by omega
  simp [h'] at h1 h2; rw [h1] at h2
  cases h2
 | succ fuel ih =>
  intro listed vs w hs hc hcl hSw hl; refine ⟨fun hr => hend vs _ w hSw (all_listedC hb hs hr) (fun i hi => hl i (all_listedC hb hs hr i hi)), fun i hi => ?_⟩; obtain ⟨h1, o, ho, hall⟩ := mem_ready.1 hi; have hi' : i < ops.size := (Array.getElem?_eq_some_iff.1 ho).1; have hil : i < listed.size := by omega
  have hun : listed.getD i false = false := by simp [hil] at h1 ⊢; exact h1
  refine wpOp_step ho fun K' hK => ?_
  refine hstep i o ho vs _ w hSw hun hcl hall (fun e he hbd => hl e.on (hall e he hbd)) K' fun v w' hR hS' hv => ?_
  apply hK
  rw [fillR_upd ops.toList 0 i vs a0 o v hd (by simpa using ho), Nat.zero_add]
  have hset : (fun j => (listed.setIfInBounds i true).getD j false) = updB (fun j => listed.getD j false) i := by
   funext j
   unfold updB; by_cases hji : j = i
   ·subst hji; simp [hil]
   ·rw [if_neg hji]; simp [Array.getElem?_setIfInBounds, Ne.symm hji]
  refine ih _ _ _ (by simp [hs]) ?_ ?_ (by rw [hset]; exact hS') ?_
  ·have h1' : listed.toList[i]'(by simpa using hil) = false := by simp [hil] at h1; simpa using h1
   simp only [Array.toList_setIfInBounds]; rw [List.count_set (by simpa using hil), h1', hc]; simp
  ·intro j oj hj hlj e he hbd; by_cases hei : e.on = i
   ·rw [hei]; simp [hil]
   ·have hold : listed.getD e.on false = true := by
     by_cases hji : j = i
     ·subst hji; have : oj = o := Option.some.inj (hj.symm.trans ho); subst this; exact hall e he hbd
     ·refine hcl j oj hj ?_ e he hbd; simp [Array.getElem?_setIfInBounds, Ne.symm hji] at hlj
      simpa using hlj
    simp [Array.getElem?_setIfInBounds, Ne.symm hei] at hold ⊢; exact hold
  ·intro j hj; by_cases hji : j = i
   ·subst hji; rw [show upd vs j v j = v from if_pos rfl]; exact hv
   ·rw [show upd vs i v j = vs j from if_neg hji]; refine hΦ _ _ hR j _ (hl j ?_); simp [Array.getElem?_setIfInBounds, Ne.symm hji] at hj
    simpa using hj
/-- what an operation owes; S knows what is listed, and the slots -/
def OwesW (P : Program) (Q : Exit → Act → World → Prop) (l : List Oper) (F : (Nat → Value) → Act) (Φ : Nat → World → Value → Prop) (R : World → World → Prop) (S : (Nat → Bool) → (Nat → Value) → World → Prop) (i : Nat) (o : Oper) : Prop :=
 ∀ vs (L : Nat → Bool) w, S L vs w → L i = false → (∀ j o', l[j]? = some o' → L j = true → ∀ e ∈ o'.after.toList, Region.binds .any e = true → L e.on = true) → (∀ e ∈ o.after.toList, Region.binds .any e = true → L e.on = true) → (∀ e ∈ o.after.toList, Region.binds .any e = true → Φ e.on w (vs e.on)) → ∀ K : Act → World → Prop, (∀ v w', R w w' → S (updB L i) (upd vs i v) w' → Φ i w' v → K ((F vs).put o.dst v) w') →
  Wrap (if Region.wanted o (yielded l.toArray (F vs).tmps) = true then Oper.wp P o (F vs) w K Q else K ((F vs).put o.dst undef) w)
theorem region_invW {id : Nat} {a0 : Act} {w : World} {l : List Oper} {F : (Nat → Value) → Act} (Φ : Nat → World → Value → Prop) (R : World → World → Prop) (S : (Nat → Bool) → (Nat → Value) → World → Prop) (hm : P.follows .mixedOrders = true) (hd : apartL l = true) (hb : backC .any l.toArray = true)
  (hΦ : ∀ w w', R w w' → ∀ j x, Φ j w x → Φ j w' x) (hS0 : S (fun _ => false) (ownV l a0) w.drew) (hF : ∀ vs, fillR l 0 vs a0 = F vs)
  (hstep : StepsL (OwesW P Q l F Φ R S) 0 l)
  (hend : ∀ vs L w, S L vs w → (∀ i, i < l.length → L i = true) → (∀ i, i < l.length → Φ i w (vs i)) → Q .normal (F vs) w) : (Code.region id l.toArray true).wp P Q a0 w := by
 refine wp_region_any hm ?_; have hrep : (fun j => (Array.replicate l.toArray.size false).getD j false) = (fun _ => false) := by funext j; exact repF
 have h := wpAny_invw (P := P) (Q := Q) (md := .any) (ops := l.toArray) (Φ := Φ) (R := R) S a0 hd hb hΦ (fun i o ho vs L w hSw hL hcl hdl hdep K hK => by
  have := hstep i o (by simpa using ho); rw [Nat.zero_add] at this; have h2 := (this vs L w hSw hL (fun j o' hj hlj e he hbd => hcl j o' (by simpa using hj) hlj e (by simpa using he) hbd) (fun e he hbd => hdl e (by simpa using he) hbd) (fun e he hbd => hdep e (by simpa using he) hbd) K (by rw [← hF vs]; exact hK)).un; rw [← hF vs] at h2
  exact h2) (fun vs L w hSw hall h => by
   have h3 := hend vs L w hSw (fun i hi => hall i (by simpa using hi)) (fun i hi => h i (by simpa using hi)); rw [← hF vs] at h3
   exact h3) l.toArray.size (Array.replicate l.toArray.size false) (ownV l a0) w.drew (by simp) (by simp) (fun j o _ hj => by rw [repF] at hj; cases hj) (by rw [hrep]; exact hS0) (fun j hj => by rw [repF] at hj; cases hj)
 rw [fillR_id] at h
 ·exact h
 ·intro j o ho d hd'; rw [Nat.zero_add]; unfold ownV; rw [ho]; simp [hd']
end
end Go.Proofs.YtijkfagkbfbpmaaGreatDoor
namespace Go.Proofs.YtijkfagkbfbpmaaGreatDoor
open Go
/- A region that draws its order and ends in a chain: what leads to the chain's first operation is done in any order ('early'), some operations that need nothing of the world are done at any time ('free'), the chain's operations follow each other. -/
section
variable {P : Program} {Q : Exit → Act → World → Prop}
/-- operation i waits for j, itself or through others -/
def reachB (l : List Oper) : Nat → Nat → Nat → Bool
 | 0, _, _ => false
 | n + 1, i, j => match l[i]? with
  | some o => o.after.toList.any fun e => Region.binds .any e && (e.on == j || reachB l n e.on j)
  | none => false
theorem reach_listed {l : List Oper} {L : Nat → Bool} (hcl : ∀ j o', l[j]? = some o' → L j = true → ∀ e ∈ o'.after.toList, Region.binds .any e = true → L e.on = true) :
  ∀ (n i j : Nat) (o : Oper), l[i]? = some o → (∀ e ∈ o.after.toList, Region.binds .any e = true → L e.on = true) → reachB l n i j = true → L j = true
 | 0, _, _, _, _, _, h => by cases h
 | n + 1, i, j, o, ho, hd, h => by
  simp only [reachB, ho, List.any_eq_true, Bool.and_eq_true, Bool.or_eq_true, beq_iff_eq] at h; obtain ⟨e, he, hb, h⟩ := h; have h1 := hd e he hb
  rcases h with h | h
  ·rw [← h]; exact h1
  ·cases ho2 : l[e.on]? with
   | none => cases n <;> simp [reachB, ho2] at h
   | some o2 => exact reach_listed hcl n e.on j o2 ho2 (hcl e.on o2 ho2 h1) h
inductive Tg where
 | early | free
 | chain (k : Nat)
def tagB (l : List Oper) (cs : List Nat) (tags : List Tg) (fr dep : List Nat) : Bool :=
 (List.range l.length).all (fun i => match tags[i]? with
  | some .early => !cs.contains i && (match cs with | c :: _ => reachB l l.length c i | [] => false)
  | some .free => !cs.contains i && fr.contains i && (match l[i]? with | some o => o.after.toList.all (fun e => !Region.binds .any e || fr.contains e.on) | none => false)
  | some (.chain k) => cs[k]? == some i && !fr.contains i
  | none => false) &&
 (List.range cs.length).all (fun k => (List.range k).all fun j => match cs[k]?, cs[j]? with
  | some a, some b => reachB l l.length a b && a != b
  | _, _ => false) && !cs.isEmpty && cs.all (fun c => decide (c < l.length)) && dep.all (fun d => match tags[d]? with | some .early => true | _ => false)
def OwesK (P : Program) (Q : Exit → Act → World → Prop) (l : List Oper) (a0 : Act) (F : (Nat → Value) → Act) (cs : List Nat) (tags : List Tg) (fr : List Nat) (Φ : (Nat → Value) → Nat → World → Value → Prop) (R : World → World → Prop) (S : List Value → (Nat → Value) → World → Prop) (i : Nat) (o : Oper) : Prop :=
 match tags[i]? with
 | some .early => ∀ vs w, S [] vs w → (∀ c ∈ cs, vs c = ownV l a0 c) → (∀ e ∈ o.after.toList, Region.binds .any e = true → Φ vs e.on w (vs e.on)) → ∀ K : Act → World → Prop, (∀ v w', R w w' → Φ vs i w' v → K ((F vs).put o.dst v) w') →
  Wrap (if Region.wanted o (yielded l.toArray (F vs).tmps) = true then Oper.wp P o (F vs) w K Q else K ((F vs).put o.dst undef) w)
 | some .free => ∀ vs w, (∀ e ∈ o.after.toList, Region.binds .any e = true → Φ vs e.on w (vs e.on)) → ∀ K : Act → World → Prop, (∀ v, Φ vs i w v → K ((F vs).put o.dst v) w) →
  Wrap (if Region.wanted o (yielded l.toArray (F vs).tmps) = true then Oper.wp P o (F vs) w K Q else K ((F vs).put o.dst undef) w)
 | some (.chain k) => ∀ vs w, S ((cs.take k).map vs) vs w → (∀ e ∈ o.after.toList, Region.binds .any e = true → (k == 0 || fr.contains e.on) = true → Φ vs e.on w (vs e.on)) → ∀ K : Act → World → Prop, (∀ v w', S ((cs.take k).map vs ++ [v]) vs w' → K ((F vs).put o.dst v) w') →
  Wrap (if Region.wanted o (yielded l.toArray (F vs).tmps) = true then Oper.wp P o (F vs) w K Q else K ((F vs).put o.dst undef) w)
 | none => True
/-- how it stands, by what is listed -/
def StK (l : List Oper) (a0 : Act) (cs : List Nat) (fr : List Nat) (Φ : (Nat → Value) → Nat → World → Value → Prop) (S : List Value → (Nat → Value) → World → Prop) (L : Nat → Bool) (vs : Nat → Value) (w : World) : Prop :=
 ∃ k, k ≤ cs.length ∧ (∀ (j c : Nat), cs[j]? = some c → (L c = true ↔ j < k)) ∧ S ((cs.take k).map vs) vs w ∧ (∀ j, L j = true → j < l.length ∧ (k = 0 ∨ fr.contains j = true → Φ vs j w (vs j))) ∧ (∀ j, L j = false → vs j = ownV l a0 j)
theorem map_upd {cs : List Nat} {k i : Nat} {vs : Nat → Value} {v : Value} (h : i ∉ cs.take k) : (cs.take k).map (upd vs i v) = (cs.take k).map vs := by
 apply List.map_congr_left
 intro c hc; exact if_neg (fun e : c = i => h (e ▸ hc))
theorem region_chain {id : Nat} {a0 : Act} {w : World} {l : List Oper} {F : (Nat → Value) → Act} (cs : List Nat) (tags : List Tg) (fr dep : List Nat) (Φ : (Nat → Value) → Nat → World → Value → Prop) (R : World → World → Prop) (S : List Value → (Nat → Value) → World → Prop) (hm : P.follows .mixedOrders = true) (hd : apartL l = true) (hb : backC .any l.toArray = true) (ht : tagB l cs tags fr dep = true)
  (hC : StepsL (Hangs Φ) 0 l) (hR : ∀ vs w w', R w w' → ∀ j x, Φ vs j w x → Φ vs j w' x) (hF' : ∀ vs w w' j x, fr.contains j = true → Φ vs j w x → Φ vs j w' x) (hS : ∀ vs vs' w w', R w w' → S [] vs w → S [] vs' w') (hins : ∀ li vs vs' w, (∀ j ∈ dep, vs j = vs' j) → S li vs w → S li vs' w) (hS0 : ∀ vs, S [] vs w.drew) (hF : ∀ vs, fillR l 0 vs a0 = F vs)
  (hstep : StepsL (OwesK P Q l a0 F cs tags fr Φ R S) 0 l)
  (hend : ∀ vs w, S (cs.map vs) vs w → (∀ i, i < l.length → fr.contains i = true → Φ vs i w (vs i)) → Q .normal (F vs) w) : (Code.region id l.toArray true).wp P Q a0 w := by
 simp only [tagB, Bool.and_eq_true, Bool.not_eq_true', List.all_eq_true, List.mem_range] at ht; obtain ⟨⟨⟨⟨ht1, ht2⟩, ht3⟩, ht4⟩, ht5⟩ := ht; simp only [decide_eq_true_iff] at ht4
 have hch : ∀ (a b ca cb : Nat), cs[a]? = some ca → cs[b]? = some cb → b < a → reachB l l.length ca cb = true ∧ ca ≠ cb := by
  intro a b ca cb ha hb2 hlt; have h := ht2 a (List.getElem?_eq_some_iff.1 ha).1 b hlt; rw [ha, hb2] at h
  simpa using h
 have hinj : ∀ (a b c : Nat), cs[a]? = some c → cs[b]? = some c → a = b := by
  intro a b c ha hb2
  rcases Nat.lt_trichotomy a b with h | h | h
  ·exact absurd rfl (hch b a c c hb2 ha h).2
  ·exact h
  ·exact absurd rfl (hch a b c c ha hb2 h).2
 refine region_invW (F := F) (fun _ _ _ => True) (fun _ _ => True) (StK l a0 cs fr Φ S) hm hd hb (fun _ _ _ _ _ h => h) ?_ hF ?_ ?_
 ·refine ⟨0, Nat.zero_le _, fun j c _ => ?_, by simpa using hS0 _, (fun j h => by cases h), fun j _ => rfl⟩; simp
 ·intro i o ho vs L W hSt hL hcl hdl _ K hK; rw [Nat.zero_add] at hL hK; obtain ⟨k0, hk0, hiff, hSk, hPh, hUn⟩ := hSt; have hi : i < l.length := (List.getElem?_eq_some_iff.1 ho).1; have hown := hstep i o ho; rw [Nat.zero_add] at hown
  have hhang : ∀ (j : Nat) w2 v, L j = true → Φ vs j w2 (vs j) → Φ (upd vs i v) j w2 (vs j) := by
   intro j w2 v hj h; have hjl : j < l.length := (hPh j hj).1; refine hC j _ (List.getElem?_eq_getElem hjl) vs (upd vs i v) w2 (vs j) (fun e he hb2 => ?_) (by rw [Nat.zero_add]; exact h) |> fun h => by rwa [Nat.zero_add] at h
   symm
   refine if_neg (fun e2 => ?_); have := hcl j _ (List.getElem?_eq_getElem hjl) hj e he hb2; rw [e2, hL] at this
   cases this
  have hself : ∀ w2 v, Φ vs i w2 v → Φ (upd vs i v) i w2 v := by
   intro w2 v h; refine hC i o ho vs (upd vs i v) w2 v (fun e he hb2 => ?_) (by rw [Nat.zero_add]; exact h) |> fun h => by rwa [Nat.zero_add] at h
   symm
   refine if_neg (fun e2 => ?_); have := hdl e he hb2; rw [e2, hL] at this
   cases this
  have ht := ht1 i hi; unfold OwesK at hown
  cases htg : tags[i]? with
  | none => rw [htg] at ht; cases ht
  | some tg =>
   rw [htg] at ht hown
   have hun : ∀ (v : Value) (j : Nat), updB L i j = false → upd vs i v j = ownV l a0 j := by
    intro v j hj; by_cases hji : j = i
    ·subst hji; rw [show updB L j j = true from if_pos rfl] at hj; cases hj
    ·rw [show updB L i j = L j from if_neg hji] at hj; rw [show upd vs i v j = vs j from if_neg hji]; exact hUn j hj
   have hdep2 : ∀ (v : Value), tags[i]? ≠ some .early → ∀ j ∈ dep, vs j = upd vs i v j := by
    intro v hne j hj
    symm
    refine if_neg (fun e => ?_); have h := ht5 j hj; rw [e] at h
    cases h2 : tags[i]? with
    | none => rw [h2] at h; cases h
    | some x => cases x with
     | early => exact hne h2
     | free => rw [h2] at h; cases h
     | chain _ => rw [h2] at h; cases h
   -- an operation that is not of the chain: the stage stays
   have hkeep : ∀ v w', i ∉ cs → S ((cs.take k0).map vs) (upd vs i v) w' → (∀ j, L j = true → k0 = 0 ∨ fr.contains j = true → Φ vs j w' (vs j)) → (k0 = 0 ∨ fr.contains i = true → Φ vs i w' v) → StK l a0 cs fr Φ S (updB L i) (upd vs i v) w' := by
    intro v w' hni hS2 hP2 hv; refine ⟨k0, hk0, fun j c hc => ?_, by rw [map_upd (fun h => hni (List.mem_of_mem_take h))]; exact hS2, fun j hj => ?_, hun v⟩
    ·have : c ≠ i := fun e => hni (e ▸ List.mem_of_getElem? hc)
     rw [show updB L i c = L c from if_neg this]; exact hiff j c hc
    ·by_cases hji : j = i
     ·subst hji; refine ⟨hi, fun h => ?_⟩; rw [show upd vs j v j = v from if_pos rfl]; exact hself _ _ (hv h)
     ·rw [show updB L i j = L j from if_neg hji] at hj; refine ⟨(hPh j hj).1, fun h => ?_⟩; rw [show upd vs i v j = vs j from if_neg hji]; exact hhang j w' v hj (hP2 j hj h)
   cases tg with
   | early =>
    simp only [Bool.and_eq_true, Bool.not_eq_true'] at ht hown; obtain ⟨hni, hre⟩ := ht; have hni : i ∉ cs := by simpa using hni
    cases cs with
    | nil => cases ht3
    | cons c0 cs =>
     have hk : k0 = 0 := by
      rcases Nat.eq_zero_or_pos k0 with h | h
      ·exact h
      ·exfalso
       have h1 := (hiff 0 c0 rfl).2 h; have hc0 := (hPh c0 h1).1; have := reach_listed hcl l.length c0 i _ (List.getElem?_eq_getElem hc0) (hcl c0 _ (List.getElem?_eq_getElem hc0) h1) hre; rw [hL] at this; cases this
     subst hk; refine hown vs W (by simpa using hSk) (fun c hc => hUn c ?_) (fun e he hb2 => (hPh _ (hdl e he hb2)).2 (.inl rfl)) K (fun v w' hRw hv => hK v w' trivial (hkeep v w' hni ?_ ?_ (fun _ => hv)) trivial)
     ·cases hLc : L c with
      | false => rfl
      | true =>
       obtain ⟨j, hj⟩ := List.getElem?_of_mem hc; have := (hiff j c hj).1 hLc; omega
     ·simpa using hS _ _ _ _ hRw (by simpa using hSk)
     ·intro j hj h; exact hR vs _ _ hRw j _ ((hPh j hj).2 h)
   | free =>
    simp only [Bool.and_eq_true, Bool.not_eq_true'] at ht hown; obtain ⟨⟨hni, hfi⟩, hfa⟩ := ht; have hni : i ∉ cs := by simpa using hni
    rw [ho] at hfa; simp only [List.all_eq_true, Bool.or_eq_true, Bool.not_eq_true'] at hfa; refine hown vs W (fun e he hb2 => (hPh _ (hdl e he hb2)).2 (.inr ?_)) K (fun v hv => hK v W trivial (hkeep v W hni (hins _ _ _ _ (hdep2 v (by intro e; rw [htg] at e; cases e)) hSk) (fun j hj h => (hPh j hj).2 h) (fun _ => hv)) trivial)
    rcases hfa e he with h | h
    ·rw [hb2] at h; cases h
    ·exact h
   | chain k =>
    simp only [Bool.and_eq_true, Bool.not_eq_true', beq_iff_eq] at ht hown; obtain ⟨hck, hfi⟩ := ht; have hkl : k < cs.length := (List.getElem?_eq_some_iff.1 hck).1
    have h1 : ¬ k < k0 := fun h => by
     have := (hiff k i hck).2 h; rw [hL] at this; cases this
    have hk : k0 = k := by
     rcases Nat.lt_or_ge k0 k with h | h
     ·exfalso
      have hc0 : cs[k0]? = some (cs[k0]'(by omega)) := List.getElem?_eq_getElem (by omega); have hr := (hch k k0 i _ hck hc0 h).1; have := reach_listed hcl l.length i _ o ho hdl hr; have := (hiff k0 _ hc0).1 this; omega
     ·omega
    subst hk; refine hown vs W hSk (fun e he hb2 hf => (hPh _ (hdl e he hb2)).2 (by simpa using hf)) K (fun v w' hS2 => hK v w' trivial ⟨k0 + 1, by omega, fun j c hc => ?_, ?_, fun j hj => ?_, hun v⟩ trivial)
    ·by_cases hci : c = i
     ·subst hci; rw [show updB L c c = true from if_pos rfl]; have := hinj j k0 c hc hck; simp; omega
     ·rw [show updB L i c = L c from if_neg hci, hiff j c hc]; have : j ≠ k0 := fun e => hci (by rw [e, hck] at hc; exact (Option.some.inj hc).symm)
      omega
    ·have hni : i ∉ cs.take k0 := by
      intro h; obtain ⟨j, hj⟩ := List.getElem?_of_mem h
      have hj2 : j < k0 := by
       have := (List.getElem?_eq_some_iff.1 hj).1; simp at this; omega
      rw [List.getElem?_take_of_lt hj2] at hj; have := hinj j k0 i hj hck; omega
     rw [List.take_add_one, hck, List.map_append, map_upd hni]; have h3 := hins _ _ _ _ (hdep2 v (by intro e; rw [htg] at e; cases e)) hS2
     simpa [upd] using h3
    ·by_cases hji : j = i
     ·subst hji; refine ⟨hi, fun h => ?_⟩
      rcases h with h | h
      ·omega
      ·rw [hfi] at h; cases h
     ·rw [show updB L i j = L j from if_neg hji] at hj; refine ⟨(hPh j hj).1, fun h => ?_⟩; rw [show upd vs i v j = vs j from if_neg hji]
      have hf : fr.contains j = true := by
       rcases h with h | h
       ·omega
       ·exact h
      exact hhang j w' v hj (hF' vs _ _ j _ hf ((hPh j hj).2 (.inr hf)))
 ·intro vs L W hSt hall _; obtain ⟨k0, hk0, hiff, hSk, hPh, hUn⟩ := hSt
  have hk : k0 = cs.length := by
   rcases Nat.lt_or_ge k0 cs.length with h | h
   ·exfalso
    have hc0 : cs[k0]? = some cs[k0] := List.getElem?_eq_getElem h; have hcl : cs[k0] < l.length := ht4 _ (List.getElem_mem h); have := (hiff k0 _ hc0).1 (hall _ hcl); omega
   ·omega
  subst hk; rw [List.take_length] at hSk; exact hend vs W hSk (fun i hi hf => (hPh i (hall i hi)).2 (.inr hf))
end
end Go.Proofs.YtijkfagkbfbpmaaGreatDoor
namespace Go.Proofs.YtijkfagkbfbpmaaGreatDoor
open Go Go.RowKit
end Go.Proofs.YtijkfagkbfbpmaaGreatDoor
namespace Go.Proofs.YtijkfagkbfbpmaaGreatDoor
open Go Go.RowKit
end Go.Proofs.YtijkfagkbfbpmaaGreatDoor
namespace Go.Proofs.YtijkfagkbfbpmaaGreatDoor
open Go Go.RowKit
end Go.Proofs.YtijkfagkbfbpmaaGreatDoor
