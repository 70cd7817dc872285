import Derived.Test.YtnjjdiilkhdbeaaGreatKExsProof27
import Derived.Test.YtnjjdiilkhdbeaaGreatKExsProof24
import Derived.Test.YtnjjdiilkhdbeaaGreatS0
set_option linter.unusedVariables false
set_option linter.unusedSimpArgs false
namespace Go.Proofs.YtnjjdiilkhdbeaaGreat
open Go Go.RowKit
def PhiRb (gX n2 k bo oo n1 co gp : Nat) (a1 a2 c1 c2 q1 q2 s1 s2 x1 x2 : Value) (a c q s b : LP) (vs : Nat → Value) (j : Nat) (w : World) (x : Value) : Prop :=
 match j with
 | 0 => x = .slice (some ⟨gX, 0, none⟩) n2 n2
 | 1 => x = .int .i64 (k : Nat)
 | 2 => x = .slice (some ⟨gX, 0, none⟩) n2 n2
 | 3 => x = .int .i64 (k : Nat)
 | 4 => x = .pointer (some ⟨gX, k * 2, none⟩)
 | 5 => x = .agg #[a1, a2]
 | 6 => x = .slice (some ⟨bo, oo, none⟩) n1 co
 | 7 => x = .int .i64 (k : Nat)
 | 8 => x = .pointer (some ⟨bo, oo + k * 2, none⟩)
 | 9 => x = .agg #[c1, c2]
 | 10 => x = .agg #[q1, q2]
 | 11 => RtP w x (subV oneP q)
 | 12 => x = .agg #[s1, s2]
 | 13 => x = .pointer (some ⟨gp, 0, none⟩)
 | 14 => x = .agg #[x1, x2]
 | 15 => RtP w x (stakeF b s false)
 | 16 => RtP w x (mulV (subV oneP q) (stakeF b s false))
 | 17 => RtP w x (mulV c (mulV (subV oneP q) (stakeF b s false)))
 | 18 => RtP w x (addV a (mulV c (mulV (subV oneP q) (stakeF b s false))))
 | 19 => x = .pointer (some ⟨gX, k * 2, none⟩)
 | _ => True
theorem PhiRb.keepR {gX n2 k bo oo n1 co gp : Nat} {a1 a2 c1 c2 q1 q2 s1 s2 x1 x2 : Value} {a c q s b : LP} : ∀ vs (w w' : World), Below w.heap.size w w' → ∀ j x, PhiRb gX n2 k bo oo n1 co gp a1 a2 c1 c2 q1 q2 s1 s2 x1 x2 a c q s b vs j w x → PhiRb gX n2 k bo oo n1 co gp a1 a2 c1 c2 q1 q2 s1 s2 x1 x2 a c q s b vs j w' x := by
 intro vs w w' hb j x h; unfold PhiRb at h ⊢
 split <;> simp only at h ⊢
 all_goals first
  | exact h
  | exact h.below hb
  | (obtain ⟨v, er, e, h⟩ := h; exact ⟨v, er, e, h.below hb⟩)
theorem PhiRb.keepF {gX n2 k bo oo n1 co gp : Nat} {a1 a2 c1 c2 q1 q2 s1 s2 x1 x2 : Value} {a c q s b : LP} : ∀ vs (w w' : World) j x, ([] : List Nat).contains j = true → PhiRb gX n2 k bo oo n1 co gp a1 a2 c1 c2 q1 q2 s1 s2 x1 x2 a c q s b vs j w x → PhiRb gX n2 k bo oo n1 co gp a1 a2 c1 c2 q1 q2 s1 s2 x1 x2 a c q s b vs j w' x := by
 intro vs w w' j x hf
 cases hf
def PhiRc (gX n2 k bo oo n1 co gp : Nat) (a1 a2 c1 c2 q1 q2 s1 s2 x1 x2 : Value) (a c q s b : LP) (vs : Nat → Value) (j : Nat) (w : World) (x : Value) : Prop :=
 match j with
 | 0 => x = .slice (some ⟨gX, 0, none⟩) n2 n2
 | 1 => x = .int .i64 (k : Nat)
 | 2 => x = .int .i64 ((k : Int) + 1)
 | 3 => x = .slice (some ⟨gX, 0, none⟩) n2 n2
 | 4 => x = .int .i64 (k : Nat)
 | 5 => x = .int .i64 ((k : Int) + 1)
 | 6 => x = .pointer (some ⟨gX, (k + 1) * 2, none⟩)
 | 7 => x = .agg #[a1, a2]
 | 8 => x = .slice (some ⟨bo, oo, none⟩) n1 co
 | 9 => x = .int .i64 (k : Nat)
 | 10 => x = .pointer (some ⟨bo, oo + k * 2, none⟩)
 | 11 => x = .agg #[c1, c2]
 | 12 => x = .agg #[q1, q2]
 | 13 => x = .agg #[s1, s2]
 | 14 => x = .pointer (some ⟨gp, 0, none⟩)
 | 15 => x = .agg #[x1, x2]
 | 16 => RtP w x (stakeF b s true)
 | 17 => RtP w x (mulV q (stakeF b s true))
 | 18 => RtP w x (mulV c (mulV q (stakeF b s true)))
 | 19 => RtP w x (addV nilP (mulV c (mulV q (stakeF b s true))))
 | 20 => x = .pointer (some ⟨gX, (k + 1) * 2, none⟩)
 | _ => True
theorem PhiRc.keepR {gX n2 k bo oo n1 co gp : Nat} {a1 a2 c1 c2 q1 q2 s1 s2 x1 x2 : Value} {a c q s b : LP} : ∀ vs (w w' : World), Below w.heap.size w w' → ∀ j x, PhiRc gX n2 k bo oo n1 co gp a1 a2 c1 c2 q1 q2 s1 s2 x1 x2 a c q s b vs j w x → PhiRc gX n2 k bo oo n1 co gp a1 a2 c1 c2 q1 q2 s1 s2 x1 x2 a c q s b vs j w' x := by
 intro vs w w' hb j x h; unfold PhiRc at h ⊢
 split <;> simp only at h ⊢
 all_goals first
  | exact h
  | exact h.below hb
  | (obtain ⟨v, er, e, h⟩ := h; exact ⟨v, er, e, h.below hb⟩)
theorem PhiRc.keepF {gX n2 k bo oo n1 co gp : Nat} {a1 a2 c1 c2 q1 q2 s1 s2 x1 x2 : Value} {a c q s b : LP} : ∀ vs (w w' : World) j x, ([] : List Nat).contains j = true → PhiRc gX n2 k bo oo n1 co gp a1 a2 c1 c2 q1 q2 s1 s2 x1 x2 a c q s b vs j w x → PhiRc gX n2 k bo oo n1 co gp a1 a2 c1 c2 q1 q2 s1 s2 x1 x2 a c q s b vs j w' x := by
 intro vs w w' j x hf
 cases hf
def PhiRd (gT bo oo i n1 co : Nat) (t1 t2 c1 c2 : Value) (a c : LP) (vs : Nat → Value) (j : Nat) (w : World) (x : Value) : Prop :=
 match j with
 | 0 => x = .agg #[t1, t2]
 | 1 => x = .slice (some ⟨bo, oo, none⟩) n1 co
 | 2 => x = .int .i64 (i : Nat)
 | 3 => x = .pointer (some ⟨bo, oo + i * 2, none⟩)
 | 4 => x = .agg #[c1, c2]
 | 5 => RtP w x (addV a c)
 | _ => True
theorem PhiRd.keepR {gT bo oo i n1 co : Nat} {t1 t2 c1 c2 : Value} {a c : LP} : ∀ vs (w w' : World), Below w.heap.size w w' → ∀ j x, PhiRd gT bo oo i n1 co t1 t2 c1 c2 a c vs j w x → PhiRd gT bo oo i n1 co t1 t2 c1 c2 a c vs j w' x := by
 intro vs w w' hb j x h; unfold PhiRd at h ⊢
 split <;> simp only at h ⊢
 all_goals first
  | exact h
  | exact h.below hb
  | (obtain ⟨v, er, e, h⟩ := h; exact ⟨v, er, e, h.below hb⟩)
theorem PhiRd.keepF {gT bo oo i n1 co : Nat} {t1 t2 c1 c2 : Value} {a c : LP} : ∀ vs (w w' : World) j x, ([] : List Nat).contains j = true → PhiRd gT bo oo i n1 co t1 t2 c1 c2 a c vs j w x → PhiRd gT bo oo i n1 co t1 t2 c1 c2 a c vs j w' x := by
 intro vs w w' j x hf
 cases hf
set_option maxRecDepth 100000 in
set_option maxHeartbeats 4000000 in
theorem rexpect_F (va vq : Value) (b q : LP) (rows : List (List LP)) (n : Int) (w : World) (hp : PlanV w va b rows) (hq : RtP w vq q) :
  Calls Tryz.prog 13 #[va, vq, .int .i64 n] w fun e w' => ∃ v, e = .returned (.tuple #[v, .int .i64 (expE b rows q n)]) ∧ RtP w' v (rexpX b rows q n) ∧ Below w.heap.size w w' := by
 obtain ⟨x1, x2, S, kS, cS, rfl, hbd, hrows⟩ := hp; obtain ⟨Q1, qk1, qc1, Q2, qk2, qc2, rfl⟩ := hq.shape; obtain ⟨E, HE⟩ : ∃ E, Hid (E = expE b rows q n) := ⟨_, rfl⟩; obtain ⟨X, HX0⟩ : ∃ X, Hid (X = rexpX b rows q n) := ⟨_, rfl⟩; have HXE : Hid (E ≠ 0 → X = nilP) := fun h => by rw [HX0.out]; unfold rexpX; rw [if_pos (by rw [← HE.out]; exact h)]
 rw [← HE.out, ← HX0.out]
 go_enter Tryz.func13, Tryz.ntmps13
 go_upto_region 1 with fail; refine wp_name ?_; intro w1 HW1; have hb1 : Below w.heap.size w w1 := by rw [HW1.out]; exact (Below.tr (Below.tr (bA _ _) (bA _ _)) (bA _ _))
 have hB1 : Blk w1 w.heap.size 28 #[x1, x2, .slice S kS cS] := by rw [HW1.out]; exact Blk.below (Blk.newG rfl) (Below.tr (bA _ _) (bA _ _)) (Blk.newG rfl).lt
 have hB2 : Blk w1 (w.heap.size + 1) 25 #[.slice Q1 qk1 qc1, .slice Q2 qk2 qc2] := by rw [HW1.out]; exact Blk.below (Blk.newG (by simp)) (bA _ _) (by simp)
 have hs1 : Sl w1 (w.heap.size + 1 + 1) := by rw [HW1.out]; exact ⟨none, 0, 0, none, 0, 0, Blk.newG (by simp)⟩
 clear HW1; obtain ⟨gp, hgp⟩ : ∃ g, Hid (g = w.heap.size) := ⟨_, rfl⟩; obtain ⟨gq, hgq⟩ : ∃ g, Hid (g = w.heap.size + 1) := ⟨_, rfl⟩; obtain ⟨gr, hgrr⟩ : ∃ g, Hid (g = w.heap.size + 1 + 1) := ⟨_, rfl⟩; have hgr : w.heap.size ≤ gr := by have := hgrr.out; omega
 rw [← hgrr.out] at hs1 ⊢; rw [← hgq.out] at hB2 ⊢; rw [← hgp.out] at hB1 ⊢; have hpl : PlanV w1 (.agg #[x1, x2, .slice S kS cS]) b rows := ⟨x1, x2, S, kS, cS, rfl, hbd.below hb1, hrows.below hb1⟩; have hqv := hq.below hb1; have hbv := hbd.below hb1; have p0 := hB1.cell 0; have p1 := hB1.cell 1; have p2 := hB1.cell 2; have q0 := hB2.cell 0; have q1 := hB2.cell 1; simp only [List.getElem?_toArray, List.getElem?_cons_zero, List.getElem?_cons_succ] at p0 p1 p2 q0 q1; clear hgp hgrr hB1 hbd hrows hgq hB2 hq; go_wp2_with fail; refine (rvalid17_F _ b rows _ hpl).mono ?_; rintro e w2 ⟨rfl, hb2⟩; have hbw2 := Below.tr hb1 hb2; have hs2 := hs1.below hb2; by_cases h0 : planE b rows = 0
 ·have HPE := Lib.hid h0; rw [h0]; clear h0; have p0 := cell_keep hb2 p0; have p1 := cell_keep hb2 p1; have p2 := cell_keep hb2 p2; have q0 := cell_keep hb2 q0; have q1 := cell_keep hb2 q1; have hpl := hpl.below hb2; have hqv := hqv.below hb2; have hbv := hbv.below hb2; go_wp2_with fail; refine (rpart17_F _ q _ hqv).mono ?_; rintro e w3 ⟨rfl, hb3⟩; have hbw3 := Below.tr hbw2 hb3; have hs3 := hs2.below hb3
  cases hpq : partB q
  ·have HF : Hid (E = 1) := by show _ = _; rw [HE.out]; unfold expE; rw [if_neg (by rw [HPE.out]; simp), if_pos hpq]
   have HX : Hid (X = nilP) := HXE.out (by rw [HF.out]; decide); clear hpq p0 p1 p2 q0 q1; obtain ⟨A', k', c', A'', k'', c'', he, ⟨a1, e1⟩, ⟨a2, e2⟩, e3, e4, z1, z2, hr, hbz⟩ := ret_ratio (w0 := w) (nil_rtP w3) hs3 hgr hbw3; simp only [nilRat, Value.agg.injEq, Array.mk.injEq, List.cons.injEq, and_true, Value.slice.injEq] at he; obtain ⟨⟨rfl, rfl, rfl⟩, rfl, rfl, rfl⟩ := he; go_wp2_with fail; exact bodyPost_ret (v := .tuple #[.agg #[.slice none 0 0, .slice none 0 0], .int .i64 _]) (by simp [results, Tryz.results13, go_sem, z1, z2]; rfl) rfl ⟨_, by rw [HF.out], by rw [HX.out]; exact hr, hbz⟩
  ·have HPQ := Lib.hid hpq; clear hpq; have p0 := cell_keep hb3 p0; have p1 := cell_keep hb3 p1; have p2 := cell_keep hb3 p2; have q0 := cell_keep hb3 q0; have q1 := cell_keep hb3 q1; have hpl := hpl.below hb3; have hqv := hqv.below hb3; have hbv := hbv.below hb3; have HE2 : Hid (E = if n < 0 ∨ 16 < n then 5 else 0) := by show _ = _; rw [HE.out]; unfold expE; rw [if_neg (by rw [HPE.out]; simp), if_neg (by rw [HPQ.out]; simp)]
   by_cases hn : n < 0
   ·have t1 : decide (n < 0) = true := by simpa using hn
    have HF : Hid (E = 5) := by show _ = _; rw [HE2.out, if_pos (.inl hn)]
    have HX : Hid (X = nilP) := HXE.out (by rw [HF.out]; decide); clear p0 p1 p2 q0 q1 hn; obtain ⟨A', k', c', A'', k'', c'', he, ⟨a1, e1⟩, ⟨a2, e2⟩, e3, e4, z1, z2, hr, hbz⟩ := ret_ratio (w0 := w) (nil_rtP w3) hs3 hgr hbw3; simp only [nilRat, Value.agg.injEq, Array.mk.injEq, List.cons.injEq, and_true, Value.slice.injEq] at he; obtain ⟨⟨rfl, rfl, rfl⟩, rfl, rfl, rfl⟩ := he; go_wp2_with fail; exact bodyPost_ret (v := .tuple #[.agg #[.slice none 0 0, .slice none 0 0], .int .i64 _]) (by simp [results, Tryz.results13, go_sem, z1, z2]; rfl) rfl ⟨_, by rw [HF.out], by rw [HX.out]; exact hr, hbz⟩
   ·have t1 : decide (n < 0) = false := by simpa using hn
    by_cases hn2 : n > 16
    ·have t2 : decide (n > 16) = true := by simpa using hn2
     have HF : Hid (E = 5) := by show _ = _; rw [HE2.out, if_pos (.inr hn2)]
     have HX : Hid (X = nilP) := HXE.out (by rw [HF.out]; decide); clear p0 p1 p2 q0 q1 hn hn2; obtain ⟨A', k', c', A'', k'', c'', he, ⟨a1, e1⟩, ⟨a2, e2⟩, e3, e4, z1, z2, hr, hbz⟩ := ret_ratio (w0 := w) (nil_rtP w3) hs3 hgr hbw3; simp only [nilRat, Value.agg.injEq, Array.mk.injEq, List.cons.injEq, and_true, Value.slice.injEq] at he; obtain ⟨⟨rfl, rfl, rfl⟩, rfl, rfl, rfl⟩ := he; go_wp2_with fail; exact bodyPost_ret (v := .tuple #[.agg #[.slice none 0 0, .slice none 0 0], .int .i64 _]) (by simp [results, Tryz.results13, go_sem, z1, z2]; rfl) rfl ⟨_, by rw [HF.out], by rw [HX.out]; exact hr, hbz⟩
    ·have t2 : decide (n > 16) = false := by simpa using hn2
     have HF : Hid (E = 0) := by show _ = _; rw [HE2.out, if_neg (by omega)]
     obtain ⟨nn, rfl⟩ := Int.eq_ofNat_of_zero_le (show 0 ≤ n by omega); have hnn : nn ≤ 16 := by omega
     have HX : Hid (X = (expL b rows q nn).foldl addV nilP) := by
      show _ = _
      rw [HX0.out]; unfold rexpX; rw [if_neg (by rw [← HE.out, HF.out]; decide)]; rfl
     have HROW := Lib.hid (fun i r => plan_row (n := i) (r := r) HPE.out); have HSF : Hid (∀ m k, k ≤ m → ∀ bad, stakeF b (stakeV rows m k) bad = factorV b rows m k bad) := fun m k h bad => stake_factor hbv.ok HPE.out h bad
     clear hn hn2 HE HE2 HX0 HXE; go_wp2_with fail; refine (rone17_F _).mono ?_; rintro e w5 ⟨v, rfl, hv, hb5⟩; obtain ⟨C1, u1, o1, C2, u2, o2, rfl⟩ := hv.shape; have hown0 := (RatOwn.one hv).mono hb5.size; have hb50 := Below.tr hb5 (bA w5 (.cells #[.slice C1 u1 o1, .slice C2 u2 o2] 25)); clear hv hb5; go_wp2_with fail
     go_loopg [9, 10] nn (fun j x9 x10 wr => ∃ (m : Nat) (X5 : List LP), x10 = .int .i64 m ∧ m + j = nn ∧ RatOwn wr w3.heap.size x9 X5 ∧ Hid (X5 = expL b rows q m) ∧ Below w3.heap.size w3 wr)
     case atStart => exact ⟨0, [oneP], rfl, by omega, hown0, rfl, hb50⟩
     case round =>
      obtain ⟨G, hG⟩ : ∃ G, G = gk := ⟨gk, rfl⟩; subst hG; obtain ⟨m, X5, rfl, hmj, hown, HXE5, hbe5⟩ := hrel; obtain ⟨wo, hwo⟩ : ∃ wo, wo = wr := ⟨_, rfl⟩; subst hwo; obtain ⟨Ao, co, rfl⟩ := hown.shp; have HXL : Hid (X5.length = m + 1) := by show _ = _; rw [HXE5.out, expL_len]
      obtain ⟨n1, HN1⟩ : ∃ n, Hid (n = m + 1) := ⟨_, rfl⟩; rw [HXL.out, ← HN1.out] at hown ⊢; by_cases hm : m < nn
      ·have t3 : decide ((m : Int) < (nn : Int)) = true := by simp; omega
       obtain ⟨n2, HN2⟩ : ∃ n, Hid (n = m + 2) := ⟨_, rfl⟩; have hmk := make_rat ((m : Int) + 2) n2 (by rw [HN2.out]; push_cast; rfl) (by have := HN2.out; omega) wo; go_upto_region 13 with fail; refine wp_name ?_; intro w6 HW6; obtain ⟨gX, hgX⟩ : ∃ g, Hid (g = wo.heap.size) := ⟨_, rfl⟩; have hb6 : Below wo.heap.size wo w6 := by rw [HW6.out]; exact bA _ _
       have hownY : RatOwn w6 wo.heap.size (.slice (some ⟨gX, 0, none⟩) n2 n2) (nilP :: List.replicate n1 nilP) := by
        have h := RatOwn.made wo n2 (by have := HN2.out; omega); rw [List.toArray_replicate, ← HW6.out, ← hgX.out, show List.replicate n2 nilP = nilP :: List.replicate n1 nilP by rw [HN2.out, HN1.out]; rfl] at h; rw [← hgX.out]; exact h
       have hgXo : wo.heap.size ≤ gX := by have := hgX.out; omega
       rw [← hgX.out]; clear HW6 hmk; go_wp2_with fail
       go_loopg [12] n1 (fun j x12 wx => ∃ (k : Nat) (P : List LP) (a : LP), x12 = .int .i64 k ∧ k + j = n1 ∧ Hid (P.length = k) ∧ Hid (expStep b rows q m 0 nilP X5 = P ++ expStep b rows q m k a (X5.drop k)) ∧ RatOwn wx wo.heap.size (.slice (some ⟨gX, 0, none⟩) n2 n2) (P ++ a :: List.replicate (n1 - k) nilP) ∧ Below wo.heap.size wo wx)
       case atStart => exact ⟨0, [], nilP, rfl, by omega, rfl, rfl, hownY, hb6⟩
       case round =>
        obtain ⟨G2, hG2⟩ : ∃ G, G = gk := ⟨gk, rfl⟩; subst hG2; obtain ⟨k, P, a, rfl, hkj, HPL, HST, hownx, hbx⟩ := hrel; obtain ⟨wx, hwx⟩ : ∃ wx, wx = wr := ⟨_, rfl⟩; subst hwx; have hbwx := hbe5.trans (hbx.mono hbe5.size); by_cases hk : k ≤ m
        ·have t4 : decide ((k : Int) ≤ (m : Int)) = true := by simp; omega
         have hkn1 : k < n1 := by have := HN1.out; omega
         have hkn2 : k + 1 < n2 := by have := HN2.out; omega
         have hkn : (k : Int) < (n1 : Int) := by omega
         have hkn' : (k : Int) < (n2 : Int) := by omega
         have hkn'' : (k : Int) + 1 < (n2 : Int) := by omega
         have hk0 : (0 : Int) ≤ (k : Int) + 1 := by omega
         have hm20 : m ≤ 1048576 := by omega
         have hk20 : k ≤ 1048576 := by omega
         have P0x := cell_keep hbwx p0; have P1x := cell_keep hbwx p1; have P2x := cell_keep hbwx p2; obtain ⟨bo, oo, c1, c2, c, rfl, g1, g2, HS, hcv⟩ := ((hown.below hbx).row (by have := HXL.out; omega)).at_ hkn1; obtain ⟨C1, u1, o1, C2, u2, o2, hsh⟩ := hcv.shape; simp only [Value.agg.injEq, Array.mk.injEq, List.cons.injEq, and_true] at hsh; obtain ⟨rfl, rfl⟩ := hsh; have g1 := Lib.hid g1; have g2 := Lib.hid g2; go_wp2_with fail; refine (rstake_F _ b rows m k _ (hpl.below hbwx) hm20 hk20).mono ?_; rintro e w8 ⟨v, rfl, hsv, hb8⟩; obtain ⟨D1, y1, d1, D2, y2, d2, rfl⟩ := hsv.shape; go_upto_region 17 with fail; refine wp_name ?_; intro wy HWy; have hb8y : Below w8.heap.size w8 wy := by rw [HWy.out]; exact bA _ _
         have hby := Below.tr hb8 hb8y; have hBc : Blk wy w8.heap.size 25 #[.slice D1 y1 d1, .slice D2 y2 d2] := by rw [HWy.out]; exact Blk.new _ _ _
         obtain ⟨gC, hgC⟩ : ∃ g, Hid (g = w8.heap.size) := ⟨_, rfl⟩; rw [← hgC.out] at hBc ⊢; obtain ⟨Y, HY⟩ : ∃ Y, Hid (Y = P ++ a :: List.replicate (n1 - k) nilP) := ⟨_, rfl⟩; rw [← HY.out] at hownx
         have hXC : gX ≠ gC := by
          have h1 := hownx.lt gX rfl; have h2 := hgC.out; have h3 := hb8.size; omega
         obtain ⟨s, hse⟩ : ∃ s, Hid (s = stakeV rows m k) := ⟨_, rfl⟩; rw [← hse.out] at hsv; have hbwy := hbwx.trans (hby.mono hbwx.size); have hown7 := hownx.below hby; have hc7 := hcv.below hby; have hq7 := hqv.below hbwy; have hb7 := hbv.below hbwy; have hs7 := hsv.below hb8y; have S07 := Lib.hid (hBc.cell 0); have S17 := Lib.hid (hBc.cell 1); have Q07 := Lib.hid (cell_keep hbwy q0); have Q17 := Lib.hid (cell_keep hbwy q1); have P07 := Lib.hid (cell_keep hbwy p0); have P17 := Lib.hid (cell_keep hbwy p1); have g17 := Lib.hid (cell_keep hby g1.out); have g27 := Lib.hid (cell_keep hby g2.out); simp only [List.getElem?_toArray, List.getElem?_cons_zero, List.getElem?_cons_succ] at S07 S17; have HYK7 : Y[k]? = some a := by rw [HY.out]; exact get_mid HPL.out
         obtain ⟨a1, a2, A17, A27, ha7⟩ := hown7.elem HYK7; have A17 := Lib.hid A17; have A27 := Lib.hid A27; clear HWy hBc P0x P1x P2x HYK7; refine region_chain [20] [.early, .early, .early, .early, .early, .early, .early, .early, .early, .early, .early, .early, .early, .early, .early, .early, .early, .early, .early, .early, .chain 0] [] [] (PhiRb gX n2 k bo oo n1 co gp a1 a2 (.slice C1 u1 o1) (.slice C2 u2 o2) (.slice Q1 qk1 qc1) (.slice Q2 qk2 qc2) (.slice D1 y1 d1) (.slice D2 y2 d2) x1 x2 a c q s b) (fun w w' => Below w.heap.size w w') (SEa wo.heap.size wy gX n2 n2 (Y.set k (addV a (mulV c (mulV (subV oneP q) (stakeF b s false)))))) (by kernel_rfl) (by kernel_rfl) (by kernel_rfl) (by kernel_rfl) (sK (fun _ _ _ _ _ h => h) (sK (fun _ _ _ _ _ h => h) (sK (fun _ _ _ _ _ h => h) (sK (fun _ _ _ _ _ h => h) (sK (fun _ _ _ _ _ h => h) (sK (fun _ _ _ _ _ h => h) (sK (fun _ _ _ _ _ h => h) (sK (fun _ _ _ _ _ h => h) (sK (fun _ _ _ _ _ h => h) (sK (fun _ _ _ _ _ h => h) (sK (fun _ _ _ _ _ h => h) (sK (fun _ _ _ _ _ h => h) (sK (fun _ _ _ _ _ h => h) (sK (fun _ _ _ _ _ h => h) (sK (fun _ _ _ _ _ h => h) (sK (fun _ _ _ _ _ h => h) (sK (fun _ _ _ _ _ h => h) (sK (fun _ _ _ _ _ h => h) (sK (fun _ _ _ _ _ h => h) (sK (fun _ _ _ _ _ h => h) (sK (fun _ _ _ _ _ h => h) (sZ)))))))))))))))))))))) PhiRb.keepR PhiRb.keepF (fun _ _ _ _ hR hS => Below.tr hS hR) (by rintro (_ | ⟨_, _ | _⟩) vs vs' w _ h <;> exact h) (fun _ => bD _) (fun vs => by simp only [fillR, Act.put, sA, sB, sC, Nat.zero_add, Nat.reduceAdd]; rfl) ?_ ?_
         ·refine sK ?_ (sK ?_ (sK ?_ (sK ?_ (sK ?_ (sK ?_ (sK ?_ (sK ?_ (sK ?_ (sK ?_ (sK ?_ (sK ?_ (sK ?_ (sK ?_ (sK ?_ (sK ?_ (sK ?_ (sK ?_ (sK ?_ (sK ?_ (sK ?_ (sZ)))))))))))))))))))))
          ·as_aux_lemma =>
           intro vs W hS hu hdep K hK; have HU := Lib.hid hu; clear hu; refine ⟨?_⟩; simp only [Act.put, sA, sB, sC, Nat.zero_add, Nat.reduceAdd] at hK ⊢; go_simp; with_reducible refine hK _ _ (Below.refl _ _) ?_
           exact rfl
          ·as_aux_lemma =>
           intro vs W hS hu hdep K hK; have HU := Lib.hid hu; clear hu; refine ⟨?_⟩; simp only [Act.put, sA, sB, sC, Nat.zero_add, Nat.reduceAdd] at hK ⊢; go_simp; with_reducible refine hK _ _ (Below.refl _ _) ?_
           exact rfl
          ·as_aux_lemma =>
           intro vs W hS hu hdep K hK; have HU := Lib.hid hu; clear hu; refine ⟨?_⟩; simp only [Act.put, sA, sB, sC, Nat.zero_add, Nat.reduceAdd] at hK ⊢; go_simp; with_reducible refine hK _ _ (Below.refl _ _) ?_
           exact rfl
          ·as_aux_lemma =>
           intro vs W hS hu hdep K hK; have HU := Lib.hid hu; clear hu; refine ⟨?_⟩; simp only [Act.put, sA, sB, sC, Nat.zero_add, Nat.reduceAdd] at hK ⊢; go_simp; with_reducible refine hK _ _ (Below.refl _ _) ?_
           exact rfl
          ·as_aux_lemma =>
           intro vs W hS hu hdep K hK; have HU := Lib.hid hu; clear hu; have d0 := hdep ⟨2, .data⟩ (by simp) rfl; simp only [PhiRb] at d0; have d1 := hdep ⟨3, .data⟩ (by simp) rfl; simp only [PhiRb] at d1; refine ⟨?_⟩; simp only [Act.put, sA, sB, sC, Nat.zero_add, Nat.reduceAdd, d0, d1] at hK ⊢; go_simp; with_reducible refine hK _ _ (Below.refl _ _) ?_
           exact rfl
          ·as_aux_lemma =>
           intro vs W hS hu hdep K hK; have HU := Lib.hid hu; clear hu; have d0 := hdep ⟨4, .data⟩ (by simp) rfl; simp only [PhiRb] at d0; have f0 := cell_keep hS A17.out; have f1 := cell_keep hS A27.out; refine ⟨?_⟩; simp only [Act.put, sA, sB, sC, Nat.zero_add, Nat.reduceAdd, d0] at hK ⊢; go_simp; with_reducible refine hK _ _ (Below.refl _ _) ?_
           exact rfl
          ·as_aux_lemma =>
           intro vs W hS hu hdep K hK; have HU := Lib.hid hu; clear hu; refine ⟨?_⟩; simp only [Act.put, sA, sB, sC, Nat.zero_add, Nat.reduceAdd] at hK ⊢; go_simp; with_reducible refine hK _ _ (Below.refl _ _) ?_
           exact rfl
          ·as_aux_lemma =>
           intro vs W hS hu hdep K hK; have HU := Lib.hid hu; clear hu; refine ⟨?_⟩; simp only [Act.put, sA, sB, sC, Nat.zero_add, Nat.reduceAdd] at hK ⊢; go_simp; with_reducible refine hK _ _ (Below.refl _ _) ?_
           exact rfl
          ·as_aux_lemma =>
           intro vs W hS hu hdep K hK; have HU := Lib.hid hu; clear hu; have d0 := hdep ⟨6, .data⟩ (by simp) rfl; simp only [PhiRb] at d0; have d1 := hdep ⟨7, .data⟩ (by simp) rfl; simp only [PhiRb] at d1; refine ⟨?_⟩; simp only [Act.put, sA, sB, sC, Nat.zero_add, Nat.reduceAdd, d0, d1] at hK ⊢; go_simp; with_reducible refine hK _ _ (Below.refl _ _) ?_
           exact rfl
          ·as_aux_lemma =>
           intro vs W hS hu hdep K hK; have HU := Lib.hid hu; clear hu; have d0 := hdep ⟨8, .data⟩ (by simp) rfl; simp only [PhiRb] at d0; have f0 := cell_keep hS g17.out; have f1 := cell_keep hS g27.out; refine ⟨?_⟩; simp only [Act.put, sA, sB, sC, Nat.zero_add, Nat.reduceAdd, d0] at hK ⊢; go_simp; with_reducible refine hK _ _ (Below.refl _ _) ?_
           exact rfl
          ·as_aux_lemma =>
           intro vs W hS hu hdep K hK; have HU := Lib.hid hu; clear hu; have f0 := cell_keep hS Q07.out; have f1 := cell_keep hS Q17.out; refine ⟨?_⟩; simp only [Act.put, sA, sB, sC, Nat.zero_add, Nat.reduceAdd] at hK ⊢; go_simp; with_reducible refine hK _ _ (Below.refl _ _) ?_
           exact rfl
          ·as_aux_lemma =>
           intro vs W hS hu hdep K hK; have HU := Lib.hid hu; clear hu; have d0 := hdep ⟨10, .data⟩ (by simp) rfl; simp only [PhiRb] at d0; refine ⟨?_⟩; simp only [fillR, Act.put, sA, sB, sC, Nat.zero_add, Nat.reduceAdd, d0] at hK ⊢; go_simp; refine (rless17_F _ q _ (hq7.below hS)).mono ?_; rintro e w' ⟨v, rfl, hv, hb⟩; go_wp2_with fail; with_reducible refine hK _ _ hb ?_
           exact hv
          ·as_aux_lemma =>
           intro vs W hS hu hdep K hK; have HU := Lib.hid hu; clear hu; have f0 := cell_keep hS S07.out; have f1 := cell_keep hS S17.out; refine ⟨?_⟩; simp only [Act.put, sA, sB, sC, Nat.zero_add, Nat.reduceAdd] at hK ⊢; go_simp; with_reducible refine hK _ _ (Below.refl _ _) ?_
           exact rfl
          ·as_aux_lemma =>
           intro vs W hS hu hdep K hK; have HU := Lib.hid hu; clear hu; refine ⟨?_⟩; simp only [Act.put, sA, sB, sC, Nat.zero_add, Nat.reduceAdd] at hK ⊢; go_simp; with_reducible refine hK _ _ (Below.refl _ _) ?_
           exact rfl
          ·as_aux_lemma =>
           intro vs W hS hu hdep K hK; have HU := Lib.hid hu; clear hu; have d0 := hdep ⟨13, .data⟩ (by simp) rfl; simp only [PhiRb] at d0; have f0 := cell_keep hS P07.out; have f1 := cell_keep hS P17.out; refine ⟨?_⟩; simp only [Act.put, sA, sB, sC, Nat.zero_add, Nat.reduceAdd, d0] at hK ⊢; go_simp; with_reducible refine hK _ _ (Below.refl _ _) ?_
           exact rfl
          ·as_aux_lemma =>
           intro vs W hS hu hdep K hK; have HU := Lib.hid hu; clear hu; have d0 := hdep ⟨12, .data⟩ (by simp) rfl; simp only [PhiRb] at d0; have d1 := hdep ⟨14, .data⟩ (by simp) rfl; simp only [PhiRb] at d1; refine ⟨?_⟩; simp only [fillR, Act.put, sA, sB, sC, Nat.zero_add, Nat.reduceAdd, d0, d1] at hK ⊢; go_simp; refine (rtimesF_F _ _ s b false _ (hs7.below hS) (hb7.below hS)).mono ?_; rintro e w' ⟨v, rfl, hv, hb⟩; go_wp2_with fail; with_reducible refine hK _ _ hb ?_
           exact hv
          ·as_aux_lemma =>
           intro vs W hS hu hdep K hK; have HU := Lib.hid hu; clear hu; have d0 := hdep ⟨11, .data⟩ (by simp) rfl; simp only [PhiRb] at d0; have r0 := d0; clear d0; have d1 := hdep ⟨15, .data⟩ (by simp) rfl; simp only [PhiRb] at d1; have r1 := d1; clear d1; refine ⟨?_⟩; simp only [fillR, Act.put, sA, sB, sC, Nat.zero_add, Nat.reduceAdd] at hK ⊢; go_simp; refine (rtimes17_F _ _ (subV oneP q) (stakeF b s false) _ r0 r1).mono ?_; rintro e w' ⟨v, rfl, hv, hb⟩; go_wp2_with fail; with_reducible refine hK _ _ hb ?_
           exact hv
          ·as_aux_lemma =>
           intro vs W hS hu hdep K hK; have HU := Lib.hid hu; clear hu; have d0 := hdep ⟨9, .data⟩ (by simp) rfl; simp only [PhiRb] at d0; have d1 := hdep ⟨16, .data⟩ (by simp) rfl; simp only [PhiRb] at d1; have r1 := d1; clear d1; refine ⟨?_⟩; simp only [fillR, Act.put, sA, sB, sC, Nat.zero_add, Nat.reduceAdd, d0] at hK ⊢; go_simp; refine (rtimes17_F _ _ c (mulV (subV oneP q) (stakeF b s false)) _ (hc7.below hS) r1).mono ?_; rintro e w' ⟨v, rfl, hv, hb⟩; go_wp2_with fail; with_reducible refine hK _ _ hb ?_
           exact hv
          ·as_aux_lemma =>
           intro vs W hS hu hdep K hK; have HU := Lib.hid hu; clear hu; have d0 := hdep ⟨5, .data⟩ (by simp) rfl; simp only [PhiRb] at d0; have d1 := hdep ⟨17, .data⟩ (by simp) rfl; simp only [PhiRb] at d1; have r1 := d1; clear d1; refine ⟨?_⟩; simp only [fillR, Act.put, sA, sB, sC, Nat.zero_add, Nat.reduceAdd, d0] at hK ⊢; go_simp; refine (rplus17_F _ _ a (mulV c (mulV (subV oneP q) (stakeF b s false))) _ (ha7.below hS) r1).mono ?_; rintro e w' ⟨v, rfl, hv, hb⟩; go_wp2_with fail; with_reducible refine hK _ _ hb ?_
           exact hv
          ·as_aux_lemma =>
           intro vs W hS hu hdep K hK; have HU := Lib.hid hu; clear hu; have d0 := hdep ⟨0, .data⟩ (by simp) rfl; simp only [PhiRb] at d0; have d1 := hdep ⟨1, .data⟩ (by simp) rfl; simp only [PhiRb] at d1; refine ⟨?_⟩; simp only [Act.put, sA, sB, sC, Nat.zero_add, Nat.reduceAdd, d0, d1] at hK ⊢; go_simp; with_reducible refine hK _ _ (Below.refl _ _) ?_
           exact rfl
          ·as_aux_lemma =>
           intro vs W hS hdep K hK; have d0 := hdep ⟨18, .data⟩ (by simp) rfl (by rfl); simp only [PhiRb] at d0; have d1 := hdep ⟨19, .data⟩ (by simp) rfl (by rfl); simp only [PhiRb] at d1; have hS : Below wy.heap.size wy W := hS; obtain ⟨D1, y1, z1, D2, y2, z2, e0⟩ := d0.shape; rw [e0] at d0; have hu := Lib.hid ((hown7.below hS).upd (i := k) d0); have hfa := Lib.hid (own_store2 (hown7.below hS) (show k < n2 by omega)); have hbS := Lib.hid hS; clear hS; obtain ⟨⟨x1, f1⟩, ⟨x2, f2⟩, f3, f4⟩ := hfa.out; refine ⟨?_⟩; simp only [Act.put, sA, sB, sC, Nat.zero_add, Nat.reduceAdd, e0, d1] at hK ⊢; go_simp; with_reducible refine hK undef _ ?_
           exact ⟨hu.out.1, grown_below hbS.out hu.out.2.2, fun A c l h => hu.out.2.1 _ _ _ (h.below hbS.out)⟩
         intro vs wz hS _; have hS2 : SEa wo.heap.size wy gX n2 n2 (Y.set k (addV a (mulV c (mulV (subV oneP q) (stakeF b s false))))) [vs 20] vs wz := hS; obtain ⟨hown8, hg8, hl8⟩ := hS2; clear hS; obtain ⟨Y8, HY8⟩ : ∃ Y8, Hid (Y8 = (Y.set k (addV a (mulV c (mulV (subV oneP q) (stakeF b s false)))))) := ⟨_, rfl⟩; rw [← HY8.out] at hown8; have hbo8 : Below wo.heap.size wo wz := below_own (hbx.trans (hby.mono hbx.size)) hg8 hgXo (Nat.le_trans hbx.size hby.size); have hbwz := hbe5.trans (hbo8.mono hbe5.size); have hc8 := hc7.mapL hl8; have hq8 := hqv.below hbwz; have hb8 := hbv.below hbwz; have hs8 := hs7.mapL hl8; have S08 := Lib.hid (hg8.cell S07.out (by simp; exact fun e => hXC e.symm)); have S18 := Lib.hid (hg8.cell S17.out (by simp; exact fun e => hXC e.symm)); have Q08 := Lib.hid (cell_keep hbwz q0); have Q18 := Lib.hid (cell_keep hbwz q1); have P08 := Lib.hid (cell_keep hbwz p0); have P18 := Lib.hid (cell_keep hbwz p1); obtain ⟨bo', oo', c1', c2', c', eo, g1', g2', HS', hcv'⟩ := ((hown.below hbo8).row (by have := HXL.out; omega)).at_ hkn1; simp only [Option.some.injEq, Addr.mk.injEq, and_true] at eo; obtain ⟨rfl, rfl⟩ := eo
         have hbox : bo ≠ gX := by
          have h1 := hown.lt bo rfl; omega
         have g18 := Lib.hid (hg8.cell g17.out (by simp; exact hbox)); have g28 := Lib.hid (hg8.cell g27.out (by simp; exact hbox)); obtain ⟨j, hj⟩ : ∃ j, n1 - k = j + 1 := ⟨n1 - k - 1, by omega⟩
         have HYE : Hid (Y8 = P ++ (addV a (mulV c (mulV (subV oneP q) (stakeF b s false)))) :: nilP :: List.replicate (n1 - (k + 1)) nilP) := by
          show _ = _
          rw [HY8.out, HY.out, hj, show n1 - (k + 1) = j by omega, set_mid HPL.out]; rfl
         have HYK8 : Y8[k + 1]? = some nilP := by rw [HYE.out]; exact get_mid2 HPL.out
         obtain ⟨b1, b2, A18, A28, ha8⟩ := hown8.elem HYK8; have A18 := Lib.hid A18; have A28 := Lib.hid A28; have s1 : IntKind.i64.wrap ((k : Int) + 1) = (k : Int) + 1 := by rw [IntWalk.i64_in _ (by omega)]
         clear hown7 S07 S17 Q07 Q17 P07 P17 g17 g27 A17 A27 ha7 hc7 hq7 hb7 hs7 hl8 HY8 HY hcv hj HYK8 g1' g2' HS' hcv' g1 g2; go_upto_region 18 with fail; refine region_chain [21] [.early, .early, .early, .early, .early, .early, .early, .early, .early, .early, .early, .early, .early, .early, .early, .early, .early, .early, .early, .early, .early, .chain 0] [] [] (PhiRc gX n2 k bo oo n1 co gp b1 b2 (.slice C1 u1 o1) (.slice C2 u2 o2) (.slice Q1 qk1 qc1) (.slice Q2 qk2 qc2) (.slice D1 y1 d1) (.slice D2 y2 d2) x1 x2 nilP c q s b) (fun w w' => Below w.heap.size w w') (SEa wo.heap.size wz gX n2 n2 (Y8.set (k + 1) (addV nilP (mulV c (mulV q (stakeF b s true)))))) (by kernel_rfl) (by kernel_rfl) (by kernel_rfl) (by kernel_rfl) (sK (fun _ _ _ _ _ h => h) (sK (fun _ _ _ _ _ h => h) (sK (fun _ _ _ _ _ h => h) (sK (fun _ _ _ _ _ h => h) (sK (fun _ _ _ _ _ h => h) (sK (fun _ _ _ _ _ h => h) (sK (fun _ _ _ _ _ h => h) (sK (fun _ _ _ _ _ h => h) (sK (fun _ _ _ _ _ h => h) (sK (fun _ _ _ _ _ h => h) (sK (fun _ _ _ _ _ h => h) (sK (fun _ _ _ _ _ h => h) (sK (fun _ _ _ _ _ h => h) (sK (fun _ _ _ _ _ h => h) (sK (fun _ _ _ _ _ h => h) (sK (fun _ _ _ _ _ h => h) (sK (fun _ _ _ _ _ h => h) (sK (fun _ _ _ _ _ h => h) (sK (fun _ _ _ _ _ h => h) (sK (fun _ _ _ _ _ h => h) (sK (fun _ _ _ _ _ h => h) (sK (fun _ _ _ _ _ h => h) (sZ))))))))))))))))))))))) PhiRc.keepR PhiRc.keepF (fun _ _ _ _ hR hS => Below.tr hS hR) (by rintro (_ | ⟨_, _ | _⟩) vs vs' w _ h <;> exact h) (fun _ => bD _) (fun vs => by simp only [fillR, Act.put, sA, sB, sC, Nat.zero_add, Nat.reduceAdd]; rfl) ?_ ?_
         ·refine sK ?_ (sK ?_ (sK ?_ (sK ?_ (sK ?_ (sK ?_ (sK ?_ (sK ?_ (sK ?_ (sK ?_ (sK ?_ (sK ?_ (sK ?_ (sK ?_ (sK ?_ (sK ?_ (sK ?_ (sK ?_ (sK ?_ (sK ?_ (sK ?_ (sK ?_ (sZ))))))))))))))))))))))
          ·as_aux_lemma =>
           intro vs W hS hu hdep K hK; have HU := Lib.hid hu; clear hu; refine ⟨?_⟩; simp only [Act.put, sA, sB, sC, Nat.zero_add, Nat.reduceAdd] at hK ⊢; go_simp; with_reducible refine hK _ _ (Below.refl _ _) ?_
           exact rfl
          ·as_aux_lemma =>
           intro vs W hS hu hdep K hK; have HU := Lib.hid hu; clear hu; refine ⟨?_⟩; simp only [Act.put, sA, sB, sC, Nat.zero_add, Nat.reduceAdd] at hK ⊢; go_simp; with_reducible refine hK _ _ (Below.refl _ _) ?_
           exact rfl
          ·as_aux_lemma =>
           intro vs W hS hu hdep K hK; have HU := Lib.hid hu; clear hu; have d0 := hdep ⟨1, .data⟩ (by simp) rfl; simp only [PhiRc] at d0; refine ⟨?_⟩; simp only [Act.put, sA, sB, sC, Nat.zero_add, Nat.reduceAdd, d0] at hK ⊢; go_simp; with_reducible refine hK _ _ (Below.refl _ _) ?_
           exact rfl
          ·as_aux_lemma =>
           intro vs W hS hu hdep K hK; have HU := Lib.hid hu; clear hu; refine ⟨?_⟩; simp only [Act.put, sA, sB, sC, Nat.zero_add, Nat.reduceAdd] at hK ⊢; go_simp; with_reducible refine hK _ _ (Below.refl _ _) ?_
           exact rfl
          ·as_aux_lemma =>
           intro vs W hS hu hdep K hK; have HU := Lib.hid hu; clear hu; refine ⟨?_⟩; simp only [Act.put, sA, sB, sC, Nat.zero_add, Nat.reduceAdd] at hK ⊢; go_simp; with_reducible refine hK _ _ (Below.refl _ _) ?_
           exact rfl
          ·as_aux_lemma =>
           intro vs W hS hu hdep K hK; have HU := Lib.hid hu; clear hu; have d0 := hdep ⟨4, .data⟩ (by simp) rfl; simp only [PhiRc] at d0; refine ⟨?_⟩; simp only [Act.put, sA, sB, sC, Nat.zero_add, Nat.reduceAdd, d0] at hK ⊢; go_simp; with_reducible refine hK _ _ (Below.refl _ _) ?_
           exact rfl
          ·as_aux_lemma =>
           intro vs W hS hu hdep K hK; have HU := Lib.hid hu; clear hu; have d0 := hdep ⟨3, .data⟩ (by simp) rfl; simp only [PhiRc] at d0; have d1 := hdep ⟨5, .data⟩ (by simp) rfl; simp only [PhiRc] at d1; refine ⟨?_⟩; simp only [Act.put, sA, sB, sC, Nat.zero_add, Nat.reduceAdd, d0, d1] at hK ⊢; go_simp; with_reducible refine hK _ _ (Below.refl _ _) ?_
           exact rfl
          ·as_aux_lemma =>
           intro vs W hS hu hdep K hK; have HU := Lib.hid hu; clear hu; have d0 := hdep ⟨6, .data⟩ (by simp) rfl; simp only [PhiRc] at d0; have f0 := cell_keep hS A18.out; have f1 := cell_keep hS A28.out; refine ⟨?_⟩; simp only [Act.put, sA, sB, sC, Nat.zero_add, Nat.reduceAdd, d0] at hK ⊢; go_simp; with_reducible refine hK _ _ (Below.refl _ _) ?_
           exact rfl
          ·as_aux_lemma =>
           intro vs W hS hu hdep K hK; have HU := Lib.hid hu; clear hu; refine ⟨?_⟩; simp only [Act.put, sA, sB, sC, Nat.zero_add, Nat.reduceAdd] at hK ⊢; go_simp; with_reducible refine hK _ _ (Below.refl _ _) ?_
           exact rfl
          ·as_aux_lemma =>
           intro vs W hS hu hdep K hK; have HU := Lib.hid hu; clear hu; refine ⟨?_⟩; simp only [Act.put, sA, sB, sC, Nat.zero_add, Nat.reduceAdd] at hK ⊢; go_simp; with_reducible refine hK _ _ (Below.refl _ _) ?_
           exact rfl
          ·as_aux_lemma =>
           intro vs W hS hu hdep K hK; have HU := Lib.hid hu; clear hu; have d0 := hdep ⟨8, .data⟩ (by simp) rfl; simp only [PhiRc] at d0; have d1 := hdep ⟨9, .data⟩ (by simp) rfl; simp only [PhiRc] at d1; refine ⟨?_⟩; simp only [Act.put, sA, sB, sC, Nat.zero_add, Nat.reduceAdd, d0, d1] at hK ⊢; go_simp; with_reducible refine hK _ _ (Below.refl _ _) ?_
           exact rfl
          ·as_aux_lemma =>
           intro vs W hS hu hdep K hK; have HU := Lib.hid hu; clear hu; have d0 := hdep ⟨10, .data⟩ (by simp) rfl; simp only [PhiRc] at d0; have f0 := cell_keep hS g18.out; have f1 := cell_keep hS g28.out; refine ⟨?_⟩; simp only [Act.put, sA, sB, sC, Nat.zero_add, Nat.reduceAdd, d0] at hK ⊢; go_simp; with_reducible refine hK _ _ (Below.refl _ _) ?_
           exact rfl
          ·as_aux_lemma =>
           intro vs W hS hu hdep K hK; have HU := Lib.hid hu; clear hu; have f0 := cell_keep hS Q08.out; have f1 := cell_keep hS Q18.out; refine ⟨?_⟩; simp only [Act.put, sA, sB, sC, Nat.zero_add, Nat.reduceAdd] at hK ⊢; go_simp; with_reducible refine hK _ _ (Below.refl _ _) ?_
           exact rfl
          ·as_aux_lemma =>
           intro vs W hS hu hdep K hK; have HU := Lib.hid hu; clear hu; have f0 := cell_keep hS S08.out; have f1 := cell_keep hS S18.out; refine ⟨?_⟩; simp only [Act.put, sA, sB, sC, Nat.zero_add, Nat.reduceAdd] at hK ⊢; go_simp; with_reducible refine hK _ _ (Below.refl _ _) ?_
           exact rfl
          ·as_aux_lemma =>
           intro vs W hS hu hdep K hK; have HU := Lib.hid hu; clear hu; refine ⟨?_⟩; simp only [Act.put, sA, sB, sC, Nat.zero_add, Nat.reduceAdd] at hK ⊢; go_simp; with_reducible refine hK _ _ (Below.refl _ _) ?_
           exact rfl
          ·as_aux_lemma =>
           intro vs W hS hu hdep K hK; have HU := Lib.hid hu; clear hu; have d0 := hdep ⟨14, .data⟩ (by simp) rfl; simp only [PhiRc] at d0; have f0 := cell_keep hS P08.out; have f1 := cell_keep hS P18.out; refine ⟨?_⟩; simp only [Act.put, sA, sB, sC, Nat.zero_add, Nat.reduceAdd, d0] at hK ⊢; go_simp; with_reducible refine hK _ _ (Below.refl _ _) ?_
           exact rfl
          ·as_aux_lemma =>
           intro vs W hS hu hdep K hK; have HU := Lib.hid hu; clear hu; have d0 := hdep ⟨13, .data⟩ (by simp) rfl; simp only [PhiRc] at d0; have d1 := hdep ⟨15, .data⟩ (by simp) rfl; simp only [PhiRc] at d1; refine ⟨?_⟩; simp only [fillR, Act.put, sA, sB, sC, Nat.zero_add, Nat.reduceAdd, d0, d1] at hK ⊢; go_simp; refine (rtimesF_F _ _ s b true _ (hs8.below hS) (hb8.below hS)).mono ?_; rintro e w' ⟨v, rfl, hv, hb⟩; go_wp2_with fail; with_reducible refine hK _ _ hb ?_
           exact hv
          ·as_aux_lemma =>
           intro vs W hS hu hdep K hK; have HU := Lib.hid hu; clear hu; have d0 := hdep ⟨12, .data⟩ (by simp) rfl; simp only [PhiRc] at d0; have d1 := hdep ⟨16, .data⟩ (by simp) rfl; simp only [PhiRc] at d1; have r1 := d1; clear d1; refine ⟨?_⟩; simp only [fillR, Act.put, sA, sB, sC, Nat.zero_add, Nat.reduceAdd, d0] at hK ⊢; go_simp; refine (rtimes17_F _ _ q (stakeF b s true) _ (hq8.below hS) r1).mono ?_; rintro e w' ⟨v, rfl, hv, hb⟩; go_wp2_with fail; with_reducible refine hK _ _ hb ?_
           exact hv
          ·as_aux_lemma =>
           intro vs W hS hu hdep K hK; have HU := Lib.hid hu; clear hu; have d0 := hdep ⟨11, .data⟩ (by simp) rfl; simp only [PhiRc] at d0; have d1 := hdep ⟨17, .data⟩ (by simp) rfl; simp only [PhiRc] at d1; have r1 := d1; clear d1; refine ⟨?_⟩; simp only [fillR, Act.put, sA, sB, sC, Nat.zero_add, Nat.reduceAdd, d0] at hK ⊢; go_simp; refine (rtimes17_F _ _ c (mulV q (stakeF b s true)) _ (hc8.below hS) r1).mono ?_; rintro e w' ⟨v, rfl, hv, hb⟩; go_wp2_with fail; with_reducible refine hK _ _ hb ?_
           exact hv
          ·as_aux_lemma =>
           intro vs W hS hu hdep K hK; have HU := Lib.hid hu; clear hu; have d0 := hdep ⟨7, .data⟩ (by simp) rfl; simp only [PhiRc] at d0; have d1 := hdep ⟨18, .data⟩ (by simp) rfl; simp only [PhiRc] at d1; have r1 := d1; clear d1; refine ⟨?_⟩; simp only [fillR, Act.put, sA, sB, sC, Nat.zero_add, Nat.reduceAdd, d0] at hK ⊢; go_simp; refine (rplus17_F _ _ nilP (mulV c (mulV q (stakeF b s true))) _ (ha8.below hS) r1).mono ?_; rintro e w' ⟨v, rfl, hv, hb⟩; go_wp2_with fail; with_reducible refine hK _ _ hb ?_
           exact hv
          ·as_aux_lemma =>
           intro vs W hS hu hdep K hK; have HU := Lib.hid hu; clear hu; have d0 := hdep ⟨0, .data⟩ (by simp) rfl; simp only [PhiRc] at d0; have d1 := hdep ⟨2, .data⟩ (by simp) rfl; simp only [PhiRc] at d1; refine ⟨?_⟩; simp only [Act.put, sA, sB, sC, Nat.zero_add, Nat.reduceAdd, d0, d1] at hK ⊢; go_simp; with_reducible refine hK _ _ (Below.refl _ _) ?_
           exact rfl
          ·as_aux_lemma =>
           intro vs W hS hdep K hK; have d0 := hdep ⟨19, .data⟩ (by simp) rfl (by rfl); simp only [PhiRc] at d0; have d1 := hdep ⟨20, .data⟩ (by simp) rfl (by rfl); simp only [PhiRc] at d1; have hS : Below wz.heap.size wz W := hS; obtain ⟨D1, y1, z1, D2, y2, z2, e0⟩ := d0.shape; rw [e0] at d0; have hu := Lib.hid ((hown8.below hS).upd (i := (k + 1)) d0); have hfa := Lib.hid (own_store2 (hown8.below hS) (show (k + 1) < n2 by omega)); have hbS := Lib.hid hS; clear hS; obtain ⟨⟨x1, f1⟩, ⟨x2, f2⟩, f3, f4⟩ := hfa.out; refine ⟨?_⟩; simp only [Act.put, sA, sB, sC, Nat.zero_add, Nat.reduceAdd, e0, d1] at hK ⊢; go_simp; with_reducible refine hK undef _ ?_
           exact ⟨hu.out.1, grown_below hbS.out hu.out.2.2, fun A c l h => hu.out.2.1 _ _ _ (h.below hbS.out)⟩
         intro vs' wv hS _; have hS3 : SEa wo.heap.size wz gX n2 n2 (Y8.set (k + 1) (addV nilP (mulV c (mulV q (stakeF b s true))))) [vs' 21] vs' wv := hS; obtain ⟨hown9, hg9, hl9⟩ := hS3; clear hS; have hbo9 : Below wo.heap.size wo wv := below_own hbo8 hg9 hgXo hbo8.size; rw [HYE.out, set_mid2 HPL.out, List.append_cons, hse.out, HSF.out m k hk, HSF.out m k hk] at hown9; have HPL9 : Hid ((P ++ [addV a (mulV c (mulV (subV oneP q) (factorV b rows m k false)))]).length = k + 1) := by show _ = _; rw [List.length_append, HPL.out]; rfl
         have HST9 := HST.out; rw [expStep_drop HS.out, List.append_cons] at HST9; have HST9 := Lib.hid HST9; clear hown8 S08 S18 Q08 Q18 P08 P18 g18 g28 A18 A28 ha8 hc8 hq8 hb8 hs8 hl9 HST HYE hownx; go_wp2_with fail
         go_roundg (G2 - 1)
         case measure => omega
         case rel => exact ⟨k + 1, _, _, by go_num, by omega, HPL9, HST9, hown9, hbo9⟩
        ·have t4 : decide ((k : Int) ≤ (m : Int)) = false := by simp; omega
         have hkn : Hid (k = n1) := (by have := HN1.out; omega : k = n1); have hst := HST.out; rw [List.drop_eq_nil_of_le (by have := HXL.out; have := HN1.out; omega)] at hst
         have HE9 : Hid (P ++ a :: List.replicate (n1 - k) nilP = expL b rows q (m + 1)) := by
          show _ = _
          rw [show n1 - k = 0 by have := hkn.out; omega]; unfold expL; rw [← HXE5.out, hst]; rfl
         rw [HE9.out] at hownx; have hown9 := hownx.mono hbe5.size; clear hst HST hownx hkn; go_wp2_with fail
         go_roundg (G - 1)
         case measure => omega
         case rel => exact ⟨m + 1, _, by go_num, by omega, hown9, rfl, hbwx⟩
      ·have t3 : decide ((m : Int) < (nn : Int)) = false := by simp; omega
       have HX9 : Hid (X = X5.foldl addV nilP) := by show _ = _; rw [HX.out, HXE5.out, show m = nn by omega]
       have hrow := hown.row (by have := HXL.out; omega); have hbw5 := Below.tr hbw3 (hbe5.mono (Nat.le_refl _)); have hs5 := hs3.below (hbe5.mono (Nat.le_refl _)); have hn17 : n1 ≤ 17 := by have := HN1.out; omega
       have HXL1 : Hid (X5.length = n1) := by show _ = _; rw [HXL.out, HN1.out]
       clear hown p0 p1 p2 q0 q1 hpl hqv hbv HXL HN1; go_upto_region 21 with fail; refine wp_name ?_; intro w9 HW9; have hb9 : Below wo.heap.size wo w9 := by rw [HW9.out]; exact bA _ _
       obtain ⟨gT, hgT0⟩ : ∃ g, Hid (g = wo.heap.size) := ⟨_, rfl⟩; have hG0 : GoodX w9 gT nilP := by rw [HW9.out, hgT0.out]; exact ⟨_, _, _, _, _, _, Blk.new _ _ _, nil_rtP _⟩
       have hgT : wo.heap.size ≤ gT := by have := hgT0.out; omega
       rw [← hgT0.out]; clear HW9 hgT0; go_wp2_with fail
       go_loopg [15] n1 (fun j x15 wu => ∃ (i : Nat) (a : LP), x15 = .int .i64 i ∧ i + j = n1 ∧ Hid (X = (X5.drop i).foldl addV a) ∧ GoodX wu gT a ∧ Below wo.heap.size wo wu)
       case atStart => exact ⟨0, nilP, rfl, by omega, HX9.out, hG0, hb9⟩
       case round =>
        obtain ⟨G3, hG3⟩ : ∃ G, G = gk := ⟨gk, rfl⟩; subst hG3; obtain ⟨i, a, rfl, hij, HXF, hGa, hbu⟩ := hrel; obtain ⟨wu, hwu⟩ : ∃ wu, wu = wr := ⟨_, rfl⟩; subst hwu; have hsT := hGa.sl; obtain ⟨T1', tk1, tc1, T2', tk2, tc2, hBT, ha⟩ := hGa; have T0 := hBT.cell 0; have T1 := hBT.cell 1; simp only [List.getElem?_toArray, List.getElem?_cons_zero, List.getElem?_cons_succ] at T0 T1; by_cases hi : i < n1
        ·have t4 : decide ((i : Int) < (n1 : Int)) = true := by simp; omega
         have hin : (i : Int) < (n1 : Int) := by omega
         obtain ⟨bo, oo, c1, c2, c, rfl, g1, g2, HS, hcv⟩ := (hrow.below hbu).at_ hi; have g1 := Lib.hid g1; have g2 := Lib.hid g2; have T0 := Lib.hid T0; have T1 := Lib.hid T1; clear hBT; go_upto_region 24 with fail; refine region_chain [6] [.early, .early, .early, .early, .early, .early, .chain 0] [] [] (PhiRd gT bo oo i n1 co (.slice T1' tk1 tc1) (.slice T2' tk2 tc2) c1 c2 a c) (fun w w' => Below w.heap.size w w') (SMo wo.heap.size gT wo wu (addV a c)) (by kernel_rfl) (by kernel_rfl) (by kernel_rfl) (by kernel_rfl) (sK (fun _ _ _ _ _ h => h) (sK (fun _ _ _ _ _ h => h) (sK (fun _ _ _ _ _ h => h) (sK (fun _ _ _ _ _ h => h) (sK (fun _ _ _ _ _ h => h) (sK (fun _ _ _ _ _ h => h) (sK (fun _ _ _ _ _ h => h) (sZ)))))))) PhiRd.keepR PhiRd.keepF (fun _ _ _ _ hR hS => Below.tr hS hR) (by rintro (_ | ⟨_, _ | _⟩) vs vs' w _ h <;> exact h) (fun _ => bD _) (fun vs => by simp only [fillR, Act.put, sA, sB, sC, Nat.zero_add, Nat.reduceAdd]; rfl) ?_ ?_
         ·refine sK ?_ (sK ?_ (sK ?_ (sK ?_ (sK ?_ (sK ?_ (sK ?_ (sZ)))))))
          ·as_aux_lemma =>
           intro vs W hS hu hdep K hK; have HU := Lib.hid hu; clear hu; have f0 := cell_keep hS T0.out; have f1 := cell_keep hS T1.out; refine ⟨?_⟩; simp only [Act.put, sA, sB, sC, Nat.zero_add, Nat.reduceAdd] at hK ⊢; go_simp; with_reducible refine hK _ _ (Below.refl _ _) ?_
           exact rfl
          ·as_aux_lemma =>
           intro vs W hS hu hdep K hK; have HU := Lib.hid hu; clear hu; refine ⟨?_⟩; simp only [Act.put, sA, sB, sC, Nat.zero_add, Nat.reduceAdd] at hK ⊢; go_simp; with_reducible refine hK _ _ (Below.refl _ _) ?_
           exact rfl
          ·as_aux_lemma =>
           intro vs W hS hu hdep K hK; have HU := Lib.hid hu; clear hu; refine ⟨?_⟩; simp only [Act.put, sA, sB, sC, Nat.zero_add, Nat.reduceAdd] at hK ⊢; go_simp; with_reducible refine hK _ _ (Below.refl _ _) ?_
           exact rfl
          ·as_aux_lemma =>
           intro vs W hS hu hdep K hK; have HU := Lib.hid hu; clear hu; have d0 := hdep ⟨1, .data⟩ (by simp) rfl; simp only [PhiRd] at d0; have d1 := hdep ⟨2, .data⟩ (by simp) rfl; simp only [PhiRd] at d1; refine ⟨?_⟩; simp only [Act.put, sA, sB, sC, Nat.zero_add, Nat.reduceAdd, d0, d1] at hK ⊢; go_simp; with_reducible refine hK _ _ (Below.refl _ _) ?_
           exact rfl
          ·as_aux_lemma =>
           intro vs W hS hu hdep K hK; have HU := Lib.hid hu; clear hu; have d0 := hdep ⟨3, .data⟩ (by simp) rfl; simp only [PhiRd] at d0; have f0 := cell_keep hS g1.out; have f1 := cell_keep hS g2.out; refine ⟨?_⟩; simp only [Act.put, sA, sB, sC, Nat.zero_add, Nat.reduceAdd, d0] at hK ⊢; go_simp; with_reducible refine hK _ _ (Below.refl _ _) ?_
           exact rfl
          ·as_aux_lemma =>
           intro vs W hS hu hdep K hK; have HU := Lib.hid hu; clear hu; have d0 := hdep ⟨0, .data⟩ (by simp) rfl; simp only [PhiRd] at d0; have d1 := hdep ⟨4, .data⟩ (by simp) rfl; simp only [PhiRd] at d1; refine ⟨?_⟩; simp only [fillR, Act.put, sA, sB, sC, Nat.zero_add, Nat.reduceAdd, d0, d1] at hK ⊢; go_simp; refine (rplus17_F _ _ a c _ (ha.below hS) (hcv.below hS)).mono ?_; rintro e w' ⟨v, rfl, hv, hb⟩; go_wp2_with fail; with_reducible refine hK _ _ hb ?_
           exact hv
          ·as_aux_lemma =>
           intro vs W hS hdep K hK; have d0 := hdep ⟨5, .data⟩ (by simp) rfl (by rfl); simp only [PhiRd] at d0; have hS : Below wu.heap.size wu W := hS; obtain ⟨D1, y1, z1, D2, y2, z2, e0⟩ := d0.shape; rw [e0] at d0; have hsl := (hsT.below hS); obtain ⟨r1, r2, r3, r4, r5, r6, hres⟩ := hsl; have f1 := hres.cell 0; have f2 := hres.cell 1; have f3 := hres.frozen 0; have f4 := hres.frozen 1; simp at f1 f2; have HR := Lib.hid (RX.store (B := wo.heap.size) (hsT.below hS) hgT d0); have hbe4 := Below.tr hbu hS; clear hres hS; refine ⟨?_⟩; simp only [Act.put, sA, sB, sC, Nat.zero_add, Nat.reduceAdd, e0] at hK ⊢; go_simp; with_reducible refine hK undef _ ?_
           exact ⟨HR.out.2, hbe4.trans HR.out.1.be⟩
         intro vs W hS _; have hS2 : SMo wo.heap.size gT wo wu (addV a c) [vs 6] vs W := hS; obtain ⟨hG9, hb99⟩ := hS2
         have HXF9 : Hid (X = (X5.drop (i + 1)).foldl addV (addV a c)) := by
          show _ = _
          obtain ⟨h1, h2⟩ := List.getElem?_eq_some_iff.1 HS.out; rw [HXF.out, List.drop_eq_getElem_cons h1, h2]; rfl
         clear hS hsT HXF g1 g2 T0 T1 hcv ha; go_wp2_with fail
         go_roundg (G3 - 1)
         case measure => omega
         case rel => exact ⟨i + 1, _, by go_num, by omega, HXF9, hG9, hb99⟩
        ·have t4 : decide ((i : Int) < (n1 : Int)) = false := by simp; omega
         have HX7 : Hid (X = a) := by
          show _ = _
          rw [HXF.out, List.drop_eq_nil_of_le (by have := HXL1.out; omega)]; rfl
         have hbw9 := Below.tr hbw5 hbu; obtain ⟨A, k', c, A', k'', c'', he, ⟨a1, r1⟩, ⟨a2, r2⟩, r3, r4, z1, z2, hr, hbz⟩ := ret_ratio (w0 := w) ha (hs5.below hbu) hgr hbw9; simp only [Value.agg.injEq, Array.mk.injEq, List.cons.injEq, and_true, Value.slice.injEq] at he; obtain ⟨⟨rfl, rfl, rfl⟩, rfl, rfl, rfl⟩ := he; clear hBT ha hsT hrow; go_wp2_with fail; exact bodyPost_ret (v := .tuple #[.agg #[.slice T1' tk1 tc1, .slice T2' tk2 tc2], .int .i64 0]) (by simp [results, Tryz.results13, go_sem, z1, z2]) rfl ⟨_, by rw [HF.out], by rw [HX7.out]; exact hr, hbz⟩
 ·have t1 : (planE b rows != 0) = true := by simpa using h0
  have HF : Hid (E = planE b rows) := by show _ = _; rw [HE.out]; unfold expE; rw [if_pos h0]
  have HX : Hid (X = nilP) := HXE.out (by rw [HF.out]; exact h0); clear h0 p0 p1 p2 q0 q1; obtain ⟨A', k', c', A'', k'', c'', he, ⟨a1, e1⟩, ⟨a2, e2⟩, e3, e4, z1, z2, hr, hbz⟩ := ret_ratio (w0 := w) (nil_rtP w2) hs2 hgr hbw2; simp only [nilRat, Value.agg.injEq, Array.mk.injEq, List.cons.injEq, and_true, Value.slice.injEq] at he; obtain ⟨⟨rfl, rfl, rfl⟩, rfl, rfl, rfl⟩ := he; go_wp2_with fail; exact bodyPost_ret (v := .tuple #[.agg #[.slice none 0 0, .slice none 0 0], .int .i64 _]) (by simp [results, Tryz.results13, go_sem, z1, z2]; rfl) rfl ⟨_, by rw [HF.out], by rw [HX.out]; exact hr, hbz⟩
end Go.Proofs.YtnjjdiilkhdbeaaGreat
