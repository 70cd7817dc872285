import Derived.Test.YticobffjnjbjiaaJ15
import Derived.Test.YticobffjnjbjiaaJ16
import Derived.Test.YticobffjnjbjiaaKGbProof18
import Derived.Test.YticobffjnjbjiaaKGbProof17
import Derived.Test.YticobffjnjbjiaaJ11
import Derived.Test.YticobffjnjbjiaaJ09
import Derived.Test.YticobffjnjbjiaaS0
set_option linter.unusedVariables false
set_option linter.unusedSimpArgs false
namespace Go.Proofs.Yticobffjnjbjiaa
open Go Go.RowKit
set_option maxRecDepth 100000 in
set_option maxHeartbeats 1000000 in
theorem rcovers_n (p : PC) (name : ByteArray) (r : RC0) (w : World) :
  Calls Try.prog 105 #[.agg #[.int .i64 p.team, .string p.test, .string p.wh, .int .i64 p.site, p.b1, p.b2, .int .i64 p.fr, .int .i64 p.un, p.r0, p.r1, p.r2, p.r3, p.r4, p.r5, p.r6, p.r7, p.r8, p.r9, p.r10, p.r11, p.r12, p.r13, p.r14, p.r15], .string name, .agg #[.int .i64 r.oc, .string r.at_, .int .i64 r.st, r.v3, r.v4, r.v5, r.v6, r.v7, r.v8, r.v9, r.v10, r.v11, r.v12, r.v13, r.v14, r.v15, r.v16, r.v17, r.v18, r.v19, r.v20, r.v21]] w fun e w' => e = .returned (.bool (covB p name r)) ∧ Below w.heap.size w w' := by
 have HF : Hid (∀ b, (b = true ↔ (p.test.toList = name.toList ∧ 1 ≤ r.oc ∧ r.oc ≤ 4 ∧ r.at_.toList = p.wh.toList ∧ r.st = p.site)) → b = covB p name r) := by
  intro b h; unfold covB; rw [Bool.eq_iff_iff, h, decide_eq_true_iff]
  constructor
  ·rintro ⟨h1, h2, h3, h4, h5⟩; exact ⟨h1.symm, by omega, by omega, h4, h5⟩
  ·rintro ⟨h1, h2, h3, h4, h5⟩; exact ⟨h1.symm, by omega, by omega, h4, h5⟩
 go_enter Try.func105, Try.ntmps105
 go_wp2_with fail
 all_goals
  go_ret; exact ⟨retb (HF.out _ (by first | (simp [*]; done) | (simp [*]; intros; omega))), Below.tr (bA _ _) (bA _ _)⟩
theorem any_at {α : Type} {p : α → Bool} {l : List α} {i : Nat} {a : α} (h : l[i]? = some a) (hp : p a = true) : l.any p = true := List.any_eq_true.2 ⟨a, List.mem_of_getElem? h, hp⟩
theorem any_no {α : Type} {p : α → Bool} {l : List α} (h : ∀ (j : Nat) b, j < l.length → l[j]? = some b → p b = false) : l.any p = false := by
 rw [List.any_eq_false]; intro a ha; obtain ⟨j, hj⟩ := List.getElem?_of_mem ha; simp [h j a (List.getElem?_eq_some_iff.1 hj).1 hj]
set_option maxHeartbeats 400000 in
theorem ranged_n (Al A : Option Addr) (kl cl k c : Nat) (l : List Int) (w : World) (hr : RowS intC w A k l) (hkl : kl ≤ 281474976710656) :
  Calls Try.prog 66 #[.slice Al kl cl, .slice A k c] w fun e w' => e = .returned (.bool (!(l.any (outB kl)))) ∧ w = w' := by
 have hk := hr.2.2; have HK := Lib.hid hr.2.1
 go_enter Try.func66, Try.ntmps66
 go_wp2_with fail
 go_loopg [5] k (fun j x wr => ∃ i : Nat, x = .int .i64 i ∧ i + j = k ∧ Hid (∀ (j : Nat) b, j < i → l[j]? = some b → outB kl b = false) ∧ wr = w)
 case atStart => exact ⟨0, rfl, by omega, fun j b h => by omega, rfl⟩
 case round =>
  obtain ⟨i, rfl, hij, HP, rfl⟩ := hrel; by_cases hi : i < k
  ·obtain ⟨b, off, n, rfl, hc, HN⟩ := hr.int hi; have t1 : decide ((i : Int) < (k : Int)) = true := by simp; omega
   by_cases h1 : n < 0
   ·have HF : Hid (l.any (outB kl) = true) := any_at HN.out (by simp [outB, h1]); have t2 : decide (n < 0) = true := by simpa using h1
    go_wp2_with fail; go_ret; exact ⟨by rw [HF.out]; rfl, rfl⟩
   ·have t2 : decide (n < 0) = false := by simpa using h1
    by_cases h2 : (kl : Int) ≤ n
    ·have HF : Hid (l.any (outB kl) = true) := any_at HN.out (by simp [outB, h2]); have t3 : decide (n ≥ (kl : Int)) = true := by simpa using h2
     go_wp2_with fail; go_ret; exact ⟨by rw [HF.out]; rfl, rfl⟩
    ·have HP2 := Lib.hid (first_step HP.out HN.out (by simp [outB]; omega)); have t3 : decide (n ≥ (kl : Int)) = false := by simpa using h2
     go_wp2_with fail
     go_roundg (gk - 1)
     case measure => omega
     case rel => exact ⟨i + 1, by go_num, by omega, HP2, rfl⟩
  ·have HF : Hid (l.any (outB kl) = false) := any_no fun j b h => HP.out j b (by have := HK.out; omega)
   have t1 : decide ((i : Int) < (k : Int)) = false := by simp; omega
   go_wp2_with fail; go_ret; exact ⟨by rw [HF.out]; rfl, rfl⟩
set_option maxHeartbeats 400000 in
theorem known_n (S : Option Addr) (ks cs : Nat) (rs : List RC0) (w : World) (hs : RowS cellsR w S ks rs) :
  Calls Try.prog 67 #[.slice S ks cs] w fun e w' => e = .returned (.bool (!(rs.any oddO))) ∧ w = w' := by
 have hk := hs.2.2; have HK := Lib.hid hs.2.1
 go_enter Try.func67, Try.ntmps67
 go_wp2_with fail
 go_loopg [3] ks (fun j x wr => ∃ i : Nat, x = .int .i64 i ∧ i + j = ks ∧ Hid (∀ (j : Nat) b, j < i → rs[j]? = some b → oddO b = false) ∧ wr = w)
 case atStart => exact ⟨0, rfl, by omega, fun j b h => by omega, rfl⟩
 case round =>
  obtain ⟨i, rfl, hij, HP, rfl⟩ := hrel; by_cases hi : i < ks
  ·have hil : i < rs.length := by have := HK.out; omega
   obtain ⟨b, off, rfl, HC⟩ := hs.at_ cellsR_len (by omega) hi hil; have HN : Hid (rs[i]? = some rs[i]) := List.getElem?_eq_getElem hil; generalize rs[i] = r at HC HN; have hc := HC.out 0 _ rfl; rw [Nat.add_zero] at hc; obtain ⟨n, hn⟩ : ∃ n, n = r.oc := ⟨_, rfl⟩; rw [← hn] at hc; have HO : Hid (oddO r = decide (n < 0 ∨ 4 < n)) := by rw [hn]; rfl
   have t1 : decide ((i : Int) < (ks : Int)) = true := by simp; omega
   clear HC hn hil; by_cases h1 : n < 0
   ·have HF : Hid (rs.any oddO = true) := any_at HN.out (HO.out.trans (by simp [h1])); have t2 : decide (n < 0) = true := by simpa using h1
    go_wp2_with fail; go_ret; exact ⟨by rw [HF.out]; rfl, rfl⟩
   ·have t2 : decide (n < 0) = false := by simpa using h1
    by_cases h2 : 4 < n
    ·have HF : Hid (rs.any oddO = true) := any_at HN.out (HO.out.trans (by simp [h2])); have t3 : decide (n > 4) = true := by simpa using h2
     go_wp2_with fail; go_ret; exact ⟨by rw [HF.out]; rfl, rfl⟩
    ·have HP2 := Lib.hid (first_step HP.out HN.out (HO.out.trans (by simp; omega))); have t3 : decide (n > 4) = false := by simpa using h2
     go_wp2_with fail
     go_roundg (gk - 1)
     case measure => omega
     case rel => exact ⟨i + 1, by go_num, by omega, HP2, rfl⟩
  ·have HF : Hid (rs.any oddO = false) := any_no fun j b h => HP.out j b (by have := HK.out; omega)
   have t1 : decide ((i : Int) < (ks : Int)) = false := by simp; omega
   go_wp2_with fail; go_ret; exact ⟨by rw [HF.out]; rfl, rfl⟩
def PhiOf (Al A : Option Addr) (kl cl k c i b off n bp op : Nat) (p : PC) (name : ByteArray) (r : RC0) (j : Nat) (w : World) (x : Value) : Prop :=
 match j with
 | 0 => x = .slice Al kl cl
 | 1 => x = .slice A k c
 | 2 => x = .int .i64 (i : Nat)
 | 3 => x = .pointer (some ⟨b, off + i, none⟩)
 | 4 => x = .int .i64 (n : Nat)
 | 5 => x = .pointer (some ⟨bp, op + n * 24, none⟩)
 | 6 => x = .agg #[.int .i64 p.team, .string p.test, .string p.wh, .int .i64 p.site, p.b1, p.b2, .int .i64 p.fr, .int .i64 p.un, p.r0, p.r1, p.r2, p.r3, p.r4, p.r5, p.r6, p.r7, p.r8, p.r9, p.r10, p.r11, p.r12, p.r13, p.r14, p.r15]
 | 7 => x = .string name
 | 8 => x = .agg #[.int .i64 r.oc, .string r.at_, .int .i64 r.st, r.v3, r.v4, r.v5, r.v6, r.v7, r.v8, r.v9, r.v10, r.v11, r.v12, r.v13, r.v14, r.v15, r.v16, r.v17, r.v18, r.v19, r.v20, r.v21]
 | 9 => x = .bool (covB p name r)
 | _ => True
set_option maxRecDepth 100000 in
set_option maxHeartbeats 2000000 in
theorem ofr_n (Al A : Option Addr) (kl cl k c : Nat) (l : List Nat) (ps : List PC) (name : ByteArray) (r : RC0) (w : World) (hp : RowS cellsP w Al kl ps) (hr : RowS natC w A k l) (HIN : Hid (∀ n ∈ l, n < kl)) :
  Calls Try.prog 70 #[.slice Al kl cl, .slice A k c, .string name, .agg #[.int .i64 r.oc, .string r.at_, .int .i64 r.st, r.v3, r.v4, r.v5, r.v6, r.v7, r.v8, r.v9, r.v10, r.v11, r.v12, r.v13, r.v14, r.v15, r.v16, r.v17, r.v18, r.v19, r.v20, r.v21]] w fun e w' => e = .returned (.int .i64 (ofN l ps name r)) ∧ Below w.heap.size w w' := by
 have hk := hr.2.2; have HK := Lib.hid hr.2.1; have hkl := hp.2.2; have hb1 := bA w (.cells #[.int .i64 r.oc, .string r.at_, .int .i64 r.st, r.v3, r.v4, r.v5, r.v6, r.v7, r.v8, r.v9, r.v10, r.v11, r.v12, r.v13, r.v14, r.v15, r.v16, r.v17, r.v18, r.v19, r.v20, r.v21] 64); have HB : Hid (Blk (w.alloc (.cells #[.int .i64 r.oc, .string r.at_, .int .i64 r.st, r.v3, r.v4, r.v5, r.v6, r.v7, r.v8, r.v9, r.v10, r.v11, r.v12, r.v13, r.v14, r.v15, r.v16, r.v17, r.v18, r.v19, r.v20, r.v21] 64)) w.heap.size 64 (cellsR r).toArray) := Blk.new _ _ _
 go_enter Try.func70, Try.ntmps70
 go_wp2_with fail
 go_loopg [9] k (fun j x wr => ∃ i : Nat, x = .int .i64 i ∧ i + j = k ∧ Hid (∀ (j : Nat) n, j < i → l[j]? = some n → covAt ps name r n = false) ∧ Below (w.alloc (.cells #[.int .i64 r.oc, .string r.at_, .int .i64 r.st, r.v3, r.v4, r.v5, r.v6, r.v7, r.v8, r.v9, r.v10, r.v11, r.v12, r.v13, r.v14, r.v15, r.v16, r.v17, r.v18, r.v19, r.v20, r.v21] 64)).heap.size (w.alloc (.cells #[.int .i64 r.oc, .string r.at_, .int .i64 r.st, r.v3, r.v4, r.v5, r.v6, r.v7, r.v8, r.v9, r.v10, r.v11, r.v12, r.v13, r.v14, r.v15, r.v16, r.v17, r.v18, r.v19, r.v20, r.v21] 64)) wr)
 case atStart => exact ⟨0, rfl, by omega, fun j b h => by omega, Below.refl _ _⟩
 case round =>
  obtain ⟨i, rfl, hij, HP, hbe⟩ := hrel; have hbw := Below.tr hb1 hbe; have HR : Hid (wr.rangeAt w.heap.size 0 (cellsR r)) := Blk.range (Blk.below HB.out hbe HB.out.lt); clear HB; by_cases hi : i < k
  ·have t1 : decide ((i : Int) < (k : Int)) = true := by simp; omega
   obtain ⟨b, off, n, rfl, hc, HN⟩ := (hr.below hbw).nat hi; have hn := HIN.out n (List.mem_of_getElem? HN.out); have hnp : n < ps.length := by have := hp.2.1; omega
   obtain ⟨bp, op, rfl, HC⟩ := (hp.below hbw).at_ cellsP_len (by omega) hn hnp; have HV : Hid (covAt ps name r n = covB ps[n] name r) := covAt_eq hnp; generalize ps[n] = p at HC HV; have hni : (n : Int) < (kl : Int) := by omega
   have hii : (i : Int) < (k : Int) := by omega
   clear hnp hp hr; go_upto_region 4 with fail; obtain ⟨wo, hwo⟩ : ∃ wo, wo = wr := ⟨_, rfl⟩; subst hwo; refine region_inv (PhiOf (some ⟨bp, op, none⟩) (some ⟨b, off, none⟩) kl cl k c i b off n bp op p name r) (fun w w' => Below w.heap.size w w') (fun W => Below wo.heap.size wo W) (by kernel_rfl) (by kernel_rfl) (by kernel_rfl) (fun _ _ _ _ _ h => h) (fun _ _ hR hS => Below.tr hS hR) (bD _) ?_ ?_
   ·refine sK ?_ (sK ?_ (sK ?_ (sK ?_ (sK ?_ (sK ?_ (sK ?_ (sK ?_ (sK ?_ (sK ?_ (sZ))))))))))
    ·as_aux_lemma =>
     intro vs W hS hdep K hK; refine ⟨?_⟩; simp only [fillR, Act.put, sA, sB, sC, Nat.zero_add, Nat.reduceAdd] at hK ⊢; go_simp; with_reducible refine hK _ _ (Below.refl _ _) ?_
     exact rfl
    ·as_aux_lemma =>
     intro vs W hS hdep K hK; refine ⟨?_⟩; simp only [fillR, Act.put, sA, sB, sC, Nat.zero_add, Nat.reduceAdd] at hK ⊢; go_simp; with_reducible refine hK _ _ (Below.refl _ _) ?_
     exact rfl
    ·as_aux_lemma =>
     intro vs W hS hdep K hK; refine ⟨?_⟩; simp only [fillR, Act.put, sA, sB, sC, Nat.zero_add, Nat.reduceAdd] at hK ⊢; go_simp; with_reducible refine hK _ _ (Below.refl _ _) ?_
     exact rfl
    ·as_aux_lemma =>
     intro vs W hS hdep K hK; have d0 := hdep ⟨1, .data⟩ (by simp) rfl; simp only [PhiOf] at d0; have d1 := hdep ⟨2, .data⟩ (by simp) rfl; simp only [PhiOf] at d1; refine ⟨?_⟩; simp only [fillR, Act.put, sA, sB, sC, Nat.zero_add, Nat.reduceAdd, d0, d1] at hK ⊢; go_simp; with_reducible refine hK _ _ (Below.refl _ _) ?_
     exact rfl
    ·as_aux_lemma =>
     intro vs W hS hdep K hK; have d0 := hdep ⟨3, .data⟩ (by simp) rfl; simp only [PhiOf] at d0; have q := cell_keep hS hc; refine ⟨?_⟩; simp only [fillR, Act.put, sA, sB, sC, Nat.zero_add, Nat.reduceAdd, d0] at hK ⊢; go_simp; with_reducible refine hK _ _ (Below.refl _ _) ?_
     exact rfl
    ·as_aux_lemma =>
     intro vs W hS hdep K hK; have d0 := hdep ⟨0, .data⟩ (by simp) rfl; simp only [PhiOf] at d0; have d1 := hdep ⟨4, .data⟩ (by simp) rfl; simp only [PhiOf] at d1; refine ⟨?_⟩; simp only [fillR, Act.put, sA, sB, sC, Nat.zero_add, Nat.reduceAdd, d0, d1] at hK ⊢; go_simp; with_reducible refine hK _ _ (Below.refl _ _) ?_
     exact rfl
    ·as_aux_lemma =>
     intro vs W hS hdep K hK; have d0 := hdep ⟨5, .data⟩ (by simp) rfl; simp only [PhiOf] at d0; refine ⟨?_⟩; simp only [fillR, Act.put, sA, sB, sC, Nat.zero_add, Nat.reduceAdd, d0] at hK ⊢; rw [if_pos (by rfl)]; refine wp_load_mid 53 (.tmp 21) (by rfl) bp (op + n * 24) (by rfl) (cellsP p) _ (fun j v h => cell_keep hS (HC.out j v h)) Try.underlying53 (by rfl) infoP ?_; simp only [Act.put, sA, sB, sC]; with_reducible refine hK _ _ (Below.refl _ _) ?_
     exact rfl
    ·as_aux_lemma =>
     intro vs W hS hdep K hK; refine ⟨?_⟩; simp only [fillR, Act.put, sA, sB, sC, Nat.zero_add, Nat.reduceAdd] at hK ⊢; go_simp; with_reducible refine hK _ _ (Below.refl _ _) ?_
     exact rfl
    ·as_aux_lemma =>
     intro vs W hS hdep K hK; refine ⟨?_⟩; simp only [fillR, Act.put, sA, sB, sC, Nat.zero_add, Nat.reduceAdd] at hK ⊢; rw [if_pos (by rfl)]; refine wp_load_mid 64 (.tmp 7) (by rfl) w.heap.size (0) (by rfl) (cellsR r) _ (fun j v h => cell_keep hS (HR.out j v h)) Try.underlying64 (by rfl) infoR ?_; simp only [Act.put, sA, sB, sC]; with_reducible refine hK _ _ (Below.refl _ _) ?_
     exact rfl
    ·as_aux_lemma =>
     intro vs W hS hdep K hK; have d0 := hdep ⟨6, .data⟩ (by simp) rfl; simp only [PhiOf] at d0; have d1 := hdep ⟨7, .data⟩ (by simp) rfl; simp only [PhiOf] at d1; have d2 := hdep ⟨8, .data⟩ (by simp) rfl; simp only [PhiOf] at d2; refine ⟨?_⟩; simp only [fillR, Act.put, sA, sB, sC, Nat.zero_add, Nat.reduceAdd, d0, d1, d2] at hK ⊢; go_simp; refine (rcovers_n p name r _).mono ?_; rintro e w' ⟨rfl, hb⟩; go_wp2_with fail; with_reducible refine hK _ _ hb ?_
     exact rfl
   ·intro vs W hS hv; have v9 := hv 9 (by simp); simp only [PhiOf] at v9; simp only [fillR, Act.put, sA, sB, sC, Nat.zero_add, Nat.reduceAdd, v9]; have hc2 := cell_keep hS hc; have hbz := Below.tr hbw hS; clear hv hc HC HR v9
    cases hcv : covB p name r
    ·have HP2 := Lib.hid (first_step HP.out HN.out (HV.out.trans hcv)); go_wp2_with fail
     go_roundg (gk - 1)
     case measure => omega
     case rel => exact ⟨i + 1, by go_num, by omega, HP2, Below.tr hbe hS⟩
    ·have HF : Hid (((n : Nat) : Int) = ofN l ps name r) := (show OfP l ps name r n from .inr ⟨i, n, rfl, HN.out, HV.out.trans hcv, HP.out⟩).eq; go_wp2_with fail; go_ret; exact ⟨by rw [← HF.out]; rfl, hbz⟩
  ·have HF : Hid ((-1 : Int) = ofN l ps name r) := (show OfP l ps name r (-1) from .inl ⟨rfl, fun j n h => HP.out j n (by have h2 := (List.getElem?_eq_some_iff.1 h).1; have := HK.out; omega) h⟩).eq; have t1 : decide ((i : Int) < (k : Int)) = false := by simp; omega
   go_wp2_with fail; go_ret; exact ⟨by rw [← HF.out]; rfl, hbw⟩
end Go.Proofs.Yticobffjnjbjiaa
namespace Go.Proofs.Yticobffjnjbjiaa
open Go Go.RowKit
theorem ofN_nat {L : List Nat} {ps : List PC} {name : ByteArray} {r : RC0} {kl : Nat} {P0 : Int} (HIN : Hid (∀ n ∈ L, n < kl)) (h : P0 = ofN L ps name r) (hn : ¬ P0 < 0) : ∃ n : Nat, P0 = n ∧ n < kl := by
 unfold ofN at h
 split at h
 ·rename_i n e
  exact ⟨n, h, HIN.out n (List.mem_of_find?_eq_some e)⟩
 ·omega
theorem testC_step {L : List Nat} {ps : List PC} {Lf : Nat → List Nat × List Nat} {a b n p q : Nat} {name : ByteArray} {r : RC0} {rs : List RC0} {L3 L4 : List Nat} (h1 : r.oc ≠ 0) (h2 : (n : Int) = ofN L ps name r) (h3 : Lf n = (L3, L4)) (gp : Nm.Good p q) (hl3 : Nm.Lim L3) (hl4 : Nm.Lim L4) :
  (mulE (Nm.lb p) (Nm.lb (Nm.dn q)) L3 L4 ≠ 0 → testC L ps Lf a b name (r :: rs) p q = (0, mulE (Nm.lb p) (Nm.lb (Nm.dn q)) L3 L4)) ∧
  (mulE (Nm.lb p) (Nm.lb (Nm.dn q)) L3 L4 = 0 → ∀ N M, N = mulN (Nm.lb p) (Nm.lb (Nm.dn q)) L3 L4 / Nat.gcd (mulN (Nm.lb p) (Nm.lb (Nm.dn q)) L3 L4) (mulD (Nm.lb p) (Nm.lb (Nm.dn q)) L3 L4) → M = mulD (Nm.lb p) (Nm.lb (Nm.dn q)) L3 L4 / Nat.gcd (mulN (Nm.lb p) (Nm.lb (Nm.dn q)) L3 L4) (mulD (Nm.lb p) (Nm.lb (Nm.dn q)) L3 L4) →
   Nm.Good N M ∧ (N * b ≤ a * M → testC L ps Lf a b name (r :: rs) p q = (2, 0)) ∧ (¬ N * b ≤ a * M → testC L ps Lf a b name (r :: rs) p q = testC L ps Lf a b name rs N M)) := by
 have g0 : GoodL (Nm.lb p) (Nm.lb (Nm.dn q)) p q := ⟨rfl, rfl, gp⟩; by_cases hv : Nm.validE L3 L4 = 0
 ·obtain ⟨pb, qb, e1, e2, hg⟩ := Nm.validE_spec hl3 hl4 hv; have g1 : GoodL L3 L4 pb qb := ⟨e1, e2, hg⟩; have hgo := testC_go (L := L) (ps := ps) (a := a) (b := b) (p := p) (q := q) (rs := rs) h1 h2 h3 hv g1; have eE : mulE (Nm.lb p) (Nm.lb (Nm.dn q)) L3 L4 = redE (p * pb) (q * qb) := opE_good g0 g1; have eN : mulN (Nm.lb p) (Nm.lb (Nm.dn q)) L3 L4 = p * pb := by unfold mulN; rw [numL_good g0, numL_good g1]
  have eM : mulD (Nm.lb p) (Nm.lb (Nm.dn q)) L3 L4 = q * qb := by unfold mulD; rw [numL_good g0, numL_good g1]
  rw [eE, eN, eM]; unfold redE; by_cases hF : Nm.Fits (p * pb / Nat.gcd (p * pb) (q * qb)) (q * qb / Nat.gcd (p * pb) (q * qb))
  ·rw [if_pos hF]; refine ⟨fun h => absurd rfl h, ?_⟩; rintro - N M rfl rfl; exact ⟨good_red (Nat.mul_pos gp.pos hg.pos) hF, hgo.1 hF, hgo.2.1 hF⟩
  ·rw [if_neg hF]; exact ⟨fun _ => hgo.2.2 hF, fun h => by cases h⟩
 ·have hfe : firstE (Nm.validE (Nm.lb p) (Nm.lb (Nm.dn q))) (Nm.validE L3 L4) = Nm.validE L3 L4 := by rw [Nm.validE_of gp, firstE, if_pos rfl]
  have eE : mulE (Nm.lb p) (Nm.lb (Nm.dn q)) L3 L4 = Nm.validE L3 L4 := by unfold mulE; rw [opE_bad (by rw [hfe]; exact hv), hfe]
  rw [eE]; exact ⟨fun _ => testC_bad h1 h2 h3 hv, fun h => absurd h hv⟩
def PhiSd (o1 o2 : Value) (Al : Option Addr) (kl cl n bp o : Nat) (v2 : Value) (E : Int) (N M B : Nat) (j : Nat) (w : World) (x : Value) : Prop :=
 match j with
 | 0 => x = .agg #[o1, o2]
 | 1 => x = .slice Al kl cl
 | 2 => x = .int .i64 (n : Int)
 | 3 => x = .pointer (some ⟨bp, o, none⟩)
 | 4 => x = .pointer (some ⟨bp, o + 4, none⟩)
 | 5 => x = v2
 | 6 => ∃ v, x = .tuple #[v, .int .i64 E] ∧ OpV E N M w v
 | 7 => ∃ v, x = .tuple #[v, .int .i64 E] ∧ OpV E N M w v
 | 8 => ∃ A k c A' k' c', x = .agg #[.slice A k c, .slice A' k' c'] ∧ OpV E N M w (.agg #[.slice A k c, .slice A' k' c'])
 | 9 => x = .int .i64 E
 | 10 => ∃ g, x = .pointer (some ⟨g, 0, none⟩) ∧ B ≤ g ∧ Sl w g
 | 11 => True
 | 12 => x = .int .i64 E
 | _ => True
theorem PhiSd.keep {o1 o2 : Value} {Al : Option Addr} {kl cl n bp o : Nat} {v2 : Value} {E : Int} {N M B : Nat} : ∀ (w w' : World), RS B w w' → ∀ j x, PhiSd o1 o2 Al kl cl n bp o v2 E N M B j w x → PhiSd o1 o2 Al kl cl n bp o v2 E N M B j w' x := by
 intro w w' hr j x h; unfold PhiSd at h ⊢
 split <;> simp only at h ⊢
 all_goals first
  | exact h
  | (obtain ⟨v, e, h⟩ := h; exact ⟨v, e, h.map hr.nb⟩)
  | (obtain ⟨A, k, c, A', k', c', e, h⟩ := h; exact ⟨A, k, c, A', k', c', e, h.map hr.nb⟩)
  | (obtain ⟨g, e, h1, h2⟩ := h; exact ⟨g, e, h1, hr.sl g h2⟩)
set_option maxRecDepth 100000 in
set_option maxHeartbeats 4000000 in
theorem rsaid_n (Al A : Option Addr) (kl cl k c cs : Nat) (Lz : List Nat) (ps : List PC) (Lf : Nat → List Nat × List Nat) (name : ByteArray) (S : Option Addr) (ks : Nat) (rs : List RC0) (va : Value) (a b : Nat) (w : World) (hp : RowS cellsP w Al kl ps) (hnat : RowS natC w A k Lz) (HIN : Hid (∀ n ∈ Lz, n < kl)) (hrs : RowS cellsR w S ks rs)
  (HB : Hid (∀ (n : Nat) p, ps[n]? = some p → RtL w (.agg #[p.b1, p.b2]) (Lf n).1 (Lf n).2)) (hra : Rat w va a b) (ga : Nm.Good a b) :
  Calls Try.prog 69 #[.slice Al kl cl, .slice A k c, .string name, .slice S ks cs, va] w fun e w' => e = .returned (.tuple #[.int .i64 (testC Lz ps Lf a b name rs 1 1).1, .int .i64 (testC Lz ps Lf a b name rs 1 1).2]) ∧ Below w.heap.size w w' := by
 have hkl := hp.2.2; have hks := hrs.2.2; obtain ⟨TR, HTR⟩ : ∃ T, Hid (T = testC Lz ps Lf a b name rs 1 1) := ⟨_, rfl⟩; rw [← HTR.out]; obtain ⟨A1, k1, c1, A2, k2, c2, rfl⟩ := hra.shape
 go_enter Try.func69, Try.ntmps69
 go_upto_region 1 with fail; refine wp_name ?_; intro w1 HW1; have hb1 : Below w.heap.size w w1 := by rw [HW1.out]; exact bA _ _
 have hx : Box w1 w.heap.size (.slice A1 k1 c1) (.slice A2 k2 c2) := by rw [HW1.out]; exact Blk.new _ _ _
 clear HW1; go_wp2_with fail; refine (runit_n _).mono ?_; rintro e w9 ⟨v, rfl, hu, hb9⟩; obtain ⟨D1, m1, o1, D2, m2, o2, rfl⟩ := hu.shape; have hx := hx.below hb9; have hwl : w.heap.size < w9.heap.size := hx.lt; have hb9 := Below.tr hb1 hb9; obtain ⟨wD, HWD⟩ : ∃ W, Hid (W = w9.alloc (.cells #[.slice D1 m1 o1, .slice D2 m2 o2] 24)) := ⟨_, rfl⟩; have hbD : Below w9.heap.size w9 wD := by rw [HWD.out]; exact bA _ _
 have hD : Box wD w9.heap.size (.slice D1 m1 o1) (.slice D2 m2 o2) := by rw [HWD.out]; exact Blk.new _ _ _
 have hu := hu.below hbD; go_wp2_with fail; rw [← HWD.out]
 go_loopg [13] ks (fun j x wx => ∃ (m p q : Nat) (A : Option Addr) (k c : Nat) (A' : Option Addr) (k' c' : Nat), x = .int .i64 m ∧ m + j = ks ∧ Box wx w9.heap.size (.slice A k c) (.slice A' k' c') ∧ Rat wx (.agg #[.slice A k c, .slice A' k' c']) p q ∧ Nm.Good p q ∧ Hid (testC Lz ps Lf a b name (rs.drop m) p q = TR) ∧ Below w9.heap.size w9 wx)
 case atStart => exact ⟨0, 1, 1, _, _, _, _, _, _, rfl, by omega, hD, hu, Good_one, by show _ = _; rw [HTR.out]; rfl, hbD⟩
 case round =>
  obtain ⟨m, p, q, E1, k0, c0, E2, k0', c0', rfl, hmj, hDb, hu, gp, HTS, hbx⟩ := hrel; have hbw := Below.tr hb9 hbx; have hxw := hx.below hbx; have hraw := hra.below hbw; clear hD hx; by_cases hm : m < ks
  ·have hml : m < rs.length := by have := hrs.2.1; omega
   have t1 : decide ((m : Int) < (ks : Int)) = true := by simp; omega
   obtain ⟨bq, off, rfl, HC⟩ := (hrs.below hbw).at_ cellsR_len (by omega) hm hml; obtain ⟨r, HR, hrm⟩ : ∃ r, Hid (rs.drop m = r :: rs.drop (m + 1)) ∧ rs[m] = r := ⟨rs[m], List.drop_eq_getElem_cons hml, rfl⟩; rw [hrm] at HC; clear hrm; have hc := HC.out 0 _ rfl; rw [Nat.add_zero] at hc; obtain ⟨oc, hoc⟩ : ∃ n, Hid (n = r.oc) := ⟨_, rfl⟩; rw [← hoc.out] at hc; by_cases ho : oc = 0
   ·have t2 : (oc == 0) = true := by simpa using ho
    have ho' : r.oc = 0 := by rw [← hoc.out]; exact ho
    clear hml ho; have HF : Hid (TR = (0, 0)) := by show _ = _; rw [← HTS.out, HR.out, testC, if_pos ho']
    clear ho'; go_wp2_with fail
    go_ret2
    exact ⟨by rw [HF.out]; rfl, hbw⟩
   ·have t2 : (oc == 0) = false := by simpa using ho
    have HO1 : Hid (r.oc ≠ 0) := by rw [← hoc.out]; exact ho
    clear ho hml; go_upto_region 7 with fail; clear hc hoc
    go_wp2_with (first | (refine wpList_load_mid rfl 64 (.tmp 35) rfl bq (off + m * 22) rfl [.int .i64 r.oc, .string r.at_, .int .i64 r.st, r.v3, r.v4, r.v5, r.v6, r.v7, r.v8, r.v9, r.v10, r.v11, r.v12, r.v13, r.v14, r.v15, r.v16, r.v17, r.v18, r.v19, r.v20, r.v21] _ (fun j v h => HC.out j v h) Try.underlying64 rfl infoR ?_))
    refine (ofr_n Al A kl cl k c Lz ps name r _ (hp.below hbw) (hnat.below hbw) HIN).mono ?_; rintro e w12 ⟨rfl, hb12⟩; obtain ⟨P0, HP0⟩ : ∃ x, Hid (x = ofN Lz ps name r) := ⟨_, rfl⟩; rw [← HP0.out]; have hbw := Below.tr hbw hb12; have hDb := hDb.below hb12; have hu := hu.below hb12; have hxw := hxw.below hb12; have hraw := hraw.below hb12; have hbx := hbx.trans (hb12.mono hbx.size); by_cases hneg : P0 < 0
    ·have t3 : decide (P0 < 0) = true := by simpa using hneg
     have HF : Hid (TR = (2, 0)) := by show _ = _; rw [← HTS.out, HR.out, testC, if_neg HO1.out, if_pos (by rw [← HP0.out]; exact hneg)]
     clear hneg; go_wp2_with fail
     go_ret2
     exact ⟨by rw [HF.out]; rfl, hbw⟩
    ·obtain ⟨n, hn, hnl⟩ : ∃ n : Nat, P0 = n ∧ n < kl := ofN_nat HIN HP0.out hneg; subst hn; have t3 : decide ((n : Int) < 0) = false := by simp
     have hpl : n < ps.length := by have := hp.2.1; omega
     obtain ⟨bp, offp, rfl, HPC⟩ := (hp.below hbw).at_ cellsP_len (by omega) hnl hpl; obtain ⟨pn, HPN, hpn⟩ : ∃ pn, Hid (ps[n]? = some pn) ∧ ps[n] = pn := ⟨ps[n], List.getElem?_eq_getElem hpl, rfl⟩; rw [hpn] at HPC; clear hpn; obtain ⟨L3, L4, HL34⟩ : ∃ L3 L4, Hid (Lf n = (L3, L4)) := ⟨_, _, rfl⟩; have hbl := HB.out n pn HPN.out; rw [HL34.out] at hbl; simp only at hbl; obtain ⟨B1, l1, d1, B2, l2, d2, hsh⟩ := hbl.shape; have q4 := HPC.out 4 _ rfl; have q5 := HPC.out 5 _ rfl; simp only [Value.agg.injEq, Array.mk.injEq, List.cons.injEq, and_true] at hsh; rw [hsh.1] at q4; rw [hsh.2] at q5; rw [hsh.1, hsh.2] at hbl; have hbl := hbl.below hbw; have HGO := Lib.hid (testC_step (a := a) (b := b) (p := p) (q := q) (rs := rs.drop (m + 1)) HO1.out HP0.out HL34.out gp hbl.limb.1 hbl.limb.2); rw [← HR.out, HTS.out] at HGO; clear HPC hneg hsh hpl; go_upto_region 10 with fail; refine region_invW (PhiSd (.slice E1 k0 c0) (.slice E2 k0' c0') (some ⟨bp, offp, none⟩) kl cl n bp (offp + n * 24) (.agg #[.slice B1 l1 d1, .slice B2 l2 d2]) (mulE (Nm.lb p) (Nm.lb (Nm.dn q)) L3 L4) (mulN (Nm.lb p) (Nm.lb (Nm.dn q)) L3 L4) (mulD (Nm.lb p) (Nm.lb (Nm.dn q)) L3 L4) w12.heap.size) (RS w12.heap.size) (SD w12 8 10 11) (by kernel_rfl) (by kernel_rfl) (by kernel_rfl) PhiSd.keep (SD.start _ _ _ _ _) (fun vs => by simp only [fillR, Act.put, sA, sB, sC, Nat.zero_add, Nat.reduceAdd]; rfl) ?_ ?_
     ·refine sK ?_ (sK ?_ (sK ?_ (sK ?_ (sK ?_ (sK ?_ (sK ?_ (sK ?_ (sK ?_ (sK ?_ (sK ?_ (sK ?_ (sK ?_ (sZ)))))))))))))
      ·as_aux_lemma =>
       intro vs L W hS hL cl hdl hdep K hK; have f1 := (hDb.below hS.be).facts.1; have f2 := (hDb.below hS.be).facts.2; refine ⟨?_⟩; simp only [Act.put, sA, sB, sC, Nat.zero_add, Nat.reduceAdd] at hK ⊢; go_simp; with_reducible refine hK _ _ (RS.refl _ _) (hS.step (Below.refl _ _) 0 _ (by decide) (fun e => absurd e (by decide))) ?_
       exact rfl
      ·as_aux_lemma =>
       intro vs L W hS hL cl hdl hdep K hK; refine ⟨?_⟩; simp only [Act.put, sA, sB, sC, Nat.zero_add, Nat.reduceAdd] at hK ⊢; go_simp; with_reducible refine hK _ _ (RS.refl _ _) (hS.step (Below.refl _ _) 1 _ (by decide) (fun e => absurd e (by decide))) ?_
       exact rfl
      ·as_aux_lemma =>
       intro vs L W hS hL cl hdl hdep K hK; refine ⟨?_⟩; simp only [Act.put, sA, sB, sC, Nat.zero_add, Nat.reduceAdd] at hK ⊢; go_simp; with_reducible refine hK _ _ (RS.refl _ _) (hS.step (Below.refl _ _) 2 _ (by decide) (fun e => absurd e (by decide))) ?_
       exact rfl
      ·as_aux_lemma =>
       intro vs L W hS hL cl hdl hdep K hK; have d0 := hdep ⟨1, .data⟩ (by simp) rfl; simp only [PhiSd] at d0; have d1 := hdep ⟨2, .data⟩ (by simp) rfl; simp only [PhiSd] at d1; refine ⟨?_⟩; simp only [Act.put, sA, sB, sC, Nat.zero_add, Nat.reduceAdd, d0, d1] at hK ⊢; go_simp; with_reducible refine hK _ _ (RS.refl _ _) (hS.step (Below.refl _ _) 3 _ (by decide) (fun e => absurd e (by decide))) ?_
       exact rfl
      ·as_aux_lemma =>
       intro vs L W hS hL cl hdl hdep K hK; have d0 := hdep ⟨3, .data⟩ (by simp) rfl; simp only [PhiSd] at d0; refine ⟨?_⟩; simp only [Act.put, sA, sB, sC, Nat.zero_add, Nat.reduceAdd, d0] at hK ⊢; go_simp; with_reducible refine hK _ _ (RS.refl _ _) (hS.step (Below.refl _ _) 4 _ (by decide) (fun e => absurd e (by decide))) ?_
       exact rfl
      ·as_aux_lemma =>
       intro vs L W hS hL cl hdl hdep K hK; have d0 := hdep ⟨4, .data⟩ (by simp) rfl; simp only [PhiSd] at d0; have f4 := cell_keep hS.be q4; have f5 := cell_keep hS.be q5; refine ⟨?_⟩; simp only [Act.put, sA, sB, sC, Nat.zero_add, Nat.reduceAdd, d0] at hK ⊢; go_simp; with_reducible refine hK _ _ (RS.refl _ _) (hS.step (Below.refl _ _) 5 _ (by decide) (fun e => absurd e (by decide))) ?_
       exact rfl
      ·as_aux_lemma =>
       intro vs L W hS hL cl hdl hdep K hK; have d0 := hdep ⟨0, .data⟩ (by simp) rfl; simp only [PhiSd] at d0; have d1 := hdep ⟨5, .data⟩ (by simp) rfl; simp only [PhiSd] at d1; refine ⟨?_⟩; simp only [Act.put, sA, sB, sC, Nat.zero_add, Nat.reduceAdd, d0, d1] at hK ⊢; go_simp; refine (rmul_E _ _ (Nm.lb p) (Nm.lb (Nm.dn q)) L3 L4 _ (hu.below hS.be).rtl (hbl.below hS.be)).mono ?_; rintro e w' ⟨v, rfl, hn, hb⟩; go_wp2_with fail; with_reducible refine hK _ _ (RS.below hb hS.be.size) (hS.step hb 6 _ (by decide) (fun e => absurd e (by decide))) ?_
       exact ⟨v, rfl, hn.out⟩
      ·as_aux_lemma =>
       intro vs L W hS hL cl hdl hdep K hK; have d0 := hdep ⟨6, .data⟩ (by simp) rfl; simp only [PhiSd] at d0; refine @exE1 _ _ _ d0 ?_; clear d0; intro v0 d0; have e0 := d0.1; have n0 := d0.2; clear d0; refine ⟨?_⟩; simp only [Act.put, sA, sB, sC, Nat.zero_add, Nat.reduceAdd, e0] at hK ⊢; go_simp; with_reducible refine hK _ _ (RS.refl _ _) (hS.step (Below.refl _ _) 7 _ (by decide) (fun e => absurd e (by decide))) ?_
       exact ⟨_, rfl, n0⟩
      ·as_aux_lemma =>
       intro vs L W hS hL cl hdl hdep K hK; have d0 := hdep ⟨7, .data⟩ (by simp) rfl; simp only [PhiSd] at d0; refine @exE1 _ _ _ d0 ?_; clear d0; intro v0 d0; have e0 := d0.1; have n0 := d0.2; clear d0
       have h11 : L 11 = false := by
        cases h : L 11 with
        | false => rfl
        | true => exact absurd (cl 11 _ rfl h ⟨8, .data⟩ (by simp) rfl) (by rw [hL]; decide)
       obtain ⟨A, k, c, A', k', c', rfl⟩ := n0.shape; refine ⟨?_⟩; simp only [Act.put, sA, sB, sC, Nat.zero_add, Nat.reduceAdd, e0] at hK ⊢; go_simp; with_reducible refine hK _ _ (RS.refl _ _) (hS.step (Below.refl _ _) 8 _ (by decide) (fun _ => h11)) ?_
       exact ⟨_, _, _, _, _, _, rfl, n0⟩
      ·as_aux_lemma =>
       intro vs L W hS hL cl hdl hdep K hK; have d0 := hdep ⟨7, .data⟩ (by simp) rfl; simp only [PhiSd] at d0; refine @exE1 _ _ _ d0 ?_; clear d0; intro v0 d0; have e0 := d0.1; have n0 := d0.2; clear d0; refine ⟨?_⟩; simp only [Act.put, sA, sB, sC, Nat.zero_add, Nat.reduceAdd, e0] at hK ⊢; go_simp; with_reducible refine hK _ _ (RS.refl _ _) (hS.step (Below.refl _ _) 9 _ (by decide) (fun e => absurd e (by decide))) ?_
       exact rfl
      ·as_aux_lemma =>
       intro vs L W hS hL cl hdl hdep K hK
       have h11 : L 11 = false := by
        cases h : L 11 with
        | false => rfl
        | true => exact absurd (cl 11 _ rfl h ⟨10, .data⟩ (by simp) rfl) (by rw [hL]; decide)
       refine ⟨?_⟩; simp only [Act.put, sA, sB, sC, Nat.zero_add, Nat.reduceAdd] at hK ⊢; go_simp; with_reducible refine hK _ _ (RS.below (bA _ _) hS.be.size) (hS.step (bA _ _) 10 _ (by decide) (fun _ => h11)) ?_
       exact ⟨_, rfl, hS.be.size, none, 0, 0, none, 0, 0, Blk.new _ _ _⟩
      ·as_aux_lemma =>
       intro vs L W hS hL cl hdl hdep K hK; have d0 := hdep ⟨10, .data⟩ (by simp) rfl; simp only [PhiSd] at d0; refine @exE1 _ _ _ d0 ?_; clear d0; intro g0 d0; have e0 := d0.1; have l0 := d0.2.1; have s0 := d0.2.2; clear d0; have d1 := hdep ⟨8, .data⟩ (by simp) rfl; simp only [PhiSd] at d1; refine @exE6 _ _ _ _ _ _ _ _ d1 ?_; clear d1; intro A1 k1 c1 B1 m1 d1 d1; have e1 := d1.1; have n1 := d1.2; clear d1; obtain ⟨⟨a1, q1⟩, ⟨a2, q2⟩, q3, q4⟩ := s0.facts; refine ⟨?_⟩; simp only [Act.put, sA, sB, sC, Nat.zero_add, Nat.reduceAdd, e0, e1] at hK ⊢; go_simp; with_reducible refine hK undef _ (RS.store s0 l0 _ _ _ _ _ _) (hS.stored e0 e1 l0 s0 (by decide) (by decide) _) ?_
       exact trivial
      ·as_aux_lemma =>
       intro vs L W hS hL cl hdl hdep K hK; have d0 := hdep ⟨9, .data⟩ (by simp) rfl; simp only [PhiSd] at d0; refine ⟨?_⟩; simp only [Act.put, sA, sB, sC, Nat.zero_add, Nat.reduceAdd, d0] at hK ⊢; go_simp; with_reducible refine hK _ _ (RS.refl _ _) (hS.step (Below.refl _ _) 12 _ (by decide) (fun e => absurd e (by decide))) ?_
       exact rfl
     ·intro vs L w13 hS hall hv; have v12 := hv 12 (by simp); have v8 := hv 8 (by simp); simp only [PhiSd] at v12 v8; obtain ⟨_, _, _, _, _, _, e8', ho⟩ := v8; obtain ⟨g, A9, k9, c9, B9, m9, d9, e10, e8, hgN, hblk⟩ := hS.st (hall 11 (by simp)); rw [e8] at e8'; rw [← e8'] at ho; have HO := Lib.hid ho; have hbe := hS.be; clear hv hS hall e8' ho; simp only [Act.put, sA, sB, sC, Nat.zero_add, Nat.reduceAdd, v12, e10, e8]; have hDL := hDb.lt; have hbw := Below.tr hbw hbe; have hbx := hbx.trans (hbe.mono hbx.size); have hDb := hDb.below hbe; have hxw := hxw.below hbe; have hraw := hraw.below hbe; have hgD : w9.heap.size ≠ g := by omega
      clear hbl q4 q5 hu; obtain ⟨E0, HE0⟩ : ∃ E, Hid (E = mulE (Nm.lb p) (Nm.lb (Nm.dn q)) L3 L4) := ⟨_, rfl⟩; rw [← HE0.out] at HGO HO ⊢; by_cases hE : E0 = 0
      ·have t4 : (E0 != 0) = false := by simpa using hE
       have hR9 : Rat w13 (.agg #[.slice A9 k9 c9, .slice B9 m9 d9]) (mulN (Nm.lb p) (Nm.lb (Nm.dn q)) L3 L4 / Nat.gcd (mulN (Nm.lb p) (Nm.lb (Nm.dn q)) L3 L4) (mulD (Nm.lb p) (Nm.lb (Nm.dn q)) L3 L4)) (mulD (Nm.lb p) (Nm.lb (Nm.dn q)) L3 L4 / Nat.gcd (mulN (Nm.lb p) (Nm.lb (Nm.dn q)) L3 L4) (mulD (Nm.lb p) (Nm.lb (Nm.dn q)) L3 L4)) := by
        rcases HO.out with ⟨_, h, _⟩ | ⟨h, _⟩
        ·exact h
        ·exact absurd hE h
       obtain ⟨N', hN'⟩ : ∃ N, N = mulN (Nm.lb p) (Nm.lb (Nm.dn q)) L3 L4 / Nat.gcd (mulN (Nm.lb p) (Nm.lb (Nm.dn q)) L3 L4) (mulD (Nm.lb p) (Nm.lb (Nm.dn q)) L3 L4) := ⟨_, rfl⟩; obtain ⟨M', hM'⟩ : ∃ N, N = mulD (Nm.lb p) (Nm.lb (Nm.dn q)) L3 L4 / Nat.gcd (mulN (Nm.lb p) (Nm.lb (Nm.dn q)) L3 L4) (mulD (Nm.lb p) (Nm.lb (Nm.dn q)) L3 L4) := ⟨_, rfl⟩; obtain ⟨GN, HGa, HGb⟩ := HGO.out.2 hE N' M' hN' hM'; rw [← hN', ← hM'] at hR9; have HGa := Lib.hid HGa; have HGb := Lib.hid HGb; clear hN' hM' HGO HO HE0 hE; obtain ⟨f5, f6⟩ := hDb.facts; have f7 := hblk.cell 0; have f8 := hblk.cell 1; simp only [List.getElem?_toArray, List.getElem?_cons_zero, List.getElem?_cons_succ] at f7 f8; have q7 := Blk.frozen hDb 0; have q8 := Blk.frozen hDb 1; have rst := RS.store (N := w9.heap.size) (show Sl w13 w9.heap.size from ⟨_, _, _, _, _, _, hDb⟩) (Nat.le_refl _) A9 k9 c9 B9 m9 d9; have hD14 := Blk.set_ (Blk.set_ hDb 0 (.slice A9 k9 c9)) 1 (.slice B9 m9 d9); go_upto_region 14 with fail; refine wp_name ?_; intro w14 HW14; rw [← HW14.out] at rst hD14; clear HW14 f5 f6 f7 f8 q7 q8; have hra14 := hraw.map rst.nb; have hR14 := hR9.map rst.nb; have hx14 : Box w14 w.heap.size (.slice A1 k1 c1) (.slice A2 k2 c2) := Blk.below hxw rst.be hwl; have hbx := hbx.trans rst.be; have hbw := Below.tr hb9 hbx; have hD14 : Box w14 w9.heap.size (.slice A9 k9 c9) (.slice B9 m9 d9) := hD14; obtain ⟨f1, f2⟩ := hD14.facts; obtain ⟨f3, f4⟩ := hx14.facts; clear hraw hR9 hxw hblk hDb; go_wp2_with fail; refine (rorder_n _ _ N' M' a b _ hR14 hra14 GN ga).mono ?_
       rintro e w15 ⟨cc, rfl, hcc, hb15⟩; have hbx := hbx.trans (hb15.mono hbx.size); have hbw := Below.tr hbw hb15; have hD14 := hD14.below hb15; have hR14 := hR14.below hb15; clear f1 f2 f3 f4; by_cases hle : N' * b ≤ a * M'
       ·have hc := cmp_le hle; rw [← hcc.out] at hc; have hd := decide_eq_true hc; have HF : Hid (TR = (2, 0)) := HGa.out hle; clear hle hc hcc; go_wp2_with fail
        go_ret2
        exact ⟨by rw [HF.out]; rfl, hbw⟩
       ·have hlt : a * M' < N' * b := by omega
        have hc := cmp_pos hlt; rw [← hcc.out] at hc; have hd : decide (cc ≤ 0) = false := by rw [hc]; rfl
        have HT2 : Hid (testC Lz ps Lf a b name (rs.drop (m + 1)) N' M' = TR) := (HGb.out hle).symm; clear hle hc hcc hlt; go_wp2_with fail
        go_roundg (gk - 1)
        case measure => omega
        case rel => exact ⟨m + 1, N', M', _, _, _, _, _, _, by go_num, by omega, hD14, hR14, GN, HT2, hbx⟩
      ·have t4 : (E0 != 0) = true := by simpa using hE
       have HF : Hid (TR = (0, E0)) := HGO.out.1 hE; clear hE; go_wp2_with fail
       go_ret2
       exact ⟨by rw [HF.out]; rfl, hbw⟩
  ·obtain rfl : m = ks := by omega
   have t1 : decide ((m : Int) < (m : Int)) = false := by simp
   have HF : Hid (TR = (1, 0)) := by show _ = _; rw [← HTS.out, List.drop_of_length_le (by have := hrs.2.1; omega)]; rfl
   go_wp2_with fail
   go_ret2
   exact ⟨by rw [HF.out]; rfl, hbw⟩
end Go.Proofs.Yticobffjnjbjiaa
namespace Go.Proofs.Yticobffjnjbjiaa
open Go Go.RowKit
def PhiRB (Al A T S : Option Addr) (kl cl k c kt ct i bt offt bs offs ks cs : Nat) (name : ByteArray) (SA : Option Addr) (sk sc : Nat) (va : Value) (c1 c2 : Int) (j : Nat) (w : World) (x : Value) : Prop :=
 match j with
 | 0 => x = .slice Al kl cl
 | 1 => x = .slice A k c
 | 2 => x = .slice T kt ct
 | 3 => x = .int .i64 (i : Nat)
 | 4 => x = .pointer (some ⟨bt, offt + i, none⟩)
 | 5 => x = .string name
 | 6 => x = .slice S ks cs
 | 7 => x = .int .i64 (i : Nat)
 | 8 => x = .pointer (some ⟨bs, offs + i, none⟩)
 | 9 => x = .slice SA sk sc
 | 10 => x = va
 | 11 => x = .tuple #[.int .i64 c1, .int .i64 c2]
 | 12 => x = .tuple #[.int .i64 c1, .int .i64 c2]
 | 13 => x = .int .i64 c1
 | 14 => x = .int .i64 c2
 | 15 => x = .int .i64 c1
 | 16 => x = .int .i64 c2
 | _ => True
theorem HBs.below {w w' : World} {ps : List PC} {Lf : Nat → List Nat × List Nat} (h : ∀ (n : Nat) p, ps[n]? = some p → RtL w (.agg #[p.b1, p.b2]) (Lf n).1 (Lf n).2) (hb : Below w.heap.size w w') : Hid (∀ (n : Nat) p, ps[n]? = some p → RtL w' (.agg #[p.b1, p.b2]) (Lf n).1 (Lf n).2) := fun n p e => (h n p e).below hb
set_option maxRecDepth 100000 in
set_option maxHeartbeats 4000000 in
theorem rbuildL_n (Al A T S : Option Addr) (kl cl k c kt ct ks cs : Nat) (l : List Int) (ps : List PC) (Lf : Nat → List Nat × List Nat) (names : List ByteArray) (rows : List SLR) (va : Value) (L1 L2 : List Nat) (w : World) (hp : RowS cellsP w Al kl ps) (hr : RowS intC w A k l) (ht : RowS strC w T kt names) (hs : RowS slC w S ks rows)
  (HS : Hid (∀ s ∈ rows, RowS cellsR w s.A s.k s.rs)) (hks : ks ≤ 1073741824) (HB : Hid (∀ (n : Nat) p, ps[n]? = some p → RtL w (.agg #[p.b1, p.b2]) (Lf n).1 (Lf n).2)) (ha : RtL w va L1 L2) :
  Calls Try.prog 24 #[.slice Al kl cl, .slice A k c, .slice T kt ct, .slice S ks cs, va] w fun e w' => ∃ v, ∃ er : Int, ∃ codes : List Int, e = .returned (.tuple #[v, .int .i64 er]) ∧ Hid (BuildQ kl ks kt l ps Lf names rows L1 L2 er codes) ∧ w'.ownsRow w.heap.size 3 1 v codes.length (codes.map intV) ∧ Below w.heap.size w w' := by
 have hkl := hp.2.2; have hkt := ht.2.2; obtain ⟨A1, k1, c1, A2, k2, c2, rfl⟩ := ha.shape
 go_enter Try.func24, Try.ntmps24
 go_upto_region 1 with fail; refine wp_name ?_; intro w1 HW1; have hb1 : Below w.heap.size w w1 := by rw [HW1.out]; exact bA _ _
 have hx : Box w1 w.heap.size (.slice A1 k1 c1) (.slice A2 k2 c2) := by rw [HW1.out]; exact Blk.new _ _ _
 clear HW1; go_wp2_with fail; refine (ranged_n Al A kl cl k c l _ (hr.below hb1) hkl).mono ?_; rintro e w' ⟨rfl, rfl⟩; by_cases hR : l.any (outB kl) = true
 ·rw [hR]; have HE : Hid (fitE kl l kt ks (allR rows) = 5) := by show _ = _; unfold fitE; rw [if_pos hR]
  have HP : Hid (BuildQ kl ks kt l ps Lf names rows L1 L2 5 []) := .inl ⟨by rw [HE.out]; decide, HE.out.symm, rfl⟩; clear hR; go_wp2_with fail
  (try rw [Exit.noGoto_ret])
  go_ret2
  exact ⟨_, _, [], rfl, HP, World.ownsRow_nil _ _ _ _, hb1⟩
 ·have hR' : l.any (outB kl) = false := by simpa using hR
  have HR' := Lib.hid hR'; rw [hR']; obtain ⟨fb, HFB⟩ : ∃ b, Hid (b = ((kt : Int) == (ks : Int))) := ⟨_, rfl⟩; clear hR hR'; go_wp2_with fail; rw [← HFB.out]
  go_loopg [12, 13] ks (fun j f x wx => ∃ (i : Nat) (b : Bool), x = .int .i64 i ∧ f = .bool b ∧ i + j = ks ∧ Hid (b = (fb && !((rows.take i).any fun s => s.rs.any oddO))) ∧ Below w.heap.size w wx ∧ Box wx w.heap.size (.slice A1 k1 c1) (.slice A2 k2 c2))
  case atStart => exact ⟨0, fb, rfl, rfl, by omega, (by show _ = _; simp), hb1, hx⟩
  case round =>
   clear hx hb1; obtain ⟨i, b, rfl, rfl, hij, HBB, hbw, hx⟩ := hrel; by_cases hi : i < ks
   ·obtain ⟨bs, offs, s, rfl, hcs, HSI⟩ := (hs.below hbw).sl hi; have t1 : decide ((i : Int) < (ks : Int)) = true := by simp; omega
    have hmem : s ∈ rows := by obtain ⟨h, e⟩ := HSI.out; rw [← e]; exact List.getElem_mem h
    have hrs := (HS.out s hmem).below hbw
    have HT : Hid ((fb && !((rows.take (i + 1)).any fun s => s.rs.any oddO)) = (b && !(s.rs.any oddO))) := by
     show _ = _
     obtain ⟨h, e⟩ := HSI.out; rw [List.take_succ_eq_append_getElem h, e, List.any_append, HBB.out]; simp [Bool.and_assoc]
    clear hmem
    cases b
    ·go_wp2_with fail
     go_roundg (gk - 1)
     case measure => omega
     case rel => exact ⟨i + 1, false, by go_num, rfl, by omega, by rw [HT.out]; rfl, hbw, hx⟩
    ·go_wp2_with fail; refine (known_n s.A s.k s.c s.rs _ hrs).mono ?_; rintro e w' ⟨rfl, rfl⟩; go_wp2_with fail
     go_roundg (gk - 1)
     case measure => omega
     case rel => exact ⟨i + 1, _, by go_num, rfl, by omega, by rw [HT.out]; rfl, hbw, hx⟩
   ·obtain rfl : i = ks := by omega
    have t1 : decide ((i : Int) < (i : Int)) = false := by simp
    have hrl : rows.length = i := hs.2.1.symm
    have HANY : Hid ((allR rows).any oddO = (rows.take i).any fun s => s.rs.any oddO) := by
     show _ = _
     rw [List.take_of_length_le (by omega), allR, List.any_flatMap]
    clear hrl
    cases b
    ·have HE : Hid (fitE kl l kt i (allR rows) = 1) := by
      show _ = _
      unfold fitE; rw [if_neg (by rw [HR'.out]; decide), HANY.out]; have h := HBB.out; rw [HFB.out] at h; by_cases hk : (kt : Int) ≠ (i : Int)
      ·rw [if_pos hk]
      ·rw [if_neg hk]; have hk2 : ((kt : Int) == (i : Int)) = true := by simpa using hk
       rw [hk2, Bool.true_and] at h; rw [if_pos (by simpa using h.symm)]
     have HP : Hid (BuildQ kl i kt l ps Lf names rows L1 L2 1 []) := .inl ⟨by rw [HE.out]; decide, HE.out.symm, rfl⟩; clear t1; go_wp2_with fail
     (try rw [Exit.noGoto_ret])
     go_ret2
     exact ⟨_, _, [], rfl, HP, World.ownsRow_nil _ _ _ _, hbw⟩
    ·have HKK : Hid (kt = i) := by
      show _ = _
      have h := HBB.out; rw [HFB.out] at h; have h2 := (Bool.and_eq_true_iff.1 h.symm).1; simp at h2; omega
     have HFIT : Hid (fitE kl l kt i (allR rows) = 0) := by
      show _ = _
      have h := HBB.out; unfold fitE; rw [if_neg (by rw [HR'.out]; decide), HANY.out, if_neg (by rw [HKK.out]; exact fun h => h rfl), if_neg (by have h2 := (Bool.and_eq_true_iff.1 h.symm).2; simpa using h2)]
     have hkk : kt = i := HKK.out; clear HBB HANY HFB; subst hkk; obtain ⟨Lz, HLz⟩ : ∃ L, Hid (L = l.map Int.toNat) := ⟨_, rfl⟩
     obtain ⟨hnat, HIN⟩ : RowS natC w A k Lz ∧ Hid (∀ n ∈ Lz, n < kl) := by
      have := nat_of hr (fun n hn => by simpa using List.any_eq_false.1 HR'.out n hn) HLz.out; exact ⟨this.1, fun n hn => by obtain ⟨j, hj⟩ := List.getElem?_of_mem hn; exact this.2.out j n hj⟩
     obtain ⟨f1, f2⟩ := hx.facts; have hbw0 := hbw; go_wp2_with fail; refine (rvalid_v (ha.below hbw)).mono ?_; rintro e w3 ⟨E, rfl, HV, hb3⟩; have hx := hx.below hb3; have hbw := Below.tr hbw hb3; clear f1 f2 hbw0 hb3; by_cases hE : E = 0
     ·have h1 : (E != 0) = false := by rw [hE]; rfl
      have HV0 : Nm.validE L1 L2 = 0 := by rw [← HV.out]; exact hE
      obtain ⟨a, b, rfl, rfl, ga⟩ := Nm.validE_spec ha.limb.1 ha.limb.2 HV0; have hra := (ha.below hbw).rat; clear ha HV hE HV0; obtain ⟨xs, HXS⟩ : ∃ xs, Hid (xs = names.zip (rows.map (·.rs))) := ⟨_, rfl⟩; have HXL : Hid (names.length = kt ∧ rows.length = kt) := ⟨ht.2.1.symm, hs.2.1.symm⟩; obtain ⟨ii, hi0, hz0, hz1, hz2⟩ := info_parts info_int; obtain ⟨TB, HTB⟩ : ∃ TB, Hid (TB = fun x => (oneC Lz ps Lf a b x)) := ⟨_, rfl⟩; have hbw3 := hbw; have hx3 := hx; obtain ⟨f1, f2⟩ := hx.facts; go_wp2_with fail; clear f1 f2
      go_loopg [15, 16] kt (fun j u x wr => ∃ i : Nat, x = .int .i64 i ∧ i + j = kt ∧ wr.ownsRow w3.heap.size 3 1 u i ((xs.take i).map fun x => intV (TB x).1) ∧ Hid (∀ (m : Nat) x, m < i → xs[m]? = some x → (TB x).2 = 0) ∧ Below w3.heap.size w3 wr)
      case atStart => exact ⟨0, rfl, by omega, World.ownsRow_nil _ _ _ _, fun m x h => by omega, Below.refl _ _⟩
      case round =>
       obtain ⟨G, hG⟩ : ∃ G, G = gk := ⟨gk, rfl⟩; subst hG; obtain ⟨i, rfl, hij, hown, HZ, hbe⟩ := hrel; have hx := hx3.below hbe; have hbw := Below.tr hbw3 hbe; have hra := hra.below hbe; by_cases hi : i < kt
       ·obtain ⟨bt, offt, name, rfl, hct, HNM⟩ := (ht.below hbw).str hi; obtain ⟨bs, offs, s, rfl, hcs, HSI⟩ := (hs.below hbw).sl hi
        have HX : Hid (xs[i]? = some (name, s.rs)) := by
         obtain ⟨h, e⟩ := HSI.out
         show _ = _; rw [HXS.out, List.getElem?_zip_eq_some.2]
         refine ⟨HNM.out, ?_⟩; rw [List.getElem?_map, List.getElem?_eq_getElem h, e]; rfl
        have hmem : s ∈ rows := by obtain ⟨h, e⟩ := HSI.out; rw [← e]; exact List.getElem_mem h
        have hrs := (HS.out s hmem).below hbw; have HB2 : Hid (∀ {w' : World}, Below w.heap.size w w' → Hid (∀ (n : Nat) p, ps[n]? = some p → RtL w' (.agg #[p.b1, p.b2]) (Lf n).1 (Lf n).2)) := fun h => HBs.below HB.out h
        obtain ⟨z1, HC1⟩ : ∃ z1, Hid (z1 = (testC Lz ps Lf a b name s.rs 1 1).1) := ⟨_, rfl⟩; obtain ⟨z2, HC2⟩ : ∃ z2, Hid (z2 = (testC Lz ps Lf a b name s.rs 1 1).2) := ⟨_, rfl⟩; have HT : Hid (TB (name, s.rs) = (z1, z2)) := by show _ = _; rw [HTB.out, HC1.out, HC2.out]; rfl
        have t1 : decide ((i : Int) < (kt : Int)) = true := by simp; omega
        clear hmem; go_upto_region 17 with fail; refine region_invc (PhiRB Al A (some ⟨bt, offt, none⟩) (some ⟨bs, offs, none⟩) kl cl k c kt ct i bt offt bs offs kt cs name s.A s.k s.c (.agg #[.slice A1 k1 c1, .slice A2 k2 c2]) z1 z2) (fun w w' => Below w.heap.size w w') (fun W => Below wr.heap.size wr W) (by kernel_rfl) (by kernel_rfl) (by kernel_rfl) (fun _ _ _ _ _ h => h) (fun _ _ hR hS => Below.tr hS hR) (bD _) ?_ ?_
        ·refine sK ?_ (sK ?_ (sK ?_ (sK ?_ (sK ?_ (sK ?_ (sK ?_ (sK ?_ (sK ?_ (sK ?_ (sK ?_ (sK ?_ (sK ?_ (sK ?_ (sK ?_ (sK ?_ (sK ?_ (sZ)))))))))))))))))
         ·as_aux_lemma =>
          intro vs W hS hdep K hK; refine ⟨?_⟩; simp only [fillR, Act.put, sA, sB, sC, Nat.zero_add, Nat.reduceAdd] at hK ⊢; go_simp; with_reducible refine hK _ _ (Below.refl _ _) ?_
          exact rfl
         ·as_aux_lemma =>
          intro vs W hS hdep K hK; refine ⟨?_⟩; simp only [fillR, Act.put, sA, sB, sC, Nat.zero_add, Nat.reduceAdd] at hK ⊢; go_simp; with_reducible refine hK _ _ (Below.refl _ _) ?_
          exact rfl
         ·as_aux_lemma =>
          intro vs W hS hdep K hK; refine ⟨?_⟩; simp only [fillR, Act.put, sA, sB, sC, Nat.zero_add, Nat.reduceAdd] at hK ⊢; go_simp; with_reducible refine hK _ _ (Below.refl _ _) ?_
          exact rfl
         ·as_aux_lemma =>
          intro vs W hS hdep K hK; refine ⟨?_⟩; simp only [fillR, Act.put, sA, sB, sC, Nat.zero_add, Nat.reduceAdd] at hK ⊢; go_simp; with_reducible refine hK _ _ (Below.refl _ _) ?_
          exact rfl
         ·as_aux_lemma =>
          intro vs W hS hdep K hK; have d0 := hdep ⟨2, .data⟩ (by simp) rfl; simp only [PhiRB] at d0; have d1 := hdep ⟨3, .data⟩ (by simp) rfl; simp only [PhiRB] at d1; refine ⟨?_⟩; simp only [fillR, Act.put, sA, sB, sC, Nat.zero_add, Nat.reduceAdd, d0, d1] at hK ⊢; go_simp; with_reducible refine hK _ _ (Below.refl _ _) ?_
          exact rfl
         ·as_aux_lemma =>
          intro vs W hS hdep K hK; have d0 := hdep ⟨4, .data⟩ (by simp) rfl; simp only [PhiRB] at d0; have ft := cell_keep hS hct; refine ⟨?_⟩; simp only [fillR, Act.put, sA, sB, sC, Nat.zero_add, Nat.reduceAdd, d0] at hK ⊢; go_simp; with_reducible refine hK _ _ (Below.refl _ _) ?_
          exact rfl
         ·as_aux_lemma =>
          intro vs W hS hdep K hK; refine ⟨?_⟩; simp only [fillR, Act.put, sA, sB, sC, Nat.zero_add, Nat.reduceAdd] at hK ⊢; go_simp; with_reducible refine hK _ _ (Below.refl _ _) ?_
          exact rfl
         ·as_aux_lemma =>
          intro vs W hS hdep K hK; refine ⟨?_⟩; simp only [fillR, Act.put, sA, sB, sC, Nat.zero_add, Nat.reduceAdd] at hK ⊢; go_simp; with_reducible refine hK _ _ (Below.refl _ _) ?_
          exact rfl
         ·as_aux_lemma =>
          intro vs W hS hdep K hK; have d0 := hdep ⟨6, .data⟩ (by simp) rfl; simp only [PhiRB] at d0; have d1 := hdep ⟨7, .data⟩ (by simp) rfl; simp only [PhiRB] at d1; refine ⟨?_⟩; simp only [fillR, Act.put, sA, sB, sC, Nat.zero_add, Nat.reduceAdd, d0, d1] at hK ⊢; go_simp; with_reducible refine hK _ _ (Below.refl _ _) ?_
          exact rfl
         ·as_aux_lemma =>
          intro vs W hS hdep K hK; have d0 := hdep ⟨8, .data⟩ (by simp) rfl; simp only [PhiRB] at d0; have ft := cell_keep hS hcs; refine ⟨?_⟩; simp only [fillR, Act.put, sA, sB, sC, Nat.zero_add, Nat.reduceAdd, d0] at hK ⊢; go_simp; with_reducible refine hK _ _ (Below.refl _ _) ?_
          exact rfl
         ·as_aux_lemma =>
          intro vs W hS hdep K hK; have f1 := (hx.below hS).facts.1; have f2 := (hx.below hS).facts.2; refine ⟨?_⟩; simp only [fillR, Act.put, sA, sB, sC, Nat.zero_add, Nat.reduceAdd] at hK ⊢; go_simp; with_reducible refine hK _ _ (Below.refl _ _) ?_
          exact rfl
         ·as_aux_lemma =>
          intro vs W hS hdep K hK; have d0 := hdep ⟨0, .data⟩ (by simp) rfl; simp only [PhiRB] at d0; have d1 := hdep ⟨1, .data⟩ (by simp) rfl; simp only [PhiRB] at d1; have d2 := hdep ⟨5, .data⟩ (by simp) rfl; simp only [PhiRB] at d2; have d3 := hdep ⟨9, .data⟩ (by simp) rfl; simp only [PhiRB] at d3; have d4 := hdep ⟨10, .data⟩ (by simp) rfl; simp only [PhiRB] at d4; refine ⟨?_⟩; simp only [fillR, Act.put, sA, sB, sC, Nat.zero_add, Nat.reduceAdd, d0, d1, d2, d3, d4] at hK ⊢; go_simp; refine (rsaid_n Al A kl cl k c s.c Lz ps Lf name s.A s.k s.rs _ a b _ (hp.below (Below.tr hbw hS)) (hnat.below (Below.tr hbw hS)) HIN (hrs.below hS) (HB2.out (Below.tr hbw hS)) (hra.below hS) ga).mono ?_; rintro e w' ⟨rfl, hb⟩; go_wp2_with fail; with_reducible refine hK _ _ hb ?_
          exact (by simp only [PhiRB]; rw [← HC1.out, ← HC2.out])
         ·as_aux_lemma =>
          intro vs W hS hdep K hK; have d0 := hdep ⟨11, .data⟩ (by simp) rfl; simp only [PhiRB] at d0; refine ⟨?_⟩; simp only [fillR, Act.put, sA, sB, sC, Nat.zero_add, Nat.reduceAdd, d0] at hK ⊢; go_simp; with_reducible refine hK _ _ (Below.refl _ _) ?_
          exact rfl
         ·as_aux_lemma =>
          intro vs W hS hdep K hK; have d0 := hdep ⟨12, .data⟩ (by simp) rfl; simp only [PhiRB] at d0; refine ⟨?_⟩; simp only [fillR, Act.put, sA, sB, sC, Nat.zero_add, Nat.reduceAdd, d0] at hK ⊢; go_simp; with_reducible refine hK _ _ (Below.refl _ _) ?_
          exact rfl
         ·as_aux_lemma =>
          intro vs W hS hdep K hK; have d0 := hdep ⟨12, .data⟩ (by simp) rfl; simp only [PhiRB] at d0; refine ⟨?_⟩; simp only [fillR, Act.put, sA, sB, sC, Nat.zero_add, Nat.reduceAdd, d0] at hK ⊢; go_simp; with_reducible refine hK _ _ (Below.refl _ _) ?_
          exact rfl
         ·as_aux_lemma =>
          intro vs W hS hdep K hK; have d0 := hdep ⟨13, .data⟩ (by simp) rfl; simp only [PhiRB] at d0; have d1 := hdep ⟨11, .chain⟩ (by simp) rfl; simp only [PhiRB] at d1; refine ⟨?_⟩; simp only [fillR, Act.put, sA, sB, sC, Nat.zero_add, Nat.reduceAdd, d0, d1] at hK ⊢; go_simp; with_reducible refine hK _ _ (Below.refl _ _) ?_
          exact rfl
         ·as_aux_lemma =>
          intro vs W hS hdep K hK; have d0 := hdep ⟨14, .data⟩ (by simp) rfl; simp only [PhiRB] at d0; have d1 := hdep ⟨15, .chain⟩ (by simp) rfl; simp only [PhiRB] at d1; refine ⟨?_⟩; simp only [fillR, Act.put, sA, sB, sC, Nat.zero_add, Nat.reduceAdd, d0, d1] at hK ⊢; go_simp; with_reducible refine hK _ _ (Below.refl _ _) ?_
          exact rfl
        ·intro vs w4 hS hv; have v15 := hv 15 (by simp); have v16 := hv 16 (by simp); simp only [PhiRB] at v15 v16; have hb4 := Below.tr hbe hS; have hbw4 := Below.tr hbw hS; have hown4 := own_below hown hS; simp only [fillR, Act.put, sA, sB, sC, Nat.zero_add, Nat.reduceAdd, v15, v16]; clear hv v15 v16 hct hcs hrs hS hown; by_cases h2 : z2 = 0
         ·have t2 : (z2 != 0) = false := by simpa using h2
          have hbA := bA w4 (.cells #[.int .i64 z1] 3); have howA := own_below hown4 hbA; have hb4A := Below.tr hb4 hbA; have hszA := hb4A.size; have hrdA : Rd (w4.alloc (.cells #[.int .i64 z1] 3)) (some ⟨w4.heap.size, 0, none⟩) [.int .i64 z1] := Rd.fresh w4 3 [.int .i64 z1]
          go_wp2_with (first | (at_builtin; go_loud (refine wpList_append_any _ rfl (.tmp 73) (.tmp 75) _ rfl w3.heap.size 3 ii _ 1 8 Try.underlying35 hi0 hz0 hz1 hz2 rfl (by omega) _ i _ rfl howA _ 1 1 [.int .i64 z1] rfl rfl hrdA (by simp [Value.oneCell']) (by simp only [maxLen]; omega) (by omega) hszA ?_); intro v1 w11 hown1 hg1 hat1))
          have hrow := hown1; rw [take_map (f := fun x => intV (TB x).1) HX.out (by show intV (TB (name, s.rs)).1 = Value.int .i64 z1; rw [HT.out]; rfl)] at hrow; have hb4B := hb4A.grown hg1 hszA (own_block_ge howA); have HZ2 := first_zero (TB := TB) HZ.out HX.out (by rw [HT.out]; exact h2)
          go_roundg (G - 1)
          case measure => omega
          case rel => exact ⟨i + 1, by go_num, by omega, hrow, HZ2, hb4B⟩
         ·have t2 : (z2 != 0) = true := by simpa using h2
          have HE : Hid (z2 = fbad (fun x => oneC (l.map Int.toNat) ps Lf a b x) (names.zip (rows.map (·.rs)))) := by
           show _ = _
           rw [← HLz.out, ← HXS.out]; have h2 : (oneC Lz ps Lf a b (name, s.rs)).2 = z2 := by have := HT.out; rw [HTB.out] at this; exact congrArg Prod.snd this
           rw [fbad_at HX.out (fun m y hm hy => by have := HZ.out m y hm hy; rw [HTB.out] at this; exact this) (by rw [h2]; assumption), h2]
          have HP : Hid (BuildQ kl kt kt l ps Lf names rows (Nm.lb a) (Nm.lb (Nm.dn b)) z2 []) := .inr (.inr ⟨HFIT.out, a, b, rfl, rfl, ga, HE.out, by rw [if_neg h2]⟩); clear h2; go_wp2_with fail
          (try rw [Exit.noGoto_ret])
          go_ret2
          exact ⟨_, _, [], rfl, HP, World.ownsRow_nil _ _ _ _, hbw4⟩
       ·obtain rfl : kt = i := by omega
        have HT : Hid (xs.take kt = xs) := by
         show _ = _; exact List.take_of_length_le (by rw [HXS.out]; simp [HXL.out])
        have HZ2 : Hid (∀ x ∈ xs, (oneC Lz ps Lf a b x).2 = 0) := by
         intro x hx; obtain ⟨j, hj⟩ := List.getElem?_of_mem hx; have hjl := (List.getElem?_eq_some_iff.1 hj).1; have hxl : xs.length ≤ kt := by rw [HXS.out]; simp [HXL.out]
         have := HZ.out j x (by omega) hj; rw [HTB.out] at this; exact this
        have t1 : decide ((kt : Int) < (kt : Int)) = false := by simp
        rw [HT.out] at hown; have HP : Hid (BuildQ kl kt kt l ps Lf names rows (Nm.lb a) (Nm.lb (Nm.dn b)) 0 (xs.map fun x => (TB x).1)) := .inr (.inr ⟨HFIT.out, a, b, rfl, rfl, ga, by rw [← HLz.out, ← HXS.out]; exact (fbad_none HZ2.out).symm, by rw [if_pos rfl, ← HLz.out, ← HXS.out, HTB.out]⟩); have hxl : (xs.map fun x => (TB x).1).length = kt := by rw [List.length_map, HXS.out]; simp [HXL.out]
        obtain ⟨Ap, cp, rfl⟩ := own_shp hown; go_wp2_with fail
        (try rw [Exit.noGoto_ret])
        go_ret2
        refine ⟨_, _, _, rfl, HP, ?_, hbw⟩; rw [hxl, List.map_map]; exact own_mono hown hbw3.size
     ·have h1 : (E != 0) = true := by simpa using hE
      have HP : Hid (BuildQ kl kt kt l ps Lf names rows L1 L2 E []) := .inr (.inl ⟨HFIT.out, by rw [← HV.out]; exact hE, HV.out, rfl⟩); clear hE; go_wp2_with fail
      (try rw [Exit.noGoto_ret])
      go_ret2
      exact ⟨_, _, [], rfl, HP, World.ownsRow_nil _ _ _ _, hbw⟩
end Go.Proofs.Yticobffjnjbjiaa
namespace Go.Proofs.Yticobffjnjbjiaa
open Go Go.RowKit
/-- a slice that was handed in: as long as can be -/
def RowL {α : Type} (f : α → List Value) (w : World) (A : Option Addr) (k : Nat) (l : List α) : Prop := Rd w A (l.flatMap f) ∧ k = l.length ∧ k ≤ 9223372036854775807
theorem RowL.below {α : Type} {f : α → List Value} {w w' : World} {A : Option Addr} {k : Nat} {l : List α} (h : RowL f w A k l) (hb : Below w.heap.size w w') : RowL f w' A k l := ⟨h.1.below hb, h.2⟩
theorem RowL.at_ {α : Type} {f : α → List Value} {m : Nat} (hf : ∀ x, (f x).length = m) (hm : 0 < m) {w : World} {A : Option Addr} {k : Nat} {l : List α} (h : RowL f w A k l) {i : Nat} (hi : i < k) (hil : i < l.length) :
  ∃ b off, A = some ⟨b, off, none⟩ ∧ Hid (∀ j v, (f l[i])[j]? = some v → w.cell? ⟨b, off + i * m + j, none⟩ = some v) := by
 have hne : l.flatMap f ≠ [] := by
  intro e; have := flat_len hf l; rw [e] at this; have h2 : 0 < l.length * m := Nat.mul_pos (by omega) hm; simp at this; omega
 obtain ⟨b, off, hA, hc⟩ := h.1 hne; refine ⟨b, off, hA, fun j v hv => ?_⟩; have h1 := flat_get hf l i j hil v hv; obtain ⟨h2, h3⟩ := List.getElem?_eq_some_iff.1 h1; have := hc _ h2; rw [h3, ← Nat.add_assoc] at this; exact this
theorem RowL.int {w : World} {A : Option Addr} {k : Nat} {l : List Int} (h : RowL intC w A k l) {i : Nat} (hi : i < k) : ∃ b off, ∃ n : Int, A = some ⟨b, off, none⟩ ∧ w.cell? ⟨b, off + i, none⟩ = some (.int .i64 n) ∧ Hid (l[i]? = some n) := by
 have hil : i < l.length := by have := h.2.1; omega
 obtain ⟨b, off, hA, hc⟩ := h.at_ intC_len (by omega) hi hil; refine ⟨b, off, l[i], hA, ?_, List.getElem?_eq_getElem hil⟩; have := hc.out 0 _ rfl
 rwa [Nat.mul_one, Nat.add_zero] at this
set_option maxHeartbeats 400000 in
theorem at_n (A : Option Addr) (k c : Nat) (l : List Int) (i : Int) (m : Nat) (w : World) (h : RowL intC w A k l) (HL : Hid (∀ x ∈ l, -9223372036854775808 ≤ x ∧ x ≤ 9223372036854775807)) (hm : 0 < m) (hm2 : m ≤ 4611686018427387904) :
  Calls Try.prog 62 #[.slice A k c, .int .i64 i, .int .i64 m] w fun e w' => ∃ n : Nat, e = .returned (.int .i64 n) ∧ n < m ∧ w = w' := by
 have hk := h.2.2; by_cases h0 : i < 0
 ·have t1 : decide (i < 0) = true := by simpa using h0
  go_enter Try.func62, Try.ntmps62
  go_wp2_with fail; go_ret; exact ⟨0, rfl, hm, rfl⟩
 ·obtain ⟨n, rfl⟩ := Int.eq_ofNat_of_zero_le (show 0 ≤ i by omega); have t1 : decide ((n : Int) < 0) = false := by simp
  by_cases hn : n < k
  ·obtain ⟨b, off, x, rfl, hc, HX⟩ := h.int hn; have hx := HL.out x (List.mem_of_getElem? HX.out); have t2 : decide ((n : Int) ≥ (k : Int)) = false := by simp; omega
   go_enter Try.func62, Try.ntmps62
   go_wp2_with fail; refine (around_n x m _ hx.1 hx.2 hm hm2).mono ?_; rintro e w' ⟨z, rfl, hz, _, rfl⟩; go_wp2_with fail; go_ret; exact ⟨z, rfl, hz, rfl⟩
  ·have t2 : decide ((n : Int) ≥ (k : Int)) = true := by simp; omega
   go_enter Try.func62, Try.ntmps62
   go_wp2_with fail; go_ret; exact ⟨0, rfl, hm, rfl⟩
theorem wp_buildV {P : Program} {o : Oper} {a : Act} {w : World} {K : Act → World → Prop} {Q : Exit → Act → World → Prop} (t : TypeId) (pl : List (Nat × Operand)) (ho : o.op = .build t pl.toArray)
  (cells : Array Value) (vals : List (Nat × Value)) (hv : (pl.map fun (i, x) => (i, a.eval x)) = vals) (hf : P.built t vals = some cells) (h : K (a.put o.dst (.agg cells)) w) : o.wp P a w K Q :=
 wp_buildTo t _ ho cells (by rw [← hv] at hf; simpa using hf) h
/-- a promise as the generators make it: but for its first byte the digest is zero -/
def promV (team : Int) (t h : ByteArray) (site : Int) (b1 b2 : Value) (fr un d : Int) : PC := ⟨team, t, h, site, b1, b2, fr, un, .int .u8 d, .int .u8 0, .int .u8 0, .int .u8 0, .int .u8 0, .int .u8 0, .int .u8 0, .int .u8 0, .int .u8 0, .int .u8 0, .int .u8 0, .int .u8 0, .int .u8 0, .int .u8 0, .int .u8 0, .int .u8 0⟩
theorem built_prom {a s : Int} {t h : ByteArray} : (Try.prog).built 53 [(0, .int .i64 a), (1, .string t), (2, .string h), (3, .int .i64 s)] = some (cellsP (promV a t h s (.slice none 0 0) (.slice none 0 0) 0 0 0)).toArray := by kernel_rfl
def testsA : Array Value := #[.string ⟨#[116, 48]⟩, .string ⟨#[116, 49]⟩, .string ⟨#[116, 48]⟩, .string ⟨#[117]⟩]
def whsA : Array Value := #[.string ⟨#[116, 48]⟩, .string ⟨#[112, 48]⟩, .string ⟨#[]⟩, .string ⟨#[116, 48]⟩]
/-- no limb is here -/
def NoU (arr : Array Value) : Prop := ∀ (i : Nat) (n : Int), arr[i]? ≠ some (.int .u32 n)
theorem Lim.setB {w : World} {A : Option Addr} {c g i : Nat} {T : TypeId} {arr : Array Value} {l : List Nat} (h : Lim w A c l) (hb : Blk w g T arr) (hn : NoU arr) (u : Value) : Lim (w.setCell ⟨g, i, none⟩ u) A c l := by
 by_cases hl : l = []
 ·subst hl; exact ⟨fun hx => absurd rfl hx, h.2⟩
 ·refine h.only (only_set w i u) (fun b off hA e => ?_); have h0 : 0 < l.length := List.length_pos_iff.2 hl; obtain ⟨b', off', hA', hc⟩ := h.at_ h0; rw [hA'] at hA; injection hA with hA; injection hA with e1 e2; have h1 := hc 0 h0; rw [e1, e, hb.cell] at h1; exact hn _ _ h1
theorem Rat.setB {w : World} {v : Value} {p q g i : Nat} {T : TypeId} {arr : Array Value} (h : Rat w v p q) (hb : Blk w g T arr) (hn : NoU arr) (u : Value) : Rat (w.setCell ⟨g, i, none⟩ u) v p q := by
 obtain ⟨A1, k1, c1, A2, k2, c2, rfl, h1, h2⟩ := h; exact ⟨A1, k1, c1, A2, k2, c2, rfl, ⟨h1.1, h1.2.setB hb hn u⟩, ⟨h2.1, h2.2.setB hb hn u⟩⟩
theorem NoU.set {arr : Array Value} (h : NoU arr) {i : Nat} {u : Value} (hu : ∀ n, u ≠ .int .u32 n) : NoU (arr.setIfInBounds i u) := by
 intro j n e; by_cases hj : i = j
 ·subst hj; rw [Array.getElem?_setIfInBounds_self] at e
  split at e
  ·injection e with e; exact hu n e
  ·cases e
 ·rw [Array.getElem?_setIfInBounds_ne hj] at e; exact h j n e
theorem Rat.setsB {v : Value} {p q g : Nat} {T : TypeId} : ∀ (us : List Value) (o : Nat) {w : World} {arr : Array Value}, Rat w v p q → Blk w g T arr → NoU arr → (∀ u ∈ us, ∀ n, u ≠ .int .u32 n) → Rat (w.setCells g o us) v p q
 | [], _, _, _, h, _, _, _ => h
 | u :: us, o, _, _, h, hb, hn, hu => Rat.setsB us (o + 1) (h.setB hb hn u) (hb.set_ o u) (hn.set (hu u (List.mem_cons_self ..))) fun x hx => hu x (List.mem_cons_of_mem _ hx)
theorem promV_no {team site fr un d : Int} {t h : ByteArray} {A1 A2 : Option Addr} {k1 c1 k2 c2 : Nat} : ∀ u ∈ cellsP (promV team t h site (.slice A1 k1 c1) (.slice A2 k2 c2) fr un d), ∀ n, u ≠ .int .u32 n := by
 intro u hu n e; subst e; simp [cellsP, promV] at hu
theorem promV_noU {team site fr un d : Int} {t h : ByteArray} {A1 A2 : Option Addr} {k1 c1 k2 c2 : Nat} : NoU (cellsP (promV team t h site (.slice A1 k1 c1) (.slice A2 k2 c2) fr un d)).toArray := by
 intro i n e; exact promV_no _ (List.mem_of_getElem? (by simpa using e)) n rfl
theorem promV_one {team site fr un d : Int} {t h : ByteArray} {A1 A2 : Option Addr} {k1 c1 k2 c2 : Nat} : ∀ v ∈ cellsP (promV team t h site (.slice A1 k1 c1) (.slice A2 k2 c2) fr un d), v.oneCell' = true := by
 intro v hv; simp only [cellsP, promV, List.mem_cons, List.not_mem_nil, or_false] at hv
 rcases hv with rfl | rfl | rfl | rfl | rfl | rfl | rfl | rfl | rfl | rfl | rfl | rfl | rfl | rfl | rfl | rfl | rfl | rfl | rfl | rfl | rfl | rfl | rfl | rfl <;> rfl
/-- what a step of a region may do that makes blocks and writes but one kind of them -/
def RO (N : Nat) (T : TypeId) (item : Array Value) (w w' : World) : Prop := RD N T item w w' ∧ ∀ g T' arr, T' ≠ T → Blk w g T' arr → Blk w' g T' arr
theorem RO.of {w8 w w' : World} {T : TypeId} {item : Array Value} (hS : Below w8.heap.size w8 w) (h : Below w.heap.size w w') : RO w8.heap.size T item w w' :=
 ⟨RD.of hS h, fun _ _ _ _ hb => hb.below h hb.lt⟩
theorem RO.set {w8 w : World} {T : TypeId} {item arr : Array Value} {g : Nat} (hS : Below w8.heap.size w8 w) (hg : w8.heap.size ≤ g) (hb : Blk w g T arr) (e : arr.size = item.size) : RO w8.heap.size T item w (w.setCells g 0 item.toList) := by
 refine ⟨RD.set hS hg hb e, fun g' T' arr' hT hb' => ?_⟩; refine Blk.farAll (fun e2 => ?_) _ _ hb'; subst e2; unfold Blk at hb hb'; rw [hb] at hb'; injection hb' with h1; injection h1 with _ h2; exact hT h2.symm
def PhiOn (N x m4 q4 t4 q16 t16 q64 t64 : Nat) (t h : ByteArray) (item : Array Value) (vs : Nat → Value) (j : Nat) (w : World) (x' : Value) : Prop :=
 match j with
 | 0 => x' = .int .i64 (x : Nat)
 | 1 => x' = .int .i64 (m4 : Nat)
 | 2 => ∃ g, x' = .slice (some ⟨g, 0, none⟩) 4 4 ∧ Blk w g 9 testsA
 | 3 => x' = .int .i64 (x : Nat)
 | 4 => x' = .int .i64 (q4 : Nat)
 | 5 => x' = .int .i64 (t4 : Nat)
 | 6 => ∃ g, x' = .pointer (some ⟨g, t4, none⟩) ∧ Blk w g 9 testsA
 | 7 => x' = .string t
 | 8 => ∃ g, x' = .slice (some ⟨g, 0, none⟩) 4 4 ∧ Blk w g 9 whsA
 | 9 => x' = .int .i64 (x : Nat)
 | 10 => x' = .int .i64 (q16 : Nat)
 | 11 => x' = .int .i64 (t16 : Nat)
 | 12 => ∃ g, x' = .pointer (some ⟨g, t16, none⟩) ∧ Blk w g 9 whsA
 | 13 => x' = .string h
 | 14 => x' = .int .i64 (x : Nat)
 | 15 => x' = .int .i64 (q64 : Nat)
 | 16 => x' = .int .i64 (t64 : Nat)
 | 17 => x' = .agg item
 | 18 => ∃ g, x' = .pointer (some ⟨g, 0, none⟩) ∧ N ≤ g ∧ ∃ arr, Blk w g 53 arr ∧ arr.size = item.size
 | 19 => ∃ g, vs 18 = .pointer (some ⟨g, 0, none⟩) ∧ Blk w g 53 item
 | _ => True
theorem PhiOn.keep {N x m4 q4 t4 q16 t16 q64 t64 : Nat} {t h : ByteArray} {item : Array Value} : ∀ vs (w w' : World), RO N 53 item w w' → ∀ j x', PhiOn N x m4 q4 t4 q16 t16 q64 t64 t h item vs j w x' → PhiOn N x m4 q4 t4 q16 t16 q64 t64 t h item vs j w' x' := by
 intro vs w w' hb j x' hx; unfold PhiOn at hx ⊢
 split <;> simp only at hx ⊢ <;> first | exact hx | skip
 ·obtain ⟨g, e, h1⟩ := hx; exact ⟨g, e, hb.2 g _ _ (by decide) h1⟩
 ·obtain ⟨g, e, h1⟩ := hx; exact ⟨g, e, hb.2 g _ _ (by decide) h1⟩
 ·obtain ⟨g, e, h1⟩ := hx; exact ⟨g, e, hb.2 g _ _ (by decide) h1⟩
 ·obtain ⟨g, e, h1⟩ := hx; exact ⟨g, e, hb.2 g _ _ (by decide) h1⟩
 ·obtain ⟨g, e, h1, arr, h2, h3⟩ := hx; exact ⟨g, e, h1, (hb.1.2 g arr h2 h3).1⟩
 ·obtain ⟨g, e, h2⟩ := hx; exact ⟨g, e, (hb.1.2 g item h2 rfl).2 rfl⟩
theorem texts_at {i : Nat} (h : i < 4) : ∃ t, testsA[i]? = some (.string t) ∧ (t = tT0 ∨ t = tT1 ∨ t = ⟨#[117]⟩) := by
 rcases i with _ | _ | _ | _ | i
 ·exact ⟨_, rfl, .inl rfl⟩
 ·exact ⟨_, rfl, .inr (.inl rfl)⟩
 ·exact ⟨_, rfl, .inl rfl⟩
 ·exact ⟨_, rfl, .inr (.inr rfl)⟩
 ·omega
theorem whs_at {i : Nat} (h : i < 4) : ∃ t, whsA[i]? = some (.string t) ∧ (t = tT0 ∨ t = tP0 ∨ t = ⟨#[]⟩) := by
 rcases i with _ | _ | _ | _ | i
 ·exact ⟨_, rfl, .inl rfl⟩
 ·exact ⟨_, rfl, .inr (.inl rfl)⟩
 ·exact ⟨_, rfl, .inr (.inr rfl)⟩
 ·exact ⟨_, rfl, .inl rfl⟩
 ·omega
theorem HK24 {p q : Nat} (h : Hid (∃ a k, a ≤ k ∧ 0 < k ∧ k ≤ 24 ∧ p = a / Nat.gcd a k ∧ q = k / Nat.gcd a k)) : q ≤ 24 := by
 obtain ⟨a, k, _, _, h3, _, rfl⟩ := h.out; exact Nat.le_trans (Nat.div_le_self _ _) h3
/-- a promise as One makes it -/
def PromOk (p : PC) : Prop := ∃ (team : Nat) (t h : ByteArray) (site : Nat) (fr un d : Nat) (A1 : Option Addr) (k1 c1 : Nat) (A2 : Option Addr) (k2 c2 : Nat), p = promV team t h site (.slice A1 k1 c1) (.slice A2 k2 c2) fr un d ∧ team < 4 ∧ (t = tT0 ∨ t = tT1 ∨ t = ⟨#[117]⟩) ∧ (h = tT0 ∨ h = tP0 ∨ h = ⟨#[]⟩) ∧ site < 2 ∧ (h = ⟨#[]⟩ → site = 0) ∧ fr < 12 ∧ fr < un ∧ un ≤ fr + 12 ∧ d < 2
theorem results_prom {fn : Func} {p : Tmp} {tmps : Array Value} {w : World} {g : Nat} {cs : List Value} (h : fn.results = #[.cell p 53]) (hp : tmps.getD p undef = .pointer (some ⟨g, 0, none⟩)) (hb : Blk w g 53 cs.toArray) (hl : cs.length = 24) :
  (results fn tmps).run Try.prog w = .ok (.agg cs.toArray) w :=
 results_cell_row h tmps w g 53 _ (0, 0) _ hp hb Try.underlying53 rfl (by rw [List.size_toArray, hl]; kernel_rfl)
theorem infoP24 {p : PC} : (Try.prog.info? 53).map (·.size) = some (cellsP p).toArray.size := by kernel_rfl
set_option maxRecDepth 100000 in
set_option maxHeartbeats 4000000 in
theorem one_n (n m : Int) (w : World) (h1 : -9223372036854775808 ≤ n) (h2 : n ≤ 9223372036854775807) (h3 : -9223372036854775808 ≤ m) (h4 : m ≤ 9223372036854775807) :
  Calls Try.prog 42 #[.int .i64 n, .int .i64 m] w fun e w' => ∃ p a b, e = .returned (.agg (cellsP p).toArray) ∧ PromOk p ∧ Rat w' (.agg #[p.b1, p.b2]) a b ∧ Nm.Good a b ∧ a ≤ b ∧ b ≤ 24 ∧ Below w.heap.size w w' := by
 go_enter Try.func42, Try.ntmps42
 go_upto_region 1 with fail; refine wp_name ?_; intro w1 HW1; have hb1 : Below w.heap.size w w1 := by rw [HW1.out]; exact bA _ _
 have B4 : Blk w1 w.heap.size 53 (cellsP (promV 0 ⟨#[]⟩ ⟨#[]⟩ 0 (.slice none 0 0) (.slice none 0 0) 0 0 0)).toArray := by rw [HW1.out]; exact Blk.new _ _ _
 clear HW1; go_wp2_with fail; refine (around_n n 65536 _ h1 h2 (by omega) (by omega)).mono ?_; rintro e w' ⟨x, rfl, hx, _, rfl⟩; go_wp2_with fail; refine (around_n m 65536 _ h3 h4 (by omega) (by omega)).mono ?_; rintro e w' ⟨y, rfl, hy, _, rfl⟩; go_upto_region 3 with fail; obtain ⟨m4, h4m⟩ : ∃ z : Nat, z = x % 4 := ⟨_, rfl⟩; obtain ⟨q4, h4q⟩ : ∃ z : Nat, z = x / 4 := ⟨_, rfl⟩; obtain ⟨t4, h4t⟩ : ∃ z : Nat, z = q4 % 4 := ⟨_, rfl⟩; obtain ⟨q16, h16q⟩ : ∃ z : Nat, z = x / 16 := ⟨_, rfl⟩; obtain ⟨t16, h16t⟩ : ∃ z : Nat, z = q16 % 4 := ⟨_, rfl⟩; obtain ⟨q64, h64q⟩ : ∃ z : Nat, z = x / 64 := ⟨_, rfl⟩; obtain ⟨t64, h64t⟩ : ∃ z : Nat, z = q64 % 2 := ⟨_, rfl⟩; have s0 : (x : Int).tmod 4 = (m4 : Int) := by rw [h4m]; rfl
 have s1 : IntKind.i64.wrap ((x : Int) / 4) = (q4 : Int) := by rw [IntWalk.i64_in _ (by omega), h4q]; rfl
 have s2 : IntKind.i64.wrap ((x : Int) / 16) = (q16 : Int) := by rw [IntWalk.i64_in _ (by omega), h16q]; rfl
 have s3 : IntKind.i64.wrap ((x : Int) / 64) = (q64 : Int) := by rw [IntWalk.i64_in _ (by omega), h64q]; rfl
 have s4 : (q4 : Int).tmod 4 = (t4 : Int) := by rw [h4t]; rfl
 have s5 : (q16 : Int).tmod 4 = (t16 : Int) := by rw [h16t]; rfl
 have s6 : (q64 : Int).tmod 2 = (t64 : Int) := by rw [h64t]; rfl
 have hm4 : m4 < 4 := by omega
 have ht4 : t4 < 4 := by omega
 have ht16 : t16 < 4 := by omega
 have ht64 : t64 < 2 := by omega
 have ht4i : (t4 : Int) < 4 := by omega
 have ht16i : (t16 : Int) < 4 := by omega
 clear h4m h4q h4t h16q h16t h64q h64t; obtain ⟨t, ht, hT⟩ := texts_at ht4; obtain ⟨h, hh, hH⟩ := whs_at ht16; have HT := Lib.hid ht; have HH := Lib.hid hh; clear ht hh; refine region_invd (PhiOn w1.heap.size x m4 q4 t4 q16 t16 q64 t64 t h (cellsP (promV (m4 : Nat) t h (t64 : Nat) (.slice none 0 0) (.slice none 0 0) 0 0 0)).toArray) (RO w1.heap.size 53 (cellsP (promV (m4 : Nat) t h (t64 : Nat) (.slice none 0 0) (.slice none 0 0) 0 0 0)).toArray) (fun W => Below w1.heap.size w1 W) (by kernel_rfl) (by kernel_rfl) (by kernel_rfl) PhiOn.keep (fun _ _ hR hS => hS.trans hR.1.1) ?_ (bD _) ?_ ?_
 ·exact sK (fun _ _ _ _ _ h => h) (sK (fun _ _ _ _ _ h => h) (sK (fun _ _ _ _ _ h => h) (sK (fun _ _ _ _ _ h => h) (sK (fun _ _ _ _ _ h => h) (sK (fun _ _ _ _ _ h => h) (sK (fun _ _ _ _ _ h => h) (sK (fun _ _ _ _ _ h => h) (sK (fun _ _ _ _ _ h => h) (sK (fun _ _ _ _ _ h => h) (sK (fun _ _ _ _ _ h => h) (sK (fun _ _ _ _ _ h => h) (sK (fun _ _ _ _ _ h => h) (sK (fun _ _ _ _ _ h => h) (sK (fun _ _ _ _ _ h => h) (sK (fun _ _ _ _ _ h => h) (sK (fun _ _ _ _ _ h => h) (sK (fun _ _ _ _ _ h => h) (sK (fun _ _ _ _ _ h => h) (sK (by intro vs vs' w x h; have h1 := h ⟨18, .data⟩ (by simp) rfl; simp only [PhiOn]; rw [h1]; exact id) (sZ))))))))))))))))))))
 ·refine sK ?_ (sK ?_ (sK ?_ (sK ?_ (sK ?_ (sK ?_ (sK ?_ (sK ?_ (sK ?_ (sK ?_ (sK ?_ (sK ?_ (sK ?_ (sK ?_ (sK ?_ (sK ?_ (sK ?_ (sK ?_ (sK ?_ (sK ?_ (sZ))))))))))))))))))))
  ·as_aux_lemma =>
   intro vs W hS hdep K hK; refine ⟨?_⟩; simp only [fillR, Act.put, sA, sB, sC, Nat.zero_add, Nat.reduceAdd] at hK ⊢; go_simp; with_reducible refine hK _ _ (RO.of hS (Below.refl _ _)) ?_
   exact rfl
  ·as_aux_lemma =>
   intro vs W hS hdep K hK; have d0 := hdep ⟨0, .data⟩ (by simp) rfl; simp only [PhiOn] at d0; refine ⟨?_⟩; simp only [fillR, Act.put, sA, sB, sC, Nat.zero_add, Nat.reduceAdd, d0] at hK ⊢; go_simp; with_reducible refine hK _ _ (RO.of hS (Below.refl _ _)) ?_
   exact rfl
  ·as_aux_lemma =>
   intro vs W hS hdep K hK; refine ⟨?_⟩; simp only [fillR, Act.put, sA, sB, sC, Nat.zero_add, Nat.reduceAdd] at hK ⊢; go_simp; with_reducible refine hK _ _ (RO.of hS (bA _ _)) ?_
   exact ⟨_, rfl, Blk.new _ _ _⟩
  ·as_aux_lemma =>
   intro vs W hS hdep K hK; refine ⟨?_⟩; simp only [fillR, Act.put, sA, sB, sC, Nat.zero_add, Nat.reduceAdd] at hK ⊢; go_simp; with_reducible refine hK _ _ (RO.of hS (Below.refl _ _)) ?_
   exact rfl
  ·as_aux_lemma =>
   intro vs W hS hdep K hK; have d0 := hdep ⟨3, .data⟩ (by simp) rfl; simp only [PhiOn] at d0; refine ⟨?_⟩; simp only [fillR, Act.put, sA, sB, sC, Nat.zero_add, Nat.reduceAdd, d0] at hK ⊢; go_simp; with_reducible refine hK _ _ (RO.of hS (Below.refl _ _)) ?_
   exact rfl
  ·as_aux_lemma =>
   intro vs W hS hdep K hK; have d0 := hdep ⟨4, .data⟩ (by simp) rfl; simp only [PhiOn] at d0; refine ⟨?_⟩; simp only [fillR, Act.put, sA, sB, sC, Nat.zero_add, Nat.reduceAdd, d0] at hK ⊢; go_simp; with_reducible refine hK _ _ (RO.of hS (Below.refl _ _)) ?_
   exact rfl
  ·as_aux_lemma =>
   intro vs W hS hdep K hK; have d0 := hdep ⟨2, .data⟩ (by simp) rfl; simp only [PhiOn] at d0; refine @exE1 _ _ _ d0 ?_; clear d0; intro g0 d0; have e0 := d0.1; have b0 := d0.2; clear d0; have d1 := hdep ⟨5, .data⟩ (by simp) rfl; simp only [PhiOn] at d1; refine ⟨?_⟩; simp only [fillR, Act.put, sA, sB, sC, Nat.zero_add, Nat.reduceAdd, e0, d1] at hK ⊢; go_simp; with_reducible refine hK _ _ (RO.of hS (Below.refl _ _)) ?_
   exact ⟨_, rfl, b0⟩
  ·as_aux_lemma =>
   intro vs W hS hdep K hK; have d0 := hdep ⟨6, .data⟩ (by simp) rfl; simp only [PhiOn] at d0; refine @exE1 _ _ _ d0 ?_; clear d0; intro g0 d0; have e0 := d0.1; have b0 := d0.2; clear d0; have q := b0.cell (t4); rw [HT.out] at q; refine ⟨?_⟩; simp only [fillR, Act.put, sA, sB, sC, Nat.zero_add, Nat.reduceAdd, e0] at hK ⊢; go_simp; with_reducible refine hK _ _ (RO.of hS (Below.refl _ _)) ?_
   exact rfl
  ·as_aux_lemma =>
   intro vs W hS hdep K hK; refine ⟨?_⟩; simp only [fillR, Act.put, sA, sB, sC, Nat.zero_add, Nat.reduceAdd] at hK ⊢; go_simp; with_reducible refine hK _ _ (RO.of hS (bA _ _)) ?_
   exact ⟨_, rfl, Blk.new _ _ _⟩
  ·as_aux_lemma =>
   intro vs W hS hdep K hK; refine ⟨?_⟩; simp only [fillR, Act.put, sA, sB, sC, Nat.zero_add, Nat.reduceAdd] at hK ⊢; go_simp; with_reducible refine hK _ _ (RO.of hS (Below.refl _ _)) ?_
   exact rfl
  ·as_aux_lemma =>
   intro vs W hS hdep K hK; have d0 := hdep ⟨9, .data⟩ (by simp) rfl; simp only [PhiOn] at d0; refine ⟨?_⟩; simp only [fillR, Act.put, sA, sB, sC, Nat.zero_add, Nat.reduceAdd, d0] at hK ⊢; go_simp; with_reducible refine hK _ _ (RO.of hS (Below.refl _ _)) ?_
   exact rfl
  ·as_aux_lemma =>
   intro vs W hS hdep K hK; have d0 := hdep ⟨10, .data⟩ (by simp) rfl; simp only [PhiOn] at d0; refine ⟨?_⟩; simp only [fillR, Act.put, sA, sB, sC, Nat.zero_add, Nat.reduceAdd, d0] at hK ⊢; go_simp; with_reducible refine hK _ _ (RO.of hS (Below.refl _ _)) ?_
   exact rfl
  ·as_aux_lemma =>
   intro vs W hS hdep K hK; have d0 := hdep ⟨8, .data⟩ (by simp) rfl; simp only [PhiOn] at d0; refine @exE1 _ _ _ d0 ?_; clear d0; intro g0 d0; have e0 := d0.1; have b0 := d0.2; clear d0; have d1 := hdep ⟨11, .data⟩ (by simp) rfl; simp only [PhiOn] at d1; refine ⟨?_⟩; simp only [fillR, Act.put, sA, sB, sC, Nat.zero_add, Nat.reduceAdd, e0, d1] at hK ⊢; go_simp; with_reducible refine hK _ _ (RO.of hS (Below.refl _ _)) ?_
   exact ⟨_, rfl, b0⟩
  ·as_aux_lemma =>
   intro vs W hS hdep K hK; have d0 := hdep ⟨12, .data⟩ (by simp) rfl; simp only [PhiOn] at d0; refine @exE1 _ _ _ d0 ?_; clear d0; intro g0 d0; have e0 := d0.1; have b0 := d0.2; clear d0; have q := b0.cell (t16); rw [HH.out] at q; refine ⟨?_⟩; simp only [fillR, Act.put, sA, sB, sC, Nat.zero_add, Nat.reduceAdd, e0] at hK ⊢; go_simp; with_reducible refine hK _ _ (RO.of hS (Below.refl _ _)) ?_
   exact rfl
  ·as_aux_lemma =>
   intro vs W hS hdep K hK; refine ⟨?_⟩; simp only [fillR, Act.put, sA, sB, sC, Nat.zero_add, Nat.reduceAdd] at hK ⊢; go_simp; with_reducible refine hK _ _ (RO.of hS (Below.refl _ _)) ?_
   exact rfl
  ·as_aux_lemma =>
   intro vs W hS hdep K hK; have d0 := hdep ⟨14, .data⟩ (by simp) rfl; simp only [PhiOn] at d0; refine ⟨?_⟩; simp only [fillR, Act.put, sA, sB, sC, Nat.zero_add, Nat.reduceAdd, d0] at hK ⊢; go_simp; with_reducible refine hK _ _ (RO.of hS (Below.refl _ _)) ?_
   exact rfl
  ·as_aux_lemma =>
   intro vs W hS hdep K hK; have d0 := hdep ⟨15, .data⟩ (by simp) rfl; simp only [PhiOn] at d0; refine ⟨?_⟩; simp only [fillR, Act.put, sA, sB, sC, Nat.zero_add, Nat.reduceAdd, d0] at hK ⊢; go_simp; with_reducible refine hK _ _ (RO.of hS (Below.refl _ _)) ?_
   exact rfl
  ·as_aux_lemma =>
   intro vs W hS hdep K hK; have d0 := hdep ⟨1, .data⟩ (by simp) rfl; simp only [PhiOn] at d0; have d1 := hdep ⟨7, .data⟩ (by simp) rfl; simp only [PhiOn] at d1; have d2 := hdep ⟨13, .data⟩ (by simp) rfl; simp only [PhiOn] at d2; have d3 := hdep ⟨16, .data⟩ (by simp) rfl; simp only [PhiOn] at d3; refine ⟨?_⟩; simp only [fillR, Act.put, sA, sB, sC, Nat.zero_add, Nat.reduceAdd, d0, d1, d2, d3] at hK ⊢; rw [if_pos (by rfl)]; refine wp_buildV 53 [(0, .tmp 13), (1, .tmp 19), (2, .tmp 25), (3, .tmp 28)] (by rfl) (cellsP (promV (m4 : Nat) t h (t64 : Nat) (.slice none 0 0) (.slice none 0 0) 0 0 0)).toArray [(0, .int .i64 (m4 : Nat)), (1, .string t), (2, .string h), (3, .int .i64 (t64 : Nat))] (by rfl) built_prom ?_; simp only [Act.put, sA, sB, sC]; with_reducible refine hK _ _ (RO.of hS (Below.refl _ _)) ?_
   exact rfl
  ·as_aux_lemma =>
   intro vs W hS hdep K hK; refine ⟨?_⟩; simp only [fillR, Act.put, sA, sB, sC, Nat.zero_add, Nat.reduceAdd] at hK ⊢; go_simp; with_reducible refine hK _ _ (RO.of hS (bA _ _)) ?_
   exact ⟨_, rfl, hS.size, _, Blk.new _ _ _, rfl⟩
  ·as_aux_lemma =>
   intro vs W hS hdep K hK; have d0 := hdep ⟨18, .data⟩ (by simp) rfl; simp only [PhiOn] at d0; refine @exE1 _ _ _ d0 ?_; clear d0; intro g0 d0; have E0 := d0.1; have LE0 := d0.2.1; have B0 := d0.2.2; clear d0; have d1 := hdep ⟨17, .data⟩ (by simp) rfl; simp only [PhiOn] at d1; refine @exE1 _ _ _ B0 ?_; intro arr BA; have BA1 := BA.1; have BA2 := BA.2; clear BA B0; refine ⟨?_⟩; simp only [fillR, Act.put, sA, sB, sC, Nat.zero_add, Nat.reduceAdd, E0, d1] at hK ⊢; rw [if_pos (by rfl)]; refine wp_store_mid 53 (.tmp 7) (.tmp 29) (by rfl) g0 0 (cellsP (promV (m4 : Nat) t h (t64 : Nat) (.slice none 0 0) (.slice none 0 0) 0 0 0)).toArray (by rfl) (by rfl) (Blk.there BA1 BA2) infoP24 (all_oneCell_toArray promV_one) ?_; simp only [Act.put, sA, sB, sC]; with_reducible refine hK undef _ (RO.set hS LE0 BA1 BA2) ?_
   exact ⟨_, E0, Blk.setAll BA1 BA2⟩
 ·intro vs w3 hS hv; have v18 := hv 18 (by simp); have v19 := hv 19 (by simp); simp only [PhiOn] at v18 v19; obtain ⟨g, e18, hge, _⟩ := v18; obtain ⟨g', e19, BI⟩ := v19; obtain rfl : g' = g := by rw [e18] at e19; injection e19 with e; injection e with e; injection e with e; exact e.symm
  simp only [fillR, Act.put, sA, sB, sC, Nat.zero_add, Nat.reduceAdd, e18]; clear hv e18 e19; have hgN : w.heap.size < g' := by have := Blk.lt B4; omega
  have B4 := Blk.below B4 hS B4.lt; have hb3 := Below.tr hb1 hS; clear hS HT HH s0 s1 s2 s3 s4 s5 s6 hb1 hge; have HE0 : Hid (h = ⟨#[]⟩ → h.toList.isEmpty = true) := fun e => by rw [e, ByteArray.toList_eq]; rfl
  obtain ⟨qy, hqy⟩ : ∃ z : Nat, z = y / 24 := ⟨_, rfl⟩; obtain ⟨qu, hqu⟩ : ∃ z : Nat, z = y / 64 := ⟨_, rfl⟩; obtain ⟨tu, htu⟩ : ∃ z : Nat, z = qu % 12 := ⟨_, rfl⟩; obtain ⟨qf, hqf⟩ : ∃ z : Nat, z = x / 128 := ⟨_, rfl⟩; obtain ⟨tf, htf⟩ : ∃ z : Nat, z = qf % 12 := ⟨_, rfl⟩; obtain ⟨qd, hqd⟩ : ∃ z : Nat, z = x / 2048 := ⟨_, rfl⟩; obtain ⟨td, htd⟩ : ∃ z : Nat, z = qd % 2 := ⟨_, rfl⟩; have s1 : IntKind.i64.wrap ((y : Int) / 24) = (qy : Int) := by rw [IntWalk.i64_in _ (by omega), hqy]; rfl
  have s2 : IntKind.i64.wrap ((qy : Int) + 1) = (qy : Int) + 1 := by rw [IntWalk.i64_in _ (by omega)]
  have s3 : IntKind.i64.wrap ((x : Int) / 128) = (qf : Int) := by rw [IntWalk.i64_in _ (by omega), hqf]; rfl
  have s4 : (qf : Int).tmod 12 = (tf : Int) := by rw [htf]; rfl
  have s5 : IntKind.i64.wrap ((tf : Int) + 1) = (tf : Int) + 1 := by rw [IntWalk.i64_in _ (by omega)]
  have s6 : IntKind.i64.wrap ((y : Int) / 64) = (qu : Int) := by rw [IntWalk.i64_in _ (by omega), hqu]; rfl
  have s7 : (qu : Int).tmod 12 = (tu : Int) := by rw [htu]; rfl
  have s8 : IntKind.i64.wrap ((tf : Int) + 1 + (tu : Int)) = (tf : Int) + 1 + (tu : Int) := by rw [IntWalk.i64_in _ (by omega)]
  have s9 : IntKind.i64.wrap ((x : Int) / 2048) = (qd : Int) := by rw [IntWalk.i64_in _ (by omega), hqd]; rfl
  have s10 : (qd : Int).tmod 2 = (td : Int) := by rw [htd]; rfl
  have s11 : IntKind.u8.wrap (td : Int) = (td : Int) := by rcases (show td = 0 ∨ td = 1 by omega) with e | e <;> rw [e] <;> rfl
  have l1 : tf < 12 := by omega
  have l2 : tu < 12 := by omega
  have l3 : td < 2 := by omega
  have l4 : qy ≤ 65536 := by omega
  clear hqy hqu htu hqf htf hqd htd h1 h2 h3 h4; have q2 := BI.cell 2; have q3 := BI.cell 3; have z3 := BI.frozen 3; simp only [cellsP, promV, List.getElem?_toArray, List.getElem?_cons_zero, List.getElem?_cons_succ] at q2 q3
  rcases Bool.eq_false_or_eq_true h.toList.isEmpty with he | he
  ·as_aux_lemma =>
   go_upto_region 6 with fail; refine wp_name ?_; intro w4 HW4; have BI : Blk w4 g' 53 (cellsP (promV (m4 : Nat) t h 0 (.slice none 0 0) (.slice none 0 0) 0 0 0)).toArray := by rw [HW4.out]; exact BI.set_ 3 (.int .i64 0)
   have B4 : Blk w4 w.heap.size 53 (cellsP (promV 0 ⟨#[]⟩ ⟨#[]⟩ 0 (.slice none 0 0) (.slice none 0 0) 0 0 0)).toArray := by rw [HW4.out]; exact B4.far (by show w.heap.size ≠ g'; omega) _
   have hb3 : Below w.heap.size w w4 := by rw [HW4.out]; exact hb3.setCell (by show w.heap.size ≤ g'; omega) _
   clear HW4 q2 q3 z3; go_wp2_with fail; refine (rpart_n y ((qy : Int) + 1) _ (by omega) (by omega) (by omega) (by omega)).mono ?_; rintro e w5 ⟨v, a, b, rfl, hra, ga, hab, HK, hb5⟩; obtain ⟨A1, k1, c1, A2, k2, c2, rfl⟩ := hra.shape; have BI := Blk.below BI hb5 BI.lt; have B4 := Blk.below B4 hb5 B4.lt; have hb3 := Below.tr hb3 hb5; have q4 := BI.cell 4; have q5 := BI.cell 5; have z4 := BI.frozen 4; have z5 := BI.frozen 5; simp only [cellsP, promV, List.getElem?_toArray, List.getElem?_cons_zero, List.getElem?_cons_succ] at q4 q5; have BJ := BI.set_ 4 (.slice A1 k1 c1); have q6 := BJ.cell 5; have z6 := BJ.frozen 5; clear hb5; go_upto_region 7 with fail; refine wp_name ?_; intro w6 HW6; have hra : Rat w6 (.agg #[.slice A1 k1 c1, .slice A2 k2 c2]) a b := by rw [HW6.out]; exact (Rat.setB (Rat.setB hra BI promV_noU (.slice A1 k1 c1)) (Blk.set_ BI 4 (.slice A1 k1 c1)) (NoU.set promV_noU (i := 4) (u := (.slice A1 k1 c1)) (by intro n e; cases e)) (.slice A2 k2 c2))
   have B4 : Blk w6 w.heap.size 53 (cellsP (promV 0 ⟨#[]⟩ ⟨#[]⟩ 0 (.slice none 0 0) (.slice none 0 0) 0 0 0)).toArray := by rw [HW6.out]; exact (Blk.far (Blk.far B4 (by show w.heap.size ≠ g'; omega) (.slice A1 k1 c1)) (by show w.heap.size ≠ g'; omega) (.slice A2 k2 c2))
   have hb3 : Below w.heap.size w w6 := by rw [HW6.out]; exact (Below.setCell (Below.setCell hb3 (by show w.heap.size ≤ g'; omega) (.slice A1 k1 c1)) (by show w.heap.size ≤ g'; omega) (.slice A2 k2 c2))
   have BI : Blk w6 g' 53 (cellsP (promV (m4 : Nat) t h 0 (.slice A1 k1 c1) (.slice A2 k2 c2) 0 0 0)).toArray := by rw [HW6.out]; exact (Blk.set_ (Blk.set_ BI 4 (.slice A1 k1 c1)) 5 (.slice A2 k2 c2))
   clear HW6; clear q4 q5 z4 z5 BJ q6 z6; have q7 := BI.cell 6; have z7 := BI.frozen 6; simp only [cellsP, promV, List.getElem?_toArray, List.getElem?_cons_zero, List.getElem?_cons_succ] at q7; go_upto_region 8 with fail; refine wp_name ?_; intro w7 HW7; have hra : Rat w7 (.agg #[.slice A1 k1 c1, .slice A2 k2 c2]) a b := by rw [HW7.out]; exact (Rat.setB hra BI promV_noU (.int .i64 (tf : Nat)))
   have B4 : Blk w7 w.heap.size 53 (cellsP (promV 0 ⟨#[]⟩ ⟨#[]⟩ 0 (.slice none 0 0) (.slice none 0 0) 0 0 0)).toArray := by rw [HW7.out]; exact (Blk.far B4 (by show w.heap.size ≠ g'; omega) (.int .i64 (tf : Nat)))
   have hb3 : Below w.heap.size w w7 := by rw [HW7.out]; exact (Below.setCell hb3 (by show w.heap.size ≤ g'; omega) (.int .i64 (tf : Nat)))
   have BI : Blk w7 g' 53 (cellsP (promV (m4 : Nat) t h 0 (.slice A1 k1 c1) (.slice A2 k2 c2) (tf : Nat) 0 0)).toArray := by rw [HW7.out]; exact (Blk.set_ BI 6 (.int .i64 (tf : Nat)))
   clear HW7; clear q7 z7; have q7 := BI.cell 6; have z7 := BI.frozen 6; simp only [cellsP, promV, List.getElem?_toArray, List.getElem?_cons_zero, List.getElem?_cons_succ] at q7; have q8 := BI.cell 7; have z8 := BI.frozen 7; simp only [cellsP, promV, List.getElem?_toArray, List.getElem?_cons_zero, List.getElem?_cons_succ] at q8; go_upto_region 9 with fail; refine wp_name ?_; intro w8 HW8; have hra : Rat w8 (.agg #[.slice A1 k1 c1, .slice A2 k2 c2]) a b := by rw [HW8.out]; exact (Rat.setB hra BI promV_noU (.int .i64 ((tf : Int) + 1 + (tu : Int))))
   have B4 : Blk w8 w.heap.size 53 (cellsP (promV 0 ⟨#[]⟩ ⟨#[]⟩ 0 (.slice none 0 0) (.slice none 0 0) 0 0 0)).toArray := by rw [HW8.out]; exact (Blk.far B4 (by show w.heap.size ≠ g'; omega) (.int .i64 ((tf : Int) + 1 + (tu : Int))))
   have hb3 : Below w.heap.size w w8 := by rw [HW8.out]; exact (Below.setCell hb3 (by show w.heap.size ≤ g'; omega) (.int .i64 ((tf : Int) + 1 + (tu : Int))))
   have BI : Blk w8 g' 53 (cellsP (promV (m4 : Nat) t h 0 (.slice A1 k1 c1) (.slice A2 k2 c2) (tf : Nat) ((tf : Int) + 1 + (tu : Int)) 0)).toArray := by rw [HW8.out]; exact (Blk.set_ BI 7 (.int .i64 ((tf : Int) + 1 + (tu : Int))))
   clear HW8; clear q7 z7 q8 z8; have q9 := BI.cell 8; have z9 := BI.frozen 8; simp only [cellsP, promV, List.getElem?_toArray, List.getElem?_cons_zero, List.getElem?_cons_succ] at q9; go_upto_region 10 with fail; refine wp_name ?_; intro w9 HW9; have hra : Rat w9 (.agg #[.slice A1 k1 c1, .slice A2 k2 c2]) a b := by rw [HW9.out]; exact (Rat.setB hra BI promV_noU (.int .u8 (td : Nat)))
   have B4 : Blk w9 w.heap.size 53 (cellsP (promV 0 ⟨#[]⟩ ⟨#[]⟩ 0 (.slice none 0 0) (.slice none 0 0) 0 0 0)).toArray := by rw [HW9.out]; exact (Blk.far B4 (by show w.heap.size ≠ g'; omega) (.int .u8 (td : Nat)))
   have hb3 : Below w.heap.size w w9 := by rw [HW9.out]; exact (Below.setCell hb3 (by show w.heap.size ≤ g'; omega) (.int .u8 (td : Nat)))
   have BI : Blk w9 g' 53 (cellsP (promV (m4 : Nat) t h 0 (.slice A1 k1 c1) (.slice A2 k2 c2) (tf : Nat) ((tf : Int) + 1 + (tu : Int)) (td : Nat))).toArray := by rw [HW9.out]; exact (Blk.set_ BI 8 (.int .u8 (td : Nat)))
   clear HW9; clear q9 z9; obtain ⟨w10, hw10⟩ : ∃ w', Hid (w' = w9.setCells w.heap.size 0 (cellsP (promV (m4 : Nat) t h 0 (.slice A1 k1 c1) (.slice A2 k2 c2) (tf : Nat) ((tf : Int) + 1 + (tu : Int)) (td : Nat)))) := ⟨_, rfl⟩; have hra : Rat w10 (.agg #[.slice A1 k1 c1, .slice A2 k2 c2]) a b := by rw [hw10.out]; exact Rat.setsB _ 0 hra B4 promV_noU promV_no
   have hb3 : Below w.heap.size w w10 := by rw [hw10.out]; exact below_setAll (Nat.le_refl _) _ _ hb3
   have hF : Blk w10 w.heap.size 53 (cellsP (promV (m4 : Nat) t h 0 (.slice A1 k1 c1) (.slice A2 k2 c2) (tf : Nat) ((tf : Int) + 1 + (tu : Int)) (td : Nat))).toArray := by rw [hw10.out]; exact Blk.setAll B4 rfl
   go_wp2_with (first | (refine wpList_load_mid rfl 53 (.tmp 7) rfl g' 0 rfl (cellsP (promV (m4 : Nat) t h 0 (.slice A1 k1 c1) (.slice A2 k2 c2) (tf : Nat) ((tf : Int) + 1 + (tu : Int)) (td : Nat))) _ (Blk.range BI) Try.underlying53 rfl (infoP (p := promV (m4 : Nat) t h 0 (.slice A1 k1 c1) (.slice A2 k2 c2) (tf : Nat) ((tf : Int) + 1 + (tu : Int)) (td : Nat))) ?_; simp only [Act.put, sA, sB, sC]) | (refine wpList_store_mid rfl 53 (.tmp 4) (.tmp 58) rfl w.heap.size 0 (cellsP (promV (m4 : Nat) t h 0 (.slice A1 k1 c1) (.slice A2 k2 c2) (tf : Nat) ((tf : Int) + 1 + (tu : Int)) (td : Nat))).toArray rfl rfl (Blk.there B4 rfl) infoP24 (all_oneCell_toArray promV_one) ?_; rw [List.toList_toArray, ← hw10.out]))
   exact bodyPost_ret (results_prom rfl rfl hF rfl) rfl ⟨_, a, b, rfl, ⟨m4, t, h, 0, tf, tf + 1 + tu, td, A1, k1, c1, A2, k2, c2, by congr 1, hm4, hT, hH, by omega, fun _ => rfl, l1, by omega, by omega, l3⟩, hra, ga, hab, HK24 HK, hb3⟩
  ·as_aux_lemma =>
   go_upto_region 6 with fail; clear q2 q3 z3; obtain ⟨w4, hw4⟩ : ∃ w4, w4 = w3 := ⟨_, rfl⟩; subst hw4; go_wp2_with fail; refine (rpart_n y ((qy : Int) + 1) _ (by omega) (by omega) (by omega) (by omega)).mono ?_; rintro e w5 ⟨v, a, b, rfl, hra, ga, hab, HK, hb5⟩; obtain ⟨A1, k1, c1, A2, k2, c2, rfl⟩ := hra.shape; have BI := Blk.below BI hb5 BI.lt; have B4 := Blk.below B4 hb5 B4.lt; have hb3 := Below.tr hb3 hb5; have q4 := BI.cell 4; have q5 := BI.cell 5; have z4 := BI.frozen 4; have z5 := BI.frozen 5; simp only [cellsP, promV, List.getElem?_toArray, List.getElem?_cons_zero, List.getElem?_cons_succ] at q4 q5; have BJ := BI.set_ 4 (.slice A1 k1 c1); have q6 := BJ.cell 5; have z6 := BJ.frozen 5; clear hb5; go_upto_region 7 with fail; refine wp_name ?_; intro w6 HW6; have hra : Rat w6 (.agg #[.slice A1 k1 c1, .slice A2 k2 c2]) a b := by rw [HW6.out]; exact (Rat.setB (Rat.setB hra BI promV_noU (.slice A1 k1 c1)) (Blk.set_ BI 4 (.slice A1 k1 c1)) (NoU.set promV_noU (i := 4) (u := (.slice A1 k1 c1)) (by intro n e; cases e)) (.slice A2 k2 c2))
   have B4 : Blk w6 w.heap.size 53 (cellsP (promV 0 ⟨#[]⟩ ⟨#[]⟩ 0 (.slice none 0 0) (.slice none 0 0) 0 0 0)).toArray := by rw [HW6.out]; exact (Blk.far (Blk.far B4 (by show w.heap.size ≠ g'; omega) (.slice A1 k1 c1)) (by show w.heap.size ≠ g'; omega) (.slice A2 k2 c2))
   have hb3 : Below w.heap.size w w6 := by rw [HW6.out]; exact (Below.setCell (Below.setCell hb3 (by show w.heap.size ≤ g'; omega) (.slice A1 k1 c1)) (by show w.heap.size ≤ g'; omega) (.slice A2 k2 c2))
   have BI : Blk w6 g' 53 (cellsP (promV (m4 : Nat) t h (t64 : Nat) (.slice A1 k1 c1) (.slice A2 k2 c2) 0 0 0)).toArray := by rw [HW6.out]; exact (Blk.set_ (Blk.set_ BI 4 (.slice A1 k1 c1)) 5 (.slice A2 k2 c2))
   clear HW6; clear q4 q5 z4 z5 BJ q6 z6; have q7 := BI.cell 6; have z7 := BI.frozen 6; simp only [cellsP, promV, List.getElem?_toArray, List.getElem?_cons_zero, List.getElem?_cons_succ] at q7; go_upto_region 8 with fail; refine wp_name ?_; intro w7 HW7; have hra : Rat w7 (.agg #[.slice A1 k1 c1, .slice A2 k2 c2]) a b := by rw [HW7.out]; exact (Rat.setB hra BI promV_noU (.int .i64 (tf : Nat)))
   have B4 : Blk w7 w.heap.size 53 (cellsP (promV 0 ⟨#[]⟩ ⟨#[]⟩ 0 (.slice none 0 0) (.slice none 0 0) 0 0 0)).toArray := by rw [HW7.out]; exact (Blk.far B4 (by show w.heap.size ≠ g'; omega) (.int .i64 (tf : Nat)))
   have hb3 : Below w.heap.size w w7 := by rw [HW7.out]; exact (Below.setCell hb3 (by show w.heap.size ≤ g'; omega) (.int .i64 (tf : Nat)))
   have BI : Blk w7 g' 53 (cellsP (promV (m4 : Nat) t h (t64 : Nat) (.slice A1 k1 c1) (.slice A2 k2 c2) (tf : Nat) 0 0)).toArray := by rw [HW7.out]; exact (Blk.set_ BI 6 (.int .i64 (tf : Nat)))
   clear HW7; clear q7 z7; have q7 := BI.cell 6; have z7 := BI.frozen 6; simp only [cellsP, promV, List.getElem?_toArray, List.getElem?_cons_zero, List.getElem?_cons_succ] at q7; have q8 := BI.cell 7; have z8 := BI.frozen 7; simp only [cellsP, promV, List.getElem?_toArray, List.getElem?_cons_zero, List.getElem?_cons_succ] at q8; go_upto_region 9 with fail; refine wp_name ?_; intro w8 HW8; have hra : Rat w8 (.agg #[.slice A1 k1 c1, .slice A2 k2 c2]) a b := by rw [HW8.out]; exact (Rat.setB hra BI promV_noU (.int .i64 ((tf : Int) + 1 + (tu : Int))))
   have B4 : Blk w8 w.heap.size 53 (cellsP (promV 0 ⟨#[]⟩ ⟨#[]⟩ 0 (.slice none 0 0) (.slice none 0 0) 0 0 0)).toArray := by rw [HW8.out]; exact (Blk.far B4 (by show w.heap.size ≠ g'; omega) (.int .i64 ((tf : Int) + 1 + (tu : Int))))
   have hb3 : Below w.heap.size w w8 := by rw [HW8.out]; exact (Below.setCell hb3 (by show w.heap.size ≤ g'; omega) (.int .i64 ((tf : Int) + 1 + (tu : Int))))
   have BI : Blk w8 g' 53 (cellsP (promV (m4 : Nat) t h (t64 : Nat) (.slice A1 k1 c1) (.slice A2 k2 c2) (tf : Nat) ((tf : Int) + 1 + (tu : Int)) 0)).toArray := by rw [HW8.out]; exact (Blk.set_ BI 7 (.int .i64 ((tf : Int) + 1 + (tu : Int))))
   clear HW8; clear q7 z7 q8 z8; have q9 := BI.cell 8; have z9 := BI.frozen 8; simp only [cellsP, promV, List.getElem?_toArray, List.getElem?_cons_zero, List.getElem?_cons_succ] at q9; go_upto_region 10 with fail; refine wp_name ?_; intro w9 HW9; have hra : Rat w9 (.agg #[.slice A1 k1 c1, .slice A2 k2 c2]) a b := by rw [HW9.out]; exact (Rat.setB hra BI promV_noU (.int .u8 (td : Nat)))
   have B4 : Blk w9 w.heap.size 53 (cellsP (promV 0 ⟨#[]⟩ ⟨#[]⟩ 0 (.slice none 0 0) (.slice none 0 0) 0 0 0)).toArray := by rw [HW9.out]; exact (Blk.far B4 (by show w.heap.size ≠ g'; omega) (.int .u8 (td : Nat)))
   have hb3 : Below w.heap.size w w9 := by rw [HW9.out]; exact (Below.setCell hb3 (by show w.heap.size ≤ g'; omega) (.int .u8 (td : Nat)))
   have BI : Blk w9 g' 53 (cellsP (promV (m4 : Nat) t h (t64 : Nat) (.slice A1 k1 c1) (.slice A2 k2 c2) (tf : Nat) ((tf : Int) + 1 + (tu : Int)) (td : Nat))).toArray := by rw [HW9.out]; exact (Blk.set_ BI 8 (.int .u8 (td : Nat)))
   clear HW9; clear q9 z9; obtain ⟨w10, hw10⟩ : ∃ w', Hid (w' = w9.setCells w.heap.size 0 (cellsP (promV (m4 : Nat) t h (t64 : Nat) (.slice A1 k1 c1) (.slice A2 k2 c2) (tf : Nat) ((tf : Int) + 1 + (tu : Int)) (td : Nat)))) := ⟨_, rfl⟩; have hra : Rat w10 (.agg #[.slice A1 k1 c1, .slice A2 k2 c2]) a b := by rw [hw10.out]; exact Rat.setsB _ 0 hra B4 promV_noU promV_no
   have hb3 : Below w.heap.size w w10 := by rw [hw10.out]; exact below_setAll (Nat.le_refl _) _ _ hb3
   have hF : Blk w10 w.heap.size 53 (cellsP (promV (m4 : Nat) t h (t64 : Nat) (.slice A1 k1 c1) (.slice A2 k2 c2) (tf : Nat) ((tf : Int) + 1 + (tu : Int)) (td : Nat))).toArray := by rw [hw10.out]; exact Blk.setAll B4 rfl
   go_wp2_with (first | (refine wpList_load_mid rfl 53 (.tmp 7) rfl g' 0 rfl (cellsP (promV (m4 : Nat) t h (t64 : Nat) (.slice A1 k1 c1) (.slice A2 k2 c2) (tf : Nat) ((tf : Int) + 1 + (tu : Int)) (td : Nat))) _ (Blk.range BI) Try.underlying53 rfl (infoP (p := promV (m4 : Nat) t h (t64 : Nat) (.slice A1 k1 c1) (.slice A2 k2 c2) (tf : Nat) ((tf : Int) + 1 + (tu : Int)) (td : Nat))) ?_; simp only [Act.put, sA, sB, sC]) | (refine wpList_store_mid rfl 53 (.tmp 4) (.tmp 58) rfl w.heap.size 0 (cellsP (promV (m4 : Nat) t h (t64 : Nat) (.slice A1 k1 c1) (.slice A2 k2 c2) (tf : Nat) ((tf : Int) + 1 + (tu : Int)) (td : Nat))).toArray rfl rfl (Blk.there B4 rfl) infoP24 (all_oneCell_toArray promV_one) ?_; rw [List.toList_toArray, ← hw10.out]))
   exact bodyPost_ret (results_prom rfl rfl hF rfl) rfl ⟨_, a, b, rfl, ⟨m4, t, h, t64, tf, tf + 1 + tu, td, A1, k1, c1, A2, k2, c2, by congr 1, hm4, hT, hH, by omega, fun e => absurd (HE0.out e) (by rw [he]; decide), l1, by omega, by omega, l3⟩, hra, ga, hab, HK24 HK, hb3⟩
end Go.Proofs.Yticobffjnjbjiaa
namespace Go.Proofs.Yticobffjnjbjiaa
open Go Go.RowKit
section
variable {P : Program}
/-- all cells of the slice's own block are so -/
def OwnAll (Pr : Value → Prop) (w : World) (v : Value) : Prop := ∀ g, v.ownBlock = some g → ∀ i x, w.cell? ⟨g, i, none⟩ = some x → Pr x
theorem OwnAll.nil {Pr : Value → Prop} {w : World} {k c : Nat} : OwnAll Pr w (.slice none k c) := fun _ h => by cases h
theorem OwnAll.below {Pr : Value → Prop} {w w' : World} {v : Value} (h : OwnAll Pr w v) (hb : Below w.heap.size w w') (hv : ∀ g, v.ownBlock = some g → g < w.heap.size) : OwnAll Pr w' v := by
 intro g hg i x hx; refine h g hg i x ?_; rw [← World.cell?_of_block (w := w) (w' := w') (a := ⟨g, i, none⟩) (hb.block g (hv g hg))]; exact hx
theorem OwnAll.blk {Pr : Value → Prop} {w : World} {g k c : Nat} {T : TypeId} {arr : Array Value} (hb : Blk w g T arr) (h : ∀ x ∈ arr.toList, Pr x) : OwnAll Pr w (.slice (some ⟨g, 0, none⟩) k c) := by
 intro g' hg i x hx; simp only [Value.ownBlock, Option.some.injEq] at hg; subst hg; rw [hb.cell] at hx; exact h x (by rw [Array.mem_toList_iff]; exact Array.mem_of_getElem? hx)
theorem zeroCells_mem {z : Array Value} {n : Nat} {x : Value} (h : x ∈ (Builtin.zeroCells z n).toList) : x ∈ z.toList := by
 simp only [Builtin.zeroCells] at h; simp at h; obtain ⟨i, hi, rfl⟩ := h
 rcases Nat.eq_zero_or_pos z.size with h0 | h0
 ·rw [h0] at hi; omega
 ·have := Nat.mod_lt i h0; simp [Nat.mod_lt i h0]
theorem run_append_all (w : World) (Pr : Value → Prop) (base : Nat) (t ty e : TypeId) (i : TypeInfo) (z : Value) (size bytes : Nat) (ht : P.underlying t = some (.slice e)) (hi : P.info? e = some i) (hz : i.zero = some z)
  (hsize : i.size = size) (hby : i.bytes = bytes) (hzs : z.cells.size = size) (hsz : 0 < size)
  (v : Value) (n : Nat) (xs : List Value) (hown : w.ownsRow base e size v n xs)
  (A : Option Addr) (m c : Nat) (news : List Value) (hm : news.length = m * size) (hr : Rd w A news) (h1 : ∀ u ∈ news, u.oneCell' = true)
  (h63 : n + m ≤ maxLen) (hbytes : (n + m) * bytes ≤ 140737488355328) (hbase : base ≤ w.heap.size)
  (hPz : ∀ x ∈ z.cells.toList, Pr x) (hPn : ∀ x ∈ news, Pr x) (hPo : OwnAll Pr w v) :
  ∃ v' w', (Builtin.append_ #[t, t] ty #[v, .slice A m c]).run P w = .ok v' w' ∧ w'.ownsRow base e size v' (n + m) (xs ++ news) ∧ w.grownBy w' v.ownBlock ∧
   (v'.ownBlock = v.ownBlock ∨ v'.ownBlock = some w.heap.size) ∧ OwnAll Pr w' v' := by
 obtain ⟨v', w', hrun, h2, h3, h4⟩ := run_append_any (P := P) w base t ty e i z size bytes ht hi hz hsize hby hzs hsz v n xs hown A m c news hm hr h1 h63 hbytes hbase; refine ⟨v', w', hrun, h2, h3, h4, ?_⟩; subst hsize; have hsmall : n + m ≤ 9223372036854775807 := by simp only [maxLen] at h63; omega
 by_cases h0 : news = []
 ·subst h0
  have hm0 : m = 0 := by
   rcases Nat.eq_zero_or_pos m with h0 | h0
   ·exact h0
   ·have := Nat.mul_pos h0 hsz; simp at hm; omega
  subst hm0
  have e : (Builtin.append_ #[t, t] ty #[v, .slice A 0 c]).run P w = .ok v w := by
   rcases A with _ | ad
   ·exact run_append_of_nil w base t ty e i i.size ht hi v n xs hown c
   ·rcases hown.2 with ⟨rfl, rfl⟩ | ⟨g, cap, cur, rfl, _, _, hnc, _⟩
    ·simp [Builtin.append_, run_underlying ht, sizeOf, typeInfo, hi, Builtin.lenOf, Builtin.firstCells, loadCells, loadCellsFrom]
    ·simp [Builtin.append_, run_underlying ht, sizeOf, typeInfo, hi, Builtin.lenOf, Builtin.firstCells, hnc, storeCells, loadCells, loadCellsFrom]
  rw [e] at hrun; injection hrun with e1 e2; subst e1 e2; exact hPo
 ·obtain ⟨b, off, rfl, hc⟩ := hr h0
  have hmp : 0 < m := by
   rcases Nat.eq_zero_or_pos m with h | h
   ·subst h; exact absurd (List.eq_nil_of_length_eq_zero (by simpa using hm)) h0
   ·exact h
  have hcells : ∀ j u, news[j]? = some u → w.cell? ((⟨b, off, none⟩ : Addr).add j) = some u := by
   intro j u hu; have hj : j < news.length := (List.getElem?_eq_some_iff.1 hu).1; rw [List.getElem?_eq_getElem hj] at hu; have := hc j hj; have e : (⟨b, off, none⟩ : Addr).add j = ⟨b, off + j, none⟩ := by unfold Addr.add; split <;> simp_all
   rw [e, this]; exact hu
  rcases hown.2 with ⟨rfl, rfl⟩ | ⟨g, cap, cur, rfl, hbg, hg, hnc, hcm, hcs, htake⟩
  ·have hr := run_append_nil (P := P) w t ty e i z ht hi hz ⟨b, off, none⟩ m c news hm hcells hmp (by omega) (by rw [hby]; simp only [Nat.zero_add] at hbytes; omega); rw [hr] at hrun; injection hrun with e1 e2; subst e1 e2; refine OwnAll.blk (Blk.new w.drew e _) fun x hx => ?_
   rw [Array.toList_append] at hx
   rcases List.mem_append.1 hx with h | h
   ·exact hPn x (by simpa using h)
   ·exact hPz x (zeroCells_mem h)
  ·have hcur : ∀ x ∈ cur.toList, Pr x := by
    intro x hx; obtain ⟨j, hj, e⟩ := List.getElem_of_mem hx; refine hPo g rfl j x ?_; rw [cell_of_row w g j cur _ _ hg]; rw [← e]; simp
   by_cases hroom : n + m ≤ cap
   ·have hfit : n * i.size + news.length ≤ cur.size := by rw [hm, hcs, ← Nat.add_mul]; exact Nat.mul_le_mul_right _ hroom
    have hr := run_append_room (P := P) w t ty e i ht hi g n cap cur hg ⟨b, off, none⟩ m c news hm hcells h1 hroom hfit; rw [hr] at hrun; injection hrun with e1 e2; subst e1 e2; refine OwnAll.blk (setRow_heap w g cur _ e _ hg) fun x hx => ?_
    simp only [List.mem_append] at hx
    rcases hx with (h | h) | h
    ·exact hcur x (List.mem_of_mem_take h)
    ·exact hPn x h
    ·exact hcur x (List.mem_of_mem_drop h)
   ·have holds : ∀ j u, xs[j]? = some u → w.cell? ((⟨g, 0, none⟩ : Addr).add j) = some u := hown.cells (g := g) rfl; have hr := run_append_grow (P := P) w t ty e i z ht hi hz ⟨g, 0, none⟩ n cap xs hown.1 holds ⟨b, off, none⟩ m c news hm hcells (by omega) (by omega) (growslice_fits (by omega) (by rw [hby]; exact hbytes)); rw [hr] at hrun; injection hrun with e1 e2; subst e1 e2; refine OwnAll.blk (Blk.new w.drew e _) fun x hx => ?_
    simp only [Array.toList_append, List.mem_append] at hx
    rcases hx with (h | h) | h
    ·exact hcur x (List.mem_of_mem_take (by rw [htake]; exact h))
    ·exact hPn x h
    ·exact hPz x (zeroCells_mem h)
theorem wpList_append_all {ops : Array Oper} {rest : List Oper} {o : Oper} {a : Act} {w : World} {Q : Exit → Act → World → Prop} (hgd : o.guard = none) (Pr : Value → Prop) (s x : Operand) (t : TypeId)
  (ho : o.op = .call { callee := .builtin .append, args := #[s, x], argTypes := #[t, t] })
  (base : Nat) (e : TypeId) (i : TypeInfo) (z : Value) (size bytes : Nat) (ht : P.underlying t = some (.slice e)) (hi : P.info? e = some i) (hz : i.zero = some z)
  (hsize : i.size = size) (hby : i.bytes = bytes) (hzs : z.cells.size = size) (hsz : 0 < size)
  (v : Value) (n : Nat) (xs : List Value) (hs : a.eval s = v) (hown : w.ownsRow base e size v n xs)
  (A : Option Addr) (m c : Nat) (news : List Value) (hx : a.eval x = .slice A m c) (hm : news.length = m * size) (hr : Rd w A news) (h1 : ∀ u ∈ news, u.oneCell' = true)
  (h63 : n + m ≤ maxLen) (hbytes : (n + m) * bytes ≤ 140737488355328) (hbase : base ≤ w.heap.size)
  (hPz : ∀ x ∈ z.cells.toList, Pr x) (hPn : ∀ x ∈ news, Pr x) (hPo : OwnAll Pr w v)
  (h : ∀ v' w', w'.ownsRow base e size v' (n + m) (xs ++ news) → w.grownBy w' v.ownBlock → (v'.ownBlock = v.ownBlock ∨ v'.ownBlock = some w.heap.size) → OwnAll Pr w' v' → wpList P ops Q rest (a.put o.dst v') w') : wpList P ops Q (o :: rest) a w := by
 refine wpList_plain hgd fun K hK => ?_
 obtain ⟨v', w', hrun, h2, h3, h4, h5⟩ := run_append_all (P := P) w Pr base t o.type e i z size bytes ht hi hz hsize hby hzs hsz v n xs hown A m c news hm hr h1 h63 hbytes hbase hPz hPn hPo; unfold Oper.wp execOp; simp only [ho, resolve, invoke, builtin, Sem.run_bind, Sem.run_pure, Result.andThen_ok, List.map_toArray, List.map_cons, List.map_nil, hs, hx, hrun]; exact hK _ _ (h v' w' h2 h3 h4 h5)
end
/-- no limb -/
def NoL (v : Value) : Prop := ∀ n, v ≠ .int .u32 n
theorem Lim.grownBy {w w' : World} {A : Option Addr} {c : Nat} {l : List Nat} {a : Value} (h : Lim w A c l) (k : w.grownBy w' a.ownBlock) (hO : OwnAll NoL w a) : Lim w' A c l := by
 refine ⟨fun hx => ?_, h.2⟩; obtain ⟨b, off, rfl, hc⟩ := h.1 hx; have hl : 0 < (u32s l).length := List.length_pos_iff.2 hx; refine ⟨b, off, rfl, fun i hi => ?_⟩; refine World.grownBy.cell k (hc i hi) fun e => ?_
 have h0 := hc 0 hl; have := hO b e.symm _ _ h0; have h2 : (u32s l)[0] ∈ u32s l := List.getElem_mem hl; unfold u32s at h2; obtain ⟨n, _, hn⟩ := List.mem_map.1 h2; exact this n hn.symm
theorem Rat.grownBy {w w' : World} {v a : Value} {p q : Nat} (h : Rat w v p q) (k : w.grownBy w' a.ownBlock) (hO : OwnAll NoL w a) : Rat w' v p q := by
 obtain ⟨A1, k1, c1, A2, k2, c2, rfl, h1, h2⟩ := h; exact ⟨A1, k1, c1, A2, k2, c2, rfl, ⟨h1.1, h1.2.grownBy k hO⟩, ⟨h2.1, h2.2.grownBy k hO⟩⟩
end Go.Proofs.Yticobffjnjbjiaa
namespace Go.Proofs.Yticobffjnjbjiaa
open Go Go.RowKit
theorem PromOk.noL {p : PC} (h : PromOk p) : ∀ u ∈ cellsP p, NoL u := by
 obtain ⟨team, t, h, site, fr, un, d, A1, k1, c1, A2, k2, c2, rfl, _⟩ := h; exact promV_no
theorem PromOk.one {p : PC} (h : PromOk p) : ∀ u ∈ cellsP p, u.oneCell' = true := by
 obtain ⟨team, t, h, site, fr, un, d, A1, k1, c1, A2, k2, c2, rfl, _⟩ := h; exact promV_one
/-- promises as the generators make them, with their bounds -/
def PsOk (w : World) (ps : List PC) (bd : Nat → Nat × Nat) : Prop := ∀ (n : Nat) p, ps[n]? = some p → PromOk p ∧ Rat w (.agg #[p.b1, p.b2]) (bd n).1 (bd n).2 ∧ Nm.Good (bd n).1 (bd n).2 ∧ (bd n).1 ≤ (bd n).2 ∧ (bd n).2 ≤ 24
theorem PsOk.below {w w' : World} {ps : List PC} {bd : Nat → Nat × Nat} (h : PsOk w ps bd) (hb : Below w.heap.size w w') : PsOk w' ps bd := fun n p hp => by
 obtain ⟨h1, h2, h3⟩ := h n p hp; exact ⟨h1, h2.below hb, h3⟩
theorem PsOk.grownBy {w w' : World} {a : Value} {ps : List PC} {bd : Nat → Nat × Nat} (h : PsOk w ps bd) (k : w.grownBy w' a.ownBlock) (hO : OwnAll NoL w a) : PsOk w' ps bd := fun n p hp => by
 obtain ⟨h1, h2, h3⟩ := h n p hp; exact ⟨h1, h2.grownBy k hO, h3⟩
theorem PsOk.more {w : World} {ps : List PC} {bd : Nat → Nat × Nat} {p : PC} {a b : Nat} (h : PsOk w ps bd) (hp : PromOk p) (hr : Rat w (.agg #[p.b1, p.b2]) a b) (g : Nm.Good a b) (h1 : a ≤ b) (h2 : b ≤ 24) : PsOk w (ps ++ [p]) (fun n => if n = ps.length then (a, b) else bd n) := by
 intro n q hq; by_cases hn : n = ps.length
 ·subst hn; rw [List.getElem?_concat_length] at hq; injection hq with hq; subst hq; simp only [if_true]; exact ⟨hp, hr, g, h1, h2⟩
 ·simp only [if_neg hn]; refine h n q ?_
  rcases Nat.lt_or_ge n ps.length with h3 | h3
  ·rwa [List.getElem?_append_left h3] at hq
  ·rw [List.getElem?_eq_none (by simp; omega)] at hq; cases hq
def zeroPV : Value := .agg #[.int .i64 0, .string ⟨#[]⟩, .string ⟨#[]⟩, .int .i64 0, .slice none 0 0, .slice none 0 0, .int .i64 0, .int .i64 0, .int .u8 0, .int .u8 0, .int .u8 0, .int .u8 0, .int .u8 0, .int .u8 0, .int .u8 0, .int .u8 0, .int .u8 0, .int .u8 0, .int .u8 0, .int .u8 0, .int .u8 0, .int .u8 0, .int .u8 0, .int .u8 0]
theorem info_promV : (Try.prog.info? 53).map (fun i => (i.zero, i.size, i.bytes)) = some (some zeroPV, 24, 128) := by kernel_rfl
theorem zeroPV_size : zeroPV.cells.size = 24 := by kernel_rfl
theorem zeroPV_noL : ∀ x ∈ zeroPV.cells.toList, NoL x := by
 intro x hx n e; subst e; simp [zeroPV, Value.cells] at hx
theorem fill_promV (p : PC) : Instr.fill (fun i => some (i * 24, 24)) ((Array.range (1 * 24)).map (zeroPV.cells[· % zeroPV.cells.size]!)) [(0, .agg (cellsP p).toArray)] = some (cellsP p).toArray := by kernel_rfl
theorem own_promS {w : World} {base : Nat} {v : Value} {n : Nat} {l : List PC} (hn : n ≤ 281474976710656) (h : w.ownsRow base 53 24 v n (l.flatMap cellsP)) : ∃ A c, v = .slice A n c ∧ RowS cellsP w A n l := own_rowS cellsP_len (by omega) hn h
set_option maxRecDepth 100000 in
set_option maxHeartbeats 4000000 in
theorem made_n (A : Option Addr) (k c : Nat) (l : List Int) (w : World) (hl : RowL intC w A k l) (HL : Hid (∀ x ∈ l, -9223372036854775808 ≤ x ∧ x ≤ 9223372036854775807)) :
  Calls Try.prog 19 #[.slice A k c] w fun e w' => ∃ Ap kp cp ps bd, e = .returned (.slice Ap kp cp) ∧ w'.ownsRow w.heap.size 53 24 (.slice Ap kp cp) kp (ps.flatMap cellsP) ∧ OwnAll NoL w' (.slice Ap kp cp) ∧ RowS cellsP w' Ap kp ps ∧ kp ≤ 6 ∧ PsOk w' ps bd ∧ Below w.heap.size w w' := by
 obtain ⟨i0, hi0, hz0, hz1, hz2⟩ := info_parts info_promV
 go_enter Try.func19, Try.ntmps19
 go_wp2_with fail
 go_loopg [3, 4] 7 (fun j v x wr => ∃ (i : Nat) (ps : List PC) (bd : Nat → Nat × Nat), x = .int .i64 i ∧ i + j = 7 ∧ wr.ownsRow w.heap.size 53 24 v i (ps.flatMap cellsP) ∧ ps.length = i ∧ i ≤ 6 ∧ OwnAll NoL wr v ∧ PsOk wr ps bd ∧ Below w.heap.size w wr)
 case atStart => exact ⟨0, [], fun _ => (0, 0), rfl, rfl, World.ownsRow_nil _ _ _ _, rfl, by omega, OwnAll.nil, fun n p h => by simp at h, Below.refl _ _⟩
 case round =>
  obtain ⟨G, hG⟩ : ∃ G, G = gk := ⟨gk, rfl⟩; subst hG; obtain ⟨i, ps, bd, rfl, hij, hown, hlen, hi6', hall, hps, hbe⟩ := hrel; have hl1 := hl.below hbe; obtain ⟨Ao, co, rfl⟩ := own_shp hown; go_wp2_with fail; refine (at_n A k c l 0 7 _ hl1 HL (by omega) (by omega)).mono ?_; rintro e w' ⟨z, rfl, hz, rfl⟩; by_cases hi : i < z
  ·have t1 : decide ((i : Int) < (z : Int)) = true := by simp; omega
   have s1 : IntKind.i64.wrap (2 * (i : Int)) = 2 * (i : Int) := by rw [IntWalk.i64_in _ (by omega)]
   have s2 : IntKind.i64.wrap (1 + 2 * (i : Int)) = 1 + 2 * (i : Int) := by rw [IntWalk.i64_in _ (by omega)]
   have s3 : IntKind.i64.wrap (2 + 2 * (i : Int)) = 2 + 2 * (i : Int) := by rw [IntWalk.i64_in _ (by omega)]
   go_wp2_with fail; refine (at_n A k c l (1 + 2 * (i : Int)) 65536 _ hl1 HL (by omega) (by omega)).mono ?_; rintro e w' ⟨x, rfl, hx, rfl⟩; go_wp2_with fail; refine (at_n A k c l (2 + 2 * (i : Int)) 65536 _ hl1 HL (by omega) (by omega)).mono ?_; rintro e w' ⟨y, rfl, hy, rfl⟩; go_wp2_with fail; refine (one_n (x : Int) (y : Int) _ (by omega) (by omega) (by omega) (by omega)).mono ?_; rintro e w2 ⟨p, a, b, rfl, hok, hra, ga, hab, hb24, hb2⟩; have hb3 := Below.tr hb2 (bA w2 (.cells (cellsP p).toArray 53)); have hown3 := own_below hown hb3; have hall3 := hall.below hb3 (fun g hg => ownsRow_lt hown g hg); have hps3 := (hps.below hb3).more hok (hra.below (bA w2 (.cells (cellsP p).toArray 53))) ga hab hb24; have hrd := Rd.fresh w2 53 (cellsP p); have hbe3 := Below.tr hbe hb3; have hsz := hbe3.size; have hone := hok.one; have hno := hok.noL; clear s1 s2 s3 hl1 hok hra ga hab hb24 hb2 hb3 hown hall hps hx hy
   go_wp2_with (first | (refine wpList_sliceN rfl 37 53 1 [(0, .tmp 22)] rfl (cellsP p).toArray i0 zeroPV 24 [(0, .agg (cellsP p).toArray)] Try.underlying37 hi0 hz0 hz1 (by omega) (by omega) rfl (fill_promV p) ?_; simp only [Act.put, sA, sB, sC]) | (at_builtin; go_loud (refine wpList_append_all rfl NoL (.tmp 11) (.tmp 23) _ rfl w.heap.size 53 i0 zeroPV 24 128 Try.underlying37 hi0 hz0 hz1 hz2 zeroPV_size (by omega) _ i _ rfl hown3 (some ⟨w2.heap.size, 0, none⟩) 1 1 (cellsP p) rfl rfl hrd hone (by simp only [maxLen]; omega) (by omega) hsz zeroPV_noL hno hall3 ?_); intro v4 w4 hown4 hg4 hat4 hall4))
   have hps4 := hps3.grownBy hg4 hall3; have hbe4 : Below w.heap.size w w4 := hbe3.grown hg4 hsz (own_block_ge hown3); have hown5 : w4.ownsRow w.heap.size 53 24 v4 (i + 1) ((ps ++ [p]).flatMap cellsP) := by rw [List.flatMap_append]; simpa using hown4
   obtain ⟨A5, c5, rfl⟩ := own_shp hown5; clear hown4 hown3 hg4 hat4 hall3 hps3 hbe3 hsz hone hno hrd; go_wp2_with fail
   go_roundg (G - 1)
   case measure => omega
   case rel => exact ⟨i + 1, ps ++ [p], _, by go_num, by omega, hown5, by simp [hlen], by omega, hall4, hps4, hbe4⟩
  ·have t1 : decide ((i : Int) < (z : Int)) = false := by simp; omega
   have hi6 : i ≤ 281474976710656 := by omega
   obtain ⟨A5, c5, e5, hrow⟩ := own_promS hi6 hown; injection e5 with e1 e2 e3; subst e1 e3; go_wp2_with fail; go_ret; exact ⟨_, _, _, ps, bd, rfl, hown, hall, hrow, hi6', hps, hbe⟩
set_option maxRecDepth 100000 in
set_option maxHeartbeats 4000000 in
theorem active_n (Ap : Option Addr) (kp cp : Nat) (A : Option Addr) (k c : Nat) (l : List Int) (w : World) (hk : kp ≤ 1048576) (hl : RowL intC w A k l) (HL : Hid (∀ x ∈ l, -9223372036854775808 ≤ x ∧ x ≤ 9223372036854775807)) :
  Calls Try.prog 20 #[.slice Ap kp cp, .slice A k c] w fun e w' => ∃ la : List Nat, ∃ Aa ka ca, e = .returned (.slice Aa ka ca) ∧ w'.ownsRow w.heap.size 3 1 (.slice Aa ka ca) ka (la.flatMap natC) ∧ RowS natC w' Aa ka la ∧ ka ≤ 8 ∧ Hid (∀ n ∈ la, n < kp) ∧ Below w.heap.size w w' := by
 obtain ⟨i0, hi0, hz0, hz1, hz2⟩ := info_parts info_int; have hk63 := hl.2.2
 go_enter Try.func20, Try.ntmps20
 go_wp2_with fail
 go_loopg [5, 6] 9 (fun j v x wr => ∃ (i : Nat) (la : List Nat), x = .int .i64 i ∧ i + j = 9 ∧ wr.ownsRow w.heap.size 3 1 v i (la.flatMap natC) ∧ la.length = i ∧ i ≤ 8 ∧ Hid (∀ n ∈ la, n < kp) ∧ Below w.heap.size w wr)
 case atStart => exact ⟨0, [], rfl, rfl, World.ownsRow_nil _ _ _ _, rfl, by omega, fun n h => by simp at h, Below.refl _ _⟩
 case round =>
  obtain ⟨G, hG⟩ : ∃ G, G = gk := ⟨gk, rfl⟩; subst hG; obtain ⟨i, la, rfl, hij, hown, hlen, hi8, HIN, hbe⟩ := hrel; have hl1 := hl.below hbe; obtain ⟨Ao, co, rfl⟩ := own_shp hown; have done : ∀ (Q : Exit → Act → World → Prop), True := fun _ => trivial
  clear done; by_cases hc : i < k ∧ i < 8 ∧ 0 < kp
  ·have t1 : decide ((i : Int) < (k : Int)) = true := by simp; omega
   have t2 : decide ((i : Int) < 8) = true := by simp; omega
   have t3 : decide ((kp : Int) > 0) = true := by simp; omega
   have hik := hc.1; have hkp := hc.2.2; have hi7 : i + 1 ≤ 8 := by omega
   obtain ⟨b, off, x, rfl, hcell, HX⟩ := hl1.int hik; have hx := HL.out x (List.mem_of_getElem? HX.out); clear hc; go_wp2_with fail; refine (around_n x kp _ hx.1 hx.2 hkp (by omega)).mono ?_; rintro e w' ⟨z, rfl, hz, _, rfl⟩; have hb3 := bA wr (.cells #[.int .i64 (z : Int)] 3); have hown3 := own_below hown hb3; have hrd : Rd (wr.alloc (.cells #[.int .i64 (z : Int)] 3)) (some ⟨wr.heap.size, 0, none⟩) (natC z) := Rd.fresh wr 3 (natC z); have hbe3 := Below.tr hbe hb3; have hsz := hbe3.size; clear hb3 hown hl1 hcell hx HX
   go_wp2_with (first | (at_builtin; go_loud (refine wpList_append_any _ rfl (.tmp 22) (.tmp 30) _ rfl w.heap.size 3 i0 _ 1 8 Try.underlying35 hi0 hz0 hz1 hz2 rfl (by omega) _ i _ rfl hown3 _ 1 1 (natC z) rfl rfl hrd (by simp [natC, Value.oneCell']) (by simp only [maxLen]; omega) (by omega) hsz ?_); intro v4 w4 hown4 hg4 hat4))
   have hbe4 : Below w.heap.size w w4 := hbe3.grown hg4 hsz (own_block_ge hown3); have hown5 : w4.ownsRow w.heap.size 3 1 v4 (i + 1) ((la ++ [z]).flatMap natC) := by rw [List.flatMap_append]; simpa using hown4
   have HIN5 : Hid (∀ n ∈ la ++ [z], n < kp) := by
    intro n hn
    rcases List.mem_append.1 hn with h | h
    ·exact HIN.out n h
    ·rw [List.mem_singleton.1 h]; exact hz
   obtain ⟨A5, c5, rfl⟩ := own_shp hown5; clear hown4 hown3 hg4 hat4 hbe3 hsz hrd hz; go_wp2_with fail
   go_roundg (G - 1)
   case measure => omega
   case rel => exact ⟨i + 1, la ++ [z], by go_num, by omega, hown5, by simp [hlen], hi7, HIN5, hbe4⟩
  ·obtain ⟨A5, c5, e5, hrow⟩ := own_rowS natC_len (by omega) (by omega) hown; injection e5 with e1 e2 e3; subst e1 e3; by_cases h1 : i < k
   ·have t1 : decide ((i : Int) < (k : Int)) = true := by simp; omega
    by_cases h2 : i < 8
    ·have t2 : decide ((i : Int) < 8) = true := by simp; omega
     obtain rfl : kp = 0 := by omega
     clear hc; go_wp2_with fail; go_ret; exact ⟨la, _, _, _, rfl, hown, hrow, hi8, fun n hn => absurd (HIN.out n hn) (by omega), hbe⟩
    ·have t2 : decide ((i : Int) < 8) = false := by simp; omega
     clear hc; go_wp2_with fail; go_ret; exact ⟨la, _, _, _, rfl, hown, hrow, hi8, HIN, hbe⟩
   ·have t1 : decide ((i : Int) < (k : Int)) = false := by simp; omega
    clear hc; go_wp2_with fail; go_ret; exact ⟨la, _, _, _, rfl, hown, hrow, hi8, HIN, hbe⟩
end Go.Proofs.Yticobffjnjbjiaa
namespace Go.Proofs.Yticobffjnjbjiaa
open Go Go.RowKit
theorem own_nil0 (w : World) (T : TypeId) (size : Nat) : (w.alloc (.cells #[] T)).ownsRow w.heap.size T size (.slice (some ⟨w.heap.size, 0, none⟩) 0 0) 0 [] :=
 ⟨by simp, .inr ⟨_, 0, #[], rfl, Nat.le_refl _, heap_alloc_new w _, Nat.le_refl _, by unfold maxLen; omega, by simp, by simp⟩⟩
theorem own_any {α : Type} {f : α → List Value} {m : Nat} (hf : ∀ x, (f x).length = m) {w : World} {base : Nat} {T : TypeId} {A : Option Addr} {n c : Nat} {X : List α} (hm : 0 < m) (hn : n ≤ 281474976710656) (h : w.ownsRow base T m (.slice A n c) n (X.flatMap f)) : RowS f w A n X := by
 obtain ⟨_, _, e, hr⟩ := own_rowS hf hm hn h; injection e with e1 _ _; subst e1; exact hr
theorem rtl_rat {w : World} {v : Value} {p q : Nat} (h : Rat w v p q) : RtL w v (Nm.lb p) (Nm.lb (Nm.dn q)) := by
 obtain ⟨A1, k1, c1, A2, k2, c2, rfl, h1, h2⟩ := h; exact ⟨A1, k1, c1, A2, k2, c2, rfl, h1.2, h2.2, h1.1, h2.1⟩
theorem PVal.uniq {p : PC} {L1 L2 : List Nat} {e f : Int} (h : PVal p L1 L2 e) (k : PVal p L1 L2 f) : e = f := by
 rcases h with ⟨h1, rfl⟩ | ⟨a, b, h1, h2, h3, rfl⟩
 ·rcases k with ⟨_, k2⟩ | ⟨a, b, k1, k2, k3, _⟩
  ·exact k2.symm
  ·rw [k1, k2] at h1; exact absurd (Nm.validE_of k3) h1
 ·rcases k with ⟨k1, _⟩ | ⟨a', b', k1, k2, k3, rfl⟩
  ·rw [h1, h2] at k1; exact absurd (Nm.validE_of h3) k1
  ·have e1 : a = a' := Nm.lb_inj (h1.symm.trans k1); have e2 : b = b' := Nm.dn_inj h3.pos k3.pos (Nm.lb_inj (h2.symm.trans k2)); rw [e1, e2]
def EscOk (w : World) (ps : List PC) (Lf : Nat → List Nat × List Nat) : Prop := ∀ (n : Nat) p, ps[n]? = some p → RtL w (.agg #[p.b1, p.b2]) (Lf n).1 (Lf n).2 ∧ p.test.size ≤ 9223372036854775807 ∧ p.wh.size ≤ 9223372036854775807
theorem EscOk.below {w w' : World} {ps : List PC} {Lf : Nat → List Nat × List Nat} (h : EscOk w ps Lf) (hb : Below w.heap.size w w') : EscOk w' ps Lf := fun n p hp => ⟨(h n p hp).1.below hb, (h n p hp).2⟩
end Go.Proofs.Yticobffjnjbjiaa
namespace Go.Proofs.Yticobffjnjbjiaa
open Go Go.RowKit
theorem wpList_buildV {P : Program} {ops : Array Oper} {rest : List Oper} {o : Oper} {a : Act} {w : World} {Q : Exit → Act → World → Prop} (hg : o.guard = none) (t : TypeId) (pl : List (Nat × Operand)) (ho : o.op = .build t pl.toArray)
  (cells : Array Value) (vals : List (Nat × Value)) (hv : (pl.map fun (i, x) => (i, a.eval x)) = vals) (hf : P.built t vals = some cells) (h : wpList P ops Q rest (a.put o.dst (.agg cells)) w) : wpList P ops Q (o :: rest) a w :=
 wpList_plain hg fun _ hK => wp_buildV t pl ho cells vals hv hf (hK _ _ h)
/-- a result as the generators make it: but for the steps, what it costs and its root are zero -/
def rcC (oc : Int) (at_ : ByteArray) (st c : Int) : RC0 := ⟨oc, at_, st, .int .i64 c, .int .i64 0, .int .i64 0, .int .u8 0, .int .u8 0, .int .u8 0, .int .u8 0, .int .u8 0, .int .u8 0, .int .u8 0, .int .u8 0, .int .u8 0, .int .u8 0, .int .u8 0, .int .u8 0, .int .u8 0, .int .u8 0, .int .u8 0, .int .u8 0⟩
theorem rcC_one {oc st c : Int} {a : ByteArray} : ∀ v ∈ cellsR (rcC oc a st c), v.oneCell' = true := by
 intro v hv; simp only [cellsR, rcC, List.mem_cons, List.not_mem_nil, or_false] at hv
 rcases hv with rfl | rfl | rfl | rfl | rfl | rfl | rfl | rfl | rfl | rfl | rfl | rfl | rfl | rfl | rfl | rfl | rfl | rfl | rfl | rfl | rfl | rfl <;> rfl
theorem fill_res1 (r : RC0) : Instr.fill (fun i => some (i * 22, 22)) ((Array.range (1 * 22)).map (zeroR.cells[· % zeroR.cells.size]!)) [(0, .agg (cellsR r).toArray)] = some (rowE [r]) := by kernel_rfl
theorem zeroR_size : zeroR.cells.size = 22 := by kernel_rfl
theorem built_res {a c : Int} {s : ByteArray} : (Try.prog).built 64 [(0, .int .i64 a), (1, .string s), (2, .int .i64 c)] = some (cellsR (rcC a s c 0)).toArray := by kernel_rfl
theorem built_cost {d : Int} : (Try.prog).built 62 [(0, .int .i64 d)] = some #[.int .i64 d, .int .i64 0, .int .i64 0] := by kernel_rfl
theorem built_res4 {a c d : Int} {s : ByteArray} : (Try.prog).built 64 [(0, .int .i64 a), (1, .string s), (2, .int .i64 c), (3, .agg #[.int .i64 d, .int .i64 0, .int .i64 0])] = some (cellsR (rcC a s c d)).toArray := by kernel_rfl
theorem infoR22 {r : RC0} : (Try.prog.info? 64).map (·.size) = some (cellsR r).toArray.size := by kernel_rfl
/-- a result with any outcome -/
def ResA (r : RC0) : Prop := ∃ (oc : Int) (a : ByteArray) (st c : Nat), r = rcC oc a st c ∧ -1 ≤ oc ∧ oc ≤ 5 ∧ (a = tT0 ∨ a = tP0 ∨ a = ⟨#[]⟩) ∧ st < 3 ∧ c < 7
/-- a result as the generators make it -/
def ResOk (r : RC0) : Prop := ∃ (oc : Int) (a : ByteArray) (st c : Nat), r = rcC oc a st c ∧ 0 ≤ oc ∧ oc ≤ 4 ∧ (a = tT0 ∨ a = tP0 ∨ a = ⟨#[]⟩) ∧ st < 3 ∧ c < 7
theorem ResA.one {r : RC0} (h : ResA r) : ∀ v ∈ cellsR r, v.oneCell' = true := by
 obtain ⟨oc, a, st, c, rfl, _⟩ := h; exact rcC_one
theorem ResOk.one {r : RC0} (h : ResOk r) : ∀ v ∈ cellsR r, v.oneCell' = true := by
 obtain ⟨oc, a, st, c, rfl, _⟩ := h; exact rcC_one
def placesA : Array Value := #[.string ⟨#[116, 48]⟩, .string ⟨#[112, 48]⟩, .string ⟨#[]⟩]
theorem places_at {i : Nat} (h : i < 3) : ∃ t, placesA[i]? = some (.string t) ∧ (t = tT0 ∨ t = tP0 ∨ t = ⟨#[]⟩) := by
 rcases i with _ | _ | _ | i
 ·exact ⟨_, rfl, .inl rfl⟩
 ·exact ⟨_, rfl, .inr (.inl rfl)⟩
 ·exact ⟨_, rfl, .inr (.inr rfl)⟩
 ·omega
def namesA : Array Value := #[.string ⟨#[116, 48]⟩, .string ⟨#[116, 49]⟩, .string ⟨#[117]⟩]
theorem names_at {i : Nat} (h : i < 3) : ∃ t, namesA[i]? = some (.string t) ∧ (t = tT0 ∨ t = tT1 ∨ t = ⟨#[117]⟩) := by
 rcases i with _ | _ | _ | i
 ·exact ⟨_, rfl, .inl rfl⟩
 ·exact ⟨_, rfl, .inr (.inl rfl)⟩
 ·exact ⟨_, rfl, .inr (.inr rfl)⟩
 ·omega
set_option maxRecDepth 100000 in
set_option maxHeartbeats 1000000 in
theorem result_n (n : Int) (w : World) (h1 : -9223372036854775808 ≤ n) (h2 : n ≤ 9223372036854775807) :
  Calls Try.prog 63 #[.int .i64 n] w fun e w' => ∃ r, e = .returned (.agg (cellsR r).toArray) ∧ ResA r ∧ Below w.heap.size w w' := by
 go_enter Try.func63, Try.ntmps63
 go_upto_region 1 with fail; refine wp_name ?_; intro w1 HW1; have hb1 : Below w.heap.size w w1 := by rw [HW1.out]; exact bA _ _
 have B2 : Blk w1 w.heap.size 64 (cellsR (rcC 0 ⟨#[]⟩ 0 0)).toArray := by rw [HW1.out]; exact Blk.new _ _ _
 clear HW1; go_wp2_with fail; refine (around_n n 4096 _ h1 h2 (by omega) (by omega)).mono ?_; rintro e w' ⟨x, rfl, hx, _, rfl⟩; go_upto_region 2 with fail; obtain ⟨m7, h7m⟩ : ∃ z : Nat, z = x % 7 := ⟨_, rfl⟩; obtain ⟨q7, h7q⟩ : ∃ z : Nat, z = x / 7 := ⟨_, rfl⟩; obtain ⟨t7, h7t⟩ : ∃ z : Nat, z = q7 % 3 := ⟨_, rfl⟩; obtain ⟨q21, h21q⟩ : ∃ z : Nat, z = x / 21 := ⟨_, rfl⟩; obtain ⟨t21, h21t⟩ : ∃ z : Nat, z = q21 % 3 := ⟨_, rfl⟩; have s0 : (x : Int).tmod 7 = (m7 : Int) := by rw [h7m]; rfl
 have s1 : IntKind.i64.wrap ((x : Int) / 7) = (q7 : Int) := by rw [IntWalk.i64_in _ (by omega), h7q]; rfl
 have s2 : IntKind.i64.wrap ((x : Int) / 21) = (q21 : Int) := by rw [IntWalk.i64_in _ (by omega), h21q]; rfl
 have s3 : (q7 : Int).tmod 3 = (t7 : Int) := by rw [h7t]; rfl
 have s4 : (q21 : Int).tmod 3 = (t21 : Int) := by rw [h21t]; rfl
 have s5 : IntKind.i64.wrap ((m7 : Int) - 1) = (m7 : Int) - 1 := by rw [IntWalk.i64_in _ (by omega)]
 have l1 : m7 < 7 := by omega
 have l2 : t7 < 3 := by omega
 have l3 : t21 < 3 := by omega
 have l2i : (t7 : Int) < 3 := by omega
 clear h7m h7q h7t h21q h21t h1 h2; obtain ⟨a, ha, hA⟩ := places_at l2; have HT := Lib.hid ha; clear ha; have q := (Blk.new w1 9 placesA).cell t7; rw [HT.out] at q; unfold placesA at q; obtain ⟨w2, hw2⟩ : ∃ w', Hid (w' = (w1.alloc (.cells #[.string ⟨#[116, 48]⟩, .string ⟨#[112, 48]⟩, .string ⟨#[]⟩] 9)).setCells w.heap.size 0 (cellsR (rcC ((m7 : Int) - 1) a (t21 : Nat) 0))) := ⟨_, rfl⟩; have BJ := Blk.below B2 (bA w1 (.cells #[.string ⟨#[116, 48]⟩, .string ⟨#[112, 48]⟩, .string ⟨#[]⟩] 9)) B2.lt; have BI : Blk w2 w.heap.size 64 (cellsR (rcC ((m7 : Int) - 1) a (t21 : Nat) 0)).toArray := by rw [hw2.out]; exact Blk.setAll BJ rfl
 have hb2 : Below w.heap.size w w2 := by rw [hw2.out]; exact below_setAll (Nat.le_refl _) _ _ (Below.tr hb1 (bA _ _))
 go_wp2_with (first | (refine wpList_buildV rfl 64 [(0, .tmp 8), (1, .tmp 14), (2, .tmp 17)] rfl (cellsR (rcC ((m7 : Int) - 1) a (t21 : Nat) 0)).toArray [(0, .int .i64 ((m7 : Int) - 1)), (1, .string a), (2, .int .i64 (t21 : Nat))] rfl built_res ?_) | (refine wpList_store_mid rfl 64 (.tmp 2) (.tmp 18) rfl w.heap.size 0 (cellsR (rcC ((m7 : Int) - 1) a (t21 : Nat) 0)).toArray rfl rfl (Blk.there BJ rfl) infoR22 (all_oneCell_toArray rcC_one) ?_; rw [List.toList_toArray, ← hw2.out]))
 exact bodyPost_ret (results_cell_row rfl _ _ w.heap.size 64 _ (0, 0) _ rfl BI Try.underlying64 rfl infoR22) rfl ⟨_, rfl, ⟨_, a, t21, 0, rfl, by omega, by omega, hA, l3, by omega⟩, hb2⟩
theorem info_str : (Try.prog.info? 9).map (fun i => (i.zero, i.size, i.bytes)) = some (some (.string ⟨#[]⟩), 1, 16) := by kernel_rfl
set_option maxRecDepth 100000 in
set_option maxHeartbeats 2000000 in
theorem tests_n (Ap : Option Addr) (kp cp : Nat) (ps : List PC) (A : Option Addr) (k c : Nat) (l : List Int) (w : World) (hp : RowS cellsP w Ap kp ps) (HP : Hid (∀ p ∈ ps, PromOk p)) (hkp : kp ≤ 4096) (hl : RowL intC w A k l) (HL : Hid (∀ x ∈ l, -9223372036854775808 ≤ x ∧ x ≤ 9223372036854775807)) :
  Calls Try.prog 21 #[.slice Ap kp cp, .slice A k c] w fun e w' => ∃ (names : List ByteArray) (rs : List RC0) (kn : Nat) (An : Option Addr) (cn : Nat) (Ar : Option Addr) (cr : Nat), e = .returned (.tuple #[.slice An kn cn, .slice Ar kn cr]) ∧ w'.ownsRow w.heap.size 9 1 (.slice An kn cn) kn (names.flatMap strC) ∧ w'.ownsRow w.heap.size 64 22 (.slice Ar kn cr) kn (rs.flatMap cellsR) ∧ kn ≤ 8 ∧ Hid (∀ r ∈ rs, ResOk r) ∧ Hid (∀ s ∈ names, s = tT0 ∨ s = tT1 ∨ s = ⟨#[117]⟩) ∧ Below w.heap.size w w' := by
 obtain ⟨i0, hi0, hz0, hz1, hz2⟩ := info_parts info_resR; obtain ⟨j0, hj0, hy0, hy1, hy2⟩ := info_parts info_str; have hk63 := hl.2.2
 go_enter Try.func21, Try.ntmps21
 go_wp2_with fail
 go_loopg [6, 7, 8] 9 (fun j u v x wr => ∃ (i : Nat) (names : List ByteArray) (rs : List RC0), x = .int .i64 i ∧ i + j = 9 ∧ i ≤ 8 ∧ wr.ownsRow w.heap.size 9 1 u i (names.flatMap strC) ∧ names.length = i ∧ wr.ownsRow w.heap.size 64 22 v i (rs.flatMap cellsR) ∧ rs.length = i ∧ Apt u v ∧ Hid (∀ r ∈ rs, ResOk r) ∧ Hid (∀ s ∈ names, s = tT0 ∨ s = tT1 ∨ s = ⟨#[117]⟩) ∧ Below w.heap.size w wr)
 case atStart => exact ⟨0, [], [], rfl, rfl, by omega, World.ownsRow_nil _ _ _ _, rfl, World.ownsRow_nil _ _ _ _, rfl, fun g h => (by cases h), fun r h => by simp at h, fun r h => by simp at h, Below.refl _ _⟩
 case round =>
  obtain ⟨G, hG⟩ : ∃ G, G = gk := ⟨gk, rfl⟩; subst hG; obtain ⟨i, names, rs, rfl, hij, hi8, hon, hnl, hor, hrl, hap, HRS, HNS, hbe⟩ := hrel; have hl1 := hl.below hbe; have hp1 := hp.below hbe; obtain ⟨An, cn, rfl⟩ := own_shp hon; obtain ⟨Ar, cr, rfl⟩ := own_shp hor; by_cases hc : i < k ∧ i < 8
  ·have t1 : decide ((i : Int) < (k : Int)) = true := by simp; omega
   have t2 : decide ((i : Int) < 8) = true := by simp; omega
   have hik := hc.1; have hi7 : i + 1 ≤ 8 := by omega
   obtain ⟨b, off, x, rfl, hcell, HX⟩ := hl1.int hik; have hx := HL.out x (List.mem_of_getElem? HX.out); clear hc; go_wp2_with fail; refine (around_n x 4096 _ hx.1 hx.2 (by omega) (by omega)).mono ?_; rintro e w' ⟨n, rfl, hn, _, rfl⟩; obtain ⟨m3, h3m⟩ : ∃ z : Nat, z = n % 3 := ⟨_, rfl⟩; obtain ⟨q3, h3q⟩ : ∃ z : Nat, z = n / 3 := ⟨_, rfl⟩; have s0 : (n : Int).tmod 3 = (m3 : Int) := by rw [h3m]; rfl
   have s1 : IntKind.i64.wrap ((n : Int) / 3) = (q3 : Int) := by rw [IntWalk.i64_in _ (by omega), h3q]; rfl
   have l1 : m3 < 3 := by omega
   have l1i : (m3 : Int) < 3 := by omega
   have l2 : q3 < 4096 := by omega
   obtain ⟨nm, hnm, hNM⟩ := names_at l1; have q := (Blk.new wr 9 namesA).cell m3; rw [hnm] at q; unfold namesA at q; clear h3m h3q hnm hcell; go_upto_region 8 with fail; refine wp_name ?_; intro w8 HW8; have hb8 : Below wr.heap.size wr w8 := by rw [HW8.out]; exact bA _ _
   clear HW8 q s0 l1 l1i; go_wp2_with fail; refine (result_n (q3 : Int) _ (by omega) (by omega)).mono ?_; rintro e w9 ⟨r, rfl, hrA, hb9⟩; have hone := hrA.one
   go_upto_region 9 with (first | (refine wpList_store_mid rfl 64 (.tmp 11) (.tmp 35) rfl w9.heap.size 0 (cellsR r).toArray rfl rfl (there_new _ _ _ 22 (by simp)) infoR22 (all_oneCell_toArray hone) ?_; rw [setCells_new]; rotate_left; rfl))
   refine wp_name ?_; intro w10 HW10; have hb10' : Below w9.heap.size w9 w10 := by rw [HW10.out]; exact bA _ _
   have B11 : Blk w10 w9.heap.size 64 (cellsR r).toArray := by rw [HW10.out]; exact Blk.new _ _ _
   have hbr10 := Below.tr (Below.tr hb8 hb9) hb10'; have hg9 : wr.heap.size ≤ w9.heap.size := (Below.tr hb8 hb9).size; clear HW10 hb10' hb9 hb8 s1 hone; obtain ⟨wa, hwa⟩ : ∃ wa, wa = w10 := ⟨_, rfl⟩; subst hwa; simp only [Act.put]; obtain ⟨m4, h4m⟩ : ∃ z : Nat, z = n % 4 := ⟨_, rfl⟩
   go_cut [43] from 13 to 81 (fun t wx => t = .bool (decide (0 < kp ∧ 0 < m4)) ∧ wx = wa)
   case first => as_aux_lemma =>
    clear hon hor hap hl1 B11 hbr10 hrA; have s0 : (n : Int).tmod 4 = (m4 : Int) := by rw [h4m]; rfl
    clear h4m; by_cases h1 : 0 < kp
    ·have t3 : decide ((kp : Int) > 0) = true := by simp; omega
     by_cases h2 : 0 < m4
     ·have t4 : decide ((m4 : Int) > 0) = true := by simp; omega
      have e : decide (0 < kp ∧ 0 < m4) = true := by simp; omega
      go_wp2_with fail
      go_meet
      case rel => exact ⟨by rw [e], rfl⟩
     ·have t4 : m4 = 0 := by omega
      have e : decide (0 < kp ∧ 0 < m4) = false := by simp; omega
      subst t4; go_wp2_with fail
      go_meet
      case rel => exact ⟨by rw [e], rfl⟩
    ·have t3 : kp = 0 := by omega
     have e : decide (0 < kp ∧ 0 < m4) = false := by simp; omega
     subst t3; go_wp2_with fail
     go_meet
     case rel => exact ⟨by rw [e], rfl⟩
   obtain ⟨rfl, hx⟩ := hcut; obtain rfl := hx.symm; obtain ⟨cb, hcb⟩ : ∃ cb, Hid (cb = decide (0 < kp ∧ 0 < m4)) := ⟨_, rfl⟩; rw [← hcb.out]
   go_upto_if 43 with fail
   go_cut [10, 12] from 13 to 81 (fun t p wx => ∃ (s : ByteArray) (r : RC0), t = .string s ∧ (s = tT0 ∨ s = tT1 ∨ s = ⟨#[117]⟩) ∧ ResA r ∧ Blk wx w9.heap.size 64 (cellsR r).toArray ∧ Below wr.heap.size wr wx)
   case first => as_aux_lemma =>
    clear hon hor hap hl1; have s0 : (n : Int).tmod 4 = (m4 : Int) := by rw [h4m]; rfl
    by_cases h0 : 0 < kp ∧ 0 < m4
    ·obtain rfl : cb = true := hcb.out.trans (by simpa using h0); have hcb := 0; obtain ⟨q12, h12q⟩ : ∃ z : Nat, z = n / 12 := ⟨_, rfl⟩; obtain ⟨ix, hix⟩ : ∃ z : Nat, z = q12 % kp := ⟨_, rfl⟩; obtain ⟨m7, h7m⟩ : ∃ z : Nat, z = n % 7 := ⟨_, rfl⟩; have s1 : IntKind.i64.wrap ((n : Int) / 12) = (q12 : Int) := by rw [IntWalk.i64_in _ (by omega), h12q]; rfl
     have s2 : (q12 : Int).tmod (kp : Int) = (ix : Int) := by rw [hix]; rfl
     have s3 : (n : Int).tmod 7 = (m7 : Int) := by rw [h7m]; rfl
     have s4 : IntKind.i64.wrap (1 + (m4 : Int)) = 1 + (m4 : Int) := by rw [IntWalk.i64_in _ (by omega)]
     have l1 : ix < kp := by rw [hix]; exact Nat.mod_lt _ h0.1
     have l1i : (ix : Int) < (kp : Int) := by omega
     have l2 : m7 < 7 := by omega
     have l3 : m4 < 4 := by omega
     have hkp0 : ¬ kp = 0 := by omega
     clear h7m h12q hix h4m; obtain ⟨bp, op, rfl, HC⟩ := (hp1.below hbr10).at_ cellsP_len (by omega) l1 (by have := hp1.2.1; omega); have l4 : ix < ps.length := by have := hp1.2.1; omega
     have hok := HP.out _ (List.getElem_mem l4); generalize ps[ix] = p at HC hok; obtain ⟨team, tn, wh, site, fr, un, d, A1, k1, c1, A2, k2, c2, rfl, _, hT, hH, hsite, _⟩ := hok; have hone : ∀ v ∈ cellsP (promV (team : Nat) tn wh (site : Nat) (.slice A1 k1 c1) (.slice A2 k2 c2) (fr : Nat) (un : Nat) (d : Nat)), v.oneCell' = true := promV_one
     go_upto_region 11 with (first | (refine wpList_load_mid rfl 53 (.tmp 50) rfl bp (op + ix * 24) rfl (cellsP (promV (team : Nat) tn wh (site : Nat) (.slice A1 k1 c1) (.slice A2 k2 c2) (fr : Nat) (un : Nat) (d : Nat))) _ (fun j v h => HC.out j v h) Try.underlying53 rfl (infoP (p := (promV (team : Nat) tn wh (site : Nat) (.slice A1 k1 c1) (.slice A2 k2 c2) (fr : Nat) (un : Nat) (d : Nat)))) ?_; simp only [Act.put, sA, sB, sC]) | (refine wpList_store_mid rfl 53 (.tmp 12) (.tmp 51) rfl wa.heap.size 0 (cellsP (promV (team : Nat) tn wh (site : Nat) (.slice A1 k1 c1) (.slice A2 k2 c2) (fr : Nat) (un : Nat) (d : Nat))).toArray rfl rfl (there_new _ _ _ 24 (by simp)) infoP24 (all_oneCell_toArray hone) ?_; rw [setCells_new]; rotate_left; rfl))
     refine wp_name ?_; intro wb HWb; have hbb' : Below wa.heap.size wa wb := by rw [HWb.out]; exact bA _ _
     have B12 : Blk wb wa.heap.size 53 (cellsP (promV (team : Nat) tn wh (site : Nat) (.slice A1 k1 c1) (.slice A2 k2 c2) (fr : Nat) (un : Nat) (d : Nat))).toArray := by rw [HWb.out]; exact Blk.new _ _ _
     have B11 := Blk.below B11 hbb' B11.lt; have hbrb := Below.tr hbr10 hbb'; have q1 := B12.cell 1; have q2 := B12.cell 2; have q3 := B12.cell 3; simp only [cellsP, promV, List.getElem?_toArray, List.getElem?_cons_zero, List.getElem?_cons_succ] at q1 q2 q3; clear HWb hbb' HC hone hbr10; obtain ⟨wd, hwd⟩ : ∃ w', Hid (w' = wb.setCells w9.heap.size 0 (cellsR (rcC (1 + (m4 : Int)) wh (site : Nat) (m7 : Nat)))) := ⟨_, rfl⟩; have BF : Blk wd w9.heap.size 64 (cellsR (rcC (1 + (m4 : Int)) wh (site : Nat) (m7 : Nat))).toArray := by rw [hwd.out]; exact Blk.setAll B11 rfl
     have hbd : Below wr.heap.size wr wd := by rw [hwd.out]; exact below_setAll hg9 _ _ hbrb
     go_wp2_with (first | (refine wpList_buildV rfl 62 [(0, .tmp 62)] rfl #[.int .i64 (m7 : Nat), .int .i64 0, .int .i64 0] [(0, .int .i64 (m7 : Nat))] rfl built_cost ?_; simp only [Act.put, sA, sB, sC]) | (refine wpList_buildV rfl 64 [(0, .tmp 56), (1, .tmp 58), (2, .tmp 60), (3, .tmp 63)] rfl (cellsR (rcC (1 + (m4 : Int)) wh (site : Nat) (m7 : Nat))).toArray [(0, .int .i64 (1 + (m4 : Int))), (1, .string wh), (2, .int .i64 (site : Nat)), (3, .agg #[.int .i64 (m7 : Nat), .int .i64 0, .int .i64 0])] rfl built_res4 ?_; simp only [Act.put, sA, sB, sC]) | ((refine wpList_store_mid rfl 64 (.tmp 11) (.tmp 64) rfl w9.heap.size 0 (cellsR (rcC (1 + (m4 : Int)) wh (site : Nat) (m7 : Nat))).toArray rfl rfl (Blk.there B11 rfl) infoR22 (all_oneCell_toArray rcC_one) ?_); rw [List.toList_toArray, ← hwd.out]))
     go_meet
     case rel => exact ⟨tn, (rcC (1 + (m4 : Int)) wh (site : Nat) (m7 : Nat)), rfl, hT, ⟨_, wh, site, m7, rfl, by omega, by omega, hH, by omega, l2⟩, BF, hbd⟩
    ·obtain rfl : cb = false := hcb.out.trans (by simpa using h0); go_wp2_with fail
     go_meet
     case rel => exact ⟨nm, r, rfl, hNM, hrA, B11, hbr10⟩
   obtain ⟨s, r2, rfl, hS2, hr2, B2, hb2⟩ := hcut; clear B11 hbr10 hrA hNM hcb; obtain ⟨oc, pl, st, cc, rfl, o1, o2, hA, hst, hcc⟩ := hr2; go_upto_region 13 with fail; obtain ⟨we, hwe⟩ : ∃ we, we = wc := ⟨_, rfl⟩; subst hwe
   go_cut [72] from 13 to 81 (fun t wx => t = .bool (decide (oc < 0 ∨ 4 < oc)) ∧ wx = we)
   case first => as_aux_lemma =>
    have q0 := B2.cell 0; simp only [cellsR, rcC, List.getElem?_toArray, List.getElem?_cons_zero] at q0; clear hon hor hap hl1 B2 hb2; by_cases h1 : oc < 0
    ·have t3 : decide (oc < 0) = true := by simpa using h1
     have e : decide (oc < 0 ∨ 4 < oc) = true := by simp; omega
     go_wp2_with fail
     go_meet
     case rel => exact ⟨by rw [e], rfl⟩
    ·have t3 : decide (oc < 0) = false := by simpa using h1
     by_cases h2 : 4 < oc
     ·have t4 : decide (oc > 4) = true := by simpa using h2
      have e : decide (oc < 0 ∨ 4 < oc) = true := by simp; omega
      go_wp2_with fail
      go_meet
      case rel => exact ⟨by rw [e], rfl⟩
     ·have t4 : decide (oc > 4) = false := by simpa using h2
      have e : decide (oc < 0 ∨ 4 < oc) = false := by simp; omega
      go_wp2_with fail
      go_meet
      case rel => exact ⟨by rw [e], rfl⟩
   obtain ⟨rfl, hx⟩ := hcut; obtain rfl := hx.symm; obtain ⟨cb, hcb⟩ : ∃ cb, Hid (cb = decide (oc < 0 ∨ 4 < oc)) := ⟨_, rfl⟩; rw [← hcb.out]
   go_upto_if 72 with fail
   go_cut [12] from 13 to 81 (fun p wx => ∃ r : RC0, ResOk r ∧ Blk wx w9.heap.size 64 (cellsR r).toArray ∧ Below wr.heap.size wr wx)
   case first => as_aux_lemma =>
    clear hon hor hap hl1; by_cases h0 : oc < 0 ∨ 4 < oc
    ·obtain rfl : cb = true := hcb.out.trans (by simpa using h0); have q0 := B2.cell 0; have z0 := B2.frozen 0; simp only [cellsR, rcC, List.getElem?_toArray, List.getElem?_cons_zero] at q0; obtain ⟨wd, hwd⟩ : ∃ w', Hid (w' = we.setCell ⟨w9.heap.size, 0, none⟩ (.int .i64 0)) := ⟨_, rfl⟩; have BF : Blk wd w9.heap.size 64 (cellsR (rcC 0 pl st cc)).toArray := by rw [hwd.out]; exact B2.set_ 0 (.int .i64 0)
     have hbd : Below wr.heap.size wr wd := by rw [hwd.out]; exact hb2.setCell (p := ⟨w9.heap.size, 0, none⟩) hg9 _
     go_wp2_with fail; rw [← hwd.out]
     go_meet
     case rel => exact ⟨_, ⟨0, pl, st, cc, rfl, by omega, by omega, hA, hst, hcc⟩, BF, hbd⟩
    ·obtain rfl : cb = false := hcb.out.trans (by simpa using h0); go_wp2_with fail
     go_meet
     case rel => exact ⟨_, ⟨oc, pl, st, cc, rfl, by omega, by omega, hA, hst, hcc⟩, B2, hb2⟩
   obtain ⟨r, hrk, B3, hb3⟩ := hcut; clear B2 hb2 hA hst hcc hcb o1 o2 hl1; obtain ⟨wf, hwf⟩ : ∃ wf, wf = wc := ⟨_, rfl⟩; subst hwf; have hb4 := hb3.trans ((bA wf (.cells #[.string s] 9)).mono hb3.size); have hon4 := own_below hon hb4; have hor4 := own_below hor hb4; have hbe4 := Below.tr hbe hb4; have hsz4 := hbe4.size; have hrd := Rd.fresh wf 9 (strC s); have B4 := Blk.below B3 (bA wf (.cells #[.string s] 9)) B3.lt; have hne : ∀ j, (Value.slice An i cn).ownBlock = some j → w9.heap.size ≠ j := fun j hj e => by have := ownsRow_lt hon j hj; omega
   clear hb3 hb4 B3
   go_upto_region 16 with (first | (at_builtin; go_loud (refine wpList_append_any _ rfl (.tmp 74) (.tmp 76) _ rfl w.heap.size 9 j0 _ 1 16 Try.underlying40 hj0 hy0 hy1 hy2 rfl (by omega) _ i _ rfl hon4 _ 1 1 (strC s) rfl rfl hrd (by simp [strC, Value.oneCell']) (by simp only [maxLen]; omega) (by omega) hsz4 ?_); intro v1 x1 hon5 hg5 hat5))
   have hor5 := own_other hor4 hg5 hap; have hap5 := Apt.step hor4 hap hat5; have B5 := B4.grown hg5 hne; have hbe5 := hbe4.grown hg5 hsz4 (own_block_ge hon4); clear hon4 hor4 hat5 hg5 hbe4 hsz4 hrd B4 hne hon hor hap; have hb6 := bA x1 (.cells (rowE [r]) 64); have hon6 := own_below hon5 hb6; have hor6 := own_below hor5 hb6; have hbe6 := Below.tr hbe5 hb6; have hsz6 := hbe6.size; have hone := hrk.one
   go_wp2_with (first | (refine wpList_load_mid rfl 64 (.tmp 11) rfl w9.heap.size 0 rfl (cellsR r) _ (Blk.range B5) Try.underlying64 rfl (infoR (r := r)) ?_; simp only [Act.put, sA, sB, sC]) | (refine wpList_sliceN rfl 41 64 1 [(0, .tmp 79)] rfl (rowE [r]) i0 zeroR 22 [(0, .agg (cellsR r).toArray)] Try.underlying41 hi0 hz0 hz1 (by omega) (by omega) rfl (fill_res1 r) ?_; simp only [Act.put, sA, sB, sC]) | (at_builtin; go_loud (refine wpList_append_any _ rfl (.tmp 78) (.tmp 80) _ rfl w.heap.size 64 i0 zeroR 22 72 Try.underlying41 hi0 hz0 hz1 hz2 zeroR_size (by omega) _ i _ rfl hor6 (some ⟨x1.heap.size, 0, none⟩) 1 1 (cellsR r) rfl rfl ((rowE_rows x1 [r] 1 rfl (by omega)).1) hone (by simp only [maxLen]; omega) (by omega) hsz6 ?_); intro v2 x2 hor7 hg7 hat7))
   have hon7 := own_other hon6 hg7 hap5.symm; have hap7 := (Apt.step hon6 hap5.symm hat7).symm; have hbe7 := hbe6.grown hg7 hsz6 (own_block_ge hor6); have hor8 : x2.ownsRow w.heap.size 64 22 v2 (i + 1) ((rs ++ [r]).flatMap cellsR) := by rw [List.flatMap_append]; simpa using hor7
   have hon8 : x2.ownsRow w.heap.size 9 1 v1 (i + 1) ((names ++ [s]).flatMap strC) := by rw [List.flatMap_append]; simpa using hon7
   have HRS8 : Hid (∀ y ∈ rs ++ [r], ResOk y) := by
    intro y hy
    rcases List.mem_append.1 hy with h | h
    ·exact HRS.out y h
    ·rw [List.mem_singleton.1 h]; exact hrk
   have HNS8 : Hid (∀ y ∈ names ++ [s], y = tT0 ∨ y = tT1 ∨ y = ⟨#[117]⟩) := by
    intro y hy
    rcases List.mem_append.1 hy with h | h
    ·exact HNS.out y h
    ·rw [List.mem_singleton.1 h]; exact hS2
   clear hon6 hor6 hor7 hon7 hat7 hg7 hbe6 hbe5 hsz6 hon5 hor5 hap5 B5 hb6 hS2 hrk HRS HNS; go_wp2_with fail
   go_roundg (G - 1)
   case measure => omega
   case rel => exact ⟨i + 1, names ++ [s], rs ++ [r], by go_num, by omega, by omega, hon8, by simp [hnl], hor8, by simp [hrl], hap7, HRS8, HNS8, hbe7⟩
  ·clear hl1 hp1; by_cases h1 : i < k
   ·have t1 : decide ((i : Int) < (k : Int)) = true := by simp; omega
    have t2 : decide ((i : Int) < 8) = false := by simp; omega
    clear hc; go_wp2_with fail
    go_ret2
    exact ⟨names, rs, i, _, _, _, _, rfl, hon, hor, hi8, HRS, HNS, hbe⟩
   ·have t1 : decide ((i : Int) < (k : Int)) = false := by simp; omega
    clear hc; go_wp2_with fail
    go_ret2
    exact ⟨names, rs, i, _, _, _, _, rfl, hon, hor, hi8, HRS, HNS, hbe⟩
end Go.Proofs.Yticobffjnjbjiaa
namespace Go.Proofs.Yticobffjnjbjiaa
open Go Go.RowKit
theorem info_slR : (Try.prog.info? 41).map (fun i => (i.zero, i.size, i.bytes)) = some (some (.slice none 0 0), 1, 24) := by kernel_rfl
theorem ResOk.pass : ResOk rPass := ⟨0, ⟨#[]⟩, 0, 0, rfl, by omega, by omega, .inr (.inr rfl), by omega, by omega⟩
/-- a slice's cells -/
def IsSlc (v : Value) : Prop := ∃ A k c, v = .slice A k c
/-- a row of results that are so -/
def TrOk (w : World) (s : SLR) : Prop := RowS cellsR w s.A s.k s.rs ∧ s.k ≤ 5 ∧ ∀ x ∈ s.rs, ResOk x
theorem TrOk.below {w w' : World} {s : SLR} (h : TrOk w s) (hb : Below w.heap.size w w') : TrOk w' s := ⟨h.1.below hb, h.2⟩
theorem TrOk.grownBy {w w' : World} {s : SLR} {a : Value} (h : TrOk w s) (kk : w.grownBy w' a.ownBlock) (hO : OwnAll IsSlc w a) : TrOk w' s := by
 refine ⟨⟨fun hx => ?_, h.1.2⟩, h.2⟩; obtain ⟨b, off, e, hc⟩ := h.1.1 hx; refine ⟨b, off, e, fun i hi => World.grownBy.cell kk (hc i hi) fun e2 => ?_⟩; have h0 := hc 0 (List.length_pos_iff.2 hx); obtain ⟨A, k, c, rs⟩ := s
 rcases rs with _ | ⟨r, rs⟩
 ·exact absurd rfl hx
 ·obtain ⟨_, _, _, h1⟩ := hO b e2.symm _ _ h0
  cases h1
theorem slC_sl (s : SLR) : ∀ x ∈ slC s, IsSlc x := by
 intro x hx; simp only [slC, List.mem_singleton] at hx; exact ⟨_, _, _, hx⟩
set_option maxRecDepth 100000 in
set_option maxHeartbeats 4000000 in
theorem tries_n (T S : Option Addr) (kt ct cs : Nat) (rs : List RC0) (A : Option Addr) (k c : Nat) (l : List Int) (w : World) (hs : RowS cellsR w S kt rs) (HRS : Hid (∀ r ∈ rs, ResOk r)) (hk8 : kt ≤ 8) (hl : RowL intC w A k l) (HL : Hid (∀ x ∈ l, -9223372036854775808 ≤ x ∧ x ≤ 9223372036854775807)) :
  Calls Try.prog 22 #[.slice T kt ct, .slice S kt cs, .slice A k c] w fun e w' => ∃ V cv rows, e = .returned (.slice V kt cv) ∧ RowS slC w' V kt rows ∧ Hid (∀ s ∈ rows, TrOk w' s) ∧ Below w.heap.size w w' := by
 obtain ⟨i0, hi0, hz0, hz1, hz2⟩ := info_parts info_resR; obtain ⟨j0, hj0, hy0, hy1, hy2⟩ := info_parts info_slR
 go_enter Try.func22, Try.ntmps22
 go_wp2_with fail
 go_loopg [7, 8] kt (fun j u x wr => ∃ (i : Nat) (rows : List SLR), x = .int .i64 i ∧ i + j = kt ∧ rows.length = i ∧ wr.ownsRow w.heap.size 41 1 u i (rows.flatMap slC) ∧ OwnAll IsSlc wr u ∧ Hid (∀ s ∈ rows, TrOk wr s) ∧ Below w.heap.size w wr)
 case atStart => exact ⟨0, [], rfl, by omega, rfl, World.ownsRow_nil _ _ _ _, OwnAll.nil, fun s h => absurd h List.not_mem_nil, Below.refl _ _⟩
 case round =>
  obtain ⟨G, hG⟩ : ∃ G, G = gk := ⟨gk, rfl⟩; subst hG; obtain ⟨i, rows, rfl, hij, hrl, hown, hOA, HT, hbe⟩ := hrel; obtain ⟨Ao, co, rfl⟩ := own_shp hown; have hlb := hl.below hbe; have hsb := hs.below hbe; by_cases hi : i < kt
  ·have t1 : decide ((i : Int) < (kt : Int)) = true := by simp; omega
   have hil : i < rs.length := by have := hs.2.1; omega
   go_wp2_with fail; refine (at_n A k c l (i : Int) 4096 _ hlb HL (by omega) (by omega)).mono ?_; rintro e w' ⟨n, rfl, hn, rfl⟩; obtain ⟨n6, h6⟩ : ∃ z : Nat, z = n % 6 := ⟨_, rfl⟩; have s0 : (n : Int).tmod 6 = (n6 : Int) := by rw [h6]; rfl
   have l6 : n6 ≤ 5 := by omega
   clear h6 hlb; go_wp2_with fail
   go_loopg [10, 11] n6 (fun j v x wx => ∃ (m : Nat) (xs : List RC0), x = .int .i64 m ∧ m + j = n6 ∧ xs.length = m ∧ wx.ownsRow wr.heap.size 64 22 v m (xs.flatMap cellsR) ∧ Hid (∀ y ∈ xs, ResOk y) ∧ Below wr.heap.size wr wx)
   case atStart => exact ⟨0, [], rfl, by omega, rfl, World.ownsRow_nil _ _ _ _, fun s h => absurd h List.not_mem_nil, Below.refl _ _⟩
   case round =>
    obtain ⟨G2, hG2⟩ : ∃ G, G = gk := ⟨gk, rfl⟩; subst hG2; obtain ⟨m, xs, rfl, hmj, hxl, hox, HX, hbx⟩ := hrel; obtain ⟨Ax, cx, rfl⟩ := own_shp hox
    rename World => wx
    by_cases hm : m < n6
    ·have t2 : decide ((m : Int) < (n6 : Int)) = true := by simp; omega
     obtain ⟨b, off, rfl, HC⟩ := (hsb.below hbx).at_ cellsR_len (by omega) hi hil; have hr0 := HRS.out _ (List.getElem_mem hil); generalize rs[i] = r at HC hr0; have hone := hr0.one
     go_upto_region 11 with (first | (refine wpList_load_mid rfl 64 (.tmp 30) rfl b (off + i * 22) rfl (cellsR r) _ (fun j v h => HC.out j v h) Try.underlying64 rfl (infoR (r := r)) ?_; simp only [Act.put, sA, sB, sC]) | (refine wpList_store_mid rfl 64 (.tmp 12) (.tmp 31) rfl wx.heap.size 0 (cellsR r).toArray rfl rfl (there_new _ _ _ 22 (by simp)) infoR22 (all_oneCell_toArray hone) ?_; rw [setCells_new]; rotate_left; rfl))
     refine wp_name ?_; intro wa HWa; have hba : Below wx.heap.size wx wa := by rw [HWa.out]; exact bA _ _
     have BA : Blk wa wx.heap.size 64 (cellsR r).toArray := by rw [HWa.out]; exact Blk.new _ _ _
     clear HWa HC hone; simp only [Act.put]; have hg : wr.heap.size ≤ wx.heap.size := hbx.size
     go_cut [37] from 22 to 56 (fun t wz => (∃ cb, t = .bool cb) ∧ wz = wa)
     case first => as_aux_lemma =>
      clear hown hOA HT hox HX BA; go_wp2_with fail
      go_meet
      case rel => exact ⟨⟨_, rfl⟩, rfl⟩
     obtain ⟨⟨cb, rfl⟩, hx⟩ := hcut; obtain rfl := hx.symm
     go_upto_if 37 with fail
     go_cut [12] from 22 to 56 (fun p wz => p = .pointer (some ⟨wx.heap.size, 0, none⟩) ∧ ∃ r, ResOk r ∧ Blk wz wx.heap.size 64 (cellsR r).toArray ∧ Below wx.heap.size wx wz)
     case first => as_aux_lemma =>
      cases cb
      ·go_wp2_with fail
       go_meet
       case rel => exact ⟨rfl, r, hr0, BA, hba⟩
      ·obtain ⟨wd, hwd⟩ : ∃ w', Hid (w' = wa.setCells wx.heap.size 0 (cellsR rPass)) := ⟨_, rfl⟩; have BF : Blk wd wx.heap.size 64 (cellsR rPass).toArray := by rw [hwd.out]; exact Blk.setAll BA rfl
       have hbd : Below wx.heap.size wx wd := by rw [hwd.out]; exact below_setAll (Nat.le_refl _) _ _ hba
       clear hown hOA HT hox HX
       go_wp2_with (first | (refine wpList_buildV rfl 64 [] rfl (cellsR rPass).toArray [] rfl built_pass ?_; simp only [Act.put, sA, sB, sC]) | ((refine wpList_store_mid rfl 64 (.tmp 12) (.tmp 38) rfl wx.heap.size 0 (cellsR rPass).toArray rfl rfl (Blk.there BA rfl) infoR22 (all_oneCell_toArray ResOk.pass.one) ?_); rw [List.toList_toArray, ← hwd.out]))
       go_meet
       case rel => exact ⟨rfl, rPass, ResOk.pass, BF, hbd⟩
     obtain ⟨rfl, r2, hr2, BB, hbb⟩ := hcut; clear BA hba hr0; go_upto_region 13 with fail; obtain ⟨we, hwe⟩ : ∃ we, we = wc := ⟨_, rfl⟩; subst hwe
     go_cut [44] from 22 to 56 (fun t wz => (∃ cb, t = .bool cb) ∧ wz = we)
     case first => as_aux_lemma =>
      clear hown hOA HT hox HX BB; go_wp2_with fail
      go_meet
      case rel => exact ⟨⟨_, rfl⟩, rfl⟩
     obtain ⟨⟨cb2, rfl⟩, hx⟩ := hcut; obtain rfl := hx.symm
     go_upto_if 44 with fail
     go_cut [12] from 22 to 56 (fun p wz => p = .pointer (some ⟨wx.heap.size, 0, none⟩) ∧ ∃ r, ResOk r ∧ Blk wz wx.heap.size 64 (cellsR r).toArray ∧ Below wx.heap.size wx wz)
     case first => as_aux_lemma =>
      cases cb2
      ·go_wp2_with fail
       go_meet
       case rel => exact ⟨rfl, r2, hr2, BB, hbb⟩
      ·obtain ⟨ix, hix⟩ : ∃ z : Nat, z = (i + 1) % kt := ⟨_, rfl⟩; have l1 : ix < kt := by rw [hix]; exact Nat.mod_lt _ (by omega)
       have s1 : IntKind.i64.wrap ((i : Int) + 1) = (i : Int) + 1 := by rw [IntWalk.i64_in _ (by omega)]
       have s2 : ((i : Int) + 1).tmod (kt : Int) = (ix : Int) := by rw [hix]; rfl
       have l1i : (ix : Int) < (kt : Int) := by omega
       have hkp0 : ¬ kt = 0 := by omega
       have l4 : ix < rs.length := by have := hs.2.1; omega
       obtain ⟨b3, off3, hA3, HC3⟩ := ((hsb.below hbx).below hbb).at_ cellsR_len (by omega) l1 l4; injection hA3 with hA3; injection hA3 with e1 e2; subst e1 e2; have hr3 := HRS.out _ (List.getElem_mem l4); generalize rs[ix] = r3 at HC3 hr3; obtain ⟨wd, hwd⟩ : ∃ w', Hid (w' = we.setCells wx.heap.size 0 (cellsR r3)) := ⟨_, rfl⟩; have BF : Blk wd wx.heap.size 64 (cellsR r3).toArray := by rw [hwd.out]; exact Blk.setAll BB rfl
       have hbd : Below wx.heap.size wx wd := by rw [hwd.out]; exact below_setAll (Nat.le_refl _) _ _ hbb
       have hone := hr3.one; clear hown hOA HT hox HX hix
       go_wp2_with (first | (refine wpList_load_mid rfl 64 (.tmp 51) rfl b (off + ix * 22) rfl (cellsR r3) _ (fun j v h => HC3.out j v h) Try.underlying64 rfl (infoR (r := r3)) ?_; simp only [Act.put, sA, sB, sC]) | ((refine wpList_store_mid rfl 64 (.tmp 12) (.tmp 52) rfl wx.heap.size 0 (cellsR r3).toArray rfl rfl (Blk.there BB rfl) infoR22 (all_oneCell_toArray hone) ?_); rw [List.toList_toArray, ← hwd.out]))
       go_meet
       case rel => exact ⟨rfl, r3, hr3, BF, hbd⟩
     obtain ⟨rfl, r4, hr4, BD, hbd⟩ := hcut; clear BB hbb hr2; obtain ⟨wf, hwf⟩ : ∃ wf, wf = wc := ⟨_, rfl⟩; subst hwf; have hb6 := Below.tr hbd (bA wf (.cells (rowE [r4]) 64)); have ho6 := own_below hox hb6; have hbx6 := Below.tr hbx hb6; have hsz6 := hbx6.size; have hone := hr4.one; clear hox
     go_wp2_with (first | (refine wpList_load_mid rfl 64 (.tmp 12) rfl wx.heap.size 0 rfl (cellsR r4) _ (Blk.range BD) Try.underlying64 rfl (infoR (r := r4)) ?_; simp only [Act.put, sA, sB, sC]) | (refine wpList_sliceN rfl 41 64 1 [(0, .tmp 54)] rfl (rowE [r4]) i0 zeroR 22 [(0, .agg (cellsR r4).toArray)] Try.underlying41 hi0 hz0 hz1 (by omega) (by omega) rfl (fill_res1 r4) ?_; simp only [Act.put, sA, sB, sC]) | (at_builtin; go_loud (refine wpList_append_any _ rfl (.tmp 53) (.tmp 55) _ rfl wr.heap.size 64 i0 zeroR 22 72 Try.underlying41 hi0 hz0 hz1 hz2 zeroR_size (by omega) _ m _ rfl ho6 (some ⟨wf.heap.size, 0, none⟩) 1 1 (cellsR r4) rfl rfl ((rowE_rows wf [r4] 1 rfl (by omega)).1) hone (by simp only [maxLen]; omega) (by omega) hsz6 ?_); intro v2 x2 ho7 hg7 hat7))
     have ho8 : x2.ownsRow wr.heap.size 64 22 v2 (m + 1) ((xs ++ [r4]).flatMap cellsR) := by rw [List.flatMap_append]; simpa using ho7
     have hbx7 := hbx6.grown hg7 hsz6 (own_block_ge ho6)
     have HX8 : Hid (∀ y ∈ xs ++ [r4], ResOk y) := by
      intro y hy
      rcases List.mem_append.1 hy with h | h
      ·exact HX.out y h
      ·rw [List.mem_singleton.1 h]; exact hr4
     clear ho6 ho7 hat7 hg7 hsz6 hb6 BD HX hr4; go_wp2_with fail
     go_roundg (G2 - 1)
     case measure => omega
     case rel => exact ⟨m + 1, xs ++ [r4], by go_num, by omega, by simp [hxl], ho8, HX8, hbx7⟩
    ·obtain rfl : m = n6 := by omega
     have t2 : decide ((m : Int) < (m : Int)) = false := by simp
     obtain ⟨A2, c2, e2, hrw⟩ := own_rowS cellsR_len (by omega) (by omega) hox; injection e2 with e3 e4 e5; subst e3 e5; obtain ⟨sl, hsl⟩ : ∃ s : SLR, Hid (s = ⟨Ax, m, cx, xs⟩) := ⟨_, rfl⟩; have hb6 := bA wx (.cells #[.slice Ax m cx] 41)
     have HTN : Hid (∀ s ∈ rows ++ [sl], TrOk (wx.alloc (.cells #[.slice Ax m cx] 41)) s) := by
      intro s hs
      rcases List.mem_append.1 hs with h | h
      ·exact ((HT.out s h).below hbx).below hb6
      ·rw [List.mem_singleton.1 h, hsl.out]; exact ⟨hrw.below hb6, by show m ≤ 5; omega, HX.out⟩
     have ho6 := own_below hown (Below.tr hbx hb6); have hOA6 := hOA.below (Below.tr hbx hb6) (fun g hg => ownsRow_lt hown g hg); have hbe6 := Below.tr hbe (Below.tr hbx hb6); have hsz6 := hbe6.size; have hrd : Rd (wx.alloc (.cells #[.slice Ax m cx] 41)) (some ⟨wx.heap.size, 0, none⟩) (slC sl) := by rw [hsl.out]; exact Rd.fresh wx 41 [.slice Ax m cx]
     clear hown hOA HT hox HX hrw
     go_wp2_with (at_builtin; go_loud (refine wpList_append_all rfl IsSlc (.tmp 57) (.tmp 59) _ rfl w.heap.size 41 j0 (.slice none 0 0) 1 24 Try.underlying36 hj0 hy0 hy1 hy2 rfl (by omega) _ i _ rfl ho6 (some ⟨wx.heap.size, 0, none⟩) 1 1 (slC sl) rfl rfl hrd (by intro u hu; obtain ⟨_, _, _, rfl⟩ := slC_sl sl u hu; rfl) (by simp only [maxLen]; omega) (by omega) hsz6 (by intro x hx; simp [Value.cells] at hx; exact ⟨_, _, _, hx⟩) (slC_sl sl) hOA6 ?_); intro v2 x2 ho7 hg7 hat7 hOA7)
     have ho8 : x2.ownsRow w.heap.size 41 1 v2 (i + 1) ((rows ++ [sl]).flatMap slC) := by rw [List.flatMap_append]; simpa using ho7
     have HT8 : Hid (∀ s ∈ rows ++ [sl], TrOk x2 s) := fun s h => (HTN.out s h).grownBy hg7 hOA6
     have hbe7 := hbe6.grown hg7 hsz6 (own_block_ge ho6); clear ho6 ho7 hat7 hg7 hsz6 hb6 hOA6 HTN hrd; go_wp2_with fail
     go_roundg (G - 1)
     case measure => omega
     case rel => exact ⟨i + 1, rows ++ [sl], by go_num, by omega, by simp [hrl], ho8, hOA7, HT8, hbe7⟩
  ·obtain rfl : i = kt := by omega
   have t1 : decide ((i : Int) < (i : Int)) = false := by simp
   obtain ⟨A2, c2, e2, hrw⟩ := own_rowS slC_len (by omega) (by omega) hown; injection e2 with e3 e4 e5; subst e3 e5; clear hlb hsb; go_wp2_with fail; go_ret; exact ⟨_, ⟨_, rfl⟩, rows, hrw, HT, hbe⟩
end Go.Proofs.Yticobffjnjbjiaa
namespace Go.Proofs.Yticobffjnjbjiaa
open Go Go.RowKit
theorem own_nilE (w : World) (T : TypeId) (size : Nat) : (w.alloc (.cells #[] T)).ownsRow w.heap.size T size (.slice (some ⟨w.heap.size, 0, none⟩) 0 0) 0 [] :=
 ⟨by simp, .inr ⟨_, 0, #[], rfl, Nat.le_refl _, heap_alloc_new w _, Nat.le_refl _, by unfold maxLen; omega, by simp, by simp⟩⟩
theorem flat_int_oneE (l : List Int) : ∀ v ∈ l.flatMap intC, v.oneCell' = true := by
 intro v hv; obtain ⟨n, _, h⟩ := List.mem_flatMap.1 hv; rw [List.mem_singleton.1 h]; rfl
set_option maxRecDepth 100000 in
set_option maxHeartbeats 2000000 in
theorem odd_e (A : Option Addr) (k c : Nat) (l : List Int) (by_ : Int) (w : World) (hl : RowS intC w A k l) (hk : k ≤ 1073741824) :
  Calls Try.prog 25 #[.slice A k c, .int .i64 by_] w fun e w' => ∃ A' c', e = .returned (.slice A' (k + 1) c') ∧ RowS intC w' A' (k + 1) (l ++ [IntKind.i64.wrap (by_.tmod 5 - 1)]) ∧ Below w.heap.size w w' := by
 obtain ⟨i0, hi0, hz0, hz1, hz2⟩ := info_parts info_int; have hsz0 : (w.alloc (.cells #[] 3)).heap.size = w.heap.size + 1 := by simp
 have hrd0 := (hl.below (bA w (.cells #[] 3))).1; have hlen : (l.flatMap intC).length = k * 1 := by rw [flat_len intC_len, hl.2.1]
 have HLN := Lib.hid hlen; clear hlen; obtain ⟨n, hn⟩ : ∃ n, IntKind.i64.wrap (by_.tmod 5 - 1) = n := ⟨_, rfl⟩
 go_enter Try.func25, Try.ntmps25
 go_wp2_with (first | (at_builtin; (refine wpList_append_any _ rfl (.tmp 5) (.tmp 6) _ rfl w.heap.size 3 i0 _ 1 8 Try.underlying35 hi0 hz0 hz1 hz2 rfl (by omega) (.slice (some ⟨w.heap.size, 0, none⟩) 0 0) 0 [] rfl (own_nilE w 3 1) A k c (l.flatMap intC) rfl HLN.out hrd0 (flat_int_oneE l) (by simp only [maxLen]; omega) (by omega) (by rw [hsz0]; omega) ?_); intro v1 x1 hown1 hg1 hat1; have hsz1 : w.heap.size ≤ x1.heap.size := Nat.le_trans (by rw [hsz0]; omega) hg1.size; have hown1' := own_below hown1 (bA x1 (.cells #[.int .i64 n] 3))) | (at_builtin; (refine wpList_append_any _ rfl (.tmp 7) (.tmp 11) _ rfl w.heap.size 3 i0 _ 1 8 Try.underlying35 hi0 hz0 hz1 hz2 rfl (by omega) v1 (0 + k) _ rfl hown1' (some ⟨x1.heap.size, 0, none⟩) 1 1 (intC n) rfl rfl (Rd.fresh x1 3 (intC n)) (by simp [intC, Value.oneCell']) (by simp only [maxLen]; omega) (by omega) (Nat.le_trans hsz1 (bA x1 (.cells #[.int .i64 n] 3)).size) ?_); intro v2 x2 hown2 hg2 hat2))
 have hbx1 : Below w.heap.size w x1 := (bA w (.cells #[] 3)).grown hg1 (by rw [hsz0]; omega) (own_block_ge (own_nilE w 3 1)); have hbx2 : Below w.heap.size w x2 := (Below.tr hbx1 (bA x1 (.cells #[.int .i64 n] 3))).grown hg2 (Nat.le_trans hsz1 (bA x1 (.cells #[.int .i64 n] 3)).size) (own_block_ge hown1)
 have hw2 : x2.ownsRow w.heap.size 3 1 v2 (k + 1) ((l ++ [n]).flatMap intC) := by
  have h := hown2; rw [Nat.zero_add, List.nil_append] at h; rw [List.flatMap_append]; exact h
 obtain ⟨A', c', rfl, hr⟩ := own_rowS intC_len (by omega) (by omega) hw2; clear hown1 hown1' hown2 hg1 hg2 hat1 hat2 hw2 hbx1; go_wp2_with fail; go_ret; rw [hn]; exact ⟨A', c', rfl, hr, hbx2⟩
end Go.Proofs.Yticobffjnjbjiaa
namespace Go.Proofs.Yticobffjnjbjiaa
open Go Go.RowKit
open Classical in
noncomputable def bqE (kl ks kt : Nat) (l : List Int) (ps : List PC) (Lf : Nat → List Nat × List Nat) (names : List ByteArray) (rows : List SLR) (L1 L2 : List Nat) : Int :=
 if fitE kl l kt ks (allR rows) ≠ 0 then fitE kl l kt ks (allR rows) else if Nm.validE L1 L2 ≠ 0 then Nm.validE L1 L2 else
  fbad (fun x => oneC (l.map Int.toNat) ps Lf (bdL (L1, L2)).1 (bdL (L1, L2)).2 x) (names.zip (rows.map (·.rs)))
open Classical in
noncomputable def bqC (kl ks kt : Nat) (l : List Int) (ps : List PC) (Lf : Nat → List Nat × List Nat) (names : List ByteArray) (rows : List SLR) (L1 L2 : List Nat) : List Int :=
 if fitE kl l kt ks (allR rows) ≠ 0 then [] else if Nm.validE L1 L2 ≠ 0 then [] else
  if fbad (fun x => oneC (l.map Int.toNat) ps Lf (bdL (L1, L2)).1 (bdL (L1, L2)).2 x) (names.zip (rows.map (·.rs))) = 0 then (names.zip (rows.map (·.rs))).map (fun x => (oneC (l.map Int.toNat) ps Lf (bdL (L1, L2)).1 (bdL (L1, L2)).2 x).1) else []
theorem bq_of {kl ks kt : Nat} {l : List Int} {ps : List PC} {Lf : Nat → List Nat × List Nat} {names : List ByteArray} {rows : List SLR} {L1 L2 : List Nat} {er : Int} {codes : List Int} (h : BuildQ kl ks kt l ps Lf names rows L1 L2 er codes) : er = bqE kl ks kt l ps Lf names rows L1 L2 ∧ codes = bqC kl ks kt l ps Lf names rows L1 L2 := by
 unfold bqE bqC
 rcases h with ⟨h1, h2, h3⟩ | ⟨h1, h2, h3, h4⟩ | ⟨h1, a, b, e1, e2, hg, h2, h3⟩
 ·rw [if_pos h1, if_pos h1]; exact ⟨h2, h3⟩
 ·have n1 : ¬ (fitE kl l kt ks (allR rows) ≠ 0) := fun h => h h1
  rw [if_neg n1, if_neg n1, if_pos h2, if_pos h2]; exact ⟨h3, h4⟩
 ·have hv : Nm.validE L1 L2 = 0 := by rw [e1, e2]; exact Nm.validE_of hg
  have n1 : ¬ (fitE kl l kt ks (allR rows) ≠ 0) := fun h => h h1
  have n2 : ¬ (Nm.validE L1 L2 ≠ 0) := fun h => h hv
  rw [if_neg n1, if_neg n1, if_neg n2, if_neg n2, bdL_good ⟨e1, e2, hg⟩]; rw [h2] at h3; exact ⟨h2, h3⟩
theorem bqC_len {kl ks kt : Nat} {l : List Int} {ps : List PC} {Lf : Nat → List Nat × List Nat} {names : List ByteArray} {rows : List SLR} {L1 L2 : List Nat} : (bqC kl ks kt l ps Lf names rows L1 L2).length ≤ names.length := by
 unfold bqC
 split
 ·simp
 ·split
  ·simp
  ·split
   ·simp; omega
   ·simp
/-- a row of numbers that lasts -/
def RowV (w : World) (v : Value) (C : List Int) : Prop := ∃ A c, v = .slice A C.length c ∧ RowS intC w A C.length C
theorem RowV.below {w w' : World} {v : Value} {C : List Int} (h : RowV w v C) (hb : Below w.heap.size w w') : RowV w' v C := by
 obtain ⟨A, c, e, h⟩ := h; exact ⟨A, c, e, h.below hb⟩
theorem flat_intV : ∀ l : List Int, l.map intV = l.flatMap intC
 | [] => rfl
 | n :: l => by rw [List.flatMap_cons, ← flat_intV l]; rfl
def PsL (w : World) (ps : List PC) (Lf : Nat → List Nat × List Nat) : Prop := ∀ (n : Nat) p, ps[n]? = some p → RtL w (.agg #[p.b1, p.b2]) (Lf n).1 (Lf n).2
theorem PsL.below {w w' : World} {ps : List PC} {Lf : Nat → List Nat × List Nat} (h : PsL w ps Lf) (hb : Below w.heap.size w w') : PsL w' ps Lf := fun n p e => (h n p e).below hb
def LfG (bd : Nat → Nat × Nat) (i : Nat) : List Nat × List Nat := (Nm.lb (bd i).1, Nm.lb (Nm.dn (bd i).2))
theorem PsOk.l {w : World} {ps : List PC} {bd : Nat → Nat × Nat} (h : PsOk w ps bd) : PsL w ps (LfG bd) := fun n p e => rtl_rat (h n p e).2.1
/-- rows of results -/
def RsOk (w : World) (rows : List SLR) : Prop := ∀ s ∈ rows, RowS cellsR w s.A s.k s.rs ∧ ∀ x ∈ s.rs, ∀ v ∈ cellsR x, v.oneCell' = true
theorem RsOk.below {w w' : World} {rows : List SLR} (h : RsOk w rows) (hb : Below w.heap.size w w') : RsOk w' rows := fun s e => ⟨(h s e).1.below hb, (h s e).2⟩
theorem gbuild_E (Al A T S : Option Addr) (kl cl k c kt ct ks cs : Nat) (l : List Int) (ps : List PC) (Lf : Nat → List Nat × List Nat) (names : List ByteArray) (rows : List SLR) (va : Value) (L1 L2 : List Nat) (w : World) (hp : RowS cellsP w Al kl ps) (hr : RowS intC w A k l) (ht : RowS strC w T kt names) (hs : RowS slC w S ks rows) (HS : RsOk w rows) (hsz : sumK rows ≤ 1073741824) (hks : ks ≤ 1073741824) (HB : PsL w ps Lf) (ha : RtL w va L1 L2) :
  Calls Try.prog 23 #[.slice Al kl cl, .slice A k c, .slice T kt ct, .slice S ks cs, va] w fun e w' => ∃ v, e = .returned (.tuple #[v, .int .i64 (bqE kl ks kt l ps Lf names rows L1 L2)]) ∧ RowV w' v (bqC kl ks kt l ps Lf names rows L1 L2) ∧ Below w.heap.size w w' := by
 refine (buildL_n Al A T S kl cl k c kt ct ks cs l ps Lf names rows va L1 L2 w hp hr ht hs HS hsz hks HB ha).mono ?_; rintro e w' ⟨v, er, codes, rfl, HQ, ho, hb⟩; obtain ⟨rfl, rfl⟩ := bq_of HQ.out; refine ⟨v, rfl, ?_, hb⟩; rw [flat_intV] at ho; obtain ⟨A', c', rfl, hr'⟩ := own_rowS intC_len (by omega) (by have := bqC_len (kl := kl) (ks := ks) (kt := kt) (l := l) (ps := ps) (Lf := Lf) (names := names) (rows := rows) (L1 := L1) (L2 := L2); have := ht.2.1; have := ht.2.2; omega) ho; exact ⟨A', c', rfl, hr'⟩
theorem rbuild_E (Al A T S : Option Addr) (kl cl k c kt ct ks cs : Nat) (l : List Int) (ps : List PC) (Lf : Nat → List Nat × List Nat) (names : List ByteArray) (rows : List SLR) (va : Value) (L1 L2 : List Nat) (w : World) (hp : RowS cellsP w Al kl ps) (hr : RowS intC w A k l) (ht : RowS strC w T kt names) (hs : RowS slC w S ks rows) (HS : RsOk w rows) (hsz : sumK rows ≤ 1073741824) (hks : ks ≤ 1073741824) (HB : PsL w ps Lf) (ha : RtL w va L1 L2) :
  Calls Try.prog 24 #[.slice Al kl cl, .slice A k c, .slice T kt ct, .slice S ks cs, va] w fun e w' => ∃ v, e = .returned (.tuple #[v, .int .i64 (bqE kl ks kt l ps Lf names rows L1 L2)]) ∧ RowV w' v (bqC kl ks kt l ps Lf names rows L1 L2) ∧ Below w.heap.size w w' := by
 refine (rbuildL_n Al A T S kl cl k c kt ct ks cs l ps Lf names rows va L1 L2 w hp hr ht hs (fun s h => (HS s h).1) hks HB ha).mono ?_; rintro e w' ⟨v, er, codes, rfl, HQ, ho, hb⟩; obtain ⟨rfl, rfl⟩ := bq_of HQ.out; refine ⟨v, rfl, ?_, hb⟩; rw [flat_intV] at ho; obtain ⟨A', c', rfl, hr'⟩ := own_rowS intC_len (by omega) (by have := bqC_len (kl := kl) (ks := ks) (kt := kt) (l := l) (ps := ps) (Lf := Lf) (names := names) (rows := rows) (L1 := L1) (L2 := L2); have := ht.2.1; have := ht.2.2; omega) ho; exact ⟨A', c', rfl, hr'⟩
/-- a cell of an own row is stored -/
theorem own_setc {w : World} {base : Nat} {e : TypeId} {size g n c : Nat} {xs : List Value} (h : w.ownsRow base e size (.slice (some ⟨g, 0, none⟩) n c) n xs) (i : Nat) (u : Value) : (w.setCell ⟨g, i, none⟩ u).ownsRow base e size (.slice (some ⟨g, 0, none⟩) n c) n (xs.set i u) := by
 refine ⟨by rw [List.length_set]; exact h.1, ?_⟩
 rcases h.2 with ⟨hv, hn⟩ | ⟨g', cap, cur, hv, hb, hh, hnc, hcm, hcs, ht⟩
 ·cases hv
 ·injection hv with h1 h2 h3; injection h1 with h1; injection h1 with h1; subst h1 h3; refine .inr ⟨g, c, cur.setIfInBounds i u, rfl, hb, Blk.set_ hh i u, hnc, hcm, by simpa using hcs, ?_⟩; rw [Array.toList_setIfInBounds, ← ht, List.take_set]
theorem RtL.setU {w : World} {v : Value} {l1 l2 : List Nat} {g i : Nat} {T : TypeId} {arr : Array Value} (h : RtL w v l1 l2) (hb : Blk w g T arr) (hn : NoU arr) (u : Value) : RtL (w.setCell ⟨g, i, none⟩ u) v l1 l2 := by
 obtain ⟨A1, k1, c1, A2, k2, c2, rfl, h1, h2, e1, e2⟩ := h; exact ⟨A1, k1, c1, A2, k2, c2, rfl, h1.setB hb hn u, h2.setB hb hn u, e1, e2⟩
theorem flat_setG {α : Type} {f : α → List Value} {m : Nat} (hf : ∀ x, (f x).length = m) : ∀ (l : List α) (i j : Nat) (v : Value) (x y : α), l[i]? = some x → j < m → f y = (f x).set j v → (l.flatMap f).set (i * m + j) v = (l.set i y).flatMap f
 | [], i, _, _, _, _, h, _, _ => by simp at h
 | a :: l, 0, j, v, x, y, h, hj, he => by
  obtain rfl : a = x := by simpa using h
  rw [List.flatMap_cons, Nat.zero_mul, Nat.zero_add, List.set_append_left _ _ (by rw [hf]; exact hj), ← he]; rfl
 | a :: l, i + 1, j, v, x, y, h, hj, he => by
  rw [List.flatMap_cons, List.set_append_right _ _ (by rw [hf, Nat.add_mul]; omega), hf, show (i + 1) * m + j - m = i * m + j by rw [Nat.add_mul]; omega, flat_setG hf l i j v x y (by simpa using h) hj he]; rfl
/-- the bound of one promise is another -/
def setBd (p : PC) (b1 b2 : Value) : PC := { p with b1 := b1, b2 := b2 }
def LfS (Lf : Nat → List Nat × List Nat) (k : Nat) (m1 m2 : List Nat) (i : Nat) : List Nat × List Nat := if i = k then (m1, m2) else Lf i
theorem bound_set {w : World} {base g n c k : Nat} {ps : List PC} {Lf : Nat → List Nat × List Nat} {b1 b2 : Value} {m1 m2 : List Nat} (h : w.ownsRow base 53 24 (.slice (some ⟨g, 0, none⟩) n c) n (ps.flatMap cellsP)) (hn : n ≤ 4096) (hO : OwnAll NoL w (.slice (some ⟨g, 0, none⟩) n c)) (hk : k < ps.length) (hp : PsL w ps Lf) (hm : RtL w (.agg #[b1, b2]) m1 m2) :
  RowS cellsP ((w.setCell ⟨g, k * 24 + 4, none⟩ b1).setCell ⟨g, k * 24 + 4 + 1, none⟩ b2) (some ⟨g, 0, none⟩) n (ps.set k (setBd ps[k] b1 b2)) ∧ PsL ((w.setCell ⟨g, k * 24 + 4, none⟩ b1).setCell ⟨g, k * 24 + 4 + 1, none⟩ b2) (ps.set k (setBd ps[k] b1 b2)) (LfS Lf k m1 m2) := by
 obtain ⟨A1, k1, c1, A2, k2, c2, he⟩ := hm.shape; simp only [Value.agg.injEq, Array.mk.injEq, List.cons.injEq, and_true] at he; obtain ⟨rfl, rfl⟩ := he; have hkk : ps[k]? = some ps[k] := List.getElem?_eq_getElem hk; have h1 := own_setc h (k * 24 + 4) (.slice A1 k1 c1); rw [flat_setG cellsP_len ps k 4 (.slice A1 k1 c1) ps[k] (setBd ps[k] (.slice A1 k1 c1) ps[k].b2) hkk (by omega) rfl] at h1; have h2 := own_setc h1 (k * 24 + 4 + 1) (.slice A2 k2 c2); have hk2 : (ps.set k (setBd ps[k] (.slice A1 k1 c1) ps[k].b2))[k]? = some (setBd ps[k] (.slice A1 k1 c1) ps[k].b2) := by simp [hk]
 rw [Nat.add_assoc, flat_setG cellsP_len _ k (4 + 1) (.slice A2 k2 c2) _ (setBd ps[k] (.slice A1 k1 c1) (.slice A2 k2 c2)) hk2 (by omega) rfl, List.set_set] at h2; rw [Nat.add_assoc]; refine ⟨own_any cellsP_len (by omega) (by omega) h2, ?_⟩
 obtain ⟨cur, hb⟩ : ∃ cur, Blk w g 53 cur := by
  rcases h.2 with ⟨hv, _⟩ | ⟨g', cap, cur, hv, _, hh, _⟩
  ·cases hv
  ·injection hv with h1; injection h1 with h1; injection h1 with h1; subst h1; exact ⟨cur, hh⟩
 have hno : NoU cur := fun i x e => hO g rfl i (.int .u32 x) (by rw [hb.cell]; exact e) x rfl
 have hb1 := hb.set_ (k * 24 + 4) (.slice A1 k1 c1); have hno1 := hno.set (i := k * 24 + 4) (u := .slice A1 k1 c1) (fun n e => by cases e); intro j p hj; unfold LfS; by_cases hjk : j = k
 ·subst hjk; rw [if_pos rfl]
  have : p = setBd ps[j] (.slice A1 k1 c1) (.slice A2 k2 c2) := by
   rw [List.getElem?_set_self hk] at hj; injection hj with hj; exact hj.symm
  subst this; exact (hm.setU hb hno _).setU hb1 hno1 _
 ·rw [if_neg hjk]; rw [List.getElem?_set_ne (Ne.symm hjk)] at hj; exact ((hp j p hj).setU hb hno _).setU hb1 hno1 _
/-- the four limits -/
def LimS (w : World) (g : Nat) : Prop := ∀ i, i < 4 → ∃ v1 v2 L1 L2, w.cell? ⟨g, i * 2, none⟩ = some v1 ∧ w.cell? ⟨g, i * 2 + 1, none⟩ = some v2 ∧ RtL w (.agg #[v1, v2]) L1 L2
theorem LimS.below {w w' : World} {g : Nat} (h : LimS w g) (hb : Below w.heap.size w w') : LimS w' g := fun i hi => by
 obtain ⟨v1, v2, L1, L2, h1, h2, h3⟩ := h i hi; exact ⟨v1, v2, L1, L2, cell_keep hb h1, cell_keep hb h2, h3.below hb⟩
theorem LimS.of {w : World} {g : Nat} {T : TypeId} {a1 a2 b1 b2 c1 c2 d1 d2 : Value} {l1 l2 l3 l4 l5 l6 l7 l8 : List Nat} (hb : Blk w g T #[a1, a2, b1, b2, c1, c2, d1, d2]) (h1 : RtL w (.agg #[a1, a2]) l1 l2) (h2 : RtL w (.agg #[b1, b2]) l3 l4) (h3 : RtL w (.agg #[c1, c2]) l5 l6) (h4 : RtL w (.agg #[d1, d2]) l7 l8) : LimS w g := by
 intro i hi
 rcases i with _ | _ | _ | _ | i
 ·exact ⟨a1, a2, l1, l2, by rw [hb.cell]; rfl, by rw [hb.cell]; rfl, h1⟩
 ·exact ⟨b1, b2, l3, l4, by rw [hb.cell]; rfl, by rw [hb.cell]; rfl, h2⟩
 ·exact ⟨c1, c2, l5, l6, by rw [hb.cell]; rfl, by rw [hb.cell]; rfl, h3⟩
 ·exact ⟨d1, d2, l7, l8, by rw [hb.cell]; rfl, by rw [hb.cell]; rfl, h4⟩
 ·omega
/-- what GateBuilds holds all through its loop -/
structure GbS (w W : World) (Ap : Option Addr) (kp : Nat) (ps : List PC) (Lf : Nat → List Nat × List Nat) (Aa : Option Addr) (ka : Nat) (la : List Int) (An : Option Addr) (kn : Nat) (nm : List ByteArray) (V : Option Addr) (rt : List SLR) (Aq : Option Addr) (kq : Nat) (rq : List SLR) (g : Nat) : Prop where
 hps : RowS cellsP W Ap kp ps
 pl : PsL W ps Lf
 hla : RowS intC W Aa ka la
 hnm : RowS strC W An kn nm
 hv : RowS slC W V kn rt
 hvo : RsOk W rt
 hq : RowS slC W Aq kq rq
 hqo : RsOk W rq
 lm : LimS W g
 be : Below w.heap.size w W
theorem GbS.below {w W W' : World} {Ap : Option Addr} {kp : Nat} {ps : List PC} {Lf : Nat → List Nat × List Nat} {Aa : Option Addr} {ka : Nat} {la : List Int} {An : Option Addr} {kn : Nat} {nm : List ByteArray} {V : Option Addr} {rt : List SLR} {Aq : Option Addr} {kq : Nat} {rq : List SLR} {g : Nat} (h : GbS w W Ap kp ps Lf Aa ka la An kn nm V rt Aq kq rq g) (hb : Below W.heap.size W W') : GbS w W' Ap kp ps Lf Aa ka la An kn nm V rt Aq kq rq g :=
 ⟨h.hps.below hb, h.pl.below hb, h.hla.below hb, h.hnm.below hb, h.hv.below hb, h.hvo.below hb, h.hq.below hb, h.hqo.below hb, h.lm.below hb, Below.tr h.be hb⟩
theorem sumK_leG {rows : List SLR} {n m : Nat} (h : ∀ s ∈ rows, s.k ≤ m) (hn : rows.length ≤ n) : sumK rows ≤ n * m := by
 unfold sumK
 induction rows generalizing n with
 | nil => simp
 | cons s rows ih =>
  have h1 := h s (List.mem_cons_self ..)
  cases n with
  | zero => simp at hn
  | succ n =>
   have h2 := ih (n := n) (fun x hx => h x (List.mem_cons_of_mem _ hx)) (by simpa using hn); rw [List.map_cons, List.sum_cons, Nat.add_mul]; omega
end Go.Proofs.Yticobffjnjbjiaa
