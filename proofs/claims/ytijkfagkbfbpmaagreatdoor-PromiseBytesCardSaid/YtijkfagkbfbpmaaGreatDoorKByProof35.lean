import Derived.Test.YtijkfagkbfbpmaaGreatDoorKByProof19
import Derived.Test.YtijkfagkbfbpmaaGreatDoorS0
set_option linter.unusedVariables false
set_option linter.unusedSimpArgs false
namespace Go.Proofs.YtijkfagkbfbpmaaGreatDoor
open Go Go.RowKit
def PhiWo5 (g t q p1 p2 p3 b off c : Nat) (n0 n1 n2 n3 : Nat) (vs : Nat → Value) (j : Nat) (w : World) (x : Value) : Prop :=
 match j with
 | 0 => x = .int .i64 (t : Nat)
 | 1 => x = .slice (some ⟨b, off, none⟩) 64 c
 | 2 => x = .int .i64 (t : Nat)
 | 3 => x = .int .i64 (q : Nat)
 | 4 => x = .pointer (some ⟨b, off + q, none⟩)
 | 5 => x = .int .u8 (n0 : Nat)
 | 6 => x = .int .u32 (wv (BitVec.ofNat 32 n0))
 | 7 => x = .int .u32 (wv (BitVec.ofNat 32 n0 <<< 24))
 | 8 => x = .slice (some ⟨b, off, none⟩) 64 c
 | 9 => x = .int .i64 (t : Nat)
 | 10 => x = .int .i64 (q : Nat)
 | 11 => x = .int .i64 (p1 : Nat)
 | 12 => x = .pointer (some ⟨b, off + p1, none⟩)
 | 13 => x = .int .u8 (n1 : Nat)
 | 14 => x = .int .u32 (wv (BitVec.ofNat 32 n1))
 | 15 => x = .int .u32 (wv (BitVec.ofNat 32 n1 <<< 16))
 | 16 => x = .int .u32 (wv (BitVec.ofNat 32 n0 <<< 24 ||| BitVec.ofNat 32 n1 <<< 16))
 | 17 => x = .slice (some ⟨b, off, none⟩) 64 c
 | 18 => x = .int .i64 (t : Nat)
 | 19 => x = .int .i64 (q : Nat)
 | 20 => x = .int .i64 (p2 : Nat)
 | 21 => x = .pointer (some ⟨b, off + p2, none⟩)
 | 22 => x = .int .u8 (n2 : Nat)
 | 23 => x = .int .u32 (wv (BitVec.ofNat 32 n2))
 | 24 => x = .int .u32 (wv (BitVec.ofNat 32 n2 <<< 8))
 | 25 => x = .int .u32 (wv (BitVec.ofNat 32 n0 <<< 24 ||| BitVec.ofNat 32 n1 <<< 16 ||| BitVec.ofNat 32 n2 <<< 8))
 | 26 => x = .slice (some ⟨b, off, none⟩) 64 c
 | 27 => x = .int .i64 (t : Nat)
 | 28 => x = .int .i64 (q : Nat)
 | 29 => x = .int .i64 (p3 : Nat)
 | 30 => x = .pointer (some ⟨b, off + p3, none⟩)
 | 31 => x = .int .u8 (n3 : Nat)
 | 32 => x = .int .u32 (wv (BitVec.ofNat 32 n3))
 | 33 => x = .int .u32 (wv (BitVec.ofNat 32 n0 <<< 24 ||| BitVec.ofNat 32 n1 <<< 16 ||| BitVec.ofNat 32 n2 <<< 8 ||| BitVec.ofNat 32 n3))
 | 34 => x = .pointer (some ⟨g, t, none⟩)
 | _ => True
theorem PhiWo5.keepR {g t q p1 p2 p3 b off c : Nat} {n0 n1 n2 n3 : Nat} : ∀ vs (w w' : World), Below w.heap.size w w' → ∀ j x, PhiWo5 g t q p1 p2 p3 b off c n0 n1 n2 n3 vs j w x → PhiWo5 g t q p1 p2 p3 b off c n0 n1 n2 n3 vs j w' x := fun _ _ _ _ _ _ h => h
theorem PhiWo5.keepF {g t q p1 p2 p3 b off c : Nat} {n0 n1 n2 n3 : Nat} : ∀ vs (w w' : World) j x, ([] : List Nat).contains j = true → PhiWo5 g t q p1 p2 p3 b off c n0 n1 n2 n3 vs j w x → PhiWo5 g t q p1 p2 p3 b off c n0 n1 n2 n3 vs j w' x := fun _ _ _ _ _ _ h => h
def PhiWo11 (g t a b : Nat) (x0 x1 x2 x3 : BitVec 32) (vs : Nat → Value) (j : Nat) (w : World) (x : Value) : Prop :=
 match j with
 | 0 => x = .int .i64 (t : Nat)
 | 1 => x = .int .i64 (t : Nat)
 | 2 => x = .int .i64 (a : Nat)
 | 3 => x = .pointer (some ⟨g, a, none⟩)
 | 4 => x = .int .u32 (wv x0)
 | 5 => x = .int .u32 (wv x1)
 | 6 => x = .int .u32 (wv (x0 + x1))
 | 7 => x = .int .i64 (t : Nat)
 | 8 => x = .int .i64 (b : Nat)
 | 9 => x = .pointer (some ⟨g, b, none⟩)
 | 10 => x = .int .u32 (wv x2)
 | 11 => x = .int .u32 (wv (x0 + x1 + x2))
 | 12 => x = .int .u32 (wv x3)
 | 13 => x = .int .u32 (wv (x0 + x1 + x2 + x3))
 | 14 => x = .pointer (some ⟨g, t, none⟩)
 | _ => True
theorem PhiWo11.keepR {g t a b : Nat} {x0 x1 x2 x3 : BitVec 32} : ∀ vs (w w' : World), Below w.heap.size w w' → ∀ j x, PhiWo11 g t a b x0 x1 x2 x3 vs j w x → PhiWo11 g t a b x0 x1 x2 x3 vs j w' x := fun _ _ _ _ _ _ h => h
theorem PhiWo11.keepF {g t a b : Nat} {x0 x1 x2 x3 : BitVec 32} : ∀ vs (w w' : World) j x, ([] : List Nat).contains j = true → PhiWo11 g t a b x0 x1 x2 x3 vs j w x → PhiWo11 g t a b x0 x1 x2 x3 vs j w' x := fun _ _ _ _ _ _ h => h
def PhiWo9 (g t a : Nat) (x0 : BitVec 32) (j : Nat) (w : World) (x : Value) : Prop :=
 match j with
 | 0 => x = .int .i64 (t : Nat)
 | 1 => x = .int .i64 (a : Nat)
 | 2 => x = .pointer (some ⟨g, a, none⟩)
 | 3 => x = .int .u32 (wv x0)
 | 4 => x = .int .u32 (wv (rr 7 x0))
 | 5 => x = .int .i64 (t : Nat)
 | 6 => x = .int .i64 (a : Nat)
 | 7 => x = .pointer (some ⟨g, a, none⟩)
 | 8 => x = .int .u32 (wv x0)
 | 9 => x = .int .u32 (wv (rr 18 x0))
 | 10 => x = .int .u32 (wv (rr 7 x0 ^^^ rr 18 x0))
 | 11 => x = .int .i64 (t : Nat)
 | 12 => x = .int .i64 (a : Nat)
 | 13 => x = .pointer (some ⟨g, a, none⟩)
 | 14 => x = .int .u32 (wv x0)
 | 15 => x = .int .u32 (wv (x0 >>> 3))
 | 16 => x = .int .u32 (wv (sg0 x0))
 | 17 => x = .int .u32 (wv (sg0 x0))
 | _ => True
theorem PhiWo9.keep {g t a : Nat} {x0 : BitVec 32} : ∀ (w w' : World), Below w.heap.size w w' → ∀ j x, PhiWo9 g t a x0 j w x → PhiWo9 g t a x0 j w' x := fun _ _ _ _ _ h => h
def PhiWo10 (g t a : Nat) (x0 : BitVec 32) (j : Nat) (w : World) (x : Value) : Prop :=
 match j with
 | 0 => x = .int .i64 (t : Nat)
 | 1 => x = .int .i64 (a : Nat)
 | 2 => x = .pointer (some ⟨g, a, none⟩)
 | 3 => x = .int .u32 (wv x0)
 | 4 => x = .int .u32 (wv (rr 17 x0))
 | 5 => x = .int .i64 (t : Nat)
 | 6 => x = .int .i64 (a : Nat)
 | 7 => x = .pointer (some ⟨g, a, none⟩)
 | 8 => x = .int .u32 (wv x0)
 | 9 => x = .int .u32 (wv (rr 19 x0))
 | 10 => x = .int .u32 (wv (rr 17 x0 ^^^ rr 19 x0))
 | 11 => x = .int .i64 (t : Nat)
 | 12 => x = .int .i64 (a : Nat)
 | 13 => x = .pointer (some ⟨g, a, none⟩)
 | 14 => x = .int .u32 (wv x0)
 | 15 => x = .int .u32 (wv (x0 >>> 10))
 | 16 => x = .int .u32 (wv (sg1 x0))
 | 17 => x = .int .u32 (wv (sg1 x0))
 | _ => True
theorem PhiWo10.keep {g t a : Nat} {x0 : BitVec 32} : ∀ (w w' : World), Below w.heap.size w w' → ∀ j x, PhiWo10 g t a x0 j w x → PhiWo10 g t a x0 j w' x := fun _ _ _ _ _ h => h
set_option maxRecDepth 100000 in
set_option maxHeartbeats 16000000 in
theorem words_n (A : Option Addr) (c : Nat) (l : List Nat) (w : World) (h : By w A 64 c l) : Calls Tryz.prog 180 #[.slice A 64 c] w fun e w' => e = .returned (.agg (arW 64 (swW l))) ∧ Below w.heap.size w w' := by
 obtain ⟨b, off, _, rfl, _⟩ := h.get (i := 0) (by omega); have hcap2 := h.2.2.1
 go_enter Tryz.func180, Tryz.ntmps180
 go_wp2_with fail; refine wp_name ?_; intro w2 HW; rw [← arW_zero] at HW; have hb2 : Below w.heap.size w w2 := by rw [HW.out]; exact Below.tr (bA _ _) (bA _ _)
 have HR : Hid (Blk w2 w.heap.size 180 (arW 64 fun _ => 0)) := by rw [HW.out]; exact (Blk.new _ _ _).alloc _
 have HB : Hid (Blk w2 (w.heap.size + 1) 180 (arW 64 fun j => if j < 0 then swW l j else 0)) := by rw [HW.out]; exact heap_alloc_new' _ _ _ (alloc_sz _ _)
 clear HW
 go_loopg [4] 16 (fun mm x wr => ∃ t : Nat, x = .int .i64 t ∧ t + mm = 16 ∧ Hid (Blk wr w.heap.size 180 (arW 64 fun _ => 0)) ∧ Hid (Blk wr (w.heap.size + 1) 180 (arW 64 fun j => if j < t then swW l j else 0)) ∧ Below w.heap.size w wr)
 case atStart => exact ⟨0, rfl, rfl, HR, HB, hb2⟩
 case round =>
  clear HR HB hb2; obtain ⟨G, hG⟩ : ∃ G, G = gk := ⟨gk, rfl⟩; subst hG; obtain ⟨t, rfl, htm, HR, HB, hbe⟩ := hrel; have hby := h.below hbe; by_cases ht : t < 16
  ·have t1 : decide ((t : Int) < 16) = true := by simp; omega
   have lt : (t : Int) < 16 := by omega
   have lt64 : (t : Int) < 64 := by omega
   have BW := HB.out; obtain ⟨q, HQ⟩ : ∃ q : Nat, Hid (q = 4 * t) := ⟨_, rfl⟩; obtain ⟨p1, HP1⟩ : ∃ q' : Nat, Hid (q' = q + 1) := ⟨_, rfl⟩; obtain ⟨p2, HP2⟩ : ∃ q' : Nat, Hid (q' = q + 2) := ⟨_, rfl⟩; obtain ⟨p3, HP3⟩ : ∃ q' : Nat, Hid (q' = q + 3) := ⟨_, rfl⟩; have hm4 : IntKind.i64.wrap (4 * (t : Int)) = (q : Int) := by rw [IntWalk.i64_in _ (by omega), HQ.out]; omega
   have hp1 : IntKind.i64.wrap ((q : Int) + 1) = (p1 : Int) := by rw [IntWalk.i64_in _ (by have := HQ.out; omega)]; have := HP1.out; omega
   have hp2 : IntKind.i64.wrap ((q : Int) + 2) = (p2 : Int) := by rw [IntWalk.i64_in _ (by have := HQ.out; omega)]; have := HP2.out; omega
   have hp3 : IntKind.i64.wrap ((q : Int) + 3) = (p3 : Int) := by rw [IntWalk.i64_in _ (by have := HQ.out; omega)]; have := HP3.out; omega
   have lp0 : (q : Int) < 64 := by have := HQ.out; omega
   have lp1 : (p1 : Int) < 64 := by have := HQ.out; have := HP1.out; omega
   have lp2 : (p2 : Int) < 64 := by have := HQ.out; have := HP2.out; omega
   have lp3 : (p3 : Int) < 64 := by have := HQ.out; have := HP3.out; omega
   have get : ∀ i, i < 64 → ∃ n : Nat, wr.cell? ⟨b, off + i, none⟩ = some (.int .u8 (n : Int)) ∧ n < 256 ∧ l.getD i 0 = n := fun i hi => by
    obtain ⟨b', off', n, hA, hc, hn, hln⟩ := hby.get (i := i) hi; injection hA with hA; injection hA with hA1 hA2; subst hA1 hA2; exact ⟨n, hc, hn, by rw [List.getD_eq_getElem?_getD, hln]; rfl⟩
   obtain ⟨n0, c0, h0, e0⟩ := get q (by omega); obtain ⟨n1, c1, h1, e1⟩ := get p1 (by omega); obtain ⟨n2, c2, h2, e2⟩ := get p2 (by omega); obtain ⟨n3, c3, h3, e3⟩ := get p3 (by omega)
   have h0 : Hid (IntKind.u32.wrap (n0 : Int) = wv (BitVec.ofNat 32 n0)) := by
    show _ = _
    rw [IntWalk.u32_in _ (by omega)]; exact wv_nat (by omega)
   have h1 : Hid (IntKind.u32.wrap (n1 : Int) = wv (BitVec.ofNat 32 n1)) := by
    show _ = _
    rw [IntWalk.u32_in _ (by omega)]; exact wv_nat (by omega)
   have h2 : Hid (IntKind.u32.wrap (n2 : Int) = wv (BitVec.ofNat 32 n2)) := by
    show _ = _
    rw [IntWalk.u32_in _ (by omega)]; exact wv_nat (by omega)
   have h3 : Hid (IntKind.u32.wrap (n3 : Int) = wv (BitVec.ofNat 32 n3)) := by
    show _ = _
    rw [IntWalk.u32_in _ (by omega)]; exact wv_nat (by omega)
   have ct : wr.cell? ⟨w.heap.size + 1, t, none⟩ = some (.int .u32 (wv 0)) := by rw [BW.cell, arW_get (by omega), if_neg (by omega)]
   have HV : Hid (swW l t = wrd n0 n1 n2 n3) := by
    show _ = _
    rw [swW_lo ht, wordAt, ← HQ.out, ← HP1.out, ← HP2.out, ← HP3.out, e0, e1, e2, e3]
   clear get e0 e1 e2 e3 hby; go_upto_region 5 with fail; refine region_chain [35] [.early, .early, .early, .early, .early, .early, .early, .early, .early, .early, .early, .early, .early, .early, .early, .early, .early, .early, .early, .early, .early, .early, .early, .early, .early, .early, .early, .early, .early, .early, .early, .early, .early, .early, .early, .chain 0] [] [] (PhiWo5 (w.heap.size + 1) t q p1 p2 p3 b off c n0 n1 n2 n3) (fun w w' => Below w.heap.size w w') (SStore wr (w.heap.size + 1) t (.int .u32 (wv (wrd n0 n1 n2 n3)))) (by kernel_rfl) (by kernel_rfl) (by kernel_rfl) (by kernel_rfl) (sK (fun _ _ _ _ _ h => h) (sK (fun _ _ _ _ _ h => h) (sK (fun _ _ _ _ _ h => h) (sK (fun _ _ _ _ _ h => h) (sK (fun _ _ _ _ _ h => h) (sK (fun _ _ _ _ _ h => h) (sK (fun _ _ _ _ _ h => h) (sK (fun _ _ _ _ _ h => h) (sK (fun _ _ _ _ _ h => h) (sK (fun _ _ _ _ _ h => h) (sK (fun _ _ _ _ _ h => h) (sK (fun _ _ _ _ _ h => h) (sK (fun _ _ _ _ _ h => h) (sK (fun _ _ _ _ _ h => h) (sK (fun _ _ _ _ _ h => h) (sK (fun _ _ _ _ _ h => h) (sK (fun _ _ _ _ _ h => h) (sK (fun _ _ _ _ _ h => h) (sK (fun _ _ _ _ _ h => h) (sK (fun _ _ _ _ _ h => h) (sK (fun _ _ _ _ _ h => h) (sK (fun _ _ _ _ _ h => h) (sK (fun _ _ _ _ _ h => h) (sK (fun _ _ _ _ _ h => h) (sK (fun _ _ _ _ _ h => h) (sK (fun _ _ _ _ _ h => h) (sK (fun _ _ _ _ _ h => h) (sK (fun _ _ _ _ _ h => h) (sK (fun _ _ _ _ _ h => h) (sK (fun _ _ _ _ _ h => h) (sK (fun _ _ _ _ _ h => h) (sK (fun _ _ _ _ _ h => h) (sK (fun _ _ _ _ _ h => h) (sK (fun _ _ _ _ _ h => h) (sK (fun _ _ _ _ _ h => h) (sK (fun _ _ _ _ _ h => h) (sZ))))))))))))))))))))))))))))))))))))) PhiWo5.keepR PhiWo5.keepF (fun _ _ _ _ hR hS => Below.tr hS hR) (by rintro (_ | ⟨_, _ | _⟩) vs vs' w _ h <;> exact h) (fun _ => bD _) (fun vs => by simp only [fillR, Act.put, sA, sB, sC, Nat.zero_add, Nat.reduceAdd]; rfl) ?_ ?_
   ·refine sK ?_ (sK ?_ (sK ?_ (sK ?_ (sK ?_ (sK ?_ (sK ?_ (sK ?_ (sK ?_ (sK ?_ (sK ?_ (sK ?_ (sK ?_ (sK ?_ (sK ?_ (sK ?_ (sK ?_ (sK ?_ (sK ?_ (sK ?_ (sK ?_ (sK ?_ (sK ?_ (sK ?_ (sK ?_ (sK ?_ (sK ?_ (sK ?_ (sK ?_ (sK ?_ (sK ?_ (sK ?_ (sK ?_ (sK ?_ (sK ?_ (sK ?_ (sZ))))))))))))))))))))))))))))))))))))
    ·as_aux_lemma =>
     intro vs W hS hu hdep K hK; have HU := Lib.hid hu; clear hu; refine ⟨?_⟩; simp only [Act.put, sA, sB, sC, Nat.zero_add, Nat.reduceAdd] at hK ⊢; go_simp; with_reducible refine hK _ _ (Below.refl _ _) ?_
     exact rfl
    ·as_aux_lemma =>
     intro vs W hS hu hdep K hK; have HU := Lib.hid hu; clear hu; refine ⟨?_⟩; simp only [Act.put, sA, sB, sC, Nat.zero_add, Nat.reduceAdd] at hK ⊢; go_simp; with_reducible refine hK _ _ (Below.refl _ _) ?_
     exact rfl
    ·as_aux_lemma =>
     intro vs W hS hu hdep K hK; have HU := Lib.hid hu; clear hu; refine ⟨?_⟩; simp only [Act.put, sA, sB, sC, Nat.zero_add, Nat.reduceAdd] at hK ⊢; go_simp; with_reducible refine hK _ _ (Below.refl _ _) ?_
     exact rfl
    ·as_aux_lemma =>
     intro vs W hS hu hdep K hK; have HU := Lib.hid hu; clear hu; have d0 := hdep ⟨2, .data⟩ (by simp) rfl; simp only [PhiWo5] at d0; have g1 := hm4; refine ⟨?_⟩; simp only [Act.put, sA, sB, sC, Nat.zero_add, Nat.reduceAdd, d0] at hK ⊢; go_simp; with_reducible refine hK _ _ (Below.refl _ _) ?_
     exact rfl
    ·as_aux_lemma =>
     intro vs W hS hu hdep K hK; have HU := Lib.hid hu; clear hu; have d0 := hdep ⟨1, .data⟩ (by simp) rfl; simp only [PhiWo5] at d0; have d1 := hdep ⟨3, .data⟩ (by simp) rfl; simp only [PhiWo5] at d1; have g1 := lp0; refine ⟨?_⟩; simp only [Act.put, sA, sB, sC, Nat.zero_add, Nat.reduceAdd, d0, d1] at hK ⊢; go_simp; with_reducible refine hK _ _ (Below.refl _ _) ?_
     exact rfl
    ·as_aux_lemma =>
     intro vs W hS hu hdep K hK; have HU := Lib.hid hu; clear hu; have d0 := hdep ⟨4, .data⟩ (by simp) rfl; simp only [PhiWo5] at d0; have g1 := cell_keep hS c0; refine ⟨?_⟩; simp only [Act.put, sA, sB, sC, Nat.zero_add, Nat.reduceAdd, d0] at hK ⊢; go_simp; with_reducible refine hK _ _ (Below.refl _ _) ?_
     exact rfl
    ·as_aux_lemma =>
     intro vs W hS hu hdep K hK; have HU := Lib.hid hu; clear hu; have d0 := hdep ⟨5, .data⟩ (by simp) rfl; simp only [PhiWo5] at d0; refine ⟨?_⟩; simp only [Act.put, sA, sB, sC, Nat.zero_add, Nat.reduceAdd, d0] at hK ⊢; go_simp; with_reducible refine hK _ _ (Below.refl _ _) ?_
     exact (congrArg (Value.int .u32) h0.out)
    ·as_aux_lemma =>
     intro vs W hS hu hdep K hK; have HU := Lib.hid hu; clear hu; have d0 := hdep ⟨6, .data⟩ (by simp) rfl; simp only [PhiWo5] at d0; refine ⟨?_⟩; simp only [Act.put, sA, sB, sC, Nat.zero_add, Nat.reduceAdd, d0] at hK ⊢; go_simp; with_reducible refine hK _ _ (Below.refl _ _) ?_
     exact (congrArg (Value.int .u32) (wv_shl24 _))
    ·as_aux_lemma =>
     intro vs W hS hu hdep K hK; have HU := Lib.hid hu; clear hu; refine ⟨?_⟩; simp only [Act.put, sA, sB, sC, Nat.zero_add, Nat.reduceAdd] at hK ⊢; go_simp; with_reducible refine hK _ _ (Below.refl _ _) ?_
     exact rfl
    ·as_aux_lemma =>
     intro vs W hS hu hdep K hK; have HU := Lib.hid hu; clear hu; refine ⟨?_⟩; simp only [Act.put, sA, sB, sC, Nat.zero_add, Nat.reduceAdd] at hK ⊢; go_simp; with_reducible refine hK _ _ (Below.refl _ _) ?_
     exact rfl
    ·as_aux_lemma =>
     intro vs W hS hu hdep K hK; have HU := Lib.hid hu; clear hu; have d0 := hdep ⟨9, .data⟩ (by simp) rfl; simp only [PhiWo5] at d0; have g1 := hm4; refine ⟨?_⟩; simp only [Act.put, sA, sB, sC, Nat.zero_add, Nat.reduceAdd, d0] at hK ⊢; go_simp; with_reducible refine hK _ _ (Below.refl _ _) ?_
     exact rfl
    ·as_aux_lemma =>
     intro vs W hS hu hdep K hK; have HU := Lib.hid hu; clear hu; have d0 := hdep ⟨10, .data⟩ (by simp) rfl; simp only [PhiWo5] at d0; have g1 := hp1; refine ⟨?_⟩; simp only [Act.put, sA, sB, sC, Nat.zero_add, Nat.reduceAdd, d0] at hK ⊢; go_simp; with_reducible refine hK _ _ (Below.refl _ _) ?_
     exact rfl
    ·as_aux_lemma =>
     intro vs W hS hu hdep K hK; have HU := Lib.hid hu; clear hu; have d0 := hdep ⟨8, .data⟩ (by simp) rfl; simp only [PhiWo5] at d0; have d1 := hdep ⟨11, .data⟩ (by simp) rfl; simp only [PhiWo5] at d1; have g1 := lp1; refine ⟨?_⟩; simp only [Act.put, sA, sB, sC, Nat.zero_add, Nat.reduceAdd, d0, d1] at hK ⊢; go_simp; with_reducible refine hK _ _ (Below.refl _ _) ?_
     exact rfl
    ·as_aux_lemma =>
     intro vs W hS hu hdep K hK; have HU := Lib.hid hu; clear hu; have d0 := hdep ⟨12, .data⟩ (by simp) rfl; simp only [PhiWo5] at d0; have g1 := cell_keep hS c1; refine ⟨?_⟩; simp only [Act.put, sA, sB, sC, Nat.zero_add, Nat.reduceAdd, d0] at hK ⊢; go_simp; with_reducible refine hK _ _ (Below.refl _ _) ?_
     exact rfl
    ·as_aux_lemma =>
     intro vs W hS hu hdep K hK; have HU := Lib.hid hu; clear hu; have d0 := hdep ⟨13, .data⟩ (by simp) rfl; simp only [PhiWo5] at d0; refine ⟨?_⟩; simp only [Act.put, sA, sB, sC, Nat.zero_add, Nat.reduceAdd, d0] at hK ⊢; go_simp; with_reducible refine hK _ _ (Below.refl _ _) ?_
     exact (congrArg (Value.int .u32) h1.out)
    ·as_aux_lemma =>
     intro vs W hS hu hdep K hK; have HU := Lib.hid hu; clear hu; have d0 := hdep ⟨14, .data⟩ (by simp) rfl; simp only [PhiWo5] at d0; refine ⟨?_⟩; simp only [Act.put, sA, sB, sC, Nat.zero_add, Nat.reduceAdd, d0] at hK ⊢; go_simp; with_reducible refine hK _ _ (Below.refl _ _) ?_
     exact (congrArg (Value.int .u32) (wv_shl16 _))
    ·as_aux_lemma =>
     intro vs W hS hu hdep K hK; have HU := Lib.hid hu; clear hu; have d0 := hdep ⟨7, .data⟩ (by simp) rfl; simp only [PhiWo5] at d0; have d1 := hdep ⟨15, .data⟩ (by simp) rfl; simp only [PhiWo5] at d1; refine ⟨?_⟩; simp only [Act.put, sA, sB, sC, Nat.zero_add, Nat.reduceAdd, d0, d1] at hK ⊢; go_simp; with_reducible refine hK _ _ (Below.refl _ _) ?_
     exact (congrArg (Value.int .u32) (wv_or _ _))
    ·as_aux_lemma =>
     intro vs W hS hu hdep K hK; have HU := Lib.hid hu; clear hu; refine ⟨?_⟩; simp only [Act.put, sA, sB, sC, Nat.zero_add, Nat.reduceAdd] at hK ⊢; go_simp; with_reducible refine hK _ _ (Below.refl _ _) ?_
     exact rfl
    ·as_aux_lemma =>
     intro vs W hS hu hdep K hK; have HU := Lib.hid hu; clear hu; refine ⟨?_⟩; simp only [Act.put, sA, sB, sC, Nat.zero_add, Nat.reduceAdd] at hK ⊢; go_simp; with_reducible refine hK _ _ (Below.refl _ _) ?_
     exact rfl
    ·as_aux_lemma =>
     intro vs W hS hu hdep K hK; have HU := Lib.hid hu; clear hu; have d0 := hdep ⟨18, .data⟩ (by simp) rfl; simp only [PhiWo5] at d0; have g1 := hm4; refine ⟨?_⟩; simp only [Act.put, sA, sB, sC, Nat.zero_add, Nat.reduceAdd, d0] at hK ⊢; go_simp; with_reducible refine hK _ _ (Below.refl _ _) ?_
     exact rfl
    ·as_aux_lemma =>
     intro vs W hS hu hdep K hK; have HU := Lib.hid hu; clear hu; have d0 := hdep ⟨19, .data⟩ (by simp) rfl; simp only [PhiWo5] at d0; have g1 := hp2; refine ⟨?_⟩; simp only [Act.put, sA, sB, sC, Nat.zero_add, Nat.reduceAdd, d0] at hK ⊢; go_simp; with_reducible refine hK _ _ (Below.refl _ _) ?_
     exact rfl
    ·as_aux_lemma =>
     intro vs W hS hu hdep K hK; have HU := Lib.hid hu; clear hu; have d0 := hdep ⟨17, .data⟩ (by simp) rfl; simp only [PhiWo5] at d0; have d1 := hdep ⟨20, .data⟩ (by simp) rfl; simp only [PhiWo5] at d1; have g1 := lp2; refine ⟨?_⟩; simp only [Act.put, sA, sB, sC, Nat.zero_add, Nat.reduceAdd, d0, d1] at hK ⊢; go_simp; with_reducible refine hK _ _ (Below.refl _ _) ?_
     exact rfl
    ·as_aux_lemma =>
     intro vs W hS hu hdep K hK; have HU := Lib.hid hu; clear hu; have d0 := hdep ⟨21, .data⟩ (by simp) rfl; simp only [PhiWo5] at d0; have g1 := cell_keep hS c2; refine ⟨?_⟩; simp only [Act.put, sA, sB, sC, Nat.zero_add, Nat.reduceAdd, d0] at hK ⊢; go_simp; with_reducible refine hK _ _ (Below.refl _ _) ?_
     exact rfl
    ·as_aux_lemma =>
     intro vs W hS hu hdep K hK; have HU := Lib.hid hu; clear hu; have d0 := hdep ⟨22, .data⟩ (by simp) rfl; simp only [PhiWo5] at d0; refine ⟨?_⟩; simp only [Act.put, sA, sB, sC, Nat.zero_add, Nat.reduceAdd, d0] at hK ⊢; go_simp; with_reducible refine hK _ _ (Below.refl _ _) ?_
     exact (congrArg (Value.int .u32) h2.out)
    ·as_aux_lemma =>
     intro vs W hS hu hdep K hK; have HU := Lib.hid hu; clear hu; have d0 := hdep ⟨23, .data⟩ (by simp) rfl; simp only [PhiWo5] at d0; refine ⟨?_⟩; simp only [Act.put, sA, sB, sC, Nat.zero_add, Nat.reduceAdd, d0] at hK ⊢; go_simp; with_reducible refine hK _ _ (Below.refl _ _) ?_
     exact (congrArg (Value.int .u32) (wv_shl8 _))
    ·as_aux_lemma =>
     intro vs W hS hu hdep K hK; have HU := Lib.hid hu; clear hu; have d0 := hdep ⟨16, .data⟩ (by simp) rfl; simp only [PhiWo5] at d0; have d1 := hdep ⟨24, .data⟩ (by simp) rfl; simp only [PhiWo5] at d1; refine ⟨?_⟩; simp only [Act.put, sA, sB, sC, Nat.zero_add, Nat.reduceAdd, d0, d1] at hK ⊢; go_simp; with_reducible refine hK _ _ (Below.refl _ _) ?_
     exact (congrArg (Value.int .u32) (wv_or _ _))
    ·as_aux_lemma =>
     intro vs W hS hu hdep K hK; have HU := Lib.hid hu; clear hu; refine ⟨?_⟩; simp only [Act.put, sA, sB, sC, Nat.zero_add, Nat.reduceAdd] at hK ⊢; go_simp; with_reducible refine hK _ _ (Below.refl _ _) ?_
     exact rfl
    ·as_aux_lemma =>
     intro vs W hS hu hdep K hK; have HU := Lib.hid hu; clear hu; refine ⟨?_⟩; simp only [Act.put, sA, sB, sC, Nat.zero_add, Nat.reduceAdd] at hK ⊢; go_simp; with_reducible refine hK _ _ (Below.refl _ _) ?_
     exact rfl
    ·as_aux_lemma =>
     intro vs W hS hu hdep K hK; have HU := Lib.hid hu; clear hu; have d0 := hdep ⟨27, .data⟩ (by simp) rfl; simp only [PhiWo5] at d0; have g1 := hm4; refine ⟨?_⟩; simp only [Act.put, sA, sB, sC, Nat.zero_add, Nat.reduceAdd, d0] at hK ⊢; go_simp; with_reducible refine hK _ _ (Below.refl _ _) ?_
     exact rfl
    ·as_aux_lemma =>
     intro vs W hS hu hdep K hK; have HU := Lib.hid hu; clear hu; have d0 := hdep ⟨28, .data⟩ (by simp) rfl; simp only [PhiWo5] at d0; have g1 := hp3; refine ⟨?_⟩; simp only [Act.put, sA, sB, sC, Nat.zero_add, Nat.reduceAdd, d0] at hK ⊢; go_simp; with_reducible refine hK _ _ (Below.refl _ _) ?_
     exact rfl
    ·as_aux_lemma =>
     intro vs W hS hu hdep K hK; have HU := Lib.hid hu; clear hu; have d0 := hdep ⟨26, .data⟩ (by simp) rfl; simp only [PhiWo5] at d0; have d1 := hdep ⟨29, .data⟩ (by simp) rfl; simp only [PhiWo5] at d1; have g1 := lp3; refine ⟨?_⟩; simp only [Act.put, sA, sB, sC, Nat.zero_add, Nat.reduceAdd, d0, d1] at hK ⊢; go_simp; with_reducible refine hK _ _ (Below.refl _ _) ?_
     exact rfl
    ·as_aux_lemma =>
     intro vs W hS hu hdep K hK; have HU := Lib.hid hu; clear hu; have d0 := hdep ⟨30, .data⟩ (by simp) rfl; simp only [PhiWo5] at d0; have g1 := cell_keep hS c3; refine ⟨?_⟩; simp only [Act.put, sA, sB, sC, Nat.zero_add, Nat.reduceAdd, d0] at hK ⊢; go_simp; with_reducible refine hK _ _ (Below.refl _ _) ?_
     exact rfl
    ·as_aux_lemma =>
     intro vs W hS hu hdep K hK; have HU := Lib.hid hu; clear hu; have d0 := hdep ⟨31, .data⟩ (by simp) rfl; simp only [PhiWo5] at d0; refine ⟨?_⟩; simp only [Act.put, sA, sB, sC, Nat.zero_add, Nat.reduceAdd, d0] at hK ⊢; go_simp; with_reducible refine hK _ _ (Below.refl _ _) ?_
     exact (congrArg (Value.int .u32) h3.out)
    ·as_aux_lemma =>
     intro vs W hS hu hdep K hK; have HU := Lib.hid hu; clear hu; have d0 := hdep ⟨25, .data⟩ (by simp) rfl; simp only [PhiWo5] at d0; have d1 := hdep ⟨32, .data⟩ (by simp) rfl; simp only [PhiWo5] at d1; refine ⟨?_⟩; simp only [Act.put, sA, sB, sC, Nat.zero_add, Nat.reduceAdd, d0, d1] at hK ⊢; go_simp; with_reducible refine hK _ _ (Below.refl _ _) ?_
     exact (congrArg (Value.int .u32) (wv_or _ _))
    ·as_aux_lemma =>
     intro vs W hS hu hdep K hK; have HU := Lib.hid hu; clear hu; have d0 := hdep ⟨0, .data⟩ (by simp) rfl; simp only [PhiWo5] at d0; refine ⟨?_⟩; simp only [Act.put, sA, sB, sC, Nat.zero_add, Nat.reduceAdd, d0] at hK ⊢; go_simp; with_reducible refine hK _ _ (Below.refl _ _) ?_
     exact rfl
    ·as_aux_lemma =>
     intro vs W hS hdep K hK; have d0 := hdep ⟨34, .data⟩ (by simp) rfl (by rfl); simp only [PhiWo5] at d0; have d1 := hdep ⟨33, .data⟩ (by simp) rfl (by rfl); simp only [PhiWo5] at d1; have hS : Below wr.heap.size wr W := hS; have f1 := cell_keep hS ct; have f2 := (Blk.below BW hS BW.lt).frozen t; refine ⟨?_⟩; simp only [Act.put, sA, sB, sC, Nat.zero_add, Nat.reduceAdd, d0, d1] at hK ⊢; go_simp; with_reducible refine hK undef _ ?_
     exact ⟨_, hS, rfl⟩
   ·intro vs W hS _; have hS2 : SStore wr (w.heap.size + 1) t (.int .u32 (wv (wrd n0 n1 n2 n3))) [vs 35] vs W := hS; obtain ⟨W0, hb0, rfl⟩ := hS2; rw [← HV.out]
    have HBN : Hid (Blk (W0.setCell ⟨w.heap.size + 1, t, none⟩ (.int .u32 (wv (swW l t)))) (w.heap.size + 1) 180 (arW 64 fun j => if j < t + 1 then swW l j else 0)) := by
     have h2 := (Blk.below BW hb0 BW.lt).set_ t (.int .u32 (wv (swW l t))); rw [arW_set] at h2
     show Blk _ _ _ _
     rw [arW_congr (g := fun j => if j = t then swW l t else if j < t then swW l j else 0)]
     ·exact h2
     ·intro j hj; by_cases h1 : j = t
      ·subst h1; rw [if_pos (by omega), if_pos rfl]
      ·by_cases h2 : j < t
       ·rw [if_pos (by omega), if_neg h1, if_pos h2]
       ·rw [if_neg (by omega), if_neg h1, if_neg h2]
    have HRN : Hid (Blk (W0.setCell ⟨w.heap.size + 1, t, none⟩ (.int .u32 (wv (swW l t)))) w.heap.size 180 (arW 64 fun _ => 0)) := (Blk.below HR.out hb0 HR.out.lt).far (by simp) _; have hbeN : Below w.heap.size w (W0.setCell ⟨w.heap.size + 1, t, none⟩ (.int .u32 (wv (swW l t)))) := (Below.tr hbe hb0).setCell (by simp) _; clear hS hb0 BW HR hbe; go_wp2_with fail
    go_roundg (G - 1)
    case measure => omega
    case rel => exact ⟨t + 1, by go_num, by omega, HRN, HBN, hbeN⟩
  have t1 : decide ((t : Int) < 16) = false := by simp; omega
  have HT16 : Hid (t = 16) := (by show _ = _; omega); rw [HT16.out] at HB; clear hby ht; go_wp2_with fail
  go_loopg [5] 48 (fun mm x wr => ∃ t : Nat, x = .int .i64 t ∧ t + mm = 64 ∧ 16 ≤ t ∧ Hid (Blk wr w.heap.size 180 (arW 64 fun _ => 0)) ∧ Hid (Blk wr (w.heap.size + 1) 180 (arW 64 fun j => if j < t then swW l j else 0)) ∧ Below w.heap.size w wr)
  case atStart => exact ⟨16, rfl, rfl, by omega, HR, HB, hbe⟩
  case round =>
   clear HR HB hbe htm; obtain ⟨G2, hG2⟩ : ∃ G, G = gk := ⟨gk, rfl⟩; subst hG2; obtain ⟨t, rfl, htm, ht16, HR, HB, hbe⟩ := hrel; have h16 : ¬ t < 16 := by omega
   by_cases ht : t < 64
   rotate_left
   ·have t1 : decide ((t : Int) < 64) = false := by simp; omega
    obtain rfl : t = 64 := by omega
    have BF : Blk wr (w.heap.size + 1) 180 (arL 64 (swW l)).toArray := by
     have e : arW 64 (fun j => if j < 64 then swW l j else 0) = arW 64 (swW l) := arW_congr fun j hj => if_pos hj
     have h2 := HB.out; rw [e] at h2; exact h2
    go_wp2_with (first | (refine wpList_load_mid rfl 180 (.tmp 3) rfl (w.heap.size + 1) 0 rfl (arL 64 (swW l)) _ (Blk.range BF) Tryz.underlying180 rfl infoW64 ?_; simp only [Act.put, sA, sB, sC]) | (refine wpList_store_mid rfl 180 (.tmp 2) (.tmp 100) rfl w.heap.size 0 (arW 64 (swW l)) rfl rfl (Blk.there HR.out (by rw [arW_size, arW_size])) infoW64s (all_oneCell_toArray arW_one) ?_))
    (try simp only [Exit.inBlock, Exit.then])
    exact bodyPost_ret (results_cell_row rfl _ _ w.heap.size 180 _ (0, 0) _ rfl (Blk.setAll HR.out (by rw [arW_size, arW_size])) Tryz.underlying180 rfl infoW64s) rfl ⟨rfl, below_setAll (g := w.heap.size) (Nat.le_refl _) _ 0 hbe⟩
   have t1 : decide ((t : Int) < 64) = true := by simp; omega
   have lt : (t : Int) < 64 := by omega
   have BW := HB.out; obtain ⟨a, HA⟩ : ∃ a : Nat, Hid (t = a + 16) := ⟨t - 16, (by show _ = _; omega)⟩; obtain ⟨a15, HA15⟩ : ∃ a : Nat, Hid (a + 15 = t) := ⟨t - 15, (by show _ = _; omega)⟩; obtain ⟨a2, HA2⟩ : ∃ a : Nat, Hid (a + 2 = t) := ⟨t - 2, (by show _ = _; omega)⟩; obtain ⟨a7, HA7⟩ : ∃ a : Nat, Hid (a + 7 = t) := ⟨t - 7, (by show _ = _; omega)⟩; have w15 : IntKind.i64.wrap ((t : Int) - 15) = (a15 : Int) := by rw [IntWalk.i64_in _ (by omega)]; have := HA15.out; omega
   have w2' : IntKind.i64.wrap ((t : Int) - 2) = (a2 : Int) := by rw [IntWalk.i64_in _ (by omega)]; have := HA2.out; omega
   have w7 : IntKind.i64.wrap ((t : Int) - 7) = (a7 : Int) := by rw [IntWalk.i64_in _ (by omega)]; have := HA7.out; omega
   have w16 : IntKind.i64.wrap ((t : Int) - 16) = (a : Int) := by rw [IntWalk.i64_in _ (by omega)]; have := HA.out; omega
   have l15 : (a15 : Int) < 64 := by have := HA15.out; omega
   have l2 : (a2 : Int) < 64 := by have := HA2.out; omega
   have l7 : (a7 : Int) < 64 := by have := HA7.out; omega
   have l16 : (a : Int) < 64 := by have := HA.out; omega
   have cell : ∀ m, m < t → wr.cell? ⟨w.heap.size + 1, m, none⟩ = some (.int .u32 (wv (swW l m))) := fun m hm => by rw [BW.cell, arW_get (by omega), if_pos hm]
   have c15 := cell a15 (by have := HA15.out; omega); have c2 := cell a2 (by have := HA2.out; omega); have c7 := cell a7 (by have := HA7.out; omega); have c16 := cell a (by have := HA.out; omega); have ct : wr.cell? ⟨w.heap.size + 1, t, none⟩ = some (.int .u32 (wv 0)) := by rw [BW.cell, arW_get ht, if_neg (by omega)]
   have e0 : bits .xor .u32 (bits .xor .u32 (wv (rr 7 (swW l a15))) (wv (rr 18 (swW l a15)))) (wv (swW l a15) / 8) = wv (sg0 (swW l a15)) := by rw [wv_shr3, wv_xor, wv_xor]; rfl
   have e1 : bits .xor .u32 (bits .xor .u32 (wv (rr 17 (swW l a2))) (wv (rr 19 (swW l a2)))) (wv (swW l a2) / 1024) = wv (sg1 (swW l a2)) := by rw [wv_shr10, wv_xor, wv_xor]; rfl
   have HV : Hid (swW l t = swW l a + sg0 (swW l a15) + swW l a7 + sg1 (swW l a2)) := by
    show _ = _
    rw [swW_hi h16]; rw [show t - 16 = a by have := HA.out; omega, show t - 15 = a15 by have := HA15.out; omega, show t - 7 = a7 by have := HA7.out; omega, show t - 2 = a2 by have := HA2.out; omega]
   clear cell; go_upto_region 9 with fail; refine region_invF (PhiWo9 (w.heap.size + 1) t a15 (swW l a15)) (fun w w' => Below w.heap.size w w') (fun Y => Below wr.heap.size wr Y) (by kernel_rfl) (by kernel_rfl) (by kernel_rfl) PhiWo9.keep (fun _ _ hR hS => Below.tr hS hR) (bD _) (fun vs => by simp only [fillR, Act.put, sA, sB, sC, Nat.zero_add, Nat.reduceAdd]; rfl) ?_ ?_
   ·refine sK ?_ (sK ?_ (sK ?_ (sK ?_ (sK ?_ (sK ?_ (sK ?_ (sK ?_ (sK ?_ (sK ?_ (sK ?_ (sK ?_ (sK ?_ (sK ?_ (sK ?_ (sK ?_ (sK ?_ (sK ?_ (sZ))))))))))))))))))
    ·as_aux_lemma =>
     intro vs W hS hdep K hK; refine ⟨?_⟩; simp only [Act.put, sA, sB, sC, Nat.zero_add, Nat.reduceAdd] at hK ⊢; go_simp; with_reducible refine hK _ _ (Below.refl _ _) ?_
     exact rfl
    ·as_aux_lemma =>
     intro vs W hS hdep K hK; have d0 := hdep ⟨0, .data⟩ (by simp) rfl; simp only [PhiWo9] at d0; have g1 := w15; refine ⟨?_⟩; simp only [Act.put, sA, sB, sC, Nat.zero_add, Nat.reduceAdd, d0] at hK ⊢; go_simp; with_reducible refine hK _ _ (Below.refl _ _) ?_
     exact rfl
    ·as_aux_lemma =>
     intro vs W hS hdep K hK; have d0 := hdep ⟨1, .data⟩ (by simp) rfl; simp only [PhiWo9] at d0; refine ⟨?_⟩; simp only [Act.put, sA, sB, sC, Nat.zero_add, Nat.reduceAdd, d0] at hK ⊢; go_simp; with_reducible refine hK _ _ (Below.refl _ _) ?_
     exact rfl
    ·as_aux_lemma =>
     intro vs W hS hdep K hK; have d0 := hdep ⟨2, .data⟩ (by simp) rfl; simp only [PhiWo9] at d0; have g1 := cell_keep hS c15; refine ⟨?_⟩; simp only [Act.put, sA, sB, sC, Nat.zero_add, Nat.reduceAdd, d0] at hK ⊢; go_simp; with_reducible refine hK _ _ (Below.refl _ _) ?_
     exact rfl
    ·as_aux_lemma =>
     intro vs W hS hdep K hK; have d0 := hdep ⟨3, .data⟩ (by simp) rfl; simp only [PhiWo9] at d0; refine ⟨?_⟩; simp only [Act.put, sA, sB, sC, Nat.zero_add, Nat.reduceAdd, d0] at hK ⊢; go_simp; refine (rotr7_n (swW l a15) _).mono ?_; rintro e w' ⟨rfl, m, rfl⟩; go_wp2_with fail; with_reducible refine hK _ _ (below_drewN _ _) ?_
     exact rfl
    ·as_aux_lemma =>
     intro vs W hS hdep K hK; refine ⟨?_⟩; simp only [Act.put, sA, sB, sC, Nat.zero_add, Nat.reduceAdd] at hK ⊢; go_simp; with_reducible refine hK _ _ (Below.refl _ _) ?_
     exact rfl
    ·as_aux_lemma =>
     intro vs W hS hdep K hK; have d0 := hdep ⟨5, .data⟩ (by simp) rfl; simp only [PhiWo9] at d0; have g1 := w15; refine ⟨?_⟩; simp only [Act.put, sA, sB, sC, Nat.zero_add, Nat.reduceAdd, d0] at hK ⊢; go_simp; with_reducible refine hK _ _ (Below.refl _ _) ?_
     exact rfl
    ·as_aux_lemma =>
     intro vs W hS hdep K hK; have d0 := hdep ⟨6, .data⟩ (by simp) rfl; simp only [PhiWo9] at d0; refine ⟨?_⟩; simp only [Act.put, sA, sB, sC, Nat.zero_add, Nat.reduceAdd, d0] at hK ⊢; go_simp; with_reducible refine hK _ _ (Below.refl _ _) ?_
     exact rfl
    ·as_aux_lemma =>
     intro vs W hS hdep K hK; have d0 := hdep ⟨7, .data⟩ (by simp) rfl; simp only [PhiWo9] at d0; have g1 := cell_keep hS c15; refine ⟨?_⟩; simp only [Act.put, sA, sB, sC, Nat.zero_add, Nat.reduceAdd, d0] at hK ⊢; go_simp; with_reducible refine hK _ _ (Below.refl _ _) ?_
     exact rfl
    ·as_aux_lemma =>
     intro vs W hS hdep K hK; have d0 := hdep ⟨8, .data⟩ (by simp) rfl; simp only [PhiWo9] at d0; refine ⟨?_⟩; simp only [Act.put, sA, sB, sC, Nat.zero_add, Nat.reduceAdd, d0] at hK ⊢; go_simp; refine (rotr18_n (swW l a15) _).mono ?_; rintro e w' ⟨rfl, m, rfl⟩; go_wp2_with fail; with_reducible refine hK _ _ (below_drewN _ _) ?_
     exact rfl
    ·as_aux_lemma =>
     intro vs W hS hdep K hK; have d0 := hdep ⟨4, .data⟩ (by simp) rfl; simp only [PhiWo9] at d0; have d1 := hdep ⟨9, .data⟩ (by simp) rfl; simp only [PhiWo9] at d1; refine ⟨?_⟩; simp only [Act.put, sA, sB, sC, Nat.zero_add, Nat.reduceAdd, d0, d1] at hK ⊢; go_simp; with_reducible refine hK _ _ (Below.refl _ _) ?_
     exact (congrArg (Value.int .u32) (wv_xor _ _))
    ·as_aux_lemma =>
     intro vs W hS hdep K hK; refine ⟨?_⟩; simp only [Act.put, sA, sB, sC, Nat.zero_add, Nat.reduceAdd] at hK ⊢; go_simp; with_reducible refine hK _ _ (Below.refl _ _) ?_
     exact rfl
    ·as_aux_lemma =>
     intro vs W hS hdep K hK; have d0 := hdep ⟨11, .data⟩ (by simp) rfl; simp only [PhiWo9] at d0; have g1 := w15; refine ⟨?_⟩; simp only [Act.put, sA, sB, sC, Nat.zero_add, Nat.reduceAdd, d0] at hK ⊢; go_simp; with_reducible refine hK _ _ (Below.refl _ _) ?_
     exact rfl
    ·as_aux_lemma =>
     intro vs W hS hdep K hK; have d0 := hdep ⟨12, .data⟩ (by simp) rfl; simp only [PhiWo9] at d0; refine ⟨?_⟩; simp only [Act.put, sA, sB, sC, Nat.zero_add, Nat.reduceAdd, d0] at hK ⊢; go_simp; with_reducible refine hK _ _ (Below.refl _ _) ?_
     exact rfl
    ·as_aux_lemma =>
     intro vs W hS hdep K hK; have d0 := hdep ⟨13, .data⟩ (by simp) rfl; simp only [PhiWo9] at d0; have g1 := cell_keep hS c15; refine ⟨?_⟩; simp only [Act.put, sA, sB, sC, Nat.zero_add, Nat.reduceAdd, d0] at hK ⊢; go_simp; with_reducible refine hK _ _ (Below.refl _ _) ?_
     exact rfl
    ·as_aux_lemma =>
     intro vs W hS hdep K hK; have d0 := hdep ⟨14, .data⟩ (by simp) rfl; simp only [PhiWo9] at d0; refine ⟨?_⟩; simp only [Act.put, sA, sB, sC, Nat.zero_add, Nat.reduceAdd, d0] at hK ⊢; go_simp; with_reducible refine hK _ _ (Below.refl _ _) ?_
     exact (congrArg (Value.int .u32) (wv_shr3 _))
    ·as_aux_lemma =>
     intro vs W hS hdep K hK; have d0 := hdep ⟨10, .data⟩ (by simp) rfl; simp only [PhiWo9] at d0; have d1 := hdep ⟨15, .data⟩ (by simp) rfl; simp only [PhiWo9] at d1; refine ⟨?_⟩; simp only [Act.put, sA, sB, sC, Nat.zero_add, Nat.reduceAdd, d0, d1] at hK ⊢; go_simp; with_reducible refine hK _ _ (Below.refl _ _) ?_
     exact (congrArg (Value.int .u32) (wv_xor _ _))
    ·as_aux_lemma =>
     intro vs W hS hdep K hK; have d0 := hdep ⟨16, .data⟩ (by simp) rfl; simp only [PhiWo9] at d0; refine ⟨?_⟩; simp only [Act.put, sA, sB, sC, Nat.zero_add, Nat.reduceAdd, d0] at hK ⊢; go_simp; with_reducible refine hK _ _ (Below.refl _ _) ?_
     exact rfl
   ·intro vs wx hS hv; have u17 := hv 17 (by simp); simp only [PhiWo9] at u17; simp only [Act.put, sA, sB, sC, Nat.zero_add, Nat.reduceAdd, u17]; have hbe := Below.tr hbe hS; have HR : Hid (Blk wx w.heap.size 180 (arW 64 fun _ => 0)) := Blk.below HR.out hS HR.out.lt; have BW := Blk.below BW hS BW.lt; have c7 := cell_keep hS c7; have c2 := cell_keep hS c2; have c16 := cell_keep hS c16; have ct := cell_keep hS ct; clear u17 hv hS HB c15 w15 l15; go_upto_region 10 with fail; refine region_invF (PhiWo10 (w.heap.size + 1) t a2 (swW l a2)) (fun w w' => Below w.heap.size w w') (fun Y => Below wx.heap.size wx Y) (by kernel_rfl) (by kernel_rfl) (by kernel_rfl) PhiWo10.keep (fun _ _ hR hS => Below.tr hS hR) (bD _) (fun vs => by simp only [fillR, Act.put, sA, sB, sC, Nat.zero_add, Nat.reduceAdd]; rfl) ?_ ?_
    ·refine sK ?_ (sK ?_ (sK ?_ (sK ?_ (sK ?_ (sK ?_ (sK ?_ (sK ?_ (sK ?_ (sK ?_ (sK ?_ (sK ?_ (sK ?_ (sK ?_ (sK ?_ (sK ?_ (sK ?_ (sK ?_ (sZ))))))))))))))))))
     ·as_aux_lemma =>
      intro vs W hS hdep K hK; refine ⟨?_⟩; simp only [Act.put, sA, sB, sC, Nat.zero_add, Nat.reduceAdd] at hK ⊢; go_simp; with_reducible refine hK _ _ (Below.refl _ _) ?_
      exact rfl
     ·as_aux_lemma =>
      intro vs W hS hdep K hK; have d0 := hdep ⟨0, .data⟩ (by simp) rfl; simp only [PhiWo10] at d0; have g1 := w2'; refine ⟨?_⟩; simp only [Act.put, sA, sB, sC, Nat.zero_add, Nat.reduceAdd, d0] at hK ⊢; go_simp; with_reducible refine hK _ _ (Below.refl _ _) ?_
      exact rfl
     ·as_aux_lemma =>
      intro vs W hS hdep K hK; have d0 := hdep ⟨1, .data⟩ (by simp) rfl; simp only [PhiWo10] at d0; refine ⟨?_⟩; simp only [Act.put, sA, sB, sC, Nat.zero_add, Nat.reduceAdd, d0] at hK ⊢; go_simp; with_reducible refine hK _ _ (Below.refl _ _) ?_
      exact rfl
     ·as_aux_lemma =>
      intro vs W hS hdep K hK; have d0 := hdep ⟨2, .data⟩ (by simp) rfl; simp only [PhiWo10] at d0; have g1 := cell_keep hS c2; refine ⟨?_⟩; simp only [Act.put, sA, sB, sC, Nat.zero_add, Nat.reduceAdd, d0] at hK ⊢; go_simp; with_reducible refine hK _ _ (Below.refl _ _) ?_
      exact rfl
     ·as_aux_lemma =>
      intro vs W hS hdep K hK; have d0 := hdep ⟨3, .data⟩ (by simp) rfl; simp only [PhiWo10] at d0; refine ⟨?_⟩; simp only [Act.put, sA, sB, sC, Nat.zero_add, Nat.reduceAdd, d0] at hK ⊢; go_simp; refine (rotr17_n (swW l a2) _).mono ?_; rintro e w' ⟨rfl, m, rfl⟩; go_wp2_with fail; with_reducible refine hK _ _ (below_drewN _ _) ?_
      exact rfl
     ·as_aux_lemma =>
      intro vs W hS hdep K hK; refine ⟨?_⟩; simp only [Act.put, sA, sB, sC, Nat.zero_add, Nat.reduceAdd] at hK ⊢; go_simp; with_reducible refine hK _ _ (Below.refl _ _) ?_
      exact rfl
     ·as_aux_lemma =>
      intro vs W hS hdep K hK; have d0 := hdep ⟨5, .data⟩ (by simp) rfl; simp only [PhiWo10] at d0; have g1 := w2'; refine ⟨?_⟩; simp only [Act.put, sA, sB, sC, Nat.zero_add, Nat.reduceAdd, d0] at hK ⊢; go_simp; with_reducible refine hK _ _ (Below.refl _ _) ?_
      exact rfl
     ·as_aux_lemma =>
      intro vs W hS hdep K hK; have d0 := hdep ⟨6, .data⟩ (by simp) rfl; simp only [PhiWo10] at d0; refine ⟨?_⟩; simp only [Act.put, sA, sB, sC, Nat.zero_add, Nat.reduceAdd, d0] at hK ⊢; go_simp; with_reducible refine hK _ _ (Below.refl _ _) ?_
      exact rfl
     ·as_aux_lemma =>
      intro vs W hS hdep K hK; have d0 := hdep ⟨7, .data⟩ (by simp) rfl; simp only [PhiWo10] at d0; have g1 := cell_keep hS c2; refine ⟨?_⟩; simp only [Act.put, sA, sB, sC, Nat.zero_add, Nat.reduceAdd, d0] at hK ⊢; go_simp; with_reducible refine hK _ _ (Below.refl _ _) ?_
      exact rfl
     ·as_aux_lemma =>
      intro vs W hS hdep K hK; have d0 := hdep ⟨8, .data⟩ (by simp) rfl; simp only [PhiWo10] at d0; refine ⟨?_⟩; simp only [Act.put, sA, sB, sC, Nat.zero_add, Nat.reduceAdd, d0] at hK ⊢; go_simp; refine (rotr19_n (swW l a2) _).mono ?_; rintro e w' ⟨rfl, m, rfl⟩; go_wp2_with fail; with_reducible refine hK _ _ (below_drewN _ _) ?_
      exact rfl
     ·as_aux_lemma =>
      intro vs W hS hdep K hK; have d0 := hdep ⟨4, .data⟩ (by simp) rfl; simp only [PhiWo10] at d0; have d1 := hdep ⟨9, .data⟩ (by simp) rfl; simp only [PhiWo10] at d1; refine ⟨?_⟩; simp only [Act.put, sA, sB, sC, Nat.zero_add, Nat.reduceAdd, d0, d1] at hK ⊢; go_simp; with_reducible refine hK _ _ (Below.refl _ _) ?_
      exact (congrArg (Value.int .u32) (wv_xor _ _))
     ·as_aux_lemma =>
      intro vs W hS hdep K hK; refine ⟨?_⟩; simp only [Act.put, sA, sB, sC, Nat.zero_add, Nat.reduceAdd] at hK ⊢; go_simp; with_reducible refine hK _ _ (Below.refl _ _) ?_
      exact rfl
     ·as_aux_lemma =>
      intro vs W hS hdep K hK; have d0 := hdep ⟨11, .data⟩ (by simp) rfl; simp only [PhiWo10] at d0; have g1 := w2'; refine ⟨?_⟩; simp only [Act.put, sA, sB, sC, Nat.zero_add, Nat.reduceAdd, d0] at hK ⊢; go_simp; with_reducible refine hK _ _ (Below.refl _ _) ?_
      exact rfl
     ·as_aux_lemma =>
      intro vs W hS hdep K hK; have d0 := hdep ⟨12, .data⟩ (by simp) rfl; simp only [PhiWo10] at d0; refine ⟨?_⟩; simp only [Act.put, sA, sB, sC, Nat.zero_add, Nat.reduceAdd, d0] at hK ⊢; go_simp; with_reducible refine hK _ _ (Below.refl _ _) ?_
      exact rfl
     ·as_aux_lemma =>
      intro vs W hS hdep K hK; have d0 := hdep ⟨13, .data⟩ (by simp) rfl; simp only [PhiWo10] at d0; have g1 := cell_keep hS c2; refine ⟨?_⟩; simp only [Act.put, sA, sB, sC, Nat.zero_add, Nat.reduceAdd, d0] at hK ⊢; go_simp; with_reducible refine hK _ _ (Below.refl _ _) ?_
      exact rfl
     ·as_aux_lemma =>
      intro vs W hS hdep K hK; have d0 := hdep ⟨14, .data⟩ (by simp) rfl; simp only [PhiWo10] at d0; refine ⟨?_⟩; simp only [Act.put, sA, sB, sC, Nat.zero_add, Nat.reduceAdd, d0] at hK ⊢; go_simp; with_reducible refine hK _ _ (Below.refl _ _) ?_
      exact (congrArg (Value.int .u32) (wv_shr10 _))
     ·as_aux_lemma =>
      intro vs W hS hdep K hK; have d0 := hdep ⟨10, .data⟩ (by simp) rfl; simp only [PhiWo10] at d0; have d1 := hdep ⟨15, .data⟩ (by simp) rfl; simp only [PhiWo10] at d1; refine ⟨?_⟩; simp only [Act.put, sA, sB, sC, Nat.zero_add, Nat.reduceAdd, d0, d1] at hK ⊢; go_simp; with_reducible refine hK _ _ (Below.refl _ _) ?_
      exact (congrArg (Value.int .u32) (wv_xor _ _))
     ·as_aux_lemma =>
      intro vs W hS hdep K hK; have d0 := hdep ⟨16, .data⟩ (by simp) rfl; simp only [PhiWo10] at d0; refine ⟨?_⟩; simp only [Act.put, sA, sB, sC, Nat.zero_add, Nat.reduceAdd, d0] at hK ⊢; go_simp; with_reducible refine hK _ _ (Below.refl _ _) ?_
      exact rfl
    ·intro vs wy hS hv; have u17 := hv 17 (by simp); simp only [PhiWo10] at u17; simp only [Act.put, sA, sB, sC, Nat.zero_add, Nat.reduceAdd, u17]; have hbe := Below.tr hbe hS; have HR : Hid (Blk wy w.heap.size 180 (arW 64 fun _ => 0)) := Blk.below HR.out hS HR.out.lt; have BW := Blk.below BW hS BW.lt; have c7 := cell_keep hS c7; have c16 := cell_keep hS c16; have ct := cell_keep hS ct; clear u17 hv hS c2 w2' l2; go_upto_region 11 with fail; refine region_chain [15] [.early, .early, .early, .early, .early, .early, .early, .early, .early, .early, .early, .early, .early, .early, .early, .chain 0] [] [] (PhiWo11 (w.heap.size + 1) t a a7 (swW l a) (sg0 (swW l a15)) (swW l a7) (sg1 (swW l a2))) (fun w w' => Below w.heap.size w w') (SStore wy (w.heap.size + 1) t (.int .u32 (wv (swW l a + sg0 (swW l a15) + swW l a7 + sg1 (swW l a2))))) (by kernel_rfl) (by kernel_rfl) (by kernel_rfl) (by kernel_rfl) (sK (fun _ _ _ _ _ h => h) (sK (fun _ _ _ _ _ h => h) (sK (fun _ _ _ _ _ h => h) (sK (fun _ _ _ _ _ h => h) (sK (fun _ _ _ _ _ h => h) (sK (fun _ _ _ _ _ h => h) (sK (fun _ _ _ _ _ h => h) (sK (fun _ _ _ _ _ h => h) (sK (fun _ _ _ _ _ h => h) (sK (fun _ _ _ _ _ h => h) (sK (fun _ _ _ _ _ h => h) (sK (fun _ _ _ _ _ h => h) (sK (fun _ _ _ _ _ h => h) (sK (fun _ _ _ _ _ h => h) (sK (fun _ _ _ _ _ h => h) (sK (fun _ _ _ _ _ h => h) (sZ))))))))))))))))) PhiWo11.keepR PhiWo11.keepF (fun _ _ _ _ hR hS => Below.tr hS hR) (by rintro (_ | ⟨_, _ | _⟩) vs vs' w _ h <;> exact h) (fun _ => bD _) (fun vs => by simp only [fillR, Act.put, sA, sB, sC, Nat.zero_add, Nat.reduceAdd]; rfl) ?_ ?_
     ·refine sK ?_ (sK ?_ (sK ?_ (sK ?_ (sK ?_ (sK ?_ (sK ?_ (sK ?_ (sK ?_ (sK ?_ (sK ?_ (sK ?_ (sK ?_ (sK ?_ (sK ?_ (sK ?_ (sZ))))))))))))))))
      ·as_aux_lemma =>
       intro vs W hS hu hdep K hK; have HU := Lib.hid hu; clear hu; refine ⟨?_⟩; simp only [Act.put, sA, sB, sC, Nat.zero_add, Nat.reduceAdd] at hK ⊢; go_simp; with_reducible refine hK _ _ (Below.refl _ _) ?_
       exact rfl
      ·as_aux_lemma =>
       intro vs W hS hu hdep K hK; have HU := Lib.hid hu; clear hu; refine ⟨?_⟩; simp only [Act.put, sA, sB, sC, Nat.zero_add, Nat.reduceAdd] at hK ⊢; go_simp; with_reducible refine hK _ _ (Below.refl _ _) ?_
       exact rfl
      ·as_aux_lemma =>
       intro vs W hS hu hdep K hK; have HU := Lib.hid hu; clear hu; have d0 := hdep ⟨1, .data⟩ (by simp) rfl; simp only [PhiWo11] at d0; have g1 := w16; refine ⟨?_⟩; simp only [Act.put, sA, sB, sC, Nat.zero_add, Nat.reduceAdd, d0] at hK ⊢; go_simp; with_reducible refine hK _ _ (Below.refl _ _) ?_
       exact rfl
      ·as_aux_lemma =>
       intro vs W hS hu hdep K hK; have HU := Lib.hid hu; clear hu; have d0 := hdep ⟨2, .data⟩ (by simp) rfl; simp only [PhiWo11] at d0; refine ⟨?_⟩; simp only [Act.put, sA, sB, sC, Nat.zero_add, Nat.reduceAdd, d0] at hK ⊢; go_simp; with_reducible refine hK _ _ (Below.refl _ _) ?_
       exact rfl
      ·as_aux_lemma =>
       intro vs W hS hu hdep K hK; have HU := Lib.hid hu; clear hu; have d0 := hdep ⟨3, .data⟩ (by simp) rfl; simp only [PhiWo11] at d0; have g1 := cell_keep hS c16; refine ⟨?_⟩; simp only [Act.put, sA, sB, sC, Nat.zero_add, Nat.reduceAdd, d0] at hK ⊢; go_simp; with_reducible refine hK _ _ (Below.refl _ _) ?_
       exact rfl
      ·as_aux_lemma =>
       intro vs W hS hu hdep K hK; have HU := Lib.hid hu; clear hu; refine ⟨?_⟩; simp only [Act.put, sA, sB, sC, Nat.zero_add, Nat.reduceAdd] at hK ⊢; go_simp; with_reducible refine hK _ _ (Below.refl _ _) ?_
       exact rfl
      ·as_aux_lemma =>
       intro vs W hS hu hdep K hK; have HU := Lib.hid hu; clear hu; have d0 := hdep ⟨4, .data⟩ (by simp) rfl; simp only [PhiWo11] at d0; have d1 := hdep ⟨5, .data⟩ (by simp) rfl; simp only [PhiWo11] at d1; refine ⟨?_⟩; simp only [Act.put, sA, sB, sC, Nat.zero_add, Nat.reduceAdd, d0, d1] at hK ⊢; go_simp; with_reducible refine hK _ _ (Below.refl _ _) ?_
       exact (congrArg (Value.int .u32) (wv_add _ _))
      ·as_aux_lemma =>
       intro vs W hS hu hdep K hK; have HU := Lib.hid hu; clear hu; refine ⟨?_⟩; simp only [Act.put, sA, sB, sC, Nat.zero_add, Nat.reduceAdd] at hK ⊢; go_simp; with_reducible refine hK _ _ (Below.refl _ _) ?_
       exact rfl
      ·as_aux_lemma =>
       intro vs W hS hu hdep K hK; have HU := Lib.hid hu; clear hu; have d0 := hdep ⟨7, .data⟩ (by simp) rfl; simp only [PhiWo11] at d0; have g1 := w7; refine ⟨?_⟩; simp only [Act.put, sA, sB, sC, Nat.zero_add, Nat.reduceAdd, d0] at hK ⊢; go_simp; with_reducible refine hK _ _ (Below.refl _ _) ?_
       exact rfl
      ·as_aux_lemma =>
       intro vs W hS hu hdep K hK; have HU := Lib.hid hu; clear hu; have d0 := hdep ⟨8, .data⟩ (by simp) rfl; simp only [PhiWo11] at d0; refine ⟨?_⟩; simp only [Act.put, sA, sB, sC, Nat.zero_add, Nat.reduceAdd, d0] at hK ⊢; go_simp; with_reducible refine hK _ _ (Below.refl _ _) ?_
       exact rfl
      ·as_aux_lemma =>
       intro vs W hS hu hdep K hK; have HU := Lib.hid hu; clear hu; have d0 := hdep ⟨9, .data⟩ (by simp) rfl; simp only [PhiWo11] at d0; have g1 := cell_keep hS c7; refine ⟨?_⟩; simp only [Act.put, sA, sB, sC, Nat.zero_add, Nat.reduceAdd, d0] at hK ⊢; go_simp; with_reducible refine hK _ _ (Below.refl _ _) ?_
       exact rfl
      ·as_aux_lemma =>
       intro vs W hS hu hdep K hK; have HU := Lib.hid hu; clear hu; have d0 := hdep ⟨6, .data⟩ (by simp) rfl; simp only [PhiWo11] at d0; have d1 := hdep ⟨10, .data⟩ (by simp) rfl; simp only [PhiWo11] at d1; refine ⟨?_⟩; simp only [Act.put, sA, sB, sC, Nat.zero_add, Nat.reduceAdd, d0, d1] at hK ⊢; go_simp; with_reducible refine hK _ _ (Below.refl _ _) ?_
       exact (congrArg (Value.int .u32) (wv_add _ _))
      ·as_aux_lemma =>
       intro vs W hS hu hdep K hK; have HU := Lib.hid hu; clear hu; refine ⟨?_⟩; simp only [Act.put, sA, sB, sC, Nat.zero_add, Nat.reduceAdd] at hK ⊢; go_simp; with_reducible refine hK _ _ (Below.refl _ _) ?_
       exact rfl
      ·as_aux_lemma =>
       intro vs W hS hu hdep K hK; have HU := Lib.hid hu; clear hu; have d0 := hdep ⟨11, .data⟩ (by simp) rfl; simp only [PhiWo11] at d0; have d1 := hdep ⟨12, .data⟩ (by simp) rfl; simp only [PhiWo11] at d1; refine ⟨?_⟩; simp only [Act.put, sA, sB, sC, Nat.zero_add, Nat.reduceAdd, d0, d1] at hK ⊢; go_simp; with_reducible refine hK _ _ (Below.refl _ _) ?_
       exact (congrArg (Value.int .u32) (wv_add _ _))
      ·as_aux_lemma =>
       intro vs W hS hu hdep K hK; have HU := Lib.hid hu; clear hu; have d0 := hdep ⟨0, .data⟩ (by simp) rfl; simp only [PhiWo11] at d0; refine ⟨?_⟩; simp only [Act.put, sA, sB, sC, Nat.zero_add, Nat.reduceAdd, d0] at hK ⊢; go_simp; with_reducible refine hK _ _ (Below.refl _ _) ?_
       exact rfl
      ·as_aux_lemma =>
       intro vs W hS hdep K hK; have d0 := hdep ⟨14, .data⟩ (by simp) rfl (by rfl); simp only [PhiWo11] at d0; have d1 := hdep ⟨13, .data⟩ (by simp) rfl (by rfl); simp only [PhiWo11] at d1; have hS : Below wy.heap.size wy W := hS; have f1 := cell_keep hS ct; have f2 := (Blk.below BW hS BW.lt).frozen t; refine ⟨?_⟩; simp only [Act.put, sA, sB, sC, Nat.zero_add, Nat.reduceAdd, d0, d1] at hK ⊢; go_simp; with_reducible refine hK undef _ ?_
       exact ⟨_, hS, rfl⟩
     ·intro vs W hS _; have hS2 : SStore wy (w.heap.size + 1) t (.int .u32 (wv (swW l a + sg0 (swW l a15) + swW l a7 + sg1 (swW l a2)))) [vs 15] vs W := hS; obtain ⟨W0, hb0, rfl⟩ := hS2
      have HBN : Hid (Blk (W0.setCell ⟨w.heap.size + 1, t, none⟩ (.int .u32 (wv (swW l a + sg0 (swW l a15) + swW l a7 + sg1 (swW l a2))))) (w.heap.size + 1) 180 (arW 64 fun j => if j < t + 1 then swW l j else 0)) := by
       have h2 := (Blk.below BW hb0 BW.lt).set_ t (.int .u32 (wv (swW l a + sg0 (swW l a15) + swW l a7 + sg1 (swW l a2)))); rw [← HV.out, arW_set] at h2
       show Blk _ _ _ _
       rw [← HV.out]; rw [arW_congr (g := fun j => if j = t then swW l t else if j < t then swW l j else 0)]
       ·exact h2
       ·intro j hj; by_cases h1 : j = t
        ·subst h1; rw [if_pos (by omega), if_pos rfl]
        ·by_cases h2 : j < t
         ·rw [if_pos (by omega), if_neg h1, if_pos h2]
         ·rw [if_neg (by omega), if_neg h1, if_neg h2]
      have HRN : Hid (Blk (W0.setCell ⟨w.heap.size + 1, t, none⟩ (.int .u32 (wv (swW l a + sg0 (swW l a15) + swW l a7 + sg1 (swW l a2))))) w.heap.size 180 (arW 64 fun _ => 0)) := (Blk.below HR.out hb0 HR.out.lt).far (by simp) _; have hbeN : Below w.heap.size w (W0.setCell ⟨w.heap.size + 1, t, none⟩ (.int .u32 (wv (swW l a + sg0 (swW l a15) + swW l a7 + sg1 (swW l a2))))) := (Below.tr hbe hb0).setCell (by simp) _; clear hS hb0 BW HR hbe; go_wp2_with fail
      go_roundg (G2 - 1)
      case measure => omega
      case rel => exact ⟨t + 1, by go_num, by omega, by omega, HRN, HBN, hbeN⟩
end Go.Proofs.YtijkfagkbfbpmaaGreatDoor
