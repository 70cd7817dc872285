import Derived.Test.YtijkfagkbfbpmaaGreatDoorKByProof34
import Derived.Test.YtijkfagkbfbpmaaGreatDoorKByProof35
import Derived.Test.YtijkfagkbfbpmaaGreatDoorKByProof25
import Derived.Test.YtijkfagkbfbpmaaGreatDoorKByProof14
import Derived.Test.YtijkfagkbfbpmaaGreatDoorKByProof16
import Derived.Test.YtijkfagkbfbpmaaGreatDoorKByProof22
import Derived.Test.YtijkfagkbfbpmaaGreatDoorKByProof23
import Derived.Test.YtijkfagkbfbpmaaGreatDoorS0
set_option linter.unusedVariables false
set_option linter.unusedSimpArgs false
namespace Go.Proofs.YtijkfagkbfbpmaaGreatDoor
open Go Go.RowKit
theorem padZ_mod (N : Nat) : (N + padZ N + 9) % 64 = 0 := by unfold padZ; omega
theorem padZ_lt (N : Nat) : padZ N < 64 := by unfold padZ; omega
theorem By.setFar {w : World} {b o g k c : Nat} {l : List Nat} (h : By w (some ⟨b, o, none⟩) k c l) (hne : b ≠ g) (vs : List Value) (i : Nat) : By (w.setCells g i vs) (some ⟨b, o, none⟩) k c l := by
 refine ⟨⟨?_, h.1.2⟩, h.2⟩; intro hx; obtain ⟨b', o', e, hc⟩ := h.1.1 hx; injection e with e; injection e with e1 e2; subst e1 e2; refine ⟨b, o, rfl, fun j hj => ?_⟩; rw [World.cell?_setCells_out g vs i w _ (fun e => absurd e hne)]; exact hc j hj
theorem c8_sizes (s r : R8) : (cells8 s).toArray.size = (cells8 r).toArray.size := rfl
theorem c8_add (s r : R8) : #[Value.int .u32 (wv (s.a + r.a)), .int .u32 (wv (s.b + r.b)), .int .u32 (wv (s.c + r.c)), .int .u32 (wv (s.d + r.d)), .int .u32 (wv (s.e + r.e)), .int .u32 (wv (s.f + r.f)), .int .u32 (wv (s.g + r.g)), .int .u32 (wv (s.h + r.h))] = (cells8 (s.add r)).toArray := rfl
theorem ini8 : (cells8 iniW).toArray = #[.int .u32 1779033703, .int .u32 3144134277, .int .u32 1013904242, .int .u32 2773480762, .int .u32 1359893119, .int .u32 2600822924, .int .u32 528734635, .int .u32 1541459225] := by kernel_rfl
def PhiRs11 (gW t : Nat) (r : R8) (k m : BitVec 32) (j : Nat) (w : World) (x : Value) : Prop :=
 match j with
 | 0 => x = .int .u32 (wv (r.h))
 | 1 => x = .int .u32 (wv (r.e))
 | 2 => x = .int .u32 (wv (rr 6 r.e))
 | 3 => x = .int .u32 (wv (r.e))
 | 4 => x = .int .u32 (wv (rr 11 r.e))
 | 5 => x = .int .u32 (wv (rr 6 r.e ^^^ rr 11 r.e))
 | 6 => x = .int .u32 (wv (r.e))
 | 7 => x = .int .u32 (wv (rr 25 r.e))
 | 8 => x = .int .u32 (wv (bs1 r.e))
 | 9 => x = .int .u32 (wv (r.h + bs1 r.e))
 | 10 => x = .int .u32 (wv (r.e))
 | 11 => x = .int .u32 (wv (r.f))
 | 12 => x = .int .u32 (wv (r.e &&& r.f))
 | 13 => x = .int .u32 (wv (r.e))
 | 14 => x = .int .u32 (wv (~~~r.e))
 | 15 => x = .int .u32 (wv (r.g))
 | 16 => x = .int .u32 (wv (~~~r.e &&& r.g))
 | 17 => x = .int .u32 (wv (chW r.e r.f r.g))
 | 18 => x = .int .u32 (wv (r.h + bs1 r.e + chW r.e r.f r.g))
 | 19 => x = .int .i64 (t : Nat)
 | 20 => x = .pointer (some ⟨1, t, none⟩)
 | 21 => x = .int .u32 (wv (k))
 | 22 => x = .int .u32 (wv (r.h + bs1 r.e + chW r.e r.f r.g + k))
 | 23 => x = .int .i64 (t : Nat)
 | 24 => x = .pointer (some ⟨gW, t, none⟩)
 | 25 => x = .int .u32 (wv (m))
 | 26 => x = .int .u32 (wv (r.x k m))
 | 27 => x = .int .u32 (wv (r.x k m))
 | _ => True
theorem PhiRs11.keep {gW t : Nat} {r : R8} {k m : BitVec 32} : ∀ (w w' : World), Below w.heap.size w w' → ∀ j x, PhiRs11 gW t r k m j w x → PhiRs11 gW t r k m j w' x := fun _ _ _ _ _ h => h
set_option maxRecDepth 100000 in
set_option maxHeartbeats 16000000 in
theorem rsum_n (A : Option Addr) (k c : Nat) (l : List Nat) (w : World) (h : By w A k c l) (hk : k ≤ 67108873) (hKC : KcT w 1) :
  Calls Tryz.prog 155 #[.slice A k c] w fun e w' => e = .returned (.agg (shaL (shaW l)).toArray) ∧ Below w.heap.size w w' := by

 have hK00 := hKC.lt
 go_enter Tryz.func155, Tryz.ntmps155
 go_upto_region 2 with fail; refine wp_name ?_; intro w2 HW; rw [← ini8] at HW; have hb2 : Below w.heap.size w w2 := by rw [HW.out]; exact Below.tr (bA _ _) (bA _ _)
 have HR : Hid (∃ arr : Array Value, Blk w2 w.heap.size 117 arr ∧ arr.size = 32) := by rw [HW.out]; exact ⟨_, (Blk.new _ _ _).alloc _, rfl⟩
 have HS : Hid (Blk w2 (w.heap.size + 1) 110 (cells8 iniW).toArray) := by rw [HW.out]; exact heap_alloc_new' _ _ _ (alloc_sz _ _)
 have hKC := hKC.below hb2; have hK1 : 1 < w.heap.size := hK00; have hbe := hb2; have HlS := Lib.hid HS.out.lt; clear HW; obtain ⟨gR, hgR⟩ : ∃ g, Hid (g = w.heap.size) := ⟨_, rfl⟩; obtain ⟨gS, hgS⟩ : ∃ g, Hid (g = w.heap.size + 1) := ⟨_, rfl⟩; rw [← hgS.out] at HS HlS ⊢; rw [← hgR.out] at HR ⊢; have hgeR : w.heap.size ≤ gR := by have := hgR.out; omega
 have hgeS : w.heap.size ≤ gS := by have := hgS.out; omega
 have hRS : gR ≠ gS := by have := hgR.out; have := hgS.out; omega
 have hS1 : gS ≠ 1 := by have := hgS.out; omega
 clear hgS hgR hK1; go_wp2_with fail; refine (rpad_n A k c l w2 (h.below hb2) hk).mono ?_; rintro e w3 ⟨v3, rfl, ho3, hb3⟩; obtain ⟨M, HM⟩ : ∃ M, Hid (M = l ++ padT l.length) := ⟨l ++ padT l.length, rfl⟩; rw [← HM.out] at ho3; obtain ⟨kM, HkM⟩ : ∃ k, Hid (k = M.length) := ⟨_, rfl⟩; have HkM2 : Hid (kM = l.length + padZ l.length + 9) := by show _ = _; rw [HkM.out, HM.out, List.length_append, padT_len]; omega
 obtain ⟨K, HKK⟩ : ∃ K, Hid (kM = 64 * K) := ⟨kM / 64, (by show _ = _; have h1 := padZ_mod l.length; have h2 := HkM2.out; omega)⟩; have hKle : K ≤ 1048600 := by have := HKK.out; have := HkM2.out; have := padZ_lt l.length; have := h.len; omega
 obtain ⟨A3, c3, rfl⟩ := ho3.shp; have hby := ho3.by_ (by rw [← HkM.out]; have := HKK.out; omega); rw [← HkM.out] at hby ⊢; obtain ⟨bM, oM, _, rfl, _⟩ := hby.get (i := 0) (by have := HkM2.out; omega); have hc3 : kM ≤ c3 := hby.2.1; have hc3m := hby.2.2.1; have HS := Lib.hid (Blk.below HS.out hb3 HS.out.lt)
 have HR : Hid (∃ arr : Array Value, Blk w3 gR 117 arr ∧ arr.size = 32) := by
  obtain ⟨arr, h1, h2⟩ := HR.out; exact ⟨arr, Blk.below h1 hb3 h1.lt, h2⟩
 have hKC := hKC.below hb3; have hbe := Below.tr hbe hb3
 have hbMS : bM ≠ gS := by
  have h1 := ho3.ge bM rfl; have h2 := HlS.out; omega
 have hbMS := Lib.hid hbMS; clear hb3 ho3 hb2 h hk; go_wp2_with fail
 go_loopg [5] K (fun mm x wr => ∃ (k a : Nat), x = .int .i64 a ∧ k + mm = K ∧ Hid (a = 64 * k) ∧ Hid (Blk wr gS 110 (cells8 (hkW M k)).toArray) ∧ Hid (∃ arr : Array Value, Blk wr gR 117 arr ∧ arr.size = 32) ∧ By wr (some ⟨bM, oM, none⟩) kM c3 M ∧ KcT wr 1 ∧ Below w.heap.size w wr)
 case atStart => exact ⟨0, 0, rfl, by omega, rfl, HS, HR, hby, hKC, hbe⟩
 case round =>
  clear HS HR hby hKC hbe; obtain ⟨G, hG⟩ : ∃ G, G = gk := ⟨gk, rfl⟩; subst hG; obtain ⟨k, a, rfl, hkm, Ha, HS, HR, hby, hKC, hbe⟩ := hrel; by_cases hkK : k < K
  ·have hak : a < kM := by have := Ha.out; have := HKK.out; omega
   have hak2 : a + 64 ≤ kM := by have := Ha.out; have := HKK.out; omega
   have t1 : decide ((a : Int) < (kM : Int)) = true := by simp; omega
   have lt1 : (a : Int) < (kM : Int) := by omega
   have hw64 : IntKind.i64.wrap ((a : Int) + 64) = (a : Int) + 64 := IntWalk.i64_in _ (by have := HKK.out; omega); have f1 : 0 ≤ (a : Int) + 64 := by omega
   have f2 : (a : Int) + 64 ≤ (c3 : Int) := by omega
   have f3 : ¬ c3 = a := by omega
   have f4 : ((a : Int) + 64).toNat = a + 64 := by omega
   have f5 : a ≤ a + 64 := by omega
   have HAK := Lib.hid hak2; clear hak hak2; go_wp2_with fail; obtain ⟨bl, Hbl⟩ : ∃ b, Hid (b = (M.drop a).take 64) := ⟨(M.drop a).take 64, rfl⟩; have hbs := hby.sub a 64 HAK.out; rw [← Hbl.out] at hbs; refine (words_n (some ⟨bM, oM + a, none⟩) (c3 - a) bl wr hbs).mono ?_; rintro e w5 ⟨rfl, hb5⟩; clear f1 f2 f3 f4 f5 hw64 hbs; have hgSl := Lib.hid (Nat.lt_of_lt_of_le HS.out.lt hb5.size); have HS := Lib.hid (Blk.below HS.out hb5 HS.out.lt); have HR : Hid (∃ arr : Array Value, Blk w5 gR 117 arr ∧ arr.size = 32) := HR.out.imp fun arr h => ⟨Blk.below h.1 hb5 h.1.lt, h.2⟩
   have hgRl : Hid (gR < w5.heap.size) := by obtain ⟨_, h1, _⟩ := HR.out; exact h1.lt
   have hby := hby.below hb5; have hKC := hKC.below hb5; have hbe := Below.tr hbe hb5; have hsz5 := Lib.hid hbe.size; clear hb5
   go_upto_region 7 with (first | (refine wpList_store_mid rfl 180 (.tmp 6) (.tmp 34) rfl w5.heap.size 0 (arW 64 (swW bl)) rfl rfl (there_new _ _ _ 64 (by simp)) infoW64s (all_oneCell_toArray arW_one) ?_; rw [setCells_new]; rotate_left; rfl))
   refine wp_name ?_; intro w6 HW6; have hb6 : Below w5.heap.size w5 w6 := by rw [HW6.out]; exact bA _ _
   have HW : Hid (Blk w6 w5.heap.size 180 (arW 64 (swW bl))) := by rw [HW6.out]; exact Blk.new _ _ _
   obtain ⟨gW, hgW⟩ : ∃ g, Hid (g = w5.heap.size) := ⟨_, rfl⟩; rw [← hgW.out] at HW ⊢; have hSW : gS ≠ gW := by have := hgW.out; have := hgSl.out; omega
   have HS := Lib.hid (Blk.below HS.out hb6 HS.out.lt); have HR : Hid (∃ arr : Array Value, Blk w6 gR 117 arr ∧ arr.size = 32) := HR.out.imp fun arr h => ⟨Blk.below h.1 hb6 h.1.lt, h.2⟩
   have hby := hby.below hb6; have hKC := hKC.below hb6; have hbe := Below.tr hbe hb6; clear hb6 HW6 hgW hgSl hgRl hsz5; obtain ⟨s, Hs⟩ : ∃ s, Hid (hkW M k = s) := ⟨_, rfl⟩; rw [Hs.out] at HS; have BS := HS.out; have s0 : w6.cell? ⟨gS, 0, none⟩ = some (.int .u32 (wv s.a)) := by rw [BS.cell]; rfl
   have s1 : w6.cell? ⟨gS, 1, none⟩ = some (.int .u32 (wv s.b)) := by rw [BS.cell]; rfl
   have s2 : w6.cell? ⟨gS, 2, none⟩ = some (.int .u32 (wv s.c)) := by rw [BS.cell]; rfl
   have s3 : w6.cell? ⟨gS, 3, none⟩ = some (.int .u32 (wv s.d)) := by rw [BS.cell]; rfl
   have s4 : w6.cell? ⟨gS, 4, none⟩ = some (.int .u32 (wv s.e)) := by rw [BS.cell]; rfl
   have s5 : w6.cell? ⟨gS, 5, none⟩ = some (.int .u32 (wv s.f)) := by rw [BS.cell]; rfl
   have s6 : w6.cell? ⟨gS, 6, none⟩ = some (.int .u32 (wv s.g)) := by rw [BS.cell]; rfl
   have s7 : w6.cell? ⟨gS, 7, none⟩ = some (.int .u32 (wv s.h)) := by rw [BS.cell]; rfl
   go_quiet (fail)
   obtain ⟨w7, Hw7⟩ : ∃ x, Hid (x = w6.drewN nq) := ⟨_, rfl⟩; have hb7 : Below w6.heap.size w6 w7 := by rw [Hw7.out]; exact below_drewN _ _
   rw [← Hw7.out]; have HS := Lib.hid (Blk.below HS.out hb7 HS.out.lt); have HW := Lib.hid (Blk.below HW.out hb7 HW.out.lt); have HR : Hid (∃ arr : Array Value, Blk w7 gR 117 arr ∧ arr.size = 32) := HR.out.imp fun arr h => ⟨Blk.below h.1 hb7 h.1.lt, h.2⟩
   have hby := hby.below hb7; have hKC := hKC.below hb7; have hbe := Below.tr hbe hb7; clear BS hb7 Hw7 s0 s1 s2 s3 s4 s5 s6 s7; go_wp2_with fail
   go_loopg [7, 8, 9, 10, 11, 12, 13, 14, 15] 64 (fun mm xa xb xc xd xe xf xg xh y wr => ∃ t : Nat, y = .int .i64 t ∧ t + mm = 64 ∧ xa = .int .u32 (wv (rnds bl s t).a) ∧ xb = .int .u32 (wv (rnds bl s t).b) ∧ xc = .int .u32 (wv (rnds bl s t).c) ∧ xd = .int .u32 (wv (rnds bl s t).d) ∧ xe = .int .u32 (wv (rnds bl s t).e) ∧ xf = .int .u32 (wv (rnds bl s t).f) ∧ xg = .int .u32 (wv (rnds bl s t).g) ∧ xh = .int .u32 (wv (rnds bl s t).h) ∧ Hid (Blk wr gS 110 (cells8 s).toArray) ∧ Hid (Blk wr gW 180 (arW 64 (swW bl))) ∧ Hid (∃ arr : Array Value, Blk wr gR 117 arr ∧ arr.size = 32) ∧ By wr (some ⟨bM, oM, none⟩) kM c3 M ∧ KcT wr 1 ∧ Below w.heap.size w wr)
   case atStart => exact ⟨0, rfl, rfl, rfl, rfl, rfl, rfl, rfl, rfl, rfl, rfl, HS, HW, HR, hby, hKC, hbe⟩
   case round =>
    clear HS HW HR hby hKC hbe; obtain ⟨G2, hG2⟩ : ∃ G, G = gk := ⟨gk, rfl⟩; subst hG2; obtain ⟨t, rfl, htm, rfl, rfl, rfl, rfl, rfl, rfl, rfl, rfl, HS, HW, HR, hby, hKC, hbe⟩ := hrel; obtain ⟨r, Hr⟩ : ∃ r, Hid (rnds bl s t = r) := ⟨_, rfl⟩; rw [Hr.out]; by_cases ht : t < 64
    ·have t2 : decide ((t : Int) < 64) = true := by simp; omega
     have lt : (t : Int) < 64 := by omega
     have ck := hKC.cell ht; have cw : wr.cell? ⟨gW, t, none⟩ = some (.int .u32 (wv (swW bl t))) := by rw [HW.out.cell, arW_get ht]
     go_upto_region 11 with fail; refine region_invF (PhiRs11 gW t r (kcW t) (swW bl t)) (fun w w' => Below w.heap.size w w') (fun Y => Below wr.heap.size wr Y) (by kernel_rfl) (by kernel_rfl) (by kernel_rfl) PhiRs11.keep (fun _ _ hR hS => Below.tr hS hR) (bD _) (fun vs => by simp only [fillR, Act.put, sA, sB, sC, Nat.zero_add, Nat.reduceAdd]; rfl) ?_ ?_
     ·refine sK ?_ (sK ?_ (sK ?_ (sK ?_ (sK ?_ (sK ?_ (sK ?_ (sK ?_ (sK ?_ (sK ?_ (sK ?_ (sK ?_ (sK ?_ (sK ?_ (sK ?_ (sK ?_ (sK ?_ (sK ?_ (sK ?_ (sK ?_ (sK ?_ (sK ?_ (sK ?_ (sK ?_ (sK ?_ (sK ?_ (sK ?_ (sK ?_ (sZ))))))))))))))))))))))))))))
      ·as_aux_lemma =>
       intro vs W hS hdep K hK; refine ⟨?_⟩; simp only [Act.put, sA, sB, sC, Nat.zero_add, Nat.reduceAdd] at hK ⊢; go_simp; with_reducible refine hK _ _ (Below.refl _ _) ?_
       exact rfl
      ·as_aux_lemma =>
       intro vs W hS hdep K hK; refine ⟨?_⟩; simp only [Act.put, sA, sB, sC, Nat.zero_add, Nat.reduceAdd] at hK ⊢; go_simp; with_reducible refine hK _ _ (Below.refl _ _) ?_
       exact rfl
      ·as_aux_lemma =>
       intro vs W hS hdep K hK; have d0 := hdep ⟨1, .data⟩ (by simp) rfl; simp only [PhiRs11] at d0; refine ⟨?_⟩; simp only [Act.put, sA, sB, sC, Nat.zero_add, Nat.reduceAdd, d0] at hK ⊢; go_simp; refine (rotr6_n r.e _).mono ?_; rintro e w' ⟨rfl, m', rfl⟩; go_wp2_with fail; with_reducible refine hK _ _ (below_drewN _ _) ?_
       exact rfl
      ·as_aux_lemma =>
       intro vs W hS hdep K hK; refine ⟨?_⟩; simp only [Act.put, sA, sB, sC, Nat.zero_add, Nat.reduceAdd] at hK ⊢; go_simp; with_reducible refine hK _ _ (Below.refl _ _) ?_
       exact rfl
      ·as_aux_lemma =>
       intro vs W hS hdep K hK; have d0 := hdep ⟨3, .data⟩ (by simp) rfl; simp only [PhiRs11] at d0; refine ⟨?_⟩; simp only [Act.put, sA, sB, sC, Nat.zero_add, Nat.reduceAdd, d0] at hK ⊢; go_simp; refine (rotr11_n r.e _).mono ?_; rintro e w' ⟨rfl, m', rfl⟩; go_wp2_with fail; with_reducible refine hK _ _ (below_drewN _ _) ?_
       exact rfl
      ·as_aux_lemma =>
       intro vs W hS hdep K hK; have d0 := hdep ⟨2, .data⟩ (by simp) rfl; simp only [PhiRs11] at d0; have d1 := hdep ⟨4, .data⟩ (by simp) rfl; simp only [PhiRs11] at d1; refine ⟨?_⟩; simp only [Act.put, sA, sB, sC, Nat.zero_add, Nat.reduceAdd, d0, d1] at hK ⊢; go_simp; with_reducible refine hK _ _ (Below.refl _ _) ?_
       exact (congrArg (Value.int .u32) (wv_xor _ _))
      ·as_aux_lemma =>
       intro vs W hS hdep K hK; refine ⟨?_⟩; simp only [Act.put, sA, sB, sC, Nat.zero_add, Nat.reduceAdd] at hK ⊢; go_simp; with_reducible refine hK _ _ (Below.refl _ _) ?_
       exact rfl
      ·as_aux_lemma =>
       intro vs W hS hdep K hK; have d0 := hdep ⟨6, .data⟩ (by simp) rfl; simp only [PhiRs11] at d0; refine ⟨?_⟩; simp only [Act.put, sA, sB, sC, Nat.zero_add, Nat.reduceAdd, d0] at hK ⊢; go_simp; refine (rotr25_n r.e _).mono ?_; rintro e w' ⟨rfl, m', rfl⟩; go_wp2_with fail; with_reducible refine hK _ _ (below_drewN _ _) ?_
       exact rfl
      ·as_aux_lemma =>
       intro vs W hS hdep K hK; have d0 := hdep ⟨5, .data⟩ (by simp) rfl; simp only [PhiRs11] at d0; have d1 := hdep ⟨7, .data⟩ (by simp) rfl; simp only [PhiRs11] at d1; refine ⟨?_⟩; simp only [Act.put, sA, sB, sC, Nat.zero_add, Nat.reduceAdd, d0, d1] at hK ⊢; go_simp; with_reducible refine hK _ _ (Below.refl _ _) ?_
       exact (congrArg (Value.int .u32) (wv_xor _ _))
      ·as_aux_lemma =>
       intro vs W hS hdep K hK; have d0 := hdep ⟨0, .data⟩ (by simp) rfl; simp only [PhiRs11] at d0; have d1 := hdep ⟨8, .data⟩ (by simp) rfl; simp only [PhiRs11] at d1; refine ⟨?_⟩; simp only [Act.put, sA, sB, sC, Nat.zero_add, Nat.reduceAdd, d0, d1] at hK ⊢; go_simp; with_reducible refine hK _ _ (Below.refl _ _) ?_
       exact (congrArg (Value.int .u32) (wv_add _ _))
      ·as_aux_lemma =>
       intro vs W hS hdep K hK; refine ⟨?_⟩; simp only [Act.put, sA, sB, sC, Nat.zero_add, Nat.reduceAdd] at hK ⊢; go_simp; with_reducible refine hK _ _ (Below.refl _ _) ?_
       exact rfl
      ·as_aux_lemma =>
       intro vs W hS hdep K hK; refine ⟨?_⟩; simp only [Act.put, sA, sB, sC, Nat.zero_add, Nat.reduceAdd] at hK ⊢; go_simp; with_reducible refine hK _ _ (Below.refl _ _) ?_
       exact rfl
      ·as_aux_lemma =>
       intro vs W hS hdep K hK; have d0 := hdep ⟨10, .data⟩ (by simp) rfl; simp only [PhiRs11] at d0; have d1 := hdep ⟨11, .data⟩ (by simp) rfl; simp only [PhiRs11] at d1; refine ⟨?_⟩; simp only [Act.put, sA, sB, sC, Nat.zero_add, Nat.reduceAdd, d0, d1] at hK ⊢; go_simp; with_reducible refine hK _ _ (Below.refl _ _) ?_
       exact (congrArg (Value.int .u32) (wv_and _ _))
      ·as_aux_lemma =>
       intro vs W hS hdep K hK; refine ⟨?_⟩; simp only [Act.put, sA, sB, sC, Nat.zero_add, Nat.reduceAdd] at hK ⊢; go_simp; with_reducible refine hK _ _ (Below.refl _ _) ?_
       exact rfl
      ·as_aux_lemma =>
       intro vs W hS hdep K hK; have d0 := hdep ⟨13, .data⟩ (by simp) rfl; simp only [PhiRs11] at d0; refine ⟨?_⟩; simp only [Act.put, sA, sB, sC, Nat.zero_add, Nat.reduceAdd, d0] at hK ⊢; go_simp; with_reducible refine hK _ _ (Below.refl _ _) ?_
       exact (congrArg (Value.int .u32) (wv_not' _))
      ·as_aux_lemma =>
       intro vs W hS hdep K hK; refine ⟨?_⟩; simp only [Act.put, sA, sB, sC, Nat.zero_add, Nat.reduceAdd] at hK ⊢; go_simp; with_reducible refine hK _ _ (Below.refl _ _) ?_
       exact rfl
      ·as_aux_lemma =>
       intro vs W hS hdep K hK; have d0 := hdep ⟨14, .data⟩ (by simp) rfl; simp only [PhiRs11] at d0; have d1 := hdep ⟨15, .data⟩ (by simp) rfl; simp only [PhiRs11] at d1; refine ⟨?_⟩; simp only [Act.put, sA, sB, sC, Nat.zero_add, Nat.reduceAdd, d0, d1] at hK ⊢; go_simp; with_reducible refine hK _ _ (Below.refl _ _) ?_
       exact (congrArg (Value.int .u32) (wv_and _ _))
      ·as_aux_lemma =>
       intro vs W hS hdep K hK; have d0 := hdep ⟨12, .data⟩ (by simp) rfl; simp only [PhiRs11] at d0; have d1 := hdep ⟨16, .data⟩ (by simp) rfl; simp only [PhiRs11] at d1; refine ⟨?_⟩; simp only [Act.put, sA, sB, sC, Nat.zero_add, Nat.reduceAdd, d0, d1] at hK ⊢; go_simp; with_reducible refine hK _ _ (Below.refl _ _) ?_
       exact (congrArg (Value.int .u32) (wv_xor _ _))
      ·as_aux_lemma =>
       intro vs W hS hdep K hK; have d0 := hdep ⟨9, .data⟩ (by simp) rfl; simp only [PhiRs11] at d0; have d1 := hdep ⟨17, .data⟩ (by simp) rfl; simp only [PhiRs11] at d1; refine ⟨?_⟩; simp only [Act.put, sA, sB, sC, Nat.zero_add, Nat.reduceAdd, d0, d1] at hK ⊢; go_simp; with_reducible refine hK _ _ (Below.refl _ _) ?_
       exact (congrArg (Value.int .u32) (wv_add _ _))
      ·as_aux_lemma =>
       intro vs W hS hdep K hK; refine ⟨?_⟩; simp only [Act.put, sA, sB, sC, Nat.zero_add, Nat.reduceAdd] at hK ⊢; go_simp; with_reducible refine hK _ _ (Below.refl _ _) ?_
       exact rfl
      ·as_aux_lemma =>
       intro vs W hS hdep K hK; have d0 := hdep ⟨19, .data⟩ (by simp) rfl; simp only [PhiRs11] at d0; refine ⟨?_⟩; simp only [Act.put, sA, sB, sC, Nat.zero_add, Nat.reduceAdd, d0] at hK ⊢; go_simp; with_reducible refine hK _ _ (Below.refl _ _) ?_
       exact rfl
      ·as_aux_lemma =>
       intro vs W hS hdep K hK; have d0 := hdep ⟨20, .data⟩ (by simp) rfl; simp only [PhiRs11] at d0; have g1 := cell_keep hS ck; refine ⟨?_⟩; simp only [Act.put, sA, sB, sC, Nat.zero_add, Nat.reduceAdd, d0] at hK ⊢; go_simp; with_reducible refine hK _ _ (Below.refl _ _) ?_
       exact rfl
      ·as_aux_lemma =>
       intro vs W hS hdep K hK; have d0 := hdep ⟨18, .data⟩ (by simp) rfl; simp only [PhiRs11] at d0; have d1 := hdep ⟨21, .data⟩ (by simp) rfl; simp only [PhiRs11] at d1; refine ⟨?_⟩; simp only [Act.put, sA, sB, sC, Nat.zero_add, Nat.reduceAdd, d0, d1] at hK ⊢; go_simp; with_reducible refine hK _ _ (Below.refl _ _) ?_
       exact (congrArg (Value.int .u32) (wv_add _ _))
      ·as_aux_lemma =>
       intro vs W hS hdep K hK; refine ⟨?_⟩; simp only [Act.put, sA, sB, sC, Nat.zero_add, Nat.reduceAdd] at hK ⊢; go_simp; with_reducible refine hK _ _ (Below.refl _ _) ?_
       exact rfl
      ·as_aux_lemma =>
       intro vs W hS hdep K hK; have d0 := hdep ⟨23, .data⟩ (by simp) rfl; simp only [PhiRs11] at d0; refine ⟨?_⟩; simp only [Act.put, sA, sB, sC, Nat.zero_add, Nat.reduceAdd, d0] at hK ⊢; go_simp; with_reducible refine hK _ _ (Below.refl _ _) ?_
       exact rfl
      ·as_aux_lemma =>
       intro vs W hS hdep K hK; have d0 := hdep ⟨24, .data⟩ (by simp) rfl; simp only [PhiRs11] at d0; have g1 := cell_keep hS cw; refine ⟨?_⟩; simp only [Act.put, sA, sB, sC, Nat.zero_add, Nat.reduceAdd, d0] at hK ⊢; go_simp; with_reducible refine hK _ _ (Below.refl _ _) ?_
       exact rfl
      ·as_aux_lemma =>
       intro vs W hS hdep K hK; have d0 := hdep ⟨22, .data⟩ (by simp) rfl; simp only [PhiRs11] at d0; have d1 := hdep ⟨25, .data⟩ (by simp) rfl; simp only [PhiRs11] at d1; refine ⟨?_⟩; simp only [Act.put, sA, sB, sC, Nat.zero_add, Nat.reduceAdd, d0, d1] at hK ⊢; go_simp; with_reducible refine hK _ _ (Below.refl _ _) ?_
       exact (congrArg (Value.int .u32) (wv_add _ _))
      ·as_aux_lemma =>
       intro vs W hS hdep K hK; have d0 := hdep ⟨26, .data⟩ (by simp) rfl; simp only [PhiRs11] at d0; refine ⟨?_⟩; simp only [Act.put, sA, sB, sC, Nat.zero_add, Nat.reduceAdd, d0] at hK ⊢; go_simp; with_reducible refine hK _ _ (Below.refl _ _) ?_
       exact rfl
     ·intro vs wx hS hv; have u27 := hv 27 (by simp); simp only [PhiRs11] at u27; simp only [Act.put, sA, sB, sC, Nat.zero_add, Nat.reduceAdd, u27]; have HS := Lib.hid (Blk.below HS.out hS HS.out.lt); have HW := Lib.hid (Blk.below HW.out hS HW.out.lt); have HR : Hid (∃ arr : Array Value, Blk wx gR 117 arr ∧ arr.size = 32) := HR.out.imp fun arr h => ⟨Blk.below h.1 hS h.1.lt, h.2⟩
      have hby := hby.below hS; have hKC := hKC.below hS; have hbe := Below.tr hbe hS; clear u27 hv hS ck cw; have y0 : bits .xor .u32 (bits .xor .u32 (wv (rr 2 r.a)) (wv (rr 13 r.a))) (wv (rr 22 r.a)) = wv (bs0 r.a) := by rw [wv_xor, wv_xor]; rfl
      have y5 : bits .xor .u32 (bits .xor .u32 (bits .and .u32 (wv r.a) (wv r.b)) (bits .and .u32 (wv r.a) (wv r.c))) (bits .and .u32 (wv r.b) (wv r.c)) = wv (majW r.a r.b r.c) := by rw [wv_and, wv_and, wv_and, wv_xor, wv_xor]; rfl
      have y6 : (wv (bs0 r.a) + wv (majW r.a r.b r.c)) % 4294967296 = wv r.y := wv_add _ _; have z1 : (wv r.d + wv (r.x (kcW t) (swW bl t))) % 4294967296 = wv (r.d + r.x (kcW t) (swW bl t)) := wv_add _ _; have z2 : (wv (r.x (kcW t) (swW bl t)) + wv r.y) % 4294967296 = wv (r.x (kcW t) (swW bl t) + r.y) := wv_add _ _; go_wp2_with fail; refine (rotr2_n r.a _).mono ?_; rintro e wy ⟨rfl, m1, rfl⟩; go_wp2_with fail; refine (rotr13_n r.a _).mono ?_; rintro e wy ⟨rfl, m2, rfl⟩; go_wp2_with fail; refine (rotr22_n r.a _).mono ?_; rintro e wy ⟨rfl, m3, rfl⟩; obtain ⟨wz, Hwz⟩ : ∃ x, Hid (x = (wx.drewN (m1 + m2)).drewN m3) := ⟨_, rfl⟩; have hbz : Below wx.heap.size wx wz := by rw [Hwz.out]; exact Below.tr (below_drewN _ _) (below_drewN _ _)
      rw [← Hwz.out]; go_wp2_with fail
      go_roundg (G2 - 1)
      case measure => omega
      case rel =>
       have HN : Hid (rnds bl s (t + 1) = r.step (kcW t) (swW bl t)) := by show _ = _; rw [rnds, Hr.out]
       exact ⟨t + 1, by go_num, by omega, (by rw [HN.out]; rfl), (by rw [HN.out]; rfl), (by rw [HN.out]; rfl), (by rw [HN.out]; rfl), (by rw [HN.out]; rfl), (by rw [HN.out]; rfl), (by rw [HN.out]; rfl), (by rw [HN.out]; rfl), Lib.hid (Blk.below HS.out hbz HS.out.lt), Lib.hid (Blk.below HW.out hbz HW.out.lt), HR.out.imp fun arr h => ⟨Blk.below h.1 hbz h.1.lt, h.2⟩, hby.below hbz, hKC.below hbz, Below.tr hbe hbz⟩
    have t2 : decide ((t : Int) < 64) = false := by simp; omega
    have BS := HS.out; have s0 : wr.cell? ⟨gS, 0, none⟩ = some (.int .u32 (wv s.a)) := by rw [BS.cell]; rfl
    have s1 : wr.cell? ⟨gS, 1, none⟩ = some (.int .u32 (wv s.b)) := by rw [BS.cell]; rfl
    have s2 : wr.cell? ⟨gS, 2, none⟩ = some (.int .u32 (wv s.c)) := by rw [BS.cell]; rfl
    have s3 : wr.cell? ⟨gS, 3, none⟩ = some (.int .u32 (wv s.d)) := by rw [BS.cell]; rfl
    have s4 : wr.cell? ⟨gS, 4, none⟩ = some (.int .u32 (wv s.e)) := by rw [BS.cell]; rfl
    have s5 : wr.cell? ⟨gS, 5, none⟩ = some (.int .u32 (wv s.f)) := by rw [BS.cell]; rfl
    have s6 : wr.cell? ⟨gS, 6, none⟩ = some (.int .u32 (wv s.g)) := by rw [BS.cell]; rfl
    have s7 : wr.cell? ⟨gS, 7, none⟩ = some (.int .u32 (wv s.h)) := by rw [BS.cell]; rfl
    have z0 : (wv s.a + wv r.a) % 4294967296 = wv (s.a + r.a) := wv_add _ _; have z1 : (wv s.b + wv r.b) % 4294967296 = wv (s.b + r.b) := wv_add _ _; have z2 : (wv s.c + wv r.c) % 4294967296 = wv (s.c + r.c) := wv_add _ _; have z3 : (wv s.d + wv r.d) % 4294967296 = wv (s.d + r.d) := wv_add _ _; have z4 : (wv s.e + wv r.e) % 4294967296 = wv (s.e + r.e) := wv_add _ _; have z5 : (wv s.f + wv r.f) % 4294967296 = wv (s.f + r.f) := wv_add _ _; have z6 : (wv s.g + wv r.g) % 4294967296 = wv (s.g + r.g) := wv_add _ _; have z7 : (wv s.h + wv r.h) % 4294967296 = wv (s.h + r.h) := wv_add _ _; have BF : Blk (wr.setCells gS 0 (cells8 (s.add r)).toArray.toList) gS 110 (cells8 (s.add r)).toArray := Blk.setAll BS (c8_sizes s (s.add r)); have HRF : Hid (∃ arr : Array Value, Blk (wr.setCells gS 0 (cells8 (s.add r)).toArray.toList) gR 117 arr ∧ arr.size = 32) := HR.out.imp fun arr h => ⟨Blk.farAll hRS _ _ h.1, h.2⟩
    have hbyF : By (wr.setCells gS 0 (cells8 (s.add r)).toArray.toList) (some ⟨bM, oM, none⟩) kM c3 M := hby.setFar hbMS.out _ _; have hKF : KcT (wr.setCells gS 0 (cells8 (s.add r)).toArray.toList) 1 := hKC.setAll (Ne.symm hS1) _ _; have hbeF : Below w.heap.size w (wr.setCells gS 0 (cells8 (s.add r)).toArray.toList) := below_setAll hgeS _ _ hbe; have haw : IntKind.i64.wrap ((a : Int) + 64) = ((a + 64 : Nat) : Int) := by rw [IntWalk.i64_in _ (by have := HAK.out; have := HKK.out; omega)]; omega
    go_upto_region 5 with (first | (refine wpList_store_mid rfl 110 (.tmp 3) (.tmp 146) rfl gS 0 (cells8 (s.add r)).toArray rfl (congrArg Value.agg (c8_add s r)) (Blk.there BS (c8_sizes s (s.add r))) info8cs (all_oneCell_toArray cells8_one) ?_))
    obtain ⟨wf, Hwf⟩ : ∃ x, Hid (x = wr.setCells gS 0 (cells8 (s.add r)).toArray.toList) := ⟨_, rfl⟩; rw [← Hwf.out] at BF HRF hbyF hKF hbeF ⊢; clear Hwf BS HS HW HR hby hKC hbe; go_wp2_with fail
    go_roundg (G - 1)
    case measure => omega
    case rel =>
     refine ⟨k + 1, a + 64, by go_num, by omega, ?_, ?_, HRF, hbyF, hKF, hbeF⟩
     ·show _ = _
      have := Ha.out; omega
     ·show Blk _ _ _ _
      have e : hkW M (k + 1) = s.add r := by
       rw [hkW, Hs.out, cmpW, ← Ha.out, ← Hbl.out, show r = rnds bl s 64 by rw [← Hr.out, show t = 64 by omega]]
      rw [e]; exact BF
  have hnk : ¬ a < kM := by have := Ha.out; have := HKK.out; omega
  have t1 : decide ((a : Int) < (kM : Int)) = false := by simp; omega
  obtain ⟨s5, Hs5⟩ : ∃ s, Hid (hkW M k = s) := ⟨_, rfl⟩; rw [Hs5.out] at HS
  have HSH : Hid (s5 = shaW l) := by
   show _ = _
   unfold shaW; rw [← Hs5.out, ← HM.out, ← HkM.out, show kM / 64 = k by have := HKK.out; omega]
  have hlS := Lib.hid HS.out.lt; have hlR : Hid (gR < wr.heap.size) := by obtain ⟨_, h1, _⟩ := HR.out; exact h1.lt
  clear hby hKC; go_wp2_with fail; refine wp_name ?_; intro w7 HW7; rw [← arB_zero] at HW7; have hb7 : Below wr.heap.size wr w7 := by rw [HW7.out]; exact bA _ _
  obtain ⟨gO, hgO⟩ : ∃ g, Hid (g = wr.heap.size) := ⟨_, rfl⟩; have BO : Hid (Blk w7 gO 117 (arB 32 fun j => if j < 0 then shaB s5 j else 0)) := by rw [HW7.out, hgO.out]; exact Blk.new _ _ _
  have hneS : gS ≠ gO := by have := hgO.out; have := hlS.out; omega
  have hneR : gR ≠ gO := by have := hgO.out; have := hlR.out; omega
  have hgeO : w.heap.size ≤ gO := by have := hgO.out; have := hbe.size; omega
  have HS := Lib.hid (Blk.below HS.out hb7 HS.out.lt); have HR : Hid (∃ arr : Array Value, Blk w7 gR 117 arr ∧ arr.size = 32) := HR.out.imp fun arr h => ⟨Blk.below h.1 hb7 h.1.lt, h.2⟩
  have hbe := Below.tr hbe hb7; rw [← hgO.out]; clear HW7 hb7 hgO hlS hlR
  go_loopg [19] 32 (fun mm x wr => ∃ i : Nat, x = .int .i64 i ∧ i + mm = 32 ∧ Hid (Blk wr gO 117 (arB 32 fun j => if j < i then shaB s5 j else 0)) ∧ Hid (Blk wr gS 110 (cells8 s5).toArray) ∧ Hid (∃ arr : Array Value, Blk wr gR 117 arr ∧ arr.size = 32) ∧ Below w.heap.size w wr)
  case atStart => exact ⟨0, rfl, rfl, BO, HS, HR, hbe⟩
  case round =>
   clear BO HS HR hbe; obtain ⟨G3, hG3⟩ : ∃ G, G = gk := ⟨gk, rfl⟩; subst hG3; obtain ⟨i3, rfl, him3, HO, HS, HR, hbe⟩ := hrel; by_cases hi3 : i3 < 32
   rotate_left
   ·have t3 : decide ((i3 : Int) < 32) = false := by simp; omega
    obtain ⟨arr, hR1, hR2⟩ := HR.out
    have BF : Blk wr gO 117 (bLs 32 (shaB s5)).toArray := by
     have h := HO.out; rw [arB_congr (g := shaB s5) (fun j hj => if_pos (by omega))] at h; exact h
    go_wp2_with (first | (refine wpList_load_mid rfl 117 (.tmp 18) rfl gO 0 rfl (bLs 32 (shaB s5)) _ (Blk.range BF) Tryz.underlying117 rfl infoB32 ?_; simp only [Act.put, sA, sB, sC]) | (refine wpList_store_mid rfl 117 (.tmp 2) (.tmp 163) rfl gR 0 (arB 32 (shaB s5)) rfl rfl (Blk.there hR1 (by rw [hR2, arB_size])) infoB32s (all_oneCell_toArray arB_one) ?_))
    (try simp only [Exit.inBlock, Exit.then])
    have hfin := Blk.setAll (cs := arB 32 (shaB s5)) hR1 (by rw [hR2, arB_size]); refine bodyPost_ret (results_cell_row rfl _ _ gR 117 _ (0, 0) _ rfl hfin Tryz.underlying117 rfl infoB32s) rfl ⟨?_, below_setAll hgeR _ 0 hbe⟩; rw [← HSH.out]; rfl
   have t3 : decide ((i3 : Int) < 32) = true := by simp; omega
   have l3 : (i3 : Int) < 32 := by omega
   have BW := HO.out; obtain ⟨q4, Hq4⟩ : ∃ q, Hid (i3 / 4 = q) := ⟨_, rfl⟩; obtain ⟨r4, Hr4⟩ : ∃ q, Hid (i3 % 4 = q) := ⟨_, rfl⟩; obtain ⟨p4, Hp4⟩ : ∃ q, Hid (24 - 8 * (i3 % 4) = q) := ⟨_, rfl⟩; have e1 : (i3 : Int) / 4 = (q4 : Int) := by have := Hq4.out; omega
   have e2 : (i3 : Int) % 4 = (r4 : Int) := by have := Hr4.out; omega
   have e3 : IntKind.i64.wrap (8 * (r4 : Int)) = 8 * (r4 : Int) := IntWalk.i64_in _ (by have := Hr4.out; omega); have e4 : IntKind.i64.wrap (24 - 8 * (r4 : Int)) = (p4 : Int) := by have := Hr4.out; have := Hp4.out; rw [IntWalk.i64_in _ (by omega)]; omega
   have lq4 : (q4 : Int) < 8 := by have := Hq4.out; omega
   have hsh : Op.shift .shr .u32 (wv (s5.wd q4)) .i64 (p4 : Int) = pure (.int .u32 (wv (s5.wd q4) / 2 ^ p4)) := by
    rw [shift_shr .u32 .i64 _ _ (by omega) (by have := Hp4.out; show (p4 : Int) ≤ 32; omega), Int.toNat_natCast]
   have hcv := shaB_wd s5 i3 q4 p4 Hq4.out Hp4.out
   have cS : wr.cell? ⟨gS, q4, none⟩ = some (.int .u32 (wv (s5.wd q4))) := by
    rw [HS.out.cell]; exact arW_get (n := 8) (f := s5.wd) (by have := Hq4.out; omega)
   have cO : wr.cell? ⟨gO, i3, none⟩ = some (.int .u8 (0 : Nat)) := by rw [BW.cell, arB_get hi3, if_neg (by omega)]
   have fO := BW.frozen i3
   have HON : Hid (Blk (wr.setCell ⟨gO, i3, none⟩ (.int .u8 (shaB s5 i3 : Nat))) gO 117 (arB 32 fun j => if j < i3 + 1 then shaB s5 j else 0)) := by
    have h2 := BW.set_ i3 (.int .u8 (shaB s5 i3 : Nat)); rw [arB_set] at h2
    show Blk _ _ _ _
    rw [arB_congr (g := fun j => if j = i3 then shaB s5 i3 else if j < i3 then shaB s5 j else 0)]
    ·exact h2
    ·intro j hj; by_cases h1 : j = i3
     ·subst h1; rw [if_pos (by omega), if_pos rfl]
     ·by_cases h2 : j < i3
      ·rw [if_pos (by omega), if_neg h1, if_pos h2]
      ·rw [if_neg (by omega), if_neg h1, if_neg h2]
   have HSN : Hid (Blk (wr.setCell ⟨gO, i3, none⟩ (.int .u8 (shaB s5 i3 : Nat))) gS 110 (cells8 s5).toArray) := HS.out.far (p := ⟨gO, i3, none⟩) hneS _; have HRN : Hid (∃ arr : Array Value, Blk (wr.setCell ⟨gO, i3, none⟩ (.int .u8 (shaB s5 i3 : Nat))) gR 117 arr ∧ arr.size = 32) := HR.out.imp fun arr h => ⟨h.1.far (p := ⟨gO, i3, none⟩) hneR _, h.2⟩
   have hbeN : Below w.heap.size w (wr.setCell ⟨gO, i3, none⟩ (.int .u8 (shaB s5 i3 : Nat))) := hbe.setCell (p := ⟨gO, i3, none⟩) hgeO _; clear BW HO HS HR hbe; go_wp2_with fail
   go_roundg (G3 - 1)
   case measure => omega
   case rel => exact ⟨i3 + 1, by go_num, by omega, HON, HSN, HRN, hbeN⟩
end Go.Proofs.YtijkfagkbfbpmaaGreatDoor
namespace Go.Proofs.YtijkfagkbfbpmaaGreatDoor
open Go Go.RowKit
theorem arB_zero16 : arB 16 (fun _ => 0) = #[.int .u8 0, .int .u8 0, .int .u8 0, .int .u8 0, .int .u8 0, .int .u8 0, .int .u8 0, .int .u8 0, .int .u8 0, .int .u8 0, .int .u8 0, .int .u8 0, .int .u8 0, .int .u8 0, .int .u8 0, .int .u8 0] := rfl
set_option maxRecDepth 100000 in
set_option maxHeartbeats 8000000 in
theorem rshort_n (A : Option Addr) (k c : Nat) (l : List Nat) (w : World) (h : By w A k c l) (hk : k ≤ 67108873) (hKC : KcT w 1) :
  Calls Tryz.prog 121 #[.slice A k c] w fun e w' => e = .returned (.agg (dgW l).toArray) ∧ Below w.heap.size w w' := by
 go_enter Tryz.func121, Tryz.ntmps121
 go_wp2_with fail; have hb1 := bA w (.cells (arB 16 fun _ => 0) 31); rw [arB_zero16] at hb1; refine calls_name ?_; intro w2 HW; rw [← HW.out] at hb1; have HR : Hid (∃ arr : Array Value, Blk w2 w.heap.size 31 arr ∧ arr.size = 16) := by rw [HW.out]; exact ⟨_, Blk.new _ _ _, rfl⟩
 clear HW; refine (rsum_n A k c l w2 (h.below hb1) hk (hKC.below hb1)).mono ?_; rintro e w3 ⟨rfl, hb3⟩; obtain ⟨sh, Hsh⟩ : ∃ f, Hid (shaB (shaW l) = f) := ⟨_, rfl⟩; unfold shaL; rw [Hsh.out]; have HR : Hid (∃ arr : Array Value, Blk w3 w.heap.size 31 arr ∧ arr.size = 16) := HR.out.imp fun arr h => ⟨Blk.below h.1 hb3 h.1.lt, h.2⟩
 have hbe := Below.tr hb1 hb3; clear hb1 hb3 h hKC
 go_upto_region 2 with (first | (refine wpList_store_mid rfl 117 (.tmp 3) (.tmp 7) rfl w3.heap.size 0 (arB 32 sh) rfl rfl (there_new _ _ _ 32 (by simp)) infoB32s (all_oneCell_toArray arB_one) ?_; rw [setCells_new]; rotate_left; rfl))
 refine wp_name ?_; intro w4 HW4; have hb4 : Below w3.heap.size w3 w4 := by rw [HW4.out]; exact bA _ _
 have BH : Blk w4 w3.heap.size 117 (arB 32 sh) := by rw [HW4.out]; exact Blk.new _ _ _
 have HR0 := HR; have HR : Hid (∃ arr : Array Value, Blk w4 w.heap.size 31 arr ∧ arr.size = 16) := HR.out.imp fun arr h => ⟨Blk.below h.1 hb4 h.1.lt, h.2⟩
 have hlR : w.heap.size < w3.heap.size := by obtain ⟨_, h1, _⟩ := HR0.out; exact h1.lt
 have hbe := Below.tr hbe hb4; obtain ⟨gR, hgR⟩ : ∃ g, Hid (g = w.heap.size) := ⟨_, rfl⟩; obtain ⟨gH, hgH⟩ : ∃ g, Hid (g = w3.heap.size) := ⟨_, rfl⟩; rw [← hgR.out] at HR ⊢; rw [← hgH.out] at BH ⊢; have hgeR : w.heap.size ≤ gR := by have := hgR.out; omega
 have hRH : gR ≠ gH := by have := hgR.out; have := hgH.out; omega
 have hlH := BH.lt; have hlR2 : gR < w4.heap.size := by obtain ⟨_, h1, _⟩ := HR.out; exact h1.lt
 clear HW4 hb4 hgR hgH hlR HR0; go_wp2_with fail; refine wp_name ?_; intro w5 HW5; rw [← arB_zero16] at HW5; have hb5 : Below w4.heap.size w4 w5 := by rw [HW5.out]; exact bA _ _
 obtain ⟨gO, hgO⟩ : ∃ g, Hid (g = w4.heap.size) := ⟨_, rfl⟩; have HO : Hid (Blk w5 gO 31 (arB 16 fun j => if j < 0 then sh j else 0)) := by rw [HW5.out, hgO.out]; exact Blk.new _ _ _
 have hHO : gH ≠ gO := by have := hgO.out; omega
 have hRO : gR ≠ gO := by have := hgO.out; omega
 have hgeO : w.heap.size ≤ gO := by have := hgO.out; have := hbe.size; omega
 have HH : Hid (Blk w5 gH 117 (arB 32 sh)) := Blk.below BH hb5 BH.lt; have HR : Hid (∃ arr : Array Value, Blk w5 gR 31 arr ∧ arr.size = 16) := HR.out.imp fun arr h => ⟨Blk.below h.1 hb5 h.1.lt, h.2⟩
 have hbe := Below.tr hbe hb5; rw [← hgO.out]; clear HW5 hb5 BH hgO hlH hlR2
 go_loopg [5] 16 (fun mm x wr => ∃ i : Nat, x = .int .i64 i ∧ i + mm = 16 ∧ Hid (Blk wr gO 31 (arB 16 fun j => if j < i then sh j else 0)) ∧ Hid (Blk wr gH 117 (arB 32 sh)) ∧ Hid (∃ arr : Array Value, Blk wr gR 31 arr ∧ arr.size = 16) ∧ Below w.heap.size w wr)
 case atStart => exact ⟨0, rfl, rfl, HO, HH, HR, hbe⟩
 case round =>
  clear HO HH HR hbe; obtain ⟨G, hG⟩ : ∃ G, G = gk := ⟨gk, rfl⟩; subst hG; obtain ⟨i, rfl, him, HO, HH, HR, hbe⟩ := hrel; by_cases hi : i < 16
  rotate_left
  ·have t1 : decide ((i : Int) < 16) = false := by simp; omega
   obtain ⟨arr, hR1, hR2⟩ := HR.out
   have BF : Blk wr gO 31 (bLs 16 sh).toArray := by
    have h := HO.out; rw [arB_congr (g := sh) (fun j hj => if_pos (by omega))] at h; exact h
   go_wp2_with (first | (refine wpList_load_mid rfl 31 (.tmp 4) rfl gO 0 rfl (bLs 16 sh) _ (Blk.range BF) Tryz.underlying31 rfl infoD16b ?_; simp only [Act.put, sA, sB, sC]) | (refine wpList_store_mid rfl 31 (.tmp 2) (.tmp 18) rfl gR 0 (arB 16 sh) rfl rfl (Blk.there hR1 (by rw [hR2, arB_size])) infoD16bs (all_oneCell_toArray arB_one) ?_))
   (try simp only [Exit.inBlock, Exit.then])
   have hfin := Blk.setAll (cs := arB 16 sh) hR1 (by rw [hR2, arB_size]); refine bodyPost_ret (results_cell_row rfl _ _ gR 31 _ (0, 0) _ rfl hfin Tryz.underlying31 rfl infoD16bs) rfl ⟨?_, below_setAll hgeR _ 0 hbe⟩; unfold dgW; rw [Hsh.out]; rfl
  have t1 : decide ((i : Int) < 16) = true := by simp; omega
  have li : (i : Int) < 16 := by omega
  have li2 : (i : Int) < 32 := by omega
  have BW := HO.out; have cH : wr.cell? ⟨gH, i, none⟩ = some (.int .u8 (sh i : Nat)) := by rw [HH.out.cell, arB_get (by omega)]
  have cO : wr.cell? ⟨gO, i, none⟩ = some (.int .u8 (0 : Nat)) := by rw [BW.cell, arB_get hi, if_neg (by omega)]
  have fO := BW.frozen i
  have HON : Hid (Blk (wr.setCell ⟨gO, i, none⟩ (.int .u8 (sh i : Nat))) gO 31 (arB 16 fun j => if j < i + 1 then sh j else 0)) := by
   have h2 := BW.set_ i (.int .u8 (sh i : Nat)); rw [arB_set] at h2
   show Blk _ _ _ _
   rw [arB_congr (g := fun j => if j = i then sh i else if j < i then sh j else 0)]
   ·exact h2
   ·intro j hj; by_cases h1 : j = i
    ·subst h1; rw [if_pos (by omega), if_pos rfl]
    ·by_cases h2 : j < i
     ·rw [if_pos (by omega), if_neg h1, if_pos h2]
     ·rw [if_neg (by omega), if_neg h1, if_neg h2]
  have HHN : Hid (Blk (wr.setCell ⟨gO, i, none⟩ (.int .u8 (sh i : Nat))) gH 117 (arB 32 sh)) := HH.out.far (p := ⟨gO, i, none⟩) hHO _; have HRN : Hid (∃ arr : Array Value, Blk (wr.setCell ⟨gO, i, none⟩ (.int .u8 (sh i : Nat))) gR 31 arr ∧ arr.size = 16) := HR.out.imp fun arr h => ⟨h.1.far (p := ⟨gO, i, none⟩) hRO _, h.2⟩
  have hbeN : Below w.heap.size w (wr.setCell ⟨gO, i, none⟩ (.int .u8 (sh i : Nat))) := hbe.setCell (p := ⟨gO, i, none⟩) hgeO _; clear BW HO HH HR hbe; go_wp2_with fail
  go_roundg (G - 1)
  case measure => omega
  case rel => exact ⟨i + 1, by go_num, by omega, HON, HHN, HRN, hbeN⟩
set_option maxRecDepth 100000 in
set_option maxHeartbeats 8000000 in
theorem rinput_n (A : Option Addr) (c : Nat) (l : List Nat) (w : World) (hl : ∀ x ∈ l, x < 256) (hn : l.length ≤ 67108864) (hA : RowS strC w A 1 [txB l]) :
  Calls Tryz.prog 122 #[.int .i64 12, .slice A 1 c] w fun e w' => ∃ v, e = .returned v ∧ OwnB w' w.heap.size v (12 :: encB l) ∧ Below w.heap.size w w' := by
 have hel := Lib.hid (encB_len hn); have heb := Lib.hid (encB_lt hl hn); obtain ⟨bQ, oA, s0, rfl, hcA, hs0⟩ := hA.str (i := 0) (by omega); have hs0T : Hid (s0 = txB l) := by show _ = _; simpa using hs0.symm
 clear hs0
 go_enter Tryz.func122, Tryz.ntmps122
 go_wp2_with fail; have hb1 := bA w (.cells #[.int .u8 12] 5); have hown : OwnB (w.alloc (.cells #[.int .u8 12] 5)) w.heap.size (.slice (some ⟨w.heap.size, 0, none⟩) 1 1) [12] := OwnB.one w 12 (by omega); have hcA1 := cell_keep hb1 hcA
 go_loopg [5, 6] 1 (fun mm x y wr => ∃ i : Nat, y = .int .i64 i ∧ i + mm = 1 ∧ Hid (OwnB wr w.heap.size x (if i = 0 then [12] else 12 :: encB l)) ∧ wr.cell? ⟨bQ, oA + 0, none⟩ = some (.string s0) ∧ Below w.heap.size w wr)
 case atStart => exact ⟨0, rfl, rfl, hown, hcA1, hb1⟩
 case round =>
  clear hown hcA1 hb1; obtain ⟨G, hG⟩ : ∃ G, G = gk := ⟨gk, rfl⟩; subst hG; obtain ⟨i, rfl, him, HO, hcA1, hbe⟩ := hrel; obtain ⟨Lx, HLx⟩ : ∃ Lx : List Nat, Hid (Lx = if i = 0 then [12] else 12 :: encB l) := ⟨_, rfl⟩; rw [← HLx.out] at HO; obtain ⟨zx, Hzx⟩ : ∃ z, Hid (z = Lx.length) := ⟨_, rfl⟩; obtain ⟨Ax, cx, rfl⟩ := HO.out.shp; rw [← Hzx.out] at HO ⊢; by_cases hi : i < 1
  ·have t1 : decide ((i : Int) < 1) = true := by simp; omega
   have li : (i : Int) < 1 := by omega
   have HI0 : Hid (i = 0) := (by show _ = _; omega); have HL0 : Hid (Lx = [12]) := by show _ = _; rw [HLx.out, HI0.out]; rfl
   have hcI : wr.cell? ⟨bQ, oA + i, none⟩ = some (.string (txB l)) := by rw [HI0.out, hcA1, hs0T.out]
   go_wp2_with fail; refine (rbytes_n l wr hl hn).mono ?_; rintro e w3 ⟨v3, rfl, ho3, hb3⟩; obtain ⟨z3, Hz3⟩ : ∃ z, Hid (z = (encB l).length) := ⟨_, rfl⟩; obtain ⟨A3, c3, rfl⟩ := ho3.shp; rw [← Hz3.out] at ho3 ⊢; have hby := ho3.by_ (by have := hel.out; omega); have HO3 := HO.out.below hb3; have hbe3 := Below.tr hbe hb3; have hsz := hbe3.size; have hl30 : Lx.length + (encB l).length ≤ 1073741824 := by rw [HL0.out]; have := hel.out; simp; omega
   have hc3 := cell_keep hbe3 hcA; clear ho3 hb3
   go_wp2_with (first | (at_builtin; go_loud (refine wpList_appB rfl (.tmp 16) (.tmp 21) rfl w.heap.size (.slice Ax zx cx) Lx rfl HO3 A3 z3 c3 (encB l) rfl hby hl30 hsz ?_); intro v4 w4 hown4 hg4 hat4))
   have hbe4 : Below w.heap.size w w4 := hbe3.grown hg4 hsz HO3.ge; have hc4 := cell_keep hbe4 hcA
   go_roundg (G - 1)
   case measure => omega
   case rel =>
    refine ⟨i + 1, by go_num, by omega, ?_, hc4, hbe4⟩
    show OwnB _ _ _ _
    rw [if_neg (by omega)]; rw [HL0.out] at hown4; exact hown4
  have t1 : decide ((i : Int) < 1) = false := by simp; omega
  go_wp2_with fail; go_ret; exact ⟨_, rfl, by have h := HO.out; rw [HLx.out, if_neg (by omega)] at h; exact h, hbe⟩
set_option maxRecDepth 100000 in
set_option maxHeartbeats 8000000 in
theorem rdof_n (A : Option Addr) (c : Nat) (l : List Nat) (w : World) (hl : ∀ x ∈ l, x < 256) (hn : l.length ≤ 67108800) (hA : RowS strC w A 1 [txB l]) (hKC : KcT w 1) :
  Calls Tryz.prog 74 #[.int .i64 12, .slice A 1 c] w fun e w' => e = .returned (.agg (dgW (12 :: encB l)).toArray) ∧ Below w.heap.size w w' := by
 have hel := Lib.hid (encB_len (l := l) (by omega))
 go_enter Tryz.func74, Tryz.ntmps74
 go_wp2_with fail; have hb1 := bA w (.cells (arB 16 fun _ => 0) 31); rw [arB_zero16] at hb1; refine calls_name ?_; intro w2 HW; rw [← HW.out] at hb1; have HR : Hid (∃ arr : Array Value, Blk w2 w.heap.size 31 arr ∧ arr.size = 16) := by rw [HW.out]; exact ⟨_, Blk.new _ _ _, rfl⟩
 clear HW; refine (rinput_n A c l w2 hl (by omega) (hA.below hb1)).mono ?_; rintro e w3 ⟨v3, rfl, ho3, hb3⟩; have hKC3 := (hKC.below hb1).below hb3; obtain ⟨M, HM⟩ : ∃ M : List Nat, Hid (M = 12 :: encB l) := ⟨12 :: encB l, rfl⟩; rw [← HM.out] at ho3; obtain ⟨z3, Hz3⟩ : ∃ z, Hid (z = M.length) := ⟨_, rfl⟩; have Hz4 : Hid (z3 ≤ 67108873) := by show _ ≤ _; rw [Hz3.out, HM.out, List.length_cons]; have := hel.out; omega
 obtain ⟨A3, c3, rfl⟩ := ho3.shp; rw [← Hz3.out] at ho3 ⊢; have hby := ho3.by_ (by rw [← Hz3.out]; have := Hz4.out; omega); go_wp2_with fail; refine (rshort_n A3 z3 c3 M w3 hby Hz4.out hKC3).mono ?_; rintro e w4 ⟨rfl, hb4⟩; have hb34 := Below.tr hb3 hb4; obtain ⟨arr, hR1, hR2⟩ : ∃ arr : Array Value, Blk w4 w.heap.size 31 arr ∧ arr.size = 16 := HR.out.imp fun arr h => ⟨Blk.below h.1 hb34 h.1.lt, h.2⟩
 have hbe := Below.tr hb1 hb34; obtain ⟨sh, Hsh⟩ : ∃ f, Hid (shaB (shaW M) = f) := ⟨_, rfl⟩; unfold dgW; rw [Hsh.out]; clear hb34 hb4 hb3 hb1 HR ho3 hby hKC3
 go_wp2_with (first | (refine wpList_store_mid rfl 31 (.tmp 4) (.tmp 8) rfl w.heap.size 0 (arB 16 sh) rfl rfl (Blk.there hR1 (by rw [hR2, arB_size])) infoD16bs (all_oneCell_toArray arB_one) ?_))
 (try simp only [Exit.inBlock, Exit.then])
 have hfin := Blk.setAll (cs := arB 16 sh) hR1 (by rw [hR2, arB_size]); refine bodyPost_ret (results_cell_row rfl _ _ w.heap.size 31 _ (0, 0) _ rfl hfin Tryz.underlying31 rfl infoD16bs) rfl ⟨?_, below_setAll (g := w.heap.size) (Nat.le_refl _) _ 0 hbe⟩; unfold dgW; rw [← HM.out, Hsh.out]; rfl
end Go.Proofs.YtijkfagkbfbpmaaGreatDoor
namespace Go.Proofs.YtijkfagkbfbpmaaGreatDoor
open Go Go.RowKit
set_option maxRecDepth 100000 in
set_option maxHeartbeats 4000000 in
theorem pdigest_n (p : PC) (E : List Nat) (w : World) (hE : ∀ W, Below w.heap.size w W → Calls Tryz.prog 35 #[.agg (cellsP p).toArray] W fun e w' => ∃ v, e = .returned v ∧ OwnB w' W.heap.size v E ∧ Below W.heap.size W w') (HE : Hid (0 < E.length ∧ E.length ≤ 67108800)) (hKC : KcT w 0) :
  Calls Tryz.prog 42 #[.agg (cellsP p).toArray] w fun e w' => e = .returned (.agg (dgW (12 :: encB E)).toArray) ∧ Below w.heap.size w w' := by
 go_enter Tryz.func42, Tryz.ntmps42
 go_upto_region 1 with fail; refine wp_name ?_; intro w2 HW; have hb2 : Below w.heap.size w w2 := by rw [HW.out]; exact Below.tr (bA _ _) (bA _ _)
 have BB : Blk w2 w.heap.size 33 (cellsP p).toArray := by rw [HW.out]; exact (Blk.new _ _ _).alloc _
 have HR : Hid (∃ arr : Array Value, Blk w2 (w.heap.size + 1) 31 arr ∧ arr.size = 16) := by rw [HW.out]; exact ⟨_, heap_alloc_new' _ _ _ (alloc_sz _ _), rfl⟩
 clear HW; obtain ⟨gR, hgR⟩ : ∃ g, Hid (g = w.heap.size + 1) := ⟨_, rfl⟩; rw [← hgR.out] at HR ⊢; have hgeR : w.heap.size ≤ gR := by have := hgR.out; omega
 clear hgR; have HEC := Lib.hid (hE w2 hb2)
 go_wp2_with (first | (refine wpList_load_mid rfl 33 (.tmp 1) rfl w.heap.size 0 rfl (cellsP p) _ (Blk.range BB) Tryz.underlying33 rfl infoP ?_; simp only [Act.put, sA, sB, sC]))
 refine HEC.out.mono ?_; rintro e w3 ⟨v3, rfl, ho3, hb3⟩; obtain ⟨z3, Hz3⟩ : ∃ z, Hid (z = E.length) := ⟨_, rfl⟩; obtain ⟨A3, c3, rfl⟩ := ho3.shp; have HEB := Lib.hid ho3.2; rw [← Hz3.out] at ho3 ⊢; have hby := ho3.by_ (by have := HE.out; omega); have hcv := conv_by hby (by rw [Hz3.out]; exact HE.out.1); have hb23 := Below.tr hb2 hb3; have HR : Hid (∃ arr : Array Value, Blk w3 gR 31 arr ∧ arr.size = 16) := HR.out.imp fun arr h => ⟨Blk.below h.1 hb3 h.1.lt, h.2⟩
 have hax := bA w3 (.cells #[.string (txB E)] 9); have hrow : RowS strC (w3.alloc (.cells #[.string (txB E)] 9)) (some ⟨w3.heap.size, 0, none⟩) 1 [txB E] := ⟨Rd.fresh w3 9 [.string (txB E)], rfl, by omega⟩; clear HEC ho3 hby BB hb2; go_wp2_with fail; refine (hof_n (some ⟨w3.heap.size, 0, none⟩) 1 E _ HEB.out (by have := HE.out; omega) hrow ((hKC.below hb23).below hax)).mono ?_; rintro e w5 ⟨rfl, hb5⟩; obtain ⟨sh, Hsh⟩ : ∃ f, Hid (shaB (shaW (12 :: encB E)) = f) := ⟨_, rfl⟩; unfold dgW; rw [Hsh.out]; have hb35 := Below.tr hax hb5; obtain ⟨arr, hR1, hR2⟩ : ∃ arr : Array Value, Blk w5 gR 31 arr ∧ arr.size = 16 := HR.out.imp fun arr h => ⟨Blk.below h.1 hb35 h.1.lt, h.2⟩
 have hbe := Below.tr hb23 hb35; clear hb35 hb5 hax hrow hb23 HR hb3 hcv
 go_wp2_with (first | (refine wpList_store_mid rfl 31 (.tmp 2) (.tmp 7) rfl gR 0 (arB 16 sh) rfl rfl (Blk.there hR1 (by rw [hR2, arB_size])) infoD16bs (all_oneCell_toArray arB_one) ?_))
 (try simp only [Exit.inBlock, Exit.then])
 have hfin := Blk.setAll (cs := arB 16 sh) hR1 (by rw [hR2, arB_size]); refine bodyPost_ret (results_cell_row rfl _ _ gR 31 _ (0, 0) _ rfl hfin Tryz.underlying31 rfl infoD16bs) rfl ⟨?_, below_setAll hgeR _ 0 hbe⟩; unfold dgW; rw [Hsh.out]; rfl
set_option maxRecDepth 100000 in
set_option maxHeartbeats 4000000 in
theorem rdigest_n (p : PC) (E : List Nat) (w : World) (hE : ∀ W, Below w.heap.size w W → Calls Tryz.prog 41 #[.agg (cellsP p).toArray] W fun e w' => ∃ v, e = .returned v ∧ OwnB w' W.heap.size v E ∧ Below W.heap.size W w') (HE : Hid (0 < E.length ∧ E.length ≤ 67108800)) (hKC : KcT w 1) :
  Calls Tryz.prog 43 #[.agg (cellsP p).toArray] w fun e w' => e = .returned (.agg (dgW (12 :: encB E)).toArray) ∧ Below w.heap.size w w' := by
 go_enter Tryz.func43, Tryz.ntmps43
 go_upto_region 1 with fail; refine wp_name ?_; intro w2 HW; have hb2 : Below w.heap.size w w2 := by rw [HW.out]; exact Below.tr (bA _ _) (bA _ _)
 have BB : Blk w2 w.heap.size 33 (cellsP p).toArray := by rw [HW.out]; exact (Blk.new _ _ _).alloc _
 have HR : Hid (∃ arr : Array Value, Blk w2 (w.heap.size + 1) 31 arr ∧ arr.size = 16) := by rw [HW.out]; exact ⟨_, heap_alloc_new' _ _ _ (alloc_sz _ _), rfl⟩
 clear HW; obtain ⟨gR, hgR⟩ : ∃ g, Hid (g = w.heap.size + 1) := ⟨_, rfl⟩; rw [← hgR.out] at HR ⊢; have hgeR : w.heap.size ≤ gR := by have := hgR.out; omega
 clear hgR; have HEC := Lib.hid (hE w2 hb2)
 go_wp2_with (first | (refine wpList_load_mid rfl 33 (.tmp 1) rfl w.heap.size 0 rfl (cellsP p) _ (Blk.range BB) Tryz.underlying33 rfl infoP ?_; simp only [Act.put, sA, sB, sC]))
 refine HEC.out.mono ?_; rintro e w3 ⟨v3, rfl, ho3, hb3⟩; obtain ⟨z3, Hz3⟩ : ∃ z, Hid (z = E.length) := ⟨_, rfl⟩; obtain ⟨A3, c3, rfl⟩ := ho3.shp; have HEB := Lib.hid ho3.2; rw [← Hz3.out] at ho3 ⊢; have hby := ho3.by_ (by have := HE.out; omega); have hcv := conv_by hby (by rw [Hz3.out]; exact HE.out.1); have hb23 := Below.tr hb2 hb3; have HR : Hid (∃ arr : Array Value, Blk w3 gR 31 arr ∧ arr.size = 16) := HR.out.imp fun arr h => ⟨Blk.below h.1 hb3 h.1.lt, h.2⟩
 have hax := bA w3 (.cells #[.string (txB E)] 9); have hrow : RowS strC (w3.alloc (.cells #[.string (txB E)] 9)) (some ⟨w3.heap.size, 0, none⟩) 1 [txB E] := ⟨Rd.fresh w3 9 [.string (txB E)], rfl, by omega⟩; clear HEC ho3 hby BB hb2; go_wp2_with fail; refine (rdof_n (some ⟨w3.heap.size, 0, none⟩) 1 E _ HEB.out (by have := HE.out; omega) hrow ((hKC.below hb23).below hax)).mono ?_; rintro e w5 ⟨rfl, hb5⟩; obtain ⟨sh, Hsh⟩ : ∃ f, Hid (shaB (shaW (12 :: encB E)) = f) := ⟨_, rfl⟩; unfold dgW; rw [Hsh.out]; have hb35 := Below.tr hax hb5; obtain ⟨arr, hR1, hR2⟩ : ∃ arr : Array Value, Blk w5 gR 31 arr ∧ arr.size = 16 := HR.out.imp fun arr h => ⟨Blk.below h.1 hb35 h.1.lt, h.2⟩
 have hbe := Below.tr hb23 hb35; clear hb35 hb5 hax hrow hb23 HR hb3 hcv
 go_wp2_with (first | (refine wpList_store_mid rfl 31 (.tmp 2) (.tmp 7) rfl gR 0 (arB 16 sh) rfl rfl (Blk.there hR1 (by rw [hR2, arB_size])) infoD16bs (all_oneCell_toArray arB_one) ?_))
 (try simp only [Exit.inBlock, Exit.then])
 have hfin := Blk.setAll (cs := arB 16 sh) hR1 (by rw [hR2, arB_size]); refine bodyPost_ret (results_cell_row rfl _ _ gR 31 _ (0, 0) _ rfl hfin Tryz.underlying31 rfl infoD16bs) rfl ⟨?_, below_setAll hgeR _ 0 hbe⟩; unfold dgW; rw [Hsh.out]; rfl
end Go.Proofs.YtijkfagkbfbpmaaGreatDoor
namespace Go.Proofs.YtijkfagkbfbpmaaGreatDoor
open Go Go.RowKit
end Go.Proofs.YtijkfagkbfbpmaaGreatDoor
namespace Go.Proofs.YtijkfagkbfbpmaaGreatDoor
open Go Go.RowKit
def pairC (x : Nat × Nat) : List Value := [.int .i64 (x.1 : Nat), .int .i64 (x.2 : Nat)]
theorem pairC_len (x : Nat × Nat) : (pairC x).length = 2 := rfl
/-- the pairs (i, k) of a row, k less than m -/
def clRow (C : Nat → Nat → Bool) (i m : Nat) : List (Nat × Nat) := ((List.range m).filter fun k => decide (i < k) && C i k).map fun k => (i, k)
/-- the pairs of the first m rows -/
def clList (C : Nat → Nat → Bool) (n m : Nat) : List (Nat × Nat) := (List.range m).flatMap fun i => clRow C i n
theorem clRow_start (C : Nat → Nat → Bool) (i : Nat) : clRow C i (i + 1) = [] := by
 unfold clRow; rw [List.map_eq_nil_iff, List.filter_eq_nil_iff]; intro k hk; have := List.mem_range.1 hk; simp; omega
theorem clRow_yes {C : Nat → Nat → Bool} {i m : Nat} (h : i < m) (hc : C i m = true) : clRow C i (m + 1) = clRow C i m ++ [(i, m)] := by
 unfold clRow; rw [List.range_succ, List.filter_append, List.map_append]
 congr 1
 simp [h, hc]
theorem clRow_no {C : Nat → Nat → Bool} {i m : Nat} (hc : C i m = false) : clRow C i (m + 1) = clRow C i m := by
 unfold clRow; rw [List.range_succ, List.filter_append, List.map_append]; simp [hc]
theorem clList_succ (C : Nat → Nat → Bool) (n m : Nat) : clList C n (m + 1) = clList C n m ++ clRow C m n := by
 unfold clList; rw [List.range_succ, List.flatMap_append]; simp
theorem clRow_len (C : Nat → Nat → Bool) (i m : Nat) : (clRow C i m).length ≤ m := by
 unfold clRow; rw [List.length_map]; exact Nat.le_trans (List.length_filter_le _ _) (by rw [List.length_range]; exact Nat.le_refl _)
theorem clList_len (C : Nat → Nat → Bool) (n m : Nat) : (clList C n m).length ≤ m * n := by
 induction m with
 | zero => simp [clList]
 | succ m ih =>
  rw [clList_succ, List.length_append, Nat.succ_mul]; have := clRow_len C m n; omega
theorem info_pair : (Tryz.prog.info? 40).map (fun i => (i.zero, i.size, i.bytes)) = some (some (.agg #[.int .i64 0, .int .i64 0]), 2, 16) := by kernel_rfl
theorem own_pairs {w : World} {base : Nat} {v : Value} {n : Nat} {l : List (Nat × Nat)} (hn : n ≤ 281474976710656) (h : w.ownsRow base 40 2 v n (l.flatMap pairC)) : ∃ A c, v = .slice A n c ∧ RowS pairC w A n l := own_rowS pairC_len (by omega) hn h
def PhiCs8 (A : Option Addr) (k c b off i m : Nat) (p q : PC) (cb : Bool) (j : Nat) (w : World) (x : Value) : Prop :=
 match j with
 | 0 => x = .slice A k c
 | 1 => x = .int .i64 (i : Nat)
 | 2 => x = .pointer (some ⟨b, off + i * 24, none⟩)
 | 3 => x = .agg (cellsP p).toArray
 | 4 => x = .slice A k c
 | 5 => x = .int .i64 (m : Nat)
 | 6 => x = .pointer (some ⟨b, off + m * 24, none⟩)
 | 7 => x = .agg (cellsP q).toArray
 | 8 => x = .bool cb
 | _ => True

theorem PhiCs8.keep {A : Option Addr} {k c b off i m : Nat} {p q : PC} {cb : Bool} : ∀ (w w' : World), Below w.heap.size w w' → ∀ j x, PhiCs8 A k c b off i m p q cb j w x → PhiCs8 A k c b off i m p q cb j w' x := by
 intro w w' hb j x h; unfold PhiCs8 at h ⊢; exact h
set_option maxRecDepth 100000 in
set_option maxHeartbeats 4000000 in
theorem clashes_n (A : Option Addr) (k c : Nat) (ps : List PC) (Lf : Nat → List Nat × List Nat) (Ev : Nat → Int) (dg : Nat → List Int) (w : World) (h : PLs w A k ps Lf Ev dg) (hk : k ≤ 1000) :
  Calls Tryz.prog 13 #[.slice A k c] w fun e w' => ∃ A' k' c', e = .returned (.slice A' k' c') ∧ RowS pairC w' A' k' (clList (clA Ev Lf dg ps) k k) ∧ Below w.heap.size w w' := by
 obtain ⟨i0, hi0, hz0, hz1, hz2⟩ := info_parts info_pair; have HH := Lib.hid h; have HKL : Hid (k = ps.length) := h.row.2.1; clear h
 go_enter Tryz.func13, Tryz.ntmps13
 go_wp2_with fail
 go_loopg [3, 8] k (fun mm v x wr => ∃ (i : Nat) (L : List (Nat × Nat)), x = .int .i64 i ∧ i + mm = k ∧ wr.ownsRow w.heap.size 40 2 v L.length (L.flatMap pairC) ∧ Hid (L = clList (clA Ev Lf dg ps) k i) ∧ Below w.heap.size w wr)
 case atStart => exact ⟨0, [], rfl, by omega, World.ownsRow_nil _ _ _ _, rfl, Below.refl _ _⟩
 case round =>
  obtain ⟨G, hG⟩ : ∃ G, G = gk := ⟨gk, rfl⟩; subst hG; obtain ⟨i, L, rfl, him, hown, HL, hbe⟩ := hrel; obtain ⟨A2, c2, rfl⟩ := own_shp hown; by_cases hi : i < k
  ·have t1 : decide ((i : Int) < (k : Int)) = true := by simp; omega
   have li : (i : Int) < (k : Int) := by omega
   have s1 : IntKind.i64.wrap ((i : Int) + 1) = (i : Int) + 1 := by rw [IntWalk.i64_in _ (by omega)]
   have hil : i < ps.length := by have := HKL.out; omega
   obtain ⟨p, HP⟩ : ∃ p, Hid (ps[i] = p ∧ ps[i]? = some p) := ⟨_, rfl, List.getElem?_eq_getElem hil⟩; obtain ⟨wo, hwo⟩ : ∃ x, x = wr := ⟨_, rfl⟩; subst hwo; go_wp2_with fail
   go_loopg [3, 5] (k - (i + 1)) (fun mm v x wr => ∃ (m : Nat) (L2 : List (Nat × Nat)), x = .int .i64 m ∧ m + mm = k ∧ i < m ∧ wr.ownsRow w.heap.size 40 2 v L2.length (L2.flatMap pairC) ∧ Hid (L2 = clList (clA Ev Lf dg ps) k i ++ clRow (clA Ev Lf dg ps) i m) ∧ Below w.heap.size w wr)
   case atStart => exact ⟨i + 1, L, by go_num, by omega, by omega, hown, by show _ = _; rw [clRow_start, List.append_nil]; exact HL.out, hbe⟩
   case round =>
    obtain ⟨G2, hG2⟩ : ∃ G, G = gk := ⟨gk, rfl⟩; subst hG2; clear hown hbe; obtain ⟨m, L2, rfl, hmm, hlm, hown, HL2, hbe⟩ := hrel; obtain ⟨A3, c3, rfl⟩ := own_shp hown; by_cases hm : m < k
    ·have t2 : decide ((m : Int) < (k : Int)) = true := by simp; omega
     have lm : (m : Int) < (k : Int) := by omega
     have hml : m < ps.length := by have := HKL.out; omega
     obtain ⟨q, HQ⟩ : ∃ q, Hid (ps[m] = q ∧ ps[m]? = some q) := ⟨_, rfl, List.getElem?_eq_getElem hml⟩; have HPL := Lib.hid (HH.out.below hbe); obtain ⟨b, off, hA', HCP⟩ := HPL.out.row.at_ cellsP_len (by omega) hi hil; obtain ⟨b', off', hA2', HCQ⟩ := HPL.out.row.at_ cellsP_len (by omega) hm hml; rw [hA'] at hA2'; injection hA2' with hA2'; injection hA2' with e1 e2; subst e1 e2; subst hA'; rw [HP.out.1] at HCP; rw [HQ.out.1] at HCQ; have HEP := Lib.hid (HPL.out.esc i p HP.out.2); have HEQ := Lib.hid (HPL.out.esc m q HQ.out.2); have HDP := Lib.hid (HPL.out.dk i p HP.out.2); have HDQ := Lib.hid (HPL.out.dk m q HQ.out.2); obtain ⟨cb, HC⟩ : ∃ cb, Hid (cb = clA Ev Lf dg ps i m) := ⟨_, rfl⟩
     have HCB : Hid (∀ (E F : Int) (cb' : Bool), (PVal p (Lf i).1 (Lf i).2 E ∧ (E = 0 → PVal q (Lf m).1 (Lf m).2 F) ∧ cb' = clB E F p q (dg i) (dg m) (sameR (Lf i).1 (Lf i).2 (Lf m).1 (Lf m).2)) → cb' = cb) := by
      intro E F cb' h; have e1 := h.1.uniq (HPL.out.pv i p HP.out.2); rw [h.2.2, HC.out]; unfold clA; rw [HP.out.2, HQ.out.2]; simp only; by_cases hE : E = 0
      ·have e2 := (h.2.1 hE).uniq (HPL.out.pv m q HQ.out.2); rw [e1, e2]
      ·unfold clB; rw [← e1]; simp [hE]
     clear HPL; go_upto_region 8 with fail; obtain ⟨wp, hwp⟩ : ∃ x, x = wr := ⟨_, rfl⟩; subst hwp; refine region_invF (PhiCs8 (some ⟨b, off, none⟩) k c b off i m p q cb) (fun w w' => Below w.heap.size w w') (fun W => Below wp.heap.size wp W) (by kernel_rfl) (by kernel_rfl) (by kernel_rfl) PhiCs8.keep (fun _ _ hR hS => Below.tr hS hR) (bD _) (fun vs => by simp only [fillR, Act.put, sA, sB, sC, Nat.zero_add, Nat.reduceAdd]; rfl) ?_ ?_
     ·refine sK ?_ (sK ?_ (sK ?_ (sK ?_ (sK ?_ (sK ?_ (sK ?_ (sK ?_ (sK ?_ (sZ)))))))))
      ·as_aux_lemma =>
       intro vs W hS hdep K hK; refine ⟨?_⟩; simp only [Act.put, sA, sB, sC, Nat.zero_add, Nat.reduceAdd] at hK ⊢; go_simp; with_reducible refine hK _ _ (Below.refl _ _) ?_
       exact rfl
      ·as_aux_lemma =>
       intro vs W hS hdep K hK; refine ⟨?_⟩; simp only [Act.put, sA, sB, sC, Nat.zero_add, Nat.reduceAdd] at hK ⊢; go_simp; with_reducible refine hK _ _ (Below.refl _ _) ?_
       exact rfl
      ·as_aux_lemma =>
       intro vs W hS hdep K hK; have d0 := hdep ⟨0, .data⟩ (by simp) rfl; simp only [PhiCs8] at d0; have d1 := hdep ⟨1, .data⟩ (by simp) rfl; simp only [PhiCs8] at d1; refine ⟨?_⟩; simp only [Act.put, sA, sB, sC, Nat.zero_add, Nat.reduceAdd, d0, d1] at hK ⊢; go_simp; with_reducible refine hK _ _ (Below.refl _ _) ?_
       exact rfl
      ·as_aux_lemma =>
       intro vs W hS hdep K hK; have d0 := hdep ⟨2, .data⟩ (by simp) rfl; simp only [PhiCs8] at d0; refine ⟨?_⟩; simp only [Act.put, sA, sB, sC, Nat.zero_add, Nat.reduceAdd, d0] at hK ⊢; rw [if_pos (by rfl)]; refine wp_load_mid 33 (.tmp 21) (by rfl) b (off + i * 24) (by rfl) (cellsP p) _ (fun j v h => cell_keep hS (HCP.out j v h)) Tryz.underlying33 (by rfl) infoP ?_; simp only [Act.put, sA, sB, sC]; with_reducible refine hK _ _ (Below.refl _ _) ?_
       exact rfl
      ·as_aux_lemma =>
       intro vs W hS hdep K hK; refine ⟨?_⟩; simp only [Act.put, sA, sB, sC, Nat.zero_add, Nat.reduceAdd] at hK ⊢; go_simp; with_reducible refine hK _ _ (Below.refl _ _) ?_
       exact rfl
      ·as_aux_lemma =>
       intro vs W hS hdep K hK; refine ⟨?_⟩; simp only [Act.put, sA, sB, sC, Nat.zero_add, Nat.reduceAdd] at hK ⊢; go_simp; with_reducible refine hK _ _ (Below.refl _ _) ?_
       exact rfl
      ·as_aux_lemma =>
       intro vs W hS hdep K hK; have d0 := hdep ⟨4, .data⟩ (by simp) rfl; simp only [PhiCs8] at d0; have d1 := hdep ⟨5, .data⟩ (by simp) rfl; simp only [PhiCs8] at d1; refine ⟨?_⟩; simp only [Act.put, sA, sB, sC, Nat.zero_add, Nat.reduceAdd, d0, d1] at hK ⊢; go_simp; with_reducible refine hK _ _ (Below.refl _ _) ?_
       exact rfl
      ·as_aux_lemma =>
       intro vs W hS hdep K hK; have d0 := hdep ⟨6, .data⟩ (by simp) rfl; simp only [PhiCs8] at d0; refine ⟨?_⟩; simp only [Act.put, sA, sB, sC, Nat.zero_add, Nat.reduceAdd, d0] at hK ⊢; rw [if_pos (by rfl)]; refine wp_load_mid 33 (.tmp 25) (by rfl) b (off + m * 24) (by rfl) (cellsP q) _ (fun j v h => cell_keep hS (HCQ.out j v h)) Tryz.underlying33 (by rfl) infoP ?_; simp only [Act.put, sA, sB, sC]; with_reducible refine hK _ _ (Below.refl _ _) ?_
       exact rfl
      ·as_aux_lemma =>
       intro vs W hS hdep K hK; have d0 := hdep ⟨3, .data⟩ (by simp) rfl; simp only [PhiCs8] at d0; have d1 := hdep ⟨7, .data⟩ (by simp) rfl; simp only [PhiCs8] at d1; refine ⟨?_⟩; simp only [Act.put, sA, sB, sC, Nat.zero_add, Nat.reduceAdd, d0, d1] at hK ⊢; go_simp; refine (clash_n p q (Lf i).1 (Lf i).2 (Lf m).1 (Lf m).2 (dg i) (dg m) _ (HEP.out.1.below hS) (HEQ.out.1.below hS) HEP.out.2.1 HEP.out.2.2 HEQ.out.2.1 HEQ.out.2.2 HDP.out HDQ.out).mono ?_; rintro e w' ⟨E, F, cb', rfl, HX, hb⟩; obtain rfl : cb' = cb := HCB.out E F cb' HX.out; go_wp2_with fail; with_reducible refine hK _ _ hb ?_
       exact rfl
     ·intro vs8 w8 hS hv; have u8 := hv 8 (by simp); simp only [PhiCs8] at u8; simp only [Act.put, sA, sB, sC, Nat.zero_add, Nat.reduceAdd, u8]; have hown := own_below hown hS; have hbe := Below.tr hbe hS; clear u8 hv hS HCP HCQ HEP HEQ HDP HDQ HCB; by_cases hcb : cb = true
      ·subst hcb
       have HL3 : Hid (L2 ++ [(i, m)] = clList (clA Ev Lf dg ps) k i ++ clRow (clA Ev Lf dg ps) i (m + 1)) := by
        show _ = _
        rw [clRow_yes hlm HC.out.symm, HL2.out, List.append_assoc]
       have hln : L2.length ≤ 1001000 := by
        have h1 := clList_len (clA Ev Lf dg ps) k i; have h2 := clRow_len (clA Ev Lf dg ps) i m; have h3 : i * k ≤ 1000 * 1000 := Nat.mul_le_mul (by omega) hk; rw [HL2.out, List.length_append]; omega
       clear HL2 HC; have hb3 := bA w8 (.cells (pairC (i, m)).toArray 40); have hown3 := own_below hown hb3; have hrd : Rd (w8.alloc (.cells (pairC (i, m)).toArray 40)) (some ⟨w8.heap.size, 0, none⟩) (pairC (i, m)) := Rd.fresh w8 40 (pairC (i, m)); have hbe3 := Below.tr hbe hb3; have hsz := hbe3.size; clear hb3 hown hbe
       go_wp2_with (first | (at_builtin; go_loud (refine wpList_append_any _ rfl (.tmp 28) (.tmp 32) _ rfl w.heap.size 40 i0 _ 2 16 Tryz.underlying34 hi0 hz0 hz1 hz2 rfl (by omega) _ L2.length _ rfl hown3 _ 1 1 (pairC (i, m)) rfl rfl hrd (by simp [pairC, Value.oneCell']) (by simp only [maxLen]; omega) (by omega) hsz ?_); intro v4 w4 hown4 hg4 hat4))
       have hbe4 : Below w.heap.size w w4 := hbe3.grown hg4 hsz (own_block_ge hown3); have hown5 : w4.ownsRow w.heap.size 40 2 v4 (L2 ++ [(i, m)]).length ((L2 ++ [(i, m)]).flatMap pairC) := by rw [List.flatMap_append, List.length_append]; simpa using hown4
       clear hown4 hown3 hg4 hat4 hbe3 hsz hrd hln; go_wp2_with fail
       go_roundg (G2 - 1)
       case measure => omega
       case rel => exact ⟨m + 1, L2 ++ [(i, m)], by go_num, by omega, by omega, hown5, HL3, hbe4⟩
      ·have hcb : cb = false := by simpa using hcb
       subst hcb
       have HL3 : Hid (L2 = clList (clA Ev Lf dg ps) k i ++ clRow (clA Ev Lf dg ps) i (m + 1)) := by
        show _ = _
        rw [clRow_no HC.out.symm]; exact HL2.out
       clear HL2 HC; go_wp2_with fail
       go_roundg (G2 - 1)
       case measure => omega
       case rel => exact ⟨m + 1, L2, by go_num, by omega, by omega, hown, HL3, hbe⟩
    ·have t2 : decide ((m : Int) < (k : Int)) = false := by simp; omega
     have HL3 : Hid (L2 = clList (clA Ev Lf dg ps) k (i + 1)) := by
      show _ = _
      rw [clList_succ, HL2.out, show m = k by omega]
     clear HL2; go_wp2_with fail
     go_roundg (G - 1)
     case measure => omega
     case rel => exact ⟨i + 1, L2, by go_num, by omega, hown, HL3, hbe⟩
  ·have t1 : decide ((i : Int) < (k : Int)) = false := by simp; omega
   have hln : L.length ≤ 281474976710656 := by
    have h1 := clList_len (clA Ev Lf dg ps) k i; have h3 : i * k ≤ 1000 * 1000 := Nat.mul_le_mul (by omega) hk; rw [HL.out]; omega
   have HL2 : Hid (L = clList (clA Ev Lf dg ps) k k) := by show _ = _; rw [HL.out, show i = k by omega]
   obtain ⟨A5, c5, e5, hrow⟩ := own_pairs hln hown; injection e5 with e1 e2 e3; subst e1 e3; clear HL hown hln; go_wp2_with fail; go_ret; exact ⟨_, _, ⟨_, rfl⟩, HL2.out ▸ hrow, hbe⟩
end Go.Proofs.YtijkfagkbfbpmaaGreatDoor
namespace Go.Proofs.YtijkfagkbfbpmaaGreatDoor
open Go Go.RowKit
end Go.Proofs.YtijkfagkbfbpmaaGreatDoor
namespace Go.Proofs.YtijkfagkbfbpmaaGreatDoor
open Go Go.RowKit
end Go.Proofs.YtijkfagkbfbpmaaGreatDoor
namespace Go.Proofs.YtijkfagkbfbpmaaGreatDoor
open Go Go.RowKit
end Go.Proofs.YtijkfagkbfbpmaaGreatDoor
