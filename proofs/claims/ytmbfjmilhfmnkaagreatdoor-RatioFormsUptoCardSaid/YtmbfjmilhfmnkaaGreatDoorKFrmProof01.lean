import Derived.Test.YtmbfjmilhfmnkaaGreatDoorKRdsProof32
import Derived.Test.YtmbfjmilhfmnkaaGreatDoorKRdsProof35
import Derived.Test.YtmbfjmilhfmnkaaGreatDoorS0
set_option linter.unusedVariables false
set_option linter.unusedSimpArgs false
namespace Go.Proofs.YtmbfjmilhfmnkaaGreatDoor
open Go Go.RowKit
set_option maxRecDepth 10000 in
set_option maxHeartbeats 1000000 in
theorem rrow_n (s : ByteArray) (w : World) (hs : s.size ≤ 9223372036854775807) :
  Calls Tryz.prog 50 #[.string s] w fun e w' => e = .returned (.bool (rowB s)) ∧ Below w.heap.size w w' := by
 obtain ⟨R, HR⟩ : ∃ b, Hid (b = rowB s) := ⟨_, rfl⟩; rw [← HR.out]
 go_enter Tryz.func50, Tryz.ntmps50
 go_wp2_with fail
 go_loopg [3] s.size (fun j x wr => ∃ k : Nat, x = .int .i64 k ∧ k + j = s.size ∧ Hid (∀ (j : Nat) (h : j < s.size), j < k → dgN (s[j].toNat : Int) = true) ∧ wr = w)
 case atStart => exact ⟨0, rfl, by omega, (fun j _ h => by omega), rfl⟩
 case round =>
  obtain ⟨k, rfl, hkj, HP, rfl⟩ := hrel; by_cases hlt : k < s.size
  ·have t1 : decide ((k : Int) < (s.size : Int)) = true := by simp; omega
   obtain ⟨n, HN⟩ : ∃ n : Nat, Hid (n = s[k].toNat) := ⟨s[k].toNat, rfl⟩; by_cases hd : dgN (n : Int) = true
   ·have hd2 := hd; unfold dgN at hd2; rw [decide_eq_true_iff] at hd2
    have HP2 : Hid (∀ (j : Nat) (h : j < s.size), j < k + 1 → dgN (s[j].toNat : Int) = true) := by
     intro j hj hjk
     rcases Nat.lt_or_ge j k with h1 | h1
     ·exact HP.out j hj h1
     ·obtain rfl : j = k := by omega
      rw [← HN.out]; exact hd
    have t2 : decide ((s[k].toNat : Int) < 48) = false := by rw [← HN.out]; simp; omega
    have t3 : decide ((57 : Int) < (s[k].toNat : Int)) = false := by rw [← HN.out]; simp; omega
    clear hd hd2; go_wp2_with fail
    go_roundg (gk - 1)
    case measure => omega
    case rel => exact ⟨k + 1, by go_num, by omega, HP2, rfl⟩
   ·have HF : Hid (R = false) := by
     show _ = _
     rw [HR.out]; unfold rowB; rw [decide_eq_false_iff_not]; rintro ⟨_, _, h3⟩; have := h3 k hlt; rw [← HN.out] at this; exact hd this
    unfold dgN at hd; rw [decide_eq_true_iff] at hd; by_cases h48 : n < 48
    ·have t2 : decide ((s[k].toNat : Int) < 48) = true := by rw [← HN.out]; simp; omega
     clear hd; go_wp2_with fail; go_ret; exact ⟨retB5 HF.out.symm, Below.refl _ _⟩
    ·have t2 : decide ((s[k].toNat : Int) < 48) = false := by rw [← HN.out]; simp; omega
     have t3 : decide ((57 : Int) < (s[k].toNat : Int)) = true := by rw [← HN.out]; simp; omega
     clear hd; go_wp2_with fail; go_ret; exact ⟨retB5 HF.out.symm, Below.refl _ _⟩
  ·obtain rfl : k = s.size := by omega
   have t1 : decide ((s.size : Int) < (s.size : Int)) = false := by simp
   by_cases h0 : s.size = 0
   ·have HF : Hid (R = false) := by
     show _ = _; rw [HR.out]; unfold rowB; rw [decide_eq_false_iff_not]; intro h; exact h.1 h0
    have u1 : ((s.size : Int) == 1) = false := by simp; omega
    have u2 : decide ((1 : Int) < (s.size : Int)) = false := by simp; omega
    clear hlt h0; go_wp2_with fail; go_ret; exact ⟨retB5 HF.out.symm, Below.refl _ _⟩
   ·by_cases h1 : s.size = 1
    ·have HF : Hid (R = true) := by
      show _ = _; rw [HR.out]; unfold rowB; rw [decide_eq_true_iff]
      exact ⟨h0, (fun h => by omega), fun i hi => HP.out i hi hi⟩
     have u1 : ((s.size : Int) == 1) = true := by simp; omega
     clear hlt h0 h1; go_wp2_with fail; go_ret; exact ⟨retB5 HF.out.symm, Below.refl _ _⟩
    ·have u1 : ((s.size : Int) == 1) = false := by simp; omega
     have u2 : decide ((1 : Int) < (s.size : Int)) = true := by simp; omega
     have hp : 0 < s.size := by omega
     by_cases h48 : (s[0]'hp).toNat = 48
     ·have HF : Hid (R = false) := by
       show _ = _; rw [HR.out]; unfold rowB; rw [decide_eq_false_iff_not]
       rintro ⟨_, h, _⟩; exact h ⟨by omega, hp, h48⟩
      have t2 : (((s[0]'hp).toNat : Int) != 48) = false := by simp; omega
      clear hlt h0 h1 h48; go_wp2_with fail; go_ret; exact ⟨retB5 HF.out.symm, Below.refl _ _⟩
     ·have HF : Hid (R = true) := by
       show _ = _; rw [HR.out]; unfold rowB; rw [decide_eq_true_iff]
       exact ⟨h0, (fun ⟨_, _, h⟩ => h48 h), fun i hi => HP.out i hi hi⟩
      have t2 : (((s[0]'hp).toNat : Int) != 48) = true := by simp; omega
      clear hlt h0 h1 h48; go_wp2_with fail; go_ret; exact ⟨retB5 HF.out.symm, Below.refl _ _⟩

def PhiNr (A : Option Addr) (k c X : Nat) (s : ByteArray) (i n d : Nat) (vs : Nat → Value) (j : Nat) (w : World) (x : Value) : Prop :=
 match j with
 | 0 => x = .slice A k c
 | 1 => IsNb w x 10 1
 | 2 => IsNb w x (X * 10) 618
 | 3 => x = .string s
 | 4 => x = .int .i64 (i : Nat)
 | 5 => x = .int .u8 (n : Nat)
 | 6 => x = .int .u8 (d : Nat)
 | 7 => x = .int .i64 (d : Nat)
 | 8 => IsNb w x d 2
 | 9 => IsNb w x (X * 10 + d) 618
 | _ => True

theorem PhiNr.keepR {A : Option Addr} {k c X : Nat} {s : ByteArray} {i n d : Nat} : ∀ vs (w w' : World), Below w.heap.size w w' → ∀ j x, PhiNr A k c X s i n d vs j w x → PhiNr A k c X s i n d vs j w' x := by
 intro vs w w' hb j x h; unfold PhiNr at h ⊢
 split <;> simp only at h ⊢
 all_goals first
  | exact h
  | exact h.below hb
  | (obtain ⟨v, er, e, h⟩ := h; exact ⟨v, er, e, h.below hb⟩)
theorem PhiNr.keepF {A : Option Addr} {k c X : Nat} {s : ByteArray} {i n d : Nat} : ∀ vs (w w' : World) j x, ([] : List Nat).contains j = true → PhiNr A k c X s i n d vs j w x → PhiNr A k c X s i n d vs j w' x := by
 intro vs w w' j x hf
 cases hf
set_option maxRecDepth 10000 in
set_option maxHeartbeats 1000000 in
theorem rnumber_long (s : ByteArray) (w : World) (hs : s.size ≤ 9223372036854775807) (h : 617 < s.size) :
  Calls Tryz.prog 51 #[.string s] w fun e w' => e = .returned (.tuple #[.slice none 0 0, .bool false]) ∧ w' = w := by
 have t1 : decide ((617 : Int) < (s.size : Int)) = true := by simp; omega
 go_enter Tryz.func51, Tryz.ntmps51
 go_wp2_with fail; exact bodyPost_ret (v := .tuple #[.slice none 0 0, .bool false]) (by simp [results, Tryz.results51, go_sem]) rfl ⟨rfl, rfl⟩
set_option maxRecDepth 10000 in
set_option maxHeartbeats 2000000 in
theorem rnumber_n (s : ByteArray) (w : World) (h : s.size ≤ 617) (hd : Hid (∀ b ∈ s.data.toList, 48 ≤ b.toNat ∧ b.toNat ≤ 57)) :
  Calls Tryz.prog 51 #[.string s] w fun e w' => ∃ A k c, e = .returned (.tuple #[.slice A k c, .bool (decide (k ≤ 64))]) ∧ Nb w' A k c (numV s.data.toList) ∧ k ≤ 618 ∧ Below w.heap.size w w' := by
 have t1 : decide ((617 : Int) < (s.size : Int)) = false := by simp; omega
 go_enter Tryz.func51, Tryz.ntmps51
 go_wp2_with fail
 go_loopg [4, 5] s.size (fun j x y wx => ∃ (i : Nat) (A : Option Addr) (k c : Nat), x = .slice A k c ∧ y = .int .i64 i ∧ i + j = s.size ∧ Nb wx A k c (numV (s.data.toList.take i)) ∧ Below w.heap.size w wx)
 case atStart => exact ⟨0, none, 0, 0, rfl, rfl, by omega, by rw [List.take_zero]; exact Nb.zero _, Below.refl _ _⟩
 case round =>
  obtain ⟨G, hG⟩ : ∃ G, G = gk := ⟨gk, rfl⟩; subst hG; obtain ⟨i, A, k, c, rfl, rfl, hij, hX, hbe⟩ := hrel; obtain ⟨wx, hwx⟩ : ∃ z, z = wr := ⟨_, rfl⟩; subst hwx; have hlen : s.data.toList.length = s.size := by rw [Array.length_toList]; rfl
  by_cases hi : i < s.size
  ·have t2 : decide ((i : Int) < (s.size : Int)) = true := by simp; omega
   have hib := hd.out _ (List.mem_of_getElem? (bytes_get hi)); obtain ⟨n, HN⟩ : ∃ n : Nat, Hid (n = s[i].toNat) := ⟨s[i].toNat, rfl⟩; obtain ⟨d, HD⟩ : ∃ d : Nat, Hid (d = n - 48) := ⟨_, rfl⟩; obtain ⟨E, HE⟩ : ∃ E : Nat, Hid (E = 618) := ⟨618, rfl⟩; have hE : E ≤ 618 := by rw [HE.out]; exact Nat.le_refl _
   have hiE : i + 1 ≤ E := by rw [HE.out]; omega
   have hdn : d = n - 48 := HD.out; obtain ⟨X, HX⟩ : ∃ X, Hid (X = numV (s.data.toList.take i)) := ⟨_, rfl⟩; rw [← HN.out] at hib; have hnd : n = d + 48 := by omega
   have hd9 : d ≤ 9 := by omega
   clear hdn
   have hXN : Hid (numV (s.data.toList.take (i + 1)) = X * 10 + d) := by
    show _ = _
    rw [numV_take (bytes_get hi), ← HX.out, ← HN.out, HD.out]
   have hX10 : X < 10 ^ i := by rw [HX.out]; exact numV_lt (fun b hb => (hd.out b hb).2) i (by omega)
   have hx10 : X * 10 < 10 ^ E := Nat.lt_of_lt_of_le (show X * 10 < 10 ^ (i + 1) by rw [Nat.pow_succ]; omega) (Nat.pow_le_pow_right (by omega) hiE); have hxd : X * 10 + d < 10 ^ E := Nat.lt_of_lt_of_le (show X * 10 + d < 10 ^ (i + 1) by rw [Nat.pow_succ]; omega) (Nat.pow_le_pow_right (by omega) hiE)
   have hk : k ≤ 618 := by
    have h1 := lb10 hX10; have h2 := hX.1; rw [← HX.out] at h2; omega
   rw [← HX.out] at hX; have s1 : IntKind.u8.wrap ((n : Int) - 48) = (d : Int) := by rw [IntWalk.u8_in _ (by omega)]; omega
   have HND := Lib.hid hnd; have s2 : IntKind.i64.wrap (d : Int) = (d : Int) := by rw [IntWalk.i64_in _ (by omega)]
   clear hnd hib; go_upto_region 7 with fail; refine region_chain [10] [.early, .early, .early, .early, .early, .early, .early, .early, .early, .early, .chain 0] [] [] (PhiNr A k c X s i n d) (fun w w' => Below w.heap.size w w') (SNu wx (X * 10 + d)) (by kernel_rfl) (by kernel_rfl) (by kernel_rfl) (by kernel_rfl) (sK (fun _ _ _ _ _ h => h) (sK (fun _ _ _ _ _ h => h) (sK (fun _ _ _ _ _ h => h) (sK (fun _ _ _ _ _ h => h) (sK (fun _ _ _ _ _ h => h) (sK (fun _ _ _ _ _ h => h) (sK (fun _ _ _ _ _ h => h) (sK (fun _ _ _ _ _ h => h) (sK (fun _ _ _ _ _ h => h) (sK (fun _ _ _ _ _ h => h) (sK (fun _ _ _ _ _ h => h) (sZ)))))))))))) PhiNr.keepR PhiNr.keepF (fun _ _ _ _ hR hS => Below.tr hS hR) (by rintro (_ | ⟨_, _ | _⟩) vs vs' w _ h <;> exact h) (fun _ => bD _) (fun vs => by simp only [fillR, Act.put, sA, sB, sC, Nat.zero_add, Nat.reduceAdd]; rfl) ?_ ?_
   ·refine sK ?_ (sK ?_ (sK ?_ (sK ?_ (sK ?_ (sK ?_ (sK ?_ (sK ?_ (sK ?_ (sK ?_ (sK ?_ (sZ)))))))))))
    ·as_aux_lemma =>
     intro vs W hS hu hdep K hK; have HU := Lib.hid hu; clear hu; have u0 : vs 10 = .slice A k c := HU.out 10 (by simp); refine ⟨?_⟩; simp only [Act.put, sA, sB, sC, Nat.zero_add, Nat.reduceAdd, u0] at hK ⊢; go_simp; with_reducible refine hK _ _ (Below.refl _ _) ?_
     exact rfl
    ·as_aux_lemma =>
     intro vs W hS hu hdep K hK; have HU := Lib.hid hu; clear hu; refine ⟨?_⟩; simp only [Act.put, sA, sB, sC, Nat.zero_add, Nat.reduceAdd] at hK ⊢; go_simp; with_reducible refine hK _ _ (bA _ _) ?_
     exact ⟨_, _, _, rfl, Nb.dig W 10 (by omega) (by omega), Nat.le_refl _⟩
    ·as_aux_lemma =>
     intro vs W hS hu hdep K hK; have HU := Lib.hid hu; clear hu; have d0 := hdep ⟨0, .data⟩ (by simp) rfl; simp only [PhiNr] at d0; have d1 := hdep ⟨1, .data⟩ (by simp) rfl; simp only [PhiNr] at d1; refine @exE3 _ _ _ _ _ d1 ?_; clear d1; intro A1 k1 c1 d1; have e1 := d1.1; have n1 := d1.2.1; have m1 := d1.2.2; clear d1; refine ⟨?_⟩; simp only [fillR, Act.put, sA, sB, sC, Nat.zero_add, Nat.reduceAdd, d0, e1] at hK ⊢; go_simp; refine (rtimes_n _ _ _ _ _ _ _ _ _ (hX.below hS) n1 (by omega) (by omega)).mono ?_; rintro e w' ⟨A, k, c, rfl, hn, hb⟩; go_wp2_with fail; with_reducible refine hK _ _ hb ?_
     exact ⟨A, k, c, rfl, hn, by rw [hn.1]; exact Nat.le_trans (lb10 hx10) hE⟩
    ·as_aux_lemma =>
     intro vs W hS hu hdep K hK; have HU := Lib.hid hu; clear hu; refine ⟨?_⟩; simp only [Act.put, sA, sB, sC, Nat.zero_add, Nat.reduceAdd] at hK ⊢; go_simp; with_reducible refine hK _ _ (Below.refl _ _) ?_
     exact rfl
    ·as_aux_lemma =>
     intro vs W hS hu hdep K hK; have HU := Lib.hid hu; clear hu; refine ⟨?_⟩; simp only [Act.put, sA, sB, sC, Nat.zero_add, Nat.reduceAdd] at hK ⊢; go_simp; with_reducible refine hK _ _ (Below.refl _ _) ?_
     exact rfl
    ·as_aux_lemma =>
     intro vs W hS hu hdep K hK; have HU := Lib.hid hu; clear hu; have d0 := hdep ⟨3, .data⟩ (by simp) rfl; simp only [PhiNr] at d0; have d1 := hdep ⟨4, .data⟩ (by simp) rfl; simp only [PhiNr] at d1; have q1 := hi; refine ⟨?_⟩; simp only [Act.put, sA, sB, sC, Nat.zero_add, Nat.reduceAdd, d0, d1] at hK ⊢; go_simp; with_reducible refine hK _ _ (Below.refl _ _) ?_
     exact (congrArg (fun z : Nat => Value.int .u8 (z : Int)) HN.out.symm)
    ·as_aux_lemma =>
     intro vs W hS hu hdep K hK; have HU := Lib.hid hu; clear hu; have d0 := hdep ⟨5, .data⟩ (by simp) rfl; simp only [PhiNr] at d0; refine ⟨?_⟩; simp only [Act.put, sA, sB, sC, Nat.zero_add, Nat.reduceAdd, d0] at hK ⊢; go_simp; with_reducible refine hK _ _ (Below.refl _ _) ?_
     exact rfl
    ·as_aux_lemma =>
     intro vs W hS hu hdep K hK; have HU := Lib.hid hu; clear hu; have d0 := hdep ⟨6, .data⟩ (by simp) rfl; simp only [PhiNr] at d0; refine ⟨?_⟩; simp only [Act.put, sA, sB, sC, Nat.zero_add, Nat.reduceAdd, d0] at hK ⊢; go_simp; with_reducible refine hK _ _ (Below.refl _ _) ?_
     exact rfl
    ·as_aux_lemma =>
     intro vs W hS hu hdep K hK; have HU := Lib.hid hu; clear hu; have d0 := hdep ⟨7, .data⟩ (by simp) rfl; simp only [PhiNr] at d0; refine ⟨?_⟩; simp only [fillR, Act.put, sA, sB, sC, Nat.zero_add, Nat.reduceAdd, d0] at hK ⊢; go_simp; refine (rwhole_n d _ (by omega)).mono ?_; rintro e w' ⟨A, k, c, rfl, hn, hb⟩; go_wp2_with fail; with_reducible refine hK _ _ hb ?_
     exact ⟨A, k, c, rfl, hn, by rw [hn.1]; exact Nm.lb_length_lt.2 (b2 (by omega))⟩
    ·as_aux_lemma =>
     intro vs W hS hu hdep K hK; have HU := Lib.hid hu; clear hu; have d0 := hdep ⟨2, .data⟩ (by simp) rfl; simp only [PhiNr] at d0; refine @exE3 _ _ _ _ _ d0 ?_; clear d0; intro A0 k0 c0 d0; have e0 := d0.1; have n0 := d0.2.1; have m0 := d0.2.2; clear d0; have d1 := hdep ⟨8, .data⟩ (by simp) rfl; simp only [PhiNr] at d1; refine @exE3 _ _ _ _ _ d1 ?_; clear d1; intro A1 k1 c1 d1; have e1 := d1.1; have n1 := d1.2.1; have m1 := d1.2.2; clear d1; refine ⟨?_⟩; simp only [fillR, Act.put, sA, sB, sC, Nat.zero_add, Nat.reduceAdd, e0, e1] at hK ⊢; go_simp; refine (rplus_n _ _ _ _ _ _ _ _ _ n0 n1 (by omega) (by omega)).mono ?_; rintro e w' ⟨A, k, c, rfl, hn, hb⟩; go_wp2_with fail; with_reducible refine hK _ _ hb ?_
     exact ⟨A, k, c, rfl, hn, by rw [hn.1]; exact Nat.le_trans (lb10 hxd) hE⟩
    ·as_aux_lemma =>
     intro vs W hS hdep K hK; have d0 := hdep ⟨9, .data⟩ (by simp) rfl (by rfl); simp only [PhiNr] at d0; refine @exE3 _ _ _ _ _ d0 ?_; clear d0; intro A0 k0 c0 d0; have e0 := d0.1; have n0 := d0.2.1; have m0 := d0.2.2; clear d0; have hS0 : Below wx.heap.size wx W := hS; refine ⟨?_⟩; simp only [Act.put, sA, sB, sC, Nat.zero_add, Nat.reduceAdd, e0] at hK ⊢; go_simp; with_reducible refine hK _ _ ?_
     exact ⟨⟨A0, k0, c0, rfl, n0, m0⟩, hS0⟩
   intro vs W hS _; have hS2 : SNu wx (X * 10 + d) [vs 10] vs W := hS; obtain ⟨⟨A', k', c', e, hN, hm⟩, hb⟩ := hS2; rw [← hXN.out] at hN; clear hS; simp only [Act.put, sA, sB, sC, Nat.zero_add, Nat.reduceAdd, e]; go_wp2_with fail
   go_roundg (G - 1)
   case measure => omega
   case rel => exact ⟨i + 1, A', k', c', rfl, by go_num, by omega, hN, hbe.trans (hb.mono hbe.size)⟩
  ·have t2 : decide ((i : Int) < (s.size : Int)) = false := by simp; omega
   have his : i = s.size := by omega
   rw [his, ← hlen, List.take_length] at hX
   have hk : k ≤ 618 := by
    have h1 := numV_lt (l := s.data.toList) (fun b hb => (hd.out b hb).2) s.data.toList.length (Nat.le_refl _); rw [List.take_length] at h1; have h2 := lb10 h1; have h3 := hX.1; omega
   have hdec : decide ((k : Int) ≤ 64) = decide (k ≤ 64) := by rw [decide_eq_decide]; omega
   go_wp2_with fail; exact bodyPost_ret (v := .tuple #[.slice A k c, .bool (decide (k ≤ 64))]) (by simp [results, Tryz.results51, go_sem]) rfl ⟨_, _, _, rfl, hX, hk, hbe⟩
theorem rnumber_F (s : ByteArray) (w : World) (hs : s.size ≤ 9223372036854775807) (hd : Hid (∀ b ∈ s.data.toList, 48 ≤ b.toNat ∧ b.toNat ≤ 57)) :
  Calls Tryz.prog 51 #[.string s] w fun e w' => ∃ A k c, e = .returned (.tuple #[.slice A k c, .bool (fitN s)]) ∧ (fitN s = true → Nb w' A k c (numV s.data.toList)) ∧ Below w.heap.size w w' := by
 by_cases h : s.size ≤ 617
 ·refine (rnumber_n s w h hd).mono ?_; rintro e w' ⟨A, k, c, rfl, hn, hk, hb⟩
  have e : decide (k ≤ 64) = fitN s := by
   unfold fitN numP; rw [hn.1, decide_eq_true h, Bool.true_and]
  exact ⟨A, k, c, by rw [e], fun _ => hn, hb⟩
 ·refine (rnumber_long s w hs (by omega)).mono ?_; rintro e w' ⟨rfl, rfl⟩
  have e : fitN s = false := by
   unfold fitN; rw [decide_eq_false h]; rfl
  exact ⟨none, 0, 0, by rw [e], fun h2 => (by rw [e] at h2; cases h2), Below.refl _ _⟩
end Go.Proofs.YtmbfjmilhfmnkaaGreatDoor
namespace Go.Proofs.YtmbfjmilhfmnkaaGreatDoor
open Go Go.RowKit
theorem dv10 (T : Nat) (hT : T < 42949672960) : IntKind.u64.wrap (((T : Int)).tdiv 10) % 4294967296 = ((T / 10 : Nat) : Int) := by
 have e : ((T : Int)).tdiv 10 = ((T / 10 : Nat) : Int) := by rw [Int.tdiv_eq_ediv_of_nonneg (by omega)]; rfl
 rw [e, IntKind.wrap_u64]; omega
theorem md10 (T : Nat) : ((T : Int)).tmod 10 = ((T % 10 : Nat) : Int) := by
 rw [Int.tmod_eq_emod_of_nonneg (by omega)]; rfl
set_option maxRecDepth 100000 in
set_option maxHeartbeats 4000000 in
theorem rtenth_n (A : Option Addr) (k c n : Nat) (w : World) (hx : Nb w A k c n) (hk : k ≤ 1048576) :
  Calls Tryz.prog 49 #[.slice A k c] w fun e w' => ∃ A' k' c', e = .returned (.tuple #[.slice A' k' c', .int .i64 ((n % 10 : Nat) : Int)]) ∧ Nb w' A' k' c' (n / 10) ∧ Below w.heap.size w w' := by
 obtain ⟨x, HX⟩ : ∃ x, Hid (x = Nm.lb n) := ⟨_, rfl⟩; have HN : Hid (Nm.nv x = n) := by show _ = _; rw [HX.out, Nm.nv_lb]
 obtain ⟨hkx, hlim⟩ := hx; rw [← HX.out] at hkx hlim; have HK := Lib.hid hkx; have hmk := run_make32 (↑k) k rfl (by omega); clear hkx HX
 go_enter Tryz.func49, Tryz.ntmps49
 go_wp2_with fail
 go_loopg [5, 6] k (fun g v t wr => ∃ (out : List Nat) (rest : Nat), v = .int .u64 rest ∧ t = .int .i64 ((g : Int) - 1) ∧ g ≤ k ∧ rest < 10 ∧ Row wr w.heap.size out ∧ Hid (out.length = k ∧ Nm.nv (out.drop g) * 10 + rest = Nm.nv (x.drop g)) ∧ Below w.heap.size w wr)
 case atStart => exact ⟨_, 0, rfl, rfl, Nat.le_refl _, by omega, Row.new w _, ⟨by simp, by rw [List.drop_of_length_le (by simp), List.drop_of_length_le (by rw [← HK.out]; exact Nat.le_refl _)]; simp [Nm.nv]⟩, bA w _⟩
 case round =>
  obtain ⟨G, hG⟩ : ∃ G, G = gk := ⟨gk, rfl⟩; subst hG; obtain ⟨out, rest, rfl, rfl, hg, hrest, hrow, HI, hb⟩ := hrel
  rcases G with _ | j
  ·have t1 : decide ((0 : Int) ≤ ((0 : Nat) : Int) - 1) = false := by simp
   have hl := hrow.lim (c := k) (by rw [HI.out.1]; exact Nat.le_refl _) (by omega); have hr : IntKind.i64.wrap (rest : Int) = (rest : Int) := by rw [IntWalk.i64_in _ (by omega)]
   have hN : Nm.nv out * 10 + rest = n := by have := HI.out.2; rw [List.drop_zero, List.drop_zero, HN.out] at this; exact this
   have hq : Hid (n / 10 = Nm.nv out) := by show _ = _; omega
   have hm : Hid (n % 10 = rest) := by show _ = _; omega
   have HO := Lib.hid (rtrim_n (some ⟨w.heap.size, 0, none⟩) k k out wr hl HI.out.1.symm (by omega)); clear hN hrow hl; go_wp2_with fail; refine HO.out.mono ?_; rintro e w' ⟨A', k', c', rfl, hn, hb2⟩; have hbz := Below.tr hb hb2; go_wp2_with fail; exact bodyPost_ret (v := .tuple #[.slice A' k' c', .int .i64 (rest : Int)]) (by simp [results, Tryz.results49, go_sem]) rfl ⟨_, _, _, by rw [hm.out], by rw [hq.out]; exact hn, hbz⟩
  ·have t1 : decide ((0 : Int) ≤ ((j + 1 : Nat) : Int) - 1) = true := by rw [decide_eq_true_iff]; omega
   have ej : ((j + 1 : Nat) : Int) - 1 = (j : Int) := by omega
   rw [ej] at t1 ⊢; have hjk : (j : Int) < (k : Int) := by omega
   obtain ⟨b, off, a, rfl, hc, ha, HA⟩ := (hlim.below hb).get (k := j) (by rw [← HK.out]; omega); obtain ⟨o, hco, hfo, ho, HO⟩ := hrow.get (k := j) (by have := HI.out.1; omega); obtain ⟨T, HT⟩ : ∃ T, Hid (T = rest * 4294967296 + a) := ⟨_, rfl⟩; have hT : T < 42949672960 := by rw [HT.out]; omega
   have s1 : IntKind.u64.wrap ((rest : Int) * 4294967296) = (rest : Int) * 4294967296 := by rw [IntKind.wrap_u64]; omega
   have hor : bits .or .u64 ((rest : Int) * 4294967296) (a : Int) = (T : Int) := by rw [HT.out]; exact hilo rest a (by omega) ha
   have s2 := dv10 T hT; have s3 := md10 T; have hsz := hrow.1.lt; have hlt : T / 10 < 4294967296 := by omega
   have hrow2 := hrow.set_ j (T / 10) hlt; have hb2 := hb.setCell (p := ⟨w.heap.size, j, none⟩) (Nat.le_refl _) (.int .u32 ((T / 10 : Nat) : Int))
   have HI2 : Hid ((out.set j (T / 10)).length = k ∧ Nm.nv ((out.set j (T / 10)).drop j) * 10 + T % 10 = Nm.nv (x.drop j)) := by
    refine ⟨by rw [List.length_set]; exact HI.out.1, ?_⟩; exact Nm.small_round (by rw [← HK.out]; omega) (by rw [← HK.out]; exact HI.out.1) (by omega) HI.out.2 HA.out (by rw [HT.out]) (by rw [HT.out])
   clear hrow hb HI HT HA HO ej; go_wp2_with fail
   go_roundg j
   case measure => omega
   case rel => exact ⟨_, T % 10, by rw [show ((T % 10 : Nat) : Int) = (T : Int) % 10 by omega], rfl, by omega, Nat.mod_lt _ (by omega), hrow2, HI2, hb2⟩
/-- the digits, none for nought -/
def dS (m : Nat) : List UInt8 := if m = 0 then [] else (Nm.decS m).data.toList
theorem dS_step {m : Nat} (h : m ≠ 0) : dS m = dS (m / 10) ++ [UInt8.ofNat (48 + m % 10)] := by
 unfold dS; rw [if_neg h]; unfold Nm.decS
 show (Nm.decD m).map _ = _
 by_cases h10 : m < 10
 ·rw [Nm.decD_small h10, if_pos (by omega), Nat.mod_eq_of_lt h10]; rfl
 ·rw [Nm.decD_step (by omega), if_neg (by omega)]; simp
set_option maxRecDepth 100000 in
set_option maxHeartbeats 4000000 in
theorem rdecimal_n (A : Option Addr) (k c n : Nat) (w : World) (hx : Nb w A k c n) (hk : k ≤ 64) :
  Calls Tryz.prog 20 #[.slice A k c] w fun e w' => e = .returned (.string (Nm.decS n)) ∧ Below w.heap.size w w' := by
 have HLT : Hid (n < Nm.B ^ k) := hx.lt; have HKL := Lib.hid hx.1; have HSZ : Hid ((Nm.decS n).size ≤ 1000) := decS_size (Nat.lt_of_lt_of_le hx.lt (Nat.pow_le_pow_right Nm.B_pos hk)); have HNV : Hid (Nm.nv (Nm.lb n) = n) := Nm.nv_lb n; by_cases h0 : k = 0
 ·have hn : n = 0 := by
   have h2 := List.eq_nil_of_length_eq_zero (HKL.out.symm.trans h0)
   rwa [Nm.lb_nil_iff] at h2
  subst hn; have t1 : ((k : Int) == 0) = true := by simp; omega
  have e0 : Nm.decS 0 = { data := #[48] } := by kernel_rfl
  rw [e0]; clear h0 hx
  go_enter Tryz.func20, Tryz.ntmps20
  go_wp2_with fail; go_ret; exact ⟨rfl, Below.refl _ _⟩
 ·have t1 : ((k : Int) == 0) = false := by simp; omega
  have HN0 : Hid (n ≠ 0) := by
   intro e
   apply h0
   rw [HKL.out, e, Nm.lb_zero]; rfl
  have HT := Lib.hid (rtrim_n A c k (Nm.lb n) w hx.2 hx.1 (by omega)); clear h0 hx
  go_enter Tryz.func20, Tryz.ntmps20
  go_wp2_with fail; refine HT.out.mono ?_; rintro e w1 ⟨A1, k1, c1, rfl, hx1, hb1⟩; rw [HNV.out] at hx1; clear HT; go_wp2_with fail
  go_loopg [3, 4] n (fun m v3 v4 wr => ∃ (S : ByteArray) (A : Option Addr) (k' c : Nat), v3 = .string S ∧ v4 = .slice A k' c ∧ Nb wr A k' c m ∧ m ≤ n ∧ Hid (dS m ++ S.data.toList = (Nm.decS n).data.toList) ∧ Below w.heap.size w wr)
  case atStart => exact ⟨_, A1, k1, c1, rfl, rfl, hx1, Nat.le_refl _, (by show _ = _; unfold dS; rw [if_neg HN0.out]; exact List.append_nil _), hb1⟩
  case round =>
   obtain ⟨m, hm⟩ : ∃ G, G = gk := ⟨gk, rfl⟩; subst hm; clear hx1 hb1; obtain ⟨S, A, k', c, rfl, rfl, hx, hmn, HI, hb⟩ := hrel; have hkk : k' ≤ k := by rw [hx.1]; exact Nm.lb_length_lt.2 (Nat.lt_of_le_of_lt hmn HLT.out)
   by_cases hz : m = 0
   ·have hk0 : k' = 0 := by rw [hx.1, hz, Nm.lb_zero]; rfl
    have t2 : decide ((0 : Int) < (k' : Int)) = false := by simp; omega
    have HS : Hid (S = Nm.decS n) := by
     show _ = _
     have h1 := HI.out; rw [hz] at h1; unfold dS at h1; rw [if_pos rfl, List.nil_append] at h1
     cases S
     simp only at h1; have h2 := Array.toList_inj.1 h1; rw [h2]
    subst hk0; clear hz hx; go_wp2_with fail; go_ret; exact ⟨by rw [HS.out]; rfl, hb⟩
   ·have hkp : 0 < k' := by
     rcases Nat.eq_zero_or_pos k' with h1 | h1
     ·exfalso; apply hz
      have h2 := List.eq_nil_of_length_eq_zero (hx.1.symm.trans h1)
      rwa [Nm.lb_nil_iff] at h2
     ·exact h1
    have t2 : decide ((0 : Int) < (k' : Int)) = true := by simp; omega
    have HTN := Lib.hid (rtenth_n A k' c m wr hx (by omega)); have hlt10 : m / 10 < m := Nat.div_lt_self (by omega) (by omega); obtain ⟨r, HR⟩ : ∃ r, Hid (r = m % 10) := ⟨_, rfl⟩; have hr10 : r < 10 := by rw [HR.out]; exact Nat.mod_lt _ (by omega)
    rw [← HR.out] at HTN; obtain ⟨q, HQ⟩ : ∃ q, Hid (q = m / 10) := ⟨_, rfl⟩; have hqm : q < m := by rw [HQ.out]; exact hlt10
    rw [← HQ.out] at HTN; clear hlt10 hx; go_wp2_with fail; refine HTN.out.mono ?_; rintro e w2 ⟨A2, k2, c2, rfl, hx2, hb2⟩; obtain ⟨d, Hd⟩ : ∃ d, Hid (d = 48 + r) := ⟨_, rfl⟩; have hd : d < 256 := by rw [Hd.out]; omega
    have ta : (48 : Int) + (r : Int) = (d : Int) := by rw [Hd.out]; rfl
    have tb : (d : Int) % 256 = (d : Int) := by omega
    have hbA := bA w2 (.cells #[.int .u8 (d : Int)] 5)
    have hcb : ∀ j (hj : j < [UInt8.ofNat d].length), (w2.alloc (.cells #[.int .u8 (d : Int)] 5)).cell? (Addr.add ⟨w2.heap.size, 0, none⟩ j) = some (.int .u8 ((([UInt8.ofNat d][j]).toNat : Nat) : Int)) := by
     intro j hj; obtain rfl : j = 0 := by simpa using hj
     have h1 := (Blk.new w2 5 #[.int .u8 (d : Int)]).cell 0; have h2 : (UInt8.ofNat d).toNat = d := by rw [UInt8.toNat_ofNat']; exact Nat.mod_eq_of_lt hd
     simp only [List.getElem_cons_zero, h2]; exact h1
    have hback := run_convert_bytes_back (P := Tryz.prog) (w2.alloc (.cells #[.int .u8 (d : Int)] 5)) 23 9 5 ⟨w2.heap.size, 0, none⟩ 1 [UInt8.ofNat d] Tryz.underlying23 Tryz.underlying5 Tryz.underlying9 hcb; rw [show [UInt8.ofNat d].length = 1 from rfl] at hback; obtain ⟨S1, HS1⟩ : ∃ s : ByteArray, Hid (s = ⟨[UInt8.ofNat d].toArray⟩) := ⟨_, rfl⟩
    have hn1 : ¬ (9223372036854775807 < S1.size + S.size) := by
     have h1 : S1.size = 1 := by rw [HS1.out]; rfl
     have h2 := congrArg List.length HI.out; simp only [List.length_append, Array.length_toList] at h2; have h3 := HSZ.out; have h4 : S.size = S.data.size := rfl; have h5 : (Nm.decS n).size = (Nm.decS n).data.size := rfl; omega
    rw [← HS1.out] at hback
    have HI2 : Hid (dS q ++ (S1 ++ S).data.toList = (Nm.decS n).data.toList) := by
     show _ = _
     rw [← HI.out, dS_step hz, HS1.out, HQ.out, Hd.out, HR.out, List.append_assoc]
     congr 1
    have hx3 := hx2.below hbA; have hb3 := Below.tr (Below.tr hb hb2) hbA; clear hb hb2 hbA hx2 hcb Hd HR HQ HI hz HTN HS1; go_wp2_with fail
    go_roundg q
    case measure => omega
    case rel => exact ⟨_, A2, k2, c2, rfl, rfl, hx3, by omega, HI2, hb3⟩
end Go.Proofs.YtmbfjmilhfmnkaaGreatDoor
namespace Go.Proofs.YtmbfjmilhfmnkaaGreatDoor
open Go Go.RowKit
/-- what Print says of any ratio -/
noncomputable def prS (x : LP) : ByteArray := if validP x = 0 then ratS (Nm.nv x.1) (if x.2 = [] then 1 else Nm.nv x.2) else ⟨#[]⟩
theorem prS_good {l1 l2 : List Nat} {p q : Nat} (h : GoodL l1 l2 p q) : prS (l1, l2) = ratS p q := by
 obtain ⟨rfl, rfl, hg⟩ := h; unfold prS; rw [if_pos (show validP (Nm.lb p, Nm.lb (Nm.dn q)) = 0 from Nm.validE_of hg)]
 show ratS (Nm.nv (Nm.lb p)) (if Nm.lb (Nm.dn q) = [] then 1 else Nm.nv (Nm.lb (Nm.dn q))) = _
 rw [Nm.nv_lb, Nm.nv_lb]; by_cases h1 : q = 1
 ·subst h1; rw [Nm.dn_one, Nm.lb_zero, if_pos rfl]
 ·rw [Nm.dn_ne h1, if_neg (by rw [Nm.lb_nil_iff]; have := hg.pos; omega)]
theorem prS_bad {x : LP} (h : validP x ≠ 0) : prS x = ⟨#[]⟩ := if_neg h
def PhiQr (g : Nat) (A1 : Option Addr) (k1 c1 : Nat) (A2 : Option Addr) (k2 c2 : Nat) (s1 s2 : ByteArray) (j : Nat) (w : World) (x : Value) : Prop :=
 match j with
 | 0 => x = .pointer (some ⟨g, 0, none⟩)
 | 1 => x = .slice A1 k1 c1
 | 2 => x = .string s1
 | 3 => x = .string (s1 ++ { data := #[47] })
 | 4 => x = .pointer (some ⟨g, 1, none⟩)
 | 5 => x = .slice A2 k2 c2
 | 6 => x = .string s2
 | 7 => x = .string (s1 ++ { data := #[47] } ++ s2)
 | 8 => x = .string (s1 ++ { data := #[47] } ++ s2)
 | 9 => x = .int .i64 0
 | _ => True
theorem PhiQr.keep {g : Nat} {A1 : Option Addr} {k1 c1 : Nat} {A2 : Option Addr} {k2 c2 : Nat} {s1 s2 : ByteArray} : ∀ (w w' : World), Below w.heap.size w w' → ∀ j x, PhiQr g A1 k1 c1 A2 k2 c2 s1 s2 j w x → PhiQr g A1 k1 c1 A2 k2 c2 s1 s2 j w' x := by
 intro w w' hb j x h; unfold PhiQr at h ⊢
 split <;> simp only at h ⊢
 all_goals exact h
set_option maxRecDepth 100000 in
set_option maxHeartbeats 4000000 in
theorem rprint_v (va : Value) (p q : Nat) (w : World) (ha : Rat w va p q) (ga : Nm.Good p q) :
  Calls Tryz.prog 15 #[va] w fun e w' => e = .returned (.tuple #[.string (ratS p q), .int .i64 0]) ∧ Below w.heap.size w w' := by
 obtain ⟨A1, k1, c1, A2, k2, c2, rfl⟩ := ha.shape; have hq := ga.pos
 go_enter Tryz.func15, Tryz.ntmps15
 go_upto_region 1 with fail; refine wp_name ?_; intro w1 HW1; have hb1 : Below w.heap.size w w1 := by rw [HW1.out]; exact bA _ _
 have hB1 : Blk w1 w.heap.size 29 #[.slice A1 k1 c1, .slice A2 k2 c2] := by rw [HW1.out]; exact Blk.new _ _ _
 obtain ⟨g, hg⟩ : ∃ g, Hid (g = w.heap.size) := ⟨_, rfl⟩; rw [← hg.out] at hB1 ⊢; have ha1 := ha.below hb1; have b0 := hB1.cell 0; have b1 := hB1.cell 1; simp only [List.getElem?_toArray, List.getElem?_cons_zero, List.getElem?_cons_succ] at b0 b1; clear HW1 hB1 ha hg; go_wp2_with fail; refine (rvalid_v ha1.rtl).mono ?_; rintro e w2 ⟨E, rfl, HE, hb2⟩; obtain rfl : E = 0 := by rw [HE.out]; exact Nm.validE_of ga
 have ha2 := ha1.below hb2; have b0 := cell_keep hb2 b0; have b1 := cell_keep hb2 b1; have hbw := Below.tr hb1 hb2; obtain ⟨h1, h2⟩ := ha2.nb; have hk1 : k1 ≤ 64 := by rw [h1.1]; exact ga.fits.1
 have hk2 : k2 ≤ 64 := by rw [h2.1]; exact ga.fits.2
 clear ha1 ha2 HE hb1 hb2; by_cases hq1 : q = 1
 ·subst hq1; have hk0 : k2 = 0 := by have := h2.1; simpa [Nm.dn_one, Nm.lb_zero] using this
  subst hk0; have HR : Hid (ratS p 1 = Nm.decS p) := by show _ = _; unfold ratS; rw [if_pos rfl]
  go_wp2_with fail; refine (rdecimal_n A1 k1 c1 p _ h1 hk1).mono ?_; rintro e w3 ⟨rfl, hb⟩; go_wp2_with fail; exact bodyPost_ret (v := .tuple #[.string (Nm.decS p), .int .i64 0]) (by simp [results, Tryz.results15, go_sem]) rfl ⟨by rw [HR.out], Below.tr hbw hb⟩
 ·have h2 := h2; rw [Nm.dn_ne hq1] at h2
  have hk0 : 0 < k2 := by
   rcases Nat.eq_zero_or_pos k2 with e | e
   ·exfalso
    have h3 := h2.1; rw [e] at h3; have h4 := List.eq_nil_of_length_eq_zero h3.symm; rw [Nm.lb_nil_iff] at h4; omega
   ·exact e
  have t1 : ((k2 : Int) == 0) = false := by simp; omega
  obtain ⟨s1, HS1⟩ : ∃ s, Hid (s = Nm.decS p) := ⟨_, rfl⟩; obtain ⟨s2, HS2⟩ : ∃ s, Hid (s = Nm.decS q) := ⟨_, rfl⟩; have HR : Hid (ratS p q = s1 ++ { data := #[47] } ++ s2) := by show _ = _; unfold ratS; rw [if_neg hq1, HS1.out, HS2.out]
  have HSZ : Hid (s1.size ≤ 1000 ∧ s2.size ≤ 1000) := ⟨by rw [HS1.out]; exact decS_size (good_lt ga).1, by rw [HS2.out]; exact decS_size (good_lt ga).2⟩; have hs1 := HSZ.out.1; have hs2 := HSZ.out.2; have hn1 : ¬ (9223372036854775807 < s1.size + 1) := by omega
  have hn2 : ¬ (9223372036854775807 < s1.size + 1 + s2.size) := by omega
  go_upto_region 6 with fail; refine region_invF (PhiQr g A1 k1 c1 A2 k2 c2 s1 s2) (fun w w' => Below w.heap.size w w') (fun W => Below w2.heap.size w2 W) (by kernel_rfl) (by kernel_rfl) (by kernel_rfl) PhiQr.keep (fun _ _ hR hS => Below.tr hS hR) (bD _) (fun vs => by simp only [fillR, Act.put, sA, sB, sC, Nat.zero_add, Nat.reduceAdd]; rfl) ?_ ?_
  ·refine sK ?_ (sK ?_ (sK ?_ (sK ?_ (sK ?_ (sK ?_ (sK ?_ (sK ?_ (sK ?_ (sK ?_ (sZ))))))))))
   ·as_aux_lemma =>
    intro vs W hS hdep K hK; refine ⟨?_⟩; simp only [Act.put, sA, sB, sC, Nat.zero_add, Nat.reduceAdd] at hK ⊢; go_simp; with_reducible refine hK _ _ (Below.refl _ _) ?_
    exact rfl
   ·as_aux_lemma =>
    intro vs W hS hdep K hK; have d0 := hdep ⟨0, .data⟩ (by simp) rfl; simp only [PhiQr] at d0; have f1 := cell_keep hS b0; refine ⟨?_⟩; simp only [Act.put, sA, sB, sC, Nat.zero_add, Nat.reduceAdd, d0] at hK ⊢; go_simp; with_reducible refine hK _ _ (Below.refl _ _) ?_
    exact rfl
   ·as_aux_lemma =>
    intro vs W hS hdep K hK; have d0 := hdep ⟨1, .data⟩ (by simp) rfl; simp only [PhiQr] at d0; refine ⟨?_⟩; simp only [Act.put, sA, sB, sC, Nat.zero_add, Nat.reduceAdd, d0] at hK ⊢; go_simp; refine (rdecimal_n A1 k1 c1 p _ (h1.below hS) hk1).mono ?_; rintro e w' ⟨rfl, hb⟩; go_wp2_with fail; with_reducible refine hK _ _ hb ?_
    exact (congrArg Value.string HS1.out.symm)
   ·as_aux_lemma =>
    intro vs W hS hdep K hK; have d0 := hdep ⟨2, .data⟩ (by simp) rfl; simp only [PhiQr] at d0; refine ⟨?_⟩; simp only [Act.put, sA, sB, sC, Nat.zero_add, Nat.reduceAdd, d0] at hK ⊢; go_simp; with_reducible refine hK _ _ (Below.refl _ _) ?_
    exact rfl
   ·as_aux_lemma =>
    intro vs W hS hdep K hK; refine ⟨?_⟩; simp only [Act.put, sA, sB, sC, Nat.zero_add, Nat.reduceAdd] at hK ⊢; go_simp; with_reducible refine hK _ _ (Below.refl _ _) ?_
    exact rfl
   ·as_aux_lemma =>
    intro vs W hS hdep K hK; have d0 := hdep ⟨4, .data⟩ (by simp) rfl; simp only [PhiQr] at d0; have f1 := cell_keep hS b1; refine ⟨?_⟩; simp only [Act.put, sA, sB, sC, Nat.zero_add, Nat.reduceAdd, d0] at hK ⊢; go_simp; with_reducible refine hK _ _ (Below.refl _ _) ?_
    exact rfl
   ·as_aux_lemma =>
    intro vs W hS hdep K hK; have d0 := hdep ⟨5, .data⟩ (by simp) rfl; simp only [PhiQr] at d0; have d1 := hdep ⟨2, .chain⟩ (by simp) rfl; simp only [PhiQr] at d1; refine ⟨?_⟩; simp only [Act.put, sA, sB, sC, Nat.zero_add, Nat.reduceAdd, d0, d1] at hK ⊢; go_simp; refine (rdecimal_n A2 k2 c2 q _ (h2.below hS) hk2).mono ?_; rintro e w' ⟨rfl, hb⟩; go_wp2_with fail; with_reducible refine hK _ _ hb ?_
    exact (congrArg Value.string HS2.out.symm)
   ·as_aux_lemma =>
    intro vs W hS hdep K hK; have d0 := hdep ⟨3, .data⟩ (by simp) rfl; simp only [PhiQr] at d0; have d1 := hdep ⟨6, .data⟩ (by simp) rfl; simp only [PhiQr] at d1; refine ⟨?_⟩; simp only [Act.put, sA, sB, sC, Nat.zero_add, Nat.reduceAdd, d0, d1] at hK ⊢; go_simp; with_reducible refine hK _ _ (Below.refl _ _) ?_
    exact rfl
   ·as_aux_lemma =>
    intro vs W hS hdep K hK; have d0 := hdep ⟨7, .data⟩ (by simp) rfl; simp only [PhiQr] at d0; have d1 := hdep ⟨6, .chain⟩ (by simp) rfl; simp only [PhiQr] at d1; refine ⟨?_⟩; simp only [Act.put, sA, sB, sC, Nat.zero_add, Nat.reduceAdd, d0, d1] at hK ⊢; go_simp; with_reducible refine hK _ _ (Below.refl _ _) ?_
    exact rfl
   ·as_aux_lemma =>
    intro vs W hS hdep K hK; have d0 := hdep ⟨8, .chain⟩ (by simp) rfl; simp only [PhiQr] at d0; refine ⟨?_⟩; simp only [Act.put, sA, sB, sC, Nat.zero_add, Nat.reduceAdd, d0] at hK ⊢; go_simp; with_reducible refine hK _ _ (Below.refl _ _) ?_
    exact rfl
  intro vs w3 hb hv; have v8 := hv 8 (by simp); have v9 := hv 9 (by simp); simp only [PhiQr] at v8 v9; simp only [Act.put, sA, sB, sC, Nat.zero_add, Nat.reduceAdd, v8, v9]; go_wp2_with fail; exact bodyPost_ret (v := .tuple #[.string (s1 ++ { data := #[47] } ++ s2), .int .i64 0]) (by simp [results, Tryz.results15, go_sem]) rfl ⟨by rw [HR.out], Below.tr hbw hb⟩
set_option maxRecDepth 100000 in
set_option maxHeartbeats 4000000 in
theorem print_A (va : Value) (x : LP) (w : World) (h : RtP w va x) :
  Calls Tryz.prog 14 #[va] w fun e w' => e = .returned (.tuple #[.string (prS x), .int .i64 (validP x)]) ∧ Below w.heap.size w w' := by
 by_cases hv : validP x = 0
 ·obtain ⟨p, q, hg, hr⟩ := RtL.good h hv; refine (print_v va p q w hr hg.2.2).mono ?_; rintro e w' ⟨rfl, hb⟩; have e1 : prS x = ratS p q := prS_good hg; exact ⟨by rw [e1, hv], hb⟩
 ·obtain ⟨V, HV⟩ : ∃ V, Hid (V = validP x) := ⟨_, rfl⟩; have HP := Lib.hid (prS_bad hv); rw [← HV.out] at hv ⊢; have t1 : (V != 0) = true := by simpa using hv
  obtain ⟨A1, k1, c1, A2, k2, c2, rfl⟩ := h.shape
  go_enter Tryz.func14, Tryz.ntmps14
  go_upto_region 1 with fail; refine wp_name ?_; intro w1 HW1; have hb1 : Below w.heap.size w w1 := by rw [HW1.out]; exact bA _ _
  have hB1 : Blk w1 w.heap.size 29 #[.slice A1 k1 c1, .slice A2 k2 c2] := by rw [HW1.out]; exact Blk.new _ _ _
  obtain ⟨g, hg⟩ : ∃ g, Hid (g = w.heap.size) := ⟨_, rfl⟩; rw [← hg.out] at hB1 ⊢; have HVAL := Lib.hid (valid_P _ x _ (h.below hb1)); rw [← HV.out] at HVAL; have b0 := hB1.cell 0; have b1 := hB1.cell 1; simp only [List.getElem?_toArray, List.getElem?_cons_zero, List.getElem?_cons_succ] at b0 b1; clear HW1 hB1 h hg hv; go_wp2_with fail; refine HVAL.out.mono ?_; rintro e w2 ⟨rfl, hb2⟩; have hbw := Below.tr hb1 hb2; go_wp2_with fail; exact bodyPost_ret (v := .tuple #[.string ⟨#[]⟩, .int .i64 V]) (by simp [results, Tryz.results14, go_sem]) rfl ⟨by rw [HP.out], hbw⟩
set_option maxRecDepth 100000 in
set_option maxHeartbeats 4000000 in
theorem rprint_A (va : Value) (x : LP) (w : World) (h : RtP w va x) :
  Calls Tryz.prog 15 #[va] w fun e w' => e = .returned (.tuple #[.string (prS x), .int .i64 (validP x)]) ∧ Below w.heap.size w w' := by
 by_cases hv : validP x = 0
 ·obtain ⟨p, q, hg, hr⟩ := RtL.good h hv; refine (rprint_v va p q w hr hg.2.2).mono ?_; rintro e w' ⟨rfl, hb⟩; have e1 : prS x = ratS p q := prS_good hg; exact ⟨by rw [e1, hv], hb⟩
 ·obtain ⟨V, HV⟩ : ∃ V, Hid (V = validP x) := ⟨_, rfl⟩; have HP := Lib.hid (prS_bad hv); rw [← HV.out] at hv ⊢; have t1 : (V != 0) = true := by simpa using hv
  obtain ⟨A1, k1, c1, A2, k2, c2, rfl⟩ := h.shape
  go_enter Tryz.func15, Tryz.ntmps15
  go_upto_region 1 with fail; refine wp_name ?_; intro w1 HW1; have hb1 : Below w.heap.size w w1 := by rw [HW1.out]; exact bA _ _
  have hB1 : Blk w1 w.heap.size 29 #[.slice A1 k1 c1, .slice A2 k2 c2] := by rw [HW1.out]; exact Blk.new _ _ _
  obtain ⟨g, hg⟩ : ∃ g, Hid (g = w.heap.size) := ⟨_, rfl⟩; rw [← hg.out] at hB1 ⊢; have HVAL := Lib.hid (rvalid_P _ x _ (h.below hb1)); rw [← HV.out] at HVAL; have b0 := hB1.cell 0; have b1 := hB1.cell 1; simp only [List.getElem?_toArray, List.getElem?_cons_zero, List.getElem?_cons_succ] at b0 b1; clear HW1 hB1 h hg hv; go_wp2_with fail; refine HVAL.out.mono ?_; rintro e w2 ⟨rfl, hb2⟩; have hbw := Below.tr hb1 hb2; go_wp2_with fail; exact bodyPost_ret (v := .tuple #[.string ⟨#[]⟩, .int .i64 V]) (by simp [results, Tryz.results15, go_sem]) rfl ⟨by rw [HP.out], hbw⟩
end Go.Proofs.YtmbfjmilhfmnkaaGreatDoor
