import Derived.Test.YtmbfjmilhfmnkaaGreatDoorKRdsProof17
import Derived.Test.YtmbfjmilhfmnkaaGreatDoorKRdsProof26
import Derived.Test.YtmbfjmilhfmnkaaGreatDoorKRdsProof22
import Derived.Test.YtmbfjmilhfmnkaaGreatDoorKRdsProof19
import Derived.Test.YtmbfjmilhfmnkaaGreatDoorKRdsProof13
import Derived.Test.YtmbfjmilhfmnkaaGreatDoorKRdsProof11
import Derived.Test.YtmbfjmilhfmnkaaGreatDoorKRdsProof01
import Derived.Test.YtmbfjmilhfmnkaaGreatDoorS0
set_option linter.unusedVariables false
set_option linter.unusedSimpArgs false
namespace Go.Proofs.YtmbfjmilhfmnkaaGreatDoor
open Go Go.RowKit
def dgN (n : Int) : Bool := decide (48 ≤ n ∧ n ≤ 57)
/-- the printed form of a number -/
def rowB (s : ByteArray) : Bool := decide (s.size ≠ 0 ∧ ¬ (1 < s.size ∧ ∃ h : 0 < s.size, (s[0]'h).toNat = 48) ∧ ∀ (i : Nat) (h : i < s.size), dgN (s[i].toNat : Int) = true)
theorem retB5 {a b : Bool} (h : a = b) : Ending.returned (.bool a) = .returned (.bool b) := by rw [h]
theorem emp_size {s : ByteArray} (h : s.size ≠ 0) : s.toList.isEmpty = false := by
 rw [ByteArray.toList_eq]
 cases h1 : s.data.toList with
 | nil =>
  exfalso; apply h; have : s.data.size = 0 := by rw [← Array.length_toList, h1]; rfl
  exact this
 | cons => rfl
theorem size_emp {s : ByteArray} (h : s.size = 0) : s = ⟨#[]⟩ := by
 have h1 : s.data.size = 0 := h; have : s.data = #[] := Array.eq_empty_of_size_eq_zero h1
 cases s; simp_all
set_option maxRecDepth 10000 in
set_option maxHeartbeats 1000000 in
theorem row_n (s : ByteArray) (w : World) (hs : s.size ≤ 9223372036854775807) :
  Calls Tryz.prog 46 #[.string s] w fun e w' => e = .returned (.bool (rowB s)) ∧ w = w' := by
 by_cases h0 : s.size = 0
 ·have he := size_emp h0; subst he
  go_enter Tryz.func46, Tryz.ntmps46
  go_wp2_with fail; go_ret; exact ⟨retB5 (by unfold rowB; symm; rw [decide_eq_false_iff_not]; intro h; exact h.1 rfl), rfl⟩
 ·have hd := emp_size h0; have hp : 0 < s.size := by omega
  obtain ⟨b1, HB1⟩ : ∃ b : Bool, Hid (b = decide (1 < s.size)) := ⟨_, rfl⟩; by_cases h1 : 1 < s.size ∧ (s[0]'hp).toNat = 48
  ·have t1 : decide ((1 : Int) < (s.size : Int)) = true := by have := h1.1; simp; omega
   have t2 : (((s[0]'hp).toNat : Int) == 48) = true := by have := h1.2; simp; omega
   have HF : Hid (rowB s = false) := by
    show _ = _
    unfold rowB; rw [decide_eq_false_iff_not]; rintro ⟨_, h, _⟩; exact h ⟨h1.1, hp, h1.2⟩
   go_enter Tryz.func46, Tryz.ntmps46
   go_wp2_with fail; go_ret; exact ⟨retB5 HF.out.symm, rfl⟩
  ·have HN1 : Hid (¬ (1 < s.size ∧ ∃ h : 0 < s.size, (s[0]'h).toNat = 48)) := fun ⟨a, b, c⟩ => h1 ⟨a, c⟩
   have hcase : (decide ((1 : Int) < (s.size : Int)) = false) ∨ (decide ((1 : Int) < (s.size : Int)) = true ∧ (((s[0]'hp).toNat : Int) == 48) = false) := by
    by_cases h2 : 1 < s.size
    ·right
     exact ⟨by simp; omega, by have h3 := fun e => h1 ⟨h2, e⟩; simp; omega⟩
    ·left; simp; omega
   clear h1
   rcases hcase with t1 | ⟨t1, t2⟩
   all_goals
    go_enter Tryz.func46, Tryz.ntmps46
    go_wp2_with fail
    go_loop [18] (fun i => ∃ k : Nat, i = .int .i64 k ∧ k ≤ s.size ∧ Hid (∀ (j : Nat) (h : j < s.size), j < k → dgN (s[j].toNat : Int) = true)) (fun i => s.size - (intOf i).toNat)
    case atStart => exact ⟨0, rfl, Nat.zero_le _, fun j _ h => by omega⟩
    case round =>
     obtain ⟨k, rfl, hk, HP⟩ := hrel; by_cases hlt : k < s.size
     ·obtain ⟨n, HN⟩ : ∃ n : Nat, Hid (n = s[k].toNat) := ⟨s[k].toNat, rfl⟩
      have HB : Hid (dgN (n : Int) = false → false = rowB s) := by
       intro h; unfold rowB
       symm
       rw [decide_eq_false_iff_not]; rintro ⟨_, _, h3⟩; have := h3 k hlt; rw [← HN.out, h] at this; cases this
      have HP2 : Hid (dgN (n : Int) = true → ∀ (j : Nat) (h : j < s.size), j < k + 1 → dgN (s[j].toNat : Int) = true) := by
       intro h j hj hjk
       rcases Nat.lt_or_ge j k with h1 | h1
       ·exact HP.out j hj h1
       ·obtain rfl : j = k := by omega
        rw [← HN.out]; exact h
      go_wp2_with fail
      all_goals first
       | (go_ret; exact ⟨retB5 (HB.out (by rw [HN.out]; unfold dgN; rw [decide_eq_false_iff_not]; (try simp only [beq_iff_eq] at *); omega)), rfl⟩)
       | exact ⟨⟨_, by go_num, by omega, HP2.out (by rw [HN.out]; unfold dgN; rw [decide_eq_true_iff]; (try simp only [beq_iff_eq] at *); omega)⟩, by simp [intOf]; omega⟩
     ·obtain rfl : k = s.size := by omega
      have HF : Hid (true = rowB s) := by
       show _ = _; unfold rowB; symm; rw [decide_eq_true_iff]
       exact ⟨h0, HN1.out, fun i hi => HP.out i hi hi⟩
      go_wp2_with fail; go_ret; exact ⟨retB5 HF.out, rfl⟩
/-- a string cut at the first "/" -/
def cutI (s : ByteArray) : Int := Lib.indexByte s.data.toList 47
def cutA (s : ByteArray) : ByteArray := if 0 ≤ cutI s then s.extract 0 (cutI s).toNat else s
def cutZ (s : ByteArray) : ByteArray := if 0 ≤ cutI s then s.extract ((cutI s).toNat + 1) s.size else ⟨#[]⟩
def cutY (s : ByteArray) : Bool := decide (0 ≤ cutI s)
set_option maxRecDepth 10000 in
set_option maxHeartbeats 1000000 in
theorem index_n (s : ByteArray) (w : World) (hs : s.size ≤ 9223372036854775807) :
  Calls Tryz.prog 103 #[.string s, .string { data := #[47] }] w fun e w' => e = .returned (.int .i64 (cutI s)) ∧ w' = w := by
 by_cases h1 : s = { data := #[47] }
 ·subst h1
  go_enter Tryz.func103, Tryz.ntmps103
  go_wp2_with fail; go_ret; exact ⟨rfl, rfl⟩
 ·have h2 : ([47] == s.toList) = false := by
   rw [beq_eq_false_iff_ne]; intro h
   apply h1
   rw [ByteArray.toList_eq] at h; exact ByteArray.ext (Array.toList_inj.1 h.symm)
  go_enter Tryz.func103, Tryz.ntmps103
  go_wp2_with fail; refine (Tryz.stringslite_IndexByte s 47 w).mono ?_; rintro e w' ⟨rfl, rfl⟩; go_wp2_with fail; go_ret; exact ⟨rfl, rfl⟩
end Go.Proofs.YtmbfjmilhfmnkaaGreatDoor
namespace Go.Proofs.YtmbfjmilhfmnkaaGreatDoor
open Go Go.RowKit
theorem indexByte_lt (c : UInt8) : ∀ l : List UInt8, Lib.indexByte l c < (l.length : Int)
 | [] => by simp [Lib.indexByte]
 | b :: l => by
  have ih := indexByte_lt c l; unfold Lib.indexByte; rw [List.length_cons]
  split
  ·omega
  ·split
   ·omega
   ·push_cast; omega
def PhiCx (s a z : ByteArray) (k : Nat) (j : Nat) (w : World) (x : Value) : Prop :=
 match j with
 | 0 => x = .string s
 | 1 => x = .int .i64 (k : Nat)
 | 2 => x = .string a
 | 3 => x = .string s
 | 4 => x = .int .i64 (k : Nat)
 | 5 => x = .string { data := #[47] }
 | 6 => x = .int .i64 1
 | 7 => x = .int .i64 ((k : Int) + 1)
 | 8 => x = .string z
 | 9 => x = .string a
 | 10 => x = .string z
 | 11 => x = .bool true
 | _ => True
theorem PhiCx.keep {s a z : ByteArray} {k : Nat} : ∀ (w w' : World), Below w.heap.size w w' → ∀ j x, PhiCx s a z k j w x → PhiCx s a z k j w' x := by
 intro w w' hb j x h; unfold PhiCx at h ⊢
 split <;> simp only at h ⊢
 all_goals exact h
set_option maxRecDepth 10000 in
set_option maxHeartbeats 1000000 in
theorem cutl_n (s : ByteArray) (w : World) (hs : s.size ≤ 9223372036854775807) :
  Calls Tryz.prog 82 #[.string s, .string { data := #[47] }] w fun e w' => e = .returned (.tuple #[.string (cutA s), .string (cutZ s), .bool (cutY s)]) ∧ Below w.heap.size w w' := by
 have hlt : cutI s < (s.size : Int) := by
  have := indexByte_lt 47 s.data.toList; rw [Array.length_toList] at this; exact this
 go_enter Tryz.func82, Tryz.ntmps82
 go_wp2_with fail; refine (index_n s w hs).mono ?_; rintro e w' ⟨rfl, hw⟩; obtain rfl := hw.symm; by_cases h0 : 0 ≤ cutI s
 ·obtain ⟨k, hk⟩ : ∃ k : Nat, cutI s = (k : Int) := ⟨(cutI s).toNat, by omega⟩; obtain ⟨a, HA⟩ : ∃ a, Hid (a = s.extract 0 k) := ⟨_, rfl⟩; obtain ⟨z, HZ⟩ : ∃ a, Hid (a = s.extract (k + 1) s.size) := ⟨_, rfl⟩
  have HR : Hid (cutA s = a ∧ cutZ s = z ∧ cutY s = true) := by
   refine ⟨?_, ?_, ?_⟩
   ·unfold cutA; rw [if_pos h0, hk, HA.out]; rfl
   ·unfold cutZ; rw [if_pos h0, hk, HZ.out]; rfl
   ·unfold cutY; simpa using h0
  rw [hk] at hlt ⊢; have hkk : k < s.size := by omega
  have hk1 : k ≤ s.size := by omega
  have hk2 : k + 1 ≤ s.size := by omega
  have hk3 : (k : Int) ≤ (s.size : Int) := by omega
  have hk4 : (k : Int) + 1 ≤ (s.size : Int) := by omega
  have hk5 : (0 : Int) ≤ (k : Int) + 1 := by omega
  have s1 : IntKind.i64.wrap ((k : Int) + 1) = (k : Int) + 1 := by rw [IntWalk.i64_in _ (by omega)]
  have s2 : ((k : Int) + 1).toNat = k + 1 := by omega
  clear h0 hk; go_upto_region 3 with fail; refine region_invF (PhiCx s a z k) (fun w w' => Below w.heap.size w w') (fun W => Below w.heap.size w W) (by kernel_rfl) (by kernel_rfl) (by kernel_rfl) PhiCx.keep (fun _ _ hR hS => Below.tr hS hR) (bD _) (fun vs => by simp only [fillR, Act.put, sA, sB, sC, Nat.zero_add, Nat.reduceAdd]; rfl) ?_ ?_
  ·refine sK ?_ (sK ?_ (sK ?_ (sK ?_ (sK ?_ (sK ?_ (sK ?_ (sK ?_ (sK ?_ (sK ?_ (sK ?_ (sK ?_ (sZ))))))))))))
   ·as_aux_lemma =>
    intro vs W hS hdep K hK; refine ⟨?_⟩; simp only [Act.put, sA, sB, sC, Nat.zero_add, Nat.reduceAdd] at hK ⊢; go_simp; with_reducible refine hK _ _ (Below.refl _ _) ?_
    exact rfl
   ·as_aux_lemma =>
    intro vs W hS hdep K hK; refine ⟨?_⟩; simp only [Act.put, sA, sB, sC, Nat.zero_add, Nat.reduceAdd] at hK ⊢; go_simp; with_reducible refine hK _ _ (Below.refl _ _) ?_
    exact rfl
   ·as_aux_lemma =>
    intro vs W hS hdep K hK; have d0 := hdep ⟨0, .data⟩ (by simp) rfl; simp only [PhiCx] at d0; have d1 := hdep ⟨1, .data⟩ (by simp) rfl; simp only [PhiCx] at d1; refine ⟨?_⟩; simp only [Act.put, sA, sB, sC, Nat.zero_add, Nat.reduceAdd, d0, d1] at hK ⊢; go_simp; with_reducible refine hK _ _ (Below.refl _ _) ?_
    exact (congrArg Value.string HA.out.symm)
   ·as_aux_lemma =>
    intro vs W hS hdep K hK; refine ⟨?_⟩; simp only [Act.put, sA, sB, sC, Nat.zero_add, Nat.reduceAdd] at hK ⊢; go_simp; with_reducible refine hK _ _ (Below.refl _ _) ?_
    exact rfl
   ·as_aux_lemma =>
    intro vs W hS hdep K hK; refine ⟨?_⟩; simp only [Act.put, sA, sB, sC, Nat.zero_add, Nat.reduceAdd] at hK ⊢; go_simp; with_reducible refine hK _ _ (Below.refl _ _) ?_
    exact rfl
   ·as_aux_lemma =>
    intro vs W hS hdep K hK; refine ⟨?_⟩; simp only [Act.put, sA, sB, sC, Nat.zero_add, Nat.reduceAdd] at hK ⊢; go_simp; with_reducible refine hK _ _ (Below.refl _ _) ?_
    exact rfl
   ·as_aux_lemma =>
    intro vs W hS hdep K hK; have d0 := hdep ⟨5, .data⟩ (by simp) rfl; simp only [PhiCx] at d0; refine ⟨?_⟩; simp only [Act.put, sA, sB, sC, Nat.zero_add, Nat.reduceAdd, d0] at hK ⊢; go_simp; with_reducible refine hK _ _ (Below.refl _ _) ?_
    exact rfl
   ·as_aux_lemma =>
    intro vs W hS hdep K hK; have d0 := hdep ⟨4, .data⟩ (by simp) rfl; simp only [PhiCx] at d0; have d1 := hdep ⟨6, .data⟩ (by simp) rfl; simp only [PhiCx] at d1; refine ⟨?_⟩; simp only [Act.put, sA, sB, sC, Nat.zero_add, Nat.reduceAdd, d0, d1] at hK ⊢; go_simp; with_reducible refine hK _ _ (Below.refl _ _) ?_
    exact rfl
   ·as_aux_lemma =>
    intro vs W hS hdep K hK; have d0 := hdep ⟨3, .data⟩ (by simp) rfl; simp only [PhiCx] at d0; have d1 := hdep ⟨7, .data⟩ (by simp) rfl; simp only [PhiCx] at d1; refine ⟨?_⟩; simp only [Act.put, sA, sB, sC, Nat.zero_add, Nat.reduceAdd, d0, d1] at hK ⊢; go_simp; with_reducible refine hK _ _ (Below.refl _ _) ?_
    exact (congrArg Value.string HZ.out.symm)
   ·as_aux_lemma =>
    intro vs W hS hdep K hK; have d0 := hdep ⟨2, .data⟩ (by simp) rfl; simp only [PhiCx] at d0; refine ⟨?_⟩; simp only [Act.put, sA, sB, sC, Nat.zero_add, Nat.reduceAdd, d0] at hK ⊢; go_simp; with_reducible refine hK _ _ (Below.refl _ _) ?_
    exact rfl
   ·as_aux_lemma =>
    intro vs W hS hdep K hK; have d0 := hdep ⟨8, .data⟩ (by simp) rfl; simp only [PhiCx] at d0; have d1 := hdep ⟨9, .chain⟩ (by simp) rfl; simp only [PhiCx] at d1; refine ⟨?_⟩; simp only [Act.put, sA, sB, sC, Nat.zero_add, Nat.reduceAdd, d0, d1] at hK ⊢; go_simp; with_reducible refine hK _ _ (Below.refl _ _) ?_
    exact rfl
   ·as_aux_lemma =>
    intro vs W hS hdep K hK; have d0 := hdep ⟨10, .chain⟩ (by simp) rfl; simp only [PhiCx] at d0; refine ⟨?_⟩; simp only [Act.put, sA, sB, sC, Nat.zero_add, Nat.reduceAdd, d0] at hK ⊢; go_simp; with_reducible refine hK _ _ (Below.refl _ _) ?_
    exact rfl
  intro vs w3 hb hv; have v9 := hv 9 (by simp); have v10 := hv 10 (by simp); have v11 := hv 11 (by simp); simp only [PhiCx] at v9 v10 v11; simp only [Act.put, sA, sB, sC, Nat.zero_add, Nat.reduceAdd, v9, v10, v11]; go_wp2_with fail; exact bodyPost_ret (v := .tuple #[.string a, .string z, .bool true]) (by simp [results, Tryz.results82, go_sem]) rfl ⟨by rw [HR.out.1, HR.out.2.1, HR.out.2.2], hb⟩
 ·have t1 : decide (0 ≤ cutI s) = false := by simpa using h0
  have HA : Hid (cutA s = s) := by show _ = _; unfold cutA; rw [if_neg h0]
  have HZ : Hid (cutZ s = { data := #[] }) := by show _ = _; unfold cutZ; rw [if_neg h0]
  have HY : Hid (cutY s = false) := by show _ = _; unfold cutY; exact t1
  go_wp2_with fail; exact bodyPost_ret (v := .tuple #[.string s, .string { data := #[] }, .bool false]) (by simp [results, Tryz.results82, go_sem]) rfl ⟨by rw [HA.out, HZ.out, HY.out], Below.refl _ _⟩
set_option maxRecDepth 10000 in
theorem cut_n (s : ByteArray) (w : World) (hs : s.size ≤ 9223372036854775807) :
  Calls Tryz.prog 45 #[.string s, .string { data := #[47] }] w fun e w' => e = .returned (.tuple #[.string (cutA s), .string (cutZ s), .bool (cutY s)]) ∧ Below w.heap.size w w' := by
 go_enter Tryz.func45, Tryz.ntmps45
 go_wp2_with fail; refine (cutl_n s w hs).mono ?_; rintro e w' ⟨rfl, hb⟩; go_wp2_with fail; exact bodyPost_ret (v := .tuple #[.string (cutA s), .string (cutZ s), .bool (cutY s)]) (by simp [results, Tryz.results45, go_sem]) rfl ⟨rfl, hb⟩
end Go.Proofs.YtmbfjmilhfmnkaaGreatDoor
namespace Go.Proofs.YtmbfjmilhfmnkaaGreatDoor
open Go Go.RowKit
/-- the number that digits stand for -/
def numV (l : List UInt8) : Nat := l.foldl (fun a b => a * 10 + (b.toNat - 48)) 0
theorem numV_take {l : List UInt8} {i : Nat} {b : UInt8} (h : l[i]? = some b) : numV (l.take (i + 1)) = numV (l.take i) * 10 + (b.toNat - 48) := by
 unfold numV; rw [List.take_add_one, h, Option.toList_some, List.foldl_append]; rfl
theorem numV_lt {l : List UInt8} (hd : ∀ b ∈ l, b.toNat ≤ 57) : ∀ i, i ≤ l.length → numV (l.take i) < 10 ^ i
 | 0, _ => by simp [numV]
 | i + 1, h => by
  have h1 := List.getElem?_eq_getElem (l := l) (i := i) (by omega); have h2 := hd _ (List.mem_of_getElem? h1); have ih := numV_lt hd i (by omega); rw [numV_take h1, Nat.pow_succ]; omega
theorem lb10 {n e : Nat} (h : n < 10 ^ e) : (Nm.lb n).length ≤ e := Nm.lb_length_lt.2 (Nat.lt_of_lt_of_le h (Nat.pow_le_pow_left (by unfold Nm.B; omega) e))
theorem Nb.dig (w : World) (d : Nat) (h0 : 0 < d) (h : d < 4294967296) : Nb (w.alloc (.cells #[.int .u32 (d : Int)] 56)) (some ⟨w.heap.size, 0, none⟩) 1 1 d := by
 have hd : d < Nm.B := by unfold Nm.B; omega
 have e : Nm.lb d = [d] := by
  exact Nm.lb_small (by omega) hd
 have h : Row (w.alloc (.cells #[.int .u32 (d : Int)] 56)) w.heap.size [d] := ⟨Blk.new w _ _, fun x hx => by rw [List.mem_singleton.1 hx]; exact hd⟩; have := h.lim (c := 1) (by simp) (by omega); rw [← e] at this; exact ⟨by rw [e]; rfl, this⟩
theorem bytes_get {s : ByteArray} {i : Nat} (h : i < s.size) : s.data.toList[i]? = some s[i] := by
 rw [Array.getElem?_toList, Array.getElem?_eq_getElem (by exact h)]; rfl
def PhiNm (A : Option Addr) (k c X : Nat) (s : ByteArray) (i n d : Nat) (vs : Nat → Value) (j : Nat) (w : World) (x : Value) : Prop :=
 match j with
 | 0 => x = .slice A k c
 | 1 => IsNb w x 10 1
 | 2 => IsNb w x (X * 10) 618
 | 3 => x = .string s
 | 4 => x = .int .i64 (i : Nat)
 | 5 => x = .int .u8 (n : Nat)
 | 6 => x = .int .u8 (d : Nat)
 | 7 => x = .int .u64 (d : Nat)
 | 8 => IsNb w x d 2
 | 9 => IsNb w x (X * 10 + d) 618
 | _ => True
theorem PhiNm.keepR {A : Option Addr} {k c X : Nat} {s : ByteArray} {i n d : Nat} : ∀ vs (w w' : World), Below w.heap.size w w' → ∀ j x, PhiNm A k c X s i n d vs j w x → PhiNm A k c X s i n d vs j w' x := by
 intro vs w w' hb j x h; unfold PhiNm at h ⊢
 split <;> simp only at h ⊢
 all_goals first
  | exact h
  | exact h.below hb
  | (obtain ⟨v, er, e, h⟩ := h; exact ⟨v, er, e, h.below hb⟩)
theorem PhiNm.keepF {A : Option Addr} {k c X : Nat} {s : ByteArray} {i n d : Nat} : ∀ vs (w w' : World) j x, ([] : List Nat).contains j = true → PhiNm A k c X s i n d vs j w x → PhiNm A k c X s i n d vs j w' x := by
 intro vs w w' j x hf
 cases hf
def SNu (w1 : World) (Y : Nat) : List Value → (Nat → Value) → World → Prop
 | [], _, W => Below w1.heap.size w1 W
 | [v], _, W => IsNb W v Y 618 ∧ Below w1.heap.size w1 W
 | _, _, _ => True
set_option maxRecDepth 10000 in
set_option maxHeartbeats 1000000 in
theorem number_long (s : ByteArray) (w : World) (hs : s.size ≤ 9223372036854775807) (h : 617 < s.size) :
  Calls Tryz.prog 47 #[.string s] w fun e w' => e = .returned (.tuple #[.slice none 0 0, .bool false]) ∧ w' = w := by
 have t1 : decide ((617 : Int) < (s.size : Int)) = true := by simp; omega
 go_enter Tryz.func47, Tryz.ntmps47
 go_wp2_with fail; exact bodyPost_ret (v := .tuple #[.slice none 0 0, .bool false]) (by simp [results, Tryz.results47, go_sem]) rfl ⟨rfl, rfl⟩
set_option maxRecDepth 10000 in
set_option maxHeartbeats 2000000 in
theorem number_n (s : ByteArray) (w : World) (h : s.size ≤ 617) (hd : Hid (∀ b ∈ s.data.toList, 48 ≤ b.toNat ∧ b.toNat ≤ 57)) :
  Calls Tryz.prog 47 #[.string s] w fun e w' => ∃ A k c, e = .returned (.tuple #[.slice A k c, .bool (decide (k ≤ 64))]) ∧ Nb w' A k c (numV s.data.toList) ∧ k ≤ 618 ∧ Below w.heap.size w w' := by
 have t1 : decide ((617 : Int) < (s.size : Int)) = false := by simp; omega
 go_enter Tryz.func47, Tryz.ntmps47
 go_wp2_with fail
 go_loopg [4, 11] s.size (fun j x y wx => ∃ (i : Nat) (A : Option Addr) (k c : Nat), x = .slice A k c ∧ y = .int .i64 i ∧ i + j = s.size ∧ Nb wx A k c (numV (s.data.toList.take i)) ∧ Below w.heap.size w wx)
 case atStart => exact ⟨0, none, 0, 0, rfl, rfl, by omega, by rw [List.take_zero]; exact Nb.zero _, Below.refl _ _⟩
 case round =>
  obtain ⟨G, hG⟩ : ∃ G, G = gk := ⟨gk, rfl⟩; subst hG; obtain ⟨i, A, k, c, rfl, rfl, hij, hX, hbe⟩ := hrel; obtain ⟨wx, hwx⟩ : ∃ z, z = wr := ⟨_, rfl⟩; subst hwx; have hlen : s.data.toList.length = s.size := by rw [Array.length_toList]; rfl
  by_cases hi : i < s.size
  ·have t2 : decide ((i : Int) < (s.size : Int)) = true := by simp; omega
   have hib := hd.out _ (List.mem_of_getElem? (bytes_get hi)); obtain ⟨n, HN⟩ : ∃ n : Nat, Hid (n = s[i].toNat) := ⟨s[i].toNat, rfl⟩; obtain ⟨d, HD⟩ : ∃ d : Nat, Hid (d = n - 48) := ⟨_, rfl⟩; obtain ⟨E, HE⟩ : ∃ E : Nat, Hid (E = 618) := ⟨618, rfl⟩; have hE : E ≤ 618 := by rw [HE.out]; exact Nat.le_refl _
   have hiE : i + 1 ≤ E := by rw [HE.out]; omega
   have hdn : d = n - 48 := HD.out; obtain ⟨X, HX⟩ : ∃ X, Hid (X = numV (s.data.toList.take i)) := ⟨_, rfl⟩; rw [← HN.out] at hib; have hnd : n = d + 48 := by omega
   have hd9 : d ≤ 9 := by omega
   clear hdn
   have hXN : Hid (numV (s.data.toList.take (i + 1)) = X * 10 + d) := by
    show _ = _
    rw [numV_take (bytes_get hi), ← HX.out, ← HN.out, HD.out]
   have hX10 : X < 10 ^ i := by rw [HX.out]; exact numV_lt (fun b hb => (hd.out b hb).2) i (by omega)
   have hx10 : X * 10 < 10 ^ E := Nat.lt_of_lt_of_le (show X * 10 < 10 ^ (i + 1) by rw [Nat.pow_succ]; omega) (Nat.pow_le_pow_right (by omega) hiE); have hxd : X * 10 + d < 10 ^ E := Nat.lt_of_lt_of_le (show X * 10 + d < 10 ^ (i + 1) by rw [Nat.pow_succ]; omega) (Nat.pow_le_pow_right (by omega) hiE)
   have hk : k ≤ 618 := by
    have h1 := lb10 hX10; have h2 := hX.1; rw [← HX.out] at h2; omega
   rw [← HX.out] at hX; have s1 : IntKind.u8.wrap ((n : Int) - 48) = (d : Int) := by rw [IntWalk.u8_in _ (by omega)]; omega
   have HND := Lib.hid hnd; have s2 : IntKind.u64.wrap (d : Int) = (d : Int) := by rw [IntWalk.u64_in _ (by omega)]
   clear hnd hib; go_upto_region 7 with fail; refine region_chain [10] [.early, .early, .early, .early, .early, .early, .early, .early, .early, .early, .chain 0] [] [] (PhiNm A k c X s i n d) (fun w w' => Below w.heap.size w w') (SNu wx (X * 10 + d)) (by kernel_rfl) (by kernel_rfl) (by kernel_rfl) (by kernel_rfl) (sK (fun _ _ _ _ _ h => h) (sK (fun _ _ _ _ _ h => h) (sK (fun _ _ _ _ _ h => h) (sK (fun _ _ _ _ _ h => h) (sK (fun _ _ _ _ _ h => h) (sK (fun _ _ _ _ _ h => h) (sK (fun _ _ _ _ _ h => h) (sK (fun _ _ _ _ _ h => h) (sK (fun _ _ _ _ _ h => h) (sK (fun _ _ _ _ _ h => h) (sK (fun _ _ _ _ _ h => h) (sZ)))))))))))) PhiNm.keepR PhiNm.keepF (fun _ _ _ _ hR hS => Below.tr hS hR) (by rintro (_ | ⟨_, _ | _⟩) vs vs' w _ h <;> exact h) (fun _ => bD _) (fun vs => by simp only [fillR, Act.put, sA, sB, sC, Nat.zero_add, Nat.reduceAdd]; rfl) ?_ ?_
   ·refine sK ?_ (sK ?_ (sK ?_ (sK ?_ (sK ?_ (sK ?_ (sK ?_ (sK ?_ (sK ?_ (sK ?_ (sK ?_ (sZ)))))))))))
    ·as_aux_lemma =>
     intro vs W hS hu hdep K hK; have HU := Lib.hid hu; clear hu; have u0 : vs 10 = .slice A k c := HU.out 10 (by simp); refine ⟨?_⟩; simp only [Act.put, sA, sB, sC, Nat.zero_add, Nat.reduceAdd, u0] at hK ⊢; go_simp; with_reducible refine hK _ _ (Below.refl _ _) ?_
     exact rfl
    ·as_aux_lemma =>
     intro vs W hS hu hdep K hK; have HU := Lib.hid hu; clear hu; refine ⟨?_⟩; simp only [Act.put, sA, sB, sC, Nat.zero_add, Nat.reduceAdd] at hK ⊢; go_simp; with_reducible refine hK _ _ (bA _ _) ?_
     exact ⟨_, _, _, rfl, Nb.dig W 10 (by omega) (by omega), Nat.le_refl _⟩
    ·as_aux_lemma =>
     intro vs W hS hu hdep K hK; have HU := Lib.hid hu; clear hu; have d0 := hdep ⟨0, .data⟩ (by simp) rfl; simp only [PhiNm] at d0; have d1 := hdep ⟨1, .data⟩ (by simp) rfl; simp only [PhiNm] at d1; refine @exE3 _ _ _ _ _ d1 ?_; clear d1; intro A1 k1 c1 d1; have e1 := d1.1; have n1 := d1.2.1; have m1 := d1.2.2; clear d1; refine ⟨?_⟩; simp only [fillR, Act.put, sA, sB, sC, Nat.zero_add, Nat.reduceAdd, d0, e1] at hK ⊢; go_simp; refine (times_n _ _ _ _ _ _ _ _ _ (hX.below hS) n1 (by omega) (by omega)).mono ?_; rintro e w' ⟨A, k, c, rfl, hn, hb⟩; go_wp2_with fail; with_reducible refine hK _ _ hb ?_
     exact ⟨A, k, c, rfl, hn, by rw [hn.1]; exact Nat.le_trans (lb10 hx10) hE⟩
    ·as_aux_lemma =>
     intro vs W hS hu hdep K hK; have HU := Lib.hid hu; clear hu; refine ⟨?_⟩; simp only [Act.put, sA, sB, sC, Nat.zero_add, Nat.reduceAdd] at hK ⊢; go_simp; with_reducible refine hK _ _ (Below.refl _ _) ?_
     exact rfl
    ·as_aux_lemma =>
     intro vs W hS hu hdep K hK; have HU := Lib.hid hu; clear hu; refine ⟨?_⟩; simp only [Act.put, sA, sB, sC, Nat.zero_add, Nat.reduceAdd] at hK ⊢; go_simp; with_reducible refine hK _ _ (Below.refl _ _) ?_
     exact rfl
    ·as_aux_lemma =>
     intro vs W hS hu hdep K hK; have HU := Lib.hid hu; clear hu; have d0 := hdep ⟨3, .data⟩ (by simp) rfl; simp only [PhiNm] at d0; have d1 := hdep ⟨4, .data⟩ (by simp) rfl; simp only [PhiNm] at d1; have q1 := hi; refine ⟨?_⟩; simp only [Act.put, sA, sB, sC, Nat.zero_add, Nat.reduceAdd, d0, d1] at hK ⊢; go_simp; with_reducible refine hK _ _ (Below.refl _ _) ?_
     exact (congrArg (fun z : Nat => Value.int .u8 (z : Int)) HN.out.symm)
    ·as_aux_lemma =>
     intro vs W hS hu hdep K hK; have HU := Lib.hid hu; clear hu; have d0 := hdep ⟨5, .data⟩ (by simp) rfl; simp only [PhiNm] at d0; refine ⟨?_⟩; simp only [Act.put, sA, sB, sC, Nat.zero_add, Nat.reduceAdd, d0] at hK ⊢; go_simp; with_reducible refine hK _ _ (Below.refl _ _) ?_
     exact rfl
    ·as_aux_lemma =>
     intro vs W hS hu hdep K hK; have HU := Lib.hid hu; clear hu; have d0 := hdep ⟨6, .data⟩ (by simp) rfl; simp only [PhiNm] at d0; refine ⟨?_⟩; simp only [Act.put, sA, sB, sC, Nat.zero_add, Nat.reduceAdd, d0] at hK ⊢; go_simp; with_reducible refine hK _ _ (Below.refl _ _) ?_
     exact rfl
    ·as_aux_lemma =>
     intro vs W hS hu hdep K hK; have HU := Lib.hid hu; clear hu; have d0 := hdep ⟨7, .data⟩ (by simp) rfl; simp only [PhiNm] at d0; refine ⟨?_⟩; simp only [fillR, Act.put, sA, sB, sC, Nat.zero_add, Nat.reduceAdd, d0] at hK ⊢; go_simp; refine (whole_n d _ (by omega)).mono ?_; rintro e w' ⟨A, k, c, rfl, hn, hb⟩; go_wp2_with fail; with_reducible refine hK _ _ hb ?_
     exact ⟨A, k, c, rfl, hn, by rw [hn.1]; exact Nm.lb_length_lt.2 (b2 (by omega))⟩
    ·as_aux_lemma =>
     intro vs W hS hu hdep K hK; have HU := Lib.hid hu; clear hu; have d0 := hdep ⟨2, .data⟩ (by simp) rfl; simp only [PhiNm] at d0; refine @exE3 _ _ _ _ _ d0 ?_; clear d0; intro A0 k0 c0 d0; have e0 := d0.1; have n0 := d0.2.1; have m0 := d0.2.2; clear d0; have d1 := hdep ⟨8, .data⟩ (by simp) rfl; simp only [PhiNm] at d1; refine @exE3 _ _ _ _ _ d1 ?_; clear d1; intro A1 k1 c1 d1; have e1 := d1.1; have n1 := d1.2.1; have m1 := d1.2.2; clear d1; refine ⟨?_⟩; simp only [fillR, Act.put, sA, sB, sC, Nat.zero_add, Nat.reduceAdd, e0, e1] at hK ⊢; go_simp; refine (plus_n _ _ _ _ _ _ _ _ _ n0 n1 (by omega) (by omega)).mono ?_; rintro e w' ⟨A, k, c, rfl, hn, hb⟩; go_wp2_with fail; with_reducible refine hK _ _ hb ?_
     exact ⟨A, k, c, rfl, hn, by rw [hn.1]; exact Nat.le_trans (lb10 hxd) hE⟩
    ·as_aux_lemma =>
     intro vs W hS hdep K hK; have d0 := hdep ⟨9, .data⟩ (by simp) rfl (by rfl); simp only [PhiNm] at d0; refine @exE3 _ _ _ _ _ d0 ?_; clear d0; intro A0 k0 c0 d0; have e0 := d0.1; have n0 := d0.2.1; have m0 := d0.2.2; clear d0; have hS0 : Below wx.heap.size wx W := hS; refine ⟨?_⟩; simp only [Act.put, sA, sB, sC, Nat.zero_add, Nat.reduceAdd, e0] at hK ⊢; go_simp; with_reducible refine hK _ _ ?_
     exact ⟨⟨A0, k0, c0, rfl, n0, m0⟩, hS0⟩
   intro vs W hS _; have hS2 : SNu wx (X * 10 + d) [vs 10] vs W := hS; obtain ⟨⟨A', k', c', e, hN, hm⟩, hb⟩ := hS2; rw [← hXN.out] at hN; clear hS; simp only [Act.put, sA, sB, sC, Nat.zero_add, Nat.reduceAdd, e]; go_wp2_with fail
   go_roundg (G - 1)
   case measure => omega
   case rel => exact ⟨i + 1, A', k', c', rfl, by go_num, by omega, hN, hbe.trans (hb.mono hbe.size)⟩
  ·have t2 : decide ((i : Int) < (s.size : Int)) = false := by simp; omega
   have his : i = s.size := by omega
   rw [his, ← hlen, List.take_length] at hX
   have hk : k ≤ 618 := by
    have h1 := numV_lt (l := s.data.toList) (fun b hb => (hd.out b hb).2) s.data.toList.length (Nat.le_refl _); rw [List.take_length] at h1; have h2 := lb10 h1; have h3 := hX.1; omega
   have hdec : decide ((k : Int) ≤ 64) = decide (k ≤ 64) := by rw [decide_eq_decide]; omega
   go_wp2_with fail; exact bodyPost_ret (v := .tuple #[.slice A k c, .bool (decide (k ≤ 64))]) (by simp [results, Tryz.results47, go_sem]) rfl ⟨_, _, _, rfl, hX, hk, hbe⟩
end Go.Proofs.YtmbfjmilhfmnkaaGreatDoor
namespace Go.Proofs.YtmbfjmilhfmnkaaGreatDoor.Nm
/-- the last k decimal digits of a number, the greatest first -/
def padD : Nat → Nat → List Nat
 | 0, _ => []
 | k + 1, n => padD k (n / 10) ++ [n % 10]
/-- the decimal digits of a number, the greatest first -/
def decF : Nat → Nat → List Nat
 | 0, n => [n % 10]
 | f + 1, n => if n < 10 then [n] else decF f (n / 10) ++ [n % 10]
def decD (n : Nat) : List Nat := decF n n
theorem padD_len : ∀ (k n : Nat), (padD k n).length = k
 | 0, _ => rfl
 | k + 1, n => by rw [padD, List.length_append, padD_len k]; rfl
theorem padD_cons : ∀ (k n : Nat), padD (k + 1) n = (n / 10 ^ k % 10) :: padD k n
 | 0, n => by simp [padD]
 | k + 1, n => by
  rw [padD, padD_cons k (n / 10), padD, List.cons_append, Nat.div_div_eq_div_mul, Nat.pow_succ, Nat.mul_comm]
theorem padD_lt : ∀ (k n : Nat), ∀ d ∈ padD k n, d < 10
 | 0, _, _, h => absurd h List.not_mem_nil
 | k + 1, n, d, h => by
  rw [padD] at h
  rcases List.mem_append.1 h with h | h
  ·exact padD_lt k _ d h
  ·rw [List.mem_singleton.1 h]; omega
theorem decF_fuel : ∀ (f g n : Nat), n ≤ f → n ≤ g → decF f n = decF g n
 | 0, 0, _, _, _ => rfl
 | 0, g + 1, n, h, _ => by
  obtain rfl : n = 0 := by omega
  rw [decF, decF, if_pos (by omega)]
 | f + 1, 0, n, _, h => by
  obtain rfl : n = 0 := by omega
  rw [decF, decF, if_pos (by omega)]
 | f + 1, g + 1, n, hf, hg => by
  rw [decF, decF]; by_cases h : n < 10
  ·rw [if_pos h, if_pos h]
  ·rw [if_neg h, if_neg h, decF_fuel f g (n / 10) (by omega) (by omega)]
theorem decD_small {n : Nat} (h : n < 10) : decD n = [n] := by
 unfold decD
 cases n with
 | zero => rfl
 | succ n => rw [decF, if_pos h]
theorem decD_step {n : Nat} (h : 10 ≤ n) : decD n = decD (n / 10) ++ [n % 10] := by
 unfold decD; obtain ⟨m, rfl⟩ : ∃ m, n = m + 1 := ⟨n - 1, by omega⟩; rw [decF, if_neg (by omega), decF_fuel m ((m + 1) / 10) _ (by omega) (Nat.le_refl _)]
theorem dropW_zeros : ∀ (k : Nat) (l : List Nat), ((padD k 0) ++ l).dropWhile (· == 0) = l.dropWhile (· == 0)
 | 0, l => rfl
 | k + 1, l => by
  rw [padD_cons, Nat.zero_div, List.cons_append, List.dropWhile_cons_of_pos (by simp), dropW_zeros k l]
theorem dropW_app {l m : List Nat} (h : l.dropWhile (· == 0) ≠ []) : (l ++ m).dropWhile (· == 0) = l.dropWhile (· == 0) ++ m := by
 induction l with
 | nil => exact absurd rfl h
 | cons a l ih =>
  rw [List.cons_append]; by_cases ha : (a == 0) = true
  ·have e1 : ∀ t : List Nat, (a :: t).dropWhile (· == 0) = t.dropWhile (· == 0) := fun t => List.dropWhile_cons_of_pos ha
   rw [e1] at h; rw [e1, e1]; exact ih h
  ·have e2 : ∀ t : List Nat, (a :: t).dropWhile (· == 0) = a :: t := fun t => List.dropWhile_cons_of_neg ha
   rw [e2, e2]; rfl
theorem decD_ne (n : Nat) : decD n ≠ [] := by
 rcases Nat.lt_or_ge n 10 with h | h
 ·rw [decD_small h]; simp
 ·rw [decD_step h]; simp
/-- the digits without leading noughts -/
theorem pad_dec : ∀ (k n : Nat), n < 10 ^ k → 0 < n → (padD k n).dropWhile (· == 0) = decD n
 | 0, n, h, h0 => by simp at h; omega
 | k + 1, n, h, h0 => by
  rw [padD]
  rcases Nat.lt_or_ge n 10 with h1 | h1
  ·rw [show n / 10 = 0 by omega, dropW_zeros, decD_small h1, show n % 10 = n by omega, List.dropWhile_cons_of_neg (by simp; omega)]
  ·have ih := pad_dec k (n / 10) (by rw [Nat.pow_succ] at h; omega) (by omega); rw [dropW_app (by rw [ih]; exact decD_ne _), ih, ← decD_step h1]
theorem pad_zero (k : Nat) : (padD k 0).dropWhile (· == 0) = [] := by
 have := dropW_zeros k []
 rwa [List.append_nil] at this
/-- the decimal digits as bytes -/
def decS (n : Nat) : ByteArray := ⟨((decD n).map fun d => UInt8.ofNat (48 + d)).toArray⟩
theorem ten_two (k : Nat) : (2 : Nat) ^ (93 * k) ≤ 10 ^ (28 * k) := by
 rw [Nat.pow_mul, Nat.pow_mul]; exact Nat.pow_le_pow_left (by decide) k
theorem bpow (k : Nat) : B ^ k = 2 ^ (32 * k) := by
 unfold B; rw [show (4294967296 : Nat) = 2 ^ 32 by decide, Nat.pow_mul]
theorem bpow_le {k e : Nat} (h : 32 * k ≤ e) : B ^ k ≤ 2 ^ e := by
 rw [bpow]; exact Nat.pow_le_pow_right (by omega) h
theorem ten_two3 (k : Nat) : (2 : Nat) ^ (93 * k + 3) ≤ 10 ^ (28 * k + 1) := by
 rw [Nat.pow_add, Nat.pow_add]; exact Nat.mul_le_mul (ten_two k) (by decide)
theorem lim_k {k e : Nat} (h1 : 2048 ≤ 93 * k + 3) (h2 : 28 * k + 1 ≤ e) : B ^ 64 ≤ 10 ^ e :=
 Nat.le_trans (bpow_le (by omega)) (Nat.le_trans (ten_two3 k) (Nat.pow_le_pow_right (by omega) h2))
theorem lim_ten {e : Nat} (h : 617 ≤ e) : B ^ 64 ≤ 10 ^ e := lim_k (k := 22) (by omega) (by omega)
theorem pow_chunk {n c : Nat} (h : n < B ^ 64) (hx : n / 10 ^ (9 * c) ≠ 0) : c ≤ 68 := by
 rcases Nat.lt_or_ge 68 c with h1 | h1
 ·exfalso
  apply hx
  apply Nat.div_eq_of_lt
  exact Nat.lt_of_lt_of_le h (lim_ten (by omega))
 ·exact h1
end Go.Proofs.YtmbfjmilhfmnkaaGreatDoor.Nm
