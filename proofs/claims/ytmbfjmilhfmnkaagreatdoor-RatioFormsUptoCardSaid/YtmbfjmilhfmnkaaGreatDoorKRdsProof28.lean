import Derived.Test.YtmbfjmilhfmnkaaGreatDoorKRdsProof27
import Derived.Test.YtmbfjmilhfmnkaaGreatDoorKRdsProof17
import Derived.Test.YtmbfjmilhfmnkaaGreatDoorKRdsProof26
import Derived.Laws.IdiomStrings
import Derived.Test.YtmbfjmilhfmnkaaGreatDoorKRdsProof04
import Derived.Test.YtmbfjmilhfmnkaaGreatDoorKRdsProof09
import Derived.Test.YtmbfjmilhfmnkaaGreatDoorKRdsProof23
import Derived.Test.YtmbfjmilhfmnkaaGreatDoorS0
set_option linter.unusedVariables false
set_option linter.unusedSimpArgs false
namespace Go.Proofs.YtmbfjmilhfmnkaaGreatDoor
open Go Go.RowKit
theorem Nm.padD_get : ∀ (k n j : Nat), j < k → (Nm.padD k n)[j]? = some (n / 10 ^ (k - 1 - j) % 10)
 | 0, _, _, h => absurd h (by omega)
 | k + 1, n, 0, _ => by rw [Nm.padD_cons]; rfl
 | k + 1, n, j + 1, h => by
  rw [Nm.padD_cons, List.getElem?_cons_succ, Nm.padD_get k n j (by omega)]; rw [show k - 1 - j = k + 1 - 1 - (j + 1) by omega]
/-- the block of digits, the last t of which stand -/
def DG (D : Array Value) (t n : Nat) : Prop := D.size = 626 ∧ ∀ j, j < t → D[625 - j]? = some (.int .u8 ((48 + n / 10 ^ j % 10 : Nat) : Int))
theorem DG.zero {D : Array Value} {n : Nat} (h : D.size = 626) : DG D 0 n := ⟨h, fun j hj => absurd hj (by omega)⟩
theorem DG.step {D : Array Value} {t n : Nat} (h : DG D t n) (ht : t < 626) {v : Value} (hv : v = .int .u8 ((48 + n / 10 ^ t % 10 : Nat) : Int)) : DG (D.setIfInBounds (625 - t) v) (t + 1) n := by
 refine ⟨by rw [Array.size_setIfInBounds]; exact h.1, fun j hj => ?_⟩; have hs := h.1; by_cases e : j = t
 ·subst e; rw [Array.getElem?_setIfInBounds_self_of_lt (by omega), hv]
 ·rw [Array.getElem?_setIfInBounds_ne (by omega)]; exact h.2 j (by omega)
/-- the digits as bytes, the greatest first -/
def padB (t n : Nat) : List UInt8 := (Nm.padD t n).map fun d => UInt8.ofNat (48 + d)
theorem padB_len (t n : Nat) : (padB t n).length = t := by unfold padB; rw [List.length_map, Nm.padD_len]
theorem padB_get {t n j : Nat} (h : j < t) (hj : j < (padB t n).length) : ((padB t n)[j]).toNat = 48 + n / 10 ^ (t - 1 - j) % 10 := by
 have h1 := Nm.padD_get t n j h
 have h2 : (padB t n)[j]? = some (UInt8.ofNat (48 + n / 10 ^ (t - 1 - j) % 10)) := by
  unfold padB; rw [List.getElem?_map, h1]; rfl
 rw [List.getElem?_eq_getElem hj] at h2; injection h2 with h2; rw [h2]; have : n / 10 ^ (t - 1 - j) % 10 < 10 := Nat.mod_lt _ (by omega); rw [UInt8.toNat_ofNat']; exact Nat.mod_eq_of_lt (by omega)
theorem drop_map : ∀ l : List Nat, (∀ d ∈ l, d < 10) → (l.map fun d => UInt8.ofNat (48 + d)).dropWhile (· == 48) = (l.dropWhile (· == 0)).map fun d => UInt8.ofNat (48 + d)
 | [], _ => rfl
 | d :: l, h => by
  have ih := drop_map l (fun x hx => h x (List.mem_cons_of_mem _ hx)); have hd := h d List.mem_cons_self; rw [List.map_cons]; by_cases e : d = 0
  ·subst e; have e1 : ∀ t : List UInt8, (UInt8.ofNat (48 + 0) :: t).dropWhile (· == 48) = t.dropWhile (· == 48) := fun t => List.dropWhile_cons_of_pos rfl
   have e2 : ∀ t : List Nat, (0 :: t).dropWhile (· == 0) = t.dropWhile (· == 0) := fun t => List.dropWhile_cons_of_pos rfl
   rw [e1, e2, ih]
  ·have hne : (UInt8.ofNat (48 + d) == 48) = false := by
    have h1 : (UInt8.ofNat (48 + d)).toNat = 48 + d := by rw [UInt8.toNat_ofNat']; exact Nat.mod_eq_of_lt (by omega)
    rw [beq_eq_false_iff_ne]; intro h2; rw [h2] at h1; have : (48 : UInt8).toNat = 48 := rfl; omega
   have e1 : ∀ t : List UInt8, (UInt8.ofNat (48 + d) :: t).dropWhile (· == 48) = UInt8.ofNat (48 + d) :: t := fun t => List.dropWhile_cons_of_neg (by rw [hne]; decide)
   have e2 : ∀ t : List Nat, (d :: t).dropWhile (· == 0) = d :: t := fun t => List.dropWhile_cons_of_neg (by simpa using e)
   rw [e1, e2, List.map_cons]
/-- the digits without leading noughts -/
theorem trim_pad (t n : Nat) (h : n < 10 ^ t) (h0 : 0 < n) : (⟨(Lib.trimLeftB (padB t n) 48).toArray⟩ : ByteArray) = Nm.decS n := by
 unfold Lib.trimLeftB padB Nm.decS; rw [drop_map _ (Nm.padD_lt t n), Nm.pad_dec t n h h0]
theorem trim_zero (t : Nat) : (⟨(Lib.trimLeftB (padB t 0) 48).toArray⟩ : ByteArray) = ⟨#[]⟩ := by
 unfold Lib.trimLeftB padB; rw [drop_map _ (Nm.padD_lt t 0), Nm.pad_zero]; rfl
theorem decS_ne (n : Nat) : (Nm.decS n).toList.isEmpty = false := by
 rw [ByteArray.toList_eq]; unfold Nm.decS; have h := Nm.decD_ne n
 cases hl : Nm.decD n with
 | nil => exact absurd hl h
 | cons a l => simp
set_option maxRecDepth 100000 in
set_option maxHeartbeats 1000000 in
theorem trimL_n (s : ByteArray) (w : World) : Calls Tryz.prog 80 #[.string s, .string { data := #[48] }] w fun e w' => e = .returned (.string ⟨(Lib.trimLeftB s.data.toList 48).toArray⟩) ∧ w' = w := by
 by_cases h0 : s.toList.isEmpty = true
 ·have h1 : s.data.toList = [] := by
   rw [ByteArray.toList_eq] at h0
   simpa using h0
  rw [h1]
  have h2 : s = { data := #[] } := by
   apply ByteArray.ext
   apply Array.toList_inj.1
   exact h1
  go_enter Tryz.func80, Tryz.ntmps80
  go_wp2_with fail; go_ret; exact ⟨by rw [h2]; rfl, rfl⟩
 ·have t1 : s.toList.isEmpty = false := by simpa using h0
  go_enter Tryz.func80, Tryz.ntmps80
  go_wp2_with fail; refine (Tryz.strings_trimLeftByte s 48 w).mono ?_; rintro e w' ⟨rfl, rfl⟩; go_wp2_with fail; go_ret; exact ⟨rfl, rfl⟩
end Go.Proofs.YtmbfjmilhfmnkaaGreatDoor
namespace Go.Proofs.YtmbfjmilhfmnkaaGreatDoor
open Go Go.RowKit
theorem noU_zero : NoU Tryz.zeroCells93 := by
 have h : Tryz.zeroCells93 = Array.replicate 626 (.int .u8 0) := by kernel_rfl
 intro i n; rw [h, Array.getElem?_replicate]
 split
 ·intro e; cases e
 ·intro e; cases e
theorem NoU.set8 {D : Array Value} (h : NoU D) (i : Nat) (x : Int) : NoU (D.setIfInBounds i (.int .u8 x)) := by
 intro j n; by_cases e : i = j
 ·subst e; rw [Array.getElem?_setIfInBounds_self]
  split
  ·intro e; cases e
  ·intro e; cases e
 ·rw [Array.getElem?_setIfInBounds_ne e]; exact h j n
theorem digit_eq {m q : Nat} (h : q < 9) : m % 10 ^ 9 / 10 ^ q % 10 = m / 10 ^ q % 10 := by
 have e : (10 : Nat) ^ 9 = 10 ^ q * 10 ^ (9 - q) := by rw [← Nat.pow_add]; congr 1; omega
 rw [e, Nat.mod_mul_right_div_self, Nat.mod_mod_of_dvd]; obtain ⟨k, hk⟩ : ∃ k, 9 - q = k + 1 := ⟨8 - q, by omega⟩; rw [hk, Nat.pow_succ]; exact Nat.dvd_mul_left _ _
set_option maxRecDepth 100000 in
set_option maxHeartbeats 4000000 in
theorem decimal_n (A : Option Addr) (k c n : Nat) (w : World) (hx : Nb w A k c n) (hk : k ≤ 64) :
  Calls Tryz.prog 42 #[.slice A k c] w fun e w' => e = .returned (.string (Nm.decS n)) ∧ Below w.heap.size w w' := by
 have HLT : Hid (n < Nm.B ^ 64) := Nat.lt_of_lt_of_le hx.lt (Nat.pow_le_pow_right Nm.B_pos hk)
 go_enter Tryz.func42, Tryz.ntmps42
 go_upto_region 2 with fail; refine wp_name ?_; intro w1 HW1; have hb1 : Below w.heap.size w w1 := by rw [HW1.out]; exact bA _ _
 have hD : Blk w1 w.heap.size 93 Tryz.zeroCells93 := by rw [HW1.out]; exact Blk.new _ _ _
 have hDG : DG Tryz.zeroCells93 0 n := DG.zero (by kernel_rfl); have hNU := noU_zero; obtain ⟨D0, HD0⟩ : ∃ D, Hid (D = Tryz.zeroCells93) := ⟨_, rfl⟩; rw [← HD0.out] at hD hDG hNU; obtain ⟨gD, hgD⟩ : ∃ g, Hid (g = w.heap.size) := ⟨_, rfl⟩; have hge : w.heap.size ≤ gD := by have := hgD.out; omega
 rw [← hgD.out] at hD ⊢; have hx1 := hx.below hb1; clear HW1 hx HD0 hgD; go_wp2_with fail
 go_loopg [0, 4] 69 (fun j x y wr => ∃ (ch a : Nat) (A : Option Addr) (k c : Nat) (D : Array Value), x = .slice A k c ∧ y = .int .i64 (a : Int) ∧ a + 9 * ch = 626 ∧ ch + j = 69 ∧ k ≤ 64 ∧ Nb wr A k c (n / 10 ^ (9 * ch)) ∧ Blk wr gD 93 D ∧ DG D (9 * ch) n ∧ NoU D ∧ Below w.heap.size w wr)
 case atStart => exact ⟨0, 626, A, k, c, D0, rfl, rfl, rfl, rfl, hk, by rw [Nat.mul_zero, Nat.pow_zero, Nat.div_one]; exact hx1, hD, hDG, hNU, hb1⟩
 case round =>
  obtain ⟨G, hG⟩ : ∃ G, G = gk := ⟨gk, rfl⟩; subst hG; clear hx1 hD hDG hNU hb1 hk; obtain ⟨ch, a, A1, k1, c1, D, rfl, rfl, ha, hch, hk1, hx, hD, hDG, hNU, hbe⟩ := hrel; obtain ⟨wo, hwo⟩ : ∃ wo, wo = wr := ⟨_, rfl⟩; subst hwo; by_cases h0 : 0 < k1
  ·have t1 : decide ((0 : Int) < (k1 : Int)) = true := by simp; omega
   have hch2 : ch ≤ 68 := Nm.pow_chunk HLT.out (by
    intro e; have := hx.1; rw [e, Nm.lb_zero] at this; simp at this
    omega)
   obtain ⟨m, HM⟩ : ∃ m, Hid (m = n / 10 ^ (9 * ch)) := ⟨_, rfl⟩; rw [← HM.out] at hx; have HSM := Lib.hid (small_k A1 c1 1000000000 k1 (Nm.lb m) wo hx.2 hx.1 (by omega) (by omega) (by omega)); have hltD := hD.lt; go_wp2_with fail; refine HSM.out.mono ?_; rintro e w2 ⟨A2, k2, r, rfl, hr, HR, hl, hb2⟩; have HR1 : Hid (r = m % 10 ^ 9) := by show _ = _; rw [HR.out.1, Nm.nv_lb]
   have hx2 : Nb w2 A2 k2 k2 (n / 10 ^ (9 * (ch + 1))) := by
    have e : n / 10 ^ (9 * (ch + 1)) = m / 1000000000 := by
     rw [HM.out, Nat.div_div_eq_div_mul, Nat.mul_add, Nat.pow_add]
    have h1 := HR.out.2; rw [Nm.nv_lb] at h1; rw [Nm.nv_lb] at hl; rw [e]; exact ⟨h1, hl⟩
   have hk2 : k2 ≤ 64 := by
    have h1 : k2 = (Nm.lb (m / 1000000000)).length := by have h1 := HR.out.2; rwa [Nm.nv_lb] at h1
    have h2 := Nm.lb_length_le_of_lt (Nat.div_le_self m 1000000000); have := hx.1; omega
   have hD2 := hD.below hb2 hltD; have hbe2 := hbe.trans (hb2.mono hbe.size); clear HSM HR hl hb2 hx hD hbe hltD; go_wp2_with fail
   go_loopg [4, 5, 15] 9 (fun j y p i wx => ∃ (q a2 pv : Nat) (D : Array Value), i = .int .i64 q ∧ q + j = 9 ∧ y = .int .i64 (a2 : Int) ∧ a2 + q = a ∧ p = .int .u32 (pv : Int) ∧ Hid (pv = r / 10 ^ q) ∧ Nb wx A2 k2 k2 (n / 10 ^ (9 * (ch + 1))) ∧ Blk wx gD 93 D ∧ DG D (9 * ch + q) n ∧ NoU D ∧ Below w.heap.size w wx)
   case atStart => exact ⟨0, a, r, D, rfl, rfl, rfl, rfl, rfl, by show _ = _; rw [Nat.pow_zero, Nat.div_one], hx2, hD2, hDG, hNU, hbe2⟩
   case round =>
    obtain ⟨G2, hG2⟩ : ∃ G, G = gk := ⟨gk, rfl⟩; subst hG2; clear hx2 hD2 hDG hNU hbe2; obtain ⟨q, a2, pv, D, rfl, hq, rfl, ha2, rfl, HPV, hx, hD, hDG, hNU, hbe⟩ := hrel; obtain ⟨wx, hwx⟩ : ∃ wx, wx = wr := ⟨_, rfl⟩; subst hwx; by_cases hq9 : q < 9
    ·have t2 : decide ((q : Int) < 9) = true := by simp; omega
     obtain ⟨a3, HA3⟩ : ∃ z, Hid (z = a2 - 1) := ⟨_, rfl⟩; obtain ⟨dg, HDG⟩ : ∃ z, Hid (z = pv % 10) := ⟨_, rfl⟩; obtain ⟨pn, HPN⟩ : ∃ z, Hid (z = pv / 10) := ⟨_, rfl⟩; have hpv : pv < 1000000000 := by rw [HPV.out]; exact Nat.lt_of_le_of_lt (Nat.div_le_self _ _) hr
     have hdg : dg < 10 := by rw [HDG.out]; exact Nat.mod_lt _ (by omega)
     have s1 : IntKind.i64.wrap ((a2 : Int) - 1) = (a3 : Int) := by rw [IntWalk.i64_in _ (by omega)]; have := HA3.out; omega
     have s2 : (pv : Int) % 10 = (dg : Int) := by rw [HDG.out]; omega
     have s3 : (pv : Int).tmod 10 = (dg : Int) := by rw [HDG.out]; rfl
     have s4 : (pv : Int) / 10 = (pn : Int) := by rw [HPN.out]; omega
     have s5 : (pv : Int).tdiv 10 = (pn : Int) := by rw [HPN.out]; rfl
     have s8 : (pn : Int) % 4294967296 = (pn : Int) := by have := HPN.out; omega
     have s6 : IntKind.u32.wrap (48 + (dg : Int)) = 48 + (dg : Int) := by rw [IntWalk.u32_in _ (by omega)]
     have s7 : IntKind.u8.wrap (48 + (dg : Int)) = 48 + (dg : Int) := by rw [IntWalk.u8_in _ (by omega)]
     have ha3 : a3 < 626 := by have := HA3.out; omega
     have ha3' : (a3 : Int) < 626 := by omega
     have hat : a3 = 625 - (9 * ch + q) := by have := HA3.out; omega
     have z0 := hD.frozen a3; obtain ⟨v0, hv0⟩ : ∃ v, D[a3]? = some v := ⟨D[a3]'(by rw [hDG.1]; exact ha3), Array.getElem?_eq_getElem _⟩; have z1 := hD.cell a3; rw [hv0] at z1
     have hval : (48 : Int) + (dg : Int) = ((48 + n / 10 ^ (9 * ch + q) % 10 : Nat) : Int) := by
      have h1 : dg = n / 10 ^ (9 * ch + q) % 10 := by
       rw [HDG.out, HPV.out, HR1.out, digit_eq hq9, HM.out, Nat.div_div_eq_div_mul, ← Nat.pow_add]
      rw [h1]; push_cast; rfl
     have hD3 := hD.set_ a3 (.int .u8 (48 + (dg : Int))); have hDG3 := hDG.step (v := .int .u8 (48 + (dg : Int))) (by omega) (by rw [hval]); rw [← hat] at hDG3; have hNU3 := hNU.set8 a3 (48 + (dg : Int)); have hx3 : Nb (wx.setCell ⟨gD, a3, none⟩ (.int .u8 (48 + (dg : Int)))) A2 k2 k2 (n / 10 ^ (9 * (ch + 1))) := ⟨hx.1, hx.2.setB hD hNU _⟩; have hbe3 := hbe.setCell (p := ⟨gD, a3, none⟩) hge (.int .u8 (48 + (dg : Int))); have HPN2 : Hid (pn = r / 10 ^ (q + 1)) := by show _ = _; rw [HPN.out, HPV.out, Nat.div_div_eq_div_mul, Nat.pow_succ]
     clear hx hD hDG hNU hbe hval hat HPN HDG HPV hpv; go_wp2_with fail
     go_roundg (G2 - 1)
     case measure => omega
     case rel => exact ⟨q + 1, a3, pn, _, by go_num, by omega, rfl, by have := HA3.out; omega, rfl, HPN2, hx3, hD3, hDG3, hNU3, hbe3⟩
    ·have t2 : decide ((q : Int) < 9) = false := by simp; omega
     have hq8 : q = 9 := by omega
     subst hq8; go_wp2_with fail
     go_roundg (G - 1)
     case measure => omega
     case rel => exact ⟨ch + 1, a2, A2, k2, k2, D, rfl, rfl, by omega, by omega, hk2, hx, hD, hDG, hNU, hbe⟩
  ·have t1 : decide ((0 : Int) < (k1 : Int)) = false := by simp; omega
   have hk0 : k1 = 0 := by omega
   subst hk0
   have hz : n / 10 ^ (9 * ch) = 0 := by
    have h1 := hx.1; have h2 := List.eq_nil_of_length_eq_zero h1.symm
    rwa [Nm.lb_nil_iff] at h2
   obtain ⟨m, HMm⟩ : ∃ m, Hid (m = 9 * ch) := ⟨_, rfl⟩; rw [← HMm.out] at hDG hz ha
   have hlt : n < 10 ^ m := by
    rcases Nat.lt_or_ge n (10 ^ m) with h1 | h1
    ·exact h1
    ·have := Nat.div_pos h1 (Nat.pow_pos (by omega)); omega
   have hlen : (padB m n).length = 626 - a := by rw [padB_len]; omega
   have hcell : ∀ j (hj : j < (padB m n).length), wo.cell? (Addr.add ⟨gD, a, none⟩ j) = some (.int .u8 (((padB m n)[j]).toNat : Int)) := by
    intro j hj; have hj2 : j < m := by rw [padB_len] at hj; exact hj
    have h1 := hDG.2 (m - 1 - j) (by omega); have h2 := hD.cell (a + j); rw [show 625 - (m - 1 - j) = a + j by omega] at h1; rw [h1] at h2; rw [padB_get hj2 hj, ← h2]; unfold Addr.add; by_cases e : j = 0
    ·subst e; rfl
    ·rw [if_neg e]
   have hback := run_convert_bytes_back (P := Tryz.prog) wo 23 9 5 ⟨gD, a, none⟩ (626 - a) (padB m n) Tryz.underlying23 Tryz.underlying5 Tryz.underlying9 hcell; rw [hlen] at hback; obtain ⟨S, HS⟩ : ∃ s : ByteArray, Hid (s = ⟨(padB m n).toArray⟩) := ⟨_, rfl⟩; rw [← HS.out] at hback; have hTL := trimL_n S wo; have hST : S.data.toList = padB m n := by rw [HS.out]
   rw [hST] at hTL; obtain ⟨S2, HS2⟩ : ∃ s : ByteArray, Hid (s = ⟨(Lib.trimLeftB (padB m n) 48).toArray⟩) := ⟨_, rfl⟩; rw [← HS2.out] at hTL; have HTL := Lib.hid hTL; have ha1 : (a : Int) ≤ 626 := by omega
   have ha2 : a ≤ 626 := by omega
   have hne0 : ¬ (a = 0) := by
    intro e; have : ch ≤ 69 := by omega
    have := HMm.out; omega
   clear hDG hNU hcell hlen hST hTL hx
   have hR : (n = 0 ∧ S2.toList.isEmpty = true) ∨ (0 < n ∧ S2.toList.isEmpty = false ∧ S2 = Nm.decS n) := by
    rcases Nat.eq_zero_or_pos n with h1 | h1
    ·left
     refine ⟨h1, ?_⟩; rw [HS2.out, h1, trim_zero, ByteArray.toList_eq]; rfl
    ·right
     have e : S2 = Nm.decS n := by rw [HS2.out]; exact trim_pad m n hlt h1
     exact ⟨h1, by rw [e]; exact decS_ne n, e⟩
   by_cases h626 : 626 = a
   ·have hback2 := run_convert_bytes_back (P := Tryz.prog) wo 23 9 5 ⟨gD, 0, none⟩ 0 (padB m n) Tryz.underlying23 Tryz.underlying5 Tryz.underlying9 (fun j hj => by rw [padB_len] at hj; omega); rw [padB_len, ← HS.out, show m = 0 by omega] at hback2; clear hback
    rcases hR with ⟨h1, h2⟩ | ⟨h1, h2, h3⟩
    ·have HR : Hid (Nm.decS n = { data := #[48] }) := by show _ = _; rw [h1]; rfl
     clear h1 hlt hz; go_wp2_with fail; refine HTL.out.mono ?_; rintro e w' ⟨rfl, rfl⟩; go_wp2_with fail; go_ret; exact ⟨by rw [HR.out]; rfl, hbe⟩
    ·have HR : Hid (Nm.decS n = S2) := h3.symm; clear h1 hlt hz h3; go_wp2_with fail; refine HTL.out.mono ?_; rintro e w' ⟨rfl, rfl⟩; go_wp2_with fail; go_ret; exact ⟨by rw [HR.out]; rfl, hbe⟩
   ·rcases hR with ⟨h1, h2⟩ | ⟨h1, h2, h3⟩
    ·have HR : Hid (Nm.decS n = { data := #[48] }) := by show _ = _; rw [h1]; rfl
     clear h1 hlt hz; go_wp2_with fail; refine HTL.out.mono ?_; rintro e w' ⟨rfl, rfl⟩; go_wp2_with fail; go_ret; exact ⟨by rw [HR.out]; rfl, hbe⟩
    ·have HR : Hid (Nm.decS n = S2) := h3.symm; clear h1 hlt hz h3; go_wp2_with fail; refine HTL.out.mono ?_; rintro e w' ⟨rfl, rfl⟩; go_wp2_with fail; go_ret; exact ⟨by rw [HR.out]; rfl, hbe⟩
end Go.Proofs.YtmbfjmilhfmnkaaGreatDoor
namespace Go.Proofs.YtmbfjmilhfmnkaaGreatDoor
open Go Go.RowKit
def boolC (b : Bool) : List Value := [.bool b]
theorem boolC_len (b : Bool) : (boolC b).length = 1 := rfl
theorem RowS.bool {w : World} {A : Option Addr} {k : Nat} {l : List Bool} (h : RowS boolC w A k l) {i : Nat} (hi : i < k) : ∃ b off x, A = some ⟨b, off, none⟩ ∧ w.cell? ⟨b, off + i, none⟩ = some (.bool x) ∧ Hid (l[i]? = some x) := by
 have hil : i < l.length := by have := h.2.1; omega
 obtain ⟨b, off, hA, hc⟩ := h.at_ boolC_len (by omega) hi hil; refine ⟨b, off, l[i], hA, ?_, List.getElem?_eq_getElem hil⟩; have := hc.out 0 _ rfl
 rwa [Nat.mul_one, Nat.add_zero] at this
/-- the capitals after the first one -/
noncomputable def capsFrom (b : LP) (rows : List (List LP)) : Nat → Nat → LP → List Bool → List LP
 | _, _, _, [] => []
 | n, k, c, x :: xs => mulV c (factorV b rows n k x) :: capsFrom b rows (n + 1) (if x then k + 1 else k) (mulV c (factorV b rows n k x)) xs
noncomputable def capsV (b : LP) (rows : List (List LP)) (bad : List Bool) : List LP := oneP :: capsFrom b rows 0 0 oneP bad
noncomputable def capE (b : LP) (rows : List (List LP)) (bad : List Bool) : Int := if planE b rows ≠ 0 then planE b rows else if 256 < bad.length then 4 else 0
noncomputable def capX (b : LP) (rows : List (List LP)) (bad : List Bool) : List LP := if planE b rows ≠ 0 then [] else if 256 < bad.length then [] else capsV b rows bad
theorem capsFrom_drop {b : LP} {rows : List (List LP)} {i k : Nat} {c : LP} {bad : List Bool} {x : Bool} (h : bad[i]? = some x) : capsFrom b rows i k c (bad.drop i) = mulV c (factorV b rows i k x) :: capsFrom b rows (i + 1) (if x then k + 1 else k) (mulV c (factorV b rows i k x)) (bad.drop (i + 1)) := by
 obtain ⟨h1, h2⟩ := List.getElem?_eq_some_iff.1 h; rw [List.drop_eq_getElem_cons h1, h2]; rfl
theorem planE_zero {b : LP} {rows : List (List LP)} (h : planE b rows = 0) : rows.length ≤ 16 ∧ partB b = true ∧ badFrom b 0 rows = false := by
 unfold planE at h
 split at h
 ·cases h
 ·split at h
  ·cases h
  ·split at h
   ·cases h
   ·rename_i h1 h2 h3
    exact ⟨by omega, by simpa using h2, by simpa using h3⟩
theorem badFrom_row {b : LP} : ∀ {rows : List (List LP)} {m n : Nat} {r : List LP}, badFrom b m rows = false → rows[n]? = some r → r.length = m + n + 1 ∧ ∀ s ∈ r, wrongB b s = false
 | [], m, n, r, _, hr => by simp at hr
 | x :: rs, m, n, r, h, hr => by
  unfold badFrom at h; simp only [Bool.or_eq_false_iff] at h
  rcases n with _ | n
  ·simp only [List.getElem?_cons_zero, Option.some.injEq] at hr; subst hr; have h1 := h.1; unfold rowBad at h1; simp only [Bool.or_eq_false_iff, decide_eq_false_iff_not, Decidable.not_not] at h1; refine ⟨by omega, fun s hs => ?_⟩; have := h1.2; rw [List.any_eq_false] at this
   simpa using this s hs
  ·simp only [List.getElem?_cons_succ] at hr; obtain ⟨h1, h2⟩ := badFrom_row h.2 hr; exact ⟨by omega, h2⟩
theorem plan_row {b : LP} {rows : List (List LP)} (h : planE b rows = 0) {n : Nat} {r : List LP} (hr : rows[n]? = some r) : r.length = n + 1 := by
 have := (badFrom_row (planE_zero h).2.2 hr).1; omega
def PhiCa (bo oo n co i kk : Nat) (bb : Bool) (v1 v2 x1 x2 : Value) (S : Option Addr) (kS cS : Nat) (f y : LP) (vs : Nat → Value) (j : Nat) (w : World) (x : Value) : Prop :=
 match j with
 | 0 => x = .slice (some ⟨bo, oo, none⟩) n co
 | 1 => x = .slice (some ⟨bo, oo, none⟩) n co
 | 2 => x = .int .i64 (i : Nat)
 | 3 => x = .pointer (some ⟨bo, oo + i * 2, none⟩)
 | 4 => x = .agg #[v1, v2]
 | 5 => x = .agg #[x1, x2, .slice S kS cS]
 | 6 => x = .int .i64 (i : Nat)
 | 7 => x = .int .i64 (kk : Nat)
 | 8 => x = .bool bb
 | 9 => RtP w x f
 | 10 => ∃ v er, x = .tuple #[v, .int .i64 er] ∧ RtP w v y
 | 11 => RtP w x y
 | 12 => ∃ er : Int, x = .int .i64 er
 | 13 => RtP w x y
 | 14 => ∃ g u1 u2, x = .slice (some ⟨g, 0, none⟩) 1 1 ∧ Rd w (some ⟨g, 0, none⟩) [u1, u2] ∧ RtP w (.agg #[u1, u2]) y
 | _ => True
theorem PhiCa.keepR {bo oo n co i kk : Nat} {bb : Bool} {v1 v2 x1 x2 : Value} {S : Option Addr} {kS cS : Nat} {f y : LP} : ∀ vs (w w' : World), Below w.heap.size w w' → ∀ j x, PhiCa bo oo n co i kk bb v1 v2 x1 x2 S kS cS f y vs j w x → PhiCa bo oo n co i kk bb v1 v2 x1 x2 S kS cS f y vs j w' x := by
 intro vs w w' hb j x h; unfold PhiCa at h ⊢
 split <;> simp only at h ⊢
 all_goals first
  | exact h
  | exact h.below hb
  | (obtain ⟨v, er, e, h⟩ := h; exact ⟨v, er, e, h.below hb⟩)
  | (obtain ⟨g, u1, u2, e, h1, h2⟩ := h; exact ⟨g, u1, u2, e, h1.below hb, h2.below hb⟩)
theorem PhiCa.keepF {bo oo n co i kk : Nat} {bb : Bool} {v1 v2 x1 x2 : Value} {S : Option Addr} {kS cS : Nat} {f y : LP} : ∀ vs (w w' : World) j x, ([] : List Nat).contains j = true → PhiCa bo oo n co i kk bb v1 v2 x1 x2 S kS cS f y vs j w x → PhiCa bo oo n co i kk bb v1 v2 x1 x2 S kS cS f y vs j w' x := by
 intro vs w w' j x hf
 cases hf
def SCa (base : Nat) (w2 wr : World) (X : List LP) : List Value → (Nat → Value) → World → Prop
 | [], _, W => Below wr.heap.size wr W
 | [v], _, W => RatOwn W base v X ∧ Below base w2 W
 | [v, u], _, W => u = v ∧ RatOwn W base v X ∧ Below base w2 W
 | _, _, _ => True
end Go.Proofs.YtmbfjmilhfmnkaaGreatDoor
namespace Go.Proofs.YtmbfjmilhfmnkaaGreatDoor
open Go Go.RowKit
theorem good_smb {s : LP} (hk : okP s) (h : smallB s = true) : ∃ p q, s = ratP p q ∧ Nm.Good p q := valid_good hk (smallB_and h).1
theorem mulV_rat {pa qa pb qb : Nat} (ga : Nm.Good pa qa) (gb : Nm.Good pb qb) : mulV (ratP pa qa) (ratP pb qb) = (resP (pa * pb) (qa * qb)).2 := by unfold mulV mulF; rw [binF_rat ga gb]
theorem addV_rat {pa qa pb qb : Nat} (ga : Nm.Good pa qa) (gb : Nm.Good pb qb) : addV (ratP pa qa) (ratP pb qb) = (resP (pa * qb + pb * qa) (qa * qb)).2 := by unfold addV addF; rw [binF_rat ga gb]
theorem subV_rat {pa qa pb qb : Nat} (ga : Nm.Good pa qa) (gb : Nm.Good pb qb) (h : pb * qa ≤ pa * qb) : subV (ratP pa qa) (ratP pb qb) = (resP (pa * qb - pb * qa) (qa * qb)).2 := by
 unfold subV subF; rw [binF_rat ga gb]; dsimp only; rw [if_neg (by omega)]
theorem fits01 : Nm.Fits 0 1 := g01.3
theorem resP_zero {d : Nat} (hd : 0 < d) : (resP 0 d).2 = nilP := by
 unfold resP; rw [Nat.gcd_zero_left, Nat.zero_div, Nat.div_self hd, if_pos fits01]; exact nil_ratP
theorem resP_one : (resP 1 1).2 = oneP := by
 unfold resP; rw [Nat.gcd_self, Nat.div_self (by omega), if_pos Good_one.3]; rfl
theorem mulV_nil {z : LP} (hz : okP z) (hv : validP z = 0) : mulV nilP z = nilP := by
 obtain ⟨p, q, rfl, g⟩ := valid_good hz hv; rw [← nil_ratP, mulV_rat g01 g, Nat.zero_mul]; rw [resP_zero (Nat.mul_pos (by omega) g.1), nil_ratP]
theorem okP_lb {p q : Nat} : okP (ratP p q) := ⟨Nm.lim_lb _, Nm.lim_lb _⟩
theorem okP_nil : okP nilP := by rw [← nil_ratP]; exact okP_lb
theorem resP_ok (n d : Nat) : okP (resP n d).2 := by
 unfold resP
 split
 ·exact okP_lb
 ·exact okP_nil
theorem binF_ok {f : Nat × Nat → Nat × Nat → Int × LP} (hf : ∀ x y, okP (f x y).2) (a b : LP) : okP (binF f a b).2 := by
 unfold binF
 split
 ·exact okP_nil
 ·exact hf _ _
theorem mulV_ok (a b : LP) : okP (mulV a b) := binF_ok (fun _ _ => resP_ok _ _) a b
theorem addV_ok (a b : LP) : okP (addV a b) := binF_ok (fun _ _ => resP_ok _ _) a b
theorem subV_ok (a b : LP) : okP (subV a b) := binF_ok (fun x y => by show okP (if _ then _ else _ : Int × LP).2; split; exact okP_nil; exact resP_ok _ _) a b
theorem stakeF_nil {b : LP} (hb : okP b) (hv : validP b = 0) (bad : Bool) : stakeF b nilP bad = oneP := by
 unfold stakeF
 cases bad
 ·rw [if_neg (by simp), mulV_nil hb hv, ← nil_ratP]; unfold oneP; rw [subV_rat Good_one g01 (by omega)]; exact resP_one
 ·rw [if_pos rfl, mulV_nil (z := subV oneP b) (subV_ok _ _) (subV_valid (a := oneP) okP_lb hb), ← nil_ratP]; unfold oneP; rw [addV_rat Good_one g01]; exact resP_one
theorem partB_valid {b : LP} (h : partB b = true) : validP b = 0 := by
 unfold partB at h; exact (smallB_and (Bool.and_eq_true_iff.1 h).1).1
theorem stake_factor {b : LP} {rows : List (List LP)} (hb : okP b) (h : planE b rows = 0) {n k : Nat} (hk : k ≤ n) (bad : Bool) : stakeF b (stakeV rows n k) bad = factorV b rows n k bad := by
 have hv := partB_valid (planE_zero h).2.1; unfold stakeV factorV
 cases hr : rows[n]? with
 | none => exact stakeF_nil hb hv bad
 | some r =>
  have hl := plan_row h hr
  dsimp only
  rw [List.getElem?_eq_getElem (show k < r.length by omega)]
theorem RatOwn.set {w : World} {base g : Nat} {v : Value} {X : List LP} (h : RatOwn w base v X) (hs : Sl w g) (hg : g < base) (A : Option Addr) (k c : Nat) (A' : Option Addr) (k' c' : Nat) : RatOwn ((w.setCell ⟨g, 0, none⟩ (.slice A k c)).setCell ⟨g, 1, none⟩ (.slice A' k' c')) base v X := by
 have hrt := RT.store (N := g) hs (Nat.le_refl _) A k c A' k' c'; obtain ⟨ps, h1, h2, h3, h4⟩ := h; refine ⟨ps, own_set (own_set h1 hg _) hg _, h2, ?_, fun i p x e1 e2 => (h4 i p x e1 e2).mapL hrt.lim⟩; intro g' hg' i x hx; have hge := own_block_ge h1 _ hg'; rw [World.cell?_of_block (Below.heap_setCell _ ⟨g, 1, none⟩ _ g' (by show g' ≠ g; omega)), World.cell?_of_block (Below.heap_setCell _ ⟨g, 0, none⟩ _ g' (by show g' ≠ g; omega))] at hx; exact h3 g' hg' i x hx
def PhiCr (g gs : Nat) (bo oo kB cB i kk : Nat) (bb : Bool) (v1 v2 x1 x2 : Value) (S : Option Addr) (kS cS : Nat) (s f y : LP) (vs : Nat → Value) (j : Nat) (w : World) (x : Value) : Prop :=
 match j with
 | 0 => x = .agg #[v1, v2]
 | 1 => x = .agg #[x1, x2, .slice S kS cS]
 | 2 => x = .int .i64 (i : Nat)
 | 3 => x = .int .i64 (kk : Nat)
 | 4 => RtP w x s
 | 5 => x = .pointer (some ⟨g, 0, none⟩)
 | 6 => x = .agg #[x1, x2]
 | 7 => x = .slice (some ⟨bo, oo, none⟩) kB cB
 | 8 => x = .int .i64 (i : Nat)
 | 9 => x = .pointer (some ⟨bo, oo + i, none⟩)
 | 10 => x = .bool bb
 | 11 => RtP w x f
 | 12 => RtP w x y
 | _ => True
theorem PhiCr.keepR {g gs : Nat} {bo oo kB cB i kk : Nat} {bb : Bool} {v1 v2 x1 x2 : Value} {S : Option Addr} {kS cS : Nat} {s f y : LP} : ∀ vs (w w' : World), Below w.heap.size w w' → ∀ j x, PhiCr g gs bo oo kB cB i kk bb v1 v2 x1 x2 S kS cS s f y vs j w x → PhiCr g gs bo oo kB cB i kk bb v1 v2 x1 x2 S kS cS s f y vs j w' x := by
 intro vs w w' hb j x h; unfold PhiCr at h ⊢
 split <;> simp only at h ⊢
 all_goals first
  | exact h
  | exact h.below hb
theorem PhiCr.keepF {g gs : Nat} {bo oo kB cB i kk : Nat} {bb : Bool} {v1 v2 x1 x2 : Value} {S : Option Addr} {kS cS : Nat} {s f y : LP} : ∀ vs (w w' : World) j x, ([] : List Nat).contains j = true → PhiCr g gs bo oo kB cB i kk bb v1 v2 x1 x2 S kS cS s f y vs j w x → PhiCr g gs bo oo kB cB i kk bb v1 v2 x1 x2 S kS cS s f y vs j w' x := by
 intro vs w w' j x hf
 cases hf
def SCr (base g4 gC : Nat) (w2 wr : World) (v : Value) (X : List LP) (y : LP) : List Value → (Nat → Value) → World → Prop
 | [], _, W => Below wr.heap.size wr W
 | [_], _, W => GoodX W gC y ∧ RatOwn W g4 v X ∧ Below base w2 W ∧ g4 ≤ W.heap.size
 | _, _, _ => True
end Go.Proofs.YtmbfjmilhfmnkaaGreatDoor
