import Derived.Test.YtijkfagkbfbpmaaGreatDoorKByProof25
import Derived.Test.YtijkfagkbfbpmaaGreatDoorKByProof14
import Derived.Test.YtijkfagkbfbpmaaGreatDoorKByProof26
import Derived.Laws.IdiomStrings
import Derived.Test.YtijkfagkbfbpmaaGreatDoorKByProof04
import Derived.Test.YtijkfagkbfbpmaaGreatDoorKByProof09
import Derived.Test.YtijkfagkbfbpmaaGreatDoorKByProof17
import Derived.Test.YtijkfagkbfbpmaaGreatDoorS0
set_option linter.unusedVariables false
set_option linter.unusedSimpArgs false
namespace Go.Proofs.YtijkfagkbfbpmaaGreatDoor
open Go Go.RowKit
theorem Nm.padD_get : ∀ (k n j : Nat), j < k → (Nm.padD k n)[j]? = some (n / 10 ^ (k - 1 - j) % 10)
 | 0, _, _, h => absurd h (by omega)
 | k + 1, n, 0, _ => by rw [Nm.padD_cons]; rfl
 | k + 1, n, j + 1, h => by
  rw [Nm.padD_cons, List.getElem?_cons_succ, Nm.padD_get k n j (by omega)]; rw [show k - 1 - j = k + 1 - 1 - (j + 1) by omega]
/-- the block of digits, the last t of which stand -/
def DGd (D : Array Value) (t n : Nat) : Prop := D.size = 626 ∧ ∀ j, j < t → D[625 - j]? = some (.int .u8 ((48 + n / 10 ^ j % 10 : Nat) : Int))
theorem DGd.zero {D : Array Value} {n : Nat} (h : D.size = 626) : DGd D 0 n := ⟨h, fun j hj => absurd hj (by omega)⟩
theorem DGd.step {D : Array Value} {t n : Nat} (h : DGd D t n) (ht : t < 626) {v : Value} (hv : v = .int .u8 ((48 + n / 10 ^ t % 10 : Nat) : Int)) : DGd (D.setIfInBounds (625 - t) v) (t + 1) n := by
 refine ⟨by rw [Array.size_setIfInBounds]; exact h.1, fun j hj => ?_⟩; have hs := h.1; by_cases e : j = t
 ·subst e; rw [Array.getElem?_setIfInBounds_self_of_lt (by omega), hv]
 ·rw [Array.getElem?_setIfInBounds_ne (by omega)]; exact h.2 j (by omega)
/-- the digits as bytes, the greatest first -/
def padB (t n : Nat) : List UInt8 := (Nm.padD t n).map fun d => UInt8.ofNat (48 + d)
theorem padB_len (t n : Nat) : (padB t n).length = t := by unfold padB; rw [List.length_map, Nm.padD_len]
theorem padB_get {t n j : Nat} (h : j < t) (hj : j < (padB t n).length) : ((padB t n)[j]).toNat = 48 + n / 10 ^ (t - 1 - j) % 10 := by
 have h1 := Nm.padD_get t n j h
 have h2 : (padB t n)[j]? = some (UInt8.ofNat (48 + n / 10 ^ (t - 1 - j) % 10)) := by
  unfold padB; rw [List.getElem?_map, h1]; rfl
 rw [List.getElem?_eq_getElem hj] at h2; injection h2 with h2; rw [h2]; have : n / 10 ^ (t - 1 - j) % 10 < 10 := Nat.mod_lt _ (by omega); rw [UInt8.toNat_ofNat']; exact Nat.mod_eq_of_lt (by omega)
theorem drop_map : ∀ l : List Nat, (∀ d ∈ l, d < 10) → (l.map fun d => UInt8.ofNat (48 + d)).dropWhile (· == 48) = (l.dropWhile (· == 0)).map fun d => UInt8.ofNat (48 + d)
 | [], _ => rfl
 | d :: l, h => by
  have ih := drop_map l (fun x hx => h x (List.mem_cons_of_mem _ hx)); have hd := h d List.mem_cons_self; rw [List.map_cons]; by_cases e : d = 0
  ·subst e; have e1 : ∀ t : List UInt8, (UInt8.ofNat (48 + 0) :: t).dropWhile (· == 48) = t.dropWhile (· == 48) := fun t => List.dropWhile_cons_of_pos rfl
   have e2 : ∀ t : List Nat, (0 :: t).dropWhile (· == 0) = t.dropWhile (· == 0) := fun t => List.dropWhile_cons_of_pos rfl
   rw [e1, e2, ih]
  ·have hne : (UInt8.ofNat (48 + d) == 48) = false := by
    have h1 : (UInt8.ofNat (48 + d)).toNat = 48 + d := by rw [UInt8.toNat_ofNat']; exact Nat.mod_eq_of_lt (by omega)
    rw [beq_eq_false_iff_ne]; intro h2; rw [h2] at h1; have : (48 : UInt8).toNat = 48 := rfl; omega
   have e1 : ∀ t : List UInt8, (UInt8.ofNat (48 + d) :: t).dropWhile (· == 48) = UInt8.ofNat (48 + d) :: t := fun t => List.dropWhile_cons_of_neg (by rw [hne]; decide)
   have e2 : ∀ t : List Nat, (d :: t).dropWhile (· == 0) = d :: t := fun t => List.dropWhile_cons_of_neg (by simpa using e)
   rw [e1, e2, List.map_cons]
/-- the digits without leading noughts -/
theorem trim_pad (t n : Nat) (h : n < 10 ^ t) (h0 : 0 < n) : (⟨(Lib.trimLeftB (padB t n) 48).toArray⟩ : ByteArray) = Nm.decS n := by
 unfold Lib.trimLeftB padB Nm.decS; rw [drop_map _ (Nm.padD_lt t n), Nm.pad_dec t n h h0]
theorem trim_zero (t : Nat) : (⟨(Lib.trimLeftB (padB t 0) 48).toArray⟩ : ByteArray) = ⟨#[]⟩ := by
 unfold Lib.trimLeftB padB; rw [drop_map _ (Nm.padD_lt t 0), Nm.pad_zero]; rfl
theorem decS_ne (n : Nat) : (Nm.decS n).toList.isEmpty = false := by
 rw [ByteArray.toList_eq]; unfold Nm.decS; have h := Nm.decD_ne n
 cases hl : Nm.decD n with
 | nil => exact absurd hl h
 | cons a l => simp
set_option maxRecDepth 100000 in
set_option maxHeartbeats 1000000 in
theorem trimL_n (s : ByteArray) (w : World) : Calls Tryz.prog 159 #[.string s, .string { data := #[48] }] w fun e w' => e = .returned (.string ⟨(Lib.trimLeftB s.data.toList 48).toArray⟩) ∧ w' = w := by
 by_cases h0 : s.toList.isEmpty = true
 ·have h1 : s.data.toList = [] := by
   rw [ByteArray.toList_eq] at h0
   simpa using h0
  rw [h1]
  have h2 : s = { data := #[] } := by
   apply ByteArray.ext
   apply Array.toList_inj.1
   exact h1
  go_enter Tryz.func159, Tryz.ntmps159
  go_wp2_with fail; go_ret; exact ⟨by rw [h2]; rfl, rfl⟩
 ·have t1 : s.toList.isEmpty = false := by simpa using h0
  go_enter Tryz.func159, Tryz.ntmps159
  go_wp2_with fail; refine (Tryz.strings_trimLeftByte s 48 w).mono ?_; rintro e w' ⟨rfl, rfl⟩; go_wp2_with fail; go_ret; exact ⟨rfl, rfl⟩
end Go.Proofs.YtijkfagkbfbpmaaGreatDoor
namespace Go.Proofs.YtijkfagkbfbpmaaGreatDoor
open Go Go.RowKit
theorem noU_zero : NoU Tryz.zeroCells184 := by
 have h : Tryz.zeroCells184 = Array.replicate 626 (.int .u8 0) := by kernel_rfl
 intro i n; rw [h, Array.getElem?_replicate]
 split
 ·intro e; cases e
 ·intro e; cases e
theorem NoU.set8 {D : Array Value} (h : NoU D) (i : Nat) (x : Int) : NoU (D.setIfInBounds i (.int .u8 x)) := by
 intro j n; by_cases e : i = j
 ·subst e; rw [Array.getElem?_setIfInBounds_self]
  split
  ·intro e; cases e
  ·intro e; cases e
 ·rw [Array.getElem?_setIfInBounds_ne e]; exact h j n
theorem digit_eq {m q : Nat} (h : q < 9) : m % 10 ^ 9 / 10 ^ q % 10 = m / 10 ^ q % 10 := by
 have e : (10 : Nat) ^ 9 = 10 ^ q * 10 ^ (9 - q) := by rw [← Nat.pow_add]; congr 1; omega
 rw [e, Nat.mod_mul_right_div_self, Nat.mod_mod_of_dvd]; obtain ⟨k, hk⟩ : ∃ k, 9 - q = k + 1 := ⟨8 - q, by omega⟩; rw [hk, Nat.pow_succ]; exact Nat.dvd_mul_left _ _
set_option maxRecDepth 100000 in
set_option maxHeartbeats 4000000 in
theorem decimal_n (A : Option Addr) (k c n : Nat) (w : World) (hx : Nb w A k c n) (hk : k ≤ 64) :
  Calls Tryz.prog 124 #[.slice A k c] w fun e w' => e = .returned (.string (Nm.decS n)) ∧ Below w.heap.size w w' := by
 have HLT : Hid (n < Nm.B ^ 64) := Nat.lt_of_lt_of_le hx.lt (Nat.pow_le_pow_right Nm.B_pos hk)
 go_enter Tryz.func124, Tryz.ntmps124
 go_upto_region 2 with fail; refine wp_name ?_; intro w1 HW1; have hb1 : Below w.heap.size w w1 := by rw [HW1.out]; exact bA _ _
 have hD : Blk w1 w.heap.size 184 Tryz.zeroCells184 := by rw [HW1.out]; exact Blk.new _ _ _
 have hDG : DGd Tryz.zeroCells184 0 n := DGd.zero (by kernel_rfl); have hNU := noU_zero; obtain ⟨D0, HD0⟩ : ∃ D, Hid (D = Tryz.zeroCells184) := ⟨_, rfl⟩; rw [← HD0.out] at hD hDG hNU; obtain ⟨gD, hgD⟩ : ∃ g, Hid (g = w.heap.size) := ⟨_, rfl⟩; have hge : w.heap.size ≤ gD := by have := hgD.out; omega
 rw [← hgD.out] at hD ⊢; have hx1 := hx.below hb1; clear HW1 hx HD0 hgD; go_wp2_with fail
 go_loopg [0, 4] 69 (fun j x y wr => ∃ (ch a : Nat) (A : Option Addr) (k c : Nat) (D : Array Value), x = .slice A k c ∧ y = .int .i64 (a : Int) ∧ a + 9 * ch = 626 ∧ ch + j = 69 ∧ k ≤ 64 ∧ Nb wr A k c (n / 10 ^ (9 * ch)) ∧ Blk wr gD 184 D ∧ DGd D (9 * ch) n ∧ NoU D ∧ Below w.heap.size w wr)
 case atStart => exact ⟨0, 626, A, k, c, D0, rfl, rfl, rfl, rfl, hk, by rw [Nat.mul_zero, Nat.pow_zero, Nat.div_one]; exact hx1, hD, hDG, hNU, hb1⟩
 case round =>
  obtain ⟨G, hG⟩ : ∃ G, G = gk := ⟨gk, rfl⟩; subst hG; clear hx1 hD hDG hNU hb1 hk; obtain ⟨ch, a, A1, k1, c1, D, rfl, rfl, ha, hch, hk1, hx, hD, hDG, hNU, hbe⟩ := hrel; obtain ⟨wo, hwo⟩ : ∃ wo, wo = wr := ⟨_, rfl⟩; subst hwo; by_cases h0 : 0 < k1
  ·have t1 : decide ((0 : Int) < (k1 : Int)) = true := by simp; omega
   have hch2 : ch ≤ 68 := Nm.pow_chunk HLT.out (by
    intro e; have := hx.1; rw [e, Nm.lb_zero] at this; simp at this
    omega)
   obtain ⟨m, HM⟩ : ∃ m, Hid (m = n / 10 ^ (9 * ch)) := ⟨_, rfl⟩; rw [← HM.out] at hx; have HSM := Lib.hid (small_k A1 c1 1000000000 k1 (Nm.lb m) wo hx.2 hx.1 (by omega) (by omega) (by omega)); have hltD := hD.lt; go_wp2_with fail; refine HSM.out.mono ?_; rintro e w2 ⟨A2, k2, r, rfl, hr, HR, hl, hb2⟩; have HR1 : Hid (r = m % 10 ^ 9) := by show _ = _; rw [HR.out.1, Nm.nv_lb]
   have hx2 : Nb w2 A2 k2 k2 (n / 10 ^ (9 * (ch + 1))) := by
    have e : n / 10 ^ (9 * (ch + 1)) = m / 1000000000 := by
     rw [HM.out, Nat.div_div_eq_div_mul, Nat.mul_add, Nat.pow_add]
    have h1 := HR.out.2; rw [Nm.nv_lb] at h1; rw [Nm.nv_lb] at hl; rw [e]; exact ⟨h1, hl⟩
   have hk2 : k2 ≤ 64 := by
    have h1 : k2 = (Nm.lb (m / 1000000000)).length := by have h1 := HR.out.2; rwa [Nm.nv_lb] at h1
    have h2 := Nm.lb_length_le_of_lt (Nat.div_le_self m 1000000000); have := hx.1; omega
   have hD2 := hD.below hb2 hltD; have hbe2 := hbe.trans (hb2.mono hbe.size); clear HSM HR hl hb2 hx hD hbe hltD; go_wp2_with fail
   go_loopg [4, 5, 15] 9 (fun j y p i wx => ∃ (q a2 pv : Nat) (D : Array Value), i = .int .i64 q ∧ q + j = 9 ∧ y = .int .i64 (a2 : Int) ∧ a2 + q = a ∧ p = .int .u32 (pv : Int) ∧ Hid (pv = r / 10 ^ q) ∧ Nb wx A2 k2 k2 (n / 10 ^ (9 * (ch + 1))) ∧ Blk wx gD 184 D ∧ DGd D (9 * ch + q) n ∧ NoU D ∧ Below w.heap.size w wx)
   case atStart => exact ⟨0, a, r, D, rfl, rfl, rfl, rfl, rfl, by show _ = _; rw [Nat.pow_zero, Nat.div_one], hx2, hD2, hDG, hNU, hbe2⟩
   case round =>
    obtain ⟨G2, hG2⟩ : ∃ G, G = gk := ⟨gk, rfl⟩; subst hG2; clear hx2 hD2 hDG hNU hbe2; obtain ⟨q, a2, pv, D, rfl, hq, rfl, ha2, rfl, HPV, hx, hD, hDG, hNU, hbe⟩ := hrel; obtain ⟨wx, hwx⟩ : ∃ wx, wx = wr := ⟨_, rfl⟩; subst hwx; by_cases hq9 : q < 9
    ·have t2 : decide ((q : Int) < 9) = true := by simp; omega
     obtain ⟨a3, HA3⟩ : ∃ z, Hid (z = a2 - 1) := ⟨_, rfl⟩; obtain ⟨dg, HDG⟩ : ∃ z, Hid (z = pv % 10) := ⟨_, rfl⟩; obtain ⟨pn, HPN⟩ : ∃ z, Hid (z = pv / 10) := ⟨_, rfl⟩; have hpv : pv < 1000000000 := by rw [HPV.out]; exact Nat.lt_of_le_of_lt (Nat.div_le_self _ _) hr
     have hdg : dg < 10 := by rw [HDG.out]; exact Nat.mod_lt _ (by omega)
     have s1 : IntKind.i64.wrap ((a2 : Int) - 1) = (a3 : Int) := by rw [IntWalk.i64_in _ (by omega)]; have := HA3.out; omega
     have s2 : (pv : Int) % 10 = (dg : Int) := by rw [HDG.out]; omega
     have s3 : (pv : Int).tmod 10 = (dg : Int) := by rw [HDG.out]; rfl
     have s4 : (pv : Int) / 10 = (pn : Int) := by rw [HPN.out]; omega
     have s5 : (pv : Int).tdiv 10 = (pn : Int) := by rw [HPN.out]; rfl
     have s8 : (pn : Int) % 4294967296 = (pn : Int) := by have := HPN.out; omega
     have s6 : IntKind.u32.wrap (48 + (dg : Int)) = 48 + (dg : Int) := by rw [IntWalk.u32_in _ (by omega)]
     have s7 : IntKind.u8.wrap (48 + (dg : Int)) = 48 + (dg : Int) := by rw [IntWalk.u8_in _ (by omega)]
     have ha3 : a3 < 626 := by have := HA3.out; omega
     have ha3' : (a3 : Int) < 626 := by omega
     have hat : a3 = 625 - (9 * ch + q) := by have := HA3.out; omega
     have z0 := hD.frozen a3; obtain ⟨v0, hv0⟩ : ∃ v, D[a3]? = some v := ⟨D[a3]'(by rw [hDG.1]; exact ha3), Array.getElem?_eq_getElem _⟩; have z1 := hD.cell a3; rw [hv0] at z1
     have hval : (48 : Int) + (dg : Int) = ((48 + n / 10 ^ (9 * ch + q) % 10 : Nat) : Int) := by
      have h1 : dg = n / 10 ^ (9 * ch + q) % 10 := by
       rw [HDG.out, HPV.out, HR1.out, digit_eq hq9, HM.out, Nat.div_div_eq_div_mul, ← Nat.pow_add]
      rw [h1]; push_cast; rfl
     have hD3 := hD.set_ a3 (.int .u8 (48 + (dg : Int))); have hDG3 := hDG.step (v := .int .u8 (48 + (dg : Int))) (by omega) (by rw [hval]); rw [← hat] at hDG3; have hNU3 := hNU.set8 a3 (48 + (dg : Int)); have hx3 : Nb (wx.setCell ⟨gD, a3, none⟩ (.int .u8 (48 + (dg : Int)))) A2 k2 k2 (n / 10 ^ (9 * (ch + 1))) := ⟨hx.1, hx.2.setB hD hNU _⟩; have hbe3 := hbe.setCell (p := ⟨gD, a3, none⟩) hge (.int .u8 (48 + (dg : Int))); have HPN2 : Hid (pn = r / 10 ^ (q + 1)) := by show _ = _; rw [HPN.out, HPV.out, Nat.div_div_eq_div_mul, Nat.pow_succ]
     clear hx hD hDG hNU hbe hval hat HPN HDG HPV hpv; go_wp2_with fail
     go_roundg (G2 - 1)
     case measure => omega
     case rel => exact ⟨q + 1, a3, pn, _, by go_num, by omega, rfl, by have := HA3.out; omega, rfl, HPN2, hx3, hD3, hDG3, hNU3, hbe3⟩
    ·have t2 : decide ((q : Int) < 9) = false := by simp; omega
     have hq8 : q = 9 := by omega
     subst hq8; go_wp2_with fail
     go_roundg (G - 1)
     case measure => omega
     case rel => exact ⟨ch + 1, a2, A2, k2, k2, D, rfl, rfl, by omega, by omega, hk2, hx, hD, hDG, hNU, hbe⟩
  ·have t1 : decide ((0 : Int) < (k1 : Int)) = false := by simp; omega
   have hk0 : k1 = 0 := by omega
   subst hk0
   have hz : n / 10 ^ (9 * ch) = 0 := by
    have h1 := hx.1; have h2 := List.eq_nil_of_length_eq_zero h1.symm
    rwa [Nm.lb_nil_iff] at h2
   obtain ⟨m, HMm⟩ : ∃ m, Hid (m = 9 * ch) := ⟨_, rfl⟩; rw [← HMm.out] at hDG hz ha
   have hlt : n < 10 ^ m := by
    rcases Nat.lt_or_ge n (10 ^ m) with h1 | h1
    ·exact h1
    ·have := Nat.div_pos h1 (Nat.pow_pos (by omega)); omega
   have hlen : (padB m n).length = 626 - a := by rw [padB_len]; omega
   have hcell : ∀ j (hj : j < (padB m n).length), wo.cell? (Addr.add ⟨gD, a, none⟩ j) = some (.int .u8 (((padB m n)[j]).toNat : Int)) := by
    intro j hj; have hj2 : j < m := by rw [padB_len] at hj; exact hj
    have h1 := hDG.2 (m - 1 - j) (by omega); have h2 := hD.cell (a + j); rw [show 625 - (m - 1 - j) = a + j by omega] at h1; rw [h1] at h2; rw [padB_get hj2 hj, ← h2]; unfold Addr.add; by_cases e : j = 0
    ·subst e; rfl
    ·rw [if_neg e]
   have hback := run_convert_bytes_back (P := Tryz.prog) wo 72 9 5 ⟨gD, a, none⟩ (626 - a) (padB m n) Tryz.underlying72 Tryz.underlying5 Tryz.underlying9 hcell; rw [hlen] at hback; obtain ⟨S, HS⟩ : ∃ s : ByteArray, Hid (s = ⟨(padB m n).toArray⟩) := ⟨_, rfl⟩; rw [← HS.out] at hback; have hTL := trimL_n S wo; have hST : S.data.toList = padB m n := by rw [HS.out]
   rw [hST] at hTL; obtain ⟨S2, HS2⟩ : ∃ s : ByteArray, Hid (s = ⟨(Lib.trimLeftB (padB m n) 48).toArray⟩) := ⟨_, rfl⟩; rw [← HS2.out] at hTL; have HTL := Lib.hid hTL; have ha1 : (a : Int) ≤ 626 := by omega
   have ha2 : a ≤ 626 := by omega
   have hne0 : ¬ (a = 0) := by
    intro e; have : ch ≤ 69 := by omega
    have := HMm.out; omega
   clear hDG hNU hcell hlen hST hTL hx
   have hR : (n = 0 ∧ S2.toList.isEmpty = true) ∨ (0 < n ∧ S2.toList.isEmpty = false ∧ S2 = Nm.decS n) := by
    rcases Nat.eq_zero_or_pos n with h1 | h1
    ·left
     refine ⟨h1, ?_⟩; rw [HS2.out, h1, trim_zero, ByteArray.toList_eq]; rfl
    ·right
     have e : S2 = Nm.decS n := by rw [HS2.out]; exact trim_pad m n hlt h1
     exact ⟨h1, by rw [e]; exact decS_ne n, e⟩
   by_cases h626 : 626 = a
   ·have hback2 := run_convert_bytes_back (P := Tryz.prog) wo 72 9 5 ⟨gD, 0, none⟩ 0 (padB m n) Tryz.underlying72 Tryz.underlying5 Tryz.underlying9 (fun j hj => by rw [padB_len] at hj; omega); rw [padB_len, ← HS.out, show m = 0 by omega] at hback2; clear hback
    rcases hR with ⟨h1, h2⟩ | ⟨h1, h2, h3⟩
    ·have HR : Hid (Nm.decS n = { data := #[48] }) := by show _ = _; rw [h1]; rfl
     clear h1 hlt hz; go_wp2_with fail; refine HTL.out.mono ?_; rintro e w' ⟨rfl, rfl⟩; go_wp2_with fail; go_ret; exact ⟨by rw [HR.out]; rfl, hbe⟩
    ·have HR : Hid (Nm.decS n = S2) := h3.symm; clear h1 hlt hz h3; go_wp2_with fail; refine HTL.out.mono ?_; rintro e w' ⟨rfl, rfl⟩; go_wp2_with fail; go_ret; exact ⟨by rw [HR.out]; rfl, hbe⟩
   ·rcases hR with ⟨h1, h2⟩ | ⟨h1, h2, h3⟩
    ·have HR : Hid (Nm.decS n = { data := #[48] }) := by show _ = _; rw [h1]; rfl
     clear h1 hlt hz; go_wp2_with fail; refine HTL.out.mono ?_; rintro e w' ⟨rfl, rfl⟩; go_wp2_with fail; go_ret; exact ⟨by rw [HR.out]; rfl, hbe⟩
    ·have HR : Hid (Nm.decS n = S2) := h3.symm; clear h1 hlt hz h3; go_wp2_with fail; refine HTL.out.mono ?_; rintro e w' ⟨rfl, rfl⟩; go_wp2_with fail; go_ret; exact ⟨by rw [HR.out]; rfl, hbe⟩
end Go.Proofs.YtijkfagkbfbpmaaGreatDoor
namespace Go.Proofs.YtijkfagkbfbpmaaGreatDoor
open Go Go.RowKit
def boolC (b : Bool) : List Value := [.bool b]
theorem boolC_len (b : Bool) : (boolC b).length = 1 := rfl
theorem RowS.bool {w : World} {A : Option Addr} {k : Nat} {l : List Bool} (h : RowS boolC w A k l) {i : Nat} (hi : i < k) : ∃ b off x, A = some ⟨b, off, none⟩ ∧ w.cell? ⟨b, off + i, none⟩ = some (.bool x) ∧ Hid (l[i]? = some x) := by
 have hil : i < l.length := by have := h.2.1; omega
 obtain ⟨b, off, hA, hc⟩ := h.at_ boolC_len (by omega) hi hil; refine ⟨b, off, l[i], hA, ?_, List.getElem?_eq_getElem hil⟩; have := hc.out 0 _ rfl
 rwa [Nat.mul_one, Nat.add_zero] at this
end Go.Proofs.YtijkfagkbfbpmaaGreatDoor
namespace Go.Proofs.YtijkfagkbfbpmaaGreatDoor
open Go Go.RowKit
end Go.Proofs.YtijkfagkbfbpmaaGreatDoor
namespace Go.Proofs.YtijkfagkbfbpmaaGreatDoor
open Go Go.RowKit
end Go.Proofs.YtijkfagkbfbpmaaGreatDoor
namespace Go.Proofs.YtijkfagkbfbpmaaGreatDoor
open Go Go.RowKit
end Go.Proofs.YtijkfagkbfbpmaaGreatDoor
namespace Go.Proofs.YtijkfagkbfbpmaaGreatDoor
open Go Go.RowKit
end Go.Proofs.YtijkfagkbfbpmaaGreatDoor
namespace Go.Proofs.YtijkfagkbfbpmaaGreatDoor
open Go Go.RowKit
end Go.Proofs.YtijkfagkbfbpmaaGreatDoor
namespace Go.Proofs.YtijkfagkbfbpmaaGreatDoor
open Go Go.RowKit
theorem Blk.setFar {w : World} {T : TypeId} {arr : Array Value} {g g' i : Nat} (h : Blk w g T arr) (hne : g ≠ g') (v : Value) : Blk (w.setCell ⟨g', i, none⟩ v) g T arr := (Below.heap_setCell _ ⟨g', i, none⟩ _ g hne).trans h
end Go.Proofs.YtijkfagkbfbpmaaGreatDoor
namespace Go.Proofs.YtijkfagkbfbpmaaGreatDoor
open Go Go.RowKit
end Go.Proofs.YtijkfagkbfbpmaaGreatDoor
namespace Go.Proofs.YtijkfagkbfbpmaaGreatDoor
open Go Go.RowKit
end Go.Proofs.YtijkfagkbfbpmaaGreatDoor
namespace Go.Proofs.YtijkfagkbfbpmaaGreatDoor
open Go Go.RowKit
end Go.Proofs.YtijkfagkbfbpmaaGreatDoor
namespace Go.Proofs.YtijkfagkbfbpmaaGreatDoor
open Go Go.RowKit
end Go.Proofs.YtijkfagkbfbpmaaGreatDoor
namespace Go.Proofs.YtijkfagkbfbpmaaGreatDoor
open Go Go.RowKit
end Go.Proofs.YtijkfagkbfbpmaaGreatDoor
namespace Go.Proofs.YtijkfagkbfbpmaaGreatDoor
open Go Go.RowKit
end Go.Proofs.YtijkfagkbfbpmaaGreatDoor
namespace Go.Proofs.YtijkfagkbfbpmaaGreatDoor
open Go Go.RowKit
end Go.Proofs.YtijkfagkbfbpmaaGreatDoor
namespace Go.Proofs.YtijkfagkbfbpmaaGreatDoor
open Go Go.RowKit
/-- the printed form of a valid ratio -/
def ratS (p q : Nat) : ByteArray := if q = 1 then Nm.decS p else Nm.decS p ++ { data := #[47] } ++ Nm.decS q
theorem decS_le {n e : Nat} (h : n < 10 ^ e) (he : 0 < e) : (Nm.decS n).size ≤ e := by
 have h1 : (Nm.decS n).size = (Nm.decD n).length := by
  unfold Nm.decS ByteArray.size; simp
 rw [h1]
 rcases Nat.eq_zero_or_pos n with h0 | h0
 ·subst h0; rw [Nm.decD_small (by omega)]; exact he
 ·rw [← Nm.pad_dec e n h h0]; have := (List.dropWhile_sublist (l := Nm.padD e n) (· == 0)).length_le
  rwa [Nm.padD_len] at this
theorem decS_size {n : Nat} (h : n < Nm.B ^ 64) : (Nm.decS n).size ≤ 1000 := by
 obtain ⟨e, he⟩ : ∃ e : Nat, e = 617 := ⟨_, rfl⟩; have h1 := decS_le (Nat.lt_of_lt_of_le h (Nm.lim_ten (e := e) (by omega))) (by omega); omega
def PhiPr (g : Nat) (A1 : Option Addr) (k1 c1 : Nat) (A2 : Option Addr) (k2 c2 : Nat) (s1 s2 : ByteArray) (j : Nat) (w : World) (x : Value) : Prop :=
 match j with
 | 0 => x = .pointer (some ⟨g, 0, none⟩)
 | 1 => x = .slice A1 k1 c1
 | 2 => x = .string s1
 | 3 => x = .string (s1 ++ { data := #[47] })
 | 4 => x = .pointer (some ⟨g, 1, none⟩)
 | 5 => x = .slice A2 k2 c2
 | 6 => x = .string s2
 | 7 => x = .string (s1 ++ { data := #[47] } ++ s2)
 | 8 => x = .string (s1 ++ { data := #[47] } ++ s2)
 | 9 => x = .int .i64 0
 | _ => True
theorem PhiPr.keep {g : Nat} {A1 : Option Addr} {k1 c1 : Nat} {A2 : Option Addr} {k2 c2 : Nat} {s1 s2 : ByteArray} : ∀ (w w' : World), Below w.heap.size w w' → ∀ j x, PhiPr g A1 k1 c1 A2 k2 c2 s1 s2 j w x → PhiPr g A1 k1 c1 A2 k2 c2 s1 s2 j w' x := by
 intro w w' hb j x h; unfold PhiPr at h ⊢
 split <;> simp only at h ⊢
 all_goals exact h
set_option maxRecDepth 100000 in
set_option maxHeartbeats 4000000 in
theorem print_v (va : Value) (p q : Nat) (w : World) (ha : Rat w va p q) (ga : Nm.Good p q) :
  Calls Tryz.prog 78 #[va] w fun e w' => e = .returned (.tuple #[.string (ratS p q), .int .i64 0]) ∧ Below w.heap.size w w' := by
 obtain ⟨A1, k1, c1, A2, k2, c2, rfl⟩ := ha.shape; have hq := ga.pos
 go_enter Tryz.func78, Tryz.ntmps78
 go_upto_region 1 with fail; refine wp_name ?_; intro w1 HW1; have hb1 : Below w.heap.size w w1 := by rw [HW1.out]; exact bA _ _
 have hB1 : Blk w1 w.heap.size 29 #[.slice A1 k1 c1, .slice A2 k2 c2] := by rw [HW1.out]; exact Blk.new _ _ _
 obtain ⟨g, hg⟩ : ∃ g, Hid (g = w.heap.size) := ⟨_, rfl⟩; rw [← hg.out] at hB1 ⊢; have ha1 := ha.below hb1; have b0 := hB1.cell 0; have b1 := hB1.cell 1; simp only [List.getElem?_toArray, List.getElem?_cons_zero, List.getElem?_cons_succ] at b0 b1; clear HW1 hB1 ha hg; go_wp2_with fail; refine (valid_v ha1.rtl).mono ?_; rintro e w2 ⟨E, rfl, HE, hb2⟩; obtain rfl : E = 0 := by rw [HE.out]; exact Nm.validE_of ga
 have ha2 := ha1.below hb2; have b0 := cell_keep hb2 b0; have b1 := cell_keep hb2 b1; have hbw := Below.tr hb1 hb2; obtain ⟨h1, h2⟩ := ha2.nb; have hk1 : k1 ≤ 64 := by rw [h1.1]; exact ga.fits.1
 have hk2 : k2 ≤ 64 := by rw [h2.1]; exact ga.fits.2
 clear ha1 ha2 HE hb1 hb2; by_cases hq1 : q = 1
 ·subst hq1; have hk0 : k2 = 0 := by have := h2.1; simpa [Nm.dn_one, Nm.lb_zero] using this
  subst hk0; have HR : Hid (ratS p 1 = Nm.decS p) := by show _ = _; unfold ratS; rw [if_pos rfl]
  go_wp2_with fail; refine (decimal_n A1 k1 c1 p _ h1 hk1).mono ?_; rintro e w3 ⟨rfl, hb⟩; go_wp2_with fail; exact bodyPost_ret (v := .tuple #[.string (Nm.decS p), .int .i64 0]) (by simp [results, Tryz.results78, go_sem]) rfl ⟨by rw [HR.out], Below.tr hbw hb⟩
 ·have h2 := h2; rw [Nm.dn_ne hq1] at h2
  have hk0 : 0 < k2 := by
   rcases Nat.eq_zero_or_pos k2 with e | e
   ·exfalso
    have h3 := h2.1; rw [e] at h3; have h4 := List.eq_nil_of_length_eq_zero h3.symm; rw [Nm.lb_nil_iff] at h4; omega
   ·exact e
  have t1 : ((k2 : Int) == 0) = false := by simp; omega
  obtain ⟨s1, HS1⟩ : ∃ s, Hid (s = Nm.decS p) := ⟨_, rfl⟩; obtain ⟨s2, HS2⟩ : ∃ s, Hid (s = Nm.decS q) := ⟨_, rfl⟩; have HR : Hid (ratS p q = s1 ++ { data := #[47] } ++ s2) := by show _ = _; unfold ratS; rw [if_neg hq1, HS1.out, HS2.out]
  have HSZ : Hid (s1.size ≤ 1000 ∧ s2.size ≤ 1000) := ⟨by rw [HS1.out]; exact decS_size (good_lt ga).1, by rw [HS2.out]; exact decS_size (good_lt ga).2⟩; have hs1 := HSZ.out.1; have hs2 := HSZ.out.2; have hn1 : ¬ (9223372036854775807 < s1.size + 1) := by omega
  have hn2 : ¬ (9223372036854775807 < s1.size + 1 + s2.size) := by omega
  go_upto_region 6 with fail; refine region_invF (PhiPr g A1 k1 c1 A2 k2 c2 s1 s2) (fun w w' => Below w.heap.size w w') (fun W => Below w2.heap.size w2 W) (by kernel_rfl) (by kernel_rfl) (by kernel_rfl) PhiPr.keep (fun _ _ hR hS => Below.tr hS hR) (bD _) (fun vs => by simp only [fillR, Act.put, sA, sB, sC, Nat.zero_add, Nat.reduceAdd]; rfl) ?_ ?_
  ·refine sK ?_ (sK ?_ (sK ?_ (sK ?_ (sK ?_ (sK ?_ (sK ?_ (sK ?_ (sK ?_ (sK ?_ (sZ))))))))))
   ·as_aux_lemma =>
    intro vs W hS hdep K hK; refine ⟨?_⟩; simp only [Act.put, sA, sB, sC, Nat.zero_add, Nat.reduceAdd] at hK ⊢; go_simp; with_reducible refine hK _ _ (Below.refl _ _) ?_
    exact rfl
   ·as_aux_lemma =>
    intro vs W hS hdep K hK; have d0 := hdep ⟨0, .data⟩ (by simp) rfl; simp only [PhiPr] at d0; have f1 := cell_keep hS b0; refine ⟨?_⟩; simp only [Act.put, sA, sB, sC, Nat.zero_add, Nat.reduceAdd, d0] at hK ⊢; go_simp; with_reducible refine hK _ _ (Below.refl _ _) ?_
    exact rfl
   ·as_aux_lemma =>
    intro vs W hS hdep K hK; have d0 := hdep ⟨1, .data⟩ (by simp) rfl; simp only [PhiPr] at d0; refine ⟨?_⟩; simp only [Act.put, sA, sB, sC, Nat.zero_add, Nat.reduceAdd, d0] at hK ⊢; go_simp; refine (decimal_n A1 k1 c1 p _ (h1.below hS) hk1).mono ?_; rintro e w' ⟨rfl, hb⟩; go_wp2_with fail; with_reducible refine hK _ _ hb ?_
    exact (congrArg Value.string HS1.out.symm)
   ·as_aux_lemma =>
    intro vs W hS hdep K hK; have d0 := hdep ⟨2, .data⟩ (by simp) rfl; simp only [PhiPr] at d0; refine ⟨?_⟩; simp only [Act.put, sA, sB, sC, Nat.zero_add, Nat.reduceAdd, d0] at hK ⊢; go_simp; with_reducible refine hK _ _ (Below.refl _ _) ?_
    exact rfl
   ·as_aux_lemma =>
    intro vs W hS hdep K hK; refine ⟨?_⟩; simp only [Act.put, sA, sB, sC, Nat.zero_add, Nat.reduceAdd] at hK ⊢; go_simp; with_reducible refine hK _ _ (Below.refl _ _) ?_
    exact rfl
   ·as_aux_lemma =>
    intro vs W hS hdep K hK; have d0 := hdep ⟨4, .data⟩ (by simp) rfl; simp only [PhiPr] at d0; have f1 := cell_keep hS b1; refine ⟨?_⟩; simp only [Act.put, sA, sB, sC, Nat.zero_add, Nat.reduceAdd, d0] at hK ⊢; go_simp; with_reducible refine hK _ _ (Below.refl _ _) ?_
    exact rfl
   ·as_aux_lemma =>
    intro vs W hS hdep K hK; have d0 := hdep ⟨5, .data⟩ (by simp) rfl; simp only [PhiPr] at d0; have d1 := hdep ⟨2, .chain⟩ (by simp) rfl; simp only [PhiPr] at d1; refine ⟨?_⟩; simp only [Act.put, sA, sB, sC, Nat.zero_add, Nat.reduceAdd, d0, d1] at hK ⊢; go_simp; refine (decimal_n A2 k2 c2 q _ (h2.below hS) hk2).mono ?_; rintro e w' ⟨rfl, hb⟩; go_wp2_with fail; with_reducible refine hK _ _ hb ?_
    exact (congrArg Value.string HS2.out.symm)
   ·as_aux_lemma =>
    intro vs W hS hdep K hK; have d0 := hdep ⟨3, .data⟩ (by simp) rfl; simp only [PhiPr] at d0; have d1 := hdep ⟨6, .data⟩ (by simp) rfl; simp only [PhiPr] at d1; refine ⟨?_⟩; simp only [Act.put, sA, sB, sC, Nat.zero_add, Nat.reduceAdd, d0, d1] at hK ⊢; go_simp; with_reducible refine hK _ _ (Below.refl _ _) ?_
    exact rfl
   ·as_aux_lemma =>
    intro vs W hS hdep K hK; have d0 := hdep ⟨7, .data⟩ (by simp) rfl; simp only [PhiPr] at d0; have d1 := hdep ⟨6, .chain⟩ (by simp) rfl; simp only [PhiPr] at d1; refine ⟨?_⟩; simp only [Act.put, sA, sB, sC, Nat.zero_add, Nat.reduceAdd, d0, d1] at hK ⊢; go_simp; with_reducible refine hK _ _ (Below.refl _ _) ?_
    exact rfl
   ·as_aux_lemma =>
    intro vs W hS hdep K hK; have d0 := hdep ⟨8, .chain⟩ (by simp) rfl; simp only [PhiPr] at d0; refine ⟨?_⟩; simp only [Act.put, sA, sB, sC, Nat.zero_add, Nat.reduceAdd, d0] at hK ⊢; go_simp; with_reducible refine hK _ _ (Below.refl _ _) ?_
    exact rfl
  intro vs w3 hb hv; have v8 := hv 8 (by simp); have v9 := hv 9 (by simp); simp only [PhiPr] at v8 v9; simp only [Act.put, sA, sB, sC, Nat.zero_add, Nat.reduceAdd, v8, v9]; go_wp2_with fail; exact bodyPost_ret (v := .tuple #[.string (s1 ++ { data := #[47] } ++ s2), .int .i64 0]) (by simp [results, Tryz.results78, go_sem]) rfl ⟨by rw [HR.out], Below.tr hbw hb⟩
end Go.Proofs.YtijkfagkbfbpmaaGreatDoor
