import Derived.Test.YtnjjdiilkhdbeaaDoorKMakProof18
import Derived.Test.YtnjjdiilkhdbeaaDoorKMakProof14
import Derived.Test.YtnjjdiilkhdbeaaDoorKMakProof17
import Derived.Laws.IdiomStrings
import Derived.Test.YtnjjdiilkhdbeaaDoorKMakProof04
import Derived.Test.YtnjjdiilkhdbeaaDoorKMakProof09
import Derived.Test.YtnjjdiilkhdbeaaDoorKMakProof16
import Derived.Test.YtnjjdiilkhdbeaaDoorKMakProof01
import Derived.Test.YtnjjdiilkhdbeaaDoorS0
set_option linter.unusedVariables false
set_option linter.unusedSimpArgs false
namespace Go.Proofs.YtnjjdiilkhdbeaaDoor
open Go Go.RowKit
theorem Nm.padD_get : ∀ (k n j : Nat), j < k → (Nm.padD k n)[j]? = some (n / 10 ^ (k - 1 - j) % 10)
 | 0, _, _, h => absurd h (by omega)
 | k + 1, n, 0, _ => by rw [Nm.padD_cons]; rfl
 | k + 1, n, j + 1, h => by
  rw [Nm.padD_cons, List.getElem?_cons_succ, Nm.padD_get k n j (by omega)]; rw [show k - 1 - j = k + 1 - 1 - (j + 1) by omega]
/-- the block of digits, the last t of which stand -/
def DG (D : Array Value) (t n : Nat) : Prop := D.size = 626 ∧ ∀ j, j < t → D[625 - j]? = some (.int .u8 ((48 + n / 10 ^ j % 10 : Nat) : Int))
theorem DG.zero {D : Array Value} {n : Nat} (h : D.size = 626) : DG D 0 n := ⟨h, fun j hj => absurd hj (by omega)⟩
theorem DG.step {D : Array Value} {t n : Nat} (h : DG D t n) (ht : t < 626) {v : Value} (hv : v = .int .u8 ((48 + n / 10 ^ t % 10 : Nat) : Int)) : DG (D.setIfInBounds (625 - t) v) (t + 1) n := by
 refine ⟨by rw [Array.size_setIfInBounds]; exact h.1, fun j hj => ?_⟩; have hs := h.1; by_cases e : j = t
 ·subst e; rw [Array.getElem?_setIfInBounds_self_of_lt (by omega), hv]
 ·rw [Array.getElem?_setIfInBounds_ne (by omega)]; exact h.2 j (by omega)
/-- the digits as bytes, the greatest first -/
def padB (t n : Nat) : List UInt8 := (Nm.padD t n).map fun d => UInt8.ofNat (48 + d)
theorem padB_len (t n : Nat) : (padB t n).length = t := by unfold padB; rw [List.length_map, Nm.padD_len]
theorem padB_get {t n j : Nat} (h : j < t) (hj : j < (padB t n).length) : ((padB t n)[j]).toNat = 48 + n / 10 ^ (t - 1 - j) % 10 := by
 have h1 := Nm.padD_get t n j h
 have h2 : (padB t n)[j]? = some (UInt8.ofNat (48 + n / 10 ^ (t - 1 - j) % 10)) := by
  unfold padB; rw [List.getElem?_map, h1]; rfl
 rw [List.getElem?_eq_getElem hj] at h2; injection h2 with h2; rw [h2]; have : n / 10 ^ (t - 1 - j) % 10 < 10 := Nat.mod_lt _ (by omega); rw [UInt8.toNat_ofNat']; exact Nat.mod_eq_of_lt (by omega)
theorem drop_map : ∀ l : List Nat, (∀ d ∈ l, d < 10) → (l.map fun d => UInt8.ofNat (48 + d)).dropWhile (· == 48) = (l.dropWhile (· == 0)).map fun d => UInt8.ofNat (48 + d)
 | [], _ => rfl
 | d :: l, h => by
  have ih := drop_map l (fun x hx => h x (List.mem_cons_of_mem _ hx)); have hd := h d List.mem_cons_self; rw [List.map_cons]; by_cases e : d = 0
  ·subst e; have e1 : ∀ t : List UInt8, (UInt8.ofNat (48 + 0) :: t).dropWhile (· == 48) = t.dropWhile (· == 48) := fun t => List.dropWhile_cons_of_pos rfl
   have e2 : ∀ t : List Nat, (0 :: t).dropWhile (· == 0) = t.dropWhile (· == 0) := fun t => List.dropWhile_cons_of_pos rfl
   rw [e1, e2, ih]
  ·have hne : (UInt8.ofNat (48 + d) == 48) = false := by
    have h1 : (UInt8.ofNat (48 + d)).toNat = 48 + d := by rw [UInt8.toNat_ofNat']; exact Nat.mod_eq_of_lt (by omega)
    rw [beq_eq_false_iff_ne]; intro h2; rw [h2] at h1; have : (48 : UInt8).toNat = 48 := rfl; omega
   have e1 : ∀ t : List UInt8, (UInt8.ofNat (48 + d) :: t).dropWhile (· == 48) = UInt8.ofNat (48 + d) :: t := fun t => List.dropWhile_cons_of_neg (by rw [hne]; decide)
   have e2 : ∀ t : List Nat, (d :: t).dropWhile (· == 0) = d :: t := fun t => List.dropWhile_cons_of_neg (by simpa using e)
   rw [e1, e2, List.map_cons]
/-- the digits without leading noughts -/
theorem trim_pad (t n : Nat) (h : n < 10 ^ t) (h0 : 0 < n) : (⟨(Lib.trimLeftB (padB t n) 48).toArray⟩ : ByteArray) = Nm.decS n := by
 unfold Lib.trimLeftB padB Nm.decS; rw [drop_map _ (Nm.padD_lt t n), Nm.pad_dec t n h h0]
theorem trim_zero (t : Nat) : (⟨(Lib.trimLeftB (padB t 0) 48).toArray⟩ : ByteArray) = ⟨#[]⟩ := by
 unfold Lib.trimLeftB padB; rw [drop_map _ (Nm.padD_lt t 0), Nm.pad_zero]; rfl
theorem decS_ne (n : Nat) : (Nm.decS n).toList.isEmpty = false := by
 rw [ByteArray.toList_eq]; unfold Nm.decS; have h := Nm.decD_ne n
 cases hl : Nm.decD n with
 | nil => exact absurd hl h
 | cons a l => simp
set_option maxRecDepth 100000 in
set_option maxHeartbeats 1000000 in
theorem trimL_n (s : ByteArray) (w : World) : Calls Tryd.prog 92 #[.string s, .string { data := #[48] }] w fun e w' => e = .returned (.string ⟨(Lib.trimLeftB s.data.toList 48).toArray⟩) ∧ w' = w := by
 by_cases h0 : s.toList.isEmpty = true
 ·have h1 : s.data.toList = [] := by
   rw [ByteArray.toList_eq] at h0
   simpa using h0
  rw [h1]
  have h2 : s = { data := #[] } := by
   apply ByteArray.ext
   apply Array.toList_inj.1
   exact h1
  go_enter Tryd.func92, Tryd.ntmps92
  go_wp2_with fail; go_ret; exact ⟨by rw [h2]; rfl, rfl⟩
 ·have t1 : s.toList.isEmpty = false := by simpa using h0
  go_enter Tryd.func92, Tryd.ntmps92
  go_wp2_with fail; refine (Tryd.strings_trimLeftByte s 48 w).mono ?_; rintro e w' ⟨rfl, rfl⟩; go_wp2_with fail; go_ret; exact ⟨rfl, rfl⟩
end Go.Proofs.YtnjjdiilkhdbeaaDoor
namespace Go.Proofs.YtnjjdiilkhdbeaaDoor
open Go Go.RowKit
theorem noU_zero : NoU Tryd.zeroCells89 := by
 have h : Tryd.zeroCells89 = Array.replicate 626 (.int .u8 0) := by kernel_rfl
 intro i n; rw [h, Array.getElem?_replicate]
 split
 ·intro e; cases e
 ·intro e; cases e
theorem NoU.set8 {D : Array Value} (h : NoU D) (i : Nat) (x : Int) : NoU (D.setIfInBounds i (.int .u8 x)) := by
 intro j n; by_cases e : i = j
 ·subst e; rw [Array.getElem?_setIfInBounds_self]
  split
  ·intro e; cases e
  ·intro e; cases e
 ·rw [Array.getElem?_setIfInBounds_ne e]; exact h j n
theorem digit_eq {m q : Nat} (h : q < 9) : m % 10 ^ 9 / 10 ^ q % 10 = m / 10 ^ q % 10 := by
 have e : (10 : Nat) ^ 9 = 10 ^ q * 10 ^ (9 - q) := by rw [← Nat.pow_add]; congr 1; omega
 rw [e, Nat.mod_mul_right_div_self, Nat.mod_mod_of_dvd]; obtain ⟨k, hk⟩ : ∃ k, 9 - q = k + 1 := ⟨8 - q, by omega⟩; rw [hk, Nat.pow_succ]; exact Nat.dvd_mul_left _ _
set_option maxRecDepth 100000 in
set_option maxHeartbeats 4000000 in
theorem decimal_n (A : Option Addr) (k c n : Nat) (w : World) (hx : Nb w A k c n) (hk : k ≤ 64) :
  Calls Tryd.prog 81 #[.slice A k c] w fun e w' => e = .returned (.string (Nm.decS n)) ∧ Below w.heap.size w w' := by
 have HLT : Hid (n < Nm.B ^ 64) := Nat.lt_of_lt_of_le hx.lt (Nat.pow_le_pow_right Nm.B_pos hk)
 go_enter Tryd.func81, Tryd.ntmps81
 go_upto_region 2 with fail; refine wp_name ?_; intro w1 HW1; have hb1 : Below w.heap.size w w1 := by rw [HW1.out]; exact bA _ _
 have hD : Blk w1 w.heap.size 89 Tryd.zeroCells89 := by rw [HW1.out]; exact Blk.new _ _ _
 have hDG : DG Tryd.zeroCells89 0 n := DG.zero (by kernel_rfl); have hNU := noU_zero; obtain ⟨D0, HD0⟩ : ∃ D, Hid (D = Tryd.zeroCells89) := ⟨_, rfl⟩; rw [← HD0.out] at hD hDG hNU; obtain ⟨gD, hgD⟩ : ∃ g, Hid (g = w.heap.size) := ⟨_, rfl⟩; have hge : w.heap.size ≤ gD := by have := hgD.out; omega
 rw [← hgD.out] at hD ⊢; have hx1 := hx.below hb1; clear HW1 hx HD0 hgD; go_wp2_with fail
 go_loopg [0, 4] 69 (fun j x y wr => ∃ (ch a : Nat) (A : Option Addr) (k c : Nat) (D : Array Value), x = .slice A k c ∧ y = .int .i64 (a : Int) ∧ a + 9 * ch = 626 ∧ ch + j = 69 ∧ k ≤ 64 ∧ Nb wr A k c (n / 10 ^ (9 * ch)) ∧ Blk wr gD 89 D ∧ DG D (9 * ch) n ∧ NoU D ∧ Below w.heap.size w wr)
 case atStart => exact ⟨0, 626, A, k, c, D0, rfl, rfl, rfl, rfl, hk, by rw [Nat.mul_zero, Nat.pow_zero, Nat.div_one]; exact hx1, hD, hDG, hNU, hb1⟩
 case round =>
  obtain ⟨G, hG⟩ : ∃ G, G = gk := ⟨gk, rfl⟩; subst hG; clear hx1 hD hDG hNU hb1 hk; obtain ⟨ch, a, A1, k1, c1, D, rfl, rfl, ha, hch, hk1, hx, hD, hDG, hNU, hbe⟩ := hrel; obtain ⟨wo, hwo⟩ : ∃ wo, wo = wr := ⟨_, rfl⟩; subst hwo; by_cases h0 : 0 < k1
  ·have t1 : decide ((0 : Int) < (k1 : Int)) = true := by simp; omega
   have hch2 : ch ≤ 68 := Nm.pow_chunk HLT.out (by
    intro e; have := hx.1; rw [e, Nm.lb_zero] at this; simp at this
    omega)
   obtain ⟨m, HM⟩ : ∃ m, Hid (m = n / 10 ^ (9 * ch)) := ⟨_, rfl⟩; rw [← HM.out] at hx; have HSM := Lib.hid (small_k A1 c1 1000000000 k1 (Nm.lb m) wo hx.2 hx.1 (by omega) (by omega) (by omega)); have hltD := hD.lt; go_wp2_with fail; refine HSM.out.mono ?_; rintro e w2 ⟨A2, k2, r, rfl, hr, HR, hl, hb2⟩; have HR1 : Hid (r = m % 10 ^ 9) := by show _ = _; rw [HR.out.1, Nm.nv_lb]
   have hx2 : Nb w2 A2 k2 k2 (n / 10 ^ (9 * (ch + 1))) := by
    have e : n / 10 ^ (9 * (ch + 1)) = m / 1000000000 := by
     rw [HM.out, Nat.div_div_eq_div_mul, Nat.mul_add, Nat.pow_add]
    have h1 := HR.out.2; rw [Nm.nv_lb] at h1; rw [Nm.nv_lb] at hl; rw [e]; exact ⟨h1, hl⟩
   have hk2 : k2 ≤ 64 := by
    have h1 : k2 = (Nm.lb (m / 1000000000)).length := by have h1 := HR.out.2; rwa [Nm.nv_lb] at h1
    have h2 := Nm.lb_length_le_of_lt (Nat.div_le_self m 1000000000); have := hx.1; omega
   have hD2 := hD.below hb2 hltD; have hbe2 := hbe.trans (hb2.mono hbe.size); clear HSM HR hl hb2 hx hD hbe hltD; go_wp2_with fail
   go_loopg [4, 5, 15] 9 (fun j y p i wx => ∃ (q a2 pv : Nat) (D : Array Value), i = .int .i64 q ∧ q + j = 9 ∧ y = .int .i64 (a2 : Int) ∧ a2 + q = a ∧ p = .int .u32 (pv : Int) ∧ Hid (pv = r / 10 ^ q) ∧ Nb wx A2 k2 k2 (n / 10 ^ (9 * (ch + 1))) ∧ Blk wx gD 89 D ∧ DG D (9 * ch + q) n ∧ NoU D ∧ Below w.heap.size w wx)
   case atStart => exact ⟨0, a, r, D, rfl, rfl, rfl, rfl, rfl, by show _ = _; rw [Nat.pow_zero, Nat.div_one], hx2, hD2, hDG, hNU, hbe2⟩
   case round =>
    obtain ⟨G2, hG2⟩ : ∃ G, G = gk := ⟨gk, rfl⟩; subst hG2; clear hx2 hD2 hDG hNU hbe2; obtain ⟨q, a2, pv, D, rfl, hq, rfl, ha2, rfl, HPV, hx, hD, hDG, hNU, hbe⟩ := hrel; obtain ⟨wx, hwx⟩ : ∃ wx, wx = wr := ⟨_, rfl⟩; subst hwx; by_cases hq9 : q < 9
    ·have t2 : decide ((q : Int) < 9) = true := by simp; omega
     obtain ⟨a3, HA3⟩ : ∃ z, Hid (z = a2 - 1) := ⟨_, rfl⟩; obtain ⟨dg, HDG⟩ : ∃ z, Hid (z = pv % 10) := ⟨_, rfl⟩; obtain ⟨pn, HPN⟩ : ∃ z, Hid (z = pv / 10) := ⟨_, rfl⟩; have hpv : pv < 1000000000 := by rw [HPV.out]; exact Nat.lt_of_le_of_lt (Nat.div_le_self _ _) hr
     have hdg : dg < 10 := by rw [HDG.out]; exact Nat.mod_lt _ (by omega)
     have s1 : IntKind.i64.wrap ((a2 : Int) - 1) = (a3 : Int) := by rw [IntWalk.i64_in _ (by omega)]; have := HA3.out; omega
     have s2 : (pv : Int) % 10 = (dg : Int) := by rw [HDG.out]; omega
     have s3 : (pv : Int).tmod 10 = (dg : Int) := by rw [HDG.out]; rfl
     have s4 : (pv : Int) / 10 = (pn : Int) := by rw [HPN.out]; omega
     have s5 : (pv : Int).tdiv 10 = (pn : Int) := by rw [HPN.out]; rfl
     have s8 : (pn : Int) % 4294967296 = (pn : Int) := by have := HPN.out; omega
     have s6 : IntKind.u32.wrap (48 + (dg : Int)) = 48 + (dg : Int) := by rw [IntWalk.u32_in _ (by omega)]
     have s7 : IntKind.u8.wrap (48 + (dg : Int)) = 48 + (dg : Int) := by rw [IntWalk.u8_in _ (by omega)]
     have ha3 : a3 < 626 := by have := HA3.out; omega
     have ha3' : (a3 : Int) < 626 := by omega
     have hat : a3 = 625 - (9 * ch + q) := by have := HA3.out; omega
     have z0 := hD.frozen a3; obtain ⟨v0, hv0⟩ : ∃ v, D[a3]? = some v := ⟨D[a3]'(by rw [hDG.1]; exact ha3), Array.getElem?_eq_getElem _⟩; have z1 := hD.cell a3; rw [hv0] at z1
     have hval : (48 : Int) + (dg : Int) = ((48 + n / 10 ^ (9 * ch + q) % 10 : Nat) : Int) := by
      have h1 : dg = n / 10 ^ (9 * ch + q) % 10 := by
       rw [HDG.out, HPV.out, HR1.out, digit_eq hq9, HM.out, Nat.div_div_eq_div_mul, ← Nat.pow_add]
      rw [h1]; push_cast; rfl
     have hD3 := hD.set_ a3 (.int .u8 (48 + (dg : Int))); have hDG3 := hDG.step (v := .int .u8 (48 + (dg : Int))) (by omega) (by rw [hval]); rw [← hat] at hDG3; have hNU3 := hNU.set8 a3 (48 + (dg : Int)); have hx3 : Nb (wx.setCell ⟨gD, a3, none⟩ (.int .u8 (48 + (dg : Int)))) A2 k2 k2 (n / 10 ^ (9 * (ch + 1))) := ⟨hx.1, hx.2.setB hD hNU _⟩; have hbe3 := hbe.setCell (p := ⟨gD, a3, none⟩) hge (.int .u8 (48 + (dg : Int))); have HPN2 : Hid (pn = r / 10 ^ (q + 1)) := by show _ = _; rw [HPN.out, HPV.out, Nat.div_div_eq_div_mul, Nat.pow_succ]
     clear hx hD hDG hNU hbe hval hat HPN HDG HPV hpv; go_wp2_with fail
     go_roundg (G2 - 1)
     case measure => omega
     case rel => exact ⟨q + 1, a3, pn, _, by go_num, by omega, rfl, by have := HA3.out; omega, rfl, HPN2, hx3, hD3, hDG3, hNU3, hbe3⟩
    ·have t2 : decide ((q : Int) < 9) = false := by simp; omega
     have hq8 : q = 9 := by omega
     subst hq8; go_wp2_with fail
     go_roundg (G - 1)
     case measure => omega
     case rel => exact ⟨ch + 1, a2, A2, k2, k2, D, rfl, rfl, by omega, by omega, hk2, hx, hD, hDG, hNU, hbe⟩
  ·have t1 : decide ((0 : Int) < (k1 : Int)) = false := by simp; omega
   have hk0 : k1 = 0 := by omega
   subst hk0
   have hz : n / 10 ^ (9 * ch) = 0 := by
    have h1 := hx.1; have h2 := List.eq_nil_of_length_eq_zero h1.symm
    rwa [Nm.lb_nil_iff] at h2
   obtain ⟨m, HMm⟩ : ∃ m, Hid (m = 9 * ch) := ⟨_, rfl⟩; rw [← HMm.out] at hDG hz ha
   have hlt : n < 10 ^ m := by
    rcases Nat.lt_or_ge n (10 ^ m) with h1 | h1
    ·exact h1
    ·have := Nat.div_pos h1 (Nat.pow_pos (by omega)); omega
   have hlen : (padB m n).length = 626 - a := by rw [padB_len]; omega
   have hcell : ∀ j (hj : j < (padB m n).length), wo.cell? (Addr.add ⟨gD, a, none⟩ j) = some (.int .u8 (((padB m n)[j]).toNat : Int)) := by
    intro j hj; have hj2 : j < m := by rw [padB_len] at hj; exact hj
    have h1 := hDG.2 (m - 1 - j) (by omega); have h2 := hD.cell (a + j); rw [show 625 - (m - 1 - j) = a + j by omega] at h1; rw [h1] at h2; rw [padB_get hj2 hj, ← h2]; unfold Addr.add; by_cases e : j = 0
    ·subst e; rfl
    ·rw [if_neg e]
   have hback := run_convert_bytes_back (P := Tryd.prog) wo 91 9 5 ⟨gD, a, none⟩ (626 - a) (padB m n) Tryd.underlying91 Tryd.underlying5 Tryd.underlying9 hcell; rw [hlen] at hback; obtain ⟨S, HS⟩ : ∃ s : ByteArray, Hid (s = ⟨(padB m n).toArray⟩) := ⟨_, rfl⟩; rw [← HS.out] at hback; have hTL := trimL_n S wo; have hST : S.data.toList = padB m n := by rw [HS.out]
   rw [hST] at hTL; obtain ⟨S2, HS2⟩ : ∃ s : ByteArray, Hid (s = ⟨(Lib.trimLeftB (padB m n) 48).toArray⟩) := ⟨_, rfl⟩; rw [← HS2.out] at hTL; have HTL := Lib.hid hTL; have ha1 : (a : Int) ≤ 626 := by omega
   have ha2 : a ≤ 626 := by omega
   have hne0 : ¬ (a = 0) := by
    intro e; have : ch ≤ 69 := by omega
    have := HMm.out; omega
   clear hDG hNU hcell hlen hST hTL hx
   have hR : (n = 0 ∧ S2.toList.isEmpty = true) ∨ (0 < n ∧ S2.toList.isEmpty = false ∧ S2 = Nm.decS n) := by
    rcases Nat.eq_zero_or_pos n with h1 | h1
    ·left
     refine ⟨h1, ?_⟩; rw [HS2.out, h1, trim_zero, ByteArray.toList_eq]; rfl
    ·right
     have e : S2 = Nm.decS n := by rw [HS2.out]; exact trim_pad m n hlt h1
     exact ⟨h1, by rw [e]; exact decS_ne n, e⟩
   by_cases h626 : 626 = a
   ·have hback2 := run_convert_bytes_back (P := Tryd.prog) wo 91 9 5 ⟨gD, 0, none⟩ 0 (padB m n) Tryd.underlying91 Tryd.underlying5 Tryd.underlying9 (fun j hj => by rw [padB_len] at hj; omega); rw [padB_len, ← HS.out, show m = 0 by omega] at hback2; clear hback
    rcases hR with ⟨h1, h2⟩ | ⟨h1, h2, h3⟩
    ·have HR : Hid (Nm.decS n = { data := #[48] }) := by show _ = _; rw [h1]; rfl
     clear h1 hlt hz; go_wp2_with fail; refine HTL.out.mono ?_; rintro e w' ⟨rfl, rfl⟩; go_wp2_with fail; go_ret; exact ⟨by rw [HR.out]; rfl, hbe⟩
    ·have HR : Hid (Nm.decS n = S2) := h3.symm; clear h1 hlt hz h3; go_wp2_with fail; refine HTL.out.mono ?_; rintro e w' ⟨rfl, rfl⟩; go_wp2_with fail; go_ret; exact ⟨by rw [HR.out]; rfl, hbe⟩
   ·rcases hR with ⟨h1, h2⟩ | ⟨h1, h2, h3⟩
    ·have HR : Hid (Nm.decS n = { data := #[48] }) := by show _ = _; rw [h1]; rfl
     clear h1 hlt hz; go_wp2_with fail; refine HTL.out.mono ?_; rintro e w' ⟨rfl, rfl⟩; go_wp2_with fail; go_ret; exact ⟨by rw [HR.out]; rfl, hbe⟩
    ·have HR : Hid (Nm.decS n = S2) := h3.symm; clear h1 hlt hz h3; go_wp2_with fail; refine HTL.out.mono ?_; rintro e w' ⟨rfl, rfl⟩; go_wp2_with fail; go_ret; exact ⟨by rw [HR.out]; rfl, hbe⟩
end Go.Proofs.YtnjjdiilkhdbeaaDoor
namespace Go.Proofs.YtnjjdiilkhdbeaaDoor
open Go Go.RowKit
def boolC (b : Bool) : List Value := [.bool b]
theorem boolC_len (b : Bool) : (boolC b).length = 1 := rfl
theorem RowS.bool {w : World} {A : Option Addr} {k : Nat} {l : List Bool} (h : RowS boolC w A k l) {i : Nat} (hi : i < k) : ∃ b off x, A = some ⟨b, off, none⟩ ∧ w.cell? ⟨b, off + i, none⟩ = some (.bool x) ∧ Hid (l[i]? = some x) := by
 have hil : i < l.length := by have := h.2.1; omega
 obtain ⟨b, off, hA, hc⟩ := h.at_ boolC_len (by omega) hi hil; refine ⟨b, off, l[i], hA, ?_, List.getElem?_eq_getElem hil⟩; have := hc.out 0 _ rfl
 rwa [Nat.mul_one, Nat.add_zero] at this
end Go.Proofs.YtnjjdiilkhdbeaaDoor
namespace Go.Proofs.YtnjjdiilkhdbeaaDoor
open Go Go.RowKit
theorem okP_lb {p q : Nat} : okP (ratP p q) := ⟨Nm.lim_lb _, Nm.lim_lb _⟩
end Go.Proofs.YtnjjdiilkhdbeaaDoor
namespace Go.Proofs.YtnjjdiilkhdbeaaDoor
open Go Go.RowKit
end Go.Proofs.YtnjjdiilkhdbeaaDoor
namespace Go.Proofs.YtnjjdiilkhdbeaaDoor
open Go Go.RowKit
end Go.Proofs.YtnjjdiilkhdbeaaDoor
namespace Go.Proofs.YtnjjdiilkhdbeaaDoor
open Go Go.RowKit
end Go.Proofs.YtnjjdiilkhdbeaaDoor
namespace Go.Proofs.YtnjjdiilkhdbeaaDoor
open Go Go.RowKit
end Go.Proofs.YtnjjdiilkhdbeaaDoor
namespace Go.Proofs.YtnjjdiilkhdbeaaDoor
open Go Go.RowKit
theorem Blk.setFar {w : World} {T : TypeId} {arr : Array Value} {g g' i : Nat} (h : Blk w g T arr) (hne : g ≠ g') (v : Value) : Blk (w.setCell ⟨g', i, none⟩ v) g T arr := (Below.heap_setCell _ ⟨g', i, none⟩ _ g hne).trans h
end Go.Proofs.YtnjjdiilkhdbeaaDoor
namespace Go.Proofs.YtnjjdiilkhdbeaaDoor
open Go Go.RowKit
end Go.Proofs.YtnjjdiilkhdbeaaDoor
namespace Go.Proofs.YtnjjdiilkhdbeaaDoor
open Go Go.RowKit
end Go.Proofs.YtnjjdiilkhdbeaaDoor
namespace Go.Proofs.YtnjjdiilkhdbeaaDoor
open Go Go.RowKit
end Go.Proofs.YtnjjdiilkhdbeaaDoor
namespace Go.Proofs.YtnjjdiilkhdbeaaDoor
open Go Go.RowKit
theorem GoodX.sl {w : World} {g : Nat} {X : LP} (h : GoodX w g X) : Sl w g := by
 obtain ⟨A, k, c, A', k', c', h, _⟩ := h; exact ⟨_, _, _, _, _, _, h⟩
end Go.Proofs.YtnjjdiilkhdbeaaDoor
namespace Go.Proofs.YtnjjdiilkhdbeaaDoor
open Go Go.RowKit
theorem fits_le {n d m k : Nat} (hn : n ≤ m) (hd : d ≤ k) (hm : m < Nm.B ^ 64) (hk : k < Nm.B ^ 64) : Nm.Fits n d := fits_small (Nat.lt_of_le_of_lt hn hm) (Nat.lt_of_le_of_lt hd hk)
theorem resP_small {n d : Nat} (hn : n < Nm.B ^ 64) (hd : d < Nm.B ^ 64) : resP n d = (0, ratP (n / Nat.gcd n d) (d / Nat.gcd n d)) := by
 unfold resP; rw [if_pos (fits_le (Nat.div_le_self _ _) (Nat.div_le_self _ _) hn hd)]
theorem red_good {n d : Nat} (h0 : 0 < d) (hn : n < Nm.B ^ 64) (hd : d < Nm.B ^ 64) : Nm.Good (n / Nat.gcd n d) (d / Nat.gcd n d) := good_red h0 (fits_le (Nat.div_le_self _ _) (Nat.div_le_self _ _) hn hd)
theorem atB_rat {pa qa pb qb : Nat} (ga : Nm.Good pa qa) (gb : Nm.Good pb qb) : atB (ratP pa qa) (ratP pb qb) = decide (pa * qb ≤ pb * qa) := by
 unfold atB; rw [cmpV_rat ga gb, decide_eq_decide]; unfold Nm.cmpN
 split <;> (try split) <;> omega
end Go.Proofs.YtnjjdiilkhdbeaaDoor
namespace Go.Proofs.YtnjjdiilkhdbeaaDoor
open Go Go.RowKit
end Go.Proofs.YtnjjdiilkhdbeaaDoor
namespace Go.Proofs.YtnjjdiilkhdbeaaDoor
open Go Go.RowKit
/-- n by d in lowest form -/
def redP (n d : Nat) : LP := ratP (n / Nat.gcd n d) (d / Nat.gcd n d)
theorem red_num {n d n' d' : Nat} (hd : 0 < d) (hd' : 0 < d') (h : n * d' = n' * d) : n / Nat.gcd n d = n' / Nat.gcd n' d' := by
 have e1 : n * d' / Nat.gcd (n * d') (d * d') = n / Nat.gcd n d := by rw [Nat.gcd_mul_right, Nat.mul_div_mul_right _ _ hd']
 have e2 : n' * d / Nat.gcd (n' * d) (d' * d) = n' / Nat.gcd n' d' := by rw [Nat.gcd_mul_right, Nat.mul_div_mul_right _ _ hd]
 rw [← e1, ← e2, h, Nat.mul_comm d d']
theorem red_den {n d n' d' : Nat} (hd : 0 < d) (hd' : 0 < d') (h : n * d' = n' * d) : d / Nat.gcd n d = d' / Nat.gcd n' d' := by
 have e1 : d * d' / Nat.gcd (n * d') (d * d') = d / Nat.gcd n d := by rw [Nat.gcd_mul_right, Nat.mul_div_mul_right _ _ hd']
 have e2 : d' * d / Nat.gcd (n' * d) (d' * d) = d' / Nat.gcd n' d' := by rw [Nat.gcd_mul_right, Nat.mul_div_mul_right _ _ hd]
 rw [← e1, ← e2, h, Nat.mul_comm d d']
theorem redP_eq {n d n' d' : Nat} (hd : 0 < d) (hd' : 0 < d') (h : n * d' = n' * d) : redP n d = redP n' d' := by
 unfold redP; rw [red_num hd hd' h, red_den hd hd' h]
theorem resP_red {n d n' d' : Nat} (hd : 0 < d) (hd' : 0 < d') (h : n * d' = n' * d) (hn : n' < Nm.B ^ 64) (hd2 : d' < Nm.B ^ 64) : resP n d = (0, redP n' d') := by
 have h1 : resP n d = resP n' d' := by
  unfold resP; rw [red_num hd hd' h, red_den hd hd' h]
 rw [h1, resP_small hn hd2]; rfl
/-- a ratio n by d -/
structure Frac (x : LP) (n d : Nat) : Prop where
 pos : 0 < d
 hn : n < Nm.B ^ 64
 hd : d < Nm.B ^ 64
 eq : x = redP n d
theorem Frac.parts {x : LP} {n d : Nat} (h : Frac x n d) : ∃ a b g, x = ratP a b ∧ Nm.Good a b ∧ n = a * g ∧ d = b * g ∧ 0 < g :=
 ⟨_, _, Nat.gcd n d, h.eq, red_good h.pos h.hn h.hd, (Nat.div_mul_cancel (Nat.gcd_dvd_left _ _)).symm, (Nat.div_mul_cancel (Nat.gcd_dvd_right _ _)).symm, Nat.gcd_pos_of_pos_right _ h.pos⟩
theorem Frac.of_good {p q : Nat} (g : Nm.Good p q) : Frac (ratP p q) p q := by
 obtain ⟨h1, h2⟩ := good_lt g; refine ⟨g.1, h1, h2, ?_⟩; have n1 := numL_rat g; have n2 := numL_rat (red_good g.1 h1 h2); have e := redP_eq (n := p) (d := q) (n' := p) (d' := q) g.1 g.1 rfl; unfold redP; have hc : Nat.gcd p q = 1 := g.gcd; rw [hc, Nat.div_one, Nat.div_one]
theorem Frac.scale {x : LP} {n d m e : Nat} (h : Frac x n d) (he : 0 < e) (hm : m < Nm.B ^ 64) (hE : e < Nm.B ^ 64) (hc : n * e = m * d) : Frac x m e :=
 ⟨he, hm, hE, by rw [h.eq]; exact redP_eq h.pos he hc⟩
theorem Frac.uniq {x y : LP} {n d m e : Nat} (h : Frac x n d) (h2 : Frac y m e) (hc : n * e = m * d) : x = y := by rw [h.eq, h2.eq]; exact redP_eq h.pos h2.pos hc
theorem Frac.one {d : Nat} (h : 0 < d) (hd : d < Nm.B ^ 64) : Frac oneP d d := (Frac.of_good Good_one).scale h hd hd (by omega)
theorem Frac.nil {d : Nat} (h : 0 < d) (hd : d < Nm.B ^ 64) : Frac nilP 0 d := by
 rw [← nil_ratP]; exact (Frac.of_good g01).scale h (by omega) hd (by omega)
theorem Frac.okP {x : LP} {n d : Nat} (h : Frac x n d) : okP x := by
 obtain ⟨a, b, g, rfl, ga, _⟩ := h.parts; exact okP_lb
theorem Frac.add {x y : LP} {n d m : Nat} (hx : Frac x n d) (hy : Frac y m d) (h1 : n + m < Nm.B ^ 64) : Frac (addV x y) (n + m) d ∧ (addF x y).1 = 0 := by
 have p1 := hx.pos; have h2 := hx.hd; obtain ⟨a, b, g, rfl, ga, en, ed, hg⟩ := hx.parts; obtain ⟨c, f, k, rfl, gc, em, ef, hk⟩ := hy.parts; have hr := resP_red (n := a * f + c * b) (d := b * f) (n' := n + m) (d' := d) (Nat.mul_pos ga.1 gc.1) p1 (by rw [Nat.add_mul, Nat.add_mul]; congr 1; (rw [ed, en]; ac_rfl); (rw [ef, em]; ac_rfl)) h1 h2; have hm : addF (ratP a b) (ratP c f) = resP (a * f + c * b) (b * f) := by unfold addF; rw [binF_rat ga gc]
 refine ⟨⟨p1, h1, h2, ?_⟩, by rw [hm, hr]⟩; unfold addV; rw [hm, hr]
theorem Frac.le_iff {x y : LP} {n d m e : Nat} (hx : Frac x n d) (hy : Frac y m e) : ∃ a b c f g k, x = ratP a b ∧ y = ratP c f ∧ Nm.Good a b ∧ Nm.Good c f ∧ n * e = a * f * (g * k) ∧ m * d = c * b * (g * k) ∧ 0 < g * k := by
 obtain ⟨a, b, g, e1, ga, rfl, rfl, hg⟩ := hx.parts; obtain ⟨c, f, k, e2, gc, rfl, rfl, hk⟩ := hy.parts; exact ⟨a, b, c, f, g, k, e1, e2, ga, gc, by ac_rfl, by ac_rfl, Nat.mul_pos hg hk⟩
theorem Frac.sub {x y : LP} {n d m : Nat} (hx : Frac x n d) (hy : Frac y m d) (hle : m ≤ n) : Frac (subV x y) (n - m) d ∧ (subF x y).1 = 0 := by
 have p1 := hx.pos; have h2 := hx.hd; have h1 : n - m < Nm.B ^ 64 := Nat.lt_of_le_of_lt (Nat.sub_le _ _) hx.hn; obtain ⟨a, b, g, rfl, ga, en, ed, hg⟩ := hx.parts; obtain ⟨c, f, k, rfl, gc, em, ef, hk⟩ := hy.parts
 have hcb : c * b ≤ a * f := by
  refine Nat.le_of_mul_le_mul_right ?_ (Nat.mul_pos hg hk); have e1 : c * b * (g * k) = m * d := by rw [ed, em]; ac_rfl
  have e2 : a * f * (g * k) = n * d := by rw [ef, en]; ac_rfl
  rw [e1, e2]; exact Nat.mul_le_mul_right _ hle
 have hr := resP_red (n := a * f - c * b) (d := b * f) (n' := n - m) (d' := d) (Nat.mul_pos ga.1 gc.1) p1 (by rw [Nat.sub_mul, Nat.sub_mul]; congr 1; (rw [ed, en]; ac_rfl); (rw [ef, em]; ac_rfl)) h1 h2; have hm : subF (ratP a b) (ratP c f) = resP (a * f - c * b) (b * f) := by unfold subF; rw [binF_rat ga gc]; dsimp only; rw [if_neg (by omega)]
 refine ⟨⟨p1, h1, h2, ?_⟩, by rw [hm, hr]⟩; unfold subV; rw [hm, hr]
theorem Frac.at_ {x y : LP} {n d m e : Nat} (hx : Frac x n d) (hy : Frac y m e) : atB x y = decide (n * e ≤ m * d) := by
 obtain ⟨a, b, c, f, g, k, rfl, rfl, ga, gc, e1, e2, hp⟩ := hx.le_iff hy; rw [atB_rat ga gc, e1, e2, decide_eq_decide]; exact ⟨fun h => Nat.mul_le_mul_right _ h, fun h => Nat.le_of_mul_le_mul_right h hp⟩
end Go.Proofs.YtnjjdiilkhdbeaaDoor
namespace Go.Proofs.YtnjjdiilkhdbeaaDoor
open Go Go.RowKit
/-- the printed form of a valid ratio -/
def ratS (p q : Nat) : ByteArray := if q = 1 then Nm.decS p else Nm.decS p ++ { data := #[47] } ++ Nm.decS q
theorem decS_le {n e : Nat} (h : n < 10 ^ e) (he : 0 < e) : (Nm.decS n).size ≤ e := by
 have h1 : (Nm.decS n).size = (Nm.decD n).length := by
  unfold Nm.decS ByteArray.size; simp
 rw [h1]
 rcases Nat.eq_zero_or_pos n with h0 | h0
 ·subst h0; rw [Nm.decD_small (by omega)]; exact he
 ·rw [← Nm.pad_dec e n h h0]; have := (List.dropWhile_sublist (l := Nm.padD e n) (· == 0)).length_le
  rwa [Nm.padD_len] at this
theorem decS_size {n : Nat} (h : n < Nm.B ^ 64) : (Nm.decS n).size ≤ 1000 := by
 obtain ⟨e, he⟩ : ∃ e : Nat, e = 617 := ⟨_, rfl⟩; have h1 := decS_le (Nat.lt_of_lt_of_le h (Nm.lim_ten (e := e) (by omega))) (by omega); omega
def PhiPr (g : Nat) (A1 : Option Addr) (k1 c1 : Nat) (A2 : Option Addr) (k2 c2 : Nat) (s1 s2 : ByteArray) (j : Nat) (w : World) (x : Value) : Prop :=
 match j with
 | 0 => x = .pointer (some ⟨g, 0, none⟩)
 | 1 => x = .slice A1 k1 c1
 | 2 => x = .string s1
 | 3 => x = .string (s1 ++ { data := #[47] })
 | 4 => x = .pointer (some ⟨g, 1, none⟩)
 | 5 => x = .slice A2 k2 c2
 | 6 => x = .string s2
 | 7 => x = .string (s1 ++ { data := #[47] } ++ s2)
 | 8 => x = .string (s1 ++ { data := #[47] } ++ s2)
 | 9 => x = .int .i64 0
 | _ => True
theorem PhiPr.keep {g : Nat} {A1 : Option Addr} {k1 c1 : Nat} {A2 : Option Addr} {k2 c2 : Nat} {s1 s2 : ByteArray} : ∀ (w w' : World), Below w.heap.size w w' → ∀ j x, PhiPr g A1 k1 c1 A2 k2 c2 s1 s2 j w x → PhiPr g A1 k1 c1 A2 k2 c2 s1 s2 j w' x := by
 intro w w' hb j x h; unfold PhiPr at h ⊢
 split <;> simp only at h ⊢
 all_goals exact h
set_option maxRecDepth 100000 in
set_option maxHeartbeats 4000000 in
theorem print_v (va : Value) (p q : Nat) (w : World) (ha : Rat w va p q) (ga : Nm.Good p q) :
  Calls Tryd.prog 53 #[va] w fun e w' => e = .returned (.tuple #[.string (ratS p q), .int .i64 0]) ∧ Below w.heap.size w w' := by
 obtain ⟨A1, k1, c1, A2, k2, c2, rfl⟩ := ha.shape; have hq := ga.pos
 go_enter Tryd.func53, Tryd.ntmps53
 go_upto_region 1 with fail; refine wp_name ?_; intro w1 HW1; have hb1 : Below w.heap.size w w1 := by rw [HW1.out]; exact bA _ _
 have hB1 : Blk w1 w.heap.size 28 #[.slice A1 k1 c1, .slice A2 k2 c2] := by rw [HW1.out]; exact Blk.new _ _ _
 obtain ⟨g, hg⟩ : ∃ g, Hid (g = w.heap.size) := ⟨_, rfl⟩; rw [← hg.out] at hB1 ⊢; have ha1 := ha.below hb1; have b0 := hB1.cell 0; have b1 := hB1.cell 1; simp only [List.getElem?_toArray, List.getElem?_cons_zero, List.getElem?_cons_succ] at b0 b1; clear HW1 hB1 ha hg; go_wp2_with fail; refine (valid_v ha1.rtl).mono ?_; rintro e w2 ⟨E, rfl, HE, hb2⟩; obtain rfl : E = 0 := by rw [HE.out]; exact Nm.validE_of ga
 have ha2 := ha1.below hb2; have b0 := cell_keep hb2 b0; have b1 := cell_keep hb2 b1; have hbw := Below.tr hb1 hb2; obtain ⟨h1, h2⟩ := ha2.nb; have hk1 : k1 ≤ 64 := by rw [h1.1]; exact ga.fits.1
 have hk2 : k2 ≤ 64 := by rw [h2.1]; exact ga.fits.2
 clear ha1 ha2 HE hb1 hb2; by_cases hq1 : q = 1
 ·subst hq1; have hk0 : k2 = 0 := by have := h2.1; simpa [Nm.dn_one, Nm.lb_zero] using this
  subst hk0; have HR : Hid (ratS p 1 = Nm.decS p) := by show _ = _; unfold ratS; rw [if_pos rfl]
  go_wp2_with fail; refine (decimal_n A1 k1 c1 p _ h1 hk1).mono ?_; rintro e w3 ⟨rfl, hb⟩; go_wp2_with fail; exact bodyPost_ret (v := .tuple #[.string (Nm.decS p), .int .i64 0]) (by simp [results, Tryd.results53, go_sem]) rfl ⟨by rw [HR.out], Below.tr hbw hb⟩
 ·have h2 := h2; rw [Nm.dn_ne hq1] at h2
  have hk0 : 0 < k2 := by
   rcases Nat.eq_zero_or_pos k2 with e | e
   ·exfalso
    have h3 := h2.1; rw [e] at h3; have h4 := List.eq_nil_of_length_eq_zero h3.symm; rw [Nm.lb_nil_iff] at h4; omega
   ·exact e
  have t1 : ((k2 : Int) == 0) = false := by simp; omega
  obtain ⟨s1, HS1⟩ : ∃ s, Hid (s = Nm.decS p) := ⟨_, rfl⟩; obtain ⟨s2, HS2⟩ : ∃ s, Hid (s = Nm.decS q) := ⟨_, rfl⟩; have HR : Hid (ratS p q = s1 ++ { data := #[47] } ++ s2) := by show _ = _; unfold ratS; rw [if_neg hq1, HS1.out, HS2.out]
  have HSZ : Hid (s1.size ≤ 1000 ∧ s2.size ≤ 1000) := ⟨by rw [HS1.out]; exact decS_size (good_lt ga).1, by rw [HS2.out]; exact decS_size (good_lt ga).2⟩; have hs1 := HSZ.out.1; have hs2 := HSZ.out.2; have hn1 : ¬ (9223372036854775807 < s1.size + 1) := by omega
  have hn2 : ¬ (9223372036854775807 < s1.size + 1 + s2.size) := by omega
  go_upto_region 6 with fail; refine region_invF (PhiPr g A1 k1 c1 A2 k2 c2 s1 s2) (fun w w' => Below w.heap.size w w') (fun W => Below w2.heap.size w2 W) (by kernel_rfl) (by kernel_rfl) (by kernel_rfl) PhiPr.keep (fun _ _ hR hS => Below.tr hS hR) (bD _) (fun vs => by simp only [fillR, Act.put, sA, sB, sC, Nat.zero_add, Nat.reduceAdd]; rfl) ?_ ?_
  ·refine sK ?_ (sK ?_ (sK ?_ (sK ?_ (sK ?_ (sK ?_ (sK ?_ (sK ?_ (sK ?_ (sK ?_ (sZ))))))))))
   ·as_aux_lemma =>
    intro vs W hS hdep K hK; refine ⟨?_⟩; simp only [Act.put, sA, sB, sC, Nat.zero_add, Nat.reduceAdd] at hK ⊢; go_simp; with_reducible refine hK _ _ (Below.refl _ _) ?_
    exact rfl
   ·as_aux_lemma =>
    intro vs W hS hdep K hK; have d0 := hdep ⟨0, .data⟩ (by simp) rfl; simp only [PhiPr] at d0; have f1 := cell_keep hS b0; refine ⟨?_⟩; simp only [Act.put, sA, sB, sC, Nat.zero_add, Nat.reduceAdd, d0] at hK ⊢; go_simp; with_reducible refine hK _ _ (Below.refl _ _) ?_
    exact rfl
   ·as_aux_lemma =>
    intro vs W hS hdep K hK; have d0 := hdep ⟨1, .data⟩ (by simp) rfl; simp only [PhiPr] at d0; refine ⟨?_⟩; simp only [Act.put, sA, sB, sC, Nat.zero_add, Nat.reduceAdd, d0] at hK ⊢; go_simp; refine (decimal_n A1 k1 c1 p _ (h1.below hS) hk1).mono ?_; rintro e w' ⟨rfl, hb⟩; go_wp2_with fail; with_reducible refine hK _ _ hb ?_
    exact (congrArg Value.string HS1.out.symm)
   ·as_aux_lemma =>
    intro vs W hS hdep K hK; have d0 := hdep ⟨2, .data⟩ (by simp) rfl; simp only [PhiPr] at d0; refine ⟨?_⟩; simp only [Act.put, sA, sB, sC, Nat.zero_add, Nat.reduceAdd, d0] at hK ⊢; go_simp; with_reducible refine hK _ _ (Below.refl _ _) ?_
    exact rfl
   ·as_aux_lemma =>
    intro vs W hS hdep K hK; refine ⟨?_⟩; simp only [Act.put, sA, sB, sC, Nat.zero_add, Nat.reduceAdd] at hK ⊢; go_simp; with_reducible refine hK _ _ (Below.refl _ _) ?_
    exact rfl
   ·as_aux_lemma =>
    intro vs W hS hdep K hK; have d0 := hdep ⟨4, .data⟩ (by simp) rfl; simp only [PhiPr] at d0; have f1 := cell_keep hS b1; refine ⟨?_⟩; simp only [Act.put, sA, sB, sC, Nat.zero_add, Nat.reduceAdd, d0] at hK ⊢; go_simp; with_reducible refine hK _ _ (Below.refl _ _) ?_
    exact rfl
   ·as_aux_lemma =>
    intro vs W hS hdep K hK; have d0 := hdep ⟨5, .data⟩ (by simp) rfl; simp only [PhiPr] at d0; have d1 := hdep ⟨2, .chain⟩ (by simp) rfl; simp only [PhiPr] at d1; refine ⟨?_⟩; simp only [Act.put, sA, sB, sC, Nat.zero_add, Nat.reduceAdd, d0, d1] at hK ⊢; go_simp; refine (decimal_n A2 k2 c2 q _ (h2.below hS) hk2).mono ?_; rintro e w' ⟨rfl, hb⟩; go_wp2_with fail; with_reducible refine hK _ _ hb ?_
    exact (congrArg Value.string HS2.out.symm)
   ·as_aux_lemma =>
    intro vs W hS hdep K hK; have d0 := hdep ⟨3, .data⟩ (by simp) rfl; simp only [PhiPr] at d0; have d1 := hdep ⟨6, .data⟩ (by simp) rfl; simp only [PhiPr] at d1; refine ⟨?_⟩; simp only [Act.put, sA, sB, sC, Nat.zero_add, Nat.reduceAdd, d0, d1] at hK ⊢; go_simp; with_reducible refine hK _ _ (Below.refl _ _) ?_
    exact rfl
   ·as_aux_lemma =>
    intro vs W hS hdep K hK; have d0 := hdep ⟨7, .data⟩ (by simp) rfl; simp only [PhiPr] at d0; have d1 := hdep ⟨6, .chain⟩ (by simp) rfl; simp only [PhiPr] at d1; refine ⟨?_⟩; simp only [Act.put, sA, sB, sC, Nat.zero_add, Nat.reduceAdd, d0, d1] at hK ⊢; go_simp; with_reducible refine hK _ _ (Below.refl _ _) ?_
    exact rfl
   ·as_aux_lemma =>
    intro vs W hS hdep K hK; have d0 := hdep ⟨8, .chain⟩ (by simp) rfl; simp only [PhiPr] at d0; refine ⟨?_⟩; simp only [Act.put, sA, sB, sC, Nat.zero_add, Nat.reduceAdd, d0] at hK ⊢; go_simp; with_reducible refine hK _ _ (Below.refl _ _) ?_
    exact rfl
  intro vs w3 hb hv; have v8 := hv 8 (by simp); have v9 := hv 9 (by simp); simp only [PhiPr] at v8 v9; simp only [Act.put, sA, sB, sC, Nat.zero_add, Nat.reduceAdd, v8, v9]; go_wp2_with fail; exact bodyPost_ret (v := .tuple #[.string (s1 ++ { data := #[47] } ++ s2), .int .i64 0]) (by simp [results, Tryd.results53, go_sem]) rfl ⟨by rw [HR.out], Below.tr hbw hb⟩
end Go.Proofs.YtnjjdiilkhdbeaaDoor
namespace Go.Proofs.YtnjjdiilkhdbeaaDoor
open Go Go.RowKit
def numP (s : ByteArray) : List Nat := Nm.lb (numV s.data.toList)
def fitN (s : ByteArray) : Bool := decide (s.size ≤ 617) && decide ((numP s).length ≤ 64)
def parseF (s : ByteArray) : Int × LP :=
 if rowB (cutA s) = false ∨ (cutY s = true ∧ rowB (cutZ s) = false) then (2, nilP)
 else if fitN (cutA s) = false ∨ fitN (cutZ s) = false then (4, nilP)
 else if validP (numP (cutA s), numP (cutZ s)) ≠ 0 ∨ (cutY s = true ∧ numP (cutZ s) = []) then (1, nilP)
 else (0, (numP (cutA s), numP (cutZ s)))
theorem number_F (s : ByteArray) (w : World) (hs : s.size ≤ 9223372036854775807) (hd : Hid (∀ b ∈ s.data.toList, 48 ≤ b.toNat ∧ b.toNat ≤ 57)) :
  Calls Tryd.prog 84 #[.string s] w fun e w' => ∃ A k c, e = .returned (.tuple #[.slice A k c, .bool (fitN s)]) ∧ (fitN s = true → Nb w' A k c (numV s.data.toList)) ∧ Below w.heap.size w w' := by
 by_cases h : s.size ≤ 617
 ·refine (number_n s w h hd).mono ?_; rintro e w' ⟨A, k, c, rfl, hn, hk, hb⟩
  have e : decide (k ≤ 64) = fitN s := by
   unfold fitN numP; rw [hn.1, decide_eq_true h, Bool.true_and]
  exact ⟨A, k, c, by rw [e], fun _ => hn, hb⟩
 ·refine (number_long s w hs (by omega)).mono ?_; rintro e w' ⟨rfl, rfl⟩
  have e : fitN s = false := by
   unfold fitN; rw [decide_eq_false h]; rfl
  exact ⟨none, 0, 0, by rw [e], fun h2 => (by rw [e] at h2; cases h2), Below.refl _ _⟩
theorem valid_P (va : Value) (x : LP) (w : World) (h : RtP w va x) : Calls Tryd.prog 10 #[va] w fun e w' => e = .returned (.int .i64 (validP x)) ∧ Below w.heap.size w w' := by
 obtain ⟨A1, k1, c1, A2, k2, c2, rfl, h1, h2, e1, e2⟩ := h; exact valid_any A1 A2 k1 c1 k2 c2 _ _ w h1 h2 e1 e2
theorem row_digits {s : ByteArray} (h : rowB s = true) : ∀ b ∈ s.data.toList, 48 ≤ b.toNat ∧ b.toNat ≤ 57 := by
 unfold rowB at h; rw [decide_eq_true_iff] at h; intro b hb; obtain ⟨i, hi, rfl⟩ := List.getElem_of_mem hb; have hi2 : i < s.size := by rw [Array.length_toList] at hi; exact hi
 have h1 := h.2.2 i hi2; unfold dgN at h1; rw [decide_eq_true_iff] at h1
 have e : s.data.toList[i] = s[i] := by
  have := bytes_get hi2; rw [List.getElem?_eq_getElem hi] at this; exact Option.some.inj this
 rw [e]; omega
theorem cutA_size (s : ByteArray) : (cutA s).size ≤ s.size := by
 unfold cutA
 split
 ·rw [ByteArray.size_extract]; omega
 ·exact Nat.le_refl _
theorem cutZ_size (s : ByteArray) : (cutZ s).size ≤ s.size := by
 unfold cutZ
 split
 ·rw [ByteArray.size_extract]; omega
 ·exact Nat.zero_le _
theorem cutZ_no {s : ByteArray} (h : cutY s = false) : cutZ s = { data := #[] } := by
 unfold cutY at h; unfold cutZ; rw [if_neg (by simpa using h)]
set_option maxRecDepth 100000 in
set_option maxHeartbeats 8000000 in
theorem parse_F (s : ByteArray) (w : World) (hs : s.size ≤ 9223372036854775807) :
  Calls Tryd.prog 54 #[.string s] w fun e w' => ∃ v, e = .returned (.tuple #[v, .int .i64 (parseF s).1]) ∧ RtP w' v (parseF s).2 ∧ Below w.heap.size w w' := by
 obtain ⟨a, HA⟩ : ∃ a, Hid (a = cutA s) := ⟨_, rfl⟩; obtain ⟨z, HZ⟩ : ∃ z, Hid (z = cutZ s) := ⟨_, rfl⟩; obtain ⟨y, HY⟩ : ∃ y, Hid (y = cutY s) := ⟨_, rfl⟩; have ha : a.size ≤ 9223372036854775807 := by rw [HA.out]; have := cutA_size s; omega
 have hz : z.size ≤ 9223372036854775807 := by rw [HZ.out]; have := cutZ_size s; omega
 go_enter Tryd.func54, Tryd.ntmps54
 go_upto_region 1 with fail; refine wp_name ?_; intro w1 HW1; have hb1 : Below w.heap.size w w1 := by rw [HW1.out]; exact bA _ _
 have hsl : Sl w1 w.heap.size := by rw [HW1.out]; exact ⟨none, 0, 0, none, 0, 0, Blk.new _ _ _⟩
 obtain ⟨gr, hgrr⟩ : ∃ g, Hid (g = w.heap.size) := ⟨_, rfl⟩; have hgr : w.heap.size ≤ gr := by have := hgrr.out; omega
 rw [← hgrr.out] at hsl ⊢; have HC := cut_n s w1 hs; rw [← HA.out, ← HZ.out, ← HY.out] at HC; have HC := Lib.hid HC; clear HW1 hgrr; go_wp2_with fail; refine HC.out.mono ?_; rintro e w2 ⟨rfl, hb2⟩; have hsl := hsl.below hb2; have hbw := Below.tr hb1 hb2; clear HC hb1 hb2; go_wp2_with fail; refine (row_n a w2 ha).mono ?_; rintro e w' ⟨rfl, hw⟩; obtain rfl := hw
 cases hra : rowB a
 ·have HF : Hid (parseF s = (2, nilP)) := by
   show _ = _
   unfold parseF; rw [if_pos (.inl (by rw [← HA.out]; exact hra))]
  obtain ⟨A, k', c', A', k'', c'', he, ⟨a1, u1⟩, ⟨a2, u2⟩, u3, u4, z1, z2, hr, hbz⟩ := ret_ratio (w0 := w) (nil_rtP w2) hsl hgr hbw; simp only [nilRat, Value.agg.injEq, Array.mk.injEq, List.cons.injEq, and_true, Value.slice.injEq] at he; obtain ⟨⟨rfl, rfl, rfl⟩, rfl, rfl, rfl⟩ := he; go_wp2_with fail; exact bodyPost_ret (v := .tuple #[.agg #[.slice none 0 0, .slice none 0 0], .int .i64 2]) (by simp [results, Tryd.results54, go_sem, z1, z2]) rfl ⟨_, by rw [HF.out], by rw [HF.out]; exact hr, hbz⟩
 ·have HDA : Hid (∀ b ∈ a.data.toList, 48 ≤ b.toNat ∧ b.toNat ≤ 57) := row_digits hra; have HRA := Lib.hid hra; clear hra
  cases y
  ·have HYY : Hid (cutY s = false) := HY.out.symm
   have HDZ : Hid (∀ b ∈ z.data.toList, 48 ≤ b.toNat ∧ b.toNat ≤ 57) := by
    show ∀ b ∈ _, _
    rw [HZ.out, cutZ_no HYY.out]; intro b hb
    cases hb
   have HN : Hid (¬ (rowB (cutA s) = false ∨ (cutY s = true ∧ rowB (cutZ s) = false))) := by
    show ¬ _
    rw [← HA.out, HRA.out, HYY.out]; simp
   have HP4 : Hid (fitN a = false ∨ fitN z = false → parseF s = (4, nilP)) := fun h => by
    rw [HA.out, HZ.out] at h; unfold parseF; rw [if_neg HN.out, if_pos h]
   have HP1 : Hid (fitN a = true ∧ fitN z = true → (validP (numP a, numP z) ≠ 0 ∨ (cutY s = true ∧ numP z = [])) → parseF s = (1, nilP)) := fun h h2 => by
    rw [HA.out, HZ.out] at h h2; unfold parseF; rw [if_neg HN.out, if_neg (by rw [h.1, h.2]; simp), if_pos h2]
   have HP0 : Hid (fitN a = true ∧ fitN z = true → validP (numP a, numP z) = 0 → (cutY s = true → numP z ≠ []) → parseF s = (0, (numP a, numP z))) := fun h h2 h3 => by
    rw [HA.out, HZ.out] at h h2 ⊢; rw [HZ.out] at h3; unfold parseF; rw [if_neg HN.out, if_neg (by rw [h.1, h.2]; simp), if_neg (fun h4 => h4.elim (fun h5 => h5 h2) (fun h5 => h3 h5.1 h5.2))]
   clear HN; go_wp2_with fail; refine (number_F a w2 ha HDA).mono ?_; rintro e wn ⟨A1, k1, c1, rfl, hn1, hbn⟩; have hsl := hsl.below hbn; have hbw := Below.tr hbw hbn; go_wp2_with fail; refine (number_F z wn hz HDZ).mono ?_; rintro e wm ⟨A2, k2, c2, rfl, hn2, hbm⟩; have hsl := hsl.below hbm; have hbw := Below.tr hbw hbm; have HN1 := Lib.hid hn1; have HN2 := Lib.hid hn2; clear hn1 hn2 hbn
   cases hf1 : fitN a
   ·have HF : Hid (parseF s = (4, nilP)) := HP4.out (.inl hf1); obtain ⟨A, k', c', A', k'', c'', he, ⟨a1, u1⟩, ⟨a2, u2⟩, u3, u4, z1, z2, hr, hbz⟩ := ret_ratio (w0 := w) (nil_rtP wm) hsl hgr hbw; simp only [nilRat, Value.agg.injEq, Array.mk.injEq, List.cons.injEq, and_true, Value.slice.injEq] at he; obtain ⟨⟨rfl, rfl, rfl⟩, rfl, rfl, rfl⟩ := he; go_wp2_with fail; exact bodyPost_ret (v := .tuple #[.agg #[.slice none 0 0, .slice none 0 0], .int .i64 4]) (by simp [results, Tryd.results54, go_sem, z1, z2]) rfl ⟨_, by rw [HF.out], by rw [HF.out]; exact hr, hbz⟩
   ·cases hf2 : fitN z
    ·have HF : Hid (parseF s = (4, nilP)) := HP4.out (.inr hf2); obtain ⟨A, k', c', A', k'', c'', he, ⟨a1, u1⟩, ⟨a2, u2⟩, u3, u4, z1, z2, hr, hbz⟩ := ret_ratio (w0 := w) (nil_rtP wm) hsl hgr hbw; simp only [nilRat, Value.agg.injEq, Array.mk.injEq, List.cons.injEq, and_true, Value.slice.injEq] at he; obtain ⟨⟨rfl, rfl, rfl⟩, rfl, rfl, rfl⟩ := he; go_wp2_with fail; exact bodyPost_ret (v := .tuple #[.agg #[.slice none 0 0, .slice none 0 0], .int .i64 4]) (by simp [results, Tryd.results54, go_sem, z1, z2]) rfl ⟨_, by rw [HF.out], by rw [HF.out]; exact hr, hbz⟩
    ·have hA := (HN1.out hf1).below hbm; have hZ := HN2.out hf2; have HFI := Lib.hid (And.intro hf1 hf2); have HZL : Hid (k2 = (numP z).length) := hZ.1; have hrt : RtP wm (.agg #[.slice A1 k1 c1, .slice A2 k2 c2]) (numP a, numP z) := ⟨_, _, _, _, _, _, rfl, hA.2, hZ.2, hA.1, hZ.1⟩; clear HN1 HN2 hA hZ hbm hf1 hf2; go_upto_region 9 with fail; refine wp_name ?_; intro wv HWV; have hb := bA wm (.cells #[.slice A1 k1 c1, .slice A2 k2 c2] 28); rw [← HWV.out] at hb; have hBV : Blk wv wm.heap.size 28 #[.slice A1 k1 c1, .slice A2 k2 c2] := by rw [HWV.out]; exact Blk.new _ _ _
     have hrt := hrt.below hb; have hsl := hsl.below hb; have hbw := Below.tr hbw hb; obtain ⟨gV, hgV⟩ : ∃ g, Hid (g = wm.heap.size) := ⟨_, rfl⟩; rw [← hgV.out] at hBV ⊢; have V0 := hBV.cell 0; have V1 := hBV.cell 1; simp only [List.getElem?_toArray, List.getElem?_cons_zero, List.getElem?_cons_succ] at V0 V1; clear HWV hBV hgV hb; go_wp2_with fail; refine (valid_P _ (numP a, numP z) _ hrt).mono ?_; rintro e wu ⟨rfl, hb⟩; have hrt := hrt.below hb; have hsl := hsl.below hb; have hbw := Below.tr hbw hb; have V0 := cell_keep hb V0; have V1 := cell_keep hb V1; clear hb; by_cases hv0 : validP (numP a, numP z) = 0
     ·have t5 : (validP (numP a, numP z) != 0) = false := by simpa using hv0
      have HF : Hid (parseF s = (0, (numP a, numP z))) := HP0.out HFI.out hv0 (fun e => by rw [HYY.out] at e; cases e); obtain ⟨A, k', c', A', k'', c'', he, ⟨a1, u1⟩, ⟨a2, u2⟩, u3, u4, z1, z2, hr, hbz⟩ := ret_ratio (w0 := w) hrt hsl hgr hbw; simp only [Value.agg.injEq, Array.mk.injEq, List.cons.injEq, and_true, Value.slice.injEq] at he; obtain ⟨⟨rfl, rfl, rfl⟩, rfl, rfl, rfl⟩ := he; go_wp2_with fail; exact bodyPost_ret (v := .tuple #[.agg #[.slice A1 k1 c1, .slice A2 k2 c2], .int .i64 0]) (by simp [results, Tryd.results54, go_sem, z1, z2]) rfl ⟨_, by rw [HF.out], by rw [HF.out]; exact hr, hbz⟩
     ·have t5 : (validP (numP a, numP z) != 0) = true := by simpa using hv0
      have HF : Hid (parseF s = (1, nilP)) := HP1.out HFI.out (.inl hv0); obtain ⟨A, k', c', A', k'', c'', he, ⟨a1, u1⟩, ⟨a2, u2⟩, u3, u4, z1, z2, hr, hbz⟩ := ret_ratio (w0 := w) (nil_rtP wu) hsl hgr hbw; simp only [nilRat, Value.agg.injEq, Array.mk.injEq, List.cons.injEq, and_true, Value.slice.injEq] at he; obtain ⟨⟨rfl, rfl, rfl⟩, rfl, rfl, rfl⟩ := he; go_wp2_with fail; exact bodyPost_ret (v := .tuple #[.agg #[.slice none 0 0, .slice none 0 0], .int .i64 1]) (by simp [results, Tryd.results54, go_sem, z1, z2]) rfl ⟨_, by rw [HF.out], by rw [HF.out]; exact hr, hbz⟩
  ·have HYY : Hid (cutY s = true) := HY.out.symm; go_wp2_with fail; refine (row_n z w2 hz).mono ?_; rintro e w' ⟨rfl, hw⟩; obtain rfl := hw
   cases hrz : rowB z
   ·have HF : Hid (parseF s = (2, nilP)) := by
     show _ = _
     unfold parseF; rw [if_pos (.inr ⟨HYY.out, by rw [← HZ.out]; exact hrz⟩)]
    obtain ⟨A, k', c', A', k'', c'', he, ⟨a1, u1⟩, ⟨a2, u2⟩, u3, u4, z1, z2, hr, hbz⟩ := ret_ratio (w0 := w) (nil_rtP w2) hsl hgr hbw; simp only [nilRat, Value.agg.injEq, Array.mk.injEq, List.cons.injEq, and_true, Value.slice.injEq] at he; obtain ⟨⟨rfl, rfl, rfl⟩, rfl, rfl, rfl⟩ := he; go_wp2_with fail; exact bodyPost_ret (v := .tuple #[.agg #[.slice none 0 0, .slice none 0 0], .int .i64 2]) (by simp [results, Tryd.results54, go_sem, z1, z2]) rfl ⟨_, by rw [HF.out], by rw [HF.out]; exact hr, hbz⟩
   ·have HDZ : Hid (∀ b ∈ z.data.toList, 48 ≤ b.toNat ∧ b.toNat ≤ 57) := row_digits hrz
    have HN : Hid (¬ (rowB (cutA s) = false ∨ (cutY s = true ∧ rowB (cutZ s) = false))) := by
     show ¬ _
     rw [← HA.out, HRA.out, ← HZ.out, hrz]; simp
    clear hrz
    have HP4 : Hid (fitN a = false ∨ fitN z = false → parseF s = (4, nilP)) := fun h => by
     rw [HA.out, HZ.out] at h; unfold parseF; rw [if_neg HN.out, if_pos h]
    have HP1 : Hid (fitN a = true ∧ fitN z = true → (validP (numP a, numP z) ≠ 0 ∨ (cutY s = true ∧ numP z = [])) → parseF s = (1, nilP)) := fun h h2 => by
     rw [HA.out, HZ.out] at h h2; unfold parseF; rw [if_neg HN.out, if_neg (by rw [h.1, h.2]; simp), if_pos h2]
    have HP0 : Hid (fitN a = true ∧ fitN z = true → validP (numP a, numP z) = 0 → (cutY s = true → numP z ≠ []) → parseF s = (0, (numP a, numP z))) := fun h h2 h3 => by
     rw [HA.out, HZ.out] at h h2 ⊢; rw [HZ.out] at h3; unfold parseF; rw [if_neg HN.out, if_neg (by rw [h.1, h.2]; simp), if_neg (fun h4 => h4.elim (fun h5 => h5 h2) (fun h5 => h3 h5.1 h5.2))]
    clear HN; go_wp2_with fail; refine (number_F a w2 ha HDA).mono ?_; rintro e wn ⟨A1, k1, c1, rfl, hn1, hbn⟩; have hsl := hsl.below hbn; have hbw := Below.tr hbw hbn; go_wp2_with fail; refine (number_F z wn hz HDZ).mono ?_; rintro e wm ⟨A2, k2, c2, rfl, hn2, hbm⟩; have hsl := hsl.below hbm; have hbw := Below.tr hbw hbm; have HN1 := Lib.hid hn1; have HN2 := Lib.hid hn2; clear hn1 hn2 hbn
    cases hf1 : fitN a
    ·have HF : Hid (parseF s = (4, nilP)) := HP4.out (.inl hf1); obtain ⟨A, k', c', A', k'', c'', he, ⟨a1, u1⟩, ⟨a2, u2⟩, u3, u4, z1, z2, hr, hbz⟩ := ret_ratio (w0 := w) (nil_rtP wm) hsl hgr hbw; simp only [nilRat, Value.agg.injEq, Array.mk.injEq, List.cons.injEq, and_true, Value.slice.injEq] at he; obtain ⟨⟨rfl, rfl, rfl⟩, rfl, rfl, rfl⟩ := he; go_wp2_with fail; exact bodyPost_ret (v := .tuple #[.agg #[.slice none 0 0, .slice none 0 0], .int .i64 4]) (by simp [results, Tryd.results54, go_sem, z1, z2]) rfl ⟨_, by rw [HF.out], by rw [HF.out]; exact hr, hbz⟩
    ·cases hf2 : fitN z
     ·have HF : Hid (parseF s = (4, nilP)) := HP4.out (.inr hf2); obtain ⟨A, k', c', A', k'', c'', he, ⟨a1, u1⟩, ⟨a2, u2⟩, u3, u4, z1, z2, hr, hbz⟩ := ret_ratio (w0 := w) (nil_rtP wm) hsl hgr hbw; simp only [nilRat, Value.agg.injEq, Array.mk.injEq, List.cons.injEq, and_true, Value.slice.injEq] at he; obtain ⟨⟨rfl, rfl, rfl⟩, rfl, rfl, rfl⟩ := he; go_wp2_with fail; exact bodyPost_ret (v := .tuple #[.agg #[.slice none 0 0, .slice none 0 0], .int .i64 4]) (by simp [results, Tryd.results54, go_sem, z1, z2]) rfl ⟨_, by rw [HF.out], by rw [HF.out]; exact hr, hbz⟩
     ·have hA := (HN1.out hf1).below hbm; have hZ := HN2.out hf2; have HFI := Lib.hid (And.intro hf1 hf2); have HZL : Hid (k2 = (numP z).length) := hZ.1; have hrt : RtP wm (.agg #[.slice A1 k1 c1, .slice A2 k2 c2]) (numP a, numP z) := ⟨_, _, _, _, _, _, rfl, hA.2, hZ.2, hA.1, hZ.1⟩; clear HN1 HN2 hA hZ hbm hf1 hf2; go_upto_region 9 with fail; refine wp_name ?_; intro wv HWV; have hb := bA wm (.cells #[.slice A1 k1 c1, .slice A2 k2 c2] 28); rw [← HWV.out] at hb; have hBV : Blk wv wm.heap.size 28 #[.slice A1 k1 c1, .slice A2 k2 c2] := by rw [HWV.out]; exact Blk.new _ _ _
      have hrt := hrt.below hb; have hsl := hsl.below hb; have hbw := Below.tr hbw hb; obtain ⟨gV, hgV⟩ : ∃ g, Hid (g = wm.heap.size) := ⟨_, rfl⟩; rw [← hgV.out] at hBV ⊢; have V0 := hBV.cell 0; have V1 := hBV.cell 1; simp only [List.getElem?_toArray, List.getElem?_cons_zero, List.getElem?_cons_succ] at V0 V1; clear HWV hBV hgV hb; go_wp2_with fail; refine (valid_P _ (numP a, numP z) _ hrt).mono ?_; rintro e wu ⟨rfl, hb⟩; have hrt := hrt.below hb; have hsl := hsl.below hb; have hbw := Below.tr hbw hb; have V0 := cell_keep hb V0; have V1 := cell_keep hb V1; clear hb; by_cases hv0 : validP (numP a, numP z) = 0
      ·have t5 : (validP (numP a, numP z) != 0) = false := by simpa using hv0
       by_cases hze : numP z = []
       ·have hk2 : k2 = 0 := by rw [HZL.out, hze]; rfl
        have HF : Hid (parseF s = (1, nilP)) := HP1.out HFI.out (.inr ⟨HYY.out, hze⟩); subst hk2; clear hze; obtain ⟨A, k', c', A', k'', c'', he, ⟨a1, u1⟩, ⟨a2, u2⟩, u3, u4, z1, z2, hr, hbz⟩ := ret_ratio (w0 := w) (nil_rtP wu) hsl hgr hbw; simp only [nilRat, Value.agg.injEq, Array.mk.injEq, List.cons.injEq, and_true, Value.slice.injEq] at he; obtain ⟨⟨rfl, rfl, rfl⟩, rfl, rfl, rfl⟩ := he; go_wp2_with fail; exact bodyPost_ret (v := .tuple #[.agg #[.slice none 0 0, .slice none 0 0], .int .i64 1]) (by simp [results, Tryd.results54, go_sem, z1, z2]) rfl ⟨_, by rw [HF.out], by rw [HF.out]; exact hr, hbz⟩
       ·have hk2 : k2 ≠ 0 := by rw [HZL.out]; exact fun e => hze (List.eq_nil_of_length_eq_zero e)
        have t6 : ((k2 : Int) == 0) = false := by simp; omega
        have HF : Hid (parseF s = (0, (numP a, numP z))) := HP0.out HFI.out hv0 (fun _ => hze); obtain ⟨A, k', c', A', k'', c'', he, ⟨a1, u1⟩, ⟨a2, u2⟩, u3, u4, z1, z2, hr, hbz⟩ := ret_ratio (w0 := w) hrt hsl hgr hbw; simp only [Value.agg.injEq, Array.mk.injEq, List.cons.injEq, and_true, Value.slice.injEq] at he; obtain ⟨⟨rfl, rfl, rfl⟩, rfl, rfl, rfl⟩ := he; go_wp2_with fail; exact bodyPost_ret (v := .tuple #[.agg #[.slice A1 k1 c1, .slice A2 k2 c2], .int .i64 0]) (by simp [results, Tryd.results54, go_sem, z1, z2]) rfl ⟨_, by rw [HF.out], by rw [HF.out]; exact hr, hbz⟩
      ·have t5 : (validP (numP a, numP z) != 0) = true := by simpa using hv0
       have HF : Hid (parseF s = (1, nilP)) := HP1.out HFI.out (.inl hv0); by_cases hk0 : k2 = 0
       ·have t6 : ((k2 : Int) == 0) = true := by simp; omega
        obtain ⟨A, k', c', A', k'', c'', he, ⟨a1, u1⟩, ⟨a2, u2⟩, u3, u4, z1, z2, hr, hbz⟩ := ret_ratio (w0 := w) (nil_rtP wu) hsl hgr hbw; simp only [nilRat, Value.agg.injEq, Array.mk.injEq, List.cons.injEq, and_true, Value.slice.injEq] at he; obtain ⟨⟨rfl, rfl, rfl⟩, rfl, rfl, rfl⟩ := he; go_wp2_with fail; exact bodyPost_ret (v := .tuple #[.agg #[.slice none 0 0, .slice none 0 0], .int .i64 1]) (by simp [results, Tryd.results54, go_sem, z1, z2]) rfl ⟨_, by rw [HF.out], by rw [HF.out]; exact hr, hbz⟩
       ·have t6 : ((k2 : Int) == 0) = false := by simp; omega
        obtain ⟨A, k', c', A', k'', c'', he, ⟨a1, u1⟩, ⟨a2, u2⟩, u3, u4, z1, z2, hr, hbz⟩ := ret_ratio (w0 := w) (nil_rtP wu) hsl hgr hbw; simp only [nilRat, Value.agg.injEq, Array.mk.injEq, List.cons.injEq, and_true, Value.slice.injEq] at he; obtain ⟨⟨rfl, rfl, rfl⟩, rfl, rfl, rfl⟩ := he; go_wp2_with fail; exact bodyPost_ret (v := .tuple #[.agg #[.slice none 0 0, .slice none 0 0], .int .i64 1]) (by simp [results, Tryd.results54, go_sem, z1, z2]) rfl ⟨_, by rw [HF.out], by rw [HF.out]; exact hr, hbz⟩
end Go.Proofs.YtnjjdiilkhdbeaaDoor
namespace Go.Proofs.YtnjjdiilkhdbeaaDoor.Nm
/-- the simplest number between two -/
def sim : Nat → Nat → Nat → Nat → Nat → Nat × Nat
 | 0, _, _, _, _ => (0, 1)
 | f + 1, an, ad, bn, bd => if an % ad = 0 then (an / ad, 1) else if (an / ad + 1) * bd ≤ bn then (an / ad + 1, 1) else
   ((an / ad) * (sim f bd (bn - an / ad * bd) ad (an % ad)).1 + (sim f bd (bn - an / ad * bd) ad (an % ad)).2, (sim f bd (bn - an / ad * bd) ad (an % ad)).1)
/-- what between is asked for -/
structure SimP (an ad bn bd : Nat) : Prop where
 ha : 0 < ad
 hb : 0 < bd
 le : an * bd ≤ bn * ad
theorem mul_le_cancel {a b c : Nat} (hc : 0 < c) (h : a * c ≤ b * c) : a ≤ b := Nat.le_of_mul_le_mul_right h hc
theorem SimP.q_le {an ad bn bd : Nat} (h : SimP an ad bn bd) : an / ad * bd ≤ bn := by
 refine mul_le_cancel h.ha ?_; have h1 : an / ad * ad ≤ an := Nat.div_mul_le_self an ad; have h2 := Nat.mul_le_mul_right bd h1
 calc an / ad * bd * ad = an / ad * ad * bd := by rw [Nat.mul_right_comm]
  _ ≤ an * bd := h2
  _ ≤ bn * ad := h.le
theorem SimP.q_lt {an ad bn bd : Nat} (h : SimP an ad bn bd) (hr : an % ad ≠ 0) : an / ad * bd < bn := by
 refine Nat.lt_of_mul_lt_mul_right (a := ad) ?_; have h0 := Nat.div_add_mod' an ad; have h1 : an / ad * ad < an := by omega
 have h2 := Nat.mul_lt_mul_of_pos_right h1 h.hb
 calc an / ad * bd * ad = an / ad * ad * bd := by rw [Nat.mul_right_comm]
  _ < an * bd := h2
  _ ≤ bn * ad := h.le
theorem SimP.next {an ad bn bd : Nat} (h : SimP an ad bn bd) (hr : an % ad ≠ 0) : SimP bd (bn - an / ad * bd) ad (an % ad) := by
 refine ⟨by have := h.q_lt hr; omega, by omega, ?_⟩; have h0 := Nat.div_add_mod' an ad; have h1 := h.le; have h2 : an * bd = an / ad * ad * bd + an % ad * bd := by rw [← Nat.add_mul, h0]
 rw [Nat.mul_sub, Nat.mul_comm bd (an % ad), Nat.mul_comm ad bn, ]; have h3 : ad * (an / ad * bd) = an / ad * ad * bd := by rw [Nat.mul_comm (an / ad) ad, Nat.mul_assoc]
 omega
theorem SimP.less {an ad bn bd : Nat} (h : SimP an ad bn bd) (hr : an % ad ≠ 0) (hn : ¬ (an / ad + 1) * bd ≤ bn) : (bn - an / ad * bd) + an % ad < ad + bd := by
 have h1 := Nat.mod_lt an h.ha; rw [Nat.add_mul] at hn; omega
/-- what the simplest number is -/
structure SimR (an ad bn bd : Nat) (r : Nat × Nat) : Prop where
 pos : 0 < r.2
 npos : 0 < an → 0 < r.1
 le : an * r.2 ≤ r.1 * ad
 ge : r.1 * bd ≤ bn * r.2
 gcd : Nat.gcd r.1 r.2 = 1
 na : r.1 ≤ an
 da : r.2 ≤ ad
 nb : r.1 ≤ bn
 db : r.2 ≤ bd
 least : ∀ m e, 0 < e → an * e ≤ m * ad → m * bd ≤ bn * e → r.1 ≤ m ∧ r.2 ≤ e
theorem sim_ok : ∀ (f an ad bn bd : Nat), SimP an ad bn bd → ad + bd ≤ f → SimR an ad bn bd (sim f an ad bn bd)
 | 0, _, _, _, _, h, hf => by have := h.ha; omega
 | f + 1, an, ad, bn, bd, h, hf => by
  have h0 := Nat.div_add_mod' an ad; have hml := Nat.mod_lt an h.ha; have hap := h.ha; have hbp := h.hb; have hq := h.q_le; have hless := h.less; have hnext := h.next; have hqlt := h.q_lt; have hle := h.le; rw [sim]; clear h; generalize an / ad = q at *; generalize an % ad = s at *; by_cases hs : s = 0
  ·rw [if_pos hs]; have ea : an = q * ad := by omega
   have hqn : q ≤ an := by rw [ea]; exact Nat.le_mul_of_pos_right _ hap
   refine ⟨by show 0 < 1; omega, fun hp => ?_, by show an * 1 ≤ q * ad; omega, by show q * bd ≤ bn * 1; omega, Nat.gcd_one_right q, hqn, hap, Nat.le_trans (Nat.le_mul_of_pos_right _ hbp) hq, hbp, fun m e he h1 h2 => ⟨?_, he⟩⟩
   ·show 0 < q
    rcases Nat.eq_zero_or_pos q with h1 | h1
    ·rw [h1] at ea; omega
    ·exact h1
   ·show q ≤ m
    rw [ea, Nat.mul_right_comm] at h1; exact Nat.le_trans (Nat.le_mul_of_pos_right _ he) (mul_le_cancel hap h1)
  ·rw [if_neg hs]
   have hqa : q + 1 ≤ an := by
    have : q * 1 ≤ q * ad := Nat.mul_le_mul_left _ hap; omega
   by_cases hn : (q + 1) * bd ≤ bn
   ·rw [if_pos hn]; refine ⟨by show 0 < 1; omega, fun _ => by show 0 < q + 1; omega, by show an * 1 ≤ (q + 1) * ad; rw [Nat.add_mul]; omega, by show (q + 1) * bd ≤ bn * 1; omega, Nat.gcd_one_right _, hqa, hap, Nat.le_trans (Nat.le_mul_of_pos_right _ hbp) hn, hbp, fun m e he h1 h2 => ⟨?_, he⟩⟩
    show q + 1 ≤ m
    have h3 : q * e * ad < m * ad := by
     refine Nat.lt_of_lt_of_le ?_ h1; have : q * ad < an := by omega
     calc q * e * ad = q * ad * e := by rw [Nat.mul_right_comm]
      _ < an * e := Nat.mul_lt_mul_of_pos_right this he
    have h4 : q * e < m := Nat.lt_of_mul_lt_mul_right h3; have h5 : q * 1 ≤ q * e := Nat.mul_le_mul_left _ he; omega
   ·rw [if_neg hn]; have IH := sim_ok f bd (bn - q * bd) ad s (hnext hs) (by have := hless hs hn; omega); obtain ⟨r, hr⟩ : ∃ r, r = sim f bd (bn - q * bd) ad s := ⟨_, rfl⟩; rw [← hr] at IH ⊢; have hql := hqlt hs; obtain ⟨B, hB⟩ : ∃ B, B = bn - q * bd := ⟨_, rfl⟩; have hbn : bn = q * bd + B := by omega
    rw [← hB] at IH; have n1 := IH.npos hbp; have hr2 := IH.pos; have i1 := IH.le; have i2 := IH.ge; refine ⟨n1, fun _ => by show 0 < q * r.1 + r.2; omega, ?_, ?_, ?_, ?_, IH.nb, ?_, ?_, fun m e he h1 h2 => ?_⟩
    ·show an * r.1 ≤ (q * r.1 + r.2) * ad
     rw [← h0, Nat.add_mul, Nat.add_mul, Nat.mul_right_comm q ad r.1, Nat.mul_comm s, Nat.mul_comm r.2]; omega
    ·show (q * r.1 + r.2) * bd ≤ bn * r.1
     rw [hbn, Nat.add_mul, Nat.add_mul, Nat.mul_right_comm q r.1 bd, Nat.mul_comm r.2, Nat.mul_comm B]; omega
    ·show Nat.gcd (q * r.1 + r.2) r.1 = 1
     rw [Nat.gcd_comm, Nat.add_comm, Nat.gcd_add_mul_right_right]; exact IH.gcd
    ·show q * r.1 + r.2 ≤ an
     have := Nat.mul_le_mul_left q IH.nb; have := IH.db; omega
    ·show q * r.1 + r.2 ≤ bn
     have := Nat.mul_le_mul_left q IH.na; have := IH.da; omega
    ·exact IH.na
    ·have hqm : q * e < m := by
      refine Nat.lt_of_mul_lt_mul_right (a := ad) (Nat.lt_of_lt_of_le ?_ h1); have : q * ad < an := by omega
      calc q * e * ad = q * ad * e := by rw [Nat.mul_right_comm]
       _ < an * e := Nat.mul_lt_mul_of_pos_right this he
     obtain ⟨t, ht⟩ : ∃ t, m = q * e + t := ⟨m - q * e, by omega⟩; have htp : 0 < t := by omega
     subst ht
     obtain ⟨g1, g2⟩ := IH.least e t htp (by
       rw [hbn, Nat.add_mul, Nat.add_mul, Nat.mul_right_comm q e bd, Nat.mul_comm t] at h2
       rw [Nat.mul_comm e B]; omega) (by
       rw [← h0, Nat.add_mul, Nat.add_mul, Nat.mul_right_comm q ad e, Nat.mul_comm s] at h1
       rw [Nat.mul_comm ad t]; omega)
     refine ⟨?_, g1⟩
     show q * r.1 + r.2 ≤ q * e + t
     have := Nat.mul_le_mul_left q g1; omega
/-- the simplest number between two -/
def simple (an ad bn bd : Nat) : Nat × Nat := sim (ad + bd) an ad bn bd
end Go.Proofs.YtnjjdiilkhdbeaaDoor.Nm
