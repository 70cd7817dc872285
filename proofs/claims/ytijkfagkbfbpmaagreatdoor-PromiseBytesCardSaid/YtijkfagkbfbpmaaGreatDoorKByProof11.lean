import Derived.Test.YtijkfagkbfbpmaaGreatDoorKByProof08
import Derived.Test.YtijkfagkbfbpmaaGreatDoorKByProof10
import Derived.Test.YtijkfagkbfbpmaaGreatDoorKByProof02
import Derived.Deep.CutRange
import Derived.Deep.CutBlock
import Derived.Deep.LoopGhost
import Derived.RegionTactic
import Derived.Deep.RegionHeld3
import Derived.Deep.QuietTactic
import Derived.BigQuiet
import Derived.Test.YtijkfagkbfbpmaaGreatDoorS0
set_option linter.unusedVariables false
set_option linter.unusedSimpArgs false
namespace Go.Proofs.YtijkfagkbfbpmaaGreatDoor
open Go.RowKit
theorem divide_n (A1 A2 : Option Addr) (c1 c2 k1 k2 n m : Nat) (w : World) (h1 : Nb w A1 k1 c1 n) (h2 : Nb w A2 k2 c2 m) (hl1 : k1 ≤ 65536) (hm : 0 < m) :
  Calls Tryz.prog 145 #[.slice A1 k1 c1, .slice A2 k2 c2] w fun e w' => ∃ A k c A' k' c', e = .returned (.tuple #[.slice A k c, .slice A' k' c']) ∧ Nb w' A k c (n / m) ∧ Nb w' A' k' c' (n % m) ∧ Below w.heap.size w w' := by
 have hk2 := h2.pos hm; by_cases hlt : n < m
 ·refine (divide_lt A1 A2 c1 c2 n m k1 k2 w h1.2 h2.2 h1.1 h2.1 (by omega) hlt).mono ?_; rintro e w' ⟨A, c, rfl, hl, hb⟩; exact ⟨none, 0, 0, A, k1, c, rfl, by rw [Nat.div_eq_of_lt hlt]; exact Nb.zero _, by rw [Nat.mod_eq_of_lt hlt]; exact ⟨h1.1, hl⟩, hb⟩
 ·by_cases h1k : k2 = 1
  ·subst h1k; refine (divide_small A1 A2 c1 c2 n m k1 w h1.2 h2.2 h1.1 h2.1 (by omega) (by omega)).mono ?_; rintro e w' ⟨A, k, A', k', rfl, e1, l1, e2, l2, hb⟩; exact ⟨A, k, k, A', k', k', rfl, ⟨e1, l1⟩, ⟨e2, l2⟩, hb⟩
  ·obtain ⟨m2, rfl⟩ : ∃ m2, k2 = m2 + 2 := ⟨k2 - 2, by omega⟩; refine (divide_big A1 A2 c1 c2 n m k1 m2 w h1.2 h2.2 h1.1 h2.1 (by omega) (by omega)).mono ?_; rintro e w' ⟨A, k, A', k', rfl, e1, l1, e2, l2, hb⟩; exact ⟨A, k, k, A', k', k', rfl, ⟨e1, l1⟩, ⟨e2, l2⟩, hb⟩
end Go.Proofs.YtijkfagkbfbpmaaGreatDoor
namespace Go.Proofs.YtijkfagkbfbpmaaGreatDoor
open Go.RowKit
set_option maxHeartbeats 1000000 in
theorem times_any (A1 A2 : Option Addr) (c1 c2 : Nat) (x y : List Nat) (w : World) (hx : Lim w A1 c1 x) (hy : Lim w A2 c2 y) (hxl : x.length ≤ 1048576) (hyl : y.length ≤ 1048576) :
  Calls Tryz.prog 147 #[.slice A1 x.length c1, .slice A2 y.length c2] w fun e w' => ∃ A n, e = .returned (.slice A n n) ∧ n = (Nm.lb (Nm.nv x * Nm.nv y)).length ∧ Lim w' A n (Nm.lb (Nm.nv x * Nm.nv y)) ∧ Below w.heap.size w w' := by
 have hmk := run_make32 (↑x.length + ↑y.length) (x.length + y.length) (by omega) (by omega)
 go_enter Tryz.func147, Tryz.ntmps147
 go_wp2
 go_loopw [20] (fun t wr => ∃ (i : Nat) (cs : List Nat), t = .int .i64 i ∧ i ≤ x.length ∧ Row wr w.heap.size cs ∧ Hid (cs.length = x.length + y.length ∧ Nm.nv cs = Nm.nv (x.take i) * Nm.nv y ∧ ∀ j, i + y.length ≤ j → cs.getD j 0 = 0) ∧ Below w.heap.size w wr) (fun t _ => x.length - (intOf t).toNat)
 case atStart => exact ⟨0, _, rfl, Nat.zero_le _, Row.new w _, ⟨by simp, by simp [Nm.nv_replicate, Nm.nv], fun j _ => Nm.getD_replicate _ _⟩, bA w _⟩
 case round =>
  obtain ⟨i, cs, rfl, hi, hrow, HI, hb⟩ := hrel; by_cases hlt : i < x.length
  ·obtain ⟨b, off, a, rfl, hc, ha, HA⟩ := (hx.below hb).get hlt
   go_wp2
   go_loopw [27, 8] (fun t v wr2 => ∃ (k : Nat) (ds : List Nat) (cy : Nat), t = .int .i64 k ∧ k ≤ y.length ∧ v = .int .u64 cy ∧ cy < 4294967296 ∧ Row wr2 w.heap.size ds ∧
    Hid (ds.length = x.length + y.length ∧ Nm.nv ds + Nm.B ^ (i + k) * cy = Nm.nv cs + Nm.B ^ i * (a * Nm.nv (y.take k)) ∧ ∀ j, i + y.length ≤ j → ds.getD j 0 = 0) ∧ Below w.heap.size w wr2) (fun t _ _ => y.length - (intOf t).toNat)
   case atStart => exact ⟨0, _, 0, rfl, Nat.zero_le _, rfl, by omega, hrow, ⟨HI.1, by simp [Nm.nv], HI.2.2⟩, hb⟩
   case round =>
    obtain ⟨k, ds, cy, rfl, hk, rfl, hcy, hrow2, HJ, hb2⟩ := hrel; by_cases hkt : k < y.length
    ·obtain ⟨b', off', a', rfl, hc', ha', HA'⟩ := (hy.below hb2).get hkt; obtain ⟨o, hco, hfo, ho, HO⟩ := hrow2.get (k := i + k) (by have := HJ.1; omega); obtain ⟨hp0, hpr⟩ := Nm.prod_bounds ha ha'
     go_wp2
     go_roundw
     case rel =>
      have e2 : ((↑a * ↑a' + ↑o + ↑cy) % 4294967296 : Int) = ((a * a' + o + cy) % 4294967296 : Nat) := by omega
      rw [e2]; have hltm := Nm.mul_carry_lt ha ha' ho hcy; have hlt2 : (a * a' + o + cy) / 4294967296 < 4294967296 := Nat.div_lt_of_lt_mul hltm; exact ⟨k + 1, _, (a * a' + o + cy) / 4294967296, by go_num, by omega, by congr 1, hlt2, hrow2.set_ _ _ (Nat.mod_lt _ (by omega)), Nm.times_round HJ hlt hkt HA' HO, hb2.setCell (Nat.le_refl _) _⟩
     case measure => simp [intOf]; omega
    ·obtain rfl : y.length = k := by omega
     obtain ⟨o, hco, hfo, ho, HO⟩ := hrow2.get (k := i + y.length) (by have := HJ.1; omega)
     go_wp2
     go_roundw
     case rel => exact ⟨i + 1, _, by go_num, by omega, hrow2.set_ _ _ hcy, Nm.times_outer hlt HI HJ HA, hb2.setCell (Nat.le_refl _) _⟩
     case measure => simp [intOf]; omega
  ·go_wp2_with (go_at_call 101; have hlen := HI.1; rw [← hlen]; refine (trim_any _ _ _ _ (hrow.lim (Nat.le_refl _) (by omega))).mono ?_; rintro e w' ⟨rfl, rfl⟩)
   go_ret; have hX : x.take i = x := List.take_of_length_le (by omega); have hN : Nm.nv cs = Nm.nv x * Nm.nv y := by rw [HI.2.1, hX]
   refine ⟨_, _, rfl, by rw [hN], ?_, hb⟩; rw [← hN]; exact (hrow.lim (Nat.le_refl _) (by rw [HI.1]; omega)).trim
end Go.Proofs.YtijkfagkbfbpmaaGreatDoor
namespace Go.Proofs.YtijkfagkbfbpmaaGreatDoor
open Go.RowKit
set_option maxHeartbeats 1000000 in
theorem clone_f (A : Option Addr) (c k : Nat) (l : List Nat) (w : World) (h : Lim w A c l) (hk : k = l.length) (hl : l.length ≤ 1048576) :
  Calls Tryz.prog 146 #[.slice A k c] w fun e w' => ∃ A' c', e = .returned (.slice A' k c') ∧ Lim w' A' c' l ∧ From w.heap.size A' ∧ Below w.heap.size w w' := by
 subst hk; obtain ⟨i0, hi0, hz0, hz1, hz2⟩ := info_parts u32_info
 rcases A with _ | ad
 ·have hl0 : l = [] := by
   rcases l with _ | ⟨x, l⟩
   ·rfl
   ·obtain ⟨b, off, hA, _⟩ := h.at_ (k := 0) (by simp)
    cases hA
  subst hl0; obtain rfl : c = 0 := h.2.2.2.2 rfl; clear hi0 hz0 hz1 hz2 i0; have hnil := fun w => Lib.run_eql_slice_nil (P := Tryz.prog) w 27 104 none 0 0 0 0 Tryz.underlying27
  simp only [Option.isNone_none] at hnil
  go_enter Tryz.func146, Tryz.ntmps146
  go_wp2
  go_ret; exact ⟨none, 0, rfl, ⟨fun h => absurd rfl h, Nat.le_refl _, by omega, h.limb, fun _ => rfl⟩, (fun _ _ h => by cases h), Below.refl _ _⟩
 ·have hnil := fun w => Lib.run_eql_slice_nil (P := Tryz.prog) w 27 104 (some ad) l.length c 0 0 Tryz.underlying27
  simp only [Option.isNone_some] at hnil; have hlen : (u32s l).length = l.length * 1 := by simp [u32s]
  have H := Lib.hid hlen; clear hlen
  go_enter Tryz.func146, Tryz.ntmps146
  go_wp2_with (at_builtin; refine wpList_append_any _ rfl (.tmp 5) (.tmp 6) _ rfl w.heap.size 104 i0 _ 1 4 Tryz.underlying27 hi0 hz0 hz1 hz2 rfl (by omega) (.slice (some ⟨w.heap.size, 0, none⟩) 0 0) 0 (u32s []) rfl (own_empty w) (some ad) l.length c (u32s l) rfl H.out (h.alloc _).1 (u32s_one l) (by simp only [maxLen]; omega) (by omega) (by simp) ?_; intro v1 w1 hown1 hg1 hat1)
  go_ret; rw [← u32s_append, List.nil_append] at hown1; obtain ⟨A', c', rfl, hlim, hfr⟩ := own_lim hown1 h.limb; refine ⟨A', c', rfl, hlim, hfr, ?_⟩; refine (bA w _).grown hg1 (by simp) (fun k hk => ?_); simp [Value.ownBlock] at hk; omega
theorem clone_n (A : Option Addr) (c k n : Nat) (w : World) (h : Nb w A k c n) (hl : k ≤ 65536) :
  Calls Tryz.prog 146 #[.slice A k c] w fun e w' => ∃ A' c', e = .returned (.slice A' k c') ∧ Nb w' A' k c' n ∧ From w.heap.size A' ∧ Below w.heap.size w w' := by
 refine (clone_f A c k _ w h.2 h.1 (by rw [← h.1]; omega)).mono ?_; rintro e w' ⟨A', c', rfl, hl, hf, hb⟩; exact ⟨A', c', rfl, ⟨h.1, hl⟩, hf, hb⟩
theorem isOne_g (A : Option Addr) (c k n : Nat) (w : World) (h : Nb w A k c n) :
  Calls Tryz.prog 102 #[.slice A k c] w fun e w' => ∃ b, e = .returned (.bool b) ∧ Hid (b = decide (n = 1)) ∧ w = w' := by
 obtain ⟨rfl, h2⟩ := h; refine (isOne_any A c _ w h2).mono ?_; rintro e w' ⟨rfl, rfl⟩; exact ⟨_, rfl, oneB_lb n, rfl⟩
theorem isOne_t (A : Option Addr) (c k n : Nat) (w : World) (h : Nb w A k c n) (hn : n = 1) :
  Calls Tryz.prog 102 #[.slice A k c] w fun e w' => e = .returned (.bool true) ∧ w = w' := by
 refine (isOne_g A c k n w h).mono ?_; rintro e w' ⟨b, rfl, hb, rfl⟩; rw [hb.out]; simp [hn]
theorem isOne_f (A : Option Addr) (c k n : Nat) (w : World) (h : Nb w A k c n) (hn : n ≠ 1) :
  Calls Tryz.prog 102 #[.slice A k c] w fun e w' => e = .returned (.bool false) ∧ w = w' := by
 refine (isOne_g A c k n w h).mono ?_; rintro e w' ⟨b, rfl, hb, rfl⟩; rw [hb.out]; simp [hn]
set_option maxRecDepth 10000 in
set_option maxHeartbeats 2000000 in
theorem common_n (A1 A2 : Option Addr) (c1 c2 k1 k2 x y : Nat) (w : World) (h1 : Nb w A1 k1 c1 x) (h2 : Nb w A2 k2 c2 y) (hl1 : k1 ≤ 65536) (hl2 : k2 ≤ 65536) :
  Calls Tryz.prog 103 #[.slice A1 k1 c1, .slice A2 k2 c2] w fun e w' => ∃ A k c, e = .returned (.slice A k c) ∧ Nb w' A k c (Nat.gcd x y) ∧ Below w.heap.size w w' := by
 obtain ⟨g, HG⟩ : ∃ g, Hid (g = Nat.gcd x y) := ⟨_, rfl⟩; rw [← HG.out]
 go_enter Tryz.func103, Tryz.ntmps103
 go_wp2_with fail
 go_loopg [0, 1] y (fun j a b wx => ∃ (A A' : Option Addr) (k c k' c' p q : Nat), a = .slice A k c ∧ b = .slice A' k' c' ∧ Nb wx A k c p ∧ Nb wx A' k' c' q ∧ k ≤ 65536 ∧ k' ≤ 65536 ∧ Hid (Nat.gcd p q = g) ∧ q = j ∧ Below w.heap.size w wx)
 case atStart => exact ⟨A1, A2, k1, c1, k2, c2, x, y, rfl, rfl, h1, h2, hl1, hl2, HG.out.symm, rfl, Below.refl _ _⟩
 case round =>
  clear h1 h2 hl1 hl2; obtain ⟨A, A', k, c, k', c', p, q, rfl, rfl, h1, h2, hl1, hl2, HR, rfl, hb⟩ := hrel
  rcases Nat.eq_zero_or_pos q with rfl | hq
  ·obtain rfl := h2.kzero; have e := HR.out; rw [Nat.gcd_zero_right] at e; rw [e] at h1; clear e; go_wp2_with fail; go_ret; exact ⟨A, k, c, rfl, h1, hb⟩
  ·have hk' := h2.pos hq; go_wp2_with fail; refine (divide_n _ _ _ _ _ _ p q _ h1 h2 hl1 hq).mono ?_; rintro e w3 ⟨A3, k3, c3, A4, k4, c4, rfl, hn3, hn4, hb3⟩; have hlt := Nat.mod_lt p hq; have hk4 : k4 ≤ 65536 := Nat.le_trans (hn4.lek (Nat.lt_trans hlt h2.lt)) hl2; have HR2 : Hid (Nat.gcd q (p % q) = g) := by show _ = _; rw [← HR.out, Nat.gcd_comm p q, Nat.gcd_rec q p, Nat.gcd_comm]
   obtain ⟨r, HRr⟩ : ∃ r, Hid (r = p % q) := ⟨_, rfl⟩; rw [← HRr.out] at hlt hn4 HR2; go_wp2_with fail
   go_roundg r
   case measure => exact hlt
   case rel => exact ⟨A', A4, k', c', k4, c4, q, r, rfl, rfl, h2.below hb3, hn4, hl2, hk4, HR2, rfl, Below.tr hb hb3⟩
set_option maxRecDepth 10000 in
set_option maxHeartbeats 2000000 in
theorem reduced_zero (A1 A2 : Option Addr) (c1 c2 k1 k2 d : Nat) (w : World) (h1 : Nb w A1 k1 c1 0) (hd : 0 < d) :
  Calls Tryz.prog 104 #[.slice A1 k1 c1, .slice A2 k2 c2] w fun e w' => ∃ v er, e = .returned (.tuple #[v, .int .i64 er]) ∧ RedP w' v er 0 d ∧ Below w.heap.size w w' := by
 obtain rfl : k1 = 0 := h1.kzero
 have hP : ∀ w' : World, RedP w' nilRat 0 0 d := fun w' => by
  refine .inl ⟨?_, rfl, none, 0, 0, none, 0, 0, rfl, ?_, ?_⟩
  ·rw [Nat.gcd_zero_left, Nat.zero_div, Nat.div_self hd]; exact ⟨by simp [Nm.lb_zero], by simp [Nm.dn_one, Nm.lb_zero]⟩
  ·rw [Nat.gcd_zero_left, Nat.zero_div]; exact Nb.zero _
  ·rw [Nat.gcd_zero_left, Nat.div_self hd, Nm.dn_one]; exact Nb.zero _
 have HP := Lib.hid hP; clear hP
 go_enter Tryz.func104, Tryz.ntmps104
 go_wp2
 exact bodyPost_ret (v := .tuple #[.agg #[.slice none 0 0, .slice none 0 0], .int .i64 0]) (by simp [results, Tryz.results104, go_sem]) rfl ⟨_, _, rfl, HP.out _, bA _ _⟩
set_option maxRecDepth 10000 in
set_option maxHeartbeats 2000000 in
theorem reduced_n (A1 A2 : Option Addr) (c1 c2 k1 k2 n d : Nat) (w : World) (h1 : Nb w A1 k1 c1 n) (h2 : Nb w A2 k2 c2 d) (hl1 : k1 ≤ 65536) (hl2 : k2 ≤ 65536) (hd : 0 < d) :
  Calls Tryz.prog 104 #[.slice A1 k1 c1, .slice A2 k2 c2] w fun e w' => ∃ v er, e = .returned (.tuple #[v, .int .i64 er]) ∧ RedP w' v er n d ∧ Below w.heap.size w w' := by
 rcases Nat.eq_zero_or_pos n with rfl | hn
 ·exact reduced_zero A1 A2 c1 c2 k1 k2 d w h1 hd
 have hk := h1.pos hn; have hi1 := Lib.hid (h1.in_ hn); have hi2 := Lib.hid (h2.in_ hd); obtain ⟨g, HG⟩ : ∃ g, Hid (g = Nat.gcd n d) := ⟨_, rfl⟩; have hg0 : 0 < g := by rw [HG.out]; exact Nat.gcd_pos_of_pos_right _ hd
 obtain ⟨p, HP⟩ : ∃ p, Hid (p = n / g) := ⟨_, rfl⟩; obtain ⟨q, HQ⟩ : ∃ q, Hid (q = d / g) := ⟨_, rfl⟩; have hcomm : Nat.gcd n d = g := by rw [HG.out]
 have HRP : Hid (∀ w' v er, ((Nm.Fits p q ∧ er = 0 ∧ Rat w' v p q) ∨ (¬ Nm.Fits p q ∧ er = 4 ∧ v = nilRat)) → RedP w' v er n d) := by
  intro w' v er h; unfold RedP; rw [hcomm, ← HP.out, ← HQ.out]; exact h
 clear hcomm
 go_enter Tryz.func104, Tryz.ntmps104
 go_wp2_with fail; refine (common_n _ _ _ _ _ _ n d _ (h1.alloc _) (h2.alloc _) (by omega) (by omega)).mono ?_; rintro e w1 ⟨A, k, c, rfl, hnb, hb⟩; rw [← HG.out] at hnb; have hgk : k ≤ 65536 := by have := hnb.lek (Nat.lt_of_le_of_lt (show g ≤ d by rw [HG.out]; exact Nat.gcd_le_right _ hd) h2.lt); omega
 have h1' := (h1.alloc (.cells #[.slice none 0 0, .slice none 0 0] 29)).below hb; have h2' := (h2.alloc (.cells #[.slice none 0 0, .slice none 0 0] 29)).below hb; have hw1 : w.heap.size < w1.heap.size := by have := hb.size; simp at this; omega
 go_wp2_with fail; refine (isOne_g _ _ _ _ _ hnb).mono ?_; rintro e w' ⟨b1, rfl, HB1, rfl⟩
 go_upto_if 16 with fail
 have hres := Res.below (Res.new w) hb; have hbw := Below.tr (bA w _) hb
 go_cut [0, 1] from 16 (fun a b wx => ∃ (A1 A2 : Option Addr) (k1 c1 k2 c2 : Nat), a = .slice A1 k1 c1 ∧ b = .slice A2 k2 c2 ∧ Nb wx A1 k1 c1 p ∧ Nb wx A2 k2 c2 q ∧ Res wx w.heap.size ∧ Below w.heap.size w wx)
 case first => as_aux_lemma =>
  go_wp2_with fail
  ·have hb1 : (!b1) = true := by assumption
   clear HB1; refine (divide_n _ _ _ _ _ _ n g _ h1' hnb (by omega) hg0).mono ?_; rintro e w3 ⟨A3, k3, c3, A4, k4, c4, rfl, hn3, hn4, hb3⟩; go_wp2_with fail; refine (divide_n _ _ _ _ _ _ d g _ (h2'.below hb3) (hnb.below hb3) (by omega) hg0).mono ?_; rintro e w5 ⟨A5, k5, c5, A6, k6, c6, rfl, hn5, hn6, hb5⟩; rw [← HP.out] at hn3; rw [← HQ.out] at hn5; go_wp2_with fail
   go_meet
   case rel => exact ⟨A3, A5, k3, c3, k5, c5, rfl, rfl, hn3.below hb5, hn5, (hres.below hb3).below hb5, Below.tr (Below.tr hbw hb3) hb5⟩
  ·have hb1 : (!b1) = false := by assumption
   have hg1 : g = 1 := by have := HB1.out; rw [this] at hb1; simpa using hb1
   have e1 : n = p := by rw [HP.out, hg1, Nat.div_one]
   have e2 : d = q := by rw [HQ.out, hg1, Nat.div_one]
   rw [e1] at h1'; rw [e2] at h2'; clear e1 e2 hg1
   go_meet
   case rel => exact ⟨A1, A2, k1, c1, k2, c2, rfl, rfl, h1', h2', hres, hbw⟩
 case rest => as_aux_lemma =>
  clear h1' h2' hnb hres hbw hb h1 h2 hk hl1 hl2 hi1 hi2 HB1 hgk hw1; obtain ⟨A1, A2, k1, c1, k2, c2, rfl, rfl, h1, h2, hres, hb⟩ := hcut; have HK1 := Lib.hid h1.1; have HK2 := Lib.hid h2.1; have hkb1 : k1 ≤ 9223372036854775807 := h1.le; have hkb2 : k2 ≤ 9223372036854775807 := h2.le; by_cases hq1 : q = 1
  ·have HX : Hid (Nm.dn q = 0) := by show _ = _; rw [hq1]; rfl
   have hz : ∀ wz, Nb wz none 0 0 (Nm.dn q) := fun wz => by rw [HX.out]; exact Nb.zero _
   have HQ1 := Lib.hid hq1; clear hq1; by_cases hs : k1 ≤ 64
   ·have hf : Nm.Fits p q := ⟨by rw [← HK1.out]; exact hs, by rw [HX.out]; simp [Nm.lb_zero]⟩; have hd1 : decide ((64 : Int) < (k1 : Int)) = false := by simp; omega
    go_wp2_with fail; refine (isOne_t _ _ _ _ _ h2 HQ1.out).mono ?_; rintro e w' ⟨rfl, rfl⟩; have hlt := hres.lt; go_wp2_with fail; refine (clone_n _ _ _ p _ h1 (by omega)).mono ?_; rintro e w3 ⟨A3, c3, rfl, hn3, hf3, hb3⟩; go_wp2_with fail; refine (clone_n _ _ _ (Nm.dn q) _ (hz _) (by omega)).mono ?_; rintro e w4 ⟨A4, c4, rfl, hn4, hf4, hb4⟩; have hb34 := Below.tr hb3 hb4; have hres4 := hres.below hb34; obtain ⟨r1, r2, r3, r4⟩ := hres4.facts; obtain ⟨s1, s2⟩ := hres4.set2 (.slice A3 k1 c3) (.slice A4 0 c4); have hfin := rat_set (g := w.heap.size) (hn3.below hb4) hn4 (fun b off hA e => by have := hf3 b off hA; omega) (fun b off hA e => by have := hf4 b off hA; have := hb3.size; omega) (.slice A3 k1 c3) (.slice A4 0 c4); have hbb := Below.tr hb hb34; clear hf3 hf4 hb34 hb3 hb4; go_wp2_with fail; exact bodyPost_ret (v := .tuple #[.agg #[.slice A3 k1 c3, .slice A4 0 c4], .int .i64 0]) (by simp [results, Tryz.results104, go_sem, s1, s2]) rfl ⟨_, _, rfl, HRP.out _ _ _ (.inl ⟨hf, rfl, hfin⟩), below_set2 hbb (Nat.le_refl _) _ _⟩
   ·have hf : ¬ Nm.Fits p q := fun h => hs (by rw [HK1.out]; exact h.1)
    obtain ⟨r1, r2, r3, r4⟩ := hres.facts; obtain ⟨s1, s2⟩ := hres.set2 (.slice none 0 0) (.slice none 0 0); have hd1 : decide ((64 : Int) < (k1 : Int)) = true := by simp; omega
    go_wp2_with fail; refine (isOne_t _ _ _ _ _ h2 HQ1.out).mono ?_; rintro e w' ⟨rfl, rfl⟩; go_wp2_with fail; exact bodyPost_ret (v := .tuple #[.agg #[.slice none 0 0, .slice none 0 0], .int .i64 4]) (by simp [results, Tryz.results104, go_sem, s1, s2]) rfl ⟨_, _, rfl, HRP.out _ _ _ (.inr ⟨hf, rfl, rfl⟩), below_set2 hb (Nat.le_refl _) _ _⟩
  ·have HX : Hid (Nm.dn q = q) := Nm.dn_ne hq1; have HQ1 := Lib.hid hq1; clear hq1; by_cases hs : k1 ≤ 64
   ·have hd1 : decide ((64 : Int) < (k1 : Int)) = false := by simp; omega
    by_cases hs2 : k2 ≤ 64
    ·have hf : Nm.Fits p q := ⟨by rw [← HK1.out]; exact hs, by rw [HX.out, ← HK2.out]; exact hs2⟩; have hd2 : decide ((64 : Int) < (k2 : Int)) = false := by simp; omega
     go_wp2_with fail; refine (isOne_f _ _ _ _ _ h2 HQ1.out).mono ?_; rintro e w' ⟨rfl, rfl⟩; have hlt := hres.lt; go_wp2_with fail; refine (clone_n _ _ _ p _ h1 (by omega)).mono ?_; rintro e w3 ⟨A3, c3, rfl, hn3, hf3, hb3⟩; go_wp2_with fail; refine (clone_n _ _ _ (Nm.dn q) _ (by rw [HX.out]; exact h2.below hb3) (by omega)).mono ?_; rintro e w4 ⟨A4, c4, rfl, hn4, hf4, hb4⟩; have hb34 := Below.tr hb3 hb4; have hres4 := hres.below hb34; obtain ⟨r1, r2, r3, r4⟩ := hres4.facts; obtain ⟨s1, s2⟩ := hres4.set2 (.slice A3 k1 c3) (.slice A4 k2 c4); have hfin := rat_set (g := w.heap.size) (hn3.below hb4) hn4 (fun b off hA e => by have := hf3 b off hA; omega) (fun b off hA e => by have := hf4 b off hA; have := hb3.size; omega) (.slice A3 k1 c3) (.slice A4 k2 c4); have hbb := Below.tr hb hb34; clear hf3 hf4 hb34 hb3 hb4; go_wp2_with fail; exact bodyPost_ret (v := .tuple #[.agg #[.slice A3 k1 c3, .slice A4 k2 c4], .int .i64 0]) (by simp [results, Tryz.results104, go_sem, s1, s2]) rfl ⟨_, _, rfl, HRP.out _ _ _ (.inl ⟨hf, rfl, hfin⟩), below_set2 hbb (Nat.le_refl _) _ _⟩
    ·have hf : ¬ Nm.Fits p q := fun h => hs2 (by rw [HK2.out]; have := h.2; rwa [HX.out] at this)
     obtain ⟨r1, r2, r3, r4⟩ := hres.facts; obtain ⟨s1, s2⟩ := hres.set2 (.slice none 0 0) (.slice none 0 0); have hd2 : decide ((64 : Int) < (k2 : Int)) = true := by simp; omega
     go_wp2_with fail; refine (isOne_f _ _ _ _ _ h2 HQ1.out).mono ?_; rintro e w' ⟨rfl, rfl⟩; go_wp2_with fail; exact bodyPost_ret (v := .tuple #[.agg #[.slice none 0 0, .slice none 0 0], .int .i64 4]) (by simp [results, Tryz.results104, go_sem, s1, s2]) rfl ⟨_, _, rfl, HRP.out _ _ _ (.inr ⟨hf, rfl, rfl⟩), below_set2 hb (Nat.le_refl _) _ _⟩
   ·have hf : ¬ Nm.Fits p q := fun h => hs (by rw [HK1.out]; exact h.1)
    obtain ⟨r1, r2, r3, r4⟩ := hres.facts; obtain ⟨s1, s2⟩ := hres.set2 (.slice none 0 0) (.slice none 0 0); have hd1 : decide ((64 : Int) < (k1 : Int)) = true := by simp; omega
    go_wp2_with fail; refine (isOne_f _ _ _ _ _ h2 HQ1.out).mono ?_; rintro e w' ⟨rfl, rfl⟩; go_wp2_with fail; exact bodyPost_ret (v := .tuple #[.agg #[.slice none 0 0, .slice none 0 0], .int .i64 4]) (by simp [results, Tryz.results104, go_sem, s1, s2]) rfl ⟨_, _, rfl, HRP.out _ _ _ (.inr ⟨hf, rfl, rfl⟩), below_set2 hb (Nat.le_refl _) _ _⟩
end Go.Proofs.YtijkfagkbfbpmaaGreatDoor
namespace Go.Proofs.YtijkfagkbfbpmaaGreatDoor
open Go.RowKit
set_option maxRecDepth 10000 in
set_option maxHeartbeats 2000000 in
theorem rreduced_zero (A1 A2 : Option Addr) (c1 c2 k1 k2 d : Nat) (w : World) (h1 : Nb w A1 k1 c1 0) (hd : 0 < d) :
  Calls Tryz.prog 112 #[.slice A1 k1 c1, .slice A2 k2 c2] w fun e w' => ∃ v er, e = .returned (.tuple #[v, .int .i64 er]) ∧ RedP w' v er 0 d ∧ Below w.heap.size w w' := by
 obtain rfl : k1 = 0 := h1.kzero
 have hP : ∀ w' : World, RedP w' nilRat 0 0 d := fun w' => by
  refine .inl ⟨?_, rfl, none, 0, 0, none, 0, 0, rfl, ?_, ?_⟩
  ·rw [Nat.gcd_zero_left, Nat.zero_div, Nat.div_self hd]; exact ⟨by simp [Nm.lb_zero], by simp [Nm.dn_one, Nm.lb_zero]⟩
  ·rw [Nat.gcd_zero_left, Nat.zero_div]; exact Nb.zero _
  ·rw [Nat.gcd_zero_left, Nat.div_self hd, Nm.dn_one]; exact Nb.zero _
 have HP := Lib.hid hP; clear hP
 go_enter Tryz.func112, Tryz.ntmps112
 go_wp2
 exact bodyPost_ret (v := .tuple #[.agg #[.slice none 0 0, .slice none 0 0], .int .i64 0]) (by simp [results, Tryz.results112, go_sem]) rfl ⟨_, _, rfl, HP.out _, bA _ _⟩
set_option maxRecDepth 10000 in
set_option maxHeartbeats 2000000 in
theorem rreduced_n (A1 A2 : Option Addr) (c1 c2 k1 k2 n d : Nat) (w : World) (h1 : Nb w A1 k1 c1 n) (h2 : Nb w A2 k2 c2 d) (hl1 : k1 ≤ 65536) (hl2 : k2 ≤ 65536) (hd : 0 < d) :
  Calls Tryz.prog 112 #[.slice A1 k1 c1, .slice A2 k2 c2] w fun e w' => ∃ v er, e = .returned (.tuple #[v, .int .i64 er]) ∧ RedP w' v er n d ∧ Below w.heap.size w w' := by
 rcases Nat.eq_zero_or_pos n with rfl | hn
 ·exact rreduced_zero A1 A2 c1 c2 k1 k2 d w h1 hd
 have hk := h1.pos hn; have hi1 := Lib.hid (h1.in_ hn); have hi2 := Lib.hid (h2.in_ hd); obtain ⟨g, HG⟩ : ∃ g, Hid (g = Nat.gcd d n) := ⟨_, rfl⟩; have hg0 : 0 < g := by rw [HG.out]; exact Nat.gcd_pos_of_pos_left _ hd
 obtain ⟨p, HP⟩ : ∃ p, Hid (p = n / g) := ⟨_, rfl⟩; obtain ⟨q, HQ⟩ : ∃ q, Hid (q = d / g) := ⟨_, rfl⟩; have hcomm : Nat.gcd n d = g := by rw [HG.out, Nat.gcd_comm]
 have HRP : Hid (∀ w' v er, ((Nm.Fits p q ∧ er = 0 ∧ Rat w' v p q) ∨ (¬ Nm.Fits p q ∧ er = 4 ∧ v = nilRat)) → RedP w' v er n d) := by
  intro w' v er h; unfold RedP; rw [hcomm, ← HP.out, ← HQ.out]; exact h
 clear hcomm
 go_enter Tryz.func112, Tryz.ntmps112
 go_wp2_with fail; refine (rcommon_n _ _ _ _ _ _ d n _ (h2.alloc _) (h1.alloc _) (by omega) (by omega) (by omega)).mono ?_; rintro e w1 ⟨A, k, c, rfl, hnb, hb⟩; rw [← HG.out] at hnb; have hgk : k ≤ 65536 := by have := hnb.lek (Nat.lt_of_le_of_lt (show g ≤ d by rw [HG.out]; exact Nat.gcd_le_left _ hd) h2.lt); omega
 have h1' := (h1.alloc (.cells #[.slice none 0 0, .slice none 0 0] 29)).below hb; have h2' := (h2.alloc (.cells #[.slice none 0 0, .slice none 0 0] 29)).below hb; have hw1 : w.heap.size < w1.heap.size := by have := hb.size; simp at this; omega
 go_wp2_with fail; refine (rone_g _ _ _ _ _ hnb).mono ?_; rintro e w' ⟨b1, rfl, HB1, rfl⟩
 go_upto_if 16 with fail
 have hres := Res.below (Res.new w) hb; have hbw := Below.tr (bA w _) hb
 go_cut [0, 1] from 16 (fun a b wx => ∃ (A1 A2 : Option Addr) (k1 c1 k2 c2 : Nat), a = .slice A1 k1 c1 ∧ b = .slice A2 k2 c2 ∧ Nb wx A1 k1 c1 p ∧ Nb wx A2 k2 c2 q ∧ Hid (Off w.heap.size A1) ∧ Hid (Off w.heap.size A2) ∧ Res wx w.heap.size ∧ Below w.heap.size w wx)
 case first => as_aux_lemma =>
  go_wp2_with fail
  ·have hb1 : (!b1) = true := by assumption
   clear HB1; refine (quotient_n _ _ _ _ _ _ n g _ h1' hnb (by omega) (by omega) hg0).mono ?_; rintro e w3 ⟨A3, k3, c3, A4, k4, c4, rfl, hn3, hn4, hf3, hf4, hb3⟩; go_wp2_with fail; refine (quotient_n _ _ _ _ _ _ d g _ (h2'.below hb3) (hnb.below hb3) (by omega) (by omega) hg0).mono ?_; rintro e w5 ⟨A5, k5, c5, A6, k6, c6, rfl, hn5, hn6, hf5, hf6, hb5⟩; rw [← HP.out] at hn3; rw [← HQ.out] at hn5; have H3 : Hid (Off w.heap.size A3) := fun b off hA e => by have := hf3 b off hA; omega
   have H5 : Hid (Off w.heap.size A5) := fun b off hA e => by have := hf5 b off hA; have := hb3.size; omega
   clear hf3 hf4 hf5 hf6; go_wp2_with fail
   go_meet
   case rel => exact ⟨A3, A5, k3, c3, k5, c5, rfl, rfl, hn3.below hb5, hn5, H3, H5, (hres.below hb3).below hb5, Below.tr (Below.tr hbw hb3) hb5⟩
  ·have hb1 : (!b1) = false := by assumption
   have hg1 : g = 1 := by have := HB1.out; rw [this] at hb1; simpa using hb1
   have e1 : n = p := by rw [HP.out, hg1, Nat.div_one]
   have e2 : d = q := by rw [HQ.out, hg1, Nat.div_one]
   rw [e1] at h1'; rw [e2] at h2'; clear e1 e2 hg1
   go_meet
   case rel => exact ⟨A1, A2, k1, c1, k2, c2, rfl, rfl, h1', h2', fun b off hA e => by have := hi1.out b off hA; omega, fun b off hA e => by have := hi2.out b off hA; omega, hres, hbw⟩
 case rest => as_aux_lemma =>
  clear h1' h2' hnb hres hbw hb h1 h2 hk hl1 hl2 hi1 hi2 HB1 hgk hw1; obtain ⟨A1, A2, k1, c1, k2, c2, rfl, rfl, h1, h2, HO1, HO2, hres, hb⟩ := hcut; obtain ⟨r1, r2, r3, r4⟩ := hres.facts; have HK1 := Lib.hid h1.1; have HK2 := Lib.hid h2.1; have hkb1 : k1 ≤ 9223372036854775807 := h1.le; have hkb2 : k2 ≤ 9223372036854775807 := h2.le; have HE0 := Lib.hid (fun u1 u2 => hres.set2 u1 u2); by_cases hq1 : q = 1
  ·have HX : Hid (Nm.dn q = 0) := by show _ = _; rw [hq1]; rfl
   have hz : ∀ wz, Nb wz none 0 0 (Nm.dn q) := fun wz => by rw [HX.out]; exact Nb.zero _
   have HQ1 := Lib.hid hq1; clear hq1; by_cases hs : k1 ≤ 64
   ·have hf : Nm.Fits p q := ⟨by rw [← HK1.out]; exact hs, by rw [HX.out]; simp [Nm.lb_zero]⟩; have hfin := rat_set (g := w.heap.size) h1 (hz _) HO1.out (Off.none _) (.slice A1 k1 c1) (.slice none 0 0); clear hz; obtain ⟨s1, s2⟩ := HE0.out (.slice A1 k1 c1) (.slice none 0 0); have hd1 : decide ((64 : Int) < (k1 : Int)) = false := by simp; omega
    go_wp2_with fail; refine (rone_t _ _ _ _ _ h2 HQ1.out).mono ?_; rintro e w' ⟨rfl, rfl⟩; go_wp2_with fail; exact bodyPost_ret (v := .tuple #[.agg #[.slice A1 k1 c1, .slice none 0 0], .int .i64 0]) (by simp [results, Tryz.results112, go_sem, s1, s2]) rfl ⟨_, _, rfl, HRP.out _ _ _ (.inl ⟨hf, rfl, hfin⟩), below_set2 hb (Nat.le_refl _) _ _⟩
   ·have hf : ¬ Nm.Fits p q := fun h => hs (by rw [HK1.out]; exact h.1)
    obtain ⟨s1, s2⟩ := HE0.out (.slice none 0 0) (.slice none 0 0); have hd1 : decide ((64 : Int) < (k1 : Int)) = true := by simp; omega
    go_wp2_with fail; refine (rone_t _ _ _ _ _ h2 HQ1.out).mono ?_; rintro e w' ⟨rfl, rfl⟩; go_wp2_with fail; exact bodyPost_ret (v := .tuple #[.agg #[.slice none 0 0, .slice none 0 0], .int .i64 4]) (by simp [results, Tryz.results112, go_sem, s1, s2]) rfl ⟨_, _, rfl, HRP.out _ _ _ (.inr ⟨hf, rfl, rfl⟩), below_set2 hb (Nat.le_refl _) _ _⟩
  ·have HX : Hid (Nm.dn q = q) := Nm.dn_ne hq1; have HQ1 := Lib.hid hq1; clear hq1; by_cases hs : k1 ≤ 64
   ·have hd1 : decide ((64 : Int) < (k1 : Int)) = false := by simp; omega
    by_cases hs2 : k2 ≤ 64
    ·have hf : Nm.Fits p q := ⟨by rw [← HK1.out]; exact hs, by rw [HX.out, ← HK2.out]; exact hs2⟩; have hfin := rat_set (g := w.heap.size) h1 (by rw [HX.out]; exact h2) HO1.out HO2.out (.slice A1 k1 c1) (.slice A2 k2 c2); obtain ⟨s1, s2⟩ := HE0.out (.slice A1 k1 c1) (.slice A2 k2 c2); have hd2 : decide ((64 : Int) < (k2 : Int)) = false := by simp; omega
     go_wp2_with fail; refine (rone_f _ _ _ _ _ h2 HQ1.out).mono ?_; rintro e w' ⟨rfl, rfl⟩; go_wp2_with fail; exact bodyPost_ret (v := .tuple #[.agg #[.slice A1 k1 c1, .slice A2 k2 c2], .int .i64 0]) (by simp [results, Tryz.results112, go_sem, s1, s2]) rfl ⟨_, _, rfl, HRP.out _ _ _ (.inl ⟨hf, rfl, hfin⟩), below_set2 hb (Nat.le_refl _) _ _⟩
    ·have hf : ¬ Nm.Fits p q := fun h => hs2 (by rw [HK2.out]; have := h.2; rwa [HX.out] at this)
     obtain ⟨s1, s2⟩ := HE0.out (.slice none 0 0) (.slice none 0 0); have hd2 : decide ((64 : Int) < (k2 : Int)) = true := by simp; omega
     go_wp2_with fail; refine (rone_f _ _ _ _ _ h2 HQ1.out).mono ?_; rintro e w' ⟨rfl, rfl⟩; go_wp2_with fail; exact bodyPost_ret (v := .tuple #[.agg #[.slice none 0 0, .slice none 0 0], .int .i64 4]) (by simp [results, Tryz.results112, go_sem, s1, s2]) rfl ⟨_, _, rfl, HRP.out _ _ _ (.inr ⟨hf, rfl, rfl⟩), below_set2 hb (Nat.le_refl _) _ _⟩
   ·have hf : ¬ Nm.Fits p q := fun h => hs (by rw [HK1.out]; exact h.1)
    obtain ⟨s1, s2⟩ := HE0.out (.slice none 0 0) (.slice none 0 0); have hd1 : decide ((64 : Int) < (k1 : Int)) = true := by simp; omega
    go_wp2_with fail; refine (rone_f _ _ _ _ _ h2 HQ1.out).mono ?_; rintro e w' ⟨rfl, rfl⟩; go_wp2_with fail; exact bodyPost_ret (v := .tuple #[.agg #[.slice none 0 0, .slice none 0 0], .int .i64 4]) (by simp [results, Tryz.results112, go_sem, s1, s2]) rfl ⟨_, _, rfl, HRP.out _ _ _ (.inr ⟨hf, rfl, rfl⟩), below_set2 hb (Nat.le_refl _) _ _⟩
end Go.Proofs.YtijkfagkbfbpmaaGreatDoor
namespace Go.Proofs.YtijkfagkbfbpmaaGreatDoor
open Go
/- A region in whatever order, by ONE obligation an operation: each operation's value meets a predicate of its own, which lasts over what the others do. -/
section
variable {P : Program} {ops : Array Oper} {Q : Exit → Act → World → Prop} {md : Region.Mode}
/-- the frame with the operations' values in their slots -/
def fillR : List Oper → Nat → (Nat → Value) → Act → Act
 | [], _, _, a => a
 | o :: os, k, vs, a => fillR os (k + 1) vs (a.put o.dst (vs k))
def upd (vs : Nat → Value) (i : Nat) (v : Value) : Nat → Value := fun j => if j = i then v else vs j
theorem put_put (a : Act) (d : Option Tmp) (v u : Value) : (a.put d v).put d u = a.put d u := by
 cases d <;> simp [Act.put]
theorem fillR_put : ∀ (os : List Oper) (k : Nat) (vs : Nat → Value) (a : Act) (d : Option Tmp) (v : Value), (∀ o ∈ os, ∀ e, d = some e → o.dst ≠ some e) → (fillR os k vs a).put d v = fillR os k vs (a.put d v)
 | [], _, _, _, _, _, _ => rfl
 | o :: os, k, vs, a, d, v, h => by
  show (fillR os (k + 1) vs (a.put o.dst (vs k))).put d v = fillR os (k + 1) vs ((a.put d v).put o.dst (vs k))
  rw [fillR_put os (k + 1) vs _ d v (fun o' ho' => h o' (List.mem_cons_of_mem _ ho')), Act.put_comm a v (vs k) (fun e he => h o (List.mem_cons_self ..) e he)]
theorem fillR_congr : ∀ (os : List Oper) (k : Nat) (vs vs' : Nat → Value) (a : Act), (∀ j, k ≤ j → vs j = vs' j) → fillR os k vs a = fillR os k vs' a
 | [], _, _, _, _, _ => rfl
 | o :: os, k, vs, vs', a, h => by
  show fillR os (k + 1) vs (a.put o.dst (vs k)) = fillR os (k + 1) vs' (a.put o.dst (vs' k))
  rw [h k (Nat.le_refl _), fillR_congr os (k + 1) vs vs' _ (fun j hj => h j (by omega))]
/-- no two operations have one slot -/
def apartL : List Oper → Bool
 | [] => true
 | o :: os => (os.all fun o' => o.dst.isNone || o'.dst != o.dst) && apartL os
theorem apartL_cons {o : Oper} {os : List Oper} (h : apartL (o :: os) = true) : (∀ o' ∈ os, ∀ e, o.dst = some e → o'.dst ≠ some e) ∧ apartL os = true := by
 unfold apartL at h; rw [Bool.and_eq_true] at h; refine ⟨fun o' ho' e he => ?_, h.2⟩; have := List.all_eq_true.1 h.1 o' ho'; rw [he] at this
 simpa using this
theorem fillR_upd : ∀ (os : List Oper) (k i : Nat) (vs : Nat → Value) (a : Act) (o : Oper) (v : Value), apartL os = true → os[i]? = some o → (fillR os k vs a).put o.dst v = fillR os k (upd vs (k + i) v) a
 | [], _, _, _, _, _, _, _, ho => by simp at ho
 | o0 :: os, k, 0, vs, a, o, v, hd, ho => by
  obtain rfl : o0 = o := by simpa using ho
  show (fillR os (k + 1) vs (a.put o0.dst (vs k))).put o0.dst v = fillR os (k + 1) (upd vs k v) (a.put o0.dst (upd vs k v k))
  rw [fillR_put os (k + 1) vs _ o0.dst v (apartL_cons hd).1, put_put]; have e : upd vs k v k = v := if_pos rfl; rw [e]; exact fillR_congr _ _ _ _ _ (fun j hj => (if_neg (by omega)).symm)
 | o0 :: os, k, i + 1, vs, a, o, v, hd, ho => by
  show (fillR os (k + 1) vs (a.put o0.dst (vs k))).put o.dst v = fillR os (k + 1) (upd vs (k + (i + 1)) v) (a.put o0.dst (upd vs (k + (i + 1)) v k))
  rw [fillR_upd os (k + 1) i vs _ o v (apartL_cons hd).2 (by simpa using ho)]; have e : upd vs (k + (i + 1)) v k = vs k := if_neg (by omega); rw [e, show k + 1 + i = k + (i + 1) by omega]
/-- the frame's own values -/
def ownV (os : List Oper) (a : Act) (j : Nat) : Value := match (os[j]?).bind (·.dst) with
 | some d => (a.tmps[d]?).getD undef
 | none => undef
theorem put_own (a : Act) (d : Tmp) : a.put (some d) ((a.tmps[d]?).getD undef) = a := by
 show ({ a with tmps := a.tmps.setIfInBounds d ((a.tmps[d]?).getD undef) } : Act) = a
 have : a.tmps.setIfInBounds d ((a.tmps[d]?).getD undef) = a.tmps := by
  apply Array.ext (by simp)
  intro i h1 h2; rw [Array.getElem_setIfInBounds (by simpa using h1)]
  split
  ·rename_i h; subst h; simp [h2]
  ·rfl
 rw [this]
theorem fillR_id : ∀ (os : List Oper) (k : Nat) (vs : Nat → Value) (a : Act), (∀ j o, os[j]? = some o → ∀ d, o.dst = some d → vs (k + j) = (a.tmps[d]?).getD undef) → fillR os k vs a = a
 | [], _, _, _, _ => rfl
 | o :: os, k, vs, a, h => by
  have e : a.put o.dst (vs k) = a := by
   cases hd : o.dst with
   | none => rfl
   | some d => rw [show vs k = _ from h 0 o rfl d hd, put_own]
  show fillR os (k + 1) vs (a.put o.dst (vs k)) = a
  rw [e]; exact fillR_id os (k + 1) vs a (fun j o' ho' d hd => by rw [show k + 1 + j = k + (j + 1) by omega]; exact h (j + 1) o' (by simpa using ho') d hd)
def backB (ops : Array Oper) : Bool := (List.range ops.size).all fun i => ((ops[i]?).map fun o => o.after.all fun e => decide (e.on < i)).getD true
theorem backB_spec (h : backB ops = true) {i : Nat} {o : Oper} (ho : ops[i]? = some o) : ∀ e ∈ o.after, e.on < i := by
 intro e he; have hi : i < ops.size := (Array.getElem?_eq_some_iff.1 ho).1; have := List.all_eq_true.1 h i (List.mem_range.2 hi); rw [ho] at this; simp only [Option.map_some, Option.getD_some] at this; have := Array.all_eq_true_iff_forall_mem.1 this e he
 simpa using this
theorem repF {m j : Nat} : (Array.replicate m false).getD j false = false := by
 rcases Nat.lt_or_ge j m with h | h
 ·simp [h]
 ·simp [h]
theorem getD_in {l : Array Bool} {i : Nat} (h : i < l.size) (b : Bool) : l.getD i b = l[i] := by simp [h]
theorem all_listed (hb : backB ops = true) {listed : Array Bool} (hs : listed.size = ops.size) (hr : Region.ready md ops listed = []) : ∀ i, i < ops.size → listed.getD i false = true := by
 intro i
 induction i using Nat.strongRecOn with
 | _ i ih =>
  intro hi
  cases hl : listed.getD i false with
  | true => rfl
  | false =>
   exfalso
   have : i ∈ Region.ready md ops listed := by
    rw [mem_ready]; refine ⟨?_, ops[i], Array.getElem?_eq_getElem hi, fun e he _ => ?_⟩
    ·have h' : i < listed.size := by omega
     rw [getD_in h'] at hl ⊢; exact hl
    ·have := backB_spec hb (o := ops[i]) (Array.getElem?_eq_getElem hi) e he; exact ih e.on this (by omega)
   rw [hr] at this
   cases this
variable {Φ : Nat → World → Value → Prop} {R : World → World → Prop}
theorem wpAny_inv (a0 : Act) (hd : apartL ops.toList = true) (hb : backB ops = true)
  (hΦ : ∀ w w', R w w' → ∀ j x, Φ j w x → Φ j w' x) (S : World → Prop) (hS : ∀ w w', R w w' → S w → S w')
  (hstep : ∀ i o, ops[i]? = some o → ∀ vs w, S w → (∀ e ∈ o.after, Region.binds md e = true → Φ e.on w (vs e.on)) →
   ∀ K : Act → World → Prop, (∀ v w', R w w' → Φ i w' v → K ((fillR ops.toList 0 vs a0).put o.dst v) w') →
    if Region.wanted o (yielded ops (fillR ops.toList 0 vs a0).tmps) = true then Oper.wp P o (fillR ops.toList 0 vs a0) w K Q else K ((fillR ops.toList 0 vs a0).put o.dst undef) w)
  (hend : ∀ vs w, S w → (∀ i, i < ops.size → Φ i w (vs i)) → Q .normal (fillR ops.toList 0 vs a0) w) :
  ∀ (fuel : Nat) (listed : Array Bool) (vs : Nat → Value) (w : World), listed.size = ops.size → listed.toList.count false = fuel → S w → (∀ j, listed.getD j false = true → Φ j w (vs j)) →
   wpAny P md ops Q fuel listed (fillR ops.toList 0 vs a0) w := by
 intro fuel
 induction fuel with
 | zero =>
  intro listed vs w hs hc hSw hl
  have hall : ∀ i, i < ops.size → listed.getD i false = true := by
   intro i hi; have h' : i < listed.size := by omega
   rw [List.count_eq_zero] at hc
   cases hx : listed.getD i false with
   | true => rfl
   | false =>
    exfalso
    apply hc
    simp [h'] at hx; rw [← hx]; exact Array.getElem_mem_toList h'
  refine ⟨?_, hend vs w hSw (fun i hi => hl i (hall i hi))⟩; rw [List.eq_nil_iff_forall_not_mem]; intro i hi; obtain ⟨h1, o, ho, _⟩ := mem_ready.1 hi; have hi' : i < ops.size := (Array.getElem?_eq_some_iff.1 ho).1; have h2 := hall i hi'; have h' : i < listed.size := by omega
  simp [h'] at h1 h2; rw [h1] at h2
  cases h2
 | succ fuel ih =>
  intro listed vs w hs hc hSw hl; refine ⟨fun hr => hend vs w hSw (fun i hi => hl i (all_listed hb hs hr i hi)), fun i hi => ?_⟩; obtain ⟨h1, o, ho, hall⟩ := mem_ready.1 hi; have hi' : i < ops.size := (Array.getElem?_eq_some_iff.1 ho).1; have hil : i < listed.size := by omega
  refine wpOp_step ho fun K' hK => ?_
  refine hstep i o ho vs w hSw (fun e he hbd => hl e.on (hall e he hbd)) K' fun v w' hR hv => ?_
  apply hK
  rw [fillR_upd ops.toList 0 i vs a0 o v hd (by simpa using ho), Nat.zero_add]; refine ih _ _ _ (by simp [hs]) ?_ (hS _ _ hR hSw) ?_
  ·have h1' : listed.toList[i]'(by simpa using hil) = false := by simp [hil] at h1; simpa using h1
   simp only [Array.toList_setIfInBounds]; rw [List.count_set (by simpa using hil), h1', hc]; simp
  ·intro j hj; by_cases hji : j = i
   ·subst hji; rw [show upd vs j v j = v from if_pos rfl]; exact hv
   ·rw [show upd vs i v j = vs j from if_neg hji]; refine hΦ _ _ hR j _ (hl j ?_); simp [Array.getElem?_setIfInBounds, Ne.symm hji] at hj
    simpa using hj
/-- The rule: a region that draws its order. -/
theorem wp_region_inv {id : Nat} {a0 : Act} {w : World} (Φ : Nat → World → Value → Prop) (R : World → World → Prop) (S : World → Prop) (hm : P.follows .mixedOrders = true) (hd : apartL ops.toList = true) (hb : backB ops = true)
  (hΦ : ∀ w w', R w w' → ∀ j x, Φ j w x → Φ j w' x) (hS : ∀ w w', R w w' → S w → S w') (hS0 : S w.drew)
  (hstep : ∀ i o, ops[i]? = some o → ∀ vs w, S w → (∀ e ∈ o.after, Region.binds .any e = true → Φ e.on w (vs e.on)) →
   ∀ K : Act → World → Prop, (∀ v w', R w w' → Φ i w' v → K ((fillR ops.toList 0 vs a0).put o.dst v) w') →
    if Region.wanted o (yielded ops (fillR ops.toList 0 vs a0).tmps) = true then Oper.wp P o (fillR ops.toList 0 vs a0) w K Q else K ((fillR ops.toList 0 vs a0).put o.dst undef) w)
  (hend : ∀ vs w, S w → (∀ i, i < ops.size → Φ i w (vs i)) → Q .normal (fillR ops.toList 0 vs a0) w) : (Code.region id ops true).wp P Q a0 w := by
 refine wp_region_any hm ?_; have h := wpAny_inv (P := P) (Q := Q) (md := .any) a0 hd hb hΦ S hS hstep hend ops.size (Array.replicate ops.size false) (ownV ops.toList a0) w.drew (by simp) (by simp) hS0 (fun j hj => by rw [repF] at hj; cases hj); rw [fillR_id] at h
 ·exact h
 ·intro j o ho d hd'; rw [Nat.zero_add]; unfold ownV; rw [ho]; simp [hd']
theorem exE1 {α : Type} {p : α → Prop} {G : Prop} (h : ∃ a, p a) (k : ∀ a, p a → G) : G := h.elim k
theorem exE2 {α β : Type} {p : α → β → Prop} {G : Prop} (h : ∃ a b, p a b) (k : ∀ a b, p a b → G) : G := h.elim fun a h => h.elim (k a)
theorem exE3 {α β γ : Type} {p : α → β → γ → Prop} {G : Prop} (h : ∃ a b c, p a b c) (k : ∀ a b c, p a b c → G) : G := h.elim fun a h => exE2 h (k a)
theorem exE4 {α β γ δ : Type} {p : α → β → γ → δ → Prop} {G : Prop} (h : ∃ a b c d, p a b c d) (k : ∀ a b c d, p a b c d → G) : G := h.elim fun a h => exE3 h (k a)
/-- one obligation for each operation of a list -/
def StepsL (F : Nat → Oper → Prop) (k : Nat) (l : List Oper) : Prop := ∀ i o, l[i]? = some o → F (k + i) o
theorem sZ {F : Nat → Oper → Prop} {k : Nat} : StepsL F k [] := fun i o h => by simp at h
theorem sK {F : Nat → Oper → Prop} {k : Nat} {o : Oper} {l : List Oper} (h : F k o) (hs : StepsL F (k + 1) l) : StepsL F k (o :: l) := by
 intro i o' ho
 rcases i with _ | i
 ·obtain rfl : o = o' := by simpa using ho
  exact h
 ·have := hs i o' (by simpa using ho)
  rwa [show k + 1 + i = k + (i + 1) by omega] at this
/-- keeps a goal closed -/
structure Wrap (p : Prop) : Prop where
 un : p
/-- what an operation owes -/
def Owes (P : Program) (Q : Exit → Act → World → Prop) (l : List Oper) (a0 : Act) (Φ : Nat → World → Value → Prop) (R : World → World → Prop) (S : World → Prop) (i : Nat) (o : Oper) : Prop :=
 ∀ vs w, S w → (∀ e ∈ o.after.toList, Region.binds .any e = true → Φ e.on w (vs e.on)) → ∀ K : Act → World → Prop, (∀ v w', R w w' → Φ i w' v → K ((fillR l 0 vs a0).put o.dst v) w') →
  Wrap (if Region.wanted o (yielded l.toArray (fillR l 0 vs a0).tmps) = true then Oper.wp P o (fillR l 0 vs a0) w K Q else K ((fillR l 0 vs a0).put o.dst undef) w)
theorem region_inv {id : Nat} {a0 : Act} {w : World} {l : List Oper} (Φ : Nat → World → Value → Prop) (R : World → World → Prop) (S : World → Prop) (hm : P.follows .mixedOrders = true) (hd : apartL l = true) (hb : backB l.toArray = true)
  (hΦ : ∀ w w', R w w' → ∀ j x, Φ j w x → Φ j w' x) (hS : ∀ w w', R w w' → S w → S w') (hS0 : S w.drew)
  (hstep : StepsL (Owes P Q l a0 Φ R S) 0 l)
  (hend : ∀ vs w, S w → (∀ i, i < l.length → Φ i w (vs i)) → Q .normal (fillR l 0 vs a0) w) : (Code.region id l.toArray true).wp P Q a0 w := by
 refine wp_region_inv Φ R S hm hd hb hΦ hS hS0 (fun i o ho vs w hSw hdep K hK => ?_) (fun vs w hSw h => hend vs w hSw (fun i hi => h i (by simpa using hi))); have := hstep i o (by simpa using ho); rw [Nat.zero_add] at this; exact (this vs w hSw (fun e he hbd => hdep e (by simpa using he) hbd) K hK).un
end
end Go.Proofs.YtijkfagkbfbpmaaGreatDoor
namespace Go.Proofs.YtijkfagkbfbpmaaGreatDoor
open Go.RowKit
/-- a boxed ratio -/
def Box (w : World) (g : Nat) (v1 v2 : Value) : Prop := Blk w g 29 #[v1, v2]
theorem Box.below {w w' : World} {g : Nat} {v1 v2 : Value} (h : Box w g v1 v2) (hb : Below w.heap.size w w') : Box w' g v1 v2 := Blk.below h hb h.lt
theorem Box.facts {w : World} {g : Nat} {v1 v2 : Value} (h : Box w g v1 v2) : w.cell? ⟨g, 0, none⟩ = some v1 ∧ w.cell? ⟨g, 1, none⟩ = some v2 := ⟨h.cell 0, h.cell 1⟩
theorem Nb.one (w : World) (g : Nat) (hg : g = w.heap.size) : Nb (w.alloc (.cells #[.int .u32 1] 104)) (some ⟨g, 0, none⟩) 1 1 1 := by
 subst hg; have h : Row (w.alloc (.cells #[.int .u32 1] 104)) w.heap.size [1] := ⟨Blk.new w _ _, fun x hx => by rw [List.mem_singleton.1 hx]; unfold Nm.B; omega⟩; have := h.lim (c := 1) (by simp) (by omega); rw [← Nm.lb_one] at this; exact ⟨by rw [Nm.lb_one]; rfl, this⟩
theorem dn_zero {q : Nat} (hq : 0 < q) (h : Nm.dn q = 0) : q = 1 := by
 unfold Nm.dn at h; split at h <;> omega
set_option maxHeartbeats 1000000 in
theorem den_n (A1 A2 : Option Addr) (k1 c1 k2 c2 q : Nat) (w : World) (h2 : Nb w A2 k2 c2 (Nm.dn q)) (hq : 0 < q) (hk : k2 ≤ 65536) :
  Calls Tryz.prog 148 #[.agg #[.slice A1 k1 c1, .slice A2 k2 c2]] w fun e w' => ∃ A k c, e = .returned (.slice A k c) ∧ Nb w' A k c q ∧ Hid (k ≤ max k2 1) ∧ Below w.heap.size w w' := by
 rcases Nat.eq_zero_or_pos k2 with rfl | hk2
 ·have hq1 : q = 1 := dn_zero hq (by have := h2.1; have := List.eq_nil_of_length_eq_zero this.symm; rwa [Nm.lb_nil_iff] at this); have HF := Lib.hid hq1; clear hq1
  go_enter Tryz.func148, Tryz.ntmps148
  go_wp2
  go_ret; rw [HF.out]; exact ⟨_, _, _, rfl, Nb.one _ _ (by simp), show (1 : Nat) ≤ _ by omega, Below.tr (bA _ _) (bA _ _)⟩
 ·have hq1 : q ≠ 1 := fun h => by rw [h] at h2; have := h2.kzero; omega
  rw [Nm.dn_ne hq1] at h2; clear hq1
  go_enter Tryz.func148, Tryz.ntmps148
  go_wp2
  go_ret; exact ⟨_, _, _, rfl, h2.alloc _, show k2 ≤ _ by omega, bA _ _⟩
theorem times_n (A1 A2 : Option Addr) (c1 c2 k1 k2 x y : Nat) (w : World) (h1 : Nb w A1 k1 c1 x) (h2 : Nb w A2 k2 c2 y) (hl1 : k1 ≤ 65536) (hl2 : k2 ≤ 65536) :
  Calls Tryz.prog 147 #[.slice A1 k1 c1, .slice A2 k2 c2] w fun e w' => ∃ A k c, e = .returned (.slice A k c) ∧ Nb w' A k c (x * y) ∧ Below w.heap.size w w' := by
 obtain ⟨rfl, h1⟩ := h1; obtain ⟨rfl, h2⟩ := h2; refine (times_any A1 A2 c1 c2 _ _ w h1 h2 (by omega) (by omega)).mono ?_; rintro e w' ⟨A, n, rfl, hn, hl, hb⟩; rw [Nm.nv_lb, Nm.nv_lb] at hn hl; exact ⟨A, n, n, rfl, ⟨hn, hl⟩, hb⟩
end Go.Proofs.YtijkfagkbfbpmaaGreatDoor
namespace Go.Proofs.YtijkfagkbfbpmaaGreatDoor.Nm
/-- the error of a ratio of limbs -/
def validE (l1 l2 : List Nat) : Int :=
 if 64 < l1.length ∨ 64 < l2.length then 4
 else if (lb (nv l1)).length < l1.length ∨ (lb (nv l2)).length < l2.length ∨ nv l2 = 1 ∨ (nv l1 = 0 ∧ 0 < nv l2) ∨ (0 < nv l2 ∧ Nat.gcd (nv l1) (nv l2) ≠ 1) then 1 else 0
theorem lb_nv_le {l : List Nat} (h : Lim l) : (lb (nv l)).length ≤ l.length := lb_length_lt.2 (nv_lt h)
theorem lb_of_len {l : List Nat} (h : Lim l) (hl : ¬ (lb (nv l)).length < l.length) : lb (nv l) = l := by
 refine lb_nv h fun hne h0 => hl ?_
 have e : l = l.dropLast ++ [l.getLast hne] := (List.dropLast_concat_getLast hne).symm
 have h2 : nv l = nv l.dropLast := by
  conv => lhs; rw [e, nv_snoc, h0]
  simp
 have h3 := lb_nv_le (l := l.dropLast) (fun x hx => h x ((List.dropLast_sublist l).subset hx)); rw [← h2, List.length_dropLast] at h3; have : 0 < l.length := List.length_pos_iff.2 hne; omega
theorem validE_big1 {l1 l2 : List Nat} (h : 64 < l1.length) : validE l1 l2 = 4 := if_pos (.inl h)
theorem validE_big2 {l1 l2 : List Nat} (h : 64 < l2.length) : validE l1 l2 = 4 := if_pos (.inr h)
theorem validE_bad {l1 l2 : List Nat} (h1 : l1.length ≤ 64) (h2 : l2.length ≤ 64) (h : (lb (nv l1)).length < l1.length ∨ (lb (nv l2)).length < l2.length ∨ nv l2 = 1 ∨ (nv l1 = 0 ∧ 0 < nv l2) ∨ (0 < nv l2 ∧ Nat.gcd (nv l1) (nv l2) ≠ 1)) : validE l1 l2 = 1 := by
 unfold validE; rw [if_neg (by omega), if_pos h]
theorem validE_good {l1 l2 : List Nat} (h1 : l1.length ≤ 64) (h2 : l2.length ≤ 64) (h : ¬ ((lb (nv l1)).length < l1.length ∨ (lb (nv l2)).length < l2.length ∨ nv l2 = 1 ∨ (nv l1 = 0 ∧ 0 < nv l2) ∨ (0 < nv l2 ∧ Nat.gcd (nv l1) (nv l2) ≠ 1))) : validE l1 l2 = 0 := by
 unfold validE; rw [if_neg (by omega), if_neg h]
/-- what a ratio without an error is -/
structure Good (p q : Nat) : Prop where
 pos : 0 < q
 gcd : Nat.gcd p q = 1
 fits : Fits p q
theorem validE_spec {l1 l2 : List Nat} (hl1 : Lim l1) (hl2 : Lim l2) (h : validE l1 l2 = 0) : ∃ p q, l1 = lb p ∧ l2 = lb (dn q) ∧ Good p q := by
 unfold validE at h
 split at h
 ·cases h
 ·split at h
  ·cases h
  ·rename_i g1 g2
   have a1 := lb_of_len hl1 (fun h => g2 (.inl h)); have a2 := lb_of_len hl2 (fun h => g2 (.inr (.inl h)))
   rcases Nat.eq_zero_or_pos (nv l2) with h0 | h0
   ·have e2 : l2 = [] := by rw [← a2, h0, lb_zero]
    refine ⟨nv l1, 1, a1.symm, by rw [e2, dn_one, lb_zero], ⟨by omega, Nat.gcd_one_right _, ?_, ?_⟩⟩
    ·rw [a1]; omega
    ·rw [dn_one, lb_zero]; simp
   ·have n1 : nv l2 ≠ 1 := fun h => g2 (.inr (.inr (.inl h)))
    have n2 : Nat.gcd (nv l1) (nv l2) = 1 := by
     by_cases h : Nat.gcd (nv l1) (nv l2) = 1
     ·exact h
     ·exact absurd (.inr (.inr (.inr (.inr ⟨h0, h⟩)))) g2
    refine ⟨nv l1, nv l2, a1.symm, by rw [dn_ne n1, a2], ⟨h0, n2, ?_, ?_⟩⟩
    ·rw [a1]; omega
    ·rw [dn_ne n1, a2]; omega
theorem validE_of {p q : Nat} (h : Good p q) : validE (lb p) (lb (dn q)) = 0 := by
 refine validE_good h.fits.1 h.fits.2 ?_; rw [nv_lb, nv_lb]; rintro (h1 | h1 | h1 | h1 | h1)
 ·omega
 ·omega
 ·unfold dn at h1; split at h1 <;> omega
 ·have h2 := h.gcd; rw [h1.1, Nat.gcd_zero_left] at h2; rw [h2, dn_one] at h1; omega
 ·by_cases hq : q = 1
  ·rw [hq, dn_one] at h1; omega
  ·rw [dn_ne hq] at h1; exact h1.2 h.gcd
end Go.Proofs.YtijkfagkbfbpmaaGreatDoor.Nm
namespace Go.Proofs.YtijkfagkbfbpmaaGreatDoor
open Go.RowKit
theorem trim_q (A : Option Addr) (c k k' : Nat) (l : List Nat) (w : World) (hr : Lim w A c l) (hk : k = l.length) (hk' : k' = (Nm.lb (Nm.nv l)).length) :
  Calls Tryz.prog 101 #[.slice A k c] w fun e w' => e = .returned (.slice A k' k') ∧ w' = w := by
 subst hk'; exact (trim_k A c k l w hr hk).mono fun e w' ⟨h1, h2⟩ => ⟨h1, h2.symm⟩
theorem Lim.nbt {w : World} {A : Option Addr} {c k : Nat} {l : List Nat} (h : Lim w A c l) (hk : k = (Nm.lb (Nm.nv l)).length) : Nb w A k k (Nm.nv l) := by
 subst hk; exact ⟨rfl, h.trim⟩
set_option maxRecDepth 10000 in
set_option maxHeartbeats 2000000 in
theorem valid_any (A1 A2 : Option Addr) (k1 c1 k2 c2 : Nat) (l1 l2 : List Nat) (w : World) (h1 : Lim w A1 c1 l1) (h2 : Lim w A2 c2 l2) (e1 : k1 = l1.length) (e2 : k2 = l2.length) :
  Calls Tryz.prog 57 #[.agg #[.slice A1 k1 c1, .slice A2 k2 c2]] w fun e w' => e = .returned (.int .i64 (Nm.validE l1 l2)) ∧ Below w.heap.size w w' := by
 have hkb1 : k1 ≤ 9223372036854775807 := by have := h1.2.1; have := h1.2.2.1; omega
 have hkb2 : k2 ≤ 9223372036854775807 := by have := h2.2.1; have := h2.2.2.1; omega
 have E1 := Lib.hid e1; have E2 := Lib.hid e2; obtain ⟨E, HE⟩ : ∃ E, Hid (E = Nm.validE l1 l2) := ⟨_, rfl⟩; rw [← HE.out]; by_cases hs1 : 64 < k1
 ·have hv : E = 4 := by rw [HE.out]; exact Nm.validE_big1 (by omega)
  clear e1 e2; subst hv; have hd1 : decide ((64 : Int) < (k1 : Int)) = true := by simp; omega
  go_enter Tryz.func57, Tryz.ntmps57
  go_wp2
  go_ret; exact ⟨rfl, bA _ _⟩
 by_cases hs2 : 64 < k2
 ·have hv : E = 4 := by rw [HE.out]; exact Nm.validE_big2 (by omega)
  clear e1 e2; subst hv; have hd1 : decide ((64 : Int) < (k1 : Int)) = false := by simp; omega
  have hd2 : decide ((64 : Int) < (k2 : Int)) = true := by simp; omega
  go_enter Tryz.func57, Tryz.ntmps57
  go_wp2
  go_ret; exact ⟨rfl, bA _ _⟩
 have hd1 : decide ((64 : Int) < (k1 : Int)) = false := by simp; omega
 have hd2 : decide ((64 : Int) < (k2 : Int)) = false := by simp; omega
 obtain ⟨t1, HT1⟩ : ∃ t1, Hid (t1 = (Nm.lb (Nm.nv l1)).length) := ⟨_, rfl⟩; obtain ⟨t2, HT2⟩ : ∃ t2, Hid (t2 = (Nm.lb (Nm.nv l2)).length) := ⟨_, rfl⟩; have hB := Nm.validE_bad (l1 := l1) (l2 := l2) (by omega) (by omega); have hG := Nm.validE_good (l1 := l1) (l2 := l2) (by omega) (by omega); have ht1 : t1 ≤ k1 := by rw [HT1.out, e1]; exact Nm.lb_nv_le h1.limb
 have ht2 : t2 ≤ k2 := by rw [HT2.out, e2]; exact Nm.lb_nv_le h2.limb
 rw [← HT1.out, ← HT2.out, ← e1, ← e2, ← HE.out] at hB hG; have HB := Lib.hid hB; have HG := Lib.hid hG; clear hB hG e1 e2; by_cases q1 : t1 < k1
 ·obtain rfl : E = 1 := HB.out (.inl q1); clear HB HG
  go_enter Tryz.func57, Tryz.ntmps57
  go_wp2_with fail
  go_quiet ((first | (go_at_call_of 101 (Value.slice A1 k1 c1); exact Calls.quiet_of_same (trim_q _ _ _ _ l1 _ ((h1.alloc _).drewN _) E1.out HT1.out)) | (go_at_call_of 101 (Value.slice A2 k2 c2); exact Calls.quiet_of_same (trim_q _ _ _ _ l2 _ ((h2.alloc _).drewN _) E2.out HT2.out))))
  go_wp2_with fail; go_ret; exact ⟨rfl, Below.tr (bA _ _) (below_drewN _ _)⟩
 by_cases q2 : t2 < k2
 ·obtain rfl : E = 1 := HB.out (.inr (.inl q2)); have hd3 : decide (t1 < k1) = false := by simp; omega
  clear HB HG
  go_enter Tryz.func57, Tryz.ntmps57
  go_wp2_with fail
  go_quiet ((first | (go_at_call_of 101 (Value.slice A1 k1 c1); exact Calls.quiet_of_same (trim_q _ _ _ _ l1 _ ((h1.alloc _).drewN _) E1.out HT1.out)) | (go_at_call_of 101 (Value.slice A2 k2 c2); exact Calls.quiet_of_same (trim_q _ _ _ _ l2 _ ((h2.alloc _).drewN _) E2.out HT2.out))))
  go_wp2_with fail; go_ret; exact ⟨rfl, Below.tr (bA _ _) (below_drewN _ _)⟩
 have hd3 : decide (t1 < k1) = false := by simp; omega
 have hd4 : decide (t2 < k2) = false := by simp; omega
 have N2 : ∀ w', Below w.heap.size w w' → Nb w' A2 t2 t2 (Nm.nv l2) := fun w' hb => (h2.nbt HT2.out).below hb
 have N1 : ∀ w', Below w.heap.size w w' → Nb w' A1 t1 t1 (Nm.nv l1) := fun w' hb => (h1.nbt HT1.out).below hb
 have HN1 := Lib.hid N1; have HN2 := Lib.hid N2; have nb1 := h1.nbt HT1.out; have nb2 := h2.nbt HT2.out; clear N1 N2; have hq1 : ¬ t1 < k1 := q1; have hq2 : ¬ t2 < k2 := q2; clear q1 q2; by_cases hn1 : Nm.nv l2 = 1
 ·obtain rfl : E = 1 := HB.out (.inr (.inr (.inl hn1))); have HO := Lib.hid hn1; clear HB HG hn1
  go_enter Tryz.func57, Tryz.ntmps57
  go_wp2_with fail
  go_quiet ((first | (go_at_call_of 101 (Value.slice A1 k1 c1); exact Calls.quiet_of_same (trim_q _ _ _ _ l1 _ ((h1.alloc _).drewN _) E1.out HT1.out)) | (go_at_call_of 101 (Value.slice A2 k2 c2); exact Calls.quiet_of_same (trim_q _ _ _ _ l2 _ ((h2.alloc _).drewN _) E2.out HT2.out))))
  go_wp2_with fail; refine (isOne_t _ _ _ _ _ (HN2.out _ (Below.tr (bA _ _) (below_drewN _ _))) HO.out).mono ?_; rintro e w' ⟨rfl, rfl⟩; go_wp2_with fail; go_ret; exact ⟨rfl, Below.tr (bA _ _) (below_drewN _ _)⟩
 have HO := Lib.hid hn1
 rcases Nat.eq_zero_or_pos (Nm.nv l2) with hn0 | hn0
 ·obtain rfl : E = 0 := HG.out (by omega); obtain rfl : t2 = 0 := by rw [hn0] at nb2; exact nb2.kzero
  clear HB HG hn1 hn0 nb1 nb2
  go_enter Tryz.func57, Tryz.ntmps57
  go_wp2_with fail
  go_quiet ((first | (go_at_call_of 101 (Value.slice A1 k1 c1); exact Calls.quiet_of_same (trim_q _ _ _ _ l1 _ ((h1.alloc _).drewN _) E1.out HT1.out)) | (go_at_call_of 101 (Value.slice A2 k2 c2); exact Calls.quiet_of_same (trim_q _ _ _ _ l2 _ ((h2.alloc _).drewN _) E2.out HT2.out))))
  go_wp2_with fail; refine (isOne_f _ _ _ _ _ (HN2.out _ (Below.tr (bA _ _) (below_drewN _ _))) HO.out).mono ?_; rintro e w' ⟨rfl, rfl⟩; go_wp2_with fail
  all_goals
   go_ret; exact ⟨rfl, Below.tr (bA _ _) (below_drewN _ _)⟩
 have ht20 : 0 < t2 := nb2.pos hn0
 rcases Nat.eq_zero_or_pos (Nm.nv l1) with hm0 | hm0
 ·obtain rfl : E = 1 := HB.out (.inr (.inr (.inr (.inl ⟨hm0, hn0⟩)))); obtain rfl : t1 = 0 := by rw [hm0] at nb1; exact nb1.kzero
  clear HB HG hn1 hn0 nb1 nb2 hm0
  go_enter Tryz.func57, Tryz.ntmps57
  go_wp2_with fail
  go_quiet ((first | (go_at_call_of 101 (Value.slice A1 k1 c1); exact Calls.quiet_of_same (trim_q _ _ _ _ l1 _ ((h1.alloc _).drewN _) E1.out HT1.out)) | (go_at_call_of 101 (Value.slice A2 k2 c2); exact Calls.quiet_of_same (trim_q _ _ _ _ l2 _ ((h2.alloc _).drewN _) E2.out HT2.out))))
  go_wp2_with fail; refine (isOne_f _ _ _ _ _ (HN2.out _ (Below.tr (bA _ _) (below_drewN _ _))) HO.out).mono ?_; rintro e w' ⟨rfl, rfl⟩; go_wp2_with fail; go_ret; exact ⟨rfl, Below.tr (bA _ _) (below_drewN _ _)⟩
 have HT10 := Lib.hid (nb1.pos hm0); by_cases hg : Nat.gcd (Nm.nv l1) (Nm.nv l2) = 1
 ·obtain rfl : E = 0 := HG.out (by omega); have HGG := Lib.hid hg; clear HB HG hn1 hn0 nb1 nb2 hm0 hg
  go_enter Tryz.func57, Tryz.ntmps57
  go_wp2_with fail
  go_quiet ((first | (go_at_call_of 101 (Value.slice A1 k1 c1); exact Calls.quiet_of_same (trim_q _ _ _ _ l1 _ ((h1.alloc _).drewN _) E1.out HT1.out)) | (go_at_call_of 101 (Value.slice A2 k2 c2); exact Calls.quiet_of_same (trim_q _ _ _ _ l2 _ ((h2.alloc _).drewN _) E2.out HT2.out))))
  have ht10 := HT10.out; have hbz : ((t1 : Int) == 0) = false := by simp; omega
  go_wp2_with fail; refine (isOne_f _ _ _ _ _ (HN2.out _ (Below.tr (bA _ _) (below_drewN _ _))) HO.out).mono ?_; rintro e w' ⟨rfl, rfl⟩; go_wp2_with fail; refine (common_n _ _ _ _ _ _ _ _ _ (HN1.out _ (Below.tr (bA _ _) (below_drewN _ _))) (HN2.out _ (Below.tr (bA _ _) (below_drewN _ _))) (by omega) (by omega)).mono ?_; rintro e w' ⟨A, k, c, rfl, hnb, hb⟩; go_wp2_with fail; refine (isOne_t _ _ _ _ _ hnb HGG.out).mono ?_; rintro e w' ⟨rfl, rfl⟩; go_wp2_with fail; go_ret; exact ⟨rfl, Below.tr (Below.tr (bA _ _) (below_drewN _ _)) hb⟩
 ·obtain rfl : E = 1 := HB.out (.inr (.inr (.inr (.inr ⟨hn0, hg⟩)))); have HGG := Lib.hid hg; clear HB HG hn1 hn0 nb1 nb2 hm0 hg
  go_enter Tryz.func57, Tryz.ntmps57
  go_wp2_with fail
  go_quiet ((first | (go_at_call_of 101 (Value.slice A1 k1 c1); exact Calls.quiet_of_same (trim_q _ _ _ _ l1 _ ((h1.alloc _).drewN _) E1.out HT1.out)) | (go_at_call_of 101 (Value.slice A2 k2 c2); exact Calls.quiet_of_same (trim_q _ _ _ _ l2 _ ((h2.alloc _).drewN _) E2.out HT2.out))))
  have ht10 := HT10.out; have hbz : ((t1 : Int) == 0) = false := by simp; omega
  go_wp2_with fail; refine (isOne_f _ _ _ _ _ (HN2.out _ (Below.tr (bA _ _) (below_drewN _ _))) HO.out).mono ?_; rintro e w' ⟨rfl, rfl⟩; go_wp2_with fail; refine (common_n _ _ _ _ _ _ _ _ _ (HN1.out _ (Below.tr (bA _ _) (below_drewN _ _))) (HN2.out _ (Below.tr (bA _ _) (below_drewN _ _))) (by omega) (by omega)).mono ?_; rintro e w' ⟨A, k, c, rfl, hnb, hb⟩; go_wp2_with fail; refine (isOne_f _ _ _ _ _ hnb HGG.out).mono ?_; rintro e w' ⟨rfl, rfl⟩; go_wp2_with fail; go_ret; exact ⟨rfl, Below.tr (Below.tr (bA _ _) (below_drewN _ _)) hb⟩
end Go.Proofs.YtijkfagkbfbpmaaGreatDoor
namespace Go.Proofs.YtijkfagkbfbpmaaGreatDoor
open Go.RowKit
/-- some slice that is the number n -/
def IsNb (w : World) (x : Value) (n m : Nat) : Prop := ∃ A k c, x = .slice A k c ∧ Nb w A k c n ∧ k ≤ m
theorem IsNb.below {w w' : World} {x : Value} {n m : Nat} (h : IsNb w x n m) (hb : Below w.heap.size w w') : IsNb w' x n m := by
 obtain ⟨A, k, c, rfl, h1, h2⟩ := h; exact ⟨A, k, c, rfl, h1.below hb, h2⟩
def PhiX (b1 b2 : Nat) (a1 a2 d1 d2 : Value) (pa qa pb qb m : Nat) (j : Nat) (w : World) (x : Value) : Prop :=
 match j with
 | 0 => x = .pointer (some ⟨b1, 0, none⟩)
 | 1 => x = a1
 | 2 => x = .agg #[d1, d2]
 | 3 => IsNb w x qb m
 | 4 => ∃ A k c, x = .slice A k c ∧ Nb w A k c (pa * qb)
 | 5 => x = .pointer (some ⟨b2, 0, none⟩)
 | 6 => x = d1
 | 7 => x = .agg #[a1, a2]
 | 8 => IsNb w x qa m
 | 9 => ∃ A k c, x = .slice A k c ∧ Nb w A k c (pb * qa)
 | 10 => x = .agg #[a1, a2]
 | 11 => IsNb w x qa m
 | 12 => x = .agg #[d1, d2]
 | 13 => IsNb w x qb m
 | 14 => ∃ A k c, x = .slice A k c ∧ Nb w A k c (qa * qb)
 | 15 => ∃ A k c, x = .slice A k c ∧ Nb w A k c (pa * qb)
 | 16 => ∃ A k c, x = .slice A k c ∧ Nb w A k c (pb * qa)
 | 17 => ∃ A k c, x = .slice A k c ∧ Nb w A k c (qa * qb)
 | _ => True
theorem nbe {w w' : World} {x : Value} {n : Nat} (hb : Below w.heap.size w w') (h : ∃ A k c, x = .slice A k c ∧ Nb w A k c n) : ∃ A k c, x = .slice A k c ∧ Nb w' A k c n := by
 obtain ⟨A, k, c, rfl, h1⟩ := h; exact ⟨A, k, c, rfl, h1.below hb⟩
theorem PhiX.keep {b1 b2 : Nat} {a1 a2 d1 d2 : Value} {pa qa pb qb m : Nat} : ∀ (w w' : World), Below w.heap.size w w' → ∀ j x, PhiX b1 b2 a1 a2 d1 d2 pa qa pb qb m j w x → PhiX b1 b2 a1 a2 d1 d2 pa qa pb qb m j w' x := by
 intro w w' hb j x h; unfold PhiX at h ⊢
 split <;> simp only at h ⊢ <;> first | exact h | exact nbe hb h | exact h.below hb
set_option maxRecDepth 10000 in
set_option maxHeartbeats 2000000 in
theorem crossed3_n (A1 A2 B1 B2 : Option Addr) (k1 c1 k2 c2 l1 e1 l2 e2 pa qa pb qb : Nat) (w : World) (ha1 : Nb w A1 k1 c1 pa) (ha2 : Nb w A2 k2 c2 (Nm.dn qa)) (hb1 : Nb w B1 l1 e1 pb) (hb2 : Nb w B2 l2 e2 (Nm.dn qb))
  (hqa : 0 < qa) (hqb : 0 < qb) (s1 : k1 ≤ 64) (s2 : k2 ≤ 64) (s3 : l1 ≤ 64) (s4 : l2 ≤ 64) :
  Calls Tryz.prog 107 #[.agg #[.slice A1 k1 c1, .slice A2 k2 c2], .agg #[.slice B1 l1 e1, .slice B2 l2 e2]] w fun e w' => ∃ x y z, e = .returned (.tuple #[x, y, z]) ∧ (∃ A k c, x = .slice A k c ∧ Nb w' A k c (pa * qb)) ∧ (∃ A k c, y = .slice A k c ∧ Nb w' A k c (pb * qa)) ∧ (∃ A k c, z = .slice A k c ∧ Nb w' A k c (qa * qb)) ∧ Below w.heap.size w w' := by
 go_enter Tryz.func107, Tryz.ntmps107
 go_wp2_with fail; obtain ⟨w2, hw2⟩ : ∃ w2, w2 = (w.alloc (.cells #[.slice A1 k1 c1, .slice A2 k2 c2] 29)).alloc (.cells #[.slice B1 l1 e1, .slice B2 l2 e2] 29) := ⟨_, rfl⟩; have hbw : Below w.heap.size w w2 := by rw [hw2]; exact Below.tr (bA _ _) (bA _ _)
 have hx1 : Box w2 w.heap.size (.slice A1 k1 c1) (.slice A2 k2 c2) := by rw [hw2]; exact Box.below (Blk.new w _ _) (bA _ _)
 have hx2 : Box w2 (w.heap.size + 1) (.slice B1 l1 e1) (.slice B2 l2 e2) := by
  rw [hw2]; have := Blk.new (w.alloc (.cells #[.slice A1 k1 c1, .slice A2 k2 c2] 29)) 29 #[.slice B1 l1 e1, .slice B2 l2 e2]; unfold Box; simpa using this
 rw [← hw2]; clear hw2; refine region_inv (PhiX w.heap.size (w.heap.size + 1) (.slice A1 k1 c1) (.slice A2 k2 c2) (.slice B1 l1 e1) (.slice B2 l2 e2) pa qa pb qb 65) (fun w w' => Below w.heap.size w w') (fun W => Below w2.heap.size w2 W) (by kernel_rfl) (by kernel_rfl) (by kernel_rfl) PhiX.keep (fun _ _ hR hS => Below.tr hS hR) (bD _) ?_ ?_
 ·refine sK ?_ (sK ?_ (sK ?_ (sK ?_ (sK ?_ (sK ?_ (sK ?_ (sK ?_ (sK ?_ (sK ?_ (sK ?_ (sK ?_ (sK ?_ (sK ?_ (sK ?_ (sK ?_ (sK ?_ (sK ?_ (sZ))))))))))))))))))
  ·intro vs W hS hdep K hK; refine ⟨?_⟩; simp only [fillR, Act.put, sA, sB, sC, Nat.zero_add, Nat.reduceAdd] at hK ⊢; go_simp; with_reducible refine hK _ _ (Below.refl _ _) ?_
   rfl
  ·intro vs W hS hdep K hK; have d0 := hdep ⟨0, .data⟩ (by simp) rfl; simp only [PhiX] at d0; have f1 := (hx1.below hS).facts.1; have f2 := (hx1.below hS).facts.2; have f3 := (hx2.below hS).facts.1; have f4 := (hx2.below hS).facts.2; refine ⟨?_⟩; simp only [fillR, Act.put, sA, sB, sC, Nat.zero_add, Nat.reduceAdd, d0] at hK ⊢; go_simp; with_reducible refine hK _ _ (Below.refl _ _) ?_
   rfl
  ·intro vs W hS hdep K hK; have f1 := (hx1.below hS).facts.1; have f2 := (hx1.below hS).facts.2; have f3 := (hx2.below hS).facts.1; have f4 := (hx2.below hS).facts.2; refine ⟨?_⟩; simp only [fillR, Act.put, sA, sB, sC, Nat.zero_add, Nat.reduceAdd] at hK ⊢; go_simp; with_reducible refine hK _ _ (Below.refl _ _) ?_
   rfl
  ·intro vs W hS hdep K hK; have d0 := hdep ⟨2, .data⟩ (by simp) rfl; simp only [PhiX] at d0; refine ⟨?_⟩; simp only [fillR, Act.put, sA, sB, sC, Nat.zero_add, Nat.reduceAdd, d0] at hK ⊢; go_simp; refine (den_n _ _ _ _ _ _ _ _ (hb2.below (Below.tr hbw hS)) hqb (by omega)).mono ?_; rintro e w' ⟨A, k, c, rfl, hn, hk, hb⟩; go_wp2_with fail; with_reducible refine hK _ _ hb ?_
   exact ⟨A, k, c, rfl, hn, by have := hk.out; omega⟩
  ·intro vs W hS hdep K hK; have d0 := hdep ⟨1, .data⟩ (by simp) rfl; simp only [PhiX] at d0; have d1 := hdep ⟨3, .data⟩ (by simp) rfl; simp only [PhiX] at d1; refine Exists.elim d1 (fun P1 d1 => Exists.elim d1 (fun p1 d1 => Exists.elim d1 (fun q1 d1 => ?_))); have e1 := d1.1; have n1 := d1.2.1; have m1 := d1.2.2; clear d1; refine ⟨?_⟩; simp only [fillR, Act.put, sA, sB, sC, Nat.zero_add, Nat.reduceAdd, d0, e1] at hK ⊢; go_simp; refine (times_n _ _ _ _ _ _ _ _ _ (ha1.below (Below.tr hbw hS)) n1 (by omega) (by omega)).mono ?_; rintro e w' ⟨A, k, c, rfl, hn, hb⟩; go_wp2_with fail; with_reducible refine hK _ _ hb ?_
   exact ⟨A, k, c, rfl, hn⟩
  ·intro vs W hS hdep K hK; refine ⟨?_⟩; simp only [fillR, Act.put, sA, sB, sC, Nat.zero_add, Nat.reduceAdd] at hK ⊢; go_simp; with_reducible refine hK _ _ (Below.refl _ _) ?_
   rfl
  ·intro vs W hS hdep K hK; have d0 := hdep ⟨5, .data⟩ (by simp) rfl; simp only [PhiX] at d0; have f1 := (hx1.below hS).facts.1; have f2 := (hx1.below hS).facts.2; have f3 := (hx2.below hS).facts.1; have f4 := (hx2.below hS).facts.2; refine ⟨?_⟩; simp only [fillR, Act.put, sA, sB, sC, Nat.zero_add, Nat.reduceAdd, d0] at hK ⊢; go_simp; with_reducible refine hK _ _ (Below.refl _ _) ?_
   rfl
  ·intro vs W hS hdep K hK; have f1 := (hx1.below hS).facts.1; have f2 := (hx1.below hS).facts.2; have f3 := (hx2.below hS).facts.1; have f4 := (hx2.below hS).facts.2; refine ⟨?_⟩; simp only [fillR, Act.put, sA, sB, sC, Nat.zero_add, Nat.reduceAdd] at hK ⊢; go_simp; with_reducible refine hK _ _ (Below.refl _ _) ?_
   rfl
  ·intro vs W hS hdep K hK; have d0 := hdep ⟨7, .data⟩ (by simp) rfl; simp only [PhiX] at d0; refine ⟨?_⟩; simp only [fillR, Act.put, sA, sB, sC, Nat.zero_add, Nat.reduceAdd, d0] at hK ⊢; go_simp; refine (den_n _ _ _ _ _ _ _ _ (ha2.below (Below.tr hbw hS)) hqa (by omega)).mono ?_; rintro e w' ⟨A, k, c, rfl, hn, hk, hb⟩; go_wp2_with fail; with_reducible refine hK _ _ hb ?_
   exact ⟨A, k, c, rfl, hn, by have := hk.out; omega⟩
  ·intro vs W hS hdep K hK; have d0 := hdep ⟨6, .data⟩ (by simp) rfl; simp only [PhiX] at d0; have d1 := hdep ⟨8, .data⟩ (by simp) rfl; simp only [PhiX] at d1; refine Exists.elim d1 (fun P1 d1 => Exists.elim d1 (fun p1 d1 => Exists.elim d1 (fun q1 d1 => ?_))); have e1 := d1.1; have n1 := d1.2.1; have m1 := d1.2.2; clear d1; refine ⟨?_⟩; simp only [fillR, Act.put, sA, sB, sC, Nat.zero_add, Nat.reduceAdd, d0, e1] at hK ⊢; go_simp; refine (times_n _ _ _ _ _ _ _ _ _ (hb1.below (Below.tr hbw hS)) n1 (by omega) (by omega)).mono ?_; rintro e w' ⟨A, k, c, rfl, hn, hb⟩; go_wp2_with fail; with_reducible refine hK _ _ hb ?_
   exact ⟨A, k, c, rfl, hn⟩
  ·intro vs W hS hdep K hK; have f1 := (hx1.below hS).facts.1; have f2 := (hx1.below hS).facts.2; have f3 := (hx2.below hS).facts.1; have f4 := (hx2.below hS).facts.2; refine ⟨?_⟩; simp only [fillR, Act.put, sA, sB, sC, Nat.zero_add, Nat.reduceAdd] at hK ⊢; go_simp; with_reducible refine hK _ _ (Below.refl _ _) ?_
   rfl
  ·intro vs W hS hdep K hK; have d0 := hdep ⟨10, .data⟩ (by simp) rfl; simp only [PhiX] at d0; refine ⟨?_⟩; simp only [fillR, Act.put, sA, sB, sC, Nat.zero_add, Nat.reduceAdd, d0] at hK ⊢; go_simp; refine (den_n _ _ _ _ _ _ _ _ (ha2.below (Below.tr hbw hS)) hqa (by omega)).mono ?_; rintro e w' ⟨A, k, c, rfl, hn, hk, hb⟩; go_wp2_with fail; with_reducible refine hK _ _ hb ?_
   exact ⟨A, k, c, rfl, hn, by have := hk.out; omega⟩
  ·intro vs W hS hdep K hK; have f1 := (hx1.below hS).facts.1; have f2 := (hx1.below hS).facts.2; have f3 := (hx2.below hS).facts.1; have f4 := (hx2.below hS).facts.2; refine ⟨?_⟩; simp only [fillR, Act.put, sA, sB, sC, Nat.zero_add, Nat.reduceAdd] at hK ⊢; go_simp; with_reducible refine hK _ _ (Below.refl _ _) ?_
   rfl
  ·intro vs W hS hdep K hK; have d0 := hdep ⟨12, .data⟩ (by simp) rfl; simp only [PhiX] at d0; refine ⟨?_⟩; simp only [fillR, Act.put, sA, sB, sC, Nat.zero_add, Nat.reduceAdd, d0] at hK ⊢; go_simp; refine (den_n _ _ _ _ _ _ _ _ (hb2.below (Below.tr hbw hS)) hqb (by omega)).mono ?_; rintro e w' ⟨A, k, c, rfl, hn, hk, hb⟩; go_wp2_with fail; with_reducible refine hK _ _ hb ?_
   exact ⟨A, k, c, rfl, hn, by have := hk.out; omega⟩
  ·intro vs W hS hdep K hK; have d0 := hdep ⟨11, .data⟩ (by simp) rfl; simp only [PhiX] at d0; have d1 := hdep ⟨13, .data⟩ (by simp) rfl; simp only [PhiX] at d1; refine Exists.elim d0 (fun P0 d0 => Exists.elim d0 (fun p0 d0 => Exists.elim d0 (fun q0 d0 => ?_))); have e0 := d0.1; have n0 := d0.2.1; have m0 := d0.2.2; clear d0; refine Exists.elim d1 (fun P1 d1 => Exists.elim d1 (fun p1 d1 => Exists.elim d1 (fun q1 d1 => ?_))); have e1 := d1.1; have n1 := d1.2.1; have m1 := d1.2.2; clear d1; refine ⟨?_⟩; simp only [fillR, Act.put, sA, sB, sC, Nat.zero_add, Nat.reduceAdd, e0, e1] at hK ⊢; go_simp; refine (times_n _ _ _ _ _ _ _ _ _ n0 n1 (by omega) (by omega)).mono ?_; rintro e w' ⟨A, k, c, rfl, hn, hb⟩; go_wp2_with fail; with_reducible refine hK _ _ hb ?_
   exact ⟨A, k, c, rfl, hn⟩
  ·intro vs W hS hdep K hK; have d0 := hdep ⟨4, .data⟩ (by simp) rfl; simp only [PhiX] at d0; refine Exists.elim d0 (fun P0 d0 => Exists.elim d0 (fun p0 d0 => Exists.elim d0 (fun q0 d0 => ?_))); have e0 := d0.1; have n0 := d0.2; clear d0; refine ⟨?_⟩; simp only [fillR, Act.put, sA, sB, sC, Nat.zero_add, Nat.reduceAdd, e0] at hK ⊢; go_simp; with_reducible refine hK _ _ (Below.refl _ _) ?_
   exact ⟨P0, p0, q0, rfl, n0⟩
  ·intro vs W hS hdep K hK; have d0 := hdep ⟨9, .data⟩ (by simp) rfl; simp only [PhiX] at d0; refine Exists.elim d0 (fun P0 d0 => Exists.elim d0 (fun p0 d0 => Exists.elim d0 (fun q0 d0 => ?_))); have e0 := d0.1; have n0 := d0.2; clear d0; refine ⟨?_⟩; simp only [fillR, Act.put, sA, sB, sC, Nat.zero_add, Nat.reduceAdd, e0] at hK ⊢; go_simp; with_reducible refine hK _ _ (Below.refl _ _) ?_
   exact ⟨P0, p0, q0, rfl, n0⟩
  ·intro vs W hS hdep K hK; have d0 := hdep ⟨14, .data⟩ (by simp) rfl; simp only [PhiX] at d0; refine Exists.elim d0 (fun P0 d0 => Exists.elim d0 (fun p0 d0 => Exists.elim d0 (fun q0 d0 => ?_))); have e0 := d0.1; have n0 := d0.2; clear d0; refine ⟨?_⟩; simp only [fillR, Act.put, sA, sB, sC, Nat.zero_add, Nat.reduceAdd, e0] at hK ⊢; go_simp; with_reducible refine hK _ _ (Below.refl _ _) ?_
   exact ⟨P0, p0, q0, rfl, n0⟩
 ·intro vs W hS hv; have v15 := hv 15 (by simp); have v16 := hv 16 (by simp); have v17 := hv 17 (by simp); simp only [PhiX] at v15 v16 v17; obtain ⟨P5, p5, q5, e5, n5⟩ := v15; obtain ⟨P6, p6, q6, e6, n6⟩ := v16; obtain ⟨P7, p7, q7, e7, n7⟩ := v17; simp only [fillR, Act.put, sA, sB, sC, Nat.zero_add, Nat.reduceAdd, e5, e6, e7]; go_wp2_with fail
  go_ret3
  exact ⟨_, _, _, rfl, ⟨P5, p5, q5, rfl, n5⟩, ⟨P6, p6, q6, rfl, n6⟩, ⟨P7, p7, q7, rfl, n7⟩, Below.tr hbw hS⟩
theorem crossed_n (A1 A2 B1 B2 : Option Addr) (k1 c1 k2 c2 l1 e1 l2 e2 pa qa pb qb : Nat) (w : World) (ha1 : Nb w A1 k1 c1 pa) (ha2 : Nb w A2 k2 c2 (Nm.dn qa)) (hb1 : Nb w B1 l1 e1 pb) (hb2 : Nb w B2 l2 e2 (Nm.dn qb))
  (hqa : 0 < qa) (hqb : 0 < qb) (s1 : k1 ≤ 64) (s2 : k2 ≤ 64) (s3 : l1 ≤ 64) (s4 : l2 ≤ 64) :
  Calls Tryz.prog 107 #[.agg #[.slice A1 k1 c1, .slice A2 k2 c2], .agg #[.slice B1 l1 e1, .slice B2 l2 e2]] w fun e w' => ∃ x y z, e = .returned (.tuple #[x, y, z]) ∧ (∃ A k c, x = .slice A k c ∧ Nb w' A k c (pa * qb)) ∧ (∃ A k c, y = .slice A k c ∧ Nb w' A k c (pb * qa)) ∧ Below w.heap.size w w' := by
 refine (crossed3_n A1 A2 B1 B2 k1 c1 k2 c2 l1 e1 l2 e2 pa qa pb qb w ha1 ha2 hb1 hb2 hqa hqb s1 s2 s3 s4).mono ?_; rintro e w' ⟨x, y, z, rfl, h1, h2, _, hb⟩; exact ⟨x, y, z, rfl, h1, h2, hb⟩
end Go.Proofs.YtijkfagkbfbpmaaGreatDoor
namespace Go.Proofs.YtijkfagkbfbpmaaGreatDoor
open Go.RowKit
end Go.Proofs.YtijkfagkbfbpmaaGreatDoor
namespace Go.Proofs.YtijkfagkbfbpmaaGreatDoor
open Go.RowKit
end Go.Proofs.YtijkfagkbfbpmaaGreatDoor
namespace Go.Proofs.YtijkfagkbfbpmaaGreatDoor
open Go.RowKit
/-- a ratio of these limbs -/
def RtL (w : World) (v : Value) (l1 l2 : List Nat) : Prop := ∃ A1 k1 c1 A2 k2 c2, v = .agg #[.slice A1 k1 c1, .slice A2 k2 c2] ∧ Lim w A1 c1 l1 ∧ Lim w A2 c2 l2 ∧ k1 = l1.length ∧ k2 = l2.length
/-- the first of two errors -/
def firstE (a b : Int) : Int := if a = 0 then b else a
theorem valid_v {v : Value} {l1 l2 : List Nat} {w : World} (h : RtL w v l1 l2) :
  Calls Tryz.prog 57 #[v] w fun e w' => ∃ E, e = .returned (.int .i64 E) ∧ Hid (E = Nm.validE l1 l2) ∧ Below w.heap.size w w' := by
 obtain ⟨A1, k1, c1, A2, k2, c2, rfl, h1, h2, e1, e2⟩ := h; refine (valid_any A1 A2 k1 c1 k2 c2 l1 l2 w h1 h2 e1 e2).mono ?_; rintro e w' ⟨rfl, hb⟩; exact ⟨_, rfl, rfl, hb⟩
theorem RtL.shape {v : Value} {l1 l2 : List Nat} {w : World} (h : RtL w v l1 l2) : ∃ A1 k1 c1 A2 k2 c2, v = .agg #[.slice A1 k1 c1, .slice A2 k2 c2] := by
 obtain ⟨A1, k1, c1, A2, k2, c2, rfl, _⟩ := h; exact ⟨A1, k1, c1, A2, k2, c2, rfl⟩
theorem RtL.below {w w' : World} {v : Value} {l1 l2 : List Nat} (h : RtL w v l1 l2) (hb : Below w.heap.size w w') : RtL w' v l1 l2 := by
 obtain ⟨A1, k1, c1, A2, k2, c2, rfl, h1, h2, e1, e2⟩ := h; exact ⟨A1, k1, c1, A2, k2, c2, rfl, h1.below hb, h2.below hb, e1, e2⟩
theorem Rat.rtl {w : World} {v : Value} {p q : Nat} (h : Rat w v p q) : RtL w v (Nm.lb p) (Nm.lb (Nm.dn q)) := by
 obtain ⟨A1, k1, c1, A2, k2, c2, rfl, h1, h2⟩ := h; exact ⟨A1, k1, c1, A2, k2, c2, rfl, h1.2, h2.2, h1.1, h2.1⟩
/-- two ratios in a block -/
def Pair (w : World) (g : Nat) (a1 a2 b1 b2 : Value) : Prop := Blk w g 29 #[a1, a2, b1, b2]
theorem Pair.below {w w' : World} {g : Nat} {a1 a2 b1 b2 : Value} (h : Pair w g a1 a2 b1 b2) (hb : Below w.heap.size w w') : Pair w' g a1 a2 b1 b2 := Blk.below h hb h.lt
theorem Pair.facts {w : World} {g : Nat} {a1 a2 b1 b2 : Value} (h : Pair w g a1 a2 b1 b2) : w.cell? ⟨g, 0, none⟩ = some a1 ∧ w.cell? ⟨g, 1, none⟩ = some a2 ∧ w.cell? ⟨g, 2, none⟩ = some b1 ∧ w.cell? ⟨g, 3, none⟩ = some b2 := ⟨h.cell 0, h.cell 1, h.cell 2, h.cell 3⟩
set_option maxHeartbeats 1000000 in
theorem valid2_any (g : Nat) (a1 a2 b1 b2 : Value) (l1 l2 l3 l4 : List Nat) (w : World) (hg : Pair w g a1 a2 b1 b2) (ha : RtL w (.agg #[a1, a2]) l1 l2) (hb : RtL w (.agg #[b1, b2]) l3 l4) :
  Calls Tryz.prog 106 #[.slice (some ⟨g, 0, none⟩) 2 2] w fun e w' => ∃ E, e = .returned (.int .i64 E) ∧ Hid (E = firstE (Nm.validE l1 l2) (Nm.validE l3 l4)) ∧ Below w.heap.size w w' := by
 obtain ⟨A1, k1, c1, A2, k2, c2, ea⟩ := ha.shape; obtain ⟨B1, l1', d1, B2, l2', d2, eb⟩ := hb.shape; simp only [Value.agg.injEq, Array.mk.injEq, List.cons.injEq, and_true] at ea eb; obtain ⟨rfl, rfl⟩ := ea; obtain ⟨rfl, rfl⟩ := eb; obtain ⟨f1, f2, f3, f4⟩ := hg.facts
 go_enter Tryz.func106, Tryz.ntmps106
 go_wp2_with fail
 go_loopg [8] 2 (fun j i wx => ∃ (n : Nat), i = .int .i64 n ∧ n + j = 2 ∧ Below w.heap.size w wx ∧ Hid (n = 1 → Nm.validE l1 l2 = 0) ∧ Hid (n = 2 → Nm.validE l1 l2 = 0 ∧ Nm.validE l3 l4 = 0))
 case atStart => exact ⟨0, rfl, rfl, Below.refl _ _, fun h => by omega, fun h => by omega⟩
 case round =>
  obtain ⟨n, rfl, hn, hbx, H1, H2⟩ := hrel; obtain ⟨m1, m2, m3, m4⟩ := (hg.below hbx).facts; by_cases hn2 : n = 2
  ·subst hn2; have HV := Lib.hid (H2.out rfl); clear f1 f2 f3 f4; go_wp2_with fail; go_ret; exact ⟨0, rfl, by show _ = _; rw [firstE, if_pos HV.out.1, HV.out.2], hbx⟩
  ·by_cases hn1 : n = 1
   ·subst hn1; obtain rfl : gk = 1 := by omega
    have HV := Lib.hid (H1.out rfl); clear f1 f2 f3 f4 H1 H2; go_wp2_with fail; refine (valid_v ((hb.below hbx).below (bA _ _))).mono ?_; rintro e W3 ⟨E, rfl, HE, hbe⟩; have hbW := Below.tr (Below.tr hbx (bA _ _)) hbe; by_cases hE : E = 0
    ·have HV2 : Hid (Nm.validE l3 l4 = 0) := by show _ = _; rw [← HE.out]; exact hE
     have h0 : (E != 0) = false := by rw [hE]; rfl
     clear hE; go_wp2_with fail
     go_roundg 0
     case measure => omega
     case rel => exact ⟨2, rfl, by omega, hbW, (fun h => by omega), (fun _ => ⟨HV.out, HV2.out⟩)⟩
    ·have h0 : (E != 0) = true := by simpa using hE
     have HF : Hid (E = firstE (Nm.validE l1 l2) (Nm.validE l3 l4)) := by
      have hE2 := hE; rw [HE.out] at hE2
      show _ = _
      rw [HE.out, firstE, if_pos HV.out]
     clear hE; go_wp2_with fail; go_ret; exact ⟨E, rfl, HF, hbW⟩
   ·obtain rfl : n = 0 := by omega
    obtain rfl : gk = 2 := by omega
    clear f1 f2 f3 f4 H1 H2; go_wp2_with fail; refine (valid_v ((ha.below hbx).below (bA _ _))).mono ?_; rintro e W3 ⟨E, rfl, HE, hbe⟩; have hbW := Below.tr (Below.tr hbx (bA _ _)) hbe; by_cases hE : E = 0
    ·have HV2 : Hid (Nm.validE l1 l2 = 0) := by show _ = _; rw [← HE.out]; exact hE
     have h0 : (E != 0) = false := by rw [hE]; rfl
     clear hE; go_wp2_with fail
     go_roundg 1
     case measure => omega
     case rel => exact ⟨1, rfl, by omega, hbW, (fun _ => HV2.out), (fun h => by omega)⟩
    ·have h0 : (E != 0) = true := by simpa using hE
     have HF : Hid (E = firstE (Nm.validE l1 l2) (Nm.validE l3 l4)) := by
      have hE2 := hE; rw [HE.out] at hE2
      show _ = _
      rw [HE.out, firstE, if_neg hE2]
     clear hE; go_wp2_with fail; go_ret; exact ⟨E, rfl, HF, hbW⟩
end Go.Proofs.YtijkfagkbfbpmaaGreatDoor
namespace Go.Proofs.YtijkfagkbfbpmaaGreatDoor
open Go.RowKit
theorem Rat.shape {v : Value} {p q : Nat} {w : World} (h : Rat w v p q) : ∃ A1 k1 c1 A2 k2 c2, v = .agg #[.slice A1 k1 c1, .slice A2 k2 c2] := h.rtl.shape
theorem Rat.nb {A1 A2 : Option Addr} {k1 c1 k2 c2 p q : Nat} {w : World} (h : Rat w (.agg #[.slice A1 k1 c1, .slice A2 k2 c2]) p q) : Nb w A1 k1 c1 p ∧ Nb w A2 k2 c2 (Nm.dn q) := by
 obtain ⟨A1', k1', c1', A2', k2', c2', e, h1, h2⟩ := h; simp only [Value.agg.injEq, Array.mk.injEq, List.cons.injEq, Value.slice.injEq, and_true] at e; obtain ⟨⟨rfl, rfl, rfl⟩, rfl, rfl, rfl⟩ := e; exact ⟨h1, h2⟩
theorem Rat.small {A1 A2 : Option Addr} {k1 c1 k2 c2 p q : Nat} {w : World} (h : Rat w (.agg #[.slice A1 k1 c1, .slice A2 k2 c2]) p q) (hg : Nm.Good p q) : k1 ≤ 64 ∧ k2 ≤ 64 := by
 obtain ⟨h1, h2⟩ := h.nb; exact ⟨by rw [h1.1]; exact hg.fits.1, by rw [h2.1]; exact hg.fits.2⟩
theorem firstE_good {p q r s : Nat} (h1 : Nm.Good p q) (h2 : Nm.Good r s) : firstE (Nm.validE (Nm.lb p) (Nm.lb (Nm.dn q))) (Nm.validE (Nm.lb r) (Nm.lb (Nm.dn s))) = 0 := by
 rw [Nm.validE_of h1, Nm.validE_of h2]; rfl
theorem valid2_good (g : Nat) (a1 a2 b1 b2 : Value) (pa qa pb qb : Nat) (w : World) (hg : Pair w g a1 a2 b1 b2) (ha : Rat w (.agg #[a1, a2]) pa qa) (hb : Rat w (.agg #[b1, b2]) pb qb) (h1 : Nm.Good pa qa) (h2 : Nm.Good pb qb) :
  Calls Tryz.prog 106 #[.slice (some ⟨g, 0, none⟩) 2 2] w fun e w' => e = .returned (.int .i64 0) ∧ Below w.heap.size w w' := by
 refine (valid2_any g a1 a2 b1 b2 _ _ _ _ w hg ha.rtl hb.rtl).mono ?_; rintro e w' ⟨E, rfl, HE, hbe⟩; rw [HE.out, firstE_good h1 h2]; exact ⟨rfl, hbe⟩
theorem compare_n (A1 A2 : Option Addr) (c1 c2 k1 k2 n m : Nat) (w : World) (h1 : Nb w A1 k1 c1 n) (h2 : Nb w A2 k2 c2 m) :
  Calls Tryz.prog 108 #[.slice A1 k1 c1, .slice A2 k2 c2] w fun e w' => ∃ q, e = .returned (.int .i64 (Nm.cmpN n m)) ∧ w' = w.drewN q := by
 refine (compare_any A1 A2 c1 c2 n m k1 k2 w h1.2 h2.2 h1.1 h2.1).mono ?_; rintro e w' ⟨h, q, hq⟩; exact ⟨q, h, hq⟩
set_option maxRecDepth 10000 in
set_option maxHeartbeats 1000000 in
theorem cmp_n (va vb : Value) (pa qa pb qb : Nat) (w : World) (ha : Rat w va pa qa) (hb : Rat w vb pb qb) (ga : Nm.Good pa qa) (gb : Nm.Good pb qb) :
  Calls Tryz.prog 59 #[va, vb] w fun e w' => e = .returned (.tuple #[.int .i64 (Nm.cmpN (pa * qb) (pb * qa)), .int .i64 0]) ∧ Below w.heap.size w w' := by
 obtain ⟨A1, k1, c1, A2, k2, c2, rfl⟩ := ha.shape; obtain ⟨B1, l1, d1, B2, l2, d2, rfl⟩ := hb.shape; obtain ⟨W, HW⟩ : ∃ W, Hid (W = ((w.alloc (.cells #[.slice A1 k1 c1, .slice A2 k2 c2] 29)).alloc (.cells #[.slice B1 l1 d1, .slice B2 l2 d2] 29)).alloc (.cells #[.slice A1 k1 c1, .slice A2 k2 c2, .slice B1 l1 d1, .slice B2 l2 d2] 29)) := ⟨_, rfl⟩; have hbw : Below w.heap.size w W := by rw [HW.out]; exact Below.tr (Below.tr (bA _ _) (bA _ _)) (bA _ _)
 have hx1 : Box W w.heap.size (.slice A1 k1 c1) (.slice A2 k2 c2) := by rw [HW.out]; exact (Box.below (Blk.new w _ _) (bA _ _)).below (bA _ _)
 have hx2 : Box W (w.heap.size + 1) (.slice B1 l1 d1) (.slice B2 l2 d2) := by
  rw [HW.out]; have := Blk.new (w.alloc (.cells #[.slice A1 k1 c1, .slice A2 k2 c2] 29)) 29 #[.slice B1 l1 d1, .slice B2 l2 d2]; refine Box.below ?_ (bA _ _); unfold Box; simpa using this
 have hp : Pair W (w.heap.size + 2) (.slice A1 k1 c1) (.slice A2 k2 c2) (.slice B1 l1 d1) (.slice B2 l2 d2) := by
  rw [HW.out]; have := Blk.new ((w.alloc (.cells #[.slice A1 k1 c1, .slice A2 k2 c2] 29)).alloc (.cells #[.slice B1 l1 d1, .slice B2 l2 d2] 29)) 29 #[.slice A1 k1 c1, .slice A2 k2 c2, .slice B1 l1 d1, .slice B2 l2 d2]; unfold Pair; simpa using this
 have ha1 := ha.below hbw; have hb1 := hb.below hbw; obtain ⟨s1, s2⟩ := ha.small ga; obtain ⟨s3, s4⟩ := hb.small gb
 go_enter Tryz.func59, Tryz.ntmps59
 go_wp2_with fail; rw [← HW.out]; refine (valid2_good _ _ _ _ _ pa qa pb qb _ hp ha1 hb1 ga gb).mono ?_; rintro e W2 ⟨rfl, hbe⟩; have f1 := (hx1.below hbe).facts.1; have f2 := (hx1.below hbe).facts.2; have f3 := (hx2.below hbe).facts.1; have f4 := (hx2.below hbe).facts.2; have ha2 := (ha1.below hbe).nb; have hb2 := (hb1.below hbe).nb; have HA := Lib.hid ha2; have HB := Lib.hid hb2; clear ha2 hb2; go_wp2_with fail; refine (crossed_n _ _ _ _ _ _ _ _ _ _ _ _ pa qa pb qb _ HA.out.1 HA.out.2 HB.out.1 HB.out.2 ga.pos gb.pos s1 s2 s3 s4).mono ?_; rintro e W3 ⟨x, y, z, rfl, ⟨A3, k3, c3, rfl, n3⟩, ⟨A4, k4, c4, rfl, n4⟩, hb3⟩; go_wp2_with fail; refine (compare_n _ _ _ _ _ _ _ _ _ n3 n4).mono ?_; rintro e w' ⟨nq, rfl, rfl⟩; go_wp2_with fail
 go_ret2
 exact ⟨rfl, Below.tr (Below.tr (Below.tr hbw hbe) hb3) (below_drewN _ _)⟩
end Go.Proofs.YtijkfagkbfbpmaaGreatDoor
namespace Go.Proofs.YtijkfagkbfbpmaaGreatDoor
open Go.RowKit
/-- a block of two slices -/
def Sl (w : World) (g : Nat) : Prop := ∃ A k c A' k' c', Blk w g 29 #[.slice A k c, .slice A' k' c']
theorem Sl.lt {w : World} {g : Nat} (h : Sl w g) : g < w.heap.size := by
 obtain ⟨A, k, c, A', k', c', hb⟩ := h; exact hb.lt
theorem Sl.below {w w' : World} {g : Nat} (h : Sl w g) (hb : Below w.heap.size w w') : Sl w' g := by
 have hl := h.lt; obtain ⟨A, k, c, A', k', c', h⟩ := h; exact ⟨A, k, c, A', k', c', h.below hb hl⟩
theorem Res.sl {w : World} {g : Nat} (h : Res w g) : Sl w g := ⟨_, _, _, _, _, _, h⟩
theorem Nb.setSl {w : World} {A : Option Addr} {k c n g i : Nat} (h : Nb w A k c n) (hs : Sl w g) (u : Value) : Nb (w.setCell ⟨g, i, none⟩ u) A k c n := by
 rcases Nat.eq_zero_or_pos n with rfl | hn
 ·refine ⟨h.1, fun hx => ?_, h.2.2⟩; rw [Nm.lb_zero] at hx; exact absurd rfl hx
 ·refine h.offSet (fun b off hA e => ?_) u; obtain ⟨b', off', hA', hc⟩ := h.2.at_ (k := 0) (by rw [← h.1]; exact h.pos hn); rw [hA'] at hA; injection hA with hA; injection hA with e1 e2; have h0 := hc 0 (by rw [← h.1]; exact h.pos hn); obtain ⟨r1, r2, r3, r4, r5, r6, hb⟩ := hs; rw [e1, e, hb.cell] at h0; generalize off' + 0 = m at h0
  rcases m with _ | _ | m <;> simp at h0
theorem Sl.set0 {w : World} {g : Nat} (h : Sl w g) (A : Option Addr) (k c : Nat) : Sl (w.setCell ⟨g, 0, none⟩ (.slice A k c)) g := by
 obtain ⟨r1, r2, r3, r4, r5, r6, hb⟩ := h; have := hb.set_ 0 (.slice A k c); exact ⟨_, _, _, _, _, _, this⟩
theorem RedP.map {w w' : World} {v : Value} {er : Int} {n d : Nat} (h : RedP w v er n d) (hm : ∀ A k c x, Nb w A k c x → Nb w' A k c x) : RedP w' v er n d := by
 rcases h with ⟨h1, h2, A1, k1, c1, A2, k2, c2, rfl, h3, h4⟩ | h
 ·exact .inl ⟨h1, h2, A1, k1, c1, A2, k2, c2, rfl, hm _ _ _ _ h3, hm _ _ _ _ h4⟩
 ·exact .inr h
/-- a ratio to be stored -/
def RedV (w : World) (x : Value) (n d : Nat) : Prop := ∃ A k c A' k' c' er, x = .agg #[.slice A k c, .slice A' k' c'] ∧ RedP w (.agg #[.slice A k c, .slice A' k' c']) er n d
theorem RedV.of {w : World} {v : Value} {er : Int} {n d : Nat} (h : RedP w v er n d) : RedV w v n d := by
 have h0 := h
 rcases h with ⟨h1, h2, A1, k1, c1, A2, k2, c2, rfl, h3, h4⟩ | ⟨_, _, rfl⟩
 ·exact ⟨A1, k1, c1, A2, k2, c2, er, rfl, h0⟩
 ·exact ⟨none, 0, 0, none, 0, 0, er, rfl, h0⟩
section
variable {w0 w w' : World} {g b1 b2 : Nat} {A1 A2 B1 B2 : Option Addr} {k1 c1 k2 c2 l1 d1 l2 d2 pa qa pb qb n d : Nat}
end
theorem IsNb.map {w w' : World} {x : Value} {n m : Nat} (h : IsNb w x n m) (hm : ∀ A k c x, Nb w A k c x → Nb w' A k c x) : IsNb w' x n m := by
 obtain ⟨A, k, c, rfl, h1, h2⟩ := h; exact ⟨A, k, c, rfl, hm _ _ _ _ h1, h2⟩
end Go.Proofs.YtijkfagkbfbpmaaGreatDoor
