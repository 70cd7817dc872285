import Derived.Test.YticobffjnjbjiaaJ07
import Derived.Deep.CutRange
import Derived.Deep.RegionWith
import Derived.Deep.RegionHeld3
import Derived.StillTailTactics
import Derived.Deep.CutBlock
import Derived.Deep.LoopGhost
import Derived.Test.YticobffjnjbjiaaJ05
import Derived.Test.YticobffjnjbjiaaJ04
import Derived.Deep.QuietTactic
import Derived.BigQuiet
import Derived.Test.YticobffjnjbjiaaJ02
import Derived.RegionTactic
import Derived.Test.YticobffjnjbjiaaS0
set_option linter.unusedVariables false
set_option linter.unusedSimpArgs false
namespace Go.Proofs.Yticobffjnjbjiaa
open Go.RowKit
theorem lz_any (t : Nat) (w : World) (h : 0 < t) (ht : t < 4294967296) :
  Calls Try.prog 125 #[.int .u32 t] w fun e w' => ∃ s : Nat, e = .returned (.int .i64 (s : Int)) ∧ s ≤ 31 ∧ Hid (2147483648 ≤ t * 2 ^ s ∧ (t + 1) * 2 ^ s ≤ 4294967296) ∧ w = w' := by
 refine (Try.bits_LeadingZeros32 t w (by omega) (by omega)).mono ?_; rintro e w' ⟨he, hw⟩; obtain ⟨g1, g2, g3, g4⟩ := bitLen_top t h ht; rw [Int.toNat_natCast] at he; refine ⟨32 - Lib.bitLen t, ?_, by omega, ⟨g3, g4⟩, hw.symm⟩; rw [he]
 congr 2
 omega
theorem u64w (n : Nat) (h : n < 18446744073709551616) : IntKind.u64.wrap (n : Int) = (n : Int) := by rw [IntKind.wrap_u64]; omega
theorem trim_e (A : Option Addr) (c k k' : Nat) (l : List Nat) (w : World) (hr : Lim w A c l) (hk : k = l.length) (hk' : k' = (Nm.lb (Nm.nv l)).length) :
  Calls Try.prog 94 #[.slice A k c] w fun e w' => e = .returned (.slice A k' k') ∧ w = w' := by
 subst hk'; exact trim_k A c k l w hr hk
set_option maxRecDepth 100000 in
set_option maxHeartbeats 8000000 in
theorem divide_big (A1 A2 : Option Addr) (c1 c2 n m k1 m2 : Nat) (w : World) (h1 : Lim w A1 c1 (Nm.lb n)) (h2 : Lim w A2 c2 (Nm.lb m)) (e1 : k1 = (Nm.lb n).length) (e2 : m2 + 2 = (Nm.lb m).length) (hl1 : k1 ≤ 1048570) (hge : m ≤ n) :
  Calls Try.prog 111 #[.slice A1 k1 c1, .slice A2 (m2 + 2) c2] w fun e w' => ∃ A k A' k', e = .returned (.tuple #[.slice A k k, .slice A' k' k']) ∧ k = (Nm.lb (n / m)).length ∧ Lim w' A k (Nm.lb (n / m)) ∧ k' = (Nm.lb (n % m)).length ∧ Lim w' A' k' (Nm.lb (n % m)) ∧ Below w.heap.size w w' := by
 have HC : ∃ c : Int, 0 ≤ c ∧ Hid (Nm.cmpN n m = c) := by
  by_cases h : n = m
  ·exact ⟨0, by omega, Nm.cmpN_eq h⟩
  ·exact ⟨1, by omega, Nm.cmpN_gt (by omega)⟩
 obtain ⟨cc, hcc, HC⟩ := HC; have hlen : m2 + 2 ≤ k1 := by have := Nm.lb_length_le_of_lt hge; omega
 obtain ⟨b, off, t, rfl, hc, ht, HT⟩ := h2.get (k := m2 + 1) (by omega)
 have ht0 : 0 < t := by
  have hp := Nm.proper_lb m (by intro h; rw [h] at e2; simp at e2); rw [List.getLast_eq_getElem] at hp
  have : t = (Nm.lb m)[(Nm.lb m).length - 1]'(by omega) := by
   rw [HT.out]; have e3 : (Nm.lb m).length - 1 = m2 + 1 := by omega
   simp only [e3]; exact Nm.getD_of_lt (by omega)
  omega
 have E1 := Lib.hid e1; have E2 := Lib.hid e2; clear e1 e2
 go_enter Try.func111, Try.ntmps111
 go_wp2_with (first
  | (go_at_call 80; refine (compare_any _ _ _ _ n m _ _ _ h1 h2 E1.out E2.out).mono ?_; rw [HC.out]; rintro e w' ⟨rfl, q, rfl⟩)
  | (go_at_call 125; refine (lz_any t _ ht0 ht).mono ?_; rintro e w' ⟨s, rfl, hs, HS, rfl⟩))
 refine (shift_k _ _ s _ (Nm.lb m) _ (h2.drewN q) E2.out (by omega) hs).mono ?_; rintro e w1 ⟨g1, out1, rfl, hg1, hrow1, HO1, hb1⟩
 obtain ⟨HN, HT2⟩ : Hid (m2 + 2 = (Nm.lb (Nm.nv out1)).length) ∧ Hid (Nm.B ≤ 2 * (Nm.lb (Nm.nv out1)).getD (m2 + 1) 0) := by
  have := Nm.norm_len E2.out HT.out HS.1 HS.2; have e3 : Nm.nv out1 = m * 2 ^ s := by rw [HO1.2.1, Nm.nv_lb]
  rw [e3]; exact this
 have hv := (hrow1.lim (c := m2 + 2 + 1) (by rw [HO1.1]; omega) (by omega))
 go_wp2_with (go_at_call 94; refine (trim_e _ _ _ (m2 + 2) out1 _ hv (by rw [HO1.1]) HN.out).mono ?_; rintro e w' ⟨rfl, rfl⟩)
 have hx1 := (h1.drewN q).below hb1; refine (shift_k _ _ s _ (Nm.lb n) _ hx1 E1.out (by omega) hs).mono ?_; rintro e w2 ⟨g2, U, rfl, hg2, hrow2, HO2, hb2⟩; have hg12 : g1 < g2 := Nat.lt_of_lt_of_le hrow1.1.lt hg2; obtain ⟨L, HL⟩ : ∃ L : Nat, Hid (k1 + 1 = L + (m2 + 2)) := ⟨k1 - m2 - 1, by show _ = _; omega⟩; have hLk : L ≤ k1 := by have := HL.out; omega
 have hLm : k1 + 1 ≤ L + (m2 + 2) := by have := HL.out; omega
 have hLm2 : L + (m2 + 2) ≤ k1 + 1 := by have := HL.out; omega
 have hmk := run_make32 (↑k1 + 1 - (↑m2 + 2)) L (by omega) (by omega) w2; have HM : Hid (Nm.nv U = n * 2 ^ s) := by have := HO2.2.1; rwa [Nm.nv_lb] at this
 have hD0 : Nm.DivR U (List.replicate L 0) (Nm.lb (Nm.nv out1)) (n * 2 ^ s) (k1 + 1) L := by
  have := Nm.div_start hrow2.2 HO2.1 hlen HO2.2.2 hs HN.out.symm HT2.out; have e : k1 + 1 - (m2 + 2) = L := by omega
  rw [e, HM.out] at this; exact this
 obtain ⟨V, HV⟩ : ∃ V, Hid (V = Nm.lb (Nm.nv out1)) := ⟨_, rfl⟩; have hVl : Lim w1 (some ⟨g1, 0, none⟩) (m2 + 2) V := by have := hv.trim; rw [← HN.out, ← HV.out] at this; exact this
 have HVl : Hid (V.length = m2 + 2) := by show _ = _; rw [HV.out, ← HN.out]
 have HVn : Hid (Nm.nv V = m * 2 ^ s) := by show _ = _; rw [HV.out, Nm.nv_lb, HO1.2.1, Nm.nv_lb]
 rw [← HV.out] at hD0; have HVt : Hid (Nm.B ≤ 2 * V.getD (m2 + 1) 0) := by have := HT2.out; rwa [← HV.out] at this
 go_wp2_with fail; have hb3 : Below w.heap.size w (w2.alloc (.cells (arr (List.replicate L 0)) 105)) := Below.tr (Below.tr (Below.tr (below_drewN w q) hb1) hb2) (bA _ _); have hg2w : g2 < w2.heap.size := hrow2.1.lt; have hg1w : w.heap.size ≤ g1 := hg1; have hg2w' : w.heap.size ≤ g2 := by omega
 have hR2 : Row (w2.alloc (.cells (arr (List.replicate L 0)) 105)) g2 U := hrow2.below (bA _ _); have hR3 : Row (w2.alloc (.cells (arr (List.replicate L 0)) 105)) w2.heap.size (List.replicate L 0) := Row.new _ _; have hV3 : Lim (w2.alloc (.cells (arr (List.replicate L 0)) 105)) (some ⟨g1, 0, none⟩) (m2 + 2) V := (hVl.below hb2).below (bA _ _); have hg3w : w.heap.size ≤ w2.heap.size := by omega
 generalize w2.heap.size = g3 at *
 go_loopg [13] L (fun j x wr => ∃ (U' out : List Nat), x = .int .i64 ((j : Int) - 1) ∧ j ≤ L ∧ Row wr g2 U' ∧ Row wr g3 out ∧ Lim wr (some ⟨g1, 0, none⟩) (m2 + 2) V ∧ Hid (Nm.DivR U' out V (n * 2 ^ s) (k1 + 1) j) ∧ Below w.heap.size w wr)
 case atStart => exact ⟨U, _, by congr 1; omega, Nat.le_refl _, hR2, hR3, hV3, hD0, hb3⟩
 case round =>
  clear hR2 hR3 hV3 hb3 hD0 hVl hrow2 hrow1 hv hx1 hb1 hb2; obtain ⟨U', out, rfl, hj, hRU, hRO, hLV, HD, hb⟩ := hrel
  rcases gk with _ | k
  ·have hLv := HVl.out; have hto := hRO.lim (c := L) (by have := HD.2.1; omega) (by omega); have htu := hRU.lim (c := k1 + 1) (by have := HD.1; omega) (by omega); have hdn := HD.out.done HVn.out (Nat.pow_pos (by omega)); have HDN := Lib.hid hdn; have HLO : Hid (L = out.length) := by show L = out.length; have := HD.2.1; omega
   have HLU : Hid (k1 + 1 = U'.length) := HD.1.symm; clear hdn hLv; obtain ⟨ko, HKO⟩ : ∃ ko, Hid (ko = (Nm.lb (Nm.nv out)).length) := ⟨_, rfl⟩; obtain ⟨ku, HKU⟩ : ∃ ku, Hid (ku = (Nm.lb (Nm.nv U')).length) := ⟨_, rfl⟩; have htu2 := htu.trim; rw [← HKU.out] at htu2
   have hkub : ku ≤ 1048577 := by
    have h1 := htu.trim.2.1; have h2 : (Nm.lb (Nm.nv U')).length ≤ U'.length := Nm.lb_length_lt.2 (Nm.nv_lt hRU.2); have := HKU.out; have := HLU.out; omega
   go_wp2_with fail; refine (trim_e _ _ _ ko out _ hto HLO.out HKO.out).mono ?_; rintro e w' ⟨rfl, rfl⟩; go_wp2_with fail; refine (trim_e _ _ _ ku U' _ htu HLU.out HKU.out).mono ?_; rintro e w' ⟨rfl, rfl⟩; go_wp2_with fail; refine (back_any _ _ s _ _ _ htu2 (by rw [← HKU.out]; exact hkub) hs HKU.out).mono ?_; rintro e w' ⟨A', k', rfl, hk', hl', hb'⟩; have HK' := Lib.hid hk'; clear hk'; go_wp2_with fail
   go_ret2
   have hto2 := hto.trim; rw [← HKO.out] at hto2; have e1 := HDN.out.1; have e2 := HDN.out.2; rw [Nm.nv_lb, e2] at hl'; have e3 := HK'.out; rw [Nm.nv_lb, e2] at e3; rw [e1] at hto2; exact ⟨_, ko, A', k', rfl, by rw [HKO.out, e1], hto2.below hb', e3, hl', Below.tr hb hb'⟩
  ·have hkk : k + (m2 + 2) < k1 + 1 := by omega
   obtain ⟨u1, hc1, _, hu1, HU1⟩ := hRU.get (k := k + (m2 + 2)) (by have := HD.1; omega); obtain ⟨u2, hc2, _, hu2, HU2⟩ := hRU.get (k := k + (m2 + 1)) (by have := HD.1; omega); obtain ⟨v1, hcv1, hv1, HV1⟩ := hLV.getz (k := m2 + 1) (by have := HVl.out; omega); obtain ⟨v2, hcv2, hv2, HV2⟩ := hLV.getz (k := m2) (by have := HVl.out; omega); obtain ⟨u3, hc3, _, hu3, HU3⟩ := hRU.get (k := k + m2) (by have := HD.1; omega)
   have HK : Hid (Nm.Kn Nm.B (Nm.B ^ m2) (u1 * 4294967296 + u2) u3 (Nm.nv (U'.drop k)) v1 v2 (Nm.nv V)) := by
    have := HD.out.kn hRU.2 hLV.limb HVl.out (by have := HVl.out; omega) HVt.out; rw [← HU1.out, ← HU2.out, ← HU3.out, ← HV1.out, ← HV2.out] at this; exact this
   obtain ⟨T, HT⟩ : ∃ T, Hid (T = u1 * 4294967296 + u2) := ⟨_, rfl⟩; rw [← HT.out] at HK; have hor : bits .or .u64 ((u1 : Int) * 4294967296) (u2 : Int) = (T : Int) := by rw [HT.out]; exact hilo u1 u2 hu1 hu2
   have hTl : T ≤ 18446744073709551615 := by have := HT.out; omega
   have hv1p : 2147483648 ≤ v1 := by have := HK.out.hn; unfold Nm.B at this; omega
   obtain ⟨W, HW⟩ : ∃ W, Hid (W = Nm.nv (U'.drop k)) := ⟨_, rfl⟩; rw [← HW.out] at HK
   go_upto_block 2 with fail
   go_quiet (fail)
   go_upto_block 2 with fail
   go_cut [15, 16] from 66 to 199 (fun a b wx => ∃ (q r nq : Nat), a = .int .u64 q ∧ b = .int .u64 r ∧ q < 4294967296 ∧ Hid (Nm.KnO Nm.B W (Nm.nv V) q) ∧ wx = wr.drewN nq)
   case first => as_aux_lemma =>
    go_wp2_with fail
    go_loopg [15, 16] (T / v1) (fun q a b wx => ∃ (r nq : Nat), a = .int .u64 ((q : Nat) : Int) ∧ b = .int .u64 r ∧ r < 4294967296 ∧ q ≤ 4294967297 ∧ Hid (Nm.KnI T W v1 (Nm.nv V) q r) ∧ wx = wr.drewN nq)
    case atStart => exact ⟨T % v1, _, by rw [← Int.natCast_ediv, u64w _ (Nat.lt_of_le_of_lt (Nat.div_le_self _ _) (by omega))], by rw [Int.natCast_emod], HK.out.rem_lt, HK.out.le HK.out.start, HK.out.start, rfl⟩
    case round =>
     obtain ⟨r, nq, rfl, rfl, hr, hqb, HI, rfl⟩ := hrel; by_cases hbig : 4294967296 ≤ gk
     ·have hd : decide ((4294967295 : Int) < (gk : Int)) = true := by simp; omega
      have HI2 : Hid (Nm.KnI T W v1 (Nm.nv V) (gk - 1) (r + v1)) := HK.out.big HI.out hbig; by_cases hrb : r + v1 < 4294967296
      ·have hd2 : decide ((4294967295 : Int) < (r : Int) + (v1 : Int)) = false := by simp; omega
       go_wp2_with fail
       go_quiet (fail)
       go_wp2_with fail
       go_roundg (gk - 1)
       case measure => omega
       case rel => exact ⟨r + v1, _, by congr 1; omega, by congr 1, hrb, by omega, HI2, rfl⟩
      ·have hd2 : decide ((4294967295 : Int) < (r : Int) + (v1 : Int)) = true := by simp; omega
       have hq1 : gk - 1 < 4294967296 := HK.out.lt HI2.out (by unfold Nm.B; omega); have HO : Hid (Nm.KnO Nm.B W (Nm.nv V) (gk - 1)) := HK.out.out2 HI2.out hq1 (by unfold Nm.B; omega); go_wp2_with fail
       go_quiet (fail)
       go_wp2_with fail
       go_meet
       case rel => exact ⟨gk - 1, r + v1, _, by congr 1; omega, by congr 1, hq1, HO, rfl⟩
     ·have hgk : gk < 4294967296 := by omega
      have hd : decide ((4294967295 : Int) < (gk : Int)) = false := by simp; omega
      have hd3 : decide ((r : Int) ≤ (4294967295 : Int)) = true := by simp; omega
      obtain ⟨hp0, hpr⟩ := Nm.prod_bounds hgk hv2; obtain ⟨R, HR⟩ : ∃ R, Hid (R = r * 4294967296 + u3) := ⟨_, rfl⟩; have hor2 : bits .or .u64 ((r : Int) * 4294967296) (u3 : Int) = (R : Int) := by rw [HR.out]; exact hilo r u3 hr hu3
      have s1 : IntKind.i64.wrap ((m2 : Int) + 2 - 2) = (m2 : Int) := by rw [IntWalk.i64_in _ (by omega)]; omega
      have s2 : IntKind.i64.wrap ((k : Int) + ((m2 : Int) + 2)) = (k : Int) + ((m2 : Int) + 2) := IntWalk.i64_in _ (by omega); have s3 : IntKind.i64.wrap ((k : Int) + ((m2 : Int) + 2) - 2) = (k : Int) + (m2 : Int) := by rw [IntWalk.i64_in _ (by omega)]; omega
      have s4 : ((k : Int) + (m2 : Int)).toNat = k + m2 := by omega
      have s5 : (m2 : Int) < (m2 : Int) + 2 := by omega
      have s6 : (k : Int) + (m2 : Int) < (k1 : Int) + 1 := by omega
      have s7 : (0 : Int) ≤ (k : Int) + (m2 : Int) := by omega
      have s8 : IntKind.u64.wrap ((gk : Int) * (v2 : Int)) = (gk : Int) * (v2 : Int) := by rw [IntKind.wrap_u64]; omega
      have s9 : IntKind.u64.wrap ((r : Int) * 4294967296) = (r : Int) * 4294967296 := by rw [IntKind.wrap_u64]; omega
      by_cases hgt : R < gk * v2
      ·have hd4 : decide ((R : Int) < (gk : Int) * (v2 : Int)) = true := by
        have : (R : Int) < ((gk * v2 : Nat) : Int) := by omega
        rw [Int.natCast_mul] at this
        simpa using this
       have hpos : 1 ≤ gk := by rcases gk with _ | gk; simp at hgt; omega
       have HI2 : Hid (Nm.KnI T W v1 (Nm.nv V) (gk - 1) (r + v1)) := HK.out.fine HI.out (by rw [HR.out] at hgt; exact hgt); clear hgt; by_cases hrb : r + v1 < 4294967296
       ·have hd2 : decide ((4294967295 : Int) < (r : Int) + (v1 : Int)) = false := by simp; omega
        go_wp2_with fail
        go_quiet (fail)
        go_wp2_with fail
        go_roundg (gk - 1)
        case measure => omega
        case rel => exact ⟨r + v1, _, by congr 1; omega, by congr 1, hrb, by omega, HI2, rfl⟩
       ·have hd2 : decide ((4294967295 : Int) < (r : Int) + (v1 : Int)) = true := by simp; omega
        have hq1 : gk - 1 < 4294967296 := HK.out.lt HI2.out (by unfold Nm.B; omega); have HO : Hid (Nm.KnO Nm.B W (Nm.nv V) (gk - 1)) := HK.out.out2 HI2.out hq1 (by unfold Nm.B; omega); go_wp2_with fail
        go_quiet (fail)
        go_wp2_with fail
        go_meet
        case rel => exact ⟨gk - 1, r + v1, _, by congr 1; omega, by congr 1, hq1, HO, rfl⟩
      ·have hd4 : decide ((R : Int) < (gk : Int) * (v2 : Int)) = false := by
        have : ¬ (R : Int) < ((gk * v2 : Nat) : Int) := by omega
        rw [Int.natCast_mul] at this
        simpa using this
       have HO : Hid (Nm.KnO Nm.B W (Nm.nv V) gk) := HK.out.out1 HI.out hgk (by rw [HR.out] at hgt; unfold Nm.B; omega); clear hgt; go_wp2_with fail
       go_quiet (fail)
       go_wp2_with fail
       go_meet
       case rel => exact ⟨gk, r, _, rfl, rfl, hgk, HO, by rw [World.drewN_drewN]⟩
   case rest => as_aux_lemma =>
    obtain ⟨q, r, nq, rfl, rfl, hq, HO, rfl⟩ := hcut; have hne21 : ∀ b off, (some (⟨g1, 0, none⟩ : Addr)) = some ⟨b, off, none⟩ → b ≠ g2 := fun b off hA => by injection hA with hA; injection hA with e _; omega
    have hLV' := hLV.drewN nq; have hRU' := hRU.below (below_drewN wr nq); have hlk : k + (m2 + 2) + 1 ≤ U'.length := by have := HD.1; omega
    have hlu : U'.length ≤ 2097152 := by have := HD.1; omega
    go_upto_if 157 with (go_at_call 127; refine (subtract_k _ _ g2 k q _ _ _ (m2 + 2) U' V _ hLV' hRU' hne21 HVl.out hlk hlu hq (by omega) rfl (by omega)).mono ?_; rintro e w3 ⟨U1, bo, rfl, hR1, HS1, hg⟩)
    have hO3 : Row w3 g3 out := (hRO.below (below_drewN wr nq)).only hg (by omega); have hV3 : Lim w3 (some ⟨g1, 0, none⟩) (m2 + 2) V := hLV'.only hg hne21; have hb3 : Below w.heap.size w w3 := (Below.tr hb (below_drewN wr nq)).grown hg (by have := hb.size; exact this) (fun k hk => by injection hk with hk; omega); clear hne21 hLV' hRU' hlk hlu hg
    go_cut [15, 17, 18] from 66 to 199 (fun a b c wx => ∃ (q' : Nat) (U2 : List Nat) (x y : Value), a = .int .u64 q' ∧ b = x ∧ c = y ∧ q' < 4294967296 ∧ Row wx g2 U2 ∧ Row wx g3 out ∧ Lim wx (some ⟨g1, 0, none⟩) (m2 + 2) V ∧ Hid (Nm.DivR U2 (out.set k q') V (n * 2 ^ s) (k1 + 1) k) ∧ Below w.heap.size w wx)
    case first => as_aux_lemma =>
     go_wp2_with fail
     ·have hx : (!carryB bo) = true := by assumption
      have HBo : Hid (bo = 1) := by have := HS1.2.1; unfold carryB at hx; simp at hx; show bo = 1; omega
      have hq1 : 1 ≤ q := HD.out.pos2 hR1.2 HVl.out hkk HS1.out HBo.out; rw [hx]; clear hx; obtain ⟨p, HP⟩ : ∃ p, Hid (p = q - 1) := ⟨_, rfl⟩
      have eq1 : IntKind.u64.wrap ((q : Int) - 1) = (p : Int) := by
       rw [HP.out, ← u64w (q - 1) (by omega)]; congr 1; omega
      have hpq : p < 4294967296 := by have := HP.out; omega
      rw [eq1]; clear hq1 eq1
      go_loopg [162, 17, 18] (m2 + 2) (fun j x c z wx => ∃ (i : Nat) (ds : List Nat) (cy : Nat) (zz : Value), x = .int .i64 i ∧ i + j = m2 + 2 ∧ c = .int .u32 cy ∧ cy ≤ 1 ∧ z = zz ∧ Row wx g2 ds ∧ Row wx g3 out ∧ Lim wx (some ⟨g1, 0, none⟩) (m2 + 2) V ∧ Hid (Nm.AddR U1 ds V k i cy) ∧ Below w.heap.size w wx)
      case atStart => exact ⟨0, U1, 0, _, rfl, by omega, rfl, by omega, rfl, hR1, hO3, hV3, Nm.AddR.start _ _ _, hb3⟩
      case round =>
       obtain ⟨i, ds, cy, zz, rfl, hij, rfl, hcy, rfl, hRd, hRo, hLv, HA, hbx⟩ := hrel; have hkU : k + (m2 + 2) < ds.length := by have := HA.1; have := HS1.1; have := HD.1; omega
       have hkU1 : k + (m2 + 2) < U1.length := by have := HS1.1; have := HD.1; omega
       have hn32 : g3 ≠ g2 := by omega
       have hn12 : g1 ≠ g2 := by omega
       by_cases hi : i < m2 + 2
       ·obtain ⟨vi, hcvi, hvi, HVI⟩ := hLv.getz (k := i) (by have := HVl.out; omega); obtain ⟨o, hco, hfo, hoo, HOO⟩ := hRd.get (k := k + i) (by omega); have t1 : IntKind.i64.wrap ((k : Int) + (i : Int)) = (k : Int) + (i : Int) := IntWalk.i64_in _ (by omega); have t2 : ((k : Int) + (i : Int)).toNat = k + i := by omega
        have t3 : (0 : Int) ≤ (k : Int) + (i : Int) := by omega
        have t4 : (k : Int) + (i : Int) < (k1 : Int) + 1 := by omega
        have t5 : (i : Int) < (m2 : Int) + 2 := by omega
        go_upto_block 5 with fail
        go_cut [17, 18] from 163 to 185 (fun x y wx => ∃ (u c1' : Nat), x = .int .u32 c1' ∧ y = .int .i64 i ∧ u < 4294967296 ∧ c1' ≤ 1 ∧ Hid (u + Nm.B * c1' = o + vi + cy) ∧ wx = (wr.setCell ⟨g2, k + i, none⟩ (.int .u32 (u : Int))).drew)
        case first => as_aux_lemma =>
         go_wp2_with fail; have hn21 : g2 ≠ g1 := by omega
         clear h1 hge hcc HC h2 hc ht ht0 E1 E2 hlen hs HS hg1 HO1 HN HT2 hg2 HO2 hg12 HL hLk hLm hLm2 HM HV HVn HVt hg1w hmk hg2w hRU hRO hLV hb hc1 hu1 HU1 hc2 hu2 HU2 hcv1 hv1 HV1 hcv2 hv2 HV2 hc3 hu3 HU3 HT hor hTl hv1p HK HW hq HO hR1 HS1 hO3 hV3 hb3 HBo HP hpq; refine wp_region_held_drew (S := fun W => W.cell? ⟨g1, i, none⟩ = some (.int .u32 (vi : Int))) (by kernel_rfl) (by (try dsimp only); first | assumption | exact hcvi) (fun hHeld => ?_); refine wpAnyH_take (i := 0) (oi := ⟨(some 166), _, _, _, _, _⟩) (v := ?_) rfl (by kernel_rfl) (by kernel_rfl) (by kernel_rfl) (fun _ _ _ h => h) (Or.inl ⟨by rfl, ?_⟩) (by assumption) ?_
         rotate_left
         ·intro W hSw; (try dsimp only at hSw); go_simp <;> with_reducible rfl
         try simp only [Act.put, sA, sB, sC]
         refine wpAnyH_take (i := 1) (oi := ⟨(some 167), _, _, _, _, _⟩) (v := ?_) rfl (by kernel_rfl) (by kernel_rfl) (by kernel_rfl) (fun _ _ _ h => h) (Or.inl ⟨by rfl, ?_⟩) (by assumption) ?_
         rotate_left
         ·intro W hSw; (try dsimp only at hSw); go_simp <;> with_reducible rfl
         try simp only [Act.put, sA, sB, sC]
         refine wpAnyH_take (i := 2) (oi := ⟨(some 168), _, _, _, _, _⟩) (v := ?_) rfl (by kernel_rfl) (by kernel_rfl) (by kernel_rfl) (fun _ _ _ h => h) (Or.inl ⟨by rfl, ?_⟩) (by assumption) ?_
         rotate_left
         ·intro W hSw; (try dsimp only at hSw); go_simp <;> with_reducible rfl
         try simp only [Act.put, sA, sB, sC]
         refine wpAnyH_take (i := 3) (oi := ⟨(some 169), _, _, _, _, _⟩) (v := ?_) rfl (by kernel_rfl) (by kernel_rfl) (by kernel_rfl) (fun _ _ _ h => h) (Or.inl ⟨by rfl, ?_⟩) (by assumption) ?_
         rotate_left
         ·intro W hSw; (try dsimp only at hSw); go_simp <;> with_reducible rfl
         try simp only [Act.put, sA, sB, sC]
         refine wpAnyH_take (i := 4) (oi := ⟨(some 170), _, _, _, _, _⟩) (v := ?_) rfl (by kernel_rfl) (by kernel_rfl) (by kernel_rfl) (fun _ _ _ h => h) (Or.inl ⟨by rfl, ?_⟩) (by assumption) ?_
         rotate_left
         ·intro W hSw; (try dsimp only at hSw); go_simp <;> with_reducible rfl
         try simp only [Act.put, sA, sB, sC]
         refine wpAnyH_take (i := 5) (oi := ⟨(some 171), _, _, _, _, _⟩) (v := ?_) rfl (by kernel_rfl) (by kernel_rfl) (by kernel_rfl) (fun _ _ _ h => h) (Or.inl ⟨by rfl, ?_⟩) (by assumption) ?_
         rotate_left
         ·intro W hSw; (try dsimp only at hSw); go_simp <;> with_reducible rfl
         try simp only [Act.put, sA, sB, sC]
         refine wpAnyH_take (i := 6) (oi := ⟨(some 172), _, _, _, _, _⟩) (v := ?_) rfl (by kernel_rfl) (by kernel_rfl) (by kernel_rfl) (fun _ _ _ h => h) (Or.inl ⟨by rfl, ?_⟩) (by assumption) ?_
         rotate_left
         ·intro W hSw; (try dsimp only at hSw); go_simp <;> with_reducible rfl
         try simp only [Act.put, sA, sB, sC]
         refine wpAnyH_take (i := 7) (oi := ⟨(some 173), _, _, _, _, _⟩) (v := ?_) rfl (by kernel_rfl) (by kernel_rfl) (by kernel_rfl) (fun _ _ _ h => h) (Or.inl ⟨by rfl, ?_⟩) (by assumption) ?_
         rotate_left
         ·intro W hSw; (try dsimp only at hSw); go_simp <;> with_reducible rfl
         try simp only [Act.put, sA, sB, sC]
         refine wpAnyH_take (i := 8) (oi := ⟨(some 174), _, _, _, _, _⟩) (v := ?_) rfl (by kernel_rfl) (by kernel_rfl) (by kernel_rfl) (fun _ _ _ h => h) (Or.inl ⟨by rfl, ?_⟩) (by assumption) ?_
         rotate_left
         ·intro W hSw; (try dsimp only at hSw); go_simp <;> with_reducible rfl
         try simp only [Act.put, sA, sB, sC]
         refine wpAnyH_take (i := 10) (oi := ⟨(some 176), _, _, _, _, _⟩) (v := ?_) rfl (by kernel_rfl) (by kernel_rfl) (by kernel_rfl) (fun _ _ _ h => h) (Or.inl ⟨by rfl, ?_⟩) (by assumption) ?_
         rotate_left
         ·intro W hSw; (try dsimp only at hSw); go_simp <;> with_reducible rfl
         try simp only [Act.put, sA, sB, sC]
         refine wpAnyH_take (i := 11) (oi := ⟨(some 177), _, _, _, _, _⟩) (v := ?_) rfl (by kernel_rfl) (by kernel_rfl) (by kernel_rfl) (fun _ _ _ h => h) (Or.inl ⟨by rfl, ?_⟩) (by assumption) ?_
         rotate_left
         ·intro W hSw; (try dsimp only at hSw); go_simp <;> with_reducible rfl
         try simp only [Act.put, sA, sB, sC]
         refine wpAnyH_take (i := 12) (oi := ⟨(some 178), _, _, _, _, _⟩) (v := ?_) rfl (by kernel_rfl) (by kernel_rfl) (by kernel_rfl) (fun _ _ _ h => h) (Or.inl ⟨by rfl, ?_⟩) (by assumption) ?_
         rotate_left
         ·intro W hSw; (try dsimp only at hSw); go_simp <;> with_reducible rfl
         try simp only [Act.put, sA, sB, sC]
         refine wpAnyH_take (i := 13) (oi := ⟨(some 179), _, _, _, _, _⟩) (v := ?_) rfl (by kernel_rfl) (by kernel_rfl) (by kernel_rfl) (fun _ _ _ h => h) (Or.inl ⟨by rfl, ?_⟩) (by assumption) ?_
         rotate_left
         ·intro W hSw; (try dsimp only at hSw); go_simp <;> with_reducible rfl
         try simp only [Act.put, sA, sB, sC]
         refine wpAnyH_take (i := 14) (oi := ⟨(some 180), _, _, _, _, _⟩) (v := ?_) rfl (by kernel_rfl) (by kernel_rfl) (by kernel_rfl) (fun _ _ _ h => h) (Or.inl ⟨by rfl, ?_⟩) (by assumption) ?_
         rotate_left
         ·intro W hSw; (try dsimp only at hSw); go_simp <;> with_reducible rfl
         try simp only [Act.put, sA, sB, sC]
         refine wpAnyH_ready (rs := [9]) (by kernel_rfl) (by simp) ?_; refine AllReadyH.cons (o := ⟨(some 175), _, _, _, _, _⟩) rfl (fun K hK => ?_) AllReadyH.nil; go_simp; refine hK.out _ _ ?_ (fun hHeld => ?_)
         ·(try dsimp only); first | assumption | exact (World.cell?_setCell_far _ _ _ _ hn21).trans hcvi
         clear hK K
         try simp only [Act.put, sA, sB, sC]
         refine wpAnyH_ready (rs := [15]) (by kernel_rfl) (by simp) ?_; refine AllReadyH.cons (o := ⟨(some 181), _, _, _, _, _⟩) rfl (fun K hK => ?_) AllReadyH.nil; go_simp
         go_at_call 128; refine (add32_w o vi cy _ hoo hvi hcy).mono ?_; rintro e w' ⟨u, c1', rfl, hu, hc1', HU, rfl⟩; go_wp2_with fail
         refine hK.out _ _ ?_ (fun hHeld => ?_)
         ·(try dsimp only); first | assumption | exact (World.cell?_setCell_far _ _ _ _ hn21).trans hcvi
         clear hK K
         try simp only [Act.put, sA, sB, sC]
         refine wpAnyH_take (i := 16) (oi := ⟨(some 165), _, _, _, _, _⟩) (v := ?_) rfl (by kernel_rfl) (by kernel_rfl) (by kernel_rfl) (fun _ _ _ h => h) (Or.inl ⟨by rfl, ?_⟩) (by assumption) ?_
         rotate_left
         ·intro W hSw; (try dsimp only at hSw); go_simp <;> with_reducible rfl
         try simp only [Act.put, sA, sB, sC]
         refine wpAnyH_take (i := 17) (oi := ⟨(some 182), _, _, _, _, _⟩) (v := ?_) rfl (by kernel_rfl) (by kernel_rfl) (by kernel_rfl) (fun _ _ _ h => h) (Or.inl ⟨by rfl, ?_⟩) (by assumption) ?_
         rotate_left
         ·intro W hSw; (try dsimp only at hSw); go_simp <;> with_reducible rfl
         try simp only [Act.put, sA, sB, sC]
         refine wpAnyH_take (i := 18) (oi := ⟨(some 183), _, _, _, _, _⟩) (v := ?_) rfl (by kernel_rfl) (by kernel_rfl) (by kernel_rfl) (fun _ _ _ h => h) (Or.inl ⟨by rfl, ?_⟩) (by assumption) ?_
         rotate_left
         ·intro W hSw; (try dsimp only at hSw); go_simp <;> with_reducible rfl
         try simp only [Act.put, sA, sB, sC]
         refine wpAnyH_take (i := 19) (oi := ⟨(some 184), _, _, _, _, _⟩) (v := ?_) rfl (by kernel_rfl) (by kernel_rfl) (by kernel_rfl) (fun _ _ _ h => h) (Or.inl ⟨by rfl, ?_⟩) (by assumption) ?_
         rotate_left
         ·intro W hSw; (try dsimp only at hSw); go_simp <;> with_reducible rfl
         try simp only [Act.put, sA, sB, sC]
         refine wpAnyH_ready (rs := [20]) (by kernel_rfl) (by simp) ?_; refine AllReadyH.cons (o := ⟨none, _, _, _, _, _⟩) rfl (fun K hK => ?_) AllReadyH.nil; go_simp; refine hK.out _ _ ?_ (fun hHeld => ?_)
         ·(try dsimp only); first | assumption | exact (World.cell?_setCell_far _ _ _ _ hn21).trans hcvi
         clear hK K
         try simp only [Act.put, sA, sB, sC]
         refine wpAnyH_take (i := 21) (oi := ⟨(some 17), _, _, _, _, _⟩) (v := ?_) rfl (by kernel_rfl) (by kernel_rfl) (by kernel_rfl) (fun _ _ _ h => h) (Or.inl ⟨by rfl, ?_⟩) (by assumption) ?_
         rotate_left
         ·intro W hSw; (try dsimp only at hSw); go_simp <;> with_reducible rfl
         try simp only [Act.put, sA, sB, sC]
         refine wpAnyH_done (by kernel_rfl) ?_ _; go_wp2_with fail; go_meet; exact ⟨u, c1', rfl, rfl, hu, hc1', HU, rfl⟩
        case rest => as_aux_lemma =>
         obtain ⟨u, c1', rfl, rfl, hu, hc1', HU, rfl⟩ := hcut; go_wp2_with fail
         go_roundg (gk - 1)
         case measure => omega
         case rel => exact ⟨i + 1, ds.set (k + i) u, c1', _, by go_num, by omega, rfl, hc1', rfl, (hRd.set_ _ _ hu).drew, (hRo.setFar hn32 _).drew, (hLv.setFar hn12 _).drew, HA.out.round HVl.out hi hkU1 HVI HOO HU.out, (hbx.setCell hg2w' _).drew⟩
       ·obtain rfl : m2 + 2 = i := by omega
        obtain ⟨o, hco, hfo, hoo, HOO⟩ := hRd.get (k := k + (m2 + 2)) hkU; go_wp2_with fail
        go_meet
        case rel =>
         have eo : ((o : Int) + (cy : Int)) % 4294967296 = (((o + cy) % Nm.B : Nat) : Int) := by show _ = (((o + cy) % 4294967296 : Nat) : Int); omega
         rw [eo]
         exact ⟨p, _, _, _, rfl, rfl, rfl, hpq, hRd.set_ _ _ (Nat.mod_lt _ Nm.B_pos), hRo.setFar hn32 _, hLv.setFar hn12 _,
          by rw [HP.out]; exact HA.out.done HD.out hLV.limb hR1.2 hRd.2 HVl.out hkk HO.out HW.out HS1.out HBo.out HOO.out hcy, hbx.setCell hg2w' _⟩
     ·have hx : (!carryB bo) = false := by assumption
      have hbz : bo = 0 := by unfold carryB at hx; simpa using hx
      have HF : Hid (Nm.DivR U1 (out.set k q) V (n * 2 ^ s) (k1 + 1) k) := HD.out.fits2 hLV.limb HVl.out hkk HO.out HW.out HS1.out hbz
      go_meet
      case rel => exact ⟨q, U1, _, _, rfl, rfl, rfl, hq, hR1, hO3, hV3, HF, hb3⟩
    case rest => as_aux_lemma =>
     obtain ⟨q', U2, x, y, rfl, rfl, rfl, hq', hR2, hO2, hV2, HD2, hb2⟩ := hcut; obtain ⟨o, hco, hfo, hoo, HOO⟩ := hO2.get (k := k) (by have := HD.2.1; have := HVl.out; have := HL.out; omega); go_wp2_with fail
     go_roundg k
     case measure => omega
     case rel => exact ⟨U2, out.set k q', rfl, by omega, hR2.setFar (by omega) _, hO2.set_ _ _ hq', hV2.setFar (by omega) _, HD2, hb2.setCell hg3w _⟩
end Go.Proofs.Yticobffjnjbjiaa
namespace Go.Proofs.Yticobffjnjbjiaa
open Go.RowKit
/- the reference model's small functions: culpritref05 -/
/-- a fresh row of limbs: what 'own' leaves, with the number of its limbs -/
theorem own_lim2 {w : World} {base : Nat} {A : Option Addr} {k c : Nat} {l : List Nat} (h : w.ownsRow base 105 1 (.slice A k c) k (u32s l)) (hl : Nm.Lim l) :
  k = l.length ∧ Lim w A c l ∧ (∀ b off, A = some ⟨b, off, none⟩ → base ≤ b) := by
 have hk : l.length = k := by have := h.1; simpa [u32s] using this
 obtain ⟨A', c', he, h1, h2⟩ := own_lim h hl; injection he with e1 e2 e3; subst e1; subst e3; exact ⟨hk.symm, h1, h2⟩
theorem Lim.take_ {w : World} {A : Option Addr} {c : Nat} {l : List Nat} (h : Lim w A c l) (k : Nat) (hk : k ≤ l.length) : Lim w A c (l.take k) := by
 refine ⟨fun hne => ?_, by have := h.2.1; simp; omega, h.2.2.1, fun x hx => h.limb x (List.mem_of_mem_take hx), h.2.2.2.2⟩
 have h0 : 0 < l.length := by
  rcases Nat.eq_zero_or_pos l.length with h0 | h0
  ·have : l = [] := List.eq_nil_of_length_eq_zero h0; subst this; simp [u32s] at hne
  ·exact h0
 obtain ⟨b, off, hA, hc⟩ := h.at_ h0; refine ⟨b, off, hA, fun i hi => ?_⟩; simp only [u32s, List.length_map, List.length_take] at hi; rw [hc i (by omega)]; have hil : i < l.length := by omega
 simp [u32s, List.getD, hil]
set_option maxHeartbeats 1000000 in
theorem rtrim_own (A : Option Addr) (c k0 : Nat) (l : List Nat) (w : World) (hr : Lim w A c l) (hk0 : k0 = l.length) (hl0 : k0 ≤ 2097152) :
  Calls Try.prog 93 #[.slice A k0 c] w fun e w' => ∃ A' c' k, e = .returned (.slice A' k c') ∧ k ≤ k0 ∧ Hid (w'.ownsRow w.heap.size 105 1 (.slice A' k c') k (u32s (Nm.lb (Nm.nv l)))) ∧ Below w.heap.size w w' := by
 subst hk0; have hlen := len_trimLen hr.limb; have htk := take_trimLen hr.limb; have HLEN := Lib.hid hlen; have HTK := Lib.hid htk; clear hlen htk; have hl := hr.2.1; have hc := hr.2.2.1; obtain ⟨i0, hi0, hz0, hz1, hz2⟩ := info_parts u32_info
 go_enter Try.func93, Try.ntmps93
 go_wp2
 go_loop [3] (fun t => ∃ k : Nat, k ≤ l.length ∧ t = .int .i64 k ∧ trimLen l k = trimLen l l.length) (fun t => (intOf t).toNat)
 case atStart => exact ⟨_, Nat.le_refl _, rfl, rfl⟩
 case round =>
  obtain ⟨k, hk, rfl, ht⟩ := hrel; have HT := Lib.hid ht; clear ht; by_cases hstop : trimLen l k = k
  ·-- the loop ends here
   have hsrc : Lim (w.alloc (.cells #[] 105)) A c (l.take k) := (hr.take_ k hk).alloc _; have hl' : (l.take k).length = k := by simp; omega
   have HL := Lib.hid hl'; have HS : Hid (l.take k = Nm.lb (Nm.nv l)) := by show _ = _; rw [← HTK.out, ← HT.out, hstop]
   have hone : (u32s (l.take k)).length = k * 1 := by simp [u32s]; omega
   have HO := Lib.hid hone; clear hl' hone
   rcases k with _ | k
   ·clear hstop
    go_wp2_with (at_builtin; refine wpList_append_any _ rfl (.tmp 18) (.tmp 21) _ rfl w.heap.size 105 i0 _ 1 4 Try.underlying22 hi0 hz0 hz1 hz2 rfl (by omega) (.slice (some ⟨w.heap.size, 0, none⟩) 0 0) 0 (u32s []) rfl (own_empty w) A 0 c (u32s (l.take 0)) rfl HO.out hsrc.1 (u32s_one _) (by simp only [maxLen]; omega) (by omega) (by simp) ?_; intro v1 w1 hown1 hg1 hat1)
    go_ret; rw [← u32s_append, List.nil_append, HS.out] at hown1; obtain ⟨A', c', hv, hlim, hbs⟩ := own_lim hown1 (Nm.lim_lb _); have hk2 : (Nm.lb (Nm.nv l)).length = 0 := by rw [← HS.out]; exact HL.out
    rw [hk2] at hv; subst hv; refine ⟨A', c', 0, rfl, by omega, ?_, (bA w _).grown hg1 (by simp) (fun k hk => ?_)⟩
    ·have := hown1; rw [Nat.zero_add] at this; exact this
    ·simp [Value.ownBlock] at hk; omega
   ·obtain ⟨b, off, a, rfl, h1, ha, HA⟩ := hr.get (k := k) (by omega)
    have h0 : ((a : Int) == 0) = false := by
     unfold trimLen at hstop
     split at hstop
     ·have := trimLen_le l k; omega
     ·rw [HA.out]; simpa using ‹¬ l.getD k 0 = 0›
    clear hstop
    go_wp2_with (at_builtin; refine wpList_append_any _ rfl (.tmp 18) (.tmp 21) _ rfl w.heap.size 105 i0 _ 1 4 Try.underlying22 hi0 hz0 hz1 hz2 rfl (by omega) (.slice (some ⟨w.heap.size, 0, none⟩) 0 0) 0 (u32s []) rfl (own_empty w) (some ⟨b, off, none⟩) (k + 1) c (u32s (l.take (k + 1))) rfl HO.out hsrc.1 (u32s_one _) (by simp only [maxLen]; omega) (by omega) (by simp) ?_; intro v1 w1 hown1 hg1 hat1)
    go_ret; rw [← u32s_append, List.nil_append, HS.out] at hown1; obtain ⟨A', c', hv, hlim, hbs⟩ := own_lim hown1 (Nm.lim_lb _); have hk2 : (Nm.lb (Nm.nv l)).length = (k + 1) := by rw [← HS.out]; exact HL.out
    rw [hk2] at hv; subst hv; refine ⟨A', c', (k + 1), rfl, by omega, ?_, (bA w _).grown hg1 (by simp) (fun k hk => ?_)⟩
    ·have := hown1; rw [Nat.zero_add] at this; exact this
    ·simp [Value.ownBlock] at hk; omega
  ·rcases k with _ | k
   ·simp [trimLen] at hstop
   ·obtain ⟨b, off, a, rfl, h1, ha, HA⟩ := hr.get (k := k) (by omega)
    have h00 : l.getD k 0 = 0 := by
     unfold trimLen at hstop
     split at hstop
     ·assumption
     ·exact absurd rfl hstop
    have h0 : ((a : Int) == 0) = true := by rw [HA.out, h00]; rfl
    have HT2 : Hid (trimLen l k = trimLen l l.length) := by show _ = _; rw [← HT.out, trimLen, if_pos h00]
    clear h00 hstop
    go_wp2
    go_round
    case rel => exact ⟨k, by omega, rfl, HT2.out⟩
    case measure => simp [intOf]
theorem rtrim_e (A : Option Addr) (c k0 k' : Nat) (l : List Nat) (w : World) (hr : Lim w A c l) (hk0 : k0 = l.length) (hl0 : k0 ≤ 2097152) (hk' : k' = (Nm.lb (Nm.nv l)).length) :
  Calls Try.prog 93 #[.slice A k0 c] w fun e w' => ∃ A' c', e = .returned (.slice A' k' c') ∧ Lim w' A' c' (Nm.lb (Nm.nv l)) ∧ Below w.heap.size w w' := by
 refine (rtrim_own A c k0 l w hr hk0 hl0).mono ?_; rintro e w' ⟨A', c', k, rfl, _, ho, hb⟩; obtain ⟨e1, e2, _⟩ := own_lim2 ho.out (Nm.lim_lb _); exact ⟨A', c', by rw [hk', ← e1], e2, hb⟩
set_option maxHeartbeats 400000 in
theorem limb_any (A : Option Addr) (c k j a : Nat) (l : List Nat) (w : World) (hr : Lim w A c l) (hk : k = l.length) (hj : j ≤ 2147483648) (ha : a = l.getD j 0) :
  Calls Try.prog 92 #[.slice A k c, .int .i64 j] w fun e w' => e = .returned (.int .u64 (a : Int)) ∧ w = w' := by
 by_cases hlt : j < k
 ·obtain ⟨b, off, a', rfl, h1, ha', HA⟩ := hr.get (k := j) (by omega); obtain rfl : a' = a := HA.out.trans ha.symm; have hkb : k ≤ 9223372036854775807 := by have := hr.2.1; have := hr.2.2.1; omega
  clear ha hk
  go_enter Try.func92, Try.ntmps92
  go_wp2
  go_ret; exact ⟨rfl, rfl⟩
 ·have : a = 0 := by rw [ha]; simp [List.getD, List.getElem?_eq_none (show l.length ≤ j by omega)]
  subst this; have hkb : k ≤ 9223372036854775807 := by have := hr.2.1; have := hr.2.2.1; omega
  clear ha hk
  go_enter Try.func92, Try.ntmps92
  go_wp2
  go_ret; exact ⟨rfl, rfl⟩
theorem limb0_any (A : Option Addr) (c k a : Nat) (l : List Nat) (w : World) (hr : Lim w A c l) (hk : k = l.length) (ha : a = l.getD 0 0) :
  Calls Try.prog 92 #[.slice A k c, .int .i64 0] w fun e w' => e = .returned (.int .u64 (a : Int)) ∧ w = w' := by
 exact limb_any A c k 0 a l w hr hk (by omega) ha
set_option maxHeartbeats 400000 in
theorem rwhole_any (n k : Nat) (w : World) (hn : n < 9223372036854775808) (hk : k = (Nm.lb n).length) :
  Calls Try.prog 91 #[.int .i64 n] w fun e w' => ∃ A c, e = .returned (.slice A k c) ∧ Lim w' A c (Nm.lb n) ∧ Below w.heap.size w w' := by
 have HK := Lib.hid hk; clear hk
 have hrow : ∀ w : World, Row (w.alloc (.cells #[Value.int .u32 ((n : Int) % 4294967296), Value.int .u32 ((n : Int) / 4294967296)] 105)) w.heap.size [n % 4294967296, n / 4294967296] := fun w => by
  have e1 : ((n : Int) % 4294967296) = ((n % 4294967296 : Nat) : Int) := by omega
  have e2 : ((n : Int) / 4294967296) = ((n / 4294967296 : Nat) : Int) := by omega
  rw [e1, e2]; refine ⟨Blk.new w _ _, fun x hx => ?_⟩; simp only [List.mem_cons, List.not_mem_nil, or_false] at hx
  rcases hx with rfl | rfl
  ·exact Nat.mod_lt _ Nm.B_pos
  ·exact Nat.div_lt_of_lt_mul (show n < 4294967296 * 4294967296 by omega)
 have hnv : Nm.nv [n % 4294967296, n / 4294967296] = n := by simp only [Nm.nv, Nm.B]; omega
 have HN := Lib.hid hnv; clear hnv; have hlim := (hrow w).lim (c := 2) (by simp) (by decide)
 go_enter Try.func91, Try.ntmps91
 go_wp2_with fail; refine (rtrim_e _ _ 2 k [n % 4294967296, n / 4294967296] _ hlim rfl (by omega) (by rw [HN.out]; exact HK.out)).mono ?_; rintro e w' ⟨A', c', rfl, hl, hb⟩; rw [HN.out] at hl; go_wp2_with fail; go_ret; exact ⟨A', c', rfl, hl, Below.tr (bA w _) hb⟩
set_option maxHeartbeats 400000 in
theorem rone_any (A : Option Addr) (c k : Nat) (l : List Nat) (w : World) (h : Lim w A c l) (hk : k = l.length) :
  Calls Try.prog 103 #[.slice A k c] w fun e w' => e = .returned (.bool (oneB l)) ∧ w = w' := by
 subst hk
 rcases l with _ | ⟨a, _ | ⟨b, l⟩⟩
 ·have e : oneB [] = false := rfl; rw [e]
  go_enter Try.func103, Try.ntmps103
  go_wp2
  go_ret; exact ⟨rfl, rfl⟩
 ·obtain ⟨b, off, a', rfl, hc, ha, HA⟩ := h.get0 (by simp); have HB : Hid (a' = a) := HA; by_cases h1 : a = 1
  ·have e : oneB [a] = true := by subst h1; rfl
   have hx : ((a' : Int) == 1) = true := by rw [HB.out, h1]; rfl
   rw [e]; clear h1
   go_enter Try.func103, Try.ntmps103
   go_wp2
   go_ret; exact ⟨rfl, rfl⟩
  ·have e : oneB [a] = false := by simp [oneB, h1]
   have hx : ((a' : Int) == 1) = false := by rw [HB.out]; simp; omega
   rw [e]; clear h1
   go_enter Try.func103, Try.ntmps103
   go_wp2
   go_ret; exact ⟨rfl, rfl⟩
 ·have e : oneB (a :: b :: l) = false := by simp [oneB]
  rw [e]; have hx : (((a :: b :: l).length : Int) == 1) = false := by simp; omega
  generalize (a :: b :: l).length = k at *
  go_enter Try.func103, Try.ntmps103
  go_wp2
  go_ret; exact ⟨rfl, rfl⟩
def oddB (n : Nat) : Bool := decide (n % 2 = 1)
set_option maxHeartbeats 400000 in
theorem odd_any (A : Option Addr) (c k : Nat) (l : List Nat) (w : World) (h : Lim w A c l) (hk : k = l.length) :
  Calls Try.prog 113 #[.slice A k c] w fun e w' => e = .returned (.bool (oddB (Nm.nv l))) ∧ w = w' := by
 obtain ⟨a, HA⟩ : ∃ a, Hid (a = l.getD 0 0) := ⟨_, rfl⟩; have ha : a < 4294967296 := by rw [HA.out]; exact h.lt 0
 have e : oddB (Nm.nv l) = ((a : Int) % 2 == 1) := by
  have h2 : Nm.nv l % 2 = a % 2 := by
   rw [HA.out]
   cases l with
   | nil => rfl
   | cons x xs =>
    show (x + Nm.B * Nm.nv xs) % 2 = x % 2
    rw [show Nm.B = 2 * 2147483648 from rfl, Nat.mul_assoc, Nat.add_mul_mod_self_left]
  unfold oddB; rw [h2, Bool.eq_iff_iff]; simp; omega
 rw [e]; have HK := Lib.hid hk; clear e hk
 go_enter Try.func113, Try.ntmps113
 go_wp2_with (go_at_call 92; refine (limb0_any _ _ _ a l _ h HK.out HA.out).mono ?_; rintro e w' ⟨rfl, rfl⟩)
 go_ret; exact ⟨rfl, rfl⟩
end Go.Proofs.Yticobffjnjbjiaa
namespace Go.Proofs.Yticobffjnjbjiaa.Nm
theorem nv_split (l : List Nat) (k : Nat) : nv l = nv (l.take k) + B ^ k * nv (l.drop k) := by
 rcases Nat.lt_or_ge l.length k with h | h
 ·rw [List.take_of_length_le (by omega), List.drop_of_length_le (by omega)]; simp [nv]
 ·exact nv_take_drop l k h
theorem nv_take_lt' {l : List Nat} (h : Lim l) (k : Nat) : nv (l.take k) < B ^ k := by
 refine Nat.lt_of_lt_of_le (nv_lt (h.take k)) (Nat.pow_le_pow_right B_pos ?_); simp; omega
theorem nv_take_succ' (l : List Nat) (k : Nat) : nv (l.take (k + 1)) = nv (l.take k) + B ^ k * l.getD k 0 := by
 rcases Nat.lt_or_ge k l.length with h | h
 ·exact nv_take_succ h
 ·rw [List.take_of_length_le h, List.take_of_length_le (by omega)]; have : l.getD k 0 = 0 := by simp [List.getD, List.getElem?_eq_none h]
  rw [this]; omega
theorem nv_congr : ∀ (x y : List Nat), (∀ i, x.getD i 0 = y.getD i 0) → nv x = nv y
 | [], y, h => by rw [nv_zeros (l := y) (fun i => by rw [← h i]; simp)]; rfl
 | a :: xs, [], h => by rw [nv_zeros (l := a :: xs) (fun i => by rw [h i]; simp)]; rfl
 | a :: xs, b :: ys, h => by
  have h0 := h 0; simp at h0; rw [nv, nv, h0, nv_congr xs ys (fun i => by have := h (i + 1); simpa using this)]
theorem lt_at' {x y : List Nat} {k : Nat} (hx : Lim x) (he : ∀ i, k < i → x.getD i 0 = y.getD i 0) (hlt : x.getD k 0 < y.getD k 0) : nv x < nv y := by
 have e := nv_congr (x.drop (k + 1)) (y.drop (k + 1)) (fun i => by rw [getD_drop, getD_drop]; exact he _ (by omega)); rw [nv_split x k, nv_split y k, nv_drop' x k, nv_drop' y k, e]; have h1 := nv_take_lt' hx k; generalize nv (y.drop (k + 1)) = R; have h2 : B ^ k * (x.getD k 0 + B * R + 1) ≤ B ^ k * (y.getD k 0 + B * R) := Nat.mul_le_mul_left _ (by omega); rw [Nat.mul_add (B ^ k) (x.getD k 0 + B * R) 1] at h2; omega
/-- the sum's loop -/
def PlusR (x y out : List Nat) (i cy : Nat) : Prop := out.length = i ∧ nv out + B ^ i * cy = nv (x.take i) + nv (y.take i)
theorem PlusR.step {x y out : List Nat} {i cy a b : Nat} (h : PlusR x y out i cy) (ha : a = x.getD i 0) (hb : b = y.getD i 0) :
  PlusR x y (out ++ [(a + b + cy) % 4294967296]) (i + 1) ((a + b + cy) / 4294967296) := by
 obtain ⟨h1, h2⟩ := h; refine ⟨by simp [h1], ?_⟩; rw [nv_snoc, nv_take_succ', nv_take_succ', ← ha, ← hb, h1, Nat.pow_succ]; have e := Nat.mod_add_div (a + b + cy) 4294967296; have hB : B = 4294967296 := rfl; generalize (a + b + cy) % 4294967296 = lo at *; generalize (a + b + cy) / 4294967296 = hi at *; generalize B ^ i = P at *; rw [hB]
 grind
theorem PlusR.done {x y out : List Nat} {i cy : Nat} (h : PlusR x y out i cy) (hi : max x.length y.length + 1 = i) (hx : Lim x) (hy : Lim y) (ho : Lim out) : nv out = nv x + nv y := by
 obtain ⟨h1, h2⟩ := h; rw [List.take_of_length_le (by omega), List.take_of_length_le (by omega)] at h2; have hx' := Nat.lt_of_lt_of_le (nv_lt hx) (Nat.pow_le_pow_right B_pos (Nat.le_max_left x.length y.length)); have hy' := Nat.lt_of_lt_of_le (nv_lt hy) (Nat.pow_le_pow_right B_pos (Nat.le_max_right x.length y.length)); subst hi; rw [Nat.pow_succ] at h2; have hB : 2 ≤ B := by unfold B; omega
 generalize B ^ (max x.length y.length) = P at *; generalize B = β at *
 have hcy : cy = 0 := by
  rcases Nat.eq_zero_or_pos cy with h | h
  ·exact h
  ·have h4 : P * β * 1 ≤ P * β * cy := Nat.mul_le_mul_left _ h; have h3 : P * 2 ≤ P * β := Nat.mul_le_mul_left _ hB; omega
 rw [hcy, Nat.mul_zero] at h2; omega
/-- the difference's loop -/
def MinusR (x y out : List Nat) (i bo : Nat) : Prop := out.length = i ∧ nv out + nv (y.take i) = nv (x.take i) + B ^ i * bo
theorem MinusR.step {x y out : List Nat} {i bo a b s : Nat} (h : MinusR x y out i bo) (ha : a = x.getD i 0) (hb : b = y.getD i 0) (hal : a < 4294967296) (hbl : b < 4294967296) (hbo : bo ≤ 1) (hs : s = a + 4294967296 - b - bo) :
  MinusR x y (out ++ [s % 4294967296]) (i + 1) (1 - s / 4294967296) := by
 obtain ⟨h1, h2⟩ := h; refine ⟨by simp [h1], ?_⟩; rw [nv_snoc, nv_take_succ', nv_take_succ', ← ha, ← hb, h1, Nat.pow_succ]; have e := Nat.mod_add_div s 4294967296; have hB : B = 4294967296 := rfl; have hq : s / 4294967296 = 0 ∨ s / 4294967296 = 1 := by omega
 have e2 : s % 4294967296 + b + bo = a + 4294967296 * (1 - s / 4294967296) := by rcases hq with h | h <;> rw [h] at e ⊢ <;> omega
 clear e hq hs; generalize s % 4294967296 = lo at *; generalize 1 - s / 4294967296 = hi at *; rw [← hB] at e2; generalize B ^ i = P at *; generalize B = β at *
 grind
theorem MinusR.done {x y out : List Nat} {i bo : Nat} (h : MinusR x y out i bo) (hi : x.length = i) (hle : nv y ≤ nv x) (hx : Lim x) (hy : Lim y) (ho : Lim out) : nv out = nv x - nv y := by
 obtain ⟨h1, h2⟩ := h; have hxl := nv_lt hx; have ex : x.take i = x := List.take_of_length_le (by omega); rw [ex] at h2; have e := nv_split y i; have hn := nv_lt ho; rw [h1] at hn; rw [hi] at hxl; have hy0 : B ^ i * nv (y.drop i) ≤ nv y := by omega
 have hz : nv (y.drop i) = 0 := by
  rcases Nat.eq_zero_or_pos (nv (y.drop i)) with h | h
  ·exact h
  ·have h3 : B ^ i * 1 ≤ B ^ i * nv (y.drop i) := Nat.mul_le_mul_left _ h; omega
 rw [hz, Nat.mul_zero, Nat.add_zero] at e; rw [← e] at h2; generalize B ^ i = P at *
 have hb : bo = 0 := by
  rcases Nat.eq_zero_or_pos bo with h | h
  ·exact h
  ·have h3 : P * 1 ≤ P * bo := Nat.mul_le_mul_left _ h; omega
 rw [hb, Nat.mul_zero] at h2; omega
/-- the reference's product: one more place than the lengths add up to -/
def RTimesO (cs x y : List Nat) (i : Nat) : Prop := cs.length = x.length + y.length + 1 ∧ nv cs = nv (x.take i) * nv y ∧ ∀ j, i + y.length ≤ j → cs.getD j 0 = 0
def RTimesI (ds cs x y : List Nat) (i k a cy : Nat) : Prop := ds.length = x.length + y.length + 1 ∧ nv ds + B ^ (i + k) * cy = nv cs + B ^ i * (a * nv (y.take k)) ∧ ∀ j, i + y.length < j → ds.getD j 0 = 0
theorem RTimesO.start (x y : List Nat) : RTimesO (List.replicate (x.length + y.length + 1) 0) x y 0 := ⟨by simp, by simp [nv_replicate, nv], fun j _ => getD_replicate _ _⟩
theorem RTimesO.enter {cs x y : List Nat} {i a : Nat} (h : RTimesO cs x y i) : RTimesI cs cs x y i 0 a 0 := ⟨h.1, by simp [nv], fun j hj => h.2.2 j (by omega)⟩
theorem RTimesI.step {ds cs x y : List Nat} {i k a cy b o : Nat} (h : RTimesI ds cs x y i k a cy) (hi : i < x.length) (hk : k < y.length + 1) (hb : b = y.getD k 0) (ho : o = ds.getD (i + k) 0) :
  RTimesI (ds.set (i + k) ((a * b + o + cy) % 4294967296)) cs x y i (k + 1) a ((a * b + o + cy) / 4294967296) := by
 obtain ⟨h1, h2, h3⟩ := h; refine ⟨by simp [h1], ?_, fun j hj => by rw [getD_set_ne (by omega)]; exact h3 j hj⟩; rw [nv_take_succ', ← hb]; exact mul_step h2 (by omega) ho.symm rfl
theorem RTimesI.done {ds cs x y : List Nat} {i a cy : Nat} (h : RTimesI ds cs x y i (y.length + 1) a cy) (hc : RTimesO cs x y i) (hi : i < x.length) (ha : a = x.getD i 0) (hx : Lim x) (hy : Lim y) (hd : Lim ds) : RTimesO ds x y (i + 1) := by
 obtain ⟨h1, h2, h3⟩ := h
 have e0 : nv cs + B ^ i * (a * nv y) = nv (x.take (i + 1)) * nv y := by
  rw [hc.2.1, nv_take_succ', ← ha]; grind
 rw [List.take_of_length_le (by omega), e0] at h2; have hlt : nv (x.take (i + 1)) * nv y < B ^ (i + 1) * B ^ y.length := Nat.mul_lt_mul'' (nv_take_lt' hx _) (nv_lt hy); rw [← Nat.pow_add] at hlt; have e1 : i + (y.length + 1) = i + 1 + y.length := by omega
 rw [e1] at h2; generalize hM : nv (x.take (i + 1)) * nv y = M at *
 have hcy : cy = 0 := by
  rcases Nat.eq_zero_or_pos cy with h | h
  ·exact h
  ·have : B ^ (i + 1 + y.length) * 1 ≤ B ^ (i + 1 + y.length) * cy := Nat.mul_le_mul_left _ h; generalize B ^ (i + 1 + y.length) = P at *; omega
 rw [hcy, Nat.mul_zero, Nat.add_zero] at h2; exact ⟨h1, h2.trans hM.symm, fun j hj => h3 j (by omega)⟩
theorem nv_set_take {ds : List Nat} {i : Nat} (hi : i < ds.length) (u : Nat) : nv ((ds.set i u).take (i + 1)) = nv (ds.take i) + B ^ i * u := by
 rw [nv_take_succ', getD_set_eq hi, List.take_set_of_le (Nat.le_refl i)]
/-- the halving in place -/
def HalfR (l ds : List Nat) (i : Nat) : Prop := ds.length = l.length ∧ (∀ j, i ≤ j → ds.getD j 0 = l.getD j 0) ∧ nv (ds.take i) * 2 + l.getD 0 0 % 2 = nv (l.take i) + B ^ i * (l.getD i 0 % 2)
theorem HalfR.start (l : List Nat) : HalfR l l 0 := ⟨rfl, fun _ _ => rfl, by simp [nv]⟩
theorem HalfR.step {l ds : List Nat} {i a b v : Nat} (h : HalfR l ds i) (hi : i < l.length) (ha : a = ds.getD i 0) (hb : b = ds.getD (i + 1) 0) (hv : v = a / 2 + (b % 2) * 2147483648) : HalfR l (ds.set i v) (i + 1) := by
 obtain ⟨h1, h2, h3⟩ := h; refine ⟨by simp [h1], fun j hj => by rw [getD_set_ne (by omega)]; exact h2 j (by omega), ?_⟩; rw [nv_set_take (by omega), nv_take_succ', ← h2 i (Nat.le_refl _), ← ha, ← h2 (i + 1) (by omega), ← hb, Nat.pow_succ]; rw [← h2 i (Nat.le_refl _), ← ha] at h3; have e := Nat.div_add_mod a 2; have hB : B = 2 * 2147483648 := rfl; generalize b % 2 = bm at *; generalize a % 2 = am at *; generalize a / 2 = ah at *; generalize l.getD 0 0 % 2 = z at *; generalize nv (ds.take i) = D at *; generalize nv (l.take i) = L at *; generalize B ^ i = P at *; generalize B = β at *; generalize 2147483648 = g at *
 grind
theorem HalfR.done {l ds : List Nat} {i : Nat} (h : HalfR l ds i) (hi : l.length = i) : nv ds = nv l / 2 := by
 obtain ⟨h1, h2, h3⟩ := h; subst hi; rw [List.take_length, List.take_of_length_le (by omega)] at h3; have e0 : l.getD l.length 0 = 0 := by simp [List.getD]
 rw [e0] at h3; have : l.getD 0 0 % 2 < 2 := Nat.mod_lt _ (by omega); generalize B ^ l.length = P at *; rw [Nat.zero_mod, Nat.mul_zero, Nat.add_zero] at h3; omega
/-- the difference in place -/
def TakeR (x ds y : List Nat) (i bo : Nat) : Prop := ds.length = x.length ∧ (∀ j, i ≤ j → ds.getD j 0 = x.getD j 0) ∧ nv (ds.take i) + nv (y.take i) = nv (x.take i) + B ^ i * bo
theorem TakeR.start (x y : List Nat) : TakeR x x y 0 0 := ⟨rfl, fun _ _ => rfl, by simp [nv]⟩
theorem TakeR.step {x ds y : List Nat} {i bo a b s : Nat} (h : TakeR x ds y i bo) (hi : i < x.length) (ha : a = ds.getD i 0) (hb : b = y.getD i 0) (hal : a < 4294967296) (hbl : b < 4294967296) (hbo : bo ≤ 1) (hs : s = a + 4294967296 - b - bo) :
  TakeR x (ds.set i (s % 4294967296)) y (i + 1) (1 - s / 4294967296) := by
 obtain ⟨h1, h2, h3⟩ := h; refine ⟨by simp [h1], fun j hj => by rw [getD_set_ne (by omega)]; exact h2 j (by omega), ?_⟩; rw [nv_set_take (by omega), nv_take_succ', nv_take_succ', ← h2 i (Nat.le_refl _), ← ha, ← hb, Nat.pow_succ]; have e := Nat.mod_add_div s 4294967296; have hB : B = 4294967296 := rfl; have hq : s / 4294967296 = 0 ∨ s / 4294967296 = 1 := by omega
 have e2 : s % 4294967296 + b + bo = a + 4294967296 * (1 - s / 4294967296) := by rcases hq with h | h <;> rw [h] at e ⊢ <;> omega
 clear e hq hs; generalize s % 4294967296 = lo at *; generalize 1 - s / 4294967296 = hi at *; rw [← hB] at e2; generalize B ^ i = P at *; generalize B = β at *
 grind
theorem TakeR.done {x ds y : List Nat} {i bo : Nat} (h : TakeR x ds y i bo) (hi : x.length = i) (hle : nv y ≤ nv x) (hx : Lim x) (hy : Lim y) (hd : Lim ds) : nv ds = nv x - nv y := by
 obtain ⟨h1, h2, h3⟩ := h; have := MinusR.done (x := x) (y := y) (out := ds) (i := i) (bo := bo) ⟨by omega, by rw [List.take_of_length_le (show ds.length ≤ i by omega)] at h3; exact h3⟩ hi hle hx hy hd; exact this
end Go.Proofs.Yticobffjnjbjiaa.Nm
namespace Go.Proofs.Yticobffjnjbjiaa
open Go.RowKit
/-- the block of one limb that an append reads -/
theorem rd_one (w : World) (n : Nat) {m : Int} (h : m = (n : Int)) : Rd (w.alloc (.cells #[.int .u32 m] 105)) (some ⟨w.heap.size, 0, none⟩) (u32s [n]) := by
 subst h; intro _; refine ⟨_, _, rfl, fun i hi => ?_⟩; simp [u32s] at hi; subst hi; have := (Blk.new w 105 #[.int .u32 (n : Int)]).cell 0; rw [this]; rfl
theorem own_shape {w : World} {base : Nat} {v : Value} {n : Nat} {xs : List Value} (h : w.ownsRow base 105 1 v n xs) : ∃ A c, v = .slice A n c := by
 rcases h.2 with ⟨rfl, rfl⟩ | ⟨g, cap, cur, rfl, _⟩
 ·exact ⟨none, 0, rfl⟩
 ·exact ⟨_, cap, rfl⟩
theorem own_block {w : World} {base : Nat} {v : Value} {n : Nat} {xs : List Value} (h : w.ownsRow base 105 1 v n xs) : ∀ k, v.ownBlock = some k → base ≤ k := by
 intro k hk
 rcases h.2 with ⟨rfl, rfl⟩ | ⟨g, cap, cur, rfl, hb, _⟩
 ·simp [Value.ownBlock] at hk
 ·simp [Value.ownBlock] at hk; omega
theorem own_base {w : World} {base base' : Nat} {v : Value} {n : Nat} {xs : List Value} (h : w.ownsRow base 105 1 v n xs) (hb : base' ≤ base) : w.ownsRow base' 105 1 v n xs := by
 refine ⟨h.1, ?_⟩
 rcases h.2 with h1 | ⟨g, cap, cur, rfl, hb2, r⟩
 ·exact .inl h1
 ·exact .inr ⟨g, cap, cur, rfl, by omega, r⟩
theorem lim_snoc {l : List Nat} {a : Nat} (h : Nm.Lim l) (ha : a < 4294967296) : Nm.Lim (l ++ [a]) := by
 intro x hx
 rcases List.mem_append.1 hx with h1 | h1
 ·exact h x h1
 ·simp at h1; subst h1; exact ha
set_option maxRecDepth 10000 in
set_option maxHeartbeats 1000000 in
theorem rplus_own (A1 A2 : Option Addr) (c1 c2 k1 k2 : Nat) (x y : List Nat) (w : World) (hx : Lim w A1 c1 x) (hy : Lim w A2 c2 y) (e1 : k1 = x.length) (e2 : k2 = y.length) (hl1 : k1 ≤ 1048576) (hl2 : k2 ≤ 1048576) :
  Calls Try.prog 116 #[.slice A1 k1 c1, .slice A2 k2 c2] w fun e w' => ∃ A c k, e = .returned (.slice A k c) ∧ k ≤ 1048577 ∧ Hid (w'.ownsRow w.heap.size 105 1 (.slice A k c) k (u32s (Nm.lb (Nm.nv x + Nm.nv y)))) ∧ Below w.heap.size w w' := by
 have E1 := Lib.hid e1; have E2 := Lib.hid e2; obtain ⟨m, HM⟩ : ∃ m, Hid (m = max k1 k2) := ⟨_, rfl⟩; have hm1 : k1 ≤ m := by have := HM.out; omega
 have hm2 : k2 ≤ m := by have := HM.out; omega
 have hm3 : m ≤ 1048576 := by have := HM.out; omega
 have hmax : (max (k1 : Int) (k2 : Int)) = (m : Int) := by have := HM.out; omega
 clear e1 e2; obtain ⟨i0, hi0, hz0, hz1, hz2⟩ := info_parts u32_info
 go_enter Try.func116, Try.ntmps116
 go_wp2
 go_loopg [7, 5, 6] (m + 1) (fun j a b c wr => ∃ (i : Nat) (out : List Nat) (cy : Nat) (A : Option Addr) (cp : Nat), a = .int .i64 i ∧ i + j = m + 1 ∧ b = .slice A i cp ∧ c = .int .u64 cy ∧ cy ≤ 1 ∧ wr.ownsRow w.heap.size 105 1 (.slice A i cp) i (u32s out) ∧ Hid (Nm.PlusR x y out i cy ∧ Nm.Lim out) ∧ Below w.heap.size w wr)
 case atStart => exact ⟨0, [], 0, none, 0, rfl, by omega, rfl, rfl, by omega, ⟨rfl, .inl ⟨rfl, rfl⟩⟩, ⟨⟨rfl, by simp [Nm.nv]⟩, fun _ h => by cases h⟩, Below.refl _ _⟩
 case round =>
  obtain ⟨i, out, cy, A, cp, rfl, hij, rfl, rfl, hcy, hown, HP, hb⟩ := hrel; by_cases hlt : i < m + 1
  ·obtain ⟨a, HA⟩ : ∃ a, Hid (a = x.getD i 0) := ⟨_, rfl⟩; obtain ⟨b, HB⟩ : ∃ b, Hid (b = y.getD i 0) := ⟨_, rfl⟩; have ha : a < 4294967296 := by rw [HA.out]; exact hx.lt i
   have hb2 : b < 4294967296 := by rw [HB.out]; exact hy.lt i
   have hs1 : (a + b + cy) / 4294967296 ≤ 1 := by omega
   have HS : Hid (((a : Int) + (b : Int) + (cy : Int)) / 4294967296 = (((a + b + cy) / 4294967296 : Nat) : Int)) := by show _ = _; omega
   have HT : Hid (((a : Int) + (b : Int) + (cy : Int)) % 4294967296 = (((a + b + cy) % 4294967296 : Nat) : Int)) := by show _ = _; omega
   go_wp2_with fail
   all_goals
    refine (limb_any _ _ _ i a x _ (hx.below hb) E1.out (by omega) HA.out).mono ?_; rintro e w' ⟨rfl, rfl⟩; go_wp2_with fail; refine (limb_any _ _ _ i b y _ (hy.below hb) E2.out (by omega) HB.out).mono ?_; rintro e w' ⟨rfl, rfl⟩
    go_wp2_with (at_builtin; refine wpList_append_any _ rfl (.tmp 28) (.tmp 31) _ rfl w.heap.size 105 i0 _ 1 4 Try.underlying22 hi0 hz0 hz1 hz2 rfl (by omega) (.slice A i cp) i (u32s out) rfl (hown.alloc _) (some ⟨wr.heap.size, 0, none⟩) 1 1 (u32s [(a + b + cy) % 4294967296]) rfl rfl (rd_one wr ((a + b + cy) % 4294967296) HT.out) (u32s_one _) (by simp only [maxLen]; omega) (by omega) (by have := hb.size; simp; omega) ?_; intro v1 w1 hown1 hg1 hat1)
    go_roundg (gk - 1)
    case measure => omega
    case rel =>
     rw [← u32s_append] at hown1; obtain ⟨A', cp', rfl⟩ := own_shape hown1; exact ⟨i + 1, _, _, A', cp', by go_num, by omega, rfl, by rw [HS.out], hs1, hown1, ⟨HP.1.step HA.out HB.out, lim_snoc HP.2 (Nat.mod_lt _ (by omega))⟩, (Below.tr hb (bA wr _)).grown hg1 (by have := hb.size; simp; omega) (own_block hown)⟩
  ·obtain rfl : m + 1 = i := by omega
   obtain ⟨HL, hlim, _⟩ := own_lim2 hown HP.2; have HL' := Lib.hid HL; have HF : Hid (Nm.nv out = Nm.nv x + Nm.nv y) := HP.1.done (by have := HM.out; have := E1.out; have := E2.out; omega) hx.limb hy.limb HP.2; clear HL; go_wp2_with fail
   all_goals
    refine (rtrim_own _ _ _ out _ hlim HL'.out (by omega)).mono ?_; rintro e w' ⟨A', c', k, rfl, hk, ho, hb'⟩; go_wp2_with fail; go_ret; refine ⟨A', c', k, rfl, by omega, ?_, Below.tr hb hb'⟩; rw [← HF.out]; exact own_base ho.out hb.size
set_option maxRecDepth 10000 in
set_option maxHeartbeats 1000000 in
theorem rminus_own (A1 A2 : Option Addr) (c1 c2 k1 k2 : Nat) (x y : List Nat) (w : World) (hx : Lim w A1 c1 x) (hy : Lim w A2 c2 y) (e1 : k1 = x.length) (e2 : k2 = y.length) (hl1 : k1 ≤ 1048576) (hl2 : k2 ≤ 1048576) (hle : Nm.nv y ≤ Nm.nv x) :
  Calls Try.prog 123 #[.slice A1 k1 c1, .slice A2 k2 c2] w fun e w' => ∃ A c k, e = .returned (.slice A k c) ∧ k ≤ 1048577 ∧ Hid (w'.ownsRow w.heap.size 105 1 (.slice A k c) k (u32s (Nm.lb (Nm.nv x - Nm.nv y)))) ∧ Below w.heap.size w w' := by
 have E1 := Lib.hid e1; have E2 := Lib.hid e2; have HLE := Lib.hid hle; clear e1 e2 hle; obtain ⟨i0, hi0, hz0, hz1, hz2⟩ := info_parts u32_info
 go_enter Try.func123, Try.ntmps123
 go_wp2
 go_loopg [7, 5, 6] k1 (fun j a b c wr => ∃ (i : Nat) (out : List Nat) (bo : Nat) (A : Option Addr) (cp : Nat), a = .int .i64 i ∧ i + j = k1 ∧ b = .slice A i cp ∧ c = .int .u64 bo ∧ bo ≤ 1 ∧ wr.ownsRow w.heap.size 105 1 (.slice A i cp) i (u32s out) ∧ Hid (Nm.MinusR x y out i bo ∧ Nm.Lim out) ∧ Below w.heap.size w wr)
 case atStart => exact ⟨0, [], 0, none, 0, rfl, by omega, rfl, rfl, by omega, ⟨rfl, .inl ⟨rfl, rfl⟩⟩, ⟨⟨rfl, by simp [Nm.nv]⟩, fun _ h => by cases h⟩, Below.refl _ _⟩
 case round =>
  obtain ⟨i, out, bo, A, cp, rfl, hij, rfl, rfl, hbo, hown, HP, hb⟩ := hrel; by_cases hlt : i < k1
  ·obtain ⟨a, HA⟩ : ∃ a, Hid (a = x.getD i 0) := ⟨_, rfl⟩; obtain ⟨b, HB⟩ : ∃ b, Hid (b = y.getD i 0) := ⟨_, rfl⟩; have ha : a < 4294967296 := by rw [HA.out]; exact hx.lt i
   have hb2 : b < 4294967296 := by rw [HB.out]; exact hy.lt i
   obtain ⟨s, HS⟩ : ∃ s, Hid (s = a + 4294967296 - b - bo) := ⟨_, rfl⟩; have hs2 : 1 - s / 4294967296 ≤ 1 := by omega
   have HT : Hid (((a : Int) + 4294967296 - (b : Int) - (bo : Int)) % 4294967296 = ((s % 4294967296 : Nat) : Int)) := by have := HS.out; show _ = _; omega
   have HU : Hid (1 - ((a : Int) + 4294967296 - (b : Int) - (bo : Int)) / 4294967296 = ((1 - s / 4294967296 : Nat) : Int)) := by have := HS.out; show _ = _; omega
   go_wp2_with fail; refine (limb_any _ _ _ i a x _ (hx.below hb) E1.out (by omega) HA.out).mono ?_; rintro e w' ⟨rfl, rfl⟩; go_wp2_with fail; refine (limb_any _ _ _ i b y _ (hy.below hb) E2.out (by omega) HB.out).mono ?_; rintro e w' ⟨rfl, rfl⟩
   go_wp2_with (at_builtin; refine wpList_append_any _ rfl (.tmp 25) (.tmp 28) _ rfl w.heap.size 105 i0 _ 1 4 Try.underlying22 hi0 hz0 hz1 hz2 rfl (by omega) (.slice A i cp) i (u32s out) rfl (hown.alloc _) (some ⟨wr.heap.size, 0, none⟩) 1 1 (u32s [s % 4294967296]) rfl rfl (rd_one wr (s % 4294967296) HT.out) (u32s_one _) (by simp only [maxLen]; omega) (by omega) (by have := hb.size; simp; omega) ?_; intro v1 w1 hown1 hg1 hat1)
   go_roundg (gk - 1)
   case measure => omega
   case rel =>
    rw [← u32s_append] at hown1; obtain ⟨A', cp', rfl⟩ := own_shape hown1; exact ⟨i + 1, _, _, A', cp', by go_num, by omega, rfl, by rw [HU.out], hs2, hown1, ⟨HP.1.step HA.out HB.out ha hb2 hbo HS.out, lim_snoc HP.2 (Nat.mod_lt _ (by omega))⟩, (Below.tr hb (bA wr _)).grown hg1 (by have := hb.size; simp; omega) (own_block hown)⟩
  ·obtain rfl : k1 = i := by omega
   obtain ⟨HL, hlim, _⟩ := own_lim2 hown HP.2; have HL' := Lib.hid HL; have HF : Hid (Nm.nv out = Nm.nv x - Nm.nv y) := HP.1.done E1.out.symm HLE.out hx.limb hy.limb HP.2; clear HL; go_wp2_with fail; refine (rtrim_own _ _ _ out _ hlim HL'.out (by omega)).mono ?_; rintro e w' ⟨A', c', k, rfl, hk, ho, hb'⟩; go_wp2_with fail; go_ret; refine ⟨A', c', k, rfl, by omega, ?_, Below.tr hb hb'⟩; rw [← HF.out]; exact own_base ho.out hb.size
set_option maxRecDepth 10000 in
set_option maxHeartbeats 1000000 in
theorem rcompare_any (A1 A2 : Option Addr) (c1 c2 k1 k2 : Nat) (x y : List Nat) (w : World) (hx : Lim w A1 c1 x) (hy : Lim w A2 c2 y) (e1 : k1 = x.length) (e2 : k2 = y.length) (hl1 : k1 ≤ 2097152) (hl2 : k2 ≤ 2097152) :
  Calls Try.prog 81 #[.slice A1 k1 c1, .slice A2 k2 c2] w fun e w' => e = .returned (.int .i64 (Nm.cmpN (Nm.nv x) (Nm.nv y))) ∧ w = w' := by
 have E1 := Lib.hid e1; have E2 := Lib.hid e2; obtain ⟨m, HM⟩ : ∃ m, Hid (m = max k1 k2) := ⟨_, rfl⟩; have hm1 : k1 ≤ m := by have := HM.out; omega
 have hm2 : k2 ≤ m := by have := HM.out; omega
 have hm3 : m ≤ 2097152 := by have := HM.out; omega
 have HX : Hid (∀ i, m ≤ i → x.getD i 0 = y.getD i 0) := fun i hi => by
  simp [List.getD, List.getElem?_eq_none (show x.length ≤ i by omega), List.getElem?_eq_none (show y.length ≤ i by omega)]
 clear e1 e2
 go_enter Try.func81, Try.ntmps81
 go_wp2
 all_goals
  go_loopg [5] m (fun j a wr => a = .int .i64 ((j : Int) - 1) ∧ j ≤ m ∧ Hid (∀ i, j ≤ i → x.getD i 0 = y.getD i 0) ∧ wr = w)
  case atStart => exact ⟨by have := HM.out; congr 1; omega, Nat.le_refl _, HX, rfl⟩
  case round =>
   obtain ⟨rfl, hj, HE, rfl⟩ := hrel
   rcases gk with _ | j
   ·go_wp2_with fail; go_ret; exact ⟨by rw [Nm.cmpN_eq (Nm.nv_congr x y (fun i => HE.out i (Nat.zero_le _)))]; rfl, rfl⟩
   ·obtain ⟨a, HA⟩ : ∃ a, Hid (a = x.getD j 0) := ⟨_, rfl⟩; obtain ⟨b, HB⟩ : ∃ b, Hid (b = y.getD j 0) := ⟨_, rfl⟩; by_cases hab : a < b
    ·have HC : Hid (Nm.cmpN (Nm.nv x) (Nm.nv y) = -1) := Nm.cmpN_lt (Nm.lt_at' hx.limb (fun i hi => HE.out i hi) (by rw [← HA.out, ← HB.out]; exact hab)); go_wp2_with fail; refine (limb_any _ _ _ j a x _ hx E1.out (by omega) HA.out).mono ?_; rintro e w' ⟨rfl, rfl⟩; go_wp2_with fail; refine (limb_any _ _ _ j b y _ hy E2.out (by omega) HB.out).mono ?_; rintro e w' ⟨rfl, rfl⟩; go_wp2_with fail; go_ret; exact ⟨by rw [HC.out]; rfl, rfl⟩
    ·by_cases hba : b < a
     ·have HC : Hid (Nm.cmpN (Nm.nv x) (Nm.nv y) = 1) := Nm.cmpN_gt (Nm.lt_at' hy.limb (fun i hi => (HE.out i hi).symm) (by rw [← HA.out, ← HB.out]; exact hba)); go_wp2_with fail; refine (limb_any _ _ _ j a x _ hx E1.out (by omega) HA.out).mono ?_; rintro e w' ⟨rfl, rfl⟩; go_wp2_with fail; refine (limb_any _ _ _ j b y _ hy E2.out (by omega) HB.out).mono ?_; rintro e w' ⟨rfl, rfl⟩; go_wp2_with fail; refine (limb_any _ _ _ j a x _ hx E1.out (by omega) HA.out).mono ?_; rintro e w' ⟨rfl, rfl⟩; go_wp2_with fail; refine (limb_any _ _ _ j b y _ hy E2.out (by omega) HB.out).mono ?_; rintro e w' ⟨rfl, rfl⟩; go_wp2_with fail; go_ret; exact ⟨by rw [HC.out]; rfl, rfl⟩
     ·have HE2 : Hid (∀ i, j ≤ i → x.getD i 0 = y.getD i 0) := fun i hi => by
       by_cases h : i = j
       ·subst h; rw [← HA.out, ← HB.out]; omega
       ·exact HE.out i (by omega)
      go_wp2_with fail; refine (limb_any _ _ _ j a x _ hx E1.out (by omega) HA.out).mono ?_; rintro e w' ⟨rfl, rfl⟩; go_wp2_with fail; refine (limb_any _ _ _ j b y _ hy E2.out (by omega) HB.out).mono ?_; rintro e w' ⟨rfl, rfl⟩; go_wp2_with fail; refine (limb_any _ _ _ j a x _ hx E1.out (by omega) HA.out).mono ?_; rintro e w' ⟨rfl, rfl⟩; go_wp2_with fail; refine (limb_any _ _ _ j b y _ hy E2.out (by omega) HB.out).mono ?_; rintro e w' ⟨rfl, rfl⟩; go_wp2_with fail
      go_roundg j
      case measure => omega
      case rel => exact ⟨rfl, by omega, HE2, rfl⟩
end Go.Proofs.Yticobffjnjbjiaa
namespace Go.Proofs.Yticobffjnjbjiaa
open Go.RowKit
theorem limb_q (A : Option Addr) (c k j a : Nat) (l : List Nat) (w : World) (hr : Lim w A c l) (hk : k = l.length) (hj : j ≤ 2147483648) (ha : a = l.getD j 0) :
  Calls Try.prog 92 #[.slice A k c, .int .i64 j] w fun e w' => e = .returned (.int .u64 (a : Int)) ∧ w' = w := (limb_any A c k j a l w hr hk hj ha).mono fun _ _ ⟨h1, h2⟩ => ⟨h1, h2.symm⟩
set_option maxRecDepth 10000 in
set_option maxHeartbeats 2000000 in
theorem rtimes_any (A1 A2 : Option Addr) (c1 c2 k1 k2 : Nat) (x y : List Nat) (w : World) (hx : Lim w A1 c1 x) (hy : Lim w A2 c2 y) (e1 : k1 = x.length) (e2 : k2 = y.length) (hl1 : k1 ≤ 1048570) (hl2 : k2 ≤ 1048570) :
  Calls Try.prog 52 #[.slice A1 k1 c1, .slice A2 k2 c2] w fun e w' => ∃ A c k, e = .returned (.slice A k c) ∧ k ≤ 2097152 ∧ Hid (w'.ownsRow w.heap.size 105 1 (.slice A k c) k (u32s (Nm.lb (Nm.nv x * Nm.nv y)))) ∧ Below w.heap.size w w' := by
 have E1 := Lib.hid e1; have E2 := Lib.hid e2; have hmk := run_make32 (↑k1 + ↑k2 + 1) (k1 + k2 + 1) (by omega) (by omega); have HO0 : Hid (Nm.RTimesO (List.replicate (k1 + k2 + 1) 0) x y 0) := by have := Nm.RTimesO.start x y; rw [← E1.out, ← E2.out] at this; exact this
 clear e1 e2
 go_enter Try.func52, Try.ntmps52
 go_wp2
 go_loopg [6] k1 (fun j a wr => ∃ (i : Nat) (cs : List Nat), a = .int .i64 i ∧ i + j = k1 ∧ Row wr w.heap.size cs ∧ Hid (Nm.RTimesO cs x y i) ∧ Below w.heap.size w wr)
 case atStart => exact ⟨0, _, rfl, by omega, Row.new w _, HO0, bA w _⟩
 case round =>
  obtain ⟨i, cs, rfl, hij, hrow, HC, hb⟩ := hrel; obtain ⟨gj, hgj⟩ : ∃ gj, gj = gk := ⟨_, rfl⟩; subst hgj; by_cases hlt : i < k1
  ·obtain ⟨a, HA⟩ : ∃ a, Hid (a = x.getD i 0) := ⟨_, rfl⟩; have ha : a < 4294967296 := by rw [HA.out]; exact hx.lt i
   go_wp2_with fail
   go_loopg [8, 7] (k2 + 1) (fun j p q wx => ∃ (k : Nat) (ds : List Nat) (cy : Nat), p = .int .i64 k ∧ k + j = k2 + 1 ∧ q = .int .u64 cy ∧ cy < 4294967296 ∧ Row wx w.heap.size ds ∧ Hid (Nm.RTimesI ds cs x y i k a cy) ∧ Below w.heap.size w wx)
   case atStart => exact ⟨0, cs, 0, rfl, by omega, rfl, by omega, hrow, HC.out.enter, hb⟩
   case round =>
    obtain ⟨k, ds, cy, rfl, hkj, rfl, hcy, hrow2, HD, hb2⟩ := hrel; by_cases hk : k < k2 + 1
    ·obtain ⟨b, HB⟩ : ∃ b, Hid (b = y.getD k 0) := ⟨_, rfl⟩; have hbl : b < 4294967296 := by rw [HB.out]; exact hy.lt k
     obtain ⟨o, hco, hfo, ho, HO⟩ := hrow2.get (k := i + k) (by have := HD.1; have := E1.out; have := E2.out; omega); obtain ⟨hp0, hpr⟩ := Nm.prod_bounds ha hbl; have hX := hx.below hb2; have hY := hy.below hb2; have t1 : IntKind.i64.wrap ((i : Int) + (k : Int)) = (i : Int) + (k : Int) := IntWalk.i64_in _ (by omega); have t2 : ((i : Int) + (k : Int)).toNat = i + k := by omega
     have t3 : (0 : Int) ≤ (i : Int) + (k : Int) := by omega
     have t4 : (i : Int) + (k : Int) < (k1 : Int) + (k2 : Int) + 1 := by omega
     have t5 : IntKind.u64.wrap ((a : Int) * (b : Int)) = (a : Int) * (b : Int) := by rw [IntKind.wrap_u64]; omega
     have t6 : IntKind.u64.wrap ((a : Int) * (b : Int) + (o : Int)) = (a : Int) * (b : Int) + (o : Int) := by rw [IntKind.wrap_u64]; omega
     have t7 : IntKind.u64.wrap ((a : Int) * (b : Int) + (o : Int) + (cy : Int)) = (a : Int) * (b : Int) + (o : Int) + (cy : Int) := by rw [IntKind.wrap_u64]; omega
     go_wp2_with fail
     go_quiet ((first | (go_at_call_of 92 (Value.slice A1 k1 c1); exact Calls.quiet_of_same (limb_q _ _ _ i a x _ (hX.drewN _) E1.out (by omega) HA.out)) | (go_at_call_of 92 (Value.slice A2 k2 c2); exact Calls.quiet_of_same (limb_q _ _ _ k b y _ (hY.drewN _) E2.out (by omega) HB.out))))
     go_wp2_with fail; clear t1 t2 t3 t4 t5 t6 t7
     go_roundg (gk - 1)
     case measure => omega
     case rel =>
      have eA : ((a : Int) * (b : Int) + (o : Int) + (cy : Int)) % 4294967296 = (((a * b + o + cy) % 4294967296 : Nat) : Int) := by omega
      have eB : ((a : Int) * (b : Int) + (o : Int) + (cy : Int)) / 4294967296 = (((a * b + o + cy) / 4294967296 : Nat) : Int) := by omega
      rw [eA, eB]; have hcl : (a * b + o + cy) / 4294967296 < 4294967296 := Nat.div_lt_of_lt_mul (Nm.mul_carry_lt ha hbl ho hcy); exact ⟨k + 1, _, _, by go_num, by omega, rfl, hcl, (hrow2.below (below_drewN _ _)).set_ _ _ (Nat.mod_lt _ (by omega)), HD.out.step (by have := E1.out; omega) (by have := E2.out; omega) HB.out HO.out, (Below.tr hb2 (below_drewN _ _)).setCell (Nat.le_refl _) _⟩
    ·obtain rfl : k2 + 1 = k := by omega
     have HN : Hid (Nm.RTimesO ds x y (i + 1)) := by
      have h := HD.out; rw [E2.out] at h; exact h.done HC.out (by have := E1.out; omega) HA.out hx.limb hy.limb hrow2.2
     go_wp2_with fail
     go_roundg (gj - 1)
     case measure => omega
     case rel => exact ⟨i + 1, ds, by go_num, by omega, hrow2, HN, hb2⟩
  ·obtain rfl : k1 = i := by omega
   have HF : Hid (Nm.nv cs = Nm.nv x * Nm.nv y) := by
    have h := HC.2.1; rw [List.take_of_length_le (by have := E1.out; omega)] at h; exact h
   have HLn : Hid (k1 + k2 + 1 = cs.length) := by have := HC.1; have := E1.out; have := E2.out; show _ = _; omega
   have hlim := hrow.lim (c := k1 + k2 + 1) (by have := HLn.out; omega) (by omega); go_wp2_with fail; refine (rtrim_own _ _ _ cs _ hlim HLn.out (by omega)).mono ?_; rintro e w' ⟨A', c', k, rfl, hk, ho, hb'⟩; go_wp2_with fail; go_ret; refine ⟨A', c', k, rfl, by omega, ?_, Below.tr hb hb'⟩; rw [← HF.out]; exact own_base ho.out hb.size
end Go.Proofs.Yticobffjnjbjiaa
namespace Go.Proofs.Yticobffjnjbjiaa
open Go.RowKit
/-- limbs that lie in a row of the call's own -/
def Own (w : World) (base : Nat) (A : Option Addr) (k c : Nat) (l : List Nat) : Prop := w.ownsRow base 105 1 (.slice A k c) k (u32s l) ∧ Nm.Lim l
section
variable {w w' : World} {base k c : Nat} {A : Option Addr} {l : List Nat}
theorem Own.lim (h : Own w base A k c l) : Lim w A c l := (own_lim2 h.1 h.2).2.1
theorem Own.len (h : Own w base A k c l) : k = l.length := (own_lim2 h.1 h.2).1
theorem Own.above (h : Own w base A k c l) : ∀ b off, A = some ⟨b, off, none⟩ → base ≤ b := (own_lim2 h.1 h.2).2.2
theorem Own.get (h : Own w base A k c l) {i : Nat} (hi : i < k) : ∃ g a, A = some ⟨g, 0, none⟩ ∧ w.cell? ⟨g, i, none⟩ = some (.int .u32 ((a : Nat) : Int)) ∧ w.frozen? ⟨g, i, none⟩ = false ∧ a < 4294967296 ∧ Hid (a = l.getD i 0) := by
 have hl := h.len
 rcases h.1.2 with ⟨h0, h1⟩ | ⟨g, cap, cur, hv, _⟩
 ·omega
 ·injection hv with e1 e2 e3; subst e1; subst e3; refine ⟨g, l.getD i 0, rfl, ?_, World.ownsRow.frozenAt h.1 i, h.lim.lt i, rfl⟩; rw [World.ownsRow.cellAt h.1 i (by omega)]; have : i < l.length := by omega
  simp [u32s, List.getD, this]
theorem Own.set {g : Nat} (h : Own w base (some ⟨g, 0, none⟩) k c l) (i : Nat) {n : Nat} (hn : n < 4294967296) : Own (w.setCell ⟨g, i, none⟩ (.int .u32 (n : Int))) base (some ⟨g, 0, none⟩) k c (l.set i n) := by
 refine ⟨?_, fun x hx => ?_⟩
 ·have := (World.ownsRow.stored h.1 i (.int .u32 (n : Int))).1; have e : u32s (l.set i n) = (u32s l).set i (.int .u32 (n : Int)) := by simp [u32s, List.map_set]
  rw [e]; exact this
 ·rcases List.mem_or_eq_of_mem_set hx with h1 | h1
  ·exact h.2 x h1
  ·subst h1; exact hn
theorem Own.take_ (h : Own w base A k c l) {n : Nat} (hn : n ≤ k) : Own w base A n c (l.take n) := by
 refine ⟨?_, fun x hx => h.2 x (List.mem_of_mem_take hx)⟩; have hl := h.len; refine ⟨by simp [u32s]; omega, ?_⟩
 rcases h.1.2 with ⟨h0, h1⟩ | ⟨g, cap, cur, hv, hb, hh, h1, h2, h3, h4⟩
 ·subst h1; injection h0 with e1 e2 e3; subst e1; subst e3; exact .inl ⟨by rw [show n = 0 by omega], by omega⟩
 ·injection hv with e1 e2 e3; subst e1; subst e3; refine .inr ⟨g, c, cur, rfl, hb, hh, by omega, h2, h3, ?_⟩; have e : u32s (l.take n) = (u32s l).take n := by simp [u32s, List.map_take]
  rw [e, ← h4, List.take_take]
  congr 1
  omega
theorem Own.keep (h : Own w base A k c l) (hk : ∀ g, A = some ⟨g, 0, none⟩ → w'.heap[g]? = w.heap[g]?) : Own w' base A k c l := by
 refine ⟨⟨h.1.1, ?_⟩, h.2⟩
 rcases h.1.2 with h0 | ⟨g, cap, cur, hv, hb, hh, r⟩
 ·exact .inl h0
 ·injection hv with e1 e2 e3; subst e1; exact .inr ⟨g, cap, cur, by rw [e3], hb, (hk g rfl).trans hh, r⟩
theorem Own.lt (h : Own w base A k c l) : ∀ g, A = some ⟨g, 0, none⟩ → g < w.heap.size := by
 intro g hA
 rcases h.1.2 with ⟨h0, _⟩ | ⟨g', cap, cur, hv, hb, hh, r⟩
 ·injection h0 with e1; rw [hA] at e1; cases e1
 ·injection hv with e1 e2 e3; rw [hA] at e1; injection e1 with e1; injection e1 with e1 _; subst e1
  rcases Nat.lt_or_ge g w.heap.size with h1 | h1
  ·exact h1
  ·rw [Array.getElem?_eq_none h1] at hh; cases hh
theorem Own.below (h : Own w base A k c l) (hb : Below w.heap.size w w') : Own w' base A k c l := h.keep fun g hA => hb.block g (h.lt g hA)
theorem Own.base_ (h : Own w base A k c l) {b' : Nat} (hb : b' ≤ base) : Own w b' A k c l := ⟨own_base h.1 hb, h.2⟩
end
end Go.Proofs.Yticobffjnjbjiaa
namespace Go.Proofs.Yticobffjnjbjiaa
open Go.RowKit
theorem limb_i (A : Option Addr) (c k j a : Nat) (jj : Int) (l : List Nat) (w : World) (hr : Lim w A c l) (hk : k = l.length) (hj : j ≤ 2147483648) (ha : a = l.getD j 0) (hjj : jj = (j : Int)) :
  Calls Try.prog 92 #[.slice A k c, .int .i64 jj] w fun e w' => e = .returned (.int .u64 (a : Int)) ∧ w = w' := by
 subst hjj; exact limb_any A c k j a l w hr hk hj ha
theorem half_val (a b : Nat) (ha : a < 4294967296) (hb : b < 4294967296) :
  bits .or .u32 ((a : Int) / 2) (((b : Int) * 2147483648) % 4294967296) = ((a / 2 + (b % 2) * 2147483648 : Nat) : Int) ∧ a / 2 + (b % 2) * 2147483648 < 4294967296 := by
 have e1 : (a : Int) / 2 = ((a / 2 : Nat) : Int) := by omega
 have e2 : ((b : Int) * 2147483648) % 4294967296 = (((b % 2) * 2147483648 : Nat) : Int) := by omega
 refine ⟨?_, by omega⟩; rw [e1, e2, u32_or_nat _ _ (by omega) (by omega), Nat.or_comm, nat_join 31 _ _ (Nat.mul_mod_left _ _) (by omega), Nat.add_comm]
set_option maxRecDepth 10000 in
set_option maxHeartbeats 2000000 in
theorem half_own (A : Option Addr) (base c k : Nat) (l : List Nat) (w : World) (ho : Own w base A k c l) (hk : k ≤ 2097152) :
  Calls Try.prog 114 #[.slice A k c] w fun e w' => ∃ n, e = .returned (.slice A n c) ∧ n ≤ k ∧ Own w' base A n c (Nm.lb (Nm.nv l / 2)) ∧ w.grownBy w' (Value.ownBlock (.slice A k c)) := by
 have HL := Lib.hid ho.len; have hkc : k ≤ c := by have := ho.lim.2.1; have := HL.out; omega
 have hc : c ≤ 9223372036854775807 := ho.lim.2.2.1
 go_enter Try.func114, Try.ntmps114
 go_wp2
 go_loopg [4] k (fun j a wr => ∃ (i : Nat) (ds : List Nat), a = .int .i64 i ∧ i + j = k ∧ Own wr base A k c ds ∧ Hid (Nm.HalfR l ds i) ∧ w.grownBy wr (Value.ownBlock (.slice A k c)))
 case atStart => exact ⟨0, l, rfl, by omega, ho, Nm.HalfR.start l, only_refl w _⟩
 case round =>
  obtain ⟨i, ds, rfl, hij, hown, HH, hg⟩ := hrel; by_cases hlt : i < k
  ·obtain ⟨g, a, rfl, hca, hfa, ha, HA⟩ := hown.get hlt; obtain ⟨b, HB⟩ : ∃ b, Hid (b = ds.getD (i + 1) 0) := ⟨_, rfl⟩; have hb : b < 4294967296 := by rw [HB.out]; exact hown.lim.lt _
   obtain ⟨HV, hvl⟩ := half_val a b ha hb; have hll := hown.lim; have HLL := Lib.hid hown.len; have HV' := Lib.hid HV; clear HV; have t1 : IntKind.i64.wrap ((i : Int) + 1) = (i : Int) + 1 := IntWalk.i64_in _ (by omega); have t2 : IntKind.u64.wrap ((b : Int) * 2147483648) = (b : Int) * 2147483648 := by rw [IntKind.wrap_u64]; omega
   go_wp2_with fail
   go_region_with (go_at_call 92; refine (limb_i _ _ _ (i + 1) b _ ds _ hll.drew HLL.out (by omega) HB.out (by omega)).mono ?_; rintro e w' ⟨rfl, rfl⟩)
   all_goals
    go_wp2_with fail
    go_roundg (gk - 1)
    case measure => omega
    case rel =>
     rw [HV'.out]; have hs := hown.set i hvl; have hst := (World.ownsRow.stored hown.1 i (.int .u32 ((a / 2 + (b % 2) * 2147483648 : Nat) : Int))).2; refine ⟨i + 1, _, by go_num, by omega, hs.below (bD _), HH.out.step (by have := HL.out; omega) HA.out HB.out rfl, ?_⟩; exact only_trans hg (only_trans hst (only_below (bD _) _))
  ·obtain rfl : k = i := by omega
   have HN : Hid (Nm.nv ds = Nm.nv l / 2) := HH.out.done HL.out.symm; go_wp2_with fail
   go_loopg [3] k (fun j a wx => ∃ n : Nat, a = .int .i64 n ∧ n ≤ k ∧ n = j ∧ trimLen ds n = trimLen ds k ∧ wx = wr)
   case atStart => exact ⟨k, rfl, Nat.le_refl _, rfl, rfl, rfl⟩
   case round =>
    obtain ⟨n, rfl, hn, rfl, ht, rfl⟩ := hrel; have HT := Lib.hid ht; have HD := Lib.hid hown.len
    have hfin : ∀ n, n ≤ k → trimLen ds n = trimLen ds k → trimLen ds n = n → Own wr base A n c (Nm.lb (Nm.nv l / 2)) := by
     intro n hn h1 h2; have h3 := hown.take_ hn; have h4 := take_trimLen hown.2; rw [← HD.out, ← h1, h2, HN.out] at h4; rw [h4] at h3; exact h3
    have HF := Lib.hid hfin; clear ht hfin
    rcases n with _ | n
    ·have h0 := HF.out 0 (by omega) HT.out rfl; go_wp2_with fail; go_ret; exact ⟨0, rfl, by omega, h0, hg⟩
    ·obtain ⟨g, a, rfl, hca, hfa, ha, HA⟩ := hown.get (i := n) (by omega); by_cases hz : a = 0
     ·have hd : ((a : Int) == 0) = true := by rw [hz]; rfl
      have HT2 : Hid (trimLen ds n = trimLen ds k) := by show _ = _; rw [← HT.out, trimLen, if_pos (by rw [← HA.out]; exact hz)]
      clear hz; go_wp2_with fail
      go_roundg n
      case measure => omega
      case rel => exact ⟨n, rfl, by omega, rfl, HT2.out, rfl⟩
     ·have hd : ((a : Int) == 0) = false := by simp; omega
      have h0 := HF.out (n + 1) hn HT.out (by rw [trimLen, if_neg (by rw [← HA.out]; exact hz)]); clear hz; go_wp2_with fail; go_ret; exact ⟨n + 1, rfl, hn, h0, hg⟩
end Go.Proofs.Yticobffjnjbjiaa
namespace Go.Proofs.Yticobffjnjbjiaa
open Go.RowKit
set_option maxRecDepth 10000 in
set_option maxHeartbeats 2000000 in
theorem take_own (A A2 : Option Addr) (base c k c2 k2 : Nat) (x y : List Nat) (w : World) (ho : Own w base A k c x) (hy : Lim w A2 c2 y) (e2 : k2 = y.length) (hk : k ≤ 2097152) (hk2 : k2 ≤ 2097152) (hle : Nm.nv y ≤ Nm.nv x)
  (hne : ∀ b off g, A2 = some ⟨b, off, none⟩ → A = some ⟨g, 0, none⟩ → b ≠ g) :
  Calls Try.prog 115 #[.slice A k c, .slice A2 k2 c2] w fun e w' => ∃ n, e = .returned (.slice A n c) ∧ n ≤ k ∧ Own w' base A n c (Nm.lb (Nm.nv x - Nm.nv y)) ∧ w.grownBy w' (Value.ownBlock (.slice A k c)) := by
 have HL := Lib.hid ho.len; have E2 := Lib.hid e2; have HLE := Lib.hid hle; clear e2 hle; have hkc : k ≤ c := by have := ho.lim.2.1; have := HL.out; omega
 have hc : c ≤ 9223372036854775807 := ho.lim.2.2.1
 go_enter Try.func115, Try.ntmps115
 go_wp2
 go_loopg [6, 5] k (fun j a b wr => ∃ (i : Nat) (ds : List Nat) (bo : Nat), a = .int .i64 i ∧ i + j = k ∧ b = .int .u64 bo ∧ bo ≤ 1 ∧ Own wr base A k c ds ∧ Hid (Nm.TakeR x ds y i bo) ∧ w.grownBy wr (Value.ownBlock (.slice A k c)))
 case atStart => exact ⟨0, x, 0, rfl, by omega, rfl, by omega, ho, Nm.TakeR.start x y, only_refl w _⟩
 case round =>
  obtain ⟨i, ds, bo, rfl, hij, rfl, hbo, hown, HH, hg⟩ := hrel; by_cases hlt : i < k
  ·obtain ⟨g, a, rfl, hca, hfa, ha, HA⟩ := hown.get hlt; obtain ⟨b, HB⟩ : ∃ b, Hid (b = y.getD i 0) := ⟨_, rfl⟩; have hb : b < 4294967296 := by rw [HB.out]; exact hy.lt _
   have hll : Lim wr A2 c2 y := hy.only hg (fun b off hA => hne b off g hA rfl); obtain ⟨s, HS⟩ : ∃ s, Hid (s = a + 4294967296 - b - bo) := ⟨_, rfl⟩; have hs2 : 1 - s / 4294967296 ≤ 1 := by omega
   have HT : Hid (((a : Int) + 4294967296 - (b : Int) - (bo : Int)) % 4294967296 = ((s % 4294967296 : Nat) : Int)) := by have := HS.out; show _ = _; omega
   have HU : Hid (1 - ((a : Int) + 4294967296 - (b : Int) - (bo : Int)) / 4294967296 = ((1 - s / 4294967296 : Nat) : Int)) := by have := HS.out; show _ = _; omega
   have t1 : IntKind.u64.wrap ((a : Int) + 4294967296) = (a : Int) + 4294967296 := by rw [IntKind.wrap_u64]; omega
   have t2 : IntKind.u64.wrap ((a : Int) + 4294967296 - (b : Int)) = (a : Int) + 4294967296 - (b : Int) := by rw [IntKind.wrap_u64]; omega
   have t3 : IntKind.u64.wrap ((a : Int) + 4294967296 - (b : Int) - (bo : Int)) = (a : Int) + 4294967296 - (b : Int) - (bo : Int) := by rw [IntKind.wrap_u64]; omega
   go_wp2_with fail
   go_quiet ((go_at_call 92; exact Calls.quiet_of_same (limb_q _ _ _ i b y _ (hll.drewN _) E2.out (by omega) HB.out)))
   go_wp2_with fail; clear t1 t2 t3
   go_roundg (gk - 1)
   case measure => omega
   case rel =>
    rw [HT.out, HU.out]; have hsm : s % 4294967296 < 4294967296 := Nat.mod_lt _ (by omega); have hown2 := hown.below (below_drewN wr nq); have hs := hown2.set i hsm; have hst := (World.ownsRow.stored hown2.1 i (.int .u32 ((s % 4294967296 : Nat) : Int))).2; exact ⟨i + 1, _, _, by go_num, by omega, rfl, hs2, hs, HH.out.step (by have := HL.out; omega) HA.out HB.out ha hb hbo HS.out, only_trans (only_trans hg (only_below (below_drewN _ _) _)) hst⟩
  ·obtain rfl : k = i := by omega
   have HN : Hid (Nm.nv ds = Nm.nv x - Nm.nv y) := HH.out.done HL.out.symm HLE.out ho.2 hy.limb hown.2; go_wp2_with fail
   go_loopg [8] k (fun j a wx => ∃ n : Nat, a = .int .i64 n ∧ n ≤ k ∧ n = j ∧ trimLen ds n = trimLen ds k ∧ wx = wr)
   case atStart => exact ⟨k, rfl, Nat.le_refl _, rfl, rfl, rfl⟩
   case round =>
    obtain ⟨n, rfl, hn, rfl, ht, rfl⟩ := hrel; have HT := Lib.hid ht; have HD := Lib.hid hown.len
    have hfin : ∀ n, n ≤ k → trimLen ds n = trimLen ds k → trimLen ds n = n → Own wr base A n c (Nm.lb (Nm.nv x - Nm.nv y)) := by
     intro n hn h1 h2; have h3 := hown.take_ hn; have h4 := take_trimLen hown.2; rw [← HD.out, ← h1, h2, HN.out] at h4; rw [h4] at h3; exact h3
    have HF := Lib.hid hfin; clear ht hfin
    rcases n with _ | n
    ·have h0 := HF.out 0 (by omega) HT.out rfl; go_wp2_with fail; go_ret; exact ⟨0, rfl, by omega, h0, hg⟩
    ·obtain ⟨g, a, rfl, hca, hfa, ha, HA⟩ := hown.get (i := n) (by omega); by_cases hz : a = 0
     ·have hd : ((a : Int) == 0) = true := by rw [hz]; rfl
      have HT2 : Hid (trimLen ds n = trimLen ds k) := by show _ = _; rw [← HT.out, trimLen, if_pos (by rw [← HA.out]; exact hz)]
      clear hz; go_wp2_with fail
      go_roundg n
      case measure => omega
      case rel => exact ⟨n, rfl, by omega, rfl, HT2.out, rfl⟩
     ·have hd : ((a : Int) == 0) = false := by simp; omega
      have h0 := HF.out (n + 1) hn HT.out (by rw [trimLen, if_neg (by rw [← HA.out]; exact hz)]); clear hz; go_wp2_with fail; go_ret; exact ⟨n + 1, rfl, hn, h0, hg⟩
end Go.Proofs.Yticobffjnjbjiaa
namespace Go.Proofs.Yticobffjnjbjiaa
open Go.RowKit
/-- the slice is the number n, without leading noughts -/
def Nb (w : World) (A : Option Addr) (k c n : Nat) : Prop := k = (Nm.lb n).length ∧ Lim w A c (Nm.lb n)
section
variable {w w' : World} {A : Option Addr} {k c n : Nat}
theorem Nb.below (h : Nb w A k c n) (hb : Below w.heap.size w w') : Nb w' A k c n := ⟨h.1, h.2.below hb⟩
theorem Nb.drew (h : Nb w A k c n) : Nb w.drew A k c n := h.below (bD w)
theorem Nb.drewN (h : Nb w A k c n) (q : Nat) : Nb (w.drewN q) A k c n := h.below (below_drewN w q)
theorem Nb.alloc (h : Nb w A k c n) (o : Obj) : Nb (w.alloc o) A k c n := h.below (bA w o)
theorem Nb.zero (w : World) : Nb w none 0 0 0 := ⟨rfl, fun h => absurd rfl h, Nat.le_refl _, by omega, fun _ h => (by cases h), fun _ => rfl⟩
theorem Nb.le (h : Nb w A k c n) : k ≤ 9223372036854775807 := by have := h.1; have := h.2.2.1; have := h.2.2.2.1; omega
theorem Nb.lek {A : Option Addr} (h : Nb w A k c n) {m : Nat} (hm : n < Nm.B ^ m) : k ≤ m := by rw [h.1]; exact Nm.lb_length_lt.2 hm
theorem Nb.lt (h : Nb w A k c n) : n < Nm.B ^ k := by rw [h.1]; exact Nm.lb_length_lt.1 (Nat.le_refl _)
theorem Own.nb {base : Nat} (h : Own w base A k c (Nm.lb n)) : Nb w A k c n := ⟨h.len, h.lim⟩
end
theorem Nm_plus_len {a b k1 k2 : Nat} (h1 : a < Nm.B ^ k1) (h2 : b < Nm.B ^ k2) : a + b < Nm.B ^ (max k1 k2 + 1) := by
 have p1 : Nm.B ^ k1 ≤ Nm.B ^ (max k1 k2) := Nat.pow_le_pow_right Nm.B_pos (by omega); have p2 : Nm.B ^ k2 ≤ Nm.B ^ (max k1 k2) := Nat.pow_le_pow_right Nm.B_pos (by omega); rw [Nat.pow_succ]; have hB : 2 ≤ Nm.B := by unfold Nm.B; omega
 generalize Nm.B ^ (max k1 k2) = P at *; generalize Nm.B = β at *; have : P * 2 ≤ P * β := Nat.mul_le_mul_left _ hB; omega
theorem rplus_n (A1 A2 : Option Addr) (c1 c2 k1 k2 a b : Nat) (w : World) (h1 : Nb w A1 k1 c1 a) (h2 : Nb w A2 k2 c2 b) (hl1 : k1 ≤ 1048576) (hl2 : k2 ≤ 1048576) :
  Calls Try.prog 116 #[.slice A1 k1 c1, .slice A2 k2 c2] w fun e w' => ∃ A k c, e = .returned (.slice A k c) ∧ Nb w' A k c (a + b) ∧ Below w.heap.size w w' := by
 refine (rplus_own A1 A2 c1 c2 k1 k2 _ _ w h1.2 h2.2 h1.1 h2.1 hl1 hl2).mono ?_; rintro e w' ⟨A, c, k, rfl, _, ho, hb⟩; rw [Nm.nv_lb, Nm.nv_lb] at ho; obtain ⟨e1, e2, _⟩ := own_lim2 ho.out (Nm.lim_lb _); exact ⟨A, k, c, rfl, ⟨e1, e2⟩, hb⟩
theorem rminus_n (A1 A2 : Option Addr) (c1 c2 k1 k2 a b : Nat) (w : World) (h1 : Nb w A1 k1 c1 a) (h2 : Nb w A2 k2 c2 b) (hl1 : k1 ≤ 1048576) (hl2 : k2 ≤ 1048576) (hle : b ≤ a) :
  Calls Try.prog 123 #[.slice A1 k1 c1, .slice A2 k2 c2] w fun e w' => ∃ A k c, e = .returned (.slice A k c) ∧ Nb w' A k c (a - b) ∧ Below w.heap.size w w' := by
 refine (rminus_own A1 A2 c1 c2 k1 k2 _ _ w h1.2 h2.2 h1.1 h2.1 hl1 hl2 (by rw [Nm.nv_lb, Nm.nv_lb]; exact hle)).mono ?_; rintro e w' ⟨A, c, k, rfl, _, ho, hb⟩; rw [Nm.nv_lb, Nm.nv_lb] at ho; obtain ⟨e1, e2, _⟩ := own_lim2 ho.out (Nm.lim_lb _); exact ⟨A, k, c, rfl, ⟨e1, e2⟩, hb⟩
theorem rtimes_n (A1 A2 : Option Addr) (c1 c2 k1 k2 a b : Nat) (w : World) (h1 : Nb w A1 k1 c1 a) (h2 : Nb w A2 k2 c2 b) (hl1 : k1 ≤ 1048570) (hl2 : k2 ≤ 1048570) :
  Calls Try.prog 52 #[.slice A1 k1 c1, .slice A2 k2 c2] w fun e w' => ∃ A k c, e = .returned (.slice A k c) ∧ Nb w' A k c (a * b) ∧ Below w.heap.size w w' := by
 refine (rtimes_any A1 A2 c1 c2 k1 k2 _ _ w h1.2 h2.2 h1.1 h2.1 hl1 hl2).mono ?_; rintro e w' ⟨A, c, k, rfl, _, ho, hb⟩; rw [Nm.nv_lb, Nm.nv_lb] at ho; obtain ⟨e1, e2, _⟩ := own_lim2 ho.out (Nm.lim_lb _); exact ⟨A, k, c, rfl, ⟨e1, e2⟩, hb⟩
theorem rcompare_n (A1 A2 : Option Addr) (c1 c2 k1 k2 a b : Nat) (w : World) (h1 : Nb w A1 k1 c1 a) (h2 : Nb w A2 k2 c2 b) (hl1 : k1 ≤ 2097152) (hl2 : k2 ≤ 2097152) :
  Calls Try.prog 81 #[.slice A1 k1 c1, .slice A2 k2 c2] w fun e w' => e = .returned (.int .i64 (Nm.cmpN a b)) ∧ w = w' := by
 have := rcompare_any A1 A2 c1 c2 k1 k2 _ _ w h1.2 h2.2 h1.1 h2.1 hl1 hl2
 rwa [Nm.nv_lb, Nm.nv_lb] at this
theorem rwhole_n (n : Nat) (w : World) (hn : n < 9223372036854775808) :
  Calls Try.prog 91 #[.int .i64 n] w fun e w' => ∃ A k c, e = .returned (.slice A k c) ∧ Nb w' A k c n ∧ Below w.heap.size w w' := by
 refine (rwhole_any n _ w hn rfl).mono ?_; rintro e w' ⟨A, c, rfl, hl, hb⟩; exact ⟨A, _, c, rfl, ⟨rfl, hl⟩, hb⟩
theorem rtrim_n (A : Option Addr) (c k : Nat) (l : List Nat) (w : World) (hr : Lim w A c l) (hk : k = l.length) (hl : k ≤ 2097152) :
  Calls Try.prog 93 #[.slice A k c] w fun e w' => ∃ A' k' c', e = .returned (.slice A' k' c') ∧ Nb w' A' k' c' (Nm.nv l) ∧ Below w.heap.size w w' := by
 refine (rtrim_e A c k _ l w hr hk hl rfl).mono ?_; rintro e w' ⟨A', c', rfl, hl, hb⟩; exact ⟨A', _, c', rfl, ⟨rfl, hl⟩, hb⟩
end Go.Proofs.Yticobffjnjbjiaa
namespace Go.Proofs.Yticobffjnjbjiaa.Nm
theorem B_pow (k : Nat) : B ^ k = 2 ^ (32 * k) := by unfold B; rw [show (4294967296 : Nat) = 2 ^ 32 from rfl, ← Nat.pow_mul]
theorem pow_split (j : Nat) : (2 : Nat) ^ j = B ^ (j / 32) * 2 ^ (j % 32) := by rw [B_pow, ← Nat.pow_add]; congr 1; omega
theorem B_split {r : Nat} (h : r < 32) : ∃ t, B = 2 ^ (r + 1) * t ∧ 0 < t := by
 refine ⟨2 ^ (31 - r), ?_, Nat.pow_pos (by omega)⟩; rw [← Nat.pow_add, show r + 1 + (31 - r) = 32 by omega]; rfl
theorem nv_div (l : List Nat) (hl : Lim l) (k : Nat) : nv l / B ^ k = nv (l.drop k) := by
 have h := nv_split l k; have hp : 0 < B ^ k := Nat.pow_pos B_pos
 have h2 : nv (l.take k) < B ^ k := by
  refine Nat.lt_of_lt_of_le (nv_lt (hl.take k)) (Nat.pow_le_pow_right B_pos ?_); simp only [List.length_take]; exact Nat.min_le_left _ _
 rw [h, Nat.add_mul_div_left _ _ hp, Nat.div_eq_of_lt h2, Nat.zero_add]
theorem nv_bit {l : List Nat} (hl : Lim l) (j : Nat) : l.getD (j / 32) 0 / 2 ^ (j % 32) % 2 = nv l / 2 ^ j % 2 := by
 rw [pow_split j, ← Nat.div_div_eq_div_mul, nv_div l hl, nv_drop' l (j / 32)]; obtain ⟨t, ht, _⟩ := B_split (r := j % 32) (by omega); generalize nv (l.drop (j / 32 + 1)) = D; generalize l.getD (j / 32) 0 = a; rw [ht, Nat.pow_succ, Nat.mul_assoc (2 ^ (j % 32)), Nat.mul_assoc (2 ^ (j % 32)), Nat.add_mul_div_left _ _ (Nat.pow_pos (by omega)), Nat.mul_assoc, Nat.add_mul_mod_self_left]
/-- the state of the bitwise division: the bits from j up are done -/
def QuoR (out : List Nat) (k X Y j R : Nat) : Prop := out.length = k ∧ Lim out ∧ R < Y ∧ ∃ Q, nv out = Q * 2 ^ j ∧ X / 2 ^ j = Q * Y + R
theorem QuoR.start {k X Y : Nat} (hX : X < B ^ k) (hY : 0 < Y) : QuoR (List.replicate k 0) k X Y (32 * k) 0 :=
 ⟨by simp, fun x hx => by rw [(List.mem_replicate.1 hx).2]; exact B_pos, hY, 0, by simp [nv_replicate], by rw [← B_pow, Nat.div_eq_of_lt hX]; simp⟩
theorem half_step (X j : Nat) : X / 2 ^ j = 2 * (X / 2 ^ (j + 1)) + X / 2 ^ j % 2 := by
 rw [Nat.pow_succ, ← Nat.div_div_eq_div_mul]; omega
theorem QuoR.round {out : List Nat} {k X Y j R b : Nat} (h : QuoR out k X Y (j + 1) R) (hb : b = X / 2 ^ j % 2) (hlt : 2 * R + b < Y) : QuoR out k X Y j (2 * R + b) := by
 obtain ⟨h1, h2, h3, Q, h4, h5⟩ := h; refine ⟨h1, h2, hlt, 2 * Q, by rw [h4, Nat.pow_succ]; simp only [Nat.mul_comm, Nat.mul_left_comm, Nat.mul_assoc], ?_⟩; rw [half_step, h5, ← hb, Nat.mul_add, Nat.mul_assoc, Nat.add_assoc]
theorem QuoR.round1 {out : List Nat} {k X Y j R b o : Nat} (h : QuoR out k X Y (j + 1) R) (hb : b = X / 2 ^ j % 2) (hge : Y ≤ 2 * R + b) (hj : j < 32 * k) (ho : o = out.getD (j / 32) 0) :
  o % 2 ^ (j % 32 + 1) = 0 ∧ o + 2 ^ (j % 32) < B ∧ QuoR (out.set (j / 32) (o + 2 ^ (j % 32))) k X Y j (2 * R + b - Y) := by
 obtain ⟨h1, h2, h3, Q, h4, h5⟩ := h; have hob : o < B := by rw [ho]; exact h2.lt _
 have hd := nv_div out h2 (j / 32); rw [h4, Nat.pow_succ, pow_split j, nv_drop' out (j / 32), ← ho] at hd; obtain ⟨t, ht, ht0⟩ := B_split (r := j % 32) (by omega)
 have hz : o % 2 ^ (j % 32 + 1) = 0 := by
  have e : Q * (B ^ (j / 32) * 2 ^ (j % 32) * 2) = B ^ (j / 32) * (2 ^ (j % 32 + 1) * Q) := by
   rw [Nat.pow_succ]; simp only [Nat.mul_comm, Nat.mul_left_comm, Nat.mul_assoc]
  rw [e, Nat.mul_div_cancel_left _ (Nat.pow_pos B_pos)] at hd; have h6 : o = 2 ^ (j % 32 + 1) * Q - B * nv (out.drop (j / 32 + 1)) := by omega
  rw [h6, ht, Nat.mul_assoc, ← Nat.mul_sub, Nat.mul_mod_right]
 have hlt : o + 2 ^ (j % 32) < B := by
  obtain ⟨s, hs⟩ := Nat.dvd_of_mod_eq_zero hz; have hp : 0 < 2 ^ (j % 32) := Nat.pow_pos (by omega); rw [hs, ht] at hob ⊢; have hst : s < t := Nat.lt_of_mul_lt_mul_left hob; have : 2 ^ (j % 32 + 1) * (s + 1) ≤ 2 ^ (j % 32 + 1) * t := Nat.mul_le_mul_left _ hst; rw [Nat.mul_add, Nat.mul_one, Nat.pow_succ] at this; rw [Nat.pow_succ]; omega
 refine ⟨hz, hlt, ?_, ?_, ?_, 2 * Q + 1, ?_, ?_⟩
 ·simp [h1]
 ·intro x hx
  rcases List.mem_or_eq_of_mem_set hx with h | h
  ·exact h2 x h
  ·subst h; exact hlt
 ·have : b < 2 := by omega
  omega
 ·have hjl : j / 32 < out.length := by omega
  have hs := nv_set hjl (o + 2 ^ (j % 32)); rw [← ho, Nat.mul_add, ← pow_split, h4, Nat.pow_succ] at hs; rw [Nat.add_mul, Nat.one_mul]; have e : Q * (2 ^ j * 2) = 2 * Q * 2 ^ j := by simp only [Nat.mul_comm, Nat.mul_left_comm, Nat.mul_assoc]
  rw [e] at hs; omega
 ·have := half_step X j; rw [h5, ← hb, Nat.mul_add, ← Nat.mul_assoc] at this; rw [this, Nat.add_mul, Nat.one_mul]; omega
theorem QuoR.done {out : List Nat} {k X Y R : Nat} (h : QuoR out k X Y 0 R) : nv out = X / Y ∧ R = X % Y := by
 obtain ⟨h1, h2, h3, Q, h4, h5⟩ := h; rw [Nat.pow_zero, Nat.mul_one] at h4; rw [Nat.pow_zero, Nat.div_one] at h5; have hY : 0 < Y := by omega
 rw [h4, h5, Nat.mul_comm Q Y, Nat.mul_add_div hY, Nat.div_eq_of_lt h3, Nat.add_zero, Nat.mul_add_mod, Nat.mod_eq_of_lt h3]; exact ⟨rfl, rfl⟩
/-- the state of the binary greatest common divisor -/
def GcdR (g p q t : Nat) : Prop := 0 < p ∧ 2 ^ t * Nat.gcd p q = g
theorem GcdR.both {g p q t : Nat} (h : GcdR g p q t) (hp : p % 2 = 0) (hq : q % 2 = 0) : GcdR g (p / 2) (q / 2) (t + 1) := by
 obtain ⟨h0, h1⟩ := h; refine ⟨by omega, ?_⟩; rw [← h1, show Nat.gcd p q = Nat.gcd (2 * (p / 2)) (2 * (q / 2)) by congr 1 <;> omega, Nat.gcd_mul_left, Nat.pow_succ, Nat.mul_assoc]
theorem odd_cop {n : Nat} (h : n % 2 = 1) : Nat.Coprime 2 n := by
 unfold Nat.Coprime; rw [Nat.gcd_rec, h]; rfl
theorem GcdR.left {g p q t : Nat} (h : GcdR g p q t) (hp : p % 2 = 0) (hq : q % 2 = 1) : GcdR g (p / 2) q t := by
 obtain ⟨h0, h1⟩ := h; refine ⟨by omega, ?_⟩; rw [← h1]
 congr 1
 have := Nat.Coprime.gcd_mul_left_cancel (p / 2) (odd_cop hq); rw [← this]; congr 1; omega
theorem GcdR.right {g p q t : Nat} (h : GcdR g p q t) (hp : p % 2 = 1) (hq : q % 2 = 0) : GcdR g p (q / 2) t := by
 obtain ⟨h0, h1⟩ := h; refine ⟨h0, ?_⟩; rw [← h1]
 congr 1
 rw [Nat.gcd_comm, Nat.gcd_comm p q]; have := Nat.Coprime.gcd_mul_left_cancel (q / 2) (odd_cop hp); rw [← this]; congr 1; omega
theorem GcdR.sub {g p q t : Nat} (h : GcdR g p q t) (hle : p ≤ q) : GcdR g p (q - p) t := ⟨h.1, by rw [Nat.gcd_sub_self_right hle]; exact h.2⟩
theorem GcdR.swap {g p q t : Nat} (h : GcdR g p q t) (hq : 0 < q) : GcdR g q p t := ⟨hq, by rw [Nat.gcd_comm]; exact h.2⟩
theorem GcdR.done {g p t : Nat} (h : GcdR g p 0 t) : p * 2 ^ t = g := by have := h.2; rw [Nat.gcd_zero_right] at this; rw [Nat.mul_comm]; exact this
end Go.Proofs.Yticobffjnjbjiaa.Nm
namespace Go.Proofs.Yticobffjnjbjiaa
open Go.RowKit
/-- the slice lies in a block from g on -/
def From (g : Nat) (A : Option Addr) : Prop := ∀ b off, A = some ⟨b, off, none⟩ → g ≤ b
theorem Nb.setFar {w : World} {A : Option Addr} {k c n g i : Nat} (h : Nb w A k c n) (hf : From (g + 1) A) (u : Value) : Nb (w.setCell ⟨g, i, none⟩ u) A k c n :=
 ⟨h.1, h.2.only (only_set w i u) (fun b off hA => by have := hf b off hA; omega)⟩
theorem rplus_f (A1 A2 : Option Addr) (c1 c2 k1 k2 a b : Nat) (w : World) (h1 : Nb w A1 k1 c1 a) (h2 : Nb w A2 k2 c2 b) (hl1 : k1 ≤ 1048576) (hl2 : k2 ≤ 1048576) :
  Calls Try.prog 116 #[.slice A1 k1 c1, .slice A2 k2 c2] w fun e w' => ∃ A k c, e = .returned (.slice A k c) ∧ Nb w' A k c (a + b) ∧ From w.heap.size A ∧ Below w.heap.size w w' := by
 refine (rplus_own A1 A2 c1 c2 k1 k2 _ _ w h1.2 h2.2 h1.1 h2.1 hl1 hl2).mono ?_; rintro e w' ⟨A, c, k, rfl, _, ho, hb⟩; rw [Nm.nv_lb, Nm.nv_lb] at ho; obtain ⟨e1, e2, e3⟩ := own_lim2 ho.out (Nm.lim_lb _); exact ⟨A, k, c, rfl, ⟨e1, e2⟩, e3, hb⟩
theorem rminus_f (A1 A2 : Option Addr) (c1 c2 k1 k2 a b : Nat) (w : World) (h1 : Nb w A1 k1 c1 a) (h2 : Nb w A2 k2 c2 b) (hl1 : k1 ≤ 1048576) (hl2 : k2 ≤ 1048576) (hle : b ≤ a) :
  Calls Try.prog 123 #[.slice A1 k1 c1, .slice A2 k2 c2] w fun e w' => ∃ A k c, e = .returned (.slice A k c) ∧ Nb w' A k c (a - b) ∧ From w.heap.size A ∧ Below w.heap.size w w' := by
 refine (rminus_own A1 A2 c1 c2 k1 k2 _ _ w h1.2 h2.2 h1.1 h2.1 hl1 hl2 (by rw [Nm.nv_lb, Nm.nv_lb]; exact hle)).mono ?_; rintro e w' ⟨A, c, k, rfl, _, ho, hb⟩; rw [Nm.nv_lb, Nm.nv_lb] at ho; obtain ⟨e1, e2, e3⟩ := own_lim2 ho.out (Nm.lim_lb _); exact ⟨A, k, c, rfl, ⟨e1, e2⟩, e3, hb⟩
theorem rtrim_f (A : Option Addr) (c k : Nat) (l : List Nat) (w : World) (hr : Lim w A c l) (hk : k = l.length) (hl : k ≤ 2097152) :
  Calls Try.prog 93 #[.slice A k c] w fun e w' => ∃ A' k' c', e = .returned (.slice A' k' c') ∧ Nb w' A' k' c' (Nm.nv l) ∧ From w.heap.size A' ∧ Below w.heap.size w w' := by
 refine (rtrim_own A c k l w hr hk hl).mono ?_; rintro e w' ⟨A', c', k', rfl, hk, ho, hb⟩; obtain ⟨e1, e2, e3⟩ := own_lim2 ho.out (Nm.lim_lb _); exact ⟨A', k', c', rfl, ⟨e1, e2⟩, e3, hb⟩
theorem Nm_dbl {R Y k b : Nat} (h : R < Y) (hY : Y < Nm.B ^ k) (hb : b ≤ 1) : 2 * R + b < Nm.B ^ (k + 1) := by
 rw [Nat.pow_succ]; have : Nm.B ^ k * 2 ≤ Nm.B ^ k * Nm.B := Nat.mul_le_mul_left _ (by unfold Nm.B; omega); generalize Nm.B ^ k = P at *; generalize P * Nm.B = Q at *; omega
theorem bit_val (a r : Nat) (ha : a < 4294967296) : bits .and .u32 ((a : Int) / 2 ^ r) 1 = ((a / 2 ^ r % 2 : Nat) : Int) := by
 have e1 : (a : Int) / 2 ^ r = ((a / 2 ^ r : Nat) : Int) := by rw [Int.natCast_ediv, Int.natCast_pow]; rfl
 have e2 : a / 2 ^ r < 4294967296 := Nat.lt_of_le_of_lt (Nat.div_le_self _ _) ha; rw [e1, show (1 : Int) = ((1 : Nat) : Int) from rfl, u32_and_nat _ _ e2 (by omega), Nat.and_one_is_mod]
theorem bit_or (o r : Nat) (hz : o % 2 ^ (r + 1) = 0) (hlt : o + 2 ^ r < Nm.B) : bits .or .u32 (o : Int) ((2 : Int) ^ r % 4294967296) = ((o + 2 ^ r : Nat) : Int) := by
 have hlt' : o + 2 ^ r < 4294967296 := hlt; have hp : 2 ^ r < 2 ^ (r + 1) := Nat.pow_lt_pow_right (by omega) (by omega)
 have e1 : (2 : Int) ^ r % 4294967296 = ((2 ^ r : Nat) : Int) := by
  have : (2 : Int) ^ r = ((2 ^ r : Nat) : Int) := by rw [Int.natCast_pow]; rfl
  rw [this]; generalize 2 ^ r = q at *; omega
 rw [e1, u32_or_nat _ _ (by omega) (by omega), nat_join (r + 1) _ _ hz hp]
set_option maxRecDepth 10000 in
set_option maxHeartbeats 2000000 in
theorem quotient_n (A1 A2 : Option Addr) (c1 c2 k1 k2 x y : Nat) (w : World) (h1 : Nb w A1 k1 c1 x) (h2 : Nb w A2 k2 c2 y) (hl1 : k1 ≤ 65536) (hl2 : k2 ≤ 65536) (hy : 0 < y) :
  Calls Try.prog 110 #[.slice A1 k1 c1, .slice A2 k2 c2] w fun e w' => ∃ A k c A' k' c', e = .returned (.tuple #[.slice A k c, .slice A' k' c']) ∧ Nb w' A k c (x / y) ∧ Nb w' A' k' c' (x % y) ∧ From w.heap.size A ∧ From w.heap.size A' ∧ Below w.heap.size w w' := by
 have hmk := run_make32 (↑k1) k1 rfl (by omega); have HQ0 : Hid (Nm.QuoR (List.replicate k1 0) k1 x y (32 * k1) 0) := Nm.QuoR.start h1.lt hy; have E1 := Lib.hid h1.1; have h1l := h1.2
 go_enter Try.func110, Try.ntmps110
 go_wp2
 go_loopg [7, 8] (32 * k1) (fun j r a wr => ∃ (R k c : Nat) (A : Option Addr) (out : List Nat), r = .slice A k c ∧ a = .int .i64 ((j : Int) - 1) ∧ j ≤ 32 * k1 ∧ Nb wr A k c R ∧ Row wr w.heap.size out ∧ Hid (Nm.QuoR out k1 x y j R) ∧ Below w.heap.size w wr ∧ From (w.heap.size + 1) A)
 case atStart => exact ⟨0, 0, 0, none, _, rfl, by congr 1, by omega, Nb.zero _, Row.new w k1, HQ0, bA w _, fun _ _ h => by cases h⟩
 case round =>
  obtain ⟨R, k, c, A, out, rfl, rfl, hj, hR, hrow, HQ, hb, hF⟩ := hrel
  rcases gk with _ | j
  ·have hlen := HQ.out.1; have hout := hrow.lim (c := k1) (by omega) (by omega); have HQD := Lib.hid HQ.out.done; have HLN := Lib.hid hlen.symm; clear hlen; go_wp2_with fail; refine (rtrim_f _ _ _ out _ hout HLN.out (by omega)).mono ?_; rintro e w' ⟨A', k', c', rfl, hnb, hfr, hb'⟩; go_wp2_with fail
   go_ret2
   have e1 := HQD.out.1; have e2 := HQD.out.2; rw [e1] at hnb; rw [e2] at hR; exact ⟨A', k', c', A, k, c, rfl, hnb, hR.below hb', fun b off hA => Nat.le_trans hb.size (hfr b off hA), fun b off hA => by have := hF b off hA; omega, Below.tr hb hb'⟩
  ·have hx := h1l.below hb; obtain ⟨b, off, a, rfl, hca, ha, HA⟩ := hx.get (k := j / 32) (by have := E1.out; omega); have t1 : ((j : Int) / 32).toNat = j / 32 := by omega
   have t2 : (0 : Int) ≤ (j : Int) / 32 := by omega
   have t3 : (j : Int) / 32 < (k1 : Int) := by omega
   have hRl : k ≤ 65536 := by
    have h3 := HQ.out.2.2.1; have : R < Nm.B ^ k2 := Nat.lt_trans h3 h2.lt; have := hR.lek this; omega
   obtain ⟨bt, HBT⟩ : ∃ bt, Hid (bt = x / 2 ^ j % 2) := ⟨_, rfl⟩; have hbt : bt ≤ 1 := by have := HBT.out; omega
   have tb : bits .and .u32 ((a : Int) / 2 ^ (j % 32)) 1 = (bt : Int) := by
    rw [bit_val a _ ha, HA.out, HBT.out, Nm.nv_bit (Nm.lim_lb x), Nm.nv_lb]
   go_wp2_with fail; refine (rplus_n _ _ _ _ _ _ R R _ hR hR (by omega) (by omega)).mono ?_; rintro e w1 ⟨A3, k3, c3, rfl, hR3, hb3⟩; clear tb; go_wp2_with fail; refine (rwhole_n bt _ (by omega)).mono ?_; rintro e w2 ⟨A4, k4, c4, rfl, hb4, hbe4⟩; have hk3 : k3 ≤ k2 + 1 := hR3.lek (by have := Nm_dbl (b := 0) HQ.out.2.2.1 h2.lt (by omega); rwa [show R + R = 2 * R + 0 by omega]); have hk4 : k4 ≤ 1 := hb4.lek (by unfold Nm.B; omega); go_wp2_with fail; refine (rplus_f _ _ _ _ _ _ (R + R) bt _ (hR3.below hbe4) hb4 (by omega) (by omega)).mono ?_; rintro e w3 ⟨A5, k5, c5, rfl, hR5, hF5, hb5⟩
   have hgw : w.heap.size + 1 ≤ w2.heap.size := by
    have h1 : w.heap.size < wr.heap.size := hrow.1.lt; have h2 := hb3.size; have h3 := hbe4.size; omega
   have hG5 : From (w.heap.size + 1) A5 := fun b off hA => Nat.le_trans hgw (hF5 b off hA)
   obtain ⟨R5, HR5⟩ : ∃ R5, Hid (R5 = 2 * R + bt) := ⟨_, rfl⟩; have e5 : R + R + bt = R5 := by rw [HR5.out]; omega
   rw [e5] at hR5; have hk5 : k5 ≤ k2 + 1 := hR5.lek (by rw [HR5.out]; exact Nm_dbl HQ.out.2.2.1 h2.lt hbt); have hB5 := Below.tr hb (Below.tr hb3 (Below.tr hbe4 hb5)); go_wp2_with fail; by_cases hge : y ≤ R5
   ·have HC : ∃ c : Int, 0 ≤ c ∧ Hid (Nm.cmpN R5 y = c) := by
     by_cases h : R5 = y
     ·exact ⟨0, by omega, Nm.cmpN_eq h⟩
     ·exact ⟨1, by omega, Nm.cmpN_gt (by omega)⟩
    obtain ⟨cc, hcc, HC⟩ := HC; refine (rcompare_n _ _ _ _ _ _ R5 y _ hR5 (h2.below hB5) (by omega) (by omega)).mono ?_; rw [HC.out]; rintro e w' ⟨rfl, rfl⟩; go_wp2_with fail; refine (rminus_f _ _ _ _ _ _ R5 y _ hR5 (h2.below hB5) (by omega) (by omega) hge).mono ?_; rintro e w4 ⟨A6, k6, c6, rfl, hR6, hF6, hb6⟩; have hG6 : From (w.heap.size + 1) A6 := fun b off hA => Nat.le_trans (Nat.le_trans hgw hb5.size) (hF6 b off hA)
    have hB6 := Below.tr hB5 hb6; have hrow6 := hrow.below (Below.tr hb3 (Below.tr hbe4 (Below.tr hb5 hb6))); obtain ⟨o, hco, hfo, hoo, HO⟩ := hrow6.get (k := j / 32) (by have := HQ.out.1; omega); obtain ⟨hz, hlt, hQ1⟩ := HQ.out.round1 HBT.out (by rw [← HR5.out]; exact hge) (by omega) HO.out; rw [← HR5.out] at hQ1; have HQ1 := Lib.hid hQ1; clear hQ1 hR5 hb3 hbe4 hb5 hb6; go_wp2_with fail
    go_roundg j
    case measure => omega
    case rel =>
     rw [bit_or o _ hz hlt]; exact ⟨R5 - y, k6, c6, A6, _, rfl, rfl, by omega, hR6.setFar hG6 _, hrow6.set_ _ _ hlt, HQ1, hB6.setCell (Nat.le_refl _) _, hG6⟩
   ·have HC : Hid (Nm.cmpN R5 y = -1) := Nm.cmpN_lt (by omega); have hQ1 := HQ.out.round HBT.out (by rw [← HR5.out]; omega); rw [← HR5.out] at hQ1; have HQ1 := Lib.hid hQ1; have hrow5 := hrow.below (Below.tr hb3 (Below.tr hbe4 hb5)); refine (rcompare_n _ _ _ _ _ _ R5 y _ hR5 (h2.below hB5) (by omega) (by omega)).mono ?_; rw [HC.out]; rintro e w' ⟨rfl, rfl⟩; clear hQ1; go_wp2_with fail
    go_roundg j
    case measure => omega
    case rel => exact ⟨R5, k5, c5, A5, out, rfl, rfl, by omega, hR5, hrow5, HQ1, hB5, hG5⟩
end Go.Proofs.Yticobffjnjbjiaa
namespace Go.Proofs.Yticobffjnjbjiaa
open Go.RowKit
/-- two rows of the call's own do not lie in one block -/
def Apart (A B : Option Addr) : Prop := ∀ g g', A = some ⟨g, 0, none⟩ → B = some ⟨g', 0, none⟩ → g ≠ g'
theorem Apart.symm {A B : Option Addr} (h : Apart A B) : Apart B A := fun g g' h1 h2 e => h g' g h2 h1 e.symm
theorem Own.zeroOff {w : World} {base k c : Nat} {A : Option Addr} {l : List Nat} (h : Own w base A k c l) : A = none ∨ ∃ g, A = some ⟨g, 0, none⟩ ∧ base ≤ g := by
 rcases h.1.2 with ⟨h0, h1⟩ | ⟨g, cap, cur, hv, hb, _⟩
 ·injection h0 with e1; exact .inl e1
 ·injection hv with e1; exact .inr ⟨g, e1, hb⟩
theorem Own.other {w w' : World} {base base2 ka ca kb cb : Nat} {A B : Option Addr} {la lb : List Nat} (hb : Own w base B kb cb lb) (ha : Own w base2 A ka ca la) (hg : w.grownBy w' (Value.ownBlock (.slice A ka ca))) (hap : Apart A B) : Own w' base B kb cb lb := by
 refine hb.keep fun g hB => hg.block g (hb.lt g hB) fun e => ?_
 rcases ha.zeroOff with rfl | ⟨g', rfl, _⟩
 ·simp [Value.ownBlock] at e
 ·simp [Value.ownBlock] at e; exact hap g' g rfl hB e.symm
theorem Own.grown {w w' w0 : World} {base ka ca : Nat} {A : Option Addr} {la : List Nat} (ha : Own w base A ka ca la) (h : Below base w0 w) (hw : base ≤ w.heap.size) (hg : w.grownBy w' (Value.ownBlock (.slice A ka ca))) : Below base w0 w' := by
 refine h.grown hg hw fun k hk => ?_
 rcases ha.zeroOff with rfl | ⟨g', rfl, hb⟩
 ·simp [Value.ownBlock] at hk
 ·simp [Value.ownBlock] at hk; omega
theorem odd_t (A : Option Addr) (base c k n : Nat) (w : World) (h : Own w base A k c (Nm.lb n)) (ho : n % 2 = 1) :
  Calls Try.prog 113 #[.slice A k c] w fun e w' => e = .returned (.bool true) ∧ w = w' := by
 have := odd_any A c k _ w h.lim h.len; rw [Nm.nv_lb, show oddB n = true by simp [oddB, ho]] at this; exact this
theorem odd_f (A : Option Addr) (base c k n : Nat) (w : World) (h : Own w base A k c (Nm.lb n)) (ho : n % 2 = 0) :
  Calls Try.prog 113 #[.slice A k c] w fun e w' => e = .returned (.bool false) ∧ w = w' := by
 have := odd_any A c k _ w h.lim h.len; rw [Nm.nv_lb, show oddB n = false by simp [oddB, ho]] at this; exact this
theorem half_n (A : Option Addr) (base c k n : Nat) (w : World) (ho : Own w base A k c (Nm.lb n)) (hk : k ≤ 2097152) :
  Calls Try.prog 114 #[.slice A k c] w fun e w' => ∃ k', e = .returned (.slice A k' c) ∧ k' ≤ k ∧ Own w' base A k' c (Nm.lb (n / 2)) ∧ w.grownBy w' (Value.ownBlock (.slice A k c)) := by
 have := half_own A base c k _ w ho hk
 rwa [Nm.nv_lb] at this
theorem rtrim_o (A : Option Addr) (c k n : Nat) (w : World) (hr : Nb w A k c n) (hl : k ≤ 2097152) :
  Calls Try.prog 93 #[.slice A k c] w fun e w' => ∃ A' k' c', e = .returned (.slice A' k' c') ∧ k' ≤ k ∧ Own w' w.heap.size A' k' c' (Nm.lb n) ∧ Below w.heap.size w w' := by
 refine (rtrim_own A c k _ w hr.2 hr.1 hl).mono ?_; rintro e w' ⟨A', c', k', rfl, hk, ho, hb⟩; rw [Nm.nv_lb] at ho; exact ⟨A', k', c', rfl, hk, ⟨ho.out, Nm.lim_lb _⟩, hb⟩
/-- two numbers in rows of the call's own -/
structure Two (w0 w : World) (A B : Option Addr) (ka ca kb cb p q : Nat) : Prop where
 a : Own w w0.heap.size A ka ca (Nm.lb p)
 b : Own w w0.heap.size B kb cb (Nm.lb q)
 ap : Apart A B
 la : ka ≤ 65536
 lb : kb ≤ 65536
 be : Below w0.heap.size w0 w
theorem Two.size {w0 w : World} {A B : Option Addr} {ka ca kb cb p q : Nat} (h : Two w0 w A B ka ca kb cb p q) : w0.heap.size ≤ w.heap.size := h.be.size
theorem Two.left {w0 w w' : World} {A B : Option Addr} {ka ca kb cb p q ka' p' : Nat} (h : Two w0 w A B ka ca kb cb p q) (ha : Own w' w0.heap.size A ka' ca (Nm.lb p')) (hk : ka' ≤ ka) (hg : w.grownBy w' (Value.ownBlock (.slice A ka ca))) : Two w0 w' A B ka' ca kb cb p' q :=
 ⟨ha, h.b.other h.a hg h.ap, h.ap, Nat.le_trans hk h.la, h.lb, h.a.grown h.be h.size hg⟩
theorem Two.swap {w0 w : World} {A B : Option Addr} {ka ca kb cb p q : Nat} (h : Two w0 w A B ka ca kb cb p q) : Two w0 w B A kb cb ka ca q p := ⟨h.b, h.a, h.ap.symm, h.lb, h.la, h.be⟩
theorem Two.right {w0 w w' : World} {A B : Option Addr} {ka ca kb cb p q kb' q' : Nat} (h : Two w0 w A B ka ca kb cb p q) (hb : Own w' w0.heap.size B kb' cb (Nm.lb q')) (hk : kb' ≤ kb) (hg : w.grownBy w' (Value.ownBlock (.slice B kb cb))) : Two w0 w' A B ka ca kb' cb p q' :=
 (h.swap.left hb hk hg).swap
theorem Two.posb {w0 w : World} {A B : Option Addr} {ka ca kb cb p q : Nat} (h : Two w0 w A B ka ca kb cb p q) (hq : 0 < q) : 0 < kb := by
 rcases Nat.eq_zero_or_pos kb with h0 | h0
 ·have := h.b.len; rw [h0] at this; have := List.eq_nil_of_length_eq_zero this.symm; rw [Nm.lb_nil_iff] at this; omega
 ·exact h0
theorem Two.zerob {w0 w : World} {A B : Option Addr} {ka ca kb cb p : Nat} (h : Two w0 w A B ka ca kb cb p 0) : kb = 0 := by have := h.b.len; simpa [Nm.lb_zero] using this
theorem Two.bd {w0 w : World} {A B : Option Addr} {ka ca kb cb p q : Nat} (h : Two w0 w A B ka ca kb cb p q) : ka ≤ 9223372036854775807 ∧ kb ≤ 9223372036854775807 ∧ ka ≤ ca ∧ ca ≤ 9223372036854775807 := by
 have h1 := h.la; have h2 := h.lb; have h3 := h.a.lim.2.1; have h4 := h.a.lim.2.2.1; have h5 := h.a.len; omega
theorem tw_lt {g p q t X k : Nat} (h : Nm.GcdR g p q t) (hg : g ≤ X) (hX : X < Nm.B ^ k) : t < 32 * k := by
 have h1 : 2 ^ t ≤ g := by
  rw [← h.2]; exact Nat.le_mul_of_pos_right _ (Nat.gcd_pos_of_pos_left _ h.1)
 have h2 : 2 ^ t < 2 ^ (32 * k) := by rw [← Nm.B_pow]; exact Nat.lt_of_le_of_lt (Nat.le_trans h1 hg) hX
 exact (Nat.pow_lt_pow_iff_right (by omega)).1 h2
theorem take_n (w0 : World) (A B : Option Addr) (ka ca kb cb p q : Nat) (w : World) (_n : Nat) (h : Two w0 w A B ka ca kb cb p q) (hle : q ≤ p) :
  Calls Try.prog 115 #[.slice A ka ca, .slice B kb cb] w fun e w' => ∃ n, e = .returned (.slice A n ca) ∧ Two w0 w' A B n ca kb cb (p - q) q := by
 have h1 := h.la; have h2 := h.lb; refine (take_own A B w0.heap.size ca ka cb kb _ _ w h.a h.b.lim h.b.len (by omega) (by omega) (by rw [Nm.nv_lb, Nm.nv_lb]; exact hle) ?_).mono ?_
 ·intro b off g hB hA
  rcases h.b.zeroOff with h4 | ⟨g2, h4, h5⟩ <;> rw [h4] at hB
  ·cases hB
  ·injection hB with e1; injection e1 with e1 e2; subst e1; exact fun e => h.ap g _ hA h4 e.symm
 ·rintro e w' ⟨n, rfl, hn, ho, hg⟩; rw [Nm.nv_lb, Nm.nv_lb] at ho; exact ⟨n, rfl, h.left ho hn hg⟩
set_option maxRecDepth 10000 in
set_option maxHeartbeats 2000000 in
theorem rcommon_n (A1 A2 : Option Addr) (c1 c2 k1 k2 x y : Nat) (w : World) (h1 : Nb w A1 k1 c1 x) (h2 : Nb w A2 k2 c2 y) (hl1 : k1 ≤ 65536) (hl2 : k2 ≤ 65536) (hx : 0 < x) :
  Calls Try.prog 104 #[.slice A1 k1 c1, .slice A2 k2 c2] w fun e w' => ∃ A k c, e = .returned (.slice A k c) ∧ Nb w' A k c (Nat.gcd x y) ∧ Below w.heap.size w w' := by
 obtain ⟨g, HG⟩ : ∃ g, Hid (g = Nat.gcd x y) := ⟨_, rfl⟩; have hgx : g ≤ x := by rw [HG.out]; exact Nat.gcd_le_left _ hx
 go_enter Try.func104, Try.ntmps104
 go_wp2_with fail; refine (rtrim_o _ _ _ x _ h1 (by omega)).mono ?_; rintro e w1 ⟨Aa, ka, ca, rfl, hka, hoa, hb1⟩; go_wp2_with fail; refine (rtrim_o _ _ _ y _ (h2.below hb1) (by omega)).mono ?_; rintro e w2 ⟨Ab, kb, cb, rfl, hkb, hob, hb2⟩
 have H0 : Two w w2 Aa Ab ka ca kb cb x y :=
  ⟨hoa.below hb2, hob.base_ hb1.size, fun g g' hA hB => by have h3 := hoa.lt g hA; rcases hob.zeroOff with h4 | ⟨g2, h4, h5⟩ <;> rw [h4] at hB <;> simp at hB; omega, by omega, by omega, Below.tr hb1 hb2⟩
 have HR0 : Hid (Nm.GcdR g x y 0) := ⟨hx, by rw [HG.out]; simp⟩; clear hoa hob hb1 hb2 hka hkb; have hk1 := h1.lt
 go_upto_block 0 with fail
 go_cut [5, 6, 7] from 14 (fun u a b wx => ∃ (t p q ka kb : Nat), u = .int .i64 t ∧ a = .slice Aa ka ca ∧ b = .slice Ab kb cb ∧ Two w wx Aa Ab ka ca kb cb p q ∧ Hid (Nm.GcdR g p q t) ∧ Hid (q = 0 ∨ p % 2 = 1 ∨ q % 2 = 1))
 case first => as_aux_lemma =>
  go_wp2_with fail
  go_loopg [5, 6, 7] (x + y) (fun j u a b wx => ∃ (t p q ka kb : Nat), u = .int .i64 t ∧ a = .slice Aa ka ca ∧ b = .slice Ab kb cb ∧ Two w wx Aa Ab ka ca kb cb p q ∧ Hid (Nm.GcdR g p q t) ∧ p + q = j)
  case atStart => exact ⟨0, x, y, ka, kb, rfl, rfl, rfl, H0, HR0, rfl⟩
  case round =>
   obtain ⟨t, p, q, ka, kb, rfl, rfl, rfl, HT, HR, rfl⟩ := hrel; obtain ⟨l1, l2, l3, l4⟩ := HT.bd; have hla := HT.la; have hlb := HT.lb; by_cases hq : 0 < q
   ·have hkb := HT.posb hq; by_cases hp2 : p % 2 = 1
    ·have HX : Hid (q = 0 ∨ p % 2 = 1 ∨ q % 2 = 1) := .inr (.inl hp2); have HP2 := Lib.hid hp2; clear hp2; go_wp2_with fail; refine (odd_t _ _ _ _ p _ HT.a HP2.out).mono ?_; rintro e w' ⟨rfl, rfl⟩; go_wp2_with fail
     go_meet
     case rel => exact ⟨t, p, q, ka, kb, rfl, rfl, rfl, HT, HR, HX⟩
    ·have HP2 := Lib.hid (show p % 2 = 0 by omega); clear hp2; by_cases hq2 : q % 2 = 1
     ·have HX : Hid (q = 0 ∨ p % 2 = 1 ∨ q % 2 = 1) := .inr (.inr hq2); have HQ2 := Lib.hid hq2; clear hq2; go_wp2_with fail; refine (odd_f _ _ _ _ p _ HT.a HP2.out).mono ?_; rintro e w' ⟨rfl, rfl⟩; go_wp2_with fail; refine (odd_t _ _ _ _ q _ HT.b HQ2.out).mono ?_; rintro e w' ⟨rfl, rfl⟩; go_wp2_with fail
      go_meet
      case rel => exact ⟨t, p, q, ka, kb, rfl, rfl, rfl, HT, HR, HX⟩
     ·have HQ2 := Lib.hid (show q % 2 = 0 by omega); clear hq2; have ht := tw_lt HR.out hgx hk1; go_wp2_with fail; refine (odd_f _ _ _ _ p _ HT.a HP2.out).mono ?_; rintro e w' ⟨rfl, rfl⟩; go_wp2_with fail; refine (odd_f _ _ _ _ q _ HT.b HQ2.out).mono ?_; rintro e w' ⟨rfl, rfl⟩; go_wp2_with fail; refine (half_n _ _ _ _ p _ HT.a (by omega)).mono ?_; rintro e w3 ⟨ka', rfl, hka, hoa, hga⟩; have HT3 := HT.left hoa hka hga; go_wp2_with fail; refine (half_n _ _ _ _ q _ HT3.b (by omega)).mono ?_; rintro e w4 ⟨kb', rfl, hkb', hob, hgb⟩; have HT4 := HT3.right hob hkb' hgb; have HR4 := HR.out.both HP2.out HQ2.out; have hsum : p / 2 + q / 2 < p + q := by omega
      go_wp2_with fail
      go_roundg (p / 2 + q / 2)
      case measure => exact hsum
      case rel => exact ⟨t + 1, p / 2, q / 2, ka', kb', by go_num, rfl, rfl, HT4, HR4, rfl⟩
   ·obtain rfl : q = 0 := by omega
    obtain rfl : kb = 0 := HT.zerob; go_wp2_with fail
    go_meet
    case rel => exact ⟨t, p, 0, ka, 0, rfl, rfl, rfl, HT, HR, .inl rfl⟩
 case rest => as_aux_lemma =>
  clear H0 HR0; obtain ⟨t, p, q, ka, kb, rfl, rfl, rfl, H1, HR1, HX1⟩ := hcut; have ht := tw_lt HR1.out hgx hk1; go_wp2_with fail
  go_loopg [6, 7] (p + q) (fun j a b wx => ∃ (Aa Ab : Option Addr) (ka ca kb cb p q : Nat), a = .slice Aa ka ca ∧ b = .slice Ab kb cb ∧ Two w wx Aa Ab ka ca kb cb p q ∧ Hid (Nm.GcdR g p q t) ∧ Hid (q = 0 ∨ p % 2 = 1 ∨ q % 2 = 1) ∧ p + q = j)
  case atStart => exact ⟨Aa, Ab, ka, ca, kb, cb, p, q, rfl, rfl, H1, HR1, HX1, rfl⟩
  case round =>
   clear HX1 H1 HR1; obtain ⟨Aa, Ab, ka, ca, kb, cb, p, q, rfl, rfl, H1, HR1, HX1, hj⟩ := hrel; obtain ⟨gj, hgj⟩ : ∃ gj, gj = gk := ⟨_, rfl⟩; subst hgj; have HJ := Lib.hid hj; clear hj; by_cases hq : 0 < q
   ·have hkb := H1.posb hq; have HX2 : Hid (p % 2 = 1 ∨ q % 2 = 1) := by rcases HX1.out with h | h; omega; exact h
    clear HX1; obtain ⟨l1, l2, l3, l4⟩ := H1.bd; go_wp2_with fail
    go_loopg [6] p (fun j a wx => ∃ (ka' p' : Nat), a = .slice Aa ka' ca ∧ Two w wx Aa Ab ka' ca kb cb p' q ∧ Hid (Nm.GcdR g p' q t) ∧ Hid (p' % 2 = 1 ∨ q % 2 = 1) ∧ p' ≤ p ∧ p' = j)
    case atStart => exact ⟨ka, p, rfl, H1, HR1, HX2, Nat.le_refl _, rfl⟩
    case round =>
     clear H1 HR1 HX2; obtain ⟨ka', p', rfl, H1, HR1, HX2, hpp, rfl⟩ := hrel; have hp0 := HR1.out.1; have hla := H1.la; by_cases hp2 : p' % 2 = 1
     ·have HP2 := Lib.hid hp2; clear hp2 HX2; go_wp2_with fail; refine (odd_t _ _ _ _ p' _ H1.a HP2.out).mono ?_; rintro e w' ⟨rfl, rfl⟩; go_wp2_with fail
      go_loopg [7] q (fun j b wx => ∃ (kb' q' : Nat), b = .slice Ab kb' cb ∧ Two w wx Aa Ab ka' ca kb' cb p' q' ∧ Hid (Nm.GcdR g p' q' t) ∧ 0 < q' ∧ q' ≤ q ∧ q' = j)
      case atStart => exact ⟨kb, q, rfl, H1, HR1, hq, Nat.le_refl _, rfl⟩
      case round =>
       clear H1 HR1; obtain ⟨kb', q', rfl, H1, HR1, hq0, hqq, rfl⟩ := hrel; have hlb := H1.lb; by_cases hq2 : q' % 2 = 1
       ·have HQ2 := Lib.hid hq2; clear hq2; go_wp2_with fail; refine (odd_t _ _ _ _ q' _ H1.b HQ2.out).mono ?_; rintro e w' ⟨rfl, rfl⟩; by_cases hle : p' ≤ q'
        ·have HC : ∃ c : Int, c ≤ 0 ∧ Hid (Nm.cmpN p' q' = c) := by
          by_cases h : p' = q'
          ·exact ⟨0, by omega, Nm.cmpN_eq h⟩
          ·exact ⟨-1, by omega, Nm.cmpN_lt (by omega)⟩
         obtain ⟨cc, hcc, HC⟩ := HC; go_wp2_with fail; refine (rcompare_n _ _ _ _ _ _ p' q' _ H1.a.nb H1.b.nb (by omega) (by omega)).mono ?_; rw [HC.out]; rintro e w' ⟨rfl, rfl⟩; go_wp2_with fail; refine (take_n _ _ _ _ _ _ _ _ _ _ 0 H1.swap hle).mono ?_; rintro e w3 ⟨n, rfl, HT3⟩; have HR3 := HR1.out.sub hle; have hsum : p' + (q' - p') < gj := by have := HJ.out; omega
         go_wp2_with fail
         go_roundg (p' + (q' - p'))
         case measure => exact hsum
         case rel => exact ⟨Aa, Ab, ka', ca, n, cb, p', q' - p', rfl, rfl, HT3.swap, HR3, .inr (.inl HP2.out), rfl⟩
        ·have HC : Hid (Nm.cmpN p' q' = 1) := Nm.cmpN_gt (by omega); go_wp2_with fail; refine (rcompare_n _ _ _ _ _ _ p' q' _ H1.a.nb H1.b.nb (by omega) (by omega)).mono ?_; rw [HC.out]; rintro e w' ⟨rfl, rfl⟩; go_wp2_with fail; refine (take_n _ _ _ _ _ _ _ _ _ _ 0 H1 (by omega)).mono ?_; rintro e w3 ⟨n, rfl, HT3⟩; have HR3 := (HR1.out.swap hq0).sub (by omega); have hsum : q' + (p' - q') < gj := by have := HJ.out; omega
         go_wp2_with fail
         go_roundg (q' + (p' - q'))
         case measure => exact hsum
         case rel => exact ⟨Ab, Aa, kb', cb, n, ca, q', p' - q', rfl, rfl, HT3.swap, HR3, .inr (.inl HQ2.out), rfl⟩
       ·have HQ2 := Lib.hid (show q' % 2 = 0 by omega); clear hq2; go_wp2_with fail; refine (odd_f _ _ _ _ q' _ H1.b HQ2.out).mono ?_; rintro e w' ⟨rfl, rfl⟩; go_wp2_with fail; refine (half_n _ _ _ _ q' _ H1.b (by omega)).mono ?_; rintro e w3 ⟨kb2, rfl, hkb2, hob, hgb⟩; have HT3 := H1.right hob hkb2 hgb; have HR3 := HR1.out.right HP2.out HQ2.out; have hq3 : 0 < q' / 2 := by have := HQ2.out; omega
        have hq4 : q' / 2 < q' := by omega
        go_wp2_with fail
        go_roundg (q' / 2)
        case measure => exact hq4
        case rel => exact ⟨kb2, q' / 2, rfl, HT3, HR3, hq3, by omega, rfl⟩
     ·have HP2 := Lib.hid (show p' % 2 = 0 by omega); have hqo : q % 2 = 1 := by rcases HX2.out with h | h; exact absurd h hp2; exact h
      have HQ2 := Lib.hid hqo; clear hp2 hqo HX2; go_wp2_with fail; refine (odd_f _ _ _ _ p' _ H1.a HP2.out).mono ?_; rintro e w' ⟨rfl, rfl⟩; go_wp2_with fail; refine (half_n _ _ _ _ p' _ H1.a (by omega)).mono ?_; rintro e w3 ⟨ka2, rfl, hka2, hoa, hga⟩; have HT3 := H1.left hoa hka2 hga; have HR3 := HR1.out.left HP2.out HQ2.out; have hq4 : p' / 2 < p' := by omega
      go_wp2_with fail
      go_roundg (p' / 2)
      case measure => exact hq4
      case rel => exact ⟨ka2, p' / 2, rfl, HT3, HR3, .inr HQ2.out, by omega, rfl⟩
   ·obtain rfl : q = 0 := by omega
    obtain rfl : kb = 0 := H1.zerob; have HG2 := Lib.hid HR1.out.done; have hnb := H1.a.nb; have hbe := H1.be; clear HX1 HR1 H1 HJ; go_wp2_with fail
    go_loopg [6, 9] t (fun j a i wx => ∃ (A : Option Addr) (k c n : Nat), a = .slice A k c ∧ i = .int .i64 n ∧ Nb wx A k c (p * 2 ^ n) ∧ n + j = t ∧ Below w.heap.size w wx)
    case atStart => exact ⟨Aa, ka, ca, 0, rfl, rfl, by rw [Nat.pow_zero, Nat.mul_one]; exact hnb, by omega, hbe⟩
    case round =>
     clear hnb hbe; obtain ⟨A, k, c, n, rfl, rfl, hnb, hn, hbe⟩ := hrel; by_cases hlt : n < t
     ·have hk : k ≤ k1 := hnb.lek (Nat.lt_of_le_of_lt (Nat.le_trans (Nat.mul_le_mul_left p (Nat.pow_le_pow_right (by omega) (Nat.le_of_lt hlt))) (by rw [HG2.out]; exact hgx)) hk1); go_wp2_with fail; refine (rplus_n _ _ _ _ _ _ _ _ _ hnb hnb (by omega) (by omega)).mono ?_; rintro e w3 ⟨A3, k3, c3, rfl, hn3, hb3⟩; have e3 : p * 2 ^ n + p * 2 ^ n = p * 2 ^ (n + 1) := by rw [Nat.pow_succ, ← Nat.mul_assoc]; omega
      rw [e3] at hn3; clear e3; go_wp2_with fail
      go_roundg (gk - 1)
      case measure => omega
      case rel => exact ⟨A3, k3, c3, n + 1, rfl, by go_num, hn3, by omega, Below.tr hbe hb3⟩
     ·obtain rfl : t = n := by omega
      rw [HG2.out, HG.out] at hnb; go_wp2_with fail; go_ret; exact ⟨A, k, c, rfl, hnb, hbe⟩
end Go.Proofs.Yticobffjnjbjiaa
namespace Go.Proofs.Yticobffjnjbjiaa
open Go.RowKit
namespace Nm
def dn (q : Nat) : Nat := if q = 1 then 0 else q
def Fits (p q : Nat) : Prop := (lb p).length ≤ 64 ∧ (lb (dn q)).length ≤ 64
theorem dn_one : dn 1 = 0 := rfl
theorem dn_ne {q : Nat} (h : q ≠ 1) : dn q = q := if_neg h
end Nm
/-- the value is the ratio p/q, in lowest form -/
def Rat (w : World) (v : Value) (p q : Nat) : Prop := ∃ A1 k1 c1 A2 k2 c2, v = .agg #[.slice A1 k1 c1, .slice A2 k2 c2] ∧ Nb w A1 k1 c1 p ∧ Nb w A2 k2 c2 (Nm.dn q)
def nilRat : Value := .agg #[.slice none 0 0, .slice none 0 0]
/-- what a function says that makes a ratio of two numbers: the ratio in lowest form, or that it does not fit -/
def RedP (w : World) (v : Value) (er : Int) (n d : Nat) : Prop :=
 (Nm.Fits (n / Nat.gcd n d) (d / Nat.gcd n d) ∧ er = 0 ∧ Rat w v (n / Nat.gcd n d) (d / Nat.gcd n d)) ∨ (¬ Nm.Fits (n / Nat.gcd n d) (d / Nat.gcd n d) ∧ er = 4 ∧ v = nilRat)
theorem Rat.below {w w' : World} {v : Value} {p q : Nat} (h : Rat w v p q) (hb : Below w.heap.size w w') : Rat w' v p q := by
 obtain ⟨A1, k1, c1, A2, k2, c2, rfl, h1, h2⟩ := h; exact ⟨A1, k1, c1, A2, k2, c2, rfl, h1.below hb, h2.below hb⟩
theorem RedP.below {w w' : World} {v : Value} {er : Int} {n d : Nat} (h : RedP w v er n d) (hb : Below w.heap.size w w') : RedP w' v er n d := by
 rcases h with ⟨h1, h2, h3⟩ | h
 ·exact .inl ⟨h1, h2, h3.below hb⟩
 ·exact .inr h
/-- the slice does not lie in block g -/
def Off (g : Nat) (A : Option Addr) : Prop := ∀ b off, A = some ⟨b, off, none⟩ → b ≠ g
theorem Nb.pos {w : World} {A : Option Addr} {k c n : Nat} (h : Nb w A k c n) (hn : 0 < n) : 0 < k := by
 rcases Nat.eq_zero_or_pos k with h0 | h0
 ·have := h.1; rw [h0] at this; have := List.eq_nil_of_length_eq_zero this.symm; rw [Nm.lb_nil_iff] at this; omega
 ·exact h0
theorem Nb.in_ {w : World} {A : Option Addr} {k c n : Nat} (h : Nb w A k c n) (hn : 0 < n) : ∀ b off, A = some ⟨b, off, none⟩ → b < w.heap.size := by
 intro b off hA; obtain ⟨b', off', hA', hc⟩ := h.2.at_ (k := 0) (by rw [← h.1]; exact h.pos hn); rw [hA'] at hA; injection hA with hA; injection hA with e1 e2; subst e1; exact cell_lt (hc 0 (by rw [← h.1]; exact h.pos hn))
theorem Nb.offSet {w : World} {A : Option Addr} {k c n g i : Nat} (h : Nb w A k c n) (hf : Off g A) (u : Value) : Nb (w.setCell ⟨g, i, none⟩ u) A k c n :=
 ⟨h.1, h.2.only (only_set w i u) hf⟩
theorem Off.none (g : Nat) : Off g none := fun _ _ h => by cases h
theorem Nb.kzero {w : World} {A : Option Addr} {k c : Nat} (h : Nb w A k c 0) : k = 0 := by have := h.1; simpa [Nm.lb_zero] using this
theorem rone_t (A : Option Addr) (c k n : Nat) (w : World) (h : Nb w A k c n) (hn : n = 1) :
  Calls Try.prog 103 #[.slice A k c] w fun e w' => e = .returned (.bool true) ∧ w = w' := by
 have := rone_any A c k _ w h.2 h.1; subst hn
 rwa [Nm.lb_one] at this
theorem rone_f (A : Option Addr) (c k n : Nat) (w : World) (h : Nb w A k c n) (hn : n ≠ 1) :
  Calls Try.prog 103 #[.slice A k c] w fun e w' => e = .returned (.bool false) ∧ w = w' := by
 have := rone_any A c k _ w h.2 h.1
 rwa [oneB_lb, show decide (n = 1) = false by simp [hn]] at this
theorem rone_g (A : Option Addr) (c k n : Nat) (w : World) (h : Nb w A k c n) :
  Calls Try.prog 103 #[.slice A k c] w fun e w' => ∃ b, e = .returned (.bool b) ∧ Hid (b = decide (n = 1)) ∧ w = w' := by
 refine (rone_any A c k _ w h.2 h.1).mono ?_; rintro e w' ⟨rfl, rfl⟩; exact ⟨_, rfl, oneB_lb n, rfl⟩
theorem rat_set {w : World} {A1 A2 : Option Addr} {k1 c1 k2 c2 p q g : Nat} (h1 : Nb w A1 k1 c1 p) (h2 : Nb w A2 k2 c2 (Nm.dn q)) (o1 : Off g A1) (o2 : Off g A2) (u1 u2 : Value) :
  Rat ((w.setCell ⟨g, 0, none⟩ u1).setCell ⟨g, 1, none⟩ u2) (.agg #[.slice A1 k1 c1, .slice A2 k2 c2]) p q :=
 ⟨A1, k1, c1, A2, k2, c2, rfl, (h1.offSet o1 _).offSet o1 _, (h2.offSet o2 _).offSet o2 _⟩
theorem below_set2 {w0 w : World} {g : Nat} (hb : Below w0.heap.size w0 w) (hg : w0.heap.size ≤ g) (u1 u2 : Value) : Below w0.heap.size w0 ((w.setCell ⟨g, 0, none⟩ u1).setCell ⟨g, 1, none⟩ u2) := (hb.setCell hg _).setCell hg _
/-- the cell of a result that is a ratio -/
def Res (w : World) (g : Nat) : Prop := Blk w g 24 #[.slice none 0 0, .slice none 0 0]
theorem Res.new (w : World) : Res (w.alloc (.cells #[.slice none 0 0, .slice none 0 0] 24)) w.heap.size := Blk.new w _ _
theorem Res.below {w w' : World} {g : Nat} (h : Res w g) (hb : Below w.heap.size w w') : Res w' g := Blk.below h hb h.lt
theorem Res.facts {w : World} {g : Nat} (h : Res w g) : w.cell? ⟨g, 0, none⟩ = some (.slice none 0 0) ∧ w.cell? ⟨g, 1, none⟩ = some (.slice none 0 0) ∧ w.frozen? ⟨g, 0, none⟩ = false ∧ w.frozen? ⟨g, 1, none⟩ = false :=
 ⟨h.cell 0, h.cell 1, h.frozen 0, h.frozen 1⟩
theorem Res.set2 {w : World} {g : Nat} (h : Res w g) (u1 u2 : Value) : ((w.setCell ⟨g, 0, none⟩ u1).setCell ⟨g, 1, none⟩ u2).cell? ⟨g, 0, none⟩ = some u1 ∧ ((w.setCell ⟨g, 0, none⟩ u1).setCell ⟨g, 1, none⟩ u2).cell? ⟨g, 1, none⟩ = some u2 := by
 have hB3 := (Blk.set_ h 0 u1).set_ 1 u2; have h30 := hB3.cell 0; have h31 := hB3.cell 1; simp at h30 h31; exact ⟨h30, h31⟩
end Go.Proofs.Yticobffjnjbjiaa
namespace Go.Proofs.Yticobffjnjbjiaa
open Go.RowKit
theorem divide_n (A1 A2 : Option Addr) (c1 c2 k1 k2 n m : Nat) (w : World) (h1 : Nb w A1 k1 c1 n) (h2 : Nb w A2 k2 c2 m) (hl1 : k1 ≤ 65536) (hm : 0 < m) :
  Calls Try.prog 111 #[.slice A1 k1 c1, .slice A2 k2 c2] w fun e w' => ∃ A k c A' k' c', e = .returned (.tuple #[.slice A k c, .slice A' k' c']) ∧ Nb w' A k c (n / m) ∧ Nb w' A' k' c' (n % m) ∧ Below w.heap.size w w' := by
 have hk2 := h2.pos hm; by_cases hlt : n < m
 ·refine (divide_lt A1 A2 c1 c2 n m k1 k2 w h1.2 h2.2 h1.1 h2.1 (by omega) hlt).mono ?_; rintro e w' ⟨A, c, rfl, hl, hb⟩; exact ⟨none, 0, 0, A, k1, c, rfl, by rw [Nat.div_eq_of_lt hlt]; exact Nb.zero _, by rw [Nat.mod_eq_of_lt hlt]; exact ⟨h1.1, hl⟩, hb⟩
 ·by_cases h1k : k2 = 1
  ·subst h1k; refine (divide_small A1 A2 c1 c2 n m k1 w h1.2 h2.2 h1.1 h2.1 (by omega) (by omega)).mono ?_; rintro e w' ⟨A, k, A', k', rfl, e1, l1, e2, l2, hb⟩; exact ⟨A, k, k, A', k', k', rfl, ⟨e1, l1⟩, ⟨e2, l2⟩, hb⟩
  ·obtain ⟨m2, rfl⟩ : ∃ m2, k2 = m2 + 2 := ⟨k2 - 2, by omega⟩; refine (divide_big A1 A2 c1 c2 n m k1 m2 w h1.2 h2.2 h1.1 h2.1 (by omega) (by omega)).mono ?_; rintro e w' ⟨A, k, A', k', rfl, e1, l1, e2, l2, hb⟩; exact ⟨A, k, k, A', k', k', rfl, ⟨e1, l1⟩, ⟨e2, l2⟩, hb⟩
end Go.Proofs.Yticobffjnjbjiaa
namespace Go.Proofs.Yticobffjnjbjiaa
open Go.RowKit
set_option maxHeartbeats 1000000 in
theorem times_any (A1 A2 : Option Addr) (c1 c2 : Nat) (x y : List Nat) (w : World) (hx : Lim w A1 c1 x) (hy : Lim w A2 c2 y) (hxl : x.length ≤ 1048576) (hyl : y.length ≤ 1048576) :
  Calls Try.prog 76 #[.slice A1 x.length c1, .slice A2 y.length c2] w fun e w' => ∃ A n, e = .returned (.slice A n n) ∧ n = (Nm.lb (Nm.nv x * Nm.nv y)).length ∧ Lim w' A n (Nm.lb (Nm.nv x * Nm.nv y)) ∧ Below w.heap.size w w' := by
 have hmk := run_make32 (↑x.length + ↑y.length) (x.length + y.length) (by omega) (by omega)
 go_enter Try.func76, Try.ntmps76
 go_wp2
 go_loopw [20] (fun t wr => ∃ (i : Nat) (cs : List Nat), t = .int .i64 i ∧ i ≤ x.length ∧ Row wr w.heap.size cs ∧ Hid (cs.length = x.length + y.length ∧ Nm.nv cs = Nm.nv (x.take i) * Nm.nv y ∧ ∀ j, i + y.length ≤ j → cs.getD j 0 = 0) ∧ Below w.heap.size w wr) (fun t _ => x.length - (intOf t).toNat)
 case atStart => exact ⟨0, _, rfl, Nat.zero_le _, Row.new w _, ⟨by simp, by simp [Nm.nv_replicate, Nm.nv], fun j _ => Nm.getD_replicate _ _⟩, bA w _⟩
 case round =>
  obtain ⟨i, cs, rfl, hi, hrow, HI, hb⟩ := hrel; by_cases hlt : i < x.length
  ·obtain ⟨b, off, a, rfl, hc, ha, HA⟩ := (hx.below hb).get hlt
   go_wp2
   go_loopw [27, 8] (fun t v wr2 => ∃ (k : Nat) (ds : List Nat) (cy : Nat), t = .int .i64 k ∧ k ≤ y.length ∧ v = .int .u64 cy ∧ cy < 4294967296 ∧ Row wr2 w.heap.size ds ∧
    Hid (ds.length = x.length + y.length ∧ Nm.nv ds + Nm.B ^ (i + k) * cy = Nm.nv cs + Nm.B ^ i * (a * Nm.nv (y.take k)) ∧ ∀ j, i + y.length ≤ j → ds.getD j 0 = 0) ∧ Below w.heap.size w wr2) (fun t _ _ => y.length - (intOf t).toNat)
   case atStart => exact ⟨0, _, 0, rfl, Nat.zero_le _, rfl, by omega, hrow, ⟨HI.1, by simp [Nm.nv], HI.2.2⟩, hb⟩
   case round =>
    obtain ⟨k, ds, cy, rfl, hk, rfl, hcy, hrow2, HJ, hb2⟩ := hrel; by_cases hkt : k < y.length
    ·obtain ⟨b', off', a', rfl, hc', ha', HA'⟩ := (hy.below hb2).get hkt; obtain ⟨o, hco, hfo, ho, HO⟩ := hrow2.get (k := i + k) (by have := HJ.1; omega); obtain ⟨hp0, hpr⟩ := Nm.prod_bounds ha ha'
     go_wp2
     go_roundw
     case rel =>
      have e2 : ((↑a * ↑a' + ↑o + ↑cy) % 4294967296 : Int) = ((a * a' + o + cy) % 4294967296 : Nat) := by omega
      rw [e2]; have hltm := Nm.mul_carry_lt ha ha' ho hcy; have hlt2 : (a * a' + o + cy) / 4294967296 < 4294967296 := Nat.div_lt_of_lt_mul hltm; exact ⟨k + 1, _, (a * a' + o + cy) / 4294967296, by go_num, by omega, by congr 1, hlt2, hrow2.set_ _ _ (Nat.mod_lt _ (by omega)), Nm.times_round HJ hlt hkt HA' HO, hb2.setCell (Nat.le_refl _) _⟩
     case measure => simp [intOf]; omega
    ·obtain rfl : y.length = k := by omega
     obtain ⟨o, hco, hfo, ho, HO⟩ := hrow2.get (k := i + y.length) (by have := HJ.1; omega)
     go_wp2
     go_roundw
     case rel => exact ⟨i + 1, _, by go_num, by omega, hrow2.set_ _ _ hcy, Nm.times_outer hlt HI HJ HA, hb2.setCell (Nat.le_refl _) _⟩
     case measure => simp [intOf]; omega
  ·go_wp2_with (go_at_call 94; have hlen := HI.1; rw [← hlen]; refine (trim_any _ _ _ _ (hrow.lim (Nat.le_refl _) (by omega))).mono ?_; rintro e w' ⟨rfl, rfl⟩)
   go_ret; have hX : x.take i = x := List.take_of_length_le (by omega); have hN : Nm.nv cs = Nm.nv x * Nm.nv y := by rw [HI.2.1, hX]
   refine ⟨_, _, rfl, by rw [hN], ?_, hb⟩; rw [← hN]; exact (hrow.lim (Nat.le_refl _) (by rw [HI.1]; omega)).trim
end Go.Proofs.Yticobffjnjbjiaa
namespace Go.Proofs.Yticobffjnjbjiaa
open Go.RowKit
set_option maxHeartbeats 1000000 in
theorem clone_f (A : Option Addr) (c k : Nat) (l : List Nat) (w : World) (h : Lim w A c l) (hk : k = l.length) (hl : l.length ≤ 1048576) :
  Calls Try.prog 75 #[.slice A k c] w fun e w' => ∃ A' c', e = .returned (.slice A' k c') ∧ Lim w' A' c' l ∧ From w.heap.size A' ∧ Below w.heap.size w w' := by
 subst hk; obtain ⟨i0, hi0, hz0, hz1, hz2⟩ := info_parts u32_info
 rcases A with _ | ad
 ·have hl0 : l = [] := by
   rcases l with _ | ⟨x, l⟩
   ·rfl
   ·obtain ⟨b, off, hA, _⟩ := h.at_ (k := 0) (by simp)
    cases hA
  subst hl0; obtain rfl : c = 0 := h.2.2.2.2 rfl; clear hi0 hz0 hz1 hz2 i0; have hnil := fun w => Lib.run_eql_slice_nil (P := Try.prog) w 22 105 none 0 0 0 0 Try.underlying22
  simp only [Option.isNone_none] at hnil
  go_enter Try.func75, Try.ntmps75
  go_wp2
  go_ret; exact ⟨none, 0, rfl, ⟨fun h => absurd rfl h, Nat.le_refl _, by omega, h.limb, fun _ => rfl⟩, (fun _ _ h => by cases h), Below.refl _ _⟩
 ·have hnil := fun w => Lib.run_eql_slice_nil (P := Try.prog) w 22 105 (some ad) l.length c 0 0 Try.underlying22
  simp only [Option.isNone_some] at hnil; have hlen : (u32s l).length = l.length * 1 := by simp [u32s]
  have H := Lib.hid hlen; clear hlen
  go_enter Try.func75, Try.ntmps75
  go_wp2_with (at_builtin; refine wpList_append_any _ rfl (.tmp 5) (.tmp 6) _ rfl w.heap.size 105 i0 _ 1 4 Try.underlying22 hi0 hz0 hz1 hz2 rfl (by omega) (.slice (some ⟨w.heap.size, 0, none⟩) 0 0) 0 (u32s []) rfl (own_empty w) (some ad) l.length c (u32s l) rfl H.out (h.alloc _).1 (u32s_one l) (by simp only [maxLen]; omega) (by omega) (by simp) ?_; intro v1 w1 hown1 hg1 hat1)
  go_ret; rw [← u32s_append, List.nil_append] at hown1; obtain ⟨A', c', rfl, hlim, hfr⟩ := own_lim hown1 h.limb; refine ⟨A', c', rfl, hlim, hfr, ?_⟩; refine (bA w _).grown hg1 (by simp) (fun k hk => ?_); simp [Value.ownBlock] at hk; omega
theorem clone_n (A : Option Addr) (c k n : Nat) (w : World) (h : Nb w A k c n) (hl : k ≤ 65536) :
  Calls Try.prog 75 #[.slice A k c] w fun e w' => ∃ A' c', e = .returned (.slice A' k c') ∧ Nb w' A' k c' n ∧ From w.heap.size A' ∧ Below w.heap.size w w' := by
 refine (clone_f A c k _ w h.2 h.1 (by rw [← h.1]; omega)).mono ?_; rintro e w' ⟨A', c', rfl, hl, hf, hb⟩; exact ⟨A', c', rfl, ⟨h.1, hl⟩, hf, hb⟩
theorem isOne_g (A : Option Addr) (c k n : Nat) (w : World) (h : Nb w A k c n) :
  Calls Try.prog 74 #[.slice A k c] w fun e w' => ∃ b, e = .returned (.bool b) ∧ Hid (b = decide (n = 1)) ∧ w = w' := by
 obtain ⟨rfl, h2⟩ := h; refine (isOne_any A c _ w h2).mono ?_; rintro e w' ⟨rfl, rfl⟩; exact ⟨_, rfl, oneB_lb n, rfl⟩
theorem isOne_t (A : Option Addr) (c k n : Nat) (w : World) (h : Nb w A k c n) (hn : n = 1) :
  Calls Try.prog 74 #[.slice A k c] w fun e w' => e = .returned (.bool true) ∧ w = w' := by
 refine (isOne_g A c k n w h).mono ?_; rintro e w' ⟨b, rfl, hb, rfl⟩; rw [hb.out]; simp [hn]
theorem isOne_f (A : Option Addr) (c k n : Nat) (w : World) (h : Nb w A k c n) (hn : n ≠ 1) :
  Calls Try.prog 74 #[.slice A k c] w fun e w' => e = .returned (.bool false) ∧ w = w' := by
 refine (isOne_g A c k n w h).mono ?_; rintro e w' ⟨b, rfl, hb, rfl⟩; rw [hb.out]; simp [hn]
set_option maxRecDepth 10000 in
set_option maxHeartbeats 2000000 in
theorem common_n (A1 A2 : Option Addr) (c1 c2 k1 k2 x y : Nat) (w : World) (h1 : Nb w A1 k1 c1 x) (h2 : Nb w A2 k2 c2 y) (hl1 : k1 ≤ 65536) (hl2 : k2 ≤ 65536) :
  Calls Try.prog 95 #[.slice A1 k1 c1, .slice A2 k2 c2] w fun e w' => ∃ A k c, e = .returned (.slice A k c) ∧ Nb w' A k c (Nat.gcd x y) ∧ Below w.heap.size w w' := by
 obtain ⟨g, HG⟩ : ∃ g, Hid (g = Nat.gcd x y) := ⟨_, rfl⟩; rw [← HG.out]
 go_enter Try.func95, Try.ntmps95
 go_wp2_with fail
 go_loopg [0, 1] y (fun j a b wx => ∃ (A A' : Option Addr) (k c k' c' p q : Nat), a = .slice A k c ∧ b = .slice A' k' c' ∧ Nb wx A k c p ∧ Nb wx A' k' c' q ∧ k ≤ 65536 ∧ k' ≤ 65536 ∧ Hid (Nat.gcd p q = g) ∧ q = j ∧ Below w.heap.size w wx)
 case atStart => exact ⟨A1, A2, k1, c1, k2, c2, x, y, rfl, rfl, h1, h2, hl1, hl2, HG.out.symm, rfl, Below.refl _ _⟩
 case round =>
  clear h1 h2 hl1 hl2; obtain ⟨A, A', k, c, k', c', p, q, rfl, rfl, h1, h2, hl1, hl2, HR, rfl, hb⟩ := hrel
  rcases Nat.eq_zero_or_pos q with rfl | hq
  ·obtain rfl := h2.kzero; have e := HR.out; rw [Nat.gcd_zero_right] at e; rw [e] at h1; clear e; go_wp2_with fail; go_ret; exact ⟨A, k, c, rfl, h1, hb⟩
  ·have hk' := h2.pos hq; go_wp2_with fail; refine (divide_n _ _ _ _ _ _ p q _ h1 h2 hl1 hq).mono ?_; rintro e w3 ⟨A3, k3, c3, A4, k4, c4, rfl, hn3, hn4, hb3⟩; have hlt := Nat.mod_lt p hq; have hk4 : k4 ≤ 65536 := Nat.le_trans (hn4.lek (Nat.lt_trans hlt h2.lt)) hl2; have HR2 : Hid (Nat.gcd q (p % q) = g) := by show _ = _; rw [← HR.out, Nat.gcd_comm p q, Nat.gcd_rec q p, Nat.gcd_comm]
   obtain ⟨r, HRr⟩ : ∃ r, Hid (r = p % q) := ⟨_, rfl⟩; rw [← HRr.out] at hlt hn4 HR2; go_wp2_with fail
   go_roundg r
   case measure => exact hlt
   case rel => exact ⟨A', A4, k', c', k4, c4, q, r, rfl, rfl, h2.below hb3, hn4, hl2, hk4, HR2, rfl, Below.tr hb hb3⟩
set_option maxRecDepth 10000 in
set_option maxHeartbeats 2000000 in
theorem reduced_zero (A1 A2 : Option Addr) (c1 c2 k1 k2 d : Nat) (w : World) (h1 : Nb w A1 k1 c1 0) (hd : 0 < d) :
  Calls Try.prog 96 #[.slice A1 k1 c1, .slice A2 k2 c2] w fun e w' => ∃ v er, e = .returned (.tuple #[v, .int .i64 er]) ∧ RedP w' v er 0 d ∧ Below w.heap.size w w' := by
 obtain rfl : k1 = 0 := h1.kzero
 have hP : ∀ w' : World, RedP w' nilRat 0 0 d := fun w' => by
  refine .inl ⟨?_, rfl, none, 0, 0, none, 0, 0, rfl, ?_, ?_⟩
  ·rw [Nat.gcd_zero_left, Nat.zero_div, Nat.div_self hd]; exact ⟨by simp [Nm.lb_zero], by simp [Nm.dn_one, Nm.lb_zero]⟩
  ·rw [Nat.gcd_zero_left, Nat.zero_div]; exact Nb.zero _
  ·rw [Nat.gcd_zero_left, Nat.div_self hd, Nm.dn_one]; exact Nb.zero _
 have HP := Lib.hid hP; clear hP
 go_enter Try.func96, Try.ntmps96
 go_wp2
 exact bodyPost_ret (v := .tuple #[.agg #[.slice none 0 0, .slice none 0 0], .int .i64 0]) (by simp [results, Try.results96, go_sem]) rfl ⟨_, _, rfl, HP.out _, bA _ _⟩
set_option maxRecDepth 10000 in
set_option maxHeartbeats 2000000 in
theorem reduced_n (A1 A2 : Option Addr) (c1 c2 k1 k2 n d : Nat) (w : World) (h1 : Nb w A1 k1 c1 n) (h2 : Nb w A2 k2 c2 d) (hl1 : k1 ≤ 65536) (hl2 : k2 ≤ 65536) (hd : 0 < d) :
  Calls Try.prog 96 #[.slice A1 k1 c1, .slice A2 k2 c2] w fun e w' => ∃ v er, e = .returned (.tuple #[v, .int .i64 er]) ∧ RedP w' v er n d ∧ Below w.heap.size w w' := by
 rcases Nat.eq_zero_or_pos n with rfl | hn
 ·exact reduced_zero A1 A2 c1 c2 k1 k2 d w h1 hd
 have hk := h1.pos hn; have hi1 := Lib.hid (h1.in_ hn); have hi2 := Lib.hid (h2.in_ hd); obtain ⟨g, HG⟩ : ∃ g, Hid (g = Nat.gcd n d) := ⟨_, rfl⟩; have hg0 : 0 < g := by rw [HG.out]; exact Nat.gcd_pos_of_pos_right _ hd
 obtain ⟨p, HP⟩ : ∃ p, Hid (p = n / g) := ⟨_, rfl⟩; obtain ⟨q, HQ⟩ : ∃ q, Hid (q = d / g) := ⟨_, rfl⟩; have hcomm : Nat.gcd n d = g := by rw [HG.out]
 have HRP : Hid (∀ w' v er, ((Nm.Fits p q ∧ er = 0 ∧ Rat w' v p q) ∨ (¬ Nm.Fits p q ∧ er = 4 ∧ v = nilRat)) → RedP w' v er n d) := by
  intro w' v er h; unfold RedP; rw [hcomm, ← HP.out, ← HQ.out]; exact h
 clear hcomm
 go_enter Try.func96, Try.ntmps96
 go_wp2_with fail; refine (common_n _ _ _ _ _ _ n d _ (h1.alloc _) (h2.alloc _) (by omega) (by omega)).mono ?_; rintro e w1 ⟨A, k, c, rfl, hnb, hb⟩; rw [← HG.out] at hnb; have hgk : k ≤ 65536 := by have := hnb.lek (Nat.lt_of_le_of_lt (show g ≤ d by rw [HG.out]; exact Nat.gcd_le_right _ hd) h2.lt); omega
 have h1' := (h1.alloc (.cells #[.slice none 0 0, .slice none 0 0] 24)).below hb; have h2' := (h2.alloc (.cells #[.slice none 0 0, .slice none 0 0] 24)).below hb; have hw1 : w.heap.size < w1.heap.size := by have := hb.size; simp at this; omega
 go_wp2_with fail; refine (isOne_g _ _ _ _ _ hnb).mono ?_; rintro e w' ⟨b1, rfl, HB1, rfl⟩
 go_upto_if 16 with fail
 have hres := Res.below (Res.new w) hb; have hbw := Below.tr (bA w _) hb
 go_cut [0, 1] from 16 (fun a b wx => ∃ (A1 A2 : Option Addr) (k1 c1 k2 c2 : Nat), a = .slice A1 k1 c1 ∧ b = .slice A2 k2 c2 ∧ Nb wx A1 k1 c1 p ∧ Nb wx A2 k2 c2 q ∧ Res wx w.heap.size ∧ Below w.heap.size w wx)
 case first => as_aux_lemma =>
  go_wp2_with fail
  ·have hb1 : (!b1) = true := by assumption
   clear HB1; refine (divide_n _ _ _ _ _ _ n g _ h1' hnb (by omega) hg0).mono ?_; rintro e w3 ⟨A3, k3, c3, A4, k4, c4, rfl, hn3, hn4, hb3⟩; go_wp2_with fail; refine (divide_n _ _ _ _ _ _ d g _ (h2'.below hb3) (hnb.below hb3) (by omega) hg0).mono ?_; rintro e w5 ⟨A5, k5, c5, A6, k6, c6, rfl, hn5, hn6, hb5⟩; rw [← HP.out] at hn3; rw [← HQ.out] at hn5; go_wp2_with fail
   go_meet
   case rel => exact ⟨A3, A5, k3, c3, k5, c5, rfl, rfl, hn3.below hb5, hn5, (hres.below hb3).below hb5, Below.tr (Below.tr hbw hb3) hb5⟩
  ·have hb1 : (!b1) = false := by assumption
   have hg1 : g = 1 := by have := HB1.out; rw [this] at hb1; simpa using hb1
   have e1 : n = p := by rw [HP.out, hg1, Nat.div_one]
   have e2 : d = q := by rw [HQ.out, hg1, Nat.div_one]
   rw [e1] at h1'; rw [e2] at h2'; clear e1 e2 hg1
   go_meet
   case rel => exact ⟨A1, A2, k1, c1, k2, c2, rfl, rfl, h1', h2', hres, hbw⟩
 case rest => as_aux_lemma =>
  clear h1' h2' hnb hres hbw hb h1 h2 hk hl1 hl2 hi1 hi2 HB1 hgk hw1; obtain ⟨A1, A2, k1, c1, k2, c2, rfl, rfl, h1, h2, hres, hb⟩ := hcut; have HK1 := Lib.hid h1.1; have HK2 := Lib.hid h2.1; have hkb1 : k1 ≤ 9223372036854775807 := h1.le; have hkb2 : k2 ≤ 9223372036854775807 := h2.le; by_cases hq1 : q = 1
  ·have HX : Hid (Nm.dn q = 0) := by show _ = _; rw [hq1]; rfl
   have hz : ∀ wz, Nb wz none 0 0 (Nm.dn q) := fun wz => by rw [HX.out]; exact Nb.zero _
   have HQ1 := Lib.hid hq1; clear hq1; by_cases hs : k1 ≤ 64
   ·have hf : Nm.Fits p q := ⟨by rw [← HK1.out]; exact hs, by rw [HX.out]; simp [Nm.lb_zero]⟩; have hd1 : decide ((64 : Int) < (k1 : Int)) = false := by simp; omega
    go_wp2_with fail; refine (isOne_t _ _ _ _ _ h2 HQ1.out).mono ?_; rintro e w' ⟨rfl, rfl⟩; have hlt := hres.lt; go_wp2_with fail; refine (clone_n _ _ _ p _ h1 (by omega)).mono ?_; rintro e w3 ⟨A3, c3, rfl, hn3, hf3, hb3⟩; go_wp2_with fail; refine (clone_n _ _ _ (Nm.dn q) _ (hz _) (by omega)).mono ?_; rintro e w4 ⟨A4, c4, rfl, hn4, hf4, hb4⟩; have hb34 := Below.tr hb3 hb4; have hres4 := hres.below hb34; obtain ⟨r1, r2, r3, r4⟩ := hres4.facts; obtain ⟨s1, s2⟩ := hres4.set2 (.slice A3 k1 c3) (.slice A4 0 c4); have hfin := rat_set (g := w.heap.size) (hn3.below hb4) hn4 (fun b off hA e => by have := hf3 b off hA; omega) (fun b off hA e => by have := hf4 b off hA; have := hb3.size; omega) (.slice A3 k1 c3) (.slice A4 0 c4); have hbb := Below.tr hb hb34; clear hf3 hf4 hb34 hb3 hb4; go_wp2_with fail; exact bodyPost_ret (v := .tuple #[.agg #[.slice A3 k1 c3, .slice A4 0 c4], .int .i64 0]) (by simp [results, Try.results96, go_sem, s1, s2]) rfl ⟨_, _, rfl, HRP.out _ _ _ (.inl ⟨hf, rfl, hfin⟩), below_set2 hbb (Nat.le_refl _) _ _⟩
   ·have hf : ¬ Nm.Fits p q := fun h => hs (by rw [HK1.out]; exact h.1)
    obtain ⟨r1, r2, r3, r4⟩ := hres.facts; obtain ⟨s1, s2⟩ := hres.set2 (.slice none 0 0) (.slice none 0 0); have hd1 : decide ((64 : Int) < (k1 : Int)) = true := by simp; omega
    go_wp2_with fail; refine (isOne_t _ _ _ _ _ h2 HQ1.out).mono ?_; rintro e w' ⟨rfl, rfl⟩; go_wp2_with fail; exact bodyPost_ret (v := .tuple #[.agg #[.slice none 0 0, .slice none 0 0], .int .i64 4]) (by simp [results, Try.results96, go_sem, s1, s2]) rfl ⟨_, _, rfl, HRP.out _ _ _ (.inr ⟨hf, rfl, rfl⟩), below_set2 hb (Nat.le_refl _) _ _⟩
  ·have HX : Hid (Nm.dn q = q) := Nm.dn_ne hq1; have HQ1 := Lib.hid hq1; clear hq1; by_cases hs : k1 ≤ 64
   ·have hd1 : decide ((64 : Int) < (k1 : Int)) = false := by simp; omega
    by_cases hs2 : k2 ≤ 64
    ·have hf : Nm.Fits p q := ⟨by rw [← HK1.out]; exact hs, by rw [HX.out, ← HK2.out]; exact hs2⟩; have hd2 : decide ((64 : Int) < (k2 : Int)) = false := by simp; omega
     go_wp2_with fail; refine (isOne_f _ _ _ _ _ h2 HQ1.out).mono ?_; rintro e w' ⟨rfl, rfl⟩; have hlt := hres.lt; go_wp2_with fail; refine (clone_n _ _ _ p _ h1 (by omega)).mono ?_; rintro e w3 ⟨A3, c3, rfl, hn3, hf3, hb3⟩; go_wp2_with fail; refine (clone_n _ _ _ (Nm.dn q) _ (by rw [HX.out]; exact h2.below hb3) (by omega)).mono ?_; rintro e w4 ⟨A4, c4, rfl, hn4, hf4, hb4⟩; have hb34 := Below.tr hb3 hb4; have hres4 := hres.below hb34; obtain ⟨r1, r2, r3, r4⟩ := hres4.facts; obtain ⟨s1, s2⟩ := hres4.set2 (.slice A3 k1 c3) (.slice A4 k2 c4); have hfin := rat_set (g := w.heap.size) (hn3.below hb4) hn4 (fun b off hA e => by have := hf3 b off hA; omega) (fun b off hA e => by have := hf4 b off hA; have := hb3.size; omega) (.slice A3 k1 c3) (.slice A4 k2 c4); have hbb := Below.tr hb hb34; clear hf3 hf4 hb34 hb3 hb4; go_wp2_with fail; exact bodyPost_ret (v := .tuple #[.agg #[.slice A3 k1 c3, .slice A4 k2 c4], .int .i64 0]) (by simp [results, Try.results96, go_sem, s1, s2]) rfl ⟨_, _, rfl, HRP.out _ _ _ (.inl ⟨hf, rfl, hfin⟩), below_set2 hbb (Nat.le_refl _) _ _⟩
    ·have hf : ¬ Nm.Fits p q := fun h => hs2 (by rw [HK2.out]; have := h.2; rwa [HX.out] at this)
     obtain ⟨r1, r2, r3, r4⟩ := hres.facts; obtain ⟨s1, s2⟩ := hres.set2 (.slice none 0 0) (.slice none 0 0); have hd2 : decide ((64 : Int) < (k2 : Int)) = true := by simp; omega
     go_wp2_with fail; refine (isOne_f _ _ _ _ _ h2 HQ1.out).mono ?_; rintro e w' ⟨rfl, rfl⟩; go_wp2_with fail; exact bodyPost_ret (v := .tuple #[.agg #[.slice none 0 0, .slice none 0 0], .int .i64 4]) (by simp [results, Try.results96, go_sem, s1, s2]) rfl ⟨_, _, rfl, HRP.out _ _ _ (.inr ⟨hf, rfl, rfl⟩), below_set2 hb (Nat.le_refl _) _ _⟩
   ·have hf : ¬ Nm.Fits p q := fun h => hs (by rw [HK1.out]; exact h.1)
    obtain ⟨r1, r2, r3, r4⟩ := hres.facts; obtain ⟨s1, s2⟩ := hres.set2 (.slice none 0 0) (.slice none 0 0); have hd1 : decide ((64 : Int) < (k1 : Int)) = true := by simp; omega
    go_wp2_with fail; refine (isOne_f _ _ _ _ _ h2 HQ1.out).mono ?_; rintro e w' ⟨rfl, rfl⟩; go_wp2_with fail; exact bodyPost_ret (v := .tuple #[.agg #[.slice none 0 0, .slice none 0 0], .int .i64 4]) (by simp [results, Try.results96, go_sem, s1, s2]) rfl ⟨_, _, rfl, HRP.out _ _ _ (.inr ⟨hf, rfl, rfl⟩), below_set2 hb (Nat.le_refl _) _ _⟩
end Go.Proofs.Yticobffjnjbjiaa
namespace Go.Proofs.Yticobffjnjbjiaa
open Go.RowKit
set_option maxRecDepth 10000 in
set_option maxHeartbeats 2000000 in
theorem rreduced_zero (A1 A2 : Option Addr) (c1 c2 k1 k2 d : Nat) (w : World) (h1 : Nb w A1 k1 c1 0) (hd : 0 < d) :
  Calls Try.prog 90 #[.slice A1 k1 c1, .slice A2 k2 c2] w fun e w' => ∃ v er, e = .returned (.tuple #[v, .int .i64 er]) ∧ RedP w' v er 0 d ∧ Below w.heap.size w w' := by
 obtain rfl : k1 = 0 := h1.kzero
 have hP : ∀ w' : World, RedP w' nilRat 0 0 d := fun w' => by
  refine .inl ⟨?_, rfl, none, 0, 0, none, 0, 0, rfl, ?_, ?_⟩
  ·rw [Nat.gcd_zero_left, Nat.zero_div, Nat.div_self hd]; exact ⟨by simp [Nm.lb_zero], by simp [Nm.dn_one, Nm.lb_zero]⟩
  ·rw [Nat.gcd_zero_left, Nat.zero_div]; exact Nb.zero _
  ·rw [Nat.gcd_zero_left, Nat.div_self hd, Nm.dn_one]; exact Nb.zero _
 have HP := Lib.hid hP; clear hP
 go_enter Try.func90, Try.ntmps90
 go_wp2
 exact bodyPost_ret (v := .tuple #[.agg #[.slice none 0 0, .slice none 0 0], .int .i64 0]) (by simp [results, Try.results90, go_sem]) rfl ⟨_, _, rfl, HP.out _, bA _ _⟩
set_option maxRecDepth 10000 in
set_option maxHeartbeats 2000000 in
theorem rreduced_n (A1 A2 : Option Addr) (c1 c2 k1 k2 n d : Nat) (w : World) (h1 : Nb w A1 k1 c1 n) (h2 : Nb w A2 k2 c2 d) (hl1 : k1 ≤ 65536) (hl2 : k2 ≤ 65536) (hd : 0 < d) :
  Calls Try.prog 90 #[.slice A1 k1 c1, .slice A2 k2 c2] w fun e w' => ∃ v er, e = .returned (.tuple #[v, .int .i64 er]) ∧ RedP w' v er n d ∧ Below w.heap.size w w' := by
 rcases Nat.eq_zero_or_pos n with rfl | hn
 ·exact rreduced_zero A1 A2 c1 c2 k1 k2 d w h1 hd
 have hk := h1.pos hn; have hi1 := Lib.hid (h1.in_ hn); have hi2 := Lib.hid (h2.in_ hd); obtain ⟨g, HG⟩ : ∃ g, Hid (g = Nat.gcd d n) := ⟨_, rfl⟩; have hg0 : 0 < g := by rw [HG.out]; exact Nat.gcd_pos_of_pos_left _ hd
 obtain ⟨p, HP⟩ : ∃ p, Hid (p = n / g) := ⟨_, rfl⟩; obtain ⟨q, HQ⟩ : ∃ q, Hid (q = d / g) := ⟨_, rfl⟩; have hcomm : Nat.gcd n d = g := by rw [HG.out, Nat.gcd_comm]
 have HRP : Hid (∀ w' v er, ((Nm.Fits p q ∧ er = 0 ∧ Rat w' v p q) ∨ (¬ Nm.Fits p q ∧ er = 4 ∧ v = nilRat)) → RedP w' v er n d) := by
  intro w' v er h; unfold RedP; rw [hcomm, ← HP.out, ← HQ.out]; exact h
 clear hcomm
 go_enter Try.func90, Try.ntmps90
 go_wp2_with fail; refine (rcommon_n _ _ _ _ _ _ d n _ (h2.alloc _) (h1.alloc _) (by omega) (by omega) (by omega)).mono ?_; rintro e w1 ⟨A, k, c, rfl, hnb, hb⟩; rw [← HG.out] at hnb; have hgk : k ≤ 65536 := by have := hnb.lek (Nat.lt_of_le_of_lt (show g ≤ d by rw [HG.out]; exact Nat.gcd_le_left _ hd) h2.lt); omega
 have h1' := (h1.alloc (.cells #[.slice none 0 0, .slice none 0 0] 24)).below hb; have h2' := (h2.alloc (.cells #[.slice none 0 0, .slice none 0 0] 24)).below hb; have hw1 : w.heap.size < w1.heap.size := by have := hb.size; simp at this; omega
 go_wp2_with fail; refine (rone_g _ _ _ _ _ hnb).mono ?_; rintro e w' ⟨b1, rfl, HB1, rfl⟩
 go_upto_if 16 with fail
 have hres := Res.below (Res.new w) hb; have hbw := Below.tr (bA w _) hb
 go_cut [0, 1] from 16 (fun a b wx => ∃ (A1 A2 : Option Addr) (k1 c1 k2 c2 : Nat), a = .slice A1 k1 c1 ∧ b = .slice A2 k2 c2 ∧ Nb wx A1 k1 c1 p ∧ Nb wx A2 k2 c2 q ∧ Hid (Off w.heap.size A1) ∧ Hid (Off w.heap.size A2) ∧ Res wx w.heap.size ∧ Below w.heap.size w wx)
 case first => as_aux_lemma =>
  go_wp2_with fail
  ·have hb1 : (!b1) = true := by assumption
   clear HB1; refine (quotient_n _ _ _ _ _ _ n g _ h1' hnb (by omega) (by omega) hg0).mono ?_; rintro e w3 ⟨A3, k3, c3, A4, k4, c4, rfl, hn3, hn4, hf3, hf4, hb3⟩; go_wp2_with fail; refine (quotient_n _ _ _ _ _ _ d g _ (h2'.below hb3) (hnb.below hb3) (by omega) (by omega) hg0).mono ?_; rintro e w5 ⟨A5, k5, c5, A6, k6, c6, rfl, hn5, hn6, hf5, hf6, hb5⟩; rw [← HP.out] at hn3; rw [← HQ.out] at hn5; have H3 : Hid (Off w.heap.size A3) := fun b off hA e => by have := hf3 b off hA; omega
   have H5 : Hid (Off w.heap.size A5) := fun b off hA e => by have := hf5 b off hA; have := hb3.size; omega
   clear hf3 hf4 hf5 hf6; go_wp2_with fail
   go_meet
   case rel => exact ⟨A3, A5, k3, c3, k5, c5, rfl, rfl, hn3.below hb5, hn5, H3, H5, (hres.below hb3).below hb5, Below.tr (Below.tr hbw hb3) hb5⟩
  ·have hb1 : (!b1) = false := by assumption
   have hg1 : g = 1 := by have := HB1.out; rw [this] at hb1; simpa using hb1
   have e1 : n = p := by rw [HP.out, hg1, Nat.div_one]
   have e2 : d = q := by rw [HQ.out, hg1, Nat.div_one]
   rw [e1] at h1'; rw [e2] at h2'; clear e1 e2 hg1
   go_meet
   case rel => exact ⟨A1, A2, k1, c1, k2, c2, rfl, rfl, h1', h2', fun b off hA e => by have := hi1.out b off hA; omega, fun b off hA e => by have := hi2.out b off hA; omega, hres, hbw⟩
 case rest => as_aux_lemma =>
  clear h1' h2' hnb hres hbw hb h1 h2 hk hl1 hl2 hi1 hi2 HB1 hgk hw1; obtain ⟨A1, A2, k1, c1, k2, c2, rfl, rfl, h1, h2, HO1, HO2, hres, hb⟩ := hcut; obtain ⟨r1, r2, r3, r4⟩ := hres.facts; have HK1 := Lib.hid h1.1; have HK2 := Lib.hid h2.1; have hkb1 : k1 ≤ 9223372036854775807 := h1.le; have hkb2 : k2 ≤ 9223372036854775807 := h2.le; have HE0 := Lib.hid (fun u1 u2 => hres.set2 u1 u2); by_cases hq1 : q = 1
  ·have HX : Hid (Nm.dn q = 0) := by show _ = _; rw [hq1]; rfl
   have hz : ∀ wz, Nb wz none 0 0 (Nm.dn q) := fun wz => by rw [HX.out]; exact Nb.zero _
   have HQ1 := Lib.hid hq1; clear hq1; by_cases hs : k1 ≤ 64
   ·have hf : Nm.Fits p q := ⟨by rw [← HK1.out]; exact hs, by rw [HX.out]; simp [Nm.lb_zero]⟩; have hfin := rat_set (g := w.heap.size) h1 (hz _) HO1.out (Off.none _) (.slice A1 k1 c1) (.slice none 0 0); clear hz; obtain ⟨s1, s2⟩ := HE0.out (.slice A1 k1 c1) (.slice none 0 0); have hd1 : decide ((64 : Int) < (k1 : Int)) = false := by simp; omega
    go_wp2_with fail; refine (rone_t _ _ _ _ _ h2 HQ1.out).mono ?_; rintro e w' ⟨rfl, rfl⟩; go_wp2_with fail; exact bodyPost_ret (v := .tuple #[.agg #[.slice A1 k1 c1, .slice none 0 0], .int .i64 0]) (by simp [results, Try.results90, go_sem, s1, s2]) rfl ⟨_, _, rfl, HRP.out _ _ _ (.inl ⟨hf, rfl, hfin⟩), below_set2 hb (Nat.le_refl _) _ _⟩
   ·have hf : ¬ Nm.Fits p q := fun h => hs (by rw [HK1.out]; exact h.1)
    obtain ⟨s1, s2⟩ := HE0.out (.slice none 0 0) (.slice none 0 0); have hd1 : decide ((64 : Int) < (k1 : Int)) = true := by simp; omega
    go_wp2_with fail; refine (rone_t _ _ _ _ _ h2 HQ1.out).mono ?_; rintro e w' ⟨rfl, rfl⟩; go_wp2_with fail; exact bodyPost_ret (v := .tuple #[.agg #[.slice none 0 0, .slice none 0 0], .int .i64 4]) (by simp [results, Try.results90, go_sem, s1, s2]) rfl ⟨_, _, rfl, HRP.out _ _ _ (.inr ⟨hf, rfl, rfl⟩), below_set2 hb (Nat.le_refl _) _ _⟩
  ·have HX : Hid (Nm.dn q = q) := Nm.dn_ne hq1; have HQ1 := Lib.hid hq1; clear hq1; by_cases hs : k1 ≤ 64
   ·have hd1 : decide ((64 : Int) < (k1 : Int)) = false := by simp; omega
    by_cases hs2 : k2 ≤ 64
    ·have hf : Nm.Fits p q := ⟨by rw [← HK1.out]; exact hs, by rw [HX.out, ← HK2.out]; exact hs2⟩; have hfin := rat_set (g := w.heap.size) h1 (by rw [HX.out]; exact h2) HO1.out HO2.out (.slice A1 k1 c1) (.slice A2 k2 c2); obtain ⟨s1, s2⟩ := HE0.out (.slice A1 k1 c1) (.slice A2 k2 c2); have hd2 : decide ((64 : Int) < (k2 : Int)) = false := by simp; omega
     go_wp2_with fail; refine (rone_f _ _ _ _ _ h2 HQ1.out).mono ?_; rintro e w' ⟨rfl, rfl⟩; go_wp2_with fail; exact bodyPost_ret (v := .tuple #[.agg #[.slice A1 k1 c1, .slice A2 k2 c2], .int .i64 0]) (by simp [results, Try.results90, go_sem, s1, s2]) rfl ⟨_, _, rfl, HRP.out _ _ _ (.inl ⟨hf, rfl, hfin⟩), below_set2 hb (Nat.le_refl _) _ _⟩
    ·have hf : ¬ Nm.Fits p q := fun h => hs2 (by rw [HK2.out]; have := h.2; rwa [HX.out] at this)
     obtain ⟨s1, s2⟩ := HE0.out (.slice none 0 0) (.slice none 0 0); have hd2 : decide ((64 : Int) < (k2 : Int)) = true := by simp; omega
     go_wp2_with fail; refine (rone_f _ _ _ _ _ h2 HQ1.out).mono ?_; rintro e w' ⟨rfl, rfl⟩; go_wp2_with fail; exact bodyPost_ret (v := .tuple #[.agg #[.slice none 0 0, .slice none 0 0], .int .i64 4]) (by simp [results, Try.results90, go_sem, s1, s2]) rfl ⟨_, _, rfl, HRP.out _ _ _ (.inr ⟨hf, rfl, rfl⟩), below_set2 hb (Nat.le_refl _) _ _⟩
   ·have hf : ¬ Nm.Fits p q := fun h => hs (by rw [HK1.out]; exact h.1)
    obtain ⟨s1, s2⟩ := HE0.out (.slice none 0 0) (.slice none 0 0); have hd1 : decide ((64 : Int) < (k1 : Int)) = true := by simp; omega
    go_wp2_with fail; refine (rone_f _ _ _ _ _ h2 HQ1.out).mono ?_; rintro e w' ⟨rfl, rfl⟩; go_wp2_with fail; exact bodyPost_ret (v := .tuple #[.agg #[.slice none 0 0, .slice none 0 0], .int .i64 4]) (by simp [results, Try.results90, go_sem, s1, s2]) rfl ⟨_, _, rfl, HRP.out _ _ _ (.inr ⟨hf, rfl, rfl⟩), below_set2 hb (Nat.le_refl _) _ _⟩
end Go.Proofs.Yticobffjnjbjiaa
namespace Go.Proofs.Yticobffjnjbjiaa
open Go
/- A region in whatever order, by ONE obligation an operation: each operation's value meets a predicate of its own, which lasts over what the others do. -/
section
variable {P : Program} {ops : Array Oper} {Q : Exit → Act → World → Prop} {md : Region.Mode}
/-- the frame with the operations' values in their slots -/
def fillR : List Oper → Nat → (Nat → Value) → Act → Act
 | [], _, _, a => a
 | o :: os, k, vs, a => fillR os (k + 1) vs (a.put o.dst (vs k))
def upd (vs : Nat → Value) (i : Nat) (v : Value) : Nat → Value := fun j => if j = i then v else vs j
theorem put_put (a : Act) (d : Option Tmp) (v u : Value) : (a.put d v).put d u = a.put d u := by
 cases d <;> simp [Act.put]
theorem fillR_put : ∀ (os : List Oper) (k : Nat) (vs : Nat → Value) (a : Act) (d : Option Tmp) (v : Value), (∀ o ∈ os, ∀ e, d = some e → o.dst ≠ some e) → (fillR os k vs a).put d v = fillR os k vs (a.put d v)
 | [], _, _, _, _, _, _ => rfl
 | o :: os, k, vs, a, d, v, h => by
  show (fillR os (k + 1) vs (a.put o.dst (vs k))).put d v = fillR os (k + 1) vs ((a.put d v).put o.dst (vs k))
  rw [fillR_put os (k + 1) vs _ d v (fun o' ho' => h o' (List.mem_cons_of_mem _ ho')), Act.put_comm a v (vs k) (fun e he => h o (List.mem_cons_self ..) e he)]
theorem fillR_congr : ∀ (os : List Oper) (k : Nat) (vs vs' : Nat → Value) (a : Act), (∀ j, k ≤ j → vs j = vs' j) → fillR os k vs a = fillR os k vs' a
 | [], _, _, _, _, _ => rfl
 | o :: os, k, vs, vs', a, h => by
  show fillR os (k + 1) vs (a.put o.dst (vs k)) = fillR os (k + 1) vs' (a.put o.dst (vs' k))
  rw [h k (Nat.le_refl _), fillR_congr os (k + 1) vs vs' _ (fun j hj => h j (by omega))]
/-- no two operations have one slot -/
def apartL : List Oper → Bool
 | [] => true
 | o :: os => (os.all fun o' => o.dst.isNone || o'.dst != o.dst) && apartL os
theorem apartL_cons {o : Oper} {os : List Oper} (h : apartL (o :: os) = true) : (∀ o' ∈ os, ∀ e, o.dst = some e → o'.dst ≠ some e) ∧ apartL os = true := by
 unfold apartL at h; rw [Bool.and_eq_true] at h; refine ⟨fun o' ho' e he => ?_, h.2⟩; have := List.all_eq_true.1 h.1 o' ho'; rw [he] at this
 simpa using this
theorem fillR_upd : ∀ (os : List Oper) (k i : Nat) (vs : Nat → Value) (a : Act) (o : Oper) (v : Value), apartL os = true → os[i]? = some o → (fillR os k vs a).put o.dst v = fillR os k (upd vs (k + i) v) a
 | [], _, _, _, _, _, _, _, ho => by simp at ho
 | o0 :: os, k, 0, vs, a, o, v, hd, ho => by
  obtain rfl : o0 = o := by simpa using ho
  show (fillR os (k + 1) vs (a.put o0.dst (vs k))).put o0.dst v = fillR os (k + 1) (upd vs k v) (a.put o0.dst (upd vs k v k))
  rw [fillR_put os (k + 1) vs _ o0.dst v (apartL_cons hd).1, put_put]; have e : upd vs k v k = v := if_pos rfl; rw [e]; exact fillR_congr _ _ _ _ _ (fun j hj => (if_neg (by omega)).symm)
 | o0 :: os, k, i + 1, vs, a, o, v, hd, ho => by
  show (fillR os (k + 1) vs (a.put o0.dst (vs k))).put o.dst v = fillR os (k + 1) (upd vs (k + (i + 1)) v) (a.put o0.dst (upd vs (k + (i + 1)) v k))
  rw [fillR_upd os (k + 1) i vs _ o v (apartL_cons hd).2 (by simpa using ho)]; have e : upd vs (k + (i + 1)) v k = vs k := if_neg (by omega); rw [e, show k + 1 + i = k + (i + 1) by omega]
/-- the frame's own values -/
def ownV (os : List Oper) (a : Act) (j : Nat) : Value := match (os[j]?).bind (·.dst) with
 | some d => (a.tmps[d]?).getD undef
 | none => undef
theorem put_own (a : Act) (d : Tmp) : a.put (some d) ((a.tmps[d]?).getD undef) = a := by
 show ({ a with tmps := a.tmps.setIfInBounds d ((a.tmps[d]?).getD undef) } : Act) = a
 have : a.tmps.setIfInBounds d ((a.tmps[d]?).getD undef) = a.tmps := by
  apply Array.ext (by simp)
  intro i h1 h2; rw [Array.getElem_setIfInBounds (by simpa using h1)]
  split
  ·rename_i h; subst h; simp [h2]
  ·rfl
 rw [this]
theorem fillR_id : ∀ (os : List Oper) (k : Nat) (vs : Nat → Value) (a : Act), (∀ j o, os[j]? = some o → ∀ d, o.dst = some d → vs (k + j) = (a.tmps[d]?).getD undef) → fillR os k vs a = a
 | [], _, _, _, _ => rfl
 | o :: os, k, vs, a, h => by
  have e : a.put o.dst (vs k) = a := by
   cases hd : o.dst with
   | none => rfl
   | some d => rw [show vs k = _ from h 0 o rfl d hd, put_own]
  show fillR os (k + 1) vs (a.put o.dst (vs k)) = a
  rw [e]; exact fillR_id os (k + 1) vs a (fun j o' ho' d hd => by rw [show k + 1 + j = k + (j + 1) by omega]; exact h (j + 1) o' (by simpa using ho') d hd)
def backB (ops : Array Oper) : Bool := (List.range ops.size).all fun i => ((ops[i]?).map fun o => o.after.all fun e => decide (e.on < i)).getD true
theorem backB_spec (h : backB ops = true) {i : Nat} {o : Oper} (ho : ops[i]? = some o) : ∀ e ∈ o.after, e.on < i := by
 intro e he; have hi : i < ops.size := (Array.getElem?_eq_some_iff.1 ho).1; have := List.all_eq_true.1 h i (List.mem_range.2 hi); rw [ho] at this; simp only [Option.map_some, Option.getD_some] at this; have := Array.all_eq_true_iff_forall_mem.1 this e he
 simpa using this
theorem repF {m j : Nat} : (Array.replicate m false).getD j false = false := by
 rcases Nat.lt_or_ge j m with h | h
 ·simp [h]
 ·simp [h]
theorem getD_in {l : Array Bool} {i : Nat} (h : i < l.size) (b : Bool) : l.getD i b = l[i] := by simp [h]
theorem all_listed (hb : backB ops = true) {listed : Array Bool} (hs : listed.size = ops.size) (hr : Region.ready md ops listed = []) : ∀ i, i < ops.size → listed.getD i false = true := by
 intro i
 induction i using Nat.strongRecOn with
 | _ i ih =>
  intro hi
  cases hl : listed.getD i false with
  | true => rfl
  | false =>
   exfalso
   have : i ∈ Region.ready md ops listed := by
    rw [mem_ready]; refine ⟨?_, ops[i], Array.getElem?_eq_getElem hi, fun e he _ => ?_⟩
    ·have h' : i < listed.size := by omega
     rw [getD_in h'] at hl ⊢; exact hl
    ·have := backB_spec hb (o := ops[i]) (Array.getElem?_eq_getElem hi) e he; exact ih e.on this (by omega)
   rw [hr] at this
   cases this
variable {Φ : Nat → World → Value → Prop} {R : World → World → Prop}
theorem wpAny_inv (a0 : Act) (hd : apartL ops.toList = true) (hb : backB ops = true)
  (hΦ : ∀ w w', R w w' → ∀ j x, Φ j w x → Φ j w' x) (S : World → Prop) (hS : ∀ w w', R w w' → S w → S w')
  (hstep : ∀ i o, ops[i]? = some o → ∀ vs w, S w → (∀ e ∈ o.after, Region.binds md e = true → Φ e.on w (vs e.on)) →
   ∀ K : Act → World → Prop, (∀ v w', R w w' → Φ i w' v → K ((fillR ops.toList 0 vs a0).put o.dst v) w') →
    if Region.wanted o (yielded ops (fillR ops.toList 0 vs a0).tmps) = true then Oper.wp P o (fillR ops.toList 0 vs a0) w K Q else K ((fillR ops.toList 0 vs a0).put o.dst undef) w)
  (hend : ∀ vs w, S w → (∀ i, i < ops.size → Φ i w (vs i)) → Q .normal (fillR ops.toList 0 vs a0) w) :
  ∀ (fuel : Nat) (listed : Array Bool) (vs : Nat → Value) (w : World), listed.size = ops.size → listed.toList.count false = fuel → S w → (∀ j, listed.getD j false = true → Φ j w (vs j)) →
   wpAny P md ops Q fuel listed (fillR ops.toList 0 vs a0) w := by
 intro fuel
 induction fuel with
 | zero =>
  intro listed vs w hs hc hSw hl
  have hall : ∀ i, i < ops.size → listed.getD i false = true := by
   intro i hi; have h' : i < listed.size := by omega
   rw [List.count_eq_zero] at hc
   cases hx : listed.getD i false with
   | true => rfl
   | false =>
    exfalso
    apply hc
    simp [h'] at hx; rw [← hx]; exact Array.getElem_mem_toList h'
  refine ⟨?_, hend vs w hSw (fun i hi => hl i (hall i hi))⟩; rw [List.eq_nil_iff_forall_not_mem]; intro i hi; obtain ⟨h1, o, ho, _⟩ := mem_ready.1 hi; have hi' : i < ops.size := (Array.getElem?_eq_some_iff.1 ho).1; have h2 := hall i hi'; have h' : i < listed.size := by omega
  simp [h'] at h1 h2; rw [h1] at h2
  cases h2
 | succ fuel ih =>
  intro listed vs w hs hc hSw hl; refine ⟨fun hr => hend vs w hSw (fun i hi => hl i (all_listed hb hs hr i hi)), fun i hi => ?_⟩; obtain ⟨h1, o, ho, hall⟩ := mem_ready.1 hi; have hi' : i < ops.size := (Array.getElem?_eq_some_iff.1 ho).1; have hil : i < listed.size := by omega
  refine wpOp_step ho fun K' hK => ?_
  refine hstep i o ho vs w hSw (fun e he hbd => hl e.on (hall e he hbd)) K' fun v w' hR hv => ?_
  apply hK
  rw [fillR_upd ops.toList 0 i vs a0 o v hd (by simpa using ho), Nat.zero_add]; refine ih _ _ _ (by simp [hs]) ?_ (hS _ _ hR hSw) ?_
  ·have h1' : listed.toList[i]'(by simpa using hil) = false := by simp [hil] at h1; simpa using h1
   simp only [Array.toList_setIfInBounds]; rw [List.count_set (by simpa using hil), h1', hc]; simp
  ·intro j hj; by_cases hji : j = i
   ·subst hji; rw [show upd vs j v j = v from if_pos rfl]; exact hv
   ·rw [show upd vs i v j = vs j from if_neg hji]; refine hΦ _ _ hR j _ (hl j ?_); simp [Array.getElem?_setIfInBounds, Ne.symm hji] at hj
    simpa using hj
/-- The rule: a region that draws its order. -/
theorem wp_region_inv {id : Nat} {a0 : Act} {w : World} (Φ : Nat → World → Value → Prop) (R : World → World → Prop) (S : World → Prop) (hm : P.follows .mixedOrders = true) (hd : apartL ops.toList = true) (hb : backB ops = true)
  (hΦ : ∀ w w', R w w' → ∀ j x, Φ j w x → Φ j w' x) (hS : ∀ w w', R w w' → S w → S w') (hS0 : S w.drew)
  (hstep : ∀ i o, ops[i]? = some o → ∀ vs w, S w → (∀ e ∈ o.after, Region.binds .any e = true → Φ e.on w (vs e.on)) →
   ∀ K : Act → World → Prop, (∀ v w', R w w' → Φ i w' v → K ((fillR ops.toList 0 vs a0).put o.dst v) w') →
    if Region.wanted o (yielded ops (fillR ops.toList 0 vs a0).tmps) = true then Oper.wp P o (fillR ops.toList 0 vs a0) w K Q else K ((fillR ops.toList 0 vs a0).put o.dst undef) w)
  (hend : ∀ vs w, S w → (∀ i, i < ops.size → Φ i w (vs i)) → Q .normal (fillR ops.toList 0 vs a0) w) : (Code.region id ops true).wp P Q a0 w := by
 refine wp_region_any hm ?_; have h := wpAny_inv (P := P) (Q := Q) (md := .any) a0 hd hb hΦ S hS hstep hend ops.size (Array.replicate ops.size false) (ownV ops.toList a0) w.drew (by simp) (by simp) hS0 (fun j hj => by rw [repF] at hj; cases hj); rw [fillR_id] at h
 ·exact h
 ·intro j o ho d hd'; rw [Nat.zero_add]; unfold ownV; rw [ho]; simp [hd']
theorem exE1 {α : Type} {p : α → Prop} {G : Prop} (h : ∃ a, p a) (k : ∀ a, p a → G) : G := h.elim k
theorem exE2 {α β : Type} {p : α → β → Prop} {G : Prop} (h : ∃ a b, p a b) (k : ∀ a b, p a b → G) : G := h.elim fun a h => h.elim (k a)
theorem exE3 {α β γ : Type} {p : α → β → γ → Prop} {G : Prop} (h : ∃ a b c, p a b c) (k : ∀ a b c, p a b c → G) : G := h.elim fun a h => exE2 h (k a)
theorem exE4 {α β γ δ : Type} {p : α → β → γ → δ → Prop} {G : Prop} (h : ∃ a b c d, p a b c d) (k : ∀ a b c d, p a b c d → G) : G := h.elim fun a h => exE3 h (k a)
/-- one obligation for each operation of a list -/
def StepsL (F : Nat → Oper → Prop) (k : Nat) (l : List Oper) : Prop := ∀ i o, l[i]? = some o → F (k + i) o
theorem sZ {F : Nat → Oper → Prop} {k : Nat} : StepsL F k [] := fun i o h => by simp at h
theorem sK {F : Nat → Oper → Prop} {k : Nat} {o : Oper} {l : List Oper} (h : F k o) (hs : StepsL F (k + 1) l) : StepsL F k (o :: l) := by
 intro i o' ho
 rcases i with _ | i
 ·obtain rfl : o = o' := by simpa using ho
  exact h
 ·have := hs i o' (by simpa using ho)
  rwa [show k + 1 + i = k + (i + 1) by omega] at this
/-- keeps a goal closed -/
structure Wrap (p : Prop) : Prop where
 un : p
/-- what an operation owes -/
def Owes (P : Program) (Q : Exit → Act → World → Prop) (l : List Oper) (a0 : Act) (Φ : Nat → World → Value → Prop) (R : World → World → Prop) (S : World → Prop) (i : Nat) (o : Oper) : Prop :=
 ∀ vs w, S w → (∀ e ∈ o.after.toList, Region.binds .any e = true → Φ e.on w (vs e.on)) → ∀ K : Act → World → Prop, (∀ v w', R w w' → Φ i w' v → K ((fillR l 0 vs a0).put o.dst v) w') →
  Wrap (if Region.wanted o (yielded l.toArray (fillR l 0 vs a0).tmps) = true then Oper.wp P o (fillR l 0 vs a0) w K Q else K ((fillR l 0 vs a0).put o.dst undef) w)
theorem region_inv {id : Nat} {a0 : Act} {w : World} {l : List Oper} (Φ : Nat → World → Value → Prop) (R : World → World → Prop) (S : World → Prop) (hm : P.follows .mixedOrders = true) (hd : apartL l = true) (hb : backB l.toArray = true)
  (hΦ : ∀ w w', R w w' → ∀ j x, Φ j w x → Φ j w' x) (hS : ∀ w w', R w w' → S w → S w') (hS0 : S w.drew)
  (hstep : StepsL (Owes P Q l a0 Φ R S) 0 l)
  (hend : ∀ vs w, S w → (∀ i, i < l.length → Φ i w (vs i)) → Q .normal (fillR l 0 vs a0) w) : (Code.region id l.toArray true).wp P Q a0 w := by
 refine wp_region_inv Φ R S hm hd hb hΦ hS hS0 (fun i o ho vs w hSw hdep K hK => ?_) (fun vs w hSw h => hend vs w hSw (fun i hi => h i (by simpa using hi))); have := hstep i o (by simpa using ho); rw [Nat.zero_add] at this; exact (this vs w hSw (fun e he hbd => hdep e (by simpa using he) hbd) K hK).un
end
end Go.Proofs.Yticobffjnjbjiaa
namespace Go.Proofs.Yticobffjnjbjiaa
open Go.RowKit
/-- a boxed ratio -/
def Box (w : World) (g : Nat) (v1 v2 : Value) : Prop := Blk w g 24 #[v1, v2]
theorem Box.below {w w' : World} {g : Nat} {v1 v2 : Value} (h : Box w g v1 v2) (hb : Below w.heap.size w w') : Box w' g v1 v2 := Blk.below h hb h.lt
theorem Box.facts {w : World} {g : Nat} {v1 v2 : Value} (h : Box w g v1 v2) : w.cell? ⟨g, 0, none⟩ = some v1 ∧ w.cell? ⟨g, 1, none⟩ = some v2 := ⟨h.cell 0, h.cell 1⟩
theorem Nb.one (w : World) (g : Nat) (hg : g = w.heap.size) : Nb (w.alloc (.cells #[.int .u32 1] 105)) (some ⟨g, 0, none⟩) 1 1 1 := by
 subst hg; have h : Row (w.alloc (.cells #[.int .u32 1] 105)) w.heap.size [1] := ⟨Blk.new w _ _, fun x hx => by rw [List.mem_singleton.1 hx]; unfold Nm.B; omega⟩; have := h.lim (c := 1) (by simp) (by omega); rw [← Nm.lb_one] at this; exact ⟨by rw [Nm.lb_one]; rfl, this⟩
theorem dn_zero {q : Nat} (hq : 0 < q) (h : Nm.dn q = 0) : q = 1 := by
 unfold Nm.dn at h; split at h <;> omega
set_option maxHeartbeats 1000000 in
theorem den_n (A1 A2 : Option Addr) (k1 c1 k2 c2 q : Nat) (w : World) (h2 : Nb w A2 k2 c2 (Nm.dn q)) (hq : 0 < q) (hk : k2 ≤ 65536) :
  Calls Try.prog 77 #[.agg #[.slice A1 k1 c1, .slice A2 k2 c2]] w fun e w' => ∃ A k c, e = .returned (.slice A k c) ∧ Nb w' A k c q ∧ Hid (k ≤ max k2 1) ∧ Below w.heap.size w w' := by
 rcases Nat.eq_zero_or_pos k2 with rfl | hk2
 ·have hq1 : q = 1 := dn_zero hq (by have := h2.1; have := List.eq_nil_of_length_eq_zero this.symm; rwa [Nm.lb_nil_iff] at this); have HF := Lib.hid hq1; clear hq1
  go_enter Try.func77, Try.ntmps77
  go_wp2
  go_ret; rw [HF.out]; exact ⟨_, _, _, rfl, Nb.one _ _ (by simp), show (1 : Nat) ≤ _ by omega, Below.tr (bA _ _) (bA _ _)⟩
 ·have hq1 : q ≠ 1 := fun h => by rw [h] at h2; have := h2.kzero; omega
  rw [Nm.dn_ne hq1] at h2; clear hq1
  go_enter Try.func77, Try.ntmps77
  go_wp2
  go_ret; exact ⟨_, _, _, rfl, h2.alloc _, show k2 ≤ _ by omega, bA _ _⟩
set_option maxHeartbeats 1000000 in
theorem rden_n (A1 A2 : Option Addr) (k1 c1 k2 c2 q : Nat) (w : World) (h2 : Nb w A2 k2 c2 (Nm.dn q)) (hq : 0 < q) (hk : k2 ≤ 65536) :
  Calls Try.prog 53 #[.agg #[.slice A1 k1 c1, .slice A2 k2 c2]] w fun e w' => ∃ A k c, e = .returned (.slice A k c) ∧ Nb w' A k c q ∧ Hid (k ≤ max k2 1) ∧ Below w.heap.size w w' := by
 rcases Nat.eq_zero_or_pos k2 with rfl | hk2
 ·have hq1 : q = 1 := dn_zero hq (by have := h2.1; have := List.eq_nil_of_length_eq_zero this.symm; rwa [Nm.lb_nil_iff] at this); have HF := Lib.hid hq1; clear hq1
  go_enter Try.func53, Try.ntmps53
  go_wp2
  go_ret; rw [HF.out]; exact ⟨_, _, _, rfl, Nb.one _ _ (by simp), show (1 : Nat) ≤ _ by omega, Below.tr (bA _ _) (bA _ _)⟩
 ·have hq1 : q ≠ 1 := fun h => by rw [h] at h2; have := h2.kzero; omega
  rw [Nm.dn_ne hq1] at h2; clear hq1
  go_enter Try.func53, Try.ntmps53
  go_wp2
  go_ret; exact ⟨_, _, _, rfl, h2.alloc _, show k2 ≤ _ by omega, bA _ _⟩
theorem times_n (A1 A2 : Option Addr) (c1 c2 k1 k2 x y : Nat) (w : World) (h1 : Nb w A1 k1 c1 x) (h2 : Nb w A2 k2 c2 y) (hl1 : k1 ≤ 65536) (hl2 : k2 ≤ 65536) :
  Calls Try.prog 76 #[.slice A1 k1 c1, .slice A2 k2 c2] w fun e w' => ∃ A k c, e = .returned (.slice A k c) ∧ Nb w' A k c (x * y) ∧ Below w.heap.size w w' := by
 obtain ⟨rfl, h1⟩ := h1; obtain ⟨rfl, h2⟩ := h2; refine (times_any A1 A2 c1 c2 _ _ w h1 h2 (by omega) (by omega)).mono ?_; rintro e w' ⟨A, n, rfl, hn, hl, hb⟩; rw [Nm.nv_lb, Nm.nv_lb] at hn hl; exact ⟨A, n, n, rfl, ⟨hn, hl⟩, hb⟩
end Go.Proofs.Yticobffjnjbjiaa
namespace Go.Proofs.Yticobffjnjbjiaa.Nm
/-- the error of a ratio of limbs -/
def validE (l1 l2 : List Nat) : Int :=
 if 64 < l1.length ∨ 64 < l2.length then 4
 else if (lb (nv l1)).length < l1.length ∨ (lb (nv l2)).length < l2.length ∨ nv l2 = 1 ∨ (nv l1 = 0 ∧ 0 < nv l2) ∨ (0 < nv l2 ∧ Nat.gcd (nv l1) (nv l2) ≠ 1) then 1 else 0
theorem lb_nv_le {l : List Nat} (h : Lim l) : (lb (nv l)).length ≤ l.length := lb_length_lt.2 (nv_lt h)
theorem last_pos {l : List Nat} (h : l ≠ []) (hp : l.getLast h ≠ 0) : B ^ (l.length - 1) ≤ nv l := by
 have e : l = l.dropLast ++ [l.getLast h] := (List.dropLast_concat_getLast h).symm
 have h2 : nv l = nv l.dropLast + B ^ l.dropLast.length * l.getLast h := by
  conv => lhs; rw [e]
  exact nv_snoc _ _
 rw [h2, List.length_dropLast]; have : B ^ (l.length - 1) * 1 ≤ B ^ (l.length - 1) * l.getLast h := Nat.mul_le_mul_left _ (by omega); omega
theorem lb_of_len {l : List Nat} (h : Lim l) (hl : ¬ (lb (nv l)).length < l.length) : lb (nv l) = l := by
 refine lb_nv h fun hne h0 => hl ?_
 have e : l = l.dropLast ++ [l.getLast hne] := (List.dropLast_concat_getLast hne).symm
 have h2 : nv l = nv l.dropLast := by
  conv => lhs; rw [e, nv_snoc, h0]
  simp
 have h3 := lb_nv_le (l := l.dropLast) (fun x hx => h x ((List.dropLast_sublist l).subset hx)); rw [← h2, List.length_dropLast] at h3; have : 0 < l.length := List.length_pos_iff.2 hne; omega
theorem validE_big1 {l1 l2 : List Nat} (h : 64 < l1.length) : validE l1 l2 = 4 := if_pos (.inl h)
theorem validE_big2 {l1 l2 : List Nat} (h : 64 < l2.length) : validE l1 l2 = 4 := if_pos (.inr h)
theorem validE_bad {l1 l2 : List Nat} (h1 : l1.length ≤ 64) (h2 : l2.length ≤ 64) (h : (lb (nv l1)).length < l1.length ∨ (lb (nv l2)).length < l2.length ∨ nv l2 = 1 ∨ (nv l1 = 0 ∧ 0 < nv l2) ∨ (0 < nv l2 ∧ Nat.gcd (nv l1) (nv l2) ≠ 1)) : validE l1 l2 = 1 := by
 unfold validE; rw [if_neg (by omega), if_pos h]
theorem validE_good {l1 l2 : List Nat} (h1 : l1.length ≤ 64) (h2 : l2.length ≤ 64) (h : ¬ ((lb (nv l1)).length < l1.length ∨ (lb (nv l2)).length < l2.length ∨ nv l2 = 1 ∨ (nv l1 = 0 ∧ 0 < nv l2) ∨ (0 < nv l2 ∧ Nat.gcd (nv l1) (nv l2) ≠ 1))) : validE l1 l2 = 0 := by
 unfold validE; rw [if_neg (by omega), if_neg h]
/-- what a ratio without an error is -/
structure Good (p q : Nat) : Prop where
 pos : 0 < q
 gcd : Nat.gcd p q = 1
 fits : Fits p q
theorem validE_spec {l1 l2 : List Nat} (hl1 : Lim l1) (hl2 : Lim l2) (h : validE l1 l2 = 0) : ∃ p q, l1 = lb p ∧ l2 = lb (dn q) ∧ Good p q := by
 unfold validE at h
 split at h
 ·cases h
 ·split at h
  ·cases h
  ·rename_i g1 g2
   have a1 := lb_of_len hl1 (fun h => g2 (.inl h)); have a2 := lb_of_len hl2 (fun h => g2 (.inr (.inl h)))
   rcases Nat.eq_zero_or_pos (nv l2) with h0 | h0
   ·have e2 : l2 = [] := by rw [← a2, h0, lb_zero]
    refine ⟨nv l1, 1, a1.symm, by rw [e2, dn_one, lb_zero], ⟨by omega, Nat.gcd_one_right _, ?_, ?_⟩⟩
    ·rw [a1]; omega
    ·rw [dn_one, lb_zero]; simp
   ·have n1 : nv l2 ≠ 1 := fun h => g2 (.inr (.inr (.inl h)))
    have n2 : Nat.gcd (nv l1) (nv l2) = 1 := by
     by_cases h : Nat.gcd (nv l1) (nv l2) = 1
     ·exact h
     ·exact absurd (.inr (.inr (.inr (.inr ⟨h0, h⟩)))) g2
    refine ⟨nv l1, nv l2, a1.symm, by rw [dn_ne n1, a2], ⟨h0, n2, ?_, ?_⟩⟩
    ·rw [a1]; omega
    ·rw [dn_ne n1, a2]; omega
theorem validE_of {p q : Nat} (h : Good p q) : validE (lb p) (lb (dn q)) = 0 := by
 refine validE_good h.fits.1 h.fits.2 ?_; rw [nv_lb, nv_lb]; rintro (h1 | h1 | h1 | h1 | h1)
 ·omega
 ·omega
 ·unfold dn at h1; split at h1 <;> omega
 ·have h2 := h.gcd; rw [h1.1, Nat.gcd_zero_left] at h2; rw [h2, dn_one] at h1; omega
 ·by_cases hq : q = 1
  ·rw [hq, dn_one] at h1; omega
  ·rw [dn_ne hq] at h1; exact h1.2 h.gcd
end Go.Proofs.Yticobffjnjbjiaa.Nm
namespace Go.Proofs.Yticobffjnjbjiaa
open Go.RowKit
theorem trim_q (A : Option Addr) (c k k' : Nat) (l : List Nat) (w : World) (hr : Lim w A c l) (hk : k = l.length) (hk' : k' = (Nm.lb (Nm.nv l)).length) :
  Calls Try.prog 94 #[.slice A k c] w fun e w' => e = .returned (.slice A k' k') ∧ w' = w := by
 subst hk'; exact (trim_k A c k l w hr hk).mono fun e w' ⟨h1, h2⟩ => ⟨h1, h2.symm⟩
theorem Lim.nbt {w : World} {A : Option Addr} {c k : Nat} {l : List Nat} (h : Lim w A c l) (hk : k = (Nm.lb (Nm.nv l)).length) : Nb w A k k (Nm.nv l) := by
 subst hk; exact ⟨rfl, h.trim⟩
set_option maxRecDepth 10000 in
set_option maxHeartbeats 2000000 in
theorem valid_any (A1 A2 : Option Addr) (k1 c1 k2 c2 : Nat) (l1 l2 : List Nat) (w : World) (h1 : Lim w A1 c1 l1) (h2 : Lim w A2 c2 l2) (e1 : k1 = l1.length) (e2 : k2 = l2.length) :
  Calls Try.prog 54 #[.agg #[.slice A1 k1 c1, .slice A2 k2 c2]] w fun e w' => e = .returned (.int .i64 (Nm.validE l1 l2)) ∧ Below w.heap.size w w' := by
 have hkb1 : k1 ≤ 9223372036854775807 := by have := h1.2.1; have := h1.2.2.1; omega
 have hkb2 : k2 ≤ 9223372036854775807 := by have := h2.2.1; have := h2.2.2.1; omega
 have E1 := Lib.hid e1; have E2 := Lib.hid e2; obtain ⟨E, HE⟩ : ∃ E, Hid (E = Nm.validE l1 l2) := ⟨_, rfl⟩; rw [← HE.out]; by_cases hs1 : 64 < k1
 ·have hv : E = 4 := by rw [HE.out]; exact Nm.validE_big1 (by omega)
  clear e1 e2; subst hv; have hd1 : decide ((64 : Int) < (k1 : Int)) = true := by simp; omega
  go_enter Try.func54, Try.ntmps54
  go_wp2
  go_ret; exact ⟨rfl, bA _ _⟩
 by_cases hs2 : 64 < k2
 ·have hv : E = 4 := by rw [HE.out]; exact Nm.validE_big2 (by omega)
  clear e1 e2; subst hv; have hd1 : decide ((64 : Int) < (k1 : Int)) = false := by simp; omega
  have hd2 : decide ((64 : Int) < (k2 : Int)) = true := by simp; omega
  go_enter Try.func54, Try.ntmps54
  go_wp2
  go_ret; exact ⟨rfl, bA _ _⟩
 have hd1 : decide ((64 : Int) < (k1 : Int)) = false := by simp; omega
 have hd2 : decide ((64 : Int) < (k2 : Int)) = false := by simp; omega
 obtain ⟨t1, HT1⟩ : ∃ t1, Hid (t1 = (Nm.lb (Nm.nv l1)).length) := ⟨_, rfl⟩; obtain ⟨t2, HT2⟩ : ∃ t2, Hid (t2 = (Nm.lb (Nm.nv l2)).length) := ⟨_, rfl⟩; have hB := Nm.validE_bad (l1 := l1) (l2 := l2) (by omega) (by omega); have hG := Nm.validE_good (l1 := l1) (l2 := l2) (by omega) (by omega); have ht1 : t1 ≤ k1 := by rw [HT1.out, e1]; exact Nm.lb_nv_le h1.limb
 have ht2 : t2 ≤ k2 := by rw [HT2.out, e2]; exact Nm.lb_nv_le h2.limb
 rw [← HT1.out, ← HT2.out, ← e1, ← e2, ← HE.out] at hB hG; have HB := Lib.hid hB; have HG := Lib.hid hG; clear hB hG e1 e2; by_cases q1 : t1 < k1
 ·obtain rfl : E = 1 := HB.out (.inl q1); clear HB HG
  go_enter Try.func54, Try.ntmps54
  go_wp2_with fail
  go_quiet ((first | (go_at_call_of 94 (Value.slice A1 k1 c1); exact Calls.quiet_of_same (trim_q _ _ _ _ l1 _ ((h1.alloc _).drewN _) E1.out HT1.out)) | (go_at_call_of 94 (Value.slice A2 k2 c2); exact Calls.quiet_of_same (trim_q _ _ _ _ l2 _ ((h2.alloc _).drewN _) E2.out HT2.out))))
  go_wp2_with fail; go_ret; exact ⟨rfl, Below.tr (bA _ _) (below_drewN _ _)⟩
 by_cases q2 : t2 < k2
 ·obtain rfl : E = 1 := HB.out (.inr (.inl q2)); have hd3 : decide (t1 < k1) = false := by simp; omega
  clear HB HG
  go_enter Try.func54, Try.ntmps54
  go_wp2_with fail
  go_quiet ((first | (go_at_call_of 94 (Value.slice A1 k1 c1); exact Calls.quiet_of_same (trim_q _ _ _ _ l1 _ ((h1.alloc _).drewN _) E1.out HT1.out)) | (go_at_call_of 94 (Value.slice A2 k2 c2); exact Calls.quiet_of_same (trim_q _ _ _ _ l2 _ ((h2.alloc _).drewN _) E2.out HT2.out))))
  go_wp2_with fail; go_ret; exact ⟨rfl, Below.tr (bA _ _) (below_drewN _ _)⟩
 have hd3 : decide (t1 < k1) = false := by simp; omega
 have hd4 : decide (t2 < k2) = false := by simp; omega
 have N2 : ∀ w', Below w.heap.size w w' → Nb w' A2 t2 t2 (Nm.nv l2) := fun w' hb => (h2.nbt HT2.out).below hb
 have N1 : ∀ w', Below w.heap.size w w' → Nb w' A1 t1 t1 (Nm.nv l1) := fun w' hb => (h1.nbt HT1.out).below hb
 have HN1 := Lib.hid N1; have HN2 := Lib.hid N2; have nb1 := h1.nbt HT1.out; have nb2 := h2.nbt HT2.out; clear N1 N2; have hq1 : ¬ t1 < k1 := q1; have hq2 : ¬ t2 < k2 := q2; clear q1 q2; by_cases hn1 : Nm.nv l2 = 1
 ·obtain rfl : E = 1 := HB.out (.inr (.inr (.inl hn1))); have HO := Lib.hid hn1; clear HB HG hn1
  go_enter Try.func54, Try.ntmps54
  go_wp2_with fail
  go_quiet ((first | (go_at_call_of 94 (Value.slice A1 k1 c1); exact Calls.quiet_of_same (trim_q _ _ _ _ l1 _ ((h1.alloc _).drewN _) E1.out HT1.out)) | (go_at_call_of 94 (Value.slice A2 k2 c2); exact Calls.quiet_of_same (trim_q _ _ _ _ l2 _ ((h2.alloc _).drewN _) E2.out HT2.out))))
  go_wp2_with fail; refine (isOne_t _ _ _ _ _ (HN2.out _ (Below.tr (bA _ _) (below_drewN _ _))) HO.out).mono ?_; rintro e w' ⟨rfl, rfl⟩; go_wp2_with fail; go_ret; exact ⟨rfl, Below.tr (bA _ _) (below_drewN _ _)⟩
 have HO := Lib.hid hn1
 rcases Nat.eq_zero_or_pos (Nm.nv l2) with hn0 | hn0
 ·obtain rfl : E = 0 := HG.out (by omega); obtain rfl : t2 = 0 := by rw [hn0] at nb2; exact nb2.kzero
  clear HB HG hn1 hn0 nb1 nb2
  go_enter Try.func54, Try.ntmps54
  go_wp2_with fail
  go_quiet ((first | (go_at_call_of 94 (Value.slice A1 k1 c1); exact Calls.quiet_of_same (trim_q _ _ _ _ l1 _ ((h1.alloc _).drewN _) E1.out HT1.out)) | (go_at_call_of 94 (Value.slice A2 k2 c2); exact Calls.quiet_of_same (trim_q _ _ _ _ l2 _ ((h2.alloc _).drewN _) E2.out HT2.out))))
  go_wp2_with fail; refine (isOne_f _ _ _ _ _ (HN2.out _ (Below.tr (bA _ _) (below_drewN _ _))) HO.out).mono ?_; rintro e w' ⟨rfl, rfl⟩; go_wp2_with fail
  all_goals
   go_ret; exact ⟨rfl, Below.tr (bA _ _) (below_drewN _ _)⟩
 have ht20 : 0 < t2 := nb2.pos hn0
 rcases Nat.eq_zero_or_pos (Nm.nv l1) with hm0 | hm0
 ·obtain rfl : E = 1 := HB.out (.inr (.inr (.inr (.inl ⟨hm0, hn0⟩)))); obtain rfl : t1 = 0 := by rw [hm0] at nb1; exact nb1.kzero
  clear HB HG hn1 hn0 nb1 nb2 hm0
  go_enter Try.func54, Try.ntmps54
  go_wp2_with fail
  go_quiet ((first | (go_at_call_of 94 (Value.slice A1 k1 c1); exact Calls.quiet_of_same (trim_q _ _ _ _ l1 _ ((h1.alloc _).drewN _) E1.out HT1.out)) | (go_at_call_of 94 (Value.slice A2 k2 c2); exact Calls.quiet_of_same (trim_q _ _ _ _ l2 _ ((h2.alloc _).drewN _) E2.out HT2.out))))
  go_wp2_with fail; refine (isOne_f _ _ _ _ _ (HN2.out _ (Below.tr (bA _ _) (below_drewN _ _))) HO.out).mono ?_; rintro e w' ⟨rfl, rfl⟩; go_wp2_with fail; go_ret; exact ⟨rfl, Below.tr (bA _ _) (below_drewN _ _)⟩
 have HT10 := Lib.hid (nb1.pos hm0); by_cases hg : Nat.gcd (Nm.nv l1) (Nm.nv l2) = 1
 ·obtain rfl : E = 0 := HG.out (by omega); have HGG := Lib.hid hg; clear HB HG hn1 hn0 nb1 nb2 hm0 hg
  go_enter Try.func54, Try.ntmps54
  go_wp2_with fail
  go_quiet ((first | (go_at_call_of 94 (Value.slice A1 k1 c1); exact Calls.quiet_of_same (trim_q _ _ _ _ l1 _ ((h1.alloc _).drewN _) E1.out HT1.out)) | (go_at_call_of 94 (Value.slice A2 k2 c2); exact Calls.quiet_of_same (trim_q _ _ _ _ l2 _ ((h2.alloc _).drewN _) E2.out HT2.out))))
  have ht10 := HT10.out; have hbz : ((t1 : Int) == 0) = false := by simp; omega
  go_wp2_with fail; refine (isOne_f _ _ _ _ _ (HN2.out _ (Below.tr (bA _ _) (below_drewN _ _))) HO.out).mono ?_; rintro e w' ⟨rfl, rfl⟩; go_wp2_with fail; refine (common_n _ _ _ _ _ _ _ _ _ (HN1.out _ (Below.tr (bA _ _) (below_drewN _ _))) (HN2.out _ (Below.tr (bA _ _) (below_drewN _ _))) (by omega) (by omega)).mono ?_; rintro e w' ⟨A, k, c, rfl, hnb, hb⟩; go_wp2_with fail; refine (isOne_t _ _ _ _ _ hnb HGG.out).mono ?_; rintro e w' ⟨rfl, rfl⟩; go_wp2_with fail; go_ret; exact ⟨rfl, Below.tr (Below.tr (bA _ _) (below_drewN _ _)) hb⟩
 ·obtain rfl : E = 1 := HB.out (.inr (.inr (.inr (.inr ⟨hn0, hg⟩)))); have HGG := Lib.hid hg; clear HB HG hn1 hn0 nb1 nb2 hm0 hg
  go_enter Try.func54, Try.ntmps54
  go_wp2_with fail
  go_quiet ((first | (go_at_call_of 94 (Value.slice A1 k1 c1); exact Calls.quiet_of_same (trim_q _ _ _ _ l1 _ ((h1.alloc _).drewN _) E1.out HT1.out)) | (go_at_call_of 94 (Value.slice A2 k2 c2); exact Calls.quiet_of_same (trim_q _ _ _ _ l2 _ ((h2.alloc _).drewN _) E2.out HT2.out))))
  have ht10 := HT10.out; have hbz : ((t1 : Int) == 0) = false := by simp; omega
  go_wp2_with fail; refine (isOne_f _ _ _ _ _ (HN2.out _ (Below.tr (bA _ _) (below_drewN _ _))) HO.out).mono ?_; rintro e w' ⟨rfl, rfl⟩; go_wp2_with fail; refine (common_n _ _ _ _ _ _ _ _ _ (HN1.out _ (Below.tr (bA _ _) (below_drewN _ _))) (HN2.out _ (Below.tr (bA _ _) (below_drewN _ _))) (by omega) (by omega)).mono ?_; rintro e w' ⟨A, k, c, rfl, hnb, hb⟩; go_wp2_with fail; refine (isOne_f _ _ _ _ _ hnb HGG.out).mono ?_; rintro e w' ⟨rfl, rfl⟩; go_wp2_with fail; go_ret; exact ⟨rfl, Below.tr (Below.tr (bA _ _) (below_drewN _ _)) hb⟩
end Go.Proofs.Yticobffjnjbjiaa
