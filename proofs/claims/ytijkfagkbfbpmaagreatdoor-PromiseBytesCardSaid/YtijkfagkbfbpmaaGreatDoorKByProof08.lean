import Derived.Test.YtijkfagkbfbpmaaGreatDoorKByProof07
import Derived.Deep.CutRange
import Derived.Deep.RegionWith
import Derived.Deep.RegionHeld3
import Derived.StillTailTactics
import Derived.Deep.CutBlock
import Derived.Deep.LoopGhost
import Derived.Test.YtijkfagkbfbpmaaGreatDoorKByProof05
import Derived.Test.YtijkfagkbfbpmaaGreatDoorKByProof04
import Derived.Deep.QuietTactic
import Derived.BigQuiet
import Derived.Test.YtijkfagkbfbpmaaGreatDoorS0
set_option linter.unusedVariables false
set_option linter.unusedSimpArgs false
namespace Go.Proofs.YtijkfagkbfbpmaaGreatDoor
open Go.RowKit
theorem lz_any (t : Nat) (w : World) (h : 0 < t) (ht : t < 4294967296) :
  Calls Tryz.prog 173 #[.int .u32 t] w fun e w' => ∃ s : Nat, e = .returned (.int .i64 (s : Int)) ∧ s ≤ 31 ∧ Hid (2147483648 ≤ t * 2 ^ s ∧ (t + 1) * 2 ^ s ≤ 4294967296) ∧ w = w' := by
 refine (Tryz.bits_LeadingZeros32 t w (by omega) (by omega)).mono ?_; rintro e w' ⟨he, hw⟩; obtain ⟨g1, g2, g3, g4⟩ := bitLen_top t h ht; rw [Int.toNat_natCast] at he; refine ⟨32 - Lib.bitLen t, ?_, by omega, ⟨g3, g4⟩, hw.symm⟩; rw [he]
 congr 2
 omega
theorem u64w (n : Nat) (h : n < 18446744073709551616) : IntKind.u64.wrap (n : Int) = (n : Int) := by rw [IntKind.wrap_u64]; omega
theorem trim_e (A : Option Addr) (c k k' : Nat) (l : List Nat) (w : World) (hr : Lim w A c l) (hk : k = l.length) (hk' : k' = (Nm.lb (Nm.nv l)).length) :
  Calls Tryz.prog 101 #[.slice A k c] w fun e w' => e = .returned (.slice A k' k') ∧ w = w' := by
 subst hk'; exact trim_k A c k l w hr hk
set_option maxRecDepth 100000 in
set_option maxHeartbeats 8000000 in
theorem divide_big (A1 A2 : Option Addr) (c1 c2 n m k1 m2 : Nat) (w : World) (h1 : Lim w A1 c1 (Nm.lb n)) (h2 : Lim w A2 c2 (Nm.lb m)) (e1 : k1 = (Nm.lb n).length) (e2 : m2 + 2 = (Nm.lb m).length) (hl1 : k1 ≤ 1048570) (hge : m ≤ n) :
  Calls Tryz.prog 145 #[.slice A1 k1 c1, .slice A2 (m2 + 2) c2] w fun e w' => ∃ A k A' k', e = .returned (.tuple #[.slice A k k, .slice A' k' k']) ∧ k = (Nm.lb (n / m)).length ∧ Lim w' A k (Nm.lb (n / m)) ∧ k' = (Nm.lb (n % m)).length ∧ Lim w' A' k' (Nm.lb (n % m)) ∧ Below w.heap.size w w' := by
 have HC : ∃ c : Int, 0 ≤ c ∧ Hid (Nm.cmpN n m = c) := by
  by_cases h : n = m
  ·exact ⟨0, by omega, Nm.cmpN_eq h⟩
  ·exact ⟨1, by omega, Nm.cmpN_gt (by omega)⟩
 obtain ⟨cc, hcc, HC⟩ := HC; have hlen : m2 + 2 ≤ k1 := by have := Nm.lb_length_le_of_lt hge; omega
 obtain ⟨b, off, t, rfl, hc, ht, HT⟩ := h2.get (k := m2 + 1) (by omega)
 have ht0 : 0 < t := by
  have hp := Nm.proper_lb m (by intro h; rw [h] at e2; simp at e2); rw [List.getLast_eq_getElem] at hp
  have : t = (Nm.lb m)[(Nm.lb m).length - 1]'(by omega) := by
   rw [HT.out]; have e3 : (Nm.lb m).length - 1 = m2 + 1 := by omega
   simp only [e3]; exact Nm.getD_of_lt (by omega)
  omega
 have E1 := Lib.hid e1; have E2 := Lib.hid e2; clear e1 e2
 go_enter Tryz.func145, Tryz.ntmps145
 go_wp2_with (first
  | (go_at_call 108; refine (compare_any _ _ _ _ n m _ _ _ h1 h2 E1.out E2.out).mono ?_; rw [HC.out]; rintro e w' ⟨rfl, q, rfl⟩)
  | (go_at_call 173; refine (lz_any t _ ht0 ht).mono ?_; rintro e w' ⟨s, rfl, hs, HS, rfl⟩))
 refine (shift_k _ _ s _ (Nm.lb m) _ (h2.drewN q) E2.out (by omega) hs).mono ?_; rintro e w1 ⟨g1, out1, rfl, hg1, hrow1, HO1, hb1⟩
 obtain ⟨HN, HT2⟩ : Hid (m2 + 2 = (Nm.lb (Nm.nv out1)).length) ∧ Hid (Nm.B ≤ 2 * (Nm.lb (Nm.nv out1)).getD (m2 + 1) 0) := by
  have := Nm.norm_len E2.out HT.out HS.1 HS.2; have e3 : Nm.nv out1 = m * 2 ^ s := by rw [HO1.2.1, Nm.nv_lb]
  rw [e3]; exact this
 have hv := (hrow1.lim (c := m2 + 2 + 1) (by rw [HO1.1]; omega) (by omega))
 go_wp2_with (go_at_call 101; refine (trim_e _ _ _ (m2 + 2) out1 _ hv (by rw [HO1.1]) HN.out).mono ?_; rintro e w' ⟨rfl, rfl⟩)
 have hx1 := (h1.drewN q).below hb1; refine (shift_k _ _ s _ (Nm.lb n) _ hx1 E1.out (by omega) hs).mono ?_; rintro e w2 ⟨g2, U, rfl, hg2, hrow2, HO2, hb2⟩; have hg12 : g1 < g2 := Nat.lt_of_lt_of_le hrow1.1.lt hg2; obtain ⟨L, HL⟩ : ∃ L : Nat, Hid (k1 + 1 = L + (m2 + 2)) := ⟨k1 - m2 - 1, by show _ = _; omega⟩; have hLk : L ≤ k1 := by have := HL.out; omega
 have hLm : k1 + 1 ≤ L + (m2 + 2) := by have := HL.out; omega
 have hLm2 : L + (m2 + 2) ≤ k1 + 1 := by have := HL.out; omega
 have hmk := run_make32 (↑k1 + 1 - (↑m2 + 2)) L (by omega) (by omega) w2; have HM : Hid (Nm.nv U = n * 2 ^ s) := by have := HO2.2.1; rwa [Nm.nv_lb] at this
 have hD0 : Nm.DivR U (List.replicate L 0) (Nm.lb (Nm.nv out1)) (n * 2 ^ s) (k1 + 1) L := by
  have := Nm.div_start hrow2.2 HO2.1 hlen HO2.2.2 hs HN.out.symm HT2.out; have e : k1 + 1 - (m2 + 2) = L := by omega
  rw [e, HM.out] at this; exact this
 obtain ⟨V, HV⟩ : ∃ V, Hid (V = Nm.lb (Nm.nv out1)) := ⟨_, rfl⟩; have hVl : Lim w1 (some ⟨g1, 0, none⟩) (m2 + 2) V := by have := hv.trim; rw [← HN.out, ← HV.out] at this; exact this
 have HVl : Hid (V.length = m2 + 2) := by show _ = _; rw [HV.out, ← HN.out]
 have HVn : Hid (Nm.nv V = m * 2 ^ s) := by show _ = _; rw [HV.out, Nm.nv_lb, HO1.2.1, Nm.nv_lb]
 rw [← HV.out] at hD0; have HVt : Hid (Nm.B ≤ 2 * V.getD (m2 + 1) 0) := by have := HT2.out; rwa [← HV.out] at this
 go_wp2_with fail; have hb3 : Below w.heap.size w (w2.alloc (.cells (arr (List.replicate L 0)) 104)) := Below.tr (Below.tr (Below.tr (below_drewN w q) hb1) hb2) (bA _ _); have hg2w : g2 < w2.heap.size := hrow2.1.lt; have hg1w : w.heap.size ≤ g1 := hg1; have hg2w' : w.heap.size ≤ g2 := by omega
 have hR2 : Row (w2.alloc (.cells (arr (List.replicate L 0)) 104)) g2 U := hrow2.below (bA _ _); have hR3 : Row (w2.alloc (.cells (arr (List.replicate L 0)) 104)) w2.heap.size (List.replicate L 0) := Row.new _ _; have hV3 : Lim (w2.alloc (.cells (arr (List.replicate L 0)) 104)) (some ⟨g1, 0, none⟩) (m2 + 2) V := (hVl.below hb2).below (bA _ _); have hg3w : w.heap.size ≤ w2.heap.size := by omega
 generalize w2.heap.size = g3 at *
 go_loopg [13] L (fun j x wr => ∃ (U' out : List Nat), x = .int .i64 ((j : Int) - 1) ∧ j ≤ L ∧ Row wr g2 U' ∧ Row wr g3 out ∧ Lim wr (some ⟨g1, 0, none⟩) (m2 + 2) V ∧ Hid (Nm.DivR U' out V (n * 2 ^ s) (k1 + 1) j) ∧ Below w.heap.size w wr)
 case atStart => exact ⟨U, _, by congr 1; omega, Nat.le_refl _, hR2, hR3, hV3, hD0, hb3⟩
 case round =>
  clear hR2 hR3 hV3 hb3 hD0 hVl hrow2 hrow1 hv hx1 hb1 hb2; obtain ⟨U', out, rfl, hj, hRU, hRO, hLV, HD, hb⟩ := hrel
  rcases gk with _ | k
  ·have hLv := HVl.out; have hto := hRO.lim (c := L) (by have := HD.2.1; omega) (by omega); have htu := hRU.lim (c := k1 + 1) (by have := HD.1; omega) (by omega); have hdn := HD.out.done HVn.out (Nat.pow_pos (by omega)); have HDN := Lib.hid hdn; have HLO : Hid (L = out.length) := by show L = out.length; have := HD.2.1; omega
   have HLU : Hid (k1 + 1 = U'.length) := HD.1.symm; clear hdn hLv; obtain ⟨ko, HKO⟩ : ∃ ko, Hid (ko = (Nm.lb (Nm.nv out)).length) := ⟨_, rfl⟩; obtain ⟨ku, HKU⟩ : ∃ ku, Hid (ku = (Nm.lb (Nm.nv U')).length) := ⟨_, rfl⟩; have htu2 := htu.trim; rw [← HKU.out] at htu2
   have hkub : ku ≤ 1048577 := by
    have h1 := htu.trim.2.1; have h2 : (Nm.lb (Nm.nv U')).length ≤ U'.length := Nm.lb_length_lt.2 (Nm.nv_lt hRU.2); have := HKU.out; have := HLU.out; omega
   go_wp2_with fail; refine (trim_e _ _ _ ko out _ hto HLO.out HKO.out).mono ?_; rintro e w' ⟨rfl, rfl⟩; go_wp2_with fail; refine (trim_e _ _ _ ku U' _ htu HLU.out HKU.out).mono ?_; rintro e w' ⟨rfl, rfl⟩; go_wp2_with fail; refine (back_any _ _ s _ _ _ htu2 (by rw [← HKU.out]; exact hkub) hs HKU.out).mono ?_; rintro e w' ⟨A', k', rfl, hk', hl', hb'⟩; have HK' := Lib.hid hk'; clear hk'; go_wp2_with fail
   go_ret2
   have hto2 := hto.trim; rw [← HKO.out] at hto2; have e1 := HDN.out.1; have e2 := HDN.out.2; rw [Nm.nv_lb, e2] at hl'; have e3 := HK'.out; rw [Nm.nv_lb, e2] at e3; rw [e1] at hto2; exact ⟨_, ko, A', k', rfl, by rw [HKO.out, e1], hto2.below hb', e3, hl', Below.tr hb hb'⟩
  ·have hkk : k + (m2 + 2) < k1 + 1 := by omega
   obtain ⟨u1, hc1, _, hu1, HU1⟩ := hRU.get (k := k + (m2 + 2)) (by have := HD.1; omega); obtain ⟨u2, hc2, _, hu2, HU2⟩ := hRU.get (k := k + (m2 + 1)) (by have := HD.1; omega); obtain ⟨v1, hcv1, hv1, HV1⟩ := hLV.getz (k := m2 + 1) (by have := HVl.out; omega); obtain ⟨v2, hcv2, hv2, HV2⟩ := hLV.getz (k := m2) (by have := HVl.out; omega); obtain ⟨u3, hc3, _, hu3, HU3⟩ := hRU.get (k := k + m2) (by have := HD.1; omega)
   have HK : Hid (Nm.Kn Nm.B (Nm.B ^ m2) (u1 * 4294967296 + u2) u3 (Nm.nv (U'.drop k)) v1 v2 (Nm.nv V)) := by
    have := HD.out.kn hRU.2 hLV.limb HVl.out (by have := HVl.out; omega) HVt.out; rw [← HU1.out, ← HU2.out, ← HU3.out, ← HV1.out, ← HV2.out] at this; exact this
   obtain ⟨T, HT⟩ : ∃ T, Hid (T = u1 * 4294967296 + u2) := ⟨_, rfl⟩; rw [← HT.out] at HK; have hor : bits .or .u64 ((u1 : Int) * 4294967296) (u2 : Int) = (T : Int) := by rw [HT.out]; exact hilo u1 u2 hu1 hu2
   have hTl : T ≤ 18446744073709551615 := by have := HT.out; omega
   have hv1p : 2147483648 ≤ v1 := by have := HK.out.hn; unfold Nm.B at this; omega
   obtain ⟨W, HW⟩ : ∃ W, Hid (W = Nm.nv (U'.drop k)) := ⟨_, rfl⟩; rw [← HW.out] at HK
   go_upto_block 2 with fail
   go_quiet (fail)
   go_upto_block 2 with fail
   go_cut [15, 16] from 66 to 199 (fun a b wx => ∃ (q r nq : Nat), a = .int .u64 q ∧ b = .int .u64 r ∧ q < 4294967296 ∧ Hid (Nm.KnO Nm.B W (Nm.nv V) q) ∧ wx = wr.drewN nq)
   case first => as_aux_lemma =>
    go_wp2_with fail
    go_loopg [15, 16] (T / v1) (fun q a b wx => ∃ (r nq : Nat), a = .int .u64 ((q : Nat) : Int) ∧ b = .int .u64 r ∧ r < 4294967296 ∧ q ≤ 4294967297 ∧ Hid (Nm.KnI T W v1 (Nm.nv V) q r) ∧ wx = wr.drewN nq)
    case atStart => exact ⟨T % v1, _, by rw [← Int.natCast_ediv, u64w _ (Nat.lt_of_le_of_lt (Nat.div_le_self _ _) (by omega))], by rw [Int.natCast_emod], HK.out.rem_lt, HK.out.le HK.out.start, HK.out.start, rfl⟩
    case round =>
     obtain ⟨r, nq, rfl, rfl, hr, hqb, HI, rfl⟩ := hrel; by_cases hbig : 4294967296 ≤ gk
     ·have hd : decide ((4294967295 : Int) < (gk : Int)) = true := by simp; omega
      have HI2 : Hid (Nm.KnI T W v1 (Nm.nv V) (gk - 1) (r + v1)) := HK.out.big HI.out hbig; by_cases hrb : r + v1 < 4294967296
      ·have hd2 : decide ((4294967295 : Int) < (r : Int) + (v1 : Int)) = false := by simp; omega
       go_wp2_with fail
       go_quiet (fail)
       go_wp2_with fail
       go_roundg (gk - 1)
       case measure => omega
       case rel => exact ⟨r + v1, _, by congr 1; omega, by congr 1, hrb, by omega, HI2, rfl⟩
      ·have hd2 : decide ((4294967295 : Int) < (r : Int) + (v1 : Int)) = true := by simp; omega
       have hq1 : gk - 1 < 4294967296 := HK.out.lt HI2.out (by unfold Nm.B; omega); have HO : Hid (Nm.KnO Nm.B W (Nm.nv V) (gk - 1)) := HK.out.out2 HI2.out hq1 (by unfold Nm.B; omega); go_wp2_with fail
       go_quiet (fail)
       go_wp2_with fail
       go_meet
       case rel => exact ⟨gk - 1, r + v1, _, by congr 1; omega, by congr 1, hq1, HO, rfl⟩
     ·have hgk : gk < 4294967296 := by omega
      have hd : decide ((4294967295 : Int) < (gk : Int)) = false := by simp; omega
      have hd3 : decide ((r : Int) ≤ (4294967295 : Int)) = true := by simp; omega
      obtain ⟨hp0, hpr⟩ := Nm.prod_bounds hgk hv2; obtain ⟨R, HR⟩ : ∃ R, Hid (R = r * 4294967296 + u3) := ⟨_, rfl⟩; have hor2 : bits .or .u64 ((r : Int) * 4294967296) (u3 : Int) = (R : Int) := by rw [HR.out]; exact hilo r u3 hr hu3
      have s1 : IntKind.i64.wrap ((m2 : Int) + 2 - 2) = (m2 : Int) := by rw [IntWalk.i64_in _ (by omega)]; omega
      have s2 : IntKind.i64.wrap ((k : Int) + ((m2 : Int) + 2)) = (k : Int) + ((m2 : Int) + 2) := IntWalk.i64_in _ (by omega); have s3 : IntKind.i64.wrap ((k : Int) + ((m2 : Int) + 2) - 2) = (k : Int) + (m2 : Int) := by rw [IntWalk.i64_in _ (by omega)]; omega
      have s4 : ((k : Int) + (m2 : Int)).toNat = k + m2 := by omega
      have s5 : (m2 : Int) < (m2 : Int) + 2 := by omega
      have s6 : (k : Int) + (m2 : Int) < (k1 : Int) + 1 := by omega
      have s7 : (0 : Int) ≤ (k : Int) + (m2 : Int) := by omega
      have s8 : IntKind.u64.wrap ((gk : Int) * (v2 : Int)) = (gk : Int) * (v2 : Int) := by rw [IntKind.wrap_u64]; omega
      have s9 : IntKind.u64.wrap ((r : Int) * 4294967296) = (r : Int) * 4294967296 := by rw [IntKind.wrap_u64]; omega
      by_cases hgt : R < gk * v2
      ·have hd4 : decide ((R : Int) < (gk : Int) * (v2 : Int)) = true := by
        have : (R : Int) < ((gk * v2 : Nat) : Int) := by omega
        rw [Int.natCast_mul] at this
        simpa using this
       have hpos : 1 ≤ gk := by rcases gk with _ | gk; simp at hgt; omega
       have HI2 : Hid (Nm.KnI T W v1 (Nm.nv V) (gk - 1) (r + v1)) := HK.out.fine HI.out (by rw [HR.out] at hgt; exact hgt); clear hgt; by_cases hrb : r + v1 < 4294967296
       ·have hd2 : decide ((4294967295 : Int) < (r : Int) + (v1 : Int)) = false := by simp; omega
        go_wp2_with fail
        go_quiet (fail)
        go_wp2_with fail
        go_roundg (gk - 1)
        case measure => omega
        case rel => exact ⟨r + v1, _, by congr 1; omega, by congr 1, hrb, by omega, HI2, rfl⟩
       ·have hd2 : decide ((4294967295 : Int) < (r : Int) + (v1 : Int)) = true := by simp; omega
        have hq1 : gk - 1 < 4294967296 := HK.out.lt HI2.out (by unfold Nm.B; omega); have HO : Hid (Nm.KnO Nm.B W (Nm.nv V) (gk - 1)) := HK.out.out2 HI2.out hq1 (by unfold Nm.B; omega); go_wp2_with fail
        go_quiet (fail)
        go_wp2_with fail
        go_meet
        case rel => exact ⟨gk - 1, r + v1, _, by congr 1; omega, by congr 1, hq1, HO, rfl⟩
      ·have hd4 : decide ((R : Int) < (gk : Int) * (v2 : Int)) = false := by
        have : ¬ (R : Int) < ((gk * v2 : Nat) : Int) := by omega
        rw [Int.natCast_mul] at this
        simpa using this
       have HO : Hid (Nm.KnO Nm.B W (Nm.nv V) gk) := HK.out.out1 HI.out hgk (by rw [HR.out] at hgt; unfold Nm.B; omega); clear hgt; go_wp2_with fail
       go_quiet (fail)
       go_wp2_with fail
       go_meet
       case rel => exact ⟨gk, r, _, rfl, rfl, hgk, HO, by rw [World.drewN_drewN]⟩
   case rest => as_aux_lemma =>
    obtain ⟨q, r, nq, rfl, rfl, hq, HO, rfl⟩ := hcut; have hne21 : ∀ b off, (some (⟨g1, 0, none⟩ : Addr)) = some ⟨b, off, none⟩ → b ≠ g2 := fun b off hA => by injection hA with hA; injection hA with e _; omega
    have hLV' := hLV.drewN nq; have hRU' := hRU.below (below_drewN wr nq); have hlk : k + (m2 + 2) + 1 ≤ U'.length := by have := HD.1; omega
    have hlu : U'.length ≤ 2097152 := by have := HD.1; omega
    go_upto_if 157 with (go_at_call 175; refine (subtract_k _ _ g2 k q _ _ _ (m2 + 2) U' V _ hLV' hRU' hne21 HVl.out hlk hlu hq (by omega) rfl (by omega)).mono ?_; rintro e w3 ⟨U1, bo, rfl, hR1, HS1, hg⟩)
    have hO3 : Row w3 g3 out := (hRO.below (below_drewN wr nq)).only hg (by omega); have hV3 : Lim w3 (some ⟨g1, 0, none⟩) (m2 + 2) V := hLV'.only hg hne21; have hb3 : Below w.heap.size w w3 := (Below.tr hb (below_drewN wr nq)).grown hg (by have := hb.size; exact this) (fun k hk => by injection hk with hk; omega); clear hne21 hLV' hRU' hlk hlu hg
    go_cut [15, 17, 18] from 66 to 199 (fun a b c wx => ∃ (q' : Nat) (U2 : List Nat) (x y : Value), a = .int .u64 q' ∧ b = x ∧ c = y ∧ q' < 4294967296 ∧ Row wx g2 U2 ∧ Row wx g3 out ∧ Lim wx (some ⟨g1, 0, none⟩) (m2 + 2) V ∧ Hid (Nm.DivR U2 (out.set k q') V (n * 2 ^ s) (k1 + 1) k) ∧ Below w.heap.size w wx)
    case first => as_aux_lemma =>
     go_wp2_with fail
     ·have hx : (!carryB bo) = true := by assumption
      have HBo : Hid (bo = 1) := by have := HS1.2.1; unfold carryB at hx; simp at hx; show bo = 1; omega
      have hq1 : 1 ≤ q := HD.out.pos2 hR1.2 HVl.out hkk HS1.out HBo.out; rw [hx]; clear hx; obtain ⟨p, HP⟩ : ∃ p, Hid (p = q - 1) := ⟨_, rfl⟩
      have eq1 : IntKind.u64.wrap ((q : Int) - 1) = (p : Int) := by
       rw [HP.out, ← u64w (q - 1) (by omega)]; congr 1; omega
      have hpq : p < 4294967296 := by have := HP.out; omega
      rw [eq1]; clear hq1 eq1
      go_loopg [162, 17, 18] (m2 + 2) (fun j x c z wx => ∃ (i : Nat) (ds : List Nat) (cy : Nat) (zz : Value), x = .int .i64 i ∧ i + j = m2 + 2 ∧ c = .int .u32 cy ∧ cy ≤ 1 ∧ z = zz ∧ Row wx g2 ds ∧ Row wx g3 out ∧ Lim wx (some ⟨g1, 0, none⟩) (m2 + 2) V ∧ Hid (Nm.AddR U1 ds V k i cy) ∧ Below w.heap.size w wx)
      case atStart => exact ⟨0, U1, 0, _, rfl, by omega, rfl, by omega, rfl, hR1, hO3, hV3, Nm.AddR.start _ _ _, hb3⟩
      case round =>
       obtain ⟨i, ds, cy, zz, rfl, hij, rfl, hcy, rfl, hRd, hRo, hLv, HA, hbx⟩ := hrel; have hkU : k + (m2 + 2) < ds.length := by have := HA.1; have := HS1.1; have := HD.1; omega
       have hkU1 : k + (m2 + 2) < U1.length := by have := HS1.1; have := HD.1; omega
       have hn32 : g3 ≠ g2 := by omega
       have hn12 : g1 ≠ g2 := by omega
       by_cases hi : i < m2 + 2
       ·obtain ⟨vi, hcvi, hvi, HVI⟩ := hLv.getz (k := i) (by have := HVl.out; omega); obtain ⟨o, hco, hfo, hoo, HOO⟩ := hRd.get (k := k + i) (by omega); have t1 : IntKind.i64.wrap ((k : Int) + (i : Int)) = (k : Int) + (i : Int) := IntWalk.i64_in _ (by omega); have t2 : ((k : Int) + (i : Int)).toNat = k + i := by omega
        have t3 : (0 : Int) ≤ (k : Int) + (i : Int) := by omega
        have t4 : (k : Int) + (i : Int) < (k1 : Int) + 1 := by omega
        have t5 : (i : Int) < (m2 : Int) + 2 := by omega
        go_upto_block 5 with fail
        go_cut [17, 18] from 163 to 185 (fun x y wx => ∃ (u c1' : Nat), x = .int .u32 c1' ∧ y = .int .i64 i ∧ u < 4294967296 ∧ c1' ≤ 1 ∧ Hid (u + Nm.B * c1' = o + vi + cy) ∧ wx = (wr.setCell ⟨g2, k + i, none⟩ (.int .u32 (u : Int))).drew)
        case first => as_aux_lemma =>
         go_wp2_with fail; have hn21 : g2 ≠ g1 := by omega
         clear h1 hge hcc HC h2 hc ht ht0 E1 E2 hlen hs HS hg1 HO1 HN HT2 hg2 HO2 hg12 HL hLk hLm hLm2 HM HV HVn HVt hg1w hmk hg2w hRU hRO hLV hb hc1 hu1 HU1 hc2 hu2 HU2 hcv1 hv1 HV1 hcv2 hv2 HV2 hc3 hu3 HU3 HT hor hTl hv1p HK HW hq HO hR1 HS1 hO3 hV3 hb3 HBo HP hpq; refine wp_region_held_drew (S := fun W => W.cell? ⟨g1, i, none⟩ = some (.int .u32 (vi : Int))) (by kernel_rfl) (by (try dsimp only); first | assumption | exact hcvi) (fun hHeld => ?_); refine wpAnyH_take (i := 0) (oi := ⟨(some 166), _, _, _, _, _⟩) (v := ?_) rfl (by kernel_rfl) (by kernel_rfl) (by kernel_rfl) (fun _ _ _ h => h) (Or.inl ⟨by rfl, ?_⟩) (by assumption) ?_
         rotate_left
         ·intro W hSw; (try dsimp only at hSw); go_simp <;> with_reducible rfl
         try simp only [Act.put, sA, sB, sC]
         refine wpAnyH_take (i := 1) (oi := ⟨(some 167), _, _, _, _, _⟩) (v := ?_) rfl (by kernel_rfl) (by kernel_rfl) (by kernel_rfl) (fun _ _ _ h => h) (Or.inl ⟨by rfl, ?_⟩) (by assumption) ?_
         rotate_left
         ·intro W hSw; (try dsimp only at hSw); go_simp <;> with_reducible rfl
         try simp only [Act.put, sA, sB, sC]
         refine wpAnyH_take (i := 2) (oi := ⟨(some 168), _, _, _, _, _⟩) (v := ?_) rfl (by kernel_rfl) (by kernel_rfl) (by kernel_rfl) (fun _ _ _ h => h) (Or.inl ⟨by rfl, ?_⟩) (by assumption) ?_
         rotate_left
         ·intro W hSw; (try dsimp only at hSw); go_simp <;> with_reducible rfl
         try simp only [Act.put, sA, sB, sC]
         refine wpAnyH_take (i := 3) (oi := ⟨(some 169), _, _, _, _, _⟩) (v := ?_) rfl (by kernel_rfl) (by kernel_rfl) (by kernel_rfl) (fun _ _ _ h => h) (Or.inl ⟨by rfl, ?_⟩) (by assumption) ?_
         rotate_left
         ·intro W hSw; (try dsimp only at hSw); go_simp <;> with_reducible rfl
         try simp only [Act.put, sA, sB, sC]
         refine wpAnyH_take (i := 4) (oi := ⟨(some 170), _, _, _, _, _⟩) (v := ?_) rfl (by kernel_rfl) (by kernel_rfl) (by kernel_rfl) (fun _ _ _ h => h) (Or.inl ⟨by rfl, ?_⟩) (by assumption) ?_
         rotate_left
         ·intro W hSw; (try dsimp only at hSw); go_simp <;> with_reducible rfl
         try simp only [Act.put, sA, sB, sC]
         refine wpAnyH_take (i := 5) (oi := ⟨(some 171), _, _, _, _, _⟩) (v := ?_) rfl (by kernel_rfl) (by kernel_rfl) (by kernel_rfl) (fun _ _ _ h => h) (Or.inl ⟨by rfl, ?_⟩) (by assumption) ?_
         rotate_left
         ·intro W hSw; (try dsimp only at hSw); go_simp <;> with_reducible rfl
         try simp only [Act.put, sA, sB, sC]
         refine wpAnyH_take (i := 6) (oi := ⟨(some 172), _, _, _, _, _⟩) (v := ?_) rfl (by kernel_rfl) (by kernel_rfl) (by kernel_rfl) (fun _ _ _ h => h) (Or.inl ⟨by rfl, ?_⟩) (by assumption) ?_
         rotate_left
         ·intro W hSw; (try dsimp only at hSw); go_simp <;> with_reducible rfl
         try simp only [Act.put, sA, sB, sC]
         refine wpAnyH_take (i := 7) (oi := ⟨(some 173), _, _, _, _, _⟩) (v := ?_) rfl (by kernel_rfl) (by kernel_rfl) (by kernel_rfl) (fun _ _ _ h => h) (Or.inl ⟨by rfl, ?_⟩) (by assumption) ?_
         rotate_left
         ·intro W hSw; (try dsimp only at hSw); go_simp <;> with_reducible rfl
         try simp only [Act.put, sA, sB, sC]
         refine wpAnyH_take (i := 8) (oi := ⟨(some 174), _, _, _, _, _⟩) (v := ?_) rfl (by kernel_rfl) (by kernel_rfl) (by kernel_rfl) (fun _ _ _ h => h) (Or.inl ⟨by rfl, ?_⟩) (by assumption) ?_
         rotate_left
         ·intro W hSw; (try dsimp only at hSw); go_simp <;> with_reducible rfl
         try simp only [Act.put, sA, sB, sC]
         refine wpAnyH_take (i := 10) (oi := ⟨(some 176), _, _, _, _, _⟩) (v := ?_) rfl (by kernel_rfl) (by kernel_rfl) (by kernel_rfl) (fun _ _ _ h => h) (Or.inl ⟨by rfl, ?_⟩) (by assumption) ?_
         rotate_left
         ·intro W hSw; (try dsimp only at hSw); go_simp <;> with_reducible rfl
         try simp only [Act.put, sA, sB, sC]
         refine wpAnyH_take (i := 11) (oi := ⟨(some 177), _, _, _, _, _⟩) (v := ?_) rfl (by kernel_rfl) (by kernel_rfl) (by kernel_rfl) (fun _ _ _ h => h) (Or.inl ⟨by rfl, ?_⟩) (by assumption) ?_
         rotate_left
         ·intro W hSw; (try dsimp only at hSw); go_simp <;> with_reducible rfl
         try simp only [Act.put, sA, sB, sC]
         refine wpAnyH_take (i := 12) (oi := ⟨(some 178), _, _, _, _, _⟩) (v := ?_) rfl (by kernel_rfl) (by kernel_rfl) (by kernel_rfl) (fun _ _ _ h => h) (Or.inl ⟨by rfl, ?_⟩) (by assumption) ?_
         rotate_left
         ·intro W hSw; (try dsimp only at hSw); go_simp <;> with_reducible rfl
         try simp only [Act.put, sA, sB, sC]
         refine wpAnyH_take (i := 13) (oi := ⟨(some 179), _, _, _, _, _⟩) (v := ?_) rfl (by kernel_rfl) (by kernel_rfl) (by kernel_rfl) (fun _ _ _ h => h) (Or.inl ⟨by rfl, ?_⟩) (by assumption) ?_
         rotate_left
         ·intro W hSw; (try dsimp only at hSw); go_simp <;> with_reducible rfl
         try simp only [Act.put, sA, sB, sC]
         refine wpAnyH_take (i := 14) (oi := ⟨(some 180), _, _, _, _, _⟩) (v := ?_) rfl (by kernel_rfl) (by kernel_rfl) (by kernel_rfl) (fun _ _ _ h => h) (Or.inl ⟨by rfl, ?_⟩) (by assumption) ?_
         rotate_left
         ·intro W hSw; (try dsimp only at hSw); go_simp <;> with_reducible rfl
         try simp only [Act.put, sA, sB, sC]
         refine wpAnyH_ready (rs := [9]) (by kernel_rfl) (by simp) ?_; refine AllReadyH.cons (o := ⟨(some 175), _, _, _, _, _⟩) rfl (fun K hK => ?_) AllReadyH.nil; go_simp; refine hK.out _ _ ?_ (fun hHeld => ?_)
         ·(try dsimp only); first | assumption | exact (World.cell?_setCell_far _ _ _ _ hn21).trans hcvi
         clear hK K
         try simp only [Act.put, sA, sB, sC]
         refine wpAnyH_ready (rs := [15]) (by kernel_rfl) (by simp) ?_; refine AllReadyH.cons (o := ⟨(some 181), _, _, _, _, _⟩) rfl (fun K hK => ?_) AllReadyH.nil; go_simp
         go_at_call 176; refine (add32_w o vi cy _ hoo hvi hcy).mono ?_; rintro e w' ⟨u, c1', rfl, hu, hc1', HU, rfl⟩; go_wp2_with fail
         refine hK.out _ _ ?_ (fun hHeld => ?_)
         ·(try dsimp only); first | assumption | exact (World.cell?_setCell_far _ _ _ _ hn21).trans hcvi
         clear hK K
         try simp only [Act.put, sA, sB, sC]
         refine wpAnyH_take (i := 16) (oi := ⟨(some 165), _, _, _, _, _⟩) (v := ?_) rfl (by kernel_rfl) (by kernel_rfl) (by kernel_rfl) (fun _ _ _ h => h) (Or.inl ⟨by rfl, ?_⟩) (by assumption) ?_
         rotate_left
         ·intro W hSw; (try dsimp only at hSw); go_simp <;> with_reducible rfl
         try simp only [Act.put, sA, sB, sC]
         refine wpAnyH_take (i := 17) (oi := ⟨(some 182), _, _, _, _, _⟩) (v := ?_) rfl (by kernel_rfl) (by kernel_rfl) (by kernel_rfl) (fun _ _ _ h => h) (Or.inl ⟨by rfl, ?_⟩) (by assumption) ?_
         rotate_left
         ·intro W hSw; (try dsimp only at hSw); go_simp <;> with_reducible rfl
         try simp only [Act.put, sA, sB, sC]
         refine wpAnyH_take (i := 18) (oi := ⟨(some 183), _, _, _, _, _⟩) (v := ?_) rfl (by kernel_rfl) (by kernel_rfl) (by kernel_rfl) (fun _ _ _ h => h) (Or.inl ⟨by rfl, ?_⟩) (by assumption) ?_
         rotate_left
         ·intro W hSw; (try dsimp only at hSw); go_simp <;> with_reducible rfl
         try simp only [Act.put, sA, sB, sC]
         refine wpAnyH_take (i := 19) (oi := ⟨(some 184), _, _, _, _, _⟩) (v := ?_) rfl (by kernel_rfl) (by kernel_rfl) (by kernel_rfl) (fun _ _ _ h => h) (Or.inl ⟨by rfl, ?_⟩) (by assumption) ?_
         rotate_left
         ·intro W hSw; (try dsimp only at hSw); go_simp <;> with_reducible rfl
         try simp only [Act.put, sA, sB, sC]
         refine wpAnyH_ready (rs := [20]) (by kernel_rfl) (by simp) ?_; refine AllReadyH.cons (o := ⟨none, _, _, _, _, _⟩) rfl (fun K hK => ?_) AllReadyH.nil; go_simp; refine hK.out _ _ ?_ (fun hHeld => ?_)
         ·(try dsimp only); first | assumption | exact (World.cell?_setCell_far _ _ _ _ hn21).trans hcvi
         clear hK K
         try simp only [Act.put, sA, sB, sC]
         refine wpAnyH_take (i := 21) (oi := ⟨(some 17), _, _, _, _, _⟩) (v := ?_) rfl (by kernel_rfl) (by kernel_rfl) (by kernel_rfl) (fun _ _ _ h => h) (Or.inl ⟨by rfl, ?_⟩) (by assumption) ?_
         rotate_left
         ·intro W hSw; (try dsimp only at hSw); go_simp <;> with_reducible rfl
         try simp only [Act.put, sA, sB, sC]
         refine wpAnyH_done (by kernel_rfl) ?_ _; go_wp2_with fail; go_meet; exact ⟨u, c1', rfl, rfl, hu, hc1', HU, rfl⟩
        case rest => as_aux_lemma =>
         obtain ⟨u, c1', rfl, rfl, hu, hc1', HU, rfl⟩ := hcut; go_wp2_with fail
         go_roundg (gk - 1)
         case measure => omega
         case rel => exact ⟨i + 1, ds.set (k + i) u, c1', _, by go_num, by omega, rfl, hc1', rfl, (hRd.set_ _ _ hu).drew, (hRo.setFar hn32 _).drew, (hLv.setFar hn12 _).drew, HA.out.round HVl.out hi hkU1 HVI HOO HU.out, (hbx.setCell hg2w' _).drew⟩
       ·obtain rfl : m2 + 2 = i := by omega
        obtain ⟨o, hco, hfo, hoo, HOO⟩ := hRd.get (k := k + (m2 + 2)) hkU; go_wp2_with fail
        go_meet
        case rel =>
         have eo : ((o : Int) + (cy : Int)) % 4294967296 = (((o + cy) % Nm.B : Nat) : Int) := by show _ = (((o + cy) % 4294967296 : Nat) : Int); omega
         rw [eo]
         exact ⟨p, _, _, _, rfl, rfl, rfl, hpq, hRd.set_ _ _ (Nat.mod_lt _ Nm.B_pos), hRo.setFar hn32 _, hLv.setFar hn12 _,
          by rw [HP.out]; exact HA.out.done HD.out hLV.limb hR1.2 hRd.2 HVl.out hkk HO.out HW.out HS1.out HBo.out HOO.out hcy, hbx.setCell hg2w' _⟩
     ·have hx : (!carryB bo) = false := by assumption
      have hbz : bo = 0 := by unfold carryB at hx; simpa using hx
      have HF : Hid (Nm.DivR U1 (out.set k q) V (n * 2 ^ s) (k1 + 1) k) := HD.out.fits2 hLV.limb HVl.out hkk HO.out HW.out HS1.out hbz
      go_meet
      case rel => exact ⟨q, U1, _, _, rfl, rfl, rfl, hq, hR1, hO3, hV3, HF, hb3⟩
    case rest => as_aux_lemma =>
     obtain ⟨q', U2, x, y, rfl, rfl, rfl, hq', hR2, hO2, hV2, HD2, hb2⟩ := hcut; obtain ⟨o, hco, hfo, hoo, HOO⟩ := hO2.get (k := k) (by have := HD.2.1; have := HVl.out; have := HL.out; omega); go_wp2_with fail
     go_roundg k
     case measure => omega
     case rel => exact ⟨U2, out.set k q', rfl, by omega, hR2.setFar (by omega) _, hO2.set_ _ _ hq', hV2.setFar (by omega) _, HD2, hb2.setCell hg3w _⟩
end Go.Proofs.YtijkfagkbfbpmaaGreatDoor
namespace Go.Proofs.YtijkfagkbfbpmaaGreatDoor
open Go.RowKit
/- the reference model's small functions: culpritref05 -/
/-- a fresh row of limbs: what 'own' leaves, with the number of its limbs -/
theorem own_lim2 {w : World} {base : Nat} {A : Option Addr} {k c : Nat} {l : List Nat} (h : w.ownsRow base 104 1 (.slice A k c) k (u32s l)) (hl : Nm.Lim l) :
  k = l.length ∧ Lim w A c l ∧ (∀ b off, A = some ⟨b, off, none⟩ → base ≤ b) := by
 have hk : l.length = k := by have := h.1; simpa [u32s] using this
 obtain ⟨A', c', he, h1, h2⟩ := own_lim h hl; injection he with e1 e2 e3; subst e1; subst e3; exact ⟨hk.symm, h1, h2⟩
theorem Lim.take_ {w : World} {A : Option Addr} {c : Nat} {l : List Nat} (h : Lim w A c l) (k : Nat) (hk : k ≤ l.length) : Lim w A c (l.take k) := by
 refine ⟨fun hne => ?_, by have := h.2.1; simp; omega, h.2.2.1, fun x hx => h.limb x (List.mem_of_mem_take hx), h.2.2.2.2⟩
 have h0 : 0 < l.length := by
  rcases Nat.eq_zero_or_pos l.length with h0 | h0
  ·have : l = [] := List.eq_nil_of_length_eq_zero h0; subst this; simp [u32s] at hne
  ·exact h0
 obtain ⟨b, off, hA, hc⟩ := h.at_ h0; refine ⟨b, off, hA, fun i hi => ?_⟩; simp only [u32s, List.length_map, List.length_take] at hi; rw [hc i (by omega)]; have hil : i < l.length := by omega
 simp [u32s, List.getD, hil]
set_option maxHeartbeats 1000000 in
theorem rtrim_own (A : Option Addr) (c k0 : Nat) (l : List Nat) (w : World) (hr : Lim w A c l) (hk0 : k0 = l.length) (hl0 : k0 ≤ 2097152) :
  Calls Tryz.prog 109 #[.slice A k0 c] w fun e w' => ∃ A' c' k, e = .returned (.slice A' k c') ∧ k ≤ k0 ∧ Hid (w'.ownsRow w.heap.size 104 1 (.slice A' k c') k (u32s (Nm.lb (Nm.nv l)))) ∧ Below w.heap.size w w' := by
 subst hk0; have hlen := len_trimLen hr.limb; have htk := take_trimLen hr.limb; have HLEN := Lib.hid hlen; have HTK := Lib.hid htk; clear hlen htk; have hl := hr.2.1; have hc := hr.2.2.1; obtain ⟨i0, hi0, hz0, hz1, hz2⟩ := info_parts u32_info
 go_enter Tryz.func109, Tryz.ntmps109
 go_wp2
 go_loop [3] (fun t => ∃ k : Nat, k ≤ l.length ∧ t = .int .i64 k ∧ trimLen l k = trimLen l l.length) (fun t => (intOf t).toNat)
 case atStart => exact ⟨_, Nat.le_refl _, rfl, rfl⟩
 case round =>
  obtain ⟨k, hk, rfl, ht⟩ := hrel; have HT := Lib.hid ht; clear ht; by_cases hstop : trimLen l k = k
  ·-- the loop ends here
   have hsrc : Lim (w.alloc (.cells #[] 104)) A c (l.take k) := (hr.take_ k hk).alloc _; have hl' : (l.take k).length = k := by simp; omega
   have HL := Lib.hid hl'; have HS : Hid (l.take k = Nm.lb (Nm.nv l)) := by show _ = _; rw [← HTK.out, ← HT.out, hstop]
   have hone : (u32s (l.take k)).length = k * 1 := by simp [u32s]; omega
   have HO := Lib.hid hone; clear hl' hone
   rcases k with _ | k
   ·clear hstop
    go_wp2_with (at_builtin; refine wpList_append_any _ rfl (.tmp 18) (.tmp 21) _ rfl w.heap.size 104 i0 _ 1 4 Tryz.underlying27 hi0 hz0 hz1 hz2 rfl (by omega) (.slice (some ⟨w.heap.size, 0, none⟩) 0 0) 0 (u32s []) rfl (own_empty w) A 0 c (u32s (l.take 0)) rfl HO.out hsrc.1 (u32s_one _) (by simp only [maxLen]; omega) (by omega) (by simp) ?_; intro v1 w1 hown1 hg1 hat1)
    go_ret; rw [← u32s_append, List.nil_append, HS.out] at hown1; obtain ⟨A', c', hv, hlim, hbs⟩ := own_lim hown1 (Nm.lim_lb _); have hk2 : (Nm.lb (Nm.nv l)).length = 0 := by rw [← HS.out]; exact HL.out
    rw [hk2] at hv; subst hv; refine ⟨A', c', 0, rfl, by omega, ?_, (bA w _).grown hg1 (by simp) (fun k hk => ?_)⟩
    ·have := hown1; rw [Nat.zero_add] at this; exact this
    ·simp [Value.ownBlock] at hk; omega
   ·obtain ⟨b, off, a, rfl, h1, ha, HA⟩ := hr.get (k := k) (by omega)
    have h0 : ((a : Int) == 0) = false := by
     unfold trimLen at hstop
     split at hstop
     ·have := trimLen_le l k; omega
     ·rw [HA.out]; simpa using ‹¬ l.getD k 0 = 0›
    clear hstop
    go_wp2_with (at_builtin; refine wpList_append_any _ rfl (.tmp 18) (.tmp 21) _ rfl w.heap.size 104 i0 _ 1 4 Tryz.underlying27 hi0 hz0 hz1 hz2 rfl (by omega) (.slice (some ⟨w.heap.size, 0, none⟩) 0 0) 0 (u32s []) rfl (own_empty w) (some ⟨b, off, none⟩) (k + 1) c (u32s (l.take (k + 1))) rfl HO.out hsrc.1 (u32s_one _) (by simp only [maxLen]; omega) (by omega) (by simp) ?_; intro v1 w1 hown1 hg1 hat1)
    go_ret; rw [← u32s_append, List.nil_append, HS.out] at hown1; obtain ⟨A', c', hv, hlim, hbs⟩ := own_lim hown1 (Nm.lim_lb _); have hk2 : (Nm.lb (Nm.nv l)).length = (k + 1) := by rw [← HS.out]; exact HL.out
    rw [hk2] at hv; subst hv; refine ⟨A', c', (k + 1), rfl, by omega, ?_, (bA w _).grown hg1 (by simp) (fun k hk => ?_)⟩
    ·have := hown1; rw [Nat.zero_add] at this; exact this
    ·simp [Value.ownBlock] at hk; omega
  ·rcases k with _ | k
   ·simp [trimLen] at hstop
   ·obtain ⟨b, off, a, rfl, h1, ha, HA⟩ := hr.get (k := k) (by omega)
    have h00 : l.getD k 0 = 0 := by
     unfold trimLen at hstop
     split at hstop
     ·assumption
     ·exact absurd rfl hstop
    have h0 : ((a : Int) == 0) = true := by rw [HA.out, h00]; rfl
    have HT2 : Hid (trimLen l k = trimLen l l.length) := by show _ = _; rw [← HT.out, trimLen, if_pos h00]
    clear h00 hstop
    go_wp2
    go_round
    case rel => exact ⟨k, by omega, rfl, HT2.out⟩
    case measure => simp [intOf]
theorem rtrim_e (A : Option Addr) (c k0 k' : Nat) (l : List Nat) (w : World) (hr : Lim w A c l) (hk0 : k0 = l.length) (hl0 : k0 ≤ 2097152) (hk' : k' = (Nm.lb (Nm.nv l)).length) :
  Calls Tryz.prog 109 #[.slice A k0 c] w fun e w' => ∃ A' c', e = .returned (.slice A' k' c') ∧ Lim w' A' c' (Nm.lb (Nm.nv l)) ∧ Below w.heap.size w w' := by
 refine (rtrim_own A c k0 l w hr hk0 hl0).mono ?_; rintro e w' ⟨A', c', k, rfl, _, ho, hb⟩; obtain ⟨e1, e2, _⟩ := own_lim2 ho.out (Nm.lim_lb _); exact ⟨A', c', by rw [hk', ← e1], e2, hb⟩
set_option maxHeartbeats 400000 in
theorem limb_any (A : Option Addr) (c k j a : Nat) (l : List Nat) (w : World) (hr : Lim w A c l) (hk : k = l.length) (hj : j ≤ 2147483648) (ha : a = l.getD j 0) :
  Calls Tryz.prog 154 #[.slice A k c, .int .i64 j] w fun e w' => e = .returned (.int .u64 (a : Int)) ∧ w = w' := by
 by_cases hlt : j < k
 ·obtain ⟨b, off, a', rfl, h1, ha', HA⟩ := hr.get (k := j) (by omega); obtain rfl : a' = a := HA.out.trans ha.symm; have hkb : k ≤ 9223372036854775807 := by have := hr.2.1; have := hr.2.2.1; omega
  clear ha hk
  go_enter Tryz.func154, Tryz.ntmps154
  go_wp2
  go_ret; exact ⟨rfl, rfl⟩
 ·have : a = 0 := by rw [ha]; simp [List.getD, List.getElem?_eq_none (show l.length ≤ j by omega)]
  subst this; have hkb : k ≤ 9223372036854775807 := by have := hr.2.1; have := hr.2.2.1; omega
  clear ha hk
  go_enter Tryz.func154, Tryz.ntmps154
  go_wp2
  go_ret; exact ⟨rfl, rfl⟩
theorem limb0_any (A : Option Addr) (c k a : Nat) (l : List Nat) (w : World) (hr : Lim w A c l) (hk : k = l.length) (ha : a = l.getD 0 0) :
  Calls Tryz.prog 154 #[.slice A k c, .int .i64 0] w fun e w' => e = .returned (.int .u64 (a : Int)) ∧ w = w' := by
 exact limb_any A c k 0 a l w hr hk (by omega) ha
set_option maxHeartbeats 400000 in
theorem rwhole_any (n k : Nat) (w : World) (hn : n < 9223372036854775808) (hk : k = (Nm.lb n).length) :
  Calls Tryz.prog 113 #[.int .i64 n] w fun e w' => ∃ A c, e = .returned (.slice A k c) ∧ Lim w' A c (Nm.lb n) ∧ Below w.heap.size w w' := by
 have HK := Lib.hid hk; clear hk
 have hrow : ∀ w : World, Row (w.alloc (.cells #[Value.int .u32 ((n : Int) % 4294967296), Value.int .u32 ((n : Int) / 4294967296)] 104)) w.heap.size [n % 4294967296, n / 4294967296] := fun w => by
  have e1 : ((n : Int) % 4294967296) = ((n % 4294967296 : Nat) : Int) := by omega
  have e2 : ((n : Int) / 4294967296) = ((n / 4294967296 : Nat) : Int) := by omega
  rw [e1, e2]; refine ⟨Blk.new w _ _, fun x hx => ?_⟩; simp only [List.mem_cons, List.not_mem_nil, or_false] at hx
  rcases hx with rfl | rfl
  ·exact Nat.mod_lt _ Nm.B_pos
  ·exact Nat.div_lt_of_lt_mul (show n < 4294967296 * 4294967296 by omega)
 have hnv : Nm.nv [n % 4294967296, n / 4294967296] = n := by simp only [Nm.nv, Nm.B]; omega
 have HN := Lib.hid hnv; clear hnv; have hlim := (hrow w).lim (c := 2) (by simp) (by decide)
 go_enter Tryz.func113, Tryz.ntmps113
 go_wp2_with fail; refine (rtrim_e _ _ 2 k [n % 4294967296, n / 4294967296] _ hlim rfl (by omega) (by rw [HN.out]; exact HK.out)).mono ?_; rintro e w' ⟨A', c', rfl, hl, hb⟩; rw [HN.out] at hl; go_wp2_with fail; go_ret; exact ⟨A', c', rfl, hl, Below.tr (bA w _) hb⟩
set_option maxHeartbeats 400000 in
theorem rone_any (A : Option Addr) (c k : Nat) (l : List Nat) (w : World) (h : Lim w A c l) (hk : k = l.length) :
  Calls Tryz.prog 110 #[.slice A k c] w fun e w' => e = .returned (.bool (oneB l)) ∧ w = w' := by
 subst hk
 rcases l with _ | ⟨a, _ | ⟨b, l⟩⟩
 ·have e : oneB [] = false := rfl; rw [e]
  go_enter Tryz.func110, Tryz.ntmps110
  go_wp2
  go_ret; exact ⟨rfl, rfl⟩
 ·obtain ⟨b, off, a', rfl, hc, ha, HA⟩ := h.get0 (by simp); have HB : Hid (a' = a) := HA; by_cases h1 : a = 1
  ·have e : oneB [a] = true := by subst h1; rfl
   have hx : ((a' : Int) == 1) = true := by rw [HB.out, h1]; rfl
   rw [e]; clear h1
   go_enter Tryz.func110, Tryz.ntmps110
   go_wp2
   go_ret; exact ⟨rfl, rfl⟩
  ·have e : oneB [a] = false := by simp [oneB, h1]
   have hx : ((a' : Int) == 1) = false := by rw [HB.out]; simp; omega
   rw [e]; clear h1
   go_enter Tryz.func110, Tryz.ntmps110
   go_wp2
   go_ret; exact ⟨rfl, rfl⟩
 ·have e : oneB (a :: b :: l) = false := by simp [oneB]
  rw [e]; have hx : (((a :: b :: l).length : Int) == 1) = false := by simp; omega
  generalize (a :: b :: l).length = k at *
  go_enter Tryz.func110, Tryz.ntmps110
  go_wp2
  go_ret; exact ⟨rfl, rfl⟩
def oddB (n : Nat) : Bool := decide (n % 2 = 1)
set_option maxHeartbeats 400000 in
theorem odd_any (A : Option Addr) (c k : Nat) (l : List Nat) (w : World) (h : Lim w A c l) (hk : k = l.length) :
  Calls Tryz.prog 149 #[.slice A k c] w fun e w' => e = .returned (.bool (oddB (Nm.nv l))) ∧ w = w' := by
 obtain ⟨a, HA⟩ : ∃ a, Hid (a = l.getD 0 0) := ⟨_, rfl⟩; have ha : a < 4294967296 := by rw [HA.out]; exact h.lt 0
 have e : oddB (Nm.nv l) = ((a : Int) % 2 == 1) := by
  have h2 : Nm.nv l % 2 = a % 2 := by
   rw [HA.out]
   cases l with
   | nil => rfl
   | cons x xs =>
    show (x + Nm.B * Nm.nv xs) % 2 = x % 2
    rw [show Nm.B = 2 * 2147483648 from rfl, Nat.mul_assoc, Nat.add_mul_mod_self_left]
  unfold oddB; rw [h2, Bool.eq_iff_iff]; simp; omega
 rw [e]; have HK := Lib.hid hk; clear e hk
 go_enter Tryz.func149, Tryz.ntmps149
 go_wp2_with (go_at_call 154; refine (limb0_any _ _ _ a l _ h HK.out HA.out).mono ?_; rintro e w' ⟨rfl, rfl⟩)
 go_ret; exact ⟨rfl, rfl⟩
end Go.Proofs.YtijkfagkbfbpmaaGreatDoor
namespace Go.Proofs.YtijkfagkbfbpmaaGreatDoor.Nm
theorem nv_split (l : List Nat) (k : Nat) : nv l = nv (l.take k) + B ^ k * nv (l.drop k) := by
 rcases Nat.lt_or_ge l.length k with h | h
 ·rw [List.take_of_length_le (by omega), List.drop_of_length_le (by omega)]; simp [nv]
 ·exact nv_take_drop l k h
theorem nv_take_lt' {l : List Nat} (h : Lim l) (k : Nat) : nv (l.take k) < B ^ k := by
 refine Nat.lt_of_lt_of_le (nv_lt (h.take k)) (Nat.pow_le_pow_right B_pos ?_); simp; omega
theorem nv_take_succ' (l : List Nat) (k : Nat) : nv (l.take (k + 1)) = nv (l.take k) + B ^ k * l.getD k 0 := by
 rcases Nat.lt_or_ge k l.length with h | h
 ·exact nv_take_succ h
 ·rw [List.take_of_length_le h, List.take_of_length_le (by omega)]; have : l.getD k 0 = 0 := by simp [List.getD, List.getElem?_eq_none h]
  rw [this]; omega
theorem nv_congr : ∀ (x y : List Nat), (∀ i, x.getD i 0 = y.getD i 0) → nv x = nv y
 | [], y, h => by rw [nv_zeros (l := y) (fun i => by rw [← h i]; simp)]; rfl
 | a :: xs, [], h => by rw [nv_zeros (l := a :: xs) (fun i => by rw [h i]; simp)]; rfl
 | a :: xs, b :: ys, h => by
  have h0 := h 0; simp at h0; rw [nv, nv, h0, nv_congr xs ys (fun i => by have := h (i + 1); simpa using this)]
theorem lt_at' {x y : List Nat} {k : Nat} (hx : Lim x) (he : ∀ i, k < i → x.getD i 0 = y.getD i 0) (hlt : x.getD k 0 < y.getD k 0) : nv x < nv y := by
 have e := nv_congr (x.drop (k + 1)) (y.drop (k + 1)) (fun i => by rw [getD_drop, getD_drop]; exact he _ (by omega)); rw [nv_split x k, nv_split y k, nv_drop' x k, nv_drop' y k, e]; have h1 := nv_take_lt' hx k; generalize nv (y.drop (k + 1)) = R; have h2 : B ^ k * (x.getD k 0 + B * R + 1) ≤ B ^ k * (y.getD k 0 + B * R) := Nat.mul_le_mul_left _ (by omega); rw [Nat.mul_add (B ^ k) (x.getD k 0 + B * R) 1] at h2; omega
/-- the sum's loop -/
def PlusR (x y out : List Nat) (i cy : Nat) : Prop := out.length = i ∧ nv out + B ^ i * cy = nv (x.take i) + nv (y.take i)
theorem PlusR.step {x y out : List Nat} {i cy a b : Nat} (h : PlusR x y out i cy) (ha : a = x.getD i 0) (hb : b = y.getD i 0) :
  PlusR x y (out ++ [(a + b + cy) % 4294967296]) (i + 1) ((a + b + cy) / 4294967296) := by
 obtain ⟨h1, h2⟩ := h; refine ⟨by simp [h1], ?_⟩; rw [nv_snoc, nv_take_succ', nv_take_succ', ← ha, ← hb, h1, Nat.pow_succ]; have e := Nat.mod_add_div (a + b + cy) 4294967296; have hB : B = 4294967296 := rfl; generalize (a + b + cy) % 4294967296 = lo at *; generalize (a + b + cy) / 4294967296 = hi at *; generalize B ^ i = P at *; rw [hB]
 grind
theorem PlusR.done {x y out : List Nat} {i cy : Nat} (h : PlusR x y out i cy) (hi : max x.length y.length + 1 = i) (hx : Lim x) (hy : Lim y) (ho : Lim out) : nv out = nv x + nv y := by
 obtain ⟨h1, h2⟩ := h; rw [List.take_of_length_le (by omega), List.take_of_length_le (by omega)] at h2; have hx' := Nat.lt_of_lt_of_le (nv_lt hx) (Nat.pow_le_pow_right B_pos (Nat.le_max_left x.length y.length)); have hy' := Nat.lt_of_lt_of_le (nv_lt hy) (Nat.pow_le_pow_right B_pos (Nat.le_max_right x.length y.length)); subst hi; rw [Nat.pow_succ] at h2; have hB : 2 ≤ B := by unfold B; omega
 generalize B ^ (max x.length y.length) = P at *; generalize B = β at *
 have hcy : cy = 0 := by
  rcases Nat.eq_zero_or_pos cy with h | h
  ·exact h
  ·have h4 : P * β * 1 ≤ P * β * cy := Nat.mul_le_mul_left _ h; have h3 : P * 2 ≤ P * β := Nat.mul_le_mul_left _ hB; omega
 rw [hcy, Nat.mul_zero] at h2; omega
/-- the difference's loop -/
def MinusR (x y out : List Nat) (i bo : Nat) : Prop := out.length = i ∧ nv out + nv (y.take i) = nv (x.take i) + B ^ i * bo
theorem MinusR.step {x y out : List Nat} {i bo a b s : Nat} (h : MinusR x y out i bo) (ha : a = x.getD i 0) (hb : b = y.getD i 0) (hal : a < 4294967296) (hbl : b < 4294967296) (hbo : bo ≤ 1) (hs : s = a + 4294967296 - b - bo) :
  MinusR x y (out ++ [s % 4294967296]) (i + 1) (1 - s / 4294967296) := by
 obtain ⟨h1, h2⟩ := h; refine ⟨by simp [h1], ?_⟩; rw [nv_snoc, nv_take_succ', nv_take_succ', ← ha, ← hb, h1, Nat.pow_succ]; have e := Nat.mod_add_div s 4294967296; have hB : B = 4294967296 := rfl; have hq : s / 4294967296 = 0 ∨ s / 4294967296 = 1 := by omega
 have e2 : s % 4294967296 + b + bo = a + 4294967296 * (1 - s / 4294967296) := by rcases hq with h | h <;> rw [h] at e ⊢ <;> omega
 clear e hq hs; generalize s % 4294967296 = lo at *; generalize 1 - s / 4294967296 = hi at *; rw [← hB] at e2; generalize B ^ i = P at *; generalize B = β at *
 grind
theorem MinusR.done {x y out : List Nat} {i bo : Nat} (h : MinusR x y out i bo) (hi : x.length = i) (hle : nv y ≤ nv x) (hx : Lim x) (hy : Lim y) (ho : Lim out) : nv out = nv x - nv y := by
 obtain ⟨h1, h2⟩ := h; have hxl := nv_lt hx; have ex : x.take i = x := List.take_of_length_le (by omega); rw [ex] at h2; have e := nv_split y i; have hn := nv_lt ho; rw [h1] at hn; rw [hi] at hxl; have hy0 : B ^ i * nv (y.drop i) ≤ nv y := by omega
 have hz : nv (y.drop i) = 0 := by
  rcases Nat.eq_zero_or_pos (nv (y.drop i)) with h | h
  ·exact h
  ·have h3 : B ^ i * 1 ≤ B ^ i * nv (y.drop i) := Nat.mul_le_mul_left _ h; omega
 rw [hz, Nat.mul_zero, Nat.add_zero] at e; rw [← e] at h2; generalize B ^ i = P at *
 have hb : bo = 0 := by
  rcases Nat.eq_zero_or_pos bo with h | h
  ·exact h
  ·have h3 : P * 1 ≤ P * bo := Nat.mul_le_mul_left _ h; omega
 rw [hb, Nat.mul_zero] at h2; omega
/-- the reference's product: one more place than the lengths add up to -/
def RTimesO (cs x y : List Nat) (i : Nat) : Prop := cs.length = x.length + y.length + 1 ∧ nv cs = nv (x.take i) * nv y ∧ ∀ j, i + y.length ≤ j → cs.getD j 0 = 0
def RTimesI (ds cs x y : List Nat) (i k a cy : Nat) : Prop := ds.length = x.length + y.length + 1 ∧ nv ds + B ^ (i + k) * cy = nv cs + B ^ i * (a * nv (y.take k)) ∧ ∀ j, i + y.length < j → ds.getD j 0 = 0
theorem RTimesO.start (x y : List Nat) : RTimesO (List.replicate (x.length + y.length + 1) 0) x y 0 := ⟨by simp, by simp [nv_replicate, nv], fun j _ => getD_replicate _ _⟩
theorem RTimesO.enter {cs x y : List Nat} {i a : Nat} (h : RTimesO cs x y i) : RTimesI cs cs x y i 0 a 0 := ⟨h.1, by simp [nv], fun j hj => h.2.2 j (by omega)⟩
theorem RTimesI.step {ds cs x y : List Nat} {i k a cy b o : Nat} (h : RTimesI ds cs x y i k a cy) (hi : i < x.length) (hk : k < y.length + 1) (hb : b = y.getD k 0) (ho : o = ds.getD (i + k) 0) :
  RTimesI (ds.set (i + k) ((a * b + o + cy) % 4294967296)) cs x y i (k + 1) a ((a * b + o + cy) / 4294967296) := by
 obtain ⟨h1, h2, h3⟩ := h; refine ⟨by simp [h1], ?_, fun j hj => by rw [getD_set_ne (by omega)]; exact h3 j hj⟩; rw [nv_take_succ', ← hb]; exact mul_step h2 (by omega) ho.symm rfl
theorem RTimesI.done {ds cs x y : List Nat} {i a cy : Nat} (h : RTimesI ds cs x y i (y.length + 1) a cy) (hc : RTimesO cs x y i) (hi : i < x.length) (ha : a = x.getD i 0) (hx : Lim x) (hy : Lim y) (hd : Lim ds) : RTimesO ds x y (i + 1) := by
 obtain ⟨h1, h2, h3⟩ := h
 have e0 : nv cs + B ^ i * (a * nv y) = nv (x.take (i + 1)) * nv y := by
  rw [hc.2.1, nv_take_succ', ← ha]; grind
 rw [List.take_of_length_le (by omega), e0] at h2; have hlt : nv (x.take (i + 1)) * nv y < B ^ (i + 1) * B ^ y.length := Nat.mul_lt_mul'' (nv_take_lt' hx _) (nv_lt hy); rw [← Nat.pow_add] at hlt; have e1 : i + (y.length + 1) = i + 1 + y.length := by omega
 rw [e1] at h2; generalize hM : nv (x.take (i + 1)) * nv y = M at *
 have hcy : cy = 0 := by
  rcases Nat.eq_zero_or_pos cy with h | h
  ·exact h
  ·have : B ^ (i + 1 + y.length) * 1 ≤ B ^ (i + 1 + y.length) * cy := Nat.mul_le_mul_left _ h; generalize B ^ (i + 1 + y.length) = P at *; omega
 rw [hcy, Nat.mul_zero, Nat.add_zero] at h2; exact ⟨h1, h2.trans hM.symm, fun j hj => h3 j (by omega)⟩
theorem nv_set_take {ds : List Nat} {i : Nat} (hi : i < ds.length) (u : Nat) : nv ((ds.set i u).take (i + 1)) = nv (ds.take i) + B ^ i * u := by
 rw [nv_take_succ', getD_set_eq hi, List.take_set_of_le (Nat.le_refl i)]
/-- the halving in place -/
def HalfR (l ds : List Nat) (i : Nat) : Prop := ds.length = l.length ∧ (∀ j, i ≤ j → ds.getD j 0 = l.getD j 0) ∧ nv (ds.take i) * 2 + l.getD 0 0 % 2 = nv (l.take i) + B ^ i * (l.getD i 0 % 2)
theorem HalfR.start (l : List Nat) : HalfR l l 0 := ⟨rfl, fun _ _ => rfl, by simp [nv]⟩
theorem HalfR.step {l ds : List Nat} {i a b v : Nat} (h : HalfR l ds i) (hi : i < l.length) (ha : a = ds.getD i 0) (hb : b = ds.getD (i + 1) 0) (hv : v = a / 2 + (b % 2) * 2147483648) : HalfR l (ds.set i v) (i + 1) := by
 obtain ⟨h1, h2, h3⟩ := h; refine ⟨by simp [h1], fun j hj => by rw [getD_set_ne (by omega)]; exact h2 j (by omega), ?_⟩; rw [nv_set_take (by omega), nv_take_succ', ← h2 i (Nat.le_refl _), ← ha, ← h2 (i + 1) (by omega), ← hb, Nat.pow_succ]; rw [← h2 i (Nat.le_refl _), ← ha] at h3; have e := Nat.div_add_mod a 2; have hB : B = 2 * 2147483648 := rfl; generalize b % 2 = bm at *; generalize a % 2 = am at *; generalize a / 2 = ah at *; generalize l.getD 0 0 % 2 = z at *; generalize nv (ds.take i) = D at *; generalize nv (l.take i) = L at *; generalize B ^ i = P at *; generalize B = β at *; generalize 2147483648 = g at *
 grind
theorem HalfR.done {l ds : List Nat} {i : Nat} (h : HalfR l ds i) (hi : l.length = i) : nv ds = nv l / 2 := by
 obtain ⟨h1, h2, h3⟩ := h; subst hi; rw [List.take_length, List.take_of_length_le (by omega)] at h3; have e0 : l.getD l.length 0 = 0 := by simp [List.getD]
 rw [e0] at h3; have : l.getD 0 0 % 2 < 2 := Nat.mod_lt _ (by omega); generalize B ^ l.length = P at *; rw [Nat.zero_mod, Nat.mul_zero, Nat.add_zero] at h3; omega
/-- the difference in place -/
def TakeR (x ds y : List Nat) (i bo : Nat) : Prop := ds.length = x.length ∧ (∀ j, i ≤ j → ds.getD j 0 = x.getD j 0) ∧ nv (ds.take i) + nv (y.take i) = nv (x.take i) + B ^ i * bo
theorem TakeR.start (x y : List Nat) : TakeR x x y 0 0 := ⟨rfl, fun _ _ => rfl, by simp [nv]⟩
theorem TakeR.step {x ds y : List Nat} {i bo a b s : Nat} (h : TakeR x ds y i bo) (hi : i < x.length) (ha : a = ds.getD i 0) (hb : b = y.getD i 0) (hal : a < 4294967296) (hbl : b < 4294967296) (hbo : bo ≤ 1) (hs : s = a + 4294967296 - b - bo) :
  TakeR x (ds.set i (s % 4294967296)) y (i + 1) (1 - s / 4294967296) := by
 obtain ⟨h1, h2, h3⟩ := h; refine ⟨by simp [h1], fun j hj => by rw [getD_set_ne (by omega)]; exact h2 j (by omega), ?_⟩; rw [nv_set_take (by omega), nv_take_succ', nv_take_succ', ← h2 i (Nat.le_refl _), ← ha, ← hb, Nat.pow_succ]; have e := Nat.mod_add_div s 4294967296; have hB : B = 4294967296 := rfl; have hq : s / 4294967296 = 0 ∨ s / 4294967296 = 1 := by omega
 have e2 : s % 4294967296 + b + bo = a + 4294967296 * (1 - s / 4294967296) := by rcases hq with h | h <;> rw [h] at e ⊢ <;> omega
 clear e hq hs; generalize s % 4294967296 = lo at *; generalize 1 - s / 4294967296 = hi at *; rw [← hB] at e2; generalize B ^ i = P at *; generalize B = β at *
 grind
theorem TakeR.done {x ds y : List Nat} {i bo : Nat} (h : TakeR x ds y i bo) (hi : x.length = i) (hle : nv y ≤ nv x) (hx : Lim x) (hy : Lim y) (hd : Lim ds) : nv ds = nv x - nv y := by
 obtain ⟨h1, h2, h3⟩ := h; have := MinusR.done (x := x) (y := y) (out := ds) (i := i) (bo := bo) ⟨by omega, by rw [List.take_of_length_le (show ds.length ≤ i by omega)] at h3; exact h3⟩ hi hle hx hy hd; exact this
end Go.Proofs.YtijkfagkbfbpmaaGreatDoor.Nm
namespace Go.Proofs.YtijkfagkbfbpmaaGreatDoor
open Go.RowKit
/-- the block of one limb that an append reads -/
theorem rd_one (w : World) (n : Nat) {m : Int} (h : m = (n : Int)) : Rd (w.alloc (.cells #[.int .u32 m] 104)) (some ⟨w.heap.size, 0, none⟩) (u32s [n]) := by
 subst h; intro _; refine ⟨_, _, rfl, fun i hi => ?_⟩; simp [u32s] at hi; subst hi; have := (Blk.new w 104 #[.int .u32 (n : Int)]).cell 0; rw [this]; rfl
theorem own_shape {w : World} {base : Nat} {v : Value} {n : Nat} {xs : List Value} (h : w.ownsRow base 104 1 v n xs) : ∃ A c, v = .slice A n c := by
 rcases h.2 with ⟨rfl, rfl⟩ | ⟨g, cap, cur, rfl, _⟩
 ·exact ⟨none, 0, rfl⟩
 ·exact ⟨_, cap, rfl⟩
theorem own_block {w : World} {base : Nat} {v : Value} {n : Nat} {xs : List Value} (h : w.ownsRow base 104 1 v n xs) : ∀ k, v.ownBlock = some k → base ≤ k := by
 intro k hk
 rcases h.2 with ⟨rfl, rfl⟩ | ⟨g, cap, cur, rfl, hb, _⟩
 ·simp [Value.ownBlock] at hk
 ·simp [Value.ownBlock] at hk; omega
theorem own_base {w : World} {base base' : Nat} {v : Value} {n : Nat} {xs : List Value} (h : w.ownsRow base 104 1 v n xs) (hb : base' ≤ base) : w.ownsRow base' 104 1 v n xs := by
 refine ⟨h.1, ?_⟩
 rcases h.2 with h1 | ⟨g, cap, cur, rfl, hb2, r⟩
 ·exact .inl h1
 ·exact .inr ⟨g, cap, cur, rfl, by omega, r⟩
theorem lim_snoc {l : List Nat} {a : Nat} (h : Nm.Lim l) (ha : a < 4294967296) : Nm.Lim (l ++ [a]) := by
 intro x hx
 rcases List.mem_append.1 hx with h1 | h1
 ·exact h x h1
 ·simp at h1; subst h1; exact ha
set_option maxRecDepth 10000 in
set_option maxHeartbeats 1000000 in
theorem rplus_own (A1 A2 : Option Addr) (c1 c2 k1 k2 : Nat) (x y : List Nat) (w : World) (hx : Lim w A1 c1 x) (hy : Lim w A2 c2 y) (e1 : k1 = x.length) (e2 : k2 = y.length) (hl1 : k1 ≤ 1048576) (hl2 : k2 ≤ 1048576) :
  Calls Tryz.prog 152 #[.slice A1 k1 c1, .slice A2 k2 c2] w fun e w' => ∃ A c k, e = .returned (.slice A k c) ∧ k ≤ 1048577 ∧ Hid (w'.ownsRow w.heap.size 104 1 (.slice A k c) k (u32s (Nm.lb (Nm.nv x + Nm.nv y)))) ∧ Below w.heap.size w w' := by
 have E1 := Lib.hid e1; have E2 := Lib.hid e2; obtain ⟨m, HM⟩ : ∃ m, Hid (m = max k1 k2) := ⟨_, rfl⟩; have hm1 : k1 ≤ m := by have := HM.out; omega
 have hm2 : k2 ≤ m := by have := HM.out; omega
 have hm3 : m ≤ 1048576 := by have := HM.out; omega
 have hmax : (max (k1 : Int) (k2 : Int)) = (m : Int) := by have := HM.out; omega
 clear e1 e2; obtain ⟨i0, hi0, hz0, hz1, hz2⟩ := info_parts u32_info
 go_enter Tryz.func152, Tryz.ntmps152
 go_wp2
 go_loopg [7, 5, 6] (m + 1) (fun j a b c wr => ∃ (i : Nat) (out : List Nat) (cy : Nat) (A : Option Addr) (cp : Nat), a = .int .i64 i ∧ i + j = m + 1 ∧ b = .slice A i cp ∧ c = .int .u64 cy ∧ cy ≤ 1 ∧ wr.ownsRow w.heap.size 104 1 (.slice A i cp) i (u32s out) ∧ Hid (Nm.PlusR x y out i cy ∧ Nm.Lim out) ∧ Below w.heap.size w wr)
 case atStart => exact ⟨0, [], 0, none, 0, rfl, by omega, rfl, rfl, by omega, ⟨rfl, .inl ⟨rfl, rfl⟩⟩, ⟨⟨rfl, by simp [Nm.nv]⟩, fun _ h => by cases h⟩, Below.refl _ _⟩
 case round =>
  obtain ⟨i, out, cy, A, cp, rfl, hij, rfl, rfl, hcy, hown, HP, hb⟩ := hrel; by_cases hlt : i < m + 1
  ·obtain ⟨a, HA⟩ : ∃ a, Hid (a = x.getD i 0) := ⟨_, rfl⟩; obtain ⟨b, HB⟩ : ∃ b, Hid (b = y.getD i 0) := ⟨_, rfl⟩; have ha : a < 4294967296 := by rw [HA.out]; exact hx.lt i
   have hb2 : b < 4294967296 := by rw [HB.out]; exact hy.lt i
   have hs1 : (a + b + cy) / 4294967296 ≤ 1 := by omega
   have HS : Hid (((a : Int) + (b : Int) + (cy : Int)) / 4294967296 = (((a + b + cy) / 4294967296 : Nat) : Int)) := by show _ = _; omega
   have HT : Hid (((a : Int) + (b : Int) + (cy : Int)) % 4294967296 = (((a + b + cy) % 4294967296 : Nat) : Int)) := by show _ = _; omega
   go_wp2_with fail
   all_goals
    refine (limb_any _ _ _ i a x _ (hx.below hb) E1.out (by omega) HA.out).mono ?_; rintro e w' ⟨rfl, rfl⟩; go_wp2_with fail; refine (limb_any _ _ _ i b y _ (hy.below hb) E2.out (by omega) HB.out).mono ?_; rintro e w' ⟨rfl, rfl⟩
    go_wp2_with (at_builtin; refine wpList_append_any _ rfl (.tmp 28) (.tmp 31) _ rfl w.heap.size 104 i0 _ 1 4 Tryz.underlying27 hi0 hz0 hz1 hz2 rfl (by omega) (.slice A i cp) i (u32s out) rfl (hown.alloc _) (some ⟨wr.heap.size, 0, none⟩) 1 1 (u32s [(a + b + cy) % 4294967296]) rfl rfl (rd_one wr ((a + b + cy) % 4294967296) HT.out) (u32s_one _) (by simp only [maxLen]; omega) (by omega) (by have := hb.size; simp; omega) ?_; intro v1 w1 hown1 hg1 hat1)
    go_roundg (gk - 1)
    case measure => omega
    case rel =>
     rw [← u32s_append] at hown1; obtain ⟨A', cp', rfl⟩ := own_shape hown1; exact ⟨i + 1, _, _, A', cp', by go_num, by omega, rfl, by rw [HS.out], hs1, hown1, ⟨HP.1.step HA.out HB.out, lim_snoc HP.2 (Nat.mod_lt _ (by omega))⟩, (Below.tr hb (bA wr _)).grown hg1 (by have := hb.size; simp; omega) (own_block hown)⟩
  ·obtain rfl : m + 1 = i := by omega
   obtain ⟨HL, hlim, _⟩ := own_lim2 hown HP.2; have HL' := Lib.hid HL; have HF : Hid (Nm.nv out = Nm.nv x + Nm.nv y) := HP.1.done (by have := HM.out; have := E1.out; have := E2.out; omega) hx.limb hy.limb HP.2; clear HL; go_wp2_with fail
   all_goals
    refine (rtrim_own _ _ _ out _ hlim HL'.out (by omega)).mono ?_; rintro e w' ⟨A', c', k, rfl, hk, ho, hb'⟩; go_wp2_with fail; go_ret; refine ⟨A', c', k, rfl, by omega, ?_, Below.tr hb hb'⟩; rw [← HF.out]; exact own_base ho.out hb.size
set_option maxRecDepth 10000 in
set_option maxHeartbeats 1000000 in
theorem rminus_own (A1 A2 : Option Addr) (c1 c2 k1 k2 : Nat) (x y : List Nat) (w : World) (hx : Lim w A1 c1 x) (hy : Lim w A2 c2 y) (e1 : k1 = x.length) (e2 : k2 = y.length) (hl1 : k1 ≤ 1048576) (hl2 : k2 ≤ 1048576) (hle : Nm.nv y ≤ Nm.nv x) :
  Calls Tryz.prog 178 #[.slice A1 k1 c1, .slice A2 k2 c2] w fun e w' => ∃ A c k, e = .returned (.slice A k c) ∧ k ≤ 1048577 ∧ Hid (w'.ownsRow w.heap.size 104 1 (.slice A k c) k (u32s (Nm.lb (Nm.nv x - Nm.nv y)))) ∧ Below w.heap.size w w' := by
 have E1 := Lib.hid e1; have E2 := Lib.hid e2; have HLE := Lib.hid hle; clear e1 e2 hle; obtain ⟨i0, hi0, hz0, hz1, hz2⟩ := info_parts u32_info
 go_enter Tryz.func178, Tryz.ntmps178
 go_wp2
 go_loopg [7, 5, 6] k1 (fun j a b c wr => ∃ (i : Nat) (out : List Nat) (bo : Nat) (A : Option Addr) (cp : Nat), a = .int .i64 i ∧ i + j = k1 ∧ b = .slice A i cp ∧ c = .int .u64 bo ∧ bo ≤ 1 ∧ wr.ownsRow w.heap.size 104 1 (.slice A i cp) i (u32s out) ∧ Hid (Nm.MinusR x y out i bo ∧ Nm.Lim out) ∧ Below w.heap.size w wr)
 case atStart => exact ⟨0, [], 0, none, 0, rfl, by omega, rfl, rfl, by omega, ⟨rfl, .inl ⟨rfl, rfl⟩⟩, ⟨⟨rfl, by simp [Nm.nv]⟩, fun _ h => by cases h⟩, Below.refl _ _⟩
 case round =>
  obtain ⟨i, out, bo, A, cp, rfl, hij, rfl, rfl, hbo, hown, HP, hb⟩ := hrel; by_cases hlt : i < k1
  ·obtain ⟨a, HA⟩ : ∃ a, Hid (a = x.getD i 0) := ⟨_, rfl⟩; obtain ⟨b, HB⟩ : ∃ b, Hid (b = y.getD i 0) := ⟨_, rfl⟩; have ha : a < 4294967296 := by rw [HA.out]; exact hx.lt i
   have hb2 : b < 4294967296 := by rw [HB.out]; exact hy.lt i
   obtain ⟨s, HS⟩ : ∃ s, Hid (s = a + 4294967296 - b - bo) := ⟨_, rfl⟩; have hs2 : 1 - s / 4294967296 ≤ 1 := by omega
   have HT : Hid (((a : Int) + 4294967296 - (b : Int) - (bo : Int)) % 4294967296 = ((s % 4294967296 : Nat) : Int)) := by have := HS.out; show _ = _; omega
   have HU : Hid (1 - ((a : Int) + 4294967296 - (b : Int) - (bo : Int)) / 4294967296 = ((1 - s / 4294967296 : Nat) : Int)) := by have := HS.out; show _ = _; omega
   go_wp2_with fail; refine (limb_any _ _ _ i a x _ (hx.below hb) E1.out (by omega) HA.out).mono ?_; rintro e w' ⟨rfl, rfl⟩; go_wp2_with fail; refine (limb_any _ _ _ i b y _ (hy.below hb) E2.out (by omega) HB.out).mono ?_; rintro e w' ⟨rfl, rfl⟩
   go_wp2_with (at_builtin; refine wpList_append_any _ rfl (.tmp 25) (.tmp 28) _ rfl w.heap.size 104 i0 _ 1 4 Tryz.underlying27 hi0 hz0 hz1 hz2 rfl (by omega) (.slice A i cp) i (u32s out) rfl (hown.alloc _) (some ⟨wr.heap.size, 0, none⟩) 1 1 (u32s [s % 4294967296]) rfl rfl (rd_one wr (s % 4294967296) HT.out) (u32s_one _) (by simp only [maxLen]; omega) (by omega) (by have := hb.size; simp; omega) ?_; intro v1 w1 hown1 hg1 hat1)
   go_roundg (gk - 1)
   case measure => omega
   case rel =>
    rw [← u32s_append] at hown1; obtain ⟨A', cp', rfl⟩ := own_shape hown1; exact ⟨i + 1, _, _, A', cp', by go_num, by omega, rfl, by rw [HU.out], hs2, hown1, ⟨HP.1.step HA.out HB.out ha hb2 hbo HS.out, lim_snoc HP.2 (Nat.mod_lt _ (by omega))⟩, (Below.tr hb (bA wr _)).grown hg1 (by have := hb.size; simp; omega) (own_block hown)⟩
  ·obtain rfl : k1 = i := by omega
   obtain ⟨HL, hlim, _⟩ := own_lim2 hown HP.2; have HL' := Lib.hid HL; have HF : Hid (Nm.nv out = Nm.nv x - Nm.nv y) := HP.1.done E1.out.symm HLE.out hx.limb hy.limb HP.2; clear HL; go_wp2_with fail; refine (rtrim_own _ _ _ out _ hlim HL'.out (by omega)).mono ?_; rintro e w' ⟨A', c', k, rfl, hk, ho, hb'⟩; go_wp2_with fail; go_ret; refine ⟨A', c', k, rfl, by omega, ?_, Below.tr hb hb'⟩; rw [← HF.out]; exact own_base ho.out hb.size
set_option maxRecDepth 10000 in
set_option maxHeartbeats 1000000 in
theorem rcompare_any (A1 A2 : Option Addr) (c1 c2 k1 k2 : Nat) (x y : List Nat) (w : World) (hx : Lim w A1 c1 x) (hy : Lim w A2 c2 y) (e1 : k1 = x.length) (e2 : k2 = y.length) (hl1 : k1 ≤ 2097152) (hl2 : k2 ≤ 2097152) :
  Calls Tryz.prog 114 #[.slice A1 k1 c1, .slice A2 k2 c2] w fun e w' => e = .returned (.int .i64 (Nm.cmpN (Nm.nv x) (Nm.nv y))) ∧ w = w' := by
 have E1 := Lib.hid e1; have E2 := Lib.hid e2; obtain ⟨m, HM⟩ : ∃ m, Hid (m = max k1 k2) := ⟨_, rfl⟩; have hm1 : k1 ≤ m := by have := HM.out; omega
 have hm2 : k2 ≤ m := by have := HM.out; omega
 have hm3 : m ≤ 2097152 := by have := HM.out; omega
 have HX : Hid (∀ i, m ≤ i → x.getD i 0 = y.getD i 0) := fun i hi => by
  simp [List.getD, List.getElem?_eq_none (show x.length ≤ i by omega), List.getElem?_eq_none (show y.length ≤ i by omega)]
 clear e1 e2
 go_enter Tryz.func114, Tryz.ntmps114
 go_wp2
 all_goals
  go_loopg [5] m (fun j a wr => a = .int .i64 ((j : Int) - 1) ∧ j ≤ m ∧ Hid (∀ i, j ≤ i → x.getD i 0 = y.getD i 0) ∧ wr = w)
  case atStart => exact ⟨by have := HM.out; congr 1; omega, Nat.le_refl _, HX, rfl⟩
  case round =>
   obtain ⟨rfl, hj, HE, rfl⟩ := hrel
   rcases gk with _ | j
   ·go_wp2_with fail; go_ret; exact ⟨by rw [Nm.cmpN_eq (Nm.nv_congr x y (fun i => HE.out i (Nat.zero_le _)))]; rfl, rfl⟩
   ·obtain ⟨a, HA⟩ : ∃ a, Hid (a = x.getD j 0) := ⟨_, rfl⟩; obtain ⟨b, HB⟩ : ∃ b, Hid (b = y.getD j 0) := ⟨_, rfl⟩; by_cases hab : a < b
    ·have HC : Hid (Nm.cmpN (Nm.nv x) (Nm.nv y) = -1) := Nm.cmpN_lt (Nm.lt_at' hx.limb (fun i hi => HE.out i hi) (by rw [← HA.out, ← HB.out]; exact hab)); go_wp2_with fail; refine (limb_any _ _ _ j a x _ hx E1.out (by omega) HA.out).mono ?_; rintro e w' ⟨rfl, rfl⟩; go_wp2_with fail; refine (limb_any _ _ _ j b y _ hy E2.out (by omega) HB.out).mono ?_; rintro e w' ⟨rfl, rfl⟩; go_wp2_with fail; go_ret; exact ⟨by rw [HC.out]; rfl, rfl⟩
    ·by_cases hba : b < a
     ·have HC : Hid (Nm.cmpN (Nm.nv x) (Nm.nv y) = 1) := Nm.cmpN_gt (Nm.lt_at' hy.limb (fun i hi => (HE.out i hi).symm) (by rw [← HA.out, ← HB.out]; exact hba)); go_wp2_with fail; refine (limb_any _ _ _ j a x _ hx E1.out (by omega) HA.out).mono ?_; rintro e w' ⟨rfl, rfl⟩; go_wp2_with fail; refine (limb_any _ _ _ j b y _ hy E2.out (by omega) HB.out).mono ?_; rintro e w' ⟨rfl, rfl⟩; go_wp2_with fail; refine (limb_any _ _ _ j a x _ hx E1.out (by omega) HA.out).mono ?_; rintro e w' ⟨rfl, rfl⟩; go_wp2_with fail; refine (limb_any _ _ _ j b y _ hy E2.out (by omega) HB.out).mono ?_; rintro e w' ⟨rfl, rfl⟩; go_wp2_with fail; go_ret; exact ⟨by rw [HC.out]; rfl, rfl⟩
     ·have HE2 : Hid (∀ i, j ≤ i → x.getD i 0 = y.getD i 0) := fun i hi => by
       by_cases h : i = j
       ·subst h; rw [← HA.out, ← HB.out]; omega
       ·exact HE.out i (by omega)
      go_wp2_with fail; refine (limb_any _ _ _ j a x _ hx E1.out (by omega) HA.out).mono ?_; rintro e w' ⟨rfl, rfl⟩; go_wp2_with fail; refine (limb_any _ _ _ j b y _ hy E2.out (by omega) HB.out).mono ?_; rintro e w' ⟨rfl, rfl⟩; go_wp2_with fail; refine (limb_any _ _ _ j a x _ hx E1.out (by omega) HA.out).mono ?_; rintro e w' ⟨rfl, rfl⟩; go_wp2_with fail; refine (limb_any _ _ _ j b y _ hy E2.out (by omega) HB.out).mono ?_; rintro e w' ⟨rfl, rfl⟩; go_wp2_with fail
      go_roundg j
      case measure => omega
      case rel => exact ⟨rfl, by omega, HE2, rfl⟩
end Go.Proofs.YtijkfagkbfbpmaaGreatDoor
namespace Go.Proofs.YtijkfagkbfbpmaaGreatDoor
open Go.RowKit
theorem limb_q (A : Option Addr) (c k j a : Nat) (l : List Nat) (w : World) (hr : Lim w A c l) (hk : k = l.length) (hj : j ≤ 2147483648) (ha : a = l.getD j 0) :
  Calls Tryz.prog 154 #[.slice A k c, .int .i64 j] w fun e w' => e = .returned (.int .u64 (a : Int)) ∧ w' = w := (limb_any A c k j a l w hr hk hj ha).mono fun _ _ ⟨h1, h2⟩ => ⟨h1, h2.symm⟩
set_option maxRecDepth 10000 in
set_option maxHeartbeats 2000000 in
theorem rtimes_any (A1 A2 : Option Addr) (c1 c2 k1 k2 : Nat) (x y : List Nat) (w : World) (hx : Lim w A1 c1 x) (hy : Lim w A2 c2 y) (e1 : k1 = x.length) (e2 : k2 = y.length) (hl1 : k1 ≤ 1048570) (hl2 : k2 ≤ 1048570) :
  Calls Tryz.prog 115 #[.slice A1 k1 c1, .slice A2 k2 c2] w fun e w' => ∃ A c k, e = .returned (.slice A k c) ∧ k ≤ 2097152 ∧ Hid (w'.ownsRow w.heap.size 104 1 (.slice A k c) k (u32s (Nm.lb (Nm.nv x * Nm.nv y)))) ∧ Below w.heap.size w w' := by
 have E1 := Lib.hid e1; have E2 := Lib.hid e2; have hmk := run_make32 (↑k1 + ↑k2 + 1) (k1 + k2 + 1) (by omega) (by omega); have HO0 : Hid (Nm.RTimesO (List.replicate (k1 + k2 + 1) 0) x y 0) := by have := Nm.RTimesO.start x y; rw [← E1.out, ← E2.out] at this; exact this
 clear e1 e2
 go_enter Tryz.func115, Tryz.ntmps115
 go_wp2
 go_loopg [6] k1 (fun j a wr => ∃ (i : Nat) (cs : List Nat), a = .int .i64 i ∧ i + j = k1 ∧ Row wr w.heap.size cs ∧ Hid (Nm.RTimesO cs x y i) ∧ Below w.heap.size w wr)
 case atStart => exact ⟨0, _, rfl, by omega, Row.new w _, HO0, bA w _⟩
 case round =>
  obtain ⟨i, cs, rfl, hij, hrow, HC, hb⟩ := hrel; obtain ⟨gj, hgj⟩ : ∃ gj, gj = gk := ⟨_, rfl⟩; subst hgj; by_cases hlt : i < k1
  ·obtain ⟨a, HA⟩ : ∃ a, Hid (a = x.getD i 0) := ⟨_, rfl⟩; have ha : a < 4294967296 := by rw [HA.out]; exact hx.lt i
   go_wp2_with fail
   go_loopg [8, 7] (k2 + 1) (fun j p q wx => ∃ (k : Nat) (ds : List Nat) (cy : Nat), p = .int .i64 k ∧ k + j = k2 + 1 ∧ q = .int .u64 cy ∧ cy < 4294967296 ∧ Row wx w.heap.size ds ∧ Hid (Nm.RTimesI ds cs x y i k a cy) ∧ Below w.heap.size w wx)
   case atStart => exact ⟨0, cs, 0, rfl, by omega, rfl, by omega, hrow, HC.out.enter, hb⟩
   case round =>
    obtain ⟨k, ds, cy, rfl, hkj, rfl, hcy, hrow2, HD, hb2⟩ := hrel; by_cases hk : k < k2 + 1
    ·obtain ⟨b, HB⟩ : ∃ b, Hid (b = y.getD k 0) := ⟨_, rfl⟩; have hbl : b < 4294967296 := by rw [HB.out]; exact hy.lt k
     obtain ⟨o, hco, hfo, ho, HO⟩ := hrow2.get (k := i + k) (by have := HD.1; have := E1.out; have := E2.out; omega); obtain ⟨hp0, hpr⟩ := Nm.prod_bounds ha hbl; have hX := hx.below hb2; have hY := hy.below hb2; have t1 : IntKind.i64.wrap ((i : Int) + (k : Int)) = (i : Int) + (k : Int) := IntWalk.i64_in _ (by omega); have t2 : ((i : Int) + (k : Int)).toNat = i + k := by omega
     have t3 : (0 : Int) ≤ (i : Int) + (k : Int) := by omega
     have t4 : (i : Int) + (k : Int) < (k1 : Int) + (k2 : Int) + 1 := by omega
     have t5 : IntKind.u64.wrap ((a : Int) * (b : Int)) = (a : Int) * (b : Int) := by rw [IntKind.wrap_u64]; omega
     have t6 : IntKind.u64.wrap ((a : Int) * (b : Int) + (o : Int)) = (a : Int) * (b : Int) + (o : Int) := by rw [IntKind.wrap_u64]; omega
     have t7 : IntKind.u64.wrap ((a : Int) * (b : Int) + (o : Int) + (cy : Int)) = (a : Int) * (b : Int) + (o : Int) + (cy : Int) := by rw [IntKind.wrap_u64]; omega
     go_wp2_with fail
     go_quiet ((first | (go_at_call_of 154 (Value.slice A1 k1 c1); exact Calls.quiet_of_same (limb_q _ _ _ i a x _ (hX.drewN _) E1.out (by omega) HA.out)) | (go_at_call_of 154 (Value.slice A2 k2 c2); exact Calls.quiet_of_same (limb_q _ _ _ k b y _ (hY.drewN _) E2.out (by omega) HB.out))))
     go_wp2_with fail; clear t1 t2 t3 t4 t5 t6 t7
     go_roundg (gk - 1)
     case measure => omega
     case rel =>
      have eA : ((a : Int) * (b : Int) + (o : Int) + (cy : Int)) % 4294967296 = (((a * b + o + cy) % 4294967296 : Nat) : Int) := by omega
      have eB : ((a : Int) * (b : Int) + (o : Int) + (cy : Int)) / 4294967296 = (((a * b + o + cy) / 4294967296 : Nat) : Int) := by omega
      rw [eA, eB]; have hcl : (a * b + o + cy) / 4294967296 < 4294967296 := Nat.div_lt_of_lt_mul (Nm.mul_carry_lt ha hbl ho hcy); exact ⟨k + 1, _, _, by go_num, by omega, rfl, hcl, (hrow2.below (below_drewN _ _)).set_ _ _ (Nat.mod_lt _ (by omega)), HD.out.step (by have := E1.out; omega) (by have := E2.out; omega) HB.out HO.out, (Below.tr hb2 (below_drewN _ _)).setCell (Nat.le_refl _) _⟩
    ·obtain rfl : k2 + 1 = k := by omega
     have HN : Hid (Nm.RTimesO ds x y (i + 1)) := by
      have h := HD.out; rw [E2.out] at h; exact h.done HC.out (by have := E1.out; omega) HA.out hx.limb hy.limb hrow2.2
     go_wp2_with fail
     go_roundg (gj - 1)
     case measure => omega
     case rel => exact ⟨i + 1, ds, by go_num, by omega, hrow2, HN, hb2⟩
  ·obtain rfl : k1 = i := by omega
   have HF : Hid (Nm.nv cs = Nm.nv x * Nm.nv y) := by
    have h := HC.2.1; rw [List.take_of_length_le (by have := E1.out; omega)] at h; exact h
   have HLn : Hid (k1 + k2 + 1 = cs.length) := by have := HC.1; have := E1.out; have := E2.out; show _ = _; omega
   have hlim := hrow.lim (c := k1 + k2 + 1) (by have := HLn.out; omega) (by omega); go_wp2_with fail; refine (rtrim_own _ _ _ cs _ hlim HLn.out (by omega)).mono ?_; rintro e w' ⟨A', c', k, rfl, hk, ho, hb'⟩; go_wp2_with fail; go_ret; refine ⟨A', c', k, rfl, by omega, ?_, Below.tr hb hb'⟩; rw [← HF.out]; exact own_base ho.out hb.size
end Go.Proofs.YtijkfagkbfbpmaaGreatDoor
namespace Go.Proofs.YtijkfagkbfbpmaaGreatDoor
open Go.RowKit
/-- limbs that lie in a row of the call's own -/
def Own (w : World) (base : Nat) (A : Option Addr) (k c : Nat) (l : List Nat) : Prop := w.ownsRow base 104 1 (.slice A k c) k (u32s l) ∧ Nm.Lim l
section
variable {w w' : World} {base k c : Nat} {A : Option Addr} {l : List Nat}
theorem Own.lim (h : Own w base A k c l) : Lim w A c l := (own_lim2 h.1 h.2).2.1
theorem Own.len (h : Own w base A k c l) : k = l.length := (own_lim2 h.1 h.2).1
theorem Own.get (h : Own w base A k c l) {i : Nat} (hi : i < k) : ∃ g a, A = some ⟨g, 0, none⟩ ∧ w.cell? ⟨g, i, none⟩ = some (.int .u32 ((a : Nat) : Int)) ∧ w.frozen? ⟨g, i, none⟩ = false ∧ a < 4294967296 ∧ Hid (a = l.getD i 0) := by
 have hl := h.len
 rcases h.1.2 with ⟨h0, h1⟩ | ⟨g, cap, cur, hv, _⟩
 ·omega
 ·injection hv with e1 e2 e3; subst e1; subst e3; refine ⟨g, l.getD i 0, rfl, ?_, World.ownsRow.frozenAt h.1 i, h.lim.lt i, rfl⟩; rw [World.ownsRow.cellAt h.1 i (by omega)]; have : i < l.length := by omega
  simp [u32s, List.getD, this]
theorem Own.set {g : Nat} (h : Own w base (some ⟨g, 0, none⟩) k c l) (i : Nat) {n : Nat} (hn : n < 4294967296) : Own (w.setCell ⟨g, i, none⟩ (.int .u32 (n : Int))) base (some ⟨g, 0, none⟩) k c (l.set i n) := by
 refine ⟨?_, fun x hx => ?_⟩
 ·have := (World.ownsRow.stored h.1 i (.int .u32 (n : Int))).1; have e : u32s (l.set i n) = (u32s l).set i (.int .u32 (n : Int)) := by simp [u32s, List.map_set]
  rw [e]; exact this
 ·rcases List.mem_or_eq_of_mem_set hx with h1 | h1
  ·exact h.2 x h1
  ·subst h1; exact hn
theorem Own.take_ (h : Own w base A k c l) {n : Nat} (hn : n ≤ k) : Own w base A n c (l.take n) := by
 refine ⟨?_, fun x hx => h.2 x (List.mem_of_mem_take hx)⟩; have hl := h.len; refine ⟨by simp [u32s]; omega, ?_⟩
 rcases h.1.2 with ⟨h0, h1⟩ | ⟨g, cap, cur, hv, hb, hh, h1, h2, h3, h4⟩
 ·subst h1; injection h0 with e1 e2 e3; subst e1; subst e3; exact .inl ⟨by rw [show n = 0 by omega], by omega⟩
 ·injection hv with e1 e2 e3; subst e1; subst e3; refine .inr ⟨g, c, cur, rfl, hb, hh, by omega, h2, h3, ?_⟩; have e : u32s (l.take n) = (u32s l).take n := by simp [u32s, List.map_take]
  rw [e, ← h4, List.take_take]
  congr 1
  omega
theorem Own.keep (h : Own w base A k c l) (hk : ∀ g, A = some ⟨g, 0, none⟩ → w'.heap[g]? = w.heap[g]?) : Own w' base A k c l := by
 refine ⟨⟨h.1.1, ?_⟩, h.2⟩
 rcases h.1.2 with h0 | ⟨g, cap, cur, hv, hb, hh, r⟩
 ·exact .inl h0
 ·injection hv with e1 e2 e3; subst e1; exact .inr ⟨g, cap, cur, by rw [e3], hb, (hk g rfl).trans hh, r⟩
theorem Own.lt (h : Own w base A k c l) : ∀ g, A = some ⟨g, 0, none⟩ → g < w.heap.size := by
 intro g hA
 rcases h.1.2 with ⟨h0, _⟩ | ⟨g', cap, cur, hv, hb, hh, r⟩
 ·injection h0 with e1; rw [hA] at e1; cases e1
 ·injection hv with e1 e2 e3; rw [hA] at e1; injection e1 with e1; injection e1 with e1 _; subst e1
  rcases Nat.lt_or_ge g w.heap.size with h1 | h1
  ·exact h1
  ·rw [Array.getElem?_eq_none h1] at hh; cases hh
theorem Own.below (h : Own w base A k c l) (hb : Below w.heap.size w w') : Own w' base A k c l := h.keep fun g hA => hb.block g (h.lt g hA)
theorem Own.base_ (h : Own w base A k c l) {b' : Nat} (hb : b' ≤ base) : Own w b' A k c l := ⟨own_base h.1 hb, h.2⟩
end
end Go.Proofs.YtijkfagkbfbpmaaGreatDoor
namespace Go.Proofs.YtijkfagkbfbpmaaGreatDoor
open Go.RowKit
theorem limb_i (A : Option Addr) (c k j a : Nat) (jj : Int) (l : List Nat) (w : World) (hr : Lim w A c l) (hk : k = l.length) (hj : j ≤ 2147483648) (ha : a = l.getD j 0) (hjj : jj = (j : Int)) :
  Calls Tryz.prog 154 #[.slice A k c, .int .i64 jj] w fun e w' => e = .returned (.int .u64 (a : Int)) ∧ w = w' := by
 subst hjj; exact limb_any A c k j a l w hr hk hj ha
theorem half_val (a b : Nat) (ha : a < 4294967296) (hb : b < 4294967296) :
  bits .or .u32 ((a : Int) / 2) (((b : Int) * 2147483648) % 4294967296) = ((a / 2 + (b % 2) * 2147483648 : Nat) : Int) ∧ a / 2 + (b % 2) * 2147483648 < 4294967296 := by
 have e1 : (a : Int) / 2 = ((a / 2 : Nat) : Int) := by omega
 have e2 : ((b : Int) * 2147483648) % 4294967296 = (((b % 2) * 2147483648 : Nat) : Int) := by omega
 refine ⟨?_, by omega⟩; rw [e1, e2, u32_or_nat _ _ (by omega) (by omega), Nat.or_comm, nat_join 31 _ _ (Nat.mul_mod_left _ _) (by omega), Nat.add_comm]
set_option maxRecDepth 10000 in
set_option maxHeartbeats 2000000 in
theorem half_own (A : Option Addr) (base c k : Nat) (l : List Nat) (w : World) (ho : Own w base A k c l) (hk : k ≤ 2097152) :
  Calls Tryz.prog 150 #[.slice A k c] w fun e w' => ∃ n, e = .returned (.slice A n c) ∧ n ≤ k ∧ Own w' base A n c (Nm.lb (Nm.nv l / 2)) ∧ w.grownBy w' (Value.ownBlock (.slice A k c)) := by
 have HL := Lib.hid ho.len; have hkc : k ≤ c := by have := ho.lim.2.1; have := HL.out; omega
 have hc : c ≤ 9223372036854775807 := ho.lim.2.2.1
 go_enter Tryz.func150, Tryz.ntmps150
 go_wp2
 go_loopg [4] k (fun j a wr => ∃ (i : Nat) (ds : List Nat), a = .int .i64 i ∧ i + j = k ∧ Own wr base A k c ds ∧ Hid (Nm.HalfR l ds i) ∧ w.grownBy wr (Value.ownBlock (.slice A k c)))
 case atStart => exact ⟨0, l, rfl, by omega, ho, Nm.HalfR.start l, only_refl w _⟩
 case round =>
  obtain ⟨i, ds, rfl, hij, hown, HH, hg⟩ := hrel; by_cases hlt : i < k
  ·obtain ⟨g, a, rfl, hca, hfa, ha, HA⟩ := hown.get hlt; obtain ⟨b, HB⟩ : ∃ b, Hid (b = ds.getD (i + 1) 0) := ⟨_, rfl⟩; have hb : b < 4294967296 := by rw [HB.out]; exact hown.lim.lt _
   obtain ⟨HV, hvl⟩ := half_val a b ha hb; have hll := hown.lim; have HLL := Lib.hid hown.len; have HV' := Lib.hid HV; clear HV; have t1 : IntKind.i64.wrap ((i : Int) + 1) = (i : Int) + 1 := IntWalk.i64_in _ (by omega); have t2 : IntKind.u64.wrap ((b : Int) * 2147483648) = (b : Int) * 2147483648 := by rw [IntKind.wrap_u64]; omega
   go_wp2_with fail
   go_region_with (go_at_call 154; refine (limb_i _ _ _ (i + 1) b _ ds _ hll.drew HLL.out (by omega) HB.out (by omega)).mono ?_; rintro e w' ⟨rfl, rfl⟩)
   all_goals
    go_wp2_with fail
    go_roundg (gk - 1)
    case measure => omega
    case rel =>
     rw [HV'.out]; have hs := hown.set i hvl; have hst := (World.ownsRow.stored hown.1 i (.int .u32 ((a / 2 + (b % 2) * 2147483648 : Nat) : Int))).2; refine ⟨i + 1, _, by go_num, by omega, hs.below (bD _), HH.out.step (by have := HL.out; omega) HA.out HB.out rfl, ?_⟩; exact only_trans hg (only_trans hst (only_below (bD _) _))
  ·obtain rfl : k = i := by omega
   have HN : Hid (Nm.nv ds = Nm.nv l / 2) := HH.out.done HL.out.symm; go_wp2_with fail
   go_loopg [3] k (fun j a wx => ∃ n : Nat, a = .int .i64 n ∧ n ≤ k ∧ n = j ∧ trimLen ds n = trimLen ds k ∧ wx = wr)
   case atStart => exact ⟨k, rfl, Nat.le_refl _, rfl, rfl, rfl⟩
   case round =>
    obtain ⟨n, rfl, hn, rfl, ht, rfl⟩ := hrel; have HT := Lib.hid ht; have HD := Lib.hid hown.len
    have hfin : ∀ n, n ≤ k → trimLen ds n = trimLen ds k → trimLen ds n = n → Own wr base A n c (Nm.lb (Nm.nv l / 2)) := by
     intro n hn h1 h2; have h3 := hown.take_ hn; have h4 := take_trimLen hown.2; rw [← HD.out, ← h1, h2, HN.out] at h4; rw [h4] at h3; exact h3
    have HF := Lib.hid hfin; clear ht hfin
    rcases n with _ | n
    ·have h0 := HF.out 0 (by omega) HT.out rfl; go_wp2_with fail; go_ret; exact ⟨0, rfl, by omega, h0, hg⟩
    ·obtain ⟨g, a, rfl, hca, hfa, ha, HA⟩ := hown.get (i := n) (by omega); by_cases hz : a = 0
     ·have hd : ((a : Int) == 0) = true := by rw [hz]; rfl
      have HT2 : Hid (trimLen ds n = trimLen ds k) := by show _ = _; rw [← HT.out, trimLen, if_pos (by rw [← HA.out]; exact hz)]
      clear hz; go_wp2_with fail
      go_roundg n
      case measure => omega
      case rel => exact ⟨n, rfl, by omega, rfl, HT2.out, rfl⟩
     ·have hd : ((a : Int) == 0) = false := by simp; omega
      have h0 := HF.out (n + 1) hn HT.out (by rw [trimLen, if_neg (by rw [← HA.out]; exact hz)]); clear hz; go_wp2_with fail; go_ret; exact ⟨n + 1, rfl, hn, h0, hg⟩
end Go.Proofs.YtijkfagkbfbpmaaGreatDoor
namespace Go.Proofs.YtijkfagkbfbpmaaGreatDoor
open Go.RowKit
set_option maxRecDepth 10000 in
set_option maxHeartbeats 2000000 in
theorem take_own (A A2 : Option Addr) (base c k c2 k2 : Nat) (x y : List Nat) (w : World) (ho : Own w base A k c x) (hy : Lim w A2 c2 y) (e2 : k2 = y.length) (hk : k ≤ 2097152) (hk2 : k2 ≤ 2097152) (hle : Nm.nv y ≤ Nm.nv x)
  (hne : ∀ b off g, A2 = some ⟨b, off, none⟩ → A = some ⟨g, 0, none⟩ → b ≠ g) :
  Calls Tryz.prog 151 #[.slice A k c, .slice A2 k2 c2] w fun e w' => ∃ n, e = .returned (.slice A n c) ∧ n ≤ k ∧ Own w' base A n c (Nm.lb (Nm.nv x - Nm.nv y)) ∧ w.grownBy w' (Value.ownBlock (.slice A k c)) := by
 have HL := Lib.hid ho.len; have E2 := Lib.hid e2; have HLE := Lib.hid hle; clear e2 hle; have hkc : k ≤ c := by have := ho.lim.2.1; have := HL.out; omega
 have hc : c ≤ 9223372036854775807 := ho.lim.2.2.1
 go_enter Tryz.func151, Tryz.ntmps151
 go_wp2
 go_loopg [6, 5] k (fun j a b wr => ∃ (i : Nat) (ds : List Nat) (bo : Nat), a = .int .i64 i ∧ i + j = k ∧ b = .int .u64 bo ∧ bo ≤ 1 ∧ Own wr base A k c ds ∧ Hid (Nm.TakeR x ds y i bo) ∧ w.grownBy wr (Value.ownBlock (.slice A k c)))
 case atStart => exact ⟨0, x, 0, rfl, by omega, rfl, by omega, ho, Nm.TakeR.start x y, only_refl w _⟩
 case round =>
  obtain ⟨i, ds, bo, rfl, hij, rfl, hbo, hown, HH, hg⟩ := hrel; by_cases hlt : i < k
  ·obtain ⟨g, a, rfl, hca, hfa, ha, HA⟩ := hown.get hlt; obtain ⟨b, HB⟩ : ∃ b, Hid (b = y.getD i 0) := ⟨_, rfl⟩; have hb : b < 4294967296 := by rw [HB.out]; exact hy.lt _
   have hll : Lim wr A2 c2 y := hy.only hg (fun b off hA => hne b off g hA rfl); obtain ⟨s, HS⟩ : ∃ s, Hid (s = a + 4294967296 - b - bo) := ⟨_, rfl⟩; have hs2 : 1 - s / 4294967296 ≤ 1 := by omega
   have HT : Hid (((a : Int) + 4294967296 - (b : Int) - (bo : Int)) % 4294967296 = ((s % 4294967296 : Nat) : Int)) := by have := HS.out; show _ = _; omega
   have HU : Hid (1 - ((a : Int) + 4294967296 - (b : Int) - (bo : Int)) / 4294967296 = ((1 - s / 4294967296 : Nat) : Int)) := by have := HS.out; show _ = _; omega
   have t1 : IntKind.u64.wrap ((a : Int) + 4294967296) = (a : Int) + 4294967296 := by rw [IntKind.wrap_u64]; omega
   have t2 : IntKind.u64.wrap ((a : Int) + 4294967296 - (b : Int)) = (a : Int) + 4294967296 - (b : Int) := by rw [IntKind.wrap_u64]; omega
   have t3 : IntKind.u64.wrap ((a : Int) + 4294967296 - (b : Int) - (bo : Int)) = (a : Int) + 4294967296 - (b : Int) - (bo : Int) := by rw [IntKind.wrap_u64]; omega
   go_wp2_with fail
   go_quiet ((go_at_call 154; exact Calls.quiet_of_same (limb_q _ _ _ i b y _ (hll.drewN _) E2.out (by omega) HB.out)))
   go_wp2_with fail; clear t1 t2 t3
   go_roundg (gk - 1)
   case measure => omega
   case rel =>
    rw [HT.out, HU.out]; have hsm : s % 4294967296 < 4294967296 := Nat.mod_lt _ (by omega); have hown2 := hown.below (below_drewN wr nq); have hs := hown2.set i hsm; have hst := (World.ownsRow.stored hown2.1 i (.int .u32 ((s % 4294967296 : Nat) : Int))).2; exact ⟨i + 1, _, _, by go_num, by omega, rfl, hs2, hs, HH.out.step (by have := HL.out; omega) HA.out HB.out ha hb hbo HS.out, only_trans (only_trans hg (only_below (below_drewN _ _) _)) hst⟩
  ·obtain rfl : k = i := by omega
   have HN : Hid (Nm.nv ds = Nm.nv x - Nm.nv y) := HH.out.done HL.out.symm HLE.out ho.2 hy.limb hown.2; go_wp2_with fail
   go_loopg [8] k (fun j a wx => ∃ n : Nat, a = .int .i64 n ∧ n ≤ k ∧ n = j ∧ trimLen ds n = trimLen ds k ∧ wx = wr)
   case atStart => exact ⟨k, rfl, Nat.le_refl _, rfl, rfl, rfl⟩
   case round =>
    obtain ⟨n, rfl, hn, rfl, ht, rfl⟩ := hrel; have HT := Lib.hid ht; have HD := Lib.hid hown.len
    have hfin : ∀ n, n ≤ k → trimLen ds n = trimLen ds k → trimLen ds n = n → Own wr base A n c (Nm.lb (Nm.nv x - Nm.nv y)) := by
     intro n hn h1 h2; have h3 := hown.take_ hn; have h4 := take_trimLen hown.2; rw [← HD.out, ← h1, h2, HN.out] at h4; rw [h4] at h3; exact h3
    have HF := Lib.hid hfin; clear ht hfin
    rcases n with _ | n
    ·have h0 := HF.out 0 (by omega) HT.out rfl; go_wp2_with fail; go_ret; exact ⟨0, rfl, by omega, h0, hg⟩
    ·obtain ⟨g, a, rfl, hca, hfa, ha, HA⟩ := hown.get (i := n) (by omega); by_cases hz : a = 0
     ·have hd : ((a : Int) == 0) = true := by rw [hz]; rfl
      have HT2 : Hid (trimLen ds n = trimLen ds k) := by show _ = _; rw [← HT.out, trimLen, if_pos (by rw [← HA.out]; exact hz)]
      clear hz; go_wp2_with fail
      go_roundg n
      case measure => omega
      case rel => exact ⟨n, rfl, by omega, rfl, HT2.out, rfl⟩
     ·have hd : ((a : Int) == 0) = false := by simp; omega
      have h0 := HF.out (n + 1) hn HT.out (by rw [trimLen, if_neg (by rw [← HA.out]; exact hz)]); clear hz; go_wp2_with fail; go_ret; exact ⟨n + 1, rfl, hn, h0, hg⟩
end Go.Proofs.YtijkfagkbfbpmaaGreatDoor
