import Derived.Test.YtijkfagkbfbpmaaGreatDoorKByProof09
import Derived.Deep.CutRange
import Derived.Deep.CutBlock
import Derived.Test.YtijkfagkbfbpmaaGreatDoorS0
set_option linter.unusedVariables false
set_option linter.unusedSimpArgs false
namespace Go.Proofs.YtijkfagkbfbpmaaGreatDoor
open Go.RowKit
/-- two rows of the call's own do not lie in one block -/
def Apart (A B : Option Addr) : Prop := ∀ g g', A = some ⟨g, 0, none⟩ → B = some ⟨g', 0, none⟩ → g ≠ g'
theorem Apart.symm {A B : Option Addr} (h : Apart A B) : Apart B A := fun g g' h1 h2 e => h g' g h2 h1 e.symm
theorem Own.zeroOff {w : World} {base k c : Nat} {A : Option Addr} {l : List Nat} (h : Own w base A k c l) : A = none ∨ ∃ g, A = some ⟨g, 0, none⟩ ∧ base ≤ g := by
 rcases h.1.2 with ⟨h0, h1⟩ | ⟨g, cap, cur, hv, hb, _⟩
 ·injection h0 with e1; exact .inl e1
 ·injection hv with e1; exact .inr ⟨g, e1, hb⟩
theorem Own.other {w w' : World} {base base2 ka ca kb cb : Nat} {A B : Option Addr} {la lb : List Nat} (hb : Own w base B kb cb lb) (ha : Own w base2 A ka ca la) (hg : w.grownBy w' (Value.ownBlock (.slice A ka ca))) (hap : Apart A B) : Own w' base B kb cb lb := by
 refine hb.keep fun g hB => hg.block g (hb.lt g hB) fun e => ?_
 rcases ha.zeroOff with rfl | ⟨g', rfl, _⟩
 ·simp [Value.ownBlock] at e
 ·simp [Value.ownBlock] at e; exact hap g' g rfl hB e.symm
theorem Own.grown {w w' w0 : World} {base ka ca : Nat} {A : Option Addr} {la : List Nat} (ha : Own w base A ka ca la) (h : Below base w0 w) (hw : base ≤ w.heap.size) (hg : w.grownBy w' (Value.ownBlock (.slice A ka ca))) : Below base w0 w' := by
 refine h.grown hg hw fun k hk => ?_
 rcases ha.zeroOff with rfl | ⟨g', rfl, hb⟩
 ·simp [Value.ownBlock] at hk
 ·simp [Value.ownBlock] at hk; omega
theorem odd_t (A : Option Addr) (base c k n : Nat) (w : World) (h : Own w base A k c (Nm.lb n)) (ho : n % 2 = 1) :
  Calls Tryz.prog 149 #[.slice A k c] w fun e w' => e = .returned (.bool true) ∧ w = w' := by
 have := odd_any A c k _ w h.lim h.len; rw [Nm.nv_lb, show oddB n = true by simp [oddB, ho]] at this; exact this
theorem odd_f (A : Option Addr) (base c k n : Nat) (w : World) (h : Own w base A k c (Nm.lb n)) (ho : n % 2 = 0) :
  Calls Tryz.prog 149 #[.slice A k c] w fun e w' => e = .returned (.bool false) ∧ w = w' := by
 have := odd_any A c k _ w h.lim h.len; rw [Nm.nv_lb, show oddB n = false by simp [oddB, ho]] at this; exact this
theorem half_n (A : Option Addr) (base c k n : Nat) (w : World) (ho : Own w base A k c (Nm.lb n)) (hk : k ≤ 2097152) :
  Calls Tryz.prog 150 #[.slice A k c] w fun e w' => ∃ k', e = .returned (.slice A k' c) ∧ k' ≤ k ∧ Own w' base A k' c (Nm.lb (n / 2)) ∧ w.grownBy w' (Value.ownBlock (.slice A k c)) := by
 have := half_own A base c k _ w ho hk
 rwa [Nm.nv_lb] at this
theorem rtrim_o (A : Option Addr) (c k n : Nat) (w : World) (hr : Nb w A k c n) (hl : k ≤ 2097152) :
  Calls Tryz.prog 109 #[.slice A k c] w fun e w' => ∃ A' k' c', e = .returned (.slice A' k' c') ∧ k' ≤ k ∧ Own w' w.heap.size A' k' c' (Nm.lb n) ∧ Below w.heap.size w w' := by
 refine (rtrim_own A c k _ w hr.2 hr.1 hl).mono ?_; rintro e w' ⟨A', c', k', rfl, hk, ho, hb⟩; rw [Nm.nv_lb] at ho; exact ⟨A', k', c', rfl, hk, ⟨ho.out, Nm.lim_lb _⟩, hb⟩
/-- two numbers in rows of the call's own -/
structure Two (w0 w : World) (A B : Option Addr) (ka ca kb cb p q : Nat) : Prop where
 a : Own w w0.heap.size A ka ca (Nm.lb p)
 b : Own w w0.heap.size B kb cb (Nm.lb q)
 ap : Apart A B
 la : ka ≤ 65536
 lb : kb ≤ 65536
 be : Below w0.heap.size w0 w
theorem Two.size {w0 w : World} {A B : Option Addr} {ka ca kb cb p q : Nat} (h : Two w0 w A B ka ca kb cb p q) : w0.heap.size ≤ w.heap.size := h.be.size
theorem Two.left {w0 w w' : World} {A B : Option Addr} {ka ca kb cb p q ka' p' : Nat} (h : Two w0 w A B ka ca kb cb p q) (ha : Own w' w0.heap.size A ka' ca (Nm.lb p')) (hk : ka' ≤ ka) (hg : w.grownBy w' (Value.ownBlock (.slice A ka ca))) : Two w0 w' A B ka' ca kb cb p' q :=
 ⟨ha, h.b.other h.a hg h.ap, h.ap, Nat.le_trans hk h.la, h.lb, h.a.grown h.be h.size hg⟩
theorem Two.swap {w0 w : World} {A B : Option Addr} {ka ca kb cb p q : Nat} (h : Two w0 w A B ka ca kb cb p q) : Two w0 w B A kb cb ka ca q p := ⟨h.b, h.a, h.ap.symm, h.lb, h.la, h.be⟩
theorem Two.right {w0 w w' : World} {A B : Option Addr} {ka ca kb cb p q kb' q' : Nat} (h : Two w0 w A B ka ca kb cb p q) (hb : Own w' w0.heap.size B kb' cb (Nm.lb q')) (hk : kb' ≤ kb) (hg : w.grownBy w' (Value.ownBlock (.slice B kb cb))) : Two w0 w' A B ka ca kb' cb p q' :=
 (h.swap.left hb hk hg).swap
theorem Two.posb {w0 w : World} {A B : Option Addr} {ka ca kb cb p q : Nat} (h : Two w0 w A B ka ca kb cb p q) (hq : 0 < q) : 0 < kb := by
 rcases Nat.eq_zero_or_pos kb with h0 | h0
 ·have := h.b.len; rw [h0] at this; have := List.eq_nil_of_length_eq_zero this.symm; rw [Nm.lb_nil_iff] at this; omega
 ·exact h0
theorem Two.zerob {w0 w : World} {A B : Option Addr} {ka ca kb cb p : Nat} (h : Two w0 w A B ka ca kb cb p 0) : kb = 0 := by have := h.b.len; simpa [Nm.lb_zero] using this
theorem Two.bd {w0 w : World} {A B : Option Addr} {ka ca kb cb p q : Nat} (h : Two w0 w A B ka ca kb cb p q) : ka ≤ 9223372036854775807 ∧ kb ≤ 9223372036854775807 ∧ ka ≤ ca ∧ ca ≤ 9223372036854775807 := by
 have h1 := h.la; have h2 := h.lb; have h3 := h.a.lim.2.1; have h4 := h.a.lim.2.2.1; have h5 := h.a.len; omega
theorem tw_lt {g p q t X k : Nat} (h : Nm.GcdR g p q t) (hg : g ≤ X) (hX : X < Nm.B ^ k) : t < 32 * k := by
 have h1 : 2 ^ t ≤ g := by
  rw [← h.2]; exact Nat.le_mul_of_pos_right _ (Nat.gcd_pos_of_pos_left _ h.1)
 have h2 : 2 ^ t < 2 ^ (32 * k) := by rw [← Nm.B_pow]; exact Nat.lt_of_le_of_lt (Nat.le_trans h1 hg) hX
 exact (Nat.pow_lt_pow_iff_right (by omega)).1 h2
theorem take_n (w0 : World) (A B : Option Addr) (ka ca kb cb p q : Nat) (w : World) (_n : Nat) (h : Two w0 w A B ka ca kb cb p q) (hle : q ≤ p) :
  Calls Tryz.prog 151 #[.slice A ka ca, .slice B kb cb] w fun e w' => ∃ n, e = .returned (.slice A n ca) ∧ Two w0 w' A B n ca kb cb (p - q) q := by
 have h1 := h.la; have h2 := h.lb; refine (take_own A B w0.heap.size ca ka cb kb _ _ w h.a h.b.lim h.b.len (by omega) (by omega) (by rw [Nm.nv_lb, Nm.nv_lb]; exact hle) ?_).mono ?_
 ·intro b off g hB hA
  rcases h.b.zeroOff with h4 | ⟨g2, h4, h5⟩ <;> rw [h4] at hB
  ·cases hB
  ·injection hB with e1; injection e1 with e1 e2; subst e1; exact fun e => h.ap g _ hA h4 e.symm
 ·rintro e w' ⟨n, rfl, hn, ho, hg⟩; rw [Nm.nv_lb, Nm.nv_lb] at ho; exact ⟨n, rfl, h.left ho hn hg⟩
set_option maxRecDepth 10000 in
set_option maxHeartbeats 2000000 in
theorem rcommon_n (A1 A2 : Option Addr) (c1 c2 k1 k2 x y : Nat) (w : World) (h1 : Nb w A1 k1 c1 x) (h2 : Nb w A2 k2 c2 y) (hl1 : k1 ≤ 65536) (hl2 : k2 ≤ 65536) (hx : 0 < x) :
  Calls Tryz.prog 111 #[.slice A1 k1 c1, .slice A2 k2 c2] w fun e w' => ∃ A k c, e = .returned (.slice A k c) ∧ Nb w' A k c (Nat.gcd x y) ∧ Below w.heap.size w w' := by
 obtain ⟨g, HG⟩ : ∃ g, Hid (g = Nat.gcd x y) := ⟨_, rfl⟩; have hgx : g ≤ x := by rw [HG.out]; exact Nat.gcd_le_left _ hx
 go_enter Tryz.func111, Tryz.ntmps111
 go_wp2_with fail; refine (rtrim_o _ _ _ x _ h1 (by omega)).mono ?_; rintro e w1 ⟨Aa, ka, ca, rfl, hka, hoa, hb1⟩; go_wp2_with fail; refine (rtrim_o _ _ _ y _ (h2.below hb1) (by omega)).mono ?_; rintro e w2 ⟨Ab, kb, cb, rfl, hkb, hob, hb2⟩
 have H0 : Two w w2 Aa Ab ka ca kb cb x y :=
  ⟨hoa.below hb2, hob.base_ hb1.size, fun g g' hA hB => by have h3 := hoa.lt g hA; rcases hob.zeroOff with h4 | ⟨g2, h4, h5⟩ <;> rw [h4] at hB <;> simp at hB; omega, by omega, by omega, Below.tr hb1 hb2⟩
 have HR0 : Hid (Nm.GcdR g x y 0) := ⟨hx, by rw [HG.out]; simp⟩; clear hoa hob hb1 hb2 hka hkb; have hk1 := h1.lt
 go_upto_block 0 with fail
 go_cut [5, 6, 7] from 14 (fun u a b wx => ∃ (t p q ka kb : Nat), u = .int .i64 t ∧ a = .slice Aa ka ca ∧ b = .slice Ab kb cb ∧ Two w wx Aa Ab ka ca kb cb p q ∧ Hid (Nm.GcdR g p q t) ∧ Hid (q = 0 ∨ p % 2 = 1 ∨ q % 2 = 1))
 case first => as_aux_lemma =>
  go_wp2_with fail
  go_loopg [5, 6, 7] (x + y) (fun j u a b wx => ∃ (t p q ka kb : Nat), u = .int .i64 t ∧ a = .slice Aa ka ca ∧ b = .slice Ab kb cb ∧ Two w wx Aa Ab ka ca kb cb p q ∧ Hid (Nm.GcdR g p q t) ∧ p + q = j)
  case atStart => exact ⟨0, x, y, ka, kb, rfl, rfl, rfl, H0, HR0, rfl⟩
  case round =>
   obtain ⟨t, p, q, ka, kb, rfl, rfl, rfl, HT, HR, rfl⟩ := hrel; obtain ⟨l1, l2, l3, l4⟩ := HT.bd; have hla := HT.la; have hlb := HT.lb; by_cases hq : 0 < q
   ·have hkb := HT.posb hq; by_cases hp2 : p % 2 = 1
    ·have HX : Hid (q = 0 ∨ p % 2 = 1 ∨ q % 2 = 1) := .inr (.inl hp2); have HP2 := Lib.hid hp2; clear hp2; go_wp2_with fail; refine (odd_t _ _ _ _ p _ HT.a HP2.out).mono ?_; rintro e w' ⟨rfl, rfl⟩; go_wp2_with fail
     go_meet
     case rel => exact ⟨t, p, q, ka, kb, rfl, rfl, rfl, HT, HR, HX⟩
    ·have HP2 := Lib.hid (show p % 2 = 0 by omega); clear hp2; by_cases hq2 : q % 2 = 1
     ·have HX : Hid (q = 0 ∨ p % 2 = 1 ∨ q % 2 = 1) := .inr (.inr hq2); have HQ2 := Lib.hid hq2; clear hq2; go_wp2_with fail; refine (odd_f _ _ _ _ p _ HT.a HP2.out).mono ?_; rintro e w' ⟨rfl, rfl⟩; go_wp2_with fail; refine (odd_t _ _ _ _ q _ HT.b HQ2.out).mono ?_; rintro e w' ⟨rfl, rfl⟩; go_wp2_with fail
      go_meet
      case rel => exact ⟨t, p, q, ka, kb, rfl, rfl, rfl, HT, HR, HX⟩
     ·have HQ2 := Lib.hid (show q % 2 = 0 by omega); clear hq2; have ht := tw_lt HR.out hgx hk1; go_wp2_with fail; refine (odd_f _ _ _ _ p _ HT.a HP2.out).mono ?_; rintro e w' ⟨rfl, rfl⟩; go_wp2_with fail; refine (odd_f _ _ _ _ q _ HT.b HQ2.out).mono ?_; rintro e w' ⟨rfl, rfl⟩; go_wp2_with fail; refine (half_n _ _ _ _ p _ HT.a (by omega)).mono ?_; rintro e w3 ⟨ka', rfl, hka, hoa, hga⟩; have HT3 := HT.left hoa hka hga; go_wp2_with fail; refine (half_n _ _ _ _ q _ HT3.b (by omega)).mono ?_; rintro e w4 ⟨kb', rfl, hkb', hob, hgb⟩; have HT4 := HT3.right hob hkb' hgb; have HR4 := HR.out.both HP2.out HQ2.out; have hsum : p / 2 + q / 2 < p + q := by omega
      go_wp2_with fail
      go_roundg (p / 2 + q / 2)
      case measure => exact hsum
      case rel => exact ⟨t + 1, p / 2, q / 2, ka', kb', by go_num, rfl, rfl, HT4, HR4, rfl⟩
   ·obtain rfl : q = 0 := by omega
    obtain rfl : kb = 0 := HT.zerob; go_wp2_with fail
    go_meet
    case rel => exact ⟨t, p, 0, ka, 0, rfl, rfl, rfl, HT, HR, .inl rfl⟩
 case rest => as_aux_lemma =>
  clear H0 HR0; obtain ⟨t, p, q, ka, kb, rfl, rfl, rfl, H1, HR1, HX1⟩ := hcut; have ht := tw_lt HR1.out hgx hk1; go_wp2_with fail
  go_loopg [6, 7] (p + q) (fun j a b wx => ∃ (Aa Ab : Option Addr) (ka ca kb cb p q : Nat), a = .slice Aa ka ca ∧ b = .slice Ab kb cb ∧ Two w wx Aa Ab ka ca kb cb p q ∧ Hid (Nm.GcdR g p q t) ∧ Hid (q = 0 ∨ p % 2 = 1 ∨ q % 2 = 1) ∧ p + q = j)
  case atStart => exact ⟨Aa, Ab, ka, ca, kb, cb, p, q, rfl, rfl, H1, HR1, HX1, rfl⟩
  case round =>
   clear HX1 H1 HR1; obtain ⟨Aa, Ab, ka, ca, kb, cb, p, q, rfl, rfl, H1, HR1, HX1, hj⟩ := hrel; obtain ⟨gj, hgj⟩ : ∃ gj, gj = gk := ⟨_, rfl⟩; subst hgj; have HJ := Lib.hid hj; clear hj; by_cases hq : 0 < q
   ·have hkb := H1.posb hq; have HX2 : Hid (p % 2 = 1 ∨ q % 2 = 1) := by rcases HX1.out with h | h; omega; exact h
    clear HX1; obtain ⟨l1, l2, l3, l4⟩ := H1.bd; go_wp2_with fail
    go_loopg [6] p (fun j a wx => ∃ (ka' p' : Nat), a = .slice Aa ka' ca ∧ Two w wx Aa Ab ka' ca kb cb p' q ∧ Hid (Nm.GcdR g p' q t) ∧ Hid (p' % 2 = 1 ∨ q % 2 = 1) ∧ p' ≤ p ∧ p' = j)
    case atStart => exact ⟨ka, p, rfl, H1, HR1, HX2, Nat.le_refl _, rfl⟩
    case round =>
     clear H1 HR1 HX2; obtain ⟨ka', p', rfl, H1, HR1, HX2, hpp, rfl⟩ := hrel; have hp0 := HR1.out.1; have hla := H1.la; by_cases hp2 : p' % 2 = 1
     ·have HP2 := Lib.hid hp2; clear hp2 HX2; go_wp2_with fail; refine (odd_t _ _ _ _ p' _ H1.a HP2.out).mono ?_; rintro e w' ⟨rfl, rfl⟩; go_wp2_with fail
      go_loopg [7] q (fun j b wx => ∃ (kb' q' : Nat), b = .slice Ab kb' cb ∧ Two w wx Aa Ab ka' ca kb' cb p' q' ∧ Hid (Nm.GcdR g p' q' t) ∧ 0 < q' ∧ q' ≤ q ∧ q' = j)
      case atStart => exact ⟨kb, q, rfl, H1, HR1, hq, Nat.le_refl _, rfl⟩
      case round =>
       clear H1 HR1; obtain ⟨kb', q', rfl, H1, HR1, hq0, hqq, rfl⟩ := hrel; have hlb := H1.lb; by_cases hq2 : q' % 2 = 1
       ·have HQ2 := Lib.hid hq2; clear hq2; go_wp2_with fail; refine (odd_t _ _ _ _ q' _ H1.b HQ2.out).mono ?_; rintro e w' ⟨rfl, rfl⟩; by_cases hle : p' ≤ q'
        ·have HC : ∃ c : Int, c ≤ 0 ∧ Hid (Nm.cmpN p' q' = c) := by
          by_cases h : p' = q'
          ·exact ⟨0, by omega, Nm.cmpN_eq h⟩
          ·exact ⟨-1, by omega, Nm.cmpN_lt (by omega)⟩
         obtain ⟨cc, hcc, HC⟩ := HC; go_wp2_with fail; refine (rcompare_n _ _ _ _ _ _ p' q' _ H1.a.nb H1.b.nb (by omega) (by omega)).mono ?_; rw [HC.out]; rintro e w' ⟨rfl, rfl⟩; go_wp2_with fail; refine (take_n _ _ _ _ _ _ _ _ _ _ 0 H1.swap hle).mono ?_; rintro e w3 ⟨n, rfl, HT3⟩; have HR3 := HR1.out.sub hle; have hsum : p' + (q' - p') < gj := by have := HJ.out; omega
         go_wp2_with fail
         go_roundg (p' + (q' - p'))
         case measure => exact hsum
         case rel => exact ⟨Aa, Ab, ka', ca, n, cb, p', q' - p', rfl, rfl, HT3.swap, HR3, .inr (.inl HP2.out), rfl⟩
        ·have HC : Hid (Nm.cmpN p' q' = 1) := Nm.cmpN_gt (by omega); go_wp2_with fail; refine (rcompare_n _ _ _ _ _ _ p' q' _ H1.a.nb H1.b.nb (by omega) (by omega)).mono ?_; rw [HC.out]; rintro e w' ⟨rfl, rfl⟩; go_wp2_with fail; refine (take_n _ _ _ _ _ _ _ _ _ _ 0 H1 (by omega)).mono ?_; rintro e w3 ⟨n, rfl, HT3⟩; have HR3 := (HR1.out.swap hq0).sub (by omega); have hsum : q' + (p' - q') < gj := by have := HJ.out; omega
         go_wp2_with fail
         go_roundg (q' + (p' - q'))
         case measure => exact hsum
         case rel => exact ⟨Ab, Aa, kb', cb, n, ca, q', p' - q', rfl, rfl, HT3.swap, HR3, .inr (.inl HQ2.out), rfl⟩
       ·have HQ2 := Lib.hid (show q' % 2 = 0 by omega); clear hq2; go_wp2_with fail; refine (odd_f _ _ _ _ q' _ H1.b HQ2.out).mono ?_; rintro e w' ⟨rfl, rfl⟩; go_wp2_with fail; refine (half_n _ _ _ _ q' _ H1.b (by omega)).mono ?_; rintro e w3 ⟨kb2, rfl, hkb2, hob, hgb⟩; have HT3 := H1.right hob hkb2 hgb; have HR3 := HR1.out.right HP2.out HQ2.out; have hq3 : 0 < q' / 2 := by have := HQ2.out; omega
        have hq4 : q' / 2 < q' := by omega
        go_wp2_with fail
        go_roundg (q' / 2)
        case measure => exact hq4
        case rel => exact ⟨kb2, q' / 2, rfl, HT3, HR3, hq3, by omega, rfl⟩
     ·have HP2 := Lib.hid (show p' % 2 = 0 by omega); have hqo : q % 2 = 1 := by rcases HX2.out with h | h; exact absurd h hp2; exact h
      have HQ2 := Lib.hid hqo; clear hp2 hqo HX2; go_wp2_with fail; refine (odd_f _ _ _ _ p' _ H1.a HP2.out).mono ?_; rintro e w' ⟨rfl, rfl⟩; go_wp2_with fail; refine (half_n _ _ _ _ p' _ H1.a (by omega)).mono ?_; rintro e w3 ⟨ka2, rfl, hka2, hoa, hga⟩; have HT3 := H1.left hoa hka2 hga; have HR3 := HR1.out.left HP2.out HQ2.out; have hq4 : p' / 2 < p' := by omega
      go_wp2_with fail
      go_roundg (p' / 2)
      case measure => exact hq4
      case rel => exact ⟨ka2, p' / 2, rfl, HT3, HR3, .inr HQ2.out, by omega, rfl⟩
   ·obtain rfl : q = 0 := by omega
    obtain rfl : kb = 0 := H1.zerob; have HG2 := Lib.hid HR1.out.done; have hnb := H1.a.nb; have hbe := H1.be; clear HX1 HR1 H1 HJ; go_wp2_with fail
    go_loopg [6, 9] t (fun j a i wx => ∃ (A : Option Addr) (k c n : Nat), a = .slice A k c ∧ i = .int .i64 n ∧ Nb wx A k c (p * 2 ^ n) ∧ n + j = t ∧ Below w.heap.size w wx)
    case atStart => exact ⟨Aa, ka, ca, 0, rfl, rfl, by rw [Nat.pow_zero, Nat.mul_one]; exact hnb, by omega, hbe⟩
    case round =>
     clear hnb hbe; obtain ⟨A, k, c, n, rfl, rfl, hnb, hn, hbe⟩ := hrel; by_cases hlt : n < t
     ·have hk : k ≤ k1 := hnb.lek (Nat.lt_of_le_of_lt (Nat.le_trans (Nat.mul_le_mul_left p (Nat.pow_le_pow_right (by omega) (Nat.le_of_lt hlt))) (by rw [HG2.out]; exact hgx)) hk1); go_wp2_with fail; refine (rplus_n _ _ _ _ _ _ _ _ _ hnb hnb (by omega) (by omega)).mono ?_; rintro e w3 ⟨A3, k3, c3, rfl, hn3, hb3⟩; have e3 : p * 2 ^ n + p * 2 ^ n = p * 2 ^ (n + 1) := by rw [Nat.pow_succ, ← Nat.mul_assoc]; omega
      rw [e3] at hn3; clear e3; go_wp2_with fail
      go_roundg (gk - 1)
      case measure => omega
      case rel => exact ⟨A3, k3, c3, n + 1, rfl, by go_num, hn3, by omega, Below.tr hbe hb3⟩
     ·obtain rfl : t = n := by omega
      rw [HG2.out, HG.out] at hnb; go_wp2_with fail; go_ret; exact ⟨A, k, c, rfl, hnb, hbe⟩
end Go.Proofs.YtijkfagkbfbpmaaGreatDoor
namespace Go.Proofs.YtijkfagkbfbpmaaGreatDoor
open Go.RowKit
namespace Nm
def dn (q : Nat) : Nat := if q = 1 then 0 else q
def Fits (p q : Nat) : Prop := (lb p).length ≤ 64 ∧ (lb (dn q)).length ≤ 64
theorem dn_one : dn 1 = 0 := rfl
theorem dn_ne {q : Nat} (h : q ≠ 1) : dn q = q := if_neg h
end Nm
/-- the value is the ratio p/q, in lowest form -/
def Rat (w : World) (v : Value) (p q : Nat) : Prop := ∃ A1 k1 c1 A2 k2 c2, v = .agg #[.slice A1 k1 c1, .slice A2 k2 c2] ∧ Nb w A1 k1 c1 p ∧ Nb w A2 k2 c2 (Nm.dn q)
def nilRat : Value := .agg #[.slice none 0 0, .slice none 0 0]
/-- what a function says that makes a ratio of two numbers: the ratio in lowest form, or that it does not fit -/
def RedP (w : World) (v : Value) (er : Int) (n d : Nat) : Prop :=
 (Nm.Fits (n / Nat.gcd n d) (d / Nat.gcd n d) ∧ er = 0 ∧ Rat w v (n / Nat.gcd n d) (d / Nat.gcd n d)) ∨ (¬ Nm.Fits (n / Nat.gcd n d) (d / Nat.gcd n d) ∧ er = 4 ∧ v = nilRat)
theorem Rat.below {w w' : World} {v : Value} {p q : Nat} (h : Rat w v p q) (hb : Below w.heap.size w w') : Rat w' v p q := by
 obtain ⟨A1, k1, c1, A2, k2, c2, rfl, h1, h2⟩ := h; exact ⟨A1, k1, c1, A2, k2, c2, rfl, h1.below hb, h2.below hb⟩
theorem RedP.below {w w' : World} {v : Value} {er : Int} {n d : Nat} (h : RedP w v er n d) (hb : Below w.heap.size w w') : RedP w' v er n d := by
 rcases h with ⟨h1, h2, h3⟩ | h
 ·exact .inl ⟨h1, h2, h3.below hb⟩
 ·exact .inr h
/-- the slice does not lie in block g -/
def Off (g : Nat) (A : Option Addr) : Prop := ∀ b off, A = some ⟨b, off, none⟩ → b ≠ g
theorem Nb.pos {w : World} {A : Option Addr} {k c n : Nat} (h : Nb w A k c n) (hn : 0 < n) : 0 < k := by
 rcases Nat.eq_zero_or_pos k with h0 | h0
 ·have := h.1; rw [h0] at this; have := List.eq_nil_of_length_eq_zero this.symm; rw [Nm.lb_nil_iff] at this; omega
 ·exact h0
theorem Nb.in_ {w : World} {A : Option Addr} {k c n : Nat} (h : Nb w A k c n) (hn : 0 < n) : ∀ b off, A = some ⟨b, off, none⟩ → b < w.heap.size := by
 intro b off hA; obtain ⟨b', off', hA', hc⟩ := h.2.at_ (k := 0) (by rw [← h.1]; exact h.pos hn); rw [hA'] at hA; injection hA with hA; injection hA with e1 e2; subst e1; exact cell_lt (hc 0 (by rw [← h.1]; exact h.pos hn))
theorem Nb.offSet {w : World} {A : Option Addr} {k c n g i : Nat} (h : Nb w A k c n) (hf : Off g A) (u : Value) : Nb (w.setCell ⟨g, i, none⟩ u) A k c n :=
 ⟨h.1, h.2.only (only_set w i u) hf⟩
theorem Off.none (g : Nat) : Off g none := fun _ _ h => by cases h
theorem Nb.kzero {w : World} {A : Option Addr} {k c : Nat} (h : Nb w A k c 0) : k = 0 := by have := h.1; simpa [Nm.lb_zero] using this
theorem rone_t (A : Option Addr) (c k n : Nat) (w : World) (h : Nb w A k c n) (hn : n = 1) :
  Calls Tryz.prog 110 #[.slice A k c] w fun e w' => e = .returned (.bool true) ∧ w = w' := by
 have := rone_any A c k _ w h.2 h.1; subst hn
 rwa [Nm.lb_one] at this
theorem rone_f (A : Option Addr) (c k n : Nat) (w : World) (h : Nb w A k c n) (hn : n ≠ 1) :
  Calls Tryz.prog 110 #[.slice A k c] w fun e w' => e = .returned (.bool false) ∧ w = w' := by
 have := rone_any A c k _ w h.2 h.1
 rwa [oneB_lb, show decide (n = 1) = false by simp [hn]] at this
theorem rone_g (A : Option Addr) (c k n : Nat) (w : World) (h : Nb w A k c n) :
  Calls Tryz.prog 110 #[.slice A k c] w fun e w' => ∃ b, e = .returned (.bool b) ∧ Hid (b = decide (n = 1)) ∧ w = w' := by
 refine (rone_any A c k _ w h.2 h.1).mono ?_; rintro e w' ⟨rfl, rfl⟩; exact ⟨_, rfl, oneB_lb n, rfl⟩
theorem rat_set {w : World} {A1 A2 : Option Addr} {k1 c1 k2 c2 p q g : Nat} (h1 : Nb w A1 k1 c1 p) (h2 : Nb w A2 k2 c2 (Nm.dn q)) (o1 : Off g A1) (o2 : Off g A2) (u1 u2 : Value) :
  Rat ((w.setCell ⟨g, 0, none⟩ u1).setCell ⟨g, 1, none⟩ u2) (.agg #[.slice A1 k1 c1, .slice A2 k2 c2]) p q :=
 ⟨A1, k1, c1, A2, k2, c2, rfl, (h1.offSet o1 _).offSet o1 _, (h2.offSet o2 _).offSet o2 _⟩
theorem below_set2 {w0 w : World} {g : Nat} (hb : Below w0.heap.size w0 w) (hg : w0.heap.size ≤ g) (u1 u2 : Value) : Below w0.heap.size w0 ((w.setCell ⟨g, 0, none⟩ u1).setCell ⟨g, 1, none⟩ u2) := (hb.setCell hg _).setCell hg _
/-- the cell of a result that is a ratio -/
def Res (w : World) (g : Nat) : Prop := Blk w g 29 #[.slice none 0 0, .slice none 0 0]
theorem Res.new (w : World) : Res (w.alloc (.cells #[.slice none 0 0, .slice none 0 0] 29)) w.heap.size := Blk.new w _ _
theorem Res.below {w w' : World} {g : Nat} (h : Res w g) (hb : Below w.heap.size w w') : Res w' g := Blk.below h hb h.lt
theorem Res.facts {w : World} {g : Nat} (h : Res w g) : w.cell? ⟨g, 0, none⟩ = some (.slice none 0 0) ∧ w.cell? ⟨g, 1, none⟩ = some (.slice none 0 0) ∧ w.frozen? ⟨g, 0, none⟩ = false ∧ w.frozen? ⟨g, 1, none⟩ = false :=
 ⟨h.cell 0, h.cell 1, h.frozen 0, h.frozen 1⟩
theorem Res.set2 {w : World} {g : Nat} (h : Res w g) (u1 u2 : Value) : ((w.setCell ⟨g, 0, none⟩ u1).setCell ⟨g, 1, none⟩ u2).cell? ⟨g, 0, none⟩ = some u1 ∧ ((w.setCell ⟨g, 0, none⟩ u1).setCell ⟨g, 1, none⟩ u2).cell? ⟨g, 1, none⟩ = some u2 := by
 have hB3 := (Blk.set_ h 0 u1).set_ 1 u2; have h30 := hB3.cell 0; have h31 := hB3.cell 1; simp at h30 h31; exact ⟨h30, h31⟩
end Go.Proofs.YtijkfagkbfbpmaaGreatDoor
