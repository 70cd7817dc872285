import Derived.Test.YtijkfagkbfbpmaaGreatDoorKTmProof13
import Derived.Deep.RegionLawGrows
import Derived.Deep.LoopGhost
import Derived.Test.YtijkfagkbfbpmaaGreatDoorS0
set_option linter.unusedVariables false
set_option linter.unusedSimpArgs false
namespace Go.Proofs.YtijkfagkbfbpmaaGreatDoor
open Go.RowKit
def ext (γ : Nat → Nat) (w : World) (c : Nat) : Nat → Nat := fun b => if w.heap.size ≤ b then c else γ b
theorem Own.setSl {w : World} {B k c g i : Nat} {A : Option Addr} {l : List Nat} (h : Own w B A k c l) (hs : Sl w g) (u : Value) : Own (w.setCell ⟨g, i, none⟩ u) B A k c l := by
 refine h.keep fun g' hA => ?_
 refine Below.heap_setCell w ⟨g, i, none⟩ u g' (fun e => ?_); obtain ⟨r1, r2, r3, r4, r5, r6, hb⟩ := hs
 rcases h.1.2 with ⟨h0, _⟩ | ⟨g2, cap, cur, hv, _, hh, _⟩
 ·injection h0 with e1; rw [hA] at e1; cases e1
 ·injection hv with e1 _ _; rw [hA] at e1; injection e1 with e1; injection e1 with e1 _; unfold Blk at hb; rw [← e1, show g' = g from e, hb] at hh; simp at hh
theorem Lim.setSl {w : World} {A : Option Addr} {c g i : Nat} {l : List Nat} (h : Lim w A c l) (hs : Sl w g) (u : Value) : Lim (w.setCell ⟨g, i, none⟩ u) A c l := by
 by_cases hl : l = []
 ·subst hl; exact ⟨fun hx => absurd rfl hx, h.2⟩
 ·refine h.only (only_set w i u) (fun b off hA e => ?_); have h0 : 0 < l.length := List.length_pos_iff.2 hl; obtain ⟨b', off', hA', hc⟩ := h.at_ h0; rw [hA'] at hA; injection hA with hA; injection hA with e1 e2; have h1 := hc 0 h0; obtain ⟨r1, r2, r3, r4, r5, r6, hb⟩ := hs; rw [e1, e, hb.cell] at h1; generalize off' + 0 = m at h1
  rcases m with _ | _ | m <;> simp at h1
section
variable {B g k1 k2 : Nat} {l1 l2 : List Nat}
end
section
variable {w0 w w' : World} {γ γ' : Nat → Nat} {g b1 : Nat} {A1 A2 : Option Addr} {k1 c1 k2 c2 : Nat} {l1 l2 : List Nat}
end
end Go.Proofs.YtijkfagkbfbpmaaGreatDoor
namespace Go.Proofs.YtijkfagkbfbpmaaGreatDoor
open Go.RowKit
/-- n divided by d, in lowest form -/
def RatOf (w : World) (v : Value) (n d : Nat) : Prop := Rat w v (n / Nat.gcd n d) (d / Nat.gcd n d) ∧ Nm.Good (n / Nat.gcd n d) (d / Nat.gcd n d)
theorem RatOf.below {w w' : World} {v : Value} {n d : Nat} (h : RatOf w v n d) (hb : Below w.heap.size w w') : RatOf w' v n d := ⟨h.1.below hb, h.2⟩
theorem RatOf.map {w w' : World} {v : Value} {n d : Nat} (h : RatOf w v n d) (hm : ∀ A k c x, Nb w A k c x → Nb w' A k c x) : RatOf w' v n d := ⟨h.1.map hm, h.2⟩
theorem rof_s (n d : Nat) (w : World) (hn : n ≤ 9223372036854775807) (hd : 0 < d) (hd2 : d ≤ 9223372036854775807) :
  Calls Tryz.prog 62 #[.int .i64 n, .int .i64 d] w fun e w' => ∃ A k c A' k' c', e = .returned (.tuple #[.agg #[.slice A k c, .slice A' k' c'], .int .i64 0]) ∧ RatOf w' (.agg #[.slice A k c, .slice A' k' c']) n d ∧ Below w.heap.size w w' := by
 refine (rof_n n d w hn hd hd2).mono ?_; rintro e w' ⟨v, er, rfl, hP, hb⟩; obtain ⟨rfl, h1, h2⟩ := hP.small hd (b64 (by omega)) (b64 (by omega)); obtain ⟨A, k, c, A', k', c', rfl⟩ := h1.shape; exact ⟨A, k, c, A', k', c', rfl, ⟨h1, h2⟩, hb⟩
theorem rat_ret {w0 w : World} {g : Nat} {A A' : Option Addr} {k c k' c' n d : Nat} (hres : Res w g) (h : RatOf w (.agg #[.slice A k c, .slice A' k' c']) n d) :
  RatOf ((w.setCell ⟨g, 0, none⟩ (.slice A k c)).setCell ⟨g, 1, none⟩ (.slice A' k' c')) (.agg #[.slice A k c, .slice A' k' c']) n d := h.map (hres.sl.keep2 A A' k c k' c')
theorem part_le {a k : Nat} (h : a ≤ k) : a / Nat.gcd a k ≤ k / Nat.gcd a k := Nat.div_le_div_right h
set_option maxRecDepth 10000 in
set_option maxHeartbeats 400000 in
theorem rpart_n (n d : Int) (w : World) (h1 : -9223372036854775808 ≤ n) (h2 : n ≤ 9223372036854775807) (h3 : -9223372036854775808 ≤ d) (h4 : d ≤ 9223372036854775807) :
  Calls Tryz.prog 96 #[.int .i64 n, .int .i64 d] w fun e w' => ∃ v p q, e = .returned v ∧ Rat w' v p q ∧ Nm.Good p q ∧ p ≤ q ∧ Hid (∃ a k, a ≤ k ∧ 0 < k ∧ k ≤ 24 ∧ p = a / Nat.gcd a k ∧ q = k / Nat.gcd a k) ∧ Below w.heap.size w w' := by
 go_enter Tryz.func96, Tryz.ntmps96
 go_wp2_with fail; refine (around_n d 24 _ h3 h4 (by omega) (by omega)).mono ?_; rintro e w' ⟨x, rfl, hx, _, rfl⟩; go_wp2_with fail; refine (around_n n (1 + x + 1) _ h1 h2 (by omega) (by omega)).mono ?_; rintro e w' ⟨y, rfl, hy, _, rfl⟩; go_wp2_with fail; refine (rof_s y (1 + x) _ (by omega) (by omega) (by omega)).mono ?_; rintro e w1 ⟨A, k, c, A', k', c', rfl, hR, hb⟩; have hres := Res.below (Res.below (Res.new w) hb) (bA w1 (.cells #[.slice A k c, .slice A' k' c'] 29)); have hR2 := hR.below (bA w1 (.cells #[.slice A k c, .slice A' k' c'] 29)); obtain ⟨r1, r2, r3, r4⟩ := hres.facts; obtain ⟨s1, s2⟩ := hres.set2 (.slice A k c) (.slice A' k' c'); have hfin := rat_ret (w0 := w) hres hR2; have hbw := Below.tr (Below.tr (bA w _) hb) (bA w1 (.cells #[.slice A k c, .slice A' k' c'] 29)); clear hR hR2 hb; go_wp2_with fail; exact bodyPost_ret (v := .agg #[.slice A k c, .slice A' k' c']) (by simp [results, Tryz.results96, go_sem, s1, s2]) rfl ⟨_, _, _, rfl, hfin.1, hfin.2, part_le (by omega), ⟨y, 1 + x, by omega, by omega, by omega, rfl, rfl⟩, below_set2 hbw (Nat.le_refl _) _ _⟩
end Go.Proofs.YtijkfagkbfbpmaaGreatDoor
namespace Go.Proofs.YtijkfagkbfbpmaaGreatDoor
open Go.RowKit
theorem Own.notBox {w : World} {base k c g : Nat} {A : Option Addr} {l : List Nat} {v1 v2 : Value} (h : Own w base A k c l) (hb : Box w g v1 v2) : ∀ g', A = some ⟨g', 0, none⟩ → g' ≠ g := by
 rintro g' hA rfl
 rcases h.1.2 with ⟨h0, _⟩ | ⟨g2, cap, cur, hv, _, hh, _⟩
 ·injection h0 with e1; rw [hA] at e1; cases e1
 ·injection hv with e1 _ _; rw [hA] at e1; injection e1 with e1; injection e1 with e1 _; unfold Box Blk at hb; rw [← e1, hb] at hh; simp at hh
theorem Box.other {w w' : World} {base k c g : Nat} {A : Option Addr} {l : List Nat} {v1 v2 : Value} (hb : Box w g v1 v2) (h : Own w base A k c l) (hg : w.grownBy w' (Value.ownBlock (.slice A k c))) : Box w' g v1 v2 := by
 refine (hg.block g (Blk.lt hb) fun e => ?_).trans hb
 rcases h.zeroOff with rfl | ⟨g', rfl, _⟩
 ·simp [Value.ownBlock] at e
 ·simp [Value.ownBlock] at e; exact h.notBox hb g' rfl e.symm
end Go.Proofs.YtijkfagkbfbpmaaGreatDoor
namespace Go.Proofs.YtijkfagkbfbpmaaGreatDoor
open Go.RowKit
end Go.Proofs.YtijkfagkbfbpmaaGreatDoor
