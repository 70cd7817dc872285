import Derived.Test.YticobffjnjbjiaaJ16
import Derived.Test.YticobffjnjbjiaaJ19
import Derived.Deep.CutRange
set_option linter.unusedVariables false
set_option linter.unusedSimpArgs false
namespace Go.Proofs.Yticobffjnjbjiaa
open Go.RowKit
def PhiL6 (a1 a2 : Value) (mo kk : Int) (p q P Q : Nat) (j : Nat) (w : World) (x : Value) : Prop :=
  match j with
  | 0 => x = .agg #[a1, a2]
  | 1 => x = .int .i64 mo
  | 2 => x = .int .i64 kk
  | 3 => ∃ r1 r2, x = .agg #[r1, r2] ∧ Rat w (.agg #[r1, r2]) P Q
  | 4 => ∃ z gr : Int, x = .tuple #[.int .i64 z, .int .i64 gr] ∧ Hid (Nm.RetP p q P Q z gr)
  | 5 => ∃ z gr : Int, x = .tuple #[.int .i64 z, .int .i64 gr] ∧ Hid (Nm.RetP p q P Q z gr)
  | 6 => ∃ z : Int, x = .int .i64 z ∧ ∃ gr : Int, Hid (Nm.RetP p q P Q z gr)
  | 7 => ∃ gr : Int, x = .int .i64 gr ∧ ∃ z : Int, Hid (Nm.RetP p q P Q z gr)
  | 8 => ∃ z : Int, x = .int .i64 z ∧ ∃ gr : Int, Hid (Nm.RetP p q P Q z gr)
  | 9 => ∃ gr : Int, x = .int .i64 gr ∧ ∃ z : Int, Hid (Nm.RetP p q P Q z gr)
  | _ => True
theorem PhiL6.keep {a1 a2 : Value} {mo kk : Int} {p q P Q : Nat} : ∀ (w w' : World), Below w.heap.size w w' → ∀ j x, PhiL6 a1 a2 mo kk p q P Q j w x → PhiL6 a1 a2 mo kk p q P Q j w' x := by
  intro w w' hb j x h
  unfold PhiL6 at h ⊢
  split <;> simp only at h ⊢
  all_goals first
    | exact h
    | (obtain ⟨r1, r2, rfl, h⟩ := h; exact ⟨r1, r2, rfl, h.below hb⟩)
def PhiL9 (mo kk : Int) (b1 b2 : Value) (a b P Q : Nat) (j : Nat) (w : World) (x : Value) : Prop :=
  match j with
  | 0 => x = .int .i64 mo
  | 1 => x = .int .i64 kk
  | 2 => ∃ r1 r2, x = .agg #[r1, r2] ∧ Rat w (.agg #[r1, r2]) P Q
  | 3 => x = .agg #[b1, b2]
  | 4 => ∃ cc : Int, x = .int .i64 cc ∧ Hid (cc = Nm.cmpN (P * b) (a * Q))
  | 5 => ∃ cc : Int, x = .int .i64 cc ∧ Hid (cc = Nm.cmpN (P * b) (a * Q))
  | _ => True
theorem PhiL9.keep {mo kk : Int} {b1 b2 : Value} {a b P Q : Nat} : ∀ (w w' : World), Below w.heap.size w w' → ∀ j x, PhiL9 mo kk b1 b2 a b P Q j w x → PhiL9 mo kk b1 b2 a b P Q j w' x := by
  intro w w' hb j x h
  unfold PhiL9 at h ⊢
  split <;> simp only at h ⊢
  all_goals first
    | exact h
    | (obtain ⟨r1, r2, rfl, h⟩ := h; exact ⟨r1, r2, rfl, h.below hb⟩)
theorem partG (n d : Int) : Hid (Nm.Good (partP n d) (partQ n d)) := by
  have hk : 0 < partK d := by unfold partK; omega
  have hk2 : partK d ≤ 24 := by have := aroundN_lt d (m := 24) (by omega); unfold partK; omega
  have ha : partA n d < 26 := by have := aroundN_lt n (m := 1 + aroundN d 24 + 1) (by omega); have h2 := aroundN_lt d (m := 24) (by omega); unfold partA; omega
  show Nm.Good _ _
  unfold partP partQ
  exact good_red hk (fits_small (Nat.lt_of_le_of_lt (Nat.div_le_self _ _) (b64 (by omega))) (Nat.lt_of_le_of_lt (Nat.div_le_self _ _) (b64 (by omega))))
set_option maxRecDepth 100000 in
set_option maxHeartbeats 4000000 in
theorem gate_powers_n (n d m' k more : Int) (w : World) (hn1 : -9223372036854775808 ≤ n) (hn2 : n ≤ 9223372036854775807) (hd1 : -9223372036854775808 ≤ d) (hd2 : d ≤ 9223372036854775807)
    (hm1 : -9223372036854775808 ≤ m') (hm2 : m' ≤ 9223372036854775807) (hk1 : -9223372036854775808 ≤ k) (hk2 : k ≤ 9223372036854775807) (ho1 : -9223372036854775808 ≤ more) (ho2 : more ≤ 9223372036854775807) :
    Calls Try.prog 8 #[.int .i64 n, .int .i64 d, .int .i64 m', .int .i64 k, .int .i64 more] w fun e w' => e = .returned (.bool true) ∧ Below w.heap.size w w' := by
  go_enter Try.func8, Try.ntmps8
  go_wp2_with fail
  refine (rpart_e n d _ hn1 hn2 hd1 hd2).mono ?_
  rintro e w1 ⟨v, p, q, rfl, hra, ga, _, _, hbw1⟩
  obtain ⟨A1, k1, c1, A2, k2, c2, rfl⟩ := hra.shape
  go_upto_region 2 with fail
  refine wp_name ?_
  intro w2 HW2
  have hb2' : Below w1.heap.size w1 w2 := by rw [HW2.out]; exact below_alloc _ _
  have xa : Box w2 w1.heap.size (.slice A1 k1 c1) (.slice A2 k2 c2) := by rw [HW2.out]; exact Blk.new _ _ _
  have hra := hra.below hb2'
  have hbw2 := Below.tr hbw1 hb2'
  clear hbw1 hb2' HW2
  go_wp2_with fail
  refine (rpart_e m' k _ hm1 hm2 hk1 hk2).mono ?_
  rintro e w3 ⟨v, a, b, rfl, hrb, gb, _, _, hbw3⟩
  obtain ⟨B1, l1, d1, B2, l2, d2, rfl⟩ := hrb.shape
  go_upto_region 3 with fail
  refine wp_name ?_
  intro w4 HW4
  have hb4' : Below w3.heap.size w3 w4 := by rw [HW4.out]; exact below_alloc _ _
  have xb : Box w4 w3.heap.size (.slice B1 l1 d1) (.slice B2 l2 d2) := by rw [HW4.out]; exact Blk.new _ _ _
  have hb24 := Below.tr hbw3 hb4'
  have hra := hra.below hb24
  have xa := xa.below hb24
  have hrb := hrb.below hb4'
  have hbw4 := Below.tr hbw2 hb24
  clear hbw2 hbw3 hb4' hb24 HW4
  obtain ⟨f1, f2⟩ := xa.facts
  obtain ⟨f3, f4⟩ := xb.facts
  go_wp2_with fail
  refine (retries_p _ _ p q a b _ hra hrb ga gb).mono ?_
  rintro e w5 ⟨x, er, rfl, HX, hbw5⟩
  have hra := hra.below hbw5
  have hrb := hrb.below hbw5
  have xa := xa.below hbw5
  have xb := xb.below hbw5
  have hbw5 := Below.tr hbw4 hbw5
  clear f1 f2 f3 f4 hbw4
  go_upto_if 38 with fail
  go_cut [] from 25 (fun wx => Below w5.heap.size w5 wx)
  case first => as_aux_lemma =>
    by_cases he : er = 0
    · have h0 : (er == 0) = true := by simpa using he
      have HX0 : Hid (Nm.RetP p q a b x 0) := by have := HX.out; rwa [he] at this
      obtain ⟨n', rfl, hn48, HFA, hle, hlt⟩ := Nm.RetP.fine ga gb.pos HX0.out
      have HFF := Lib.hid HFA
      have gpw := ga.pow (HFA n' (Nat.le_refl _))
      have HLT := Lib.hid hlt
      clear he HX HX0 HFA hlt
      obtain ⟨f1, f2⟩ := xa.facts
      go_wp2_with fail
      refine (power_n _ p q n' _ hra ga (by omega) HFF).mono ?_
      rintro e w6 ⟨v, rfl, hpw, hb6⟩
      obtain ⟨P1, u1, z1, P2, u2, z2, rfl⟩ := hpw.shape
      go_upto_region 6 with fail
      refine wp_name ?_
      intro w7 HW7
      have hb7' : Below w6.heap.size w6 w7 := by rw [HW7.out]; exact below_alloc _ _
      have xc : Box w7 w6.heap.size (.slice P1 u1 z1) (.slice P2 u2 z2) := by rw [HW7.out]; exact Blk.new _ _ _
      have hb57 := Below.tr hb6 hb7'
      have hpw := hpw.below hb7'
      have hrb7 := hrb.below hb57
      have xb7 := xb.below hb57
      obtain ⟨f3, f4⟩ := xb7.facts
      obtain ⟨f5, f6⟩ := xc.facts
      have h56 := hb6.size
      clear hb6 hb7' HW7 f1 f2
      have HCC : Hid (Nm.cmpN (p ^ n' * b) (a * q ^ n') ≤ 0) := cmp_le hle
      clear hle
      obtain ⟨PN, HPN⟩ : ∃ N, Hid (N = p ^ n') := ⟨_, rfl⟩
      obtain ⟨QN, HQN⟩ : ∃ N, Hid (N = q ^ n') := ⟨_, rfl⟩
      rw [← HPN.out, ← HQN.out] at HCC hpw gpw
      go_wp2_with fail
      refine (cmp_n _ _ PN QN a b _ hpw hrb7 gpw gb).mono ?_
      rintro e w8 ⟨rfl, hb8⟩
      obtain ⟨cc, HC⟩ : ∃ cc, Hid (cc = Nm.cmpN (PN * b) (a * QN)) := ⟨_, rfl⟩
      rw [← HC.out] at HCC ⊢
      have d0 : decide (0 < cc) = false := by have := HCC.out; simp; omega
      have d1 : decide ((n' : Int) < 0) = false := by simp
      have hb58 := Below.tr hb57 hb8
      have xc8 := xc.below hb8
      clear f3 f4 f5 f6 xb7 hrb7 hpw gpw xc hb57 hb8
      by_cases hn0 : 0 < n'
      · have d2 : decide (0 < (n' : Int)) = true := by simp; omega
        obtain ⟨m, HM⟩ : ∃ m : Nat, Hid (n' = m + 1) := ⟨n' - 1, by show _ = _; omega⟩
        have hwr : IntKind.i64.wrap ((n' : Int) - 1) = (m : Int) := by rw [IntWalk.i64_in _ (by omega), HM.out]; omega
        have HFM : Hid (∀ k, k ≤ m → Nm.Fits (p ^ k) (q ^ k)) := fun k hk => HFF.out k (by have := HM.out; omega)
        have gpm := ga.pow (HFM.out m (Nat.le_refl _))
        have HC2 : Hid (Nm.cmpN (p ^ m * b) (a * q ^ m) = 1) := by
          have := HLT.out hn0
          rw [show n' - 1 = m by have := HM.out; omega] at this
          exact cmp_pos this
        obtain ⟨f1, f2⟩ := (xa.below hb58).facts
        clear HLT HFF
        go_wp2_with fail
        refine (power_n _ p q m _ (hra.below hb58) ga (by have := HM.out; omega) HFM).mono ?_
        rintro e w9 ⟨v, rfl, hpw, hb9⟩
        obtain ⟨P1', u1', z1', P2', u2', z2', rfl⟩ := hpw.shape
        have xc9 := xc8.below hb9
        have hb59 := Below.tr hb58 hb9
        obtain ⟨f3, f4⟩ := xc9.facts
        have f5 := Blk.frozen xc9 0
        have f6 := Blk.frozen xc9 1
        go_upto_region 11 with fail
        refine wp_name ?_
        intro w10 HW10
        have xc10 : Box w10 w6.heap.size (.slice P1' u1' z1') (.slice P2' u2' z2') := by rw [HW10.out]; exact Blk.set_ (Blk.set_ xc9 0 (.slice P1' u1' z1')) 1 (.slice P2' u2' z2')
        have hpw10 : Rat w10 (.agg #[.slice P1' u1' z1', .slice P2' u2' z2']) (p ^ m) (q ^ m) := by rw [HW10.out]; exact hpw.map (xc9.sl.keep2 P1' P2' u1' z1' u2' z2')
        have hb510 : Below w5.heap.size w5 w10 := by rw [HW10.out]; exact (hb59.setCell (p := ⟨w6.heap.size, 0, none⟩) h56 _).setCell (p := ⟨w6.heap.size, 1, none⟩) h56 _
        clear HW10 f1 f2 f3 f4 f5 f6 hpw hb9 xc9 xc8 hb58
        obtain ⟨f3, f4⟩ := (xb.below hb510).facts
        obtain ⟨f5, f6⟩ := xc10.facts
        obtain ⟨PM, HPM⟩ : ∃ N, Hid (N = p ^ m) := ⟨_, rfl⟩
        obtain ⟨QM, HQM⟩ : ∃ N, Hid (N = q ^ m) := ⟨_, rfl⟩
        rw [← HPM.out, ← HQM.out] at HC2 hpw10 gpm
        go_wp2_with fail
        refine (cmp_n _ _ PM QM a b _ hpw10 (hrb.below hb510) gpm gb).mono ?_
        rintro e w11 ⟨rfl, hb11⟩
        rw [HC2.out]
        go_wp2_with fail
        go_meet
        case rel => exact Below.tr hb510 hb11
      · have d2 : decide (0 < (n' : Int)) = false := by simp; omega
        have HN0 := Lib.hid hn0
        clear hn0
        go_wp2_with fail
        go_meet
        case rel => exact hb58
    · have h0 : (er == 0) = false := by simpa using he
      have HE := Lib.hid he
      clear he
      go_wp2_with fail
      go_meet
      case rel => exact Below.refl _ _
  have hra := hra.below hcut
  have hrb := hrb.below hcut
  have xa := xa.below hcut
  have xb := xb.below hcut
  have hbwc := Below.tr hbw5 hcut
  clear hcut hbw5
  go_wp2_with fail
  refine (rpart_e more d _ ho1 ho2 hd1 hd2).mono ?_
  rintro e w12 ⟨v, p3, q3, rfl, hrc, gc, _, _, hb12⟩
  obtain ⟨C1, n1, e1, C2, n2, e2, rfl⟩ := hrc.shape
  go_upto_region 15 with fail
  refine wp_name ?_
  intro w13 HW13
  have hb13' : Below w12.heap.size w12 w13 := by rw [HW13.out]; exact below_alloc _ _
  have xc : Box w13 w12.heap.size (.slice C1 n1 e1) (.slice C2 n2 e2) := by rw [HW13.out]; exact Blk.new _ _ _
  have hbc := Below.tr hb12 hb13'
  have hra := hra.below hbc
  have hrb := hrb.below hbc
  have xa := xa.below hbc
  have xb := xb.below hbc
  have hrc := hrc.below hb13'
  have hbwd := Below.tr hbwc hbc
  clear hb12 hb13' HW13 hbc hbwc
  obtain ⟨f1, f2⟩ := xc.facts
  obtain ⟨f3, f4⟩ := xb.facts
  go_wp2_with fail
  refine (retries_p _ _ p3 q3 a b _ hrc hrb gc gb).mono ?_
  rintro e w14 ⟨y, fr, rfl, HYR, hb14⟩
  have hra := hra.below hb14
  have hrb := hrb.below hb14
  have hrc := hrc.below hb14
  have xa := xa.below hb14
  have xb := xb.below hb14
  have xc := xc.below hb14
  have hbwe := Below.tr hbwd hb14
  clear f1 f2 f3 f4 hbwd hb14
  go_upto_region 16 with fail
  have HGP : Hid (Nm.Good (partP more k) (partQ more k)) := partG more k
  refine region_invF (PhiL6 (.slice A1 k1 c1) (.slice A2 k2 c2) more k p q (partP more k) (partQ more k)) (fun w w' => Below w.heap.size w w') (fun W => Below w14.heap.size w14 W) (by kernel_rfl) (by kernel_rfl) (by kernel_rfl) PhiL6.keep (fun _ _ hR hS => Below.tr hS hR) (below_drew _) (fun vs => by simp only [fillR, Act.put, List.setIfInBounds_toArray, List.set_cons_zero, List.set_cons_succ, Nat.zero_add, Nat.reduceAdd]; rfl) ?_ ?_
  · refine steps_cons ?_ (steps_cons ?_ (steps_cons ?_ (steps_cons ?_ (steps_cons ?_ (steps_cons ?_ (steps_cons ?_ (steps_cons ?_ (steps_cons ?_ (steps_cons ?_ (steps_nil))))))))))
    · as_aux_lemma =>
      intro vs W hS hdep K hK
      have f1 := (xa.below hS).facts.1
      have f2 := (xa.below hS).facts.2
      refine ⟨?_⟩
      simp only [Act.put, List.setIfInBounds_toArray, List.set_cons_zero, List.set_cons_succ, Nat.zero_add, Nat.reduceAdd] at hK ⊢
      go_simp
      with_reducible refine hK _ _ (Below.refl _ _) ?_
      exact rfl
    · as_aux_lemma =>
      intro vs W hS hdep K hK
      refine ⟨?_⟩
      simp only [Act.put, List.setIfInBounds_toArray, List.set_cons_zero, List.set_cons_succ, Nat.zero_add, Nat.reduceAdd] at hK ⊢
      go_simp
      with_reducible refine hK _ _ (Below.refl _ _) ?_
      exact rfl
    · as_aux_lemma =>
      intro vs W hS hdep K hK
      refine ⟨?_⟩
      simp only [Act.put, List.setIfInBounds_toArray, List.set_cons_zero, List.set_cons_succ, Nat.zero_add, Nat.reduceAdd] at hK ⊢
      go_simp
      with_reducible refine hK _ _ (Below.refl _ _) ?_
      exact rfl
    · as_aux_lemma =>
      intro vs W hS hdep K hK
      have d0 := hdep ⟨1, .data⟩ (by simp) rfl
      simp only [PhiL6] at d0
      have d1 := hdep ⟨2, .data⟩ (by simp) rfl
      simp only [PhiL6] at d1
      refine ⟨?_⟩
      simp only [Act.put, List.setIfInBounds_toArray, List.set_cons_zero, List.set_cons_succ, Nat.zero_add, Nat.reduceAdd, d0, d1] at hK ⊢
      go_simp
      refine (rpart_e more k _ ho1 ho2 hk1 hk2).mono ?_
      rintro e w' ⟨v, P, Q, rfl, hr, _, _, HP, hb⟩
      go_wp2_with fail
      with_reducible refine hK _ _ hb ?_
      exact (by obtain ⟨r1, l1, u1, r2, l2, u2, rfl⟩ := hr.shape; rw [HP.out.1, HP.out.2] at hr; exact ⟨_, _, rfl, hr⟩)
    · as_aux_lemma =>
      intro vs W hS hdep K hK
      have d0 := hdep ⟨0, .data⟩ (by simp) rfl
      simp only [PhiL6] at d0
      have d1 := hdep ⟨3, .data⟩ (by simp) rfl
      simp only [PhiL6] at d1
      refine @exE2 _ _ _ _ d1 ?_
      clear d1
      intro r1 s1 d1
      have e1 := d1.1
      have n1 := d1.2
      clear d1
      refine ⟨?_⟩
      simp only [Act.put, List.setIfInBounds_toArray, List.set_cons_zero, List.set_cons_succ, Nat.zero_add, Nat.reduceAdd, d0, e1] at hK ⊢
      go_simp
      refine (retries_p _ _ p q (partP more k) (partQ more k) _ (hra.below hS) n1 ga HGP.out).mono ?_
      rintro e w' ⟨z, gr, rfl, HR, hb⟩
      go_wp2_with fail
      with_reducible refine hK _ _ hb ?_
      exact ⟨z, gr, rfl, HR⟩
    · as_aux_lemma =>
      intro vs W hS hdep K hK
      have d0 := hdep ⟨4, .data⟩ (by simp) rfl
      simp only [PhiL6] at d0
      refine @exE2 _ _ _ _ d0 ?_
      clear d0
      intro z0 gr0 d0
      have e0 := d0.1
      have n0 := d0.2
      clear d0
      refine ⟨?_⟩
      simp only [Act.put, List.setIfInBounds_toArray, List.set_cons_zero, List.set_cons_succ, Nat.zero_add, Nat.reduceAdd, e0] at hK ⊢
      go_simp
      with_reducible refine hK _ _ (Below.refl _ _) ?_
      exact ⟨_, _, rfl, n0⟩
    · as_aux_lemma =>
      intro vs W hS hdep K hK
      have d0 := hdep ⟨5, .data⟩ (by simp) rfl
      simp only [PhiL6] at d0
      refine @exE2 _ _ _ _ d0 ?_
      clear d0
      intro z0 gr0 d0
      have e0 := d0.1
      have n0 := d0.2
      clear d0
      refine ⟨?_⟩
      simp only [Act.put, List.setIfInBounds_toArray, List.set_cons_zero, List.set_cons_succ, Nat.zero_add, Nat.reduceAdd, e0] at hK ⊢
      go_simp
      with_reducible refine hK _ _ (Below.refl _ _) ?_
      exact ⟨_, rfl, _, n0⟩
    · as_aux_lemma =>
      intro vs W hS hdep K hK
      have d0 := hdep ⟨5, .data⟩ (by simp) rfl
      simp only [PhiL6] at d0
      refine @exE2 _ _ _ _ d0 ?_
      clear d0
      intro z0 gr0 d0
      have e0 := d0.1
      have n0 := d0.2
      clear d0
      refine ⟨?_⟩
      simp only [Act.put, List.setIfInBounds_toArray, List.set_cons_zero, List.set_cons_succ, Nat.zero_add, Nat.reduceAdd, e0] at hK ⊢
      go_simp
      with_reducible refine hK _ _ (Below.refl _ _) ?_
      exact ⟨_, rfl, _, n0⟩
    · as_aux_lemma =>
      intro vs W hS hdep K hK
      have d0 := hdep ⟨6, .data⟩ (by simp) rfl
      simp only [PhiL6] at d0
      refine @exE1 _ _ _ d0 ?_
      clear d0
      intro z0 d0
      have e0 := d0.1
      have n0 := d0.2
      clear d0
      refine ⟨?_⟩
      simp only [Act.put, List.setIfInBounds_toArray, List.set_cons_zero, List.set_cons_succ, Nat.zero_add, Nat.reduceAdd, e0] at hK ⊢
      go_simp
      with_reducible refine hK _ _ (Below.refl _ _) ?_
      exact ⟨_, rfl, n0⟩
    · as_aux_lemma =>
      intro vs W hS hdep K hK
      have d0 := hdep ⟨7, .data⟩ (by simp) rfl
      simp only [PhiL6] at d0
      refine @exE1 _ _ _ d0 ?_
      clear d0
      intro z0 d0
      have e0 := d0.1
      have n0 := d0.2
      clear d0
      refine ⟨?_⟩
      simp only [Act.put, List.setIfInBounds_toArray, List.set_cons_zero, List.set_cons_succ, Nat.zero_add, Nat.reduceAdd, e0] at hK ⊢
      go_simp
      with_reducible refine hK _ _ (Below.refl _ _) ?_
      exact ⟨_, rfl, n0⟩
  intro vs w15 hS hv
  have v8 := hv 8 (by simp)
  have v9 := hv 9 (by simp)
  simp only [PhiL6] at v8 v9
  obtain ⟨z, e8, gr0, H0⟩ := v8
  obtain ⟨gr, e9, z0, H1⟩ := v9
  obtain ⟨rfl, rfl⟩ := Nm.RetP.uniq H0.out H1.out
  have HZR := H1
  clear hv H0 H1
  simp only [e8, e9]
  clear e8 e9
  have hra := hra.below hS
  have hrb := hrb.below hS
  have hrc := hrc.below hS
  have xa := xa.below hS
  have xb := xb.below hS
  have xc := xc.below hS
  have hbwf := Below.tr hbwe hS
  clear hS hbwe
  go_upto_region 17 with fail
  go_cut [134] from 25 (fun t wx => t = .bool false ∧ Below w15.heap.size w15 wx)
  case first => as_aux_lemma =>
    by_cases he : er = 0
    · have h0 : (er == 0) = true := by simpa using he
      have HX0 : Hid (Nm.RetP p q a b x 0) := by have := HX.out; rwa [he] at this
      clear he
      by_cases hf : fr = 0
      · have h1 : (fr == 0) = true := by simpa using hf
        have HY0 : Hid (Nm.RetP p3 q3 a b y 0) := by have := HYR.out; rwa [hf] at this
        have HA : Hid (p * q3 ≤ p3 * q → x ≤ y) := fun h => Nm.RetP.mono_bound HX0.out HY0.out ga.pos gc.pos h
        have HB : Hid (p3 * q ≤ p * q3 → y ≤ x) := fun h => Nm.RetP.mono_bound HY0.out HX0.out gc.pos ga.pos h
        clear hf HX0 HY0
        obtain ⟨f1, f2⟩ := xc.facts
        obtain ⟨f3, f4⟩ := xa.facts
        go_wp2_with fail
        refine (rorder_n _ _ p3 q3 p q _ hrc hra gc ga).mono ?_
        rintro e w16 ⟨cc, rfl, HC, hb16⟩
        obtain ⟨f1, f2⟩ := (xc.below hb16).facts
        obtain ⟨f3, f4⟩ := (xa.below hb16).facts
        by_cases hc1 : 0 ≤ cc
        · have hxy : x ≤ y := HA.out (Nm.cmp_ge (by rw [← HC.out]; exact hc1))
          have t1 : decide (0 ≤ cc) = true := by simpa using hc1
          have t2 : decide (y < x) = false := by simp; omega
          have HXY := Lib.hid hxy
          clear hc1 hxy
          go_wp2_with fail
          refine (rorder_n _ _ p3 q3 p q _ (hrc.below hb16) (hra.below hb16) gc ga).mono ?_
          rintro e w17 ⟨cc2, rfl, HC2, hb17⟩
          have hb167 := Below.tr hb16 hb17
          by_cases hc2 : cc2 ≤ 0
          · have hyx : y ≤ x := HB.out (Nm.cmp_le' (by rw [← HC2.out]; exact hc2))
            have t3 : decide (cc2 ≤ 0) = true := by simpa using hc2
            have t4 : decide (x < y) = false := by simp; omega
            clear hc2 hyx
            go_wp2_with fail
            go_meet
            case rel => exact ⟨rfl, hb167⟩
          · have t3 : decide (cc2 ≤ 0) = false := by simpa using hc2
            clear hc2
            go_wp2_with fail
            go_meet
            case rel => exact ⟨rfl, hb167⟩
        · have t1 : decide (0 ≤ cc) = false := by simpa using hc1
          clear hc1
          go_wp2_with fail
          refine (rorder_n _ _ p3 q3 p q _ (hrc.below hb16) (hra.below hb16) gc ga).mono ?_
          rintro e w17 ⟨cc2, rfl, HC2, hb17⟩
          have hb167 := Below.tr hb16 hb17
          by_cases hc2 : cc2 ≤ 0
          · have hyx : y ≤ x := HB.out (Nm.cmp_le' (by rw [← HC2.out]; exact hc2))
            have t3 : decide (cc2 ≤ 0) = true := by simpa using hc2
            have t4 : decide (x < y) = false := by simp; omega
            clear hc2 hyx
            go_wp2_with fail
            go_meet
            case rel => exact ⟨rfl, hb167⟩
          · have t3 : decide (cc2 ≤ 0) = false := by simpa using hc2
            clear hc2
            go_wp2_with fail
            go_meet
            case rel => exact ⟨rfl, hb167⟩
      · have h1 : (fr == 0) = false := by simpa using hf
        clear hf
        go_wp2_with fail
        go_meet
        case rel => exact ⟨rfl, Below.refl _ _⟩
    · have h0 : (er == 0) = false := by simpa using he
      clear he
      go_wp2_with fail
      go_meet
      case rel => exact ⟨rfl, Below.refl _ _⟩
  obtain ⟨rfl, hcut⟩ := hcut
  have hra := hra.below hcut
  have hrb := hrb.below hcut
  have xb := xb.below hcut
  have hbwg := Below.tr hbwf hcut
  clear hcut hbwf xa xc hrc
  go_upto_region 19 with fail
  refine region_invF (PhiL9 more k (.slice B1 l1 d1) (.slice B2 l2 d2) a b (partP more k) (partQ more k)) (fun w w' => Below w.heap.size w w') (fun W => Below wc.heap.size wc W) (by kernel_rfl) (by kernel_rfl) (by kernel_rfl) PhiL9.keep (fun _ _ hR hS => Below.tr hS hR) (below_drew _) (fun vs => by simp only [fillR, Act.put, List.setIfInBounds_toArray, List.set_cons_zero, List.set_cons_succ, Nat.zero_add, Nat.reduceAdd]; rfl) ?_ ?_
  · refine steps_cons ?_ (steps_cons ?_ (steps_cons ?_ (steps_cons ?_ (steps_cons ?_ (steps_cons ?_ (steps_nil))))))
    · as_aux_lemma =>
      intro vs W hS hdep K hK
      refine ⟨?_⟩
      simp only [Act.put, List.setIfInBounds_toArray, List.set_cons_zero, List.set_cons_succ, Nat.zero_add, Nat.reduceAdd] at hK ⊢
      go_simp
      with_reducible refine hK _ _ (Below.refl _ _) ?_
      exact rfl
    · as_aux_lemma =>
      intro vs W hS hdep K hK
      refine ⟨?_⟩
      simp only [Act.put, List.setIfInBounds_toArray, List.set_cons_zero, List.set_cons_succ, Nat.zero_add, Nat.reduceAdd] at hK ⊢
      go_simp
      with_reducible refine hK _ _ (Below.refl _ _) ?_
      exact rfl
    · as_aux_lemma =>
      intro vs W hS hdep K hK
      have d0 := hdep ⟨0, .data⟩ (by simp) rfl
      simp only [PhiL9] at d0
      have d1 := hdep ⟨1, .data⟩ (by simp) rfl
      simp only [PhiL9] at d1
      refine ⟨?_⟩
      simp only [Act.put, List.setIfInBounds_toArray, List.set_cons_zero, List.set_cons_succ, Nat.zero_add, Nat.reduceAdd, d0, d1] at hK ⊢
      go_simp
      refine (rpart_e more k _ ho1 ho2 hk1 hk2).mono ?_
      rintro e w' ⟨v, P, Q, rfl, hr, _, _, HP, hb⟩
      go_wp2_with fail
      with_reducible refine hK _ _ hb ?_
      exact (by obtain ⟨r1, l1, u1, r2, l2, u2, rfl⟩ := hr.shape; rw [HP.out.1, HP.out.2] at hr; exact ⟨_, _, rfl, hr⟩)
    · as_aux_lemma =>
      intro vs W hS hdep K hK
      have f1 := (xb.below hS).facts.1
      have f2 := (xb.below hS).facts.2
      refine ⟨?_⟩
      simp only [Act.put, List.setIfInBounds_toArray, List.set_cons_zero, List.set_cons_succ, Nat.zero_add, Nat.reduceAdd] at hK ⊢
      go_simp
      with_reducible refine hK _ _ (Below.refl _ _) ?_
      exact rfl
    · as_aux_lemma =>
      intro vs W hS hdep K hK
      have d0 := hdep ⟨2, .data⟩ (by simp) rfl
      simp only [PhiL9] at d0
      refine @exE2 _ _ _ _ d0 ?_
      clear d0
      intro r0 s0 d0
      have e0 := d0.1
      have n0 := d0.2
      clear d0
      have d1 := hdep ⟨3, .data⟩ (by simp) rfl
      simp only [PhiL9] at d1
      refine ⟨?_⟩
      simp only [Act.put, List.setIfInBounds_toArray, List.set_cons_zero, List.set_cons_succ, Nat.zero_add, Nat.reduceAdd, e0, d1] at hK ⊢
      go_simp
      refine (rorder_n _ _ (partP more k) (partQ more k) a b _ n0 (hrb.below hS) HGP.out gb).mono ?_
      rintro e w' ⟨cc, rfl, HC, hb⟩
      go_wp2_with fail
      with_reducible refine hK _ _ hb ?_
      exact ⟨cc, rfl, HC⟩
    · as_aux_lemma =>
      intro vs W hS hdep K hK
      have d0 := hdep ⟨4, .data⟩ (by simp) rfl
      simp only [PhiL9] at d0
      refine @exE1 _ _ _ d0 ?_
      clear d0
      intro c0 d0
      have e0 := d0.1
      have n0 := d0.2
      clear d0
      refine ⟨?_⟩
      simp only [Act.put, List.setIfInBounds_toArray, List.set_cons_zero, List.set_cons_succ, Nat.zero_add, Nat.reduceAdd, e0] at hK ⊢
      go_simp
      with_reducible refine hK _ _ (Below.refl _ _) ?_
      exact ⟨_, rfl, n0⟩
  intro vs w20 hS hv
  have v5 := hv 5 (by simp)
  simp only [PhiL9] at v5
  obtain ⟨cc, e5, HC⟩ := v5
  clear hv
  simp only [e5]
  clear e5
  have hbwh := Below.tr hbwg hS
  clear hS hbwg hra hrb xb
  go_upto_region 20 with fail
  go_cut [163] from 25 (fun t wx => t = .bool false ∧ wx = w20)
  case first => as_aux_lemma =>
    by_cases he : er = 0
    · have h0 : (er == 0) = true := by simpa using he
      have HX0 : Hid (Nm.RetP p q a b x 0) := by have := HX.out; rwa [he] at this
      clear he
      by_cases hf : gr0 = 0
      · have h1 : (gr0 == 0) = true := by simpa using hf
        have HZ0 : Hid (Nm.RetP p q (partP more k) (partQ more k) z 0) := by have := HZR.out; rwa [hf] at this
        clear hf
        by_cases hc1 : cc ≤ 0
        · have hxz : x ≤ z := Nm.RetP.mono_limit HX0.out HZ0.out gb.pos HGP.out.pos (Nm.cmp_le' (by rw [← HC.out]; exact hc1))
          have t1 : decide (cc ≤ 0) = true := by simpa using hc1
          have t2 : decide (z < x) = false := by simp; omega
          by_cases hc2 : 0 ≤ cc
          · have hzx : z ≤ x := Nm.RetP.mono_limit HZ0.out HX0.out HGP.out.pos gb.pos (Nm.cmp_ge (by rw [← HC.out]; exact hc2))
            have t3 : decide (0 ≤ cc) = true := by simpa using hc2
            have t4 : decide (x < z) = false := by simp; omega
            clear hc2 hzx hxz hc1
            go_wp2_with fail
            go_meet
            case rel => exact ⟨rfl, rfl⟩
          · have t3 : decide (0 ≤ cc) = false := by simpa using hc2
            clear hc2 hxz hc1
            go_wp2_with fail
            go_meet
            case rel => exact ⟨rfl, rfl⟩
        · have t1 : decide (cc ≤ 0) = false := by simpa using hc1
          have hc2 : 0 ≤ cc := by omega
          have hzx : z ≤ x := Nm.RetP.mono_limit HZ0.out HX0.out HGP.out.pos gb.pos (Nm.cmp_ge (by rw [← HC.out]; exact hc2))
          have t3 : decide (0 ≤ cc) = true := by simpa using hc2
          have t4 : decide (x < z) = false := by simp; omega
          clear hc2 hzx hc1
          go_wp2_with fail
          go_meet
          case rel => exact ⟨rfl, rfl⟩
      · have h1 : (gr0 == 0) = false := by simpa using hf
        clear hf
        go_wp2_with fail
        go_meet
        case rel => exact ⟨rfl, rfl⟩
    · have h0 : (er == 0) = false := by simpa using he
      clear he
      go_wp2_with fail
      go_meet
      case rel => exact ⟨rfl, rfl⟩
  obtain ⟨rfl, rfl⟩ := hcut
  go_wp2_with fail
  refine (lives_n _).mono ?_
  rintro e w21 ⟨rfl, hb21⟩
  go_wp2_with fail
  go_ret
  exact ⟨rfl, Below.tr hbwh hb21⟩
end Go.Proofs.Yticobffjnjbjiaa
