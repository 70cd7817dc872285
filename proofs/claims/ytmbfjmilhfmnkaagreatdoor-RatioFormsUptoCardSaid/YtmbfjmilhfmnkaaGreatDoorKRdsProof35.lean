import Derived.Test.YtmbfjmilhfmnkaaGreatDoorKRdsProof32
import Derived.Test.YtmbfjmilhfmnkaaGreatDoorKRdsProof33
import Derived.Test.YtmbfjmilhfmnkaaGreatDoorKRdsProof34
import Derived.Test.YtmbfjmilhfmnkaaGreatDoorKRdsProof31
import Derived.Test.YtmbfjmilhfmnkaaGreatDoorKRdsProof25
import Derived.Test.YtmbfjmilhfmnkaaGreatDoorKRdsProof15
import Derived.Test.YtmbfjmilhfmnkaaGreatDoorS0
set_option linter.unusedVariables false
set_option linter.unusedSimpArgs false
namespace Go.Proofs.YtmbfjmilhfmnkaaGreatDoor
open Go Go.RowKit
theorem fr5 {n d : Nat} (h0 : 0 < d) (hn : n < 18446744073709551616) (hd : d < 18446744073709551616) : Frac (redP n d) n d := ⟨h0, b64 hn, b64 hd, rfl⟩
theorem l5_add : (addF (redP 1 6) (redP 1 10)).1 = 0 ∧ addV (redP 1 6) (redP 1 10) = redP 4 15 := by
 have h1 := (fr5 (n := 1) (d := 6) (by omega) (by omega) (by omega)).scale (m := 5) (e := 30) (by omega) (b64 (by omega)) (b64 (by omega)) (by omega); have h2 := (fr5 (n := 1) (d := 10) (by omega) (by omega) (by omega)).scale (m := 3) (e := 30) (by omega) (b64 (by omega)) (b64 (by omega)) (by omega); obtain ⟨h3, h4⟩ := h1.add h2 (b64 (by omega)); exact ⟨h4, h3.uniq (fr5 (n := 4) (d := 15) (by omega) (by omega) (by omega)) (by omega)⟩
theorem l5_sub : (subF (redP 1 6) (redP 1 10)).1 = 0 ∧ subV (redP 1 6) (redP 1 10) = redP 1 15 := by
 have h1 := (fr5 (n := 1) (d := 6) (by omega) (by omega) (by omega)).scale (m := 5) (e := 30) (by omega) (b64 (by omega)) (b64 (by omega)) (by omega); have h2 := (fr5 (n := 1) (d := 10) (by omega) (by omega) (by omega)).scale (m := 3) (e := 30) (by omega) (b64 (by omega)) (b64 (by omega)) (by omega); obtain ⟨h3, h4⟩ := h1.sub h2 (by omega); exact ⟨h4, h3.uniq (fr5 (n := 1) (d := 15) (by omega) (by omega) (by omega)) (by omega)⟩
theorem good5 {p q : Nat} (h0 : 0 < q) (hp : p < 18446744073709551616) (hq : q < 18446744073709551616) (hg : Nat.gcd p q = 1) : Nm.Good p q := by
 have h := red_good (n := p) (d := q) h0 (b64 hp) (b64 hq); rw [hg, Nat.div_one, Nat.div_one] at h; exact h
theorem redP_good {p q : Nat} (g : Nm.Good p q) : redP p q = ratP p q := (Frac.of_good g).eq.symm
theorem l5_less : subF (redP 1 10) (redP 1 6) = (5, nilP) := by
 have g1 := good5 (p := 1) (q := 10) (by omega) (by omega) (by omega) (by decide); have g2 := good5 (p := 1) (q := 6) (by omega) (by omega) (by omega) (by decide); rw [redP_good g1, redP_good g2]; unfold subF; rw [binF_rat g1 g2]; rfl
theorem l5_two : redP 4 2 = redP 2 1 := redP_eq (by omega) (by omega) (by omega)
theorem l5_half : redP 6 4 = redP 3 2 := redP_eq (by omega) (by omega) (by omega)
theorem g21 : Nm.Good 2 1 := good5 (by omega) (by omega) (by omega) (by decide)
theorem g12 : Nm.Good 1 2 := good5 (by omega) (by omega) (by omega) (by decide)
theorem l5_div : divF (redP 2 1) nilP = (5, nilP) := by
 rw [redP_good g21, ← nil_ratP]; unfold divF; rw [binF_rat g21 g01]; rfl
theorem l5_den : (redP 2 1).2 = [] := by
 rw [redP_good g21]
 show Nm.lb (Nm.dn 1) = []
 rw [Nm.dn_one, Nm.lb_zero]
theorem two_lt {j k : Nat} (h : j < 32 * k) : 2 ^ j < Nm.B ^ k := by
 rw [Nm.bpow]; exact Nat.pow_lt_pow_right (by omega) h
theorem two_fits {j : Nat} (h : j ≤ 2047) : Nm.Fits (2 ^ j) (1 ^ j) := by
 refine ⟨Nm.lb_length_lt.2 ?_, ?_⟩
 ·exact two_lt (by omega)
 ·rw [Nat.one_pow]; exact fits_11.2
theorem two_big {j : Nat} (h : j = 2048) : ¬ Nm.Fits (2 ^ j) (1 ^ j) := by
 rintro ⟨h1, _⟩; have h2 := Nm.lb_length_lt.1 h1; rw [Nm.bpow] at h2; exact absurd (Nat.pow_le_pow_right (n := 2) (by omega) (show 32 * 64 ≤ j by omega)) (by omega)
theorem pow_ok {n : Nat} {w : World} {v : Value} {er : Int} (hn : n ≤ 2047) (h : PowP 2 1 n w v er) : er = 0 ∧ ∃ x, RtP w v x := by
 rcases h with ⟨h1, h2, _⟩ | ⟨_, _, j, hj, h3⟩
 ·exact ⟨h1, _, h2.rtP⟩
 ·exact absurd (two_fits (by omega)) h3
theorem pow_big {n : Nat} {w : World} {v : Value} {er : Int} (hn : n = 2048) (h : PowP 2 1 n w v er) : er = 4 ∧ ∃ x, RtP w v x := by
 rcases h with ⟨_, _, h3⟩ | ⟨h1, h2, _⟩
 ·exact absurd (h3 n (Nat.le_refl _)) (two_big hn)
 ·exact ⟨h1, nilP, by rw [h2]; exact nil_rtP w⟩
theorem pow_half {w : World} {v : Value} {er : Int} (h : PowP 1 2 32 w v er) : er = 0 ∧ Rat w v 1 4294967296 ∧ Nm.Good 1 4294967296 := by
 have g : Nm.Good 1 4294967296 := good5 (by omega) (by omega) (by omega) (by decide)
 rcases h with ⟨h1, h2, _⟩ | ⟨_, _, j, hj, h3⟩
 ·refine ⟨h1, ?_, g⟩; rw [Nat.one_pow] at h2; exact h2
 ·exfalso
  apply h3
  rw [Nat.one_pow]; refine ⟨fits_11.1, Nat.le_trans (dn_len _) (Nm.lb_length_lt.2 ?_)⟩; exact two_lt (by omega)
theorem l5_print : ratS 1 4294967296 = { data := #[49, 47, 52, 50, 57, 52, 57, 54, 55, 50, 57, 54] } := by
 have e1 : Nm.decS 1 = { data := #[49] } := by unfold Nm.decS; rw [Nm.decD_small (by omega)]; rfl
 have e2 : Nm.decS 4294967296 = { data := #[52, 50, 57, 52, 57, 54, 55, 50, 57, 54] } := by
  unfold Nm.decS; rw [Nm.decD_step (by omega), Nm.decD_step (by omega), Nm.decD_step (by omega), Nm.decD_step (by omega), Nm.decD_step (by omega), Nm.decD_step (by omega), Nm.decD_step (by omega), Nm.decD_step (by omega), Nm.decD_step (by omega), Nm.decD_small (by omega)]; rfl
 unfold ratS; rw [if_neg (by omega), e1, e2]; rfl
theorem l5_limbs : Nm.lb (Nm.dn 4294967296) = [0, 1] := by
 rw [Nm.dn_ne (by omega), Nm.lb_pos (by omega), show 4294967296 / Nm.B = 1 by unfold Nm.B; rfl, show 4294967296 % Nm.B = 0 by unfold Nm.B; rfl, Nm.lb_one]
theorem l5_sim1 : simF (ratP 1 3) (ratP 3 7) = (0, redP 1 3) := by
 have g1 := good5 (p := 1) (q := 3) (by omega) (by omega) (by omega) (by decide); have g2 := good5 (p := 3) (q := 7) (by omega) (by omega) (by omega) (by decide); unfold simF; rw [binF_rat g1 g2]; rfl
theorem l5_sim2 : simF (ratP 5 2) (ratP 7 2) = (0, redP 3 1) := by
 have g1 := good5 (p := 5) (q := 2) (by omega) (by omega) (by omega) (by decide); have g2 := good5 (p := 7) (q := 2) (by omega) (by omega) (by omega) (by decide); unfold simF; rw [binF_rat g1 g2]; rfl
theorem num1 (b : UInt8) (h : 48 < b.toNat) (h2 : b.toNat ≤ 57) : numP { data := #[b] } = [b.toNat - 48] := by
 unfold numP
 have e : numV (({ data := #[b] } : ByteArray).data.toList) = b.toNat - 48 := by
  show 0 * 10 + (b.toNat - 48) = _
  omega
 rw [e]; exact Nm.lb_small (by omega) (by unfold Nm.B; omega)
theorem bad_valid {a b : Nat} (ha : 0 < a) (hb : 0 < b) (ha2 : a < Nm.B) (hb2 : b < Nm.B) (h : b = 1 ∨ Nat.gcd a b ≠ 1) : validP ([a], [b]) ≠ 0 := by
 intro h0; have hk : okP ([a], [b]) := ⟨fun x hx => by rw [List.mem_singleton.1 hx]; exact ha2, fun x hx => by rw [List.mem_singleton.1 hx]; exact hb2⟩; obtain ⟨p, q, e, g⟩ := valid_good hk h0; have e1 : [a] = Nm.lb p := congrArg Prod.fst e; have e2 : [b] = Nm.lb (Nm.dn q) := congrArg Prod.snd e
 have f1 : p = a := by
  have := congrArg Nm.nv e1; rw [Nm.nv_lb] at this; rw [← this]; simp [Nm.nv]
 have f2 : Nm.dn q = b := by
  have := congrArg Nm.nv e2; rw [Nm.nv_lb] at this; rw [← this]; simp [Nm.nv]
 have hq1 : q ≠ 1 := by
  rintro rfl; rw [Nm.dn_one] at f2; omega
 rw [Nm.dn_ne hq1] at f2
 rcases h with h | h
 ·omega
 ·apply h
  rw [← f1, ← f2]; exact g.gcd
theorem l5_parse1 : (parseF { data := #[50, 47, 52] }).1 = 1 := by
 have a : cutA { data := #[50, 47, 52] } = { data := #[50] } := by decide
 have z : cutZ { data := #[50, 47, 52] } = { data := #[52] } := by decide
 have y : cutY { data := #[50, 47, 52] } = true := by decide
 have n1 : numP { data := #[50] } = [2] := num1 50 (by decide) (by decide); have n2 : numP { data := #[52] } = [4] := num1 52 (by decide) (by decide); have f1 : fitN { data := #[50] } = true := by unfold fitN; rw [n1]; rfl
 have f2 : fitN { data := #[52] } = true := by unfold fitN; rw [n2]; rfl
 have r1 : rowB { data := #[50] } = true := by decide
 have r2 : rowB { data := #[52] } = true := by decide
 unfold parseF; rw [a, z, y, r1, r2, if_neg (by simp), f1, f2, if_neg (by simp), n1, n2, if_pos (.inl (bad_valid (by omega) (by omega) (by unfold Nm.B; omega) (by unfold Nm.B; omega) (.inr (by decide))))]
theorem l5_parse2 : (parseF { data := #[48, 50] }).1 = 2 := by
 have a : cutA { data := #[48, 50] } = { data := #[48, 50] } := by decide
 have r1 : rowB { data := #[48, 50] } = false := by decide
 unfold parseF; rw [a, if_pos (.inl r1)]
theorem l5_parse3 : (parseF { data := #[51, 47, 49] }).1 = 1 := by
 have a : cutA { data := #[51, 47, 49] } = { data := #[51] } := by decide
 have z : cutZ { data := #[51, 47, 49] } = { data := #[49] } := by decide
 have y : cutY { data := #[51, 47, 49] } = true := by decide
 have n1 : numP { data := #[51] } = [3] := num1 51 (by decide) (by decide); have n2 : numP { data := #[49] } = [1] := num1 49 (by decide) (by decide); have f1 : fitN { data := #[51] } = true := by unfold fitN; rw [n1]; rfl
 have f2 : fitN { data := #[49] } = true := by unfold fitN; rw [n2]; rfl
 have r1 : rowB { data := #[51] } = true := by decide
 have r2 : rowB { data := #[49] } = true := by decide
 unfold parseF; rw [a, z, y, r1, r2, if_neg (by simp), f1, f2, if_neg (by simp), n1, n2, if_pos (.inl (bad_valid (by omega) (by omega) (by unfold Nm.B; omega) (by unfold Nm.B; omega) (.inl rfl)))]
end Go.Proofs.YtmbfjmilhfmnkaaGreatDoor
namespace Go.Proofs.YtmbfjmilhfmnkaaGreatDoor
open Go Go.RowKit
def ofE (n d : Int) : Int := if n < 0 ∨ d ≤ 0 then 5 else 0
noncomputable def ofX (n d : Int) : LP := if n < 0 ∨ d ≤ 0 then nilP else redP n.toNat d.toNat
theorem ofE_bad {n d : Int} (h : n < 0 ∨ d ≤ 0) : ofE n d = 5 := if_pos h
theorem ofX_bad {n d : Int} (h : n < 0 ∨ d ≤ 0) : ofX n d = nilP := if_pos h
theorem ofE_ok {n d : Nat} (h : 0 < d) : ofE (n : Int) (d : Int) = 0 := if_neg (by omega)
theorem ofX_ok {n d : Nat} (h : 0 < d) : ofX (n : Int) (d : Int) = redP n d := (if_neg (by omega)).trans (by simp)
theorem rvalid_P (v : Value) (x : LP) (w : World) (h : RtP w v x) : Calls Tryz.prog 33 #[v] w fun e w' => e = .returned (.int .i64 (validP x)) ∧ Below w.heap.size w w' := by
 obtain ⟨A1, k1, c1, A2, k2, c2, rfl, h1, h2, e1, e2⟩ := h; exact rvalid_any A1 A2 k1 c1 k2 c2 x.1 x.2 w h1 h2 e1 e2
theorem sameB_self : ∀ l : List Nat, sameB l l = true := by
 intro l; unfold sameB; simp
theorem rsame_P (va vb : Value) (x : LP) (w : World) (ha : RtP w va x) (hb : RtP w vb x) : Calls Tryz.prog 12 #[va, vb] w fun e w' => e = .returned (.bool true) ∧ Below w.heap.size w w' := by
 refine (same_any va vb x.1 x.2 x.1 x.2 w ha hb).mono ?_; rintro e w' ⟨b, rfl, HB, h⟩; rw [HB.out]; exact ⟨by unfold sameR; simp [sameB_self], h⟩
set_option maxRecDepth 10000 in
set_option maxHeartbeats 400000 in
theorem of_neg (n d : Int) (w : World) (hn : isI64 n) (hd : isI64 d) (h0 : n < 0) :
  Calls Tryz.prog 35 #[.int .i64 n, .int .i64 d] w fun e w' => e = .returned (.tuple #[nilRat, .int .i64 5]) ∧ Below w.heap.size w w' := by
 have t1 : decide (n < 0) = true := by simp; omega
 have t2 : decide (n < 0 ∨ d ≤ 0) = true := by simp; omega
 have hres := Res.new w; obtain ⟨r1, r2, r3, r4⟩ := hres.facts; obtain ⟨s1, s2⟩ := hres.set2 (.slice none 0 0) (.slice none 0 0); have hbw := bA w (.cells #[.slice none 0 0, .slice none 0 0] 29)
 go_enter Tryz.func35, Tryz.ntmps35
 go_wp2_with fail; exact bodyPost_ret (v := .tuple #[.agg #[.slice none 0 0, .slice none 0 0], .int .i64 5]) (by simp [results, Tryz.results35, go_sem, s1, s2]) rfl ⟨rfl, hbw⟩
set_option maxRecDepth 10000 in
set_option maxHeartbeats 400000 in
theorem of_den (n d : Int) (w : World) (hn : isI64 n) (hd : isI64 d) (h0 : 0 ≤ n) (h1 : d ≤ 0) :
  Calls Tryz.prog 35 #[.int .i64 n, .int .i64 d] w fun e w' => e = .returned (.tuple #[nilRat, .int .i64 5]) ∧ Below w.heap.size w w' := by
 have t1 : decide (n < 0) = false := by simp; omega
 have t2 : decide (n < 0 ∨ d ≤ 0) = true := by simp; omega
 have t3 : decide (d ≤ 0) = true := by simp; omega
 have hres := Res.new w; obtain ⟨r1, r2, r3, r4⟩ := hres.facts; obtain ⟨s1, s2⟩ := hres.set2 (.slice none 0 0) (.slice none 0 0); have hbw := bA w (.cells #[.slice none 0 0, .slice none 0 0] 29)
 go_enter Tryz.func35, Tryz.ntmps35
 go_wp2_with fail; exact bodyPost_ret (v := .tuple #[.agg #[.slice none 0 0, .slice none 0 0], .int .i64 5]) (by simp [results, Tryz.results35, go_sem, s1, s2]) rfl ⟨rfl, hbw⟩
theorem of_A (n d : Int) (w : World) (hn : isI64 n) (hd : isI64 d) :
  Calls Tryz.prog 35 #[.int .i64 n, .int .i64 d] w fun e w' => ∃ v, e = .returned (.tuple #[v, .int .i64 (ofE n d)]) ∧ RtP w' v (ofX n d) ∧ Below w.heap.size w w' := by
 by_cases h : n < 0 ∨ d ≤ 0
 ·rw [ofE_bad h, ofX_bad h]; by_cases h0 : n < 0
  ·refine (of_neg n d w hn hd h0).mono ?_; rintro e w' ⟨rfl, hb⟩; exact ⟨_, rfl, nil_rtP _, hb⟩
  ·refine (of_den n d w hn hd (by omega) (by omega)).mono ?_; rintro e w' ⟨rfl, hb⟩; exact ⟨_, rfl, nil_rtP _, hb⟩
 ·obtain ⟨N, rfl⟩ : ∃ N : Nat, n = N := ⟨n.toNat, by omega⟩; obtain ⟨D, rfl⟩ : ∃ D : Nat, d = D := ⟨d.toNat, by omega⟩; have hN : N ≤ 9223372036854775807 := by have := hn.2; omega
  have hD : D ≤ 9223372036854775807 := by have := hd.2; omega
  rw [ofE_ok (by omega), ofX_ok (by omega)]; refine (of_n N D w hN (by omega) hD).mono ?_; rintro e w' ⟨v, er, rfl, hR, hb⟩; obtain ⟨rfl, h⟩ := hR.resP; rw [resP_small (b64 (by omega)) (b64 (by omega))] at h ⊢; exact ⟨v, rfl, h, hb⟩
set_option maxRecDepth 10000 in
set_option maxHeartbeats 400000 in
theorem rof_neg (n d : Int) (w : World) (hn : isI64 n) (hd : isI64 d) (h0 : n < 0) :
  Calls Tryz.prog 52 #[.int .i64 n, .int .i64 d] w fun e w' => e = .returned (.tuple #[nilRat, .int .i64 5]) ∧ Below w.heap.size w w' := by
 have t1 : decide (n < 0) = true := by simp; omega
 have t2 : decide (n < 0 ∨ d ≤ 0) = true := by simp; omega
 have hres := Res.new w; obtain ⟨r1, r2, r3, r4⟩ := hres.facts; obtain ⟨s1, s2⟩ := hres.set2 (.slice none 0 0) (.slice none 0 0); have hbw := bA w (.cells #[.slice none 0 0, .slice none 0 0] 29)
 go_enter Tryz.func52, Tryz.ntmps52
 go_wp2_with fail; exact bodyPost_ret (v := .tuple #[.agg #[.slice none 0 0, .slice none 0 0], .int .i64 5]) (by simp [results, Tryz.results52, go_sem, s1, s2]) rfl ⟨rfl, hbw⟩
set_option maxRecDepth 10000 in
set_option maxHeartbeats 400000 in
theorem rof_den (n d : Int) (w : World) (hn : isI64 n) (hd : isI64 d) (h0 : 0 ≤ n) (h1 : d ≤ 0) :
  Calls Tryz.prog 52 #[.int .i64 n, .int .i64 d] w fun e w' => e = .returned (.tuple #[nilRat, .int .i64 5]) ∧ Below w.heap.size w w' := by
 have t1 : decide (n < 0) = false := by simp; omega
 have t2 : decide (n < 0 ∨ d ≤ 0) = true := by simp; omega
 have t3 : decide (d ≤ 0) = true := by simp; omega
 have hres := Res.new w; obtain ⟨r1, r2, r3, r4⟩ := hres.facts; obtain ⟨s1, s2⟩ := hres.set2 (.slice none 0 0) (.slice none 0 0); have hbw := bA w (.cells #[.slice none 0 0, .slice none 0 0] 29)
 go_enter Tryz.func52, Tryz.ntmps52
 go_wp2_with fail; exact bodyPost_ret (v := .tuple #[.agg #[.slice none 0 0, .slice none 0 0], .int .i64 5]) (by simp [results, Tryz.results52, go_sem, s1, s2]) rfl ⟨rfl, hbw⟩
theorem rof_A (n d : Int) (w : World) (hn : isI64 n) (hd : isI64 d) :
  Calls Tryz.prog 52 #[.int .i64 n, .int .i64 d] w fun e w' => ∃ v, e = .returned (.tuple #[v, .int .i64 (ofE n d)]) ∧ RtP w' v (ofX n d) ∧ Below w.heap.size w w' := by
 by_cases h : n < 0 ∨ d ≤ 0
 ·rw [ofE_bad h, ofX_bad h]; by_cases h0 : n < 0
  ·refine (rof_neg n d w hn hd h0).mono ?_; rintro e w' ⟨rfl, hb⟩; exact ⟨_, rfl, nil_rtP _, hb⟩
  ·refine (rof_den n d w hn hd (by omega) (by omega)).mono ?_; rintro e w' ⟨rfl, hb⟩; exact ⟨_, rfl, nil_rtP _, hb⟩
 ·obtain ⟨N, rfl⟩ : ∃ N : Nat, n = N := ⟨n.toNat, by omega⟩; obtain ⟨D, rfl⟩ : ∃ D : Nat, d = D := ⟨d.toNat, by omega⟩; have hN : N ≤ 9223372036854775807 := by have := hn.2; omega
  have hD : D ≤ 9223372036854775807 := by have := hd.2; omega
  rw [ofE_ok (by omega), ofX_ok (by omega)]; refine (rof_n N D w hN (by omega) hD).mono ?_; rintro e w' ⟨v, er, rfl, hR, hb⟩; obtain ⟨rfl, h⟩ := hR.resP; rw [resP_small (b64 (by omega)) (b64 (by omega))] at h ⊢; exact ⟨v, rfl, h, hb⟩
end Go.Proofs.YtmbfjmilhfmnkaaGreatDoor
