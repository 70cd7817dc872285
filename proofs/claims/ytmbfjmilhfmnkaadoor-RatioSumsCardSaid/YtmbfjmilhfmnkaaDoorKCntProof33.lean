import Derived.Test.YtmbfjmilhfmnkaaDoorKCntProof30
import Derived.Test.YtmbfjmilhfmnkaaDoorKCntProof31
import Derived.Test.YtmbfjmilhfmnkaaDoorKCntProof32
import Derived.Test.YtmbfjmilhfmnkaaDoorKCntProof29
import Derived.Test.YtmbfjmilhfmnkaaDoorKCntProof23
import Derived.Test.YtmbfjmilhfmnkaaDoorKCntProof15
import Derived.Test.YtmbfjmilhfmnkaaDoorKCntProof28
import Derived.Test.YtmbfjmilhfmnkaaDoorS0
set_option linter.unusedVariables false
set_option linter.unusedSimpArgs false
namespace Go.Proofs.YtmbfjmilhfmnkaaDoor
open Go Go.RowKit
theorem fr5 {n d : Nat} (h0 : 0 < d) (hn : n < 18446744073709551616) (hd : d < 18446744073709551616) : Frac (redP n d) n d := ⟨h0, b64 hn, b64 hd, rfl⟩
theorem l5_add : (addF (redP 1 6) (redP 1 10)).1 = 0 ∧ addV (redP 1 6) (redP 1 10) = redP 4 15 := by
 have h1 := (fr5 (n := 1) (d := 6) (by omega) (by omega) (by omega)).scale (m := 5) (e := 30) (by omega) (b64 (by omega)) (b64 (by omega)) (by omega); have h2 := (fr5 (n := 1) (d := 10) (by omega) (by omega) (by omega)).scale (m := 3) (e := 30) (by omega) (b64 (by omega)) (b64 (by omega)) (by omega); obtain ⟨h3, h4⟩ := h1.add h2 (b64 (by omega)); exact ⟨h4, h3.uniq (fr5 (n := 4) (d := 15) (by omega) (by omega) (by omega)) (by omega)⟩
theorem l5_sub : (subF (redP 1 6) (redP 1 10)).1 = 0 ∧ subV (redP 1 6) (redP 1 10) = redP 1 15 := by
 have h1 := (fr5 (n := 1) (d := 6) (by omega) (by omega) (by omega)).scale (m := 5) (e := 30) (by omega) (b64 (by omega)) (b64 (by omega)) (by omega); have h2 := (fr5 (n := 1) (d := 10) (by omega) (by omega) (by omega)).scale (m := 3) (e := 30) (by omega) (b64 (by omega)) (b64 (by omega)) (by omega); obtain ⟨h3, h4⟩ := h1.sub h2 (by omega); exact ⟨h4, h3.uniq (fr5 (n := 1) (d := 15) (by omega) (by omega) (by omega)) (by omega)⟩
theorem good5 {p q : Nat} (h0 : 0 < q) (hp : p < 18446744073709551616) (hq : q < 18446744073709551616) (hg : Nat.gcd p q = 1) : Nm.Good p q := by
 have h := red_good (n := p) (d := q) h0 (b64 hp) (b64 hq); rw [hg, Nat.div_one, Nat.div_one] at h; exact h
theorem redP_good {p q : Nat} (g : Nm.Good p q) : redP p q = ratP p q := (Frac.of_good g).eq.symm
theorem l5_less : subF (redP 1 10) (redP 1 6) = (5, nilP) := by
 have g1 := good5 (p := 1) (q := 10) (by omega) (by omega) (by omega) (by decide); have g2 := good5 (p := 1) (q := 6) (by omega) (by omega) (by omega) (by decide); rw [redP_good g1, redP_good g2]; unfold subF; rw [binF_rat g1 g2]; rfl
theorem l5_two : redP 4 2 = redP 2 1 := redP_eq (by omega) (by omega) (by omega)
theorem l5_half : redP 6 4 = redP 3 2 := redP_eq (by omega) (by omega) (by omega)
theorem g21 : Nm.Good 2 1 := good5 (by omega) (by omega) (by omega) (by decide)
theorem g12 : Nm.Good 1 2 := good5 (by omega) (by omega) (by omega) (by decide)
theorem l5_div : divF (redP 2 1) nilP = (5, nilP) := by
 rw [redP_good g21, ← nil_ratP]; unfold divF; rw [binF_rat g21 g01]; rfl
theorem l5_den : (redP 2 1).2 = [] := by
 rw [redP_good g21]
 show Nm.lb (Nm.dn 1) = []
 rw [Nm.dn_one, Nm.lb_zero]
theorem two_lt {j k : Nat} (h : j < 32 * k) : 2 ^ j < Nm.B ^ k := by
 rw [Nm.bpow]; exact Nat.pow_lt_pow_right (by omega) h
theorem two_fits {j : Nat} (h : j ≤ 2047) : Nm.Fits (2 ^ j) (1 ^ j) := by
 refine ⟨Nm.lb_length_lt.2 ?_, ?_⟩
 ·exact two_lt (by omega)
 ·rw [Nat.one_pow]; exact fits_11.2
theorem two_big {j : Nat} (h : j = 2048) : ¬ Nm.Fits (2 ^ j) (1 ^ j) := by
 rintro ⟨h1, _⟩; have h2 := Nm.lb_length_lt.1 h1; rw [Nm.bpow] at h2; exact absurd (Nat.pow_le_pow_right (n := 2) (by omega) (show 32 * 64 ≤ j by omega)) (by omega)
theorem pow_ok {n : Nat} {w : World} {v : Value} {er : Int} (hn : n ≤ 2047) (h : PowP 2 1 n w v er) : er = 0 ∧ ∃ x, RtP w v x := by
 rcases h with ⟨h1, h2, _⟩ | ⟨_, _, j, hj, h3⟩
 ·exact ⟨h1, _, h2.rtP⟩
 ·exact absurd (two_fits (by omega)) h3
theorem pow_big {n : Nat} {w : World} {v : Value} {er : Int} (hn : n = 2048) (h : PowP 2 1 n w v er) : er = 4 ∧ ∃ x, RtP w v x := by
 rcases h with ⟨_, _, h3⟩ | ⟨h1, h2, _⟩
 ·exact absurd (h3 n (Nat.le_refl _)) (two_big hn)
 ·exact ⟨h1, nilP, by rw [h2]; exact nil_rtP w⟩
theorem pow_half {w : World} {v : Value} {er : Int} (h : PowP 1 2 32 w v er) : er = 0 ∧ Rat w v 1 4294967296 ∧ Nm.Good 1 4294967296 := by
 have g : Nm.Good 1 4294967296 := good5 (by omega) (by omega) (by omega) (by decide)
 rcases h with ⟨h1, h2, _⟩ | ⟨_, _, j, hj, h3⟩
 ·refine ⟨h1, ?_, g⟩; rw [Nat.one_pow] at h2; exact h2
 ·exfalso
  apply h3
  rw [Nat.one_pow]; refine ⟨fits_11.1, Nat.le_trans (dn_len _) (Nm.lb_length_lt.2 ?_)⟩; exact two_lt (by omega)
theorem l5_print : ratS 1 4294967296 = { data := #[49, 47, 52, 50, 57, 52, 57, 54, 55, 50, 57, 54] } := by
 have e1 : Nm.decS 1 = { data := #[49] } := by unfold Nm.decS; rw [Nm.decD_small (by omega)]; rfl
 have e2 : Nm.decS 4294967296 = { data := #[52, 50, 57, 52, 57, 54, 55, 50, 57, 54] } := by
  unfold Nm.decS; rw [Nm.decD_step (by omega), Nm.decD_step (by omega), Nm.decD_step (by omega), Nm.decD_step (by omega), Nm.decD_step (by omega), Nm.decD_step (by omega), Nm.decD_step (by omega), Nm.decD_step (by omega), Nm.decD_step (by omega), Nm.decD_small (by omega)]; rfl
 unfold ratS; rw [if_neg (by omega), e1, e2]; rfl
theorem l5_limbs : Nm.lb (Nm.dn 4294967296) = [0, 1] := by
 rw [Nm.dn_ne (by omega), Nm.lb_pos (by omega), show 4294967296 / Nm.B = 1 by unfold Nm.B; rfl, show 4294967296 % Nm.B = 0 by unfold Nm.B; rfl, Nm.lb_one]
theorem l5_sim1 : simF (ratP 1 3) (ratP 3 7) = (0, redP 1 3) := by
 have g1 := good5 (p := 1) (q := 3) (by omega) (by omega) (by omega) (by decide); have g2 := good5 (p := 3) (q := 7) (by omega) (by omega) (by omega) (by decide); unfold simF; rw [binF_rat g1 g2]; rfl
theorem l5_sim2 : simF (ratP 5 2) (ratP 7 2) = (0, redP 3 1) := by
 have g1 := good5 (p := 5) (q := 2) (by omega) (by omega) (by omega) (by decide); have g2 := good5 (p := 7) (q := 2) (by omega) (by omega) (by omega) (by decide); unfold simF; rw [binF_rat g1 g2]; rfl
theorem num1 (b : UInt8) (h : 48 < b.toNat) (h2 : b.toNat ≤ 57) : numP { data := #[b] } = [b.toNat - 48] := by
 unfold numP
 have e : numV (({ data := #[b] } : ByteArray).data.toList) = b.toNat - 48 := by
  show 0 * 10 + (b.toNat - 48) = _
  omega
 rw [e]; exact Nm.lb_small (by omega) (by unfold Nm.B; omega)
theorem bad_valid {a b : Nat} (ha : 0 < a) (hb : 0 < b) (ha2 : a < Nm.B) (hb2 : b < Nm.B) (h : b = 1 ∨ Nat.gcd a b ≠ 1) : validP ([a], [b]) ≠ 0 := by
 intro h0; have hk : okP ([a], [b]) := ⟨fun x hx => by rw [List.mem_singleton.1 hx]; exact ha2, fun x hx => by rw [List.mem_singleton.1 hx]; exact hb2⟩; obtain ⟨p, q, e, g⟩ := valid_good hk h0; have e1 : [a] = Nm.lb p := congrArg Prod.fst e; have e2 : [b] = Nm.lb (Nm.dn q) := congrArg Prod.snd e
 have f1 : p = a := by
  have := congrArg Nm.nv e1; rw [Nm.nv_lb] at this; rw [← this]; simp [Nm.nv]
 have f2 : Nm.dn q = b := by
  have := congrArg Nm.nv e2; rw [Nm.nv_lb] at this; rw [← this]; simp [Nm.nv]
 have hq1 : q ≠ 1 := by
  rintro rfl; rw [Nm.dn_one] at f2; omega
 rw [Nm.dn_ne hq1] at f2
 rcases h with h | h
 ·omega
 ·apply h
  rw [← f1, ← f2]; exact g.gcd
theorem l5_parse1 : (parseF { data := #[50, 47, 52] }).1 = 1 := by
 have a : cutA { data := #[50, 47, 52] } = { data := #[50] } := by decide
 have z : cutZ { data := #[50, 47, 52] } = { data := #[52] } := by decide
 have y : cutY { data := #[50, 47, 52] } = true := by decide
 have n1 : numP { data := #[50] } = [2] := num1 50 (by decide) (by decide); have n2 : numP { data := #[52] } = [4] := num1 52 (by decide) (by decide); have f1 : fitN { data := #[50] } = true := by unfold fitN; rw [n1]; rfl
 have f2 : fitN { data := #[52] } = true := by unfold fitN; rw [n2]; rfl
 have r1 : rowB { data := #[50] } = true := by decide
 have r2 : rowB { data := #[52] } = true := by decide
 unfold parseF; rw [a, z, y, r1, r2, if_neg (by simp), f1, f2, if_neg (by simp), n1, n2, if_pos (.inl (bad_valid (by omega) (by omega) (by unfold Nm.B; omega) (by unfold Nm.B; omega) (.inr (by decide))))]
theorem l5_parse2 : (parseF { data := #[48, 50] }).1 = 2 := by
 have a : cutA { data := #[48, 50] } = { data := #[48, 50] } := by decide
 have r1 : rowB { data := #[48, 50] } = false := by decide
 unfold parseF; rw [a, if_pos (.inl r1)]
theorem l5_parse3 : (parseF { data := #[51, 47, 49] }).1 = 1 := by
 have a : cutA { data := #[51, 47, 49] } = { data := #[51] } := by decide
 have z : cutZ { data := #[51, 47, 49] } = { data := #[49] } := by decide
 have y : cutY { data := #[51, 47, 49] } = true := by decide
 have n1 : numP { data := #[51] } = [3] := num1 51 (by decide) (by decide); have n2 : numP { data := #[49] } = [1] := num1 49 (by decide) (by decide); have f1 : fitN { data := #[51] } = true := by unfold fitN; rw [n1]; rfl
 have f2 : fitN { data := #[49] } = true := by unfold fitN; rw [n2]; rfl
 have r1 : rowB { data := #[51] } = true := by decide
 have r2 : rowB { data := #[49] } = true := by decide
 unfold parseF; rw [a, z, y, r1, r2, if_neg (by simp), f1, f2, if_neg (by simp), n1, n2, if_pos (.inl (bad_valid (by omega) (by omega) (by unfold Nm.B; omega) (by unfold Nm.B; omega) (.inl rfl)))]
end Go.Proofs.YtmbfjmilhfmnkaaDoor
namespace Go.Proofs.YtmbfjmilhfmnkaaDoor
open Go Go.RowKit
def ofE (n d : Int) : Int := if n < 0 ∨ d ≤ 0 then 5 else 0
noncomputable def ofX (n d : Int) : LP := if n < 0 ∨ d ≤ 0 then nilP else redP n.toNat d.toNat
theorem ofE_bad {n d : Int} (h : n < 0 ∨ d ≤ 0) : ofE n d = 5 := if_pos h
theorem ofX_bad {n d : Int} (h : n < 0 ∨ d ≤ 0) : ofX n d = nilP := if_pos h
theorem ofE_ok {n d : Nat} (h : 0 < d) : ofE (n : Int) (d : Int) = 0 := if_neg (by omega)
theorem ofX_ok {n d : Nat} (h : 0 < d) : ofX (n : Int) (d : Int) = redP n d := (if_neg (by omega)).trans (by simp)
theorem rvalid_P (v : Value) (x : LP) (w : World) (h : RtP w v x) : Calls Tryd.prog 11 #[v] w fun e w' => e = .returned (.int .i64 (validP x)) ∧ Below w.heap.size w w' := by
 obtain ⟨A1, k1, c1, A2, k2, c2, rfl, h1, h2, e1, e2⟩ := h; exact rvalid_any A1 A2 k1 c1 k2 c2 x.1 x.2 w h1 h2 e1 e2
theorem sameB_self : ∀ l : List Nat, sameB l l = true := by
 intro l; unfold sameB; simp
theorem rsame_P (va vb : Value) (x : LP) (w : World) (ha : RtP w va x) (hb : RtP w vb x) : Calls Tryd.prog 15 #[va, vb] w fun e w' => e = .returned (.bool true) ∧ Below w.heap.size w w' := by
 refine (same_any va vb x.1 x.2 x.1 x.2 w ha hb).mono ?_; rintro e w' ⟨b, rfl, HB, h⟩; rw [HB.out]; exact ⟨by unfold sameR; simp [sameB_self], h⟩
set_option maxRecDepth 10000 in
set_option maxHeartbeats 400000 in
theorem of_neg (n d : Int) (w : World) (hn : isI64 n) (hd : isI64 d) (h0 : n < 0) :
  Calls Tryd.prog 13 #[.int .i64 n, .int .i64 d] w fun e w' => e = .returned (.tuple #[nilRat, .int .i64 5]) ∧ Below w.heap.size w w' := by
 have t1 : decide (n < 0) = true := by simp; omega
 have t2 : decide (n < 0 ∨ d ≤ 0) = true := by simp; omega
 have hres := Res.new w; obtain ⟨r1, r2, r3, r4⟩ := hres.facts; obtain ⟨s1, s2⟩ := hres.set2 (.slice none 0 0) (.slice none 0 0); have hbw := bA w (.cells #[.slice none 0 0, .slice none 0 0] 28)
 go_enter Tryd.func13, Tryd.ntmps13
 go_wp2_with fail; exact bodyPost_ret (v := .tuple #[.agg #[.slice none 0 0, .slice none 0 0], .int .i64 5]) (by simp [results, Tryd.results13, go_sem, s1, s2]) rfl ⟨rfl, hbw⟩
set_option maxRecDepth 10000 in
set_option maxHeartbeats 400000 in
theorem of_den (n d : Int) (w : World) (hn : isI64 n) (hd : isI64 d) (h0 : 0 ≤ n) (h1 : d ≤ 0) :
  Calls Tryd.prog 13 #[.int .i64 n, .int .i64 d] w fun e w' => e = .returned (.tuple #[nilRat, .int .i64 5]) ∧ Below w.heap.size w w' := by
 have t1 : decide (n < 0) = false := by simp; omega
 have t2 : decide (n < 0 ∨ d ≤ 0) = true := by simp; omega
 have t3 : decide (d ≤ 0) = true := by simp; omega
 have hres := Res.new w; obtain ⟨r1, r2, r3, r4⟩ := hres.facts; obtain ⟨s1, s2⟩ := hres.set2 (.slice none 0 0) (.slice none 0 0); have hbw := bA w (.cells #[.slice none 0 0, .slice none 0 0] 28)
 go_enter Tryd.func13, Tryd.ntmps13
 go_wp2_with fail; exact bodyPost_ret (v := .tuple #[.agg #[.slice none 0 0, .slice none 0 0], .int .i64 5]) (by simp [results, Tryd.results13, go_sem, s1, s2]) rfl ⟨rfl, hbw⟩
theorem of_A (n d : Int) (w : World) (hn : isI64 n) (hd : isI64 d) :
  Calls Tryd.prog 13 #[.int .i64 n, .int .i64 d] w fun e w' => ∃ v, e = .returned (.tuple #[v, .int .i64 (ofE n d)]) ∧ RtP w' v (ofX n d) ∧ Below w.heap.size w w' := by
 by_cases h : n < 0 ∨ d ≤ 0
 ·rw [ofE_bad h, ofX_bad h]; by_cases h0 : n < 0
  ·refine (of_neg n d w hn hd h0).mono ?_; rintro e w' ⟨rfl, hb⟩; exact ⟨_, rfl, nil_rtP _, hb⟩
  ·refine (of_den n d w hn hd (by omega) (by omega)).mono ?_; rintro e w' ⟨rfl, hb⟩; exact ⟨_, rfl, nil_rtP _, hb⟩
 ·obtain ⟨N, rfl⟩ : ∃ N : Nat, n = N := ⟨n.toNat, by omega⟩; obtain ⟨D, rfl⟩ : ∃ D : Nat, d = D := ⟨d.toNat, by omega⟩; have hN : N ≤ 9223372036854775807 := by have := hn.2; omega
  have hD : D ≤ 9223372036854775807 := by have := hd.2; omega
  rw [ofE_ok (by omega), ofX_ok (by omega)]; refine (of_n N D w hN (by omega) hD).mono ?_; rintro e w' ⟨v, er, rfl, hR, hb⟩; obtain ⟨rfl, h⟩ := hR.resP; rw [resP_small (b64 (by omega)) (b64 (by omega))] at h ⊢; exact ⟨v, rfl, h, hb⟩
set_option maxRecDepth 10000 in
set_option maxHeartbeats 400000 in
theorem rof_neg (n d : Int) (w : World) (hn : isI64 n) (hd : isI64 d) (h0 : n < 0) :
  Calls Tryd.prog 14 #[.int .i64 n, .int .i64 d] w fun e w' => e = .returned (.tuple #[nilRat, .int .i64 5]) ∧ Below w.heap.size w w' := by
 have t1 : decide (n < 0) = true := by simp; omega
 have t2 : decide (n < 0 ∨ d ≤ 0) = true := by simp; omega
 have hres := Res.new w; obtain ⟨r1, r2, r3, r4⟩ := hres.facts; obtain ⟨s1, s2⟩ := hres.set2 (.slice none 0 0) (.slice none 0 0); have hbw := bA w (.cells #[.slice none 0 0, .slice none 0 0] 28)
 go_enter Tryd.func14, Tryd.ntmps14
 go_wp2_with fail; exact bodyPost_ret (v := .tuple #[.agg #[.slice none 0 0, .slice none 0 0], .int .i64 5]) (by simp [results, Tryd.results14, go_sem, s1, s2]) rfl ⟨rfl, hbw⟩
set_option maxRecDepth 10000 in
set_option maxHeartbeats 400000 in
theorem rof_den (n d : Int) (w : World) (hn : isI64 n) (hd : isI64 d) (h0 : 0 ≤ n) (h1 : d ≤ 0) :
  Calls Tryd.prog 14 #[.int .i64 n, .int .i64 d] w fun e w' => e = .returned (.tuple #[nilRat, .int .i64 5]) ∧ Below w.heap.size w w' := by
 have t1 : decide (n < 0) = false := by simp; omega
 have t2 : decide (n < 0 ∨ d ≤ 0) = true := by simp; omega
 have t3 : decide (d ≤ 0) = true := by simp; omega
 have hres := Res.new w; obtain ⟨r1, r2, r3, r4⟩ := hres.facts; obtain ⟨s1, s2⟩ := hres.set2 (.slice none 0 0) (.slice none 0 0); have hbw := bA w (.cells #[.slice none 0 0, .slice none 0 0] 28)
 go_enter Tryd.func14, Tryd.ntmps14
 go_wp2_with fail; exact bodyPost_ret (v := .tuple #[.agg #[.slice none 0 0, .slice none 0 0], .int .i64 5]) (by simp [results, Tryd.results14, go_sem, s1, s2]) rfl ⟨rfl, hbw⟩
theorem rof_A (n d : Int) (w : World) (hn : isI64 n) (hd : isI64 d) :
  Calls Tryd.prog 14 #[.int .i64 n, .int .i64 d] w fun e w' => ∃ v, e = .returned (.tuple #[v, .int .i64 (ofE n d)]) ∧ RtP w' v (ofX n d) ∧ Below w.heap.size w w' := by
 by_cases h : n < 0 ∨ d ≤ 0
 ·rw [ofE_bad h, ofX_bad h]; by_cases h0 : n < 0
  ·refine (rof_neg n d w hn hd h0).mono ?_; rintro e w' ⟨rfl, hb⟩; exact ⟨_, rfl, nil_rtP _, hb⟩
  ·refine (rof_den n d w hn hd (by omega) (by omega)).mono ?_; rintro e w' ⟨rfl, hb⟩; exact ⟨_, rfl, nil_rtP _, hb⟩
 ·obtain ⟨N, rfl⟩ : ∃ N : Nat, n = N := ⟨n.toNat, by omega⟩; obtain ⟨D, rfl⟩ : ∃ D : Nat, d = D := ⟨d.toNat, by omega⟩; have hN : N ≤ 9223372036854775807 := by have := hn.2; omega
  have hD : D ≤ 9223372036854775807 := by have := hd.2; omega
  rw [ofE_ok (by omega), ofX_ok (by omega)]; refine (rof_n N D w hN (by omega) hD).mono ?_; rintro e w' ⟨v, er, rfl, hR, hb⟩; obtain ⟨rfl, h⟩ := hR.resP; rw [resP_small (b64 (by omega)) (b64 (by omega))] at h ⊢; exact ⟨v, rfl, h, hb⟩
end Go.Proofs.YtmbfjmilhfmnkaaDoor
namespace Go.Proofs.YtmbfjmilhfmnkaaDoor
open Go Go.RowKit
theorem rorder_s (va vb : Value) (a b : LP) (w : World) (ha : RtP w va a) (hb : RtP w vb b) (va0 : validP a = 0) (vb0 : validP b = 0) :
  Calls Tryd.prog 64 #[va, vb] w fun e w' => ∃ cc, e = .returned (.int .i64 cc) ∧ decide (cc ≤ 0) = atB a b ∧ decide (0 ≤ cc) = atB b a ∧ Below w.heap.size w w' := by
 obtain ⟨pa, qa, rfl, ga, ra⟩ := ha.good va0; obtain ⟨pb, qb, rfl, gb, rb⟩ := hb.good vb0; refine (rorder_n va vb pa qa pb qb w ra rb ga gb).mono ?_; rintro e w' ⟨cc, rfl, hc, hb⟩; refine ⟨cc, rfl, ?_, ?_, hb⟩
 ·unfold atB; rw [cmpV_rat ga gb, hc.out]
 ·unfold atB; rw [cmpV_rat gb ga, hc.out, decide_eq_decide]; unfold Nm.cmpN
  split <;> split <;> (try split) <;> omega
theorem oneP_ok : okP oneP := okP_lb
theorem stakeF_ok (b s : LP) (bad : Bool) : okP (stakeF b s bad) := by
 unfold stakeF
 split
 ·exact addV_ok _ _
 ·exact subV_ok _ _
theorem mixV_valid (q a b : LP) : validP (mixV q a b) = 0 := addV_valid (mulV_ok _ _) (mulV_ok _ _)
theorem worstV_valid (q a b : LP) (hb : validP b = 0) : validP (worstV q a b) = 0 := by
 unfold worstV
 split
 ·exact mixV_valid _ _ _
 ·exact hb
theorem reachV_valid {ch : LP → LP → LP} (hch : ∀ a b, validP b = 0 → validP (ch a b) = 0) (b : LP) (rows : List (List LP)) (level : LP) : ∀ d m k c, validP (reachV ch b rows level d m k c) = 0 := by
 intro d
 induction d with
 | zero =>
  intro m k c; rw [reachV]
  split
  ·exact valid_one
  ·exact valid_nilP
 | succ d ih =>
  intro m k c; rw [reachV]
  split
  ·exact valid_one
  ·exact hch _ _ (ih _ _ _)
/-- how the reference combines two measures -/
noncomputable def chV (hard : Bool) (q : LP) : LP → LP → LP := if hard then worstV q else mixV q
theorem chV_valid (hard : Bool) (q a b : LP) (hb : validP b = 0) : validP (chV hard q a b) = 0 := by
 unfold chV
 cases hard
 ·exact mixV_valid _ _ _
 ·exact worstV_valid _ _ _ hb
def PhiR6 (gp m k n kS cS : Nat) (S : Option Addr) (hard : Bool) (q1 q2 c1 c2 s1 s2 l1 l2 x1 x2 : Value) (q c s b level : LP) (xb xg : LP → LP) (B : Nat) (j : Nat) (w : World) (x : Value) : Prop :=
 match j with
 | 0 => x = .agg #[x1, x2, .slice S kS cS]
 | 1 => x = .agg #[q1, q2]
 | 2 => x = .bool hard
 | 3 => x = .int .i64 (m : Int)
 | 4 => x = .int .i64 ((m : Int) + 1)
 | 5 => x = .int .i64 (k : Int)
 | 6 => x = .int .i64 ((k : Int) + 1)
 | 7 => x = .int .i64 (n : Int)
 | 8 => x = .agg #[c1, c2]
 | 9 => x = .agg #[s1, s2]
 | 10 => x = .pointer (some ⟨gp, 0, none⟩)
 | 11 => x = .agg #[x1, x2]
 | 12 => RtP w x (stakeF b s true)
 | 13 => RtP w x (mulV c (stakeF b s true))
 | 14 => x = .agg #[l1, l2]
 | 15 => ∃ Y1 y2 y3 Y4 y5 y6, x = .agg #[.slice Y1 y2 y3, .slice Y4 y5 y6] ∧ RtP w (.agg #[.slice Y1 y2 y3, .slice Y4 y5 y6]) (xb (mulV c (stakeF b s true)))
 | 16 => ∃ g, x = .pointer (some ⟨g, 0, none⟩) ∧ B ≤ g ∧ Sl w g
 | 17 => True
 | _ => True
theorem PhiR6.keep {gp m k n kS cS : Nat} {S : Option Addr} {hard : Bool} {q1 q2 c1 c2 s1 s2 l1 l2 x1 x2 : Value} {q c s b level : LP} {xb xg : LP → LP} {B : Nat} : ∀ (w w' : World), RT B w w' → ∀ j x, PhiR6 gp m k n kS cS S hard q1 q2 c1 c2 s1 s2 l1 l2 x1 x2 q c s b level xb xg B j w x → PhiR6 gp m k n kS cS S hard q1 q2 c1 c2 s1 s2 l1 l2 x1 x2 q c s b level xb xg B j w' x := by
 intro w w' hr j x h; unfold PhiR6 at h ⊢
 split <;> simp only at h ⊢
 all_goals first
  | exact h
  | exact h.mapL hr.lim
  | (obtain ⟨v, er, e, h⟩ := h; exact ⟨v, er, e, h.mapL hr.lim⟩)
  | (obtain ⟨A, k, c, A', k', c', e, h⟩ := h; exact ⟨A, k, c, A', k', c', e, h.mapL hr.lim⟩)
  | (obtain ⟨g, e, h1, h2⟩ := h; exact ⟨g, e, h1, hr.sl g h2⟩)
def PhiR7 (gp m k n kS cS : Nat) (S : Option Addr) (hard : Bool) (q1 q2 c1 c2 s1 s2 l1 l2 x1 x2 : Value) (q c s b level : LP) (xb xg : LP → LP) (B : Nat) (j : Nat) (w : World) (x : Value) : Prop :=
 match j with
 | 0 => x = .agg #[x1, x2, .slice S kS cS]
 | 1 => x = .agg #[q1, q2]
 | 2 => x = .bool hard
 | 3 => x = .int .i64 (m : Int)
 | 4 => x = .int .i64 ((m : Int) + 1)
 | 5 => x = .int .i64 (k : Int)
 | 6 => x = .int .i64 (n : Int)
 | 7 => x = .agg #[c1, c2]
 | 8 => x = .agg #[s1, s2]
 | 9 => x = .pointer (some ⟨gp, 0, none⟩)
 | 10 => x = .agg #[x1, x2]
 | 11 => RtP w x (stakeF b s false)
 | 12 => RtP w x (mulV c (stakeF b s false))
 | 13 => x = .agg #[l1, l2]
 | 14 => ∃ Y1 y2 y3 Y4 y5 y6, x = .agg #[.slice Y1 y2 y3, .slice Y4 y5 y6] ∧ RtP w (.agg #[.slice Y1 y2 y3, .slice Y4 y5 y6]) (xg (mulV c (stakeF b s false)))
 | 15 => ∃ g, x = .pointer (some ⟨g, 0, none⟩) ∧ B ≤ g ∧ Sl w g
 | 16 => True
 | _ => True
theorem PhiR7.keep {gp m k n kS cS : Nat} {S : Option Addr} {hard : Bool} {q1 q2 c1 c2 s1 s2 l1 l2 x1 x2 : Value} {q c s b level : LP} {xb xg : LP → LP} {B : Nat} : ∀ (w w' : World), RT B w w' → ∀ j x, PhiR7 gp m k n kS cS S hard q1 q2 c1 c2 s1 s2 l1 l2 x1 x2 q c s b level xb xg B j w x → PhiR7 gp m k n kS cS S hard q1 q2 c1 c2 s1 s2 l1 l2 x1 x2 q c s b level xb xg B j w' x := by
 intro w w' hr j x h; unfold PhiR7 at h ⊢
 split <;> simp only at h ⊢
 all_goals first
  | exact h
  | exact h.mapL hr.lim
  | (obtain ⟨v, er, e, h⟩ := h; exact ⟨v, er, e, h.mapL hr.lim⟩)
  | (obtain ⟨A, k, c, A', k', c', e, h⟩ := h; exact ⟨A, k, c, A', k', c', e, h.mapL hr.lim⟩)
  | (obtain ⟨g, e, h1, h2⟩ := h; exact ⟨g, e, h1, hr.sl g h2⟩)
def PhiR8 (q1 q2 a1 a2 g1 g2 : Value) (q a gg : LP) (B : Nat) (j : Nat) (w : World) (x : Value) : Prop :=
 match j with
 | 0 => x = .agg #[q1, q2]
 | 1 => x = .agg #[a1, a2]
 | 2 => RtP w x (mulV q a)
 | 3 => x = .agg #[q1, q2]
 | 4 => RtP w x (subV oneP q)
 | 5 => x = .agg #[g1, g2]
 | 6 => RtP w x (mulV (subV oneP q) gg)
 | 7 => ∃ Y1 y2 y3 Y4 y5 y6, x = .agg #[.slice Y1 y2 y3, .slice Y4 y5 y6] ∧ RtP w (.agg #[.slice Y1 y2 y3, .slice Y4 y5 y6]) (addV (mulV q a) (mulV (subV oneP q) gg))
 | 8 => ∃ g, x = .pointer (some ⟨g, 0, none⟩) ∧ B ≤ g ∧ Sl w g
 | 9 => True
 | _ => True
theorem PhiR8.keep {q1 q2 a1 a2 g1 g2 : Value} {q a gg : LP} {B : Nat} : ∀ (w w' : World), RT B w w' → ∀ j x, PhiR8 q1 q2 a1 a2 g1 g2 q a gg B j w x → PhiR8 q1 q2 a1 a2 g1 g2 q a gg B j w' x := by
 intro w w' hr j x h; unfold PhiR8 at h ⊢
 split <;> simp only at h ⊢
 all_goals first
  | exact h
  | exact h.mapL hr.lim
  | (obtain ⟨v, er, e, h⟩ := h; exact ⟨v, er, e, h.mapL hr.lim⟩)
  | (obtain ⟨A, k, c, A', k', c', e, h⟩ := h; exact ⟨A, k, c, A', k', c', e, h.mapL hr.lim⟩)
  | (obtain ⟨g, e, h1, h2⟩ := h; exact ⟨g, e, h1, hr.sl g h2⟩)
end Go.Proofs.YtmbfjmilhfmnkaaDoor
namespace Go.Proofs.YtmbfjmilhfmnkaaDoor
open Go Go.RowKit
theorem BinC.sh {fn : Nat} {f : LP → LP → Int × LP} (h : BinC fn f) (va vb : Value) (a b : LP) (E : Int) (X : LP) (w : World) (ha : RtP w va a) (hb : RtP w vb b) (hE : Hid ((f a b).1 = E)) (hX : Hid ((f a b).2 = X)) :
  Calls Tryd.prog fn #[va, vb] w fun e w' => ∃ A k c A' k' c', e = .returned (.tuple #[.agg #[.slice A k c, .slice A' k' c'], .int .i64 E]) ∧ RtP w' (.agg #[.slice A k c, .slice A' k' c']) X ∧ Below w.heap.size w w' := by
 refine (h va vb a b w ha hb).mono ?_; rintro e w' ⟨v, rfl, hr, hb⟩; rw [hE.out]; rw [hX.out] at hr; obtain ⟨A, k, c, A', k', c', rfl⟩ := hr.shape; exact ⟨A, k, c, A', k', c', rfl, hr, hb⟩
set_option maxRecDepth 10000 in
set_option maxHeartbeats 1000000 in
theorem rcmp_F (va vb : Value) (a b : LP) (w : World) (ha : RtP w va a) (hb : RtP w vb b) : Calls Tryd.prog 23 #[va, vb] w fun e w' => e = .returned (.tuple #[.int .i64 (cmpV a b), .int .i64 (firstE (validP a) (validP b))]) ∧ Below w.heap.size w w' := by
 obtain ⟨A1, k1, c1, A2, k2, c2, rfl⟩ := ha.shape; obtain ⟨B1, m1, d1, B2, m2, d2, rfl⟩ := hb.shape; obtain ⟨W, HW⟩ : ∃ W, Hid (W = (w.alloc (.cells #[.slice A1 k1 c1, .slice A2 k2 c2] 28)).alloc (.cells #[.slice B1 m1 d1, .slice B2 m2 d2] 28)) := ⟨_, rfl⟩; have hbw : Below w.heap.size w W := by rw [HW.out]; exact Below.tr (bA _ _) (bA _ _)
 have hB1 : Blk W w.heap.size 28 #[.slice A1 k1 c1, .slice A2 k2 c2] := by rw [HW.out]; exact Blk.below (Blk.newG rfl) (bA _ _) (Blk.newG rfl).lt
 have hB2 : Blk W (w.heap.size + 1) 28 #[.slice B1 m1 d1, .slice B2 m2 d2] := by rw [HW.out]; exact Blk.newG (by simp)
 have ha1 := ha.below hbw; have hb1 := hb.below hbw; obtain ⟨W', HW'⟩ : ∃ W', Hid (W' = W) := ⟨_, rfl⟩
 go_enter Tryd.func23, Tryd.ntmps23
 go_wp2_with fail; rw [← HW.out]; refine (rboth_any _ _ a.1 a.2 b.1 b.2 _ ha1 hb1).mono ?_; rintro e W2 ⟨E, rfl, HE, hbe⟩; have HEE : Hid (E = firstE (validP a) (validP b)) := HE; clear HE HW'; by_cases h : E = 0
 ·have h0 : (E != 0) = false := by simpa using h
  have hz : firstE (validP a) (validP b) = 0 := by rw [← HEE.out]; exact h
  obtain ⟨e1, e2⟩ := firstE_zero.1 hz; obtain ⟨pa, qa, ea, ga, ra⟩ := ha1.good e1; obtain ⟨pb, qb, eb, gb, rb⟩ := hb1.good e2
  have HC : Hid (cmpV a b = Nm.cmpN (pa * qb) (pb * qa)) := by
   show _ = _
   rw [ea, eb]; exact cmpV_rat ga gb
  have ra := ra.below hbe; have rb := rb.below hbe; have f1 := (hB1.below hbe hB1.lt).cell 0; have f2 := (hB1.below hbe hB1.lt).cell 1; have f3 := (hB2.below hbe hB2.lt).cell 0; have f4 := (hB2.below hbe hB2.lt).cell 1; simp only [List.getElem?_toArray, List.getElem?_cons_zero, List.getElem?_cons_succ] at f1 f2 f3 f4; have HH := Lib.hid h; clear h hz e1 e2 ea eb ha hb ha1 hb1 hB1 hB2 HW; go_wp2_with fail; refine (rorder_n _ _ pa qa pb qb _ ra rb ga gb).mono ?_; rintro e W3 ⟨cc, rfl, hcc, hb3⟩; have HCC := hcc; clear hcc; go_wp2_with fail
  go_ret2
  exact ⟨by rw [← HEE.out, HC.out, ← HCC.out, HH.out]; rfl, Below.tr hbw (Below.tr hbe hb3)⟩
 ·have h0 : (E != 0) = true := by simpa using h
  have HC : Hid (cmpV a b = 0) := if_pos (by rw [← HEE.out]; exact h); clear h ha1 hb1 HW ha hb hB1 hB2; go_wp2_with fail
  go_ret2
  exact ⟨by rw [← HEE.out, HC.out]; rfl, Below.tr hbw hbe⟩
end Go.Proofs.YtmbfjmilhfmnkaaDoor
