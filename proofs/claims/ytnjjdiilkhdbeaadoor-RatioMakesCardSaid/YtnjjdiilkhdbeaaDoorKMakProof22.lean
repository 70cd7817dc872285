import Derived.Test.YtnjjdiilkhdbeaaDoorKMakProof19
import Derived.Test.YtnjjdiilkhdbeaaDoorKMakProof20
import Derived.Test.YtnjjdiilkhdbeaaDoorKMakProof21
import Derived.Test.YtnjjdiilkhdbeaaDoorKMakProof16
import Derived.Test.YtnjjdiilkhdbeaaDoorKMakProof12
import Derived.Test.YtnjjdiilkhdbeaaDoorKMakProof13
import Derived.Test.YtnjjdiilkhdbeaaDoorS0
set_option linter.unusedVariables false
set_option linter.unusedSimpArgs false
namespace Go.Proofs.YtnjjdiilkhdbeaaDoor
open Go Go.RowKit
theorem fr5 {n d : Nat} (h0 : 0 < d) (hn : n < 18446744073709551616) (hd : d < 18446744073709551616) : Frac (redP n d) n d := ⟨h0, b64 hn, b64 hd, rfl⟩
theorem l5_add : (addF (redP 1 6) (redP 1 10)).1 = 0 ∧ addV (redP 1 6) (redP 1 10) = redP 4 15 := by
 have h1 := (fr5 (n := 1) (d := 6) (by omega) (by omega) (by omega)).scale (m := 5) (e := 30) (by omega) (b64 (by omega)) (b64 (by omega)) (by omega); have h2 := (fr5 (n := 1) (d := 10) (by omega) (by omega) (by omega)).scale (m := 3) (e := 30) (by omega) (b64 (by omega)) (b64 (by omega)) (by omega); obtain ⟨h3, h4⟩ := h1.add h2 (b64 (by omega)); exact ⟨h4, h3.uniq (fr5 (n := 4) (d := 15) (by omega) (by omega) (by omega)) (by omega)⟩
theorem l5_sub : (subF (redP 1 6) (redP 1 10)).1 = 0 ∧ subV (redP 1 6) (redP 1 10) = redP 1 15 := by
 have h1 := (fr5 (n := 1) (d := 6) (by omega) (by omega) (by omega)).scale (m := 5) (e := 30) (by omega) (b64 (by omega)) (b64 (by omega)) (by omega); have h2 := (fr5 (n := 1) (d := 10) (by omega) (by omega) (by omega)).scale (m := 3) (e := 30) (by omega) (b64 (by omega)) (b64 (by omega)) (by omega); obtain ⟨h3, h4⟩ := h1.sub h2 (by omega); exact ⟨h4, h3.uniq (fr5 (n := 1) (d := 15) (by omega) (by omega) (by omega)) (by omega)⟩
theorem good5 {p q : Nat} (h0 : 0 < q) (hp : p < 18446744073709551616) (hq : q < 18446744073709551616) (hg : Nat.gcd p q = 1) : Nm.Good p q := by
 have h := red_good (n := p) (d := q) h0 (b64 hp) (b64 hq); rw [hg, Nat.div_one, Nat.div_one] at h; exact h
theorem redP_good {p q : Nat} (g : Nm.Good p q) : redP p q = ratP p q := (Frac.of_good g).eq.symm
theorem l5_less : subF (redP 1 10) (redP 1 6) = (5, nilP) := by
 have g1 := good5 (p := 1) (q := 10) (by omega) (by omega) (by omega) (by decide); have g2 := good5 (p := 1) (q := 6) (by omega) (by omega) (by omega) (by decide); rw [redP_good g1, redP_good g2]; unfold subF; rw [binF_rat g1 g2]; rfl
theorem l5_two : redP 4 2 = redP 2 1 := redP_eq (by omega) (by omega) (by omega)
theorem l5_half : redP 6 4 = redP 3 2 := redP_eq (by omega) (by omega) (by omega)
theorem g21 : Nm.Good 2 1 := good5 (by omega) (by omega) (by omega) (by decide)
theorem g12 : Nm.Good 1 2 := good5 (by omega) (by omega) (by omega) (by decide)
theorem l5_div : divF (redP 2 1) nilP = (5, nilP) := by
 rw [redP_good g21, ← nil_ratP]; unfold divF; rw [binF_rat g21 g01]; rfl
theorem l5_den : (redP 2 1).2 = [] := by
 rw [redP_good g21]
 show Nm.lb (Nm.dn 1) = []
 rw [Nm.dn_one, Nm.lb_zero]
theorem two_lt {j k : Nat} (h : j < 32 * k) : 2 ^ j < Nm.B ^ k := by
 rw [Nm.bpow]; exact Nat.pow_lt_pow_right (by omega) h
theorem two_fits {j : Nat} (h : j ≤ 2047) : Nm.Fits (2 ^ j) (1 ^ j) := by
 refine ⟨Nm.lb_length_lt.2 ?_, ?_⟩
 ·exact two_lt (by omega)
 ·rw [Nat.one_pow]; exact fits_11.2
theorem two_big {j : Nat} (h : j = 2048) : ¬ Nm.Fits (2 ^ j) (1 ^ j) := by
 rintro ⟨h1, _⟩; have h2 := Nm.lb_length_lt.1 h1; rw [Nm.bpow] at h2; exact absurd (Nat.pow_le_pow_right (n := 2) (by omega) (show 32 * 64 ≤ j by omega)) (by omega)
theorem pow_ok {n : Nat} {w : World} {v : Value} {er : Int} (hn : n ≤ 2047) (h : PowP 2 1 n w v er) : er = 0 ∧ ∃ x, RtP w v x := by
 rcases h with ⟨h1, h2, _⟩ | ⟨_, _, j, hj, h3⟩
 ·exact ⟨h1, _, h2.rtP⟩
 ·exact absurd (two_fits (by omega)) h3
theorem pow_big {n : Nat} {w : World} {v : Value} {er : Int} (hn : n = 2048) (h : PowP 2 1 n w v er) : er = 4 ∧ ∃ x, RtP w v x := by
 rcases h with ⟨_, _, h3⟩ | ⟨h1, h2, _⟩
 ·exact absurd (h3 n (Nat.le_refl _)) (two_big hn)
 ·exact ⟨h1, nilP, by rw [h2]; exact nil_rtP w⟩
theorem pow_half {w : World} {v : Value} {er : Int} (h : PowP 1 2 32 w v er) : er = 0 ∧ Rat w v 1 4294967296 ∧ Nm.Good 1 4294967296 := by
 have g : Nm.Good 1 4294967296 := good5 (by omega) (by omega) (by omega) (by decide)
 rcases h with ⟨h1, h2, _⟩ | ⟨_, _, j, hj, h3⟩
 ·refine ⟨h1, ?_, g⟩; rw [Nat.one_pow] at h2; exact h2
 ·exfalso
  apply h3
  rw [Nat.one_pow]; refine ⟨fits_11.1, Nat.le_trans (dn_len _) (Nm.lb_length_lt.2 ?_)⟩; exact two_lt (by omega)
theorem l5_print : ratS 1 4294967296 = { data := #[49, 47, 52, 50, 57, 52, 57, 54, 55, 50, 57, 54] } := by
 have e1 : Nm.decS 1 = { data := #[49] } := by unfold Nm.decS; rw [Nm.decD_small (by omega)]; rfl
 have e2 : Nm.decS 4294967296 = { data := #[52, 50, 57, 52, 57, 54, 55, 50, 57, 54] } := by
  unfold Nm.decS; rw [Nm.decD_step (by omega), Nm.decD_step (by omega), Nm.decD_step (by omega), Nm.decD_step (by omega), Nm.decD_step (by omega), Nm.decD_step (by omega), Nm.decD_step (by omega), Nm.decD_step (by omega), Nm.decD_step (by omega), Nm.decD_small (by omega)]; rfl
 unfold ratS; rw [if_neg (by omega), e1, e2]; rfl
theorem l5_limbs : Nm.lb (Nm.dn 4294967296) = [0, 1] := by
 rw [Nm.dn_ne (by omega), Nm.lb_pos (by omega), show 4294967296 / Nm.B = 1 by unfold Nm.B; rfl, show 4294967296 % Nm.B = 0 by unfold Nm.B; rfl, Nm.lb_one]
theorem l5_sim1 : simF (ratP 1 3) (ratP 3 7) = (0, redP 1 3) := by
 have g1 := good5 (p := 1) (q := 3) (by omega) (by omega) (by omega) (by decide); have g2 := good5 (p := 3) (q := 7) (by omega) (by omega) (by omega) (by decide); unfold simF; rw [binF_rat g1 g2]; rfl
theorem l5_sim2 : simF (ratP 5 2) (ratP 7 2) = (0, redP 3 1) := by
 have g1 := good5 (p := 5) (q := 2) (by omega) (by omega) (by omega) (by decide); have g2 := good5 (p := 7) (q := 2) (by omega) (by omega) (by omega) (by decide); unfold simF; rw [binF_rat g1 g2]; rfl
theorem num1 (b : UInt8) (h : 48 < b.toNat) (h2 : b.toNat ≤ 57) : numP { data := #[b] } = [b.toNat - 48] := by
 unfold numP
 have e : numV (({ data := #[b] } : ByteArray).data.toList) = b.toNat - 48 := by
  show 0 * 10 + (b.toNat - 48) = _
  omega
 rw [e]; exact Nm.lb_small (by omega) (by unfold Nm.B; omega)
theorem bad_valid {a b : Nat} (ha : 0 < a) (hb : 0 < b) (ha2 : a < Nm.B) (hb2 : b < Nm.B) (h : b = 1 ∨ Nat.gcd a b ≠ 1) : validP ([a], [b]) ≠ 0 := by
 intro h0; have hk : okP ([a], [b]) := ⟨fun x hx => by rw [List.mem_singleton.1 hx]; exact ha2, fun x hx => by rw [List.mem_singleton.1 hx]; exact hb2⟩; obtain ⟨p, q, e, g⟩ := valid_good hk h0; have e1 : [a] = Nm.lb p := congrArg Prod.fst e; have e2 : [b] = Nm.lb (Nm.dn q) := congrArg Prod.snd e
 have f1 : p = a := by
  have := congrArg Nm.nv e1; rw [Nm.nv_lb] at this; rw [← this]; simp [Nm.nv]
 have f2 : Nm.dn q = b := by
  have := congrArg Nm.nv e2; rw [Nm.nv_lb] at this; rw [← this]; simp [Nm.nv]
 have hq1 : q ≠ 1 := by
  rintro rfl; rw [Nm.dn_one] at f2; omega
 rw [Nm.dn_ne hq1] at f2
 rcases h with h | h
 ·omega
 ·apply h
  rw [← f1, ← f2]; exact g.gcd
theorem l5_parse1 : (parseF { data := #[50, 47, 52] }).1 = 1 := by
 have a : cutA { data := #[50, 47, 52] } = { data := #[50] } := by decide
 have z : cutZ { data := #[50, 47, 52] } = { data := #[52] } := by decide
 have y : cutY { data := #[50, 47, 52] } = true := by decide
 have n1 : numP { data := #[50] } = [2] := num1 50 (by decide) (by decide); have n2 : numP { data := #[52] } = [4] := num1 52 (by decide) (by decide); have f1 : fitN { data := #[50] } = true := by unfold fitN; rw [n1]; rfl
 have f2 : fitN { data := #[52] } = true := by unfold fitN; rw [n2]; rfl
 have r1 : rowB { data := #[50] } = true := by decide
 have r2 : rowB { data := #[52] } = true := by decide
 unfold parseF; rw [a, z, y, r1, r2, if_neg (by simp), f1, f2, if_neg (by simp), n1, n2, if_pos (.inl (bad_valid (by omega) (by omega) (by unfold Nm.B; omega) (by unfold Nm.B; omega) (.inr (by decide))))]
theorem l5_parse2 : (parseF { data := #[48, 50] }).1 = 2 := by
 have a : cutA { data := #[48, 50] } = { data := #[48, 50] } := by decide
 have r1 : rowB { data := #[48, 50] } = false := by decide
 unfold parseF; rw [a, if_pos (.inl r1)]
theorem l5_parse3 : (parseF { data := #[51, 47, 49] }).1 = 1 := by
 have a : cutA { data := #[51, 47, 49] } = { data := #[51] } := by decide
 have z : cutZ { data := #[51, 47, 49] } = { data := #[49] } := by decide
 have y : cutY { data := #[51, 47, 49] } = true := by decide
 have n1 : numP { data := #[51] } = [3] := num1 51 (by decide) (by decide); have n2 : numP { data := #[49] } = [1] := num1 49 (by decide) (by decide); have f1 : fitN { data := #[51] } = true := by unfold fitN; rw [n1]; rfl
 have f2 : fitN { data := #[49] } = true := by unfold fitN; rw [n2]; rfl
 have r1 : rowB { data := #[51] } = true := by decide
 have r2 : rowB { data := #[49] } = true := by decide
 unfold parseF; rw [a, z, y, r1, r2, if_neg (by simp), f1, f2, if_neg (by simp), n1, n2, if_pos (.inl (bad_valid (by omega) (by omega) (by unfold Nm.B; omega) (by unfold Nm.B; omega) (.inl rfl)))]
end Go.Proofs.YtnjjdiilkhdbeaaDoor
namespace Go.Proofs.YtnjjdiilkhdbeaaDoor
open Go Go.RowKit
def ofE (n d : Int) : Int := if n < 0 ∨ d ≤ 0 then 5 else 0
noncomputable def ofX (n d : Int) : LP := if n < 0 ∨ d ≤ 0 then nilP else redP n.toNat d.toNat
theorem ofE_bad {n d : Int} (h : n < 0 ∨ d ≤ 0) : ofE n d = 5 := if_pos h
theorem ofX_bad {n d : Int} (h : n < 0 ∨ d ≤ 0) : ofX n d = nilP := if_pos h
theorem ofE_ok {n d : Nat} (h : 0 < d) : ofE (n : Int) (d : Int) = 0 := if_neg (by omega)
theorem ofX_ok {n d : Nat} (h : 0 < d) : ofX (n : Int) (d : Int) = redP n d := (if_neg (by omega)).trans (by simp)
theorem rvalid_P (v : Value) (x : LP) (w : World) (h : RtP w v x) : Calls Tryd.prog 11 #[v] w fun e w' => e = .returned (.int .i64 (validP x)) ∧ Below w.heap.size w w' := by
 obtain ⟨A1, k1, c1, A2, k2, c2, rfl, h1, h2, e1, e2⟩ := h; exact rvalid_any A1 A2 k1 c1 k2 c2 x.1 x.2 w h1 h2 e1 e2
theorem sameB_self : ∀ l : List Nat, sameB l l = true := by
 intro l; unfold sameB; simp
theorem rsame_P (va vb : Value) (x : LP) (w : World) (ha : RtP w va x) (hb : RtP w vb x) : Calls Tryd.prog 15 #[va, vb] w fun e w' => e = .returned (.bool true) ∧ Below w.heap.size w w' := by
 refine (same_any va vb x.1 x.2 x.1 x.2 w ha hb).mono ?_; rintro e w' ⟨b, rfl, HB, h⟩; rw [HB.out]; exact ⟨by unfold sameR; simp [sameB_self], h⟩
set_option maxRecDepth 10000 in
set_option maxHeartbeats 400000 in
theorem of_neg (n d : Int) (w : World) (hn : isI64 n) (hd : isI64 d) (h0 : n < 0) :
  Calls Tryd.prog 13 #[.int .i64 n, .int .i64 d] w fun e w' => e = .returned (.tuple #[nilRat, .int .i64 5]) ∧ Below w.heap.size w w' := by
 have t1 : decide (n < 0) = true := by simp; omega
 have t2 : decide (n < 0 ∨ d ≤ 0) = true := by simp; omega
 have hres := Res.new w; obtain ⟨r1, r2, r3, r4⟩ := hres.facts; obtain ⟨s1, s2⟩ := hres.set2 (.slice none 0 0) (.slice none 0 0); have hbw := bA w (.cells #[.slice none 0 0, .slice none 0 0] 28)
 go_enter Tryd.func13, Tryd.ntmps13
 go_wp2_with fail; exact bodyPost_ret (v := .tuple #[.agg #[.slice none 0 0, .slice none 0 0], .int .i64 5]) (by simp [results, Tryd.results13, go_sem, s1, s2]) rfl ⟨rfl, hbw⟩
set_option maxRecDepth 10000 in
set_option maxHeartbeats 400000 in
theorem of_den (n d : Int) (w : World) (hn : isI64 n) (hd : isI64 d) (h0 : 0 ≤ n) (h1 : d ≤ 0) :
  Calls Tryd.prog 13 #[.int .i64 n, .int .i64 d] w fun e w' => e = .returned (.tuple #[nilRat, .int .i64 5]) ∧ Below w.heap.size w w' := by
 have t1 : decide (n < 0) = false := by simp; omega
 have t2 : decide (n < 0 ∨ d ≤ 0) = true := by simp; omega
 have t3 : decide (d ≤ 0) = true := by simp; omega
 have hres := Res.new w; obtain ⟨r1, r2, r3, r4⟩ := hres.facts; obtain ⟨s1, s2⟩ := hres.set2 (.slice none 0 0) (.slice none 0 0); have hbw := bA w (.cells #[.slice none 0 0, .slice none 0 0] 28)
 go_enter Tryd.func13, Tryd.ntmps13
 go_wp2_with fail; exact bodyPost_ret (v := .tuple #[.agg #[.slice none 0 0, .slice none 0 0], .int .i64 5]) (by simp [results, Tryd.results13, go_sem, s1, s2]) rfl ⟨rfl, hbw⟩
theorem of_A (n d : Int) (w : World) (hn : isI64 n) (hd : isI64 d) :
  Calls Tryd.prog 13 #[.int .i64 n, .int .i64 d] w fun e w' => ∃ v, e = .returned (.tuple #[v, .int .i64 (ofE n d)]) ∧ RtP w' v (ofX n d) ∧ Below w.heap.size w w' := by
 by_cases h : n < 0 ∨ d ≤ 0
 ·rw [ofE_bad h, ofX_bad h]; by_cases h0 : n < 0
  ·refine (of_neg n d w hn hd h0).mono ?_; rintro e w' ⟨rfl, hb⟩; exact ⟨_, rfl, nil_rtP _, hb⟩
  ·refine (of_den n d w hn hd (by omega) (by omega)).mono ?_; rintro e w' ⟨rfl, hb⟩; exact ⟨_, rfl, nil_rtP _, hb⟩
 ·obtain ⟨N, rfl⟩ : ∃ N : Nat, n = N := ⟨n.toNat, by omega⟩; obtain ⟨D, rfl⟩ : ∃ D : Nat, d = D := ⟨d.toNat, by omega⟩; have hN : N ≤ 9223372036854775807 := by have := hn.2; omega
  have hD : D ≤ 9223372036854775807 := by have := hd.2; omega
  rw [ofE_ok (by omega), ofX_ok (by omega)]; refine (of_n N D w hN (by omega) hD).mono ?_; rintro e w' ⟨v, er, rfl, hR, hb⟩; obtain ⟨rfl, h⟩ := hR.resP; rw [resP_small (b64 (by omega)) (b64 (by omega))] at h ⊢; exact ⟨v, rfl, h, hb⟩
set_option maxRecDepth 10000 in
set_option maxHeartbeats 400000 in
theorem rof_neg (n d : Int) (w : World) (hn : isI64 n) (hd : isI64 d) (h0 : n < 0) :
  Calls Tryd.prog 14 #[.int .i64 n, .int .i64 d] w fun e w' => e = .returned (.tuple #[nilRat, .int .i64 5]) ∧ Below w.heap.size w w' := by
 have t1 : decide (n < 0) = true := by simp; omega
 have t2 : decide (n < 0 ∨ d ≤ 0) = true := by simp; omega
 have hres := Res.new w; obtain ⟨r1, r2, r3, r4⟩ := hres.facts; obtain ⟨s1, s2⟩ := hres.set2 (.slice none 0 0) (.slice none 0 0); have hbw := bA w (.cells #[.slice none 0 0, .slice none 0 0] 28)
 go_enter Tryd.func14, Tryd.ntmps14
 go_wp2_with fail; exact bodyPost_ret (v := .tuple #[.agg #[.slice none 0 0, .slice none 0 0], .int .i64 5]) (by simp [results, Tryd.results14, go_sem, s1, s2]) rfl ⟨rfl, hbw⟩
set_option maxRecDepth 10000 in
set_option maxHeartbeats 400000 in
theorem rof_den (n d : Int) (w : World) (hn : isI64 n) (hd : isI64 d) (h0 : 0 ≤ n) (h1 : d ≤ 0) :
  Calls Tryd.prog 14 #[.int .i64 n, .int .i64 d] w fun e w' => e = .returned (.tuple #[nilRat, .int .i64 5]) ∧ Below w.heap.size w w' := by
 have t1 : decide (n < 0) = false := by simp; omega
 have t2 : decide (n < 0 ∨ d ≤ 0) = true := by simp; omega
 have t3 : decide (d ≤ 0) = true := by simp; omega
 have hres := Res.new w; obtain ⟨r1, r2, r3, r4⟩ := hres.facts; obtain ⟨s1, s2⟩ := hres.set2 (.slice none 0 0) (.slice none 0 0); have hbw := bA w (.cells #[.slice none 0 0, .slice none 0 0] 28)
 go_enter Tryd.func14, Tryd.ntmps14
 go_wp2_with fail; exact bodyPost_ret (v := .tuple #[.agg #[.slice none 0 0, .slice none 0 0], .int .i64 5]) (by simp [results, Tryd.results14, go_sem, s1, s2]) rfl ⟨rfl, hbw⟩
theorem rof_A (n d : Int) (w : World) (hn : isI64 n) (hd : isI64 d) :
  Calls Tryd.prog 14 #[.int .i64 n, .int .i64 d] w fun e w' => ∃ v, e = .returned (.tuple #[v, .int .i64 (ofE n d)]) ∧ RtP w' v (ofX n d) ∧ Below w.heap.size w w' := by
 by_cases h : n < 0 ∨ d ≤ 0
 ·rw [ofE_bad h, ofX_bad h]; by_cases h0 : n < 0
  ·refine (rof_neg n d w hn hd h0).mono ?_; rintro e w' ⟨rfl, hb⟩; exact ⟨_, rfl, nil_rtP _, hb⟩
  ·refine (rof_den n d w hn hd (by omega) (by omega)).mono ?_; rintro e w' ⟨rfl, hb⟩; exact ⟨_, rfl, nil_rtP _, hb⟩
 ·obtain ⟨N, rfl⟩ : ∃ N : Nat, n = N := ⟨n.toNat, by omega⟩; obtain ⟨D, rfl⟩ : ∃ D : Nat, d = D := ⟨d.toNat, by omega⟩; have hN : N ≤ 9223372036854775807 := by have := hn.2; omega
  have hD : D ≤ 9223372036854775807 := by have := hd.2; omega
  rw [ofE_ok (by omega), ofX_ok (by omega)]; refine (rof_n N D w hN (by omega) hD).mono ?_; rintro e w' ⟨v, er, rfl, hR, hb⟩; obtain ⟨rfl, h⟩ := hR.resP; rw [resP_small (b64 (by omega)) (b64 (by omega))] at h ⊢; exact ⟨v, rfl, h, hb⟩
end Go.Proofs.YtnjjdiilkhdbeaaDoor
namespace Go.Proofs.YtnjjdiilkhdbeaaDoor
open Go Go.RowKit
theorem sameB_refl : ∀ l : List Nat, sameB l l = true := by
 intro l; unfold sameB; simp
theorem rsame_5 (va vb : Value) (x : LP) (w : World) (ha : RtP w va x) (hb : RtP w vb x) : Calls Tryd.prog 15 #[va, vb] w fun e w' => e = .returned (.bool true) ∧ Below w.heap.size w w' := by
 refine (same_any va vb x.1 x.2 x.1 x.2 w ha hb).mono ?_; rintro e w' ⟨b, rfl, HB, h⟩; rw [HB.out]; exact ⟨by unfold sameR; simp [sameB_refl], h⟩
theorem of_5 (n d : Nat) (w : World) (hn : n ≤ 1000) (hd : 0 < d) (hd2 : d ≤ 1000) :
  Calls Tryd.prog 13 #[.int .i64 n, .int .i64 d] w fun e w' => ∃ A k c A' k' c', e = .returned (.tuple #[.agg #[.slice A k c, .slice A' k' c'], .int .i64 0]) ∧ RtP w' (.agg #[.slice A k c, .slice A' k' c']) (redP n d) ∧ Below w.heap.size w w' := by
 refine (of_n n d w (by omega) hd (by omega)).mono ?_; rintro e w' ⟨v, er, rfl, hR, hb⟩; obtain ⟨rfl, h⟩ := hR.resP; rw [resP_small (b64 (by omega)) (b64 (by omega))] at h ⊢; obtain ⟨A, k, c, A', k', c', rfl⟩ := h.shape; exact ⟨A, k, c, A', k', c', rfl, h, hb⟩
theorem add_5 (va vb : Value) (w : World) (ha : RtP w va (redP 1 6)) (hb : RtP w vb (redP 1 10)) : Calls Tryd.prog 24 #[va, vb] w fun e w' => ∃ A k c A' k' c', e = .returned (.tuple #[.agg #[.slice A k c, .slice A' k' c'], .int .i64 0]) ∧ RtP w' (.agg #[.slice A k c, .slice A' k' c']) (redP 4 15) ∧ Below w.heap.size w w' := by
 have h := add_F va vb (redP 1 6) (redP 1 10) w ha hb; rw [l5_add.1] at h; rw [show (addF (redP 1 6) (redP 1 10)).2 = redP 4 15 from l5_add.2] at h; refine h.mono ?_; rintro e w' ⟨v, rfl, h, hb⟩; obtain ⟨A, k, c, A', k', c', rfl⟩ := h.shape; exact ⟨A, k, c, A', k', c', rfl, h, hb⟩
theorem sub_5 (va vb : Value) (w : World) (ha : RtP w va (redP 1 6)) (hb : RtP w vb (redP 1 10)) : Calls Tryd.prog 26 #[va, vb] w fun e w' => ∃ A k c A' k' c', e = .returned (.tuple #[.agg #[.slice A k c, .slice A' k' c'], .int .i64 0]) ∧ RtP w' (.agg #[.slice A k c, .slice A' k' c']) (redP 1 15) ∧ Below w.heap.size w w' := by
 have h := sub_F va vb (redP 1 6) (redP 1 10) w ha hb; rw [l5_sub.1] at h; rw [show (subF (redP 1 6) (redP 1 10)).2 = redP 1 15 from l5_sub.2] at h; refine h.mono ?_; rintro e w' ⟨v, rfl, h, hb⟩; obtain ⟨A, k, c, A', k', c', rfl⟩ := h.shape; exact ⟨A, k, c, A', k', c', rfl, h, hb⟩
theorem less_5 (va vb : Value) (w : World) (ha : RtP w va (redP 1 10)) (hb : RtP w vb (redP 1 6)) : Calls Tryd.prog 26 #[va, vb] w fun e w' => ∃ A k c A' k' c', e = .returned (.tuple #[.agg #[.slice A k c, .slice A' k' c'], .int .i64 5]) ∧ RtP w' (.agg #[.slice A k c, .slice A' k' c']) (nilP) ∧ Below w.heap.size w w' := by
 have h := sub_F va vb (redP 1 10) (redP 1 6) w ha hb; rw [l5_less] at h; refine h.mono ?_; rintro e w' ⟨v, rfl, h, hb⟩; obtain ⟨A, k, c, A', k', c', rfl⟩ := h.shape; exact ⟨A, k, c, A', k', c', rfl, h, hb⟩
theorem div_5 (va vb : Value) (w : World) (ha : RtP w va (redP 2 1)) (hb : RtP w vb (nilP)) : Calls Tryd.prog 30 #[va, vb] w fun e w' => ∃ A k c A' k' c', e = .returned (.tuple #[.agg #[.slice A k c, .slice A' k' c'], .int .i64 5]) ∧ RtP w' (.agg #[.slice A k c, .slice A' k' c']) (nilP) ∧ Below w.heap.size w w' := by
 have h := div_F va vb (redP 2 1) (nilP) w ha hb; rw [l5_div] at h; refine h.mono ?_; rintro e w' ⟨v, rfl, h, hb⟩; obtain ⟨A, k, c, A', k', c', rfl⟩ := h.shape; exact ⟨A, k, c, A', k', c', rfl, h, hb⟩
theorem sim_5a (va vb : Value) (w : World) (ha : RtP w va (ratP 1 3)) (hb : RtP w vb (ratP 3 7)) : Calls Tryd.prog 34 #[va, vb] w fun e w' => ∃ A k c A' k' c', e = .returned (.tuple #[.agg #[.slice A k c, .slice A' k' c'], .int .i64 0]) ∧ RtP w' (.agg #[.slice A k c, .slice A' k' c']) (redP 1 3) ∧ Below w.heap.size w w' := by
 have h := simplest_F va vb (ratP 1 3) (ratP 3 7) w ha hb; rw [l5_sim1] at h; refine h.mono ?_; rintro e w' ⟨v, rfl, h, hb⟩; obtain ⟨A, k, c, A', k', c', rfl⟩ := h.shape; exact ⟨A, k, c, A', k', c', rfl, h, hb⟩
theorem sim_5b (va vb : Value) (w : World) (ha : RtP w va (ratP 5 2)) (hb : RtP w vb (ratP 7 2)) : Calls Tryd.prog 34 #[va, vb] w fun e w' => ∃ A k c A' k' c', e = .returned (.tuple #[.agg #[.slice A k c, .slice A' k' c'], .int .i64 0]) ∧ RtP w' (.agg #[.slice A k c, .slice A' k' c']) (redP 3 1) ∧ Below w.heap.size w w' := by
 have h := simplest_F va vb (ratP 5 2) (ratP 7 2) w ha hb; rw [l5_sim2] at h; refine h.mono ?_; rintro e w' ⟨v, rfl, h, hb⟩; obtain ⟨A, k, c, A', k', c', rfl⟩ := h.shape; exact ⟨A, k, c, A', k', c', rfl, h, hb⟩
theorem RtP.rat5 {w : World} {v : Value} {p q : Nat} (h : RtP w v (ratP p q)) : Rat w v p q := by
 obtain ⟨A1, k1, c1, A2, k2, c2, rfl, h1, h2, e1, e2⟩ := h; exact ⟨_, _, _, _, _, _, rfl, ⟨e1, h1⟩, ⟨e2, h2⟩⟩
theorem Nb.digG (w : World) (d : Nat) (x : Int) (g : Nat) (hg : g = w.heap.size) (hx : x = (d : Int)) (h0 : 0 < d) (h : d < 4294967296) : Nb (w.alloc (.cells #[.int .u32 x] 59)) (some ⟨g, 0, none⟩) 1 1 d := by
 subst hg hx; exact Nb.dig w d h0 h
theorem four5 (w : World) (a b c d : Nat) (x y z u : Int) (hx : x = (a : Int)) (hy : y = (b : Int)) (hz : z = (c : Int)) (hu : u = (d : Int)) (ha : 0 < a ∧ a < 1000) (hb : 1 < b ∧ b < 1000) (hc : 0 < c ∧ c < 1000) (hd : 1 < d ∧ d < 1000) :
  RtP ((((w.alloc (.cells #[.int .u32 x] 59)).alloc (.cells #[.int .u32 y] 59)).alloc (.cells #[.int .u32 z] 59)).alloc (.cells #[.int .u32 u] 59)) (.agg #[.slice (some ⟨w.heap.size, 0, none⟩) 1 1, .slice (some ⟨w.heap.size + 1, 0, none⟩) 1 1]) (ratP a b) ∧
  RtP ((((w.alloc (.cells #[.int .u32 x] 59)).alloc (.cells #[.int .u32 y] 59)).alloc (.cells #[.int .u32 z] 59)).alloc (.cells #[.int .u32 u] 59)) (.agg #[.slice (some ⟨w.heap.size + 1 + 1, 0, none⟩) 1 1, .slice (some ⟨w.heap.size + 1 + 1 + 1, 0, none⟩) 1 1]) (ratP c d) := by
 have n1 := ((((Nb.digG w a x _ rfl hx ha.1 (by omega)).below (bA _ (.cells #[.int .u32 y] 59))).below (bA _ (.cells #[.int .u32 z] 59))).below (bA _ (.cells #[.int .u32 u] 59))); have n2 := (((Nb.digG (w.alloc (.cells #[.int .u32 x] 59)) b y (w.heap.size + 1) (by simp) hy (by omega) (by omega)).below (bA _ (.cells #[.int .u32 z] 59))).below (bA _ (.cells #[.int .u32 u] 59))); have n3 := ((Nb.digG ((w.alloc (.cells #[.int .u32 x] 59)).alloc (.cells #[.int .u32 y] 59)) c z (w.heap.size + 1 + 1) (by simp) hz hc.1 (by omega)).below (bA _ (.cells #[.int .u32 u] 59))); have n4 := (Nb.digG (((w.alloc (.cells #[.int .u32 x] 59)).alloc (.cells #[.int .u32 y] 59)).alloc (.cells #[.int .u32 z] 59)) d u (w.heap.size + 1 + 1 + 1) (by simp) hu (by omega) (by omega)); have e1 : Nm.dn b = b := Nm.dn_ne (by omega); have e2 : Nm.dn d = d := Nm.dn_ne (by omega); refine ⟨⟨_, _, _, _, _, _, rfl, n1.2, ?_, n1.1, ?_⟩, ⟨_, _, _, _, _, _, rfl, n3.2, ?_, n3.1, ?_⟩⟩
 ·show Lim _ _ _ (Nm.lb (Nm.dn b)); rw [e1]; exact n2.2
 ·show 1 = (Nm.lb (Nm.dn b)).length; rw [e1]; exact n2.1
 ·show Lim _ _ _ (Nm.lb (Nm.dn d)); rw [e2]; exact n4.2
 ·show 1 = (Nm.lb (Nm.dn d)).length; rw [e2]; exact n4.1
theorem pow_half_good : Nm.Good 1 4294967296 := good5 (by omega) (by omega) (by omega) (by decide)
theorem pow_5a (va : Value) (w : World) (ha : Rat w va 1 2) : Calls Tryd.prog 20 #[va, .int .i64 32] w fun e w' => ∃ A k c A' k' c', e = .returned (.tuple #[.agg #[.slice A k c, .slice A' k' c'], .int .i64 0]) ∧ Rat w' (.agg #[.slice A k c, .slice A' k' c']) 1 4294967296 ∧ Below w.heap.size w w' := by
 refine (power_G va 1 2 32 w ha g12 (by omega)).mono ?_; rintro e w' ⟨v, er, rfl, hp, hb⟩; obtain ⟨rfl, hr, _⟩ := pow_half hp; obtain ⟨A, k, c, A', k', c', rfl⟩ := hr.shape; exact ⟨A, k, c, A', k', c', rfl, hr, hb⟩
theorem pow_5b (va : Value) (w : World) (ha : RtP w va (redP 2 1)) : Calls Tryd.prog 20 #[va, .int .i64 2047] w fun e w' => ∃ A k c A' k' c', e = .returned (.tuple #[.agg #[.slice A k c, .slice A' k' c'], .int .i64 0]) ∧ Below w.heap.size w w' := by
 rw [redP_good g21] at ha; refine (power_G va 2 1 2047 w ha.rat5 g21 (by omega)).mono ?_; rintro e w' ⟨v, er, rfl, hp, hb⟩; obtain ⟨rfl, x, hr⟩ := pow_ok (Nat.le_refl _) hp; obtain ⟨A, k, c, A', k', c', rfl⟩ := hr.shape; exact ⟨A, k, c, A', k', c', rfl, hb⟩
theorem pow_5c (va : Value) (w : World) (ha : RtP w va (redP 2 1)) : Calls Tryd.prog 20 #[va, .int .i64 2048] w fun e w' => ∃ A k c A' k' c', e = .returned (.tuple #[.agg #[.slice A k c, .slice A' k' c'], .int .i64 4]) ∧ Below w.heap.size w w' := by
 rw [redP_good g21] at ha; refine (power_G va 2 1 2048 w ha.rat5 g21 (by omega)).mono ?_; rintro e w' ⟨v, er, rfl, hp, hb⟩; obtain ⟨rfl, x, hr⟩ := pow_big rfl hp; obtain ⟨A, k, c, A', k', c', rfl⟩ := hr.shape; exact ⟨A, k, c, A', k', c', rfl, hb⟩
theorem par_5a (w : World) : Calls Tryd.prog 54 #[.string { data := #[50, 47, 52] }] w fun e w' => ∃ A k c A' k' c', e = .returned (.tuple #[.agg #[.slice A k c, .slice A' k' c'], .int .i64 1]) ∧ Below w.heap.size w w' := by
 have h := parse_F { data := #[50, 47, 52] } w (by decide); rw [l5_parse1] at h; refine h.mono ?_; rintro e w' ⟨v, rfl, h, hb⟩; obtain ⟨A, k, c, A', k', c', rfl⟩ := h.shape; exact ⟨A, k, c, A', k', c', rfl, hb⟩
theorem par_5b (w : World) : Calls Tryd.prog 54 #[.string { data := #[48, 50] }] w fun e w' => ∃ A k c A' k' c', e = .returned (.tuple #[.agg #[.slice A k c, .slice A' k' c'], .int .i64 2]) ∧ Below w.heap.size w w' := by
 have h := parse_F { data := #[48, 50] } w (by decide); rw [l5_parse2] at h; refine h.mono ?_; rintro e w' ⟨v, rfl, h, hb⟩; obtain ⟨A, k, c, A', k', c', rfl⟩ := h.shape; exact ⟨A, k, c, A', k', c', rfl, hb⟩
theorem par_5c (w : World) : Calls Tryd.prog 54 #[.string { data := #[51, 47, 49] }] w fun e w' => ∃ A k c A' k' c', e = .returned (.tuple #[.agg #[.slice A k c, .slice A' k' c'], .int .i64 1]) ∧ Below w.heap.size w w' := by
 have h := parse_F { data := #[51, 47, 49] } w (by decide); rw [l5_parse3] at h; refine h.mono ?_; rintro e w' ⟨v, rfl, h, hb⟩; obtain ⟨A, k, c, A', k', c', rfl⟩ := h.shape; exact ⟨A, k, c, A', k', c', rfl, hb⟩
set_option maxRecDepth 10000 in
set_option maxHeartbeats 1000000 in
theorem is_5 (va : Value) (n d : Nat) (w : World) (hv : RtP w va (redP n d)) (hn : n ≤ 1000) (hd : 0 < d) (hd2 : d ≤ 1000) :
  Calls Tryd.prog 52 #[va, .int .i64 0, .int .i64 n, .int .i64 d] w fun e w' => e = .returned (.bool true) ∧ Below w.heap.size w w' := by
 obtain ⟨A1, k1, c1, A2, k2, c2, rfl⟩ := hv.shape
 go_enter Tryd.func52, Tryd.ntmps52
 go_upto_region 1 with fail; refine wp_name ?_; intro w1 HW1; have hb1 : Below w.heap.size w w1 := by rw [HW1.out]; exact bA _ _
 have hB1 : Blk w1 w.heap.size 28 #[.slice A1 k1 c1, .slice A2 k2 c2] := by rw [HW1.out]; exact Blk.new _ _ _
 obtain ⟨g, hg⟩ : ∃ g, Hid (g = w.heap.size) := ⟨_, rfl⟩; rw [← hg.out] at hB1 ⊢; have b0 := hB1.cell 0; have b1 := hB1.cell 1; simp only [List.getElem?_toArray, List.getElem?_cons_zero, List.getElem?_cons_succ] at b0 b1; have hv := hv.below hb1; clear HW1 hB1 hg; go_wp2_with fail; refine (rof_s n d _ (by omega) hd (by omega)).mono ?_; rintro e w2 ⟨C1, m1, d1, C2, m2, d2, rfl, hr, hb2⟩; have hr := hr.1.rtP; have hv := hv.below hb2; have b0 := cell_keep hb2 b0; have b1 := cell_keep hb2 b1; have hbw := Below.tr hb1 hb2; clear hb1 hb2; go_upto_region 2 with fail; refine wp_name ?_; intro w3 HW3; have hb3 : Below w2.heap.size w2 w3 := by rw [HW3.out]; exact bA _ _
 have hB3 : Blk w3 w2.heap.size 28 #[.slice C1 m1 d1, .slice C2 m2 d2] := by rw [HW3.out]; exact Blk.new _ _ _
 have p0 := hB3.cell 0; have p1 := hB3.cell 1; simp only [List.getElem?_toArray, List.getElem?_cons_zero, List.getElem?_cons_succ] at p0 p1; have hr := hr.below hb3; have hv := hv.below hb3; have b0 := cell_keep hb3 b0; have b1 := cell_keep hb3 b1; have hbw := Below.tr hbw hb3; clear HW3 hB3 hb3; go_wp2_with fail; refine (rsame_5 _ _ (redP n d) _ hv hr).mono ?_; rintro e w4 ⟨rfl, hb4⟩; go_wp2_with fail; go_ret; exact ⟨rfl, Below.tr hbw hb4⟩
end Go.Proofs.YtnjjdiilkhdbeaaDoor
namespace Go.Proofs.YtnjjdiilkhdbeaaDoor
open Go Go.RowKit
set_option maxRecDepth 100000 in
set_option maxHeartbeats 8000000 in
theorem lives5_n (w : World) : Calls Tryd.prog 16 #[] w fun e w' => e = .returned (.bool true) ∧ Below w.heap.size w w' := by
 go_enter Tryd.func16, Tryd.ntmps16
 have hbw : Below w.heap.size w w := Below.refl _ _; go_wp2_with fail; refine (of_5 6 4 _ (by omega) (by omega) (by omega)).mono ?_; rintro e w1 ⟨Sga, kga, cga, Rga, mga, dga, rfl, hga, hb⟩
 replace hbw := Below.tr hbw hb
 clear hb; go_upto_region 2 with fail; refine wp_name ?_; intro w2 HW; have hb : Below w1.heap.size w1 w2 := by rw [HW.out]; exact bA _ _
 have hB : Blk w2 w1.heap.size 28 #[.slice Sga kga cga, .slice Rga mga dga] := by rw [HW.out]; exact Blk.new _ _ _
 obtain ⟨ga, hg⟩ : ∃ g, Hid (g = w1.heap.size) := ⟨_, rfl⟩; rw [← hg.out] at hB ⊢
 replace hbw := Below.tr hbw hb
 replace hga := hga.below hb
 have ga0 := hB.cell 0; have ga1 := hB.cell 1; simp only [List.getElem?_toArray, List.getElem?_cons_zero, List.getElem?_cons_succ] at ga0 ga1; clear HW hB hg hb; go_wp2_with fail; refine (of_5 4 2 _ (by omega) (by omega) (by omega)).mono ?_; rintro e w3 ⟨Sgb, kgb, cgb, Rgb, mgb, dgb, rfl, hgb, hb⟩
 replace ga0 := cell_keep hb ga0
 replace ga1 := cell_keep hb ga1
 replace hga := hga.below hb
 replace hbw := Below.tr hbw hb
 clear hb; go_upto_region 3 with fail; refine wp_name ?_; intro w4 HW; have hb : Below w3.heap.size w3 w4 := by rw [HW.out]; exact bA _ _
 have hB : Blk w4 w3.heap.size 28 #[.slice Sgb kgb cgb, .slice Rgb mgb dgb] := by rw [HW.out]; exact Blk.new _ _ _
 obtain ⟨gb, hg⟩ : ∃ g, Hid (g = w3.heap.size) := ⟨_, rfl⟩; rw [← hg.out] at hB ⊢
 replace ga0 := cell_keep hb ga0
 replace ga1 := cell_keep hb ga1
 replace hga := hga.below hb
 replace hbw := Below.tr hbw hb
 replace hgb := hgb.below hb
 have gb0 := hB.cell 0; have gb1 := hB.cell 1; simp only [List.getElem?_toArray, List.getElem?_cons_zero, List.getElem?_cons_succ] at gb0 gb1; clear HW hB hg hb; go_wp2_with fail; refine (of_5 1 6 _ (by omega) (by omega) (by omega)).mono ?_; rintro e w5 ⟨Sgc, kgc, cgc, Rgc, mgc, dgc, rfl, hgc, hb⟩
 replace ga0 := cell_keep hb ga0
 replace ga1 := cell_keep hb ga1
 replace hga := hga.below hb
 replace gb0 := cell_keep hb gb0
 replace gb1 := cell_keep hb gb1
 replace hgb := hgb.below hb
 replace hbw := Below.tr hbw hb
 clear hb; go_upto_region 4 with fail; refine wp_name ?_; intro w6 HW; have hb : Below w5.heap.size w5 w6 := by rw [HW.out]; exact bA _ _
 have hB : Blk w6 w5.heap.size 28 #[.slice Sgc kgc cgc, .slice Rgc mgc dgc] := by rw [HW.out]; exact Blk.new _ _ _
 obtain ⟨gc, hg⟩ : ∃ g, Hid (g = w5.heap.size) := ⟨_, rfl⟩; rw [← hg.out] at hB ⊢
 replace ga0 := cell_keep hb ga0
 replace ga1 := cell_keep hb ga1
 replace hga := hga.below hb
 replace gb0 := cell_keep hb gb0
 replace gb1 := cell_keep hb gb1
 replace hgb := hgb.below hb
 replace hbw := Below.tr hbw hb
 replace hgc := hgc.below hb
 have gc0 := hB.cell 0; have gc1 := hB.cell 1; simp only [List.getElem?_toArray, List.getElem?_cons_zero, List.getElem?_cons_succ] at gc0 gc1; clear HW hB hg hb; go_wp2_with fail; refine (of_5 1 10 _ (by omega) (by omega) (by omega)).mono ?_; rintro e w7 ⟨Sgd, kgd, cgd, Rgd, mgd, dgd, rfl, hgd, hb⟩
 replace ga0 := cell_keep hb ga0
 replace ga1 := cell_keep hb ga1
 replace hga := hga.below hb
 replace gb0 := cell_keep hb gb0
 replace gb1 := cell_keep hb gb1
 replace hgb := hgb.below hb
 replace gc0 := cell_keep hb gc0
 replace gc1 := cell_keep hb gc1
 replace hgc := hgc.below hb
 replace hbw := Below.tr hbw hb
 clear hb; go_upto_region 5 with fail; refine wp_name ?_; intro w8 HW; have hb : Below w7.heap.size w7 w8 := by rw [HW.out]; exact bA _ _
 have hB : Blk w8 w7.heap.size 28 #[.slice Sgd kgd cgd, .slice Rgd mgd dgd] := by rw [HW.out]; exact Blk.new _ _ _
 obtain ⟨gd, hg⟩ : ∃ g, Hid (g = w7.heap.size) := ⟨_, rfl⟩; rw [← hg.out] at hB ⊢
 replace ga0 := cell_keep hb ga0
 replace ga1 := cell_keep hb ga1
 replace hga := hga.below hb
 replace gb0 := cell_keep hb gb0
 replace gb1 := cell_keep hb gb1
 replace hgb := hgb.below hb
 replace gc0 := cell_keep hb gc0
 replace gc1 := cell_keep hb gc1
 replace hgc := hgc.below hb
 replace hbw := Below.tr hbw hb
 replace hgd := hgd.below hb
 have gd0 := hB.cell 0; have gd1 := hB.cell 1; simp only [List.getElem?_toArray, List.getElem?_cons_zero, List.getElem?_cons_succ] at gd0 gd1; clear HW hB hg hb; rw [l5_half] at hga; rw [l5_two] at hgb; go_wp2_with fail; refine (add_5 _ _ _ hgc hgd).mono ?_; rintro e w9 ⟨Sge, kge, cge, Rge, mge, dge, rfl, hge, hb⟩
 replace ga0 := cell_keep hb ga0
 replace ga1 := cell_keep hb ga1
 replace hga := hga.below hb
 replace gb0 := cell_keep hb gb0
 replace gb1 := cell_keep hb gb1
 replace hgb := hgb.below hb
 replace gc0 := cell_keep hb gc0
 replace gc1 := cell_keep hb gc1
 replace hgc := hgc.below hb
 replace gd0 := cell_keep hb gd0
 replace gd1 := cell_keep hb gd1
 replace hgd := hgd.below hb
 replace hbw := Below.tr hbw hb
 clear hb; go_upto_region 6 with fail; refine wp_name ?_; intro w10 HW; have hb : Below w9.heap.size w9 w10 := by rw [HW.out]; exact bA _ _
 have hB : Blk w10 w9.heap.size 28 #[.slice Sge kge cge, .slice Rge mge dge] := by rw [HW.out]; exact Blk.new _ _ _
 obtain ⟨ge, hg⟩ : ∃ g, Hid (g = w9.heap.size) := ⟨_, rfl⟩; rw [← hg.out] at hB ⊢
 replace ga0 := cell_keep hb ga0
 replace ga1 := cell_keep hb ga1
 replace hga := hga.below hb
 replace gb0 := cell_keep hb gb0
 replace gb1 := cell_keep hb gb1
 replace hgb := hgb.below hb
 replace gc0 := cell_keep hb gc0
 replace gc1 := cell_keep hb gc1
 replace hgc := hgc.below hb
 replace gd0 := cell_keep hb gd0
 replace gd1 := cell_keep hb gd1
 replace hgd := hgd.below hb
 replace hbw := Below.tr hbw hb
 replace hge := hge.below hb
 have ge0 := hB.cell 0; have ge1 := hB.cell 1; simp only [List.getElem?_toArray, List.getElem?_cons_zero, List.getElem?_cons_succ] at ge0 ge1; clear HW hB hg hb; go_wp2_with fail; refine (sub_5 _ _ _ hgc hgd).mono ?_; rintro e w11 ⟨Sgf, kgf, cgf, Rgf, mgf, dgf, rfl, hgf, hb⟩
 replace ga0 := cell_keep hb ga0
 replace ga1 := cell_keep hb ga1
 replace hga := hga.below hb
 replace gb0 := cell_keep hb gb0
 replace gb1 := cell_keep hb gb1
 replace hgb := hgb.below hb
 replace gc0 := cell_keep hb gc0
 replace gc1 := cell_keep hb gc1
 replace hgc := hgc.below hb
 replace gd0 := cell_keep hb gd0
 replace gd1 := cell_keep hb gd1
 replace hgd := hgd.below hb
 replace ge0 := cell_keep hb ge0
 replace ge1 := cell_keep hb ge1
 replace hge := hge.below hb
 replace hbw := Below.tr hbw hb
 clear hb; go_upto_region 7 with fail; refine wp_name ?_; intro w12 HW; have hb : Below w11.heap.size w11 w12 := by rw [HW.out]; exact bA _ _
 have hB : Blk w12 w11.heap.size 28 #[.slice Sgf kgf cgf, .slice Rgf mgf dgf] := by rw [HW.out]; exact Blk.new _ _ _
 obtain ⟨gf, hg⟩ : ∃ g, Hid (g = w11.heap.size) := ⟨_, rfl⟩; rw [← hg.out] at hB ⊢
 replace ga0 := cell_keep hb ga0
 replace ga1 := cell_keep hb ga1
 replace hga := hga.below hb
 replace gb0 := cell_keep hb gb0
 replace gb1 := cell_keep hb gb1
 replace hgb := hgb.below hb
 replace gc0 := cell_keep hb gc0
 replace gc1 := cell_keep hb gc1
 replace hgc := hgc.below hb
 replace gd0 := cell_keep hb gd0
 replace gd1 := cell_keep hb gd1
 replace hgd := hgd.below hb
 replace ge0 := cell_keep hb ge0
 replace ge1 := cell_keep hb ge1
 replace hge := hge.below hb
 replace hbw := Below.tr hbw hb
 replace hgf := hgf.below hb
 have gf0 := hB.cell 0; have gf1 := hB.cell 1; simp only [List.getElem?_toArray, List.getElem?_cons_zero, List.getElem?_cons_succ] at gf0 gf1; clear HW hB hg hb; go_wp2_with fail; refine (less_5 _ _ _ hgd hgc).mono ?_; rintro e w13 ⟨Sgg, kgg, cgg, Rgg, mgg, dgg, rfl, hgg, hb⟩
 replace ga0 := cell_keep hb ga0
 replace ga1 := cell_keep hb ga1
 replace hga := hga.below hb
 replace gb0 := cell_keep hb gb0
 replace gb1 := cell_keep hb gb1
 replace hgb := hgb.below hb
 replace gc0 := cell_keep hb gc0
 replace gc1 := cell_keep hb gc1
 replace hgc := hgc.below hb
 replace gd0 := cell_keep hb gd0
 replace gd1 := cell_keep hb gd1
 replace hgd := hgd.below hb
 replace ge0 := cell_keep hb ge0
 replace ge1 := cell_keep hb ge1
 replace hge := hge.below hb
 replace gf0 := cell_keep hb gf0
 replace gf1 := cell_keep hb gf1
 replace hgf := hgf.below hb
 replace hbw := Below.tr hbw hb
 clear hb; go_upto_region 8 with fail; refine wp_name ?_; intro w14 HW; have hb : Below w13.heap.size w13 w14 := by rw [HW.out]; exact bA _ _
 have hB : Blk w14 w13.heap.size 28 #[.slice Sgg kgg cgg, .slice Rgg mgg dgg] := by rw [HW.out]; exact Blk.new _ _ _
 obtain ⟨gg, hg⟩ : ∃ g, Hid (g = w13.heap.size) := ⟨_, rfl⟩; rw [← hg.out] at hB ⊢
 replace ga0 := cell_keep hb ga0
 replace ga1 := cell_keep hb ga1
 replace hga := hga.below hb
 replace gb0 := cell_keep hb gb0
 replace gb1 := cell_keep hb gb1
 replace hgb := hgb.below hb
 replace gc0 := cell_keep hb gc0
 replace gc1 := cell_keep hb gc1
 replace hgc := hgc.below hb
 replace gd0 := cell_keep hb gd0
 replace gd1 := cell_keep hb gd1
 replace hgd := hgd.below hb
 replace ge0 := cell_keep hb ge0
 replace ge1 := cell_keep hb ge1
 replace hge := hge.below hb
 replace gf0 := cell_keep hb gf0
 replace gf1 := cell_keep hb gf1
 replace hgf := hgf.below hb
 replace hbw := Below.tr hbw hb
 replace hgg := hgg.below hb
 have gg0 := hB.cell 0; have gg1 := hB.cell 1; simp only [List.getElem?_toArray, List.getElem?_cons_zero, List.getElem?_cons_succ] at gg0 gg1; clear HW hB hg hb; go_wp2_with fail; refine (div_5 _ _ _ hgb (nil_rtP _)).mono ?_; rintro e w15 ⟨Sgh, kgh, cgh, Rgh, mgh, dgh, rfl, hgh, hb⟩
 replace ga0 := cell_keep hb ga0
 replace ga1 := cell_keep hb ga1
 replace hga := hga.below hb
 replace gb0 := cell_keep hb gb0
 replace gb1 := cell_keep hb gb1
 replace hgb := hgb.below hb
 replace gc0 := cell_keep hb gc0
 replace gc1 := cell_keep hb gc1
 replace hgc := hgc.below hb
 replace gd0 := cell_keep hb gd0
 replace gd1 := cell_keep hb gd1
 replace hgd := hgd.below hb
 replace ge0 := cell_keep hb ge0
 replace ge1 := cell_keep hb ge1
 replace hge := hge.below hb
 replace gf0 := cell_keep hb gf0
 replace gf1 := cell_keep hb gf1
 replace hgf := hgf.below hb
 replace gg0 := cell_keep hb gg0
 replace gg1 := cell_keep hb gg1
 replace hgg := hgg.below hb
 replace hbw := Below.tr hbw hb
 clear hb; go_upto_region 9 with fail; refine wp_name ?_; intro w16 HW; have hb : Below w15.heap.size w15 w16 := by rw [HW.out]; exact bA _ _
 have hB : Blk w16 w15.heap.size 28 #[.slice Sgh kgh cgh, .slice Rgh mgh dgh] := by rw [HW.out]; exact Blk.new _ _ _
 obtain ⟨gh, hg⟩ : ∃ g, Hid (g = w15.heap.size) := ⟨_, rfl⟩; rw [← hg.out] at hB ⊢
 replace ga0 := cell_keep hb ga0
 replace ga1 := cell_keep hb ga1
 replace hga := hga.below hb
 replace gb0 := cell_keep hb gb0
 replace gb1 := cell_keep hb gb1
 replace hgb := hgb.below hb
 replace gc0 := cell_keep hb gc0
 replace gc1 := cell_keep hb gc1
 replace hgc := hgc.below hb
 replace gd0 := cell_keep hb gd0
 replace gd1 := cell_keep hb gd1
 replace hgd := hgd.below hb
 replace ge0 := cell_keep hb ge0
 replace ge1 := cell_keep hb ge1
 replace hge := hge.below hb
 replace gf0 := cell_keep hb gf0
 replace gf1 := cell_keep hb gf1
 replace hgf := hgf.below hb
 replace gg0 := cell_keep hb gg0
 replace gg1 := cell_keep hb gg1
 replace hgg := hgg.below hb
 replace hbw := Below.tr hbw hb
 replace hgh := hgh.below hb
 have gh0 := hB.cell 0; have gh1 := hB.cell 1; simp only [List.getElem?_toArray, List.getElem?_cons_zero, List.getElem?_cons_succ] at gh0 gh1; clear HW hB hg hb
 have hm0 : mgb = 0 := by
  obtain ⟨_, _, _, _, _, _, e1, _, _, _, e2⟩ := hgb; simp only [Value.agg.injEq, Array.mk.injEq, List.cons.injEq, and_true, Value.slice.injEq] at e1; obtain ⟨_, _, h, _⟩ := e1; rw [h, e2, l5_den]; rfl
 subst hm0; go_wp2_with fail; refine (is_5 _ 3 2 _ hga (by omega) (by omega) (by omega)).mono ?_; rintro e w17 ⟨rfl, hb⟩
 replace ga0 := cell_keep hb ga0
 replace ga1 := cell_keep hb ga1
 replace hga := hga.below hb
 replace gb0 := cell_keep hb gb0
 replace gb1 := cell_keep hb gb1
 replace hgb := hgb.below hb
 replace gc0 := cell_keep hb gc0
 replace gc1 := cell_keep hb gc1
 replace hgc := hgc.below hb
 replace gd0 := cell_keep hb gd0
 replace gd1 := cell_keep hb gd1
 replace hgd := hgd.below hb
 replace ge0 := cell_keep hb ge0
 replace ge1 := cell_keep hb ge1
 replace hge := hge.below hb
 replace gf0 := cell_keep hb gf0
 replace gf1 := cell_keep hb gf1
 replace hgf := hgf.below hb
 replace gg0 := cell_keep hb gg0
 replace gg1 := cell_keep hb gg1
 replace hgg := hgg.below hb
 replace gh0 := cell_keep hb gh0
 replace gh1 := cell_keep hb gh1
 replace hgh := hgh.below hb
 replace hbw := Below.tr hbw hb
 clear hb; go_wp2_with fail; refine (is_5 _ 2 1 _ hgb (by omega) (by omega) (by omega)).mono ?_; rintro e w18 ⟨rfl, hb⟩
 replace ga0 := cell_keep hb ga0
 replace ga1 := cell_keep hb ga1
 replace hga := hga.below hb
 replace gb0 := cell_keep hb gb0
 replace gb1 := cell_keep hb gb1
 replace hgb := hgb.below hb
 replace gc0 := cell_keep hb gc0
 replace gc1 := cell_keep hb gc1
 replace hgc := hgc.below hb
 replace gd0 := cell_keep hb gd0
 replace gd1 := cell_keep hb gd1
 replace hgd := hgd.below hb
 replace ge0 := cell_keep hb ge0
 replace ge1 := cell_keep hb ge1
 replace hge := hge.below hb
 replace gf0 := cell_keep hb gf0
 replace gf1 := cell_keep hb gf1
 replace hgf := hgf.below hb
 replace gg0 := cell_keep hb gg0
 replace gg1 := cell_keep hb gg1
 replace hgg := hgg.below hb
 replace gh0 := cell_keep hb gh0
 replace gh1 := cell_keep hb gh1
 replace hgh := hgh.below hb
 replace hbw := Below.tr hbw hb
 clear hb; go_wp2_with fail; refine (is_5 _ 4 15 _ hge (by omega) (by omega) (by omega)).mono ?_; rintro e w19 ⟨rfl, hb⟩
 replace ga0 := cell_keep hb ga0
 replace ga1 := cell_keep hb ga1
 replace hga := hga.below hb
 replace gb0 := cell_keep hb gb0
 replace gb1 := cell_keep hb gb1
 replace hgb := hgb.below hb
 replace gc0 := cell_keep hb gc0
 replace gc1 := cell_keep hb gc1
 replace hgc := hgc.below hb
 replace gd0 := cell_keep hb gd0
 replace gd1 := cell_keep hb gd1
 replace hgd := hgd.below hb
 replace ge0 := cell_keep hb ge0
 replace ge1 := cell_keep hb ge1
 replace hge := hge.below hb
 replace gf0 := cell_keep hb gf0
 replace gf1 := cell_keep hb gf1
 replace hgf := hgf.below hb
 replace gg0 := cell_keep hb gg0
 replace gg1 := cell_keep hb gg1
 replace hgg := hgg.below hb
 replace gh0 := cell_keep hb gh0
 replace gh1 := cell_keep hb gh1
 replace hgh := hgh.below hb
 replace hbw := Below.tr hbw hb
 clear hb; go_wp2_with fail; refine (is_5 _ 1 15 _ hgf (by omega) (by omega) (by omega)).mono ?_; rintro e w20 ⟨rfl, hb⟩
 replace ga0 := cell_keep hb ga0
 replace ga1 := cell_keep hb ga1
 replace hga := hga.below hb
 replace gb0 := cell_keep hb gb0
 replace gb1 := cell_keep hb gb1
 replace hgb := hgb.below hb
 replace gc0 := cell_keep hb gc0
 replace gc1 := cell_keep hb gc1
 replace hgc := hgc.below hb
 replace gd0 := cell_keep hb gd0
 replace gd1 := cell_keep hb gd1
 replace hgd := hgd.below hb
 replace ge0 := cell_keep hb ge0
 replace ge1 := cell_keep hb ge1
 replace hge := hge.below hb
 replace gf0 := cell_keep hb gf0
 replace gf1 := cell_keep hb gf1
 replace hgf := hgf.below hb
 replace gg0 := cell_keep hb gg0
 replace gg1 := cell_keep hb gg1
 replace hgg := hgg.below hb
 replace gh0 := cell_keep hb gh0
 replace gh1 := cell_keep hb gh1
 replace hgh := hgh.below hb
 replace hbw := Below.tr hbw hb
 clear hb; go_upto_region 12 with fail; refine wp_name ?_; intro w21 HW; have hb : Below w20.heap.size w20 w21 := by rw [HW.out]; exact Below.tr (Below.tr (bA _ _) (bA _ _)) (bA _ _)
 have hn1 : Nb w21 (some ⟨w20.heap.size, 0, none⟩) 1 1 1 := by rw [HW.out]; exact ((Nb.digG w20 1 1 _ rfl rfl (by omega) (by omega)).below (bA _ _)).below (bA _ _)
 have hn2 : Nb w21 (some ⟨w20.heap.size + 1, 0, none⟩) 1 1 2 := by rw [HW.out]; exact (Nb.digG _ 2 2 _ (by simp) rfl (by omega) (by omega)).below (bA _ _)
 have hB : Blk w21 (w20.heap.size + 1 + 1) 28 #[.slice (some ⟨w20.heap.size, 0, none⟩) 1 1, .slice (some ⟨w20.heap.size + 1, 0, none⟩) 1 1] := by rw [HW.out]; exact Blk.newH (by simp)
 have hhf : Rat w21 (.agg #[.slice (some ⟨w20.heap.size, 0, none⟩) 1 1, .slice (some ⟨w20.heap.size + 1, 0, none⟩) 1 1]) 1 2 := ⟨_, _, _, _, _, _, rfl, hn1, by rw [Nm.dn_ne (by omega)]; exact hn2⟩; obtain ⟨h1a, hh1⟩ : ∃ g, Hid (g = w20.heap.size) := ⟨_, rfl⟩; obtain ⟨h2a, hh2⟩ : ∃ g, Hid (g = w20.heap.size + 1) := ⟨_, rfl⟩; obtain ⟨gi, hgi⟩ : ∃ g, Hid (g = w20.heap.size + 1 + 1) := ⟨_, rfl⟩; rw [← hgi.out] at hB ⊢; rw [← hh2.out] at hB hhf ⊢; rw [← hh1.out] at hB hhf ⊢
 replace ga0 := cell_keep hb ga0
 replace ga1 := cell_keep hb ga1
 replace hga := hga.below hb
 replace gb0 := cell_keep hb gb0
 replace gb1 := cell_keep hb gb1
 replace hgb := hgb.below hb
 replace gc0 := cell_keep hb gc0
 replace gc1 := cell_keep hb gc1
 replace hgc := hgc.below hb
 replace gd0 := cell_keep hb gd0
 replace gd1 := cell_keep hb gd1
 replace hgd := hgd.below hb
 replace ge0 := cell_keep hb ge0
 replace ge1 := cell_keep hb ge1
 replace hge := hge.below hb
 replace gf0 := cell_keep hb gf0
 replace gf1 := cell_keep hb gf1
 replace hgf := hgf.below hb
 replace gg0 := cell_keep hb gg0
 replace gg1 := cell_keep hb gg1
 replace hgg := hgg.below hb
 replace gh0 := cell_keep hb gh0
 replace gh1 := cell_keep hb gh1
 replace hgh := hgh.below hb
 replace hbw := Below.tr hbw hb
 have gi0 := hB.cell 0; have gi1 := hB.cell 1; simp only [List.getElem?_toArray, List.getElem?_cons_zero, List.getElem?_cons_succ] at gi0 gi1; clear HW hn1 hn2 hB hh1 hh2 hgi hb; clear ga0 ga1 hga gc0 gc1 hgc gd0 gd1 hgd ge0 ge1 hge gf0 gf1 hgf gg0 gg1 hgg gh0 gh1 hgh; go_wp2_with fail; refine (pow_5a _ _ hhf).mono ?_; rintro e w22 ⟨Sgj, kgj, cgj, Rgj, mgj, dgj, rfl, hgj, hb⟩
 replace gb0 := cell_keep hb gb0
 replace gb1 := cell_keep hb gb1
 replace hgb := hgb.below hb
 replace hbw := Below.tr hbw hb
 clear hb; go_upto_region 13 with fail; refine wp_name ?_; intro w23 HW; have hb : Below w22.heap.size w22 w23 := by rw [HW.out]; exact bA _ _
 have hB : Blk w23 w22.heap.size 28 #[.slice Sgj kgj cgj, .slice Rgj mgj dgj] := by rw [HW.out]; exact Blk.new _ _ _
 obtain ⟨gj, hg⟩ : ∃ g, Hid (g = w22.heap.size) := ⟨_, rfl⟩; rw [← hg.out] at hB ⊢
 replace gb0 := cell_keep hb gb0
 replace gb1 := cell_keep hb gb1
 replace hgb := hgb.below hb
 replace hbw := Below.tr hbw hb
 replace hgj := hgj.below hb
 have gj0 := hB.cell 0; have gj1 := hB.cell 1; simp only [List.getElem?_toArray, List.getElem?_cons_zero, List.getElem?_cons_succ] at gj0 gj1; clear HW hB hg hb; clear gi0 gi1 hhf; go_wp2_with fail; refine (pow_5b _ _ hgb).mono ?_; rintro e w24 ⟨Sgk, kgk, cgk, Rgk, mgk, dgk, rfl, hb⟩
 replace gb0 := cell_keep hb gb0
 replace gb1 := cell_keep hb gb1
 replace hgb := hgb.below hb
 replace gj0 := cell_keep hb gj0
 replace gj1 := cell_keep hb gj1
 replace hgj := hgj.below hb
 replace hbw := Below.tr hbw hb
 clear hb; go_upto_region 14 with fail; refine wp_name ?_; intro w25 HW; have hb : Below w24.heap.size w24 w25 := by rw [HW.out]; exact bA _ _
 have hB : Blk w25 w24.heap.size 28 #[.slice Sgk kgk cgk, .slice Rgk mgk dgk] := by rw [HW.out]; exact Blk.new _ _ _
 obtain ⟨gk, hg⟩ : ∃ g, Hid (g = w24.heap.size) := ⟨_, rfl⟩; rw [← hg.out] at hB ⊢
 replace gb0 := cell_keep hb gb0
 replace gb1 := cell_keep hb gb1
 replace hgb := hgb.below hb
 replace gj0 := cell_keep hb gj0
 replace gj1 := cell_keep hb gj1
 replace hgj := hgj.below hb
 replace hbw := Below.tr hbw hb
 have gk0 := hB.cell 0; have gk1 := hB.cell 1; simp only [List.getElem?_toArray, List.getElem?_cons_zero, List.getElem?_cons_succ] at gk0 gk1; clear HW hB hg hb; go_wp2_with fail; refine (pow_5c _ _ hgb).mono ?_; rintro e w26 ⟨Sgl, kgl, cgl, Rgl, mgl, dgl, rfl, hb⟩
 replace gb0 := cell_keep hb gb0
 replace gb1 := cell_keep hb gb1
 replace hgb := hgb.below hb
 replace gj0 := cell_keep hb gj0
 replace gj1 := cell_keep hb gj1
 replace hgj := hgj.below hb
 replace gk0 := cell_keep hb gk0
 replace gk1 := cell_keep hb gk1
 replace hbw := Below.tr hbw hb
 clear hb; go_upto_region 15 with fail; refine wp_name ?_; intro w27 HW; have hb : Below w26.heap.size w26 w27 := by rw [HW.out]; exact bA _ _
 have hB : Blk w27 w26.heap.size 28 #[.slice Sgl kgl cgl, .slice Rgl mgl dgl] := by rw [HW.out]; exact Blk.new _ _ _
 obtain ⟨gl, hg⟩ : ∃ g, Hid (g = w26.heap.size) := ⟨_, rfl⟩; rw [← hg.out] at hB ⊢
 replace gb0 := cell_keep hb gb0
 replace gb1 := cell_keep hb gb1
 replace hgb := hgb.below hb
 replace gj0 := cell_keep hb gj0
 replace gj1 := cell_keep hb gj1
 replace hgj := hgj.below hb
 replace gk0 := cell_keep hb gk0
 replace gk1 := cell_keep hb gk1
 replace hbw := Below.tr hbw hb
 have gl0 := hB.cell 0; have gl1 := hB.cell 1; simp only [List.getElem?_toArray, List.getElem?_cons_zero, List.getElem?_cons_succ] at gl0 gl1; clear HW hB hg hb; clear gk0 gk1 gl0 gl1 gb0 gb1 hgb; have gp := (pow_half_good); go_wp2_with fail; refine (print_v _ 1 4294967296 _ hgj gp).mono ?_; rintro e w28 ⟨rfl, hb⟩
 replace gj0 := cell_keep hb gj0
 replace gj1 := cell_keep hb gj1
 replace hgj := hgj.below hb
 replace hbw := Below.tr hbw hb
 clear hb; rw [l5_print]; have hbA := bA w28 (.cells #[.int .u32 0, .int .u32 1] 59); have hl1 := ((hgj.nb.2).below hbA).2; have hk1 := (hgj.nb.2).1; rw [l5_limbs] at hl1 hk1; have hl2 : Lim (w28.alloc (.cells #[.int .u32 0, .int .u32 1] 59)) (some ⟨w28.heap.size, 0, none⟩) 2 [0, 1] := (show Row _ w28.heap.size [0, 1] from ⟨Blk.new _ _ _, fun x hx => by simp at hx; unfold Nm.B; omega⟩).lim (by simp) (by omega); have hbw := Below.tr hbw hbA; go_wp2_with fail; refine (samel_any _ _ 2 _ 2 _ [0, 1] [0, 1] _ hl1 hl2 rfl rfl).mono ?_; rintro e w29 ⟨b, rfl, HB, hb⟩; have hbt : b = true := by rw [HB.out]; exact sameB_refl _
 subst hbt
 replace hbw := Below.tr hbw hb
 clear hb HB hl1 hl2 hk1 hbA gj0 gj1 hgj gp; obtain ⟨q1, q2⟩ := four5 w29 1 3 3 7 1 3 3 7 rfl rfl rfl rfl (by omega) (by omega) (by omega) (by omega); have hb4 : Below w29.heap.size w29 ((((w29.alloc (.cells #[.int .u32 1] 59)).alloc (.cells #[.int .u32 3] 59)).alloc (.cells #[.int .u32 3] 59)).alloc (.cells #[.int .u32 7] 59)) := Below.tr (Below.tr (Below.tr (bA _ _) (bA _ _)) (bA _ _)) (bA _ _)
 replace hbw := Below.tr hbw hb4
 go_wp2_with fail; refine (sim_5a _ _ _ q1 q2).mono ?_; rintro e w30 ⟨Sgm, kgm, cgm, Rgm, mgm, dgm, rfl, hgm, hb⟩
 replace hbw := Below.tr hbw hb
 clear hb hb4 q1 q2; go_upto_region 19 with fail; refine wp_name ?_; intro w31 HW; have hb : Below w30.heap.size w30 w31 := by rw [HW.out]; exact bA _ _
 have hB : Blk w31 w30.heap.size 28 #[.slice Sgm kgm cgm, .slice Rgm mgm dgm] := by rw [HW.out]; exact Blk.new _ _ _
 obtain ⟨gm, hg⟩ : ∃ g, Hid (g = w30.heap.size) := ⟨_, rfl⟩; rw [← hg.out] at hB ⊢
 replace hbw := Below.tr hbw hb
 replace hgm := hgm.below hb
 have gm0 := hB.cell 0; have gm1 := hB.cell 1; simp only [List.getElem?_toArray, List.getElem?_cons_zero, List.getElem?_cons_succ] at gm0 gm1; clear HW hB hg hb; obtain ⟨q1, q2⟩ := four5 w31 5 2 7 2 5 2 7 2 rfl rfl rfl rfl (by omega) (by omega) (by omega) (by omega); have hb4 : Below w31.heap.size w31 ((((w31.alloc (.cells #[.int .u32 5] 59)).alloc (.cells #[.int .u32 2] 59)).alloc (.cells #[.int .u32 7] 59)).alloc (.cells #[.int .u32 2] 59)) := Below.tr (Below.tr (Below.tr (bA _ _) (bA _ _)) (bA _ _)) (bA _ _)
 replace gm0 := cell_keep hb4 gm0
 replace gm1 := cell_keep hb4 gm1
 replace hgm := hgm.below hb4
 replace hbw := Below.tr hbw hb4
 go_wp2_with fail; refine (sim_5b _ _ _ q1 q2).mono ?_; rintro e w32 ⟨Sgn, kgn, cgn, Rgn, mgn, dgn, rfl, hgn, hb⟩
 replace gm0 := cell_keep hb gm0
 replace gm1 := cell_keep hb gm1
 replace hgm := hgm.below hb
 replace hbw := Below.tr hbw hb
 clear hb hb4 q1 q2; go_upto_region 20 with fail; refine wp_name ?_; intro w33 HW; have hb : Below w32.heap.size w32 w33 := by rw [HW.out]; exact bA _ _
 have hB : Blk w33 w32.heap.size 28 #[.slice Sgn kgn cgn, .slice Rgn mgn dgn] := by rw [HW.out]; exact Blk.new _ _ _
 obtain ⟨gn, hg⟩ : ∃ g, Hid (g = w32.heap.size) := ⟨_, rfl⟩; rw [← hg.out] at hB ⊢
 replace gm0 := cell_keep hb gm0
 replace gm1 := cell_keep hb gm1
 replace hgm := hgm.below hb
 replace hbw := Below.tr hbw hb
 replace hgn := hgn.below hb
 have gn0 := hB.cell 0; have gn1 := hB.cell 1; simp only [List.getElem?_toArray, List.getElem?_cons_zero, List.getElem?_cons_succ] at gn0 gn1; clear HW hB hg hb; go_wp2_with fail; refine (par_5a _).mono ?_; rintro e w34 ⟨Sgo, kgo, cgo, Rgo, mgo, dgo, rfl, hb⟩
 replace gm0 := cell_keep hb gm0
 replace gm1 := cell_keep hb gm1
 replace hgm := hgm.below hb
 replace gn0 := cell_keep hb gn0
 replace gn1 := cell_keep hb gn1
 replace hgn := hgn.below hb
 replace hbw := Below.tr hbw hb
 clear hb; go_upto_region 21 with fail; refine wp_name ?_; intro w35 HW; have hb : Below w34.heap.size w34 w35 := by rw [HW.out]; exact bA _ _
 have hB : Blk w35 w34.heap.size 28 #[.slice Sgo kgo cgo, .slice Rgo mgo dgo] := by rw [HW.out]; exact Blk.new _ _ _
 obtain ⟨go, hg⟩ : ∃ g, Hid (g = w34.heap.size) := ⟨_, rfl⟩; rw [← hg.out] at hB ⊢
 replace gm0 := cell_keep hb gm0
 replace gm1 := cell_keep hb gm1
 replace hgm := hgm.below hb
 replace gn0 := cell_keep hb gn0
 replace gn1 := cell_keep hb gn1
 replace hgn := hgn.below hb
 replace hbw := Below.tr hbw hb
 have go0 := hB.cell 0; have go1 := hB.cell 1; simp only [List.getElem?_toArray, List.getElem?_cons_zero, List.getElem?_cons_succ] at go0 go1; clear HW hB hg hb; go_wp2_with fail; refine (par_5b _).mono ?_; rintro e w36 ⟨Sgp, kgp, cgp, Rgp, mgp, dgp, rfl, hb⟩
 replace gm0 := cell_keep hb gm0
 replace gm1 := cell_keep hb gm1
 replace hgm := hgm.below hb
 replace gn0 := cell_keep hb gn0
 replace gn1 := cell_keep hb gn1
 replace hgn := hgn.below hb
 replace hbw := Below.tr hbw hb
 clear hb; go_upto_region 22 with fail; refine wp_name ?_; intro w37 HW; have hb : Below w36.heap.size w36 w37 := by rw [HW.out]; exact bA _ _
 have hB : Blk w37 w36.heap.size 28 #[.slice Sgp kgp cgp, .slice Rgp mgp dgp] := by rw [HW.out]; exact Blk.new _ _ _
 obtain ⟨gp, hg⟩ : ∃ g, Hid (g = w36.heap.size) := ⟨_, rfl⟩; rw [← hg.out] at hB ⊢
 replace gm0 := cell_keep hb gm0
 replace gm1 := cell_keep hb gm1
 replace hgm := hgm.below hb
 replace gn0 := cell_keep hb gn0
 replace gn1 := cell_keep hb gn1
 replace hgn := hgn.below hb
 replace hbw := Below.tr hbw hb
 have gp0 := hB.cell 0; have gp1 := hB.cell 1; simp only [List.getElem?_toArray, List.getElem?_cons_zero, List.getElem?_cons_succ] at gp0 gp1; clear HW hB hg hb; go_wp2_with fail; refine (par_5c _).mono ?_; rintro e w38 ⟨Sgq, kgq, cgq, Rgq, mgq, dgq, rfl, hb⟩
 replace gm0 := cell_keep hb gm0
 replace gm1 := cell_keep hb gm1
 replace hgm := hgm.below hb
 replace gn0 := cell_keep hb gn0
 replace gn1 := cell_keep hb gn1
 replace hgn := hgn.below hb
 replace hbw := Below.tr hbw hb
 clear hb; go_upto_region 23 with fail; refine wp_name ?_; intro w39 HW; have hb : Below w38.heap.size w38 w39 := by rw [HW.out]; exact bA _ _
 have hB : Blk w39 w38.heap.size 28 #[.slice Sgq kgq cgq, .slice Rgq mgq dgq] := by rw [HW.out]; exact Blk.new _ _ _
 obtain ⟨gq, hg⟩ : ∃ g, Hid (g = w38.heap.size) := ⟨_, rfl⟩; rw [← hg.out] at hB ⊢
 replace gm0 := cell_keep hb gm0
 replace gm1 := cell_keep hb gm1
 replace hgm := hgm.below hb
 replace gn0 := cell_keep hb gn0
 replace gn1 := cell_keep hb gn1
 replace hgn := hgn.below hb
 replace hbw := Below.tr hbw hb
 have gq0 := hB.cell 0; have gq1 := hB.cell 1; simp only [List.getElem?_toArray, List.getElem?_cons_zero, List.getElem?_cons_succ] at gq0 gq1; clear HW hB hg hb; go_wp2_with fail; refine (is_5 _ 1 3 _ hgm (by omega) (by omega) (by omega)).mono ?_; rintro e w40 ⟨rfl, hb⟩
 replace gm0 := cell_keep hb gm0
 replace gm1 := cell_keep hb gm1
 replace hgm := hgm.below hb
 replace gn0 := cell_keep hb gn0
 replace gn1 := cell_keep hb gn1
 replace hgn := hgn.below hb
 replace hbw := Below.tr hbw hb
 clear hb; go_wp2_with fail; refine (is_5 _ 3 1 _ hgn (by omega) (by omega) (by omega)).mono ?_; rintro e w41 ⟨rfl, hb⟩
 replace gm0 := cell_keep hb gm0
 replace gm1 := cell_keep hb gm1
 replace hgm := hgm.below hb
 replace gn0 := cell_keep hb gn0
 replace gn1 := cell_keep hb gn1
 replace hgn := hgn.below hb
 replace hbw := Below.tr hbw hb
 clear hb; go_wp2_with fail; go_ret; exact ⟨rfl, hbw⟩
end Go.Proofs.YtnjjdiilkhdbeaaDoor
