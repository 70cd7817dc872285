import Derived.Test.YticobffjnjbjiaaJ19
import Derived.Test.YticobffjnjbjiaaJ15
import Derived.Test.YticobffjnjbjiaaJ17
set_option linter.unusedVariables false
set_option linter.unusedSimpArgs false
namespace Go.Proofs.Yticobffjnjbjiaa
open Go.RowKit
/- GateTries: what a build says of i failures that one promise covers. -/
/-- i failures stop the build -/
def stB (p q a b i : Nat) : Bool := decide (1 ≤ i ∧ p ^ i * b ≤ a * q ^ i)
theorem st_step {p q a b i : Nat} (hpq : p ≤ q) (h : p ^ i * b ≤ a * q ^ i) : p ^ (i + 1) * b ≤ a * q ^ (i + 1) := by
  rw [Nat.pow_succ, Nat.pow_succ, Nat.mul_right_comm, ← Nat.mul_assoc]
  exact Nat.mul_le_mul h hpq
theorem st_mono {p q a b i : Nat} (hpq : p ≤ q) (h : stB p q a b i = true) : stB p q a b (i + 1) = true := by
  unfold stB at h ⊢
  rw [decide_eq_true_iff] at h ⊢
  exact ⟨by omega, st_step hpq h.2⟩
def oneP (b1 b2 : Value) : List PC := [pcE tT0 tP0 0 b1 b2]
def rBad0 : RC0 := rcE 1 tP0 0
theorem cov_one {b1 b2 : Value} : covAt (oneP b1 b2) tT0 rBad0 0 = true := by
  show decide (tT0.toList = tT0.toList ∧ 0 < rBad0.oc ∧ rBad0.oc < 5 ∧ rBad0.at_.toList = tP0.toList ∧ rBad0.st = 0) = true
  rw [decide_eq_true_iff]; exact ⟨rfl, by decide, by decide, rfl, rfl⟩
theorem of_one {b1 b2 : Value} : ofN [0] (oneP b1 b2) tT0 rBad0 = 0 := by
  unfold ofN; rw [List.find?_cons_of_pos cov_one]; rfl
theorem tb_rep {b1 b2 : Value} {p q a b : Nat} (g : Nm.Good p q) (hpq : p ≤ q) {N : Nat} (HF : ∀ k, k ≤ N → Nm.Fits (p ^ k) (q ^ k)) (rest : List RC0) : ∀ (i j : Nat), j + i ≤ N → (j = 0 ∨ ¬ p ^ j * b ≤ a * q ^ j) →
    testB [0] (oneP b1 b2) (fun _ => (p, q)) a b tT0 (List.replicate i rBad0 ++ rest) (p ^ j) (q ^ j) = if i ≠ 0 ∧ p ^ (j + i) * b ≤ a * q ^ (j + i) then (2, 0) else testB [0] (oneP b1 b2) (fun _ => (p, q)) a b tT0 rest (p ^ (j + i)) (q ^ (j + i))
  | 0, j, _, _ => by rw [if_neg (fun h => h.1 rfl)]; rfl
  | i + 1, j, hN, hj => by
    have hgo := testB_go (L := [0]) (ps := oneP b1 b2) (bd := fun _ => (p, q)) (a := a) (b := b) (n := 0) (p := p ^ j) (q := q ^ j) (pb := p) (qb := q) (name := tT0) (r := rBad0) (rs := List.replicate i rBad0 ++ rest) (by decide) of_one.symm rfl
    have hg : Nat.gcd (p ^ j * p) (q ^ j * q) = 1 := Nm.gcd_pow g j
    rw [hg, Nat.div_one, Nat.div_one, ← Nat.pow_succ, ← Nat.pow_succ] at hgo
    have hf := HF (j + 1) (by omega)
    rw [List.replicate_succ, List.cons_append]
    by_cases hle : p ^ (j + 1) * b ≤ a * q ^ (j + 1)
    · rw [hgo.1 hf hle, if_pos]
      refine ⟨by omega, ?_⟩
      have : ∀ m, p ^ (j + 1 + m) * b ≤ a * q ^ (j + 1 + m) := by
        intro m
        induction m with
        | zero => exact hle
        | succ m ih => exact st_step hpq ih
      have h := this i
      rwa [show j + 1 + i = j + (i + 1) by omega] at h
    · rw [hgo.2.1 hf hle, tb_rep g hpq HF rest i (j + 1) (by omega) (.inr hle), show j + 1 + i = j + (i + 1) by omega]
      by_cases hi : i = 0
      · subst hi
        rw [if_neg (fun h => h.1 rfl), if_neg (fun h => hle h.2)]
      · by_cases h2 : p ^ (j + (i + 1)) * b ≤ a * q ^ (j + (i + 1))
        · rw [if_pos ⟨hi, h2⟩, if_pos ⟨by omega, h2⟩]
        · rw [if_neg (fun h => h2 h.2), if_neg (fun h => h2 h.2)]
theorem tb_all {b1 b2 : Value} {p q a b : Nat} (g : Nm.Good p q) (hpq : p ≤ q) {N : Nat} (HF : ∀ k, k ≤ N → Nm.Fits (p ^ k) (q ^ k)) {i : Nat} (hi : i ≤ N) :
    oneT [0] (oneP b1 b2) (fun _ => (p, q)) a b (tT0, List.replicate i rBad0) = (if stB p q a b i then 2 else 1, 0) ∧
    ∀ more, oneT [0] (oneP b1 b2) (fun _ => (p, q)) a b (tT0, List.replicate i rBad0 ++ rPass :: more) = (if stB p q a b i then 2 else 0, 0) := by
  have e : ∀ rest, oneT [0] (oneP b1 b2) (fun _ => (p, q)) a b (tT0, List.replicate i rBad0 ++ rest) = if i ≠ 0 ∧ p ^ i * b ≤ a * q ^ i then (2, 0) else testB [0] (oneP b1 b2) (fun _ => (p, q)) a b tT0 rest (p ^ i) (q ^ i) := by
    intro rest
    have h := tb_rep (b1 := b1) (b2 := b2) (a := a) (b := b) g hpq HF rest i 0 (by omega) (.inl rfl)
    rw [Nat.pow_zero, Nat.pow_zero, Nat.zero_add] at h
    exact h
  have hs : (i ≠ 0 ∧ p ^ i * b ≤ a * q ^ i) ↔ stB p q a b i = true := by
    unfold stB; rw [decide_eq_true_iff]; constructor
    · rintro ⟨h1, h2⟩; exact ⟨by omega, h2⟩
    · rintro ⟨h1, h2⟩; exact ⟨by omega, h2⟩
  constructor
  · have := e []
    rw [List.append_nil] at this
    rw [this]
    by_cases h : stB p q a b i = true
    · rw [if_pos (hs.2 h), if_pos h]
    · rw [if_neg (fun c => h (hs.1 c)), if_neg h]; rfl
  · intro more
    rw [e]
    by_cases h : stB p q a b i = true
    · rw [if_pos (hs.2 h), if_pos h]
    · rw [if_neg (fun c => h (hs.1 c)), if_neg h, tb_pass rfl]
/-- Retries says just when -/
theorem st_ret {p q a b : Nat} {x er : Int} (hpq : p ≤ q) (hq : 0 < q) (h : Nm.RetP p q a b x er) (he : er = 0 ∨ er = 6) (i : Nat) : stB p q a b i = true ↔ 0 < i ∧ er = 0 ∧ x ≤ (i : Int) := by
  unfold stB
  rw [decide_eq_true_iff]
  have up : ∀ n m, p ^ n * b ≤ a * q ^ n → p ^ (n + m) * b ≤ a * q ^ (n + m) := by
    intro n m hn
    induction m with
    | zero => exact hn
    | succ m ih => exact st_step hpq ih
  rcases h with ⟨h0, _, _⟩ | ⟨h1, h2, h3, h4⟩ | ⟨h1, h2, h3, h4, h5⟩ | ⟨h1, h2, h3, n, hn1, hn2, hn3⟩
  · omega
  · constructor
    · rintro ⟨hi, _⟩; exact ⟨by omega, h4, by omega⟩
    · rintro ⟨hi, _, _⟩
      have := up 0 i (by rw [Nat.pow_zero, Nat.pow_zero]; omega)
      rw [Nat.zero_add] at this
      exact ⟨by omega, this⟩
  · constructor
    · rintro ⟨hi, hle⟩
      exfalso
      rcases h3 with rfl | ⟨rfl, hp⟩
      · have hpos : 0 < p ^ i := Nat.pow_pos hq
        rw [Nat.mul_comm a] at hle
        have := Nat.le_of_mul_le_mul_left hle hpos
        omega
      · have hpos : 0 < p ^ i := Nat.pow_pos hp
        rw [Nat.zero_mul] at hle
        have := Nat.mul_pos hpos (show 0 < b by omega)
        omega
    · rintro ⟨_, h, _⟩; omega
  · rcases hn3 with ⟨_, _, h⟩ | ⟨hf, hle, hx, he0⟩
    · omega
    · constructor
      · rintro ⟨hi, h⟩
        refine ⟨by omega, he0, ?_⟩
        rcases Nat.lt_or_ge i n with hlt | hge
        · exact absurd (.inr h) (hn2 i hi hlt)
        · omega
      · rintro ⟨hi, _, hxi⟩
        have h6 := up n (i - n) hle
        rw [show n + (i - n) = i by omega] at h6
        exact ⟨by omega, h6⟩
end Go.Proofs.Yticobffjnjbjiaa
namespace Go.Proofs.Yticobffjnjbjiaa
open Go.RowKit
/- GateTries: the call of Build. -/
def rep (n : Nat) : List RC0 := List.replicate n rBad0
theorem rep_mem {n : Nat} {x : RC0} (h : x ∈ rep n) : x = rBad0 := (List.mem_replicate.1 h).2
theorem rep_one {n : Nat} {more : List RC0} (hm : ∀ x ∈ more, x = rBad0 ∨ x = rPass) : ∀ x ∈ rep n ++ more, x = rBad0 ∨ x = rPass := by
  intro x hx
  rcases List.mem_append.1 hx with h | h
  · exact .inl (rep_mem h)
  · exact hm x h
theorem rb_one {x : RC0} (h : x = rBad0 ∨ x = rPass) : (∀ v ∈ cellsR x, v.oneCell' = true) ∧ oddO x = false := by
  rcases h with rfl | rfl
  · exact ⟨rc_one, by decide⟩
  · exact ⟨rc_one, by decide⟩
def triesR (n : Nat) (Au Aw A3 : Option Addr) (cu cw c3 : Nat) : List SLR := [⟨Au, n, cu, rep n ++ []⟩, ⟨Aw, n + 1, cw, rep n ++ [rPass]⟩, ⟨A3, n + 3, c3, rep n ++ [rPass, rBad0, rBad0]⟩]
theorem m0 : ∀ x ∈ ([] : List RC0), x = rBad0 ∨ x = rPass := by intro x hx; cases hx
theorem m1 : ∀ x ∈ [rPass], x = rBad0 ∨ x = rPass := by intro x hx; simp only [List.mem_cons, List.not_mem_nil, or_false] at hx; exact .inr hx
theorem m3 : ∀ x ∈ [rPass, rBad0, rBad0], x = rBad0 ∨ x = rPass := by
  intro x hx; simp only [List.mem_cons, List.not_mem_nil, or_false] at hx
  rcases hx with h | h | h
  · exact .inr h
  · exact .inl h
  · exact .inl h
theorem triesR_all {n : Nat} {Au Aw A3 : Option Addr} {cu cw c3 : Nat} : ∀ s ∈ triesR n Au Aw A3 cu cw c3, ∀ x ∈ s.rs, x = rBad0 ∨ x = rPass := by
  intro s hs
  simp only [triesR, List.mem_cons, List.not_mem_nil, or_false] at hs
  rcases hs with rfl | rfl | rfl
  · exact rep_one m0
  · exact rep_one m1
  · exact rep_one m3
theorem triesR_fit {n : Nat} {Au Aw A3 : Option Addr} {cu cw c3 : Nat} : fitE 1 [0] (3 : Int) (3 : Int) (allR (triesR n Au Aw A3 cu cw c3)) = 0 := by
  unfold fitE
  have h1 : ([0] : List Int).any (outB 1) = false := by decide
  have h2 : (allR (triesR n Au Aw A3 cu cw c3)).any oddO = false := by
    rw [Bool.eq_false_iff]; intro h
    obtain ⟨x, hx, hb⟩ := List.any_eq_true.1 h
    obtain ⟨s, hs, hxs⟩ := List.mem_flatMap.1 hx
    rw [(rb_one (triesR_all s hs x hxs)).2] at hb; cases hb
  rw [h1, h2]; simp
section
variable {b1 b2 : Value}
theorem tries_build (Al A T S Au Aw A3 : Option Addr) (cl cA ct cs cu cw c3 : Nat) (va : Value) (p q a b n N : Nat) (w : World) (hp : RowS cellsP w Al 1 (oneP b1 b2)) (hr : RowS intC w A 1 [0]) (ht : RowS strC w T 3 [tT0, tT0, tT0])
    (hs : RowS slC w S 3 (triesR n Au Aw A3 cu cw c3)) (s1 : RowS cellsR w Au n (rep n ++ [])) (s2 : RowS cellsR w Aw (n + 1) (rep n ++ [rPass])) (s3 : RowS cellsR w A3 (n + 3) (rep n ++ [rPass, rBad0, rBad0]))
    (hra : Rat w (.agg #[b1, b2]) p q) (ga : Nm.Good p q) (hpq : p ≤ q) (hrb : Rat w va a b) (gb : Nm.Good a b) (HF : Hid (∀ k, k ≤ N → Nm.Fits (p ^ k) (q ^ k))) (hn : n ≤ N) (hN : N ≤ 100) :
    Calls Try.prog 23 #[.slice Al 1 cl, .slice A 1 cA, .slice T 3 ct, .slice S 3 cs, va] w fun e w' => ∃ Av cv, e = .returned (.tuple #[.slice Av 3 cv, .int .i64 0]) ∧ RowS intC w' Av 3 [if stB p q a b n then 2 else 1, if stB p q a b n then 2 else 0, if stB p q a b n then 2 else 0] ∧ Below w.heap.size w w' := by
  have HS : Hid (∀ s ∈ triesR n Au Aw A3 cu cw c3, RowS cellsR w s.A s.k s.rs ∧ ∀ x ∈ s.rs, ∀ v ∈ cellsR x, v.oneCell' = true) := by
    intro s hsm
    refine ⟨?_, fun x hx => (rb_one (triesR_all s hsm x hx)).1⟩
    simp only [triesR, List.mem_cons, List.not_mem_nil, or_false] at hsm
    rcases hsm with rfl | rfl | rfl
    · exact s1
    · exact s2
    · exact s3
  have HB : Hid (∀ (n : Nat) x, (oneP b1 b2)[n]? = some x → Rat w (.agg #[x.b1, x.b2]) ((fun _ => (p, q)) n : Nat × Nat).1 ((fun _ => (p, q)) n : Nat × Nat).2 ∧ Nm.Good ((fun _ => (p, q)) n : Nat × Nat).1 ((fun _ => (p, q)) n : Nat × Nat).2) := by
    intro k x hk
    rcases k with _ | k
    · injection hk with hk; subst hk; exact ⟨hra, ga⟩
    · cases hk
  refine (build_n Al A T S 1 cl 1 cA 3 ct 3 cs [0] (oneP b1 b2) (fun _ => (p, q)) [tT0, tT0, tT0] (triesR n Au Aw A3 cu cw c3) va (Nm.lb a) (Nm.lb (Nm.dn b)) w hp hr ht hs HS (show n + (n + 1 + (n + 3 + 0)) ≤ 1073741824 by omega) (by omega) HB hrb.rtl).mono ?_
  rintro e w' ⟨v, er, codes, rfl, HP, hown, hb⟩
  obtain ⟨t1, t2⟩ := tb_all (b1 := b1) (b2 := b2) (a := a) (b := b) ga hpq HF.out hn
  have hfin : er = 0 ∧ codes = [if stB p q a b n then 2 else 1, if stB p q a b n then 2 else 0, if stB p q a b n then 2 else 0] := by
    rcases HP.out with ⟨h, _⟩ | ⟨_, h, _⟩ | ⟨_, x, y, e1, e2, gx, e3, e4⟩
    · exact absurd triesR_fit h
    · exact absurd (Nm.validE_of gb) h
    · obtain rfl : a = x := Nm.lb_inj e1
      obtain rfl : b = y := Nm.dn_inj gb.pos gx.pos (Nm.lb_inj e2)
      have hl : ([0] : List Int).map Int.toNat = [0] := rfl
      rw [hl] at e3 e4
      have hz : [tT0, tT0, tT0].zip ((triesR n Au Aw A3 cu cw c3).map (·.rs)) = [(tT0, rep n), (tT0, rep n ++ [rPass]), (tT0, rep n ++ [rPass, rBad0, rBad0])] := by
        simp only [triesR, List.map_cons, List.map_nil, List.zip_cons_cons, List.zip_nil_right, List.append_nil]
      rw [hz] at e3 e4
      have o1 : oneT [0] (oneP b1 b2) (fun _ => (p, q)) a b (tT0, rep n) = (if stB p q a b n then 2 else 1, 0) := t1
      have o2 : oneT [0] (oneP b1 b2) (fun _ => (p, q)) a b (tT0, rep n ++ [rPass]) = (if stB p q a b n then 2 else 0, 0) := t2 []
      have o3 : oneT [0] (oneP b1 b2) (fun _ => (p, q)) a b (tT0, rep n ++ [rPass, rBad0, rBad0]) = (if stB p q a b n then 2 else 0, 0) := t2 [rBad0, rBad0]
      have h0 : buildE [0] (oneP b1 b2) (fun _ => (p, q)) a b [(tT0, rep n), (tT0, rep n ++ [rPass]), (tT0, rep n ++ [rPass, rBad0, rBad0])] = 0 := by
        refine buildE_none fun x hx => ?_
        simp only [List.mem_cons, List.not_mem_nil, or_false] at hx
        rcases hx with rfl | rfl | rfl
        · rw [o1]
        · rw [o2]
        · rw [o3]
      rw [h0] at e3
      refine ⟨e3, ?_⟩
      rw [if_pos e3] at e4
      rw [e4]
      simp only [List.map_cons, List.map_nil, o1, o2, o3]
  obtain ⟨rfl, rfl⟩ := hfin
  obtain ⟨Av, cv, rfl, h4⟩ := own_rowS (l := [if stB p q a b n then 2 else 1, if stB p q a b n then 2 else 0, if stB p q a b n then 2 else 0]) intC_len (by omega) (by simp) hown
  exact ⟨_, _, rfl, h4, hb⟩
end
theorem ret_cases {p q a b : Nat} {x er : Int} (hpq : p ≤ q) (h : Nm.RetP p q a b x er) : er = 0 ∨ er = 6 ∨ er = 4 := by
  rcases h with ⟨h0, _, _⟩ | ⟨_, _, _, h⟩ | ⟨_, _, _, _, h⟩ | ⟨_, _, _, n, _, _, h⟩
  · omega
  · exact .inl h
  · exact .inr (.inl h)
  · rcases h with ⟨_, _, h⟩ | ⟨_, _, _, h⟩
    · exact .inr (.inr h)
    · exact .inl h
theorem part_fit (n d : Int) {k : Nat} (hk : k ≤ 100) : Nm.Fits (partP n d ^ k) (partQ n d ^ k) := by
  have hd : aroundN d 24 < 24 := aroundN_lt d (by omega)
  have hq : partQ n d ≤ 2 ^ 5 := Nat.le_trans (Nat.div_le_self _ _) (by unfold partK; omega)
  have hn : aroundN n (1 + aroundN d 24 + 1) < 1 + aroundN d 24 + 1 := aroundN_lt n (by omega)
  have hp : partP n d ≤ 2 ^ 5 := Nat.le_trans (Nat.div_le_self _ _) (by unfold partA; omega)
  exact fits_pow hp hq (by omega)
end Go.Proofs.Yticobffjnjbjiaa
namespace Go.Proofs.Yticobffjnjbjiaa
open Go
/- The same, told besides that what an operation hangs on is done. -/
section
variable {P : Program} {ops : Array Oper} {Q : Exit → Act → World → Prop} {md : Region.Mode}
theorem wpAny_invw {Φ : Nat → World → Value → Prop} {R : World → World → Prop} (S : (Nat → Bool) → (Nat → Value) → World → Prop) (a0 : Act) (hd : apartL ops.toList = true) (hb : backC md ops = true)
    (hΦ : ∀ w w', R w w' → ∀ j x, Φ j w x → Φ j w' x)
    (hstep : ∀ i o, ops[i]? = some o → ∀ vs (L : Nat → Bool) w, S L vs w → L i = false → (∀ j o', ops[j]? = some o' → L j = true → ∀ e ∈ o'.after, Region.binds md e = true → L e.on = true) → (∀ e ∈ o.after, Region.binds md e = true → L e.on = true) → (∀ e ∈ o.after, Region.binds md e = true → Φ e.on w (vs e.on)) →
      ∀ K : Act → World → Prop, (∀ v w', R w w' → S (updB L i) (upd vs i v) w' → Φ i w' v → K ((fillR ops.toList 0 vs a0).put o.dst v) w') →
        if Region.wanted o (yielded ops (fillR ops.toList 0 vs a0).tmps) = true then Oper.wp P o (fillR ops.toList 0 vs a0) w K Q else K ((fillR ops.toList 0 vs a0).put o.dst undef) w)
    (hend : ∀ vs L w, S L vs w → (∀ i, i < ops.size → L i = true) → (∀ i, i < ops.size → Φ i w (vs i)) → Q .normal (fillR ops.toList 0 vs a0) w) :
    ∀ (fuel : Nat) (listed : Array Bool) (vs : Nat → Value) (w : World), listed.size = ops.size → listed.toList.count false = fuel → closedB md ops listed → S (fun j => listed.getD j false) vs w → (∀ j, listed.getD j false = true → Φ j w (vs j)) →
      wpAny P md ops Q fuel listed (fillR ops.toList 0 vs a0) w := by
  intro fuel
  induction fuel with
  | zero =>
    intro listed vs w hs hc hcl hSw hl
    have hall : ∀ i, i < ops.size → listed.getD i false = true := by
      intro i hi
      have h' : i < listed.size := by omega
      rw [List.count_eq_zero] at hc
      cases hx : listed.getD i false with
      | true => rfl
      | false =>
        exfalso
        apply hc
        simp [h'] at hx
        rw [← hx]
        exact Array.getElem_mem_toList h'
    refine ⟨?_, hend vs _ w hSw hall (fun i hi => hl i (hall i hi))⟩
    rw [List.eq_nil_iff_forall_not_mem]
    intro i hi
    obtain ⟨h1, o, ho, _⟩ := mem_ready.1 hi
    have hi' : i < ops.size := (Array.getElem?_eq_some_iff.1 ho).1
    have h2 := hall i hi'
    have h' : i < listed.size := by omega
    simp [h'] at h1 h2
    rw [h1] at h2
    cases h2
  | succ fuel ih =>
    intro listed vs w hs hc hcl hSw hl
    refine ⟨fun hr => hend vs _ w hSw (all_listedC hb hs hr) (fun i hi => hl i (all_listedC hb hs hr i hi)), fun i hi => ?_⟩
    obtain ⟨h1, o, ho, hall⟩ := mem_ready.1 hi
    have hi' : i < ops.size := (Array.getElem?_eq_some_iff.1 ho).1
    have hil : i < listed.size := by omega
    have hun : listed.getD i false = false := by simp [hil] at h1 ⊢; exact h1
    refine wpOp_step ho fun K' hK => ?_
    refine hstep i o ho vs _ w hSw hun hcl hall (fun e he hbd => hl e.on (hall e he hbd)) K' fun v w' hR hS' hv => ?_
    apply hK
    rw [fillR_upd ops.toList 0 i vs a0 o v hd (by simpa using ho), Nat.zero_add]
    have hset : (fun j => (listed.setIfInBounds i true).getD j false) = updB (fun j => listed.getD j false) i := by
      funext j
      unfold updB
      by_cases hji : j = i
      · subst hji; simp [hil]
      · rw [if_neg hji]
        simp [Array.getElem?_setIfInBounds, Ne.symm hji]
    refine ih _ _ _ (by simp [hs]) ?_ ?_ (by rw [hset]; exact hS') ?_
    · have h1' : listed.toList[i]'(by simpa using hil) = false := by simp [hil] at h1; simpa using h1
      simp only [Array.toList_setIfInBounds]
      rw [List.count_set (by simpa using hil), h1', hc]
      simp
    · intro j oj hj hlj e he hbd
      by_cases hei : e.on = i
      · rw [hei]; simp [hil]
      · have hold : listed.getD e.on false = true := by
          by_cases hji : j = i
          · subst hji
            have : oj = o := Option.some.inj (hj.symm.trans ho)
            subst this
            exact hall e he hbd
          · refine hcl j oj hj ?_ e he hbd
            simp [Array.getElem?_setIfInBounds, Ne.symm hji] at hlj
            simpa using hlj
        simp [Array.getElem?_setIfInBounds, Ne.symm hei] at hold ⊢
        exact hold
    · intro j hj
      by_cases hji : j = i
      · subst hji
        rw [show upd vs j v j = v from if_pos rfl]; exact hv
      · rw [show upd vs i v j = vs j from if_neg hji]
        refine hΦ _ _ hR j _ (hl j ?_)
        simp [Array.getElem?_setIfInBounds, Ne.symm hji] at hj
        simpa using hj
/-- what an operation owes; S knows what is listed, and the slots -/
def OwesW (P : Program) (Q : Exit → Act → World → Prop) (l : List Oper) (F : (Nat → Value) → Act) (Φ : Nat → World → Value → Prop) (R : World → World → Prop) (S : (Nat → Bool) → (Nat → Value) → World → Prop) (i : Nat) (o : Oper) : Prop :=
  ∀ vs (L : Nat → Bool) w, S L vs w → L i = false → (∀ j o', l[j]? = some o' → L j = true → ∀ e ∈ o'.after.toList, Region.binds .any e = true → L e.on = true) → (∀ e ∈ o.after.toList, Region.binds .any e = true → L e.on = true) → (∀ e ∈ o.after.toList, Region.binds .any e = true → Φ e.on w (vs e.on)) → ∀ K : Act → World → Prop, (∀ v w', R w w' → S (updB L i) (upd vs i v) w' → Φ i w' v → K ((F vs).put o.dst v) w') →
    Wrap (if Region.wanted o (yielded l.toArray (F vs).tmps) = true then Oper.wp P o (F vs) w K Q else K ((F vs).put o.dst undef) w)
theorem region_invW {id : Nat} {a0 : Act} {w : World} {l : List Oper} {F : (Nat → Value) → Act} (Φ : Nat → World → Value → Prop) (R : World → World → Prop) (S : (Nat → Bool) → (Nat → Value) → World → Prop) (hm : P.follows .mixedOrders = true) (hd : apartL l = true) (hb : backC .any l.toArray = true)
    (hΦ : ∀ w w', R w w' → ∀ j x, Φ j w x → Φ j w' x) (hS0 : S (fun _ => false) (ownV l a0) w.drew) (hF : ∀ vs, fillR l 0 vs a0 = F vs)
    (hstep : StepsL (OwesW P Q l F Φ R S) 0 l)
    (hend : ∀ vs L w, S L vs w → (∀ i, i < l.length → L i = true) → (∀ i, i < l.length → Φ i w (vs i)) → Q .normal (F vs) w) : (Code.region id l.toArray true).wp P Q a0 w := by
  refine wp_region_any hm ?_
  have hrep : (fun j => (Array.replicate l.toArray.size false).getD j false) = (fun _ => false) := by funext j; exact repF
  have h := wpAny_invw (P := P) (Q := Q) (md := .any) (ops := l.toArray) (Φ := Φ) (R := R) S a0 hd hb hΦ (fun i o ho vs L w hSw hL hcl hdl hdep K hK => by
    have := hstep i o (by simpa using ho)
    rw [Nat.zero_add] at this
    have h2 := (this vs L w hSw hL (fun j o' hj hlj e he hbd => hcl j o' (by simpa using hj) hlj e (by simpa using he) hbd) (fun e he hbd => hdl e (by simpa using he) hbd) (fun e he hbd => hdep e (by simpa using he) hbd) K (by rw [← hF vs]; exact hK)).un
    rw [← hF vs] at h2
    exact h2) (fun vs L w hSw hall h => by
      have h3 := hend vs L w hSw (fun i hi => hall i (by simpa using hi)) (fun i hi => h i (by simpa using hi))
      rw [← hF vs] at h3
      exact h3) l.toArray.size (Array.replicate l.toArray.size false) (ownV l a0) w.drew (by simp) (by simp) (fun j o _ hj => by rw [repF] at hj; cases hj) (by rw [hrep]; exact hS0) (fun j hj => by rw [repF] at hj; cases hj)
  rw [fillR_id] at h
  · exact h
  · intro j o ho d hd'
    rw [Nat.zero_add]
    unfold ownV
    rw [ho]
    simp [hd']
end
end Go.Proofs.Yticobffjnjbjiaa
