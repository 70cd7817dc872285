import Derived.Test.YtijkfagkbfbpmaaGreatDoorKByProof14
import Derived.Test.YtijkfagkbfbpmaaGreatDoorKByProof16
import Derived.Deep.MidRow
import Derived.Deep.Quiet
import Derived.Deep.QuietTactic
import Derived.BigQuiet
import Derived.Test.YtijkfagkbfbpmaaGreatDoorKByProof11
import Derived.Test.YtijkfagkbfbpmaaGreatDoorKByProof04
import Derived.Test.YtijkfagkbfbpmaaGreatDoorKByProof12
import Derived.Test.YtijkfagkbfbpmaaGreatDoorS0
set_option linter.unusedVariables false
set_option linter.unusedSimpArgs false
namespace Go.Proofs.YtijkfagkbfbpmaaGreatDoor
open Go Go.RowKit
section
variable {P : Program}
end
end Go.Proofs.YtijkfagkbfbpmaaGreatDoor
namespace Go.Proofs.YtijkfagkbfbpmaaGreatDoor
open Go.RowKit
end Go.Proofs.YtijkfagkbfbpmaaGreatDoor
namespace Go.Proofs.YtijkfagkbfbpmaaGreatDoor
open Go Go.RowKit
/- the encoding of integers, in plain numbers -/
namespace Wi
/-- the number of bytes of a number -/
def nb (m : Nat) : Nat := if h : m = 0 then 0 else nb (m / 256) + 1
termination_by m
decreasing_by omega
theorem nb_zero : nb 0 = 0 := by rw [nb]; rfl
theorem nb_pos {m : Nat} (h : m ≠ 0) : nb m = nb (m / 256) + 1 := by rw [nb, dif_neg h]
theorem nb_le : ∀ (k m : Nat), nb m ≤ k ↔ m < 256 ^ k
 | 0, m => by
  rw [Nat.pow_zero]; by_cases h : m = 0
  ·subst h; rw [nb_zero]; simp
  ·rw [nb_pos h]; omega
 | k + 1, m => by
  by_cases h : m = 0
  ·subst h; rw [nb_zero]; simp [Nat.pow_pos]
  ·rw [nb_pos h, Nat.add_le_add_iff_right, nb_le k (m / 256), Nat.div_lt_iff_lt_mul (by omega), ← Nat.pow_succ]
/-- big-endian digits -/
def be : Nat → Nat → List Nat
 | 0, _ => []
 | k + 1, m => (m / 256 ^ k % 256) :: be k m
theorem be_len : ∀ (k m : Nat), (be k m).length = k
 | 0, _ => rfl
 | k + 1, m => by rw [be, List.length_cons, be_len k m]
theorem be_lt : ∀ (k m : Nat), ∀ d ∈ be k m, d < 256
 | 0, _, d, h => by cases h
 | k + 1, m, d, h => by
  rw [be, List.mem_cons] at h
  rcases h with rfl | h
  ·exact Nat.mod_lt _ (by omega)
  ·exact be_lt k m d h
def val (l : List Nat) : Nat := l.foldl (fun a d => a * 256 + d) 0
theorem val_from (l : List Nat) : ∀ a : Nat, l.foldl (fun a d => a * 256 + d) a = a * 256 ^ l.length + val l := by
 unfold val
 induction l with
 | nil => intro a; simp
 | cons d l ih =>
  intro a; rw [List.foldl_cons, ih, List.foldl_cons, ih (0 * 256 + d), List.length_cons, Nat.pow_succ]
  grind
theorem val_cons (d : Nat) (l : List Nat) : val (d :: l) = d * 256 ^ l.length + val l := by
 unfold val; rw [List.foldl_cons, val_from]; rw [Nat.zero_mul, Nat.zero_add]; rfl
theorem val_be : ∀ (k m : Nat), val (be k m) = m % 256 ^ k
 | 0, m => by simp [be, val, Nat.mod_one]
 | k + 1, m => by
  rw [be, val_cons, be_len, val_be k m, Nat.pow_succ, Nat.mod_mul, Nat.mul_comm (256 ^ k), Nat.add_comm]
/-- a digit, turned for negative numbers -/
def fl (neg : Bool) (d : Nat) : Nat := if neg then 255 - d else d
theorem fl_fl {neg : Bool} {d : Nat} (h : d < 256) : fl neg (fl neg d) = d := by unfold fl; cases neg <;> simp <;> omega
theorem fl_lt {neg : Bool} {d : Nat} (h : d < 256) : fl neg d < 256 := by unfold fl; cases neg <;> simp <;> omega
def negB (n : Int) : Bool := decide (n < 0)
def mag (n : Int) : Nat := if n < 0 then (-1 - n).toNat else n.toNat
def headB (neg : Bool) (k : Nat) : Nat := if neg then 127 - k else 128 + k
def encK (neg : Bool) (m k : Nat) : List Nat := headB neg k :: (be k m).map (fl neg)
def encI (n : Int) : List Nat := encK (negB n) (mag n) (nb (mag n))
theorem mag_lt {n : Int} (h1 : -9223372036854775808 ≤ n) (h2 : n ≤ 9223372036854775807) : mag n < 9223372036854775808 := by
 unfold mag
 split <;> omega
theorem nb_mag {n : Int} (h1 : -9223372036854775808 ≤ n) (h2 : n ≤ 9223372036854775807) : nb (mag n) ≤ 8 := by
 rw [nb_le]; have := mag_lt h1 h2; have e : (256 : Nat) ^ 8 = 18446744073709551616 := by decide
 omega
theorem encI_len {n : Int} (h1 : -9223372036854775808 ≤ n) (h2 : n ≤ 9223372036854775807) : (encI n).length ≤ 9 := by
 unfold encI encK; rw [List.length_cons, List.length_map, be_len]; have := nb_mag h1 h2; omega
theorem encI_lt {n : Int} (h1 : -9223372036854775808 ≤ n) (h2 : n ≤ 9223372036854775807) : ∀ d ∈ encI n, d < 256 := by
 intro d hd; unfold encI encK at hd; have hk := nb_mag h1 h2
 rcases List.mem_cons.1 hd with rfl | hd
 ·unfold headB; split <;> omega
 ·obtain ⟨x, hx, rfl⟩ := List.mem_map.1 hd; exact fl_lt (be_lt _ _ x hx)
def kOf (h : Nat) : Nat := if h < 128 then 127 - h else h - 128
def dgs (h : Nat) (r : List Nat) : List Nat := (r.take (kOf h)).map (fl (decide (h < 128)))
def numI (h : Nat) (r : List Nat) : Int := if h < 128 then -1 - (val (dgs h r) : Int) else (val (dgs h r) : Int)
def getR (h : Nat) (r : List Nat) : Int × Nat × Int := if h < 119 ∨ 136 < h then (0, 0, 2) else if r.length < kOf h then (0, 0, 3) else if (dgs h r).head? = some 0 ∨ 9223372036854775808 ≤ val (dgs h r) then (0, 0, 2) else (numI h r, kOf h + 1, 0)
/-- what a byte sequence's first integer is: value, length, error -/
def getI : List Nat → Int × Nat × Int
 | [] => (0, 0, 3)
 | h :: r => getR h r
def encIs (l : List Int) : List Nat := encI l.length ++ l.flatMap encI
/-- n integers one after the other, from a position on: the integers, the position behind, the error -/
def getN (b : List Nat) : Nat → Nat → List Int → List Int × Nat × Int
 | 0, at_, acc => (acc, at_, 0)
 | n + 1, at_, acc => if (getI (b.drop at_)).2.2 ≠ 0 then ([], 0, (getI (b.drop at_)).2.2) else getN b n (at_ + (getI (b.drop at_)).2.1) (acc ++ [(getI (b.drop at_)).1])
def cntE (b : List Nat) : Int := if (getI b).2.2 ≠ 0 then (getI b).2.2 else if (getI b).1 < 0 then 2 else if ((b.length - (getI b).2.1 : Nat) : Int) < (getI b).1 then 3 else 0
def getIs (b : List Nat) : List Int × Nat × Int := if cntE b ≠ 0 then ([], 0, cntE b) else getN b (getI b).1.toNat (getI b).2.1 []
/-- decoding leads back -/
theorem fl_map {neg : Bool} {l : List Nat} (h : ∀ d ∈ l, d < 256) : (l.map (fl neg)).map (fl neg) = l := by
 rw [List.map_map]
 conv => rhs; rw [← List.map_id l]
 exact List.map_congr_left fun d hd => fl_fl (h d hd)
theorem be_head {m : Nat} (h : m ≠ 0) : (be (nb m) m).head? ≠ some 0 := by
 rw [nb_pos h, be, List.head?_cons]; intro e; injection e with e; have h1 : ¬ nb m ≤ nb (m / 256) := by rw [nb_pos h]; omega
 rw [nb_le] at h1; have h2 : m < 256 ^ (nb (m / 256) + 1) := by rw [← nb_le, nb_pos h]; exact Nat.le_refl _
 have hp : 0 < 256 ^ nb (m / 256) := Nat.pow_pos (by omega); have h3 : 1 ≤ m / 256 ^ nb (m / 256) := (Nat.le_div_iff_mul_le hp).2 (by omega); have h4 : m / 256 ^ nb (m / 256) < 256 := by rw [Nat.div_lt_iff_lt_mul hp, Nat.mul_comm, ← Nat.pow_succ]; exact h2
 omega
theorem getI_enc {n : Int} (h1 : -9223372036854775808 ≤ n) (h2 : n ≤ 9223372036854775807) (rest : List Nat) : getI (encI n ++ rest) = (n, (encI n).length, 0) := by
 have hk := nb_mag h1 h2; have hm := mag_lt h1 h2; have hv : val (be (nb (mag n)) (mag n)) = mag n := by rw [val_be, Nat.mod_eq_of_lt ((nb_le _ _).1 (Nat.le_refl _))]
 have hh : (be (nb (mag n)) (mag n)).head? ≠ some 0 := by
  by_cases h0 : mag n = 0
  ·rw [h0, nb_zero]; simp [be]
  ·exact be_head h0
 have hlen : (encI n).length = nb (mag n) + 1 := by unfold encI encK; rw [List.length_cons, List.length_map, be_len]
 rw [hlen]; unfold encI encK; rw [List.cons_append]; generalize hK : nb (mag n) = k at *
 have e1 : kOf (headB (negB n) k) = k := by
  unfold kOf headB
  cases negB n
  ·rw [if_neg (by simp), if_neg (by simp)]; simp
  ·rw [if_pos rfl, if_pos (by omega)]; omega
 have e2 : decide (headB (negB n) k < 128) = negB n := by
  unfold headB
  cases negB n
  ·rw [if_neg (by simp)]; simp
  ·rw [if_pos rfl]; simp; omega
 have e3 : dgs (headB (negB n) k) (((be k (mag n)).map (fl (negB n))) ++ rest) = be k (mag n) := by
  unfold dgs; rw [e1, e2, List.take_left' (by rw [List.length_map, be_len]), fl_map (be_lt _ _)]
 have e4 : numI (headB (negB n) k) (((be k (mag n)).map (fl (negB n))) ++ rest) = n := by
  have : headB (negB n) k < 128 ↔ n < 0 := by
   unfold negB at e2; exact decide_eq_decide.1 e2
  unfold numI; rw [e3, hv]; by_cases h : n < 0
  ·rw [if_pos (this.2 h)]; unfold mag; rw [if_pos h]; omega
  ·rw [if_neg (fun e => h (this.1 e))]; unfold mag; rw [if_neg h]; omega
 show getR _ _ = _
 unfold getR; rw [e1, e3, e4, hv, if_neg (by unfold headB; split <;> omega), if_neg (by rw [List.length_append, List.length_map, be_len]; omega), if_neg (by intro h; rcases h with h | h; exact hh h; omega)]
end Wi
end Go.Proofs.YtijkfagkbfbpmaaGreatDoor
namespace Go.Proofs.YtijkfagkbfbpmaaGreatDoor
open Go.RowKit
/-- two rows of limbs are those of a valid ratio -/
def GoodL (l1 l2 : List Nat) (p q : Nat) : Prop := l1 = Nm.lb p ∧ l2 = Nm.lb (Nm.dn q) ∧ Nm.Good p q
theorem RtL.good {w : World} {v : Value} {l1 l2 : List Nat} (h : RtL w v l1 l2) (hv : Nm.validE l1 l2 = 0) : ∃ p q, GoodL l1 l2 p q ∧ Rat w v p q := by
 obtain ⟨A1, k1, c1, A2, k2, c2, rfl, h1, h2, h3, h4⟩ := h; obtain ⟨p, q, e1, e2, hg⟩ := Nm.validE_spec h1.2.2.2.1 h2.2.2.2.1 hv; subst e1 e2; exact ⟨p, q, ⟨rfl, rfl, hg⟩, _, _, _, _, _, _, rfl, ⟨h3, h1⟩, ⟨h4, h2⟩⟩
end Go.Proofs.YtijkfagkbfbpmaaGreatDoor
namespace Go.Proofs.YtijkfagkbfbpmaaGreatDoor.Nm
end Go.Proofs.YtijkfagkbfbpmaaGreatDoor.Nm
namespace Go.Proofs.YtijkfagkbfbpmaaGreatDoor
open Go.RowKit
end Go.Proofs.YtijkfagkbfbpmaaGreatDoor
namespace Go.Proofs.YtijkfagkbfbpmaaGreatDoor
open Go
/- The same, where what holds all along may speak of the slots' values before they are written. -/
section
variable {P : Program} {ops : Array Oper} {Q : Exit → Act → World → Prop} {md : Region.Mode}
end
end Go.Proofs.YtijkfagkbfbpmaaGreatDoor
namespace Go.Proofs.YtijkfagkbfbpmaaGreatDoor
open Go
/- The same, told besides that what an operation hangs on is done. -/
section
variable {P : Program} {ops : Array Oper} {Q : Exit → Act → World → Prop} {md : Region.Mode}
theorem wpAny_invw {Φ : Nat → World → Value → Prop} {R : World → World → Prop} (S : (Nat → Bool) → (Nat → Value) → World → Prop) (a0 : Act) (hd : apartL ops.toList = true) (hb : backC md ops = true)
  (hΦ : ∀ w w', R w w' → ∀ j x, Φ j w x → Φ j w' x)
  (hstep : ∀ i o, ops[i]? = some o → ∀ vs (L : Nat → Bool) w, S L vs w → L i = false → (∀ j o', ops[j]? = some o' → L j = true → ∀ e ∈ o'.after, Region.binds md e = true → L e.on = true) → (∀ e ∈ o.after, Region.binds md e = true → L e.on = true) → (∀ e ∈ o.after, Region.binds md e = true → Φ e.on w (vs e.on)) →
   ∀ K : Act → World → Prop, (∀ v w', R w w' → S (updB L i) (upd vs i v) w' → Φ i w' v → K ((fillR ops.toList 0 vs a0).put o.dst v) w') →
    if Region.wanted o (yielded ops (fillR ops.toList 0 vs a0).tmps) = true then Oper.wp P o (fillR ops.toList 0 vs a0) w K Q else K ((fillR ops.toList 0 vs a0).put o.dst undef) w)
  (hend : ∀ vs L w, S L vs w → (∀ i, i < ops.size → L i = true) → (∀ i, i < ops.size → Φ i w (vs i)) → Q .normal (fillR ops.toList 0 vs a0) w) :
  ∀ (fuel : Nat) (listed : Array Bool) (vs : Nat → Value) (w : World), listed.size = ops.size → listed.toList.count false = fuel → closedB md ops listed → S (fun j => listed.getD j false) vs w → (∀ j, listed.getD j false = true → Φ j w (vs j)) →
   wpAny P md ops Q fuel listed (fillR ops.toList 0 vs a0) w := by
 intro fuel
 induction fuel with
 | zero =>
  intro listed vs w hs hc hcl hSw hl
  have hall : ∀ i, i < ops.size → listed.getD i false = true := by
   intro i hi; have h' : i < listed.size := by omega
   rw [List.count_eq_zero] at hc
   cases hx : listed.getD i false with
   | true => rfl
   | false =>
    exfalso
    apply hc
    simp [h'] at hx; rw [← hx]; exact Array.getElem_mem_toList h'
  refine ⟨?_, hend vs _ w hSw hall (fun i hi => hl i (hall i hi))⟩; rw [List.eq_nil_iff_forall_not_mem]; intro i hi; obtain ⟨h1, o, ho, _⟩ := mem_ready.1 hi; have hi' : i < ops.size := (Array.getElem?_eq_some_iff.1 ho).1; have h2 := hall i hi'; have h' : i < listed.size := by omega
  simp [h'] at h1 h2; rw [h1] at h2
  cases h2
 | succ fuel ih =>
  intro listed vs w hs hc hcl hSw hl; refine ⟨fun hr => hend vs _ w hSw (all_listedC hb hs hr) (fun i hi => hl i (all_listedC hb hs hr i hi)), fun i hi => ?_⟩; obtain ⟨h1, o, ho, hall⟩ := mem_ready.1 hi; have hi' : i < ops.size := (Array.getElem?_eq_some_iff.1 ho).1; have hil : i < listed.size := by omega
  have hun : listed.getD i false = false := by simp [hil] at h1 ⊢; exact h1
  refine wpOp_step ho fun K' hK => ?_
  refine hstep i o ho vs _ w hSw hun hcl hall (fun e he hbd => hl e.on (hall e he hbd)) K' fun v w' hR hS' hv => ?_
  apply hK
  rw [fillR_upd ops.toList 0 i vs a0 o v hd (by simpa using ho), Nat.zero_add]
  have hset : (fun j => (listed.setIfInBounds i true).getD j false) = updB (fun j => listed.getD j false) i := by
   funext j
   unfold updB; by_cases hji : j = i
   ·subst hji; simp [hil]
   ·rw [if_neg hji]; simp [Array.getElem?_setIfInBounds, Ne.symm hji]
  refine ih _ _ _ (by simp [hs]) ?_ ?_ (by rw [hset]; exact hS') ?_
  ·have h1' : listed.toList[i]'(by simpa using hil) = false := by simp [hil] at h1; simpa using h1
   simp only [Array.toList_setIfInBounds]; rw [List.count_set (by simpa using hil), h1', hc]; simp
  ·intro j oj hj hlj e he hbd; by_cases hei : e.on = i
   ·rw [hei]; simp [hil]
   ·have hold : listed.getD e.on false = true := by
     by_cases hji : j = i
     ·subst hji; have : oj = o := Option.some.inj (hj.symm.trans ho); subst this; exact hall e he hbd
     ·refine hcl j oj hj ?_ e he hbd; simp [Array.getElem?_setIfInBounds, Ne.symm hji] at hlj
      simpa using hlj
    simp [Array.getElem?_setIfInBounds, Ne.symm hei] at hold ⊢; exact hold
  ·intro j hj; by_cases hji : j = i
   ·subst hji; rw [show upd vs j v j = v from if_pos rfl]; exact hv
   ·rw [show upd vs i v j = vs j from if_neg hji]; refine hΦ _ _ hR j _ (hl j ?_); simp [Array.getElem?_setIfInBounds, Ne.symm hji] at hj
    simpa using hj
/-- what an operation owes; S knows what is listed, and the slots -/
def OwesW (P : Program) (Q : Exit → Act → World → Prop) (l : List Oper) (F : (Nat → Value) → Act) (Φ : Nat → World → Value → Prop) (R : World → World → Prop) (S : (Nat → Bool) → (Nat → Value) → World → Prop) (i : Nat) (o : Oper) : Prop :=
 ∀ vs (L : Nat → Bool) w, S L vs w → L i = false → (∀ j o', l[j]? = some o' → L j = true → ∀ e ∈ o'.after.toList, Region.binds .any e = true → L e.on = true) → (∀ e ∈ o.after.toList, Region.binds .any e = true → L e.on = true) → (∀ e ∈ o.after.toList, Region.binds .any e = true → Φ e.on w (vs e.on)) → ∀ K : Act → World → Prop, (∀ v w', R w w' → S (updB L i) (upd vs i v) w' → Φ i w' v → K ((F vs).put o.dst v) w') →
  Wrap (if Region.wanted o (yielded l.toArray (F vs).tmps) = true then Oper.wp P o (F vs) w K Q else K ((F vs).put o.dst undef) w)
theorem region_invW {id : Nat} {a0 : Act} {w : World} {l : List Oper} {F : (Nat → Value) → Act} (Φ : Nat → World → Value → Prop) (R : World → World → Prop) (S : (Nat → Bool) → (Nat → Value) → World → Prop) (hm : P.follows .mixedOrders = true) (hd : apartL l = true) (hb : backC .any l.toArray = true)
  (hΦ : ∀ w w', R w w' → ∀ j x, Φ j w x → Φ j w' x) (hS0 : S (fun _ => false) (ownV l a0) w.drew) (hF : ∀ vs, fillR l 0 vs a0 = F vs)
  (hstep : StepsL (OwesW P Q l F Φ R S) 0 l)
  (hend : ∀ vs L w, S L vs w → (∀ i, i < l.length → L i = true) → (∀ i, i < l.length → Φ i w (vs i)) → Q .normal (F vs) w) : (Code.region id l.toArray true).wp P Q a0 w := by
 refine wp_region_any hm ?_; have hrep : (fun j => (Array.replicate l.toArray.size false).getD j false) = (fun _ => false) := by funext j; exact repF
 have h := wpAny_invw (P := P) (Q := Q) (md := .any) (ops := l.toArray) (Φ := Φ) (R := R) S a0 hd hb hΦ (fun i o ho vs L w hSw hL hcl hdl hdep K hK => by
  have := hstep i o (by simpa using ho); rw [Nat.zero_add] at this; have h2 := (this vs L w hSw hL (fun j o' hj hlj e he hbd => hcl j o' (by simpa using hj) hlj e (by simpa using he) hbd) (fun e he hbd => hdl e (by simpa using he) hbd) (fun e he hbd => hdep e (by simpa using he) hbd) K (by rw [← hF vs]; exact hK)).un; rw [← hF vs] at h2
  exact h2) (fun vs L w hSw hall h => by
   have h3 := hend vs L w hSw (fun i hi => hall i (by simpa using hi)) (fun i hi => h i (by simpa using hi)); rw [← hF vs] at h3
   exact h3) l.toArray.size (Array.replicate l.toArray.size false) (ownV l a0) w.drew (by simp) (by simp) (fun j o _ hj => by rw [repF] at hj; cases hj) (by rw [hrep]; exact hS0) (fun j hj => by rw [repF] at hj; cases hj)
 rw [fillR_id] at h
 ·exact h
 ·intro j o ho d hd'; rw [Nat.zero_add]; unfold ownV; rw [ho]; simp [hd']
end
end Go.Proofs.YtijkfagkbfbpmaaGreatDoor
namespace Go.Proofs.YtijkfagkbfbpmaaGreatDoor
open Go.RowKit
theorem Sl.facts {w : World} {g : Nat} (h : Sl w g) : (∃ a, w.cell? ⟨g, 0, none⟩ = some a) ∧ (∃ a, w.cell? ⟨g, 1, none⟩ = some a) ∧ w.frozen? ⟨g, 0, none⟩ = false ∧ w.frozen? ⟨g, 1, none⟩ = false := by
 obtain ⟨r1, r2, r3, r4, r5, r6, hb⟩ := h; exact ⟨⟨_, hb.cell 0⟩, ⟨_, hb.cell 1⟩, hb.frozen 0, hb.frozen 1⟩
end Go.Proofs.YtijkfagkbfbpmaaGreatDoor
namespace Go.Proofs.YtijkfagkbfbpmaaGreatDoor
open Go.RowKit
/-- the limbs of a ratio, whatever they are -/
abbrev LP := List Nat × List Nat
def RtP (w : World) (v : Value) (x : LP) : Prop := RtL w v x.1 x.2
theorem RtP.below {w w' : World} {v : Value} {x : LP} (h : RtP w v x) (hb : Below w.heap.size w w') : RtP w' v x := RtL.below h hb
theorem RtP.shape {w : World} {v : Value} {x : LP} (h : RtP w v x) : ∃ A1 k1 c1 A2 k2 c2, v = .agg #[.slice A1 k1 c1, .slice A2 k2 c2] := RtL.shape h
def nilP : LP := ([], [])
def ratP (p q : Nat) : LP := (Nm.lb p, Nm.lb (Nm.dn q))
def validP (x : LP) : Int := Nm.validE x.1 x.2
theorem RtP.good {w : World} {v : Value} {x : LP} (h : RtP w v x) (hv : validP x = 0) : ∃ p q, x = ratP p q ∧ Nm.Good p q ∧ Rat w v p q := by
 obtain ⟨p, q, ⟨e1, e2, hg⟩, hr⟩ := RtL.good h hv; exact ⟨p, q, Prod.ext e1 e2, hg, hr⟩
end Go.Proofs.YtijkfagkbfbpmaaGreatDoor
namespace Go.Proofs.YtijkfagkbfbpmaaGreatDoor
open Go.RowKit
end Go.Proofs.YtijkfagkbfbpmaaGreatDoor
namespace Go.Proofs.YtijkfagkbfbpmaaGreatDoor
open Go.RowKit
theorem good_lt {p q : Nat} (g : Nm.Good p q) : p < Nm.B ^ 64 ∧ q < Nm.B ^ 64 := by
 refine ⟨Nm.lb_length_lt.1 g.fits.1, ?_⟩; have h := g.fits.2; unfold Nm.dn at h; by_cases h1 : q = 1
 ·subst h1; exact Nat.one_lt_pow (by omega) (by unfold Nm.B; omega)
 ·rw [if_neg h1] at h; exact Nm.lb_length_lt.1 h
end Go.Proofs.YtijkfagkbfbpmaaGreatDoor
namespace Go.Proofs.YtijkfagkbfbpmaaGreatDoor
open Go Go.RowKit
theorem RtP.mapL {w w' : World} {v : Value} {x : LP} (h : RtP w v x) (hm : ∀ A c l, Lim w A c l → Lim w' A c l) : RtP w' v x := by
 obtain ⟨A1, k1, c1, A2, k2, c2, rfl, h1, h2, e1, e2⟩ := h; exact ⟨A1, k1, c1, A2, k2, c2, rfl, hm _ _ _ h1, hm _ _ _ h2, e1, e2⟩
end Go.Proofs.YtijkfagkbfbpmaaGreatDoor
namespace Go.Proofs.YtijkfagkbfbpmaaGreatDoor
open Go Go.RowKit
end Go.Proofs.YtijkfagkbfbpmaaGreatDoor
namespace Go.Proofs.YtijkfagkbfbpmaaGreatDoor
open Go Go.RowKit
/- A region of calls on ratios whose last value goes to the result's block g. -/
end Go.Proofs.YtijkfagkbfbpmaaGreatDoor
namespace Go.Proofs.YtijkfagkbfbpmaaGreatDoor
open Go Go.RowKit
end Go.Proofs.YtijkfagkbfbpmaaGreatDoor
namespace Go.Proofs.YtijkfagkbfbpmaaGreatDoor
open Go Go.RowKit
end Go.Proofs.YtijkfagkbfbpmaaGreatDoor
namespace Go.Proofs.YtijkfagkbfbpmaaGreatDoor
open Go Go.RowKit
end Go.Proofs.YtijkfagkbfbpmaaGreatDoor
namespace Go.Proofs.YtijkfagkbfbpmaaGreatDoor
open Go Go.RowKit
/-- limbs -/
def okP (x : LP) : Prop := (∀ a ∈ x.1, a < Nm.B) ∧ ∀ a ∈ x.2, a < Nm.B
theorem RtP.ok {w : World} {v : Value} {x : LP} (h : RtP w v x) : okP x := by
 obtain ⟨A1, k1, c1, A2, k2, c2, rfl, h1, h2, h3, h4⟩ := h; exact ⟨h1.2.2.2.1, h2.2.2.2.1⟩
end Go.Proofs.YtijkfagkbfbpmaaGreatDoor
namespace Go.Proofs.YtijkfagkbfbpmaaGreatDoor
open Go
/- A region that draws its order and ends in a chain: what leads to the chain's first operation is done in any order ('early'), some operations that need nothing of the world are done at any time ('free'), the chain's operations follow each other. -/
section
variable {P : Program} {Q : Exit → Act → World → Prop}
/-- operation i waits for j, itself or through others -/
def reachB (l : List Oper) : Nat → Nat → Nat → Bool
 | 0, _, _ => false
 | n + 1, i, j => match l[i]? with
  | some o => o.after.toList.any fun e => Region.binds .any e && (e.on == j || reachB l n e.on j)
  | none => false
theorem reach_listed {l : List Oper} {L : Nat → Bool} (hcl : ∀ j o', l[j]? = some o' → L j = true → ∀ e ∈ o'.after.toList, Region.binds .any e = true → L e.on = true) :
  ∀ (n i j : Nat) (o : Oper), l[i]? = some o → (∀ e ∈ o.after.toList, Region.binds .any e = true → L e.on = true) → reachB l n i j = true → L j = true
 | 0, _, _, _, _, _, h => by cases h
 | n + 1, i, j, o, ho, hd, h => by
  simp only [reachB, ho, List.any_eq_true, Bool.and_eq_true, Bool.or_eq_true, beq_iff_eq] at h; obtain ⟨e, he, hb, h⟩ := h; have h1 := hd e he hb
  rcases h with h | h
  ·rw [← h]; exact h1
  ·cases ho2 : l[e.on]? with
   | none => cases n <;> simp [reachB, ho2] at h
   | some o2 => exact reach_listed hcl n e.on j o2 ho2 (hcl e.on o2 ho2 h1) h
inductive Tg where
 | early | free
 | chain (k : Nat)
def tagB (l : List Oper) (cs : List Nat) (tags : List Tg) (fr dep : List Nat) : Bool :=
 (List.range l.length).all (fun i => match tags[i]? with
  | some .early => !cs.contains i && (match cs with | c :: _ => reachB l l.length c i | [] => false)
  | some .free => !cs.contains i && fr.contains i && (match l[i]? with | some o => o.after.toList.all (fun e => !Region.binds .any e || fr.contains e.on) | none => false)
  | some (.chain k) => cs[k]? == some i && !fr.contains i
  | none => false) &&
 (List.range cs.length).all (fun k => (List.range k).all fun j => match cs[k]?, cs[j]? with
  | some a, some b => reachB l l.length a b && a != b
  | _, _ => false) && !cs.isEmpty && cs.all (fun c => decide (c < l.length)) && dep.all (fun d => match tags[d]? with | some .early => true | _ => false)
def OwesK (P : Program) (Q : Exit → Act → World → Prop) (l : List Oper) (a0 : Act) (F : (Nat → Value) → Act) (cs : List Nat) (tags : List Tg) (fr : List Nat) (Φ : (Nat → Value) → Nat → World → Value → Prop) (R : World → World → Prop) (S : List Value → (Nat → Value) → World → Prop) (i : Nat) (o : Oper) : Prop :=
 match tags[i]? with
 | some .early => ∀ vs w, S [] vs w → (∀ c ∈ cs, vs c = ownV l a0 c) → (∀ e ∈ o.after.toList, Region.binds .any e = true → Φ vs e.on w (vs e.on)) → ∀ K : Act → World → Prop, (∀ v w', R w w' → Φ vs i w' v → K ((F vs).put o.dst v) w') →
  Wrap (if Region.wanted o (yielded l.toArray (F vs).tmps) = true then Oper.wp P o (F vs) w K Q else K ((F vs).put o.dst undef) w)
 | some .free => ∀ vs w, (∀ e ∈ o.after.toList, Region.binds .any e = true → Φ vs e.on w (vs e.on)) → ∀ K : Act → World → Prop, (∀ v, Φ vs i w v → K ((F vs).put o.dst v) w) →
  Wrap (if Region.wanted o (yielded l.toArray (F vs).tmps) = true then Oper.wp P o (F vs) w K Q else K ((F vs).put o.dst undef) w)
 | some (.chain k) => ∀ vs w, S ((cs.take k).map vs) vs w → (∀ e ∈ o.after.toList, Region.binds .any e = true → (k == 0 || fr.contains e.on) = true → Φ vs e.on w (vs e.on)) → ∀ K : Act → World → Prop, (∀ v w', S ((cs.take k).map vs ++ [v]) vs w' → K ((F vs).put o.dst v) w') →
  Wrap (if Region.wanted o (yielded l.toArray (F vs).tmps) = true then Oper.wp P o (F vs) w K Q else K ((F vs).put o.dst undef) w)
 | none => True
/-- how it stands, by what is listed -/
def StK (l : List Oper) (a0 : Act) (cs : List Nat) (fr : List Nat) (Φ : (Nat → Value) → Nat → World → Value → Prop) (S : List Value → (Nat → Value) → World → Prop) (L : Nat → Bool) (vs : Nat → Value) (w : World) : Prop :=
 ∃ k, k ≤ cs.length ∧ (∀ (j c : Nat), cs[j]? = some c → (L c = true ↔ j < k)) ∧ S ((cs.take k).map vs) vs w ∧ (∀ j, L j = true → j < l.length ∧ (k = 0 ∨ fr.contains j = true → Φ vs j w (vs j))) ∧ (∀ j, L j = false → vs j = ownV l a0 j)
theorem map_upd {cs : List Nat} {k i : Nat} {vs : Nat → Value} {v : Value} (h : i ∉ cs.take k) : (cs.take k).map (upd vs i v) = (cs.take k).map vs := by
 apply List.map_congr_left
 intro c hc; exact if_neg (fun e : c = i => h (e ▸ hc))
theorem region_chain {id : Nat} {a0 : Act} {w : World} {l : List Oper} {F : (Nat → Value) → Act} (cs : List Nat) (tags : List Tg) (fr dep : List Nat) (Φ : (Nat → Value) → Nat → World → Value → Prop) (R : World → World → Prop) (S : List Value → (Nat → Value) → World → Prop) (hm : P.follows .mixedOrders = true) (hd : apartL l = true) (hb : backC .any l.toArray = true) (ht : tagB l cs tags fr dep = true)
  (hC : StepsL (Hangs Φ) 0 l) (hR : ∀ vs w w', R w w' → ∀ j x, Φ vs j w x → Φ vs j w' x) (hF' : ∀ vs w w' j x, fr.contains j = true → Φ vs j w x → Φ vs j w' x) (hS : ∀ vs vs' w w', R w w' → S [] vs w → S [] vs' w') (hins : ∀ li vs vs' w, (∀ j ∈ dep, vs j = vs' j) → S li vs w → S li vs' w) (hS0 : ∀ vs, S [] vs w.drew) (hF : ∀ vs, fillR l 0 vs a0 = F vs)
  (hstep : StepsL (OwesK P Q l a0 F cs tags fr Φ R S) 0 l)
  (hend : ∀ vs w, S (cs.map vs) vs w → (∀ i, i < l.length → fr.contains i = true → Φ vs i w (vs i)) → Q .normal (F vs) w) : (Code.region id l.toArray true).wp P Q a0 w := by
 simp only [tagB, Bool.and_eq_true, Bool.not_eq_true', List.all_eq_true, List.mem_range] at ht; obtain ⟨⟨⟨⟨ht1, ht2⟩, ht3⟩, ht4⟩, ht5⟩ := ht; simp only [decide_eq_true_iff] at ht4
 have hch : ∀ (a b ca cb : Nat), cs[a]? = some ca → cs[b]? = some cb → b < a → reachB l l.length ca cb = true ∧ ca ≠ cb := by
  intro a b ca cb ha hb2 hlt; have h := ht2 a (List.getElem?_eq_some_iff.1 ha).1 b hlt; rw [ha, hb2] at h
  simpa using h
 have hinj : ∀ (a b c : Nat), cs[a]? = some c → cs[b]? = some c → a = b := by
  intro a b c ha hb2
  rcases Nat.lt_trichotomy a b with h | h | h
  ·exact absurd rfl (hch b a c c hb2 ha h).2
  ·exact h
  ·exact absurd rfl (hch a b c c ha hb2 h).2
 refine region_invW (F := F) (fun _ _ _ => True) (fun _ _ => True) (StK l a0 cs fr Φ S) hm hd hb (fun _ _ _ _ _ h => h) ?_ hF ?_ ?_
 ·refine ⟨0, Nat.zero_le _, fun j c _ => ?_, by simpa using hS0 _, (fun j h => by cases h), fun j _ => rfl⟩; simp
 ·intro i o ho vs L W hSt hL hcl hdl _ K hK; rw [Nat.zero_add] at hL hK; obtain ⟨k0, hk0, hiff, hSk, hPh, hUn⟩ := hSt; have hi : i < l.length := (List.getElem?_eq_some_iff.1 ho).1; have hown := hstep i o ho; rw [Nat.zero_add] at hown
  have hhang : ∀ (j : Nat) w2 v, L j = true → Φ vs j w2 (vs j) → Φ (upd vs i v) j w2 (vs j) := by
   intro j w2 v hj h; have hjl : j < l.length := (hPh j hj).1; refine hC j _ (List.getElem?_eq_getElem hjl) vs (upd vs i v) w2 (vs j) (fun e he hb2 => ?_) (by rw [Nat.zero_add]; exact h) |> fun h => by rwa [Nat.zero_add] at h
   symm
   refine if_neg (fun e2 => ?_); have := hcl j _ (List.getElem?_eq_getElem hjl) hj e he hb2; rw [e2, hL] at this
   cases this
  have hself : ∀ w2 v, Φ vs i w2 v → Φ (upd vs i v) i w2 v := by
   intro w2 v h; refine hC i o ho vs (upd vs i v) w2 v (fun e he hb2 => ?_) (by rw [Nat.zero_add]; exact h) |> fun h => by rwa [Nat.zero_add] at h
   symm
   refine if_neg (fun e2 => ?_); have := hdl e he hb2; rw [e2, hL] at this
   cases this
  have ht := ht1 i hi; unfold OwesK at hown
  cases htg : tags[i]? with
  | none => rw [htg] at ht; cases ht
  | some tg =>
   rw [htg] at ht hown
   have hun : ∀ (v : Value) (j : Nat), updB L i j = false → upd vs i v j = ownV l a0 j := by
    intro v j hj; by_cases hji : j = i
    ·subst hji; rw [show updB L j j = true from if_pos rfl] at hj; cases hj
    ·rw [show updB L i j = L j from if_neg hji] at hj; rw [show upd vs i v j = vs j from if_neg hji]; exact hUn j hj
   have hdep2 : ∀ (v : Value), tags[i]? ≠ some .early → ∀ j ∈ dep, vs j = upd vs i v j := by
    intro v hne j hj
    symm
    refine if_neg (fun e => ?_); have h := ht5 j hj; rw [e] at h
    cases h2 : tags[i]? with
    | none => rw [h2] at h; cases h
    | some x => cases x with
     | early => exact hne h2
     | free => rw [h2] at h; cases h
     | chain _ => rw [h2] at h; cases h
   -- an operation that is not of the chain: the stage stays
   have hkeep : ∀ v w', i ∉ cs → S ((cs.take k0).map vs) (upd vs i v) w' → (∀ j, L j = true → k0 = 0 ∨ fr.contains j = true → Φ vs j w' (vs j)) → (k0 = 0 ∨ fr.contains i = true → Φ vs i w' v) → StK l a0 cs fr Φ S (updB L i) (upd vs i v) w' := by
    intro v w' hni hS2 hP2 hv; refine ⟨k0, hk0, fun j c hc => ?_, by rw [map_upd (fun h => hni (List.mem_of_mem_take h))]; exact hS2, fun j hj => ?_, hun v⟩
    ·have : c ≠ i := fun e => hni (e ▸ List.mem_of_getElem? hc)
     rw [show updB L i c = L c from if_neg this]; exact hiff j c hc
    ·by_cases hji : j = i
     ·subst hji; refine ⟨hi, fun h => ?_⟩; rw [show upd vs j v j = v from if_pos rfl]; exact hself _ _ (hv h)
     ·rw [show updB L i j = L j from if_neg hji] at hj; refine ⟨(hPh j hj).1, fun h => ?_⟩; rw [show upd vs i v j = vs j from if_neg hji]; exact hhang j w' v hj (hP2 j hj h)
   cases tg with
   | early =>
    simp only [Bool.and_eq_true, Bool.not_eq_true'] at ht hown; obtain ⟨hni, hre⟩ := ht; have hni : i ∉ cs := by simpa using hni
    cases cs with
    | nil => cases ht3
    | cons c0 cs =>
     have hk : k0 = 0 := by
      rcases Nat.eq_zero_or_pos k0 with h | h
      ·exact h
      ·exfalso
       have h1 := (hiff 0 c0 rfl).2 h; have hc0 := (hPh c0 h1).1; have := reach_listed hcl l.length c0 i _ (List.getElem?_eq_getElem hc0) (hcl c0 _ (List.getElem?_eq_getElem hc0) h1) hre; rw [hL] at this; cases this
     subst hk; refine hown vs W (by simpa using hSk) (fun c hc => hUn c ?_) (fun e he hb2 => (hPh _ (hdl e he hb2)).2 (.inl rfl)) K (fun v w' hRw hv => hK v w' trivial (hkeep v w' hni ?_ ?_ (fun _ => hv)) trivial)
     ·cases hLc : L c with
      | false => rfl
      | true =>
       obtain ⟨j, hj⟩ := List.getElem?_of_mem hc; have := (hiff j c hj).1 hLc; omega
     ·simpa using hS _ _ _ _ hRw (by simpa using hSk)
     ·intro j hj h; exact hR vs _ _ hRw j _ ((hPh j hj).2 h)
   | free =>
    simp only [Bool.and_eq_true, Bool.not_eq_true'] at ht hown; obtain ⟨⟨hni, hfi⟩, hfa⟩ := ht; have hni : i ∉ cs := by simpa using hni
    rw [ho] at hfa; simp only [List.all_eq_true, Bool.or_eq_true, Bool.not_eq_true'] at hfa; refine hown vs W (fun e he hb2 => (hPh _ (hdl e he hb2)).2 (.inr ?_)) K (fun v hv => hK v W trivial (hkeep v W hni (hins _ _ _ _ (hdep2 v (by intro e; rw [htg] at e; cases e)) hSk) (fun j hj h => (hPh j hj).2 h) (fun _ => hv)) trivial)
    rcases hfa e he with h | h
    ·rw [hb2] at h; cases h
    ·exact h
   | chain k =>
    simp only [Bool.and_eq_true, Bool.not_eq_true', beq_iff_eq] at ht hown; obtain ⟨hck, hfi⟩ := ht; have hkl : k < cs.length := (List.getElem?_eq_some_iff.1 hck).1
    have h1 : ¬ k < k0 := fun h => by
     have := (hiff k i hck).2 h; rw [hL] at this; cases this
    have hk : k0 = k := by
     rcases Nat.lt_or_ge k0 k with h | h
     ·exfalso
      have hc0 : cs[k0]? = some (cs[k0]'(by omega)) := List.getElem?_eq_getElem (by omega); have hr := (hch k k0 i _ hck hc0 h).1; have := reach_listed hcl l.length i _ o ho hdl hr; have := (hiff k0 _ hc0).1 this; omega
     ·omega
    subst hk; refine hown vs W hSk (fun e he hb2 hf => (hPh _ (hdl e he hb2)).2 (by simpa using hf)) K (fun v w' hS2 => hK v w' trivial ⟨k0 + 1, by omega, fun j c hc => ?_, ?_, fun j hj => ?_, hun v⟩ trivial)
    ·by_cases hci : c = i
     ·subst hci; rw [show updB L c c = true from if_pos rfl]; have := hinj j k0 c hc hck; simp; omega
     ·rw [show updB L i c = L c from if_neg hci, hiff j c hc]; have : j ≠ k0 := fun e => hci (by rw [e, hck] at hc; exact (Option.some.inj hc).symm)
      omega
    ·have hni : i ∉ cs.take k0 := by
      intro h; obtain ⟨j, hj⟩ := List.getElem?_of_mem h
      have hj2 : j < k0 := by
       have := (List.getElem?_eq_some_iff.1 hj).1; simp at this; omega
      rw [List.getElem?_take_of_lt hj2] at hj; have := hinj j k0 i hj hck; omega
     rw [List.take_add_one, hck, List.map_append, map_upd hni]; have h3 := hins _ _ _ _ (hdep2 v (by intro e; rw [htg] at e; cases e)) hS2
     simpa [upd] using h3
    ·by_cases hji : j = i
     ·subst hji; refine ⟨hi, fun h => ?_⟩
      rcases h with h | h
      ·omega
      ·rw [hfi] at h; cases h
     ·rw [show updB L i j = L j from if_neg hji] at hj; refine ⟨(hPh j hj).1, fun h => ?_⟩; rw [show upd vs i v j = vs j from if_neg hji]
      have hf : fr.contains j = true := by
       rcases h with h | h
       ·omega
       ·exact h
      exact hhang j w' v hj (hF' vs _ _ j _ hf ((hPh j hj).2 (.inr hf)))
 ·intro vs L W hSt hall _; obtain ⟨k0, hk0, hiff, hSk, hPh, hUn⟩ := hSt
  have hk : k0 = cs.length := by
   rcases Nat.lt_or_ge k0 cs.length with h | h
   ·exfalso
    have hc0 : cs[k0]? = some cs[k0] := List.getElem?_eq_getElem h; have hcl : cs[k0] < l.length := ht4 _ (List.getElem_mem h); have := (hiff k0 _ hc0).1 (hall _ hcl); omega
   ·omega
  subst hk; rw [List.take_length] at hSk; exact hend vs W hSk (fun i hi hf => (hPh i (hall i hi)).2 (.inr hf))
end
end Go.Proofs.YtijkfagkbfbpmaaGreatDoor
namespace Go.Proofs.YtijkfagkbfbpmaaGreatDoor
open Go Go.RowKit
theorem Rd.newC (w : World) (T : TypeId) (cs : List Value) : Rd (w.alloc (.cells cs.toArray T)) (some ⟨w.heap.size, 0, none⟩) cs := by
 intro _; refine ⟨_, _, rfl, fun i h => ?_⟩; rw [Nat.zero_add, (Blk.new w T cs.toArray).cell]; simp [h]
theorem RtP.grownBy {w w' : World} {v a : Value} {x : LP} (h : RtP w v x) (k : w.grownBy w' a.ownBlock) (hO : OwnAll NoL w a) : RtP w' v x := h.mapL fun _ _ _ hl => hl.grownBy k hO
theorem RtP.noL {w : World} {v1 v2 : Value} {x : LP} (h : RtP w (.agg #[v1, v2]) x) : (∀ u ∈ [v1, v2], NoL u) ∧ ∀ u ∈ [v1, v2], u.oneCell' = true := by
 obtain ⟨A1, k1, c1, A2, k2, c2, e⟩ := h.shape; simp only [Value.agg.injEq, Array.mk.injEq, List.cons.injEq, and_true] at e; obtain ⟨rfl, rfl⟩ := e
 constructor
 ·intro u hu; simp only [List.mem_cons, List.not_mem_nil, or_false] at hu
  rcases hu with rfl | rfl <;> (intro n e; cases e)
 ·intro u hu; simp only [List.mem_cons, List.not_mem_nil, or_false] at hu
  rcases hu with rfl | rfl <;> rfl
end Go.Proofs.YtijkfagkbfbpmaaGreatDoor
