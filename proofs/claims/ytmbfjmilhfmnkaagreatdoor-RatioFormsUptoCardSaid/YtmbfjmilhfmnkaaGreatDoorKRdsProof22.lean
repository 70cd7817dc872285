import Derived.Test.YtmbfjmilhfmnkaaGreatDoorKRdsProof21
import Derived.Test.YtmbfjmilhfmnkaaGreatDoorKRdsProof18
import Derived.Test.YtmbfjmilhfmnkaaGreatDoorS0
set_option linter.unusedVariables false
set_option linter.unusedSimpArgs false
namespace Go.Proofs.YtmbfjmilhfmnkaaGreatDoor
open Go Go.RowKit
def prC (p : Value × Value) : List Value := [p.1, p.2]
theorem prC_len (p : Value × Value) : (prC p).length = 2 := rfl
/-- a slice of ratios -/
def RatRow (w : World) (A : Option Addr) (k : Nat) (r : List LP) : Prop := ∃ ps : List (Value × Value), RowS prC w A k ps ∧ ps.length = r.length ∧ ∀ (i : Nat) p x, ps[i]? = some p → r[i]? = some x → RtP w (.agg #[p.1, p.2]) x
theorem RatRow.below {w w' : World} {A : Option Addr} {k : Nat} {r : List LP} (h : RatRow w A k r) (hb : Below w.heap.size w w') : RatRow w' A k r := by
 obtain ⟨ps, h1, h2, h3⟩ := h; exact ⟨ps, h1.below hb, h2, fun i p x e1 e2 => (h3 i p x e1 e2).below hb⟩
theorem RatRow.len {w : World} {A : Option Addr} {k : Nat} {r : List LP} (h : RatRow w A k r) : k = r.length := by
 obtain ⟨ps, h1, h2, _⟩ := h; rw [← h2]; exact h1.2.1
theorem RatRow.le {w : World} {A : Option Addr} {k : Nat} {r : List LP} (h : RatRow w A k r) : k ≤ 281474976710656 := by
 obtain ⟨ps, h1, _⟩ := h; exact h1.2.2
theorem RatRow.at_ {w : World} {A : Option Addr} {k : Nat} {r : List LP} (h : RatRow w A k r) {i : Nat} (hi : i < k) : ∃ b off v1 v2 x, A = some ⟨b, off, none⟩ ∧ w.cell? ⟨b, off + i * 2, none⟩ = some v1 ∧ w.cell? ⟨b, off + i * 2 + 1, none⟩ = some v2 ∧ Hid (r[i]? = some x) ∧ RtP w (.agg #[v1, v2]) x := by
 have hl := h.len; obtain ⟨ps, h1, h2, h3⟩ := h; have hil : i < ps.length := by omega
 obtain ⟨b, off, e, HC⟩ := h1.at_ prC_len (by omega) hi hil; have hir : i < r.length := by omega
 exact ⟨b, off, ps[i].1, ps[i].2, r[i], e, by have := HC.out 0 _ rfl; rwa [Nat.add_zero] at this, HC.out 1 _ rfl, List.getElem?_eq_getElem hir, h3 i _ _ (List.getElem?_eq_getElem hil) (List.getElem?_eq_getElem hir)⟩
structure SL3 where
 A : Option Addr
 k : Nat
 c : Nat
def sl3C (s : SL3) : List Value := [.slice s.A s.k s.c]
theorem sl3C_len (s : SL3) : (sl3C s).length = 1 := rfl
/-- a slice of slices of ratios -/
def RatRows (w : World) (S : Option Addr) (k : Nat) (rows : List (List LP)) : Prop := ∃ ss : List SL3, RowS sl3C w S k ss ∧ ss.length = rows.length ∧ ∀ (i : Nat) s r, ss[i]? = some s → rows[i]? = some r → RatRow w s.A s.k r
theorem RatRows.below {w w' : World} {S : Option Addr} {k : Nat} {rows : List (List LP)} (h : RatRows w S k rows) (hb : Below w.heap.size w w') : RatRows w' S k rows := by
 obtain ⟨ps, h1, h2, h3⟩ := h; exact ⟨ps, h1.below hb, h2, fun i p x e1 e2 => (h3 i p x e1 e2).below hb⟩
theorem RatRows.len {w : World} {S : Option Addr} {k : Nat} {rows : List (List LP)} (h : RatRows w S k rows) : k = rows.length := by
 obtain ⟨ps, h1, h2, _⟩ := h; rw [← h2]; exact h1.2.1
theorem RatRows.le {w : World} {S : Option Addr} {k : Nat} {rows : List (List LP)} (h : RatRows w S k rows) : k ≤ 281474976710656 := by
 obtain ⟨ps, h1, _⟩ := h; exact h1.2.2
theorem RatRows.at_ {w : World} {S : Option Addr} {k : Nat} {rows : List (List LP)} (h : RatRows w S k rows) {i : Nat} (hi : i < k) : ∃ b off A m c r, S = some ⟨b, off, none⟩ ∧ w.cell? ⟨b, off + i, none⟩ = some (.slice A m c) ∧ Hid (rows[i]? = some r) ∧ RatRow w A m r := by
 have hl := h.len; obtain ⟨ps, h1, h2, h3⟩ := h; have hil : i < ps.length := by omega
 obtain ⟨b, off, e, HC⟩ := h1.at_ sl3C_len (by omega) hi hil; have hir : i < rows.length := by omega
 exact ⟨b, off, ps[i].A, ps[i].k, ps[i].c, rows[i], e, by have := HC.out 0 _ rfl; rwa [Nat.add_zero, Nat.mul_one] at this, List.getElem?_eq_getElem hir, h3 i _ _ (List.getElem?_eq_getElem hil) (List.getElem?_eq_getElem hir)⟩
/-- a plan -/
def PlanV (w : World) (v : Value) (b : LP) (rows : List (List LP)) : Prop := ∃ x1 x2 S k c, v = .agg #[x1, x2, .slice S k c] ∧ RtP w (.agg #[x1, x2]) b ∧ RatRows w S k rows
theorem PlanV.below {w w' : World} {v : Value} {b : LP} {rows : List (List LP)} (h : PlanV w v b rows) (hb : Below w.heap.size w w') : PlanV w' v b rows := by
 obtain ⟨x1, x2, S, k, c, e, h1, h2⟩ := h; exact ⟨x1, x2, S, k, c, e, h1.below hb, h2.below hb⟩
/-- the factor of an outcome with a stake -/
noncomputable def stakeF (b s : LP) (bad : Bool) : LP := if bad then addV oneP (mulV s (subV oneP b)) else subV oneP (mulV s b)
/-- the factor of an outcome of a plan -/
noncomputable def factorV (b : LP) (rows : List (List LP)) (n k : Nat) (bad : Bool) : LP := match rows[n]? with
 | none => oneP
 | some r => match r[k]? with
  | none => oneP
  | some s => stakeF b s bad
theorem Sl.new2 (w : World) : Sl (w.alloc (.cells #[.slice none 0 0, .slice none 0 0] 29)) w.heap.size := ⟨none, 0, 0, none, 0, 0, Blk.new _ _ _⟩
def PhiF5 (g gs gp : Nat) (s1 s2 x1 x2 : Value) (s b : LP) (j : Nat) (w : World) (x : Value) : Prop :=
 match j with
 | 0 => RtP w x oneP
 | 1 => x = .agg #[s1, s2]
 | 2 => RtP w x oneP
 | 3 => x = .pointer (some ⟨gp, 0, none⟩)
 | 4 => x = .agg #[x1, x2]
 | 5 => ∃ v er, x = .tuple #[v, .int .i64 er] ∧ RtP w v (subV oneP b)
 | 6 => RtP w x (subV oneP b)
 | 7 => ∃ er : Int, x = .int .i64 er
 | 8 => RtP w x (subV oneP b)
 | 9 => ∃ v er, x = .tuple #[v, .int .i64 er] ∧ RtP w v (mulV s (subV oneP b))
 | 10 => RtP w x (mulV s (subV oneP b))
 | 11 => ∃ er : Int, x = .int .i64 er
 | 12 => RtP w x (mulV s (subV oneP b))
 | 13 => ∃ v er, x = .tuple #[v, .int .i64 er] ∧ RtP w v (addV oneP (mulV s (subV oneP b)))
 | 14 => RtP w x (addV oneP (mulV s (subV oneP b)))
 | 15 => ∃ er : Int, x = .int .i64 er
 | 16 => RtP w x (addV oneP (mulV s (subV oneP b)))
 | 17 => GoodX w g (addV oneP (mulV s (subV oneP b)))
 | _ => True
theorem PhiF5.keep {B : Nat} {g gs gp : Nat} {s1 s2 x1 x2 : Value} {s b : LP} : ∀ (w w' : World), RX B g (addV oneP (mulV s (subV oneP b))) w w' → ∀ j x, PhiF5 g gs gp s1 s2 x1 x2 s b j w x → PhiF5 g gs gp s1 s2 x1 x2 s b j w' x := by
 intro w w' hr j x h; unfold PhiF5 at h ⊢
 split <;> simp only at h ⊢
 all_goals first
  | exact h
  | exact h.mapL hr.lim
  | exact h.map hr
  | (obtain ⟨v, er, e, h⟩ := h; exact ⟨v, er, e, h.mapL hr.lim⟩)
def PhiF6 (g gs gp : Nat) (s1 s2 x1 x2 : Value) (s b : LP) (j : Nat) (w : World) (x : Value) : Prop :=
 match j with
 | 0 => RtP w x oneP
 | 1 => x = .agg #[s1, s2]
 | 2 => x = .pointer (some ⟨gp, 0, none⟩)
 | 3 => x = .agg #[x1, x2]
 | 4 => ∃ v er, x = .tuple #[v, .int .i64 er] ∧ RtP w v (mulV s b)
 | 5 => RtP w x (mulV s b)
 | 6 => ∃ er : Int, x = .int .i64 er
 | 7 => RtP w x (mulV s b)
 | 8 => ∃ v er, x = .tuple #[v, .int .i64 er] ∧ RtP w v (subV oneP (mulV s b))
 | 9 => RtP w x (subV oneP (mulV s b))
 | 10 => ∃ er : Int, x = .int .i64 er
 | 11 => RtP w x (subV oneP (mulV s b))
 | 12 => GoodX w g (subV oneP (mulV s b))
 | _ => True
theorem PhiF6.keep {B : Nat} {g gs gp : Nat} {s1 s2 x1 x2 : Value} {s b : LP} : ∀ (w w' : World), RX B g (subV oneP (mulV s b)) w w' → ∀ j x, PhiF6 g gs gp s1 s2 x1 x2 s b j w x → PhiF6 g gs gp s1 s2 x1 x2 s b j w' x := by
 intro w w' hr j x h; unfold PhiF6 at h ⊢
 split <;> simp only at h ⊢
 all_goals first
  | exact h
  | exact h.mapL hr.lim
  | exact h.map hr
  | (obtain ⟨v, er, e, h⟩ := h; exact ⟨v, er, e, h.mapL hr.lim⟩)
end Go.Proofs.YtmbfjmilhfmnkaaGreatDoor
namespace Go.Proofs.YtmbfjmilhfmnkaaGreatDoor
open Go Go.RowKit
/-- the stake of a plan -/
def stakeV (rows : List (List LP)) (n k : Nat) : LP := match rows[n]? with
 | none => nilP
 | some r => match r[k]? with
  | none => nilP
  | some s => s
theorem NilS.facts {w : World} {g : Nat} (h : Blk w g 29 #[.slice none 0 0, .slice none 0 0]) : Sl w g := ⟨none, 0, 0, none, 0, 0, h⟩
def PhiT2 (g gs gp : Nat) (s1 s2 x1 x2 : Value) (s b : LP) (j : Nat) (w : World) (x : Value) : Prop :=
 match j with
 | 0 => RtP w x oneP
 | 1 => x = .agg #[s1, s2]
 | 2 => x = .agg #[x1, x2]
 | 3 => RtP w x (subV oneP b)
 | 4 => RtP w x (mulV s (subV oneP b))
 | 5 => RtP w x (addV oneP (mulV s (subV oneP b)))
 | 6 => GoodX w g (addV oneP (mulV s (subV oneP b)))
 | _ => True
theorem PhiT2.keep {B : Nat} {g gs gp : Nat} {s1 s2 x1 x2 : Value} {s b : LP} : ∀ (w w' : World), RX B g (addV oneP (mulV s (subV oneP b))) w w' → ∀ j x, PhiT2 g gs gp s1 s2 x1 x2 s b j w x → PhiT2 g gs gp s1 s2 x1 x2 s b j w' x := by
 intro w w' hr j x h; unfold PhiT2 at h ⊢
 split <;> simp only at h ⊢
 all_goals first
  | exact h
  | exact h.mapL hr.lim
  | exact h.map hr
  | (obtain ⟨v, er, e, h⟩ := h; exact ⟨v, er, e, h.mapL hr.lim⟩)
end Go.Proofs.YtmbfjmilhfmnkaaGreatDoor
namespace Go.Proofs.YtmbfjmilhfmnkaaGreatDoor
open Go Go.RowKit
/-- no stake of a plan with a bound -/
noncomputable def wrongB (b s : LP) : Bool := !smallB s || !atB (mulV s b) oneP
noncomputable def rowBad (b : LP) (n : Nat) (r : List LP) : Bool := decide (r.length ≠ n + 1) || r.any (wrongB b)
noncomputable def badFrom (b : LP) : Nat → List (List LP) → Bool
 | _, [] => false
 | n, r :: rs => rowBad b n r || badFrom b (n + 1) rs
/-- what Valid says of a plan -/
noncomputable def planE (b : LP) (rows : List (List LP)) : Int := if 16 < rows.length then 4 else if partB b = false then 1 else if badFrom b 0 rows = true then 1 else 0
theorem first_any {α : Type} {l : List α} {p : α → Bool} {x : Int} (h : FirstI l p x) : decide (0 ≤ x) = l.any p := by
 rw [Bool.eq_iff_iff, decide_eq_true_iff, List.any_eq_true]
 rcases h with ⟨h1, h2⟩ | ⟨i, a, h1, h2, h3, _⟩
 ·constructor
  ·intro h; omega
  ·rintro ⟨n, hn, hb⟩; obtain ⟨j, hj⟩ := List.getElem?_of_mem hn; rw [h2 j n hj] at hb; cases hb
 ·constructor
  ·intro _; exact ⟨a, List.mem_of_getElem? h2, h3⟩
  ·intro _; omega
theorem badFrom_drop {b : LP} {rows : List (List LP)} {i : Nat} {r : List LP} (h : rows[i]? = some r) : badFrom b i (rows.drop i) = (rowBad b i r || badFrom b (i + 1) (rows.drop (i + 1))) := by
 obtain ⟨h1, h2⟩ := List.getElem?_eq_some_iff.1 h; rw [List.drop_eq_getElem_cons h1, h2]; rfl
theorem badFrom_end {b : LP} {rows : List (List LP)} {i : Nat} (h : rows.length ≤ i) : badFrom b i (rows.drop i) = false := by
 rw [List.drop_eq_nil_of_le h]; rfl
end Go.Proofs.YtmbfjmilhfmnkaaGreatDoor
namespace Go.Proofs.YtmbfjmilhfmnkaaGreatDoor
open Go Go.RowKit
theorem valid_nilP : validP nilP = 0 := by rw [← nil_ratP]; exact valid_rat g01
theorem resP_valid {n d : Nat} (hd : 0 < d) : validP (resP n d).2 = 0 := by
 unfold resP
 split
 ·rename_i h; exact valid_rat (good_red hd h)
 ·exact valid_nilP
/-- limbs -/
def okP (x : LP) : Prop := (∀ a ∈ x.1, a < Nm.B) ∧ ∀ a ∈ x.2, a < Nm.B
theorem RtP.ok {w : World} {v : Value} {x : LP} (h : RtP w v x) : okP x := by
 obtain ⟨A1, k1, c1, A2, k2, c2, rfl, h1, h2, h3, h4⟩ := h; exact ⟨h1.2.2.2.1, h2.2.2.2.1⟩
theorem valid_good {x : LP} (h : okP x) (hv : validP x = 0) : ∃ p q, x = ratP p q ∧ Nm.Good p q := by
 obtain ⟨p, q, e1, e2, hg⟩ := Nm.validE_spec h.1 h.2 hv; exact ⟨p, q, Prod.ext e1 e2, hg⟩
theorem binF_valid {f : Nat × Nat → Nat × Nat → Int × LP} {a b : LP} (ha : okP a) (hb : okP b) (hf : ∀ pa qa pb qb, Nm.Good pa qa → Nm.Good pb qb → validP (f (pa, qa) (pb, qb)).2 = 0) : validP (binF f a b).2 = 0 := by
 by_cases h : firstE (validP a) (validP b) = 0
 ·obtain ⟨e1, e2⟩ := firstE_zero.1 h; obtain ⟨pa, qa, rfl, ga⟩ := valid_good ha e1; obtain ⟨pb, qb, rfl, gb⟩ := valid_good hb e2; rw [binF_rat ga gb]; exact hf _ _ _ _ ga gb
 ·rw [binF_bad h]; exact valid_nilP
theorem mulV_valid {a b : LP} (ha : okP a) (hb : okP b) : validP (mulV a b) = 0 := binF_valid ha hb fun _ _ _ _ ga gb => resP_valid (Nat.mul_pos ga.1 gb.1)
theorem addV_valid {a b : LP} (ha : okP a) (hb : okP b) : validP (addV a b) = 0 := binF_valid ha hb fun _ _ _ _ ga gb => resP_valid (Nat.mul_pos ga.1 gb.1)
theorem subV_valid {a b : LP} (ha : okP a) (hb : okP b) : validP (subV a b) = 0 := binF_valid ha hb fun _ _ _ _ ga gb => by
 dsimp only
 split
 ·exact valid_nilP
 ·exact resP_valid (Nat.mul_pos ga.1 gb.1)
theorem any_drop {p : LP → Bool} {r : List LP} {k : Nat} {s : LP} (h : r[k]? = some s) : (r.drop k).any p = (p s || (r.drop (k + 1)).any p) := by
 obtain ⟨h1, h2⟩ := List.getElem?_eq_some_iff.1 h; rw [List.drop_eq_getElem_cons h1, h2]; rfl
theorem any_end {p : LP → Bool} {r : List LP} {k : Nat} (h : r.length ≤ k) : (r.drop k).any p = false := by
 rw [List.drop_eq_nil_of_le h]; rfl
end Go.Proofs.YtmbfjmilhfmnkaaGreatDoor
namespace Go.Proofs.YtmbfjmilhfmnkaaGreatDoor
open Go
/- A region that draws its order and ends in a chain: what leads to the chain's first operation is done in any order ('early'), some operations that need nothing of the world are done at any time ('free'), the chain's operations follow each other. -/
section
variable {P : Program} {Q : Exit → Act → World → Prop}
/-- operation i waits for j, itself or through others -/
def reachB (l : List Oper) : Nat → Nat → Nat → Bool
 | 0, _, _ => false
 | n + 1, i, j => match l[i]? with
  | some o => o.after.toList.any fun e => Region.binds .any e && (e.on == j || reachB l n e.on j)
  | none => false
theorem reach_listed {l : List Oper} {L : Nat → Bool} (hcl : ∀ j o', l[j]? = some o' → L j = true → ∀ e ∈ o'.after.toList, Region.binds .any e = true → L e.on = true) :
  ∀ (n i j : Nat) (o : Oper), l[i]? = some o → (∀ e ∈ o.after.toList, Region.binds .any e = true → L e.on = true) → reachB l n i j = true → L j = true
 | 0, _, _, _, _, _, h => by cases h
 | n + 1, i, j, o, ho, hd, h => by
  simp only [reachB, ho, List.any_eq_true, Bool.and_eq_true, Bool.or_eq_true, beq_iff_eq] at h; obtain ⟨e, he, hb, h⟩ := h; have h1 := hd e he hb
  rcases h with h | h
  ·rw [← h]; exact h1
  ·cases ho2 : l[e.on]? with
   | none => cases n <;> simp [reachB, ho2] at h
   | some o2 => exact reach_listed hcl n e.on j o2 ho2 (hcl e.on o2 ho2 h1) h
inductive Tg where
 | early | free
 | chain (k : Nat)
def tagB (l : List Oper) (cs : List Nat) (tags : List Tg) (fr dep : List Nat) : Bool :=
 (List.range l.length).all (fun i => match tags[i]? with
  | some .early => !cs.contains i && (match cs with | c :: _ => reachB l l.length c i | [] => false)
  | some .free => !cs.contains i && fr.contains i && (match l[i]? with | some o => o.after.toList.all (fun e => !Region.binds .any e || fr.contains e.on) | none => false)
  | some (.chain k) => cs[k]? == some i && !fr.contains i
  | none => false) &&
 (List.range cs.length).all (fun k => (List.range k).all fun j => match cs[k]?, cs[j]? with
  | some a, some b => reachB l l.length a b && a != b
  | _, _ => false) && !cs.isEmpty && cs.all (fun c => decide (c < l.length)) && dep.all (fun d => match tags[d]? with | some .early => true | _ => false)
def OwesK (P : Program) (Q : Exit → Act → World → Prop) (l : List Oper) (a0 : Act) (F : (Nat → Value) → Act) (cs : List Nat) (tags : List Tg) (fr : List Nat) (Φ : (Nat → Value) → Nat → World → Value → Prop) (R : World → World → Prop) (S : List Value → (Nat → Value) → World → Prop) (i : Nat) (o : Oper) : Prop :=
 match tags[i]? with
 | some .early => ∀ vs w, S [] vs w → (∀ c ∈ cs, vs c = ownV l a0 c) → (∀ e ∈ o.after.toList, Region.binds .any e = true → Φ vs e.on w (vs e.on)) → ∀ K : Act → World → Prop, (∀ v w', R w w' → Φ vs i w' v → K ((F vs).put o.dst v) w') →
  Wrap (if Region.wanted o (yielded l.toArray (F vs).tmps) = true then Oper.wp P o (F vs) w K Q else K ((F vs).put o.dst undef) w)
 | some .free => ∀ vs w, (∀ e ∈ o.after.toList, Region.binds .any e = true → Φ vs e.on w (vs e.on)) → ∀ K : Act → World → Prop, (∀ v, Φ vs i w v → K ((F vs).put o.dst v) w) →
  Wrap (if Region.wanted o (yielded l.toArray (F vs).tmps) = true then Oper.wp P o (F vs) w K Q else K ((F vs).put o.dst undef) w)
 | some (.chain k) => ∀ vs w, S ((cs.take k).map vs) vs w → (∀ e ∈ o.after.toList, Region.binds .any e = true → (k == 0 || fr.contains e.on) = true → Φ vs e.on w (vs e.on)) → ∀ K : Act → World → Prop, (∀ v w', S ((cs.take k).map vs ++ [v]) vs w' → K ((F vs).put o.dst v) w') →
  Wrap (if Region.wanted o (yielded l.toArray (F vs).tmps) = true then Oper.wp P o (F vs) w K Q else K ((F vs).put o.dst undef) w)
 | none => True
/-- how it stands, by what is listed -/
def StK (l : List Oper) (a0 : Act) (cs : List Nat) (fr : List Nat) (Φ : (Nat → Value) → Nat → World → Value → Prop) (S : List Value → (Nat → Value) → World → Prop) (L : Nat → Bool) (vs : Nat → Value) (w : World) : Prop :=
 ∃ k, k ≤ cs.length ∧ (∀ (j c : Nat), cs[j]? = some c → (L c = true ↔ j < k)) ∧ S ((cs.take k).map vs) vs w ∧ (∀ j, L j = true → j < l.length ∧ (k = 0 ∨ fr.contains j = true → Φ vs j w (vs j))) ∧ (∀ j, L j = false → vs j = ownV l a0 j)
theorem map_upd {cs : List Nat} {k i : Nat} {vs : Nat → Value} {v : Value} (h : i ∉ cs.take k) : (cs.take k).map (upd vs i v) = (cs.take k).map vs := by
 apply List.map_congr_left
 intro c hc; exact if_neg (fun e : c = i => h (e ▸ hc))
theorem region_chain {id : Nat} {a0 : Act} {w : World} {l : List Oper} {F : (Nat → Value) → Act} (cs : List Nat) (tags : List Tg) (fr dep : List Nat) (Φ : (Nat → Value) → Nat → World → Value → Prop) (R : World → World → Prop) (S : List Value → (Nat → Value) → World → Prop) (hm : P.follows .mixedOrders = true) (hd : apartL l = true) (hb : backC .any l.toArray = true) (ht : tagB l cs tags fr dep = true)
  (hC : StepsL (Hangs Φ) 0 l) (hR : ∀ vs w w', R w w' → ∀ j x, Φ vs j w x → Φ vs j w' x) (hF' : ∀ vs w w' j x, fr.contains j = true → Φ vs j w x → Φ vs j w' x) (hS : ∀ vs vs' w w', R w w' → S [] vs w → S [] vs' w') (hins : ∀ li vs vs' w, (∀ j ∈ dep, vs j = vs' j) → S li vs w → S li vs' w) (hS0 : ∀ vs, S [] vs w.drew) (hF : ∀ vs, fillR l 0 vs a0 = F vs)
  (hstep : StepsL (OwesK P Q l a0 F cs tags fr Φ R S) 0 l)
  (hend : ∀ vs w, S (cs.map vs) vs w → (∀ i, i < l.length → fr.contains i = true → Φ vs i w (vs i)) → Q .normal (F vs) w) : (Code.region id l.toArray true).wp P Q a0 w := by
 simp only [tagB, Bool.and_eq_true, Bool.not_eq_true', List.all_eq_true, List.mem_range] at ht; obtain ⟨⟨⟨⟨ht1, ht2⟩, ht3⟩, ht4⟩, ht5⟩ := ht; simp only [decide_eq_true_iff] at ht4
 have hch : ∀ (a b ca cb : Nat), cs[a]? = some ca → cs[b]? = some cb → b < a → reachB l l.length ca cb = true ∧ ca ≠ cb := by
  intro a b ca cb ha hb2 hlt; have h := ht2 a (List.getElem?_eq_some_iff.1 ha).1 b hlt; rw [ha, hb2] at h
  simpa using h
 have hinj : ∀ (a b c : Nat), cs[a]? = some c → cs[b]? = some c → a = b := by
  intro a b c ha hb2
  rcases Nat.lt_trichotomy a b with h | h | h
  ·exact absurd rfl (hch b a c c hb2 ha h).2
  ·exact h
  ·exact absurd rfl (hch a b c c ha hb2 h).2
 refine region_invW (F := F) (fun _ _ _ => True) (fun _ _ => True) (StK l a0 cs fr Φ S) hm hd hb (fun _ _ _ _ _ h => h) ?_ hF ?_ ?_
 ·refine ⟨0, Nat.zero_le _, fun j c _ => ?_, by simpa using hS0 _, (fun j h => by cases h), fun j _ => rfl⟩; simp
 ·intro i o ho vs L W hSt hL hcl hdl _ K hK; rw [Nat.zero_add] at hL hK; obtain ⟨k0, hk0, hiff, hSk, hPh, hUn⟩ := hSt; have hi : i < l.length := (List.getElem?_eq_some_iff.1 ho).1; have hown := hstep i o ho; rw [Nat.zero_add] at hown
  have hhang : ∀ (j : Nat) w2 v, L j = true → Φ vs j w2 (vs j) → Φ (upd vs i v) j w2 (vs j) := by
   intro j w2 v hj h; have hjl : j < l.length := (hPh j hj).1; refine hC j _ (List.getElem?_eq_getElem hjl) vs (upd vs i v) w2 (vs j) (fun e he hb2 => ?_) (by rw [Nat.zero_add]; exact h) |> fun h => by rwa [Nat.zero_add] at h
   symm
   refine if_neg (fun e2 => ?_); have := hcl j _ (List.getElem?_eq_getElem hjl) hj e he hb2; rw [e2, hL] at this
   cases this
  have hself : ∀ w2 v, Φ vs i w2 v → Φ (upd vs i v) i w2 v := by
   intro w2 v h; refine hC i o ho vs (upd vs i v) w2 v (fun e he hb2 => ?_) (by rw [Nat.zero_add]; exact h) |> fun h => by rwa [Nat.zero_add] at h
   symm
   refine if_neg (fun e2 => ?_); have := hdl e he hb2; rw [e2, hL] at this
   cases this
  have ht := ht1 i hi; unfold OwesK at hown
  cases htg : tags[i]? with
  | none => rw [htg] at ht; cases ht
  | some tg =>
   rw [htg] at ht hown
   have hun : ∀ (v : Value) (j : Nat), updB L i j = false → upd vs i v j = ownV l a0 j := by
    intro v j hj; by_cases hji : j = i
    ·subst hji; rw [show updB L j j = true from if_pos rfl] at hj; cases hj
    ·rw [show updB L i j = L j from if_neg hji] at hj; rw [show upd vs i v j = vs j from if_neg hji]; exact hUn j hj
   have hdep2 : ∀ (v : Value), tags[i]? ≠ some .early → ∀ j ∈ dep, vs j = upd vs i v j := by
    intro v hne j hj
    symm
    refine if_neg (fun e => ?_); have h := ht5 j hj; rw [e] at h
    cases h2 : tags[i]? with
    | none => rw [h2] at h; cases h
    | some x => cases x with
     | early => exact hne h2
     | free => rw [h2] at h; cases h
     | chain _ => rw [h2] at h; cases h
   -- an operation that is not of the chain: the stage stays
   have hkeep : ∀ v w', i ∉ cs → S ((cs.take k0).map vs) (upd vs i v) w' → (∀ j, L j = true → k0 = 0 ∨ fr.contains j = true → Φ vs j w' (vs j)) → (k0 = 0 ∨ fr.contains i = true → Φ vs i w' v) → StK l a0 cs fr Φ S (updB L i) (upd vs i v) w' := by
    intro v w' hni hS2 hP2 hv; refine ⟨k0, hk0, fun j c hc => ?_, by rw [map_upd (fun h => hni (List.mem_of_mem_take h))]; exact hS2, fun j hj => ?_, hun v⟩
    ·have : c ≠ i := fun e => hni (e ▸ List.mem_of_getElem? hc)
     rw [show updB L i c = L c from if_neg this]; exact hiff j c hc
    ·by_cases hji : j = i
     ·subst hji; refine ⟨hi, fun h => ?_⟩; rw [show upd vs j v j = v from if_pos rfl]; exact hself _ _ (hv h)
     ·rw [show updB L i j = L j from if_neg hji] at hj; refine ⟨(hPh j hj).1, fun h => ?_⟩; rw [show upd vs i v j = vs j from if_neg hji]; exact hhang j w' v hj (hP2 j hj h)
   cases tg with
   | early =>
    simp only [Bool.and_eq_true, Bool.not_eq_true'] at ht hown; obtain ⟨hni, hre⟩ := ht; have hni : i ∉ cs := by simpa using hni
    cases cs with
    | nil => cases ht3
    | cons c0 cs =>
     have hk : k0 = 0 := by
      rcases Nat.eq_zero_or_pos k0 with h | h
      ·exact h
      ·exfalso
       have h1 := (hiff 0 c0 rfl).2 h; have hc0 := (hPh c0 h1).1; have := reach_listed hcl l.length c0 i _ (List.getElem?_eq_getElem hc0) (hcl c0 _ (List.getElem?_eq_getElem hc0) h1) hre; rw [hL] at this; cases this
     subst hk; refine hown vs W (by simpa using hSk) (fun c hc => hUn c ?_) (fun e he hb2 => (hPh _ (hdl e he hb2)).2 (.inl rfl)) K (fun v w' hRw hv => hK v w' trivial (hkeep v w' hni ?_ ?_ (fun _ => hv)) trivial)
     ·cases hLc : L c with
      | false => rfl
      | true =>
       obtain ⟨j, hj⟩ := List.getElem?_of_mem hc; have := (hiff j c hj).1 hLc; omega
     ·simpa using hS _ _ _ _ hRw (by simpa using hSk)
     ·intro j hj h; exact hR vs _ _ hRw j _ ((hPh j hj).2 h)
   | free =>
    simp only [Bool.and_eq_true, Bool.not_eq_true'] at ht hown; obtain ⟨⟨hni, hfi⟩, hfa⟩ := ht; have hni : i ∉ cs := by simpa using hni
    rw [ho] at hfa; simp only [List.all_eq_true, Bool.or_eq_true, Bool.not_eq_true'] at hfa; refine hown vs W (fun e he hb2 => (hPh _ (hdl e he hb2)).2 (.inr ?_)) K (fun v hv => hK v W trivial (hkeep v W hni (hins _ _ _ _ (hdep2 v (by intro e; rw [htg] at e; cases e)) hSk) (fun j hj h => (hPh j hj).2 h) (fun _ => hv)) trivial)
    rcases hfa e he with h | h
    ·rw [hb2] at h; cases h
    ·exact h
   | chain k =>
    simp only [Bool.and_eq_true, Bool.not_eq_true', beq_iff_eq] at ht hown; obtain ⟨hck, hfi⟩ := ht; have hkl : k < cs.length := (List.getElem?_eq_some_iff.1 hck).1
    have h1 : ¬ k < k0 := fun h => by
     have := (hiff k i hck).2 h; rw [hL] at this; cases this
    have hk : k0 = k := by
     rcases Nat.lt_or_ge k0 k with h | h
     ·exfalso
      have hc0 : cs[k0]? = some (cs[k0]'(by omega)) := List.getElem?_eq_getElem (by omega); have hr := (hch k k0 i _ hck hc0 h).1; have := reach_listed hcl l.length i _ o ho hdl hr; have := (hiff k0 _ hc0).1 this; omega
     ·omega
    subst hk; refine hown vs W hSk (fun e he hb2 hf => (hPh _ (hdl e he hb2)).2 (by simpa using hf)) K (fun v w' hS2 => hK v w' trivial ⟨k0 + 1, by omega, fun j c hc => ?_, ?_, fun j hj => ?_, hun v⟩ trivial)
    ·by_cases hci : c = i
     ·subst hci; rw [show updB L c c = true from if_pos rfl]; have := hinj j k0 c hc hck; simp; omega
     ·rw [show updB L i c = L c from if_neg hci, hiff j c hc]; have : j ≠ k0 := fun e => hci (by rw [e, hck] at hc; exact (Option.some.inj hc).symm)
      omega
    ·have hni : i ∉ cs.take k0 := by
      intro h; obtain ⟨j, hj⟩ := List.getElem?_of_mem h
      have hj2 : j < k0 := by
       have := (List.getElem?_eq_some_iff.1 hj).1; simp at this; omega
      rw [List.getElem?_take_of_lt hj2] at hj; have := hinj j k0 i hj hck; omega
     rw [List.take_add_one, hck, List.map_append, map_upd hni]; have h3 := hins _ _ _ _ (hdep2 v (by intro e; rw [htg] at e; cases e)) hS2
     simpa [upd] using h3
    ·by_cases hji : j = i
     ·subst hji; refine ⟨hi, fun h => ?_⟩
      rcases h with h | h
      ·omega
      ·rw [hfi] at h; cases h
     ·rw [show updB L i j = L j from if_neg hji] at hj; refine ⟨(hPh j hj).1, fun h => ?_⟩; rw [show upd vs i v j = vs j from if_neg hji]
      have hf : fr.contains j = true := by
       rcases h with h | h
       ·omega
       ·exact h
      exact hhang j w' v hj (hF' vs _ _ j _ hf ((hPh j hj).2 (.inr hf)))
 ·intro vs L W hSt hall _; obtain ⟨k0, hk0, hiff, hSk, hPh, hUn⟩ := hSt
  have hk : k0 = cs.length := by
   rcases Nat.lt_or_ge k0 cs.length with h | h
   ·exfalso
    have hc0 : cs[k0]? = some cs[k0] := List.getElem?_eq_getElem h; have hcl : cs[k0] < l.length := ht4 _ (List.getElem_mem h); have := (hiff k0 _ hc0).1 (hall _ hcl); omega
   ·omega
  subst hk; rw [List.take_length] at hSk; exact hend vs W hSk (fun i hi hf => (hPh i (hall i hi)).2 (.inr hf))
end
end Go.Proofs.YtmbfjmilhfmnkaaGreatDoor
