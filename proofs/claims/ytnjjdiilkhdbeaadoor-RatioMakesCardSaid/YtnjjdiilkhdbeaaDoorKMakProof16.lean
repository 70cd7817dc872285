import Derived.Test.YtnjjdiilkhdbeaaDoorKMakProof14
import Derived.Test.YtnjjdiilkhdbeaaDoorKMakProof15
import Derived.Test.YtnjjdiilkhdbeaaDoorS0
set_option linter.unusedVariables false
set_option linter.unusedSimpArgs false
namespace Go.Proofs.YtnjjdiilkhdbeaaDoor
open Go Go.RowKit
def oneP : LP := ratP 1 1
noncomputable def addV (a b : LP) : LP := (addF a b).2
noncomputable def subV (a b : LP) : LP := (subF a b).2
def cmpV (a b : LP) : Int := if firstE (validP a) (validP b) ≠ 0 then 0 else Nm.cmpN ((numL a).1 * (numL b).2) ((numL b).1 * (numL a).2)
def atB (a b : LP) : Bool := decide (cmpV a b ≤ 0)
theorem cmpV_rat {pa qa pb qb : Nat} (ga : Nm.Good pa qa) (gb : Nm.Good pb qb) : cmpV (ratP pa qa) (ratP pb qb) = Nm.cmpN (pa * qb) (pb * qa) := by
 unfold cmpV; rw [if_neg (by rw [valid_rat ga, valid_rat gb]; simp [firstE]), numL_rat ga, numL_rat gb]
/-- what an operation may do to the world: rows of limbs last -/
structure RT (N : Nat) (w w' : World) : Prop where
 be : Below N w w'
 lim : ∀ A c l, Lim w A c l → Lim w' A c l
 sl : ∀ g, Sl w g → Sl w' g
theorem RT.refl (N : Nat) (w : World) : RT N w w := ⟨Below.refl _ _, fun _ _ _ h => h, fun _ h => h⟩
theorem RT.below {N : Nat} {w w' : World} (hb : Below w.heap.size w w') (hN : N ≤ w.heap.size) : RT N w w' := ⟨hb.mono hN, fun _ _ _ h => h.below hb, fun _ h => h.below hb⟩
theorem RT.store {N g : Nat} {w : World} (hs : Sl w g) (hg : N ≤ g) (A : Option Addr) (k c : Nat) (A' : Option Addr) (k' c' : Nat) : RT N w ((w.setCell ⟨g, 0, none⟩ (.slice A k c)).setCell ⟨g, 1, none⟩ (.slice A' k' c')) :=
 ⟨(RS.store hs hg A k c A' k' c').be, fun _ _ _ h => (h.setSl hs _).setSl (hs.set0 A k c) _, (RS.store hs hg A k c A' k' c').sl⟩
theorem RtP.mapL {w w' : World} {v : Value} {x : LP} (h : RtP w v x) (hm : ∀ A c l, Lim w A c l → Lim w' A c l) : RtP w' v x := by
 obtain ⟨A1, k1, c1, A2, k2, c2, rfl, h1, h2, e1, e2⟩ := h; exact ⟨A1, k1, c1, A2, k2, c2, rfl, hm _ _ _ h1, hm _ _ _ h2, e1, e2⟩
/-- the call returns a ratio out of the block of its result -/
theorem ret_ratio {w0 w : World} {v : Value} {x : LP} {g : Nat} (h : RtP w v x) (hs : Sl w g) (hg : w0.heap.size ≤ g) (hb : Below w0.heap.size w0 w) :
  ∃ A k c A' k' c', v = .agg #[.slice A k c, .slice A' k' c'] ∧ (∃ a, w.cell? ⟨g, 0, none⟩ = some a) ∧ (∃ a, w.cell? ⟨g, 1, none⟩ = some a) ∧ w.frozen? ⟨g, 0, none⟩ = false ∧ w.frozen? ⟨g, 1, none⟩ = false ∧
   ((w.setCell ⟨g, 0, none⟩ (.slice A k c)).setCell ⟨g, 1, none⟩ (.slice A' k' c')).cell? ⟨g, 0, none⟩ = some (.slice A k c) ∧ ((w.setCell ⟨g, 0, none⟩ (.slice A k c)).setCell ⟨g, 1, none⟩ (.slice A' k' c')).cell? ⟨g, 1, none⟩ = some (.slice A' k' c') ∧
   RtP ((w.setCell ⟨g, 0, none⟩ (.slice A k c)).setCell ⟨g, 1, none⟩ (.slice A' k' c')) (.agg #[.slice A k c, .slice A' k' c']) x ∧ Below w0.heap.size w0 ((w.setCell ⟨g, 0, none⟩ (.slice A k c)).setCell ⟨g, 1, none⟩ (.slice A' k' c')) := by
 obtain ⟨A, k, c, A', k', c', rfl⟩ := h.shape; have hrt := RT.store (N := w0.heap.size) hs hg A k c A' k' c'; obtain ⟨q1, q2, q3, q4⟩ := hs.facts; obtain ⟨a1, b1, c1, a2, b2, c2, hblk⟩ := hs; have hb2 := (hblk.set_ 0 (.slice A k c)).set_ 1 (.slice A' k' c'); exact ⟨A, k, c, A', k', c', rfl, q1, q2, q3, q4, by rw [hb2.cell]; rfl, by rw [hb2.cell]; rfl, h.mapL hrt.lim, hb.trans hrt.be⟩
end Go.Proofs.YtnjjdiilkhdbeaaDoor
namespace Go.Proofs.YtnjjdiilkhdbeaaDoor
open Go Go.RowKit
end Go.Proofs.YtnjjdiilkhdbeaaDoor
namespace Go.Proofs.YtnjjdiilkhdbeaaDoor
open Go Go.RowKit
/- A region of calls on ratios whose last value goes to the result's block g. -/
def GoodX (w : World) (g : Nat) (X : LP) : Prop := ∃ A k c A' k' c', Blk w g 28 #[.slice A k c, .slice A' k' c'] ∧ RtP w (.agg #[.slice A k c, .slice A' k' c']) X
/-- what an operation of such a region may do to the world -/
structure RX (B g : Nat) (X : LP) (w w' : World) : Prop where
 lim : ∀ A c l, Lim w A c l → Lim w' A c l
 cell : ∀ b i v, b ≠ g → w.cell? ⟨b, i, none⟩ = some v → w'.cell? ⟨b, i, none⟩ = some v
 sl : Sl w g → Sl w' g
 be : Below B w w'
 good : GoodX w' g X ∨ w'.heap[g]? = w.heap[g]?
theorem RX.refl {B g : Nat} {X : LP} (w : World) : RX B g X w w := ⟨fun _ _ _ h => h, fun _ _ _ _ h => h, fun h => h, Below.refl _ _, .inr rfl⟩
theorem RX.below {B g : Nat} {X : LP} {w w' : World} (hb : Below w.heap.size w w') (hB : B ≤ w.heap.size) (hg : g < w.heap.size) : RX B g X w w' :=
 ⟨fun _ _ _ h => h.below hb, fun _ _ _ _ h => cell_keep hb h, fun h => h.below hb, hb.mono hB, .inr (hb.block g hg)⟩
theorem RX.store {B g : Nat} {X : LP} {w : World} {A A' : Option Addr} {k c k' c' : Nat} (hs : Sl w g) (hB : B ≤ g) (h : RtP w (.agg #[.slice A k c, .slice A' k' c']) X) :
  RX B g X w ((w.setCell ⟨g, 0, none⟩ (.slice A k c)).setCell ⟨g, 1, none⟩ (.slice A' k' c')) ∧ GoodX ((w.setCell ⟨g, 0, none⟩ (.slice A k c)).setCell ⟨g, 1, none⟩ (.slice A' k' c')) g X := by
 have hrt := RT.store (N := B) hs hB A k c A' k' c'
 have hg : GoodX ((w.setCell ⟨g, 0, none⟩ (.slice A k c)).setCell ⟨g, 1, none⟩ (.slice A' k' c')) g X := by
  obtain ⟨r1, r2, r3, r4, r5, r6, hb⟩ := hs; exact ⟨A, k, c, A', k', c', (hb.set_ 0 _).set_ 1 _, h.mapL hrt.lim⟩
 refine ⟨⟨hrt.lim, fun b i v hne hc => ?_, hrt.sl g, hrt.be, .inl hg⟩, hg⟩; rw [World.cell?_of_block (Below.heap_setCell _ ⟨g, 1, none⟩ _ b hne), World.cell?_of_block (Below.heap_setCell _ ⟨g, 0, none⟩ _ b hne)]; exact hc
theorem GoodX.map {w w' : World} {g : Nat} {X : LP} {B : Nat} (h : GoodX w g X) (hr : RX B g X w w') : GoodX w' g X := by
 rcases hr.good with h2 | h2
 ·exact h2
 ·obtain ⟨A, k, c, A', k', c', h3, h4⟩ := h; exact ⟨A, k, c, A', k', c', h2.trans h3, h4.mapL hr.lim⟩
/-- what holds all along -/
structure SX (w0 : World) (g : Nat) (Cs : List (Nat × Nat × Value)) (W : World) : Prop where
 cl : ∀ c ∈ Cs, W.cell? ⟨c.1, c.2.1, none⟩ = some c.2.2 ∧ c.1 ≠ g
 sl : Sl W g
 be : Below w0.heap.size w0 W
 ge : w0.heap.size ≤ g
theorem SX.step {w0 w w' : World} {g : Nat} {X : LP} {Cs : List (Nat × Nat × Value)} (hr : RX w0.heap.size g X w w') (h : SX w0 g Cs w) : SX w0 g Cs w' :=
 ⟨fun c hc => ⟨hr.cell _ _ _ (h.cl c hc).2 (h.cl c hc).1, (h.cl c hc).2⟩, hr.sl h.sl, h.be.trans hr.be, h.ge⟩
theorem SX.size {w0 w : World} {g : Nat} {Cs : List (Nat × Nat × Value)} (h : SX w0 g Cs w) : w0.heap.size ≤ w.heap.size := h.be.size
theorem SX.lt {w0 w : World} {g : Nat} {Cs : List (Nat × Nat × Value)} (h : SX w0 g Cs w) : g < w.heap.size := h.sl.lt
theorem SX.below {w0 w w' : World} {g : Nat} {Cs : List (Nat × Nat × Value)} (h : SX w0 g Cs w) (hb : Below w.heap.size w w') : SX w0 g Cs w' :=
 h.step (X := nilP) (RX.below hb h.size h.lt)
end Go.Proofs.YtnjjdiilkhdbeaaDoor
namespace Go.Proofs.YtnjjdiilkhdbeaaDoor
open Go Go.RowKit
def prC (p : Value × Value) : List Value := [p.1, p.2]
theorem prC_len (p : Value × Value) : (prC p).length = 2 := rfl
/-- a slice of ratios -/
def RatRow (w : World) (A : Option Addr) (k : Nat) (r : List LP) : Prop := ∃ ps : List (Value × Value), RowS prC w A k ps ∧ ps.length = r.length ∧ ∀ (i : Nat) p x, ps[i]? = some p → r[i]? = some x → RtP w (.agg #[p.1, p.2]) x
theorem RatRow.below {w w' : World} {A : Option Addr} {k : Nat} {r : List LP} (h : RatRow w A k r) (hb : Below w.heap.size w w') : RatRow w' A k r := by
 obtain ⟨ps, h1, h2, h3⟩ := h; exact ⟨ps, h1.below hb, h2, fun i p x e1 e2 => (h3 i p x e1 e2).below hb⟩
theorem RatRow.len {w : World} {A : Option Addr} {k : Nat} {r : List LP} (h : RatRow w A k r) : k = r.length := by
 obtain ⟨ps, h1, h2, _⟩ := h; rw [← h2]; exact h1.2.1
theorem RatRow.le {w : World} {A : Option Addr} {k : Nat} {r : List LP} (h : RatRow w A k r) : k ≤ 281474976710656 := by
 obtain ⟨ps, h1, _⟩ := h; exact h1.2.2
theorem RatRow.at_ {w : World} {A : Option Addr} {k : Nat} {r : List LP} (h : RatRow w A k r) {i : Nat} (hi : i < k) : ∃ b off v1 v2 x, A = some ⟨b, off, none⟩ ∧ w.cell? ⟨b, off + i * 2, none⟩ = some v1 ∧ w.cell? ⟨b, off + i * 2 + 1, none⟩ = some v2 ∧ Hid (r[i]? = some x) ∧ RtP w (.agg #[v1, v2]) x := by
 have hl := h.len; obtain ⟨ps, h1, h2, h3⟩ := h; have hil : i < ps.length := by omega
 obtain ⟨b, off, e, HC⟩ := h1.at_ prC_len (by omega) hi hil; have hir : i < r.length := by omega
 exact ⟨b, off, ps[i].1, ps[i].2, r[i], e, by have := HC.out 0 _ rfl; rwa [Nat.add_zero] at this, HC.out 1 _ rfl, List.getElem?_eq_getElem hir, h3 i _ _ (List.getElem?_eq_getElem hil) (List.getElem?_eq_getElem hir)⟩
end Go.Proofs.YtnjjdiilkhdbeaaDoor
namespace Go.Proofs.YtnjjdiilkhdbeaaDoor
open Go Go.RowKit
end Go.Proofs.YtnjjdiilkhdbeaaDoor
namespace Go.Proofs.YtnjjdiilkhdbeaaDoor
open Go Go.RowKit
end Go.Proofs.YtnjjdiilkhdbeaaDoor
namespace Go.Proofs.YtnjjdiilkhdbeaaDoor
open Go Go.RowKit
/-- limbs -/
def okP (x : LP) : Prop := (∀ a ∈ x.1, a < Nm.B) ∧ ∀ a ∈ x.2, a < Nm.B
theorem RtP.ok {w : World} {v : Value} {x : LP} (h : RtP w v x) : okP x := by
 obtain ⟨A1, k1, c1, A2, k2, c2, rfl, h1, h2, h3, h4⟩ := h; exact ⟨h1.2.2.2.1, h2.2.2.2.1⟩
theorem valid_good {x : LP} (h : okP x) (hv : validP x = 0) : ∃ p q, x = ratP p q ∧ Nm.Good p q := by
 obtain ⟨p, q, e1, e2, hg⟩ := Nm.validE_spec h.1 h.2 hv; exact ⟨p, q, Prod.ext e1 e2, hg⟩
end Go.Proofs.YtnjjdiilkhdbeaaDoor
namespace Go.Proofs.YtnjjdiilkhdbeaaDoor
open Go
/- A region that draws its order and ends in a chain: what leads to the chain's first operation is done in any order ('early'), some operations that need nothing of the world are done at any time ('free'), the chain's operations follow each other. -/
section
variable {P : Program} {Q : Exit → Act → World → Prop}
/-- operation i waits for j, itself or through others -/
def reachB (l : List Oper) : Nat → Nat → Nat → Bool
 | 0, _, _ => false
 | n + 1, i, j => match l[i]? with
  | some o => o.after.toList.any fun e => Region.binds .any e && (e.on == j || reachB l n e.on j)
  | none => false
theorem reach_listed {l : List Oper} {L : Nat → Bool} (hcl : ∀ j o', l[j]? = some o' → L j = true → ∀ e ∈ o'.after.toList, Region.binds .any e = true → L e.on = true) :
  ∀ (n i j : Nat) (o : Oper), l[i]? = some o → (∀ e ∈ o.after.toList, Region.binds .any e = true → L e.on = true) → reachB l n i j = true → L j = true
 | 0, _, _, _, _, _, h => by cases h
 | n + 1, i, j, o, ho, hd, h => by
  simp only [reachB, ho, List.any_eq_true, Bool.and_eq_true, Bool.or_eq_true, beq_iff_eq] at h; obtain ⟨e, he, hb, h⟩ := h; have h1 := hd e he hb
  rcases h with h | h
  ·rw [← h]; exact h1
  ·cases ho2 : l[e.on]? with
   | none => cases n <;> simp [reachB, ho2] at h
   | some o2 => exact reach_listed hcl n e.on j o2 ho2 (hcl e.on o2 ho2 h1) h
inductive Tg where
 | early | free
 | chain (k : Nat)
def tagB (l : List Oper) (cs : List Nat) (tags : List Tg) (fr dep : List Nat) : Bool :=
 (List.range l.length).all (fun i => match tags[i]? with
  | some .early => !cs.contains i && (match cs with | c :: _ => reachB l l.length c i | [] => false)
  | some .free => !cs.contains i && fr.contains i && (match l[i]? with | some o => o.after.toList.all (fun e => !Region.binds .any e || fr.contains e.on) | none => false)
  | some (.chain k) => cs[k]? == some i && !fr.contains i
  | none => false) &&
 (List.range cs.length).all (fun k => (List.range k).all fun j => match cs[k]?, cs[j]? with
  | some a, some b => reachB l l.length a b && a != b
  | _, _ => false) && !cs.isEmpty && cs.all (fun c => decide (c < l.length)) && dep.all (fun d => match tags[d]? with | some .early => true | _ => false)
def OwesK (P : Program) (Q : Exit → Act → World → Prop) (l : List Oper) (a0 : Act) (F : (Nat → Value) → Act) (cs : List Nat) (tags : List Tg) (fr : List Nat) (Φ : (Nat → Value) → Nat → World → Value → Prop) (R : World → World → Prop) (S : List Value → (Nat → Value) → World → Prop) (i : Nat) (o : Oper) : Prop :=
 match tags[i]? with
 | some .early => ∀ vs w, S [] vs w → (∀ c ∈ cs, vs c = ownV l a0 c) → (∀ e ∈ o.after.toList, Region.binds .any e = true → Φ vs e.on w (vs e.on)) → ∀ K : Act → World → Prop, (∀ v w', R w w' → Φ vs i w' v → K ((F vs).put o.dst v) w') →
  Wrap (if Region.wanted o (yielded l.toArray (F vs).tmps) = true then Oper.wp P o (F vs) w K Q else K ((F vs).put o.dst undef) w)
 | some .free => ∀ vs w, (∀ e ∈ o.after.toList, Region.binds .any e = true → Φ vs e.on w (vs e.on)) → ∀ K : Act → World → Prop, (∀ v, Φ vs i w v → K ((F vs).put o.dst v) w) →
  Wrap (if Region.wanted o (yielded l.toArray (F vs).tmps) = true then Oper.wp P o (F vs) w K Q else K ((F vs).put o.dst undef) w)
 | some (.chain k) => ∀ vs w, S ((cs.take k).map vs) vs w → (∀ e ∈ o.after.toList, Region.binds .any e = true → (k == 0 || fr.contains e.on) = true → Φ vs e.on w (vs e.on)) → ∀ K : Act → World → Prop, (∀ v w', S ((cs.take k).map vs ++ [v]) vs w' → K ((F vs).put o.dst v) w') →
  Wrap (if Region.wanted o (yielded l.toArray (F vs).tmps) = true then Oper.wp P o (F vs) w K Q else K ((F vs).put o.dst undef) w)
 | none => True
/-- how it stands, by what is listed -/
def StK (l : List Oper) (a0 : Act) (cs : List Nat) (fr : List Nat) (Φ : (Nat → Value) → Nat → World → Value → Prop) (S : List Value → (Nat → Value) → World → Prop) (L : Nat → Bool) (vs : Nat → Value) (w : World) : Prop :=
 ∃ k, k ≤ cs.length ∧ (∀ (j c : Nat), cs[j]? = some c → (L c = true ↔ j < k)) ∧ S ((cs.take k).map vs) vs w ∧ (∀ j, L j = true → j < l.length ∧ (k = 0 ∨ fr.contains j = true → Φ vs j w (vs j))) ∧ (∀ j, L j = false → vs j = ownV l a0 j)
theorem map_upd {cs : List Nat} {k i : Nat} {vs : Nat → Value} {v : Value} (h : i ∉ cs.take k) : (cs.take k).map (upd vs i v) = (cs.take k).map vs := by
 apply List.map_congr_left
 intro c hc; exact if_neg (fun e : c = i => h (e ▸ hc))
theorem region_chain {id : Nat} {a0 : Act} {w : World} {l : List Oper} {F : (Nat → Value) → Act} (cs : List Nat) (tags : List Tg) (fr dep : List Nat) (Φ : (Nat → Value) → Nat → World → Value → Prop) (R : World → World → Prop) (S : List Value → (Nat → Value) → World → Prop) (hm : P.follows .mixedOrders = true) (hd : apartL l = true) (hb : backC .any l.toArray = true) (ht : tagB l cs tags fr dep = true)
  (hC : StepsL (Hangs Φ) 0 l) (hR : ∀ vs w w', R w w' → ∀ j x, Φ vs j w x → Φ vs j w' x) (hF' : ∀ vs w w' j x, fr.contains j = true → Φ vs j w x → Φ vs j w' x) (hS : ∀ vs vs' w w', R w w' → S [] vs w → S [] vs' w') (hins : ∀ li vs vs' w, (∀ j ∈ dep, vs j = vs' j) → S li vs w → S li vs' w) (hS0 : ∀ vs, S [] vs w.drew) (hF : ∀ vs, fillR l 0 vs a0 = F vs)
  (hstep : StepsL (OwesK P Q l a0 F cs tags fr Φ R S) 0 l)
  (hend : ∀ vs w, S (cs.map vs) vs w → (∀ i, i < l.length → fr.contains i = true → Φ vs i w (vs i)) → Q .normal (F vs) w) : (Code.region id l.toArray true).wp P Q a0 w := by
 simp only [tagB, Bool.and_eq_true, Bool.not_eq_true', List.all_eq_true, List.mem_range] at ht; obtain ⟨⟨⟨⟨ht1, ht2⟩, ht3⟩, ht4⟩, ht5⟩ := ht; simp only [decide_eq_true_iff] at ht4
 have hch : ∀ (a b ca cb : Nat), cs[a]? = some ca → cs[b]? = some cb → b < a → reachB l l.length ca cb = true ∧ ca ≠ cb := by
  intro a b ca cb ha hb2 hlt; have h := ht2 a (List.getElem?_eq_some_iff.1 ha).1 b hlt; rw [ha, hb2] at h
  simpa using h
 have hinj : ∀ (a b c : Nat), cs[a]? = some c → cs[b]? = some c → a = b := by
  intro a b c ha hb2
  rcases Nat.lt_trichotomy a b with h | h | h
  ·exact absurd rfl (hch b a c c hb2 ha h).2
  ·exact h
  ·exact absurd rfl (hch a b c c ha hb2 h).2
 refine region_invW (F := F) (fun _ _ _ => True) (fun _ _ => True) (StK l a0 cs fr Φ S) hm hd hb (fun _ _ _ _ _ h => h) ?_ hF ?_ ?_
 ·refine ⟨0, Nat.zero_le _, fun j c _ => ?_, by simpa using hS0 _, (fun j h => by cases h), fun j _ => rfl⟩; simp
 ·intro i o ho vs L W hSt hL hcl hdl _ K hK; rw [Nat.zero_add] at hL hK; obtain ⟨k0, hk0, hiff, hSk, hPh, hUn⟩ := hSt; have hi : i < l.length := (List.getElem?_eq_some_iff.1 ho).1; have hown := hstep i o ho; rw [Nat.zero_add] at hown
  have hhang : ∀ (j : Nat) w2 v, L j = true → Φ vs j w2 (vs j) → Φ (upd vs i v) j w2 (vs j) := by
   intro j w2 v hj h; have hjl : j < l.length := (hPh j hj).1; refine hC j _ (List.getElem?_eq_getElem hjl) vs (upd vs i v) w2 (vs j) (fun e he hb2 => ?_) (by rw [Nat.zero_add]; exact h) |> fun h => by rwa [Nat.zero_add] at h
   symm
   refine if_neg (fun e2 => ?_); have := hcl j _ (List.getElem?_eq_getElem hjl) hj e he hb2; rw [e2, hL] at this
   cases this
  have hself : ∀ w2 v, Φ vs i w2 v → Φ (upd vs i v) i w2 v := by
   intro w2 v h; refine hC i o ho vs (upd vs i v) w2 v (fun e he hb2 => ?_) (by rw [Nat.zero_add]; exact h) |> fun h => by rwa [Nat.zero_add] at h
   symm
   refine if_neg (fun e2 => ?_); have := hdl e he hb2; rw [e2, hL] at this
   cases this
  have ht := ht1 i hi; unfold OwesK at hown
  cases htg : tags[i]? with
  | none => rw [htg] at ht; cases ht
  | some tg =>
   rw [htg] at ht hown
   have hun : ∀ (v : Value) (j : Nat), updB L i j = false → upd vs i v j = ownV l a0 j := by
    intro v j hj; by_cases hji : j = i
    ·subst hji; rw [show updB L j j = true from if_pos rfl] at hj; cases hj
    ·rw [show updB L i j = L j from if_neg hji] at hj; rw [show upd vs i v j = vs j from if_neg hji]; exact hUn j hj
   have hdep2 : ∀ (v : Value), tags[i]? ≠ some .early → ∀ j ∈ dep, vs j = upd vs i v j := by
    intro v hne j hj
    symm
    refine if_neg (fun e => ?_); have h := ht5 j hj; rw [e] at h
    cases h2 : tags[i]? with
    | none => rw [h2] at h; cases h
    | some x => cases x with
     | early => exact hne h2
     | free => rw [h2] at h; cases h
     | chain _ => rw [h2] at h; cases h
   -- an operation that is not of the chain: the stage stays
   have hkeep : ∀ v w', i ∉ cs → S ((cs.take k0).map vs) (upd vs i v) w' → (∀ j, L j = true → k0 = 0 ∨ fr.contains j = true → Φ vs j w' (vs j)) → (k0 = 0 ∨ fr.contains i = true → Φ vs i w' v) → StK l a0 cs fr Φ S (updB L i) (upd vs i v) w' := by
    intro v w' hni hS2 hP2 hv; refine ⟨k0, hk0, fun j c hc => ?_, by rw [map_upd (fun h => hni (List.mem_of_mem_take h))]; exact hS2, fun j hj => ?_, hun v⟩
    ·have : c ≠ i := fun e => hni (e ▸ List.mem_of_getElem? hc)
     rw [show updB L i c = L c from if_neg this]; exact hiff j c hc
    ·by_cases hji : j = i
     ·subst hji; refine ⟨hi, fun h => ?_⟩; rw [show upd vs j v j = v from if_pos rfl]; exact hself _ _ (hv h)
     ·rw [show updB L i j = L j from if_neg hji] at hj; refine ⟨(hPh j hj).1, fun h => ?_⟩; rw [show upd vs i v j = vs j from if_neg hji]; exact hhang j w' v hj (hP2 j hj h)
   cases tg with
   | early =>
    simp only [Bool.and_eq_true, Bool.not_eq_true'] at ht hown; obtain ⟨hni, hre⟩ := ht; have hni : i ∉ cs := by simpa using hni
    cases cs with
    | nil => cases ht3
    | cons c0 cs =>
     have hk : k0 = 0 := by
      rcases Nat.eq_zero_or_pos k0 with h | h
      ·exact h
      ·exfalso
       have h1 := (hiff 0 c0 rfl).2 h; have hc0 := (hPh c0 h1).1; have := reach_listed hcl l.length c0 i _ (List.getElem?_eq_getElem hc0) (hcl c0 _ (List.getElem?_eq_getElem hc0) h1) hre; rw [hL] at this; cases this
     subst hk; refine hown vs W (by simpa using hSk) (fun c hc => hUn c ?_) (fun e he hb2 => (hPh _ (hdl e he hb2)).2 (.inl rfl)) K (fun v w' hRw hv => hK v w' trivial (hkeep v w' hni ?_ ?_ (fun _ => hv)) trivial)
     ·cases hLc : L c with
      | false => rfl
      | true =>
       obtain ⟨j, hj⟩ := List.getElem?_of_mem hc; have := (hiff j c hj).1 hLc; omega
     ·simpa using hS _ _ _ _ hRw (by simpa using hSk)
     ·intro j hj h; exact hR vs _ _ hRw j _ ((hPh j hj).2 h)
   | free =>
    simp only [Bool.and_eq_true, Bool.not_eq_true'] at ht hown; obtain ⟨⟨hni, hfi⟩, hfa⟩ := ht; have hni : i ∉ cs := by simpa using hni
    rw [ho] at hfa; simp only [List.all_eq_true, Bool.or_eq_true, Bool.not_eq_true'] at hfa; refine hown vs W (fun e he hb2 => (hPh _ (hdl e he hb2)).2 (.inr ?_)) K (fun v hv => hK v W trivial (hkeep v W hni (hins _ _ _ _ (hdep2 v (by intro e; rw [htg] at e; cases e)) hSk) (fun j hj h => (hPh j hj).2 h) (fun _ => hv)) trivial)
    rcases hfa e he with h | h
    ·rw [hb2] at h; cases h
    ·exact h
   | chain k =>
    simp only [Bool.and_eq_true, Bool.not_eq_true', beq_iff_eq] at ht hown; obtain ⟨hck, hfi⟩ := ht; have hkl : k < cs.length := (List.getElem?_eq_some_iff.1 hck).1
    have h1 : ¬ k < k0 := fun h => by
     have := (hiff k i hck).2 h; rw [hL] at this; cases this
    have hk : k0 = k := by
     rcases Nat.lt_or_ge k0 k with h | h
     ·exfalso
      have hc0 : cs[k0]? = some (cs[k0]'(by omega)) := List.getElem?_eq_getElem (by omega); have hr := (hch k k0 i _ hck hc0 h).1; have := reach_listed hcl l.length i _ o ho hdl hr; have := (hiff k0 _ hc0).1 this; omega
     ·omega
    subst hk; refine hown vs W hSk (fun e he hb2 hf => (hPh _ (hdl e he hb2)).2 (by simpa using hf)) K (fun v w' hS2 => hK v w' trivial ⟨k0 + 1, by omega, fun j c hc => ?_, ?_, fun j hj => ?_, hun v⟩ trivial)
    ·by_cases hci : c = i
     ·subst hci; rw [show updB L c c = true from if_pos rfl]; have := hinj j k0 c hc hck; simp; omega
     ·rw [show updB L i c = L c from if_neg hci, hiff j c hc]; have : j ≠ k0 := fun e => hci (by rw [e, hck] at hc; exact (Option.some.inj hc).symm)
      omega
    ·have hni : i ∉ cs.take k0 := by
      intro h; obtain ⟨j, hj⟩ := List.getElem?_of_mem h
      have hj2 : j < k0 := by
       have := (List.getElem?_eq_some_iff.1 hj).1; simp at this; omega
      rw [List.getElem?_take_of_lt hj2] at hj; have := hinj j k0 i hj hck; omega
     rw [List.take_add_one, hck, List.map_append, map_upd hni]; have h3 := hins _ _ _ _ (hdep2 v (by intro e; rw [htg] at e; cases e)) hS2
     simpa [upd] using h3
    ·by_cases hji : j = i
     ·subst hji; refine ⟨hi, fun h => ?_⟩
      rcases h with h | h
      ·omega
      ·rw [hfi] at h; cases h
     ·rw [show updB L i j = L j from if_neg hji] at hj; refine ⟨(hPh j hj).1, fun h => ?_⟩; rw [show upd vs i v j = vs j from if_neg hji]
      have hf : fr.contains j = true := by
       rcases h with h | h
       ·omega
       ·exact h
      exact hhang j w' v hj (hF' vs _ _ j _ hf ((hPh j hj).2 (.inr hf)))
 ·intro vs L W hSt hall _; obtain ⟨k0, hk0, hiff, hSk, hPh, hUn⟩ := hSt
  have hk : k0 = cs.length := by
   rcases Nat.lt_or_ge k0 cs.length with h | h
   ·exfalso
    have hc0 : cs[k0]? = some cs[k0] := List.getElem?_eq_getElem h; have hcl : cs[k0] < l.length := ht4 _ (List.getElem_mem h); have := (hiff k0 _ hc0).1 (hall _ hcl); omega
   ·omega
  subst hk; rw [List.take_length] at hSk; exact hend vs W hSk (fun i hi hf => (hPh i (hall i hi)).2 (.inr hf))
end
end Go.Proofs.YtnjjdiilkhdbeaaDoor
namespace Go.Proofs.YtnjjdiilkhdbeaaDoor
open Go Go.RowKit
theorem info_ratio : (Tryd.prog.info? 28).map (fun i => (i.zero, i.size, i.bytes)) = some (some nilRat, 2, 48) := by kernel_rfl
theorem Rd.newC (w : World) (T : TypeId) (cs : List Value) : Rd (w.alloc (.cells cs.toArray T)) (some ⟨w.heap.size, 0, none⟩) cs := by
 intro _; refine ⟨_, _, rfl, fun i h => ?_⟩; rw [Nat.zero_add, (Blk.new w T cs.toArray).cell]; simp [h]
theorem RtP.grownBy {w w' : World} {v a : Value} {x : LP} (h : RtP w v x) (k : w.grownBy w' a.ownBlock) (hO : OwnAll NoL w a) : RtP w' v x := h.mapL fun _ _ _ hl => hl.grownBy k hO
end Go.Proofs.YtnjjdiilkhdbeaaDoor
namespace Go.Proofs.YtnjjdiilkhdbeaaDoor
open Go Go.RowKit
def AllRt (w : World) : List (Value × Value) → List LP → Prop
 | [], [] => True
 | p :: ps, x :: xs => RtP w (.agg #[p.1, p.2]) x ∧ AllRt w ps xs
 | _, _ => False
theorem AllRt.len {w : World} : ∀ {ps : List (Value × Value)} {xs : List LP}, AllRt w ps xs → ps.length = xs.length
 | [], [], _ => rfl
 | p :: ps, x :: xs, h => by rw [List.length_cons, List.length_cons, AllRt.len h.2]
 | [], x :: xs, h => absurd h (by simp [AllRt])
 | p :: ps, [], h => absurd h (by simp [AllRt])
theorem AllRt.get {w : World} : ∀ {ps : List (Value × Value)} {xs : List LP}, AllRt w ps xs → ∀ (i : Nat) p x, ps[i]? = some p → xs[i]? = some x → RtP w (.agg #[p.1, p.2]) x
 | [], [], _, i, p, x, h1, _ => by simp at h1
 | q :: ps, y :: xs, h, i, p, x, h1, h2 => by
  rcases i with _ | i
  ·simp only [List.getElem?_cons_zero, Option.some.injEq] at h1 h2; subst h1 h2; exact h.1
  ·simp only [List.getElem?_cons_succ] at h1 h2; exact AllRt.get h.2 i p x h1 h2
 | [], x :: xs, h, _, _, _, _, _ => absurd h (by simp [AllRt])
 | p :: ps, [], h, _, _, _, _, _ => absurd h (by simp [AllRt])
theorem ratRow_new {w : World} (T : TypeId) (ps : List (Value × Value)) (X : List LP) (h : AllRt w ps X) (hk : ps.length ≤ 1048576) : RatRow (w.alloc (.cells (ps.flatMap prC).toArray T)) (some ⟨w.heap.size, 0, none⟩) ps.length X :=
 ⟨ps, ⟨Rd.newC _ _ _, rfl, by omega⟩, h.len, fun i p x e1 e2 => (h.get i p x e1 e2).below (bA _ _)⟩
theorem fill_r7 (P0 Q0 P1 Q1 P2 Q2 P3 Q3 P4 Q4 P5 Q5 P6 Q6 : Option Addr) (p0 s0 q0 t0 p1 s1 q1 t1 p2 s2 q2 t2 p3 s3 q3 t3 p4 s4 q4 t4 p5 s5 q5 t5 p6 s6 q6 t6 : Nat) : Instr.fill (fun i => some (i * 2, 2)) ((Array.range (7 * 2)).map (nilRat.cells[· % nilRat.cells.size]!)) [(0, .agg #[.slice P0 p0 s0, .slice Q0 q0 t0]), (1, .agg #[.slice P1 p1 s1, .slice Q1 q1 t1]), (2, .agg #[.slice P2 p2 s2, .slice Q2 q2 t2]), (3, .agg #[.slice P3 p3 s3, .slice Q3 q3 t3]), (4, .agg #[.slice P4 p4 s4, .slice Q4 q4 t4]), (5, .agg #[.slice P5 p5 s5, .slice Q5 q5 t5]), (6, .agg #[.slice P6 p6 s6, .slice Q6 q6 t6])] = some #[.slice P0 p0 s0, .slice Q0 q0 t0, .slice P1 p1 s1, .slice Q1 q1 t1, .slice P2 p2 s2, .slice Q2 q2 t2, .slice P3 p3 s3, .slice Q3 q3 t3, .slice P4 p4 s4, .slice Q4 q4 t4, .slice P5 p5 s5, .slice Q5 q5 t5, .slice P6 p6 s6, .slice Q6 q6 t6] := by kernel_rfl
theorem rpart_X (n d : Int) (w : World) (h1 : isI64 n) (h2 : isI64 d) : Calls Tryd.prog 17 #[.int .i64 n, .int .i64 d] w fun e w' => ∃ v, e = .returned v ∧ (∃ x, RtP w' v x) ∧ Below w.heap.size w w' := by
 refine (rpart_n n d w h1.1 h1.2 h2.1 h2.2).mono ?_; rintro e w' ⟨v, p, q, rfl, h, _, _, _, hb⟩; exact ⟨v, rfl, ⟨_, h.rtP⟩, hb⟩
theorem rspoilt_X (va : Value) (p q : Nat) (how by_ : Int) (w : World) (ha : Rat w va p q) (ga : Nm.Good p q) (h1 : isI64 how) (h2 : isI64 by_) : Calls Tryd.prog 40 #[va, .int .i64 how, .int .i64 by_] w fun e w' => ∃ v, e = .returned v ∧ (∃ x, RtP w' v x) ∧ Below w.heap.size w w' := by
 refine (spoilt_n va p q how by_ w ha ga h1.1 h1.2 h2.1 h2.2).mono ?_; rintro e w' ⟨v, m1, m2, rfl, h, _, _, hb⟩; exact ⟨v, rfl, ⟨(m1, m2), h⟩, hb⟩
theorem raw_rt {w : World} {A A' : Option Addr} {c c' m m' : Nat} {l l' : List Nat} (h : Lim w A c l) (h' : Lim w A' c' l') (hm : m = min l.length 70) (hm' : m' = min l'.length 70) : RtP w (.agg #[.slice A m c, .slice A' m' c']) (l.take m, l'.take m') :=
 ⟨_, _, _, _, _, _, rfl, h.take_ m (by omega), h'.take_ m' (by omega), by rw [List.length_take]; omega, by rw [List.length_take]; omega⟩
def PhiSo (a1 a2 b1 b2 : Value) (n m how by_ : Int) (A4 A5 : Option Addr) (k4 c4 m4 k5 c5 m5 : Nat) (j : Nat) (w : World) (x : Value) : Prop :=
 match j with
 | 0 => x = .agg #[a1, a2]
 | 1 => x = .int .i64 n
 | 2 => x = .int .i64 m
 | 3 => ∃ X, RtP w x X
 | 4 => x = .agg #[b1, b2]
 | 5 => x = .agg #[a1, a2]
 | 6 => x = .int .i64 how
 | 7 => x = .int .i64 by_
 | 8 => ∃ X, RtP w x X
 | 9 => x = .agg #[b1, b2]
 | 10 => x = .int .i64 by_
 | 11 => x = .int .i64 how
 | 12 => ∃ X, RtP w x X
 | 13 => x = .slice A4 k4 c4
 | 14 => x = .slice A4 k4 c4
 | 15 => x = .int .i64 (k4 : Nat)
 | 16 => x = .int .i64 (m4 : Nat)
 | 17 => x = .slice A4 m4 c4
 | 18 => x = .slice A5 k5 c5
 | 19 => x = .slice A5 k5 c5
 | 20 => x = .int .i64 (k5 : Nat)
 | 21 => x = .int .i64 (m5 : Nat)
 | 22 => x = .slice A5 m5 c5
 | 23 => x = .agg #[.slice A4 m4 c4, .slice A5 m5 c5]
 | 24 => x = nilRat
 | 25 => ∃ g xs, x = .slice (some ⟨g, 0, none⟩) 7 7 ∧ RatRow w (some ⟨g, 0, none⟩) 7 xs
 | 26 => ∃ g xs, x = .slice (some ⟨g, 0, none⟩) 7 7 ∧ RatRow w (some ⟨g, 0, none⟩) 7 xs
 | _ => True

theorem PhiSo.keep {a1 a2 b1 b2 : Value} {n m how by_ : Int} {A4 A5 : Option Addr} {k4 c4 m4 k5 c5 m5 : Nat} : ∀ (w w' : World), Below w.heap.size w w' → ∀ j x, PhiSo a1 a2 b1 b2 n m how by_ A4 A5 k4 c4 m4 k5 c5 m5 j w x → PhiSo a1 a2 b1 b2 n m how by_ A4 A5 k4 c4 m4 k5 c5 m5 j w' x := by
 intro w w' hb j x h; unfold PhiSo at h ⊢
 split <;> simp only at h ⊢
 all_goals first
  | exact h
  | (obtain ⟨X, h⟩ := h; exact ⟨X, h.below hb⟩)
  | (obtain ⟨g, qs, e, h⟩ := h; exact ⟨g, qs, e, h.below hb⟩)
set_option maxRecDepth 100000 in
set_option maxHeartbeats 4000000 in
theorem some_n (n m how by_ : Int) (A4 : Option Addr) (k4 c4 : Nat) (A5 : Option Addr) (k5 c5 : Nat) (l4 l5 : List Nat) (w : World) (hin : isI64 n) (him : isI64 m) (hih : isI64 how) (hib : isI64 by_) (hl4 : Lim w A4 c4 l4) (hk4 : k4 = l4.length) (hl5 : Lim w A5 c5 l5) (hk5 : k5 = l5.length) :
  Calls Tryd.prog 9 #[.int .i64 n, .int .i64 m, .int .i64 how, .int .i64 by_, .slice A4 k4 c4, .slice A5 k5 c5] w fun e w' => ∃ g xs, e = .returned (.slice (some ⟨g, 0, none⟩) 7 7) ∧ RatRow w' (some ⟨g, 0, none⟩) 7 xs ∧ xs.length = 7 ∧ Below w.heap.size w w' := by
 obtain ⟨iR, hiR, hzR, hzR1, hzR2⟩ := info_parts info_ratio; have HIN := Lib.hid hin; have HIM := Lib.hid him; have HL4 := Lib.hid hl4; have HL5 := Lib.hid hl5; have HK4 := Lib.hid hk4; have HK5 := Lib.hid hk5; clear hl4 hl5 hk4 hk5
 go_enter Tryd.func9, Tryd.ntmps9
 go_wp2_with fail; refine (rmade_n n m _ hin.1 hin.2 him.1 him.2).mono ?_; rintro e w1 ⟨va, pa, qa, rfl, hra, ga, hb1⟩; obtain ⟨P0, p0, s0, Q0, q0, t0, rfl⟩ := hra.shape; go_upto_region 2 with fail; refine wp_name ?_; intro w2 HW; have hb2 : Below w1.heap.size w1 w2 := by rw [HW.out]; exact bA _ _
 have hB : Blk w2 w1.heap.size 28 #[.slice P0 p0 s0, .slice Q0 q0 t0] := by rw [HW.out]; exact Blk.new _ _ _
 obtain ⟨ga_, hga⟩ : ∃ g, Hid (g = w1.heap.size) := ⟨_, rfl⟩; rw [← hga.out] at hB ⊢; have ha0 := hB.cell 0; have ha1 := hB.cell 1; simp only [List.getElem?_toArray, List.getElem?_cons_zero, List.getElem?_cons_succ] at ha0 ha1; have hra := hra.below hb2; have hbw := Below.tr hb1 hb2; clear HW hB hga hb1 hb2; go_wp2_with fail; refine (large_n m n _ HIM.out HIN.out).mono ?_; rintro e w3 ⟨vb, pb, qb, rfl, hrb, gb, hb3⟩; obtain ⟨P2, p2, s2, Q2, q2, t2, rfl⟩ := hrb.shape; have hra := hra.below hb3; have ha0 := cell_keep hb3 ha0; have ha1 := cell_keep hb3 ha1; have hbw := Below.tr hbw hb3; clear hb3; go_upto_region 3 with fail; refine wp_name ?_; intro w4 HW; have hb4 : Below w3.heap.size w3 w4 := by rw [HW.out]; exact bA _ _
 have hB : Blk w4 w3.heap.size 28 #[.slice P2 p2 s2, .slice Q2 q2 t2] := by rw [HW.out]; exact Blk.new _ _ _
 obtain ⟨gb_, hgb⟩ : ∃ g, Hid (g = w3.heap.size) := ⟨_, rfl⟩; rw [← hgb.out] at hB ⊢; have hb0 := hB.cell 0; have hb1 := hB.cell 1; simp only [List.getElem?_toArray, List.getElem?_cons_zero, List.getElem?_cons_succ] at hb0 hb1; have hra := hra.below hb4; have hrb := hrb.below hb4; have ha0 := cell_keep hb4 ha0; have ha1 := cell_keep hb4 ha1; have hbw := Below.tr hbw hb4; clear HW hB hgb hb4; have hl4 := HL4.out.below hbw; have hl5 := HL5.out.below hbw; have hk4 := HK4.out; have hk5 := HK5.out; obtain ⟨m4, hm4⟩ : ∃ m : Nat, m = min l4.length 70 := ⟨_, rfl⟩; obtain ⟨m5, hm5⟩ : ∃ m : Nat, m = min l5.length 70 := ⟨_, rfl⟩; have x4 : min (k4 : Int) 70 = (m4 : Int) := by omega
 have x5 : min (k5 : Int) 70 = (m5 : Int) := by omega
 have y4 : m4 ≤ c4 := by have := hl4.2.1; omega
 have y5 : m5 ≤ c5 := by have := hl5.2.1; omega
 have z4 : c4 ≤ 9223372036854775807 := hl4.2.2.1; have z5 : c5 ≤ 9223372036854775807 := hl5.2.2.1
 replace hm4 := Lib.hid hm4
 replace hm5 := Lib.hid hm5
 clear hk4 hk5; refine region_invF (PhiSo (.slice P0 p0 s0) (.slice Q0 q0 t0) (.slice P2 p2 s2) (.slice Q2 q2 t2) n m how by_ A4 A5 k4 c4 m4 k5 c5 m5) (fun w w' => Below w.heap.size w w') (fun W => Below w4.heap.size w4 W) (by kernel_rfl) (by kernel_rfl) (by kernel_rfl) PhiSo.keep (fun _ _ hR hS => Below.tr hS hR) (bD _) (fun vs => by simp only [fillR, Act.put, sA, sB, sC, Nat.zero_add, Nat.reduceAdd]; rfl) ?_ ?_
 ·refine sK ?_ (sK ?_ (sK ?_ (sK ?_ (sK ?_ (sK ?_ (sK ?_ (sK ?_ (sK ?_ (sK ?_ (sK ?_ (sK ?_ (sK ?_ (sK ?_ (sK ?_ (sK ?_ (sK ?_ (sK ?_ (sK ?_ (sK ?_ (sK ?_ (sK ?_ (sK ?_ (sK ?_ (sK ?_ (sK ?_ (sK ?_ (sZ)))))))))))))))))))))))))))
  ·as_aux_lemma =>
   intro vs W hS hdep K hK; have f1 := cell_keep hS ha0; have f2 := cell_keep hS ha1; refine ⟨?_⟩; simp only [Act.put, sA, sB, sC, Nat.zero_add, Nat.reduceAdd] at hK ⊢; go_simp; with_reducible refine hK _ _ (Below.refl _ _) ?_
   exact rfl
  ·as_aux_lemma =>
   intro vs W hS hdep K hK; refine ⟨?_⟩; simp only [Act.put, sA, sB, sC, Nat.zero_add, Nat.reduceAdd] at hK ⊢; go_simp; with_reducible refine hK _ _ (Below.refl _ _) ?_
   exact rfl
  ·as_aux_lemma =>
   intro vs W hS hdep K hK; refine ⟨?_⟩; simp only [Act.put, sA, sB, sC, Nat.zero_add, Nat.reduceAdd] at hK ⊢; go_simp; with_reducible refine hK _ _ (Below.refl _ _) ?_
   exact rfl
  ·as_aux_lemma =>
   intro vs W hS hdep K hK; have d0 := hdep ⟨1, .data⟩ (by simp) rfl; simp only [PhiSo] at d0; have d1 := hdep ⟨2, .data⟩ (by simp) rfl; simp only [PhiSo] at d1; refine ⟨?_⟩; simp only [Act.put, sA, sB, sC, Nat.zero_add, Nat.reduceAdd, d0, d1] at hK ⊢; go_simp; refine (rpart_X n m _ hin him).mono ?_; rintro e w' ⟨v, rfl, hv, hb⟩; go_wp2_with fail; with_reducible refine hK _ _ hb ?_
   exact hv
  ·as_aux_lemma =>
   intro vs W hS hdep K hK; have f1 := cell_keep hS hb0; have f2 := cell_keep hS hb1; refine ⟨?_⟩; simp only [Act.put, sA, sB, sC, Nat.zero_add, Nat.reduceAdd] at hK ⊢; go_simp; with_reducible refine hK _ _ (Below.refl _ _) ?_
   exact rfl
  ·as_aux_lemma =>
   intro vs W hS hdep K hK; have f1 := cell_keep hS ha0; have f2 := cell_keep hS ha1; refine ⟨?_⟩; simp only [Act.put, sA, sB, sC, Nat.zero_add, Nat.reduceAdd] at hK ⊢; go_simp; with_reducible refine hK _ _ (Below.refl _ _) ?_
   exact rfl
  ·as_aux_lemma =>
   intro vs W hS hdep K hK; refine ⟨?_⟩; simp only [Act.put, sA, sB, sC, Nat.zero_add, Nat.reduceAdd] at hK ⊢; go_simp; with_reducible refine hK _ _ (Below.refl _ _) ?_
   exact rfl
  ·as_aux_lemma =>
   intro vs W hS hdep K hK; refine ⟨?_⟩; simp only [Act.put, sA, sB, sC, Nat.zero_add, Nat.reduceAdd] at hK ⊢; go_simp; with_reducible refine hK _ _ (Below.refl _ _) ?_
   exact rfl
  ·as_aux_lemma =>
   intro vs W hS hdep K hK; have d0 := hdep ⟨5, .data⟩ (by simp) rfl; simp only [PhiSo] at d0; have d1 := hdep ⟨6, .data⟩ (by simp) rfl; simp only [PhiSo] at d1; have d2 := hdep ⟨7, .data⟩ (by simp) rfl; simp only [PhiSo] at d2; refine ⟨?_⟩; simp only [Act.put, sA, sB, sC, Nat.zero_add, Nat.reduceAdd, d0, d1, d2] at hK ⊢; go_simp; refine (rspoilt_X _ pa qa how by_ _ (hra.below hS) ga hih hib).mono ?_; rintro e w' ⟨v, rfl, hv, hb⟩; go_wp2_with fail; with_reducible refine hK _ _ hb ?_
   exact hv
  ·as_aux_lemma =>
   intro vs W hS hdep K hK; have f1 := cell_keep hS hb0; have f2 := cell_keep hS hb1; refine ⟨?_⟩; simp only [Act.put, sA, sB, sC, Nat.zero_add, Nat.reduceAdd] at hK ⊢; go_simp; with_reducible refine hK _ _ (Below.refl _ _) ?_
   exact rfl
  ·as_aux_lemma =>
   intro vs W hS hdep K hK; refine ⟨?_⟩; simp only [Act.put, sA, sB, sC, Nat.zero_add, Nat.reduceAdd] at hK ⊢; go_simp; with_reducible refine hK _ _ (Below.refl _ _) ?_
   exact rfl
  ·as_aux_lemma =>
   intro vs W hS hdep K hK; refine ⟨?_⟩; simp only [Act.put, sA, sB, sC, Nat.zero_add, Nat.reduceAdd] at hK ⊢; go_simp; with_reducible refine hK _ _ (Below.refl _ _) ?_
   exact rfl
  ·as_aux_lemma =>
   intro vs W hS hdep K hK; have d0 := hdep ⟨9, .data⟩ (by simp) rfl; simp only [PhiSo] at d0; have d1 := hdep ⟨10, .data⟩ (by simp) rfl; simp only [PhiSo] at d1; have d2 := hdep ⟨11, .data⟩ (by simp) rfl; simp only [PhiSo] at d2; refine ⟨?_⟩; simp only [Act.put, sA, sB, sC, Nat.zero_add, Nat.reduceAdd, d0, d1, d2] at hK ⊢; go_simp; refine (rspoilt_X _ pb qb by_ how _ (hrb.below hS) gb hib hih).mono ?_; rintro e w' ⟨v, rfl, hv, hb⟩; go_wp2_with fail; with_reducible refine hK _ _ hb ?_
   exact hv
  ·as_aux_lemma =>
   intro vs W hS hdep K hK; refine ⟨?_⟩; simp only [Act.put, sA, sB, sC, Nat.zero_add, Nat.reduceAdd] at hK ⊢; go_simp; with_reducible refine hK _ _ (Below.refl _ _) ?_
   exact rfl
  ·as_aux_lemma =>
   intro vs W hS hdep K hK; refine ⟨?_⟩; simp only [Act.put, sA, sB, sC, Nat.zero_add, Nat.reduceAdd] at hK ⊢; go_simp; with_reducible refine hK _ _ (Below.refl _ _) ?_
   exact rfl
  ·as_aux_lemma =>
   intro vs W hS hdep K hK; have d0 := hdep ⟨14, .data⟩ (by simp) rfl; simp only [PhiSo] at d0; refine ⟨?_⟩; simp only [Act.put, sA, sB, sC, Nat.zero_add, Nat.reduceAdd, d0] at hK ⊢; go_simp; with_reducible refine hK _ _ (Below.refl _ _) ?_
   exact rfl
  ·as_aux_lemma =>
   intro vs W hS hdep K hK; have d0 := hdep ⟨15, .data⟩ (by simp) rfl; simp only [PhiSo] at d0; refine ⟨?_⟩; simp only [Act.put, sA, sB, sC, Nat.zero_add, Nat.reduceAdd, d0] at hK ⊢; go_simp; with_reducible refine hK _ _ (Below.refl _ _) ?_
   exact rfl
  ·as_aux_lemma =>
   intro vs W hS hdep K hK; have d0 := hdep ⟨13, .data⟩ (by simp) rfl; simp only [PhiSo] at d0; have d1 := hdep ⟨16, .data⟩ (by simp) rfl; simp only [PhiSo] at d1; refine ⟨?_⟩; simp only [Act.put, sA, sB, sC, Nat.zero_add, Nat.reduceAdd, d0, d1] at hK ⊢; go_simp; with_reducible refine hK _ _ (Below.refl _ _) ?_
   exact rfl
  ·as_aux_lemma =>
   intro vs W hS hdep K hK; refine ⟨?_⟩; simp only [Act.put, sA, sB, sC, Nat.zero_add, Nat.reduceAdd] at hK ⊢; go_simp; with_reducible refine hK _ _ (Below.refl _ _) ?_
   exact rfl
  ·as_aux_lemma =>
   intro vs W hS hdep K hK; refine ⟨?_⟩; simp only [Act.put, sA, sB, sC, Nat.zero_add, Nat.reduceAdd] at hK ⊢; go_simp; with_reducible refine hK _ _ (Below.refl _ _) ?_
   exact rfl
  ·as_aux_lemma =>
   intro vs W hS hdep K hK; have d0 := hdep ⟨19, .data⟩ (by simp) rfl; simp only [PhiSo] at d0; refine ⟨?_⟩; simp only [Act.put, sA, sB, sC, Nat.zero_add, Nat.reduceAdd, d0] at hK ⊢; go_simp; with_reducible refine hK _ _ (Below.refl _ _) ?_
   exact rfl
  ·as_aux_lemma =>
   intro vs W hS hdep K hK; have d0 := hdep ⟨20, .data⟩ (by simp) rfl; simp only [PhiSo] at d0; refine ⟨?_⟩; simp only [Act.put, sA, sB, sC, Nat.zero_add, Nat.reduceAdd, d0] at hK ⊢; go_simp; with_reducible refine hK _ _ (Below.refl _ _) ?_
   exact rfl
  ·as_aux_lemma =>
   intro vs W hS hdep K hK; have d0 := hdep ⟨18, .data⟩ (by simp) rfl; simp only [PhiSo] at d0; have d1 := hdep ⟨21, .data⟩ (by simp) rfl; simp only [PhiSo] at d1; refine ⟨?_⟩; simp only [Act.put, sA, sB, sC, Nat.zero_add, Nat.reduceAdd, d0, d1] at hK ⊢; go_simp; with_reducible refine hK _ _ (Below.refl _ _) ?_
   exact rfl
  ·as_aux_lemma =>
   intro vs W hS hdep K hK; have d0 := hdep ⟨17, .data⟩ (by simp) rfl; simp only [PhiSo] at d0; have d1 := hdep ⟨22, .data⟩ (by simp) rfl; simp only [PhiSo] at d1; refine ⟨?_⟩; simp only [Act.put, sA, sB, sC, Nat.zero_add, Nat.reduceAdd, d0, d1] at hK ⊢; go_simp; with_reducible refine hK _ _ (Below.refl _ _) ?_
   exact rfl
  ·as_aux_lemma =>
   intro vs W hS hdep K hK; refine ⟨?_⟩; simp only [Act.put, sA, sB, sC, Nat.zero_add, Nat.reduceAdd] at hK ⊢; go_simp; with_reducible refine hK _ _ (Below.refl _ _) ?_
   exact rfl
  ·as_aux_lemma =>
   intro vs W hS hdep K hK; have d0 := hdep ⟨0, .data⟩ (by simp) rfl; simp only [PhiSo] at d0; have d1 := hdep ⟨3, .data⟩ (by simp) rfl; simp only [PhiSo] at d1; refine @exE1 _ _ _ d1 ?_; clear d1; intro X1 d1; have h1 := d1; clear d1; have d2 := hdep ⟨4, .data⟩ (by simp) rfl; simp only [PhiSo] at d2; have d3 := hdep ⟨8, .data⟩ (by simp) rfl; simp only [PhiSo] at d3; refine @exE1 _ _ _ d3 ?_; clear d3; intro X3 d3; have h3 := d3; clear d3; have d4 := hdep ⟨12, .data⟩ (by simp) rfl; simp only [PhiSo] at d4; refine @exE1 _ _ _ d4 ?_; clear d4; intro X4 d4; have h4 := d4; clear d4; have d5 := hdep ⟨23, .data⟩ (by simp) rfl; simp only [PhiSo] at d5; have d6 := hdep ⟨24, .data⟩ (by simp) rfl; simp only [PhiSo] at d6; obtain ⟨P1, p1, s1, Q1, q1, t1, e1⟩ := h1.shape; rw [e1] at h1; obtain ⟨P3, p3, s3, Q3, q3, t3, e3⟩ := h3.shape; rw [e3] at h3; obtain ⟨P4, p4, s4, Q4, q4, t4, e4⟩ := h4.shape; rw [e4] at h4; have HR := Lib.hid (ratRow_new 28 [(.slice P0 p0 s0, .slice Q0 q0 t0), (.slice P1 p1 s1, .slice Q1 q1 t1), (.slice P2 p2 s2, .slice Q2 q2 t2), (.slice P3 p3 s3, .slice Q3 q3 t3), (.slice P4 p4 s4, .slice Q4 q4 t4), (.slice A4 m4 c4, .slice A5 m5 c5), (.slice none 0 0, .slice none 0 0)] [ratP pa qa, X1, ratP pb qb, X3, X4, (l4.take m4, l5.take m5), nilP] ⟨(hra.below hS).rtP, h1, (hrb.below hS).rtP, h3, h4, raw_rt (hl4.below hS) (hl5.below hS) hm4.out hm5.out, nil_rtP _, trivial⟩ (by simp)); clear h1 h3 h4; refine ⟨?_⟩; simp only [Act.put, sA, sB, sC, Nat.zero_add, Nat.reduceAdd, d0, e1, d2, e3, e4, d5, d6] at hK ⊢
   rw [if_pos (by rfl)]; refine wp_sliceN 23 28 7 [(0, .tmp 21), (1, .tmp 24), (2, .tmp 25), (3, .tmp 29), (4, .tmp 33), (5, .tmp 44), (6, .tmp 45)] rfl #[.slice P0 p0 s0, .slice Q0 q0 t0, .slice P1 p1 s1, .slice Q1 q1 t1, .slice P2 p2 s2, .slice Q2 q2 t2, .slice P3 p3 s3, .slice Q3 q3 t3, .slice P4 p4 s4, .slice Q4 q4 t4, .slice A4 m4 c4, .slice A5 m5 c5, .slice none 0 0, .slice none 0 0] iR nilRat 2 [(0, .agg #[.slice P0 p0 s0, .slice Q0 q0 t0]), (1, .agg #[.slice P1 p1 s1, .slice Q1 q1 t1]), (2, .agg #[.slice P2 p2 s2, .slice Q2 q2 t2]), (3, .agg #[.slice P3 p3 s3, .slice Q3 q3 t3]), (4, .agg #[.slice P4 p4 s4, .slice Q4 q4 t4]), (5, .agg #[.slice A4 m4 c4, .slice A5 m5 c5]), (6, .agg #[.slice none 0 0, .slice none 0 0])] Tryd.underlying23 hiR hzR hzR1 (by omega) (by omega) rfl (fill_r7 _ _ _ _ _ _ _ _ _ _ _ _ _ _ _ _ _ _ _ _ _ _ _ _ _ _ _ _ _ _ _ _ _ _ _ _ _ _ _ _ _ _) ?_; simp only [Act.put, sA, sB, sC]; with_reducible refine hK _ _ (bA _ _) ?_
   exact ⟨_, _, rfl, HR.out⟩
  ·as_aux_lemma =>
   intro vs W hS hdep K hK; have d0 := hdep ⟨25, .data⟩ (by simp) rfl; simp only [PhiSo] at d0; refine @exE2 _ _ _ _ d0 ?_; clear d0; intro g0 q0 d0; have e0 := d0.1; have n0 := d0.2; clear d0; refine ⟨?_⟩; simp only [Act.put, sA, sB, sC, Nat.zero_add, Nat.reduceAdd, e0] at hK ⊢; go_simp; with_reducible refine hK _ _ (Below.refl _ _) ?_
   exact ⟨_, _, rfl, n0⟩
 ·intro vs W hS hv; have v26 := hv 26 (by simp); simp only [PhiSo] at v26; obtain ⟨g, xs, e26, hr⟩ := v26; clear hv; simp only [Act.put, sA, sB, sC, Nat.zero_add, Nat.reduceAdd, e26]; go_wp2_with fail; go_ret; refine ⟨_, _, rfl, hr, ?_, Below.tr hbw hS⟩; obtain ⟨ps, h1, h2, _⟩ := hr; rw [← h2]; exact h1.2.1.symm
end Go.Proofs.YtnjjdiilkhdbeaaDoor
