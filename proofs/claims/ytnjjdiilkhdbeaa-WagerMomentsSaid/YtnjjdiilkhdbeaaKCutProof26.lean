import Derived.Test.YtnjjdiilkhdbeaaKCutProof25
import Derived.Laws.OwnMore
import Derived.Test.YtnjjdiilkhdbeaaKCutProof22
import Derived.Test.YtnjjdiilkhdbeaaS0
set_option linter.unusedVariables false
set_option linter.unusedSimpArgs false
namespace Go.Proofs.Ytnjjdiilkhdbeaa
open Go Go.RowKit
theorem OwnAll.stored {Pr : Value → Prop} {w : World} {base g n c size : Nat} {e : TypeId} {xs : List Value} (ho : w.ownsRow base e size (.slice (some ⟨g, 0, none⟩) n c) n xs) (h : OwnAll Pr w (.slice (some ⟨g, 0, none⟩) n c)) (i : Nat) (u : Value) (hu : Pr u) : OwnAll Pr (w.setCell ⟨g, i, none⟩ u) (.slice (some ⟨g, 0, none⟩) n c) := by
 rcases ho.2 with ⟨h', _⟩ | ⟨g', cap', cur, h', hb, hg, _⟩
 ·simp at h'
 ·simp only [Value.slice.injEq, Option.some.injEq, Addr.mk.injEq, and_true, true_and] at h'; obtain ⟨rfl, rfl⟩ := h'; intro g' hg' j x hx; simp only [Value.ownBlock, Option.some.injEq] at hg'; subst hg'; rw [cell_of_row _ _ _ _ _ _ (heap_setCell_same w g i cur e u hg), Array.getElem?_setIfInBounds] at hx
  split at hx
  ·split at hx
   ·injection hx with e; exact e ▸ hu
   ·cases hx
  ·exact h g rfl j x (by rw [cell_of_row w g j cur e (0, 0) hg]; exact hx)
theorem flat_set : ∀ (ps : List (Value × Value)) (i : Nat) (p : Value × Value), (ps.set i p).flatMap prC = ((ps.flatMap prC).set (i * 2) p.1).set (i * 2 + 1) p.2
 | [], _, _ => rfl
 | x :: ps, 0, p => rfl
 | x :: ps, i + 1, p => by
  have h := flat_set ps i p; rw [sC, List.flatMap_cons, List.flatMap_cons, h, show (i + 1) * 2 = i * 2 + 1 + 1 by omega]; rfl
/-- a ratio stored in a row of the call's own -/
theorem RatOwn.upd {w : World} {base g n c : Nat} {X : List LP} (h : RatOwn w base (.slice (some ⟨g, 0, none⟩) n c) X) {i : Nat} {A A' : Option Addr} {k d k' d' : Nat} {x : LP} (hx : RtP w (.agg #[.slice A k d, .slice A' k' d']) x) :
  RatOwn ((w.setCell ⟨g, i * 2, none⟩ (.slice A k d)).setCell ⟨g, i * 2 + 1, none⟩ (.slice A' k' d')) base (.slice (some ⟨g, 0, none⟩) n c) (X.set i x) ∧ (∀ A0 c0 l, Lim w A0 c0 l → Lim ((w.setCell ⟨g, i * 2, none⟩ (.slice A k d)).setCell ⟨g, i * 2 + 1, none⟩ (.slice A' k' d')) A0 c0 l) ∧ w.grownBy ((w.setCell ⟨g, i * 2, none⟩ (.slice A k d)).setCell ⟨g, i * 2 + 1, none⟩ (.slice A' k' d')) (some g) := by
 have hXn : n = X.length := by
  obtain ⟨_, _, e⟩ := h.shp; injection e
 obtain ⟨ps, h1, h2, h3, h4⟩ := h; rw [← hXn] at h1; obtain ⟨j1, j2⟩ := h1.stored (i * 2) (.slice A k d); obtain ⟨j3, j4⟩ := j1.stored (i * 2 + 1) (.slice A' k' d'); have o1 := h3.stored h1 (i * 2) (.slice A k d) (fun n e => by cases e); have o2 := o1.stored j1 (i * 2 + 1) (.slice A' k' d') (fun n e => by cases e); have hl : ∀ A0 c0 l, Lim w A0 c0 l → Lim ((w.setCell ⟨g, i * 2, none⟩ (.slice A k d)).setCell ⟨g, i * 2 + 1, none⟩ (.slice A' k' d')) A0 c0 l := fun A0 c0 l hh => (hh.grownBy (a := .slice (some ⟨g, 0, none⟩) n c) j2 h3).grownBy (a := .slice (some ⟨g, 0, none⟩) n c) j4 o1
 refine ⟨⟨ps.set i (.slice A k d, .slice A' k' d'), ?_, by simp [h2], o2, ?_⟩, hl, ⟨j4.os.trans j2.os, j4.tape.trans j2.tape, j4.output.trans j2.output, Nat.le_trans j2.size j4.size, fun b hb hne => (j4.block b (Nat.lt_of_lt_of_le hb j2.size) hne).trans (j2.block b hb hne)⟩⟩
 ·rw [flat_set, List.length_set, ← hXn]; exact j3
 ·intro j p y e1 e2; by_cases hj : j = i
  ·subst hj
   have hlt : j < ps.length := by
    have := (List.getElem?_eq_some_iff.1 e1).1
    simpa using this
   rw [List.getElem?_set_self hlt] at e1; rw [List.getElem?_set_self (by omega)] at e2; injection e1 with e1; injection e2 with e2; subst e1 e2; exact hx.mapL hl
  ·rw [List.getElem?_set_ne (fun e => hj e.symm)] at e1 e2; exact (h4 j p y e1 e2).mapL hl
/-- what a store into an own row leaves alone -/
theorem below_own {w0 w w' : World} {base g : Nat} (hb : Below base w0 w) (k : w.grownBy w' (some g)) (hg : base ≤ g) (hs : base ≤ w.heap.size) : Below base w0 w' := hb.grown k hs (fun b e => by injection e with e; omega)
/-- a made row of zero ratios -/
theorem RatOwn.made (w : World) (n : Nat) (hn : n ≤ 1048576) : RatOwn (w.alloc (.cells (List.replicate (n * 2) (Value.slice none 0 0)).toArray 25)) w.heap.size (.slice (some ⟨w.heap.size, 0, none⟩) n n) (List.replicate n nilP) := by
 have e : (List.replicate n ((Value.slice none 0 0, Value.slice none 0 0) : Value × Value)).flatMap prC = List.replicate (n * 2) (Value.slice none 0 0) := by
  induction n with
  | zero => rfl
  | succ n ih =>
   rw [List.replicate_succ, List.flatMap_cons, ih (by omega), show (n + 1) * 2 = n * 2 + 1 + 1 by omega, List.replicate_succ, List.replicate_succ]; rfl
 refine ⟨List.replicate n (.slice none 0 0, .slice none 0 0), ?_, by simp, OwnAll.blk (Blk.new w _ _) fun x hx => ?_, fun i p x e1 e2 => ?_⟩
 ·rw [e, List.length_replicate]; have := World.ownsRow_lit (base := w.heap.size) (e := 25) (size := 2) w (List.replicate (n * 2) (Value.slice none 0 0)).toArray n (Nat.le_refl _) (by unfold maxLen; omega) (by simp)
  simpa using this
 ·simp only [List.mem_replicate] at hx; rw [hx.2]; intro n e; cases e
 ·obtain ⟨_, e1⟩ := List.getElem?_eq_some_iff.1 e1; obtain ⟨_, e2⟩ := List.getElem?_eq_some_iff.1 e2; rw [List.getElem_replicate] at e1 e2; subst e1 e2; exact nil_rtP _
end Go.Proofs.Ytnjjdiilkhdbeaa
namespace Go.Proofs.Ytnjjdiilkhdbeaa
open Go Go.RowKit
/-- what lasts while the blocks from a base up, and all limbs, are left alone -/
structure KeepG (base : Nat) (w w' : World) : Prop where
 heap : ∀ b, base ≤ b → b < w.heap.size → w'.heap[b]? = w.heap[b]?
 lim : ∀ A c l, Lim w A c l → Lim w' A c l
 size : w.heap.size ≤ w'.heap.size
theorem KeepG.trans {base : Nat} {w w1 w2 : World} (h : KeepG base w w1) (k : KeepG base w1 w2) : KeepG base w w2 := ⟨fun b h1 h2 => (k.heap b h1 (Nat.lt_of_lt_of_le h2 h.size)).trans (h.heap b h1 h2), fun A c l hl => k.lim _ _ _ (h.lim _ _ _ hl), Nat.le_trans h.size k.size⟩
theorem KeepG.set {base g : Nat} {w : World} {T : TypeId} {arr : Array Value} (hb : Blk w g T arr) (hn : NoU arr) (hg : g < base) (i : Nat) (u : Value) : KeepG base w (w.setCell ⟨g, i, none⟩ u) :=
 ⟨fun b h1 _ => Below.heap_setCell w ⟨g, i, none⟩ u b (by show b ≠ g; omega), fun _ _ _ hl => hl.setB hb hn u, by simp⟩
theorem noU3 (x1 x2 x3 : Value) (h1 : NoL x1) (h2 : NoL x2) (h3 : NoL x3) : NoU #[x1, x2, x3] := by
 intro i n h
 rcases i with _ | _ | _ | i
 ·simp at h; exact h1 n h
 ·simp at h; exact h2 n h
 ·simp at h; exact h3 n h
 ·simp at h
theorem noU_sl (A : Option Addr) (k c : Nat) (A' : Option Addr) (k' c' : Nat) (S : Option Addr) (kS cS : Nat) : NoU #[.slice A k c, .slice A' k' c', .slice S kS cS] :=
 noU3 _ _ _ (fun n e => by cases e) (fun n e => by cases e) (fun n e => by cases e)
/-- three cells stored into a plan's block -/
theorem KeepG.set3 {base g : Nat} {w : World} {T : TypeId} {A : Option Addr} {k c : Nat} {A' : Option Addr} {k' c' : Nat} {S : Option Addr} {kS cS : Nat} (hb : Blk w g T #[.slice A k c, .slice A' k' c', .slice S kS cS]) (hg : g < base) (B : Option Addr) (m d : Nat) (B' : Option Addr) (m' d' : Nat) (R : Option Addr) (kR cR : Nat) :
  KeepG base w (((w.setCell ⟨g, 0, none⟩ (.slice B m d)).setCell ⟨g, 1, none⟩ (.slice B' m' d')).setCell ⟨g, 2, none⟩ (.slice R kR cR)) := by
 have h1 := hb.set_ 0 (.slice B m d); have h2 := h1.set_ 1 (.slice B' m' d'); exact ((KeepG.set hb (noU_sl _ _ _ _ _ _ _ _ _) hg _ _).trans (KeepG.set h1 (noU_sl B m d A' k' c' S kS cS) hg _ _)).trans (KeepG.set h2 (noU_sl B m d B' m' d' S kS cS) hg _ _)
theorem own_keepG {w w' : World} {base : Nat} {e : TypeId} {size : Nat} {v : Value} {n : Nat} {xs : List Value} (h : w.ownsRow base e size v n xs) (k : ∀ b, base ≤ b → b < w.heap.size → w'.heap[b]? = w.heap[b]?) : w'.ownsRow base e size v n xs :=
 ownsRow_keep h fun g hg => k g (h.lt g hg).1 (h.lt g hg).2
theorem OwnAll.keepG {Pr : Value → Prop} {w w' : World} {base : Nat} {v : Value} (h : OwnAll Pr w v) (hl : ∀ g, v.ownBlock = some g → base ≤ g ∧ g < w.heap.size) (k : ∀ b, base ≤ b → b < w.heap.size → w'.heap[b]? = w.heap[b]?) : OwnAll Pr w' v := by
 intro g hg i x hx; rw [World.cell?_of_block (k g (hl g hg).1 (hl g hg).2)] at hx; exact h g hg i x hx
theorem RatOwn.keepG {w w' : World} {base : Nat} {v : Value} {X : List LP} (h : RatOwn w base v X) (k : KeepG base w w') : RatOwn w' base v X := by
 obtain ⟨ps, h1, h2, h3, h4⟩ := h; exact ⟨ps, own_keepG h1 k.heap, h2, h3.keepG h1.lt k.heap, fun i p x e1 e2 => (h4 i p x e1 e2).mapL k.lim⟩
/-- an append to, or a store into, a row leaves another one alone -/
theorem RatOwn.kept {w w' : World} {base : Nat} {u a : Value} {X : List LP} (h : RatOwn w base u X) (k : w.grownBy w' a.ownBlock) (hO : OwnAll NoL w a) (hne : ∀ g, u.ownBlock = some g → a.ownBlock ≠ some g) : RatOwn w' base u X := by
 obtain ⟨ps, h1, h2, h3, h4⟩ := h; have hk : ∀ g, u.ownBlock = some g → w'.heap[g]? = w.heap[g]? := fun g hg => k.block g (h1.lt g hg).2 (fun e => hne g hg e.symm)
 refine ⟨ps, ownsRow_keep h1 hk, h2, ?_, fun i p x e1 e2 => (h4 i p x e1 e2).grownBy k hO⟩; intro g hg i x hx; rw [World.cell?_of_block (hk g hg)] at hx; exact h3 g hg i x hx
theorem own_types {w : World} {b1 b2 s1 s2 n1 n2 : Nat} {e1 e2 : TypeId} {u v : Value} {xs ys : List Value} (h1 : w.ownsRow b1 e1 s1 u n1 xs) (h2 : w.ownsRow b2 e2 s2 v n2 ys) (hT : e1 ≠ e2) : ∀ g, u.ownBlock = some g → v.ownBlock ≠ some g := by
 intro g hg hv
 rcases h1.2 with ⟨rfl, _⟩ | ⟨g1, c1, cur1, rfl, _, k1, _⟩
 ·cases hg
 ·rcases h2.2 with ⟨rfl, _⟩ | ⟨g2, c2, cur2, rfl, _, k2, _⟩
  ·cases hv
  ·simp only [Value.ownBlock, Option.some.injEq] at hg hv; subst hg hv; rw [k1] at k2; simp only [Option.some.injEq, Obj.cells.injEq] at k2; exact hT k2.2.1
def sl3V (s : SL3) : Value := .slice s.A s.k s.c
/-- a row of rows of ratios, all of the call's own -/
def RatsOwn (w : World) (base : Nat) (v : Value) (rows : List (List LP)) : Prop := ∃ ss : List SL3, w.ownsRow base 36 1 v rows.length (ss.flatMap sl3C) ∧ ss.length = rows.length ∧ OwnAll NoL w v ∧
 (∀ (i : Nat) s r, ss[i]? = some s → rows[i]? = some r → RatOwn w base (sl3V s) r) ∧ ∀ (i j : Nat) s t, i ≠ j → ss[i]? = some s → ss[j]? = some t → ∀ b, (sl3V s).ownBlock = some b → (sl3V t).ownBlock ≠ some b
theorem RatsOwn.nil (w : World) (base : Nat) : RatsOwn w base (.slice none 0 0) [] :=
 ⟨[], World.ownsRow_nil _ _ _ _, rfl, OwnAll.nil, fun i s r h => by simp at h, fun i j s t _ h => by simp at h⟩
theorem RatsOwn.shp {w : World} {base : Nat} {v : Value} {rows : List (List LP)} (h : RatsOwn w base v rows) : ∃ A c, v = .slice A rows.length c := by
 obtain ⟨ss, h1, _⟩ := h; exact own_shp h1
theorem RatsOwn.keepG {w w' : World} {base : Nat} {v : Value} {rows : List (List LP)} (h : RatsOwn w base v rows) (k : KeepG base w w') : RatsOwn w' base v rows := by
 obtain ⟨ss, h1, h2, h3, h4, h5⟩ := h; exact ⟨ss, own_keepG h1 k.heap, h2, h3.keepG h1.lt k.heap, fun i s r e1 e2 => (h4 i s r e1 e2).keepG k, h5⟩
theorem KeepG.below {w w' : World} {base : Nat} (hb : Below w.heap.size w w') : KeepG base w w' := ⟨fun b _ hl => hb.block b hl, fun _ _ _ h => h.below hb, hb.size⟩
theorem RatsOwn.below {w w' : World} {base : Nat} {v : Value} {rows : List (List LP)} (h : RatsOwn w base v rows) (hb : Below w.heap.size w w') : RatsOwn w' base v rows := h.keepG (KeepG.below hb)
theorem RatsOwn.ge {w : World} {base : Nat} {v : Value} {rows : List (List LP)} (h : RatsOwn w base v rows) : ∀ k, v.ownBlock = some k → base ≤ k := by
 obtain ⟨ss, h1, _⟩ := h; exact own_block_ge h1
theorem RatsOwn.rows {w : World} {base : Nat} {A : Option Addr} {k c : Nat} {rows : List (List LP)} (h : RatsOwn w base (.slice A k c) rows) (hk : rows.length ≤ 1048576) (hr : ∀ r ∈ rows, r.length ≤ 1048576) : RatRows w A k rows := by
 have hkl : k = rows.length := by
  obtain ⟨_, _, e⟩ := h.shp; injection e
 obtain ⟨ss, h1, h2, h3, h4, h5⟩ := h; rw [← hkl] at h1; refine ⟨ss, own_any sl3C_len (by omega) (by omega) h1, h2, fun i s r e1 e2 => ?_⟩; exact (h4 i s r e1 e2).row (by have := hr r (List.mem_of_getElem? e2); omega)
theorem sl_noL (A : Option Addr) (k c : Nat) : NoL (.slice A k c) := fun n e => by cases e
theorem info_sl : (Try.prog.info? 36).map (fun i => (i.zero, i.size, i.bytes)) = some (some (.slice none 0 0), 1, 24) := by kernel_rfl
/-- one row more -/
theorem run_push2 (w0 w : World) (ty : TypeId) (base : Nat) (v : Value) (rows : List (List LP)) (h : RatsOwn w0 base v rows) (hb : Below w0.heap.size w0 w) (A : Option Addr) (c : Nat) (B : Option Addr) (m d : Nat) (r : List LP) (hx : RatOwn w w0.heap.size (.slice B m d) r) (hr : Rd w A [.slice B m d]) (hX : rows.length ≤ 1048576) (hbs : base ≤ w0.heap.size) :
  ∃ v' w', (Builtin.append_ #[26, 26] ty #[v, .slice A 1 c]).run Try.prog w = .ok v' w' ∧ RatsOwn w' base v' (rows ++ [r]) ∧ w.grownBy w' v.ownBlock ∧ (∀ u y, RtP w u y → RtP w' u y) := by
 obtain ⟨iR, hi, hz, hs, hby⟩ := info_parts info_sl; obtain ⟨ss, h1, h2, h3, h4, h5⟩ := h; have g1 := own_below h1 hb; have g3 := h3.below hb (fun g hg => (h1.lt g hg).2); obtain ⟨v', w', hrun, k1, k2, k3, k4⟩ := run_append_all (P := Try.prog) w NoL base 26 ty 36 iR (.slice none 0 0) 1 24 Try.underlying26 hi hz hs hby rfl (by omega) v rows.length _ g1 A 1 c [.slice B m d] rfl hr (by simp [Value.oneCell']) (by simp only [maxLen]; omega) (by omega) (Nat.le_trans hbs hb.size) (fun x hx => by have e : x = .slice none 0 0 := (by simpa [Value.cells] using hx); rw [e]; exact sl_noL _ _ _) (fun x hx => by rw [List.mem_singleton] at hx; rw [hx]; exact sl_noL _ _ _) g3
 have hkeep : ∀ (u : Value) (X : List LP) (b0 : Nat), RatOwn w b0 u X → RatOwn w' b0 u X := fun u X b0 hh => hh.kept k2 g3 (fun g hg => by
  obtain ⟨ps, q1, _⟩ := hh
  exact own_types q1 g1 (by decide) g hg)
 have hlt : ∀ (i : Nat) s, ss[i]? = some s → ∀ b, (sl3V s).ownBlock = some b → b < w0.heap.size := by
  intro i s e b hb2; have hil := (List.getElem?_eq_some_iff.1 e).1; have := h4 i s _ e (List.getElem?_eq_getElem (by omega)); exact this.lt b hb2
 refine ⟨v', w', hrun, ⟨ss ++ [⟨B, m, d⟩], by rw [List.flatMap_append, List.length_append]; exact k1, by simp [h2], k4, ?_, ?_⟩, k2, fun u y hh => hh.grownBy k2 g3⟩
 ·intro i s y e1 e2; by_cases hi : i < ss.length
  ·rw [List.getElem?_append_left hi] at e1; rw [List.getElem?_append_left (by omega)] at e2; exact hkeep _ _ _ ((h4 i s y e1 e2).below hb)
  ·have hi' : i = ss.length := by
    have := (List.getElem?_eq_some_iff.1 e1).1; simp at this; omega
   subst hi'; rw [List.getElem?_append_right (by omega), Nat.sub_self] at e1; rw [h2, List.getElem?_append_right (by omega), Nat.sub_self] at e2; simp only [List.getElem?_cons_zero, Option.some.injEq] at e1 e2; subst e1 e2; exact (hkeep _ _ _ hx).mono hbs
 ·intro i j s t hne e1 e2 b hb1 hb2
  have side : ∀ (i : Nat) s, (ss ++ [(⟨B, m, d⟩ : SL3)])[i]? = some s → (i < ss.length ∧ ss[i]? = some s) ∨ (i = ss.length ∧ s = ⟨B, m, d⟩) := by
   intro i s e; by_cases hi : i < ss.length
   ·rw [List.getElem?_append_left hi] at e; exact .inl ⟨hi, e⟩
   ·have hi' : i = ss.length := by
     have := (List.getElem?_eq_some_iff.1 e).1; simp at this; omega
    subst hi'; rw [List.getElem?_append_right (by omega), Nat.sub_self] at e; simp only [List.getElem?_cons_zero, Option.some.injEq] at e; exact .inr ⟨rfl, e.symm⟩
  rcases side i s e1 with ⟨i1, s1⟩ | ⟨i1, rfl⟩ <;> rcases side j t e2 with ⟨j1, t1⟩ | ⟨j1, rfl⟩
  ·exact h5 i j s t hne s1 t1 b hb1 hb2
  ·have a1 := hlt i s s1 b hb1; have a2 := hx.ge b hb2; omega
  ·have a1 := hlt j t t1 b hb2; have a2 := hx.ge b hb1; omega
  ·omega
theorem wpList_push2 {ops : Array Oper} {rest : List Oper} {o : Oper} {a : Act} {w : World} {Q : Exit → Act → World → Prop} (hgd : o.guard = none) (s x : Operand) (ho : o.op = .call { callee := .builtin .append, args := #[s, x], argTypes := #[26, 26] })
  (w0 : World) (base : Nat) (v : Value) (rows : List (List LP)) (hs : a.eval s = v) (h : RatsOwn w0 base v rows) (hb : Below w0.heap.size w0 w) (A : Option Addr) (c : Nat) (B : Option Addr) (m d : Nat) (r : List LP) (hx : a.eval x = .slice A 1 c) (hy : RatOwn w w0.heap.size (.slice B m d) r) (hr : Rd w A [.slice B m d]) (hX : rows.length ≤ 1048576) (hbs : base ≤ w0.heap.size)
  (hK : ∀ v' w', RatsOwn w' base v' (rows ++ [r]) → w.grownBy w' v.ownBlock → (∀ u z, RtP w u z → RtP w' u z) → wpList Try.prog ops Q rest (a.put o.dst v') w') : wpList Try.prog ops Q (o :: rest) a w := by
 refine wpList_plain hgd fun K hK2 => ?_
 obtain ⟨v', w', hrun, h2, h3, h4⟩ := run_push2 w0 w o.type base v rows h hb A c B m d r hy hr hX hbs; unfold Oper.wp execOp; simp only [ho, resolve, invoke, builtin, Sem.run_bind, Sem.run_pure, Result.andThen_ok, List.map_toArray, List.map_cons, List.map_nil, hs, hx, hrun]; exact hK2 _ _ (hK v' w' h2 h3 h4)
end Go.Proofs.Ytnjjdiilkhdbeaa
namespace Go.Proofs.Ytnjjdiilkhdbeaa
open Go Go.RowKit
def RowsOk (b : LP) (rows : List (List LP)) : Prop := ∀ (i : Nat) r, rows[i]? = some r → r.length = i + 1 ∧ ∀ s ∈ r, wrongB b s = false
theorem RowsOk.snoc {b : LP} {rows : List (List LP)} {r : List LP} (h : RowsOk b rows) (hl : r.length = rows.length + 1) (hw : ∀ s ∈ r, wrongB b s = false) : RowsOk b (rows ++ [r]) := by
 intro i y e; by_cases hi : i < rows.length
 ·rw [List.getElem?_append_left hi] at e; exact h i y e
 ·have hi' : i = rows.length := by
   have := (List.getElem?_eq_some_iff.1 e).1; simp at this; omega
  subst hi'; rw [List.getElem?_append_right (by omega), Nat.sub_self] at e; simp only [List.getElem?_cons_zero, Option.some.injEq] at e; subst e; exact ⟨hl, hw⟩
theorem badFrom_ok {b : LP} : ∀ (rows : List (List LP)) (m : Nat), (∀ (i : Nat) r, rows[i]? = some r → r.length = m + i + 1 ∧ ∀ s ∈ r, wrongB b s = false) → badFrom b m rows = false
 | [], _, _ => rfl
 | x :: rs, m, h => by
  have h0 := h 0 x rfl; have h1 := badFrom_ok rs (m + 1) (fun i r e => by have := h (i + 1) r e; exact ⟨by omega, this.2⟩); unfold badFrom rowBad; rw [h1, decide_eq_false (by omega)]; have h2 : x.any (wrongB b) = false := by rw [List.any_eq_false]; intro s hs; simp [h0.2 s hs]
  rw [h2]; rfl
theorem planE_ok {b : LP} {rows : List (List LP)} (h1 : rows.length ≤ 16) (h2 : partB b = true) (h3 : RowsOk b rows) : planE b rows = 0 := by
 unfold planE; rw [if_neg (by omega), h2, if_neg (by simp), badFrom_ok rows 0 (fun i r e => by have := h3 i r e; exact ⟨by omega, this.2⟩), if_neg (by simp)]
theorem part_good {p q : Nat} (g : Nm.Good p q) (hp : p ≤ q) (hq : q ≤ 255) : partB (ratP p q) = true := by
 unfold partB oneP; rw [smallB_rat g (by omega) hq, atB_rat g Good_one]; simp; omega
theorem PlanV.okP {w : World} {v : Value} {b : LP} {rows : List (List LP)} (h : PlanV w v b rows) : okP b ∧ ∀ r ∈ rows, ∀ s ∈ r, okP s := by
 obtain ⟨x1, x2, S, k, c, rfl, h1, ss, h2, h3, h4⟩ := h; refine ⟨h1.ok, fun r hr s hs => ?_⟩; obtain ⟨i, hi, rfl⟩ := List.getElem_of_mem hr; obtain ⟨ps, k1, k2, k3⟩ := h4 i ss[i] rows[i] (List.getElem?_eq_getElem (by omega)) (List.getElem?_eq_getElem hi); obtain ⟨j, hj, rfl⟩ := List.getElem_of_mem hs; exact (k3 j ps[j] _ (List.getElem?_eq_getElem (by omega)) (List.getElem?_eq_getElem hj)).ok
/-- what Made's inner round leaves -/
def SMa (b : LP) (base : Nat) (w2 wr : World) (X : List LP) : List Value → (Nat → Value) → World → Prop
 | [], _, W => Below wr.heap.size wr W
 | [v], _, W => ∃ y, wrongB b y = false ∧ RatOwn W base v (X ++ [y]) ∧ Below base w2 W
 | [v, u], _, W => u = v ∧ ∃ y, wrongB b y = false ∧ RatOwn W base v (X ++ [y]) ∧ Below base w2 W
 | _, _, _ => True
def PhiMd (gP kk n kl cl co : Nat) (A Ao : Option Addr) (x1 x2 : Value) (b : LP) (vs : Nat → Value) (j : Nat) (w : World) (x : Value) : Prop :=
 match j with
 | 0 => x = .slice Ao kk co
 | 1 => x = .pointer (some ⟨gP, 0, none⟩)
 | 2 => x = .agg #[x1, x2]
 | 3 => x = .slice A kl cl
 | 4 => x = .int .i64 (n : Nat)
 | 5 => x = .int .i64 (n : Nat)
 | 6 => ∃ z : Int, x = .int .i64 z
 | 7 => ∃ z : Int, x = .int .i64 z
 | 8 => ∃ z : Int, x = .int .i64 z
 | 9 => ∃ z : Int, x = .int .i64 z
 | 10 => x = .int .i64 (kk : Nat)
 | 11 => ∃ z : Int, x = .int .i64 z
 | 12 => ∃ z : Nat, x = .int .i64 (z : Nat) ∧ z < 4096
 | 13 => BetOk b w x
 | 14 => ∃ g u1 u2 y, x = .slice (some ⟨g, 0, none⟩) 1 1 ∧ Rd w (some ⟨g, 0, none⟩) [u1, u2] ∧ RtP w (.agg #[u1, u2]) y ∧ wrongB b y = false
 | _ => True
theorem PhiMd.keepR {gP kk n kl cl co : Nat} {A Ao : Option Addr} {x1 x2 : Value} {b : LP} : ∀ vs (w w' : World), Below w.heap.size w w' → ∀ j x, PhiMd gP kk n kl cl co A Ao x1 x2 b vs j w x → PhiMd gP kk n kl cl co A Ao x1 x2 b vs j w' x := by
 intro vs w w' hb j x h; unfold PhiMd at h ⊢
 split <;> simp only at h ⊢
 all_goals first
  | exact h
  | exact h.map (fun A c l hl => hl.below hb)
  | (obtain ⟨g, u1, u2, y, e, h1, h2, h3⟩ := h; exact ⟨g, u1, u2, y, e, h1.below hb, h2.below hb, h3⟩)
theorem PhiMd.keepF {gP kk n kl cl co : Nat} {A Ao : Option Addr} {x1 x2 : Value} {b : LP} : ∀ vs (w w' : World) j x, ([] : List Nat).contains j = true → PhiMd gP kk n kl cl co A Ao x1 x2 b vs j w x → PhiMd gP kk n kl cl co A Ao x1 x2 b vs j w' x := by
 intro vs w w' j x hf
 cases hf
set_option maxRecDepth 100000 in
set_option maxHeartbeats 4000000 in
theorem made17_F (A : Option Addr) (kl cl : Nat) (l : List Int) (most : Nat) (w : World) (h : RowL intC w A kl l) (HL : Hid (∀ x ∈ l, -9223372036854775808 ≤ x ∧ x ≤ 9223372036854775807)) (hm : most ≤ 16) :
  Calls Try.prog 7 #[.slice A kl cl, .int .i64 (most : Int)] w fun e w' => ∃ v b rows, e = .returned v ∧ PlanV w' v b rows ∧ planE b rows = 0 ∧ rows.length ≤ most ∧ Below w.heap.size w w' := by
 go_enter Try.func7, Try.ntmps7
 go_upto_region 1 with fail; refine wp_name ?_; intro w1 HW1; have hb1 : Below w.heap.size w w1 := by rw [HW1.out]; exact bA _ _
 have hB1 : Blk w1 w.heap.size 28 #[.slice none 0 0, .slice none 0 0, .slice none 0 0] := by rw [HW1.out]; exact Blk.new _ _ _
 clear HW1; obtain ⟨gR, hgR⟩ : ∃ g, Hid (g = w.heap.size) := ⟨_, rfl⟩; have hge : w.heap.size ≤ gR := by have := hgR.out; omega
 rw [← hgR.out] at hB1 ⊢; have h1 := h.below hb1; go_wp2_with fail; refine (at_n A kl cl l 0 25 _ h1 HL (by omega) (by omega)).mono ?_; rintro e w' ⟨z1, rfl, hz1, rfl⟩; go_wp2_with fail; refine (at_n A kl cl l 1 24 _ h1 HL (by omega) (by omega)).mono ?_; rintro e w' ⟨z2, rfl, hz2, rfl⟩; go_wp2_with fail; refine (rpart_n z1 z2 _ (by omega) (by omega) (by omega) (by omega)).mono ?_; rintro e w2 ⟨v, pb, qb, rfl, hRt, hG, hle, HK, hb2⟩; obtain ⟨X1, xk1, xc1, X2, xk2, xc2, rfl⟩ := hRt.shape
 have hqb24 : qb ≤ 24 := by
  obtain ⟨a0, k0, _, _, hk24, _, rfl⟩ := HK.out; exact Nat.le_trans (Nat.div_le_self _ _) hk24
 have hpb : pb ≤ 255 := by omega
 have hqb : qb ≤ 255 := by omega
 have hz0 : pb = 0 → qb = 1 := fun h0 => by have := hG.gcd; rwa [h0, Nat.gcd_zero_left] at this
 have hbd := hRt.rtP; have HPT := Lib.hid (part_good hG hle hqb); have hBR := hB1.below hb2 hB1.lt; clear hRt HK hB1 hle; go_upto_region 2 with fail; refine wp_name ?_; intro w3 HW3; have hb3 : Below w2.heap.size w2 w3 := by rw [HW3.out]; exact bA _ _
 have hB3 : Blk w3 w2.heap.size 28 #[.slice X1 xk1 xc1, .slice X2 xk2 xc2, .slice none 0 0] := by rw [HW3.out]; exact Blk.new _ _ _
 clear HW3; obtain ⟨gP, hgP⟩ : ∃ g, Hid (g = w2.heap.size) := ⟨_, rfl⟩; rw [← hgP.out] at hB3 ⊢; have hl2 := h1.below hb2; have hb12 := Below.tr hb1 hb2; have s1 : IntKind.i64.wrap ((most : Int) + 1) = (most : Int) + 1 := by rw [IntWalk.i64_in _ (by omega)]
 have HA := at_n A kl cl l 2 (most + 1) w3 (hl2.below hb3) HL (by omega) (by omega); rw [show ((most + 1 : Nat) : Int) = (most : Int) + 1 by push_cast; rfl] at HA; have hRlt := hBR.lt; clear h1 hb1 hb2; go_wp2_with fail; refine HA.mono ?_; rintro e w' ⟨R, rfl, hRm, rfl⟩; clear HA s1; go_wp2_with fail
 go_loopg [7] R (fun j x wr => ∃ (n : Nat) (rows : List (List LP)) (S : Option Addr) (cS : Nat), x = .int .i64 n ∧ n + j = R ∧ Hid (rows.length = n) ∧ Hid (RowsOk (ratP pb qb) rows) ∧ Blk wr gP 28 #[.slice X1 xk1 xc1, .slice X2 xk2 xc2, .slice S n cS] ∧ RatsOwn wr (gP + 1) (.slice S n cS) rows ∧ Below w2.heap.size w2 wr)
 case atStart => exact ⟨0, [], none, 0, rfl, by omega, rfl, fun i r h => by simp at h, hB3, RatsOwn.nil _ _, hb3⟩
 case round =>
  obtain ⟨G, hG1⟩ : ∃ G, G = gk := ⟨gk, rfl⟩; subst hG1; obtain ⟨n, rows, S, cS, rfl, hnj, HRL, HOK, hBP, hrs, hbe⟩ := hrel; obtain ⟨wo, hwo⟩ : ∃ wo, wo = wr := ⟨_, rfl⟩; subst hwo; have hltP := hBP.lt; by_cases hn : n < R
  ·have t1 : decide ((n : Int) < (R : Int)) = true := by simp; omega
   go_wp2_with fail
   go_loopg [8, 9] (n + 1) (fun j v x wx => ∃ (kk : Nat) (X : List LP), x = .int .i64 kk ∧ kk + j = n + 1 ∧ RatOwn wx wo.heap.size v X ∧ Hid (X.length = kk) ∧ Hid (∀ s ∈ X, wrongB (ratP pb qb) s = false) ∧ Below wo.heap.size wo wx)
   case atStart => exact ⟨0, [], rfl, by omega, RatOwn.nil _ _, rfl, fun s h => by simp at h, Below.refl _ _⟩
   case round =>
    obtain ⟨G2, hG2⟩ : ∃ G, G = gk := ⟨gk, rfl⟩; subst hG2; obtain ⟨kk, X, rfl, hkj, hown, HXL, HXW, hbx⟩ := hrel; obtain ⟨wx, hwx⟩ : ∃ wx, wx = wr := ⟨_, rfl⟩; subst hwx; obtain ⟨Ao, co, rfl⟩ := hown.shp; rw [HXL.out] at hown ⊢; have hBPx := hBP.below hbx hltP; have P0 := Lib.hid (hBPx.cell 0); have P1 := Lib.hid (hBPx.cell 1); have P2 := hBPx.cell 2; simp only [List.getElem?_toArray, List.getElem?_cons_zero, List.getElem?_cons_succ] at P0 P1 P2; by_cases hk : kk ≤ n
    ·have t2 : decide ((kk : Int) ≤ (n : Int)) = true := by simp; omega
     have hbwx := hbe.trans (hbx.mono hbe.size); have hlx := hl2.below hbwx; have hbdx := hbd.below hbwx; have hX30 : X.length ≤ 1073741824 := by have := HXL.out; omega
     clear P2; go_upto_region 10 with fail; refine region_chain [15, 16] [.early, .early, .early, .early, .early, .early, .early, .early, .early, .early, .early, .early, .early, .early, .early, .chain 0, .chain 1] [] [] (PhiMd gP kk n kl cl co A Ao (.slice X1 xk1 xc1) (.slice X2 xk2 xc2) (ratP pb qb)) (fun w w' => Below w.heap.size w w') (SMa (ratP pb qb) wo.heap.size wo wx X) (by kernel_rfl) (by kernel_rfl) (by kernel_rfl) (by kernel_rfl) (sK (fun _ _ _ _ _ h => h) (sK (fun _ _ _ _ _ h => h) (sK (fun _ _ _ _ _ h => h) (sK (fun _ _ _ _ _ h => h) (sK (fun _ _ _ _ _ h => h) (sK (fun _ _ _ _ _ h => h) (sK (fun _ _ _ _ _ h => h) (sK (fun _ _ _ _ _ h => h) (sK (fun _ _ _ _ _ h => h) (sK (fun _ _ _ _ _ h => h) (sK (fun _ _ _ _ _ h => h) (sK (fun _ _ _ _ _ h => h) (sK (fun _ _ _ _ _ h => h) (sK (fun _ _ _ _ _ h => h) (sK (fun _ _ _ _ _ h => h) (sK (fun _ _ _ _ _ h => h) (sK (fun _ _ _ _ _ h => h) (sZ)))))))))))))))))) PhiMd.keepR PhiMd.keepF (fun _ _ _ _ hR hS => Below.tr hS hR) (by rintro (_ | ⟨_, _ | ⟨_, _ | _⟩⟩) vs vs' w _ h <;> exact h) (fun _ => bD _) (fun vs => by simp only [fillR, Act.put, sA, sB, sC, Nat.zero_add, Nat.reduceAdd]; rfl) ?_ ?_
     ·refine sK ?_ (sK ?_ (sK ?_ (sK ?_ (sK ?_ (sK ?_ (sK ?_ (sK ?_ (sK ?_ (sK ?_ (sK ?_ (sK ?_ (sK ?_ (sK ?_ (sK ?_ (sK ?_ (sK ?_ (sZ)))))))))))))))))
      ·as_aux_lemma =>
       intro vs W hS hu hdep K hK; have HU := Lib.hid hu; clear hu; have u16 : vs 16 = .slice Ao kk co := HU.out 16 (by simp); refine ⟨?_⟩; simp only [Act.put, sA, sB, sC, Nat.zero_add, Nat.reduceAdd, u16] at hK ⊢; go_simp; with_reducible refine hK _ _ (Below.refl _ _) ?_
       exact rfl
      ·as_aux_lemma =>
       intro vs W hS hu hdep K hK; have HU := Lib.hid hu; clear hu; refine ⟨?_⟩; simp only [Act.put, sA, sB, sC, Nat.zero_add, Nat.reduceAdd] at hK ⊢; go_simp; with_reducible refine hK _ _ (Below.refl _ _) ?_
       exact rfl
      ·as_aux_lemma =>
       intro vs W hS hu hdep K hK; have HU := Lib.hid hu; clear hu; have d0 := hdep ⟨1, .data⟩ (by simp) rfl; simp only [PhiMd] at d0; have f1 := cell_keep hS P0.out; have f2 := cell_keep hS P1.out; refine ⟨?_⟩; simp only [Act.put, sA, sB, sC, Nat.zero_add, Nat.reduceAdd, d0] at hK ⊢; go_simp; with_reducible refine hK _ _ (Below.refl _ _) ?_
       exact rfl
      ·as_aux_lemma =>
       intro vs W hS hu hdep K hK; have HU := Lib.hid hu; clear hu; refine ⟨?_⟩; simp only [Act.put, sA, sB, sC, Nat.zero_add, Nat.reduceAdd] at hK ⊢; go_simp; with_reducible refine hK _ _ (Below.refl _ _) ?_
       exact rfl
      ·as_aux_lemma =>
       intro vs W hS hu hdep K hK; have HU := Lib.hid hu; clear hu; refine ⟨?_⟩; simp only [Act.put, sA, sB, sC, Nat.zero_add, Nat.reduceAdd] at hK ⊢; go_simp; with_reducible refine hK _ _ (Below.refl _ _) ?_
       exact rfl
      ·as_aux_lemma =>
       intro vs W hS hu hdep K hK; have HU := Lib.hid hu; clear hu; refine ⟨?_⟩; simp only [Act.put, sA, sB, sC, Nat.zero_add, Nat.reduceAdd] at hK ⊢; go_simp; with_reducible refine hK _ _ (Below.refl _ _) ?_
       exact rfl
      ·as_aux_lemma =>
       intro vs W hS hu hdep K hK; have HU := Lib.hid hu; clear hu; have d0 := hdep ⟨5, .data⟩ (by simp) rfl; simp only [PhiMd] at d0; refine ⟨?_⟩; simp only [Act.put, sA, sB, sC, Nat.zero_add, Nat.reduceAdd, d0] at hK ⊢; go_simp; with_reducible refine hK _ _ (Below.refl _ _) ?_
       exact ⟨_, rfl⟩
      ·as_aux_lemma =>
       intro vs W hS hu hdep K hK; have HU := Lib.hid hu; clear hu; have d0 := hdep ⟨4, .data⟩ (by simp) rfl; simp only [PhiMd] at d0; have d1 := hdep ⟨6, .data⟩ (by simp) rfl; simp only [PhiMd] at d1; refine @exE1 _ _ _ d1 ?_; clear d1; intro z1 d1; have e1 := d1; clear d1; refine ⟨?_⟩; simp only [Act.put, sA, sB, sC, Nat.zero_add, Nat.reduceAdd, d0, e1] at hK ⊢; go_simp; with_reducible refine hK _ _ (Below.refl _ _) ?_
       exact ⟨_, rfl⟩
      ·as_aux_lemma =>
       intro vs W hS hu hdep K hK; have HU := Lib.hid hu; clear hu; have d0 := hdep ⟨7, .data⟩ (by simp) rfl; simp only [PhiMd] at d0; refine @exE1 _ _ _ d0 ?_; clear d0; intro z0 d0; have e0 := d0; clear d0; refine ⟨?_⟩; simp only [Act.put, sA, sB, sC, Nat.zero_add, Nat.reduceAdd, e0] at hK ⊢; go_simp; with_reducible refine hK _ _ (Below.refl _ _) ?_
       exact ⟨_, rfl⟩
      ·as_aux_lemma =>
       intro vs W hS hu hdep K hK; have HU := Lib.hid hu; clear hu; have d0 := hdep ⟨8, .data⟩ (by simp) rfl; simp only [PhiMd] at d0; refine @exE1 _ _ _ d0 ?_; clear d0; intro z0 d0; have e0 := d0; clear d0; refine ⟨?_⟩; simp only [Act.put, sA, sB, sC, Nat.zero_add, Nat.reduceAdd, e0] at hK ⊢; go_simp; with_reducible refine hK _ _ (Below.refl _ _) ?_
       exact ⟨_, rfl⟩
      ·as_aux_lemma =>
       intro vs W hS hu hdep K hK; have HU := Lib.hid hu; clear hu; refine ⟨?_⟩; simp only [Act.put, sA, sB, sC, Nat.zero_add, Nat.reduceAdd] at hK ⊢; go_simp; with_reducible refine hK _ _ (Below.refl _ _) ?_
       exact rfl
      ·as_aux_lemma =>
       intro vs W hS hu hdep K hK; have HU := Lib.hid hu; clear hu; have d0 := hdep ⟨9, .data⟩ (by simp) rfl; simp only [PhiMd] at d0; refine @exE1 _ _ _ d0 ?_; clear d0; intro z0 d0; have e0 := d0; clear d0; have d1 := hdep ⟨10, .data⟩ (by simp) rfl; simp only [PhiMd] at d1; refine ⟨?_⟩; simp only [Act.put, sA, sB, sC, Nat.zero_add, Nat.reduceAdd, e0, d1] at hK ⊢; go_simp; with_reducible refine hK _ _ (Below.refl _ _) ?_
       exact ⟨_, rfl⟩
      ·as_aux_lemma =>
       intro vs W hS hu hdep K hK; have HU := Lib.hid hu; clear hu; have d0 := hdep ⟨3, .data⟩ (by simp) rfl; simp only [PhiMd] at d0; have d1 := hdep ⟨11, .data⟩ (by simp) rfl; simp only [PhiMd] at d1; refine @exE1 _ _ _ d1 ?_; clear d1; intro z1 d1; have e1 := d1; clear d1; refine ⟨?_⟩; simp only [fillR, Act.put, sA, sB, sC, Nat.zero_add, Nat.reduceAdd, d0, e1] at hK ⊢; go_simp; refine (at_n A kl cl l z1 4096 _ (hlx.below hS) HL (by omega) (by omega)).mono ?_; rintro e w' ⟨z, rfl, hz, rfl⟩; go_wp2_with fail; with_reducible refine hK _ _ (Below.refl _ _) ?_
       exact ⟨z, rfl, hz⟩
      ·as_aux_lemma =>
       intro vs W hS hu hdep K hK; have HU := Lib.hid hu; clear hu; have d0 := hdep ⟨2, .data⟩ (by simp) rfl; simp only [PhiMd] at d0; have d1 := hdep ⟨12, .data⟩ (by simp) rfl; simp only [PhiMd] at d1; refine @exE1 _ _ _ d1 ?_; clear d1; intro z1 d1; have e1 := d1.1; have n1 := d1.2; clear d1; refine ⟨?_⟩; simp only [fillR, Act.put, sA, sB, sC, Nat.zero_add, Nat.reduceAdd, d0, e1] at hK ⊢; go_simp; refine (bet_F _ pb qb z1 _ (hbdx.below hS) hG hpb hqb (by omega) hz0).mono ?_; rintro e w' ⟨v, rfl, hv, hb⟩; go_wp2_with fail; with_reducible refine hK _ _ hb ?_
       exact hv
      ·as_aux_lemma =>
       intro vs W hS hu hdep K hK; have HU := Lib.hid hu; clear hu; have d0 := hdep ⟨13, .data⟩ (by simp) rfl; simp only [PhiMd] at d0; have r0 := d0; clear d0; obtain ⟨E1, m1, c1, E2, m2, c2, e0⟩ := r0.shape; rw [e0] at r0; obtain ⟨p, q, hr0, _, hw0⟩ := r0; have hgood := Lib.hid (And.intro hr0 hw0); clear hr0 hw0; refine ⟨?_⟩; simp only [Act.put, sA, sB, sC, Nat.zero_add, Nat.reduceAdd, e0] at hK ⊢; go_simp; with_reducible refine hK _ _ (bA _ _) ?_
       exact ⟨_, _, _, _, rfl, Rd.newC _ _ _, hgood.out.1.below (bA _ _), hgood.out.2⟩
      ·as_aux_lemma =>
       intro vs W hS hdep K hK; have d0 := hdep ⟨0, .data⟩ (by simp) rfl (by rfl); simp only [PhiMd] at d0; have d1 := hdep ⟨14, .data⟩ (by simp) rfl (by rfl); simp only [PhiMd] at d1; have hS : Below wx.heap.size wx W := hS; refine @exE2 _ _ _ _ d1 ?_; clear d1; intro g u1 d1; refine @exE2 _ _ _ _ d1 ?_; clear d1; intro u2 y d1; have e1 := d1.1; have hrd := d1.2.1; have hry := d1.2.2.1; have HW := Lib.hid d1.2.2.2; clear d1; have hown2 := hown.below hS; have hbe2 := Below.tr hbx hS; have hsz := hbe2.size; clear hS; refine ⟨?_⟩; simp only [Act.put, sA, sB, sC, Nat.zero_add, Nat.reduceAdd, d0, e1] at hK ⊢; rw [if_pos (by rfl)]; refine wp_push (.tmp 30) (.tmp 44) rfl wo.heap.size _ X rfl hown2 (some ⟨g, 0, none⟩) 1 u1 u2 _ rfl hry hrd hX30 hsz ?_; intro v4 w4 hown4 hg4 hat4 hkp4; have hbe5 := hbe2.grown hg4 hsz hown2.ge; obtain ⟨X', HX'⟩ : ∃ X', Hid (X' = X ++ [y]) := ⟨_, rfl⟩; rw [← HX'.out] at hown4; obtain ⟨A5, c5, rfl⟩ := hown4.shp; simp only [Act.put, sA, sB, sC]; with_reducible refine hK _ _ ?_
       exact ⟨y, HW.out, by rw [← HX'.out]; exact hown4, hbe5⟩
      ·as_aux_lemma =>
       intro vs W hS hdep K hK; have hS1 : SMa (ratP pb qb) wo.heap.size wo wx X [vs 15] vs W := hS; obtain ⟨y, hyw, hown5, hbe5⟩ := hS1; obtain ⟨X', HX'⟩ : ∃ X', Hid (X' = X ++ [y]) := ⟨_, rfl⟩; rw [← HX'.out] at hown5; obtain ⟨A5, c5, e5⟩ := hown5.shp; refine ⟨?_⟩; simp only [Act.put, sA, sB, sC, Nat.zero_add, Nat.reduceAdd, e5] at hK ⊢; go_simp; with_reducible refine hK _ _ ?_
       show _ = _ ∧ _
       rw [e5] at hown5 ⊢; exact ⟨rfl, y, hyw, by rw [← HX'.out]; exact hown5, hbe5⟩
     ·intro vs W hS _; have hS2 : SMa (ratP pb qb) wo.heap.size wo wx X [vs 15, vs 16] vs W := hS; obtain ⟨e16, y, hyw, hown5, hbe5⟩ := hS2; obtain ⟨X', HX'⟩ : ∃ X', Hid (X' = X ++ [y]) := ⟨_, rfl⟩; rw [← HX'.out] at hown5; obtain ⟨A5, c5, e15⟩ := hown5.shp; rw [e15] at hown5 e16; have HXL5 : Hid (X'.length = kk + 1) := by show _ = _; rw [HX'.out, List.length_append, HXL.out]; rfl
      have HXW5 : Hid (∀ s ∈ X', wrongB (ratP pb qb) s = false) := fun s hs => by
       rw [HX'.out] at hs
       rcases List.mem_append.1 hs with hs | hs
       ·exact HXW.out s hs
       ·rw [List.mem_singleton] at hs; rw [hs]; exact hyw
      simp only [Act.put, sA, sB, sC, Nat.zero_add, Nat.reduceAdd, e15, e16]; clear hown HXL HXW hyw P0 P1 hlx hbdx hS hBPx; go_wp2_with fail
      go_roundg (G2 - 1)
      case measure => omega
      case rel => exact ⟨kk + 1, X', by go_num, by omega, hown5, HXL5, HXW5, hbe5⟩
    ·have t2 : decide ((kk : Int) ≤ (n : Int)) = false := by simp; omega
     have hbA := bA wx (.cells #[.slice Ao kk co] 36); have hown6 := hown.below hbA; have hbx6 := Below.tr hbx hbA; have hrd6 := Rd.newC wx 36 [.slice Ao kk co]; have hlen : rows.length ≤ 1048576 := by have := HRL.out; omega
     have hBP6 := hBPx.below hbA hBPx.lt; have hbs : gP + 1 ≤ wo.heap.size := hltP; clear P0 P1 hBPx
     go_wp2_with (at_builtin; go_loud (refine wpList_push2 rfl (.tmp 47) (.tmp 49) rfl wo (gP + 1) _ rows rfl hrs hbx6 (some ⟨wx.heap.size, 0, none⟩) 1 Ao kk co X rfl hown6 hrd6 hlen hbs ?_); intro v7 w7 hrs7 hg7 hkp7; obtain ⟨rows7, HR7⟩ : ∃ r, Hid (r = rows ++ [X]) := ⟨_, rfl⟩; rw [← HR7.out] at hrs7; have HRL7 : Hid (rows7.length = n + 1) := (by show _ = _; rw [HR7.out, List.length_append, HRL.out]; rfl); obtain ⟨n7, HN7⟩ : ∃ m, Hid (m = n + 1) := ⟨_, rfl⟩; obtain ⟨S7, c7, rfl⟩ := hrs7.shp; rw [HRL7.out, ← HN7.out] at hrs7; rw [HRL7.out, ← HN7.out]; have hBP7 := hBP6.grown hg7 (fun j hj => by have := hrs.ge j hj; omega); have f7 := hBP7.cell 2; have f8 := hBP7.frozen 2; simp only [List.getElem?_toArray, List.getElem?_cons_zero, List.getElem?_cons_succ] at f7)
     have HOK7 : Hid (RowsOk (ratP pb qb) rows7) := by
      show RowsOk _ _
      rw [HR7.out]; exact HOK.out.snoc (by rw [HXL.out, HRL.out]; omega) HXW.out
     have hbe7 : Below w2.heap.size w2 w7 := (hbe.trans (hbx6.mono hbe.size)).grown hg7 (Nat.le_trans hbe.size hbx6.size) (fun j hj => by have := hrs.ge j hj; have := hgP.out; omega); have hBP8 := hBP7.set_ 2 (.slice S7 n7 c7); have hrs8 := hrs7.keepG (KeepG.set hBP7 (noU_sl _ _ _ _ _ _ _ _ _) (Nat.lt_succ_self gP) 2 (.slice S7 n7 c7)); have hbe8 := hbe7.setCell (p := ⟨gP, 2, none⟩) (by have := hgP.out; show w2.heap.size ≤ gP; omega) (.slice S7 n7 c7); simp only [sA, sB, sC] at hBP8; clear hown hown6 hrs7 hrs hg7 hkp7 hBP7 hBP6 hbx6 hbA hrd6 hBP; rw [HN7.out] at hBP8 hrs8 hbe8; go_wp2_with fail
     go_roundg (G - 1)
     case measure => omega
     case rel => rw [HN7.out]; exact ⟨n + 1, rows7, S7, c7, by go_num, by omega, HRL7, HOK7, hBP8, hrs8, hbe8⟩
  ·have t1 : decide ((n : Int) < (R : Int)) = false := by simp; omega
   have hBRo := hBR.below hbe hRlt; have p0 := hBP.cell 0; have p1 := hBP.cell 1; have p2 := hBP.cell 2; have q0 := hBRo.cell 0; have q1 := hBRo.cell 1; have q2 := hBRo.cell 2; have r0 := hBRo.frozen 0; have r1 := hBRo.frozen 1; have r2 := hBRo.frozen 2; simp only [List.getElem?_toArray, List.getElem?_cons_zero, List.getElem?_cons_succ] at p0 p1 p2 q0 q1 q2; have hf := ((hBRo.set_ 0 (.slice X1 xk1 xc1)).set_ 1 (.slice X2 xk2 xc2)).set_ 2 (.slice S n cS); have z0 := hf.cell 0; have z1 := hf.cell 1; have z2 := hf.cell 2; simp at z0 z1 z2; have hk3 := KeepG.set3 (base := gP + 1) hBRo (by have := hgP.out; omega) X1 xk1 xc1 X2 xk2 xc2 S n cS
   have hrsz := (hrs.keepG hk3).rows (by have := HRL.out; omega) (fun r hr => by
    obtain ⟨i, hi, rfl⟩ := List.getElem_of_mem hr; have := (HOK.out i _ (List.getElem?_eq_getElem hi)).1; have := HRL.out
    omega)
   have hbdz := (hbd.below hbe).mapL hk3.lim; have hb9 := hb12.trans (hbe.mono hb12.size); have hbz : Below w.heap.size w (((wo.setCell ⟨gR, 0, none⟩ (.slice X1 xk1 xc1)).setCell ⟨gR, 1, none⟩ (.slice X2 xk2 xc2)).setCell ⟨gR, 2, none⟩ (.slice S n cS)) := ((hb9.setCell (p := ⟨gR, 0, none⟩) hge _).setCell (p := ⟨gR, 1, none⟩) hge _).setCell (p := ⟨gR, 2, none⟩) hge _; have HPE := Lib.hid (planE_ok (b := ratP pb qb) (rows := rows) (by have := HRL.out; omega) HPT.out HOK.out); have hln : rows.length ≤ most := by have := HRL.out; omega
   clear hrs hBP hBRo hf hk3 hb9 hbe HOK HRL; go_wp2_with fail; exact bodyPost_ret (v := .agg #[.slice X1 xk1 xc1, .slice X2 xk2 xc2, .slice S n cS]) (by simp [results, Try.results7, go_sem, z0, z1, z2]) rfl ⟨_, ratP pb qb, rows, rfl, ⟨_, _, S, n, cS, rfl, hbdz, hrsz⟩, HPE.out, hln, hbz⟩
end Go.Proofs.Ytnjjdiilkhdbeaa
namespace Go.Proofs.Ytnjjdiilkhdbeaa
open Go Go.RowKit
/-- a row of the rest of a plan -/
def restRow (rows : List (List LP)) (n k m : Nat) : List LP := (List.range (m + 1)).map fun j => stakeV rows (n + m) (k + j)
/-- the rest of a plan after n outcomes, k of which were bad -/
def restRows (rows : List (List LP)) (n k : Nat) : List (List LP) := (List.range (rows.length - n)).map (restRow rows n k)
def cntB (bad : List Bool) : Nat := bad.count true
theorem cntB_take {bad : List Bool} {i : Nat} {x : Bool} (h : bad[i]? = some x) : cntB (bad.take (i + 1)) = if x then cntB (bad.take i) + 1 else cntB (bad.take i) := by
 unfold cntB; rw [List.take_add_one, h, Option.toList_some, List.count_append]
 cases x <;> simp
set_option maxRecDepth 100000 in
set_option maxHeartbeats 4000000 in
theorem rest_F (va : Value) (b : LP) (rows : List (List LP)) (A : Option Addr) (kB cB : Nat) (bad : List Bool) (w : World) (hp : PlanV w va b rows) (hrl : rows.length ≤ 16) (hbad : RowS boolC w A kB bad) (hkB : kB ≤ 1024) :
  Calls Try.prog 23 #[va, .slice A kB cB] w fun e w' => ∃ v, e = .returned v ∧ PlanV w' v b (restRows rows kB (cntB bad)) ∧ Below w.heap.size w w' := by
 obtain ⟨x1, x2, S, kS, cS, rfl, hbd, hrows⟩ := hp; obtain ⟨X1, xk1, xc1, X2, xk2, xc2, hsh⟩ := hbd.shape; simp only [Value.agg.injEq, Array.mk.injEq, List.cons.injEq, and_true] at hsh; obtain ⟨rfl, rfl⟩ := hsh; have HKS := Lib.hid hrows.len; have HBL := Lib.hid hbad.2.1; obtain ⟨kc, HKC⟩ : ∃ n, Hid (n = cntB bad) := ⟨_, rfl⟩; rw [← HKC.out]
 go_enter Try.func23, Try.ntmps23
 go_upto_region 1 with fail; refine wp_name ?_; intro w1 HW1; have hb1 : Below w.heap.size w w1 := by rw [HW1.out]; exact (Below.tr (bA _ _) (bA _ _))
 have hBA : Blk w1 w.heap.size 28 #[.slice X1 xk1 xc1, .slice X2 xk2 xc2, .slice S kS cS] := by rw [HW1.out]; exact Blk.below (Blk.newG rfl) (bA _ _) (Blk.newG rfl).lt
 have hBR : Blk w1 (w.heap.size + 1) 28 #[.slice none 0 0, .slice none 0 0, .slice none 0 0] := by rw [HW1.out]; exact Blk.newG (by simp)
 clear HW1; obtain ⟨gA, hgA⟩ : ∃ g, Hid (g = w.heap.size) := ⟨_, rfl⟩; obtain ⟨gR, hgR⟩ : ∃ g, Hid (g = w.heap.size + 1) := ⟨_, rfl⟩; have hge : w.heap.size ≤ gR := by have := hgR.out; omega
 rw [← hgR.out] at hBR ⊢; rw [← hgA.out] at hBA ⊢; clear hgA hgR; have hbad1 := hbad.below hb1; have hbd := hbd.below hb1; have hrows := hrows.below hb1; have hAlt := hBA.lt; have hRlt := hBR.lt; clear hbad; go_wp2_with fail
 go_loopg [6, 7] kB (fun j x6 x7 wr => ∃ i k : Nat, x6 = .int .i64 k ∧ x7 = .int .i64 i ∧ i + j = kB ∧ k ≤ i ∧ Hid (k = cntB (bad.take i)) ∧ Below w1.heap.size w1 wr)
 case atStart => exact ⟨0, 0, rfl, rfl, by omega, by omega, rfl, Below.refl _ _⟩
 case round =>
  obtain ⟨G, hG⟩ : ∃ G, G = gk := ⟨gk, rfl⟩; subst hG; obtain ⟨i, k, rfl, rfl, hij, hki, HK, hbe⟩ := hrel; obtain ⟨w2, hwo⟩ : ∃ wo, wo = wr := ⟨_, rfl⟩; subst hwo; by_cases hi : i < kB
  ·have t1 : decide ((i : Int) < (kB : Int)) = true := by simp; omega
   have hi1 : (i : Int) < (kB : Int) := by omega
   obtain ⟨bB, oB, bb, rfl, hcb, HB⟩ := (hbad1.below hbe).bool hi; have HK2 := Lib.hid (cntB_take HB.out)
   cases bb
   all_goals
    go_wp2_with fail
    go_roundg (G - 1)
    case measure => omega
   case rel => exact ⟨i + 1, k, rfl, by go_num, by omega, by omega, by show _ = _; rw [HK2.out, ← HK.out]; rfl, hbe⟩
   case rel => exact ⟨i + 1, k + 1, by go_num, by go_num, by omega, by omega, by show _ = _; rw [HK2.out, ← HK.out]; rfl, hbe⟩
  ·have t1 : decide ((i : Int) < (kB : Int)) = false := by simp; omega
   have HKK : Hid (k = kc) := by
    have h1 := HK.out; rw [List.take_of_length_le (by have := HBL.out; omega)] at h1
    show _ = _
    rw [h1, HKC.out]
   have hkk := HKK.out; subst hkk; have hBA2 := hBA.below hbe hAlt; have P0 := hBA2.cell 0; have P1 := hBA2.cell 1; simp only [List.getElem?_toArray, List.getElem?_cons_zero, List.getElem?_cons_succ] at P0 P1; have hbd2 := hbd.below hbe; have hrows2 := hrows.below hbe; have hBR2 := hBR.below hbe hRlt; have hA2 := hBA2.lt; have hR2 := hBR2.lt; have hbw2 := hb1.trans (hbe.mono hb1.size); clear hbad1 HK hBA hBR hbd hrows hbe HKK; go_upto_region 9 with fail; refine wp_name ?_; intro w3 HW3; have hb3 : Below w2.heap.size w2 w3 := by rw [HW3.out]; exact bA _ _
   have hB3 : Blk w3 w2.heap.size 28 #[.slice X1 xk1 xc1, .slice X2 xk2 xc2, .slice none 0 0] := by rw [HW3.out]; exact Blk.new _ _ _
   clear HW3 P0 P1; obtain ⟨gP, hgP⟩ : ∃ g, Hid (g = w2.heap.size) := ⟨_, rfl⟩; rw [← hgP.out] at hB3 ⊢; obtain ⟨R, HR⟩ : ∃ r, Hid (r = kS - kB) := ⟨_, rfl⟩; go_wp2_with fail
   go_loopg [9] R (fun j x wr => ∃ (n : Nat) (X : List (List LP)) (S2 : Option Addr) (c2 : Nat), x = .int .i64 n ∧ n + j = R ∧ Hid (X = (List.range n).map (restRow rows kB k)) ∧ Blk wr gP 28 #[.slice X1 xk1 xc1, .slice X2 xk2 xc2, .slice S2 n c2] ∧ RatsOwn wr (gP + 1) (.slice S2 n c2) X ∧ Below w2.heap.size w2 wr)
   case atStart => exact ⟨0, [], none, 0, rfl, by omega, rfl, hB3, RatsOwn.nil _ _, hb3⟩
   case round =>
    obtain ⟨G, hG1⟩ : ∃ G, G = gk := ⟨gk, rfl⟩; subst hG1; obtain ⟨n, X, S2, c2, rfl, hnj, HX, hBP, hrs, hbe⟩ := hrel; obtain ⟨wo, hwo⟩ : ∃ wo, wo = wr := ⟨_, rfl⟩; subst hwo; have hltP := hBP.lt; have hBAo := hBA2.below hbe hA2; have Q2 := hBAo.cell 2; simp only [List.getElem?_toArray, List.getElem?_cons_zero, List.getElem?_cons_succ] at Q2; have hn16 : n ≤ 16 := by have := HR.out; have := HKS.out; omega
    have hXn : Hid (X.length = n) := by show _ = _; rw [HX.out]; simp
    have s1 : IntKind.i64.wrap ((kB : Int) + (n : Int)) = (kB : Int) + (n : Int) := by rw [IntWalk.i64_in _ (by omega)]
    by_cases hn : kB + n < kS
    ·have t2 : decide ((kB : Int) + (n : Int) < (kS : Int)) = true := by simp; omega
     have hnR : n < R := by have := HR.out; omega
     go_wp2_with fail
     go_loopg [10, 11] (n + 1) (fun j v x wx => ∃ (jj : Nat) (Y : List LP), x = .int .i64 jj ∧ jj + j = n + 1 ∧ RatOwn wx wo.heap.size v Y ∧ Hid (Y = (List.range jj).map fun q => stakeV rows (kB + n) (k + q)) ∧ Below wo.heap.size wo wx)
     case atStart => exact ⟨0, [], rfl, by omega, RatOwn.nil _ _, rfl, Below.refl _ _⟩
     case round =>
      obtain ⟨G2, hG2⟩ : ∃ G, G = gk := ⟨gk, rfl⟩; subst hG2; obtain ⟨jj, Y, rfl, hjj, hown, HY, hbx⟩ := hrel; obtain ⟨wx, hwx⟩ : ∃ wx, wx = wr := ⟨_, rfl⟩; subst hwx; have hbox := hbe.trans (hbx.mono hbe.size); have HYL : Hid (Y.length = jj) := by show _ = _; rw [HY.out]; simp
      obtain ⟨Ao, co, rfl⟩ := hown.shp; rw [HYL.out] at hown ⊢; by_cases hj : jj ≤ n
      ·have t3 : decide ((jj : Int) ≤ (n : Int)) = true := by simp; omega
       have hBAx := hBAo.below hbx hBAo.lt; have P0 := hBAx.cell 0; have P1 := hBAx.cell 1; have P2 := hBAx.cell 2; simp only [List.getElem?_toArray, List.getElem?_cons_zero, List.getElem?_cons_succ] at P0 P1 P2; have hplx : PlanV wx (.agg #[.slice X1 xk1 xc1, .slice X2 xk2 xc2, .slice S kS cS]) b rows := ⟨_, _, _, _, _, rfl, hbd2.below hbox, hrows2.below hbox⟩; have s2 : IntKind.i64.wrap ((k : Int) + (jj : Int)) = (k : Int) + (jj : Int) := by rw [IntWalk.i64_in _ (by omega)]
       obtain ⟨y, HYY⟩ : ∃ y, Hid (y = stakeV rows (kB + n) (k + jj)) := ⟨_, rfl⟩; have HS := rstake_F (.agg #[.slice X1 xk1 xc1, .slice X2 xk2 xc2, .slice S kS cS]) b rows (kB + n) (k + jj) wx hplx (by omega) (by omega); rw [show ((kB + n : Nat) : Int) = (kB : Int) + (n : Int) by push_cast; rfl, show ((k + jj : Nat) : Int) = (k : Int) + (jj : Int) by push_cast; rfl, ← HYY.out] at HS; have HS := Lib.hid HS; have hX30 : Y.length ≤ 1073741824 := by have := HYL.out; omega
       clear hplx; go_wp2_with fail; refine HS.out.mono ?_; rintro e w4 ⟨v, rfl, hr4, hb4⟩; obtain ⟨E1, m1, c1, E2, m2, d2, rfl⟩ := hr4.shape; have hb5 := bA w4 (.cells #[.slice E1 m1 c1, .slice E2 m2 d2] 25); have hb45 := hb4.trans (hb5.mono hb4.size); have hown6 := hown.below hb45; have hr6 := hr4.below hb5; have hrd6 := Rd.newC w4 25 [.slice E1 m1 c1, .slice E2 m2 d2]; have hbx6 := hbx.trans (hb45.mono hbx.size); have hs6 := hbx6.size; obtain ⟨Y', HY'⟩ : ∃ Z, Hid (Z = Y ++ [y]) := ⟨_, rfl⟩; clear HS hown hr4 P0 P1 P2 hBAx hb5 hb45 hb4 hbx hbox
       go_wp2_with (at_builtin; go_loud (refine wpList_push rfl (.tmp 42) (.tmp 51) rfl wo.heap.size _ Y rfl hown6 (some ⟨w4.heap.size, 0, none⟩) 1 _ _ y rfl hr6 hrd6 hX30 hs6 ?_); intro v7 w7 hown7 hg7 hat7 hkp7; rw [← HY'.out] at hown7; obtain ⟨A7, c7, rfl⟩ := hown7.shp)
       have hbx7 := hbx6.grown hg7 hbx6.size (fun q hq => hown6.ge q hq); have HY7 : Hid (Y' = (List.range (jj + 1)).map fun q => stakeV rows (kB + n) (k + q)) := by show _ = _; rw [HY'.out, HY.out, HYY.out, List.range_succ, List.map_append]; rfl
       clear hown6 hr6 hrd6 hbx6 hs6 hg7 hat7 hkp7; go_wp2_with fail
       go_roundg (G2 - 1)
       case measure => omega
       case rel => exact ⟨jj + 1, Y', by go_num, by omega, hown7, HY7, hbx7⟩
      ·have t3 : decide ((jj : Int) ≤ (n : Int)) = false := by simp; omega
       have hBPx := hBP.below hbx hltP; have P2 := hBPx.cell 2; simp only [List.getElem?_toArray, List.getElem?_cons_zero, List.getElem?_cons_succ] at P2; have hbA := bA wx (.cells #[.slice Ao jj co] 36); have hown6 := hown.below hbA; have hbx6 := Below.tr hbx hbA; have hrd6 := Rd.newC wx 36 [.slice Ao jj co]; have hlen : X.length ≤ 1048576 := by have := hXn.out; omega
       have hBP6 := hBPx.below hbA hBPx.lt; have hbs : gP + 1 ≤ wo.heap.size := hltP; clear hBPx Q2
       go_wp2_with (at_builtin; go_loud (refine wpList_push2 rfl (.tmp 54) (.tmp 56) rfl wo (gP + 1) _ X rfl hrs hbx6 (some ⟨wx.heap.size, 0, none⟩) 1 Ao jj co Y rfl hown6 hrd6 hlen hbs ?_); intro v7 w7 hrs7 hg7 hkp7; obtain ⟨X7, HX7⟩ : ∃ r, Hid (r = X ++ [Y]) := ⟨_, rfl⟩; rw [← HX7.out] at hrs7; have HXL7 : Hid (X7.length = n + 1) := (by show _ = _; rw [HX7.out, List.length_append, hXn.out]; rfl); obtain ⟨n7, HN7⟩ : ∃ m, Hid (m = n + 1) := ⟨_, rfl⟩; obtain ⟨S7, c7, rfl⟩ := hrs7.shp; rw [HXL7.out, ← HN7.out] at hrs7; rw [HXL7.out, ← HN7.out]; have hBP7 := hBP6.grown hg7 (fun j hj => by have := hrs.ge j hj; omega); have f7 := hBP7.cell 2; have f8 := hBP7.frozen 2; simp only [List.getElem?_toArray, List.getElem?_cons_zero, List.getElem?_cons_succ] at f7)
       have HX8 : Hid (X7 = (List.range (n + 1)).map (restRow rows kB k)) := by
        show _ = _
        rw [HX7.out, HX.out, HY.out, List.range_succ, List.map_append, show jj = n + 1 by omega]; rfl
       have hbe7 : Below w2.heap.size w2 w7 := (hbe.trans (hbx6.mono hbe.size)).grown hg7 (Nat.le_trans hbe.size hbx6.size) (fun j hj => by have := hrs.ge j hj; have := hgP.out; omega); have hBP8 := hBP7.set_ 2 (.slice S7 n7 c7); have hrs8 := hrs7.keepG (KeepG.set hBP7 (noU_sl _ _ _ _ _ _ _ _ _) (Nat.lt_succ_self gP) 2 (.slice S7 n7 c7)); have hbe8 := hbe7.setCell (p := ⟨gP, 2, none⟩) (by have := hgP.out; show w2.heap.size ≤ gP; omega) (.slice S7 n7 c7); simp only [sA, sB, sC] at hBP8; clear hown hown6 hrs7 hrs hg7 hkp7 hBP7 hBP6 hbx6 hbA hrd6 hBP P2 hbx hbox; rw [HN7.out] at hBP8 hrs8 hbe8; go_wp2_with fail
       go_roundg (G - 1)
       case measure => omega
       case rel => rw [HN7.out]; exact ⟨n + 1, X7, S7, c7, by go_num, by omega, HX8, hBP8, hrs8, hbe8⟩
    ·have t2 : decide ((kB : Int) + (n : Int) < (kS : Int)) = false := by simp; omega
     have hBRo := hBR2.below hbe hR2; have p0 := hBP.cell 0; have p1 := hBP.cell 1; have p2 := hBP.cell 2; have q0 := hBRo.cell 0; have q1 := hBRo.cell 1; have q2 := hBRo.cell 2; have r0 := hBRo.frozen 0; have r1 := hBRo.frozen 1; have r2 := hBRo.frozen 2; simp only [List.getElem?_toArray, List.getElem?_cons_zero, List.getElem?_cons_succ] at p0 p1 p2 q0 q1 q2; have hf := ((hBRo.set_ 0 (.slice X1 xk1 xc1)).set_ 1 (.slice X2 xk2 xc2)).set_ 2 (.slice S2 n c2); have z0 := hf.cell 0; have z1 := hf.cell 1; have z2 := hf.cell 2; simp at z0 z1 z2; have hk3 := KeepG.set3 (base := gP + 1) hBRo (by have := hgP.out; omega) X1 xk1 xc1 X2 xk2 xc2 S2 n c2
     have hrsz := (hrs.keepG hk3).rows (by have := hXn.out; omega) (fun r hr => by
      rw [HX.out] at hr; obtain ⟨i, hi, rfl⟩ := List.mem_map.1 hr; rw [List.mem_range] at hi; unfold restRow; simp
      omega)
     have hbdz := (hbd2.below hbe).mapL hk3.lim; have hb9 := hbw2.trans (hbe.mono hbw2.size); have hbz : Below w.heap.size w (((wo.setCell ⟨gR, 0, none⟩ (.slice X1 xk1 xc1)).setCell ⟨gR, 1, none⟩ (.slice X2 xk2 xc2)).setCell ⟨gR, 2, none⟩ (.slice S2 n c2)) := ((hb9.setCell (p := ⟨gR, 0, none⟩) hge _).setCell (p := ⟨gR, 1, none⟩) hge _).setCell (p := ⟨gR, 2, none⟩) hge _
     have HXR : Hid (X = restRows rows kB k) := by
      show _ = _
      rw [HX.out]; unfold restRows; rw [show rows.length - kB = n by have := HR.out; have := HKS.out; omega]
     clear hrs hBP hBRo hf hk3 hb9 hbe; go_wp2_with fail; exact bodyPost_ret (v := .agg #[.slice X1 xk1 xc1, .slice X2 xk2 xc2, .slice S2 n c2]) (by simp [results, Try.results23, go_sem, z0, z1, z2]) rfl ⟨_, rfl, ⟨_, _, S2, n, c2, rfl, hbdz, by rw [HXR.out] at hrsz; exact hrsz⟩, hbz⟩
end Go.Proofs.Ytnjjdiilkhdbeaa
namespace Go.Proofs.Ytnjjdiilkhdbeaa
open Go Go.RowKit
/-- the last capital, from a capital -/
noncomputable def lastC (b : LP) (rows : List (List LP)) : Nat → Nat → LP → List Bool → LP
 | _, _, c, [] => c
 | n, k, c, x :: xs => lastC b rows (n + 1) (if x then k + 1 else k) (mulV c (factorV b rows n k x)) xs
theorem capsFrom_last {b : LP} {rows : List (List LP)} : ∀ (bad : List Bool) (n k : Nat) (c : LP), (c :: capsFrom b rows n k c bad)[bad.length]? = some (lastC b rows n k c bad)
 | [], _, _, _ => rfl
 | x :: xs, n, k, c => by
  unfold capsFrom lastC; rw [List.length_cons, List.getElem?_cons_succ]; exact capsFrom_last xs _ _ _
theorem capsV_last {b : LP} {rows : List (List LP)} (bad : List Bool) : (capsV b rows bad)[bad.length]? = some (lastC b rows 0 0 oneP bad) := capsFrom_last bad 0 0 oneP
theorem cntB_cons (x : Bool) (xs : List Bool) : cntB (x :: xs) = (if x then 1 else 0) + cntB xs := by
 unfold cntB
 cases x <;> simp [Nat.add_comm]
theorem cntB_le (xs : List Bool) : cntB xs ≤ xs.length := List.count_le_length
theorem lastC_append {b : LP} {rows : List (List LP)} : ∀ (xs ys : List Bool) (n k : Nat) (c : LP), lastC b rows n k c (xs ++ ys) = lastC b rows (n + xs.length) (k + cntB xs) (lastC b rows n k c xs) ys
 | [], _, _, _, _ => rfl
 | x :: xs, ys, n, k, c => by
  rw [List.cons_append]
  show lastC b rows (n + 1) (if x then k + 1 else k) (mulV c (factorV b rows n k x)) (xs ++ ys) = _
  rw [lastC_append xs ys, List.length_cons, cntB_cons]; rw [show n + 1 + xs.length = n + (xs.length + 1) by omega, show (if x then k + 1 else k) + cntB xs = k + ((if x then 1 else 0) + cntB xs) by split <;> omega]; rfl
theorem rest_get {rows : List (List LP)} {n k m : Nat} (hm : n + m < rows.length) : (restRows rows n k)[m]? = some (restRow rows n k m) := by
 unfold restRows; rw [List.getElem?_map, List.getElem?_range (by omega)]; rfl
theorem rest_none {rows : List (List LP)} {n k m : Nat} (hm : ¬ n + m < rows.length) : (restRows rows n k)[m]? = none := by
 rw [List.getElem?_eq_none_iff]; unfold restRows; simp; omega
theorem stakeV_some {rows : List (List LP)} {n k : Nat} {r : List LP} {s : LP} (h1 : rows[n]? = some r) (h2 : r[k]? = some s) : stakeV rows n k = s := by
 unfold stakeV; simp only [h1, h2]
theorem rest_fac {b : LP} {rows : List (List LP)} {pb qb : Nat} (h : PlanN b rows pb qb) {n k m j : Nat} (hk : k ≤ n) (hj : j ≤ m) (x : Bool) : factorV b (restRows rows n k) m j x = factorV b rows (n + m) (k + j) x := by
 by_cases hm : n + m < rows.length
 ·have h1 := rest_get (k := k) hm; have h2 := List.getElem?_eq_getElem hm; have h3 := h.row _ _ h2; have h4 : k + j < rows[n + m].length := by omega
  have h5 := List.getElem?_eq_getElem h4
  have h6 : (restRow rows n k m)[j]? = some (rows[n + m][k + j]) := by
   unfold restRow; rw [List.getElem?_map, List.getElem?_range (by omega)]
   show some (stakeV rows (n + m) (k + j)) = _
   rw [stakeV_some h2 h5]
  unfold factorV; simp only [h1, h2, h5, h6]
 ·have h1 := rest_none (k := k) hm; have h2 : rows[n + m]? = none := by rw [List.getElem?_eq_none_iff]; omega
  unfold factorV; simp only [h1, h2]
theorem rest_lastC {b : LP} {rows : List (List LP)} {pb qb : Nat} (h : PlanN b rows pb qb) {n k : Nat} (hk : k ≤ n) : ∀ (ys : List Bool) (m j : Nat) (c : LP), j ≤ m → lastC b (restRows rows n k) m j c ys = lastC b rows (n + m) (k + j) c ys
 | [], _, _, _, _ => rfl
 | y :: ys, m, j, c, hj => by
  show lastC b (restRows rows n k) (m + 1) (if y then j + 1 else j) (mulV c (factorV b (restRows rows n k) m j y)) ys = lastC b rows (n + m + 1) (if y then k + j + 1 else k + j) (mulV c (factorV b rows (n + m) (k + j) y)) ys
  rw [rest_lastC h hk ys _ _ _ (by split <;> omega), rest_fac h hk hj]
  congr 1
  split <;> omega
theorem rest_planE {b : LP} {rows : List (List LP)} {n k : Nat} (h : planE b rows = 0) (hk : k ≤ n) : planE b (restRows rows n k) = 0 := by
 obtain ⟨h1, h2, h3⟩ := planE_zero h; refine planE_ok (by unfold restRows; simp; omega) h2 ?_; intro i r e; by_cases hm : n + i < rows.length
 ·rw [rest_get hm] at e; injection e with e; subst e; refine ⟨by unfold restRow; simp, fun s hs => ?_⟩; unfold restRow at hs; obtain ⟨j, hj, rfl⟩ := List.mem_map.1 hs; rw [List.mem_range] at hj; have e2 := List.getElem?_eq_getElem hm; have e3 := plan_row h e2; have h4 : k + j < rows[n + i].length := by omega
  rw [stakeV_some e2 (List.getElem?_eq_getElem h4)]; exact (badFrom_row h3 e2).2 _ (List.getElem_mem h4)
 ·rw [rest_none hm] at e
  cases e
theorem lastC_frac {b : LP} {rows : List (List LP)} {pb qb : Nat} (h : PlanN b rows pb qb) : ∀ (bad : List Bool) (n k : Nat), ∃ F G, F ≤ 2 ^ (24 * bad.length) ∧ G ≤ 2 ^ (16 * bad.length) ∧
  ∀ (c : LP) (N D m : Nat), Frac c N D → N ≤ 2 ^ (24 * m) → D ≤ 2 ^ (16 * m) → m + bad.length ≤ 80 → Frac (lastC b rows n k c bad) (N * F) (D * G)
 | [], n, k => ⟨1, 1, by simp, by simp, fun c N D m hc _ _ _ => by rw [Nat.mul_one, Nat.mul_one]; exact hc⟩
 | x :: xs, n, k => by
  obtain ⟨f, d, hf, h1, h2⟩ := h.fac_small n k x; obtain ⟨F, G, k1, k2, k3⟩ := lastC_frac h xs (n + 1) (if x then k + 1 else k); refine ⟨f * F, d * G, ?_, ?_, ?_⟩
  ·rw [List.length_cons, Nat.mul_add, Nat.pow_add, Nat.mul_comm f F]; exact Nat.mul_le_mul k1 h1
  ·rw [List.length_cons, Nat.mul_add, Nat.pow_add, Nat.mul_comm d G]; exact Nat.mul_le_mul k2 h2
  ·intro c N D m hc hN hD hm; rw [List.length_cons] at hm; have m1 : N * f ≤ 2 ^ (24 * (m + 1)) := by rw [Nat.mul_add, Nat.pow_add]; exact Nat.mul_le_mul hN h1
   have m2 : D * d ≤ 2 ^ (16 * (m + 1)) := by rw [Nat.mul_add, Nat.pow_add]; exact Nat.mul_le_mul hD h2
   have hm2 := (hc.mul hf (lim_pow m1 (by omega)) (lim_pow m2 (by omega))).1; have := k3 _ _ _ (m + 1) hm2 m1 m2 (by omega); rw [← Nat.mul_assoc, ← Nat.mul_assoc]; exact this
/-- cut anywhere, the capital is that of the first part times that of the rest -/
theorem cut_law {b : LP} {rows : List (List LP)} {pb qb : Nat} (h : PlanN b rows pb qb) {bad : List Bool} (hl : bad.length ≤ 40) {k : Nat} (hk : k ≤ bad.length) :
  (mulF (lastC b rows 0 0 oneP (bad.take k)) (lastC b (restRows rows k (cntB (bad.take k))) 0 0 oneP (bad.drop k))).1 = 0 ∧ mulV (lastC b rows 0 0 oneP (bad.take k)) (lastC b (restRows rows k (cntB (bad.take k))) 0 0 oneP (bad.drop k)) = lastC b rows 0 0 oneP bad := by
 have hl1 : (bad.take k).length = k := by rw [List.length_take]; omega
 have hl2 : (bad.drop k).length = bad.length - k := List.length_drop; have hc : cntB (bad.take k) ≤ k := by have := cntB_le (bad.take k); omega
 have e := lastC_append (b := b) (rows := rows) (bad.take k) (bad.drop k) 0 0 oneP; rw [List.take_append_drop, hl1, Nat.zero_add, Nat.zero_add] at e; rw [rest_lastC h hc _ _ _ _ (Nat.le_refl 0), e, Nat.add_zero, Nat.add_zero]; obtain ⟨F1, G1, a1, a2, a3⟩ := lastC_frac h (bad.take k) 0 0; obtain ⟨F2, G2, b1, b2, b3⟩ := lastC_frac h (bad.drop k) k (cntB (bad.take k)); have ho := Frac.one (d := 1) (by omega) (b64 (by omega)); have c1 := a3 oneP 1 1 0 ho (by simp) (by simp) (by omega); have c2 := b3 oneP 1 1 0 ho (by simp) (by simp) (by omega); rw [hl1] at a1 a2; rw [hl2] at b1 b2; rw [Nat.one_mul, Nat.one_mul] at c1 c2; have c3 := b3 _ _ _ k c1 a1 a2 (by omega); have m1 : F1 * F2 ≤ 2 ^ (24 * bad.length) := by rw [show bad.length = k + (bad.length - k) by omega, Nat.mul_add, Nat.pow_add]; exact Nat.mul_le_mul a1 b1
 have m2 : G1 * G2 ≤ 2 ^ (16 * bad.length) := by rw [show bad.length = k + (bad.length - k) by omega, Nat.mul_add, Nat.pow_add]; exact Nat.mul_le_mul a2 b2
 obtain ⟨d1, d2⟩ := c1.mul c2 (lim_pow m1 (by omega)) (lim_pow m2 (by omega)); exact ⟨d2, d1.uniq c3 rfl⟩
end Go.Proofs.Ytnjjdiilkhdbeaa
