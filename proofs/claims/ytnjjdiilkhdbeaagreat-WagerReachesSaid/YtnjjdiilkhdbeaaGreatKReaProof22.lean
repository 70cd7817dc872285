import Derived.Test.YtnjjdiilkhdbeaaGreatKReaProof21
import Derived.Laws.OwnMore
import Derived.Test.YtnjjdiilkhdbeaaGreatS0
set_option linter.unusedVariables false
set_option linter.unusedSimpArgs false
namespace Go.Proofs.YtnjjdiilkhdbeaaGreat
open Go Go.RowKit
theorem OwnAll.stored {Pr : Value → Prop} {w : World} {base g n c size : Nat} {e : TypeId} {xs : List Value} (ho : w.ownsRow base e size (.slice (some ⟨g, 0, none⟩) n c) n xs) (h : OwnAll Pr w (.slice (some ⟨g, 0, none⟩) n c)) (i : Nat) (u : Value) (hu : Pr u) : OwnAll Pr (w.setCell ⟨g, i, none⟩ u) (.slice (some ⟨g, 0, none⟩) n c) := by
 rcases ho.2 with ⟨h', _⟩ | ⟨g', cap', cur, h', hb, hg, _⟩
 ·simp at h'
 ·simp only [Value.slice.injEq, Option.some.injEq, Addr.mk.injEq, and_true, true_and] at h'; obtain ⟨rfl, rfl⟩ := h'; intro g' hg' j x hx; simp only [Value.ownBlock, Option.some.injEq] at hg'; subst hg'; rw [cell_of_row _ _ _ _ _ _ (heap_setCell_same w g i cur e u hg), Array.getElem?_setIfInBounds] at hx
  split at hx
  ·split at hx
   ·injection hx with e; exact e ▸ hu
   ·cases hx
  ·exact h g rfl j x (by rw [cell_of_row w g j cur e (0, 0) hg]; exact hx)
theorem flat_set : ∀ (ps : List (Value × Value)) (i : Nat) (p : Value × Value), (ps.set i p).flatMap prC = ((ps.flatMap prC).set (i * 2) p.1).set (i * 2 + 1) p.2
 | [], _, _ => rfl
 | x :: ps, 0, p => rfl
 | x :: ps, i + 1, p => by
  have h := flat_set ps i p; rw [sC, List.flatMap_cons, List.flatMap_cons, h, show (i + 1) * 2 = i * 2 + 1 + 1 by omega]; rfl
/-- a ratio stored in a row of the call's own -/
theorem RatOwn.upd {w : World} {base g n c : Nat} {X : List LP} (h : RatOwn w base (.slice (some ⟨g, 0, none⟩) n c) X) {i : Nat} {A A' : Option Addr} {k d k' d' : Nat} {x : LP} (hx : RtP w (.agg #[.slice A k d, .slice A' k' d']) x) :
  RatOwn ((w.setCell ⟨g, i * 2, none⟩ (.slice A k d)).setCell ⟨g, i * 2 + 1, none⟩ (.slice A' k' d')) base (.slice (some ⟨g, 0, none⟩) n c) (X.set i x) ∧ (∀ A0 c0 l, Lim w A0 c0 l → Lim ((w.setCell ⟨g, i * 2, none⟩ (.slice A k d)).setCell ⟨g, i * 2 + 1, none⟩ (.slice A' k' d')) A0 c0 l) ∧ w.grownBy ((w.setCell ⟨g, i * 2, none⟩ (.slice A k d)).setCell ⟨g, i * 2 + 1, none⟩ (.slice A' k' d')) (some g) := by
 have hXn : n = X.length := by
  obtain ⟨_, _, e⟩ := h.shp; injection e
 obtain ⟨ps, h1, h2, h3, h4⟩ := h; rw [← hXn] at h1; obtain ⟨j1, j2⟩ := h1.stored (i * 2) (.slice A k d); obtain ⟨j3, j4⟩ := j1.stored (i * 2 + 1) (.slice A' k' d'); have o1 := h3.stored h1 (i * 2) (.slice A k d) (fun n e => by cases e); have o2 := o1.stored j1 (i * 2 + 1) (.slice A' k' d') (fun n e => by cases e); have hl : ∀ A0 c0 l, Lim w A0 c0 l → Lim ((w.setCell ⟨g, i * 2, none⟩ (.slice A k d)).setCell ⟨g, i * 2 + 1, none⟩ (.slice A' k' d')) A0 c0 l := fun A0 c0 l hh => (hh.grownBy (a := .slice (some ⟨g, 0, none⟩) n c) j2 h3).grownBy (a := .slice (some ⟨g, 0, none⟩) n c) j4 o1
 refine ⟨⟨ps.set i (.slice A k d, .slice A' k' d'), ?_, by simp [h2], o2, ?_⟩, hl, ⟨j4.os.trans j2.os, j4.tape.trans j2.tape, j4.output.trans j2.output, Nat.le_trans j2.size j4.size, fun b hb hne => (j4.block b (Nat.lt_of_lt_of_le hb j2.size) hne).trans (j2.block b hb hne)⟩⟩
 ·rw [flat_set, List.length_set, ← hXn]; exact j3
 ·intro j p y e1 e2; by_cases hj : j = i
  ·subst hj
   have hlt : j < ps.length := by
    have := (List.getElem?_eq_some_iff.1 e1).1
    simpa using this
   rw [List.getElem?_set_self hlt] at e1; rw [List.getElem?_set_self (by omega)] at e2; injection e1 with e1; injection e2 with e2; subst e1 e2; exact hx.mapL hl
  ·rw [List.getElem?_set_ne (fun e => hj e.symm)] at e1 e2; exact (h4 j p y e1 e2).mapL hl
/-- what a store into an own row leaves alone -/
theorem below_own {w0 w w' : World} {base g : Nat} (hb : Below base w0 w) (k : w.grownBy w' (some g)) (hg : base ≤ g) (hs : base ≤ w.heap.size) : Below base w0 w' := hb.grown k hs (fun b e => by injection e with e; omega)
/-- a made row of zero ratios -/
theorem RatOwn.made (w : World) (n : Nat) (hn : n ≤ 1048576) : RatOwn (w.alloc (.cells (List.replicate (n * 2) (Value.slice none 0 0)).toArray 25)) w.heap.size (.slice (some ⟨w.heap.size, 0, none⟩) n n) (List.replicate n nilP) := by
 have e : (List.replicate n ((Value.slice none 0 0, Value.slice none 0 0) : Value × Value)).flatMap prC = List.replicate (n * 2) (Value.slice none 0 0) := by
  induction n with
  | zero => rfl
  | succ n ih =>
   rw [List.replicate_succ, List.flatMap_cons, ih (by omega), show (n + 1) * 2 = n * 2 + 1 + 1 by omega, List.replicate_succ, List.replicate_succ]; rfl
 refine ⟨List.replicate n (.slice none 0 0, .slice none 0 0), ?_, by simp, OwnAll.blk (Blk.new w _ _) fun x hx => ?_, fun i p x e1 e2 => ?_⟩
 ·rw [e, List.length_replicate]; have := World.ownsRow_lit (base := w.heap.size) (e := 25) (size := 2) w (List.replicate (n * 2) (Value.slice none 0 0)).toArray n (Nat.le_refl _) (by unfold maxLen; omega) (by simp)
  simpa using this
 ·simp only [List.mem_replicate] at hx; rw [hx.2]; intro n e; cases e
 ·obtain ⟨_, e1⟩ := List.getElem?_eq_some_iff.1 e1; obtain ⟨_, e2⟩ := List.getElem?_eq_some_iff.1 e2; rw [List.getElem_replicate] at e1 e2; subst e1 e2; exact nil_rtP _
end Go.Proofs.YtnjjdiilkhdbeaaGreat
namespace Go.Proofs.YtnjjdiilkhdbeaaGreat
open Go Go.RowKit
/-- what lasts while the blocks from a base up, and all limbs, are left alone -/
structure KeepG (base : Nat) (w w' : World) : Prop where
 heap : ∀ b, base ≤ b → b < w.heap.size → w'.heap[b]? = w.heap[b]?
 lim : ∀ A c l, Lim w A c l → Lim w' A c l
 size : w.heap.size ≤ w'.heap.size
theorem KeepG.trans {base : Nat} {w w1 w2 : World} (h : KeepG base w w1) (k : KeepG base w1 w2) : KeepG base w w2 := ⟨fun b h1 h2 => (k.heap b h1 (Nat.lt_of_lt_of_le h2 h.size)).trans (h.heap b h1 h2), fun A c l hl => k.lim _ _ _ (h.lim _ _ _ hl), Nat.le_trans h.size k.size⟩
theorem KeepG.set {base g : Nat} {w : World} {T : TypeId} {arr : Array Value} (hb : Blk w g T arr) (hn : NoU arr) (hg : g < base) (i : Nat) (u : Value) : KeepG base w (w.setCell ⟨g, i, none⟩ u) :=
 ⟨fun b h1 _ => Below.heap_setCell w ⟨g, i, none⟩ u b (by show b ≠ g; omega), fun _ _ _ hl => hl.setB hb hn u, by simp⟩
theorem noU3 (x1 x2 x3 : Value) (h1 : NoL x1) (h2 : NoL x2) (h3 : NoL x3) : NoU #[x1, x2, x3] := by
 intro i n h
 rcases i with _ | _ | _ | i
 ·simp at h; exact h1 n h
 ·simp at h; exact h2 n h
 ·simp at h; exact h3 n h
 ·simp at h
theorem noU_sl (A : Option Addr) (k c : Nat) (A' : Option Addr) (k' c' : Nat) (S : Option Addr) (kS cS : Nat) : NoU #[.slice A k c, .slice A' k' c', .slice S kS cS] :=
 noU3 _ _ _ (fun n e => by cases e) (fun n e => by cases e) (fun n e => by cases e)
/-- three cells stored into a plan's block -/
theorem KeepG.set3 {base g : Nat} {w : World} {T : TypeId} {A : Option Addr} {k c : Nat} {A' : Option Addr} {k' c' : Nat} {S : Option Addr} {kS cS : Nat} (hb : Blk w g T #[.slice A k c, .slice A' k' c', .slice S kS cS]) (hg : g < base) (B : Option Addr) (m d : Nat) (B' : Option Addr) (m' d' : Nat) (R : Option Addr) (kR cR : Nat) :
  KeepG base w (((w.setCell ⟨g, 0, none⟩ (.slice B m d)).setCell ⟨g, 1, none⟩ (.slice B' m' d')).setCell ⟨g, 2, none⟩ (.slice R kR cR)) := by
 have h1 := hb.set_ 0 (.slice B m d); have h2 := h1.set_ 1 (.slice B' m' d'); exact ((KeepG.set hb (noU_sl _ _ _ _ _ _ _ _ _) hg _ _).trans (KeepG.set h1 (noU_sl B m d A' k' c' S kS cS) hg _ _)).trans (KeepG.set h2 (noU_sl B m d B' m' d' S kS cS) hg _ _)
theorem own_keepG {w w' : World} {base : Nat} {e : TypeId} {size : Nat} {v : Value} {n : Nat} {xs : List Value} (h : w.ownsRow base e size v n xs) (k : ∀ b, base ≤ b → b < w.heap.size → w'.heap[b]? = w.heap[b]?) : w'.ownsRow base e size v n xs :=
 ownsRow_keep h fun g hg => k g (h.lt g hg).1 (h.lt g hg).2
theorem OwnAll.keepG {Pr : Value → Prop} {w w' : World} {base : Nat} {v : Value} (h : OwnAll Pr w v) (hl : ∀ g, v.ownBlock = some g → base ≤ g ∧ g < w.heap.size) (k : ∀ b, base ≤ b → b < w.heap.size → w'.heap[b]? = w.heap[b]?) : OwnAll Pr w' v := by
 intro g hg i x hx; rw [World.cell?_of_block (k g (hl g hg).1 (hl g hg).2)] at hx; exact h g hg i x hx
theorem RatOwn.keepG {w w' : World} {base : Nat} {v : Value} {X : List LP} (h : RatOwn w base v X) (k : KeepG base w w') : RatOwn w' base v X := by
 obtain ⟨ps, h1, h2, h3, h4⟩ := h; exact ⟨ps, own_keepG h1 k.heap, h2, h3.keepG h1.lt k.heap, fun i p x e1 e2 => (h4 i p x e1 e2).mapL k.lim⟩
/-- an append to, or a store into, a row leaves another one alone -/
theorem RatOwn.kept {w w' : World} {base : Nat} {u a : Value} {X : List LP} (h : RatOwn w base u X) (k : w.grownBy w' a.ownBlock) (hO : OwnAll NoL w a) (hne : ∀ g, u.ownBlock = some g → a.ownBlock ≠ some g) : RatOwn w' base u X := by
 obtain ⟨ps, h1, h2, h3, h4⟩ := h; have hk : ∀ g, u.ownBlock = some g → w'.heap[g]? = w.heap[g]? := fun g hg => k.block g (h1.lt g hg).2 (fun e => hne g hg e.symm)
 refine ⟨ps, ownsRow_keep h1 hk, h2, ?_, fun i p x e1 e2 => (h4 i p x e1 e2).grownBy k hO⟩; intro g hg i x hx; rw [World.cell?_of_block (hk g hg)] at hx; exact h3 g hg i x hx
theorem own_types {w : World} {b1 b2 s1 s2 n1 n2 : Nat} {e1 e2 : TypeId} {u v : Value} {xs ys : List Value} (h1 : w.ownsRow b1 e1 s1 u n1 xs) (h2 : w.ownsRow b2 e2 s2 v n2 ys) (hT : e1 ≠ e2) : ∀ g, u.ownBlock = some g → v.ownBlock ≠ some g := by
 intro g hg hv
 rcases h1.2 with ⟨rfl, _⟩ | ⟨g1, c1, cur1, rfl, _, k1, _⟩
 ·cases hg
 ·rcases h2.2 with ⟨rfl, _⟩ | ⟨g2, c2, cur2, rfl, _, k2, _⟩
  ·cases hv
  ·simp only [Value.ownBlock, Option.some.injEq] at hg hv; subst hg hv; rw [k1] at k2; simp only [Option.some.injEq, Obj.cells.injEq] at k2; exact hT k2.2.1
def sl3V (s : SL3) : Value := .slice s.A s.k s.c
/-- a row of rows of ratios, all of the call's own -/
def RatsOwn (w : World) (base : Nat) (v : Value) (rows : List (List LP)) : Prop := ∃ ss : List SL3, w.ownsRow base 34 1 v rows.length (ss.flatMap sl3C) ∧ ss.length = rows.length ∧ OwnAll NoL w v ∧
 (∀ (i : Nat) s r, ss[i]? = some s → rows[i]? = some r → RatOwn w base (sl3V s) r) ∧ ∀ (i j : Nat) s t, i ≠ j → ss[i]? = some s → ss[j]? = some t → ∀ b, (sl3V s).ownBlock = some b → (sl3V t).ownBlock ≠ some b
theorem RatsOwn.nil (w : World) (base : Nat) : RatsOwn w base (.slice none 0 0) [] :=
 ⟨[], World.ownsRow_nil _ _ _ _, rfl, OwnAll.nil, fun i s r h => by simp at h, fun i j s t _ h => by simp at h⟩
theorem RatsOwn.shp {w : World} {base : Nat} {v : Value} {rows : List (List LP)} (h : RatsOwn w base v rows) : ∃ A c, v = .slice A rows.length c := by
 obtain ⟨ss, h1, _⟩ := h; exact own_shp h1
theorem RatsOwn.keepG {w w' : World} {base : Nat} {v : Value} {rows : List (List LP)} (h : RatsOwn w base v rows) (k : KeepG base w w') : RatsOwn w' base v rows := by
 obtain ⟨ss, h1, h2, h3, h4, h5⟩ := h; exact ⟨ss, own_keepG h1 k.heap, h2, h3.keepG h1.lt k.heap, fun i s r e1 e2 => (h4 i s r e1 e2).keepG k, h5⟩
theorem KeepG.below {w w' : World} {base : Nat} (hb : Below w.heap.size w w') : KeepG base w w' := ⟨fun b _ hl => hb.block b hl, fun _ _ _ h => h.below hb, hb.size⟩
theorem RatsOwn.below {w w' : World} {base : Nat} {v : Value} {rows : List (List LP)} (h : RatsOwn w base v rows) (hb : Below w.heap.size w w') : RatsOwn w' base v rows := h.keepG (KeepG.below hb)
theorem RatsOwn.ge {w : World} {base : Nat} {v : Value} {rows : List (List LP)} (h : RatsOwn w base v rows) : ∀ k, v.ownBlock = some k → base ≤ k := by
 obtain ⟨ss, h1, _⟩ := h; exact own_block_ge h1
theorem RatsOwn.rows {w : World} {base : Nat} {A : Option Addr} {k c : Nat} {rows : List (List LP)} (h : RatsOwn w base (.slice A k c) rows) (hk : rows.length ≤ 1048576) (hr : ∀ r ∈ rows, r.length ≤ 1048576) : RatRows w A k rows := by
 have hkl : k = rows.length := by
  obtain ⟨_, _, e⟩ := h.shp; injection e
 obtain ⟨ss, h1, h2, h3, h4, h5⟩ := h; rw [← hkl] at h1; refine ⟨ss, own_any sl3C_len (by omega) (by omega) h1, h2, fun i s r e1 e2 => ?_⟩; exact (h4 i s r e1 e2).row (by have := hr r (List.mem_of_getElem? e2); omega)
theorem sl_noL (A : Option Addr) (k c : Nat) : NoL (.slice A k c) := fun n e => by cases e
theorem info_sl : (Tryz.prog.info? 34).map (fun i => (i.zero, i.size, i.bytes)) = some (some (.slice none 0 0), 1, 24) := by kernel_rfl
/-- one row more -/
theorem run_push2 (w0 w : World) (ty : TypeId) (base : Nat) (v : Value) (rows : List (List LP)) (h : RatsOwn w0 base v rows) (hb : Below w0.heap.size w0 w) (A : Option Addr) (c : Nat) (B : Option Addr) (m d : Nat) (r : List LP) (hx : RatOwn w w0.heap.size (.slice B m d) r) (hr : Rd w A [.slice B m d]) (hX : rows.length ≤ 1048576) (hbs : base ≤ w0.heap.size) :
  ∃ v' w', (Builtin.append_ #[26, 26] ty #[v, .slice A 1 c]).run Tryz.prog w = .ok v' w' ∧ RatsOwn w' base v' (rows ++ [r]) ∧ w.grownBy w' v.ownBlock ∧ (∀ u y, RtP w u y → RtP w' u y) := by
 obtain ⟨iR, hi, hz, hs, hby⟩ := info_parts info_sl; obtain ⟨ss, h1, h2, h3, h4, h5⟩ := h; have g1 := own_below h1 hb; have g3 := h3.below hb (fun g hg => (h1.lt g hg).2); obtain ⟨v', w', hrun, k1, k2, k3, k4⟩ := run_append_all (P := Tryz.prog) w NoL base 26 ty 34 iR (.slice none 0 0) 1 24 Tryz.underlying26 hi hz hs hby rfl (by omega) v rows.length _ g1 A 1 c [.slice B m d] rfl hr (by simp [Value.oneCell']) (by simp only [maxLen]; omega) (by omega) (Nat.le_trans hbs hb.size) (fun x hx => by have e : x = .slice none 0 0 := (by simpa [Value.cells] using hx); rw [e]; exact sl_noL _ _ _) (fun x hx => by rw [List.mem_singleton] at hx; rw [hx]; exact sl_noL _ _ _) g3
 have hkeep : ∀ (u : Value) (X : List LP) (b0 : Nat), RatOwn w b0 u X → RatOwn w' b0 u X := fun u X b0 hh => hh.kept k2 g3 (fun g hg => by
  obtain ⟨ps, q1, _⟩ := hh
  exact own_types q1 g1 (by decide) g hg)
 have hlt : ∀ (i : Nat) s, ss[i]? = some s → ∀ b, (sl3V s).ownBlock = some b → b < w0.heap.size := by
  intro i s e b hb2; have hil := (List.getElem?_eq_some_iff.1 e).1; have := h4 i s _ e (List.getElem?_eq_getElem (by omega)); exact this.lt b hb2
 refine ⟨v', w', hrun, ⟨ss ++ [⟨B, m, d⟩], by rw [List.flatMap_append, List.length_append]; exact k1, by simp [h2], k4, ?_, ?_⟩, k2, fun u y hh => hh.grownBy k2 g3⟩
 ·intro i s y e1 e2; by_cases hi : i < ss.length
  ·rw [List.getElem?_append_left hi] at e1; rw [List.getElem?_append_left (by omega)] at e2; exact hkeep _ _ _ ((h4 i s y e1 e2).below hb)
  ·have hi' : i = ss.length := by
    have := (List.getElem?_eq_some_iff.1 e1).1; simp at this; omega
   subst hi'; rw [List.getElem?_append_right (by omega), Nat.sub_self] at e1; rw [h2, List.getElem?_append_right (by omega), Nat.sub_self] at e2; simp only [List.getElem?_cons_zero, Option.some.injEq] at e1 e2; subst e1 e2; exact (hkeep _ _ _ hx).mono hbs
 ·intro i j s t hne e1 e2 b hb1 hb2
  have side : ∀ (i : Nat) s, (ss ++ [(⟨B, m, d⟩ : SL3)])[i]? = some s → (i < ss.length ∧ ss[i]? = some s) ∨ (i = ss.length ∧ s = ⟨B, m, d⟩) := by
   intro i s e; by_cases hi : i < ss.length
   ·rw [List.getElem?_append_left hi] at e; exact .inl ⟨hi, e⟩
   ·have hi' : i = ss.length := by
     have := (List.getElem?_eq_some_iff.1 e).1; simp at this; omega
    subst hi'; rw [List.getElem?_append_right (by omega), Nat.sub_self] at e; simp only [List.getElem?_cons_zero, Option.some.injEq] at e; exact .inr ⟨rfl, e.symm⟩
  rcases side i s e1 with ⟨i1, s1⟩ | ⟨i1, rfl⟩ <;> rcases side j t e2 with ⟨j1, t1⟩ | ⟨j1, rfl⟩
  ·exact h5 i j s t hne s1 t1 b hb1 hb2
  ·have a1 := hlt i s s1 b hb1; have a2 := hx.ge b hb2; omega
  ·have a1 := hlt j t t1 b hb2; have a2 := hx.ge b hb1; omega
  ·omega
theorem wpList_push2 {ops : Array Oper} {rest : List Oper} {o : Oper} {a : Act} {w : World} {Q : Exit → Act → World → Prop} (hgd : o.guard = none) (s x : Operand) (ho : o.op = .call { callee := .builtin .append, args := #[s, x], argTypes := #[26, 26] })
  (w0 : World) (base : Nat) (v : Value) (rows : List (List LP)) (hs : a.eval s = v) (h : RatsOwn w0 base v rows) (hb : Below w0.heap.size w0 w) (A : Option Addr) (c : Nat) (B : Option Addr) (m d : Nat) (r : List LP) (hx : a.eval x = .slice A 1 c) (hy : RatOwn w w0.heap.size (.slice B m d) r) (hr : Rd w A [.slice B m d]) (hX : rows.length ≤ 1048576) (hbs : base ≤ w0.heap.size)
  (hK : ∀ v' w', RatsOwn w' base v' (rows ++ [r]) → w.grownBy w' v.ownBlock → (∀ u z, RtP w u z → RtP w' u z) → wpList Tryz.prog ops Q rest (a.put o.dst v') w') : wpList Tryz.prog ops Q (o :: rest) a w := by
 refine wpList_plain hgd fun K hK2 => ?_
 obtain ⟨v', w', hrun, h2, h3, h4⟩ := run_push2 w0 w o.type base v rows h hb A c B m d r hy hr hX hbs; unfold Oper.wp execOp; simp only [ho, resolve, invoke, builtin, Sem.run_bind, Sem.run_pure, Result.andThen_ok, List.map_toArray, List.map_cons, List.map_nil, hs, hx, hrun]; exact hK2 _ _ (hK v' w' h2 h3 h4)
end Go.Proofs.YtnjjdiilkhdbeaaGreat
namespace Go.Proofs.YtnjjdiilkhdbeaaGreat
open Go Go.RowKit
/-- n by d in lowest form -/
def redP (n d : Nat) : LP := ratP (n / Nat.gcd n d) (d / Nat.gcd n d)
theorem red_num {n d n' d' : Nat} (hd : 0 < d) (hd' : 0 < d') (h : n * d' = n' * d) : n / Nat.gcd n d = n' / Nat.gcd n' d' := by
 have e1 : n * d' / Nat.gcd (n * d') (d * d') = n / Nat.gcd n d := by rw [Nat.gcd_mul_right, Nat.mul_div_mul_right _ _ hd']
 have e2 : n' * d / Nat.gcd (n' * d) (d' * d) = n' / Nat.gcd n' d' := by rw [Nat.gcd_mul_right, Nat.mul_div_mul_right _ _ hd]
 rw [← e1, ← e2, h, Nat.mul_comm d d']
theorem red_den {n d n' d' : Nat} (hd : 0 < d) (hd' : 0 < d') (h : n * d' = n' * d) : d / Nat.gcd n d = d' / Nat.gcd n' d' := by
 have e1 : d * d' / Nat.gcd (n * d') (d * d') = d / Nat.gcd n d := by rw [Nat.gcd_mul_right, Nat.mul_div_mul_right _ _ hd']
 have e2 : d' * d / Nat.gcd (n' * d) (d' * d) = d' / Nat.gcd n' d' := by rw [Nat.gcd_mul_right, Nat.mul_div_mul_right _ _ hd]
 rw [← e1, ← e2, h, Nat.mul_comm d d']
theorem redP_eq {n d n' d' : Nat} (hd : 0 < d) (hd' : 0 < d') (h : n * d' = n' * d) : redP n d = redP n' d' := by
 unfold redP; rw [red_num hd hd' h, red_den hd hd' h]
theorem resP_red {n d n' d' : Nat} (hd : 0 < d) (hd' : 0 < d') (h : n * d' = n' * d) (hn : n' < Nm.B ^ 64) (hd2 : d' < Nm.B ^ 64) : resP n d = (0, redP n' d') := by
 have h1 : resP n d = resP n' d' := by
  unfold resP; rw [red_num hd hd' h, red_den hd hd' h]
 rw [h1, resP_small hn hd2]; rfl
/-- a ratio n by d -/
structure Frac (x : LP) (n d : Nat) : Prop where
 pos : 0 < d
 hn : n < Nm.B ^ 64
 hd : d < Nm.B ^ 64
 eq : x = redP n d
theorem Frac.parts {x : LP} {n d : Nat} (h : Frac x n d) : ∃ a b g, x = ratP a b ∧ Nm.Good a b ∧ n = a * g ∧ d = b * g ∧ 0 < g :=
 ⟨_, _, Nat.gcd n d, h.eq, red_good h.pos h.hn h.hd, (Nat.div_mul_cancel (Nat.gcd_dvd_left _ _)).symm, (Nat.div_mul_cancel (Nat.gcd_dvd_right _ _)).symm, Nat.gcd_pos_of_pos_right _ h.pos⟩
theorem Frac.of_good {p q : Nat} (g : Nm.Good p q) : Frac (ratP p q) p q := by
 obtain ⟨h1, h2⟩ := good_lt g; refine ⟨g.1, h1, h2, ?_⟩; have n1 := numL_rat g; have n2 := numL_rat (red_good g.1 h1 h2); have e := redP_eq (n := p) (d := q) (n' := p) (d' := q) g.1 g.1 rfl; unfold redP; have hc : Nat.gcd p q = 1 := g.gcd; rw [hc, Nat.div_one, Nat.div_one]
theorem Frac.scale {x : LP} {n d m e : Nat} (h : Frac x n d) (he : 0 < e) (hm : m < Nm.B ^ 64) (hE : e < Nm.B ^ 64) (hc : n * e = m * d) : Frac x m e :=
 ⟨he, hm, hE, by rw [h.eq]; exact redP_eq h.pos he hc⟩
theorem Frac.uniq {x y : LP} {n d m e : Nat} (h : Frac x n d) (h2 : Frac y m e) (hc : n * e = m * d) : x = y := by rw [h.eq, h2.eq]; exact redP_eq h.pos h2.pos hc
theorem Frac.one {d : Nat} (h : 0 < d) (hd : d < Nm.B ^ 64) : Frac oneP d d := (Frac.of_good Good_one).scale h hd hd (by omega)
theorem Frac.nil {d : Nat} (h : 0 < d) (hd : d < Nm.B ^ 64) : Frac nilP 0 d := by
 rw [← nil_ratP]; exact (Frac.of_good g01).scale h (by omega) hd (by omega)
theorem Frac.valid {x : LP} {n d : Nat} (h : Frac x n d) : validP x = 0 := by
 obtain ⟨a, b, g, rfl, ga, _⟩ := h.parts; exact valid_rat ga
theorem Frac.okP {x : LP} {n d : Nat} (h : Frac x n d) : okP x := by
 obtain ⟨a, b, g, rfl, ga, _⟩ := h.parts; exact okP_lb
theorem Frac.mul {x y : LP} {n d m e : Nat} (hx : Frac x n d) (hy : Frac y m e) (h1 : n * m < Nm.B ^ 64) (h2 : d * e < Nm.B ^ 64) : Frac (mulV x y) (n * m) (d * e) ∧ (mulF x y).1 = 0 := by
 have p1 := hx.pos; have p2 := hy.pos; obtain ⟨a, b, g, rfl, ga, rfl, rfl, hg⟩ := hx.parts; obtain ⟨c, f, k, rfl, gc, rfl, rfl, hk⟩ := hy.parts; have hr := resP_red (n := a * c) (d := b * f) (n' := a * g * (c * k)) (d' := b * g * (f * k)) (Nat.mul_pos ga.1 gc.1) (Nat.mul_pos p1 p2) (by ac_rfl) h1 h2; have hm : mulF (ratP a b) (ratP c f) = resP (a * c) (b * f) := by unfold mulF; rw [binF_rat ga gc]
 refine ⟨⟨Nat.mul_pos p1 p2, h1, h2, ?_⟩, by rw [hm, hr]⟩; unfold mulV; rw [hm, hr]
theorem Frac.add {x y : LP} {n d m : Nat} (hx : Frac x n d) (hy : Frac y m d) (h1 : n + m < Nm.B ^ 64) : Frac (addV x y) (n + m) d ∧ (addF x y).1 = 0 := by
 have p1 := hx.pos; have h2 := hx.hd; obtain ⟨a, b, g, rfl, ga, en, ed, hg⟩ := hx.parts; obtain ⟨c, f, k, rfl, gc, em, ef, hk⟩ := hy.parts; have hr := resP_red (n := a * f + c * b) (d := b * f) (n' := n + m) (d' := d) (Nat.mul_pos ga.1 gc.1) p1 (by rw [Nat.add_mul, Nat.add_mul]; congr 1; (rw [ed, en]; ac_rfl); (rw [ef, em]; ac_rfl)) h1 h2; have hm : addF (ratP a b) (ratP c f) = resP (a * f + c * b) (b * f) := by unfold addF; rw [binF_rat ga gc]
 refine ⟨⟨p1, h1, h2, ?_⟩, by rw [hm, hr]⟩; unfold addV; rw [hm, hr]
theorem Frac.le_iff {x y : LP} {n d m e : Nat} (hx : Frac x n d) (hy : Frac y m e) : ∃ a b c f g k, x = ratP a b ∧ y = ratP c f ∧ Nm.Good a b ∧ Nm.Good c f ∧ n * e = a * f * (g * k) ∧ m * d = c * b * (g * k) ∧ 0 < g * k := by
 obtain ⟨a, b, g, e1, ga, rfl, rfl, hg⟩ := hx.parts; obtain ⟨c, f, k, e2, gc, rfl, rfl, hk⟩ := hy.parts; exact ⟨a, b, c, f, g, k, e1, e2, ga, gc, by ac_rfl, by ac_rfl, Nat.mul_pos hg hk⟩
theorem Frac.sub {x y : LP} {n d m : Nat} (hx : Frac x n d) (hy : Frac y m d) (hle : m ≤ n) : Frac (subV x y) (n - m) d ∧ (subF x y).1 = 0 := by
 have p1 := hx.pos; have h2 := hx.hd; have h1 : n - m < Nm.B ^ 64 := Nat.lt_of_le_of_lt (Nat.sub_le _ _) hx.hn; obtain ⟨a, b, g, rfl, ga, en, ed, hg⟩ := hx.parts; obtain ⟨c, f, k, rfl, gc, em, ef, hk⟩ := hy.parts
 have hcb : c * b ≤ a * f := by
  refine Nat.le_of_mul_le_mul_right ?_ (Nat.mul_pos hg hk); have e1 : c * b * (g * k) = m * d := by rw [ed, em]; ac_rfl
  have e2 : a * f * (g * k) = n * d := by rw [ef, en]; ac_rfl
  rw [e1, e2]; exact Nat.mul_le_mul_right _ hle
 have hr := resP_red (n := a * f - c * b) (d := b * f) (n' := n - m) (d' := d) (Nat.mul_pos ga.1 gc.1) p1 (by rw [Nat.sub_mul, Nat.sub_mul]; congr 1; (rw [ed, en]; ac_rfl); (rw [ef, em]; ac_rfl)) h1 h2; have hm : subF (ratP a b) (ratP c f) = resP (a * f - c * b) (b * f) := by unfold subF; rw [binF_rat ga gc]; dsimp only; rw [if_neg (by omega)]
 refine ⟨⟨p1, h1, h2, ?_⟩, by rw [hm, hr]⟩; unfold subV; rw [hm, hr]
theorem Frac.at_ {x y : LP} {n d m e : Nat} (hx : Frac x n d) (hy : Frac y m e) : atB x y = decide (n * e ≤ m * d) := by
 obtain ⟨a, b, c, f, g, k, rfl, rfl, ga, gc, e1, e2, hp⟩ := hx.le_iff hy; rw [atB_rat ga gc, e1, e2, decide_eq_decide]; exact ⟨fun h => Nat.mul_le_mul_right _ h, fun h => Nat.le_of_mul_le_mul_right h hp⟩
end Go.Proofs.YtnjjdiilkhdbeaaGreat
namespace Go.Proofs.YtnjjdiilkhdbeaaGreat
open Go Go.RowKit
/-- a valid plan in numbers -/
structure PlanN (b : LP) (rows : List (List LP)) (pb qb : Nat) : Prop where
 bd : Frac b pb qb
 le : pb ≤ qb
 qle : qb ≤ 255
 len : rows.length ≤ 16
 row : ∀ (n : Nat) r, rows[n]? = some r → r.length = n + 1
 stake : ∀ (n : Nat) r (k : Nat) s, rows[n]? = some r → r[k]? = some s → ∃ ps qs, Frac s ps qs ∧ ps ≤ 255 ∧ qs ≤ 255 ∧ ps * pb ≤ qs * qb
/-- a plan's factors in numbers -/
theorem PlanN.fac {b : LP} {rows : List (List LP)} {pb qb : Nat} (h : PlanN b rows pb qb) (n k : Nat) : ∃ ps qs, 0 < qs ∧ ps ≤ 255 ∧ qs ≤ 255 ∧ ps * pb ≤ qs * qb ∧ Frac (factorV b rows n k true) (qs * qb + ps * (qb - pb)) (qs * qb) ∧ Frac (factorV b rows n k false) (qs * qb - ps * pb) (qs * qb) := by
 have hq0 := h.bd.pos; have hq := h.qle
 cases hr : rows[n]? with
 | none =>
  have e : ∀ bad, factorV b rows n k bad = oneP := fun bad => by unfold factorV; rw [hr]
  refine ⟨0, 1, by omega, by omega, by omega, by omega, ?_, ?_⟩
  ·rw [e]; simpa using Frac.one (d := qb) hq0 (b64 (by omega))
  ·rw [e]; simpa using Frac.one (d := qb) hq0 (b64 (by omega))
 | some r =>
  cases hs : r[k]? with
  | none =>
   have e : ∀ bad, factorV b rows n k bad = oneP := fun bad => by unfold factorV; rw [hr]; dsimp only; rw [hs]
   refine ⟨0, 1, by omega, by omega, by omega, by omega, ?_, ?_⟩
   ·rw [e]; simpa using Frac.one (d := qb) hq0 (b64 (by omega))
   ·rw [e]; simpa using Frac.one (d := qb) hq0 (b64 (by omega))
  | some s =>
   obtain ⟨ps, qs, hf, h1, h2, h3⟩ := h.stake n r k s hr hs; have e : ∀ bad, factorV b rows n k bad = stakeF b s bad := fun bad => by unfold factorV; rw [hr]; dsimp only; rw [hs]
   have m1 : ps * pb ≤ 255 * 255 := Nat.mul_le_mul h1 (by have := h.le; omega); have m2 : qs * qb ≤ 255 * 255 := Nat.mul_le_mul h2 hq; have m3 : ps * (qb - pb) ≤ 255 * 255 := Nat.mul_le_mul h1 (by omega); have m4 := Nat.mul_pos hf.pos hq0; refine ⟨ps, qs, hf.pos, h1, h2, h3, ?_, ?_⟩
   ·rw [e]; unfold stakeF; rw [if_pos rfl]; have a1 := ((Frac.one (d := qb) hq0 (b64 (by omega))).sub h.bd h.le).1; have a2 := (hf.mul a1 (b64 (by omega)) (b64 (by omega))).1; exact ((Frac.one (d := qs * qb) m4 (b64 (by omega))).add a2 (b64 (by omega))).1
   ·rw [e]; unfold stakeF; rw [if_neg (by simp)]; have a2 := (hf.mul h.bd (b64 (by omega)) (b64 (by omega))).1; exact ((Frac.one (d := qs * qb) m4 (b64 (by omega))).sub a2 h3).1
end Go.Proofs.YtnjjdiilkhdbeaaGreat
namespace Go.Proofs.YtnjjdiilkhdbeaaGreat
open Go Go.RowKit
/-- the sums after one outcome more -/
noncomputable def expStep (b : LP) (rows : List (List LP)) (q : LP) (m : Nat) : Nat → LP → List LP → List LP
 | _, a, [] => [a]
 | k, a, c :: cs => addV a (mulV c (mulV (subV oneP q) (factorV b rows m k false))) :: expStep b rows q m (k + 1) (addV nilP (mulV c (mulV q (factorV b rows m k true)))) cs
noncomputable def expL (b : LP) (rows : List (List LP)) (q : LP) : Nat → List LP
 | 0 => [oneP]
 | m + 1 => expStep b rows q m 0 nilP (expL b rows q m)
theorem expStep_len {b : LP} {rows : List (List LP)} {q : LP} {m : Nat} : ∀ (cs : List LP) (k : Nat) (a : LP), (expStep b rows q m k a cs).length = cs.length + 1
 | [], _, _ => rfl
 | c :: cs, k, a => by
  unfold expStep; rw [List.length_cons, expStep_len cs, List.length_cons]
theorem expL_len {b : LP} {rows : List (List LP)} {q : LP} : ∀ m, (expL b rows q m).length = m + 1
 | 0 => rfl
 | m + 1 => by unfold expL; rw [expStep_len, expL_len m]
theorem expStep_drop {b : LP} {rows : List (List LP)} {q : LP} {m k : Nat} {a c : LP} {cs : List LP} (h : cs[k]? = some c) : expStep b rows q m k a (cs.drop k) = addV a (mulV c (mulV (subV oneP q) (factorV b rows m k false))) :: expStep b rows q m (k + 1) (addV nilP (mulV c (mulV q (factorV b rows m k true)))) (cs.drop (k + 1)) := by
 obtain ⟨h1, h2⟩ := List.getElem?_eq_some_iff.1 h; rw [List.drop_eq_getElem_cons h1, h2]; rfl
/-- what Expect says -/
noncomputable def expE (b : LP) (rows : List (List LP)) (q : LP) (n : Int) : Int := if planE b rows ≠ 0 then planE b rows else if partB q = false then 1 else if n < 0 ∨ 16 < n then 5 else 0
noncomputable def expX (b : LP) (rows : List (List LP)) (q : LP) (n : Int) : LP := if expE b rows q n ≠ 0 then nilP else (sumF nilP (expL b rows q n.toNat)).2
/-- ratios with one denominator -/
def FracL (D : Nat) : List LP → List Nat → Prop
 | [], [] => True
 | x :: xs, n :: ns => Frac x n D ∧ FracL D xs ns
 | _, _ => False
theorem FracL.len {D : Nat} : ∀ {xs : List LP} {ns : List Nat}, FracL D xs ns → xs.length = ns.length
 | [], [], _ => rfl
 | x :: xs, n :: ns, h => by rw [List.length_cons, List.length_cons, FracL.len h.2]
 | [], n :: ns, h => absurd h (by simp [FracL])
 | x :: xs, [], h => absurd h (by simp [FracL])
theorem sum_frac {D : Nat} : ∀ (xs : List LP) (ns : List Nat) (a : LP) (n : Nat), FracL D xs ns → Frac a n D → n + ns.sum < Nm.B ^ 64 → sumF a xs = (0, xs.foldl addV a) ∧ Frac (xs.foldl addV a) (n + ns.sum) D
 | [], [], a, n, _, ha, _ => ⟨rfl, by simpa using ha⟩
 | x :: xs, m :: ns, a, n, h, ha, hb => by
  rw [List.sum_cons] at hb; have h1 := ha.add h.1 (by omega); have h2 := sum_frac xs ns (addV a x) (n + m) h.2 h1.1 (by omega); refine ⟨?_, ?_⟩
  ·unfold sumF; rw [if_pos h1.2]; exact h2.1
  ·have := h2.2; rw [Nat.add_assoc] at this; exact this
 | [], n :: ns, _, _, h, _, _ => absurd h (by simp [FracL])
 | x :: xs, [], _, _, h, _, _ => absurd h (by simp [FracL])
theorem pow_of (B k n : Nat) (h : B = 2 ^ k) : B ^ n = 2 ^ (k * n) := by subst h; exact (Nat.pow_mul 2 k n).symm
theorem b_pow : Nm.B ^ 64 = 2 ^ (32 * 64) := pow_of _ 32 64 (by unfold Nm.B; decide)
theorem pw_lt {x k n : Nat} (h : x ≤ 2 ^ k) (hk : k < n) : x < 2 ^ n := Nat.lt_of_le_of_lt h (Nat.pow_lt_pow_right (by omega) hk)
theorem lim_pow {x k : Nat} (h : x ≤ 2 ^ k) (hk : k < 2048) : x < Nm.B ^ 64 := Nat.lt_of_lt_of_eq (pw_lt (n := 32 * 64) h (by omega)) b_pow.symm
/-- the factors of a row with one denominator -/
theorem PlanN.facs {b : LP} {rows : List (List LP)} {pb qb : Nat} (h : PlanN b rows pb qb) (m : Nat) : ∀ len, len ≤ 17 → ∃ Q, 0 < Q ∧ Q ≤ 2 ^ (8 * len) ∧ ∀ k, k < len → ∃ P, P ≤ 255 * Q ∧ P * pb ≤ Q * qb ∧ Frac (factorV b rows m k true) (Q * qb + P * (qb - pb)) (Q * qb) ∧ Frac (factorV b rows m k false) (Q * qb - P * pb) (Q * qb) := by
 have hq0 := h.bd.pos; have hq := h.qle; intro len
 induction len with
 | zero => intro _; exact ⟨1, by omega, by simp, fun k hk => absurd hk (by omega)⟩
 | succ len ih =>
  intro hl; obtain ⟨Q, h0, h1, h2⟩ := ih (by omega); obtain ⟨ps, qs, g0, g1, g2, g3, g4, g5⟩ := h.fac m len; have hQ0 := Nat.mul_pos h0 g0
  have hbig : Q * qs ≤ 2 ^ (8 * (len + 1)) := by
   rw [Nat.mul_add, Nat.pow_add]; exact Nat.mul_le_mul h1 (by omega)
  have hbig2 : Q * qs ≤ 2 ^ 136 := Nat.le_trans hbig (Nat.pow_le_pow_right (by omega) (by omega)); have hQb : Q * qs * qb ≤ 2 ^ 136 * 255 := Nat.mul_le_mul hbig2 hq; have hlim : ∀ x, x ≤ 2 ^ 136 * 255 * 256 → x < Nm.B ^ 64 := fun x hx => lim_pow (k := 200) (Nat.le_trans hx (show 2 ^ 136 * 255 * 256 ≤ 2 ^ 200 by decide)) (by omega)
  refine ⟨Q * qs, hQ0, hbig, ?_⟩
  have main : ∀ (k P Q0 t : Nat), Q0 * t = Q * qs → 0 < t → P ≤ 255 * Q0 → P * pb ≤ Q0 * qb → Frac (factorV b rows m k true) (Q0 * qb + P * (qb - pb)) (Q0 * qb) → Frac (factorV b rows m k false) (Q0 * qb - P * pb) (Q0 * qb) → ∃ P, P ≤ 255 * (Q * qs) ∧ P * pb ≤ Q * qs * qb ∧ Frac (factorV b rows m k true) (Q * qs * qb + P * (qb - pb)) (Q * qs * qb) ∧ Frac (factorV b rows m k false) (Q * qs * qb - P * pb) (Q * qs * qb) := by
   intro k P Q0 t ht htp p1 p2 p3 p4; have e1 : Q * qs * qb = Q0 * qb * t := by rw [← ht]; ac_rfl
   have e2 : P * t * (qb - pb) = P * (qb - pb) * t := by ac_rfl
   have e3 : P * t * pb = P * pb * t := by ac_rfl
   have hP : P * t ≤ 255 * (Q * qs) := by rw [← ht, ← Nat.mul_assoc]; exact Nat.mul_le_mul_right _ p1
   have hPp : P * t * pb ≤ Q * qs * qb := by rw [e1, e3]; exact Nat.mul_le_mul_right _ p2
   have hPq : P * t * (qb - pb) ≤ 255 * (Q * qs) * qb := Nat.mul_le_mul hP (Nat.sub_le _ _); have hPq2 : 255 * (Q * qs) * qb = 255 * (Q * qs * qb) := by ac_rfl
   refine ⟨P * t, hP, hPp, ?_, ?_⟩
   ·refine p3.scale (Nat.mul_pos hQ0 hq0) (hlim _ ?_) (hlim _ (by omega)) ?_
    ·rw [hPq2] at hPq; omega
    ·rw [e1, e2, ← Nat.add_mul]; ac_rfl
   ·refine p4.scale (Nat.mul_pos hQ0 hq0) (hlim _ (by omega)) (hlim _ (by omega)) ?_; rw [e1, e3, ← Nat.sub_mul]; ac_rfl
  intro k hk
  rcases Nat.lt_succ_iff_lt_or_eq.1 hk with hk | rfl
  ·obtain ⟨P, p1, p2, p3, p4⟩ := h2 k hk; exact main k P Q qs rfl g0 p1 p2 p3 p4
  ·exact main k ps qs Q (Nat.mul_comm _ _) h0 (by have := Nat.mul_le_mul_left 255 g0; omega) g3 g4 g5
/-- the measures of a good and of a bad outcome, times the factors, are the whole by the bound -/
theorem mix_le {pb qb pd qd P Q : Nat} (hb : pb ≤ qb) (hd : pd ≤ qd) (hP : P * pb ≤ Q * qb) : (pd * qb ≤ qd * pb → (qd - pd) * (Q * qb - P * pb) + pd * (Q * qb + P * (qb - pb)) ≤ qd * (Q * qb)) ∧ (qd * pb ≤ pd * qb → qd * (Q * qb) ≤ (qd - pd) * (Q * qb - P * pb) + pd * (Q * qb + P * (qb - pb))) := by
 obtain ⟨x, rfl⟩ := Nat.le.dest hb; obtain ⟨y, rfl⟩ := Nat.le.dest hd; obtain ⟨z, hz⟩ := Nat.le.dest hP; rw [show pb + x - pb = x by omega, show pd + y - pd = y by omega, ← hz, show P * pb + z - P * pb = z by omega]; have e1 : (pd + y) * (P * pb + z) = pd * (P * pb) + pd * z + y * (P * pb) + y * z := by rw [Nat.add_mul, Nat.mul_add, Nat.mul_add]; omega
 have e2 : y * z + pd * (P * pb + z + P * x) = y * z + pd * (P * pb) + pd * z + pd * (P * x) := by rw [Nat.mul_add, Nat.mul_add]; omega
 rw [e1, e2]; have e3 : pd * (pb + x) = pd * pb + pd * x := Nat.mul_add _ _ _; have e4 : (pd + y) * pb = pd * pb + y * pb := Nat.add_mul _ _ _; have e5 : pd * (P * x) = P * (pd * x) := by ac_rfl
 have e6 : y * (P * pb) = P * (y * pb) := by ac_rfl
 rw [e3, e4, e5, e6]
 constructor
 ·intro h; have := Nat.mul_le_mul_left P (show pd * x ≤ y * pb by omega); omega
 ·intro h; have := Nat.mul_le_mul_left P (show y * pb ≤ pd * x by omega); omega
theorem expStep_num {b : LP} {rows : List (List LP)} {q : LP} {pb qb pd qd m len Q D C : Nat} (hb : pb ≤ qb) (hq : Frac q pd qd) (hd : pd ≤ qd) (hD : 0 < D) (hC : 0 < C) (hQ : 0 < Q) (hqb : 0 < qb)
  (hf : ∀ k, k < len → ∃ P, P ≤ 255 * Q ∧ P * pb ≤ Q * qb ∧ Frac (factorV b rows m k true) (Q * qb + P * (qb - pb)) (Q * qb) ∧ Frac (factorV b rows m k false) (Q * qb - P * pb) (Q * qb))
  (hbig : 512 * (C * (D * (qd * (Q * qb)))) < Nm.B ^ 64) : ∀ (cs : List LP) (ns : List Nat) (k : Nat) (a : LP) (na : Nat), FracL D cs ns → Frac a na (D * (qd * (Q * qb))) → k + cs.length ≤ len → (∀ n ∈ ns, n ≤ C * D) → na ≤ 256 * (C * (D * (qd * (Q * qb)))) →
   ∃ ms, FracL (D * (qd * (Q * qb))) (expStep b rows q m k a cs) ms ∧ (∀ n ∈ ms, n ≤ 512 * C * (D * (qd * (Q * qb)))) ∧ (pd * qb ≤ qd * pb → ms.sum ≤ na + ns.sum * (qd * (Q * qb))) ∧ (qd * pb ≤ pd * qb → na + ns.sum * (qd * (Q * qb)) ≤ ms.sum)
 | [], [], k, a, na, _, ha, _, _, hna => by
  refine ⟨[na], ⟨ha, trivial⟩, fun n hn => ?_, ?_, ?_⟩
  ·rw [List.mem_singleton] at hn; rw [hn, Nat.mul_assoc]; omega
  ·intro _; simp
  ·intro _; simp
 | c :: cs, n :: ns, k, a, na, hc, ha, hk, hns, hna => by
  rw [List.length_cons] at hk; obtain ⟨P, p1, p2, p3, p4⟩ := hf k (by omega); have hqd := hq.pos; have hR0 : 0 < Q * qb := Nat.mul_pos hQ hqb; have hT0 : 0 < qd * (Q * qb) := Nat.mul_pos hqd hR0; have hn := hns n List.mem_cons_self; have hE := Nat.mul_pos hC hD
  -- bounds
  have b1 : (qd - pd) * (Q * qb - P * pb) ≤ qd * (Q * qb) := Nat.mul_le_mul (Nat.sub_le _ _) (Nat.sub_le _ _)
  have b2' : P * (qb - pb) ≤ 255 * (Q * qb) := by
   rw [← Nat.mul_assoc]; exact Nat.mul_le_mul p1 (Nat.sub_le _ _)
  have b2 : pd * (Q * qb + P * (qb - pb)) ≤ qd * (256 * (Q * qb)) := Nat.mul_le_mul hd (by omega); have e256 : qd * (256 * (Q * qb)) = 256 * (qd * (Q * qb)) := by ac_rfl
  have eCD : C * D * (qd * (Q * qb)) = C * (D * (qd * (Q * qb))) := by ac_rfl
  have c1 : n * ((qd - pd) * (Q * qb - P * pb)) ≤ C * (D * (qd * (Q * qb))) := by
   rw [← eCD]; exact Nat.mul_le_mul hn b1
  have c2 : n * (pd * (Q * qb + P * (qb - pb))) ≤ 256 * (C * (D * (qd * (Q * qb)))) := by
   have := Nat.mul_le_mul hn b2; rw [e256, show C * D * (256 * (qd * (Q * qb))) = 256 * (C * (D * (qd * (Q * qb)))) by ac_rfl] at this; exact this
  have hTle : qd * (Q * qb) ≤ C * (D * (qd * (Q * qb))) := by
   rw [← eCD]; exact Nat.le_mul_of_pos_left _ hE
  have hDTle : D * (qd * (Q * qb)) ≤ C * (D * (qd * (Q * qb))) := Nat.le_mul_of_pos_left _ hC; have h1q : qd < Nm.B ^ 64 := hq.hd; have r1 := ((Frac.one (d := qd) hqd h1q).sub hq hd).1; have v1 := (r1.mul p4 (Nat.lt_of_le_of_lt b1 (by omega)) (by omega)).1; have v2 := (hc.1.mul v1 (Nat.lt_of_le_of_lt c1 (by omega)) (by omega)).1; have u1 := (hq.mul p3 (Nat.lt_of_le_of_lt b2 (by omega)) (by omega)).1; have u2 := (hc.1.mul u1 (Nat.lt_of_le_of_lt c2 (by omega)) (by omega)).1; have x1 := (ha.add v2 (by omega)).1; have x2 := ((Frac.nil (d := D * (qd * (Q * qb))) (Nat.mul_pos hD hT0) (by omega)).add u2 (by omega)).1; rw [Nat.zero_add] at x2; obtain ⟨ms, k1, k2, k3, k4⟩ := expStep_num hb hq hd hD hC hQ hqb hf hbig cs ns (k + 1) _ _ hc.2 x2 (by omega) (fun y hy => hns y (List.mem_cons_of_mem _ hy)) c2; have hmix := mix_le (pb := pb) (qb := qb) (pd := pd) (qd := qd) (P := P) (Q := Q) hb hd p2; have es : (n :: ns).sum * (qd * (Q * qb)) = n * (qd * (Q * qb)) + ns.sum * (qd * (Q * qb)) := by rw [List.sum_cons, Nat.add_mul]
  refine ⟨_ :: ms, ⟨x1, k1⟩, fun y hy => ?_, fun h => ?_, fun h => ?_⟩
  ·rcases List.mem_cons.1 hy with rfl | hy
   ·rw [Nat.mul_assoc]; omega
   ·exact k2 y hy
  ·have := k3 h; have h2 := Nat.mul_le_mul_left n (hmix.1 h); rw [Nat.mul_add] at h2; rw [es, List.sum_cons]; omega
  ·have := k4 h; have h2 := Nat.mul_le_mul_left n (hmix.2 h); rw [Nat.mul_add] at h2; rw [es, List.sum_cons]; omega
 | [], n :: ns, _, _, _, h, _, _, _, _ => absurd h (by simp [FracL])
 | x :: xs, [], _, _, _, h, _, _, _, _ => absurd h (by simp [FracL])
/-- the sums of a valid plan with one denominator -/
theorem expL_num {b : LP} {rows : List (List LP)} {q : LP} {pb qb pd qd : Nat} (h : PlanN b rows pb qb) (hq : Frac q pd qd) (hd : pd ≤ qd) (hqd : qd ≤ 255) : ∀ m, m ≤ 16 → ∃ D ns, FracL D (expL b rows q m) ns ∧ 0 < D ∧ D ≤ 2 ^ (4 * (m * (m + 5))) ∧ (∀ n ∈ ns, n ≤ 2 ^ (9 * m) * D) ∧ (pd * qb ≤ qd * pb → ns.sum ≤ D) ∧ (qd * pb ≤ pd * qb → D ≤ ns.sum) := by
 intro m
 induction m with
 | zero =>
  intro _; exact ⟨1, [1], ⟨Frac.one (by omega) (b64 (by omega)), trivial⟩, by omega, by simp, fun n hn => by simp at hn; omega, fun _ => by simp, fun _ => by simp⟩
 | succ m ih =>
  intro hm; obtain ⟨D, ns, h1, h2, h3, h4, h5, h6⟩ := ih (by omega); obtain ⟨Q, q1, q2, q3⟩ := h.facs m (m + 1) (by omega); have hqb := h.bd.pos; have hqbl := h.qle
  have hD' : D * (qd * (Q * qb)) ≤ 2 ^ (4 * ((m + 1) * (m + 1 + 5))) := by
   have e : 4 * ((m + 1) * (m + 1 + 5)) = 4 * (m * (m + 5)) + (8 + (8 * (m + 1) + 8)) := by
    rw [Nat.add_mul, show m * (m + 1 + 5) = m * (m + 5) + m by rw [← Nat.mul_succ]]; omega
   rw [e, Nat.pow_add, Nat.pow_add, Nat.pow_add]; exact Nat.mul_le_mul h3 (Nat.mul_le_mul (by omega) (Nat.mul_le_mul q2 (by omega)))
  have hbig : 512 * (2 ^ (9 * m) * (D * (qd * (Q * qb)))) < Nm.B ^ 64 := by
   have k4 : 512 * (2 ^ (9 * m) * (D * (qd * (Q * qb)))) ≤ 2 ^ (9 + (9 * m + 4 * ((m + 1) * (m + 1 + 5)))) := by
    rw [Nat.pow_add, Nat.pow_add]; exact Nat.mul_le_mul (by decide) (Nat.mul_le_mul (Nat.le_refl _) hD')
   refine lim_pow k4 ?_; have := Nat.mul_le_mul (show m + 1 ≤ 16 by omega) (show m + 1 + 5 ≤ 21 by omega); omega
  have hT : 0 < D * (qd * (Q * qb)) := Nat.mul_pos h2 (Nat.mul_pos hq.pos (Nat.mul_pos q1 hqb))
  have hlt : D * (qd * (Q * qb)) < Nm.B ^ 64 := by
   have := Nat.le_mul_of_pos_left (D * (qd * (Q * qb))) (show 0 < 2 ^ (9 * m) from Nat.pow_pos (by omega)); omega
  obtain ⟨ms, m1, m2, m3, m4⟩ := expStep_num h.le hq hd h2 (Nat.pow_pos (n := 9 * m) (a := 2) (by omega)) q1 hqb q3 hbig (expL b rows q m) ns 0 nilP 0 h1 (Frac.nil hT hlt) (by rw [expL_len]; omega) h4 (by omega); refine ⟨_, ms, m1, hT, hD', fun n hn => ?_, fun hh => ?_, fun hh => ?_⟩
  ·have := m2 n hn; rw [show 9 * (m + 1) = 9 + 9 * m by omega, Nat.pow_add]; exact this
  ·have := m3 hh; have h8 := Nat.mul_le_mul_right (qd * (Q * qb)) (h5 hh); omega
  ·have := m4 hh; have h8 := Nat.mul_le_mul_right (qd * (Q * qb)) (h6 hh); omega
theorem sum_le {C : Nat} : ∀ (l : List Nat), (∀ n ∈ l, n ≤ C) → l.sum ≤ l.length * C
 | [], _ => by simp
 | x :: l, h => by
  have h1 := sum_le l fun n hn => h n (List.mem_cons_of_mem _ hn)
  have h2 := h x List.mem_cons_self; rw [List.sum_cons, List.length_cons, Nat.add_mul]; omega
/-- the expectation of a valid plan -/
theorem exp_num {b : LP} {rows : List (List LP)} {q : LP} {pb qb pd qd : Nat} (h : PlanN b rows pb qb) (hq : Frac q pd qd) (hd : pd ≤ qd) (hqd : qd ≤ 255) {m : Nat} (hm : m ≤ 16) : ∃ n D, sumF nilP (expL b rows q m) = (0, (expL b rows q m).foldl addV nilP) ∧ Frac ((expL b rows q m).foldl addV nilP) n D ∧ (pd * qb ≤ qd * pb → n ≤ D) ∧ (qd * pb ≤ pd * qb → D ≤ n) := by
 obtain ⟨D, ns, h1, h2, h3, h4, h5, h6⟩ := expL_num h hq hd hqd m hm; have hl := h1.len; rw [expL_len] at hl; have hmm := Nat.mul_le_mul hm (show m + 5 ≤ 21 by omega)
 have hs : 0 + ns.sum ≤ 2 ^ (5 + (9 * m + 4 * (m * (m + 5)))) := by
  rw [Nat.zero_add, Nat.pow_add, Nat.pow_add]; exact Nat.le_trans (sum_le ns h4) (Nat.mul_le_mul (by omega) (Nat.mul_le_mul (Nat.le_refl _) h3))
 have hs2 : 0 + ns.sum < Nm.B ^ 64 := lim_pow hs (by omega); have hD2 : D < Nm.B ^ 64 := lim_pow h3 (by omega); obtain ⟨k1, k2⟩ := sum_frac (expL b rows q m) ns nilP 0 h1 (Frac.nil h2 hD2) hs2; rw [Nat.zero_add] at k2; exact ⟨_, _, k1, k2, h5, h6⟩
end Go.Proofs.YtnjjdiilkhdbeaaGreat
namespace Go.Proofs.YtnjjdiilkhdbeaaGreat
open Go Go.RowKit
theorem grown_below {w1 W W' : World} {row : Option Nat} (hb : Below w1.heap.size w1 W) (k : W.grownBy W' row) : w1.grownBy W' row := ⟨k.os.trans hb.os, k.tape.trans hb.tape, k.output.trans hb.output, Nat.le_trans hb.size k.size, fun b h1 h2 => (k.block b (Nat.lt_of_lt_of_le h1 hb.size) h2).trans (hb.block b h1)⟩
/-- the cells of an element of an own row are there -/
theorem own_store2 {w : World} {base g n c : Nat} {X : List LP} (h : RatOwn w base (.slice (some ⟨g, 0, none⟩) n c) X) {k : Nat} (hk : k < n) : (∃ a, w.cell? ⟨g, k * 2, none⟩ = some a) ∧ (∃ a, w.cell? ⟨g, k * 2 + 1, none⟩ = some a) ∧ w.frozen? ⟨g, k * 2, none⟩ = false ∧ w.frozen? ⟨g, k * 2 + 1, none⟩ = false := by
 obtain ⟨_, _, e⟩ := h.shp; have hn : n = X.length := by injection e
 obtain ⟨ps, h1, h2, _⟩ := h; rw [← hn] at h1 h2; have hl : (ps.flatMap prC).length = n * 2 := h1.1; refine ⟨?_, ?_, h1.frozenAt _, h1.frozenAt _⟩
 ·rw [h1.cellAt _ (by omega)]; exact ⟨_, List.getElem?_eq_getElem (by omega)⟩
 ·rw [h1.cellAt _ (by omega)]; exact ⟨_, List.getElem?_eq_getElem (by omega)⟩
/-- an element of an own row -/
theorem RatOwn.elem {w : World} {base g n c : Nat} {X : List LP} (h : RatOwn w base (.slice (some ⟨g, 0, none⟩) n c) X) {k : Nat} {a : LP} (hk : X[k]? = some a) : ∃ v1 v2, w.cell? ⟨g, k * 2, none⟩ = some v1 ∧ w.cell? ⟨g, k * 2 + 1, none⟩ = some v2 ∧ RtP w (.agg #[v1, v2]) a := by
 obtain ⟨_, _, e⟩ := h.shp; have hn : n = X.length := by injection e
 have hkl := (List.getElem?_eq_some_iff.1 hk).1; obtain ⟨ps, h1, h2, h3, h4⟩ := h; have hi : k < ps.length := by omega
 have hf : ∀ (l : List (Value × Value)) (i : Nat) p, l[i]? = some p → (l.flatMap prC)[i * 2]? = some p.1 ∧ (l.flatMap prC)[i * 2 + 1]? = some p.2 := by
  intro l
  induction l with
  | nil => intro i p h; simp at h
  | cons x l ih =>
   intro i p h
   rcases i with _ | i
   ·simp only [List.getElem?_cons_zero, Option.some.injEq] at h; subst h; exact ⟨rfl, rfl⟩
   ·have := ih i p (by simpa using h); rw [List.flatMap_cons, show (i + 1) * 2 = i * 2 + 1 + 1 by omega]; exact this
 obtain ⟨e1, e2⟩ := hf ps k _ (List.getElem?_eq_getElem hi); rw [← hn] at h1; refine ⟨ps[k].1, ps[k].2, by rw [h1.cellAt _ (by omega)]; exact e1, by rw [h1.cellAt _ (by omega)]; exact e2, h4 k _ a (List.getElem?_eq_getElem hi) hk⟩
/-- what a store into a row's element leaves -/
def SEa (base : Nat) (w1 : World) (g n cN : Nat) (X : List LP) : List Value → (Nat → Value) → World → Prop
 | [], _, W => Below w1.heap.size w1 W
 | [_], _, W => RatOwn W base (.slice (some ⟨g, 0, none⟩) n cN) X ∧ w1.grownBy W (some g) ∧ ∀ A c l, Lim w1 A c l → Lim W A c l
 | _, _, _ => True
def PhiEa (gN g n cN k : Nat) (a1 a2 c1 c2 p1 p2 f1 f2 : Value) (a c p f : LP) (vs : Nat → Value) (j : Nat) (w : World) (x : Value) : Prop :=
 match j with
 | 0 => x = .slice (some ⟨g, 0, none⟩) n cN
 | 1 => x = .int .i64 (k : Nat)
 | 2 => x = .slice (some ⟨g, 0, none⟩) n cN
 | 3 => x = .int .i64 (k : Nat)
 | 4 => x = .pointer (some ⟨g, k * 2, none⟩)
 | 5 => x = .agg #[a1, a2]
 | 6 => x = .agg #[c1, c2]
 | 7 => x = .agg #[p1, p2]
 | 8 => x = .agg #[f1, f2]
 | 9 => ∃ v er, x = .tuple #[v, .int .i64 er] ∧ RtP w v (mulV p f)
 | 10 => RtP w x (mulV p f)
 | 11 => ∃ er : Int, x = .int .i64 er
 | 12 => RtP w x (mulV p f)
 | 13 => ∃ v er, x = .tuple #[v, .int .i64 er] ∧ RtP w v (mulV c (mulV p f))
 | 14 => RtP w x (mulV c (mulV p f))
 | 15 => ∃ er : Int, x = .int .i64 er
 | 16 => RtP w x (mulV c (mulV p f))
 | 17 => ∃ v er, x = .tuple #[v, .int .i64 er] ∧ RtP w v (addV a (mulV c (mulV p f)))
 | 18 => RtP w x (addV a (mulV c (mulV p f)))
 | 19 => ∃ er : Int, x = .int .i64 er
 | 20 => RtP w x (addV a (mulV c (mulV p f)))
 | 21 => x = .pointer (some ⟨g, k * 2, none⟩)
 | _ => True
theorem PhiEa.keepR {gN g n cN k : Nat} {a1 a2 c1 c2 p1 p2 f1 f2 : Value} {a c p f : LP} : ∀ vs (w w' : World), Below w.heap.size w w' → ∀ j x, PhiEa gN g n cN k a1 a2 c1 c2 p1 p2 f1 f2 a c p f vs j w x → PhiEa gN g n cN k a1 a2 c1 c2 p1 p2 f1 f2 a c p f vs j w' x := by
 intro vs w w' hb j x h; unfold PhiEa at h ⊢
 split <;> simp only at h ⊢
 all_goals first
  | exact h
  | exact h.below hb
  | (obtain ⟨v, er, e, h⟩ := h; exact ⟨v, er, e, h.below hb⟩)
theorem PhiEa.keepF {gN g n cN k : Nat} {a1 a2 c1 c2 p1 p2 f1 f2 : Value} {a c p f : LP} : ∀ vs (w w' : World) j x, ([] : List Nat).contains j = true → PhiEa gN g n cN k a1 a2 c1 c2 p1 p2 f1 f2 a c p f vs j w x → PhiEa gN g n cN k a1 a2 c1 c2 p1 p2 f1 f2 a c p f vs j w' x := by
 intro vs w w' j x hf
 cases hf
set_option maxRecDepth 100000 in
set_option maxHeartbeats 4000000 in
theorem expadd_F (base gN g n cN k : Nat) (X : List LP) (vc vp vf : Value) (a c p f : LP) (w : World) (hown : RatOwn w base (.slice (some ⟨g, 0, none⟩) n cN) X) (hN : w.cell? ⟨gN, 0, none⟩ = some (.slice (some ⟨g, 0, none⟩) n cN)) (hk : X[k]? = some a) (hk20 : k ≤ 1048576) (hc : RtP w vc c) (hp : RtP w vp p) (hf : RtP w vf f) :
  Calls Tryz.prog 37 #[.int .i64 (k : Int), vc, vp, vf, .pointer (some ⟨gN, 0, none⟩)] w fun e w' => e = .returned (.tuple #[]) ∧ RatOwn w' base (.slice (some ⟨g, 0, none⟩) n cN) (X.set k (addV a (mulV c (mulV p f)))) ∧ w.grownBy w' (some g) ∧ ∀ A c l, Lim w A c l → Lim w' A c l := by
 obtain ⟨C1, m1, o1, C2, m2, o2, rfl⟩ := hc.shape; obtain ⟨P1, m3, o3, P2, m4, o4, rfl⟩ := hp.shape; obtain ⟨F1, m5, o5, F2, m6, o6, rfl⟩ := hf.shape
 have hkn : k < n := by
  obtain ⟨_, _, e⟩ := hown.shp; have hn : n = X.length := by injection e
  have := (List.getElem?_eq_some_iff.1 hk).1; omega
 go_enter Tryz.func37, Tryz.ntmps37
 go_upto_region 1 with fail; refine wp_name ?_; intro w1 HW1; have hb1 : Below w.heap.size w w1 := by rw [HW1.out]; exact Below.tr (Below.tr (bA _ _) (bA _ _)) (bA _ _)
 have hB1 : Blk w1 w.heap.size 25 #[.slice C1 m1 o1, .slice C2 m2 o2] := by rw [HW1.out]; exact Blk.below (Blk.newG rfl) (Below.tr (bA _ _) (bA _ _)) (Blk.newG rfl).lt
 have hB2 : Blk w1 (w.heap.size + 1) 25 #[.slice P1 m3 o3, .slice P2 m4 o4] := by rw [HW1.out]; exact Blk.below (Blk.newG (by simp)) (bA _ _) (by simp)
 have hB3 : Blk w1 (w.heap.size + 1 + 1) 25 #[.slice F1 m5 o5, .slice F2 m6 o6] := by rw [HW1.out]; exact Blk.newG (by simp)
 clear HW1; obtain ⟨gC, hgC⟩ : ∃ g, Hid (g = w.heap.size) := ⟨_, rfl⟩; obtain ⟨gQ, hgQ⟩ : ∃ g, Hid (g = w.heap.size + 1) := ⟨_, rfl⟩; obtain ⟨gF, hgF⟩ : ∃ g, Hid (g = w.heap.size + 1 + 1) := ⟨_, rfl⟩; rw [← hgF.out] at hB3 ⊢; rw [← hgQ.out] at hB2 ⊢; rw [← hgC.out] at hB1 ⊢; have hown := hown.below hb1; have hN := Lib.hid (cell_keep hb1 hN); have hc := hc.below hb1; have hp := hp.below hb1; have hf := hf.below hb1; have d0 := hB1.cell 0; have d1 := hB1.cell 1; have b0 := hB2.cell 0; have b1 := hB2.cell 1; have e0 := hB3.cell 0; have e1 := hB3.cell 1; simp only [List.getElem?_toArray, List.getElem?_cons_zero, List.getElem?_cons_succ] at d0 d1 b0 b1 e0 e1; have d0 := Lib.hid d0; have d1 := Lib.hid d1; have b0 := Lib.hid b0; have b1 := Lib.hid b1; have e0 := Lib.hid e0; have e1 := Lib.hid e1; obtain ⟨a1, a2, q1, q2, ha⟩ := hown.elem hk; have q1 := Lib.hid q1; have q2 := Lib.hid q2; have hkn1 : (k : Int) < (n : Int) := by omega
 clear hB1 hB2 hB3 hgC hgQ hgF hk; refine region_chain [22] [.early, .early, .early, .early, .early, .early, .early, .early, .early, .early, .early, .early, .early, .early, .early, .early, .early, .early, .early, .early, .early, .early, .chain 0] [] [] (PhiEa gN g n cN k a1 a2 (.slice C1 m1 o1) (.slice C2 m2 o2) (.slice P1 m3 o3) (.slice P2 m4 o4) (.slice F1 m5 o5) (.slice F2 m6 o6) a c p f) (fun w w' => Below w.heap.size w w') (SEa base w1 g n cN (X.set k (addV a (mulV c (mulV p f))))) (by kernel_rfl) (by kernel_rfl) (by kernel_rfl) (by kernel_rfl) (sK (fun _ _ _ _ _ h => h) (sK (fun _ _ _ _ _ h => h) (sK (fun _ _ _ _ _ h => h) (sK (fun _ _ _ _ _ h => h) (sK (fun _ _ _ _ _ h => h) (sK (fun _ _ _ _ _ h => h) (sK (fun _ _ _ _ _ h => h) (sK (fun _ _ _ _ _ h => h) (sK (fun _ _ _ _ _ h => h) (sK (fun _ _ _ _ _ h => h) (sK (fun _ _ _ _ _ h => h) (sK (fun _ _ _ _ _ h => h) (sK (fun _ _ _ _ _ h => h) (sK (fun _ _ _ _ _ h => h) (sK (fun _ _ _ _ _ h => h) (sK (fun _ _ _ _ _ h => h) (sK (fun _ _ _ _ _ h => h) (sK (fun _ _ _ _ _ h => h) (sK (fun _ _ _ _ _ h => h) (sK (fun _ _ _ _ _ h => h) (sK (fun _ _ _ _ _ h => h) (sK (fun _ _ _ _ _ h => h) (sK (fun _ _ _ _ _ h => h) (sZ)))))))))))))))))))))))) PhiEa.keepR PhiEa.keepF (fun _ _ _ _ hR hS => Below.tr hS hR) (by rintro (_ | ⟨_, _ | _⟩) vs vs' w _ h <;> exact h) (fun _ => bD _) (fun vs => by simp only [fillR, Act.put, sA, sB, sC, Nat.zero_add, Nat.reduceAdd]; rfl) ?_ ?_
 ·refine sK ?_ (sK ?_ (sK ?_ (sK ?_ (sK ?_ (sK ?_ (sK ?_ (sK ?_ (sK ?_ (sK ?_ (sK ?_ (sK ?_ (sK ?_ (sK ?_ (sK ?_ (sK ?_ (sK ?_ (sK ?_ (sK ?_ (sK ?_ (sK ?_ (sK ?_ (sK ?_ (sZ)))))))))))))))))))))))
  ·as_aux_lemma =>
   intro vs W hS hu hdep K hK; have HU := Lib.hid hu; clear hu; have f0 := cell_keep hS hN.out; refine ⟨?_⟩; simp only [Act.put, sA, sB, sC, Nat.zero_add, Nat.reduceAdd] at hK ⊢; go_simp; with_reducible refine hK _ _ (Below.refl _ _) ?_
   exact rfl
  ·as_aux_lemma =>
   intro vs W hS hu hdep K hK; have HU := Lib.hid hu; clear hu; refine ⟨?_⟩; simp only [Act.put, sA, sB, sC, Nat.zero_add, Nat.reduceAdd] at hK ⊢; go_simp; with_reducible refine hK _ _ (Below.refl _ _) ?_
   exact rfl
  ·as_aux_lemma =>
   intro vs W hS hu hdep K hK; have HU := Lib.hid hu; clear hu; have f0 := cell_keep hS hN.out; refine ⟨?_⟩; simp only [Act.put, sA, sB, sC, Nat.zero_add, Nat.reduceAdd] at hK ⊢; go_simp; with_reducible refine hK _ _ (Below.refl _ _) ?_
   exact rfl
  ·as_aux_lemma =>
   intro vs W hS hu hdep K hK; have HU := Lib.hid hu; clear hu; refine ⟨?_⟩; simp only [Act.put, sA, sB, sC, Nat.zero_add, Nat.reduceAdd] at hK ⊢; go_simp; with_reducible refine hK _ _ (Below.refl _ _) ?_
   exact rfl
  ·as_aux_lemma =>
   intro vs W hS hu hdep K hK; have HU := Lib.hid hu; clear hu; have d0 := hdep ⟨2, .data⟩ (by simp) rfl; simp only [PhiEa] at d0; have d1 := hdep ⟨3, .data⟩ (by simp) rfl; simp only [PhiEa] at d1; refine ⟨?_⟩; simp only [Act.put, sA, sB, sC, Nat.zero_add, Nat.reduceAdd, d0, d1] at hK ⊢; go_simp; with_reducible refine hK _ _ (Below.refl _ _) ?_
   exact rfl
  ·as_aux_lemma =>
   intro vs W hS hu hdep K hK; have HU := Lib.hid hu; clear hu; have d0 := hdep ⟨4, .data⟩ (by simp) rfl; simp only [PhiEa] at d0; have f0 := cell_keep hS q1.out; have f1 := cell_keep hS q2.out; refine ⟨?_⟩; simp only [Act.put, sA, sB, sC, Nat.zero_add, Nat.reduceAdd, d0] at hK ⊢; go_simp; with_reducible refine hK _ _ (Below.refl _ _) ?_
   exact rfl
  ·as_aux_lemma =>
   intro vs W hS hu hdep K hK; have HU := Lib.hid hu; clear hu; have f0 := cell_keep hS d0.out; have f1 := cell_keep hS d1.out; refine ⟨?_⟩; simp only [Act.put, sA, sB, sC, Nat.zero_add, Nat.reduceAdd] at hK ⊢; go_simp; with_reducible refine hK _ _ (Below.refl _ _) ?_
   exact rfl
  ·as_aux_lemma =>
   intro vs W hS hu hdep K hK; have HU := Lib.hid hu; clear hu; have f0 := cell_keep hS b0.out; have f1 := cell_keep hS b1.out; refine ⟨?_⟩; simp only [Act.put, sA, sB, sC, Nat.zero_add, Nat.reduceAdd] at hK ⊢; go_simp; with_reducible refine hK _ _ (Below.refl _ _) ?_
   exact rfl
  ·as_aux_lemma =>
   intro vs W hS hu hdep K hK; have HU := Lib.hid hu; clear hu; have f0 := cell_keep hS e0.out; have f1 := cell_keep hS e1.out; refine ⟨?_⟩; simp only [Act.put, sA, sB, sC, Nat.zero_add, Nat.reduceAdd] at hK ⊢; go_simp; with_reducible refine hK _ _ (Below.refl _ _) ?_
   exact rfl
  ·as_aux_lemma =>
   intro vs W hS hu hdep K hK; have HU := Lib.hid hu; clear hu; have d0 := hdep ⟨7, .data⟩ (by simp) rfl; simp only [PhiEa] at d0; have d1 := hdep ⟨8, .data⟩ (by simp) rfl; simp only [PhiEa] at d1; refine ⟨?_⟩; simp only [fillR, Act.put, sA, sB, sC, Nat.zero_add, Nat.reduceAdd, d0, d1] at hK ⊢; go_simp; refine (mul_V _ _ p f _ (hp.below hS) (hf.below hS)).mono ?_; rintro e w' ⟨v, er, rfl, hv, hb⟩; go_wp2_with fail; with_reducible refine hK _ _ hb ?_
   exact ⟨v, er, rfl, hv⟩
  ·as_aux_lemma =>
   intro vs W hS hu hdep K hK; have HU := Lib.hid hu; clear hu; have d0 := hdep ⟨9, .data⟩ (by simp) rfl; simp only [PhiEa] at d0; refine @exE2 _ _ _ _ d0 ?_; clear d0; intro v0 er0 d0; have e0 := d0.1; have n0 := d0.2; clear d0; refine ⟨?_⟩; simp only [Act.put, sA, sB, sC, Nat.zero_add, Nat.reduceAdd, e0] at hK ⊢; go_simp; with_reducible refine hK _ _ (Below.refl _ _) ?_
   exact n0
  ·as_aux_lemma =>
   intro vs W hS hu hdep K hK; have HU := Lib.hid hu; clear hu; have d0 := hdep ⟨9, .data⟩ (by simp) rfl; simp only [PhiEa] at d0; refine @exE2 _ _ _ _ d0 ?_; clear d0; intro v0 er0 d0; have e0 := d0.1; have n0 := d0.2; clear d0; refine ⟨?_⟩; simp only [Act.put, sA, sB, sC, Nat.zero_add, Nat.reduceAdd, e0] at hK ⊢; go_simp; with_reducible refine hK _ _ (Below.refl _ _) ?_
   exact ⟨_, rfl⟩
  ·as_aux_lemma =>
   intro vs W hS hu hdep K hK; have HU := Lib.hid hu; clear hu; have d0 := hdep ⟨10, .data⟩ (by simp) rfl; simp only [PhiEa] at d0; have r0 := d0; clear d0; have d1 := hdep ⟨11, .data⟩ (by simp) rfl; simp only [PhiEa] at d1; refine @exE1 _ _ _ d1 ?_; clear d1; intro er1 d1; have e1 := d1; clear d1; refine ⟨?_⟩; simp only [fillR, Act.put, sA, sB, sC, Nat.zero_add, Nat.reduceAdd, e1] at hK ⊢; go_simp; refine (sure_F _ _ (mulV p f) _ r0).mono ?_; rintro e w' ⟨v, rfl, hv, hb⟩; go_wp2_with fail; with_reducible refine hK _ _ hb ?_
   exact hv
  ·as_aux_lemma =>
   intro vs W hS hu hdep K hK; have HU := Lib.hid hu; clear hu; have d0 := hdep ⟨6, .data⟩ (by simp) rfl; simp only [PhiEa] at d0; have d1 := hdep ⟨12, .data⟩ (by simp) rfl; simp only [PhiEa] at d1; have r1 := d1; clear d1; refine ⟨?_⟩; simp only [fillR, Act.put, sA, sB, sC, Nat.zero_add, Nat.reduceAdd, d0] at hK ⊢; go_simp; refine (mul_V _ _ c (mulV p f) _ (hc.below hS) r1).mono ?_; rintro e w' ⟨v, er, rfl, hv, hb⟩; go_wp2_with fail; with_reducible refine hK _ _ hb ?_
   exact ⟨v, er, rfl, hv⟩
  ·as_aux_lemma =>
   intro vs W hS hu hdep K hK; have HU := Lib.hid hu; clear hu; have d0 := hdep ⟨13, .data⟩ (by simp) rfl; simp only [PhiEa] at d0; refine @exE2 _ _ _ _ d0 ?_; clear d0; intro v0 er0 d0; have e0 := d0.1; have n0 := d0.2; clear d0; refine ⟨?_⟩; simp only [Act.put, sA, sB, sC, Nat.zero_add, Nat.reduceAdd, e0] at hK ⊢; go_simp; with_reducible refine hK _ _ (Below.refl _ _) ?_
   exact n0
  ·as_aux_lemma =>
   intro vs W hS hu hdep K hK; have HU := Lib.hid hu; clear hu; have d0 := hdep ⟨13, .data⟩ (by simp) rfl; simp only [PhiEa] at d0; refine @exE2 _ _ _ _ d0 ?_; clear d0; intro v0 er0 d0; have e0 := d0.1; have n0 := d0.2; clear d0; refine ⟨?_⟩; simp only [Act.put, sA, sB, sC, Nat.zero_add, Nat.reduceAdd, e0] at hK ⊢; go_simp; with_reducible refine hK _ _ (Below.refl _ _) ?_
   exact ⟨_, rfl⟩
  ·as_aux_lemma =>
   intro vs W hS hu hdep K hK; have HU := Lib.hid hu; clear hu; have d0 := hdep ⟨14, .data⟩ (by simp) rfl; simp only [PhiEa] at d0; have r0 := d0; clear d0; have d1 := hdep ⟨15, .data⟩ (by simp) rfl; simp only [PhiEa] at d1; refine @exE1 _ _ _ d1 ?_; clear d1; intro er1 d1; have e1 := d1; clear d1; refine ⟨?_⟩; simp only [fillR, Act.put, sA, sB, sC, Nat.zero_add, Nat.reduceAdd, e1] at hK ⊢; go_simp; refine (sure_F _ _ (mulV c (mulV p f)) _ r0).mono ?_; rintro e w' ⟨v, rfl, hv, hb⟩; go_wp2_with fail; with_reducible refine hK _ _ hb ?_
   exact hv
  ·as_aux_lemma =>
   intro vs W hS hu hdep K hK; have HU := Lib.hid hu; clear hu; have d0 := hdep ⟨5, .data⟩ (by simp) rfl; simp only [PhiEa] at d0; have d1 := hdep ⟨16, .data⟩ (by simp) rfl; simp only [PhiEa] at d1; have r1 := d1; clear d1; refine ⟨?_⟩; simp only [fillR, Act.put, sA, sB, sC, Nat.zero_add, Nat.reduceAdd, d0] at hK ⊢; go_simp; refine (add_V _ _ a (mulV c (mulV p f)) _ (ha.below hS) r1).mono ?_; rintro e w' ⟨v, er, rfl, hv, hb⟩; go_wp2_with fail; with_reducible refine hK _ _ hb ?_
   exact ⟨v, er, rfl, hv⟩
  ·as_aux_lemma =>
   intro vs W hS hu hdep K hK; have HU := Lib.hid hu; clear hu; have d0 := hdep ⟨17, .data⟩ (by simp) rfl; simp only [PhiEa] at d0; refine @exE2 _ _ _ _ d0 ?_; clear d0; intro v0 er0 d0; have e0 := d0.1; have n0 := d0.2; clear d0; refine ⟨?_⟩; simp only [Act.put, sA, sB, sC, Nat.zero_add, Nat.reduceAdd, e0] at hK ⊢; go_simp; with_reducible refine hK _ _ (Below.refl _ _) ?_
   exact n0
  ·as_aux_lemma =>
   intro vs W hS hu hdep K hK; have HU := Lib.hid hu; clear hu; have d0 := hdep ⟨17, .data⟩ (by simp) rfl; simp only [PhiEa] at d0; refine @exE2 _ _ _ _ d0 ?_; clear d0; intro v0 er0 d0; have e0 := d0.1; have n0 := d0.2; clear d0; refine ⟨?_⟩; simp only [Act.put, sA, sB, sC, Nat.zero_add, Nat.reduceAdd, e0] at hK ⊢; go_simp; with_reducible refine hK _ _ (Below.refl _ _) ?_
   exact ⟨_, rfl⟩
  ·as_aux_lemma =>
   intro vs W hS hu hdep K hK; have HU := Lib.hid hu; clear hu; have d0 := hdep ⟨18, .data⟩ (by simp) rfl; simp only [PhiEa] at d0; have r0 := d0; clear d0; have d1 := hdep ⟨19, .data⟩ (by simp) rfl; simp only [PhiEa] at d1; refine @exE1 _ _ _ d1 ?_; clear d1; intro er1 d1; have e1 := d1; clear d1; refine ⟨?_⟩; simp only [fillR, Act.put, sA, sB, sC, Nat.zero_add, Nat.reduceAdd, e1] at hK ⊢; go_simp; refine (sure_F _ _ (addV a (mulV c (mulV p f))) _ r0).mono ?_; rintro e w' ⟨v, rfl, hv, hb⟩; go_wp2_with fail; with_reducible refine hK _ _ hb ?_
   exact hv
  ·as_aux_lemma =>
   intro vs W hS hu hdep K hK; have HU := Lib.hid hu; clear hu; have d0 := hdep ⟨0, .data⟩ (by simp) rfl; simp only [PhiEa] at d0; have d1 := hdep ⟨1, .data⟩ (by simp) rfl; simp only [PhiEa] at d1; refine ⟨?_⟩; simp only [Act.put, sA, sB, sC, Nat.zero_add, Nat.reduceAdd, d0, d1] at hK ⊢; go_simp; with_reducible refine hK _ _ (Below.refl _ _) ?_
   exact rfl
  ·as_aux_lemma =>
   intro vs W hS hdep K hK; have d0 := hdep ⟨20, .data⟩ (by simp) rfl (by rfl); simp only [PhiEa] at d0; have d1 := hdep ⟨21, .data⟩ (by simp) rfl (by rfl); simp only [PhiEa] at d1; have hS : Below w1.heap.size w1 W := hS; obtain ⟨D1, y1, z1, D2, y2, z2, e0⟩ := d0.shape; rw [e0] at d0; have hu := Lib.hid ((hown.below hS).upd (i := k) d0); have hfa := Lib.hid (own_store2 (hown.below hS) hkn); have hbS := Lib.hid hS; clear hS; obtain ⟨⟨x1, f1⟩, ⟨x2, f2⟩, f3, f4⟩ := hfa.out; refine ⟨?_⟩; simp only [Act.put, sA, sB, sC, Nat.zero_add, Nat.reduceAdd, e0, d1] at hK ⊢; go_simp; with_reducible refine hK undef _ ?_
   exact ⟨hu.out.1, grown_below hbS.out hu.out.2.2, fun A c l h => hu.out.2.1 _ _ _ (h.below hbS.out)⟩
 ·intro vs W hS _; have hS2 : SEa base w1 g n cN (X.set k (addV a (mulV c (mulV p f)))) [vs 22] vs W := hS; obtain ⟨k1, k2, k3⟩ := hS2; have K2 := Lib.hid k2; have K3 := Lib.hid k3; clear k2 k3 hS; go_wp2_with fail; refine bodyPost_end (v := .tuple #[]) (by simp [results, Tryz.results37]) rfl ?_; exact ⟨rfl, k1, grown_below hb1 K2.out, fun A c l h => K3.out _ _ _ (h.below hb1)⟩
end Go.Proofs.YtnjjdiilkhdbeaaGreat
