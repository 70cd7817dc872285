import Derived.Test.YtmbfjmilhfmnkaaDoorKSumProof01
import Derived.Test.YtmbfjmilhfmnkaaDoorKCntProof34
import Derived.Test.YtmbfjmilhfmnkaaDoorKFldProof02
import Derived.Test.YtmbfjmilhfmnkaaDoorS0
set_option linter.unusedVariables false
set_option linter.unusedSimpArgs false
namespace Go.Proofs.YtmbfjmilhfmnkaaDoor
open Go Go.RowKit
theorem isI64_wrap (n : Int) : isI64 (IntKind.i64.wrap n) := by
 unfold isI64; rw [IntKind.wrap_i64]; omega
theorem rsum_sh (A : Option Addr) (k c : Nat) (X : List LP) (w : World) (h : RatRow w A k X) (E : Int) (Y : LP) (HE : Hid ((sumF nilP X).1 = E)) (HY : Hid ((sumF nilP X).2 = Y)) :
  Calls Tryd.prog 19 #[.slice A k c] w fun e w' => ∃ A k c A' k' c', e = .returned (.tuple #[.agg #[.slice A k c, .slice A' k' c'], .int .i64 E]) ∧ RtP w' (.agg #[.slice A k c, .slice A' k' c']) Y ∧ Below w.heap.size w w' := by
 refine (rsum_F A k c X w h).mono ?_; rintro e w' ⟨v, rfl, hr, hb⟩; rw [HE.out]; rw [HY.out] at hr; obtain ⟨A, k, c, A', k', c', rfl⟩ := hr.shape; exact ⟨A, k, c, A', k', c', rfl, hr, hb⟩
theorem take_get {α : Type} {l : List α} {m i : Nat} {x : α} (h : (l.take m)[i]? = some x) : l[i]? = some x := by
 rw [List.getElem?_take] at h
 split at h
 ·exact h
 ·cases h
theorem RatRow.take_ {w : World} {A : Option Addr} {k : Nat} {r : List LP} (h : RatRow w A k r) (m : Nat) (hm : m ≤ k) : RatRow w A m (r.take m) := by
 obtain ⟨ps, ⟨h1, h2, h3⟩, h4, h5⟩ := h; refine ⟨ps.take m, ⟨?_, by rw [List.length_take]; omega, by omega⟩, by rw [List.length_take, List.length_take, h4], fun i p x e1 e2 => h5 i p x (take_get e1) (take_get e2)⟩; have e : ps.flatMap prC = (ps.take m).flatMap prC ++ (ps.drop m).flatMap prC := by rw [← List.flatMap_append, List.take_append_drop]
 intro hne; obtain ⟨b, off, rfl, hc⟩ := h1 (by rw [e]; simp [hne]); refine ⟨b, off, rfl, fun i hi => ?_⟩; rw [hc i (by rw [e, List.length_append]; omega)]
 congr 1
 simp only [e]; exact List.getElem_append_left hi
theorem RatRow.nil0 (w : World) : RatRow w none 0 [] := ⟨[], ⟨fun h => absurd rfl h, rfl, by omega⟩, rfl, fun i p x e => by simp at e⟩
theorem Rd.grown {w w' : World} {g : Nat} {cs : List Value} {row : Option Nat} (h : Rd w (some ⟨g, 0, none⟩) cs) (k : w.grownBy w' row) (hl : g < w.heap.size) (hne : row ≠ some g) : Rd w' (some ⟨g, 0, none⟩) cs := by
 intro hc; obtain ⟨b, off, e, hh⟩ := h hc; simp only [Option.some.injEq, Addr.mk.injEq, and_true] at e; obtain ⟨rfl, rfl⟩ := e; refine ⟨_, _, rfl, fun i hi => ?_⟩; rw [World.cell?_of_block (k.block g hl (fun e => hne e.symm))]; exact hh i hi
/-- a whole row of ratios appended to an empty row of one's own -/
theorem wp_pushRow {o : Oper} {a : Act} {w : World} {K : Act → World → Prop} {Q : Exit → Act → World → Prop} (s x : Operand) (ho : o.op = .call { callee := .builtin .append, args := #[s, x], argTypes := #[23, 23] })
  (base : Nat) (v : Value) (hs : a.eval s = v) (h : RatOwn w base v []) (A : Option Addr) (m c : Nat) (Y : List LP) (hx : a.eval x = .slice A m c) (hr : RatRow w A m Y) (hm : m ≤ 1048576) (hb : base ≤ w.heap.size)
  (hK : ∀ v' w', RatOwn w' base v' Y → w.grownBy w' v.ownBlock → (v'.ownBlock = v.ownBlock ∨ v'.ownBlock = some w.heap.size) → (∀ u z, RtP w u z → RtP w' u z) → K (a.put o.dst v') w') : o.wp Tryd.prog a w K Q := by
 obtain ⟨iR, hi, hz, hsz, hby⟩ := info_parts info_ratio; obtain ⟨ps, h1, h2, h3, h4⟩ := h; obtain rfl : ps = [] := List.eq_nil_of_length_eq_zero h2; obtain ⟨qs, ⟨r1, r2, r3⟩, r4, r5⟩ := hr
 have hall : ∀ u ∈ qs.flatMap prC, NoL u ∧ u.oneCell' = true := by
  intro u hu; obtain ⟨p, hp, hup⟩ := List.mem_flatMap.1 hu; obtain ⟨i, hi1, hi2⟩ := List.getElem_of_mem hp; have e1 : qs[i]? = some p := by rw [List.getElem?_eq_getElem hi1, hi2]
  have e2 : Y[i]? = some Y[i] := List.getElem?_eq_getElem (by omega); have hn := (r5 i p _ e1 e2).noL; exact ⟨hn.1 u hup, hn.2 u hup⟩
 obtain ⟨v', w', hrun, k1, k2, k3, k4⟩ := run_append_all (P := Tryd.prog) w NoL base 23 o.type 28 iR nilRat 2 48 Tryd.underlying23 hi hz hsz hby rfl (by omega) v 0 _ h1 A m c (qs.flatMap prC) (by rw [flat_len prC_len, r2]) r1 (fun u hu => (hall u hu).2) (by simp only [maxLen]; omega) (by omega) hb nilRat_noL (fun u hu => (hall u hu).1) h3; unfold Oper.wp execOp; simp only [ho, resolve, invoke, builtin, Sem.run_bind, Sem.run_pure, Result.andThen_ok, List.map_toArray, List.map_cons, List.map_nil, hs, hx, hrun]; refine hK _ _ ⟨qs, ?_, r4, k4, fun i p x e1 e2 => (r5 i p x e1 e2).grownBy k2 h3⟩ k2 k3 fun u y h => h.grownBy k2 h3
 have e : Y.length = 0 + m := by omega
 rw [e]
 simpa using k1
/-- the five lists -/
def Rows5 (w : World) (x : Value) : Prop := ∃ g, x = .slice (some ⟨g, 0, none⟩) 5 5 ∧ ∀ j, j < 5 → ∃ A k c X, w.cell? ⟨g, j, none⟩ = some (.slice A k c) ∧ RatRow w A k X
theorem Rows5.below {w w' : World} {x : Value} (h : Rows5 w x) (hb : Below w.heap.size w w') : Rows5 w' x := by
 obtain ⟨g, e, h⟩ := h; refine ⟨g, e, fun j hj => ?_⟩; obtain ⟨A, k, c, X, h1, h2⟩ := h j hj; exact ⟨A, k, c, X, cell_keep hb h1, h2.below hb⟩
structure S7 (w0 : World) (Xp : List LP) (y : LP) (L : Nat → Bool) (vs : Nat → Value) (W : World) : Prop where
 be : Below w0.heap.size w0 W
 s4 : L 4 = true → L 6 = false → RatOwn W w0.heap.size (vs 4) []
 s6 : L 6 = true → L 11 = false → RatOwn W w0.heap.size (vs 6) Xp
 s10 : L 10 = true → L 11 = false → ∃ g v1 v2, vs 10 = .slice (some ⟨g, 0, none⟩) 1 1 ∧ g < W.heap.size ∧ Rd W (some ⟨g, 0, none⟩) [v1, v2] ∧ RtP W (.agg #[v1, v2]) y ∧ (L 4 = true → L 6 = false → (vs 4).ownBlock ≠ some g) ∧ (L 6 = true → (vs 6).ownBlock ≠ some g)
 s11 : L 11 = true → RatOwn W w0.heap.size (vs 11) (Xp ++ [y])
 s12 : L 12 = true → Rows5 W (vs 12)
 s13 : L 13 = true → Rows5 W (vs 13)
theorem S7.start (w0 : World) (Xp : List LP) (y : LP) (vs : Nat → Value) : S7 w0 Xp y (fun _ => false) vs w0.drew :=
 ⟨bD _, fun h => (by cases h), fun h => (by cases h), fun h => (by cases h), fun h => (by cases h), fun h => (by cases h), fun h => (by cases h)⟩
theorem updB_ne {L : Nat → Bool} {i j : Nat} (h : j ≠ i) : updB L i j = L j := if_neg h
theorem upd_ne {vs : Nat → Value} {i j : Nat} {v : Value} (h : j ≠ i) : upd vs i v j = vs j := if_neg h
theorem upd_eq {vs : Nat → Value} {i : Nat} {v : Value} : upd vs i v i = v := if_pos rfl
theorem updB_eq {L : Nat → Bool} {i : Nat} : updB L i i = true := if_pos rfl
section
variable {w0 : World} {Xp : List LP} {y : LP} {L : Nat → Bool} {vs : Nat → Value} {W W' : World}
theorem S7.step (h : S7 w0 Xp y L vs W) (hb : Below W.heap.size W W') (i : Nat) (v : Value) (hi : i ≠ 4 ∧ i ≠ 6 ∧ i ≠ 10 ∧ i ≠ 11 ∧ i ≠ 12 ∧ i ≠ 13) : S7 w0 Xp y (updB L i) (upd vs i v) W' := by
 obtain ⟨i4, i6, i10, i11, i12, i13⟩ := hi; refine ⟨h.be.trans (hb.mono h.be.size), ?_, ?_, ?_, ?_, ?_, ?_⟩
 ·rw [updB_ne i4.symm, updB_ne i6.symm, upd_ne i4.symm]; exact fun a b => (h.s4 a b).below hb
 ·rw [updB_ne i6.symm, updB_ne i11.symm, upd_ne i6.symm]; exact fun a b => (h.s6 a b).below hb
 ·rw [updB_ne i10.symm, updB_ne i11.symm, upd_ne i10.symm, updB_ne i4.symm, updB_ne i6.symm, upd_ne i4.symm, upd_ne i6.symm]; intro a b; obtain ⟨g, v1, v2, e, hl, h1, h2, h3⟩ := h.s10 a b; exact ⟨g, v1, v2, e, Nat.lt_of_lt_of_le hl hb.size, h1.below hb, h2.below hb, h3⟩
 ·rw [updB_ne i11.symm, upd_ne i11.symm]; exact fun a => (h.s11 a).below hb
 ·rw [updB_ne i12.symm, upd_ne i12.symm]; exact fun a => (h.s12 a).below hb
 ·rw [updB_ne i13.symm, upd_ne i13.symm]; exact fun a => (h.s13 a).below hb
theorem S7.st4 (h : S7 w0 Xp y L vs W) (h6 : L 6 = false) : S7 w0 Xp y (updB L 4) (upd vs 4 (.slice (some ⟨W.heap.size, 0, none⟩) 0 0)) (W.alloc (.cells #[] 28)) := by
 have hb := bA W (.cells #[] 28); refine ⟨h.be.trans (hb.mono h.be.size), ?_, ?_, ?_, ?_, ?_, ?_⟩
 ·intro _ _; rw [upd_eq]; exact ⟨[], own_mono (own_nil0 W 28 2) h.be.size, rfl, OwnAll.blk (Blk.new W 28 #[]) (fun x hx => by simp at hx), fun i p x e => by simp at e⟩
 ·rw [updB_ne (by omega), h6]; intro a; cases a
 ·rw [updB_ne (by omega), updB_ne (by omega), upd_ne (by omega), upd_eq, updB_eq, updB_ne (by omega), upd_ne (by omega)]; intro a b; obtain ⟨g, v1, v2, e, hl, h1, h2, h3⟩ := h.s10 a b; exact ⟨g, v1, v2, e, Nat.lt_of_lt_of_le hl hb.size, h1.below hb, h2.below hb, fun _ _ e => by simp [Value.ownBlock] at e; omega, h3.2⟩
 ·rw [updB_ne (by omega), upd_ne (by omega)]; exact fun a => (h.s11 a).below hb
 ·rw [updB_ne (by omega), upd_ne (by omega)]; exact fun a => (h.s12 a).below hb
 ·rw [updB_ne (by omega), upd_ne (by omega)]; exact fun a => (h.s13 a).below hb
theorem S7.st6 (h : S7 w0 Xp y L vs W) (h4 : L 4 = true) (h6 : L 6 = false) (h11 : L 11 = false) (h12 : L 12 = false) (h13 : L 13 = false) {v' : Value} (ho : RatOwn W' w0.heap.size v' Xp) (hg : W.grownBy W' (vs 4).ownBlock) (ha : v'.ownBlock = (vs 4).ownBlock ∨ v'.ownBlock = some W.heap.size) (hk : ∀ u z, RtP W u z → RtP W' u z) : Below w0.heap.size W W' ∧ S7 w0 Xp y (updB L 6) (upd vs 6 v') W' := by
 have h0 := h.s4 h4 h6; have hb : Below w0.heap.size W W' := (Below.refl _ _).grown hg h.be.size (fun q hq => h0.ge q hq); refine ⟨hb, h.be.trans hb, ?_, ?_, ?_, ?_, ?_, ?_⟩
 ·rw [updB_eq]; intro _ a; cases a
 ·intro _ _; rw [upd_eq]; exact ho
 ·rw [updB_ne (by omega), updB_ne (by omega), upd_ne (by omega), upd_eq, updB_eq]; intro a b; obtain ⟨g, v1, v2, e, hl, h1, h2, h3, _⟩ := h.s10 a b; have hne := h3 h4 h6; refine ⟨g, v1, v2, e, Nat.lt_of_lt_of_le hl hg.size, h1.grown hg hl hne, hk _ _ h2, fun _ a => (by cases a), fun _ e => ?_⟩
  rcases ha with ha | ha
  ·rw [ha] at e; exact hne e
  ·rw [ha] at e; simp at e; omega
 ·rw [updB_ne (by omega), h11]; intro a; cases a
 ·rw [updB_ne (by omega), h12]; intro a; cases a
 ·rw [updB_ne (by omega), h13]; intro a; cases a
theorem S7.st10 (h : S7 w0 Xp y L vs W) (h11 : L 11 = false) {v1 v2 : Value} (hx : RtP W (.agg #[v1, v2]) y) : S7 w0 Xp y (updB L 10) (upd vs 10 (.slice (some ⟨W.heap.size, 0, none⟩) 1 1)) (W.alloc (.cells #[v1, v2] 28)) := by
 have hb := bA W (.cells #[v1, v2] 28); refine ⟨h.be.trans (hb.mono h.be.size), ?_, ?_, ?_, ?_, ?_, ?_⟩
 ·rw [updB_ne (by omega), updB_ne (by omega), upd_ne (by omega)]; exact fun a b => (h.s4 a b).below hb
 ·rw [updB_ne (by omega), updB_ne (by omega), upd_ne (by omega)]; exact fun a b => (h.s6 a b).below hb
 ·rw [upd_eq, updB_eq, updB_ne (by omega), updB_ne (by omega), upd_ne (by omega), updB_ne (by omega), upd_ne (by omega)]; intro _ _; exact ⟨_, v1, v2, rfl, by simp, Rd.newC W 28 [v1, v2], hx.below hb, fun a b e => absurd ((h.s4 a b).lt _ e) (by omega), fun a e => absurd ((h.s6 a h11).lt _ e) (by omega)⟩
 ·rw [updB_ne (by omega), h11]; intro a; cases a
 ·rw [updB_ne (by omega), upd_ne (by omega)]; exact fun a => (h.s12 a).below hb
 ·rw [updB_ne (by omega), upd_ne (by omega)]; exact fun a => (h.s13 a).below hb
theorem S7.st11 (h : S7 w0 Xp y L vs W) (h6 : L 6 = true) (h11 : L 11 = false) (h12 : L 12 = false) (h13 : L 13 = false) {v' : Value} (ho : RatOwn W' w0.heap.size v' (Xp ++ [y])) (hg : W.grownBy W' (vs 6).ownBlock) : Below w0.heap.size W W' ∧ S7 w0 Xp y (updB L 11) (upd vs 11 v') W' := by
 have h0 := h.s6 h6 h11; have hb : Below w0.heap.size W W' := (Below.refl _ _).grown hg h.be.size (fun q hq => h0.ge q hq); refine ⟨hb, h.be.trans hb, ?_, ?_, ?_, ?_, ?_, ?_⟩
 ·rw [updB_ne (i := 11) (j := 6) (by omega), h6]; intro _ a; cases a
 ·rw [updB_eq]; intro _ a; cases a
 ·rw [updB_eq]; intro _ a; cases a
 ·intro _; rw [upd_eq]; exact ho
 ·rw [updB_ne (by omega), h12]; intro a; cases a
 ·rw [updB_ne (by omega), h13]; intro a; cases a
theorem S7.st12 (h : S7 w0 Xp y L vs W) (hb : Below W.heap.size W W') {v' : Value} (hr : Rows5 W' v') : S7 w0 Xp y (updB L 12) (upd vs 12 v') W' := by
 refine ⟨h.be.trans (hb.mono h.be.size), ?_, ?_, ?_, ?_, ?_, ?_⟩
 ·rw [updB_ne (by omega), updB_ne (by omega), upd_ne (by omega)]; exact fun a b => (h.s4 a b).below hb
 ·rw [updB_ne (by omega), updB_ne (by omega), upd_ne (by omega)]; exact fun a b => (h.s6 a b).below hb
 ·rw [updB_ne (by omega), updB_ne (by omega), upd_ne (by omega), updB_ne (by omega), updB_ne (by omega), upd_ne (by omega), upd_ne (by omega)]; intro a b; obtain ⟨g, v1, v2, e, hl, h1, h2, h3⟩ := h.s10 a b; exact ⟨g, v1, v2, e, Nat.lt_of_lt_of_le hl hb.size, h1.below hb, h2.below hb, h3⟩
 ·rw [updB_ne (by omega), upd_ne (by omega)]; exact fun a => (h.s11 a).below hb
 ·intro _; rw [upd_eq]; exact hr
 ·rw [updB_ne (by omega), upd_ne (by omega)]; exact fun a => (h.s13 a).below hb
theorem S7.st13 (h : S7 w0 Xp y L vs W) {v' : Value} (hr : Rows5 W v') : S7 w0 Xp y (updB L 13) (upd vs 13 v') W := by
 refine ⟨h.be, ?_, ?_, ?_, ?_, ?_, ?_⟩
 ·rw [updB_ne (by omega), updB_ne (by omega), upd_ne (by omega)]; exact h.s4
 ·rw [updB_ne (by omega), updB_ne (by omega), upd_ne (by omega)]; exact h.s6
 ·rw [updB_ne (by omega), updB_ne (by omega), upd_ne (by omega), updB_ne (by omega), updB_ne (by omega), upd_ne (by omega), upd_ne (by omega)]; exact h.s10
 ·rw [updB_ne (by omega), upd_ne (by omega)]; exact h.s11
 ·rw [updB_ne (by omega), upd_ne (by omega)]; exact h.s12
 ·intro _; rw [upd_eq]; exact hr
end
def PhiS7 (Sp SL : Value) (gL : Nat) (z1 z2 : Value) (j : Nat) (w : World) (x : Value) : Prop :=
 match j with
 | 0 => x = Sp
 | 1 => x = SL
 | 2 => x = .slice (some ⟨gL, 0, none⟩) 2 7
 | 3 => x = SL
 | 4 => True
 | 5 => x = Sp
 | 6 => True
 | 7 => x = SL
 | 8 => x = .pointer (some ⟨gL, 4, none⟩)
 | 9 => x = .agg #[z1, z2]
 | 10 => True
 | 11 => True
 | 12 => True
 | 13 => True
 | _ => True

theorem PhiS7.keep {B : Nat} {Sp SL : Value} {gL : Nat} {z1 z2 : Value} : ∀ (w w' : World), Below B w w' → ∀ j x, PhiS7 Sp SL gL z1 z2 j w x → PhiS7 Sp SL gL z1 z2 j w' x := by
 intro w w' _ j x h; unfold PhiS7 at h ⊢
 split <;> simp only at h ⊢ <;> exact h
theorem rows5_new {w : World} (T : TypeId) {A1 A2 A3 A4 : Option Addr} {k1 k2 k3 k4 c1 c2 c3 c4 : Nat} {X1 X2 X3 X4 : List LP} (h1 : RatRow w A1 k1 X1) (h2 : RatRow w A2 k2 X2) (h3 : RatRow w A3 k3 X3) (h4 : RatRow w A4 k4 X4) :
  Rows5 (w.alloc (.cells #[.slice A1 k1 c1, .slice A2 k2 c2, .slice A3 k3 c3, .slice A4 k4 c4, .slice none 0 0] T)) (.slice (some ⟨w.heap.size, 0, none⟩) 5 5) := by
 have hB := Blk.new w T #[.slice A1 k1 c1, .slice A2 k2 c2, .slice A3 k3 c3, .slice A4 k4 c4, .slice none 0 0]; have hb := bA w (.cells #[.slice A1 k1 c1, .slice A2 k2 c2, .slice A3 k3 c3, .slice A4 k4 c4, .slice none 0 0] T); refine ⟨_, rfl, fun j hj => ?_⟩; have : j = 0 ∨ j = 1 ∨ j = 2 ∨ j = 3 ∨ j = 4 := by omega
 rcases this with rfl | rfl | rfl | rfl | rfl
 ·exact ⟨_, _, _, _, by rw [hB.cell]; rfl, h1.below hb⟩
 ·exact ⟨_, _, _, _, by rw [hB.cell]; rfl, h2.below hb⟩
 ·exact ⟨_, _, _, _, by rw [hB.cell]; rfl, h3.below hb⟩
 ·exact ⟨_, _, _, _, by rw [hB.cell]; rfl, h4.below hb⟩
 ·exact ⟨_, _, _, _, by rw [hB.cell]; rfl, RatRow.nil0 _⟩
def Ints6 (w : World) (x : Value) : Prop := ∃ g, x = .slice (some ⟨g, 0, none⟩) 6 6 ∧ ∀ j, j < 6 → ∃ n : Int, w.cell? ⟨g, j, none⟩ = some (.int .i64 n)
theorem Ints6.below {w w' : World} {x : Value} (h : Ints6 w x) (hb : Below w.heap.size w w') : Ints6 w' x := by
 obtain ⟨g, e, h⟩ := h; refine ⟨g, e, fun j hj => ?_⟩; obtain ⟨n, h1⟩ := h j hj; exact ⟨n, cell_keep hb h1⟩
theorem ints6_new (w : World) (T : TypeId) (a b c d e f : Int) : Ints6 (w.alloc (.cells #[.int .i64 a, .int .i64 b, .int .i64 c, .int .i64 d, .int .i64 e, .int .i64 f] T)) (.slice (some ⟨w.heap.size, 0, none⟩) 6 6) := by
 have hB := Blk.new w T #[.int .i64 a, .int .i64 b, .int .i64 c, .int .i64 d, .int .i64 e, .int .i64 f]; refine ⟨_, rfl, fun j hj => ?_⟩; have : j = 0 ∨ j = 1 ∨ j = 2 ∨ j = 3 ∨ j = 4 ∨ j = 5 := by omega
 rcases this with rfl | rfl | rfl | rfl | rfl | rfl <;> exact ⟨_, by rw [hB.cell]; rfl⟩
def PhiSwa (g gP i k : Nat) (y1 y2 : Value) (nn E : Int) (X : LP) (B : Nat) (j : Nat) (w : World) (x : Value) : Prop :=
 match j with
 | 0 => x = .slice (some ⟨g, 0, none⟩) 7 7
 | 1 => x = .int .i64 (i : Nat)
 | 2 => x = .pointer (some ⟨g, i * 2, none⟩)
 | 3 => x = .agg #[y1, y2]
 | 4 => x = .slice (some ⟨gP, 0, none⟩) 6 6
 | 5 => x = .int .i64 (k : Nat)
 | 6 => x = .pointer (some ⟨gP, k, none⟩)
 | 7 => x = .int .i64 nn
 | 8 => ∃ v, x = .tuple #[v, .int .i64 E] ∧ RtP w v X
 | 9 => ∃ v, x = .tuple #[v, .int .i64 E] ∧ RtP w v X
 | 10 => ∃ A k c A' k' c', x = .agg #[.slice A k c, .slice A' k' c'] ∧ RtP w (.agg #[.slice A k c, .slice A' k' c']) X
 | 11 => x = .int .i64 E
 | 12 => ∃ g, x = .pointer (some ⟨g, 0, none⟩) ∧ B ≤ g ∧ Sl w g
 | 13 => True
 | 14 => x = .int .i64 E
 | _ => True

theorem PhiSwa.keep {g gP i k : Nat} {y1 y2 : Value} {nn E : Int} {X : LP} {B : Nat} : ∀ (w w' : World), RT B w w' → ∀ j x, PhiSwa g gP i k y1 y2 nn E X B j w x → PhiSwa g gP i k y1 y2 nn E X B j w' x := by
 intro w w' hr j x h; unfold PhiSwa at h ⊢
 split <;> simp only at h ⊢
 all_goals first
  | exact h
  | (obtain ⟨v, e, h⟩ := h; exact ⟨v, e, h.mapL hr.lim⟩)
  | (obtain ⟨A, k, c, A', k', c', e, h⟩ := h; exact ⟨A, k, c, A', k', c', e, h.mapL hr.lim⟩)
  | (obtain ⟨g, e, h1, h2⟩ := h; exact ⟨g, e, h1, hr.sl g h2⟩)
  | exact h.mapL hr.lim

def PhiSwb (g gP i k : Nat) (y1 y2 : Value) (nn E : Int) (X : LP) (B : Nat) (j : Nat) (w : World) (x : Value) : Prop :=
 match j with
 | 0 => x = .slice (some ⟨g, 0, none⟩) 7 7
 | 1 => x = .int .i64 (i : Nat)
 | 2 => x = .pointer (some ⟨g, i * 2, none⟩)
 | 3 => x = .agg #[y1, y2]
 | 4 => x = .slice (some ⟨gP, 0, none⟩) 6 6
 | 5 => x = .int .i64 (k : Nat)
 | 6 => x = .pointer (some ⟨gP, k, none⟩)
 | 7 => x = .int .i64 nn
 | 8 => ∃ v, x = .tuple #[v, .int .i64 E] ∧ RtP w v X
 | 9 => ∃ v, x = .tuple #[v, .int .i64 E] ∧ RtP w v X
 | 10 => ∃ A k c A' k' c', x = .agg #[.slice A k c, .slice A' k' c'] ∧ RtP w (.agg #[.slice A k c, .slice A' k' c']) X
 | 11 => x = .int .i64 E
 | 12 => ∃ g, x = .pointer (some ⟨g, 0, none⟩) ∧ B ≤ g ∧ Sl w g
 | 13 => True
 | 14 => x = .int .i64 E
 | _ => True

theorem PhiSwb.keep {g gP i k : Nat} {y1 y2 : Value} {nn E : Int} {X : LP} {B : Nat} : ∀ (w w' : World), RT B w w' → ∀ j x, PhiSwb g gP i k y1 y2 nn E X B j w x → PhiSwb g gP i k y1 y2 nn E X B j w' x := by
 intro w w' hr j x h; unfold PhiSwb at h ⊢
 split <;> simp only at h ⊢
 all_goals first
  | exact h
  | (obtain ⟨v, e, h⟩ := h; exact ⟨v, e, h.mapL hr.lim⟩)
  | (obtain ⟨A, k, c, A', k', c', e, h⟩ := h; exact ⟨A, k, c, A', k', c', e, h.mapL hr.lim⟩)
  | (obtain ⟨g, e, h1, h2⟩ := h; exact ⟨g, e, h1, hr.sl g h2⟩)
  | exact h.mapL hr.lim

set_option maxRecDepth 100000 in
set_option maxHeartbeats 16000000 in
theorem ratio_sums_n (A0 : Option Addr) (k0 c0 : Nat) (l0 : List Int) (A4 : Option Addr) (k4 c4 : Nat) (A5 : Option Addr) (k5 c5 : Nat) (l4 l5 : List Nat) (n m how by_ : Int) (w : World) (hr0 : RowL intC w A0 k0 l0) (HL0 : Hid (∀ x ∈ l0, -9223372036854775808 ≤ x ∧ x ≤ 9223372036854775807)) (hl4 : Lim w A4 c4 l4) (hk4 : k4 = l4.length) (hl5 : Lim w A5 c5 l5) (hk5 : k5 = l5.length) (hin : isI64 n) (him : isI64 m) (hih : isI64 how) (hib : isI64 by_) :
  Calls Tryd.prog 4 #[.slice A0 k0 c0, .int .i64 n, .int .i64 m, .int .i64 how, .int .i64 by_, .slice A4 k4 c4, .slice A5 k5 c5] w fun e w' => e = .returned (.bool true) ∧ Below w.heap.size w w' := by
 obtain ⟨iR, hiR, hzR, hzR1, hzR2⟩ := info_parts info_ratio; have HS := Lib.hid (some_n n m how by_ A4 k4 c4 A5 k5 c5 l4 l5 w hin him hih hib hl4 hk4 hl5 hk5); have HIH := Lib.hid hih; have HIB := Lib.hid hib; have hk0 := hr0.2.2; clear hl4 hk4 hl5 hk5 hin him hih hib
 go_enter Tryd.func4, Tryd.ntmps4
 go_wp2_with fail; refine HS.out.mono ?_; rintro e w1 ⟨gL, xs, rfl, hL, hxs, hbw⟩
 replace hr0 := hr0.below hbw
 clear HS; go_wp2_with fail
 go_loopg [16, 17] 12 (fun j v x wr => ∃ (i : Nat) (X : List LP), x = .int .i64 i ∧ i + j = 12 ∧ RatOwn wr w1.heap.size v X ∧ Hid (X.length = i) ∧ Below w1.heap.size w1 wr)
 case atStart => exact ⟨0, [], rfl, by omega, RatOwn.nil _ _, rfl, Below.refl _ _⟩
 case round =>
  obtain ⟨G, hG⟩ : ∃ G, G = gk := ⟨gk, rfl⟩; subst hG; obtain ⟨i, X, rfl, hij, hown, HXL, hbo⟩ := hrel; obtain ⟨wo, hwo⟩ : ∃ wo, wo = wr := ⟨_, rfl⟩; subst hwo; obtain ⟨P9, cp, rfl⟩ := hown.shp; rw [HXL.out] at hown ⊢; by_cases hgo : i < k0 ∧ i < 12
  ·obtain ⟨hik, hi12⟩ := hgo; have hikI : (i : Int) < (k0 : Int) := by omega
   have t1 : decide ((i : Int) < (k0 : Int)) = true := by simp; omega
   have t2 : decide ((i : Int) < 12) = true := by simp; omega
   obtain ⟨b0, o0, n0, rfl, hc0, HN0⟩ := (hr0.below hbo).int hik; have hn0 : isI64 n0 := HL0.out n0 (List.mem_of_getElem? HN0.out); obtain ⟨ni, hni⟩ : ∃ x, x = IntKind.i64.wrap (n + (i : Int)) := ⟨_, rfl⟩; have hni2 : isI64 ni := by rw [hni]; exact isI64_wrap _
   have tw := hni.symm; have HNI := Lib.hid hni2; have HN2 := Lib.hid hn0; have hX30 : X.length ≤ 1073741824 := by have := HXL.out; omega
   clear hni hni2 hn0 hikI; have hikI : (i : Int) < (k0 : Int) := by omega
   go_wp2_with fail; refine (rpart_b n0 ni _ HN2.out HNI.out).mono ?_; rintro e w4 ⟨E1, m1, c1, E2, m2, d2, pq, qq, rfl, hr4, _, _, hb4⟩; have hb5 := bA w4 (.cells #[.slice E1 m1 c1, .slice E2 m2 d2] 28); have hb45 := hb4.trans (hb5.mono hb4.size); have hown6 := hown.below hb45; have hr6 := hr4.below hb5; have hrd6 := Rd.newC w4 28 [.slice E1 m1 c1, .slice E2 m2 d2]; have hbx6 := hbo.trans (hb45.mono hbo.size); have hs6 := hbx6.size; clear hown hr4 hb5 hb45 hb4 hbo hc0 tw
   go_wp2_with (at_builtin; go_loud (refine wpList_push rfl (.tmp 48) (.tmp 57) rfl w1.heap.size _ X rfl hown6 (some ⟨w4.heap.size, 0, none⟩) 1 _ _ _ rfl hr6 hrd6 hX30 hs6 ?_); intro v7 w7 hown7 hg7 hat7 hkp7)
   have hbx7 := hbx6.grown hg7 hbx6.size (fun q hq => hown6.ge q hq); have HX7 : Hid ((X ++ [ratP pq qq]).length = i + 1) := by show _ = _; rw [List.length_append, HXL.out]; rfl
   clear hown6 hr6 hrd6 hbx6 hs6 hg7 hat7 hkp7; go_wp2_with fail
   go_roundg (G - 1)
   case measure => omega
   case rel => exact ⟨i + 1, _, by go_num, by omega, hown7, HX7, hbx7⟩
  ·go_upto_region 4 with fail
   go_cut [45] from 38 to 59 (fun t wz => t = .bool false ∧ wz = wo)
   case first => as_aux_lemma =>
    by_cases hik : i < k0
    ·have t1 : decide ((i : Int) < (k0 : Int)) = true := by simp; omega
     have t2 : decide ((i : Int) < 12) = false := by simp; omega
     go_wp2_with fail
     go_meet
     case rel => exact ⟨rfl, rfl⟩
    ·have t1 : decide ((i : Int) < (k0 : Int)) = false := by simp; omega
     go_wp2_with fail
     go_meet
     case rel => exact ⟨rfl, rfl⟩
   obtain ⟨rfl, hx⟩ := hcut; obtain rfl := hx.symm; clear hx hgo; have hXp : X.length ≤ 1073741824 := by have := HXL.out; omega
   have hkp : i ≤ 1048576 := by omega
   have hpr : RatRow wo P9 i X := hown.row (by have := HXL.out; omega); obtain ⟨kp, hkpe⟩ : ∃ k, k = i := ⟨_, rfl⟩; rw [← hkpe] at hpr hkp ⊢; obtain ⟨w7, hw7⟩ : ∃ z, z = wo := ⟨_, rfl⟩; rw [← hw7] at hpr hbo ⊢; have hl7 := hL.below hbo; have hls := hl7.take_ 2 (by omega); obtain ⟨z1, z2, y, c1, c2, hy⟩ := seven_at hl7 (i := 2) (by omega); obtain ⟨Z1, zk1, zc1, Z2, zk2, zc2, hsh⟩ := hy.shape; simp only [Value.agg.injEq, Array.mk.injEq, List.cons.injEq, and_true] at hsh; obtain ⟨rfl, rfl⟩ := hsh
   replace hbw := Below.tr hbw hbo
   obtain ⟨Xp, hXpe⟩ : ∃ X', X' = X := ⟨_, rfl⟩; rw [← hXpe] at hpr hXp; clear hown HXL hkpe hw7 hL hXpe; go_upto_region 7 with fail; refine region_invW (PhiS7 (.slice P9 kp cp) (.slice (some ⟨gL, 0, none⟩) 7 7) gL (.slice Z1 zk1 zc1) (.slice Z2 zk2 zc2)) (fun w w' => Below w7.heap.size w w') (S7 w7 Xp y) (by kernel_rfl) (by kernel_rfl) (by kernel_rfl) PhiS7.keep (S7.start _ _ _ _) (fun vs => by simp only [fillR, Act.put, sA, sB, sC, Nat.zero_add, Nat.reduceAdd]; rfl) ?_ ?_
   ·refine sK ?_ (sK ?_ (sK ?_ (sK ?_ (sK ?_ (sK ?_ (sK ?_ (sK ?_ (sK ?_ (sK ?_ (sK ?_ (sK ?_ (sK ?_ (sK ?_ (sZ))))))))))))))
    ·as_aux_lemma =>
     intro vs L W hS hL cl hdl hdep K hK; refine ⟨?_⟩; simp only [Act.put, sA, sB, sC, Nat.zero_add, Nat.reduceAdd] at hK ⊢; go_simp; with_reducible refine hK _ _ ((Below.refl _ _).mono hS.be.size) (hS.step (Below.refl _ _) 0 _ (by decide)) ?_
     exact rfl
    ·as_aux_lemma =>
     intro vs L W hS hL cl hdl hdep K hK; refine ⟨?_⟩; simp only [Act.put, sA, sB, sC, Nat.zero_add, Nat.reduceAdd] at hK ⊢; go_simp; with_reducible refine hK _ _ ((Below.refl _ _).mono hS.be.size) (hS.step (Below.refl _ _) 1 _ (by decide)) ?_
     exact rfl
    ·as_aux_lemma =>
     intro vs L W hS hL cl hdl hdep K hK; have d0 := hdep ⟨1, .data⟩ (by simp) rfl; simp only [PhiS7] at d0; refine ⟨?_⟩; simp only [Act.put, sA, sB, sC, Nat.zero_add, Nat.reduceAdd, d0] at hK ⊢; go_simp; with_reducible refine hK _ _ ((Below.refl _ _).mono hS.be.size) (hS.step (Below.refl _ _) 2 _ (by decide)) ?_
     exact rfl
    ·as_aux_lemma =>
     intro vs L W hS hL cl hdl hdep K hK; refine ⟨?_⟩; simp only [Act.put, sA, sB, sC, Nat.zero_add, Nat.reduceAdd] at hK ⊢; go_simp; with_reducible refine hK _ _ ((Below.refl _ _).mono hS.be.size) (hS.step (Below.refl _ _) 3 _ (by decide)) ?_
     exact rfl
    ·as_aux_lemma =>
     intro vs L W hS hL cl hdl hdep K hK
     have h6 : L 6 = false := by
      cases h : L 6 with
      | false => rfl
      | true => exact absurd (cl 6 _ rfl h ⟨4, .data⟩ (by simp) rfl) (by rw [hL]; decide)
     refine ⟨?_⟩; simp only [Act.put, sA, sB, sC, Nat.zero_add, Nat.reduceAdd] at hK ⊢; go_simp; with_reducible refine hK _ _ ((bA _ _).mono hS.be.size) (hS.st4 h6) ?_
     exact trivial
    ·as_aux_lemma =>
     intro vs L W hS hL cl hdl hdep K hK; refine ⟨?_⟩; simp only [Act.put, sA, sB, sC, Nat.zero_add, Nat.reduceAdd] at hK ⊢; go_simp; with_reducible refine hK _ _ ((Below.refl _ _).mono hS.be.size) (hS.step (Below.refl _ _) 5 _ (by decide)) ?_
     exact rfl
    ·as_aux_lemma =>
     intro vs L W hS hL cl hdl hdep K hK; have d0 := hdep ⟨5, .data⟩ (by simp) rfl; simp only [PhiS7] at d0
     have h11 : L 11 = false := by
      cases h : L 11 with
      | false => rfl
      | true => exact absurd (cl 11 _ rfl h ⟨6, .data⟩ (by simp) rfl) (by rw [hL]; decide)
     have h12 : L 12 = false := by
      cases h : L 12 with
      | false => rfl
      | true => exact absurd (cl 11 _ rfl (cl 12 _ rfl h ⟨11, .data⟩ (by simp) rfl) ⟨6, .data⟩ (by simp) rfl) (by rw [hL]; decide)
     have h13 : L 13 = false := by
      cases h : L 13 with
      | false => rfl
      | true => exact absurd (cl 11 _ rfl (cl 12 _ rfl (cl 13 _ rfl h ⟨12, .data⟩ (by simp) rfl) ⟨11, .data⟩ (by simp) rfl) ⟨6, .data⟩ (by simp) rfl) (by rw [hL]; decide)
     have y4 : L 4 = true := hdl ⟨4, .data⟩ (by simp) rfl; refine ⟨?_⟩; simp only [Act.put, sA, sB, sC, Nat.zero_add, Nat.reduceAdd, d0] at hK ⊢; rw [if_pos (by rfl)]; refine wp_pushRow (.tmp 63) (.tmp 64) rfl w7.heap.size _ rfl (hS.s4 y4 hL) _ kp cp Xp rfl (hpr.below hS.be) hkp hS.be.size ?_; intro v' w' g1 g2 g3 g4; have hST := Lib.hid (hS.st6 y4 hL h11 h12 h13 g1 g2 g3 g4); simp only [Act.put, sA, sB, sC]; with_reducible refine hK _ _ hST.out.1 hST.out.2 ?_
     exact trivial
    ·as_aux_lemma =>
     intro vs L W hS hL cl hdl hdep K hK; refine ⟨?_⟩; simp only [Act.put, sA, sB, sC, Nat.zero_add, Nat.reduceAdd] at hK ⊢; go_simp; with_reducible refine hK _ _ ((Below.refl _ _).mono hS.be.size) (hS.step (Below.refl _ _) 7 _ (by decide)) ?_
     exact rfl
    ·as_aux_lemma =>
     intro vs L W hS hL cl hdl hdep K hK; have d0 := hdep ⟨7, .data⟩ (by simp) rfl; simp only [PhiS7] at d0; refine ⟨?_⟩; simp only [Act.put, sA, sB, sC, Nat.zero_add, Nat.reduceAdd, d0] at hK ⊢; go_simp; with_reducible refine hK _ _ ((Below.refl _ _).mono hS.be.size) (hS.step (Below.refl _ _) 8 _ (by decide)) ?_
     exact rfl
    ·as_aux_lemma =>
     intro vs L W hS hL cl hdl hdep K hK; have d0 := hdep ⟨8, .data⟩ (by simp) rfl; simp only [PhiS7] at d0; have f1 := cell_keep hS.be c1; have f2 := cell_keep hS.be c2; refine ⟨?_⟩; simp only [Act.put, sA, sB, sC, Nat.zero_add, Nat.reduceAdd, d0] at hK ⊢; go_simp; with_reducible refine hK _ _ ((Below.refl _ _).mono hS.be.size) (hS.step (Below.refl _ _) 9 _ (by decide)) ?_
     exact rfl
    ·as_aux_lemma =>
     intro vs L W hS hL cl hdl hdep K hK; have d0 := hdep ⟨9, .data⟩ (by simp) rfl; simp only [PhiS7] at d0
     have h11 : L 11 = false := by
      cases h : L 11 with
      | false => rfl
      | true => exact absurd (cl 11 _ rfl h ⟨10, .data⟩ (by simp) rfl) (by rw [hL]; decide)
     refine ⟨?_⟩; simp only [Act.put, sA, sB, sC, Nat.zero_add, Nat.reduceAdd, d0] at hK ⊢; go_simp; with_reducible refine hK _ _ ((bA _ _).mono hS.be.size) (hS.st10 h11 (hy.below hS.be)) ?_
     exact trivial
    ·as_aux_lemma =>
     intro vs L W hS hL cl hdl hdep K hK; have y6 : L 6 = true := hdl ⟨6, .data⟩ (by simp) rfl; have y10 : L 10 = true := hdl ⟨10, .data⟩ (by simp) rfl
     have h12 : L 12 = false := by
      cases h : L 12 with
      | false => rfl
      | true => exact absurd (cl 12 _ rfl h ⟨11, .data⟩ (by simp) rfl) (by rw [hL]; decide)
     have h13 : L 13 = false := by
      cases h : L 13 with
      | false => rfl
      | true => exact absurd (cl 12 _ rfl (cl 13 _ rfl h ⟨12, .data⟩ (by simp) rfl) ⟨11, .data⟩ (by simp) rfl) (by rw [hL]; decide)
     obtain ⟨g0, u1, u2, e10, hgl, hrd, hry, _, hn6⟩ := hS.s10 y10 hL; refine ⟨?_⟩; simp only [Act.put, sA, sB, sC, Nat.zero_add, Nat.reduceAdd, e10] at hK ⊢; rw [if_pos (by rfl)]; refine wp_push (.tmp 65) (.tmp 69) rfl w7.heap.size _ Xp rfl (hS.s6 y6 hL) (some ⟨g0, 0, none⟩) 1 u1 u2 y rfl hry hrd hXp hS.be.size ?_; intro v' w' g1 g2 g3 g4; have hST := Lib.hid (hS.st11 y6 hL h12 h13 g1 g2); simp only [Act.put, sA, sB, sC]; with_reducible refine hK _ _ hST.out.1 hST.out.2 ?_
     exact trivial
    ·as_aux_lemma =>
     intro vs L W hS hL cl hdl hdep K hK; have d0 := hdep ⟨0, .data⟩ (by simp) rfl; simp only [PhiS7] at d0; have d1 := hdep ⟨2, .data⟩ (by simp) rfl; simp only [PhiS7] at d1; have d2 := hdep ⟨3, .data⟩ (by simp) rfl; simp only [PhiS7] at d2; have y11 : L 11 = true := hdl ⟨11, .data⟩ (by simp) rfl; have ho11 := hS.s11 y11; obtain ⟨A11, c11, e11⟩ := ho11.shp; rw [e11] at ho11; obtain ⟨n11, HN11⟩ : ∃ n, Hid (n = (Xp ++ [y]).length) := ⟨_, rfl⟩; rw [← HN11.out] at e11 ho11; have hr11 := ho11.row (by rw [List.length_append, List.length_singleton]; omega); have hbA := bA W (.cells #[.slice P9 kp cp, .slice (some ⟨gL, 0, none⟩) 2 7, .slice (some ⟨gL, 0, none⟩) 7 7, .slice A11 n11 c11, .slice none 0 0] 23); have hR5 := Lib.hid (rows5_new 23 (hpr.below hS.be) (hls.below hS.be) (hl7.below hS.be) hr11 (c1 := cp) (c2 := 7) (c3 := 7) (c4 := c11)); refine ⟨?_⟩; simp only [Act.put, sA, sB, sC, Nat.zero_add, Nat.reduceAdd, d0, d1, d2, e11] at hK ⊢; clear e11 ho11 hr11; go_simp; with_reducible refine hK _ _ (hbA.mono hS.be.size) (hS.st12 hbA hR5.out) ?_
     exact trivial
    ·as_aux_lemma =>
     intro vs L W hS hL cl hdl hdep K hK; have y12 : L 12 = true := hdl ⟨12, .data⟩ (by simp) rfl; have h12' := hS.s12 y12; have HV := Lib.hid h12'; refine ⟨?_⟩; simp only [Act.put, sA, sB, sC, Nat.zero_add, Nat.reduceAdd] at hK ⊢; go_simp; with_reducible refine hK _ _ (Below.refl _ _) (hS.st13 HV.out) ?_
     exact trivial
   intro vs L w8 hS hall hv; obtain ⟨g5, e13, HROW⟩ := hS.s13 (hall 13 (by simp)); have HR5 := Lib.hid HROW; have hb8 := hS.be
   replace hl7 := hl7.below hb8
   replace hbw := Below.tr hbw hb8
   simp only [Act.put, sA, sB, sC, Nat.zero_add, Nat.reduceAdd, e13]; clear hv hS hall hpr hls c1 c2 hy e13 hb8 hbo hij; go_wp2_with fail
   go_loopg [19] 5 (fun j x wr => ∃ i : Nat, x = .int .i64 i ∧ i + j = 5 ∧ Below w8.heap.size w8 wr)
   case atStart => exact ⟨0, rfl, by omega, Below.refl _ _⟩
   case round =>
    obtain ⟨G, hG⟩ : ∃ G, G = gk := ⟨gk, rfl⟩; subst hG; obtain ⟨i, rfl, hij, hbq⟩ := hrel; obtain ⟨wq, hwq⟩ : ∃ wo, wo = wr := ⟨_, rfl⟩; subst hwq; by_cases hi : i < 5
    ·have t1 : decide ((i : Int) < 5) = true := by simp; omega
     have hi5 : (i : Int) < 5 := by omega
     obtain ⟨Aq, kq, cq, X, hcl0, hrw0⟩ := HR5.out i hi; have hcl := cell_keep hbq hcl0; have hrw := hrw0.below hbq; clear hcl0 hrw0; obtain ⟨Es, HEs⟩ : ∃ E, Hid ((sumF nilP X).1 = E) := ⟨_, rfl⟩; obtain ⟨Ys, HYs⟩ : ∃ Y, Hid ((sumF nilP X).2 = Y) := ⟨_, rfl⟩; go_wp2_with fail; refine (sum_sh _ _ _ X _ hrw Es Ys HEs HYs).mono ?_; rintro e w41 ⟨Szs, kzs, czs, Rzs, mzs, dzs, rfl, hzs, hb⟩
     replace hcl := cell_keep hb hcl
     replace hrw := hrw.below hb
     replace hbq := Below.tr hbq hb
     clear hb; go_upto_region 12 with fail; refine wp_name ?_; intro w42 HW; have hb : Below w41.heap.size w41 w42 := by rw [HW.out]; exact bA _ _
     have hB : Blk w42 w41.heap.size 28 #[.slice Szs kzs czs, .slice Rzs mzs dzs] := by rw [HW.out]; exact Blk.new _ _ _
     obtain ⟨zs, hg⟩ : ∃ g, Hid (g = w41.heap.size) := ⟨_, rfl⟩; rw [← hg.out] at hB ⊢
     replace hcl := cell_keep hb hcl
     replace hrw := hrw.below hb
     replace hbq := Below.tr hbq hb
     replace hzs := hzs.below hb
     have zs0 := hB.cell 0; have zs1 := hB.cell 1; simp only [List.getElem?_toArray, List.getElem?_cons_zero, List.getElem?_cons_succ] at zs0 zs1; clear HW hB hg hb; go_wp2_with fail; refine (rsum_sh _ _ _ X _ hrw Es Ys HEs HYs).mono ?_; rintro e w43 ⟨Szr, kzr, czr, Rzr, mzr, dzr, rfl, hzr, hb⟩
     replace zs0 := cell_keep hb zs0
     replace zs1 := cell_keep hb zs1
     replace hzs := hzs.below hb
     replace hcl := cell_keep hb hcl
     replace hrw := hrw.below hb
     replace hbq := Below.tr hbq hb
     clear hb; go_upto_region 13 with fail; refine wp_name ?_; intro w44 HW; have hb : Below w43.heap.size w43 w44 := by rw [HW.out]; exact bA _ _
     have hB : Blk w44 w43.heap.size 28 #[.slice Szr kzr czr, .slice Rzr mzr dzr] := by rw [HW.out]; exact Blk.new _ _ _
     obtain ⟨zr, hg⟩ : ∃ g, Hid (g = w43.heap.size) := ⟨_, rfl⟩; rw [← hg.out] at hB ⊢
     replace zs0 := cell_keep hb zs0
     replace zs1 := cell_keep hb zs1
     replace hzs := hzs.below hb
     replace hcl := cell_keep hb hcl
     replace hrw := hrw.below hb
     replace hbq := Below.tr hbq hb
     replace hzr := hzr.below hb
     have zr0 := hB.cell 0; have zr1 := hB.cell 1; simp only [List.getElem?_toArray, List.getElem?_cons_zero, List.getElem?_cons_succ] at zr0 zr1; clear HW hB hg hb; have tE : (Es != Es) = false := by simp
     go_wp2_with fail; refine (rsame_P _ _ _ _ hzs hzr).mono ?_; rintro e w45 ⟨rfl, hb⟩
     replace zs0 := cell_keep hb zs0
     replace zs1 := cell_keep hb zs1
     replace hzs := hzs.below hb
     replace zr0 := cell_keep hb zr0
     replace zr1 := cell_keep hb zr1
     replace hzr := hzr.below hb
     replace hcl := cell_keep hb hcl
     replace hrw := hrw.below hb
     replace hbq := Below.tr hbq hb
     clear hb; go_wp2_with fail
     go_roundg (G - 1)
     case measure => omega
     case rel => exact ⟨i + 1, by go_num, by omega, hbq⟩
    ·have t1 : decide ((i : Int) < 5) = false := by simp; omega
     replace hl7 := hl7.below hbq
     replace hbw := Below.tr hbw hbq
     clear HR5 hij; go_wp2_with fail; refine (around_n how 20 _ HIH.out.1 HIH.out.2 (by omega) (by omega)).mono ?_; rintro e w' ⟨zz1, rfl, _, _, rfl⟩; go_wp2_with fail; refine (around_n by_ 3 _ HIB.out.1 HIB.out.2 (by omega) (by omega)).mono ?_; rintro e w' ⟨zz2, rfl, _, _, rfl⟩; go_upto_region 16 with fail; refine wp_name ?_; intro w9 HW; have hb9 : Below wq.heap.size wq w9 := by rw [HW.out]; exact bA _ _
     have hP6 : Ints6 w9 (.slice (some ⟨wq.heap.size, 0, none⟩) 6 6) := by rw [HW.out]; exact ints6_new _ _ _ _ _ _ _ _
     obtain ⟨gP, e6, HP6⟩ := hP6; simp only [Value.slice.injEq, Option.some.injEq, Addr.mk.injEq, and_true] at e6; rw [e6]; have HPP := Lib.hid HP6
     replace hl7 := hl7.below hb9
     replace hbw := Below.tr hbw hb9
     clear HW HP6 e6 hb9 hbq t1 hi; go_wp2_with fail
     go_loopg [25] 7 (fun j x wr => ∃ i : Nat, x = .int .i64 i ∧ i + j = 7 ∧ Below w9.heap.size w9 wr)
     case atStart => exact ⟨0, rfl, by omega, Below.refl _ _⟩
     case round =>
      obtain ⟨G, hG⟩ : ∃ G, G = gk := ⟨gk, rfl⟩; subst hG; obtain ⟨i, rfl, hij, hbo⟩ := hrel; obtain ⟨wo, hwo⟩ : ∃ wo, wo = wr := ⟨_, rfl⟩; subst hwo; by_cases hi : i < 7
      ·have t1 : decide ((i : Int) < 7) = true := by simp; omega
       have hi7 : (i : Int) < 7 := by omega
       go_wp2_with fail
       go_loopg [26] 6 (fun j x wr => ∃ k : Nat, x = .int .i64 k ∧ k + j = 6 ∧ Below w9.heap.size w9 wr)
       case atStart => exact ⟨0, rfl, by omega, hbo⟩
       case round =>
        obtain ⟨G2, hG2⟩ : ∃ G, G = gk := ⟨gk, rfl⟩; subst hG2; obtain ⟨k, rfl, hkj, hbx⟩ := hrel; obtain ⟨wp, hwp⟩ : ∃ wo, wo = wr := ⟨_, rfl⟩; subst hwp; by_cases hk : k < 6
        ·have t2 : decide ((k : Int) < 6) = true := by simp; omega
         have hk6 : (k : Int) < 6 := by omega
         obtain ⟨y1, y2, xa, G1, G2', hXA⟩ := seven_at hl7 hi; obtain ⟨nn, HPC⟩ := HPP.out k hk; have g1 := cell_keep hbx G1; have g2 := cell_keep hbx G2'; have p1 := cell_keep hbx HPC; have hxa := hXA.below hbx; clear G1 G2' HPC hXA; go_upto_region 22 with fail; refine region_invW (PhiSwa gL gP i k y1 y2 nn (powF xa nn).1 (powF xa nn).2 wp.heap.size) (RT wp.heap.size) (SD wp 10 12 13) (by kernel_rfl) (by kernel_rfl) (by kernel_rfl) PhiSwa.keep (SD.start _ _ _ _ _) (fun vs => by simp only [fillR, Act.put, sA, sB, sC, Nat.zero_add, Nat.reduceAdd]; rfl) ?_ ?_
         ·refine sK ?_ (sK ?_ (sK ?_ (sK ?_ (sK ?_ (sK ?_ (sK ?_ (sK ?_ (sK ?_ (sK ?_ (sK ?_ (sK ?_ (sK ?_ (sK ?_ (sK ?_ (sZ)))))))))))))))
          ·as_aux_lemma =>
           intro vs L W hS hL cl hdl hdep K hK; refine ⟨?_⟩; simp only [Act.put, sA, sB, sC, Nat.zero_add, Nat.reduceAdd] at hK ⊢; go_simp; with_reducible refine hK _ _ (RT.refl _ _) (hS.step (Below.refl _ _) 0 _ (by decide) (fun e => absurd e (by decide))) ?_
           exact rfl
          ·as_aux_lemma =>
           intro vs L W hS hL cl hdl hdep K hK; refine ⟨?_⟩; simp only [Act.put, sA, sB, sC, Nat.zero_add, Nat.reduceAdd] at hK ⊢; go_simp; with_reducible refine hK _ _ (RT.refl _ _) (hS.step (Below.refl _ _) 1 _ (by decide) (fun e => absurd e (by decide))) ?_
           exact rfl
          ·as_aux_lemma =>
           intro vs L W hS hL cl hdl hdep K hK; have d0 := hdep ⟨0, .data⟩ (by simp) rfl; simp only [PhiSwa] at d0; have d1 := hdep ⟨1, .data⟩ (by simp) rfl; simp only [PhiSwa] at d1; refine ⟨?_⟩; simp only [Act.put, sA, sB, sC, Nat.zero_add, Nat.reduceAdd, d0, d1] at hK ⊢; go_simp; with_reducible refine hK _ _ (RT.refl _ _) (hS.step (Below.refl _ _) 2 _ (by decide) (fun e => absurd e (by decide))) ?_
           exact rfl
          ·as_aux_lemma =>
           intro vs L W hS hL cl hdl hdep K hK; have d0 := hdep ⟨2, .data⟩ (by simp) rfl; simp only [PhiSwa] at d0; have f1 := cell_keep hS.be g1; have f2 := cell_keep hS.be g2; refine ⟨?_⟩; simp only [Act.put, sA, sB, sC, Nat.zero_add, Nat.reduceAdd, d0] at hK ⊢; go_simp; with_reducible refine hK _ _ (RT.refl _ _) (hS.step (Below.refl _ _) 3 _ (by decide) (fun e => absurd e (by decide))) ?_
           exact rfl
          ·as_aux_lemma =>
           intro vs L W hS hL cl hdl hdep K hK; refine ⟨?_⟩; simp only [Act.put, sA, sB, sC, Nat.zero_add, Nat.reduceAdd] at hK ⊢; go_simp; with_reducible refine hK _ _ (RT.refl _ _) (hS.step (Below.refl _ _) 4 _ (by decide) (fun e => absurd e (by decide))) ?_
           exact rfl
          ·as_aux_lemma =>
           intro vs L W hS hL cl hdl hdep K hK; refine ⟨?_⟩; simp only [Act.put, sA, sB, sC, Nat.zero_add, Nat.reduceAdd] at hK ⊢; go_simp; with_reducible refine hK _ _ (RT.refl _ _) (hS.step (Below.refl _ _) 5 _ (by decide) (fun e => absurd e (by decide))) ?_
           exact rfl
          ·as_aux_lemma =>
           intro vs L W hS hL cl hdl hdep K hK; have d0 := hdep ⟨4, .data⟩ (by simp) rfl; simp only [PhiSwa] at d0; have d1 := hdep ⟨5, .data⟩ (by simp) rfl; simp only [PhiSwa] at d1; refine ⟨?_⟩; simp only [Act.put, sA, sB, sC, Nat.zero_add, Nat.reduceAdd, d0, d1] at hK ⊢; go_simp; with_reducible refine hK _ _ (RT.refl _ _) (hS.step (Below.refl _ _) 6 _ (by decide) (fun e => absurd e (by decide))) ?_
           exact rfl
          ·as_aux_lemma =>
           intro vs L W hS hL cl hdl hdep K hK; have d0 := hdep ⟨6, .data⟩ (by simp) rfl; simp only [PhiSwa] at d0; have f1 := cell_keep hS.be p1; refine ⟨?_⟩; simp only [Act.put, sA, sB, sC, Nat.zero_add, Nat.reduceAdd, d0] at hK ⊢; go_simp; with_reducible refine hK _ _ (RT.refl _ _) (hS.step (Below.refl _ _) 7 _ (by decide) (fun e => absurd e (by decide))) ?_
           exact rfl
          ·as_aux_lemma =>
           intro vs L W hS hL cl hdl hdep K hK; have d0 := hdep ⟨3, .data⟩ (by simp) rfl; simp only [PhiSwa] at d0; have d1 := hdep ⟨7, .data⟩ (by simp) rfl; simp only [PhiSwa] at d1; refine ⟨?_⟩; simp only [Act.put, sA, sB, sC, Nat.zero_add, Nat.reduceAdd, d0, d1] at hK ⊢; go_simp; refine (power_F _ xa nn _ (hxa.below hS.be)).mono ?_; rintro e w' ⟨v, rfl, hn, hb⟩; go_wp2_with fail; with_reducible refine hK _ _ (RT.below hb hS.be.size) (hS.step hb 8 _ (by decide) (fun e => absurd e (by decide))) ?_
           exact ⟨v, rfl, hn⟩
          ·as_aux_lemma =>
           intro vs L W hS hL cl hdl hdep K hK; have d0 := hdep ⟨8, .data⟩ (by simp) rfl; simp only [PhiSwa] at d0; refine @exE1 _ _ _ d0 ?_; clear d0; intro v0 d0; have e0 := d0.1; have n0 := d0.2; clear d0; refine ⟨?_⟩; simp only [Act.put, sA, sB, sC, Nat.zero_add, Nat.reduceAdd, e0] at hK ⊢; go_simp; with_reducible refine hK _ _ (RT.refl _ _) (hS.step (Below.refl _ _) 9 _ (by decide) (fun e => absurd e (by decide))) ?_
           exact ⟨_, rfl, n0⟩
          ·as_aux_lemma =>
           intro vs L W hS hL cl hdl hdep K hK; have d0 := hdep ⟨9, .data⟩ (by simp) rfl; simp only [PhiSwa] at d0; refine @exE1 _ _ _ d0 ?_; clear d0; intro v0 d0; have e0 := d0.1; have n0 := d0.2; clear d0
           have h13 : L 13 = false := by
            cases h : L 13 with
            | false => rfl
            | true => exact absurd (cl 13 _ rfl h ⟨10, .data⟩ (by simp) rfl) (by rw [hL]; decide)
           obtain ⟨A, k, c, A', k', c', rfl⟩ := n0.shape; refine ⟨?_⟩; simp only [Act.put, sA, sB, sC, Nat.zero_add, Nat.reduceAdd, e0] at hK ⊢; go_simp; with_reducible refine hK _ _ (RT.refl _ _) (hS.step (Below.refl _ _) 10 _ (by decide) (fun _ => h13)) ?_
           exact ⟨_, _, _, _, _, _, rfl, n0⟩
          ·as_aux_lemma =>
           intro vs L W hS hL cl hdl hdep K hK; have d0 := hdep ⟨9, .data⟩ (by simp) rfl; simp only [PhiSwa] at d0; refine @exE1 _ _ _ d0 ?_; clear d0; intro v0 d0; have e0 := d0.1; have n0 := d0.2; clear d0; refine ⟨?_⟩; simp only [Act.put, sA, sB, sC, Nat.zero_add, Nat.reduceAdd, e0] at hK ⊢; go_simp; with_reducible refine hK _ _ (RT.refl _ _) (hS.step (Below.refl _ _) 11 _ (by decide) (fun e => absurd e (by decide))) ?_
           exact rfl
          ·as_aux_lemma =>
           intro vs L W hS hL cl hdl hdep K hK
           have h13 : L 13 = false := by
            cases h : L 13 with
            | false => rfl
            | true => exact absurd (cl 13 _ rfl h ⟨12, .data⟩ (by simp) rfl) (by rw [hL]; decide)
           refine ⟨?_⟩; simp only [Act.put, sA, sB, sC, Nat.zero_add, Nat.reduceAdd] at hK ⊢; go_simp; with_reducible refine hK _ _ (RT.below (bA _ _) hS.be.size) (hS.step (bA _ _) 12 _ (by decide) (fun _ => h13)) ?_
           exact ⟨_, rfl, hS.be.size, none, 0, 0, none, 0, 0, Blk.new _ _ _⟩
          ·as_aux_lemma =>
           intro vs L W hS hL cl hdl hdep K hK; have d0 := hdep ⟨12, .data⟩ (by simp) rfl; simp only [PhiSwa] at d0; refine @exE1 _ _ _ d0 ?_; clear d0; intro g0 d0; have e0 := d0.1; have l0 := d0.2.1; have s0 := d0.2.2; clear d0; have d1 := hdep ⟨10, .data⟩ (by simp) rfl; simp only [PhiSwa] at d1; refine @exE6 _ _ _ _ _ _ _ _ d1 ?_; clear d1; intro A1 k1 c1 B1 m1 d1 d1; have e1 := d1.1; have n1 := d1.2; clear d1; obtain ⟨⟨a1, q1⟩, ⟨a2, q2⟩, q3, q4⟩ := s0.facts; refine ⟨?_⟩; simp only [Act.put, sA, sB, sC, Nat.zero_add, Nat.reduceAdd, e0, e1] at hK ⊢; go_simp; with_reducible refine hK undef _ (RT.store s0 l0 _ _ _ _ _ _) (hS.stored e0 e1 l0 s0 (by decide) (by decide) _) ?_
           exact trivial
          ·as_aux_lemma =>
           intro vs L W hS hL cl hdl hdep K hK; have d0 := hdep ⟨11, .data⟩ (by simp) rfl; simp only [PhiSwa] at d0; refine ⟨?_⟩; simp only [Act.put, sA, sB, sC, Nat.zero_add, Nat.reduceAdd, d0] at hK ⊢; go_simp; with_reducible refine hK _ _ (RT.refl _ _) (hS.step (Below.refl _ _) 14 _ (by decide) (fun e => absurd e (by decide))) ?_
           exact rfl
         ·intro vs L wA hS hall hv; have v14 := hv 14 (by simp); have v8 := hv 10 (by simp); simp only [PhiSwa] at v14 v8; obtain ⟨_, _, _, _, _, _, e8', ho⟩ := v8; obtain ⟨ga, A9a, k9a, c9a, B9a, m9a, d9a, e10, e8, hgN, hblk⟩ := hS.st (hall 13 (by simp)); rw [e8] at e8'; rw [← e8'] at ho; have HOa := Lib.hid ho; have hbe9 := hS.be; clear hv hS hall e8' ho; simp only [Act.put, sA, sB, sC, Nat.zero_add, Nat.reduceAdd, v14, e10, e8]; have hra := HOa.out; have F0 := hblk.cell 0; have F1 := hblk.cell 1; simp only [List.getElem?_toArray, List.getElem?_cons_zero, List.getElem?_cons_succ] at F0 F1
          replace g1 := cell_keep hbe9 g1
          replace g2 := cell_keep hbe9 g2
          replace p1 := cell_keep hbe9 p1
          replace hxa := hxa.below hbe9
          have hbp4 := Below.tr hbx hbe9; clear HOa hblk hgN hbe9; go_upto_region 23 with fail; refine region_invW (PhiSwb gL gP i k y1 y2 nn (powF xa nn).1 (powF xa nn).2 wA.heap.size) (RT wA.heap.size) (SD wA 10 12 13) (by kernel_rfl) (by kernel_rfl) (by kernel_rfl) PhiSwb.keep (SD.start _ _ _ _ _) (fun vs => by simp only [fillR, Act.put, sA, sB, sC, Nat.zero_add, Nat.reduceAdd]; rfl) ?_ ?_
          ·refine sK ?_ (sK ?_ (sK ?_ (sK ?_ (sK ?_ (sK ?_ (sK ?_ (sK ?_ (sK ?_ (sK ?_ (sK ?_ (sK ?_ (sK ?_ (sK ?_ (sK ?_ (sZ)))))))))))))))
           ·as_aux_lemma =>
            intro vs L W hS hL cl hdl hdep K hK; refine ⟨?_⟩; simp only [Act.put, sA, sB, sC, Nat.zero_add, Nat.reduceAdd] at hK ⊢; go_simp; with_reducible refine hK _ _ (RT.refl _ _) (hS.step (Below.refl _ _) 0 _ (by decide) (fun e => absurd e (by decide))) ?_
            exact rfl
           ·as_aux_lemma =>
            intro vs L W hS hL cl hdl hdep K hK; refine ⟨?_⟩; simp only [Act.put, sA, sB, sC, Nat.zero_add, Nat.reduceAdd] at hK ⊢; go_simp; with_reducible refine hK _ _ (RT.refl _ _) (hS.step (Below.refl _ _) 1 _ (by decide) (fun e => absurd e (by decide))) ?_
            exact rfl
           ·as_aux_lemma =>
            intro vs L W hS hL cl hdl hdep K hK; have d0 := hdep ⟨0, .data⟩ (by simp) rfl; simp only [PhiSwb] at d0; have d1 := hdep ⟨1, .data⟩ (by simp) rfl; simp only [PhiSwb] at d1; refine ⟨?_⟩; simp only [Act.put, sA, sB, sC, Nat.zero_add, Nat.reduceAdd, d0, d1] at hK ⊢; go_simp; with_reducible refine hK _ _ (RT.refl _ _) (hS.step (Below.refl _ _) 2 _ (by decide) (fun e => absurd e (by decide))) ?_
            exact rfl
           ·as_aux_lemma =>
            intro vs L W hS hL cl hdl hdep K hK; have d0 := hdep ⟨2, .data⟩ (by simp) rfl; simp only [PhiSwb] at d0; have f1 := cell_keep hS.be g1; have f2 := cell_keep hS.be g2; refine ⟨?_⟩; simp only [Act.put, sA, sB, sC, Nat.zero_add, Nat.reduceAdd, d0] at hK ⊢; go_simp; with_reducible refine hK _ _ (RT.refl _ _) (hS.step (Below.refl _ _) 3 _ (by decide) (fun e => absurd e (by decide))) ?_
            exact rfl
           ·as_aux_lemma =>
            intro vs L W hS hL cl hdl hdep K hK; refine ⟨?_⟩; simp only [Act.put, sA, sB, sC, Nat.zero_add, Nat.reduceAdd] at hK ⊢; go_simp; with_reducible refine hK _ _ (RT.refl _ _) (hS.step (Below.refl _ _) 4 _ (by decide) (fun e => absurd e (by decide))) ?_
            exact rfl
           ·as_aux_lemma =>
            intro vs L W hS hL cl hdl hdep K hK; refine ⟨?_⟩; simp only [Act.put, sA, sB, sC, Nat.zero_add, Nat.reduceAdd] at hK ⊢; go_simp; with_reducible refine hK _ _ (RT.refl _ _) (hS.step (Below.refl _ _) 5 _ (by decide) (fun e => absurd e (by decide))) ?_
            exact rfl
           ·as_aux_lemma =>
            intro vs L W hS hL cl hdl hdep K hK; have d0 := hdep ⟨4, .data⟩ (by simp) rfl; simp only [PhiSwb] at d0; have d1 := hdep ⟨5, .data⟩ (by simp) rfl; simp only [PhiSwb] at d1; refine ⟨?_⟩; simp only [Act.put, sA, sB, sC, Nat.zero_add, Nat.reduceAdd, d0, d1] at hK ⊢; go_simp; with_reducible refine hK _ _ (RT.refl _ _) (hS.step (Below.refl _ _) 6 _ (by decide) (fun e => absurd e (by decide))) ?_
            exact rfl
           ·as_aux_lemma =>
            intro vs L W hS hL cl hdl hdep K hK; have d0 := hdep ⟨6, .data⟩ (by simp) rfl; simp only [PhiSwb] at d0; have f1 := cell_keep hS.be p1; refine ⟨?_⟩; simp only [Act.put, sA, sB, sC, Nat.zero_add, Nat.reduceAdd, d0] at hK ⊢; go_simp; with_reducible refine hK _ _ (RT.refl _ _) (hS.step (Below.refl _ _) 7 _ (by decide) (fun e => absurd e (by decide))) ?_
            exact rfl
           ·as_aux_lemma =>
            intro vs L W hS hL cl hdl hdep K hK; have d0 := hdep ⟨3, .data⟩ (by simp) rfl; simp only [PhiSwb] at d0; have d1 := hdep ⟨7, .data⟩ (by simp) rfl; simp only [PhiSwb] at d1; refine ⟨?_⟩; simp only [Act.put, sA, sB, sC, Nat.zero_add, Nat.reduceAdd, d0, d1] at hK ⊢; go_simp; refine (rpower_F _ xa nn _ (hxa.below hS.be)).mono ?_; rintro e w' ⟨v, rfl, hn, hb⟩; go_wp2_with fail; with_reducible refine hK _ _ (RT.below hb hS.be.size) (hS.step hb 8 _ (by decide) (fun e => absurd e (by decide))) ?_
            exact ⟨v, rfl, hn⟩
           ·as_aux_lemma =>
            intro vs L W hS hL cl hdl hdep K hK; have d0 := hdep ⟨8, .data⟩ (by simp) rfl; simp only [PhiSwb] at d0; refine @exE1 _ _ _ d0 ?_; clear d0; intro v0 d0; have e0 := d0.1; have n0 := d0.2; clear d0; refine ⟨?_⟩; simp only [Act.put, sA, sB, sC, Nat.zero_add, Nat.reduceAdd, e0] at hK ⊢; go_simp; with_reducible refine hK _ _ (RT.refl _ _) (hS.step (Below.refl _ _) 9 _ (by decide) (fun e => absurd e (by decide))) ?_
            exact ⟨_, rfl, n0⟩
           ·as_aux_lemma =>
            intro vs L W hS hL cl hdl hdep K hK; have d0 := hdep ⟨9, .data⟩ (by simp) rfl; simp only [PhiSwb] at d0; refine @exE1 _ _ _ d0 ?_; clear d0; intro v0 d0; have e0 := d0.1; have n0 := d0.2; clear d0
            have h13 : L 13 = false := by
             cases h : L 13 with
             | false => rfl
             | true => exact absurd (cl 13 _ rfl h ⟨10, .data⟩ (by simp) rfl) (by rw [hL]; decide)
            obtain ⟨A, k, c, A', k', c', rfl⟩ := n0.shape; refine ⟨?_⟩; simp only [Act.put, sA, sB, sC, Nat.zero_add, Nat.reduceAdd, e0] at hK ⊢; go_simp; with_reducible refine hK _ _ (RT.refl _ _) (hS.step (Below.refl _ _) 10 _ (by decide) (fun _ => h13)) ?_
            exact ⟨_, _, _, _, _, _, rfl, n0⟩
           ·as_aux_lemma =>
            intro vs L W hS hL cl hdl hdep K hK; have d0 := hdep ⟨9, .data⟩ (by simp) rfl; simp only [PhiSwb] at d0; refine @exE1 _ _ _ d0 ?_; clear d0; intro v0 d0; have e0 := d0.1; have n0 := d0.2; clear d0; refine ⟨?_⟩; simp only [Act.put, sA, sB, sC, Nat.zero_add, Nat.reduceAdd, e0] at hK ⊢; go_simp; with_reducible refine hK _ _ (RT.refl _ _) (hS.step (Below.refl _ _) 11 _ (by decide) (fun e => absurd e (by decide))) ?_
            exact rfl
           ·as_aux_lemma =>
            intro vs L W hS hL cl hdl hdep K hK
            have h13 : L 13 = false := by
             cases h : L 13 with
             | false => rfl
             | true => exact absurd (cl 13 _ rfl h ⟨12, .data⟩ (by simp) rfl) (by rw [hL]; decide)
            refine ⟨?_⟩; simp only [Act.put, sA, sB, sC, Nat.zero_add, Nat.reduceAdd] at hK ⊢; go_simp; with_reducible refine hK _ _ (RT.below (bA _ _) hS.be.size) (hS.step (bA _ _) 12 _ (by decide) (fun _ => h13)) ?_
            exact ⟨_, rfl, hS.be.size, none, 0, 0, none, 0, 0, Blk.new _ _ _⟩
           ·as_aux_lemma =>
            intro vs L W hS hL cl hdl hdep K hK; have d0 := hdep ⟨12, .data⟩ (by simp) rfl; simp only [PhiSwb] at d0; refine @exE1 _ _ _ d0 ?_; clear d0; intro g0 d0; have e0 := d0.1; have l0 := d0.2.1; have s0 := d0.2.2; clear d0; have d1 := hdep ⟨10, .data⟩ (by simp) rfl; simp only [PhiSwb] at d1; refine @exE6 _ _ _ _ _ _ _ _ d1 ?_; clear d1; intro A1 k1 c1 B1 m1 d1 d1; have e1 := d1.1; have n1 := d1.2; clear d1; obtain ⟨⟨a1, q1⟩, ⟨a2, q2⟩, q3, q4⟩ := s0.facts; refine ⟨?_⟩; simp only [Act.put, sA, sB, sC, Nat.zero_add, Nat.reduceAdd, e0, e1] at hK ⊢; go_simp; with_reducible refine hK undef _ (RT.store s0 l0 _ _ _ _ _ _) (hS.stored e0 e1 l0 s0 (by decide) (by decide) _) ?_
            exact trivial
           ·as_aux_lemma =>
            intro vs L W hS hL cl hdl hdep K hK; have d0 := hdep ⟨11, .data⟩ (by simp) rfl; simp only [PhiSwb] at d0; refine ⟨?_⟩; simp only [Act.put, sA, sB, sC, Nat.zero_add, Nat.reduceAdd, d0] at hK ⊢; go_simp; with_reducible refine hK _ _ (RT.refl _ _) (hS.step (Below.refl _ _) 14 _ (by decide) (fun e => absurd e (by decide))) ?_
            exact rfl
          ·intro vs L wB hS hall hv; have v14 := hv 14 (by simp); have v8 := hv 10 (by simp); simp only [PhiSwb] at v14 v8; obtain ⟨_, _, _, _, _, _, e8', ho⟩ := v8; obtain ⟨gb, A9b, k9b, c9b, B9b, m9b, d9b, e10, e8, hgN, hblk⟩ := hS.st (hall 13 (by simp)); rw [e8] at e8'; rw [← e8'] at ho; have HOb := Lib.hid ho; have hbe9 := hS.be; clear hv hS hall e8' ho; simp only [Act.put, sA, sB, sC, Nat.zero_add, Nat.reduceAdd, v14, e10, e8]; have hrb := HOb.out; have G0 := hblk.cell 0; have G1' := hblk.cell 1; simp only [List.getElem?_toArray, List.getElem?_cons_zero, List.getElem?_cons_succ] at G0 G1'
           replace F0 := cell_keep hbe9 F0
           replace F1 := cell_keep hbe9 F1
           have hra := hra.below hbe9; have hbp5 := Below.tr hbp4 hbe9; clear HOb hblk hgN hbe9 g1 g2 p1 hxa; obtain ⟨E, hE⟩ : ∃ E, E = (powF xa nn).1 := ⟨_, rfl⟩; rw [← hE]; clear hE; have tE : (E != E) = false := by simp
           go_wp2_with fail; refine (rsame_P _ _ _ _ hra hrb).mono ?_; rintro e wz ⟨rfl, hb9⟩; have hbp9 := Below.tr hbp5 hb9; clear hra hrb F0 F1 G0 G1' hb9; go_wp2_with fail
           go_roundg (G2 - 1)
           case measure => omega
           case rel => exact ⟨k + 1, by go_num, by omega, hbp9⟩
        ·have t2 : decide ((k : Int) < 6) = false := by simp; omega
         go_wp2_with fail
         go_roundg (G - 1)
         case measure => omega
         case rel => exact ⟨i + 1, by go_num, by omega, hbx⟩
      ·have t1 : decide ((i : Int) < 7) = false := by simp; omega
       have hbz := Below.tr hbw hbo; go_wp2_with fail; refine (lives5_n _).mono ?_; rintro e w' ⟨rfl, hb⟩; go_wp2_with fail; go_ret; exact ⟨rfl, Below.tr hbz hb⟩
end Go.Proofs.YtmbfjmilhfmnkaaDoor
