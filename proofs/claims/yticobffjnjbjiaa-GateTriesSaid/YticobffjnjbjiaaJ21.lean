import Derived.Test.YticobffjnjbjiaaJ20
import Derived.Test.YticobffjnjbjiaaJ16
import Derived.Deep.RegionLawGrows
import Derived.Deep.CutRange
set_option linter.unusedVariables false
set_option linter.unusedSimpArgs false
namespace Go.Proofs.Yticobffjnjbjiaa
open Go.RowKit
/- GateTries: what holds all along while the three lists of tries are made. -/
def ownR (D : Nat) (W : World) (v : Value) (n : Nat) (l : List RC0) : Prop := W.ownsRow D 64 22 v n (l.flatMap cellsR)
theorem ownR.below {D : Nat} {W W' : World} {v : Value} {n : Nat} {l : List RC0} (h : ownR D W v n l) (hb : Below W.heap.size W W') : ownR D W' v n l := own_below h hb
def row7 (W : World) (v : Value) : Prop := ∃ g, v = .slice (some ⟨g, 0, none⟩) 2 2 ∧ RowS cellsR W (some ⟨g, 0, none⟩) 2 [rBad0, rBad0]
def row9 (n : Nat) (Au Aw : Option Addr) (cu cw : Nat) (W : World) (v : Value) : Prop := ∃ A3 c3 g, v = .slice (some ⟨g, 0, none⟩) 3 3 ∧ RowS slC W (some ⟨g, 0, none⟩) 3 (triesR n Au Aw A3 cu cw c3) ∧ RowS cellsR W A3 (n + 3) (rep n ++ [rPass, rBad0, rBad0])
theorem row7.below {W W' : World} {v : Value} (h : row7 W v) (hb : Below W.heap.size W W') : row7 W' v := by
  obtain ⟨g, e, h⟩ := h; exact ⟨g, e, h.below hb⟩
theorem row9.below {n : Nat} {Au Aw : Option Addr} {cu cw : Nat} {W W' : World} {v : Value} (h : row9 n Au Aw cu cw W v) (hb : Below W.heap.size W W') : row9 n Au Aw cu cw W' v := by
  obtain ⟨A3, c3, g, e, h, k⟩ := h; exact ⟨A3, c3, g, e, h.below hb, k.below hb⟩
structure SW (w0 : World) (n : Nat) (Au Aw : Option Addr) (cu cw : Nat) (L : Nat → Bool) (vs : Nat → Value) (W : World) : Prop where
  be : Below w0.heap.size w0 W
  s2 : L 4 = false → L 2 = true → ownR w0.heap.size W (vs 2) 0 []
  s4 : L 8 = false → L 4 = true → ownR w0.heap.size W (vs 4) (n + 1) (rep n ++ [rPass])
  s7 : L 8 = false → L 7 = true → row7 W (vs 7)
  s8 : L 9 = false → L 8 = true → ownR w0.heap.size W (vs 8) (n + 3) (rep n ++ [rPass, rBad0, rBad0])
  s9 : L 9 = true → row9 n Au Aw cu cw W (vs 9)
  s10 : L 10 = true → row9 n Au Aw cu cw W (vs 10)
section
variable {w0 : World} {n : Nat} {Au Aw : Option Addr} {cu cw : Nat} {L : Nat → Bool} {vs : Nat → Value} {W W' : World}
theorem ub {i j : Nat} (h : j ≠ i) : updB L i j = L j := if_neg h
theorem uv {i j : Nat} {v : Value} (h : j ≠ i) : upd vs i v j = vs j := if_neg h
theorem us {i : Nat} {v : Value} : upd vs i v i = v := if_pos rfl
theorem ut {i : Nat} : updB L i i = true := if_pos rfl
theorem SW.any (h : SW w0 n Au Aw cu cw L vs W) (hb : Below W.heap.size W W') (i : Nat) (v : Value)
    (h2 : i = 2 → ownR w0.heap.size W' v 0 []) (h4 : i = 4 → ownR w0.heap.size W' v (n + 1) (rep n ++ [rPass])) (h7 : i = 7 → row7 W' v) (h8 : i ≠ 8) (h9 : i = 9 → row9 n Au Aw cu cw W' v) (h10 : i = 10 → row9 n Au Aw cu cw W' v) :
    SW w0 n Au Aw cu cw (updB L i) (upd vs i v) W' := by
  have e8 : updB L i 8 = L 8 := ub (fun e => h8 e.symm)
  have f8 : upd vs i v 8 = vs 8 := uv (fun e => h8 e.symm)
  refine ⟨Below.tr h.be hb, fun a b => ?_, fun a b => ?_, fun a b => ?_, fun a b => ?_, fun a => ?_, fun a => ?_⟩
  · by_cases hi : i = 2
    · subst hi; rw [us]; exact h2 rfl
    · rw [ub (fun e => hi e.symm)] at b
      rw [uv (fun e => hi e.symm)]
      by_cases hj : i = 4
      · subst hj; rw [ut] at a; cases a
      · rw [ub (fun e => hj e.symm)] at a; exact (h.s2 a b).below hb
  · rw [e8] at a
    by_cases hi : i = 4
    · subst hi; rw [us]; exact h4 rfl
    · rw [ub (fun e => hi e.symm)] at b; rw [uv (fun e => hi e.symm)]; exact (h.s4 a b).below hb
  · rw [e8] at a
    by_cases hi : i = 7
    · subst hi; rw [us]; exact h7 rfl
    · rw [ub (fun e => hi e.symm)] at b; rw [uv (fun e => hi e.symm)]; exact (h.s7 a b).below hb
  · rw [e8] at b; rw [f8]
    by_cases hi : i = 9
    · subst hi; rw [ut] at a; cases a
    · rw [ub (fun e => hi e.symm)] at a; exact (h.s8 a b).below hb
  · by_cases hi : i = 9
    · subst hi; rw [us]; exact h9 rfl
    · rw [ub (fun e => hi e.symm)] at a; rw [uv (fun e => hi e.symm)]; exact (h.s9 a).below hb
  · by_cases hi : i = 10
    · subst hi; rw [us]; exact h10 rfl
    · rw [ub (fun e => hi e.symm)] at a; rw [uv (fun e => hi e.symm)]; exact (h.s10 a).below hb
theorem SW.plain (h : SW w0 n Au Aw cu cw L vs W) (hb : Below W.heap.size W W') (i : Nat) (v : Value) (hi : i ≠ 2 ∧ i ≠ 4 ∧ i ≠ 7 ∧ i ≠ 8 ∧ i ≠ 9 ∧ i ≠ 10) : SW w0 n Au Aw cu cw (updB L i) (upd vs i v) W' :=
  h.any hb i v (fun e => absurd e hi.1) (fun e => absurd e hi.2.1) (fun e => absurd e hi.2.2.1) hi.2.2.2.1 (fun e => absurd e hi.2.2.2.2.1) (fun e => absurd e hi.2.2.2.2.2)
/-- the step that grows the row in its place -/
theorem SW.grow (h : SW w0 n Au Aw cu cw L vs W) (hb : Below w0.heap.size w0 W') (v : Value) (h4 : L 4 = true) (h9 : L 9 = false) (h10 : L 10 = false) (h8 : ownR w0.heap.size W' v (n + 3) (rep n ++ [rPass, rBad0, rBad0])) : SW w0 n Au Aw cu cw (updB L 8) (upd vs 8 v) W' := by
  refine ⟨hb, fun a b => ?_, fun a b => ?_, fun a b => ?_, fun a b => ?_, fun a => ?_, fun a => ?_⟩
  · rw [ub (by decide), h4] at a; cases a
  · rw [ut] at a; cases a
  · rw [ut] at a; cases a
  · rw [us]; exact h8
  · rw [ub (by decide), h9] at a; cases a
  · rw [ub (by decide), h10] at a; cases a
end
/-- append onto an empty row without room: a row anew -/
theorem step_fresh {P : Program} {ops : Array Oper} {o : Oper} {a : Act} {w : World} {K : Act → World → Prop} {Q : Exit → Act → World → Prop} {E : Prop}
    (hg : o.guard = none) (s x : Operand) (t : TypeId) (hop : o.op = Op.call { callee := Callee.builtin Builtin.append, args := #[s, x], argTypes := #[t, t] })
    (i0 : TypeInfo) (hi : P.info? 64 = some i0) (hz0 : i0.zero = some zeroR) (hz1 : i0.size = 22) (hz2 : i0.bytes = 72) (h1 : P.underlying t = some (.slice 64))
    (base b : Nat) (hs : a.eval s = .slice (some ⟨b, 0, none⟩) 0 0)
    (A : Option Addr) (k c : Nat) (l : List RC0) (hx : a.eval x = .slice A k c) (hl : RowS cellsR w A k l) (hpos : 0 < k) (hone : ∀ u ∈ l.flatMap cellsR, u.oneCell' = true) (hsz : k ≤ 1048576) (hbase : base ≤ w.heap.size)
    (hK : ∀ v' w', ownR base w' v' k l → Below w.heap.size w w' → K (a.put o.dst v') w') :
    if Region.wanted o (yielded ops a.tmps) = true then Oper.wp P o a w K Q else E := by
  have hlen : (l.flatMap cellsR).length = k * 22 := by rw [flat_len cellsR_len, hl.2.1]
  have hne : l.flatMap cellsR ≠ [] := by
    intro e; rw [e] at hlen; simp at hlen; omega
  obtain ⟨b', off, rfl, hc⟩ := hl.1 hne
  refine step_append_grows hg s x t hop 64 i0 zeroR 22 72 h1 hi hz0 hz1 hz2 (by kernel_rfl) (by omega) (some ⟨b, 0, none⟩) 0 0 [] hs (fun h => by cases h) rfl (fun _ _ j u hu => by simp at hu) ⟨b', off, none⟩ k c (l.flatMap cellsR) hx hlen ?_ hone (by omega) (by simp only [maxLen]; omega) (by omega) ?_
  · intro j u hu
    obtain ⟨hj, e⟩ := List.getElem?_eq_some_iff.1 hu
    have e2 : (⟨b', off, none⟩ : Addr).add j = ⟨b', off + j, none⟩ := by unfold Addr.add; split <;> simp_all
    rw [e2, hc j hj, e]
  · intro v' w' ho hgr
    rw [Nat.zero_add, List.nil_append] at ho
    exact hK v' w' (own_mono ho hbase) ⟨hgr.os, hgr.tape, hgr.output, hgr.size, fun i hi => hgr.block i hi (by simp)⟩
theorem step_grow {P : Program} {ops : Array Oper} {o : Oper} {a : Act} {w : World} {K : Act → World → Prop} {Q : Exit → Act → World → Prop} {E : Prop}
    (hg : o.guard = none) (s x : Operand) (t : TypeId) (hop : o.op = Op.call { callee := Callee.builtin Builtin.append, args := #[s, x], argTypes := #[t, t] })
    (i0 : TypeInfo) (hi : P.info? 64 = some i0) (hz0 : i0.zero = some zeroR) (hz1 : i0.size = 22) (hz2 : i0.bytes = 72) (h1 : P.underlying t = some (.slice 64))
    (base : Nat) (v : Value) (n : Nat) (l : List RC0) (hs : a.eval s = v) (hown : ownR base w v n l)
    (A : Option Addr) (k c : Nat) (l2 : List RC0) (hx : a.eval x = .slice A k c) (hl : RowS cellsR w A k l2) (hone : ∀ u ∈ l2.flatMap cellsR, u.oneCell' = true) (hsz : n + k ≤ 1048576) (hbase : base ≤ w.heap.size)
    (hK : ∀ v' w', ownR base w' v' (n + k) (l ++ l2) → Below base w w' → K (a.put o.dst v') w') :
    if Region.wanted o (yielded ops a.tmps) = true then Oper.wp P o a w K Q else E := by
  have hw : Region.wanted o (yielded ops a.tmps) = true := by simp [Region.wanted, hg]
  rw [if_pos hw]
  have hlen : (l2.flatMap cellsR).length = k * 22 := by rw [flat_len cellsR_len, hl.2.1]
  refine wp_append_any w s x t hop base 64 i0 zeroR 22 72 h1 hi hz0 hz1 hz2 (by kernel_rfl) (by omega) v n (l.flatMap cellsR) hs hown A k c (l2.flatMap cellsR) hx hlen hl.1 hone (by simp only [maxLen]; omega) (by omega) hbase ?_
  intro v' w' h2 h3 _
  refine hK v' w' ?_ ((Below.refl base w).grown h3 hbase (own_block_ge hown))
  unfold ownR
  rw [List.flatMap_append]
  exact h2
theorem wp_fresh {P : Program} {o : Oper} {a : Act} {w : World} {K : Act → World → Prop} {Q : Exit → Act → World → Prop}
    (hg : o.guard = none) (s x : Operand) (t : TypeId) (hop : o.op = Op.call { callee := Callee.builtin Builtin.append, args := #[s, x], argTypes := #[t, t] })
    (i0 : TypeInfo) (hi : P.info? 64 = some i0) (hz0 : i0.zero = some zeroR) (hz1 : i0.size = 22) (hz2 : i0.bytes = 72) (h1 : P.underlying t = some (.slice 64))
    (base b : Nat) (hs : a.eval s = .slice (some ⟨b, 0, none⟩) 0 0)
    (A : Option Addr) (k c : Nat) (l : List RC0) (hx : a.eval x = .slice A k c) (hl : RowS cellsR w A k l) (hpos : 0 < k) (hone : ∀ u ∈ l.flatMap cellsR, u.oneCell' = true) (hsz : k ≤ 1048576) (hbase : base ≤ w.heap.size)
    (hK : ∀ v' w', ownR base w' v' k l → Below w.heap.size w w' → K (a.put o.dst v') w') :
    Oper.wp P o a w K Q := by
  have h := step_fresh (ops := #[]) (E := True) (Q := Q) hg s x t hop i0 hi hz0 hz1 hz2 h1 base b hs A k c l hx hl hpos hone hsz hbase hK
  have hw : Region.wanted o (yielded #[] a.tmps) = true := by simp [Region.wanted, hg]
  rwa [if_pos hw] at h
theorem wp_grow {P : Program} {o : Oper} {a : Act} {w : World} {K : Act → World → Prop} {Q : Exit → Act → World → Prop}
    (hg : o.guard = none) (s x : Operand) (t : TypeId) (hop : o.op = Op.call { callee := Callee.builtin Builtin.append, args := #[s, x], argTypes := #[t, t] })
    (i0 : TypeInfo) (hi : P.info? 64 = some i0) (hz0 : i0.zero = some zeroR) (hz1 : i0.size = 22) (hz2 : i0.bytes = 72) (h1 : P.underlying t = some (.slice 64))
    (base : Nat) (v : Value) (n : Nat) (l : List RC0) (hs : a.eval s = v) (hown : ownR base w v n l)
    (A : Option Addr) (k c : Nat) (l2 : List RC0) (hx : a.eval x = .slice A k c) (hl : RowS cellsR w A k l2) (hone : ∀ u ∈ l2.flatMap cellsR, u.oneCell' = true) (hsz : n + k ≤ 1048576) (hbase : base ≤ w.heap.size)
    (hK : ∀ v' w', ownR base w' v' (n + k) (l ++ l2) → Below base w w' → K (a.put o.dst v') w') :
    Oper.wp P o a w K Q := by
  have h := step_grow (ops := #[]) (E := True) (Q := Q) hg s x t hop i0 hi hz0 hz1 hz2 h1 base v n l hs hown A k c l2 hx hl hone hsz hbase hK
  have hw : Region.wanted o (yielded #[] a.tmps) = true := by simp [Region.wanted, hg]
  rwa [if_pos hw] at h
end Go.Proofs.Yticobffjnjbjiaa
namespace Go.Proofs.Yticobffjnjbjiaa
open Go.RowKit
theorem pc_one {t wh : ByteArray} {s : Int} {A A' : Option Addr} {k c k' c' : Nat} : ∀ v ∈ cellsP (pcE t wh s (.slice A k c) (.slice A' k' c')), v.oneCell' = true := by
  intro v hv
  simp only [cellsP, pcE, List.mem_cons, List.not_mem_nil, or_false] at hv
  rcases hv with rfl | rfl | rfl | rfl | rfl | rfl | rfl | rfl | rfl | rfl | rfl | rfl | rfl | rfl | rfl | rfl | rfl | rfl | rfl | rfl | rfl | rfl | rfl | rfl <;> rfl
theorem own_empty_res (w : World) : (w.alloc (.cells #[] 64)).ownsRow w.heap.size 64 22 (.slice (some ⟨w.heap.size, 0, none⟩) 0 0) 0 [] :=
  ⟨rfl, .inr ⟨_, _, #[], rfl, Nat.le_refl _, heap_alloc_new w _, Nat.le_refl _, by unfold maxLen; omega, rfl, rfl⟩⟩
theorem zeroR_size : zeroR.cells.size = 22 := by kernel_rfl
theorem fill_p : Instr.fill (fun i => some (i * 22, 22)) ((Array.range (1 * 22)).map (zeroR.cells[· % zeroR.cells.size]!)) [(0, .agg (cellsR rPass).toArray)] = some (rowE [rPass]) := by kernel_rfl
theorem rep_len {n : Nat} : ((rep n).flatMap cellsR).length = n * 22 := by rw [flat_len cellsR_len]; unfold rep; rw [List.length_replicate]
theorem flat_one {l : List RC0} (h : ∀ x ∈ l, x = rBad0 ∨ x = rPass) : ∀ u ∈ l.flatMap cellsR, u.oneCell' = true := by
  intro u hu
  obtain ⟨x, hx, hux⟩ := List.mem_flatMap.1 hu
  exact (rb_one (h x hx)).1 u hux
theorem rep_all {n : Nat} : ∀ x ∈ rep n, x = rBad0 ∨ x = rPass := fun x hx => .inl (rep_mem hx)
def PhiT (Au : Option Addr) (n cu : Nat) (Aw : Option Addr) (cw : Nat) (j : Nat) (w : World) (x : Value) : Prop :=
  match j with
  | 0 => x = .slice Au n cu
  | 1 => x = .slice Aw (n + 1) cw
  | 2 => ∃ g, x = .slice (some ⟨g, 0, none⟩) 0 0
  | 3 => x = .slice Aw (n + 1) cw
  | 4 => ∃ A c, x = .slice A (n + 1) c
  | 5 => x = .agg (cellsR rBad0).toArray
  | 6 => x = .agg (cellsR rBad0).toArray
  | 7 => ∃ g, x = .slice (some ⟨g, 0, none⟩) 2 2
  | 8 => ∃ A c, x = .slice A (n + 3) c
  | 9 => ∃ g, x = .slice (some ⟨g, 0, none⟩) 3 3
  | 10 => ∃ g, x = .slice (some ⟨g, 0, none⟩) 3 3
  | _ => True
theorem PhiT.keep {Au : Option Addr} {n cu : Nat} {Aw : Option Addr} {cw : Nat} : ∀ (w w' : World), True → ∀ j x, PhiT Au n cu Aw cw j w x → PhiT Au n cu Aw cw j w' x := by
  intro w w' _ j x h
  unfold PhiT at h ⊢
  split <;> simp only at h ⊢ <;> exact h
theorem fill_b2 : Instr.fill (fun i => some (i * 22, 22)) ((Array.range (2 * 22)).map (zeroR.cells[· % zeroR.cells.size]!)) [(0, .agg (cellsR rBad0).toArray), (1, .agg (cellsR rBad0).toArray)] = some (rowE [rBad0, rBad0]) := by kernel_rfl
theorem mbb : ∀ x ∈ [rBad0, rBad0], x = rBad0 ∨ x = rPass := by
  intro x hx; simp only [List.mem_cons, List.not_mem_nil, or_false, or_self] at hx; exact .inl hx
def promE (b1 b2 : Value) : Array Value := (cellsP (pcE tT0 tP0 0 b1 b2)).toArray
def zeroPr : Value := .agg #[.int .i64 0, .string ⟨#[]⟩, .string ⟨#[]⟩, .int .i64 0, .slice none 0 0, .slice none 0 0, .int .i64 0, .int .i64 0, .int .u8 0, .int .u8 0, .int .u8 0, .int .u8 0, .int .u8 0, .int .u8 0, .int .u8 0, .int .u8 0, .int .u8 0, .int .u8 0, .int .u8 0, .int .u8 0, .int .u8 0, .int .u8 0, .int .u8 0, .int .u8 0]
theorem info_prom : (Try.prog.info? 53).map (fun i => (i.zero, i.size, i.bytes)) = some (some zeroPr, 24, 128) := by kernel_rfl
theorem fill_pr {b1 b2 : Value} : Instr.fill (fun i => some (i * 24, 24)) ((Array.range (1 * 24)).map (zeroPr.cells[· % zeroPr.cells.size]!)) [(0, .agg (cellsP (pcE tT0 tP0 0 b1 b2)).toArray)] = some (promE b1 b2) := by kernel_rfl
theorem promE_rows (w : World) (b1 b2 : Value) : RowS cellsP (w.alloc (.cells (promE b1 b2) 53)) (some ⟨w.heap.size, 0, none⟩) 1 (oneP b1 b2) := ⟨Rd.fresh w 53 ((oneP b1 b2).flatMap cellsP), rfl, by omega⟩
theorem fill_b : Instr.fill (fun i => some (i * 22, 22)) ((Array.range (1 * 22)).map (zeroR.cells[· % zeroR.cells.size]!)) [(0, .agg (cellsR rBad0).toArray)] = some (rowE [rBad0]) := by kernel_rfl
theorem rep_succ {n : Nat} : (rep n).flatMap cellsR ++ cellsR rBad0 = (rep (n + 1)).flatMap cellsR := by
  unfold rep; rw [List.replicate_succ', List.flatMap_append]; rfl
theorem codes_three {w : World} {A : Option Addr} {a b c : Int} (h : RowS intC w A 3 [a, b, c]) : ∃ g o, A = some ⟨g, o, none⟩ ∧ w.cell? ⟨g, o, none⟩ = some (.int .i64 a) ∧ w.cell? ⟨g, o + 1, none⟩ = some (.int .i64 b) ∧ w.cell? ⟨g, o + 2, none⟩ = some (.int .i64 c) := by
  obtain ⟨g, o, hA, hc⟩ := h.1 (by simp [intC])
  exact ⟨g, o, hA, hc 0 (by simp [intC]), hc 1 (by simp [intC]), hc 2 (by simp [intC])⟩
set_option maxRecDepth 100000 in
set_option maxHeartbeats 8000000 in
theorem gate_tries_n (n d m' k many : Int) (w : World) (hn1 : -9223372036854775808 ≤ n) (hn2 : n ≤ 9223372036854775807) (hd1 : -9223372036854775808 ≤ d) (hd2 : d ≤ 9223372036854775807)
    (hm1 : -9223372036854775808 ≤ m') (hm2 : m' ≤ 9223372036854775807) (hk1 : -9223372036854775808 ≤ k) (hk2 : k ≤ 9223372036854775807) (ho1 : -9223372036854775808 ≤ many) (ho2 : many ≤ 9223372036854775807) :
    Calls Try.prog 7 #[.int .i64 n, .int .i64 d, .int .i64 m', .int .i64 k, .int .i64 many] w fun e w' => e = .returned (.bool true) ∧ Below w.heap.size w w' := by
  obtain ⟨i0, hi0, hz0, hz1, hz2⟩ := info_parts info_resR
  go_enter Try.func7, Try.ntmps7
  go_wp2_with fail
  refine (rpart_e n d _ hn1 hn2 hd1 hd2).mono ?_
  rintro e w1 ⟨v, p, q, rfl, hra, ga, hpq, HPQ, hbw1⟩
  have HFA : Hid (∀ k, k ≤ 100 → Nm.Fits (p ^ k) (q ^ k)) := fun k hk => by rw [HPQ.out.1, HPQ.out.2]; exact part_fit n d hk
  obtain ⟨A1, k1, c1, A2, k2, c2, rfl⟩ := hra.shape
  go_upto_region 2 with fail
  refine wp_name ?_
  intro w2 HW2
  have hb2' : Below w1.heap.size w1 w2 := by rw [HW2.out]; exact below_alloc _ _
  have xa : Box w2 w1.heap.size (.slice A1 k1 c1) (.slice A2 k2 c2) := by rw [HW2.out]; exact Blk.new _ _ _
  have hra := hra.below hb2'
  have hbw2 := Below.tr hbw1 hb2'
  clear hbw1 hb2' HW2
  go_wp2_with fail
  refine (rpart_e m' k _ hm1 hm2 hk1 hk2).mono ?_
  rintro e w3 ⟨v, a, b, rfl, hrb, gb, _, _, hbw3⟩
  obtain ⟨B1, l1, d1, B2, l2, d2, rfl⟩ := hrb.shape
  go_upto_region 3 with fail
  refine wp_name ?_
  intro w4 HW4
  have hb4' : Below w3.heap.size w3 w4 := by rw [HW4.out]; exact below_alloc _ _
  have xb : Box w4 w3.heap.size (.slice B1 l1 d1) (.slice B2 l2 d2) := by rw [HW4.out]; exact Blk.new _ _ _
  have hb24 := Below.tr hbw3 hb4'
  have hra := hra.below hb24
  have xa := xa.below hb24
  have hrb := hrb.below hb4'
  have hbw4 := Below.tr hbw2 hb24
  clear hbw2 hbw3 hb4' hb24 HW4
  obtain ⟨f1, f2⟩ := xa.facts
  go_upto_region 4 with (first | (refine wpList_store_mid rfl 53 (.tmp 13) (.tmp 36) rfl w4.heap.size 0 #[.int .i64 0, .string ⟨#[116, 48]⟩, .string ⟨#[112, 48]⟩, .int .i64 0, .slice A1 k1 c1, .slice A2 k2 c2, .int .i64 0, .int .i64 9, .int .u8 0, .int .u8 0, .int .u8 0, .int .u8 0, .int .u8 0, .int .u8 0, .int .u8 0, .int .u8 0, .int .u8 0, .int .u8 0, .int .u8 0, .int .u8 0, .int .u8 0, .int .u8 0, .int .u8 0, .int .u8 0] rfl rfl (there_new _ _ _ 24 (by simp)) (by kernel_rfl) (all_oneCell_toArray (cs := [.int .i64 0, .string ⟨#[116, 48]⟩, .string ⟨#[112, 48]⟩, .int .i64 0, .slice A1 k1 c1, .slice A2 k2 c2, .int .i64 0, .int .i64 9, .int .u8 0, .int .u8 0, .int .u8 0, .int .u8 0, .int .u8 0, .int .u8 0, .int .u8 0, .int .u8 0, .int .u8 0, .int .u8 0, .int .u8 0, .int .u8 0, .int .u8 0, .int .u8 0, .int .u8 0, .int .u8 0]) pc_one) ?_; rw [setCells_new]; rotate_left; rfl))
  refine wp_name ?_
  intro w5 HW5
  have hb5' : Below w4.heap.size w4 w5 := by rw [HW5.out]; exact below_alloc _ _
  have BP : Blk w5 w4.heap.size 53 #[.int .i64 0, .string ⟨#[116, 48]⟩, .string ⟨#[112, 48]⟩, .int .i64 0, .slice A1 k1 c1, .slice A2 k2 c2, .int .i64 0, .int .i64 9, .int .u8 0, .int .u8 0, .int .u8 0, .int .u8 0, .int .u8 0, .int .u8 0, .int .u8 0, .int .u8 0, .int .u8 0, .int .u8 0, .int .u8 0, .int .u8 0, .int .u8 0, .int .u8 0, .int .u8 0, .int .u8 0] := by rw [HW5.out]; exact Blk.new _ _ _
  clear f1 f2
  go_upto_region 5 with (first | (refine wpList_store_mid rfl 64 (.tmp 14) (.tmp 37) rfl w5.heap.size 0 #[.int .i64 1, .string ⟨#[112, 48]⟩, .int .i64 0, .int .i64 0, .int .i64 0, .int .i64 0, .int .u8 0, .int .u8 0, .int .u8 0, .int .u8 0, .int .u8 0, .int .u8 0, .int .u8 0, .int .u8 0, .int .u8 0, .int .u8 0, .int .u8 0, .int .u8 0, .int .u8 0, .int .u8 0, .int .u8 0, .int .u8 0] rfl rfl (there_new _ _ _ 22 (by simp)) (by kernel_rfl) (all_oneCell_toArray (cs := [.int .i64 1, .string ⟨#[112, 48]⟩, .int .i64 0, .int .i64 0, .int .i64 0, .int .i64 0, .int .u8 0, .int .u8 0, .int .u8 0, .int .u8 0, .int .u8 0, .int .u8 0, .int .u8 0, .int .u8 0, .int .u8 0, .int .u8 0, .int .u8 0, .int .u8 0, .int .u8 0, .int .u8 0, .int .u8 0, .int .u8 0]) rc_one) ?_; rw [setCells_new]; rotate_left; rfl))
  refine wp_name ?_
  intro w6 HW6
  have hb6' : Below w5.heap.size w5 w6 := by rw [HW6.out]; exact below_alloc _ _
  have BB : Blk w6 w5.heap.size 64 #[.int .i64 1, .string ⟨#[112, 48]⟩, .int .i64 0, .int .i64 0, .int .i64 0, .int .i64 0, .int .u8 0, .int .u8 0, .int .u8 0, .int .u8 0, .int .u8 0, .int .u8 0, .int .u8 0, .int .u8 0, .int .u8 0, .int .u8 0, .int .u8 0, .int .u8 0, .int .u8 0, .int .u8 0, .int .u8 0, .int .u8 0] := by rw [HW6.out]; exact Blk.new _ _ _
  have BP := Blk.below BP hb6' BP.lt
  have hb46 := Below.tr hb5' hb6'
  have hra := hra.below hb46
  have hrb := hrb.below hb46
  have xa := xa.below hb46
  have xb := xb.below hb46
  have hbw6 := Below.tr hbw4 hb46
  clear hb5' hb6' hb46 hbw4 HW5 HW6
  obtain ⟨f1, f2⟩ := xa.facts
  obtain ⟨f3, f4⟩ := xb.facts
  go_wp2_with fail
  refine (retries_p _ _ p q a b _ hra hrb ga gb).mono ?_
  rintro e w7 ⟨x, er, rfl, HX, hb7⟩
  have hra := hra.below hb7
  have hrb := hrb.below hb7
  have xa := xa.below hb7
  have xb := xb.below hb7
  have BP := Blk.below BP hb7 BP.lt
  have BB := Blk.below BB hb7 BB.lt
  have hbw7 := Below.tr hbw6 hb7
  clear hb7 f1 f2 f3 f4 hbw6
  by_cases he4 : er = 4
  · clear HX BB BP xa xb hra hrb
    subst he4
    go_wp2_with fail
    refine (lives_n _).mono ?_
    rintro e w8 ⟨rfl, hb8⟩
    go_wp2_with fail
    go_ret
    exact ⟨rfl, Below.tr hbw7 hb8⟩
  have HER : Hid (er = 0 ∨ er = 6) := by
    rcases ret_cases hpq HX.out with h | h | h
    · exact .inl h
    · exact .inr h
    · exact absurd h he4
  clear he4
  go_upto_region 6 with fail
  go_cut [49] from 29 (fun t wx => t = .bool false ∧ wx = w7)
  case first => as_aux_lemma =>
    rcases HER.out with h | h
    · have h0 : (er != 0) = false := by rw [h]; rfl
      clear h
      go_wp2_with fail
      go_meet
      case rel => exact ⟨rfl, rfl⟩
    · have h0 : (er != 0) = true := by rw [h]; rfl
      have h1 : (er != 6) = false := by rw [h]; rfl
      clear h
      go_wp2_with fail
      go_meet
      case rel => exact ⟨rfl, rfl⟩
  obtain ⟨rfl, rfl⟩ := hcut
  obtain ⟨M, HM, hM⟩ : ∃ M : Nat, Hid (M = aroundN many 12) ∧ M < 12 := ⟨_, rfl, aroundN_lt many (by omega)⟩
  have hdead := fun e : Nat => e
  clear hdead
  go_wp2_with fail
  go_loopg [17, 18, 19] (M + 1) (fun j u h i wr => ∃ n : Nat, i = .int .i64 (n : Int) ∧ n + j = M + 1 ∧ wr.ownsRow wc.heap.size 64 22 u n ((rep n).flatMap cellsR) ∧ h = .bool (stB p q a b (n - 1)) ∧ Below wc.heap.size wc wr)
  case atStart => exact ⟨0, rfl, by omega, World.ownsRow_nil _ _ _ _, by unfold stB; rw [decide_eq_false (by omega)], Below.refl _ _⟩
  case round =>
    obtain ⟨n, rfl, hnj, hown, rfl, hbe⟩ := hrel
    have hra := hra.below hbe
    have hrb := hrb.below hbe
    have xa := xa.below hbe
    have xb := xb.below hbe
    have BP := Blk.below BP hbe BP.lt
    have BB := Blk.below BB hbe BB.lt
    go_wp2_with fail
    refine (around_n many 12 _ ho1 ho2 (by omega) (by omega)).mono ?_
    rintro e w' ⟨kk, rfl, _, HK, rfl⟩
    obtain rfl : kk = M := HK.out.trans HM.out.symm
    by_cases hle : n ≤ kk
    · obtain ⟨Au, cu, rfl, hu⟩ := own_rowS cellsR_len (by omega) (by omega) hown
      have hn11 : n ≤ 11 := by omega
      have hsz0 : (wr.alloc (.cells #[] 64)).heap.size = wr.heap.size + 1 := by simp
      go_upto_region 13 with fail
      go_upto_region 14 with (first | (at_builtin; (refine wpList_append_any _ rfl (.tmp 61) (.tmp 62) _ rfl wr.heap.size 64 i0 zeroR 22 72 Try.underlying41 hi0 hz0 hz1 hz2 zeroR_size (by omega) (.slice (some ⟨wr.heap.size, 0, none⟩) 0 0) 0 [] rfl (own_empty_res wr) Au n cu ((rep n).flatMap cellsR) rfl rep_len ((hu.below (below_alloc wr (.cells #[] 64))).1) (flat_one rep_all) (by simp only [maxLen]; omega) (by omega) (by simp) ?_); intro v1 x1 hown1 hg1 hat1; have hsz1 : wr.heap.size ≤ x1.heap.size := Nat.le_trans (by rw [hsz0]; omega) hg1.size) | (refine wpList_sliceN rfl 41 64 1 [(0, .tmp 64)] rfl (rowE [rPass]) i0 zeroR 22 [(0, .agg (cellsR rPass).toArray)] Try.underlying41 hi0 hz0 hz1 (by omega) (by omega) rfl fill_p ?_) | (at_builtin; (refine wpList_append_any _ rfl (.tmp 63) (.tmp 65) _ rfl wr.heap.size 64 i0 zeroR 22 72 Try.underlying41 hi0 hz0 hz1 hz2 zeroR_size (by omega) _ _ _ rfl (own_below hown1 (below_alloc x1 (.cells (rowE [rPass]) 64))) (some ⟨x1.heap.size, 0, none⟩) 1 1 (cellsR rPass) rfl rfl ((rowE_rows x1 [rPass] 1 rfl (by omega)).1) rc_one (by simp only [maxLen]; omega) (by omega) (Nat.le_trans hsz1 (below_alloc x1 (.cells (rowE [rPass]) 64)).size) ?_); intro v2 x2 hown2 hg2 hat2))
      have hbx1 : Below wr.heap.size wr x1 := (below_alloc wr (.cells #[] 64)).grown hg1 (by rw [hsz0]; omega) (own_block_ge (own_empty_res wr))
      have hbx2 : Below wr.heap.size wr x2 := (Below.tr hbx1 (below_alloc x1 (.cells (rowE [rPass]) 64))).grown hg2 (Nat.le_trans hsz1 (below_alloc x1 (.cells (rowE [rPass]) 64)).size) (own_block_ge hown1)
      have hw2 : x2.ownsRow wr.heap.size 64 22 v2 (n + 1) ((rep n ++ [rPass]).flatMap cellsR) := by
        have h := hown2
        rw [Nat.zero_add, List.nil_append] at h
        rw [List.flatMap_append]
        exact h
      obtain ⟨Aw, cw, rfl, hwR⟩ := own_rowS cellsR_len (by omega) (by omega) hw2
      have hu2 := hu.below hbx2
      have BB2 := Blk.below BB hbx2 BB.lt
      clear hown1 hown2 hg1 hg2 hat1 hat2 hw2 hbx1 hsz1 hsz0
      refine region_invW (PhiT Au n cu Aw cw) (fun _ _ => True) (SW x2 n Au Aw cu cw) (by kernel_rfl) (by kernel_rfl) (by kernel_rfl) PhiT.keep ⟨below_drew _, fun _ h => (by cases h), fun _ h => (by cases h), fun _ h => (by cases h), fun _ h => (by cases h), fun h => (by cases h), fun h => (by cases h)⟩ (fun vs => by simp only [fillR, Act.put, List.setIfInBounds_toArray, List.set_cons_zero, List.set_cons_succ, Nat.zero_add, Nat.reduceAdd]; rfl) ?_ ?_
      · refine steps_cons ?_ (steps_cons ?_ (steps_cons ?_ (steps_cons ?_ (steps_cons ?_ (steps_cons ?_ (steps_cons ?_ (steps_cons ?_ (steps_cons ?_ (steps_cons ?_ (steps_cons ?_ (steps_nil)))))))))))
        · as_aux_lemma =>
          intro vs L W hS hL cl hdl hdep K hK
          refine ⟨?_⟩
          simp only [Act.put, List.setIfInBounds_toArray, List.set_cons_zero, List.set_cons_succ, Nat.zero_add, Nat.reduceAdd] at hK ⊢
          go_simp
          with_reducible refine hK _ _ trivial (hS.plain (Below.refl _ _) 0 _ (by decide)) ?_
          exact rfl
        · as_aux_lemma =>
          intro vs L W hS hL cl hdl hdep K hK
          refine ⟨?_⟩
          simp only [Act.put, List.setIfInBounds_toArray, List.set_cons_zero, List.set_cons_succ, Nat.zero_add, Nat.reduceAdd] at hK ⊢
          go_simp
          with_reducible refine hK _ _ trivial (hS.plain (Below.refl _ _) 1 _ (by decide)) ?_
          exact rfl
        · as_aux_lemma =>
          intro vs L W hS hL cl hdl hdep K hK
          have ho : ownR x2.heap.size (W.alloc (.cells #[] 64)) (.slice (some ⟨W.heap.size, 0, none⟩) 0 0) 0 [] := own_mono (own_empty_res W) hS.be.size
          refine ⟨?_⟩
          simp only [Act.put, List.setIfInBounds_toArray, List.set_cons_zero, List.set_cons_succ, Nat.zero_add, Nat.reduceAdd] at hK ⊢
          go_simp
          with_reducible refine hK _ _ trivial (hS.any (below_alloc _ _) 2 _ (fun _ => ho) (fun e => absurd e (by decide)) (fun e => absurd e (by decide)) (by decide) (fun e => absurd e (by decide)) (fun e => absurd e (by decide))) ?_
          exact ⟨_, rfl⟩
        · as_aux_lemma =>
          intro vs L W hS hL cl hdl hdep K hK
          refine ⟨?_⟩
          simp only [Act.put, List.setIfInBounds_toArray, List.set_cons_zero, List.set_cons_succ, Nat.zero_add, Nat.reduceAdd] at hK ⊢
          go_simp
          with_reducible refine hK _ _ trivial (hS.plain (Below.refl _ _) 3 _ (by decide)) ?_
          exact rfl
        · as_aux_lemma =>
          intro vs L W hS hL cl hdl hdep K hK
          have d0 := hdep ⟨2, .data⟩ (by simp) rfl
          simp only [PhiT] at d0
          refine @exE1 _ _ _ d0 ?_
          clear d0
          intro g0 d0
          have e0 := d0
          clear d0
          have d1 := hdep ⟨3, .data⟩ (by simp) rfl
          simp only [PhiT] at d1
          refine ⟨?_⟩
          simp only [Act.put, List.setIfInBounds_toArray, List.set_cons_zero, List.set_cons_succ, Nat.zero_add, Nat.reduceAdd, e0, d1] at hK ⊢
          rw [if_pos (by rfl)]
          refine wp_fresh (by rfl) (.tmp 69) (.tmp 70) _ (by rfl) i0 hi0 hz0 hz1 hz2 Try.underlying41 x2.heap.size g0 (by rfl) Aw (n + 1) cw (rep n ++ [rPass]) (by rfl) (hwR.below hS.be) (by omega) (flat_one (rep_one m1)) (by omega) hS.be.size ?_
          intro v' w' ho hb
          obtain ⟨A', c', rfl⟩ := own_shp ho
          (try simp only [Act.put, List.setIfInBounds_toArray, List.set_cons_zero, List.set_cons_succ])
          with_reducible refine hK _ _ trivial (hS.any hb 4 _ (fun e => absurd e (by decide)) (fun _ => ho) (fun e => absurd e (by decide)) (by decide) (fun e => absurd e (by decide)) (fun e => absurd e (by decide))) ?_
          exact ⟨_, _, rfl⟩
        · as_aux_lemma =>
          intro vs L W hS hL cl hdl hdep K hK
          refine ⟨?_⟩
          simp only [Act.put, List.setIfInBounds_toArray, List.set_cons_zero, List.set_cons_succ, Nat.zero_add, Nat.reduceAdd] at hK ⊢
          rw [if_pos (by rfl)]
          refine wp_load_mid 64 (.tmp 14) (by rfl) w5.heap.size 0 (by rfl) (cellsR rBad0) _ (fun j v h => cell_keep hS.be (Blk.range BB2 j v h)) Try.underlying64 (by rfl) (infoR (r := rBad0)) ?_
          simp only [Act.put, List.setIfInBounds_toArray, List.set_cons_zero, List.set_cons_succ]
          with_reducible refine hK _ _ trivial (hS.plain (Below.refl _ _) 5 _ (by decide)) ?_
          exact rfl
        · as_aux_lemma =>
          intro vs L W hS hL cl hdl hdep K hK
          refine ⟨?_⟩
          simp only [Act.put, List.setIfInBounds_toArray, List.set_cons_zero, List.set_cons_succ, Nat.zero_add, Nat.reduceAdd] at hK ⊢
          rw [if_pos (by rfl)]
          refine wp_load_mid 64 (.tmp 14) (by rfl) w5.heap.size 0 (by rfl) (cellsR rBad0) _ (fun j v h => cell_keep hS.be (Blk.range BB2 j v h)) Try.underlying64 (by rfl) (infoR (r := rBad0)) ?_
          simp only [Act.put, List.setIfInBounds_toArray, List.set_cons_zero, List.set_cons_succ]
          with_reducible refine hK _ _ trivial (hS.plain (Below.refl _ _) 6 _ (by decide)) ?_
          exact rfl
        · as_aux_lemma =>
          intro vs L W hS hL cl hdl hdep K hK
          have d0 := hdep ⟨5, .data⟩ (by simp) rfl
          simp only [PhiT] at d0
          have d1 := hdep ⟨6, .data⟩ (by simp) rfl
          simp only [PhiT] at d1
          have h7 : row7 (W.alloc (.cells (rowE [rBad0, rBad0]) 64)) (.slice (some ⟨W.heap.size, 0, none⟩) 2 2) := ⟨_, rfl, rowE_rows _ _ _ rfl (by omega)⟩
          refine ⟨?_⟩
          simp only [Act.put, List.setIfInBounds_toArray, List.set_cons_zero, List.set_cons_succ, Nat.zero_add, Nat.reduceAdd, d0, d1] at hK ⊢
          rw [if_pos (by rfl)]
          refine wp_sliceN 41 64 2 [(0, .tmp 72), (1, .tmp 73)] rfl (rowE [rBad0, rBad0]) i0 zeroR 22 [(0, .agg (cellsR rBad0).toArray), (1, .agg (cellsR rBad0).toArray)] Try.underlying41 hi0 hz0 hz1 (by omega) (by omega) rfl fill_b2 ?_
          simp only [Act.put, List.setIfInBounds_toArray, List.set_cons_zero, List.set_cons_succ]
          with_reducible refine hK _ _ trivial (hS.any (below_alloc _ _) 7 _ (fun e => absurd e (by decide)) (fun e => absurd e (by decide)) (fun _ => h7) (by decide) (fun e => absurd e (by decide)) (fun e => absurd e (by decide))) ?_
          exact ⟨_, rfl⟩
        · as_aux_lemma =>
          intro vs L W hS hL cl hdl hdep K hK
          have d0 := hdep ⟨4, .data⟩ (by simp) rfl
          simp only [PhiT] at d0
          refine @exE2 _ _ _ _ d0 ?_
          clear d0
          intro A0 c0 d0
          have e0 := d0
          clear d0
          have d1 := hdep ⟨7, .data⟩ (by simp) rfl
          simp only [PhiT] at d1
          refine @exE1 _ _ _ d1 ?_
          clear d1
          intro g1 d1
          have e1 := d1
          clear d1
          have hl4 := hdl ⟨4, .data⟩ (by simp) rfl
          have hl7 := hdl ⟨7, .data⟩ (by simp) rfl
          have ho := hS.s4 hL hl4
          obtain ⟨g', e7, h7⟩ := hS.s7 hL hl7
          rw [e0] at ho
          have h9 : L 9 = false := by
            cases h : L 9 with
            | false => rfl
            | true => exact absurd (cl 9 _ rfl h ⟨8, .data⟩ (by simp) rfl) (by rw [hL]; decide)
          have h10 : L 10 = false := by
            cases h : L 10 with
            | false => rfl
            | true => exact absurd (cl 9 _ rfl (cl 10 _ rfl h ⟨9, .data⟩ (by simp) rfl) ⟨8, .data⟩ (by simp) rfl) (by rw [hL]; decide)
          refine ⟨?_⟩
          simp only [Act.put, List.setIfInBounds_toArray, List.set_cons_zero, List.set_cons_succ, Nat.zero_add, Nat.reduceAdd, e0, e7] at hK ⊢
          rw [if_pos (by rfl)]
          refine wp_grow (by rfl) (.tmp 71) (.tmp 74) _ (by rfl) i0 hi0 hz0 hz1 hz2 Try.underlying41 x2.heap.size (.slice A0 (n + 1) c0) (n + 1) (rep n ++ [rPass]) (by rfl) ho (some ⟨g', 0, none⟩) 2 2 [rBad0, rBad0] (by rfl) h7 (flat_one mbb) (by omega) hS.be.size ?_
          intro v' w' ho2 hb
          have ho3 : ownR x2.heap.size w' v' (n + 3) (rep n ++ [rPass, rBad0, rBad0]) := by have := ho2; rw [List.append_assoc] at this; exact this
          obtain ⟨A', c', rfl⟩ := own_shp ho3
          (try simp only [Act.put, List.setIfInBounds_toArray, List.set_cons_zero, List.set_cons_succ])
          with_reducible refine hK _ _ trivial (hS.grow (hS.be.trans hb) _ hl4 h9 h10 ho3) ?_
          exact ⟨_, _, rfl⟩
        · as_aux_lemma =>
          intro vs L W hS hL cl hdl hdep K hK
          have d0 := hdep ⟨0, .data⟩ (by simp) rfl
          simp only [PhiT] at d0
          have d1 := hdep ⟨1, .data⟩ (by simp) rfl
          simp only [PhiT] at d1
          have d2 := hdep ⟨8, .data⟩ (by simp) rfl
          simp only [PhiT] at d2
          refine @exE2 _ _ _ _ d2 ?_
          clear d2
          intro A2 c2 d2
          have e2 := d2
          clear d2
          have ho := hS.s8 hL (hdl ⟨8, .data⟩ (by simp) rfl)
          rw [e2] at ho
          obtain ⟨A8, c8, e8, hr8⟩ := own_rowS cellsR_len (by omega) (by omega) ho
          rw [e8] at e2
          have h9 : row9 n Au Aw cu cw (W.alloc (.cells #[.slice Au n cu, .slice Aw (n + 1) cw, .slice A8 (n + 3) c8] 41)) (.slice (some ⟨W.heap.size, 0, none⟩) 3 3) := ⟨A8, c8, _, rfl, ⟨Rd.fresh W 41 [.slice Au n cu, .slice Aw (n + 1) cw, .slice A8 (n + 3) c8], rfl, by omega⟩, hr8.below (below_alloc _ _)⟩
          refine ⟨?_⟩
          simp only [Act.put, List.setIfInBounds_toArray, List.set_cons_zero, List.set_cons_succ, Nat.zero_add, Nat.reduceAdd, d0, d1, e2] at hK ⊢
          go_simp
          with_reducible refine hK _ _ trivial (hS.any (below_alloc _ _) 9 _ (fun e => absurd e (by decide)) (fun e => absurd e (by decide)) (fun e => absurd e (by decide)) (by decide) (fun _ => h9) (fun e => absurd e (by decide))) ?_
          exact ⟨_, rfl⟩
        · as_aux_lemma =>
          intro vs L W hS hL cl hdl hdep K hK
          have d0 := hdep ⟨9, .data⟩ (by simp) rfl
          simp only [PhiT] at d0
          refine @exE1 _ _ _ d0 ?_
          clear d0
          intro g0 d0
          have e0 := d0
          clear d0
          have h9 := hS.s9 (hdl ⟨9, .data⟩ (by simp) rfl)
          rw [e0] at h9
          refine ⟨?_⟩
          simp only [Act.put, List.setIfInBounds_toArray, List.set_cons_zero, List.set_cons_succ, Nat.zero_add, Nat.reduceAdd, e0] at hK ⊢
          go_simp
          with_reducible refine hK _ _ trivial (hS.any (Below.refl _ _) 10 _ (fun e => absurd e (by decide)) (fun e => absurd e (by decide)) (fun e => absurd e (by decide)) (by decide) (fun e => absurd e (by decide)) (fun _ => h9)) ?_
          exact ⟨_, rfl⟩
      intro vs L x3 hS hall hv
      have v10 := hv 10 (by simp)
      simp only [PhiT] at v10
      obtain ⟨g, e10⟩ := v10
      have h10 := hS.s10 (hall 10 (by simp))
      rw [e10] at h10
      obtain ⟨A3, c3, g3, e3, hrows, hrow3⟩ := h10
      have hbx3 := Below.tr hbx2 hS.be
      have hwR3 := hwR.below hS.be
      have hu3 := hu2.below hS.be
      clear hv hS hall hwR hu2 hbx2 BB2
      simp only [e10, e3]
      clear e10
      have hown3 := own_below hown hbx3
      have hra3 := hra.below hbx3
      have hrb3 := hrb.below hbx3
      have xa3 := xa.below hbx3
      have xb3 := xb.below hbx3
      have BP3 := Blk.below BP hbx3 BP.lt
      have BB3 := Blk.below BB hbx3 BB.lt
      have hbe3 := Below.tr hbe hbx3
      clear hown hra hrb xa xb BP BB hbe hbx3 hu
      go_upto_region 15 with fail
      obtain ⟨j0, hj0, hy0, hy1, hy2⟩ := info_parts info_prom
      refine wp_region_lit ?_
      refine wpList_load_mid rfl 53 (.tmp 13) rfl w4.heap.size 0 rfl (cellsP (pcE tT0 tP0 0 (.slice A1 k1 c1) (.slice A2 k2 c2))) _ (Blk.range BP3) Try.underlying53 rfl (infoP (p := pcE tT0 tP0 0 (.slice A1 k1 c1) (.slice A2 k2 c2))) ?_
      simp only [Act.put, List.setIfInBounds_toArray, List.set_cons_zero, List.set_cons_succ]
      refine wpList_sliceN rfl 37 53 1 [(0, .tmp 78)] rfl (promE (.slice A1 k1 c1) (.slice A2 k2 c2)) j0 zeroPr 24 [(0, .agg (cellsP (pcE tT0 tP0 0 (.slice A1 k1 c1) (.slice A2 k2 c2))).toArray)] Try.underlying37 hj0 hy0 hy1 (by omega) (by omega) rfl fill_pr ?_
      simp only [Act.put, List.setIfInBounds_toArray, List.set_cons_zero, List.set_cons_succ]
      refine wpList_name ?_
      intro y1 HY1
      have hbY : Below x3.heap.size x3 y1 := by rw [HY1.out]; exact below_alloc _ _
      have hpr : RowS cellsP y1 (some ⟨x3.heap.size, 0, none⟩) 1 (oneP (.slice A1 k1 c1) (.slice A2 k2 c2)) := by rw [HY1.out]; exact promE_rows _ _ _
      clear HY1
      obtain ⟨Y3, HY3⟩ : ∃ Y3, Hid (Y3 = (y1.alloc (.cells #[.int .i64 0] 3)).alloc (.cells #[.string ⟨#[116, 48]⟩, .string ⟨#[116, 48]⟩, .string ⟨#[116, 48]⟩] 9)) := ⟨_, rfl⟩
      have hb13 : Below y1.heap.size y1 Y3 := by rw [HY3.out]; exact Below.tr (below_alloc _ _) (below_alloc _ _)
      have hri : RowS intC Y3 (some ⟨y1.heap.size, 0, none⟩) 1 [0] := ⟨by rw [HY3.out]; exact (Rd.fresh y1 3 [.int .i64 0]).below (below_alloc _ _), rfl, by omega⟩
      have hrt : RowS strC Y3 (some ⟨y1.heap.size + 1, 0, none⟩) 3 [tT0, tT0, tT0] := ⟨by rw [HY3.out]; have h := Rd.fresh (y1.alloc (.cells #[.int .i64 0] 3)) 9 [.string ⟨#[116, 48]⟩, .string ⟨#[116, 48]⟩, .string ⟨#[116, 48]⟩]; rwa [show (y1.alloc (.cells #[.int .i64 0] 3)).heap.size = y1.heap.size + 1 by simp] at h, rfl, by omega⟩
      have hb3Y := Below.tr hbY hb13
      have hprY := hpr.below hb13
      have hrowsY := hrows.below hb3Y
      have hu3Y := hu3.below hb3Y
      have hwR3Y := hwR3.below hb3Y
      have hrow3Y := hrow3.below hb3Y
      have hraY := hra3.below hb3Y
      have hrbY := hrb3.below hb3Y
      have hownY := own_below hown3 hb3Y
      have xaY := xa3.below hb3Y
      have xbY := xb3.below hb3Y
      have BPY := Blk.below BP3 hb3Y BP3.lt
      have BBY := Blk.below BB3 hb3Y BB3.lt
      have hbeY := Below.tr hbe3 hb3Y
      clear hbY hpr hrows hu3 hwR3 hrow3 hra3 hrb3 hown3 xa3 xb3 BP3 BB3 hbe3 hb13 hb3Y
      obtain ⟨f3, f4⟩ := xbY.facts
      rw [HY3.out] at f3 f4
      go_wp2_with fail
      rw [← HY3.out]
      clear f3 f4 HY3
      refine (tries_build _ _ _ _ _ _ _ _ _ _ _ _ _ _ _ p q a b n 100 _ hprY hri hrt hrowsY (by rw [List.append_nil]; exact hu3Y) hwR3Y hrow3Y hraY ga hpq hrbY gb HFA (by omega) (by omega)).mono ?_
      rintro e w10 ⟨Av, cv, rfl, hco, hb10⟩
      have hownZ := own_below hownY hb10
      have hraZ := hraY.below hb10
      have hrbZ := hrbY.below hb10
      have xaZ := xaY.below hb10
      have xbZ := xbY.below hb10
      have BPZ := Blk.below BPY hb10 BPY.lt
      have BBZ := Blk.below BBY hb10 BBY.lt
      have hbeZ := Below.tr hbeY hb10
      clear hprY hri hrt hrowsY hu3Y hwR3Y hrow3Y hraY hrbY hownY xaY xbY BPY BBY hbeY hb10
      go_upto_region 18 with fail
      go_cut [24] from 55 to 186 (fun t wx => t = .bool (stB p q a b n) ∧ wx = w10)
      case first => as_aux_lemma =>
        have hsr := st_ret hpq ga.pos HX.out HER.out n
        clear HX HFA hownZ hraZ hrbZ xaZ xbZ BPZ BBZ hbeZ HK HM
        rcases HER.out with h | h
        · have h0 : (er == 0) = true := by rw [h]; rfl
          rw [h] at hsr
          by_cases hn0 : n = 0
          · have hs : stB p q a b n = false := by cases e : stB p q a b n with | false => rfl | true => exact absurd (hsr.1 e).1 (by omega)
            have hd : decide ((n : Int) > 0) = false := by simp; omega
            have hd2 : ¬ (0 < n) := by omega
            clear h hsr HER
            go_wp2_with fail
            go_meet
            case rel => exact ⟨by rw [hs], rfl⟩
          · have hs : stB p q a b n = decide (max x 1 ≤ (n : Int)) := by
              rw [Bool.eq_iff_iff, hsr, decide_eq_true_iff]; omega
            have hd : decide ((n : Int) > 0) = true := by simp; omega
            have hd2 : 0 < n := by omega
            clear h hsr HER
            go_wp2_with fail
            go_meet
            case rel => exact ⟨by rw [hs], rfl⟩
        · have h0 : (er == 0) = false := by rw [h]; rfl
          have hs : stB p q a b n = false := by cases e : stB p q a b n with | false => rfl | true => exact absurd (hsr.1 e).2.1 (by omega)
          clear h hsr HER
          go_wp2_with fail
          all_goals go_meet
          all_goals (case rel => exact ⟨by rw [hs], rfl⟩)
      obtain ⟨rfl, hx⟩ := hcut
      obtain rfl := hx.symm
      go_upto_region 19 with fail
      obtain ⟨g0, o0, rfl, L0, L1, L2⟩ := codes_three hco
      clear hco
      have hmon : stB p q a b (n - 1) = true → stB p q a b n = true := fun h => by
        rcases Nat.eq_zero_or_pos n with h0 | h0
        · rw [h0] at h ⊢; exact h
        · have := st_mono hpq h; rwa [show n - 1 + 1 = n by omega] at this
      go_cut [155] from 55 to 186 (fun t wx => t = .bool false ∧ wx = w10)
      case first => as_aux_lemma =>
        clear HX HFA HER hownZ hraZ hrbZ xaZ xbZ BPZ BBZ hbeZ HK HM
        rcases Bool.eq_false_or_eq_true (stB p q a b n) with e | e
        · rw [e] at L0 L1 L2
          simp only [if_true] at L0 L1 L2
          clear hmon
          rcases Bool.eq_false_or_eq_true (stB p q a b (n - 1)) with e1 | e1
          · go_wp2_with fail
            refine Met.intro ?_
            go_step
            (repeat apply Exists.intro)
            refine ⟨?rel, ?eqs⟩
            case eqs => rw [e, e1]
            case rel => exact ⟨rfl, rfl⟩
          · go_wp2_with fail
            refine Met.intro ?_
            go_step
            (repeat apply Exists.intro)
            refine ⟨?rel, ?eqs⟩
            case eqs => rw [e, e1]
            case rel => exact ⟨rfl, rfl⟩
        · have e1 : stB p q a b (n - 1) = false := by cases e1 : stB p q a b (n - 1) with | false => rfl | true => exact absurd (hmon e1) (by rw [e]; decide)
          rw [e] at L0 L1 L2
          simp only [Bool.false_eq_true, if_false] at L0 L1 L2
          clear hmon
          go_wp2_with fail
          refine Met.intro ?_
          go_step
          (repeat apply Exists.intro)
          refine ⟨?rel, ?eqs⟩
          case eqs => rw [e, e1]
          case rel => exact ⟨rfl, rfl⟩
      obtain ⟨rfl, hx⟩ := hcut
      obtain rfl := hx.symm
      clear L0 L1 L2 hmon
      obtain ⟨wl, hwl⟩ : ∃ wl, wl = wc := ⟨_, rfl⟩
      subst hwl
      have hn11' : n ≤ 11 := by omega
      go_upto_if 158 with fail
      go_cut [25, 26, 27, 28] from 55 to 186 (fun _ _ _ _ wx => Below w10.heap.size w10 wx)
      case first => as_aux_lemma =>
        clear HX HER hownZ BPZ BBZ hbeZ HK HM
        by_cases hn0 : 0 < n
        · have hd : decide ((n : Int) > 0) = true := by simp; omega
          obtain ⟨f1, f2⟩ := xaZ.facts
          go_wp2_with fail
          refine (power_n _ p q n _ hraZ ga (by omega) (fun k hk => HFA.out k (by omega))).mono ?_
          rintro e w11 ⟨v, rfl, hpw, hb11⟩
          have gpw := ga.pow (HFA.out n (by omega))
          obtain ⟨P1, u1, z1, P2, u2, z2, rfl⟩ := hpw.shape
          go_upto_region 24 with fail
          refine wp_name ?_
          intro w12 HW12
          have hb12' : Below w11.heap.size w11 w12 := by rw [HW12.out]; exact below_alloc _ _
          have xc : Box w12 w11.heap.size (.slice P1 u1 z1) (.slice P2 u2 z2) := by rw [HW12.out]; exact Blk.new _ _ _
          have hb1012 := Below.tr hb11 hb12'
          have hpw := hpw.below hb12'
          have hrb12 := hrbZ.below hb1012
          have xb12 := xbZ.below hb1012
          obtain ⟨f3, f4⟩ := xb12.facts
          obtain ⟨f5, f6⟩ := xc.facts
          clear hb11 hb12' HW12 f1 f2
          go_wp2_with fail
          refine (cmp_n _ _ _ _ a b _ hpw hrb12 gpw gb).mono ?_
          rintro e w13 ⟨rfl, hb13⟩
          obtain ⟨cc, HC⟩ : ∃ cc, Hid (cc = Nm.cmpN (p ^ n * b) (a * q ^ n)) := ⟨_, rfl⟩
          rw [← HC.out]
          have hb1013 := Below.tr hb1012 hb13
          clear f3 f4 f5 f6 xb12 hrb12 hpw gpw xc hb1012 hb13 HFA
          rcases Bool.eq_false_or_eq_true (stB p q a b n) with e | e
          · have hc : decide (cc ≤ 0) = true := by
              have h := e
              unfold stB at h
              rw [decide_eq_true_iff] at h
              rw [HC.out, decide_eq_true_iff]
              exact cmp_le h.2
            clear HC
            go_wp2_with fail
            refine Met.intro ?_
            go_step
            (repeat apply Exists.intro)
            refine ⟨?rel, ?eqs⟩
            case eqs => rw [e]
            case rel => exact hb1013
          · have hc : decide (cc ≤ 0) = false := by
              have h := e
              unfold stB at h
              rw [decide_eq_false_iff_not] at h
              have h2 : a * q ^ n < p ^ n * b := by
                rcases Nat.lt_or_ge (a * q ^ n) (p ^ n * b) with h2 | h2
                · exact h2
                · exact absurd ⟨hn0, h2⟩ h
              have h3 := cmp_pos h2
              rw [HC.out, h3]; rfl
            clear HC
            go_wp2_with fail
            refine Met.intro ?_
            go_step
            (repeat apply Exists.intro)
            refine ⟨?rel, ?eqs⟩
            case eqs => rw [e]
            case rel => exact hb1013
        · have hd : decide ((n : Int) > 0) = false := by simp; omega
          go_wp2_with fail
          go_meet
          case rel => exact Below.refl _ _
      have hownA := own_below hownZ hcut
      have BBA := Blk.below BBZ hcut BBZ.lt
      have hbeA := Below.tr hbeZ hcut
      have hszA : wl.heap.size ≤ wc.heap.size := hbeA.size
      clear hownZ hraZ hrbZ xaZ xbZ BPZ BBZ hbeZ hcut
      go_upto_region 12 with (first | (refine wpList_load_mid rfl 64 (.tmp 14) rfl w5.heap.size 0 rfl (cellsR rBad0) _ (Blk.range BBA) Try.underlying64 rfl (infoR (r := rBad0)) ?_; simp only [Act.put, List.setIfInBounds_toArray, List.set_cons_zero, List.set_cons_succ]) | (refine wpList_sliceN rfl 41 64 1 [(0, .tmp 184)] rfl (rowE [rBad0]) i0 zeroR 22 [(0, .agg (cellsR rBad0).toArray)] Try.underlying41 hi0 hz0 hz1 (by omega) (by omega) rfl fill_b ?_) | (at_builtin; (refine wpList_append_any _ rfl (.tmp 183) (.tmp 185) _ rfl wl.heap.size 64 i0 zeroR 22 72 Try.underlying41 hi0 hz0 hz1 hz2 zeroR_size (by omega) _ _ _ rfl (own_below hownA (below_alloc wc (.cells (rowE [rBad0]) 64))) (some ⟨wc.heap.size, 0, none⟩) 1 1 (cellsR rBad0) rfl rfl ((rowE_rows wc [rBad0] 1 rfl (by omega)).1) rc_one (by simp only [maxLen]; omega) (by omega) (Nat.le_trans hszA (below_alloc wc (.cells (rowE [rBad0]) 64)).size) ?_); intro v3 x4 hown4 hg4 hat4))
      have hown5 : x4.ownsRow wl.heap.size 64 22 v3 (n + 1) ((rep (n + 1)).flatMap cellsR) := by rw [← rep_succ]; exact hown4
      have hbe5 : Below wl.heap.size wl x4 := (Below.tr hbeA (below_alloc wc (.cells (rowE [rBad0]) 64))).grown hg4 (Nat.le_trans hszA (below_alloc wc (.cells (rowE [rBad0]) 64)).size) (own_block_ge hownA)
      have hnj2 : (n + 1) + (gk - 1) = kk + 1 := by omega
      have hgk : gk - 1 < gk := by omega
      clear hown4 hg4 hat4 hownA BBA hbeA hszA HFA HX HER HK HM
      go_wp2_with fail
      go_roundg (gk - 1)
      case measure => exact hgk
      case rel => exact ⟨n + 1, by go_num, hnj2, hown5, by rw [show n + 1 - 1 = n by omega], hbe5⟩
    · have hdl : decide ((n : Int) ≤ (kk : Int)) = false := by simp; omega
      have hz := Below.tr hbw7 hbe
      have hle2 : kk < n := by omega
      clear hown hra hrb xa xb BP BB HFA HX HER HM HK hle hnj hbe
      go_wp2_with fail
      refine (lives_n _).mono ?_
      rintro e w8 ⟨rfl, hb8⟩
      go_wp2_with fail
      go_ret
      exact ⟨rfl, Below.tr hz hb8⟩
end Go.Proofs.Yticobffjnjbjiaa
