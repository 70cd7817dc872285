/-
  GateBuilds, culpritlaw35's row: for every input whose bulk is at most 1048576, the law returns true and the input reads as it did.
-/
import Derived.Test.YticobffjnjbjiaaRows
import Derived.Test.YticobffjnjbjiaaKGbProof20
import Derived.Test.YticobffjnjbjiaaKGbProof21
import Derived.ProofKit
import Derived.OpenShut
import Derived.SliceStrings
import Derived.JoinedCond
set_option linter.unusedVariables false
set_option linter.unusedSimpArgs false
namespace Go.Proofs.Yticobffjnjbjiaa.gateBuilds
open Go.ChangeShapes Go.WideShapes Go.ChangeAt Go.RowKit

theorem own : ownKnob Try.prog.godebug = none := by kernel_rfl
theorem laidOut : laidOutB Try.prog = true := by kernel_rfl
theorem bd {x : Int} (h : (Lit.int .i64 x).wf = true) : -9223372036854775808 ≤ x ∧ x ≤ 9223372036854775807 := by
  have := bounds_i64 h; omega
theorem bulk_pos {H : Type} (d : DataW H) : 1 ≤ Rows.uptoBulk d := by
  cases d with
  | lit l => cases l <;> simp [Rows.uptoBulk]
  | nil => simp [Rows.uptoBulk]
  | ptr d => simp [Rows.uptoBulk]
  | slice a b => simp [Rows.uptoBulk]
  | agg l => simp [Rows.uptoBulk]
  | iface t d => simp [Rows.uptoBulk]
  | map l => simp [Rows.uptoBulk]
  | held l => simp [Rows.uptoBulk]
theorem bulk_len {H : Type} : ∀ l : List (DataW H), l.length ≤ Rows.uptoBulkAll l
  | [] => by simp [Rows.uptoBulkAll]
  | d :: l => by
    have h1 := bulk_pos d
    have h2 := bulk_len l
    simp only [List.length_cons, Rows.uptoBulkAll]; omega
theorem bulk_mem {H : Type} : ∀ (l : List (DataW H)) (d : DataW H), d ∈ l → Rows.uptoBulk d ≤ Rows.uptoBulkAll l
  | [], _, h => absurd h List.not_mem_nil
  | e :: l, d, h => by
    simp only [Rows.uptoBulkAll]
    rcases List.mem_cons.1 h with h | h
    · rw [h]; omega
    · have := bulk_mem l d h; omega
theorem at_one {cs : List Value} {k : Nat} {v : Value} (h : (cs.drop k).take 1 = [v]) : cs[k]? = some v := by
  have h2 : ((cs.drop k).take 1)[0]? = some v := by rw [h]; rfl
  rw [List.getElem?_take_of_lt (by omega), List.getElem?_drop] at h2
  simpa using h2
theorem at_two {cs : List Value} {k m j : Nat} {v : Value} (hj : j < m) (h : (((cs.drop k).take m).drop j).take 1 = [v]) : cs[k + j]? = some v := by
  have h2 := at_one h
  rwa [List.getElem?_take_of_lt hj, List.getElem?_drop] at h2
/-- the cells of what reads as a result -/
theorem trod_res {H : Type} {enc : TypeId × Value → H} {w : World} {base : Nat} {sp : Nat → Bool} {held : Bool} {fuel : Nat} {cs : List Value} {x : DataW H × List MemPlace} (h : DataW.trod enc Try.prog w base sp held fuel 64 cs = some x) : ∃ r, RcTy r ∧ cs = cellsR r := by
  obtain ⟨xs, n, rfl, _, hlen, hxl, hel⟩ := DataW.trod_struct Try.underlying64 h
  have h22 : cs.length = 22 := by rw [hlen]; kernel_rfl
  have hx5 : xs.length = 5 := by rw [hxl]; rfl
  have hg : ∀ i (hi : i < 5), ∃ y, xs[i]? = some y := fun i hi => ⟨_, List.getElem?_eq_getElem (by omega)⟩
  have e1 : Try.prog.cellsOf 3 = 1 := by kernel_rfl
  have e2 : Try.prog.cellsOf 9 = 1 := by kernel_rfl
  have e3 : Try.prog.cellsOf 62 = 3 := by kernel_rfl
  have e4 : Try.prog.cellsOf 51 = 16 := by kernel_rfl
  have e5 : Try.prog.cellsOf 5 = 1 := by kernel_rfl
  obtain ⟨y0, g0⟩ := hg 0 (by omega)
  obtain ⟨y1, g1⟩ := hg 1 (by omega)
  obtain ⟨y2, g2⟩ := hg 2 (by omega)
  obtain ⟨y3, g3⟩ := hg 3 (by omega)
  obtain ⟨y4, g4⟩ := hg 4 (by omega)
  have f0 : DataW.trod enc Try.prog w base sp held n 3 ((cs.drop 0).take (Try.prog.cellsOf 3)) = xs[0]? := hel 0 _ rfl
  have f1 : DataW.trod enc Try.prog w base sp held n 9 ((cs.drop 1).take (Try.prog.cellsOf 9)) = xs[1]? := hel 1 _ rfl
  have f2 : DataW.trod enc Try.prog w base sp held n 3 ((cs.drop 2).take (Try.prog.cellsOf 3)) = xs[2]? := hel 2 _ rfl
  have f3 : DataW.trod enc Try.prog w base sp held n 62 ((cs.drop 3).take (Try.prog.cellsOf 62)) = xs[3]? := hel 3 _ rfl
  have f4 : DataW.trod enc Try.prog w base sp held n 51 ((cs.drop 6).take (Try.prog.cellsOf 51)) = xs[4]? := hel 4 _ rfl
  rw [g0, e1] at f0
  rw [g1, e2] at f1
  rw [g2, e1] at f2
  rw [g3, e3] at f3
  rw [g4, e4] at f4
  obtain ⟨oc, c0, _, _⟩ := DataW.trod_int Try.underlying3 f0
  obtain ⟨pl, c1, _, _⟩ := DataW.trod_string Try.underlying9 f1
  obtain ⟨st, c2, _, _⟩ := DataW.trod_int Try.underlying3 f2
  obtain ⟨zs, m, rfl, _, _, hz, hzel⟩ := DataW.trod_struct Try.underlying62 f3
  have hz3 : zs.length = 3 := by rw [hz]; rfl
  have hg3 : ∀ i (hi : i < 3), ∃ y, zs[i]? = some y := fun i hi => ⟨_, List.getElem?_eq_getElem (by omega)⟩
  obtain ⟨z0, k0⟩ := hg3 0 (by omega)
  obtain ⟨z1, k1⟩ := hg3 1 (by omega)
  obtain ⟨z2, k2⟩ := hg3 2 (by omega)
  have p0 : DataW.trod enc Try.prog w base sp held m 3 ((((cs.drop 3).take 3).drop 0).take (Try.prog.cellsOf 3)) = zs[0]? := hzel 0 _ rfl
  have p1 : DataW.trod enc Try.prog w base sp held m 3 ((((cs.drop 3).take 3).drop 1).take (Try.prog.cellsOf 3)) = zs[1]? := hzel 1 _ rfl
  have p2 : DataW.trod enc Try.prog w base sp held m 3 ((((cs.drop 3).take 3).drop 2).take (Try.prog.cellsOf 3)) = zs[2]? := hzel 2 _ rfl
  rw [k0, e1] at p0
  rw [k1, e1] at p1
  rw [k2, e1] at p2
  obtain ⟨a0, b0, _, _⟩ := DataW.trod_int Try.underlying3 p0
  obtain ⟨a1, b1, _, _⟩ := DataW.trod_int Try.underlying3 p1
  obtain ⟨a2, b2, _, _⟩ := DataW.trod_int Try.underlying3 p2
  obtain ⟨us, m2, _, _, _, hu, huel⟩ := DataW.trod_array Try.underlying51 f4
  have hd : ∀ i, i < 16 → ∃ d : Int, cs[6 + i]? = some (.int .u8 d) := by
    intro i hi
    have hu2 := huel i hi
    rw [List.getElem?_eq_getElem (show i < us.length by omega), e5, Nat.mul_one] at hu2
    obtain ⟨d, q, _, _⟩ := DataW.trod_int Try.underlying5 hu2
    exact ⟨d, at_two hi q⟩
  obtain ⟨d0, q0⟩ := hd 0 (by omega)
  obtain ⟨d1, q1⟩ := hd 1 (by omega)
  obtain ⟨d2, q2⟩ := hd 2 (by omega)
  obtain ⟨d3, q3⟩ := hd 3 (by omega)
  obtain ⟨d4, q4⟩ := hd 4 (by omega)
  obtain ⟨d5, q5⟩ := hd 5 (by omega)
  obtain ⟨d6, q6⟩ := hd 6 (by omega)
  obtain ⟨d7, q7⟩ := hd 7 (by omega)
  obtain ⟨d8, q8⟩ := hd 8 (by omega)
  obtain ⟨d9, q9⟩ := hd 9 (by omega)
  obtain ⟨d10, q10⟩ := hd 10 (by omega)
  obtain ⟨d11, q11⟩ := hd 11 (by omega)
  obtain ⟨d12, q12⟩ := hd 12 (by omega)
  obtain ⟨d13, q13⟩ := hd 13 (by omega)
  obtain ⟨d14, q14⟩ := hd 14 (by omega)
  obtain ⟨d15, q15⟩ := hd 15 (by omega)
  have r0 := at_one c0
  have r1 := at_one c1
  have r2 := at_one c2
  have r3 := at_two (by omega) b0
  have r4 := at_two (by omega) b1
  have r5 := at_two (by omega) b2
  refine ⟨⟨oc, pl, st, .int .i64 a0, .int .i64 a1, .int .i64 a2, .int .u8 d0, .int .u8 d1, .int .u8 d2, .int .u8 d3, .int .u8 d4, .int .u8 d5, .int .u8 d6, .int .u8 d7, .int .u8 d8, .int .u8 d9, .int .u8 d10, .int .u8 d11, .int .u8 d12, .int .u8 d13, .int .u8 d14, .int .u8 d15⟩, ⟨a0, a1, a2, d0, d1, d2, d3, d4, d5, d6, d7, d8, d9, d10, d11, d12, d13, d14, d15, rfl⟩, ?_⟩
  apply List.ext_getElem?
  intro i
  rcases Nat.lt_or_ge i 22 with hi | hi
  · have hc : i = 0 ∨ i = 1 ∨ i = 2 ∨ i = 3 ∨ i = 4 ∨ i = 5 ∨ i = 6 ∨ i = 7 ∨ i = 8 ∨ i = 9 ∨ i = 10 ∨ i = 11 ∨ i = 12 ∨ i = 13 ∨ i = 14 ∨ i = 15 ∨ i = 16 ∨ i = 17 ∨ i = 18 ∨ i = 19 ∨ i = 20 ∨ i = 21 := by omega
    rcases hc with rfl | rfl | rfl | rfl | rfl | rfl | rfl | rfl | rfl | rfl | rfl | rfl | rfl | rfl | rfl | rfl | rfl | rfl | rfl | rfl | rfl | rfl
    · exact r0
    · exact r1
    · exact r2
    · exact r3
    · exact r4
    · exact r5
    · exact q0
    · exact q1
    · exact q2
    · exact q3
    · exact q4
    · exact q5
    · exact q6
    · exact q7
    · exact q8
    · exact q9
    · exact q10
    · exact q11
    · exact q12
    · exact q13
    · exact q14
    · exact q15
  · rw [List.getElem?_eq_none (by omega), List.getElem?_eq_none (by rw [cellsR_len]; omega)]
theorem results_of {H : Type} {enc : TypeId × Value → H} {w : World} {base : Nat} {sp : Nat → Bool} {held : Bool} {n : Nat} {a : Addr} {len : Nat} {elems : List (DataW H × List MemPlace)} (hlen : elems.length = len) (hm : len ≤ 1048576)
    (hel : ∀ i, i < len → (w.cells? base (a.add (i * Try.prog.cellsOf 64)) (Try.prog.cellsOf 64)).bind (DataW.trod enc Try.prog w base sp held n 64) = elems[i]?) :
    ∃ rs : List RC0, RowS cellsR w (some a) len rs ∧ Hid (∀ r ∈ rs, RcTy r) := by
  have e22 : Try.prog.cellsOf 64 = 22 := by kernel_rfl
  rw [e22] at hel
  have each : ∀ i, i < len → ∃ r, RcTy r ∧ ∀ j v, (cellsR r)[j]? = some v → w.cell? ((a.add (i * 22)).add j) = some v := by
    intro i hi
    have h := hel i hi
    rw [List.getElem?_eq_getElem (by omega), Option.bind_eq_some_iff] at h
    obtain ⟨cs, hcs, ht⟩ := h
    obtain ⟨r, hr, rfl⟩ := trod_res ht
    obtain ⟨_, _, hc⟩ := World.cells?_some hcs
    refine ⟨r, hr, fun j v hj => ?_⟩
    have hj2 : j < 22 := by have := (List.getElem?_eq_some_iff.1 hj).1; rwa [cellsR_len] at this
    rw [hc j hj2]; exact hj
  have main : ∀ k, k ≤ len → ∃ rs : List RC0, rs.length = k ∧ (∀ r ∈ rs, RcTy r) ∧ ∀ i r, rs[i]? = some r → ∀ j v, (cellsR r)[j]? = some v → w.cell? ((a.add (i * 22)).add j) = some v := by
    intro k
    induction k with
    | zero => intro _; exact ⟨[], rfl, fun _ h => absurd h List.not_mem_nil, fun i r h => by simp at h⟩
    | succ k ih =>
      intro hk
      obtain ⟨rs, h1, h2, h3⟩ := ih (by omega)
      obtain ⟨r, hr, hc⟩ := each k (by omega)
      refine ⟨rs ++ [r], by simp [h1], fun s hs => ?_, fun i s hs => ?_⟩
      · rcases List.mem_append.1 hs with h | h
        · exact h2 s h
        · rw [List.mem_singleton.1 h]; exact hr
      · rcases Nat.lt_or_ge i rs.length with h | h
        · rw [List.getElem?_append_left h] at hs; exact h3 i s hs
        · rw [List.getElem?_append_right h] at hs
          have hi : i - rs.length = 0 := by
            have := (List.getElem?_eq_some_iff.1 hs).1
            simp at this; omega
          rw [hi] at hs
          obtain rfl : r = s := by simpa using hs
          obtain rfl : i = k := by omega
          exact hc
  obtain ⟨rs, h1, h2, h3⟩ := main len (Nat.le_refl _)
  refine ⟨rs, ⟨fun hne => ?_, h1.symm, by omega⟩, h2⟩
  have hl : (rs.flatMap cellsR).length = rs.length * 22 := flat_len cellsR_len rs
  have hpos : 0 < rs.length := by
    rcases Nat.eq_zero_or_pos rs.length with h0 | h0
    · exfalso; apply hne; rw [List.eq_nil_of_length_eq_zero h0]; rfl
    · exact h0
  obtain ⟨b, off, spot⟩ := a
  have hspot : spot = none := by
    have h := h3 0 _ (List.getElem?_eq_getElem hpos) 0 _ (List.getElem?_eq_getElem (by rw [cellsR_len]; omega))
    have := World.cell?_spot h
    simpa [Addr.add] using this
  subst hspot
  refine ⟨b, off, rfl, fun i hi => ?_⟩
  have hi2 : i / 22 < rs.length := by rw [hl] at hi; exact Nat.div_lt_of_lt_mul (by omega)
  have hm : i % 22 < 22 := Nat.mod_lt _ (by omega)
  have hg : (cellsR rs[i / 22])[i % 22]? = some ((cellsR rs[i / 22])[i % 22]'(by rw [cellsR_len]; exact hm)) := List.getElem?_eq_getElem (by rw [cellsR_len]; exact hm)
  have hc := h3 (i / 22) _ (List.getElem?_eq_getElem hi2) (i % 22) _ hg
  rw [add_plain, add_plain, Nat.add_assoc, Nat.div_add_mod' i 22] at hc
  rw [hc]
  have hf := flat_get cellsR_len rs (i / 22) (i % 22) hi2 _ hg
  rw [Nat.div_add_mod' i 22, List.getElem?_eq_getElem hi] at hf
  exact hf.symm
theorem bulk_app {H : Type} : ∀ (l m : List (DataW H)), Rows.uptoBulkAll (l ++ m) = Rows.uptoBulkAll l + Rows.uptoBulkAll m
  | [], m => by simp [Rows.uptoBulkAll]
  | d :: l, m => by rw [List.cons_append, Rows.uptoBulkAll, Rows.uptoBulkAll, bulk_app l m]; omega
theorem ty_one {r : RC0} (h : RcTy r) : ∀ v ∈ cellsR r, v.oneCell' = true := by
  obtain ⟨c3, c4, c5, d6, d7, d8, d9, d10, d11, d12, d13, d14, d15, d16, d17, d18, d19, d20, d21, e⟩ := h
  intro v hv
  rw [e] at hv
  simp only [cellsR, List.mem_cons, List.not_mem_nil, or_false] at hv
  rcases hv with rfl | rfl | rfl | rfl | rfl | rfl | rfl | rfl | rfl | rfl | rfl | rfl | rfl | rfl | rfl | rfl | rfl | rfl | rfl | rfl | rfl | rfl <;> rfl
theorem trod_slR {H : Type} {enc : TypeId × Value → H} {w : World} {base : Nat} {sp : Nat → Bool} {held : Bool} {fuel : Nat} {cs : List Value} {x : DataW H × List MemPlace} (h : DataW.trod enc Try.prog w base sp held fuel 41 cs = some x) (hb : Rows.uptoBulk x.1 ≤ 1048576) :
    ∃ s : SLR, cs = slC s ∧ RowS cellsR w s.A s.k s.rs ∧ (∀ r ∈ s.rs, ∀ v ∈ cellsR r, v.oneCell' = true) ∧ s.k ≤ Rows.uptoBulk x.1 := by
  rcases DataW.trod_slice Try.underlying41 h with ⟨hcs, hx⟩ | ⟨a, len', cap', elems, rest, n, rfl, hcs, hx, _, hl, hm, hlen, hel, _, _⟩
  · exact ⟨⟨none, 0, 0, []⟩, hcs, ⟨fun h => absurd rfl h, rfl, by show 0 ≤ _; omega⟩, (fun x hx => absurd hx List.not_mem_nil), Nat.zero_le _⟩
  · rw [hx] at hb ⊢
    have hb2 := bulk_len (elems.map (·.1))
    simp only [Rows.uptoBulk, List.length_map] at hb hb2 ⊢
    obtain ⟨rs, h1, h2⟩ := results_of hlen (by omega) hel
    exact ⟨⟨some a, len', cap', rs⟩, hcs, h1, fun r hr => ty_one (h2.out r hr), by show len' ≤ _; omega⟩
theorem slices_of {H : Type} {enc : TypeId × Value → H} {w : World} {base : Nat} {sp : Nat → Bool} {held : Bool} {n : Nat} {a : Addr} {len : Nat} {elems : List (DataW H × List MemPlace)} (hlen : elems.length = len) (hm : Rows.uptoBulkAll (elems.map (·.1)) ≤ 1048576)
    (hel : ∀ i, i < len → (w.cells? base (a.add (i * Try.prog.cellsOf 41)) (Try.prog.cellsOf 41)).bind (DataW.trod enc Try.prog w base sp held n 41) = elems[i]?) :
    ∃ rows : List SLR, RowS slC w (some a) len rows ∧ (∀ s ∈ rows, RowS cellsR w s.A s.k s.rs ∧ ∀ r ∈ s.rs, ∀ v ∈ cellsR r, v.oneCell' = true) ∧ sumK rows ≤ 1048576 := by
  have e1 : Try.prog.cellsOf 41 = 1 := by kernel_rfl
  rw [e1] at hel
  have hlb := bulk_len (elems.map (·.1))
  rw [List.length_map] at hlb
  have each : ∀ i (hi : i < len), ∃ s : SLR, (RowS cellsR w s.A s.k s.rs ∧ ∀ r ∈ s.rs, ∀ v ∈ cellsR r, v.oneCell' = true) ∧ s.k ≤ Rows.uptoBulk ((elems[i]'(by omega)).1) ∧ w.cell? ((a.add (i * 1)).add 0) = some (.slice s.A s.k s.c) := by
    intro i hi
    have h := hel i hi
    rw [List.getElem?_eq_getElem (by omega), Option.bind_eq_some_iff] at h
    obtain ⟨cs, hcs, ht⟩ := h
    have hbi : Rows.uptoBulk ((elems[i]'(by omega)).1) ≤ 1048576 := Nat.le_trans (bulk_mem _ _ (List.mem_map_of_mem (List.getElem_mem (by omega)))) hm
    obtain ⟨s, rfl, h1, h2, h3⟩ := trod_slR ht hbi
    obtain ⟨_, _, hc⟩ := World.cells?_some hcs
    exact ⟨s, ⟨h1, h2⟩, h3, by rw [hc 0 (by omega)]; rfl⟩
  have main : ∀ k, k ≤ len → ∃ rows : List SLR, rows.length = k ∧ (∀ s ∈ rows, RowS cellsR w s.A s.k s.rs ∧ ∀ r ∈ s.rs, ∀ v ∈ cellsR r, v.oneCell' = true) ∧ (∀ i s, rows[i]? = some s → w.cell? ((a.add (i * 1)).add 0) = some (.slice s.A s.k s.c)) ∧ sumK rows ≤ Rows.uptoBulkAll ((elems.take k).map (·.1)) := by
    intro k
    induction k with
    | zero => intro _; exact ⟨[], rfl, fun _ h => absurd h List.not_mem_nil, (fun i r h => by simp at h), by simp [sumK]⟩
    | succ k ih =>
      intro hk
      obtain ⟨rows, h1, h2, h3, h4⟩ := ih (by omega)
      obtain ⟨s, hs, hb, hc⟩ := each k (by omega)
      refine ⟨rows ++ [s], by simp [h1], fun y hy => ?_, fun i y hy => ?_, ?_⟩
      · rcases List.mem_append.1 hy with h | h
        · exact h2 y h
        · rw [List.mem_singleton.1 h]; exact hs
      · rcases Nat.lt_or_ge i rows.length with h | h
        · rw [List.getElem?_append_left h] at hy; exact h3 i y hy
        · rw [List.getElem?_append_right h] at hy
          have hi : i - rows.length = 0 := by
            have := (List.getElem?_eq_some_iff.1 hy).1
            simp at this; omega
          rw [hi] at hy
          obtain rfl : s = y := by simpa using hy
          obtain rfl : i = k := by omega
          exact hc
      · rw [List.take_succ_eq_append_getElem (by omega), List.map_append, bulk_app]
        have e : sumK (rows ++ [s]) = sumK rows + s.k := by simp [sumK]
        rw [e]
        simp only [List.map_cons, List.map_nil, Rows.uptoBulkAll]
        omega
  obtain ⟨rows, h1, h2, h3, h4⟩ := main len (Nat.le_refl _)
  rw [List.take_of_length_le (by omega)] at h4
  refine ⟨rows, ⟨fun hne => ?_, h1.symm, by omega⟩, h2, by omega⟩
  have hl : (rows.flatMap slC).length = rows.length * 1 := flat_len slC_len rows
  have hpos : 0 < rows.length := by
    rcases Nat.eq_zero_or_pos rows.length with h0 | h0
    · exfalso; apply hne; rw [List.eq_nil_of_length_eq_zero h0]; rfl
    · exact h0
  obtain ⟨b, off, spot⟩ := a
  have hspot : spot = none := by
    have h := h3 0 _ (List.getElem?_eq_getElem hpos)
    have := World.cell?_spot h
    simpa [Addr.add] using this
  subst hspot
  refine ⟨b, off, rfl, fun i hi => ?_⟩
  have hi2 : i < rows.length := by omega
  have hc := h3 i _ (List.getElem?_eq_getElem hi2)
  rw [add_plain, add_plain, Nat.mul_one, Nat.add_zero] at hc
  rw [hc]
  have hf := flat_get slC_len rows i 0 hi2 (.slice rows[i].A rows[i].k rows[i].c) rfl
  rw [Nat.mul_one, Nat.add_zero, List.getElem?_eq_getElem hi] at hf
  exact hf.symm
theorem cells_int : Try.prog.cellsOf 3 = 1 := by kernel_rfl
theorem ints_of {w : World} {a : Addr} {len cap : Nat} {zs : List Int} (hl : len ≤ cap) (hm : cap ≤ maxLen) (hz : zs.length = cap) (hc : ∀ i, i < zs.length → w.cell? (a.add i) = some (.int .i64 (zs.getD i 0))) (hw : ∀ n ∈ zs, (Lit.int .i64 n).wf = true) :
    RowL intC w (some a) len (zs.take len) ∧ Hid (∀ x ∈ zs.take len, -9223372036854775808 ≤ x ∧ x ≤ 9223372036854775807) := by
  have e : (zs.take len).flatMap intC = (zs.take len).map fun n => Value.int .i64 n := by
    generalize zs.take len = l
    induction l with
    | nil => rfl
    | cons x l ih => rw [List.flatMap_cons, ih]; rfl
  refine ⟨⟨?_, by rw [List.length_take]; omega, by unfold maxLen at hm; omega⟩, fun x hx => bd (hw x (List.mem_of_mem_take hx))⟩
  rw [e]
  intro hne
  have hpos : 0 < zs.length := by
    rcases Nat.eq_zero_or_pos zs.length with h0 | h0
    · exfalso; apply hne
      have : zs = [] := List.eq_nil_of_length_eq_zero h0
      subst this; simp
    · exact h0
  obtain ⟨b, off, rfl, hcc⟩ := ints_at hc hpos
  refine ⟨b, off, rfl, fun i hi => ?_⟩
  have hi2 : i < len := by have h' := hi; simp at h'; omega
  rw [hcc i (by omega)]
  have hi3 : i < zs.length := by omega
  have h1 : zs.getD i 0 = zs[i] := by simp [List.getD, hi3]
  rw [h1]
  simp only [List.getElem_map, List.getElem_take]

set_option maxRecDepth 100000 in
set_option maxHeartbeats 2000000 in
theorem lifted (os : Os) (started : os.Started) (H : Type) (enc : TypeId × Value → H) (F0 : Stop.Interp) :
    ReturnsInHanded {} Try.checked os 4 .any ((Rows.OpenSpec.upto Rows.gateBuildsSpec).pre6 enc Try.prog Try.f4 Rows.gateBuildsUptoRow.domain false) (((Rows.OpenSpec.upto Rows.gateBuildsSpec).at F0).post enc Try.prog Try.f4 false true false false) := by
  refine returnsInHanded_of_cond (C := Try.checked) (s := Rows.OpenSpec.upto Rows.gateBuildsSpec) (k := Rows.uptoSmall) rfl own started (by kernel_rfl) Try.func4
    (OpenSpec.witness (enc := enc) (C := Try.checked) (s := Rows.OpenSpec.upto Rows.gateBuildsSpec) (k := Rows.uptoSmall) rfl false ⟨#[], #[.slice none 0 0, .slice none 0 0, .slice none 0 0, .slice none 0 0, .int .i64 0, .int .i64 0, .slice none 0 0], []⟩ 8 (by kernel_rfl) (by kernel_rfl) (by kernel_rfl)
      (x := ([.nil, .nil, .nil, .nil, .lit (.int .i64 0), .lit (.int .i64 0), .nil], [], [])) (by kernel_rfl) (by kernel_rfl) (by kernel_rfl)) ?_
  intro W base args ds gs before hval0 hW hcnd hsm _
  have hval : ∀ (j : Nat) t v, Try.f4.params[j]? = some t → args[j]? = some v → Value.okWide Try.prog W .any base t v := hval0
  have hW' := hW
  obtain ⟨p, q, hA0, hV, rfl, hfz, hnd⟩ := hW
  have hA : DataW.TrodAll enc Try.prog W 0 (fun _ => true) true Try.f4.params.toList args.toList ds p := hA0
  rw [Try.params4] at hA hval
  obtain ⟨v0, vs0, d0, ds0, p0, q0, hargs, rfl, rfl, h0, r0⟩ := trodAll_cons hA
  obtain ⟨v1, vs1, d1, ds1, p1, q1, rfl, rfl, rfl, h1, r1⟩ := trodAll_cons r0
  obtain ⟨v2, vs2, d2, ds2, p2, q2, rfl, rfl, rfl, h2, r2⟩ := trodAll_cons r1
  obtain ⟨v3, vs3, d3, ds3, p3, q3, rfl, rfl, rfl, h3, r3⟩ := trodAll_cons r2
  obtain ⟨v4, vs4, d4, ds4, p4, q4, rfl, rfl, rfl, h4, r4⟩ := trodAll_cons r3
  obtain ⟨v5, vs5, d5, ds5, p5, q5, rfl, rfl, rfl, h5, r5⟩ := trodAll_cons r4
  obtain ⟨v6, vs6, d6, ds6, p6, q6, rfl, rfl, rfl, h6, r6⟩ := trodAll_cons r5
  obtain ⟨rfl, rfl, rfl⟩ := trodAll_nil r6
  obtain rfl : args = #[v0, v1, v2, v3, v4, v5, v6] := by cases args; simp_all
  obtain ⟨rfl, rfl⟩ := trodVars_none hV
  have hblk : ∀ d, d ∈ [d0, d1, d2, d3, d4, d5, d6] → Rows.uptoBulk d ≤ 1048576 := by
    intro d hd
    have h1 := bulk_mem _ d (List.mem_append_left [] hd)
    have h2 : Rows.uptoBulkAll ([d0, d1, d2, d3, d4, d5, d6] ++ []) ≤ 1048576 := of_decide_eq_true hsm
    omega
  have h0k := h0
  have hlt0 : ∀ x ∈ p0, x.block < W.heap.size := fun x hx => hW'.lt x (by simp [hx])
  obtain ⟨A0, len0, cap0, rfl⟩ := okWide_slice Try.underlying35 (hval 0 35 v0 rfl rfl)
  obtain ⟨fuel, hf⟩ := h0
  have hraw0 : ∃ l : List Int, RowL intC W A0 len0 l ∧ Hid (∀ x ∈ l, -9223372036854775808 ≤ x ∧ x ≤ 9223372036854775807) := by
    rcases open_ints Try.underlying35 Try.underlying3 cells_int hf with ⟨hcs, hx⟩ | ⟨a, len', cap', zs, hcs, _, hl, hm, hz, hx, hcell, hwz⟩
    · simp [Value.cells] at hcs
      obtain ⟨rfl, rfl, rfl⟩ := hcs
      exact ⟨[], ⟨fun h => absurd rfl h, rfl, by omega⟩, fun x hx => by simp at hx⟩
    · simp [Value.cells] at hcs
      obtain ⟨rfl, rfl, rfl⟩ := hcs
      exact ⟨_, (ints_of hl hm (by simpa using hz) hcell hwz).1, (ints_of hl hm (by simpa using hz) hcell hwz).2⟩
  obtain ⟨l0, hr0, HL0⟩ := hraw0
  clear hf
  have h1k := h1
  have hlt1 : ∀ x ∈ p1, x.block < W.heap.size := fun x hx => hW'.lt x (by simp [hx])
  obtain ⟨A1, len1, cap1, rfl⟩ := okWide_slice Try.underlying35 (hval 1 35 v1 rfl rfl)
  obtain ⟨fuel, hf⟩ := h1
  have hraw1 : ∃ l : List Int, RowL intC W A1 len1 l ∧ Hid (∀ x ∈ l, -9223372036854775808 ≤ x ∧ x ≤ 9223372036854775807) := by
    rcases open_ints Try.underlying35 Try.underlying3 cells_int hf with ⟨hcs, hx⟩ | ⟨a, len', cap', zs, hcs, _, hl, hm, hz, hx, hcell, hwz⟩
    · simp [Value.cells] at hcs
      obtain ⟨rfl, rfl, rfl⟩ := hcs
      exact ⟨[], ⟨fun h => absurd rfl h, rfl, by omega⟩, fun x hx => by simp at hx⟩
    · simp [Value.cells] at hcs
      obtain ⟨rfl, rfl, rfl⟩ := hcs
      exact ⟨_, (ints_of hl hm (by simpa using hz) hcell hwz).1, (ints_of hl hm (by simpa using hz) hcell hwz).2⟩
  obtain ⟨l1, hr1, HL1⟩ := hraw1
  clear hf
  have h2k := h2
  have hlt2 : ∀ x ∈ p2, x.block < W.heap.size := fun x hx => hW'.lt x (by simp [hx])
  obtain ⟨A2, len2, cap2, rfl⟩ := okWide_slice Try.underlying35 (hval 2 35 v2 rfl rfl)
  obtain ⟨fuel, hf⟩ := h2
  have hraw2 : ∃ l : List Int, RowL intC W A2 len2 l ∧ Hid (∀ x ∈ l, -9223372036854775808 ≤ x ∧ x ≤ 9223372036854775807) := by
    rcases open_ints Try.underlying35 Try.underlying3 cells_int hf with ⟨hcs, hx⟩ | ⟨a, len', cap', zs, hcs, _, hl, hm, hz, hx, hcell, hwz⟩
    · simp [Value.cells] at hcs
      obtain ⟨rfl, rfl, rfl⟩ := hcs
      exact ⟨[], ⟨fun h => absurd rfl h, rfl, by omega⟩, fun x hx => by simp at hx⟩
    · simp [Value.cells] at hcs
      obtain ⟨rfl, rfl, rfl⟩ := hcs
      exact ⟨_, (ints_of hl hm (by simpa using hz) hcell hwz).1, (ints_of hl hm (by simpa using hz) hcell hwz).2⟩
  obtain ⟨l2, hr2, HL2⟩ := hraw2
  clear hf
  have h3k := h3
  have hlt3 : ∀ x ∈ p3, x.block < W.heap.size := fun x hx => hW'.lt x (by simp [hx])
  obtain ⟨A3, len3, cap3, rfl⟩ := okWide_slice Try.underlying35 (hval 3 35 v3 rfl rfl)
  obtain ⟨fuel, hf⟩ := h3
  have hraw3 : ∃ l : List Int, RowL intC W A3 len3 l ∧ Hid (∀ x ∈ l, -9223372036854775808 ≤ x ∧ x ≤ 9223372036854775807) := by
    rcases open_ints Try.underlying35 Try.underlying3 cells_int hf with ⟨hcs, hx⟩ | ⟨a, len', cap', zs, hcs, _, hl, hm, hz, hx, hcell, hwz⟩
    · simp [Value.cells] at hcs
      obtain ⟨rfl, rfl, rfl⟩ := hcs
      exact ⟨[], ⟨fun h => absurd rfl h, rfl, by omega⟩, fun x hx => by simp at hx⟩
    · simp [Value.cells] at hcs
      obtain ⟨rfl, rfl, rfl⟩ := hcs
      exact ⟨_, (ints_of hl hm (by simpa using hz) hcell hwz).1, (ints_of hl hm (by simpa using hz) hcell hwz).2⟩
  obtain ⟨l3, hr3, HL3⟩ := hraw3
  clear hf
  obtain ⟨a4, rfl, rfl, rfl, w4⟩ := open_int Try.underlying3 (hval 4 3 v4 rfl rfl) h4
  obtain ⟨a5, rfl, rfl, rfl, w5⟩ := open_int Try.underlying3 (hval 5 3 v5 rfl rfl) h5
  have h6k := h6
  have hlt6 : ∀ x ∈ p6, x.block < W.heap.size := fun x hx => hW'.lt x (by simp [hx])
  obtain ⟨A6, len6, cap6, rfl⟩ := okWide_slice Try.underlying36 (hval 6 36 v6 rfl rfl)
  obtain ⟨fuel, hf⟩ := h6
  have hraw6 : ∃ l : List SLR, RowS slC W A6 len6 l ∧ (∀ s ∈ l, RowS cellsR W s.A s.k s.rs ∧ ∀ r ∈ s.rs, ∀ v ∈ cellsR r, v.oneCell' = true) ∧ sumK l ≤ 1048576 ∧ len6 ≤ 1048576 := by
    have hb := hblk d6 (by simp)
    rcases DataW.trod_slice Try.underlying36 hf with ⟨hcs, hx⟩ | ⟨a, len', cap', elems, rest, n, rfl, hcs, hx, _, hl, hm, hlen, hel, _, _⟩
    · simp [Value.cells] at hcs
      obtain ⟨rfl, rfl, rfl⟩ := hcs
      exact ⟨[], ⟨fun h => absurd rfl h, rfl, by omega⟩, (fun x hx => absurd hx List.not_mem_nil), by simp [sumK], by omega⟩
    · simp [Value.cells] at hcs
      obtain ⟨rfl, rfl, rfl⟩ := hcs
      simp only [Prod.mk.injEq] at hx
      rw [hx.1] at hb
      have hb2 := bulk_len (elems.map (·.1))
      simp only [Rows.uptoBulk, List.length_map] at hb hb2
      obtain ⟨rows, h1, h2, h3⟩ := slices_of hlen (by omega) hel
      exact ⟨rows, h1, h2, h3, by omega⟩
  obtain ⟨l6, hr6, HL6, hm6, hk6⟩ := hraw6
  clear hf
  clear hA0 hval0
  refine (Yticobffjnjbjiaa.gate_builds_n A0 A1 A2 A3 len0 cap0 len1 cap1 len2 cap2 len3 cap3 l0 l1 l2 l3 a4 a5 A6 len6 cap6 l6 W hr0 hr1 hr2 hr3 HL0 HL1 HL2 HL3 (bd w4).1 (bd w4).2 (bd w5).1 (bd w5).2 hr6 HL6 (Nat.le_trans hm6 (by omega)) (Nat.le_trans hk6 (by omega))).mono fun e W' ⟨he, hg⟩ => ?_
  subst he
  exact ⟨_, rfl, ⟨_, _, _, [], _, [], hW', trodAll_cons_mk (shut_bool Try.underlying4 _) trodAll_mk0,
    (trodAll_cons_mk (Below.trod laidOut (by kernel_rfl) (of_decide_eq_true (by kernel_rfl)) h0k hg hlt0) (trodAll_cons_mk (Below.trod laidOut (by kernel_rfl) (of_decide_eq_true (by kernel_rfl)) h1k hg hlt1) (trodAll_cons_mk (Below.trod laidOut (by kernel_rfl) (of_decide_eq_true (by kernel_rfl)) h2k hg hlt2) (trodAll_cons_mk (Below.trod laidOut (by kernel_rfl) (of_decide_eq_true (by kernel_rfl)) h3k hg hlt3) (trodAll_cons_mk (shut_int Try.underlying3 w4) (trodAll_cons_mk (shut_int Try.underlying3 w5) (trodAll_cons_mk (Below.trod laidOut (by kernel_rfl) (of_decide_eq_true (by kernel_rfl)) h6k hg hlt6) trodAll_mk0))))))),
    rfl, hg.frame _, fun h => by cases h⟩⟩

/-- GateBuilds, as it is given, where what it reads is of bulk at most 1048576. -/
theorem proved : Rows.GateBuildsUptoSaid :=
  OpenClaim.holds_of_cond 4 Try.f4 rfl rfl rfl rfl rfl rfl rfl ⟨rfl, rfl, rfl, rfl, rfl⟩ rfl rfl rfl rfl rfl (by kernel_rfl) Try.func4 (by kernel_rfl)
    (of_decide_eq_true (by kernel_rfl)) (by unfold Func.isWrapper; first | (rw [if_pos (by decide +kernel)]; kernel_rfl) | (rw [if_neg (by decide +kernel)]; exact ⟨rfl, rfl⟩))
    (fun os started H enc _ F0 => lifted os started H enc F0)
#print axioms proved
end Go.Proofs.Yticobffjnjbjiaa.gateBuilds
