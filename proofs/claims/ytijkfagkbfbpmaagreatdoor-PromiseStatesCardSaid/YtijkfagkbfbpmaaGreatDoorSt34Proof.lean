/-
  PromiseStates, culpritlaw34's row and tied card: for every input, the law returns true and the input reads as it did.
-/
import Derived.Test.YtijkfagkbfbpmaaGreatDoorRows
import Derived.Test.YtijkfagkbfbpmaaGreatDoorKSt34Proof30
import Derived.ProofKit
import Derived.OpenShut
import Derived.LaidMore
import Derived.Lay
import Derived.SevenTiedAt
import Derived.Stop.Joined
import Derived.Test.YtijkfagkbfbpmaaGreatDoorTie
import Derived.SliceStrings
import Derived.Test.YtijkfagkbfbpmaaGreatDoorCards
set_option linter.unusedVariables false
set_option linter.unusedSimpArgs false
namespace Go.Proofs.YtijkfagkbfbpmaaGreatDoor.promiseStates
open Go.ChangeShapes Go.WideShapes Go.ChangeAt Go.RowKit

theorem own : ownKnob Tryz.prog.godebug = none := by kernel_rfl
theorem laidOut : laidOutB Tryz.prog = true := by kernel_rfl
theorem bd {x : Int} (h : (Lit.int .i64 x).wf = true) : -9223372036854775808 ≤ x ∧ x ≤ 9223372036854775807 := by
  have := bounds_i64 h; omega
theorem cells_int : Tryz.prog.cellsOf 3 = 1 := by kernel_rfl
theorem ints_of {w : World} {a : Addr} {len cap : Nat} {zs : List Int} (hl : len ≤ cap) (hm : cap ≤ maxLen) (hz : zs.length = cap) (hc : ∀ i, i < zs.length → w.cell? (a.add i) = some (.int .i64 (zs.getD i 0))) (hw : ∀ n ∈ zs, (Lit.int .i64 n).wf = true) :
    RowL intC w (some a) len (zs.take len) ∧ Hid (∀ x ∈ zs.take len, -9223372036854775808 ≤ x ∧ x ≤ 9223372036854775807) := by
  have e : (zs.take len).flatMap intC = (zs.take len).map fun n => Value.int .i64 n := by
    generalize zs.take len = l
    induction l with
    | nil => rfl
    | cons x l ih => rw [List.flatMap_cons, ih]; rfl
  refine ⟨⟨?_, by rw [List.length_take]; omega, by unfold maxLen at hm; omega⟩, fun x hx => bd (hw x (List.mem_of_mem_take hx))⟩
  rw [e]
  intro hne
  have hpos : 0 < zs.length := by
    rcases Nat.eq_zero_or_pos zs.length with h0 | h0
    · exfalso; apply hne
      have : zs = [] := List.eq_nil_of_length_eq_zero h0
      subst this; simp
    · exact h0
  obtain ⟨b, off, rfl, hcc⟩ := ints_at hc hpos
  refine ⟨b, off, rfl, fun i hi => ?_⟩
  have hi2 : i < len := by have h' := hi; simp at h'; omega
  rw [hcc i (by omega)]
  have hi3 : i < zs.length := by omega
  have h1 : zs.getD i 0 = zs[i] := by simp [List.getD, hi3]
  rw [h1]
  simp only [List.getElem_map, List.getElem_take]
theorem cells_str : Tryz.prog.cellsOf 9 = 1 := by kernel_rfl
theorem strs_of {w : World} {a : Addr} {len cap : Nat} {ss : List ByteArray} (hl : len ≤ cap) (hm : cap ≤ maxLen) (hz : ss.length = cap) (hc : ∀ i, i < ss.length → w.cell? (a.add i) = some (.string (ss.getD i ByteArray.empty))) (hw : ∀ s ∈ ss, s.size ≤ maxLen) :
    RowL strC w (some a) len (ss.take len) ∧ Hid (∀ s ∈ ss.take len, s.size ≤ 9223372036854775807) := by
  have e : (ss.take len).flatMap strC = (ss.take len).map fun s => Value.string s := by
    generalize ss.take len = l
    induction l with
    | nil => rfl
    | cons x l ih => rw [List.flatMap_cons, ih]; rfl
  refine ⟨⟨?_, by rw [List.length_take]; omega, by unfold maxLen at hm; omega⟩, fun x hx => by have h := hw x (List.mem_of_mem_take hx); unfold maxLen at h; omega⟩
  rw [e]
  intro hne
  have hpos : 0 < ss.length := by
    rcases Nat.eq_zero_or_pos ss.length with h0 | h0
    · exfalso; apply hne
      have : ss = [] := List.eq_nil_of_length_eq_zero h0
      subst this; simp
    · exact h0
  obtain ⟨b, off, spot⟩ := a
  have hspot : spot = none := by simpa [Addr.add] using World.cell?_spot (hc 0 hpos)
  subst hspot
  refine ⟨b, off, rfl, fun i hi => ?_⟩
  have hi2 : i < len := by have h' := hi; simp at h'; omega
  have hi3 : i < ss.length := by omega
  rw [← add_plain, hc i hi3]
  have h1 : ss.getD i ByteArray.empty = ss[i] := by simp [List.getD, hi3]
  rw [h1]
  simp only [List.getElem_map, List.getElem_take]

set_option maxRecDepth 100000 in
theorem lifted (os : Os) (started : os.Started) (H : Type) (enc : TypeId × Value → H) :
    ReturnsInHanded {} Tryz.checked os 6 .any (fun w args => (Rows.promiseStatesSpec.pre enc Tryz.prog Tryz.f6 Rows.promiseStatesRow.domain false w args ∧ laidMetH Tryz.prog Rows.promiseStatesRow.laid w) ∧ sizedMet enc Tryz.prog Tryz.f6 (OpenSpec.ofChange Rows.promiseStatesSpec) false w args)
      (Rows.promiseStatesSpec.post enc Tryz.prog Tryz.f6 false true false false) := by
  refine returnsInHanded_of_change_and (C := Tryz.checked) (X := fun w _ => laidMetH Tryz.prog Rows.promiseStatesRow.laid w) (fun _ _ _ hh h => h.of_heap hh) own started (by kernel_rfl) Tryz.func6
    (ChangeSpec.witness_shaped (enc := enc) (C := Tryz.checked) (os := os) (X := fun w _ => laidMetH Tryz.prog Rows.promiseStatesRow.laid w) false (World.laidAll Tryz.prog os Rows.promiseStatesRow.laid) #[.slice none 0 0, .int .i64 0, .int .i64 0, .int .i64 0, .slice none 0 0, .slice none 0 0] 8 (World.laidAll_os _ _ _)
      (World.shaped_of_ZipB (by kernel_rfl) (by kernel_rfl)) (by kernel_rfl) (by kernel_rfl) (by kernel_rfl)
      (by rw [MakeChecks.laidMetH_plain _ _ _ (by kernel_rfl)]; exact laidMet_laidAll _ (by kernel_rfl) (by kernel_rfl))) ?_
  intro W base args ds gs before hval0 hW hcnd _ hL _
  have hval : ∀ (j : Nat) t v, Tryz.f6.params[j]? = some t → args[j]? = some v → Value.okWide Tryz.prog W .any base t v := hval0
  have hW' := hW
  obtain ⟨p, q, hA0, hV, rfl, hfz, hnd⟩ := hW
  have hA : DataW.TrodAll enc Tryz.prog W 0 (fun _ => true) true Tryz.f6.params.toList args.toList ds p := hA0
  rw [Tryz.params6] at hA hval
  obtain ⟨v0, vs0, d0, ds0, p0, q0, hargs, rfl, rfl, h0, r0⟩ := trodAll_cons hA
  obtain ⟨v1, vs1, d1, ds1, p1, q1, rfl, rfl, rfl, h1, r1⟩ := trodAll_cons r0
  obtain ⟨v2, vs2, d2, ds2, p2, q2, rfl, rfl, rfl, h2, r2⟩ := trodAll_cons r1
  obtain ⟨v3, vs3, d3, ds3, p3, q3, rfl, rfl, rfl, h3, r3⟩ := trodAll_cons r2
  obtain ⟨v4, vs4, d4, ds4, p4, q4, rfl, rfl, rfl, h4, r4⟩ := trodAll_cons r3
  obtain ⟨v5, vs5, d5, ds5, p5, q5, rfl, rfl, rfl, h5, r5⟩ := trodAll_cons r4
  obtain ⟨rfl, rfl, rfl⟩ := trodAll_nil r5
  obtain rfl : args = #[v0, v1, v2, v3, v4, v5] := by cases args; simp_all
  obtain ⟨rfl, rfl⟩ := trodVars_none hV
  have h0k := h0
  have hlt0 : ∀ x ∈ p0, x.block < W.heap.size := fun x hx => hW'.lt x (by simp [hx])
  obtain ⟨A0, len0, cap0, rfl⟩ := okWide_slice Tryz.underlying22 (hval 0 22 v0 rfl rfl)
  obtain ⟨fuel, hf⟩ := h0
  have hraw0 : ∃ l : List Int, RowL intC W A0 len0 l ∧ Hid (∀ x ∈ l, -9223372036854775808 ≤ x ∧ x ≤ 9223372036854775807) := by
    rcases open_ints Tryz.underlying22 Tryz.underlying3 cells_int hf with ⟨hcs, hx⟩ | ⟨a, len', cap', zs, hcs, _, hl, hm, hz, hx, hcell, hwz⟩
    · simp [Value.cells] at hcs
      obtain ⟨rfl, rfl, rfl⟩ := hcs
      exact ⟨[], ⟨fun h => absurd rfl h, rfl, by omega⟩, fun x hx => by simp at hx⟩
    · simp [Value.cells] at hcs
      obtain ⟨rfl, rfl, rfl⟩ := hcs
      exact ⟨_, (ints_of hl hm (by simpa using hz) hcell hwz).1, (ints_of hl hm (by simpa using hz) hcell hwz).2⟩
  obtain ⟨l0, hr0, HL0⟩ := hraw0
  clear hf
  obtain ⟨a1, rfl, rfl, rfl, w1⟩ := open_int Tryz.underlying3 (hval 1 3 v1 rfl rfl) h1
  obtain ⟨a2, rfl, rfl, rfl, w2⟩ := open_int Tryz.underlying3 (hval 2 3 v2 rfl rfl) h2
  obtain ⟨a3, rfl, rfl, rfl, w3⟩ := open_int Tryz.underlying3 (hval 3 3 v3 rfl rfl) h3
  have h4k := h4
  have hlt4 : ∀ x ∈ p4, x.block < W.heap.size := fun x hx => hW'.lt x (by simp [hx])
  obtain ⟨A4, len4, cap4, rfl⟩ := okWide_slice Tryz.underlying22 (hval 4 22 v4 rfl rfl)
  obtain ⟨fuel, hf⟩ := h4
  have hraw4 : ∃ l : List Int, RowL intC W A4 len4 l ∧ Hid (∀ x ∈ l, -9223372036854775808 ≤ x ∧ x ≤ 9223372036854775807) ∧ len4 ≤ cap4 ∧ cap4 ≤ 9223372036854775807 := by
    rcases open_ints Tryz.underlying22 Tryz.underlying3 cells_int hf with ⟨hcs, hx⟩ | ⟨a, len', cap', zs, hcs, _, hl, hm, hz, hx, hcell, hwz⟩
    · simp [Value.cells] at hcs
      obtain ⟨rfl, rfl, rfl⟩ := hcs
      exact ⟨[], ⟨fun h => absurd rfl h, rfl, by omega⟩, fun x hx => (by simp at hx), by omega, by omega⟩
    · simp [Value.cells] at hcs
      obtain ⟨rfl, rfl, rfl⟩ := hcs
      exact ⟨_, (ints_of hl hm (by simpa using hz) hcell hwz).1, (ints_of hl hm (by simpa using hz) hcell hwz).2, hl, by unfold maxLen at hm; omega⟩
  obtain ⟨l4, hr4, HL4, hc4, hd4⟩ := hraw4
  clear hf
  have h5k := h5
  have hlt5 : ∀ x ∈ p5, x.block < W.heap.size := fun x hx => hW'.lt x (by simp [hx])
  obtain ⟨A5, len5, cap5, rfl⟩ := okWide_slice Tryz.underlying49 (hval 5 49 v5 rfl rfl)
  obtain ⟨fuel, hf⟩ := h5
  have hraw5 : ∃ l : List ByteArray, RowL strC W A5 len5 l ∧ Hid (∀ x ∈ l, x.size ≤ 9223372036854775807) ∧ len5 ≤ cap5 ∧ cap5 ≤ 9223372036854775807 := by
    rcases open_strings Tryz.underlying49 Tryz.underlying9 cells_str hf with ⟨hcs, hx⟩ | ⟨a, len', cap', ss, hcs, _, hl, hm, hz, hx, hcell, hsz⟩
    · simp [Value.cells] at hcs
      obtain ⟨rfl, rfl, rfl⟩ := hcs
      exact ⟨[], ⟨fun h => absurd rfl h, rfl, by omega⟩, fun x hx => (by simp at hx), by omega, by omega⟩
    · simp [Value.cells] at hcs
      obtain ⟨rfl, rfl, rfl⟩ := hcs
      exact ⟨_, (strs_of hl hm (by simpa using hz) hcell hsz).1, (strs_of hl hm (by simpa using hz) hcell hsz).2, hl, by unfold maxLen at hm; omega⟩
  obtain ⟨l5, hr5, HL5, hc5, hd5⟩ := hraw5
  clear hf
  clear hA0 hval0
  refine (YtijkfagkbfbpmaaGreatDoor.promise_states_n A0 len0 cap0 l0 a1 a2 a3 A4 len4 cap4 l4 A5 len5 cap5 l5 W hr0 HL0 (bd w1) (bd w2) (bd w3) hr4 hc4 hd4 hr5 hc5 hd5 HL5).mono fun e W' ⟨he, hg⟩ => ?_
  subst he
  exact ⟨_, rfl, ⟨_, _, _, [], _, [], hW', trodAll_cons_mk (shut_bool Tryz.underlying4 _) trodAll_mk0,
    (trodAll_cons_mk (Below.trod laidOut (by kernel_rfl) (of_decide_eq_true (by kernel_rfl)) h0k hg hlt0) (trodAll_cons_mk (shut_int Tryz.underlying3 w1) (trodAll_cons_mk (shut_int Tryz.underlying3 w2) (trodAll_cons_mk (shut_int Tryz.underlying3 w3) (trodAll_cons_mk (Below.trod laidOut (by kernel_rfl) (of_decide_eq_true (by kernel_rfl)) h4k hg hlt4) (trodAll_cons_mk (Below.trod laidOut (by kernel_rfl) (of_decide_eq_true (by kernel_rfl)) h5k hg hlt5) trodAll_mk0)))))),
    rfl, hg.frame _, fun h => by cases h⟩⟩

/-- PromiseStates, as it is given. -/
theorem proved : Rows.PromiseStatesSaid :=
  OpenClaim.holds_of_wide 6 Tryz.f6 rfl rfl rfl rfl rfl rfl rfl ⟨rfl, rfl, rfl, rfl, rfl⟩ rfl rfl rfl rfl rfl (by kernel_rfl) Tryz.func6 (by kernel_rfl)
    (of_decide_eq_true (by kernel_rfl)) (by unfold Func.isWrapper; first | (rw [if_pos (by decide +kernel)]; kernel_rfl) | (rw [if_neg (by decide +kernel)]; exact ⟨rfl, rfl⟩))
    (fun os started H enc _ => lifted os started H enc)
/-- The card. -/
theorem card_proved : Rows.PromiseStatesCardSaid :=
  Claim7.holds_tied_plain_at .later [] [.data, .data, .data, .data, .pinned] true (true, "407124de6d225d5bf92653aadee8713f618f327cb50f5c137c678e694b83870d") true proved (fun _ h => by cases h) (by kernel_rfl) (fun _ h => by cases h) promiseStates_row_tie rfl ⟨rfl, rfl⟩ (by kernel_rfl) rfl
    (fun f fn hf hfn => by
      obtain rfl : f = 6 := Option.some.inj ((show Tryz.prog.funcNamed "culprit/culpritlaw34.PromiseStates" = some 6 by kernel_rfl).symm.trans hf) |>.symm
      obtain rfl : fn = Tryz.f6 := (Option.some.inj (Tryz.func6.symm.trans hfn)).symm
      exact ⟨by kernel_rfl, fun j t ht => by
        rw [Tryz.params6] at ht
        have hm : t ∈ [22, 3, 3, 3, 22, 49] := by simpa using Array.mem_of_getElem? ht
        have hall : ([22, 3, 3, 3, 22, 49].all fun u => !Tryz.prog.wantsStandIn u) = true := by kernel_rfl
        exact (show Tryz.prog.wantsStandIn t = false by simpa using List.all_eq_true.1 hall t hm)⟩)
    (by kernel_rfl)
#print axioms card_proved
end Go.Proofs.YtijkfagkbfbpmaaGreatDoor.promiseStates
