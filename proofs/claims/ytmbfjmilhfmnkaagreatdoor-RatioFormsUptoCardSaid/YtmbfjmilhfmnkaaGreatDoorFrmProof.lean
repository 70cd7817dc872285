/-
  RatioForms, culpritlaw05's row and tied card, where what it reads is of bulk at most 1048576: the law returns true and the input reads as it did.
-/
import Derived.Test.YtmbfjmilhfmnkaaGreatDoorRows
import Derived.Test.YtmbfjmilhfmnkaaGreatDoorKFrmProof04
import Derived.ProofKit
import Derived.OpenShut
import Derived.LaidMore
import Derived.Lay
import Derived.SevenTiedAt
import Derived.Stop.Joined
import Derived.Deep.DeepHandedRow
import Derived.JoinedCond
import Derived.Test.YtmbfjmilhfmnkaaGreatDoorTie
import Derived.Test.YtmbfjmilhfmnkaaGreatDoorCards
import Derived.Test.YtmbfjmilhfmnkaaGreatDoorKRdsProof24
import Derived.Test.YtmbfjmilhfmnkaaGreatDoorKFrmProof05
set_option linter.unusedVariables false
set_option linter.unusedSimpArgs false
namespace Go.Proofs.YtmbfjmilhfmnkaaGreatDoor.ratioForms
open Go.ChangeShapes Go.WideShapes Go.ChangeAt Go.RowKit

theorem own : ownKnob Tryz.prog.godebug = none := by kernel_rfl
theorem laidOut : laidOutB Tryz.prog = true := by kernel_rfl
theorem bd {x : Int} (h : (Lit.int .i64 x).wf = true) : -9223372036854775808 ≤ x ∧ x ≤ 9223372036854775807 := by
  have := bounds_i64 h; omega
theorem bulk_pos {H : Type} (d : DataW H) : 1 ≤ Rows.uptoBulk d := by
  cases d with
  | lit l => cases l <;> simp [Rows.uptoBulk]
  | nil => simp [Rows.uptoBulk]
  | ptr d => simp [Rows.uptoBulk]
  | slice a b => simp [Rows.uptoBulk]
  | agg l => simp [Rows.uptoBulk]
  | iface t d => simp [Rows.uptoBulk]
  | map l => simp [Rows.uptoBulk]
  | held l => simp [Rows.uptoBulk]
theorem bulk_len {H : Type} : ∀ l : List (DataW H), l.length ≤ Rows.uptoBulkAll l
  | [] => by simp [Rows.uptoBulkAll]
  | d :: l => by
    have h1 := bulk_pos d
    have h2 := bulk_len l
    simp only [List.length_cons, Rows.uptoBulkAll]; omega
theorem bulk_mem {H : Type} : ∀ (l : List (DataW H)) (d : DataW H), d ∈ l → Rows.uptoBulk d ≤ Rows.uptoBulkAll l
  | [], _, h => absurd h List.not_mem_nil
  | e :: l, d, h => by
    simp only [Rows.uptoBulkAll]
    rcases List.mem_cons.1 h with h | h
    · rw [h]; omega
    · have := bulk_mem l d h; omega
theorem cells_u8 : Tryz.prog.cellsOf 5 = 1 := by kernel_rfl
theorem by_of {w : World} {a : Addr} {len cap : Nat} {zs : List Int} (hl : len ≤ cap) (hm : cap ≤ maxLen) (hz : zs.length = cap) (hc : ∀ i, i < zs.length → w.cell? (a.add i) = some (.int .u8 (zs.getD i 0))) (hw : ∀ n ∈ zs, (Lit.int .u8 n).wf = true) :
    By w (some a) len cap ((zs.take len).map Int.toNat) := by
  have e : ((zs.take len).map Int.toNat).flatMap u8C = (zs.take len).map fun n => Value.int .u8 n := by
    have hw2 : ∀ n ∈ zs.take len, (Lit.int .u8 n).wf = true := fun n hn => hw n (List.mem_of_mem_take hn)
    generalize zs.take len = l at hw2
    induction l with
    | nil => rfl
    | cons x l ih =>
      have hx := bounds_u8 (hw2 x (List.mem_cons_self ..))
      rw [List.map_cons, List.flatMap_cons, ih fun n hn => hw2 n (List.mem_cons_of_mem _ hn), List.map_cons]
      unfold u8C
      rw [Int.toNat_of_nonneg hx.1]
      rfl
  refine ⟨⟨?_, by rw [List.length_map, List.length_take]; omega, by unfold maxLen at hm; omega⟩, hl, by unfold maxLen at hm; omega, fun x hx => ?_, fun h => ?_⟩
  · rw [e]
    intro hne
    have hpos : 0 < zs.length := by
      rcases Nat.eq_zero_or_pos zs.length with h0 | h0
      · exfalso; apply hne
        have : zs = [] := List.eq_nil_of_length_eq_zero h0
        subst this; simp
      · exact h0
    obtain ⟨b, off, rfl, hcc⟩ := ints_at hc hpos
    refine ⟨b, off, rfl, fun i hi => ?_⟩
    have hi2 : i < len := by have h' := hi; simp at h'; omega
    rw [hcc i (by omega)]
    have hi3 : i < zs.length := by omega
    have h1 : zs.getD i 0 = zs[i] := by simp [List.getD, hi3]
    rw [h1]
    simp only [List.getElem_map, List.getElem_take]
  · obtain ⟨z, hz1, rfl⟩ := List.mem_map.1 hx
    have := bounds_u8 (hw z (List.mem_of_mem_take hz1))
    omega
  · obtain ⟨b, off, rfl, _⟩ := ints_at hc (by omega)
    exact ⟨b, off, rfl⟩

set_option maxRecDepth 100000 in
set_option maxHeartbeats 2000000 in
theorem lifted (os : Os) (started : os.Started) (H : Type) (enc : TypeId × Value → H) (F0 : Stop.Interp) :
    ReturnsInHanded {} Tryz.checked os 4 .any ((Rows.OpenSpec.upto Rows.ratioFormsSpec).preRow enc Tryz.prog Tryz.f4 Rows.ratioFormsUptoRow.domain false Rows.ratioFormsUptoRow.laid) (((Rows.OpenSpec.upto Rows.ratioFormsSpec).at F0).post enc Tryz.prog Tryz.f4 false true false false) := by
  refine returnsInHanded_of_row (C := Tryz.checked) own started (by kernel_rfl) Tryz.func4
    ⟨World.laidAll Tryz.prog os Rows.ratioFormsUptoRow.laid, fun _ _ => 0, ⟨#[], #[.int .i64 0, .int .i64 0, .int .i64 0, .int .i64 0, .slice none 0 0, .slice none 0 0, .string { data := #[] }, .slice none 0 0], []⟩, World.laidAll_os _ _ _, World.shaped_of_ZipB (by kernel_rfl) (by kernel_rfl), rfl, (Input.okWide_of_okWideB (by kernel_rfl)).2,
      ⟨⟨(OpenSpec.pre_some (s := Rows.OpenSpec.upto Rows.ratioFormsSpec) (k := Rows.uptoSmall) rfl _ _ _ _).2 ⟨[.lit (.int .i64 0), .lit (.int .i64 0), .lit (.int .i64 0), .lit (.int .i64 0), .nil, .nil, .lit (.string []), .nil], [], [], DataW.Whole_of_whole (fuel := 8) (x := ([.lit (.int .i64 0), .lit (.int .i64 0), .lit (.int .i64 0), .lit (.int .i64 0), .nil, .nil, .lit (.string []), .nil], [], [])) (by kernel_rfl), by kernel_rfl, by kernel_rfl⟩, by rw [MakeChecks.laidMetH_plain _ _ _ (by kernel_rfl)]; exact laidMet_laidAll _ (by kernel_rfl) (by kernel_rfl)⟩, sizedMet_of_sizedB (fuel := 8) (by kernel_rfl)⟩, by
        simp only [Assume.holds]
        exact ⟨by simp, by simp, fun _ => Modest.zero, by simp, by simp⟩⟩ ?_
  intro W base args ds gs before hval0 hW hcnd hsm0 _ hL _ _
  have hsm := hsm0 _ rfl
  have hval : ∀ (j : Nat) t v, Tryz.f4.params[j]? = some t → args[j]? = some v → Value.okWide Tryz.prog W .any base t v := hval0
  have hW' := hW
  obtain ⟨p, q, hA0, hV, rfl, hfz, hnd⟩ := hW
  have hA : DataW.TrodAll enc Tryz.prog W 0 (fun _ => true) true Tryz.f4.params.toList args.toList ds p := hA0
  rw [Tryz.params4] at hA hval
  obtain ⟨v0, vs0, d0, ds0, p0, q0, hargs, rfl, rfl, h0, r0⟩ := trodAll_cons hA
  obtain ⟨v1, vs1, d1, ds1, p1, q1, rfl, rfl, rfl, h1, r1⟩ := trodAll_cons r0
  obtain ⟨v2, vs2, d2, ds2, p2, q2, rfl, rfl, rfl, h2, r2⟩ := trodAll_cons r1
  obtain ⟨v3, vs3, d3, ds3, p3, q3, rfl, rfl, rfl, h3, r3⟩ := trodAll_cons r2
  obtain ⟨v4, vs4, d4, ds4, p4, q4, rfl, rfl, rfl, h4, r4⟩ := trodAll_cons r3
  obtain ⟨v5, vs5, d5, ds5, p5, q5, rfl, rfl, rfl, h5, r5⟩ := trodAll_cons r4
  obtain ⟨v6, vs6, d6, ds6, p6, q6, rfl, rfl, rfl, h6, r6⟩ := trodAll_cons r5
  obtain ⟨v7, vs7, d7, ds7, p7, q7, rfl, rfl, rfl, h7, r7⟩ := trodAll_cons r6
  obtain ⟨rfl, rfl, rfl⟩ := trodAll_nil r7
  obtain rfl : args = #[v0, v1, v2, v3, v4, v5, v6, v7] := by cases args; simp_all
  obtain ⟨rfl, rfl⟩ := trodVars_none hV
  have hblk : ∀ d, d ∈ [d0, d1, d2, d3, d4, d5, d6, d7] → Rows.uptoBulk d ≤ 1048576 := by
    intro d hd
    have h1 := bulk_mem _ d (List.mem_append_left [] hd)
    have h2 : Rows.uptoBulkAll ([d0, d1, d2, d3, d4, d5, d6, d7] ++ []) ≤ 1048576 := of_decide_eq_true hsm
    omega
  obtain ⟨a0, rfl, rfl, rfl, w0⟩ := open_int Tryz.underlying3 (hval 0 3 v0 rfl rfl) h0
  obtain ⟨a1, rfl, rfl, rfl, w1⟩ := open_int Tryz.underlying3 (hval 1 3 v1 rfl rfl) h1
  obtain ⟨a2, rfl, rfl, rfl, w2⟩ := open_int Tryz.underlying3 (hval 2 3 v2 rfl rfl) h2
  obtain ⟨a3, rfl, rfl, rfl, w3⟩ := open_int Tryz.underlying3 (hval 3 3 v3 rfl rfl) h3
  have h4k := h4
  have hlt4 : ∀ x ∈ p4, x.block < W.heap.size := fun x hx => hW'.lt x (by simp [hx])
  obtain ⟨A4, len4, cap4, rfl⟩ := okWide_slice Tryz.underlying27 (hval 4 27 v4 rfl rfl)
  obtain ⟨fuel, hf⟩ := h4
  have hraw4 : ∃ l, Lim W A4 cap4 l ∧ len4 = l.length := by
    obtain ⟨A, k, u, l, e, hl, hk⟩ := raw_limbs hf
    cases e
    exact ⟨l, hl, hk⟩
  obtain ⟨l4, hr4, hk4⟩ := hraw4
  clear hf
  have h5k := h5
  have hlt5 : ∀ x ∈ p5, x.block < W.heap.size := fun x hx => hW'.lt x (by simp [hx])
  obtain ⟨A5, len5, cap5, rfl⟩ := okWide_slice Tryz.underlying27 (hval 5 27 v5 rfl rfl)
  obtain ⟨fuel, hf⟩ := h5
  have hraw5 : ∃ l, Lim W A5 cap5 l ∧ len5 = l.length := by
    obtain ⟨A, k, u, l, e, hl, hk⟩ := raw_limbs hf
    cases e
    exact ⟨l, hl, hk⟩
  obtain ⟨l5, hr5, hk5⟩ := hraw5
  clear hf
  obtain ⟨s6, rfl, rfl, rfl, hz6⟩ := Go.ChangeMaps.open_string Tryz.underlying9 (hval 6 9 v6 rfl rfl) h6
  have hk6 : s6.size ≤ 1048576 := by
    have hb := hblk (.lit (.string s6.data.toList)) (by simp)
    simp only [Rows.uptoBulk, Array.length_toList] at hb
    have : s6.size = s6.data.size := rfl
    omega
  have h7k := h7
  have hlt7 : ∀ x ∈ p7, x.block < W.heap.size := fun x hx => hW'.lt x (by simp [hx])
  obtain ⟨A7, len7, cap7, rfl⟩ := okWide_slice Tryz.underlying23 (hval 7 23 v7 rfl rfl)
  obtain ⟨fuel, hf⟩ := h7
  have hraw7 : ∃ l : List Nat, By W A7 len7 cap7 l ∧ len7 ≤ 1048576 := by
    have hb := hblk d7 (by simp)
    rcases open_ints Tryz.underlying23 Tryz.underlying5 cells_u8 hf with ⟨hcs, hx⟩ | ⟨a, len', cap', zs, hcs, _, hl, hm, hz, hx, hcell, hwz⟩
    · simp [Value.cells] at hcs
      obtain ⟨rfl, rfl, rfl⟩ := hcs
      exact ⟨[], By.empty, by omega⟩
    · simp [Value.cells] at hcs
      obtain ⟨rfl, rfl, rfl⟩ := hcs
      simp only [Prod.mk.injEq] at hx
      rw [hx.1] at hb
      have hz2 : zs.length = cap7 := by simpa using hz
      have hb2 := bulk_len (lits (H := H) .u8 (zs.take len7))
      simp only [Rows.uptoBulk] at hb
      have hln : (lits (H := H) .u8 (zs.take len7)).length = len7 := by unfold lits; rw [List.length_map, List.length_take]; omega
      rw [hln] at hb2
      exact ⟨_, by_of hl hm (by simpa using hz) hcell hwz, by omega⟩
  obtain ⟨l7, hr7, hk7⟩ := hraw7
  clear hf
  clear hA0 hval0
  refine (YtmbfjmilhfmnkaaGreatDoor.ratio_forms_n A4 len4 cap4 A5 len5 cap5 l4 l5 s6 A7 len7 cap7 l7 a0 a1 a2 a3 W hr4 hk4 hr5 hk5 hk6 hr7 hk7 (bd w0) (bd w1) (bd w2) (bd w3)).mono fun e W' ⟨he, hg⟩ => ?_
  subst he
  exact ⟨_, rfl, ⟨_, _, _, [], _, [], hW', trodAll_cons_mk (shut_bool Tryz.underlying4 _) trodAll_mk0,
    (trodAll_cons_mk (shut_int Tryz.underlying3 w0) (trodAll_cons_mk (shut_int Tryz.underlying3 w1) (trodAll_cons_mk (shut_int Tryz.underlying3 w2) (trodAll_cons_mk (shut_int Tryz.underlying3 w3) (trodAll_cons_mk (Below.trod laidOut (by kernel_rfl) (of_decide_eq_true (by kernel_rfl)) h4k hg hlt4) (trodAll_cons_mk (Below.trod laidOut (by kernel_rfl) (of_decide_eq_true (by kernel_rfl)) h5k hg hlt5) (trodAll_cons_mk (Go.ChangeMaps.shut_string Tryz.underlying9 hz6) (trodAll_cons_mk (Below.trod laidOut (by kernel_rfl) (of_decide_eq_true (by kernel_rfl)) h7k hg hlt7) trodAll_mk0)))))))),
    rfl, hg.frame _, fun h => by cases h⟩⟩

/-- RatioForms, as it is given, where what it reads is of bulk at most 1048576. -/
theorem proved : Rows.RatioFormsUptoSaid :=
  OpenClaim.holds_of_cond 4 Tryz.f4 rfl rfl rfl rfl rfl rfl rfl ⟨rfl, rfl, rfl, rfl, rfl⟩ rfl rfl rfl rfl rfl (by kernel_rfl) Tryz.func4 (by kernel_rfl)
    (of_decide_eq_true (by kernel_rfl)) (by unfold Func.isWrapper; first | (rw [if_pos (by decide +kernel)]; kernel_rfl) | (rw [if_neg (by decide +kernel)]; exact ⟨rfl, rfl⟩))
    (fun os started H enc _ F0 => by rw [OpenClaim.pre_eq_preRow]; exact lifted os started H enc F0)
/-- The card. -/
theorem card_proved : Rows.RatioFormsUptoCardSaid :=
  Claim7.holds_tied_plain_at .later [] [.data, .pinned] true (true, "7aabd2f17a80b34b70dc48fc0312861456e4d3d1e3d0f1d0ca4212f287733273") false proved (fun _ h => by cases h) (by kernel_rfl) (fun _ h => by cases h) ratioFormsUpto_row_tie rfl ⟨rfl, rfl⟩ (by kernel_rfl) rfl
    (fun f fn hf hfn => by
      obtain rfl : f = 4 := Option.some.inj ((show Tryz.prog.funcNamed "culprit/culpritlaw05.RatioForms" = some 4 by kernel_rfl).symm.trans hf) |>.symm
      obtain rfl : fn = Tryz.f4 := (Option.some.inj (Tryz.func4.symm.trans hfn)).symm
      exact ⟨by kernel_rfl, fun j t ht => by
        rw [Tryz.params4] at ht
        have hm : t ∈ [3, 3, 3, 3, 27, 27, 9, 23] := by simpa using Array.mem_of_getElem? ht
        have hall : ([3, 3, 3, 3, 27, 27, 9, 23].all fun u => !Tryz.prog.wantsStandIn u) = true := by kernel_rfl
        exact (show Tryz.prog.wantsStandIn t = false by simpa using List.all_eq_true.1 hall t hm)⟩)
    (by kernel_rfl)
#print axioms card_proved
end Go.Proofs.YtmbfjmilhfmnkaaGreatDoor.ratioForms
