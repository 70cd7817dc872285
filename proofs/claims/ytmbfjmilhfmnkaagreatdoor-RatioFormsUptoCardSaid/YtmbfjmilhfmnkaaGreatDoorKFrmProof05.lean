import Derived.Test.YtmbfjmilhfmnkaaGreatDoorKRdsProof19
import Derived.ProofKit
import Derived.OpenShut
import Derived.Test.YtmbfjmilhfmnkaaGreatDoorS0
set_option linter.unusedVariables false
set_option linter.unusedSimpArgs false
namespace Go.Proofs.YtmbfjmilhfmnkaaGreatDoor
open Go Go.RowKit Go.ChangeShapes Go.WideShapes Go.ChangeAt
theorem cells_u32 : Tryz.prog.cellsOf 56 = 1 := by kernel_rfl
theorem cells_u32s : Tryz.prog.cellsOf 27 = 1 := by kernel_rfl
theorem cells_rat : Tryz.prog.cellsOf 29 = 2 := by kernel_rfl
theorem u32_wf {x : Int} (h : (Lit.int .u32 x).wf = true) : 0 ≤ x ∧ x < 4294967296 := by
 have := bounds_u32 h; omega
theorem u32s_get (l : List Nat) (i : Nat) (hi : i < (u32s l).length) (hi2 : i < l.length) : (u32s l)[i] = Value.int .u32 ((l[i] : Nat) : Int) := by simp [u32s]
/-- limbs handed in -/
theorem lim_of {w : World} {a : Addr} {len cap : Nat} {zs : List Int} (hl : len ≤ cap) (hm : cap ≤ maxLen) (hz : zs.length = cap) (hc : ∀ i, i < zs.length → w.cell? (a.add i) = some (.int .u32 (zs.getD i 0))) (hw : ∀ n ∈ zs, (Lit.int .u32 n).wf = true) :
  Lim w (some a) cap ((zs.take len).map Int.toNat) ∧ len = ((zs.take len).map Int.toNat).length := by
 have hlen : len = ((zs.take len).map Int.toNat).length := by rw [List.length_map, List.length_take]; omega
 refine ⟨⟨?_, by rw [← hlen]; exact hl, by unfold maxLen at hm; omega, ?_, fun h => by cases h⟩, hlen⟩
 ·intro hne
  have hpos : 0 < zs.length := by
   rcases Nat.eq_zero_or_pos zs.length with h0 | h0
   ·exfalso; apply hne
    have : zs = [] := List.eq_nil_of_length_eq_zero h0; subst this; simp [u32s]
   ·exact h0
  obtain ⟨b, off, rfl, hcc⟩ := ints_at hc hpos; refine ⟨b, off, rfl, fun i hi => ?_⟩
  have hi2 : i < len := by
   have h' := hi; unfold u32s at h'; rw [List.length_map, ← hlen] at h'; exact h'
  rw [hcc i (by omega)]; have hi3 : i < zs.length := by omega
  have h1 : zs.getD i 0 = zs[i] := by simp [List.getD, hi3]
  have h2 := u32_wf (hw zs[i] (List.getElem_mem hi3)); rw [h1]; rw [u32s_get _ _ hi (by omega)]; simp only [List.getElem_map, List.getElem_take]; rw [Int.toNat_of_nonneg h2.1]
 ·intro x hx; obtain ⟨z, hz1, rfl⟩ := List.mem_map.1 hx; have h2 := u32_wf (hw z (List.mem_of_mem_take hz1)); unfold Nm.B; omega
theorem raw_limbs {H : Type} {enc : TypeId × Value → H} {w : World} {base : Nat} {held : Bool} {n : Nat} {c : Value} {x : DataW H × List MemPlace} (h : DataW.trod enc Tryz.prog w base (fun _ => true) held n 27 [c] = some x) : ∃ A k u l, c = .slice A k u ∧ Lim w A u l ∧ k = l.length := by
 rcases open_ints Tryz.underlying27 Tryz.underlying56 cells_u32 h with ⟨hcs, _⟩ | ⟨a, len, cap, zs, hcs, _, hl, hm, hz, _, hcell, hwz⟩
 ·simp only [List.cons.injEq, and_true] at hcs; exact ⟨none, 0, 0, [], hcs, ⟨fun h => absurd rfl h, Nat.le_refl _, by omega, (fun x hx => by cases hx), fun _ => rfl⟩, rfl⟩
 ·simp only [List.cons.injEq, and_true] at hcs; obtain ⟨h1, h2⟩ := lim_of hl hm (by simpa using hz) hcell hwz; exact ⟨_, _, _, _, hcs, h1, h2⟩
/-- a ratio handed in -/
theorem raw_ratio {H : Type} {enc : TypeId × Value → H} {w : World} {base : Nat} {held : Bool} {fuel : Nat} {cs : Array Value} {x : DataW H × List MemPlace} (h : DataW.trod enc Tryz.prog w base (fun _ => true) held fuel 29 cs.toList = some x) : ∃ X : LP, RtP w (.agg cs) X := by
 obtain ⟨y0, y1, n, _, hlen, h0, h1⟩ := trod_struct2 Tryz.underlying29 h; rw [cells_rat] at hlen
 obtain ⟨c0, c1, hcs⟩ : ∃ c0 c1, cs.toList = [c0, c1] := by
  match hq : cs.toList, hlen with
  | [c0, c1], _ => exact ⟨c0, c1, rfl⟩
 have e : cs = #[c0, c1] := by rw [← Array.toArray_toList (xs := cs), hcs]
 rw [hcs, cells_u32s] at h0 h1; obtain ⟨A1, k1, u1, l1, rfl, m1, e1⟩ := raw_limbs h0; obtain ⟨A2, k2, u2, l2, rfl, m2, e2⟩ := raw_limbs h1; exact ⟨(l1, l2), _, _, _, _, _, _, by rw [e], m1, m2, e1, e2⟩
end Go.Proofs.YtmbfjmilhfmnkaaGreatDoor
