import Derived.Test.YtijkfagkbfbpmaaGreatDoorKByProof20
import Derived.Test.YtijkfagkbfbpmaaGreatDoorKByProof29
import Derived.Laws.IdiomCopy
import Derived.Test.YtijkfagkbfbpmaaGreatDoorS0
set_option linter.unusedVariables false
set_option linter.unusedSimpArgs false
namespace Go.Proofs.YtijkfagkbfbpmaaGreatDoor
open Go Go.RowKit
/-- a stream's cells: the state, the last block, the length -/
def strmC (s : R8) (bk : Nat → Nat) (n : Nat) : List Value := cells8 s ++ ((List.range 64).map (fun j => Value.int .u8 (bk j : Nat))) ++ [.int .u64 (n : Nat)]
theorem strmC_len (s : R8) (bk : Nat → Nat) (n : Nat) : (strmC s bk n).length = 73 := by simp [strmC, cells8]
theorem strmC_s {s : R8} {bk : Nat → Nat} {n j : Nat} (h : j < 8) : (strmC s bk n)[j]? = some (.int .u32 (wv (s.wd j))) := by
 unfold strmC; rw [List.append_assoc, List.getElem?_append_left (by simpa [cells8] using h), cells8_eq]; have h2 := arW_get (n := 8) (f := s.wd) h; unfold arW at h2
 simpa using h2
theorem strmC_b {s : R8} {bk : Nat → Nat} {n j : Nat} (h1 : 8 ≤ j) (h : j < 72) : (strmC s bk n)[j]? = some (.int .u8 (bk (j - 8) : Nat)) := by
 unfold strmC; rw [List.append_assoc, List.getElem?_append_right (by simpa [cells8] using h1), List.getElem?_append_left (by simp [cells8]; omega)]; simp [cells8, show j - 8 < 64 by omega]
theorem strmC_n {s : R8} {bk : Nat → Nat} {n : Nat} : (strmC s bk n)[72]? = some (.int .u64 (n : Nat)) := by
 unfold strmC; rw [List.getElem?_append_right (by simp [cells8])]; simp [cells8]
theorem strmC_o {s : R8} {bk : Nat → Nat} {n j : Nat} (h : 73 ≤ j) : (strmC s bk n)[j]? = none := by
 rw [List.getElem?_eq_none_iff, strmC_len]; exact h
theorem strmC_one {s : R8} {bk : Nat → Nat} {n : Nat} : ∀ v ∈ strmC s bk n, v.oneCell' = true := by
 intro v hv; unfold strmC at hv; rw [List.mem_append, List.mem_append] at hv
 rcases hv with (hv | hv) | hv
 ·simp only [cells8, List.mem_cons, List.not_mem_nil, or_false] at hv
  rcases hv with rfl | rfl | rfl | rfl | rfl | rfl | rfl | rfl <;> rfl
 ·obtain ⟨j, _, rfl⟩ := List.mem_map.1 hv; rfl
 ·simp only [List.mem_singleton] at hv; rw [hv]; rfl
theorem arr_ext {a : Array Value} {l : List Value} (h : ∀ j : Nat, a[j]? = l[j]?) : a = l.toArray := by
 apply Array.ext_getElem?
 intro j; rw [h j]; simp
/-- new bytes in the block -/
def putB (bk : Nat → Nat) (a : Nat) (l : List Nat) (j : Nat) : Nat := if a ≤ j ∧ j < a + l.length then l.getD (j - a) 0 else bk j
theorem strmC_put {s : R8} {bk : Nat → Nat} {n a : Nat} {l : List Nat} (h : a + l.length ≤ 64) : overL (strmC s bk n).toArray (8 + a) (l.flatMap u8C) = (strmC s (putB bk a l) n).toArray := by
 have hf : (l.flatMap u8C).length = l.length := flat_u8 l; obtain ⟨h1, h2⟩ := overL_get (l.flatMap u8C) (8 + a) (strmC s bk n).toArray (by rw [List.size_toArray, strmC_len, hf]; omega); refine arr_ext fun j => ?_
 rw [h2 j, hf, List.getElem?_toArray]; by_cases c1 : j < 8
 ·rw [if_pos (by omega), strmC_s c1, strmC_s c1]
 ·by_cases c2 : j < 72
  ·rw [strmC_b (by omega) c2, strmC_b (by omega) c2]; unfold putB; by_cases c3 : j < 8 + a
   ·rw [if_pos c3, if_neg (by omega)]
   ·rw [if_neg c3]; by_cases c4 : j < 8 + a + l.length
    ·rw [if_pos c4, if_pos (by omega)]; have hi : j - (8 + a) < l.length := by omega
     have hg := flat_get u8C_len l (j - (8 + a)) 0 hi (.int .u8 (l[j - (8 + a)] : Nat)) rfl; rw [Nat.mul_one, Nat.add_zero] at hg; rw [hg, show j - 8 - a = j - (8 + a) by omega, List.getD_eq_getElem?_getD, List.getElem?_eq_getElem hi]; rfl
    ·rw [if_neg c4, if_neg (by omega)]
  ·rw [if_neg (by omega), if_neg (by omega)]; by_cases c5 : j = 72
   ·subst c5; rw [strmC_n, strmC_n]
   ·rw [strmC_o (by omega), strmC_o (by omega)]
theorem strmC_setn {s : R8} {bk : Nat → Nat} {n m : Nat} : (strmC s bk n).toArray.setIfInBounds 72 (.int .u64 (m : Nat)) = (strmC s bk m).toArray := by
 refine arr_ext fun j => ?_
 rw [Array.getElem?_setIfInBounds, List.getElem?_toArray]; by_cases e : 72 = j
 ·subst e; rw [if_pos rfl, if_pos (by rw [List.size_toArray, strmC_len]; omega), strmC_n]
 ·rw [if_neg e]; by_cases c1 : j < 8
  ·rw [strmC_s c1, strmC_s c1]
  ·by_cases c2 : j < 72
   ·rw [strmC_b (by omega) c2, strmC_b (by omega) c2]
   ·rw [strmC_o (by omega), strmC_o (by omega)]
theorem strmC_sets {s s' : R8} {bk : Nat → Nat} {n : Nat} : overL (strmC s bk n).toArray 0 (arW 8 s'.wd).toList = (strmC s' bk n).toArray := by
 have hl : (arW 8 s'.wd).toList.length = 8 := by simp [arW, arL]
 obtain ⟨h1, h2⟩ := overL_get (arW 8 s'.wd).toList 0 (strmC s bk n).toArray (by rw [List.size_toArray, strmC_len, hl]; omega); refine arr_ext fun j => ?_
 rw [h2 j, hl, List.getElem?_toArray, if_neg (by omega)]; by_cases c1 : j < 8
 ·rw [if_pos (by omega), strmC_s c1, Nat.sub_zero]; have h3 := arW_get (n := 8) (f := s'.wd) c1
  simpa using h3
 ·rw [if_neg (by omega)]; by_cases c2 : j < 72
  ·rw [strmC_b (by omega) c2, strmC_b (by omega) c2]
  ·by_cases c5 : j = 72
   ·subst c5; rw [strmC_n, strmC_n]
   ·rw [strmC_o (by omega), strmC_o (by omega)]
/-- the state behind a message -/
structure StOk (m : List Nat) (s : R8) (bk : Nat → Nat) : Prop where
 st : s = hkW m (m.length / 64)
 tl : ∀ j, j < m.length % 64 → bk j = m.getD (64 * (m.length / 64) + j) 0
 by_ : ∀ j, bk j < 256
theorem hkW_app {m x : List Nat} : ∀ {k : Nat}, 64 * k ≤ m.length → hkW (m ++ x) k = hkW m k
 | 0, _ => rfl
 | k + 1, h => by
  rw [hkW, hkW, hkW_app (by omega)]
  congr 1
  rw [List.drop_append, List.take_append_of_le_length (by rw [List.length_drop]; omega)]
theorem getD_app {m x : List Nat} {j : Nat} (h : j < m.length) : (m ++ x).getD j 0 = m.getD j 0 := by
 rw [List.getD_eq_getElem?_getD, List.getD_eq_getElem?_getD, List.getElem?_append_left h]
theorem getD_app2 {m x : List Nat} {j : Nat} (h : m.length ≤ j) : (m ++ x).getD j 0 = x.getD (j - m.length) 0 := by
 rw [List.getD_eq_getElem?_getD, List.getD_eq_getElem?_getD, List.getElem?_append_right h]
theorem putB_lt {bk : Nat → Nat} {a : Nat} {l : List Nat} (hb : ∀ j, bk j < 256) (hl : ∀ x ∈ l, x < 256) (j : Nat) : putB bk a l j < 256 := by
 unfold putB; by_cases h : a ≤ j ∧ j < a + l.length
 ·rw [if_pos h, List.getD_eq_getElem?_getD, List.getElem?_eq_getElem (by omega)]; exact hl _ (List.getElem_mem _)
 ·rw [if_neg h]; exact hb j
theorem StOk.part {m l : List Nat} {s : R8} {bk : Nat → Nat} (h : StOk m s bk) (hl : ∀ x ∈ l, x < 256) (hs : m.length % 64 + l.length < 64) : StOk (m ++ l) s (putB bk (m.length % 64) l) := by
 have e : (m ++ l).length / 64 = m.length / 64 := by rw [List.length_append]; omega
 have e2 : (m ++ l).length % 64 = m.length % 64 + l.length := by rw [List.length_append]; omega
 refine ⟨by rw [e, hkW_app (by omega)]; exact h.st, fun j hj => ?_, putB_lt h.by_ hl⟩; rw [e2] at hj; rw [e]; unfold putB; by_cases hc : m.length % 64 ≤ j
 ·rw [if_pos ⟨hc, hj⟩, getD_app2 (by omega)]
  congr 1
  omega
 ·rw [if_neg (by omega), getD_app (by omega)]; exact h.tl j (by omega)
/-- the block, full -/
def blkL (bk : Nat → Nat) : List Nat := (List.range 64).map bk
theorem StOk.whole {m l : List Nat} {s : R8} {bk : Nat → Nat} (h : StOk m s bk) (hl : ∀ x ∈ l, x < 256) (hs : m.length % 64 + l.length = 64) : StOk (m ++ l) (cmpW s (blkL (putB bk (m.length % 64) l))) (putB bk (m.length % 64) l) := by
 have e : (m ++ l).length / 64 = m.length / 64 + 1 := by rw [List.length_append]; omega
 have e2 : (m ++ l).length % 64 = 0 := by rw [List.length_append]; omega
 refine ⟨?_, fun j hj => by omega, putB_lt h.by_ hl⟩; rw [e, hkW, hkW_app (by omega), ← h.st]
 congr 1
 apply List.ext_getElem?
 intro j; have hlen : (((m ++ l).drop (64 * (m.length / 64))).take 64).length = 64 := by rw [List.length_take, List.length_drop, List.length_append]; omega
 by_cases hj : j < 64
 ·rw [List.getElem?_take, if_pos hj, List.getElem?_drop]; unfold blkL; rw [List.getElem?_map, List.getElem?_range hj]
  show some (putB bk (m.length % 64) l j) = _
  have hlt : 64 * (m.length / 64) + j < (m ++ l).length := by rw [List.length_append]; omega
  have hd : (m ++ l)[64 * (m.length / 64) + j]? = some ((m ++ l).getD (64 * (m.length / 64) + j) 0) := by
   rw [List.getD_eq_getElem?_getD, List.getElem?_eq_getElem hlt]; rfl
  rw [hd]
  congr 1
  unfold putB; by_cases hc : m.length % 64 ≤ j
  ·rw [if_pos ⟨hc, by omega⟩, getD_app2 (by omega)]
   congr 1
   omega
  ·rw [if_neg (by omega), getD_app (by omega)]; exact h.tl j (by omega)
 ·rw [List.getElem?_eq_none (by unfold blkL; simp; omega), List.getElem?_eq_none (by omega)]
/-- text of bytes: its parts -/
theorem txB_size (l : List Nat) : (txB l).size = l.length := by simp [txB, ByteArray.size]
theorem run_copy_str (w : World) (dT sT ty elem : TypeId) (b o dLen dCap : Nat) (l : List Nat) (n : Nat) (hl : ∀ x ∈ l, x < 256)
  (hu : Tryz.prog.underlying dT = some (.slice elem)) (hs : (Tryz.prog.info? elem).map (·.size) = some 1) (hn : n = Nat.min l.length dLen)
  (hc : ∀ j, j < n → (w.cell? ⟨b, o + j, none⟩).isSome = true) (hf : ∀ j, j < n → w.frozen? ⟨b, o + j, none⟩ = false) :
  (Builtin.copy_ #[dT, sT] ty #[.slice (some ⟨b, o, none⟩) dLen dCap, .string (txB l)]).run Tryz.prog w = .ok (goInt n) (w.setCells b o ((l.take n).flatMap u8C)) := by
 have hn1 : n ≤ l.length := by rw [hn]; exact Nat.min_le_left _ _
 have hcs : List.take n (List.map (fun b : UInt8 => Value.int .u8 (b.toNat : Int)) (txB l).data.toList) = (l.take n).flatMap u8C := by
  have e1 : (txB l).data.toList = l.map UInt8.ofNat := by simp [txB]
  rw [e1, ← List.map_take, ← List.map_take]; have hl2 : ∀ x ∈ l.take n, x < 256 := fun x hx => hl x (List.mem_of_mem_take hx)
  generalize l.take n = q at hl2
  induction q with
  | nil => rfl
  | cons x q ih =>
   rw [List.map_cons, List.map_cons, List.flatMap_cons, ih (fun y hy => hl2 y (by simp [hy]))]; have hx := hl2 x (by simp); have e : (UInt8.ofNat x).toNat = x := by simp [Nat.mod_eq_of_lt hx]
   rw [e]; rfl
 have hlen : ((l.take n).flatMap u8C).length = n := by rw [flat_u8, List.length_take]; omega
 have hst := run_storeCells_cells (P := Tryz.prog) b o ((l.take n).flatMap u8C) 0 w (by rw [hlen]; simpa using hc) (by rw [hlen]; simpa using hf) (by
  intro v hv; obtain ⟨x, _, hx⟩ := List.mem_flatMap.1 hv; simp only [u8C, List.mem_singleton] at hx
  rw [hx]; rfl)
 cases hq : Tryz.prog.info? elem with
 | none => simp [hq] at hs
 | some i =>
  have hi : i.size = 1 := by simpa [hq] using hs
  have hsz := txB_size l; simp only [Nat.add_zero] at hst; simp [Builtin.copy_, run_underlying hu, Builtin.lenOf, Builtin.firstCells, sizeOf, typeInfo, hq, hi, hsz, ← hn]; rw [hcs]; rw [hst]; rfl
theorem wpList_copy_str {w : World} {ops : Array Oper} {rest : List Oper} {o : Oper} {a : Act} {Q : Exit → Act → World → Prop} (hgd : o.guard = none) (d s : Operand) (dT sT : TypeId)
  (ho : o.op = .call { callee := .builtin .copy, args := #[d, s], argTypes := #[dT, sT] }) (elem : TypeId) (hu : Tryz.prog.underlying dT = some (.slice elem)) (hsz : (Tryz.prog.info? elem).map (·.size) = some 1)
  (g off dLen dCap : Nat) (l : List Nat) (n : Nat) (hl : ∀ x ∈ l, x < 256) (hd : a.eval d = .slice (some ⟨g, off, none⟩) dLen dCap) (hs : a.eval s = .string (txB l)) (hn : n = Nat.min l.length dLen)
  (hc : ∀ j, j < n → (w.cell? ⟨g, off + j, none⟩).isSome = true) (hf : ∀ j, j < n → w.frozen? ⟨g, off + j, none⟩ = false)
  (h : wpList Tryz.prog ops Q rest (a.put o.dst (goInt n)) (w.setCells g off ((l.take n).flatMap u8C))) : wpList Tryz.prog ops Q (o :: rest) a w := by
 refine wpList_plain hgd fun K hK => ?_
 have hrun := run_copy_str w dT sT o.type elem g off dLen dCap l n hl hu hsz hn hc hf; unfold Oper.wp; simp [execOp, ho, resolve, invoke, builtin, hd, hs, hrun, Result.andThen]; exact hK _ _ h
end Go.Proofs.YtijkfagkbfbpmaaGreatDoor
namespace Go.Proofs.YtijkfagkbfbpmaaGreatDoor
open Go Go.RowKit
theorem txB_emp (l : List Nat) : (txB l).toList.isEmpty = l.isEmpty := by rw [ByteArray.toList_eq]; simp [txB]
theorem KcT.setAll {w : World} {g g' : Nat} (h : KcT w g) (hne : g ≠ g') (vs : List Value) (o : Nat) : KcT (w.setCells g' o vs) g := by
 obtain ⟨t, fr, h⟩ := h; refine ⟨t, fr, ?_⟩
 induction vs generalizing o w with
 | nil => exact h
 | cons v vs ih => exact ih (o + 1) ((Below.heap_setCell w ⟨g', o, none⟩ v g hne).trans h)
theorem sliceAt_blk (g a : Nat) (w : World) (h : a < 64) : (Instr.sliceAt 111 (.pointer (some ⟨g, 8, none⟩)) (some (.int .i64 (a : Int))) none none).run Tryz.prog w = .ok (.slice (some ⟨g, 8 + a, none⟩) (64 - a) (64 - a)) w := by
 have h1 : (0 : Int) ≤ (a : Int) ∧ (a : Int) ≤ 64 := by omega
 have h2 : ¬ 64 = a := by omega
 have h3 : a ≤ 64 := by omega
 simp [Instr.sliceAt, run_underlying Tryz.underlying111, go_sem, h1, h2, h3]
theorem slice_txB (l : List Nat) (n : Nat) (w : World) (h : n ≤ l.length) : (Instr.slice 9 (.string (txB l)) (some (.int .i64 (n : Int))) none none).run Tryz.prog w = .ok (.string (txB (l.drop n))) w := by
 have h1 : (0 : Int) ≤ (n : Int) ∧ (n : Int) ≤ (l.length : Int) := by omega
 have hs := txB_size l; simp [Instr.slice, run_underlying Tryz.underlying9, go_sem, hs, h1]
 apply ByteArray.ext
 apply Array.toList_inj.1
 simp [txB, List.map_drop]; rw [List.take_of_length_le (by simp)]
theorem strm_by {w : World} {g : Nat} {T : TypeId} {s : R8} {bk : Nat → Nat} {n : Nat} (h : Blk w g T (strmC s bk n).toArray) (hb : ∀ j, bk j < 256) : By w (some ⟨g, 8, none⟩) 64 64 (blkL bk) := by
 have hl : (blkL bk).length = 64 := by simp [blkL]
 refine ⟨⟨?_, hl.symm, by omega⟩, by omega, by omega, ?_, fun _ => ⟨g, 8, rfl⟩⟩
 ·intro _; refine ⟨g, 8, rfl, fun i hi => ?_⟩; have hi2 : i < 64 := by rw [flat_u8, hl] at hi; exact hi
  rw [h.cell, List.getElem?_toArray, strmC_b (by omega) (by omega)]; have hg := flat_get u8C_len (blkL bk) i 0 (by omega) (.int .u8 ((blkL bk)[i] : Nat)) rfl; rw [Nat.mul_one, Nat.add_zero, List.getElem?_eq_getElem hi] at hg; rw [hg, show 8 + i - 8 = i by omega]; simp [blkL]
 ·intro x hx; obtain ⟨j, _, rfl⟩ := List.mem_map.1 hx; exact hb j
/-- behind a region that stores a list of values -/
def SStoreL (w1 : World) (g i : Nat) (V : List Value) : List Value → (Nat → Value) → World → Prop
 | [], _, W => Below w1.heap.size w1 W
 | [_], _, W => ∃ W0, Below w1.heap.size w1 W0 ∧ W = W0.setCells g i V
 | _, _, _ => True
theorem info8c {s : R8} : (Tryz.prog.info? 110).map (·.size) = some (cells8 s).length := by kernel_rfl
theorem info8cs {s : R8} : (Tryz.prog.info? 110).map (·.size) = some (cells8 s).toArray.size := by kernel_rfl
theorem cells8_one {s : R8} : ∀ v ∈ cells8 s, v.oneCell' = true := by
 intro v hv; simp only [cells8, List.mem_cons, List.not_mem_nil, or_false] at hv
 rcases hv with rfl | rfl | rfl | rfl | rfl | rfl | rfl | rfl <;> rfl
def PhiAd7 (gB : Nat) (s' s3 : R8) (vs : Nat → Value) (j : Nat) (w : World) (x : Value) : Prop :=
 match j with
 | 0 => x = .pointer (some ⟨gB, 0, none⟩)
 | 1 => x = .agg (cells8 s').toArray
 | 2 => x = .pointer (some ⟨gB, 8, none⟩)
 | 3 => x = .slice (some ⟨gB, 8, none⟩) 64 64
 | 4 => x = .agg (cells8 s3).toArray
 | 5 => x = .pointer (some ⟨gB, 0, none⟩)
 | _ => True
theorem PhiAd7.keepR {gB : Nat} {s' s3 : R8} : ∀ vs (w w' : World), Below w.heap.size w w' → ∀ j x, PhiAd7 gB s' s3 vs j w x → PhiAd7 gB s' s3 vs j w' x := fun _ _ _ _ _ _ h => h
theorem PhiAd7.keepF {gB : Nat} {s' s3 : R8} : ∀ vs (w w' : World) j x, ([] : List Nat).contains j = true → PhiAd7 gB s' s3 vs j w x → PhiAd7 gB s' s3 vs j w' x := fun _ _ _ _ _ _ h => h
theorem infoStrm {s : R8} {bk : Nat → Nat} {n : Nat} : (Tryz.prog.info? 114).map (·.size) = some (strmC s bk n).length := by rw [strmC_len]; kernel_rfl
theorem infoStrmS {s : R8} {bk : Nat → Nat} {n : Nat} : (Tryz.prog.info? 114).map (·.size) = some (strmC s bk n).toArray.size := by rw [List.size_toArray, strmC_len]; kernel_rfl
set_option maxRecDepth 100000 in
set_option maxHeartbeats 8000000 in
theorem hadd_n (m l : List Nat) (s : R8) (bk : Nat → Nat) (w : World) (hl : ∀ x ∈ l, x < 256) (hlen : (m ++ l).length ≤ 1099511627776) (H : StOk m s bk) (hK : KcT w 0) :
  Calls Tryz.prog 76 #[.agg (strmC s bk m.length).toArray, .string (txB l)] w fun e w' => ∃ s' bk', e = .returned (.agg (strmC s' bk' (m ++ l).length).toArray) ∧ StOk (m ++ l) s' bk' ∧ Below w.heap.size w w' := by
 go_enter Tryz.func76, Tryz.ntmps76
 go_wp2_with fail; refine wp_name ?_; intro w2 HW; have hb2 : Below w.heap.size w w2 := by rw [HW.out]; exact Below.tr (bA _ _) (bA _ _)
 have BB : Blk w2 w.heap.size 114 (strmC s bk m.length).toArray := by rw [HW.out]; exact (Blk.new _ _ _).alloc _
 have HR : Hid (∃ arr : Array Value, Blk w2 (w.heap.size + 1) 114 arr ∧ arr.size = 73) := by rw [HW.out]; exact ⟨_, heap_alloc_new' _ _ _ (alloc_sz _ _), rfl⟩
 have hK0 := hK.lt; have hK := hK.below hb2; have hsz := hb2.size; clear HW; obtain ⟨gB, hgB⟩ : ∃ g, Hid (g = w.heap.size) := ⟨_, rfl⟩; obtain ⟨gR, hgR⟩ : ∃ g, Hid (g = w.heap.size + 1) := ⟨_, rfl⟩; rw [← hgR.out] at HR ⊢; rw [← hgB.out] at BB ⊢; have hge : w.heap.size ≤ gB := by have := hgB.out; omega
 have hgeR : w.heap.size ≤ gR := by have := hgR.out; omega
 have hne : gR ≠ gB := by have := hgB.out; have := hgR.out; omega
 have h0 : gB ≠ 0 ∧ gR ≠ 0 := by have := hK0; have := hgB.out; have := hgR.out; omega
 go_loopg [1] (l.length) (fun mm x wr => ∃ (j : Nat) (s' : R8) (bk' : Nat → Nat), x = .string (txB (l.drop j)) ∧ j + mm = l.length ∧ Hid (StOk (m ++ l.take j) s' bk') ∧ Hid (Blk wr gB 114 (strmC s' bk' (m ++ l.take j).length).toArray) ∧ Hid (∃ arr : Array Value, Blk wr gR 114 arr ∧ arr.size = 73) ∧ KcT wr 0 ∧ Below w.heap.size w wr)
 case atStart =>
  refine ⟨0, s, bk, rfl, by omega, ?_, ?_, HR, hK, hb2⟩
  ·show StOk _ _ _
   rw [List.take_zero, List.append_nil]; exact H
  ·show Blk _ _ _ _
   rw [List.take_zero, List.append_nil]; exact BB
 case round =>
  clear BB HR hK hb2 H; obtain ⟨G, hG⟩ : ∃ G, G = gk := ⟨gk, rfl⟩; subst hG; obtain ⟨j, s', bk', rfl, hjm, HS, HB, HR, hK, hbe⟩ := hrel; obtain ⟨M, HM⟩ : ∃ M, Hid (M = m ++ l.take j) := ⟨_, rfl⟩; rw [← HM.out] at HS HB; obtain ⟨N, HN⟩ : ∃ N, Hid (N = M.length) := ⟨_, rfl⟩; rw [← HN.out] at HB; have hNle : N ≤ 1099511627776 := by rw [HN.out, HM.out, List.length_append, List.length_take]; rw [List.length_append] at hlen; omega
  by_cases hj : j < l.length
  rotate_left
  ·have hem : (txB (l.drop j)).toList.isEmpty = true := by rw [txB_emp, List.drop_eq_nil_of_le (by omega)]; rfl
   obtain ⟨arr, hR1, hR2⟩ := HR.out; have BF := HB.out
   go_wp2_with (first | (refine wpList_load_mid rfl 114 (.tmp 2) rfl gB 0 rfl (strmC s' bk' N) _ (Blk.range BF) Tryz.underlying114 rfl infoStrm ?_; simp only [Act.put, sA, sB, sC]) | (refine wpList_store_mid rfl 114 (.tmp 4) (.tmp 37) rfl gR 0 (strmC s' bk' N).toArray rfl rfl (Blk.there hR1 (by rw [hR2, List.size_toArray, strmC_len])) infoStrmS (all_oneCell_toArray strmC_one) ?_))
   (try simp only [Exit.inBlock, Exit.then])
   have hfin := Blk.setAll (cs := (strmC s' bk' N).toArray) hR1 (by rw [hR2, List.size_toArray, strmC_len]); refine bodyPost_ret (results_cell_row rfl _ _ gR 114 _ (0, 0) _ rfl hfin Tryz.underlying114 rfl infoStrmS) rfl ⟨s', bk', ?_, ?_, below_setAll hgeR _ 0 hbe⟩
   ·rw [HN.out, HM.out, List.take_of_length_le (by omega)]
   ·have h := HS.out; rw [HM.out, List.take_of_length_le (by omega)] at h; exact h
  obtain ⟨a, HA⟩ : ∃ a, Hid (a = N % 64) := ⟨_, rfl⟩; obtain ⟨n, Hn⟩ : ∃ n, Hid (n = min (64 - a) (l.length - j)) := ⟨_, rfl⟩; have ha64 : a < 64 := by rw [HA.out]; omega
  have hn0 : 0 < n := by rw [Hn.out]; omega
  have hn1 : n ≤ 64 - a := by rw [Hn.out]; omega
  have hn2 : j + n ≤ l.length := by rw [Hn.out]; omega
  have hem : (txB (l.drop j)).toList.isEmpty = false := by
   rw [txB_emp, Bool.eq_false_iff]; intro h; have h2 := congrArg List.length (List.isEmpty_iff.1 h); rw [List.length_drop, List.length_nil] at h2; omega
  have BW := HB.out; have cN : wr.cell? ⟨gB, 72, none⟩ = some (.int .u64 (N : Nat)) := by rw [BW.cell, List.getElem?_toArray, strmC_n]
  have hA : (N : Int) % 64 = (a : Int) := by rw [HA.out]; omega
  have hsl := fun w => sliceAt_blk gB a w ha64
  have hss := fun w => slice_txB (l.drop j) n w (by rw [List.length_drop]; omega)
  rw [List.drop_drop] at hss; obtain ⟨x, Hx⟩ : ∃ x, Hid (x = (l.drop j).take n) := ⟨_, rfl⟩; have hxl : x.length = n := by rw [Hx.out, List.length_take, List.length_drop]; omega
  have hxb : ∀ y ∈ x, y < 256 := fun y hy => hl y (List.mem_of_mem_drop (List.mem_of_mem_take (by rw [Hx.out] at hy; exact hy)))
  have HLD : Hid (∀ y ∈ l.drop j, y < 256) := fun y hy => hl y (List.mem_of_mem_drop hy)
  have HCC : Hid (∀ i, i < n → (wr.cell? ⟨gB, 8 + a + i, none⟩).isSome = true) := fun i hi => by rw [BW.cell, List.getElem?_toArray, strmC_b (by omega) (by omega)]; rfl
  have HCF : Hid (∀ i, i < n → wr.frozen? ⟨gB, 8 + a + i, none⟩ = false) := fun i hi => BW.frozen _
  have HNM : Hid (n = Nat.min (l.drop j).length (64 - a)) := by show _ = _; rw [Hn.out, List.length_drop, Nat.min_comm]
  have hxb := Lib.hid hxb; have hxl := Lib.hid hxl
  go_upto_region 4 with (first | (refine wpList_copy_str rfl (.tmp 15) (.tmp 16) 72 9 rfl 5 Tryz.underlying72 (by kernel_rfl) gB (8 + a) (64 - a) (64 - a) (l.drop j) n HLD.out rfl rfl HNM.out HCC.out HCF.out ?_))
  rw [← Hx.out]; refine wp_name ?_; intro W1 HW1
  have B1 : Blk W1 gB 114 (strmC s' (putB bk' a x) N).toArray := by
   rw [HW1.out, ← strmC_put (by rw [hxl.out]; omega)]; exact Blk.over _ _ BW
  have hbe1 : Below w.heap.size w W1 := by rw [HW1.out]; exact below_setAll hge _ _ hbe
  have HR1 : Hid (∃ arr : Array Value, Blk W1 gR 114 arr ∧ arr.size = 73) := by
   obtain ⟨arr, h1, h2⟩ := HR.out; rw [HW1.out]; exact ⟨arr, Blk.farAll hne _ _ h1, h2⟩
  have hK1 : KcT W1 0 := by rw [HW1.out]; exact hK.setAll (Ne.symm h0.1) _ _
  clear HCC HCF HLD HNM BW HB HR hK hbe cN HW1 hsl hA; have cN : W1.cell? ⟨gB, 72, none⟩ = some (.int .u64 (N : Nat)) := by rw [B1.cell, List.getElem?_toArray, strmC_n]
  have cF := B1.frozen 72; have hnu : (n : Int) % 18446744073709551616 = (n : Int) := by omega
  have hNn : ((N : Int) + (n : Int)) % 18446744073709551616 = ((N + n : Nat) : Int) := by omega
  obtain ⟨q, Hq⟩ : ∃ q, Hid (q = a + n) := ⟨_, rfl⟩; have hq : IntKind.i64.wrap ((a : Int) + (n : Int)) = (q : Int) := by rw [IntWalk.i64_in _ (by omega), Hq.out]; omega
  have HMX : Hid (m ++ l.take (j + n) = M ++ x) := by show _ = _; rw [HM.out, Hx.out, List.take_add, List.append_assoc]
  have HNX : Hid ((M ++ x).length = N + n) := by show _ = _; rw [List.length_append, hxl.out, ← HN.out]
  go_upto_region 6 with fail; refine wp_name ?_; intro W2 HW2
  have B2 : Blk W2 gB 114 (strmC s' (putB bk' a x) (N + n)).toArray := by
   have h := B1.set_ 72 (.int .u64 ((N + n : Nat) : Int)); rw [strmC_setn, Int.natCast_add] at h; rw [HW2.out]; exact h
  have hbe2 : Below w.heap.size w W2 := by rw [HW2.out]; exact hbe1.setCell (p := ⟨gB, 72, none⟩) hge _
  have HR2 : Hid (∃ arr : Array Value, Blk W2 gR 114 arr ∧ arr.size = 73) := by
   obtain ⟨arr, h1, h2⟩ := HR1.out; rw [HW2.out]; exact ⟨arr, h1.far (p := ⟨gB, 72, none⟩) hne _, h2⟩
  have hK2 : KcT W2 0 := by rw [HW2.out]; exact hK1.setAll (Ne.symm h0.1) [_] 72
  clear B1 hbe1 HR1 hK1 HW2 cN cF hnu hNn hss; by_cases h64 : q = 64
  ·have hq64 : ((q : Int) == 64) = true := by simp; omega
   have HST : Hid (StOk (M ++ x) (cmpW s' (blkL (putB bk' a x))) (putB bk' a x)) := by
    have h := StOk.whole (l := x) HS.out hxb.out (by rw [hxl.out, ← HN.out, ← HA.out, ← Hq.out]; exact h64); rw [← HN.out, ← HA.out] at h; exact h
   obtain ⟨s3, Hs3⟩ : ∃ s3, Hid (s3 = cmpW s' (blkL (putB bk' a x))) := ⟨_, rfl⟩; rw [← Hs3.out] at HST; have hby : By W2 (some ⟨gB, 8, none⟩) 64 64 (blkL (putB bk' a x)) := strm_by B2 HST.out.by_
   have HRS : Hid (∀ j v, (cells8 s')[j]? = some v → W2.cell? ⟨gB, 0 + j, none⟩ = some v) := by
    intro j v hv; have hj : j < 8 := by have := (List.getElem?_eq_some_iff.1 hv).1; simpa [cells8] using this
    rw [Nat.zero_add, B2.cell, List.getElem?_toArray, strmC_s hj, ← hv, cells8_eq]; have h3 := arW_get (n := 8) (f := s'.wd) hj; unfold arW at h3
    simpa using h3.symm
   go_upto_region 7 with fail; refine region_chain [6] [.early, .early, .early, .early, .early, .early, .chain 0] [] [] (PhiAd7 gB s' s3) (fun w w' => Below w.heap.size w w') (SStoreL W2 gB 0 (cells8 s3)) (by kernel_rfl) (by kernel_rfl) (by kernel_rfl) (by kernel_rfl) (sK (fun _ _ _ _ _ h => h) (sK (fun _ _ _ _ _ h => h) (sK (fun _ _ _ _ _ h => h) (sK (fun _ _ _ _ _ h => h) (sK (fun _ _ _ _ _ h => h) (sK (fun _ _ _ _ _ h => h) (sK (fun _ _ _ _ _ h => h) (sZ)))))))) PhiAd7.keepR PhiAd7.keepF (fun _ _ _ _ hR hS => Below.tr hS hR) (by rintro (_ | ⟨_, _ | _⟩) vs vs' w _ h <;> exact h) (fun _ => bD _) (fun vs => by simp only [fillR, Act.put, sA, sB, sC, Nat.zero_add, Nat.reduceAdd]; rfl) ?_ ?_
   ·refine sK ?_ (sK ?_ (sK ?_ (sK ?_ (sK ?_ (sK ?_ (sK ?_ (sZ)))))))
    ·as_aux_lemma =>
     intro vs W hS hu hdep K hK; have HU := Lib.hid hu; clear hu; refine ⟨?_⟩; simp only [Act.put, sA, sB, sC, Nat.zero_add, Nat.reduceAdd] at hK ⊢; go_simp; with_reducible refine hK _ _ (Below.refl _ _) ?_
     exact rfl
    ·as_aux_lemma =>
     intro vs W hS hu hdep K hK; have HU := Lib.hid hu; clear hu; have d0 := hdep ⟨0, .data⟩ (by simp) rfl; simp only [PhiAd7] at d0; refine ⟨?_⟩; simp only [Act.put, sA, sB, sC, Nat.zero_add, Nat.reduceAdd, d0] at hK ⊢; rw [if_pos (by rfl)]; refine wp_load_mid 110 (.tmp 31) (by rfl) gB (0) (by rfl) (cells8 s') _ (fun j v h => cell_keep hS (HRS.out j v h)) Tryz.underlying110 (by rfl) info8c ?_; simp only [Act.put, sA, sB, sC]; with_reducible refine hK _ _ (Below.refl _ _) ?_
     exact rfl
    ·as_aux_lemma =>
     intro vs W hS hu hdep K hK; have HU := Lib.hid hu; clear hu; refine ⟨?_⟩; simp only [Act.put, sA, sB, sC, Nat.zero_add, Nat.reduceAdd] at hK ⊢; go_simp; with_reducible refine hK _ _ (Below.refl _ _) ?_
     exact rfl
    ·as_aux_lemma =>
     intro vs W hS hu hdep K hK; have HU := Lib.hid hu; clear hu; have d0 := hdep ⟨2, .data⟩ (by simp) rfl; simp only [PhiAd7] at d0; refine ⟨?_⟩; simp only [Act.put, sA, sB, sC, Nat.zero_add, Nat.reduceAdd, d0] at hK ⊢; go_simp; with_reducible refine hK _ _ (Below.refl _ _) ?_
     exact rfl
    ·as_aux_lemma =>
     intro vs W hS hu hdep K hK; have HU := Lib.hid hu; clear hu; have d0 := hdep ⟨1, .data⟩ (by simp) rfl; simp only [PhiAd7] at d0; have d1 := hdep ⟨3, .data⟩ (by simp) rfl; simp only [PhiAd7] at d1; refine ⟨?_⟩; simp only [Act.put, sA, sB, sC, Nat.zero_add, Nat.reduceAdd, d0, d1] at hK ⊢; go_simp; refine (compress_n s' (some ⟨gB, 8, none⟩) 64 (blkL (putB bk' a x)) _ (hby.below hS) (hK2.below hS)).mono ?_; rintro e w' ⟨rfl, hb⟩; go_wp2_with fail; with_reducible refine hK _ _ hb ?_
     exact (show _ = _ by rw [Hs3.out])
    ·as_aux_lemma =>
     intro vs W hS hu hdep K hK; have HU := Lib.hid hu; clear hu; refine ⟨?_⟩; simp only [Act.put, sA, sB, sC, Nat.zero_add, Nat.reduceAdd] at hK ⊢; go_simp; with_reducible refine hK _ _ (Below.refl _ _) ?_
     exact rfl
    ·as_aux_lemma =>
     intro vs W hS hdep K hK; have d0 := hdep ⟨5, .data⟩ (by simp) rfl (by rfl); simp only [PhiAd7] at d0; have d1 := hdep ⟨4, .data⟩ (by simp) rfl (by rfl); simp only [PhiAd7] at d1; have hS : Below W2.heap.size W2 W := hS; have hbk := Blk.below B2 hS B2.lt; refine ⟨?_⟩; simp only [Act.put, sA, sB, sC, Nat.zero_add, Nat.reduceAdd, d0, d1] at hK ⊢; rw [if_pos (by rfl)]; refine wp_store_mid 110 (.tmp 36) (.tmp 35) (by rfl) gB 0 (cells8 s3).toArray (by rfl) (by rfl) (fun j hj => Blk.there hbk (by rw [List.size_toArray, strmC_len]) j (by have : (cells8 s3).toArray.size = 8 := rfl; omega)) info8cs (all_oneCell_toArray cells8_one) ?_
     (try simp only [Act.put, sA, sB, sC])
     with_reducible refine hK undef _ ?_
     exact ⟨_, hS, rfl⟩
   ·intro vs W hS _; have hS2 : SStoreL W2 gB 0 (cells8 s3) [vs 6] vs W := hS; obtain ⟨W0, hb0, rfl⟩ := hS2
    have B3 : Blk (W0.setCells gB 0 (cells8 s3)) gB 114 (strmC s3 (putB bk' a x) (N + n)).toArray := by
     rw [← strmC_sets (s := s')]; exact Blk.over _ _ (Blk.below B2 hb0 B2.lt)
    have hbe3 : Below w.heap.size w (W0.setCells gB 0 (cells8 s3)) := below_setAll hge _ _ (Below.tr hbe2 hb0)
    have HR3 : Hid (∃ arr : Array Value, Blk (W0.setCells gB 0 (cells8 s3)) gR 114 arr ∧ arr.size = 73) := by
     obtain ⟨arr, h1, h2⟩ := HR2.out; exact ⟨arr, Blk.farAll hne _ _ (Blk.below h1 hb0 h1.lt), h2⟩
    have hK3 : KcT (W0.setCells gB 0 (cells8 s3)) 0 := (hK2.below hb0).setAll (Ne.symm h0.1) _ _; clear hS hb0 B2 HR2 hK2 hbe2 HRS hby; go_wp2_with fail
    go_roundg (l.length - (j + n))
    case measure => omega
    case rel =>
     refine ⟨j + n, s3, putB bk' a x, rfl, by omega, ?_, ?_, HR3, hK3, hbe3⟩
     ·show StOk _ _ _
      rw [HMX.out]; exact HST.out
     ·show Blk _ _ _ _
      rw [HMX.out, HNX.out]; exact B3
  ·have hq64 : ((q : Int) == 64) = false := by simp; omega
   have HST : Hid (StOk (M ++ x) s' (putB bk' a x)) := by
    have h := StOk.part (l := x) HS.out hxb.out (by rw [hxl.out, ← HN.out, ← HA.out, ← Hq.out]; have := Hq.out; omega); rw [← HN.out, ← HA.out] at h; exact h
   go_wp2_with fail
   go_roundg (l.length - (j + n))
   case measure => omega
   case rel =>
    refine ⟨j + n, s', putB bk' a x, rfl, by omega, ?_, ?_, HR2, hK2, hbe2⟩
    ·show StOk _ _ _
     rw [HMX.out]; exact HST.out
    ·show Blk _ _ _ _
     rw [HMX.out, HNX.out]; exact B2
end Go.Proofs.YtijkfagkbfbpmaaGreatDoor
namespace Go.Proofs.YtijkfagkbfbpmaaGreatDoor
open Go Go.RowKit
theorem conv_by {w : World} {A : Option Addr} {k c : Nat} {l : List Nat} (h : By w A k c l) (hk : 0 < k) : (convert 72 9 (.slice A k c)).run Tryz.prog w = .ok (.string (txB l)) w := by
 have hl := h.len; obtain ⟨b9, o9, n9, rfl, _⟩ := h.get hk; have hc := run_convert_bytes_back (P := Tryz.prog) w 72 9 5 ⟨b9, o9, none⟩ c (l.map UInt8.ofNat) Tryz.underlying72 Tryz.underlying5 Tryz.underlying9 ?_
 ·rw [List.length_map] at hc; rw [hl, hc]; rfl
 ·intro j hj; rw [List.length_map] at hj; obtain ⟨b8, o8, n8, e8, hc8, hn8, hg8⟩ := h.get (by omega : j < k); injection e8 with e8; injection e8 with e81 e82; subst e81 e82; have e : (⟨b9, o9, none⟩ : Addr).add j = ⟨b9, o9 + j, none⟩ := by unfold Addr.add; split <;> simp_all
  rw [e, hc8]
  have h9 : l[j] = n8 := by
   rw [List.getElem?_eq_getElem hj] at hg8; injection hg8
  rw [List.getElem_map, h9]; simp [UInt8.toNat_ofNat, Nat.mod_eq_of_lt hn8]
theorem KcT.grown {w w' : World} {g : Nat} {row : Option Nat} (h : KcT w g) (k : w.grownBy w' row) (hne : ∀ j, row = some j → g ≠ j) : KcT w' g := by
 have hl := h.lt; obtain ⟨t, fr, h⟩ := h; exact ⟨t, fr, (k.block g hl (fun e => hne g e.symm rfl)).trans h⟩
theorem strm_ini : StOk [] iniW (fun _ => 0) := ⟨rfl, fun j hj => by simp at hj, fun _ => by omega⟩
theorem ini_cells : ((((((((Tryz.zeroCells114.setIfInBounds 0 (Value.int IntKind.u32 1779033703)).setIfInBounds 1 (Value.int IntKind.u32 3144134277)).setIfInBounds 2 (Value.int IntKind.u32 1013904242)).setIfInBounds 3 (Value.int IntKind.u32 2773480762)).setIfInBounds 4 (Value.int IntKind.u32 1359893119)).setIfInBounds 5 (Value.int IntKind.u32 2600822924)).setIfInBounds 6 (Value.int IntKind.u32 528734635)).setIfInBounds 7 (Value.int IntKind.u32 1541459225)) = (strmC iniW (fun _ => 0) 0).toArray := by kernel_rfl
set_option maxRecDepth 100000 in
set_option maxHeartbeats 8000000 in
theorem begin_n (w : World) : Calls Tryz.prog 75 #[] w fun e w' => e = .returned (.agg (strmC iniW (fun _ => 0) 0).toArray) ∧ Below w.heap.size w w' := by
 go_enter Tryz.func75, Tryz.ntmps75
 have hz : Tryz.zeroCells114.size = 73 := by kernel_rfl
 go_wp2_with (first | (refine wpList_store_mid rfl 114 (.tmp 0) (.tmp 2) rfl w.heap.size 0 (strmC iniW (fun _ => 0) 0).toArray rfl (congrArg Value.agg ini_cells) (there_new _ _ _ 73 (by rw [hz]; exact Nat.le_refl _)) infoStrmS (all_oneCell_toArray strmC_one) ?_; rw [setCells_new]; rotate_left; (rw [hz, List.size_toArray, strmC_len])))
 (try simp only [Exit.inBlock, Exit.then])
 exact bodyPost_ret (results_cell_row rfl _ _ w.heap.size 114 _ (0, 0) _ rfl (Blk.new _ _ _) Tryz.underlying114 rfl infoStrmS) rfl ⟨rfl, bA _ _⟩
/-- how many noughts the padding has -/
def padZ (N : Nat) : Nat := (119 - N % 64) % 64
/-- byte i of the length -/
def lenB (N i : Nat) : Nat := (8 * N / 2 ^ (56 - 8 * i)) % 256
/-- the padding of a message of N bytes -/
def padT (N : Nat) : List Nat := 128 :: List.replicate (padZ N) 0 ++ (List.range 8).map (lenB N)
theorem padT_lt (N : Nat) : ∀ x ∈ padT N, x < 256 := by
 intro x hx; unfold padT at hx; rw [List.mem_append] at hx
 rcases hx with hx | hx
 ·rcases List.mem_cons.1 hx with rfl | hx
  ·omega
  ·rw [(List.mem_replicate.1 hx).2]; omega
 ·obtain ⟨i, _, rfl⟩ := List.mem_map.1 hx; exact Nat.mod_lt _ (by omega)
theorem padT_len (N : Nat) : (padT N).length = padZ N + 9 := by simp [padT]
/-- the words behind the padded message -/
def shaW (m : List Nat) : R8 := hkW (m ++ padT m.length) ((m ++ padT m.length).length / 64)
/-- cells of bytes -/
def bLs (n : Nat) (f : Nat → Nat) : List Value := (List.range n).map fun j => Value.int .u8 (f j : Nat)
def arB (n : Nat) (f : Nat → Nat) : Array Value := (bLs n f).toArray
theorem bLs_len (n : Nat) (f : Nat → Nat) : (bLs n f).length = n := by simp [bLs]
theorem arB_size (n : Nat) (f : Nat → Nat) : (arB n f).size = n := by simp [arB, bLs]
theorem arB_get {n : Nat} {f : Nat → Nat} {j : Nat} (h : j < n) : (arB n f)[j]? = some (.int .u8 (f j : Nat)) := by simp [arB, bLs, h]
theorem arB_congr {n : Nat} {f g : Nat → Nat} (h : ∀ j, j < n → f j = g j) : arB n f = arB n g := by
 unfold arB bLs
 congr 1
 refine List.map_congr_left fun j hj => ?_
 rw [h j (by simpa using hj)]
theorem arB_set {n : Nat} {f : Nat → Nat} (t : Nat) (x : Nat) : (arB n f).setIfInBounds t (.int .u8 (x : Nat)) = arB n (fun j => if j = t then x else f j) := by
 apply Array.ext
 ·simp [arB, bLs]
 ·intro i h1 h2; have hi : i < n := by simpa [arB, bLs] using h2
  rw [Array.getElem_setIfInBounds (by simpa [arB, bLs] using h1)]; by_cases e : t = i
  ·subst e; simp [arB, bLs]
  ·have e2 : ¬ i = t := fun h => e h.symm
   simp [arB, bLs, e, e2]
theorem arB_one {n : Nat} {f : Nat → Nat} : ∀ v ∈ bLs n f, v.oneCell' = true := by
 intro v hv; obtain ⟨j, _, rfl⟩ := List.mem_map.1 hv; rfl
theorem arB_zero : arB 32 (fun _ => 0) = #[.int .u8 0, .int .u8 0, .int .u8 0, .int .u8 0, .int .u8 0, .int .u8 0, .int .u8 0, .int .u8 0, .int .u8 0, .int .u8 0, .int .u8 0, .int .u8 0, .int .u8 0, .int .u8 0, .int .u8 0, .int .u8 0, .int .u8 0, .int .u8 0, .int .u8 0, .int .u8 0, .int .u8 0, .int .u8 0, .int .u8 0, .int .u8 0, .int .u8 0, .int .u8 0, .int .u8 0, .int .u8 0, .int .u8 0, .int .u8 0, .int .u8 0, .int .u8 0] := by rfl
theorem infoB32 {f : Nat → Nat} : (Tryz.prog.info? 117).map (·.size) = some (bLs 32 f).length := by rw [bLs_len]; kernel_rfl
theorem infoB32s {f : Nat → Nat} : (Tryz.prog.info? 117).map (·.size) = some (arB 32 f).size := by rw [arB_size]; kernel_rfl
theorem shaB_wd (r : R8) (i q p : Nat) (hq : i / 4 = q) (hp : 24 - 8 * (i % 4) = p) : wv (r.wd q) / 2 ^ p % 256 = ((shaB r i : Nat) : Int) := by
 unfold shaB; rw [hq, hp]
 show ((((r.wd q).toNat : Nat) : Int)) / 2 ^ p % 256 = _
 simp [R8.wd]
def shaL (r : R8) : List Value := bLs 32 (shaB r)
set_option maxRecDepth 100000 in
set_option maxHeartbeats 8000000 in
theorem hsum_n (m : List Nat) (s : R8) (bk : Nat → Nat) (w : World) (hlen : m.length ≤ 1073741824) (H : StOk m s bk) (hK : KcT w 0) :
  Calls Tryz.prog 77 #[.agg (strmC s bk m.length).toArray] w fun e w' => e = .returned (.agg (shaL (shaW m)).toArray) ∧ Below w.heap.size w w' := by
 obtain ⟨N, HN⟩ : ∃ N, Hid (N = m.length) := ⟨_, rfl⟩; rw [← HN.out] at hlen ⊢
 go_enter Tryz.func77, Tryz.ntmps77
 go_upto_region 1 with fail; refine wp_name ?_; intro w2 HW; have hb2 : Below w.heap.size w w2 := by rw [HW.out]; exact Below.tr (bA _ _) (bA _ _)
 have BB : Blk w2 w.heap.size 114 (strmC s bk N).toArray := by rw [HW.out]; exact (Blk.new _ _ _).alloc _
 have HR : Hid (∃ arr : Array Value, Blk w2 (w.heap.size + 1) 117 arr ∧ arr.size = 32) := by rw [HW.out]; exact ⟨_, heap_alloc_new' _ _ _ (alloc_sz _ _), rfl⟩
 have hK0 := hK.lt; have hK := hK.below hb2; clear HW; obtain ⟨gB, hgB⟩ : ∃ g, Hid (g = w.heap.size) := ⟨_, rfl⟩; obtain ⟨gR, hgR⟩ : ∃ g, Hid (g = w.heap.size + 1) := ⟨_, rfl⟩; rw [← hgR.out] at HR ⊢; rw [← hgB.out] at BB ⊢; have hge : w.heap.size ≤ gB := by have := hgB.out; omega
 have hgeR : w.heap.size ≤ gR := by have := hgR.out; omega
 have hne : gR ≠ gB := by have := hgB.out; have := hgR.out; omega
 have hlB : gB < w2.heap.size := BB.lt; have hlR : gR < w2.heap.size := by obtain ⟨_, h1, _⟩ := HR.out; exact h1.lt
 have hw2 : w.heap.size ≤ w2.heap.size := hb2.size; clear hgB hgR; have cN : w2.cell? ⟨gB, 72, none⟩ = some (.int .u64 (N : Nat)) := by rw [BB.cell, List.getElem?_toArray, strmC_n]
 have h8 : 8 * (N : Int) % 18446744073709551616 = ((8 * N : Nat) : Int) := by omega
 go_wp2_with fail; have hb3 := bA w2 (.cells #[.int .u8 128] 5); have hown : OwnB (w2.alloc (.cells #[.int .u8 128] 5)) w2.heap.size (.slice (some ⟨w2.heap.size, 0, none⟩) 1 1) [128] := OwnB.one w2 128 (by omega); have BB := Blk.below BB hb3 BB.lt
 have HR : Hid (∃ arr : Array Value, Blk (w2.alloc (.cells #[.int .u8 128] 5)) gR 117 arr ∧ arr.size = 32) := by
  obtain ⟨arr, h1, h2⟩ := HR.out; exact ⟨arr, Blk.below h1 hb3 h1.lt, h2⟩
 have hK := hK.below hb3; have hbe := Below.tr hb2 hb3; have hsz3 := hb3.size
 go_loopg [4] (padZ N) (fun mm x wr => ∃ i : Nat, i + mm = padZ N ∧ Hid (OwnB wr w2.heap.size x (128 :: List.replicate i 0)) ∧ Hid (Blk wr gB 114 (strmC s bk N).toArray) ∧ Hid (∃ arr : Array Value, Blk wr gR 117 arr ∧ arr.size = 32) ∧ KcT wr 0 ∧ Below w.heap.size w wr ∧ w2.heap.size ≤ wr.heap.size)
 case atStart => exact ⟨0, by omega, hown, BB, HR, hK, hbe, hsz3⟩
 case round =>
  clear hown BB HR hK hbe hb2 hb3 hsz3 cN; obtain ⟨G, hG⟩ : ∃ G, G = gk := ⟨gk, rfl⟩; subst hG; obtain ⟨i, him, HO, HB, HR, hK, hbe, hsz⟩ := hrel; obtain ⟨L, HL⟩ : ∃ L : List Nat, Hid (L = 128 :: List.replicate i 0) := ⟨128 :: List.replicate i 0, rfl⟩; rw [← HL.out] at HO; have hLl : L.length = i + 1 := by rw [HL.out]; simp
  have HLL := Lib.hid hLl; obtain ⟨A, c, rfl⟩ := HO.out.shp; rw [hLl] at HO ⊢; have BW := HB.out; have cN : wr.cell? ⟨gB, 72, none⟩ = some (.int .u64 (N : Nat)) := by rw [BW.cell, List.getElem?_toArray, strmC_n]
  have hz64 : padZ N < 64 := by unfold padZ; omega
  obtain ⟨q, Hq⟩ : ∃ q, Hid (q = N + (i + 1)) := ⟨_, rfl⟩; have hq : IntKind.i64.wrap ((N : Int) + ((i : Int) + 1)) = (q : Int) := by rw [IntWalk.i64_in _ (by omega), Hq.out]; omega
  have hNi : IntKind.i64.wrap (N : Int) = (N : Int) := IntWalk.i64_in _ (by omega); clear hLl; by_cases hi : i < padZ N
  ·have hcond : ((q : Int) % 64 != 56) = true := by
    have h1 : q % 64 ≠ 56 := by rw [Hq.out]; unfold padZ at hi; omega
    simp; omega
   have hbn := OwnB.one wr 0 (by omega); have hbx := bA wr (.cells #[.int .u8 0] 5); have hby : By (wr.alloc (.cells #[.int .u8 0] 5)) (some ⟨wr.heap.size, 0, none⟩) 1 1 [0] := hbn.by_ (by simp); have HO1 := HO.out.below hbx; have hszx := Nat.le_trans hsz hbx.size; have hl30 : L.length + [0].length ≤ 1073741824 := by rw [HLL.out]; simp; omega
   have hbge := hbe.size
   go_wp2_with (first | (at_builtin; go_loud (refine wpList_appB rfl (.tmp 20) (.tmp 21) rfl w2.heap.size (.slice A (i + 1) c) L rfl HO1 (some ⟨wr.heap.size, 0, none⟩) 1 1 [0] rfl hby hl30 hszx ?_); intro v4 w4 hown4 hg4 hat4))
   have hgk : ∀ k, Value.ownBlock (.slice A (i + 1) c) = some k → w2.heap.size ≤ k := HO1.ge; have HBx := Blk.below BW hbx BW.lt; have HB4 : Hid (Blk w4 gB 114 (strmC s bk N).toArray) := HBx.grown hg4 (fun k hk e => by have := hgk k hk; omega)
   have HR4 : Hid (∃ arr : Array Value, Blk w4 gR 117 arr ∧ arr.size = 32) := by
    obtain ⟨arr, h1, h2⟩ := HR.out; exact ⟨arr, (Blk.below h1 hbx h1.lt).grown hg4 (fun k hk e => by have := hgk k hk; omega), h2⟩
   have hK4 : KcT w4 0 := (hK.below hbx).grown hg4 (fun k hk e => by have := hgk k hk; omega); have hbe4 : Below w.heap.size w w4 := (Below.tr hbe hbx).grown hg4 (Nat.le_trans hbge hbx.size) (fun k hk => Nat.le_trans hw2 (hgk k hk)); have hsz4 : w2.heap.size ≤ w4.heap.size := Nat.le_trans hszx hg4.size
   go_roundg (G - 1)
   case measure => omega
   case rel =>
    refine ⟨i + 1, by omega, ?_, HB4, HR4, hK4, hbe4, hsz4⟩
    show OwnB _ _ _ _
    rw [show (128 : Nat) :: List.replicate (i + 1) 0 = L ++ [0] from by rw [HL.out, List.replicate_succ']; rfl]; exact hown4
  have hcond : ((q : Int) % 64 != 56) = false := by
   have h1 : q % 64 = 56 := by rw [Hq.out]; unfold padZ at hi him; omega
   simp; omega
  have HIZ : Hid (i = padZ N) := (by show _ = _; omega); go_wp2_with fail

  go_loopg [4, 23] 8 (fun mm x y wr => ∃ i : Nat, y = .int .i64 i ∧ i + mm = 8 ∧ Hid (OwnB wr w2.heap.size x (L ++ (List.range i).map (lenB N))) ∧ Hid (Blk wr gB 114 (strmC s bk N).toArray) ∧ Hid (∃ arr : Array Value, Blk wr gR 117 arr ∧ arr.size = 32) ∧ KcT wr 0 ∧ Below w.heap.size w wr ∧ w2.heap.size ≤ wr.heap.size)
  case atStart =>
   refine ⟨0, rfl, rfl, ?_, HB, HR, hK, hbe, hsz⟩
   show OwnB _ _ _ _
   rw [List.range_zero, List.map_nil, List.append_nil]; exact HO.out
  case round =>
   clear HO HB HR hK hbe hsz BW cN hq hNi hcond Hq; obtain ⟨G2, hG2⟩ : ∃ G, G = gk := ⟨gk, rfl⟩; subst hG2; obtain ⟨k, rfl, hkm, HO, HB, HR, hK, hbe, hsz⟩ := hrel; obtain ⟨L2, HL2⟩ : ∃ L2 : List Nat, Hid (L2 = L ++ (List.range k).map (lenB N)) := ⟨L ++ (List.range k).map (lenB N), rfl⟩; rw [← HL2.out] at HO; obtain ⟨z, HZ⟩ : ∃ z, Hid (z = L2.length) := ⟨_, rfl⟩; have HZ2 : Hid (z = i + 1 + k) := by show _ = _; rw [HZ.out, HL2.out, List.length_append, HLL.out]; simp
   obtain ⟨A2, c2, rfl⟩ := HO.out.shp; rw [← HZ.out] at HO ⊢; have BW := HB.out; by_cases hk : k < 8
   ·have t1 : decide ((k : Int) < 8) = true := by simp; omega
    obtain ⟨p, Hp⟩ : ∃ p : Nat, Hid (p + 8 * k = 56) := ⟨56 - 8 * k, (by show _ = _; omega)⟩; have e1 : IntKind.i64.wrap (8 * (k : Int)) = ((8 * k : Nat) : Int) := by rw [IntWalk.i64_in _ (by omega)]; omega
    have e2 : IntKind.i64.wrap (56 - 8 * (k : Int)) = (p : Int) := by rw [IntWalk.i64_in _ (by omega)]; have := Hp.out; omega
    have hsh : Op.shift .shr .u64 (8 * (N : Int)) .i64 (p : Int) = pure (.int .u64 ((8 * N / 2 ^ p : Nat) : Int)) := by
     rw [shift_shr .u64 .i64 _ _ (by omega) (by have := Hp.out; show (p : Int) ≤ 64; omega)]; rw [Int.toNat_natCast]
     congr 2
    have hcv : 8 * (N : Int) / 2 ^ p % 256 = ((lenB N k : Nat) : Int) := by
     unfold lenB; rw [show 56 - 8 * k = p by have := Hp.out; omega]; simp
    have hlb : lenB N k < 256 := Nat.mod_lt _ (by omega); have hbn := OwnB.one wr (lenB N k) hlb; have hbx := bA wr (.cells #[.int .u8 (lenB N k : Nat)] 5); have hby : By (wr.alloc (.cells #[.int .u8 (lenB N k : Nat)] 5)) (some ⟨wr.heap.size, 0, none⟩) 1 1 [lenB N k] := hbn.by_ (by simp); have HO1 := HO.out.below hbx; have hszx := Nat.le_trans hsz hbx.size; have hl30 : L2.length + [lenB N k].length ≤ 1073741824 := by rw [← HZ.out, HZ2.out]; simp; omega
    have hbge := hbe.size
    go_wp2_with (first | (at_builtin; go_loud (refine wpList_appB rfl (.tmp 26) (.tmp 33) rfl w2.heap.size (.slice A2 z c2) L2 rfl HO1 (some ⟨wr.heap.size, 0, none⟩) 1 1 [lenB N k] rfl hby hl30 hszx ?_); intro v4 w4 hown4 hg4 hat4))
    have hgk : ∀ k', Value.ownBlock (.slice A2 z c2) = some k' → w2.heap.size ≤ k' := HO1.ge; have HBx := Blk.below BW hbx BW.lt; have HB4 : Hid (Blk w4 gB 114 (strmC s bk N).toArray) := HBx.grown hg4 (fun k hk e => by have := hgk k hk; omega)
    have HR4 : Hid (∃ arr : Array Value, Blk w4 gR 117 arr ∧ arr.size = 32) := by
     obtain ⟨arr, h1, h2⟩ := HR.out; exact ⟨arr, (Blk.below h1 hbx h1.lt).grown hg4 (fun k hk e => by have := hgk k hk; omega), h2⟩
    have hK4 : KcT w4 0 := (hK.below hbx).grown hg4 (fun k hk e => by have := hgk k hk; omega); have hbe4 : Below w.heap.size w w4 := (Below.tr hbe hbx).grown hg4 (Nat.le_trans hbge hbx.size) (fun k hk => Nat.le_trans hw2 (hgk k hk)); have hsz4 : w2.heap.size ≤ w4.heap.size := Nat.le_trans hszx hg4.size
    go_roundg (G2 - 1)
    case measure => omega
    case rel =>
     refine ⟨k + 1, by go_num, by omega, ?_, HB4, HR4, hK4, hbe4, hsz4⟩
     show OwnB _ _ _ _
     rw [List.range_succ, List.map_append, ← List.append_assoc, ← HL2.out]; exact hown4
   have t1 : decide ((k : Int) < 8) = false := by simp; omega
   have HP : Hid (L2 = padT N) := by
    show _ = _
    rw [HL2.out, HL.out, HIZ.out, show k = 8 by omega]; rfl
   have hcvt := conv_by (HO.out.by_ (by rw [← HZ.out, HZ2.out]; omega)) (by rw [HZ2.out]; omega); have HLB : Hid (∀ x ∈ L2, x < 256) := by rw [HP.out]; exact padT_lt N
   have HLN : Hid ((m ++ L2).length ≤ 1099511627776) := by show _ ≤ _; rw [List.length_append, ← HN.out, ← HZ.out, HZ2.out]; omega
   go_wp2_with (first | (refine wpList_load_mid rfl 114 (.tmp 1) rfl gB 0 rfl (strmC s bk N) _ (Blk.range BW) Tryz.underlying114 rfl infoStrm ?_; simp only [Act.put, sA, sB, sC]))
   have hwz : w.heap.size ≤ wr.heap.size := hbe.size; have HAD := hadd_n m L2 s bk wr HLB.out HLN.out H hK; rw [← HN.out] at HAD; refine HAD.mono ?_; clear HAD; rintro e w5 ⟨s5, bk5, rfl, HS5, hb5⟩; have B5 := Blk.below BW hb5 BW.lt; obtain ⟨n5, Hn5⟩ : ∃ n, Hid (n = (m ++ L2).length) := ⟨_, rfl⟩; rw [← Hn5.out]
   have HSH : Hid (s5 = shaW m) := by
    show _ = _
    unfold shaW; rw [HS5.st, HP.out, HN.out]
   have B6 : Blk (w5.setCells gB 0 (strmC s5 bk5 n5).toArray.toList) gB 114 (strmC s5 bk5 n5).toArray := Blk.setAll B5 (by rw [List.size_toArray, List.size_toArray, strmC_len, strmC_len])
   have HR6 : Hid (∃ arr : Array Value, Blk (w5.setCells gB 0 (strmC s5 bk5 n5).toArray.toList) gR 117 arr ∧ arr.size = 32) := by
    obtain ⟨arr, h1, h2⟩ := HR.out; exact ⟨arr, Blk.farAll hne _ _ (Blk.below h1 hb5 h1.lt), h2⟩
   have hbe6 : Below w.heap.size w (w5.setCells gB 0 (strmC s5 bk5 n5).toArray.toList) := below_setAll hge _ _ (Below.tr hbe hb5); clear HO HB HR hK hbe BW hcvt hb5 HLB HLN
   go_upto_region 11 with (first | (refine wpList_store_mid rfl 114 (.tmp 1) (.tmp 39) rfl gB 0 (strmC s5 bk5 n5).toArray rfl rfl (Blk.there B5 (by rw [List.size_toArray, List.size_toArray, strmC_len, strmC_len])) infoStrmS (all_oneCell_toArray strmC_one) ?_))
   obtain ⟨w6, Hw6⟩ : ∃ x, Hid (x = w5.setCells gB 0 (strmC s5 bk5 n5).toArray.toList) := ⟨_, rfl⟩; rw [← Hw6.out] at B6 HR6 hbe6 ⊢; clear B5 Hw6; go_wp2_with fail; refine wp_name ?_; intro w7 HW7; rw [← arB_zero] at HW7; have hb7 : Below w6.heap.size w6 w7 := by rw [HW7.out]; exact bA _ _
   obtain ⟨gO, hgO⟩ : ∃ g, Hid (g = w6.heap.size) := ⟨_, rfl⟩; have BO : Hid (Blk w7 gO 117 (arB 32 fun j => if j < 0 then shaB s5 j else 0)) := by rw [HW7.out, hgO.out]; exact Blk.new _ _ _
   have h7a := B6.lt; have h7b : gR < w6.heap.size := by obtain ⟨_, h1, _⟩ := HR6.out; exact h1.lt
   have hneB : gB ≠ gO := by have := hgO.out; omega
   have hneR : gR ≠ gO := by have := hgO.out; omega
   have hgeO : w.heap.size ≤ gO := by have := hgO.out; have := hbe6.size; omega
   have HB7 : Hid (Blk w7 gB 114 (strmC s5 bk5 n5).toArray) := Blk.below B6 hb7 B6.lt
   have HR7 : Hid (∃ arr : Array Value, Blk w7 gR 117 arr ∧ arr.size = 32) := by
    obtain ⟨arr, h1, h2⟩ := HR6.out; exact ⟨arr, Blk.below h1 hb7 h1.lt, h2⟩
   have hbe7 := Below.tr hbe6 hb7; rw [← hgO.out]; clear HW7 hb7 B6 HR6 hbe6 h7a h7b hgO
   go_loopg [40] 32 (fun mm x wr => ∃ i : Nat, x = .int .i64 i ∧ i + mm = 32 ∧ Hid (Blk wr gO 117 (arB 32 fun j => if j < i then shaB s5 j else 0)) ∧ Hid (Blk wr gB 114 (strmC s5 bk5 n5).toArray) ∧ Hid (∃ arr : Array Value, Blk wr gR 117 arr ∧ arr.size = 32) ∧ Below w.heap.size w wr)
   case atStart => exact ⟨0, rfl, rfl, BO, HB7, HR7, hbe7⟩
   case round =>
    clear BO HB7 HR7 hbe7; obtain ⟨G3, hG3⟩ : ∃ G, G = gk := ⟨gk, rfl⟩; subst hG3; obtain ⟨i3, rfl, him3, HO, HB, HR, hbe⟩ := hrel; by_cases hi3 : i3 < 32
    rotate_left
    ·have t3 : decide ((i3 : Int) < 32) = false := by simp; omega
     obtain ⟨arr, hR1, hR2⟩ := HR.out
     have BF : Blk wr gO 117 (bLs 32 (shaB s5)).toArray := by
      have h := HO.out; rw [arB_congr (g := shaB s5) (fun j hj => if_pos (by omega))] at h; exact h
     go_wp2_with (first | (refine wpList_load_mid rfl 117 (.tmp 6) rfl gO 0 rfl (bLs 32 (shaB s5)) _ (Blk.range BF) Tryz.underlying117 rfl infoB32 ?_; simp only [Act.put, sA, sB, sC]) | (refine wpList_store_mid rfl 117 (.tmp 2) (.tmp 57) rfl gR 0 (arB 32 (shaB s5)) rfl rfl (Blk.there hR1 (by rw [hR2, arB_size])) infoB32s (all_oneCell_toArray arB_one) ?_))
     (try simp only [Exit.inBlock, Exit.then])
     have hfin := Blk.setAll (cs := arB 32 (shaB s5)) hR1 (by rw [hR2, arB_size]); refine bodyPost_ret (results_cell_row rfl _ _ gR 117 _ (0, 0) _ rfl hfin Tryz.underlying117 rfl infoB32s) rfl ⟨?_, below_setAll hgeR _ 0 hbe⟩; rw [← HSH.out]; rfl
    have t3 : decide ((i3 : Int) < 32) = true := by simp; omega
    have l3 : (i3 : Int) < 32 := by omega
    have BW := HO.out; obtain ⟨q4, Hq4⟩ : ∃ q, Hid (i3 / 4 = q) := ⟨_, rfl⟩; obtain ⟨r4, Hr4⟩ : ∃ q, Hid (i3 % 4 = q) := ⟨_, rfl⟩; obtain ⟨p4, Hp4⟩ : ∃ q, Hid (24 - 8 * (i3 % 4) = q) := ⟨_, rfl⟩; have e1 : (i3 : Int) / 4 = (q4 : Int) := by have := Hq4.out; omega
    have e2 : (i3 : Int) % 4 = (r4 : Int) := by have := Hr4.out; omega
    have e3 : IntKind.i64.wrap (8 * (r4 : Int)) = 8 * (r4 : Int) := IntWalk.i64_in _ (by have := Hr4.out; omega); have e4 : IntKind.i64.wrap (24 - 8 * (r4 : Int)) = (p4 : Int) := by have := Hr4.out; have := Hp4.out; rw [IntWalk.i64_in _ (by omega)]; omega
    have lq4 : (q4 : Int) < 8 := by have := Hq4.out; omega
    have hsh : Op.shift .shr .u32 (wv (s5.wd q4)) .i64 (p4 : Int) = pure (.int .u32 (wv (s5.wd q4) / 2 ^ p4)) := by
     rw [shift_shr .u32 .i64 _ _ (by omega) (by have := Hp4.out; show (p4 : Int) ≤ 32; omega), Int.toNat_natCast]
    have hcv := shaB_wd s5 i3 q4 p4 Hq4.out Hp4.out; have cS : wr.cell? ⟨gB, q4, none⟩ = some (.int .u32 (wv (s5.wd q4))) := by rw [HB.out.cell, List.getElem?_toArray, strmC_s (by have := Hq4.out; omega)]
    have cO : wr.cell? ⟨gO, i3, none⟩ = some (.int .u8 (0 : Nat)) := by rw [BW.cell, arB_get hi3, if_neg (by omega)]
    have fO := BW.frozen i3
    have HON : Hid (Blk (wr.setCell ⟨gO, i3, none⟩ (.int .u8 (shaB s5 i3 : Nat))) gO 117 (arB 32 fun j => if j < i3 + 1 then shaB s5 j else 0)) := by
     have h2 := BW.set_ i3 (.int .u8 (shaB s5 i3 : Nat)); rw [arB_set] at h2
     show Blk _ _ _ _
     rw [arB_congr (g := fun j => if j = i3 then shaB s5 i3 else if j < i3 then shaB s5 j else 0)]
     ·exact h2
     ·intro j hj; by_cases h1 : j = i3
      ·subst h1; rw [if_pos (by omega), if_pos rfl]
      ·by_cases h2 : j < i3
       ·rw [if_pos (by omega), if_neg h1, if_pos h2]
       ·rw [if_neg (by omega), if_neg h1, if_neg h2]
    have HBN : Hid (Blk (wr.setCell ⟨gO, i3, none⟩ (.int .u8 (shaB s5 i3 : Nat))) gB 114 (strmC s5 bk5 n5).toArray) := HB.out.far (p := ⟨gO, i3, none⟩) hneB _
    have HRN : Hid (∃ arr : Array Value, Blk (wr.setCell ⟨gO, i3, none⟩ (.int .u8 (shaB s5 i3 : Nat))) gR 117 arr ∧ arr.size = 32) := by
     obtain ⟨arr, h1, h2⟩ := HR.out; exact ⟨arr, h1.far (p := ⟨gO, i3, none⟩) hneR _, h2⟩
    have hbeN : Below w.heap.size w (wr.setCell ⟨gO, i3, none⟩ (.int .u8 (shaB s5 i3 : Nat))) := hbe.setCell (p := ⟨gO, i3, none⟩) hgeO _; clear BW HO HB HR hbe; go_wp2_with fail
    go_roundg (G3 - 1)
    case measure => omega
    case rel => exact ⟨i3 + 1, by go_num, by omega, HON, HBN, HRN, hbeN⟩
end Go.Proofs.YtijkfagkbfbpmaaGreatDoor
