import Derived.Test.YticobffjnjbjiaaKGbProof19
import Derived.ChangeKeysEq
import Derived.Test.YticobffjnjbjiaaS0
set_option linter.unusedVariables false
set_option linter.unusedSimpArgs false
namespace Go.Proofs.Yticobffjnjbjiaa
open Go Go.RowKit
section
variable (w : World)
/-- fields by what '==' looks at -/
def eqF (d : Nat) (xs ys : Array Value) : List (Bool × TypeId × Nat) → Sem Bool
 | [] => pure true
 | (b, t, o) :: fs =>
  if b then do
   let u ← part t xs o
   let v ← part t ys o
   let r ← Op.equalIn d t u v
   if (!r) = true then pure false else eqF d xs ys fs
  else eqF d xs ys fs
theorem eqF_of (d : Nat) (xs ys : Array Value) : ∀ fs : List Field, Op.eqFields d xs ys fs = eqF d xs ys (fs.map fun f => (decide (f.name ≠ "_"), f.type, f.offset))
 | [] => rfl
 | f :: fs => by
  rw [List.map_cons]; unfold Op.eqFields eqF; rw [eqF_of d xs ys fs]; by_cases h : f.name ≠ "_"
  ·rw [if_pos h, if_pos (by simpa using h)]
  ·rw [if_neg h, if_neg (by simpa using h)]
theorem eq_struct {P : Program} (d : Nat) (t : TypeId) (xs ys : Array Value) (l : List (Bool × TypeId × Nat)) (ht : P.underlying t = some (.struct (P.fieldsOf t))) (hp : P.stoodInHeld t = false) (hl : (P.fieldsOf t).toList.map (fun f => (decide (f.name ≠ "_"), f.type, f.offset)) = l) :
  (Op.equalIn (d + 1) t (.agg xs) (.agg ys)).run P w = (eqF d xs ys l).run P w := by
 rw [run_equalIn_struct w d t xs ys ht hp, eqF_of, hl]
/-- one field, known by the value of its comparison -/
theorem eqF_step {P : Program} {d : Nat} {xs ys : Array Value} {t : TypeId} {o : Nat} {fs : List (Bool × TypeId × Nat)} {u v : Value} {b c : Bool} (h1 : (part t xs o).run P w = .ok u w) (h2 : (part t ys o).run P w = .ok v w) (h3 : (Op.equalIn d t u v).run P w = .ok b w) (h4 : (eqF d xs ys fs).run P w = .ok c w) :
  (eqF d xs ys ((true, t, o) :: fs)).run P w = .ok (b && c) w := by
 unfold eqF; simp only [if_true, Sem.run_bind, h1, h2, h3, Result.andThen_ok]
 cases b
 ·simp
 ·simpa using h4
theorem eqI_step {P : Program} {d : Nat} {xs ys : Array Value} {e : TypeId} {k i : Nat} {is : List Nat} {u v : Value} {b c : Bool} (h1 : (part e xs (i * k)).run P w = .ok u w) (h2 : (part e ys (i * k)).run P w = .ok v w) (h3 : (Op.equalIn d e u v).run P w = .ok b w) (h4 : (Op.eqItems d e k xs ys is).run P w = .ok c w) :
  (Op.eqItems d e k xs ys (i :: is)).run P w = .ok (b && c) w := by
 unfold Op.eqItems; simp only [Sem.run_bind, h1, h2, h3, Result.andThen_ok]
 cases b
 ·simp
 ·simpa using h4
theorem part_agg {P : Program} {t : TypeId} {xs : Array Value} {o n : Nat} {i : TypeInfo} (hi : P.info? t = some i) (hs : i.size = n) (hu : (match P.underlying t with | some (.struct _) | some (.array _ _) => true | _ => false) = true) {ys : Array Value} (he : xs.extract o (o + n) = ys) : (part t xs o).run P w = .ok (.agg ys) w := by
 subst hs he
 cases h : P.underlying t with
 | none => rw [h] at hu; cases hu
 | some k =>
  rw [h] at hu
  cases k <;> simp at hu <;> simp [part, isAgg, run_underlying h, run_sizeOf w hi, Program.cellsOf, hi]
def bytes16 (l : List Int) : List Value := l.map fun n => .int .u8 n
theorem eq_bytes (d : Nat) : ∀ (l m : List Int) (is : List Nat) (xs ys : Array Value), l.length = m.length → (∀ (j : Nat) n, l[j]? = some n → ∃ i, is[j]? = some i ∧ xs[i]? = some (.int .u8 n)) → (∀ (j : Nat) n, m[j]? = some n → ∃ i, is[j]? = some i ∧ ys[i]? = some (.int .u8 n)) → is.length = l.length →
  (Op.eqItems (d + 1) 5 1 xs ys is).run Try.prog w = .ok (l == m) w
 | [], [], [], xs, ys, _, _, _, _ => by simp [Op.eqItems]
 | n :: l, k :: m, i :: is, xs, ys, hl, hx, hy, hi => by
  obtain ⟨i1, e1, h1⟩ := hx 0 n rfl; obtain ⟨i2, e2, h2⟩ := hy 0 k rfl; simp only [List.getElem?_cons_zero, Option.some.injEq] at e1 e2; subst e1 e2
  have ih := eq_bytes d l m is xs ys (by simpa using hl) (fun j a h => by
   obtain ⟨i, h3, h4⟩ := hx (j + 1) a (by simpa using h); exact ⟨i, by simpa using h3, h4⟩) (fun j a h => by
   obtain ⟨i, h3, h4⟩ := hy (j + 1) a (by simpa using h); exact ⟨i, by simpa using h3, h4⟩) (by simpa using hi)
  rw [List.cons_beq_cons]; exact eqI_step w (run_part_plain w (by kernel_rfl) (by rw [Nat.mul_one]; exact h1)) (run_part_plain w (by kernel_rfl) (by rw [Nat.mul_one]; exact h2)) (run_equalIn_int w d 5 .u8 .u8 n k (by kernel_rfl)) ih
/-- the cells of a result have the kinds of its fields -/
def RcTy (r : RC0) : Prop := ∃ c3 c4 c5 d6 d7 d8 d9 d10 d11 d12 d13 d14 d15 d16 d17 d18 d19 d20 d21 : Int, r = ⟨r.oc, r.at_, r.st, .int .i64 c3, .int .i64 c4, .int .i64 c5, .int .u8 d6, .int .u8 d7, .int .u8 d8, .int .u8 d9, .int .u8 d10, .int .u8 d11, .int .u8 d12, .int .u8 d13, .int .u8 d14, .int .u8 d15, .int .u8 d16, .int .u8 d17, .int .u8 d18, .int .u8 d19, .int .u8 d20, .int .u8 d21⟩
set_option maxRecDepth 100000 in
open Classical in
theorem res_equal (d : Nat) (r s : RC0) (hr : RcTy r) (hs : RcTy s) : (Op.equalIn (d + 3) 64 (.agg (cellsR r).toArray) (.agg (cellsR s).toArray)).run Try.prog w = .ok (decide (r = s)) w := by
 obtain ⟨c3, c4, c5, d6, d7, d8, d9, d10, d11, d12, d13, d14, d15, d16, d17, d18, d19, d20, d21, hr⟩ := hr; obtain ⟨e3, e4, e5, f6, f7, f8, f9, f10, f11, f12, f13, f14, f15, f16, f17, f18, f19, f20, f21, hs⟩ := hs; rw [hr, hs]; generalize r.oc = oc; generalize r.at_ = pl; generalize r.st = st; generalize s.oc = oc'; generalize s.at_ = pl'; generalize s.st = st'; clear hr hs
 obtain ⟨ic, hic⟩ : ∃ i, Try.prog.info? 62 = some i ∧ i.size = 3 := by
  have h : (Try.prog.info? 62).map (·.size) = some 3 := by kernel_rfl
  cases e : Try.prog.info? 62 with
  | none => rw [e] at h; cases h
  | some i => rw [e] at h; exact ⟨i, rfl, by simpa using h⟩
 obtain ⟨id, hid⟩ : ∃ i, Try.prog.info? 51 = some i ∧ i.size = 16 := by
  have h : (Try.prog.info? 51).map (·.size) = some 16 := by kernel_rfl
  cases e : Try.prog.info? 51 with
  | none => rw [e] at h; cases h
  | some i => rw [e] at h; exact ⟨i, rfl, by simpa using h⟩
 obtain ⟨ib, hib⟩ : ∃ i, Try.prog.info? 5 = some i := by
  have h : (Try.prog.info? 5).map (·.size) = some 1 := by kernel_rfl
  cases e : Try.prog.info? 5 with
  | none => rw [e] at h; cases h
  | some i => exact ⟨i, rfl⟩
 have hcost : (Op.equalIn (d + 2) 62 (.agg #[.int .i64 c3, .int .i64 c4, .int .i64 c5]) (.agg #[.int .i64 e3, .int .i64 e4, .int .i64 e5])).run Try.prog w = .ok (c3 == e3 && (c4 == e4 && (c5 == e5 && true))) w := by
  rw [eq_struct w (d + 1) 62 _ _ [(true, 3, 0), (true, 3, 1), (true, 3, 2)] (by kernel_rfl) (by kernel_rfl) (by kernel_rfl)]; refine eqF_step w (run_part_plain w (by kernel_rfl) rfl) (run_part_plain w (by kernel_rfl) rfl) (run_equalIn_int w d _ .i64 .i64 _ _ (by kernel_rfl)) ?_; refine eqF_step w (run_part_plain w (by kernel_rfl) rfl) (run_part_plain w (by kernel_rfl) rfl) (run_equalIn_int w d _ .i64 .i64 _ _ (by kernel_rfl)) ?_; refine eqF_step w (run_part_plain w (by kernel_rfl) rfl) (run_part_plain w (by kernel_rfl) rfl) (run_equalIn_int w d _ .i64 .i64 _ _ (by kernel_rfl)) ?_; simp [eqF]
 have hdig : (Op.equalIn (d + 2) 51 (.agg #[.int .u8 d6, .int .u8 d7, .int .u8 d8, .int .u8 d9, .int .u8 d10, .int .u8 d11, .int .u8 d12, .int .u8 d13, .int .u8 d14, .int .u8 d15, .int .u8 d16, .int .u8 d17, .int .u8 d18, .int .u8 d19, .int .u8 d20, .int .u8 d21]) (.agg #[.int .u8 f6, .int .u8 f7, .int .u8 f8, .int .u8 f9, .int .u8 f10, .int .u8 f11, .int .u8 f12, .int .u8 f13, .int .u8 f14, .int .u8 f15, .int .u8 f16, .int .u8 f17, .int .u8 f18, .int .u8 f19, .int .u8 f20, .int .u8 f21])).run Try.prog w = .ok ([d6, d7, d8, d9, d10, d11, d12, d13, d14, d15, d16, d17, d18, d19, d20, d21] == [f6, f7, f8, f9, f10, f11, f12, f13, f14, f15, f16, f17, f18, f19, f20, f21]) w := by
  rw [run_equalIn_array w (d + 1) _ _ (show Try.prog.underlying 51 = some (.array 16 5) by kernel_rfl) hib, show Try.prog.cellsOf 5 = 1 by kernel_rfl]; refine eq_bytes w d _ _ _ _ _ rfl ?_ ?_ rfl
  ·intro j n h; refine ⟨j, ?_, ?_⟩
   ·have := (List.getElem?_eq_some_iff.1 h).1; simp at this; simp [this]
   ·rcases j with _ | _ | _ | _ | _ | _ | _ | _ | _ | _ | _ | _ | _ | _ | _ | _ | j <;> simp at h ⊢ <;> exact h
  ·intro j n h; refine ⟨j, ?_, ?_⟩
   ·have := (List.getElem?_eq_some_iff.1 h).1; simp at this; simp [this]
   ·rcases j with _ | _ | _ | _ | _ | _ | _ | _ | _ | _ | _ | _ | _ | _ | _ | _ | j <;> simp at h ⊢ <;> exact h
 simp only [cellsR]; rw [eq_struct w (d + 2) 64 _ _ [(true, 3, 0), (true, 9, 1), (true, 3, 2), (true, 62, 3), (true, 51, 6)] (by kernel_rfl) (by kernel_rfl) (by kernel_rfl)]; have hnil : (eqF (d + 2) #[.int .i64 oc, .string pl, .int .i64 st, .int .i64 c3, .int .i64 c4, .int .i64 c5, .int .u8 d6, .int .u8 d7, .int .u8 d8, .int .u8 d9, .int .u8 d10, .int .u8 d11, .int .u8 d12, .int .u8 d13, .int .u8 d14, .int .u8 d15, .int .u8 d16, .int .u8 d17, .int .u8 d18, .int .u8 d19, .int .u8 d20, .int .u8 d21] #[.int .i64 oc', .string pl', .int .i64 st', .int .i64 e3, .int .i64 e4, .int .i64 e5, .int .u8 f6, .int .u8 f7, .int .u8 f8, .int .u8 f9, .int .u8 f10, .int .u8 f11, .int .u8 f12, .int .u8 f13, .int .u8 f14, .int .u8 f15, .int .u8 f16, .int .u8 f17, .int .u8 f18, .int .u8 f19, .int .u8 f20, .int .u8 f21] []).run Try.prog w = .ok true w := by simp [eqF]
 have h : (eqF (d + 2) #[.int .i64 oc, .string pl, .int .i64 st, .int .i64 c3, .int .i64 c4, .int .i64 c5, .int .u8 d6, .int .u8 d7, .int .u8 d8, .int .u8 d9, .int .u8 d10, .int .u8 d11, .int .u8 d12, .int .u8 d13, .int .u8 d14, .int .u8 d15, .int .u8 d16, .int .u8 d17, .int .u8 d18, .int .u8 d19, .int .u8 d20, .int .u8 d21] #[.int .i64 oc', .string pl', .int .i64 st', .int .i64 e3, .int .i64 e4, .int .i64 e5, .int .u8 f6, .int .u8 f7, .int .u8 f8, .int .u8 f9, .int .u8 f10, .int .u8 f11, .int .u8 f12, .int .u8 f13, .int .u8 f14, .int .u8 f15, .int .u8 f16, .int .u8 f17, .int .u8 f18, .int .u8 f19, .int .u8 f20, .int .u8 f21] [(true, 3, 0), (true, 9, 1), (true, 3, 2), (true, 62, 3), (true, 51, 6)]).run Try.prog w = .ok (oc == oc' && (pl.toList == pl'.toList && (st == st' && ((c3 == e3 && (c4 == e4 && (c5 == e5 && true))) && ([d6, d7, d8, d9, d10, d11, d12, d13, d14, d15, d16, d17, d18, d19, d20, d21] == [f6, f7, f8, f9, f10, f11, f12, f13, f14, f15, f16, f17, f18, f19, f20, f21] && true))))) w :=
  eqF_step w (run_part_plain w (by kernel_rfl) rfl) (run_part_plain w (by kernel_rfl) rfl) (run_equalIn_int w (d + 1) _ .i64 .i64 oc oc' (by kernel_rfl))
  (eqF_step w (run_part_plain w (by kernel_rfl) rfl) (run_part_plain w (by kernel_rfl) rfl) (run_equalIn_string w (d + 1) _ pl pl' (by kernel_rfl))
  (eqF_step w (run_part_plain w (by kernel_rfl) rfl) (run_part_plain w (by kernel_rfl) rfl) (run_equalIn_int w (d + 1) _ .i64 .i64 st st' (by kernel_rfl))
  (eqF_step w (part_agg w hic.1 hic.2 (by kernel_rfl) (ys := #[.int .i64 c3, .int .i64 c4, .int .i64 c5]) (by kernel_rfl)) (part_agg w hic.1 hic.2 (by kernel_rfl) (ys := #[.int .i64 e3, .int .i64 e4, .int .i64 e5]) (by kernel_rfl)) hcost
  (eqF_step w (part_agg w hid.1 hid.2 (by kernel_rfl) (ys := #[.int .u8 d6, .int .u8 d7, .int .u8 d8, .int .u8 d9, .int .u8 d10, .int .u8 d11, .int .u8 d12, .int .u8 d13, .int .u8 d14, .int .u8 d15, .int .u8 d16, .int .u8 d17, .int .u8 d18, .int .u8 d19, .int .u8 d20, .int .u8 d21]) (by kernel_rfl)) (part_agg w hid.1 hid.2 (by kernel_rfl) (ys := #[.int .u8 f6, .int .u8 f7, .int .u8 f8, .int .u8 f9, .int .u8 f10, .int .u8 f11, .int .u8 f12, .int .u8 f13, .int .u8 f14, .int .u8 f15, .int .u8 f16, .int .u8 f17, .int .u8 f18, .int .u8 f19, .int .u8 f20, .int .u8 f21]) (by kernel_rfl)) hdig hnil))))
 refine h.trans ?_
 congr 1
 rw [Bool.eq_iff_iff, decide_eq_true_iff]; simp [ByteArray.toList_eq, ByteArray.ext_iff]; intro _ _ _; simp only [and_assoc]
end
end Go.Proofs.Yticobffjnjbjiaa
