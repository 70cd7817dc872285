import Derived.Test.YticobffjnjbjiaaKGdbProof17
import Derived.ChangeKeysEq
import Derived.Test.YticobffjnjbjiaaJ16
import Derived.Deep.QuietTactic
import Derived.BigQuiet
import Derived.Test.YticobffjnjbjiaaJ15
import Derived.Test.YticobffjnjbjiaaJ13
import Derived.Test.YticobffjnjbjiaaJ11
import Derived.Test.YticobffjnjbjiaaJ09
import Derived.Deep.CutRange
import Derived.Test.YticobffjnjbjiaaS0
set_option linter.unusedVariables false
set_option linter.unusedSimpArgs false
namespace Go.Proofs.Yticobffjnjbjiaa
open Go Go.RowKit
section
variable (w : World)
/-- fields by what '==' looks at -/
def eqF (d : Nat) (xs ys : Array Value) : List (Bool × TypeId × Nat) → Sem Bool
 | [] => pure true
 | (b, t, o) :: fs =>
  if b then do
   let u ← part t xs o
   let v ← part t ys o
   let r ← Op.equalIn d t u v
   if (!r) = true then pure false else eqF d xs ys fs
  else eqF d xs ys fs
theorem eqF_of (d : Nat) (xs ys : Array Value) : ∀ fs : List Field, Op.eqFields d xs ys fs = eqF d xs ys (fs.map fun f => (decide (f.name ≠ "_"), f.type, f.offset))
 | [] => rfl
 | f :: fs => by
  rw [List.map_cons]; unfold Op.eqFields eqF; rw [eqF_of d xs ys fs]; by_cases h : f.name ≠ "_"
  ·rw [if_pos h, if_pos (by simpa using h)]
  ·rw [if_neg h, if_neg (by simpa using h)]
theorem eq_struct {P : Program} (d : Nat) (t : TypeId) (xs ys : Array Value) (l : List (Bool × TypeId × Nat)) (ht : P.underlying t = some (.struct (P.fieldsOf t))) (hp : P.stoodInHeld t = false) (hl : (P.fieldsOf t).toList.map (fun f => (decide (f.name ≠ "_"), f.type, f.offset)) = l) :
  (Op.equalIn (d + 1) t (.agg xs) (.agg ys)).run P w = (eqF d xs ys l).run P w := by
 rw [run_equalIn_struct w d t xs ys ht hp, eqF_of, hl]
/-- one field, known by the value of its comparison -/
theorem eqF_step {P : Program} {d : Nat} {xs ys : Array Value} {t : TypeId} {o : Nat} {fs : List (Bool × TypeId × Nat)} {u v : Value} {b c : Bool} (h1 : (part t xs o).run P w = .ok u w) (h2 : (part t ys o).run P w = .ok v w) (h3 : (Op.equalIn d t u v).run P w = .ok b w) (h4 : (eqF d xs ys fs).run P w = .ok c w) :
  (eqF d xs ys ((true, t, o) :: fs)).run P w = .ok (b && c) w := by
 unfold eqF; simp only [if_true, Sem.run_bind, h1, h2, h3, Result.andThen_ok]
 cases b
 ·simp
 ·simpa using h4
theorem eqI_step {P : Program} {d : Nat} {xs ys : Array Value} {e : TypeId} {k i : Nat} {is : List Nat} {u v : Value} {b c : Bool} (h1 : (part e xs (i * k)).run P w = .ok u w) (h2 : (part e ys (i * k)).run P w = .ok v w) (h3 : (Op.equalIn d e u v).run P w = .ok b w) (h4 : (Op.eqItems d e k xs ys is).run P w = .ok c w) :
  (Op.eqItems d e k xs ys (i :: is)).run P w = .ok (b && c) w := by
 unfold Op.eqItems; simp only [Sem.run_bind, h1, h2, h3, Result.andThen_ok]
 cases b
 ·simp
 ·simpa using h4
theorem part_agg {P : Program} {t : TypeId} {xs : Array Value} {o n : Nat} {i : TypeInfo} (hi : P.info? t = some i) (hs : i.size = n) (hu : (match P.underlying t with | some (.struct _) | some (.array _ _) => true | _ => false) = true) {ys : Array Value} (he : xs.extract o (o + n) = ys) : (part t xs o).run P w = .ok (.agg ys) w := by
 subst hs he
 cases h : P.underlying t with
 | none => rw [h] at hu; cases hu
 | some k =>
  rw [h] at hu
  cases k <;> simp at hu <;> simp [part, isAgg, run_underlying h, run_sizeOf w hi, Program.cellsOf, hi]
def bytes16 (l : List Int) : List Value := l.map fun n => .int .u8 n
theorem eq_bytes (d : Nat) : ∀ (l m : List Int) (is : List Nat) (xs ys : Array Value), l.length = m.length → (∀ (j : Nat) n, l[j]? = some n → ∃ i, is[j]? = some i ∧ xs[i]? = some (.int .u8 n)) → (∀ (j : Nat) n, m[j]? = some n → ∃ i, is[j]? = some i ∧ ys[i]? = some (.int .u8 n)) → is.length = l.length →
  (Op.eqItems (d + 1) 5 1 xs ys is).run Try.prog w = .ok (l == m) w
 | [], [], [], xs, ys, _, _, _, _ => by simp [Op.eqItems]
 | n :: l, k :: m, i :: is, xs, ys, hl, hx, hy, hi => by
  obtain ⟨i1, e1, h1⟩ := hx 0 n rfl; obtain ⟨i2, e2, h2⟩ := hy 0 k rfl; simp only [List.getElem?_cons_zero, Option.some.injEq] at e1 e2; subst e1 e2
  have ih := eq_bytes d l m is xs ys (by simpa using hl) (fun j a h => by
   obtain ⟨i, h3, h4⟩ := hx (j + 1) a (by simpa using h); exact ⟨i, by simpa using h3, h4⟩) (fun j a h => by
   obtain ⟨i, h3, h4⟩ := hy (j + 1) a (by simpa using h); exact ⟨i, by simpa using h3, h4⟩) (by simpa using hi)
  rw [List.cons_beq_cons]; exact eqI_step w (run_part_plain w (by kernel_rfl) (by rw [Nat.mul_one]; exact h1)) (run_part_plain w (by kernel_rfl) (by rw [Nat.mul_one]; exact h2)) (run_equalIn_int w d 5 .u8 .u8 n k (by kernel_rfl)) ih
/-- the cells of a result have the kinds of its fields -/
def RcTy (r : RC0) : Prop := ∃ c3 c4 c5 d6 d7 d8 d9 d10 d11 d12 d13 d14 d15 d16 d17 d18 d19 d20 d21 : Int, r = ⟨r.oc, r.at_, r.st, .int .i64 c3, .int .i64 c4, .int .i64 c5, .int .u8 d6, .int .u8 d7, .int .u8 d8, .int .u8 d9, .int .u8 d10, .int .u8 d11, .int .u8 d12, .int .u8 d13, .int .u8 d14, .int .u8 d15, .int .u8 d16, .int .u8 d17, .int .u8 d18, .int .u8 d19, .int .u8 d20, .int .u8 d21⟩
set_option maxRecDepth 100000 in
open Classical in
theorem res_equal (d : Nat) (r s : RC0) (hr : RcTy r) (hs : RcTy s) : (Op.equalIn (d + 3) 64 (.agg (cellsR r).toArray) (.agg (cellsR s).toArray)).run Try.prog w = .ok (decide (r = s)) w := by
 obtain ⟨c3, c4, c5, d6, d7, d8, d9, d10, d11, d12, d13, d14, d15, d16, d17, d18, d19, d20, d21, hr⟩ := hr; obtain ⟨e3, e4, e5, f6, f7, f8, f9, f10, f11, f12, f13, f14, f15, f16, f17, f18, f19, f20, f21, hs⟩ := hs; rw [hr, hs]; generalize r.oc = oc; generalize r.at_ = pl; generalize r.st = st; generalize s.oc = oc'; generalize s.at_ = pl'; generalize s.st = st'; clear hr hs
 obtain ⟨ic, hic⟩ : ∃ i, Try.prog.info? 62 = some i ∧ i.size = 3 := by
  have h : (Try.prog.info? 62).map (·.size) = some 3 := by kernel_rfl
  cases e : Try.prog.info? 62 with
  | none => rw [e] at h; cases h
  | some i => rw [e] at h; exact ⟨i, rfl, by simpa using h⟩
 obtain ⟨id, hid⟩ : ∃ i, Try.prog.info? 51 = some i ∧ i.size = 16 := by
  have h : (Try.prog.info? 51).map (·.size) = some 16 := by kernel_rfl
  cases e : Try.prog.info? 51 with
  | none => rw [e] at h; cases h
  | some i => rw [e] at h; exact ⟨i, rfl, by simpa using h⟩
 obtain ⟨ib, hib⟩ : ∃ i, Try.prog.info? 5 = some i := by
  have h : (Try.prog.info? 5).map (·.size) = some 1 := by kernel_rfl
  cases e : Try.prog.info? 5 with
  | none => rw [e] at h; cases h
  | some i => exact ⟨i, rfl⟩
 have hcost : (Op.equalIn (d + 2) 62 (.agg #[.int .i64 c3, .int .i64 c4, .int .i64 c5]) (.agg #[.int .i64 e3, .int .i64 e4, .int .i64 e5])).run Try.prog w = .ok (c3 == e3 && (c4 == e4 && (c5 == e5 && true))) w := by
  rw [eq_struct w (d + 1) 62 _ _ [(true, 3, 0), (true, 3, 1), (true, 3, 2)] (by kernel_rfl) (by kernel_rfl) (by kernel_rfl)]; refine eqF_step w (run_part_plain w (by kernel_rfl) rfl) (run_part_plain w (by kernel_rfl) rfl) (run_equalIn_int w d _ .i64 .i64 _ _ (by kernel_rfl)) ?_; refine eqF_step w (run_part_plain w (by kernel_rfl) rfl) (run_part_plain w (by kernel_rfl) rfl) (run_equalIn_int w d _ .i64 .i64 _ _ (by kernel_rfl)) ?_; refine eqF_step w (run_part_plain w (by kernel_rfl) rfl) (run_part_plain w (by kernel_rfl) rfl) (run_equalIn_int w d _ .i64 .i64 _ _ (by kernel_rfl)) ?_; simp [eqF]
 have hdig : (Op.equalIn (d + 2) 51 (.agg #[.int .u8 d6, .int .u8 d7, .int .u8 d8, .int .u8 d9, .int .u8 d10, .int .u8 d11, .int .u8 d12, .int .u8 d13, .int .u8 d14, .int .u8 d15, .int .u8 d16, .int .u8 d17, .int .u8 d18, .int .u8 d19, .int .u8 d20, .int .u8 d21]) (.agg #[.int .u8 f6, .int .u8 f7, .int .u8 f8, .int .u8 f9, .int .u8 f10, .int .u8 f11, .int .u8 f12, .int .u8 f13, .int .u8 f14, .int .u8 f15, .int .u8 f16, .int .u8 f17, .int .u8 f18, .int .u8 f19, .int .u8 f20, .int .u8 f21])).run Try.prog w = .ok ([d6, d7, d8, d9, d10, d11, d12, d13, d14, d15, d16, d17, d18, d19, d20, d21] == [f6, f7, f8, f9, f10, f11, f12, f13, f14, f15, f16, f17, f18, f19, f20, f21]) w := by
  rw [run_equalIn_array w (d + 1) _ _ (show Try.prog.underlying 51 = some (.array 16 5) by kernel_rfl) hib, show Try.prog.cellsOf 5 = 1 by kernel_rfl]; refine eq_bytes w d _ _ _ _ _ rfl ?_ ?_ rfl
  ·intro j n h; refine ⟨j, ?_, ?_⟩
   ·have := (List.getElem?_eq_some_iff.1 h).1; simp at this; simp [this]
   ·rcases j with _ | _ | _ | _ | _ | _ | _ | _ | _ | _ | _ | _ | _ | _ | _ | _ | j <;> simp at h ⊢ <;> exact h
  ·intro j n h; refine ⟨j, ?_, ?_⟩
   ·have := (List.getElem?_eq_some_iff.1 h).1; simp at this; simp [this]
   ·rcases j with _ | _ | _ | _ | _ | _ | _ | _ | _ | _ | _ | _ | _ | _ | _ | _ | j <;> simp at h ⊢ <;> exact h
 simp only [cellsR]; rw [eq_struct w (d + 2) 64 _ _ [(true, 3, 0), (true, 9, 1), (true, 3, 2), (true, 62, 3), (true, 51, 6)] (by kernel_rfl) (by kernel_rfl) (by kernel_rfl)]; have hnil : (eqF (d + 2) #[.int .i64 oc, .string pl, .int .i64 st, .int .i64 c3, .int .i64 c4, .int .i64 c5, .int .u8 d6, .int .u8 d7, .int .u8 d8, .int .u8 d9, .int .u8 d10, .int .u8 d11, .int .u8 d12, .int .u8 d13, .int .u8 d14, .int .u8 d15, .int .u8 d16, .int .u8 d17, .int .u8 d18, .int .u8 d19, .int .u8 d20, .int .u8 d21] #[.int .i64 oc', .string pl', .int .i64 st', .int .i64 e3, .int .i64 e4, .int .i64 e5, .int .u8 f6, .int .u8 f7, .int .u8 f8, .int .u8 f9, .int .u8 f10, .int .u8 f11, .int .u8 f12, .int .u8 f13, .int .u8 f14, .int .u8 f15, .int .u8 f16, .int .u8 f17, .int .u8 f18, .int .u8 f19, .int .u8 f20, .int .u8 f21] []).run Try.prog w = .ok true w := by simp [eqF]
 have h : (eqF (d + 2) #[.int .i64 oc, .string pl, .int .i64 st, .int .i64 c3, .int .i64 c4, .int .i64 c5, .int .u8 d6, .int .u8 d7, .int .u8 d8, .int .u8 d9, .int .u8 d10, .int .u8 d11, .int .u8 d12, .int .u8 d13, .int .u8 d14, .int .u8 d15, .int .u8 d16, .int .u8 d17, .int .u8 d18, .int .u8 d19, .int .u8 d20, .int .u8 d21] #[.int .i64 oc', .string pl', .int .i64 st', .int .i64 e3, .int .i64 e4, .int .i64 e5, .int .u8 f6, .int .u8 f7, .int .u8 f8, .int .u8 f9, .int .u8 f10, .int .u8 f11, .int .u8 f12, .int .u8 f13, .int .u8 f14, .int .u8 f15, .int .u8 f16, .int .u8 f17, .int .u8 f18, .int .u8 f19, .int .u8 f20, .int .u8 f21] [(true, 3, 0), (true, 9, 1), (true, 3, 2), (true, 62, 3), (true, 51, 6)]).run Try.prog w = .ok (oc == oc' && (pl.toList == pl'.toList && (st == st' && ((c3 == e3 && (c4 == e4 && (c5 == e5 && true))) && ([d6, d7, d8, d9, d10, d11, d12, d13, d14, d15, d16, d17, d18, d19, d20, d21] == [f6, f7, f8, f9, f10, f11, f12, f13, f14, f15, f16, f17, f18, f19, f20, f21] && true))))) w :=
  eqF_step w (run_part_plain w (by kernel_rfl) rfl) (run_part_plain w (by kernel_rfl) rfl) (run_equalIn_int w (d + 1) _ .i64 .i64 oc oc' (by kernel_rfl))
  (eqF_step w (run_part_plain w (by kernel_rfl) rfl) (run_part_plain w (by kernel_rfl) rfl) (run_equalIn_string w (d + 1) _ pl pl' (by kernel_rfl))
  (eqF_step w (run_part_plain w (by kernel_rfl) rfl) (run_part_plain w (by kernel_rfl) rfl) (run_equalIn_int w (d + 1) _ .i64 .i64 st st' (by kernel_rfl))
  (eqF_step w (part_agg w hic.1 hic.2 (by kernel_rfl) (ys := #[.int .i64 c3, .int .i64 c4, .int .i64 c5]) (by kernel_rfl)) (part_agg w hic.1 hic.2 (by kernel_rfl) (ys := #[.int .i64 e3, .int .i64 e4, .int .i64 e5]) (by kernel_rfl)) hcost
  (eqF_step w (part_agg w hid.1 hid.2 (by kernel_rfl) (ys := #[.int .u8 d6, .int .u8 d7, .int .u8 d8, .int .u8 d9, .int .u8 d10, .int .u8 d11, .int .u8 d12, .int .u8 d13, .int .u8 d14, .int .u8 d15, .int .u8 d16, .int .u8 d17, .int .u8 d18, .int .u8 d19, .int .u8 d20, .int .u8 d21]) (by kernel_rfl)) (part_agg w hid.1 hid.2 (by kernel_rfl) (ys := #[.int .u8 f6, .int .u8 f7, .int .u8 f8, .int .u8 f9, .int .u8 f10, .int .u8 f11, .int .u8 f12, .int .u8 f13, .int .u8 f14, .int .u8 f15, .int .u8 f16, .int .u8 f17, .int .u8 f18, .int .u8 f19, .int .u8 f20, .int .u8 f21]) (by kernel_rfl)) hdig hnil))))
 refine h.trans ?_
 congr 1
 rw [Bool.eq_iff_iff, decide_eq_true_iff]; simp [ByteArray.toList_eq, ByteArray.ext_iff]; intro _ _ _; simp only [and_assoc]
end
end Go.Proofs.Yticobffjnjbjiaa
namespace Go.Proofs.Yticobffjnjbjiaa
open Go Go.RowKit
/-- an item whose result has cells of its fields' kinds -/
def ItTy (it : IT) : Prop := RcTy it.r
theorem RcTy.one {r : RC0} (h : RcTy r) : ∀ v ∈ cellsR r, v.oneCell' = true := by
 obtain ⟨c3, c4, c5, d6, d7, d8, d9, d10, d11, d12, d13, d14, d15, d16, d17, d18, d19, d20, d21, h⟩ := h; rw [h]; intro v hv; simp only [cellsR, List.mem_cons, List.not_mem_nil, or_false] at hv
 rcases hv with rfl | rfl | rfl | rfl | rfl | rfl | rfl | rfl | rfl | rfl | rfl | rfl | rfl | rfl | rfl | rfl | rfl | rfl | rfl | rfl | rfl | rfl <;> rfl
theorem cellsI_eq (it : IT) : cellsI it = .string it.test :: (cellsR it.r ++ [.int .i64 it.p]) := rfl
theorem ItTy.one {it : IT} (h : ItTy it) : ∀ v ∈ cellsI it, v.oneCell' = true := by
 intro v hv; rw [cellsI_eq] at hv; simp only [List.mem_cons, List.mem_append, List.not_mem_nil, or_false] at hv
 rcases hv with rfl | hv | rfl
 ·rfl
 ·exact RcTy.one h v hv
 ·rfl
theorem flatI_one {X : List IT} (h : ∀ it ∈ X, ItTy it) : ∀ v ∈ X.flatMap cellsI, v.oneCell' = true := by
 intro v hv; obtain ⟨it, h1, h2⟩ := List.mem_flatMap.1 hv; exact (h it h1).one v h2
theorem IT.ext' {x y : IT} (h1 : x.test = y.test) (h2 : x.r = y.r) (h3 : x.p = y.p) : x = y := by
 cases x; cases y; simp only at h1 h2 h3; rw [h1, h2, h3]
theorem take_sameG {α : Type} {l1 l2 : List α} {i : Nat} {a b : α} (h : l1.take i = l2.take i) (ha : l1[i]? = some a) (hb : l2[i]? = some b) (hab : a = b) : l1.take (i + 1) = l2.take (i + 1) := by
 obtain ⟨h1, e1⟩ := List.getElem?_eq_some_iff.1 ha; obtain ⟨h2, e2⟩ := List.getElem?_eq_some_iff.1 hb; rw [List.take_succ_eq_append_getElem h1, List.take_succ_eq_append_getElem h2, h, e1, e2, hab]
theorem str_eq {a b : ByteArray} : a.toList = b.toList ↔ a = b := by
 rw [ByteArray.toList_eq, ByteArray.toList_eq, ByteArray.ext_iff]; exact Array.toList_inj
set_option maxRecDepth 100000 in
open Classical in
theorem git_equal (w : World) (d : Nat) (x y : IT) (hx : ItTy x) (hy : ItTy y) : (Op.equalIn (d + 4) 66 (.agg (cellsI x).toArray) (.agg (cellsI y).toArray)).run Try.prog w = .ok (decide (x = y)) w := by
 obtain ⟨ir, hir⟩ : ∃ i, Try.prog.info? 64 = some i ∧ i.size = 22 := by
  have h : (Try.prog.info? 64).map (·.size) = some 22 := by kernel_rfl
  cases e : Try.prog.info? 64 with
  | none => rw [e] at h; cases h
  | some i => rw [e] at h; exact ⟨i, rfl, by simpa using h⟩
 rw [eq_struct w (d + 3) 66 _ _ [(true, 9, 0), (true, 64, 1), (true, 3, 23)] (by kernel_rfl) (by kernel_rfl) (by kernel_rfl)]; have hnil : (eqF (d + 3) (cellsI x).toArray (cellsI y).toArray []).run Try.prog w = .ok true w := by simp [eqF]
 have h : (eqF (d + 3) (cellsI x).toArray (cellsI y).toArray [(true, 9, 0), (true, 64, 1), (true, 3, 23)]).run Try.prog w = .ok ((x.test.toList == y.test.toList) && (decide (x.r = y.r) && ((x.p == y.p) && true))) w :=
  eqF_step w (run_part_plain w (by kernel_rfl) rfl) (run_part_plain w (by kernel_rfl) rfl) (run_equalIn_string w (d + 2) _ x.test y.test (by kernel_rfl))
  (eqF_step w (part_agg w hir.1 hir.2 (by kernel_rfl) (ys := (cellsR x.r).toArray) (by kernel_rfl)) (part_agg w hir.1 hir.2 (by kernel_rfl) (ys := (cellsR y.r).toArray) (by kernel_rfl)) (res_equal w d x.r y.r hx hy)
  (eqF_step w (run_part_plain w (by kernel_rfl) rfl) (run_part_plain w (by kernel_rfl) rfl) (run_equalIn_int w (d + 2) _ .i64 .i64 x.p y.p (by kernel_rfl)) hnil))
 refine h.trans ?_
 congr 1
 rw [Bool.eq_iff_iff, decide_eq_true_iff]; simp only [Bool.and_eq_true, decide_eq_true_iff, beq_iff_eq, str_eq, and_true]; exact ⟨fun h => IT.ext' h.1 h.2.1 h.2.2, fun h => by subst h; exact ⟨rfl, rfl, rfl⟩⟩
open Classical in
theorem quiet_neq_git (a : Act) (C : World → Prop) (w : World) (x y : Operand) (r s : IT) (hr : ItTy r) (hs : ItTy s) {b : Bool} (hb : b = true ↔ r = s) (hx : a.eval x = (.agg (cellsI r).toArray)) (hy : a.eval y = .agg (cellsI s).toArray) (o : Oper) (ho : o.op = .binOp .neq 66 x y 66) : o.quietAt Try.prog a C w (.bool (!b)) := by
 have h : (binOp .neq 66 (.agg (cellsI r).toArray) (.agg (cellsI s).toArray)).run Try.prog w = .ok (.bool (!b)) w := by
  rw [run_neq_struct, show (10000 : Nat) = 9996 + 4 from rfl, git_equal w 9996 r s hr hs, show decide (r = s) = b by rw [Bool.eq_iff_iff, decide_eq_true_iff]; exact hb.symm]; rfl
 unfold Oper.quietAt execOp; rw [ho]; simp only [hx, hy, Sem.run_bind, run_eqGuard_agg (P := Try.prog) w .neq 66 x y (cellsI r).toArray (cellsI s).toArray (by kernel_rfl), h, Result.andThen_ok, Sem.run_pure]; exact ⟨rfl, rfl⟩
set_option maxRecDepth 100000 in
open Classical in
theorem rit_equal (w : World) (d : Nat) (x y : IT) (hx : ItTy x) (hy : ItTy y) : (Op.equalIn (d + 4) 122 (.agg (cellsI x).toArray) (.agg (cellsI y).toArray)).run Try.prog w = .ok (decide (x = y)) w := by
 obtain ⟨ir, hir⟩ : ∃ i, Try.prog.info? 64 = some i ∧ i.size = 22 := by
  have h : (Try.prog.info? 64).map (·.size) = some 22 := by kernel_rfl
  cases e : Try.prog.info? 64 with
  | none => rw [e] at h; cases h
  | some i => rw [e] at h; exact ⟨i, rfl, by simpa using h⟩
 rw [eq_struct w (d + 3) 122 _ _ [(true, 9, 0), (true, 64, 1), (true, 3, 23)] (by kernel_rfl) (by kernel_rfl) (by kernel_rfl)]; have hnil : (eqF (d + 3) (cellsI x).toArray (cellsI y).toArray []).run Try.prog w = .ok true w := by simp [eqF]
 have h : (eqF (d + 3) (cellsI x).toArray (cellsI y).toArray [(true, 9, 0), (true, 64, 1), (true, 3, 23)]).run Try.prog w = .ok ((x.test.toList == y.test.toList) && (decide (x.r = y.r) && ((x.p == y.p) && true))) w :=
  eqF_step w (run_part_plain w (by kernel_rfl) rfl) (run_part_plain w (by kernel_rfl) rfl) (run_equalIn_string w (d + 2) _ x.test y.test (by kernel_rfl))
  (eqF_step w (part_agg w hir.1 hir.2 (by kernel_rfl) (ys := (cellsR x.r).toArray) (by kernel_rfl)) (part_agg w hir.1 hir.2 (by kernel_rfl) (ys := (cellsR y.r).toArray) (by kernel_rfl)) (res_equal w d x.r y.r hx hy)
  (eqF_step w (run_part_plain w (by kernel_rfl) rfl) (run_part_plain w (by kernel_rfl) rfl) (run_equalIn_int w (d + 2) _ .i64 .i64 x.p y.p (by kernel_rfl)) hnil))
 refine h.trans ?_
 congr 1
 rw [Bool.eq_iff_iff, decide_eq_true_iff]; simp only [Bool.and_eq_true, decide_eq_true_iff, beq_iff_eq, str_eq, and_true]; exact ⟨fun h => IT.ext' h.1 h.2.1 h.2.2, fun h => by subst h; exact ⟨rfl, rfl, rfl⟩⟩
open Classical in
theorem quiet_neq_rit (a : Act) (C : World → Prop) (w : World) (x y : Operand) (r s : IT) (hr : ItTy r) (hs : ItTy s) {b : Bool} (hb : b = true ↔ r = s) (hx : a.eval x = (.agg (cellsI r).toArray)) (hy : a.eval y = .agg (cellsI s).toArray) (o : Oper) (ho : o.op = .binOp .neq 122 x y 122) : o.quietAt Try.prog a C w (.bool (!b)) := by
 have h : (binOp .neq 122 (.agg (cellsI r).toArray) (.agg (cellsI s).toArray)).run Try.prog w = .ok (.bool (!b)) w := by
  rw [run_neq_struct, show (10000 : Nat) = 9996 + 4 from rfl, rit_equal w 9996 r s hr hs, show decide (r = s) = b by rw [Bool.eq_iff_iff, decide_eq_true_iff]; exact hb.symm]; rfl
 unfold Oper.quietAt execOp; rw [ho]; simp only [hx, hy, Sem.run_bind, run_eqGuard_agg (P := Try.prog) w .neq 122 x y (cellsI r).toArray (cellsI s).toArray (by kernel_rfl), h, Result.andThen_ok, Sem.run_pure]; exact ⟨rfl, rfl⟩
theorem retBit {a b : Bool} (h : a = b) : Ending.returned (.bool a) = .returned (.bool b) := by rw [h]
theorem bool_of {b bb : Bool} {p : Prop} [Decidable p] (h : b = true ↔ p) (hb : bb = decide p) : b = bb := by
 rw [hb, Bool.eq_iff_iff, decide_eq_true_iff]; exact h
theorem bool_t {bb : Bool} {p : Prop} [Decidable p] (h : p) (hb : bb = decide p) : true = bb := by rw [hb]; simpa using h
theorem bool_f {bb : Bool} {p : Prop} [Decidable p] (h : ¬p) (hb : bb = decide p) : false = bb := by rw [hb]; simpa using h
set_option maxRecDepth 100000 in
set_option maxHeartbeats 2000000 in
open Classical in
theorem sameitems_nd (A1 A2 : Option Addr) (k1 c1 k2 c2 : Nat) (X Y : List IT) (w : World) (h1 : RowS cellsI w A1 k1 X) (h2 : RowS cellsI w A2 k2 Y) (HX : Hid (∀ it ∈ X, ItTy it)) (HY : Hid (∀ it ∈ Y, ItTy it)) :
  Calls Try.prog 71 #[.slice A1 k1 c1, .slice A2 k2 c2] w fun e w' => e = .returned (.bool (decide (X = Y))) ∧ Below w.heap.size w w' := by
 obtain ⟨bb, HBB⟩ : ∃ b, Hid (b = decide (X = Y)) := ⟨_, rfl⟩; rw [← HBB.out]; have hkb1 : k1 ≤ 281474976710656 := h1.2.2; have E1 := Lib.hid h1.2.1; have E2 := Lib.hid h2.2.1; by_cases hk : k1 = k2
 ·subst hk
  go_enter Try.func71, Try.ntmps71
  go_wp2
  go_loopg [5] k1 (fun j x wr => ∃ i : Nat, x = .int .i64 i ∧ i + j = k1 ∧ Hid (X.take i = Y.take i) ∧ ∃ nq, wr = w.drewN nq)
  case atStart => exact ⟨0, rfl, by omega, by show _ = _; simp, 0, rfl⟩
  case round =>
   obtain ⟨i, rfl, hij, HT, nq, rfl⟩ := hrel; by_cases hi : i < k1
   ·have hiX : i < X.length := by have := E1.out; omega
    have hiY : i < Y.length := by have := E2.out; omega
    have t1 : decide ((i : Int) < (k1 : Int)) = true := by simp; omega
    obtain ⟨b1, o1, rfl, HCA⟩ := (h1.below (below_drewN w nq)).at_ cellsI_len (by omega) hi hiX; obtain ⟨b2, o2, rfl, HCB⟩ := (h2.below (below_drewN w nq)).at_ cellsI_len (by omega) hi hiY; have tx := HX.out _ (List.getElem_mem hiX); have ty := HY.out _ (List.getElem_mem hiY); have gX : X[i]? = some X[i] := List.getElem?_eq_getElem hiX; have gY : Y[i]? = some Y[i] := List.getElem?_eq_getElem hiY; generalize X[i] = x at HCA tx gX; generalize Y[i] = y at HCB ty gY; obtain ⟨bq, hbq⟩ : ∃ bq : Bool, Hid (bq = true ↔ x = y) := ⟨decide (x = y), by show _ ↔ _; simp⟩; have HGX := Lib.hid gX; have HGY := Lib.hid gY; clear gX gY; go_upto_region 6 with fail; refine wp_region_quiet_lit (by kernel_rfl) (by kernel_rfl) ?_
    repeat (go_big_quiet_step (fail))
    refine wpQuiet_step (fun K hK => ?_); rw [if_pos (by rfl)]; refine ⟨.agg (cellsI x).toArray, fun w hw => quiet_load_mid 122 (.tmp 19) rfl b1 (o1 + i * 24) rfl (cellsI x) _ HCA.out Try.underlying122 rfl (infoRIL (it := x)) w hw, ?_⟩; simp only [Act.put, sA, sB, sC]; refine hK _ ?_; clear hK K
    repeat (go_big_quiet_step (fail))
    refine wpQuiet_step (fun K hK => ?_); rw [if_pos (by rfl)]; refine ⟨.agg (cellsI y).toArray, fun w hw => quiet_load_mid 122 (.tmp 23) rfl b2 (o2 + i * 24) rfl (cellsI y) _ HCB.out Try.underlying122 rfl (infoRIL (it := y)) w hw, ?_⟩; simp only [Act.put, sA, sB, sC]; refine hK _ ?_; clear hK K; refine wpQuiet_step (fun K hK => ?_); rw [if_pos (by rfl)]; refine ⟨.bool (!bq), fun w _ => quiet_neq_rit _ _ w (.tmp 20) (.tmp 24) x y tx ty hbq.out rfl rfl _ rfl, ?_⟩; simp only [Act.put, sA, sB, sC]; refine hK _ ?_; clear hK K
    repeat (go_big_quiet_step (fail))
    refine wpQuiet_nil ?_; intro _ hw'; obtain ⟨nq2, hw''⟩ := hw'; subst hw''
    cases bq
    ·have HF : Hid (false = bb) := by
      refine bool_f (fun h => ?_) HBB.out; have e := HGX.out; rw [h, HGY.out] at e; have := hbq.out.2 (Option.some.inj e).symm
      cases this
     go_wp2_with fail; go_ret; exact ⟨retBit HF.out, by first | exact Below.tr (below_drewN w nq) (below_drewN (w.drewN nq) nq2) | exact below_drewN _ _⟩
    ·have HT2 : Hid (X.take (i + 1) = Y.take (i + 1)) := take_sameG HT.out HGX.out HGY.out (hbq.out.1 rfl); go_wp2_with fail
     go_roundg (gk - 1)
     case measure => omega
     case rel => exact ⟨i + 1, by go_num, by omega, HT2, nq + nq2, by simp [World.drewN, Nat.add_assoc, Nat.add_comm]⟩
   ·obtain rfl : k1 = i := by omega
    have t1 : decide ((k1 : Int) < (k1 : Int)) = false := by simp
    have HF : Hid (true = bb) := by
     refine bool_t ?_ HBB.out; have := HT.out
     rwa [List.take_of_length_le (by rw [← E1.out]; omega), List.take_of_length_le (by rw [← E2.out]; omega)] at this
    go_wp2_with fail; go_ret; exact ⟨retBit HF.out, below_drewN _ _⟩
 ·have HF : Hid (false = bb) := by
   refine bool_f (fun h => ?_) HBB.out; subst h; exact absurd (E1.out.trans E2.out.symm) hk
  have hd : ((k1 : Int) != (k2 : Int)) = true := by simp; omega
  clear hk
  go_enter Try.func71, Try.ntmps71
  go_wp2
  go_ret; exact ⟨retBit HF.out, Below.refl _ _⟩
theorem sameitems_n (A1 A2 : Option Addr) (k1 c1 k2 c2 : Nat) (X Y : List IT) (w : World) (h1 : RowS cellsI w A1 k1 X) (h2 : RowS cellsI w A2 k2 Y) (HX : Hid (∀ it ∈ X, ItTy it)) (HY : Hid (∀ it ∈ Y, ItTy it)) :
  Calls Try.prog 71 #[.slice A1 k1 c1, .slice A2 k2 c2] w fun e w' => ∃ b : Bool, e = .returned (.bool b) ∧ Hid (b = true ↔ X = Y) ∧ Below w.heap.size w w' :=
 (sameitems_nd A1 A2 k1 c1 k2 c2 X Y w h1 h2 HX HY).mono fun e w' h => ⟨_, h.1, by show _ ↔ _; simp, h.2⟩
set_option maxRecDepth 100000 in
set_option maxHeartbeats 2000000 in
open Classical in
theorem equalitems_nd (A1 A2 : Option Addr) (k1 c1 k2 c2 : Nat) (X Y : List IT) (w : World) (h1 : RowS cellsI w A1 k1 X) (h2 : RowS cellsI w A2 k2 Y) (HX : Hid (∀ it ∈ X, ItTy it)) (HY : Hid (∀ it ∈ Y, ItTy it)) :
  Calls Try.prog 83 #[.slice A1 k1 c1, .slice A2 k2 c2] w fun e w' => e = .returned (.bool (decide (X = Y))) ∧ Below w.heap.size w w' := by
 obtain ⟨bb, HBB⟩ : ∃ b, Hid (b = decide (X = Y)) := ⟨_, rfl⟩; rw [← HBB.out]; have hkb1 : k1 ≤ 281474976710656 := h1.2.2; have E1 := Lib.hid h1.2.1; have E2 := Lib.hid h2.2.1; by_cases hk : k1 = k2
 ·subst hk
  go_enter Try.func83, Try.ntmps83
  go_wp2
  go_loopg [13, 5] k1 (fun j x z0 wr => ∃ i : Nat, x = .int .i64 i ∧ i + j = k1 ∧ z0 = z0 ∧ Hid (X.take i = Y.take i) ∧ ∃ nq, wr = w.drewN nq)
  case atStart => exact ⟨0, rfl, by omega, (by trivial), by show _ = _; simp, 0, rfl⟩
  case round =>
   obtain ⟨i, rfl, hij, _, HT, nq, rfl⟩ := hrel; by_cases hi : i < k1
   ·have hiX : i < X.length := by have := E1.out; omega
    have hiY : i < Y.length := by have := E2.out; omega
    have t1 : decide ((i : Int) < (k1 : Int)) = true := by simp; omega
    obtain ⟨b1, o1, rfl, HCA⟩ := (h1.below (below_drewN w nq)).at_ cellsI_len (by omega) hi hiX; obtain ⟨b2, o2, rfl, HCB⟩ := (h2.below (below_drewN w nq)).at_ cellsI_len (by omega) hi hiY; have tx := HX.out _ (List.getElem_mem hiX); have ty := HY.out _ (List.getElem_mem hiY); have gX : X[i]? = some X[i] := List.getElem?_eq_getElem hiX; have gY : Y[i]? = some Y[i] := List.getElem?_eq_getElem hiY; generalize X[i] = x at HCA tx gX; generalize Y[i] = y at HCB ty gY; obtain ⟨bq, hbq⟩ : ∃ bq : Bool, Hid (bq = true ↔ x = y) := ⟨decide (x = y), by show _ ↔ _; simp⟩; have HGX := Lib.hid gX; have HGY := Lib.hid gY; clear gX gY; go_upto_region 6 with fail; refine wp_region_quiet_lit (by kernel_rfl) (by kernel_rfl) ?_
    repeat (go_big_quiet_step (fail))
    refine wpQuiet_step (fun K hK => ?_); rw [if_pos (by rfl)]; refine ⟨.agg (cellsI x).toArray, fun w hw => quiet_load_mid 66 (.tmp 18) rfl b1 (o1 + i * 24) rfl (cellsI x) _ HCA.out Try.underlying66 rfl (infoIL (it := x)) w hw, ?_⟩; simp only [Act.put, sA, sB, sC]; refine hK _ ?_; clear hK K
    repeat (go_big_quiet_step (fail))
    refine wpQuiet_step (fun K hK => ?_); rw [if_pos (by rfl)]; refine ⟨.agg (cellsI y).toArray, fun w hw => quiet_load_mid 66 (.tmp 22) rfl b2 (o2 + i * 24) rfl (cellsI y) _ HCB.out Try.underlying66 rfl (infoIL (it := y)) w hw, ?_⟩; simp only [Act.put, sA, sB, sC]; refine hK _ ?_; clear hK K; refine wpQuiet_step (fun K hK => ?_); rw [if_pos (by rfl)]; refine ⟨.bool (!bq), fun w _ => quiet_neq_git _ _ w (.tmp 19) (.tmp 23) x y tx ty hbq.out rfl rfl _ rfl, ?_⟩; simp only [Act.put, sA, sB, sC]; refine hK _ ?_; clear hK K
    repeat (go_big_quiet_step (fail))
    refine wpQuiet_nil ?_; intro _ hw'; obtain ⟨nq2, hw''⟩ := hw'; subst hw''
    cases bq
    ·have HF : Hid (false = bb) := by
      refine bool_f (fun h => ?_) HBB.out; have e := HGX.out; rw [h, HGY.out] at e; have := hbq.out.2 (Option.some.inj e).symm
      cases this
     go_wp2_with fail; go_ret; exact ⟨retBit HF.out, by first | exact Below.tr (below_drewN w nq) (below_drewN (w.drewN nq) nq2) | exact below_drewN _ _⟩
    ·have HT2 : Hid (X.take (i + 1) = Y.take (i + 1)) := take_sameG HT.out HGX.out HGY.out (hbq.out.1 rfl); go_wp2_with fail
     go_roundg (gk - 1)
     case measure => omega
     case rel => exact ⟨i + 1, by go_num, by omega, (by trivial), HT2, nq + nq2, by simp [World.drewN, Nat.add_assoc, Nat.add_comm]⟩
   ·obtain rfl : k1 = i := by omega
    have t1 : decide ((k1 : Int) < (k1 : Int)) = false := by simp
    have HF : Hid (true = bb) := by
     refine bool_t ?_ HBB.out; have := HT.out
     rwa [List.take_of_length_le (by rw [← E1.out]; omega), List.take_of_length_le (by rw [← E2.out]; omega)] at this
    go_wp2_with fail; go_ret; exact ⟨retBit HF.out, below_drewN _ _⟩
 ·have HF : Hid (false = bb) := by
   refine bool_f (fun h => ?_) HBB.out; subst h; exact absurd (E1.out.trans E2.out.symm) hk
  have hd : ((k1 : Int) != (k2 : Int)) = true := by simp; omega
  clear hk
  go_enter Try.func83, Try.ntmps83
  go_wp2
  go_ret; exact ⟨retBit HF.out, Below.refl _ _⟩
theorem equalitems_n (A1 A2 : Option Addr) (k1 c1 k2 c2 : Nat) (X Y : List IT) (w : World) (h1 : RowS cellsI w A1 k1 X) (h2 : RowS cellsI w A2 k2 Y) (HX : Hid (∀ it ∈ X, ItTy it)) (HY : Hid (∀ it ∈ Y, ItTy it)) :
  Calls Try.prog 83 #[.slice A1 k1 c1, .slice A2 k2 c2] w fun e w' => ∃ b : Bool, e = .returned (.bool b) ∧ Hid (b = true ↔ X = Y) ∧ Below w.heap.size w w' :=
 (equalitems_nd A1 A2 k1 c1 k2 c2 X Y w h1 h2 HX HY).mono fun e w' h => ⟨_, h.1, by show _ ↔ _; simp, h.2⟩
end Go.Proofs.Yticobffjnjbjiaa
namespace Go.Proofs.Yticobffjnjbjiaa
open Go
/- The same, where what holds all along may speak of the slots' values before they are written. -/
section
variable {P : Program} {ops : Array Oper} {Q : Exit → Act → World → Prop} {md : Region.Mode}
theorem wpAny_invv {Φ : Nat → World → Value → Prop} {R : World → World → Prop} (S : (Nat → Bool) → (Nat → Value) → World → Prop) (a0 : Act) (hd : apartL ops.toList = true) (hb : backC md ops = true)
  (hΦ : ∀ w w', R w w' → ∀ j x, Φ j w x → Φ j w' x)
  (hstep : ∀ i o, ops[i]? = some o → ∀ vs (L : Nat → Bool) w, S L vs w → L i = false → (∀ j o', ops[j]? = some o' → L j = true → ∀ e ∈ o'.after, Region.binds md e = true → L e.on = true) → (∀ e ∈ o.after, Region.binds md e = true → Φ e.on w (vs e.on)) →
   ∀ K : Act → World → Prop, (∀ v w', R w w' → S (updB L i) (upd vs i v) w' → Φ i w' v → K ((fillR ops.toList 0 vs a0).put o.dst v) w') →
    if Region.wanted o (yielded ops (fillR ops.toList 0 vs a0).tmps) = true then Oper.wp P o (fillR ops.toList 0 vs a0) w K Q else K ((fillR ops.toList 0 vs a0).put o.dst undef) w)
  (hend : ∀ vs L w, S L vs w → (∀ i, i < ops.size → L i = true) → (∀ i, i < ops.size → Φ i w (vs i)) → Q .normal (fillR ops.toList 0 vs a0) w) :
  ∀ (fuel : Nat) (listed : Array Bool) (vs : Nat → Value) (w : World), listed.size = ops.size → listed.toList.count false = fuel → closedB md ops listed → S (fun j => listed.getD j false) vs w → (∀ j, listed.getD j false = true → Φ j w (vs j)) →
   wpAny P md ops Q fuel listed (fillR ops.toList 0 vs a0) w := by
 intro fuel
 induction fuel with
 | zero =>
  intro listed vs w hs hc hcl hSw hl
  have hall : ∀ i, i < ops.size → listed.getD i false = true := by
   intro i hi; have h' : i < listed.size := by omega
   rw [List.count_eq_zero] at hc
   cases hx : listed.getD i false with
   | true => rfl
   | false =>
    exfalso
    apply hc
    simp [h'] at hx; rw [← hx]; exact Array.getElem_mem_toList h'
  refine ⟨?_, hend vs _ w hSw hall (fun i hi => hl i (hall i hi))⟩; rw [List.eq_nil_iff_forall_not_mem]; intro i hi; obtain ⟨h1, o, ho, _⟩ := mem_ready.1 hi; have hi' : i < ops.size := (Array.getElem?_eq_some_iff.1 ho).1; have h2 := hall i hi'; have h' : i < listed.size := by omega
  simp [h'] at h1 h2; rw [h1] at h2
  cases h2
 | succ fuel ih =>
  intro listed vs w hs hc hcl hSw hl; refine ⟨fun hr => hend vs _ w hSw (all_listedC hb hs hr) (fun i hi => hl i (all_listedC hb hs hr i hi)), fun i hi => ?_⟩; obtain ⟨h1, o, ho, hall⟩ := mem_ready.1 hi; have hi' : i < ops.size := (Array.getElem?_eq_some_iff.1 ho).1; have hil : i < listed.size := by omega
  have hun : listed.getD i false = false := by simp [hil] at h1 ⊢; exact h1
  refine wpOp_step ho fun K' hK => ?_
  refine hstep i o ho vs _ w hSw hun hcl (fun e he hbd => hl e.on (hall e he hbd)) K' fun v w' hR hS' hv => ?_
  apply hK
  rw [fillR_upd ops.toList 0 i vs a0 o v hd (by simpa using ho), Nat.zero_add]
  have hset : (fun j => (listed.setIfInBounds i true).getD j false) = updB (fun j => listed.getD j false) i := by
   funext j
   unfold updB; by_cases hji : j = i
   ·subst hji; simp [hil]
   ·rw [if_neg hji]; simp [Array.getElem?_setIfInBounds, Ne.symm hji]
  refine ih _ _ _ (by simp [hs]) ?_ ?_ (by rw [hset]; exact hS') ?_
  ·have h1' : listed.toList[i]'(by simpa using hil) = false := by simp [hil] at h1; simpa using h1
   simp only [Array.toList_setIfInBounds]; rw [List.count_set (by simpa using hil), h1', hc]; simp
  ·intro j oj hj hlj e he hbd; by_cases hei : e.on = i
   ·rw [hei]; simp [hil]
   ·have hold : listed.getD e.on false = true := by
     by_cases hji : j = i
     ·subst hji; have : oj = o := Option.some.inj (hj.symm.trans ho); subst this; exact hall e he hbd
     ·refine hcl j oj hj ?_ e he hbd; simp [Array.getElem?_setIfInBounds, Ne.symm hji] at hlj
      simpa using hlj
    simp [Array.getElem?_setIfInBounds, Ne.symm hei] at hold ⊢; exact hold
  ·intro j hj; by_cases hji : j = i
   ·subst hji; rw [show upd vs j v j = v from if_pos rfl]; exact hv
   ·rw [show upd vs i v j = vs j from if_neg hji]; refine hΦ _ _ hR j _ (hl j ?_); simp [Array.getElem?_setIfInBounds, Ne.symm hji] at hj
    simpa using hj
/-- what an operation owes; S knows what is listed, and the slots -/
def OwesV (P : Program) (Q : Exit → Act → World → Prop) (l : List Oper) (F : (Nat → Value) → Act) (Φ : Nat → World → Value → Prop) (R : World → World → Prop) (S : (Nat → Bool) → (Nat → Value) → World → Prop) (i : Nat) (o : Oper) : Prop :=
 ∀ vs (L : Nat → Bool) w, S L vs w → L i = false → (∀ j o', l[j]? = some o' → L j = true → ∀ e ∈ o'.after.toList, Region.binds .any e = true → L e.on = true) → (∀ e ∈ o.after.toList, Region.binds .any e = true → Φ e.on w (vs e.on)) → ∀ K : Act → World → Prop, (∀ v w', R w w' → S (updB L i) (upd vs i v) w' → Φ i w' v → K ((F vs).put o.dst v) w') →
  Wrap (if Region.wanted o (yielded l.toArray (F vs).tmps) = true then Oper.wp P o (F vs) w K Q else K ((F vs).put o.dst undef) w)
theorem region_invV {id : Nat} {a0 : Act} {w : World} {l : List Oper} {F : (Nat → Value) → Act} (Φ : Nat → World → Value → Prop) (R : World → World → Prop) (S : (Nat → Bool) → (Nat → Value) → World → Prop) (hm : P.follows .mixedOrders = true) (hd : apartL l = true) (hb : backC .any l.toArray = true)
  (hΦ : ∀ w w', R w w' → ∀ j x, Φ j w x → Φ j w' x) (hS0 : S (fun _ => false) (ownV l a0) w.drew) (hF : ∀ vs, fillR l 0 vs a0 = F vs)
  (hstep : StepsL (OwesV P Q l F Φ R S) 0 l)
  (hend : ∀ vs L w, S L vs w → (∀ i, i < l.length → L i = true) → (∀ i, i < l.length → Φ i w (vs i)) → Q .normal (F vs) w) : (Code.region id l.toArray true).wp P Q a0 w := by
 refine wp_region_any hm ?_; have hrep : (fun j => (Array.replicate l.toArray.size false).getD j false) = (fun _ => false) := by funext j; exact repF
 have h := wpAny_invv (P := P) (Q := Q) (md := .any) (ops := l.toArray) (Φ := Φ) (R := R) S a0 hd hb hΦ (fun i o ho vs L w hSw hL hcl hdep K hK => by
  have := hstep i o (by simpa using ho); rw [Nat.zero_add] at this; have h2 := (this vs L w hSw hL (fun j o' hj hlj e he hbd => hcl j o' (by simpa using hj) hlj e (by simpa using he) hbd) (fun e he hbd => hdep e (by simpa using he) hbd) K (by rw [← hF vs]; exact hK)).un; rw [← hF vs] at h2
  exact h2) (fun vs L w hSw hall h => by
   have h3 := hend vs L w hSw (fun i hi => hall i (by simpa using hi)) (fun i hi => h i (by simpa using hi)); rw [← hF vs] at h3
   exact h3) l.toArray.size (Array.replicate l.toArray.size false) (ownV l a0) w.drew (by simp) (by simp) (fun j o _ hj => by rw [repF] at hj; cases hj) (by rw [hrep]; exact hS0) (fun j hj => by rw [repF] at hj; cases hj)
 rw [fillR_id] at h
 ·exact h
 ·intro j o ho d hd'; rw [Nat.zero_add]; unfold ownV; rw [ho]; simp [hd']
end
end Go.Proofs.Yticobffjnjbjiaa
namespace Go.Proofs.Yticobffjnjbjiaa
open Go
/- The same, told besides that what an operation hangs on is done. -/
section
variable {P : Program} {ops : Array Oper} {Q : Exit → Act → World → Prop} {md : Region.Mode}
theorem wpAny_invw {Φ : Nat → World → Value → Prop} {R : World → World → Prop} (S : (Nat → Bool) → (Nat → Value) → World → Prop) (a0 : Act) (hd : apartL ops.toList = true) (hb : backC md ops = true)
  (hΦ : ∀ w w', R w w' → ∀ j x, Φ j w x → Φ j w' x)
  (hstep : ∀ i o, ops[i]? = some o → ∀ vs (L : Nat → Bool) w, S L vs w → L i = false → (∀ j o', ops[j]? = some o' → L j = true → ∀ e ∈ o'.after, Region.binds md e = true → L e.on = true) → (∀ e ∈ o.after, Region.binds md e = true → L e.on = true) → (∀ e ∈ o.after, Region.binds md e = true → Φ e.on w (vs e.on)) →
   ∀ K : Act → World → Prop, (∀ v w', R w w' → S (updB L i) (upd vs i v) w' → Φ i w' v → K ((fillR ops.toList 0 vs a0).put o.dst v) w') →
    if Region.wanted o (yielded ops (fillR ops.toList 0 vs a0).tmps) = true then Oper.wp P o (fillR ops.toList 0 vs a0) w K Q else K ((fillR ops.toList 0 vs a0).put o.dst undef) w)
  (hend : ∀ vs L w, S L vs w → (∀ i, i < ops.size → L i = true) → (∀ i, i < ops.size → Φ i w (vs i)) → Q .normal (fillR ops.toList 0 vs a0) w) :
  ∀ (fuel : Nat) (listed : Array Bool) (vs : Nat → Value) (w : World), listed.size = ops.size → listed.toList.count false = fuel → closedB md ops listed → S (fun j => listed.getD j false) vs w → (∀ j, listed.getD j false = true → Φ j w (vs j)) →
   wpAny P md ops Q fuel listed (fillR ops.toList 0 vs a0) w := by
 intro fuel
 induction fuel with
 | zero =>
  intro listed vs w hs hc hcl hSw hl
  have hall : ∀ i, i < ops.size → listed.getD i false = true := by
   intro i hi; have h' : i < listed.size := by omega
   rw [List.count_eq_zero] at hc
   cases hx : listed.getD i false with
   | true => rfl
   | false =>
    exfalso
    apply hc
    simp [h'] at hx; rw [← hx]; exact Array.getElem_mem_toList h'
  refine ⟨?_, hend vs _ w hSw hall (fun i hi => hl i (hall i hi))⟩; rw [List.eq_nil_iff_forall_not_mem]; intro i hi; obtain ⟨h1, o, ho, _⟩ := mem_ready.1 hi; have hi' : i < ops.size := (Array.getElem?_eq_some_iff.1 ho).1; have h2 := hall i hi'; have h' : i < listed.size := by omega
  simp [h'] at h1 h2; rw [h1] at h2
  cases h2
 | succ fuel ih =>
  intro listed vs w hs hc hcl hSw hl; refine ⟨fun hr => hend vs _ w hSw (all_listedC hb hs hr) (fun i hi => hl i (all_listedC hb hs hr i hi)), fun i hi => ?_⟩; obtain ⟨h1, o, ho, hall⟩ := mem_ready.1 hi; have hi' : i < ops.size := (Array.getElem?_eq_some_iff.1 ho).1; have hil : i < listed.size := by omega
  have hun : listed.getD i false = false := by simp [hil] at h1 ⊢; exact h1
  refine wpOp_step ho fun K' hK => ?_
  refine hstep i o ho vs _ w hSw hun hcl hall (fun e he hbd => hl e.on (hall e he hbd)) K' fun v w' hR hS' hv => ?_
  apply hK
  rw [fillR_upd ops.toList 0 i vs a0 o v hd (by simpa using ho), Nat.zero_add]
  have hset : (fun j => (listed.setIfInBounds i true).getD j false) = updB (fun j => listed.getD j false) i := by
   funext j
   unfold updB; by_cases hji : j = i
   ·subst hji; simp [hil]
   ·rw [if_neg hji]; simp [Array.getElem?_setIfInBounds, Ne.symm hji]
  refine ih _ _ _ (by simp [hs]) ?_ ?_ (by rw [hset]; exact hS') ?_
  ·have h1' : listed.toList[i]'(by simpa using hil) = false := by simp [hil] at h1; simpa using h1
   simp only [Array.toList_setIfInBounds]; rw [List.count_set (by simpa using hil), h1', hc]; simp
  ·intro j oj hj hlj e he hbd; by_cases hei : e.on = i
   ·rw [hei]; simp [hil]
   ·have hold : listed.getD e.on false = true := by
     by_cases hji : j = i
     ·subst hji; have : oj = o := Option.some.inj (hj.symm.trans ho); subst this; exact hall e he hbd
     ·refine hcl j oj hj ?_ e he hbd; simp [Array.getElem?_setIfInBounds, Ne.symm hji] at hlj
      simpa using hlj
    simp [Array.getElem?_setIfInBounds, Ne.symm hei] at hold ⊢; exact hold
  ·intro j hj; by_cases hji : j = i
   ·subst hji; rw [show upd vs j v j = v from if_pos rfl]; exact hv
   ·rw [show upd vs i v j = vs j from if_neg hji]; refine hΦ _ _ hR j _ (hl j ?_); simp [Array.getElem?_setIfInBounds, Ne.symm hji] at hj
    simpa using hj
/-- what an operation owes; S knows what is listed, and the slots -/
def OwesW (P : Program) (Q : Exit → Act → World → Prop) (l : List Oper) (F : (Nat → Value) → Act) (Φ : Nat → World → Value → Prop) (R : World → World → Prop) (S : (Nat → Bool) → (Nat → Value) → World → Prop) (i : Nat) (o : Oper) : Prop :=
 ∀ vs (L : Nat → Bool) w, S L vs w → L i = false → (∀ j o', l[j]? = some o' → L j = true → ∀ e ∈ o'.after.toList, Region.binds .any e = true → L e.on = true) → (∀ e ∈ o.after.toList, Region.binds .any e = true → L e.on = true) → (∀ e ∈ o.after.toList, Region.binds .any e = true → Φ e.on w (vs e.on)) → ∀ K : Act → World → Prop, (∀ v w', R w w' → S (updB L i) (upd vs i v) w' → Φ i w' v → K ((F vs).put o.dst v) w') →
  Wrap (if Region.wanted o (yielded l.toArray (F vs).tmps) = true then Oper.wp P o (F vs) w K Q else K ((F vs).put o.dst undef) w)
theorem region_invW {id : Nat} {a0 : Act} {w : World} {l : List Oper} {F : (Nat → Value) → Act} (Φ : Nat → World → Value → Prop) (R : World → World → Prop) (S : (Nat → Bool) → (Nat → Value) → World → Prop) (hm : P.follows .mixedOrders = true) (hd : apartL l = true) (hb : backC .any l.toArray = true)
  (hΦ : ∀ w w', R w w' → ∀ j x, Φ j w x → Φ j w' x) (hS0 : S (fun _ => false) (ownV l a0) w.drew) (hF : ∀ vs, fillR l 0 vs a0 = F vs)
  (hstep : StepsL (OwesW P Q l F Φ R S) 0 l)
  (hend : ∀ vs L w, S L vs w → (∀ i, i < l.length → L i = true) → (∀ i, i < l.length → Φ i w (vs i)) → Q .normal (F vs) w) : (Code.region id l.toArray true).wp P Q a0 w := by
 refine wp_region_any hm ?_; have hrep : (fun j => (Array.replicate l.toArray.size false).getD j false) = (fun _ => false) := by funext j; exact repF
 have h := wpAny_invw (P := P) (Q := Q) (md := .any) (ops := l.toArray) (Φ := Φ) (R := R) S a0 hd hb hΦ (fun i o ho vs L w hSw hL hcl hdl hdep K hK => by
  have := hstep i o (by simpa using ho); rw [Nat.zero_add] at this; have h2 := (this vs L w hSw hL (fun j o' hj hlj e he hbd => hcl j o' (by simpa using hj) hlj e (by simpa using he) hbd) (fun e he hbd => hdl e (by simpa using he) hbd) (fun e he hbd => hdep e (by simpa using he) hbd) K (by rw [← hF vs]; exact hK)).un; rw [← hF vs] at h2
  exact h2) (fun vs L w hSw hall h => by
   have h3 := hend vs L w hSw (fun i hi => hall i (by simpa using hi)) (fun i hi => h i (by simpa using hi)); rw [← hF vs] at h3
   exact h3) l.toArray.size (Array.replicate l.toArray.size false) (ownV l a0) w.drew (by simp) (by simp) (fun j o _ hj => by rw [repF] at hj; cases hj) (by rw [hrep]; exact hS0) (fun j hj => by rw [repF] at hj; cases hj)
 rw [fillR_id] at h
 ·exact h
 ·intro j o ho d hd'; rw [Nat.zero_add]; unfold ownV; rw [ho]; simp [hd']
end
end Go.Proofs.Yticobffjnjbjiaa
namespace Go.Proofs.Yticobffjnjbjiaa
open Go
/- A region that draws its order and ends in a chain: what leads to the chain's first operation is done in any order ('early'), some operations that need nothing of the world are done at any time ('free'), the chain's operations follow each other. -/
section
variable {P : Program} {Q : Exit → Act → World → Prop}
/-- operation i waits for j, itself or through others -/
def reachB (l : List Oper) : Nat → Nat → Nat → Bool
 | 0, _, _ => false
 | n + 1, i, j => match l[i]? with
  | some o => o.after.toList.any fun e => Region.binds .any e && (e.on == j || reachB l n e.on j)
  | none => false
theorem reach_listed {l : List Oper} {L : Nat → Bool} (hcl : ∀ j o', l[j]? = some o' → L j = true → ∀ e ∈ o'.after.toList, Region.binds .any e = true → L e.on = true) :
  ∀ (n i j : Nat) (o : Oper), l[i]? = some o → (∀ e ∈ o.after.toList, Region.binds .any e = true → L e.on = true) → reachB l n i j = true → L j = true
 | 0, _, _, _, _, _, h => by cases h
 | n + 1, i, j, o, ho, hd, h => by
  simp only [reachB, ho, List.any_eq_true, Bool.and_eq_true, Bool.or_eq_true, beq_iff_eq] at h; obtain ⟨e, he, hb, h⟩ := h; have h1 := hd e he hb
  rcases h with h | h
  ·rw [← h]; exact h1
  ·cases ho2 : l[e.on]? with
   | none => cases n <;> simp [reachB, ho2] at h
   | some o2 => exact reach_listed hcl n e.on j o2 ho2 (hcl e.on o2 ho2 h1) h
inductive Tg where
 | early | free
 | chain (k : Nat)
def tagB (l : List Oper) (cs : List Nat) (tags : List Tg) (fr dep : List Nat) : Bool :=
 (List.range l.length).all (fun i => match tags[i]? with
  | some .early => !cs.contains i && (match cs with | c :: _ => reachB l l.length c i | [] => false)
  | some .free => !cs.contains i && fr.contains i && (match l[i]? with | some o => o.after.toList.all (fun e => !Region.binds .any e || fr.contains e.on) | none => false)
  | some (.chain k) => cs[k]? == some i && !fr.contains i
  | none => false) &&
 (List.range cs.length).all (fun k => (List.range k).all fun j => match cs[k]?, cs[j]? with
  | some a, some b => reachB l l.length a b && a != b
  | _, _ => false) && !cs.isEmpty && cs.all (fun c => decide (c < l.length)) && dep.all (fun d => match tags[d]? with | some .early => true | _ => false)
def OwesK (P : Program) (Q : Exit → Act → World → Prop) (l : List Oper) (a0 : Act) (F : (Nat → Value) → Act) (cs : List Nat) (tags : List Tg) (fr : List Nat) (Φ : (Nat → Value) → Nat → World → Value → Prop) (R : World → World → Prop) (S : List Value → (Nat → Value) → World → Prop) (i : Nat) (o : Oper) : Prop :=
 match tags[i]? with
 | some .early => ∀ vs w, S [] vs w → (∀ c ∈ cs, vs c = ownV l a0 c) → (∀ e ∈ o.after.toList, Region.binds .any e = true → Φ vs e.on w (vs e.on)) → ∀ K : Act → World → Prop, (∀ v w', R w w' → Φ vs i w' v → K ((F vs).put o.dst v) w') →
  Wrap (if Region.wanted o (yielded l.toArray (F vs).tmps) = true then Oper.wp P o (F vs) w K Q else K ((F vs).put o.dst undef) w)
 | some .free => ∀ vs w, (∀ e ∈ o.after.toList, Region.binds .any e = true → Φ vs e.on w (vs e.on)) → ∀ K : Act → World → Prop, (∀ v, Φ vs i w v → K ((F vs).put o.dst v) w) →
  Wrap (if Region.wanted o (yielded l.toArray (F vs).tmps) = true then Oper.wp P o (F vs) w K Q else K ((F vs).put o.dst undef) w)
 | some (.chain k) => ∀ vs w, S ((cs.take k).map vs) vs w → (∀ e ∈ o.after.toList, Region.binds .any e = true → (k == 0 || fr.contains e.on) = true → Φ vs e.on w (vs e.on)) → ∀ K : Act → World → Prop, (∀ v w', S ((cs.take k).map vs ++ [v]) vs w' → K ((F vs).put o.dst v) w') →
  Wrap (if Region.wanted o (yielded l.toArray (F vs).tmps) = true then Oper.wp P o (F vs) w K Q else K ((F vs).put o.dst undef) w)
 | none => True
/-- how it stands, by what is listed -/
def StK (l : List Oper) (a0 : Act) (cs : List Nat) (fr : List Nat) (Φ : (Nat → Value) → Nat → World → Value → Prop) (S : List Value → (Nat → Value) → World → Prop) (L : Nat → Bool) (vs : Nat → Value) (w : World) : Prop :=
 ∃ k, k ≤ cs.length ∧ (∀ (j c : Nat), cs[j]? = some c → (L c = true ↔ j < k)) ∧ S ((cs.take k).map vs) vs w ∧ (∀ j, L j = true → j < l.length ∧ (k = 0 ∨ fr.contains j = true → Φ vs j w (vs j))) ∧ (∀ j, L j = false → vs j = ownV l a0 j)
theorem map_upd {cs : List Nat} {k i : Nat} {vs : Nat → Value} {v : Value} (h : i ∉ cs.take k) : (cs.take k).map (upd vs i v) = (cs.take k).map vs := by
 apply List.map_congr_left
 intro c hc; exact if_neg (fun e : c = i => h (e ▸ hc))
theorem region_chain {id : Nat} {a0 : Act} {w : World} {l : List Oper} {F : (Nat → Value) → Act} (cs : List Nat) (tags : List Tg) (fr dep : List Nat) (Φ : (Nat → Value) → Nat → World → Value → Prop) (R : World → World → Prop) (S : List Value → (Nat → Value) → World → Prop) (hm : P.follows .mixedOrders = true) (hd : apartL l = true) (hb : backC .any l.toArray = true) (ht : tagB l cs tags fr dep = true)
  (hC : StepsL (Hangs Φ) 0 l) (hR : ∀ vs w w', R w w' → ∀ j x, Φ vs j w x → Φ vs j w' x) (hF' : ∀ vs w w' j x, fr.contains j = true → Φ vs j w x → Φ vs j w' x) (hS : ∀ vs vs' w w', R w w' → S [] vs w → S [] vs' w') (hins : ∀ li vs vs' w, (∀ j ∈ dep, vs j = vs' j) → S li vs w → S li vs' w) (hS0 : ∀ vs, S [] vs w.drew) (hF : ∀ vs, fillR l 0 vs a0 = F vs)
  (hstep : StepsL (OwesK P Q l a0 F cs tags fr Φ R S) 0 l)
  (hend : ∀ vs w, S (cs.map vs) vs w → (∀ i, i < l.length → fr.contains i = true → Φ vs i w (vs i)) → Q .normal (F vs) w) : (Code.region id l.toArray true).wp P Q a0 w := by
 simp only [tagB, Bool.and_eq_true, Bool.not_eq_true', List.all_eq_true, List.mem_range] at ht; obtain ⟨⟨⟨⟨ht1, ht2⟩, ht3⟩, ht4⟩, ht5⟩ := ht; simp only [decide_eq_true_iff] at ht4
 have hch : ∀ (a b ca cb : Nat), cs[a]? = some ca → cs[b]? = some cb → b < a → reachB l l.length ca cb = true ∧ ca ≠ cb := by
  intro a b ca cb ha hb2 hlt; have h := ht2 a (List.getElem?_eq_some_iff.1 ha).1 b hlt; rw [ha, hb2] at h
  simpa using h
 have hinj : ∀ (a b c : Nat), cs[a]? = some c → cs[b]? = some c → a = b := by
  intro a b c ha hb2
  rcases Nat.lt_trichotomy a b with h | h | h
  ·exact absurd rfl (hch b a c c hb2 ha h).2
  ·exact h
  ·exact absurd rfl (hch a b c c ha hb2 h).2
 refine region_invW (F := F) (fun _ _ _ => True) (fun _ _ => True) (StK l a0 cs fr Φ S) hm hd hb (fun _ _ _ _ _ h => h) ?_ hF ?_ ?_
 ·refine ⟨0, Nat.zero_le _, fun j c _ => ?_, by simpa using hS0 _, (fun j h => by cases h), fun j _ => rfl⟩; simp
 ·intro i o ho vs L W hSt hL hcl hdl _ K hK; rw [Nat.zero_add] at hL hK; obtain ⟨k0, hk0, hiff, hSk, hPh, hUn⟩ := hSt; have hi : i < l.length := (List.getElem?_eq_some_iff.1 ho).1; have hown := hstep i o ho; rw [Nat.zero_add] at hown
  have hhang : ∀ (j : Nat) w2 v, L j = true → Φ vs j w2 (vs j) → Φ (upd vs i v) j w2 (vs j) := by
   intro j w2 v hj h; have hjl : j < l.length := (hPh j hj).1; refine hC j _ (List.getElem?_eq_getElem hjl) vs (upd vs i v) w2 (vs j) (fun e he hb2 => ?_) (by rw [Nat.zero_add]; exact h) |> fun h => by rwa [Nat.zero_add] at h
   symm
   refine if_neg (fun e2 => ?_); have := hcl j _ (List.getElem?_eq_getElem hjl) hj e he hb2; rw [e2, hL] at this
   cases this
  have hself : ∀ w2 v, Φ vs i w2 v → Φ (upd vs i v) i w2 v := by
   intro w2 v h; refine hC i o ho vs (upd vs i v) w2 v (fun e he hb2 => ?_) (by rw [Nat.zero_add]; exact h) |> fun h => by rwa [Nat.zero_add] at h
   symm
   refine if_neg (fun e2 => ?_); have := hdl e he hb2; rw [e2, hL] at this
   cases this
  have ht := ht1 i hi; unfold OwesK at hown
  cases htg : tags[i]? with
  | none => rw [htg] at ht; cases ht
  | some tg =>
   rw [htg] at ht hown
   have hun : ∀ (v : Value) (j : Nat), updB L i j = false → upd vs i v j = ownV l a0 j := by
    intro v j hj; by_cases hji : j = i
    ·subst hji; rw [show updB L j j = true from if_pos rfl] at hj; cases hj
    ·rw [show updB L i j = L j from if_neg hji] at hj; rw [show upd vs i v j = vs j from if_neg hji]; exact hUn j hj
   have hdep2 : ∀ (v : Value), tags[i]? ≠ some .early → ∀ j ∈ dep, vs j = upd vs i v j := by
    intro v hne j hj
    symm
    refine if_neg (fun e => ?_); have h := ht5 j hj; rw [e] at h
    cases h2 : tags[i]? with
    | none => rw [h2] at h; cases h
    | some x => cases x with
     | early => exact hne h2
     | free => rw [h2] at h; cases h
     | chain _ => rw [h2] at h; cases h
   -- an operation that is not of the chain: the stage stays
   have hkeep : ∀ v w', i ∉ cs → S ((cs.take k0).map vs) (upd vs i v) w' → (∀ j, L j = true → k0 = 0 ∨ fr.contains j = true → Φ vs j w' (vs j)) → (k0 = 0 ∨ fr.contains i = true → Φ vs i w' v) → StK l a0 cs fr Φ S (updB L i) (upd vs i v) w' := by
    intro v w' hni hS2 hP2 hv; refine ⟨k0, hk0, fun j c hc => ?_, by rw [map_upd (fun h => hni (List.mem_of_mem_take h))]; exact hS2, fun j hj => ?_, hun v⟩
    ·have : c ≠ i := fun e => hni (e ▸ List.mem_of_getElem? hc)
     rw [show updB L i c = L c from if_neg this]; exact hiff j c hc
    ·by_cases hji : j = i
     ·subst hji; refine ⟨hi, fun h => ?_⟩; rw [show upd vs j v j = v from if_pos rfl]; exact hself _ _ (hv h)
     ·rw [show updB L i j = L j from if_neg hji] at hj; refine ⟨(hPh j hj).1, fun h => ?_⟩; rw [show upd vs i v j = vs j from if_neg hji]; exact hhang j w' v hj (hP2 j hj h)
   cases tg with
   | early =>
    simp only [Bool.and_eq_true, Bool.not_eq_true'] at ht hown; obtain ⟨hni, hre⟩ := ht; have hni : i ∉ cs := by simpa using hni
    cases cs with
    | nil => cases ht3
    | cons c0 cs =>
     have hk : k0 = 0 := by
      rcases Nat.eq_zero_or_pos k0 with h | h
      ·exact h
      ·exfalso
       have h1 := (hiff 0 c0 rfl).2 h; have hc0 := (hPh c0 h1).1; have := reach_listed hcl l.length c0 i _ (List.getElem?_eq_getElem hc0) (hcl c0 _ (List.getElem?_eq_getElem hc0) h1) hre; rw [hL] at this; cases this
     subst hk; refine hown vs W (by simpa using hSk) (fun c hc => hUn c ?_) (fun e he hb2 => (hPh _ (hdl e he hb2)).2 (.inl rfl)) K (fun v w' hRw hv => hK v w' trivial (hkeep v w' hni ?_ ?_ (fun _ => hv)) trivial)
     ·cases hLc : L c with
      | false => rfl
      | true =>
       obtain ⟨j, hj⟩ := List.getElem?_of_mem hc; have := (hiff j c hj).1 hLc; omega
     ·simpa using hS _ _ _ _ hRw (by simpa using hSk)
     ·intro j hj h; exact hR vs _ _ hRw j _ ((hPh j hj).2 h)
   | free =>
    simp only [Bool.and_eq_true, Bool.not_eq_true'] at ht hown; obtain ⟨⟨hni, hfi⟩, hfa⟩ := ht; have hni : i ∉ cs := by simpa using hni
    rw [ho] at hfa; simp only [List.all_eq_true, Bool.or_eq_true, Bool.not_eq_true'] at hfa; refine hown vs W (fun e he hb2 => (hPh _ (hdl e he hb2)).2 (.inr ?_)) K (fun v hv => hK v W trivial (hkeep v W hni (hins _ _ _ _ (hdep2 v (by intro e; rw [htg] at e; cases e)) hSk) (fun j hj h => (hPh j hj).2 h) (fun _ => hv)) trivial)
    rcases hfa e he with h | h
    ·rw [hb2] at h; cases h
    ·exact h
   | chain k =>
    simp only [Bool.and_eq_true, Bool.not_eq_true', beq_iff_eq] at ht hown; obtain ⟨hck, hfi⟩ := ht; have hkl : k < cs.length := (List.getElem?_eq_some_iff.1 hck).1
    have h1 : ¬ k < k0 := fun h => by
     have := (hiff k i hck).2 h; rw [hL] at this; cases this
    have hk : k0 = k := by
     rcases Nat.lt_or_ge k0 k with h | h
     ·exfalso
      have hc0 : cs[k0]? = some (cs[k0]'(by omega)) := List.getElem?_eq_getElem (by omega); have hr := (hch k k0 i _ hck hc0 h).1; have := reach_listed hcl l.length i _ o ho hdl hr; have := (hiff k0 _ hc0).1 this; omega
     ·omega
    subst hk; refine hown vs W hSk (fun e he hb2 hf => (hPh _ (hdl e he hb2)).2 (by simpa using hf)) K (fun v w' hS2 => hK v w' trivial ⟨k0 + 1, by omega, fun j c hc => ?_, ?_, fun j hj => ?_, hun v⟩ trivial)
    ·by_cases hci : c = i
     ·subst hci; rw [show updB L c c = true from if_pos rfl]; have := hinj j k0 c hc hck; simp; omega
     ·rw [show updB L i c = L c from if_neg hci, hiff j c hc]; have : j ≠ k0 := fun e => hci (by rw [e, hck] at hc; exact (Option.some.inj hc).symm)
      omega
    ·have hni : i ∉ cs.take k0 := by
      intro h; obtain ⟨j, hj⟩ := List.getElem?_of_mem h
      have hj2 : j < k0 := by
       have := (List.getElem?_eq_some_iff.1 hj).1; simp at this; omega
      rw [List.getElem?_take_of_lt hj2] at hj; have := hinj j k0 i hj hck; omega
     rw [List.take_add_one, hck, List.map_append, map_upd hni]; have h3 := hins _ _ _ _ (hdep2 v (by intro e; rw [htg] at e; cases e)) hS2
     simpa [upd] using h3
    ·by_cases hji : j = i
     ·subst hji; refine ⟨hi, fun h => ?_⟩
      rcases h with h | h
      ·omega
      ·rw [hfi] at h; cases h
     ·rw [show updB L i j = L j from if_neg hji] at hj; refine ⟨(hPh j hj).1, fun h => ?_⟩; rw [show upd vs i v j = vs j from if_neg hji]
      have hf : fr.contains j = true := by
       rcases h with h | h
       ·omega
       ·exact h
      exact hhang j w' v hj (hF' vs _ _ j _ hf ((hPh j hj).2 (.inr hf)))
 ·intro vs L W hSt hall _; obtain ⟨k0, hk0, hiff, hSk, hPh, hUn⟩ := hSt
  have hk : k0 = cs.length := by
   rcases Nat.lt_or_ge k0 cs.length with h | h
   ·exfalso
    have hc0 : cs[k0]? = some cs[k0] := List.getElem?_eq_getElem h; have hcl : cs[k0] < l.length := ht4 _ (List.getElem_mem h); have := (hiff k0 _ hc0).1 (hall _ hcl); omega
   ·omega
  subst hk; rw [List.take_length] at hSk; exact hend vs W hSk (fun i hi hf => (hPh i (hall i hi)).2 (.inr hf))
end
end Go.Proofs.Yticobffjnjbjiaa
namespace Go.Proofs.Yticobffjnjbjiaa
open Go Go.RowKit
def PhiIt (Ao : Option Addr) (co b off k c i : Nat) (it : IT) (vs : Nat → Value) (j : Nat) (w : World) (x : Value) : Prop :=
 match j with
 | 0 => x = .slice Ao i co
 | 1 => x = .slice (some ⟨b, off, none⟩) k c
 | 2 => x = .int .i64 (i : Nat)
 | 3 => x = .pointer (some ⟨b, off + i * 24, none⟩)
 | 4 => x = .pointer (some ⟨b, off + i * 24, none⟩)
 | 5 => x = .string it.test
 | 6 => x = .slice (some ⟨b, off, none⟩) k c
 | 7 => x = .int .i64 (i : Nat)
 | 8 => x = .pointer (some ⟨b, off + i * 24, none⟩)
 | 9 => x = .pointer (some ⟨b, off + i * 24 + 1, none⟩)
 | 10 => x = .agg (cellsR it.r).toArray
 | 11 => x = .slice (some ⟨b, off, none⟩) k c
 | 12 => x = .int .i64 (i : Nat)
 | 13 => x = .pointer (some ⟨b, off + i * 24, none⟩)
 | 14 => x = .pointer (some ⟨b, off + i * 24 + 23, none⟩)
 | 15 => x = .int .i64 it.p
 | 16 => x = .agg (cellsI it).toArray
 | 17 => ∃ g, x = .slice (some ⟨g, 0, none⟩) 1 1 ∧ Rd w (some ⟨g, 0, none⟩) (cellsI it)
 | _ => True
theorem PhiIt.keepR {Ao : Option Addr} {co b off k c i : Nat} {it : IT} : ∀ vs (w w' : World), Below w.heap.size w w' → ∀ j x, PhiIt Ao co b off k c i it vs j w x → PhiIt Ao co b off k c i it vs j w' x := by
 intro vs w w' hb j x h; unfold PhiIt at h ⊢
 split <;> simp only at h ⊢ <;> first | exact h | skip
 obtain ⟨g, e, h1⟩ := h; exact ⟨g, e, h1.below hb⟩
theorem PhiIt.keepF {Ao : Option Addr} {co b off k c i : Nat} {it : IT} : ∀ vs (w w' : World) j x, ([] : List Nat).contains j = true → PhiIt Ao co b off k c i it vs j w x → PhiIt Ao co b off k c i it vs j w' x := by
 intro vs w w' j x hf
 cases hf
def SIt (T : TypeId) (w wr : World) (n : Nat) (xs : List Value) : List Value → (Nat → Value) → World → Prop
 | [], _, W => Below wr.heap.size wr W
 | [v], _, W => W.ownsRow w.heap.size T 24 v n xs ∧ Below w.heap.size w W
 | [v, u], _, W => u = v ∧ W.ownsRow w.heap.size T 24 v n xs ∧ Below w.heap.size w W
 | _, _, _ => True
set_option maxRecDepth 100000 in
set_option maxHeartbeats 4000000 in
theorem items_n (A : Option Addr) (k c : Nat) (X : List IT) (w : World) (hX : RowS cellsI w A k X) (HT : Hid (∀ it ∈ X, ItTy it)) (hk : k ≤ 1073741824) :
  Calls Try.prog 72 #[.slice A k c] w fun e w' => ∃ v, e = .returned v ∧ w'.ownsRow w.heap.size 122 24 v k (X.flatMap cellsI) ∧ Below w.heap.size w w' := by
 obtain ⟨i0, hi0, hz0, hz1, hz2⟩ := info_parts info_ritem; have E1 := Lib.hid hX.2.1
 go_enter Try.func72, Try.ntmps72
 go_wp2_with fail
 go_loopg [3, 4] k (fun j v x wr => ∃ i : Nat, x = .int .i64 i ∧ i + j = k ∧ wr.ownsRow w.heap.size 122 24 v i ((X.take i).flatMap cellsI) ∧ Below w.heap.size w wr)
 case atStart => exact ⟨0, rfl, by omega, World.ownsRow_nil _ _ _ _, Below.refl _ _⟩
 case round =>
  obtain ⟨G, hG⟩ : ∃ G, G = gk := ⟨gk, rfl⟩; subst hG; obtain ⟨i, rfl, hij, hown, hbe⟩ := hrel; obtain ⟨Ao, co, rfl⟩ := own_shp hown; by_cases hi : i < k
  ·have hiX : i < X.length := by have := E1.out; omega
   have t1 : decide ((i : Int) < (k : Int)) = true := by simp; omega
   obtain ⟨b, off, rfl, HC⟩ := (hX.below hbe).at_ cellsI_len (by omega) hi hiX; have HONL := Lib.hid (HT.out _ (List.getElem_mem hiX)).one
   have HTK : Hid ((X.take (i + 1)).flatMap cellsI = (X.take i).flatMap cellsI ++ cellsI X[i]) := by
    show _ = _
    rw [List.take_succ_eq_append_getElem hiX, List.flatMap_append]; simp
   generalize X[i] = it at HC HONL HTK; have q0 : Hid (wr.cell? ⟨b, off + i * 24, none⟩ = some (.string it.test)) := HC.out 0 _ rfl; have q23 : Hid (wr.cell? ⟨b, off + i * 24 + 23, none⟩ = some (.int .i64 it.p)) := HC.out 23 _ rfl; have HR : Hid (∀ (j : Nat) v, (cellsR it.r)[j]? = some v → wr.cell? ⟨b, off + i * 24 + 1 + j, none⟩ = some v) := fun j v h => items_in (t := it.test) (p := it.p) HC.out h
   have li : (i : Int) < (k : Int) := by omega
   clear HC; go_upto_region 5 with fail; refine region_chain [18, 19] [.early, .early, .early, .early, .early, .early, .early, .early, .early, .early, .early, .early, .early, .early, .early, .early, .early, .early, .chain 0, .chain 1] [] [] (PhiIt Ao co b off k c i it) (fun w w' => Below w.heap.size w w') (SIt 122 w wr (i + 1) ((X.take (i + 1)).flatMap cellsI)) (by kernel_rfl) (by kernel_rfl) (by kernel_rfl) (by kernel_rfl) (sK (fun _ _ _ _ _ h => h) (sK (fun _ _ _ _ _ h => h) (sK (fun _ _ _ _ _ h => h) (sK (fun _ _ _ _ _ h => h) (sK (fun _ _ _ _ _ h => h) (sK (fun _ _ _ _ _ h => h) (sK (fun _ _ _ _ _ h => h) (sK (fun _ _ _ _ _ h => h) (sK (fun _ _ _ _ _ h => h) (sK (fun _ _ _ _ _ h => h) (sK (fun _ _ _ _ _ h => h) (sK (fun _ _ _ _ _ h => h) (sK (fun _ _ _ _ _ h => h) (sK (fun _ _ _ _ _ h => h) (sK (fun _ _ _ _ _ h => h) (sK (fun _ _ _ _ _ h => h) (sK (fun _ _ _ _ _ h => h) (sK (fun _ _ _ _ _ h => h) (sK (fun _ _ _ _ _ h => h) (sK (fun _ _ _ _ _ h => h) (sZ))))))))))))))))))))) PhiIt.keepR PhiIt.keepF (fun _ _ _ _ hR hS => Below.tr hS hR) (by rintro (_ | ⟨_, _ | ⟨_, _ | _⟩⟩) vs vs' w _ h <;> exact h) (fun _ => bD _) (fun vs => by simp only [fillR, Act.put, sA, sB, sC, Nat.zero_add, Nat.reduceAdd]; rfl) ?_ ?_
   ·refine sK ?_ (sK ?_ (sK ?_ (sK ?_ (sK ?_ (sK ?_ (sK ?_ (sK ?_ (sK ?_ (sK ?_ (sK ?_ (sK ?_ (sK ?_ (sK ?_ (sK ?_ (sK ?_ (sK ?_ (sK ?_ (sK ?_ (sK ?_ (sZ))))))))))))))))))))
    ·as_aux_lemma =>
     intro vs W hS hu hdep K hK; have HU := Lib.hid hu; clear hu; have u19 : vs 19 = .slice Ao i co := HU.out 19 (by simp); refine ⟨?_⟩; simp only [Act.put, sA, sB, sC, Nat.zero_add, Nat.reduceAdd, u19] at hK ⊢; go_simp; with_reducible refine hK _ _ (Below.refl _ _) ?_
     exact rfl
    ·as_aux_lemma =>
     intro vs W hS hu hdep K hK; have HU := Lib.hid hu; clear hu; refine ⟨?_⟩; simp only [Act.put, sA, sB, sC, Nat.zero_add, Nat.reduceAdd] at hK ⊢; go_simp; with_reducible refine hK _ _ (Below.refl _ _) ?_
     exact rfl
    ·as_aux_lemma =>
     intro vs W hS hu hdep K hK; have HU := Lib.hid hu; clear hu; refine ⟨?_⟩; simp only [Act.put, sA, sB, sC, Nat.zero_add, Nat.reduceAdd] at hK ⊢; go_simp; with_reducible refine hK _ _ (Below.refl _ _) ?_
     exact rfl
    ·as_aux_lemma =>
     intro vs W hS hu hdep K hK; have HU := Lib.hid hu; clear hu; have d0 := hdep ⟨1, .data⟩ (by simp) rfl; simp only [PhiIt] at d0; have d1 := hdep ⟨2, .data⟩ (by simp) rfl; simp only [PhiIt] at d1; refine ⟨?_⟩; simp only [Act.put, sA, sB, sC, Nat.zero_add, Nat.reduceAdd, d0, d1] at hK ⊢; go_simp; with_reducible refine hK _ _ (Below.refl _ _) ?_
     exact rfl
    ·as_aux_lemma =>
     intro vs W hS hu hdep K hK; have HU := Lib.hid hu; clear hu; have d0 := hdep ⟨3, .data⟩ (by simp) rfl; simp only [PhiIt] at d0; refine ⟨?_⟩; simp only [Act.put, sA, sB, sC, Nat.zero_add, Nat.reduceAdd, d0] at hK ⊢; go_simp; with_reducible refine hK _ _ (Below.refl _ _) ?_
     exact rfl
    ·as_aux_lemma =>
     intro vs W hS hu hdep K hK; have HU := Lib.hid hu; clear hu; have d0 := hdep ⟨4, .data⟩ (by simp) rfl; simp only [PhiIt] at d0; have ft := cell_keep hS q0.out; refine ⟨?_⟩; simp only [Act.put, sA, sB, sC, Nat.zero_add, Nat.reduceAdd, d0] at hK ⊢; go_simp; with_reducible refine hK _ _ (Below.refl _ _) ?_
     exact rfl
    ·as_aux_lemma =>
     intro vs W hS hu hdep K hK; have HU := Lib.hid hu; clear hu; refine ⟨?_⟩; simp only [Act.put, sA, sB, sC, Nat.zero_add, Nat.reduceAdd] at hK ⊢; go_simp; with_reducible refine hK _ _ (Below.refl _ _) ?_
     exact rfl
    ·as_aux_lemma =>
     intro vs W hS hu hdep K hK; have HU := Lib.hid hu; clear hu; refine ⟨?_⟩; simp only [Act.put, sA, sB, sC, Nat.zero_add, Nat.reduceAdd] at hK ⊢; go_simp; with_reducible refine hK _ _ (Below.refl _ _) ?_
     exact rfl
    ·as_aux_lemma =>
     intro vs W hS hu hdep K hK; have HU := Lib.hid hu; clear hu; have d0 := hdep ⟨6, .data⟩ (by simp) rfl; simp only [PhiIt] at d0; have d1 := hdep ⟨7, .data⟩ (by simp) rfl; simp only [PhiIt] at d1; refine ⟨?_⟩; simp only [Act.put, sA, sB, sC, Nat.zero_add, Nat.reduceAdd, d0, d1] at hK ⊢; go_simp; with_reducible refine hK _ _ (Below.refl _ _) ?_
     exact rfl
    ·as_aux_lemma =>
     intro vs W hS hu hdep K hK; have HU := Lib.hid hu; clear hu; have d0 := hdep ⟨8, .data⟩ (by simp) rfl; simp only [PhiIt] at d0; refine ⟨?_⟩; simp only [Act.put, sA, sB, sC, Nat.zero_add, Nat.reduceAdd, d0] at hK ⊢; go_simp; with_reducible refine hK _ _ (Below.refl _ _) ?_
     exact rfl
    ·as_aux_lemma =>
     intro vs W hS hu hdep K hK; have HU := Lib.hid hu; clear hu; have d0 := hdep ⟨9, .data⟩ (by simp) rfl; simp only [PhiIt] at d0; refine ⟨?_⟩; simp only [Act.put, sA, sB, sC, Nat.zero_add, Nat.reduceAdd, d0] at hK ⊢; rw [if_pos (by rfl)]; refine wp_load_mid 64 (.tmp 20) (by rfl) b (off + i * 24 + 1) (by rfl) (cellsR it.r) _ (fun j v h => cell_keep hS (HR.out j v h)) Try.underlying64 (by rfl) (infoR (r := it.r)) ?_; simp only [Act.put, sA, sB, sC]; with_reducible refine hK _ _ (Below.refl _ _) ?_
     exact rfl
    ·as_aux_lemma =>
     intro vs W hS hu hdep K hK; have HU := Lib.hid hu; clear hu; refine ⟨?_⟩; simp only [Act.put, sA, sB, sC, Nat.zero_add, Nat.reduceAdd] at hK ⊢; go_simp; with_reducible refine hK _ _ (Below.refl _ _) ?_
     exact rfl
    ·as_aux_lemma =>
     intro vs W hS hu hdep K hK; have HU := Lib.hid hu; clear hu; refine ⟨?_⟩; simp only [Act.put, sA, sB, sC, Nat.zero_add, Nat.reduceAdd] at hK ⊢; go_simp; with_reducible refine hK _ _ (Below.refl _ _) ?_
     exact rfl
    ·as_aux_lemma =>
     intro vs W hS hu hdep K hK; have HU := Lib.hid hu; clear hu; have d0 := hdep ⟨11, .data⟩ (by simp) rfl; simp only [PhiIt] at d0; have d1 := hdep ⟨12, .data⟩ (by simp) rfl; simp only [PhiIt] at d1; refine ⟨?_⟩; simp only [Act.put, sA, sB, sC, Nat.zero_add, Nat.reduceAdd, d0, d1] at hK ⊢; go_simp; with_reducible refine hK _ _ (Below.refl _ _) ?_
     exact rfl
    ·as_aux_lemma =>
     intro vs W hS hu hdep K hK; have HU := Lib.hid hu; clear hu; have d0 := hdep ⟨13, .data⟩ (by simp) rfl; simp only [PhiIt] at d0; refine ⟨?_⟩; simp only [Act.put, sA, sB, sC, Nat.zero_add, Nat.reduceAdd, d0] at hK ⊢; go_simp; with_reducible refine hK _ _ (Below.refl _ _) ?_
     exact rfl
    ·as_aux_lemma =>
     intro vs W hS hu hdep K hK; have HU := Lib.hid hu; clear hu; have d0 := hdep ⟨14, .data⟩ (by simp) rfl; simp only [PhiIt] at d0; have ft := cell_keep hS q23.out; refine ⟨?_⟩; simp only [Act.put, sA, sB, sC, Nat.zero_add, Nat.reduceAdd, d0] at hK ⊢; go_simp; with_reducible refine hK _ _ (Below.refl _ _) ?_
     exact rfl
    ·as_aux_lemma =>
     intro vs W hS hu hdep K hK; have HU := Lib.hid hu; clear hu; have d0 := hdep ⟨5, .data⟩ (by simp) rfl; simp only [PhiIt] at d0; have d1 := hdep ⟨10, .data⟩ (by simp) rfl; simp only [PhiIt] at d1; have d2 := hdep ⟨15, .data⟩ (by simp) rfl; simp only [PhiIt] at d2; refine ⟨?_⟩; simp only [Act.put, sA, sB, sC, Nat.zero_add, Nat.reduceAdd, d0, d1, d2] at hK ⊢; rw [if_pos (by rfl)]; refine wp_buildW 122 [(0, .tmp 16), (1, .tmp 21), (2, .tmp 26)] (by rfl) (cellsI it).toArray [(0, .string it.test), (1, .agg (cellsR it.r).toArray), (2, .int .i64 it.p)] (by rfl) (built_ritem (it := it)) ?_; simp only [Act.put, sA, sB, sC]; with_reducible refine hK _ _ (Below.refl _ _) ?_
     exact rfl
    ·as_aux_lemma =>
     intro vs W hS hu hdep K hK; have HU := Lib.hid hu; clear hu; have d0 := hdep ⟨16, .data⟩ (by simp) rfl; simp only [PhiIt] at d0; refine ⟨?_⟩; simp only [Act.put, sA, sB, sC, Nat.zero_add, Nat.reduceAdd, d0] at hK ⊢; rw [if_pos (by rfl)]; refine wp_sliceN 70 122 1 [(0, .tmp 27)] rfl (cellsI it).toArray i0 zeroI 24 [(0, .agg (cellsI it).toArray)] Try.underlying70 hi0 hz0 hz1 (by omega) (by omega) rfl (fill_item it) ?_; simp only [Act.put, sA, sB, sC]; with_reducible refine hK _ _ (bA _ _) ?_
     exact ⟨_, rfl, Rd.fresh _ _ _⟩
    ·as_aux_lemma =>
     intro vs W hS hdep K hK; have d0 := hdep ⟨0, .data⟩ (by simp) rfl (by rfl); simp only [PhiIt] at d0; have d1 := hdep ⟨17, .data⟩ (by simp) rfl (by rfl); simp only [PhiIt] at d1; simp only [List.take_zero, List.map_nil, SIt] at hS; refine @exE1 _ _ _ d1 ?_; clear d1; intro g d1; have e1 := d1.1; have hrd := d1.2; clear d1; have hown2 := own_below hown hS; have hbe2 := Below.tr hbe hS; have hsz := hbe2.size; clear hS; refine ⟨?_⟩; simp only [Act.put, sA, sB, sC, Nat.zero_add, Nat.reduceAdd, d0, e1] at hK ⊢; rw [if_pos (by rfl)]; refine wp_append_any _ (.tmp 11) (.tmp 28) _ rfl w.heap.size 122 i0 _ 24 96 Try.underlying70 hi0 hz0 hz1 hz2 zeroI_size (by omega) _ i _ rfl hown2 _ 1 1 (cellsI it) rfl rfl hrd HONL.out (by simp only [maxLen]; omega) (by omega) hsz ?_; intro v4 w4 hown4 hg4 hat4; have hown5 : w4.ownsRow w.heap.size 122 24 v4 (i + 1) ((X.take (i + 1)).flatMap cellsI) := by rw [HTK.out]; exact hown4
     have hbe5 := hbe2.grown hg4 hsz (own_block_ge hown2); obtain ⟨A5, c5, rfl⟩ := own_shp hown5; simp only [Act.put, sA, sB, sC]; with_reducible refine hK _ _ ?_
     exact ⟨hown5, hbe5⟩
    ·as_aux_lemma =>
     intro vs W hS hdep K hK; have hS1 : SIt 122 w wr (i + 1) ((X.take (i + 1)).flatMap cellsI) [vs 18] vs W := hS; obtain ⟨hown5, hbe5⟩ := hS1; obtain ⟨A5, c5, e5⟩ := own_shp hown5; refine ⟨?_⟩; simp only [Act.put, sA, sB, sC, Nat.zero_add, Nat.reduceAdd, e5] at hK ⊢; go_simp; with_reducible refine hK _ _ ?_
     show _ = _ ∧ _
     rw [e5] at hown5 ⊢; exact ⟨rfl, hown5, hbe5⟩
   ·intro vs W hS _; have hS2 : SIt 122 w wr (i + 1) ((X.take (i + 1)).flatMap cellsI) [vs 18, vs 19] vs W := hS; obtain ⟨e19, hown5, hbe5⟩ := hS2; obtain ⟨A5, c5, e18⟩ := own_shp hown5; rw [e18] at hown5 e19; simp only [Act.put, sA, sB, sC, Nat.zero_add, Nat.reduceAdd, e18, e19]; clear hown hX HONL HTK q0 q23 HR hbe; go_wp2_with fail
    go_roundg (G - 1)
    case measure => omega
    case rel => exact ⟨i + 1, by go_num, by omega, hown5, hbe5⟩
  ·obtain rfl : k = i := by omega
   have t1 : decide ((k : Int) < (k : Int)) = false := by simp
   rw [List.take_of_length_le (by rw [← E1.out]; omega)] at hown; go_wp2_with fail; go_ret; exact ⟨_, rfl, hown, hbe⟩
set_option maxRecDepth 100000 in
set_option maxHeartbeats 4000000 in
theorem own_n (A : Option Addr) (k c : Nat) (X : List IT) (w : World) (hX : RowS cellsI w A k X) (HT : Hid (∀ it ∈ X, ItTy it)) (hk : k ≤ 1073741824) :
  Calls Try.prog 73 #[.slice A k c] w fun e w' => ∃ v, e = .returned v ∧ w'.ownsRow w.heap.size 66 24 v k (X.flatMap cellsI) ∧ Below w.heap.size w w' := by
 obtain ⟨i0, hi0, hz0, hz1, hz2⟩ := info_parts info_item; have E1 := Lib.hid hX.2.1
 go_enter Try.func73, Try.ntmps73
 go_wp2_with fail
 go_loopg [3, 4] k (fun j v x wr => ∃ i : Nat, x = .int .i64 i ∧ i + j = k ∧ wr.ownsRow w.heap.size 66 24 v i ((X.take i).flatMap cellsI) ∧ Below w.heap.size w wr)
 case atStart => exact ⟨0, rfl, by omega, World.ownsRow_nil _ _ _ _, Below.refl _ _⟩
 case round =>
  obtain ⟨G, hG⟩ : ∃ G, G = gk := ⟨gk, rfl⟩; subst hG; obtain ⟨i, rfl, hij, hown, hbe⟩ := hrel; obtain ⟨Ao, co, rfl⟩ := own_shp hown; by_cases hi : i < k
  ·have hiX : i < X.length := by have := E1.out; omega
   have t1 : decide ((i : Int) < (k : Int)) = true := by simp; omega
   obtain ⟨b, off, rfl, HC⟩ := (hX.below hbe).at_ cellsI_len (by omega) hi hiX; have HONL := Lib.hid (HT.out _ (List.getElem_mem hiX)).one
   have HTK : Hid ((X.take (i + 1)).flatMap cellsI = (X.take i).flatMap cellsI ++ cellsI X[i]) := by
    show _ = _
    rw [List.take_succ_eq_append_getElem hiX, List.flatMap_append]; simp
   generalize X[i] = it at HC HONL HTK; have q0 : Hid (wr.cell? ⟨b, off + i * 24, none⟩ = some (.string it.test)) := HC.out 0 _ rfl; have q23 : Hid (wr.cell? ⟨b, off + i * 24 + 23, none⟩ = some (.int .i64 it.p)) := HC.out 23 _ rfl; have HR : Hid (∀ (j : Nat) v, (cellsR it.r)[j]? = some v → wr.cell? ⟨b, off + i * 24 + 1 + j, none⟩ = some v) := fun j v h => items_in (t := it.test) (p := it.p) HC.out h
   have li : (i : Int) < (k : Int) := by omega
   clear HC; go_upto_region 5 with fail; refine region_chain [18, 19] [.early, .early, .early, .early, .early, .early, .early, .early, .early, .early, .early, .early, .early, .early, .early, .early, .early, .early, .chain 0, .chain 1] [] [] (PhiIt Ao co b off k c i it) (fun w w' => Below w.heap.size w w') (SIt 66 w wr (i + 1) ((X.take (i + 1)).flatMap cellsI)) (by kernel_rfl) (by kernel_rfl) (by kernel_rfl) (by kernel_rfl) (sK (fun _ _ _ _ _ h => h) (sK (fun _ _ _ _ _ h => h) (sK (fun _ _ _ _ _ h => h) (sK (fun _ _ _ _ _ h => h) (sK (fun _ _ _ _ _ h => h) (sK (fun _ _ _ _ _ h => h) (sK (fun _ _ _ _ _ h => h) (sK (fun _ _ _ _ _ h => h) (sK (fun _ _ _ _ _ h => h) (sK (fun _ _ _ _ _ h => h) (sK (fun _ _ _ _ _ h => h) (sK (fun _ _ _ _ _ h => h) (sK (fun _ _ _ _ _ h => h) (sK (fun _ _ _ _ _ h => h) (sK (fun _ _ _ _ _ h => h) (sK (fun _ _ _ _ _ h => h) (sK (fun _ _ _ _ _ h => h) (sK (fun _ _ _ _ _ h => h) (sK (fun _ _ _ _ _ h => h) (sK (fun _ _ _ _ _ h => h) (sZ))))))))))))))))))))) PhiIt.keepR PhiIt.keepF (fun _ _ _ _ hR hS => Below.tr hS hR) (by rintro (_ | ⟨_, _ | ⟨_, _ | _⟩⟩) vs vs' w _ h <;> exact h) (fun _ => bD _) (fun vs => by simp only [fillR, Act.put, sA, sB, sC, Nat.zero_add, Nat.reduceAdd]; rfl) ?_ ?_
   ·refine sK ?_ (sK ?_ (sK ?_ (sK ?_ (sK ?_ (sK ?_ (sK ?_ (sK ?_ (sK ?_ (sK ?_ (sK ?_ (sK ?_ (sK ?_ (sK ?_ (sK ?_ (sK ?_ (sK ?_ (sK ?_ (sK ?_ (sK ?_ (sZ))))))))))))))))))))
    ·as_aux_lemma =>
     intro vs W hS hu hdep K hK; have HU := Lib.hid hu; clear hu; have u19 : vs 19 = .slice Ao i co := HU.out 19 (by simp); refine ⟨?_⟩; simp only [Act.put, sA, sB, sC, Nat.zero_add, Nat.reduceAdd, u19] at hK ⊢; go_simp; with_reducible refine hK _ _ (Below.refl _ _) ?_
     exact rfl
    ·as_aux_lemma =>
     intro vs W hS hu hdep K hK; have HU := Lib.hid hu; clear hu; refine ⟨?_⟩; simp only [Act.put, sA, sB, sC, Nat.zero_add, Nat.reduceAdd] at hK ⊢; go_simp; with_reducible refine hK _ _ (Below.refl _ _) ?_
     exact rfl
    ·as_aux_lemma =>
     intro vs W hS hu hdep K hK; have HU := Lib.hid hu; clear hu; refine ⟨?_⟩; simp only [Act.put, sA, sB, sC, Nat.zero_add, Nat.reduceAdd] at hK ⊢; go_simp; with_reducible refine hK _ _ (Below.refl _ _) ?_
     exact rfl
    ·as_aux_lemma =>
     intro vs W hS hu hdep K hK; have HU := Lib.hid hu; clear hu; have d0 := hdep ⟨1, .data⟩ (by simp) rfl; simp only [PhiIt] at d0; have d1 := hdep ⟨2, .data⟩ (by simp) rfl; simp only [PhiIt] at d1; refine ⟨?_⟩; simp only [Act.put, sA, sB, sC, Nat.zero_add, Nat.reduceAdd, d0, d1] at hK ⊢; go_simp; with_reducible refine hK _ _ (Below.refl _ _) ?_
     exact rfl
    ·as_aux_lemma =>
     intro vs W hS hu hdep K hK; have HU := Lib.hid hu; clear hu; have d0 := hdep ⟨3, .data⟩ (by simp) rfl; simp only [PhiIt] at d0; refine ⟨?_⟩; simp only [Act.put, sA, sB, sC, Nat.zero_add, Nat.reduceAdd, d0] at hK ⊢; go_simp; with_reducible refine hK _ _ (Below.refl _ _) ?_
     exact rfl
    ·as_aux_lemma =>
     intro vs W hS hu hdep K hK; have HU := Lib.hid hu; clear hu; have d0 := hdep ⟨4, .data⟩ (by simp) rfl; simp only [PhiIt] at d0; have ft := cell_keep hS q0.out; refine ⟨?_⟩; simp only [Act.put, sA, sB, sC, Nat.zero_add, Nat.reduceAdd, d0] at hK ⊢; go_simp; with_reducible refine hK _ _ (Below.refl _ _) ?_
     exact rfl
    ·as_aux_lemma =>
     intro vs W hS hu hdep K hK; have HU := Lib.hid hu; clear hu; refine ⟨?_⟩; simp only [Act.put, sA, sB, sC, Nat.zero_add, Nat.reduceAdd] at hK ⊢; go_simp; with_reducible refine hK _ _ (Below.refl _ _) ?_
     exact rfl
    ·as_aux_lemma =>
     intro vs W hS hu hdep K hK; have HU := Lib.hid hu; clear hu; refine ⟨?_⟩; simp only [Act.put, sA, sB, sC, Nat.zero_add, Nat.reduceAdd] at hK ⊢; go_simp; with_reducible refine hK _ _ (Below.refl _ _) ?_
     exact rfl
    ·as_aux_lemma =>
     intro vs W hS hu hdep K hK; have HU := Lib.hid hu; clear hu; have d0 := hdep ⟨6, .data⟩ (by simp) rfl; simp only [PhiIt] at d0; have d1 := hdep ⟨7, .data⟩ (by simp) rfl; simp only [PhiIt] at d1; refine ⟨?_⟩; simp only [Act.put, sA, sB, sC, Nat.zero_add, Nat.reduceAdd, d0, d1] at hK ⊢; go_simp; with_reducible refine hK _ _ (Below.refl _ _) ?_
     exact rfl
    ·as_aux_lemma =>
     intro vs W hS hu hdep K hK; have HU := Lib.hid hu; clear hu; have d0 := hdep ⟨8, .data⟩ (by simp) rfl; simp only [PhiIt] at d0; refine ⟨?_⟩; simp only [Act.put, sA, sB, sC, Nat.zero_add, Nat.reduceAdd, d0] at hK ⊢; go_simp; with_reducible refine hK _ _ (Below.refl _ _) ?_
     exact rfl
    ·as_aux_lemma =>
     intro vs W hS hu hdep K hK; have HU := Lib.hid hu; clear hu; have d0 := hdep ⟨9, .data⟩ (by simp) rfl; simp only [PhiIt] at d0; refine ⟨?_⟩; simp only [Act.put, sA, sB, sC, Nat.zero_add, Nat.reduceAdd, d0] at hK ⊢; rw [if_pos (by rfl)]; refine wp_load_mid 64 (.tmp 20) (by rfl) b (off + i * 24 + 1) (by rfl) (cellsR it.r) _ (fun j v h => cell_keep hS (HR.out j v h)) Try.underlying64 (by rfl) (infoR (r := it.r)) ?_; simp only [Act.put, sA, sB, sC]; with_reducible refine hK _ _ (Below.refl _ _) ?_
     exact rfl
    ·as_aux_lemma =>
     intro vs W hS hu hdep K hK; have HU := Lib.hid hu; clear hu; refine ⟨?_⟩; simp only [Act.put, sA, sB, sC, Nat.zero_add, Nat.reduceAdd] at hK ⊢; go_simp; with_reducible refine hK _ _ (Below.refl _ _) ?_
     exact rfl
    ·as_aux_lemma =>
     intro vs W hS hu hdep K hK; have HU := Lib.hid hu; clear hu; refine ⟨?_⟩; simp only [Act.put, sA, sB, sC, Nat.zero_add, Nat.reduceAdd] at hK ⊢; go_simp; with_reducible refine hK _ _ (Below.refl _ _) ?_
     exact rfl
    ·as_aux_lemma =>
     intro vs W hS hu hdep K hK; have HU := Lib.hid hu; clear hu; have d0 := hdep ⟨11, .data⟩ (by simp) rfl; simp only [PhiIt] at d0; have d1 := hdep ⟨12, .data⟩ (by simp) rfl; simp only [PhiIt] at d1; refine ⟨?_⟩; simp only [Act.put, sA, sB, sC, Nat.zero_add, Nat.reduceAdd, d0, d1] at hK ⊢; go_simp; with_reducible refine hK _ _ (Below.refl _ _) ?_
     exact rfl
    ·as_aux_lemma =>
     intro vs W hS hu hdep K hK; have HU := Lib.hid hu; clear hu; have d0 := hdep ⟨13, .data⟩ (by simp) rfl; simp only [PhiIt] at d0; refine ⟨?_⟩; simp only [Act.put, sA, sB, sC, Nat.zero_add, Nat.reduceAdd, d0] at hK ⊢; go_simp; with_reducible refine hK _ _ (Below.refl _ _) ?_
     exact rfl
    ·as_aux_lemma =>
     intro vs W hS hu hdep K hK; have HU := Lib.hid hu; clear hu; have d0 := hdep ⟨14, .data⟩ (by simp) rfl; simp only [PhiIt] at d0; have ft := cell_keep hS q23.out; refine ⟨?_⟩; simp only [Act.put, sA, sB, sC, Nat.zero_add, Nat.reduceAdd, d0] at hK ⊢; go_simp; with_reducible refine hK _ _ (Below.refl _ _) ?_
     exact rfl
    ·as_aux_lemma =>
     intro vs W hS hu hdep K hK; have HU := Lib.hid hu; clear hu; have d0 := hdep ⟨5, .data⟩ (by simp) rfl; simp only [PhiIt] at d0; have d1 := hdep ⟨10, .data⟩ (by simp) rfl; simp only [PhiIt] at d1; have d2 := hdep ⟨15, .data⟩ (by simp) rfl; simp only [PhiIt] at d2; refine ⟨?_⟩; simp only [Act.put, sA, sB, sC, Nat.zero_add, Nat.reduceAdd, d0, d1, d2] at hK ⊢; rw [if_pos (by rfl)]; refine wp_buildW 66 [(0, .tmp 16), (1, .tmp 21), (2, .tmp 26)] (by rfl) (cellsI it).toArray [(0, .string it.test), (1, .agg (cellsR it.r).toArray), (2, .int .i64 it.p)] (by rfl) (built_item (name := it.test) (r := it.r) (p := it.p)) ?_; simp only [Act.put, sA, sB, sC]; with_reducible refine hK _ _ (Below.refl _ _) ?_
     exact rfl
    ·as_aux_lemma =>
     intro vs W hS hu hdep K hK; have HU := Lib.hid hu; clear hu; have d0 := hdep ⟨16, .data⟩ (by simp) rfl; simp only [PhiIt] at d0; refine ⟨?_⟩; simp only [Act.put, sA, sB, sC, Nat.zero_add, Nat.reduceAdd, d0] at hK ⊢; rw [if_pos (by rfl)]; refine wp_sliceN 56 66 1 [(0, .tmp 27)] rfl (cellsI it).toArray i0 zeroI 24 [(0, .agg (cellsI it).toArray)] Try.underlying56 hi0 hz0 hz1 (by omega) (by omega) rfl (fill_item it) ?_; simp only [Act.put, sA, sB, sC]; with_reducible refine hK _ _ (bA _ _) ?_
     exact ⟨_, rfl, Rd.fresh _ _ _⟩
    ·as_aux_lemma =>
     intro vs W hS hdep K hK; have d0 := hdep ⟨0, .data⟩ (by simp) rfl (by rfl); simp only [PhiIt] at d0; have d1 := hdep ⟨17, .data⟩ (by simp) rfl (by rfl); simp only [PhiIt] at d1; simp only [List.take_zero, List.map_nil, SIt] at hS; refine @exE1 _ _ _ d1 ?_; clear d1; intro g d1; have e1 := d1.1; have hrd := d1.2; clear d1; have hown2 := own_below hown hS; have hbe2 := Below.tr hbe hS; have hsz := hbe2.size; clear hS; refine ⟨?_⟩; simp only [Act.put, sA, sB, sC, Nat.zero_add, Nat.reduceAdd, d0, e1] at hK ⊢; rw [if_pos (by rfl)]; refine wp_append_any _ (.tmp 11) (.tmp 28) _ rfl w.heap.size 66 i0 _ 24 96 Try.underlying56 hi0 hz0 hz1 hz2 zeroI_size (by omega) _ i _ rfl hown2 _ 1 1 (cellsI it) rfl rfl hrd HONL.out (by simp only [maxLen]; omega) (by omega) hsz ?_; intro v4 w4 hown4 hg4 hat4; have hown5 : w4.ownsRow w.heap.size 66 24 v4 (i + 1) ((X.take (i + 1)).flatMap cellsI) := by rw [HTK.out]; exact hown4
     have hbe5 := hbe2.grown hg4 hsz (own_block_ge hown2); obtain ⟨A5, c5, rfl⟩ := own_shp hown5; simp only [Act.put, sA, sB, sC]; with_reducible refine hK _ _ ?_
     exact ⟨hown5, hbe5⟩
    ·as_aux_lemma =>
     intro vs W hS hdep K hK; have hS1 : SIt 66 w wr (i + 1) ((X.take (i + 1)).flatMap cellsI) [vs 18] vs W := hS; obtain ⟨hown5, hbe5⟩ := hS1; obtain ⟨A5, c5, e5⟩ := own_shp hown5; refine ⟨?_⟩; simp only [Act.put, sA, sB, sC, Nat.zero_add, Nat.reduceAdd, e5] at hK ⊢; go_simp; with_reducible refine hK _ _ ?_
     show _ = _ ∧ _
     rw [e5] at hown5 ⊢; exact ⟨rfl, hown5, hbe5⟩
   ·intro vs W hS _; have hS2 : SIt 66 w wr (i + 1) ((X.take (i + 1)).flatMap cellsI) [vs 18, vs 19] vs W := hS; obtain ⟨e19, hown5, hbe5⟩ := hS2; obtain ⟨A5, c5, e18⟩ := own_shp hown5; rw [e18] at hown5 e19; simp only [Act.put, sA, sB, sC, Nat.zero_add, Nat.reduceAdd, e18, e19]; clear hown hX HONL HTK q0 q23 HR hbe; go_wp2_with fail
    go_roundg (G - 1)
    case measure => omega
    case rel => exact ⟨i + 1, by go_num, by omega, hown5, hbe5⟩
  ·obtain rfl : k = i := by omega
   have t1 : decide ((k : Int) < (k : Int)) = false := by simp
   rw [List.take_of_length_le (by rw [← E1.out]; omega)] at hown; go_wp2_with fail; go_ret; exact ⟨_, rfl, hown, hbe⟩
end Go.Proofs.Yticobffjnjbjiaa
namespace Go.Proofs.Yticobffjnjbjiaa
open Go Go.RowKit
theorem items_le (l : List Nat) (ps : List PC) (xs : List (ByteArray × RC0)) : (itemsL l ps xs).length ≤ xs.length := by
 unfold itemsL; rw [List.length_map]; exact List.length_filter_le _ _
theorem pas_le (l : List Nat) (ps : List PC) (xs : List (ByteArray × RC0)) : (pasL l ps xs).length ≤ xs.length := Nat.le_trans (List.length_filter_le _ _) (items_le l ps xs)
theorem sto_le (l : List Nat) (ps : List PC) (xs : List (ByteArray × RC0)) : (stoL l ps xs).length ≤ xs.length := Nat.le_trans (List.length_filter_le _ _) (items_le l ps xs)
theorem ResOk.ty {r : RC0} (h : ResOk r) : RcTy r := by
 obtain ⟨oc, a, st, c, rfl, _⟩ := h; exact ⟨c, 0, 0, 0, 0, 0, 0, 0, 0, 0, 0, 0, 0, 0, 0, 0, 0, 0, 0, rfl⟩
end Go.Proofs.Yticobffjnjbjiaa
namespace Go.Proofs.Yticobffjnjbjiaa
open Go Go.RowKit
/-- a line's two lists -/
structure Ln where
 A1 : Option Addr
 k1 : Nat
 c1 : Nat
 A2 : Option Addr
 k2 : Nat
 c2 : Nat
 P : List IT
 S : List IT
def Ln.val (x : Ln) : Value := .agg #[.slice x.A1 x.k1 x.c1, .slice x.A2 x.k2 x.c2]
def Ln.Ok (w : World) (x : Ln) : Prop := RowS cellsI w x.A1 x.k1 x.P ∧ RowS cellsI w x.A2 x.k2 x.S ∧ (∀ it ∈ x.P, ItTy it) ∧ (∀ it ∈ x.S, ItTy it)
theorem Ln.Ok.below {w w' : World} {x : Ln} (h : x.Ok w) (hb : Below w.heap.size w w') : x.Ok w' := ⟨h.1.below hb, h.2.1.below hb, h.2.2⟩
theorem results_gln {fn : Func} {p : Tmp} {tmps : Array Value} {w : World} {g : Nat} {v1 v2 : Value} (h : fn.results = #[.cell p 58]) (hp : tmps.getD p undef = .pointer (some ⟨g, 0, none⟩)) (hb : Blk w g 58 #[v1, v2]) :
  (results fn tmps).run Try.prog w = .ok (.agg #[v1, v2]) w :=
 results_cell_row h tmps w g 58 _ (0, 0) _ hp hb Try.underlying58 rfl (by kernel_rfl)
theorem info_gln {v1 v2 : Value} : (Try.prog.info? 58).map (·.size) = some (#[v1, v2] : Array Value).size := by kernel_rfl
theorem built_gln {A A' : Option Addr} {k c k' c' : Nat} : (Try.prog).built 58 [(0, .slice A k c), (1, .slice A' k' c')] = some #[.slice A k c, .slice A' k' c'] := by kernel_rfl
theorem built_gln0 : (Try.prog).built 58 [] = some #[.slice none 0 0, .slice none 0 0] := by kernel_rfl
theorem results_rln {fn : Func} {p : Tmp} {tmps : Array Value} {w : World} {g : Nat} {v1 v2 : Value} (h : fn.results = #[.cell p 72]) (hp : tmps.getD p undef = .pointer (some ⟨g, 0, none⟩)) (hb : Blk w g 72 #[v1, v2]) :
  (results fn tmps).run Try.prog w = .ok (.agg #[v1, v2]) w :=
 results_cell_row h tmps w g 72 _ (0, 0) _ hp hb Try.underlying72 rfl (by kernel_rfl)
theorem info_rln {v1 v2 : Value} : (Try.prog.info? 72).map (·.size) = some (#[v1, v2] : Array Value).size := by kernel_rfl
theorem built_rln {A A' : Option Addr} {k c k' c' : Nat} : (Try.prog).built 72 [(0, .slice A k c), (1, .slice A' k' c')] = some #[.slice A k c, .slice A' k' c'] := by kernel_rfl
theorem built_rln0 : (Try.prog).built 72 [] = some #[.slice none 0 0, .slice none 0 0] := by kernel_rfl
set_option maxRecDepth 100000 in
set_option maxHeartbeats 2000000 in
open Classical in
theorem rsame_nd (x y : Ln) (w : World) (hx : x.Ok w) (hy : y.Ok w) :
  Calls Try.prog 29 #[x.val, y.val] w fun e w' => e = .returned (.bool (decide (x.P = y.P ∧ x.S = y.S))) ∧ Below w.heap.size w w' := by
 obtain ⟨A1, k1, c1, A2, k2, c2, X1, X2⟩ := x; obtain ⟨B1, l1, d1, B2, l2, d2, Y1, Y2⟩ := y; simp only [Ln.val]; obtain ⟨hx1, hx2, tx1, tx2⟩ := hx; obtain ⟨hy1, hy2, ty1, ty2⟩ := hy; simp only at hx1 hx2 tx1 tx2 hy1 hy2 ty1 ty2; obtain ⟨bb, HBB⟩ : ∃ b, Hid (b = decide (X1 = Y1 ∧ X2 = Y2)) := ⟨_, rfl⟩; simp only [← HBB.out]; have TX1 := Lib.hid tx1; have TX2 := Lib.hid tx2; have TY1 := Lib.hid ty1; have TY2 := Lib.hid ty2; clear tx1 tx2 ty1 ty2
 go_enter Try.func29, Try.ntmps29
 go_upto_region 1 with fail; refine wp_name ?_; intro w1 HW1; have hb1 : Below w.heap.size w w1 := by rw [HW1.out]; exact Below.tr (bA _ _) (bA _ _)
 have BB2 : Blk w1 w.heap.size 72 #[.slice A1 k1 c1, .slice A2 k2 c2] := by rw [HW1.out]; exact (Blk.new _ _ _).alloc _
 have BB3 : Blk w1 (w.heap.size + 1) 72 #[.slice B1 l1 d1, .slice B2 l2 d2] := by
  rw [HW1.out]; have h := Blk.new (w.alloc (.cells #[.slice A1 k1 c1, .slice A2 k2 c2] 72)) 72 #[.slice B1 l1 d1, .slice B2 l2 d2]
  simpa using h
 have q20 := BB2.cell 0; have q21 := BB2.cell 1; have q30 := BB3.cell 0; have q31 := BB3.cell 1; simp only [List.getElem?_toArray, List.getElem?_cons_zero, List.getElem?_cons_succ] at q20 q21 q30 q31; clear HW1; go_wp2_with fail; refine (sameitems_n A1 B1 k1 c1 l1 d1 X1 Y1 _ (hx1.below hb1) (hy1.below hb1) TX1 TY1).mono ?_; rintro e w2 ⟨b1, rfl, HB1, hb2⟩; have hb := Below.tr hb1 hb2; have BB2 := Blk.below BB2 hb2 BB2.lt; have BB3 := Blk.below BB3 hb2 BB3.lt; clear q20 q21 q30 q31
 cases b1
 ·have HF : Hid (false = bb) := bool_f (fun h => by have := HB1.out.2 h.1; cases this) HBB.out; clear HB1; go_wp2_with fail; go_ret; exact ⟨retBit HF.out, hb⟩
 ·have E1 := HB1.out.1 rfl; have q20 := BB2.cell 0; have q21 := BB2.cell 1; have q30 := BB3.cell 0; have q31 := BB3.cell 1; simp only [List.getElem?_toArray, List.getElem?_cons_zero, List.getElem?_cons_succ] at q20 q21 q30 q31; go_wp2_with fail; refine (sameitems_n A2 B2 k2 c2 l2 d2 X2 Y2 _ (hx2.below hb) (hy2.below hb) TX2 TY2).mono ?_; rintro e w3 ⟨b2, rfl, HB2, hb3⟩; have HF : Hid (b2 = bb) := bool_of ⟨fun h => ⟨E1, HB2.out.1 h⟩, fun h => HB2.out.2 h.2⟩ HBB.out; have hb4 := Below.tr hb hb3; clear HB1 HB2 E1 q20 q21 q30 q31; go_wp2_with fail; go_ret; exact ⟨retBit HF.out, hb4⟩
theorem rsame_n (x y : Ln) (w : World) (hx : x.Ok w) (hy : y.Ok w) :
  Calls Try.prog 29 #[x.val, y.val] w fun e w' => ∃ b : Bool, e = .returned (.bool b) ∧ Hid (b = true ↔ x.P = y.P ∧ x.S = y.S) ∧ Below w.heap.size w w' :=
 (rsame_nd x y w hx hy).mono fun e w' h => ⟨_, h.1, by show _ ↔ _; simp, h.2⟩
set_option maxRecDepth 100000 in
set_option maxHeartbeats 2000000 in
open Classical in
theorem gsame_nd (x y : Ln) (w : World) (hx : x.Ok w) (hy : y.Ok w) :
  Calls Try.prog 40 #[x.val, y.val] w fun e w' => e = .returned (.bool (decide (x.P = y.P ∧ x.S = y.S))) ∧ Below w.heap.size w w' := by
 obtain ⟨A1, k1, c1, A2, k2, c2, X1, X2⟩ := x; obtain ⟨B1, l1, d1, B2, l2, d2, Y1, Y2⟩ := y; simp only [Ln.val]; obtain ⟨hx1, hx2, tx1, tx2⟩ := hx; obtain ⟨hy1, hy2, ty1, ty2⟩ := hy; simp only at hx1 hx2 tx1 tx2 hy1 hy2 ty1 ty2; obtain ⟨bb, HBB⟩ : ∃ b, Hid (b = decide (X1 = Y1 ∧ X2 = Y2)) := ⟨_, rfl⟩; simp only [← HBB.out]; have TX1 := Lib.hid tx1; have TX2 := Lib.hid tx2; have TY1 := Lib.hid ty1; have TY2 := Lib.hid ty2; clear tx1 tx2 ty1 ty2
 go_enter Try.func40, Try.ntmps40
 go_upto_region 1 with fail; refine wp_name ?_; intro w1 HW1; have hb1 : Below w.heap.size w w1 := by rw [HW1.out]; exact Below.tr (bA _ _) (bA _ _)
 have BB2 : Blk w1 w.heap.size 58 #[.slice A1 k1 c1, .slice A2 k2 c2] := by rw [HW1.out]; exact (Blk.new _ _ _).alloc _
 have BB3 : Blk w1 (w.heap.size + 1) 58 #[.slice B1 l1 d1, .slice B2 l2 d2] := by
  rw [HW1.out]; have h := Blk.new (w.alloc (.cells #[.slice A1 k1 c1, .slice A2 k2 c2] 58)) 58 #[.slice B1 l1 d1, .slice B2 l2 d2]
  simpa using h
 have q20 := BB2.cell 0; have q21 := BB2.cell 1; have q30 := BB3.cell 0; have q31 := BB3.cell 1; simp only [List.getElem?_toArray, List.getElem?_cons_zero, List.getElem?_cons_succ] at q20 q21 q30 q31; clear HW1; go_wp2_with fail; refine (equalitems_n A1 B1 k1 c1 l1 d1 X1 Y1 _ (hx1.below hb1) (hy1.below hb1) TX1 TY1).mono ?_; rintro e w2 ⟨b1, rfl, HB1, hb2⟩; have hb := Below.tr hb1 hb2; have BB2 := Blk.below BB2 hb2 BB2.lt; have BB3 := Blk.below BB3 hb2 BB3.lt; clear q20 q21 q30 q31
 cases b1
 ·have HF : Hid (false = bb) := bool_f (fun h => by have := HB1.out.2 h.1; cases this) HBB.out; clear HB1; go_wp2_with fail; go_ret; exact ⟨retBit HF.out, hb⟩
 ·have E1 := HB1.out.1 rfl; have q20 := BB2.cell 0; have q21 := BB2.cell 1; have q30 := BB3.cell 0; have q31 := BB3.cell 1; simp only [List.getElem?_toArray, List.getElem?_cons_zero, List.getElem?_cons_succ] at q20 q21 q30 q31; go_wp2_with fail; refine (equalitems_n A2 B2 k2 c2 l2 d2 X2 Y2 _ (hx2.below hb) (hy2.below hb) TX2 TY2).mono ?_; rintro e w3 ⟨b2, rfl, HB2, hb3⟩; have HF : Hid (b2 = bb) := bool_of ⟨fun h => ⟨E1, HB2.out.1 h⟩, fun h => HB2.out.2 h.2⟩ HBB.out; have hb4 := Below.tr hb hb3; clear HB1 HB2 E1 q20 q21 q30 q31; go_wp2_with fail; go_ret; exact ⟨retBit HF.out, hb4⟩
theorem gsame_n (x y : Ln) (w : World) (hx : x.Ok w) (hy : y.Ok w) :
  Calls Try.prog 40 #[x.val, y.val] w fun e w' => ∃ b : Bool, e = .returned (.bool b) ∧ Hid (b = true ↔ x.P = y.P ∧ x.S = y.S) ∧ Below w.heap.size w w' :=
 (gsame_nd x y w hx hy).mono fun e w' h => ⟨_, h.1, by show _ ↔ _; simp, h.2⟩
def PhiMo (N g1 k1 k2 : Nat) (x1 x2 : Value) (X1 X2 : List IT) (vs : Nat → Value) (j : Nat) (w : World) (x : Value) : Prop :=
 match j with
 | 0 => x = .pointer (some ⟨g1, 0, none⟩)
 | 1 => x = x1
 | 2 => ∃ A c, x = .slice A k1 c ∧ w.ownsRow N 122 24 x k1 (X1.flatMap cellsI)
 | 3 => x = .pointer (some ⟨g1, 1, none⟩)
 | 4 => x = x2
 | 5 => ∃ A c, x = .slice A k2 c ∧ w.ownsRow N 122 24 x k2 (X2.flatMap cellsI)
 | 6 => ∃ A c A' c', x = .agg #[.slice A k1 c, .slice A' k2 c'] ∧ w.ownsRow N 122 24 (.slice A k1 c) k1 (X1.flatMap cellsI) ∧ w.ownsRow N 122 24 (.slice A' k2 c') k2 (X2.flatMap cellsI)
 | _ => True
theorem PhiMo.keepR {N g1 k1 k2 : Nat} {x1 x2 : Value} {X1 X2 : List IT} : ∀ vs (w w' : World), Below w.heap.size w w' → ∀ j x, PhiMo N g1 k1 k2 x1 x2 X1 X2 vs j w x → PhiMo N g1 k1 k2 x1 x2 X1 X2 vs j w' x := by
 intro vs w w' hb j x h; unfold PhiMo at h ⊢
 split <;> simp only at h ⊢ <;> first | exact h | skip
 ·obtain ⟨A, c, e, h⟩ := h; exact ⟨A, c, e, own_below h hb⟩
 ·obtain ⟨A, c, e, h⟩ := h; exact ⟨A, c, e, own_below h hb⟩
 ·obtain ⟨A, c, A', c', e, h1, h2⟩ := h; exact ⟨A, c, A', c', e, own_below h1 hb, own_below h2 hb⟩
theorem PhiMo.keepF {N g1 k1 k2 : Nat} {x1 x2 : Value} {X1 X2 : List IT} : ∀ vs (w w' : World) j x, ([] : List Nat).contains j = true → PhiMo N g1 k1 k2 x1 x2 X1 X2 vs j w x → PhiMo N g1 k1 k2 x1 x2 X1 X2 vs j w' x := by
 intro vs w w' j x hf
 cases hf
def SMo (w w1 : World) (k1 k2 : Nat) (X1 X2 : List IT) : List Value → (Nat → Value) → World → Prop
 | [], _, W => Below w1.heap.size w1 W
 | _, _, W => ∃ A c A' c', Blk W (w.heap.size + 1) 72 #[.slice A k1 c, .slice A' k2 c'] ∧ W.ownsRow (w.heap.size + 2) 122 24 (.slice A k1 c) k1 (X1.flatMap cellsI) ∧ W.ownsRow (w.heap.size + 2) 122 24 (.slice A' k2 c') k2 (X2.flatMap cellsI) ∧ Below w.heap.size w W
set_option maxRecDepth 100000 in
set_option maxHeartbeats 4000000 in
theorem model_n (x : Ln) (w : World) (hx : x.Ok w) (hk1 : x.k1 ≤ 1073741824) (hk2 : x.k2 ≤ 1073741824) :
  Calls Try.prog 30 #[x.val] w fun e w' => ∃ y : Ln, e = .returned y.val ∧ y.Ok w' ∧ y.P = x.P ∧ y.S = x.S ∧ y.k1 = x.k1 ∧ y.k2 = x.k2 ∧ w'.ownsRow w.heap.size 122 24 (.slice y.A1 y.k1 y.c1) y.k1 (x.P.flatMap cellsI) ∧ w'.ownsRow w.heap.size 122 24 (.slice y.A2 y.k2 y.c2) y.k2 (x.S.flatMap cellsI) ∧ Below w.heap.size w w' := by
 obtain ⟨A1, k1, c1, A2, k2, c2, X1, X2⟩ := x; simp only [Ln.val]; obtain ⟨hx1, hx2, tx1, tx2⟩ := hx; simp only at hx1 hx2 tx1 tx2 hk1 hk2; have TX1 := Lib.hid tx1; have TX2 := Lib.hid tx2; clear tx1 tx2
 go_enter Try.func30, Try.ntmps30
 go_upto_region 1 with fail; refine wp_name ?_; intro w1 HW1; have hb1 : Below w.heap.size w w1 := by rw [HW1.out]; exact Below.tr (bA _ _) (bA _ _)
 have B2 : Blk w1 w.heap.size 58 #[.slice A1 k1 c1, .slice A2 k2 c2] := by rw [HW1.out]; exact (Blk.new _ _ _).alloc _
 have B3 : Blk w1 (w.heap.size + 1) 72 #[.slice none 0 0, .slice none 0 0] := by
  rw [HW1.out]; have h := Blk.new (w.alloc (.cells #[.slice A1 k1 c1, .slice A2 k2 c2] 58)) 72 #[.slice none 0 0, .slice none 0 0]
  simpa using h
 have hsz1 : w.heap.size + 2 ≤ w1.heap.size := B3.lt; have q10 := B2.cell 0; have q11 := B2.cell 1; simp only [List.getElem?_toArray, List.getElem?_cons_zero, List.getElem?_cons_succ] at q10 q11; clear HW1; refine region_chain [7] [.early, .early, .early, .early, .early, .early, .early, .chain 0] [] [] (PhiMo (w.heap.size + 2) w.heap.size k1 k2 (.slice A1 k1 c1) (.slice A2 k2 c2) X1 X2) (fun w w' => Below w.heap.size w w') (SMo w w1 k1 k2 X1 X2) (by kernel_rfl) (by kernel_rfl) (by kernel_rfl) (by kernel_rfl) (sK (fun _ _ _ _ _ h => h) (sK (fun _ _ _ _ _ h => h) (sK (fun _ _ _ _ _ h => h) (sK (fun _ _ _ _ _ h => h) (sK (fun _ _ _ _ _ h => h) (sK (fun _ _ _ _ _ h => h) (sK (fun _ _ _ _ _ h => h) (sK (fun _ _ _ _ _ h => h) (sZ))))))))) PhiMo.keepR PhiMo.keepF (fun _ _ _ _ hR hS => Below.tr hS hR) (by rintro (_ | ⟨_, _⟩) vs vs' w _ h <;> exact h) (fun _ => bD _) (fun vs => by simp only [fillR, Act.put, sA, sB, sC, Nat.zero_add, Nat.reduceAdd]; rfl) ?_ ?_
 ·refine sK ?_ (sK ?_ (sK ?_ (sK ?_ (sK ?_ (sK ?_ (sK ?_ (sK ?_ (sZ))))))))
  ·as_aux_lemma =>
   intro vs W hS hu hdep K hK; have HU := Lib.hid hu; clear hu; refine ⟨?_⟩; simp only [Act.put, sA, sB, sC, Nat.zero_add, Nat.reduceAdd] at hK ⊢; go_simp; with_reducible refine hK _ _ (Below.refl _ _) ?_
   exact rfl
  ·as_aux_lemma =>
   intro vs W hS hu hdep K hK; have HU := Lib.hid hu; clear hu; have d0 := hdep ⟨0, .data⟩ (by simp) rfl; simp only [PhiMo] at d0; have ft := cell_keep hS q10; refine ⟨?_⟩; simp only [Act.put, sA, sB, sC, Nat.zero_add, Nat.reduceAdd, d0] at hK ⊢; go_simp; with_reducible refine hK _ _ (Below.refl _ _) ?_
   exact rfl
  ·as_aux_lemma =>
   intro vs W hS hu hdep K hK; have HU := Lib.hid hu; clear hu; have d0 := hdep ⟨1, .data⟩ (by simp) rfl; simp only [PhiMo] at d0; refine ⟨?_⟩; simp only [fillR, Act.put, sA, sB, sC, Nat.zero_add, Nat.reduceAdd, d0] at hK ⊢; go_simp; refine (items_n A1 k1 c1 X1 _ ((hx1.below hb1).below hS) TX1 hk1).mono ?_; rintro e w' ⟨v, rfl, ho, hb⟩; obtain ⟨Av, cv, rfl⟩ := own_shp ho; go_wp2_with fail; with_reducible refine hK _ _ hb ?_
   exact ⟨_, _, rfl, own_mono ho (by have := hS.size; omega)⟩
  ·as_aux_lemma =>
   intro vs W hS hu hdep K hK; have HU := Lib.hid hu; clear hu; refine ⟨?_⟩; simp only [Act.put, sA, sB, sC, Nat.zero_add, Nat.reduceAdd] at hK ⊢; go_simp; with_reducible refine hK _ _ (Below.refl _ _) ?_
   exact rfl
  ·as_aux_lemma =>
   intro vs W hS hu hdep K hK; have HU := Lib.hid hu; clear hu; have d0 := hdep ⟨3, .data⟩ (by simp) rfl; simp only [PhiMo] at d0; have ft := cell_keep hS q11; refine ⟨?_⟩; simp only [Act.put, sA, sB, sC, Nat.zero_add, Nat.reduceAdd, d0] at hK ⊢; go_simp; with_reducible refine hK _ _ (Below.refl _ _) ?_
   exact rfl
  ·as_aux_lemma =>
   intro vs W hS hu hdep K hK; have HU := Lib.hid hu; clear hu; have d0 := hdep ⟨4, .data⟩ (by simp) rfl; simp only [PhiMo] at d0; refine ⟨?_⟩; simp only [fillR, Act.put, sA, sB, sC, Nat.zero_add, Nat.reduceAdd, d0] at hK ⊢; go_simp; refine (items_n A2 k2 c2 X2 _ ((hx2.below hb1).below hS) TX2 hk2).mono ?_; rintro e w' ⟨v, rfl, ho, hb⟩; obtain ⟨Av, cv, rfl⟩ := own_shp ho; go_wp2_with fail; with_reducible refine hK _ _ hb ?_
   exact ⟨_, _, rfl, own_mono ho (by have := hS.size; omega)⟩
  ·as_aux_lemma =>
   intro vs W hS hu hdep K hK; have HU := Lib.hid hu; clear hu; have d0 := hdep ⟨2, .data⟩ (by simp) rfl; simp only [PhiMo] at d0; refine @exE2 _ _ _ _ d0 ?_; clear d0; intro A0 c0 d0; have e0 := d0.1; have o0 := d0.2; clear d0; have d1 := hdep ⟨5, .data⟩ (by simp) rfl; simp only [PhiMo] at d1; refine @exE2 _ _ _ _ d1 ?_; clear d1; intro B1 d1 d1; have f1 := d1.1; have p1 := d1.2; clear d1; refine ⟨?_⟩; simp only [Act.put, sA, sB, sC, Nat.zero_add, Nat.reduceAdd, e0, f1] at hK ⊢; rw [if_pos (by rfl)]; rw [e0] at o0; rw [f1] at p1; refine wp_buildW 72 [(0, .tmp 5), (1, .tmp 8)] (by rfl) #[.slice A0 k1 c0, .slice B1 k2 d1] [(0, .slice A0 k1 c0), (1, .slice B1 k2 d1)] (by rfl) built_rln ?_; simp only [Act.put, sA, sB, sC]; with_reducible refine hK _ _ (Below.refl _ _) ?_
   exact ⟨_, _, _, _, rfl, o0, p1⟩
  ·as_aux_lemma =>
   intro vs W hS hdep K hK; have d0 := hdep ⟨6, .data⟩ (by simp) rfl (by rfl); simp only [PhiMo] at d0; simp only [List.take_zero, List.map_nil] at hS; have hS0 : Below w1.heap.size w1 W := hS; clear hS; refine @exE4 _ _ _ _ _ _ d0 ?_; clear d0; intro A c A' c' d0; have e0 := d0.1; have o1 := d0.2.1; have o2 := d0.2.2; clear d0; have BB := Blk.below B3 hS0 B3.lt; have hbb := Below.tr hb1 hS0; refine ⟨?_⟩; simp only [Act.put, sA, sB, sC, Nat.zero_add, Nat.reduceAdd, e0] at hK ⊢; rw [if_pos (by rfl)]; refine wp_store_mid 72 (.tmp 2) (.tmp 9) (by rfl) (w.heap.size + 1) 0 #[.slice A k1 c, .slice A' k2 c'] (by rfl) (by rfl) (Blk.there BB rfl) info_rln (by simp [Value.oneCell']) ?_; simp only [Act.put, sA, sB, sC]; with_reducible refine hK undef _ ?_
   refine ⟨A, c, A', c', Blk.setAll BB rfl, ?_, ?_, below_setAll (by omega) _ _ hbb⟩
   ·exact own_set (own_set o1 (p := ⟨w.heap.size + 1, 0, none⟩) (by show w.heap.size + 1 < _; omega) _) (p := ⟨w.heap.size + 1, 1, none⟩) (by show w.heap.size + 1 < _; omega) _
   ·exact own_set (own_set o2 (p := ⟨w.heap.size + 1, 0, none⟩) (by show w.heap.size + 1 < _; omega) _) (p := ⟨w.heap.size + 1, 1, none⟩) (by show w.heap.size + 1 < _; omega) _
 ·intro vs W hS _; obtain ⟨A, c, A', c', BF, o1, o2, hbf⟩ := hS; obtain ⟨_, _, e1, r1⟩ := own_rowS cellsI_len (by omega) (by omega) o1; obtain ⟨_, _, e2, r2⟩ := own_rowS cellsI_len (by omega) (by omega) o2; injection e1 with e11 _ e12; injection e2 with e21 _ e22; subst e11 e12 e21 e22; go_wp2_with fail
  (try simp only [Exit.inBlock, Exit.then])
  refine bodyPost_ret (results_rln rfl rfl BF) rfl ?_; exact ⟨⟨A, k1, c, A', k2, c', X1, X2⟩, rfl, ⟨r1, r2, TX1.out, TX2.out⟩, rfl, rfl, rfl, rfl, own_mono o1 (by omega), own_mono o2 (by omega), hbf⟩
def PhiGi (N g1 k1 k2 : Nat) (x1 x2 : Value) (X1 X2 : List IT) (vs : Nat → Value) (j : Nat) (w : World) (x : Value) : Prop :=
 match j with
 | 0 => x = .pointer (some ⟨g1, 0, none⟩)
 | 1 => x = x1
 | 2 => ∃ A c, x = .slice A k1 c ∧ w.ownsRow N 66 24 x k1 (X1.flatMap cellsI)
 | 3 => x = .pointer (some ⟨g1, 1, none⟩)
 | 4 => x = x2
 | 5 => ∃ A c, x = .slice A k2 c ∧ w.ownsRow N 66 24 x k2 (X2.flatMap cellsI)
 | 6 => ∃ A c A' c', x = .agg #[.slice A k1 c, .slice A' k2 c'] ∧ w.ownsRow N 66 24 (.slice A k1 c) k1 (X1.flatMap cellsI) ∧ w.ownsRow N 66 24 (.slice A' k2 c') k2 (X2.flatMap cellsI)
 | _ => True
theorem PhiGi.keepR {N g1 k1 k2 : Nat} {x1 x2 : Value} {X1 X2 : List IT} : ∀ vs (w w' : World), Below w.heap.size w w' → ∀ j x, PhiGi N g1 k1 k2 x1 x2 X1 X2 vs j w x → PhiGi N g1 k1 k2 x1 x2 X1 X2 vs j w' x := by
 intro vs w w' hb j x h; unfold PhiGi at h ⊢
 split <;> simp only at h ⊢ <;> first | exact h | skip
 ·obtain ⟨A, c, e, h⟩ := h; exact ⟨A, c, e, own_below h hb⟩
 ·obtain ⟨A, c, e, h⟩ := h; exact ⟨A, c, e, own_below h hb⟩
 ·obtain ⟨A, c, A', c', e, h1, h2⟩ := h; exact ⟨A, c, A', c', e, own_below h1 hb, own_below h2 hb⟩
theorem PhiGi.keepF {N g1 k1 k2 : Nat} {x1 x2 : Value} {X1 X2 : List IT} : ∀ vs (w w' : World) j x, ([] : List Nat).contains j = true → PhiGi N g1 k1 k2 x1 x2 X1 X2 vs j w x → PhiGi N g1 k1 k2 x1 x2 X1 X2 vs j w' x := by
 intro vs w w' j x hf
 cases hf
def SGi (w w1 : World) (k1 k2 : Nat) (X1 X2 : List IT) : List Value → (Nat → Value) → World → Prop
 | [], _, W => Below w1.heap.size w1 W
 | _, _, W => ∃ A c A' c', Blk W (w.heap.size + 1) 58 #[.slice A k1 c, .slice A' k2 c'] ∧ W.ownsRow (w.heap.size + 2) 66 24 (.slice A k1 c) k1 (X1.flatMap cellsI) ∧ W.ownsRow (w.heap.size + 2) 66 24 (.slice A' k2 c') k2 (X2.flatMap cellsI) ∧ Below w.heap.size w W
set_option maxRecDepth 100000 in
set_option maxHeartbeats 4000000 in
theorem given_n (x : Ln) (w : World) (hx : x.Ok w) (hk1 : x.k1 ≤ 1073741824) (hk2 : x.k2 ≤ 1073741824) :
  Calls Try.prog 33 #[x.val] w fun e w' => ∃ y : Ln, e = .returned y.val ∧ y.Ok w' ∧ y.P = x.P ∧ y.S = x.S ∧ y.k1 = x.k1 ∧ y.k2 = x.k2 ∧ w'.ownsRow w.heap.size 66 24 (.slice y.A1 y.k1 y.c1) y.k1 (x.P.flatMap cellsI) ∧ w'.ownsRow w.heap.size 66 24 (.slice y.A2 y.k2 y.c2) y.k2 (x.S.flatMap cellsI) ∧ Below w.heap.size w w' := by
 obtain ⟨A1, k1, c1, A2, k2, c2, X1, X2⟩ := x; simp only [Ln.val]; obtain ⟨hx1, hx2, tx1, tx2⟩ := hx; simp only at hx1 hx2 tx1 tx2 hk1 hk2; have TX1 := Lib.hid tx1; have TX2 := Lib.hid tx2; clear tx1 tx2
 go_enter Try.func33, Try.ntmps33
 go_upto_region 1 with fail; refine wp_name ?_; intro w1 HW1; have hb1 : Below w.heap.size w w1 := by rw [HW1.out]; exact Below.tr (bA _ _) (bA _ _)
 have B2 : Blk w1 w.heap.size 72 #[.slice A1 k1 c1, .slice A2 k2 c2] := by rw [HW1.out]; exact (Blk.new _ _ _).alloc _
 have B3 : Blk w1 (w.heap.size + 1) 58 #[.slice none 0 0, .slice none 0 0] := by
  rw [HW1.out]; have h := Blk.new (w.alloc (.cells #[.slice A1 k1 c1, .slice A2 k2 c2] 72)) 58 #[.slice none 0 0, .slice none 0 0]
  simpa using h
 have hsz1 : w.heap.size + 2 ≤ w1.heap.size := B3.lt; have q10 := B2.cell 0; have q11 := B2.cell 1; simp only [List.getElem?_toArray, List.getElem?_cons_zero, List.getElem?_cons_succ] at q10 q11; clear HW1; refine region_chain [7] [.early, .early, .early, .early, .early, .early, .early, .chain 0] [] [] (PhiGi (w.heap.size + 2) w.heap.size k1 k2 (.slice A1 k1 c1) (.slice A2 k2 c2) X1 X2) (fun w w' => Below w.heap.size w w') (SGi w w1 k1 k2 X1 X2) (by kernel_rfl) (by kernel_rfl) (by kernel_rfl) (by kernel_rfl) (sK (fun _ _ _ _ _ h => h) (sK (fun _ _ _ _ _ h => h) (sK (fun _ _ _ _ _ h => h) (sK (fun _ _ _ _ _ h => h) (sK (fun _ _ _ _ _ h => h) (sK (fun _ _ _ _ _ h => h) (sK (fun _ _ _ _ _ h => h) (sK (fun _ _ _ _ _ h => h) (sZ))))))))) PhiGi.keepR PhiGi.keepF (fun _ _ _ _ hR hS => Below.tr hS hR) (by rintro (_ | ⟨_, _⟩) vs vs' w _ h <;> exact h) (fun _ => bD _) (fun vs => by simp only [fillR, Act.put, sA, sB, sC, Nat.zero_add, Nat.reduceAdd]; rfl) ?_ ?_
 ·refine sK ?_ (sK ?_ (sK ?_ (sK ?_ (sK ?_ (sK ?_ (sK ?_ (sK ?_ (sZ))))))))
  ·as_aux_lemma =>
   intro vs W hS hu hdep K hK; have HU := Lib.hid hu; clear hu; refine ⟨?_⟩; simp only [Act.put, sA, sB, sC, Nat.zero_add, Nat.reduceAdd] at hK ⊢; go_simp; with_reducible refine hK _ _ (Below.refl _ _) ?_
   exact rfl
  ·as_aux_lemma =>
   intro vs W hS hu hdep K hK; have HU := Lib.hid hu; clear hu; have d0 := hdep ⟨0, .data⟩ (by simp) rfl; simp only [PhiGi] at d0; have ft := cell_keep hS q10; refine ⟨?_⟩; simp only [Act.put, sA, sB, sC, Nat.zero_add, Nat.reduceAdd, d0] at hK ⊢; go_simp; with_reducible refine hK _ _ (Below.refl _ _) ?_
   exact rfl
  ·as_aux_lemma =>
   intro vs W hS hu hdep K hK; have HU := Lib.hid hu; clear hu; have d0 := hdep ⟨1, .data⟩ (by simp) rfl; simp only [PhiGi] at d0; refine ⟨?_⟩; simp only [fillR, Act.put, sA, sB, sC, Nat.zero_add, Nat.reduceAdd, d0] at hK ⊢; go_simp; refine (own_n A1 k1 c1 X1 _ ((hx1.below hb1).below hS) TX1 hk1).mono ?_; rintro e w' ⟨v, rfl, ho, hb⟩; obtain ⟨Av, cv, rfl⟩ := own_shp ho; go_wp2_with fail; with_reducible refine hK _ _ hb ?_
   exact ⟨_, _, rfl, own_mono ho (by have := hS.size; omega)⟩
  ·as_aux_lemma =>
   intro vs W hS hu hdep K hK; have HU := Lib.hid hu; clear hu; refine ⟨?_⟩; simp only [Act.put, sA, sB, sC, Nat.zero_add, Nat.reduceAdd] at hK ⊢; go_simp; with_reducible refine hK _ _ (Below.refl _ _) ?_
   exact rfl
  ·as_aux_lemma =>
   intro vs W hS hu hdep K hK; have HU := Lib.hid hu; clear hu; have d0 := hdep ⟨3, .data⟩ (by simp) rfl; simp only [PhiGi] at d0; have ft := cell_keep hS q11; refine ⟨?_⟩; simp only [Act.put, sA, sB, sC, Nat.zero_add, Nat.reduceAdd, d0] at hK ⊢; go_simp; with_reducible refine hK _ _ (Below.refl _ _) ?_
   exact rfl
  ·as_aux_lemma =>
   intro vs W hS hu hdep K hK; have HU := Lib.hid hu; clear hu; have d0 := hdep ⟨4, .data⟩ (by simp) rfl; simp only [PhiGi] at d0; refine ⟨?_⟩; simp only [fillR, Act.put, sA, sB, sC, Nat.zero_add, Nat.reduceAdd, d0] at hK ⊢; go_simp; refine (own_n A2 k2 c2 X2 _ ((hx2.below hb1).below hS) TX2 hk2).mono ?_; rintro e w' ⟨v, rfl, ho, hb⟩; obtain ⟨Av, cv, rfl⟩ := own_shp ho; go_wp2_with fail; with_reducible refine hK _ _ hb ?_
   exact ⟨_, _, rfl, own_mono ho (by have := hS.size; omega)⟩
  ·as_aux_lemma =>
   intro vs W hS hu hdep K hK; have HU := Lib.hid hu; clear hu; have d0 := hdep ⟨2, .data⟩ (by simp) rfl; simp only [PhiGi] at d0; refine @exE2 _ _ _ _ d0 ?_; clear d0; intro A0 c0 d0; have e0 := d0.1; have o0 := d0.2; clear d0; have d1 := hdep ⟨5, .data⟩ (by simp) rfl; simp only [PhiGi] at d1; refine @exE2 _ _ _ _ d1 ?_; clear d1; intro B1 d1 d1; have f1 := d1.1; have p1 := d1.2; clear d1; refine ⟨?_⟩; simp only [Act.put, sA, sB, sC, Nat.zero_add, Nat.reduceAdd, e0, f1] at hK ⊢; rw [if_pos (by rfl)]; rw [e0] at o0; rw [f1] at p1; refine wp_buildW 58 [(0, .tmp 5), (1, .tmp 8)] (by rfl) #[.slice A0 k1 c0, .slice B1 k2 d1] [(0, .slice A0 k1 c0), (1, .slice B1 k2 d1)] (by rfl) built_gln ?_; simp only [Act.put, sA, sB, sC]; with_reducible refine hK _ _ (Below.refl _ _) ?_
   exact ⟨_, _, _, _, rfl, o0, p1⟩
  ·as_aux_lemma =>
   intro vs W hS hdep K hK; have d0 := hdep ⟨6, .data⟩ (by simp) rfl (by rfl); simp only [PhiGi] at d0; simp only [List.take_zero, List.map_nil] at hS; have hS0 : Below w1.heap.size w1 W := hS; clear hS; refine @exE4 _ _ _ _ _ _ d0 ?_; clear d0; intro A c A' c' d0; have e0 := d0.1; have o1 := d0.2.1; have o2 := d0.2.2; clear d0; have BB := Blk.below B3 hS0 B3.lt; have hbb := Below.tr hb1 hS0; refine ⟨?_⟩; simp only [Act.put, sA, sB, sC, Nat.zero_add, Nat.reduceAdd, e0] at hK ⊢; rw [if_pos (by rfl)]; refine wp_store_mid 58 (.tmp 2) (.tmp 9) (by rfl) (w.heap.size + 1) 0 #[.slice A k1 c, .slice A' k2 c'] (by rfl) (by rfl) (Blk.there BB rfl) info_gln (by simp [Value.oneCell']) ?_; simp only [Act.put, sA, sB, sC]; with_reducible refine hK undef _ ?_
   refine ⟨A, c, A', c', Blk.setAll BB rfl, ?_, ?_, below_setAll (by omega) _ _ hbb⟩
   ·exact own_set (own_set o1 (p := ⟨w.heap.size + 1, 0, none⟩) (by show w.heap.size + 1 < _; omega) _) (p := ⟨w.heap.size + 1, 1, none⟩) (by show w.heap.size + 1 < _; omega) _
   ·exact own_set (own_set o2 (p := ⟨w.heap.size + 1, 0, none⟩) (by show w.heap.size + 1 < _; omega) _) (p := ⟨w.heap.size + 1, 1, none⟩) (by show w.heap.size + 1 < _; omega) _
 ·intro vs W hS _; obtain ⟨A, c, A', c', BF, o1, o2, hbf⟩ := hS; obtain ⟨_, _, e1, r1⟩ := own_rowS cellsI_len (by omega) (by omega) o1; obtain ⟨_, _, e2, r2⟩ := own_rowS cellsI_len (by omega) (by omega) o2; injection e1 with e11 _ e12; injection e2 with e21 _ e22; subst e11 e12 e21 e22; go_wp2_with fail
  (try simp only [Exit.inBlock, Exit.then])
  refine bodyPost_ret (results_gln rfl rfl BF) rfl ?_; exact ⟨⟨A, k1, c, A', k2, c', X1, X2⟩, rfl, ⟨r1, r2, TX1.out, TX2.out⟩, rfl, rfl, rfl, rfl, own_mono o1 (by omega), own_mono o2 (by omega), hbf⟩
/-- what Check says -/
noncomputable def ckE (f : Int) (P S P' S' : List IT) : Int := open Classical in if f = 0 then (if P = P' ∧ S = S' then 0 else 16) else f
theorem zip_ty {names : List ByteArray} {rs : List RC0} (h : ∀ r ∈ rs, RcTy r) : ∀ x ∈ names.zip rs, RcTy x.2 := fun x hx => h _ (List.of_mem_zip (a := x.1) (b := x.2) hx).2
theorem pas_ty {l : List Nat} {ps : List PC} {xs : List (ByteArray × RC0)} (h : ∀ x ∈ xs, RcTy x.2) : ∀ it ∈ pasL l ps xs, ItTy it := by
 intro it hit; obtain ⟨h1, _⟩ := List.mem_filter.1 hit; obtain ⟨x, h2, rfl⟩ := List.mem_map.1 h1; exact h x (List.mem_filter.1 h2).1
theorem sto_ty {l : List Nat} {ps : List PC} {xs : List (ByteArray × RC0)} (h : ∀ x ∈ xs, RcTy x.2) : ∀ it ∈ stoL l ps xs, ItTy it := by
 intro it hit; obtain ⟨h1, _⟩ := List.mem_filter.1 hit; obtain ⟨x, h2, rfl⟩ := List.mem_map.1 h1; exact h x (List.mem_filter.1 h2).1
/-- what Decide makes, as a line -/
theorem dec_ln {w : World} {T : TypeId} {base : Nat} {l : List Nat} {ps : List PC} {names : List ByteArray} {rs : List RC0} {vp vs : Value} {np ns kt : Nat} {er : Int} (hk : kt ≤ 1073741824) (hkt : kt = names.length) (HT : Hid (∀ r ∈ rs, RcTy r))
  (h1 : w.ownsRow base T 24 vp np ((pasL l ps (if er = 0 then names.zip rs else [])).flatMap cellsI)) (h2 : w.ownsRow base T 24 vs ns ((stoL l ps (if er = 0 then names.zip rs else [])).flatMap cellsI)) :
  ∃ y : Ln, (.agg #[vp, vs] : Value) = y.val ∧ vp = .slice y.A1 y.k1 y.c1 ∧ vs = .slice y.A2 y.k2 y.c2 ∧ y.Ok w ∧ Hid (er = 0 → y.P = pasL l ps (names.zip rs) ∧ y.S = stoL l ps (names.zip rs)) ∧ Hid (y.P = pasL l ps (if er = 0 then names.zip rs else []) ∧ y.S = stoL l ps (if er = 0 then names.zip rs else [])) ∧ y.k1 ≤ kt ∧ y.k2 ≤ kt := by
 have hz : (if er = 0 then names.zip rs else []).length ≤ kt := by
  split
  ·rw [List.length_zip]; omega
  ·simp
 have ht : ∀ x ∈ (if er = 0 then names.zip rs else []), RcTy x.2 := by
  intro x hx
  split at hx
  ·exact zip_ty HT.out x hx
  ·cases hx
 have g1 := h1.1; have g2 := h2.1; rw [flat_len cellsI_len] at g1 g2; have p1 := pas_le l ps (if er = 0 then names.zip rs else []); have p2 := sto_le l ps (if er = 0 then names.zip rs else []); obtain ⟨A1, c1, rfl, r1⟩ := own_rowS cellsI_len (by omega) (by omega) h1; obtain ⟨A2, c2, rfl, r2⟩ := own_rowS cellsI_len (by omega) (by omega) h2; refine ⟨⟨A1, np, c1, A2, ns, c2, _, _⟩, rfl, rfl, rfl, ⟨r1, r2, pas_ty ht, sto_ty ht⟩, fun he => ?_, ⟨rfl, rfl⟩, by show np ≤ kt; omega, by show ns ≤ kt; omega⟩; simp only; rw [if_pos he]; exact ⟨rfl, rfl⟩
set_option maxRecDepth 100000 in
set_option maxHeartbeats 4000000 in
theorem gcheck_n (Al A T S : Option Addr) (kl cl k c kt ct ks cs : Nat) (l : List Int) (ps : List PC) (names : List ByteArray) (rs : List RC0) (x : Ln) (w : World) (hp : RowS cellsP w Al kl ps) (hr : RowS intC w A k l) (ht : RowS strC w T kt names) (hs : RowS cellsR w S ks rs) (HT : Hid (∀ r ∈ rs, RcTy r)) (hx : x.Ok w) (hks : ks ≤ 1073741824) (hkt : kt ≤ 1073741824) :
  Calls Try.prog 32 #[.slice Al kl cl, .slice A k c, .slice T kt ct, .slice S ks cs, x.val] w fun e w' => ∃ z : Int, e = .returned (.int .i64 z) ∧ Hid (z = ckE (fitE kl l kt ks rs) x.P x.S (pasL (l.map Int.toNat) ps (names.zip rs)) (stoL (l.map Int.toNat) ps (names.zip rs))) ∧ Below w.heap.size w w' := by
 have HS : Hid (∀ x ∈ rs, ∀ v ∈ cellsR x, v.oneCell' = true) := fun x h => (HT.out x h).one
 obtain ⟨vx1, vx2, evx⟩ : ∃ v1 v2, x.val = .agg #[v1, v2] := ⟨_, _, rfl⟩; have HVX := Lib.hid evx; rw [evx]; clear evx
 go_enter Try.func32, Try.ntmps32
 go_upto_region 1 with fail; refine wp_name ?_; intro w1 HW1; have hb1 : Below w.heap.size w w1 := by rw [HW1.out]; exact bA _ _
 have B9 : Blk w1 w.heap.size 58 #[vx1, vx2] := by rw [HW1.out]; exact Blk.new _ _ _
 clear HW1; go_wp2_with fail; refine (decide_n Al A T S kl cl k c kt ct ks cs l ps names rs _ (hp.below hb1) (hr.below hb1) (ht.below hb1) (hs.below hb1) HS hks).mono ?_; rintro e w2 ⟨vp, np, vs, ns, er, rfl, HE, hop, hos, hb2⟩; obtain ⟨y, -, rfl, rfl, hy, HY, _, _, _⟩ := dec_ln hkt ht.2.1 HT hop hos; clear hop hos; go_upto_region 2 with fail; refine wp_name ?_; intro w3 HW3; have hb3 : Below w2.heap.size w2 w3 := by rw [HW3.out]; exact bA _ _
 have B11 : Blk w3 w2.heap.size 58 #[.slice y.A1 y.k1 y.c1, .slice y.A2 y.k2 y.c2] := by rw [HW3.out]; exact Blk.new _ _ _
 have hb23 := Below.tr hb2 hb3; have B9 := Blk.below B9 hb23 B9.lt; have hb := Below.tr hb1 hb23; clear HW3; by_cases he : er = 0
 ·subst he; have hy := hy.below hb3; have hx := hx.below hb; have q90 := B9.cell 0; have q91 := B9.cell 1; have q110 := B11.cell 0; have q111 := B11.cell 1; simp only [List.getElem?_toArray, List.getElem?_cons_zero, List.getElem?_cons_succ] at q90 q91 q110 q111; clear hb2 hb3 hb23 hp hr ht hs HS HT; go_wp2_with fail; rw [← HVX.out]; refine (gsame_n x y _ hx hy).mono ?_; rintro e w4 ⟨b, rfl, HB, hb4⟩; have hb5 := Below.tr hb hb4
  have HZ : Hid ((if b then 0 else 16 : Int) = ckE (fitE kl l kt ks rs) x.P x.S (pasL (l.map Int.toNat) ps (names.zip rs)) (stoL (l.map Int.toNat) ps (names.zip rs))) := by
   show _ = _
   rw [← HE.out]; unfold ckE; rw [if_pos rfl]; obtain ⟨e1, e2⟩ := HY.out (by first | rfl | trivial); have hb := HB.out; rw [e1, e2] at hb; by_cases h : x.P = pasL (l.map Int.toNat) ps (names.zip rs) ∧ x.S = stoL (l.map Int.toNat) ps (names.zip rs)
   ·rw [if_pos h, hb.2 h]; rfl
   ·rw [if_neg h, if_neg (fun h2 => h (hb.1 h2))]
  clear HE HY HB hx hy q90 q91 q110 q111
  cases b
  ·go_wp2_with fail; go_ret; exact ⟨16, rfl, HZ, hb5⟩
  ·go_wp2_with fail; go_ret; exact ⟨0, rfl, HZ, hb5⟩
 ·have h0 : (er == 0) = false := by simpa using he
  have HZ : Hid (er = ckE (fitE kl l kt ks rs) x.P x.S (pasL (l.map Int.toNat) ps (names.zip rs)) (stoL (l.map Int.toNat) ps (names.zip rs))) := by
   show _ = _
   rw [← HE.out]; unfold ckE; rw [if_neg he]
  clear HE HY hx hy hp hr ht hs HS HT he; go_wp2_with fail; go_ret; exact ⟨er, rfl, HZ, hb⟩
set_option maxRecDepth 100000 in
set_option maxHeartbeats 4000000 in
theorem rcheck_n (Al A T S : Option Addr) (kl cl k c kt ct ks cs : Nat) (l : List Int) (ps : List PC) (names : List ByteArray) (rs : List RC0) (x : Ln) (w : World) (hp : RowS cellsP w Al kl ps) (hr : RowS intC w A k l) (ht : RowS strC w T kt names) (hs : RowS cellsR w S ks rs) (HT : Hid (∀ r ∈ rs, RcTy r)) (hx : x.Ok w) (hks : ks ≤ 1073741824) (hkt : kt ≤ 1073741824) :
  Calls Try.prog 34 #[.slice Al kl cl, .slice A k c, .slice T kt ct, .slice S ks cs, x.val] w fun e w' => ∃ z : Int, e = .returned (.int .i64 z) ∧ Hid (z = ckE (fitE kl l kt ks rs) x.P x.S (pasL (l.map Int.toNat) ps (names.zip rs)) (stoL (l.map Int.toNat) ps (names.zip rs))) ∧ Below w.heap.size w w' := by
 have HS : Hid (∀ x ∈ rs, ∀ v ∈ cellsR x, v.oneCell' = true) := fun x h => (HT.out x h).one
 obtain ⟨vx1, vx2, evx⟩ : ∃ v1 v2, x.val = .agg #[v1, v2] := ⟨_, _, rfl⟩; have HVX := Lib.hid evx; rw [evx]; clear evx
 go_enter Try.func34, Try.ntmps34
 go_upto_region 1 with fail; refine wp_name ?_; intro w1 HW1; have hb1 : Below w.heap.size w w1 := by rw [HW1.out]; exact bA _ _
 have B9 : Blk w1 w.heap.size 72 #[vx1, vx2] := by rw [HW1.out]; exact Blk.new _ _ _
 clear HW1; go_wp2_with fail; refine (rdecide_n Al A T S kl cl k c kt ct ks cs l ps names rs _ (hp.below hb1) (hr.below hb1) (ht.below hb1) (hs.below hb1) HS hks).mono ?_; rintro e w2 ⟨vp, np, vs, ns, er, rfl, HE, hop, hos, hb2⟩; obtain ⟨y, -, rfl, rfl, hy, HY, _, _, _⟩ := dec_ln hkt ht.2.1 HT hop hos; clear hop hos; go_upto_region 2 with fail; refine wp_name ?_; intro w3 HW3; have hb3 : Below w2.heap.size w2 w3 := by rw [HW3.out]; exact bA _ _
 have B11 : Blk w3 w2.heap.size 72 #[.slice y.A1 y.k1 y.c1, .slice y.A2 y.k2 y.c2] := by rw [HW3.out]; exact Blk.new _ _ _
 have hb23 := Below.tr hb2 hb3; have B9 := Blk.below B9 hb23 B9.lt; have hb := Below.tr hb1 hb23; clear HW3; by_cases he : er = 0
 ·subst he; have hy := hy.below hb3; have hx := hx.below hb; have q90 := B9.cell 0; have q91 := B9.cell 1; have q110 := B11.cell 0; have q111 := B11.cell 1; simp only [List.getElem?_toArray, List.getElem?_cons_zero, List.getElem?_cons_succ] at q90 q91 q110 q111; clear hb2 hb3 hb23 hp hr ht hs HS HT; go_wp2_with fail; rw [← HVX.out]; refine (rsame_n x y _ hx hy).mono ?_; rintro e w4 ⟨b, rfl, HB, hb4⟩; have hb5 := Below.tr hb hb4
  have HZ : Hid ((if b then 0 else 16 : Int) = ckE (fitE kl l kt ks rs) x.P x.S (pasL (l.map Int.toNat) ps (names.zip rs)) (stoL (l.map Int.toNat) ps (names.zip rs))) := by
   show _ = _
   rw [← HE.out]; unfold ckE; rw [if_pos rfl]; obtain ⟨e1, e2⟩ := HY.out (by first | rfl | trivial); have hb := HB.out; rw [e1, e2] at hb; by_cases h : x.P = pasL (l.map Int.toNat) ps (names.zip rs) ∧ x.S = stoL (l.map Int.toNat) ps (names.zip rs)
   ·rw [if_pos h, hb.2 h]; rfl
   ·rw [if_neg h, if_neg (fun h2 => h (hb.1 h2))]
  clear HE HY HB hx hy q90 q91 q110 q111
  cases b
  ·go_wp2_with fail; go_ret; exact ⟨16, rfl, HZ, hb5⟩
  ·go_wp2_with fail; go_ret; exact ⟨0, rfl, HZ, hb5⟩
 ·have h0 : (er == 0) = false := by simpa using he
  have HZ : Hid (er = ckE (fitE kl l kt ks rs) x.P x.S (pasL (l.map Int.toNat) ps (names.zip rs)) (stoL (l.map Int.toNat) ps (names.zip rs))) := by
   show _ = _
   rw [← HE.out]; unfold ckE; rw [if_neg he]
  clear HE HY hx hy hp hr ht hs HS HT he; go_wp2_with fail; go_ret; exact ⟨er, rfl, HZ, hb⟩
end Go.Proofs.Yticobffjnjbjiaa
namespace Go.Proofs.Yticobffjnjbjiaa
open Go Go.RowKit
section
variable {P : Program}
/-- an append onto an empty slice without room: the rest of the memory stays -/
theorem wp_freshG {o : Oper} {a : Act} {w : World} {K : Act → World → Prop} {Q : Exit → Act → World → Prop}
  (hg : o.guard = none) (s x : Operand) (t : TypeId) (hop : o.op = Op.call { callee := Callee.builtin Builtin.append, args := #[s, x], argTypes := #[t, t] })
  (e : TypeId) (i : TypeInfo) (z : Value) (size bytes : Nat) (ht : P.underlying t = some (.slice e)) (hi : P.info? e = some i) (hz : i.zero = some z) (hsize : i.size = size) (hby : i.bytes = bytes) (hzs : z.cells.size = size) (hsz : 0 < size)
  (base b : Nat) (hs : a.eval s = .slice (some ⟨b, 0, none⟩) 0 0) (hown : w.ownsRow base e size (.slice (some ⟨b, 0, none⟩) 0 0) 0 [])
  (A : Option Addr) (m c : Nat) (news : List Value) (hx : a.eval x = .slice A m c) (hm : news.length = m * size) (hr : Rd w A news) (h1 : ∀ u ∈ news, u.oneCell' = true)
  (h63 : m ≤ maxLen) (hbytes : m * bytes ≤ 140737488355328) (hbase : base ≤ w.heap.size)
  (hK : ∀ v' w', w'.ownsRow base e size v' m news → (0 < m → ∀ j, v'.ownBlock = some j → w.heap.size ≤ j) → (m = 0 → v' = .slice (some ⟨b, 0, none⟩) 0 0) → Below w.heap.size w w' → K (a.put o.dst v') w') : Oper.wp P o a w K Q := by
 subst hsize
 rcases Nat.eq_zero_or_pos m with h0 | h0
 ·subst h0; have hn : news = [] := List.eq_nil_of_length_eq_zero (by simpa using hm); subst hn
  have e : (Builtin.append_ #[t, t] o.type #[.slice (some ⟨b, 0, none⟩) 0 0, .slice A 0 c]).run P w = .ok (.slice (some ⟨b, 0, none⟩) 0 0) w := by
   rcases A with _ | ad
   ·exact run_append_of_nil w base t o.type e i i.size ht hi _ 0 [] hown c
   ·simp [Builtin.append_, run_underlying ht, sizeOf, typeInfo, hi, Builtin.lenOf, Builtin.firstCells, storeCells, loadCells, loadCellsFrom]
  unfold Oper.wp execOp; simp only [hop, resolve, invoke, builtin, Sem.run_bind, Sem.run_pure, Result.andThen_ok, List.map_toArray, List.map_cons, List.map_nil, hs, hx, e]; exact hK _ _ hown (fun h => by omega) (fun _ => rfl) (Below.refl _ _)
 ·have hne : news ≠ [] := by
   intro e; rw [e] at hm; have := Nat.mul_pos h0 hsz; simp at hm; omega
  obtain ⟨b', off, rfl, hc⟩ := hr hne; have hbig : m ≤ 9223372036854775807 := by simpa only [maxLen] using h63
  have h := step_append_grows (P := P) (ops := #[]) (E := True) (Q := Q) (K := K) hg s x t hop e i z i.size bytes ht hi hz rfl hby hzs hsz (some ⟨b, 0, none⟩) 0 0 [] hs (fun h => by cases h) (by simp) (fun _ _ j u hu => by simp at hu) ⟨b', off, none⟩ m c news hx hm (fun j u hu => by
   obtain ⟨hj, e⟩ := List.getElem?_eq_some_iff.1 hu; have e2 : (⟨b', off, none⟩ : Addr).add j = ⟨b', off + j, none⟩ := by unfold Addr.add; split <;> simp_all
   rw [e2, hc j hj, e]) h1 (by omega) (by simp only [maxLen] at h63 ⊢; omega) (by rw [Nat.zero_add]; exact hbytes) (fun v' w' ho hgr => by
   rw [Nat.zero_add, List.nil_append] at ho
   exact hK v' w' (own_mono ho hbase) (fun _ => own_block_ge ho) (fun h => by omega) ⟨hgr.os, hgr.tape, hgr.output, hgr.size, fun i hi => hgr.block i hi (by simp)⟩)
  have hw : Region.wanted o (yielded #[] a.tmps) = true := by simp [Region.wanted, hg]
  rwa [if_pos hw] at h
end
/-- an own row is not in a block of another type -/
theorem own_ne {w : World} {base : Nat} {e T : TypeId} {size : Nat} {v : Value} {n g : Nat} {xs : List Value} {arr : Array Value} (h : w.ownsRow base e size v n xs) (hb : Blk w g T arr) (hT : e ≠ T) : v.ownBlock ≠ some g := by
 intro e1
 rcases h.2 with ⟨rfl, _⟩ | ⟨g', cap, cur, rfl, _, hh, _⟩
 ·cases e1
 ·have : g' = g := by simpa [Value.ownBlock] using e1
  subst this; have h2 : w.heap[g']? = some (.cells arr T (0, 0)) := hb; rw [h2] at hh; injection hh with hh; injection hh with _ hh; exact hT hh.symm
theorem own_setn {w : World} {base : Nat} {e : TypeId} {size : Nat} {v : Value} {n : Nat} {xs : List Value} (h : w.ownsRow base e size v n xs) {p : Addr} (hp : v.ownBlock ≠ some p.block) (u : Value) : (w.setCell p u).ownsRow base e size v n xs :=
 ownsRow_keep h fun g hg => Below.heap_setCell w p u g (fun e => hp (by rw [hg, e]))
theorem own_take {w : World} {base : Nat} {e : TypeId} {size : Nat} {A : Option Addr} {n c : Nat} {xs : List Value} (h : w.ownsRow base e size (.slice A n c) n xs) {i : Nat} (hi : i ≤ n) : w.ownsRow base e size (.slice A i c) i (xs.take (i * size)) := by
 have hle : i * size ≤ n * size := Nat.mul_le_mul_right _ hi; refine ⟨by rw [List.length_take, h.1]; omega, ?_⟩
 rcases h.2 with ⟨hv, hn⟩ | ⟨g, cap, cur, hv, hb, hh, hnc, hcm, hcs, ht⟩
 ·injection hv with h1 h2 h3; subst h1 h3; exact .inl ⟨by rw [show i = 0 by omega], by omega⟩
 ·injection hv with h1 h2 h3; subst h1 h3; refine .inr ⟨g, c, cur, rfl, hb, hh, by omega, hcm, hcs, ?_⟩; rw [← ht, List.take_take, Nat.min_eq_left hle]
theorem own_roomy {w : World} {base : Nat} {e : TypeId} {size : Nat} {v1 v2 : Value} {n1 n2 : Nat} {xs ys : List Value} (h1 : w.ownsRow base e size v1 n1 xs) (h2 : w.ownsRow base e size v2 n2 ys) (hs : 0 < size) (hn : 0 < n1) (hc : ∀ A c, v2 = .slice A n2 c → c = 0) : Apt v1 v2 := by
 intro g hg1 hg2
 rcases h1.2 with ⟨rfl, _⟩ | ⟨g1, cap1, cur1, rfl, _, hh1, hnc1, _, hcs1, _⟩
 ·cases hg1
 ·rcases h2.2 with ⟨rfl, _⟩ | ⟨g2, cap2, cur2, rfl, _, hh2, hnc2, _, hcs2, _⟩
  ·cases hg2
  ·have e1 : g1 = g := by simpa [Value.ownBlock] using hg1
   have e2 : g2 = g := by simpa [Value.ownBlock] using hg2
   subst e1 e2; have := hc _ _ rfl; subst this; rw [hh1] at hh2; injection hh2 with hh2; injection hh2 with hh2; subst hh2; rw [hcs1, Nat.zero_mul] at hcs2; have := Nat.mul_pos (show 0 < cap1 by omega) hs; omega
theorem RowS.set {α : Type} {f : α → List Value} {w : World} {A : Option Addr} {k : Nat} {l : List α} {p : Addr} (h : RowS f w A k l) (hb : ∀ b off, A = some ⟨b, off, none⟩ → b ≠ p.block) (u : Value) : RowS f (w.setCell p u) A k l := by
 refine ⟨fun hx => ?_, h.2⟩; obtain ⟨b, off, rfl, hc⟩ := h.1 hx; refine ⟨b, off, rfl, fun i hi => ?_⟩; rw [World.cell?_of_block (Below.heap_setCell w p u b (hb b off rfl))]; exact hc i hi
theorem flat_set {α : Type} {f : α → List Value} {m : Nat} (hf : ∀ x, (f x).length = m) : ∀ (l : List α) (i j : Nat) (v : Value) (x y : α), l[i]? = some x → j < m → f y = (f x).set j v → (l.flatMap f).set (i * m + j) v = (l.set i y).flatMap f
 | [], i, _, _, _, _, h, _, _ => by simp at h
 | a :: l, 0, j, v, x, y, h, hj, he => by
  obtain rfl : a = x := by simpa using h
  rw [List.flatMap_cons, Nat.zero_mul, Nat.zero_add, List.set_append_left _ _ (by rw [hf]; exact hj), ← he]; rfl
 | a :: l, i + 1, j, v, x, y, h, hj, he => by
  rw [List.flatMap_cons, List.set_append_right _ _ (by rw [hf, Nat.add_mul]; omega), hf, show (i + 1) * m + j - m = i * m + j by rw [Nat.add_mul]; omega, flat_set hf l i j v x y (by simpa using h) hj he]; rfl
theorem flat_take {α : Type} {f : α → List Value} {m : Nat} (hf : ∀ x, (f x).length = m) : ∀ (l : List α) (i : Nat), (l.flatMap f).take (i * m) = (l.take i).flatMap f
 | [], i => by simp
 | a :: l, 0 => by simp
 | a :: l, i + 1 => by
  rw [List.flatMap_cons, List.take_succ_cons, List.flatMap_cons, List.take_append, hf, List.take_of_length_le (by rw [hf, Nat.add_mul]; omega), show (i + 1) * m - m = i * m by rw [Nat.add_mul]; omega, flat_take hf l i]
theorem flat_drop {α : Type} {f : α → List Value} {m : Nat} (hf : ∀ x, (f x).length = m) : ∀ (l : List α) (i : Nat), (l.flatMap f).drop (i * m) = (l.drop i).flatMap f
 | [], i => by simp
 | a :: l, 0 => by simp
 | a :: l, i + 1 => by
  rw [List.flatMap_cons, List.drop_succ_cons, List.drop_append, hf, List.drop_of_length_le (by rw [hf, Nat.add_mul]; omega), List.nil_append, show (i + 1) * m - m = i * m by rw [Nat.add_mul]; omega, flat_drop hf l i]
theorem Rd.drop {w : World} {b off : Nat} {xs : List Value} (h : Rd w (some ⟨b, off, none⟩) xs) (i : Nat) : Rd w (some ⟨b, off + i, none⟩) (xs.drop i) := by
 intro hx; have hne : xs ≠ [] := fun e => hx (by rw [e]; simp)
 obtain ⟨b', off', e, hc⟩ := h hne; injection e with e; injection e with e1 e2; subst e1 e2; refine ⟨b, off + i, rfl, fun j hj => ?_⟩; have hj2 : i + j < xs.length := by simp at hj; omega
 rw [List.getElem_drop, Nat.add_assoc]; exact hc _ hj2
theorem ItTy.setP {it : IT} (h : ItTy it) (p : Int) : ItTy { it with p := p } := h
theorem ItTy.setS {it : IT} (h : ItTy it) (s : Int) : ItTy { it with r := { it.r with st := s } } := by
 obtain ⟨c3, c4, c5, d6, d7, d8, d9, d10, d11, d12, d13, d14, d15, d16, d17, d18, d19, d20, d21, h⟩ := h; refine ⟨c3, c4, c5, d6, d7, d8, d9, d10, d11, d12, d13, d14, d15, d16, d17, d18, d19, d20, d21, ?_⟩
 show ({ it.r with st := s } : RC0) = _
 rw [h]
theorem ty_set {X : List IT} (h : ∀ it ∈ X, ItTy it) {i : Nat} {y : IT} (hy : ItTy y) : ∀ it ∈ X.set i y, ItTy it := by
 intro it hit
 rcases List.mem_or_eq_of_mem_set hit with h1 | h1
 ·exact h it h1
 ·rw [h1]; exact hy
theorem ty_app {X Y : List IT} (h : ∀ it ∈ X, ItTy it) (h2 : ∀ it ∈ Y, ItTy it) : ∀ it ∈ X ++ Y, ItTy it := by
 intro it hit
 rcases List.mem_append.1 hit with h1 | h1
 ·exact h it h1
 ·exact h2 it h1
end Go.Proofs.Yticobffjnjbjiaa
namespace Go.Proofs.Yticobffjnjbjiaa
open Go Go.RowKit
/-- n numbers by a rule -/
def rowF (n : Nat) (f : Nat → Nat) : List Nat := (List.range n).map f
theorem rowF_len (n : Nat) (f : Nat → Nat) : (rowF n f).length = n := by simp [rowF]
theorem rowF_get {n : Nat} {f : Nat → Nat} {i : Nat} (h : i < n) : (rowF n f)[i]? = some (f i) := by simp [rowF, h]
theorem rowF_congr {n : Nat} {f g : Nat → Nat} (h : ∀ i, i < n → f i = g i) : rowF n f = rowF n g := by
 unfold rowF
 apply List.map_congr_left
 intro i hi; exact h i (List.mem_range.1 hi)
theorem rowF_set {n : Nat} {f : Nat → Nat} {p x : Nat} : (rowF n f).set p x = rowF n (fun j => if j = p then x else f j) := by
 apply List.ext_getElem?
 intro i; rw [List.getElem?_set]; simp only [rowF_len]; by_cases hp : p = i
 ·subst hp; rw [if_pos rfl]; by_cases hn : p < n
  ·rw [if_pos hn, rowF_get hn, if_pos rfl]
  ·rw [if_neg hn, List.getElem?_eq_none (by rw [rowF_len]; omega)]
 ·rw [if_neg hp]; by_cases hn : i < n
  ·rw [rowF_get hn, rowF_get hn, if_neg (fun e => hp e.symm)]
  ·rw [List.getElem?_eq_none (by rw [rowF_len]; omega), List.getElem?_eq_none (by rw [rowF_len]; omega)]
def cntP (X : List IT) (j : Nat) : Nat := X.countP (fun it => decide (it.p = (j : Int)))
def inR (n : Nat) (X : List IT) : Prop := ∀ it ∈ X, 0 ≤ it.p ∧ it.p < (n : Int)
theorem cntP_succ {X : List IT} {i : Nat} {it : IT} {p : Nat} (h : X[i]? = some it) (hp : it.p = (p : Int)) (j : Nat) : cntP (X.take (i + 1)) j = if j = p then cntP (X.take i) j + 1 else cntP (X.take i) j := by
 obtain ⟨hi, e⟩ := List.getElem?_eq_some_iff.1 h; unfold cntP; rw [List.take_succ_eq_append_getElem hi, List.countP_append, e]; by_cases hj : j = p
 ·subst hj; rw [if_pos rfl]; simp [hp]
 ·rw [if_neg hj]; have : ¬ it.p = (j : Int) := by rw [hp]; omega
  simp [this]
theorem inR_succ {n : Nat} {X : List IT} {i : Nat} {it : IT} (h : X[i]? = some it) (h1 : inR n (X.take i)) (h2 : 0 ≤ it.p ∧ it.p < (n : Int)) : inR n (X.take (i + 1)) := by
 obtain ⟨hi, e⟩ := List.getElem?_eq_some_iff.1 h; intro x hx; rw [List.take_succ_eq_append_getElem hi] at hx
 rcases List.mem_append.1 hx with hx | hx
 ·exact h1 x hx
 ·rw [List.mem_singleton.1 hx, e]; exact h2
theorem cntP_le (X : List IT) (j : Nat) : cntP X j ≤ X.length := List.countP_le_length
theorem make_int (k : Int) (n : Nat) (hk : k = n) (hn : n ≤ 17592186044416) (w : World) :
  (Instr.makeSlice 35 (.int .i64 k) (.int .i64 k)).run Try.prog w = .ok (.slice (some ⟨w.heap.size, 0, none⟩) n n) (w.alloc (.cells ((rowF n (fun _ => 0)).flatMap natC).toArray 3)) := by
 subst hk; obtain ⟨i0, hi, hz0, hz1, hz2⟩ := info_parts info_int; have h := run_make (P := Try.prog) w 35 3 i0 (.int .i64 0) Try.underlying35 hi hz0 .i64 .i64 n n (by omega) (by omega) (by rw [hz2]; omega) (by omega); rw [h]
 have e : madeCells (Value.int .i64 0).cells n = ((rowF n (fun _ => 0)).flatMap natC).toArray := by
  have hl : ((rowF n (fun _ => 0)).flatMap natC).length = n := by rw [flat_len natC_len, rowF_len, Nat.mul_one]
  apply Array.ext_getElem?
  intro i; by_cases hi : i < n
  ·have hf := flat_get natC_len (rowF n (fun _ => 0)) i 0 (by rw [rowF_len]; exact hi) (.int .i64 0) (by simp [rowF, natC]); rw [Nat.mul_one, Nat.add_zero] at hf; have e2 : ((rowF n (fun _ => 0)).flatMap natC).toArray[i]? = some (Value.int .i64 0) := by rw [List.getElem?_toArray]; exact hf
   rw [e2]; simp [madeCells, Value.cells, Nat.mod_one, hi]
  ·rw [Array.getElem?_eq_none (by simp [size_madeCells, Value.cells]; omega), Array.getElem?_eq_none (by rw [List.size_toArray, hl]; omega)]
 simp only [Int.toNat_natCast, hz1, Nat.mul_one, e]
theorem own_rowF {w : World} {base n c g : Nat} {f : Nat → Nat} (h : w.ownsRow base 3 1 (.slice (some ⟨g, 0, none⟩) n c) n ((rowF n f).flatMap natC)) {p : Nat} (hp : p < n) : w.cell? ⟨g, p, none⟩ = some (.int .i64 (f p : Nat)) ∧ w.frozen? ⟨g, p, none⟩ = false := by
 refine ⟨?_, World.ownsRow.frozenAt h p⟩; rw [World.ownsRow.cellAt h p (by omega)]; have hf := flat_get natC_len (rowF n f) p 0 (by rw [rowF_len]; exact hp) (.int .i64 (f p : Nat)) (by simp [rowF, natC]); rw [Nat.mul_one, Nat.add_zero] at hf; exact hf
theorem own_rowF_set {w : World} {base n c g : Nat} {f : Nat → Nat} (h : w.ownsRow base 3 1 (.slice (some ⟨g, 0, none⟩) n c) n ((rowF n f).flatMap natC)) {p : Nat} (hp : p < n) (x : Nat) : (w.setCell ⟨g, p, none⟩ (.int .i64 (x : Int))).ownsRow base 3 1 (.slice (some ⟨g, 0, none⟩) n c) n ((rowF n (fun j => if j = p then x else f j)).flatMap natC) := by
 have h2 := (World.ownsRow.stored h p (.int .i64 (x : Int))).1; have e := flat_set natC_len (rowF n f) p 0 (.int .i64 (x : Int)) (f p) x (rowF_get hp) (by omega) rfl; rw [Nat.mul_one, Nat.add_zero, rowF_set] at e
 rwa [e] at h2
def cntR (n : Nat) (X : List IT) : Bool := X.all (fun it => decide (0 ≤ it.p ∧ it.p < (n : Int)))
set_option maxRecDepth 100000 in
set_option maxHeartbeats 2000000 in
theorem count_n (w0 w : World) (Ao : Option Addr) (n co : Nat) (f : Nat → Nat) (M : Nat) (A : Option Addr) (k c : Nat) (X : List IT) (hX : RowS cellsI w0 A k X) (HT : Hid (∀ it ∈ X, ItTy it)) (hbw : Below w0.heap.size w0 w) (hown : w.ownsRow w0.heap.size 3 1 (.slice Ao n co) n ((rowF n f).flatMap natC)) (hM : Hid (∀ j, f j ≤ M)) (hMk : M + k ≤ 4611686018427387904) (hn : n ≤ 1048576) :
  Calls Try.prog 82 #[.slice Ao n co, .slice A k c] w fun e w' => e = .returned (.bool (cntR n X)) ∧ Below w0.heap.size w0 w' ∧ (cntR n X = true → w'.ownsRow w0.heap.size 3 1 (.slice Ao n co) n ((rowF n (fun j => f j + cntP X j)).flatMap natC)) := by
 have E1 := Lib.hid hX.2.1; have hsz := hbw.size; obtain ⟨cb, HCB⟩ : ∃ b, Hid (b = cntR n X) := ⟨_, rfl⟩; simp only [← HCB.out]
 go_enter Try.func82, Try.ntmps82
 go_wp2_with fail
 go_loopg [9] k (fun j x wr => ∃ (i : Nat) (f' : Nat → Nat), x = .int .i64 i ∧ i + j = k ∧ wr.ownsRow w0.heap.size 3 1 (.slice Ao n co) n ((rowF n f').flatMap natC) ∧ Hid (∀ m, f' m = f m + cntP (X.take i) m) ∧ Hid (inR n (X.take i)) ∧ Below w0.heap.size w0 wr)
 case atStart => exact ⟨0, f, rfl, by omega, hown, fun m => by simp [cntP], fun x hx => by simp at hx, hbw⟩
 case round =>
  obtain ⟨i, f', rfl, hij, hown, HF, HIR, hbe⟩ := hrel; have hsr := hbe.size; by_cases hi : i < k
  ·have hiX : i < X.length := by have := E1.out; omega
   have t1 : decide ((i : Int) < (k : Int)) = true := by simp; omega
   obtain ⟨b, off, rfl, HC⟩ := (hX.below hbe).at_ cellsI_len (by omega) hi hiX; have HX : Hid (X[i]? = some X[i]) := List.getElem?_eq_getElem hiX; have hty := HT.out _ (List.getElem_mem hiX); generalize X[i] = it at HC HX hty; have HONI : Hid (((cellsI it).toArray : Array Value).all (·.oneCell') = true) := all_oneCell_toArray hty.one; have li : (i : Int) < (k : Int) := by omega
   go_upto_region 4 with (first | (refine wpList_load_mid rfl 66 (.tmp 11) rfl b (off + i * 24) rfl (cellsI it) _ (fun j v h => HC.out j v h) Try.underlying66 rfl (infoIL (it := it)) ?_; simp only [Act.put, sA, sB, sC]) | (refine wpList_store_mid rfl 66 (.tmp 6) (.tmp 12) rfl wr.heap.size 0 (cellsI it).toArray rfl rfl (there_new _ _ _ 24 (by simp)) (infoI (it := it)) HONI.out ?_; rw [setCells_new]; rotate_left; rfl))
   refine wp_name ?_; intro W4 HW4; have hb4 : Below wr.heap.size wr W4 := by rw [HW4.out]; exact bA _ _
   have B6 : Blk W4 wr.heap.size 66 (cellsI it).toArray := by rw [HW4.out]; exact Blk.new _ _ _
   have q23 : W4.cell? ⟨wr.heap.size, 23, none⟩ = some (.int .i64 it.p) := by rw [B6.cell]; rfl
   have hown4 := own_below hown hb4; have hbe4 := hbe.trans (hb4.mono hsr); clear HW4 hown hb4 HC hty HONI B6; by_cases hbad : it.p < 0 ∨ (n : Int) ≤ it.p
   ·have HFB : Hid (false = cb) := by
     show _ = _
     rw [HCB.out]
     symm
     unfold cntR; rw [List.all_eq_false]; exact ⟨it, List.mem_of_getElem? HX.out, by simp; omega⟩
    rcases hbad with h | h
    ·have d1 : decide (it.p < 0) = true := by simp [h]
     go_wp2_with fail; go_ret; exact ⟨retBit HFB.out, hbe4, fun e => by rw [← HFB.out] at e; cases e⟩
    ·have d1 : decide (it.p < 0) = false := by simp; omega
     have d2 : decide (it.p ≥ (n : Int)) = true := by simp; omega
     go_wp2_with fail; go_ret; exact ⟨retBit HFB.out, hbe4, fun e => by rw [← HFB.out] at e; cases e⟩
   ·have hp0 : 0 ≤ it.p := by omega
    have hp1 : it.p < (n : Int) := by omega
    obtain ⟨p, hp⟩ : ∃ p : Nat, it.p = (p : Int) := ⟨it.p.toNat, by omega⟩; have HP := Lib.hid hp; rw [hp] at q23 hp0 hp1; have hpn : p < n := by omega
    have HIR2 : Hid (inR n (X.take (i + 1))) := inR_succ HX.out HIR.out (by rw [HP.out]; omega)
    have hfp : f' p ≤ M + k := by
     rw [HF.out p]; have h1 := hM.out p; have h2 := cntP_le (X.take i) p; rw [List.length_take] at h2; omega
    have HF2 : Hid (∀ m, (fun j => if j = p then f' p + 1 else f' j) m = f m + cntP (X.take (i + 1)) m) := by
     intro m
     show (if m = p then f' p + 1 else f' m) = _
     rw [cntP_succ HX.out HP.out m]; by_cases hm : m = p
     ·subst hm; rw [if_pos rfl, if_pos rfl, HF.out]; omega
     ·rw [if_neg hm, if_neg hm, HF.out]
    obtain ⟨g, rfl, hg⟩ : ∃ g, Ao = some ⟨g, 0, none⟩ ∧ w0.heap.size ≤ g := by
     rcases hown4.2 with ⟨_, h0⟩ | ⟨g, cap, cur, e, hb, _⟩
     ·omega
     ·injection e with e _ _; exact ⟨g, e, hb⟩
    obtain ⟨z1, z2⟩ := own_rowF hown4 hpn; have d1 : decide ((p : Int) < 0) = false := by simp
    have d2 : decide ((p : Int) ≥ (n : Int)) = false := by simp; omega
    have s1 : IntKind.i64.wrap ((f' p : Int) + 1) = ((f' p + 1 : Nat) : Int) := by rw [IntWalk.i64_in _ (by omega)]; omega
    have ho5 := own_rowF_set hown4 hpn (f' p + 1); have hb5 := hbe4.setCell (p := ⟨g, p, none⟩) hg (.int .i64 ((f' p + 1 : Nat) : Int)); have HO5 := Lib.hid ho5; clear hp hbad ho5 HP hown4; go_wp2_with fail
    go_roundg (gk - 1)
    case measure => omega
    case rel => exact ⟨i + 1, _, by go_num, by omega, HO5.out, HF2, HIR2, hb5⟩
  ·obtain rfl : k = i := by omega
   have t1 : decide ((k : Int) < (k : Int)) = false := by simp
   have HFB : Hid (true = cb) := by
    show _ = _
    rw [HCB.out]
    symm
    unfold cntR; rw [List.all_eq_true]; intro it hit; have h := HIR.out it (by rw [List.take_of_length_le (by rw [← E1.out]; omega)]; exact hit)
    simpa using h
   have ho : wr.ownsRow w0.heap.size 3 1 (.slice Ao n co) n ((rowF n (fun j => f j + cntP X j)).flatMap natC) := by
    have e : rowF n f' = rowF n (fun j => f j + cntP X j) := rowF_congr (fun j _ => by rw [HF.out, List.take_of_length_le (by rw [← E1.out]; omega)])
    rwa [e] at hown
   have HO := Lib.hid ho; clear ho hown; go_wp2_with fail; go_ret; exact ⟨retBit HFB.out, hbe, fun _ => HO.out⟩
def lnC (y : Ln) : List Value := [.slice y.A1 y.k1 y.c1, .slice y.A2 y.k2 y.c2]
theorem lnC_len (y : Ln) : (lnC y).length = 2 := rfl
def allP (l : List Ln) : List IT := l.flatMap (·.P)
theorem allP_succ {l : List Ln} {i : Nat} {y : Ln} (h : l[i]? = some y) : allP (l.take (i + 1)) = allP (l.take i) ++ y.P := by
 obtain ⟨hi, e⟩ := List.getElem?_eq_some_iff.1 h; unfold allP; rw [List.take_succ_eq_append_getElem hi, List.flatMap_append, e]; simp
theorem allP_take {l : List Ln} (i : Nat) : (allP (l.take i)).length ≤ (allP l).length := by
 have h : allP l = allP (l.take i) ++ allP (l.drop i) := by unfold allP; rw [← List.flatMap_append, List.take_append_drop]
 rw [h, List.length_append]; omega
theorem cntP_app (X Y : List IT) (j : Nat) : cntP (X ++ Y) j = cntP X j + cntP Y j := by unfold cntP; rw [List.countP_append]
theorem cntR_app (n : Nat) (X Y : List IT) : cntR n (X ++ Y) = (cntR n X && cntR n Y) := by unfold cntR; rw [List.all_append]
theorem cntR_bad {l : List Ln} {n i : Nat} {y : Ln} (h : l[i]? = some y) (hb : cntR n y.P = false) : cntR n (allP l) = false := by
 have hi := (List.getElem?_eq_some_iff.1 h).1; have h2 : allP l = allP (l.take (i + 1)) ++ allP (l.drop (i + 1)) := by unfold allP; rw [← List.flatMap_append, List.take_append_drop]
 rw [h2, cntR_app, allP_succ h, cntR_app, hb]; simp
/-- what Debt returns -/
def DebP (w' : World) (base n : Nat) (X : List IT) (v : Value) (er : Int) : Prop :=
 (cntR n X = true ∧ er = 0 ∧ ∃ A c, v = .slice A n c ∧ w'.ownsRow base 3 1 v n ((rowF n (cntP X)).flatMap natC)) ∨ (cntR n X = false ∧ er = 5 ∧ v = .slice none 0 0)
theorem own_zero (w : World) (n : Nat) (hn : n ≤ 1048576) : (w.alloc (.cells ((rowF n (fun _ => 0)).flatMap natC).toArray 3)).ownsRow w.heap.size 3 1 (.slice (some ⟨w.heap.size, 0, none⟩) n n) n ((rowF n (cntP (allP []))).flatMap natC) := by
 have hl : ((rowF n (fun _ => 0)).flatMap natC).length = n * 1 := by rw [flat_len natC_len, rowF_len]
 have h := World.ownsRow_lit (base := w.heap.size) (e := 3) (size := 1) w ((rowF n (fun _ => 0)).flatMap natC).toArray n (Nat.le_refl _) (by unfold maxLen; omega) (by rw [List.size_toArray, hl]); have e : rowF n (cntP (allP [])) = rowF n (fun _ => 0) := rowF_congr (fun _ _ => by simp [cntP, allP]); rw [e]
 simpa using h
set_option maxRecDepth 100000 in
set_option maxHeartbeats 2000000 in
theorem debt_n (Al : Option Addr) (kl cl : Nat) (A : Option Addr) (k c : Nat) (Ls : List Ln) (w : World) (hkl : kl ≤ 1048576) (hL : RowS lnC w A k Ls) (HOK : Hid (∀ y ∈ Ls, y.Ok w)) (HS : Hid ((allP Ls).length ≤ 1099511627776)) :
  Calls Try.prog 38 #[.slice Al kl cl, .slice A k c] w fun e w' => ∃ v, ∃ er : Int, e = .returned (.tuple #[v, .int .i64 er]) ∧ Hid (DebP w' w.heap.size kl (allP Ls) v er) ∧ Below w.heap.size w w' := by
 have E1 := Lib.hid hL.2.1; have hkb : k ≤ 281474976710656 := hL.2.2; have hmk := make_int (kl : Int) kl rfl (by omega) w; have ho := own_zero w kl hkl; have hb0 := bA w (.cells ((rowF kl (fun _ => 0)).flatMap natC).toArray 3); obtain ⟨W0, HW0⟩ : ∃ W, Hid (W = w.alloc (.cells ((rowF kl (fun _ => 0)).flatMap natC).toArray 3)) := ⟨_, rfl⟩; rw [← HW0.out] at hmk ho hb0; have HO := Lib.hid ho; clear ho
 go_enter Try.func38, Try.ntmps38
 go_wp2_with fail
 go_loopg [14] k (fun j x wr => ∃ i : Nat, x = .int .i64 i ∧ i + j = k ∧ wr.ownsRow w.heap.size 3 1 (.slice (some ⟨w.heap.size, 0, none⟩) kl kl) kl ((rowF kl (cntP (allP (Ls.take i)))).flatMap natC) ∧ Hid (cntR kl (allP (Ls.take i)) = true) ∧ Below w.heap.size w wr)
 case atStart => exact ⟨0, rfl, by omega, HO.out, rfl, hb0⟩
 case round =>
  obtain ⟨i, rfl, hij, hown, HR, hbe⟩ := hrel; clear hmk HO hb0 HW0; have hsr := hbe.size; by_cases hi : i < k
  ·have hiL : i < Ls.length := by have := E1.out; omega
   have t1 : decide ((i : Int) < (k : Int)) = true := by simp; omega
   have li : (i : Int) < (k : Int) := by omega
   obtain ⟨b, off, rfl, HC⟩ := (hL.below hbe).at_ lnC_len (by omega) hi hiL; have HY : Hid (Ls[i]? = some Ls[i]) := List.getElem?_eq_getElem hiL; have hyo := HOK.out _ (List.getElem_mem hiL); generalize Ls[i] = y at HC HY hyo; have q0 : wr.cell? ⟨b, off + i * 2, none⟩ = some (.slice y.A1 y.k1 y.c1) := HC.out 0 _ rfl; have q1 : wr.cell? ⟨b, off + i * 2 + 1, none⟩ = some (.slice y.A2 y.k2 y.c2) := HC.out 1 _ rfl; have hk1 := hyo.1.2.2; have hk0 := Lib.hid hyo.1.2.1; clear HC; go_upto_region 5 with fail; refine wp_name ?_; intro W4 HW4; have hb4 : Below wr.heap.size wr W4 := by rw [HW4.out]; exact bA _ _
   have B8 : Blk W4 wr.heap.size 58 #[.slice y.A1 y.k1 y.c1, .slice y.A2 y.k2 y.c2] := by rw [HW4.out]; exact Blk.new _ _ _
   have z0 := B8.cell 0; simp only [List.getElem?_toArray, List.getElem?_cons_zero] at z0; have hown4 := own_below hown hb4; have hbe4 := hbe.trans (hb4.mono hsr); have HM : Hid (∀ j, cntP (allP (Ls.take i)) j ≤ 1099511627776) := fun j => Nat.le_trans (cntP_le _ _) (Nat.le_trans (allP_take i) HS.out)
   clear HW4 hown hb4 B8 q0 q1; go_wp2_with fail; refine (count_n w W4 (some ⟨w.heap.size, 0, none⟩) kl kl (cntP (allP (Ls.take i))) 1099511627776 y.A1 y.k1 y.c1 y.P hyo.1 hyo.2.2.1 hbe4 hown4 HM (by omega) hkl).mono ?_; rintro e w5 ⟨rfl, hb5, ho5⟩; have HO5 := Lib.hid ho5; clear ho5 z0
   cases hc : cntR kl y.P
   ·have HF : Hid (DebP w5 w.heap.size kl (allP Ls) (.slice none 0 0) 5) := .inr ⟨cntR_bad HY.out hc, rfl, rfl⟩; clear HO5; go_wp2_with fail
    go_ret2
    exact ⟨_, _, rfl, HF, hb5⟩
   ·have HR2 : Hid (cntR kl (allP (Ls.take (i + 1))) = true) := by show _ = _; rw [allP_succ HY.out, cntR_app, HR.out, hc]; rfl
    have ho6 := HO5.out hc; have e6 : rowF kl (fun j => cntP (allP (Ls.take i)) j + cntP y.P j) = rowF kl (cntP (allP (Ls.take (i + 1)))) := rowF_congr (fun j _ => by rw [allP_succ HY.out, cntP_app]); rw [e6] at ho6; have HO6 := Lib.hid ho6; clear ho6 HO5 hown4 hyo; go_wp2_with fail
    go_roundg (gk - 1)
    case measure => omega
    case rel => exact ⟨i + 1, by go_num, by omega, HO6.out, HR2, hb5⟩
  ·obtain rfl : k = i := by omega
   have t1 : decide ((k : Int) < (k : Int)) = false := by simp
   have HF : Hid (DebP wr w.heap.size kl (allP Ls) (.slice (some ⟨w.heap.size, 0, none⟩) kl kl) 0) := by
    have hR := HR.out; rw [List.take_of_length_le (by rw [← E1.out]; omega)] at hR hown; exact .inl ⟨hR, rfl, _, _, rfl, hown⟩
   clear hown; go_wp2_with fail
   go_ret2
   exact ⟨_, _, rfl, HF, hbe⟩
set_option maxRecDepth 100000 in
set_option maxHeartbeats 4000000 in
theorem rdebt_n (Al : Option Addr) (kl cl : Nat) (A : Option Addr) (k c : Nat) (Ls : List Ln) (w : World) (hkl : kl ≤ 1048576) (hL : RowS lnC w A k Ls) (HOK : Hid (∀ y ∈ Ls, y.Ok w)) (HS : Hid ((allP Ls).length ≤ 1099511627776)) :
  Calls Try.prog 39 #[.slice Al kl cl, .slice A k c] w fun e w' => ∃ v, ∃ er : Int, e = .returned (.tuple #[v, .int .i64 er]) ∧ Hid (DebP w' w.heap.size kl (allP Ls) v er) ∧ Below w.heap.size w w' := by
 have E1 := Lib.hid hL.2.1; have hkb : k ≤ 281474976710656 := hL.2.2; have hmk := make_int (kl : Int) kl rfl (by omega) w; have ho := own_zero w kl hkl; have hb0 := bA w (.cells ((rowF kl (fun _ => 0)).flatMap natC).toArray 3); obtain ⟨W0, HW0⟩ : ∃ W, Hid (W = w.alloc (.cells ((rowF kl (fun _ => 0)).flatMap natC).toArray 3)) := ⟨_, rfl⟩; rw [← HW0.out] at hmk ho hb0; have HO := Lib.hid ho; clear ho
 go_enter Try.func39, Try.ntmps39
 go_wp2_with fail
 go_loopg [7] k (fun j x wr => ∃ i : Nat, x = .int .i64 i ∧ i + j = k ∧ wr.ownsRow w.heap.size 3 1 (.slice (some ⟨w.heap.size, 0, none⟩) kl kl) kl ((rowF kl (cntP (allP (Ls.take i)))).flatMap natC) ∧ Hid (cntR kl (allP (Ls.take i)) = true) ∧ Below w.heap.size w wr)
 case atStart => exact ⟨0, rfl, by omega, HO.out, rfl, hb0⟩
 case round =>
  obtain ⟨G, hG⟩ : ∃ G, G = gk := ⟨gk, rfl⟩; subst hG; obtain ⟨i, rfl, hij, hown, HR, hbe⟩ := hrel; clear hmk HO hb0 HW0; by_cases hi : i < k
  ·have hiL : i < Ls.length := by have := E1.out; omega
   have t1 : decide ((i : Int) < (k : Int)) = true := by simp; omega
   have li : (i : Int) < (k : Int) := by omega
   obtain ⟨b, off, rfl, HC⟩ := hL.at_ lnC_len (by omega) hi hiL; have HY : Hid (Ls[i]? = some Ls[i]) := List.getElem?_eq_getElem hiL; have hyo := HOK.out _ (List.getElem_mem hiL); generalize Ls[i] = y at HC HY hyo; have HQ : Hid (w.cell? ⟨b, off + i * 2, none⟩ = some (.slice y.A1 y.k1 y.c1)) := HC.out 0 _ rfl; have hk1 := hyo.1.2.2; have hk0 := Lib.hid hyo.1.2.1; have HXP := Lib.hid hyo.1; clear HC hyo; go_wp2_with fail
   go_loopg [8] y.k1 (fun j x wx => ∃ (m : Nat) (f' : Nat → Nat), x = .int .i64 m ∧ m + j = y.k1 ∧ wx.ownsRow w.heap.size 3 1 (.slice (some ⟨w.heap.size, 0, none⟩) kl kl) kl ((rowF kl f').flatMap natC) ∧ Hid (∀ j, f' j = cntP (allP (Ls.take i)) j + cntP (y.P.take m) j) ∧ Hid (inR kl (y.P.take m)) ∧ Below w.heap.size w wx)
   case atStart => exact ⟨0, _, rfl, by omega, hown, fun j => by simp [cntP], fun x hx => by simp at hx, hbe⟩
   case round =>
    obtain ⟨m, f', rfl, hmj, hown, HF, HIR, hbe⟩ := hrel; have q0 := cell_keep hbe HQ.out; by_cases hm : m < y.k1
    ·have hmX : m < y.P.length := by have := hk0.out; omega
     have t2 : decide ((m : Int) < (y.k1 : Int)) = true := by simp; omega
     have lm : (m : Int) < (y.k1 : Int) := by omega
     obtain ⟨b2, off2, hA1, HC⟩ := (HXP.out.below hbe).at_ cellsI_len (by omega) hm hmX; have HX : Hid (y.P[m]? = some y.P[m]) := List.getElem?_eq_getElem hmX; generalize y.P[m] = it at HC HX; have q23 : wr.cell? ⟨b2, off2 + m * 24 + 23, none⟩ = some (.int .i64 it.p) := HC.out 23 _ rfl; rw [hA1] at q0; clear HC; by_cases hbad : it.p < 0 ∨ (kl : Int) ≤ it.p
     ·have HFB : Hid (DebP wr w.heap.size kl (allP Ls) (.slice none 0 0) 5) := by
       refine .inr ⟨cntR_bad HY.out ?_, rfl, rfl⟩; unfold cntR; rw [List.all_eq_false]; exact ⟨it, List.mem_of_getElem? HX.out, by simp; omega⟩
      rcases hbad with h | h
      ·have d1 : decide (it.p < 0) = true := by simp [h]
       go_wp2_with fail
       go_ret2
       exact ⟨_, _, rfl, HFB, hbe⟩
      ·have d1 : decide (it.p < 0) = false := by simp; omega
       have d2 : decide (it.p ≥ (kl : Int)) = true := by simp; omega
       go_wp2_with fail
       go_ret2
       exact ⟨_, _, rfl, HFB, hbe⟩
     ·obtain ⟨p, hp⟩ : ∃ p : Nat, it.p = (p : Int) := ⟨it.p.toNat, by omega⟩; have HP := Lib.hid hp; have hpn : p < kl := by omega
      rw [hp] at q23; have lp : (p : Int) < (kl : Int) := by omega
      have HIR2 : Hid (inR kl (y.P.take (m + 1))) := inR_succ HX.out HIR.out (by rw [HP.out]; omega)
      have hfp : f' p ≤ 1099511627776 + 281474976710656 := by
       rw [HF.out p]; have h1 := Nat.le_trans (cntP_le (allP (Ls.take i)) p) (Nat.le_trans (allP_take i) HS.out); have h2 := cntP_le (y.P.take m) p; rw [List.length_take] at h2; omega
      have HF2 : Hid (∀ j, (fun j => if j = p then f' p + 1 else f' j) j = cntP (allP (Ls.take i)) j + cntP (y.P.take (m + 1)) j) := by
       intro j
       show (if j = p then f' p + 1 else f' j) = _
       rw [cntP_succ HX.out HP.out j]; by_cases hj : j = p
       ·subst hj; rw [if_pos rfl, if_pos rfl, HF.out]; omega
       ·rw [if_neg hj, if_neg hj, HF.out]
      obtain ⟨z1, z2⟩ := own_rowF hown hpn; have d1 : decide ((p : Int) < 0) = false := by simp
      have d2 : decide ((p : Int) ≥ (kl : Int)) = false := by simp; omega
      have s1 : IntKind.i64.wrap ((f' p : Int) + 1) = ((f' p + 1 : Nat) : Int) := by rw [IntWalk.i64_in _ (by omega)]; omega
      have HO5 := Lib.hid (own_rowF_set hown hpn (f' p + 1)); have hb5 := hbe.setCell (p := ⟨w.heap.size, p, none⟩) (Nat.le_refl _) (.int .i64 ((f' p + 1 : Nat) : Int)); clear hp hbad HP hown hA1; go_wp2_with fail
      go_roundg (gk - 1)
      case measure => omega
      case rel => exact ⟨m + 1, _, by go_num, by omega, HO5.out, HF2, HIR2, hb5⟩
    ·have hme : m = y.k1 := by omega
     have t2 : decide ((m : Int) < (y.k1 : Int)) = false := by simp; omega
     have lm : ¬ ((m : Int) < (y.k1 : Int)) := by omega
     have eP : y.P.take m = y.P := List.take_of_length_le (by rw [← hk0.out]; omega)
     have HR2 : Hid (cntR kl (allP (Ls.take (i + 1))) = true) := by
      show _ = _
      rw [allP_succ HY.out, cntR_app, HR.out, Bool.true_and]; unfold cntR; rw [List.all_eq_true]; intro it hit; have h := HIR.out it (by rw [eP]; exact hit)
      simpa using h
     have e6 : rowF kl f' = rowF kl (cntP (allP (Ls.take (i + 1)))) := rowF_congr (fun j _ => by rw [HF.out, eP, allP_succ HY.out, cntP_app]); rw [e6] at hown; have HO6 := Lib.hid hown; clear hown eP e6; go_wp2_with fail
     go_roundg (G - 1)
     case measure => omega
     case rel =>
      refine ⟨i + 1, by go_num, ?_, HO6.out, HR2, hbe⟩; omega
  ·obtain rfl : k = i := by omega
   have t1 : decide ((k : Int) < (k : Int)) = false := by simp
   have HF : Hid (DebP wr w.heap.size kl (allP Ls) (.slice (some ⟨w.heap.size, 0, none⟩) kl kl) 0) := by
    have hR := HR.out; rw [List.take_of_length_le (by rw [← E1.out]; omega)] at hR hown; exact .inl ⟨hR, rfl, _, _, rfl, hown⟩
   clear hown; go_wp2_with fail
   go_ret2
   exact ⟨_, _, rfl, HF, hbe⟩
end Go.Proofs.Yticobffjnjbjiaa
namespace Go.Proofs.Yticobffjnjbjiaa
open Go Go.RowKit
theorem wordB_big {s : ByteArray} (h : 16 < s.size) : wordB s = false := by
 unfold wordB; rw [decide_eq_false_iff_not]; rintro ⟨_, h2, _⟩; omega
theorem wordB_none {s : ByteArray} (h : s.size = 0) : wordB s = false := by
 unfold wordB; rw [decide_eq_false_iff_not]; rintro ⟨h1, _⟩; exact h1 h
set_option maxRecDepth 10000 in
set_option maxHeartbeats 2000000 in
theorem isword_n (s : ByteArray) (w : World) (hs : s.size ≤ 9223372036854775807) :
  Calls Try.prog 107 #[.string s] w fun e w' => e = .returned (.bool (wordB s)) ∧ w = w' := by
 obtain ⟨bb, HBB⟩ : ∃ b, Hid (b = wordB s) := ⟨_, rfl⟩; rw [← HBB.out]; by_cases h0 : s.size = 0
 ·have HF : Hid (false = bb) := by show _ = _; rw [HBB.out, wordB_none h0]
  have d1 : decide ((s.size : Int) < 1) = true := by simp; omega
  go_enter Try.func107, Try.ntmps107
  go_wp2_with fail; go_ret; exact ⟨retB HF.out, rfl⟩
 ·have d1 : decide ((s.size : Int) < 1) = false := by simp; omega
  by_cases h16 : 16 < s.size
  ·have HF : Hid (false = bb) := by show _ = _; rw [HBB.out, wordB_big h16]
   have d2 : decide ((s.size : Int) > 16) = true := by simp; omega
   go_enter Try.func107, Try.ntmps107
   go_wp2_with fail; go_ret; exact ⟨retB HF.out, rfl⟩
  ·have d2 : decide ((s.size : Int) > 16) = false := by simp; omega
   have hsz : s.size ≤ 16 := by omega
   go_enter Try.func107, Try.ntmps107
   go_wp2_with fail
   go_loopg [3] s.size (fun j x wr => ∃ k : Nat, x = .int .i64 k ∧ k + j = s.size ∧ Hid (∀ (j : Nat) (h : j < s.size), j < k → okN j (s[j].toNat : Int) = true) ∧ wr = w)
   case atStart => exact ⟨0, rfl, by omega, (fun j _ h => by omega), rfl⟩
   case round =>
    obtain ⟨k, rfl, hk, HP, rfl⟩ := hrel; by_cases hlt : k < s.size
    ·have t1 : decide ((k : Int) < (s.size : Int)) = true := by simp; omega
     obtain ⟨n, HN⟩ : ∃ n : Nat, Hid (n = s[k].toNat) := ⟨s[k].toNat, rfl⟩; have hnn : s[k].toNat = n := HN.out.symm
     have HB : Hid (okN k (n : Int) = false → false = bb) := by
      intro h; rw [HBB.out]; unfold wordB
      symm
      rw [decide_eq_false_iff_not]; rintro ⟨_, _, h3⟩; have := h3 k hlt; rw [← HN.out, h] at this; cases this
     have HP2 : Hid (okN k (n : Int) = true → ∀ (j : Nat) (h : j < s.size), j < k + 1 → okN j (s[j].toNat : Int) = true) := by
      intro h j hj hjk
      rcases Nat.lt_or_ge j k with h1 | h1
      ·exact HP.out j hj h1
      ·obtain rfl : j = k := by omega
       rw [← HN.out]; exact h
     have hr : n < 48 ∨ (48 ≤ n ∧ n ≤ 57) ∨ (58 ≤ n ∧ n ≤ 96) ∨ (97 ≤ n ∧ n ≤ 122) ∨ 123 ≤ n := by omega
     clear d1 d2; by_cases hk0 : k = 0
     ·subst hk0
      rcases hr with hr | hr | hr | hr | hr
      ·have d1 : decide ((n : Int) ≥ 97) = false := by simp; omega
       have d3 : decide ((n : Int) ≥ 48) = false := by simp; omega
       have HK : Hid (false = bb) := HB.out (by unfold okN; rw [decide_eq_false_iff_not]; omega); go_wp2_with fail; go_ret; exact ⟨retB HK.out, rfl⟩
      ·have d1 : decide ((n : Int) ≥ 97) = false := by simp; omega
       have d3 : decide ((n : Int) ≥ 48) = true := by simp; omega
       have d4 : decide ((n : Int) ≤ 57) = true := by simp; omega
       have HK : Hid (false = bb) := HB.out (by unfold okN; rw [decide_eq_false_iff_not]; omega); go_wp2_with fail; go_ret; exact ⟨retB HK.out, rfl⟩
      ·have d1 : decide ((n : Int) ≥ 97) = false := by simp; omega
       have d3 : decide ((n : Int) ≥ 48) = true := by simp; omega
       have d4 : decide ((n : Int) ≤ 57) = false := by simp; omega
       have HK : Hid (false = bb) := HB.out (by unfold okN; rw [decide_eq_false_iff_not]; omega); go_wp2_with fail; go_ret; exact ⟨retB HK.out, rfl⟩
      ·have d1 : decide ((n : Int) ≥ 97) = true := by simp; omega
       have d2 : decide ((n : Int) ≤ 122) = true := by simp; omega
       have d3 : decide ((n : Int) ≥ 48) = true := by simp; omega
       have d4 : decide ((n : Int) ≤ 57) = false := by simp; omega
       have HK : Hid (∀ (j : Nat) (h : j < s.size), j < 0 + 1 → okN j (s[j].toNat : Int) = true) := HP2.out (by unfold okN; rw [decide_eq_true_iff]; omega); go_wp2_with fail
       go_roundg (gk - 1)
       case measure => omega
       case rel => exact ⟨0 + 1, by go_num, by omega, HK, rfl⟩
      ·have d1 : decide ((n : Int) ≥ 97) = true := by simp; omega
       have d2 : decide ((n : Int) ≤ 122) = false := by simp; omega
       have d3 : decide ((n : Int) ≥ 48) = true := by simp; omega
       have d4 : decide ((n : Int) ≤ 57) = false := by simp; omega
       have HK : Hid (false = bb) := HB.out (by unfold okN; rw [decide_eq_false_iff_not]; omega); go_wp2_with fail; go_ret; exact ⟨retB HK.out, rfl⟩
     ·have z0 : ((k : Int) == 0) = false := by simp; omega
      rcases hr with hr | hr | hr | hr | hr
      ·have d1 : decide ((n : Int) ≥ 97) = false := by simp; omega
       have d3 : decide ((n : Int) ≥ 48) = false := by simp; omega
       have HK : Hid (false = bb) := HB.out (by unfold okN; rw [decide_eq_false_iff_not]; omega); go_wp2_with fail; go_ret; exact ⟨retB HK.out, rfl⟩
      ·have d1 : decide ((n : Int) ≥ 97) = false := by simp; omega
       have d3 : decide ((n : Int) ≥ 48) = true := by simp; omega
       have d4 : decide ((n : Int) ≤ 57) = true := by simp; omega
       have HK : Hid (∀ (j : Nat) (h : j < s.size), j < k + 1 → okN j (s[j].toNat : Int) = true) := HP2.out (by unfold okN; rw [decide_eq_true_iff]; omega); go_wp2_with fail
       go_roundg (gk - 1)
       case measure => omega
       case rel => exact ⟨k + 1, by go_num, by omega, HK, rfl⟩
      ·have d1 : decide ((n : Int) ≥ 97) = false := by simp; omega
       have d3 : decide ((n : Int) ≥ 48) = true := by simp; omega
       have d4 : decide ((n : Int) ≤ 57) = false := by simp; omega
       have HK : Hid (false = bb) := HB.out (by unfold okN; rw [decide_eq_false_iff_not]; omega); go_wp2_with fail; go_ret; exact ⟨retB HK.out, rfl⟩
      ·have d1 : decide ((n : Int) ≥ 97) = true := by simp; omega
       have d2 : decide ((n : Int) ≤ 122) = true := by simp; omega
       have d3 : decide ((n : Int) ≥ 48) = true := by simp; omega
       have d4 : decide ((n : Int) ≤ 57) = false := by simp; omega
       have HK : Hid (∀ (j : Nat) (h : j < s.size), j < k + 1 → okN j (s[j].toNat : Int) = true) := HP2.out (by unfold okN; rw [decide_eq_true_iff]; omega); go_wp2_with fail
       go_roundg (gk - 1)
       case measure => omega
       case rel => exact ⟨k + 1, by go_num, by omega, HK, rfl⟩
      ·have d1 : decide ((n : Int) ≥ 97) = true := by simp; omega
       have d2 : decide ((n : Int) ≤ 122) = false := by simp; omega
       have d3 : decide ((n : Int) ≥ 48) = true := by simp; omega
       have d4 : decide ((n : Int) ≤ 57) = false := by simp; omega
       have HK : Hid (false = bb) := HB.out (by unfold okN; rw [decide_eq_false_iff_not]; omega); go_wp2_with fail; go_ret; exact ⟨retB HK.out, rfl⟩
    ·obtain rfl : k = s.size := by omega
     have t1 : decide ((s.size : Int) < (s.size : Int)) = false := by simp
     have HF : Hid (true = bb) := by
      show _ = _
      rw [HBB.out]
      symm
      unfold wordB; rw [decide_eq_true_iff]; exact ⟨h0, hsz, fun i hi => HP.out i hi hi⟩
     go_wp2_with fail; go_ret; exact ⟨retB HF.out, rfl⟩
theorem pBad_iff {a b : Nat} {p : PC} (bt bw emp : Bool) (h1 : bt = wordB p.test) (h2 : bw = wordB p.wh) (h3 : emp = p.wh.toList.isEmpty) (hw0 : p.wh.toList.isEmpty = true → wordB p.wh = false) :
  pBad a b p ↔ ((p.team < 0 ∨ 3 < p.team ∨ bt = false ∨ ¬ (bw = true ∨ (emp = true ∧ p.site = 0)) ∨ p.site < 0 ∨ 511 < p.site ∨ b < a) ∨ (p.fr < 0 ∨ p.un ≤ p.fr ∨ 1048576 < p.un)) := by
 subst h1 h2 h3; unfold pBad
 cases h4 : p.wh.toList.isEmpty
 ·cases h5 : wordB p.wh <;> cases h7 : wordB p.test <;> simp <;> omega
 ·have h6 := hw0 h4; rw [h6]
  cases h7 : wordB p.test <;> simp <;> omega
set_option maxRecDepth 100000 in
set_option maxHeartbeats 4000000 in
theorem rpval_n (p : PC) (L1 L2 : List Nat) (w : World) (hr : RtL w (.agg #[p.b1, p.b2]) L1 L2) (hs1 : p.test.size ≤ 9223372036854775807) (hs2 : p.wh.size ≤ 9223372036854775807) :
  Calls Try.prog 85 #[.agg (cellsP p).toArray] w fun e w' => ∃ er, e = .returned (.int .i64 er) ∧ Hid (PVal p L1 L2 er) ∧ Below w.heap.size w w' := by
 obtain ⟨A1, k1, c1, A2, k2, c2, hsh⟩ := hr.shape; simp only [Value.agg.injEq, Array.mk.injEq, List.cons.injEq, and_true] at hsh; obtain ⟨team, test, wh, site, b1, b2, fr, un, r0, r1, r2, r3, r4, r5, r6, r7, r8, r9, r10, r11, r12, r13, r14, r15⟩ := p; obtain ⟨rfl, rfl⟩ := hsh; simp only [cellsP] at *; obtain ⟨W, HW⟩ : ∃ W, Hid (W = w.alloc (.cells #[.int .i64 team, .string test, .string wh, .int .i64 site, .slice A1 k1 c1, .slice A2 k2 c2, .int .i64 fr, .int .i64 un, r0, r1, r2, r3, r4, r5, r6, r7, r8, r9, r10, r11, r12, r13, r14, r15] 53)) := ⟨_, rfl⟩; have hbw : Below w.heap.size w W := by rw [HW.out]; exact bA _ _
 have hB : Blk W w.heap.size 53 #[.int .i64 team, .string test, .string wh, .int .i64 site, .slice A1 k1 c1, .slice A2 k2 c2, .int .i64 fr, .int .i64 un, r0, r1, r2, r3, r4, r5, r6, r7, r8, r9, r10, r11, r12, r13, r14, r15] := by rw [HW.out]; exact Blk.new _ _ _
 have hr1 := hr.below hbw; obtain ⟨bt, HBT⟩ : ∃ b, Hid (b = wordB test) := ⟨wordB test, rfl⟩; obtain ⟨bw, HBW⟩ : ∃ b, Hid (b = wordB wh) := ⟨wordB wh, rfl⟩; obtain ⟨emp, HEMP⟩ : ∃ b, Hid (b = wh.toList.isEmpty) := ⟨_, rfl⟩; have hwt : ∀ w, Calls Try.prog 107 #[.string test] w fun e w' => e = .returned (.bool bt) ∧ w = w' := fun w => by rw [HBT.out]; exact isword_n test w hs1
 have hww : ∀ w, Calls Try.prog 107 #[.string wh] w fun e w' => e = .returned (.bool bw) ∧ w = w' := fun w => by rw [HBW.out]; exact isword_n wh w hs2
 have hw0 : wh.toList.isEmpty = true → wordB wh = false := by
  intro h; refine wordB_none ?_; rw [ByteArray.toList_eq] at h; have : wh.data.toList = [] := by simpa using h
  show wh.data.size = 0
  rw [← Array.length_toList, this]; rfl
 have HW0 := Lib.hid hw0; clear hw0
 go_enter Try.func85, Try.ntmps85
 go_wp2_with fail; rw [← HW.out]; refine (rvalid_v hr1).mono ?_; rintro e W2 ⟨E, rfl, HE, hb2⟩; have hB2 := Blk.below hB hb2 hB.lt; have hbw2 := Below.tr hbw hb2; by_cases hE : E = 0
 ·have h0 : (E != 0) = false := by rw [hE]; rfl
  have HV0 : Nm.validE L1 L2 = 0 := by rw [← HE.out]; exact hE
  obtain ⟨a, b, rfl, rfl, ga⟩ := Nm.validE_spec hr.limb.1 hr.limb.2 HV0; have hra := (hr.below hbw2).rat; clear hE HV0; go_wp2_with fail; refine (rof_n 1 1 _ (by omega) (by omega) (by omega)).mono ?_; rintro e W3 ⟨v, er, rfl, hR, hb3⟩; obtain ⟨rfl, hR1, gone⟩ := hR.small (by omega) (b64 (by omega)) (b64 (by omega)); rw [Nat.gcd_self, Nat.div_self (by omega)] at hR1 gone; obtain ⟨D1, m1, o1, D2, m2, o2, rfl⟩ := hR1.shape; go_upto_region 5 with fail; refine wp_name ?_; intro W4 HW4; have hbA : Below W3.heap.size W3 W4 := by rw [HW4.out]; exact bA _ _
  have B4 : Blk W4 W3.heap.size 24 #[.slice D1 m1 o1, .slice D2 m2 o2] := by rw [HW4.out]; exact Blk.new _ _ _
  have hB4 := Blk.below (Blk.below hB2 hb3 hB2.lt) hbA (Nat.lt_of_lt_of_le hB2.lt hb3.size); have hbw4 := Below.tr (Below.tr hbw2 hb3) hbA; have hRA := hra.below (Below.tr hb3 hbA); have hRB := hR1.below hbA; clear hR hb3 hR1 hra HW4 hbA hb2 hB2 hbw2 hr hr1 hB hbw; generalize W3.heap.size = g4 at B4; have q0 := hB4.cell 0; have q1 := hB4.cell 1; have q2 := hB4.cell 2; have q3 := hB4.cell 3; have q4 := hB4.cell 4; have q5 := hB4.cell 5; have z0 := B4.cell 0; have z1 := B4.cell 1; simp only [List.getElem?_toArray, List.getElem?_cons_zero, List.getElem?_cons_succ] at q0 q1 q2 q3 q4 q5 z0 z1
  obtain ⟨pl, HPL⟩ : ∃ pl : Bool, Hid (pl = true ↔ bw = true ∨ (emp = true ∧ site = 0)) := by
   by_cases h : bw = true ∨ (emp = true ∧ site = 0)
   ·exact ⟨true, show (true = true ↔ _) from ⟨fun _ => h, fun _ => rfl⟩⟩
   ·exact ⟨false, show (false = true ↔ _) from ⟨fun e => (by cases e), fun e => absurd e h⟩⟩
  obtain ⟨V4, hV4⟩ : ∃ V, V = W4 := ⟨_, rfl⟩; subst hV4
  go_cut [6] from 17 to 29 (fun t wx => t = .bool pl ∧ wx = V4)
  case first => as_aux_lemma =>
   clear hRA hRB hwt B4 hB4 ga gone; go_wp2_with fail; refine (hww _).mono ?_; rintro e w' ⟨rfl, rfl⟩
   cases bw
   ·have he := HEMP.out
    cases emp
    ·have HP0 : Hid (false = pl) := by
      cases pl
      ·rfl
      ·have := HPL.out.1 rfl; simp at this
     have he2 : wh.toList.isEmpty = false := he.symm; clear he; go_wp2_with fail
     go_meet
     case rel => exact ⟨by rw [HP0.out], rfl⟩
    ·have he2 : wh.toList.isEmpty = true := he.symm; clear he; by_cases hst : site = 0
     ·have HP0 : Hid (true = pl) := (HPL.out.2 (.inr ⟨rfl, hst⟩)).symm; have ds : (site == 0) = true := by simpa using hst
      clear hst; go_wp2_with fail
      go_meet
      case rel => exact ⟨by rw [← HP0.out], rfl⟩
     ·have HP0 : Hid (false = pl) := by
       cases pl
       ·rfl
       ·have := HPL.out.1 rfl; simp at this; exact absurd this hst
      have ds : (site == 0) = false := by simpa using hst
      clear hst; go_wp2_with fail
      go_meet
      case rel => exact ⟨by rw [← HP0.out], rfl⟩
   ·have HP0 : Hid (true = pl) := (HPL.out.2 (.inl rfl)).symm; go_wp2_with fail
    go_meet
    case rel => exact ⟨by rw [← HP0.out], rfl⟩
  obtain ⟨rfl, hx⟩ := hcut; obtain rfl := hx.symm
  obtain ⟨b6, HB6⟩ : ∃ b6 : Bool, Hid (b6 = true ↔ team < 0 ∨ 3 < team ∨ bt = false ∨ ¬ (bw = true ∨ (emp = true ∧ site = 0)) ∨ site < 0 ∨ 511 < site ∨ b < a) := by
   by_cases h : team < 0 ∨ 3 < team ∨ bt = false ∨ ¬ (bw = true ∨ (emp = true ∧ site = 0)) ∨ site < 0 ∨ 511 < site ∨ b < a
   ·exact ⟨true, show (true = true ↔ _) from ⟨fun _ => h, fun _ => rfl⟩⟩
   ·exact ⟨false, show (false = true ↔ _) from ⟨fun e => (by cases e), fun e => absurd e h⟩⟩
  go_upto_region 6 with fail
  go_cut [6, 64] from 30 to 64 (fun s t wx => (∃ b' : Bool, s = .bool b') ∧ t = .bool b6 ∧ Below V4.heap.size V4 wx)
  case first => as_aux_lemma =>
   by_cases t1 : team < 0
   ·have dt1 : decide (team < 0) = true := by simpa using t1
    have HK : Hid (true = b6) := (HB6.out.2 (.inl t1)).symm; clear HB6; go_wp2_with fail
    go_meet
    case rel => exact ⟨⟨_, rfl⟩, by rw [← HK.out], (Below.refl _ _)⟩
   ·have dt1 : decide (team < 0) = false := by simpa using t1
    by_cases t2 : 3 < team
    ·have dt2 : decide (3 < team) = true := by simpa using t2
     have HK : Hid (true = b6) := (HB6.out.2 (.inr (.inl t2))).symm; clear HB6; go_wp2_with fail
     go_meet
     case rel => exact ⟨⟨_, rfl⟩, by rw [← HK.out], (Below.refl _ _)⟩
    ·have dt2 : decide (3 < team) = false := by simpa using t2
     go_wp2_with fail; refine (hwt _).mono ?_; rintro e w' ⟨rfl, rfl⟩
     cases bt
     ·skip
      have HK : Hid (true = b6) := (HB6.out.2 (.inr (.inr (.inl rfl)))).symm; clear HB6; go_wp2_with fail
      go_meet
      case rel => exact ⟨⟨_, rfl⟩, by rw [← HK.out], (Below.refl _ _)⟩
     ·cases hpl : pl
      ·have hp2 := HPL.out; rw [hpl] at hp2; have hp3 : ¬ (bw = true ∨ (emp = true ∧ site = 0)) := fun h => by have := hp2.2 h; cases this
       have HP3 := Lib.hid hp3; clear hp2 hp3; have HK : Hid (true = b6) := (HB6.out.2 (.inr (.inr (.inr (.inl HP3.out))))).symm; clear HB6; go_wp2_with fail
       go_meet
       case rel => exact ⟨⟨_, rfl⟩, by rw [← HK.out], (Below.refl _ _)⟩
      ·have hp2 := HPL.out; rw [hpl] at hp2; have HP3 := Lib.hid (hp2.1 rfl); clear hp2; by_cases s1 : site < 0
       ·have ds1 : decide (site < 0) = true := by simpa using s1
        have HK : Hid (true = b6) := (HB6.out.2 (.inr (.inr (.inr (.inr (.inl s1)))))).symm; clear HB6; go_wp2_with fail
        go_meet
        case rel => exact ⟨⟨_, rfl⟩, by rw [← HK.out], (Below.refl _ _)⟩
       ·have ds1 : decide (site < 0) = false := by simpa using s1
        by_cases s2 : 511 < site
        ·have ds2 : decide (511 < site) = true := by simpa using s2
         have HK : Hid (true = b6) := (HB6.out.2 (.inr (.inr (.inr (.inr (.inr (.inl s2))))))).symm; clear HB6; go_wp2_with fail
         go_meet
         case rel => exact ⟨⟨_, rfl⟩, by rw [← HK.out], (Below.refl _ _)⟩
        ·have ds2 : decide (511 < site) = false := by simpa using s2
         go_wp2_with fail; refine (rorder_n _ _ a b 1 1 _ hRA hRB ga gone).mono ?_; rintro e W5 ⟨cc, rfl, HC, hb5⟩; by_cases hc : 0 < cc
         ·have hd : decide (0 < cc) = true := by simpa using hc
          have HAB : Hid (b < a) := by
           show b < a
           have h1 := HC.out; unfold Nm.cmpN at h1; split at h1
           ·omega
           ·split at h1 <;> omega
          clear hc; have HK : Hid (true = b6) := (HB6.out.2 (.inr (.inr (.inr (.inr (.inr (.inr HAB.out))))))).symm; clear HB6; go_wp2_with fail
          go_meet
          case rel => exact ⟨⟨_, rfl⟩, by rw [← HK.out], hb5⟩
         ·have hd : decide (0 < cc) = false := by simpa using hc
          have HAB : Hid (¬ b < a) := by
           intro h; have h1 := HC.out; rw [Nm.cmpN_gt (by omega)] at h1; omega
          clear hc
          have HK : Hid (false = b6) := by
           cases hb6 : b6
           ·rfl
           ·exfalso; have h := HB6.out.1 hb6; rcases h with h | h | h | h | h | h | h
            ·omega
            ·omega
            ·cases h
            ·exact h HP3.out
            ·omega
            ·omega
            ·exact HAB.out h
          clear HB6; go_wp2_with fail
          go_meet
          case rel => exact ⟨⟨_, rfl⟩, by rw [← HK.out], hb5⟩
  obtain ⟨⟨b', rfl⟩, rfl, hbx⟩ := hcut; have hbz := Below.tr hbw4 hbx; have hB5 := Blk.below hB4 hbx hB4.lt; clear q0 q1 q2 q3 q4 q5 z0 z1 B4 hB4 hRA hRB hbx hbw4 gone hwt hww; have q6 := hB5.cell 6; have q7 := hB5.cell 7; simp only [List.getElem?_toArray, List.getElem?_cons_zero, List.getElem?_cons_succ] at q6 q7; have HI : Hid (pBad a b (⟨team, test, wh, site, .slice A1 k1 c1, .slice A2 k2 c2, fr, un, r0, r1, r2, r3, r4, r5, r6, r7, r8, r9, r10, r11, r12, r13, r14, r15⟩ : PC) ↔ ((team < 0 ∨ 3 < team ∨ bt = false ∨ ¬ (bw = true ∨ (emp = true ∧ site = 0)) ∨ site < 0 ∨ 511 < site ∨ b < a) ∨ (fr < 0 ∨ un ≤ fr ∨ 1048576 < un))) := pBad_iff bt bw emp HBT.out HBW.out HEMP.out HW0.out; have HBAD : Hid (pBad a b (⟨team, test, wh, site, .slice A1 k1 c1, .slice A2 k2 c2, fr, un, r0, r1, r2, r3, r4, r5, r6, r7, r8, r9, r10, r11, r12, r13, r14, r15⟩ : PC) → PVal (⟨team, test, wh, site, .slice A1 k1 c1, .slice A2 k2 c2, fr, un, r0, r1, r2, r3, r4, r5, r6, r7, r8, r9, r10, r11, r12, r13, r14, r15⟩ : PC) (Nm.lb a) (Nm.lb (Nm.dn b)) 1) := fun h => .inr ⟨a, b, rfl, rfl, ga, pE_bad h⟩
  have HGOOD : Hid (¬ pBad a b (⟨team, test, wh, site, .slice A1 k1 c1, .slice A2 k2 c2, fr, un, r0, r1, r2, r3, r4, r5, r6, r7, r8, r9, r10, r11, r12, r13, r14, r15⟩ : PC) → PVal (⟨team, test, wh, site, .slice A1 k1 c1, .slice A2 k2 c2, fr, un, r0, r1, r2, r3, r4, r5, r6, r7, r8, r9, r10, r11, r12, r13, r14, r15⟩ : PC) (Nm.lb a) (Nm.lb (Nm.dn b)) 0) := fun h => .inr ⟨a, b, rfl, rfl, ga, pE_ok h⟩
  clear hB5
  cases hb6 : b6
  ·have HN : Hid (¬ (team < 0 ∨ 3 < team ∨ bt = false ∨ ¬ (bw = true ∨ (emp = true ∧ site = 0)) ∨ site < 0 ∨ 511 < site ∨ b < a)) := fun h => by have := HB6.out.2 h; rw [hb6] at this; cases this
   by_cases f1 : fr < 0
   ·have df1 : decide (fr < 0) = true := by simpa using f1
    have HK := Lib.hid (HBAD.out (HI.out.2 (.inr (.inl f1)))); go_wp2_with fail; go_ret; exact ⟨_, rfl, HK, hbz⟩
   ·have df1 : decide (fr < 0) = false := by simpa using f1
    by_cases f2 : un ≤ fr
    ·have df2 : decide (un ≤ fr) = true := by simpa using f2
     have HK := Lib.hid (HBAD.out (HI.out.2 (.inr (.inr (.inl f2))))); go_wp2_with fail; go_ret; exact ⟨_, rfl, HK, hbz⟩
    ·have df2 : decide (un ≤ fr) = false := by simpa using f2
     by_cases f3 : 1048576 < un
     ·have df3 : decide (1048576 < un) = true := by simpa using f3
      have HK := Lib.hid (HBAD.out (HI.out.2 (.inr (.inr (.inr f3))))); go_wp2_with fail; go_ret; exact ⟨_, rfl, HK, hbz⟩
     ·have df3 : decide (1048576 < un) = false := by simpa using f3
      have HK := Lib.hid (HGOOD.out (fun h => (HI.out.1 h).elim HN.out (fun h => by omega))); go_wp2_with fail; go_ret; exact ⟨_, rfl, HK, hbz⟩
  ·have HK := Lib.hid (HBAD.out (HI.out.2 (.inl (HB6.out.1 hb6)))); go_wp2_with fail; go_ret; exact ⟨_, rfl, HK, hbz⟩
 ·have h0 : (E != 0) = true := by simpa using hE
  have HY : Hid (PVal ⟨team, test, wh, site, .slice A1 k1 c1, .slice A2 k2 c2, fr, un, r0, r1, r2, r3, r4, r5, r6, r7, r8, r9, r10, r11, r12, r13, r14, r15⟩ L1 L2 E) := .inl ⟨by rw [← HE.out]; exact hE, HE.out⟩; clear hE hr hr1; go_wp2_with fail; go_ret; exact ⟨_, rfl, HY, hbw2⟩
end Go.Proofs.Yticobffjnjbjiaa
