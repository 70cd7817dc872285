import Derived.Test.YticobffjnjbjiaaKFwProof17
import Derived.ChangeKeysEq
import Derived.Test.YticobffjnjbjiaaJ13
import Derived.Test.YticobffjnjbjiaaJ16
import Derived.Deep.CutRange
import Derived.Deep.QuietTactic
set_option linter.unusedVariables false
set_option linter.unusedSimpArgs false
namespace Go.Proofs.Yticobffjnjbjiaa
open Go Go.RowKit
section
variable (w : World)
/-- fields by what '==' looks at -/
def eqF (d : Nat) (xs ys : Array Value) : List (Bool × TypeId × Nat) → Sem Bool
  | [] => pure true
  | (b, t, o) :: fs =>
    if b then do
      let u ← part t xs o
      let v ← part t ys o
      let r ← Op.equalIn d t u v
      if (!r) = true then pure false else eqF d xs ys fs
    else eqF d xs ys fs
theorem eqF_of (d : Nat) (xs ys : Array Value) : ∀ fs : List Field, Op.eqFields d xs ys fs = eqF d xs ys (fs.map fun f => (decide (f.name ≠ "_"), f.type, f.offset))
  | [] => rfl
  | f :: fs => by
    rw [List.map_cons]
    unfold Op.eqFields eqF
    rw [eqF_of d xs ys fs]
    by_cases h : f.name ≠ "_"
    · rw [if_pos h, if_pos (by simpa using h)]
    · rw [if_neg h, if_neg (by simpa using h)]
theorem eq_struct {P : Program} (d : Nat) (t : TypeId) (xs ys : Array Value) (l : List (Bool × TypeId × Nat)) (ht : P.underlying t = some (.struct (P.fieldsOf t))) (hp : P.stoodInHeld t = false) (hl : (P.fieldsOf t).toList.map (fun f => (decide (f.name ≠ "_"), f.type, f.offset)) = l) :
    (Op.equalIn (d + 1) t (.agg xs) (.agg ys)).run P w = (eqF d xs ys l).run P w := by
  rw [run_equalIn_struct w d t xs ys ht hp, eqF_of, hl]
/-- one field, known by the value of its comparison -/
theorem eqF_step {P : Program} {d : Nat} {xs ys : Array Value} {t : TypeId} {o : Nat} {fs : List (Bool × TypeId × Nat)} {u v : Value} {b c : Bool} (h1 : (part t xs o).run P w = .ok u w) (h2 : (part t ys o).run P w = .ok v w) (h3 : (Op.equalIn d t u v).run P w = .ok b w) (h4 : (eqF d xs ys fs).run P w = .ok c w) :
    (eqF d xs ys ((true, t, o) :: fs)).run P w = .ok (b && c) w := by
  unfold eqF
  simp only [if_true, Sem.run_bind, h1, h2, h3, Result.andThen_ok]
  cases b
  · simp
  · simpa using h4
theorem eqI_step {P : Program} {d : Nat} {xs ys : Array Value} {e : TypeId} {k i : Nat} {is : List Nat} {u v : Value} {b c : Bool} (h1 : (part e xs (i * k)).run P w = .ok u w) (h2 : (part e ys (i * k)).run P w = .ok v w) (h3 : (Op.equalIn d e u v).run P w = .ok b w) (h4 : (Op.eqItems d e k xs ys is).run P w = .ok c w) :
    (Op.eqItems d e k xs ys (i :: is)).run P w = .ok (b && c) w := by
  unfold Op.eqItems
  simp only [Sem.run_bind, h1, h2, h3, Result.andThen_ok]
  cases b
  · simp
  · simpa using h4
theorem part_agg {P : Program} {t : TypeId} {xs : Array Value} {o n : Nat} {i : TypeInfo} (hi : P.info? t = some i) (hs : i.size = n) (hu : (match P.underlying t with | some (.struct _) | some (.array _ _) => true | _ => false) = true) {ys : Array Value} (he : xs.extract o (o + n) = ys) : (part t xs o).run P w = .ok (.agg ys) w := by
  subst hs he
  cases h : P.underlying t with
  | none => rw [h] at hu; cases hu
  | some k =>
    rw [h] at hu
    cases k <;> simp at hu <;> simp [part, isAgg, run_underlying h, run_sizeOf w hi, Program.cellsOf, hi]
def bytes16 (l : List Int) : List Value := l.map fun n => .int .u8 n
theorem eq_bytes (d : Nat) : ∀ (l m : List Int) (is : List Nat) (xs ys : Array Value), l.length = m.length → (∀ (j : Nat) n, l[j]? = some n → ∃ i, is[j]? = some i ∧ xs[i]? = some (.int .u8 n)) → (∀ (j : Nat) n, m[j]? = some n → ∃ i, is[j]? = some i ∧ ys[i]? = some (.int .u8 n)) → is.length = l.length →
    (Op.eqItems (d + 1) 5 1 xs ys is).run Try.prog w = .ok (l == m) w
  | [], [], [], xs, ys, _, _, _, _ => by simp [Op.eqItems]
  | n :: l, k :: m, i :: is, xs, ys, hl, hx, hy, hi => by
    obtain ⟨i1, e1, h1⟩ := hx 0 n rfl
    obtain ⟨i2, e2, h2⟩ := hy 0 k rfl
    simp only [List.getElem?_cons_zero, Option.some.injEq] at e1 e2
    subst e1 e2
    have ih := eq_bytes d l m is xs ys (by simpa using hl) (fun j a h => by
      obtain ⟨i, h3, h4⟩ := hx (j + 1) a (by simpa using h); exact ⟨i, by simpa using h3, h4⟩) (fun j a h => by
      obtain ⟨i, h3, h4⟩ := hy (j + 1) a (by simpa using h); exact ⟨i, by simpa using h3, h4⟩) (by simpa using hi)
    rw [List.cons_beq_cons]
    exact eqI_step w (run_part_plain w (by kernel_rfl) (by rw [Nat.mul_one]; exact h1)) (run_part_plain w (by kernel_rfl) (by rw [Nat.mul_one]; exact h2)) (run_equalIn_int w d 5 .u8 .u8 n k (by kernel_rfl)) ih
/-- the cells of a result have the kinds of its fields -/
def RcTy (r : RC0) : Prop := ∃ c3 c4 c5 d6 d7 d8 d9 d10 d11 d12 d13 d14 d15 d16 d17 d18 d19 d20 d21 : Int, r = ⟨r.oc, r.at_, r.st, .int .i64 c3, .int .i64 c4, .int .i64 c5, .int .u8 d6, .int .u8 d7, .int .u8 d8, .int .u8 d9, .int .u8 d10, .int .u8 d11, .int .u8 d12, .int .u8 d13, .int .u8 d14, .int .u8 d15, .int .u8 d16, .int .u8 d17, .int .u8 d18, .int .u8 d19, .int .u8 d20, .int .u8 d21⟩
set_option maxRecDepth 100000 in
open Classical in
theorem res_equal (d : Nat) (r s : RC0) (hr : RcTy r) (hs : RcTy s) : (Op.equalIn (d + 3) 64 (.agg (cellsR r).toArray) (.agg (cellsR s).toArray)).run Try.prog w = .ok (decide (r = s)) w := by
  obtain ⟨c3, c4, c5, d6, d7, d8, d9, d10, d11, d12, d13, d14, d15, d16, d17, d18, d19, d20, d21, hr⟩ := hr
  obtain ⟨e3, e4, e5, f6, f7, f8, f9, f10, f11, f12, f13, f14, f15, f16, f17, f18, f19, f20, f21, hs⟩ := hs
  rw [hr, hs]
  generalize r.oc = oc
  generalize r.at_ = pl
  generalize r.st = st
  generalize s.oc = oc'
  generalize s.at_ = pl'
  generalize s.st = st'
  clear hr hs
  obtain ⟨ic, hic⟩ : ∃ i, Try.prog.info? 62 = some i ∧ i.size = 3 := by
    have h : (Try.prog.info? 62).map (·.size) = some 3 := by kernel_rfl
    cases e : Try.prog.info? 62 with
    | none => rw [e] at h; cases h
    | some i => rw [e] at h; exact ⟨i, rfl, by simpa using h⟩
  obtain ⟨id, hid⟩ : ∃ i, Try.prog.info? 51 = some i ∧ i.size = 16 := by
    have h : (Try.prog.info? 51).map (·.size) = some 16 := by kernel_rfl
    cases e : Try.prog.info? 51 with
    | none => rw [e] at h; cases h
    | some i => rw [e] at h; exact ⟨i, rfl, by simpa using h⟩
  obtain ⟨ib, hib⟩ : ∃ i, Try.prog.info? 5 = some i := by
    have h : (Try.prog.info? 5).map (·.size) = some 1 := by kernel_rfl
    cases e : Try.prog.info? 5 with
    | none => rw [e] at h; cases h
    | some i => exact ⟨i, rfl⟩
  have hcost : (Op.equalIn (d + 2) 62 (.agg #[.int .i64 c3, .int .i64 c4, .int .i64 c5]) (.agg #[.int .i64 e3, .int .i64 e4, .int .i64 e5])).run Try.prog w = .ok (c3 == e3 && (c4 == e4 && (c5 == e5 && true))) w := by
    rw [eq_struct w (d + 1) 62 _ _ [(true, 3, 0), (true, 3, 1), (true, 3, 2)] (by kernel_rfl) (by kernel_rfl) (by kernel_rfl)]
    refine eqF_step w (run_part_plain w (by kernel_rfl) rfl) (run_part_plain w (by kernel_rfl) rfl) (run_equalIn_int w d _ .i64 .i64 _ _ (by kernel_rfl)) ?_
    refine eqF_step w (run_part_plain w (by kernel_rfl) rfl) (run_part_plain w (by kernel_rfl) rfl) (run_equalIn_int w d _ .i64 .i64 _ _ (by kernel_rfl)) ?_
    refine eqF_step w (run_part_plain w (by kernel_rfl) rfl) (run_part_plain w (by kernel_rfl) rfl) (run_equalIn_int w d _ .i64 .i64 _ _ (by kernel_rfl)) ?_
    simp [eqF]
  have hdig : (Op.equalIn (d + 2) 51 (.agg #[.int .u8 d6, .int .u8 d7, .int .u8 d8, .int .u8 d9, .int .u8 d10, .int .u8 d11, .int .u8 d12, .int .u8 d13, .int .u8 d14, .int .u8 d15, .int .u8 d16, .int .u8 d17, .int .u8 d18, .int .u8 d19, .int .u8 d20, .int .u8 d21]) (.agg #[.int .u8 f6, .int .u8 f7, .int .u8 f8, .int .u8 f9, .int .u8 f10, .int .u8 f11, .int .u8 f12, .int .u8 f13, .int .u8 f14, .int .u8 f15, .int .u8 f16, .int .u8 f17, .int .u8 f18, .int .u8 f19, .int .u8 f20, .int .u8 f21])).run Try.prog w = .ok ([d6, d7, d8, d9, d10, d11, d12, d13, d14, d15, d16, d17, d18, d19, d20, d21] == [f6, f7, f8, f9, f10, f11, f12, f13, f14, f15, f16, f17, f18, f19, f20, f21]) w := by
    rw [run_equalIn_array w (d + 1) _ _ (show Try.prog.underlying 51 = some (.array 16 5) by kernel_rfl) hib, show Try.prog.cellsOf 5 = 1 by kernel_rfl]
    refine eq_bytes w d _ _ _ _ _ rfl ?_ ?_ rfl
    · intro j n h
      refine ⟨j, ?_, ?_⟩
      · have := (List.getElem?_eq_some_iff.1 h).1
        simp at this
        simp [this]
      · rcases j with _ | _ | _ | _ | _ | _ | _ | _ | _ | _ | _ | _ | _ | _ | _ | _ | j <;> simp at h ⊢ <;> exact h
    · intro j n h
      refine ⟨j, ?_, ?_⟩
      · have := (List.getElem?_eq_some_iff.1 h).1
        simp at this
        simp [this]
      · rcases j with _ | _ | _ | _ | _ | _ | _ | _ | _ | _ | _ | _ | _ | _ | _ | _ | j <;> simp at h ⊢ <;> exact h
  simp only [cellsR]
  rw [eq_struct w (d + 2) 64 _ _ [(true, 3, 0), (true, 9, 1), (true, 3, 2), (true, 62, 3), (true, 51, 6)] (by kernel_rfl) (by kernel_rfl) (by kernel_rfl)]
  have hnil : (eqF (d + 2) #[.int .i64 oc, .string pl, .int .i64 st, .int .i64 c3, .int .i64 c4, .int .i64 c5, .int .u8 d6, .int .u8 d7, .int .u8 d8, .int .u8 d9, .int .u8 d10, .int .u8 d11, .int .u8 d12, .int .u8 d13, .int .u8 d14, .int .u8 d15, .int .u8 d16, .int .u8 d17, .int .u8 d18, .int .u8 d19, .int .u8 d20, .int .u8 d21] #[.int .i64 oc', .string pl', .int .i64 st', .int .i64 e3, .int .i64 e4, .int .i64 e5, .int .u8 f6, .int .u8 f7, .int .u8 f8, .int .u8 f9, .int .u8 f10, .int .u8 f11, .int .u8 f12, .int .u8 f13, .int .u8 f14, .int .u8 f15, .int .u8 f16, .int .u8 f17, .int .u8 f18, .int .u8 f19, .int .u8 f20, .int .u8 f21] []).run Try.prog w = .ok true w := by simp [eqF]
  have h : (eqF (d + 2) #[.int .i64 oc, .string pl, .int .i64 st, .int .i64 c3, .int .i64 c4, .int .i64 c5, .int .u8 d6, .int .u8 d7, .int .u8 d8, .int .u8 d9, .int .u8 d10, .int .u8 d11, .int .u8 d12, .int .u8 d13, .int .u8 d14, .int .u8 d15, .int .u8 d16, .int .u8 d17, .int .u8 d18, .int .u8 d19, .int .u8 d20, .int .u8 d21] #[.int .i64 oc', .string pl', .int .i64 st', .int .i64 e3, .int .i64 e4, .int .i64 e5, .int .u8 f6, .int .u8 f7, .int .u8 f8, .int .u8 f9, .int .u8 f10, .int .u8 f11, .int .u8 f12, .int .u8 f13, .int .u8 f14, .int .u8 f15, .int .u8 f16, .int .u8 f17, .int .u8 f18, .int .u8 f19, .int .u8 f20, .int .u8 f21] [(true, 3, 0), (true, 9, 1), (true, 3, 2), (true, 62, 3), (true, 51, 6)]).run Try.prog w = .ok (oc == oc' && (pl.toList == pl'.toList && (st == st' && ((c3 == e3 && (c4 == e4 && (c5 == e5 && true))) && ([d6, d7, d8, d9, d10, d11, d12, d13, d14, d15, d16, d17, d18, d19, d20, d21] == [f6, f7, f8, f9, f10, f11, f12, f13, f14, f15, f16, f17, f18, f19, f20, f21] && true))))) w :=
    eqF_step w (run_part_plain w (by kernel_rfl) rfl) (run_part_plain w (by kernel_rfl) rfl) (run_equalIn_int w (d + 1) _ .i64 .i64 oc oc' (by kernel_rfl))
    (eqF_step w (run_part_plain w (by kernel_rfl) rfl) (run_part_plain w (by kernel_rfl) rfl) (run_equalIn_string w (d + 1) _ pl pl' (by kernel_rfl))
    (eqF_step w (run_part_plain w (by kernel_rfl) rfl) (run_part_plain w (by kernel_rfl) rfl) (run_equalIn_int w (d + 1) _ .i64 .i64 st st' (by kernel_rfl))
    (eqF_step w (part_agg w hic.1 hic.2 (by kernel_rfl) (ys := #[.int .i64 c3, .int .i64 c4, .int .i64 c5]) (by kernel_rfl)) (part_agg w hic.1 hic.2 (by kernel_rfl) (ys := #[.int .i64 e3, .int .i64 e4, .int .i64 e5]) (by kernel_rfl)) hcost
    (eqF_step w (part_agg w hid.1 hid.2 (by kernel_rfl) (ys := #[.int .u8 d6, .int .u8 d7, .int .u8 d8, .int .u8 d9, .int .u8 d10, .int .u8 d11, .int .u8 d12, .int .u8 d13, .int .u8 d14, .int .u8 d15, .int .u8 d16, .int .u8 d17, .int .u8 d18, .int .u8 d19, .int .u8 d20, .int .u8 d21]) (by kernel_rfl)) (part_agg w hid.1 hid.2 (by kernel_rfl) (ys := #[.int .u8 f6, .int .u8 f7, .int .u8 f8, .int .u8 f9, .int .u8 f10, .int .u8 f11, .int .u8 f12, .int .u8 f13, .int .u8 f14, .int .u8 f15, .int .u8 f16, .int .u8 f17, .int .u8 f18, .int .u8 f19, .int .u8 f20, .int .u8 f21]) (by kernel_rfl)) hdig hnil))))
  refine h.trans ?_
  congr 1
  rw [Bool.eq_iff_iff, decide_eq_true_iff]
  simp [ByteArray.toList_eq, ByteArray.ext_iff]
  intro _ _ _
  simp only [and_assoc]
end
end Go.Proofs.Yticobffjnjbjiaa
namespace Go.Proofs.Yticobffjnjbjiaa
open Go.RowKit
theorem items_len (l l' : List Nat) (ps : List PC) (xs : List (ByteArray × RC0)) : (itemsL l ps xs).length = (itemsL l' ps xs).length := by
  simp [itemsL]
theorem pas_sto_len (l : List Nat) (ps : List PC) (xs : List (ByteArray × RC0)) : (pasL l ps xs).length + (stoL l ps xs).length = (itemsL l ps xs).length := by
  unfold pasL stoL
  generalize itemsL l ps xs = its
  induction its with
  | nil => rfl
  | cons x its ih =>
    by_cases h : 0 ≤ x.p
    · rw [List.filter_cons_of_pos (by simpa using h), List.filter_cons_of_neg (by simpa using h)]
      simp only [List.length_cons]; omega
    · rw [List.filter_cons_of_neg (by simpa using h), List.filter_cons_of_pos (by simp; omega)]
      simp only [List.length_cons]; omega
theorem ofN_nil (ps : List PC) (name : ByteArray) (r : RC0) : ofN [] ps name r = -1 := rfl
theorem pas_nil (ps : List PC) (xs : List (ByteArray × RC0)) : pasL [] ps xs = [] := by
  unfold pasL itemsL
  rw [List.filter_eq_nil_iff]
  intro it h
  obtain ⟨x, _, rfl⟩ := List.mem_map.1 h
  simp [ofN_nil]
theorem ofN_sub {lf la : List Nat} (h : ∀ n ∈ lf, n ∈ la) {ps : List PC} {name : ByteArray} {r : RC0} (h0 : 0 ≤ ofN lf ps name r) : 0 ≤ ofN la ps name r := by
  unfold ofN at h0 ⊢
  cases hf : lf.find? (covAt ps name r) with
  | none => rw [hf] at h0; simp at h0
  | some n =>
    have h1 := List.find?_some hf
    have h2 := h n (List.mem_of_find?_eq_some hf)
    cases ha : la.find? (covAt ps name r) with
    | none => exact absurd h1 (by simpa using List.find?_eq_none.1 ha n h2)
    | some m => simp
def keyI (it : IT) : ByteArray × RC0 := (it.test, it.r)
theorem pas_keys (l : List Nat) (ps : List PC) (xs : List (ByteArray × RC0)) : (pasL l ps xs).map keyI = (xs.filter fun x => x.2.oc != 0).filter fun x => decide (0 ≤ ofN l ps x.1 x.2) := by
  unfold pasL itemsL
  generalize (xs.filter fun x => x.2.oc != 0) = ys
  induction ys with
  | nil => rfl
  | cons y ys ih =>
    rw [List.map_cons]
    by_cases h : 0 ≤ ofN l ps y.1 y.2
    · rw [List.filter_cons_of_pos (by simpa using h), List.filter_cons_of_pos (by simpa using h), List.map_cons, ih]
      rfl
    · rw [List.filter_cons_of_neg (by simpa using h), List.filter_cons_of_neg (by simpa using h), ih]
theorem filter_sub {α : Type} {p q : α → Bool} (h : ∀ x, p x = true → q x = true) : ∀ l : List α, (l.filter p).Sublist (l.filter q)
  | [] => List.Sublist.slnil
  | x :: l => by
    by_cases hp : p x = true
    · rw [List.filter_cons_of_pos hp, List.filter_cons_of_pos (h x hp)]
      exact (filter_sub h l).cons_cons x
    · rw [List.filter_cons_of_neg hp]
      by_cases hq : q x = true
      · rw [List.filter_cons_of_pos hq]; exact (filter_sub h l).cons x
      · rw [List.filter_cons_of_neg hq]; exact filter_sub h l
theorem pas_sub {lf la : List Nat} (h : ∀ n ∈ lf, n ∈ la) (ps : List PC) (xs : List (ByteArray × RC0)) : ((pasL lf ps xs).map keyI).Sublist ((pasL la ps xs).map keyI) := by
  rw [pas_keys, pas_keys]
  exact filter_sub (fun x hx => by simp at hx ⊢; exact ofN_sub h hx) _
/-- greedy: the head is not this one -/
theorem sub_skip {α : Type} {X Y : List α} {i j : Nat} {x y : α} (h : (Y.drop i).Sublist (X.drop j)) (hy : Y[i]? = some y) (hx : X[j]? = some x) (hne : x ≠ y) : (Y.drop i).Sublist (X.drop (j + 1)) := by
  obtain ⟨h1, h2⟩ := List.getElem?_eq_some_iff.1 hy
  obtain ⟨h3, h4⟩ := List.getElem?_eq_some_iff.1 hx
  rw [List.drop_eq_getElem_cons h1, List.drop_eq_getElem_cons h3, h2, h4] at h
  rw [List.drop_eq_getElem_cons h1, h2]
  cases h with
  | cons _ h => exact h
  | cons_cons _ h => exact absurd rfl hne
theorem sub_next {α : Type} {X Y : List α} {i j : Nat} {x : α} (h : (Y.drop i).Sublist (X.drop j)) (hy : Y[i]? = some x) (hx : X[j]? = some x) : (Y.drop (i + 1)).Sublist (X.drop (j + 1)) := by
  obtain ⟨h1, h2⟩ := List.getElem?_eq_some_iff.1 hy
  obtain ⟨h3, h4⟩ := List.getElem?_eq_some_iff.1 hx
  rw [List.drop_eq_getElem_cons h1, List.drop_eq_getElem_cons h3, h2, h4] at h
  exact List.cons_sublist_cons.1 h
theorem sub_end {α : Type} {X Y : List α} {i j : Nat} (h : (Y.drop i).Sublist (X.drop j)) (hi : i < Y.length) : j < X.length := by
  have := h.length_le
  simp at this
  omega
end Go.Proofs.Yticobffjnjbjiaa
namespace Go.Proofs.Yticobffjnjbjiaa
open Go Go.RowKit
theorem nats_back (l : List Nat) : (l.map fun n : Nat => (n : Int)).map Int.toNat = l := by
  rw [List.map_map]
  conv => rhs; rw [← List.map_id l]
  apply List.map_congr_left
  intro n _
  simp
theorem fit_zero {kp : Nat} {l : List Nat} {t : Nat} {rs : List RC0} (H : ∀ n ∈ l, n < kp) (HR : ∀ r ∈ rs, ResOk r) : fitE kp (l.map fun n : Nat => (n : Int)) t t rs = 0 := by
  unfold fitE
  have h1 : (l.map fun n : Nat => (n : Int)).any (outB kp) = false := by
    rw [List.any_eq_false]
    intro x hx
    obtain ⟨n, hn, rfl⟩ := List.mem_map.1 hx
    have := H n hn
    simp [outB]
    omega
  have h2 : rs.any oddO = false := by
    rw [List.any_eq_false]
    intro r hr
    obtain ⟨oc, a, st, c, rfl, h1, h2, _⟩ := HR r hr
    have h : oddO (rcC oc a st c) = false := by unfold oddO; exact decide_eq_false (by show ¬ (oc < 0 ∨ 4 < oc); omega)
    rw [h]; decide
  rw [h1, h2]
  simp
theorem items_le (l : List Nat) (ps : List PC) (xs : List (ByteArray × RC0)) : (itemsL l ps xs).length ≤ xs.length := by
  unfold itemsL; rw [List.length_map]; exact List.length_filter_le _ _
theorem pas_le (l : List Nat) (ps : List PC) (xs : List (ByteArray × RC0)) : (pasL l ps xs).length ≤ xs.length := Nat.le_trans (List.length_filter_le _ _) (items_le l ps xs)
theorem sto_le (l : List Nat) (ps : List PC) (xs : List (ByteArray × RC0)) : (stoL l ps xs).length ≤ xs.length := Nat.le_trans (List.length_filter_le _ _) (items_le l ps xs)
theorem pas_okz {l : List Nat} {ps : List PC} {names : List ByteArray} {rs : List RC0} (h : ∀ r ∈ rs, ResOk r) : ∀ it ∈ pasL l ps (names.zip rs), ResOk it.r := by
  intro it hit
  obtain ⟨h1, _⟩ := List.mem_filter.1 hit
  obtain ⟨x, h2, rfl⟩ := List.mem_map.1 h1
  have h3 := (List.mem_filter.1 h2).1
  exact h _ (List.of_mem_zip (a := x.1) (b := x.2) h3).2
theorem ResOk.ty {r : RC0} (h : ResOk r) : RcTy r := by
  obtain ⟨oc, a, st, c, rfl, _⟩ := h
  exact ⟨c, 0, 0, 0, 0, 0, 0, 0, 0, 0, 0, 0, 0, 0, 0, 0, 0, 0, 0, rfl⟩
open Classical in
theorem neq_res (w : World) (r s : RC0) (hr : RcTy r) (hs : RcTy s) {b : Bool} (hb : b = true ↔ r = s) : (binOp .neq 64 (.agg (cellsR r).toArray) (.agg (cellsR s).toArray)).run Try.prog w = .ok (.bool (!b)) w := by
  rw [run_neq_struct, show (10000 : Nat) = 9997 + 3 from rfl, res_equal w 9997 r s hr hs, show decide (r = s) = b by rw [Bool.eq_iff_iff, decide_eq_true_iff]; exact hb.symm]
  rfl
theorem quiet_neqR (a : Act) (C : World → Prop) (w : World) (x y : Operand) (r s : RC0) (hr : RcTy r) (hs : RcTy s) {b : Bool} (hb : b = true ↔ r = s) (hx : a.eval x = (.agg (cellsR r).toArray)) (hy : a.eval y = .agg (cellsR s).toArray) (o : Oper) (ho : o.op = .binOp .neq 64 x y 64) : o.quietAt Try.prog a C w (.bool (!b)) := by
  have h := neq_res w r s hr hs hb
  unfold Oper.quietAt execOp
  rw [ho]
  simp only [hx, hy, Sem.run_bind, run_eqGuard_agg (P := Try.prog) w .neq 64 x y (cellsR r).toArray (cellsR s).toArray (by kernel_rfl), h, Result.andThen_ok, Sem.run_pure]
  exact ⟨rfl, rfl⟩
theorem dec_pas {w : World} {base : Nat} {l : List Nat} {ps : List PC} {xs : List (ByteArray × RC0)} {vp : Value} {np : Nat} (hx : xs.length ≤ 8) (h : w.ownsRow base 66 24 vp np ((pasL ((l.map fun n : Nat => (n : Int)).map Int.toNat) ps (if (0 : Int) = 0 then xs else [])).flatMap cellsI)) :
    ∃ A c, vp = .slice A np c ∧ RowS cellsI w A np (pasL l ps xs) := by
  rw [if_pos rfl, nats_back] at h
  have h1 := h.1
  rw [flat_len cellsI_len] at h1
  have h2 := pas_le l ps xs
  exact own_rowS cellsI_len (by omega) (by omega) h
theorem dec_sto {w : World} {base : Nat} {l : List Nat} {ps : List PC} {xs : List (ByteArray × RC0)} {vp : Value} {np : Nat} (hx : xs.length ≤ 8) (h : w.ownsRow base 66 24 vp np ((stoL ((l.map fun n : Nat => (n : Int)).map Int.toNat) ps (if (0 : Int) = 0 then xs else [])).flatMap cellsI)) :
    ∃ A c, vp = .slice A np c ∧ RowS cellsI w A np (stoL l ps xs) := by
  rw [if_pos rfl, nats_back] at h
  have h1 := h.1
  rw [flat_len cellsI_len] at h1
  have h2 := sto_le l ps xs
  exact own_rowS cellsI_len (by omega) (by omega) h
set_option maxRecDepth 100000 in
set_option maxHeartbeats 2000000 in
theorem gate_fewer_n (A1 A2 A3 : Option Addr) (k1 c1 k2 c2 k3 c3 : Nat) (l1 l2 l3 : List Int) (bits : Int) (w : World) (h1 : RowL intC w A1 k1 l1) (h2 : RowL intC w A2 k2 l2) (h3 : RowL intC w A3 k3 l3)
    (H1 : Hid (∀ x ∈ l1, -9223372036854775808 ≤ x ∧ x ≤ 9223372036854775807)) (H2 : Hid (∀ x ∈ l2, -9223372036854775808 ≤ x ∧ x ≤ 9223372036854775807)) (H3 : Hid (∀ x ∈ l3, -9223372036854775808 ≤ x ∧ x ≤ 9223372036854775807)) (hb1 : -9223372036854775808 ≤ bits) (hb2 : bits ≤ 9223372036854775807) :
    Calls Try.prog 5 #[.slice A1 k1 c1, .slice A2 k2 c2, .slice A3 k3 c3, .int .i64 bits] w fun e w' => e = .returned (.bool true) ∧ Below w.heap.size w w' := by
  obtain ⟨i0, hi0, hz0, hz1, hz2⟩ := info_parts info_int
  go_enter Try.func5, Try.ntmps5
  go_wp2_with fail
  refine (made_n A1 k1 c1 l1 _ h1 H1).mono ?_
  rintro e w1 ⟨Ap, kp, cp, ps, bd, rfl, _, _, hps, hkp, hok, hb1⟩
  go_wp2_with fail
  refine (active_n Ap kp cp A2 k2 c2 l2 _ (by omega) (h2.below hb1) H2).mono ?_
  rintro e w2 ⟨la, Aa, ka, ca, rfl, _, hla, hka, HIN, hb2⟩
  go_wp2_with fail
  have HPO : Hid (∀ p ∈ ps, PromOk p) := fun p hp => by
    obtain ⟨n, hn⟩ := List.getElem?_of_mem hp
    exact (hok n p hn).1
  refine (tests_n Ap kp cp ps A3 k3 c3 l3 _ (hps.below hb2) HPO (by omega) (h3.below (Below.tr hb1 hb2)) H3).mono ?_
  rintro e w3 ⟨names, rs, kn, An, cn, Ar, cr, rfl, hon, hor, hkn, HRS, HNS, hb3⟩
  obtain ⟨An', cn', en, hnm⟩ := own_rowS strC_len (by omega) (by omega) hon
  injection en with e1 e2 e3
  subst e1 e3
  obtain ⟨Ar', cr', er, hrs⟩ := own_rowS cellsR_len (by omega) (by omega) hor
  injection er with e1 e2 e3
  subst e1 e3
  have hps := hps.below (Below.tr hb2 hb3)
  have hla := hla.below hb3
  have hbw := Below.tr (Below.tr hb1 hb2) hb3
  clear hb1 hb2 hb3 hok HPO HNS hon hor h1 h2 h3 H1 H2 H3
  go_wp2_with fail
  go_loopg [13, 14] ka (fun j v x wr => ∃ (i : Nat) (lf : List Nat), x = .int .i64 i ∧ i + j = ka ∧ wr.ownsRow w3.heap.size 3 1 v lf.length (lf.flatMap natC) ∧ lf.length ≤ i ∧ Hid (∀ n ∈ lf, n ∈ la) ∧ Below w3.heap.size w3 wr)
  case atStart => exact ⟨0, [], rfl, by omega, World.ownsRow_nil _ _ _ _, by simp, fun n h => by simp at h, Below.refl _ _⟩
  case round =>
    obtain ⟨G, hG⟩ : ∃ G, G = gk := ⟨gk, rfl⟩
    subst hG
    obtain ⟨i, lf, rfl, hij, hown, hlen, HSUB, hbe⟩ := hrel
    obtain ⟨Ao, co, rfl⟩ := own_shp hown
    by_cases hi : i < ka
    · have t1 : decide ((i : Int) < (ka : Int)) = true := by simp; omega
      obtain ⟨b, off, x, rfl, hcell, HX⟩ := (hla.below hbe).nat hi
      go_upto_region 8 with fail
      obtain ⟨wa, hwa⟩ : ∃ wa, wa = wr := ⟨_, rfl⟩
      subst hwa
      go_cut [45] from 34 to 52 (fun t wx => (∃ cb, t = .bool cb) ∧ wx = wa)
      case first => as_aux_lemma =>
        clear hps hla hrs hnm hown hcell hbe HX HSUB HIN HRS hbw
        go_wp2_with fail
        go_meet
        case rel => exact ⟨⟨_, rfl⟩, rfl⟩
      obtain ⟨⟨cb, rfl⟩, hx⟩ := hcut
      obtain rfl := hx.symm
      have hsz := hbe.size
      have hmx := List.mem_of_getElem? HX.out
      cases cb
      · clear hcell HX
        go_wp2_with fail
        go_roundg (G - 1)
        case measure => omega
        case rel => exact ⟨i + 1, lf, by go_num, by omega, hown, by omega, HSUB, hbe⟩
      · have hb3 := below_alloc wa (.cells #[.int .i64 (x : Int)] 3)
        have hown3 := own_below hown hb3
        have hrd : Rd (wa.alloc (.cells #[.int .i64 (x : Int)] 3)) (some ⟨wa.heap.size, 0, none⟩) (natC x) := Rd.fresh wa 3 (natC x)
        have hbe3 := Below.tr hbe hb3
        have hsz3 := hbe3.size
        clear hb3 hown HX hbe hsz
        go_wp2_with (first | (at_builtin; go_loud (refine wpList_append_any _ rfl (.tmp 46) (.tmp 51) _ rfl w3.heap.size 3 i0 _ 1 8 Try.underlying35 hi0 hz0 hz1 hz2 rfl (by omega) _ lf.length _ rfl hown3 _ 1 1 (natC x) rfl rfl hrd (by simp [natC, Value.oneCell']) (by simp only [maxLen]; omega) (by omega) hsz3 ?_); intro v4 w4 hown4 hg4 hat4))
        have hbe4 : Below w3.heap.size w3 w4 := hbe3.grown hg4 hsz3 (own_block_ge hown3)
        have hown5 : w4.ownsRow w3.heap.size 3 1 v4 (lf ++ [x]).length ((lf ++ [x]).flatMap natC) := by rw [List.flatMap_append, List.length_append]; simpa using hown4
        have HS5 : Hid (∀ n ∈ lf ++ [x], n ∈ la) := by
          intro n hn
          rcases List.mem_append.1 hn with h | h
          · exact HSUB.out n h
          · rw [List.mem_singleton.1 h]; exact hmx
        have hl5 : (lf ++ [x]).length ≤ i + 1 := by simp; omega
        clear hown4 hown3 hg4 hat4 hbe3 hsz3 hrd hmx hcell
        go_wp2_with fail
        go_roundg (G - 1)
        case measure => omega
        case rel => exact ⟨i + 1, lf ++ [x], by go_num, by omega, hown5, hl5, HS5, hbe4⟩
    · have t1 : decide ((i : Int) < (ka : Int)) = false := by simp; omega
      obtain ⟨Af', cf', ef, hlf⟩ := own_rowS natC_len (by omega) (by omega) hown
      injection ef with e1 e2 e3
      subst e1 e3
      have hps := hps.below hbe
      have hla := hla.below hbe
      have hnm := hnm.below hbe
      have hrs := hrs.below hbe
      have hbw := Below.tr hbw hbe
      have HONE : Hid (∀ x ∈ rs, ∀ v ∈ cellsR x, v.oneCell' = true) := fun x hx => (HRS.out x hx).one
      have hlai := nat_rows hla
      have hlfi := nat_rows hlf
      clear hown hbe hla hlf
      have hxl : (names.zip rs).length ≤ 8 := by rw [List.length_zip]; have := hrs.2.1; omega
      obtain ⟨xs, hxs⟩ : ∃ xs, Hid (xs = names.zip rs) := ⟨_, rfl⟩
      rw [← hxs.out] at hxl
      go_wp2_with fail
      refine (decide_n Ap Aa An Ar kp cp ka ca kn cn kn cr _ ps names rs _ hps hlai hnm hrs HONE (by omega)).mono ?_
      rintro e w4 ⟨vp, np, vs, ns, er, rfl, HE, hop, hos, hb4⟩
      obtain rfl : er = 0 := HE.out.trans (fit_zero HIN.out HRS.out)
      rw [← hxs.out] at hop hos
      obtain ⟨P4, d4, rfl, hP4⟩ := dec_pas hxl hop
      obtain ⟨S4, f4, rfl, hS4⟩ := dec_sto hxl hos
      clear hop hos HE
      go_upto_region 11 with fail
      refine wp_name ?_
      intro v4 HV4
      have hbv4 : Below w4.heap.size w4 v4 := by rw [HV4.out]; exact below_alloc _ _
      have B4 : Blk v4 w4.heap.size 58 #[.slice P4 np d4, .slice S4 ns f4] := by rw [HV4.out]; exact Blk.new _ _ _
      have hP4 := hP4.below hbv4
      have hS4 := hS4.below hbv4
      have hbq := Below.tr hb4 hbv4
      have hps := hps.below hbq
      have hlai := hlai.below hbq
      have hlfi := hlfi.below hbq
      have hnm := hnm.below hbq
      have hrs := hrs.below hbq
      have hbw := Below.tr hbw hbq
      obtain ⟨np4, hnp4⟩ : ∃ n, n = np := ⟨_, rfl⟩
      obtain ⟨ns4, hns4⟩ : ∃ n, n = ns := ⟨_, rfl⟩
      subst hnp4 hns4
      clear hb4 hbv4 HV4
      go_wp2_with fail
      refine (decide_n Ap Ao An Ar kp cp lf.length co kn cn kn cr _ ps names rs _ hps hlfi hnm hrs HONE (by omega)).mono ?_
      rintro e w5 ⟨vp, np, vs, ns, er, rfl, HE, hop, hos, hb5⟩
      obtain rfl : er = 0 := HE.out.trans (fit_zero (fun n hn => HIN.out n (HSUB.out n hn)) HRS.out)
      rw [← hxs.out] at hop hos
      obtain ⟨P5, d5, rfl, hP5⟩ := dec_pas hxl hop
      obtain ⟨S5, f5, rfl, hS5⟩ := dec_sto hxl hos
      clear hop hos HE
      go_upto_region 12 with fail
      refine wp_name ?_
      intro v5 HV5
      have hbv5 : Below w5.heap.size w5 v5 := by rw [HV5.out]; exact below_alloc _ _
      have B5 : Blk v5 w5.heap.size 58 #[.slice P5 np d5, .slice S5 ns f5] := by rw [HV5.out]; exact Blk.new _ _ _
      have hP5 := hP5.below hbv5
      have hS5 := hS5.below hbv5
      have hbq := Below.tr hb5 hbv5
      have hps := hps.below hbq
      have hlai := hlai.below hbq
      have hlfi := hlfi.below hbq
      have hnm := hnm.below hbq
      have hrs := hrs.below hbq
      have hbw := Below.tr hbw hbq
      obtain ⟨np5, hnp5⟩ : ∃ n, n = np := ⟨_, rfl⟩
      obtain ⟨ns5, hns5⟩ : ∃ n, n = ns := ⟨_, rfl⟩
      subst hnp5 hns5
      clear hb5 hbv5 HV5
      have hP4 := hP4.below hbq
      have hS4 := hS4.below hbq
      have B4 := Blk.below B4 hbq B4.lt
      clear hbq
      go_wp2_with fail
      refine (decide_n Ap none An Ar kp cp 0 0 kn cn kn cr _ ps names rs _ hps (show RowS intC _ none 0 (([] : List Nat).map fun n : Nat => (n : Int)) from ⟨fun h => absurd rfl h, rfl, by omega⟩) hnm hrs HONE (by omega)).mono ?_
      rintro e w6 ⟨vp, np, vs, ns, er, rfl, HE, hop, hos, hb6⟩
      obtain rfl : er = 0 := HE.out.trans (fit_zero (fun n hn => by simp at hn) HRS.out)
      rw [← hxs.out] at hop hos
      obtain ⟨P6, d6, rfl, hP6⟩ := dec_pas hxl hop
      obtain ⟨S6, f6, rfl, hS6⟩ := dec_sto hxl hos
      clear hop hos HE
      go_upto_region 13 with fail
      refine wp_name ?_
      intro v6 HV6
      have hbv6 : Below w6.heap.size w6 v6 := by rw [HV6.out]; exact below_alloc _ _
      have B6 : Blk v6 w6.heap.size 58 #[.slice P6 np d6, .slice S6 ns f6] := by rw [HV6.out]; exact Blk.new _ _ _
      have hP6 := hP6.below hbv6
      have hS6 := hS6.below hbv6
      have hbq := Below.tr hb6 hbv6
      have hps := hps.below hbq
      have hlai := hlai.below hbq
      have hlfi := hlfi.below hbq
      have hnm := hnm.below hbq
      have hrs := hrs.below hbq
      have hbw := Below.tr hbw hbq
      obtain ⟨np6, hnp6⟩ : ∃ n, n = np := ⟨_, rfl⟩
      obtain ⟨ns6, hns6⟩ : ∃ n, n = ns := ⟨_, rfl⟩
      subst hnp6 hns6
      clear hb6 hbv6 HV6
      have hP4 := hP4.below hbq
      have hS4 := hS4.below hbq
      have B4 := Blk.below B4 hbq B4.lt
      have hP5 := hP5.below hbq
      have hS5 := hS5.below hbq
      have B5 := Blk.below B5 hbq B5.lt
      clear hbq
      have n4 := hP4.2.1
      have m4 := hS4.2.1
      have n5 := hP5.2.1
      have m5 := hS5.2.1
      have n6 := hP6.2.1
      have m6 := hS6.2.1
      have e5 := pas_sto_len lf ps xs
      have e4 := pas_sto_len la ps xs
      have e6 := pas_sto_len [] ps xs
      rw [items_len lf la] at e5
      rw [items_len [] la] at e6
      rw [pas_nil] at n6 e6
      simp only [List.length_nil] at n6 e6
      have l4 := items_le la ps xs
      obtain rfl := n6
      have E1 : (np5 : Int) + (ns5 : Int) = (np4 : Int) + (ns4 : Int) := by omega
      have E2 : (ns6 : Int) = (np4 : Int) + (ns4 : Int) := by omega
      have l5 : np4 + ns4 ≤ 8 := by omega
      have l6 : np5 ≤ 8 := by omega
      have hsub := pas_sub HSUB.out ps xs
      obtain ⟨X, hX⟩ : ∃ X, Hid (X = pasL la ps xs) := ⟨_, rfl⟩
      obtain ⟨Y, hY⟩ : ∃ Y, Hid (Y = pasL lf ps xs) := ⟨_, rfl⟩
      rw [← hX.out] at hP4 hsub n4
      rw [← hY.out] at hP5 hsub n5
      have HXR : Hid (∀ it ∈ X, ResOk it.r) := by rw [hX.out, hxs.out]; exact pas_okz HRS.out
      have HYR : Hid (∀ it ∈ Y, ResOk it.r) := by rw [hY.out, hxs.out]; exact pas_okz HRS.out
      clear e4 e5 e6 m4 m5 m6 l4 hS4 hS5 hS6 hP6 hX hY hps hlai hlfi hnm hrs HRS HONE HIN HSUB hxs
      obtain ⟨va, hva⟩ : ∃ va, va = v6 := ⟨_, rfl⟩
      subst hva
      go_cut [121] from 76 to 182 (fun t wx => t = .bool false ∧ wx = va)
      case first => as_aux_lemma =>
        have q40 := B4.cell 0
        have q41 := B4.cell 1
        have q50 := B5.cell 0
        have q51 := B5.cell 1
        have q60 := B6.cell 0
        have q61 := B6.cell 1
        simp only [List.getElem?_toArray, List.getElem?_cons_zero, List.getElem?_cons_succ] at q40 q41 q50 q51 q60 q61
        have s1 : IntKind.i64.wrap ((np4 : Int) + (ns4 : Int)) = (np4 : Int) + (ns4 : Int) := by rw [IntWalk.i64_in _ (by omega)]
        clear hP4 hP5 B4 B5 B6 hsub n4 n5
        go_wp2_with fail
        go_meet
        case rel => exact ⟨rfl, rfl⟩
      obtain ⟨rfl, hx⟩ := hcut
      obtain rfl := hx.symm
      have HN4 := Lib.hid n4
      have HN5 := Lib.hid n5
      clear n4 n5
      clear B6 E1 E2
      obtain ⟨vb, hvb⟩ : ∃ vb, vb = va := ⟨_, rfl⟩
      subst hvb
      go_wp2_with fail
      go_loopg [21, 22] np5 (fun j a x wr => ∃ (i at_ : Nat), x = .int .i64 i ∧ i + j = np5 ∧ a = .int .i64 at_ ∧ Hid (((Y.map keyI).drop i).Sublist ((X.map keyI).drop at_)) ∧ Below vb.heap.size vb wr)
      case atStart => exact ⟨0, 0, rfl, by omega, rfl, hsub, Below.refl _ _⟩
      case round =>
        obtain ⟨G, hG⟩ : ∃ G, G = gk := ⟨gk, rfl⟩
        subst hG
        obtain ⟨i, at_, rfl, hij, rfl, HS, hbe⟩ := hrel
        obtain ⟨wo, hwo⟩ : ∃ wo, wo = wr := ⟨_, rfl⟩
        subst hwo
        have B4 := Blk.below B4 hbe B4.lt
        have B5 := Blk.below B5 hbe B5.lt
        have hP4 := hP4.below hbe
        have hP5 := hP5.below hbe
        have q40 := B4.cell 0
        have q50 := B5.cell 0
        simp only [List.getElem?_toArray, List.getElem?_cons_zero] at q40 q50
        by_cases hi : i < np5
        · have t1 : decide ((i : Int) < (np5 : Int)) = true := by simp; omega
          have hiY : i < Y.length := by have := HN5.out; omega
          go_wp2_with fail
          go_loopg [21] (np4 - at_) (fun j a wy => ∃ at2 : Nat, a = .int .i64 at2 ∧ at2 + j = np4 ∧ Hid (((Y.map keyI).drop i).Sublist ((X.map keyI).drop at2)) ∧ Below wo.heap.size wo wy)
          case atStart => exact ⟨at_, rfl, by have h := sub_end HS.out (by simpa using hiY); have := HN4.out; simp at h; omega, HS, Below.refl _ _⟩
          case round =>
            obtain ⟨G2, hG2⟩ : ∃ G, G = gk := ⟨gk, rfl⟩
            subst hG2
            obtain ⟨at2, rfl, hat, HS2, hbe2⟩ := hrel
            have B4 := Blk.below B4 hbe2 B4.lt
            have B5 := Blk.below B5 hbe2 B5.lt
            have hP4 := hP4.below hbe2
            have hP5 := hP5.below hbe2
            clear q40 q50
            have q40 := B4.cell 0
            have q50 := B5.cell 0
            simp only [List.getElem?_toArray, List.getElem?_cons_zero] at q40 q50
            have hlt : at2 < np4 := by have h := sub_end HS2.out (by simpa using hiY); have := HN4.out; simp at h; omega
            have hltX : at2 < X.length := by have := HN4.out; omega
            have t2 : decide ((at2 : Int) < (np4 : Int)) = true := by simp; omega
            obtain ⟨b4, o4, rfl, HC4⟩ := hP4.at_ cellsI_len (by omega) hlt hltX
            obtain ⟨b5, o5, rfl, HC5⟩ := hP5.at_ cellsI_len (by omega) hi hiY
            have rX := HXR.out _ (List.getElem_mem hltX)
            have rY := HYR.out _ (List.getElem_mem hiY)
            have gX : (X.map keyI)[at2]? = some (keyI X[at2]) := by simp [hltX]
            have gY : (Y.map keyI)[i]? = some (keyI Y[i]) := by simp [hiY]
            generalize X[at2] = x at HC4 rX gX
            generalize Y[i] = y at HC5 rY gY
            have x0 := HC4.out 0 _ rfl
            have y0 := HC5.out 0 _ rfl
            rw [Nat.add_zero] at x0 y0
            have HRX : Hid (∀ (j : Nat) v, (cellsR x.r)[j]? = some v → wr.cell? ⟨b4, o4 + at2 * 24 + 1 + j, none⟩ = some v) := fun j v h => items_in (t := x.test) (p := x.p) HC4.out h
            have HRY : Hid (∀ (j : Nat) v, (cellsR y.r)[j]? = some v → wr.cell? ⟨b5, o5 + i * 24 + 1 + j, none⟩ = some v) := fun j v h => items_in (t := y.test) (p := y.p) HC5.out h
            clear HC4 HC5
            have s1 : IntKind.i64.wrap ((np4 : Int) - 1) = (np4 : Int) - 1 := by rw [IntWalk.i64_in _ (by omega)]
            have m1 : min (at2 : Int) ((np4 : Int) - 1) = (at2 : Int) := by omega
            have l7 : (at2 : Int) < (np4 : Int) := by omega
            have l8 : (i : Int) < (np5 : Int) := by omega
            go_upto_region 19 with fail
            have s2 : IntKind.i64.wrap ((at2 : Int) + 1) = (at2 : Int) + 1 := by rw [IntWalk.i64_in _ (by omega)]
            have t3 : decide ((at2 : Int) ≥ (np4 : Int)) = false := by simp; omega
            by_cases hnm : x.test.toList = y.test.toList
            · have hn : (x.test.toList == y.test.toList) = true := by simpa using hnm
              obtain ⟨bq, hbq⟩ : ∃ bq : Bool, Hid (bq = true ↔ x.r = y.r) := by
                by_cases h : x.r = y.r
                · exact ⟨true, show (true = true ↔ x.r = y.r) by simpa using h⟩
                · exact ⟨false, show (false = true ↔ x.r = y.r) by simpa using h⟩
              have rX := rX.ty
              have rY := rY.ty
              refine wp_region_quiet_lit (by kernel_rfl) (by kernel_rfl) ?_
              repeat (go_big_quiet_step (fail))
              refine wpQuiet_step (fun K hK => ?_)
              rw [if_pos (by rfl)]
              refine ⟨.agg (cellsR x.r).toArray, fun w hw => quiet_load_mid 64 (.tmp 163) rfl b4 (o4 + at2 * 24 + 1) rfl (cellsR x.r) _ (HRX.out) Try.underlying64 rfl (infoR (r := x.r)) w hw, ?_⟩
              simp only [Act.put, List.setIfInBounds_toArray, List.set_cons_zero, List.set_cons_succ]
              refine hK _ ?_
              clear hK K
              repeat (go_big_quiet_step (fail))
              refine wpQuiet_step (fun K hK => ?_)
              rw [if_pos (by rfl)]
              refine ⟨.agg (cellsR y.r).toArray, fun w hw => quiet_load_mid 64 (.tmp 169) rfl b5 (o5 + i * 24 + 1) rfl (cellsR y.r) _ (HRY.out) Try.underlying64 rfl (infoR (r := y.r)) w hw, ?_⟩
              simp only [Act.put, List.setIfInBounds_toArray, List.set_cons_zero, List.set_cons_succ]
              refine hK _ ?_
              clear hK K
              refine wpQuiet_step (fun K hK => ?_)
              rw [if_pos (by rfl)]
              refine ⟨.bool (!bq), fun w _ => quiet_neqR _ _ w (.tmp 164) (.tmp 170) x.r y.r rX rY hbq.out rfl rfl _ rfl, ?_⟩
              simp only [Act.put, List.setIfInBounds_toArray, List.set_cons_zero, List.set_cons_succ]
              refine hK _ ?_
              clear hK K
              repeat (go_big_quiet_step (fail))
              refine wpQuiet_nil ?_
              intro _ hw'
              obtain ⟨nq, hw''⟩ := hw'
              subst hw''
              have hbz := Below.tr hbe2 (below_drewN wr nq)
              cases bq
              · have HS3 : Hid (((Y.map keyI).drop i).Sublist ((X.map keyI).drop (at2 + 1))) := sub_skip HS2.out gY gX (fun e => by have := hbq.out.2 (congrArg Prod.snd e); cases this)
                clear rX rY HRX HRY gX gY HS2 hltX hbe2
                go_wp2_with fail
                go_roundg (G2 - 1)
                case measure => omega
                case rel => exact ⟨at2 + 1, by go_num, by omega, HS3, hbz⟩
              · have hkey : keyI x = keyI y := by
                  have e1 : x.test = y.test := by
                    rw [ByteArray.toList_eq, ByteArray.toList_eq] at hnm
                    exact ByteArray.ext (Array.ext' hnm)
                  have e2 : x.r = y.r := hbq.out.1 rfl
                  unfold keyI; rw [e1, e2]
                have HS3 : Hid (((Y.map keyI).drop (i + 1)).Sublist ((X.map keyI).drop (at2 + 1))) := sub_next HS2.out (hkey ▸ gY) gX
                have hbo := Below.tr hbe hbz
                clear rX rY HRX HRY gX gY HS2 hltX hbe2 hbz HS hkey
                go_wp2_with fail
                go_roundg (G - 1)
                case measure => omega
                case rel => exact ⟨i + 1, at2 + 1, by go_num, by omega, by go_num, HS3, hbo⟩
            · have hn : (x.test.toList == y.test.toList) = false := by simpa using hnm
              have HS3 : Hid (((Y.map keyI).drop i).Sublist ((X.map keyI).drop (at2 + 1))) := sub_skip HS2.out gY gX (fun e => hnm (by have := congrArg Prod.fst e; simp only [keyI] at this; rw [this]))
              clear hnm rX rY HRX HRY gX gY HS2 hltX
              refine wp_region_quiet_lit (by kernel_rfl) (by kernel_rfl) ?_
              repeat (go_big_quiet_step (fail))
              refine wpQuiet_nil ?_
              intro _ hw'
              obtain ⟨nq, hw''⟩ := hw'
              subst hw''
              go_wp2_with fail
              go_roundg (G2 - 1)
              case measure => omega
              case rel => exact ⟨at2 + 1, by go_num, by omega, HS3, Below.tr hbe2 (below_drewN _ _)⟩
        · have t1 : decide ((i : Int) < (np5 : Int)) = false := by simp; omega
          have hz := Below.tr hbw hbe
          clear B4 B5 hP4 hP5 hsub HS HXR HYR
          go_wp2_with fail
          refine (lives_n _).mono ?_
          rintro e w8 ⟨rfl, hb8⟩
          go_wp2_with fail
          go_ret
          exact ⟨rfl, Below.tr hz hb8⟩
end Go.Proofs.Yticobffjnjbjiaa
