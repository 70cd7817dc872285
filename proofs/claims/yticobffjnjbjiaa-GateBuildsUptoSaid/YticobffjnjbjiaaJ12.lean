import Derived.Test.YticobffjnjbjiaaJ11
import Derived.Deep.MidRow
import Derived.Deep.LoopGhost
import Derived.Test.YticobffjnjbjiaaS0
set_option linter.unusedVariables false
set_option linter.unusedSimpArgs false
namespace Go.Proofs.Yticobffjnjbjiaa
open Go.RowKit
theorem cell_keep {w w' : World} (hb : Below w.heap.size w w') {a : Addr} {v : Value} (h : w.cell? a = some v) : w'.cell? a = some v := by rw [hb.cell (cell_lt h)]; exact h
theorem infoP {p : PC} : (Try.prog.info? 53).map (·.size) = some (cellsP p).length := by kernel_rfl
theorem infoR {r : RC0} : (Try.prog.info? 64).map (·.size) = some (cellsR r).length := by kernel_rfl
def PhiK (Al : Option Addr) (kl cl k b off : Nat) (p : PC) (name : ByteArray) (r : RC0) (j : Nat) (w : World) (x : Value) : Prop :=
 match j with
 | 0 => x = .slice Al kl cl
 | 1 => x = .int .i64 k
 | 2 => x = .pointer (some ⟨b, off + k * 24, none⟩)
 | 3 => x = .agg #[.int .i64 p.team, .string p.test, .string p.wh, .int .i64 p.site, p.b1, p.b2, .int .i64 p.fr, .int .i64 p.un, p.r0, p.r1, p.r2, p.r3, p.r4, p.r5, p.r6, p.r7, p.r8, p.r9, p.r10, p.r11, p.r12, p.r13, p.r14, p.r15]
 | 4 => x = .string name
 | 5 => x = .agg #[.int .i64 r.oc, .string r.at_, .int .i64 r.st, r.v3, r.v4, r.v5, r.v6, r.v7, r.v8, r.v9, r.v10, r.v11, r.v12, r.v13, r.v14, r.v15, r.v16, r.v17, r.v18, r.v19, r.v20, r.v21]
 | 6 => x = .bool (covB p name r)
 | 7 => x = .bool (covB p name r)
 | _ => True
set_option maxRecDepth 100000 in
set_option maxHeartbeats 2000000 in
theorem cov_cl (k kl cl gl gt gr : Nat) (Al : Option Addr) (ps : List PC) (name : ByteArray) (r : RC0) (w : World) (hl : w.cell? ⟨gl, 0, none⟩ = some (.slice Al kl cl)) (ht : w.cell? ⟨gt, 0, none⟩ = some (.string name))
  (HR : Hid (w.rangeAt gr 0 (cellsR r))) (hp : RowS cellsP w Al kl ps) (hk : k < kl) (hkp : k < ps.length) :
  Calls Try.prog 102 #[.int .i64 (k : Int), .pointer (some ⟨gl, 0, none⟩), .pointer (some ⟨gt, 0, none⟩), .pointer (some ⟨gr, 0, none⟩)] w fun e w' => e = .returned (.bool (covB ps[k] name r)) ∧ Below w.heap.size w w' := by
 obtain ⟨b, off, rfl, HP⟩ := hp.at_ cellsP_len (by omega) hk hkp; generalize ps[k] = p at *; have hkb : kl ≤ 281474976710656 := hp.2.2; clear hp hkp
 go_enter Try.func102, Try.ntmps102
 go_wp2_with fail; refine region_inv (PhiK (some ⟨b, off, none⟩) kl cl k b off p name r) (fun w w' => Below w.heap.size w w') (fun W => Below w.heap.size w W) (by kernel_rfl) (by kernel_rfl) (by kernel_rfl) (fun _ _ _ _ _ h => h) (fun _ _ hR hS => Below.tr hS hR) (bD _) ?_ ?_
 ·refine sK ?_ (sK ?_ (sK ?_ (sK ?_ (sK ?_ (sK ?_ (sK ?_ (sK ?_ (sZ))))))))
  ·as_aux_lemma =>
   intro vs W hS hdep K hK; have fl := cell_keep hS hl; refine ⟨?_⟩; simp only [fillR, Act.put, sA, sB, sC, Nat.zero_add, Nat.reduceAdd] at hK ⊢; go_simp; with_reducible refine hK _ _ (Below.refl _ _) ?_
   exact rfl
  ·as_aux_lemma =>
   intro vs W hS hdep K hK; refine ⟨?_⟩; simp only [fillR, Act.put, sA, sB, sC, Nat.zero_add, Nat.reduceAdd] at hK ⊢; go_simp; with_reducible refine hK _ _ (Below.refl _ _) ?_
   exact rfl
  ·as_aux_lemma =>
   intro vs W hS hdep K hK; have d0 := hdep ⟨0, .data⟩ (by simp) rfl; simp only [PhiK] at d0; have d1 := hdep ⟨1, .data⟩ (by simp) rfl; simp only [PhiK] at d1; refine ⟨?_⟩; simp only [fillR, Act.put, sA, sB, sC, Nat.zero_add, Nat.reduceAdd, d0, d1] at hK ⊢; go_simp; with_reducible refine hK _ _ (Below.refl _ _) ?_
   exact rfl
  ·as_aux_lemma =>
   intro vs W hS hdep K hK; have d0 := hdep ⟨2, .data⟩ (by simp) rfl; simp only [PhiK] at d0; refine ⟨?_⟩; simp only [fillR, Act.put, sA, sB, sC, Nat.zero_add, Nat.reduceAdd, d0] at hK ⊢; rw [if_pos (by rfl)]; refine wp_load_mid 53 (.tmp 8) (by rfl) b (off + k * 24) (by rfl) (cellsP p) _ (fun j v h => cell_keep hS (HP.out j v h)) Try.underlying53 (by rfl) infoP ?_; simp only [Act.put, sA, sB, sC]; with_reducible refine hK _ _ (Below.refl _ _) ?_
   exact rfl
  ·as_aux_lemma =>
   intro vs W hS hdep K hK; have ft := cell_keep hS ht; refine ⟨?_⟩; simp only [fillR, Act.put, sA, sB, sC, Nat.zero_add, Nat.reduceAdd] at hK ⊢; go_simp; with_reducible refine hK _ _ (Below.refl _ _) ?_
   exact rfl
  ·as_aux_lemma =>
   intro vs W hS hdep K hK; refine ⟨?_⟩; simp only [fillR, Act.put, sA, sB, sC, Nat.zero_add, Nat.reduceAdd] at hK ⊢; rw [if_pos (by rfl)]; refine wp_load_mid 64 (.tmp 3) (by rfl) gr (0) (by rfl) (cellsR r) _ (fun j v h => cell_keep hS (HR.out j v h)) Try.underlying64 (by rfl) infoR ?_; simp only [Act.put, sA, sB, sC]; with_reducible refine hK _ _ (Below.refl _ _) ?_
   exact rfl
  ·as_aux_lemma =>
   intro vs W hS hdep K hK; have d0 := hdep ⟨3, .data⟩ (by simp) rfl; simp only [PhiK] at d0; have d1 := hdep ⟨4, .data⟩ (by simp) rfl; simp only [PhiK] at d1; have d2 := hdep ⟨5, .data⟩ (by simp) rfl; simp only [PhiK] at d2; refine ⟨?_⟩; simp only [fillR, Act.put, sA, sB, sC, Nat.zero_add, Nat.reduceAdd, d0, d1, d2] at hK ⊢; go_simp; refine (covers_n p name r _).mono ?_; rintro e w' ⟨rfl, hb⟩; go_wp2_with fail; with_reducible refine hK _ _ hb ?_
   exact rfl
  ·as_aux_lemma =>
   intro vs W hS hdep K hK; have d0 := hdep ⟨6, .data⟩ (by simp) rfl; simp only [PhiK] at d0; refine ⟨?_⟩; simp only [fillR, Act.put, sA, sB, sC, Nat.zero_add, Nat.reduceAdd, d0] at hK ⊢; go_simp; with_reducible refine hK _ _ (Below.refl _ _) ?_
   exact rfl
 ·intro vs W hS hv; have v7 := hv 7 (by simp); simp only [PhiK] at v7; simp only [fillR, Act.put, sA, sB, sC, Nat.zero_add, Nat.reduceAdd, v7]; go_wp2_with fail; go_ret; exact ⟨rfl, hS⟩
end Go.Proofs.Yticobffjnjbjiaa
namespace Go.Proofs.Yticobffjnjbjiaa
open Go.RowKit
def intC (n : Int) : List Value := [.int .i64 n]
def natC (n : Nat) : List Value := [.int .i64 (n : Int)]
theorem intC_len (n : Int) : (intC n).length = 1 := rfl
theorem natC_len (n : Nat) : (natC n).length = 1 := rfl
/-- one number of a slice of numbers -/
theorem RowS.int {w : World} {A : Option Addr} {k : Nat} {l : List Int} (h : RowS intC w A k l) {i : Nat} (hi : i < k) : ∃ b off, ∃ n : Int, A = some ⟨b, off, none⟩ ∧ w.cell? ⟨b, off + i, none⟩ = some (.int .i64 n) ∧ Hid (l[i]? = some n) := by
 have hil : i < l.length := by have := h.2.1; omega
 obtain ⟨b, off, hA, hc⟩ := h.at_ intC_len (by omega) hi hil; refine ⟨b, off, l[i], hA, ?_, List.getElem?_eq_getElem hil⟩; have := hc.out 0 _ rfl
 rwa [Nat.mul_one, Nat.add_zero] at this
theorem RowS.nat {w : World} {A : Option Addr} {k : Nat} {l : List Nat} (h : RowS natC w A k l) {i : Nat} (hi : i < k) : ∃ b off, ∃ n : Nat, A = some ⟨b, off, none⟩ ∧ w.cell? ⟨b, off + i, none⟩ = some (.int .i64 (n : Int)) ∧ Hid (l[i]? = some n) := by
 have hil : i < l.length := by have := h.2.1; omega
 obtain ⟨b, off, hA, hc⟩ := h.at_ natC_len (by omega) hi hil; refine ⟨b, off, l[i], hA, ?_, List.getElem?_eq_getElem hil⟩; have := hc.out 0 _ rfl
 rwa [Nat.mul_one, Nat.add_zero] at this
def outB (m : Nat) (n : Int) : Bool := decide (n < 0 ∨ (m : Int) ≤ n)
set_option maxHeartbeats 400000 in
theorem fits1_n (n : Int) (g kl c : Nat) (A : Option Addr) (w : World) (hg : w.cell? ⟨g, 0, none⟩ = some (.slice A kl c)) (hk : kl ≤ 281474976710656) :
  Calls Try.prog 98 #[.int .i64 n, .pointer (some ⟨g, 0, none⟩)] w fun e w' => e = .returned (.bool (outB kl n)) ∧ w = w' := by
 have HF : Hid (∀ b, (b = true ↔ (n < 0 ∨ (kl : Int) ≤ n)) → b = outB kl n) := by
  intro b h; unfold outB; rw [Bool.eq_iff_iff, h]; simp
 go_enter Try.func98, Try.ntmps98
 go_wp2
 all_goals
  go_ret; exact ⟨retb (HF.out _ (by first | (simp [*]; done) | (simp [*]; omega))), rfl⟩
/-- the first index at which p holds, or -1 -/
def FirstI {α : Type} (l : List α) (p : α → Bool) (x : Int) : Prop := (x = -1 ∧ ∀ (j : Nat) a, l[j]? = some a → p a = false) ∨ ∃ (i : Nat) (a : α), x = (i : Int) ∧ l[i]? = some a ∧ p a = true ∧ ∀ (j : Nat) b, j < i → l[j]? = some b → p b = false
theorem first_step {α : Type} {l : List α} {p : α → Bool} {i : Nat} {a : α} (h : ∀ (j : Nat) b, j < i → l[j]? = some b → p b = false) (ha : l[i]? = some a) (hp : p a = false) : ∀ (j : Nat) b, j < i + 1 → l[j]? = some b → p b = false := by
 intro j b hj hb
 rcases Nat.lt_or_ge j i with h1 | h1
 ·exact h j b h1 hb
 ·obtain rfl : j = i := by omega
  rw [ha] at hb; injection hb with hb; rw [← hb]; exact hp
set_option maxRecDepth 10000 in
set_option maxHeartbeats 1000000 in
theorem index_fits (A Al : Option Addr) (k c g kl cl : Nat) (l : List Int) (w : World) (hr : RowS intC w A k l) (hg : w.cell? ⟨g, 0, none⟩ = some (.slice Al kl cl)) (hkl : kl ≤ 281474976710656) :
  Calls Try.prog 101 #[.slice A k c, .func (.func 98) #[] #[.pointer (some ⟨g, 0, none⟩)]] w fun e w' => ∃ x : Int, e = .returned (.int .i64 x) ∧ -1 ≤ x ∧ Hid (FirstI l (outB kl) x) ∧ w = w' := by
 have hk := hr.2.2; have HK := Lib.hid hr.2.1
 go_enter Try.func101, Try.ntmps101
 go_wp2_with fail
 go_loopg [8] k (fun j x wr => ∃ i : Nat, x = .int .i64 i ∧ i + j = k ∧ Hid (∀ (j : Nat) b, j < i → l[j]? = some b → outB kl b = false) ∧ wr = w)
 case atStart => exact ⟨0, rfl, by omega, fun j b h => by omega, rfl⟩
 case round =>
  obtain ⟨i, rfl, hij, HP, rfl⟩ := hrel; by_cases hi : i < k
  ·obtain ⟨b, off, n, rfl, hc, HN⟩ := hr.int hi; go_wp2_with fail; refine (fits1_n n g kl cl Al _ hg hkl).mono ?_; rintro e w' ⟨rfl, rfl⟩
   cases hb : outB kl n
   ·have HP2 := Lib.hid (first_step HP.out HN.out hb); clear hb; go_wp2_with fail
    go_roundg (gk - 1)
    case measure => omega
    case rel => exact ⟨i + 1, by go_num, by omega, HP2, rfl⟩
   ·have HF : Hid (FirstI l (outB kl) i) := .inr ⟨i, n, rfl, HN.out, hb, HP.out⟩; clear hb; go_wp2_with fail; go_ret; exact ⟨i, rfl, by omega, HF, rfl⟩
  ·have HF : Hid (FirstI l (outB kl) (-1)) := .inl ⟨rfl, fun j a ha => HP.out j a (by
    have := (List.getElem?_eq_some_iff.1 ha).1; have := HK.out; omega) ha⟩
   go_wp2_with fail; go_ret; exact ⟨-1, rfl, by omega, HF, rfl⟩
def covAt (ps : List PC) (name : ByteArray) (r : RC0) (k : Nat) : Bool := match ps[k]? with
 | some p => covB p name r
 | none => false
theorem covAt_eq {ps : List PC} {name : ByteArray} {r : RC0} {k : Nat} (h : k < ps.length) : covAt ps name r k = covB ps[k] name r := by unfold covAt; rw [List.getElem?_eq_getElem h]
set_option maxRecDepth 10000 in
set_option maxHeartbeats 1000000 in
theorem index_cov (A Al : Option Addr) (k c gl gt gr kl cl : Nat) (l : List Nat) (ps : List PC) (name : ByteArray) (r : RC0) (w : World) (hr : RowS natC w A k l) (hl : w.cell? ⟨gl, 0, none⟩ = some (.slice Al kl cl)) (ht : w.cell? ⟨gt, 0, none⟩ = some (.string name))
  (HR : Hid (w.rangeAt gr 0 (cellsR r))) (hp : RowS cellsP w Al kl ps) (HIN : Hid (∀ (j : Nat) n, l[j]? = some n → n < kl)) :
  Calls Try.prog 101 #[.slice A k c, .func (.func 102) #[] #[.pointer (some ⟨gl, 0, none⟩), .pointer (some ⟨gt, 0, none⟩), .pointer (some ⟨gr, 0, none⟩)]] w fun e w' => ∃ x : Int, e = .returned (.int .i64 x) ∧ -1 ≤ x ∧ Hid (FirstI l (covAt ps name r) x) ∧ Below w.heap.size w w' := by
 have hk := hr.2.2; have HK := Lib.hid hr.2.1
 go_enter Try.func101, Try.ntmps101
 go_wp2_with fail
 go_loopg [8] k (fun j x wr => ∃ i : Nat, x = .int .i64 i ∧ i + j = k ∧ Hid (∀ (j : Nat) b, j < i → l[j]? = some b → covAt ps name r b = false) ∧ Below w.heap.size w wr)
 case atStart => exact ⟨0, rfl, by omega, fun j b h => by omega, Below.refl _ _⟩
 case round =>
  obtain ⟨i, rfl, hij, HP, hb⟩ := hrel; by_cases hi : i < k
  ·obtain ⟨b, off, n, rfl, hc, HN⟩ := (hr.below hb).nat hi; have hn := HIN.out _ _ HN.out; have hnp : n < ps.length := by have := hp.2.1; omega
   have hl' := cell_keep hb hl; have ht' := cell_keep hb ht; have HR' : Hid (wr.rangeAt gr 0 (cellsR r)) := fun j v h => cell_keep hb (HR.out j v h)
   go_wp2_with fail; refine (cov_cl n kl cl gl gt gr Al ps name r _ hl' ht' HR' (hp.below hb) hn hnp).mono ?_; rintro e w' ⟨rfl, hb2⟩; rw [← covAt_eq hnp]
   cases hbb : covAt ps name r n
   ·have HP2 := Lib.hid (first_step HP.out HN.out hbb); clear hbb; go_wp2_with fail
    go_roundg (gk - 1)
    case measure => omega
    case rel => exact ⟨i + 1, by go_num, by omega, HP2, Below.tr hb hb2⟩
   ·have HF : Hid (FirstI l (covAt ps name r) i) := .inr ⟨i, n, rfl, HN.out, hbb, HP.out⟩; clear hbb; go_wp2_with fail; go_ret; exact ⟨i, rfl, by omega, HF, Below.tr hb hb2⟩
  ·have HF : Hid (FirstI l (covAt ps name r) (-1)) := .inl ⟨rfl, fun j a ha => HP.out j a (by
    have := (List.getElem?_eq_some_iff.1 ha).1; have := HK.out; omega) ha⟩
   go_wp2_with fail; go_ret; exact ⟨-1, rfl, by omega, HF, hb⟩
end Go.Proofs.Yticobffjnjbjiaa
namespace Go.Proofs.Yticobffjnjbjiaa
open Go.RowKit
theorem Blk.range {w : World} {g : Nat} {t : TypeId} {cs : List Value} (h : Blk w g t cs.toArray) : w.rangeAt g 0 cs := by
 intro j v hv; rw [Nat.zero_add, h.cell]
 simpa using hv
/-- the promise of a result: the first active one that covers it, or -1 -/
def OfP (l : List Nat) (ps : List PC) (name : ByteArray) (r : RC0) (x : Int) : Prop :=
 (x = -1 ∧ ∀ (j : Nat) n, l[j]? = some n → covAt ps name r n = false) ∨ ∃ (i n : Nat), x = (n : Int) ∧ l[i]? = some n ∧ covAt ps name r n = true ∧ ∀ (j : Nat) b, j < i → l[j]? = some b → covAt ps name r b = false
set_option maxRecDepth 100000 in
set_option maxHeartbeats 1000000 in
theorem covering1_n (A Al : Option Addr) (k c ga gl kl cl : Nat) (l : List Nat) (ps : List PC) (name : ByteArray) (r : RC0) (w : World) (hr : RowS natC w A k l) (ha : w.cell? ⟨ga, 0, none⟩ = some (.slice A k c)) (hl : w.cell? ⟨gl, 0, none⟩ = some (.slice Al kl cl))
  (hp : RowS cellsP w Al kl ps) (HIN : Hid (∀ (j : Nat) n, l[j]? = some n → n < kl)) :
  Calls Try.prog 100 #[.string name, .agg #[.int .i64 r.oc, .string r.at_, .int .i64 r.st, r.v3, r.v4, r.v5, r.v6, r.v7, r.v8, r.v9, r.v10, r.v11, r.v12, r.v13, r.v14, r.v15, r.v16, r.v17, r.v18, r.v19, r.v20, r.v21], .pointer (some ⟨ga, 0, none⟩), .pointer (some ⟨gl, 0, none⟩)] w fun e w' => ∃ x : Int, e = .returned (.int .i64 x) ∧ -1 ≤ x ∧ Hid (OfP l ps name r x) ∧ Below w.heap.size w w' := by
 obtain ⟨W, HW⟩ : ∃ W, Hid (W = (w.alloc (.cells #[.string name] 9)).alloc (.cells #[.int .i64 r.oc, .string r.at_, .int .i64 r.st, r.v3, r.v4, r.v5, r.v6, r.v7, r.v8, r.v9, r.v10, r.v11, r.v12, r.v13, r.v14, r.v15, r.v16, r.v17, r.v18, r.v19, r.v20, r.v21] 64)) := ⟨_, rfl⟩; have hbw : Below w.heap.size w W := by rw [HW.out]; exact Below.tr (bA _ _) (bA _ _)
 have ht : W.cell? ⟨w.heap.size, 0, none⟩ = some (.string name) := by
  rw [HW.out]; exact cell_keep (bA _ _) ((Blk.new w 9 #[.string name]).cell 0)
 have HR : Hid (W.rangeAt (w.heap.size + 1) 0 (cellsR r)) := by
  show W.rangeAt _ _ _
  rw [HW.out]; have := Blk.new (w.alloc (.cells #[.string name] 9)) 64 (cellsR r).toArray; have h2 := Blk.range this; have e : (w.alloc (.cells #[.string name] 9)).heap.size = w.heap.size + 1 := by simp
  rw [e] at h2; exact h2
 have ha' := cell_keep hbw ha; have hl' := cell_keep hbw hl; have hr' := hr.below hbw; have hp' := hp.below hbw; have hk := hr.2.2; have ha2 := ha'; rw [HW.out] at ha2
 go_enter Try.func100, Try.ntmps100
 go_wp2_with fail; rw [← HW.out]; clear ha2; refine (index_cov A Al k c gl w.heap.size (w.heap.size + 1) kl cl l ps name r _ hr' hl' ht HR hp' HIN).mono ?_; rintro e W2 ⟨x, rfl, hx, HX, hb⟩; have hb2 := Below.tr hbw hb; have ha2 := cell_keep hb ha'; by_cases hneg : x < 0
 ·have HF : Hid (OfP l ps name r (-1)) := by
   rcases HX.out with ⟨_, h⟩ | ⟨i, n, h, _⟩
   ·exact .inl ⟨rfl, h⟩
   ·omega
  clear HX; go_wp2_with fail; go_ret; exact ⟨_, rfl, by omega, HF, hb2⟩
 ·obtain ⟨i, n, rfl, hi, hc, hb3⟩ : ∃ (i n : Nat), x = (i : Int) ∧ l[i]? = some n ∧ covAt ps name r n = true ∧ ∀ (j : Nat) b, j < i → l[j]? = some b → covAt ps name r b = false := by
   rcases HX.out with ⟨h, _⟩ | h
   ·omega
   ·exact h
  have HF : Hid (OfP l ps name r n) := .inr ⟨i, n, rfl, hi, hc, hb3⟩; have hik : i < k := by have := (List.getElem?_eq_some_iff.1 hi).1; have := hr.2.1; omega
  obtain ⟨b, off, n', rfl, hcell, hn'⟩ := (hr'.below hb).nat hik; obtain rfl : n' = n := by have h1 := hn'.out; rw [hi] at h1; injection h1 with h1; exact h1.symm
  clear HX hi hc hb3; go_wp2_with fail; go_ret; exact ⟨_, rfl, by omega, HF, hb2⟩
set_option maxHeartbeats 400000 in
theorem contains_n (A Al : Option Addr) (k c g kl cl : Nat) (l : List Int) (w : World) (hr : RowS intC w A k l) (hg : w.cell? ⟨g, 0, none⟩ = some (.slice Al kl cl)) (hkl : kl ≤ 281474976710656) :
  Calls Try.prog 97 #[.slice A k c, .func (.func 98) #[] #[.pointer (some ⟨g, 0, none⟩)]] w fun e w' => ∃ b, e = .returned (.bool b) ∧ Hid (b = true ↔ ∃ n ∈ l, outB kl n = true) ∧ w = w' := by
 go_enter Try.func97, Try.ntmps97
 go_wp2_with fail; refine (index_fits A Al k c g kl cl l _ hr hg hkl).mono ?_; rintro e w' ⟨x, rfl, hx, HX, rfl⟩
 have HF : Hid (decide (0 ≤ x) = true ↔ ∃ n ∈ l, outB kl n = true) := by
  show _ ↔ _
  rw [decide_eq_true_iff]
  rcases HX.out with ⟨h1, h2⟩ | ⟨i, a, h1, h2, h3, _⟩
  ·constructor
   ·intro h; omega
   ·rintro ⟨n, hn, hb⟩; obtain ⟨j, hj⟩ := List.getElem?_of_mem hn; rw [h2 j n hj] at hb; cases hb
  ·constructor
   ·intro _; exact ⟨a, List.mem_of_getElem? h2, h3⟩
   ·intro _; omega
 go_wp2_with fail; go_ret; exact ⟨_, rfl, HF, rfl⟩
end Go.Proofs.Yticobffjnjbjiaa
