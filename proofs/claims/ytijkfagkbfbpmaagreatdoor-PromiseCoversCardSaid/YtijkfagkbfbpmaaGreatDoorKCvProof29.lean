import Derived.Test.YtijkfagkbfbpmaaGreatDoorKCvProof28
import Derived.Test.YtijkfagkbfbpmaaGreatDoorS0
set_option linter.unusedVariables false
set_option linter.unusedSimpArgs false
namespace Go.Proofs.YtijkfagkbfbpmaaGreatDoor
open Go Go.RowKit
def PhiCv3 (n : Int) (r : RC0) (j : Nat) (w : World) (x : Value) : Prop :=
 match j with
 | 0 => x = .int .i64 n
 | 1 => ∃ q : RC0, x = .agg (cellsR q).toArray
 | 2 => x = .agg (cellsR r).toArray
 | 3 => ∃ g, ∃ q : RC0, x = .slice (some ⟨g, 0, none⟩) 2 2 ∧ Blk w g 46 (cellsR q ++ cellsR r).toArray
 | 4 => ∃ g, ∃ q : RC0, x = .slice (some ⟨g, 0, none⟩) 2 2 ∧ Blk w g 46 (cellsR q ++ cellsR r).toArray
 | _ => True

theorem PhiCv3.keep {n : Int} {r : RC0} : ∀ (w w' : World), Below w.heap.size w w' → ∀ j x, PhiCv3 n r j w x → PhiCv3 n r j w' x := by
 intro w w' hb j x h; unfold PhiCv3 at h ⊢
 split <;> simp only at h ⊢
 all_goals first
  | exact h
  | (obtain ⟨g, q, e, h1⟩ := h; exact ⟨g, q, e, Blk.below h1 hb h1.lt⟩)
def PhiCv10 (A : Option Addr) (k c b off i jj m3 q3 gT gS : Nat) (p : PC) (s : ByteArray) (r : RC0) (j : Nat) (w : World) (x : Value) : Prop :=
 match j with
 | 0 => x = .slice A k c
 | 1 => x = .int .i64 (i : Nat)
 | 2 => x = .pointer (some ⟨b, off + i * 24, none⟩)
 | 3 => x = .agg (cellsP p).toArray
 | 4 => x = .slice (some ⟨gT, 0, none⟩) 3 3
 | 5 => x = .int .i64 (jj : Nat)
 | 6 => x = .int .i64 (m3 : Nat)
 | 7 => x = .pointer (some ⟨gT, m3, none⟩)
 | 8 => x = .string s
 | 9 => x = .slice (some ⟨gS, 0, none⟩) 2 2
 | 10 => x = .int .i64 (jj : Nat)
 | 11 => x = .int .i64 (q3 : Nat)
 | 12 => x = .pointer (some ⟨gS, q3 * 22, none⟩)
 | 13 => x = .agg (cellsR r).toArray
 | 14 => x = .bool (covB p s r)
 | 15 => x = .slice A k c
 | 16 => x = .int .i64 (i : Nat)
 | 17 => x = .pointer (some ⟨b, off + i * 24, none⟩)
 | 18 => x = .agg (cellsP p).toArray
 | 19 => x = .slice (some ⟨gT, 0, none⟩) 3 3
 | 20 => x = .int .i64 (jj : Nat)
 | 21 => x = .int .i64 (m3 : Nat)
 | 22 => x = .pointer (some ⟨gT, m3, none⟩)
 | 23 => x = .string s
 | 24 => x = .slice (some ⟨gS, 0, none⟩) 2 2
 | 25 => x = .int .i64 (jj : Nat)
 | 26 => x = .int .i64 (q3 : Nat)
 | 27 => x = .pointer (some ⟨gS, q3 * 22, none⟩)
 | 28 => x = .agg (cellsR r).toArray
 | 29 => x = .bool (covB p s r)
 | 30 => x = .bool false
 | _ => True

theorem PhiCv10.keep {A : Option Addr} {k c b off i jj m3 q3 gT gS : Nat} {p : PC} {s : ByteArray} {r : RC0} : ∀ (w w' : World), Below w.heap.size w w' → ∀ j x, PhiCv10 A k c b off i jj m3 q3 gT gS p s r j w x → PhiCv10 A k c b off i jj m3 q3 gT gS p s r j w' x := by
 intro w w' hb j x h; unfold PhiCv10 at h ⊢
 split <;> simp only at h ⊢
 all_goals first
  | exact h
  | (obtain ⟨g, q, e, h1⟩ := h; exact ⟨g, q, e, Blk.below h1 hb h1.lt⟩)
def PhiCv15 (A : Option Addr) (k c b off i m : Nat) (p q : PC) (cb : Bool) (j : Nat) (w : World) (x : Value) : Prop :=
 match j with
 | 0 => x = .slice A k c
 | 1 => x = .int .i64 (i : Nat)
 | 2 => x = .pointer (some ⟨b, off + i * 24, none⟩)
 | 3 => x = .agg (cellsP p).toArray
 | 4 => x = .slice A k c
 | 5 => x = .int .i64 (m : Nat)
 | 6 => x = .pointer (some ⟨b, off + m * 24, none⟩)
 | 7 => x = .agg (cellsP q).toArray
 | 8 => x = .bool cb
 | 9 => x = .bool cb
 | _ => True

theorem PhiCv15.keep {A : Option Addr} {k c b off i m : Nat} {p q : PC} {cb : Bool} : ∀ (w w' : World), Below w.heap.size w w' → ∀ j x, PhiCv15 A k c b off i m p q cb j w x → PhiCv15 A k c b off i m p q cb j w' x := by
 intro w w' hb j x h; unfold PhiCv15 at h ⊢
 split <;> simp only at h ⊢
 all_goals first
  | exact h
  | (obtain ⟨g, q, e, h1⟩ := h; exact ⟨g, q, e, Blk.below h1 hb h1.lt⟩)
def PhiCv16A (A : Option Addr) (k c b off i m : Nat) (p q : PC) (cb : Bool) (j : Nat) (w : World) (x : Value) : Prop :=
 match j with
 | 0 => x = .bool cb
 | 1 => x = .slice A k c
 | 2 => x = .int .i64 (i : Nat)
 | 3 => x = .pointer (some ⟨b, off + i * 24, none⟩)
 | 4 => x = .agg (cellsP p).toArray
 | 5 => x = .slice A k c
 | 6 => x = .int .i64 (m : Nat)
 | 7 => x = .pointer (some ⟨b, off + m * 24, none⟩)
 | 8 => x = .agg (cellsP q).toArray
 | 9 => x = .bool cb
 | 10 => x = .bool false
 | 11 => x = .bool false
 | 12 => x = .bool cb
 | 13 => x = .slice A k c
 | 14 => x = .int .i64 (m : Nat)
 | 15 => x = .pointer (some ⟨b, off + m * 24, none⟩)
 | 16 => x = .agg (cellsP q).toArray
 | 17 => x = .slice A k c
 | 18 => x = .int .i64 (i : Nat)
 | 19 => x = .pointer (some ⟨b, off + i * 24, none⟩)
 | 20 => x = .agg (cellsP p).toArray
 | 21 => x = .bool cb
 | 22 => x = .bool false
 | 23 => x = .bool false
 | 24 => x = .bool false
 | 25 => x = .int .i64 (i : Nat)
 | 26 => x = .int .i64 (m : Nat)
 | 27 => x = .bool true
 | 28 => x = .bool true
 | 29 => x = .bool cb
 | 30 => x = .bool cb
 | 31 => x = .bool cb
 | _ => True

theorem PhiCv16A.keep {A : Option Addr} {k c b off i m : Nat} {p q : PC} {cb : Bool} : ∀ (w w' : World), Below w.heap.size w w' → ∀ j x, PhiCv16A A k c b off i m p q cb j w x → PhiCv16A A k c b off i m p q cb j w' x := by
 intro w w' hb j x h; unfold PhiCv16A at h ⊢
 split <;> simp only at h ⊢
 all_goals first
  | exact h
  | (obtain ⟨g, q, e, h1⟩ := h; exact ⟨g, q, e, Blk.below h1 hb h1.lt⟩)
def PhiCv16B (A : Option Addr) (k c b off i m : Nat) (p q : PC) (cb : Bool) (j : Nat) (w : World) (x : Value) : Prop :=
 match j with
 | 0 => x = .bool cb
 | 1 => x = .slice A k c
 | 2 => x = .int .i64 (i : Nat)
 | 3 => x = .pointer (some ⟨b, off + i * 24, none⟩)
 | 4 => x = .agg (cellsP p).toArray
 | 5 => x = .slice A k c
 | 6 => x = .int .i64 (m : Nat)
 | 7 => x = .pointer (some ⟨b, off + m * 24, none⟩)
 | 8 => x = .agg (cellsP q).toArray
 | 9 => x = .bool cb
 | 10 => x = .bool false
 | 11 => x = .bool false
 | 12 => x = .bool cb
 | 13 => x = .slice A k c
 | 14 => x = .int .i64 (m : Nat)
 | 15 => x = .pointer (some ⟨b, off + m * 24, none⟩)
 | 16 => x = .agg (cellsP q).toArray
 | 17 => x = .slice A k c
 | 18 => x = .int .i64 (i : Nat)
 | 19 => x = .pointer (some ⟨b, off + i * 24, none⟩)
 | 20 => x = .agg (cellsP p).toArray
 | 21 => x = .bool cb
 | 22 => x = .bool false
 | 23 => x = .bool false
 | 24 => x = .bool false
 | 25 => x = .int .i64 (i : Nat)
 | 26 => x = .int .i64 (m : Nat)
 | 27 => x = .bool false
 | 28 => x = .bool false
 | 29 => x = undef
 | 30 => x = .bool false
 | 31 => x = .bool false
 | _ => True

theorem PhiCv16B.keep {A : Option Addr} {k c b off i m : Nat} {p q : PC} {cb : Bool} : ∀ (w w' : World), Below w.heap.size w w' → ∀ j x, PhiCv16B A k c b off i m p q cb j w x → PhiCv16B A k c b off i m p q cb j w' x := by
 intro w w' hb j x h; unfold PhiCv16B at h ⊢
 split <;> simp only at h ⊢
 all_goals first
  | exact h
  | (obtain ⟨g, q, e, h1⟩ := h; exact ⟨g, q, e, Blk.below h1 hb h1.lt⟩)
theorem clA_of {Ev : Nat → Int} {Lf : Nat → List Nat × List Nat} {dg : Nat → List Int} {ps : List PC} {i m : Nat} {p q : PC} {E F : Int} {cb : Bool} (hv : ∀ (n : Nat) p, ps[n]? = some p → PVal p (Lf n).1 (Lf n).2 (Ev n)) (hp : ps[i]? = some p) (hq : ps[m]? = some q)
  (h : PVal p (Lf i).1 (Lf i).2 E ∧ (E = 0 → PVal q (Lf m).1 (Lf m).2 F) ∧ cb = clB E F p q (dg i) (dg m) (sameR (Lf i).1 (Lf i).2 (Lf m).1 (Lf m).2)) : cb = clA Ev Lf dg ps i m := by
 have e1 := h.1.uniq (hv i p hp); rw [h.2.2]; unfold clA; rw [hp, hq]; simp only; by_cases hE : E = 0
 ·have e2 := (h.2.1 hE).uniq (hv m q hq); rw [e1, e2]
 ·unfold clB; rw [← e1]; simp [hE]
theorem two_res {w : World} {g : Nat} {T : TypeId} {a b : RC0} (h : Blk w g T (cellsR a ++ cellsR b).toArray) {m : Nat} (hm : m < 2) : ∃ r : RC0, ∀ j v, (cellsR r)[j]? = some v → w.cell? ⟨g, m * 22 + j, none⟩ = some v := by
 have hc : m = 0 ∨ m = 1 := by omega
 rcases hc with rfl | rfl
 ·refine ⟨a, fun j v hj => ?_⟩; rw [h.cell, Nat.zero_mul, Nat.zero_add]; simp only [List.getElem?_toArray]; rw [List.getElem?_append_left (List.getElem?_eq_some_iff.1 hj).1]; exact hj
 ·refine ⟨b, fun j v hj => ?_⟩; rw [h.cell, Nat.one_mul]; simp only [List.getElem?_toArray]; rw [List.getElem?_append_right (by rw [cellsR_len]; omega), cellsR_len, show 22 + j - 22 = j by omega]; exact hj
theorem three_str {w : World} {g : Nat} {T : TypeId} {a b c : ByteArray} (h : Blk w g T #[.string a, .string b, .string c]) {m : Nat} (hm : m < 3) : ∃ s : ByteArray, w.cell? ⟨g, m, none⟩ = some (.string s) := by
 have hc : m = 0 ∨ m = 1 ∨ m = 2 := by omega
 rcases hc with rfl | rfl | rfl
 ·exact ⟨a, by rw [h.cell]; rfl⟩
 ·exact ⟨b, by rw [h.cell]; rfl⟩
 ·exact ⟨c, by rw [h.cell]; rfl⟩
theorem infoT2 {x : Nat × Nat} : (Tryz.prog.info? 40).map (·.size) = some (pairC x).length := by kernel_rfl
set_option maxRecDepth 100000 in
set_option maxHeartbeats 16000000 in
theorem promise_covers_n (A0 : Option Addr) (k0 c0 : Nat) (l0 : List Int) (how by_ n : Int) (s : ByteArray) (r : RC0) (w : World)
  (h0 : RowL intC w A0 k0 l0) (H0 : Hid (∀ x ∈ l0, -9223372036854775808 ≤ x ∧ x ≤ 9223372036854775807)) (hh : -9223372036854775808 ≤ how ∧ how ≤ 9223372036854775807) (hb : -9223372036854775808 ≤ by_ ∧ by_ ≤ 9223372036854775807) (hn : -9223372036854775808 ≤ n ∧ n ≤ 9223372036854775807) (hs : s.size ≤ 9223372036854775807) :
  Calls Tryz.prog 4 #[.slice A0 k0 c0, .int .i64 how, .int .i64 by_, .int .i64 n, .string s, .agg (cellsR r).toArray] w fun e w' => e = .returned (.bool true) ∧ Below w.heap.size w w' := by
 obtain ⟨iS, hiS, hzS, hzS1, hzS2⟩ := info_parts info_str14; obtain ⟨iR, hiR, hzR, hzR1, hzR2⟩ := info_parts info_resR
 go_enter Tryz.func4, Tryz.ntmps4
 go_upto_region 1 with fail; refine wp_name ?_; intro W HW; have hbw : Below w.heap.size w W := by rw [HW.out]; exact bA _ _
 have BR : Blk W w.heap.size 46 (cellsR r).toArray := by rw [HW.out]; exact Blk.new _ _ _
 obtain ⟨gR, hgR⟩ : ∃ g, Hid (g = w.heap.size) := ⟨_, rfl⟩; rw [← hgR.out] at BR ⊢; have h0 := h0.below hbw; clear HW hgR; go_wp2_with fail; refine (list_n A0 k0 c0 l0 how by_ _ h0 H0 hh.1 hh.2 hb.1 hb.2).mono ?_; rintro e w1 ⟨Al, kp, c, ps0, bd, pb, pq, rfl, hrow, hkp, HK, hb1⟩; obtain ⟨Lf, Ev, dg, hls, hpl, hev⟩ := list_pls hrow HK.out.1 HK.out.2.1 HK.out.2.2; obtain ⟨ps, HPS⟩ : ∃ ps, Hid (ps = ps0 ++ [pb, pq]) := ⟨_, rfl⟩; obtain ⟨k, HK2⟩ : ∃ k, Hid (k = kp + 2) := ⟨_, rfl⟩; rw [← HPS.out, ← HK2.out] at hpl; rw [← HK2.out]; have hkk : k ≤ 8 := by have := HK2.out; omega
 have HPL := Lib.hid hpl; have HKL : Hid (k = ps.length) := hpl.row.2.1; have BR := Blk.below BR hb1 BR.lt; have hbw := Below.tr hbw hb1; clear h0 H0 hh hb hrow HK hls hpl hev hb1 HPS; go_wp2_with fail; refine (short_n s 20 _ hs (by omega)).mono ?_; rintro e w' ⟨u, rfl, _, rfl⟩; clear hs
 go_upto_region 3 with (first | (refine wpList_sliceN rfl 49 9 3 [(0, .const (.string { data := #[116, 48] })), (1, .const (.string { data := #[116, 49] })), (2, .tmp 28)] rfl #[.string { data := #[116, 48] }, .string { data := #[116, 49] }, .string u] iS (.string { data := #[] }) 1 [(0, .string { data := #[116, 48] }), (1, .string { data := #[116, 49] }), (2, .string u)] Tryz.underlying49 hiS hzS hzS1 (by omega) (by omega) rfl (fill_st3 _ _ _) ?_; simp only [Act.put, sA, sB, sC]))
 refine wp_name ?_; intro w2 HW; have hb2 : Below w1.heap.size w1 w2 := by rw [HW.out]; exact bA _ _
 have BT : Blk w2 w1.heap.size 9 #[.string { data := #[116, 48] }, .string { data := #[116, 49] }, .string u] := by rw [HW.out]; exact Blk.new _ _ _
 obtain ⟨gT, hgT⟩ : ∃ g, Hid (g = w1.heap.size) := ⟨_, rfl⟩; rw [← hgT.out] at BT ⊢; have BR := Blk.below BR hb2 BR.lt; have HPL := Lib.hid (HPL.out.below hb2); have hbw := Below.tr hbw hb2; have HBR : Hid (∀ j v, (cellsR r)[j]? = some v → w2.cell? ⟨gR, 0 + j, none⟩ = some v) := fun j v h => by rw [Nat.zero_add, BR.cell]; simpa using h
 clear HW hb2 hgT; refine region_invF (PhiCv3 n r) (fun w w' => Below w.heap.size w w') (fun X => Below w2.heap.size w2 X) (by kernel_rfl) (by kernel_rfl) (by kernel_rfl) PhiCv3.keep (fun _ _ hR hS => Below.tr hS hR) (bD _) (fun vs => by simp only [fillR, Act.put, sA, sB, sC, Nat.zero_add, Nat.reduceAdd]; rfl) ?_ ?_
 ·refine sK ?_ (sK ?_ (sK ?_ (sK ?_ (sK ?_ (sZ)))))
  ·as_aux_lemma =>
   intro vs W hS hdep K hK; refine ⟨?_⟩; simp only [Act.put, sA, sB, sC, Nat.zero_add, Nat.reduceAdd] at hK ⊢; go_simp; with_reducible refine hK _ _ (Below.refl _ _) ?_
   exact rfl
  ·as_aux_lemma =>
   intro vs W hS hdep K hK; have d0 := hdep ⟨0, .data⟩ (by simp) rfl; simp only [PhiCv3] at d0; refine ⟨?_⟩; simp only [Act.put, sA, sB, sC, Nat.zero_add, Nat.reduceAdd, d0] at hK ⊢; go_simp; refine (result_n n _ hn.1 hn.2).mono ?_; rintro e w' ⟨q, rfl, _, hb⟩; go_wp2_with fail; with_reducible refine hK _ _ hb ?_
   exact ⟨q, rfl⟩
  ·as_aux_lemma =>
   intro vs W hS hdep K hK; refine ⟨?_⟩; simp only [Act.put, sA, sB, sC, Nat.zero_add, Nat.reduceAdd] at hK ⊢; rw [if_pos (by rfl)]; refine wp_load_mid 46 (.tmp 11) (by rfl) gR (0) (by rfl) (cellsR r) _ (range_keep hS HBR.out) Tryz.underlying46 (by rfl) (infoR (r := r)) ?_; simp only [Act.put, sA, sB, sC]; with_reducible refine hK _ _ (Below.refl _ _) ?_
   exact rfl
  ·as_aux_lemma =>
   intro vs W hS hdep K hK; have d0 := hdep ⟨1, .data⟩ (by simp) rfl; simp only [PhiCv3] at d0; refine @exE1 _ _ _ d0 ?_; clear d0; intro q0 d0; have e0 := d0; clear d0; have d1 := hdep ⟨2, .data⟩ (by simp) rfl; simp only [PhiCv3] at d1; refine ⟨?_⟩; simp only [Act.put, sA, sB, sC, Nat.zero_add, Nat.reduceAdd, e0, d1] at hK ⊢; rw [if_pos (by rfl)]; refine wp_sliceN 51 46 2 [(0, .tmp 31), (1, .tmp 32)] rfl (cellsR q0 ++ cellsR r).toArray iR zeroR 22 [(0, .agg (cellsR q0).toArray), (1, .agg (cellsR r).toArray)] Tryz.underlying51 hiR hzR hzR1 (by omega) (by omega) rfl (fill_rs2 q0 r) ?_; simp only [Act.put, sA, sB, sC]; with_reducible refine hK _ _ (bA _ _) ?_
   exact ⟨_, q0, rfl, Blk.new _ _ _⟩
  ·as_aux_lemma =>
   intro vs W hS hdep K hK; have d0 := hdep ⟨3, .data⟩ (by simp) rfl; simp only [PhiCv3] at d0; refine @exE2 _ _ _ _ d0 ?_; clear d0; intro g0 q0 d0; have e0 := d0.1; have k0 := d0.2; clear d0; refine ⟨?_⟩; simp only [Act.put, sA, sB, sC, Nat.zero_add, Nat.reduceAdd, e0] at hK ⊢; go_simp; with_reducible refine hK _ _ (Below.refl _ _) ?_
   exact ⟨_, _, rfl, k0⟩
 ·intro vs w3 hS hv; have v4 := hv 4 (by simp); simp only [PhiCv3] at v4; obtain ⟨gS, rq, v4, BS⟩ := v4; simp only [Act.put, sA, sB, sC, Nat.zero_add, Nat.reduceAdd, v4]; have BT := Blk.below BT hS BT.lt; have HPL := Lib.hid (HPL.out.below hS); have hbw := Below.tr hbw hS; clear v4 hv hS HBR BR; go_wp2_with fail
  go_loopg [16] k (fun mm x wr => ∃ i : Nat, x = .int .i64 i ∧ i + mm = k ∧ Below w3.heap.size w3 wr)
  case atStart => exact ⟨0, rfl, by omega, Below.refl _ _⟩
  case round =>
   obtain ⟨G, hG⟩ : ∃ G, G = gk := ⟨gk, rfl⟩; subst hG; obtain ⟨i, rfl, him, hbe⟩ := hrel; obtain ⟨wi, hwi⟩ : ∃ x, x = wr := ⟨_, rfl⟩; subst hwi; by_cases hi : i < k
   ·have u1 : decide ((i : Int) < (k : Int)) = true := by simp; omega
    have li : (i : Int) < (k : Int) := by omega
    have hil : i < ps.length := by have := HKL.out; omega
    obtain ⟨p, HP⟩ : ∃ p, Hid (ps[i] = p ∧ ps[i]? = some p) := ⟨_, rfl, List.getElem?_eq_getElem hil⟩; have HEP0 := Lib.hid (HPL.out.esc i p HP.out.2); have HDP := Lib.hid (HPL.out.dk i p HP.out.2); obtain ⟨b, off, hA, HCP0⟩ := HPL.out.row.at_ cellsP_len (by omega) hi hil; rw [HP.out.1] at HCP0; subst hA; go_wp2_with fail
    go_loopg [17] 6 (fun mm x wr => ∃ j : Nat, x = .int .i64 j ∧ j + mm = 6 ∧ Below wi.heap.size wi wr)
    case atStart => exact ⟨0, rfl, rfl, Below.refl _ _⟩
    case round =>
     obtain ⟨G2, hG2⟩ : ∃ G, G = gk := ⟨gk, rfl⟩; subst hG2; obtain ⟨j, rfl, hjm, hbe2⟩ := hrel; obtain ⟨wj, hwj⟩ : ∃ x, x = wr := ⟨_, rfl⟩; subst hwj; by_cases hj : j < 6
     ·have u2 : decide ((j : Int) < 6) = true := by simp; omega
      have lj : (j : Int) < 6 := by omega
      obtain ⟨m3, HM3⟩ : ∃ m, Hid (j % 3 = m) := ⟨_, rfl⟩; obtain ⟨q3, HQ3⟩ : ∃ m, Hid (j / 3 = m) := ⟨_, rfl⟩; have hm3 : (j : Int).tmod 3 = (m3 : Int) := by rw [Int.tmod_eq_emod_of_nonneg (by omega)]; have := HM3.out; omega
      have hq3 : (j : Int) / 3 = (q3 : Int) := by have := HQ3.out; omega
      have lm3 : m3 < 3 := by have := HM3.out; omega
      have hwq3 : IntKind.i64.wrap (q3 : Int) = (q3 : Int) := by rw [IntWalk.i64_in _ (by have := HQ3.out; omega)]
      have lq3 : q3 < 2 := by have := HQ3.out; omega
      have lm3' : (m3 : Int) < 3 := by omega
      have lq3' : (q3 : Int) < 2 := by omega
      have hb3 := Below.tr hbe hbe2; obtain ⟨s3, hs3⟩ := three_str BT lm3; obtain ⟨r3, hr3⟩ := two_res BS lq3; have HCS : Hid (wj.cell? ⟨gT, m3, none⟩ = some (.string s3)) := cell_keep hb3 hs3; have HCR : Hid (∀ j v, (cellsR r3)[j]? = some v → wj.cell? ⟨gS, q3 * 22 + j, none⟩ = some v) := fun j v h => cell_keep hb3 (hr3 j v h)
      have HCP : Hid (∀ j v, (cellsP p)[j]? = some v → wj.cell? ⟨b, off + i * 24 + j, none⟩ = some v) := fun j v h => cell_keep hb3 (HCP0.out j v h)
      have hcc : (covB p s3 r3 != covB p s3 r3) = false := by simp
      clear hs3 hr3; go_upto_region 10 with fail; refine region_invF (PhiCv10 (some ⟨b, off, none⟩) k c b off i j m3 q3 gT gS p s3 r3) (fun w w' => Below w.heap.size w w') (fun X => Below wj.heap.size wj X) (by kernel_rfl) (by kernel_rfl) (by kernel_rfl) PhiCv10.keep (fun _ _ hR hS => Below.tr hS hR) (bD _) (fun vs => by simp only [fillR, Act.put, sA, sB, sC, Nat.zero_add, Nat.reduceAdd]; rfl) ?_ ?_
      ·refine sK ?_ (sK ?_ (sK ?_ (sK ?_ (sK ?_ (sK ?_ (sK ?_ (sK ?_ (sK ?_ (sK ?_ (sK ?_ (sK ?_ (sK ?_ (sK ?_ (sK ?_ (sK ?_ (sK ?_ (sK ?_ (sK ?_ (sK ?_ (sK ?_ (sK ?_ (sK ?_ (sK ?_ (sK ?_ (sK ?_ (sK ?_ (sK ?_ (sK ?_ (sK ?_ (sK ?_ (sZ)))))))))))))))))))))))))))))))
       ·as_aux_lemma =>
        intro vs W hS hdep K hK; refine ⟨?_⟩; simp only [Act.put, sA, sB, sC, Nat.zero_add, Nat.reduceAdd] at hK ⊢; go_simp; with_reducible refine hK _ _ (Below.refl _ _) ?_
        exact rfl
       ·as_aux_lemma =>
        intro vs W hS hdep K hK; refine ⟨?_⟩; simp only [Act.put, sA, sB, sC, Nat.zero_add, Nat.reduceAdd] at hK ⊢; go_simp; with_reducible refine hK _ _ (Below.refl _ _) ?_
        exact rfl
       ·as_aux_lemma =>
        intro vs W hS hdep K hK; have d0 := hdep ⟨0, .data⟩ (by simp) rfl; simp only [PhiCv10] at d0; have d1 := hdep ⟨1, .data⟩ (by simp) rfl; simp only [PhiCv10] at d1; refine ⟨?_⟩; simp only [Act.put, sA, sB, sC, Nat.zero_add, Nat.reduceAdd, d0, d1] at hK ⊢; go_simp; with_reducible refine hK _ _ (Below.refl _ _) ?_
        exact rfl
       ·as_aux_lemma =>
        intro vs W hS hdep K hK; have d0 := hdep ⟨2, .data⟩ (by simp) rfl; simp only [PhiCv10] at d0; refine ⟨?_⟩; simp only [Act.put, sA, sB, sC, Nat.zero_add, Nat.reduceAdd, d0] at hK ⊢; rw [if_pos (by rfl)]; refine wp_load_mid 33 (.tmp 46) (by rfl) b (off + i * 24) (by rfl) (cellsP p) _ (fun j v h => cell_keep hS (HCP.out j v h)) Tryz.underlying33 (by rfl) infoP ?_; simp only [Act.put, sA, sB, sC]; with_reducible refine hK _ _ (Below.refl _ _) ?_
        exact rfl
       ·as_aux_lemma =>
        intro vs W hS hdep K hK; refine ⟨?_⟩; simp only [Act.put, sA, sB, sC, Nat.zero_add, Nat.reduceAdd] at hK ⊢; go_simp; with_reducible refine hK _ _ (Below.refl _ _) ?_
        exact rfl
       ·as_aux_lemma =>
        intro vs W hS hdep K hK; refine ⟨?_⟩; simp only [Act.put, sA, sB, sC, Nat.zero_add, Nat.reduceAdd] at hK ⊢; go_simp; with_reducible refine hK _ _ (Below.refl _ _) ?_
        exact rfl
       ·as_aux_lemma =>
        intro vs W hS hdep K hK; have d0 := hdep ⟨5, .data⟩ (by simp) rfl; simp only [PhiCv10] at d0; have q1 := hm3; refine ⟨?_⟩; simp only [Act.put, sA, sB, sC, Nat.zero_add, Nat.reduceAdd, d0] at hK ⊢; go_simp; with_reducible refine hK _ _ (Below.refl _ _) ?_
        exact rfl
       ·as_aux_lemma =>
        intro vs W hS hdep K hK; have d0 := hdep ⟨4, .data⟩ (by simp) rfl; simp only [PhiCv10] at d0; have d1 := hdep ⟨6, .data⟩ (by simp) rfl; simp only [PhiCv10] at d1; refine ⟨?_⟩; simp only [Act.put, sA, sB, sC, Nat.zero_add, Nat.reduceAdd, d0, d1] at hK ⊢; go_simp; with_reducible refine hK _ _ (Below.refl _ _) ?_
        exact rfl
       ·as_aux_lemma =>
        intro vs W hS hdep K hK; have d0 := hdep ⟨7, .data⟩ (by simp) rfl; simp only [PhiCv10] at d0; have f1 := cell_keep hS HCS.out; refine ⟨?_⟩; simp only [Act.put, sA, sB, sC, Nat.zero_add, Nat.reduceAdd, d0] at hK ⊢; go_simp; with_reducible refine hK _ _ (Below.refl _ _) ?_
        exact rfl
       ·as_aux_lemma =>
        intro vs W hS hdep K hK; refine ⟨?_⟩; simp only [Act.put, sA, sB, sC, Nat.zero_add, Nat.reduceAdd] at hK ⊢; go_simp; with_reducible refine hK _ _ (Below.refl _ _) ?_
        exact rfl
       ·as_aux_lemma =>
        intro vs W hS hdep K hK; refine ⟨?_⟩; simp only [Act.put, sA, sB, sC, Nat.zero_add, Nat.reduceAdd] at hK ⊢; go_simp; with_reducible refine hK _ _ (Below.refl _ _) ?_
        exact rfl
       ·as_aux_lemma =>
        intro vs W hS hdep K hK; have d0 := hdep ⟨10, .data⟩ (by simp) rfl; simp only [PhiCv10] at d0; have q1 := hq3; have q2 := hwq3; refine ⟨?_⟩; simp only [Act.put, sA, sB, sC, Nat.zero_add, Nat.reduceAdd, d0] at hK ⊢; go_simp; with_reducible refine hK _ _ (Below.refl _ _) ?_
        exact rfl
       ·as_aux_lemma =>
        intro vs W hS hdep K hK; have d0 := hdep ⟨9, .data⟩ (by simp) rfl; simp only [PhiCv10] at d0; have d1 := hdep ⟨11, .data⟩ (by simp) rfl; simp only [PhiCv10] at d1; refine ⟨?_⟩; simp only [Act.put, sA, sB, sC, Nat.zero_add, Nat.reduceAdd, d0, d1] at hK ⊢; go_simp; with_reducible refine hK _ _ (Below.refl _ _) ?_
        exact rfl
       ·as_aux_lemma =>
        intro vs W hS hdep K hK; have d0 := hdep ⟨12, .data⟩ (by simp) rfl; simp only [PhiCv10] at d0; refine ⟨?_⟩; simp only [Act.put, sA, sB, sC, Nat.zero_add, Nat.reduceAdd, d0] at hK ⊢; rw [if_pos (by rfl)]; refine wp_load_mid 46 (.tmp 56) (by rfl) gS (q3 * 22) (by rfl) (cellsR r3) _ (fun j v h => cell_keep hS (HCR.out j v h)) Tryz.underlying46 (by rfl) (infoR (r := r3)) ?_; simp only [Act.put, sA, sB, sC]; with_reducible refine hK _ _ (Below.refl _ _) ?_
        exact rfl
       ·as_aux_lemma =>
        intro vs W hS hdep K hK; have d0 := hdep ⟨3, .data⟩ (by simp) rfl; simp only [PhiCv10] at d0; have d1 := hdep ⟨8, .data⟩ (by simp) rfl; simp only [PhiCv10] at d1; have d2 := hdep ⟨13, .data⟩ (by simp) rfl; simp only [PhiCv10] at d2; refine ⟨?_⟩; simp only [Act.put, sA, sB, sC, Nat.zero_add, Nat.reduceAdd, d0, d1, d2] at hK ⊢; go_simp; refine (covers_n p s3 r3 _).mono ?_; rintro e w' ⟨rfl, hb⟩; go_wp2_with fail; with_reducible refine hK _ _ hb ?_
        exact rfl
       ·as_aux_lemma =>
        intro vs W hS hdep K hK; refine ⟨?_⟩; simp only [Act.put, sA, sB, sC, Nat.zero_add, Nat.reduceAdd] at hK ⊢; go_simp; with_reducible refine hK _ _ (Below.refl _ _) ?_
        exact rfl
       ·as_aux_lemma =>
        intro vs W hS hdep K hK; refine ⟨?_⟩; simp only [Act.put, sA, sB, sC, Nat.zero_add, Nat.reduceAdd] at hK ⊢; go_simp; with_reducible refine hK _ _ (Below.refl _ _) ?_
        exact rfl
       ·as_aux_lemma =>
        intro vs W hS hdep K hK; have d0 := hdep ⟨15, .data⟩ (by simp) rfl; simp only [PhiCv10] at d0; have d1 := hdep ⟨16, .data⟩ (by simp) rfl; simp only [PhiCv10] at d1; refine ⟨?_⟩; simp only [Act.put, sA, sB, sC, Nat.zero_add, Nat.reduceAdd, d0, d1] at hK ⊢; go_simp; with_reducible refine hK _ _ (Below.refl _ _) ?_
        exact rfl
       ·as_aux_lemma =>
        intro vs W hS hdep K hK; have d0 := hdep ⟨17, .data⟩ (by simp) rfl; simp only [PhiCv10] at d0; refine ⟨?_⟩; simp only [Act.put, sA, sB, sC, Nat.zero_add, Nat.reduceAdd, d0] at hK ⊢; rw [if_pos (by rfl)]; refine wp_load_mid 33 (.tmp 61) (by rfl) b (off + i * 24) (by rfl) (cellsP p) _ (fun j v h => cell_keep hS (HCP.out j v h)) Tryz.underlying33 (by rfl) infoP ?_; simp only [Act.put, sA, sB, sC]; with_reducible refine hK _ _ (Below.refl _ _) ?_
        exact rfl
       ·as_aux_lemma =>
        intro vs W hS hdep K hK; refine ⟨?_⟩; simp only [Act.put, sA, sB, sC, Nat.zero_add, Nat.reduceAdd] at hK ⊢; go_simp; with_reducible refine hK _ _ (Below.refl _ _) ?_
        exact rfl
       ·as_aux_lemma =>
        intro vs W hS hdep K hK; refine ⟨?_⟩; simp only [Act.put, sA, sB, sC, Nat.zero_add, Nat.reduceAdd] at hK ⊢; go_simp; with_reducible refine hK _ _ (Below.refl _ _) ?_
        exact rfl
       ·as_aux_lemma =>
        intro vs W hS hdep K hK; have d0 := hdep ⟨20, .data⟩ (by simp) rfl; simp only [PhiCv10] at d0; have q1 := hm3; refine ⟨?_⟩; simp only [Act.put, sA, sB, sC, Nat.zero_add, Nat.reduceAdd, d0] at hK ⊢; go_simp; with_reducible refine hK _ _ (Below.refl _ _) ?_
        exact rfl
       ·as_aux_lemma =>
        intro vs W hS hdep K hK; have d0 := hdep ⟨19, .data⟩ (by simp) rfl; simp only [PhiCv10] at d0; have d1 := hdep ⟨21, .data⟩ (by simp) rfl; simp only [PhiCv10] at d1; refine ⟨?_⟩; simp only [Act.put, sA, sB, sC, Nat.zero_add, Nat.reduceAdd, d0, d1] at hK ⊢; go_simp; with_reducible refine hK _ _ (Below.refl _ _) ?_
        exact rfl
       ·as_aux_lemma =>
        intro vs W hS hdep K hK; have d0 := hdep ⟨22, .data⟩ (by simp) rfl; simp only [PhiCv10] at d0; have f1 := cell_keep hS HCS.out; refine ⟨?_⟩; simp only [Act.put, sA, sB, sC, Nat.zero_add, Nat.reduceAdd, d0] at hK ⊢; go_simp; with_reducible refine hK _ _ (Below.refl _ _) ?_
        exact rfl
       ·as_aux_lemma =>
        intro vs W hS hdep K hK; refine ⟨?_⟩; simp only [Act.put, sA, sB, sC, Nat.zero_add, Nat.reduceAdd] at hK ⊢; go_simp; with_reducible refine hK _ _ (Below.refl _ _) ?_
        exact rfl
       ·as_aux_lemma =>
        intro vs W hS hdep K hK; refine ⟨?_⟩; simp only [Act.put, sA, sB, sC, Nat.zero_add, Nat.reduceAdd] at hK ⊢; go_simp; with_reducible refine hK _ _ (Below.refl _ _) ?_
        exact rfl
       ·as_aux_lemma =>
        intro vs W hS hdep K hK; have d0 := hdep ⟨25, .data⟩ (by simp) rfl; simp only [PhiCv10] at d0; have q1 := hq3; have q2 := hwq3; refine ⟨?_⟩; simp only [Act.put, sA, sB, sC, Nat.zero_add, Nat.reduceAdd, d0] at hK ⊢; go_simp; with_reducible refine hK _ _ (Below.refl _ _) ?_
        exact rfl
       ·as_aux_lemma =>
        intro vs W hS hdep K hK; have d0 := hdep ⟨24, .data⟩ (by simp) rfl; simp only [PhiCv10] at d0; have d1 := hdep ⟨26, .data⟩ (by simp) rfl; simp only [PhiCv10] at d1; refine ⟨?_⟩; simp only [Act.put, sA, sB, sC, Nat.zero_add, Nat.reduceAdd, d0, d1] at hK ⊢; go_simp; with_reducible refine hK _ _ (Below.refl _ _) ?_
        exact rfl
       ·as_aux_lemma =>
        intro vs W hS hdep K hK; have d0 := hdep ⟨27, .data⟩ (by simp) rfl; simp only [PhiCv10] at d0; refine ⟨?_⟩; simp only [Act.put, sA, sB, sC, Nat.zero_add, Nat.reduceAdd, d0] at hK ⊢; rw [if_pos (by rfl)]; refine wp_load_mid 46 (.tmp 71) (by rfl) gS (q3 * 22) (by rfl) (cellsR r3) _ (fun j v h => cell_keep hS (HCR.out j v h)) Tryz.underlying46 (by rfl) (infoR (r := r3)) ?_; simp only [Act.put, sA, sB, sC]; with_reducible refine hK _ _ (Below.refl _ _) ?_
        exact rfl
       ·as_aux_lemma =>
        intro vs W hS hdep K hK; have d0 := hdep ⟨18, .data⟩ (by simp) rfl; simp only [PhiCv10] at d0; have d1 := hdep ⟨23, .data⟩ (by simp) rfl; simp only [PhiCv10] at d1; have d2 := hdep ⟨28, .data⟩ (by simp) rfl; simp only [PhiCv10] at d2; refine ⟨?_⟩; simp only [Act.put, sA, sB, sC, Nat.zero_add, Nat.reduceAdd, d0, d1, d2] at hK ⊢; go_simp; refine (rcovers_n p s3 r3 _).mono ?_; rintro e w' ⟨rfl, hb⟩; go_wp2_with fail; with_reducible refine hK _ _ hb ?_
        exact rfl
       ·as_aux_lemma =>
        intro vs W hS hdep K hK; have d0 := hdep ⟨14, .data⟩ (by simp) rfl; simp only [PhiCv10] at d0; have d1 := hdep ⟨29, .data⟩ (by simp) rfl; simp only [PhiCv10] at d1; have q1 := hcc; refine ⟨?_⟩; simp only [Act.put, sA, sB, sC, Nat.zero_add, Nat.reduceAdd, d0, d1] at hK ⊢; go_simp; with_reducible refine hK _ _ (Below.refl _ _) ?_
        exact rfl
      ·intro vs w4 hS hv; have v30 := hv 30 (by simp); simp only [PhiCv10] at v30; simp only [Act.put, sA, sB, sC, Nat.zero_add, Nat.reduceAdd, v30]; have hbe2 := Below.tr hbe2 hS; clear v30 hv hS HCS HCR HCP; go_wp2_with fail
       go_roundg (G2 - 1)
       case measure => omega
       case rel => exact ⟨j + 1, by go_num, by omega, hbe2⟩
     ·have u2 : decide ((j : Int) < 6) = false := by simp; omega
      have hbe := Below.tr hbe hbe2; go_wp2_with fail
      go_loopg [18] k (fun mm x wr => ∃ m : Nat, x = .int .i64 m ∧ m + mm = k ∧ Below wj.heap.size wj wr)
      case atStart => exact ⟨0, rfl, by omega, Below.refl _ _⟩
      case round =>
       obtain ⟨G3, hG3⟩ : ∃ G, G = gk := ⟨gk, rfl⟩; subst hG3; obtain ⟨m, rfl, hmm, hbe3⟩ := hrel; obtain ⟨wm, hwm⟩ : ∃ x, x = wr := ⟨_, rfl⟩; subst hwm; by_cases hm : m < k
       ·have u3 : decide ((m : Int) < (k : Int)) = true := by simp; omega
        have lm : (m : Int) < (k : Int) := by omega
        have hml : m < ps.length := by have := HKL.out; omega
        obtain ⟨q, HQ⟩ : ∃ p, Hid (ps[m] = p ∧ ps[m]? = some p) := ⟨_, rfl, List.getElem?_eq_getElem hml⟩; have hb4 := Below.tr hbe hbe3; have hplm := HPL.out.below hb4; obtain ⟨b', off', hA', HCQ⟩ := hplm.row.at_ cellsP_len (by omega) hm hml; injection hA' with hA'; injection hA' with e1 e2; subst e1 e2; rw [HQ.out.1] at HCQ; have HCP : Hid (∀ j v, (cellsP p)[j]? = some v → wm.cell? ⟨b, off + i * 24 + j, none⟩ = some v) := fun j v h => cell_keep hb4 (HCP0.out j v h)
        have HEP := Lib.hid (hplm.esc i p HP.out.2); have HEQ := Lib.hid (hplm.esc m q HQ.out.2); have HDQ := Lib.hid (hplm.dk m q HQ.out.2); obtain ⟨cb, HC⟩ : ∃ cb, Hid (cb = clA Ev Lf dg ps i m) := ⟨_, rfl⟩; have HCB : Hid (∀ (E F : Int) (cb' : Bool), (PVal p (Lf i).1 (Lf i).2 E ∧ (E = 0 → PVal q (Lf m).1 (Lf m).2 F) ∧ cb' = clB E F p q (dg i) (dg m) (sameR (Lf i).1 (Lf i).2 (Lf m).1 (Lf m).2)) → cb' = cb) := fun E F cb' h => (clA_of HPL.out.pv HP.out.2 HQ.out.2 h).trans HC.out.symm
        have HCD : Hid (∀ (E F : Int) (cb' : Bool), (PVal q (Lf m).1 (Lf m).2 E ∧ (E = 0 → PVal p (Lf i).1 (Lf i).2 F) ∧ cb' = clB E F q p (dg m) (dg i) (sameR (Lf m).1 (Lf m).2 (Lf i).1 (Lf i).2)) → cb' = cb) := fun E F cb' h => (clA_of HPL.out.pv HQ.out.2 HP.out.2 h).trans ((clA_comm _ _ _ _ _ _).trans HC.out.symm)
        have hbb : (cb != cb) = false := by simp
        clear hplm; go_upto_region 15 with fail; refine region_invF (PhiCv15 (some ⟨b, off, none⟩) k c b off i m p q cb) (fun w w' => Below w.heap.size w w') (fun X => Below wm.heap.size wm X) (by kernel_rfl) (by kernel_rfl) (by kernel_rfl) PhiCv15.keep (fun _ _ hR hS => Below.tr hS hR) (bD _) (fun vs => by simp only [fillR, Act.put, sA, sB, sC, Nat.zero_add, Nat.reduceAdd]; rfl) ?_ ?_
        ·refine sK ?_ (sK ?_ (sK ?_ (sK ?_ (sK ?_ (sK ?_ (sK ?_ (sK ?_ (sK ?_ (sK ?_ (sZ))))))))))
         ·as_aux_lemma =>
          intro vs W hS hdep K hK; refine ⟨?_⟩; simp only [Act.put, sA, sB, sC, Nat.zero_add, Nat.reduceAdd] at hK ⊢; go_simp; with_reducible refine hK _ _ (Below.refl _ _) ?_
          exact rfl
         ·as_aux_lemma =>
          intro vs W hS hdep K hK; refine ⟨?_⟩; simp only [Act.put, sA, sB, sC, Nat.zero_add, Nat.reduceAdd] at hK ⊢; go_simp; with_reducible refine hK _ _ (Below.refl _ _) ?_
          exact rfl
         ·as_aux_lemma =>
          intro vs W hS hdep K hK; have d0 := hdep ⟨0, .data⟩ (by simp) rfl; simp only [PhiCv15] at d0; have d1 := hdep ⟨1, .data⟩ (by simp) rfl; simp only [PhiCv15] at d1; refine ⟨?_⟩; simp only [Act.put, sA, sB, sC, Nat.zero_add, Nat.reduceAdd, d0, d1] at hK ⊢; go_simp; with_reducible refine hK _ _ (Below.refl _ _) ?_
          exact rfl
         ·as_aux_lemma =>
          intro vs W hS hdep K hK; have d0 := hdep ⟨2, .data⟩ (by simp) rfl; simp only [PhiCv15] at d0; refine ⟨?_⟩; simp only [Act.put, sA, sB, sC, Nat.zero_add, Nat.reduceAdd, d0] at hK ⊢; rw [if_pos (by rfl)]; refine wp_load_mid 33 (.tmp 83) (by rfl) b (off + i * 24) (by rfl) (cellsP p) _ (fun j v h => cell_keep hS (HCP.out j v h)) Tryz.underlying33 (by rfl) infoP ?_; simp only [Act.put, sA, sB, sC]; with_reducible refine hK _ _ (Below.refl _ _) ?_
          exact rfl
         ·as_aux_lemma =>
          intro vs W hS hdep K hK; refine ⟨?_⟩; simp only [Act.put, sA, sB, sC, Nat.zero_add, Nat.reduceAdd] at hK ⊢; go_simp; with_reducible refine hK _ _ (Below.refl _ _) ?_
          exact rfl
         ·as_aux_lemma =>
          intro vs W hS hdep K hK; refine ⟨?_⟩; simp only [Act.put, sA, sB, sC, Nat.zero_add, Nat.reduceAdd] at hK ⊢; go_simp; with_reducible refine hK _ _ (Below.refl _ _) ?_
          exact rfl
         ·as_aux_lemma =>
          intro vs W hS hdep K hK; have d0 := hdep ⟨4, .data⟩ (by simp) rfl; simp only [PhiCv15] at d0; have d1 := hdep ⟨5, .data⟩ (by simp) rfl; simp only [PhiCv15] at d1; refine ⟨?_⟩; simp only [Act.put, sA, sB, sC, Nat.zero_add, Nat.reduceAdd, d0, d1] at hK ⊢; go_simp; with_reducible refine hK _ _ (Below.refl _ _) ?_
          exact rfl
         ·as_aux_lemma =>
          intro vs W hS hdep K hK; have d0 := hdep ⟨6, .data⟩ (by simp) rfl; simp only [PhiCv15] at d0; refine ⟨?_⟩; simp only [Act.put, sA, sB, sC, Nat.zero_add, Nat.reduceAdd, d0] at hK ⊢; rw [if_pos (by rfl)]; refine wp_load_mid 33 (.tmp 87) (by rfl) b (off + m * 24) (by rfl) (cellsP q) _ (fun j v h => cell_keep hS (HCQ.out j v h)) Tryz.underlying33 (by rfl) infoP ?_; simp only [Act.put, sA, sB, sC]; with_reducible refine hK _ _ (Below.refl _ _) ?_
          exact rfl
         ·as_aux_lemma =>
          intro vs W hS hdep K hK; have d0 := hdep ⟨3, .data⟩ (by simp) rfl; simp only [PhiCv15] at d0; have d1 := hdep ⟨7, .data⟩ (by simp) rfl; simp only [PhiCv15] at d1; refine ⟨?_⟩; simp only [Act.put, sA, sB, sC, Nat.zero_add, Nat.reduceAdd, d0, d1] at hK ⊢; go_simp; refine (clash_n p q (Lf i).1 (Lf i).2 (Lf m).1 (Lf m).2 (dg i) (dg m) _ (HEP.out.1.below hS) (HEQ.out.1.below hS) HEP.out.2.1 HEP.out.2.2 HEQ.out.2.1 HEQ.out.2.2 HDP.out HDQ.out).mono ?_; rintro e w' ⟨E, F, cb', rfl, HX, hb⟩; obtain rfl : cb' = cb := HCB.out E F cb' HX.out; go_wp2_with fail; with_reducible refine hK _ _ hb ?_
          exact rfl
         ·as_aux_lemma =>
          intro vs W hS hdep K hK; have d0 := hdep ⟨8, .data⟩ (by simp) rfl; simp only [PhiCv15] at d0; refine ⟨?_⟩; simp only [Act.put, sA, sB, sC, Nat.zero_add, Nat.reduceAdd, d0] at hK ⊢; go_simp; with_reducible refine hK _ _ (Below.refl _ _) ?_
          exact rfl
        ·intro vs w5 hS5 hv; have v9 := hv 9 (by simp); simp only [PhiCv15] at v9; simp only [Act.put, sA, sB, sC, Nat.zero_add, Nat.reduceAdd, v9]; clear v9 hv; have HCP : Hid (∀ j v, (cellsP p)[j]? = some v → w5.cell? ⟨b, off + i * 24 + j, none⟩ = some v) := fun j v h => cell_keep hS5 (HCP.out j v h)
         have HCQ : Hid (∀ j v, (cellsP q)[j]? = some v → w5.cell? ⟨b, off + m * 24 + j, none⟩ = some v) := fun j v h => cell_keep hS5 (HCQ.out j v h)
         have HEP : Hid (RtL w5 (.agg #[p.b1, p.b2]) (Lf i).1 (Lf i).2 ∧ p.test.size ≤ 9223372036854775807 ∧ p.wh.size ≤ 9223372036854775807) := ⟨HEP.out.1.below hS5, HEP.out.2⟩; have HEQ : Hid (RtL w5 (.agg #[q.b1, q.b2]) (Lf m).1 (Lf m).2 ∧ q.test.size ≤ 9223372036854775807 ∧ q.wh.size ≤ 9223372036854775807) := ⟨HEQ.out.1.below hS5, HEQ.out.2⟩; have hbe3 := Below.tr hbe3 hS5; clear hS5 hb4; go_upto_region 16 with fail; by_cases him2 : i = m
         ·have heq : ((i : Int) == (m : Int)) = true := by simp; omega
          obtain rfl : cb = false := by rw [HC.out, him2]; exact clA_irr _ _ _ _ _
          clear him2; refine region_invF (PhiCv16A (some ⟨b, off, none⟩) k c b off i m p q false) (fun w w' => Below w.heap.size w w') (fun X => Below w5.heap.size w5 X) (by kernel_rfl) (by kernel_rfl) (by kernel_rfl) PhiCv16A.keep (fun _ _ hR hS => Below.tr hS hR) (bD _) (fun vs => by simp only [fillR, Act.put, sA, sB, sC, Nat.zero_add, Nat.reduceAdd]; rfl) ?_ ?_
          ·refine sK ?_ (sK ?_ (sK ?_ (sK ?_ (sK ?_ (sK ?_ (sK ?_ (sK ?_ (sK ?_ (sK ?_ (sK ?_ (sK ?_ (sK ?_ (sK ?_ (sK ?_ (sK ?_ (sK ?_ (sK ?_ (sK ?_ (sK ?_ (sK ?_ (sK ?_ (sK ?_ (sK ?_ (sK ?_ (sK ?_ (sK ?_ (sK ?_ (sK ?_ (sK ?_ (sK ?_ (sK ?_ (sZ))))))))))))))))))))))))))))))))
           ·as_aux_lemma =>
            intro vs W hS hdep K hK; refine ⟨?_⟩; simp only [Act.put, sA, sB, sC, Nat.zero_add, Nat.reduceAdd] at hK ⊢; go_simp; with_reducible refine hK _ _ (Below.refl _ _) ?_
            exact rfl
           ·as_aux_lemma =>
            intro vs W hS hdep K hK; refine ⟨?_⟩; simp only [Act.put, sA, sB, sC, Nat.zero_add, Nat.reduceAdd] at hK ⊢; go_simp; with_reducible refine hK _ _ (Below.refl _ _) ?_
            exact rfl
           ·as_aux_lemma =>
            intro vs W hS hdep K hK; refine ⟨?_⟩; simp only [Act.put, sA, sB, sC, Nat.zero_add, Nat.reduceAdd] at hK ⊢; go_simp; with_reducible refine hK _ _ (Below.refl _ _) ?_
            exact rfl
           ·as_aux_lemma =>
            intro vs W hS hdep K hK; have d0 := hdep ⟨1, .data⟩ (by simp) rfl; simp only [PhiCv16A] at d0; have d1 := hdep ⟨2, .data⟩ (by simp) rfl; simp only [PhiCv16A] at d1; refine ⟨?_⟩; simp only [Act.put, sA, sB, sC, Nat.zero_add, Nat.reduceAdd, d0, d1] at hK ⊢; go_simp; with_reducible refine hK _ _ (Below.refl _ _) ?_
            exact rfl
           ·as_aux_lemma =>
            intro vs W hS hdep K hK; have d0 := hdep ⟨3, .data⟩ (by simp) rfl; simp only [PhiCv16A] at d0; refine ⟨?_⟩; simp only [Act.put, sA, sB, sC, Nat.zero_add, Nat.reduceAdd, d0] at hK ⊢; rw [if_pos (by rfl)]; refine wp_load_mid 33 (.tmp 93) (by rfl) b (off + i * 24) (by rfl) (cellsP p) _ (fun j v h => cell_keep hS (HCP.out j v h)) Tryz.underlying33 (by rfl) infoP ?_; simp only [Act.put, sA, sB, sC]; with_reducible refine hK _ _ (Below.refl _ _) ?_
            exact rfl
           ·as_aux_lemma =>
            intro vs W hS hdep K hK; refine ⟨?_⟩; simp only [Act.put, sA, sB, sC, Nat.zero_add, Nat.reduceAdd] at hK ⊢; go_simp; with_reducible refine hK _ _ (Below.refl _ _) ?_
            exact rfl
           ·as_aux_lemma =>
            intro vs W hS hdep K hK; refine ⟨?_⟩; simp only [Act.put, sA, sB, sC, Nat.zero_add, Nat.reduceAdd] at hK ⊢; go_simp; with_reducible refine hK _ _ (Below.refl _ _) ?_
            exact rfl
           ·as_aux_lemma =>
            intro vs W hS hdep K hK; have d0 := hdep ⟨5, .data⟩ (by simp) rfl; simp only [PhiCv16A] at d0; have d1 := hdep ⟨6, .data⟩ (by simp) rfl; simp only [PhiCv16A] at d1; refine ⟨?_⟩; simp only [Act.put, sA, sB, sC, Nat.zero_add, Nat.reduceAdd, d0, d1] at hK ⊢; go_simp; with_reducible refine hK _ _ (Below.refl _ _) ?_
            exact rfl
           ·as_aux_lemma =>
            intro vs W hS hdep K hK; have d0 := hdep ⟨7, .data⟩ (by simp) rfl; simp only [PhiCv16A] at d0; refine ⟨?_⟩; simp only [Act.put, sA, sB, sC, Nat.zero_add, Nat.reduceAdd, d0] at hK ⊢; rw [if_pos (by rfl)]; refine wp_load_mid 33 (.tmp 97) (by rfl) b (off + m * 24) (by rfl) (cellsP q) _ (fun j v h => cell_keep hS (HCQ.out j v h)) Tryz.underlying33 (by rfl) infoP ?_; simp only [Act.put, sA, sB, sC]; with_reducible refine hK _ _ (Below.refl _ _) ?_
            exact rfl
           ·as_aux_lemma =>
            intro vs W hS hdep K hK; have d0 := hdep ⟨4, .data⟩ (by simp) rfl; simp only [PhiCv16A] at d0; have d1 := hdep ⟨8, .data⟩ (by simp) rfl; simp only [PhiCv16A] at d1; refine ⟨?_⟩; simp only [Act.put, sA, sB, sC, Nat.zero_add, Nat.reduceAdd, d0, d1] at hK ⊢; go_simp; refine (rclash_n p q (Lf i).1 (Lf i).2 (Lf m).1 (Lf m).2 (dg i) (dg m) _ (HEP.out.1.below hS) (HEQ.out.1.below hS) HEP.out.2.1 HEP.out.2.2 HEQ.out.2.1 HEQ.out.2.2 HDP.out HDQ.out).mono ?_; rintro e w' ⟨E, F, cb', rfl, HX, hb⟩; obtain rfl : cb' = false := HCB.out E F cb' HX.out; go_wp2_with fail; with_reducible refine hK _ _ hb ?_
            exact rfl
           ·as_aux_lemma =>
            intro vs W hS hdep K hK; have d0 := hdep ⟨0, .data⟩ (by simp) rfl; simp only [PhiCv16A] at d0; have d1 := hdep ⟨9, .data⟩ (by simp) rfl; simp only [PhiCv16A] at d1; have q1 := hbb; refine ⟨?_⟩; simp only [Act.put, sA, sB, sC, Nat.zero_add, Nat.reduceAdd, d0, d1] at hK ⊢; go_simp; with_reducible refine hK _ _ (Below.refl _ _) ?_
            exact rfl
           ·as_aux_lemma =>
            intro vs W hS hdep K hK; have d0 := hdep ⟨10, .data⟩ (by simp) rfl; simp only [PhiCv16A] at d0; refine ⟨?_⟩; simp only [Act.put, sA, sB, sC, Nat.zero_add, Nat.reduceAdd, d0] at hK ⊢; go_simp; with_reducible refine hK _ _ (Below.refl _ _) ?_
            exact rfl
           ·as_aux_lemma =>
            intro vs W hS hdep K hK; have d0 := hdep ⟨11, .guard⟩ (by simp) rfl; simp only [PhiCv16A] at d0; refine ⟨?_⟩; simp only [Act.put, sA, sB, sC, Nat.zero_add, Nat.reduceAdd, d0] at hK ⊢; go_simp; with_reducible refine hK _ _ (Below.refl _ _) ?_
            exact rfl
           ·as_aux_lemma =>
            intro vs W hS hdep K hK; have d0 := hdep ⟨11, .guard⟩ (by simp) rfl; simp only [PhiCv16A] at d0; refine ⟨?_⟩; simp only [Act.put, sA, sB, sC, Nat.zero_add, Nat.reduceAdd, d0] at hK ⊢; go_simp; with_reducible refine hK _ _ (Below.refl _ _) ?_
            exact rfl
           ·as_aux_lemma =>
            intro vs W hS hdep K hK; have d0 := hdep ⟨11, .guard⟩ (by simp) rfl; simp only [PhiCv16A] at d0; refine ⟨?_⟩; simp only [Act.put, sA, sB, sC, Nat.zero_add, Nat.reduceAdd, d0] at hK ⊢; go_simp; with_reducible refine hK _ _ (Below.refl _ _) ?_
            exact rfl
           ·as_aux_lemma =>
            intro vs W hS hdep K hK; have d0 := hdep ⟨13, .data⟩ (by simp) rfl; simp only [PhiCv16A] at d0; have d1 := hdep ⟨14, .data⟩ (by simp) rfl; simp only [PhiCv16A] at d1; have d2 := hdep ⟨11, .guard⟩ (by simp) rfl; simp only [PhiCv16A] at d2; refine ⟨?_⟩; simp only [Act.put, sA, sB, sC, Nat.zero_add, Nat.reduceAdd, d0, d1, d2] at hK ⊢; go_simp; with_reducible refine hK _ _ (Below.refl _ _) ?_
            exact rfl
           ·as_aux_lemma =>
            intro vs W hS hdep K hK; have d0 := hdep ⟨15, .data⟩ (by simp) rfl; simp only [PhiCv16A] at d0; have d1 := hdep ⟨11, .guard⟩ (by simp) rfl; simp only [PhiCv16A] at d1; refine ⟨?_⟩; simp only [Act.put, sA, sB, sC, Nat.zero_add, Nat.reduceAdd, d0, d1] at hK ⊢; rw [if_pos (by rfl)]; refine wp_load_mid 33 (.tmp 105) (by rfl) b (off + m * 24) (by rfl) (cellsP q) _ (fun j v h => cell_keep hS (HCQ.out j v h)) Tryz.underlying33 (by rfl) infoP ?_; simp only [Act.put, sA, sB, sC]; with_reducible refine hK _ _ (Below.refl _ _) ?_
            exact rfl
           ·as_aux_lemma =>
            intro vs W hS hdep K hK; have d0 := hdep ⟨11, .guard⟩ (by simp) rfl; simp only [PhiCv16A] at d0; refine ⟨?_⟩; simp only [Act.put, sA, sB, sC, Nat.zero_add, Nat.reduceAdd, d0] at hK ⊢; go_simp; with_reducible refine hK _ _ (Below.refl _ _) ?_
            exact rfl
           ·as_aux_lemma =>
            intro vs W hS hdep K hK; have d0 := hdep ⟨11, .guard⟩ (by simp) rfl; simp only [PhiCv16A] at d0; refine ⟨?_⟩; simp only [Act.put, sA, sB, sC, Nat.zero_add, Nat.reduceAdd, d0] at hK ⊢; go_simp; with_reducible refine hK _ _ (Below.refl _ _) ?_
            exact rfl
           ·as_aux_lemma =>
            intro vs W hS hdep K hK; have d0 := hdep ⟨17, .data⟩ (by simp) rfl; simp only [PhiCv16A] at d0; have d1 := hdep ⟨18, .data⟩ (by simp) rfl; simp only [PhiCv16A] at d1; have d2 := hdep ⟨11, .guard⟩ (by simp) rfl; simp only [PhiCv16A] at d2; refine ⟨?_⟩; simp only [Act.put, sA, sB, sC, Nat.zero_add, Nat.reduceAdd, d0, d1, d2] at hK ⊢; go_simp; with_reducible refine hK _ _ (Below.refl _ _) ?_
            exact rfl
           ·as_aux_lemma =>
            intro vs W hS hdep K hK; have d0 := hdep ⟨19, .data⟩ (by simp) rfl; simp only [PhiCv16A] at d0; have d1 := hdep ⟨11, .guard⟩ (by simp) rfl; simp only [PhiCv16A] at d1; refine ⟨?_⟩; simp only [Act.put, sA, sB, sC, Nat.zero_add, Nat.reduceAdd, d0, d1] at hK ⊢; rw [if_pos (by rfl)]; refine wp_load_mid 33 (.tmp 109) (by rfl) b (off + i * 24) (by rfl) (cellsP p) _ (fun j v h => cell_keep hS (HCP.out j v h)) Tryz.underlying33 (by rfl) infoP ?_; simp only [Act.put, sA, sB, sC]; with_reducible refine hK _ _ (Below.refl _ _) ?_
            exact rfl
           ·as_aux_lemma =>
            intro vs W hS hdep K hK; have d0 := hdep ⟨16, .data⟩ (by simp) rfl; simp only [PhiCv16A] at d0; have d1 := hdep ⟨20, .data⟩ (by simp) rfl; simp only [PhiCv16A] at d1; have d2 := hdep ⟨11, .guard⟩ (by simp) rfl; simp only [PhiCv16A] at d2; refine ⟨?_⟩; simp only [Act.put, sA, sB, sC, Nat.zero_add, Nat.reduceAdd, d0, d1, d2] at hK ⊢; go_simp; refine (clash_n q p (Lf m).1 (Lf m).2 (Lf i).1 (Lf i).2 (dg m) (dg i) _ (HEQ.out.1.below hS) (HEP.out.1.below hS) HEQ.out.2.1 HEQ.out.2.2 HEP.out.2.1 HEP.out.2.2 HDQ.out HDP.out).mono ?_; rintro e w' ⟨E, F, cb', rfl, HX, hb⟩; obtain rfl : cb' = false := HCD.out E F cb' HX.out; go_wp2_with fail; with_reducible refine hK _ _ hb ?_
            exact rfl
           ·as_aux_lemma =>
            intro vs W hS hdep K hK; have d0 := hdep ⟨12, .data⟩ (by simp) rfl; simp only [PhiCv16A] at d0; have d1 := hdep ⟨21, .data⟩ (by simp) rfl; simp only [PhiCv16A] at d1; have d2 := hdep ⟨11, .guard⟩ (by simp) rfl; simp only [PhiCv16A] at d2; have q1 := hbb; refine ⟨?_⟩; simp only [Act.put, sA, sB, sC, Nat.zero_add, Nat.reduceAdd, d0, d1, d2] at hK ⊢; go_simp; with_reducible refine hK _ _ (Below.refl _ _) ?_
            exact rfl
           ·as_aux_lemma =>
            intro vs W hS hdep K hK; have d0 := hdep ⟨11, .data⟩ (by simp) rfl; simp only [PhiCv16A] at d0; have d1 := hdep ⟨22, .data⟩ (by simp) rfl; simp only [PhiCv16A] at d1; refine ⟨?_⟩; simp only [Act.put, sA, sB, sC, Nat.zero_add, Nat.reduceAdd, d0, d1] at hK ⊢; go_simp; with_reducible refine hK _ _ (Below.refl _ _) ?_
            exact rfl
           ·as_aux_lemma =>
            intro vs W hS hdep K hK; have d0 := hdep ⟨23, .data⟩ (by simp) rfl; simp only [PhiCv16A] at d0; refine ⟨?_⟩; simp only [Act.put, sA, sB, sC, Nat.zero_add, Nat.reduceAdd, d0] at hK ⊢; go_simp; with_reducible refine hK _ _ (Below.refl _ _) ?_
            exact rfl
           ·as_aux_lemma =>
            intro vs W hS hdep K hK; have d0 := hdep ⟨24, .guard⟩ (by simp) rfl; simp only [PhiCv16A] at d0; refine ⟨?_⟩; simp only [Act.put, sA, sB, sC, Nat.zero_add, Nat.reduceAdd, d0] at hK ⊢; go_simp; with_reducible refine hK _ _ (Below.refl _ _) ?_
            exact rfl
           ·as_aux_lemma =>
            intro vs W hS hdep K hK; have d0 := hdep ⟨24, .guard⟩ (by simp) rfl; simp only [PhiCv16A] at d0; refine ⟨?_⟩; simp only [Act.put, sA, sB, sC, Nat.zero_add, Nat.reduceAdd, d0] at hK ⊢; go_simp; with_reducible refine hK _ _ (Below.refl _ _) ?_
            exact rfl
           ·as_aux_lemma =>
            intro vs W hS hdep K hK; have d0 := hdep ⟨25, .data⟩ (by simp) rfl; simp only [PhiCv16A] at d0; have d1 := hdep ⟨26, .data⟩ (by simp) rfl; simp only [PhiCv16A] at d1; have d2 := hdep ⟨24, .guard⟩ (by simp) rfl; simp only [PhiCv16A] at d2; have q1 := heq; refine ⟨?_⟩; simp only [Act.put, sA, sB, sC, Nat.zero_add, Nat.reduceAdd, d0, d1, d2] at hK ⊢; go_simp; with_reducible refine hK _ _ (Below.refl _ _) ?_
            exact rfl
           ·as_aux_lemma =>
            intro vs W hS hdep K hK; have d0 := hdep ⟨27, .data⟩ (by simp) rfl; simp only [PhiCv16A] at d0; have d1 := hdep ⟨24, .guard⟩ (by simp) rfl; simp only [PhiCv16A] at d1; refine ⟨?_⟩; simp only [Act.put, sA, sB, sC, Nat.zero_add, Nat.reduceAdd, d0, d1] at hK ⊢; go_simp; with_reducible refine hK _ _ (Below.refl _ _) ?_
            exact rfl
           ·as_aux_lemma =>
            intro vs W hS hdep K hK; have d0 := hdep ⟨28, .guard⟩ (by simp) rfl; simp only [PhiCv16A] at d0; refine ⟨?_⟩; simp only [Act.put, sA, sB, sC, Nat.zero_add, Nat.reduceAdd, d0] at hK ⊢; go_simp; with_reducible refine hK _ _ (Below.refl _ _) ?_
            exact rfl
           ·as_aux_lemma =>
            intro vs W hS hdep K hK; have d0 := hdep ⟨28, .data⟩ (by simp) rfl; simp only [PhiCv16A] at d0; have d1 := hdep ⟨29, .data⟩ (by simp) rfl; simp only [PhiCv16A] at d1; have d2 := hdep ⟨24, .guard⟩ (by simp) rfl; simp only [PhiCv16A] at d2; refine ⟨?_⟩; simp only [Act.put, sA, sB, sC, Nat.zero_add, Nat.reduceAdd, d0, d1, d2] at hK ⊢; go_simp; with_reducible refine hK _ _ (Below.refl _ _) ?_
            exact rfl
           ·as_aux_lemma =>
            intro vs W hS hdep K hK; have d0 := hdep ⟨24, .data⟩ (by simp) rfl; simp only [PhiCv16A] at d0; have d1 := hdep ⟨30, .data⟩ (by simp) rfl; simp only [PhiCv16A] at d1; refine ⟨?_⟩; simp only [Act.put, sA, sB, sC, Nat.zero_add, Nat.reduceAdd, d0, d1] at hK ⊢; go_simp; with_reducible refine hK _ _ (Below.refl _ _) ?_
            exact rfl
          ·intro vs w6 hS hv; have v31 := hv 31 (by simp); simp only [PhiCv16A] at v31; simp only [Act.put, sA, sB, sC, Nat.zero_add, Nat.reduceAdd, v31]; have hbe3 := Below.tr hbe3 hS; clear v31 hv hS HCP HCQ HEP HEQ HDQ HCB HCD; go_wp2_with fail
           go_roundg (G3 - 1)
           case measure => omega
           case rel => exact ⟨m + 1, by go_num, by omega, hbe3⟩
         ·have heq : ((i : Int) == (m : Int)) = false := by simp; omega
          clear him2; refine region_invF (PhiCv16B (some ⟨b, off, none⟩) k c b off i m p q cb) (fun w w' => Below w.heap.size w w') (fun X => Below w5.heap.size w5 X) (by kernel_rfl) (by kernel_rfl) (by kernel_rfl) PhiCv16B.keep (fun _ _ hR hS => Below.tr hS hR) (bD _) (fun vs => by simp only [fillR, Act.put, sA, sB, sC, Nat.zero_add, Nat.reduceAdd]; rfl) ?_ ?_
          ·refine sK ?_ (sK ?_ (sK ?_ (sK ?_ (sK ?_ (sK ?_ (sK ?_ (sK ?_ (sK ?_ (sK ?_ (sK ?_ (sK ?_ (sK ?_ (sK ?_ (sK ?_ (sK ?_ (sK ?_ (sK ?_ (sK ?_ (sK ?_ (sK ?_ (sK ?_ (sK ?_ (sK ?_ (sK ?_ (sK ?_ (sK ?_ (sK ?_ (sK ?_ (sK ?_ (sK ?_ (sK ?_ (sZ))))))))))))))))))))))))))))))))
           ·as_aux_lemma =>
            intro vs W hS hdep K hK; refine ⟨?_⟩; simp only [Act.put, sA, sB, sC, Nat.zero_add, Nat.reduceAdd] at hK ⊢; go_simp; with_reducible refine hK _ _ (Below.refl _ _) ?_
            exact rfl
           ·as_aux_lemma =>
            intro vs W hS hdep K hK; refine ⟨?_⟩; simp only [Act.put, sA, sB, sC, Nat.zero_add, Nat.reduceAdd] at hK ⊢; go_simp; with_reducible refine hK _ _ (Below.refl _ _) ?_
            exact rfl
           ·as_aux_lemma =>
            intro vs W hS hdep K hK; refine ⟨?_⟩; simp only [Act.put, sA, sB, sC, Nat.zero_add, Nat.reduceAdd] at hK ⊢; go_simp; with_reducible refine hK _ _ (Below.refl _ _) ?_
            exact rfl
           ·as_aux_lemma =>
            intro vs W hS hdep K hK; have d0 := hdep ⟨1, .data⟩ (by simp) rfl; simp only [PhiCv16B] at d0; have d1 := hdep ⟨2, .data⟩ (by simp) rfl; simp only [PhiCv16B] at d1; refine ⟨?_⟩; simp only [Act.put, sA, sB, sC, Nat.zero_add, Nat.reduceAdd, d0, d1] at hK ⊢; go_simp; with_reducible refine hK _ _ (Below.refl _ _) ?_
            exact rfl
           ·as_aux_lemma =>
            intro vs W hS hdep K hK; have d0 := hdep ⟨3, .data⟩ (by simp) rfl; simp only [PhiCv16B] at d0; refine ⟨?_⟩; simp only [Act.put, sA, sB, sC, Nat.zero_add, Nat.reduceAdd, d0] at hK ⊢; rw [if_pos (by rfl)]; refine wp_load_mid 33 (.tmp 93) (by rfl) b (off + i * 24) (by rfl) (cellsP p) _ (fun j v h => cell_keep hS (HCP.out j v h)) Tryz.underlying33 (by rfl) infoP ?_; simp only [Act.put, sA, sB, sC]; with_reducible refine hK _ _ (Below.refl _ _) ?_
            exact rfl
           ·as_aux_lemma =>
            intro vs W hS hdep K hK; refine ⟨?_⟩; simp only [Act.put, sA, sB, sC, Nat.zero_add, Nat.reduceAdd] at hK ⊢; go_simp; with_reducible refine hK _ _ (Below.refl _ _) ?_
            exact rfl
           ·as_aux_lemma =>
            intro vs W hS hdep K hK; refine ⟨?_⟩; simp only [Act.put, sA, sB, sC, Nat.zero_add, Nat.reduceAdd] at hK ⊢; go_simp; with_reducible refine hK _ _ (Below.refl _ _) ?_
            exact rfl
           ·as_aux_lemma =>
            intro vs W hS hdep K hK; have d0 := hdep ⟨5, .data⟩ (by simp) rfl; simp only [PhiCv16B] at d0; have d1 := hdep ⟨6, .data⟩ (by simp) rfl; simp only [PhiCv16B] at d1; refine ⟨?_⟩; simp only [Act.put, sA, sB, sC, Nat.zero_add, Nat.reduceAdd, d0, d1] at hK ⊢; go_simp; with_reducible refine hK _ _ (Below.refl _ _) ?_
            exact rfl
           ·as_aux_lemma =>
            intro vs W hS hdep K hK; have d0 := hdep ⟨7, .data⟩ (by simp) rfl; simp only [PhiCv16B] at d0; refine ⟨?_⟩; simp only [Act.put, sA, sB, sC, Nat.zero_add, Nat.reduceAdd, d0] at hK ⊢; rw [if_pos (by rfl)]; refine wp_load_mid 33 (.tmp 97) (by rfl) b (off + m * 24) (by rfl) (cellsP q) _ (fun j v h => cell_keep hS (HCQ.out j v h)) Tryz.underlying33 (by rfl) infoP ?_; simp only [Act.put, sA, sB, sC]; with_reducible refine hK _ _ (Below.refl _ _) ?_
            exact rfl
           ·as_aux_lemma =>
            intro vs W hS hdep K hK; have d0 := hdep ⟨4, .data⟩ (by simp) rfl; simp only [PhiCv16B] at d0; have d1 := hdep ⟨8, .data⟩ (by simp) rfl; simp only [PhiCv16B] at d1; refine ⟨?_⟩; simp only [Act.put, sA, sB, sC, Nat.zero_add, Nat.reduceAdd, d0, d1] at hK ⊢; go_simp; refine (rclash_n p q (Lf i).1 (Lf i).2 (Lf m).1 (Lf m).2 (dg i) (dg m) _ (HEP.out.1.below hS) (HEQ.out.1.below hS) HEP.out.2.1 HEP.out.2.2 HEQ.out.2.1 HEQ.out.2.2 HDP.out HDQ.out).mono ?_; rintro e w' ⟨E, F, cb', rfl, HX, hb⟩; obtain rfl : cb' = cb := HCB.out E F cb' HX.out; go_wp2_with fail; with_reducible refine hK _ _ hb ?_
            exact rfl
           ·as_aux_lemma =>
            intro vs W hS hdep K hK; have d0 := hdep ⟨0, .data⟩ (by simp) rfl; simp only [PhiCv16B] at d0; have d1 := hdep ⟨9, .data⟩ (by simp) rfl; simp only [PhiCv16B] at d1; have q1 := hbb; refine ⟨?_⟩; simp only [Act.put, sA, sB, sC, Nat.zero_add, Nat.reduceAdd, d0, d1] at hK ⊢; go_simp; with_reducible refine hK _ _ (Below.refl _ _) ?_
            exact rfl
           ·as_aux_lemma =>
            intro vs W hS hdep K hK; have d0 := hdep ⟨10, .data⟩ (by simp) rfl; simp only [PhiCv16B] at d0; refine ⟨?_⟩; simp only [Act.put, sA, sB, sC, Nat.zero_add, Nat.reduceAdd, d0] at hK ⊢; go_simp; with_reducible refine hK _ _ (Below.refl _ _) ?_
            exact rfl
           ·as_aux_lemma =>
            intro vs W hS hdep K hK; have d0 := hdep ⟨11, .guard⟩ (by simp) rfl; simp only [PhiCv16B] at d0; refine ⟨?_⟩; simp only [Act.put, sA, sB, sC, Nat.zero_add, Nat.reduceAdd, d0] at hK ⊢; go_simp; with_reducible refine hK _ _ (Below.refl _ _) ?_
            exact rfl
           ·as_aux_lemma =>
            intro vs W hS hdep K hK; have d0 := hdep ⟨11, .guard⟩ (by simp) rfl; simp only [PhiCv16B] at d0; refine ⟨?_⟩; simp only [Act.put, sA, sB, sC, Nat.zero_add, Nat.reduceAdd, d0] at hK ⊢; go_simp; with_reducible refine hK _ _ (Below.refl _ _) ?_
            exact rfl
           ·as_aux_lemma =>
            intro vs W hS hdep K hK; have d0 := hdep ⟨11, .guard⟩ (by simp) rfl; simp only [PhiCv16B] at d0; refine ⟨?_⟩; simp only [Act.put, sA, sB, sC, Nat.zero_add, Nat.reduceAdd, d0] at hK ⊢; go_simp; with_reducible refine hK _ _ (Below.refl _ _) ?_
            exact rfl
           ·as_aux_lemma =>
            intro vs W hS hdep K hK; have d0 := hdep ⟨13, .data⟩ (by simp) rfl; simp only [PhiCv16B] at d0; have d1 := hdep ⟨14, .data⟩ (by simp) rfl; simp only [PhiCv16B] at d1; have d2 := hdep ⟨11, .guard⟩ (by simp) rfl; simp only [PhiCv16B] at d2; refine ⟨?_⟩; simp only [Act.put, sA, sB, sC, Nat.zero_add, Nat.reduceAdd, d0, d1, d2] at hK ⊢; go_simp; with_reducible refine hK _ _ (Below.refl _ _) ?_
            exact rfl
           ·as_aux_lemma =>
            intro vs W hS hdep K hK; have d0 := hdep ⟨15, .data⟩ (by simp) rfl; simp only [PhiCv16B] at d0; have d1 := hdep ⟨11, .guard⟩ (by simp) rfl; simp only [PhiCv16B] at d1; refine ⟨?_⟩; simp only [Act.put, sA, sB, sC, Nat.zero_add, Nat.reduceAdd, d0, d1] at hK ⊢; rw [if_pos (by rfl)]; refine wp_load_mid 33 (.tmp 105) (by rfl) b (off + m * 24) (by rfl) (cellsP q) _ (fun j v h => cell_keep hS (HCQ.out j v h)) Tryz.underlying33 (by rfl) infoP ?_; simp only [Act.put, sA, sB, sC]; with_reducible refine hK _ _ (Below.refl _ _) ?_
            exact rfl
           ·as_aux_lemma =>
            intro vs W hS hdep K hK; have d0 := hdep ⟨11, .guard⟩ (by simp) rfl; simp only [PhiCv16B] at d0; refine ⟨?_⟩; simp only [Act.put, sA, sB, sC, Nat.zero_add, Nat.reduceAdd, d0] at hK ⊢; go_simp; with_reducible refine hK _ _ (Below.refl _ _) ?_
            exact rfl
           ·as_aux_lemma =>
            intro vs W hS hdep K hK; have d0 := hdep ⟨11, .guard⟩ (by simp) rfl; simp only [PhiCv16B] at d0; refine ⟨?_⟩; simp only [Act.put, sA, sB, sC, Nat.zero_add, Nat.reduceAdd, d0] at hK ⊢; go_simp; with_reducible refine hK _ _ (Below.refl _ _) ?_
            exact rfl
           ·as_aux_lemma =>
            intro vs W hS hdep K hK; have d0 := hdep ⟨17, .data⟩ (by simp) rfl; simp only [PhiCv16B] at d0; have d1 := hdep ⟨18, .data⟩ (by simp) rfl; simp only [PhiCv16B] at d1; have d2 := hdep ⟨11, .guard⟩ (by simp) rfl; simp only [PhiCv16B] at d2; refine ⟨?_⟩; simp only [Act.put, sA, sB, sC, Nat.zero_add, Nat.reduceAdd, d0, d1, d2] at hK ⊢; go_simp; with_reducible refine hK _ _ (Below.refl _ _) ?_
            exact rfl
           ·as_aux_lemma =>
            intro vs W hS hdep K hK; have d0 := hdep ⟨19, .data⟩ (by simp) rfl; simp only [PhiCv16B] at d0; have d1 := hdep ⟨11, .guard⟩ (by simp) rfl; simp only [PhiCv16B] at d1; refine ⟨?_⟩; simp only [Act.put, sA, sB, sC, Nat.zero_add, Nat.reduceAdd, d0, d1] at hK ⊢; rw [if_pos (by rfl)]; refine wp_load_mid 33 (.tmp 109) (by rfl) b (off + i * 24) (by rfl) (cellsP p) _ (fun j v h => cell_keep hS (HCP.out j v h)) Tryz.underlying33 (by rfl) infoP ?_; simp only [Act.put, sA, sB, sC]; with_reducible refine hK _ _ (Below.refl _ _) ?_
            exact rfl
           ·as_aux_lemma =>
            intro vs W hS hdep K hK; have d0 := hdep ⟨16, .data⟩ (by simp) rfl; simp only [PhiCv16B] at d0; have d1 := hdep ⟨20, .data⟩ (by simp) rfl; simp only [PhiCv16B] at d1; have d2 := hdep ⟨11, .guard⟩ (by simp) rfl; simp only [PhiCv16B] at d2; refine ⟨?_⟩; simp only [Act.put, sA, sB, sC, Nat.zero_add, Nat.reduceAdd, d0, d1, d2] at hK ⊢; go_simp; refine (clash_n q p (Lf m).1 (Lf m).2 (Lf i).1 (Lf i).2 (dg m) (dg i) _ (HEQ.out.1.below hS) (HEP.out.1.below hS) HEQ.out.2.1 HEQ.out.2.2 HEP.out.2.1 HEP.out.2.2 HDQ.out HDP.out).mono ?_; rintro e w' ⟨E, F, cb', rfl, HX, hb⟩; obtain rfl : cb' = cb := HCD.out E F cb' HX.out; go_wp2_with fail; with_reducible refine hK _ _ hb ?_
            exact rfl
           ·as_aux_lemma =>
            intro vs W hS hdep K hK; have d0 := hdep ⟨12, .data⟩ (by simp) rfl; simp only [PhiCv16B] at d0; have d1 := hdep ⟨21, .data⟩ (by simp) rfl; simp only [PhiCv16B] at d1; have d2 := hdep ⟨11, .guard⟩ (by simp) rfl; simp only [PhiCv16B] at d2; have q1 := hbb; refine ⟨?_⟩; simp only [Act.put, sA, sB, sC, Nat.zero_add, Nat.reduceAdd, d0, d1, d2] at hK ⊢; go_simp; with_reducible refine hK _ _ (Below.refl _ _) ?_
            exact rfl
           ·as_aux_lemma =>
            intro vs W hS hdep K hK; have d0 := hdep ⟨11, .data⟩ (by simp) rfl; simp only [PhiCv16B] at d0; have d1 := hdep ⟨22, .data⟩ (by simp) rfl; simp only [PhiCv16B] at d1; refine ⟨?_⟩; simp only [Act.put, sA, sB, sC, Nat.zero_add, Nat.reduceAdd, d0, d1] at hK ⊢; go_simp; with_reducible refine hK _ _ (Below.refl _ _) ?_
            exact rfl
           ·as_aux_lemma =>
            intro vs W hS hdep K hK; have d0 := hdep ⟨23, .data⟩ (by simp) rfl; simp only [PhiCv16B] at d0; refine ⟨?_⟩; simp only [Act.put, sA, sB, sC, Nat.zero_add, Nat.reduceAdd, d0] at hK ⊢; go_simp; with_reducible refine hK _ _ (Below.refl _ _) ?_
            exact rfl
           ·as_aux_lemma =>
            intro vs W hS hdep K hK; have d0 := hdep ⟨24, .guard⟩ (by simp) rfl; simp only [PhiCv16B] at d0; refine ⟨?_⟩; simp only [Act.put, sA, sB, sC, Nat.zero_add, Nat.reduceAdd, d0] at hK ⊢; go_simp; with_reducible refine hK _ _ (Below.refl _ _) ?_
            exact rfl
           ·as_aux_lemma =>
            intro vs W hS hdep K hK; have d0 := hdep ⟨24, .guard⟩ (by simp) rfl; simp only [PhiCv16B] at d0; refine ⟨?_⟩; simp only [Act.put, sA, sB, sC, Nat.zero_add, Nat.reduceAdd, d0] at hK ⊢; go_simp; with_reducible refine hK _ _ (Below.refl _ _) ?_
            exact rfl
           ·as_aux_lemma =>
            intro vs W hS hdep K hK; have d0 := hdep ⟨25, .data⟩ (by simp) rfl; simp only [PhiCv16B] at d0; have d1 := hdep ⟨26, .data⟩ (by simp) rfl; simp only [PhiCv16B] at d1; have d2 := hdep ⟨24, .guard⟩ (by simp) rfl; simp only [PhiCv16B] at d2; have q1 := heq; refine ⟨?_⟩; simp only [Act.put, sA, sB, sC, Nat.zero_add, Nat.reduceAdd, d0, d1, d2] at hK ⊢; go_simp; with_reducible refine hK _ _ (Below.refl _ _) ?_
            exact rfl
           ·as_aux_lemma =>
            intro vs W hS hdep K hK; have d0 := hdep ⟨27, .data⟩ (by simp) rfl; simp only [PhiCv16B] at d0; have d1 := hdep ⟨24, .guard⟩ (by simp) rfl; simp only [PhiCv16B] at d1; refine ⟨?_⟩; simp only [Act.put, sA, sB, sC, Nat.zero_add, Nat.reduceAdd, d0, d1] at hK ⊢; go_simp; with_reducible refine hK _ _ (Below.refl _ _) ?_
            exact rfl
           ·as_aux_lemma =>
            intro vs W hS hdep K hK; have d0 := hdep ⟨28, .guard⟩ (by simp) rfl; simp only [PhiCv16B] at d0; refine ⟨?_⟩; simp only [Act.put, sA, sB, sC, Nat.zero_add, Nat.reduceAdd, d0] at hK ⊢; go_simp
            try rw [if_neg (by simp [undef])]
            with_reducible refine hK _ _ (Below.refl _ _) ?_
            exact rfl
           ·as_aux_lemma =>
            intro vs W hS hdep K hK; have d0 := hdep ⟨28, .data⟩ (by simp) rfl; simp only [PhiCv16B] at d0; have d1 := hdep ⟨24, .guard⟩ (by simp) rfl; simp only [PhiCv16B] at d1; refine ⟨?_⟩; simp only [Act.put, sA, sB, sC, Nat.zero_add, Nat.reduceAdd, d0, d1] at hK ⊢; go_simp; with_reducible refine hK _ _ (Below.refl _ _) ?_
            exact rfl
           ·as_aux_lemma =>
            intro vs W hS hdep K hK; have d0 := hdep ⟨24, .data⟩ (by simp) rfl; simp only [PhiCv16B] at d0; have d1 := hdep ⟨30, .data⟩ (by simp) rfl; simp only [PhiCv16B] at d1; refine ⟨?_⟩; simp only [Act.put, sA, sB, sC, Nat.zero_add, Nat.reduceAdd, d0, d1] at hK ⊢; go_simp; with_reducible refine hK _ _ (Below.refl _ _) ?_
            exact rfl
          ·intro vs w6 hS hv; have v31 := hv 31 (by simp); simp only [PhiCv16B] at v31; simp only [Act.put, sA, sB, sC, Nat.zero_add, Nat.reduceAdd, v31]; have hbe3 := Below.tr hbe3 hS; clear v31 hv hS HCP HCQ HEP HEQ HDQ HCB HCD; go_wp2_with fail
           go_roundg (G3 - 1)
           case measure => omega
           case rel => exact ⟨m + 1, by go_num, by omega, hbe3⟩
       ·have u3 : decide ((m : Int) < (k : Int)) = false := by simp; omega
        have hbe := Below.tr hbe hbe3; go_wp2_with fail
        go_roundg (G - 1)
        case measure => omega
        case rel => exact ⟨i + 1, by go_num, by omega, hbe⟩
   ·have u1 : decide ((i : Int) < (k : Int)) = false := by simp; omega
    have hbw := Below.tr hbw hbe; have HPL := Lib.hid (HPL.out.below hbe); clear BT BS; go_wp2_with fail; refine (clashes_n _ k c ps _ _ dg _ HPL.out (by omega)).mono ?_; rintro e w4 ⟨Ac, kc, cc, rfl, hrc, hb4⟩; obtain ⟨L, HL⟩ : ∃ L, Hid (L = clList (clA Ev Lf dg ps) k k) := ⟨_, rfl⟩; rw [← HL.out] at hrc; have HPL := Lib.hid (HPL.out.below hb4); have hbw := Below.tr hbw hb4; clear hb4; go_wp2_with fail; refine (rclashes_n _ k c ps _ _ dg _ HPL.out (by omega)).mono ?_; rintro e w5 ⟨Ad, kd, cd, rfl, hrd, hb5⟩; rw [← HL.out] at hrd; have hrc := hrc.below hb5; have hbw := Below.tr hbw hb5; have HKC : Hid (kc = L.length) := hrc.2.1; have hkc := hrc.2.2; obtain rfl : kd = kc := hrd.2.1.trans HKC.out.symm; have t9 : ((kd : Int) != (kd : Int)) = false := by simp
    clear hb5 HPL HL; go_wp2_with fail
    go_loopg [22] kd (fun mm x wr => ∃ q : Nat, x = .int .i64 q ∧ q + mm = kd ∧ Below w5.heap.size w5 wr)
    case atStart => exact ⟨0, rfl, by omega, Below.refl _ _⟩
    case round =>
     obtain ⟨G4, hG4⟩ : ∃ G, G = gk := ⟨gk, rfl⟩; subst hG4; obtain ⟨q, rfl, hqm, hbe5⟩ := hrel; obtain ⟨wq, hwq⟩ : ∃ x, x = wr := ⟨_, rfl⟩; subst hwq; by_cases hq : q < kd
     ·have u4 : decide ((q : Int) < (kd : Int)) = true := by simp; omega
      have lq : (q : Int) < (kd : Int) := by omega
      have hql : q < L.length := by have := HKC.out; omega
      obtain ⟨xy, HXY⟩ : ∃ p, Hid (L[q] = p ∧ L[q]? = some p) := ⟨_, rfl, List.getElem?_eq_getElem hql⟩; obtain ⟨b3, o3, hA3, HC3⟩ := (hrc.below hbe5).at_ pairC_len (by omega) hq hql; obtain ⟨b4, o4, hA4, HC4⟩ := (hrd.below hbe5).at_ pairC_len (by omega) hq hql; rw [HXY.out.1] at HC3 HC4; subst hA3 hA4; obtain ⟨x1, y1⟩ := xy; go_upto_region 25 with fail; refine wp_region_quiet_lit (by kernel_rfl) (by kernel_rfl) ?_
      repeat (go_big_quiet_step (fail))
      refine wpQuiet_step (fun K hK => ?_); rw [if_pos (by rfl)]; refine ⟨.agg (pairC (x1, y1)).toArray, fun w hw => quiet_load_mid 40 (.tmp 139) rfl b3 (o3 + q * 2) rfl (pairC (x1, y1)) _ (fun j v h => HC3.out j v h) Tryz.underlying40 rfl infoT2 w hw, ?_⟩; simp only [Act.put, sA, sB, sC]; refine hK _ ?_; clear hK K
      repeat (go_big_quiet_step (fail))
      refine wpQuiet_step (fun K hK => ?_); rw [if_pos (by rfl)]; refine ⟨.agg (pairC (x1, y1)).toArray, fun w hw => quiet_load_mid 40 (.tmp 143) rfl b4 (o4 + q * 2) rfl (pairC (x1, y1)) _ (fun j v h => HC4.out j v h) Tryz.underlying40 rfl infoT2 w hw, ?_⟩; simp only [Act.put, sA, sB, sC]; refine hK _ ?_; clear hK K
      repeat (go_big_quiet_step (fail))
      refine wpQuiet_step (fun K hK => ?_); rw [if_pos (by rfl)]; refine ⟨.bool false, fun w _ => quiet_neq2 _ _ w (.tmp 140) (.tmp 144) (x1 : Nat) (y1 : Nat) rfl rfl _ rfl, ?_⟩; simp only [Act.put, sA, sB, sC]; refine hK _ ?_; clear hK K; refine wpQuiet_nil ?_; intro _ hw'; obtain ⟨nq, hw''⟩ := hw'; subst hw''; go_wp2_with fail
      go_roundg (G4 - 1)
      case measure => omega
      case rel => exact ⟨q + 1, by go_num, by omega, Below.tr hbe5 (below_drewN _ _)⟩
     ·have u4 : decide ((q : Int) < (kd : Int)) = false := by simp; omega
      go_wp2_with fail; refine (lives34_n _).mono ?_; rintro e w9 ⟨rfl, hb9⟩; go_wp2_with fail; go_ret; exact ⟨rfl, Below.tr hbw (Below.tr hbe5 hb9)⟩
end Go.Proofs.YtijkfagkbfbpmaaGreatDoor
