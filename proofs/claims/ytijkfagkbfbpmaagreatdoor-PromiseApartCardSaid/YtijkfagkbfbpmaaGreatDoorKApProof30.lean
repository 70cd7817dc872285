import Derived.Test.YtijkfagkbfbpmaaGreatDoorKApProof23
import Derived.Test.YtijkfagkbfbpmaaGreatDoorKApProof29
import Derived.Test.YtijkfagkbfbpmaaGreatDoorS0
set_option linter.unusedVariables false
set_option linter.unusedSimpArgs false
namespace Go.Proofs.YtijkfagkbfbpmaaGreatDoor
open Go Go.RowKit
def PhiAp11A (bX oX ka ca i i1 x x0 : Nat) (Al : Option Addr) (k c : Nat) (A4 : Option Addr) (m4 c4 ks : Nat) (br : List Int) (j : Nat) (w : World) (x' : Value) : Prop :=
 match j with
 | 0 => x' = .slice (some ⟨bX, oX, none⟩) ka ca
 | 1 => x' = .int .i64 (i : Nat)
 | 2 => x' = .pointer (some ⟨bX, oX + i, none⟩)
 | 3 => x' = .int .i64 (x : Nat)
 | 4 => x' = .bool false
 | 5 => x' = .bool false
 | 6 => x' = .slice (some ⟨bX, oX, none⟩) ka ca
 | 7 => x' = .int .i64 (i : Nat)
 | 8 => x' = .pointer (some ⟨bX, oX + i, none⟩)
 | 9 => x' = .int .i64 (x : Nat)
 | 10 => x' = .slice Al k c
 | 11 => x' = .int .i64 (k : Nat)
 | 12 => x' = .bool false
 | 13 => x' = .bool false
 | 14 => x' = .bool false
 | 15 => x' = .int .i64 (i : Nat)
 | 16 => x' = .bool true
 | 17 => x' = .bool true
 | 18 => x' = .slice (some ⟨bX, oX, none⟩) ka ca
 | 19 => x' = .int .i64 (i : Nat)
 | 20 => x' = .pointer (some ⟨bX, oX + i, none⟩)
 | 21 => x' = .int .i64 (x : Nat)
 | 22 => x' = .slice (some ⟨bX, oX, none⟩) ka ca
 | 23 => x' = .int .i64 (i : Nat)
 | 24 => x' = .int .i64 (i1 : Nat)
 | 25 => x' = .int .i64 (i1 : Nat)
 | 26 => x' = .pointer (some ⟨bX, oX + i1, none⟩)
 | 27 => x' = .int .i64 (x0 : Nat)
 | 28 => x' = .bool false
 | 29 => x' = .bool false
 | 30 => x' = .bool false
 | 31 => x' = .bool false
 | 32 => x' = .slice A4 m4 c4
 | 33 => ∃ A c, x' = .slice A ks c ∧ RowS intC w A ks br
 | 34 => x' = .slice (some ⟨bX, oX, none⟩) ka ca
 | 35 => x' = .int .i64 (i : Nat)
 | 36 => x' = .pointer (some ⟨bX, oX + i, none⟩)
 | 37 => x' = .int .i64 (x : Nat)
 | 38 => x' = .bool false
 | 39 => x' = .bool false
 | _ => True

theorem PhiAp11A.keep {bX oX ka ca i i1 x x0 : Nat} {Al : Option Addr} {k c : Nat} {A4 : Option Addr} {m4 c4 ks : Nat} {br : List Int} : ∀ (w w' : World), Below w.heap.size w w' → ∀ j x', PhiAp11A bX oX ka ca i i1 x x0 Al k c A4 m4 c4 ks br j w x' → PhiAp11A bX oX ka ca i i1 x x0 Al k c A4 m4 c4 ks br j w' x' := by
 intro w w' hb j x' h; unfold PhiAp11A at h ⊢
 split <;> simp only at h ⊢
 all_goals first
  | exact h
  | (obtain ⟨A, c, e, h1⟩ := h; exact ⟨A, c, e, h1.below hb⟩)
def PhiAp11B (bX oX ka ca i i1 x x0 : Nat) (Al : Option Addr) (k c : Nat) (A4 : Option Addr) (m4 c4 ks : Nat) (br : List Int) (j : Nat) (w : World) (x' : Value) : Prop :=
 match j with
 | 0 => x' = .slice (some ⟨bX, oX, none⟩) ka ca
 | 1 => x' = .int .i64 (i : Nat)
 | 2 => x' = .pointer (some ⟨bX, oX + i, none⟩)
 | 3 => x' = .int .i64 (x : Nat)
 | 4 => x' = .bool false
 | 5 => x' = .bool false
 | 6 => x' = .slice (some ⟨bX, oX, none⟩) ka ca
 | 7 => x' = .int .i64 (i : Nat)
 | 8 => x' = .pointer (some ⟨bX, oX + i, none⟩)
 | 9 => x' = .int .i64 (x : Nat)
 | 10 => x' = .slice Al k c
 | 11 => x' = .int .i64 (k : Nat)
 | 12 => x' = .bool false
 | 13 => x' = .bool false
 | 14 => x' = .bool false
 | 15 => x' = .int .i64 (i : Nat)
 | 16 => x' = .bool false
 | 17 => x' = .bool false
 | 18 => x' = undef
 | 19 => x' = undef
 | 20 => x' = undef
 | 21 => x' = undef
 | 22 => x' = undef
 | 23 => x' = undef
 | 24 => x' = undef
 | 25 => x' = undef
 | 26 => x' = undef
 | 27 => x' = undef
 | 28 => x' = undef
 | 29 => x' = .bool false
 | 30 => x' = .bool false
 | 31 => x' = .bool false
 | 32 => x' = .slice A4 m4 c4
 | 33 => ∃ A c, x' = .slice A ks c ∧ RowS intC w A ks br
 | 34 => x' = .slice (some ⟨bX, oX, none⟩) ka ca
 | 35 => x' = .int .i64 (i : Nat)
 | 36 => x' = .pointer (some ⟨bX, oX + i, none⟩)
 | 37 => x' = .int .i64 (x : Nat)
 | 38 => x' = .bool false
 | 39 => x' = .bool false
 | _ => True

theorem PhiAp11B.keep {bX oX ka ca i i1 x x0 : Nat} {Al : Option Addr} {k c : Nat} {A4 : Option Addr} {m4 c4 ks : Nat} {br : List Int} : ∀ (w w' : World), Below w.heap.size w w' → ∀ j x', PhiAp11B bX oX ka ca i i1 x x0 Al k c A4 m4 c4 ks br j w x' → PhiAp11B bX oX ka ca i i1 x x0 Al k c A4 m4 c4 ks br j w' x' := by
 intro w w' hb j x' h; unfold PhiAp11B at h ⊢
 split <;> simp only at h ⊢
 all_goals first
  | exact h
  | (obtain ⟨A, c, e, h1⟩ := h; exact ⟨A, c, e, h1.below hb⟩)
def PhiAp250 (gP gQ gT gR j2 : Nat) (p q : PC) (s : ByteArray) (r : RC0) (j : Nat) (w : World) (x' : Value) : Prop :=
 match j with
 | 0 => x' = .agg (cellsP p).toArray
 | 1 => x' = .slice (some ⟨gT, 0, none⟩) 3 3
 | 2 => x' = .int .i64 (j2 : Nat)
 | 3 => x' = .pointer (some ⟨gT, j2, none⟩)
 | 4 => x' = .string s
 | 5 => x' = .agg (cellsR r).toArray
 | 6 => x' = .bool false
 | 7 => x' = .bool false
 | 8 => x' = undef
 | 9 => x' = undef
 | 10 => x' = undef
 | 11 => x' = undef
 | 12 => x' = undef
 | 13 => x' = undef
 | 14 => x' = undef
 | 15 => x' = .bool false
 | 16 => x' = .bool false
 | 17 => x' = undef
 | 18 => x' = undef
 | 19 => x' = undef
 | 20 => x' = undef
 | 21 => x' = undef
 | 22 => x' = undef
 | 23 => x' = .bool false
 | _ => True

theorem PhiAp250.keep {gP gQ gT gR j2 : Nat} {p q : PC} {s : ByteArray} {r : RC0} : ∀ (w w' : World), Below w.heap.size w w' → ∀ j x, PhiAp250 gP gQ gT gR j2 p q s r j w x → PhiAp250 gP gQ gT gR j2 p q s r j w' x := by
 intro w w' hb j x h; unfold PhiAp250 at h ⊢; exact h
def PhiAp251 (gP gQ gT gR j2 : Nat) (p q : PC) (s : ByteArray) (r : RC0) (j : Nat) (w : World) (x' : Value) : Prop :=
 match j with
 | 0 => x' = .agg (cellsP p).toArray
 | 1 => x' = .slice (some ⟨gT, 0, none⟩) 3 3
 | 2 => x' = .int .i64 (j2 : Nat)
 | 3 => x' = .pointer (some ⟨gT, j2, none⟩)
 | 4 => x' = .string s
 | 5 => x' = .agg (cellsR r).toArray
 | 6 => x' = .bool true
 | 7 => x' = .bool true
 | 8 => x' = .agg (cellsP q).toArray
 | 9 => x' = .slice (some ⟨gT, 0, none⟩) 3 3
 | 10 => x' = .int .i64 (j2 : Nat)
 | 11 => x' = .pointer (some ⟨gT, j2, none⟩)
 | 12 => x' = .string s
 | 13 => x' = .agg (cellsR r).toArray
 | 14 => x' = .bool false
 | 15 => x' = .bool false
 | 16 => x' = .bool false
 | 17 => x' = undef
 | 18 => x' = undef
 | 19 => x' = undef
 | 20 => x' = undef
 | 21 => x' = undef
 | 22 => x' = undef
 | 23 => x' = .bool false
 | _ => True

theorem PhiAp251.keep {gP gQ gT gR j2 : Nat} {p q : PC} {s : ByteArray} {r : RC0} : ∀ (w w' : World), Below w.heap.size w w' → ∀ j x, PhiAp251 gP gQ gT gR j2 p q s r j w x → PhiAp251 gP gQ gT gR j2 p q s r j w' x := by
 intro w w' hb j x h; unfold PhiAp251 at h ⊢; exact h
def PhiAp252 (gP gQ gT gR j2 : Nat) (p q : PC) (s : ByteArray) (r : RC0) (j : Nat) (w : World) (x' : Value) : Prop :=
 match j with
 | 0 => x' = .agg (cellsP p).toArray
 | 1 => x' = .slice (some ⟨gT, 0, none⟩) 3 3
 | 2 => x' = .int .i64 (j2 : Nat)
 | 3 => x' = .pointer (some ⟨gT, j2, none⟩)
 | 4 => x' = .string s
 | 5 => x' = .agg (cellsR r).toArray
 | 6 => x' = .bool true
 | 7 => x' = .bool true
 | 8 => x' = .agg (cellsP q).toArray
 | 9 => x' = .slice (some ⟨gT, 0, none⟩) 3 3
 | 10 => x' = .int .i64 (j2 : Nat)
 | 11 => x' = .pointer (some ⟨gT, j2, none⟩)
 | 12 => x' = .string s
 | 13 => x' = .agg (cellsR r).toArray
 | 14 => x' = .bool true
 | 15 => x' = .bool true
 | 16 => x' = .bool true
 | 17 => x' = .pointer (some ⟨gP, 4, none⟩)
 | 18 => x' = .agg #[p.b1, p.b2]
 | 19 => x' = .pointer (some ⟨gQ, 4, none⟩)
 | 20 => x' = .agg #[q.b1, q.b2]
 | 21 => x' = .bool true
 | 22 => x' = .bool false
 | 23 => x' = .bool false
 | _ => True

theorem PhiAp252.keep {gP gQ gT gR j2 : Nat} {p q : PC} {s : ByteArray} {r : RC0} : ∀ (w w' : World), Below w.heap.size w w' → ∀ j x, PhiAp252 gP gQ gT gR j2 p q s r j w x → PhiAp252 gP gQ gT gR j2 p q s r j w' x := by
 intro w w' hb j x h; unfold PhiAp252 at h ⊢; exact h
theorem clA_of2 {Ev : Nat → Int} {Lf : Nat → List Nat × List Nat} {dg : Nat → List Int} {ps : List PC} {i m : Nat} {p q : PC} {E F : Int} {cb : Bool} (hv : ∀ (n : Nat) p, ps[n]? = some p → PVal p (Lf n).1 (Lf n).2 (Ev n)) (hp : ps[i]? = some p) (hq : ps[m]? = some q)
  (h : PVal p (Lf i).1 (Lf i).2 E ∧ (E = 0 → PVal q (Lf m).1 (Lf m).2 F) ∧ cb = clB E F p q (dg i) (dg m) (sameR (Lf i).1 (Lf i).2 (Lf m).1 (Lf m).2)) : cb = clA Ev Lf dg ps i m := by
 have e1 := h.1.uniq (hv i p hp); rw [h.2.2]; unfold clA; rw [hp, hq]; simp only; by_cases hE : E = 0
 ·have e2 := (h.2.1 hE).uniq (hv m q hq); rw [e1, e2]
 ·unfold clB; rw [← e1]; simp [hE]
theorem own_ints {w : World} {base : Nat} {v : Value} {l br : List Int} {ks : Nat} (h1 : br = l.take 4) (h2 : ks = br.length) (ho : OwnI w base v (l.take 4)) : ∃ A c, v = .slice A ks c ∧ RowS intC w A ks br := by
 obtain ⟨A, c, rfl⟩ := ho.shp; rw [← h1, ← h2] at ho ⊢; refine ⟨A, c, rfl, ?_⟩; unfold OwnI at ho; rw [← h2] at ho; have : ks ≤ 4 := by rw [h2, h1, List.length_take]; omega
 exact own_any intC_len (by omega) (by omega) ho
theorem acp_ok {w' : World} {base kt : Nat} {tick : Int} {br : List Int} {Ev : Nat → Int} {Lf : Nat → List Nat × List Nat} {dg rd : Nat → List Int} {ps : List PC} {names : List ByteArray} {v : Value} {er : Int} (ht : twA names = false) (h : AcP w' base kt kt tick br Ev Lf dg ps names rd v er) (hl : ps.length ≤ 1000) :
  er = 0 ∧ ∃ (X : List Nat) (ka : Nat) (Aa : Option Addr) (ca : Nat), v = .slice Aa ka ca ∧ Hid (X = actL tick br Ev Lf dg rd ps names) ∧ RowS natC w' Aa ka X := by
 rcases h with ⟨h1, _⟩ | ⟨_, h1, _⟩ | ⟨_, _, h1, h2⟩
 ·exact absurd rfl h1
 ·rw [ht] at h1; cases h1
 ·refine ⟨h1, ?_⟩; have h3 : w'.ownsRow base 3 1 v (actL tick br Ev Lf dg rd ps names).length ((actL tick br Ev Lf dg rd ps names).flatMap natC) := h2; obtain ⟨A, c, rfl⟩ := own_shp h3
  have hle : (actL tick br Ev Lf dg rd ps names).length ≤ ps.length := by
   unfold actL; exact Nat.le_trans (List.length_filter_le _ _) (by rw [List.length_range]; exact Nat.le_refl _)
  exact ⟨_, _, A, c, rfl, rfl, own_any natC_len (by omega) (by omega) h3⟩
def nmA : List ByteArray := [⟨#[116, 48]⟩, ⟨#[116, 49]⟩, ⟨#[117]⟩]
theorem nm_size {s : ByteArray} (h : s ∈ nmA) : s.size ≤ 9223372036854775807 := by
 simp only [nmA, List.mem_cons, List.not_mem_nil, or_false] at h
 rcases h with rfl | rfl | rfl
 ·show (2 : Nat) ≤ _; omega
 ·show (2 : Nat) ≤ _; omega
 ·show (1 : Nat) ≤ _; omega
theorem three_strA {w : World} {g : Nat} {T : TypeId} {a b c : ByteArray} (h : Blk w g T #[.string a, .string b, .string c]) {m : Nat} (hm : m < 3) : ∃ s : ByteArray, w.cell? ⟨g, m, none⟩ = some (.string s) := by
 have hc : m = 0 ∨ m = 1 ∨ m = 2 := by omega
 rcases hc with rfl | rfl | rfl
 ·exact ⟨a, by rw [h.cell]; rfl⟩
 ·exact ⟨b, by rw [h.cell]; rfl⟩
 ·exact ⟨c, by rw [h.cell]; rfl⟩
theorem nm_str {w : World} {g : Nat} {T : TypeId} (h : Blk w g T (nmA.flatMap strC).toArray) {m : Nat} (hm : m < 3) : ∃ s : ByteArray, w.cell? ⟨g, m, none⟩ = some (.string s) := three_strA h hm
theorem twA_nm : twA nmA = false := by kernel_rfl
def rdA (y : Nat) (j : Nat) : List Int := if j = 0 then byL y else if j = 1 then byL 1 else List.replicate 16 0
theorem rdA_ok (y : Nat) : ∀ (j : Nat) d, [byDG y, byDG 1, zeroDG][j]? = some d → DgOk (cellsDG d) (rdA y j) := by
 intro j d h
 rcases j with _ | _ | _ | j
 ·injection h with h; subst h; exact byDG_ok y
 ·injection h with h; subst h; exact byDG_ok 1
 ·injection h with h; subst h; exact zeroDG_ok
 ·cases h
theorem info_dg3 : (Tryz.prog.info? 31).map (fun i => (i.zero, i.size, i.bytes)) = some (some (.agg (cellsDG zeroDG).toArray), 16, 16) := by kernel_rfl
theorem fill_dg3 (a b c : DG) : Instr.fill (fun i => some (i * 16, 16)) ((Array.range (3 * 16)).map ((Value.agg (cellsDG zeroDG).toArray).cells[· % (Value.agg (cellsDG zeroDG).toArray).cells.size]!)) [(0, .agg (cellsDG a).toArray), (1, .agg (cellsDG b).toArray), (2, .agg (cellsDG c).toArray)] = some (cellsDG a ++ cellsDG b ++ cellsDG c).toArray := by kernel_rfl
set_option maxRecDepth 100000 in
set_option maxHeartbeats 16000000 in
theorem promise_apart_n (A0 : Option Addr) (k0 c0 : Nat) (l0 : List Int) (how by_ tick : Int) (A4 : Option Addr) (m4 c4 : Nat) (l4 : List Int) (n : Int) (w : World)
  (h0 : RowL intC w A0 k0 l0) (H0 : Hid (∀ x ∈ l0, -9223372036854775808 ≤ x ∧ x ≤ 9223372036854775807)) (hh : -9223372036854775808 ≤ how ∧ how ≤ 9223372036854775807) (hb : -9223372036854775808 ≤ by_ ∧ by_ ≤ 9223372036854775807) (h4 : RowL intC w A4 m4 l4) (hc4 : m4 ≤ c4) (hd4 : c4 ≤ 9223372036854775807) (hn : -9223372036854775808 ≤ n ∧ n ≤ 9223372036854775807) :
  Calls Tryz.prog 7 #[.slice A0 k0 c0, .int .i64 how, .int .i64 by_, .int .i64 tick, .slice A4 m4 c4, .int .i64 n] w fun e w' => e = .returned (.bool true) ∧ Below w.heap.size w w' := by
 obtain ⟨iS, hiS, hzS, hzS1, hzS2⟩ := info_parts info_str14; obtain ⟨iD, hiD, hzD, hzD1, hzD2⟩ := info_parts info_dg3
 go_enter Tryz.func7, Tryz.ntmps7
 go_wp2_with fail; refine (list_n A0 k0 c0 l0 how by_ _ h0 H0 hh.1 hh.2 hb.1 hb.2).mono ?_; rintro e w1 ⟨Al, kp, c, ps0, bd, pb, pq, rfl, hrow, hkp, HK, hb1⟩; obtain ⟨Lf, Ev, dg, hls, hpl, hev⟩ := list_pls hrow HK.out.1 HK.out.2.1 HK.out.2.2; obtain ⟨ps, HPS⟩ : ∃ ps, Hid (ps = ps0 ++ [pb, pq]) := ⟨_, rfl⟩; obtain ⟨k, HK2⟩ : ∃ k, Hid (k = kp + 2) := ⟨_, rfl⟩; rw [← HPS.out, ← HK2.out] at hpl; rw [← HK2.out]; have hkk : k ≤ 8 := by have := HK2.out; omega
 have HPL := Lib.hid hpl; have HKL : Hid (k = ps.length) := hpl.row.2.1; have hbw := hb1; have h4 := h4.below hb1
 obtain ⟨yn, HYN⟩ : ∃ yn : Nat, Hid (IntKind.u8.wrap (how.tmod 2) = (yn : Int)) := by
  have := wrap8_in (how.tmod 2); exact ⟨(IntKind.u8.wrap (how.tmod 2)).toNat, by show _ = _; omega⟩
 have hyn := HYN.out; clear h0 H0 hh hb hrow HK hls hpl hev hb1 HPS
 go_upto_region 4 with (first | (refine wpList_sliceN rfl 49 9 3 [(0, .const (.string { data := #[116, 48] })), (1, .const (.string { data := #[116, 49] })), (2, .const (.string { data := #[117] }))] rfl #[.string { data := #[116, 48] }, .string { data := #[116, 49] }, .string { data := #[117] }] iS (.string { data := #[] }) 1 [(0, .string { data := #[116, 48] }), (1, .string { data := #[116, 49] }), (2, .string { data := #[117] })] Tryz.underlying49 hiS hzS hzS1 (by omega) (by omega) rfl (fill_st3 _ _ _) ?_; simp only [Act.put, sA, sB, sC]) | (refine wpList_sliceN rfl 64 31 3 [(0, .tmp 32), (1, .tmp 33), (2, .tmp 34)] rfl (cellsDG (byDG yn) ++ cellsDG (byDG 1) ++ cellsDG zeroDG).toArray iD (.agg (cellsDG zeroDG).toArray) 16 [(0, .agg (cellsDG (byDG yn)).toArray), (1, .agg (cellsDG (byDG 1)).toArray), (2, .agg (cellsDG zeroDG).toArray)] Tryz.underlying64 hiD hzD hzD1 (by omega) (by omega) rfl (fill_dg3 _ _ _) ?_; simp only [Act.put, sA, sB, sC]))
 refine wp_name ?_; intro w2 HW; have hb2 : Below w1.heap.size w1 w2 := by rw [HW.out]; exact Below.tr (bA _ _) (bA _ _)
 have BT : Blk w2 w1.heap.size 9 (nmA.flatMap strC).toArray := by rw [HW.out]; exact (Blk.new _ _ _).alloc _
 have BDD : Blk w2 (w1.heap.size + 1) 31 (cellsDG (byDG yn) ++ cellsDG (byDG 1) ++ cellsDG zeroDG).toArray := by
  rw [HW.out]; have h := Blk.new (w1.alloc (.cells (nmA.flatMap strC).toArray 9)) 31 (cellsDG (byDG yn) ++ cellsDG (byDG 1) ++ cellsDG zeroDG).toArray; rw [show (w1.alloc (.cells (nmA.flatMap strC).toArray 9)).heap.size = w1.heap.size + 1 by simp] at h; exact h
 obtain ⟨gD, hgD⟩ : ∃ g, Hid (g = (w1.alloc (.cells #[.string { data := #[116, 48] }, .string { data := #[116, 49] }, .string { data := #[117] }] 9)).heap.size) := ⟨_, rfl⟩; have hgD2 : w1.heap.size + 1 = gD := by rw [hgD.out]; simp
 obtain ⟨gT, hgT⟩ : ∃ g, Hid (g = w1.heap.size) := ⟨_, rfl⟩; rw [hgD2] at BDD; rw [← hgD.out]; rw [← hgT.out] at BT ⊢; have hrt : RowS strC w2 (some ⟨gT, 0, none⟩) 3 nmA := ⟨rd_blk BT, rfl, by omega⟩; have hrd : RowS cellsDG w2 (some ⟨gD, 0, none⟩) 3 [byDG yn, byDG 1, zeroDG] := ⟨rd_blk BDD, rfl, by omega⟩; have HPL := Lib.hid (HPL.out.below hb2); have h4 := h4.below hb2; have hbw := Below.tr hbw hb2; clear HW hb2 hgT hgD hgD2 BDD hyn HYN; go_wp2_with fail; refine (takeI_n A4 m4 c4 l4 4 _ h4 hc4 hd4 (by omega)).mono ?_; rintro e w3 ⟨vS, rfl, hoS, hb3⟩; obtain ⟨br, HBR⟩ : ∃ br, Hid (br = l4.take 4) := ⟨_, rfl⟩; obtain ⟨ks, HBK⟩ : ∃ ks, Hid (ks = br.length) := ⟨_, rfl⟩; obtain ⟨As, cs, rfl, hbr⟩ := own_ints HBR.out HBK.out hoS; have HPL := Lib.hid (HPL.out.below hb3); have h4 := h4.below hb3; have hrt := hrt.below hb3; have hrd := hrd.below hb3; have BT := Blk.below BT hb3 BT.lt; have hbw := Below.tr hbw hb3; clear hb3 hoS; go_wp2_with fail; refine (pactive_n Al k c tick (some ⟨gT, 0, none⟩) 3 3 (some ⟨gD, 0, none⟩) 3 3 As ks cs ps nmA [byDG yn, byDG 1, zeroDG] br Lf Ev dg (rdA yn) _ HPL.out.row hrt hrd hbr (by omega) (fun s hs => nm_size hs) HPL.out.esc HPL.out.pv HPL.out.dk (rdA_ok yn)).mono ?_; rintro e w4 ⟨vA, er, rfl, HA, hb4⟩; obtain ⟨rfl, X, ka, Aa, ca, rfl, HXL, hrx⟩ := acp_ok twA_nm HA.out (by have := HKL.out; omega); have HPL := Lib.hid (HPL.out.below hb4); have h4 := h4.below hb4; have BT := Blk.below BT hb4 BT.lt; have hbw := Below.tr hbw hb4; clear hb4 hrt hrd hbr HA
 go_wp2_with fail; refine (result_n n _ hn.1 hn.2).mono ?_; rintro e w5 ⟨r, rfl, hra, hb5⟩; have HON : Hid ((cellsR r).toArray.all (·.oneCell') = true) := all_oneCell_toArray hra.one; have HPL := Lib.hid (HPL.out.below hb5); have h4 := h4.below hb5; have hrx := hrx.below hb5; have BT := Blk.below BT hb5 BT.lt; have hbw := Below.tr hbw hb5; clear hb5 hra
 go_upto_region 8 with (first | (refine wpList_store_mid rfl 46 (.tmp 18) (.tmp 49) rfl w5.heap.size 0 (cellsR r).toArray rfl rfl (there_new _ _ _ 22 (by simp)) infoR22 HON.out ?_; rw [setCells_new]; rotate_left; rfl))
 refine wp_name ?_; intro w6 HW; have hb6 : Below w5.heap.size w5 w6 := by rw [HW.out]; exact bA _ _
 have BRS : Blk w6 w5.heap.size 46 (cellsR r).toArray := by rw [HW.out]; exact Blk.new _ _ _
 obtain ⟨gR, hgR⟩ : ∃ g, Hid (g = w5.heap.size) := ⟨_, rfl⟩; rw [← hgR.out] at BRS ⊢; have HPL := Lib.hid (HPL.out.below hb6); have h4 := h4.below hb6; have hrx := hrx.below hb6; have BT := Blk.below BT hb6 BT.lt; have hbw := Below.tr hbw hb6; clear HW hb6 hgR HON; simp only [Act.put]; go_wp2_with fail
 go_loopg [19] ka (fun mm z wr => ∃ i : Nat, z = .int .i64 i ∧ i + mm = ka ∧ Below w6.heap.size w6 wr)
 case atStart => exact ⟨0, rfl, by omega, Below.refl _ _⟩
 case round =>
  obtain ⟨G, hG⟩ : ∃ G, G = gk := ⟨gk, rfl⟩; subst hG; obtain ⟨i, rfl, him, hbe⟩ := hrel; obtain ⟨wi, hwi⟩ : ∃ x, x = wr := ⟨_, rfl⟩; subst hwi; by_cases hi : i < ka
  rotate_left
  ·have u1 : decide ((i : Int) < (ka : Int)) = false := by simp; omega
   go_wp2_with fail; refine (lives34_n _).mono ?_; rintro e w9 ⟨rfl, hb9⟩; go_wp2_with fail; go_ret; exact ⟨rfl, Below.tr hbw (Below.tr hbe hb9)⟩
  have u1 : decide ((i : Int) < (ka : Int)) = true := by simp; omega
  have li : (i : Int) < (ka : Int) := by omega
  have hXl : ka = X.length := hrx.2.1; have hiX : i < X.length := by omega
  obtain ⟨bX, oX, x, rfl, hcx6, HXi⟩ := hrx.nat hi
  have hxe : X[i] = x := by
   have h := HXi.out; rw [List.getElem?_eq_getElem hiX] at h; injection h
  have HAC : Hid (actB tick br Ev Lf dg ps nmA (rdA yn) x = true ∧ x < ps.length) := by
   have h := actL_at (tick := tick) (br := br) (Ev := Ev) (Lf := Lf) (dg := dg) (rd := rdA yn) (ps := ps) (names := nmA) (i := i) (by rw [← HXL.out]; exact hiX); simp only [← HXL.out] at h; rw [hxe] at h; exact h
  have hxk1 : x < k := by have := HKL.out; have := HAC.out.2; omega
  have hcx : wi.cell? ⟨bX, oX + i, none⟩ = some (.int .i64 (x : Nat)) := cell_keep hbe hcx6; have hx0 : decide ((x : Int) < 0) = false := by simp
  have hxk : decide (k ≤ x) = false := by simp; omega
  have hka : ka ≤ 281474976710656 := hrx.2.2; have HRX := Lib.hid (hrx.below hbe); obtain ⟨p, jp, hpx, hjp, hEx, hax, _⟩ := act_spec HAC.out.1
  have hin : decide ((x : Int) ∈ br) = false := by
   have h := hax.2.2.2
   rwa [List.contains_eq_mem] at h
  have HPX : Hid (ps[x]? = some p ∧ Ev x = 0 ∧ ¬ tick < p.fr ∧ ¬ p.un ≤ tick) := ⟨hpx, hEx, hax.1, hax.2.1⟩; have h4i := h4.below hbe; have hXX : Hid (ka = X.length) := hXl; clear hpx hjp hEx hax hXl; go_upto_region 11 with fail
  go_cut [95] from 56 to 95 (fun u wq => u = .bool false ∧ Below wi.heap.size wi wq)
  case first => as_aux_lemma =>
   clear HPL BT BRS hrx HPX HAC; have h4 := h4i; clear h4i; by_cases hi0 : 0 < i
   ·obtain ⟨i1, HI1⟩ : ∃ i1, Hid (i = i1 + 1) := ⟨i - 1, by show _ = _; omega⟩; have hi1 : (i : Int) - 1 = (i1 : Int) := by have := HI1.out; omega
    have hi2 : IntKind.i64.wrap (i1 : Int) = (i1 : Int) := by rw [IntWalk.i64_in _ (by have := HI1.out; omega)]
    have hmx : max (i1 : Int) 0 = (i1 : Int) := by omega
    have hgi : decide (0 < i) = true := by simpa using hi0
    have li1 : (i1 : Int) < (ka : Int) := by have := HI1.out; omega
    have hi1X : i1 < X.length := by have := HI1.out; omega
    obtain ⟨x0, HX0⟩ : ∃ x0, Hid (X[i1]'hi1X = x0) := ⟨X[i1], rfl⟩
    have hcx0 : wi.cell? ⟨bX, oX + i1, none⟩ = some (.int .i64 (x0 : Nat)) := by
     obtain ⟨b9, o9, x9, e9, hc9, HX9⟩ := HRX.out.nat (by omega : i1 < ka); injection e9 with e9; injection e9 with e91 e92; subst e91 e92; have h := HX9.out; rw [List.getElem?_eq_getElem hi1X, HX0.out] at h; injection h with h; rw [h]; exact hc9
    have hle : decide (x ≤ x0) = false := by
     have h := actL_lt (tick := tick) (br := br) (Ev := Ev) (Lf := Lf) (dg := dg) (rd := rdA yn) (ps := ps) (names := nmA) (i := i1) (j := i) (by rw [← HXL.out]; exact hiX) (by have := HI1.out; omega); simp only [← HXL.out] at h; rw [hxe, HX0.out] at h; simp; omega
    clear hi0; refine region_invF (PhiAp11A bX oX ka ca i i1 x x0 Al k c A4 m4 c4 ks br) (fun w w' => Below w.heap.size w w') (fun X => Below wi.heap.size wi X) (by kernel_rfl) (by kernel_rfl) (by kernel_rfl) PhiAp11A.keep (fun _ _ hR hS => Below.tr hS hR) (bD _) (fun vs => by simp only [fillR, Act.put, sA, sB, sC, Nat.zero_add, Nat.reduceAdd]; rfl) ?_ ?_
    ·refine sK ?_ (sK ?_ (sK ?_ (sK ?_ (sK ?_ (sK ?_ (sK ?_ (sK ?_ (sK ?_ (sK ?_ (sK ?_ (sK ?_ (sK ?_ (sK ?_ (sK ?_ (sK ?_ (sK ?_ (sK ?_ (sK ?_ (sK ?_ (sK ?_ (sK ?_ (sK ?_ (sK ?_ (sK ?_ (sK ?_ (sK ?_ (sK ?_ (sK ?_ (sK ?_ (sK ?_ (sK ?_ (sK ?_ (sK ?_ (sK ?_ (sK ?_ (sK ?_ (sK ?_ (sK ?_ (sK ?_ (sZ))))))))))))))))))))))))))))))))))))))))
     ·as_aux_lemma =>
      intro vs W hS hdep K hK; refine ⟨?_⟩; simp only [Act.put, sA, sB, sC, Nat.zero_add, Nat.reduceAdd] at hK ⊢; go_simp; with_reducible refine hK _ _ (Below.refl _ _) ?_
      exact rfl
     ·as_aux_lemma =>
      intro vs W hS hdep K hK; refine ⟨?_⟩; simp only [Act.put, sA, sB, sC, Nat.zero_add, Nat.reduceAdd] at hK ⊢; go_simp; with_reducible refine hK _ _ (Below.refl _ _) ?_
      exact rfl
     ·as_aux_lemma =>
      intro vs W hS hdep K hK; have d0 := hdep ⟨0, .data⟩ (by simp) rfl; simp only [PhiAp11A] at d0; have d1 := hdep ⟨1, .data⟩ (by simp) rfl; simp only [PhiAp11A] at d1; refine ⟨?_⟩; simp only [Act.put, sA, sB, sC, Nat.zero_add, Nat.reduceAdd, d0, d1] at hK ⊢; go_simp; with_reducible refine hK _ _ (Below.refl _ _) ?_
      exact rfl
     ·as_aux_lemma =>
      intro vs W hS hdep K hK; have d0 := hdep ⟨2, .data⟩ (by simp) rfl; simp only [PhiAp11A] at d0; have f1 := cell_keep hS hcx; refine ⟨?_⟩; simp only [Act.put, sA, sB, sC, Nat.zero_add, Nat.reduceAdd, d0] at hK ⊢; go_simp; with_reducible refine hK _ _ (Below.refl _ _) ?_
      exact rfl
     ·as_aux_lemma =>
      intro vs W hS hdep K hK; have d0 := hdep ⟨3, .data⟩ (by simp) rfl; simp only [PhiAp11A] at d0; have q1 := hx0; refine ⟨?_⟩; simp only [Act.put, sA, sB, sC, Nat.zero_add, Nat.reduceAdd, d0] at hK ⊢; go_simp; with_reducible refine hK _ _ (Below.refl _ _) ?_
      exact rfl
     ·as_aux_lemma =>
      intro vs W hS hdep K hK; have d0 := hdep ⟨4, .data⟩ (by simp) rfl; simp only [PhiAp11A] at d0; refine ⟨?_⟩; simp only [Act.put, sA, sB, sC, Nat.zero_add, Nat.reduceAdd, d0] at hK ⊢; go_simp; with_reducible refine hK _ _ (Below.refl _ _) ?_
      exact rfl
     ·as_aux_lemma =>
      intro vs W hS hdep K hK; have d0 := hdep ⟨5, .guard⟩ (by simp) rfl; simp only [PhiAp11A] at d0; refine ⟨?_⟩; simp only [Act.put, sA, sB, sC, Nat.zero_add, Nat.reduceAdd, d0] at hK ⊢; go_simp; with_reducible refine hK _ _ (Below.refl _ _) ?_
      exact rfl
     ·as_aux_lemma =>
      intro vs W hS hdep K hK; have d0 := hdep ⟨5, .guard⟩ (by simp) rfl; simp only [PhiAp11A] at d0; refine ⟨?_⟩; simp only [Act.put, sA, sB, sC, Nat.zero_add, Nat.reduceAdd, d0] at hK ⊢; go_simp; with_reducible refine hK _ _ (Below.refl _ _) ?_
      exact rfl
     ·as_aux_lemma =>
      intro vs W hS hdep K hK; have d0 := hdep ⟨6, .data⟩ (by simp) rfl; simp only [PhiAp11A] at d0; have d1 := hdep ⟨7, .data⟩ (by simp) rfl; simp only [PhiAp11A] at d1; have d2 := hdep ⟨5, .guard⟩ (by simp) rfl; simp only [PhiAp11A] at d2; refine ⟨?_⟩; simp only [Act.put, sA, sB, sC, Nat.zero_add, Nat.reduceAdd, d0, d1, d2] at hK ⊢; go_simp; with_reducible refine hK _ _ (Below.refl _ _) ?_
      exact rfl
     ·as_aux_lemma =>
      intro vs W hS hdep K hK; have d0 := hdep ⟨8, .data⟩ (by simp) rfl; simp only [PhiAp11A] at d0; have d1 := hdep ⟨5, .guard⟩ (by simp) rfl; simp only [PhiAp11A] at d1; have f1 := cell_keep hS hcx; refine ⟨?_⟩; simp only [Act.put, sA, sB, sC, Nat.zero_add, Nat.reduceAdd, d0, d1] at hK ⊢; go_simp; with_reducible refine hK _ _ (Below.refl _ _) ?_
      exact rfl
     ·as_aux_lemma =>
      intro vs W hS hdep K hK; have d0 := hdep ⟨5, .guard⟩ (by simp) rfl; simp only [PhiAp11A] at d0; refine ⟨?_⟩; simp only [Act.put, sA, sB, sC, Nat.zero_add, Nat.reduceAdd, d0] at hK ⊢; go_simp; with_reducible refine hK _ _ (Below.refl _ _) ?_
      exact rfl
     ·as_aux_lemma =>
      intro vs W hS hdep K hK; have d0 := hdep ⟨10, .data⟩ (by simp) rfl; simp only [PhiAp11A] at d0; have d1 := hdep ⟨5, .guard⟩ (by simp) rfl; simp only [PhiAp11A] at d1; refine ⟨?_⟩; simp only [Act.put, sA, sB, sC, Nat.zero_add, Nat.reduceAdd, d0, d1] at hK ⊢; go_simp; with_reducible refine hK _ _ (Below.refl _ _) ?_
      exact rfl
     ·as_aux_lemma =>
      intro vs W hS hdep K hK; have d0 := hdep ⟨9, .data⟩ (by simp) rfl; simp only [PhiAp11A] at d0; have d1 := hdep ⟨11, .data⟩ (by simp) rfl; simp only [PhiAp11A] at d1; have d2 := hdep ⟨5, .guard⟩ (by simp) rfl; simp only [PhiAp11A] at d2; have q1 := hxk; refine ⟨?_⟩; simp only [Act.put, sA, sB, sC, Nat.zero_add, Nat.reduceAdd, d0, d1, d2] at hK ⊢; go_simp; with_reducible refine hK _ _ (Below.refl _ _) ?_
      exact rfl
     ·as_aux_lemma =>
      intro vs W hS hdep K hK; have d0 := hdep ⟨5, .data⟩ (by simp) rfl; simp only [PhiAp11A] at d0; have d1 := hdep ⟨12, .data⟩ (by simp) rfl; simp only [PhiAp11A] at d1; refine ⟨?_⟩; simp only [Act.put, sA, sB, sC, Nat.zero_add, Nat.reduceAdd, d0, d1] at hK ⊢; go_simp; with_reducible refine hK _ _ (Below.refl _ _) ?_
      exact rfl
     ·as_aux_lemma =>
      intro vs W hS hdep K hK; have d0 := hdep ⟨13, .data⟩ (by simp) rfl; simp only [PhiAp11A] at d0; refine ⟨?_⟩; simp only [Act.put, sA, sB, sC, Nat.zero_add, Nat.reduceAdd, d0] at hK ⊢; go_simp; with_reducible refine hK _ _ (Below.refl _ _) ?_
      exact rfl
     ·as_aux_lemma =>
      intro vs W hS hdep K hK; have d0 := hdep ⟨14, .guard⟩ (by simp) rfl; simp only [PhiAp11A] at d0; refine ⟨?_⟩; simp only [Act.put, sA, sB, sC, Nat.zero_add, Nat.reduceAdd, d0] at hK ⊢; go_simp; with_reducible refine hK _ _ (Below.refl _ _) ?_
      exact rfl
     ·as_aux_lemma =>
      intro vs W hS hdep K hK; have d0 := hdep ⟨15, .data⟩ (by simp) rfl; simp only [PhiAp11A] at d0; have d1 := hdep ⟨14, .guard⟩ (by simp) rfl; simp only [PhiAp11A] at d1; have q1 := hgi; refine ⟨?_⟩; simp only [Act.put, sA, sB, sC, Nat.zero_add, Nat.reduceAdd, d0, d1] at hK ⊢; go_simp; with_reducible refine hK _ _ (Below.refl _ _) ?_
      exact rfl
     ·as_aux_lemma =>
      intro vs W hS hdep K hK; have d0 := hdep ⟨16, .data⟩ (by simp) rfl; simp only [PhiAp11A] at d0; have d1 := hdep ⟨14, .guard⟩ (by simp) rfl; simp only [PhiAp11A] at d1; refine ⟨?_⟩; simp only [Act.put, sA, sB, sC, Nat.zero_add, Nat.reduceAdd, d0, d1] at hK ⊢; go_simp; with_reducible refine hK _ _ (Below.refl _ _) ?_
      exact rfl
     ·as_aux_lemma =>
      intro vs W hS hdep K hK; have d0 := hdep ⟨17, .guard⟩ (by simp) rfl; simp only [PhiAp11A] at d0; refine ⟨?_⟩; simp only [Act.put, sA, sB, sC, Nat.zero_add, Nat.reduceAdd, d0] at hK ⊢; go_simp; with_reducible refine hK _ _ (Below.refl _ _) ?_
      exact rfl
     ·as_aux_lemma =>
      intro vs W hS hdep K hK; have d0 := hdep ⟨17, .guard⟩ (by simp) rfl; simp only [PhiAp11A] at d0; refine ⟨?_⟩; simp only [Act.put, sA, sB, sC, Nat.zero_add, Nat.reduceAdd, d0] at hK ⊢; go_simp; with_reducible refine hK _ _ (Below.refl _ _) ?_
      exact rfl
     ·as_aux_lemma =>
      intro vs W hS hdep K hK; have d0 := hdep ⟨18, .data⟩ (by simp) rfl; simp only [PhiAp11A] at d0; have d1 := hdep ⟨19, .data⟩ (by simp) rfl; simp only [PhiAp11A] at d1; have d2 := hdep ⟨17, .guard⟩ (by simp) rfl; simp only [PhiAp11A] at d2; refine ⟨?_⟩; simp only [Act.put, sA, sB, sC, Nat.zero_add, Nat.reduceAdd, d0, d1, d2] at hK ⊢; go_simp; with_reducible refine hK _ _ (Below.refl _ _) ?_
      exact rfl
     ·as_aux_lemma =>
      intro vs W hS hdep K hK; have d0 := hdep ⟨20, .data⟩ (by simp) rfl; simp only [PhiAp11A] at d0; have d1 := hdep ⟨17, .guard⟩ (by simp) rfl; simp only [PhiAp11A] at d1; have f1 := cell_keep hS hcx; refine ⟨?_⟩; simp only [Act.put, sA, sB, sC, Nat.zero_add, Nat.reduceAdd, d0, d1] at hK ⊢; go_simp; with_reducible refine hK _ _ (Below.refl _ _) ?_
      exact rfl
     ·as_aux_lemma =>
      intro vs W hS hdep K hK; have d0 := hdep ⟨17, .guard⟩ (by simp) rfl; simp only [PhiAp11A] at d0; refine ⟨?_⟩; simp only [Act.put, sA, sB, sC, Nat.zero_add, Nat.reduceAdd, d0] at hK ⊢; go_simp; with_reducible refine hK _ _ (Below.refl _ _) ?_
      exact rfl
     ·as_aux_lemma =>
      intro vs W hS hdep K hK; have d0 := hdep ⟨17, .guard⟩ (by simp) rfl; simp only [PhiAp11A] at d0; refine ⟨?_⟩; simp only [Act.put, sA, sB, sC, Nat.zero_add, Nat.reduceAdd, d0] at hK ⊢; go_simp; with_reducible refine hK _ _ (Below.refl _ _) ?_
      exact rfl
     ·as_aux_lemma =>
      intro vs W hS hdep K hK; have d0 := hdep ⟨23, .data⟩ (by simp) rfl; simp only [PhiAp11A] at d0; have d1 := hdep ⟨17, .guard⟩ (by simp) rfl; simp only [PhiAp11A] at d1; have q1 := hi1; have q2 := hi2; refine ⟨?_⟩; simp only [Act.put, sA, sB, sC, Nat.zero_add, Nat.reduceAdd, d0, d1] at hK ⊢; go_simp; with_reducible refine hK _ _ (Below.refl _ _) ?_
      exact rfl
     ·as_aux_lemma =>
      intro vs W hS hdep K hK; have d0 := hdep ⟨24, .data⟩ (by simp) rfl; simp only [PhiAp11A] at d0; have d1 := hdep ⟨17, .guard⟩ (by simp) rfl; simp only [PhiAp11A] at d1; have q1 := hmx; refine ⟨?_⟩; simp only [Act.put, sA, sB, sC, Nat.zero_add, Nat.reduceAdd, d0, d1] at hK ⊢; go_simp; with_reducible refine hK _ _ (Below.refl _ _) ?_
      exact rfl
     ·as_aux_lemma =>
      intro vs W hS hdep K hK; have d0 := hdep ⟨22, .data⟩ (by simp) rfl; simp only [PhiAp11A] at d0; have d1 := hdep ⟨25, .data⟩ (by simp) rfl; simp only [PhiAp11A] at d1; have d2 := hdep ⟨17, .guard⟩ (by simp) rfl; simp only [PhiAp11A] at d2; refine ⟨?_⟩; simp only [Act.put, sA, sB, sC, Nat.zero_add, Nat.reduceAdd, d0, d1, d2] at hK ⊢; go_simp; with_reducible refine hK _ _ (Below.refl _ _) ?_
      exact rfl
     ·as_aux_lemma =>
      intro vs W hS hdep K hK; have d0 := hdep ⟨26, .data⟩ (by simp) rfl; simp only [PhiAp11A] at d0; have d1 := hdep ⟨17, .guard⟩ (by simp) rfl; simp only [PhiAp11A] at d1; have f1 := cell_keep hS hcx0; refine ⟨?_⟩; simp only [Act.put, sA, sB, sC, Nat.zero_add, Nat.reduceAdd, d0, d1] at hK ⊢; go_simp; with_reducible refine hK _ _ (Below.refl _ _) ?_
      exact rfl
     ·as_aux_lemma =>
      intro vs W hS hdep K hK; have d0 := hdep ⟨21, .data⟩ (by simp) rfl; simp only [PhiAp11A] at d0; have d1 := hdep ⟨27, .data⟩ (by simp) rfl; simp only [PhiAp11A] at d1; have d2 := hdep ⟨17, .guard⟩ (by simp) rfl; simp only [PhiAp11A] at d2; have q1 := hle; refine ⟨?_⟩; simp only [Act.put, sA, sB, sC, Nat.zero_add, Nat.reduceAdd, d0, d1, d2] at hK ⊢; go_simp; with_reducible refine hK _ _ (Below.refl _ _) ?_
      exact rfl
     ·as_aux_lemma =>
      intro vs W hS hdep K hK; have d0 := hdep ⟨17, .data⟩ (by simp) rfl; simp only [PhiAp11A] at d0; have d1 := hdep ⟨28, .data⟩ (by simp) rfl; simp only [PhiAp11A] at d1; have d2 := hdep ⟨14, .guard⟩ (by simp) rfl; simp only [PhiAp11A] at d2; refine ⟨?_⟩; simp only [Act.put, sA, sB, sC, Nat.zero_add, Nat.reduceAdd, d0, d1, d2] at hK ⊢; go_simp; with_reducible refine hK _ _ (Below.refl _ _) ?_
      exact rfl
     ·as_aux_lemma =>
      intro vs W hS hdep K hK; have d0 := hdep ⟨14, .data⟩ (by simp) rfl; simp only [PhiAp11A] at d0; have d1 := hdep ⟨29, .data⟩ (by simp) rfl; simp only [PhiAp11A] at d1; refine ⟨?_⟩; simp only [Act.put, sA, sB, sC, Nat.zero_add, Nat.reduceAdd, d0, d1] at hK ⊢; go_simp; with_reducible refine hK _ _ (Below.refl _ _) ?_
      exact rfl
     ·as_aux_lemma =>
      intro vs W hS hdep K hK; have d0 := hdep ⟨30, .data⟩ (by simp) rfl; simp only [PhiAp11A] at d0; refine ⟨?_⟩; simp only [Act.put, sA, sB, sC, Nat.zero_add, Nat.reduceAdd, d0] at hK ⊢; go_simp; with_reducible refine hK _ _ (Below.refl _ _) ?_
      exact rfl
     ·as_aux_lemma =>
      intro vs W hS hdep K hK; have d0 := hdep ⟨31, .guard⟩ (by simp) rfl; simp only [PhiAp11A] at d0; refine ⟨?_⟩; simp only [Act.put, sA, sB, sC, Nat.zero_add, Nat.reduceAdd, d0] at hK ⊢; go_simp; with_reducible refine hK _ _ (Below.refl _ _) ?_
      exact rfl
     ·as_aux_lemma =>
      intro vs W hS hdep K hK; have d0 := hdep ⟨32, .data⟩ (by simp) rfl; simp only [PhiAp11A] at d0; have d1 := hdep ⟨31, .guard⟩ (by simp) rfl; simp only [PhiAp11A] at d1; refine ⟨?_⟩; simp only [Act.put, sA, sB, sC, Nat.zero_add, Nat.reduceAdd, d0, d1] at hK ⊢; go_simp; refine (takeI_n A4 m4 c4 l4 4 _ (h4.below hS) hc4 hd4 (by omega)).mono ?_; rintro e w' ⟨v, rfl, ho, hb⟩; obtain ⟨A', c', rfl, hr'⟩ := own_ints HBR.out HBK.out ho; go_wp2_with fail; with_reducible refine hK _ _ hb ?_
      exact ⟨A', c', rfl, hr'⟩
     ·as_aux_lemma =>
      intro vs W hS hdep K hK; have d0 := hdep ⟨31, .guard⟩ (by simp) rfl; simp only [PhiAp11A] at d0; refine ⟨?_⟩; simp only [Act.put, sA, sB, sC, Nat.zero_add, Nat.reduceAdd, d0] at hK ⊢; go_simp; with_reducible refine hK _ _ (Below.refl _ _) ?_
      exact rfl
     ·as_aux_lemma =>
      intro vs W hS hdep K hK; have d0 := hdep ⟨31, .guard⟩ (by simp) rfl; simp only [PhiAp11A] at d0; refine ⟨?_⟩; simp only [Act.put, sA, sB, sC, Nat.zero_add, Nat.reduceAdd, d0] at hK ⊢; go_simp; with_reducible refine hK _ _ (Below.refl _ _) ?_
      exact rfl
     ·as_aux_lemma =>
      intro vs W hS hdep K hK; have d0 := hdep ⟨34, .data⟩ (by simp) rfl; simp only [PhiAp11A] at d0; have d1 := hdep ⟨35, .data⟩ (by simp) rfl; simp only [PhiAp11A] at d1; have d2 := hdep ⟨31, .guard⟩ (by simp) rfl; simp only [PhiAp11A] at d2; refine ⟨?_⟩; simp only [Act.put, sA, sB, sC, Nat.zero_add, Nat.reduceAdd, d0, d1, d2] at hK ⊢; go_simp; with_reducible refine hK _ _ (Below.refl _ _) ?_
      exact rfl
     ·as_aux_lemma =>
      intro vs W hS hdep K hK; have d0 := hdep ⟨36, .data⟩ (by simp) rfl; simp only [PhiAp11A] at d0; have d1 := hdep ⟨31, .guard⟩ (by simp) rfl; simp only [PhiAp11A] at d1; have f1 := cell_keep hS hcx; refine ⟨?_⟩; simp only [Act.put, sA, sB, sC, Nat.zero_add, Nat.reduceAdd, d0, d1] at hK ⊢; go_simp; with_reducible refine hK _ _ (Below.refl _ _) ?_
      exact rfl
     ·as_aux_lemma =>
      intro vs W hS hdep K hK; have d0 := hdep ⟨33, .data⟩ (by simp) rfl; simp only [PhiAp11A] at d0; refine @exE2 _ _ _ _ d0 ?_; clear d0; intro A0 c0 d0; have e0 := d0.1; have r0 := d0.2; clear d0; have d1 := hdep ⟨37, .data⟩ (by simp) rfl; simp only [PhiAp11A] at d1; have d2 := hdep ⟨31, .guard⟩ (by simp) rfl; simp only [PhiAp11A] at d2; refine ⟨?_⟩; simp only [Act.put, sA, sB, sC, Nat.zero_add, Nat.reduceAdd, e0, d1, d2] at hK ⊢; go_simp; refine (in34_n A0 ks c0 br (x : Int) _ r0).mono ?_; rintro e w' ⟨rfl, hb⟩; go_wp2_with fail; with_reducible refine hK _ _ hb ?_
      exact rfl
     ·as_aux_lemma =>
      intro vs W hS hdep K hK; have d0 := hdep ⟨31, .data⟩ (by simp) rfl; simp only [PhiAp11A] at d0; have d1 := hdep ⟨38, .data⟩ (by simp) rfl; simp only [PhiAp11A] at d1; refine ⟨?_⟩; simp only [Act.put, sA, sB, sC, Nat.zero_add, Nat.reduceAdd, d0, d1] at hK ⊢; go_simp; with_reducible refine hK _ _ (Below.refl _ _) ?_
      exact rfl
    ·intro vs w7 hS hv; have v39 := hv 39 (by simp); simp only [PhiAp11A] at v39; simp only [Act.put, sA, sB, sC, Nat.zero_add, Nat.reduceAdd, v39]; clear v39 hv; go_wp2_with fail
     go_meet
     case rel => exact ⟨rfl, hS⟩
   ·have hgi : decide (0 < i) = false := by simp; omega
    clear hi0; refine region_invF (PhiAp11B bX oX ka ca i 0 x 0 Al k c A4 m4 c4 ks br) (fun w w' => Below w.heap.size w w') (fun X => Below wi.heap.size wi X) (by kernel_rfl) (by kernel_rfl) (by kernel_rfl) PhiAp11B.keep (fun _ _ hR hS => Below.tr hS hR) (bD _) (fun vs => by simp only [fillR, Act.put, sA, sB, sC, Nat.zero_add, Nat.reduceAdd]; rfl) ?_ ?_
    ·refine sK ?_ (sK ?_ (sK ?_ (sK ?_ (sK ?_ (sK ?_ (sK ?_ (sK ?_ (sK ?_ (sK ?_ (sK ?_ (sK ?_ (sK ?_ (sK ?_ (sK ?_ (sK ?_ (sK ?_ (sK ?_ (sK ?_ (sK ?_ (sK ?_ (sK ?_ (sK ?_ (sK ?_ (sK ?_ (sK ?_ (sK ?_ (sK ?_ (sK ?_ (sK ?_ (sK ?_ (sK ?_ (sK ?_ (sK ?_ (sK ?_ (sK ?_ (sK ?_ (sK ?_ (sK ?_ (sK ?_ (sZ))))))))))))))))))))))))))))))))))))))))
     ·as_aux_lemma =>
      intro vs W hS hdep K hK; refine ⟨?_⟩; simp only [Act.put, sA, sB, sC, Nat.zero_add, Nat.reduceAdd] at hK ⊢; go_simp; with_reducible refine hK _ _ (Below.refl _ _) ?_
      exact rfl
     ·as_aux_lemma =>
      intro vs W hS hdep K hK; refine ⟨?_⟩; simp only [Act.put, sA, sB, sC, Nat.zero_add, Nat.reduceAdd] at hK ⊢; go_simp; with_reducible refine hK _ _ (Below.refl _ _) ?_
      exact rfl
     ·as_aux_lemma =>
      intro vs W hS hdep K hK; have d0 := hdep ⟨0, .data⟩ (by simp) rfl; simp only [PhiAp11B] at d0; have d1 := hdep ⟨1, .data⟩ (by simp) rfl; simp only [PhiAp11B] at d1; refine ⟨?_⟩; simp only [Act.put, sA, sB, sC, Nat.zero_add, Nat.reduceAdd, d0, d1] at hK ⊢; go_simp; with_reducible refine hK _ _ (Below.refl _ _) ?_
      exact rfl
     ·as_aux_lemma =>
      intro vs W hS hdep K hK; have d0 := hdep ⟨2, .data⟩ (by simp) rfl; simp only [PhiAp11B] at d0; have f1 := cell_keep hS hcx; refine ⟨?_⟩; simp only [Act.put, sA, sB, sC, Nat.zero_add, Nat.reduceAdd, d0] at hK ⊢; go_simp; with_reducible refine hK _ _ (Below.refl _ _) ?_
      exact rfl
     ·as_aux_lemma =>
      intro vs W hS hdep K hK; have d0 := hdep ⟨3, .data⟩ (by simp) rfl; simp only [PhiAp11B] at d0; have q1 := hx0; refine ⟨?_⟩; simp only [Act.put, sA, sB, sC, Nat.zero_add, Nat.reduceAdd, d0] at hK ⊢; go_simp; with_reducible refine hK _ _ (Below.refl _ _) ?_
      exact rfl
     ·as_aux_lemma =>
      intro vs W hS hdep K hK; have d0 := hdep ⟨4, .data⟩ (by simp) rfl; simp only [PhiAp11B] at d0; refine ⟨?_⟩; simp only [Act.put, sA, sB, sC, Nat.zero_add, Nat.reduceAdd, d0] at hK ⊢; go_simp; with_reducible refine hK _ _ (Below.refl _ _) ?_
      exact rfl
     ·as_aux_lemma =>
      intro vs W hS hdep K hK; have d0 := hdep ⟨5, .guard⟩ (by simp) rfl; simp only [PhiAp11B] at d0; refine ⟨?_⟩; simp only [Act.put, sA, sB, sC, Nat.zero_add, Nat.reduceAdd, d0] at hK ⊢; go_simp; with_reducible refine hK _ _ (Below.refl _ _) ?_
      exact rfl
     ·as_aux_lemma =>
      intro vs W hS hdep K hK; have d0 := hdep ⟨5, .guard⟩ (by simp) rfl; simp only [PhiAp11B] at d0; refine ⟨?_⟩; simp only [Act.put, sA, sB, sC, Nat.zero_add, Nat.reduceAdd, d0] at hK ⊢; go_simp; with_reducible refine hK _ _ (Below.refl _ _) ?_
      exact rfl
     ·as_aux_lemma =>
      intro vs W hS hdep K hK; have d0 := hdep ⟨6, .data⟩ (by simp) rfl; simp only [PhiAp11B] at d0; have d1 := hdep ⟨7, .data⟩ (by simp) rfl; simp only [PhiAp11B] at d1; have d2 := hdep ⟨5, .guard⟩ (by simp) rfl; simp only [PhiAp11B] at d2; refine ⟨?_⟩; simp only [Act.put, sA, sB, sC, Nat.zero_add, Nat.reduceAdd, d0, d1, d2] at hK ⊢; go_simp; with_reducible refine hK _ _ (Below.refl _ _) ?_
      exact rfl
     ·as_aux_lemma =>
      intro vs W hS hdep K hK; have d0 := hdep ⟨8, .data⟩ (by simp) rfl; simp only [PhiAp11B] at d0; have d1 := hdep ⟨5, .guard⟩ (by simp) rfl; simp only [PhiAp11B] at d1; have f1 := cell_keep hS hcx; refine ⟨?_⟩; simp only [Act.put, sA, sB, sC, Nat.zero_add, Nat.reduceAdd, d0, d1] at hK ⊢; go_simp; with_reducible refine hK _ _ (Below.refl _ _) ?_
      exact rfl
     ·as_aux_lemma =>
      intro vs W hS hdep K hK; have d0 := hdep ⟨5, .guard⟩ (by simp) rfl; simp only [PhiAp11B] at d0; refine ⟨?_⟩; simp only [Act.put, sA, sB, sC, Nat.zero_add, Nat.reduceAdd, d0] at hK ⊢; go_simp; with_reducible refine hK _ _ (Below.refl _ _) ?_
      exact rfl
     ·as_aux_lemma =>
      intro vs W hS hdep K hK; have d0 := hdep ⟨10, .data⟩ (by simp) rfl; simp only [PhiAp11B] at d0; have d1 := hdep ⟨5, .guard⟩ (by simp) rfl; simp only [PhiAp11B] at d1; refine ⟨?_⟩; simp only [Act.put, sA, sB, sC, Nat.zero_add, Nat.reduceAdd, d0, d1] at hK ⊢; go_simp; with_reducible refine hK _ _ (Below.refl _ _) ?_
      exact rfl
     ·as_aux_lemma =>
      intro vs W hS hdep K hK; have d0 := hdep ⟨9, .data⟩ (by simp) rfl; simp only [PhiAp11B] at d0; have d1 := hdep ⟨11, .data⟩ (by simp) rfl; simp only [PhiAp11B] at d1; have d2 := hdep ⟨5, .guard⟩ (by simp) rfl; simp only [PhiAp11B] at d2; have q1 := hxk; refine ⟨?_⟩; simp only [Act.put, sA, sB, sC, Nat.zero_add, Nat.reduceAdd, d0, d1, d2] at hK ⊢; go_simp; with_reducible refine hK _ _ (Below.refl _ _) ?_
      exact rfl
     ·as_aux_lemma =>
      intro vs W hS hdep K hK; have d0 := hdep ⟨5, .data⟩ (by simp) rfl; simp only [PhiAp11B] at d0; have d1 := hdep ⟨12, .data⟩ (by simp) rfl; simp only [PhiAp11B] at d1; refine ⟨?_⟩; simp only [Act.put, sA, sB, sC, Nat.zero_add, Nat.reduceAdd, d0, d1] at hK ⊢; go_simp; with_reducible refine hK _ _ (Below.refl _ _) ?_
      exact rfl
     ·as_aux_lemma =>
      intro vs W hS hdep K hK; have d0 := hdep ⟨13, .data⟩ (by simp) rfl; simp only [PhiAp11B] at d0; refine ⟨?_⟩; simp only [Act.put, sA, sB, sC, Nat.zero_add, Nat.reduceAdd, d0] at hK ⊢; go_simp; with_reducible refine hK _ _ (Below.refl _ _) ?_
      exact rfl
     ·as_aux_lemma =>
      intro vs W hS hdep K hK; have d0 := hdep ⟨14, .guard⟩ (by simp) rfl; simp only [PhiAp11B] at d0; refine ⟨?_⟩; simp only [Act.put, sA, sB, sC, Nat.zero_add, Nat.reduceAdd, d0] at hK ⊢; go_simp; with_reducible refine hK _ _ (Below.refl _ _) ?_
      exact rfl
     ·as_aux_lemma =>
      intro vs W hS hdep K hK; have d0 := hdep ⟨15, .data⟩ (by simp) rfl; simp only [PhiAp11B] at d0; have d1 := hdep ⟨14, .guard⟩ (by simp) rfl; simp only [PhiAp11B] at d1; have q1 := hgi; refine ⟨?_⟩; simp only [Act.put, sA, sB, sC, Nat.zero_add, Nat.reduceAdd, d0, d1] at hK ⊢; go_simp; with_reducible refine hK _ _ (Below.refl _ _) ?_
      exact rfl
     ·as_aux_lemma =>
      intro vs W hS hdep K hK; have d0 := hdep ⟨16, .data⟩ (by simp) rfl; simp only [PhiAp11B] at d0; have d1 := hdep ⟨14, .guard⟩ (by simp) rfl; simp only [PhiAp11B] at d1; refine ⟨?_⟩; simp only [Act.put, sA, sB, sC, Nat.zero_add, Nat.reduceAdd, d0, d1] at hK ⊢; go_simp; with_reducible refine hK _ _ (Below.refl _ _) ?_
      exact rfl
     ·as_aux_lemma =>
      intro vs W hS hdep K hK; have d0 := hdep ⟨17, .guard⟩ (by simp) rfl; simp only [PhiAp11B] at d0; refine ⟨?_⟩; simp only [Act.put, sA, sB, sC, Nat.zero_add, Nat.reduceAdd, d0] at hK ⊢; go_simp
      try rw [if_neg (by simp [undef])]
      with_reducible refine hK _ _ (Below.refl _ _) ?_
      exact rfl
     ·as_aux_lemma =>
      intro vs W hS hdep K hK; have d0 := hdep ⟨17, .guard⟩ (by simp) rfl; simp only [PhiAp11B] at d0; refine ⟨?_⟩; simp only [Act.put, sA, sB, sC, Nat.zero_add, Nat.reduceAdd, d0] at hK ⊢; go_simp
      try rw [if_neg (by simp [undef])]
      with_reducible refine hK _ _ (Below.refl _ _) ?_
      exact rfl
     ·as_aux_lemma =>
      intro vs W hS hdep K hK; have d0 := hdep ⟨17, .guard⟩ (by simp) rfl; simp only [PhiAp11B] at d0; refine ⟨?_⟩; simp only [Act.put, sA, sB, sC, Nat.zero_add, Nat.reduceAdd, d0] at hK ⊢; go_simp
      try rw [if_neg (by simp [undef])]
      with_reducible refine hK _ _ (Below.refl _ _) ?_
      exact rfl
     ·as_aux_lemma =>
      intro vs W hS hdep K hK; have d0 := hdep ⟨17, .guard⟩ (by simp) rfl; simp only [PhiAp11B] at d0; refine ⟨?_⟩; simp only [Act.put, sA, sB, sC, Nat.zero_add, Nat.reduceAdd, d0] at hK ⊢; go_simp
      try rw [if_neg (by simp [undef])]
      with_reducible refine hK _ _ (Below.refl _ _) ?_
      exact rfl
     ·as_aux_lemma =>
      intro vs W hS hdep K hK; have d0 := hdep ⟨17, .guard⟩ (by simp) rfl; simp only [PhiAp11B] at d0; refine ⟨?_⟩; simp only [Act.put, sA, sB, sC, Nat.zero_add, Nat.reduceAdd, d0] at hK ⊢; go_simp
      try rw [if_neg (by simp [undef])]
      with_reducible refine hK _ _ (Below.refl _ _) ?_
      exact rfl
     ·as_aux_lemma =>
      intro vs W hS hdep K hK; have d0 := hdep ⟨17, .guard⟩ (by simp) rfl; simp only [PhiAp11B] at d0; refine ⟨?_⟩; simp only [Act.put, sA, sB, sC, Nat.zero_add, Nat.reduceAdd, d0] at hK ⊢; go_simp
      try rw [if_neg (by simp [undef])]
      with_reducible refine hK _ _ (Below.refl _ _) ?_
      exact rfl
     ·as_aux_lemma =>
      intro vs W hS hdep K hK; have d0 := hdep ⟨17, .guard⟩ (by simp) rfl; simp only [PhiAp11B] at d0; refine ⟨?_⟩; simp only [Act.put, sA, sB, sC, Nat.zero_add, Nat.reduceAdd, d0] at hK ⊢; go_simp
      try rw [if_neg (by simp [undef])]
      with_reducible refine hK _ _ (Below.refl _ _) ?_
      exact rfl
     ·as_aux_lemma =>
      intro vs W hS hdep K hK; have d0 := hdep ⟨17, .guard⟩ (by simp) rfl; simp only [PhiAp11B] at d0; refine ⟨?_⟩; simp only [Act.put, sA, sB, sC, Nat.zero_add, Nat.reduceAdd, d0] at hK ⊢; go_simp
      try rw [if_neg (by simp [undef])]
      with_reducible refine hK _ _ (Below.refl _ _) ?_
      exact rfl
     ·as_aux_lemma =>
      intro vs W hS hdep K hK; have d0 := hdep ⟨17, .guard⟩ (by simp) rfl; simp only [PhiAp11B] at d0; refine ⟨?_⟩; simp only [Act.put, sA, sB, sC, Nat.zero_add, Nat.reduceAdd, d0] at hK ⊢; go_simp
      try rw [if_neg (by simp [undef])]
      with_reducible refine hK _ _ (Below.refl _ _) ?_
      exact rfl
     ·as_aux_lemma =>
      intro vs W hS hdep K hK; have d0 := hdep ⟨17, .guard⟩ (by simp) rfl; simp only [PhiAp11B] at d0; refine ⟨?_⟩; simp only [Act.put, sA, sB, sC, Nat.zero_add, Nat.reduceAdd, d0] at hK ⊢; go_simp
      try rw [if_neg (by simp [undef])]
      with_reducible refine hK _ _ (Below.refl _ _) ?_
      exact rfl
     ·as_aux_lemma =>
      intro vs W hS hdep K hK; have d0 := hdep ⟨17, .guard⟩ (by simp) rfl; simp only [PhiAp11B] at d0; refine ⟨?_⟩; simp only [Act.put, sA, sB, sC, Nat.zero_add, Nat.reduceAdd, d0] at hK ⊢; go_simp
      try rw [if_neg (by simp [undef])]
      with_reducible refine hK _ _ (Below.refl _ _) ?_
      exact rfl
     ·as_aux_lemma =>
      intro vs W hS hdep K hK; have d0 := hdep ⟨17, .data⟩ (by simp) rfl; simp only [PhiAp11B] at d0; have d1 := hdep ⟨14, .guard⟩ (by simp) rfl; simp only [PhiAp11B] at d1; refine ⟨?_⟩; simp only [Act.put, sA, sB, sC, Nat.zero_add, Nat.reduceAdd, d0, d1] at hK ⊢; go_simp; with_reducible refine hK _ _ (Below.refl _ _) ?_
      exact rfl
     ·as_aux_lemma =>
      intro vs W hS hdep K hK; have d0 := hdep ⟨14, .data⟩ (by simp) rfl; simp only [PhiAp11B] at d0; have d1 := hdep ⟨29, .data⟩ (by simp) rfl; simp only [PhiAp11B] at d1; refine ⟨?_⟩; simp only [Act.put, sA, sB, sC, Nat.zero_add, Nat.reduceAdd, d0, d1] at hK ⊢; go_simp; with_reducible refine hK _ _ (Below.refl _ _) ?_
      exact rfl
     ·as_aux_lemma =>
      intro vs W hS hdep K hK; have d0 := hdep ⟨30, .data⟩ (by simp) rfl; simp only [PhiAp11B] at d0; refine ⟨?_⟩; simp only [Act.put, sA, sB, sC, Nat.zero_add, Nat.reduceAdd, d0] at hK ⊢; go_simp; with_reducible refine hK _ _ (Below.refl _ _) ?_
      exact rfl
     ·as_aux_lemma =>
      intro vs W hS hdep K hK; have d0 := hdep ⟨31, .guard⟩ (by simp) rfl; simp only [PhiAp11B] at d0; refine ⟨?_⟩; simp only [Act.put, sA, sB, sC, Nat.zero_add, Nat.reduceAdd, d0] at hK ⊢; go_simp; with_reducible refine hK _ _ (Below.refl _ _) ?_
      exact rfl
     ·as_aux_lemma =>
      intro vs W hS hdep K hK; have d0 := hdep ⟨32, .data⟩ (by simp) rfl; simp only [PhiAp11B] at d0; have d1 := hdep ⟨31, .guard⟩ (by simp) rfl; simp only [PhiAp11B] at d1; refine ⟨?_⟩; simp only [Act.put, sA, sB, sC, Nat.zero_add, Nat.reduceAdd, d0, d1] at hK ⊢; go_simp; refine (takeI_n A4 m4 c4 l4 4 _ (h4.below hS) hc4 hd4 (by omega)).mono ?_; rintro e w' ⟨v, rfl, ho, hb⟩; obtain ⟨A', c', rfl, hr'⟩ := own_ints HBR.out HBK.out ho; go_wp2_with fail; with_reducible refine hK _ _ hb ?_
      exact ⟨A', c', rfl, hr'⟩
     ·as_aux_lemma =>
      intro vs W hS hdep K hK; have d0 := hdep ⟨31, .guard⟩ (by simp) rfl; simp only [PhiAp11B] at d0; refine ⟨?_⟩; simp only [Act.put, sA, sB, sC, Nat.zero_add, Nat.reduceAdd, d0] at hK ⊢; go_simp; with_reducible refine hK _ _ (Below.refl _ _) ?_
      exact rfl
     ·as_aux_lemma =>
      intro vs W hS hdep K hK; have d0 := hdep ⟨31, .guard⟩ (by simp) rfl; simp only [PhiAp11B] at d0; refine ⟨?_⟩; simp only [Act.put, sA, sB, sC, Nat.zero_add, Nat.reduceAdd, d0] at hK ⊢; go_simp; with_reducible refine hK _ _ (Below.refl _ _) ?_
      exact rfl
     ·as_aux_lemma =>
      intro vs W hS hdep K hK; have d0 := hdep ⟨34, .data⟩ (by simp) rfl; simp only [PhiAp11B] at d0; have d1 := hdep ⟨35, .data⟩ (by simp) rfl; simp only [PhiAp11B] at d1; have d2 := hdep ⟨31, .guard⟩ (by simp) rfl; simp only [PhiAp11B] at d2; refine ⟨?_⟩; simp only [Act.put, sA, sB, sC, Nat.zero_add, Nat.reduceAdd, d0, d1, d2] at hK ⊢; go_simp; with_reducible refine hK _ _ (Below.refl _ _) ?_
      exact rfl
     ·as_aux_lemma =>
      intro vs W hS hdep K hK; have d0 := hdep ⟨36, .data⟩ (by simp) rfl; simp only [PhiAp11B] at d0; have d1 := hdep ⟨31, .guard⟩ (by simp) rfl; simp only [PhiAp11B] at d1; have f1 := cell_keep hS hcx; refine ⟨?_⟩; simp only [Act.put, sA, sB, sC, Nat.zero_add, Nat.reduceAdd, d0, d1] at hK ⊢; go_simp; with_reducible refine hK _ _ (Below.refl _ _) ?_
      exact rfl
     ·as_aux_lemma =>
      intro vs W hS hdep K hK; have d0 := hdep ⟨33, .data⟩ (by simp) rfl; simp only [PhiAp11B] at d0; refine @exE2 _ _ _ _ d0 ?_; clear d0; intro A0 c0 d0; have e0 := d0.1; have r0 := d0.2; clear d0; have d1 := hdep ⟨37, .data⟩ (by simp) rfl; simp only [PhiAp11B] at d1; have d2 := hdep ⟨31, .guard⟩ (by simp) rfl; simp only [PhiAp11B] at d2; refine ⟨?_⟩; simp only [Act.put, sA, sB, sC, Nat.zero_add, Nat.reduceAdd, e0, d1, d2] at hK ⊢; go_simp; refine (in34_n A0 ks c0 br (x : Int) _ r0).mono ?_; rintro e w' ⟨rfl, hb⟩; go_wp2_with fail; with_reducible refine hK _ _ hb ?_
      exact rfl
     ·as_aux_lemma =>
      intro vs W hS hdep K hK; have d0 := hdep ⟨31, .data⟩ (by simp) rfl; simp only [PhiAp11B] at d0; have d1 := hdep ⟨38, .data⟩ (by simp) rfl; simp only [PhiAp11B] at d1; refine ⟨?_⟩; simp only [Act.put, sA, sB, sC, Nat.zero_add, Nat.reduceAdd, d0, d1] at hK ⊢; go_simp; with_reducible refine hK _ _ (Below.refl _ _) ?_
      exact rfl
    ·intro vs w7 hS hv; have v39 := hv 39 (by simp); simp only [PhiAp11B] at v39; simp only [Act.put, sA, sB, sC, Nat.zero_add, Nat.reduceAdd, v39]; clear v39 hv; go_wp2_with fail
     go_meet
     case rel => exact ⟨rfl, hS⟩
  obtain ⟨rfl, hb7⟩ := hcut; have hbe := Below.tr hbe hb7; have hcx := cell_keep hb7 hcx; clear hb7 h4i hxk hx0 hin; obtain ⟨wb, hwb⟩ : ∃ x, x = wc := ⟨_, rfl⟩; subst hwb; have hplb := HPL.out.below hbe; obtain ⟨bP, oP, hAl, HCP0⟩ := hplb.row.at_ cellsP_len (by omega) hxk1 HAC.out.2
  have hpe : ps[x]'HAC.out.2 = p := by
   have h := HPX.out.1; rw [List.getElem?_eq_getElem HAC.out.2] at h; injection h
  rw [hpe] at HCP0; subst hAl; have lxk : (x : Int) < (k : Int) := by omega
  have HDPx := Lib.hid (hplb.dk x p HPX.out.1); have HEPx := Lib.hid (hplb.esc x p HPX.out.1); have HONP : Hid ((cellsP p).toArray.all (·.oneCell') = true) := pp_one HDPx.out HEPx.out.1; clear hplb hpe
  go_upto_region 14 with (first | (refine wpList_load_mid rfl 33 (.tmp 101) rfl bP (oP + x * 24) rfl (cellsP p) _ (fun j v h => HCP0.out j v h) Tryz.underlying33 rfl infoP ?_; simp only [Act.put, sA, sB, sC]) | (refine wpList_store_mid rfl 33 (.tmp 20) (.tmp 102) rfl wb.heap.size 0 (cellsP p).toArray rfl rfl (there_new _ _ _ 24 (by simp)) infoPs HONP.out ?_; rw [setCells_new]; rotate_left; rfl))
  refine wp_name ?_; intro w7 HW; have hb7 : Below wb.heap.size wb w7 := by rw [HW.out]; exact bA _ _
  have BP : Blk w7 wb.heap.size 33 (cellsP p).toArray := by rw [HW.out]; exact Blk.new _ _ _
  obtain ⟨gP, hgP⟩ : ∃ g, Hid (g = wb.heap.size) := ⟨_, rfl⟩; rw [← hgP.out] at BP ⊢; have hbe := Below.tr hbe hb7; have HEPx : Hid (RtL w7 (.agg #[p.b1, p.b2]) (Lf x).1 (Lf x).2 ∧ p.test.size ≤ 9223372036854775807 ∧ p.wh.size ≤ 9223372036854775807) := ⟨HEPx.out.1.below hb7, HEPx.out.2⟩; clear HW hb7 hgP HCP0 HONP hcx; simp only [Act.put]
  go_wp2_with (first | (refine wpList_load_mid rfl 33 (.tmp 20) rfl gP 0 rfl (cellsP p) _ (blk_range BP) Tryz.underlying33 rfl infoP ?_; simp only [Act.put, sA, sB, sC]))
  refine (pvalid_n p _ _ _ HEPx.out.1 HEPx.out.2.1 HEPx.out.2.2).mono ?_; rintro e w8 ⟨E, rfl, HE, hb8⟩
  obtain rfl : E = 0 := by
   have h := HPL.out.pv x p HPX.out.1; rw [HPX.out.2.1] at h; exact HE.out.uniq h
  have hbe := Below.tr hbe hb8; have HEPx : Hid (RtL w8 (.agg #[p.b1, p.b2]) (Lf x).1 (Lf x).2 ∧ p.test.size ≤ 9223372036854775807 ∧ p.wh.size ≤ 9223372036854775807) := ⟨HEPx.out.1.below hb8, HEPx.out.2⟩; have BP := Blk.below BP hb8 BP.lt; have a6 := BP.cell 6; have a7 := BP.cell 7; simp only [cellsP, List.getElem?_toArray, List.getElem?_cons_zero, List.getElem?_cons_succ] at a6 a7; have v1 : decide (tick < p.fr) = false := by have := HPX.out.2.2.1; simpa using this
  have v2 : decide (tick ≥ p.un) = false := by have := HPX.out.2.2.2; simpa using this
  clear hb8 HE; go_wp2_with fail; clear a6 a7 v1 v2
  go_loopg [21] i (fun mm z wr => ∃ kk : Nat, z = .int .i64 kk ∧ kk + mm = i ∧ Below w8.heap.size w8 wr)
  case atStart => exact ⟨0, rfl, by omega, Below.refl _ _⟩
  case round =>
   obtain ⟨G2, hG2⟩ : ∃ G, G = gk := ⟨gk, rfl⟩; subst hG2; obtain ⟨kk, rfl, hkm, hbe2⟩ := hrel; obtain ⟨wk, hwk⟩ : ∃ x, x = wr := ⟨_, rfl⟩; subst hwk; by_cases hk : kk < i
   rotate_left
   ·have u2 : decide ((kk : Int) < (i : Int)) = false := by simp; omega
    have hbe := Below.tr hbe hbe2; go_wp2_with fail
    go_roundg (G - 1)
    case measure => omega
    case rel => exact ⟨i + 1, by go_num, by omega, hbe⟩
   have u2 : decide ((kk : Int) < (i : Int)) = true := by simp; omega
   have lkk : (kk : Int) < (ka : Int) := by omega
   have hkX : kk < X.length := by omega
   have hb8 := Below.tr hbe hbe2; obtain ⟨b9, o9, y, e9, hcy, HXk⟩ := (hrx.below hb8).nat (by omega : kk < ka); injection e9 with e9; injection e9 with e91 e92; subst e91 e92
   have hye : X[kk] = y := by
    have h := HXk.out; rw [List.getElem?_eq_getElem hkX] at h; injection h
   have HAY : Hid (actB tick br Ev Lf dg ps nmA (rdA yn) y = true ∧ y < ps.length) := by
    have h := actL_at (tick := tick) (br := br) (Ev := Ev) (Lf := Lf) (dg := dg) (rd := rdA yn) (ps := ps) (names := nmA) (i := kk) (by rw [← HXL.out]; exact hkX); simp only [← HXL.out] at h; rw [hye] at h; exact h
   have HXY : Hid (x ≠ y) := by
    have h := actL_lt (tick := tick) (br := br) (Ev := Ev) (Lf := Lf) (dg := dg) (rd := rdA yn) (ps := ps) (names := nmA) (i := kk) (j := i) (by rw [← HXL.out]; exact hiX) hk; simp only [← HXL.out] at h; rw [hye, hxe] at h
    show _ ≠ _
    omega
   have hyk1 : y < k := by have := HKL.out; have := HAY.out.2; omega
   have lyk : (y : Int) < (k : Int) := by omega
   obtain ⟨q, HQ⟩ : ∃ q, Hid (ps[y]'HAY.out.2 = q ∧ ps[y]? = some q) := ⟨_, rfl, List.getElem?_eq_getElem HAY.out.2⟩; have hplk := HPL.out.below hb8; obtain ⟨b9, o9, e9, HCQ0⟩ := hplk.row.at_ cellsP_len (by omega) hyk1 HAY.out.2; injection e9 with e9; injection e9 with e91 e92; subst e91 e92; rw [HQ.out.1] at HCQ0; have HDQ := Lib.hid (hplk.dk y q HQ.out.2); have HEQ := Lib.hid (hplk.esc y q HQ.out.2); have HONQ : Hid ((cellsP q).toArray.all (·.oneCell') = true) := pp_one HDQ.out HEQ.out.1; have HEPk : Hid (RtL wk (.agg #[p.b1, p.b2]) (Lf x).1 (Lf x).2 ∧ p.test.size ≤ 9223372036854775807 ∧ p.wh.size ≤ 9223372036854775807) := ⟨HEPx.out.1.below hbe2, HEPx.out.2⟩; have BPk := Blk.below BP hbe2 BP.lt; clear hplk hye
   go_upto_region 20 with (first | (refine wpList_load_mid rfl 33 (.tmp 128) rfl bP (oP + y * 24) rfl (cellsP q) _ (fun j v h => HCQ0.out j v h) Tryz.underlying33 rfl infoP ?_; simp only [Act.put, sA, sB, sC]) | (refine wpList_store_mid rfl 33 (.tmp 22) (.tmp 129) rfl wk.heap.size 0 (cellsP q).toArray rfl rfl (there_new _ _ _ 24 (by simp)) infoPs HONQ.out ?_; rw [setCells_new]; rotate_left; rfl))
   refine wp_name ?_; intro w9 HW; have hb9 : Below wk.heap.size wk w9 := by rw [HW.out]; exact bA _ _
   have BQ : Blk w9 wk.heap.size 33 (cellsP q).toArray := by rw [HW.out]; exact Blk.new _ _ _
   obtain ⟨gQ, hgQ⟩ : ∃ g, Hid (g = wk.heap.size) := ⟨_, rfl⟩; rw [← hgQ.out] at BQ ⊢; have BPk := Blk.below BPk hb9 BPk.lt; have hbe2 := Below.tr hbe2 hb9; have HEPk : Hid (RtL w9 (.agg #[p.b1, p.b2]) (Lf x).1 (Lf x).2 ∧ p.test.size ≤ 9223372036854775807 ∧ p.wh.size ≤ 9223372036854775807) := ⟨HEPk.out.1.below hb9, HEPk.out.2⟩; have HEQ : Hid (RtL w9 (.agg #[q.b1, q.b2]) (Lf y).1 (Lf y).2 ∧ q.test.size ≤ 9223372036854775807 ∧ q.wh.size ≤ 9223372036854775807) := ⟨HEQ.out.1.below hb9, HEQ.out.2⟩; clear HW hb9 hgQ HCQ0 HONQ hcy hb8; simp only [Act.put]
   go_wp2_with (first | (refine wpList_load_mid rfl 33 (.tmp 20) rfl gP 0 rfl (cellsP p) _ (blk_range BPk) Tryz.underlying33 rfl infoP ?_; simp only [Act.put, sA, sB, sC]) | (refine wpList_load_mid rfl 33 (.tmp 22) rfl gQ 0 rfl (cellsP q) _ (blk_range BQ) Tryz.underlying33 rfl infoP ?_; simp only [Act.put, sA, sB, sC]))
   refine (clash_n p q (Lf x).1 (Lf x).2 (Lf y).1 (Lf y).2 (dg x) (dg y) _ HEPk.out.1 HEQ.out.1 HEPk.out.2.1 HEPk.out.2.2 HEQ.out.2.1 HEQ.out.2.2 HDPx.out HDQ.out).mono ?_; rintro e w10 ⟨E, F, cb, rfl, HX, hb10⟩
   obtain rfl : cb = false := by
    rw [clA_of2 HPL.out.pv HPX.out.1 HQ.out.2 HX.out]; exact act_clash HAC.out.1 HAY.out.1 HXY.out
   have BPk := Blk.below BPk hb10 BPk.lt; have BQ := Blk.below BQ hb10 BQ.lt; have hbe2 := Below.tr hbe2 hb10; have HEPk : Hid (RtL w10 (.agg #[p.b1, p.b2]) (Lf x).1 (Lf x).2 ∧ p.test.size ≤ 9223372036854775807 ∧ p.wh.size ≤ 9223372036854775807) := ⟨HEPk.out.1.below hb10, HEPk.out.2⟩; have HEQ : Hid (RtL w10 (.agg #[q.b1, q.b2]) (Lf y).1 (Lf y).2 ∧ q.test.size ≤ 9223372036854775807 ∧ q.wh.size ≤ 9223372036854775807) := ⟨HEQ.out.1.below hb10, HEQ.out.2⟩; have hball := Below.tr hbe hbe2; have BTk := Blk.below BT hball BT.lt; have BRk := Blk.below BRS hball BRS.lt; clear hb10 HX hball; go_wp2_with fail
   go_loopg [23] 3 (fun mm z wr => ∃ j2 : Nat, z = .int .i64 j2 ∧ j2 + mm = 3 ∧ Below w10.heap.size w10 wr)
   case atStart => exact ⟨0, rfl, rfl, Below.refl _ _⟩
   case round =>
    obtain ⟨G3, hG3⟩ : ∃ G, G = gk := ⟨gk, rfl⟩; subst hG3; obtain ⟨j2, rfl, hjm, hbe3⟩ := hrel; obtain ⟨wj, hwj⟩ : ∃ x, x = wr := ⟨_, rfl⟩; subst hwj; by_cases hj : j2 < 3
    rotate_left
    ·have u3 : decide ((j2 : Int) < 3) = false := by simp; omega
     have hbe2 := Below.tr hbe2 hbe3; go_wp2_with fail
     go_roundg (G2 - 1)
     case measure => omega
     case rel => exact ⟨kk + 1, by go_num, by omega, hbe2⟩
    have u3 : decide ((j2 : Int) < 3) = true := by simp; omega
    have lj : (j2 : Int) < 3 := by omega
    obtain ⟨s, hs⟩ := nm_str BTk hj; have HCS : Hid (wj.cell? ⟨gT, j2, none⟩ = some (.string s)) := cell_keep hbe3 hs; have HBP : Hid (∀ j v, (cellsP p)[j]? = some v → wj.cell? ⟨gP, 0 + j, none⟩ = some v) := fun j v h => cell_keep hbe3 (by rw [Nat.zero_add, BPk.cell]; simpa using h)
    have HBQ : Hid (∀ j v, (cellsP q)[j]? = some v → wj.cell? ⟨gQ, 0 + j, none⟩ = some v) := fun j v h => cell_keep hbe3 (by rw [Nat.zero_add, BQ.cell]; simpa using h)
    have HBRS : Hid (∀ j v, (cellsR r)[j]? = some v → wj.cell? ⟨gR, 0 + j, none⟩ = some v) := fun j v h => cell_keep hbe3 (by rw [Nat.zero_add, BRk.cell]; simpa using h)
    have HEP : Hid (RtL wj (.agg #[p.b1, p.b2]) (Lf x).1 (Lf x).2 ∧ p.test.size ≤ 9223372036854775807 ∧ p.wh.size ≤ 9223372036854775807) := ⟨HEPk.out.1.below hbe3, HEPk.out.2⟩; have HEQj : Hid (RtL wj (.agg #[q.b1, q.b2]) (Lf y).1 (Lf y).2 ∧ q.test.size ≤ 9223372036854775807 ∧ q.wh.size ≤ 9223372036854775807) := ⟨HEQ.out.1.below hbe3, HEQ.out.2⟩; have HEQ := HEQj; clear HEQj hs; go_upto_region 25 with fail
    cases hcp : covB p s r with
    | false =>
     refine region_invF (PhiAp250 gP gQ gT gR j2 p q s r) (fun w w' => Below w.heap.size w w') (fun X => Below wj.heap.size wj X) (by kernel_rfl) (by kernel_rfl) (by kernel_rfl) PhiAp250.keep (fun _ _ hR hS => Below.tr hS hR) (bD _) (fun vs => by simp only [fillR, Act.put, sA, sB, sC, Nat.zero_add, Nat.reduceAdd]; rfl) ?_ ?_
     ·refine sK ?_ (sK ?_ (sK ?_ (sK ?_ (sK ?_ (sK ?_ (sK ?_ (sK ?_ (sK ?_ (sK ?_ (sK ?_ (sK ?_ (sK ?_ (sK ?_ (sK ?_ (sK ?_ (sK ?_ (sK ?_ (sK ?_ (sK ?_ (sK ?_ (sK ?_ (sK ?_ (sK ?_ (sZ))))))))))))))))))))))))
      ·as_aux_lemma =>
       intro vs W hS hdep K hK; refine ⟨?_⟩; simp only [Act.put, sA, sB, sC, Nat.zero_add, Nat.reduceAdd] at hK ⊢; rw [if_pos (by rfl)]; refine wp_load_mid 33 (.tmp 20) (by rfl) gP (0) (by rfl) (cellsP p) _ (range_keep hS HBP.out) Tryz.underlying33 (by rfl) infoP ?_; simp only [Act.put, sA, sB, sC]; with_reducible refine hK _ _ (Below.refl _ _) ?_
       exact rfl
      ·as_aux_lemma =>
       intro vs W hS hdep K hK; refine ⟨?_⟩; simp only [Act.put, sA, sB, sC, Nat.zero_add, Nat.reduceAdd] at hK ⊢; go_simp; with_reducible refine hK _ _ (Below.refl _ _) ?_
       exact rfl
      ·as_aux_lemma =>
       intro vs W hS hdep K hK; refine ⟨?_⟩; simp only [Act.put, sA, sB, sC, Nat.zero_add, Nat.reduceAdd] at hK ⊢; go_simp; with_reducible refine hK _ _ (Below.refl _ _) ?_
       exact rfl
      ·as_aux_lemma =>
       intro vs W hS hdep K hK; have d0 := hdep ⟨1, .data⟩ (by simp) rfl; simp only [PhiAp250] at d0; have d1 := hdep ⟨2, .data⟩ (by simp) rfl; simp only [PhiAp250] at d1; refine ⟨?_⟩; simp only [Act.put, sA, sB, sC, Nat.zero_add, Nat.reduceAdd, d0, d1] at hK ⊢; go_simp; with_reducible refine hK _ _ (Below.refl _ _) ?_
       exact rfl
      ·as_aux_lemma =>
       intro vs W hS hdep K hK; have d0 := hdep ⟨3, .data⟩ (by simp) rfl; simp only [PhiAp250] at d0; have f1 := cell_keep hS HCS.out; refine ⟨?_⟩; simp only [Act.put, sA, sB, sC, Nat.zero_add, Nat.reduceAdd, d0] at hK ⊢; go_simp; with_reducible refine hK _ _ (Below.refl _ _) ?_
       exact rfl
      ·as_aux_lemma =>
       intro vs W hS hdep K hK; refine ⟨?_⟩; simp only [Act.put, sA, sB, sC, Nat.zero_add, Nat.reduceAdd] at hK ⊢; rw [if_pos (by rfl)]; refine wp_load_mid 46 (.tmp 18) (by rfl) gR (0) (by rfl) (cellsR r) _ (range_keep hS HBRS.out) Tryz.underlying46 (by rfl) (infoR (r := r)) ?_; simp only [Act.put, sA, sB, sC]; with_reducible refine hK _ _ (Below.refl _ _) ?_
       exact rfl
      ·as_aux_lemma =>
       intro vs W hS hdep K hK; have d0 := hdep ⟨0, .data⟩ (by simp) rfl; simp only [PhiAp250] at d0; have d1 := hdep ⟨4, .data⟩ (by simp) rfl; simp only [PhiAp250] at d1; have d2 := hdep ⟨5, .data⟩ (by simp) rfl; simp only [PhiAp250] at d2; refine ⟨?_⟩; simp only [Act.put, sA, sB, sC, Nat.zero_add, Nat.reduceAdd, d0, d1, d2] at hK ⊢; go_simp; refine (covers_n p s r _).mono ?_; rintro e w' ⟨rfl, hb⟩; go_wp2_with fail; with_reducible refine hK _ _ hb ?_
       exact rfl
      ·as_aux_lemma =>
       intro vs W hS hdep K hK; have d0 := hdep ⟨6, .data⟩ (by simp) rfl; simp only [PhiAp250] at d0; refine ⟨?_⟩; simp only [Act.put, sA, sB, sC, Nat.zero_add, Nat.reduceAdd, d0] at hK ⊢; go_simp; with_reducible refine hK _ _ (Below.refl _ _) ?_
       exact rfl
      ·as_aux_lemma =>
       intro vs W hS hdep K hK; have d0 := hdep ⟨7, .guard⟩ (by simp) rfl; simp only [PhiAp250] at d0; refine ⟨?_⟩; simp only [Act.put, sA, sB, sC, Nat.zero_add, Nat.reduceAdd, d0] at hK ⊢; go_simp
       try rw [if_neg (by simp [undef])]
       with_reducible refine hK _ _ (Below.refl _ _) ?_
       exact rfl
      ·as_aux_lemma =>
       intro vs W hS hdep K hK; have d0 := hdep ⟨7, .guard⟩ (by simp) rfl; simp only [PhiAp250] at d0; refine ⟨?_⟩; simp only [Act.put, sA, sB, sC, Nat.zero_add, Nat.reduceAdd, d0] at hK ⊢; go_simp
       try rw [if_neg (by simp [undef])]
       with_reducible refine hK _ _ (Below.refl _ _) ?_
       exact rfl
      ·as_aux_lemma =>
       intro vs W hS hdep K hK; have d0 := hdep ⟨7, .guard⟩ (by simp) rfl; simp only [PhiAp250] at d0; refine ⟨?_⟩; simp only [Act.put, sA, sB, sC, Nat.zero_add, Nat.reduceAdd, d0] at hK ⊢; go_simp
       try rw [if_neg (by simp [undef])]
       with_reducible refine hK _ _ (Below.refl _ _) ?_
       exact rfl
      ·as_aux_lemma =>
       intro vs W hS hdep K hK; have d0 := hdep ⟨7, .guard⟩ (by simp) rfl; simp only [PhiAp250] at d0; refine ⟨?_⟩; simp only [Act.put, sA, sB, sC, Nat.zero_add, Nat.reduceAdd, d0] at hK ⊢; go_simp
       try rw [if_neg (by simp [undef])]
       with_reducible refine hK _ _ (Below.refl _ _) ?_
       exact rfl
      ·as_aux_lemma =>
       intro vs W hS hdep K hK; have d0 := hdep ⟨7, .guard⟩ (by simp) rfl; simp only [PhiAp250] at d0; refine ⟨?_⟩; simp only [Act.put, sA, sB, sC, Nat.zero_add, Nat.reduceAdd, d0] at hK ⊢; go_simp
       try rw [if_neg (by simp [undef])]
       with_reducible refine hK _ _ (Below.refl _ _) ?_
       exact rfl
      ·as_aux_lemma =>
       intro vs W hS hdep K hK; have d0 := hdep ⟨7, .guard⟩ (by simp) rfl; simp only [PhiAp250] at d0; refine ⟨?_⟩; simp only [Act.put, sA, sB, sC, Nat.zero_add, Nat.reduceAdd, d0] at hK ⊢; go_simp
       try rw [if_neg (by simp [undef])]
       with_reducible refine hK _ _ (Below.refl _ _) ?_
       exact rfl
      ·as_aux_lemma =>
       intro vs W hS hdep K hK; have d0 := hdep ⟨7, .guard⟩ (by simp) rfl; simp only [PhiAp250] at d0; refine ⟨?_⟩; simp only [Act.put, sA, sB, sC, Nat.zero_add, Nat.reduceAdd, d0] at hK ⊢; go_simp
       try rw [if_neg (by simp [undef])]
       with_reducible refine hK _ _ (Below.refl _ _) ?_
       exact rfl
      ·as_aux_lemma =>
       intro vs W hS hdep K hK; have d0 := hdep ⟨7, .data⟩ (by simp) rfl; simp only [PhiAp250] at d0; refine ⟨?_⟩; simp only [Act.put, sA, sB, sC, Nat.zero_add, Nat.reduceAdd, d0] at hK ⊢; go_simp; with_reducible refine hK _ _ (Below.refl _ _) ?_
       exact rfl
      ·as_aux_lemma =>
       intro vs W hS hdep K hK; have d0 := hdep ⟨15, .data⟩ (by simp) rfl; simp only [PhiAp250] at d0; refine ⟨?_⟩; simp only [Act.put, sA, sB, sC, Nat.zero_add, Nat.reduceAdd, d0] at hK ⊢; go_simp; with_reducible refine hK _ _ (Below.refl _ _) ?_
       exact rfl
      ·as_aux_lemma =>
       intro vs W hS hdep K hK; have d0 := hdep ⟨16, .guard⟩ (by simp) rfl; simp only [PhiAp250] at d0; refine ⟨?_⟩; simp only [Act.put, sA, sB, sC, Nat.zero_add, Nat.reduceAdd, d0] at hK ⊢; go_simp
       try rw [if_neg (by simp [undef])]
       with_reducible refine hK _ _ (Below.refl _ _) ?_
       exact rfl
      ·as_aux_lemma =>
       intro vs W hS hdep K hK; have d0 := hdep ⟨16, .guard⟩ (by simp) rfl; simp only [PhiAp250] at d0; refine ⟨?_⟩; simp only [Act.put, sA, sB, sC, Nat.zero_add, Nat.reduceAdd, d0] at hK ⊢; go_simp
       try rw [if_neg (by simp [undef])]
       with_reducible refine hK _ _ (Below.refl _ _) ?_
       exact rfl
      ·as_aux_lemma =>
       intro vs W hS hdep K hK; have d0 := hdep ⟨16, .guard⟩ (by simp) rfl; simp only [PhiAp250] at d0; refine ⟨?_⟩; simp only [Act.put, sA, sB, sC, Nat.zero_add, Nat.reduceAdd, d0] at hK ⊢; go_simp
       try rw [if_neg (by simp [undef])]
       with_reducible refine hK _ _ (Below.refl _ _) ?_
       exact rfl
      ·as_aux_lemma =>
       intro vs W hS hdep K hK; have d0 := hdep ⟨16, .guard⟩ (by simp) rfl; simp only [PhiAp250] at d0; refine ⟨?_⟩; simp only [Act.put, sA, sB, sC, Nat.zero_add, Nat.reduceAdd, d0] at hK ⊢; go_simp
       try rw [if_neg (by simp [undef])]
       with_reducible refine hK _ _ (Below.refl _ _) ?_
       exact rfl
      ·as_aux_lemma =>
       intro vs W hS hdep K hK; have d0 := hdep ⟨16, .guard⟩ (by simp) rfl; simp only [PhiAp250] at d0; refine ⟨?_⟩; simp only [Act.put, sA, sB, sC, Nat.zero_add, Nat.reduceAdd, d0] at hK ⊢; go_simp
       try rw [if_neg (by simp [undef])]
       with_reducible refine hK _ _ (Below.refl _ _) ?_
       exact rfl
      ·as_aux_lemma =>
       intro vs W hS hdep K hK; have d0 := hdep ⟨16, .guard⟩ (by simp) rfl; simp only [PhiAp250] at d0; refine ⟨?_⟩; simp only [Act.put, sA, sB, sC, Nat.zero_add, Nat.reduceAdd, d0] at hK ⊢; go_simp
       try rw [if_neg (by simp [undef])]
       with_reducible refine hK _ _ (Below.refl _ _) ?_
       exact rfl
      ·as_aux_lemma =>
       intro vs W hS hdep K hK; have d0 := hdep ⟨16, .data⟩ (by simp) rfl; simp only [PhiAp250] at d0; refine ⟨?_⟩; simp only [Act.put, sA, sB, sC, Nat.zero_add, Nat.reduceAdd, d0] at hK ⊢; go_simp; with_reducible refine hK _ _ (Below.refl _ _) ?_
       exact rfl
     ·intro vs w11 hS hv; have v23 := hv 23 (by simp); simp only [PhiAp250] at v23; simp only [Act.put, sA, sB, sC, Nat.zero_add, Nat.reduceAdd, v23]; have hbe3 := Below.tr hbe3 hS; clear v23 hv hS HCS HBP HBQ HBRS HEP HEQ; go_wp2_with fail
      go_roundg (G3 - 1)
      case measure => omega
      case rel => exact ⟨j2 + 1, by go_num, by omega, hbe3⟩
    | true =>
     cases hcq : covB q s r with
     | false =>
      refine region_invF (PhiAp251 gP gQ gT gR j2 p q s r) (fun w w' => Below w.heap.size w w') (fun X => Below wj.heap.size wj X) (by kernel_rfl) (by kernel_rfl) (by kernel_rfl) PhiAp251.keep (fun _ _ hR hS => Below.tr hS hR) (bD _) (fun vs => by simp only [fillR, Act.put, sA, sB, sC, Nat.zero_add, Nat.reduceAdd]; rfl) ?_ ?_
      ·refine sK ?_ (sK ?_ (sK ?_ (sK ?_ (sK ?_ (sK ?_ (sK ?_ (sK ?_ (sK ?_ (sK ?_ (sK ?_ (sK ?_ (sK ?_ (sK ?_ (sK ?_ (sK ?_ (sK ?_ (sK ?_ (sK ?_ (sK ?_ (sK ?_ (sK ?_ (sK ?_ (sK ?_ (sZ))))))))))))))))))))))))
       ·as_aux_lemma =>
        intro vs W hS hdep K hK; refine ⟨?_⟩; simp only [Act.put, sA, sB, sC, Nat.zero_add, Nat.reduceAdd] at hK ⊢; rw [if_pos (by rfl)]; refine wp_load_mid 33 (.tmp 20) (by rfl) gP (0) (by rfl) (cellsP p) _ (range_keep hS HBP.out) Tryz.underlying33 (by rfl) infoP ?_; simp only [Act.put, sA, sB, sC]; with_reducible refine hK _ _ (Below.refl _ _) ?_
        exact rfl
       ·as_aux_lemma =>
        intro vs W hS hdep K hK; refine ⟨?_⟩; simp only [Act.put, sA, sB, sC, Nat.zero_add, Nat.reduceAdd] at hK ⊢; go_simp; with_reducible refine hK _ _ (Below.refl _ _) ?_
        exact rfl
       ·as_aux_lemma =>
        intro vs W hS hdep K hK; refine ⟨?_⟩; simp only [Act.put, sA, sB, sC, Nat.zero_add, Nat.reduceAdd] at hK ⊢; go_simp; with_reducible refine hK _ _ (Below.refl _ _) ?_
        exact rfl
       ·as_aux_lemma =>
        intro vs W hS hdep K hK; have d0 := hdep ⟨1, .data⟩ (by simp) rfl; simp only [PhiAp251] at d0; have d1 := hdep ⟨2, .data⟩ (by simp) rfl; simp only [PhiAp251] at d1; refine ⟨?_⟩; simp only [Act.put, sA, sB, sC, Nat.zero_add, Nat.reduceAdd, d0, d1] at hK ⊢; go_simp; with_reducible refine hK _ _ (Below.refl _ _) ?_
        exact rfl
       ·as_aux_lemma =>
        intro vs W hS hdep K hK; have d0 := hdep ⟨3, .data⟩ (by simp) rfl; simp only [PhiAp251] at d0; have f1 := cell_keep hS HCS.out; refine ⟨?_⟩; simp only [Act.put, sA, sB, sC, Nat.zero_add, Nat.reduceAdd, d0] at hK ⊢; go_simp; with_reducible refine hK _ _ (Below.refl _ _) ?_
        exact rfl
       ·as_aux_lemma =>
        intro vs W hS hdep K hK; refine ⟨?_⟩; simp only [Act.put, sA, sB, sC, Nat.zero_add, Nat.reduceAdd] at hK ⊢; rw [if_pos (by rfl)]; refine wp_load_mid 46 (.tmp 18) (by rfl) gR (0) (by rfl) (cellsR r) _ (range_keep hS HBRS.out) Tryz.underlying46 (by rfl) (infoR (r := r)) ?_; simp only [Act.put, sA, sB, sC]; with_reducible refine hK _ _ (Below.refl _ _) ?_
        exact rfl
       ·as_aux_lemma =>
        intro vs W hS hdep K hK; have d0 := hdep ⟨0, .data⟩ (by simp) rfl; simp only [PhiAp251] at d0; have d1 := hdep ⟨4, .data⟩ (by simp) rfl; simp only [PhiAp251] at d1; have d2 := hdep ⟨5, .data⟩ (by simp) rfl; simp only [PhiAp251] at d2; refine ⟨?_⟩; simp only [Act.put, sA, sB, sC, Nat.zero_add, Nat.reduceAdd, d0, d1, d2] at hK ⊢; go_simp; refine (covers_n p s r _).mono ?_; rintro e w' ⟨rfl, hb⟩; go_wp2_with fail; with_reducible refine hK _ _ hb ?_
        exact rfl
       ·as_aux_lemma =>
        intro vs W hS hdep K hK; have d0 := hdep ⟨6, .data⟩ (by simp) rfl; simp only [PhiAp251] at d0; refine ⟨?_⟩; simp only [Act.put, sA, sB, sC, Nat.zero_add, Nat.reduceAdd, d0] at hK ⊢; go_simp; with_reducible refine hK _ _ (Below.refl _ _) ?_
        exact rfl
       ·as_aux_lemma =>
        intro vs W hS hdep K hK; have d0 := hdep ⟨7, .guard⟩ (by simp) rfl; simp only [PhiAp251] at d0; refine ⟨?_⟩; simp only [Act.put, sA, sB, sC, Nat.zero_add, Nat.reduceAdd, d0] at hK ⊢; rw [if_pos (by rfl)]; refine wp_load_mid 33 (.tmp 22) (by rfl) gQ (0) (by rfl) (cellsP q) _ (range_keep hS HBQ.out) Tryz.underlying33 (by rfl) infoP ?_; simp only [Act.put, sA, sB, sC]; with_reducible refine hK _ _ (Below.refl _ _) ?_
        exact rfl
       ·as_aux_lemma =>
        intro vs W hS hdep K hK; have d0 := hdep ⟨7, .guard⟩ (by simp) rfl; simp only [PhiAp251] at d0; refine ⟨?_⟩; simp only [Act.put, sA, sB, sC, Nat.zero_add, Nat.reduceAdd, d0] at hK ⊢; go_simp; with_reducible refine hK _ _ (Below.refl _ _) ?_
        exact rfl
       ·as_aux_lemma =>
        intro vs W hS hdep K hK; have d0 := hdep ⟨7, .guard⟩ (by simp) rfl; simp only [PhiAp251] at d0; refine ⟨?_⟩; simp only [Act.put, sA, sB, sC, Nat.zero_add, Nat.reduceAdd, d0] at hK ⊢; go_simp; with_reducible refine hK _ _ (Below.refl _ _) ?_
        exact rfl
       ·as_aux_lemma =>
        intro vs W hS hdep K hK; have d0 := hdep ⟨9, .data⟩ (by simp) rfl; simp only [PhiAp251] at d0; have d1 := hdep ⟨10, .data⟩ (by simp) rfl; simp only [PhiAp251] at d1; have d2 := hdep ⟨7, .guard⟩ (by simp) rfl; simp only [PhiAp251] at d2; refine ⟨?_⟩; simp only [Act.put, sA, sB, sC, Nat.zero_add, Nat.reduceAdd, d0, d1, d2] at hK ⊢; go_simp; with_reducible refine hK _ _ (Below.refl _ _) ?_
        exact rfl
       ·as_aux_lemma =>
        intro vs W hS hdep K hK; have d0 := hdep ⟨11, .data⟩ (by simp) rfl; simp only [PhiAp251] at d0; have d1 := hdep ⟨7, .guard⟩ (by simp) rfl; simp only [PhiAp251] at d1; have f1 := cell_keep hS HCS.out; refine ⟨?_⟩; simp only [Act.put, sA, sB, sC, Nat.zero_add, Nat.reduceAdd, d0, d1] at hK ⊢; go_simp; with_reducible refine hK _ _ (Below.refl _ _) ?_
        exact rfl
       ·as_aux_lemma =>
        intro vs W hS hdep K hK; have d0 := hdep ⟨7, .guard⟩ (by simp) rfl; simp only [PhiAp251] at d0; refine ⟨?_⟩; simp only [Act.put, sA, sB, sC, Nat.zero_add, Nat.reduceAdd, d0] at hK ⊢; rw [if_pos (by rfl)]; refine wp_load_mid 46 (.tmp 18) (by rfl) gR (0) (by rfl) (cellsR r) _ (range_keep hS HBRS.out) Tryz.underlying46 (by rfl) (infoR (r := r)) ?_; simp only [Act.put, sA, sB, sC]; with_reducible refine hK _ _ (Below.refl _ _) ?_
        exact rfl
       ·as_aux_lemma =>
        intro vs W hS hdep K hK; have d0 := hdep ⟨8, .data⟩ (by simp) rfl; simp only [PhiAp251] at d0; have d1 := hdep ⟨12, .data⟩ (by simp) rfl; simp only [PhiAp251] at d1; have d2 := hdep ⟨13, .data⟩ (by simp) rfl; simp only [PhiAp251] at d2; have d3 := hdep ⟨7, .guard⟩ (by simp) rfl; simp only [PhiAp251] at d3; refine ⟨?_⟩; simp only [Act.put, sA, sB, sC, Nat.zero_add, Nat.reduceAdd, d0, d1, d2, d3] at hK ⊢; go_simp; refine (covers_n q s r _).mono ?_; rintro e w' ⟨rfl, hb⟩; go_wp2_with fail; with_reducible refine hK _ _ hb ?_
        exact rfl
       ·as_aux_lemma =>
        intro vs W hS hdep K hK; have d0 := hdep ⟨7, .data⟩ (by simp) rfl; simp only [PhiAp251] at d0; have d1 := hdep ⟨14, .data⟩ (by simp) rfl; simp only [PhiAp251] at d1; refine ⟨?_⟩; simp only [Act.put, sA, sB, sC, Nat.zero_add, Nat.reduceAdd, d0, d1] at hK ⊢; go_simp; with_reducible refine hK _ _ (Below.refl _ _) ?_
        exact rfl
       ·as_aux_lemma =>
        intro vs W hS hdep K hK; have d0 := hdep ⟨15, .data⟩ (by simp) rfl; simp only [PhiAp251] at d0; refine ⟨?_⟩; simp only [Act.put, sA, sB, sC, Nat.zero_add, Nat.reduceAdd, d0] at hK ⊢; go_simp; with_reducible refine hK _ _ (Below.refl _ _) ?_
        exact rfl
       ·as_aux_lemma =>
        intro vs W hS hdep K hK; have d0 := hdep ⟨16, .guard⟩ (by simp) rfl; simp only [PhiAp251] at d0; refine ⟨?_⟩; simp only [Act.put, sA, sB, sC, Nat.zero_add, Nat.reduceAdd, d0] at hK ⊢; go_simp
        try rw [if_neg (by simp [undef])]
        with_reducible refine hK _ _ (Below.refl _ _) ?_
        exact rfl
       ·as_aux_lemma =>
        intro vs W hS hdep K hK; have d0 := hdep ⟨16, .guard⟩ (by simp) rfl; simp only [PhiAp251] at d0; refine ⟨?_⟩; simp only [Act.put, sA, sB, sC, Nat.zero_add, Nat.reduceAdd, d0] at hK ⊢; go_simp
        try rw [if_neg (by simp [undef])]
        with_reducible refine hK _ _ (Below.refl _ _) ?_
        exact rfl
       ·as_aux_lemma =>
        intro vs W hS hdep K hK; have d0 := hdep ⟨16, .guard⟩ (by simp) rfl; simp only [PhiAp251] at d0; refine ⟨?_⟩; simp only [Act.put, sA, sB, sC, Nat.zero_add, Nat.reduceAdd, d0] at hK ⊢; go_simp
        try rw [if_neg (by simp [undef])]
        with_reducible refine hK _ _ (Below.refl _ _) ?_
        exact rfl
       ·as_aux_lemma =>
        intro vs W hS hdep K hK; have d0 := hdep ⟨16, .guard⟩ (by simp) rfl; simp only [PhiAp251] at d0; refine ⟨?_⟩; simp only [Act.put, sA, sB, sC, Nat.zero_add, Nat.reduceAdd, d0] at hK ⊢; go_simp
        try rw [if_neg (by simp [undef])]
        with_reducible refine hK _ _ (Below.refl _ _) ?_
        exact rfl
       ·as_aux_lemma =>
        intro vs W hS hdep K hK; have d0 := hdep ⟨16, .guard⟩ (by simp) rfl; simp only [PhiAp251] at d0; refine ⟨?_⟩; simp only [Act.put, sA, sB, sC, Nat.zero_add, Nat.reduceAdd, d0] at hK ⊢; go_simp
        try rw [if_neg (by simp [undef])]
        with_reducible refine hK _ _ (Below.refl _ _) ?_
        exact rfl
       ·as_aux_lemma =>
        intro vs W hS hdep K hK; have d0 := hdep ⟨16, .guard⟩ (by simp) rfl; simp only [PhiAp251] at d0; refine ⟨?_⟩; simp only [Act.put, sA, sB, sC, Nat.zero_add, Nat.reduceAdd, d0] at hK ⊢; go_simp
        try rw [if_neg (by simp [undef])]
        with_reducible refine hK _ _ (Below.refl _ _) ?_
        exact rfl
       ·as_aux_lemma =>
        intro vs W hS hdep K hK; have d0 := hdep ⟨16, .data⟩ (by simp) rfl; simp only [PhiAp251] at d0; refine ⟨?_⟩; simp only [Act.put, sA, sB, sC, Nat.zero_add, Nat.reduceAdd, d0] at hK ⊢; go_simp; with_reducible refine hK _ _ (Below.refl _ _) ?_
        exact rfl
      ·intro vs w11 hS hv; have v23 := hv 23 (by simp); simp only [PhiAp251] at v23; simp only [Act.put, sA, sB, sC, Nat.zero_add, Nat.reduceAdd, v23]; have hbe3 := Below.tr hbe3 hS; clear v23 hv hS HCS HBP HBQ HBRS HEP HEQ; go_wp2_with fail
       go_roundg (G3 - 1)
       case measure => omega
       case rel => exact ⟨j2 + 1, by go_num, by omega, hbe3⟩
     | true =>
      have HSM : Hid (sameR (Lf x).1 (Lf x).2 (Lf y).1 (Lf y).2 = true) := act_cover HPX.out.1 HQ.out.2 HAC.out.1 HAY.out.1 HXY.out hcp hcq; refine region_invF (PhiAp252 gP gQ gT gR j2 p q s r) (fun w w' => Below w.heap.size w w') (fun X => Below wj.heap.size wj X) (by kernel_rfl) (by kernel_rfl) (by kernel_rfl) PhiAp252.keep (fun _ _ hR hS => Below.tr hS hR) (bD _) (fun vs => by simp only [fillR, Act.put, sA, sB, sC, Nat.zero_add, Nat.reduceAdd]; rfl) ?_ ?_
      ·refine sK ?_ (sK ?_ (sK ?_ (sK ?_ (sK ?_ (sK ?_ (sK ?_ (sK ?_ (sK ?_ (sK ?_ (sK ?_ (sK ?_ (sK ?_ (sK ?_ (sK ?_ (sK ?_ (sK ?_ (sK ?_ (sK ?_ (sK ?_ (sK ?_ (sK ?_ (sK ?_ (sK ?_ (sZ))))))))))))))))))))))))
       ·as_aux_lemma =>
        intro vs W hS hdep K hK; refine ⟨?_⟩; simp only [Act.put, sA, sB, sC, Nat.zero_add, Nat.reduceAdd] at hK ⊢; rw [if_pos (by rfl)]; refine wp_load_mid 33 (.tmp 20) (by rfl) gP (0) (by rfl) (cellsP p) _ (range_keep hS HBP.out) Tryz.underlying33 (by rfl) infoP ?_; simp only [Act.put, sA, sB, sC]; with_reducible refine hK _ _ (Below.refl _ _) ?_
        exact rfl
       ·as_aux_lemma =>
        intro vs W hS hdep K hK; refine ⟨?_⟩; simp only [Act.put, sA, sB, sC, Nat.zero_add, Nat.reduceAdd] at hK ⊢; go_simp; with_reducible refine hK _ _ (Below.refl _ _) ?_
        exact rfl
       ·as_aux_lemma =>
        intro vs W hS hdep K hK; refine ⟨?_⟩; simp only [Act.put, sA, sB, sC, Nat.zero_add, Nat.reduceAdd] at hK ⊢; go_simp; with_reducible refine hK _ _ (Below.refl _ _) ?_
        exact rfl
       ·as_aux_lemma =>
        intro vs W hS hdep K hK; have d0 := hdep ⟨1, .data⟩ (by simp) rfl; simp only [PhiAp252] at d0; have d1 := hdep ⟨2, .data⟩ (by simp) rfl; simp only [PhiAp252] at d1; refine ⟨?_⟩; simp only [Act.put, sA, sB, sC, Nat.zero_add, Nat.reduceAdd, d0, d1] at hK ⊢; go_simp; with_reducible refine hK _ _ (Below.refl _ _) ?_
        exact rfl
       ·as_aux_lemma =>
        intro vs W hS hdep K hK; have d0 := hdep ⟨3, .data⟩ (by simp) rfl; simp only [PhiAp252] at d0; have f1 := cell_keep hS HCS.out; refine ⟨?_⟩; simp only [Act.put, sA, sB, sC, Nat.zero_add, Nat.reduceAdd, d0] at hK ⊢; go_simp; with_reducible refine hK _ _ (Below.refl _ _) ?_
        exact rfl
       ·as_aux_lemma =>
        intro vs W hS hdep K hK; refine ⟨?_⟩; simp only [Act.put, sA, sB, sC, Nat.zero_add, Nat.reduceAdd] at hK ⊢; rw [if_pos (by rfl)]; refine wp_load_mid 46 (.tmp 18) (by rfl) gR (0) (by rfl) (cellsR r) _ (range_keep hS HBRS.out) Tryz.underlying46 (by rfl) (infoR (r := r)) ?_; simp only [Act.put, sA, sB, sC]; with_reducible refine hK _ _ (Below.refl _ _) ?_
        exact rfl
       ·as_aux_lemma =>
        intro vs W hS hdep K hK; have d0 := hdep ⟨0, .data⟩ (by simp) rfl; simp only [PhiAp252] at d0; have d1 := hdep ⟨4, .data⟩ (by simp) rfl; simp only [PhiAp252] at d1; have d2 := hdep ⟨5, .data⟩ (by simp) rfl; simp only [PhiAp252] at d2; refine ⟨?_⟩; simp only [Act.put, sA, sB, sC, Nat.zero_add, Nat.reduceAdd, d0, d1, d2] at hK ⊢; go_simp; refine (covers_n p s r _).mono ?_; rintro e w' ⟨rfl, hb⟩; go_wp2_with fail; with_reducible refine hK _ _ hb ?_
        exact rfl
       ·as_aux_lemma =>
        intro vs W hS hdep K hK; have d0 := hdep ⟨6, .data⟩ (by simp) rfl; simp only [PhiAp252] at d0; refine ⟨?_⟩; simp only [Act.put, sA, sB, sC, Nat.zero_add, Nat.reduceAdd, d0] at hK ⊢; go_simp; with_reducible refine hK _ _ (Below.refl _ _) ?_
        exact rfl
       ·as_aux_lemma =>
        intro vs W hS hdep K hK; have d0 := hdep ⟨7, .guard⟩ (by simp) rfl; simp only [PhiAp252] at d0; refine ⟨?_⟩; simp only [Act.put, sA, sB, sC, Nat.zero_add, Nat.reduceAdd, d0] at hK ⊢; rw [if_pos (by rfl)]; refine wp_load_mid 33 (.tmp 22) (by rfl) gQ (0) (by rfl) (cellsP q) _ (range_keep hS HBQ.out) Tryz.underlying33 (by rfl) infoP ?_; simp only [Act.put, sA, sB, sC]; with_reducible refine hK _ _ (Below.refl _ _) ?_
        exact rfl
       ·as_aux_lemma =>
        intro vs W hS hdep K hK; have d0 := hdep ⟨7, .guard⟩ (by simp) rfl; simp only [PhiAp252] at d0; refine ⟨?_⟩; simp only [Act.put, sA, sB, sC, Nat.zero_add, Nat.reduceAdd, d0] at hK ⊢; go_simp; with_reducible refine hK _ _ (Below.refl _ _) ?_
        exact rfl
       ·as_aux_lemma =>
        intro vs W hS hdep K hK; have d0 := hdep ⟨7, .guard⟩ (by simp) rfl; simp only [PhiAp252] at d0; refine ⟨?_⟩; simp only [Act.put, sA, sB, sC, Nat.zero_add, Nat.reduceAdd, d0] at hK ⊢; go_simp; with_reducible refine hK _ _ (Below.refl _ _) ?_
        exact rfl
       ·as_aux_lemma =>
        intro vs W hS hdep K hK; have d0 := hdep ⟨9, .data⟩ (by simp) rfl; simp only [PhiAp252] at d0; have d1 := hdep ⟨10, .data⟩ (by simp) rfl; simp only [PhiAp252] at d1; have d2 := hdep ⟨7, .guard⟩ (by simp) rfl; simp only [PhiAp252] at d2; refine ⟨?_⟩; simp only [Act.put, sA, sB, sC, Nat.zero_add, Nat.reduceAdd, d0, d1, d2] at hK ⊢; go_simp; with_reducible refine hK _ _ (Below.refl _ _) ?_
        exact rfl
       ·as_aux_lemma =>
        intro vs W hS hdep K hK; have d0 := hdep ⟨11, .data⟩ (by simp) rfl; simp only [PhiAp252] at d0; have d1 := hdep ⟨7, .guard⟩ (by simp) rfl; simp only [PhiAp252] at d1; have f1 := cell_keep hS HCS.out; refine ⟨?_⟩; simp only [Act.put, sA, sB, sC, Nat.zero_add, Nat.reduceAdd, d0, d1] at hK ⊢; go_simp; with_reducible refine hK _ _ (Below.refl _ _) ?_
        exact rfl
       ·as_aux_lemma =>
        intro vs W hS hdep K hK; have d0 := hdep ⟨7, .guard⟩ (by simp) rfl; simp only [PhiAp252] at d0; refine ⟨?_⟩; simp only [Act.put, sA, sB, sC, Nat.zero_add, Nat.reduceAdd, d0] at hK ⊢; rw [if_pos (by rfl)]; refine wp_load_mid 46 (.tmp 18) (by rfl) gR (0) (by rfl) (cellsR r) _ (range_keep hS HBRS.out) Tryz.underlying46 (by rfl) (infoR (r := r)) ?_; simp only [Act.put, sA, sB, sC]; with_reducible refine hK _ _ (Below.refl _ _) ?_
        exact rfl
       ·as_aux_lemma =>
        intro vs W hS hdep K hK; have d0 := hdep ⟨8, .data⟩ (by simp) rfl; simp only [PhiAp252] at d0; have d1 := hdep ⟨12, .data⟩ (by simp) rfl; simp only [PhiAp252] at d1; have d2 := hdep ⟨13, .data⟩ (by simp) rfl; simp only [PhiAp252] at d2; have d3 := hdep ⟨7, .guard⟩ (by simp) rfl; simp only [PhiAp252] at d3; refine ⟨?_⟩; simp only [Act.put, sA, sB, sC, Nat.zero_add, Nat.reduceAdd, d0, d1, d2, d3] at hK ⊢; go_simp; refine (covers_n q s r _).mono ?_; rintro e w' ⟨rfl, hb⟩; go_wp2_with fail; with_reducible refine hK _ _ hb ?_
        exact rfl
       ·as_aux_lemma =>
        intro vs W hS hdep K hK; have d0 := hdep ⟨7, .data⟩ (by simp) rfl; simp only [PhiAp252] at d0; have d1 := hdep ⟨14, .data⟩ (by simp) rfl; simp only [PhiAp252] at d1; refine ⟨?_⟩; simp only [Act.put, sA, sB, sC, Nat.zero_add, Nat.reduceAdd, d0, d1] at hK ⊢; go_simp; with_reducible refine hK _ _ (Below.refl _ _) ?_
        exact rfl
       ·as_aux_lemma =>
        intro vs W hS hdep K hK; have d0 := hdep ⟨15, .data⟩ (by simp) rfl; simp only [PhiAp252] at d0; refine ⟨?_⟩; simp only [Act.put, sA, sB, sC, Nat.zero_add, Nat.reduceAdd, d0] at hK ⊢; go_simp; with_reducible refine hK _ _ (Below.refl _ _) ?_
        exact rfl
       ·as_aux_lemma =>
        intro vs W hS hdep K hK; have d0 := hdep ⟨16, .guard⟩ (by simp) rfl; simp only [PhiAp252] at d0; refine ⟨?_⟩; simp only [Act.put, sA, sB, sC, Nat.zero_add, Nat.reduceAdd, d0] at hK ⊢; go_simp; with_reducible refine hK _ _ (Below.refl _ _) ?_
        exact rfl
       ·as_aux_lemma =>
        intro vs W hS hdep K hK; have d0 := hdep ⟨17, .data⟩ (by simp) rfl; simp only [PhiAp252] at d0; have d1 := hdep ⟨16, .guard⟩ (by simp) rfl; simp only [PhiAp252] at d1; have f1 := cell_keep hS (HBP.out 4 _ rfl); have f2 := cell_keep hS (HBP.out 5 _ rfl); refine ⟨?_⟩; simp only [Act.put, sA, sB, sC, Nat.zero_add, Nat.reduceAdd, d0, d1] at hK ⊢; go_simp; with_reducible refine hK _ _ (Below.refl _ _) ?_
        exact rfl
       ·as_aux_lemma =>
        intro vs W hS hdep K hK; have d0 := hdep ⟨16, .guard⟩ (by simp) rfl; simp only [PhiAp252] at d0; refine ⟨?_⟩; simp only [Act.put, sA, sB, sC, Nat.zero_add, Nat.reduceAdd, d0] at hK ⊢; go_simp; with_reducible refine hK _ _ (Below.refl _ _) ?_
        exact rfl
       ·as_aux_lemma =>
        intro vs W hS hdep K hK; have d0 := hdep ⟨19, .data⟩ (by simp) rfl; simp only [PhiAp252] at d0; have d1 := hdep ⟨16, .guard⟩ (by simp) rfl; simp only [PhiAp252] at d1; have f1 := cell_keep hS (HBQ.out 4 _ rfl); have f2 := cell_keep hS (HBQ.out 5 _ rfl); refine ⟨?_⟩; simp only [Act.put, sA, sB, sC, Nat.zero_add, Nat.reduceAdd, d0, d1] at hK ⊢; go_simp; with_reducible refine hK _ _ (Below.refl _ _) ?_
        exact rfl
       ·as_aux_lemma =>
        intro vs W hS hdep K hK; have d0 := hdep ⟨18, .data⟩ (by simp) rfl; simp only [PhiAp252] at d0; have d1 := hdep ⟨20, .data⟩ (by simp) rfl; simp only [PhiAp252] at d1; have d2 := hdep ⟨16, .guard⟩ (by simp) rfl; simp only [PhiAp252] at d2; refine ⟨?_⟩; simp only [Act.put, sA, sB, sC, Nat.zero_add, Nat.reduceAdd, d0, d1, d2] at hK ⊢; go_simp; refine (psame_n _ _ (Lf x).1 (Lf x).2 (Lf y).1 (Lf y).2 _ (HEP.out.1.below hS) (HEQ.out.1.below hS)).mono ?_; rintro e w' ⟨sb, rfl, HS, hb⟩; obtain rfl : sb = true := HS.out.trans HSM.out; go_wp2_with fail; with_reducible refine hK _ _ hb ?_
        exact rfl
       ·as_aux_lemma =>
        intro vs W hS hdep K hK; have d0 := hdep ⟨21, .data⟩ (by simp) rfl; simp only [PhiAp252] at d0; have d1 := hdep ⟨16, .guard⟩ (by simp) rfl; simp only [PhiAp252] at d1; refine ⟨?_⟩; simp only [Act.put, sA, sB, sC, Nat.zero_add, Nat.reduceAdd, d0, d1] at hK ⊢; go_simp; with_reducible refine hK _ _ (Below.refl _ _) ?_
        exact rfl
       ·as_aux_lemma =>
        intro vs W hS hdep K hK; have d0 := hdep ⟨16, .data⟩ (by simp) rfl; simp only [PhiAp252] at d0; have d1 := hdep ⟨22, .data⟩ (by simp) rfl; simp only [PhiAp252] at d1; refine ⟨?_⟩; simp only [Act.put, sA, sB, sC, Nat.zero_add, Nat.reduceAdd, d0, d1] at hK ⊢; go_simp; with_reducible refine hK _ _ (Below.refl _ _) ?_
        exact rfl
      ·intro vs w11 hS hv; have v23 := hv 23 (by simp); simp only [PhiAp252] at v23; simp only [Act.put, sA, sB, sC, Nat.zero_add, Nat.reduceAdd, v23]; have hbe3 := Below.tr hbe3 hS; clear v23 hv hS HCS HBP HBQ HBRS HEP HEQ; go_wp2_with fail
       go_roundg (G3 - 1)
       case measure => omega
       case rel => exact ⟨j2 + 1, by go_num, by omega, hbe3⟩
end Go.Proofs.YtijkfagkbfbpmaaGreatDoor
