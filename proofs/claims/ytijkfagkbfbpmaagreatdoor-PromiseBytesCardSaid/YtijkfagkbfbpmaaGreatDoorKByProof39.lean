import Derived.Test.YtijkfagkbfbpmaaGreatDoorKByProof33
import Derived.Test.YtijkfagkbfbpmaaGreatDoorKByProof38
import Derived.Test.YtijkfagkbfbpmaaGreatDoorKByProof37
import Derived.Test.YtijkfagkbfbpmaaGreatDoorKByProof25
import Derived.Test.YtijkfagkbfbpmaaGreatDoorKByProof32
import Derived.Test.YtijkfagkbfbpmaaGreatDoorKByProof16
import Derived.Laws.ResultCell
import Derived.Test.YtijkfagkbfbpmaaGreatDoorKByProof22
import Derived.Test.YtijkfagkbfbpmaaGreatDoorKByProof17
import Derived.Test.YtijkfagkbfbpmaaGreatDoorKByProof34
import Derived.Test.YtijkfagkbfbpmaaGreatDoorKByProof36
import Derived.Test.YtijkfagkbfbpmaaGreatDoorKByProof14
import Derived.Test.YtijkfagkbfbpmaaGreatDoorKByProof29
import Derived.Test.YtijkfagkbfbpmaaGreatDoorKByProof23
import Derived.Test.YtijkfagkbfbpmaaGreatDoorKByProof21
import Derived.Test.YtijkfagkbfbpmaaGreatDoorS0
set_option linter.unusedVariables false
set_option linter.unusedSimpArgs false
namespace Go.Proofs.YtijkfagkbfbpmaaGreatDoor
open Go Go.RowKit
theorem castI_inj : ∀ {X Y : List Nat}, castI X = castI Y → X = Y
 | [], [], _ => rfl
 | [], y :: Y, h => by simp [castI] at h
 | x :: X, [], h => by simp [castI] at h
 | x :: X, y :: Y, h => by
  unfold castI at h; rw [List.map_cons, List.map_cons] at h; injection h with h1 h2; rw [castI_inj (X := X) (Y := Y) h2, show x = y by omega]
theorem castI_rng {X : List Nat} (h : ∀ x ∈ X, x < 4294967296) : ∀ x ∈ castI X, -9223372036854775808 ≤ x ∧ x ≤ 9223372036854775807 := by
 intro x hx; obtain ⟨n, hn, rfl⟩ := List.mem_map.1 hx; have := h n hn; omega
theorem encL_inj {p q : PC} {t h t' h' dl dl' L1 L2 M1 M2 : List Nat} (hp : ∀ x ∈ [p.team, p.site, p.fr, p.un], -9223372036854775808 ≤ x ∧ x ≤ 9223372036854775807) (hq : ∀ x ∈ [q.team, q.site, q.fr, q.un], -9223372036854775808 ≤ x ∧ x ≤ 9223372036854775807)
  (ht : t.length ≤ 67108864) (hh : h.length ≤ 67108864) (ht' : t'.length ≤ 67108864) (hh' : h'.length ≤ 67108864) (l1 : L1.length ≤ 67108864) (l2 : L2.length ≤ 67108864) (m1 : M1.length ≤ 67108864) (m2 : M2.length ≤ 67108864)
  (r1 : ∀ x ∈ L1, x < 4294967296) (r2 : ∀ x ∈ L2, x < 4294967296) (s1 : ∀ x ∈ M1, x < 4294967296) (s2 : ∀ x ∈ M2, x < 4294967296)
  (e : encL p t h dl L1 L2 = encL q t' h' dl' M1 M2) : p.team = q.team ∧ p.site = q.site ∧ p.fr = q.fr ∧ p.un = q.un ∧ t = t' ∧ h = h' ∧ L1 = M1 ∧ L2 = M2 ∧ dl = dl' := by
 unfold encL at e; obtain ⟨e1, e⟩ := encIs_inj (by simp) (by simp) hp hq e; obtain ⟨e2, e3, e⟩ := encSs_inj2 ht hh ht' hh' e; rw [List.append_assoc, List.append_assoc] at e; obtain ⟨e4, e⟩ := encIs_inj (by unfold castI; rw [List.length_map]; exact l1) (by unfold castI; rw [List.length_map]; exact m1) (castI_rng r1) (castI_rng s1) e; obtain ⟨e5, e⟩ := encIs_inj (by unfold castI; rw [List.length_map]; exact l2) (by unfold castI; rw [List.length_map]; exact m2) (castI_rng r2) (castI_rng s2) e; have e6 := List.append_cancel_left e; injection e1 with a1 e1; injection e1 with a2 e1; injection e1 with a3 e1; injection e1 with a4 e1; exact ⟨a1, a2, a3, a4, e2, e3, castI_inj e4, castI_inj e5, e6⟩
theorem btl_inj {a b : ByteArray} (h : btl a = btl b) : a = b := by rw [← txB_btl a, h, txB_btl]
theorem sameP_enc {p q : PC} {dl dl' L1 L2 M1 M2 : List Nat} (hp : ∀ x ∈ [p.team, p.site, p.fr, p.un], -9223372036854775808 ≤ x ∧ x ≤ 9223372036854775807) (hq : ∀ x ∈ [q.team, q.site, q.fr, q.un], -9223372036854775808 ≤ x ∧ x ≤ 9223372036854775807)
  (ht : p.test.size ≤ 100) (hh : p.wh.size ≤ 100) (ht' : q.test.size ≤ 100) (hh' : q.wh.size ≤ 100) (l1 : L1.length ≤ 67108864) (l2 : L2.length ≤ 67108864) (m1 : M1.length ≤ 67108864) (m2 : M2.length ≤ 67108864)
  (r1 : ∀ x ∈ L1, x < 4294967296) (r2 : ∀ x ∈ L2, x < 4294967296) (s1 : ∀ x ∈ M1, x < 4294967296) (s2 : ∀ x ∈ M2, x < 4294967296) :
  sameP p q (castI dl) (castI dl') L1 L2 M1 M2 = decide (encL p (btl p.test) (btl p.wh) dl L1 L2 = encL q (btl q.test) (btl q.wh) dl' M1 M2) := by
 rw [Bool.eq_iff_iff, decide_eq_true_iff]; unfold sameP sameR sameB; simp only [Bool.and_eq_true, decide_eq_true_iff]
 constructor
 ·rintro ⟨⟨e1, e2, e3, e4, e5, e6, e7⟩, e8, e9⟩; unfold encL; rw [e1, e2, e3, e4, e5, e6, e8, e9, castI_inj e7]
 ·intro e; obtain ⟨e1, e2, e3, e4, e5, e6, e7, e8, e9⟩ := encL_inj hp hq (by rw [btl_len]; omega) (by rw [btl_len]; omega) (by rw [btl_len]; omega) (by rw [btl_len]; omega) l1 l2 m1 m2 r1 r2 s1 s2 e; exact ⟨⟨e1, btl_inj e5, btl_inj e6, e2, e3, e4, by rw [e9]⟩, e7, e8⟩
end Go.Proofs.YtijkfagkbfbpmaaGreatDoor
namespace Go.Proofs.YtijkfagkbfbpmaaGreatDoor
open Go Go.RowKit
end Go.Proofs.YtijkfagkbfbpmaaGreatDoor
namespace Go.Proofs.YtijkfagkbfbpmaaGreatDoor
open Go Go.RowKit
end Go.Proofs.YtijkfagkbfbpmaaGreatDoor
namespace Go.Proofs.YtijkfagkbfbpmaaGreatDoor
open Go Go.RowKit
/-- what Encode says of a promise -/
def encE (p : PC) (x : List Nat × List Nat × List Nat) : List Nat := encL p (btl p.test) (btl p.wh) x.2.2 x.1 x.2.1
/-- a promise whose fields are such as Go's types allow -/
structure BOk (w : World) (p : PC) (x : List Nat × List Nat × List Nat) : Prop where
 rt : RtL w (.agg #[p.b1, p.b2]) x.1 x.2.1
 l1 : x.1.length ≤ 69
 l2 : x.2.1.length ≤ 69
 ts : p.test.size ≤ 100
 hs : p.wh.size ≤ 100
 iv : ∀ y ∈ [p.team, p.site, p.fr, p.un], -9223372036854775808 ≤ y ∧ y ≤ 9223372036854775807
 dg : ∃ d : DG, pdg p = cellsDG d ∧ cellsDG d = x.2.2.flatMap u8C
 dn : x.2.2.length = 16
 db : ∀ y ∈ x.2.2, y < 256
theorem BOk.below {w w' : World} {p : PC} {x : List Nat × List Nat × List Nat} (h : BOk w p x) (hb : Below w.heap.size w w') : BOk w' p x := ⟨h.rt.below hb, h.l1, h.l2, h.ts, h.hs, h.iv, h.dg, h.dn, h.db⟩
theorem bok_of {w : World} {p : PC} {L1 L2 : List Nat} (h : PD w p L1 L2) (l1 : L1.length ≤ 69) (l2 : L2.length ≤ 69) : ∃ x, BOk w p x := by
 obtain ⟨team, t, h, site, A1, k1, c1, A2, k2, c2, fr, un, r0, r1, r2, r3, r4, r5, r6, r7, r8, r9, r10, r11, r12, r13, r14, r15, rfl, h1, h2, h3, ⟨i1, i2, i3, i4⟩, b0, b1, b2, b3, b4, b5, b6, b7, b8, b9, b10, b11, b12, b13, b14, b15⟩ := h; refine ⟨(L1, L2, [r0.toNat, r1.toNat, r2.toNat, r3.toNat, r4.toNat, r5.toNat, r6.toNat, r7.toNat, r8.toNat, r9.toNat, r10.toNat, r11.toNat, r12.toNat, r13.toNat, r14.toNat, r15.toNat]), h3, l1, l2, h1, h2, ?_, ⟨⟨.int .u8 r0, .int .u8 r1, .int .u8 r2, .int .u8 r3, .int .u8 r4, .int .u8 r5, .int .u8 r6, .int .u8 r7, .int .u8 r8, .int .u8 r9, .int .u8 r10, .int .u8 r11, .int .u8 r12, .int .u8 r13, .int .u8 r14, .int .u8 r15⟩, rfl, ?_⟩, rfl, ?_⟩
 ·intro y hy; simp only [List.mem_cons, List.not_mem_nil, or_false] at hy
  rcases hy with rfl | rfl | rfl | rfl
  ·exact i1
  ·exact i2
  ·exact i3
  ·exact i4
 ·show [Value.int .u8 r0, Value.int .u8 r1, Value.int .u8 r2, Value.int .u8 r3, Value.int .u8 r4, Value.int .u8 r5, Value.int .u8 r6, Value.int .u8 r7, Value.int .u8 r8, Value.int .u8 r9, Value.int .u8 r10, Value.int .u8 r11, Value.int .u8 r12, Value.int .u8 r13, Value.int .u8 r14, Value.int .u8 r15] = [Value.int .u8 ((r0.toNat : Nat) : Int), Value.int .u8 ((r1.toNat : Nat) : Int), Value.int .u8 ((r2.toNat : Nat) : Int), Value.int .u8 ((r3.toNat : Nat) : Int), Value.int .u8 ((r4.toNat : Nat) : Int), Value.int .u8 ((r5.toNat : Nat) : Int), Value.int .u8 ((r6.toNat : Nat) : Int), Value.int .u8 ((r7.toNat : Nat) : Int), Value.int .u8 ((r8.toNat : Nat) : Int), Value.int .u8 ((r9.toNat : Nat) : Int), Value.int .u8 ((r10.toNat : Nat) : Int), Value.int .u8 ((r11.toNat : Nat) : Int), Value.int .u8 ((r12.toNat : Nat) : Int), Value.int .u8 ((r13.toNat : Nat) : Int), Value.int .u8 ((r14.toNat : Nat) : Int), Value.int .u8 ((r15.toNat : Nat) : Int)]
  rw [Int.toNat_of_nonneg b0.1, Int.toNat_of_nonneg b1.1, Int.toNat_of_nonneg b2.1, Int.toNat_of_nonneg b3.1, Int.toNat_of_nonneg b4.1, Int.toNat_of_nonneg b5.1, Int.toNat_of_nonneg b6.1, Int.toNat_of_nonneg b7.1, Int.toNat_of_nonneg b8.1, Int.toNat_of_nonneg b9.1, Int.toNat_of_nonneg b10.1, Int.toNat_of_nonneg b11.1, Int.toNat_of_nonneg b12.1, Int.toNat_of_nonneg b13.1, Int.toNat_of_nonneg b14.1, Int.toNat_of_nonneg b15.1]
 ·intro y hy; simp only [List.mem_cons, List.not_mem_nil, or_false] at hy; unfold BY at b0 b1 b2 b3 b4 b5 b6 b7 b8 b9 b10 b11 b12 b13 b14 b15; omega
theorem flat_bytes (l : List Nat) : l.flatMap u8C = bytes16 (castI l) := by
 induction l with
 | nil => rfl
 | cons x l ih => rw [List.flatMap_cons, ih]; rfl
theorem BOk.dk {w : World} {p : PC} {x : List Nat × List Nat × List Nat} (h : BOk w p x) : DgOk (pdg p) (castI x.2.2) := by
 obtain ⟨d, e1, e2⟩ := h.dg; exact ⟨by rw [e1, e2]; exact flat_bytes _, by rw [castI_len]; exact h.dn⟩
theorem limb_lt {w : World} {v : Value} {L1 L2 : List Nat} (h : RtL w v L1 L2) : (∀ y ∈ L1, y < 4294967296) ∧ ∀ y ∈ L2, y < 4294967296 := by
 obtain ⟨A1, k1, c1, A2, k2, c2, rfl, h1, h2, _, _⟩ := h; refine ⟨fun y hy => ?_, fun y hy => ?_⟩
 ·have := h1.2.2.2.1 y hy; unfold Nm.B at this; omega
 ·have := h2.2.2.2.1 y hy; unfold Nm.B at this; omega
theorem BOk.lens {w : World} {p : PC} {x : List Nat × List Nat × List Nat} (h : BOk w p x) : (Wi.encIs [p.team, p.site, p.fr, p.un]).length ≤ 100 ∧ (encSs [btl p.test, btl p.wh]).length ≤ 1000 ∧ (Wi.encIs (castI x.1) ++ Wi.encIs (castI x.2.1)).length ≤ 10000 ∧ (Wi.encI 1 ++ x.2.2).length ≤ 100 := by
 refine ⟨?_, ?_, ?_, ?_⟩
 ·have h1 := encIs_len h.iv (by show 4 ≤ _; omega); have h2 : [p.team, p.site, p.fr, p.un].length = 4 := rfl; omega
 ·unfold encSs; have h1 := Wi.encI_len (n := (([btl p.test, btl p.wh] : List (List Nat)).length : Nat)) (by omega) (by show ((2 : Nat) : Int) ≤ _; omega); have h2 := encB_len (l := btl p.test) (by have := h.ts; rw [btl_len]; omega); have h3 := encB_len (l := btl p.wh) (by have := h.hs; rw [btl_len]; omega); rw [btl_len] at h2 h3; have h4 := h.ts; have h5 := h.hs; simp only [List.flatMap_cons, List.flatMap_nil, List.length_append, List.length_nil]; omega
 ·have h1 := encIs_len (castI_rng (limb_lt h.rt).1) (by rw [castI_len]; have := h.l1; omega); have h2 := encIs_len (castI_rng (limb_lt h.rt).2) (by rw [castI_len]; have := h.l2; omega); rw [castI_len] at h1 h2; have h3 := h.l1; have h4 := h.l2; rw [List.length_append]; omega
 ·have h1 := Wi.encI_len (n := 1) (by omega) (by omega); have h2 := h.dn; rw [List.length_append]; omega
theorem BOk.len {w : World} {p : PC} {x : List Nat × List Nat × List Nat} (h : BOk w p x) : 0 < (encE p x).length ∧ (encE p x).length ≤ 11200 := by
 have h1 := h.lens; have h0 := encIs_pos [p.team, p.site, p.fr, p.un]; unfold encE encL; rw [List.length_append, List.length_append, List.length_append]; omega
theorem BOk.hst {w : World} {p : PC} {x : List Nat × List Nat × List Nat} (h : BOk w p x) : ∀ y ∈ [btl p.test, btl p.wh], y.length ≤ 100000 ∧ ∀ z ∈ y, z < 256 := by
 intro y hy; simp only [List.mem_cons, List.not_mem_nil, or_false] at hy; have h4 := h.ts; have h5 := h.hs
 rcases hy with rfl | rfl
 ·exact ⟨by rw [btl_len]; omega, btl_lt _⟩
 ·exact ⟨by rw [btl_len]; omega, btl_lt _⟩
theorem penc_c {w : World} {p : PC} {x : List Nat × List Nat × List Nat} (h : BOk w p x) : Calls Tryz.prog 35 #[.agg (cellsP p).toArray] w fun e w' => ∃ v, e = .returned v ∧ OwnB w' w.heap.size v (encE p x) ∧ Below w.heap.size w w' := by
 obtain ⟨d, e1, e2⟩ := h.dg; have hl := h.lens; have h1 := h.l1; have h2 := h.l2; exact pencode_n p d (btl p.test) (btl p.wh) x.2.2 x.1 x.2.1 w (txB_btl _).symm (txB_btl _).symm e1 (Lib.hid h.iv) (Lib.hid h.hst) (Lib.hid h.rt) (Lib.hid ⟨by omega, by omega⟩) (Lib.hid ⟨e2, h.dn, h.db⟩) (Lib.hid hl.1) (Lib.hid (by omega)) (Lib.hid (by omega)) (Lib.hid hl.2.2.2)
theorem renc_c {w : World} {p : PC} {x : List Nat × List Nat × List Nat} (h : BOk w p x) : Calls Tryz.prog 41 #[.agg (cellsP p).toArray] w fun e w' => ∃ v, e = .returned v ∧ OwnB w' w.heap.size v (encE p x) ∧ Below w.heap.size w w' := by
 obtain ⟨d, e1, e2⟩ := h.dg; have hl := h.lens; have h1 := h.l1; have h2 := h.l2; exact rencode34_n p d (btl p.test) (btl p.wh) x.2.2 x.1 x.2.1 w (txB_btl _).symm (txB_btl _).symm e1 (Lib.hid h.iv) (Lib.hid h.hst) (Lib.hid h.rt) (Lib.hid ⟨by omega, by omega⟩) (Lib.hid ⟨e2, h.dn, h.db⟩) (Lib.hid hl.1) (Lib.hid (by omega)) (Lib.hid (by omega)) (Lib.hid hl.2.2.2)
theorem pdig_c {w : World} {p : PC} {x : List Nat × List Nat × List Nat} (h : BOk w p x) (hK : KcT w 0) : Calls Tryz.prog 42 #[.agg (cellsP p).toArray] w fun e w' => e = .returned (.agg (dgW (12 :: encB (encE p x))).toArray) ∧ Below w.heap.size w w' := by
 have hl := h.len; exact pdigest_n p (encE p x) w (fun W hb => penc_c (h.below hb)) (Lib.hid ⟨hl.1, by omega⟩) hK
theorem rdig_c {w : World} {p : PC} {x : List Nat × List Nat × List Nat} (h : BOk w p x) (hK : KcT w 1) : Calls Tryz.prog 43 #[.agg (cellsP p).toArray] w fun e w' => e = .returned (.agg (dgW (12 :: encB (encE p x))).toArray) ∧ Below w.heap.size w w' := by
 have hl := h.len; exact rdigest_n p (encE p x) w (fun W hb => renc_c (h.below hb)) (Lib.hid ⟨hl.1, by omega⟩) hK
theorem psame_c {w : World} {p q : PC} {x y : List Nat × List Nat × List Nat} (hp : BOk w p x) (hq : BOk w q y) : Calls Tryz.prog 45 #[.agg (cellsP p).toArray, .agg (cellsP q).toArray] w fun e w' => e = .returned (.bool (decide (encE p x = encE q y))) ∧ Below w.heap.size w w' := by
 refine (psame34_n p q (castI x.2.2) (castI y.2.2) x.1 x.2.1 y.1 y.2.1 w hp.dk hq.dk hp.rt hq.rt).mono ?_; rintro e w' ⟨rfl, hb⟩; refine ⟨?_, hb⟩; have a1 := hp.l1; have a2 := hp.l2; have b1 := hq.l1; have b2 := hq.l2; rw [sameP_enc hp.iv hq.iv hp.ts hp.hs hq.ts hq.hs (by omega) (by omega) (by omega) (by omega) (limb_lt hp.rt).1 (limb_lt hp.rt).2 (limb_lt hq.rt).1 (limb_lt hq.rt).2]; rfl
theorem rsame_c {w : World} {p q : PC} {x y : List Nat × List Nat × List Nat} (hp : BOk w p x) (hq : BOk w q y) : Calls Tryz.prog 46 #[.agg (cellsP p).toArray, .agg (cellsP q).toArray] w fun e w' => e = .returned (.bool (decide (encE p x = encE q y))) ∧ Below w.heap.size w w' := by
 refine (rsame34_n p q (castI x.2.2) (castI y.2.2) x.1 x.2.1 y.1 y.2.1 w hp.dk hq.dk hp.rt hq.rt).mono ?_; rintro e w' ⟨rfl, hb⟩; refine ⟨?_, hb⟩; have a1 := hp.l1; have a2 := hp.l2; have b1 := hq.l1; have b2 := hq.l2; rw [sameP_enc hp.iv hq.iv hp.ts hp.hs hq.ts hq.hs (by omega) (by omega) (by omega) (by omega) (limb_lt hp.rt).1 (limb_lt hp.rt).2 (limb_lt hq.rt).1 (limb_lt hq.rt).2]; rfl
theorem dgW_same (m : List Nat) (w : World) : (binOp .neq 31 (.agg (dgW m).toArray) (.agg (dgW m).toArray)).run Tryz.prog w = .ok (.bool false) w := by
 have e : dgW m = bytes16 ((List.range 16).map fun j => ((shaB (shaW m) j : Nat) : Int)) := by
  unfold dgW bLs bytes16; rw [List.map_map]; rfl
 rw [e, dig_neq w _ _ (by rw [List.length_map, List.length_range]) (by rw [List.length_map, List.length_range])]; simp
/-- the promises of a list, each with what its bytes are made of -/
def BLs (w : World) (ps : List PC) (xf : Nat → List Nat × List Nat × List Nat) : Prop := ∀ (n : Nat) p, ps[n]? = some p → BOk w p (xf n)
theorem BLs.below {w w' : World} {ps : List PC} {xf : Nat → List Nat × List Nat × List Nat} (h : BLs w ps xf) (hb : Below w.heap.size w w') : BLs w' ps xf := fun n p hp => (h n p hp).below hb
theorem bls_ex {w : World} {ps : List PC} {Lf : Nat → List Nat × List Nat} (h : LsW w ps Lf) : ∃ xf, BLs w ps xf :=
 idx_choice (R := fun _ p x => BOk w p x) fun n p hp => bok_of (h n p hp).1 (h n p hp).2.1 (h n p hp).2.2
end Go.Proofs.YtijkfagkbfbpmaaGreatDoor
namespace Go.Proofs.YtijkfagkbfbpmaaGreatDoor
open Go Go.RowKit
end Go.Proofs.YtijkfagkbfbpmaaGreatDoor
namespace Go.Proofs.YtijkfagkbfbpmaaGreatDoor
open Go Go.RowKit
def PhiPc3 (g : Nat) (h s : ByteArray) (site : Int) (j : Nat) (w : World) (x : Value) : Prop :=
 match j with
 | 0 => x = .pointer (some ⟨g, 2, none⟩)
 | 1 => x = .string h
 | 2 => x = .string (h ++ slB)
 | 3 => x = .pointer (some ⟨g, 3, none⟩)
 | 4 => x = .int .i64 site
 | 5 => x = .string s
 | 6 => x = .string (h ++ slB ++ s)
 | 7 => x = .string (h ++ slB ++ s)
 | _ => True

theorem PhiPc3.keep {g : Nat} {h s : ByteArray} {site : Int} : ∀ (w w' : World), Below w.heap.size w w' → ∀ j x, PhiPc3 g h s site j w x → PhiPc3 g h s site j w' x := by
 intro w w' hb j x h; unfold PhiPc3 at h ⊢
 split <;> simp only at h ⊢
 all_goals first
  | exact h
  | (obtain ⟨g, e, h1⟩ := h; exact ⟨g, e, Blk.below h1 hb h1.lt⟩)
set_option maxRecDepth 100000 in
set_option maxHeartbeats 1000000 in
theorem place_n (p : PC) (s2 : ByteArray) (w : World) (hs : p.wh.size ≤ 100) (hi : ItoaS w p.site s2) :
  Calls Tryz.prog 80 #[.agg (cellsP p).toArray] w fun e w' => e = .returned (.string (placeS p.wh s2)) ∧ Below w.heap.size w w' := by
 obtain ⟨W, HW⟩ : ∃ W, Hid (W = w.alloc (.cells (cellsP p).toArray 33)) := ⟨_, rfl⟩; have hbw : Below w.heap.size w W := by rw [HW.out]; exact bA _ _
 have BA : Blk W w.heap.size 33 (cellsP p).toArray := by rw [HW.out]; exact Blk.new _ _ _
 have HI := Lib.hid hi; have h2s := hi.1; clear hi; have a2 := BA.cell 2; have a3 := BA.cell 3; simp only [cellsP, List.getElem?_toArray, List.getElem?_cons_zero, List.getElem?_cons_succ] at a2 a3; have hq1 : ¬ (9223372036854775807 < p.wh.size + 1) := by omega
 have hq2 : ¬ (9223372036854775807 < p.wh.size + 1 + s2.size) := by omega
 have hq3 : (p.wh ++ slB).size = p.wh.size + 1 := by rw [ByteArray.size_append]; rfl
 go_enter Tryz.func80, Tryz.ntmps80
 go_upto_region 1 with fail; rw [← HW.out]; by_cases he : p.wh = ⟨#[]⟩
 ·have HP : Hid (placeS p.wh s2 = ⟨#[45, 47, 48]⟩) := by show _ = _; unfold placeS; rw [if_pos he]
  have hl : p.wh.toList.isEmpty = true := by rw [he, ByteArray.toList_eq]; rfl
  clear he; go_wp2_with fail; go_ret; exact ⟨by rw [HP.out]; rfl, hbw⟩
 ·have HP : Hid (placeS p.wh s2 = p.wh ++ slB ++ s2) := by show _ = _; unfold placeS; rw [if_neg he]
  have hl : p.wh.toList.isEmpty = false := by
   cases h : p.wh.toList.isEmpty with
   | false => rfl
   | true => exact absurd (ByteArray.ext (Array.toList_inj.1 (by rw [ByteArray.toList_eq, List.isEmpty_iff] at h; simpa using h))) he
  clear he; go_upto_region 3 with fail; refine region_invF (PhiPc3 w.heap.size p.wh s2 p.site) (fun w w' => Below w.heap.size w w') (fun X => Below W.heap.size W X) (by kernel_rfl) (by kernel_rfl) (by kernel_rfl) PhiPc3.keep (fun _ _ hR hS => Below.tr hS hR) (bD _) (fun vs => by simp only [fillR, Act.put, sA, sB, sC, Nat.zero_add, Nat.reduceAdd]; rfl) ?_ ?_
  ·refine sK ?_ (sK ?_ (sK ?_ (sK ?_ (sK ?_ (sK ?_ (sK ?_ (sK ?_ (sZ))))))))
   ·as_aux_lemma =>
    intro vs W hS hdep K hK; refine ⟨?_⟩; simp only [Act.put, sA, sB, sC, Nat.zero_add, Nat.reduceAdd] at hK ⊢; go_simp; with_reducible refine hK _ _ (Below.refl _ _) ?_
    exact rfl
   ·as_aux_lemma =>
    intro vs W hS hdep K hK; have d0 := hdep ⟨0, .data⟩ (by simp) rfl; simp only [PhiPc3] at d0; have f1 := cell_keep hS a2; refine ⟨?_⟩; simp only [Act.put, sA, sB, sC, Nat.zero_add, Nat.reduceAdd, d0] at hK ⊢; go_simp; with_reducible refine hK _ _ (Below.refl _ _) ?_
    exact rfl
   ·as_aux_lemma =>
    intro vs W hS hdep K hK; have d0 := hdep ⟨1, .data⟩ (by simp) rfl; simp only [PhiPc3] at d0; have q1 := hq1; have q2 := hq2; have q3 := hq3; refine ⟨?_⟩; simp only [Act.put, sA, sB, sC, Nat.zero_add, Nat.reduceAdd, d0] at hK ⊢; go_simp; with_reducible refine hK _ _ (Below.refl _ _) ?_
    exact rfl
   ·as_aux_lemma =>
    intro vs W hS hdep K hK; refine ⟨?_⟩; simp only [Act.put, sA, sB, sC, Nat.zero_add, Nat.reduceAdd] at hK ⊢; go_simp; with_reducible refine hK _ _ (Below.refl _ _) ?_
    exact rfl
   ·as_aux_lemma =>
    intro vs W hS hdep K hK; have d0 := hdep ⟨3, .data⟩ (by simp) rfl; simp only [PhiPc3] at d0; have f1 := cell_keep hS a3; refine ⟨?_⟩; simp only [Act.put, sA, sB, sC, Nat.zero_add, Nat.reduceAdd, d0] at hK ⊢; go_simp; with_reducible refine hK _ _ (Below.refl _ _) ?_
    exact rfl
   ·as_aux_lemma =>
    intro vs W hS hdep K hK; have d0 := hdep ⟨4, .data⟩ (by simp) rfl; simp only [PhiPc3] at d0; refine ⟨?_⟩; simp only [Act.put, sA, sB, sC, Nat.zero_add, Nat.reduceAdd, d0] at hK ⊢; go_simp; refine (HI.out.2 _ (Below.tr hbw hS)).mono ?_; rintro e w' ⟨rfl, hb⟩; go_wp2_with fail; with_reducible refine hK _ _ hb ?_
    exact rfl
   ·as_aux_lemma =>
    intro vs W hS hdep K hK; have d0 := hdep ⟨2, .data⟩ (by simp) rfl; simp only [PhiPc3] at d0; have d1 := hdep ⟨5, .data⟩ (by simp) rfl; simp only [PhiPc3] at d1; have q1 := hq1; have q2 := hq2; have q3 := hq3; refine ⟨?_⟩; simp only [Act.put, sA, sB, sC, Nat.zero_add, Nat.reduceAdd, d0, d1] at hK ⊢; go_simp; with_reducible refine hK _ _ (Below.refl _ _) ?_
    exact rfl
   ·as_aux_lemma =>
    intro vs W hS hdep K hK; have d0 := hdep ⟨6, .data⟩ (by simp) rfl; simp only [PhiPc3] at d0; refine ⟨?_⟩; simp only [Act.put, sA, sB, sC, Nat.zero_add, Nat.reduceAdd, d0] at hK ⊢; go_simp; with_reducible refine hK _ _ (Below.refl _ _) ?_
    exact rfl
  ·intro vs W2 hS hv; have u7 := hv 7 (by simp); simp only [PhiPc3] at u7; simp only [Act.put, sA, sB, sC, Nat.zero_add, Nat.reduceAdd, u7]; clear u7 hv; go_wp2_with fail; go_ret; exact ⟨by rw [HP.out]; rfl, Below.tr hbw hS⟩
end Go.Proofs.YtijkfagkbfbpmaaGreatDoor
namespace Go.Proofs.YtijkfagkbfbpmaaGreatDoor
open Go Go.RowKit
theorem OwnB.app2 {w : World} {base n : Nat} {v : Value} {l : List Nat} {a b : Nat} (h : w.ownsRow base 5 1 v n (l.flatMap u8C ++ [.int .u8 (a : Int), .int .u8 (b : Int)])) (hn : n = l.length + 2) (hl : ∀ x ∈ l, x < 256) (ha : a < 256) (hb : b < 256) : OwnB w base v (l ++ [a, b]) := by
 subst hn; refine ⟨by rw [List.flatMap_append, List.length_append]; exact h, fun x hx => ?_⟩
 rcases List.mem_append.1 hx with h1 | h1
 ·exact hl x h1
 ·simp only [List.mem_cons, List.not_mem_nil, or_false] at h1
  rcases h1 with rfl | rfl <;> assumption
def PhiPr9 (A : Option Addr) (n c y u v : Nat) (vs : Nat → Value) (j : Nat) (w : World) (x : Value) : Prop :=
 match j with
 | 0 => x = .slice A n c
 | 1 => x = .int .u8 (y : Nat)
 | 2 => x = .int .u8 (u : Nat)
 | 3 => x = .int .u8 (hxN u : Nat)
 | 4 => x = .int .u8 (y : Nat)
 | 5 => x = .int .u8 (v : Nat)
 | 6 => x = .int .u8 (hxN v : Nat)
 | 7 => ∃ g, x = .slice (some ⟨g, 0, none⟩) 2 2 ∧ Blk w g 5 #[.int .u8 (hxN u : Nat), .int .u8 (hxN v : Nat)]
 | _ => True

theorem PhiPr9.keepR {A : Option Addr} {n c y u v : Nat} : ∀ vs (w w' : World), Below w.heap.size w w' → ∀ j x, PhiPr9 A n c y u v vs j w x → PhiPr9 A n c y u v vs j w' x := by
 intro vs w w' hb j x h; unfold PhiPr9 at h ⊢
 split <;> simp only at h ⊢
 all_goals first
  | exact h
  | (obtain ⟨g, e, h1⟩ := h; exact ⟨g, e, Blk.below h1 hb h1.lt⟩)
theorem PhiPr9.keepF {A : Option Addr} {n c y u v : Nat} : ∀ vs (w w' : World) j x, ([] : List Nat).contains j = true → PhiPr9 A n c y u v vs j w x → PhiPr9 A n c y u v vs j w' x := by
 intro vs w w' j x hf
 cases hf
def SPr9 (B : Nat) (w0 wr : World) (l : List Nat) (u v : Nat) : List Value → (Nat → Value) → World → Prop
 | [], _, W => Below wr.heap.size wr W
 | [z], _, W => OwnB W B z (l ++ [hxN u, hxN v]) ∧ Below B w0 W
 | [z, x], _, W => x = z ∧ OwnB W B z (l ++ [hxN u, hxN v]) ∧ Below B w0 W
 | _, _, _ => True
def PhiPr11 (gp : Nat) (p : PC) (bd s1 s2 s3 s4 pl hx : ByteArray) (A : Option Addr) (n c : Nat) (cs : Array Value) (j : Nat) (w : World) (x : Value) : Prop :=
 match j with
 | 0 => x = .pointer (some ⟨gp, 0, none⟩)
 | 1 => x = .int .i64 p.team
 | 2 => x = .string s1
 | 3 => x = .pointer (some ⟨gp, 1, none⟩)
 | 4 => x = .string p.test
 | 5 => x = .agg (cellsP p).toArray
 | 6 => x = .string pl
 | 7 => x = .string bd
 | 8 => x = .pointer (some ⟨gp, 6, none⟩)
 | 9 => x = .int .i64 p.fr
 | 10 => x = .string s3
 | 11 => x = .pointer (some ⟨gp, 7, none⟩)
 | 12 => x = .int .i64 p.un
 | 13 => x = .string s4
 | 14 => x = .slice A n c
 | 15 => x = .string hx
 | 16 => ∃ g, x = .slice (some ⟨g, 0, none⟩) 14 14 ∧ Blk w g 9 cs
 | 17 => ∃ g, x = .slice (some ⟨g, 0, none⟩) 14 14 ∧ Blk w g 9 cs
 | _ => True

theorem PhiPr11.keep {gp : Nat} {p : PC} {bd s1 s2 s3 s4 pl hx : ByteArray} {A : Option Addr} {n c : Nat} {cs : Array Value} : ∀ (w w' : World), Below w.heap.size w w' → ∀ j x, PhiPr11 gp p bd s1 s2 s3 s4 pl hx A n c cs j w x → PhiPr11 gp p bd s1 s2 s3 s4 pl hx A n c cs j w' x := by
 intro w w' hb j x h; unfold PhiPr11 at h ⊢
 split <;> simp only at h ⊢
 all_goals first
  | exact h
  | (obtain ⟨g, e, h1⟩ := h; exact ⟨g, e, Blk.below h1 hb h1.lt⟩)
theorem info_str14 : (Tryz.prog.info? 9).map (fun i => (i.zero, i.size, i.bytes)) = some (some (.string { data := #[] }), 1, 16) := by kernel_rfl
theorem fill_s14 (s0 s1 s2 s3 s4 s5 s6 s7 s8 s9 s10 s11 s12 s13 : ByteArray) : Instr.fill (fun i => some (i * 1, 1)) ((Array.range (14 * 1)).map ((Value.string { data := #[] }).cells[· % (Value.string { data := #[] }).cells.size]!)) [(0, .string s0), (1, .string s1), (2, .string s2), (3, .string s3), (4, .string s4), (5, .string s5), (6, .string s6), (7, .string s7), (8, .string s8), (9, .string s9), (10, .string s10), (11, .string s11), (12, .string s12), (13, .string s13)] = some #[.string s0, .string s1, .string s2, .string s3, .string s4, .string s5, .string s6, .string s7, .string s8, .string s9, .string s10, .string s11, .string s12, .string s13] := by kernel_rfl
set_option maxRecDepth 100000 in
set_option maxHeartbeats 4000000 in
theorem print_n (p : PC) (a b : Nat) (d : List Int) (s1 s2 s3 s4 : ByteArray) (w : World) (hrp : Rat w (.agg #[p.b1, p.b2]) a b) (hg : Nm.Good a b) (hnb : ¬ pBad a b p) (ht : p.test.size ≤ 100) (hwh : p.wh.size ≤ 100) (hdg : DgOk (pdg p) d) (hby : ∀ x ∈ d, BY x) (h1 : ItoaS w p.team s1) (h2 : ItoaS w p.site s2) (h3 : ItoaS w p.fr s3) (h4 : ItoaS w p.un s4) (bd : ByteArray) (hbd : Hid (ratS a b = bd ∧ bd.size ≤ 3000)) :
  Calls Tryz.prog 47 #[.agg (cellsP p).toArray] w fun e w' => e = .returned (.tuple #[.string (joinP (wordsP p bd s1 s2 s3 s4 d)), .int .i64 0]) ∧ Below w.heap.size w w' := by
 obtain ⟨i0, hi0, hz0, hz1, hz2⟩ := info_parts info_u8; obtain ⟨iS, hiS, hzS, hzS1, hzS2⟩ := info_parts info_str14; obtain ⟨W, HW⟩ : ∃ W, Hid (W = w.alloc (.cells (cellsP p).toArray 33)) := ⟨_, rfl⟩; have hbw : Below w.heap.size w W := by rw [HW.out]; exact bA _ _
 have BA : Blk W w.heap.size 33 (cellsP p).toArray := by rw [HW.out]; exact Blk.new _ _ _
 have hrp := hrp.below hbw; have H1 := Lib.hid (h1.below hbw); have H2 := Lib.hid (h2.below hbw); have H3 := Lib.hid (h3.below hbw); have H4 := Lib.hid (h4.below hbw); have HG := Lib.hid hg; have HDG := Lib.hid hdg; have HNB := Lib.hid hnb; have HBY := Lib.hid hby; clear h1 h2 h3 h4 hg hdg hby hnb
 go_enter Tryz.func47, Tryz.ntmps47
 go_upto_region 1 with fail; rw [← HW.out]
 go_wp2_with (first | (refine wpList_load_mid rfl 33 (.tmp 1) rfl w.heap.size 0 rfl (cellsP p) _ (blk_range BA) Tryz.underlying33 rfl infoP ?_; simp only [Act.put, sA, sB, sC]))
 refine (pvalid_n p _ _ _ (rtl_rat hrp) (by omega) (by omega)).mono ?_; rintro e w2 ⟨E, rfl, HE, hb2⟩
 obtain rfl : E = 0 := by
  have hz : PVal p (Nm.lb a) (Nm.lb (Nm.dn b)) 0 := .inr ⟨a, b, rfl, rfl, HG.out, pE_ok HNB.out⟩; exact HE.out.uniq hz
 have hbw := Below.tr hbw hb2; have hrp := hrp.below hb2; have BA := Blk.below BA hb2 BA.lt; have H1 := Lib.hid (H1.out.below hb2); have H2 := Lib.hid (H2.out.below hb2); have H3 := Lib.hid (H3.out.below hb2); have H4 := Lib.hid (H4.out.below hb2); have a4 := BA.cell 4; have a5 := BA.cell 5; simp only [cellsP, List.getElem?_toArray, List.getElem?_cons_zero, List.getElem?_cons_succ] at a4 a5; clear HE hb2; go_wp2_with fail; refine (print_v _ a b _ hrp HG.out).mono ?_; rintro e w3 ⟨rfl, hb3⟩; rw [hbd.out.1]; have hbw := Below.tr hbw hb3; have BA := Blk.below BA hb3 BA.lt; have H1 := Lib.hid (H1.out.below hb3); have H2 := Lib.hid (H2.out.below hb3); have H3 := Lib.hid (H3.out.below hb3); have H4 := Lib.hid (H4.out.below hb3); clear a4 a5 hb3 hrp HG HNB
 go_upto_region 7 with (first | (refine wpList_load_mid rfl 31 (.tmp 22) rfl w.heap.size 8 rfl (pdg p) _ (digR BA) Tryz.underlying31 rfl infoPd ?_; simp only [Act.put, sA, sB, sC]))
 go_loopg [7, 24] 16 (fun mm v x wr => ∃ (i : Nat) (l : List Nat), x = .int .i64 i ∧ i + mm = 16 ∧ OwnB wr w3.heap.size v l ∧ Hid (l = hexL (d.take i)) ∧ Below w3.heap.size w3 wr)
 case atStart => exact ⟨0, [], rfl, rfl, OwnB.nil _ _, rfl, Below.refl _ _⟩
 case round =>
  obtain ⟨G, hG⟩ : ∃ G, G = gk := ⟨gk, rfl⟩; subst hG; obtain ⟨i, l, rfl, him, hown, HL, hbe⟩ := hrel; by_cases hi : i < 16
  ·have t1 : decide ((i : Int) < 16) = true := by simp; omega
   have li : (i : Int) < 16 := by omega
   have hdl : i < d.length := by have := HDG.out.2; omega
   obtain ⟨y, HY⟩ : ∃ y : Nat, Hid (d[i]? = some (y : Int) ∧ y < 256) := by
    have h1 := HBY.out d[i] (List.getElem_mem hdl); obtain ⟨h2, h3⟩ := h1; refine ⟨d[i].toNat, ?_, by omega⟩; rw [List.getElem?_eq_getElem hdl]
    congr 1
    omega
   have hdi : (pdg p)[i]? = some (.int .u8 (y : Int)) := by
    rw [HDG.out.1]; unfold bytes16; rw [List.getElem?_map, HY.out.1]; rfl
   have hy256 := HY.out.2
   have HLN : Hid (l.length = 2 * i) := by
    show _ = _
    rw [HL.out, hexL_len, List.length_take]; omega
   obtain ⟨A, c, rfl⟩ := hown.shp; obtain ⟨n, hn⟩ : ∃ n, l.length = n := ⟨_, rfl⟩; rw [hn] at hown ⊢; rw [hn] at HLN; have hn32 : n ≤ 32 := by have := HLN.out; omega
   have HLN : Hid (l.length = n) := hn
   have HL2 : Hid (l ++ [hxN (y / 16), hxN (y % 16)] = hexL (d.take (i + 1))) := by
    show _ = _
    rw [hexL_succ HY.out.1, HL.out]
   obtain ⟨u, HU16⟩ : ∃ u, Hid (y / 16 = u) := ⟨_, rfl⟩; obtain ⟨v, HV16⟩ : ∃ v, Hid (y % 16 = v) := ⟨_, rfl⟩; rw [HU16.out, HV16.out] at HL2
   have hq1 : IntKind.u8.wrap ((y : Int) / 16) = (u : Int) := by
    have : IntKind.u8.wrap ((y : Int) / 16) = ((y : Int) / 16) % 256 := by simp [IntKind.wrap, IntKind.bits, IntKind.signed]
    rw [this]; have := HU16.out; omega
   have hr1 : IntKind.u8.wrap ((y : Int) % 16) = (v : Int) := by
    have : IntKind.u8.wrap ((y : Int) % 16) = ((y : Int) % 16) % 256 := by simp [IntKind.wrap, IntKind.bits, IntKind.signed]
    rw [this]; have := HV16.out; omega
   have hr0 : (y : Int).tmod 16 = (v : Int) := by rw [Int.tmod_eq_emod_of_nonneg (by omega)]; have := HV16.out; omega
   have hq2 : u < 16 := by have := HU16.out; omega
   have hr2 : v < 16 := by have := HV16.out; omega
   have hq3 : True := trivial; have hr3 := hr0; have hq5 := fun w => dig_ix u hq2 w
   have hr5 := fun w => dig_ix v hr2 w
   have hix := fun w => arr_ix (pdg p) _ i rfl hi hdi rfl w
   clear HY hn HL hdl; go_upto_region 9 with fail; refine region_chain [8, 9] [.early, .early, .early, .early, .early, .early, .early, .early, .chain 0, .chain 1] [] [] (PhiPr9 A n c y u v) (fun w w' => Below w.heap.size w w') (SPr9 w3.heap.size w3 wr l u v) (by kernel_rfl) (by kernel_rfl) (by kernel_rfl) (by kernel_rfl) (sK (fun _ _ _ _ _ h => h) (sK (fun _ _ _ _ _ h => h) (sK (fun _ _ _ _ _ h => h) (sK (fun _ _ _ _ _ h => h) (sK (fun _ _ _ _ _ h => h) (sK (fun _ _ _ _ _ h => h) (sK (fun _ _ _ _ _ h => h) (sK (fun _ _ _ _ _ h => h) (sK (fun _ _ _ _ _ h => h) (sK (fun _ _ _ _ _ h => h) (sZ))))))))))) PhiPr9.keepR PhiPr9.keepF (fun _ _ _ _ hR hS => Below.tr hS hR) (by rintro (_ | ⟨_, _ | ⟨_, _ | _⟩⟩) vs vs' w _ h <;> exact h) (fun _ => bD _) (fun vs => by simp only [fillR, Act.put, sA, sB, sC, Nat.zero_add, Nat.reduceAdd]; rfl) ?_ ?_
   ·refine sK ?_ (sK ?_ (sK ?_ (sK ?_ (sK ?_ (sK ?_ (sK ?_ (sK ?_ (sK ?_ (sK ?_ (sZ))))))))))
    ·as_aux_lemma =>
     intro vs W hS hu hdep K hK; have HU := Lib.hid hu; clear hu; have u0 : vs 9 = .slice A n c := HU.out 9 (by simp); refine ⟨?_⟩; simp only [Act.put, sA, sB, sC, Nat.zero_add, Nat.reduceAdd, u0] at hK ⊢; go_simp; with_reducible refine hK _ _ (Below.refl _ _) ?_
     exact rfl
    ·as_aux_lemma =>
     intro vs W hS hu hdep K hK; have HU := Lib.hid hu; clear hu; refine ⟨?_⟩; simp only [Act.put, sA, sB, sC, Nat.zero_add, Nat.reduceAdd] at hK ⊢; go_simp; with_reducible refine hK _ _ (Below.refl _ _) ?_
     exact rfl
    ·as_aux_lemma =>
     intro vs W hS hu hdep K hK; have HU := Lib.hid hu; clear hu; have d0 := hdep ⟨1, .data⟩ (by simp) rfl; simp only [PhiPr9] at d0; have q1 := hq1; refine ⟨?_⟩; simp only [Act.put, sA, sB, sC, Nat.zero_add, Nat.reduceAdd, d0] at hK ⊢; go_simp; with_reducible refine hK _ _ (Below.refl _ _) ?_
     exact rfl
    ·as_aux_lemma =>
     intro vs W hS hu hdep K hK; have HU := Lib.hid hu; clear hu; have d0 := hdep ⟨2, .data⟩ (by simp) rfl; simp only [PhiPr9] at d0; have q2 := hq2; have q3 := hq3; have q5 := hq5; refine ⟨?_⟩; simp only [Act.put, sA, sB, sC, Nat.zero_add, Nat.reduceAdd, d0] at hK ⊢; go_simp; with_reducible refine hK _ _ (Below.refl _ _) ?_
     exact rfl
    ·as_aux_lemma =>
     intro vs W hS hu hdep K hK; have HU := Lib.hid hu; clear hu; refine ⟨?_⟩; simp only [Act.put, sA, sB, sC, Nat.zero_add, Nat.reduceAdd] at hK ⊢; go_simp; with_reducible refine hK _ _ (Below.refl _ _) ?_
     exact rfl
    ·as_aux_lemma =>
     intro vs W hS hu hdep K hK; have HU := Lib.hid hu; clear hu; have d0 := hdep ⟨4, .data⟩ (by simp) rfl; simp only [PhiPr9] at d0; have q1 := hr1; have q2 := hr0; refine ⟨?_⟩; simp only [Act.put, sA, sB, sC, Nat.zero_add, Nat.reduceAdd, d0] at hK ⊢; go_simp; with_reducible refine hK _ _ (Below.refl _ _) ?_
     exact rfl
    ·as_aux_lemma =>
     intro vs W hS hu hdep K hK; have HU := Lib.hid hu; clear hu; have d0 := hdep ⟨5, .data⟩ (by simp) rfl; simp only [PhiPr9] at d0; have q2 := hr2; have q3 := hr3; have q5 := hr5; refine ⟨?_⟩; simp only [Act.put, sA, sB, sC, Nat.zero_add, Nat.reduceAdd, d0] at hK ⊢; go_simp; with_reducible refine hK _ _ (Below.refl _ _) ?_
     exact rfl
    ·as_aux_lemma =>
     intro vs W hS hu hdep K hK; have HU := Lib.hid hu; clear hu; have d0 := hdep ⟨3, .data⟩ (by simp) rfl; simp only [PhiPr9] at d0; have d1 := hdep ⟨6, .data⟩ (by simp) rfl; simp only [PhiPr9] at d1; refine ⟨?_⟩; simp only [Act.put, sA, sB, sC, Nat.zero_add, Nat.reduceAdd, d0, d1] at hK ⊢; go_simp; with_reducible refine hK _ _ (bA _ _) ?_
     exact ⟨_, rfl, Blk.new _ _ _⟩
    ·as_aux_lemma =>
     intro vs W hS hdep K hK; have d0 := hdep ⟨0, .data⟩ (by simp) rfl (by rfl); simp only [PhiPr9] at d0; have d1 := hdep ⟨7, .data⟩ (by simp) rfl (by rfl); simp only [PhiPr9] at d1; have hS : Below wr.heap.size wr W := hS; refine @exE1 _ _ _ d1 ?_; clear d1; intro g d1; have e1 := d1.1; have k1 := d1.2; clear d1; have hown2 := hown.below hS; refine ⟨?_⟩; simp only [Act.put, sA, sB, sC, Nat.zero_add, Nat.reduceAdd, d0, e1] at hK ⊢; rw [if_pos (by rfl)]; refine wp_append_any W (.tmp 27) (.tmp 34) _ rfl w3.heap.size 5 i0 _ 1 1 Tryz.underlying72 hi0 hz0 hz1 hz2 rfl (by omega) (.slice A n c) n (l.flatMap u8C) rfl (HLN.out ▸ hown2.1) (some ⟨g, 0, none⟩) 2 2 [.int .u8 (hxN u : Nat), .int .u8 (hxN v : Nat)] rfl rfl (rd_blk k1) (by simp [Value.oneCell']) (by simp only [maxLen]; omega) (by omega) (Nat.le_trans hbe.size hS.size) ?_; intro v' w' h2 hg h4; simp only [Act.put, sA, sB, sC]; with_reducible refine hK v' w' ?_
     exact ⟨OwnB.app2 h2 (by rw [← HLN.out]) hown2.2 (hxN_lt hq2) (hxN_lt hr2), (Below.tr hbe hS).grown hg (Nat.le_trans hbe.size hS.size) hown2.ge⟩
    ·as_aux_lemma =>
     intro vs W hS hdep K hK; have hS : OwnB W w3.heap.size (vs 8) (l ++ [hxN u, hxN v]) ∧ Below w3.heap.size w3 W := hS; refine ⟨?_⟩; simp only [Act.put, sA, sB, sC, Nat.zero_add, Nat.reduceAdd] at hK ⊢; go_simp; with_reducible refine hK _ _ ?_
     exact ⟨rfl, hS⟩
   ·intro vs W9 hS _; have hS2 : vs 9 = vs 8 ∧ OwnB W9 w3.heap.size (vs 8) (l ++ [hxN u, hxN v]) ∧ Below w3.heap.size w3 W9 := hS; obtain ⟨e1, hown9, hb9⟩ := hS2; obtain ⟨A9, c9, e9⟩ := hown9.shp; have e3 := e1.trans e9; clear hS e1 hix hq1 hr1 hr0 hr3 hq5 hr5; simp only [e3]; rw [e9] at hown9; clear e3 e9; go_wp2_with fail
    go_roundg (G - 1)
    case measure => omega
    case rel => exact ⟨i + 1, l ++ [hxN u, hxN v], by go_num, by omega, hown9, HL2, hb9⟩
  ·have t1 : decide ((i : Int) < 16) = false := by simp; omega
   obtain ⟨wz, hwz⟩ : ∃ x, x = wr := ⟨_, rfl⟩; subst hwz; have BA := Blk.below BA hbe BA.lt; have H1 := Lib.hid (H1.out.below hbe); have H2 := Lib.hid (H2.out.below hbe); have H3 := Lib.hid (H3.out.below hbe); have H4 := Lib.hid (H4.out.below hbe); have hbw := Below.tr hbw hbe
   have HL2 : Hid (l = hexL d ∧ l.length = 32) := by
    have h1 : l = hexL d := by
     rw [HL.out, show i = 16 by omega, List.take_of_length_le (by have := HDG.out.2; omega)]
    exact ⟨h1, by rw [h1, hexL_len, HDG.out.2]⟩
   obtain ⟨A, c, rfl⟩ := hown.shp; have b0 := BA.cell 0; have b1 := BA.cell 1; have b6 := BA.cell 6; have b7 := BA.cell 7; simp only [cellsP, List.getElem?_toArray, List.getElem?_cons_zero, List.getElem?_cons_succ] at b0 b1 b6 b7; have HCP : Hid (∀ j v, (cellsP p)[j]? = some v → wz.cell? ⟨w.heap.size, 0 + j, none⟩ = some v) := fun j v h => by rw [Nat.zero_add, BA.cell]; simpa using h
   obtain ⟨hx, HHX⟩ : ∃ hx, Hid (hx = txB (hexL d)) := ⟨_, rfl⟩; have hBy := hown.by_ (by have := HL2.out.2; omega)
   have HCV : Hid (∀ W, Below wz.heap.size wz W → (convert 72 9 (.slice A l.length c)).run Tryz.prog W = .ok (.string hx) W) := by
    intro W hb; obtain ⟨b9, o9, hA9⟩ := hBy.2.2.2.2 (by have := hBy.2.1; have := HL2.out.2; omega); subst hA9; have hc := run_convert_bytes_back (P := Tryz.prog) W 72 9 5 ⟨b9, o9, none⟩ c (l.map UInt8.ofNat) Tryz.underlying72 Tryz.underlying5 Tryz.underlying9 ?_
    ·rw [List.length_map] at hc; rw [hc, HHX.out, ← HL2.out.1]; rfl
    ·intro j hj; rw [List.length_map] at hj; obtain ⟨b8, o8, n8, e8, hc8, hn8, hg8⟩ := hBy.get (by omega : j < l.length); injection e8 with e8; injection e8 with e81 e82; subst e81 e82; have e : (⟨b9, o9, none⟩ : Addr).add j = ⟨b9, o9 + j, none⟩ := by unfold Addr.add; split <;> simp_all
     rw [e, cell_keep hb hc8]
     have h9 : l[j] = n8 := by
      have h := hg8.out; rw [List.getElem?_eq_getElem hj] at h; injection h
     rw [List.getElem_map, h9]; simp [UInt8.toNat_ofNat, Nat.mod_eq_of_lt hn8]
   have hlen32 : l.length = 32 := HL2.out.2; rw [hlen32] at HCV ⊢; obtain ⟨pl, HPL⟩ : ∃ pl, Hid (placeS p.wh s2 = pl) := ⟨_, rfl⟩; obtain ⟨cs, HCS⟩ : ∃ cs : Array Value, Hid (cs = #[.string { data := #[116, 101, 97, 109] }, .string s1, .string { data := #[112, 114, 111, 109, 105, 115, 101, 115, 32, 116, 104, 97, 116] }, .string p.test, .string { data := #[102, 97, 105, 108, 115, 32, 97, 116] }, .string pl, .string { data := #[119, 105, 116, 104, 32, 97, 116, 32, 109, 111, 115, 116] }, .string bd, .string { data := #[102, 114, 111, 109] }, .string s3, .string { data := #[117, 110, 116, 105, 108] }, .string s4, .string { data := #[119, 104, 105, 108, 101] }, .string hx]) := ⟨_, rfl⟩; clear hown hBy HL HL2 hlen32; go_upto_region 11 with fail; refine region_invF (PhiPr11 w.heap.size p bd s1 s2 s3 s4 pl hx A 32 c cs) (fun w w' => Below w.heap.size w w') (fun X => Below wz.heap.size wz X) (by kernel_rfl) (by kernel_rfl) (by kernel_rfl) PhiPr11.keep (fun _ _ hR hS => Below.tr hS hR) (bD _) (fun vs => by simp only [fillR, Act.put, sA, sB, sC, Nat.zero_add, Nat.reduceAdd]; rfl) ?_ ?_
   ·refine sK ?_ (sK ?_ (sK ?_ (sK ?_ (sK ?_ (sK ?_ (sK ?_ (sK ?_ (sK ?_ (sK ?_ (sK ?_ (sK ?_ (sK ?_ (sK ?_ (sK ?_ (sK ?_ (sK ?_ (sK ?_ (sZ))))))))))))))))))
    ·as_aux_lemma =>
     intro vs W hS hdep K hK; refine ⟨?_⟩; simp only [Act.put, sA, sB, sC, Nat.zero_add, Nat.reduceAdd] at hK ⊢; go_simp; with_reducible refine hK _ _ (Below.refl _ _) ?_
     exact rfl
    ·as_aux_lemma =>
     intro vs W hS hdep K hK; have d0 := hdep ⟨0, .data⟩ (by simp) rfl; simp only [PhiPr11] at d0; have f1 := cell_keep hS b0; refine ⟨?_⟩; simp only [Act.put, sA, sB, sC, Nat.zero_add, Nat.reduceAdd, d0] at hK ⊢; go_simp; with_reducible refine hK _ _ (Below.refl _ _) ?_
     exact rfl
    ·as_aux_lemma =>
     intro vs W hS hdep K hK; have d0 := hdep ⟨1, .data⟩ (by simp) rfl; simp only [PhiPr11] at d0; refine ⟨?_⟩; simp only [Act.put, sA, sB, sC, Nat.zero_add, Nat.reduceAdd, d0] at hK ⊢; go_simp; refine (H1.out.2 _ hS).mono ?_; rintro e w' ⟨rfl, hb⟩; go_wp2_with fail; with_reducible refine hK _ _ hb ?_
     exact rfl
    ·as_aux_lemma =>
     intro vs W hS hdep K hK; refine ⟨?_⟩; simp only [Act.put, sA, sB, sC, Nat.zero_add, Nat.reduceAdd] at hK ⊢; go_simp; with_reducible refine hK _ _ (Below.refl _ _) ?_
     exact rfl
    ·as_aux_lemma =>
     intro vs W hS hdep K hK; have d0 := hdep ⟨3, .data⟩ (by simp) rfl; simp only [PhiPr11] at d0; have f1 := cell_keep hS b1; refine ⟨?_⟩; simp only [Act.put, sA, sB, sC, Nat.zero_add, Nat.reduceAdd, d0] at hK ⊢; go_simp; with_reducible refine hK _ _ (Below.refl _ _) ?_
     exact rfl
    ·as_aux_lemma =>
     intro vs W hS hdep K hK; refine ⟨?_⟩; simp only [Act.put, sA, sB, sC, Nat.zero_add, Nat.reduceAdd] at hK ⊢; rw [if_pos (by rfl)]; refine wp_load_mid 33 (.tmp 1) (by rfl) w.heap.size (0) (by rfl) (cellsP p) _ (range_keep hS HCP.out) Tryz.underlying33 (by rfl) infoP ?_; simp only [Act.put, sA, sB, sC]; with_reducible refine hK _ _ (Below.refl _ _) ?_
     exact rfl
    ·as_aux_lemma =>
     intro vs W hS hdep K hK; have d0 := hdep ⟨5, .data⟩ (by simp) rfl; simp only [PhiPr11] at d0; refine ⟨?_⟩; simp only [Act.put, sA, sB, sC, Nat.zero_add, Nat.reduceAdd, d0] at hK ⊢; go_simp; refine (place_n p s2 _ hwh (H2.out.below hS)).mono ?_; rintro e w' ⟨rfl, hb⟩; go_wp2_with fail; with_reducible refine hK _ _ hb ?_
     exact by rw [HPL.out]; exact rfl
    ·as_aux_lemma =>
     intro vs W hS hdep K hK; refine ⟨?_⟩; simp only [Act.put, sA, sB, sC, Nat.zero_add, Nat.reduceAdd] at hK ⊢; go_simp; with_reducible refine hK _ _ (Below.refl _ _) ?_
     exact rfl
    ·as_aux_lemma =>
     intro vs W hS hdep K hK; refine ⟨?_⟩; simp only [Act.put, sA, sB, sC, Nat.zero_add, Nat.reduceAdd] at hK ⊢; go_simp; with_reducible refine hK _ _ (Below.refl _ _) ?_
     exact rfl
    ·as_aux_lemma =>
     intro vs W hS hdep K hK; have d0 := hdep ⟨8, .data⟩ (by simp) rfl; simp only [PhiPr11] at d0; have f1 := cell_keep hS b6; refine ⟨?_⟩; simp only [Act.put, sA, sB, sC, Nat.zero_add, Nat.reduceAdd, d0] at hK ⊢; go_simp; with_reducible refine hK _ _ (Below.refl _ _) ?_
     exact rfl
    ·as_aux_lemma =>
     intro vs W hS hdep K hK; have d0 := hdep ⟨9, .data⟩ (by simp) rfl; simp only [PhiPr11] at d0; refine ⟨?_⟩; simp only [Act.put, sA, sB, sC, Nat.zero_add, Nat.reduceAdd, d0] at hK ⊢; go_simp; refine (H3.out.2 _ hS).mono ?_; rintro e w' ⟨rfl, hb⟩; go_wp2_with fail; with_reducible refine hK _ _ hb ?_
     exact rfl
    ·as_aux_lemma =>
     intro vs W hS hdep K hK; refine ⟨?_⟩; simp only [Act.put, sA, sB, sC, Nat.zero_add, Nat.reduceAdd] at hK ⊢; go_simp; with_reducible refine hK _ _ (Below.refl _ _) ?_
     exact rfl
    ·as_aux_lemma =>
     intro vs W hS hdep K hK; have d0 := hdep ⟨11, .data⟩ (by simp) rfl; simp only [PhiPr11] at d0; have f1 := cell_keep hS b7; refine ⟨?_⟩; simp only [Act.put, sA, sB, sC, Nat.zero_add, Nat.reduceAdd, d0] at hK ⊢; go_simp; with_reducible refine hK _ _ (Below.refl _ _) ?_
     exact rfl
    ·as_aux_lemma =>
     intro vs W hS hdep K hK; have d0 := hdep ⟨12, .data⟩ (by simp) rfl; simp only [PhiPr11] at d0; refine ⟨?_⟩; simp only [Act.put, sA, sB, sC, Nat.zero_add, Nat.reduceAdd, d0] at hK ⊢; go_simp; refine (H4.out.2 _ hS).mono ?_; rintro e w' ⟨rfl, hb⟩; go_wp2_with fail; with_reducible refine hK _ _ hb ?_
     exact rfl
    ·as_aux_lemma =>
     intro vs W hS hdep K hK; refine ⟨?_⟩; simp only [Act.put, sA, sB, sC, Nat.zero_add, Nat.reduceAdd] at hK ⊢; go_simp; with_reducible refine hK _ _ (Below.refl _ _) ?_
     exact rfl
    ·as_aux_lemma =>
     intro vs W hS hdep K hK; have d0 := hdep ⟨14, .data⟩ (by simp) rfl; simp only [PhiPr11] at d0; have q1 := HCV.out W hS; refine ⟨?_⟩; simp only [Act.put, sA, sB, sC, Nat.zero_add, Nat.reduceAdd, d0] at hK ⊢; go_simp; with_reducible refine hK _ _ (Below.refl _ _) ?_
     exact rfl
    ·as_aux_lemma =>
     intro vs W hS hdep K hK; have d0 := hdep ⟨2, .data⟩ (by simp) rfl; simp only [PhiPr11] at d0; have d1 := hdep ⟨4, .data⟩ (by simp) rfl; simp only [PhiPr11] at d1; have d2 := hdep ⟨6, .data⟩ (by simp) rfl; simp only [PhiPr11] at d2; have d3 := hdep ⟨7, .data⟩ (by simp) rfl; simp only [PhiPr11] at d3; have d4 := hdep ⟨10, .data⟩ (by simp) rfl; simp only [PhiPr11] at d4; have d5 := hdep ⟨13, .data⟩ (by simp) rfl; simp only [PhiPr11] at d5; have d6 := hdep ⟨15, .data⟩ (by simp) rfl; simp only [PhiPr11] at d6; refine ⟨?_⟩; simp only [Act.put, sA, sB, sC, Nat.zero_add, Nat.reduceAdd, d0, d1, d2, d3, d4, d5, d6] at hK ⊢; rw [if_pos (by rfl)]; refine wp_sliceN 49 9 14 [(0, .const (.string { data := #[116, 101, 97, 109] })), (1, .tmp 39), (2, .const (.string { data := #[112, 114, 111, 109, 105, 115, 101, 115, 32, 116, 104, 97, 116] })), (3, .tmp 41), (4, .const (.string { data := #[102, 97, 105, 108, 115, 32, 97, 116] })), (5, .tmp 43), (6, .const (.string { data := #[119, 105, 116, 104, 32, 97, 116, 32, 109, 111, 115, 116] })), (7, .tmp 44), (8, .const (.string { data := #[102, 114, 111, 109] })), (9, .tmp 47), (10, .const (.string { data := #[117, 110, 116, 105, 108] })), (11, .tmp 50), (12, .const (.string { data := #[119, 104, 105, 108, 101] })), (13, .tmp 52)] rfl cs iS (.string { data := #[] }) 1 [(0, .string { data := #[116, 101, 97, 109] }), (1, .string s1), (2, .string { data := #[112, 114, 111, 109, 105, 115, 101, 115, 32, 116, 104, 97, 116] }), (3, .string p.test), (4, .string { data := #[102, 97, 105, 108, 115, 32, 97, 116] }), (5, .string pl), (6, .string { data := #[119, 105, 116, 104, 32, 97, 116, 32, 109, 111, 115, 116] }), (7, .string bd), (8, .string { data := #[102, 114, 111, 109] }), (9, .string s3), (10, .string { data := #[117, 110, 116, 105, 108] }), (11, .string s4), (12, .string { data := #[119, 104, 105, 108, 101] }), (13, .string hx)] Tryz.underlying49 hiS hzS hzS1 (by omega) (by omega) rfl (HCS.out ▸ fill_s14 _ _ _ _ _ _ _ _ _ _ _ _ _ _) ?_
     simp only [Act.put, sA, sB, sC]; with_reducible refine hK _ _ (bA _ _) ?_
     exact ⟨_, rfl, Blk.new _ _ _⟩
    ·as_aux_lemma =>
     intro vs W hS hdep K hK; have d0 := hdep ⟨16, .data⟩ (by simp) rfl; simp only [PhiPr11] at d0; refine @exE1 _ _ _ d0 ?_; clear d0; intro g0 d0; have e0 := d0.1; have k0 := d0.2; clear d0; refine ⟨?_⟩; simp only [Act.put, sA, sB, sC, Nat.zero_add, Nat.reduceAdd, e0] at hK ⊢; go_simp; with_reducible refine hK _ _ (Below.refl _ _) ?_
     exact ⟨_, rfl, k0⟩
   ·intro vs W2 hS hv; have u7 := hv 17 (by simp); simp only [PhiPr11] at u7; obtain ⟨gw, u7, hBk⟩ := u7; simp only [Act.put, sA, sB, sC, Nat.zero_add, Nat.reduceAdd, u7]; clear u7 hv b0 b1 b6 b7 HCP HCV; have hbw := Below.tr hbw hS; have hbk : gw < W2.heap.size := hBk.lt
    have HXS : Hid (joinP (wordsP p bd s1 s2 s3 s4 d) = ⟨(Lib.join ([⟨#[116, 101, 97, 109]⟩, s1, ⟨#[112, 114, 111, 109, 105, 115, 101, 115, 32, 116, 104, 97, 116]⟩, p.test, ⟨#[102, 97, 105, 108, 115, 32, 97, 116]⟩, pl, ⟨#[119, 105, 116, 104, 32, 97, 116, 32, 109, 111, 115, 116]⟩, bd, ⟨#[102, 114, 111, 109]⟩, s3, ⟨#[117, 110, 116, 105, 108]⟩, s4, ⟨#[119, 104, 105, 108, 101]⟩, hx].map (fun x : ByteArray => x.data.toList)) [32]).toArray⟩) := by
     show _ = _
     rw [HHX.out, ← HPL.out]; rfl
    obtain ⟨xs, HX⟩ : ∃ xs : List ByteArray, Hid (xs = [⟨#[116, 101, 97, 109]⟩, s1, ⟨#[112, 114, 111, 109, 105, 115, 101, 115, 32, 116, 104, 97, 116]⟩, p.test, ⟨#[102, 97, 105, 108, 115, 32, 97, 116]⟩, pl, ⟨#[119, 105, 116, 104, 32, 97, 116, 32, 109, 111, 115, 116]⟩, bd, ⟨#[102, 114, 111, 109]⟩, s3, ⟨#[117, 110, 116, 105, 108]⟩, s4, ⟨#[119, 104, 105, 108, 101]⟩, hx]) := ⟨_, rfl⟩; rw [← HX.out] at HXS; have hxl : xs.length = 14 := by rw [HX.out]; rfl
    have hcells : ∀ (j : Nat) x, xs[j]? = some x → W2.cell? ⟨gw, 0 + j, none⟩ = some (.string x) := by
     intro j x hj; rw [Nat.zero_add, hBk.cell, HCS.out]; rw [HX.out] at hj; have h1 := (List.getElem?_eq_some_iff.1 hj).1
     rcases j with _ | _ | _ | _ | _ | _ | _ | _ | _ | _ | _ | _ | _ | _ | j
     all_goals first
      | (simp only [List.getElem?_cons_zero, List.getElem?_cons_succ, Option.some.injEq] at hj; subst hj; rfl)
      | (exfalso; simp at h1; omega)
    have hpls : pl.size ≤ 300 := by
     rw [← HPL.out]; unfold placeS; have := H2.out.1
     split
     ·decide
     ·rw [ByteArray.size_append, ByteArray.size_append]; have e : slB.size = 1 := rfl; omega
    have hhx : hx.size = 32 := by
     rw [HHX.out]
     show ((hexL d).map UInt8.ofNat).toArray.size = 32
     rw [List.size_toArray, List.length_map, hexL_len, HDG.out.2]
    have hjl : (Lib.join (xs.map (fun x : ByteArray => x.data.toList)) [32]).length ≤ 140737488355328 := by
     refine Nat.le_trans (join_len _ 3000 fun x hx1 => ?_) (by rw [List.length_map, hxl]; omega); obtain ⟨z, hz, rfl⟩ := List.mem_map.1 hx1
     show z.data.toList.length ≤ 3000
     have hsz : z.data.toList.length = z.size := by rw [Array.length_toList]; rfl
     rw [hsz]; rw [HX.out] at hz; have g1 := H1.out.1; have g3 := H3.out.1; have g4 := H4.out.1; have g5 := hbd.out.2; simp only [List.mem_cons, List.not_mem_nil, or_false] at hz
     rcases hz with rfl | rfl | rfl | rfl | rfl | rfl | rfl | rfl | rfl | rfl | rfl | rfl | rfl | rfl
     all_goals first | omega | (exact Nat.le_trans (by decide) (Nat.le_refl 3000))
    have HJ := Lib.hid (Tryz.strings_Join gw 0 14 xs ⟨#[32]⟩ W2 hcells hbk (by omega) (by omega) hjl); rw [hxl] at HJ; clear hcells hjl hbk hBk HCS; go_wp2_with fail; refine HJ.out.mono ?_; rintro e w6 ⟨rfl, hb6⟩; go_wp2_with fail
    go_ret2
    exact ⟨by rw [HXS.out]; rfl, Below.tr hbw hb6⟩

end Go.Proofs.YtijkfagkbfbpmaaGreatDoor
namespace Go.Proofs.YtijkfagkbfbpmaaGreatDoor
open Go Go.RowKit
def pcF (team : Int) (b1 b2 : Value) (fr un : Int) : PC := ⟨team, ⟨#[116, 48]⟩, ⟨#[112, 48]⟩, 2, b1, b2, fr, un, .int .u8 0, .int .u8 0, .int .u8 0, .int .u8 0, .int .u8 0, .int .u8 0, .int .u8 0, .int .u8 0, .int .u8 0, .int .u8 0, .int .u8 0, .int .u8 0, .int .u8 0, .int .u8 0, .int .u8 0, .int .u8 0⟩
/-- the promises of the examples -/
def exF (a a' b b' : Value) : List PC := [pcF 1 a a' 10 90, pcF 2 b b' 50 60]
set_option maxRecDepth 100000 in
set_option maxHeartbeats 2000000 in
theorem example34_n (w : World) :
  Calls Tryz.prog 54 #[] w fun e w' => ∃ g a a' b b', e = .returned (.slice (some ⟨g, 0, none⟩) 2 2) ∧ RowS cellsP w' (some ⟨g, 0, none⟩) 2 (exF a a' b b') ∧ Rat w' (.agg #[a, a']) 1 8 ∧ Rat w' (.agg #[b, b']) 1 4 ∧ Hid (Nm.Good 1 8 ∧ Nm.Good 1 4) ∧ Below w.heap.size w w' := by
 obtain ⟨i0, hi0, hz0, hz1, hz2⟩ := info_parts info_promV
 go_enter Tryz.func54, Tryz.ntmps54
 go_wp2_with fail; refine (rof_s 1 8 _ (by omega) (by omega) (by omega)).mono ?_; rintro e w1 ⟨A1, k1, c1, A1', k1', c1', rfl, hR1, hb1⟩; go_upto_region 2 with fail; refine wp_name ?_; intro w2 HW2; have hb2 : Below w1.heap.size w1 w2 := by rw [HW2.out]; exact bA _ _
 have B1 : Blk w2 w1.heap.size 29 #[.slice A1 k1 c1, .slice A1' k1' c1'] := by rw [HW2.out]; exact Blk.new _ _ _
 obtain ⟨g1, hg1⟩ : ∃ g, Hid (g = w1.heap.size) := ⟨_, rfl⟩; rw [← hg1.out] at B1 ⊢; have HG1 := Lib.hid (hR1.to (a := 1) (b := 8) (by decide) (by decide)).2; have hR1 := (hR1.to (a := 1) (b := 8) (by decide) (by decide)).1.below hb2; have hbw := Below.tr hb1 hb2; clear hb1 hb2 HW2; go_wp2_with fail; refine (rof_s 1 4 _ (by omega) (by omega) (by omega)).mono ?_; rintro e w3 ⟨A2, k2, c2, A2', k2', c2', rfl, hR2, hb3⟩; go_upto_region 3 with fail; refine wp_name ?_; intro w4 HW4; have hb4 : Below w3.heap.size w3 w4 := by rw [HW4.out]; exact bA _ _
 have B2 : Blk w4 w3.heap.size 29 #[.slice A2 k2 c2, .slice A2' k2' c2'] := by rw [HW4.out]; exact Blk.new _ _ _
 obtain ⟨g2, hg2⟩ : ∃ g, Hid (g = w3.heap.size) := ⟨_, rfl⟩; rw [← hg2.out] at B2 ⊢; have B1 := (B1.below hb3 B1.lt).below hb4 (Nat.lt_of_lt_of_le B1.lt hb3.size); have HG2 := Lib.hid (hR2.to (a := 1) (b := 4) (by decide) (by decide)).2; have hR2 := (hR2.to (a := 1) (b := 4) (by decide) (by decide)).1.below hb4; have hR1 := (hR1.below hb3).below hb4; have hbw := Below.tr hbw (Below.tr hb3 hb4); have f1 := B1.cell 0; have f2 := B1.cell 1; have f3 := B2.cell 0; have f4 := B2.cell 1; simp only [List.getElem?_toArray, List.getElem?_cons_zero, List.getElem?_cons_succ] at f1 f2 f3 f4; clear hb3 hb4 HW4 B1 B2
 go_wp2_with (first | (refine wpList_sliceN rfl 23 33 2 [(0, .tmp 14), (1, .tmp 16)] rfl (cellsP (pcF 1 (.slice A1 k1 c1) (.slice A1' k1' c1') 10 90) ++ cellsP (pcF 2 (.slice A2 k2 c2) (.slice A2' k2' c2') 50 60)).toArray i0 zeroPV 24 [(0, .agg (cellsP (pcF 1 (.slice A1 k1 c1) (.slice A1' k1' c1') 10 90)).toArray), (1, .agg (cellsP (pcF 2 (.slice A2 k2 c2) (.slice A2' k2' c2') 50 60)).toArray)] Tryz.underlying23 hi0 hz0 hz1 (by omega) (by omega) rfl (fill_prom2 _ _) ?_; simp only [Act.put, sA, sB, sC]))
 go_ret; have hbA := bA w4 (.cells (cellsP (pcF 1 (.slice A1 k1 c1) (.slice A1' k1' c1') 10 90) ++ cellsP (pcF 2 (.slice A2 k2 c2) (.slice A2' k2' c2') 50 60)).toArray 33); exact ⟨w4.heap.size, .slice A1 k1 c1, .slice A1' k1' c1', .slice A2 k2 c2, .slice A2' k2' c2', rfl, ⟨Rd.fresh w4 33 ((exF (.slice A1 k1 c1) (.slice A1' k1' c1') (.slice A2 k2 c2) (.slice A2' k2' c2')).flatMap cellsP), rfl, by omega⟩, hR1.below hbA, hR2.below hbA, ⟨HG1.out, HG2.out⟩, Below.tr hbw hbA⟩
def z16 : List Int := List.replicate 16 0
def LfE (i : Nat) : List Nat × List Nat := if i = 0 then ([1], [8]) else ([1], [4])
theorem lb_d (n : Nat) (h0 : n ≠ 0) (h : n < 4294967296) : Nm.lb n = [n] := Nm.lb_small h0 h
theorem dn_d (n : Nat) (h0 : 1 < n) (h : n < 4294967296) : Nm.lb (Nm.dn n) = [n] := by rw [Nm.dn_ne (by omega)]; exact lb_d n (by omega) h
theorem exF_esc {w : World} {a a' b b' : Value} (h1 : Rat w (.agg #[a, a']) 1 8) (h2 : Rat w (.agg #[b, b']) 1 4) : EscOk w (exF a a' b b') LfE := by
 have e1 := rtl_rat h1; have e2 := rtl_rat h2; rw [lb_d 1 (by omega) (by omega), dn_d 8 (by omega) (by omega)] at e1; rw [lb_d 1 (by omega) (by omega), dn_d 4 (by omega) (by omega)] at e2; intro n p hp
 rcases n with _ | _ | n
 ·injection hp with hp; subst hp; exact ⟨e1, by show (2 : Nat) ≤ _; omega, by show (2 : Nat) ≤ _; omega⟩
 ·injection hp with hp; subst hp; exact ⟨e2, by show (2 : Nat) ≤ _; omega, by show (2 : Nat) ≤ _; omega⟩
 ·cases hp
theorem exF_nb (team : Int) (b1 b2 : Value) (fr un : Int) (x y : Nat) (h : x ≤ y) (h1 : 0 ≤ team ∧ team < 4) (h2 : 0 ≤ fr ∧ fr < un ∧ un ≤ 1048576) : ¬ pBad x y (pcF team b1 b2 fr un) := by
 have w1 : wordB ⟨#[116, 48]⟩ = true := by decide
 have w2 : wordB ⟨#[112, 48]⟩ = true := by decide
 have w3 : (⟨#[112, 48]⟩ : ByteArray).toList.isEmpty = false := by rw [ByteArray.toList_eq]; rfl
 unfold pBad; simp only [pcF]; rintro (e | e | e | e | ⟨_, e⟩ | e | e | ⟨e, _⟩ | e | e | e)
 ·omega
 ·omega
 ·omega
 ·rw [w1] at e; cases e
 ·rw [w2] at e; cases e
 ·omega
 ·omega
 ·rw [w3] at e; cases e
 ·omega
 ·omega
 ·omega
theorem exF_pv {a a' b b' : Value} (h : Nm.Good 1 8 ∧ Nm.Good 1 4) : ∀ (n : Nat) p, (exF a a' b b')[n]? = some p → PVal p (LfE n).1 (LfE n).2 0 := by
 intro n p hp
 rcases n with _ | _ | n
 ·injection hp with hp; subst hp; exact .inr ⟨1, 8, (lb_d 1 (by omega) (by omega)).symm, (dn_d 8 (by omega) (by omega)).symm, h.1, pE_ok (exF_nb _ _ _ _ _ _ _ (by omega) (by omega) (by omega))⟩
 ·injection hp with hp; subst hp; exact .inr ⟨1, 4, (lb_d 1 (by omega) (by omega)).symm, (dn_d 4 (by omega) (by omega)).symm, h.2, pE_ok (exF_nb _ _ _ _ _ _ _ (by omega) (by omega) (by omega))⟩
 ·cases hp
theorem exF_dg {a a' b b' : Value} : ∀ (n : Nat) p, (exF a a' b b')[n]? = some p → DgOk (pdg p) z16 := by
 intro n p hp
 rcases n with _ | _ | n
 ·injection hp with hp; subst hp; exact ⟨rfl, rfl⟩
 ·injection hp with hp; subst hp; exact ⟨rfl, rfl⟩
 ·cases hp
/-- what holds of the examples' list -/
structure ExOk (w : World) (g : Nat) (a a' b b' : Value) : Prop where
 row : RowS cellsP w (some ⟨g, 0, none⟩) 2 (exF a a' b b')
 r1 : Rat w (.agg #[a, a']) 1 8
 r2 : Rat w (.agg #[b, b']) 1 4
 gd : Nm.Good 1 8 ∧ Nm.Good 1 4
theorem ExOk.below {w w' : World} {g : Nat} {a a' b b' : Value} (h : ExOk w g a a' b b') (hb : Below w.heap.size w w') : ExOk w' g a a' b b' := ⟨h.row.below hb, h.r1.below hb, h.r2.below hb, h.gd⟩
theorem ExOk.pls {w : World} {g : Nat} {a a' b b' : Value} (h : ExOk w g a a' b b') : PLs w (some ⟨g, 0, none⟩) 2 (exF a a' b b') LfE (fun _ => 0) (fun _ => z16) :=
 ⟨h.row, exF_esc h.r1 h.r2, exF_pv h.gd, exF_dg⟩
theorem lst_n (g : Nat) (a a' b b' : Value) (t : Int) (d : DG) (dm br : List Int) (A : Option Addr) (k c : Nat) (s : Int) (w : World) (h : ExOk w g a a' b b') (hd : DgOk (cellsDG d) dm) (hbr : RowS intC w A k br) (hs : Hid (stF t dm br (fun _ => 0) LfE (fun _ => z16) (exF a a' b b') 0 = s)) :
  Calls Tryz.prog 14 #[.slice (some ⟨g, 0, none⟩) 2 2, .int .i64 0, .int .i64 t, .agg (cellsDG d).toArray, .slice A k c] w fun e w' => e = .returned (.tuple #[.int .i64 s, .int .i64 0]) ∧ Below w.heap.size w w' := by
 have hp := h.pls; refine (state_n (some ⟨g, 0, none⟩) 2 2 0 (mmOf t d A k c) (exF a a' b b') LfE (fun _ => 0) (fun _ => z16) dm br w hp.row hp.esc hp.pv hp.dk hd hbr).mono ?_; rintro e w' ⟨s', er, rfl, HS, hb⟩
 rcases HS.out with ⟨h1, _⟩ | ⟨n, h1, h2, h3⟩
 ·omega
 ·have hn : n = 0 := by omega
  subst hn
  rcases h3 with ⟨h4, _⟩ | ⟨_, h4, h5⟩
  ·exact absurd rfl h4
  ·rw [h4, h5]; have := hs.out; exact ⟨by rw [← this]; rfl, hb⟩
theorem st_9 (a a' b b' : Value) : stF 9 z16 [] (fun _ => 0) LfE (fun _ => z16) (exF a a' b b') 0 = 1 := by kernel_rfl
theorem st_10 (a a' b b' : Value) : stF 10 z16 [] (fun _ => 0) LfE (fun _ => z16) (exF a a' b b') 0 = 0 := by kernel_rfl
theorem st_50 (a a' b b' : Value) : stF 50 z16 [] (fun _ => 0) LfE (fun _ => z16) (exF a a' b b') 0 = 5 := by kernel_rfl
theorem st_60 (a a' b b' : Value) : stF 60 z16 [] (fun _ => 0) LfE (fun _ => z16) (exF a a' b b') 0 = 0 := by kernel_rfl
theorem st_90 (a a' b b' : Value) : stF 90 z16 [] (fun _ => 0) LfE (fun _ => z16) (exF a a' b b') 0 = 2 := by kernel_rfl
theorem st_b (a a' b b' : Value) : stF 50 z16 [1] (fun _ => 0) LfE (fun _ => z16) (exF a a' b b') 0 = 0 := by kernel_rfl
theorem st_c (a a' b b' : Value) : stF 50 (1 :: List.replicate 15 0) [] (fun _ => 0) LfE (fun _ => z16) (exF a a' b b') 0 = 3 := by kernel_rfl
theorem cl_1 (a a' b b' : Value) : clList (clA (fun _ => 0) LfE (fun _ => z16) (exF a a' b b')) 2 2 = [(0, 1)] := by kernel_rfl
end Go.Proofs.YtijkfagkbfbpmaaGreatDoor
namespace Go.Proofs.YtijkfagkbfbpmaaGreatDoor
open Go Go.RowKit
theorem itoa_sm (w : World) (n : Nat) (hn : n < 100) (s : ByteArray) (hs : (⟨(Lib.decDigits n).toArray⟩ : ByteArray) = s) (h1 : s.size ≤ 100) : ItoaS w (n : Int) s := by
 refine ⟨h1, fun W _ => ?_⟩; refine (Tryz.strconv_Itoa_small n hn W).mono ?_; rintro e w' ⟨rfl, rfl⟩; exact ⟨by rw [hs], Below.refl _ _⟩
theorem dd_1 (n : Nat) (h : n < 10) : Lib.decDigits n = [UInt8.ofNat (48 + n)] := by rw [Lib.decDigits, dif_pos h]
theorem dd_2 (n : Nat) (h : 10 ≤ n) (h2 : n < 100) : Lib.decDigits n = [UInt8.ofNat (48 + n / 10), UInt8.ofNat (48 + n % 10)] := by
 rw [Lib.decDigits, dif_neg (by omega), dd_1 _ (by omega)]; rfl
theorem rat18 : ratS 1 8 = ⟨#[49, 47, 56]⟩ := by
 have e1 : Nm.decS 1 = { data := #[49] } := by unfold Nm.decS; rw [Nm.decD_small (by omega)]; rfl
 have e2 : Nm.decS 8 = { data := #[56] } := by unfold Nm.decS; rw [Nm.decD_small (by omega)]; rfl
 unfold ratS; rw [if_neg (by omega), e1, e2]; rfl
def exTx : ByteArray := { data := ([116, 101, 97, 109, 32, 49, 32, 112, 114, 111, 109, 105, 115, 101, 115, 32, 116, 104, 97, 116, 32, 116, 48, 32, 102, 97, 105, 108, 115, 32, 97, 116, 32, 112, 48, 47, 50, 32, 119, 105, 116, 104, 32, 97, 116, 32, 109, 111, 115, 116, 32, 49, 47, 56, 32].append [102, 114, 111, 109, 32, 49, 48, 32, 117, 110, 116, 105, 108, 32, 57, 48, 32, 119, 104, 105, 108, 101, 32, 48, 48, 48, 48, 48, 48, 48, 48, 48, 48, 48, 48, 48, 48, 48, 48, 48, 48, 48, 48, 48, 48, 48, 48, 48, 48, 48, 48, 48, 48, 48, 48]).toArray }
theorem ex_text (a a' : Value) : joinP (wordsP (pcF 1 a a' 10 90) ⟨#[49, 47, 56]⟩ ⟨#[49]⟩ ⟨#[50]⟩ ⟨#[49, 48]⟩ ⟨#[57, 48]⟩ z16) = exTx := by kernel_rfl
theorem lpr_n (g : Nat) (a a' b b' : Value) (w : World) (h : ExOk w g a a' b b') :
  Calls Tryz.prog 47 #[.agg (cellsP (pcF 1 a a' 10 90)).toArray] w fun e w' => e = .returned (.tuple #[.string exTx, .int .i64 0]) ∧ Below w.heap.size w w' := by
 refine (print_n (pcF 1 a a' 10 90) 1 8 z16 ⟨#[49]⟩ ⟨#[50]⟩ ⟨#[49, 48]⟩ ⟨#[57, 48]⟩ w h.r1 h.gd.1 (exF_nb _ _ _ _ _ _ _ (by omega) (by omega) (by omega)) (by show (2 : Nat) ≤ _; omega) (by show (2 : Nat) ≤ _; omega) ⟨rfl, rfl⟩ (fun x hx => by rw [List.eq_of_mem_replicate hx]; exact ⟨by omega, by omega⟩)
  (itoa_sm w 1 (by omega) _ (by rw [dd_1 1 (by omega)]; rfl) (by show (1 : Nat) ≤ _; omega)) (itoa_sm w 2 (by omega) _ (by rw [dd_1 2 (by omega)]; rfl) (by show (1 : Nat) ≤ _; omega))
  (itoa_sm w 10 (by omega) _ (by rw [dd_2 10 (by omega) (by omega)]; rfl) (by show (2 : Nat) ≤ _; omega)) (itoa_sm w 90 (by omega) _ (by rw [dd_2 90 (by omega) (by omega)]; rfl) (by show (2 : Nat) ≤ _; omega)) ⟨#[49, 47, 56]⟩ ⟨rat18, by show (3 : Nat) ≤ _; omega⟩).mono ?_
 rintro e w' ⟨rfl, hb⟩; exact ⟨by rw [ex_text], hb⟩
def ticksA : Array Value := #[.int .i64 9, .int .i64 10, .int .i64 50, .int .i64 60, .int .i64 90]
def wantA : Array Value := #[.int .i64 1, .int .i64 0, .int .i64 5, .int .i64 0, .int .i64 2]
theorem lv_at (a a' b b' : Value) {i : Nat} (h : i < 5) : ∃ t s : Int, ticksA[i]? = some (.int .i64 t) ∧ wantA[i]? = some (.int .i64 s) ∧ stF t z16 [] (fun _ => 0) LfE (fun _ => z16) (exF a a' b b') 0 = s := by
 have hc : i = 0 ∨ i = 1 ∨ i = 2 ∨ i = 3 ∨ i = 4 := by omega
 rcases hc with rfl | rfl | rfl | rfl | rfl
 ·exact ⟨9, 1, rfl, rfl, st_9 ..⟩
 ·exact ⟨10, 0, rfl, rfl, st_10 ..⟩
 ·exact ⟨50, 5, rfl, rfl, st_50 ..⟩
 ·exact ⟨60, 0, rfl, rfl, st_60 ..⟩
 ·exact ⟨90, 2, rfl, rfl, st_90 ..⟩
def oneDG : DG := ⟨.int .u8 1, .int .u8 0, .int .u8 0, .int .u8 0, .int .u8 0, .int .u8 0, .int .u8 0, .int .u8 0, .int .u8 0, .int .u8 0, .int .u8 0, .int .u8 0, .int .u8 0, .int .u8 0, .int .u8 0, .int .u8 0⟩
theorem row_none (w : World) (c : Nat) : RowS intC w none 0 [] := ⟨fun h => absurd rfl h, rfl, by omega⟩
set_option maxRecDepth 100000 in
set_option maxHeartbeats 8000000 in
theorem lives34_n (w : World) :
  Calls Tryz.prog 16 #[] w fun e w' => e = .returned (.bool true) ∧ Below w.heap.size w w' := by
 go_enter Tryz.func16, Tryz.ntmps16
 go_wp2_with fail; refine (example34_n _).mono ?_; rintro e w1 ⟨g, a, a', b, b', rfl, hrow, hr1, hr2, HGD, hb1⟩; have HEX : Hid (ExOk w1 g a a' b b') := ⟨hrow, hr1, hr2, HGD.out⟩; have hbw := hb1; obtain ⟨bg, og, hA, HC0⟩ := hrow.at_ cellsP_len (by omega) (by omega : 0 < 2) (by show 0 < 2; omega); injection hA with hA; injection hA with hA1 hA2; subst hA1 hA2; clear hrow hr1 hr2 hb1 HGD
 go_upto_region 3 with (first | (refine wpList_load_mid rfl 33 (.tmp 17) rfl g (0 + 0 * 24) rfl (cellsP (pcF 1 a a' 10 90)) _ (fun j v h => HC0.out j v h) Tryz.underlying33 rfl infoP ?_; simp only [Act.put, sA, sB, sC]))
 refine (lpr_n g a a' b b' _ HEX.out).mono ?_; rintro e w2 ⟨rfl, hb2⟩; have hbw := Below.tr hbw hb2; have HEX := Lib.hid (HEX.out.below hb2); obtain ⟨S, HS⟩ : ∃ S, Hid (S = exTx) := ⟨_, rfl⟩; rw [← HS.out]; clear hb2 HC0; go_upto_region 5 with fail; refine wp_name ?_; intro w5 HW5; have hb5 : Below w2.heap.size w2 w5 := by rw [HW5.out]; exact Below.tr (bA _ _) (bA _ _)
 have BT : Blk w5 w2.heap.size 3 ticksA := by rw [HW5.out]; exact (Blk.new _ _ _).alloc _
 have BW : Blk w5 (w2.heap.size + 1) 3 wantA := by
  rw [HW5.out]; have h := Blk.new (w2.alloc (.cells ticksA 3)) 3 wantA; rw [show (w2.alloc (.cells ticksA 3)).heap.size = w2.heap.size + 1 by simp] at h; exact h
 obtain ⟨gT, hgT⟩ : ∃ g, Hid (g = w2.heap.size) := ⟨_, rfl⟩; obtain ⟨gW, hgW⟩ : ∃ g, Hid (g = w2.heap.size + 1) := ⟨_, rfl⟩; rw [← hgW.out] at BW ⊢; rw [← hgT.out] at BT ⊢; have hbw := Below.tr hbw hb5; have HEX := Lib.hid (HEX.out.below hb5); clear HW5 hb5 hgT hgW; go_wp2_with fail
 go_loopg [6] 5 (fun mm x wr => ∃ i : Nat, x = .int .i64 i ∧ i + mm = 5 ∧ Below w5.heap.size w5 wr)
 case atStart => exact ⟨0, rfl, rfl, Below.refl _ _⟩
 case round =>
  obtain ⟨G, hG⟩ : ∃ G, G = gk := ⟨gk, rfl⟩; subst hG; obtain ⟨i, rfl, him, hbe⟩ := hrel; by_cases hi : i < 5
  ·have t1 : decide ((i : Int) < 5) = true := by simp; omega
   have li : (i : Int) < 5 := by omega
   obtain ⟨t, s, ht, hs, hst⟩ := lv_at a a' b b' hi; have HST := Lib.hid hst; have hct : wr.cell? ⟨gT, i, none⟩ = some (.int .i64 t) := cell_keep hbe (by rw [BT.cell]; exact ht); have hcw : wr.cell? ⟨gW, i, none⟩ = some (.int .i64 s) := cell_keep hbe (by rw [BW.cell]; exact hs); clear ht hs hst; go_wp2_with fail; refine (lst_n g a a' b b' t zeroDG z16 [] none 0 0 s _ (HEX.out.below hbe) ⟨rfl, rfl⟩ (row_none _ 0) HST).mono ?_; rintro e w6 ⟨rfl, hb6⟩; have hcw := cell_keep hb6 hcw; have hbe := Below.tr hbe hb6; have t2 : (s != s) = false := by simp
   clear hct HST hb6; go_wp2_with fail
   go_roundg (G - 1)
   case measure => omega
   case rel => exact ⟨i + 1, by go_num, by omega, hbe⟩
  ·have t1 : decide ((i : Int) < 5) = false := by simp; omega
   have hbw := Below.tr hbw hbe; have HEX := Lib.hid (HEX.out.below hbe); clear BT BW; go_wp2_with fail; refine calls_name ?_; intro w7 HW7; have hb7 : Below wr.heap.size wr w7 := by rw [HW7.out]; exact bA _ _
   have B1 : Blk w7 wr.heap.size 3 #[.int .i64 1] := by rw [HW7.out]; exact Blk.new _ _ _
   have hbr : RowS intC w7 (some ⟨wr.heap.size, 0, none⟩) 1 [1] := ⟨rd_blk B1, rfl, by omega⟩; have hbw := Below.tr hbw hb7; have HEX := Lib.hid (HEX.out.below hb7); refine (lst_n g a a' b b' 50 zeroDG z16 [1] _ 1 1 0 _ HEX.out ⟨rfl, rfl⟩ hbr (st_b ..)).mono ?_; rintro e w8 ⟨rfl, hb8⟩; have hbw := Below.tr hbw hb8; have HEX := Lib.hid (HEX.out.below hb8); clear HW7 hb7 B1 hbr hb8 hbe; go_wp2_with fail; refine (lst_n g a a' b b' 50 oneDG (1 :: List.replicate 15 0) [] none 0 0 3 _ HEX.out ⟨rfl, rfl⟩ (row_none _ 0) (st_c ..)).mono ?_; rintro e w9 ⟨rfl, hb9⟩; have hbw := Below.tr hbw hb9; have HEX := Lib.hid (HEX.out.below hb9); clear hb9; go_wp2_with fail; refine (clashes_n _ 2 2 _ _ _ _ _ HEX.out.pls (by omega)).mono ?_; rintro e w10 ⟨Ac, kc, cc, rfl, hrc, hb10⟩; rw [cl_1] at hrc; obtain rfl : kc = 1 := hrc.2.1; have hbw := Below.tr hbw hb10; clear hrc hb10 HEX; rw [HS.out]; unfold exTx; go_wp2_with fail; go_ret; exact ⟨rfl, hbw⟩
end Go.Proofs.YtijkfagkbfbpmaaGreatDoor
namespace Go.Proofs.YtijkfagkbfbpmaaGreatDoor
open Go Go.RowKit
theorem prom_goodM {p : PC} (h : PromOk p) {a b : Nat} (hab : a ≤ b) : ¬ pBad a b p := by
 obtain ⟨team, t, h, site, fr, un, d, A1, k1, c1, A2, k2, c2, rfl, h1, ht, hh, h4, h5, h6, h7, h8, _⟩ := h; have w1 : wordB t = true := by rcases ht with rfl | rfl | rfl <;> decide
 have w2 : h.toList.isEmpty = false → wordB h = true := by
  rw [ByteArray.toList_eq]
  rcases hh with rfl | rfl | rfl <;> intro e <;> first | decide | (exact absurd e (by decide))
 have w3 : h.toList.isEmpty = true → site = 0 := by
  rw [ByteArray.toList_eq]; intro e
  rcases hh with rfl | rfl | rfl
  ·exact absurd e (by decide)
  ·exact absurd e (by decide)
  ·exact h5 rfl
 unfold pBad; simp only [promV]; rintro (e | e | e | e | ⟨e1, e2⟩ | e | e | ⟨e1, e2⟩ | e | e | e)
 ·omega
 ·omega
 ·omega
 ·rw [w1] at e; cases e
 ·rw [w2 e1] at e2; cases e2
 ·omega
 ·omega
 ·exact e2 (by rw [w3 e1]; rfl)
 ·omega
 ·omega
 ·omega
def LfM (bd : Nat → Nat × Nat) (i : Nat) : List Nat × List Nat := (Nm.lb (bd i).1, Nm.lb (Nm.dn (bd i).2))
theorem psok_ls {w : World} {ps : List PC} {bd : Nat → Nat × Nat} (h : PsOk w ps bd) : LsW w ps (LfM bd) := by
 intro n p hp; obtain ⟨k1, k2, k3, k4, k5⟩ := h n p hp; exact ⟨k1.pd k2 k3, by have := k3.fits.1; unfold LfM; simp only; omega, by have := k3.fits.2; unfold LfM; simp only; omega⟩
theorem psok_pv {w : World} {ps : List PC} {bd : Nat → Nat × Nat} (h : PsOk w ps bd) : ∀ (n : Nat) p, ps[n]? = some p → PVal p (LfM bd n).1 (LfM bd n).2 0 := by
 intro n p hp; obtain ⟨k1, k2, k3, k4, k5⟩ := h n p hp; exact .inr ⟨_, _, rfl, rfl, k3, pE_ok (prom_goodM k1 k4)⟩
end Go.Proofs.YtijkfagkbfbpmaaGreatDoor
namespace Go.Proofs.YtijkfagkbfbpmaaGreatDoor
open Go Go.RowKit
theorem list_ex {w : World} {ps : List PC} {bd : Nat → Nat × Nat} {b q : PC} (h1 : PsOk w ps bd) (h2 : PDN w b 69) (h3 : PDN w q 69) : ∃ Lf, LsW w (ps ++ [b, q]) Lf ∧ ∀ (n : Nat) p, (ps ++ [b, q])[n]? = some p → n + 2 < (ps ++ [b, q]).length → PVal p (Lf n).1 (Lf n).2 0 := by
 obtain ⟨Lf, hL⟩ := idx_choice (l := ps ++ [b, q]) (R := fun n p (L : List Nat × List Nat) => (PD w p L.1 L.2 ∧ L.1.length ≤ 69 ∧ L.2.length ≤ 69) ∧ (n + 2 < (ps ++ [b, q]).length → PVal p L.1 L.2 0)) (by
  intro n p hp; by_cases hn : n < ps.length
  ·rw [List.getElem?_append_left hn] at hp; have h4 := psok_ls h1 n p hp; exact ⟨LfM bd n, h4, fun _ => psok_pv h1 n p hp⟩
  ·have hlen : (ps ++ [b, q]).length = ps.length + 2 := by simp
   have hl := (List.getElem?_eq_some_iff.1 hp).1; rw [List.getElem?_append_right (by omega)] at hp; have hc : n - ps.length = 0 ∨ n - ps.length = 1 := by omega
   rcases hc with hc | hc
   ·rw [hc] at hp; injection hp with hp; subst hp; obtain ⟨L, hL⟩ := h2.esc; exact ⟨L, hL, fun h => (by omega)⟩
   ·rw [hc] at hp; injection hp with hp; subst hp; obtain ⟨L, hL⟩ := h3.esc
    exact ⟨L, hL, fun h => (by omega)⟩)
 exact ⟨Lf, fun n p hp => (hL n p hp).1, fun n p hp => (hL n p hp).2⟩
theorem list_pls {w : World} {A : Option Addr} {k : Nat} {ps : List PC} {bd : Nat → Nat × Nat} {b q : PC} (hr : RowS cellsP w A k (ps ++ [b, q])) (h1 : PsOk w ps bd) (h2 : PDN w b 69) (h3 : PDN w q 69) : ∃ Lf Ev dg, LsW w (ps ++ [b, q]) Lf ∧ PLs w A k (ps ++ [b, q]) Lf Ev dg ∧ ∀ n, n + 2 < k → Ev n = 0 := by
 obtain ⟨Lf, hL, hv⟩ := list_ex h1 h2 h3; obtain ⟨Ev, dg, hp⟩ := pls_ex hr hL; refine ⟨Lf, Ev, dg, hL, hp, fun n hn => ?_⟩; have hk : k = (ps ++ [b, q]).length := hr.2.1; have hnl : n < (ps ++ [b, q]).length := by omega
 exact (hp.pv n _ (List.getElem?_eq_getElem hnl)).uniq (hv n _ (List.getElem?_eq_getElem hnl) (by omega))
end Go.Proofs.YtijkfagkbfbpmaaGreatDoor
namespace Go.Proofs.YtijkfagkbfbpmaaGreatDoor
open Go Go.RowKit
end Go.Proofs.YtijkfagkbfbpmaaGreatDoor
