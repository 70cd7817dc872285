import Derived.Test.YticobffjnjbjiaaKGdbProof18
import Derived.Test.YticobffjnjbjiaaJ15
import Derived.Test.YticobffjnjbjiaaJ16
import Derived.Test.YticobffjnjbjiaaS0
set_option linter.unusedVariables false
set_option linter.unusedSimpArgs false
namespace Go.Proofs.Yticobffjnjbjiaa
open Go Go.RowKit
theorem RtL.setB {w : World} {v : Value} {l1 l2 : List Nat} {g i : Nat} {T : TypeId} {arr : Array Value} (h : RtL w v l1 l2) (hb : Blk w g T arr) (hn : NoU arr) (u : Value) : RtL (w.setCell ⟨g, i, none⟩ u) v l1 l2 := by
 obtain ⟨A1, k1, c1, A2, k2, c2, rfl, h1, h2, e1, e2⟩ := h; exact ⟨A1, k1, c1, A2, k2, c2, rfl, h1.setB hb hn u, h2.setB hb hn u, e1, e2⟩
theorem RtL.setsB {v : Value} {l1 l2 : List Nat} {g : Nat} {T : TypeId} : ∀ (us : List Value) (o : Nat) {w : World} {arr : Array Value}, RtL w v l1 l2 → Blk w g T arr → NoU arr → (∀ u ∈ us, ∀ n, u ≠ .int .u32 n) → RtL (w.setCells g o us) v l1 l2
 | [], _, _, _, h, _, _, _ => h
 | u :: us, o, _, _, h, hb, hn, hu => RtL.setsB us (o + 1) (h.setB hb hn u) (hb.set_ o u) (hn.set (hu u (List.mem_cons_self ..))) fun x hx => hu x (List.mem_cons_of_mem _ hx)
/-- a promise by its fields, the digest's bytes as bytes -/
def promD (team : Int) (t h : ByteArray) (site : Int) (b1 b2 : Value) (fr un : Int) (r0 r1 r2 r3 r4 r5 r6 r7 r8 r9 r10 r11 r12 r13 r14 r15 : Int) : PC := ⟨team, t, h, site, b1, b2, fr, un, .int .u8 r0, .int .u8 r1, .int .u8 r2, .int .u8 r3, .int .u8 r4, .int .u8 r5, .int .u8 r6, .int .u8 r7, .int .u8 r8, .int .u8 r9, .int .u8 r10, .int .u8 r11, .int .u8 r12, .int .u8 r13, .int .u8 r14, .int .u8 r15⟩
theorem promD_no {team site fr un r0 r1 r2 r3 r4 r5 r6 r7 r8 r9 r10 r11 r12 r13 r14 r15 : Int} {t h : ByteArray} {A1 A2 : Option Addr} {k1 c1 k2 c2 : Nat} : ∀ u ∈ cellsP (promD team t h site (.slice A1 k1 c1) (.slice A2 k2 c2) fr un r0 r1 r2 r3 r4 r5 r6 r7 r8 r9 r10 r11 r12 r13 r14 r15), ∀ n, u ≠ .int .u32 n := by
 intro u hu n e; subst e; simp [cellsP, promD] at hu
theorem promD_noU {team site fr un r0 r1 r2 r3 r4 r5 r6 r7 r8 r9 r10 r11 r12 r13 r14 r15 : Int} {t h : ByteArray} {A1 A2 : Option Addr} {k1 c1 k2 c2 : Nat} : NoU (cellsP (promD team t h site (.slice A1 k1 c1) (.slice A2 k2 c2) fr un r0 r1 r2 r3 r4 r5 r6 r7 r8 r9 r10 r11 r12 r13 r14 r15)).toArray := by
 intro i n e; exact promD_no _ (List.mem_of_getElem? (by simpa using e)) n rfl
theorem promD_one {team site fr un r0 r1 r2 r3 r4 r5 r6 r7 r8 r9 r10 r11 r12 r13 r14 r15 : Int} {t h : ByteArray} {A1 A2 : Option Addr} {k1 c1 k2 c2 : Nat} : ∀ v ∈ cellsP (promD team t h site (.slice A1 k1 c1) (.slice A2 k2 c2) fr un r0 r1 r2 r3 r4 r5 r6 r7 r8 r9 r10 r11 r12 r13 r14 r15), v.oneCell' = true := by
 intro v hv; simp only [cellsP, promD, List.mem_cons, List.not_mem_nil, or_false] at hv
 rcases hv with rfl | rfl | rfl | rfl | rfl | rfl | rfl | rfl | rfl | rfl | rfl | rfl | rfl | rfl | rfl | rfl | rfl | rfl | rfl | rfl | rfl | rfl | rfl | rfl <;> rfl
theorem tdiv9_bd (n : Int) (h1 : -9223372036854775808 ≤ n) (h2 : n ≤ 9223372036854775807) : -9223372036854775808 ≤ n.tdiv 9 ∧ n.tdiv 9 ≤ 9223372036854775807 := by
 rcases Int.le_total 0 n with h | h
 ·rw [Int.tdiv_eq_ediv_of_nonneg h]; omega
 ·obtain ⟨m, rfl⟩ : ∃ m, n = -m := ⟨-n, by omega⟩; rw [Int.neg_tdiv, Int.tdiv_eq_ediv_of_nonneg (by omega)]; omega
theorem tdiv3_bd' (n : Int) (h1 : -9223372036854775808 ≤ n) (h2 : n ≤ 9223372036854775807) : -9223372036854775808 ≤ n.tdiv 3 ∧ n.tdiv 3 ≤ 9223372036854775807 := by
 rcases Int.le_total 0 n with h | h
 ·rw [Int.tdiv_eq_ediv_of_nonneg h]; omega
 ·obtain ⟨m, rfl⟩ : ∃ m, n = -m := ⟨-n, by omega⟩; rw [Int.neg_tdiv, Int.tdiv_eq_ediv_of_nonneg (by omega)]; omega
theorem rtl_rat {w : World} {v : Value} {p q : Nat} (h : Rat w v p q) : RtL w v (Nm.lb p) (Nm.lb (Nm.dn q)) := by
 obtain ⟨A1, k1, c1, A2, k2, c2, rfl, h1, h2⟩ := h; exact ⟨A1, k1, c1, A2, k2, c2, rfl, h1.2, h2.2, h1.1, h2.1⟩
def intsA (b : Int) : Array Value := #[.int .i64 (-1), .int .i64 0, .int .i64 1, .int .i64 3, .int .i64 4, .int .i64 511, .int .i64 512, .int .i64 1048576, .int .i64 1048577, .int .i64 b]
def strsA : Array Value := #[.string ⟨#[]⟩, .string ⟨#[116, 48]⟩, .string ⟨#[45]⟩, .string ⟨#[97, 49]⟩, .string ⟨#[49, 97]⟩, .string ⟨#[65]⟩, .string ⟨#[116, 32, 48]⟩, .string ⟨#[97, 98, 99, 100, 101, 102, 103, 104, 105, 106, 107, 108, 109, 110, 111, 112]⟩, .string ⟨#[97, 98, 99, 100, 101, 102, 103, 104, 105, 106, 107, 108, 109, 110, 111, 112, 113]⟩]
theorem fill_ints {b : Int} : Instr.fill (fun i => some (i * 1, 1)) ((Array.range (10 * 1)).map ((Value.int .i64 0).cells[· % (Value.int .i64 0).cells.size]!)) [(0, .int .i64 (-1)), (1, .int .i64 0), (2, .int .i64 1), (3, .int .i64 3), (4, .int .i64 4), (5, .int .i64 511), (6, .int .i64 512), (7, .int .i64 1048576), (8, .int .i64 1048577), (9, .int .i64 b)] = some (intsA b) := by kernel_rfl
theorem fill_strs : Instr.fill (fun i => some (i * 1, 1)) ((Array.range (9 * 1)).map ((Value.string ⟨#[]⟩).cells[· % (Value.string ⟨#[]⟩).cells.size]!)) [(0, .string ⟨#[]⟩), (1, .string ⟨#[116, 48]⟩), (2, .string ⟨#[45]⟩), (3, .string ⟨#[97, 49]⟩), (4, .string ⟨#[49, 97]⟩), (5, .string ⟨#[65]⟩), (6, .string ⟨#[116, 32, 48]⟩), (7, .string ⟨#[97, 98, 99, 100, 101, 102, 103, 104, 105, 106, 107, 108, 109, 110, 111, 112]⟩), (8, .string ⟨#[97, 98, 99, 100, 101, 102, 103, 104, 105, 106, 107, 108, 109, 110, 111, 112, 113]⟩)] = some strsA := by kernel_rfl
theorem intsA_at {b : Int} {k : Nat} (h : k < 10) : ∃ v : Int, (intsA b)[k]? = some (.int .i64 v) := by
 have hc : k = 0 ∨ k = 1 ∨ k = 2 ∨ k = 3 ∨ k = 4 ∨ k = 5 ∨ k = 6 ∨ k = 7 ∨ k = 8 ∨ k = 9 := by omega
 rcases hc with rfl | rfl | rfl | rfl | rfl | rfl | rfl | rfl | rfl | rfl <;> exact ⟨_, rfl⟩
theorem strsA_at {k : Nat} (h : k < 9) : ∃ s : ByteArray, strsA[k]? = some (.string s) ∧ s.size ≤ 100 := by
 have hc : k = 0 ∨ k = 1 ∨ k = 2 ∨ k = 3 ∨ k = 4 ∨ k = 5 ∨ k = 6 ∨ k = 7 ∨ k = 8 := by omega
 rcases hc with rfl | rfl | rfl | rfl | rfl | rfl | rfl | rfl | rfl <;> exact ⟨_, rfl, by decide⟩
theorem zeroP_noU : NoU (cellsP (promV 0 ⟨#[]⟩ ⟨#[]⟩ 0 (.slice none 0 0) (.slice none 0 0) 0 0 0)).toArray := promV_noU
theorem infoP_len {p : PC} : (Try.prog.info? 53).map (·.size) = some (cellsP p).length := by kernel_rfl
set_option maxRecDepth 100000 in
set_option maxHeartbeats 1000000 in
theorem sp34_n (team : Int) (t h : ByteArray) (site : Int) (A1 : Option Addr) (k1 c1 : Nat) (A2 : Option Addr) (k2 c2 : Nat) (fr un : Int) (r0 r1 r2 r3 r4 r5 r6 r7 r8 r9 r10 r11 r12 r13 r14 r15 : Int) (a b : Nat) (how by_ : Int) (w : World) (hra : Rat w (.agg #[.slice A1 k1 c1, .slice A2 k2 c2]) a b) (ga : Nm.Good a b) (hs1 : t.size ≤ 100) (hs2 : h.size ≤ 100) (i1 : -9223372036854775808 ≤ how) (i2 : how ≤ 9223372036854775807) (i3 : -9223372036854775808 ≤ by_) (i4 : by_ ≤ 9223372036854775807) :
  Calls Try.prog 41 #[.agg (cellsP (promD team t h site (.slice A1 k1 c1) (.slice A2 k2 c2) fr un r0 r1 r2 r3 r4 r5 r6 r7 r8 r9 r10 r11 r12 r13 r14 r15)).toArray, .int .i64 how, .int .i64 by_] w fun e w' => ∃ (p' : PC) (L1 L2 : List Nat), e = .returned (.agg (cellsP p').toArray) ∧ RtL w' (.agg #[p'.b1, p'.b2]) L1 L2 ∧ p'.test.size ≤ 100 ∧ p'.wh.size ≤ 100 ∧ (∀ v ∈ cellsP p', v.oneCell' = true) ∧ (∀ v ∈ cellsP p', NoL v) ∧ Below w.heap.size w w' := by
 obtain ⟨PA, HPA⟩ : ∃ PA : Array Value, Hid (PA = (cellsP (promD team t h site (.slice A1 k1 c1) (.slice A2 k2 c2) fr un r0 r1 r2 r3 r4 r5 r6 r7 r8 r9 r10 r11 r12 r13 r14 r15)).toArray) := ⟨_, rfl⟩; obtain ⟨ZA, HZA⟩ : ∃ ZA : Array Value, Hid (ZA = (cellsP (promV 0 ⟨#[]⟩ ⟨#[]⟩ 0 (.slice none 0 0) (.slice none 0 0) 0 0 0)).toArray) := ⟨_, rfl⟩; have HPU : Hid (NoU PA) := by rw [HPA.out]; exact promD_noU
 have HZU : Hid (NoU ZA) := by rw [HZA.out]; exact zeroP_noU
 have HZS : Hid (ZA.size = 24) := by show _ = _; rw [HZA.out]; rfl
 rw [← HPA.out]
 go_enter Try.func41, Try.ntmps41
 go_upto_region 1 with fail; refine wp_name ?_; intro w1 HW1; have hb1 : Below w.heap.size w w1 := by rw [HW1.out]; exact Below.tr (bA _ _) (bA _ _)
 have B3 : Blk w1 w.heap.size 53 PA := by rw [HW1.out]; exact (Blk.new _ _ _).alloc _
 have B6 : Blk w1 (w.heap.size + 1) 53 ZA := by
  rw [HW1.out]; have h := Blk.new (w.alloc (.cells PA 53)) 53 ZA; rw [show (w.alloc (.cells PA 53)).heap.size = w.heap.size + 1 by simp, HZA.out] at h; rw [HZA.out]; exact h
 clear HW1; have hra1 := hra.below hb1
 go_cut [7] from 9 to 14 (fun u wx => (∃ n : Int, u = .int .i64 n) ∧ Below w1.heap.size w1 wx)
 case first => as_aux_lemma =>
  clear hra hra1 B3 B6 hb1; obtain ⟨i0, hi0, hz0, hz1, hz2⟩ := info_parts info_int
  go_wp2_with (first | (refine wpList_sliceN rfl 35 3 10 [(0, .const (.int .i64 (-1))), (1, .const (.int .i64 0)), (2, .const (.int .i64 1)), (3, .const (.int .i64 3)), (4, .const (.int .i64 4)), (5, .const (.int .i64 511)), (6, .const (.int .i64 512)), (7, .const (.int .i64 1048576)), (8, .const (.int .i64 1048577)), (9, .tmp 9)] rfl (intsA by_) i0 (.int .i64 0) 1 [(0, .int .i64 (-1)), (1, .int .i64 0), (2, .int .i64 1), (3, .int .i64 3), (4, .int .i64 4), (5, .int .i64 511), (6, .int .i64 512), (7, .int .i64 1048576), (8, .int .i64 1048577), (9, .int .i64 by_)] Try.underlying35 hi0 hz0 hz1 (by omega) (by omega) (by rfl) fill_ints ?_))
  refine calls_name ?_; intro W5 HW5; have hb5 : Below w1.heap.size w1 W5 := by rw [HW5.out]; exact bA _ _
  have BX : Blk W5 w1.heap.size 3 (intsA by_) := by rw [HW5.out]; exact Blk.new _ _ _
  clear HW5; refine (around_n by_ 10 _ i3 i4 (by omega) (by omega)).mono ?_; rintro e w' ⟨kk, rfl, hkk, _, rfl⟩; have lk : (kk : Int) < 10 := by omega
  obtain ⟨v, hv⟩ := intsA_at (b := by_) hkk; have hcv : W5.cell? ⟨w1.heap.size, kk, none⟩ = some (.int .i64 v) := by rw [BX.cell]; exact hv
  clear BX hv; go_wp2_with fail
  go_meet
  case rel => exact ⟨⟨_, rfl⟩, hb5⟩
 obtain ⟨⟨n, rfl⟩, hb2⟩ := hcut; have B3 := Blk.below B3 hb2 B3.lt; have B6 := Blk.below B6 hb2 B6.lt; have hra2 := hra1.below hb2; have hb12 := Below.tr hb1 hb2; clear hb1 hb2 hra1; go_upto_region 2 with fail; obtain ⟨w2, hw2⟩ : ∃ x, x = wc := ⟨_, rfl⟩; subst hw2
 go_cut [8] from 15 to 19 (fun u wx => (∃ s : ByteArray, u = .string s ∧ s.size ≤ 100) ∧ Below w2.heap.size w2 wx)
 case first => as_aux_lemma =>
  clear hra hra2 B3 B6 hb12; obtain ⟨i0, hi0, hz0, hz1, hz2⟩ := info_parts info_str
  go_wp2_with (first | (refine wpList_sliceN rfl 40 9 9 [(0, .const (.string ⟨#[]⟩)), (1, .const (.string ⟨#[116, 48]⟩)), (2, .const (.string ⟨#[45]⟩)), (3, .const (.string ⟨#[97, 49]⟩)), (4, .const (.string ⟨#[49, 97]⟩)), (5, .const (.string ⟨#[65]⟩)), (6, .const (.string ⟨#[116, 32, 48]⟩)), (7, .const (.string ⟨#[97, 98, 99, 100, 101, 102, 103, 104, 105, 106, 107, 108, 109, 110, 111, 112]⟩)), (8, .const (.string ⟨#[97, 98, 99, 100, 101, 102, 103, 104, 105, 106, 107, 108, 109, 110, 111, 112, 113]⟩))] rfl strsA i0 (.string ⟨#[]⟩) 1 [(0, .string ⟨#[]⟩), (1, .string ⟨#[116, 48]⟩), (2, .string ⟨#[45]⟩), (3, .string ⟨#[97, 49]⟩), (4, .string ⟨#[49, 97]⟩), (5, .string ⟨#[65]⟩), (6, .string ⟨#[116, 32, 48]⟩), (7, .string ⟨#[97, 98, 99, 100, 101, 102, 103, 104, 105, 106, 107, 108, 109, 110, 111, 112]⟩), (8, .string ⟨#[97, 98, 99, 100, 101, 102, 103, 104, 105, 106, 107, 108, 109, 110, 111, 112, 113]⟩)] Try.underlying40 hi0 hz0 hz1 (by omega) (by omega) (by rfl) fill_strs ?_))
  refine calls_name ?_; intro W5 HW5; have hb5 : Below w2.heap.size w2 W5 := by rw [HW5.out]; exact bA _ _
  have BX : Blk W5 w2.heap.size 9 strsA := by rw [HW5.out]; exact Blk.new _ _ _
  clear HW5; refine (around_n by_ 9 _ i3 i4 (by omega) (by omega)).mono ?_; rintro e w' ⟨kk, rfl, hkk, _, rfl⟩; have lk : (kk : Int) < 9 := by omega
  obtain ⟨v, hv, hvs⟩ := strsA_at hkk; have hcv : W5.cell? ⟨w2.heap.size, kk, none⟩ = some (.string v) := by rw [BX.cell]; exact hv
  have HVS := Lib.hid hvs; clear BX hv hvs; go_wp2_with fail
  go_meet
  case rel => exact ⟨⟨_, rfl, HVS.out⟩, hb5⟩
 obtain ⟨⟨s, rfl, hss⟩, hb3⟩ := hcut; obtain ⟨w3, hw3⟩ : ∃ x, x = wc := ⟨_, rfl⟩; subst hw3; have B3 := Blk.below B3 hb3 B3.lt; have B6 := Blk.below B6 hb3 B6.lt; have hra3 := hra2.below hb3; have hbe := Below.tr hb12 hb3; clear hb12 hb3 hra2; have hrl := rtl_rat hra3; go_wp2_with fail; refine (around_n how 9 _ i1 i2 (by omega) (by omega)).mono ?_; rintro e w' ⟨z, rfl, hz, _, rfl⟩; clear i1 i2; by_cases z0 : z = 0
 ·as_aux_lemma =>
   subst z0; have f1 := B3.frozen 0; have f2 := B3.cell 0; rw [HPA.out] at f2; simp only [cellsP, promD] at f2; simp only [List.getElem?_toArray, List.getElem?_cons_zero, List.getElem?_cons_succ] at f2; have HB3 := Lib.hid B3; clear B3; go_upto_region 21 with fail; refine wp_name ?_; intro W4 HW4; have e4 : W4 = w3.setCell ⟨w.heap.size, 0, none⟩ (.int .i64 n) := HW4.out; have BG : Blk W4 w.heap.size 53 (cellsP (promD n t h site (.slice A1 k1 c1) (.slice A2 k2 c2) fr un r0 r1 r2 r3 r4 r5 r6 r7 r8 r9 r10 r11 r12 r13 r14 r15)).toArray := by rw [e4]; have h := Blk.set_ HB3.out 0 (.int .i64 n); rw [HPA.out] at h; exact h
   have B6z : Blk W4 (w.heap.size + 1) 53 ZA := by rw [e4]; exact B6.far (p := ⟨w.heap.size, 0, none⟩) (by show w.heap.size + 1 ≠ w.heap.size; omega) _
   have hr4 : RtL W4 (.agg #[.slice A1 k1 c1, .slice A2 k2 c2]) (Nm.lb a) (Nm.lb (Nm.dn b)) := by rw [e4]; exact hrl.setB HB3.out HPU.out _
   have hb4 : Below w.heap.size w W4 := by rw [e4]; exact hbe.setCell (p := ⟨w.heap.size, 0, none⟩) (Nat.le_refl _) _
   clear e4 HW4 f1 f2 B6 hrl hra3 hbe; have hF : Blk (W4.setCells (w.heap.size + 1) 0 (cellsP (promD n t h site (.slice A1 k1 c1) (.slice A2 k2 c2) fr un r0 r1 r2 r3 r4 r5 r6 r7 r8 r9 r10 r11 r12 r13 r14 r15)).toArray.toList) (w.heap.size + 1) 53 (cellsP (promD n t h site (.slice A1 k1 c1) (.slice A2 k2 c2) fr un r0 r1 r2 r3 r4 r5 r6 r7 r8 r9 r10 r11 r12 r13 r14 r15)).toArray := Blk.setAll B6z (by rw [HZS.out]; rfl); have hrz := RtL.setsB (cellsP (promD n t h site (.slice A1 k1 c1) (.slice A2 k2 c2) fr un r0 r1 r2 r3 r4 r5 r6 r7 r8 r9 r10 r11 r12 r13 r14 r15)).toArray.toList 0 hr4 B6z HZU.out (by rw [List.toList_toArray]; exact promD_no); have hbz := below_setAll (g := w.heap.size + 1) (by omega) (cellsP (promD n t h site (.slice A1 k1 c1) (.slice A2 k2 c2) fr un r0 r1 r2 r3 r4 r5 r6 r7 r8 r9 r10 r11 r12 r13 r14 r15)).toArray.toList 0 hb4
   go_wp2_with (first | (refine wpList_load_mid rfl 53 (.tmp 3) rfl w.heap.size 0 rfl (cellsP (promD n t h site (.slice A1 k1 c1) (.slice A2 k2 c2) fr un r0 r1 r2 r3 r4 r5 r6 r7 r8 r9 r10 r11 r12 r13 r14 r15)) _ (Blk.range BG) Try.underlying53 rfl (infoP_len (p := (promD n t h site (.slice A1 k1 c1) (.slice A2 k2 c2) fr un r0 r1 r2 r3 r4 r5 r6 r7 r8 r9 r10 r11 r12 r13 r14 r15))) ?_; simp only [Act.put, sA, sB, sC]) | (refine wpList_store_mid rfl 53 (.tmp 6) (.tmp 70) rfl (w.heap.size + 1) 0 (cellsP (promD n t h site (.slice A1 k1 c1) (.slice A2 k2 c2) fr un r0 r1 r2 r3 r4 r5 r6 r7 r8 r9 r10 r11 r12 r13 r14 r15)).toArray rfl rfl (Blk.there B6z HZS.out) (infoP24 (p := (promD n t h site (.slice A1 k1 c1) (.slice A2 k2 c2) fr un r0 r1 r2 r3 r4 r5 r6 r7 r8 r9 r10 r11 r12 r13 r14 r15))) (all_oneCell_toArray promD_one) ?_))
   (try simp only [Exit.inBlock, Exit.then])
   exact bodyPost_ret (results_prom rfl rfl hF rfl) rfl ⟨(promD n t h site (.slice A1 k1 c1) (.slice A2 k2 c2) fr un r0 r1 r2 r3 r4 r5 r6 r7 r8 r9 r10 r11 r12 r13 r14 r15), rfl, ⟨_, _, hrz⟩, hs1, hs2, promD_one, promD_no, hbz⟩
 ·skip
  by_cases z1 : z = 1
  ·as_aux_lemma =>
    subst z1; have f1 := B3.frozen 1; have f2 := B3.cell 1; rw [HPA.out] at f2; simp only [cellsP, promD] at f2; simp only [List.getElem?_toArray, List.getElem?_cons_zero, List.getElem?_cons_succ] at f2; have HB3 := Lib.hid B3; clear B3; go_upto_region 21 with fail; refine wp_name ?_; intro W4 HW4; have e4 : W4 = w3.setCell ⟨w.heap.size, 1, none⟩ (.string s) := HW4.out; have BG : Blk W4 w.heap.size 53 (cellsP (promD team s h site (.slice A1 k1 c1) (.slice A2 k2 c2) fr un r0 r1 r2 r3 r4 r5 r6 r7 r8 r9 r10 r11 r12 r13 r14 r15)).toArray := by rw [e4]; have h := Blk.set_ HB3.out 1 (.string s); rw [HPA.out] at h; exact h
    have B6z : Blk W4 (w.heap.size + 1) 53 ZA := by rw [e4]; exact B6.far (p := ⟨w.heap.size, 1, none⟩) (by show w.heap.size + 1 ≠ w.heap.size; omega) _
    have hr4 : RtL W4 (.agg #[.slice A1 k1 c1, .slice A2 k2 c2]) (Nm.lb a) (Nm.lb (Nm.dn b)) := by rw [e4]; exact hrl.setB HB3.out HPU.out _
    have hb4 : Below w.heap.size w W4 := by rw [e4]; exact hbe.setCell (p := ⟨w.heap.size, 1, none⟩) (Nat.le_refl _) _
    clear e4 HW4 f1 f2 B6 hrl hra3 hbe; have hF : Blk (W4.setCells (w.heap.size + 1) 0 (cellsP (promD team s h site (.slice A1 k1 c1) (.slice A2 k2 c2) fr un r0 r1 r2 r3 r4 r5 r6 r7 r8 r9 r10 r11 r12 r13 r14 r15)).toArray.toList) (w.heap.size + 1) 53 (cellsP (promD team s h site (.slice A1 k1 c1) (.slice A2 k2 c2) fr un r0 r1 r2 r3 r4 r5 r6 r7 r8 r9 r10 r11 r12 r13 r14 r15)).toArray := Blk.setAll B6z (by rw [HZS.out]; rfl); have hrz := RtL.setsB (cellsP (promD team s h site (.slice A1 k1 c1) (.slice A2 k2 c2) fr un r0 r1 r2 r3 r4 r5 r6 r7 r8 r9 r10 r11 r12 r13 r14 r15)).toArray.toList 0 hr4 B6z HZU.out (by rw [List.toList_toArray]; exact promD_no); have hbz := below_setAll (g := w.heap.size + 1) (by omega) (cellsP (promD team s h site (.slice A1 k1 c1) (.slice A2 k2 c2) fr un r0 r1 r2 r3 r4 r5 r6 r7 r8 r9 r10 r11 r12 r13 r14 r15)).toArray.toList 0 hb4
    go_wp2_with (first | (refine wpList_load_mid rfl 53 (.tmp 3) rfl w.heap.size 0 rfl (cellsP (promD team s h site (.slice A1 k1 c1) (.slice A2 k2 c2) fr un r0 r1 r2 r3 r4 r5 r6 r7 r8 r9 r10 r11 r12 r13 r14 r15)) _ (Blk.range BG) Try.underlying53 rfl (infoP_len (p := (promD team s h site (.slice A1 k1 c1) (.slice A2 k2 c2) fr un r0 r1 r2 r3 r4 r5 r6 r7 r8 r9 r10 r11 r12 r13 r14 r15))) ?_; simp only [Act.put, sA, sB, sC]) | (refine wpList_store_mid rfl 53 (.tmp 6) (.tmp 70) rfl (w.heap.size + 1) 0 (cellsP (promD team s h site (.slice A1 k1 c1) (.slice A2 k2 c2) fr un r0 r1 r2 r3 r4 r5 r6 r7 r8 r9 r10 r11 r12 r13 r14 r15)).toArray rfl rfl (Blk.there B6z HZS.out) (infoP24 (p := (promD team s h site (.slice A1 k1 c1) (.slice A2 k2 c2) fr un r0 r1 r2 r3 r4 r5 r6 r7 r8 r9 r10 r11 r12 r13 r14 r15))) (all_oneCell_toArray promD_one) ?_))
    (try simp only [Exit.inBlock, Exit.then])
    exact bodyPost_ret (results_prom rfl rfl hF rfl) rfl ⟨(promD team s h site (.slice A1 k1 c1) (.slice A2 k2 c2) fr un r0 r1 r2 r3 r4 r5 r6 r7 r8 r9 r10 r11 r12 r13 r14 r15), rfl, ⟨_, _, hrz⟩, hss, hs2, promD_one, promD_no, hbz⟩
  ·skip
   by_cases z2 : z = 2
   ·as_aux_lemma =>
     subst z2; have f1 := B3.frozen 2; have f2 := B3.cell 2; rw [HPA.out] at f2; simp only [cellsP, promD] at f2; simp only [List.getElem?_toArray, List.getElem?_cons_zero, List.getElem?_cons_succ] at f2; have HB3 := Lib.hid B3; clear B3; go_upto_region 21 with fail; refine wp_name ?_; intro W4 HW4; have e4 : W4 = w3.setCell ⟨w.heap.size, 2, none⟩ (.string s) := HW4.out; have BG : Blk W4 w.heap.size 53 (cellsP (promD team t s site (.slice A1 k1 c1) (.slice A2 k2 c2) fr un r0 r1 r2 r3 r4 r5 r6 r7 r8 r9 r10 r11 r12 r13 r14 r15)).toArray := by rw [e4]; have h := Blk.set_ HB3.out 2 (.string s); rw [HPA.out] at h; exact h
     have B6z : Blk W4 (w.heap.size + 1) 53 ZA := by rw [e4]; exact B6.far (p := ⟨w.heap.size, 2, none⟩) (by show w.heap.size + 1 ≠ w.heap.size; omega) _
     have hr4 : RtL W4 (.agg #[.slice A1 k1 c1, .slice A2 k2 c2]) (Nm.lb a) (Nm.lb (Nm.dn b)) := by rw [e4]; exact hrl.setB HB3.out HPU.out _
     have hb4 : Below w.heap.size w W4 := by rw [e4]; exact hbe.setCell (p := ⟨w.heap.size, 2, none⟩) (Nat.le_refl _) _
     clear e4 HW4 f1 f2 B6 hrl hra3 hbe; have hF : Blk (W4.setCells (w.heap.size + 1) 0 (cellsP (promD team t s site (.slice A1 k1 c1) (.slice A2 k2 c2) fr un r0 r1 r2 r3 r4 r5 r6 r7 r8 r9 r10 r11 r12 r13 r14 r15)).toArray.toList) (w.heap.size + 1) 53 (cellsP (promD team t s site (.slice A1 k1 c1) (.slice A2 k2 c2) fr un r0 r1 r2 r3 r4 r5 r6 r7 r8 r9 r10 r11 r12 r13 r14 r15)).toArray := Blk.setAll B6z (by rw [HZS.out]; rfl); have hrz := RtL.setsB (cellsP (promD team t s site (.slice A1 k1 c1) (.slice A2 k2 c2) fr un r0 r1 r2 r3 r4 r5 r6 r7 r8 r9 r10 r11 r12 r13 r14 r15)).toArray.toList 0 hr4 B6z HZU.out (by rw [List.toList_toArray]; exact promD_no); have hbz := below_setAll (g := w.heap.size + 1) (by omega) (cellsP (promD team t s site (.slice A1 k1 c1) (.slice A2 k2 c2) fr un r0 r1 r2 r3 r4 r5 r6 r7 r8 r9 r10 r11 r12 r13 r14 r15)).toArray.toList 0 hb4
     go_wp2_with (first | (refine wpList_load_mid rfl 53 (.tmp 3) rfl w.heap.size 0 rfl (cellsP (promD team t s site (.slice A1 k1 c1) (.slice A2 k2 c2) fr un r0 r1 r2 r3 r4 r5 r6 r7 r8 r9 r10 r11 r12 r13 r14 r15)) _ (Blk.range BG) Try.underlying53 rfl (infoP_len (p := (promD team t s site (.slice A1 k1 c1) (.slice A2 k2 c2) fr un r0 r1 r2 r3 r4 r5 r6 r7 r8 r9 r10 r11 r12 r13 r14 r15))) ?_; simp only [Act.put, sA, sB, sC]) | (refine wpList_store_mid rfl 53 (.tmp 6) (.tmp 70) rfl (w.heap.size + 1) 0 (cellsP (promD team t s site (.slice A1 k1 c1) (.slice A2 k2 c2) fr un r0 r1 r2 r3 r4 r5 r6 r7 r8 r9 r10 r11 r12 r13 r14 r15)).toArray rfl rfl (Blk.there B6z HZS.out) (infoP24 (p := (promD team t s site (.slice A1 k1 c1) (.slice A2 k2 c2) fr un r0 r1 r2 r3 r4 r5 r6 r7 r8 r9 r10 r11 r12 r13 r14 r15))) (all_oneCell_toArray promD_one) ?_))
     (try simp only [Exit.inBlock, Exit.then])
     exact bodyPost_ret (results_prom rfl rfl hF rfl) rfl ⟨(promD team t s site (.slice A1 k1 c1) (.slice A2 k2 c2) fr un r0 r1 r2 r3 r4 r5 r6 r7 r8 r9 r10 r11 r12 r13 r14 r15), rfl, ⟨_, _, hrz⟩, hs1, hss, promD_one, promD_no, hbz⟩
   ·skip
    by_cases z3 : z = 3
    ·as_aux_lemma =>
      subst z3; have f1 := B3.frozen 3; have f2 := B3.cell 3; rw [HPA.out] at f2; simp only [cellsP, promD] at f2; simp only [List.getElem?_toArray, List.getElem?_cons_zero, List.getElem?_cons_succ] at f2; have HB3 := Lib.hid B3; clear B3; go_upto_region 21 with fail; refine wp_name ?_; intro W4 HW4; have e4 : W4 = w3.setCell ⟨w.heap.size, 3, none⟩ (.int .i64 n) := HW4.out; have BG : Blk W4 w.heap.size 53 (cellsP (promD team t h n (.slice A1 k1 c1) (.slice A2 k2 c2) fr un r0 r1 r2 r3 r4 r5 r6 r7 r8 r9 r10 r11 r12 r13 r14 r15)).toArray := by rw [e4]; have h := Blk.set_ HB3.out 3 (.int .i64 n); rw [HPA.out] at h; exact h
      have B6z : Blk W4 (w.heap.size + 1) 53 ZA := by rw [e4]; exact B6.far (p := ⟨w.heap.size, 3, none⟩) (by show w.heap.size + 1 ≠ w.heap.size; omega) _
      have hr4 : RtL W4 (.agg #[.slice A1 k1 c1, .slice A2 k2 c2]) (Nm.lb a) (Nm.lb (Nm.dn b)) := by rw [e4]; exact hrl.setB HB3.out HPU.out _
      have hb4 : Below w.heap.size w W4 := by rw [e4]; exact hbe.setCell (p := ⟨w.heap.size, 3, none⟩) (Nat.le_refl _) _
      clear e4 HW4 f1 f2 B6 hrl hra3 hbe; have hF : Blk (W4.setCells (w.heap.size + 1) 0 (cellsP (promD team t h n (.slice A1 k1 c1) (.slice A2 k2 c2) fr un r0 r1 r2 r3 r4 r5 r6 r7 r8 r9 r10 r11 r12 r13 r14 r15)).toArray.toList) (w.heap.size + 1) 53 (cellsP (promD team t h n (.slice A1 k1 c1) (.slice A2 k2 c2) fr un r0 r1 r2 r3 r4 r5 r6 r7 r8 r9 r10 r11 r12 r13 r14 r15)).toArray := Blk.setAll B6z (by rw [HZS.out]; rfl); have hrz := RtL.setsB (cellsP (promD team t h n (.slice A1 k1 c1) (.slice A2 k2 c2) fr un r0 r1 r2 r3 r4 r5 r6 r7 r8 r9 r10 r11 r12 r13 r14 r15)).toArray.toList 0 hr4 B6z HZU.out (by rw [List.toList_toArray]; exact promD_no); have hbz := below_setAll (g := w.heap.size + 1) (by omega) (cellsP (promD team t h n (.slice A1 k1 c1) (.slice A2 k2 c2) fr un r0 r1 r2 r3 r4 r5 r6 r7 r8 r9 r10 r11 r12 r13 r14 r15)).toArray.toList 0 hb4
      go_wp2_with (first | (refine wpList_load_mid rfl 53 (.tmp 3) rfl w.heap.size 0 rfl (cellsP (promD team t h n (.slice A1 k1 c1) (.slice A2 k2 c2) fr un r0 r1 r2 r3 r4 r5 r6 r7 r8 r9 r10 r11 r12 r13 r14 r15)) _ (Blk.range BG) Try.underlying53 rfl (infoP_len (p := (promD team t h n (.slice A1 k1 c1) (.slice A2 k2 c2) fr un r0 r1 r2 r3 r4 r5 r6 r7 r8 r9 r10 r11 r12 r13 r14 r15))) ?_; simp only [Act.put, sA, sB, sC]) | (refine wpList_store_mid rfl 53 (.tmp 6) (.tmp 70) rfl (w.heap.size + 1) 0 (cellsP (promD team t h n (.slice A1 k1 c1) (.slice A2 k2 c2) fr un r0 r1 r2 r3 r4 r5 r6 r7 r8 r9 r10 r11 r12 r13 r14 r15)).toArray rfl rfl (Blk.there B6z HZS.out) (infoP24 (p := (promD team t h n (.slice A1 k1 c1) (.slice A2 k2 c2) fr un r0 r1 r2 r3 r4 r5 r6 r7 r8 r9 r10 r11 r12 r13 r14 r15))) (all_oneCell_toArray promD_one) ?_))
      (try simp only [Exit.inBlock, Exit.then])
      exact bodyPost_ret (results_prom rfl rfl hF rfl) rfl ⟨(promD team t h n (.slice A1 k1 c1) (.slice A2 k2 c2) fr un r0 r1 r2 r3 r4 r5 r6 r7 r8 r9 r10 r11 r12 r13 r14 r15), rfl, ⟨_, _, hrz⟩, hs1, hs2, promD_one, promD_no, hbz⟩
    ·skip
     by_cases z4 : z = 4
     ·as_aux_lemma =>
       subst z4; have f1 := B3.frozen 6; have f2 := B3.cell 6; rw [HPA.out] at f2; simp only [cellsP, promD] at f2; simp only [List.getElem?_toArray, List.getElem?_cons_zero, List.getElem?_cons_succ] at f2; have HB3 := Lib.hid B3; clear B3; go_upto_region 21 with fail; refine wp_name ?_; intro W4 HW4; have e4 : W4 = w3.setCell ⟨w.heap.size, 6, none⟩ (.int .i64 n) := HW4.out; have BG : Blk W4 w.heap.size 53 (cellsP (promD team t h site (.slice A1 k1 c1) (.slice A2 k2 c2) n un r0 r1 r2 r3 r4 r5 r6 r7 r8 r9 r10 r11 r12 r13 r14 r15)).toArray := by rw [e4]; have h := Blk.set_ HB3.out 6 (.int .i64 n); rw [HPA.out] at h; exact h
       have B6z : Blk W4 (w.heap.size + 1) 53 ZA := by rw [e4]; exact B6.far (p := ⟨w.heap.size, 6, none⟩) (by show w.heap.size + 1 ≠ w.heap.size; omega) _
       have hr4 : RtL W4 (.agg #[.slice A1 k1 c1, .slice A2 k2 c2]) (Nm.lb a) (Nm.lb (Nm.dn b)) := by rw [e4]; exact hrl.setB HB3.out HPU.out _
       have hb4 : Below w.heap.size w W4 := by rw [e4]; exact hbe.setCell (p := ⟨w.heap.size, 6, none⟩) (Nat.le_refl _) _
       clear e4 HW4 f1 f2 B6 hrl hra3 hbe; have hF : Blk (W4.setCells (w.heap.size + 1) 0 (cellsP (promD team t h site (.slice A1 k1 c1) (.slice A2 k2 c2) n un r0 r1 r2 r3 r4 r5 r6 r7 r8 r9 r10 r11 r12 r13 r14 r15)).toArray.toList) (w.heap.size + 1) 53 (cellsP (promD team t h site (.slice A1 k1 c1) (.slice A2 k2 c2) n un r0 r1 r2 r3 r4 r5 r6 r7 r8 r9 r10 r11 r12 r13 r14 r15)).toArray := Blk.setAll B6z (by rw [HZS.out]; rfl); have hrz := RtL.setsB (cellsP (promD team t h site (.slice A1 k1 c1) (.slice A2 k2 c2) n un r0 r1 r2 r3 r4 r5 r6 r7 r8 r9 r10 r11 r12 r13 r14 r15)).toArray.toList 0 hr4 B6z HZU.out (by rw [List.toList_toArray]; exact promD_no); have hbz := below_setAll (g := w.heap.size + 1) (by omega) (cellsP (promD team t h site (.slice A1 k1 c1) (.slice A2 k2 c2) n un r0 r1 r2 r3 r4 r5 r6 r7 r8 r9 r10 r11 r12 r13 r14 r15)).toArray.toList 0 hb4
       go_wp2_with (first | (refine wpList_load_mid rfl 53 (.tmp 3) rfl w.heap.size 0 rfl (cellsP (promD team t h site (.slice A1 k1 c1) (.slice A2 k2 c2) n un r0 r1 r2 r3 r4 r5 r6 r7 r8 r9 r10 r11 r12 r13 r14 r15)) _ (Blk.range BG) Try.underlying53 rfl (infoP_len (p := (promD team t h site (.slice A1 k1 c1) (.slice A2 k2 c2) n un r0 r1 r2 r3 r4 r5 r6 r7 r8 r9 r10 r11 r12 r13 r14 r15))) ?_; simp only [Act.put, sA, sB, sC]) | (refine wpList_store_mid rfl 53 (.tmp 6) (.tmp 70) rfl (w.heap.size + 1) 0 (cellsP (promD team t h site (.slice A1 k1 c1) (.slice A2 k2 c2) n un r0 r1 r2 r3 r4 r5 r6 r7 r8 r9 r10 r11 r12 r13 r14 r15)).toArray rfl rfl (Blk.there B6z HZS.out) (infoP24 (p := (promD team t h site (.slice A1 k1 c1) (.slice A2 k2 c2) n un r0 r1 r2 r3 r4 r5 r6 r7 r8 r9 r10 r11 r12 r13 r14 r15))) (all_oneCell_toArray promD_one) ?_))
       (try simp only [Exit.inBlock, Exit.then])
       exact bodyPost_ret (results_prom rfl rfl hF rfl) rfl ⟨(promD team t h site (.slice A1 k1 c1) (.slice A2 k2 c2) n un r0 r1 r2 r3 r4 r5 r6 r7 r8 r9 r10 r11 r12 r13 r14 r15), rfl, ⟨_, _, hrz⟩, hs1, hs2, promD_one, promD_no, hbz⟩
     ·skip
      by_cases z5 : z = 5
      ·as_aux_lemma =>
        subst z5; have f1 := B3.frozen 7; have f2 := B3.cell 7; rw [HPA.out] at f2; simp only [cellsP, promD] at f2; simp only [List.getElem?_toArray, List.getElem?_cons_zero, List.getElem?_cons_succ] at f2; have HB3 := Lib.hid B3; clear B3; go_upto_region 21 with fail; refine wp_name ?_; intro W4 HW4; have e4 : W4 = w3.setCell ⟨w.heap.size, 7, none⟩ (.int .i64 n) := HW4.out; have BG : Blk W4 w.heap.size 53 (cellsP (promD team t h site (.slice A1 k1 c1) (.slice A2 k2 c2) fr n r0 r1 r2 r3 r4 r5 r6 r7 r8 r9 r10 r11 r12 r13 r14 r15)).toArray := by rw [e4]; have h := Blk.set_ HB3.out 7 (.int .i64 n); rw [HPA.out] at h; exact h
        have B6z : Blk W4 (w.heap.size + 1) 53 ZA := by rw [e4]; exact B6.far (p := ⟨w.heap.size, 7, none⟩) (by show w.heap.size + 1 ≠ w.heap.size; omega) _
        have hr4 : RtL W4 (.agg #[.slice A1 k1 c1, .slice A2 k2 c2]) (Nm.lb a) (Nm.lb (Nm.dn b)) := by rw [e4]; exact hrl.setB HB3.out HPU.out _
        have hb4 : Below w.heap.size w W4 := by rw [e4]; exact hbe.setCell (p := ⟨w.heap.size, 7, none⟩) (Nat.le_refl _) _
        clear e4 HW4 f1 f2 B6 hrl hra3 hbe; have hF : Blk (W4.setCells (w.heap.size + 1) 0 (cellsP (promD team t h site (.slice A1 k1 c1) (.slice A2 k2 c2) fr n r0 r1 r2 r3 r4 r5 r6 r7 r8 r9 r10 r11 r12 r13 r14 r15)).toArray.toList) (w.heap.size + 1) 53 (cellsP (promD team t h site (.slice A1 k1 c1) (.slice A2 k2 c2) fr n r0 r1 r2 r3 r4 r5 r6 r7 r8 r9 r10 r11 r12 r13 r14 r15)).toArray := Blk.setAll B6z (by rw [HZS.out]; rfl); have hrz := RtL.setsB (cellsP (promD team t h site (.slice A1 k1 c1) (.slice A2 k2 c2) fr n r0 r1 r2 r3 r4 r5 r6 r7 r8 r9 r10 r11 r12 r13 r14 r15)).toArray.toList 0 hr4 B6z HZU.out (by rw [List.toList_toArray]; exact promD_no); have hbz := below_setAll (g := w.heap.size + 1) (by omega) (cellsP (promD team t h site (.slice A1 k1 c1) (.slice A2 k2 c2) fr n r0 r1 r2 r3 r4 r5 r6 r7 r8 r9 r10 r11 r12 r13 r14 r15)).toArray.toList 0 hb4
        go_wp2_with (first | (refine wpList_load_mid rfl 53 (.tmp 3) rfl w.heap.size 0 rfl (cellsP (promD team t h site (.slice A1 k1 c1) (.slice A2 k2 c2) fr n r0 r1 r2 r3 r4 r5 r6 r7 r8 r9 r10 r11 r12 r13 r14 r15)) _ (Blk.range BG) Try.underlying53 rfl (infoP_len (p := (promD team t h site (.slice A1 k1 c1) (.slice A2 k2 c2) fr n r0 r1 r2 r3 r4 r5 r6 r7 r8 r9 r10 r11 r12 r13 r14 r15))) ?_; simp only [Act.put, sA, sB, sC]) | (refine wpList_store_mid rfl 53 (.tmp 6) (.tmp 70) rfl (w.heap.size + 1) 0 (cellsP (promD team t h site (.slice A1 k1 c1) (.slice A2 k2 c2) fr n r0 r1 r2 r3 r4 r5 r6 r7 r8 r9 r10 r11 r12 r13 r14 r15)).toArray rfl rfl (Blk.there B6z HZS.out) (infoP24 (p := (promD team t h site (.slice A1 k1 c1) (.slice A2 k2 c2) fr n r0 r1 r2 r3 r4 r5 r6 r7 r8 r9 r10 r11 r12 r13 r14 r15))) (all_oneCell_toArray promD_one) ?_))
        (try simp only [Exit.inBlock, Exit.then])
        exact bodyPost_ret (results_prom rfl rfl hF rfl) rfl ⟨(promD team t h site (.slice A1 k1 c1) (.slice A2 k2 c2) fr n r0 r1 r2 r3 r4 r5 r6 r7 r8 r9 r10 r11 r12 r13 r14 r15), rfl, ⟨_, _, hrz⟩, hs1, hs2, promD_one, promD_no, hbz⟩
      ·skip
       by_cases z6 : z = 6
       ·as_aux_lemma =>
         subst z6; obtain ⟨q, hq⟩ : ∃ q : Int, by_.tdiv 9 = q := ⟨_, rfl⟩; have hq1 : -9223372036854775808 ≤ q := by rw [← hq]; exact (tdiv9_bd by_ i3 i4).1
         have hq2 : q ≤ 9223372036854775807 := by rw [← hq]; exact (tdiv9_bd by_ i3 i4).2
         have hqw : IntKind.i64.wrap q = q := by rw [IntWalk.i64_in _ (by omega)]
         have f4 := B3.cell 4; have f5 := B3.cell 5; rw [HPA.out] at f4 f5; simp only [cellsP, promD] at f4 f5; simp only [List.getElem?_toArray, List.getElem?_cons_zero, List.getElem?_cons_succ] at f4 f5; go_wp2_with fail; refine (spoilt_n _ a b by_ q _ hra3 ga i3 i4 hq1 hq2).mono ?_; rintro e w5 ⟨v, m1, m2, rfl, hrv, _, _, hb5⟩; obtain ⟨D1, m3, o1, D2, m4, o2, rfl⟩ := hrv.shape; have B35 := Blk.below B3 hb5 B3.lt; have B65 := Blk.below B6 hb5 B6.lt; have hbe5 := Below.tr hbe hb5; have f1 := B35.frozen 4; have f3 := B35.frozen 5; clear f4 f5; have f4 := B35.cell 4; have f5 := B35.cell 5; rw [HPA.out] at f4 f5; simp only [cellsP, promD] at f4 f5; simp only [List.getElem?_toArray, List.getElem?_cons_zero, List.getElem?_cons_succ] at f4 f5; have HB3 := Lib.hid B35; clear B35 B3 B6 hb5 hrl hra3 hq hqw; go_upto_region 21 with fail; refine wp_name ?_; intro W4 HW4; have e4 : W4 = (w5.setCell ⟨w.heap.size, 4, none⟩ (.slice D1 m3 o1)).setCell ⟨w.heap.size, 5, none⟩ (.slice D2 m4 o2) := HW4.out; have BG : Blk W4 w.heap.size 53 (cellsP (promD team t h site (.slice D1 m3 o1) (.slice D2 m4 o2) fr un r0 r1 r2 r3 r4 r5 r6 r7 r8 r9 r10 r11 r12 r13 r14 r15)).toArray := by rw [e4]; have h := Blk.set_ (Blk.set_ HB3.out 4 (.slice D1 m3 o1)) 5 (.slice D2 m4 o2); rw [HPA.out] at h; exact h
         have B6z : Blk W4 (w.heap.size + 1) 53 ZA := by rw [e4]; exact (B65.far (p := ⟨w.heap.size, 4, none⟩) (by show w.heap.size + 1 ≠ w.heap.size; omega) _).far (p := ⟨w.heap.size, 5, none⟩) (by show w.heap.size + 1 ≠ w.heap.size; omega) _
         have hr4 := (hrv.setB (i := 4) HB3.out HPU.out (.slice D1 m3 o1)).setB (i := 5) (Blk.set_ HB3.out 4 _) (NoU.set HPU.out (by intro n e; cases e)) (.slice D2 m4 o2); rw [← e4] at hr4; have hb4 : Below w.heap.size w W4 := by rw [e4]; exact (hbe5.setCell (p := ⟨w.heap.size, 4, none⟩) (Nat.le_refl _) _).setCell (p := ⟨w.heap.size, 5, none⟩) (Nat.le_refl _) _
         clear e4 HW4 f1 f3 f4 f5 hbe5 hrv; have hF : Blk (W4.setCells (w.heap.size + 1) 0 (cellsP (promD team t h site (.slice D1 m3 o1) (.slice D2 m4 o2) fr un r0 r1 r2 r3 r4 r5 r6 r7 r8 r9 r10 r11 r12 r13 r14 r15)).toArray.toList) (w.heap.size + 1) 53 (cellsP (promD team t h site (.slice D1 m3 o1) (.slice D2 m4 o2) fr un r0 r1 r2 r3 r4 r5 r6 r7 r8 r9 r10 r11 r12 r13 r14 r15)).toArray := Blk.setAll B6z (by rw [HZS.out]; rfl); have hrz := RtL.setsB (cellsP (promD team t h site (.slice D1 m3 o1) (.slice D2 m4 o2) fr un r0 r1 r2 r3 r4 r5 r6 r7 r8 r9 r10 r11 r12 r13 r14 r15)).toArray.toList 0 hr4 B6z HZU.out (by rw [List.toList_toArray]; exact promD_no); have hbz := below_setAll (g := w.heap.size + 1) (by omega) (cellsP (promD team t h site (.slice D1 m3 o1) (.slice D2 m4 o2) fr un r0 r1 r2 r3 r4 r5 r6 r7 r8 r9 r10 r11 r12 r13 r14 r15)).toArray.toList 0 hb4
         go_wp2_with (first | (refine wpList_load_mid rfl 53 (.tmp 3) rfl w.heap.size 0 rfl (cellsP (promD team t h site (.slice D1 m3 o1) (.slice D2 m4 o2) fr un r0 r1 r2 r3 r4 r5 r6 r7 r8 r9 r10 r11 r12 r13 r14 r15)) _ (Blk.range BG) Try.underlying53 rfl (infoP_len (p := (promD team t h site (.slice D1 m3 o1) (.slice D2 m4 o2) fr un r0 r1 r2 r3 r4 r5 r6 r7 r8 r9 r10 r11 r12 r13 r14 r15))) ?_; simp only [Act.put, sA, sB, sC]) | (refine wpList_store_mid rfl 53 (.tmp 6) (.tmp 70) rfl (w.heap.size + 1) 0 (cellsP (promD team t h site (.slice D1 m3 o1) (.slice D2 m4 o2) fr un r0 r1 r2 r3 r4 r5 r6 r7 r8 r9 r10 r11 r12 r13 r14 r15)).toArray rfl rfl (Blk.there B6z HZS.out) (infoP24 (p := (promD team t h site (.slice D1 m3 o1) (.slice D2 m4 o2) fr un r0 r1 r2 r3 r4 r5 r6 r7 r8 r9 r10 r11 r12 r13 r14 r15))) (all_oneCell_toArray promD_one) ?_))
         (try simp only [Exit.inBlock, Exit.then])
         exact bodyPost_ret (results_prom rfl rfl hF rfl) rfl ⟨(promD team t h site (.slice D1 m3 o1) (.slice D2 m4 o2) fr un r0 r1 r2 r3 r4 r5 r6 r7 r8 r9 r10 r11 r12 r13 r14 r15), rfl, ⟨_, _, hrz⟩, hs1, hs2, promD_one, promD_no, hbz⟩
       ·skip
        by_cases z7 : z = 7
        ·as_aux_lemma =>
          subst z7; obtain ⟨q, hq⟩ : ∃ q : Int, by_.tdiv 3 = q := ⟨_, rfl⟩; have hq1 : -9223372036854775808 ≤ q := by rw [← hq]; exact (tdiv3_bd' by_ i3 i4).1
          have hq2 : q ≤ 9223372036854775807 := by rw [← hq]; exact (tdiv3_bd' by_ i3 i4).2
          have hqw : IntKind.i64.wrap q = q := by rw [IntWalk.i64_in _ (by omega)]
          have f4 := B3.cell 4; have f5 := B3.cell 5; rw [HPA.out] at f4 f5; simp only [cellsP, promD] at f4 f5; simp only [List.getElem?_toArray, List.getElem?_cons_zero, List.getElem?_cons_succ] at f4 f5; go_wp2_with fail; refine (rmade_n by_ q _ i3 i4 hq1 hq2).mono ?_; rintro e w5 ⟨v, p5, q5, rfl, hrv0, _, hb5⟩; have hrv := rtl_rat hrv0; obtain ⟨D1, m3, o1, D2, m4, o2, rfl⟩ := hrv.shape; have B35 := Blk.below B3 hb5 B3.lt; have B65 := Blk.below B6 hb5 B6.lt; have hbe5 := Below.tr hbe hb5; have f1 := B35.frozen 4; have f3 := B35.frozen 5; clear f4 f5; have f4 := B35.cell 4; have f5 := B35.cell 5; rw [HPA.out] at f4 f5; simp only [cellsP, promD] at f4 f5; simp only [List.getElem?_toArray, List.getElem?_cons_zero, List.getElem?_cons_succ] at f4 f5; have HB3 := Lib.hid B35; clear B35 B3 B6 hb5 hrl hra3 hq hqw; go_upto_region 21 with fail; refine wp_name ?_; intro W4 HW4; have e4 : W4 = (w5.setCell ⟨w.heap.size, 4, none⟩ (.slice D1 m3 o1)).setCell ⟨w.heap.size, 5, none⟩ (.slice D2 m4 o2) := HW4.out; have BG : Blk W4 w.heap.size 53 (cellsP (promD team t h site (.slice D1 m3 o1) (.slice D2 m4 o2) fr un r0 r1 r2 r3 r4 r5 r6 r7 r8 r9 r10 r11 r12 r13 r14 r15)).toArray := by rw [e4]; have h := Blk.set_ (Blk.set_ HB3.out 4 (.slice D1 m3 o1)) 5 (.slice D2 m4 o2); rw [HPA.out] at h; exact h
          have B6z : Blk W4 (w.heap.size + 1) 53 ZA := by rw [e4]; exact (B65.far (p := ⟨w.heap.size, 4, none⟩) (by show w.heap.size + 1 ≠ w.heap.size; omega) _).far (p := ⟨w.heap.size, 5, none⟩) (by show w.heap.size + 1 ≠ w.heap.size; omega) _
          have hr4 := (hrv.setB (i := 4) HB3.out HPU.out (.slice D1 m3 o1)).setB (i := 5) (Blk.set_ HB3.out 4 _) (NoU.set HPU.out (by intro n e; cases e)) (.slice D2 m4 o2); rw [← e4] at hr4; have hb4 : Below w.heap.size w W4 := by rw [e4]; exact (hbe5.setCell (p := ⟨w.heap.size, 4, none⟩) (Nat.le_refl _) _).setCell (p := ⟨w.heap.size, 5, none⟩) (Nat.le_refl _) _
          clear e4 HW4 f1 f3 f4 f5 hbe5 hrv; have hF : Blk (W4.setCells (w.heap.size + 1) 0 (cellsP (promD team t h site (.slice D1 m3 o1) (.slice D2 m4 o2) fr un r0 r1 r2 r3 r4 r5 r6 r7 r8 r9 r10 r11 r12 r13 r14 r15)).toArray.toList) (w.heap.size + 1) 53 (cellsP (promD team t h site (.slice D1 m3 o1) (.slice D2 m4 o2) fr un r0 r1 r2 r3 r4 r5 r6 r7 r8 r9 r10 r11 r12 r13 r14 r15)).toArray := Blk.setAll B6z (by rw [HZS.out]; rfl); have hrz := RtL.setsB (cellsP (promD team t h site (.slice D1 m3 o1) (.slice D2 m4 o2) fr un r0 r1 r2 r3 r4 r5 r6 r7 r8 r9 r10 r11 r12 r13 r14 r15)).toArray.toList 0 hr4 B6z HZU.out (by rw [List.toList_toArray]; exact promD_no); have hbz := below_setAll (g := w.heap.size + 1) (by omega) (cellsP (promD team t h site (.slice D1 m3 o1) (.slice D2 m4 o2) fr un r0 r1 r2 r3 r4 r5 r6 r7 r8 r9 r10 r11 r12 r13 r14 r15)).toArray.toList 0 hb4
          go_wp2_with (first | (refine wpList_load_mid rfl 53 (.tmp 3) rfl w.heap.size 0 rfl (cellsP (promD team t h site (.slice D1 m3 o1) (.slice D2 m4 o2) fr un r0 r1 r2 r3 r4 r5 r6 r7 r8 r9 r10 r11 r12 r13 r14 r15)) _ (Blk.range BG) Try.underlying53 rfl (infoP_len (p := (promD team t h site (.slice D1 m3 o1) (.slice D2 m4 o2) fr un r0 r1 r2 r3 r4 r5 r6 r7 r8 r9 r10 r11 r12 r13 r14 r15))) ?_; simp only [Act.put, sA, sB, sC]) | (refine wpList_store_mid rfl 53 (.tmp 6) (.tmp 70) rfl (w.heap.size + 1) 0 (cellsP (promD team t h site (.slice D1 m3 o1) (.slice D2 m4 o2) fr un r0 r1 r2 r3 r4 r5 r6 r7 r8 r9 r10 r11 r12 r13 r14 r15)).toArray rfl rfl (Blk.there B6z HZS.out) (infoP24 (p := (promD team t h site (.slice D1 m3 o1) (.slice D2 m4 o2) fr un r0 r1 r2 r3 r4 r5 r6 r7 r8 r9 r10 r11 r12 r13 r14 r15))) (all_oneCell_toArray promD_one) ?_))
          (try simp only [Exit.inBlock, Exit.then])
          exact bodyPost_ret (results_prom rfl rfl hF rfl) rfl ⟨(promD team t h site (.slice D1 m3 o1) (.slice D2 m4 o2) fr un r0 r1 r2 r3 r4 r5 r6 r7 r8 r9 r10 r11 r12 r13 r14 r15), rfl, ⟨_, _, hrz⟩, hs1, hs2, promD_one, promD_no, hbz⟩
        ·skip
         obtain rfl : z = 8 := by omega
         clear z0 z1 z2 z3 z4 z5 z6 z7; go_wp2_with fail; refine (around_n by_ 16 _ i3 i4 (by omega) (by omega)).mono ?_; rintro e w' ⟨kk, rfl, hkk, _, rfl⟩; have lk : (kk : Int) < 16 := by omega
         obtain ⟨x, hx⟩ : ∃ x : Int, w3.cell? ⟨w.heap.size, 8 + kk, none⟩ = some (.int .u8 x) := by
          rw [B3.cell, HPA.out]; have hc : kk = 0 ∨ kk = 1 ∨ kk = 2 ∨ kk = 3 ∨ kk = 4 ∨ kk = 5 ∨ kk = 6 ∨ kk = 7 ∨ kk = 8 ∨ kk = 9 ∨ kk = 10 ∨ kk = 11 ∨ kk = 12 ∨ kk = 13 ∨ kk = 14 ∨ kk = 15 := by omega
          rcases hc with rfl | rfl | rfl | rfl | rfl | rfl | rfl | rfl | rfl | rfl | rfl | rfl | rfl | rfl | rfl | rfl <;> exact ⟨_, rfl⟩
         obtain ⟨y, hy⟩ : ∃ y : Int, IntKind.u8.wrap (x + 1) = y := ⟨_, rfl⟩; have f1 := B3.frozen (8 + kk); have HB3 := Lib.hid B3; clear B3; go_upto_region 21 with fail; refine wp_name ?_; intro W4 HW4; have e4 : W4 = w3.setCell ⟨w.heap.size, 8 + kk, none⟩ (.int .u8 y) := HW4.out
         obtain ⟨s0, s1, s2, s3, s4, s5, s6, s7, s8, s9, s10, s11, s12, s13, s14, s15, HBG⟩ : ∃ s0 s1 s2 s3 s4 s5 s6 s7 s8 s9 s10 s11 s12 s13 s14 s15 : Int, Blk W4 w.heap.size 53 (cellsP (promD team t h site (.slice A1 k1 c1) (.slice A2 k2 c2) fr un s0 s1 s2 s3 s4 s5 s6 s7 s8 s9 s10 s11 s12 s13 s14 s15)).toArray := by
          rw [e4]; have h := Blk.set_ HB3.out (8 + kk) (.int .u8 y); rw [HPA.out] at h; have hc : kk = 0 ∨ kk = 1 ∨ kk = 2 ∨ kk = 3 ∨ kk = 4 ∨ kk = 5 ∨ kk = 6 ∨ kk = 7 ∨ kk = 8 ∨ kk = 9 ∨ kk = 10 ∨ kk = 11 ∨ kk = 12 ∨ kk = 13 ∨ kk = 14 ∨ kk = 15 := by omega
          rcases hc with rfl | rfl | rfl | rfl | rfl | rfl | rfl | rfl | rfl | rfl | rfl | rfl | rfl | rfl | rfl | rfl
          ·exact ⟨y, r1, r2, r3, r4, r5, r6, r7, r8, r9, r10, r11, r12, r13, r14, r15, h⟩
          ·exact ⟨r0, y, r2, r3, r4, r5, r6, r7, r8, r9, r10, r11, r12, r13, r14, r15, h⟩
          ·exact ⟨r0, r1, y, r3, r4, r5, r6, r7, r8, r9, r10, r11, r12, r13, r14, r15, h⟩
          ·exact ⟨r0, r1, r2, y, r4, r5, r6, r7, r8, r9, r10, r11, r12, r13, r14, r15, h⟩
          ·exact ⟨r0, r1, r2, r3, y, r5, r6, r7, r8, r9, r10, r11, r12, r13, r14, r15, h⟩
          ·exact ⟨r0, r1, r2, r3, r4, y, r6, r7, r8, r9, r10, r11, r12, r13, r14, r15, h⟩
          ·exact ⟨r0, r1, r2, r3, r4, r5, y, r7, r8, r9, r10, r11, r12, r13, r14, r15, h⟩
          ·exact ⟨r0, r1, r2, r3, r4, r5, r6, y, r8, r9, r10, r11, r12, r13, r14, r15, h⟩
          ·exact ⟨r0, r1, r2, r3, r4, r5, r6, r7, y, r9, r10, r11, r12, r13, r14, r15, h⟩
          ·exact ⟨r0, r1, r2, r3, r4, r5, r6, r7, r8, y, r10, r11, r12, r13, r14, r15, h⟩
          ·exact ⟨r0, r1, r2, r3, r4, r5, r6, r7, r8, r9, y, r11, r12, r13, r14, r15, h⟩
          ·exact ⟨r0, r1, r2, r3, r4, r5, r6, r7, r8, r9, r10, y, r12, r13, r14, r15, h⟩
          ·exact ⟨r0, r1, r2, r3, r4, r5, r6, r7, r8, r9, r10, r11, y, r13, r14, r15, h⟩
          ·exact ⟨r0, r1, r2, r3, r4, r5, r6, r7, r8, r9, r10, r11, r12, y, r14, r15, h⟩
          ·exact ⟨r0, r1, r2, r3, r4, r5, r6, r7, r8, r9, r10, r11, r12, r13, y, r15, h⟩
          ·exact ⟨r0, r1, r2, r3, r4, r5, r6, r7, r8, r9, r10, r11, r12, r13, r14, y, h⟩
         have B6z : Blk W4 (w.heap.size + 1) 53 ZA := by rw [e4]; exact B6.far (p := ⟨w.heap.size, 8 + kk, none⟩) (by show w.heap.size + 1 ≠ w.heap.size; omega) _
         have hr4 : RtL W4 (.agg #[.slice A1 k1 c1, .slice A2 k2 c2]) (Nm.lb a) (Nm.lb (Nm.dn b)) := by rw [e4]; exact hrl.setB HB3.out HPU.out _
         have hb4 : Below w.heap.size w W4 := by rw [e4]; exact hbe.setCell (p := ⟨w.heap.size, 8 + kk, none⟩) (Nat.le_refl _) _
         clear e4 HW4 f1 hx hy B6 hrl hra3 hbe; have hF : Blk (W4.setCells (w.heap.size + 1) 0 (cellsP (promD team t h site (.slice A1 k1 c1) (.slice A2 k2 c2) fr un s0 s1 s2 s3 s4 s5 s6 s7 s8 s9 s10 s11 s12 s13 s14 s15)).toArray.toList) (w.heap.size + 1) 53 (cellsP (promD team t h site (.slice A1 k1 c1) (.slice A2 k2 c2) fr un s0 s1 s2 s3 s4 s5 s6 s7 s8 s9 s10 s11 s12 s13 s14 s15)).toArray := Blk.setAll B6z (by rw [HZS.out]; rfl); have hrz := RtL.setsB (cellsP (promD team t h site (.slice A1 k1 c1) (.slice A2 k2 c2) fr un s0 s1 s2 s3 s4 s5 s6 s7 s8 s9 s10 s11 s12 s13 s14 s15)).toArray.toList 0 hr4 B6z HZU.out (by rw [List.toList_toArray]; exact promD_no); have hbz := below_setAll (g := w.heap.size + 1) (by omega) (cellsP (promD team t h site (.slice A1 k1 c1) (.slice A2 k2 c2) fr un s0 s1 s2 s3 s4 s5 s6 s7 s8 s9 s10 s11 s12 s13 s14 s15)).toArray.toList 0 hb4
         go_wp2_with (first | (refine wpList_load_mid rfl 53 (.tmp 3) rfl w.heap.size 0 rfl (cellsP (promD team t h site (.slice A1 k1 c1) (.slice A2 k2 c2) fr un s0 s1 s2 s3 s4 s5 s6 s7 s8 s9 s10 s11 s12 s13 s14 s15)) _ (Blk.range HBG) Try.underlying53 rfl (infoP_len (p := (promD team t h site (.slice A1 k1 c1) (.slice A2 k2 c2) fr un s0 s1 s2 s3 s4 s5 s6 s7 s8 s9 s10 s11 s12 s13 s14 s15))) ?_; simp only [Act.put, sA, sB, sC]) | (refine wpList_store_mid rfl 53 (.tmp 6) (.tmp 70) rfl (w.heap.size + 1) 0 (cellsP (promD team t h site (.slice A1 k1 c1) (.slice A2 k2 c2) fr un s0 s1 s2 s3 s4 s5 s6 s7 s8 s9 s10 s11 s12 s13 s14 s15)).toArray rfl rfl (Blk.there B6z HZS.out) (infoP24 (p := (promD team t h site (.slice A1 k1 c1) (.slice A2 k2 c2) fr un s0 s1 s2 s3 s4 s5 s6 s7 s8 s9 s10 s11 s12 s13 s14 s15))) (all_oneCell_toArray promD_one) ?_))
         (try simp only [Exit.inBlock, Exit.then])
         exact bodyPost_ret (results_prom rfl rfl hF rfl) rfl ⟨(promD team t h site (.slice A1 k1 c1) (.slice A2 k2 c2) fr un s0 s1 s2 s3 s4 s5 s6 s7 s8 s9 s10 s11 s12 s13 s14 s15), rfl, ⟨_, _, hrz⟩, hs1, hs2, promD_one, promD_no, hbz⟩
end Go.Proofs.Yticobffjnjbjiaa
namespace Go.Proofs.Yticobffjnjbjiaa
open Go Go.RowKit
set_option maxRecDepth 100000 in
set_option maxHeartbeats 2000000 in
theorem rescapes_n (Al : Option Addr) (kl cl : Nat) (k seen : Int) (ps : List PC) (Lf : Nat → List Nat × List Nat) (w : World) (hp : RowS cellsP w Al kl ps) (hsn : seen ≤ 9223372036854775807)
  (HB : Hid (∀ (n : Nat) p, ps[n]? = some p → RtL w (.agg #[p.b1, p.b2]) (Lf n).1 (Lf n).2 ∧ p.test.size ≤ 9223372036854775807 ∧ p.wh.size ≤ 9223372036854775807)) :
  Calls Try.prog 44 #[.slice Al kl cl, .int .i64 k, .int .i64 seen] w fun e w' => ∃ v er, e = .returned (.tuple #[v, .int .i64 er]) ∧ Hid (EscP kl ps Lf k seen w' v er) ∧ Below w.heap.size w w' := by
 have hres := Res.new w; obtain ⟨r1, r2, r3, r4⟩ := hres.facts; by_cases hbad : k < 0 ∨ (kl : Int) ≤ k ∨ seen < 0
 ·obtain ⟨s1, s2⟩ := hres.set2 (.slice none 0 0) (.slice none 0 0); have hbw := below_set2 (bA w (.cells #[.slice none 0 0, .slice none 0 0] 24)) (Nat.le_refl _) (.slice none 0 0) (.slice none 0 0); have HBAD := Lib.hid hbad
  rcases (show k < 0 ∨ (0 ≤ k ∧ (kl : Int) ≤ k) ∨ (0 ≤ k ∧ k < (kl : Int) ∧ seen < 0) by omega) with h | ⟨h, h'⟩ | ⟨h, h', h''⟩ <;> clear hbad
  ·have d1 : decide (k < 0) = true := by simpa using h
   go_enter Try.func44, Try.ntmps44
   go_wp2_with fail; exact bodyPost_ret (v := .tuple #[nilRat, .int .i64 5]) (by simp [results, Try.results44, go_sem, s1, s2, nilRat]) rfl ⟨_, _, rfl, .inl ⟨HBAD.out, rfl, rfl⟩, bA _ _⟩
  ·have d1 : decide (k < 0) = false := by simp; omega
   have d2 : decide ((kl : Int) ≤ k) = true := by simpa using h'
   go_enter Try.func44, Try.ntmps44
   go_wp2_with fail; exact bodyPost_ret (v := .tuple #[nilRat, .int .i64 5]) (by simp [results, Try.results44, go_sem, s1, s2, nilRat]) rfl ⟨_, _, rfl, .inl ⟨HBAD.out, rfl, rfl⟩, bA _ _⟩
  ·have d1 : decide (k < 0) = false := by simp; omega
   have d2 : decide ((kl : Int) ≤ k) = false := by simp; omega
   have d3 : decide (seen < 0) = true := by simpa using h''
   go_enter Try.func44, Try.ntmps44
   go_wp2_with fail; exact bodyPost_ret (v := .tuple #[nilRat, .int .i64 5]) (by simp [results, Try.results44, go_sem, s1, s2, nilRat]) rfl ⟨_, _, rfl, .inl ⟨HBAD.out, rfl, rfl⟩, bA _ _⟩
 ·obtain ⟨n, rfl⟩ := Int.eq_ofNat_of_zero_le (show 0 ≤ k by omega); obtain ⟨s, rfl⟩ := Int.eq_ofNat_of_zero_le (show 0 ≤ seen by omega); have hnl : n < kl := by omega
  have hsl : s ≤ 9223372036854775807 := by omega
  have d1 : decide ((n : Int) < 0) = false := by simp
  have d2 : decide ((kl : Int) ≤ (n : Int)) = false := by simp; omega
  have d3 : decide ((s : Int) < 0) = false := by simp
  clear hbad hsn; have hkl := hp.2.2; have hpl : n < ps.length := by have := hp.2.1; omega
  obtain ⟨bp, offp, rfl, HPC⟩ := hp.at_ cellsP_len (by omega) hnl hpl; obtain ⟨pn, HPN⟩ : ∃ pn, Hid (ps[n]? = some pn ∧ ps[n] = pn) := ⟨ps[n], List.getElem?_eq_getElem hpl, rfl⟩; rw [HPN.out.2] at HPC; obtain ⟨hrl, z1, z2⟩ := HB.out n pn HPN.out.1; obtain ⟨L1, L2, HL⟩ : ∃ L1 L2, Hid ((Lf n).1 = L1 ∧ (Lf n).2 = L2) := ⟨_, _, rfl, rfl⟩; rw [HL.out.1, HL.out.2] at hrl; have hbw1 := bA w (.cells #[.slice none 0 0, .slice none 0 0] 24); have HPC1 : Hid (∀ (j : Nat) v, (cellsP pn)[j]? = some v → (w.alloc (.cells #[.slice none 0 0, .slice none 0 0] 24)).cell? ⟨bp, offp + n * 24 + j, none⟩ = some v) := fun j v h => cell_keep hbw1 (HPC.out j v h)
  go_enter Try.func44, Try.ntmps44
  go_wp2_with (refine wpList_load_mid rfl 53 (.tmp 26) rfl bp (offp + n * 24) rfl [.int .i64 pn.team, .string pn.test, .string pn.wh, .int .i64 pn.site, pn.b1, pn.b2, .int .i64 pn.fr, .int .i64 pn.un, pn.r0, pn.r1, pn.r2, pn.r3, pn.r4, pn.r5, pn.r6, pn.r7, pn.r8, pn.r9, pn.r10, pn.r11, pn.r12, pn.r13, pn.r14, pn.r15] _ (fun j v h => HPC1.out j v h) Try.underlying53 rfl infoP ?_)
  refine (rpval_n pn L1 L2 _ (hrl.below hbw1) z1 z2).mono ?_; rintro e w2 ⟨E, rfl, HE, hb2⟩; have hres := hres.below hb2; have hbw2 := Below.tr hbw1 hb2; clear r1 r2 r3 r4 hbw1 hb2 HPC1; by_cases hE : E = 0
  ·have h0 : (E != 0) = false := by rw [hE]; rfl
   obtain ⟨a, b, HAB⟩ : ∃ a b, Hid (L1 = Nm.lb a ∧ L2 = Nm.lb (Nm.dn b) ∧ Nm.Good a b ∧ pE a b pn = 0) := by
    rcases HE.out with ⟨h1, h2⟩ | ⟨a, b, h1, h2, h3, h4⟩
    ·exact absurd (h2.symm.trans hE) h1
    ·exact ⟨a, b, h1, h2, h3, by rw [← h4]; exact hE⟩
   obtain ⟨rfl, rfl, ga, HPE⟩ := HAB.out; have HPE0 := Lib.hid HPE; have hra := (hrl.below hbw2).rat; clear hE HE HPE; go_wp2_with fail; refine (rof_n s 1 _ hsl (by omega) (by omega)).mono ?_; rintro e w3 ⟨v, er, rfl, hR, hb3⟩; obtain ⟨rfl, hR1, _⟩ := hR.small (by omega) (b64 (by omega)) (b64 (by omega)); rw [Nat.gcd_one_right, Nat.div_one, Nat.div_one] at hR1; have gs := Good_int hsl; obtain ⟨D1, m1, o1, D2, m2, o2, rfl⟩ := hR1.shape; have hbA := bA w3 (.cells #[.slice D1 m1 o1, .slice D2 m2 o2] 24); have hx : Box (w3.alloc (.cells #[.slice D1 m1 o1, .slice D2 m2 o2] 24)) w3.heap.size (.slice D1 m1 o1) (.slice D2 m2 o2) := Blk.new _ _ _; have hres3 := (hres.below hb3); have hne : w3.heap.size ≠ w.heap.size := Nat.ne_of_gt hres3.lt; have hres := hres3.below hbA; have hbw3 := Below.tr (Below.tr hbw2 hb3) hbA; have hraA := hra.below (Below.tr hb3 hbA); have hR1A := hR1.below hbA; obtain ⟨w4, HW4⟩ : ∃ W, Hid (W = w3.alloc (.cells #[.slice D1 m1 o1, .slice D2 m2 o2] 24)) := ⟨_, rfl⟩; rw [← HW4.out] at hx hres hbw3 hraA hR1A; obtain ⟨B1, l1, d1', B2, l2, d2', hsh⟩ := hraA.shape; have q4 := HPC.out 4 _ rfl; have q5 := HPC.out 5 _ rfl; simp only [Value.agg.injEq, Array.mk.injEq, List.cons.injEq, and_true] at hsh; rw [hsh.1] at q4; rw [hsh.2] at q5; rw [hsh.1, hsh.2] at hraA; clear hR hR1 hb3 hbA hres3 hra hbw2 hsh hrl; go_wp2_with fail; rw [← HW4.out]; refine region_invl (PhiE w3.heap.size (.slice D1 m1 o1) (.slice D2 m2 o2) (.slice (some ⟨bp, offp, none⟩) kl cl) n bp (offp + n * 24) (.agg #[.slice B1 l1 d1', .slice B2 l2 d2']) w.heap.size (s * a) (1 * b)) (RM w.heap.size w.heap.size (s * a) (1 * b)) (SE w3.heap.size (.slice D1 m1 o1) (.slice D2 m2 o2) s 1 (.agg #[.slice B1 l1 d1', .slice B2 l2 d2']) a b w) (by kernel_rfl) (by kernel_rfl) (by kernel_rfl) PhiE.keep ⟨hx, hR1A, hraA, hres.sl, hbw3.drew, hne⟩ ?_ ?_
   ·refine sK ?_ (sK ?_ (sK ?_ (sK ?_ (sK ?_ (sK ?_ (sK ?_ (sK ?_ (sK ?_ (sK ?_ (sK ?_ (sZ)))))))))))
    ·as_aux_lemma =>
     intro vs L W hS hL cl hdep K hK; have f1 := hS.box.facts.1; have f2 := hS.box.facts.2; refine ⟨?_⟩; simp only [fillR, Act.put, sA, sB, sC, Nat.zero_add, Nat.reduceAdd] at hK ⊢; go_simp; with_reducible refine hK _ _ (RM.refl _) (hS.step (Below.refl _ _) 0) ?_
     exact rfl
    ·as_aux_lemma =>
     intro vs L W hS hL cl hdep K hK; refine ⟨?_⟩; simp only [fillR, Act.put, sA, sB, sC, Nat.zero_add, Nat.reduceAdd] at hK ⊢; go_simp; with_reducible refine hK _ _ (RM.refl _) (hS.step (Below.refl _ _) 1) ?_
     exact rfl
    ·as_aux_lemma =>
     intro vs L W hS hL cl hdep K hK; refine ⟨?_⟩; simp only [fillR, Act.put, sA, sB, sC, Nat.zero_add, Nat.reduceAdd] at hK ⊢; go_simp; with_reducible refine hK _ _ (RM.refl _) (hS.step (Below.refl _ _) 2) ?_
     exact rfl
    ·as_aux_lemma =>
     intro vs L W hS hL cl hdep K hK; have d0 := hdep ⟨1, .data⟩ (by simp) rfl; simp only [PhiE] at d0; have d1 := hdep ⟨2, .data⟩ (by simp) rfl; simp only [PhiE] at d1; refine ⟨?_⟩; simp only [fillR, Act.put, sA, sB, sC, Nat.zero_add, Nat.reduceAdd, d0, d1] at hK ⊢; go_simp; with_reducible refine hK _ _ (RM.refl _) (hS.step (Below.refl _ _) 3) ?_
     exact rfl
    ·as_aux_lemma =>
     intro vs L W hS hL cl hdep K hK; have d0 := hdep ⟨3, .data⟩ (by simp) rfl; simp only [PhiE] at d0; refine ⟨?_⟩; simp only [fillR, Act.put, sA, sB, sC, Nat.zero_add, Nat.reduceAdd, d0] at hK ⊢; go_simp; with_reducible refine hK _ _ (RM.refl _) (hS.step (Below.refl _ _) 4) ?_
     exact rfl
    ·as_aux_lemma =>
     intro vs L W hS hL cl hdep K hK; have d0 := hdep ⟨4, .data⟩ (by simp) rfl; simp only [PhiE] at d0; have f4 := cell_keep hS.be q4; have f5 := cell_keep hS.be q5; refine ⟨?_⟩; simp only [fillR, Act.put, sA, sB, sC, Nat.zero_add, Nat.reduceAdd, d0] at hK ⊢; go_simp; with_reducible refine hK _ _ (RM.refl _) (hS.step (Below.refl _ _) 5) ?_
     exact rfl
    ·as_aux_lemma =>
     intro vs L W hS hL cl hdep K hK; have d0 := hdep ⟨0, .data⟩ (by simp) rfl; simp only [PhiE] at d0; have d1 := hdep ⟨5, .data⟩ (by simp) rfl; simp only [PhiE] at d1; refine ⟨?_⟩; simp only [fillR, Act.put, sA, sB, sC, Nat.zero_add, Nat.reduceAdd, d0, d1] at hK ⊢; go_simp; refine (rmul_n _ _ s 1 a b _ hS.ra hS.rb gs ga).mono ?_; rintro e w' ⟨v, er, rfl, hn, hb⟩; go_wp2_with fail; with_reducible refine hK _ _ (RM.below hb hS.be.size hS.sl.lt) (hS.step hb 6) ?_
     exact ⟨v, er, rfl, hn⟩
    ·as_aux_lemma =>
     intro vs L W hS hL cl hdep K hK; have d0 := hdep ⟨6, .data⟩ (by simp) rfl; simp only [PhiE] at d0; refine @exE2 _ _ _ _ d0 ?_; clear d0; intro v0 er0 d0; have e0 := d0.1; have n0 := d0.2; clear d0; refine ⟨?_⟩; simp only [fillR, Act.put, sA, sB, sC, Nat.zero_add, Nat.reduceAdd, e0] at hK ⊢; go_simp; with_reducible refine hK _ _ (RM.refl _) (hS.step (Below.refl _ _) 7) ?_
     exact RedV.of n0
    ·as_aux_lemma =>
     intro vs L W hS hL cl hdep K hK; have d0 := hdep ⟨6, .data⟩ (by simp) rfl; simp only [PhiE] at d0; refine @exE2 _ _ _ _ d0 ?_; clear d0; intro v0 er0 d0; have e0 := d0.1; have n0 := d0.2; clear d0; refine ⟨?_⟩; simp only [fillR, Act.put, sA, sB, sC, Nat.zero_add, Nat.reduceAdd, e0] at hK ⊢; go_simp; with_reducible refine hK _ _ (RM.refl _) (hS.step (Below.refl _ _) 8) ?_
     exact ⟨_, rfl, n0.err⟩
    ·as_aux_lemma =>
     intro vs L W hS hL cl hdep K hK; have d0 := hdep ⟨7, .data⟩ (by simp) rfl; simp only [PhiE] at d0; obtain ⟨A, k, c, A', k', c', er, e0, n0⟩ := d0; obtain ⟨r1, r2, r3, r4, r5, r6, hres⟩ := hS.sl; have q1 := hres.cell 0; have q2 := hres.cell 1; have q3 := hres.frozen 0; have q4 := hres.frozen 1; simp at q1 q2; have HR2 := Lib.hid (RM.store (B := w.heap.size) hS.sl (Nat.le_refl _) n0); clear hres; refine ⟨?_⟩; simp only [fillR, Act.put, sA, sB, sC, Nat.zero_add, Nat.reduceAdd, e0] at hK ⊢; go_simp; with_reducible refine hK undef _ HR2.out.1 (hS.stored HR2.out.1) ?_
     exact HR2.out.2
    ·as_aux_lemma =>
     intro vs L W hS hL cl hdep K hK; have d0 := hdep ⟨8, .data⟩ (by simp) rfl; simp only [PhiE] at d0; refine @exE1 _ _ _ d0 ?_; clear d0; intro er0 d0; have e0 := d0.1; have n0 := d0.2; clear d0; refine ⟨?_⟩; simp only [fillR, Act.put, sA, sB, sC, Nat.zero_add, Nat.reduceAdd, e0] at hK ⊢; go_simp; with_reducible refine hK _ _ (RM.refl _) (hS.step (Below.refl _ _) 10) ?_
     exact ⟨_, rfl, n0⟩
   ·intro vs L W hS hall hv; have v9 := hv 9 (by simp); have v10 := hv 10 (by simp); simp only [PhiE] at v9 v10; obtain ⟨er, e10, hErr⟩ := v10; obtain ⟨A9, k9, c9, A9', k9', c9', er', hblk, hP9⟩ := v9; obtain rfl : er = er' := hErr.uniq hP9.err; have hbeW := hS.be; have q1 := hblk.cell 0; have q2 := hblk.cell 1; simp at q1 q2; have HP := Lib.hid hP9; clear hv hErr hS hall q4 q5 hblk hP9; simp only [fillR, Act.put, sA, sB, sC, Nat.zero_add, Nat.reduceAdd, e10]; go_wp2_with fail; exact bodyPost_ret (v := .tuple #[.agg #[.slice A9 k9 c9, .slice A9' k9' c9'], .int .i64 er]) (by simp [results, Try.results44, go_sem, q1, q2]) rfl ⟨_, _, rfl, .inr ⟨n, s, pn, rfl, rfl, HPN.out.1, .inr ⟨a, b, HL.out.1, HL.out.2, ga, HPE0.out, HP.out⟩⟩, hbeW⟩
  ·have h0 : (E != 0) = true := by simpa using hE
   have HE2 := Lib.hid hE; obtain ⟨r1, r2, r3, r4⟩ := hres.facts; obtain ⟨s1, s2⟩ := hres.set2 (.slice none 0 0) (.slice none 0 0); have hbw := below_set2 hbw2 (Nat.le_refl _) (.slice none 0 0) (.slice none 0 0); clear hE; go_wp2_with fail; exact bodyPost_ret (v := .tuple #[nilRat, .int .i64 E]) (by simp [results, Try.results44, go_sem, s1, s2, nilRat]) rfl ⟨_, _, rfl, .inr ⟨n, s, pn, rfl, rfl, HPN.out.1, .inl ⟨E, HE2.out, by rw [HL.out.1, HL.out.2]; exact HE.out, rfl, rfl⟩⟩, hbw⟩
end Go.Proofs.Yticobffjnjbjiaa
namespace Go.Proofs.Yticobffjnjbjiaa
open Go Go.RowKit
/-- a line of two own rows in the block g -/
structure BSt (w W : World) (g : Nat) (A1 : Option Addr) (k1 c1 : Nat) (A2 : Option Addr) (k2 c2 : Nat) (X1 X2 : List IT) : Prop where
 bg : Blk W g 72 #[.slice A1 k1 c1, .slice A2 k2 c2]
 o1 : W.ownsRow (w.heap.size + 2) 122 24 (.slice A1 k1 c1) k1 (X1.flatMap cellsI)
 o2 : W.ownsRow (w.heap.size + 2) 122 24 (.slice A2 k2 c2) k2 (X2.flatMap cellsI)
 b6 : Blk W (w.heap.size + 1) 72 #[.slice none 0 0, .slice none 0 0]
 be : Below w.heap.size w W
 ng : w.heap.size + 2 ≤ g
 ap : 0 < k1 ∨ 0 < k2 → Apt (.slice A1 k1 c1) (.slice A2 k2 c2)
theorem BSt.below {w W W' : World} {g : Nat} {A1 : Option Addr} {k1 c1 : Nat} {A2 : Option Addr} {k2 c2 : Nat} {X1 X2 : List IT} (h : BSt w W g A1 k1 c1 A2 k2 c2 X1 X2) (hb : Below W.heap.size W W') : BSt w W' g A1 k1 c1 A2 k2 c2 X1 X2 :=
 ⟨Blk.below h.bg hb h.bg.lt, own_below h.o1 hb, own_below h.o2 hb, Blk.below h.b6 hb h.b6.lt, Below.tr h.be hb, h.ng, h.ap⟩
theorem BSt.len1 {w W : World} {g : Nat} {A1 : Option Addr} {k1 c1 : Nat} {A2 : Option Addr} {k2 c2 : Nat} {X1 X2 : List IT} (h : BSt w W g A1 k1 c1 A2 k2 c2 X1 X2) : X1.length = k1 := by
 have := h.o1.1; rw [flat_len cellsI_len] at this; omega
theorem BSt.len2 {w W : World} {g : Nat} {A1 : Option Addr} {k1 c1 : Nat} {A2 : Option Addr} {k2 c2 : Nat} {X1 X2 : List IT} (h : BSt w W g A1 k1 c1 A2 k2 c2 X1 X2) : X2.length = k2 := by
 have := h.o2.1; rw [flat_len cellsI_len] at this; omega
theorem own_at {w : World} {base : Nat} {e : TypeId} {size : Nat} {A : Option Addr} {n c : Nat} {xs : List Value} (h : w.ownsRow base e size (.slice A n c) n xs) (hn : 0 < n) : ∃ b, A = some ⟨b, 0, none⟩ ∧ base ≤ b := by
 rcases h.2 with ⟨_, h0⟩ | ⟨g, cap, cur, e, hb, _⟩
 ·omega
 ·injection e with e _ _; exact ⟨g, e, hb⟩
theorem own_rowR {w : World} {base : Nat} {T : TypeId} {A : Option Addr} {n c : Nat} {X : List IT} (hn : n ≤ 281474976710656) (h : w.ownsRow base T 24 (.slice A n c) n (X.flatMap cellsI)) : RowS cellsI w A n X := by
 obtain ⟨_, _, e, hr⟩ := own_rowS cellsI_len (by omega) hn h; injection e with e1 _ _; subst e1; exact hr
theorem own_geA {w : World} {base : Nat} {T : TypeId} {A : Option Addr} {n c : Nat} {xs : List Value} (h : w.ownsRow base T 24 (.slice A n c) n xs) : ∀ b off, A = some ⟨b, off, none⟩ → base ≤ b := by
 intro b off e; subst e; exact own_block_ge h b rfl
theorem own_cap {w : World} {base : Nat} {e : TypeId} {size : Nat} {A : Option Addr} {n c : Nat} {xs : List Value} (h : w.ownsRow base e size (.slice A n c) n xs) : n ≤ c := by
 rcases h.2 with ⟨e, h0⟩ | ⟨g, cap, cur, e, _, _, hc, _⟩
 ·omega
 ·injection e with _ _ e; omega
theorem zero_rln : (Try.prog.info? 72).map (fun i => i.zero) = some (some (.agg #[.slice none 0 0, .slice none 0 0])) := by kernel_rfl
def PhiBe1 (N g3 : Nat) (A1 : Option Addr) (k1 c1 : Nat) (A2 : Option Addr) (k2 c2 : Nat) (X1 X2 : List IT) (vs : Nat → Value) (j : Nat) (w : World) (x : Value) : Prop :=
 match j with
 | 0 => ∃ b, x = .slice (some ⟨b, 0, none⟩) 0 0 ∧ w.ownsRow N 122 24 x 0 []
 | 1 => x = .pointer (some ⟨g3, 0, none⟩)
 | 2 => x = .slice A1 k1 c1
 | 3 => ∃ A c, x = .slice A k1 c ∧ w.ownsRow N 122 24 x k1 (X1.flatMap cellsI)
 | 4 => ∃ b, x = .slice (some ⟨b, 0, none⟩) 0 0 ∧ w.ownsRow N 122 24 x 0 []
 | 5 => x = .pointer (some ⟨g3, 1, none⟩)
 | 6 => x = .slice A2 k2 c2
 | 7 => ∃ A c, x = .slice A k2 c ∧ w.ownsRow N 122 24 x k2 (X2.flatMap cellsI) ∧ (0 < k1 ∨ 0 < k2 → Apt (vs 3) x)
 | 8 => ∃ A c A' c', x = .agg #[.slice A k1 c, .slice A' k2 c'] ∧ w.ownsRow N 122 24 (.slice A k1 c) k1 (X1.flatMap cellsI) ∧ w.ownsRow N 122 24 (.slice A' k2 c') k2 (X2.flatMap cellsI) ∧ (0 < k1 ∨ 0 < k2 → Apt (.slice A k1 c) (.slice A' k2 c'))
 | 9 => ∃ g, x = .pointer (some ⟨g, 0, none⟩) ∧ N ≤ g ∧ Blk w g 72 #[.slice none 0 0, .slice none 0 0]
 | _ => True
theorem PhiBe1.keepR {N g3 : Nat} {A1 : Option Addr} {k1 c1 : Nat} {A2 : Option Addr} {k2 c2 : Nat} {X1 X2 : List IT} : ∀ vs (w w' : World), Below w.heap.size w w' → ∀ j x, PhiBe1 N g3 A1 k1 c1 A2 k2 c2 X1 X2 vs j w x → PhiBe1 N g3 A1 k1 c1 A2 k2 c2 X1 X2 vs j w' x := by
 intro vs w w' hb j x h; unfold PhiBe1 at h ⊢
 split <;> simp only at h ⊢ <;> first | exact h | skip
 ·obtain ⟨b, e, h⟩ := h; exact ⟨b, e, own_below h hb⟩
 ·obtain ⟨A, c, e, h⟩ := h; exact ⟨A, c, e, own_below h hb⟩
 ·obtain ⟨b, e, h⟩ := h; exact ⟨b, e, own_below h hb⟩
 ·obtain ⟨A, c, e, h, h2⟩ := h; exact ⟨A, c, e, own_below h hb, h2⟩
 ·obtain ⟨A, c, A', c', e, h1, h2, h3⟩ := h; exact ⟨A, c, A', c', e, own_below h1 hb, own_below h2 hb, h3⟩
 ·obtain ⟨g, e, h1, h2⟩ := h; exact ⟨g, e, h1, Blk.below h2 hb h2.lt⟩
theorem PhiBe1.keepF {N g3 : Nat} {A1 : Option Addr} {k1 c1 : Nat} {A2 : Option Addr} {k2 c2 : Nat} {X1 X2 : List IT} : ∀ vs (w w' : World) j x, ([] : List Nat).contains j = true → PhiBe1 N g3 A1 k1 c1 A2 k2 c2 X1 X2 vs j w x → PhiBe1 N g3 A1 k1 c1 A2 k2 c2 X1 X2 vs j w' x := by
 intro vs w w' j x hf
 cases hf
def SB1 (w w1 : World) (k1 k2 : Nat) (X1 X2 : List IT) : List Value → (Nat → Value) → World → Prop
 | [], _, W => Below w1.heap.size w1 W
 | _, vs, W => ∃ g A1 c1 A2 c2, vs 9 = .pointer (some ⟨g, 0, none⟩) ∧ BSt w W g A1 k1 c1 A2 k2 c2 X1 X2
theorem SB1.ins {w w1 : World} {k1 k2 : Nat} {X1 X2 : List IT} : ∀ li vs vs' W, (∀ j ∈ [9], vs j = vs' j) → SB1 w w1 k1 k2 X1 X2 li vs W → SB1 w w1 k1 k2 X1 X2 li vs' W := by
 rintro (_ | ⟨_, _⟩) vs vs' W hd h
 ·exact h
 ·obtain ⟨g, A1, c1, A2, c2, e, h2⟩ := h; exact ⟨g, A1, c1, A2, c2, by rw [← hd 9 (by simp)]; exact e, h2⟩
theorem tdiv3_bd (n : Int) (h1 : -9223372036854775808 ≤ n) (h2 : n ≤ 9223372036854775807) : -9223372036854775808 ≤ n.tdiv 3 ∧ n.tdiv 3 ≤ 9223372036854775807 := by
 rcases Int.le_total 0 n with h | h
 ·rw [Int.tdiv_eq_ediv_of_nonneg h]; omega
 ·obtain ⟨m, rfl⟩ : ∃ m, n = -m := ⟨-n, by omega⟩; rw [Int.neg_tdiv, Int.tdiv_eq_ediv_of_nonneg (by omega)]; omega
theorem info_rlnL {v1 v2 : Value} : (Try.prog.info? 72).map (·.size) = some ([v1, v2] : List Value).length := by kernel_rfl
theorem RowS.setAll {α : Type} {f : α → List Value} {A : Option Addr} {k g : Nat} {l : List α} (hb : ∀ b off, A = some ⟨b, off, none⟩ → b ≠ g) : ∀ (vs : List Value) (o : Nat) {w : World}, RowS f w A k l → RowS f (w.setCells g o vs) A k l
 | [], _, _, h => h
 | _ :: vs, o, _, h => RowS.setAll hb vs (o + 1) (RowS.set (p := ⟨g, o, none⟩) h hb _)
/-- the line behind a turn: where the second list is empty, nothing is asked of it -/
structure BSw (w W : World) (g : Nat) (A1 : Option Addr) (k1 c1 : Nat) (A2 : Option Addr) (k2 c2 : Nat) (X1 X2 : List IT) : Prop where
 bg : Blk W g 72 #[.slice A1 k1 c1, .slice A2 k2 c2]
 o1 : W.ownsRow (w.heap.size + 2) 122 24 (.slice A1 k1 c1) k1 (X1.flatMap cellsI)
 o2 : 0 < k2 → W.ownsRow (w.heap.size + 2) 122 24 (.slice A2 k2 c2) k2 (X2.flatMap cellsI)
 l2 : X2.length = k2
 g2 : ∀ b off, A2 = some ⟨b, off, none⟩ → w.heap.size + 2 ≤ b
 b6 : Blk W (w.heap.size + 1) 72 #[.slice none 0 0, .slice none 0 0]
 be : Below w.heap.size w W
 ng : w.heap.size + 2 ≤ g
theorem BSt.weak {w W : World} {g : Nat} {A1 : Option Addr} {k1 c1 : Nat} {A2 : Option Addr} {k2 c2 : Nat} {X1 X2 : List IT} (h : BSt w W g A1 k1 c1 A2 k2 c2 X1 X2) : BSw w W g A1 k1 c1 A2 k2 c2 X1 X2 := ⟨h.bg, h.o1, fun _ => h.o2, h.len2, own_geA h.o2, h.b6, h.be, h.ng⟩
theorem BSw.rowB {w W : World} {g : Nat} {A1 : Option Addr} {k1 c1 : Nat} {A2 : Option Addr} {k2 c2 : Nat} {X1 X2 : List IT} (h : BSw w W g A1 k1 c1 A2 k2 c2 X1 X2) (hk : k2 ≤ 281474976710656) : RowS cellsI W A2 k2 X2 := by
 rcases Nat.eq_zero_or_pos k2 with h0 | h0
 ·have := h.l2; subst h0; obtain rfl := List.eq_nil_of_length_eq_zero this; exact ⟨fun h => absurd rfl h, rfl, hk⟩
 ·exact own_rowR hk (h.o2 h0)
theorem BSw.below {w W W' : World} {g : Nat} {A1 : Option Addr} {k1 c1 : Nat} {A2 : Option Addr} {k2 c2 : Nat} {X1 X2 : List IT} (h : BSw w W g A1 k1 c1 A2 k2 c2 X1 X2) (hb : Below W.heap.size W W') : BSw w W' g A1 k1 c1 A2 k2 c2 X1 X2 :=
 ⟨Blk.below h.bg hb h.bg.lt, own_below h.o1 hb, fun h0 => own_below (h.o2 h0) hb, h.l2, h.g2, Blk.below h.b6 hb h.b6.lt, Below.tr h.be hb, h.ng⟩
theorem BSt.apart {w W : World} {g : Nat} {A1 : Option Addr} {k1 c1 : Nat} {A2 : Option Addr} {k2 c2 : Nat} {X1 X2 : List IT} (h : BSt w W g A1 k1 c1 A2 k2 c2 X1 X2) (hk : 0 < k1 ∨ 0 < k2) : Apt (.slice A1 k1 c1) (.slice A2 k2 c2) ∧ Apt (.slice A2 k2 c2) (.slice A1 k1 c1) :=
 ⟨h.ap hk, fun j h1 h2 => h.ap hk j h2 h1⟩
/-- a cell of an item of the first list is written -/
theorem BSt.stored {w W : World} {g b : Nat} {k1 c1 : Nat} {A2 : Option Addr} {k2 c2 : Nat} {X1 X2 : List IT} (h : BSt w W g (some ⟨b, 0, none⟩) k1 c1 A2 k2 c2 X1 X2) {kk j : Nat} {it it' : IT} {u : Value} (hk : X1[kk]? = some it) (hj : j < 24) (he : cellsI it' = (cellsI it).set j u) :
  BSw w (W.setCell ⟨b, kk * 24 + j, none⟩ u) g (some ⟨b, 0, none⟩) k1 c1 A2 k2 c2 (X1.set kk it') X2 := by
 have ge := own_block_ge h.o1 b rfl; have ne := own_ne h.o1 h.bg (by decide); refine ⟨h.bg.far (p := ⟨b, kk * 24 + j, none⟩) (fun e => ne (by rw [e]; rfl)) _, ?_, fun h0 => own_setn (p := ⟨b, kk * 24 + j, none⟩) h.o2 (fun e => h.ap (.inr h0) b rfl e) _, h.len2, own_geA h.o2, h.b6.far (p := ⟨b, kk * 24 + j, none⟩) (by show w.heap.size + 1 ≠ b; omega) _, h.be.setCell (p := ⟨b, kk * 24 + j, none⟩) (by show w.heap.size ≤ b; omega) _, h.ng⟩; rw [← flat_set cellsI_len X1 kk j u it it' hk hj he]; exact (World.ownsRow.stored h.o1 (kk * 24 + j) u).1
theorem built_t0 {n : Int} : (Try.prog).built 122 [(0, .string ⟨#[116, 48]⟩), (2, .int .i64 n)] = some (cellsI ⟨⟨#[116, 48]⟩, rPass, n⟩).toArray := by kernel_rfl
theorem rPass_ty : RcTy rPass := ⟨0, 0, 0, 0, 0, 0, 0, 0, 0, 0, 0, 0, 0, 0, 0, 0, 0, 0, 0, rfl⟩
theorem RowS.tail {w : World} {b off k : Nat} {X : List IT} (h : RowS cellsI w (some ⟨b, off, none⟩) k X) (i : Nat) (hi : i ≤ k) : RowS cellsI w (some ⟨b, off + i * 24, none⟩) (k - i) (X.drop i) := by
 refine ⟨?_, by rw [List.length_drop, ← h.2.1], by have := h.2.2; omega⟩; rw [← flat_drop cellsI_len]; exact h.1.drop _
def PhiBe10 (g : Nat) (A1 : Option Addr) (k1 c1 : Nat) (A2 : Option Addr) (k2 c2 : Nat) (b kk : Nat) (it : IT) (by_ q : Int) (vs : Nat → Value) (j : Nat) (w : World) (x : Value) : Prop :=
 match j with
 | 0 => x = .pointer (some ⟨g, 1, none⟩)
 | 1 => x = .slice A2 k2 c2
 | 2 => x = .pointer (some ⟨g, 0, none⟩)
 | 3 => x = .slice A1 k1 c1
 | 4 => x = .int .i64 (kk : Nat)
 | 5 => x = .pointer (some ⟨b, kk * 24, none⟩)
 | 6 => x = .agg (cellsI it).toArray
 | 7 => ∃ g' it, x = .slice (some ⟨g', 0, none⟩) 1 1 ∧ Rd w (some ⟨g', 0, none⟩) (cellsI it) ∧ ItTy it
 | _ => True
theorem PhiBe10.keepR {g : Nat} {A1 : Option Addr} {k1 c1 : Nat} {A2 : Option Addr} {k2 c2 : Nat} {b kk : Nat} {it : IT} {by_ q : Int} : ∀ vs (w w' : World), Below w.heap.size w w' → ∀ j x, PhiBe10 g A1 k1 c1 A2 k2 c2 b kk it by_ q vs j w x → PhiBe10 g A1 k1 c1 A2 k2 c2 b kk it by_ q vs j w' x := by
 intro vs w w' hb j x h; unfold PhiBe10 at h ⊢
 split <;> simp only at h ⊢ <;> first | exact h | skip
 obtain ⟨g, it, e, h1, h2⟩ := h; exact ⟨g, it, e, h1.below hb, h2⟩
theorem PhiBe10.keepF {g : Nat} {A1 : Option Addr} {k1 c1 : Nat} {A2 : Option Addr} {k2 c2 : Nat} {b kk : Nat} {it : IT} {by_ q : Int} : ∀ vs (w w' : World) j x, ([] : List Nat).contains j = true → PhiBe10 g A1 k1 c1 A2 k2 c2 b kk it by_ q vs j w x → PhiBe10 g A1 k1 c1 A2 k2 c2 b kk it by_ q vs j w' x := by
 intro vs w w' j x hf h; unfold PhiBe10 at h ⊢
 split <;> simp only at h ⊢ <;> first | exact h | exact absurd hf (by decide)
def PhiBe14 (g : Nat) (A1 : Option Addr) (k1 c1 : Nat) (A2 : Option Addr) (k2 c2 : Nat) (b kk : Nat) (it : IT) (by_ q : Int) (vs : Nat → Value) (j : Nat) (w : World) (x : Value) : Prop :=
 match j with
 | 0 => x = .pointer (some ⟨g, 0, none⟩)
 | 1 => x = .slice A1 k1 c1
 | 2 => x = .pointer (some ⟨g, 1, none⟩)
 | 3 => x = .slice A2 k2 c2
 | 4 => x = .pointer (some ⟨b, 0, none⟩)
 | 5 => x = .agg (cellsI it).toArray
 | 6 => ∃ g' it, x = .slice (some ⟨g', 0, none⟩) 1 1 ∧ Rd w (some ⟨g', 0, none⟩) (cellsI it) ∧ ItTy it
 | _ => True
theorem PhiBe14.keepR {g : Nat} {A1 : Option Addr} {k1 c1 : Nat} {A2 : Option Addr} {k2 c2 : Nat} {b kk : Nat} {it : IT} {by_ q : Int} : ∀ vs (w w' : World), Below w.heap.size w w' → ∀ j x, PhiBe14 g A1 k1 c1 A2 k2 c2 b kk it by_ q vs j w x → PhiBe14 g A1 k1 c1 A2 k2 c2 b kk it by_ q vs j w' x := by
 intro vs w w' hb j x h; unfold PhiBe14 at h ⊢
 split <;> simp only at h ⊢ <;> first | exact h | skip
 obtain ⟨g, it, e, h1, h2⟩ := h; exact ⟨g, it, e, h1.below hb, h2⟩
theorem PhiBe14.keepF {g : Nat} {A1 : Option Addr} {k1 c1 : Nat} {A2 : Option Addr} {k2 c2 : Nat} {b kk : Nat} {it : IT} {by_ q : Int} : ∀ vs (w w' : World) j x, ([] : List Nat).contains j = true → PhiBe14 g A1 k1 c1 A2 k2 c2 b kk it by_ q vs j w x → PhiBe14 g A1 k1 c1 A2 k2 c2 b kk it by_ q vs j w' x := by
 intro vs w w' j x hf h; unfold PhiBe14 at h ⊢
 split <;> simp only at h ⊢ <;> first | exact h | exact absurd hf (by decide)
def PhiBe4 (g : Nat) (A1 : Option Addr) (k1 c1 : Nat) (A2 : Option Addr) (k2 c2 : Nat) (b kk : Nat) (it : IT) (by_ q : Int) (vs : Nat → Value) (j : Nat) (w : World) (x : Value) : Prop :=
 match j with
 | 0 => x = .pointer (some ⟨g, 0, none⟩)
 | 1 => x = .slice A1 k1 c1
 | 2 => x = .int .i64 by_
 | 3 => ∃ z : Nat, x = .int .i64 z ∧ z < 3
 | 4 => ∃ n : Int, x = .int .i64 n
 | 5 => ∃ n : Int, x = .agg (cellsI ⟨⟨#[116, 48]⟩, rPass, n⟩).toArray
 | 6 => ∃ g' it, x = .slice (some ⟨g', 0, none⟩) 1 1 ∧ Rd w (some ⟨g', 0, none⟩) (cellsI it) ∧ ItTy it
 | _ => True
theorem PhiBe4.keepR {g : Nat} {A1 : Option Addr} {k1 c1 : Nat} {A2 : Option Addr} {k2 c2 : Nat} {b kk : Nat} {it : IT} {by_ q : Int} : ∀ vs (w w' : World), Below w.heap.size w w' → ∀ j x, PhiBe4 g A1 k1 c1 A2 k2 c2 b kk it by_ q vs j w x → PhiBe4 g A1 k1 c1 A2 k2 c2 b kk it by_ q vs j w' x := by
 intro vs w w' hb j x h; unfold PhiBe4 at h ⊢
 split <;> simp only at h ⊢ <;> first | exact h | skip
 obtain ⟨g, it, e, h1, h2⟩ := h; exact ⟨g, it, e, h1.below hb, h2⟩
theorem PhiBe4.keepF {g : Nat} {A1 : Option Addr} {k1 c1 : Nat} {A2 : Option Addr} {k2 c2 : Nat} {b kk : Nat} {it : IT} {by_ q : Int} : ∀ vs (w w' : World) j x, ([] : List Nat).contains j = true → PhiBe4 g A1 k1 c1 A2 k2 c2 b kk it by_ q vs j w x → PhiBe4 g A1 k1 c1 A2 k2 c2 b kk it by_ q vs j w' x := by
 intro vs w w' j x hf h; unfold PhiBe4 at h ⊢
 split <;> simp only at h ⊢ <;> first | exact h | exact absurd hf (by decide)
def PhiBe11 (g : Nat) (A1 : Option Addr) (k1 c1 : Nat) (A2 : Option Addr) (k2 c2 : Nat) (b kk : Nat) (it : IT) (by_ q : Int) (vs : Nat → Value) (j : Nat) (w : World) (x : Value) : Prop :=
 match j with
 | 0 => x = .pointer (some ⟨g, 0, none⟩)
 | 1 => x = .slice A1 k1 c1
 | 2 => x = .int .i64 (kk : Nat)
 | 3 => x = .slice A1 kk c1
 | 4 => x = .pointer (some ⟨g, 0, none⟩)
 | 5 => x = .slice A1 k1 c1
 | 6 => x = .int .i64 (kk : Nat)
 | 7 => x = .int .i64 ((kk : Int) + 1)
 | 8 => x = .slice (if c1 = kk + 1 then some ⟨b, 0, none⟩ else some ⟨b, (kk + 1) * 24, none⟩) (k1 - (kk + 1)) (c1 - (kk + 1))
 | _ => True
theorem PhiBe11.keepR {g : Nat} {A1 : Option Addr} {k1 c1 : Nat} {A2 : Option Addr} {k2 c2 : Nat} {b kk : Nat} {it : IT} {by_ q : Int} : ∀ vs (w w' : World), Below w.heap.size w w' → ∀ j x, PhiBe11 g A1 k1 c1 A2 k2 c2 b kk it by_ q vs j w x → PhiBe11 g A1 k1 c1 A2 k2 c2 b kk it by_ q vs j w' x := by
 intro vs w w' hb j x h; unfold PhiBe11 at h ⊢
 split <;> simp only at h ⊢ <;> first | exact h | skip
theorem PhiBe11.keepF {g : Nat} {A1 : Option Addr} {k1 c1 : Nat} {A2 : Option Addr} {k2 c2 : Nat} {b kk : Nat} {it : IT} {by_ q : Int} : ∀ vs (w w' : World) j x, ([] : List Nat).contains j = true → PhiBe11 g A1 k1 c1 A2 k2 c2 b kk it by_ q vs j w x → PhiBe11 g A1 k1 c1 A2 k2 c2 b kk it by_ q vs j w' x := by
 intro vs w w' j x hf h; unfold PhiBe11 at h ⊢
 split <;> simp only at h ⊢ <;> first | exact h | exact absurd hf (by decide)
def PhiBe7 (g : Nat) (A1 : Option Addr) (k1 c1 : Nat) (A2 : Option Addr) (k2 c2 : Nat) (b kk : Nat) (it : IT) (by_ q : Int) (vs : Nat → Value) (j : Nat) (w : World) (x : Value) : Prop :=
 match j with
 | 0 => x = .pointer (some ⟨g, 0, none⟩)
 | 1 => x = .slice A1 k1 c1
 | 2 => x = .int .i64 (kk : Nat)
 | 3 => x = .int .i64 by_
 | 4 => x = .int .i64 q
 | 5 => ∃ z : Nat, x = .int .i64 z ∧ z < 5
 | 6 => ∃ n : Int, x = .int .i64 n
 | 7 => x = .pointer (some ⟨b, kk * 24, none⟩)
 | 8 => x = .pointer (some ⟨b, kk * 24 + 23, none⟩)
 | _ => True
theorem PhiBe7.keepR {g : Nat} {A1 : Option Addr} {k1 c1 : Nat} {A2 : Option Addr} {k2 c2 : Nat} {b kk : Nat} {it : IT} {by_ q : Int} : ∀ vs (w w' : World), Below w.heap.size w w' → ∀ j x, PhiBe7 g A1 k1 c1 A2 k2 c2 b kk it by_ q vs j w x → PhiBe7 g A1 k1 c1 A2 k2 c2 b kk it by_ q vs j w' x := by
 intro vs w w' hb j x h; unfold PhiBe7 at h ⊢
 split <;> simp only at h ⊢ <;> first | exact h | skip
theorem PhiBe7.keepF {g : Nat} {A1 : Option Addr} {k1 c1 : Nat} {A2 : Option Addr} {k2 c2 : Nat} {b kk : Nat} {it : IT} {by_ q : Int} : ∀ vs (w w' : World) j x, ([] : List Nat).contains j = true → PhiBe7 g A1 k1 c1 A2 k2 c2 b kk it by_ q vs j w x → PhiBe7 g A1 k1 c1 A2 k2 c2 b kk it by_ q vs j w' x := by
 intro vs w w' j x hf h; unfold PhiBe7 at h ⊢
 split <;> simp only at h ⊢ <;> first | exact h | exact absurd hf (by decide)
structure BSz (w W : World) (g : Nat) (A1 : Option Addr) (k1 c1 : Nat) (A2 : Option Addr) (k2 c2 : Nat) (X1 : List IT) : Prop where
 bg : Blk W g 72 #[.slice A1 k1 c1, .slice A2 k2 c2]
 o1 : W.ownsRow (w.heap.size + 2) 122 24 (.slice A1 k1 c1) k1 (X1.flatMap cellsI)
 b6 : Blk W (w.heap.size + 1) 72 #[.slice none 0 0, .slice none 0 0]
 be : Below w.heap.size w W
def SBe2a (w Wc : World) (g : Nat) (A1 : Option Addr) (k1 c1 : Nat) (A2 : Option Addr) (k2 c2 : Nat) (X1 X2 : List IT) (v : Value) (W : World) : Prop := ∃ A c it, v = .slice A (k2 + 1) c ∧ ItTy it ∧ Blk W g 72 #[.slice A1 k1 c1, .slice A2 k2 c2] ∧ W.ownsRow (w.heap.size + 2) 122 24 (.slice A1 k1 c1) k1 (X1.flatMap cellsI) ∧ W.ownsRow (w.heap.size + 2) 122 24 v (k2 + 1) ((X2 ++ [it]).flatMap cellsI) ∧ Blk W (w.heap.size + 1) 72 #[.slice none 0 0, .slice none 0 0] ∧ Below w.heap.size w W ∧ Apt (.slice A1 k1 c1) v
def SBe2 (w Wc : World) (g : Nat) (A1 : Option Addr) (k1 c1 : Nat) (A2 : Option Addr) (k2 c2 : Nat) (X1 X2 : List IT) : List Value → (Nat → Value) → World → Prop
 | [], _, W => Below Wc.heap.size Wc W
 | [v], _, W => SBe2a w Wc g A1 k1 c1 A2 k2 c2 X1 X2 v W
 | [v, p], _, W => p = .pointer (some ⟨g, 1, none⟩) ∧ SBe2a w Wc g A1 k1 c1 A2 k2 c2 X1 X2 v W
 | _, _, W => ∃ A c it, ItTy it ∧ BSt w W g A1 k1 c1 A (k2 + 1) c X1 (X2 ++ [it])
theorem SBe2.ins {w Wc : World} {g : Nat} {A1 : Option Addr} {k1 c1 : Nat} {A2 : Option Addr} {k2 c2 : Nat} {X1 X2 : List IT} : ∀ li vs vs' W, (∀ j ∈ ([] : List Nat), vs j = vs' j) → SBe2 w Wc g A1 k1 c1 A2 k2 c2 X1 X2 li vs W → SBe2 w Wc g A1 k1 c1 A2 k2 c2 X1 X2 li vs' W := by
 rintro (_ | ⟨_, _ | ⟨_, _ | ⟨_, _⟩⟩⟩) vs vs' W _ h <;> exact h
/-- the first list is another one, of n items -/
def SBe1a (w Wc : World) (g : Nat) (A1 : Option Addr) (k1 c1 : Nat) (A2 : Option Addr) (k2 c2 : Nat) (X1 X2 : List IT) (Y : List IT → Prop) (n : Nat) (v : Value) (W : World) : Prop := ∃ A c X, v = .slice A n c ∧ Y X ∧ Blk W g 72 #[.slice A1 k1 c1, .slice A2 k2 c2] ∧ W.ownsRow (w.heap.size + 2) 122 24 v n (X.flatMap cellsI) ∧ (0 < k2 → W.ownsRow (w.heap.size + 2) 122 24 (.slice A2 k2 c2) k2 (X2.flatMap cellsI)) ∧ Blk W (w.heap.size + 1) 72 #[.slice none 0 0, .slice none 0 0] ∧ Below w.heap.size w W
def SBe1 (w Wc : World) (g : Nat) (A1 : Option Addr) (k1 c1 : Nat) (A2 : Option Addr) (k2 c2 : Nat) (X1 X2 : List IT) (Y : List IT → Prop) (n : Nat) : List Value → (Nat → Value) → World → Prop
 | [], _, W => Below Wc.heap.size Wc W
 | [v], _, W => SBe1a w Wc g A1 k1 c1 A2 k2 c2 X1 X2 Y n v W
 | [v, p], _, W => p = .pointer (some ⟨g, 0, none⟩) ∧ SBe1a w Wc g A1 k1 c1 A2 k2 c2 X1 X2 Y n v W
 | _, _, W => ∃ A c X, Y X ∧ BSw w W g A n c A2 k2 c2 X X2
theorem SBe1.ins {w Wc : World} {g : Nat} {A1 : Option Addr} {k1 c1 : Nat} {A2 : Option Addr} {k2 c2 : Nat} {X1 X2 : List IT} {Y : List IT → Prop} {n : Nat} : ∀ li vs vs' W, (∀ j ∈ ([] : List Nat), vs j = vs' j) → SBe1 w Wc g A1 k1 c1 A2 k2 c2 X1 X2 Y n li vs W → SBe1 w Wc g A1 k1 c1 A2 k2 c2 X1 X2 Y n li vs' W := by
 rintro (_ | ⟨_, _ | ⟨_, _ | ⟨_, _⟩⟩⟩) vs vs' W _ h <;> exact h
def SBe7 (Wc : World) (b j : Nat) : List Value → (Nat → Value) → World → Prop
 | [], _, W => W = Wc.drew
 | _, _, W => ∃ n : Int, W = (Wc.setCell ⟨b, j, none⟩ (.int .i64 n)).drew
theorem SBe7.ins {Wc : World} {b j : Nat} : ∀ li vs vs' W, (∀ j ∈ ([] : List Nat), vs j = vs' j) → SBe7 Wc b j li vs W → SBe7 Wc b j li vs' W := by
 rintro (_ | ⟨_, _⟩) vs vs' W _ h <;> exact h
set_option maxRecDepth 100000 in
set_option maxHeartbeats 4000000 in
theorem bent_n (x : Ln) (how by_ : Int) (w : World) (hx : x.Ok w) (hk1 : x.k1 ≤ 1073741824) (hk2 : x.k2 ≤ 1073741824) (h1 : -9223372036854775808 ≤ how) (h2 : how ≤ 9223372036854775807) (h3 : -9223372036854775808 ≤ by_) (h4 : by_ ≤ 9223372036854775807) :
  Calls Try.prog 31 #[x.val, .int .i64 how, .int .i64 by_] w fun e w' => ∃ y : Ln, e = .returned y.val ∧ y.Ok w' ∧ y.k1 ≤ x.k1 + 1 ∧ y.k2 ≤ x.k2 + 1 ∧ Below w.heap.size w w' := by
 obtain ⟨A1, k1, c1, A2, k2, c2, X1, X2⟩ := x; simp only [Ln.val]; obtain ⟨hx1, hx2, tx1, tx2⟩ := hx; simp only at hx1 hx2 tx1 tx2 hk1 hk2; obtain ⟨i0, hi0, hz0, hz1, hz2⟩ := info_parts info_ritem; have TX1 := Lib.hid tx1; have TX2 := Lib.hid tx2; clear tx1 tx2
 go_enter Try.func31, Try.ntmps31
 go_upto_region 1 with fail; refine wp_name ?_; intro w1 HW1; have hb1 : Below w.heap.size w w1 := by rw [HW1.out]; exact Below.tr (bA _ _) (bA _ _)
 have B3 : Blk w1 w.heap.size 72 #[.slice A1 k1 c1, .slice A2 k2 c2] := by rw [HW1.out]; exact (Blk.new _ _ _).alloc _
 have B6 : Blk w1 (w.heap.size + 1) 72 #[.slice none 0 0, .slice none 0 0] := by
  rw [HW1.out]; have h := Blk.new (w.alloc (.cells #[.slice A1 k1 c1, .slice A2 k2 c2] 72)) 72 #[.slice none 0 0, .slice none 0 0]
  simpa using h
 have hsz1 : w.heap.size + 2 ≤ w1.heap.size := B6.lt; have q30 := B3.cell 0; have q31 := B3.cell 1; simp only [List.getElem?_toArray, List.getElem?_cons_zero, List.getElem?_cons_succ] at q30 q31; clear HW1; refine region_chain [10] [.early, .early, .early, .early, .early, .early, .early, .early, .early, .early, .chain 0] [] [9] (PhiBe1 (w.heap.size + 2) w.heap.size A1 k1 c1 A2 k2 c2 X1 X2) (fun w w' => Below w.heap.size w w') (SB1 w w1 k1 k2 X1 X2) (by kernel_rfl) (by kernel_rfl) (by kernel_rfl) (by kernel_rfl) (sK (fun _ _ _ _ _ h => h) (sK (fun _ _ _ _ _ h => h) (sK (fun _ _ _ _ _ h => h) (sK (fun _ _ _ _ _ h => h) (sK (fun _ _ _ _ _ h => h) (sK (fun _ _ _ _ _ h => h) (sK (fun _ _ _ _ _ h => h) (sK (by intro vs vs' w x h; have h3 := h ⟨3, .chain⟩ (by simp) rfl; simp only [PhiBe1]; rw [h3]; exact id) (sK (fun _ _ _ _ _ h => h) (sK (fun _ _ _ _ _ h => h) (sK (fun _ _ _ _ _ h => h) (sZ)))))))))))) PhiBe1.keepR PhiBe1.keepF (fun _ _ _ _ hR hS => Below.tr hS hR) SB1.ins (fun _ => bD _) (fun vs => by simp only [fillR, Act.put, sA, sB, sC, Nat.zero_add, Nat.reduceAdd]; rfl) ?_ ?_
 ·refine sK ?_ (sK ?_ (sK ?_ (sK ?_ (sK ?_ (sK ?_ (sK ?_ (sK ?_ (sK ?_ (sK ?_ (sK ?_ (sZ)))))))))))
  ·as_aux_lemma =>
   intro vs W hS hu hdep K hK; have HU := Lib.hid hu; clear hu; refine ⟨?_⟩; simp only [Act.put, sA, sB, sC, Nat.zero_add, Nat.reduceAdd] at hK ⊢; go_simp; with_reducible refine hK _ _ (bA _ _) ?_
   exact ⟨_, rfl, rfl, .inr ⟨_, 0, #[], rfl, by have := hS.size; omega, heap_alloc_new W _, Nat.le_refl _, by unfold maxLen; omega, rfl, rfl⟩⟩
  ·as_aux_lemma =>
   intro vs W hS hu hdep K hK; have HU := Lib.hid hu; clear hu; refine ⟨?_⟩; simp only [Act.put, sA, sB, sC, Nat.zero_add, Nat.reduceAdd] at hK ⊢; go_simp; with_reducible refine hK _ _ (Below.refl _ _) ?_
   exact rfl
  ·as_aux_lemma =>
   intro vs W hS hu hdep K hK; have HU := Lib.hid hu; clear hu; have d0 := hdep ⟨1, .data⟩ (by simp) rfl; simp only [PhiBe1] at d0; have ft := cell_keep hS q30; refine ⟨?_⟩; simp only [Act.put, sA, sB, sC, Nat.zero_add, Nat.reduceAdd, d0] at hK ⊢; go_simp; with_reducible refine hK _ _ (Below.refl _ _) ?_
   exact rfl
  ·as_aux_lemma =>
   intro vs W hS hu hdep K hK; have HU := Lib.hid hu; clear hu; have d0 := hdep ⟨0, .data⟩ (by simp) rfl; simp only [PhiBe1] at d0; refine @exE1 _ _ _ d0 ?_; clear d0; intro b0 d0; have e0 := d0.1; have o0 := d0.2; clear d0; have d1 := hdep ⟨2, .data⟩ (by simp) rfl; simp only [PhiBe1] at d1; refine ⟨?_⟩; simp only [Act.put, sA, sB, sC, Nat.zero_add, Nat.reduceAdd, e0, d1] at hK ⊢; rw [if_pos (by rfl)]; rw [e0] at o0; refine wp_freshG rfl (.tmp 9) (.tmp 11) _ rfl 122 i0 zeroI 24 96 Try.underlying70 hi0 hz0 hz1 hz2 zeroI_size (by omega) (w.heap.size + 2) b0 rfl o0 A1 k1 c1 (X1.flatMap cellsI) rfl (by rw [flat_len cellsI_len, hx1.2.1]) ((hx1.below (Below.tr hb1 hS)).1) (flatI_one TX1.out) (by simp only [maxLen]; omega) (by omega) (by have := hS.size; omega) ?_; intro v' w' ho hge hz hb; obtain ⟨Av, cv, rfl⟩ := own_shp ho; simp only [Act.put, sA, sB, sC]; with_reducible refine hK _ _ hb ?_
   exact ⟨_, _, rfl, ho⟩
  ·as_aux_lemma =>
   intro vs W hS hu hdep K hK; have HU := Lib.hid hu; clear hu; refine ⟨?_⟩; simp only [Act.put, sA, sB, sC, Nat.zero_add, Nat.reduceAdd] at hK ⊢; go_simp; with_reducible refine hK _ _ (bA _ _) ?_
   exact ⟨_, rfl, rfl, .inr ⟨_, 0, #[], rfl, by have := hS.size; omega, heap_alloc_new W _, Nat.le_refl _, by unfold maxLen; omega, rfl, rfl⟩⟩
  ·as_aux_lemma =>
   intro vs W hS hu hdep K hK; have HU := Lib.hid hu; clear hu; refine ⟨?_⟩; simp only [Act.put, sA, sB, sC, Nat.zero_add, Nat.reduceAdd] at hK ⊢; go_simp; with_reducible refine hK _ _ (Below.refl _ _) ?_
   exact rfl
  ·as_aux_lemma =>
   intro vs W hS hu hdep K hK; have HU := Lib.hid hu; clear hu; have d0 := hdep ⟨5, .data⟩ (by simp) rfl; simp only [PhiBe1] at d0; have ft := cell_keep hS q31; refine ⟨?_⟩; simp only [Act.put, sA, sB, sC, Nat.zero_add, Nat.reduceAdd, d0] at hK ⊢; go_simp; with_reducible refine hK _ _ (Below.refl _ _) ?_
   exact rfl
  ·as_aux_lemma =>
   intro vs W hS hu hdep K hK; have HU := Lib.hid hu; clear hu; have d0 := hdep ⟨4, .data⟩ (by simp) rfl; simp only [PhiBe1] at d0; refine @exE1 _ _ _ d0 ?_; clear d0; intro b0 d0; have e0 := d0.1; have o0 := d0.2; clear d0; have d1 := hdep ⟨6, .data⟩ (by simp) rfl; simp only [PhiBe1] at d1; have d2 := hdep ⟨3, .chain⟩ (by simp) rfl; simp only [PhiBe1] at d2; refine @exE2 _ _ _ _ d2 ?_; clear d2; intro A3 c3 d2; have e3 := d2.1; have o3 := d2.2; clear d2; refine ⟨?_⟩; simp only [Act.put, sA, sB, sC, Nat.zero_add, Nat.reduceAdd, e0, d1] at hK ⊢; rw [if_pos (by rfl)]; rw [e0] at o0; refine wp_freshG rfl (.tmp 13) (.tmp 15) _ rfl 122 i0 zeroI 24 96 Try.underlying70 hi0 hz0 hz1 hz2 zeroI_size (by omega) (w.heap.size + 2) b0 rfl o0 A2 k2 c2 (X2.flatMap cellsI) rfl (by rw [flat_len cellsI_len, hx2.2.1]) ((hx2.below (Below.tr hb1 hS)).1) (flatI_one TX2.out) (by simp only [maxLen]; omega) (by omega) (by have := hS.size; omega) ?_; intro v' w' ho hge hz hb; obtain ⟨Av, cv, rfl⟩ := own_shp ho; simp only [Act.put, sA, sB, sC]; with_reducible refine hK _ _ hb ?_
   refine ⟨_, _, rfl, ho, fun hk12 => ?_⟩
   rcases Nat.eq_zero_or_pos k2 with h0 | hk2
   ·rw [e3] at o3 ⊢; refine own_roomy (own_below o3 hb) ho (by omega) (by omega) (fun A c e => ?_); have e5 := hz h0; rw [e] at e5; injection e5
   ·intro g h1 h2; have l1 := ownsRow_lt o3 g h1; have l2 := hge hk2 g h2; omega
  ·as_aux_lemma =>
   intro vs W hS hu hdep K hK; have HU := Lib.hid hu; clear hu; have d0 := hdep ⟨3, .data⟩ (by simp) rfl; simp only [PhiBe1] at d0; refine @exE2 _ _ _ _ d0 ?_; clear d0; intro A c d0; have e0 := d0.1; have o0 := d0.2; clear d0; have d1 := hdep ⟨7, .data⟩ (by simp) rfl; simp only [PhiBe1] at d1; refine @exE2 _ _ _ _ d1 ?_; clear d1; intro A' c' d1; have e1 := d1.1; have o1 := d1.2.1; have a1 := d1.2.2; clear d1; rw [e0] at o0; rw [e1] at o1; rw [e0, e1] at a1; refine ⟨?_⟩; simp only [Act.put, sA, sB, sC, Nat.zero_add, Nat.reduceAdd, e0, e1] at hK ⊢; rw [if_pos (by rfl)]; refine wp_buildW 72 [(0, .tmp 12), (1, .tmp 16)] (by rfl) #[.slice A k1 c, .slice A' k2 c'] [(0, .slice A k1 c), (1, .slice A' k2 c')] (by rfl) built_rln ?_; simp only [Act.put, sA, sB, sC]; with_reducible refine hK _ _ (Below.refl _ _) ?_
   exact ⟨_, _, _, _, rfl, o0, o1, a1⟩
  ·as_aux_lemma =>
   intro vs W hS hu hdep K hK; have HU := Lib.hid hu; clear hu; refine ⟨?_⟩; simp only [Act.put, sA, sB, sC, Nat.zero_add, Nat.reduceAdd] at hK ⊢; go_simp; with_reducible refine hK _ _ (bA _ _) ?_
   exact ⟨_, rfl, by have := hS.size; omega, Blk.new _ _ _⟩
  ·as_aux_lemma =>
   intro vs W hS hdep K hK; have d0 := hdep ⟨9, .data⟩ (by simp) rfl (by rfl); simp only [PhiBe1] at d0; have d1 := hdep ⟨8, .data⟩ (by simp) rfl (by rfl); simp only [PhiBe1] at d1; refine @exE1 _ _ _ d0 ?_; clear d0; intro g d0; have e0 := d0.1; have ng := d0.2.1; have bg := d0.2.2; clear d0; refine @exE4 _ _ _ _ _ _ d1 ?_; clear d1; intro A c A' c' d1; have e1 := d1.1; have o1 := d1.2.1; have o2 := d1.2.2.1; have a1 := d1.2.2.2; clear d1; have hS0 : Below w1.heap.size w1 W := hS; clear hS; have n1 := own_ne o1 bg (by decide); have n2 := own_ne o2 bg (by decide); have B6 := Blk.below B6 hS0 B6.lt; have hbb := Below.tr hb1 hS0; refine ⟨?_⟩; simp only [Act.put, sA, sB, sC, Nat.zero_add, Nat.reduceAdd, e0, e1] at hK ⊢; rw [if_pos (by rfl)]; refine wp_store_mid 72 (.tmp 7) (.tmp 17) (by rfl) g 0 #[.slice A k1 c, .slice A' k2 c'] (by rfl) (by rfl) (Blk.there bg rfl) info_rln (by simp [Value.oneCell']) ?_; simp only [Act.put, sA, sB, sC]; with_reducible refine hK undef _ ?_
   exact ⟨g, A, c, A', c', e0, Blk.setAll bg rfl, own_setn (own_setn o1 (p := ⟨g, 0, none⟩) n1 _) (p := ⟨g, 1, none⟩) n1 _, own_setn (own_setn o2 (p := ⟨g, 0, none⟩) n2 _) (p := ⟨g, 1, none⟩) n2 _, Blk.farAll (by omega) _ _ B6, below_setAll (by omega) _ _ hbb, ng, a1⟩
 intro vs W1 hS _; have hS2 : ∃ g A1 c1 A2 c2, vs 9 = .pointer (some ⟨g, 0, none⟩) ∧ BSt w W1 g A1 k1 c1 A2 k2 c2 X1 X2 := hS; clear hS hx1 hx2 B3 B6 hb1 hsz1 q30 q31; obtain ⟨g, A1', c1', A2', c2', e9, H⟩ := hS2; obtain ⟨Wc, hWc⟩ : ∃ Wc, Wc = W1 := ⟨_, rfl⟩; subst hWc; have qa := H.bg.cell 0; have qb := H.bg.cell 1; simp only [List.getElem?_toArray, List.getElem?_cons_zero, List.getElem?_cons_succ] at qa qb; have hng := H.ng; have hBX := Lib.hid H; clear H; have hl1 := hBX.out.len1; have hl2 := hBX.out.len2; obtain ⟨mm, hmm⟩ : ∃ mm : Nat, Hid (mm = max k1 1) := ⟨_, rfl⟩; have m1 : max (k1 : Int) 1 = (mm : Int) := by rw [hmm.out]; omega
 have hm0 : 0 < mm := by rw [hmm.out]; omega
 have hm1 : mm ≤ 4611686018427387904 := by rw [hmm.out]; omega
 simp only [e9]; go_wp2_with fail; refine (around_n by_ mm _ h3 h4 hm0 hm1).mono ?_; rintro e w' ⟨kk, rfl, hkk, _, rfl⟩; go_wp2_with fail; refine (around_n how 5 _ h1 h2 (by omega) (by omega)).mono ?_; rintro e w' ⟨z, rfl, hz, _, rfl⟩; clear m1 hm0 hm1 hkk hmm h1 h2; have HL1 := Lib.hid hl1; have HL2 := Lib.hid hl2; clear hl1 hl2
 have pick : ∀ (kk : Nat), kk < k1 → ∃ b it, A1' = some ⟨b, 0, none⟩ ∧ ItTy it ∧ Hid (X1[kk]? = some it) ∧ Hid (∀ (j : Nat) v, (cellsI it)[j]? = some v → Wc.cell? ⟨b, kk * 24 + j, none⟩ = some v) := by
  intro kk hk; have hkl : kk < X1.length := by have := HL1.out; omega
  obtain ⟨b, hb, _⟩ := own_at hBX.out.o1 (by omega); obtain ⟨b', off, e, HC⟩ := (own_rowR (by omega) hBX.out.o1).at_ cellsI_len (by omega) hk hkl; rw [hb] at e; injection e with e; injection e with e1 e2; subst e1 e2; refine ⟨b, X1[kk], hb, TX1.out _ (List.getElem_mem hkl), List.getElem?_eq_getElem hkl, fun j v h => ?_⟩; have := HC.out j v h
  rwa [Nat.zero_add] at this
 have HPK := Lib.hid pick; clear pick
 have pick2 : 0 < k2 → ∃ b it, A2' = some ⟨b, 0, none⟩ ∧ ItTy it ∧ Hid (∀ (j : Nat) v, (cellsI it)[j]? = some v → Wc.cell? ⟨b, 0 + j, none⟩ = some v) := by
  intro hk; have hkl : 0 < X2.length := by have := HL2.out; omega
  obtain ⟨b, hb, _⟩ := own_at hBX.out.o2 (by omega); obtain ⟨b', off, e, HC⟩ := (own_rowR (by omega) hBX.out.o2).at_ cellsI_len (by omega) hk hkl; rw [hb] at e; injection e with e; injection e with e1 e2; subst e1 e2; refine ⟨b, X2[0], hb, TX2.out _ (List.getElem_mem hkl), fun j v h => ?_⟩; have := HC.out j v h
  rwa [Nat.zero_mul] at this
 have HPK2 := Lib.hid pick2; clear pick2; by_cases z0 : z = 0
 ·as_aux_lemma =>
  subst z0; by_cases hk : kk < k1
  ·have l1 : (kk : Int) < (k1 : Int) := by omega
   obtain ⟨b, it, rfl, hty, HK, HC⟩ := HPK.out kk hk; obtain ⟨q, hq⟩ : ∃ q : Int, by_.tdiv 3 = q := ⟨_, rfl⟩; have hq1 : -9223372036854775808 ≤ q := by rw [← hq]; exact (tdiv3_bd by_ h3 h4).1
   have hq2 : q ≤ 9223372036854775807 := by rw [← hq]; exact (tdiv3_bd by_ h3 h4).2
   have hqw : IntKind.i64.wrap q = q := by rw [IntWalk.i64_in _ (by omega)]
   have HQ := Lib.hid hq; go_upto_region 7 with fail; refine region_chain [9] [.early, .early, .early, .early, .early, .early, .early, .early, .early, .chain 0] [] [] (PhiBe7 g (some ⟨b, 0, none⟩) k1 c1' A2' k2 c2' b kk it by_ q) (fun w w' => w' = w) (SBe7 Wc b (kk * 24 + 23)) (by kernel_rfl) (by kernel_rfl) (by kernel_rfl) (by kernel_rfl) (sK (fun _ _ _ _ _ h => h) (sK (fun _ _ _ _ _ h => h) (sK (fun _ _ _ _ _ h => h) (sK (fun _ _ _ _ _ h => h) (sK (fun _ _ _ _ _ h => h) (sK (fun _ _ _ _ _ h => h) (sK (fun _ _ _ _ _ h => h) (sK (fun _ _ _ _ _ h => h) (sK (fun _ _ _ _ _ h => h) (sK (fun _ _ _ _ _ h => h) (sZ))))))))))) (fun vs w w' h j x hx => by rw [h]; exact PhiBe7.keepR vs w w (Below.refl _ _) j x hx) PhiBe7.keepF (fun _ _ _ _ hR hS => hR.trans hS) SBe7.ins (fun _ => rfl) (fun vs => by simp only [fillR, Act.put, sA, sB, sC, Nat.zero_add, Nat.reduceAdd]; rfl) ?_ ?_
   ·refine sK ?_ (sK ?_ (sK ?_ (sK ?_ (sK ?_ (sK ?_ (sK ?_ (sK ?_ (sK ?_ (sK ?_ (sZ))))))))))
    ·as_aux_lemma =>
     intro vs W hS hu hdep K hK; have HU := Lib.hid hu; clear hu; refine ⟨?_⟩; simp only [Act.put, sA, sB, sC, Nat.zero_add, Nat.reduceAdd] at hK ⊢; go_simp; with_reducible refine hK _ _ rfl ?_
     exact rfl
    ·as_aux_lemma =>
     intro vs W hS hu hdep K hK; have HU := Lib.hid hu; clear hu; have d0 := hdep ⟨0, .data⟩ (by simp) rfl; simp only [PhiBe7] at d0; have ft : W.cell? ⟨g, 0, none⟩ = some (.slice (some ⟨b, 0, none⟩) k1 c1') := by rw [show W = Wc.drew from hS]; exact qa
     refine ⟨?_⟩; simp only [Act.put, sA, sB, sC, Nat.zero_add, Nat.reduceAdd, d0] at hK ⊢; go_simp; with_reducible refine hK _ _ rfl ?_
     exact rfl
    ·as_aux_lemma =>
     intro vs W hS hu hdep K hK; have HU := Lib.hid hu; clear hu; refine ⟨?_⟩; simp only [Act.put, sA, sB, sC, Nat.zero_add, Nat.reduceAdd] at hK ⊢; go_simp; with_reducible refine hK _ _ rfl ?_
     exact rfl
    ·as_aux_lemma =>
     intro vs W hS hu hdep K hK; have HU := Lib.hid hu; clear hu; refine ⟨?_⟩; simp only [Act.put, sA, sB, sC, Nat.zero_add, Nat.reduceAdd] at hK ⊢; go_simp; with_reducible refine hK _ _ rfl ?_
     exact rfl
    ·as_aux_lemma =>
     intro vs W hS hu hdep K hK; have HU := Lib.hid hu; clear hu; have d0 := hdep ⟨3, .data⟩ (by simp) rfl; simp only [PhiBe7] at d0; have hq := HQ.out; refine ⟨?_⟩; simp only [Act.put, sA, sB, sC, Nat.zero_add, Nat.reduceAdd, d0] at hK ⊢; go_simp; with_reducible refine hK _ _ rfl ?_
     exact rfl
    ·as_aux_lemma =>
     intro vs W hS hu hdep K hK; have HU := Lib.hid hu; clear hu; have d0 := hdep ⟨4, .data⟩ (by simp) rfl; simp only [PhiBe7] at d0; refine ⟨?_⟩; simp only [fillR, Act.put, sA, sB, sC, Nat.zero_add, Nat.reduceAdd, d0] at hK ⊢; go_simp; refine (around_n q 5 _ hq1 hq2 (by omega) (by omega)).mono ?_; rintro e w' ⟨z, rfl, hz, _, rfl⟩; go_wp2_with fail; with_reducible refine hK _ _ rfl ?_
     exact ⟨_, rfl, hz⟩
    ·as_aux_lemma =>
     intro vs W hS hu hdep K hK; have HU := Lib.hid hu; clear hu; have d0 := hdep ⟨5, .data⟩ (by simp) rfl; simp only [PhiBe7] at d0; refine @exE1 _ _ _ d0 ?_; clear d0; intro z0 d0; have e0 := d0.1; have lz0 := d0.2; clear d0; refine ⟨?_⟩; simp only [Act.put, sA, sB, sC, Nat.zero_add, Nat.reduceAdd, e0] at hK ⊢; go_simp; with_reducible refine hK _ _ rfl ?_
     exact ⟨_, rfl⟩
    ·as_aux_lemma =>
     intro vs W hS hu hdep K hK; have HU := Lib.hid hu; clear hu; have d0 := hdep ⟨1, .data⟩ (by simp) rfl; simp only [PhiBe7] at d0; have d1 := hdep ⟨2, .data⟩ (by simp) rfl; simp only [PhiBe7] at d1; refine ⟨?_⟩; simp only [Act.put, sA, sB, sC, Nat.zero_add, Nat.reduceAdd, d0, d1] at hK ⊢; go_simp; with_reducible refine hK _ _ rfl ?_
     exact rfl
    ·as_aux_lemma =>
     intro vs W hS hu hdep K hK; have HU := Lib.hid hu; clear hu; have d0 := hdep ⟨7, .data⟩ (by simp) rfl; simp only [PhiBe7] at d0; refine ⟨?_⟩; simp only [Act.put, sA, sB, sC, Nat.zero_add, Nat.reduceAdd, d0] at hK ⊢; go_simp; with_reducible refine hK _ _ rfl ?_
     exact rfl
    ·as_aux_lemma =>
     intro vs W hS hdep K hK; have d0 := hdep ⟨8, .data⟩ (by simp) rfl (by rfl); simp only [PhiBe7] at d0; have d1 := hdep ⟨6, .data⟩ (by simp) rfl (by rfl); simp only [PhiBe7] at d1; refine @exE1 _ _ _ d1 ?_; clear d1; intro n1 e1; have hS7 : W = Wc.drew := hS; clear hS; subst hS7; have f1 : Wc.cell? ⟨b, kk * 24 + 23, none⟩ = some (.int .i64 it.p) := HC.out 23 _ rfl; have f2 : Wc.frozen? ⟨b, kk * 24 + 23, none⟩ = false := World.ownsRow.frozenAt hBX.out.o1 _; refine ⟨?_⟩; simp only [Act.put, sA, sB, sC, Nat.zero_add, Nat.reduceAdd, d0, e1] at hK ⊢; go_simp; with_reducible refine hK undef _ ?_
     exact ⟨n1, rfl⟩
   ·intro vs2 W2 hS2 _; obtain ⟨n, hW2⟩ := hS2; have H2 := (hBX.out.stored HK.out (j := 23) (it' := { it with p := n }) (u := .int .i64 n) (by omega) rfl).below (bD _); rw [← hW2] at H2; clear hW2 hBX; go_upto_region 19 with fail; have BG := H2.bg; have B6 := H2.b6; have rA := own_rowR (by omega) H2.o1; have nA : ∀ bb off, (some (⟨b, 0, none⟩ : Addr)) = some ⟨bb, off, none⟩ → bb ≠ w.heap.size + 1 := fun bb off e => by have := own_geA H2.o1 bb off e; omega
    have rB := H2.rowB (by omega); have nB : ∀ bb off, A2' = some ⟨bb, off, none⟩ → bb ≠ w.heap.size + 1 := fun bb off e => by have := H2.g2 bb off e; omega
    have be := H2.be
    go_wp2_with (first | (refine wpList_load_mid rfl 72 (.tmp 7) rfl g 0 rfl [.slice (some (⟨b, 0, none⟩ : Addr)) k1 c1', .slice A2' k2 c2'] _ (Blk.range BG) Try.underlying72 rfl info_rlnL ?_; simp only [Act.put, sA, sB, sC]) | (refine wpList_store_mid rfl 72 (.tmp 6) (.tmp 116) rfl (w.heap.size + 1) 0 #[.slice (some (⟨b, 0, none⟩ : Addr)) k1 c1', .slice A2' k2 c2'] rfl rfl (Blk.there B6 rfl) info_rln (by simp [Value.oneCell']) ?_))
    (try simp only [Exit.inBlock, Exit.then])
    refine bodyPost_ret (results_rln rfl rfl (Blk.setAll B6 rfl)) rfl ?_; exact ⟨⟨(some (⟨b, 0, none⟩ : Addr)), k1, c1', A2', k2, c2', (X1.set kk { it with p := n }), X2⟩, rfl, ⟨RowS.setAll nA _ _ rA, RowS.setAll nB _ _ rB, ty_set TX1.out (hty.setP n), TX2.out⟩, by show k1 ≤ k1 + 1; omega, by show k2 ≤ k2 + 1; omega, below_setAll (by omega) _ _ be⟩
  ·have l1 : ¬ ((kk : Int) < (k1 : Int)) := by omega
   have H2 := hBX.out.weak; go_upto_region 19 with fail; have BG := H2.bg; have B6 := H2.b6; have rA := own_rowR (by omega) H2.o1; have nA : ∀ bb off, A1' = some ⟨bb, off, none⟩ → bb ≠ w.heap.size + 1 := fun bb off e => by have := own_geA H2.o1 bb off e; omega
   have rB := H2.rowB (by omega); have nB : ∀ bb off, A2' = some ⟨bb, off, none⟩ → bb ≠ w.heap.size + 1 := fun bb off e => by have := H2.g2 bb off e; omega
   have be := H2.be
   go_wp2_with (first | (refine wpList_load_mid rfl 72 (.tmp 7) rfl g 0 rfl [.slice A1' k1 c1', .slice A2' k2 c2'] _ (Blk.range BG) Try.underlying72 rfl info_rlnL ?_; simp only [Act.put, sA, sB, sC]) | (refine wpList_store_mid rfl 72 (.tmp 6) (.tmp 116) rfl (w.heap.size + 1) 0 #[.slice A1' k1 c1', .slice A2' k2 c2'] rfl rfl (Blk.there B6 rfl) info_rln (by simp [Value.oneCell']) ?_))
   (try simp only [Exit.inBlock, Exit.then])
   refine bodyPost_ret (results_rln rfl rfl (Blk.setAll B6 rfl)) rfl ?_; exact ⟨⟨A1', k1, c1', A2', k2, c2', X1, X2⟩, rfl, ⟨RowS.setAll nA _ _ rA, RowS.setAll nB _ _ rB, TX1.out, TX2.out⟩, by show k1 ≤ k1 + 1; omega, by show k2 ≤ k2 + 1; omega, below_setAll (by omega) _ _ be⟩
 ·by_cases z1 : z = 1
  ·as_aux_lemma =>
   subst z1; by_cases hk : kk < k1
   ·have l1 : (kk : Int) < (k1 : Int) := by omega
    obtain ⟨b, it, rfl, hty, HK, HC⟩ := HPK.out kk hk; have hapt := hBX.out.apart (.inl (by omega)); go_upto_region 10 with fail; refine region_chain [8, 9, 10] [.early, .early, .early, .early, .early, .early, .early, .early, .chain 0, .chain 1, .chain 2] [] [] (PhiBe10 g (some ⟨b, 0, none⟩) k1 c1' A2' k2 c2' b kk it by_ 0) (fun w w' => Below w.heap.size w w') (SBe2 w Wc g (some ⟨b, 0, none⟩) k1 c1' A2' k2 c2' X1 X2) (by kernel_rfl) (by kernel_rfl) (by kernel_rfl) (by kernel_rfl) (sK (fun _ _ _ _ _ h => h) (sK (fun _ _ _ _ _ h => h) (sK (fun _ _ _ _ _ h => h) (sK (fun _ _ _ _ _ h => h) (sK (fun _ _ _ _ _ h => h) (sK (fun _ _ _ _ _ h => h) (sK (fun _ _ _ _ _ h => h) (sK (fun _ _ _ _ _ h => h) (sK (fun _ _ _ _ _ h => h) (sK (fun _ _ _ _ _ h => h) (sK (fun _ _ _ _ _ h => h) (sZ)))))))))))) PhiBe10.keepR PhiBe10.keepF (fun _ _ _ _ hR hS => Below.tr hS hR) SBe2.ins (fun _ => bD _) (fun vs => by simp only [fillR, Act.put, sA, sB, sC, Nat.zero_add, Nat.reduceAdd]; rfl) ?_ ?_
    ·refine sK ?_ (sK ?_ (sK ?_ (sK ?_ (sK ?_ (sK ?_ (sK ?_ (sK ?_ (sK ?_ (sK ?_ (sK ?_ (sZ)))))))))))
     ·as_aux_lemma =>
      intro vs W hS hu hdep K hK; have HU := Lib.hid hu; clear hu; refine ⟨?_⟩; simp only [Act.put, sA, sB, sC, Nat.zero_add, Nat.reduceAdd] at hK ⊢; go_simp; with_reducible refine hK _ _ (Below.refl _ _) ?_
      exact rfl
     ·as_aux_lemma =>
      intro vs W hS hu hdep K hK; have HU := Lib.hid hu; clear hu; have d0 := hdep ⟨0, .data⟩ (by simp) rfl; simp only [PhiBe10] at d0; have ft := cell_keep hS qb; refine ⟨?_⟩; simp only [Act.put, sA, sB, sC, Nat.zero_add, Nat.reduceAdd, d0] at hK ⊢; go_simp; with_reducible refine hK _ _ (Below.refl _ _) ?_
      exact rfl
     ·as_aux_lemma =>
      intro vs W hS hu hdep K hK; have HU := Lib.hid hu; clear hu; refine ⟨?_⟩; simp only [Act.put, sA, sB, sC, Nat.zero_add, Nat.reduceAdd] at hK ⊢; go_simp; with_reducible refine hK _ _ (Below.refl _ _) ?_
      exact rfl
     ·as_aux_lemma =>
      intro vs W hS hu hdep K hK; have HU := Lib.hid hu; clear hu; have d0 := hdep ⟨2, .data⟩ (by simp) rfl; simp only [PhiBe10] at d0; have ft := cell_keep hS qa; refine ⟨?_⟩; simp only [Act.put, sA, sB, sC, Nat.zero_add, Nat.reduceAdd, d0] at hK ⊢; go_simp; with_reducible refine hK _ _ (Below.refl _ _) ?_
      exact rfl
     ·as_aux_lemma =>
      intro vs W hS hu hdep K hK; have HU := Lib.hid hu; clear hu; refine ⟨?_⟩; simp only [Act.put, sA, sB, sC, Nat.zero_add, Nat.reduceAdd] at hK ⊢; go_simp; with_reducible refine hK _ _ (Below.refl _ _) ?_
      exact rfl
     ·as_aux_lemma =>
      intro vs W hS hu hdep K hK; have HU := Lib.hid hu; clear hu; have d0 := hdep ⟨3, .data⟩ (by simp) rfl; simp only [PhiBe10] at d0; have d1 := hdep ⟨4, .data⟩ (by simp) rfl; simp only [PhiBe10] at d1; refine ⟨?_⟩; simp only [Act.put, sA, sB, sC, Nat.zero_add, Nat.reduceAdd, d0, d1] at hK ⊢; go_simp; with_reducible refine hK _ _ (Below.refl _ _) ?_
      exact rfl
     ·as_aux_lemma =>
      intro vs W hS hu hdep K hK; have HU := Lib.hid hu; clear hu; have d0 := hdep ⟨5, .data⟩ (by simp) rfl; simp only [PhiBe10] at d0; refine ⟨?_⟩; simp only [Act.put, sA, sB, sC, Nat.zero_add, Nat.reduceAdd, d0] at hK ⊢; rw [if_pos (by rfl)]; refine wp_load_mid 122 (.tmp 63) (by rfl) b (kk * 24) (by rfl) (cellsI it) _ (fun j v h => cell_keep hS (HC.out j v h)) Try.underlying122 (by rfl) (infoRIL (it := it)) ?_; simp only [Act.put, sA, sB, sC]; with_reducible refine hK _ _ (Below.refl _ _) ?_
      exact rfl
     ·as_aux_lemma =>
      intro vs W hS hu hdep K hK; have HU := Lib.hid hu; clear hu; have d0 := hdep ⟨6, .data⟩ (by simp) rfl; simp only [PhiBe10] at d0; refine ⟨?_⟩; simp only [Act.put, sA, sB, sC, Nat.zero_add, Nat.reduceAdd, d0] at hK ⊢; rw [if_pos (by rfl)]; refine wp_sliceN 70 122 1 [(0, .tmp 64)] rfl (cellsI it).toArray i0 zeroI 24 [(0, .agg (cellsI it).toArray)] Try.underlying70 hi0 hz0 hz1 (by omega) (by omega) rfl (fill_item it) ?_; simp only [Act.put, sA, sB, sC]; with_reducible refine hK _ _ (bA _ _) ?_
      exact ⟨_, it, rfl, Rd.fresh _ _ _, hty⟩
     ·as_aux_lemma =>
      intro vs W hS hdep K hK; have d0 := hdep ⟨1, .data⟩ (by simp) rfl (by rfl); simp only [PhiBe10] at d0; have d1 := hdep ⟨7, .data⟩ (by simp) rfl (by rfl); simp only [PhiBe10] at d1; refine @exE2 _ _ _ _ d1 ?_; clear d1; intro g1 it1 d1; have e1 := d1.1; have hrd := d1.2.1; have tyi := d1.2.2; clear d1; have hS0 : Below Wc.heap.size Wc W := hS; clear hS; have H := hBX.out.below hS0; have hsz : w.heap.size + 2 ≤ W.heap.size := by have := H.b6.lt; omega
      have HON := Lib.hid tyi.one; refine ⟨?_⟩; simp only [Act.put, sA, sB, sC, Nat.zero_add, Nat.reduceAdd, d0, e1] at hK ⊢; rw [if_pos (by rfl)]; refine wp_append_any _ (.tmp 59) (.tmp 65) _ rfl (w.heap.size + 2) 122 i0 _ 24 96 Try.underlying70 hi0 hz0 hz1 hz2 zeroI_size (by omega) _ k2 _ rfl H.o2 _ 1 1 (cellsI it1) rfl rfl hrd HON.out (by simp only [maxLen]; omega) (by omega) hsz ?_; intro v4 w4 hown4 hg4 hat4
      replace hg4 : W.grownBy w4 (Value.ownBlock (.slice A2' k2 c2')) := hg4
      replace hat4 : v4.ownBlock = (Value.ownBlock (.slice A2' k2 c2')) ∨ v4.ownBlock = some W.heap.size := hat4
      have hown5 : w4.ownsRow (w.heap.size + 2) 122 24 v4 (k2 + 1) ((X2 ++ [it1]).flatMap cellsI) := by rw [List.flatMap_append]; simpa using hown4
      obtain ⟨A5, c5, rfl⟩ := own_shp hown5; have bn := own_ne H.o2 H.bg (by decide); simp only [Act.put, sA, sB, sC]; with_reducible refine hK _ _ ?_
      refine ⟨A5, c5, it1, rfl, tyi, Blk.grown H.bg hg4 (fun j e1 e2 => bn (by rw [e1, e2])), own_other H.o1 hg4 hapt.2, hown5, Blk.grown H.b6 hg4 (fun j e1 e2 => by have := own_block_ge H.o2 j e1; omega), H.be.grown hg4 (by omega) (fun j e1 => by have := own_block_ge H.o2 j e1; omega), ?_⟩; have h3 := Apt.step H.o1 hapt.2 hat4; exact fun j e1 e2 => h3 j e2 e1
     ·as_aux_lemma =>
      intro vs W hS hdep K hK; have hS1 : SBe2 w Wc g (some ⟨b, 0, none⟩) k1 c1' A2' k2 c2' X1 X2 [vs 8] vs W := hS; clear hS; have HS1 := Lib.hid hS1; clear hS1; refine ⟨?_⟩; simp only [Act.put, sA, sB, sC, Nat.zero_add, Nat.reduceAdd] at hK ⊢; go_simp; with_reducible refine hK _ _ ?_
      exact ⟨rfl, HS1.out⟩
     ·as_aux_lemma =>
      intro vs W hS hdep K hK; have hS1 : SBe2 w Wc g (some ⟨b, 0, none⟩) k1 c1' A2' k2 c2' X1 X2 [vs 8, vs 9] vs W := hS; clear hS; obtain ⟨ep, A5, c5, it5, e5, ty5, bg5, o15, o25, b65, be5, ap5⟩ := hS1; rw [e5] at o25 ap5; have z1 := bg5.frozen 1; have z2 := bg5.cell 1; simp only [List.getElem?_toArray, List.getElem?_cons_zero, List.getElem?_cons_succ] at z2; have HB5 := Lib.hid bg5; clear bg5; refine ⟨?_⟩; simp only [Act.put, sA, sB, sC, Nat.zero_add, Nat.reduceAdd, ep, e5] at hK ⊢; go_simp; with_reducible refine hK undef _ ?_
      have n1 := own_ne o15 HB5.out (by decide); have n2 := own_ne o25 HB5.out (by decide); exact ⟨A5, c5, it5, ty5, Blk.set_ HB5.out 1 _, own_setn (p := ⟨g, 1, none⟩) o15 n1 _, own_setn (p := ⟨g, 1, none⟩) o25 n2 _, b65.far (p := ⟨g, 1, none⟩) (by show w.heap.size + 1 ≠ g; omega) _, be5.setCell (p := ⟨g, 1, none⟩) (by show w.heap.size ≤ g; omega) _, hng, fun _ => ap5⟩
    ·intro vs2 W2 hS2 _; obtain ⟨A5, c5, it5, ty5, H5⟩ := hS2; clear qa qb; have qa := H5.bg.cell 0; simp only [List.getElem?_toArray, List.getElem?_cons_zero, List.getElem?_cons_succ] at qa; have hcc : k1 ≤ c1' := own_cap H5.o1; have s1 : IntKind.i64.wrap ((kk : Int) + 1) = (kk : Int) + 1 := by rw [IntWalk.i64_in _ (by omega)]
     have l3 : (kk : Int) + 1 ≤ (k1 : Int) := by omega
     have l4 : kk ≤ c1' := by omega
     have l5 : (0 : Int) ≤ (kk : Int) + 1 := by omega
     have H5' := Lib.hid H5; clear HC HK hty hBX; go_upto_region 11 with fail; refine region_chain [9, 10, 11] [.early, .early, .early, .early, .early, .early, .early, .early, .early, .chain 0, .chain 1, .chain 2] [] [] (PhiBe11 g (some ⟨b, 0, none⟩) k1 c1' A5 (k2 + 1) c5 b kk it by_ 0) (fun w w' => Below w.heap.size w w') (SBe1 w W2 g (some ⟨b, 0, none⟩) k1 c1' A5 (k2 + 1) c5 X1 (X2 ++ [it5]) (fun X => X = X1.take kk ++ X1.drop (kk + 1)) (kk + (k1 - (kk + 1)))) (by kernel_rfl) (by kernel_rfl) (by kernel_rfl) (by kernel_rfl) (sK (fun _ _ _ _ _ h => h) (sK (fun _ _ _ _ _ h => h) (sK (fun _ _ _ _ _ h => h) (sK (fun _ _ _ _ _ h => h) (sK (fun _ _ _ _ _ h => h) (sK (fun _ _ _ _ _ h => h) (sK (fun _ _ _ _ _ h => h) (sK (fun _ _ _ _ _ h => h) (sK (fun _ _ _ _ _ h => h) (sK (fun _ _ _ _ _ h => h) (sK (fun _ _ _ _ _ h => h) (sK (fun _ _ _ _ _ h => h) (sZ))))))))))))) PhiBe11.keepR PhiBe11.keepF (fun _ _ _ _ hR hS => Below.tr hS hR) SBe1.ins (fun _ => bD _) (fun vs => by simp only [fillR, Act.put, sA, sB, sC, Nat.zero_add, Nat.reduceAdd]; rfl) ?_ ?_
     ·refine sK ?_ (sK ?_ (sK ?_ (sK ?_ (sK ?_ (sK ?_ (sK ?_ (sK ?_ (sK ?_ (sK ?_ (sK ?_ (sK ?_ (sZ))))))))))))
      ·as_aux_lemma =>
       intro vs W hS hu hdep K hK; have HU := Lib.hid hu; clear hu; refine ⟨?_⟩; simp only [Act.put, sA, sB, sC, Nat.zero_add, Nat.reduceAdd] at hK ⊢; go_simp; with_reducible refine hK _ _ (Below.refl _ _) ?_
       exact rfl
      ·as_aux_lemma =>
       intro vs W hS hu hdep K hK; have HU := Lib.hid hu; clear hu; have d0 := hdep ⟨0, .data⟩ (by simp) rfl; simp only [PhiBe11] at d0; have ft := cell_keep hS qa; refine ⟨?_⟩; simp only [Act.put, sA, sB, sC, Nat.zero_add, Nat.reduceAdd, d0] at hK ⊢; go_simp; with_reducible refine hK _ _ (Below.refl _ _) ?_
       exact rfl
      ·as_aux_lemma =>
       intro vs W hS hu hdep K hK; have HU := Lib.hid hu; clear hu; refine ⟨?_⟩; simp only [Act.put, sA, sB, sC, Nat.zero_add, Nat.reduceAdd] at hK ⊢; go_simp; with_reducible refine hK _ _ (Below.refl _ _) ?_
       exact rfl
      ·as_aux_lemma =>
       intro vs W hS hu hdep K hK; have HU := Lib.hid hu; clear hu; have d0 := hdep ⟨1, .data⟩ (by simp) rfl; simp only [PhiBe11] at d0; have d1 := hdep ⟨2, .data⟩ (by simp) rfl; simp only [PhiBe11] at d1; refine ⟨?_⟩; simp only [Act.put, sA, sB, sC, Nat.zero_add, Nat.reduceAdd, d0, d1] at hK ⊢; go_simp; with_reducible refine hK _ _ (Below.refl _ _) ?_
       exact rfl
      ·as_aux_lemma =>
       intro vs W hS hu hdep K hK; have HU := Lib.hid hu; clear hu; refine ⟨?_⟩; simp only [Act.put, sA, sB, sC, Nat.zero_add, Nat.reduceAdd] at hK ⊢; go_simp; with_reducible refine hK _ _ (Below.refl _ _) ?_
       exact rfl
      ·as_aux_lemma =>
       intro vs W hS hu hdep K hK; have HU := Lib.hid hu; clear hu; have d0 := hdep ⟨4, .data⟩ (by simp) rfl; simp only [PhiBe11] at d0; have ft := cell_keep hS qa; refine ⟨?_⟩; simp only [Act.put, sA, sB, sC, Nat.zero_add, Nat.reduceAdd, d0] at hK ⊢; go_simp; with_reducible refine hK _ _ (Below.refl _ _) ?_
       exact rfl
      ·as_aux_lemma =>
       intro vs W hS hu hdep K hK; have HU := Lib.hid hu; clear hu; refine ⟨?_⟩; simp only [Act.put, sA, sB, sC, Nat.zero_add, Nat.reduceAdd] at hK ⊢; go_simp; with_reducible refine hK _ _ (Below.refl _ _) ?_
       exact rfl
      ·as_aux_lemma =>
       intro vs W hS hu hdep K hK; have HU := Lib.hid hu; clear hu; have d0 := hdep ⟨6, .data⟩ (by simp) rfl; simp only [PhiBe11] at d0; refine ⟨?_⟩; simp only [Act.put, sA, sB, sC, Nat.zero_add, Nat.reduceAdd, d0] at hK ⊢; go_simp; with_reducible refine hK _ _ (Below.refl _ _) ?_
       exact rfl
      ·as_aux_lemma =>
       intro vs W hS hu hdep K hK; have HU := Lib.hid hu; clear hu; have d0 := hdep ⟨5, .data⟩ (by simp) rfl; simp only [PhiBe11] at d0; have d1 := hdep ⟨7, .data⟩ (by simp) rfl; simp only [PhiBe11] at d1; refine ⟨?_⟩; simp only [Act.put, sA, sB, sC, Nat.zero_add, Nat.reduceAdd, d0, d1] at hK ⊢; go_simp; with_reducible refine hK _ _ (Below.refl _ _) ?_
       exact rfl
      ·as_aux_lemma =>
       intro vs W hS hdep K hK; have d0 := hdep ⟨3, .data⟩ (by simp) rfl (by rfl); simp only [PhiBe11] at d0; have d1 := hdep ⟨8, .data⟩ (by simp) rfl (by rfl); simp only [PhiBe11] at d1; have hS0 : Below W2.heap.size W2 W := hS; clear hS; have H := H5.below hS0; have hsz : w.heap.size + 2 ≤ W.heap.size := by have := H.b6.lt; omega
       have ho : W.ownsRow (w.heap.size + 2) 122 24 (.slice (some ⟨b, 0, none⟩) kk c1') kk ((X1.take kk).flatMap cellsI) := by rw [← flat_take cellsI_len]; exact own_take H.o1 (by omega)
       have hrd : Rd W (if c1' = kk + 1 then some ⟨b, 0, none⟩ else some ⟨b, (kk + 1) * 24, none⟩) ((X1.drop (kk + 1)).flatMap cellsI) := by
        by_cases hce : c1' = kk + 1
        ·rw [List.drop_of_length_le (by rw [HL1.out]; omega)]; exact fun h => absurd rfl h
        ·rw [if_neg hce]; have h := ((own_rowR (by omega) H.o1).tail (kk + 1) (by omega)).1; rwa [Nat.zero_add] at h
       have HON := Lib.hid (flatI_one (fun it hit => TX1.out it (List.mem_of_mem_drop hit)) : ∀ v ∈ (X1.drop (kk + 1)).flatMap cellsI, v.oneCell' = true); have hln : ((X1.drop (kk + 1)).flatMap cellsI).length = (k1 - (kk + 1)) * 24 := by rw [flat_len cellsI_len, List.length_drop, HL1.out]
       have HLN := Lib.hid hln; clear hln; refine ⟨?_⟩; simp only [Act.put, sA, sB, sC, Nat.zero_add, Nat.reduceAdd, d0, d1] at hK ⊢; rw [if_pos (by rfl)]; refine wp_append_any _ (.tmp 71) (.tmp 76) _ rfl (w.heap.size + 2) 122 i0 _ 24 96 Try.underlying70 hi0 hz0 hz1 hz2 zeroI_size (by omega) _ kk _ rfl ho _ (k1 - (kk + 1)) _ ((X1.drop (kk + 1)).flatMap cellsI) rfl HLN.out hrd HON.out (by simp only [maxLen]; omega) (by omega) hsz ?_; intro v4 w4 hown4 hg4 hat4
       replace hg4 : W.grownBy w4 (Value.ownBlock (.slice (some ⟨b, 0, none⟩) kk c1')) := hg4
       have hown5 : w4.ownsRow (w.heap.size + 2) 122 24 v4 (kk + (k1 - (kk + 1))) ((X1.take kk ++ X1.drop (kk + 1)).flatMap cellsI) := by rw [List.flatMap_append]; exact hown4
       obtain ⟨A6, c6, rfl⟩ := own_shp hown5; have bn := own_ne H.o1 H.bg (by decide); simp only [Act.put, sA, sB, sC]; with_reducible refine hK _ _ ?_
       exact ⟨A6, c6, _, rfl, rfl, Blk.grown H.bg hg4 (fun j e1 e2 => bn (by rw [e2]; exact e1)), hown5, fun h0 => own_other H.o2 hg4 (H.ap (.inr h0)), Blk.grown H.b6 hg4 (fun j e1 e2 => by have := own_block_ge H.o1 j e1; omega), H.be.grown hg4 (by omega) (fun j e1 => by have := own_block_ge H.o1 j e1; omega)⟩
      ·as_aux_lemma =>
       intro vs W hS hdep K hK; have hS1 : SBe1 w W2 g (some ⟨b, 0, none⟩) k1 c1' A5 (k2 + 1) c5 X1 (X2 ++ [it5]) (fun X => X = X1.take kk ++ X1.drop (kk + 1)) (kk + (k1 - (kk + 1))) [vs 9] vs W := hS; clear hS; have HS1 := Lib.hid hS1; clear hS1; refine ⟨?_⟩; simp only [Act.put, sA, sB, sC, Nat.zero_add, Nat.reduceAdd] at hK ⊢; go_simp; with_reducible refine hK _ _ ?_
       exact ⟨rfl, HS1.out⟩
      ·as_aux_lemma =>
       intro vs W hS hdep K hK; have hS1 : SBe1 w W2 g (some ⟨b, 0, none⟩) k1 c1' A5 (k2 + 1) c5 X1 (X2 ++ [it5]) (fun X => X = X1.take kk ++ X1.drop (kk + 1)) (kk + (k1 - (kk + 1))) [vs 9, vs 10] vs W := hS; clear hS; obtain ⟨ep, A6, c6, X6, e5, ty5, bg5, o15, o25, b65, be5⟩ := hS1; rw [e5] at o15; have z1 := bg5.frozen 0; have z2 := bg5.cell 0; simp only [List.getElem?_toArray, List.getElem?_cons_zero, List.getElem?_cons_succ] at z2; have HB5 := Lib.hid bg5; clear bg5; have hng5 := H5.ng; refine ⟨?_⟩; simp only [Act.put, sA, sB, sC, Nat.zero_add, Nat.reduceAdd, ep, e5] at hK ⊢; go_simp; with_reducible refine hK undef _ ?_
       have n1 := own_ne o15 HB5.out (by decide); exact ⟨A6, c6, X6, ty5, Blk.set_ HB5.out 0 _, own_setn (p := ⟨g, 0, none⟩) o15 n1 _, fun h0 => own_setn (p := ⟨g, 0, none⟩) (o25 h0) (own_ne (o25 h0) HB5.out (by decide)) _, H5.len2, own_geA H5.o2, b65.far (p := ⟨g, 0, none⟩) (by show w.heap.size + 1 ≠ g; omega) _, be5.setCell (p := ⟨g, 0, none⟩) (by show w.heap.size ≤ g; omega) _, hng5⟩
     ·intro vs3 W3 hS3 _; obtain ⟨A6, c6, X6, hX6, H6⟩ := hS3; subst hX6; clear hcc s1 l3 l4 l5 qa H5; go_upto_region 19 with fail; have BG := H6.bg; have B6 := H6.b6; have rA := own_rowR (by omega) H6.o1; have nA : ∀ bb off, A6 = some ⟨bb, off, none⟩ → bb ≠ w.heap.size + 1 := fun bb off e => by have := own_geA H6.o1 bb off e; omega
      have rB := H6.rowB (by omega); have nB : ∀ bb off, A5 = some ⟨bb, off, none⟩ → bb ≠ w.heap.size + 1 := fun bb off e => by have := H6.g2 bb off e; omega
      have be := H6.be
      go_wp2_with (first | (refine wpList_load_mid rfl 72 (.tmp 7) rfl g 0 rfl [.slice A6 (kk + (k1 - (kk + 1))) c6, .slice A5 (k2 + 1) c5] _ (Blk.range BG) Try.underlying72 rfl info_rlnL ?_; simp only [Act.put, sA, sB, sC]) | (refine wpList_store_mid rfl 72 (.tmp 6) (.tmp 116) rfl (w.heap.size + 1) 0 #[.slice A6 (kk + (k1 - (kk + 1))) c6, .slice A5 (k2 + 1) c5] rfl rfl (Blk.there B6 rfl) info_rln (by simp [Value.oneCell']) ?_))
      (try simp only [Exit.inBlock, Exit.then])
      refine bodyPost_ret (results_rln rfl rfl (Blk.setAll B6 rfl)) rfl ?_; exact ⟨⟨A6, (kk + (k1 - (kk + 1))), c6, A5, (k2 + 1), c5, (X1.take kk ++ X1.drop (kk + 1)), (X2 ++ [it5])⟩, rfl, ⟨RowS.setAll nA _ _ rA, RowS.setAll nB _ _ rB, ty_app (fun it h => TX1.out it (List.mem_of_mem_take h)) (fun it h => TX1.out it (List.mem_of_mem_drop h)), ty_app TX2.out (by intro it h; rw [List.mem_singleton.1 h]; exact ty5)⟩, by show (kk + (k1 - (kk + 1))) ≤ k1 + 1; omega, by show (k2 + 1) ≤ k2 + 1; omega, below_setAll (by omega) _ _ be⟩
   ·have l1 : ¬ ((kk : Int) < (k1 : Int)) := by omega
    have H2 := hBX.out.weak; go_upto_region 19 with fail; have BG := H2.bg; have B6 := H2.b6; have rA := own_rowR (by omega) H2.o1; have nA : ∀ bb off, A1' = some ⟨bb, off, none⟩ → bb ≠ w.heap.size + 1 := fun bb off e => by have := own_geA H2.o1 bb off e; omega
    have rB := H2.rowB (by omega); have nB : ∀ bb off, A2' = some ⟨bb, off, none⟩ → bb ≠ w.heap.size + 1 := fun bb off e => by have := H2.g2 bb off e; omega
    have be := H2.be
    go_wp2_with (first | (refine wpList_load_mid rfl 72 (.tmp 7) rfl g 0 rfl [.slice A1' k1 c1', .slice A2' k2 c2'] _ (Blk.range BG) Try.underlying72 rfl info_rlnL ?_; simp only [Act.put, sA, sB, sC]) | (refine wpList_store_mid rfl 72 (.tmp 6) (.tmp 116) rfl (w.heap.size + 1) 0 #[.slice A1' k1 c1', .slice A2' k2 c2'] rfl rfl (Blk.there B6 rfl) info_rln (by simp [Value.oneCell']) ?_))
    (try simp only [Exit.inBlock, Exit.then])
    refine bodyPost_ret (results_rln rfl rfl (Blk.setAll B6 rfl)) rfl ?_; exact ⟨⟨A1', k1, c1', A2', k2, c2', X1, X2⟩, rfl, ⟨RowS.setAll nA _ _ rA, RowS.setAll nB _ _ rB, TX1.out, TX2.out⟩, by show k1 ≤ k1 + 1; omega, by show k2 ≤ k2 + 1; omega, below_setAll (by omega) _ _ be⟩
  ·by_cases z2 : z = 2
   ·as_aux_lemma =>
    subst z2; by_cases hk : 0 < k2
    ·have l1 : (k2 : Int) > 0 := by omega
     obtain ⟨b, it, rfl, hty, HC⟩ := HPK2.out hk; obtain ⟨Y1, hY1⟩ : ∃ Y : List IT → Prop, Y = fun X => ∃ it, ItTy it ∧ X = X1 ++ [it] := ⟨_, rfl⟩
     have HYY : ∀ it, ItTy it → Y1 (X1 ++ [it]) := by intro it h; rw [hY1]; exact ⟨it, h, rfl⟩
     have HHY := Lib.hid hY1; clear hY1; go_upto_region 14 with fail; refine region_chain [7, 8, 9] [.early, .early, .early, .early, .early, .early, .early, .chain 0, .chain 1, .chain 2] [] [] (PhiBe14 g A1' k1 c1' (some ⟨b, 0, none⟩) k2 c2' b kk it by_ 0) (fun w w' => Below w.heap.size w w') (SBe1 w Wc g A1' k1 c1' (some ⟨b, 0, none⟩) k2 c2' X1 X2 Y1 (k1 + 1)) (by kernel_rfl) (by kernel_rfl) (by kernel_rfl) (by kernel_rfl) (sK (fun _ _ _ _ _ h => h) (sK (fun _ _ _ _ _ h => h) (sK (fun _ _ _ _ _ h => h) (sK (fun _ _ _ _ _ h => h) (sK (fun _ _ _ _ _ h => h) (sK (fun _ _ _ _ _ h => h) (sK (fun _ _ _ _ _ h => h) (sK (fun _ _ _ _ _ h => h) (sK (fun _ _ _ _ _ h => h) (sK (fun _ _ _ _ _ h => h) (sZ))))))))))) PhiBe14.keepR PhiBe14.keepF (fun _ _ _ _ hR hS => Below.tr hS hR) SBe1.ins (fun _ => bD _) (fun vs => by simp only [fillR, Act.put, sA, sB, sC, Nat.zero_add, Nat.reduceAdd]; rfl) ?_ ?_
     ·refine sK ?_ (sK ?_ (sK ?_ (sK ?_ (sK ?_ (sK ?_ (sK ?_ (sK ?_ (sK ?_ (sK ?_ (sZ))))))))))
      ·as_aux_lemma =>
       intro vs W hS hu hdep K hK; have HU := Lib.hid hu; clear hu; refine ⟨?_⟩; simp only [Act.put, sA, sB, sC, Nat.zero_add, Nat.reduceAdd] at hK ⊢; go_simp; with_reducible refine hK _ _ (Below.refl _ _) ?_
       exact rfl
      ·as_aux_lemma =>
       intro vs W hS hu hdep K hK; have HU := Lib.hid hu; clear hu; have d0 := hdep ⟨0, .data⟩ (by simp) rfl; simp only [PhiBe14] at d0; have ft := cell_keep hS qa; refine ⟨?_⟩; simp only [Act.put, sA, sB, sC, Nat.zero_add, Nat.reduceAdd, d0] at hK ⊢; go_simp; with_reducible refine hK _ _ (Below.refl _ _) ?_
       exact rfl
      ·as_aux_lemma =>
       intro vs W hS hu hdep K hK; have HU := Lib.hid hu; clear hu; refine ⟨?_⟩; simp only [Act.put, sA, sB, sC, Nat.zero_add, Nat.reduceAdd] at hK ⊢; go_simp; with_reducible refine hK _ _ (Below.refl _ _) ?_
       exact rfl
      ·as_aux_lemma =>
       intro vs W hS hu hdep K hK; have HU := Lib.hid hu; clear hu; have d0 := hdep ⟨2, .data⟩ (by simp) rfl; simp only [PhiBe14] at d0; have ft := cell_keep hS qb; refine ⟨?_⟩; simp only [Act.put, sA, sB, sC, Nat.zero_add, Nat.reduceAdd, d0] at hK ⊢; go_simp; with_reducible refine hK _ _ (Below.refl _ _) ?_
       exact rfl
      ·as_aux_lemma =>
       intro vs W hS hu hdep K hK; have HU := Lib.hid hu; clear hu; have d0 := hdep ⟨3, .data⟩ (by simp) rfl; simp only [PhiBe14] at d0; refine ⟨?_⟩; simp only [Act.put, sA, sB, sC, Nat.zero_add, Nat.reduceAdd, d0] at hK ⊢; go_simp; with_reducible refine hK _ _ (Below.refl _ _) ?_
       exact rfl
      ·as_aux_lemma =>
       intro vs W hS hu hdep K hK; have HU := Lib.hid hu; clear hu; have d0 := hdep ⟨4, .data⟩ (by simp) rfl; simp only [PhiBe14] at d0; refine ⟨?_⟩; simp only [Act.put, sA, sB, sC, Nat.zero_add, Nat.reduceAdd, d0] at hK ⊢; rw [if_pos (by rfl)]; refine wp_load_mid 122 (.tmp 89) (by rfl) b (0) (by rfl) (cellsI it) _ (fun j v h => cell_keep hS (HC.out j v h)) Try.underlying122 (by rfl) (infoRIL (it := it)) ?_; simp only [Act.put, sA, sB, sC]; with_reducible refine hK _ _ (Below.refl _ _) ?_
       exact rfl
      ·as_aux_lemma =>
       intro vs W hS hu hdep K hK; have HU := Lib.hid hu; clear hu; have d0 := hdep ⟨5, .data⟩ (by simp) rfl; simp only [PhiBe14] at d0; refine ⟨?_⟩; simp only [Act.put, sA, sB, sC, Nat.zero_add, Nat.reduceAdd, d0] at hK ⊢; rw [if_pos (by rfl)]; refine wp_sliceN 70 122 1 [(0, .tmp 90)] rfl (cellsI it).toArray i0 zeroI 24 [(0, .agg (cellsI it).toArray)] Try.underlying70 hi0 hz0 hz1 (by omega) (by omega) rfl (fill_item it) ?_; simp only [Act.put, sA, sB, sC]; with_reducible refine hK _ _ (bA _ _) ?_
       exact ⟨_, it, rfl, Rd.fresh _ _ _, hty⟩
      ·as_aux_lemma =>
       intro vs W hS hdep K hK; have d0 := hdep ⟨1, .data⟩ (by simp) rfl (by rfl); simp only [PhiBe14] at d0; have d1 := hdep ⟨6, .data⟩ (by simp) rfl (by rfl); simp only [PhiBe14] at d1; refine @exE2 _ _ _ _ d1 ?_; clear d1; intro g1 it1 d1; have e1 := d1.1; have hrd := d1.2.1; have tyi := d1.2.2; clear d1; have hS0 : Below Wc.heap.size Wc W := hS; clear hS; have H := hBX.out.below hS0; have hsz : w.heap.size + 2 ≤ W.heap.size := by have := H.b6.lt; omega
       have HON := Lib.hid tyi.one; refine ⟨?_⟩; simp only [Act.put, sA, sB, sC, Nat.zero_add, Nat.reduceAdd, d0, e1] at hK ⊢; rw [if_pos (by rfl)]; refine wp_append_any _ (.tmp 86) (.tmp 91) _ rfl (w.heap.size + 2) 122 i0 _ 24 96 Try.underlying70 hi0 hz0 hz1 hz2 zeroI_size (by omega) _ k1 _ rfl H.o1 _ 1 1 (cellsI it1) rfl rfl hrd HON.out (by simp only [maxLen]; omega) (by omega) hsz ?_; intro v4 w4 hown4 hg4 hat4
       replace hg4 : W.grownBy w4 (Value.ownBlock (.slice A1' k1 c1')) := hg4
       replace hat4 : v4.ownBlock = (Value.ownBlock (.slice A1' k1 c1')) ∨ v4.ownBlock = some W.heap.size := hat4
       have hown5 : w4.ownsRow (w.heap.size + 2) 122 24 v4 (k1 + 1) ((X1 ++ [it1]).flatMap cellsI) := by rw [List.flatMap_append]; simpa using hown4
       obtain ⟨A5, c5, rfl⟩ := own_shp hown5; have bn := own_ne H.o1 H.bg (by decide); simp only [Act.put, sA, sB, sC]; with_reducible refine hK _ _ ?_
       exact ⟨A5, c5, X1 ++ [it1], rfl, HYY it1 tyi, Blk.grown H.bg hg4 (fun j e1 e2 => bn (by rw [e1, e2])), hown5, fun h0 => own_other H.o2 hg4 (H.ap (.inr h0)), Blk.grown H.b6 hg4 (fun j e1 e2 => by have := own_block_ge H.o1 j e1; omega), H.be.grown hg4 (by omega) (fun j e1 => by have := own_block_ge H.o1 j e1; omega)⟩
      ·as_aux_lemma =>
       intro vs W hS hdep K hK; have hS1 : SBe1 w Wc g A1' k1 c1' (some ⟨b, 0, none⟩) k2 c2' X1 X2 Y1 (k1 + 1) [vs 7] vs W := hS; clear hS; have HS1 := Lib.hid hS1; clear hS1; refine ⟨?_⟩; simp only [Act.put, sA, sB, sC, Nat.zero_add, Nat.reduceAdd] at hK ⊢; go_simp; with_reducible refine hK _ _ ?_
       exact ⟨rfl, HS1.out⟩
      ·as_aux_lemma =>
       intro vs W hS hdep K hK; have hS1 : SBe1 w Wc g A1' k1 c1' (some ⟨b, 0, none⟩) k2 c2' X1 X2 Y1 (k1 + 1) [vs 7, vs 8] vs W := hS; clear hS; obtain ⟨ep, A5, c5, X5, e5, ty5, bg5, o15, o25, b65, be5⟩ := hS1; rw [e5] at o15; have z1 := bg5.frozen 0; have z2 := bg5.cell 0; simp only [List.getElem?_toArray, List.getElem?_cons_zero, List.getElem?_cons_succ] at z2; have HB5 := Lib.hid bg5; clear bg5; refine ⟨?_⟩; simp only [Act.put, sA, sB, sC, Nat.zero_add, Nat.reduceAdd, ep, e5] at hK ⊢; go_simp; with_reducible refine hK undef _ ?_
       have n1 := own_ne o15 HB5.out (by decide); exact ⟨A5, c5, X5, ty5, Blk.set_ HB5.out 0 _, own_setn (p := ⟨g, 0, none⟩) o15 n1 _, fun h0 => own_setn (p := ⟨g, 0, none⟩) (o25 h0) (own_ne (o25 h0) HB5.out (by decide)) _, hBX.out.len2, own_geA hBX.out.o2, b65.far (p := ⟨g, 0, none⟩) (by show w.heap.size + 1 ≠ g; omega) _, be5.setCell (p := ⟨g, 0, none⟩) (by show w.heap.size ≤ g; omega) _, hng⟩
     ·intro vs2 W2 hS2 _; obtain ⟨A5, c5, X5, hX5, H5⟩ := hS2; rw [HHY.out] at hX5; obtain ⟨it5, ty5, rfl⟩ := hX5; clear qa qb; have qb := H5.bg.cell 1; have zb := H5.bg.frozen 1; simp only [List.getElem?_toArray, List.getElem?_cons_zero, List.getElem?_cons_succ] at qb; have hcc : k2 ≤ c2' := own_cap (H5.o2 hk); have hbt := own_block_ge (H5.o2 hk) b rfl; have RT : Hid (RowS cellsI W2 (some ⟨b, 24, none⟩) (k2 - 1) (X2.drop 1)) := by have h := (own_rowR (by omega) (H5.o2 hk)).tail 1 (by omega); rwa [Nat.zero_add, Nat.one_mul] at h
      have nb := own_ne (H5.o2 hk) H5.bg (by decide); have n1 := own_ne H5.o1 H5.bg (by decide); have hng5 := H5.ng; have HH5 := Lib.hid H5; clear H5 HC hty hBX; go_upto_region 19 with fail; refine wp_name ?_; intro W3 HW3; obtain ⟨Ax, hAx⟩ : ∃ Ax : Option Addr, Hid (Ax = if c2' = 1 then some ⟨b, 0, none⟩ else some ⟨b, 24, none⟩) := ⟨_, rfl⟩; have e3 : W3 = W2.setCell ⟨g, 1, none⟩ (.slice (if c2' = 1 then some ⟨b, 0, none⟩ else some ⟨b, 24, none⟩) (k2 - 1) (c2' - 1)) := HW3.out; obtain ⟨cx, hcx⟩ : ∃ cx : Nat, Hid (cx = c2' - 1) := ⟨_, rfl⟩; rw [← hAx.out, ← hcx.out] at e3; rw [← hAx.out, ← hcx.out]
      have H3 : BSz w W3 g A5 (k1 + 1) c5 Ax (k2 - 1) cx (X1 ++ [it5]) := by
       rw [e3]; exact ⟨Blk.set_ HH5.out.bg 1 _, own_setn (p := ⟨g, 1, none⟩) HH5.out.o1 n1 _, HH5.out.b6.far (p := ⟨g, 1, none⟩) (by show w.heap.size + 1 ≠ g; omega) _, HH5.out.be.setCell (p := ⟨g, 1, none⟩) (by show w.heap.size ≤ g; omega) _⟩
      have RX : RowS cellsI W3 Ax (k2 - 1) (X2.drop 1) := by
       rw [hAx.out]; by_cases hce : c2' = 1
       ·rw [List.drop_of_length_le (by rw [HL2.out]; omega)]; exact ⟨fun h => absurd rfl h, by show k2 - 1 = 0; omega, by omega⟩
       ·rw [if_neg hce, e3]; exact RowS.set (p := ⟨g, 1, none⟩) RT.out (fun bb off e => by injection e with e; injection e with e1 _; intro h; exact nb (by rw [← e1] at h; show some b = some g; rw [h])) _
      have gx : ∀ bb off, Ax = some ⟨bb, off, none⟩ → w.heap.size + 2 ≤ bb := by
       intro bb off e; rw [hAx.out] at e
       split at e <;> (injection e with e; injection e with e1 _; omega)
      clear HW3 e3 hAx qb zb hcc nb n1; have BG := H3.bg; have B6 := H3.b6; have rA := own_rowR (by omega) H3.o1; have nA : ∀ bb off, A5 = some ⟨bb, off, none⟩ → bb ≠ w.heap.size + 1 := fun bb off e => by have := own_geA H3.o1 bb off e; omega
      have rB := RX; have nB : ∀ bb off, Ax = some ⟨bb, off, none⟩ → bb ≠ w.heap.size + 1 := fun bb off e => by have := gx bb off e; omega
      have be := H3.be
      go_wp2_with (first | (refine wpList_load_mid rfl 72 (.tmp 7) rfl g 0 rfl [.slice A5 (k1 + 1) c5, .slice Ax (k2 - 1) cx] _ (Blk.range BG) Try.underlying72 rfl info_rlnL ?_; simp only [Act.put, sA, sB, sC]) | (refine wpList_store_mid rfl 72 (.tmp 6) (.tmp 116) rfl (w.heap.size + 1) 0 #[.slice A5 (k1 + 1) c5, .slice Ax (k2 - 1) cx] rfl rfl (Blk.there B6 rfl) info_rln (by simp [Value.oneCell']) ?_))
      (try simp only [Exit.inBlock, Exit.then])
      refine bodyPost_ret (results_rln rfl rfl (Blk.setAll B6 rfl)) rfl ?_; exact ⟨⟨A5, (k1 + 1), c5, Ax, (k2 - 1), cx, (X1 ++ [it5]), (X2.drop 1)⟩, rfl, ⟨RowS.setAll nA _ _ rA, RowS.setAll nB _ _ rB, ty_app TX1.out (by intro it h; rw [List.mem_singleton.1 h]; exact ty5), (fun it h => TX2.out it (List.mem_of_mem_drop h))⟩, by show (k1 + 1) ≤ k1 + 1; omega, by show (k2 - 1) ≤ k2 + 1; omega, below_setAll (by omega) _ _ be⟩
    ·have l1 : ¬ ((k2 : Int) > 0) := by omega
     have H2 := hBX.out.weak; go_upto_region 19 with fail; have BG := H2.bg; have B6 := H2.b6; have rA := own_rowR (by omega) H2.o1; have nA : ∀ bb off, A1' = some ⟨bb, off, none⟩ → bb ≠ w.heap.size + 1 := fun bb off e => by have := own_geA H2.o1 bb off e; omega
     have rB := H2.rowB (by omega); have nB : ∀ bb off, A2' = some ⟨bb, off, none⟩ → bb ≠ w.heap.size + 1 := fun bb off e => by have := H2.g2 bb off e; omega
     have be := H2.be
     go_wp2_with (first | (refine wpList_load_mid rfl 72 (.tmp 7) rfl g 0 rfl [.slice A1' k1 c1', .slice A2' k2 c2'] _ (Blk.range BG) Try.underlying72 rfl info_rlnL ?_; simp only [Act.put, sA, sB, sC]) | (refine wpList_store_mid rfl 72 (.tmp 6) (.tmp 116) rfl (w.heap.size + 1) 0 #[.slice A1' k1 c1', .slice A2' k2 c2'] rfl rfl (Blk.there B6 rfl) info_rln (by simp [Value.oneCell']) ?_))
     (try simp only [Exit.inBlock, Exit.then])
     refine bodyPost_ret (results_rln rfl rfl (Blk.setAll B6 rfl)) rfl ?_; exact ⟨⟨A1', k1, c1', A2', k2, c2', X1, X2⟩, rfl, ⟨RowS.setAll nA _ _ rA, RowS.setAll nB _ _ rB, TX1.out, TX2.out⟩, by show k1 ≤ k1 + 1; omega, by show k2 ≤ k2 + 1; omega, below_setAll (by omega) _ _ be⟩
   ·by_cases z3 : z = 3
    ·as_aux_lemma =>
     subst z3; by_cases hk : kk < k1
     ·have l1 : (kk : Int) < (k1 : Int) := by omega
      obtain ⟨b, it, rfl, hty, HK, HC⟩ := HPK.out kk hk; obtain ⟨s, hs⟩ : ∃ s : Int, IntKind.i64.wrap (it.r.st + 1) = s := ⟨_, rfl⟩; have f1 : Wc.cell? ⟨b, kk * 24 + 3, none⟩ = some (.int .i64 it.r.st) := HC.out 3 _ rfl; have f2 : Wc.frozen? ⟨b, kk * 24 + 3, none⟩ = false := World.ownsRow.frozenAt hBX.out.o1 _; go_upto_region 19 with fail; refine wp_name ?_; intro W3 HW3; have e3 : W3 = Wc.setCell ⟨b, kk * 24 + 3, none⟩ (.int .i64 s) := HW3.out; have H2 := hBX.out.stored HK.out (j := 3) (it' := { it with r := { it.r with st := s } }) (u := .int .i64 s) (by omega) rfl; rw [← e3] at H2; clear e3 HW3 f1 f2 hs hBX HC qa qb; have BG := H2.bg; have B6 := H2.b6; have rA := own_rowR (by omega) H2.o1; have nA : ∀ bb off, (some (⟨b, 0, none⟩ : Addr)) = some ⟨bb, off, none⟩ → bb ≠ w.heap.size + 1 := fun bb off e => by have := own_geA H2.o1 bb off e; omega
      have rB := H2.rowB (by omega); have nB : ∀ bb off, A2' = some ⟨bb, off, none⟩ → bb ≠ w.heap.size + 1 := fun bb off e => by have := H2.g2 bb off e; omega
      have be := H2.be
      go_wp2_with (first | (refine wpList_load_mid rfl 72 (.tmp 7) rfl g 0 rfl [.slice (some (⟨b, 0, none⟩ : Addr)) k1 c1', .slice A2' k2 c2'] _ (Blk.range BG) Try.underlying72 rfl info_rlnL ?_; simp only [Act.put, sA, sB, sC]) | (refine wpList_store_mid rfl 72 (.tmp 6) (.tmp 116) rfl (w.heap.size + 1) 0 #[.slice (some (⟨b, 0, none⟩ : Addr)) k1 c1', .slice A2' k2 c2'] rfl rfl (Blk.there B6 rfl) info_rln (by simp [Value.oneCell']) ?_))
      (try simp only [Exit.inBlock, Exit.then])
      refine bodyPost_ret (results_rln rfl rfl (Blk.setAll B6 rfl)) rfl ?_; exact ⟨⟨(some (⟨b, 0, none⟩ : Addr)), k1, c1', A2', k2, c2', (X1.set kk { it with r := { it.r with st := s } }), X2⟩, rfl, ⟨RowS.setAll nA _ _ rA, RowS.setAll nB _ _ rB, ty_set TX1.out (hty.setS s), TX2.out⟩, by show k1 ≤ k1 + 1; omega, by show k2 ≤ k2 + 1; omega, below_setAll (by omega) _ _ be⟩
     ·have l1 : ¬ ((kk : Int) < (k1 : Int)) := by omega
      have H2 := hBX.out.weak; go_upto_region 19 with fail; have BG := H2.bg; have B6 := H2.b6; have rA := own_rowR (by omega) H2.o1; have nA : ∀ bb off, A1' = some ⟨bb, off, none⟩ → bb ≠ w.heap.size + 1 := fun bb off e => by have := own_geA H2.o1 bb off e; omega
      have rB := H2.rowB (by omega); have nB : ∀ bb off, A2' = some ⟨bb, off, none⟩ → bb ≠ w.heap.size + 1 := fun bb off e => by have := H2.g2 bb off e; omega
      have be := H2.be
      go_wp2_with (first | (refine wpList_load_mid rfl 72 (.tmp 7) rfl g 0 rfl [.slice A1' k1 c1', .slice A2' k2 c2'] _ (Blk.range BG) Try.underlying72 rfl info_rlnL ?_; simp only [Act.put, sA, sB, sC]) | (refine wpList_store_mid rfl 72 (.tmp 6) (.tmp 116) rfl (w.heap.size + 1) 0 #[.slice A1' k1 c1', .slice A2' k2 c2'] rfl rfl (Blk.there B6 rfl) info_rln (by simp [Value.oneCell']) ?_))
      (try simp only [Exit.inBlock, Exit.then])
      refine bodyPost_ret (results_rln rfl rfl (Blk.setAll B6 rfl)) rfl ?_; exact ⟨⟨A1', k1, c1', A2', k2, c2', X1, X2⟩, rfl, ⟨RowS.setAll nA _ _ rA, RowS.setAll nB _ _ rB, TX1.out, TX2.out⟩, by show k1 ≤ k1 + 1; omega, by show k2 ≤ k2 + 1; omega, below_setAll (by omega) _ _ be⟩
    ·as_aux_lemma =>
     obtain rfl : z = 4 := by omega
     obtain ⟨Y1, hY1⟩ : ∃ Y : List IT → Prop, Y = fun X => ∃ it, ItTy it ∧ X = X1 ++ [it] := ⟨_, rfl⟩
     have HYY : ∀ it, ItTy it → Y1 (X1 ++ [it]) := by intro it h; rw [hY1]; exact ⟨it, h, rfl⟩
     have HHY := Lib.hid hY1; clear hY1 z0 z1 z2 z3; go_upto_region 4 with fail; refine region_chain [7, 8, 9] [.early, .early, .early, .early, .early, .early, .early, .chain 0, .chain 1, .chain 2] [] [] (PhiBe4 g A1' k1 c1' A2' k2 c2' 0 kk ⟨⟨#[116, 48]⟩, rPass, 0⟩ by_ 0) (fun w w' => Below w.heap.size w w') (SBe1 w Wc g A1' k1 c1' A2' k2 c2' X1 X2 Y1 (k1 + 1)) (by kernel_rfl) (by kernel_rfl) (by kernel_rfl) (by kernel_rfl) (sK (fun _ _ _ _ _ h => h) (sK (fun _ _ _ _ _ h => h) (sK (fun _ _ _ _ _ h => h) (sK (fun _ _ _ _ _ h => h) (sK (fun _ _ _ _ _ h => h) (sK (fun _ _ _ _ _ h => h) (sK (fun _ _ _ _ _ h => h) (sK (fun _ _ _ _ _ h => h) (sK (fun _ _ _ _ _ h => h) (sK (fun _ _ _ _ _ h => h) (sZ))))))))))) PhiBe4.keepR PhiBe4.keepF (fun _ _ _ _ hR hS => Below.tr hS hR) SBe1.ins (fun _ => bD _) (fun vs => by simp only [fillR, Act.put, sA, sB, sC, Nat.zero_add, Nat.reduceAdd]; rfl) ?_ ?_
     ·refine sK ?_ (sK ?_ (sK ?_ (sK ?_ (sK ?_ (sK ?_ (sK ?_ (sK ?_ (sK ?_ (sK ?_ (sZ))))))))))
      ·as_aux_lemma =>
       intro vs W hS hu hdep K hK; have HU := Lib.hid hu; clear hu; refine ⟨?_⟩; simp only [Act.put, sA, sB, sC, Nat.zero_add, Nat.reduceAdd] at hK ⊢; go_simp; with_reducible refine hK _ _ (Below.refl _ _) ?_
       exact rfl
      ·as_aux_lemma =>
       intro vs W hS hu hdep K hK; have HU := Lib.hid hu; clear hu; have d0 := hdep ⟨0, .data⟩ (by simp) rfl; simp only [PhiBe4] at d0; have ft := cell_keep hS qa; refine ⟨?_⟩; simp only [Act.put, sA, sB, sC, Nat.zero_add, Nat.reduceAdd, d0] at hK ⊢; go_simp; with_reducible refine hK _ _ (Below.refl _ _) ?_
       exact rfl
      ·as_aux_lemma =>
       intro vs W hS hu hdep K hK; have HU := Lib.hid hu; clear hu; refine ⟨?_⟩; simp only [Act.put, sA, sB, sC, Nat.zero_add, Nat.reduceAdd] at hK ⊢; go_simp; with_reducible refine hK _ _ (Below.refl _ _) ?_
       exact rfl
      ·as_aux_lemma =>
       intro vs W hS hu hdep K hK; have HU := Lib.hid hu; clear hu; have d0 := hdep ⟨2, .data⟩ (by simp) rfl; simp only [PhiBe4] at d0; refine ⟨?_⟩; simp only [fillR, Act.put, sA, sB, sC, Nat.zero_add, Nat.reduceAdd, d0] at hK ⊢; go_simp; refine (around_n by_ 3 _ h3 h4 (by omega) (by omega)).mono ?_; rintro e w' ⟨z, rfl, hz, _, rfl⟩; go_wp2_with fail; with_reducible refine hK _ _ (Below.refl _ _) ?_
       exact ⟨_, rfl, hz⟩
      ·as_aux_lemma =>
       intro vs W hS hu hdep K hK; have HU := Lib.hid hu; clear hu; have d0 := hdep ⟨3, .data⟩ (by simp) rfl; simp only [PhiBe4] at d0; refine @exE1 _ _ _ d0 ?_; clear d0; intro z0 d0; have e0 := d0.1; have lz0 := d0.2; clear d0; refine ⟨?_⟩; simp only [Act.put, sA, sB, sC, Nat.zero_add, Nat.reduceAdd, e0] at hK ⊢; go_simp; with_reducible refine hK _ _ (Below.refl _ _) ?_
       exact ⟨_, rfl⟩
      ·as_aux_lemma =>
       intro vs W hS hu hdep K hK; have HU := Lib.hid hu; clear hu; have d0 := hdep ⟨4, .data⟩ (by simp) rfl; simp only [PhiBe4] at d0; refine @exE1 _ _ _ d0 ?_; clear d0; intro n0 d0; have e0 := d0; clear d0; refine ⟨?_⟩; simp only [Act.put, sA, sB, sC, Nat.zero_add, Nat.reduceAdd, e0] at hK ⊢; rw [if_pos (by rfl)]; refine wp_buildW 122 [(0, .const (.string ⟨#[116, 48]⟩)), (2, .tmp 30)] (by rfl) (cellsI ⟨⟨#[116, 48]⟩, rPass, n0⟩).toArray [(0, .string ⟨#[116, 48]⟩), (2, .int .i64 n0)] (by rfl) built_t0 ?_; simp only [Act.put, sA, sB, sC]; with_reducible refine hK _ _ (Below.refl _ _) ?_
       exact ⟨_, rfl⟩
      ·as_aux_lemma =>
       intro vs W hS hu hdep K hK; have HU := Lib.hid hu; clear hu; have d0 := hdep ⟨5, .data⟩ (by simp) rfl; simp only [PhiBe4] at d0; refine @exE1 _ _ _ d0 ?_; clear d0; intro n0 d0; have e0 := d0; clear d0; refine ⟨?_⟩; simp only [Act.put, sA, sB, sC, Nat.zero_add, Nat.reduceAdd, e0] at hK ⊢; rw [if_pos (by rfl)]; refine wp_sliceN 70 122 1 [(0, .tmp 31)] rfl (cellsI ⟨⟨#[116, 48]⟩, rPass, n0⟩).toArray i0 zeroI 24 [(0, .agg (cellsI ⟨⟨#[116, 48]⟩, rPass, n0⟩).toArray)] Try.underlying70 hi0 hz0 hz1 (by omega) (by omega) rfl (fill_item ⟨⟨#[116, 48]⟩, rPass, n0⟩) ?_; simp only [Act.put, sA, sB, sC]; with_reducible refine hK _ _ (bA _ _) ?_
       exact ⟨_, ⟨⟨#[116, 48]⟩, rPass, n0⟩, rfl, Rd.fresh _ _ _, rPass_ty⟩
      ·as_aux_lemma =>
       intro vs W hS hdep K hK; have d0 := hdep ⟨1, .data⟩ (by simp) rfl (by rfl); simp only [PhiBe4] at d0; have d1 := hdep ⟨6, .data⟩ (by simp) rfl (by rfl); simp only [PhiBe4] at d1; refine @exE2 _ _ _ _ d1 ?_; clear d1; intro g1 it1 d1; have e1 := d1.1; have hrd := d1.2.1; have tyi := d1.2.2; clear d1; have hS0 : Below Wc.heap.size Wc W := hS; clear hS; have H := hBX.out.below hS0; have hsz : w.heap.size + 2 ≤ W.heap.size := by have := H.b6.lt; omega
       have HON := Lib.hid tyi.one; refine ⟨?_⟩; simp only [Act.put, sA, sB, sC, Nat.zero_add, Nat.reduceAdd, d0, e1] at hK ⊢; rw [if_pos (by rfl)]; refine wp_append_any _ (.tmp 27) (.tmp 32) _ rfl (w.heap.size + 2) 122 i0 _ 24 96 Try.underlying70 hi0 hz0 hz1 hz2 zeroI_size (by omega) _ k1 _ rfl H.o1 _ 1 1 (cellsI it1) rfl rfl hrd HON.out (by simp only [maxLen]; omega) (by omega) hsz ?_; intro v4 w4 hown4 hg4 hat4
       replace hg4 : W.grownBy w4 (Value.ownBlock (.slice A1' k1 c1')) := hg4
       replace hat4 : v4.ownBlock = (Value.ownBlock (.slice A1' k1 c1')) ∨ v4.ownBlock = some W.heap.size := hat4
       have hown5 : w4.ownsRow (w.heap.size + 2) 122 24 v4 (k1 + 1) ((X1 ++ [it1]).flatMap cellsI) := by rw [List.flatMap_append]; simpa using hown4
       obtain ⟨A5, c5, rfl⟩ := own_shp hown5; have bn := own_ne H.o1 H.bg (by decide); simp only [Act.put, sA, sB, sC]; with_reducible refine hK _ _ ?_
       exact ⟨A5, c5, X1 ++ [it1], rfl, HYY it1 tyi, Blk.grown H.bg hg4 (fun j e1 e2 => bn (by rw [e1, e2])), hown5, fun h0 => own_other H.o2 hg4 (H.ap (.inr h0)), Blk.grown H.b6 hg4 (fun j e1 e2 => by have := own_block_ge H.o1 j e1; omega), H.be.grown hg4 (by omega) (fun j e1 => by have := own_block_ge H.o1 j e1; omega)⟩
      ·as_aux_lemma =>
       intro vs W hS hdep K hK; have hS1 : SBe1 w Wc g A1' k1 c1' A2' k2 c2' X1 X2 Y1 (k1 + 1) [vs 7] vs W := hS; clear hS; have HS1 := Lib.hid hS1; clear hS1; refine ⟨?_⟩; simp only [Act.put, sA, sB, sC, Nat.zero_add, Nat.reduceAdd] at hK ⊢; go_simp; with_reducible refine hK _ _ ?_
       exact ⟨rfl, HS1.out⟩
      ·as_aux_lemma =>
       intro vs W hS hdep K hK; have hS1 : SBe1 w Wc g A1' k1 c1' A2' k2 c2' X1 X2 Y1 (k1 + 1) [vs 7, vs 8] vs W := hS; clear hS; obtain ⟨ep, A5, c5, X5, e5, ty5, bg5, o15, o25, b65, be5⟩ := hS1; rw [e5] at o15; have z1 := bg5.frozen 0; have z2 := bg5.cell 0; simp only [List.getElem?_toArray, List.getElem?_cons_zero, List.getElem?_cons_succ] at z2; have HB5 := Lib.hid bg5; clear bg5; refine ⟨?_⟩; simp only [Act.put, sA, sB, sC, Nat.zero_add, Nat.reduceAdd, ep, e5] at hK ⊢; go_simp; with_reducible refine hK undef _ ?_
       have n1 := own_ne o15 HB5.out (by decide); exact ⟨A5, c5, X5, ty5, Blk.set_ HB5.out 0 _, own_setn (p := ⟨g, 0, none⟩) o15 n1 _, fun h0 => own_setn (p := ⟨g, 0, none⟩) (o25 h0) (own_ne (o25 h0) HB5.out (by decide)) _, hBX.out.len2, own_geA hBX.out.o2, b65.far (p := ⟨g, 0, none⟩) (by show w.heap.size + 1 ≠ g; omega) _, be5.setCell (p := ⟨g, 0, none⟩) (by show w.heap.size ≤ g; omega) _, hng⟩
     ·intro vs2 W2 hS2 _; obtain ⟨A5, c5, X5, hX5, H5⟩ := hS2; rw [HHY.out] at hX5; obtain ⟨it5, ty5, rfl⟩ := hX5; clear qa qb hBX; go_upto_region 19 with fail; have BG := H5.bg; have B6 := H5.b6; have rA := own_rowR (by omega) H5.o1; have nA : ∀ bb off, A5 = some ⟨bb, off, none⟩ → bb ≠ w.heap.size + 1 := fun bb off e => by have := own_geA H5.o1 bb off e; omega
      have rB := H5.rowB (by omega); have nB : ∀ bb off, A2' = some ⟨bb, off, none⟩ → bb ≠ w.heap.size + 1 := fun bb off e => by have := H5.g2 bb off e; omega
      have be := H5.be
      go_wp2_with (first | (refine wpList_load_mid rfl 72 (.tmp 7) rfl g 0 rfl [.slice A5 (k1 + 1) c5, .slice A2' k2 c2'] _ (Blk.range BG) Try.underlying72 rfl info_rlnL ?_; simp only [Act.put, sA, sB, sC]) | (refine wpList_store_mid rfl 72 (.tmp 6) (.tmp 116) rfl (w.heap.size + 1) 0 #[.slice A5 (k1 + 1) c5, .slice A2' k2 c2'] rfl rfl (Blk.there B6 rfl) info_rln (by simp [Value.oneCell']) ?_))
      (try simp only [Exit.inBlock, Exit.then])
      refine bodyPost_ret (results_rln rfl rfl (Blk.setAll B6 rfl)) rfl ?_; exact ⟨⟨A5, (k1 + 1), c5, A2', k2, c2', (X1 ++ [it5]), X2⟩, rfl, ⟨RowS.setAll nA _ _ rA, RowS.setAll nB _ _ rB, ty_app TX1.out (by intro it h; rw [List.mem_singleton.1 h]; exact ty5), TX2.out⟩, by show (k1 + 1) ≤ k1 + 1; omega, by show k2 ≤ k2 + 1; omega, below_setAll (by omega) _ _ be⟩
end Go.Proofs.Yticobffjnjbjiaa
namespace Go.Proofs.Yticobffjnjbjiaa
open Go Go.RowKit
theorem own_nil0 (w : World) (T : TypeId) (size : Nat) : (w.alloc (.cells #[] T)).ownsRow w.heap.size T size (.slice (some ⟨w.heap.size, 0, none⟩) 0 0) 0 [] :=
 ⟨by simp, .inr ⟨_, 0, #[], rfl, Nat.le_refl _, heap_alloc_new w _, Nat.le_refl _, by unfold maxLen; omega, by simp, by simp⟩⟩
theorem own_any {α : Type} {f : α → List Value} {m : Nat} (hf : ∀ x, (f x).length = m) {w : World} {base : Nat} {T : TypeId} {A : Option Addr} {n c : Nat} {X : List α} (hm : 0 < m) (hn : n ≤ 281474976710656) (h : w.ownsRow base T m (.slice A n c) n (X.flatMap f)) : RowS f w A n X := by
 obtain ⟨_, _, e, hr⟩ := own_rowS hf hm hn h; injection e with e1 _ _; subst e1; exact hr
theorem flat_int_one (l : List Int) : ∀ v ∈ l.flatMap intC, v.oneCell' = true := by
 intro v hv; obtain ⟨n, _, h⟩ := List.mem_flatMap.1 hv; rw [List.mem_singleton.1 h]; rfl
theorem flat_str_one (l : List ByteArray) : ∀ v ∈ l.flatMap strC, v.oneCell' = true := by
 intro v hv; obtain ⟨n, _, h⟩ := List.mem_flatMap.1 hv; rw [List.mem_singleton.1 h]; rfl
theorem info_rline : (Try.prog.info? 72).map (fun i => (i.zero, i.size, i.bytes)) = some (some (.agg #[.slice none 0 0, .slice none 0 0]), 2, 48) := by kernel_rfl
/-- four lines in a row -/
def LnS (w : World) (g : Nat) : Prop := ∀ j, j < 4 → ∃ y : Ln, w.cell? ⟨g, j * 2, none⟩ = some (.slice y.A1 y.k1 y.c1) ∧ w.cell? ⟨g, j * 2 + 1, none⟩ = some (.slice y.A2 y.k2 y.c2) ∧ y.Ok w ∧ y.k1 ≤ 1048600 ∧ y.k2 ≤ 1048600
theorem LnS.below {w w' : World} {g : Nat} (h : LnS w g) (hb : Below w.heap.size w w') : LnS w' g := fun j hj => by
 obtain ⟨y, h1, h2, h3, h4⟩ := h j hj; exact ⟨y, cell_keep hb h1, cell_keep hb h2, h3.below hb, h4⟩
theorem fill_ln4 {A1 A2 B1 B2 C1 C2 D1 D2 : Option Addr} {k1 c1 k2 c2 l1 d1 l2 d2 m1 e1 m2 e2 n1 f1 n2 f2 : Nat} : Instr.fill (fun i => some (i * 2, 2)) ((Array.range (4 * 2)).map ((Value.agg #[.slice none 0 0, .slice none 0 0]).cells[· % (Value.agg #[.slice none 0 0, .slice none 0 0]).cells.size]!)) [(0, .agg #[.slice A1 k1 c1, .slice A2 k2 c2]), (1, .agg #[.slice B1 l1 d1, .slice B2 l2 d2]), (2, .agg #[.slice C1 m1 e1, .slice C2 m2 e2]), (3, .agg #[.slice D1 n1 f1, .slice D2 n2 f2])] = some #[.slice A1 k1 c1, .slice A2 k2 c2, .slice B1 l1 d1, .slice B2 l2 d2, .slice C1 m1 e1, .slice C2 m2 e2, .slice D1 n1 f1, .slice D2 n2 f2] := by kernel_rfl
theorem Ln.nil_ok (w : World) : (⟨none, 0, 0, none, 0, 0, [], []⟩ : Ln).Ok w := ⟨⟨fun h => absurd rfl h, rfl, Nat.zero_le _⟩, ⟨fun h => absurd rfl h, rfl, Nat.zero_le _⟩, (fun it h => absurd h List.not_mem_nil), (fun it h => absurd h List.not_mem_nil)⟩
end Go.Proofs.Yticobffjnjbjiaa
namespace Go.Proofs.Yticobffjnjbjiaa
open Go Go.RowKit
/- GateDebts: the plain law, and what its loops keep -/
theorem PVal.uniq {p : PC} {L1 L2 : List Nat} {e f : Int} (h : PVal p L1 L2 e) (k : PVal p L1 L2 f) : e = f := by
 rcases h with ⟨h1, rfl⟩ | ⟨a, b, h1, h2, h3, rfl⟩
 ·rcases k with ⟨_, k2⟩ | ⟨a, b, k1, k2, k3, _⟩
  ·exact k2.symm
  ·rw [k1, k2] at h1; exact absurd (Nm.validE_of k3) h1
 ·rcases k with ⟨k1, _⟩ | ⟨a', b', k1, k2, k3, rfl⟩
  ·rw [h1, h2] at k1; exact absurd (Nm.validE_of h3) k1
  ·have e1 : a = a' := Nm.lb_inj (h1.symm.trans k1); have e2 : b = b' := Nm.dn_inj h3.pos k3.pos (Nm.lb_inj (h2.symm.trans k2)); rw [e1, e2]
theorem RedP.pair {w w' : World} {v v' : Value} {e f : Int} {n d : Nat} (h : RedP w v e n d) (k : RedP w' v' f n d) : e = f ∧ ∃ L1 L2, RtL w v L1 L2 ∧ RtL w' v' L1 L2 := by
 rcases h with ⟨h1, rfl, h2⟩ | ⟨h1, rfl, rfl⟩
 ·rcases k with ⟨_, rfl, k2⟩ | ⟨k1, _⟩
  ·exact ⟨rfl, _, _, rtl_rat h2, rtl_rat k2⟩
  ·exact absurd h1 k1
 ·rcases k with ⟨k1, _⟩ | ⟨_, rfl, rfl⟩
  ·exact absurd k1 h1
  ·exact ⟨rfl, _, _, rtl_rat nil_rat, rtl_rat nil_rat⟩
theorem EscP.pair {kl : Nat} {ps : List PC} {Lf : Nat → List Nat × List Nat} {k seen : Int} {w w' : World} {v v' : Value} {e f : Int} (hkl : kl = ps.length) (h : EscP kl ps Lf k seen w v e) (h' : EscP kl ps Lf k seen w' v' f) : e = f ∧ ∃ L1 L2, RtL w v L1 L2 ∧ RtL w' v' L1 L2 := by
 have nn : ∀ {w1 w2 : World}, ∃ L1 L2, RtL w1 nilRat L1 L2 ∧ RtL w2 nilRat L1 L2 := ⟨_, _, rtl_rat nil_rat, rtl_rat nil_rat⟩
 rcases h with ⟨h1, rfl, rfl⟩ | ⟨n, s, p, e1, e2, e3, h⟩
 ·rcases h' with ⟨_, rfl, rfl⟩ | ⟨n, s, p, e1, e2, e3, _⟩
  ·exact ⟨rfl, nn⟩
  ·have h9 := (List.getElem?_eq_some_iff.1 e3).1; subst e1 e2; clear nn
   exfalso
   rcases h1 with h1 | h1 | h1 <;> omega
 ·rcases h' with ⟨h1, _⟩ | ⟨n', s', p', f1, f2, f3, h'⟩
  ·have h9 := (List.getElem?_eq_some_iff.1 e3).1; subst e1 e2; clear nn
   exfalso
   rcases h1 with h1 | h1 | h1 <;> omega
  ·obtain rfl : n = n' := by omega
   obtain rfl : s = s' := by omega
   rw [e3] at f3; injection f3 with f3; subst f3
   rcases h with ⟨E, hE, hv, rfl, rfl⟩ | ⟨a, b, h1, h2, h3, h4, h5⟩
   ·rcases h' with ⟨E', hE', hv', rfl, rfl⟩ | ⟨a, b, k1, k2, k3, k4, _⟩
    ·exact ⟨hv.uniq hv', nn⟩
    ·exact absurd (hv.uniq (.inr ⟨a, b, k1, k2, k3, k4.symm⟩)) hE
   ·rcases h' with ⟨E', hE', hv', rfl, rfl⟩ | ⟨a', b', k1, k2, k3, k4, k5⟩
    ·exact absurd (hv'.uniq (.inr ⟨a, b, h1, h2, h3, h4.symm⟩)) hE'
    ·obtain rfl : a = a' := Nm.lb_inj (h1.symm.trans k1); obtain rfl : b = b' := Nm.dn_inj h3.pos k3.pos (Nm.lb_inj (h2.symm.trans k2)); exact h5.pair k5
/-- sums of the first numbers -/
def sumF (f : Nat → Nat) : Nat → Nat
 | 0 => 0
 | m + 1 => sumF f m + f m
theorem sumF_mono {f : Nat → Nat} {m n : Nat} (h : m ≤ n) : sumF f m ≤ sumF f n := by
 induction n with
 | zero =>
  have : m = 0 := by omega
  subst this; exact Nat.le_refl _
 | succ n ih =>
  rcases Nat.lt_or_ge m (n + 1) with h1 | h1
  ·have := ih (by omega)
   show _ ≤ sumF f n + f n
   omega
  ·have : m = n + 1 := by omega
   subst this; exact Nat.le_refl _
theorem sumF_add (f g : Nat → Nat) : ∀ m, sumF (fun j => f j + g j) m = sumF f m + sumF g m
 | 0 => rfl
 | m + 1 => by
  show sumF (fun j => f j + g j) m + (f m + g m) = (sumF f m + f m) + (sumF g m + g m)
  rw [sumF_add f g m]; omega
theorem sumF_one (p : Nat) : ∀ m, sumF (fun j => if p = j then 1 else 0) m = if p < m then 1 else 0
 | 0 => by simp [sumF]
 | m + 1 => by
  show sumF (fun j => if p = j then 1 else 0) m + (if p = m then 1 else 0) = _
  rw [sumF_one p m]
  split <;> split <;> split <;> omega
theorem sumF_zero : ∀ m, sumF (fun _ => 0) m = 0
 | 0 => rfl
 | m + 1 => by show sumF (fun _ => 0) m + 0 = 0; rw [sumF_zero m]
theorem sumF_congr {f g : Nat → Nat} (h : ∀ j, f j = g j) (m : Nat) : sumF f m = sumF g m := by
 have : f = g := funext h; rw [this]
theorem sum_cnt {n : Nat} : ∀ {X : List IT}, cntR n X = true → sumF (cntP X) n = X.length
 | [], _ => by rw [sumF_congr (g := fun _ => 0) (fun j => by simp [cntP])]; exact sumF_zero n
 | it :: X, h => by
  unfold cntR at h; rw [List.all_cons, Bool.and_eq_true] at h; have h1 : 0 ≤ it.p ∧ it.p < (n : Int) := by simpa using h.1
  obtain ⟨p, hp⟩ : ∃ p : Nat, it.p = (p : Int) := ⟨it.p.toNat, by omega⟩
  rw [sumF_congr (g := fun j => (if p = j then 1 else 0) + cntP X j) (fun j => by
   unfold cntP; rw [List.countP_cons, hp]; by_cases hj : p = j
   ·subst hj; simp; omega
   ·have : ¬ ((p : Int) = (j : Int)) := by omega
    simp [hj, this]), sumF_add, sumF_one, if_pos (by omega), sum_cnt h.2, List.length_cons]
  omega
theorem pas_in {l : List Nat} {ps : List PC} {xs : List (ByteArray × RC0)} {n : Nat} (h : ∀ k ∈ l, k < n) : cntR n (pasL l ps xs) = true := by
 unfold cntR; rw [List.all_eq_true]; intro it hit; obtain ⟨h1, h2⟩ := List.mem_filter.1 hit; obtain ⟨x, h3, rfl⟩ := List.mem_map.1 h1; have h4 : 0 ≤ ofN l ps x.1 x.2 := of_decide_eq_true h2
 have h5 : ofN l ps x.1 x.2 < (n : Int) := by
  unfold ofN at h4 ⊢
  cases hf : l.find? (covAt ps x.1 x.2) with
  | none => rw [hf] at h4; simp at h4
  | some k =>
   simp only; have := h k (List.mem_of_find?_eq_some hf); omega
 simpa using ⟨h4, h5⟩
end Go.Proofs.Yticobffjnjbjiaa
namespace Go.Proofs.Yticobffjnjbjiaa
open Go Go.RowKit
/-- what the law's walk holds -/
structure DbS (w W : World) (Ap : Option Addr) (kp : Nat) (ps : List PC) (bd : Nat → Nat × Nat) (ga gb gc : Nat) (ya yb yc : Ln) : Prop where
 hps : RowS cellsP W Ap kp ps
 pok : PsOk W ps bd
 ba : Blk W ga 72 #[.slice ya.A1 ya.k1 ya.c1, .slice ya.A2 ya.k2 ya.c2]
 bb : Blk W gb 72 #[.slice yb.A1 yb.k1 yb.c1, .slice yb.A2 yb.k2 yb.c2]
 bc : Blk W gc 72 #[.slice yc.A1 yc.k1 yc.c1, .slice yc.A2 yc.k2 yc.c2]
 oa : ya.Ok W
 ob : yb.Ok W
 oc : yc.Ok W
 be : Below w.heap.size w W
theorem DbS.below {w W W' : World} {Ap : Option Addr} {kp : Nat} {ps : List PC} {bd : Nat → Nat × Nat} {ga gb gc : Nat} {ya yb yc : Ln} (h : DbS w W Ap kp ps bd ga gb gc ya yb yc) (hb : Below W.heap.size W W') : DbS w W' Ap kp ps bd ga gb gc ya yb yc :=
 ⟨h.hps.below hb, h.pok.below hb, Blk.below h.ba hb h.ba.lt, Blk.below h.bb hb h.bb.lt, Blk.below h.bc hb h.bc.lt, h.oa.below hb, h.ob.below hb, h.oc.below hb, Below.tr h.be hb⟩
/-- rows of lines -/
def LLS (w : World) (g : Nat) : Prop := ∀ i, i < 4 → ∃ A k c Ls, w.cell? ⟨g, i, none⟩ = some (.slice A k c) ∧ RowS lnC w A k Ls ∧ (∀ y ∈ Ls, y.Ok w ∧ y.k1 ≤ 16 ∧ y.k2 ≤ 16) ∧ k ≤ 3
theorem LLS.below {w w' : World} {g : Nat} (h : LLS w g) (hb : Below w.heap.size w w') : LLS w' g := fun i hi => by
 obtain ⟨A, k, c, Ls, h1, h2, h3, h4⟩ := h i hi; exact ⟨A, k, c, Ls, cell_keep hb h1, h2.below hb, fun y hy => ⟨(h3 y hy).1.below hb, (h3 y hy).2⟩, h4⟩
/-- cells of lines -/
def lnsA (l : List Ln) : Array Value := (l.flatMap lnC).toArray
theorem row_lines {w : World} {g k : Nat} {T : TypeId} {Ls : List Ln} (h : Blk w g T (lnsA Ls)) (hk : k = Ls.length) (hk2 : k ≤ 281474976710656) : RowS lnC w (some ⟨g, 0, none⟩) k Ls :=
 ⟨fun _ => ⟨g, 0, rfl, fun i hi => by rw [Nat.zero_add, h.cell]; simp [lnsA, hi]⟩, hk, hk2⟩
theorem LLS.of {w : World} {g g1 g2 g3 : Nat} {T : TypeId} {L1 L2 L3 : List Ln} (hb : Blk w g T #[.slice (some ⟨g1, 0, none⟩) L1.length L1.length, .slice (some ⟨g2, 0, none⟩) L2.length L2.length, .slice (some ⟨g3, 0, none⟩) L3.length L3.length, .slice none 0 0])
  {T1 T2 T3 : TypeId} (h1 : Blk w g1 T1 (lnsA L1)) (h2 : Blk w g2 T2 (lnsA L2)) (h3 : Blk w g3 T3 (lnsA L3)) (l1 : L1.length ≤ 3) (l2 : L2.length ≤ 3) (l3 : L3.length ≤ 3)
  (o1 : ∀ y ∈ L1, y.Ok w ∧ y.k1 ≤ 16 ∧ y.k2 ≤ 16) (o2 : ∀ y ∈ L2, y.Ok w ∧ y.k1 ≤ 16 ∧ y.k2 ≤ 16) (o3 : ∀ y ∈ L3, y.Ok w ∧ y.k1 ≤ 16 ∧ y.k2 ≤ 16) : LLS w g := by
 intro i hi
 rcases i with _ | _ | _ | _ | i
 ·exact ⟨_, _, _, L1, by rw [hb.cell]; rfl, row_lines h1 rfl (by omega), o1, l1⟩
 ·exact ⟨_, _, _, L2, by rw [hb.cell]; rfl, row_lines h2 rfl (by omega), o2, l2⟩
 ·exact ⟨_, _, _, L3, by rw [hb.cell]; rfl, row_lines h3 rfl (by omega), o3, l3⟩
 ·exact ⟨none, 0, 0, [], by rw [hb.cell]; rfl, ⟨fun h => absurd rfl h, rfl, by omega⟩, fun y h => absurd h List.not_mem_nil, by omega⟩
 ·omega
/-- a slice's cells -/
def IsSl (v : Value) : Prop := ∃ A k c, v = .slice A k c
theorem RowI.grownBy {w w' : World} {A : Option Addr} {k : Nat} {X : List IT} {a : Value} (h : RowS cellsI w A k X) (kk : w.grownBy w' a.ownBlock) (hO : OwnAll IsSl w a) : RowS cellsI w' A k X := by
 refine ⟨fun hx => ?_, h.2⟩; obtain ⟨b, off, rfl, hc⟩ := h.1 hx; refine ⟨b, off, rfl, fun i hi => World.grownBy.cell kk (hc i hi) fun e => ?_⟩; have h0 := hc 0 (List.length_pos_iff.2 hx)
 rcases X with _ | ⟨it, X⟩
 ·exact absurd rfl hx
 ·obtain ⟨_, _, _, h1⟩ := hO b e.symm _ _ h0
  cases h1
theorem Ln.Ok.grownBy {w w' : World} {y : Ln} {a : Value} (h : y.Ok w) (kk : w.grownBy w' a.ownBlock) (hO : OwnAll IsSl w a) : y.Ok w' := ⟨RowI.grownBy h.1 kk hO, RowI.grownBy h.2.1 kk hO, h.2.2⟩
theorem lnC_sl (y : Ln) : ∀ x ∈ lnC y, IsSl x := by
 intro x hx; simp only [lnC, List.mem_cons, List.not_mem_nil, or_false] at hx
 rcases hx with rfl | rfl <;> exact ⟨_, _, _, rfl⟩
theorem lnC_one (y : Ln) : ∀ x ∈ lnC y, x.oneCell' = true := by
 intro x hx; obtain ⟨_, _, _, rfl⟩ := lnC_sl y x hx; rfl
theorem zl_sl : ∀ x ∈ (Value.agg #[.slice none 0 0, .slice none 0 0]).cells.toList, IsSl x := by
 intro x hx; simp [Value.cells] at hx; exact ⟨_, _, _, hx⟩
theorem info_gline : (Try.prog.info? 58).map (fun i => (i.zero, i.size, i.bytes)) = some (some (.agg #[.slice none 0 0, .slice none 0 0]), 2, 48) := by kernel_rfl
theorem fill_l1 (x : Ln) : Instr.fill (fun i => some (i * 2, 2)) ((Array.range (1 * 2)).map ((Value.agg #[.slice none 0 0, .slice none 0 0]).cells[· % (Value.agg #[.slice none 0 0, .slice none 0 0]).cells.size]!)) [(0, .agg #[.slice x.A1 x.k1 x.c1, .slice x.A2 x.k2 x.c2])] = some (lnsA [x]) := by kernel_rfl
theorem fill_l2 (x y : Ln) : Instr.fill (fun i => some (i * 2, 2)) ((Array.range (2 * 2)).map ((Value.agg #[.slice none 0 0, .slice none 0 0]).cells[· % (Value.agg #[.slice none 0 0, .slice none 0 0]).cells.size]!)) [(0, .agg #[.slice x.A1 x.k1 x.c1, .slice x.A2 x.k2 x.c2]), (1, .agg #[.slice y.A1 y.k1 y.c1, .slice y.A2 y.k2 y.c2])] = some (lnsA [x, y]) := by kernel_rfl
theorem fill_l3 (x y z : Ln) : Instr.fill (fun i => some (i * 2, 2)) ((Array.range (3 * 2)).map ((Value.agg #[.slice none 0 0, .slice none 0 0]).cells[· % (Value.agg #[.slice none 0 0, .slice none 0 0]).cells.size]!)) [(0, .agg #[.slice x.A1 x.k1 x.c1, .slice x.A2 x.k2 x.c2]), (1, .agg #[.slice y.A1 y.k1 y.c1, .slice y.A2 y.k2 y.c2]), (2, .agg #[.slice z.A1 z.k1 z.c1, .slice z.A2 z.k2 z.c2])] = some (lnsA [x, y, z]) := by kernel_rfl
/-- what Debt says, as a row that lasts -/
def DebR (w : World) (n : Nat) (X : List IT) (v : Value) (er : Int) : Prop :=
 (cntR n X = true ∧ er = 0 ∧ ∃ A c, v = .slice A n c ∧ RowS natC w A n (rowF n (cntP X))) ∨ (cntR n X = false ∧ er = 5 ∧ v = .slice none 0 0)
theorem DebP.r {w : World} {b n : Nat} {X : List IT} {v : Value} {er : Int} (hn : n ≤ 1048576) (h : DebP w b n X v er) : DebR w n X v er := by
 rcases h with ⟨h1, h2, A, c, rfl, h3⟩ | h
 ·exact .inl ⟨h1, h2, A, c, rfl, own_any natC_len (by omega) (by omega) h3⟩
 ·exact .inr h
theorem DebR.yes {w : World} {n : Nat} {X : List IT} {v : Value} {er : Int} (h : DebR w n X v er) (hc : cntR n X = true) : er = 0 ∧ ∃ A c, v = .slice A n c ∧ RowS natC w A n (rowF n (cntP X)) := by
 rcases h with ⟨_, h⟩ | ⟨h, _⟩
 ·exact h
 ·rw [hc] at h; cases h
theorem DebR.no {w : World} {n : Nat} {X : List IT} {v : Value} {er : Int} (h : DebR w n X v er) (hc : cntR n X = false) : er = 5 ∧ v = .slice none 0 0 := by
 rcases h with ⟨h, _⟩ | ⟨_, h⟩
 ·rw [hc] at h; cases h
 ·exact h
theorem DebR.below {w w' : World} {n : Nat} {X : List IT} {v : Value} {er : Int} (h : DebR w n X v er) (hb : Below w.heap.size w w') : DebR w' n X v er := by
 rcases h with ⟨h1, h2, A, c, h3, h4⟩ | h
 ·exact .inl ⟨h1, h2, A, c, h3, h4.below hb⟩
 ·exact .inr h
theorem sumF_le {n : Nat} {X : List IT} (h : cntR n X = true) {j : Nat} (hj : j ≤ n) : sumF (cntP X) j ≤ X.length := by
 rw [← sum_cnt h]; exact sumF_mono hj
theorem allP_one (y : Ln) : allP [y] = y.P := by simp [allP]
theorem allP_two (y z : Ln) : allP [y, z] = y.P ++ z.P := by simp [allP]
theorem allP_map {Ms Ls : List Ln} (h : Ms.map (·.P) = Ls.map (·.P)) : allP Ms = allP Ls := by
 unfold allP; rw [List.flatMap_def, List.flatMap_def, h]
theorem PromOk.d {p : PC} (h : PromOk p) : ∃ (team : Int) (t h : ByteArray) (site : Int) (A1 : Option Addr) (k1 c1 : Nat) (A2 : Option Addr) (k2 c2 : Nat) (fr un d : Int), p = promD team t h site (.slice A1 k1 c1) (.slice A2 k2 c2) fr un d 0 0 0 0 0 0 0 0 0 0 0 0 0 0 0 ∧ t.size ≤ 100 ∧ h.size ≤ 100 := by
 obtain ⟨team, t, h, site, fr, un, d, A1, k1, c1, A2, k2, c2, rfl, _, ht, hh, _⟩ := h; refine ⟨team, t, h, site, A1, k1, c1, A2, k2, c2, fr, un, d, rfl, ?_, ?_⟩
 ·rcases ht with rfl | rfl | rfl <;> decide
 ·rcases hh with rfl | rfl | rfl <;> decide
theorem PromOk.sizes {p : PC} (h : PromOk p) : p.test.size ≤ 100 ∧ p.wh.size ≤ 100 := by
 obtain ⟨team, t, h, site, A1, k1, c1, A2, k2, c2, fr, un, d, rfl, h1, h2⟩ := h.d; exact ⟨h1, h2⟩
theorem RtL.grownBy {w w' : World} {v a : Value} {l1 l2 : List Nat} (h : RtL w v l1 l2) (k : w.grownBy w' a.ownBlock) (hO : OwnAll NoL w a) : RtL w' v l1 l2 := by
 obtain ⟨A1, k1, c1, A2, k2, c2, rfl, h1, h2, e1, e2⟩ := h; exact ⟨A1, k1, c1, A2, k2, c2, rfl, h1.grownBy k hO, h2.grownBy k hO, e1, e2⟩
/-- the limbs of the promises and of one more -/
def LfM (n : Nat) (bd : Nat → Nat × Nat) (L1 L2 : List Nat) (i : Nat) : List Nat × List Nat := if i = n then (L1, L2) else (Nm.lb (bd i).1, Nm.lb (Nm.dn (bd i).2))
def EscOk (w : World) (ps : List PC) (Lf : Nat → List Nat × List Nat) : Prop := ∀ (n : Nat) p, ps[n]? = some p → RtL w (.agg #[p.b1, p.b2]) (Lf n).1 (Lf n).2 ∧ p.test.size ≤ 9223372036854775807 ∧ p.wh.size ≤ 9223372036854775807
theorem EscOk.below {w w' : World} {ps : List PC} {Lf : Nat → List Nat × List Nat} (h : EscOk w ps Lf) (hb : Below w.heap.size w w') : EscOk w' ps Lf := fun n p hp => ⟨(h n p hp).1.below hb, (h n p hp).2⟩
theorem EscOk.of {w : World} {ps : List PC} {bd : Nat → Nat × Nat} {p' : PC} {L1 L2 : List Nat} (h : PsOk w ps bd) (h' : RtL w (.agg #[p'.b1, p'.b2]) L1 L2) (h1 : p'.test.size ≤ 100) (h2 : p'.wh.size ≤ 100) : EscOk w (ps ++ [p']) (LfM ps.length bd L1 L2) := by
 intro n p hp; by_cases hn : n = ps.length
 ·subst hn; rw [List.getElem?_concat_length] at hp; injection hp with hp; subst hp; unfold LfM; rw [if_pos rfl]; exact ⟨h', by omega, by omega⟩
 ·have h3 : n < ps.length := by
   rcases Nat.lt_or_ge n ps.length with h3 | h3
   ·exact h3
   ·rw [List.getElem?_eq_none (by simp; omega)] at hp; cases hp
  rw [List.getElem?_append_left h3] at hp; obtain ⟨k1, k2, _⟩ := h n p hp; have k3 := k1.sizes; unfold LfM; rw [if_neg hn]; exact ⟨rtl_rat k2, by omega, by omega⟩
/-- five numbers -/
def In5 (w : World) (g : Nat) : Prop := ∀ i, i < 5 → ∃ n : Int, w.cell? ⟨g, i, none⟩ = some (.int .i64 n)
theorem In5.below {w w' : World} {g : Nat} (h : In5 w g) (hb : Below w.heap.size w w') : In5 w' g := fun i hi => by
 obtain ⟨n, h1⟩ := h i hi; exact ⟨n, cell_keep hb h1⟩
theorem In5.of {w : World} {g : Nat} {T : TypeId} {a b c d e : Int} (h : Blk w g T #[.int .i64 a, .int .i64 b, .int .i64 c, .int .i64 d, .int .i64 e]) : In5 w g := by
 intro i hi
 rcases i with _ | _ | _ | _ | _ | i
 ·exact ⟨a, by rw [h.cell]; rfl⟩
 ·exact ⟨b, by rw [h.cell]; rfl⟩
 ·exact ⟨c, by rw [h.cell]; rfl⟩
 ·exact ⟨d, by rw [h.cell]; rfl⟩
 ·exact ⟨e, by rw [h.cell]; rfl⟩
 ·omega
end Go.Proofs.Yticobffjnjbjiaa
