import Derived.Test.YtijkfagkbfbpmaaGreatDoorKByProof23
import Derived.Test.YtijkfagkbfbpmaaGreatDoorKByProof24
import Derived.Test.YtijkfagkbfbpmaaGreatDoorKByProof21
import Derived.Test.YtijkfagkbfbpmaaGreatDoorKByProof17
import Derived.Test.YtijkfagkbfbpmaaGreatDoorKByProof22
import Derived.Test.YtijkfagkbfbpmaaGreatDoorKByProof01
import Derived.Test.YtijkfagkbfbpmaaGreatDoorS0
set_option linter.unusedVariables false
set_option linter.unusedSimpArgs false
namespace Go.Proofs.YtijkfagkbfbpmaaGreatDoor
open Go Go.RowKit
def I64 (x : Int) : Prop := -9223372036854775808 ≤ x ∧ x ≤ 9223372036854775807
def BY (x : Int) : Prop := 0 ≤ x ∧ x ≤ 255
/-- a promise whose fields are such as Go's types allow, with a ratio of the given limbs -/
def PD (w : World) (p : PC) (L1 L2 : List Nat) : Prop := ∃ (team : Int) (t h : ByteArray) (site : Int) (A1 : Option Addr) (k1 c1 : Nat) (A2 : Option Addr) (k2 c2 : Nat) (fr un : Int) (r0 r1 r2 r3 r4 r5 r6 r7 r8 r9 r10 r11 r12 r13 r14 r15 : Int), p = promD team t h site (.slice A1 k1 c1) (.slice A2 k2 c2) fr un r0 r1 r2 r3 r4 r5 r6 r7 r8 r9 r10 r11 r12 r13 r14 r15 ∧ t.size ≤ 100 ∧ h.size ≤ 100 ∧ RtL w (.agg #[.slice A1 k1 c1, .slice A2 k2 c2]) L1 L2 ∧ (I64 team ∧ I64 site ∧ I64 fr ∧ I64 un) ∧ (BY r0 ∧ BY r1 ∧ BY r2 ∧ BY r3 ∧ BY r4 ∧ BY r5 ∧ BY r6 ∧ BY r7 ∧ BY r8 ∧ BY r9 ∧ BY r10 ∧ BY r11 ∧ BY r12 ∧ BY r13 ∧ BY r14 ∧ BY r15)
theorem PD.below {w w' : World} {p : PC} {L1 L2 : List Nat} (h : PD w p L1 L2) (hb : Below w.heap.size w w') : PD w' p L1 L2 := by
 obtain ⟨team, t, h, site, A1, k1, c1, A2, k2, c2, fr, un, r0, r1, r2, r3, r4, r5, r6, r7, r8, r9, r10, r11, r12, r13, r14, r15, e, h1, h2, h3, h4⟩ := h; exact ⟨team, t, h, site, A1, k1, c1, A2, k2, c2, fr, un, r0, r1, r2, r3, r4, r5, r6, r7, r8, r9, r10, r11, r12, r13, r14, r15, e, h1, h2, h3.below hb, h4⟩
theorem wrap8_in (x : Int) : 0 ≤ IntKind.u8.wrap x ∧ IntKind.u8.wrap x ≤ 255 := by
 have : IntKind.u8.wrap x = x % 256 := by simp [IntKind.wrap, IntKind.bits, IntKind.signed]
 omega
def PDN (w : World) (p : PC) (N : Nat) : Prop := ∃ M1 M2, PD w p M1 M2 ∧ M1.length ≤ N ∧ M2.length ≤ N
theorem PDN.below {w w' : World} {p : PC} {N : Nat} (h : PDN w p N) (hb : Below w.heap.size w w') : PDN w' p N := by
 obtain ⟨M1, M2, h1, h2⟩ := h; exact ⟨M1, M2, h1.below hb, h2⟩
theorem intsA_in {b : Int} (hb : I64 b) {k : Nat} (h : k < 10) : ∃ v : Int, (intsA b)[k]? = some (.int .i64 v) ∧ I64 v := by
 have hc : k = 0 ∨ k = 1 ∨ k = 2 ∨ k = 3 ∨ k = 4 ∨ k = 5 ∨ k = 6 ∨ k = 7 ∨ k = 8 ∨ k = 9 := by omega
 rcases hc with rfl | rfl | rfl | rfl | rfl | rfl | rfl | rfl | rfl | rfl
 all_goals refine ⟨_, rfl, ?_⟩
 all_goals first | exact hb | (unfold I64; omega)
set_option maxRecDepth 100000 in
set_option maxHeartbeats 1000000 in
theorem sp34_g (p0 : PC) (L1 L2 : List Nat) (N : Nat) (how by_ : Int) (w : World) (hp0 : PD w p0 L1 L2) (hN1 : 67 ≤ N) (hN2 : N ≤ 200) (hL1 : L1.length ≤ N) (hL2 : L2.length ≤ N) (i1 : -9223372036854775808 ≤ how) (i2 : how ≤ 9223372036854775807) (i3 : -9223372036854775808 ≤ by_) (i4 : by_ ≤ 9223372036854775807) :
  Calls Tryz.prog 55 #[.agg (cellsP p0).toArray, .int .i64 how, .int .i64 by_] w fun e w' => ∃ p' : PC, e = .returned (.agg (cellsP p').toArray) ∧ PDN w' p' (N + 1) ∧ Below w.heap.size w w' := by
 obtain ⟨team, t, h, site, A1, k1, c1, A2, k2, c2, fr, un, r0, r1, r2, r3, r4, r5, r6, r7, r8, r9, r10, r11, r12, r13, r14, r15, rfl, hs1, hs2, hra, hI, hY⟩ := hp0; have HI := Lib.hid hI; have HY := Lib.hid hY; clear hI hY; obtain ⟨PA, HPA⟩ : ∃ PA : Array Value, Hid (PA = (cellsP (promD team t h site (.slice A1 k1 c1) (.slice A2 k2 c2) fr un r0 r1 r2 r3 r4 r5 r6 r7 r8 r9 r10 r11 r12 r13 r14 r15)).toArray) := ⟨_, rfl⟩; obtain ⟨ZA, HZA⟩ : ∃ ZA : Array Value, Hid (ZA = (cellsP (promV 0 ⟨#[]⟩ ⟨#[]⟩ 0 (.slice none 0 0) (.slice none 0 0) 0 0 0)).toArray) := ⟨_, rfl⟩; have HPU : Hid (NoU PA) := by rw [HPA.out]; exact promD_noU
 have HZU : Hid (NoU ZA) := by rw [HZA.out]; exact zeroP_noU
 have HZS : Hid (ZA.size = 24) := by show _ = _; rw [HZA.out]; rfl
 rw [← HPA.out]
 go_enter Tryz.func55, Tryz.ntmps55
 go_upto_region 1 with fail; refine wp_name ?_; intro w1 HW1; have hb1 : Below w.heap.size w w1 := by rw [HW1.out]; exact Below.tr (bA _ _) (bA _ _)
 have B3 : Blk w1 w.heap.size 33 PA := by rw [HW1.out]; exact (Blk.new _ _ _).alloc _
 have B6 : Blk w1 (w.heap.size + 1) 33 ZA := by
  rw [HW1.out]; have h := Blk.new (w.alloc (.cells PA 33)) 33 ZA; rw [show (w.alloc (.cells PA 33)).heap.size = w.heap.size + 1 by simp, HZA.out] at h; rw [HZA.out]; exact h
 clear HW1; have hra1 := hra.below hb1
 go_cut [7] from 9 to 14 (fun u wx => (∃ n : Int, u = .int .i64 n ∧ Hid (I64 n)) ∧ Below w1.heap.size w1 wx)
 case first => as_aux_lemma =>
  clear hra hra1 B3 B6 hb1; obtain ⟨i0, hi0, hz0, hz1, hz2⟩ := info_parts info_int
  go_wp2_with (first | (refine wpList_sliceN rfl 22 3 10 [(0, .const (.int .i64 (-1))), (1, .const (.int .i64 0)), (2, .const (.int .i64 1)), (3, .const (.int .i64 3)), (4, .const (.int .i64 4)), (5, .const (.int .i64 511)), (6, .const (.int .i64 512)), (7, .const (.int .i64 1048576)), (8, .const (.int .i64 1048577)), (9, .tmp 9)] rfl (intsA by_) i0 (.int .i64 0) 1 [(0, .int .i64 (-1)), (1, .int .i64 0), (2, .int .i64 1), (3, .int .i64 3), (4, .int .i64 4), (5, .int .i64 511), (6, .int .i64 512), (7, .int .i64 1048576), (8, .int .i64 1048577), (9, .int .i64 by_)] Tryz.underlying22 hi0 hz0 hz1 (by omega) (by omega) (by rfl) fill_ints ?_))
  refine calls_name ?_; intro W5 HW5; have hb5 : Below w1.heap.size w1 W5 := by rw [HW5.out]; exact bA _ _
  have BX : Blk W5 w1.heap.size 3 (intsA by_) := by rw [HW5.out]; exact Blk.new _ _ _
  clear HW5; refine (around_n by_ 10 _ i3 i4 (by omega) (by omega)).mono ?_; rintro e w' ⟨kk, rfl, hkk, _, rfl⟩; have lk : (kk : Int) < 10 := by omega
  obtain ⟨v, hv, hv2⟩ := intsA_in (b := by_) ⟨i3, i4⟩ hkk; have HV2 := Lib.hid hv2; clear hv2; have hcv : W5.cell? ⟨w1.heap.size, kk, none⟩ = some (.int .i64 v) := by rw [BX.cell]; exact hv
  clear BX hv; go_wp2_with fail
  go_meet
  case rel => exact ⟨⟨_, rfl, HV2⟩, hb5⟩
 obtain ⟨⟨n, rfl, HNI⟩, hb2⟩ := hcut; have B3 := Blk.below B3 hb2 B3.lt; have B6 := Blk.below B6 hb2 B6.lt; have hra2 := hra1.below hb2; have hb12 := Below.tr hb1 hb2; clear hb1 hb2 hra1; go_upto_region 2 with fail; obtain ⟨w2, hw2⟩ : ∃ x, x = wc := ⟨_, rfl⟩; subst hw2
 go_cut [8] from 15 to 19 (fun u wx => (∃ s : ByteArray, u = .string s ∧ s.size ≤ 100) ∧ Below w2.heap.size w2 wx)
 case first => as_aux_lemma =>
  clear hra hra2 B3 B6 hb12; obtain ⟨i0, hi0, hz0, hz1, hz2⟩ := info_parts info_str
  go_wp2_with (first | (refine wpList_sliceN rfl 49 9 9 [(0, .const (.string ⟨#[]⟩)), (1, .const (.string ⟨#[116, 48]⟩)), (2, .const (.string ⟨#[45]⟩)), (3, .const (.string ⟨#[97, 49]⟩)), (4, .const (.string ⟨#[49, 97]⟩)), (5, .const (.string ⟨#[65]⟩)), (6, .const (.string ⟨#[116, 32, 48]⟩)), (7, .const (.string ⟨#[97, 98, 99, 100, 101, 102, 103, 104, 105, 106, 107, 108, 109, 110, 111, 112]⟩)), (8, .const (.string ⟨#[97, 98, 99, 100, 101, 102, 103, 104, 105, 106, 107, 108, 109, 110, 111, 112, 113]⟩))] rfl strsA i0 (.string ⟨#[]⟩) 1 [(0, .string ⟨#[]⟩), (1, .string ⟨#[116, 48]⟩), (2, .string ⟨#[45]⟩), (3, .string ⟨#[97, 49]⟩), (4, .string ⟨#[49, 97]⟩), (5, .string ⟨#[65]⟩), (6, .string ⟨#[116, 32, 48]⟩), (7, .string ⟨#[97, 98, 99, 100, 101, 102, 103, 104, 105, 106, 107, 108, 109, 110, 111, 112]⟩), (8, .string ⟨#[97, 98, 99, 100, 101, 102, 103, 104, 105, 106, 107, 108, 109, 110, 111, 112, 113]⟩)] Tryz.underlying49 hi0 hz0 hz1 (by omega) (by omega) (by rfl) fill_strs ?_))
  refine calls_name ?_; intro W5 HW5; have hb5 : Below w2.heap.size w2 W5 := by rw [HW5.out]; exact bA _ _
  have BX : Blk W5 w2.heap.size 9 strsA := by rw [HW5.out]; exact Blk.new _ _ _
  clear HW5; refine (around_n by_ 9 _ i3 i4 (by omega) (by omega)).mono ?_; rintro e w' ⟨kk, rfl, hkk, _, rfl⟩; have lk : (kk : Int) < 9 := by omega
  obtain ⟨v, hv, hvs⟩ := strsA_at hkk; have hcv : W5.cell? ⟨w2.heap.size, kk, none⟩ = some (.string v) := by rw [BX.cell]; exact hv
  have HVS := Lib.hid hvs; clear BX hv hvs; go_wp2_with fail
  go_meet
  case rel => exact ⟨⟨_, rfl, HVS.out⟩, hb5⟩
 obtain ⟨⟨s, rfl, hss⟩, hb3⟩ := hcut; obtain ⟨w3, hw3⟩ : ∃ x, x = wc := ⟨_, rfl⟩; subst hw3; have B3 := Blk.below B3 hb3 B3.lt; have B6 := Blk.below B6 hb3 B6.lt; have hra3 := hra2.below hb3; have hbe := Below.tr hb12 hb3; clear hb12 hb3 hra2; have hrl := hra3; go_wp2_with fail; refine (around_n how 9 _ i1 i2 (by omega) (by omega)).mono ?_; rintro e w' ⟨z, rfl, hz, _, rfl⟩; clear i1 i2; by_cases z0 : z = 0
 ·as_aux_lemma =>
   subst z0; have f1 := B3.frozen 0; have f2 := B3.cell 0; rw [HPA.out] at f2; simp only [cellsP, promD] at f2; simp only [List.getElem?_toArray, List.getElem?_cons_zero, List.getElem?_cons_succ] at f2; have HB3 := Lib.hid B3; clear B3; go_upto_region 21 with fail; refine wp_name ?_; intro W4 HW4; have e4 : W4 = w3.setCell ⟨w.heap.size, 0, none⟩ (.int .i64 n) := HW4.out; have BG : Blk W4 w.heap.size 33 (cellsP (promD n t h site (.slice A1 k1 c1) (.slice A2 k2 c2) fr un r0 r1 r2 r3 r4 r5 r6 r7 r8 r9 r10 r11 r12 r13 r14 r15)).toArray := by rw [e4]; have h := Blk.set_ HB3.out 0 (.int .i64 n); rw [HPA.out] at h; exact h
   have B6z : Blk W4 (w.heap.size + 1) 33 ZA := by rw [e4]; exact B6.far (p := ⟨w.heap.size, 0, none⟩) (by show w.heap.size + 1 ≠ w.heap.size; omega) _
   have hr4 : RtL W4 (.agg #[.slice A1 k1 c1, .slice A2 k2 c2]) L1 L2 := by rw [e4]; exact hrl.setB HB3.out HPU.out _
   have hb4 : Below w.heap.size w W4 := by rw [e4]; exact hbe.setCell (p := ⟨w.heap.size, 0, none⟩) (Nat.le_refl _) _
   clear e4 HW4 f1 f2 B6 hrl hra3 hbe; have hF : Blk (W4.setCells (w.heap.size + 1) 0 (cellsP (promD n t h site (.slice A1 k1 c1) (.slice A2 k2 c2) fr un r0 r1 r2 r3 r4 r5 r6 r7 r8 r9 r10 r11 r12 r13 r14 r15)).toArray.toList) (w.heap.size + 1) 33 (cellsP (promD n t h site (.slice A1 k1 c1) (.slice A2 k2 c2) fr un r0 r1 r2 r3 r4 r5 r6 r7 r8 r9 r10 r11 r12 r13 r14 r15)).toArray := Blk.setAll B6z (by rw [HZS.out]; rfl); have hrz := RtL.setsB (cellsP (promD n t h site (.slice A1 k1 c1) (.slice A2 k2 c2) fr un r0 r1 r2 r3 r4 r5 r6 r7 r8 r9 r10 r11 r12 r13 r14 r15)).toArray.toList 0 hr4 B6z HZU.out (by rw [List.toList_toArray]; exact promD_no); have hbz := below_setAll (g := w.heap.size + 1) (by omega) (cellsP (promD n t h site (.slice A1 k1 c1) (.slice A2 k2 c2) fr un r0 r1 r2 r3 r4 r5 r6 r7 r8 r9 r10 r11 r12 r13 r14 r15)).toArray.toList 0 hb4
   go_wp2_with (first | (refine wpList_load_mid rfl 33 (.tmp 3) rfl w.heap.size 0 rfl (cellsP (promD n t h site (.slice A1 k1 c1) (.slice A2 k2 c2) fr un r0 r1 r2 r3 r4 r5 r6 r7 r8 r9 r10 r11 r12 r13 r14 r15)) _ (Blk.range BG) Tryz.underlying33 rfl (infoP_len (p := (promD n t h site (.slice A1 k1 c1) (.slice A2 k2 c2) fr un r0 r1 r2 r3 r4 r5 r6 r7 r8 r9 r10 r11 r12 r13 r14 r15))) ?_; simp only [Act.put, sA, sB, sC]) | (refine wpList_store_mid rfl 33 (.tmp 6) (.tmp 70) rfl (w.heap.size + 1) 0 (cellsP (promD n t h site (.slice A1 k1 c1) (.slice A2 k2 c2) fr un r0 r1 r2 r3 r4 r5 r6 r7 r8 r9 r10 r11 r12 r13 r14 r15)).toArray rfl rfl (Blk.there B6z HZS.out) (infoP24 (p := (promD n t h site (.slice A1 k1 c1) (.slice A2 k2 c2) fr un r0 r1 r2 r3 r4 r5 r6 r7 r8 r9 r10 r11 r12 r13 r14 r15))) (all_oneCell_toArray promD_one) ?_))
   (try simp only [Exit.inBlock, Exit.then])
   exact bodyPost_ret (results_prom rfl rfl hF rfl) rfl ⟨(promD n t h site (.slice A1 k1 c1) (.slice A2 k2 c2) fr un r0 r1 r2 r3 r4 r5 r6 r7 r8 r9 r10 r11 r12 r13 r14 r15), rfl, ⟨_, _, ⟨_, _, _, _, _, _, _, _, _, _, _, _, _, _, _, _, _, _, _, _, _, _, _, _, _, _, _, _, rfl, hs1, hs2, hrz, ⟨HNI.out, HI.out.2.1, HI.out.2.2.1, HI.out.2.2.2⟩, HY.out⟩, by omega, by omega⟩, hbz⟩
 ·skip
  by_cases z1 : z = 1
  ·as_aux_lemma =>
    subst z1; have f1 := B3.frozen 1; have f2 := B3.cell 1; rw [HPA.out] at f2; simp only [cellsP, promD] at f2; simp only [List.getElem?_toArray, List.getElem?_cons_zero, List.getElem?_cons_succ] at f2; have HB3 := Lib.hid B3; clear B3; go_upto_region 21 with fail; refine wp_name ?_; intro W4 HW4; have e4 : W4 = w3.setCell ⟨w.heap.size, 1, none⟩ (.string s) := HW4.out; have BG : Blk W4 w.heap.size 33 (cellsP (promD team s h site (.slice A1 k1 c1) (.slice A2 k2 c2) fr un r0 r1 r2 r3 r4 r5 r6 r7 r8 r9 r10 r11 r12 r13 r14 r15)).toArray := by rw [e4]; have h := Blk.set_ HB3.out 1 (.string s); rw [HPA.out] at h; exact h
    have B6z : Blk W4 (w.heap.size + 1) 33 ZA := by rw [e4]; exact B6.far (p := ⟨w.heap.size, 1, none⟩) (by show w.heap.size + 1 ≠ w.heap.size; omega) _
    have hr4 : RtL W4 (.agg #[.slice A1 k1 c1, .slice A2 k2 c2]) L1 L2 := by rw [e4]; exact hrl.setB HB3.out HPU.out _
    have hb4 : Below w.heap.size w W4 := by rw [e4]; exact hbe.setCell (p := ⟨w.heap.size, 1, none⟩) (Nat.le_refl _) _
    clear e4 HW4 f1 f2 B6 hrl hra3 hbe; have hF : Blk (W4.setCells (w.heap.size + 1) 0 (cellsP (promD team s h site (.slice A1 k1 c1) (.slice A2 k2 c2) fr un r0 r1 r2 r3 r4 r5 r6 r7 r8 r9 r10 r11 r12 r13 r14 r15)).toArray.toList) (w.heap.size + 1) 33 (cellsP (promD team s h site (.slice A1 k1 c1) (.slice A2 k2 c2) fr un r0 r1 r2 r3 r4 r5 r6 r7 r8 r9 r10 r11 r12 r13 r14 r15)).toArray := Blk.setAll B6z (by rw [HZS.out]; rfl); have hrz := RtL.setsB (cellsP (promD team s h site (.slice A1 k1 c1) (.slice A2 k2 c2) fr un r0 r1 r2 r3 r4 r5 r6 r7 r8 r9 r10 r11 r12 r13 r14 r15)).toArray.toList 0 hr4 B6z HZU.out (by rw [List.toList_toArray]; exact promD_no); have hbz := below_setAll (g := w.heap.size + 1) (by omega) (cellsP (promD team s h site (.slice A1 k1 c1) (.slice A2 k2 c2) fr un r0 r1 r2 r3 r4 r5 r6 r7 r8 r9 r10 r11 r12 r13 r14 r15)).toArray.toList 0 hb4
    go_wp2_with (first | (refine wpList_load_mid rfl 33 (.tmp 3) rfl w.heap.size 0 rfl (cellsP (promD team s h site (.slice A1 k1 c1) (.slice A2 k2 c2) fr un r0 r1 r2 r3 r4 r5 r6 r7 r8 r9 r10 r11 r12 r13 r14 r15)) _ (Blk.range BG) Tryz.underlying33 rfl (infoP_len (p := (promD team s h site (.slice A1 k1 c1) (.slice A2 k2 c2) fr un r0 r1 r2 r3 r4 r5 r6 r7 r8 r9 r10 r11 r12 r13 r14 r15))) ?_; simp only [Act.put, sA, sB, sC]) | (refine wpList_store_mid rfl 33 (.tmp 6) (.tmp 70) rfl (w.heap.size + 1) 0 (cellsP (promD team s h site (.slice A1 k1 c1) (.slice A2 k2 c2) fr un r0 r1 r2 r3 r4 r5 r6 r7 r8 r9 r10 r11 r12 r13 r14 r15)).toArray rfl rfl (Blk.there B6z HZS.out) (infoP24 (p := (promD team s h site (.slice A1 k1 c1) (.slice A2 k2 c2) fr un r0 r1 r2 r3 r4 r5 r6 r7 r8 r9 r10 r11 r12 r13 r14 r15))) (all_oneCell_toArray promD_one) ?_))
    (try simp only [Exit.inBlock, Exit.then])
    exact bodyPost_ret (results_prom rfl rfl hF rfl) rfl ⟨(promD team s h site (.slice A1 k1 c1) (.slice A2 k2 c2) fr un r0 r1 r2 r3 r4 r5 r6 r7 r8 r9 r10 r11 r12 r13 r14 r15), rfl, ⟨_, _, ⟨_, _, _, _, _, _, _, _, _, _, _, _, _, _, _, _, _, _, _, _, _, _, _, _, _, _, _, _, rfl, hss, hs2, hrz, ⟨HI.out.1, HI.out.2.1, HI.out.2.2.1, HI.out.2.2.2⟩, HY.out⟩, by omega, by omega⟩, hbz⟩
  ·skip
   by_cases z2 : z = 2
   ·as_aux_lemma =>
     subst z2; have f1 := B3.frozen 2; have f2 := B3.cell 2; rw [HPA.out] at f2; simp only [cellsP, promD] at f2; simp only [List.getElem?_toArray, List.getElem?_cons_zero, List.getElem?_cons_succ] at f2; have HB3 := Lib.hid B3; clear B3; go_upto_region 21 with fail; refine wp_name ?_; intro W4 HW4; have e4 : W4 = w3.setCell ⟨w.heap.size, 2, none⟩ (.string s) := HW4.out; have BG : Blk W4 w.heap.size 33 (cellsP (promD team t s site (.slice A1 k1 c1) (.slice A2 k2 c2) fr un r0 r1 r2 r3 r4 r5 r6 r7 r8 r9 r10 r11 r12 r13 r14 r15)).toArray := by rw [e4]; have h := Blk.set_ HB3.out 2 (.string s); rw [HPA.out] at h; exact h
     have B6z : Blk W4 (w.heap.size + 1) 33 ZA := by rw [e4]; exact B6.far (p := ⟨w.heap.size, 2, none⟩) (by show w.heap.size + 1 ≠ w.heap.size; omega) _
     have hr4 : RtL W4 (.agg #[.slice A1 k1 c1, .slice A2 k2 c2]) L1 L2 := by rw [e4]; exact hrl.setB HB3.out HPU.out _
     have hb4 : Below w.heap.size w W4 := by rw [e4]; exact hbe.setCell (p := ⟨w.heap.size, 2, none⟩) (Nat.le_refl _) _
     clear e4 HW4 f1 f2 B6 hrl hra3 hbe; have hF : Blk (W4.setCells (w.heap.size + 1) 0 (cellsP (promD team t s site (.slice A1 k1 c1) (.slice A2 k2 c2) fr un r0 r1 r2 r3 r4 r5 r6 r7 r8 r9 r10 r11 r12 r13 r14 r15)).toArray.toList) (w.heap.size + 1) 33 (cellsP (promD team t s site (.slice A1 k1 c1) (.slice A2 k2 c2) fr un r0 r1 r2 r3 r4 r5 r6 r7 r8 r9 r10 r11 r12 r13 r14 r15)).toArray := Blk.setAll B6z (by rw [HZS.out]; rfl); have hrz := RtL.setsB (cellsP (promD team t s site (.slice A1 k1 c1) (.slice A2 k2 c2) fr un r0 r1 r2 r3 r4 r5 r6 r7 r8 r9 r10 r11 r12 r13 r14 r15)).toArray.toList 0 hr4 B6z HZU.out (by rw [List.toList_toArray]; exact promD_no); have hbz := below_setAll (g := w.heap.size + 1) (by omega) (cellsP (promD team t s site (.slice A1 k1 c1) (.slice A2 k2 c2) fr un r0 r1 r2 r3 r4 r5 r6 r7 r8 r9 r10 r11 r12 r13 r14 r15)).toArray.toList 0 hb4
     go_wp2_with (first | (refine wpList_load_mid rfl 33 (.tmp 3) rfl w.heap.size 0 rfl (cellsP (promD team t s site (.slice A1 k1 c1) (.slice A2 k2 c2) fr un r0 r1 r2 r3 r4 r5 r6 r7 r8 r9 r10 r11 r12 r13 r14 r15)) _ (Blk.range BG) Tryz.underlying33 rfl (infoP_len (p := (promD team t s site (.slice A1 k1 c1) (.slice A2 k2 c2) fr un r0 r1 r2 r3 r4 r5 r6 r7 r8 r9 r10 r11 r12 r13 r14 r15))) ?_; simp only [Act.put, sA, sB, sC]) | (refine wpList_store_mid rfl 33 (.tmp 6) (.tmp 70) rfl (w.heap.size + 1) 0 (cellsP (promD team t s site (.slice A1 k1 c1) (.slice A2 k2 c2) fr un r0 r1 r2 r3 r4 r5 r6 r7 r8 r9 r10 r11 r12 r13 r14 r15)).toArray rfl rfl (Blk.there B6z HZS.out) (infoP24 (p := (promD team t s site (.slice A1 k1 c1) (.slice A2 k2 c2) fr un r0 r1 r2 r3 r4 r5 r6 r7 r8 r9 r10 r11 r12 r13 r14 r15))) (all_oneCell_toArray promD_one) ?_))
     (try simp only [Exit.inBlock, Exit.then])
     exact bodyPost_ret (results_prom rfl rfl hF rfl) rfl ⟨(promD team t s site (.slice A1 k1 c1) (.slice A2 k2 c2) fr un r0 r1 r2 r3 r4 r5 r6 r7 r8 r9 r10 r11 r12 r13 r14 r15), rfl, ⟨_, _, ⟨_, _, _, _, _, _, _, _, _, _, _, _, _, _, _, _, _, _, _, _, _, _, _, _, _, _, _, _, rfl, hs1, hss, hrz, ⟨HI.out.1, HI.out.2.1, HI.out.2.2.1, HI.out.2.2.2⟩, HY.out⟩, by omega, by omega⟩, hbz⟩
   ·skip
    by_cases z3 : z = 3
    ·as_aux_lemma =>
      subst z3; have f1 := B3.frozen 3; have f2 := B3.cell 3; rw [HPA.out] at f2; simp only [cellsP, promD] at f2; simp only [List.getElem?_toArray, List.getElem?_cons_zero, List.getElem?_cons_succ] at f2; have HB3 := Lib.hid B3; clear B3; go_upto_region 21 with fail; refine wp_name ?_; intro W4 HW4; have e4 : W4 = w3.setCell ⟨w.heap.size, 3, none⟩ (.int .i64 n) := HW4.out; have BG : Blk W4 w.heap.size 33 (cellsP (promD team t h n (.slice A1 k1 c1) (.slice A2 k2 c2) fr un r0 r1 r2 r3 r4 r5 r6 r7 r8 r9 r10 r11 r12 r13 r14 r15)).toArray := by rw [e4]; have h := Blk.set_ HB3.out 3 (.int .i64 n); rw [HPA.out] at h; exact h
      have B6z : Blk W4 (w.heap.size + 1) 33 ZA := by rw [e4]; exact B6.far (p := ⟨w.heap.size, 3, none⟩) (by show w.heap.size + 1 ≠ w.heap.size; omega) _
      have hr4 : RtL W4 (.agg #[.slice A1 k1 c1, .slice A2 k2 c2]) L1 L2 := by rw [e4]; exact hrl.setB HB3.out HPU.out _
      have hb4 : Below w.heap.size w W4 := by rw [e4]; exact hbe.setCell (p := ⟨w.heap.size, 3, none⟩) (Nat.le_refl _) _
      clear e4 HW4 f1 f2 B6 hrl hra3 hbe; have hF : Blk (W4.setCells (w.heap.size + 1) 0 (cellsP (promD team t h n (.slice A1 k1 c1) (.slice A2 k2 c2) fr un r0 r1 r2 r3 r4 r5 r6 r7 r8 r9 r10 r11 r12 r13 r14 r15)).toArray.toList) (w.heap.size + 1) 33 (cellsP (promD team t h n (.slice A1 k1 c1) (.slice A2 k2 c2) fr un r0 r1 r2 r3 r4 r5 r6 r7 r8 r9 r10 r11 r12 r13 r14 r15)).toArray := Blk.setAll B6z (by rw [HZS.out]; rfl); have hrz := RtL.setsB (cellsP (promD team t h n (.slice A1 k1 c1) (.slice A2 k2 c2) fr un r0 r1 r2 r3 r4 r5 r6 r7 r8 r9 r10 r11 r12 r13 r14 r15)).toArray.toList 0 hr4 B6z HZU.out (by rw [List.toList_toArray]; exact promD_no); have hbz := below_setAll (g := w.heap.size + 1) (by omega) (cellsP (promD team t h n (.slice A1 k1 c1) (.slice A2 k2 c2) fr un r0 r1 r2 r3 r4 r5 r6 r7 r8 r9 r10 r11 r12 r13 r14 r15)).toArray.toList 0 hb4
      go_wp2_with (first | (refine wpList_load_mid rfl 33 (.tmp 3) rfl w.heap.size 0 rfl (cellsP (promD team t h n (.slice A1 k1 c1) (.slice A2 k2 c2) fr un r0 r1 r2 r3 r4 r5 r6 r7 r8 r9 r10 r11 r12 r13 r14 r15)) _ (Blk.range BG) Tryz.underlying33 rfl (infoP_len (p := (promD team t h n (.slice A1 k1 c1) (.slice A2 k2 c2) fr un r0 r1 r2 r3 r4 r5 r6 r7 r8 r9 r10 r11 r12 r13 r14 r15))) ?_; simp only [Act.put, sA, sB, sC]) | (refine wpList_store_mid rfl 33 (.tmp 6) (.tmp 70) rfl (w.heap.size + 1) 0 (cellsP (promD team t h n (.slice A1 k1 c1) (.slice A2 k2 c2) fr un r0 r1 r2 r3 r4 r5 r6 r7 r8 r9 r10 r11 r12 r13 r14 r15)).toArray rfl rfl (Blk.there B6z HZS.out) (infoP24 (p := (promD team t h n (.slice A1 k1 c1) (.slice A2 k2 c2) fr un r0 r1 r2 r3 r4 r5 r6 r7 r8 r9 r10 r11 r12 r13 r14 r15))) (all_oneCell_toArray promD_one) ?_))
      (try simp only [Exit.inBlock, Exit.then])
      exact bodyPost_ret (results_prom rfl rfl hF rfl) rfl ⟨(promD team t h n (.slice A1 k1 c1) (.slice A2 k2 c2) fr un r0 r1 r2 r3 r4 r5 r6 r7 r8 r9 r10 r11 r12 r13 r14 r15), rfl, ⟨_, _, ⟨_, _, _, _, _, _, _, _, _, _, _, _, _, _, _, _, _, _, _, _, _, _, _, _, _, _, _, _, rfl, hs1, hs2, hrz, ⟨HI.out.1, HNI.out, HI.out.2.2.1, HI.out.2.2.2⟩, HY.out⟩, by omega, by omega⟩, hbz⟩
    ·skip
     by_cases z4 : z = 4
     ·as_aux_lemma =>
       subst z4; have f1 := B3.frozen 6; have f2 := B3.cell 6; rw [HPA.out] at f2; simp only [cellsP, promD] at f2; simp only [List.getElem?_toArray, List.getElem?_cons_zero, List.getElem?_cons_succ] at f2; have HB3 := Lib.hid B3; clear B3; go_upto_region 21 with fail; refine wp_name ?_; intro W4 HW4; have e4 : W4 = w3.setCell ⟨w.heap.size, 6, none⟩ (.int .i64 n) := HW4.out; have BG : Blk W4 w.heap.size 33 (cellsP (promD team t h site (.slice A1 k1 c1) (.slice A2 k2 c2) n un r0 r1 r2 r3 r4 r5 r6 r7 r8 r9 r10 r11 r12 r13 r14 r15)).toArray := by rw [e4]; have h := Blk.set_ HB3.out 6 (.int .i64 n); rw [HPA.out] at h; exact h
       have B6z : Blk W4 (w.heap.size + 1) 33 ZA := by rw [e4]; exact B6.far (p := ⟨w.heap.size, 6, none⟩) (by show w.heap.size + 1 ≠ w.heap.size; omega) _
       have hr4 : RtL W4 (.agg #[.slice A1 k1 c1, .slice A2 k2 c2]) L1 L2 := by rw [e4]; exact hrl.setB HB3.out HPU.out _
       have hb4 : Below w.heap.size w W4 := by rw [e4]; exact hbe.setCell (p := ⟨w.heap.size, 6, none⟩) (Nat.le_refl _) _
       clear e4 HW4 f1 f2 B6 hrl hra3 hbe; have hF : Blk (W4.setCells (w.heap.size + 1) 0 (cellsP (promD team t h site (.slice A1 k1 c1) (.slice A2 k2 c2) n un r0 r1 r2 r3 r4 r5 r6 r7 r8 r9 r10 r11 r12 r13 r14 r15)).toArray.toList) (w.heap.size + 1) 33 (cellsP (promD team t h site (.slice A1 k1 c1) (.slice A2 k2 c2) n un r0 r1 r2 r3 r4 r5 r6 r7 r8 r9 r10 r11 r12 r13 r14 r15)).toArray := Blk.setAll B6z (by rw [HZS.out]; rfl); have hrz := RtL.setsB (cellsP (promD team t h site (.slice A1 k1 c1) (.slice A2 k2 c2) n un r0 r1 r2 r3 r4 r5 r6 r7 r8 r9 r10 r11 r12 r13 r14 r15)).toArray.toList 0 hr4 B6z HZU.out (by rw [List.toList_toArray]; exact promD_no); have hbz := below_setAll (g := w.heap.size + 1) (by omega) (cellsP (promD team t h site (.slice A1 k1 c1) (.slice A2 k2 c2) n un r0 r1 r2 r3 r4 r5 r6 r7 r8 r9 r10 r11 r12 r13 r14 r15)).toArray.toList 0 hb4
       go_wp2_with (first | (refine wpList_load_mid rfl 33 (.tmp 3) rfl w.heap.size 0 rfl (cellsP (promD team t h site (.slice A1 k1 c1) (.slice A2 k2 c2) n un r0 r1 r2 r3 r4 r5 r6 r7 r8 r9 r10 r11 r12 r13 r14 r15)) _ (Blk.range BG) Tryz.underlying33 rfl (infoP_len (p := (promD team t h site (.slice A1 k1 c1) (.slice A2 k2 c2) n un r0 r1 r2 r3 r4 r5 r6 r7 r8 r9 r10 r11 r12 r13 r14 r15))) ?_; simp only [Act.put, sA, sB, sC]) | (refine wpList_store_mid rfl 33 (.tmp 6) (.tmp 70) rfl (w.heap.size + 1) 0 (cellsP (promD team t h site (.slice A1 k1 c1) (.slice A2 k2 c2) n un r0 r1 r2 r3 r4 r5 r6 r7 r8 r9 r10 r11 r12 r13 r14 r15)).toArray rfl rfl (Blk.there B6z HZS.out) (infoP24 (p := (promD team t h site (.slice A1 k1 c1) (.slice A2 k2 c2) n un r0 r1 r2 r3 r4 r5 r6 r7 r8 r9 r10 r11 r12 r13 r14 r15))) (all_oneCell_toArray promD_one) ?_))
       (try simp only [Exit.inBlock, Exit.then])
       exact bodyPost_ret (results_prom rfl rfl hF rfl) rfl ⟨(promD team t h site (.slice A1 k1 c1) (.slice A2 k2 c2) n un r0 r1 r2 r3 r4 r5 r6 r7 r8 r9 r10 r11 r12 r13 r14 r15), rfl, ⟨_, _, ⟨_, _, _, _, _, _, _, _, _, _, _, _, _, _, _, _, _, _, _, _, _, _, _, _, _, _, _, _, rfl, hs1, hs2, hrz, ⟨HI.out.1, HI.out.2.1, HNI.out, HI.out.2.2.2⟩, HY.out⟩, by omega, by omega⟩, hbz⟩
     ·skip
      by_cases z5 : z = 5
      ·as_aux_lemma =>
        subst z5; have f1 := B3.frozen 7; have f2 := B3.cell 7; rw [HPA.out] at f2; simp only [cellsP, promD] at f2; simp only [List.getElem?_toArray, List.getElem?_cons_zero, List.getElem?_cons_succ] at f2; have HB3 := Lib.hid B3; clear B3; go_upto_region 21 with fail; refine wp_name ?_; intro W4 HW4; have e4 : W4 = w3.setCell ⟨w.heap.size, 7, none⟩ (.int .i64 n) := HW4.out; have BG : Blk W4 w.heap.size 33 (cellsP (promD team t h site (.slice A1 k1 c1) (.slice A2 k2 c2) fr n r0 r1 r2 r3 r4 r5 r6 r7 r8 r9 r10 r11 r12 r13 r14 r15)).toArray := by rw [e4]; have h := Blk.set_ HB3.out 7 (.int .i64 n); rw [HPA.out] at h; exact h
        have B6z : Blk W4 (w.heap.size + 1) 33 ZA := by rw [e4]; exact B6.far (p := ⟨w.heap.size, 7, none⟩) (by show w.heap.size + 1 ≠ w.heap.size; omega) _
        have hr4 : RtL W4 (.agg #[.slice A1 k1 c1, .slice A2 k2 c2]) L1 L2 := by rw [e4]; exact hrl.setB HB3.out HPU.out _
        have hb4 : Below w.heap.size w W4 := by rw [e4]; exact hbe.setCell (p := ⟨w.heap.size, 7, none⟩) (Nat.le_refl _) _
        clear e4 HW4 f1 f2 B6 hrl hra3 hbe; have hF : Blk (W4.setCells (w.heap.size + 1) 0 (cellsP (promD team t h site (.slice A1 k1 c1) (.slice A2 k2 c2) fr n r0 r1 r2 r3 r4 r5 r6 r7 r8 r9 r10 r11 r12 r13 r14 r15)).toArray.toList) (w.heap.size + 1) 33 (cellsP (promD team t h site (.slice A1 k1 c1) (.slice A2 k2 c2) fr n r0 r1 r2 r3 r4 r5 r6 r7 r8 r9 r10 r11 r12 r13 r14 r15)).toArray := Blk.setAll B6z (by rw [HZS.out]; rfl); have hrz := RtL.setsB (cellsP (promD team t h site (.slice A1 k1 c1) (.slice A2 k2 c2) fr n r0 r1 r2 r3 r4 r5 r6 r7 r8 r9 r10 r11 r12 r13 r14 r15)).toArray.toList 0 hr4 B6z HZU.out (by rw [List.toList_toArray]; exact promD_no); have hbz := below_setAll (g := w.heap.size + 1) (by omega) (cellsP (promD team t h site (.slice A1 k1 c1) (.slice A2 k2 c2) fr n r0 r1 r2 r3 r4 r5 r6 r7 r8 r9 r10 r11 r12 r13 r14 r15)).toArray.toList 0 hb4
        go_wp2_with (first | (refine wpList_load_mid rfl 33 (.tmp 3) rfl w.heap.size 0 rfl (cellsP (promD team t h site (.slice A1 k1 c1) (.slice A2 k2 c2) fr n r0 r1 r2 r3 r4 r5 r6 r7 r8 r9 r10 r11 r12 r13 r14 r15)) _ (Blk.range BG) Tryz.underlying33 rfl (infoP_len (p := (promD team t h site (.slice A1 k1 c1) (.slice A2 k2 c2) fr n r0 r1 r2 r3 r4 r5 r6 r7 r8 r9 r10 r11 r12 r13 r14 r15))) ?_; simp only [Act.put, sA, sB, sC]) | (refine wpList_store_mid rfl 33 (.tmp 6) (.tmp 70) rfl (w.heap.size + 1) 0 (cellsP (promD team t h site (.slice A1 k1 c1) (.slice A2 k2 c2) fr n r0 r1 r2 r3 r4 r5 r6 r7 r8 r9 r10 r11 r12 r13 r14 r15)).toArray rfl rfl (Blk.there B6z HZS.out) (infoP24 (p := (promD team t h site (.slice A1 k1 c1) (.slice A2 k2 c2) fr n r0 r1 r2 r3 r4 r5 r6 r7 r8 r9 r10 r11 r12 r13 r14 r15))) (all_oneCell_toArray promD_one) ?_))
        (try simp only [Exit.inBlock, Exit.then])
        exact bodyPost_ret (results_prom rfl rfl hF rfl) rfl ⟨(promD team t h site (.slice A1 k1 c1) (.slice A2 k2 c2) fr n r0 r1 r2 r3 r4 r5 r6 r7 r8 r9 r10 r11 r12 r13 r14 r15), rfl, ⟨_, _, ⟨_, _, _, _, _, _, _, _, _, _, _, _, _, _, _, _, _, _, _, _, _, _, _, _, _, _, _, _, rfl, hs1, hs2, hrz, ⟨HI.out.1, HI.out.2.1, HI.out.2.2.1, HNI.out⟩, HY.out⟩, by omega, by omega⟩, hbz⟩
      ·skip
       by_cases z6 : z = 6
       ·as_aux_lemma =>
         subst z6; obtain ⟨q, hq⟩ : ∃ q : Int, by_.tdiv 9 = q := ⟨_, rfl⟩; have hq1 : -9223372036854775808 ≤ q := by rw [← hq]; exact (tdiv9_bd by_ i3 i4).1
         have hq2 : q ≤ 9223372036854775807 := by rw [← hq]; exact (tdiv9_bd by_ i3 i4).2
         have hqw : IntKind.i64.wrap q = q := by rw [IntWalk.i64_in _ (by omega)]
         have f4 := B3.cell 4; have f5 := B3.cell 5; rw [HPA.out] at f4 f5; simp only [cellsP, promD] at f4 f5; simp only [List.getElem?_toArray, List.getElem?_cons_zero, List.getElem?_cons_succ] at f4 f5; go_wp2_with fail; refine (spoilt_g _ L1 L2 by_ q _ hra3 N hN1 hN2 hL1 hL2 i3 i4 hq1 hq2).mono ?_; rintro e w5 ⟨v, m1, m2, rfl, hrv, hm1, hm2, hb5⟩; obtain ⟨D1, m3, o1, D2, m4, o2, rfl⟩ := hrv.shape; have B35 := Blk.below B3 hb5 B3.lt; have B65 := Blk.below B6 hb5 B6.lt; have hbe5 := Below.tr hbe hb5; have f1 := B35.frozen 4; have f3 := B35.frozen 5; clear f4 f5; have f4 := B35.cell 4; have f5 := B35.cell 5; rw [HPA.out] at f4 f5; simp only [cellsP, promD] at f4 f5; simp only [List.getElem?_toArray, List.getElem?_cons_zero, List.getElem?_cons_succ] at f4 f5; have HB3 := Lib.hid B35; clear B35 B3 B6 hb5 hrl hra3 hq hqw; go_upto_region 21 with fail; refine wp_name ?_; intro W4 HW4; have e4 : W4 = (w5.setCell ⟨w.heap.size, 4, none⟩ (.slice D1 m3 o1)).setCell ⟨w.heap.size, 5, none⟩ (.slice D2 m4 o2) := HW4.out; have BG : Blk W4 w.heap.size 33 (cellsP (promD team t h site (.slice D1 m3 o1) (.slice D2 m4 o2) fr un r0 r1 r2 r3 r4 r5 r6 r7 r8 r9 r10 r11 r12 r13 r14 r15)).toArray := by rw [e4]; have h := Blk.set_ (Blk.set_ HB3.out 4 (.slice D1 m3 o1)) 5 (.slice D2 m4 o2); rw [HPA.out] at h; exact h
         have B6z : Blk W4 (w.heap.size + 1) 33 ZA := by rw [e4]; exact (B65.far (p := ⟨w.heap.size, 4, none⟩) (by show w.heap.size + 1 ≠ w.heap.size; omega) _).far (p := ⟨w.heap.size, 5, none⟩) (by show w.heap.size + 1 ≠ w.heap.size; omega) _
         have hr4 := (hrv.setB (i := 4) HB3.out HPU.out (.slice D1 m3 o1)).setB (i := 5) (Blk.set_ HB3.out 4 _) (NoU.set HPU.out (by intro n e; cases e)) (.slice D2 m4 o2); rw [← e4] at hr4; have hb4 : Below w.heap.size w W4 := by rw [e4]; exact (hbe5.setCell (p := ⟨w.heap.size, 4, none⟩) (Nat.le_refl _) _).setCell (p := ⟨w.heap.size, 5, none⟩) (Nat.le_refl _) _
         clear e4 HW4 f1 f3 f4 f5 hbe5 hrv; have hF : Blk (W4.setCells (w.heap.size + 1) 0 (cellsP (promD team t h site (.slice D1 m3 o1) (.slice D2 m4 o2) fr un r0 r1 r2 r3 r4 r5 r6 r7 r8 r9 r10 r11 r12 r13 r14 r15)).toArray.toList) (w.heap.size + 1) 33 (cellsP (promD team t h site (.slice D1 m3 o1) (.slice D2 m4 o2) fr un r0 r1 r2 r3 r4 r5 r6 r7 r8 r9 r10 r11 r12 r13 r14 r15)).toArray := Blk.setAll B6z (by rw [HZS.out]; rfl); have hrz := RtL.setsB (cellsP (promD team t h site (.slice D1 m3 o1) (.slice D2 m4 o2) fr un r0 r1 r2 r3 r4 r5 r6 r7 r8 r9 r10 r11 r12 r13 r14 r15)).toArray.toList 0 hr4 B6z HZU.out (by rw [List.toList_toArray]; exact promD_no); have hbz := below_setAll (g := w.heap.size + 1) (by omega) (cellsP (promD team t h site (.slice D1 m3 o1) (.slice D2 m4 o2) fr un r0 r1 r2 r3 r4 r5 r6 r7 r8 r9 r10 r11 r12 r13 r14 r15)).toArray.toList 0 hb4
         go_wp2_with (first | (refine wpList_load_mid rfl 33 (.tmp 3) rfl w.heap.size 0 rfl (cellsP (promD team t h site (.slice D1 m3 o1) (.slice D2 m4 o2) fr un r0 r1 r2 r3 r4 r5 r6 r7 r8 r9 r10 r11 r12 r13 r14 r15)) _ (Blk.range BG) Tryz.underlying33 rfl (infoP_len (p := (promD team t h site (.slice D1 m3 o1) (.slice D2 m4 o2) fr un r0 r1 r2 r3 r4 r5 r6 r7 r8 r9 r10 r11 r12 r13 r14 r15))) ?_; simp only [Act.put, sA, sB, sC]) | (refine wpList_store_mid rfl 33 (.tmp 6) (.tmp 70) rfl (w.heap.size + 1) 0 (cellsP (promD team t h site (.slice D1 m3 o1) (.slice D2 m4 o2) fr un r0 r1 r2 r3 r4 r5 r6 r7 r8 r9 r10 r11 r12 r13 r14 r15)).toArray rfl rfl (Blk.there B6z HZS.out) (infoP24 (p := (promD team t h site (.slice D1 m3 o1) (.slice D2 m4 o2) fr un r0 r1 r2 r3 r4 r5 r6 r7 r8 r9 r10 r11 r12 r13 r14 r15))) (all_oneCell_toArray promD_one) ?_))
         (try simp only [Exit.inBlock, Exit.then])
         exact bodyPost_ret (results_prom rfl rfl hF rfl) rfl ⟨(promD team t h site (.slice D1 m3 o1) (.slice D2 m4 o2) fr un r0 r1 r2 r3 r4 r5 r6 r7 r8 r9 r10 r11 r12 r13 r14 r15), rfl, ⟨_, _, ⟨_, _, _, _, _, _, _, _, _, _, _, _, _, _, _, _, _, _, _, _, _, _, _, _, _, _, _, _, rfl, hs1, hs2, hrz, ⟨HI.out.1, HI.out.2.1, HI.out.2.2.1, HI.out.2.2.2⟩, HY.out⟩, hm1, hm2⟩, hbz⟩
       ·skip
        by_cases z7 : z = 7
        ·as_aux_lemma =>
          subst z7; obtain ⟨q, hq⟩ : ∃ q : Int, by_.tdiv 3 = q := ⟨_, rfl⟩; have hq1 : -9223372036854775808 ≤ q := by rw [← hq]; exact (tdiv3_bd' by_ i3 i4).1
          have hq2 : q ≤ 9223372036854775807 := by rw [← hq]; exact (tdiv3_bd' by_ i3 i4).2
          have hqw : IntKind.i64.wrap q = q := by rw [IntWalk.i64_in _ (by omega)]
          have f4 := B3.cell 4; have f5 := B3.cell 5; rw [HPA.out] at f4 f5; simp only [cellsP, promD] at f4 f5; simp only [List.getElem?_toArray, List.getElem?_cons_zero, List.getElem?_cons_succ] at f4 f5; go_wp2_with fail; refine (rmade_n by_ q _ i3 i4 hq1 hq2).mono ?_; rintro e w5 ⟨v, p5, q5, rfl, hrv0, hg5, hb5⟩; have hrv := rtl_rat hrv0; have hm1 : (Nm.lb p5).length ≤ N + 1 := by have := hg5.fits.1; omega
          have hm2 : (Nm.lb (Nm.dn q5)).length ≤ N + 1 := by have := hg5.fits.2; omega
          obtain ⟨D1, m3, o1, D2, m4, o2, rfl⟩ := hrv.shape; have B35 := Blk.below B3 hb5 B3.lt; have B65 := Blk.below B6 hb5 B6.lt; have hbe5 := Below.tr hbe hb5; have f1 := B35.frozen 4; have f3 := B35.frozen 5; clear f4 f5; have f4 := B35.cell 4; have f5 := B35.cell 5; rw [HPA.out] at f4 f5; simp only [cellsP, promD] at f4 f5; simp only [List.getElem?_toArray, List.getElem?_cons_zero, List.getElem?_cons_succ] at f4 f5; have HB3 := Lib.hid B35; clear B35 B3 B6 hb5 hrl hra3 hq hqw; go_upto_region 21 with fail; refine wp_name ?_; intro W4 HW4; have e4 : W4 = (w5.setCell ⟨w.heap.size, 4, none⟩ (.slice D1 m3 o1)).setCell ⟨w.heap.size, 5, none⟩ (.slice D2 m4 o2) := HW4.out; have BG : Blk W4 w.heap.size 33 (cellsP (promD team t h site (.slice D1 m3 o1) (.slice D2 m4 o2) fr un r0 r1 r2 r3 r4 r5 r6 r7 r8 r9 r10 r11 r12 r13 r14 r15)).toArray := by rw [e4]; have h := Blk.set_ (Blk.set_ HB3.out 4 (.slice D1 m3 o1)) 5 (.slice D2 m4 o2); rw [HPA.out] at h; exact h
          have B6z : Blk W4 (w.heap.size + 1) 33 ZA := by rw [e4]; exact (B65.far (p := ⟨w.heap.size, 4, none⟩) (by show w.heap.size + 1 ≠ w.heap.size; omega) _).far (p := ⟨w.heap.size, 5, none⟩) (by show w.heap.size + 1 ≠ w.heap.size; omega) _
          have hr4 := (hrv.setB (i := 4) HB3.out HPU.out (.slice D1 m3 o1)).setB (i := 5) (Blk.set_ HB3.out 4 _) (NoU.set HPU.out (by intro n e; cases e)) (.slice D2 m4 o2); rw [← e4] at hr4; have hb4 : Below w.heap.size w W4 := by rw [e4]; exact (hbe5.setCell (p := ⟨w.heap.size, 4, none⟩) (Nat.le_refl _) _).setCell (p := ⟨w.heap.size, 5, none⟩) (Nat.le_refl _) _
          clear e4 HW4 f1 f3 f4 f5 hbe5 hrv; have hF : Blk (W4.setCells (w.heap.size + 1) 0 (cellsP (promD team t h site (.slice D1 m3 o1) (.slice D2 m4 o2) fr un r0 r1 r2 r3 r4 r5 r6 r7 r8 r9 r10 r11 r12 r13 r14 r15)).toArray.toList) (w.heap.size + 1) 33 (cellsP (promD team t h site (.slice D1 m3 o1) (.slice D2 m4 o2) fr un r0 r1 r2 r3 r4 r5 r6 r7 r8 r9 r10 r11 r12 r13 r14 r15)).toArray := Blk.setAll B6z (by rw [HZS.out]; rfl); have hrz := RtL.setsB (cellsP (promD team t h site (.slice D1 m3 o1) (.slice D2 m4 o2) fr un r0 r1 r2 r3 r4 r5 r6 r7 r8 r9 r10 r11 r12 r13 r14 r15)).toArray.toList 0 hr4 B6z HZU.out (by rw [List.toList_toArray]; exact promD_no); have hbz := below_setAll (g := w.heap.size + 1) (by omega) (cellsP (promD team t h site (.slice D1 m3 o1) (.slice D2 m4 o2) fr un r0 r1 r2 r3 r4 r5 r6 r7 r8 r9 r10 r11 r12 r13 r14 r15)).toArray.toList 0 hb4
          go_wp2_with (first | (refine wpList_load_mid rfl 33 (.tmp 3) rfl w.heap.size 0 rfl (cellsP (promD team t h site (.slice D1 m3 o1) (.slice D2 m4 o2) fr un r0 r1 r2 r3 r4 r5 r6 r7 r8 r9 r10 r11 r12 r13 r14 r15)) _ (Blk.range BG) Tryz.underlying33 rfl (infoP_len (p := (promD team t h site (.slice D1 m3 o1) (.slice D2 m4 o2) fr un r0 r1 r2 r3 r4 r5 r6 r7 r8 r9 r10 r11 r12 r13 r14 r15))) ?_; simp only [Act.put, sA, sB, sC]) | (refine wpList_store_mid rfl 33 (.tmp 6) (.tmp 70) rfl (w.heap.size + 1) 0 (cellsP (promD team t h site (.slice D1 m3 o1) (.slice D2 m4 o2) fr un r0 r1 r2 r3 r4 r5 r6 r7 r8 r9 r10 r11 r12 r13 r14 r15)).toArray rfl rfl (Blk.there B6z HZS.out) (infoP24 (p := (promD team t h site (.slice D1 m3 o1) (.slice D2 m4 o2) fr un r0 r1 r2 r3 r4 r5 r6 r7 r8 r9 r10 r11 r12 r13 r14 r15))) (all_oneCell_toArray promD_one) ?_))
          (try simp only [Exit.inBlock, Exit.then])
          exact bodyPost_ret (results_prom rfl rfl hF rfl) rfl ⟨(promD team t h site (.slice D1 m3 o1) (.slice D2 m4 o2) fr un r0 r1 r2 r3 r4 r5 r6 r7 r8 r9 r10 r11 r12 r13 r14 r15), rfl, ⟨_, _, ⟨_, _, _, _, _, _, _, _, _, _, _, _, _, _, _, _, _, _, _, _, _, _, _, _, _, _, _, _, rfl, hs1, hs2, hrz, ⟨HI.out.1, HI.out.2.1, HI.out.2.2.1, HI.out.2.2.2⟩, HY.out⟩, hm1, hm2⟩, hbz⟩
        ·skip
         obtain rfl : z = 8 := by omega
         clear z0 z1 z2 z3 z4 z5 z6 z7; go_wp2_with fail; refine (around_n by_ 16 _ i3 i4 (by omega) (by omega)).mono ?_; rintro e w' ⟨kk, rfl, hkk, _, rfl⟩; have lk : (kk : Int) < 16 := by omega
         obtain ⟨x, hx⟩ : ∃ x : Int, w3.cell? ⟨w.heap.size, 8 + kk, none⟩ = some (.int .u8 x) := by
          rw [B3.cell, HPA.out]; have hc : kk = 0 ∨ kk = 1 ∨ kk = 2 ∨ kk = 3 ∨ kk = 4 ∨ kk = 5 ∨ kk = 6 ∨ kk = 7 ∨ kk = 8 ∨ kk = 9 ∨ kk = 10 ∨ kk = 11 ∨ kk = 12 ∨ kk = 13 ∨ kk = 14 ∨ kk = 15 := by omega
          rcases hc with rfl | rfl | rfl | rfl | rfl | rfl | rfl | rfl | rfl | rfl | rfl | rfl | rfl | rfl | rfl | rfl <;> exact ⟨_, rfl⟩
         obtain ⟨y, hy⟩ : ∃ y : Int, IntKind.u8.wrap (x + 1) = y := ⟨_, rfl⟩; have HBY : Hid (BY y) := by show _ ∧ _; rw [← hy]; exact wrap8_in _
         have f1 := B3.frozen (8 + kk); have HB3 := Lib.hid B3; clear B3; go_upto_region 21 with fail; refine wp_name ?_; intro W4 HW4; have e4 : W4 = w3.setCell ⟨w.heap.size, 8 + kk, none⟩ (.int .u8 y) := HW4.out
         obtain ⟨s0, s1, s2, s3, s4, s5, s6, s7, s8, s9, s10, s11, s12, s13, s14, s15, HBG, HYS⟩ : ∃ s0 s1 s2 s3 s4 s5 s6 s7 s8 s9 s10 s11 s12 s13 s14 s15 : Int, Blk W4 w.heap.size 33 (cellsP (promD team t h site (.slice A1 k1 c1) (.slice A2 k2 c2) fr un s0 s1 s2 s3 s4 s5 s6 s7 s8 s9 s10 s11 s12 s13 s14 s15)).toArray ∧ Hid (BY s0 ∧ BY s1 ∧ BY s2 ∧ BY s3 ∧ BY s4 ∧ BY s5 ∧ BY s6 ∧ BY s7 ∧ BY s8 ∧ BY s9 ∧ BY s10 ∧ BY s11 ∧ BY s12 ∧ BY s13 ∧ BY s14 ∧ BY s15) := by
          rw [e4]; have h := Blk.set_ HB3.out (8 + kk) (.int .u8 y); rw [HPA.out] at h; have hc : kk = 0 ∨ kk = 1 ∨ kk = 2 ∨ kk = 3 ∨ kk = 4 ∨ kk = 5 ∨ kk = 6 ∨ kk = 7 ∨ kk = 8 ∨ kk = 9 ∨ kk = 10 ∨ kk = 11 ∨ kk = 12 ∨ kk = 13 ∨ kk = 14 ∨ kk = 15 := by omega
          rcases hc with rfl | rfl | rfl | rfl | rfl | rfl | rfl | rfl | rfl | rfl | rfl | rfl | rfl | rfl | rfl | rfl
          ·exact ⟨y, r1, r2, r3, r4, r5, r6, r7, r8, r9, r10, r11, r12, r13, r14, r15, h, ⟨HBY.out, HY.out.2.1, HY.out.2.2.1, HY.out.2.2.2.1, HY.out.2.2.2.2.1, HY.out.2.2.2.2.2.1, HY.out.2.2.2.2.2.2.1, HY.out.2.2.2.2.2.2.2.1, HY.out.2.2.2.2.2.2.2.2.1, HY.out.2.2.2.2.2.2.2.2.2.1, HY.out.2.2.2.2.2.2.2.2.2.2.1, HY.out.2.2.2.2.2.2.2.2.2.2.2.1, HY.out.2.2.2.2.2.2.2.2.2.2.2.2.1, HY.out.2.2.2.2.2.2.2.2.2.2.2.2.2.1, HY.out.2.2.2.2.2.2.2.2.2.2.2.2.2.2.1, HY.out.2.2.2.2.2.2.2.2.2.2.2.2.2.2.2⟩⟩
          ·exact ⟨r0, y, r2, r3, r4, r5, r6, r7, r8, r9, r10, r11, r12, r13, r14, r15, h, ⟨HY.out.1, HBY.out, HY.out.2.2.1, HY.out.2.2.2.1, HY.out.2.2.2.2.1, HY.out.2.2.2.2.2.1, HY.out.2.2.2.2.2.2.1, HY.out.2.2.2.2.2.2.2.1, HY.out.2.2.2.2.2.2.2.2.1, HY.out.2.2.2.2.2.2.2.2.2.1, HY.out.2.2.2.2.2.2.2.2.2.2.1, HY.out.2.2.2.2.2.2.2.2.2.2.2.1, HY.out.2.2.2.2.2.2.2.2.2.2.2.2.1, HY.out.2.2.2.2.2.2.2.2.2.2.2.2.2.1, HY.out.2.2.2.2.2.2.2.2.2.2.2.2.2.2.1, HY.out.2.2.2.2.2.2.2.2.2.2.2.2.2.2.2⟩⟩
          ·exact ⟨r0, r1, y, r3, r4, r5, r6, r7, r8, r9, r10, r11, r12, r13, r14, r15, h, ⟨HY.out.1, HY.out.2.1, HBY.out, HY.out.2.2.2.1, HY.out.2.2.2.2.1, HY.out.2.2.2.2.2.1, HY.out.2.2.2.2.2.2.1, HY.out.2.2.2.2.2.2.2.1, HY.out.2.2.2.2.2.2.2.2.1, HY.out.2.2.2.2.2.2.2.2.2.1, HY.out.2.2.2.2.2.2.2.2.2.2.1, HY.out.2.2.2.2.2.2.2.2.2.2.2.1, HY.out.2.2.2.2.2.2.2.2.2.2.2.2.1, HY.out.2.2.2.2.2.2.2.2.2.2.2.2.2.1, HY.out.2.2.2.2.2.2.2.2.2.2.2.2.2.2.1, HY.out.2.2.2.2.2.2.2.2.2.2.2.2.2.2.2⟩⟩
          ·exact ⟨r0, r1, r2, y, r4, r5, r6, r7, r8, r9, r10, r11, r12, r13, r14, r15, h, ⟨HY.out.1, HY.out.2.1, HY.out.2.2.1, HBY.out, HY.out.2.2.2.2.1, HY.out.2.2.2.2.2.1, HY.out.2.2.2.2.2.2.1, HY.out.2.2.2.2.2.2.2.1, HY.out.2.2.2.2.2.2.2.2.1, HY.out.2.2.2.2.2.2.2.2.2.1, HY.out.2.2.2.2.2.2.2.2.2.2.1, HY.out.2.2.2.2.2.2.2.2.2.2.2.1, HY.out.2.2.2.2.2.2.2.2.2.2.2.2.1, HY.out.2.2.2.2.2.2.2.2.2.2.2.2.2.1, HY.out.2.2.2.2.2.2.2.2.2.2.2.2.2.2.1, HY.out.2.2.2.2.2.2.2.2.2.2.2.2.2.2.2⟩⟩
          ·exact ⟨r0, r1, r2, r3, y, r5, r6, r7, r8, r9, r10, r11, r12, r13, r14, r15, h, ⟨HY.out.1, HY.out.2.1, HY.out.2.2.1, HY.out.2.2.2.1, HBY.out, HY.out.2.2.2.2.2.1, HY.out.2.2.2.2.2.2.1, HY.out.2.2.2.2.2.2.2.1, HY.out.2.2.2.2.2.2.2.2.1, HY.out.2.2.2.2.2.2.2.2.2.1, HY.out.2.2.2.2.2.2.2.2.2.2.1, HY.out.2.2.2.2.2.2.2.2.2.2.2.1, HY.out.2.2.2.2.2.2.2.2.2.2.2.2.1, HY.out.2.2.2.2.2.2.2.2.2.2.2.2.2.1, HY.out.2.2.2.2.2.2.2.2.2.2.2.2.2.2.1, HY.out.2.2.2.2.2.2.2.2.2.2.2.2.2.2.2⟩⟩
          ·exact ⟨r0, r1, r2, r3, r4, y, r6, r7, r8, r9, r10, r11, r12, r13, r14, r15, h, ⟨HY.out.1, HY.out.2.1, HY.out.2.2.1, HY.out.2.2.2.1, HY.out.2.2.2.2.1, HBY.out, HY.out.2.2.2.2.2.2.1, HY.out.2.2.2.2.2.2.2.1, HY.out.2.2.2.2.2.2.2.2.1, HY.out.2.2.2.2.2.2.2.2.2.1, HY.out.2.2.2.2.2.2.2.2.2.2.1, HY.out.2.2.2.2.2.2.2.2.2.2.2.1, HY.out.2.2.2.2.2.2.2.2.2.2.2.2.1, HY.out.2.2.2.2.2.2.2.2.2.2.2.2.2.1, HY.out.2.2.2.2.2.2.2.2.2.2.2.2.2.2.1, HY.out.2.2.2.2.2.2.2.2.2.2.2.2.2.2.2⟩⟩
          ·exact ⟨r0, r1, r2, r3, r4, r5, y, r7, r8, r9, r10, r11, r12, r13, r14, r15, h, ⟨HY.out.1, HY.out.2.1, HY.out.2.2.1, HY.out.2.2.2.1, HY.out.2.2.2.2.1, HY.out.2.2.2.2.2.1, HBY.out, HY.out.2.2.2.2.2.2.2.1, HY.out.2.2.2.2.2.2.2.2.1, HY.out.2.2.2.2.2.2.2.2.2.1, HY.out.2.2.2.2.2.2.2.2.2.2.1, HY.out.2.2.2.2.2.2.2.2.2.2.2.1, HY.out.2.2.2.2.2.2.2.2.2.2.2.2.1, HY.out.2.2.2.2.2.2.2.2.2.2.2.2.2.1, HY.out.2.2.2.2.2.2.2.2.2.2.2.2.2.2.1, HY.out.2.2.2.2.2.2.2.2.2.2.2.2.2.2.2⟩⟩
          ·exact ⟨r0, r1, r2, r3, r4, r5, r6, y, r8, r9, r10, r11, r12, r13, r14, r15, h, ⟨HY.out.1, HY.out.2.1, HY.out.2.2.1, HY.out.2.2.2.1, HY.out.2.2.2.2.1, HY.out.2.2.2.2.2.1, HY.out.2.2.2.2.2.2.1, HBY.out, HY.out.2.2.2.2.2.2.2.2.1, HY.out.2.2.2.2.2.2.2.2.2.1, HY.out.2.2.2.2.2.2.2.2.2.2.1, HY.out.2.2.2.2.2.2.2.2.2.2.2.1, HY.out.2.2.2.2.2.2.2.2.2.2.2.2.1, HY.out.2.2.2.2.2.2.2.2.2.2.2.2.2.1, HY.out.2.2.2.2.2.2.2.2.2.2.2.2.2.2.1, HY.out.2.2.2.2.2.2.2.2.2.2.2.2.2.2.2⟩⟩
          ·exact ⟨r0, r1, r2, r3, r4, r5, r6, r7, y, r9, r10, r11, r12, r13, r14, r15, h, ⟨HY.out.1, HY.out.2.1, HY.out.2.2.1, HY.out.2.2.2.1, HY.out.2.2.2.2.1, HY.out.2.2.2.2.2.1, HY.out.2.2.2.2.2.2.1, HY.out.2.2.2.2.2.2.2.1, HBY.out, HY.out.2.2.2.2.2.2.2.2.2.1, HY.out.2.2.2.2.2.2.2.2.2.2.1, HY.out.2.2.2.2.2.2.2.2.2.2.2.1, HY.out.2.2.2.2.2.2.2.2.2.2.2.2.1, HY.out.2.2.2.2.2.2.2.2.2.2.2.2.2.1, HY.out.2.2.2.2.2.2.2.2.2.2.2.2.2.2.1, HY.out.2.2.2.2.2.2.2.2.2.2.2.2.2.2.2⟩⟩
          ·exact ⟨r0, r1, r2, r3, r4, r5, r6, r7, r8, y, r10, r11, r12, r13, r14, r15, h, ⟨HY.out.1, HY.out.2.1, HY.out.2.2.1, HY.out.2.2.2.1, HY.out.2.2.2.2.1, HY.out.2.2.2.2.2.1, HY.out.2.2.2.2.2.2.1, HY.out.2.2.2.2.2.2.2.1, HY.out.2.2.2.2.2.2.2.2.1, HBY.out, HY.out.2.2.2.2.2.2.2.2.2.2.1, HY.out.2.2.2.2.2.2.2.2.2.2.2.1, HY.out.2.2.2.2.2.2.2.2.2.2.2.2.1, HY.out.2.2.2.2.2.2.2.2.2.2.2.2.2.1, HY.out.2.2.2.2.2.2.2.2.2.2.2.2.2.2.1, HY.out.2.2.2.2.2.2.2.2.2.2.2.2.2.2.2⟩⟩
          ·exact ⟨r0, r1, r2, r3, r4, r5, r6, r7, r8, r9, y, r11, r12, r13, r14, r15, h, ⟨HY.out.1, HY.out.2.1, HY.out.2.2.1, HY.out.2.2.2.1, HY.out.2.2.2.2.1, HY.out.2.2.2.2.2.1, HY.out.2.2.2.2.2.2.1, HY.out.2.2.2.2.2.2.2.1, HY.out.2.2.2.2.2.2.2.2.1, HY.out.2.2.2.2.2.2.2.2.2.1, HBY.out, HY.out.2.2.2.2.2.2.2.2.2.2.2.1, HY.out.2.2.2.2.2.2.2.2.2.2.2.2.1, HY.out.2.2.2.2.2.2.2.2.2.2.2.2.2.1, HY.out.2.2.2.2.2.2.2.2.2.2.2.2.2.2.1, HY.out.2.2.2.2.2.2.2.2.2.2.2.2.2.2.2⟩⟩
          ·exact ⟨r0, r1, r2, r3, r4, r5, r6, r7, r8, r9, r10, y, r12, r13, r14, r15, h, ⟨HY.out.1, HY.out.2.1, HY.out.2.2.1, HY.out.2.2.2.1, HY.out.2.2.2.2.1, HY.out.2.2.2.2.2.1, HY.out.2.2.2.2.2.2.1, HY.out.2.2.2.2.2.2.2.1, HY.out.2.2.2.2.2.2.2.2.1, HY.out.2.2.2.2.2.2.2.2.2.1, HY.out.2.2.2.2.2.2.2.2.2.2.1, HBY.out, HY.out.2.2.2.2.2.2.2.2.2.2.2.2.1, HY.out.2.2.2.2.2.2.2.2.2.2.2.2.2.1, HY.out.2.2.2.2.2.2.2.2.2.2.2.2.2.2.1, HY.out.2.2.2.2.2.2.2.2.2.2.2.2.2.2.2⟩⟩
          ·exact ⟨r0, r1, r2, r3, r4, r5, r6, r7, r8, r9, r10, r11, y, r13, r14, r15, h, ⟨HY.out.1, HY.out.2.1, HY.out.2.2.1, HY.out.2.2.2.1, HY.out.2.2.2.2.1, HY.out.2.2.2.2.2.1, HY.out.2.2.2.2.2.2.1, HY.out.2.2.2.2.2.2.2.1, HY.out.2.2.2.2.2.2.2.2.1, HY.out.2.2.2.2.2.2.2.2.2.1, HY.out.2.2.2.2.2.2.2.2.2.2.1, HY.out.2.2.2.2.2.2.2.2.2.2.2.1, HBY.out, HY.out.2.2.2.2.2.2.2.2.2.2.2.2.2.1, HY.out.2.2.2.2.2.2.2.2.2.2.2.2.2.2.1, HY.out.2.2.2.2.2.2.2.2.2.2.2.2.2.2.2⟩⟩
          ·exact ⟨r0, r1, r2, r3, r4, r5, r6, r7, r8, r9, r10, r11, r12, y, r14, r15, h, ⟨HY.out.1, HY.out.2.1, HY.out.2.2.1, HY.out.2.2.2.1, HY.out.2.2.2.2.1, HY.out.2.2.2.2.2.1, HY.out.2.2.2.2.2.2.1, HY.out.2.2.2.2.2.2.2.1, HY.out.2.2.2.2.2.2.2.2.1, HY.out.2.2.2.2.2.2.2.2.2.1, HY.out.2.2.2.2.2.2.2.2.2.2.1, HY.out.2.2.2.2.2.2.2.2.2.2.2.1, HY.out.2.2.2.2.2.2.2.2.2.2.2.2.1, HBY.out, HY.out.2.2.2.2.2.2.2.2.2.2.2.2.2.2.1, HY.out.2.2.2.2.2.2.2.2.2.2.2.2.2.2.2⟩⟩
          ·exact ⟨r0, r1, r2, r3, r4, r5, r6, r7, r8, r9, r10, r11, r12, r13, y, r15, h, ⟨HY.out.1, HY.out.2.1, HY.out.2.2.1, HY.out.2.2.2.1, HY.out.2.2.2.2.1, HY.out.2.2.2.2.2.1, HY.out.2.2.2.2.2.2.1, HY.out.2.2.2.2.2.2.2.1, HY.out.2.2.2.2.2.2.2.2.1, HY.out.2.2.2.2.2.2.2.2.2.1, HY.out.2.2.2.2.2.2.2.2.2.2.1, HY.out.2.2.2.2.2.2.2.2.2.2.2.1, HY.out.2.2.2.2.2.2.2.2.2.2.2.2.1, HY.out.2.2.2.2.2.2.2.2.2.2.2.2.2.1, HBY.out, HY.out.2.2.2.2.2.2.2.2.2.2.2.2.2.2.2⟩⟩
          ·exact ⟨r0, r1, r2, r3, r4, r5, r6, r7, r8, r9, r10, r11, r12, r13, r14, y, h, ⟨HY.out.1, HY.out.2.1, HY.out.2.2.1, HY.out.2.2.2.1, HY.out.2.2.2.2.1, HY.out.2.2.2.2.2.1, HY.out.2.2.2.2.2.2.1, HY.out.2.2.2.2.2.2.2.1, HY.out.2.2.2.2.2.2.2.2.1, HY.out.2.2.2.2.2.2.2.2.2.1, HY.out.2.2.2.2.2.2.2.2.2.2.1, HY.out.2.2.2.2.2.2.2.2.2.2.2.1, HY.out.2.2.2.2.2.2.2.2.2.2.2.2.1, HY.out.2.2.2.2.2.2.2.2.2.2.2.2.2.1, HY.out.2.2.2.2.2.2.2.2.2.2.2.2.2.2.1, HBY.out⟩⟩
         have B6z : Blk W4 (w.heap.size + 1) 33 ZA := by rw [e4]; exact B6.far (p := ⟨w.heap.size, 8 + kk, none⟩) (by show w.heap.size + 1 ≠ w.heap.size; omega) _
         have hr4 : RtL W4 (.agg #[.slice A1 k1 c1, .slice A2 k2 c2]) L1 L2 := by rw [e4]; exact hrl.setB HB3.out HPU.out _
         have hb4 : Below w.heap.size w W4 := by rw [e4]; exact hbe.setCell (p := ⟨w.heap.size, 8 + kk, none⟩) (Nat.le_refl _) _
         clear e4 HW4 f1 hx hy B6 hrl hra3 hbe; have hF : Blk (W4.setCells (w.heap.size + 1) 0 (cellsP (promD team t h site (.slice A1 k1 c1) (.slice A2 k2 c2) fr un s0 s1 s2 s3 s4 s5 s6 s7 s8 s9 s10 s11 s12 s13 s14 s15)).toArray.toList) (w.heap.size + 1) 33 (cellsP (promD team t h site (.slice A1 k1 c1) (.slice A2 k2 c2) fr un s0 s1 s2 s3 s4 s5 s6 s7 s8 s9 s10 s11 s12 s13 s14 s15)).toArray := Blk.setAll B6z (by rw [HZS.out]; rfl); have hrz := RtL.setsB (cellsP (promD team t h site (.slice A1 k1 c1) (.slice A2 k2 c2) fr un s0 s1 s2 s3 s4 s5 s6 s7 s8 s9 s10 s11 s12 s13 s14 s15)).toArray.toList 0 hr4 B6z HZU.out (by rw [List.toList_toArray]; exact promD_no); have hbz := below_setAll (g := w.heap.size + 1) (by omega) (cellsP (promD team t h site (.slice A1 k1 c1) (.slice A2 k2 c2) fr un s0 s1 s2 s3 s4 s5 s6 s7 s8 s9 s10 s11 s12 s13 s14 s15)).toArray.toList 0 hb4
         go_wp2_with (first | (refine wpList_load_mid rfl 33 (.tmp 3) rfl w.heap.size 0 rfl (cellsP (promD team t h site (.slice A1 k1 c1) (.slice A2 k2 c2) fr un s0 s1 s2 s3 s4 s5 s6 s7 s8 s9 s10 s11 s12 s13 s14 s15)) _ (Blk.range HBG) Tryz.underlying33 rfl (infoP_len (p := (promD team t h site (.slice A1 k1 c1) (.slice A2 k2 c2) fr un s0 s1 s2 s3 s4 s5 s6 s7 s8 s9 s10 s11 s12 s13 s14 s15))) ?_; simp only [Act.put, sA, sB, sC]) | (refine wpList_store_mid rfl 33 (.tmp 6) (.tmp 70) rfl (w.heap.size + 1) 0 (cellsP (promD team t h site (.slice A1 k1 c1) (.slice A2 k2 c2) fr un s0 s1 s2 s3 s4 s5 s6 s7 s8 s9 s10 s11 s12 s13 s14 s15)).toArray rfl rfl (Blk.there B6z HZS.out) (infoP24 (p := (promD team t h site (.slice A1 k1 c1) (.slice A2 k2 c2) fr un s0 s1 s2 s3 s4 s5 s6 s7 s8 s9 s10 s11 s12 s13 s14 s15))) (all_oneCell_toArray promD_one) ?_))
         (try simp only [Exit.inBlock, Exit.then])
         exact bodyPost_ret (results_prom rfl rfl hF rfl) rfl ⟨(promD team t h site (.slice A1 k1 c1) (.slice A2 k2 c2) fr un s0 s1 s2 s3 s4 s5 s6 s7 s8 s9 s10 s11 s12 s13 s14 s15), rfl, ⟨_, _, ⟨_, _, _, _, _, _, _, _, _, _, _, _, _, _, _, _, _, _, _, _, _, _, _, _, _, _, _, _, rfl, hs1, hs2, hrz, ⟨HI.out.1, HI.out.2.1, HI.out.2.2.1, HI.out.2.2.2⟩, HYS.out⟩, by omega, by omega⟩, hbz⟩
end Go.Proofs.YtijkfagkbfbpmaaGreatDoor
namespace Go.Proofs.YtijkfagkbfbpmaaGreatDoor
open Go Go.RowKit
section
variable {P : Program}
theorem run_append_fresh (w : World) (Pr : Value → Prop) (base : Nat) (t ty e : TypeId) (i : TypeInfo) (z : Value) (size bytes : Nat) (ht : P.underlying t = some (.slice e)) (hi : P.info? e = some i) (hz : i.zero = some z)
  (hsize : i.size = size) (hby : i.bytes = bytes) (hzs : z.cells.size = size) (hsz : 0 < size)
  (g0 : Nat) (hown : w.ownsRow base e size (.slice (some ⟨g0, 0, none⟩) 0 0) 0 [])
  (A : Option Addr) (m c : Nat) (news : List Value) (hm : news.length = m * size) (hr : Rd w A news) (h1 : ∀ u ∈ news, u.oneCell' = true)
  (h63 : m ≤ maxLen) (hbytes : m * bytes ≤ 140737488355328) (hbase : base ≤ w.heap.size)
  (hPz : ∀ x ∈ z.cells.toList, Pr x) (hPn : ∀ x ∈ news, Pr x) (hPo : OwnAll Pr w (.slice (some ⟨g0, 0, none⟩) 0 0)) :
  ∃ v' w', (Builtin.append_ #[t, t] ty #[.slice (some ⟨g0, 0, none⟩) 0 0, .slice A m c]).run P w = .ok v' w' ∧ w'.ownsRow base e size v' m news ∧ Below w.heap.size w w' ∧ OwnAll Pr w' v' := by
 obtain ⟨v', w', hrun, h2, _, _, h5⟩ := run_append_all (P := P) w Pr base t ty e i z size bytes ht hi hz hsize hby hzs hsz _ 0 [] hown A m c news hm hr h1 (by omega) (by rw [Nat.zero_add]; exact hbytes) hbase hPz hPn hPo; refine ⟨v', w', hrun, by simpa using h2, ?_, h5⟩; subst hsize; have hsmall : m ≤ 9223372036854775807 := by simp only [maxLen] at h63; omega
 by_cases h0 : news = []
 ·subst h0
  have hm0 : m = 0 := by
   rcases Nat.eq_zero_or_pos m with h0 | h0
   ·exact h0
   ·have := Nat.mul_pos h0 hsz; simp at hm; omega
  subst hm0
  have e : (Builtin.append_ #[t, t] ty #[.slice (some ⟨g0, 0, none⟩) 0 0, .slice A 0 c]).run P w = .ok (.slice (some ⟨g0, 0, none⟩) 0 0) w := by
   rcases A with _ | ad
   ·exact run_append_of_nil w base t ty e i i.size ht hi _ 0 [] hown c
   ·simp [Builtin.append_, run_underlying ht, sizeOf, typeInfo, hi, Builtin.lenOf, Builtin.firstCells, storeCells, loadCells, loadCellsFrom]
  rw [e] at hrun; injection hrun with e1 e2; subst e1 e2; exact Below.refl _ _
 ·obtain ⟨b, off, rfl, hc⟩ := hr h0
  have hmp : 0 < m := by
   rcases Nat.eq_zero_or_pos m with h | h
   ·subst h; exact absurd (List.eq_nil_of_length_eq_zero (by simpa using hm)) h0
   ·exact h
  have hcells : ∀ j u, news[j]? = some u → w.cell? ((⟨b, off, none⟩ : Addr).add j) = some u := by
   intro j u hu; have hj : j < news.length := (List.getElem?_eq_some_iff.1 hu).1; rw [List.getElem?_eq_getElem hj] at hu; have := hc j hj; have e : (⟨b, off, none⟩ : Addr).add j = ⟨b, off + j, none⟩ := by unfold Addr.add; split <;> simp_all
   rw [e, this]; exact hu
  have holds : ∀ j u, ([] : List Value)[j]? = some u → w.cell? ((⟨g0, 0, none⟩ : Addr).add j) = some u := fun j u h => by simp at h
  have hr := run_append_grow (P := P) w t ty e i z ht hi hz ⟨g0, 0, none⟩ 0 0 [] hown.1 holds ⟨b, off, none⟩ m c news hm hcells (by omega) (by omega) (growslice_fits (by omega) (by rw [hby, Nat.zero_add]; exact hbytes)); rw [hr] at hrun; injection hrun with e1 e2; subst e1 e2; exact Below.tr (bD _) (bA _ _)
theorem wp_append_fresh {o : Oper} {a : Act} {w : World} {K : Act → World → Prop} {Q : Exit → Act → World → Prop} (Pr : Value → Prop) (s x : Operand) (t : TypeId)
  (ho : o.op = .call { callee := .builtin .append, args := #[s, x], argTypes := #[t, t] })
  (base : Nat) (e : TypeId) (i : TypeInfo) (z : Value) (size bytes : Nat) (ht : P.underlying t = some (.slice e)) (hi : P.info? e = some i) (hz : i.zero = some z)
  (hsize : i.size = size) (hby : i.bytes = bytes) (hzs : z.cells.size = size) (hsz : 0 < size)
  (g0 : Nat) (hs : a.eval s = .slice (some ⟨g0, 0, none⟩) 0 0) (hown : w.ownsRow base e size (.slice (some ⟨g0, 0, none⟩) 0 0) 0 [])
  (A : Option Addr) (m c : Nat) (news : List Value) (hx : a.eval x = .slice A m c) (hm : news.length = m * size) (hr : Rd w A news) (h1 : ∀ u ∈ news, u.oneCell' = true)
  (h63 : m ≤ maxLen) (hbytes : m * bytes ≤ 140737488355328) (hbase : base ≤ w.heap.size)
  (hPz : ∀ x ∈ z.cells.toList, Pr x) (hPn : ∀ x ∈ news, Pr x) (hPo : OwnAll Pr w (.slice (some ⟨g0, 0, none⟩) 0 0))
  (h : ∀ v' w', w'.ownsRow base e size v' m news → Below w.heap.size w w' → OwnAll Pr w' v' → K (a.put o.dst v') w') : o.wp P a w K Q := by
 obtain ⟨v', w', hrun, h2, h3, h4⟩ := run_append_fresh (P := P) w Pr base t o.type e i z size bytes ht hi hz hsize hby hzs hsz g0 hown A m c news hm hr h1 h63 hbytes hbase hPz hPn hPo; unfold Oper.wp execOp; simp only [ho, resolve, invoke, builtin, Sem.run_bind, Sem.run_pure, Result.andThen_ok, List.map_toArray, List.map_cons, List.map_nil, hs, hx, hrun]; exact h v' w' h2 h3 h4
theorem wp_append_allK {o : Oper} {a : Act} {w : World} {K : Act → World → Prop} {Q : Exit → Act → World → Prop} (Pr : Value → Prop) (s x : Operand) (t : TypeId)
  (ho : o.op = .call { callee := .builtin .append, args := #[s, x], argTypes := #[t, t] })
  (base : Nat) (e : TypeId) (i : TypeInfo) (z : Value) (size bytes : Nat) (ht : P.underlying t = some (.slice e)) (hi : P.info? e = some i) (hz : i.zero = some z)
  (hsize : i.size = size) (hby : i.bytes = bytes) (hzs : z.cells.size = size) (hsz : 0 < size)
  (v : Value) (n : Nat) (xs : List Value) (hs : a.eval s = v) (hown : w.ownsRow base e size v n xs)
  (A : Option Addr) (m c : Nat) (news : List Value) (hx : a.eval x = .slice A m c) (hm : news.length = m * size) (hr : Rd w A news) (h1 : ∀ u ∈ news, u.oneCell' = true)
  (h63 : n + m ≤ maxLen) (hbytes : (n + m) * bytes ≤ 140737488355328) (hbase : base ≤ w.heap.size)
  (hPz : ∀ x ∈ z.cells.toList, Pr x) (hPn : ∀ x ∈ news, Pr x) (hPo : OwnAll Pr w v)
  (h : ∀ v' w', w'.ownsRow base e size v' (n + m) (xs ++ news) → w.grownBy w' v.ownBlock → (v'.ownBlock = v.ownBlock ∨ v'.ownBlock = some w.heap.size) → OwnAll Pr w' v' → K (a.put o.dst v') w') : o.wp P a w K Q := by
 obtain ⟨v', w', hrun, h2, h3, h4, h5⟩ := run_append_all (P := P) w Pr base t o.type e i z size bytes ht hi hz hsize hby hzs hsz v n xs hown A m c news hm hr h1 h63 hbytes hbase hPz hPn hPo; unfold Oper.wp execOp; simp only [ho, resolve, invoke, builtin, Sem.run_bind, Sem.run_pure, Result.andThen_ok, List.map_toArray, List.map_cons, List.map_nil, hs, hx, hrun]; exact h v' w' h2 h3 h4 h5
end
end Go.Proofs.YtijkfagkbfbpmaaGreatDoor
namespace Go.Proofs.YtijkfagkbfbpmaaGreatDoor
open Go Go.RowKit
theorem RtL.grownBy {w w' : World} {v a : Value} {L1 L2 : List Nat} (h : RtL w v L1 L2) (k : w.grownBy w' a.ownBlock) (hO : OwnAll NoL w a) : RtL w' v L1 L2 := by
 obtain ⟨A1, k1, c1, A2, k2, c2, rfl, h1, h2, e1, e2⟩ := h; exact ⟨A1, k1, c1, A2, k2, c2, rfl, h1.grownBy k hO, h2.grownBy k hO, e1, e2⟩
theorem PD.grownBy {w w' : World} {a : Value} {p : PC} {L1 L2 : List Nat} (h : PD w p L1 L2) (k : w.grownBy w' a.ownBlock) (hO : OwnAll NoL w a) : PD w' p L1 L2 := by
 obtain ⟨team, t, h, site, A1, k1, c1, A2, k2, c2, fr, un, r0, r1, r2, r3, r4, r5, r6, r7, r8, r9, r10, r11, r12, r13, r14, r15, e, h1, h2, h3, h4⟩ := h; exact ⟨team, t, h, site, A1, k1, c1, A2, k2, c2, fr, un, r0, r1, r2, r3, r4, r5, r6, r7, r8, r9, r10, r11, r12, r13, r14, r15, e, h1, h2, h3.grownBy k hO, h4⟩
theorem PDN.grownBy {w w' : World} {a : Value} {p : PC} {N : Nat} (h : PDN w p N) (k : w.grownBy w' a.ownBlock) (hO : OwnAll NoL w a) : PDN w' p N := by
 obtain ⟨M1, M2, h1, h2⟩ := h; exact ⟨M1, M2, h1.grownBy k hO, h2⟩
theorem PDN.one {w : World} {p : PC} {N : Nat} (h : PDN w p N) : ∀ v ∈ cellsP p, v.oneCell' = true := by
 obtain ⟨M1, M2, ⟨team, t, h, site, A1, k1, c1, A2, k2, c2, fr, un, r0, r1, r2, r3, r4, r5, r6, r7, r8, r9, r10, r11, r12, r13, r14, r15, rfl, _⟩, _⟩ := h; exact promD_one
theorem PDN.noL {w : World} {p : PC} {N : Nat} (h : PDN w p N) : ∀ v ∈ cellsP p, NoL v := by
 obtain ⟨M1, M2, ⟨team, t, h, site, A1, k1, c1, A2, k2, c2, fr, un, r0, r1, r2, r3, r4, r5, r6, r7, r8, r9, r10, r11, r12, r13, r14, r15, rfl, _⟩, _⟩ := h; exact promD_no
theorem PromOk.pd {w : World} {p : PC} {a b : Nat} (h : PromOk p) (hr : Rat w (.agg #[p.b1, p.b2]) a b) (g : Nm.Good a b) : PD w p (Nm.lb a) (Nm.lb (Nm.dn b)) := by
 obtain ⟨team, t, h, site, fr, un, d, A1, k1, c1, A2, k2, c2, rfl, h1, h2, h3, h4, h5, h6, h7, h8, h9⟩ := h; refine ⟨(team : Int), t, h, (site : Int), A1, k1, c1, A2, k2, c2, (fr : Int), (un : Int), (d : Int), 0, 0, 0, 0, 0, 0, 0, 0, 0, 0, 0, 0, 0, 0, 0, rfl, ?_, ?_, rtl_rat hr, ⟨⟨by omega, by omega⟩, ⟨by omega, by omega⟩, ⟨by omega, by omega⟩, ⟨by omega, by omega⟩⟩, ⟨by omega, by omega⟩, ?_⟩
 ·rcases h2 with rfl | rfl | rfl <;> decide
 ·rcases h3 with rfl | rfl | rfl <;> decide
 ·unfold BY; omega
theorem fill_prom2 (p q : PC) : Instr.fill (fun i => some (i * 24, 24)) ((Array.range (2 * 24)).map (zeroPV.cells[· % zeroPV.cells.size]!)) [(0, .agg (cellsP p).toArray), (1, .agg (cellsP q).toArray)] = some (cellsP p ++ cellsP q).toArray := by kernel_rfl
theorem rd_blk {w : World} {g : Nat} {T : TypeId} {l : List Value} (h : Blk w g T l.toArray) : Rd w (some ⟨g, 0, none⟩) l :=
 fun _ => ⟨g, 0, rfl, fun i hi => by rw [Nat.zero_add, h.cell]; simp [hi]⟩
def PhiLi4 (N kp : Nat) (Ap : Option Addr) (cp : Nat) (how by_ : Int) (ps : List PC) (b : PC) (vs : Nat → Value) (j : Nat) (w : World) (x : Value) : Prop :=
 match j with
 | 0 => ∃ g, x = .slice (some ⟨g, 0, none⟩) 0 0 ∧ w.ownsRow N 33 24 (.slice (some ⟨g, 0, none⟩) 0 0) 0 [] ∧ OwnAll NoL w (.slice (some ⟨g, 0, none⟩) 0 0)
 | 1 => x = .slice Ap kp cp
 | 2 => ∃ A c, x = .slice A kp c ∧ w.ownsRow N 33 24 (.slice A kp c) kp (ps.flatMap cellsP) ∧ OwnAll NoL w (.slice A kp c)
 | 3 => x = .agg (cellsP b).toArray
 | 4 => x = .agg (cellsP b).toArray
 | 5 => x = .int .i64 by_
 | 6 => x = .int .i64 how
 | 7 => ∃ q : PC, x = .agg (cellsP q).toArray ∧ PDN w q 69
 | 8 => ∃ g, ∃ q : PC, x = .slice (some ⟨g, 0, none⟩) 2 2 ∧ Blk w g 33 (cellsP b ++ cellsP q).toArray ∧ PDN w q 69
 | _ => True

theorem PhiLi4.keepR {N kp : Nat} {Ap : Option Addr} {cp : Nat} {how by_ : Int} {ps : List PC} {b : PC} : ∀ vs (w w' : World), Below w.heap.size w w' → ∀ j x, PhiLi4 N kp Ap cp how by_ ps b vs j w x → PhiLi4 N kp Ap cp how by_ ps b vs j w' x := by
 intro vs w w' hb j x h; unfold PhiLi4 at h ⊢
 split <;> simp only at h ⊢
 all_goals first
  | exact h
  | (obtain ⟨g, e, h1, h2⟩ := h; exact ⟨g, e, own_below h1 hb, h2.below hb fun g hg => ownsRow_lt h1 g hg⟩)
  | (obtain ⟨A, c, e, h1, h2⟩ := h; exact ⟨A, c, e, own_below h1 hb, h2.below hb fun g hg => ownsRow_lt h1 g hg⟩)
  | (obtain ⟨q, e, h1⟩ := h; exact ⟨q, e, h1.below hb⟩)
  | (obtain ⟨g, q, e, h1, h2⟩ := h; exact ⟨g, q, e, Blk.below h1 hb h1.lt, h2.below hb⟩)
theorem PhiLi4.keepF {N kp : Nat} {Ap : Option Addr} {cp : Nat} {how by_ : Int} {ps : List PC} {b : PC} : ∀ vs (w w' : World) j x, ([] : List Nat).contains j = true → PhiLi4 N kp Ap cp how by_ ps b vs j w x → PhiLi4 N kp Ap cp how by_ ps b vs j w' x := by
 intro vs w w' j x hf
 cases hf
/-- what the list is in the end -/
def FinLi4 (B kp : Nat) (w0 : World) (ps : List PC) (bd : Nat → Nat × Nat) (b : PC) (v : Value) (W : World) : Prop := ∃ A c, ∃ q : PC, v = .slice A (kp + 2) c ∧ RowS cellsP W A (kp + 2) (ps ++ [b, q]) ∧ PDN W b 69 ∧ PDN W q 69 ∧ PsOk W ps bd ∧ Below B w0 W
def SLi4 (B kp : Nat) (w0 wr : World) (ps : List PC) (bd : Nat → Nat × Nat) (b : PC) : List Value → (Nat → Value) → World → Prop
 | [], _, W => Below wr.heap.size wr W
 | [v], _, W => FinLi4 B kp w0 ps bd b v W
 | [v, x], _, W => x = v ∧ FinLi4 B kp w0 ps bd b v W
 | _, _, _ => True
theorem psC_len (ps : List PC) : (ps.flatMap cellsP).length = ps.length * 24 := flat_len cellsP_len ps
theorem range_keep {w w' : World} {g : Nat} {l : List Value} (hb : Below w.heap.size w w') (h : ∀ j v, l[j]? = some v → w.cell? ⟨g, 0 + j, none⟩ = some v) : w'.rangeAt g 0 l := fun j v hj => cell_keep hb (h j v hj)
set_option maxRecDepth 100000 in
set_option maxHeartbeats 4000000 in
theorem list_n (A : Option Addr) (k c : Nat) (l : List Int) (how by_ : Int) (w : World) (hl : RowL intC w A k l) (HL : Hid (∀ x ∈ l, -9223372036854775808 ≤ x ∧ x ≤ 9223372036854775807)) (i1 : -9223372036854775808 ≤ how) (i2 : how ≤ 9223372036854775807) (i3 : -9223372036854775808 ≤ by_) (i4 : by_ ≤ 9223372036854775807) :
  Calls Tryz.prog 17 #[.slice A k c, .int .i64 how, .int .i64 by_] w fun e w' => ∃ Ap kp cp, ∃ (ps : List PC) (bd : Nat → Nat × Nat) (b q : PC), e = .returned (.slice Ap (kp + 2) cp) ∧ RowS cellsP w' Ap (kp + 2) (ps ++ [b, q]) ∧ kp ≤ 6 ∧ Hid (PsOk w' ps bd ∧ PDN w' b 69 ∧ PDN w' q 69) ∧ Below w.heap.size w w' := by
 obtain ⟨i0, hi0, hz0, hz1, hz2⟩ := info_parts info_promV
 go_enter Tryz.func17, Tryz.ntmps17
 go_wp2_with fail; refine (made_n A k c l _ hl HL).mono ?_; rintro e w1 ⟨Ap, kp, cp, ps, bd, rfl, _, _, hps, hkp, hok, hb1⟩; clear hl HL; go_wp2_with fail; refine (one_n by_ how _ i3 i4 i1 i2).mono ?_; rintro e w2 ⟨p1, pa, pb, rfl, hp1, hr1, hg1, _, _, hb2⟩; have hpd := hp1.pd hr1 hg1; have hl1 : (Nm.lb pa).length ≤ 67 := by have := hg1.fits.1; omega
 have hl2 : (Nm.lb (Nm.dn pb)).length ≤ 67 := by have := hg1.fits.2; omega
 have hps := hps.below hb2; have hok := hok.below hb2; have hbw := Below.tr hb1 hb2; clear hb1 hb2 hp1 hr1 hg1; go_wp2_with fail; refine (sp34_g p1 _ _ 67 how by_ _ hpd (by omega) (by omega) hl1 hl2 i1 i2 i3 i4).mono ?_; rintro e w2b ⟨b, rfl, hdb, hb2⟩; have hps := hps.below hb2; have hok := hok.below hb2; have hbw := Below.tr hbw hb2; clear hb2 hpd hl1 hl2; have HON : Hid ((cellsP b).toArray.all (·.oneCell') = true) := all_oneCell_toArray (PDN.one hdb)
 go_upto_region 3 with (first | (refine wpList_store_mid rfl 33 (.tmp 8) (.tmp 16) rfl w2b.heap.size 0 (cellsP b).toArray rfl rfl (there_new _ _ _ 24 (by simp)) (infoP24 (p := b)) HON.out ?_; rw [setCells_new]; rotate_left; rfl))
 refine wp_name ?_; intro w3 HW; have hb3 : Below w2b.heap.size w2b w3 := by rw [HW.out]; exact bA _ _
 have BB : Blk w3 w2b.heap.size 33 (cellsP b).toArray := by rw [HW.out]; exact Blk.new _ _ _
 obtain ⟨gb, hgb⟩ : ∃ g, Hid (g = w2b.heap.size) := ⟨_, rfl⟩; rw [← hgb.out] at BB ⊢
 have HDB : Hid (PDN w3 b 69) := by
  have h := hdb.below hb3; obtain ⟨M1, M2, h1, h2, h3⟩ := h; exact ⟨M1, M2, h1, by omega, by omega⟩
 obtain ⟨M1, M2, hpb, hM1, hM2⟩ := hdb.below hb3; have HPB := Lib.hid hpb; have HB : Hid (∀ j v, (cellsP b)[j]? = some v → w3.cell? ⟨gb, 0 + j, none⟩ = some v) := fun j v h => by rw [Nat.zero_add, BB.cell]; simpa using h
 have hrows := hps.below hb3; have HPS := Lib.hid (hok.below hb3); have hbw := Below.tr hbw hb3
 have HPO : Hid (∀ p ∈ ps, PromOk p) := fun p hp => by
  obtain ⟨n, hn⟩ := List.getElem?_of_mem hp; exact (HPS.out n p hn).1
 clear HW hb3 BB hdb hpb hps hok hgb HON; refine region_chain [9, 10] [.early, .early, .early, .early, .early, .early, .early, .early, .early, .chain 0, .chain 1] [] [] (PhiLi4 w3.heap.size kp Ap cp how by_ ps b) (fun w w' => Below w.heap.size w w') (SLi4 w.heap.size kp w w3 ps bd b) (by kernel_rfl) (by kernel_rfl) (by kernel_rfl) (by kernel_rfl) (sK (fun _ _ _ _ _ h => h) (sK (fun _ _ _ _ _ h => h) (sK (fun _ _ _ _ _ h => h) (sK (fun _ _ _ _ _ h => h) (sK (fun _ _ _ _ _ h => h) (sK (fun _ _ _ _ _ h => h) (sK (fun _ _ _ _ _ h => h) (sK (fun _ _ _ _ _ h => h) (sK (fun _ _ _ _ _ h => h) (sK (fun _ _ _ _ _ h => h) (sK (fun _ _ _ _ _ h => h) (sZ)))))))))))) PhiLi4.keepR PhiLi4.keepF (fun _ _ _ _ hR hS => Below.tr hS hR) (by rintro (_ | ⟨_, _ | ⟨_, _ | _⟩⟩) vs vs' w _ h <;> exact h) (fun _ => bD _) (fun vs => by simp only [fillR, Act.put, sA, sB, sC, Nat.zero_add, Nat.reduceAdd]; rfl) ?_ ?_
 ·refine sK ?_ (sK ?_ (sK ?_ (sK ?_ (sK ?_ (sK ?_ (sK ?_ (sK ?_ (sK ?_ (sK ?_ (sK ?_ (sZ)))))))))))
  ·as_aux_lemma =>
   intro vs W hS hu hdep K hK; have HU := Lib.hid hu; clear hu; refine ⟨?_⟩; simp only [Act.put, sA, sB, sC, Nat.zero_add, Nat.reduceAdd] at hK ⊢; go_simp; with_reducible refine hK _ _ (bA _ _) ?_
   exact ⟨W.heap.size, rfl, own_mono (own_nil0 W 33 24) hS.size, OwnAll.blk (Blk.new _ _ _) (fun x hx => by simp at hx)⟩
  ·as_aux_lemma =>
   intro vs W hS hu hdep K hK; have HU := Lib.hid hu; clear hu; refine ⟨?_⟩; simp only [Act.put, sA, sB, sC, Nat.zero_add, Nat.reduceAdd] at hK ⊢; go_simp; with_reducible refine hK _ _ (Below.refl _ _) ?_
   exact rfl
  ·as_aux_lemma =>
   intro vs W hS hu hdep K hK; have HU := Lib.hid hu; clear hu; have d0 := hdep ⟨0, .data⟩ (by simp) rfl; simp only [PhiLi4] at d0; refine @exE1 _ _ _ d0 ?_; clear d0; intro g0 d0; have e0 := d0.1; have n0 := d0.2.1; have a0 := d0.2.2; clear d0; have d1 := hdep ⟨1, .data⟩ (by simp) rfl; simp only [PhiLi4] at d1; refine ⟨?_⟩; simp only [Act.put, sA, sB, sC, Nat.zero_add, Nat.reduceAdd, e0, d1] at hK ⊢; rw [if_pos (by rfl)]; refine wp_append_fresh NoL (.tmp 17) (.tmp 18) _ rfl w3.heap.size 33 i0 zeroPV 24 128 Tryz.underlying23 hi0 hz0 hz1 hz2 zeroPV_size (by omega) g0 rfl n0 Ap kp cp (ps.flatMap cellsP) rfl (by rw [psC_len, ← hrows.2.1]) (hrows.1.below hS) (fun u hu => by obtain ⟨p, hp, hu⟩ := List.mem_flatMap.1 hu; exact (HPO.out p hp).one u hu) (by simp only [maxLen]; omega) (by omega) hS.size zeroPV_noL (fun u hu => by obtain ⟨p, hp, hu⟩ := List.mem_flatMap.1 hu; exact (HPO.out p hp).noL u hu) a0 ?_; intro v' w' h2 hb2 h5; simp only [Act.put, sA, sB, sC]; obtain ⟨A, c, rfl⟩ := own_shp h2; with_reducible refine hK _ _ hb2 ?_
   exact ⟨A, c, rfl, h2, h5⟩
  ·as_aux_lemma =>
   intro vs W hS hu hdep K hK; have HU := Lib.hid hu; clear hu; refine ⟨?_⟩; simp only [Act.put, sA, sB, sC, Nat.zero_add, Nat.reduceAdd] at hK ⊢; rw [if_pos (by rfl)]; refine wp_load_mid 33 (.tmp 8) (by rfl) gb (0) (by rfl) (cellsP b) _ ((range_keep hS HB.out)) Tryz.underlying33 (by rfl) (infoP_len (p := b)) ?_; simp only [Act.put, sA, sB, sC]; with_reducible refine hK _ _ (Below.refl _ _) ?_
   exact rfl
  ·as_aux_lemma =>
   intro vs W hS hu hdep K hK; have HU := Lib.hid hu; clear hu; refine ⟨?_⟩; simp only [Act.put, sA, sB, sC, Nat.zero_add, Nat.reduceAdd] at hK ⊢; rw [if_pos (by rfl)]; refine wp_load_mid 33 (.tmp 8) (by rfl) gb (0) (by rfl) (cellsP b) _ ((range_keep hS HB.out)) Tryz.underlying33 (by rfl) (infoP_len (p := b)) ?_; simp only [Act.put, sA, sB, sC]; with_reducible refine hK _ _ (Below.refl _ _) ?_
   exact rfl
  ·as_aux_lemma =>
   intro vs W hS hu hdep K hK; have HU := Lib.hid hu; clear hu; refine ⟨?_⟩; simp only [Act.put, sA, sB, sC, Nat.zero_add, Nat.reduceAdd] at hK ⊢; go_simp; with_reducible refine hK _ _ (Below.refl _ _) ?_
   exact rfl
  ·as_aux_lemma =>
   intro vs W hS hu hdep K hK; have HU := Lib.hid hu; clear hu; refine ⟨?_⟩; simp only [Act.put, sA, sB, sC, Nat.zero_add, Nat.reduceAdd] at hK ⊢; go_simp; with_reducible refine hK _ _ (Below.refl _ _) ?_
   exact rfl
  ·as_aux_lemma =>
   intro vs W hS hu hdep K hK; have HU := Lib.hid hu; clear hu; have d0 := hdep ⟨4, .data⟩ (by simp) rfl; simp only [PhiLi4] at d0; have d1 := hdep ⟨5, .data⟩ (by simp) rfl; simp only [PhiLi4] at d1; have d2 := hdep ⟨6, .data⟩ (by simp) rfl; simp only [PhiLi4] at d2; refine ⟨?_⟩; simp only [fillR, Act.put, sA, sB, sC, Nat.zero_add, Nat.reduceAdd, d0, d1, d2] at hK ⊢; go_simp; refine (sp34_g b M1 M2 68 by_ how _ (HPB.out.below hS) (by omega) (by omega) hM1 hM2 i3 i4 i1 i2).mono ?_; rintro e w' ⟨q, rfl, hq, hb⟩; go_wp2_with fail; with_reducible refine hK _ _ hb ?_
   exact ⟨q, rfl, hq⟩
  ·as_aux_lemma =>
   intro vs W hS hu hdep K hK; have HU := Lib.hid hu; clear hu; have d0 := hdep ⟨3, .data⟩ (by simp) rfl; simp only [PhiLi4] at d0; have d1 := hdep ⟨7, .data⟩ (by simp) rfl; simp only [PhiLi4] at d1; refine @exE1 _ _ _ d1 ?_; clear d1; intro q1 d1; have e1 := d1.1; have h1 := d1.2; clear d1; refine ⟨?_⟩; simp only [Act.put, sA, sB, sC, Nat.zero_add, Nat.reduceAdd, d0, e1] at hK ⊢; rw [if_pos (by rfl)]; refine wp_sliceN 23 33 2 [(0, .tmp 20), (1, .tmp 24)] rfl (cellsP b ++ cellsP q1).toArray i0 zeroPV 24 [(0, .agg (cellsP b).toArray), (1, .agg (cellsP q1).toArray)] Tryz.underlying23 hi0 hz0 hz1 (by omega) (by omega) rfl (fill_prom2 b q1) ?_; simp only [Act.put, sA, sB, sC]; with_reducible refine hK _ _ (bA _ _) ?_
   exact ⟨_, q1, rfl, Blk.new _ _ _, h1.below (bA _ _)⟩
  ·as_aux_lemma =>
   intro vs W hS hdep K hK; have d0 := hdep ⟨2, .data⟩ (by simp) rfl (by rfl); simp only [PhiLi4] at d0; have d1 := hdep ⟨8, .data⟩ (by simp) rfl (by rfl); simp only [PhiLi4] at d1; have hS : Below w3.heap.size w3 W := hS; refine @exE2 _ _ _ _ d0 ?_; clear d0; intro A c d0; have e0 := d0.1; have n0 := d0.2.1; have a0 := d0.2.2; clear d0; refine @exE2 _ _ _ _ d1 ?_; clear d1; intro g q d1; have e1 := d1.1; have k1 := d1.2.1; have q1 := d1.2.2; clear d1; refine ⟨?_⟩; simp only [Act.put, sA, sB, sC, Nat.zero_add, Nat.reduceAdd, e0, e1] at hK ⊢; rw [if_pos (by rfl)]; refine wp_append_allK NoL (.tmp 19) (.tmp 25) _ rfl w3.heap.size 33 i0 zeroPV 24 128 Tryz.underlying23 hi0 hz0 hz1 hz2 zeroPV_size (by omega) (.slice A kp c) kp (ps.flatMap cellsP) rfl n0 (some ⟨g, 0, none⟩) 2 2 (cellsP b ++ cellsP q) rfl rfl (rd_blk k1) (fun u hu => (List.mem_append.1 hu).elim (PDN.one HDB.out u) (q1.one u)) (by simp only [maxLen]; omega) (by omega) hS.size zeroPV_noL (fun u hu => (List.mem_append.1 hu).elim (PDN.noL HDB.out u) (q1.noL u)) a0 ?_; intro v' w' h2 hg h4 h5; simp only [Act.put, sA, sB, sC]; have hrow : ∃ A' c', v' = .slice A' (kp + 2) c' ∧ RowS cellsP w' A' (kp + 2) (ps ++ [b, q]) := own_promS (by omega) (by rw [List.flatMap_append]; simpa using h2); obtain ⟨A', c', rfl, hrow⟩ := hrow; with_reducible refine hK _ _ ?_
   exact ⟨A', c', q, rfl, hrow, (PDN.below HDB.out hS).grownBy hg a0, q1.grownBy hg a0, (PsOk.below HPS.out hS).grownBy hg a0, (Below.tr hbw hS).grown hg (Nat.le_trans hbw.size hS.size) (fun k hk => Nat.le_trans hbw.size (own_block_ge n0 k hk))⟩
  ·as_aux_lemma =>
   intro vs W hS hdep K hK; have hS : FinLi4 w.heap.size kp w ps bd b (vs 9) W := hS; refine ⟨?_⟩; simp only [Act.put, sA, sB, sC, Nat.zero_add, Nat.reduceAdd] at hK ⊢; go_simp; with_reducible refine hK _ _ ?_
   exact ⟨rfl, hS⟩
 ·intro vs W hS _; have hS2 : vs 10 = vs 9 ∧ FinLi4 w.heap.size kp w ps bd b (vs 9) W := hS; obtain ⟨e1, A', c', q, e2, hrow, h1, h2, h3, hbz⟩ := hS2; have e3 := e1.trans e2; have HX := Lib.hid (And.intro h3 (And.intro h1 h2)); clear hS e1 e2 h1 h2 h3; simp only [e3]; go_wp2_with fail; go_ret; exact ⟨A', kp, c', ps, bd, b, q, rfl, hrow, hkp, HX, hbz⟩
end Go.Proofs.YtijkfagkbfbpmaaGreatDoor
namespace Go.Proofs.YtijkfagkbfbpmaaGreatDoor
open Go Go.RowKit
theorem pval_ex (p : PC) {w : World} {v : Value} {L1 L2 : List Nat} (h : RtL w v L1 L2) : ∃ er, PVal p L1 L2 er := by
 obtain ⟨_, _, _, _, _, _, _, q1, q2, _, _⟩ := h; by_cases hv : Nm.validE L1 L2 = 0
 ·obtain ⟨a, b, h1, h2, hg⟩ := Nm.validE_spec q1.2.2.2.1 q2.2.2.2.1 hv; exact ⟨_, .inr ⟨a, b, h1, h2, hg, rfl⟩⟩
 ·exact ⟨_, .inl ⟨hv, rfl⟩⟩
theorem PDN.dig {w : World} {p : PC} {N : Nat} (h : PDN w p N) : ∃ d, DgOk (pdg p) d ∧ ∀ x ∈ d, BY x := by
 obtain ⟨M1, M2, ⟨team, t, h, site, A1, k1, c1, A2, k2, c2, fr, un, r0, r1, r2, r3, r4, r5, r6, r7, r8, r9, r10, r11, r12, r13, r14, r15, rfl, _, _, _, _, b0, b1, b2, b3, b4, b5, b6, b7, b8, b9, b10, b11, b12, b13, b14, b15⟩, _⟩ := h; refine ⟨[r0, r1, r2, r3, r4, r5, r6, r7, r8, r9, r10, r11, r12, r13, r14, r15], ⟨rfl, rfl⟩, fun x hx => ?_⟩; simp only [List.mem_cons, List.not_mem_nil, or_false] at hx
 rcases hx with rfl | rfl | rfl | rfl | rfl | rfl | rfl | rfl | rfl | rfl | rfl | rfl | rfl | rfl | rfl | rfl <;> assumption
/-- a list of promises, told: their limbs, what Valid says, their digests -/
structure PLs (w : World) (A : Option Addr) (k : Nat) (ps : List PC) (Lf : Nat → List Nat × List Nat) (Ev : Nat → Int) (dg : Nat → List Int) : Prop where
 row : RowS cellsP w A k ps
 esc : EscOk w ps Lf
 pv : ∀ (n : Nat) p, ps[n]? = some p → PVal p (Lf n).1 (Lf n).2 (Ev n)
 dk : ∀ (n : Nat) p, ps[n]? = some p → DgOk (pdg p) (dg n)
theorem PLs.below {w w' : World} {A : Option Addr} {k : Nat} {ps : List PC} {Lf : Nat → List Nat × List Nat} {Ev : Nat → Int} {dg : Nat → List Int} (h : PLs w A k ps Lf Ev dg) (hb : Below w.heap.size w w') : PLs w' A k ps Lf Ev dg :=
 ⟨h.row.below hb, fun n p hp => ⟨(h.esc n p hp).1.below hb, (h.esc n p hp).2⟩, h.pv, h.dk⟩
theorem PDN.esc {w : World} {p : PC} {N : Nat} (h : PDN w p N) : ∃ L : List Nat × List Nat, PD w p L.1 L.2 ∧ L.1.length ≤ N ∧ L.2.length ≤ N := by
 obtain ⟨M1, M2, h1, h2⟩ := h; exact ⟨(M1, M2), h1, h2⟩
theorem PD.rtl {w : World} {p : PC} {L1 L2 : List Nat} (h : PD w p L1 L2) : RtL w (.agg #[p.b1, p.b2]) L1 L2 ∧ p.test.size ≤ 100 ∧ p.wh.size ≤ 100 := by
 obtain ⟨team, t, h, site, A1, k1, c1, A2, k2, c2, fr, un, r0, r1, r2, r3, r4, r5, r6, r7, r8, r9, r10, r11, r12, r13, r14, r15, rfl, h1, h2, h3, h4⟩ := h; exact ⟨h3, h1, h2⟩
/-- what the list of a law is: the promises made, valid; then two that may be spoilt -/
def LsW (w : World) (ps : List PC) (Lf : Nat → List Nat × List Nat) : Prop := ∀ (n : Nat) p, ps[n]? = some p → PD w p (Lf n).1 (Lf n).2 ∧ (Lf n).1.length ≤ 69 ∧ (Lf n).2.length ≤ 69
theorem LsW.below {w w' : World} {ps : List PC} {Lf : Nat → List Nat × List Nat} (h : LsW w ps Lf) (hb : Below w.heap.size w w') : LsW w' ps Lf := fun n p hp => ⟨(h n p hp).1.below hb, (h n p hp).2⟩
theorem idx_choice {α β : Type} [Inhabited β] {l : List α} {R : Nat → α → β → Prop} (h : ∀ (n : Nat) p, l[n]? = some p → ∃ x, R n p x) : ∃ f : Nat → β, ∀ (n : Nat) p, l[n]? = some p → R n p (f n) := by
 have h2 : ∀ n, ∃ x, ∀ p, l[n]? = some p → R n p x := by
  intro n
  cases hn : l[n]? with
  | none => exact ⟨default, fun p hp => by cases hp⟩
  | some q =>
   obtain ⟨x, hx⟩ := h n q hn; exact ⟨x, fun p hp => by injection hp with hp; rw [← hp]; exact hx⟩
 exact ⟨fun n => (h2 n).choose, fun n p hp => (h2 n).choose_spec p hp⟩
theorem pls_ex {w : World} {A : Option Addr} {k : Nat} {ps : List PC} {Lf : Nat → List Nat × List Nat} (hr : RowS cellsP w A k ps) (h : LsW w ps Lf) : ∃ Ev dg, PLs w A k ps Lf Ev dg := by
 obtain ⟨Ev, hE⟩ := idx_choice (l := ps) (R := fun n p (e : Int) => PVal p (Lf n).1 (Lf n).2 e) fun n p hp => pval_ex p (h n p hp).1.rtl.1
 obtain ⟨dg, hD⟩ := idx_choice (l := ps) (R := fun n p (d : List Int) => DgOk (pdg p) d) fun n p hp => by
  obtain ⟨d, hd, _⟩ := PDN.dig ⟨_, _, h n p hp⟩; exact ⟨d, hd⟩
 refine ⟨Ev, dg, hr, fun n p hp => ?_, hE, hD⟩; have := (h n p hp).1.rtl; exact ⟨this.1, by omega, by omega⟩
end Go.Proofs.YtijkfagkbfbpmaaGreatDoor
namespace Go.Proofs.YtijkfagkbfbpmaaGreatDoor.Nm
/-- the last k decimal digits of a number, the greatest first -/
def padD : Nat → Nat → List Nat
 | 0, _ => []
 | k + 1, n => padD k (n / 10) ++ [n % 10]
/-- the decimal digits of a number, the greatest first -/
def decF : Nat → Nat → List Nat
 | 0, n => [n % 10]
 | f + 1, n => if n < 10 then [n] else decF f (n / 10) ++ [n % 10]
def decD (n : Nat) : List Nat := decF n n
theorem padD_len : ∀ (k n : Nat), (padD k n).length = k
 | 0, _ => rfl
 | k + 1, n => by rw [padD, List.length_append, padD_len k]; rfl
theorem padD_cons : ∀ (k n : Nat), padD (k + 1) n = (n / 10 ^ k % 10) :: padD k n
 | 0, n => by simp [padD]
 | k + 1, n => by
  rw [padD, padD_cons k (n / 10), padD, List.cons_append, Nat.div_div_eq_div_mul, Nat.pow_succ, Nat.mul_comm]
theorem padD_lt : ∀ (k n : Nat), ∀ d ∈ padD k n, d < 10
 | 0, _, _, h => absurd h List.not_mem_nil
 | k + 1, n, d, h => by
  rw [padD] at h
  rcases List.mem_append.1 h with h | h
  ·exact padD_lt k _ d h
  ·rw [List.mem_singleton.1 h]; omega
theorem decF_fuel : ∀ (f g n : Nat), n ≤ f → n ≤ g → decF f n = decF g n
 | 0, 0, _, _, _ => rfl
 | 0, g + 1, n, h, _ => by
  obtain rfl : n = 0 := by omega
  rw [decF, decF, if_pos (by omega)]
 | f + 1, 0, n, _, h => by
  obtain rfl : n = 0 := by omega
  rw [decF, decF, if_pos (by omega)]
 | f + 1, g + 1, n, hf, hg => by
  rw [decF, decF]; by_cases h : n < 10
  ·rw [if_pos h, if_pos h]
  ·rw [if_neg h, if_neg h, decF_fuel f g (n / 10) (by omega) (by omega)]
theorem decD_small {n : Nat} (h : n < 10) : decD n = [n] := by
 unfold decD
 cases n with
 | zero => rfl
 | succ n => rw [decF, if_pos h]
theorem decD_step {n : Nat} (h : 10 ≤ n) : decD n = decD (n / 10) ++ [n % 10] := by
 unfold decD; obtain ⟨m, rfl⟩ : ∃ m, n = m + 1 := ⟨n - 1, by omega⟩; rw [decF, if_neg (by omega), decF_fuel m ((m + 1) / 10) _ (by omega) (Nat.le_refl _)]
theorem dropW_zeros : ∀ (k : Nat) (l : List Nat), ((padD k 0) ++ l).dropWhile (· == 0) = l.dropWhile (· == 0)
 | 0, l => rfl
 | k + 1, l => by
  rw [padD_cons, Nat.zero_div, List.cons_append, List.dropWhile_cons_of_pos (by simp), dropW_zeros k l]
theorem dropW_app {l m : List Nat} (h : l.dropWhile (· == 0) ≠ []) : (l ++ m).dropWhile (· == 0) = l.dropWhile (· == 0) ++ m := by
 induction l with
 | nil => exact absurd rfl h
 | cons a l ih =>
  rw [List.cons_append]; by_cases ha : (a == 0) = true
  ·have e1 : ∀ t : List Nat, (a :: t).dropWhile (· == 0) = t.dropWhile (· == 0) := fun t => List.dropWhile_cons_of_pos ha
   rw [e1] at h; rw [e1, e1]; exact ih h
  ·have e2 : ∀ t : List Nat, (a :: t).dropWhile (· == 0) = a :: t := fun t => List.dropWhile_cons_of_neg ha
   rw [e2, e2]; rfl
theorem decD_ne (n : Nat) : decD n ≠ [] := by
 rcases Nat.lt_or_ge n 10 with h | h
 ·rw [decD_small h]; simp
 ·rw [decD_step h]; simp
/-- the digits without leading noughts -/
theorem pad_dec : ∀ (k n : Nat), n < 10 ^ k → 0 < n → (padD k n).dropWhile (· == 0) = decD n
 | 0, n, h, h0 => by simp at h; omega
 | k + 1, n, h, h0 => by
  rw [padD]
  rcases Nat.lt_or_ge n 10 with h1 | h1
  ·rw [show n / 10 = 0 by omega, dropW_zeros, decD_small h1, show n % 10 = n by omega, List.dropWhile_cons_of_neg (by simp; omega)]
  ·have ih := pad_dec k (n / 10) (by rw [Nat.pow_succ] at h; omega) (by omega); rw [dropW_app (by rw [ih]; exact decD_ne _), ih, ← decD_step h1]
theorem pad_zero (k : Nat) : (padD k 0).dropWhile (· == 0) = [] := by
 have := dropW_zeros k []
 rwa [List.append_nil] at this
/-- the decimal digits as bytes -/
def decS (n : Nat) : ByteArray := ⟨((decD n).map fun d => UInt8.ofNat (48 + d)).toArray⟩
theorem ten_two (k : Nat) : (2 : Nat) ^ (93 * k) ≤ 10 ^ (28 * k) := by
 rw [Nat.pow_mul, Nat.pow_mul]; exact Nat.pow_le_pow_left (by decide) k
theorem bpow (k : Nat) : B ^ k = 2 ^ (32 * k) := by
 unfold B; rw [show (4294967296 : Nat) = 2 ^ 32 by decide, Nat.pow_mul]
theorem bpow_le {k e : Nat} (h : 32 * k ≤ e) : B ^ k ≤ 2 ^ e := by
 rw [bpow]; exact Nat.pow_le_pow_right (by omega) h
theorem ten_two3 (k : Nat) : (2 : Nat) ^ (93 * k + 3) ≤ 10 ^ (28 * k + 1) := by
 rw [Nat.pow_add, Nat.pow_add]; exact Nat.mul_le_mul (ten_two k) (by decide)
theorem lim_k {k e : Nat} (h1 : 2048 ≤ 93 * k + 3) (h2 : 28 * k + 1 ≤ e) : B ^ 64 ≤ 10 ^ e :=
 Nat.le_trans (bpow_le (by omega)) (Nat.le_trans (ten_two3 k) (Nat.pow_le_pow_right (by omega) h2))
theorem lim_ten {e : Nat} (h : 617 ≤ e) : B ^ 64 ≤ 10 ^ e := lim_k (k := 22) (by omega) (by omega)
theorem pow_chunk {n c : Nat} (h : n < B ^ 64) (hx : n / 10 ^ (9 * c) ≠ 0) : c ≤ 68 := by
 rcases Nat.lt_or_ge 68 c with h1 | h1
 ·exfalso
  apply hx
  apply Nat.div_eq_of_lt
  exact Nat.lt_of_lt_of_le h (lim_ten (by omega))
 ·exact h1
end Go.Proofs.YtijkfagkbfbpmaaGreatDoor.Nm
