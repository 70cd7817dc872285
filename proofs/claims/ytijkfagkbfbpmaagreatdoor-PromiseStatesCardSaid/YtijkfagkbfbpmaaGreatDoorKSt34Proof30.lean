import Derived.Test.YtijkfagkbfbpmaaGreatDoorKSt34Proof23
import Derived.Test.YtijkfagkbfbpmaaGreatDoorKSt34Proof29
import Derived.Test.YtijkfagkbfbpmaaGreatDoorS0
set_option linter.unusedVariables false
set_option linter.unusedSimpArgs false
namespace Go.Proofs.YtijkfagkbfbpmaaGreatDoor
open Go Go.RowKit
theorem fill_st1 (s0 : ByteArray) : Instr.fill (fun i => some (i * 1, 1)) ((Array.range (1 * 1)).map ((Value.string { data := #[] }).cells[· % (Value.string { data := #[] }).cells.size]!)) [(0, .string s0)] = some #[.string s0] := by kernel_rfl
theorem own_intsN {w : World} {base N : Nat} {v : Value} {l br : List Int} {ks : Nat} (hN : N ≤ 1000) (h1 : br = l.take N) (h2 : ks = br.length) (ho : OwnI w base v (l.take N)) : ∃ A c, v = .slice A ks c ∧ RowS intC w A ks br := by
 obtain ⟨A, c, rfl⟩ := ho.shp; rw [← h1, ← h2] at ho ⊢; refine ⟨A, c, rfl, ?_⟩; unfold OwnI at ho; rw [← h2] at ho; have : ks ≤ N := by rw [h2, h1, List.length_take]; omega
 exact own_any intC_len (by omega) (by omega) ho
theorem bits_one (h : Int) : ∃ m : Nat, bits .and .i64 h 1 = (m : Int) ∧ m ≤ 1 := by
 have h1 : (BitVec.ofInt 64 h &&& 1#64).toNat ≤ 1 := by rw [BitVec.toNat_and]; exact Nat.and_le_right
 refine ⟨(BitVec.ofInt 64 h &&& 1#64).toNat, ?_, h1⟩; have e : bits .and .i64 h 1 = IntKind.i64.wrap (((BitVec.ofInt 64 h &&& 1#64).toNat : Nat) : Int) := rfl; rw [e]; generalize (BitVec.ofInt 64 h &&& 1#64).toNat = m at h1; exact IntWalk.i64_in _ (by omega)
def nm0 : List ByteArray := [⟨#[116, 48]⟩, ⟨#[116, 49]⟩, ⟨#[117]⟩]
def nm1 : List ByteArray := [⟨#[116, 49]⟩, ⟨#[116, 48]⟩, ⟨#[116, 49]⟩]
def nm2 : List ByteArray := [⟨#[116, 48]⟩]
theorem nm0_size {s : ByteArray} (h : s ∈ nm0) : s.size ≤ 9223372036854775807 := nm_size h
theorem nm1_size {s : ByteArray} (h : s ∈ nm1) : s.size ≤ 9223372036854775807 := by
 refine nm_size ?_; simp only [nm1, nmA, List.mem_cons, List.not_mem_nil, or_false] at h ⊢
 rcases h with rfl | rfl | rfl <;> simp
theorem nm2_size {s : ByteArray} (h : s ∈ nm2) : s.size ≤ 9223372036854775807 := by
 refine nm_size ?_; simp only [nm2, nmA, List.mem_cons, List.not_mem_nil, or_false] at h ⊢; simp [h]
def PhiSt15 (Al : Option Addr) (k c q i j gT gD : Nat) (ti : Int) (As : Option Addr) (ks cs : Nat) (z : Int × Int) (j_ : Nat) (w : World) (x : Value) : Prop :=
 match j_ with
 | 0 => x = .slice Al k c
 | 1 => x = .int .i64 ((q : Int) - 1)
 | 2 => x = .slice (some ⟨gT, 0, none⟩) 2 2
 | 3 => x = .int .i64 (i : Nat)
 | 4 => x = .pointer (some ⟨gT, i, none⟩)
 | 5 => x = .int .i64 ti
 | 6 => x = .slice (some ⟨gD, 0, none⟩) 3 3
 | 7 => x = .int .i64 (j : Nat)
 | 8 => x = .pointer (some ⟨gD, j * 16, none⟩)
 | 9 => x = .agg (cellsDG (byDG j)).toArray
 | 10 => x = .slice As ks cs
 | 11 => x = .tuple #[.int .i64 z.1, .int .i64 z.2]
 | 12 => x = .tuple #[.int .i64 z.1, .int .i64 z.2]
 | 13 => x = .int .i64 z.1
 | 14 => x = .int .i64 z.2
 | 15 => x = .int .i64 z.1
 | 16 => x = .int .i64 z.2
 | _ => True
theorem PhiSt15.keep {Al : Option Addr} {k c q i j gT gD : Nat} {ti : Int} {As : Option Addr} {ks cs : Nat} {z : Int × Int} : ∀ (w w' : World), Below w.heap.size w w' → ∀ j_ x, PhiSt15 Al k c q i j gT gD ti As ks cs z j_ w x → PhiSt15 Al k c q i j gT gD ti As ks cs z j_ w' x := by
 intro w w' hb j_ x h; unfold PhiSt15 at h ⊢; exact h
/-- four rows of names -/
def NmOk (w : World) (g : Nat) : Prop := ∀ q, q < 4 → ∃ (A : Option Addr) (k c : Nat) (nm : List ByteArray), w.cell? ⟨g, q, none⟩ = some (.slice A k c) ∧ RowS strC w A k nm ∧ Hid (∀ s ∈ nm, s.size ≤ 9223372036854775807)
theorem NmOk.below {w w' : World} {g : Nat} (h : NmOk w g) (hb : Below w.heap.size w w') : NmOk w' g := by
 intro q hq; obtain ⟨A, k, c, nm, h1, h2, h3⟩ := h q hq; exact ⟨A, k, c, nm, cell_keep hb h1, h2.below hb, h3⟩
theorem NmOk.mk4 {w : World} {g : Nat} {T : TypeId} {A1 A2 A3 A4 : Option Addr} {k1 c1 k2 c2 k3 c3 k4 c4 : Nat} {n1 n2 n3 n4 : List ByteArray} (hB : Blk w g T #[.slice A1 k1 c1, .slice A2 k2 c2, .slice A3 k3 c3, .slice A4 k4 c4]) (h1 : RowS strC w A1 k1 n1) (h2 : RowS strC w A2 k2 n2) (h3 : RowS strC w A3 k3 n3) (h4 : RowS strC w A4 k4 n4)
  (s1 : ∀ s ∈ n1, s.size ≤ 9223372036854775807) (s2 : ∀ s ∈ n2, s.size ≤ 9223372036854775807) (s3 : ∀ s ∈ n3, s.size ≤ 9223372036854775807) (s4 : ∀ s ∈ n4, s.size ≤ 9223372036854775807) : NmOk w g := by
 intro q hq; have hc : q = 0 ∨ q = 1 ∨ q = 2 ∨ q = 3 := by omega
 rcases hc with rfl | rfl | rfl | rfl
 ·exact ⟨_, _, _, _, by rw [hB.cell]; rfl, h1, s1⟩
 ·exact ⟨_, _, _, _, by rw [hB.cell]; rfl, h2, s2⟩
 ·exact ⟨_, _, _, _, by rw [hB.cell]; rfl, h3, s3⟩
 ·exact ⟨_, _, _, _, by rw [hB.cell]; rfl, h4, s4⟩
/-- a slice literal: a new block, at an address and in a world that are named -/
theorem wpList_sliceB {ops : Array Oper} {rest : List Oper} {o : Oper} {a : Act} {w : World} {Q : Exit → Act → World → Prop} (hg : o.guard = none) (t e : TypeId) (len : Nat) (pl : List (Nat × Operand)) (ho : o.op = .buildSlice t len pl.toArray)
  (cells : Array Value) (ie : TypeInfo) (z : Value) (n : Nat) (vals : List (Nat × Value))
  (hu : Tryz.prog.underlying t = some (.slice e)) (hie : Tryz.prog.info? e = some ie) (hz : ie.zero = some z) (hn : ie.size = n) (hsmall : ¬ len * n > 2 ^ 24) (hpos : ¬ len * n = 0) (hv : (pl.map fun (i, x) => (i, a.eval x)) = vals)
  (hf : Instr.fill (fun i => some (i * n, n)) ((Array.range (len * n)).map (z.cells[· % z.cells.size]!)) vals = some cells)
  (h : ∀ (g : Nat) (w' : World), Blk w' g e cells → Below w.heap.size w w' → wpList Tryz.prog ops Q rest (a.put o.dst (.slice (some ⟨g, 0, none⟩) len len)) w') : wpList Tryz.prog ops Q (o :: rest) a w :=
 wpList_sliceN hg t e len pl ho cells ie z n vals hu hie hz hn hsmall hpos hv hf (h _ _ (Blk.new _ _ _) (bA _ _))
theorem RowL.take_str34 {w : World} {A : Option Addr} {k : Nat} {X : List ByteArray} (h : RowL strC w A k X) (m : Nat) (hm : m ≤ k) : RowL strC w A m (X.take m) := by
 obtain ⟨h1, h2, h3⟩ := h; refine ⟨?_, by rw [List.length_take]; omega, by omega⟩; have e : X.flatMap strC = (X.take m).flatMap strC ++ (X.drop m).flatMap strC := by rw [← List.flatMap_append, List.take_append_drop]
 intro hne; obtain ⟨b, off, rfl, hc⟩ := h1 (by rw [e]; simp [hne]); refine ⟨b, off, rfl, fun i hi => ?_⟩; rw [hc i (by rw [e, List.length_append]; omega)]
 congr 1
 simp only [e]; exact List.getElem_append_left hi
theorem rowS_take {α : Type} {f : α → List Value} {w : World} {A : Option Addr} {k : Nat} {X : List α} (h : RowS f w A k X) (m : Nat) (hm : m ≤ k) : RowS f w A m (X.take m) := by
 obtain ⟨h1, h2, h3⟩ := h; refine ⟨?_, by rw [List.length_take]; omega, by omega⟩; have e : X.flatMap f = (X.take m).flatMap f ++ (X.drop m).flatMap f := by rw [← List.flatMap_append, List.take_append_drop]
 intro hne; obtain ⟨b, off, rfl, hc⟩ := h1 (by rw [e]; simp [hne]); refine ⟨b, off, rfl, fun i hi => ?_⟩; rw [hc i (by rw [e, List.length_append]; omega)]
 congr 1
 simp only [e]; exact List.getElem_append_left hi
theorem byD3_ok {r : Nat} : ∀ (j : Nat) (d : DG), ([byDG 0, byDG 1, byDG 2].take r)[j]? = some d → DgOk (cellsDG d) (byL j) := by
 intro j d h
 have h2 : [byDG 0, byDG 1, byDG 2][j]? = some d := by
  rw [List.getElem?_take] at h
  split at h
  ·exact h
  ·cases h
 have hj : j < 3 := by
  have := (List.getElem?_eq_some_iff.1 h2).1
  simpa using this
 have hc : j = 0 ∨ j = 1 ∨ j = 2 := by omega
 rcases hc with rfl | rfl | rfl
 ·obtain rfl : byDG 0 = d := by simpa using h2
  exact byDG_ok 0
 ·obtain rfl : byDG 1 = d := by simpa using h2
  exact byDG_ok 1
 ·obtain rfl : byDG 2 = d := by simpa using h2
  exact byDG_ok 2
def PhiSt22 (Al : Option Addr) (k c i v gT gN gD : Nat) (ti how : Int) (m01 r : Nat) (An : Option Addr) (kn cn : Nat) (As : Option Addr) (ks cs : Nat) (er : Int) (XI : List Int) (j_ : Nat) (w : World) (x : Value) : Prop :=
 match j_ with
 | 0 => x = .slice Al k c
 | 1 => x = .slice (some ⟨gT, 0, none⟩) 2 2
 | 2 => x = .int .i64 (i : Nat)
 | 3 => x = .pointer (some ⟨gT, i, none⟩)
 | 4 => x = .int .i64 ti
 | 5 => x = .slice (some ⟨gN, 0, none⟩) 4 4
 | 6 => x = .int .i64 (v : Nat)
 | 7 => x = .pointer (some ⟨gN, v, none⟩)
 | 8 => x = .slice An kn cn
 | 9 => x = .slice (some ⟨gD, 0, none⟩) 3 3
 | 10 => x = .int .i64 how
 | 11 => x = .int .i64 (m01 : Nat)
 | 12 => x = .int .i64 (r : Nat)
 | 13 => x = .slice (some ⟨gD, 0, none⟩) r 3
 | 14 => x = .slice As ks cs
 | 15 => ∃ A k c, x = .tuple #[.slice A k c, .int .i64 er] ∧ RowS intC w A k XI
 | 16 => ∃ A k c, x = .tuple #[.slice A k c, .int .i64 er] ∧ RowS intC w A k XI
 | 17 => ∃ A k c, x = .slice A k c ∧ RowS intC w A k XI
 | 18 => x = .int .i64 er
 | 19 => ∃ A k c, x = .slice A k c ∧ RowS intC w A k XI
 | 20 => x = .int .i64 er
 | _ => True
theorem PhiSt22.keep {Al : Option Addr} {k c i v gT gN gD : Nat} {ti how : Int} {m01 r : Nat} {An : Option Addr} {kn cn : Nat} {As : Option Addr} {ks cs : Nat} {er : Int} {XI : List Int} : ∀ (w w' : World), Below w.heap.size w w' → ∀ j_ x, PhiSt22 Al k c i v gT gN gD ti how m01 r An kn cn As ks cs er XI j_ w x → PhiSt22 Al k c i v gT gN gD ti how m01 r An kn cn As ks cs er XI j_ w' x := by
 intro w w' hb j_ x h; unfold PhiSt22 at h ⊢
 split <;> simp only at h ⊢
 all_goals first
  | exact h
  | (obtain ⟨A, k, c, e, h1⟩ := h; exact ⟨A, k, c, e, h1.below hb⟩)
theorem info_ls : (Tryz.prog.info? 49).map (fun i => (i.zero, i.size, i.bytes)) = some (some (.slice none 0 0), 1, 24) := by kernel_rfl
theorem strs_one {l : List ByteArray} : ∀ u ∈ l.flatMap strC, u.oneCell' = true := by
 intro u hu; obtain ⟨d, _, hd⟩ := List.mem_flatMap.1 hu; simp only [strC, List.mem_singleton] at hd; rw [hd]; rfl
set_option maxRecDepth 100000 in
set_option maxHeartbeats 16000000 in
theorem promise_states_n (A0 : Option Addr) (k0 c0 : Nat) (l0 : List Int) (how by_ tick : Int) (A4 : Option Addr) (m4 c4 : Nat) (l4 : List Int) (A5 : Option Addr) (m5 c5 : Nat) (l5 : List ByteArray) (w : World)
  (h0 : RowL intC w A0 k0 l0) (H0 : Hid (∀ x ∈ l0, -9223372036854775808 ≤ x ∧ x ≤ 9223372036854775807)) (hh : -9223372036854775808 ≤ how ∧ how ≤ 9223372036854775807) (hb : -9223372036854775808 ≤ by_ ∧ by_ ≤ 9223372036854775807) (ht : -9223372036854775808 ≤ tick ∧ tick ≤ 9223372036854775807) (h4 : RowL intC w A4 m4 l4) (hc4 : m4 ≤ c4) (hd4 : c4 ≤ 9223372036854775807) (h5 : RowL strC w A5 m5 l5) (hc5 : m5 ≤ c5) (hd5 : c5 ≤ 9223372036854775807) (HS5 : Hid (∀ s ∈ l5, s.size ≤ 9223372036854775807)) :
  Calls Tryz.prog 6 #[.slice A0 k0 c0, .int .i64 how, .int .i64 by_, .int .i64 tick, .slice A4 m4 c4, .slice A5 m5 c5] w fun e w' => e = .returned (.bool true) ∧ Below w.heap.size w w' := by
 obtain ⟨iS, hiS, hzS, hzS1, hzS2⟩ := info_parts info_str14; obtain ⟨iL, hiL, hzL, hzL1, hzL2⟩ := info_parts info_ls; obtain ⟨iD, hiD, hzD, hzD1, hzD2⟩ := info_parts info_dg3
 go_enter Tryz.func6, Tryz.ntmps6
 go_wp2_with fail; refine (list_n A0 k0 c0 l0 how by_ _ h0 H0 hh.1 hh.2 hb.1 hb.2).mono ?_; rintro e w1 ⟨Al, kp, c, ps0, bd, pb, pq, rfl, hrow, hkp, HK, hb1⟩; obtain ⟨Lf, Ev, dg, hls, hpl, hev⟩ := list_pls hrow HK.out.1 HK.out.2.1 HK.out.2.2; obtain ⟨ps, HPS⟩ : ∃ ps, Hid (ps = ps0 ++ [pb, pq]) := ⟨_, rfl⟩; obtain ⟨k, HK2⟩ : ∃ k, Hid (k = kp + 2) := ⟨_, rfl⟩; rw [← HPS.out, ← HK2.out] at hpl; rw [← HK2.out]; have hkk : k ≤ 8 := by have := HK2.out; omega
 have HPL := Lib.hid hpl; have HKL : Hid (k = ps.length) := hpl.row.2.1; have hbw := hb1; have h4 := h4.below hb1; have h5 := h5.below hb1; clear h0 H0 hh hb hrow HK hls hpl hev hb1 HPS; go_wp2_with fail; refine (takeI_n A4 m4 c4 l4 6 _ h4 hc4 hd4 (by omega)).mono ?_; rintro e w2 ⟨vS, rfl, hoS, hb2⟩; obtain ⟨br, HBR⟩ : ∃ br, Hid (br = l4.take 6) := ⟨_, rfl⟩; obtain ⟨ks, HBK⟩ : ∃ ks, Hid (ks = br.length) := ⟨_, rfl⟩; obtain ⟨As, cs, rfl, hbr⟩ := own_intsN (by omega) HBR.out HBK.out hoS; have HPL := Lib.hid (HPL.out.below hb2); have h5 := h5.below hb2; have hbw := Below.tr hbw hb2; clear hb2 hoS h4 HBR HBK
 go_upto_region 4 with (first | (refine wpList_sliceN rfl 64 31 3 [(0, .tmp 36), (1, .tmp 37), (2, .tmp 38)] rfl (cellsDG zeroDG ++ cellsDG (byDG 1) ++ cellsDG (byDG 2)).toArray iD (.agg (cellsDG zeroDG).toArray) 16 [(0, (.agg (cellsDG zeroDG).toArray)), (1, (.agg (cellsDG (byDG 1)).toArray)), (2, (.agg (cellsDG (byDG 2)).toArray))] Tryz.underlying64 hiD hzD hzD1 (by omega) (by omega) rfl (fill_dg3 _ _ _) ?_; simp only [Act.put, sA, sB, sC]))
 refine wp_name ?_; intro w3 HW; have hb3 : Below w2.heap.size w2 w3 := by rw [HW.out]; exact bA _ _
 have BDD : Blk w3 w2.heap.size 31 (cellsDG zeroDG ++ cellsDG (byDG 1) ++ cellsDG (byDG 2)).toArray := by rw [HW.out]; exact Blk.new _ _ _
 obtain ⟨gD, hgD⟩ : ∃ g, Hid (g = w2.heap.size) := ⟨_, rfl⟩; rw [← hgD.out] at BDD ⊢; have hrd : RowS cellsDG w3 (some ⟨gD, 0, none⟩) 3 [byDG 0, byDG 1, byDG 2] := ⟨rd_blk BDD, rfl, by omega⟩; have HPL := Lib.hid (HPL.out.below hb3); have hbr := hbr.below hb3; have h5 := h5.below hb3; have hbw := Below.tr hbw hb3; clear HW BDD hb3 hgD; go_wp2_with fail; refine (around_n tick 26 _ ht.1 ht.2 (by omega) (by omega)).mono ?_; rintro e w' ⟨tn, rfl, htn, _, rfl⟩; obtain ⟨t2, HT⟩ : ∃ t : Int, Hid (t = (tn : Int) - 1) := ⟨_, rfl⟩; have hts : IntKind.i64.wrap ((tn : Int) - 1) = t2 := by rw [IntWalk.i64_in _ (by omega), HT.out]
 go_upto_region 5 with fail; refine wp_name ?_; intro w4 HW; have hb4 : Below w3.heap.size w3 w4 := by rw [HW.out]; exact bA _ _
 have BT : Blk w4 w3.heap.size 3 #[.int .i64 tick, .int .i64 t2] := by rw [HW.out]; exact Blk.new _ _ _
 obtain ⟨gT, hgT⟩ : ∃ g, Hid (g = w3.heap.size) := ⟨_, rfl⟩; rw [← hgT.out] at BT ⊢; have htk : RowS intC w4 (some ⟨gT, 0, none⟩) 2 [tick, t2] := ⟨rd_blk BT, rfl, by omega⟩; have HPL := Lib.hid (HPL.out.below hb4); have hbr := hbr.below hb4; have hrd := hrd.below hb4; have h5 := h5.below hb4; have hbw := Below.tr hbw hb4; clear HW BT hb4 hgT hts HT htn ht; obtain ⟨m, HM⟩ : ∃ m, Hid (m = min m5 3) := ⟨_, rfl⟩; have hm5 : m ≤ m5 := by rw [HM.out]; omega
 have hm3 : m ≤ 3 := by rw [HM.out]; omega
 have hmc : m ≤ c5 := by omega
 have hmin : min (m5 : Int) 3 = (m : Int) := by rw [HM.out]; omega
 have hr5 : Rd w4 A5 ((l5.take m).flatMap strC) := (h5.take_str34 m hm5).1; have hl5 : ((l5.take m).flatMap strC).length = m * 1 := by rw [flat_len strC_len, List.length_take]; have := h5.2.1; omega
 go_upto_region 6 with (first | (refine wpList_sliceB rfl 49 9 3 [(0, .const (.string { data := #[116, 48] })), (1, .const (.string { data := #[116, 49] })), (2, .const (.string { data := #[117] }))] rfl #[.string { data := #[116, 48] }, .string { data := #[116, 49] }, .string { data := #[117] }] iS (.string { data := #[] }) 1 [(0, .string { data := #[116, 48] }), (1, .string { data := #[116, 49] }), (2, .string { data := #[117] })] Tryz.underlying49 hiS hzS hzS1 (by omega) (by omega) rfl (fill_st3 _ _ _) ?_; intro g45 w45 B45 hb45; simp only [Act.put, sA, sB, sC]) | (refine wpList_sliceB rfl 49 9 3 [(0, .const (.string { data := #[116, 49] })), (1, .const (.string { data := #[116, 48] })), (2, .const (.string { data := #[116, 49] }))] rfl #[.string { data := #[116, 49] }, .string { data := #[116, 48] }, .string { data := #[116, 49] }] iS (.string { data := #[] }) 1 [(0, .string { data := #[116, 49] }), (1, .string { data := #[116, 48] }), (2, .string { data := #[116, 49] })] Tryz.underlying49 hiS hzS hzS1 (by omega) (by omega) rfl (fill_st3 _ _ _) ?_; intro g46 w46 B46 hb46; simp only [Act.put, sA, sB, sC]) | (refine wpList_sliceB rfl 49 9 1 [(0, .const (.string { data := #[116, 48] }))] rfl #[.string { data := #[116, 48] }] iS (.string { data := #[] }) 1 [(0, .string { data := #[116, 48] })] Tryz.underlying49 hiS hzS hzS1 (by omega) (by omega) rfl (fill_st1 _) ?_; intro g47 w47 B47 hb47; simp only [Act.put, sA, sB, sC]; have hsz47 := (bA w47 (.cells #[] 9)).size; have hr47 := hr5.below (Below.tr (Below.tr (Below.tr hb45 hb46) hb47) (bA w47 (.cells #[] 9)))) | (at_builtin; go_loud (refine wpList_append_any _ rfl (.tmp 48) (.tmp 53) _ rfl w47.heap.size 9 iS _ 1 16 Tryz.underlying49 hiS hzS hzS1 hzS2 rfl (by omega) _ 0 [] rfl (own_nil0 w47 9 1) A5 m c5 ((l5.take m).flatMap strC) rfl hl5 hr47 strs_one (by simp only [maxLen]; omega) (by omega) hsz47 ?_); intro v54 w54 hown54 hg54 hat54; obtain ⟨A54, c54, rfl⟩ := own_shp hown54))
 have hb54 : Below w47.heap.size w47 w54 := (bA w47 (.cells #[] 9)).grown hg54 hsz47 (own_block_ge (own_nil0 w47 9 1)); have hr54 : RowS strC w54 A54 m (l5.take m) := own_any strC_len (by omega) (by omega) (by simpa using hown54); refine wp_name ?_; intro w5 HW; have hb55 : Below w54.heap.size w54 w5 := by rw [HW.out]; exact bA _ _
 have BN : Blk w5 w54.heap.size 49 #[.slice (some ⟨g45, 0, none⟩) 3 3, .slice (some ⟨g46, 0, none⟩) 3 3, .slice (some ⟨g47, 0, none⟩) 1 1, .slice A54 m c54] := by rw [HW.out]; exact Blk.new _ _ _
 have hb75 := Below.tr hb54 hb55; have hb65 := Below.tr hb47 hb75; have hb85 := Below.tr hb46 hb65; have hb5 := Below.tr hb45 hb85
 have HNM : Hid (NmOk w5 w54.heap.size) := by
  refine NmOk.mk4 BN ⟨rd_blk (Blk.below B45 hb85 B45.lt), rfl, by omega⟩ ⟨rd_blk (Blk.below B46 hb65 B46.lt), rfl, by omega⟩ ⟨rd_blk (Blk.below B47 hb75 B47.lt), rfl, by omega⟩ (hr54.below hb55) (fun s hs => nm0_size hs) (fun s hs => nm1_size hs) (fun s hs => nm2_size hs) (fun s hs => HS5.out s (List.mem_of_mem_take hs))
 have HPL := Lib.hid (HPL.out.below hb5); have hbr := hbr.below hb5; have hrd := hrd.below hb5; have htk := htk.below hb5; have hbw := Below.tr hbw hb5; obtain ⟨gN, hgN⟩ : ∃ g, Hid (g = w54.heap.size) := ⟨_, rfl⟩; rw [← hgN.out] at HNM ⊢; clear HW hb55 BN hr54 hb75 hb65 hb85 hb5 hb54 hgN hown54 hg54 hat54 hsz47 hr47 hb45 hb46 hb47 B45 B46 B47 hr5 hl5 h5 HS5 hc5 hd5 HM hm5 hmc hmin; go_wp2_with fail
 go_loopg [18] 2 (fun mm x wr => ∃ i : Nat, x = .int .i64 i ∧ i + mm = 2 ∧ Below w5.heap.size w5 wr)
 case atStart => exact ⟨0, rfl, rfl, Below.refl _ _⟩
 case round =>
  obtain ⟨G, hG⟩ : ∃ G, G = gk := ⟨gk, rfl⟩; subst hG; obtain ⟨i, rfl, him, hbe1⟩ := hrel; by_cases hi : i < 2
  rotate_left
  ·have u1 : decide ((i : Int) < 2) = false := by simp; omega
   go_wp2_with fail; refine (lives34_n _).mono ?_; rintro e w9 ⟨rfl, hb9⟩; go_wp2_with fail; go_ret; exact ⟨rfl, Below.tr hbw (Below.tr hbe1 hb9)⟩
  have u1 : decide ((i : Int) < 2) = true := by simp; omega
  have li : (i : Int) < 2 := by omega
  obtain ⟨wi, hwi⟩ : ∃ x, x = wr := ⟨_, rfl⟩; subst hwi; go_wp2_with fail
  go_loopg [19] (k + 2) (fun mm x wr => ∃ q : Nat, x = .int .i64 ((q : Int) - 1) ∧ q + mm = k + 2 ∧ Below wi.heap.size wi wr)
  case atStart => exact ⟨0, rfl, by omega, Below.refl _ _⟩
  case round =>
   obtain ⟨G1, hG1⟩ : ∃ G, G = gk := ⟨gk, rfl⟩; subst hG1; obtain ⟨q, rfl, hqm, hbe2⟩ := hrel; by_cases hq : q < k + 2
   rotate_left
   ·have u2 : decide ((q : Int) - 1 ≤ (k : Int)) = false := by simp; omega
    obtain ⟨m01, hm01, hmle⟩ := bits_one how; have HM1 := Lib.hid hm01; obtain ⟨r, HR⟩ : ∃ r : Nat, Hid (r = 3 - m01) := ⟨_, rfl⟩; have hr3 : IntKind.i64.wrap (3 - (m01 : Int)) = (r : Int) := by rw [IntWalk.i64_in _ (by omega)]; have := HR.out; omega
    have hrl : r ≤ 3 := by have := HR.out; omega
    obtain ⟨wn, hwn⟩ : ∃ x, x = wr := ⟨_, rfl⟩; subst hwn; clear hm01 hmle HR; go_wp2_with fail
    go_loopg [25] 4 (fun mm x wr => ∃ v : Nat, x = .int .i64 v ∧ v + mm = 4 ∧ Below wn.heap.size wn wr)
    case atStart => exact ⟨0, rfl, rfl, Below.refl _ _⟩
    case round =>
     obtain ⟨G2, hG2⟩ : ∃ G, G = gk := ⟨gk, rfl⟩; subst hG2; obtain ⟨v, rfl, hvm, hbe3⟩ := hrel; by_cases hv : v < 4
     rotate_left
     ·have u3 : decide ((v : Int) < 4) = false := by simp; omega
      go_wp2_with fail
      go_roundg (G - 1)
      case measure => omega
      case rel => exact ⟨i + 1, by go_num, by omega, Below.tr hbe1 (Below.tr hbe2 hbe3)⟩
     have u3 : decide ((v : Int) < 4) = true := by simp; omega
     have lv : (v : Int) < 4 := by omega
     have hbj := Below.tr hbe1 (Below.tr hbe2 hbe3); go_upto_region 22 with fail; obtain ⟨bT, oT, ti, hA, hcT, HTI⟩ := (htk.below hbj).int hi; injection hA with hA; injection hA with hA1 hA2; subst hA1 hA2; rw [Nat.zero_add] at hcT; obtain ⟨An, kn, cn, nm, hcN, hnm, HNS⟩ := (HNM.out.below hbj) v hv; have hrr := rowS_take (hrd.below hbj) r hrl; have HPLj := Lib.hid (HPL.out.below hbj); have hbrj := hbr.below hbj; obtain ⟨er, HE1⟩ : ∃ er, Hid (acE kn r nm = er) := ⟨_, rfl⟩; obtain ⟨XI, HX1⟩ : ∃ XI, Hid (acI kn r ti br Ev Lf dg ps nm byL = XI) := ⟨_, rfl⟩; refine region_invF (PhiSt22 Al k c i v gT gN gD ti how m01 r An kn cn As ks cs er XI) (fun w w' => Below w.heap.size w w') (fun Y => Below wr.heap.size wr Y) (by kernel_rfl) (by kernel_rfl) (by kernel_rfl) PhiSt22.keep (fun _ _ hR hS => Below.tr hS hR) (bD _) (fun vs => by simp only [fillR, Act.put, sA, sB, sC, Nat.zero_add, Nat.reduceAdd]; rfl) ?_ ?_
     ·refine sK ?_ (sK ?_ (sK ?_ (sK ?_ (sK ?_ (sK ?_ (sK ?_ (sK ?_ (sK ?_ (sK ?_ (sK ?_ (sK ?_ (sK ?_ (sK ?_ (sK ?_ (sK ?_ (sK ?_ (sK ?_ (sK ?_ (sK ?_ (sK ?_ (sZ)))))))))))))))))))))
      ·as_aux_lemma =>
       intro vs W hS hdep K hK; refine ⟨?_⟩; simp only [Act.put, sA, sB, sC, Nat.zero_add, Nat.reduceAdd] at hK ⊢; go_simp; with_reducible refine hK _ _ (Below.refl _ _) ?_
       exact rfl
      ·as_aux_lemma =>
       intro vs W hS hdep K hK; refine ⟨?_⟩; simp only [Act.put, sA, sB, sC, Nat.zero_add, Nat.reduceAdd] at hK ⊢; go_simp; with_reducible refine hK _ _ (Below.refl _ _) ?_
       exact rfl
      ·as_aux_lemma =>
       intro vs W hS hdep K hK; refine ⟨?_⟩; simp only [Act.put, sA, sB, sC, Nat.zero_add, Nat.reduceAdd] at hK ⊢; go_simp; with_reducible refine hK _ _ (Below.refl _ _) ?_
       exact rfl
      ·as_aux_lemma =>
       intro vs W hS hdep K hK; have d0 := hdep ⟨1, .data⟩ (by simp) rfl; simp only [PhiSt22] at d0; have d1 := hdep ⟨2, .data⟩ (by simp) rfl; simp only [PhiSt22] at d1; refine ⟨?_⟩; simp only [Act.put, sA, sB, sC, Nat.zero_add, Nat.reduceAdd, d0, d1] at hK ⊢; go_simp; with_reducible refine hK _ _ (Below.refl _ _) ?_
       exact rfl
      ·as_aux_lemma =>
       intro vs W hS hdep K hK; have d0 := hdep ⟨3, .data⟩ (by simp) rfl; simp only [PhiSt22] at d0; have f1 := cell_keep hS hcT; refine ⟨?_⟩; simp only [Act.put, sA, sB, sC, Nat.zero_add, Nat.reduceAdd, d0] at hK ⊢; go_simp; with_reducible refine hK _ _ (Below.refl _ _) ?_
       exact rfl
      ·as_aux_lemma =>
       intro vs W hS hdep K hK; refine ⟨?_⟩; simp only [Act.put, sA, sB, sC, Nat.zero_add, Nat.reduceAdd] at hK ⊢; go_simp; with_reducible refine hK _ _ (Below.refl _ _) ?_
       exact rfl
      ·as_aux_lemma =>
       intro vs W hS hdep K hK; refine ⟨?_⟩; simp only [Act.put, sA, sB, sC, Nat.zero_add, Nat.reduceAdd] at hK ⊢; go_simp; with_reducible refine hK _ _ (Below.refl _ _) ?_
       exact rfl
      ·as_aux_lemma =>
       intro vs W hS hdep K hK; have d0 := hdep ⟨5, .data⟩ (by simp) rfl; simp only [PhiSt22] at d0; have d1 := hdep ⟨6, .data⟩ (by simp) rfl; simp only [PhiSt22] at d1; refine ⟨?_⟩; simp only [Act.put, sA, sB, sC, Nat.zero_add, Nat.reduceAdd, d0, d1] at hK ⊢; go_simp; with_reducible refine hK _ _ (Below.refl _ _) ?_
       exact rfl
      ·as_aux_lemma =>
       intro vs W hS hdep K hK; have d0 := hdep ⟨7, .data⟩ (by simp) rfl; simp only [PhiSt22] at d0; have f1 := cell_keep hS hcN; refine ⟨?_⟩; simp only [Act.put, sA, sB, sC, Nat.zero_add, Nat.reduceAdd, d0] at hK ⊢; go_simp; with_reducible refine hK _ _ (Below.refl _ _) ?_
       exact rfl
      ·as_aux_lemma =>
       intro vs W hS hdep K hK; refine ⟨?_⟩; simp only [Act.put, sA, sB, sC, Nat.zero_add, Nat.reduceAdd] at hK ⊢; go_simp; with_reducible refine hK _ _ (Below.refl _ _) ?_
       exact rfl
      ·as_aux_lemma =>
       intro vs W hS hdep K hK; refine ⟨?_⟩; simp only [Act.put, sA, sB, sC, Nat.zero_add, Nat.reduceAdd] at hK ⊢; go_simp; with_reducible refine hK _ _ (Below.refl _ _) ?_
       exact rfl
      ·as_aux_lemma =>
       intro vs W hS hdep K hK; have d0 := hdep ⟨10, .data⟩ (by simp) rfl; simp only [PhiSt22] at d0; have f1 := HM1.out; refine ⟨?_⟩; simp only [Act.put, sA, sB, sC, Nat.zero_add, Nat.reduceAdd, d0] at hK ⊢; go_simp; with_reducible refine hK _ _ (Below.refl _ _) ?_
       exact rfl
      ·as_aux_lemma =>
       intro vs W hS hdep K hK; have d0 := hdep ⟨11, .data⟩ (by simp) rfl; simp only [PhiSt22] at d0; have f1 := hr3; refine ⟨?_⟩; simp only [Act.put, sA, sB, sC, Nat.zero_add, Nat.reduceAdd, d0] at hK ⊢; go_simp; with_reducible refine hK _ _ (Below.refl _ _) ?_
       exact rfl
      ·as_aux_lemma =>
       intro vs W hS hdep K hK; have d0 := hdep ⟨9, .data⟩ (by simp) rfl; simp only [PhiSt22] at d0; have d1 := hdep ⟨12, .data⟩ (by simp) rfl; simp only [PhiSt22] at d1; have f1 : 0 ≤ (r : Int) := by omega
       have f2 : (r : Int) ≤ 3 := by omega
       refine ⟨?_⟩; simp only [Act.put, sA, sB, sC, Nat.zero_add, Nat.reduceAdd, d0, d1] at hK ⊢; go_simp; with_reducible refine hK _ _ (Below.refl _ _) ?_
       exact rfl
      ·as_aux_lemma =>
       intro vs W hS hdep K hK; refine ⟨?_⟩; simp only [Act.put, sA, sB, sC, Nat.zero_add, Nat.reduceAdd] at hK ⊢; go_simp; with_reducible refine hK _ _ (Below.refl _ _) ?_
       exact rfl
      ·as_aux_lemma =>
       intro vs W hS hdep K hK; have d0 := hdep ⟨0, .data⟩ (by simp) rfl; simp only [PhiSt22] at d0; have d1 := hdep ⟨4, .data⟩ (by simp) rfl; simp only [PhiSt22] at d1; have d2 := hdep ⟨8, .data⟩ (by simp) rfl; simp only [PhiSt22] at d2; have d3 := hdep ⟨13, .data⟩ (by simp) rfl; simp only [PhiSt22] at d3; have d4 := hdep ⟨14, .data⟩ (by simp) rfl; simp only [PhiSt22] at d4; refine ⟨?_⟩; simp only [Act.put, sA, sB, sC, Nat.zero_add, Nat.reduceAdd, d0, d1, d2, d3, d4] at hK ⊢; go_simp; refine (active_o Al k c ti An kn cn (some ⟨gD, 0, none⟩) r 3 As ks cs ps nm ([byDG 0, byDG 1, byDG 2].take r) br Lf Ev dg byL _ (HPLj.out.below hS) (by omega) (hnm.below hS) (hrr.below hS) (hbrj.below hS) HNS byD3_ok).mono ?_; rintro e w' ⟨Aa, ka, ca, rfl, hr, hb⟩; go_wp2_with fail; with_reducible refine hK _ _ hb ?_
       exact ⟨Aa, ka, ca, by rw [HE1.out], by rw [← HX1.out]; exact hr⟩
      ·as_aux_lemma =>
       intro vs W hS hdep K hK; have d0 := hdep ⟨15, .data⟩ (by simp) rfl; simp only [PhiSt22] at d0; refine @exE3 _ _ _ _ _ d0 ?_; clear d0; intro A0 k0 c0 d0; have e0 := d0.1; have n0 := d0.2; clear d0; refine ⟨?_⟩; simp only [Act.put, sA, sB, sC, Nat.zero_add, Nat.reduceAdd, e0] at hK ⊢; go_simp; with_reducible refine hK _ _ (Below.refl _ _) ?_
       exact ⟨_, _, _, rfl, n0⟩
      ·as_aux_lemma =>
       intro vs W hS hdep K hK; have d0 := hdep ⟨16, .data⟩ (by simp) rfl; simp only [PhiSt22] at d0; refine @exE3 _ _ _ _ _ d0 ?_; clear d0; intro A0 k0 c0 d0; have e0 := d0.1; have n0 := d0.2; clear d0; refine ⟨?_⟩; simp only [Act.put, sA, sB, sC, Nat.zero_add, Nat.reduceAdd, e0] at hK ⊢; go_simp; with_reducible refine hK _ _ (Below.refl _ _) ?_
       exact ⟨_, _, _, rfl, n0⟩
      ·as_aux_lemma =>
       intro vs W hS hdep K hK; have d0 := hdep ⟨16, .data⟩ (by simp) rfl; simp only [PhiSt22] at d0; refine @exE3 _ _ _ _ _ d0 ?_; clear d0; intro A0 k0 c0 d0; have e0 := d0.1; have n0 := d0.2; clear d0; refine ⟨?_⟩; simp only [Act.put, sA, sB, sC, Nat.zero_add, Nat.reduceAdd, e0] at hK ⊢; go_simp; with_reducible refine hK _ _ (Below.refl _ _) ?_
       exact rfl
      ·as_aux_lemma =>
       intro vs W hS hdep K hK; have d0 := hdep ⟨17, .data⟩ (by simp) rfl; simp only [PhiSt22] at d0; refine @exE3 _ _ _ _ _ d0 ?_; clear d0; intro A0 k0 c0 d0; have e0 := d0.1; have n0 := d0.2; clear d0; refine ⟨?_⟩; simp only [Act.put, sA, sB, sC, Nat.zero_add, Nat.reduceAdd, e0] at hK ⊢; go_simp; with_reducible refine hK _ _ (Below.refl _ _) ?_
       exact ⟨_, _, _, rfl, n0⟩
      ·as_aux_lemma =>
       intro vs W hS hdep K hK; have d0 := hdep ⟨18, .data⟩ (by simp) rfl; simp only [PhiSt22] at d0; refine ⟨?_⟩; simp only [Act.put, sA, sB, sC, Nat.zero_add, Nat.reduceAdd, d0] at hK ⊢; go_simp; with_reducible refine hK _ _ (Below.refl _ _) ?_
       exact rfl
     ·intro vs w6 hS6 hv6; have u19 := hv6 19 (by simp); have u20 := hv6 20 (by simp); simp only [PhiSt22] at u19 u20; obtain ⟨A1, k1, c1, u19, hX1⟩ := u19; simp only [Act.put, sA, sB, sC, Nat.zero_add, Nat.reduceAdd, u19, u20]; have hcT := cell_keep hS6 hcT; have hcN := cell_keep hS6 hcN; have hnm := hnm.below hS6; have hrr := hrr.below hS6; have HPLj := Lib.hid (HPLj.out.below hS6); have hbrj := hbrj.below hS6; have hbe3 := Below.tr hbe3 hS6; clear u19 u20 hv6 hS6; go_upto_region 23 with fail; refine region_invF (PhiSt22 Al k c i v gT gN gD ti how m01 r An kn cn As ks cs er XI) (fun w w' => Below w.heap.size w w') (fun Y => Below w6.heap.size w6 Y) (by kernel_rfl) (by kernel_rfl) (by kernel_rfl) PhiSt22.keep (fun _ _ hR hS => Below.tr hS hR) (bD _) (fun vs => by simp only [fillR, Act.put, sA, sB, sC, Nat.zero_add, Nat.reduceAdd]; rfl) ?_ ?_
      ·refine sK ?_ (sK ?_ (sK ?_ (sK ?_ (sK ?_ (sK ?_ (sK ?_ (sK ?_ (sK ?_ (sK ?_ (sK ?_ (sK ?_ (sK ?_ (sK ?_ (sK ?_ (sK ?_ (sK ?_ (sK ?_ (sK ?_ (sK ?_ (sK ?_ (sZ)))))))))))))))))))))
       ·as_aux_lemma =>
        intro vs W hS hdep K hK; refine ⟨?_⟩; simp only [Act.put, sA, sB, sC, Nat.zero_add, Nat.reduceAdd] at hK ⊢; go_simp; with_reducible refine hK _ _ (Below.refl _ _) ?_
        exact rfl
       ·as_aux_lemma =>
        intro vs W hS hdep K hK; refine ⟨?_⟩; simp only [Act.put, sA, sB, sC, Nat.zero_add, Nat.reduceAdd] at hK ⊢; go_simp; with_reducible refine hK _ _ (Below.refl _ _) ?_
        exact rfl
       ·as_aux_lemma =>
        intro vs W hS hdep K hK; refine ⟨?_⟩; simp only [Act.put, sA, sB, sC, Nat.zero_add, Nat.reduceAdd] at hK ⊢; go_simp; with_reducible refine hK _ _ (Below.refl _ _) ?_
        exact rfl
       ·as_aux_lemma =>
        intro vs W hS hdep K hK; have d0 := hdep ⟨1, .data⟩ (by simp) rfl; simp only [PhiSt22] at d0; have d1 := hdep ⟨2, .data⟩ (by simp) rfl; simp only [PhiSt22] at d1; refine ⟨?_⟩; simp only [Act.put, sA, sB, sC, Nat.zero_add, Nat.reduceAdd, d0, d1] at hK ⊢; go_simp; with_reducible refine hK _ _ (Below.refl _ _) ?_
        exact rfl
       ·as_aux_lemma =>
        intro vs W hS hdep K hK; have d0 := hdep ⟨3, .data⟩ (by simp) rfl; simp only [PhiSt22] at d0; have f1 := cell_keep hS hcT; refine ⟨?_⟩; simp only [Act.put, sA, sB, sC, Nat.zero_add, Nat.reduceAdd, d0] at hK ⊢; go_simp; with_reducible refine hK _ _ (Below.refl _ _) ?_
        exact rfl
       ·as_aux_lemma =>
        intro vs W hS hdep K hK; refine ⟨?_⟩; simp only [Act.put, sA, sB, sC, Nat.zero_add, Nat.reduceAdd] at hK ⊢; go_simp; with_reducible refine hK _ _ (Below.refl _ _) ?_
        exact rfl
       ·as_aux_lemma =>
        intro vs W hS hdep K hK; refine ⟨?_⟩; simp only [Act.put, sA, sB, sC, Nat.zero_add, Nat.reduceAdd] at hK ⊢; go_simp; with_reducible refine hK _ _ (Below.refl _ _) ?_
        exact rfl
       ·as_aux_lemma =>
        intro vs W hS hdep K hK; have d0 := hdep ⟨5, .data⟩ (by simp) rfl; simp only [PhiSt22] at d0; have d1 := hdep ⟨6, .data⟩ (by simp) rfl; simp only [PhiSt22] at d1; refine ⟨?_⟩; simp only [Act.put, sA, sB, sC, Nat.zero_add, Nat.reduceAdd, d0, d1] at hK ⊢; go_simp; with_reducible refine hK _ _ (Below.refl _ _) ?_
        exact rfl
       ·as_aux_lemma =>
        intro vs W hS hdep K hK; have d0 := hdep ⟨7, .data⟩ (by simp) rfl; simp only [PhiSt22] at d0; have f1 := cell_keep hS hcN; refine ⟨?_⟩; simp only [Act.put, sA, sB, sC, Nat.zero_add, Nat.reduceAdd, d0] at hK ⊢; go_simp; with_reducible refine hK _ _ (Below.refl _ _) ?_
        exact rfl
       ·as_aux_lemma =>
        intro vs W hS hdep K hK; refine ⟨?_⟩; simp only [Act.put, sA, sB, sC, Nat.zero_add, Nat.reduceAdd] at hK ⊢; go_simp; with_reducible refine hK _ _ (Below.refl _ _) ?_
        exact rfl
       ·as_aux_lemma =>
        intro vs W hS hdep K hK; refine ⟨?_⟩; simp only [Act.put, sA, sB, sC, Nat.zero_add, Nat.reduceAdd] at hK ⊢; go_simp; with_reducible refine hK _ _ (Below.refl _ _) ?_
        exact rfl
       ·as_aux_lemma =>
        intro vs W hS hdep K hK; have d0 := hdep ⟨10, .data⟩ (by simp) rfl; simp only [PhiSt22] at d0; have f1 := HM1.out; refine ⟨?_⟩; simp only [Act.put, sA, sB, sC, Nat.zero_add, Nat.reduceAdd, d0] at hK ⊢; go_simp; with_reducible refine hK _ _ (Below.refl _ _) ?_
        exact rfl
       ·as_aux_lemma =>
        intro vs W hS hdep K hK; have d0 := hdep ⟨11, .data⟩ (by simp) rfl; simp only [PhiSt22] at d0; have f1 := hr3; refine ⟨?_⟩; simp only [Act.put, sA, sB, sC, Nat.zero_add, Nat.reduceAdd, d0] at hK ⊢; go_simp; with_reducible refine hK _ _ (Below.refl _ _) ?_
        exact rfl
       ·as_aux_lemma =>
        intro vs W hS hdep K hK; have d0 := hdep ⟨9, .data⟩ (by simp) rfl; simp only [PhiSt22] at d0; have d1 := hdep ⟨12, .data⟩ (by simp) rfl; simp only [PhiSt22] at d1; have f1 : 0 ≤ (r : Int) := by omega
        have f2 : (r : Int) ≤ 3 := by omega
        refine ⟨?_⟩; simp only [Act.put, sA, sB, sC, Nat.zero_add, Nat.reduceAdd, d0, d1] at hK ⊢; go_simp; with_reducible refine hK _ _ (Below.refl _ _) ?_
        exact rfl
       ·as_aux_lemma =>
        intro vs W hS hdep K hK; refine ⟨?_⟩; simp only [Act.put, sA, sB, sC, Nat.zero_add, Nat.reduceAdd] at hK ⊢; go_simp; with_reducible refine hK _ _ (Below.refl _ _) ?_
        exact rfl
       ·as_aux_lemma =>
        intro vs W hS hdep K hK; have d0 := hdep ⟨0, .data⟩ (by simp) rfl; simp only [PhiSt22] at d0; have d1 := hdep ⟨4, .data⟩ (by simp) rfl; simp only [PhiSt22] at d1; have d2 := hdep ⟨8, .data⟩ (by simp) rfl; simp only [PhiSt22] at d2; have d3 := hdep ⟨13, .data⟩ (by simp) rfl; simp only [PhiSt22] at d3; have d4 := hdep ⟨14, .data⟩ (by simp) rfl; simp only [PhiSt22] at d4; refine ⟨?_⟩; simp only [Act.put, sA, sB, sC, Nat.zero_add, Nat.reduceAdd, d0, d1, d2, d3, d4] at hK ⊢; go_simp; refine (ractive_o Al k c ti An kn cn (some ⟨gD, 0, none⟩) r 3 As ks cs ps nm ([byDG 0, byDG 1, byDG 2].take r) br Lf Ev dg byL _ (HPLj.out.below hS) (by omega) (hnm.below hS) (hrr.below hS) (hbrj.below hS) HNS byD3_ok).mono ?_; rintro e w' ⟨Aa, ka, ca, rfl, hr, hb⟩; go_wp2_with fail; with_reducible refine hK _ _ hb ?_
        exact ⟨Aa, ka, ca, by rw [HE1.out], by rw [← HX1.out]; exact hr⟩
       ·as_aux_lemma =>
        intro vs W hS hdep K hK; have d0 := hdep ⟨15, .data⟩ (by simp) rfl; simp only [PhiSt22] at d0; refine @exE3 _ _ _ _ _ d0 ?_; clear d0; intro A0 k0 c0 d0; have e0 := d0.1; have n0 := d0.2; clear d0; refine ⟨?_⟩; simp only [Act.put, sA, sB, sC, Nat.zero_add, Nat.reduceAdd, e0] at hK ⊢; go_simp; with_reducible refine hK _ _ (Below.refl _ _) ?_
        exact ⟨_, _, _, rfl, n0⟩
       ·as_aux_lemma =>
        intro vs W hS hdep K hK; have d0 := hdep ⟨16, .data⟩ (by simp) rfl; simp only [PhiSt22] at d0; refine @exE3 _ _ _ _ _ d0 ?_; clear d0; intro A0 k0 c0 d0; have e0 := d0.1; have n0 := d0.2; clear d0; refine ⟨?_⟩; simp only [Act.put, sA, sB, sC, Nat.zero_add, Nat.reduceAdd, e0] at hK ⊢; go_simp; with_reducible refine hK _ _ (Below.refl _ _) ?_
        exact ⟨_, _, _, rfl, n0⟩
       ·as_aux_lemma =>
        intro vs W hS hdep K hK; have d0 := hdep ⟨16, .data⟩ (by simp) rfl; simp only [PhiSt22] at d0; refine @exE3 _ _ _ _ _ d0 ?_; clear d0; intro A0 k0 c0 d0; have e0 := d0.1; have n0 := d0.2; clear d0; refine ⟨?_⟩; simp only [Act.put, sA, sB, sC, Nat.zero_add, Nat.reduceAdd, e0] at hK ⊢; go_simp; with_reducible refine hK _ _ (Below.refl _ _) ?_
        exact rfl
       ·as_aux_lemma =>
        intro vs W hS hdep K hK; have d0 := hdep ⟨17, .data⟩ (by simp) rfl; simp only [PhiSt22] at d0; refine @exE3 _ _ _ _ _ d0 ?_; clear d0; intro A0 k0 c0 d0; have e0 := d0.1; have n0 := d0.2; clear d0; refine ⟨?_⟩; simp only [Act.put, sA, sB, sC, Nat.zero_add, Nat.reduceAdd, e0] at hK ⊢; go_simp; with_reducible refine hK _ _ (Below.refl _ _) ?_
        exact ⟨_, _, _, rfl, n0⟩
       ·as_aux_lemma =>
        intro vs W hS hdep K hK; have d0 := hdep ⟨18, .data⟩ (by simp) rfl; simp only [PhiSt22] at d0; refine ⟨?_⟩; simp only [Act.put, sA, sB, sC, Nat.zero_add, Nat.reduceAdd, d0] at hK ⊢; go_simp; with_reducible refine hK _ _ (Below.refl _ _) ?_
        exact rfl
      ·intro vs w7 hS7 hv7; have u19 := hv7 19 (by simp); have u20 := hv7 20 (by simp); simp only [PhiSt22] at u19 u20; obtain ⟨A2, k2, c2, u19, hX2⟩ := u19; simp only [Act.put, sA, sB, sC, Nat.zero_add, Nat.reduceAdd, u19, u20]; have hX1 := hX1.below hS7; have hbe3 := Below.tr hbe3 hS7; clear u19 u20 hv7 hS7 hcT hcN hnm hrr HPLj hbrj; have hee : (er != er) = false := by simp
       have hdd : decide (XI = XI) = true := by simp
       go_wp2_with fail; refine (ints_n A1 A2 k1 c1 k2 c2 XI XI _ hX1 hX2).mono ?_; rintro e w8 ⟨rfl, hb8⟩; have hbe3 := Below.tr hbe3 hb8; clear hX1 hX2 hb8; go_wp2_with fail
       go_roundg (G2 - 1)
       case measure => omega
       case rel => exact ⟨v + 1, by go_num, by omega, hbe3⟩
   have u2 : decide ((q : Int) - 1 ≤ (k : Int)) = true := by simp; omega
   obtain ⟨wk, hwk⟩ : ∃ x, x = wr := ⟨_, rfl⟩; subst hwk; go_wp2_with fail
   go_loopg [20] 3 (fun mm x wr => ∃ j : Nat, x = .int .i64 j ∧ j + mm = 3 ∧ Below wk.heap.size wk wr)
   case atStart => exact ⟨0, rfl, rfl, Below.refl _ _⟩
   case round =>
    obtain ⟨G2, hG2⟩ : ∃ G, G = gk := ⟨gk, rfl⟩; subst hG2; obtain ⟨j, rfl, hjm, hbe3⟩ := hrel; by_cases hj : j < 3
    rotate_left
    ·have u3 : decide ((j : Int) < 3) = false := by simp; omega
     have hs1 : IntKind.i64.wrap ((q : Int) - 1 + 1) = ((q + 1 : Nat) : Int) - 1 := by rw [IntWalk.i64_in _ (by omega)]; omega
     go_wp2_with fail
     go_roundg (G1 - 1)
     case measure => omega
     case rel => exact ⟨q + 1, by first | rfl | (congr 1; omega) | simp, by omega, Below.tr hbe2 hbe3⟩
    have u3 : decide ((j : Int) < 3) = true := by simp; omega
    have lj : (j : Int) < 3 := by omega
    have hbj := Below.tr hbe1 (Below.tr hbe2 hbe3); go_upto_region 15 with fail; obtain ⟨bT, oT, ti, hA, hcT, HTI⟩ := (htk.below hbj).int hi; injection hA with hA; injection hA with hA1 hA2; subst hA1 hA2; rw [Nat.zero_add] at hcT; obtain ⟨bD, oD, hA, HCD⟩ := (hrd.below hbj).at_ cellsDG_len (by omega) hj (by simp; omega); injection hA with hA; injection hA with hA1 hA2; subst hA1 hA2
    have HDJ : Hid ([byDG 0, byDG 1, byDG 2][j]'(by simp; omega) = byDG j) := by
     show _ = _
     have hc : j = 0 ∨ j = 1 ∨ j = 2 := by omega
     rcases hc with rfl | rfl | rfl <;> rfl
    rw [HDJ.out] at HCD; simp only [Nat.zero_add] at HCD; have HPLj := Lib.hid (HPL.out.below hbj); have hbrj := hbr.below hbj; obtain ⟨z, HZ⟩ : ∃ z, Hid (stO k ti (byL j) br Ev Lf dg ps ((q : Int) - 1) = z) := ⟨_, rfl⟩; refine region_invF (PhiSt15 Al k c q i j gT gD ti As ks cs z) (fun w w' => Below w.heap.size w w') (fun Y => Below wr.heap.size wr Y) (by kernel_rfl) (by kernel_rfl) (by kernel_rfl) PhiSt15.keep (fun _ _ hR hS => Below.tr hS hR) (bD _) (fun vs => by simp only [fillR, Act.put, sA, sB, sC, Nat.zero_add, Nat.reduceAdd]; rfl) ?_ ?_
    ·refine sK ?_ (sK ?_ (sK ?_ (sK ?_ (sK ?_ (sK ?_ (sK ?_ (sK ?_ (sK ?_ (sK ?_ (sK ?_ (sK ?_ (sK ?_ (sK ?_ (sK ?_ (sK ?_ (sK ?_ (sZ)))))))))))))))))
     ·as_aux_lemma =>
      intro vs W hS hdep K hK; refine ⟨?_⟩; simp only [Act.put, sA, sB, sC, Nat.zero_add, Nat.reduceAdd] at hK ⊢; go_simp; with_reducible refine hK _ _ (Below.refl _ _) ?_
      exact rfl
     ·as_aux_lemma =>
      intro vs W hS hdep K hK; refine ⟨?_⟩; simp only [Act.put, sA, sB, sC, Nat.zero_add, Nat.reduceAdd] at hK ⊢; go_simp; with_reducible refine hK _ _ (Below.refl _ _) ?_
      exact rfl
     ·as_aux_lemma =>
      intro vs W hS hdep K hK; refine ⟨?_⟩; simp only [Act.put, sA, sB, sC, Nat.zero_add, Nat.reduceAdd] at hK ⊢; go_simp; with_reducible refine hK _ _ (Below.refl _ _) ?_
      exact rfl
     ·as_aux_lemma =>
      intro vs W hS hdep K hK; refine ⟨?_⟩; simp only [Act.put, sA, sB, sC, Nat.zero_add, Nat.reduceAdd] at hK ⊢; go_simp; with_reducible refine hK _ _ (Below.refl _ _) ?_
      exact rfl
     ·as_aux_lemma =>
      intro vs W hS hdep K hK; have d0 := hdep ⟨2, .data⟩ (by simp) rfl; simp only [PhiSt15] at d0; have d1 := hdep ⟨3, .data⟩ (by simp) rfl; simp only [PhiSt15] at d1; refine ⟨?_⟩; simp only [Act.put, sA, sB, sC, Nat.zero_add, Nat.reduceAdd, d0, d1] at hK ⊢; go_simp; with_reducible refine hK _ _ (Below.refl _ _) ?_
      exact rfl
     ·as_aux_lemma =>
      intro vs W hS hdep K hK; have d0 := hdep ⟨4, .data⟩ (by simp) rfl; simp only [PhiSt15] at d0; have f1 := cell_keep hS hcT; refine ⟨?_⟩; simp only [Act.put, sA, sB, sC, Nat.zero_add, Nat.reduceAdd, d0] at hK ⊢; go_simp; with_reducible refine hK _ _ (Below.refl _ _) ?_
      exact rfl
     ·as_aux_lemma =>
      intro vs W hS hdep K hK; refine ⟨?_⟩; simp only [Act.put, sA, sB, sC, Nat.zero_add, Nat.reduceAdd] at hK ⊢; go_simp; with_reducible refine hK _ _ (Below.refl _ _) ?_
      exact rfl
     ·as_aux_lemma =>
      intro vs W hS hdep K hK; refine ⟨?_⟩; simp only [Act.put, sA, sB, sC, Nat.zero_add, Nat.reduceAdd] at hK ⊢; go_simp; with_reducible refine hK _ _ (Below.refl _ _) ?_
      exact rfl
     ·as_aux_lemma =>
      intro vs W hS hdep K hK; have d0 := hdep ⟨6, .data⟩ (by simp) rfl; simp only [PhiSt15] at d0; have d1 := hdep ⟨7, .data⟩ (by simp) rfl; simp only [PhiSt15] at d1; refine ⟨?_⟩; simp only [Act.put, sA, sB, sC, Nat.zero_add, Nat.reduceAdd, d0, d1] at hK ⊢; go_simp; with_reducible refine hK _ _ (Below.refl _ _) ?_
      exact rfl
     ·as_aux_lemma =>
      intro vs W hS hdep K hK; have d0 := hdep ⟨8, .data⟩ (by simp) rfl; simp only [PhiSt15] at d0; refine ⟨?_⟩; simp only [Act.put, sA, sB, sC, Nat.zero_add, Nat.reduceAdd, d0] at hK ⊢; rw [if_pos (by rfl)]; refine wp_load_mid 31 (.tmp 79) (by rfl) gD (j * 16) (by rfl) (cellsDG (byDG j)) _ (fun j v h => cell_keep hS (HCD.out j v h)) Tryz.underlying31 (by rfl) infoDG ?_; simp only [Act.put, sA, sB, sC]; with_reducible refine hK _ _ (Below.refl _ _) ?_
      exact rfl
     ·as_aux_lemma =>
      intro vs W hS hdep K hK; refine ⟨?_⟩; simp only [Act.put, sA, sB, sC, Nat.zero_add, Nat.reduceAdd] at hK ⊢; go_simp; with_reducible refine hK _ _ (Below.refl _ _) ?_
      exact rfl
     ·as_aux_lemma =>
      intro vs W hS hdep K hK; have d0 := hdep ⟨0, .data⟩ (by simp) rfl; simp only [PhiSt15] at d0; have d1 := hdep ⟨1, .data⟩ (by simp) rfl; simp only [PhiSt15] at d1; have d2 := hdep ⟨5, .data⟩ (by simp) rfl; simp only [PhiSt15] at d2; have d3 := hdep ⟨9, .data⟩ (by simp) rfl; simp only [PhiSt15] at d3; have d4 := hdep ⟨10, .data⟩ (by simp) rfl; simp only [PhiSt15] at d4; refine ⟨?_⟩; simp only [Act.put, sA, sB, sC, Nat.zero_add, Nat.reduceAdd, d0, d1, d2, d3, d4] at hK ⊢; go_simp; refine (state_o Al k c ((q : Int) - 1) ti (byDG j) ps Lf Ev dg (byL j) br As ks cs _ (HPLj.out.below hS) (byDG_ok j) (hbrj.below hS)).mono ?_; rintro e w' ⟨rfl, hb⟩; rw [HZ.out]; go_wp2_with fail; with_reducible refine hK _ _ hb ?_
      exact rfl
     ·as_aux_lemma =>
      intro vs W hS hdep K hK; have d0 := hdep ⟨11, .data⟩ (by simp) rfl; simp only [PhiSt15] at d0; refine ⟨?_⟩; simp only [Act.put, sA, sB, sC, Nat.zero_add, Nat.reduceAdd, d0] at hK ⊢; go_simp; with_reducible refine hK _ _ (Below.refl _ _) ?_
      exact rfl
     ·as_aux_lemma =>
      intro vs W hS hdep K hK; have d0 := hdep ⟨12, .data⟩ (by simp) rfl; simp only [PhiSt15] at d0; refine ⟨?_⟩; simp only [Act.put, sA, sB, sC, Nat.zero_add, Nat.reduceAdd, d0] at hK ⊢; go_simp; with_reducible refine hK _ _ (Below.refl _ _) ?_
      exact rfl
     ·as_aux_lemma =>
      intro vs W hS hdep K hK; have d0 := hdep ⟨12, .data⟩ (by simp) rfl; simp only [PhiSt15] at d0; refine ⟨?_⟩; simp only [Act.put, sA, sB, sC, Nat.zero_add, Nat.reduceAdd, d0] at hK ⊢; go_simp; with_reducible refine hK _ _ (Below.refl _ _) ?_
      exact rfl
     ·as_aux_lemma =>
      intro vs W hS hdep K hK; have d0 := hdep ⟨13, .data⟩ (by simp) rfl; simp only [PhiSt15] at d0; refine ⟨?_⟩; simp only [Act.put, sA, sB, sC, Nat.zero_add, Nat.reduceAdd, d0] at hK ⊢; go_simp; with_reducible refine hK _ _ (Below.refl _ _) ?_
      exact rfl
     ·as_aux_lemma =>
      intro vs W hS hdep K hK; have d0 := hdep ⟨14, .data⟩ (by simp) rfl; simp only [PhiSt15] at d0; refine ⟨?_⟩; simp only [Act.put, sA, sB, sC, Nat.zero_add, Nat.reduceAdd, d0] at hK ⊢; go_simp; with_reducible refine hK _ _ (Below.refl _ _) ?_
      exact rfl
    ·intro vs w6 hS6 hv6; have u15 := hv6 15 (by simp); have u16 := hv6 16 (by simp); simp only [PhiSt15] at u15 u16; simp only [Act.put, sA, sB, sC, Nat.zero_add, Nat.reduceAdd, u15, u16]; have hcT := cell_keep hS6 hcT; have HCD : Hid (∀ j_ v, (cellsDG (byDG j))[j_]? = some v → w6.cell? ⟨gD, j * 16 + j_, none⟩ = some v) := fun j_ v h => cell_keep hS6 (HCD.out j_ v h)
     have HPLj := Lib.hid (HPLj.out.below hS6); have hbrj := hbrj.below hS6; have hbe3 := Below.tr hbe3 hS6; clear u15 u16 hv6 hS6; go_upto_region 16 with fail; refine region_invF (PhiSt15 Al k c q i j gT gD ti As ks cs z) (fun w w' => Below w.heap.size w w') (fun Y => Below w6.heap.size w6 Y) (by kernel_rfl) (by kernel_rfl) (by kernel_rfl) PhiSt15.keep (fun _ _ hR hS => Below.tr hS hR) (bD _) (fun vs => by simp only [fillR, Act.put, sA, sB, sC, Nat.zero_add, Nat.reduceAdd]; rfl) ?_ ?_
     ·refine sK ?_ (sK ?_ (sK ?_ (sK ?_ (sK ?_ (sK ?_ (sK ?_ (sK ?_ (sK ?_ (sK ?_ (sK ?_ (sK ?_ (sK ?_ (sK ?_ (sK ?_ (sK ?_ (sK ?_ (sZ)))))))))))))))))
      ·as_aux_lemma =>
       intro vs W hS hdep K hK; refine ⟨?_⟩; simp only [Act.put, sA, sB, sC, Nat.zero_add, Nat.reduceAdd] at hK ⊢; go_simp; with_reducible refine hK _ _ (Below.refl _ _) ?_
       exact rfl
      ·as_aux_lemma =>
       intro vs W hS hdep K hK; refine ⟨?_⟩; simp only [Act.put, sA, sB, sC, Nat.zero_add, Nat.reduceAdd] at hK ⊢; go_simp; with_reducible refine hK _ _ (Below.refl _ _) ?_
       exact rfl
      ·as_aux_lemma =>
       intro vs W hS hdep K hK; refine ⟨?_⟩; simp only [Act.put, sA, sB, sC, Nat.zero_add, Nat.reduceAdd] at hK ⊢; go_simp; with_reducible refine hK _ _ (Below.refl _ _) ?_
       exact rfl
      ·as_aux_lemma =>
       intro vs W hS hdep K hK; refine ⟨?_⟩; simp only [Act.put, sA, sB, sC, Nat.zero_add, Nat.reduceAdd] at hK ⊢; go_simp; with_reducible refine hK _ _ (Below.refl _ _) ?_
       exact rfl
      ·as_aux_lemma =>
       intro vs W hS hdep K hK; have d0 := hdep ⟨2, .data⟩ (by simp) rfl; simp only [PhiSt15] at d0; have d1 := hdep ⟨3, .data⟩ (by simp) rfl; simp only [PhiSt15] at d1; refine ⟨?_⟩; simp only [Act.put, sA, sB, sC, Nat.zero_add, Nat.reduceAdd, d0, d1] at hK ⊢; go_simp; with_reducible refine hK _ _ (Below.refl _ _) ?_
       exact rfl
      ·as_aux_lemma =>
       intro vs W hS hdep K hK; have d0 := hdep ⟨4, .data⟩ (by simp) rfl; simp only [PhiSt15] at d0; have f1 := cell_keep hS hcT; refine ⟨?_⟩; simp only [Act.put, sA, sB, sC, Nat.zero_add, Nat.reduceAdd, d0] at hK ⊢; go_simp; with_reducible refine hK _ _ (Below.refl _ _) ?_
       exact rfl
      ·as_aux_lemma =>
       intro vs W hS hdep K hK; refine ⟨?_⟩; simp only [Act.put, sA, sB, sC, Nat.zero_add, Nat.reduceAdd] at hK ⊢; go_simp; with_reducible refine hK _ _ (Below.refl _ _) ?_
       exact rfl
      ·as_aux_lemma =>
       intro vs W hS hdep K hK; refine ⟨?_⟩; simp only [Act.put, sA, sB, sC, Nat.zero_add, Nat.reduceAdd] at hK ⊢; go_simp; with_reducible refine hK _ _ (Below.refl _ _) ?_
       exact rfl
      ·as_aux_lemma =>
       intro vs W hS hdep K hK; have d0 := hdep ⟨6, .data⟩ (by simp) rfl; simp only [PhiSt15] at d0; have d1 := hdep ⟨7, .data⟩ (by simp) rfl; simp only [PhiSt15] at d1; refine ⟨?_⟩; simp only [Act.put, sA, sB, sC, Nat.zero_add, Nat.reduceAdd, d0, d1] at hK ⊢; go_simp; with_reducible refine hK _ _ (Below.refl _ _) ?_
       exact rfl
      ·as_aux_lemma =>
       intro vs W hS hdep K hK; have d0 := hdep ⟨8, .data⟩ (by simp) rfl; simp only [PhiSt15] at d0; refine ⟨?_⟩; simp only [Act.put, sA, sB, sC, Nat.zero_add, Nat.reduceAdd, d0] at hK ⊢; rw [if_pos (by rfl)]; refine wp_load_mid 31 (.tmp 94) (by rfl) gD (j * 16) (by rfl) (cellsDG (byDG j)) _ (fun j v h => cell_keep hS (HCD.out j v h)) Tryz.underlying31 (by rfl) infoDG ?_; simp only [Act.put, sA, sB, sC]; with_reducible refine hK _ _ (Below.refl _ _) ?_
       exact rfl
      ·as_aux_lemma =>
       intro vs W hS hdep K hK; refine ⟨?_⟩; simp only [Act.put, sA, sB, sC, Nat.zero_add, Nat.reduceAdd] at hK ⊢; go_simp; with_reducible refine hK _ _ (Below.refl _ _) ?_
       exact rfl
      ·as_aux_lemma =>
       intro vs W hS hdep K hK; have d0 := hdep ⟨0, .data⟩ (by simp) rfl; simp only [PhiSt15] at d0; have d1 := hdep ⟨1, .data⟩ (by simp) rfl; simp only [PhiSt15] at d1; have d2 := hdep ⟨5, .data⟩ (by simp) rfl; simp only [PhiSt15] at d2; have d3 := hdep ⟨9, .data⟩ (by simp) rfl; simp only [PhiSt15] at d3; have d4 := hdep ⟨10, .data⟩ (by simp) rfl; simp only [PhiSt15] at d4; refine ⟨?_⟩; simp only [Act.put, sA, sB, sC, Nat.zero_add, Nat.reduceAdd, d0, d1, d2, d3, d4] at hK ⊢; go_simp; refine (rstate_o Al k c ((q : Int) - 1) ti (byDG j) ps Lf Ev dg (byL j) br As ks cs _ (HPLj.out.below hS) (byDG_ok j) (hbrj.below hS)).mono ?_; rintro e w' ⟨rfl, hb⟩; rw [HZ.out]; go_wp2_with fail; with_reducible refine hK _ _ hb ?_
       exact rfl
      ·as_aux_lemma =>
       intro vs W hS hdep K hK; have d0 := hdep ⟨11, .data⟩ (by simp) rfl; simp only [PhiSt15] at d0; refine ⟨?_⟩; simp only [Act.put, sA, sB, sC, Nat.zero_add, Nat.reduceAdd, d0] at hK ⊢; go_simp; with_reducible refine hK _ _ (Below.refl _ _) ?_
       exact rfl
      ·as_aux_lemma =>
       intro vs W hS hdep K hK; have d0 := hdep ⟨12, .data⟩ (by simp) rfl; simp only [PhiSt15] at d0; refine ⟨?_⟩; simp only [Act.put, sA, sB, sC, Nat.zero_add, Nat.reduceAdd, d0] at hK ⊢; go_simp; with_reducible refine hK _ _ (Below.refl _ _) ?_
       exact rfl
      ·as_aux_lemma =>
       intro vs W hS hdep K hK; have d0 := hdep ⟨12, .data⟩ (by simp) rfl; simp only [PhiSt15] at d0; refine ⟨?_⟩; simp only [Act.put, sA, sB, sC, Nat.zero_add, Nat.reduceAdd, d0] at hK ⊢; go_simp; with_reducible refine hK _ _ (Below.refl _ _) ?_
       exact rfl
      ·as_aux_lemma =>
       intro vs W hS hdep K hK; have d0 := hdep ⟨13, .data⟩ (by simp) rfl; simp only [PhiSt15] at d0; refine ⟨?_⟩; simp only [Act.put, sA, sB, sC, Nat.zero_add, Nat.reduceAdd, d0] at hK ⊢; go_simp; with_reducible refine hK _ _ (Below.refl _ _) ?_
       exact rfl
      ·as_aux_lemma =>
       intro vs W hS hdep K hK; have d0 := hdep ⟨14, .data⟩ (by simp) rfl; simp only [PhiSt15] at d0; refine ⟨?_⟩; simp only [Act.put, sA, sB, sC, Nat.zero_add, Nat.reduceAdd, d0] at hK ⊢; go_simp; with_reducible refine hK _ _ (Below.refl _ _) ?_
       exact rfl
     ·intro vs w7 hS7 hv7; have u15 := hv7 15 (by simp); have u16 := hv7 16 (by simp); simp only [PhiSt15] at u15 u16; simp only [Act.put, sA, sB, sC, Nat.zero_add, Nat.reduceAdd, u15, u16]; have hbe3 := Below.tr hbe3 hS7; have hz1 : (z.1 != z.1) = false := by simp
      have hz2 : (z.2 != z.2) = false := by simp
      clear u15 u16 hv7 hS7 hcT HCD HPLj hbrj HZ; go_wp2_with fail
      go_roundg (G2 - 1)
      case measure => omega
      case rel => exact ⟨j + 1, by go_num, by omega, hbe3⟩
end Go.Proofs.YtijkfagkbfbpmaaGreatDoor
