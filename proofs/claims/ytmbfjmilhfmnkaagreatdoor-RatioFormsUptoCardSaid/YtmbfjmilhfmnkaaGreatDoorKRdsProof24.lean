import Derived.Test.YtmbfjmilhfmnkaaGreatDoorKRdsProof17
import Derived.Test.YtmbfjmilhfmnkaaGreatDoorKRdsProof03
import Derived.Test.YtmbfjmilhfmnkaaGreatDoorKRdsProof23
import Derived.WalkMore
import Derived.Deep.CutRange
import Derived.Deep.CutBlock
import Derived.Test.YtmbfjmilhfmnkaaGreatDoorKRdsProof15
import Derived.Test.YtmbfjmilhfmnkaaGreatDoorS0
set_option linter.unusedVariables false
set_option linter.unusedSimpArgs false
namespace Go.Proofs.YtmbfjmilhfmnkaaGreatDoor
open Go Go.RowKit
def u8C (n : Nat) : List Value := [.int .u8 (n : Int)]
theorem u8C_len (n : Nat) : (u8C n).length = 1 := rfl
/-- a slice of bytes -/
def By (w : World) (A : Option Addr) (k c : Nat) (l : List Nat) : Prop := RowL u8C w A k l ∧ k ≤ c ∧ c ≤ 9223372036854775807 ∧ (∀ x ∈ l, x < 256) ∧ (0 < c → ∃ b o, A = some ⟨b, o, none⟩)
theorem By.below {w w' : World} {A : Option Addr} {k c : Nat} {l : List Nat} (h : By w A k c l) (hb : Below w.heap.size w w') : By w' A k c l := ⟨h.1.below hb, h.2⟩
theorem By.len {w : World} {A : Option Addr} {k c : Nat} {l : List Nat} (h : By w A k c l) : k = l.length := h.1.2.1
theorem By.get {w : World} {A : Option Addr} {k c : Nat} {l : List Nat} (h : By w A k c l) {i : Nat} (hi : i < k) : ∃ b off, ∃ n : Nat, A = some ⟨b, off, none⟩ ∧ w.cell? ⟨b, off + i, none⟩ = some (.int .u8 (n : Int)) ∧ n < 256 ∧ Hid (l[i]? = some n) := by
 have hl := h.len; obtain ⟨b, off, e, hc⟩ := h.1.at_ u8C_len (by omega) hi (by omega); refine ⟨b, off, l[i], e, ?_, h.2.2.2.1 _ (List.getElem_mem _), List.getElem?_eq_getElem (by omega)⟩; have := hc.out 0 _ rfl
 simpa using this
theorem flat_u8 (l : List Nat) : (l.flatMap u8C).length = l.length := by rw [flat_len u8C_len, Nat.mul_one]
/-- a row of bytes of the call's own -/
def OwnB (w : World) (base : Nat) (v : Value) (l : List Nat) : Prop := w.ownsRow base 5 1 v l.length (l.flatMap u8C) ∧ ∀ x ∈ l, x < 256
theorem OwnB.shp {w : World} {base : Nat} {v : Value} {l : List Nat} (h : OwnB w base v l) : ∃ A c, v = .slice A l.length c := own_shp h.1
theorem OwnB.below {w w' : World} {base : Nat} {v : Value} {l : List Nat} (h : OwnB w base v l) (hb : Below w.heap.size w w') : OwnB w' base v l := ⟨own_below h.1 hb, h.2⟩
theorem OwnB.mono {w : World} {base base' : Nat} {v : Value} {l : List Nat} (h : OwnB w base v l) (hb : base' ≤ base) : OwnB w base' v l := ⟨own_mono h.1 hb, h.2⟩
theorem OwnB.ge {w : World} {base : Nat} {v : Value} {l : List Nat} (h : OwnB w base v l) : ∀ k, v.ownBlock = some k → base ≤ k := own_block_ge h.1
theorem OwnB.nil (w : World) (base : Nat) : OwnB w base (.slice none 0 0) [] := ⟨World.ownsRow_nil _ _ _ _, fun x h => by cases h⟩
theorem OwnB.by_ {w : World} {base : Nat} {A : Option Addr} {k c : Nat} {l : List Nat} (h : OwnB w base (.slice A k c) l) (hl : l.length ≤ 281474976710656) : By w A k c l := by
 obtain ⟨A', c', e⟩ := h.shp; injection e with e1 e2 e3; subst e1 e2 e3; have h2 := h.1; obtain ⟨r1, r2, r3⟩ := own_any u8C_len (by omega) hl h2; refine ⟨⟨r1, r2, by omega⟩, ?_, ?_, h.2, ?_⟩
 ·rcases h2.2 with ⟨e1, e2⟩ | ⟨g, cap, cur, e1, _, _, e3, _⟩
  ·injection e1 with _ e4 e5; omega
  ·injection e1 with _ e4 e5; omega
 ·rcases h2.2 with ⟨e1, e2⟩ | ⟨g, cap, cur, e1, _, _, e3, e4, _⟩
  ·injection e1 with _ e4 e5; omega
  ·injection e1 with _ e5 e6; simp only [maxLen] at e4; omega
 ·intro hc
  rcases h2.2 with ⟨e1, e2⟩ | ⟨g, cap, cur, e1, _⟩
  ·injection e1 with _ e4 e5; omega
  ·injection e1 with e4 _ _; exact ⟨g, 0, e4⟩
/-- one byte in a block of its own -/
theorem OwnB.one (w : World) (d : Nat) (hd : d < 256) : OwnB (w.alloc (.cells #[.int .u8 (d : Int)] 5)) w.heap.size (.slice (some ⟨w.heap.size, 0, none⟩) 1 1) [d] :=
 ⟨⟨rfl, .inr ⟨_, 1, #[.int .u8 (d : Int)], rfl, Nat.le_refl _, heap_alloc_new w _, Nat.le_refl _, by unfold maxLen; omega, rfl, rfl⟩⟩, fun x hx => by simp at hx; omega⟩
theorem info_u8 : (Tryz.prog.info? 5).map (fun i => (i.zero, i.size, i.bytes)) = some (some (.int .u8 0), 1, 1) := by kernel_rfl
/-- bytes appended -/
theorem wpList_appB {ops : Array Oper} {rest : List Oper} {o : Oper} {a : Act} {w : World} {Q : Exit → Act → World → Prop} (hgd : o.guard = none) (s x : Operand) (ho : o.op = .call { callee := .builtin .append, args := #[s, x], argTypes := #[23, 23] })
  (base : Nat) (v : Value) (l : List Nat) (hs : a.eval s = v) (h : OwnB w base v l) (A : Option Addr) (m c : Nat) (news : List Nat) (hx : a.eval x = .slice A m c) (hn : By w A m c news) (hl : l.length + news.length ≤ 1073741824) (hb : base ≤ w.heap.size)
  (hK : ∀ v' w', OwnB w' base v' (l ++ news) → w.grownBy w' v.ownBlock → (v'.ownBlock = v.ownBlock ∨ v'.ownBlock = some w.heap.size) → wpList Tryz.prog ops Q rest (a.put o.dst v') w') : wpList Tryz.prog ops Q (o :: rest) a w := by
 obtain ⟨iR, hi, hz, hsz, hby⟩ := info_parts info_u8; have hm := hn.len; refine wpList_append_all hgd (fun _ => True) s x 23 ho base 5 iR (.int .u8 0) 1 1 Tryz.underlying23 hi hz hsz hby rfl (by omega) v l.length _ hs h.1 A m c (news.flatMap u8C) hx (by rw [flat_u8]; omega) hn.1.1 ?_ (by simp only [maxLen]; omega) (by omega) hb (fun _ _ => trivial) (fun _ _ => trivial) (fun _ _ _ _ _ => trivial) ?_
 ·intro u hu; obtain ⟨d, _, hd⟩ := List.mem_flatMap.1 hu; simp only [u8C, List.mem_singleton] at hd; subst hd; rfl
 ·intro v' w' k1 k2 k3 _; refine hK v' w' ⟨?_, fun y hy => ?_⟩ k2 k3
  ·rw [List.length_append, List.flatMap_append, ← hm]; exact k1
  ·rcases List.mem_append.1 hy with hy | hy
   ·exact h.2 y hy
   ·exact hn.2.2.2.1 y hy
theorem By.one {w : World} {g : Nat} {d : Nat} (h : Rd w (some ⟨g, 0, none⟩) [.int .u8 (d : Int)]) (hd : d < 256) : By w (some ⟨g, 0, none⟩) 1 1 [d] := ⟨⟨h, rfl, by omega⟩, Nat.le_refl _, by omega, fun x hx => (by simp at hx; omega), fun _ => ⟨g, 0, rfl⟩⟩
theorem By.new (w : World) (d : Nat) (hd : d < 256) : By (w.alloc (.cells #[.int .u8 (d : Int)] 5)) (some ⟨w.heap.size, 0, none⟩) 1 1 [d] := By.one (Rd.newC w 5 [.int .u8 (d : Int)]) hd
/- numbers -/
def flV (neg : Bool) : Nat := if neg then 255 else 0
theorem xor_fl (neg : Bool) (d : Nat) (hd : d < 256) : bits .xor .u8 (d : Int) (flV neg : Int) = (Wi.fl neg d : Int) := by
 have h : bits .xor .u8 (d : Int) (flV neg : Int) = ((d ^^^ flV neg : Nat) : Int) := u8_xor_nat d (flV neg) hd (by unfold flV; cases neg <;> simp); rw [h]; unfold Wi.fl flV
 cases neg
 ·simp
 ·simp only [if_true]; have : ∀ x : Fin 256, x.val ^^^ 255 = 255 - x.val := by decide +kernel
  rw [this ⟨d, hd⟩]
theorem shr_div (M j : Nat) : (M : Int) / 2 ^ (8 * j) = ((M / 256 ^ j : Nat) : Int) := by
 have e : (256 : Nat) ^ j = 2 ^ (8 * j) := by rw [Nat.pow_mul]
 rw [e]
 push_cast
 rfl
theorem u64_not (x : Nat) (hx : x < 18446744073709551616) : 18446744073709551615 ^^^ x = 18446744073709551615 - x := by
 have h := BitVec.toNat_not (x := BitVec.ofNat 64 x); rw [BitVec.not_def, BitVec.toNat_xor, BitVec.toNat_allOnes, BitVec.toNat_ofNat, Nat.mod_eq_of_lt hx] at h; exact h
theorem be_get : ∀ (k m i : Nat), i < k → (Wi.be k m)[i]? = some (m / 256 ^ (k - 1 - i) % 256)
 | 0, _, _, h => by omega
 | k + 1, m, 0, _ => by rw [Wi.be, List.getElem?_cons_zero]; simp
 | k + 1, m, i + 1, h => by rw [Wi.be, List.getElem?_cons_succ, be_get k m i (by omega)]; congr 4; omega
theorem be_snoc {k m j : Nat} (h : j < k) : (Wi.be k m).take (k - (j + 1) + 1) = (Wi.be k m).take (k - (j + 1)) ++ [m / 256 ^ j % 256] := by
 rw [List.take_add_one, be_get k m (k - (j + 1)) (by omega), show k - 1 - (k - (j + 1)) = j by omega]; rfl
set_option maxRecDepth 100000 in
set_option maxHeartbeats 4000000 in
theorem wint_n (n : Int) (w : World) (h1 : -9223372036854775808 ≤ n) (h2 : n ≤ 9223372036854775807) :
  Calls Tryz.prog 81 #[.int .i64 n] w fun e w' => ∃ v, e = .returned v ∧ OwnB w' w.heap.size v (Wi.encI n) ∧ Below w.heap.size w w' := by
 obtain ⟨M, HM⟩ : ∃ M, Hid (M = Wi.mag n) := ⟨_, rfl⟩; obtain ⟨neg, HN⟩ : ∃ b, Hid (b = Wi.negB n) := ⟨_, rfl⟩; obtain ⟨k, HK⟩ : ∃ k, Hid (k = Wi.nb M) := ⟨_, rfl⟩; have hM : M < 9223372036854775808 := by rw [HM.out]; exact Wi.mag_lt h1 h2
 have hk8 : k ≤ 8 := by rw [HK.out, HM.out]; exact Wi.nb_mag h1 h2
 have HE : Hid (Wi.encI n = Wi.headB neg k :: (Wi.be k M).map (Wi.fl neg)) := by show _ = _; rw [HK.out, HM.out, HN.out]; rfl
 have hhd : Wi.headB neg k < 256 := by unfold Wi.headB; split <;> omega
 obtain ⟨Y, HY⟩ : ∃ Y, Hid (Y = Wi.encI n) := ⟨_, rfl⟩; rw [← HY.out]
 go_enter Tryz.func81, Tryz.ntmps81
 go_upto_if 11 with go_step3
 go_cut [3, 4] from 11 to 46 (fun t3 t4 wz => t3 = .int .u64 M ∧ t4 = .int .u8 (flV neg : Nat) ∧ wz = w)
 case first => as_aux_lemma =>
  have hMv := HM.out; have hNv := HN.out; unfold Wi.mag at hMv; unfold Wi.negB at hNv; by_cases hn : n < 0
  ·have t1 : decide (n < 0) = true := decide_eq_true hn; rw [if_pos hn] at hMv; rw [t1] at hNv
   have t2 : bits .xor .u64 IntKind.u64.max (IntKind.u64.wrap n) = (M : Int) := by
    have e1 : IntKind.u64.wrap n = ((18446744073709551616 - 1 - M : Nat) : Int) := by rw [IntKind.wrap_u64]; omega
    have e2 : IntKind.u64.max = ((18446744073709551615 : Nat) : Int) := by decide +kernel
    rw [e1, e2, u64_xor_nat _ _ (by omega) (by omega), u64_not _ (by omega)]; omega
   subst hNv; simp only [t1]; clear hMv hn HN HE; go_wp2_with fail
   go_meet
   case rel => exact ⟨rfl, rfl, rfl⟩
  ·have t1 : decide (n < 0) = false := decide_eq_false hn; rw [if_neg hn] at hMv; rw [t1] at hNv; have t2 : IntKind.u64.wrap n = (M : Int) := by rw [IntKind.wrap_u64]; omega
   subst hNv; simp only [t1]; clear hMv hn HN HE; go_wp2_with fail
   go_meet
   case rel => exact ⟨by rw [t2], rfl, rfl⟩
 obtain ⟨rfl, rfl, hx⟩ := hcut; obtain rfl := hx.symm; clear hx
 go_upto_block 0 with go_step3
 go_cut [5] from 14 to 46 (fun t wz => t = .int .i64 (k : Nat) ∧ wz = w)
 case first => as_aux_lemma =>
  go_wp2_with fail
  go_loopg [5] 8 (fun j x wr => ∃ i : Nat, x = .int .i64 i ∧ i ≤ j ∧ i ≤ 8 ∧ k ≤ i ∧ wr = w)
  case atStart => exact ⟨8, rfl, by omega, by omega, hk8, rfl⟩
  case round =>
   obtain ⟨i, rfl, hij, hi, hki, rfl⟩ := hrel; by_cases hi0 : 0 < i
   ·have t1 : decide ((0 : Int) < (i : Int)) = true := by simp; omega
    obtain ⟨D, HD⟩ : ∃ D, Hid (D = M / 256 ^ (i - 1)) := ⟨_, rfl⟩; have tsh : (M : Int) / 2 ^ (8 * (i - 1)) = (D : Int) := by rw [shr_div, HD.out]
    by_cases hlt : M < 256 ^ (i - 1)
    ·have hD0 : D = 0 := by rw [HD.out]; exact Nat.div_eq_of_lt hlt
     have hki2 : k ≤ i - 1 := by rw [HK.out, Wi.nb_le]; exact hlt
     subst hD0; clear hlt HD; go_wp2_with fail
     go_roundg (gk - 1)
     case measure => omega
     case rel => exact ⟨i - 1, by go_num, by omega, by omega, hki2, rfl⟩
    ·have hD0 : 0 < D := by rw [HD.out]; exact Nat.div_pos (by omega) (Nat.pow_pos (by omega))
     have hki2 : k = i := by
      have : ¬ k ≤ i - 1 := by rw [HK.out, Wi.nb_le]; exact hlt
      omega
     have t2 : decide (0 < D) = true := decide_eq_true hD0; subst hki2; clear hlt HD hD0; go_wp2_with fail
     go_meet
     case rel => exact ⟨rfl, rfl⟩
   ·obtain rfl : i = 0 := by omega
    obtain rfl : k = 0 := by omega
    go_wp2_with fail
    go_meet
    case rel => exact ⟨rfl, rfl⟩
 obtain ⟨rfl, hx⟩ := hcut; obtain rfl := hx.symm; clear hx; have tc : ((128 : Int) + (k : Int)) % 256 = ((128 + k : Nat) : Int) := by omega
 have hx0 : bits .xor .u8 ((128 + k : Nat) : Int) (flV neg : Int) = (Wi.headB neg k : Int) := by
  rw [xor_fl neg (128 + k) (by omega)]; unfold Wi.fl Wi.headB
  cases neg
  ·simp
  ·simp only [if_true]; omega
 obtain ⟨H0, HH0⟩ : ∃ h, Hid (h = Wi.headB neg k) := ⟨_, rfl⟩; rw [← HH0.out] at hx0 hhd
 push_cast at hx0
 have tc2 : ((128 : Int) + (k : Int)) % 256 = 128 + (k : Int) := by omega
 go_upto_region 9 with fail; refine wp_name ?_; intro w1 HW; have hb1 : Below w.heap.size w w1 := by rw [HW.out]; exact bA _ _
 have ho1 : OwnB w1 w.heap.size (.slice (some ⟨w.heap.size, 0, none⟩) 1 1) [H0] := by rw [HW.out]; exact OwnB.one w H0 hhd
 clear HW tc tc2 hx0; go_wp2_with fail
 go_loopg [6, 7] k (fun j v x wr => ∃ i : Nat, x = .int .i64 ((i : Int) - 1) ∧ i = j ∧ i ≤ k ∧ OwnB wr w.heap.size v (H0 :: ((Wi.be k M).take (k - i)).map (Wi.fl neg)) ∧ Below w.heap.size w wr)
 case atStart => exact ⟨k, by go_num, rfl, Nat.le_refl _, by rw [Nat.sub_self]; exact ho1, hb1⟩
 case round =>
  obtain ⟨i, rfl, hij, hik, hown, hbe⟩ := hrel; by_cases hi0 : 0 < i
  ·obtain ⟨j, rfl⟩ : ∃ j, i = j + 1 := ⟨i - 1, by omega⟩; have e1 : (((j + 1 : Nat) : Int) - 1) = (j : Int) := by omega
   rw [e1]; have hj0 : ¬ (j : Int) < 0 := by omega
   obtain ⟨D, HD⟩ : ∃ D, Hid (D = M / 256 ^ j) := ⟨_, rfl⟩; have tsh : (M : Int) / 2 ^ (8 * j) = (D : Int) := by rw [shr_div, HD.out]
   obtain ⟨d, Hd⟩ : ∃ d, Hid (d = D % 256) := ⟨_, rfl⟩; have tmd : (D : Int) % 256 = (d : Int) := by rw [Hd.out]; omega
   have hd : d < 256 := by rw [Hd.out]; exact Nat.mod_lt _ (by omega)
   obtain ⟨f, Hf⟩ : ∃ f, Hid (f = Wi.fl neg d) := ⟨_, rfl⟩; have hf : f < 256 := by rw [Hf.out]; exact Wi.fl_lt hd
   have tx : bits .xor .u8 (d : Int) (flV neg : Int) = (f : Int) := by rw [xor_fl neg d hd, Hf.out]
   have hbA := bA wr (.cells #[.int .u8 (f : Int)] 5); have hown2 := hown.below hbA; have hby := By.new wr f hf
   have hlen : (H0 :: ((Wi.be k M).take (k - (j + 1))).map (Wi.fl neg)).length + [f].length ≤ 1073741824 := by
    simp only [List.length_cons, List.length_map, List.length_take, List.length_nil]; omega
   have hbx := Below.tr hbe hbA; have hsz := hbx.size; have hj8 : 8 * (j : Int) ≤ 64 := by omega
   clear hown hbA hbe
   go_wp2_with (at_builtin; go_loud (refine wpList_appB rfl (.tmp 36) (.tmp 44) rfl w.heap.size _ _ rfl hown2 (some ⟨wr.heap.size, 0, none⟩) 1 1 [f] rfl hby hlen hsz ?_); intro v7 w7 hown7 hg7 _)
   have hbz := hbx.grown hg7 hsz (fun q hq => hown2.ge q hq)
   have hfin : OwnB w7 w.heap.size v7 (H0 :: ((Wi.be k M).take (k - j)).map (Wi.fl neg)) := by
    have e : k - j = k - (j + 1) + 1 := by omega
    rw [e, be_snoc (by omega), List.map_append, ← List.cons_append]; simp only [List.map_cons, List.map_nil]; rw [← HD.out, ← Hd.out, ← Hf.out]; exact hown7
   clear hown7 hg7 hbx hown2 hby; go_wp2_with fail
   go_roundg (gk - 1)
   case measure => omega
   case rel => exact ⟨j, by go_num, by omega, by omega, hfin, hbz⟩
  ·obtain rfl : i = 0 := by omega
   rw [Nat.sub_zero] at hown; have e2 : (Wi.be k M).take k = Wi.be k M := List.take_of_length_le (by rw [Wi.be_len]; omega); rw [e2] at hown; have HYE : H0 :: (Wi.be k M).map (Wi.fl neg) = Y := by rw [HY.out, HE.out, ← HH0.out]
   rw [HYE] at hown; obtain ⟨A7, c7, rfl⟩ := hown.shp; have hfin := Lib.hid hown; clear hown HYE; go_wp2_with fail
   try rw [Exit.noGoto_ret]
   go_ret; exact ⟨_, rfl, hfin.out, hbe⟩
end Go.Proofs.YtmbfjmilhfmnkaaGreatDoor
namespace Go.Proofs.YtmbfjmilhfmnkaaGreatDoor
open Go Go.RowKit
theorem By.get2 {w : World} {A : Option Addr} {k c : Nat} {l : List Nat} (h : By w A k c l) {i : Nat} (hi : i < k) : ∃ b off, ∃ n : Nat, A = some ⟨b, off, none⟩ ∧ w.cell? ⟨b, off + i, none⟩ = some (.int .u8 (n : Int)) ∧ n < 256 ∧ Hid (n = l.getD i 0) := by
 obtain ⟨b, off, n, e, hc, hn, hl⟩ := h.get hi; exact ⟨b, off, n, e, hc, hn, by show n = _; rw [List.getD_eq_getElem?_getD, hl.out]; rfl⟩
def lit8 (m k : Nat) : List Nat := (List.range k).map fun t => m / 256 ^ t % 256
theorem lit8_succ (m k : Nat) : lit8 m (k + 1) = lit8 m k ++ [m / 256 ^ k % 256] := by unfold lit8; rw [List.range_succ, List.map_append]; rfl
theorem lit8_len (m k : Nat) : (lit8 m k).length = k := by unfold lit8; rw [List.length_map, List.length_range]
theorem lit8_get {m k j : Nat} (h : j < k) : (lit8 m k)[j]? = some (m / 256 ^ j % 256) := by unfold lit8; rw [List.getElem?_map, List.getElem?_range h]; rfl
theorem OwnB.kept {w w' : World} {base : Nat} {u v : Value} {l : List Nat} (h : OwnB w base u l) (k : w.grownBy w' v.ownBlock) (ha : Apt v u) : OwnB w' base u l := ⟨own_other h.1 k ha, h.2⟩
theorem Apt.grow {w : World} {base : Nat} {v v' u : Value} {l : List Nat} (hu : OwnB w base u l) (ha : Apt v u) (k : v'.ownBlock = v.ownBlock ∨ v'.ownBlock = some w.heap.size) : Apt v' u := Apt.step hu.1 ha k
theorem Apt.nil {u : Value} {k c : Nat} : Apt (.slice none k c) u := fun g h => by cases h
set_option maxRecDepth 100000 in
set_option maxHeartbeats 4000000 in
theorem rint_n (n : Int) (w : World) (h1 : -9223372036854775808 ≤ n) (h2 : n ≤ 9223372036854775807) :
  Calls Tryz.prog 28 #[.int .i64 n] w fun e w' => ∃ v, e = .returned v ∧ OwnB w' w.heap.size v (Wi.encI n) ∧ Below w.heap.size w w' := by
 obtain ⟨M, HM⟩ : ∃ M, Hid (M = Wi.mag n) := ⟨_, rfl⟩; obtain ⟨k, HK⟩ : ∃ k, Hid (k = Wi.nb M) := ⟨_, rfl⟩; have hM : M < 9223372036854775808 := by rw [HM.out]; exact Wi.mag_lt h1 h2
 have hk8 : k ≤ 8 := by rw [HK.out, HM.out]; exact Wi.nb_mag h1 h2
 have HE : Hid (Wi.encI n = Wi.headB (decide (n < 0)) k :: (Wi.be k M).map (Wi.fl (decide (n < 0)))) := by show _ = _; rw [HK.out, HM.out]; rfl
 obtain ⟨Y, HY⟩ : ∃ Y, Hid (Y = Wi.encI n) := ⟨_, rfl⟩; rw [← HY.out]; obtain ⟨H0, HH0⟩ : ∃ h, Hid (h = Wi.headB (decide (n < 0)) k) := ⟨_, rfl⟩; have hhd : H0 < 256 := by rw [HH0.out]; unfold Wi.headB; split <;> omega
 go_enter Tryz.func28, Tryz.ntmps28
 go_upto_if 11 with fail
 go_cut [3] from 11 to 58 (fun t3 wz => t3 = .int .i64 M ∧ wz = w)
 case first => as_aux_lemma =>
  have hMv := HM.out; unfold Wi.mag at hMv; by_cases hn : n < 0
  ·have t1 : decide (n < 0) = true := decide_eq_true hn; rw [if_pos hn] at hMv; have t2 : IntKind.i64.wrap (-1 - n) = (M : Int) := by rw [IntWalk.i64_in _ (by omega)]; omega
   simp only [t1]; clear hMv hn; go_wp2_with fail
   go_meet
   case rel => exact ⟨rfl, rfl⟩
  ·have t1 : decide (n < 0) = false := decide_eq_false hn; rw [if_neg hn] at hMv; have t2 : n = (M : Int) := by omega
   simp only [t1]; clear hMv hn; go_wp2_with fail
   go_meet
   case rel => exact ⟨by rw [t2], rfl⟩
 obtain ⟨rfl, hx⟩ := hcut; obtain rfl := hx.symm; clear hx
 go_upto_block 0 with fail
 go_cut [3, 4] from 14 to 58 (fun t3 t4 wz => ∃ W, W = wz ∧ (∃ x : Int, t3 = .int .i64 x) ∧ OwnB wz w.heap.size t4 (lit8 M k) ∧ Below w.heap.size w wz)
 case first => as_aux_lemma =>
  go_wp2_with fail
  go_loopg [3, 4] k (fun j x v wr => ∃ i D : Nat, x = .int .i64 (D : Nat) ∧ i + j = k ∧ Hid (D = M / 256 ^ i) ∧ OwnB wr w.heap.size v (lit8 M i) ∧ Below w.heap.size w wr)
  case atStart => exact ⟨0, M, rfl, by omega, by show _ = _; simp, OwnB.nil _ _, Below.refl _ _⟩
  case round =>
   obtain ⟨i, D, rfl, hij, HD, hown, hbe⟩ := hrel; by_cases hi : i < k
   ·have hD0 : 0 < D := by
     rw [HD.out]; refine Nat.div_pos ?_ (Nat.pow_pos (by omega)); have : ¬ k ≤ i := by omega
     rw [HK.out, Wi.nb_le] at this; omega
    have hDM : D ≤ M := by rw [HD.out]; exact Nat.div_le_self _ _
    have t1 : decide ((0 : Int) < (D : Int)) = true := by simp; omega
    have t1n : decide (0 < D) = true := decide_eq_true hD0; obtain ⟨d, Hd⟩ : ∃ d, Hid (d = D % 256) := ⟨_, rfl⟩; have hd : d < 256 := by rw [Hd.out]; exact Nat.mod_lt _ (by omega)
    have tmd : (D : Int).tmod 256 = (d : Int) := by rw [Hd.out]; rfl
    have tmd2 : (D : Int) % 256 = (d : Int) := by rw [Hd.out]; omega
    have tmd3 : (d : Int) % 256 = (d : Int) := by omega
    obtain ⟨E, HEE⟩ : ∃ e, Hid (e = D / 256) := ⟨_, rfl⟩; have tdv : (D : Int).tdiv 256 = (E : Int) := by rw [HEE.out]; rfl
    have tdv2 : (D : Int) / 256 = (E : Int) := by rw [HEE.out]; omega
    have hE : E ≤ M := by rw [HEE.out]; omega
    have HE2 : Hid (E = M / 256 ^ (i + 1)) := by show _ = _; rw [HEE.out, HD.out, Nat.div_div_eq_div_mul, Nat.pow_succ]
    have hbA := bA wr (.cells #[.int .u8 (d : Int)] 5); have hown2 := hown.below hbA; have hby := By.new wr d hd; have hlen : (lit8 M i).length + [d].length ≤ 1073741824 := by rw [lit8_len]; simp; omega
    have hbx := Below.tr hbe hbA; have hsz := hbx.size; clear hown hbA hbe
    go_wp2_with (at_builtin; go_loud (refine wpList_appB rfl (.tmp 16) (.tmp 20) rfl w.heap.size _ _ rfl hown2 (some ⟨wr.heap.size, 0, none⟩) 1 1 [d] rfl hby hlen hsz ?_); intro v7 w7 hown7 hg7 _)
    have hbz := hbx.grown hg7 hsz (fun q hq => hown2.ge q hq); have hfin : OwnB w7 w.heap.size v7 (lit8 M (i + 1)) := by rw [lit8_succ, ← HD.out, ← Hd.out]; exact hown7
    clear hown7 hg7 hbx hown2 hby; go_wp2_with fail
    go_roundg (gk - 1)
    case measure => omega
    case rel => exact ⟨i + 1, E, rfl, by omega, HE2, hfin, hbz⟩
   ·obtain rfl : i = k := by omega
    have hD0 : D = 0 := by
     rw [HD.out]; refine Nat.div_eq_of_lt ?_; have h := (Wi.nb_le i M).1 (by rw [← HK.out]; exact Nat.le_refl _); exact h
    subst hD0; go_wp2_with fail
    go_meet
    case rel => exact ⟨_, rfl, ⟨_, rfl⟩, hown, hbe⟩
 obtain ⟨w1, rfl, ⟨x3, rfl⟩, hL, hbe⟩ := hcut; obtain ⟨A4, c4, rfl⟩ := hL.shp; rw [lit8_len] at *; obtain ⟨neg, HNG⟩ : ∃ b, Hid (b = decide (n < 0)) := ⟨_, rfl⟩; rw [← HNG.out] at HE HH0
 go_upto_if 27 with fail
 go_cut [6] from 26 to 58 (fun t6 wz => OwnB wz w.heap.size t6 [H0] ∧ OwnB wz w.heap.size (.slice A4 k c4) (lit8 M k) ∧ Apt t6 (.slice A4 k c4) ∧ Below w.heap.size w wz)
 case first => as_aux_lemma =>
  have hHv := HH0.out; have hNv := HNG.out; unfold Wi.headB at hHv; have hbA := bA w1 (.cells #[.int .u8 (H0 : Int)] 5); have hL2 := hL.below hbA; have hby := By.new w1 H0 hhd; have hbx := Below.tr hbe hbA; have hsz := hbx.size; have hnil : OwnB (w1.alloc (.cells #[.int .u8 (H0 : Int)] 5)) w.heap.size (.slice none 0 0) [] := OwnB.nil _ _; have hlen : ([] : List Nat).length + [H0].length ≤ 1073741824 := by simp
  by_cases hn : n < 0
  ·have t1 : decide (0 ≤ n) = false := decide_eq_false (by omega); rw [decide_eq_true hn] at hNv; subst hNv; rw [if_pos rfl] at hHv; have t2 : (127 : Int) - (k : Int) = (H0 : Int) := by omega
   simp only [t1]; clear hHv hn HNG HE hL hbA hbe HH0
   go_wp2_with (at_builtin; go_loud (refine wpList_appB rfl (.tmp 34) (.tmp 38) rfl w.heap.size _ _ rfl hnil (some ⟨w1.heap.size, 0, none⟩) 1 1 [H0] rfl hby hlen hsz ?_); intro v7 w7 hown7 hg7 ha7)
   have hbz := hbx.grown hg7 hsz (fun q hq => hnil.ge q hq); have hL3 := hL2.kept hg7 Apt.nil; have hap := Apt.grow hL2 Apt.nil ha7; go_wp2_with fail
   go_meet
   case rel => exact ⟨hown7, hL3, hap, hbz⟩
  ·have t1 : decide (0 ≤ n) = true := decide_eq_true (by omega); rw [decide_eq_false hn] at hNv; subst hNv; rw [if_neg (by simp)] at hHv; have t2 : (128 : Int) + (k : Int) = (H0 : Int) := by omega
   simp only [t1]; clear hHv hn HNG HE hL hbA hbe HH0
   go_wp2_with (at_builtin; go_loud (refine wpList_appB rfl (.tmp 28) (.tmp 32) rfl w.heap.size _ _ rfl hnil (some ⟨w1.heap.size, 0, none⟩) 1 1 [H0] rfl hby hlen hsz ?_); intro v7 w7 hown7 hg7 ha7)
   have hbz := hbx.grown hg7 hsz (fun q hq => hnil.ge q hq); have hL3 := hL2.kept hg7 Apt.nil; have hap := Apt.grow hL2 Apt.nil ha7; go_wp2_with fail
   go_meet
   case rel => exact ⟨hown7, hL3, hap, hbz⟩
 clear hL hbe; obtain ⟨ho6, hL, hap, hbe⟩ := hcut; go_wp2_with fail
 go_loopg [6, 7] k (fun j v x wr => ∃ i : Nat, x = .int .i64 ((i : Int) - 1) ∧ i = j ∧ i ≤ k ∧ OwnB wr w.heap.size v (H0 :: ((Wi.be k M).take (k - i)).map (Wi.fl neg)) ∧ OwnB wr w.heap.size (.slice A4 k c4) (lit8 M k) ∧ Apt v (.slice A4 k c4) ∧ Below w.heap.size w wr)
 case atStart => exact ⟨k, by go_num, rfl, Nat.le_refl _, by rw [Nat.sub_self]; exact ho6, hL, hap, hbe⟩
 case round =>
  clear ho6 hL hap hbe; obtain ⟨i, rfl, hij, hik, hown, hL, hap, hbe⟩ := hrel; by_cases hi0 : 0 < i
  ·obtain ⟨j, rfl⟩ : ∃ j, i = j + 1 := ⟨i - 1, by omega⟩; have e1 : (((j + 1 : Nat) : Int) - 1) = (j : Int) := by omega
   rw [e1]; have hj0 : ¬ (j : Int) < 0 := by omega
   have hjk : (j : Int) < (k : Int) := by omega
   obtain ⟨b4, o4, d, rfl, hcd, hd, HD⟩ := (hL.by_ (by rw [lit8_len]; omega)).get (i := j) (by omega)
   have Hd : Hid (d = M / 256 ^ j % 256) := by
    have h := HD.out; rw [lit8_get (by omega)] at h; injection h with h; exact h.symm
   obtain ⟨f, Hf⟩ : ∃ f, Hid (f = Wi.fl neg d) := ⟨_, rfl⟩; have hf : f < 256 := by rw [Hf.out]; exact Wi.fl_lt hd
   have hbA := bA wr (.cells #[.int .u8 (f : Int)] 5); have hown2 := hown.below hbA; have hL2 := hL.below hbA; have hby := By.new wr f hf
   have hlen : (H0 :: ((Wi.be k M).take (k - (j + 1))).map (Wi.fl neg)).length + [f].length ≤ 1073741824 := by
    simp only [List.length_cons, List.length_map, List.length_take, List.length_nil]; omega
   have hbx := Below.tr hbe hbA; have hsz := hbx.size
   have hfinE : ∀ l : List Nat, l = (H0 :: ((Wi.be k M).take (k - (j + 1))).map (Wi.fl neg)) ++ [f] → l = H0 :: ((Wi.be k M).take (k - j)).map (Wi.fl neg) := by
    intro l hl; have e : k - j = k - (j + 1) + 1 := by omega
    rw [hl, e, be_snoc (by omega), List.map_append, ← List.cons_append]; simp only [List.map_cons, List.map_nil]; rw [← Hd.out, ← Hf.out]
   have HFE := Lib.hid (hfinE _ rfl); clear hfinE; by_cases hn : n < 0
   ·have t2 : decide (n < 0) = true := decide_eq_true hn
    have t3 : (255 : Int) - (d : Int) = (f : Int) := by
     have := Hf.out; rw [HNG.out, t2] at this; unfold Wi.fl at this; simp only [if_true] at this; omega
    clear hn
    go_wp2_with (at_builtin; go_loud (refine wpList_appB rfl (.tmp 54) (.tmp 56) rfl w.heap.size _ _ rfl hown2 (some ⟨wr.heap.size, 0, none⟩) 1 1 [f] rfl hby hlen hsz ?_); intro v7 w7 hown7 hg7 ha7)
    have hbz := hbx.grown hg7 hsz (fun q hq => hown2.ge q hq); have hL3 := hL2.kept hg7 hap; have hap3 := Apt.grow hL2 hap ha7; rw [HFE.out] at hown7; clear hg7 hbx hown2 hby hL2 hL hap hown; go_wp2_with fail
    go_roundg (gk - 1)
    case measure => omega
    case rel => exact ⟨j, by go_num, by omega, by omega, hown7, hL3, hap3, hbz⟩
   ·have t2 : decide (n < 0) = false := decide_eq_false hn
    have t3 : d = f := by
     have := Hf.out; rw [HNG.out, t2] at this; unfold Wi.fl at this
     simpa using this.symm
    subst t3; clear hn
    go_wp2_with (at_builtin; go_loud (refine wpList_appB rfl (.tmp 54) (.tmp 56) rfl w.heap.size _ _ rfl hown2 (some ⟨wr.heap.size, 0, none⟩) 1 1 [d] rfl hby hlen hsz ?_); intro v7 w7 hown7 hg7 ha7)
    have hbz := hbx.grown hg7 hsz (fun q hq => hown2.ge q hq); have hL3 := hL2.kept hg7 hap; have hap3 := Apt.grow hL2 hap ha7; rw [HFE.out] at hown7; clear hg7 hbx hown2 hby hL2 hL hap hown; go_wp2_with fail
    go_roundg (gk - 1)
    case measure => omega
    case rel => exact ⟨j, by go_num, by omega, by omega, hown7, hL3, hap3, hbz⟩
  ·obtain rfl : i = 0 := by omega
   rw [Nat.sub_zero] at hown; have e2 : (Wi.be k M).take k = Wi.be k M := List.take_of_length_le (by rw [Wi.be_len]; omega); rw [e2] at hown; have HYE : H0 :: (Wi.be k M).map (Wi.fl neg) = Y := by rw [HY.out, HE.out, ← HH0.out]
   rw [HYE] at hown; obtain ⟨A7, c7, rfl⟩ := hown.shp; have hfin := Lib.hid hown; clear hown HYE; go_wp2_with fail; go_ret; exact ⟨_, rfl, hfin.out, hbe⟩
set_option maxRecDepth 10000 in
set_option maxHeartbeats 400000 in
theorem bsame_n (A1 A2 : Option Addr) (k1 c1 k2 c2 : Nat) (l1 l2 : List Nat) (w : World) (h1 : By w A1 k1 c1 l1) (h2 : By w A2 k2 c2 l2) :
  Calls Tryz.prog 16 #[.slice A1 k1 c1, .slice A2 k2 c2] w fun e w' => ∃ b, e = .returned (.bool b) ∧ Hid (b = sameB l1 l2) ∧ Below w.heap.size w w' := by
 have hkb1 : k1 ≤ 9223372036854775807 := h1.1.2.2; have e1 := h1.len; have e2 := h2.len; have E1 := Lib.hid e1; have E2 := Lib.hid e2; by_cases hk : k1 = k2
 ·subst hk; clear e1 e2
  go_enter Tryz.func16, Tryz.ntmps16
  go_wp2
  go_loopg [5] k1 (fun j x wr => ∃ i : Nat, x = .int .i64 i ∧ i + j = k1 ∧ Hid (l1.take i = l2.take i) ∧ ∃ nq, wr = w.drewN nq)
  case atStart => exact ⟨0, rfl, by omega, by show _ = _; simp, 0, rfl⟩
  case round =>
   obtain ⟨i, rfl, hij, HT, nq, rfl⟩ := hrel; by_cases hi : i < k1
   ·obtain ⟨b1, o1, a, rfl, hca, ha, HA⟩ := h1.get2 (i := i) hi; obtain ⟨b2, o2, b, rfl, hcb, hb, HB⟩ := h2.get2 (i := i) hi; by_cases hab : a = b
    ·have HT2 : Hid (l1.take (i + 1) = l2.take (i + 1)) := take_same (by have := E1.out; omega) (by rw [← E1.out, ← E2.out]) HT.out HA.out HB.out hab; have hd : ((a : Int) != (b : Int)) = false := by rw [hab]; simp
     clear hab; go_wp2_with fail
     go_quiet (fail)
     go_wp2_with fail
     go_roundg (gk - 1)
     case measure => omega
     case rel => exact ⟨i + 1, by go_num, by omega, HT2, _, rfl⟩
    ·have hd : ((a : Int) != (b : Int)) = true := by simp; omega
     have HF : Hid (false = sameB l1 l2) := by
      show _ = _; unfold sameB; symm; rw [decide_eq_false_iff_not]
      rintro rfl; exact hab (HA.out.trans HB.out.symm)
     clear hab; go_wp2_with fail
     go_quiet (fail)
     go_wp2_with fail; go_ret; exact ⟨_, rfl, HF, Below.tr (below_drewN _ _) (below_drewN _ _)⟩
   ·obtain rfl : k1 = i := by omega
    have HF : Hid (true = sameB l1 l2) := by
     show _ = _; unfold sameB; symm; rw [decide_eq_true_iff]
     have := HT.out
     rwa [List.take_of_length_le (by rw [← E1.out]; omega), List.take_of_length_le (by rw [← E2.out]; omega)] at this
    go_wp2_with fail; go_ret; exact ⟨_, rfl, HF, below_drewN _ _⟩
 ·have HF : Hid (false = sameB l1 l2) := by
   show _ = _; unfold sameB; symm; rw [decide_eq_false_iff_not]
   rintro rfl; exact hk (e1.trans e2.symm)
  have hd : ((k1 : Int) != (k2 : Int)) = true := by simp; omega
  clear e1 e2 hk
  go_enter Tryz.func16, Tryz.ntmps16
  go_wp2
  go_ret; exact ⟨_, rfl, HF, Below.refl _ _⟩
end Go.Proofs.YtmbfjmilhfmnkaaGreatDoor
namespace Go.Proofs.YtmbfjmilhfmnkaaGreatDoor
open Go Go.RowKit
theorem flat_map8 (l : List Nat) : l.flatMap u8C = l.map fun n : Nat => (Value.int .u8 (n : Int)) := by
 induction l with
 | nil => rfl
 | cons x l ih => rw [List.flatMap_cons, ih]; rfl
theorem By.empty {w : World} {A : Option Addr} : By w A 0 0 [] := ⟨⟨fun h => absurd rfl h, rfl, by omega⟩, by omega, by omega, fun x hx => (by cases hx), fun h => by omega⟩
/-- a part of a slice of bytes -/
theorem By.sub {w : World} {b0 o0 k c : Nat} {l : List Nat} (h : By w (some ⟨b0, o0, none⟩) k c l) (a m : Nat) (hm : a + m ≤ k) : By w (some ⟨b0, o0 + a, none⟩) m (c - a) ((l.drop a).take m) := by
 have hl := h.len; have hk := h.1.2.2; have h2 := h.2.1; have h3 := h.2.2.1; refine ⟨⟨?_, by rw [List.length_take, List.length_drop]; omega, by omega⟩, by omega, by omega, fun x hx => h.2.2.2.1 x (List.mem_of_mem_drop (List.mem_of_mem_take hx)), fun _ => ⟨_, _, rfl⟩⟩; intro _; refine ⟨b0, o0 + a, rfl, fun i hi => ?_⟩; rw [flat_u8, List.length_take, List.length_drop] at hi; obtain ⟨b, off, n, e, hc, _, HL⟩ := h.get (i := a + i) (by omega); simp only [Option.some.injEq, Addr.mk.injEq, and_true] at e; obtain ⟨rfl, rfl⟩ := e; rw [Nat.add_assoc, hc]; simp only [flat_map8, List.getElem_map, List.getElem_take, List.getElem_drop]; have := (List.getElem?_eq_some_iff.1 HL.out).2; rw [this]
/-- what GetInt returns -/
def giV (l : List Nat) : Value := .tuple #[.int .i64 (Wi.getI l).1, .int .i64 ((Wi.getI l).2.1 : Nat), .int .i64 (Wi.getI l).2.2]
theorem giV_eq {l : List Nat} {a : Int} {b : Nat} {c : Int} (h : Wi.getI l = (a, b, c)) : giV l = .tuple #[.int .i64 a, .int .i64 (b : Nat), .int .i64 c] := by unfold giV; rw [h]
theorem take_map_snoc {r : List Nat} {i x : Nat} {g : Nat → Nat} (h : r[i]? = some x) : (r.take (i + 1)).map g = (r.take i).map g ++ [g x] := by
 rw [List.take_add_one, h]; simp
theorem or_byte (m f : Nat) (hm : m < 72057594037927936) (hf : f < 256) : bits .or .u64 ((m : Int) * 256) (f : Int) = ((m * 256 + f : Nat) : Int) := by
 have e : (m : Int) * 256 = ((m * 256 : Nat) : Int) := by omega
 rw [e, u64_or_nat _ _ (by omega) (by omega), nat_join 8 _ _ (by omega) (by omega)]
theorem val_take_lt {r : List Nat} {g : Nat → Nat} (hr : ∀ x ∈ r, g x < 256) (i : Nat) : Wi.val ((r.take i).map g) < 256 ^ i := by
 have h := Wi.val_lt ((r.take i).map g) (by intro d hd; obtain ⟨x, hx, rfl⟩ := List.mem_map.1 hd; exact hr x (List.mem_of_mem_take hx)); rw [List.length_map, List.length_take] at h; exact Nat.lt_of_lt_of_le h (Nat.pow_le_pow_right (by omega) (Nat.min_le_left _ _))
theorem kOf_gt {h : Nat} (hh : h < 256) : 8 < Wi.kOf h ↔ h < 119 ∨ 136 < h := by
 unfold Wi.kOf
 split <;> omega
theorem fl_kOf {h : Nat} (hh : h < 256) : (Wi.fl (decide (h < 128)) h : Int) - 128 = (Wi.kOf h : Int) := by
 unfold Wi.kOf Wi.fl; by_cases h1 : h < 128
 ·rw [if_pos (decide_eq_true h1), if_pos h1]; omega
 ·rw [if_neg (by simp [h1]), if_neg h1]; omega
theorem getI_form {h : Nat} {r : List Nat} (h1 : 8 < Wi.kOf h) (hh : h < 256) : Wi.getI (h :: r) = (0, 0, 2) := by
 show Wi.getR h r = _
 unfold Wi.getR; rw [if_pos ((kOf_gt hh).1 h1)]
theorem getI_more {h : Nat} {r : List Nat} (h1 : ¬ 8 < Wi.kOf h) (hh : h < 256) (h2 : r.length < Wi.kOf h) : Wi.getI (h :: r) = (0, 0, 3) := by
 show Wi.getR h r = _
 unfold Wi.getR; rw [if_neg (fun e => h1 ((kOf_gt hh).2 e)), if_pos h2]
theorem getI_bad {h : Nat} {r : List Nat} (h1 : ¬ 8 < Wi.kOf h) (hh : h < 256) (h2 : ¬ r.length < Wi.kOf h) (h3 : (Wi.dgs h r).head? = some 0 ∨ 9223372036854775808 ≤ Wi.val (Wi.dgs h r)) : Wi.getI (h :: r) = (0, 0, 2) := by
 show Wi.getR h r = _
 unfold Wi.getR; rw [if_neg (fun e => h1 ((kOf_gt hh).2 e)), if_neg h2, if_pos h3]
theorem getI_good {h : Nat} {r : List Nat} (h1 : ¬ 8 < Wi.kOf h) (hh : h < 256) (h2 : ¬ r.length < Wi.kOf h) (h3 : ¬ (Wi.dgs h r).head? = some 0) (h4 : ¬ 9223372036854775808 ≤ Wi.val (Wi.dgs h r)) : Wi.getI (h :: r) = (Wi.numI h r, Wi.kOf h + 1, 0) := by
 show Wi.getR h r = _
 unfold Wi.getR; rw [if_neg (fun e => h1 ((kOf_gt hh).2 e)), if_neg h2, if_neg (fun e => e.elim h3 h4)]
theorem pow_256 {i : Nat} (h : i ≤ 7) : 256 ^ i ≤ 72057594037927936 := by
 have : (256 : Nat) ^ i ≤ 256 ^ 7 := Nat.pow_le_pow_right (by omega) h
 rwa [show (256 : Nat) ^ 7 = 72057594037927936 by decide] at this
set_option maxRecDepth 100000 in
set_option maxHeartbeats 8000000 in
theorem getint_n (A : Option Addr) (k c : Nat) (l : List Nat) (w : World) (h : By w A k c l) :
  Calls Tryz.prog 86 #[.slice A k c] w fun e w' => e = .returned (giV l) ∧ Below w.heap.size w w' := by
 have hkm : k ≤ 9223372036854775807 := h.1.2.2; have hkc := h.2.1; have hcm := h.2.2.1; have hlen := h.len; obtain ⟨V0, HV⟩ : ∃ v, Hid (v = giV l) := ⟨_, rfl⟩; rw [← HV.out]
 rcases l with _ | ⟨x0, r⟩
 ·obtain rfl : k = 0 := hlen; have HR : Hid (V0 = .tuple #[.int .i64 0, .int .i64 0, .int .i64 3]) := HV.out
  go_enter Tryz.func86, Tryz.ntmps86
  go_wp2_with fail
  go_ret3
  exact ⟨by rw [HR.out]; rfl, Below.refl _ _⟩
 rw [List.length_cons] at hlen; obtain ⟨b0, o0, x, rfl, hc0, hx0, HX0⟩ := h.get (i := 0) (by omega); obtain rfl : x0 = x := by have e := HX0.out; simpa using e
 rw [Nat.add_zero] at hc0; obtain ⟨K, HK⟩ : ∃ K, Hid (K = Wi.kOf x0) := ⟨_, rfl⟩; obtain ⟨neg, HN⟩ : ∃ b, Hid (b = decide (x0 < 128)) := ⟨_, rfl⟩; obtain ⟨F, HF⟩ : ∃ f, Hid (f = Wi.fl neg x0) := ⟨_, rfl⟩; have txF : bits .xor .u8 (x0 : Int) (flV neg : Int) = (F : Int) := by rw [xor_fl neg x0 hx0, HF.out]
 have hF : F < 256 := by rw [HF.out]; exact Wi.fl_lt hx0
 have tK : (F : Int) - 128 = (K : Int) := by rw [HF.out, HN.out, HK.out]; exact fl_kOf hx0
 have hk0 : (0 : Int) < (k : Int) := by omega
 have tk0 : ((k : Int) == 0) = false := by simp; omega
 have HLEN := Lib.hid hlen; clear hlen
 go_enter Tryz.func86, Tryz.ntmps86
 go_upto_if 16 with fail
 go_cut [5] from 13 to 70 (fun t5 wz => t5 = .int .u8 (flV neg : Nat) ∧ wz = w)
 case first => as_aux_lemma =>
  have hNv := HN.out; by_cases hn : x0 < 128
  ·have t1 : decide ((x0 : Int) < 128) = true := by simp; omega
   have t1n : decide (x0 < 128) = true := decide_eq_true hn; rw [t1n] at hNv; subst hNv
   try simp only [t1]
   try simp only [t1n]
   clear hn HN HF txF; go_wp2_with fail
   go_meet
   case rel => exact ⟨rfl, rfl⟩
  ·have t1 : decide ((x0 : Int) < 128) = false := by simp; omega
   have t1n : decide (x0 < 128) = false := decide_eq_false hn; rw [t1n] at hNv; subst hNv
   try simp only [t1]
   try simp only [t1n]
   clear hn HN HF txF; go_wp2_with fail
   go_meet
   case rel => exact ⟨rfl, rfl⟩
 obtain ⟨rfl, hx⟩ := hcut; obtain rfl := hx.symm; clear hx; by_cases h8 : 8 < K
 ·have t2 : decide ((8 : Int) < (K : Int)) = true := by simp; omega
  have t2n : decide (8 < K) = true := decide_eq_true h8; have HR : Hid (V0 = .tuple #[.int .i64 0, .int .i64 0, .int .i64 2]) := HV.out.trans (giV_eq (getI_form (by rw [← HK.out]; exact h8) hx0)); clear h8; go_wp2_with fail
  go_ret3
  exact ⟨by rw [HR.out]; rfl, Below.refl _ _⟩
 have t2 : decide ((8 : Int) < (K : Int)) = false := by simp; omega
 have t2n : decide (8 < K) = false := decide_eq_false h8; by_cases hkK : k ≤ K
 ·have t3 : decide ((k : Int) ≤ (K : Int)) = true := by simp; omega
  have t3n : decide (k ≤ K) = true := decide_eq_true hkK; have HR : Hid (V0 = .tuple #[.int .i64 0, .int .i64 0, .int .i64 3]) := HV.out.trans (giV_eq (getI_more (by rw [← HK.out]; exact h8) hx0 (by rw [← HK.out]; have := HLEN.out; omega))); clear h8 hkK; go_wp2_with fail
  go_ret3
  exact ⟨by rw [HR.out]; rfl, Below.refl _ _⟩
 have t3 : decide ((k : Int) ≤ (K : Int)) = false := by simp; omega
 have t3n : decide (k ≤ K) = false := decide_eq_false hkK; have hKr : ¬ r.length < K := by have := HLEN.out; omega
 obtain ⟨D, HD⟩ : ∃ d, Hid (d = Wi.dgs x0 r) := ⟨_, rfl⟩; have HDD : Hid (D = (r.take K).map (Wi.fl neg)) := by show _ = _; rw [HD.out, HK.out, HN.out]; rfl
 obtain ⟨B, HB⟩ : ∃ b, Hid (b = decide (D.head? = some 0)) := ⟨_, rfl⟩; go_upto_region 11 with fail
 go_cut [32] from 33 to 70 (fun t wz => t = .bool B ∧ wz = w)
 case first => as_aux_lemma =>
  by_cases hK0 : 0 < K
  ·have t4 : decide ((0 : Int) < (K : Int)) = true := by simp; omega
   have t4n : decide (0 < K) = true := decide_eq_true hK0; have hk1 : (1 : Int) < (k : Int) := by omega
   obtain ⟨b1, o1, y, e1, hc1, hy, HY⟩ := h.get (i := 1) (by omega); simp only [Option.some.injEq, Addr.mk.injEq, and_true] at e1; obtain ⟨rfl, rfl⟩ := e1; obtain ⟨f, Hf⟩ : ∃ f, Hid (f = Wi.fl neg y) := ⟨_, rfl⟩; have tx : bits .xor .u8 (y : Int) (flV neg : Int) = (f : Int) := by rw [xor_fl neg y hy, Hf.out]
   have hB : B = decide (f = 0) := by
    rw [HB.out, HDD.out]; have hr0 : r[0]? = some y := by have e := HY.out; simpa using e
    rcases r with _ | ⟨r0, rr⟩
    ·simp at hr0
    ·simp only [List.getElem?_cons_zero, Option.some.injEq] at hr0; subst hr0; obtain ⟨K', rfl⟩ : ∃ K', K = K' + 1 := ⟨K - 1, by omega⟩; rw [List.take_succ_cons, List.map_cons, List.head?_cons, ← Hf.out]; simp
   have tB : ((f : Int) == 0) = B := by rw [hB]; by_cases e : f = 0 <;> simp [e]
   clear hB; go_wp2_with fail
   go_meet
   case rel => exact ⟨rfl, rfl⟩
  ·have t4 : decide ((0 : Int) < (K : Int)) = false := by simp; omega
   have t4n : decide (0 < K) = false := decide_eq_false hK0
   have hB : B = false := by
    rw [HB.out, HDD.out]; obtain rfl : K = 0 := by omega
    simp
   subst hB; go_wp2_with fail
   go_meet
   case rel => exact ⟨rfl, rfl⟩
 obtain ⟨rfl, hx⟩ := hcut; obtain rfl := hx.symm; clear hx
 cases B
 rotate_left
 ·have hh : D.head? = some 0 := of_decide_eq_true HB.out.symm; have HR : Hid (V0 = .tuple #[.int .i64 0, .int .i64 0, .int .i64 2]) := HV.out.trans (giV_eq (getI_bad (by rw [← HK.out]; exact h8) hx0 (by rw [← HK.out]; omega) (.inl (by rw [← HD.out]; exact hh)))); clear hh h8 hkK; go_wp2_with fail
  go_ret3
  exact ⟨by rw [HR.out]; rfl, Below.refl _ _⟩
 have hh : ¬ D.head? = some 0 := of_decide_eq_false HB.out.symm; have hK8 : K ≤ 8 := by omega
 have hK1 : (K : Int) + 1 ≤ (k : Int) := by omega
 have hK1n : K + 1 ≤ k := by omega
 have hr255 : ∀ x ∈ r, Wi.fl neg x < 256 := fun x hx => Wi.fl_lt (h.2.2.2.1 x (by simp [hx]))
 have HHH := Lib.hid hh; have HRR := Lib.hid hr255; clear hh hr255; go_upto_region 14 with fail
 go_cut [46, 47, 48] from 43 to 70 (fun t46 t47 t48 wz => (∃ A' c', t46 = .slice A' K c' ∧ By w A' K c' (r.take K)) ∧ t47 = .int .i64 (K : Nat) ∧ t48 = .int .i64 0 ∧ wz = w)
 case first => as_aux_lemma =>
  by_cases hc1 : c = 1
  ·have hK0 : K = 0 := by omega
   subst hK0 hc1; go_wp2_with fail
   all_goals
    go_meet
    case rel => exact ⟨⟨_, _, rfl, By.empty⟩, rfl, rfl, rfl⟩
  ·have hs := h.sub 1 K (by omega); rw [List.drop_succ_cons, List.drop_zero] at hs; have HS := Lib.hid hs; clear hs; have hc1n : (c == 1) = false := by simpa using hc1
   go_wp2_with fail
   go_meet
   case rel => exact ⟨⟨_, _, rfl, HS.out⟩, rfl, rfl, rfl⟩
 obtain ⟨⟨A', c', rfl, hT⟩, rfl, rfl, hx⟩ := hcut; obtain rfl := hx.symm; clear hx; go_wp2_with fail
 go_loopg [7, 48] K (fun j v x wr => ∃ i : Nat, x = .int .i64 i ∧ i + j = K ∧ v = .int .u64 ((Wi.val ((r.take i).map (Wi.fl neg)) : Nat) : Int) ∧ wr = w)
 case atStart => exact ⟨0, rfl, by omega, rfl, rfl⟩
 case round =>
  obtain ⟨i, rfl, hij, rfl, rfl⟩ := hrel; obtain ⟨m, Hm⟩ : ∃ m, Hid (m = Wi.val ((r.take i).map (Wi.fl neg))) := ⟨_, rfl⟩; rw [← Hm.out]; by_cases hi : i < K
  ·have hm : m < 72057594037927936 := by rw [Hm.out]; exact Nat.lt_of_lt_of_le (val_take_lt HRR.out i) (pow_256 (by omega))
   have hiK : (i : Int) < (K : Int) := by omega
   have t5 : decide ((i : Int) < (K : Int)) = true := by simp; omega
   obtain ⟨b1, o1, y, rfl, hc1, hy, HY⟩ := hT.get (i := i) hi; have hry : r[i]? = some y := by have e := HY.out; rw [List.getElem?_take, if_pos hi] at e; exact e
   obtain ⟨f, Hf⟩ : ∃ f, Hid (f = Wi.fl neg y) := ⟨_, rfl⟩; have hf : f < 256 := by rw [Hf.out]; exact Wi.fl_lt hy
   have tx : bits .xor .u8 (y : Int) (flV neg : Int) = (f : Int) := by rw [xor_fl neg y hy, Hf.out]
   have tsl : ((m : Int) * 256) % 18446744073709551616 = (m : Int) * 256 := by omega
   have tor := or_byte m f hm hf; obtain ⟨m2, Hm2⟩ : ∃ m2, Hid (m2 = m * 256 + f) := ⟨_, rfl⟩; rw [← Hm2.out] at tor; have HM3 : Hid (m2 = Wi.val ((r.take (i + 1)).map (Wi.fl neg))) := by show _ = _; rw [take_map_snoc hry, Wi.val_snoc, ← Hm.out, Hm2.out, Hf.out]
   clear hry; go_wp2_with fail
   go_roundg (gk - 1)
   case measure => omega
   case rel => exact ⟨i + 1, by go_num, by omega, by rw [← HM3.out], rfl⟩
  ·obtain rfl : i = K := by omega
   have t5 : decide ((i : Int) < (i : Int)) = false := by simp
   have HM3 : Hid (m = Wi.val (Wi.dgs x0 r)) := by show _ = _; rw [Hm.out, ← HDD.out, HD.out]
   have hm : m < 18446744073709551616 := by
    have h1 := val_take_lt HRR.out i; have h2 : (256 : Nat) ^ i ≤ 256 ^ 8 := Nat.pow_le_pow_right (by omega) hK8; have h3 : (256 : Nat) ^ 8 = 18446744073709551616 := by decide
    rw [← Hm.out] at h1; omega
   obtain ⟨Q, HQ⟩ : ∃ q, Hid (q = m / 9223372036854775808) := ⟨_, rfl⟩; have tq : (m : Int) / 9223372036854775808 = (Q : Int) := by rw [HQ.out]; omega
   by_cases hbig : 9223372036854775808 ≤ m
   ·have hQ : 0 < Q := by rw [HQ.out]; omega
    have t6 : decide (0 < Q) = true := decide_eq_true hQ; have HR : Hid (V0 = .tuple #[.int .i64 0, .int .i64 0, .int .i64 2]) := HV.out.trans (giV_eq (getI_bad (by rw [← HK.out]; exact h8) hx0 (by rw [← HK.out]; omega) (.inr (by rw [← HM3.out]; exact hbig)))); clear hbig hQ; go_wp2_with fail
    go_ret3
    exact ⟨by rw [HR.out]; rfl, Below.refl _ _⟩
   ·have hQ : Q = 0 := by rw [HQ.out]; omega
    subst hQ; have HR := Lib.hid (HV.out.trans (giV_eq (getI_good (by rw [← HK.out]; exact h8) hx0 (by rw [← HK.out]; omega) (by rw [← HD.out]; exact HHH.out) (by rw [← HM3.out]; exact hbig))))
    have HNI : Hid (Wi.numI x0 r = if neg then -1 - (m : Int) else (m : Int)) := by
     show _ = _
     unfold Wi.numI; rw [← HM3.out, HN.out]; by_cases e : x0 < 128 <;> simp [e]
    cases neg
    ·have t6 : decide (0 < flV false) = false := rfl; have tw : IntKind.i64.wrap (m : Int) = (m : Int) := by rw [IntWalk.i64_in _ (by omega)]
     clear hbig; go_wp2_with fail
     go_ret3
     exact ⟨by rw [HR.out, HNI.out, ← HK.out]; rfl, Below.refl _ _⟩
    ·have t6 : decide (0 < flV true) = true := rfl
     have tn : bits .xor .u64 IntKind.u64.max (m : Int) = ((18446744073709551615 - m : Nat) : Int) := by
      have e2 : IntKind.u64.max = ((18446744073709551615 : Nat) : Int) := by decide +kernel
      rw [e2, u64_xor_nat _ _ (by omega) (by omega), u64_not _ (by omega)]
     obtain ⟨m', Hm'⟩ : ∃ m', Hid (m' = 18446744073709551615 - m) := ⟨_, rfl⟩; rw [← Hm'.out] at tn; have tw : wrap64 (m' : Int) = -1 - (m : Int) := by rw [← IntWalk.i64_left, IntKind.wrap_i64, Hm'.out]; omega
     clear hbig; go_wp2_with fail
     go_ret3
     exact ⟨by rw [HR.out, HNI.out, ← HK.out]; rfl, Below.refl _ _⟩
end Go.Proofs.YtmbfjmilhfmnkaaGreatDoor
namespace Go.Proofs.YtmbfjmilhfmnkaaGreatDoor
open Go Go.RowKit
theorem sameB_dec (l1 l2 : List Nat) : sameB l1 l2 = decide (l1 = l2) := rfl
def PhiGi (nn : Int) (A : Option Addr) (k c K : Nat) (A' : Option Addr) (c' L : Nat) (E T : List Nat) (j : Nat) (w : World) (x : Value) : Prop :=
 match j with
 | 0 => x = .int .i64 nn
 | 1 => ∃ B d, x = .slice B L d ∧ By w B L d E
 | 2 => x = .slice A k c
 | 3 => x = .int .i64 (K : Nat)
 | 4 => x = .int .i64 ((K : Int) + 1)
 | 5 => x = .slice A' (K + 1) c'
 | 6 => x = .bool (decide (E = T))
 | 7 => x = .bool (!decide (E = T))
 | _ => True

theorem PhiGi.keep {nn : Int} {A : Option Addr} {k c K : Nat} {A' : Option Addr} {c' L : Nat} {E T : List Nat} : ∀ (w w' : World), Below w.heap.size w w' → ∀ j x, PhiGi nn A k c K A' c' L E T j w x → PhiGi nn A k c K A' c' L E T j w' x := by
 intro w w' hb j x h; unfold PhiGi at h ⊢
 split <;> simp only at h ⊢
 all_goals first
  | exact h
  | (obtain ⟨B, d, e, h⟩ := h; exact ⟨B, d, e, h.below hb⟩)
set_option maxRecDepth 100000 in
set_option maxHeartbeats 8000000 in
theorem rgetint_n (A : Option Addr) (k c : Nat) (l : List Nat) (w : World) (h : By w A k c l) :
  Calls Tryz.prog 64 #[.slice A k c] w fun e w' => e = .returned (giV l) ∧ Below w.heap.size w w' := by
 have hkm : k ≤ 9223372036854775807 := h.1.2.2; have hkc := h.2.1; have hcm := h.2.2.1; have hlen := h.len; obtain ⟨V0, HV⟩ : ∃ v, Hid (v = giV l) := ⟨_, rfl⟩; rw [← HV.out]
 rcases l with _ | ⟨x0, r⟩
 ·obtain rfl : k = 0 := hlen; have HR : Hid (V0 = .tuple #[.int .i64 0, .int .i64 0, .int .i64 3]) := HV.out
  go_enter Tryz.func64, Tryz.ntmps64
  go_wp2_with fail
  go_ret3
  exact ⟨by rw [HR.out]; rfl, Below.refl _ _⟩
 rw [List.length_cons] at hlen; obtain ⟨b0, o0, x, rfl, hc0, hx0, HX0⟩ := h.get (i := 0) (by omega); obtain rfl : x0 = x := by have e := HX0.out; simpa using e
 rw [Nat.add_zero] at hc0; obtain ⟨K, HK⟩ : ∃ K, Hid (K = Wi.kOf x0) := ⟨_, rfl⟩; obtain ⟨neg, HN⟩ : ∃ b, Hid (b = decide (x0 < 128)) := ⟨_, rfl⟩; have hk0 : (0 : Int) < (k : Int) := by omega
 have tk0 : ((k : Int) == 0) = false := by simp; omega
 have HLEN := Lib.hid hlen; clear hlen
 go_enter Tryz.func64, Tryz.ntmps64
 by_cases h8 : 8 < K
 ·have hcase := (kOf_gt hx0).1 (by rw [← HK.out]; exact h8); have HR : Hid (V0 = .tuple #[.int .i64 0, .int .i64 0, .int .i64 2]) := HV.out.trans (giV_eq (getI_form (by rw [← HK.out]; exact h8) hx0)); clear h8; by_cases h119 : x0 < 119
  ·have t1 : decide ((x0 : Int) < 119) = true := by simp; omega
   have t1n : decide (x0 < 119) = true := decide_eq_true h119; clear hcase h119; go_wp2_with fail
   go_ret3
   exact ⟨by rw [HR.out]; rfl, Below.refl _ _⟩
  ·have t1 : decide ((x0 : Int) < 119) = false := by simp; omega
   have t1n : decide (x0 < 119) = false := decide_eq_false h119; have h136 : 136 < x0 := by omega
   have t2 : decide ((136 : Int) < (x0 : Int)) = true := by simp; omega
   have t2n : decide (136 < x0) = true := decide_eq_true h136; clear hcase h119 h136; go_wp2_with fail
   go_ret3
   exact ⟨by rw [HR.out]; rfl, Below.refl _ _⟩
 have hcase : ¬ (x0 < 119 ∨ 136 < x0) := fun e => h8 (by rw [HK.out]; exact (kOf_gt hx0).2 e)
 have t1 : decide ((x0 : Int) < 119) = false := by simp; omega
 have t1n : decide (x0 < 119) = false := decide_eq_false (by omega); have t2 : decide ((136 : Int) < (x0 : Int)) = false := by simp; omega
 have t2n : decide (136 < x0) = false := decide_eq_false (by omega); have hK8 : K ≤ 8 := by omega
 go_upto_if 27 with fail
 go_cut [6] from 24 to 70 (fun t6 wz => t6 = .int .i64 (K : Nat) ∧ wz = w)
 case first => as_aux_lemma =>
  have hKv := HK.out; unfold Wi.kOf at hKv; by_cases hn : x0 < 128
  ·have t3 : decide ((x0 : Int) < 128) = true := by simp; omega
   have t3n : decide (x0 < 128) = true := decide_eq_true hn; rw [if_pos hn] at hKv; have t4 : (127 : Int) - (x0 : Int) = (K : Int) := by omega
   try simp only [t3]
   try simp only [t3n]
   clear hKv hn hcase; go_wp2_with fail
   go_meet
   case rel => exact ⟨rfl, rfl⟩
  ·have t3 : decide ((x0 : Int) < 128) = false := by simp; omega
   have t3n : decide (x0 < 128) = false := decide_eq_false hn; rw [if_neg hn] at hKv; have t4 : (x0 : Int) - 128 = (K : Int) := by omega
   try simp only [t3]
   try simp only [t3n]
   clear hKv hn hcase; go_wp2_with fail
   go_meet
   case rel => exact ⟨by rw [t4], rfl⟩
 obtain ⟨rfl, hx⟩ := hcut; obtain rfl := hx.symm; clear hx; by_cases hkK : k ≤ K
 ·have t3 : decide ((k : Int) < (K : Int) + 1) = true := by simp; omega
  have t3n : decide (k < K + 1) = true := decide_eq_true (by omega); have HR : Hid (V0 = .tuple #[.int .i64 0, .int .i64 0, .int .i64 3]) := HV.out.trans (giV_eq (getI_more (by rw [← HK.out]; exact h8) hx0 (by rw [← HK.out]; have := HLEN.out; omega))); clear h8 hkK hcase; go_wp2_with fail
  go_ret3
  exact ⟨by rw [HR.out]; rfl, Below.refl _ _⟩
 have t3 : decide ((k : Int) < (K : Int) + 1) = false := by simp; omega
 have t3n : decide (k < K + 1) = false := decide_eq_false (by omega); have hKr : ¬ r.length < K := by have := HLEN.out; omega
 have hr255 : ∀ x ∈ r, Wi.fl neg x < 256 := fun x hx => Wi.fl_lt (h.2.2.2.1 x (by simp [hx]))
 have HRR := Lib.hid hr255; have hKk : K < k := by omega
 clear hr255; go_wp2_with fail
 go_loopg [7, 8] K (fun j v x wr => ∃ i : Nat, x = .int .i64 ((i : Int) + 1) ∧ i + j = K ∧ v = .int .i64 ((Wi.val ((r.take i).map (Wi.fl neg)) : Nat) : Int) ∧ Wi.val ((r.take i).map (Wi.fl neg)) < 9223372036854775808 ∧ wr = w)
 case atStart => exact ⟨0, rfl, by omega, rfl, by show 0 < 9223372036854775808; omega, rfl⟩
 case round =>
  obtain ⟨i, rfl, hij, rfl, hmlt, rfl⟩ := hrel; obtain ⟨m, Hm⟩ : ∃ m, Hid (m = Wi.val ((r.take i).map (Wi.fl neg))) := ⟨_, rfl⟩; rw [← Hm.out] at hmlt ⊢; by_cases hi : i < K
  ·have t5 : decide ((i : Int) + 1 ≤ (K : Int)) = true := by simp; omega
   have t5n : decide (i + 1 ≤ K) = true := decide_eq_true (by omega); have hik1 : (i : Int) + 1 < (k : Int) := by omega
   obtain ⟨b1, o1, y, e1, hc1, hy, HY⟩ := h.get (i := i + 1) (by omega); simp only [Option.some.injEq, Addr.mk.injEq, and_true] at e1; obtain ⟨rfl, rfl⟩ := e1; have hc2 := hc1; rw [show o0 + (i + 1) = o0 + 1 + i by omega] at hc2; have hry : r[i]? = some y := by have e := HY.out; simpa using e
   obtain ⟨f, Hf⟩ : ∃ f, Hid (f = Wi.fl neg y) := ⟨_, rfl⟩; have hf : f < 256 := by rw [Hf.out]; exact Wi.fl_lt hy
   obtain ⟨m2, Hm2⟩ : ∃ m2, Hid (m2 = m * 256 + f) := ⟨_, rfl⟩; have HM3 : Hid (m2 = Wi.val ((r.take (i + 1)).map (Wi.fl neg))) := by show _ = _; rw [take_map_snoc hry, Wi.val_snoc, ← Hm.out, Hm2.out, Hf.out]
   have hfv := Hf.out; unfold Wi.fl at hfv; have hNv := HN.out; clear hry; by_cases hbig : 36028797018963967 < m
   ·have t6 : decide ((36028797018963967 : Int) < (m : Int)) = true := by simp; omega
    have t6n : decide (36028797018963967 < m) = true := decide_eq_true hbig
    have hB : 9223372036854775808 ≤ Wi.val (Wi.dgs x0 r) := by
     have hE : (Wi.dgs x0 r) = ((r.take K).map (Wi.fl neg)) := by rw [HK.out, HN.out]; rfl
     have hS : (r.take K).map (Wi.fl neg) = (r.take i).map (Wi.fl neg) ++ ((r.take K).drop i).map (Wi.fl neg) := by
      rw [← List.map_append]
      congr 1
      have := (List.take_append_drop i (r.take K)).symm; rw [List.take_take, Nat.min_eq_left (by omega)] at this; exact this
     have hv : Wi.val (Wi.dgs x0 r) = m * 256 ^ (K - i) + Wi.val (((r.take K).drop i).map (Wi.fl neg)) := by
      rw [hE, hS]
      have h1 : Wi.val ((r.take i).map (Wi.fl neg) ++ ((r.take K).drop i).map (Wi.fl neg)) = (((r.take K).drop i).map (Wi.fl neg)).foldl (fun a d => a * 256 + d) (Wi.val ((r.take i).map (Wi.fl neg))) := by
       unfold Wi.val; rw [List.foldl_append]
      rw [h1, Wi.val_from, ← Hm.out, List.length_map, List.length_drop, List.length_take, Nat.min_eq_left (by omega)]
     rw [hv]; have h2 : 256 ^ 1 ≤ 256 ^ (K - i) := Nat.pow_le_pow_right (by omega) (by omega); have h3 : m * 256 ≤ m * 256 ^ (K - i) := Nat.mul_le_mul_left m (by simpa using h2); omega
    have HR : Hid (V0 = .tuple #[.int .i64 0, .int .i64 0, .int .i64 2]) := HV.out.trans (giV_eq (getI_bad (by rw [← HK.out]; exact h8) hx0 (by rw [← HK.out]; omega) (.inr hB))); clear hbig hB h8 hcase hkK hKr hij; by_cases hn : x0 < 128
    ·have t7 : decide ((x0 : Int) < 128) = true := by simp; omega
     have t7n : decide (x0 < 128) = true := decide_eq_true hn; rw [t7n] at hNv; subst hNv; rw [if_pos rfl] at hfv; have t8 : (255 : Int) - (y : Int) = (f : Int) := by omega
     clear hn hfv; go_wp2_with fail
     go_ret3
     exact ⟨by rw [HR.out]; rfl, Below.refl _ _⟩
    ·have t7 : decide ((x0 : Int) < 128) = false := by simp; omega
     have t7n : decide (x0 < 128) = false := decide_eq_false hn; clear hn hfv hNv; go_wp2_with fail
     go_ret3
     exact ⟨by rw [HR.out]; rfl, Below.refl _ _⟩
   ·have t6 : decide ((36028797018963967 : Int) < (m : Int)) = false := by simp; omega
    have t6n : decide (36028797018963967 < m) = false := decide_eq_false hbig; have hm2 : m2 < 9223372036854775808 := by have := Hm2.out; omega
    have t9 : 256 * (m : Int) + (f : Int) = (m2 : Int) := by rw [Hm2.out]; omega
    have hmb : m ≤ 36028797018963967 := by omega
    clear hbig h8 hcase hkK hKr; by_cases hn : x0 < 128
    ·have t7 : decide ((x0 : Int) < 128) = true := by simp; omega
     have t7n : decide (x0 < 128) = true := decide_eq_true hn; rw [t7n] at hNv; subst hNv; rw [if_pos rfl] at hfv; have t8 : (255 : Int) - (y : Int) = (f : Int) := by omega
     clear hn hfv; go_wp2_with fail
     go_roundg (gk - 1)
     case measure => omega
     case rel => exact ⟨i + 1, by go_num, by omega, by rw [← HM3.out], by rw [← HM3.out]; exact hm2, rfl⟩
    ·have t7 : decide ((x0 : Int) < 128) = false := by simp; omega
     have t7n : decide (x0 < 128) = false := decide_eq_false hn; rw [t7n] at hNv; subst hNv; rw [if_neg (by simp)] at hfv; subst hfv; clear hn; go_wp2_with fail
     go_roundg (gk - 1)
     case measure => omega
     case rel => exact ⟨i + 1, by go_num, by omega, by rw [← HM3.out], by rw [← HM3.out]; exact hm2, rfl⟩
  ·obtain rfl : i = K := by omega
   have t5 : decide ((i : Int) + 1 ≤ (i : Int)) = false := by simp; omega
   have t5n : decide (i + 1 ≤ i) = false := decide_eq_false (by omega); have hDD : Wi.dgs x0 r = (r.take i).map (Wi.fl neg) := by rw [HK.out, HN.out]; rfl
   have HM3 : Hid (m = Wi.val (Wi.dgs x0 r)) := by show _ = _; rw [Hm.out, hDD]
   obtain ⟨nn, HNV⟩ : ∃ n : Int, Hid (n = if neg then -1 - (m : Int) else (m : Int)) := ⟨_, rfl⟩; have HNN : Hid (-9223372036854775808 ≤ nn ∧ nn ≤ 9223372036854775807) := by show _ ∧ _; rw [HNV.out]; split <;> omega
   have HNI : Hid (Wi.numI x0 r = nn) := by
    show _ = _
    unfold Wi.numI; rw [← HM3.out, HNV.out, HN.out]; by_cases e : x0 < 128 <;> simp [e]
   have HSI : Hid (Wi.encI nn = x0 :: r.take i ↔ ¬ (Wi.dgs x0 r).head? = some 0) := by
    have hneg : Wi.negB nn = neg := by
     unfold Wi.negB; rw [HNV.out]
     cases neg
     ·simp
     ·simp; omega
    have hmag : Wi.mag nn = m := by
     unfold Wi.mag; rw [HNV.out]
     cases neg
     ·rw [show (if false = true then (-1 - (m : Int)) else (m : Int)) = m from rfl, if_neg (by omega)]; omega
     ·rw [show (if true = true then (-1 - (m : Int)) else (m : Int)) = -1 - m from rfl, if_pos (by omega)]; omega
    have hhead : Wi.headB neg i = x0 := by
     have h1 := HK.out; have h2 := HN.out; unfold Wi.kOf at h1; unfold Wi.headB; by_cases e : x0 < 128
     ·rw [decide_eq_true e] at h2; subst h2; rw [if_pos e] at h1; rw [if_pos rfl]; omega
     ·rw [decide_eq_false e] at h2; subst h2; rw [if_neg e] at h1; rw [if_neg (by simp)]; omega
    have h1 := Wi.same_iff (n := nn) (neg := neg) (k := i) (ds := r.take i) (fun d hd => h.2.2.2.1 d (by simp [List.mem_of_mem_take hd])) (by rw [List.length_take]; omega) hneg (by rw [hmag, HM3.out, hDD]) hK8; rw [hhead] at h1
    show _ ↔ _
    rw [h1, hDD]
   obtain ⟨E, HEE⟩ : ∃ E, Hid (E = Wi.encI nn) := ⟨_, rfl⟩; obtain ⟨L, HLL⟩ : ∃ L, Hid (L = E.length) := ⟨_, rfl⟩; have HEL : Hid ((Wi.encI nn).length ≤ 9) := Wi.encI_len HNN.out.1 HNN.out.2; obtain ⟨T, HTT⟩ : ∃ T, Hid (T = x0 :: r.take i) := ⟨_, rfl⟩
   have hT : By wr (some ⟨b0, o0, none⟩) (i + 1) c T := by
    have := h.sub 0 (i + 1) (by omega); rw [Nat.add_zero, Nat.sub_zero, List.drop_zero, List.take_succ_cons, ← HTT.out] at this; exact this
   have hik1 : (i : Int) + 1 ≤ (k : Int) := by omega
   go_upto_if 57 with fail
   go_cut [10] from 56 to 70 (fun t wz => t = .int .i64 nn ∧ wz = wr)
   case first => as_aux_lemma =>
    have hNv := HN.out; have hVv := HNV.out; by_cases hn : x0 < 128
    ·have t7 : decide ((x0 : Int) < 128) = true := by simp; omega
     have t7n : decide (x0 < 128) = true := decide_eq_true hn; rw [t7n] at hNv; subst hNv; rw [if_pos rfl] at hVv; have t8 : -1 - (m : Int) = nn := hVv.symm
     try simp only [t7]
     try simp only [t7n]
     clear hn hVv; go_wp2_with fail
     go_meet
     case rel => exact ⟨rfl, rfl⟩
    ·have t7 : decide ((x0 : Int) < 128) = false := by simp; omega
     have t7n : decide (x0 < 128) = false := decide_eq_false hn; rw [t7n] at hNv; subst hNv; rw [if_neg (by simp)] at hVv
     try simp only [t7]
     try simp only [t7n]
     clear hn; go_wp2_with fail
     go_meet
     case rel => exact ⟨by rw [hVv], rfl⟩
   obtain ⟨rfl, hx⟩ := hcut; obtain rfl := hx.symm; clear hx; obtain ⟨K9, hK9⟩ : ∃ z, z = i := ⟨_, rfl⟩; rw [← hK9] at hT hik1 ⊢; have HK1 : Hid (K9 + 1 ≤ c) := by show _ ≤ _; omega
   have HK9 := Lib.hid hK9; clear hK9; have s1 : IntKind.i64.wrap ((K9 : Int) + 1) = (K9 : Int) + 1 := by rw [IntWalk.i64_in _ (by omega)]
   go_upto_region 24 with fail; refine region_invF (PhiGi nn (some ⟨b0, o0, none⟩) k c K9 (some ⟨b0, o0, none⟩) c L E T) (fun w w' => Below w.heap.size w w') (fun W => Below wr.heap.size wr W) (by kernel_rfl) (by kernel_rfl) (by kernel_rfl) PhiGi.keep (fun _ _ hR hS => Below.tr hS hR) (bD _) (fun vs => by simp only [fillR, Act.put, sA, sB, sC, Nat.zero_add, Nat.reduceAdd]; rfl) ?_ ?_
   ·refine sK ?_ (sK ?_ (sK ?_ (sK ?_ (sK ?_ (sK ?_ (sK ?_ (sK ?_ (sZ))))))))
    ·as_aux_lemma =>
     intro vs W hS hdep K hK; refine ⟨?_⟩; simp only [Act.put, sA, sB, sC, Nat.zero_add, Nat.reduceAdd] at hK ⊢; go_simp; with_reducible refine hK _ _ (Below.refl _ _) ?_
     exact rfl
    ·as_aux_lemma =>
     intro vs W hS hdep K hK; have d0 := hdep ⟨0, .data⟩ (by simp) rfl; simp only [PhiGi] at d0; refine ⟨?_⟩; simp only [Act.put, sA, sB, sC, Nat.zero_add, Nat.reduceAdd, d0] at hK ⊢; go_simp; refine (rint_n nn _ HNN.out.1 HNN.out.2).mono ?_; rintro e w' ⟨v, rfl, ho, hb⟩; obtain ⟨B, d, rfl⟩ := ho.shp; have hby := ho.by_ (by have := HEL.out; omega); rw [← HEE.out] at hby ⊢; rw [← HLL.out] at hby ⊢; go_wp2_with fail; with_reducible refine hK _ _ hb ?_
     exact ⟨_, _, rfl, hby⟩
    ·as_aux_lemma =>
     intro vs W hS hdep K hK; refine ⟨?_⟩; simp only [Act.put, sA, sB, sC, Nat.zero_add, Nat.reduceAdd] at hK ⊢; go_simp; with_reducible refine hK _ _ (Below.refl _ _) ?_
     exact rfl
    ·as_aux_lemma =>
     intro vs W hS hdep K hK; refine ⟨?_⟩; simp only [Act.put, sA, sB, sC, Nat.zero_add, Nat.reduceAdd] at hK ⊢; go_simp; with_reducible refine hK _ _ (Below.refl _ _) ?_
     exact rfl
    ·as_aux_lemma =>
     intro vs W hS hdep K hK; have d0 := hdep ⟨3, .data⟩ (by simp) rfl; simp only [PhiGi] at d0; refine ⟨?_⟩; simp only [Act.put, sA, sB, sC, Nat.zero_add, Nat.reduceAdd, d0] at hK ⊢; go_simp; with_reducible refine hK _ _ (Below.refl _ _) ?_
     exact rfl
    ·as_aux_lemma =>
     intro vs W hS hdep K hK; have d0 := hdep ⟨2, .data⟩ (by simp) rfl; simp only [PhiGi] at d0; have d1 := hdep ⟨4, .data⟩ (by simp) rfl; simp only [PhiGi] at d1; have hk1 := HK1.out; have hk2 : (K9 : Int) + 1 ≤ (c : Int) := by omega
     have hk3 : (0 : Int) ≤ (K9 : Int) + 1 := by omega
     have hk4 : ((K9 : Int) + 1).toNat = K9 + 1 := by omega
     refine ⟨?_⟩; simp only [Act.put, sA, sB, sC, Nat.zero_add, Nat.reduceAdd, d0, d1] at hK ⊢; go_simp; with_reducible refine hK _ _ (Below.refl _ _) ?_
     exact rfl
    ·as_aux_lemma =>
     intro vs W hS hdep K hK; have d0 := hdep ⟨1, .data⟩ (by simp) rfl; simp only [PhiGi] at d0; refine @exE2 _ _ _ _ d0 ?_; clear d0; intro B0 d0 d0; have e0 := d0.1; have n0 := d0.2; clear d0; have d1 := hdep ⟨5, .data⟩ (by simp) rfl; simp only [PhiGi] at d1; refine ⟨?_⟩; simp only [Act.put, sA, sB, sC, Nat.zero_add, Nat.reduceAdd, e0, d1] at hK ⊢; go_simp; refine (bsame_n _ _ _ _ _ _ _ _ _ n0 (hT.below hS)).mono ?_; rintro e w' ⟨b, rfl, HBB, hb⟩; go_wp2_with fail; with_reducible refine hK _ _ hb ?_
     exact (congrArg Value.bool HBB.out)
    ·as_aux_lemma =>
     intro vs W hS hdep K hK; have d0 := hdep ⟨6, .data⟩ (by simp) rfl; simp only [PhiGi] at d0; refine ⟨?_⟩; simp only [Act.put, sA, sB, sC, Nat.zero_add, Nat.reduceAdd, d0] at hK ⊢; go_simp; with_reducible refine hK _ _ (Below.refl _ _) ?_
     exact rfl
   intro vs w3 hb hv; have v7 := hv 7 (by simp); simp only [PhiGi] at v7; simp only [Act.put, sA, sB, sC, Nat.zero_add, Nat.reduceAdd, v7]; clear hv; obtain ⟨bb, HBE⟩ : ∃ b, Hid (b = decide (E = T)) := ⟨_, rfl⟩; rw [← HBE.out]
   cases bb
   ·have hne : ¬ E = T := of_decide_eq_false HBE.out.symm
    have hd0 : (Wi.dgs x0 r).head? = some 0 := by
     by_cases e : (Wi.dgs x0 r).head? = some 0
     ·exact e
     ·exact absurd (HEE.out.trans ((HSI.out.2 e).trans HTT.out.symm)) hne
    have HR : Hid (V0 = .tuple #[.int .i64 0, .int .i64 0, .int .i64 2]) := HV.out.trans (giV_eq (getI_bad (by rw [← HK.out]; exact h8) hx0 (by rw [← HK.out]; omega) (.inl hd0))); clear hne hd0 v7; go_wp2_with fail
    go_ret3
    exact ⟨by rw [HR.out]; rfl, hb⟩
   ·have he : E = T := of_decide_eq_true HBE.out.symm; have hd0 : ¬ (Wi.dgs x0 r).head? = some 0 := HSI.out.1 (HEE.out.symm.trans (he.trans HTT.out)); have HR : Hid (V0 = .tuple #[.int .i64 nn, .int .i64 ((K9 + 1 : Nat) : Int), .int .i64 0]) := HV.out.trans (giV_eq ((getI_good (by rw [← HK.out]; exact h8) hx0 (by rw [← HK.out]; omega) hd0 (by rw [← HM3.out]; omega)).trans (by rw [HNI.out, ← HK.out, HK9.out]))); clear he hd0 v7; go_wp2_with fail
    go_ret3
    exact ⟨by rw [HR.out]; rfl, hb⟩
end Go.Proofs.YtmbfjmilhfmnkaaGreatDoor
namespace Go.Proofs.YtmbfjmilhfmnkaaGreatDoor
open Go Go.RowKit
theorem getI_fit (l : List Nat) : ∃ v1 v2 v3, Wi.getI l = (v1, v2, v3) ∧ (v3 = 0 ∨ v3 = 2 ∨ v3 = 3) ∧ v2 ≤ l.length ∧ v2 ≤ 9 ∧ -9223372036854775808 ≤ v1 ∧ v1 ≤ 9223372036854775807 := by
 obtain ⟨h1, h2, h3⟩ := Wi.getI_used l; obtain ⟨h4, h5⟩ := Wi.getI_range l; exact ⟨_, _, _, rfl, Wi.getI_err l, h1, h2, h4, h5⟩
theorem cntE_of {l : List Nat} {v1 : Int} {v2 : Nat} {v3 : Int} (h : Wi.getI l = (v1, v2, v3)) : Wi.cntE l = if v3 ≠ 0 then v3 else if v1 < 0 then 2 else if ((l.length - v2 : Nat) : Int) < v1 then 3 else 0 := by
 unfold Wi.cntE; rw [h]

set_option maxRecDepth 100000 in
set_option maxHeartbeats 2000000 in
theorem cnt_n (A : Option Addr) (k c : Nat) (l : List Nat) (w : World) (h : By w A k c l) :
  Calls Tryz.prog 58 #[.slice A k c, .int .i64 1] w fun e w' => ∃ (n at_ : Int), e = .returned (.tuple #[.int .i64 n, .int .i64 at_, .int .i64 (Wi.cntE l)]) ∧ Hid (Wi.cntE l = 0 → n = (Wi.getI l).1 ∧ at_ = ((Wi.getI l).2.1 : Nat)) ∧ Below w.heap.size w w' := by
 obtain ⟨v1, v2, v3, hG, hv3, hv2, hv9, hr1, hr2⟩ := getI_fit l; have HG := Lib.hid hG; have hkm : k ≤ 9223372036854775807 := h.1.2.2; have hlen := h.len; rw [← hlen] at hv2; obtain ⟨E, HE⟩ : ∃ E, Hid (E = Wi.cntE l) := ⟨_, rfl⟩; have HC := Lib.hid (HE.out.trans (cntE_of hG)); rw [← hlen] at HC; rw [← HE.out]; have HP : Hid (E = 0 → v1 = (Wi.getI l).1 ∧ (v2 : Int) = ((Wi.getI l).2.1 : Nat)) := fun _ => by rw [hG]; exact ⟨rfl, rfl⟩
 clear hG hlen
 go_enter Tryz.func58, Tryz.ntmps58
 go_wp2_with fail; refine (getint_n A k c l w h).mono ?_; rw [giV_eq HG.out]; rintro e w1 ⟨rfl, hb1⟩; by_cases h3 : v3 = 0
 rotate_left
 ·have t1 : (v3 != 0) = true := by simpa using h3
  have hE : E = v3 := HC.out.trans (if_pos h3); subst hE; have HP2 : Hid (E = 0 → (0 : Int) = (Wi.getI l).1 ∧ (0 : Int) = ((Wi.getI l).2.1 : Nat)) := fun e => absurd e h3
  clear h3 hv3; go_wp2_with fail
  go_ret3
  exact ⟨_, _, rfl, HP, hb1⟩
 subst h3; have HC2 := HC.out.trans (if_neg (by simp)); by_cases hn : v1 < 0
 ·have t2 : decide (v1 < 0) = true := decide_eq_true hn; have hE : E = 2 := HC2.trans (if_pos hn); subst hE; have HP2 : Hid ((2 : Int) = 0 → (0 : Int) = (Wi.getI l).1 ∧ (0 : Int) = ((Wi.getI l).2.1 : Nat)) := fun e => by cases e
  clear hn HC2 HC hv3; go_wp2_with fail
  go_ret3
  exact ⟨_, _, rfl, HP, hb1⟩
 have t2 : decide (v1 < 0) = false := decide_eq_false hn; obtain ⟨n, rfl⟩ : ∃ n : Nat, v1 = (n : Int) := ⟨v1.toNat, by omega⟩; have HC3 := HC2.trans (if_neg hn); by_cases hbig : k - v2 < n
 ·have hE : E = 3 := HC3.trans (if_pos (by omega)); subst hE; have HP2 : Hid ((3 : Int) = 0 → (0 : Int) = (Wi.getI l).1 ∧ (0 : Int) = ((Wi.getI l).2.1 : Nat)) := fun e => by cases e
  have t4 : decide ((k : Int) - (v2 : Int) < (n : Int)) = true := by simp; omega
  clear hn HC2 HC3 HC hv3; go_wp2_with fail
  go_ret3
  exact ⟨_, _, rfl, HP, hb1⟩
 ·have hE : E = 0 := HC3.trans (if_neg (by omega)); subst hE; have t4 : decide ((k : Int) - (v2 : Int) < (n : Int)) = false := by simp; omega
  have t5 : decide ((k : Int) < (n : Int)) = false := by simp; omega
  have t5n : decide (k < n) = false := decide_eq_false (by omega); clear hn HC2 HC3 HC hv3; go_wp2_with fail
  go_ret3
  exact ⟨_, _, rfl, HP.out (by trivial), hb1⟩
set_option maxRecDepth 100000 in
set_option maxHeartbeats 2000000 in
theorem rcnt_n (A : Option Addr) (k c : Nat) (l : List Nat) (w : World) (h : By w A k c l) :
  Calls Tryz.prog 63 #[.slice A k c, .int .i64 1] w fun e w' => ∃ (n at_ : Int), e = .returned (.tuple #[.int .i64 n, .int .i64 at_, .int .i64 (Wi.cntE l)]) ∧ Hid (Wi.cntE l = 0 → n = (Wi.getI l).1 ∧ at_ = ((Wi.getI l).2.1 : Nat)) ∧ Below w.heap.size w w' := by
 obtain ⟨v1, v2, v3, hG, hv3, hv2, hv9, hr1, hr2⟩ := getI_fit l; have HG := Lib.hid hG; have hkm : k ≤ 9223372036854775807 := h.1.2.2; have hlen := h.len; rw [← hlen] at hv2; obtain ⟨E, HE⟩ : ∃ E, Hid (E = Wi.cntE l) := ⟨_, rfl⟩; have HC := Lib.hid (HE.out.trans (cntE_of hG)); rw [← hlen] at HC; rw [← HE.out]; have HP : Hid (E = 0 → v1 = (Wi.getI l).1 ∧ (v2 : Int) = ((Wi.getI l).2.1 : Nat)) := fun _ => by rw [hG]; exact ⟨rfl, rfl⟩
 clear hG hlen
 go_enter Tryz.func63, Tryz.ntmps63
 go_wp2_with fail; refine (rgetint_n A k c l w h).mono ?_; rw [giV_eq HG.out]; rintro e w1 ⟨rfl, hb1⟩; by_cases h3 : v3 = 0
 rotate_left
 ·have t1 : (v3 != 0) = true := by simpa using h3
  have hE : E = v3 := HC.out.trans (if_pos h3); subst hE; have HP2 : Hid (E = 0 → (0 : Int) = (Wi.getI l).1 ∧ (0 : Int) = ((Wi.getI l).2.1 : Nat)) := fun e => absurd e h3
  clear h3 hv3; go_wp2_with fail
  go_ret3
  exact ⟨_, _, rfl, HP2, hb1⟩
 subst h3; have HC2 := HC.out.trans (if_neg (by simp)); by_cases hn : v1 < 0
 ·have t2 : decide (v1 < 0) = true := decide_eq_true hn; have hE : E = 2 := HC2.trans (if_pos hn); subst hE; have HP2 : Hid ((2 : Int) = 0 → (0 : Int) = (Wi.getI l).1 ∧ (0 : Int) = ((Wi.getI l).2.1 : Nat)) := fun e => by cases e
  clear hn HC2 HC hv3; go_wp2_with fail
  go_ret3
  exact ⟨_, _, rfl, HP2, hb1⟩
 have t2 : decide (v1 < 0) = false := decide_eq_false hn; obtain ⟨n, rfl⟩ : ∃ n : Nat, v1 = (n : Int) := ⟨v1.toNat, by omega⟩; have HC3 := HC2.trans (if_neg hn); by_cases hbig : k - v2 < n
 ·have hE : E = 3 := HC3.trans (if_pos (by omega)); subst hE; have HP2 : Hid ((3 : Int) = 0 → (0 : Int) = (Wi.getI l).1 ∧ (0 : Int) = ((Wi.getI l).2.1 : Nat)) := fun e => by cases e
  have t4 : decide ((k : Int) - (v2 : Int) < (n : Int)) = true := by simp; omega
  clear hn HC2 HC3 HC hv3; by_cases hkn : k < n
  ·have t5 : decide ((k : Int) < (n : Int)) = true := by simp; omega
   have t5n : decide (k < n) = true := decide_eq_true hkn; go_wp2_with fail
   go_ret3
   exact ⟨_, _, rfl, HP2, hb1⟩
  ·have t5 : decide ((k : Int) < (n : Int)) = false := by simp; omega
   have t5n : decide (k < n) = false := decide_eq_false hkn; go_wp2_with fail
   go_ret3
   exact ⟨_, _, rfl, HP2, hb1⟩
 ·have hE : E = 0 := HC3.trans (if_neg (by omega)); subst hE; have t4 : decide ((k : Int) - (v2 : Int) < (n : Int)) = false := by simp; omega
  have t5 : decide ((k : Int) < (n : Int)) = false := by simp; omega
  have t5n : decide (k < n) = false := decide_eq_false (by omega); clear hn HC2 HC3 HC hv3; go_wp2_with fail
  go_ret3
  exact ⟨_, _, rfl, HP.out (by trivial), hb1⟩
end Go.Proofs.YtmbfjmilhfmnkaaGreatDoor
namespace Go.Proofs.YtmbfjmilhfmnkaaGreatDoor
open Go Go.RowKit
/-- a row of integers of the call's own -/
def OwnI (w : World) (base : Nat) (v : Value) (X : List Int) : Prop := w.ownsRow base 3 1 v X.length (X.flatMap intC)
theorem OwnI.shp {w : World} {base : Nat} {v : Value} {l : List Int} (h : OwnI w base v l) : ∃ A c, v = .slice A l.length c := own_shp h
theorem OwnI.below {w w' : World} {base : Nat} {v : Value} {l : List Int} (h : OwnI w base v l) (hb : Below w.heap.size w w') : OwnI w' base v l := own_below h hb
theorem OwnI.mono {w : World} {base base' : Nat} {v : Value} {l : List Int} (h : OwnI w base v l) (hb : base' ≤ base) : OwnI w base' v l := own_mono h hb
theorem OwnI.ge {w : World} {base : Nat} {v : Value} {l : List Int} (h : OwnI w base v l) : ∀ k, v.ownBlock = some k → base ≤ k := own_block_ge h
theorem OwnI.nil (w : World) (base : Nat) : OwnI w base (.slice none 0 0) [] := World.ownsRow_nil _ _ _ _
theorem OwnI.row {w : World} {base : Nat} {A : Option Addr} {k c : Nat} {l : List Int} (h : OwnI w base (.slice A k c) l) (hl : l.length ≤ 281474976710656) : RowL intC w A k l := by
 obtain ⟨A', c', e⟩ := h.shp; injection e with e1 e2 e3; subst e1 e2 e3; obtain ⟨r1, r2, r3⟩ := own_any intC_len (by omega) hl h; exact ⟨r1, r2, by omega⟩
theorem flat_int (l : List Int) : (l.flatMap intC).length = l.length := by rw [flat_len intC_len, Nat.mul_one]
theorem RowL.newI (w : World) (x : Int) : RowL intC (w.alloc (.cells #[.int .i64 x] 3)) (some ⟨w.heap.size, 0, none⟩) 1 [x] := ⟨Rd.newC w 3 [.int .i64 x], rfl, by omega⟩
theorem wpList_appI {ops : Array Oper} {rest : List Oper} {o : Oper} {a : Act} {w : World} {Q : Exit → Act → World → Prop} (hgd : o.guard = none) (s x : Operand) (ho : o.op = .call { callee := .builtin .append, args := #[s, x], argTypes := #[22, 22] })
  (base : Nat) (v : Value) (l : List Int) (hs : a.eval s = v) (h : OwnI w base v l) (A : Option Addr) (m c : Nat) (news : List Int) (hx : a.eval x = .slice A m c) (hn : RowL intC w A m news) (hl : l.length + news.length ≤ 1073741824) (hb : base ≤ w.heap.size)
  (hK : ∀ v' w', OwnI w' base v' (l ++ news) → w.grownBy w' v.ownBlock → (v'.ownBlock = v.ownBlock ∨ v'.ownBlock = some w.heap.size) → wpList Tryz.prog ops Q rest (a.put o.dst v') w') : wpList Tryz.prog ops Q (o :: rest) a w := by
 obtain ⟨iR, hi, hz, hsz, hby⟩ := info_parts info_int; have hm := hn.2.1; refine wpList_append_all hgd (fun _ => True) s x 22 ho base 3 iR (.int .i64 0) 1 8 Tryz.underlying22 hi hz hsz hby rfl (by omega) v l.length _ hs h A m c (news.flatMap intC) hx (by rw [flat_int]; omega) hn.1 ?_ (by simp only [maxLen]; omega) (by omega) hb (fun _ _ => trivial) (fun _ _ => trivial) (fun _ _ _ _ _ => trivial) ?_
 ·intro u hu; obtain ⟨d, _, hd⟩ := List.mem_flatMap.1 hu; simp only [intC, List.mem_singleton] at hd; subst hd; rfl
 ·intro v' w' k1 k2 k3 _; refine hK v' w' ?_ k2 k3; unfold OwnI; rw [List.length_append, List.flatMap_append, ← hm]; exact k1
theorem Blk.mapB {B g : Nat} {w w' : World} {T : TypeId} {arr : Array Value} (h : Blk w g T arr) (hb : Below B w w') (hg : g < B) : Blk w' g T arr := (hb.block g hg).trans h
/-- the slice from a position on -/
theorem By.from {w : World} {b0 o0 k c : Nat} {l : List Nat} (h : By w (some ⟨b0, o0, none⟩) k c l) (a : Nat) (hm : a ≤ k) : By w (some ⟨b0, o0 + a, none⟩) (k - a) (c - a) (l.drop a) := by
 have hs := h.sub a (k - a) (by omega); rw [List.take_of_length_le (by rw [List.length_drop]; have := h.len; omega)] at hs; exact hs
/- getN: the rounds -/
theorem getN_zero (b : List Nat) (at_ : Nat) (acc : List Int) : Wi.getN b 0 at_ acc = (acc, at_, 0) := rfl
theorem getN_err {b : List Nat} {n at_ : Nat} {acc : List Int} {v1 : Int} {v2 : Nat} {v3 : Int} (h : Wi.getI (b.drop at_) = (v1, v2, v3)) (h3 : v3 ≠ 0) : Wi.getN b (n + 1) at_ acc = ([], 0, v3) := by
 unfold Wi.getN; rw [h]; exact if_pos h3
theorem getN_ok {b : List Nat} {n at_ : Nat} {acc : List Int} {v1 : Int} {v2 : Nat} (h : Wi.getI (b.drop at_) = (v1, v2, 0)) : Wi.getN b (n + 1) at_ acc = Wi.getN b n (at_ + v2) (acc ++ [v1]) := by
 conv => lhs; unfold Wi.getN
 rw [h]; exact if_neg (by simp)
set_option maxRecDepth 100000 in
set_option maxHeartbeats 1000000 in
theorem reader_n (A : Option Addr) (k c : Nat) (at_ : Int) (w : World) :
  Calls Tryz.prog 59 #[.slice A k c, .int .i64 at_] w fun e w' => e = .returned (.func (.func 87) #[] #[.pointer (some ⟨w.heap.size, 0, none⟩), .pointer (some ⟨w.heap.size + 1, 0, none⟩)]) ∧ Blk w' w.heap.size 23 #[.slice A k c] ∧ Blk w' (w.heap.size + 1) 3 #[.int .i64 at_] ∧ Below w.heap.size w w' := by
 have h1 := (Blk.new w 23 #[.slice A k c]).alloc (.cells #[.int .i64 at_] 3); have h2 := Blk.new (w.alloc (.cells #[.slice A k c] 23)) 3 #[.int .i64 at_]; rw [show (w.alloc (.cells #[.slice A k c] 23)).heap.size = w.heap.size + 1 by simp] at h2
 go_enter Tryz.func59, Tryz.ntmps59
 go_wp2_with fail; go_ret; exact ⟨rfl, h1, h2, Below.tr (bA _ _) (bA _ _)⟩
set_option maxRecDepth 100000 in
set_option maxHeartbeats 4000000 in
theorem next_n (b0 o0 k c g1 g2 a : Nat) (l : List Nat) (w : World) (h : By w (some ⟨b0, o0, none⟩) k c l) (ha : a ≤ k) (hb1 : Blk w g1 23 #[.slice (some ⟨b0, o0, none⟩) k c]) (hb2 : Blk w g2 3 #[.int .i64 (a : Nat)]) (v1 : Int) (v2 : Nat) (v3 : Int) (HG : Hid (Wi.getI (l.drop a) = (v1, v2, v3))) (hav : a + v2 ≤ k) :
  Calls Tryz.prog 87 #[.pointer (some ⟨g1, 0, none⟩), .pointer (some ⟨g2, 0, none⟩)] w fun e w' => e = .returned (.tuple #[.int .i64 v1, .int .i64 ((a + v2 : Nat) : Int), .int .i64 v3]) ∧ Blk w' g2 3 #[.int .i64 ((a + v2 : Nat) : Int)] ∧ Below g2 w w' ∧ ∀ b, b < w.heap.size → b ≠ g2 → w'.heap[b]? = w.heap[b]? := by
 have c1 := hb1.cell 0; have c2 := hb2.cell 0; simp only [List.getElem?_toArray, List.getElem?_cons_zero] at c1 c2; have hkm : k ≤ 9223372036854775807 := h.1.2.2; have hkc := h.2.1; have hcm := h.2.2.1; have hlt2 := hb2.lt; obtain ⟨z, Hz⟩ : ∃ z, Hid (z = a + v2) := ⟨_, rfl⟩; rw [← Hz.out] at hav ⊢; have tz : (a : Int) + (v2 : Int) = (z : Int) := by rw [Hz.out]; rfl
 have hfin : ∀ W : World, Below w.heap.size w W → ∀ nq, Blk ((W.setCell ⟨g2, 0, none⟩ (.int .i64 (z : Int))).drewN nq) g2 3 #[.int .i64 (z : Int)] ∧ Below g2 w ((W.setCell ⟨g2, 0, none⟩ (.int .i64 (z : Int))).drewN nq) ∧ ∀ b, b < w.heap.size → b ≠ g2 → ((W.setCell ⟨g2, 0, none⟩ (.int .i64 (z : Int))).drewN nq).heap[b]? = w.heap[b]? := by
  intro W hW nq; have hd := below_drewN (W.setCell ⟨g2, 0, none⟩ (.int .i64 (z : Int))) nq; have hB := (hb2.below hW hlt2).set_ 0 (.int .i64 (z : Int)); have hBB : Blk (W.setCell ⟨g2, 0, none⟩ (.int .i64 (z : Int))) g2 3 #[.int .i64 (z : Int)] := hB; refine ⟨hBB.below hd hBB.lt, ?_, fun b hb hne => ?_⟩
  ·have h1 : Below g2 w (W.setCell ⟨g2, 0, none⟩ (.int .i64 (z : Int))) := (hW.mono (Nat.le_of_lt hlt2)).setCell (p := ⟨g2, 0, none⟩) (Nat.le_refl _) _; exact h1.trans (hd.mono (by have := hBB.lt; omega))
  ·rw [hd.block b (by have := hW.size; simp; omega), Below.heap_setCell W ⟨g2, 0, none⟩ _ b hne, hW.block b hb]
 have HFIN := Lib.hid hfin; clear hfin; by_cases hac : c = a
 ·have hcase : k = a := by omega
  have hd0 : l.drop a = [] := List.drop_eq_nil_of_le (by have := h.len; omega); have hE : By w (some ⟨b0, o0, none⟩) 0 0 (l.drop a) := by rw [hd0]; exact By.empty
  have HG2 := Lib.hid (getint_n (some ⟨b0, o0, none⟩) 0 0 (l.drop a) w hE); obtain rfl := hcase; obtain rfl := hac
  go_enter Tryz.func87, Tryz.ntmps87
  go_wp2_with fail
  all_goals
   refine HG2.out.mono ?_; rw [giV_eq HG.out]; rintro e w1 ⟨rfl, hbx⟩; have c1' := cell_keep hbx c1; have c2' := cell_keep hbx c2; have hfz := (hb2.below hbx hlt2).frozen 0; go_wp2_with fail
   go_quiet (fail)
   go_wp2_with fail
   go_ret3
   exact ⟨rfl, HFIN.out w1 hbx _⟩
 ·have hac1 : ¬ c - a = 0 := by omega
  have hac2 : (c == a) = false := by simpa using hac
  have hE := h.from a ha
  have HG2 := Lib.hid (getint_n _ _ _ (l.drop a) w hE)
  go_enter Tryz.func87, Tryz.ntmps87
  go_wp2_with fail; refine HG2.out.mono ?_; rw [giV_eq HG.out]; rintro e w1 ⟨rfl, hbx⟩; have c1' := cell_keep hbx c1; have c2' := cell_keep hbx c2; have hfz := (hb2.below hbx hlt2).frozen 0; go_wp2_with fail
  go_quiet (fail)
  go_wp2_with fail
  go_ret3
  exact ⟨rfl, HFIN.out w1 hbx _⟩
end Go.Proofs.YtmbfjmilhfmnkaaGreatDoor
