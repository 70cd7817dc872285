import Derived.Test.YtijkfagkbfbpmaaGreatDoorKByProof17
import Derived.Test.YtijkfagkbfbpmaaGreatDoorKByProof03
import Derived.WalkMore
import Derived.Deep.CutRange
import Derived.Deep.CutBlock
import Derived.Test.YtijkfagkbfbpmaaGreatDoorS0
set_option linter.unusedVariables false
set_option linter.unusedSimpArgs false
namespace Go.Proofs.YtijkfagkbfbpmaaGreatDoor
open Go Go.RowKit
def u8C (n : Nat) : List Value := [.int .u8 (n : Int)]
theorem u8C_len (n : Nat) : (u8C n).length = 1 := rfl
/-- a slice of bytes -/
def By (w : World) (A : Option Addr) (k c : Nat) (l : List Nat) : Prop := RowL u8C w A k l ∧ k ≤ c ∧ c ≤ 9223372036854775807 ∧ (∀ x ∈ l, x < 256) ∧ (0 < c → ∃ b o, A = some ⟨b, o, none⟩)
theorem By.below {w w' : World} {A : Option Addr} {k c : Nat} {l : List Nat} (h : By w A k c l) (hb : Below w.heap.size w w') : By w' A k c l := ⟨h.1.below hb, h.2⟩
theorem By.len {w : World} {A : Option Addr} {k c : Nat} {l : List Nat} (h : By w A k c l) : k = l.length := h.1.2.1
theorem By.get {w : World} {A : Option Addr} {k c : Nat} {l : List Nat} (h : By w A k c l) {i : Nat} (hi : i < k) : ∃ b off, ∃ n : Nat, A = some ⟨b, off, none⟩ ∧ w.cell? ⟨b, off + i, none⟩ = some (.int .u8 (n : Int)) ∧ n < 256 ∧ Hid (l[i]? = some n) := by
 have hl := h.len; obtain ⟨b, off, e, hc⟩ := h.1.at_ u8C_len (by omega) hi (by omega); refine ⟨b, off, l[i], e, ?_, h.2.2.2.1 _ (List.getElem_mem _), List.getElem?_eq_getElem (by omega)⟩; have := hc.out 0 _ rfl
 simpa using this
theorem flat_u8 (l : List Nat) : (l.flatMap u8C).length = l.length := by rw [flat_len u8C_len, Nat.mul_one]
/-- a row of bytes of the call's own -/
def OwnB (w : World) (base : Nat) (v : Value) (l : List Nat) : Prop := w.ownsRow base 5 1 v l.length (l.flatMap u8C) ∧ ∀ x ∈ l, x < 256
theorem OwnB.shp {w : World} {base : Nat} {v : Value} {l : List Nat} (h : OwnB w base v l) : ∃ A c, v = .slice A l.length c := own_shp h.1
theorem OwnB.below {w w' : World} {base : Nat} {v : Value} {l : List Nat} (h : OwnB w base v l) (hb : Below w.heap.size w w') : OwnB w' base v l := ⟨own_below h.1 hb, h.2⟩
theorem OwnB.mono {w : World} {base base' : Nat} {v : Value} {l : List Nat} (h : OwnB w base v l) (hb : base' ≤ base) : OwnB w base' v l := ⟨own_mono h.1 hb, h.2⟩
theorem OwnB.ge {w : World} {base : Nat} {v : Value} {l : List Nat} (h : OwnB w base v l) : ∀ k, v.ownBlock = some k → base ≤ k := own_block_ge h.1
theorem OwnB.nil (w : World) (base : Nat) : OwnB w base (.slice none 0 0) [] := ⟨World.ownsRow_nil _ _ _ _, fun x h => by cases h⟩
theorem OwnB.by_ {w : World} {base : Nat} {A : Option Addr} {k c : Nat} {l : List Nat} (h : OwnB w base (.slice A k c) l) (hl : l.length ≤ 281474976710656) : By w A k c l := by
 obtain ⟨A', c', e⟩ := h.shp; injection e with e1 e2 e3; subst e1 e2 e3; have h2 := h.1; obtain ⟨r1, r2, r3⟩ := own_any u8C_len (by omega) hl h2; refine ⟨⟨r1, r2, by omega⟩, ?_, ?_, h.2, ?_⟩
 ·rcases h2.2 with ⟨e1, e2⟩ | ⟨g, cap, cur, e1, _, _, e3, _⟩
  ·injection e1 with _ e4 e5; omega
  ·injection e1 with _ e4 e5; omega
 ·rcases h2.2 with ⟨e1, e2⟩ | ⟨g, cap, cur, e1, _, _, e3, e4, _⟩
  ·injection e1 with _ e4 e5; omega
  ·injection e1 with _ e5 e6; simp only [maxLen] at e4; omega
 ·intro hc
  rcases h2.2 with ⟨e1, e2⟩ | ⟨g, cap, cur, e1, _⟩
  ·injection e1 with _ e4 e5; omega
  ·injection e1 with e4 _ _; exact ⟨g, 0, e4⟩
/-- one byte in a block of its own -/
theorem OwnB.one (w : World) (d : Nat) (hd : d < 256) : OwnB (w.alloc (.cells #[.int .u8 (d : Int)] 5)) w.heap.size (.slice (some ⟨w.heap.size, 0, none⟩) 1 1) [d] :=
 ⟨⟨rfl, .inr ⟨_, 1, #[.int .u8 (d : Int)], rfl, Nat.le_refl _, heap_alloc_new w _, Nat.le_refl _, by unfold maxLen; omega, rfl, rfl⟩⟩, fun x hx => by simp at hx; omega⟩
theorem info_u8 : (Tryz.prog.info? 5).map (fun i => (i.zero, i.size, i.bytes)) = some (some (.int .u8 0), 1, 1) := by kernel_rfl
/-- bytes appended -/
theorem wpList_appB {ops : Array Oper} {rest : List Oper} {o : Oper} {a : Act} {w : World} {Q : Exit → Act → World → Prop} (hgd : o.guard = none) (s x : Operand) (ho : o.op = .call { callee := .builtin .append, args := #[s, x], argTypes := #[72, 72] })
  (base : Nat) (v : Value) (l : List Nat) (hs : a.eval s = v) (h : OwnB w base v l) (A : Option Addr) (m c : Nat) (news : List Nat) (hx : a.eval x = .slice A m c) (hn : By w A m c news) (hl : l.length + news.length ≤ 1073741824) (hb : base ≤ w.heap.size)
  (hK : ∀ v' w', OwnB w' base v' (l ++ news) → w.grownBy w' v.ownBlock → (v'.ownBlock = v.ownBlock ∨ v'.ownBlock = some w.heap.size) → wpList Tryz.prog ops Q rest (a.put o.dst v') w') : wpList Tryz.prog ops Q (o :: rest) a w := by
 obtain ⟨iR, hi, hz, hsz, hby⟩ := info_parts info_u8; have hm := hn.len; refine wpList_append_all hgd (fun _ => True) s x 72 ho base 5 iR (.int .u8 0) 1 1 Tryz.underlying72 hi hz hsz hby rfl (by omega) v l.length _ hs h.1 A m c (news.flatMap u8C) hx (by rw [flat_u8]; omega) hn.1.1 ?_ (by simp only [maxLen]; omega) (by omega) hb (fun _ _ => trivial) (fun _ _ => trivial) (fun _ _ _ _ _ => trivial) ?_
 ·intro u hu; obtain ⟨d, _, hd⟩ := List.mem_flatMap.1 hu; simp only [u8C, List.mem_singleton] at hd; subst hd; rfl
 ·intro v' w' k1 k2 k3 _; refine hK v' w' ⟨?_, fun y hy => ?_⟩ k2 k3
  ·rw [List.length_append, List.flatMap_append, ← hm]; exact k1
  ·rcases List.mem_append.1 hy with hy | hy
   ·exact h.2 y hy
   ·exact hn.2.2.2.1 y hy
theorem By.one {w : World} {g : Nat} {d : Nat} (h : Rd w (some ⟨g, 0, none⟩) [.int .u8 (d : Int)]) (hd : d < 256) : By w (some ⟨g, 0, none⟩) 1 1 [d] := ⟨⟨h, rfl, by omega⟩, Nat.le_refl _, by omega, fun x hx => (by simp at hx; omega), fun _ => ⟨g, 0, rfl⟩⟩
theorem By.new (w : World) (d : Nat) (hd : d < 256) : By (w.alloc (.cells #[.int .u8 (d : Int)] 5)) (some ⟨w.heap.size, 0, none⟩) 1 1 [d] := By.one (Rd.newC w 5 [.int .u8 (d : Int)]) hd
/- numbers -/
def flV (neg : Bool) : Nat := if neg then 255 else 0
theorem xor_fl (neg : Bool) (d : Nat) (hd : d < 256) : bits .xor .u8 (d : Int) (flV neg : Int) = (Wi.fl neg d : Int) := by
 have h : bits .xor .u8 (d : Int) (flV neg : Int) = ((d ^^^ flV neg : Nat) : Int) := u8_xor_nat d (flV neg) hd (by unfold flV; cases neg <;> simp); rw [h]; unfold Wi.fl flV
 cases neg
 ·simp
 ·simp only [if_true]; have : ∀ x : Fin 256, x.val ^^^ 255 = 255 - x.val := by decide +kernel
  rw [this ⟨d, hd⟩]
theorem shr_div (M j : Nat) : (M : Int) / 2 ^ (8 * j) = ((M / 256 ^ j : Nat) : Int) := by
 have e : (256 : Nat) ^ j = 2 ^ (8 * j) := by rw [Nat.pow_mul]
 rw [e]
 push_cast
 rfl
theorem u64_not (x : Nat) (hx : x < 18446744073709551616) : 18446744073709551615 ^^^ x = 18446744073709551615 - x := by
 have h := BitVec.toNat_not (x := BitVec.ofNat 64 x); rw [BitVec.not_def, BitVec.toNat_xor, BitVec.toNat_allOnes, BitVec.toNat_ofNat, Nat.mod_eq_of_lt hx] at h; exact h
theorem be_get : ∀ (k m i : Nat), i < k → (Wi.be k m)[i]? = some (m / 256 ^ (k - 1 - i) % 256)
 | 0, _, _, h => by omega
 | k + 1, m, 0, _ => by rw [Wi.be, List.getElem?_cons_zero]; simp
 | k + 1, m, i + 1, h => by rw [Wi.be, List.getElem?_cons_succ, be_get k m i (by omega)]; congr 4; omega
theorem be_snoc {k m j : Nat} (h : j < k) : (Wi.be k m).take (k - (j + 1) + 1) = (Wi.be k m).take (k - (j + 1)) ++ [m / 256 ^ j % 256] := by
 rw [List.take_add_one, be_get k m (k - (j + 1)) (by omega), show k - 1 - (k - (j + 1)) = j by omega]; rfl
set_option maxRecDepth 100000 in
set_option maxHeartbeats 4000000 in
theorem wint_n (n : Int) (w : World) (h1 : -9223372036854775808 ≤ n) (h2 : n ≤ 9223372036854775807) :
  Calls Tryz.prog 68 #[.int .i64 n] w fun e w' => ∃ v, e = .returned v ∧ OwnB w' w.heap.size v (Wi.encI n) ∧ Below w.heap.size w w' := by
 obtain ⟨M, HM⟩ : ∃ M, Hid (M = Wi.mag n) := ⟨_, rfl⟩; obtain ⟨neg, HN⟩ : ∃ b, Hid (b = Wi.negB n) := ⟨_, rfl⟩; obtain ⟨k, HK⟩ : ∃ k, Hid (k = Wi.nb M) := ⟨_, rfl⟩; have hM : M < 9223372036854775808 := by rw [HM.out]; exact Wi.mag_lt h1 h2
 have hk8 : k ≤ 8 := by rw [HK.out, HM.out]; exact Wi.nb_mag h1 h2
 have HE : Hid (Wi.encI n = Wi.headB neg k :: (Wi.be k M).map (Wi.fl neg)) := by show _ = _; rw [HK.out, HM.out, HN.out]; rfl
 have hhd : Wi.headB neg k < 256 := by unfold Wi.headB; split <;> omega
 obtain ⟨Y, HY⟩ : ∃ Y, Hid (Y = Wi.encI n) := ⟨_, rfl⟩; rw [← HY.out]
 go_enter Tryz.func68, Tryz.ntmps68
 go_upto_if 11 with go_step3
 go_cut [3, 4] from 11 to 46 (fun t3 t4 wz => t3 = .int .u64 M ∧ t4 = .int .u8 (flV neg : Nat) ∧ wz = w)
 case first => as_aux_lemma =>
  have hMv := HM.out; have hNv := HN.out; unfold Wi.mag at hMv; unfold Wi.negB at hNv; by_cases hn : n < 0
  ·have t1 : decide (n < 0) = true := decide_eq_true hn; rw [if_pos hn] at hMv; rw [t1] at hNv
   have t2 : bits .xor .u64 IntKind.u64.max (IntKind.u64.wrap n) = (M : Int) := by
    have e1 : IntKind.u64.wrap n = ((18446744073709551616 - 1 - M : Nat) : Int) := by rw [IntKind.wrap_u64]; omega
    have e2 : IntKind.u64.max = ((18446744073709551615 : Nat) : Int) := by decide +kernel
    rw [e1, e2, u64_xor_nat _ _ (by omega) (by omega), u64_not _ (by omega)]; omega
   subst hNv; simp only [t1]; clear hMv hn HN HE; go_wp2_with fail
   go_meet
   case rel => exact ⟨rfl, rfl, rfl⟩
  ·have t1 : decide (n < 0) = false := decide_eq_false hn; rw [if_neg hn] at hMv; rw [t1] at hNv; have t2 : IntKind.u64.wrap n = (M : Int) := by rw [IntKind.wrap_u64]; omega
   subst hNv; simp only [t1]; clear hMv hn HN HE; go_wp2_with fail
   go_meet
   case rel => exact ⟨by rw [t2], rfl, rfl⟩
 obtain ⟨rfl, rfl, hx⟩ := hcut; obtain rfl := hx.symm; clear hx
 go_upto_block 0 with go_step3
 go_cut [5] from 14 to 46 (fun t wz => t = .int .i64 (k : Nat) ∧ wz = w)
 case first => as_aux_lemma =>
  go_wp2_with fail
  go_loopg [5] 8 (fun j x wr => ∃ i : Nat, x = .int .i64 i ∧ i ≤ j ∧ i ≤ 8 ∧ k ≤ i ∧ wr = w)
  case atStart => exact ⟨8, rfl, by omega, by omega, hk8, rfl⟩
  case round =>
   obtain ⟨i, rfl, hij, hi, hki, rfl⟩ := hrel; by_cases hi0 : 0 < i
   ·have t1 : decide ((0 : Int) < (i : Int)) = true := by simp; omega
    obtain ⟨D, HD⟩ : ∃ D, Hid (D = M / 256 ^ (i - 1)) := ⟨_, rfl⟩; have tsh : (M : Int) / 2 ^ (8 * (i - 1)) = (D : Int) := by rw [shr_div, HD.out]
    by_cases hlt : M < 256 ^ (i - 1)
    ·have hD0 : D = 0 := by rw [HD.out]; exact Nat.div_eq_of_lt hlt
     have hki2 : k ≤ i - 1 := by rw [HK.out, Wi.nb_le]; exact hlt
     subst hD0; clear hlt HD; go_wp2_with fail
     go_roundg (gk - 1)
     case measure => omega
     case rel => exact ⟨i - 1, by go_num, by omega, by omega, hki2, rfl⟩
    ·have hD0 : 0 < D := by rw [HD.out]; exact Nat.div_pos (by omega) (Nat.pow_pos (by omega))
     have hki2 : k = i := by
      have : ¬ k ≤ i - 1 := by rw [HK.out, Wi.nb_le]; exact hlt
      omega
     have t2 : decide (0 < D) = true := decide_eq_true hD0; subst hki2; clear hlt HD hD0; go_wp2_with fail
     go_meet
     case rel => exact ⟨rfl, rfl⟩
   ·obtain rfl : i = 0 := by omega
    obtain rfl : k = 0 := by omega
    go_wp2_with fail
    go_meet
    case rel => exact ⟨rfl, rfl⟩
 obtain ⟨rfl, hx⟩ := hcut; obtain rfl := hx.symm; clear hx; have tc : ((128 : Int) + (k : Int)) % 256 = ((128 + k : Nat) : Int) := by omega
 have hx0 : bits .xor .u8 ((128 + k : Nat) : Int) (flV neg : Int) = (Wi.headB neg k : Int) := by
  rw [xor_fl neg (128 + k) (by omega)]; unfold Wi.fl Wi.headB
  cases neg
  ·simp
  ·simp only [if_true]; omega
 obtain ⟨H0, HH0⟩ : ∃ h, Hid (h = Wi.headB neg k) := ⟨_, rfl⟩; rw [← HH0.out] at hx0 hhd
 push_cast at hx0
 have tc2 : ((128 : Int) + (k : Int)) % 256 = 128 + (k : Int) := by omega
 go_upto_region 9 with fail; refine wp_name ?_; intro w1 HW; have hb1 : Below w.heap.size w w1 := by rw [HW.out]; exact bA _ _
 have ho1 : OwnB w1 w.heap.size (.slice (some ⟨w.heap.size, 0, none⟩) 1 1) [H0] := by rw [HW.out]; exact OwnB.one w H0 hhd
 clear HW tc tc2 hx0; go_wp2_with fail
 go_loopg [6, 7] k (fun j v x wr => ∃ i : Nat, x = .int .i64 ((i : Int) - 1) ∧ i = j ∧ i ≤ k ∧ OwnB wr w.heap.size v (H0 :: ((Wi.be k M).take (k - i)).map (Wi.fl neg)) ∧ Below w.heap.size w wr)
 case atStart => exact ⟨k, by go_num, rfl, Nat.le_refl _, by rw [Nat.sub_self]; exact ho1, hb1⟩
 case round =>
  obtain ⟨i, rfl, hij, hik, hown, hbe⟩ := hrel; by_cases hi0 : 0 < i
  ·obtain ⟨j, rfl⟩ : ∃ j, i = j + 1 := ⟨i - 1, by omega⟩; have e1 : (((j + 1 : Nat) : Int) - 1) = (j : Int) := by omega
   rw [e1]; have hj0 : ¬ (j : Int) < 0 := by omega
   obtain ⟨D, HD⟩ : ∃ D, Hid (D = M / 256 ^ j) := ⟨_, rfl⟩; have tsh : (M : Int) / 2 ^ (8 * j) = (D : Int) := by rw [shr_div, HD.out]
   obtain ⟨d, Hd⟩ : ∃ d, Hid (d = D % 256) := ⟨_, rfl⟩; have tmd : (D : Int) % 256 = (d : Int) := by rw [Hd.out]; omega
   have hd : d < 256 := by rw [Hd.out]; exact Nat.mod_lt _ (by omega)
   obtain ⟨f, Hf⟩ : ∃ f, Hid (f = Wi.fl neg d) := ⟨_, rfl⟩; have hf : f < 256 := by rw [Hf.out]; exact Wi.fl_lt hd
   have tx : bits .xor .u8 (d : Int) (flV neg : Int) = (f : Int) := by rw [xor_fl neg d hd, Hf.out]
   have hbA := bA wr (.cells #[.int .u8 (f : Int)] 5); have hown2 := hown.below hbA; have hby := By.new wr f hf
   have hlen : (H0 :: ((Wi.be k M).take (k - (j + 1))).map (Wi.fl neg)).length + [f].length ≤ 1073741824 := by
    simp only [List.length_cons, List.length_map, List.length_take, List.length_nil]; omega
   have hbx := Below.tr hbe hbA; have hsz := hbx.size; have hj8 : 8 * (j : Int) ≤ 64 := by omega
   clear hown hbA hbe
   go_wp2_with (at_builtin; go_loud (refine wpList_appB rfl (.tmp 36) (.tmp 44) rfl w.heap.size _ _ rfl hown2 (some ⟨wr.heap.size, 0, none⟩) 1 1 [f] rfl hby hlen hsz ?_); intro v7 w7 hown7 hg7 _)
   have hbz := hbx.grown hg7 hsz (fun q hq => hown2.ge q hq)
   have hfin : OwnB w7 w.heap.size v7 (H0 :: ((Wi.be k M).take (k - j)).map (Wi.fl neg)) := by
    have e : k - j = k - (j + 1) + 1 := by omega
    rw [e, be_snoc (by omega), List.map_append, ← List.cons_append]; simp only [List.map_cons, List.map_nil]; rw [← HD.out, ← Hd.out, ← Hf.out]; exact hown7
   clear hown7 hg7 hbx hown2 hby; go_wp2_with fail
   go_roundg (gk - 1)
   case measure => omega
   case rel => exact ⟨j, by go_num, by omega, by omega, hfin, hbz⟩
  ·obtain rfl : i = 0 := by omega
   rw [Nat.sub_zero] at hown; have e2 : (Wi.be k M).take k = Wi.be k M := List.take_of_length_le (by rw [Wi.be_len]; omega); rw [e2] at hown; have HYE : H0 :: (Wi.be k M).map (Wi.fl neg) = Y := by rw [HY.out, HE.out, ← HH0.out]
   rw [HYE] at hown; obtain ⟨A7, c7, rfl⟩ := hown.shp; have hfin := Lib.hid hown; clear hown HYE; go_wp2_with fail
   try rw [Exit.noGoto_ret]
   go_ret; exact ⟨_, rfl, hfin.out, hbe⟩
end Go.Proofs.YtijkfagkbfbpmaaGreatDoor
