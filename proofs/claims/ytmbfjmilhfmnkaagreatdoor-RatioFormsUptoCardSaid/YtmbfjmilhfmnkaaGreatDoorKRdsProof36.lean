import Derived.Test.YtmbfjmilhfmnkaaGreatDoorKRdsProof25
import Derived.Test.YtmbfjmilhfmnkaaGreatDoorKRdsProof35
import Derived.Test.YtmbfjmilhfmnkaaGreatDoorKRdsProof08
import Derived.Test.YtmbfjmilhfmnkaaGreatDoorS0
set_option linter.unusedVariables false
set_option linter.unusedSimpArgs false
namespace Go.Proofs.YtmbfjmilhfmnkaaGreatDoor
open Go Go.RowKit
/-- a row of limbs of the call's own -/
def OwnU (w : World) (base : Nat) (v : Value) (X : List Nat) : Prop := w.ownsRow base 56 1 v X.length (u32s X) ∧ Nm.Lim X
theorem OwnU.shp {w : World} {base : Nat} {v : Value} {l : List Nat} (h : OwnU w base v l) : ∃ A c, v = .slice A l.length c := own_shp h.1
theorem OwnU.below {w w' : World} {base : Nat} {v : Value} {l : List Nat} (h : OwnU w base v l) (hb : Below w.heap.size w w') : OwnU w' base v l := ⟨own_below h.1 hb, h.2⟩
theorem OwnU.mono {w : World} {base base' : Nat} {v : Value} {l : List Nat} (h : OwnU w base v l) (hb : base' ≤ base) : OwnU w base' v l := ⟨own_mono h.1 hb, h.2⟩
theorem OwnU.ge {w : World} {base : Nat} {v : Value} {l : List Nat} (h : OwnU w base v l) : ∀ k, v.ownBlock = some k → base ≤ k := own_block_ge h.1
theorem OwnU.lt {w : World} {base : Nat} {v : Value} {l : List Nat} (h : OwnU w base v l) : ∀ k, v.ownBlock = some k → k < w.heap.size := ownsRow_lt h.1
theorem OwnU.nil (w : World) (base : Nat) : OwnU w base (.slice none 0 0) [] := ⟨World.ownsRow_nil _ _ _ _, fun x h => by cases h⟩
theorem OwnU.lim {w : World} {base : Nat} {A : Option Addr} {k c : Nat} {l : List Nat} (h : OwnU w base (.slice A k c) l) : Lim w A c l ∧ k = l.length := by
 obtain ⟨A', c', e⟩ := h.shp; injection e with e1 e2 e3; subst e1 e2 e3; have ho : Own w base A l.length c l := h; exact ⟨ho.lim, rfl⟩
theorem info_u32' : (Tryz.prog.info? 56).map (fun i => (i.zero, i.size, i.bytes)) = some (some (.int .u32 0), 1, 4) := by kernel_rfl
theorem wpList_appU {ops : Array Oper} {rest : List Oper} {o : Oper} {a : Act} {w : World} {Q : Exit → Act → World → Prop} (hgd : o.guard = none) (s x : Operand) (ho : o.op = .call { callee := .builtin .append, args := #[s, x], argTypes := #[27, 27] })
  (base : Nat) (v : Value) (l : List Nat) (hs : a.eval s = v) (h : OwnU w base v l) (A : Option Addr) (c : Nat) (d : Nat) (hx : a.eval x = .slice A 1 c) (hn : Rd w A [.int .u32 (d : Int)]) (hd : d < Nm.B) (hl : l.length + 1 ≤ 1073741824) (hb : base ≤ w.heap.size)
  (hK : ∀ v' w', OwnU w' base v' (l ++ [d]) → w.grownBy w' v.ownBlock → (v'.ownBlock = v.ownBlock ∨ v'.ownBlock = some w.heap.size) → wpList Tryz.prog ops Q rest (a.put o.dst v') w') : wpList Tryz.prog ops Q (o :: rest) a w := by
 obtain ⟨iR, hi, hz, hsz, hby⟩ := info_parts info_u32'; refine wpList_append_all hgd (fun _ => True) s x 27 ho base 56 iR (.int .u32 0) 1 4 Tryz.underlying27 hi hz hsz hby rfl (by omega) v l.length _ hs h.1 A 1 c [.int .u32 (d : Int)] hx rfl hn ?_ (by simp only [maxLen]; omega) (by omega) hb (fun _ _ => trivial) (fun _ _ => trivial) (fun _ _ _ _ _ => trivial) ?_
 ·intro u hu; simp only [List.mem_singleton] at hu; subst hu; rfl
 ·intro v' w' k1 k2 k3 _; refine hK v' w' ⟨?_, fun y hy => ?_⟩ k2 k3
  ·have e : u32s (l ++ [d]) = u32s l ++ [.int .u32 (d : Int)] := by unfold u32s; rw [List.map_append]; rfl
   rw [List.length_append, e]; exact k1
  ·rcases List.mem_append.1 hy with hy | hy
   ·exact h.2 y hy
   ·simp at hy; omega
/-- the old blocks but one are as they were -/
structure KG (B g : Nat) (w w' : World) : Prop where
 blk : ∀ b, b < B → b ≠ g → w'.heap[b]? = w.heap[b]?
 size : w.heap.size ≤ w'.heap.size
theorem KG.refl (B g : Nat) (w : World) : KG B g w w := ⟨fun _ _ _ => rfl, Nat.le_refl _⟩
theorem KG.trans {B g : Nat} {w w' w'' : World} (h : KG B g w w') (k : KG B g w' w'') : KG B g w w'' := ⟨fun b h1 h2 => (k.blk b h1 h2).trans (h.blk b h1 h2), Nat.le_trans h.size k.size⟩
theorem KG.below {B g : Nat} {w w' : World} (hb : Below w.heap.size w w') (hB : B ≤ w.heap.size) : KG B g w w' := ⟨fun b h1 _ => hb.block b (by omega), hb.size⟩
theorem KG.grown {B g : Nat} {w w' : World} {row : Option Nat} (k : w.grownBy w' row) (hB : B ≤ w.heap.size) (hr : ∀ q, row = some q → B ≤ q) : KG B g w w' := ⟨fun b h1 _ => k.block b (by omega) (fun e => by have := hr b e.symm; omega), k.size⟩
theorem KG.store {B g : Nat} {w : World} (i : Nat) (v : Value) : KG B g w (w.setCell ⟨g, i, none⟩ v) := ⟨fun b _ h2 => Below.heap_setCell w ⟨g, i, none⟩ v b h2, by simp⟩
theorem OwnU.keep {B g base : Nat} {w w' : World} {v : Value} {l : List Nat} (h : OwnU w base v l) (k : KG B g w w') (hB : w.heap.size ≤ B) (hg : g < base) : OwnU w' base v l := ⟨ownsRow_keep h.1 fun b hb => k.blk b (by have := h.lt b hb; omega) (fun e => by have := h.ge b hb; omega), h.2⟩
theorem OwnI.keep {B g base : Nat} {w w' : World} {v : Value} {l : List Int} (h : OwnI w base v l) (k : KG B g w w') (hB : w.heap.size ≤ B) (hg : g < base) : OwnI w' base v l := ownsRow_keep h fun b hb => k.blk b (by have := ownsRow_lt h b hb; omega) (fun e => by have := h.ge b hb; omega)
/- limbs out of integers -/
def inR (x : Int) : Bool := decide (0 ≤ x) && decide (x ≤ 4294967295)
def u32N (x : Int) : Nat := (x % 4294967296).toNat
theorem u32N_lt (x : Int) : u32N x < Nm.B := by unfold u32N Nm.B; omega
theorem u32N_in {x : Int} (h : inR x = true) : u32N x = x.toNat := by
 unfold inR at h; simp only [Bool.and_eq_true, decide_eq_true_eq] at h; unfold u32N; omega
def limE (X : List Int) : Bool := X.all inR
def limX (X : List Int) : List Nat := X.map u32N
theorem limE_take {X : List Int} {i : Nat} {x : Int} (h : X[i]? = some x) : limE (X.take (i + 1)) = (limE (X.take i) && inR x) := by
 unfold limE; rw [List.take_add_one, h]; simp [List.all_append]
theorem limX_take {X : List Int} {i : Nat} {x : Int} (h : X[i]? = some x) : limX (X.take (i + 1)) = limX (X.take i) ++ [u32N x] := by
 unfold limX; rw [List.take_add_one, h]; simp
/-- what Decode says: the ratio, the length, the error -/
noncomputable def decF (l : List Nat) : LP × Nat × Int :=
 if (Wi.getIs l).2.2 ≠ 0 then (nilP, 0, (Wi.getIs l).2.2)
 else if (Wi.getIs (l.drop (Wi.getIs l).2.1)).2.2 ≠ 0 then (nilP, 0, (Wi.getIs (l.drop (Wi.getIs l).2.1)).2.2)
 else if (limE (Wi.getIs l).1 && limE (Wi.getIs (l.drop (Wi.getIs l).2.1)).1) = false ∨ validP (limX (Wi.getIs l).1, limX (Wi.getIs (l.drop (Wi.getIs l).2.1)).1) ≠ 0 then (nilP, 0, 2)
 else ((limX (Wi.getIs l).1, limX (Wi.getIs (l.drop (Wi.getIs l).2.1)).1), (Wi.getIs l).2.1 + (Wi.getIs (l.drop (Wi.getIs l).2.1)).2.1, 0)
theorem getIs_fit (l : List Nat) : ∃ X n e, Wi.getIs l = (X, n, e) ∧ n ≤ l.length ∧ X.length ≤ l.length := by
 refine ⟨(Wi.getIs l).1, (Wi.getIs l).2.1, (Wi.getIs l).2.2, rfl, ?_, ?_⟩
 ·by_cases hc : Wi.cntE l = 0
  ·rw [getIs_ok hc]; exact getN_fit (b := l) _ _ _ (Wi.getI_used l).1
  ·rw [getIs_bad hc]; exact Nat.zero_le _
 ·by_cases hc : Wi.cntE l = 0
  ·rw [getIs_ok hc]; have h1 := getN_len (b := l) (Wi.getI l).1.toNat (Wi.getI l).2.1 []; have h2 := cntE_fit (l := l) hc; have h3 : ([] : List Int).length = 0 := rfl; omega
  ·rw [getIs_bad hc]; exact Nat.zero_le _
theorem decF_1 {l : List Nat} {X : List Int} {n : Nat} {e : Int} (h : Wi.getIs l = (X, n, e)) (he : e ≠ 0) : decF l = (nilP, 0, e) := by unfold decF; rw [h]; exact if_pos he
theorem decF_2 {l : List Nat} {X Y : List Int} {n m : Nat} {e : Int} (h : Wi.getIs l = (X, n, 0)) (h2 : Wi.getIs (l.drop n) = (Y, m, e)) (he : e ≠ 0) : decF l = (nilP, 0, e) := by unfold decF; rw [h]; dsimp only; rw [h2]; exact (if_neg (by simp)).trans (if_pos he)
theorem decF_3 {l : List Nat} {X Y : List Int} {n m : Nat} (h : Wi.getIs l = (X, n, 0)) (h2 : Wi.getIs (l.drop n) = (Y, m, 0)) (he : (limE X && limE Y) = false ∨ validP (limX X, limX Y) ≠ 0) : decF l = (nilP, 0, 2) := by unfold decF; rw [h]; dsimp only; rw [h2]; exact (if_neg (by simp)).trans ((if_neg (by simp)).trans (if_pos he))
theorem decF_4 {l : List Nat} {X Y : List Int} {n m : Nat} (h : Wi.getIs l = (X, n, 0)) (h2 : Wi.getIs (l.drop n) = (Y, m, 0)) (he : ¬ ((limE X && limE Y) = false ∨ validP (limX X, limX Y) ≠ 0)) : decF l = ((limX X, limX Y), n + m, 0) := by unfold decF; rw [h]; dsimp only; rw [h2]; exact (if_neg (by simp)).trans ((if_neg (by simp)).trans (if_neg he))
theorem getis_sh {fn : Nat} (hc : ∀ (A : Option Addr) (k c : Nat) (l : List Nat) (w : World), By w A k c l → k ≤ 1073741823 → Calls Tryz.prog fn #[.slice A k c] w fun e w' => ∃ v, e = .returned v ∧ GiS w w' v l ∧ Below w.heap.size w w') (A : Option Addr) (k c : Nat) (l : List Nat) (w : World) (h : By w A k c l) (hk : k ≤ 1073741823) (X : List Int) (n : Nat) (E : Int) (HG : Hid (Wi.getIs l = (X, n, E))) :
  Calls Tryz.prog fn #[.slice A k c] w fun e w' => ∃ B d, e = .returned (.tuple #[.slice B X.length d, .int .i64 (n : Nat), .int .i64 E]) ∧ OwnI w' w.heap.size (.slice B X.length d) X ∧ Below w.heap.size w w' := by
 refine (hc A k c l w h hk).mono ?_; rintro e w' ⟨v, rfl, ⟨s, rfl, ho⟩, hb⟩; rw [HG.out] at ho ⊢; obtain ⟨B, d, rfl⟩ := ho.shp; exact ⟨B, d, rfl, ho, hb⟩
/-- a slice from a position on, whatever its address -/
theorem By.from' {w : World} {A : Option Addr} {k c : Nat} {l : List Nat} (h : By w A k c l) (a : Nat) (ha : a ≤ k) : (a = c → By w A 0 0 (l.drop a)) ∧ (a ≠ c → ∃ b0 o0, A = some ⟨b0, o0, none⟩ ∧ By w (some ⟨b0, o0 + a, none⟩) (k - a) (c - a) (l.drop a)) := by
 have hkc := h.2.1; refine ⟨fun e => ?_, fun e => ?_⟩
 ·have hd0 : l.drop a = [] := List.drop_eq_nil_of_le (by have := h.len; omega); rw [hd0]; exact By.empty
 ·obtain ⟨b0, o0, rfl⟩ := h.2.2.2.2 (by omega); exact ⟨b0, o0, rfl, h.from a ha⟩
set_option maxRecDepth 100000 in
set_option maxHeartbeats 4000000 in
theorem limbs_n (A : Option Addr) (k c : Nat) (X : List Int) (w : World) (h : RowL intC w A k X) (hk : k ≤ 1073741823) :
  Calls Tryz.prog 32 #[.slice A k c] w fun e w' => ∃ v, e = .returned (.tuple #[v, .bool (limE X)]) ∧ (limE X = true → OwnU w' w.heap.size v (limX X)) ∧ (limE X = false → v = .slice none 0 0) ∧ Below w.heap.size w w' := by
 have hlen := h.2.1; have HLEN := Lib.hid hlen; obtain ⟨R, HR⟩ : ∃ b, Hid (b = limE X) := ⟨_, rfl⟩; rw [← HR.out]; clear hlen
 go_enter Tryz.func32, Tryz.ntmps32
 go_wp2_with fail
 go_loopg [4, 5] k (fun j v x wr => ∃ i : Nat, x = .int .i64 i ∧ i + j = k ∧ OwnU wr w.heap.size v (limX (X.take i)) ∧ Hid (limE (X.take i) = true) ∧ Below w.heap.size w wr)
 case atStart => exact ⟨0, rfl, by omega, OwnU.nil _ _, rfl, Below.refl _ _⟩
 case round =>
  obtain ⟨i, rfl, hij, hown, HE, hbe⟩ := hrel; by_cases hi : i < k
  ·have t1 : decide ((i : Int) < (k : Int)) = true := by simp; omega
   have hik : (i : Int) < (k : Int) := by omega
   obtain ⟨b, o, x, rfl, hc, HX⟩ := (h.below hbe).int hi; by_cases hx : inR x = true
   ·have hx2 := hx; unfold inR at hx2; simp only [Bool.and_eq_true, decide_eq_true_eq] at hx2; obtain ⟨q1, q2⟩ := hx2; have t2 : decide (x < 0) = false := by simp; omega
    have t3 : decide (4294967295 < x) = false := by simp; omega
    obtain ⟨d, Hd⟩ : ∃ d, Hid (d = u32N x) := ⟨_, rfl⟩; have hd : d < Nm.B := by rw [Hd.out]; exact u32N_lt x
    have tm : x % 4294967296 = (d : Int) := by rw [Hd.out]; unfold u32N; omega
    have tx : x = (d : Int) := by omega
    subst tx; have HE2 : Hid (limE (X.take (i + 1)) = true) := by show _ = _; rw [limE_take HX.out, HE.out, hx]; rfl
    have HX2 : Hid (limX (X.take i) ++ [d] = limX (X.take (i + 1))) := by show _ = _; rw [limX_take HX.out, ← Hd.out]
    have hbA := bA wr (.cells #[.int .u32 (d : Int)] 56); have hown2 := hown.below hbA; have hrd := Rd.newC wr 56 [.int .u32 (d : Int)]; have hl : (limX (X.take i)).length + 1 ≤ 1073741824 := by unfold limX; rw [List.length_map, List.length_take]; omega
    have hbx := Below.tr hbe hbA; have hsz := hbx.size; have hdB : (d : Int) < 4294967296 := by omega
    clear hown hbA hbe hx Hd
    go_wp2_with (at_builtin; go_loud (refine wpList_appU rfl (.tmp 24) (.tmp 30) rfl w.heap.size _ _ rfl hown2 (some ⟨wr.heap.size, 0, none⟩) 1 d rfl hrd hd hl hsz ?_); intro v7 w7 hown7 hg7 _)
    have hbz := hbx.grown hg7 hsz (fun q hq => hown2.ge q hq); rw [HX2.out] at hown7; clear hown2 hbx hg7; go_wp2_with fail
    go_roundg (gk - 1)
    case measure => omega
    case rel => exact ⟨i + 1, by go_num, by omega, hown7, HE2, hbz⟩
   ·have hF : limE X = false := by
     unfold limE; rw [List.all_eq_false]; exact ⟨x, List.mem_of_getElem? HX.out, hx⟩
    have HRF : Hid (R = false) := by show _ = _; rw [HR.out]; exact hF
    unfold inR at hx; simp only [Bool.and_eq_true, decide_eq_true_eq] at hx; by_cases h0 : x < 0
    ·have t2 : decide (x < 0) = true := decide_eq_true h0; clear hx hF h0 hown; go_wp2_with fail
     go_ret2
     exact ⟨_, by rw [HRF.out]; rfl, fun e => absurd (HRF.out.symm.trans e) (by simp), fun _ => rfl, hbe⟩
    ·have t2 : decide (x < 0) = false := decide_eq_false h0; have t3 : decide (4294967295 < x) = true := decide_eq_true (by omega); clear hx hF h0 hown; go_wp2_with fail
     go_ret2
     exact ⟨_, by rw [HRF.out]; rfl, fun e => absurd (HRF.out.symm.trans e) (by simp), fun _ => rfl, hbe⟩
  ·obtain rfl : i = k := by omega
   have t1 : decide ((i : Int) < (i : Int)) = false := by simp
   have e1 : X.take i = X := List.take_of_length_le (by have := HLEN.out; omega); rw [e1] at hown HE; have HRF : Hid (R = true) := by show _ = _; rw [HR.out]; exact HE.out
   obtain ⟨A7, c7, rfl⟩ := hown.shp; have HO := Lib.hid hown; clear hown e1; go_wp2_with fail
   go_ret2
   exact ⟨_, by rw [HRF.out]; rfl, fun _ => HO.out, fun e => absurd (HRF.out.symm.trans e) (by simp), hbe⟩
end Go.Proofs.YtmbfjmilhfmnkaaGreatDoor
namespace Go.Proofs.YtmbfjmilhfmnkaaGreatDoor
open Go Go.RowKit
theorem limbs_sh (A : Option Addr) (k c : Nat) (X : List Int) (w : World) (h : RowL intC w A k X) (hk : k ≤ 1073741823) (R : Bool) (HR : Hid (limE X = R)) :
  Calls Tryz.prog 32 #[.slice A k c] w fun e w' => ∃ A' k' c', e = .returned (.tuple #[.slice A' k' c', .bool R]) ∧ (R = true → Lim w' A' c' (limX X) ∧ k' = (limX X).length) ∧ Below w.heap.size w w' := by
 refine (limbs_n A k c X w h hk).mono ?_; rintro e w' ⟨v, rfl, h1, h2, hb⟩; rw [HR.out] at h1 h2 ⊢
 cases R
 ·rw [h2 rfl]; exact ⟨none, 0, 0, rfl, fun e => (by cases e), hb⟩
 ·obtain ⟨A', c', rfl⟩ := (h1 rfl).shp; exact ⟨A', _, c', rfl, fun _ => (h1 rfl).lim, hb⟩
theorem getis_len {l : List Nat} {X : List Int} {n : Nat} {e : Int} (h : Wi.getIs l = (X, n, e)) : n ≤ l.length ∧ X.length ≤ l.length := by
 obtain ⟨X', n', e', h', h1, h2⟩ := getIs_fit l; rw [h] at h'; simp only [Prod.mk.injEq] at h'; obtain ⟨rfl, rfl, rfl⟩ := h'; exact ⟨h1, h2⟩
/-- a returned ratio with two numbers -/
theorem decF_ret {l : List Nat} {x : LP} {n : Nat} {e : Int} (h : decF l = (x, n, e)) : (decF l).1 = x ∧ (decF l).2.1 = n ∧ (decF l).2.2 = e := by rw [h]; exact ⟨rfl, rfl, rfl⟩
set_option maxRecDepth 100000 in
set_option maxHeartbeats 8000000 in
theorem rdecode_n5 (A : Option Addr) (k c : Nat) (l : List Nat) (w : World) (h : By w A k c l) (hk : k ≤ 536870911) :
  Calls Tryz.prog 11 #[.slice A k c] w fun e w' => ∃ v, e = .returned (.tuple #[v, .int .i64 ((decF l).2.1 : Nat), .int .i64 (decF l).2.2]) ∧ RtP w' v (decF l).1 ∧ Below w.heap.size w w' := by
 have hkc := h.2.1; have hcm := h.2.2.1; obtain ⟨X, n, e1, hG, hn, hXl⟩ := getIs_fit l; rw [← h.len] at hn hXl; have HG := Lib.hid hG; obtain ⟨Y, m, e2, hG2, hm, hYl⟩ := getIs_fit (l.drop n); have hld : (l.drop n).length = k - n := by rw [List.length_drop, ← h.len]
 rw [hld] at hm hYl; have HG2 := Lib.hid hG2; obtain ⟨x0, HX0⟩ : ∃ x, Hid (x = (decF l).1) := ⟨_, rfl⟩; obtain ⟨n0, HN0⟩ : ∃ x, Hid (x = (decF l).2.1) := ⟨_, rfl⟩; obtain ⟨r0, HR0⟩ : ∃ x, Hid (x = (decF l).2.2) := ⟨_, rfl⟩; have HD : Hid (decF l = (x0, n0, r0)) := by show _ = _; rw [HX0.out, HN0.out, HR0.out]
 rw [← HX0.out, ← HN0.out, ← HR0.out]; clear HX0 HN0 HR0 hG hG2 hld
 go_enter Tryz.func11, Tryz.ntmps11
 go_upto_region 1 with fail; refine wp_name ?_; intro w0 HW; have hb0 : Below w.heap.size w w0 := by rw [HW.out]; exact bA _ _
 have hres : Res w0 w.heap.size := by rw [HW.out]; exact Blk.new _ _ _
 obtain ⟨g, hg⟩ : ∃ g, Hid (g = w.heap.size) := ⟨_, rfl⟩; have hge : w.heap.size ≤ g := by rw [hg.out]; exact Nat.le_refl _
 rw [← hg.out] at hres ⊢; have h0 := h.below hb0; clear HW hg; go_wp2_with fail; refine (getis_sh rgetints_n A k c l _ h0 (by omega) X n e1 HG).mono ?_; rintro e w1 ⟨B1, d1, rfl, hX, hb1⟩
 replace hres := hres.below hb1
 replace hbw := Below.tr hb0 hb1
 have hX := hX.mono hb0.size; clear hb0 hb1 h0; by_cases h1 : e1 = 0
 rotate_left
 ·have t1 : (e1 != 0) = true := by simpa using h1
  have HC : Hid (x0 = nilP ∧ n0 = 0 ∧ r0 = e1) := by
   show x0 = nilP ∧ n0 = 0 ∧ r0 = e1
   have := HD.out.symm.trans (decF_1 HG.out h1)
   simpa using this
  obtain ⟨r1, r2, r3, r4⟩ := hres.facts; obtain ⟨s1, s2⟩ := hres.set2 (.slice none 0 0) (.slice none 0 0); clear h1 hX; go_wp2_with fail; exact bodyPost_ret (v := .tuple #[nilRat, .int .i64 0, .int .i64 e1]) (by simp [results, Tryz.results11, go_sem, s1, s2, nilRat]) rfl ⟨_, by rw [HC.out.2.1, HC.out.2.2]; rfl, by rw [HC.out.1]; exact nil_rtP _, below_set2 hbw hge _ _⟩
 subst h1; have hnI : (n : Int) ≤ (k : Int) := by omega
 go_upto_region 4 with fail
 go_cut [8, 9, 10] from 26 to 64 (fun t8 t9 t10 wz => ∃ W, W = wz ∧ ∃ B d, t8 = .slice B Y.length d ∧ t9 = .int .i64 (m : Nat) ∧ t10 = .int .i64 e2 ∧ OwnI W w1.heap.size (.slice B Y.length d) Y ∧ Below w1.heap.size w1 W)
 case first => as_aux_lemma =>
  have h1 : By w1 A k c l := h.mapB hbw (Nat.le_refl _); obtain ⟨f1, f2⟩ := h1.from' n hn
  by_cases hnc : n = c
  ·have hE := f1 hnc; have HB := Lib.hid (getis_sh rgetints_n A 0 0 (l.drop n) w1 hE (by omega) Y m e2 HG2); have hkn : k = n := by omega
   clear f1 f2 hE hX; obtain rfl := hkn; obtain rfl := hnc; go_wp2_with fail
   all_goals
    refine HB.out.mono ?_; rintro e w2 ⟨B2, d2, rfl, hY, hb2⟩; go_wp2_with fail
    go_meet
    case rel => exact ⟨_, rfl, _, _, rfl, rfl, rfl, hY, hb2⟩
  ·obtain ⟨b0, o0, rfl, hE⟩ := f2 hnc; have HB := Lib.hid (getis_sh rgetints_n _ _ _ (l.drop n) w1 hE (by omega) Y m e2 HG2); have hac1 : ¬ c - n = 0 := by omega
   have hac2 : (c == n) = false := by simp; omega
   have hac3 : ¬ c = n := by omega
   clear f1 f2 hE hX; go_wp2_with fail; refine HB.out.mono ?_; rintro e w2 ⟨B2, d2, rfl, hY, hb2⟩; go_wp2_with fail
   go_meet
   case rel => exact ⟨_, rfl, _, _, rfl, rfl, rfl, hY, hb2⟩
 obtain ⟨w2, rfl, B2, d2, rfl, rfl, rfl, hY, hb2⟩ := hcut
 replace hX := hX.below hb2
 replace hY := hY.mono hbw.size
 replace hres := hres.below hb2
 replace hbw := Below.tr hbw hb2
 clear hb2; by_cases h2 : e2 = 0
 rotate_left
 ·have t1 : (e2 != 0) = true := by simpa using h2
  have HC : Hid (x0 = nilP ∧ n0 = 0 ∧ r0 = e2) := by
   show x0 = nilP ∧ n0 = 0 ∧ r0 = e2
   have := HD.out.symm.trans (decF_2 HG.out HG2.out h2)
   simpa using this
  obtain ⟨r1, r2, r3, r4⟩ := hres.facts; obtain ⟨s1, s2⟩ := hres.set2 (.slice none 0 0) (.slice none 0 0); clear h2 hX hY; go_wp2_with fail; exact bodyPost_ret (v := .tuple #[nilRat, .int .i64 0, .int .i64 e2]) (by simp [results, Tryz.results11, go_sem, s1, s2, nilRat]) rfl ⟨_, by rw [HC.out.2.1, HC.out.2.2]; rfl, by rw [HC.out.1]; exact nil_rtP _, below_set2 hbw hge _ _⟩
 subst h2; obtain ⟨R1, HR1⟩ : ∃ b, Hid (limE X = b) := ⟨_, rfl⟩; obtain ⟨R2, HR2⟩ : ∃ b, Hid (limE Y = b) := ⟨_, rfl⟩; go_wp2_with fail; refine (limbs_sh _ _ _ X _ (hX.row (by omega)) (by omega) R1 HR1).mono ?_; rintro e w3 ⟨C1, i1, j1, rfl, hL1, hb3⟩
 replace hY := hY.below hb3
 replace hres := hres.below hb3
 replace hbw := Below.tr hbw hb3
 clear hb3 hX; go_wp2_with fail; refine (limbs_sh _ _ _ Y _ (hY.row (by omega)) (by omega) R2 HR2).mono ?_; rintro e w4 ⟨C2, i2, j2, rfl, hL2, hb4⟩
 replace hL1 : R1 = true → Lim w4 C1 j1 (limX X) ∧ i1 = (limX X).length := fun e => ⟨(hL1 e).1.below hb4, (hL1 e).2⟩
 replace hres := hres.below hb4
 replace hbw := Below.tr hbw hb4
 clear hb4 hY; go_upto_region 10 with fail; refine wp_name ?_; intro w5 HW; have hb5 : Below w4.heap.size w4 w5 := by rw [HW.out]; exact bA _ _
 have hB : Blk w5 w4.heap.size 29 #[.slice C1 i1 j1, .slice C2 i2 j2] := by rw [HW.out]; exact Blk.new _ _ _
 obtain ⟨gq, hgq⟩ : ∃ g, Hid (g = w4.heap.size) := ⟨_, rfl⟩; rw [← hgq.out] at hB ⊢; have q0 := hB.cell 0; have q1 := hB.cell 1; simp only [List.getElem?_toArray, List.getElem?_cons_zero, List.getElem?_cons_succ] at q0 q1
 replace hres := hres.below hb5
 replace hbw := Below.tr hbw hb5
 have HL1 : Hid (R1 = true → Lim w5 C1 j1 (limX X) ∧ i1 = (limX X).length) := fun e => ⟨(hL1 e).1.below hb5, (hL1 e).2⟩
 have HL2 : Hid (R2 = true → Lim w5 C2 j2 (limX Y) ∧ i2 = (limX Y).length) := fun e => ⟨(hL2 e).1.below hb5, (hL2 e).2⟩
 clear HW hgq hL1 hL2; by_cases hRR : (R1 && R2) = true
 rotate_left
 ·have HC : Hid (x0 = nilP ∧ n0 = 0 ∧ r0 = 2) := by
   show x0 = nilP ∧ n0 = 0 ∧ r0 = 2
   have := HD.out.symm.trans (decF_3 HG.out HG2.out (.inl (by rw [HR1.out, HR2.out]; simpa using hRR)))
   simpa using this
  obtain ⟨r1, r2, r3, r4⟩ := hres.facts; obtain ⟨s1, s2⟩ := hres.set2 (.slice none 0 0) (.slice none 0 0); clear hB hb5
  cases R1
  ·clear hRR; go_wp2_with fail; exact bodyPost_ret (v := .tuple #[nilRat, .int .i64 0, .int .i64 2]) (by simp [results, Tryz.results11, go_sem, s1, s2, nilRat]) rfl ⟨_, by rw [HC.out.2.1, HC.out.2.2]; rfl, by rw [HC.out.1]; exact nil_rtP _, below_set2 hbw hge _ _⟩
  ·cases R2
   ·clear hRR; go_wp2_with fail; exact bodyPost_ret (v := .tuple #[nilRat, .int .i64 0, .int .i64 2]) (by simp [results, Tryz.results11, go_sem, s1, s2, nilRat]) rfl ⟨_, by rw [HC.out.2.1, HC.out.2.2]; rfl, by rw [HC.out.1]; exact nil_rtP _, below_set2 hbw hge _ _⟩
   ·exact absurd rfl hRR
 simp only [Bool.and_eq_true] at hRR; obtain ⟨rfl, rfl⟩ := hRR; obtain ⟨l1, k1⟩ := HL1.out rfl; obtain ⟨l2, k2⟩ := HL2.out rfl; have hrt : RtP w5 (.agg #[.slice C1 i1 j1, .slice C2 i2 j2]) (limX X, limX Y) := ⟨_, _, _, _, _, _, rfl, l1, l2, k1, k2⟩; obtain ⟨V, HV⟩ : ∃ v, Hid (v = validP (limX X, limX Y)) := ⟨_, rfl⟩; have hval := rvalid_P _ _ _ hrt; rw [← HV.out] at hval; have HVAL := Lib.hid hval; clear l1 l2 k1 k2 HL1 HL2 hb5 hval; go_wp2_with fail; refine HVAL.out.mono ?_; rintro e w6 ⟨rfl, hb6⟩
 replace hrt := hrt.below hb6
 replace q0 := cell_keep hb6 q0
 replace q1 := cell_keep hb6 q1
 replace hres := hres.below hb6
 replace hbw := Below.tr hbw hb6
 clear hb6 hB HVAL; obtain ⟨r1, r2, r3, r4⟩ := hres.facts; by_cases hV : V = 0
 ·have t1 : (V != 0) = false := by simpa using hV
  obtain ⟨z, Hz⟩ : ∃ z, Hid (z = n + m) := ⟨_, rfl⟩
  have HC : Hid (x0 = (limX X, limX Y) ∧ n0 = z ∧ r0 = 0) := by
   show x0 = (limX X, limX Y) ∧ n0 = z ∧ r0 = 0
   have := HD.out.symm.trans (decF_4 HG.out HG2.out (by rw [HR1.out, HR2.out, ← HV.out]; simp [hV])); rw [← Hz.out] at this
   simpa using this
  have tz : (n : Int) + (m : Int) = (z : Int) := by rw [Hz.out]; rfl
  obtain ⟨s1, s2⟩ := hres.set2 (.slice C1 i1 j1) (.slice C2 i2 j2); have hfin := Lib.hid (hrt.mapL (RT.store (N := w.heap.size) hres.sl hge C1 i1 j1 C2 i2 j2).lim); clear hV hrt; go_wp2_with fail; exact bodyPost_ret (v := .tuple #[.agg #[.slice C1 i1 j1, .slice C2 i2 j2], .int .i64 (z : Int), .int .i64 0]) (by simp [results, Tryz.results11, go_sem, s1, s2]) rfl ⟨_, by rw [HC.out.2.1, HC.out.2.2], by rw [HC.out.1]; exact hfin.out, below_set2 hbw hge _ _⟩
 ·have t1 : (V != 0) = true := by simpa using hV
  have HC : Hid (x0 = nilP ∧ n0 = 0 ∧ r0 = 2) := by
   show x0 = nilP ∧ n0 = 0 ∧ r0 = 2
   have := HD.out.symm.trans (decF_3 HG.out HG2.out (.inr (by rw [← HV.out]; exact hV)))
   simpa using this
  obtain ⟨s1, s2⟩ := hres.set2 (.slice none 0 0) (.slice none 0 0); clear hV hrt; go_wp2_with fail; exact bodyPost_ret (v := .tuple #[nilRat, .int .i64 0, .int .i64 2]) (by simp [results, Tryz.results11, go_sem, s1, s2, nilRat]) rfl ⟨_, by rw [HC.out.2.1, HC.out.2.2]; rfl, by rw [HC.out.1]; exact nil_rtP _, below_set2 hbw hge _ _⟩
end Go.Proofs.YtmbfjmilhfmnkaaGreatDoor
namespace Go.Proofs.YtmbfjmilhfmnkaaGreatDoor
open Go Go.RowKit
/-- where ratio.Decode stands after i parts -/
def DS (l : List Nat) (i q : Nat) (b : Bool) (L0 L1 : List Nat) : Prop :=
 (i = 0 ∧ q = 0 ∧ b = true ∧ L0 = [] ∧ L1 = []) ∨ (i = 1 ∧ ∃ X, Wi.getIs l = (X, q, 0) ∧ b = limE X ∧ L0 = limX X ∧ L1 = []) ∨
 (i = 2 ∧ ∃ X n Y m, Wi.getIs l = (X, n, 0) ∧ Wi.getIs (l.drop n) = (Y, m, 0) ∧ q = n + m ∧ b = (limE X && limE Y) ∧ L0 = limX X ∧ L1 = limX Y)
theorem DS.start (l : List Nat) : DS l 0 0 true [] [] := .inl ⟨rfl, rfl, rfl, rfl, rfl⟩
theorem DS.bad {l : List Nat} {i q n : Nat} {b : Bool} {L0 L1 : List Nat} {X : List Int} {e : Int} (h : DS l i q b L0 L1) (hi : i < 2) (hG : Wi.getIs (l.drop q) = (X, n, e)) (he : e ≠ 0) : decF l = (nilP, 0, e) := by
 rcases h with ⟨rfl, rfl, rfl, rfl, rfl⟩ | ⟨rfl, X0, h0, rfl, rfl, rfl⟩ | ⟨rfl, _⟩
 ·exact decF_1 hG he
 ·exact decF_2 h0 hG he
 ·omega
theorem DS.step0 {l : List Nat} {q n : Nat} {b : Bool} {L0 L1 : List Nat} {X : List Int} (h : DS l 0 q b L0 L1) (hG : Wi.getIs (l.drop q) = (X, n, 0)) : L0 = [] ∧ L1 = [] ∧ DS l 1 (q + n) (b && limE X) (limX X) [] := by
 rcases h with ⟨_, rfl, rfl, rfl, rfl⟩ | ⟨h, _⟩ | ⟨h, _⟩
 ·refine ⟨rfl, rfl, .inr (.inl ⟨rfl, X, ?_, by simp, rfl, rfl⟩)⟩; rw [Nat.zero_add]; exact hG
 ·cases h
 ·cases h
theorem DS.step1 {l : List Nat} {q n : Nat} {b : Bool} {L0 L1 : List Nat} {X : List Int} (h : DS l 1 q b L0 L1) (hG : Wi.getIs (l.drop q) = (X, n, 0)) : L1 = [] ∧ DS l 2 (q + n) (b && limE X) L0 (limX X) := by
 rcases h with ⟨h, _⟩ | ⟨_, X0, h0, rfl, rfl, rfl⟩ | ⟨h, _⟩
 ·cases h
 ·exact ⟨rfl, .inr (.inr ⟨rfl, X0, q, X, n, h0, hG, rfl, rfl, rfl, rfl⟩)⟩
 ·cases h
theorem DS.badEnd {l : List Nat} {q : Nat} {b : Bool} {L0 L1 : List Nat} (h : DS l 2 q b L0 L1) (he : b = false ∨ validP (L0, L1) ≠ 0) : decF l = (nilP, 0, 2) := by
 rcases h with ⟨h, _⟩ | ⟨h, _⟩ | ⟨_, X, n, Y, m, h1, h2, rfl, rfl, rfl, rfl⟩
 ·cases h
 ·cases h
 ·exact decF_3 h1 h2 he
theorem DS.goodEnd {l : List Nat} {q : Nat} {b : Bool} {L0 L1 : List Nat} (h : DS l 2 q b L0 L1) (he : ¬ (b = false ∨ validP (L0, L1) ≠ 0)) : decF l = ((L0, L1), q, 0) := by
 rcases h with ⟨h, _⟩ | ⟨h, _⟩ | ⟨_, X, n, Y, m, h1, h2, rfl, rfl, rfl, rfl⟩
 ·cases h
 ·cases h
 ·exact decF_4 h1 h2 he
theorem Blk.keepG {B g g' : Nat} {w w' : World} {t : TypeId} {cs : Array Value} (h : Blk w g' t cs) (k : KG B g w w') (hB : g' < B) (hg : g' ≠ g) : Blk w' g' t cs := (k.blk g' hB hg).trans h
theorem Blk.grownB {w w' : World} {g : Nat} {t : TypeId} {cs : Array Value} {row : Option Nat} (h : Blk w g t cs) (k : w.grownBy w' row) (hr : ∀ q, row = some q → g < q) : Blk w' g t cs := (k.block g h.lt (fun e => by have := hr g e.symm; omega)).trans h
theorem OwnU.keepB {N base : Nat} {w w' : World} {v : Value} {l : List Nat} (h : OwnU w base v l) (k : KG w.heap.size N w w') (hg : N < base) : OwnU w' base v l := h.keep k (Nat.le_refl _) hg
theorem wp_appU {o : Oper} {a : Act} {w : World} {K : Act → World → Prop} {Q : Exit → Act → World → Prop} (s x : Operand) (ho : o.op = .call { callee := .builtin .append, args := #[s, x], argTypes := #[27, 27] })
  (base : Nat) (v : Value) (l : List Nat) (hs : a.eval s = v) (h : OwnU w base v l) (A : Option Addr) (c : Nat) (d : Nat) (hx : a.eval x = .slice A 1 c) (hn : Rd w A [.int .u32 (d : Int)]) (hd : d < Nm.B) (hl : l.length + 1 ≤ 1073741824) (hb : base ≤ w.heap.size)
  (hK : ∀ v' w', OwnU w' base v' (l ++ [d]) → w.grownBy w' v.ownBlock → (v'.ownBlock = v.ownBlock ∨ v'.ownBlock = some w.heap.size) → K (a.put o.dst v') w') : o.wp Tryz.prog a w K Q := by
 obtain ⟨iR, hi, hz, hsz, hby⟩ := info_parts info_u32'; obtain ⟨v', w', hrun, k1, k2, k3, _⟩ := run_append_all (P := Tryz.prog) w (fun _ => True) base 27 o.type 56 iR (.int .u32 0) 1 4 Tryz.underlying27 hi hz hsz hby rfl (by omega) v l.length _ h.1 A 1 c [.int .u32 (d : Int)] rfl hn (by intro u hu; simp only [List.mem_singleton] at hu; subst hu; rfl) (by simp only [maxLen]; omega) (by omega) hb (fun _ _ => trivial) (fun _ _ => trivial) (fun _ _ _ _ _ => trivial); unfold Oper.wp execOp; simp only [ho, resolve, invoke, builtin, Sem.run_bind, Sem.run_pure, Result.andThen_ok, List.map_toArray, List.map_cons, List.map_nil, hs, hx, hrun]; refine hK v' w' ⟨?_, fun y hy => ?_⟩ k2 k3
 ·have e : u32s (l ++ [d]) = u32s l ++ [.int .u32 (d : Int)] := by unfold u32s; rw [List.map_append]; rfl
  rw [List.length_append, e]; exact k1
 ·rcases List.mem_append.1 hy with hy | hy
  ·exact h.2 y hy
  ·simp at hy; omega

set_option maxRecDepth 100000 in
set_option maxHeartbeats 8000000 in
theorem decode_n5 (A : Option Addr) (k c : Nat) (l : List Nat) (w : World) (h : By w A k c l) (hk : k ≤ 536870911) :
  Calls Tryz.prog 10 #[.slice A k c] w fun e w' => ∃ v, e = .returned (.tuple #[v, .int .i64 ((decF l).2.1 : Nat), .int .i64 (decF l).2.2]) ∧ RtP w' v (decF l).1 ∧ Below w.heap.size w w' := by
 have hkc := h.2.1; have hcm := h.2.2.1; obtain ⟨x0, HX0⟩ : ∃ x, Hid (x = (decF l).1) := ⟨_, rfl⟩; obtain ⟨n0, HN0⟩ : ∃ x, Hid (x = (decF l).2.1) := ⟨_, rfl⟩; obtain ⟨r0, HR0⟩ : ∃ x, Hid (x = (decF l).2.2) := ⟨_, rfl⟩; have HD : Hid (decF l = (x0, n0, r0)) := by show _ = _; rw [HX0.out, HN0.out, HR0.out]
 rw [← HX0.out, ← HN0.out, ← HR0.out]; clear HX0 HN0 HR0
 go_enter Tryz.func10, Tryz.ntmps10
 go_upto_region 1 with fail; refine wp_name ?_; intro w0 HW; have hb0 : Below w.heap.size w w0 := by rw [HW.out]; exact bA _ _
 have hres : Res w0 w.heap.size := by rw [HW.out]; exact Blk.new _ _ _
 obtain ⟨g, hg⟩ : ∃ g, Hid (g = w.heap.size) := ⟨_, rfl⟩; have hge : w.heap.size ≤ g := by rw [hg.out]; exact Nat.le_refl _
 rw [← hg.out] at hres ⊢; clear HW hg; go_upto_region 2 with fail; refine wp_name ?_; intro w1 HW; have hb1 : Below w0.heap.size w0 w1 := by rw [HW.out]; exact bA _ _
 have hpar : Blk w1 w0.heap.size 53 #[.slice none 0 0, .slice none 0 0] := by rw [HW.out]; exact Blk.new _ _ _
 have hgp := hres.lt; obtain ⟨p, hp⟩ : ∃ p, Hid (p = w0.heap.size) := ⟨_, rfl⟩; rw [← hp.out] at hpar hgp ⊢
 replace hres := hres.below hb1
 have hbw := Below.tr hb0 hb1; clear HW hp hb0 hb1; go_wp2_with fail
 go_loopg [6, 7, 15] 2 (fun j v6 v7 v15 wr => ∃ (i q : Nat) (b : Bool) (u0 u1 : Value) (L0 L1 : List Nat), v6 = .int .i64 q ∧ v7 = .bool b ∧ v15 = .int .i64 i ∧ i + j = 2 ∧ q ≤ k ∧ Hid (DS l i q b L0 L1) ∧ Blk wr p 53 #[u0, u1] ∧ OwnU wr (p + 1) u0 L0 ∧ OwnU wr (p + 1) u1 L1 ∧ Hid (i = 0 → u0 = .slice none 0 0) ∧ Hid (i < 2 → u1 = .slice none 0 0) ∧ Res wr g ∧ Below w.heap.size w wr)
 case atStart => exact ⟨0, 0, true, _, _, [], [], rfl, rfl, rfl, rfl, Nat.zero_le _, DS.start l, hpar, OwnU.nil _ _, OwnU.nil _ _, fun _ => rfl, fun _ => rfl, hres, hbw⟩
 case round =>
  obtain ⟨G, hG⟩ : ∃ G, G = gk := ⟨gk, rfl⟩; subst hG; clear hres hpar hbw; obtain ⟨i, q, b, u0, u1, L0, L1, rfl, rfl, rfl, hij, hq, HS, hpar, ho0, ho1, HU0, HU1, hres, hbw⟩ := hrel; have hqI : (q : Int) ≤ (k : Int) := by omega
  by_cases hi : i < 2
  ·have t1 : decide ((i : Int) < 2) = true := by simp; omega
   have hi2 : (i : Int) < 2 := by omega
   obtain ⟨X, n, e1, hG, hn, hXl⟩ := getIs_fit (l.drop q); have hld : (l.drop q).length = k - q := by rw [List.length_drop, ← h.len]
   rw [hld] at hn hXl; have HG := Lib.hid hG; clear hG hld; go_upto_region 6 with fail
   go_cut [9, 10, 11] from 19 to 57 (fun t9 t10 t11 wz => ∃ W, W = wz ∧ ∃ B d, t9 = .slice B X.length d ∧ t10 = .int .i64 (n : Nat) ∧ t11 = .int .i64 e1 ∧ OwnI W wr.heap.size (.slice B X.length d) X ∧ Below wr.heap.size wr W)
   case first => as_aux_lemma =>
    have h1 : By wr A k c l := h.mapB hbw (Nat.le_refl _); obtain ⟨f1, f2⟩ := h1.from' q hq
    by_cases hnc : q = c
    ·have hE := f1 hnc; have HB := Lib.hid (getis_sh getints_n A 0 0 (l.drop q) wr hE (by omega) X n e1 HG); have hkn : k = q := by omega
     clear f1 f2 hE; obtain rfl := hkn; obtain rfl := hnc; go_wp2_with fail
     all_goals
      refine HB.out.mono ?_; rintro e w2 ⟨B2, d2, rfl, hY, hb2⟩; go_wp2_with fail
      go_meet
      case rel => exact ⟨_, rfl, _, _, rfl, rfl, rfl, hY, hb2⟩
    ·obtain ⟨b0, o0, rfl, hE⟩ := f2 hnc; have HB := Lib.hid (getis_sh getints_n _ _ _ (l.drop q) wr hE (by omega) X n e1 HG); have hac1 : ¬ c - q = 0 := by omega
     have hac2 : (c == q) = false := by simp; omega
     have hac3 : ¬ c = q := by omega
     clear f1 f2 hE; go_wp2_with fail; refine HB.out.mono ?_; rintro e w2 ⟨B2, d2, rfl, hY, hb2⟩; go_wp2_with fail
     go_meet
     case rel => exact ⟨_, rfl, _, _, rfl, rfl, rfl, hY, hb2⟩
   obtain ⟨ws, rfl, B2, d2, rfl, rfl, rfl, hX, hb2⟩ := hcut; have hps := hpar.lt; have hBs := hb2.size
   replace hpar := hpar.below hb2 hps
   replace ho0 := ho0.below hb2
   replace hres := hres.below hb2
   replace hbw := Below.tr hbw hb2
   clear hb2; by_cases h1 : e1 = 0
   rotate_left
   ·have t2 : (e1 != 0) = true := by simpa using h1
    have HC : Hid (x0 = nilP ∧ n0 = 0 ∧ r0 = e1) := by
     have := HD.out.symm.trans (HS.out.bad hi HG.out h1)
     show x0 = nilP ∧ n0 = 0 ∧ r0 = e1
     simpa using this
    obtain ⟨r1, r2, r3, r4⟩ := hres.facts; obtain ⟨s1, s2⟩ := hres.set2 (.slice none 0 0) (.slice none 0 0); clear h1 hX; go_wp2_with fail; exact bodyPost_ret (v := .tuple #[nilRat, .int .i64 0, .int .i64 e1]) (by simp [results, Tryz.results10, go_sem, s1, s2, nilRat]) rfl ⟨_, by rw [HC.out.2.1, HC.out.2.2]; rfl, by rw [HC.out.1]; exact nil_rtP _, below_set2 hbw hge _ _⟩
   subst h1; obtain ⟨z, Hz⟩ : ∃ z, Hid (z = q + n) := ⟨_, rfl⟩; have tz : (q : Int) + (n : Int) = (z : Int) := by rw [Hz.out]; rfl
   have hzk : z ≤ k := by rw [Hz.out]; omega
   obtain ⟨m, Hm⟩ : ∃ m, Hid (X.length = m) := ⟨_, rfl⟩; have hmk : m ≤ 536870911 := by rw [← Hm.out]; omega
   rw [Hm.out]; have hX0 := hX; have hwsz := hbw.size; clear hX; have h0i : i = 0 ∨ i = 1 := by omega
   clear hqI hn hXl hi2
   rcases h0i with rfl | rfl
   ·obtain ⟨rfl, rfl, HS2⟩ := HS.out.step0 HG.out; obtain rfl := HU0.out rfl; obtain rfl := HU1.out (by omega)
    replace HS2 := Lib.hid HS2
    rw [← Hz.out] at HS2; clear HS HU0 HU1 ho1 t1; go_wp2_with fail
    go_loopg [7, 35] m (fun j' v7 v35 wq => ∃ (y : Nat) (u : Value) (bb : Bool), v35 = .int .i64 y ∧ y + j' = m ∧ v7 = .bool bb ∧ Hid (bb = (b && limE (X.take y))) ∧ Blk wq p 53 #[u, .slice none 0 0] ∧ OwnU wq ws.heap.size u (limX (X.take y)) ∧ KG ws.heap.size p ws wq ∧ Below w.heap.size w wq)
    case atStart => exact ⟨0, _, b, rfl, by omega, rfl, (by show _ = _; simp [limE]), hpar, OwnU.nil _ _, KG.refl _ _ _, hbw⟩
    case round =>
     obtain ⟨G2, hG2⟩ : ∃ G, G = gk := ⟨gk, rfl⟩; subst hG2; clear hpar hbw; obtain ⟨y, u, bb, rfl, hyj, rfl, Hbb, hpar, hown, hkg, hbw⟩ := hrel; have hsq := hkg.size; by_cases hy : y < m
     ·have t3 : decide ((y : Int) < (m : Int)) = true := by simp; omega
      have hym : (y : Int) < (m : Int) := by omega
      have hXq : RowL intC wr B2 m X := by
       have := (hX0.keep hkg (Nat.le_refl _) hps).row (by rw [Hm.out]; omega); rw [Hm.out] at this; exact this
      obtain ⟨xb, xo, x, rfl, hc, HX⟩ := hXq.int hy; clear hXq; have q0 := hpar.cell 0; simp only [List.getElem?_toArray, List.getElem?_cons_zero, List.getElem?_cons_succ] at q0; obtain ⟨b2, Hb2⟩ : ∃ b2, Hid (b2 = (b && limE (X.take (y + 1)))) := ⟨_, rfl⟩; have hbb : (bb && inR x) = b2 := by rw [Hb2.out, limE_take HX.out, Hbb.out, Bool.and_assoc]
      have HBB := Lib.hid hbb; clear hbb; go_upto_region 13 with fail
      go_cut [7] from 39 to 47 (fun t7 wz => ∃ W, W = wz ∧ W = wr ∧ t7 = .bool b2)
      case first => as_aux_lemma =>
       cases bb
       ·go_wp2_with fail
        go_meet
        case rel => exact ⟨_, rfl, rfl, by rw [← HBB.out]; simp⟩
       ·by_cases a1 : 0 ≤ x
        ·by_cases a2 : x ≤ 4294967295
         ·have e1 : decide (0 ≤ x) = true := by simpa using a1
          have e2 : decide (x ≤ 4294967295) = true := by simpa using a2
          go_wp2_with fail
          go_meet
          case rel => exact ⟨_, rfl, rfl, by rw [← HBB.out]; simp [inR]; omega⟩
         ·have e1 : decide (0 ≤ x) = true := by simpa using a1
          have e2 : decide (x ≤ 4294967295) = false := by simpa using a2
          go_wp2_with fail
          go_meet
          case rel => exact ⟨_, rfl, rfl, by rw [← HBB.out]; simp [inR]; omega⟩
        ·have e1 : decide (0 ≤ x) = false := by simpa using a1
         go_wp2_with fail
         go_meet
         case rel => exact ⟨_, rfl, rfl, by rw [← HBB.out]; simp [inR]; omega⟩
      obtain ⟨wv, rfl, rfl, rfl⟩ := hcut; obtain ⟨d, Hd⟩ : ∃ d, Hid (d = u32N x) := ⟨_, rfl⟩; have hd : d < Nm.B := by rw [Hd.out]; exact u32N_lt x
      have tm : x % 4294967296 = (d : Int) := by rw [Hd.out]; unfold u32N; omega
      have HX2 : Hid (limX (X.take y) ++ [d] = limX (X.take (y + 1))) := by show _ = _; rw [limX_take HX.out, ← Hd.out]
      have hl : (limX (X.take y)).length + 1 ≤ 1073741824 := by unfold limX; rw [List.length_map, List.length_take]; omega
      have hdB : (d : Int) < 4294967296 := by unfold Nm.B at hd; omega
      obtain ⟨Au, cu, rfl⟩ := hown.shp; have hz0 : ((0 : Nat) : Int) = 0 := rfl; clear Hd HBB; have hbA := bA wv (.cells #[.int .u32 (d : Int)] 56); have hown2 := hown.below hbA; have hpar2 := hpar.alloc (.cells #[.int .u32 (d : Int)] 56); have hrd := Rd.newC wv 56 [.int .u32 (d : Int)]; have hbx : Below w.heap.size w (wv.alloc (.cells #[.int .u32 (d : Int)] 56)) := hbw.trans (hbA.mono hbw.size); have hkx := hkg.trans (KG.below hbA hsq); have hsz := hkx.size; clear hown hbA hbw hpar hkg; go_upto_region 14 with fail; simp only [hz0]
      iterate 22 (try go_step)
      refine wpList_appU rfl (.tmp 51) (.tmp 54) rfl ws.heap.size _ _ ?h1 hown2 (some ⟨wv.heap.size, 0, none⟩) 1 d ?h2 hrd hd hl hsz ?_
      case h1 => rfl
      case h2 => rfl
      intro v7 w7 hown7 hg7 _; have hbz := hbx.trans (((Below.refl ws.heap.size _).grown hg7 hsz (fun q hq => hown2.ge q hq)).mono hwsz); have hkz := hkx.trans (KG.grown hg7 hsz (fun q hq => hown2.ge q hq)); have hpz := hpar2.grownB hg7 (fun q hq => by have := hown2.ge q hq; omega); rw [HX2.out] at hown7; obtain ⟨A5, c5, rfl⟩ := hown7.shp; have hfz := hpz.frozen 0; have hq7 := hpz.cell 0; simp only [List.getElem?_toArray, List.getElem?_cons_zero, List.getElem?_cons_succ] at hq7; have hparz := Blk.set_ hpz 0 (.slice A5 (limX (X.take (y + 1))).length c5); have hownz := hown7.keepB (KG.store 0 (.slice A5 (limX (X.take (y + 1))).length c5)) (by omega : p < ws.heap.size); have hkz2 := hkz.trans (KG.store 0 (.slice A5 (limX (X.take (y + 1))).length c5)); have hbz2 := hbz.setCell (p := ⟨p, 0, none⟩) (by show w.heap.size ≤ p; omega) (.slice A5 (limX (X.take (y + 1))).length c5); clear hown2 hbx hkx hpar2 hg7 hpz hown7 hkz hbz; go_wp2_with fail
      go_roundg (G2 - 1)
      case measure => omega
      case rel => exact ⟨y + 1, _, b2, by go_num, by omega, rfl, Hb2, hparz, hownz, hkz2, hbz2⟩
     ·obtain rfl : y = m := by omega
      have e1 : X.take y = X := List.take_of_length_le (by rw [Hm.out]; omega); rw [e1] at hown Hbb; have t3 : decide ((y : Int) < (y : Int)) = false := by simp
      replace hres := Blk.keepG hres hkg (by have := hres.lt; omega) (by omega)
      replace ho0 := ho0.keepB hkg (by omega : p < p + 1)
      clear hkg hX0 e1; go_wp2_with fail
      go_roundg (G - 1)
      case measure => omega
      case rel => exact ⟨1, z, bb, _, _, _, _, rfl, rfl, by go_num, by omega, hzk, by rw [Hbb.out]; exact HS2, hpar, hown.mono (by omega), OwnU.nil _ _, fun e => absurd e (by omega), fun _ => rfl, hres, hbw⟩
   ·obtain ⟨rfl, HS2⟩ := HS.out.step1 HG.out; obtain rfl := HU1.out (by omega)
    replace HS2 := Lib.hid HS2
    rw [← Hz.out] at HS2; clear HS HU0 HU1 ho1 t1; go_wp2_with fail
    go_loopg [7, 35] m (fun j' v7 v35 wq => ∃ (y : Nat) (u : Value) (bb : Bool), v35 = .int .i64 y ∧ y + j' = m ∧ v7 = .bool bb ∧ Hid (bb = (b && limE (X.take y))) ∧ Blk wq p 53 #[u0, u] ∧ OwnU wq ws.heap.size u (limX (X.take y)) ∧ KG ws.heap.size p ws wq ∧ Below w.heap.size w wq)
    case atStart => exact ⟨0, _, b, rfl, by omega, rfl, (by show _ = _; simp [limE]), hpar, OwnU.nil _ _, KG.refl _ _ _, hbw⟩
    case round =>
     obtain ⟨G2, hG2⟩ : ∃ G, G = gk := ⟨gk, rfl⟩; subst hG2; clear hpar hbw; obtain ⟨y, u, bb, rfl, hyj, rfl, Hbb, hpar, hown, hkg, hbw⟩ := hrel; have hsq := hkg.size; by_cases hy : y < m
     ·have t3 : decide ((y : Int) < (m : Int)) = true := by simp; omega
      have hym : (y : Int) < (m : Int) := by omega
      have hXq : RowL intC wr B2 m X := by
       have := (hX0.keep hkg (Nat.le_refl _) hps).row (by rw [Hm.out]; omega); rw [Hm.out] at this; exact this
      obtain ⟨xb, xo, x, rfl, hc, HX⟩ := hXq.int hy; clear hXq; have q0 := hpar.cell 1; simp only [List.getElem?_toArray, List.getElem?_cons_zero, List.getElem?_cons_succ] at q0; obtain ⟨b2, Hb2⟩ : ∃ b2, Hid (b2 = (b && limE (X.take (y + 1)))) := ⟨_, rfl⟩; have hbb : (bb && inR x) = b2 := by rw [Hb2.out, limE_take HX.out, Hbb.out, Bool.and_assoc]
      have HBB := Lib.hid hbb; clear hbb; go_upto_region 13 with fail
      go_cut [7] from 39 to 47 (fun t7 wz => ∃ W, W = wz ∧ W = wr ∧ t7 = .bool b2)
      case first => as_aux_lemma =>
       cases bb
       ·go_wp2_with fail
        go_meet
        case rel => exact ⟨_, rfl, rfl, by rw [← HBB.out]; simp⟩
       ·by_cases a1 : 0 ≤ x
        ·by_cases a2 : x ≤ 4294967295
         ·have e1 : decide (0 ≤ x) = true := by simpa using a1
          have e2 : decide (x ≤ 4294967295) = true := by simpa using a2
          go_wp2_with fail
          go_meet
          case rel => exact ⟨_, rfl, rfl, by rw [← HBB.out]; simp [inR]; omega⟩
         ·have e1 : decide (0 ≤ x) = true := by simpa using a1
          have e2 : decide (x ≤ 4294967295) = false := by simpa using a2
          go_wp2_with fail
          go_meet
          case rel => exact ⟨_, rfl, rfl, by rw [← HBB.out]; simp [inR]; omega⟩
        ·have e1 : decide (0 ≤ x) = false := by simpa using a1
         go_wp2_with fail
         go_meet
         case rel => exact ⟨_, rfl, rfl, by rw [← HBB.out]; simp [inR]; omega⟩
      obtain ⟨wv, rfl, rfl, rfl⟩ := hcut; obtain ⟨d, Hd⟩ : ∃ d, Hid (d = u32N x) := ⟨_, rfl⟩; have hd : d < Nm.B := by rw [Hd.out]; exact u32N_lt x
      have tm : x % 4294967296 = (d : Int) := by rw [Hd.out]; unfold u32N; omega
      have HX2 : Hid (limX (X.take y) ++ [d] = limX (X.take (y + 1))) := by show _ = _; rw [limX_take HX.out, ← Hd.out]
      have hl : (limX (X.take y)).length + 1 ≤ 1073741824 := by unfold limX; rw [List.length_map, List.length_take]; omega
      have hdB : (d : Int) < 4294967296 := by unfold Nm.B at hd; omega
      obtain ⟨Au, cu, rfl⟩ := hown.shp; have hz0 : ((1 : Nat) : Int) = 1 := rfl; clear Hd HBB; have hbA := bA wv (.cells #[.int .u32 (d : Int)] 56); have hown2 := hown.below hbA; have hpar2 := hpar.alloc (.cells #[.int .u32 (d : Int)] 56); have hrd := Rd.newC wv 56 [.int .u32 (d : Int)]; have hbx : Below w.heap.size w (wv.alloc (.cells #[.int .u32 (d : Int)] 56)) := hbw.trans (hbA.mono hbw.size); have hkx := hkg.trans (KG.below hbA hsq); have hsz := hkx.size; clear hown hbA hbw hpar hkg; go_upto_region 14 with fail; simp only [hz0]
      iterate 22 (try go_step)
      refine wpList_appU rfl (.tmp 51) (.tmp 54) rfl ws.heap.size _ _ ?h1 hown2 (some ⟨wv.heap.size, 0, none⟩) 1 d ?h2 hrd hd hl hsz ?_
      case h1 => rfl
      case h2 => rfl
      intro v7 w7 hown7 hg7 _; have hbz := hbx.trans (((Below.refl ws.heap.size _).grown hg7 hsz (fun q hq => hown2.ge q hq)).mono hwsz); have hkz := hkx.trans (KG.grown hg7 hsz (fun q hq => hown2.ge q hq)); have hpz := hpar2.grownB hg7 (fun q hq => by have := hown2.ge q hq; omega); rw [HX2.out] at hown7; obtain ⟨A5, c5, rfl⟩ := hown7.shp; have hfz := hpz.frozen 1; have hq7 := hpz.cell 1; simp only [List.getElem?_toArray, List.getElem?_cons_zero, List.getElem?_cons_succ] at hq7; have hparz := Blk.set_ hpz 1 (.slice A5 (limX (X.take (y + 1))).length c5); have hownz := hown7.keepB (KG.store 1 (.slice A5 (limX (X.take (y + 1))).length c5)) (by omega : p < ws.heap.size); have hkz2 := hkz.trans (KG.store 1 (.slice A5 (limX (X.take (y + 1))).length c5)); have hbz2 := hbz.setCell (p := ⟨p, 1, none⟩) (by show w.heap.size ≤ p; omega) (.slice A5 (limX (X.take (y + 1))).length c5); clear hown2 hbx hkx hpar2 hg7 hpz hown7 hkz hbz; go_wp2_with fail
      go_roundg (G2 - 1)
      case measure => omega
      case rel => exact ⟨y + 1, _, b2, by go_num, by omega, rfl, Hb2, hparz, hownz, hkz2, hbz2⟩
     ·obtain rfl : y = m := by omega
      have e1 : X.take y = X := List.take_of_length_le (by rw [Hm.out]; omega); rw [e1] at hown Hbb; have t3 : decide ((y : Int) < (y : Int)) = false := by simp
      replace hres := Blk.keepG hres hkg (by have := hres.lt; omega) (by omega)
      replace ho0 := ho0.keepB hkg (by omega : p < p + 1)
      clear hkg hX0 e1; go_wp2_with fail
      go_roundg (G - 1)
      case measure => omega
      case rel => exact ⟨2, z, bb, _, _, _, _, rfl, rfl, by go_num, by omega, hzk, by rw [Hbb.out]; exact HS2, hpar, ho0, hown.mono (by omega), fun e => absurd e (by omega), fun e => absurd e (by omega), hres, hbw⟩
  ·obtain rfl : i = 2 := by omega
   have t1 : decide (((2 : Nat) : Int) < 2) = false := by simp
   obtain ⟨C1, j1, rfl⟩ := ho0.shp; obtain ⟨C2, j2, rfl⟩ := ho1.shp; have c0 := hpar.cell 0; have c1 := hpar.cell 1; simp only [List.getElem?_toArray, List.getElem?_cons_zero, List.getElem?_cons_succ] at c0 c1; clear HU0 HU1; go_upto_region 18 with fail; refine wp_name ?_; intro w5 HW; have hb5 : Below wr.heap.size wr w5 := by rw [HW.out]; exact bA _ _
   have hB : Blk w5 wr.heap.size 29 #[.slice C1 L0.length j1, .slice C2 L1.length j2] := by rw [HW.out]; exact Blk.new _ _ _
   obtain ⟨gq, hgq⟩ : ∃ g, Hid (g = wr.heap.size) := ⟨_, rfl⟩; rw [← hgq.out] at hB ⊢; have q0 := hB.cell 0; have q1 := hB.cell 1; simp only [List.getElem?_toArray, List.getElem?_cons_zero, List.getElem?_cons_succ] at q0 q1
   replace hres := hres.below hb5
   replace hbw := Below.tr hbw hb5
   have hrt : RtP w5 (.agg #[.slice C1 L0.length j1, .slice C2 L1.length j2]) (L0, L1) := ⟨_, _, _, _, _, _, rfl, (ho0.below hb5).lim.1, (ho1.below hb5).lim.1, rfl, rfl⟩; clear HW hgq c0 c1 hpar ho0 ho1 hb5 hij; obtain ⟨V, HV⟩ : ∃ v, Hid (v = validP (L0, L1)) := ⟨_, rfl⟩; have hval := valid_P _ _ _ hrt; rw [← HV.out] at hval; have HVAL := Lib.hid hval; clear hval
   cases b
   ·have HC : Hid (x0 = nilP ∧ n0 = 0 ∧ r0 = 2) := by
     have := HD.out.symm.trans (HS.out.badEnd (.inl rfl))
     show x0 = nilP ∧ n0 = 0 ∧ r0 = 2
     simpa using this
    obtain ⟨r1, r2, r3, r4⟩ := hres.facts; obtain ⟨s1, s2⟩ := hres.set2 (.slice none 0 0) (.slice none 0 0); clear hB hrt; go_wp2_with fail; exact bodyPost_ret (v := .tuple #[nilRat, .int .i64 0, .int .i64 2]) (by simp [results, Tryz.results10, go_sem, s1, s2, nilRat]) rfl ⟨_, by rw [HC.out.2.1, HC.out.2.2]; rfl, by rw [HC.out.1]; exact nil_rtP _, below_set2 hbw hge _ _⟩
   go_wp2_with fail; refine HVAL.out.mono ?_; rintro e w6 ⟨rfl, hb6⟩
   replace hrt := hrt.below hb6
   replace q0 := cell_keep hb6 q0
   replace q1 := cell_keep hb6 q1
   replace hres := hres.below hb6
   replace hbw := Below.tr hbw hb6
   clear hb6 hB HVAL; obtain ⟨r1, r2, r3, r4⟩ := hres.facts; by_cases hV : V = 0
   ·have t2 : (V != 0) = false := by simpa using hV
    have HC : Hid (x0 = (L0, L1) ∧ n0 = q ∧ r0 = 0) := by
     have := HD.out.symm.trans (HS.out.goodEnd (by rw [← HV.out]; simp [hV]))
     show x0 = (L0, L1) ∧ n0 = q ∧ r0 = 0
     simpa using this
    obtain ⟨s1, s2⟩ := hres.set2 (.slice C1 L0.length j1) (.slice C2 L1.length j2); have hfin := Lib.hid (hrt.mapL (RT.store (N := w.heap.size) hres.sl hge C1 L0.length j1 C2 L1.length j2).lim); clear hV hrt; go_wp2_with fail; exact bodyPost_ret (v := .tuple #[.agg #[.slice C1 L0.length j1, .slice C2 L1.length j2], .int .i64 (q : Int), .int .i64 0]) (by simp [results, Tryz.results10, go_sem, s1, s2]) rfl ⟨_, by rw [HC.out.2.1, HC.out.2.2], by rw [HC.out.1]; exact hfin.out, below_set2 hbw hge _ _⟩
   ·have t2 : (V != 0) = true := by simpa using hV
    have HC : Hid (x0 = nilP ∧ n0 = 0 ∧ r0 = 2) := by
     have := HD.out.symm.trans (HS.out.badEnd (.inr (by rw [← HV.out]; exact hV)))
     show x0 = nilP ∧ n0 = 0 ∧ r0 = 2
     simpa using this
    obtain ⟨s1, s2⟩ := hres.set2 (.slice none 0 0) (.slice none 0 0); clear hV hrt; go_wp2_with fail; exact bodyPost_ret (v := .tuple #[nilRat, .int .i64 0, .int .i64 2]) (by simp [results, Tryz.results10, go_sem, s1, s2, nilRat]) rfl ⟨_, by rw [HC.out.2.1, HC.out.2.2]; rfl, by rw [HC.out.1]; exact nil_rtP _, below_set2 hbw hge _ _⟩
end Go.Proofs.YtmbfjmilhfmnkaaGreatDoor
namespace Go.Proofs.YtmbfjmilhfmnkaaGreatDoor
open Go Go.RowKit
/-- limbs as integers -/
def castI (l : List Nat) : List Int := l.map fun x : Nat => (x : Int)
theorem castI_len (l : List Nat) : (castI l).length = l.length := by unfold castI; rw [List.length_map]
theorem castI_take {l : List Nat} {i d : Nat} (hi : i < l.length) (h : d = l.getD i 0) : castI (l.take (i + 1)) = castI (l.take i) ++ [(d : Int)] := by
 unfold castI; rw [List.take_add_one, List.map_append, List.getElem?_eq_getElem hi]; simp [List.getD, hi] at h; simp [h]
set_option maxRecDepth 100000 in
set_option maxHeartbeats 4000000 in
theorem uints_n (A : Option Addr) (k c : Nat) (l : List Nat) (w : World) (h : Lim w A c l) (hk : k = l.length) (hk2 : k ≤ 1073741823) :
  Calls Tryz.prog 27 #[.slice A k c] w fun e w' => ∃ v, e = .returned v ∧ OwnI w' w.heap.size v (castI l) ∧ Below w.heap.size w w' := by
 have HLEN := Lib.hid hk; clear hk
 go_enter Tryz.func27, Tryz.ntmps27
 go_wp2_with fail
 go_loopg [3, 4] k (fun j v x wr => ∃ i : Nat, x = .int .i64 i ∧ i + j = k ∧ OwnI wr w.heap.size v (castI (l.take i)) ∧ Below w.heap.size w wr)
 case atStart => exact ⟨0, rfl, by omega, OwnI.nil _ _, Below.refl _ _⟩
 case round =>
  obtain ⟨G, hG⟩ : ∃ G, G = gk := ⟨gk, rfl⟩; subst hG; obtain ⟨i, rfl, hij, hown, hbe⟩ := hrel; by_cases hi : i < k
  ·have t1 : decide ((i : Int) < (k : Int)) = true := by simp; omega
   have hik : (i : Int) < (k : Int) := by omega
   obtain ⟨b, o, d, rfl, hc, hd, HD⟩ := (h.below hbe).get (k := i) (by rw [← HLEN.out]; exact hi); have tm : (d : Int) % 18446744073709551616 = (d : Int) := by omega
   have HX2 : Hid (castI (l.take i) ++ [(d : Int)] = castI (l.take (i + 1))) := by show _ = _; rw [castI_take (by rw [← HLEN.out]; exact hi) HD.out]
   have hbA := bA wr (.cells #[.int .i64 (d : Int)] 3); have hown2 := hown.below hbA; have hrd := RowL.newI wr (d : Int); have hl : (castI (l.take i)).length + [(d : Int)].length ≤ 1073741824 := by rw [castI_len, List.length_take]; simp; omega
   have hbx := Below.tr hbe hbA; have hsz := hbx.size; clear hown hbA hbe HD
   go_wp2_with (at_builtin; go_loud (refine wpList_appI rfl (.tmp 11) (.tmp 17) rfl w.heap.size _ _ rfl hown2 (some ⟨wr.heap.size, 0, none⟩) 1 1 [(d : Int)] rfl hrd hl hsz ?_); intro v7 w7 hown7 hg7 _)
   have hbz := hbx.grown hg7 hsz (fun q hq => hown2.ge q hq); rw [HX2.out] at hown7; clear hown2 hbx hg7; go_wp2_with fail
   go_roundg (G - 1)
   case measure => omega
   case rel => exact ⟨i + 1, by go_num, by omega, hown7, hbz⟩
  ·obtain rfl : i = k := by omega
   have t1 : decide ((i : Int) < (i : Int)) = false := by simp
   have e1 : l.take i = l := List.take_of_length_le (by rw [← HLEN.out]; exact Nat.le_refl _); rw [e1] at hown; obtain ⟨A7, c7, rfl⟩ := hown.shp; have HO := Lib.hid hown; clear hown e1; go_wp2_with fail; go_ret; exact ⟨_, rfl, HO.out, hbe⟩
theorem enc_take {X : List Int} {i : Nat} {x : Int} (h : X[i]? = some x) : (X.take (i + 1)).flatMap Wi.encI = (X.take i).flatMap Wi.encI ++ Wi.encI x := by
 rw [List.take_add_one, h, List.flatMap_append]; simp
theorem enc_len (X : List Int) (h : ∀ x ∈ X, -9223372036854775808 ≤ x ∧ x ≤ 9223372036854775807) : (X.flatMap Wi.encI).length ≤ 9 * X.length := by
 induction X with
 | nil => simp
 | cons x X ih =>
  have h1 := ih fun y hy => h y (List.mem_cons_of_mem _ hy)
  have h2 := h x (List.mem_cons_self ..); have h3 := Wi.encI_len h2.1 h2.2; rw [List.flatMap_cons, List.length_append, List.length_cons]; omega
theorem encIs_len {X : List Int} (h : ∀ x ∈ X, -9223372036854775808 ≤ x ∧ x ≤ 9223372036854775807) (hl : X.length ≤ 9223372036854775807) : (Wi.encIs X).length ≤ 9 * X.length + 9 := by
 unfold Wi.encIs; have h1 := enc_len X h; have h2 := Wi.encI_len (n := (X.length : Int)) (by omega) (by omega); rw [List.length_append]; omega
theorem encIs_pos (X : List Int) : 0 < (Wi.encIs X).length := by
 unfold Wi.encIs Wi.encI Wi.encK; simp
set_option maxRecDepth 100000 in
set_option maxHeartbeats 4000000 in
theorem rints_n (A : Option Addr) (k c : Nat) (X : List Int) (w : World) (h : RowL intC w A k X) (hr : ∀ x ∈ X, -9223372036854775808 ≤ x ∧ x ≤ 9223372036854775807) (hk : k ≤ 67108864) :
  Calls Tryz.prog 8 #[.slice A k c] w fun e w' => ∃ v, e = .returned v ∧ OwnB w' w.heap.size v (Wi.encIs X) ∧ Below w.heap.size w w' := by
 have HLEN := Lib.hid h.2.1; have HR := Lib.hid hr; clear hr; have hkm : -9223372036854775808 ≤ (k : Int) := by omega
 have hkM : (k : Int) ≤ 9223372036854775807 := by omega
 go_enter Tryz.func8, Tryz.ntmps8
 go_wp2_with fail; refine (rint_n (k : Int) _ hkm hkM).mono ?_; rintro e w1 ⟨v0, rfl, ho0, hb0⟩; obtain ⟨A0, c0, rfl⟩ := ho0.shp; obtain ⟨L, HL⟩ : ∃ L, Hid (L = Wi.encI (k : Int)) := ⟨_, rfl⟩; have hL9 : L.length ≤ 9 := by rw [HL.out]; exact Wi.encI_len hkm hkM
 rw [← HL.out] at ho0 ⊢; clear hkm hkM; go_wp2_with fail
 go_loopg [3, 4] k (fun j v x wr => ∃ (i : Nat) (P : List Nat), x = .int .i64 i ∧ i + j = k ∧ Hid (P = L ++ (X.take i).flatMap Wi.encI) ∧ OwnB wr w.heap.size v P ∧ Below w.heap.size w wr)
 case atStart => exact ⟨0, L, rfl, by omega, (by show _ = _; simp), ho0, hb0⟩
 case round =>
  obtain ⟨G, hG⟩ : ∃ G, G = gk := ⟨gk, rfl⟩; subst hG; clear ho0 hb0; obtain ⟨i, P, rfl, hij, HP, hown, hbe⟩ := hrel; by_cases hi : i < k
  ·have t1 : decide ((i : Int) < (k : Int)) = true := by simp; omega
   have hik : (i : Int) < (k : Int) := by omega
   obtain ⟨b, o, x, rfl, hc, HX⟩ := (h.below hbe).int hi; obtain ⟨x1, x2⟩ := HR.out x (List.mem_of_getElem? HX.out); obtain ⟨Z, HZ⟩ : ∃ Z, Hid (Z = Wi.encI x) := ⟨_, rfl⟩; have HX2 : Hid (P ++ Z = L ++ (X.take (i + 1)).flatMap Wi.encI) := by show _ = _; rw [HP.out, HZ.out, enc_take HX.out, List.append_assoc]
   have hl9 : Z.length ≤ 9 := by rw [HZ.out]; exact Wi.encI_len x1 x2
   have hlT : P.length ≤ 9 + 9 * k := by
    rw [HP.out]; have := enc_len (X.take i) fun y hy => HR.out y (List.mem_of_mem_take hy)
    rw [List.length_take] at this; rw [List.length_append]; omega
   obtain ⟨A3, c3, rfl⟩ := hown.shp; go_wp2_with fail; refine (rint_n x _ x1 x2).mono ?_; rintro e w2 ⟨v1, rfl, ho1, hb1⟩; rw [← HZ.out] at ho1; obtain ⟨A1, c1, rfl⟩ := ho1.shp; have hby := ho1.by_ (by omega); have hown2 := hown.below hb1; have hbx := Below.tr hbe hb1; have hsz := hbx.size; have hl : P.length + Z.length ≤ 1073741824 := by omega
   clear hown hbe hb1 ho1
   go_wp2_with (at_builtin; go_loud (refine wpList_appB rfl (.tmp 14) (.tmp 19) rfl w.heap.size (.slice A3 P.length c3) _ rfl hown2 A1 Z.length c1 _ rfl hby hl hsz ?_); intro v7 w7 hown7 hg7 _)
   have hbz := hbx.grown hg7 hsz (fun q hq => hown2.ge q hq); clear hown2 hbx hg7; go_wp2_with fail
   go_roundg (G - 1)
   case measure => omega
   case rel => exact ⟨i + 1, P ++ Z, by go_num, by omega, HX2, hown7, hbz⟩
  ·obtain rfl : i = k := by omega
   have t1 : decide ((i : Int) < (i : Int)) = false := by simp
   have e1 : X.take i = X := List.take_of_length_le (by rw [← HLEN.out]; exact Nat.le_refl _); have e2 : P = Wi.encIs X := by rw [HP.out, e1]; unfold Wi.encIs; rw [HL.out, ← HLEN.out]
   have HO2 := Lib.hid e2; clear e1 e2; obtain ⟨A7, c7, rfl⟩ := hown.shp; have HO := Lib.hid hown; clear hown; go_wp2_with fail; go_ret; exact ⟨_, rfl, by rw [← HO2.out]; exact HO.out, hbe⟩
theorem RowL.take_int {w : World} {A : Option Addr} {k : Nat} {X : List Int} (h : RowL intC w A k X) (m : Nat) (hm : m ≤ k) : RowL intC w A m (X.take m) := by
 obtain ⟨h1, h2, h3⟩ := h; refine ⟨?_, by rw [List.length_take]; omega, by omega⟩; have e : X.flatMap intC = (X.take m).flatMap intC ++ (X.drop m).flatMap intC := by rw [← List.flatMap_append, List.take_append_drop]
 intro hne; obtain ⟨b, off, rfl, hc⟩ := h1 (by rw [e]; simp [hne]); refine ⟨b, off, rfl, fun i hi => ?_⟩; rw [hc i (by rw [e, List.length_append]; omega)]
 congr 1
 simp only [e]; exact List.getElem_append_left hi
set_option maxRecDepth 100000 in
set_option maxHeartbeats 4000000 in
theorem takeI_n (A : Option Addr) (k c : Nat) (X : List Int) (m : Nat) (w : World) (h : RowL intC w A k X) (hkc : k ≤ c) (hc : c ≤ 9223372036854775807) (hm : m ≤ 1048576) :
  Calls Tryz.prog 9 #[.slice A k c, .int .i64 (m : Nat)] w fun e w' => ∃ v, e = .returned v ∧ OwnI w' w.heap.size v (X.take m) ∧ Below w.heap.size w w' := by
 have HLEN := Lib.hid h.2.1; obtain ⟨q, Hq⟩ : ∃ q, Hid (q = min k m) := ⟨_, rfl⟩; have hqk : q ≤ k := by rw [Hq.out]; omega
 have hqc : q ≤ c := by omega
 have hqm : q ≤ 1048576 := by rw [Hq.out]; omega
 have hmin : min (k : Int) (m : Int) = (q : Int) := by rw [Hq.out]; omega
 have hrow := h.take_int q hqk
 have HE : Hid (X.take q = X.take m) := by
  show _ = _
  rcases Nat.le_total k m with hl | hl
  ·rw [Hq.out, Nat.min_eq_left hl, List.take_of_length_le (by rw [← HLEN.out]; exact Nat.le_refl _), List.take_of_length_le (by rw [← HLEN.out]; exact hl)]
  ·rw [Hq.out, Nat.min_eq_right hl]
 have hl : ([] : List Int).length + (X.take q).length ≤ 1073741824 := by rw [List.length_take]; simp; omega
 have hsz : w.heap.size ≤ w.heap.size := Nat.le_refl _; have hown2 := OwnI.nil w w.heap.size
 go_enter Tryz.func9, Tryz.ntmps9
 go_wp2_with (at_builtin; go_loud (refine wpList_appI rfl (.tmp 6) (.tmp 12) rfl w.heap.size (.slice none 0 0) _ rfl hown2 A q c _ rfl hrow hl hsz ?_); intro v7 w7 hown7 hg7 _)
 have hbz := (Below.refl w.heap.size w).grown hg7 hsz (fun q hq => hown2.ge q hq); obtain ⟨Y, HY⟩ : ∃ Y, Hid (Y = X.take m) := ⟨_, rfl⟩; rw [List.nil_append, HE.out, ← HY.out] at hown7; rw [← HY.out]; obtain ⟨A7, c7, rfl⟩ := hown7.shp; have HO := Lib.hid hown7; clear hown7 hown2 hg7 hrow; go_wp2_with fail; go_ret; exact ⟨_, rfl, HO.out, hbz⟩
end Go.Proofs.YtmbfjmilhfmnkaaGreatDoor
namespace Go.Proofs.YtmbfjmilhfmnkaaGreatDoor
open Go Go.RowKit
/-- no longer than two hundred limbs -/
def Sm (x : LP) : Prop := x.1.length ≤ 200 ∧ x.2.length ≤ 200
theorem Sm.good {p q : Nat} (h : Nm.Good p q) : Sm (ratP p q) := ⟨Nat.le_trans h.fits.1 (by omega), Nat.le_trans h.fits.2 (by omega)⟩
theorem Sm.raw (l l' : List Nat) {m m' : Nat} (hm : m = min l.length 70) (hm' : m' = min l'.length 70) : Sm (l.take m, l'.take m') := ⟨by show (List.take _ _).length ≤ _; rw [List.length_take]; omega, by show (List.take _ _).length ≤ _; rw [List.length_take]; omega⟩
theorem rpart_S (n d : Int) (w : World) (h1 : isI64 n) (h2 : isI64 d) : Calls Tryz.prog 25 #[.int .i64 n, .int .i64 d] w fun e w' => ∃ v, e = .returned v ∧ (∃ x, RtP w' v x ∧ Sm x) ∧ Below w.heap.size w w' := by
 refine (rpart_n n d w h1.1 h1.2 h2.1 h2.2).mono ?_; rintro e w' ⟨v, p, q, rfl, h, hg, _, _, hb⟩; exact ⟨v, rfl, ⟨_, h.rtP, Sm.good hg⟩, hb⟩
theorem rspoilt_S (va : Value) (p q : Nat) (how by_ : Int) (w : World) (ha : Rat w va p q) (ga : Nm.Good p q) (h1 : isI64 how) (h2 : isI64 by_) : Calls Tryz.prog 26 #[va, .int .i64 how, .int .i64 by_] w fun e w' => ∃ v, e = .returned v ∧ (∃ x, RtP w' v x ∧ Sm x) ∧ Below w.heap.size w w' := by
 refine (spoilt_n va p q how by_ w ha ga h1.1 h1.2 h2.1 h2.2).mono ?_; rintro e w' ⟨v, m1, m2, rfl, h, q1, q2, hb⟩; exact ⟨v, rfl, ⟨(m1, m2), h, q1, q2⟩, hb⟩

def PhiSs (a1 a2 b1 b2 : Value) (n m how by_ : Int) (A4 A5 : Option Addr) (k4 c4 m4 k5 c5 m5 : Nat) (j : Nat) (w : World) (x : Value) : Prop :=
 match j with
 | 0 => x = .agg #[a1, a2]
 | 1 => x = .int .i64 n
 | 2 => x = .int .i64 m
 | 3 => ∃ X, RtP w x X ∧ Sm X
 | 4 => x = .agg #[b1, b2]
 | 5 => x = .agg #[a1, a2]
 | 6 => x = .int .i64 how
 | 7 => x = .int .i64 by_
 | 8 => ∃ X, RtP w x X ∧ Sm X
 | 9 => x = .agg #[b1, b2]
 | 10 => x = .int .i64 by_
 | 11 => x = .int .i64 how
 | 12 => ∃ X, RtP w x X ∧ Sm X
 | 13 => x = .slice A4 k4 c4
 | 14 => x = .slice A4 k4 c4
 | 15 => x = .int .i64 (k4 : Nat)
 | 16 => x = .int .i64 (m4 : Nat)
 | 17 => x = .slice A4 m4 c4
 | 18 => x = .slice A5 k5 c5
 | 19 => x = .slice A5 k5 c5
 | 20 => x = .int .i64 (k5 : Nat)
 | 21 => x = .int .i64 (m5 : Nat)
 | 22 => x = .slice A5 m5 c5
 | 23 => x = .agg #[.slice A4 m4 c4, .slice A5 m5 c5]
 | 24 => x = nilRat
 | 25 => ∃ g xs, x = .slice (some ⟨g, 0, none⟩) 7 7 ∧ RatRow w (some ⟨g, 0, none⟩) 7 xs ∧ Hid (∀ y ∈ xs, Sm y)
 | 26 => ∃ g xs, x = .slice (some ⟨g, 0, none⟩) 7 7 ∧ RatRow w (some ⟨g, 0, none⟩) 7 xs ∧ Hid (∀ y ∈ xs, Sm y)
 | _ => True

theorem PhiSs.keep {a1 a2 b1 b2 : Value} {n m how by_ : Int} {A4 A5 : Option Addr} {k4 c4 m4 k5 c5 m5 : Nat} : ∀ (w w' : World), Below w.heap.size w w' → ∀ j x, PhiSs a1 a2 b1 b2 n m how by_ A4 A5 k4 c4 m4 k5 c5 m5 j w x → PhiSs a1 a2 b1 b2 n m how by_ A4 A5 k4 c4 m4 k5 c5 m5 j w' x := by
 intro w w' hb j x h; unfold PhiSs at h ⊢
 split <;> simp only at h ⊢
 all_goals first
  | exact h
  | (obtain ⟨X, h, h2⟩ := h; exact ⟨X, h.below hb, h2⟩)
  | (obtain ⟨g, qs, e, h, h2⟩ := h; exact ⟨g, qs, e, h.below hb, h2⟩)
set_option maxRecDepth 100000 in
set_option maxHeartbeats 4000000 in
theorem some_s (n m how by_ : Int) (A4 : Option Addr) (k4 c4 : Nat) (A5 : Option Addr) (k5 c5 : Nat) (l4 l5 : List Nat) (w : World) (hin : isI64 n) (him : isI64 m) (hih : isI64 how) (hib : isI64 by_) (hl4 : Lim w A4 c4 l4) (hk4 : k4 = l4.length) (hl5 : Lim w A5 c5 l5) (hk5 : k5 = l5.length) :
  Calls Tryz.prog 5 #[.int .i64 n, .int .i64 m, .int .i64 how, .int .i64 by_, .slice A4 k4 c4, .slice A5 k5 c5] w fun e w' => ∃ g xs, e = .returned (.slice (some ⟨g, 0, none⟩) 7 7) ∧ RatRow w' (some ⟨g, 0, none⟩) 7 xs ∧ xs.length = 7 ∧ Hid (∀ y ∈ xs, Sm y) ∧ Below w.heap.size w w' := by
 obtain ⟨iR, hiR, hzR, hzR1, hzR2⟩ := info_parts info_ratio; have HIN := Lib.hid hin; have HIM := Lib.hid him; have HL4 := Lib.hid hl4; have HL5 := Lib.hid hl5; have HK4 := Lib.hid hk4; have HK5 := Lib.hid hk5; clear hl4 hl5 hk4 hk5
 go_enter Tryz.func5, Tryz.ntmps5
 go_wp2_with fail; refine (rmade_n n m _ hin.1 hin.2 him.1 him.2).mono ?_; rintro e w1 ⟨va, pa, qa, rfl, hra, ga, hb1⟩; obtain ⟨P0, p0, s0, Q0, q0, t0, rfl⟩ := hra.shape; go_upto_region 2 with fail; refine wp_name ?_; intro w2 HW; have hb2 : Below w1.heap.size w1 w2 := by rw [HW.out]; exact bA _ _
 have hB : Blk w2 w1.heap.size 29 #[.slice P0 p0 s0, .slice Q0 q0 t0] := by rw [HW.out]; exact Blk.new _ _ _
 obtain ⟨ga_, hga⟩ : ∃ g, Hid (g = w1.heap.size) := ⟨_, rfl⟩; rw [← hga.out] at hB ⊢; have ha0 := hB.cell 0; have ha1 := hB.cell 1; simp only [List.getElem?_toArray, List.getElem?_cons_zero, List.getElem?_cons_succ] at ha0 ha1; have hra := hra.below hb2; have hbw := Below.tr hb1 hb2; clear HW hB hga hb1 hb2; go_wp2_with fail; refine (large_n m n _ HIM.out HIN.out).mono ?_; rintro e w3 ⟨vb, pb, qb, rfl, hrb, gb, hb3⟩; obtain ⟨P2, p2, s2, Q2, q2, t2, rfl⟩ := hrb.shape; have hra := hra.below hb3; have ha0 := cell_keep hb3 ha0; have ha1 := cell_keep hb3 ha1; have hbw := Below.tr hbw hb3; clear hb3; go_upto_region 3 with fail; refine wp_name ?_; intro w4 HW; have hb4 : Below w3.heap.size w3 w4 := by rw [HW.out]; exact bA _ _
 have hB : Blk w4 w3.heap.size 29 #[.slice P2 p2 s2, .slice Q2 q2 t2] := by rw [HW.out]; exact Blk.new _ _ _
 obtain ⟨gb_, hgb⟩ : ∃ g, Hid (g = w3.heap.size) := ⟨_, rfl⟩; rw [← hgb.out] at hB ⊢; have hb0 := hB.cell 0; have hb1 := hB.cell 1; simp only [List.getElem?_toArray, List.getElem?_cons_zero, List.getElem?_cons_succ] at hb0 hb1; have hra := hra.below hb4; have hrb := hrb.below hb4; have ha0 := cell_keep hb4 ha0; have ha1 := cell_keep hb4 ha1; have hbw := Below.tr hbw hb4; clear HW hB hgb hb4; have hl4 := HL4.out.below hbw; have hl5 := HL5.out.below hbw; have hk4 := HK4.out; have hk5 := HK5.out; obtain ⟨m4, hm4⟩ : ∃ m : Nat, m = min l4.length 70 := ⟨_, rfl⟩; obtain ⟨m5, hm5⟩ : ∃ m : Nat, m = min l5.length 70 := ⟨_, rfl⟩; have x4 : min (k4 : Int) 70 = (m4 : Int) := by omega
 have x5 : min (k5 : Int) 70 = (m5 : Int) := by omega
 have y4 : m4 ≤ c4 := by have := hl4.2.1; omega
 have y5 : m5 ≤ c5 := by have := hl5.2.1; omega
 have z4 : c4 ≤ 9223372036854775807 := hl4.2.2.1; have z5 : c5 ≤ 9223372036854775807 := hl5.2.2.1
 replace hm4 := Lib.hid hm4
 replace hm5 := Lib.hid hm5
 clear hk4 hk5; refine region_invF (PhiSs (.slice P0 p0 s0) (.slice Q0 q0 t0) (.slice P2 p2 s2) (.slice Q2 q2 t2) n m how by_ A4 A5 k4 c4 m4 k5 c5 m5) (fun w w' => Below w.heap.size w w') (fun W => Below w4.heap.size w4 W) (by kernel_rfl) (by kernel_rfl) (by kernel_rfl) PhiSs.keep (fun _ _ hR hS => Below.tr hS hR) (bD _) (fun vs => by simp only [fillR, Act.put, sA, sB, sC, Nat.zero_add, Nat.reduceAdd]; rfl) ?_ ?_
 ·refine sK ?_ (sK ?_ (sK ?_ (sK ?_ (sK ?_ (sK ?_ (sK ?_ (sK ?_ (sK ?_ (sK ?_ (sK ?_ (sK ?_ (sK ?_ (sK ?_ (sK ?_ (sK ?_ (sK ?_ (sK ?_ (sK ?_ (sK ?_ (sK ?_ (sK ?_ (sK ?_ (sK ?_ (sK ?_ (sK ?_ (sK ?_ (sZ)))))))))))))))))))))))))))
  ·as_aux_lemma =>
   intro vs W hS hdep K hK; have f1 := cell_keep hS ha0; have f2 := cell_keep hS ha1; refine ⟨?_⟩; simp only [Act.put, sA, sB, sC, Nat.zero_add, Nat.reduceAdd] at hK ⊢; go_simp; with_reducible refine hK _ _ (Below.refl _ _) ?_
   exact rfl
  ·as_aux_lemma =>
   intro vs W hS hdep K hK; refine ⟨?_⟩; simp only [Act.put, sA, sB, sC, Nat.zero_add, Nat.reduceAdd] at hK ⊢; go_simp; with_reducible refine hK _ _ (Below.refl _ _) ?_
   exact rfl
  ·as_aux_lemma =>
   intro vs W hS hdep K hK; refine ⟨?_⟩; simp only [Act.put, sA, sB, sC, Nat.zero_add, Nat.reduceAdd] at hK ⊢; go_simp; with_reducible refine hK _ _ (Below.refl _ _) ?_
   exact rfl
  ·as_aux_lemma =>
   intro vs W hS hdep K hK; have d0 := hdep ⟨1, .data⟩ (by simp) rfl; simp only [PhiSs] at d0; have d1 := hdep ⟨2, .data⟩ (by simp) rfl; simp only [PhiSs] at d1; refine ⟨?_⟩; simp only [Act.put, sA, sB, sC, Nat.zero_add, Nat.reduceAdd, d0, d1] at hK ⊢; go_simp; refine (rpart_S n m _ hin him).mono ?_; rintro e w' ⟨v, rfl, hv, hb⟩; go_wp2_with fail; with_reducible refine hK _ _ hb ?_
   exact hv
  ·as_aux_lemma =>
   intro vs W hS hdep K hK; have f1 := cell_keep hS hb0; have f2 := cell_keep hS hb1; refine ⟨?_⟩; simp only [Act.put, sA, sB, sC, Nat.zero_add, Nat.reduceAdd] at hK ⊢; go_simp; with_reducible refine hK _ _ (Below.refl _ _) ?_
   exact rfl
  ·as_aux_lemma =>
   intro vs W hS hdep K hK; have f1 := cell_keep hS ha0; have f2 := cell_keep hS ha1; refine ⟨?_⟩; simp only [Act.put, sA, sB, sC, Nat.zero_add, Nat.reduceAdd] at hK ⊢; go_simp; with_reducible refine hK _ _ (Below.refl _ _) ?_
   exact rfl
  ·as_aux_lemma =>
   intro vs W hS hdep K hK; refine ⟨?_⟩; simp only [Act.put, sA, sB, sC, Nat.zero_add, Nat.reduceAdd] at hK ⊢; go_simp; with_reducible refine hK _ _ (Below.refl _ _) ?_
   exact rfl
  ·as_aux_lemma =>
   intro vs W hS hdep K hK; refine ⟨?_⟩; simp only [Act.put, sA, sB, sC, Nat.zero_add, Nat.reduceAdd] at hK ⊢; go_simp; with_reducible refine hK _ _ (Below.refl _ _) ?_
   exact rfl
  ·as_aux_lemma =>
   intro vs W hS hdep K hK; have d0 := hdep ⟨5, .data⟩ (by simp) rfl; simp only [PhiSs] at d0; have d1 := hdep ⟨6, .data⟩ (by simp) rfl; simp only [PhiSs] at d1; have d2 := hdep ⟨7, .data⟩ (by simp) rfl; simp only [PhiSs] at d2; refine ⟨?_⟩; simp only [Act.put, sA, sB, sC, Nat.zero_add, Nat.reduceAdd, d0, d1, d2] at hK ⊢; go_simp; refine (rspoilt_S _ pa qa how by_ _ (hra.below hS) ga hih hib).mono ?_; rintro e w' ⟨v, rfl, hv, hb⟩; go_wp2_with fail; with_reducible refine hK _ _ hb ?_
   exact hv
  ·as_aux_lemma =>
   intro vs W hS hdep K hK; have f1 := cell_keep hS hb0; have f2 := cell_keep hS hb1; refine ⟨?_⟩; simp only [Act.put, sA, sB, sC, Nat.zero_add, Nat.reduceAdd] at hK ⊢; go_simp; with_reducible refine hK _ _ (Below.refl _ _) ?_
   exact rfl
  ·as_aux_lemma =>
   intro vs W hS hdep K hK; refine ⟨?_⟩; simp only [Act.put, sA, sB, sC, Nat.zero_add, Nat.reduceAdd] at hK ⊢; go_simp; with_reducible refine hK _ _ (Below.refl _ _) ?_
   exact rfl
  ·as_aux_lemma =>
   intro vs W hS hdep K hK; refine ⟨?_⟩; simp only [Act.put, sA, sB, sC, Nat.zero_add, Nat.reduceAdd] at hK ⊢; go_simp; with_reducible refine hK _ _ (Below.refl _ _) ?_
   exact rfl
  ·as_aux_lemma =>
   intro vs W hS hdep K hK; have d0 := hdep ⟨9, .data⟩ (by simp) rfl; simp only [PhiSs] at d0; have d1 := hdep ⟨10, .data⟩ (by simp) rfl; simp only [PhiSs] at d1; have d2 := hdep ⟨11, .data⟩ (by simp) rfl; simp only [PhiSs] at d2; refine ⟨?_⟩; simp only [Act.put, sA, sB, sC, Nat.zero_add, Nat.reduceAdd, d0, d1, d2] at hK ⊢; go_simp; refine (rspoilt_S _ pb qb by_ how _ (hrb.below hS) gb hib hih).mono ?_; rintro e w' ⟨v, rfl, hv, hb⟩; go_wp2_with fail; with_reducible refine hK _ _ hb ?_
   exact hv
  ·as_aux_lemma =>
   intro vs W hS hdep K hK; refine ⟨?_⟩; simp only [Act.put, sA, sB, sC, Nat.zero_add, Nat.reduceAdd] at hK ⊢; go_simp; with_reducible refine hK _ _ (Below.refl _ _) ?_
   exact rfl
  ·as_aux_lemma =>
   intro vs W hS hdep K hK; refine ⟨?_⟩; simp only [Act.put, sA, sB, sC, Nat.zero_add, Nat.reduceAdd] at hK ⊢; go_simp; with_reducible refine hK _ _ (Below.refl _ _) ?_
   exact rfl
  ·as_aux_lemma =>
   intro vs W hS hdep K hK; have d0 := hdep ⟨14, .data⟩ (by simp) rfl; simp only [PhiSs] at d0; refine ⟨?_⟩; simp only [Act.put, sA, sB, sC, Nat.zero_add, Nat.reduceAdd, d0] at hK ⊢; go_simp; with_reducible refine hK _ _ (Below.refl _ _) ?_
   exact rfl
  ·as_aux_lemma =>
   intro vs W hS hdep K hK; have d0 := hdep ⟨15, .data⟩ (by simp) rfl; simp only [PhiSs] at d0; refine ⟨?_⟩; simp only [Act.put, sA, sB, sC, Nat.zero_add, Nat.reduceAdd, d0] at hK ⊢; go_simp; with_reducible refine hK _ _ (Below.refl _ _) ?_
   exact rfl
  ·as_aux_lemma =>
   intro vs W hS hdep K hK; have d0 := hdep ⟨13, .data⟩ (by simp) rfl; simp only [PhiSs] at d0; have d1 := hdep ⟨16, .data⟩ (by simp) rfl; simp only [PhiSs] at d1; refine ⟨?_⟩; simp only [Act.put, sA, sB, sC, Nat.zero_add, Nat.reduceAdd, d0, d1] at hK ⊢; go_simp; with_reducible refine hK _ _ (Below.refl _ _) ?_
   exact rfl
  ·as_aux_lemma =>
   intro vs W hS hdep K hK; refine ⟨?_⟩; simp only [Act.put, sA, sB, sC, Nat.zero_add, Nat.reduceAdd] at hK ⊢; go_simp; with_reducible refine hK _ _ (Below.refl _ _) ?_
   exact rfl
  ·as_aux_lemma =>
   intro vs W hS hdep K hK; refine ⟨?_⟩; simp only [Act.put, sA, sB, sC, Nat.zero_add, Nat.reduceAdd] at hK ⊢; go_simp; with_reducible refine hK _ _ (Below.refl _ _) ?_
   exact rfl
  ·as_aux_lemma =>
   intro vs W hS hdep K hK; have d0 := hdep ⟨19, .data⟩ (by simp) rfl; simp only [PhiSs] at d0; refine ⟨?_⟩; simp only [Act.put, sA, sB, sC, Nat.zero_add, Nat.reduceAdd, d0] at hK ⊢; go_simp; with_reducible refine hK _ _ (Below.refl _ _) ?_
   exact rfl
  ·as_aux_lemma =>
   intro vs W hS hdep K hK; have d0 := hdep ⟨20, .data⟩ (by simp) rfl; simp only [PhiSs] at d0; refine ⟨?_⟩; simp only [Act.put, sA, sB, sC, Nat.zero_add, Nat.reduceAdd, d0] at hK ⊢; go_simp; with_reducible refine hK _ _ (Below.refl _ _) ?_
   exact rfl
  ·as_aux_lemma =>
   intro vs W hS hdep K hK; have d0 := hdep ⟨18, .data⟩ (by simp) rfl; simp only [PhiSs] at d0; have d1 := hdep ⟨21, .data⟩ (by simp) rfl; simp only [PhiSs] at d1; refine ⟨?_⟩; simp only [Act.put, sA, sB, sC, Nat.zero_add, Nat.reduceAdd, d0, d1] at hK ⊢; go_simp; with_reducible refine hK _ _ (Below.refl _ _) ?_
   exact rfl
  ·as_aux_lemma =>
   intro vs W hS hdep K hK; have d0 := hdep ⟨17, .data⟩ (by simp) rfl; simp only [PhiSs] at d0; have d1 := hdep ⟨22, .data⟩ (by simp) rfl; simp only [PhiSs] at d1; refine ⟨?_⟩; simp only [Act.put, sA, sB, sC, Nat.zero_add, Nat.reduceAdd, d0, d1] at hK ⊢; go_simp; with_reducible refine hK _ _ (Below.refl _ _) ?_
   exact rfl
  ·as_aux_lemma =>
   intro vs W hS hdep K hK; refine ⟨?_⟩; simp only [Act.put, sA, sB, sC, Nat.zero_add, Nat.reduceAdd] at hK ⊢; go_simp; with_reducible refine hK _ _ (Below.refl _ _) ?_
   exact rfl
  ·as_aux_lemma =>
   intro vs W hS hdep K hK; have d0 := hdep ⟨0, .data⟩ (by simp) rfl; simp only [PhiSs] at d0; have d1 := hdep ⟨3, .data⟩ (by simp) rfl; simp only [PhiSs] at d1; refine @exE1 _ _ _ d1 ?_; clear d1; intro X1 d1; have h1 := d1.1; have z1 := d1.2; clear d1; have d2 := hdep ⟨4, .data⟩ (by simp) rfl; simp only [PhiSs] at d2; have d3 := hdep ⟨8, .data⟩ (by simp) rfl; simp only [PhiSs] at d3; refine @exE1 _ _ _ d3 ?_; clear d3; intro X3 d3; have h3 := d3.1; have z3 := d3.2; clear d3; have d4 := hdep ⟨12, .data⟩ (by simp) rfl; simp only [PhiSs] at d4; refine @exE1 _ _ _ d4 ?_; clear d4; intro X4 d4; have h4 := d4.1; have z4 := d4.2; clear d4; have d5 := hdep ⟨23, .data⟩ (by simp) rfl; simp only [PhiSs] at d5; have d6 := hdep ⟨24, .data⟩ (by simp) rfl; simp only [PhiSs] at d6; obtain ⟨P1, p1, s1, Q1, q1, t1, e1⟩ := h1.shape; rw [e1] at h1; obtain ⟨P3, p3, s3, Q3, q3, t3, e3⟩ := h3.shape; rw [e3] at h3; obtain ⟨P4, p4, s4, Q4, q4, t4, e4⟩ := h4.shape; rw [e4] at h4; have HR := Lib.hid (ratRow_new 29 [(.slice P0 p0 s0, .slice Q0 q0 t0), (.slice P1 p1 s1, .slice Q1 q1 t1), (.slice P2 p2 s2, .slice Q2 q2 t2), (.slice P3 p3 s3, .slice Q3 q3 t3), (.slice P4 p4 s4, .slice Q4 q4 t4), (.slice A4 m4 c4, .slice A5 m5 c5), (.slice none 0 0, .slice none 0 0)] [ratP pa qa, X1, ratP pb qb, X3, X4, (l4.take m4, l5.take m5), nilP] ⟨(hra.below hS).rtP, h1, (hrb.below hS).rtP, h3, h4, raw_rt (hl4.below hS) (hl5.below hS) hm4.out hm5.out, nil_rtP _, trivial⟩ (by simp))
   have HZ : Hid (∀ y ∈ [ratP pa qa, X1, ratP pb qb, X3, X4, (l4.take m4, l5.take m5), nilP], Sm y) := by
    intro y hy; simp only [List.mem_cons, List.not_mem_nil, or_false] at hy
    rcases hy with rfl | rfl | rfl | rfl | rfl | rfl | rfl
    ·exact Sm.good ga
    ·exact z1
    ·exact Sm.good gb
    ·exact z3
    ·exact z4
    ·exact Sm.raw l4 l5 hm4.out hm5.out
    ·exact ⟨by simp [nilP], by simp [nilP]⟩
   clear z1 z3 z4; clear h1 h3 h4; refine ⟨?_⟩; simp only [Act.put, sA, sB, sC, Nat.zero_add, Nat.reduceAdd, d0, e1, d2, e3, e4, d5, d6] at hK ⊢; rw [if_pos (by rfl)]; refine wp_sliceN 24 29 7 [(0, .tmp 21), (1, .tmp 24), (2, .tmp 25), (3, .tmp 29), (4, .tmp 33), (5, .tmp 44), (6, .tmp 45)] rfl #[.slice P0 p0 s0, .slice Q0 q0 t0, .slice P1 p1 s1, .slice Q1 q1 t1, .slice P2 p2 s2, .slice Q2 q2 t2, .slice P3 p3 s3, .slice Q3 q3 t3, .slice P4 p4 s4, .slice Q4 q4 t4, .slice A4 m4 c4, .slice A5 m5 c5, .slice none 0 0, .slice none 0 0] iR nilRat 2 [(0, .agg #[.slice P0 p0 s0, .slice Q0 q0 t0]), (1, .agg #[.slice P1 p1 s1, .slice Q1 q1 t1]), (2, .agg #[.slice P2 p2 s2, .slice Q2 q2 t2]), (3, .agg #[.slice P3 p3 s3, .slice Q3 q3 t3]), (4, .agg #[.slice P4 p4 s4, .slice Q4 q4 t4]), (5, .agg #[.slice A4 m4 c4, .slice A5 m5 c5]), (6, .agg #[.slice none 0 0, .slice none 0 0])] Tryz.underlying24 hiR hzR hzR1 (by omega) (by omega) rfl (fill_r7 _ _ _ _ _ _ _ _ _ _ _ _ _ _ _ _ _ _ _ _ _ _ _ _ _ _ _ _ _ _ _ _ _ _ _ _ _ _ _ _ _ _) ?_; simp only [Act.put, sA, sB, sC]; with_reducible refine hK _ _ (bA _ _) ?_
   exact ⟨_, _, rfl, HR.out, HZ⟩
  ·as_aux_lemma =>
   intro vs W hS hdep K hK; have d0 := hdep ⟨25, .data⟩ (by simp) rfl; simp only [PhiSs] at d0; refine @exE2 _ _ _ _ d0 ?_; clear d0; intro g0 q0 d0; have e0 := d0.1; have n0 := d0.2.1; have o0 := d0.2.2; clear d0; refine ⟨?_⟩; simp only [Act.put, sA, sB, sC, Nat.zero_add, Nat.reduceAdd, e0] at hK ⊢; go_simp; with_reducible refine hK _ _ (Below.refl _ _) ?_
   exact ⟨_, _, rfl, n0, o0⟩
 ·intro vs W hS hv; have v26 := hv 26 (by simp); simp only [PhiSs] at v26; obtain ⟨g, xs, e26, hr, hz⟩ := v26; clear hv; simp only [Act.put, sA, sB, sC, Nat.zero_add, Nat.reduceAdd, e26]; go_wp2_with fail; go_ret; refine ⟨_, _, rfl, hr, ?_, hz, Below.tr hbw hS⟩; obtain ⟨ps, h1, h2, _⟩ := hr; rw [← h2]; exact h1.2.1.symm
end Go.Proofs.YtmbfjmilhfmnkaaGreatDoor
