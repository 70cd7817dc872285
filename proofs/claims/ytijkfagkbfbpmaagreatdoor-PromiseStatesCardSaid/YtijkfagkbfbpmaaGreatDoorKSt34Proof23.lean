import Derived.Test.YtijkfagkbfbpmaaGreatDoorKSt34Proof19
import Derived.Maps.OwnSet
import Derived.Deep.DeepMust
import Derived.Test.YtijkfagkbfbpmaaGreatDoorKSt34Proof22
import Derived.Test.YtijkfagkbfbpmaaGreatDoorKSt34Proof21
import Derived.Test.YtijkfagkbfbpmaaGreatDoorKSt34Proof16
import Derived.Laws.ResultCell
import Derived.Test.YtijkfagkbfbpmaaGreatDoorKSt34Proof12
import Derived.Test.YtijkfagkbfbpmaaGreatDoorKSt34Proof18
import Derived.Test.YtijkfagkbfbpmaaGreatDoorKSt34Proof14
import Derived.Test.YtijkfagkbfbpmaaGreatDoorKSt34Proof04
import Derived.Test.YtijkfagkbfbpmaaGreatDoorKSt34Proof11
import Derived.Test.YtijkfagkbfbpmaaGreatDoorS0
set_option linter.unusedVariables false
set_option linter.unusedSimpArgs false
namespace Go.Proofs.YtijkfagkbfbpmaaGreatDoor
open Go Go.RowKit Go.Maps Go.WideMaps
/-- a digest -/
structure DG where
 r0 : Value
 r1 : Value
 r2 : Value
 r3 : Value
 r4 : Value
 r5 : Value
 r6 : Value
 r7 : Value
 r8 : Value
 r9 : Value
 r10 : Value
 r11 : Value
 r12 : Value
 r13 : Value
 r14 : Value
 r15 : Value
def cellsDG (d : DG) : List Value := [d.r0, d.r1, d.r2, d.r3, d.r4, d.r5, d.r6, d.r7, d.r8, d.r9, d.r10, d.r11, d.r12, d.r13, d.r14, d.r15]
theorem cellsDG_len (d : DG) : (cellsDG d).length = 16 := rfl
def zeroDG : DG := ⟨.int .u8 0, .int .u8 0, .int .u8 0, .int .u8 0, .int .u8 0, .int .u8 0, .int .u8 0, .int .u8 0, .int .u8 0, .int .u8 0, .int .u8 0, .int .u8 0, .int .u8 0, .int .u8 0, .int .u8 0, .int .u8 0⟩
theorem zeroDG_ok : DgOk (cellsDG zeroDG) (List.replicate 16 0) := ⟨rfl, rfl⟩
def mmOf (tick : Int) (d : DG) (A : Option Addr) (k c : Nat) : MM := ⟨tick, d.r0, d.r1, d.r2, d.r3, d.r4, d.r5, d.r6, d.r7, d.r8, d.r9, d.r10, d.r11, d.r12, d.r13, d.r14, d.r15, A, k, c⟩
theorem infoDG {d : DG} : (Tryz.prog.info? 31).map (·.size) = some (cellsDG d).length := by kernel_rfl
theorem infoDGs {d : DG} : (Tryz.prog.info? 31).map (·.size) = some (cellsDG d).toArray.size := by kernel_rfl
theorem lawS : Keyed Tryz.prog 9 := string_keyed Tryz.underlying9
theorem zeroD (w : World) : (zeroValue 31).run Tryz.prog w = .ok (.agg (cellsDG zeroDG).toArray) w := by kernel_rfl
/-- an element is what it is -/
def holdE (v : Value) : Option (DataW Value × List MemPlace) := some (.held v, [])
theorem holdE_inv {v u : Value} {ps : List MemPlace} (h : holdE v = some (.held u, ps)) : v = u := by
 unfold holdE at h; injection h with h; injection h with h _; injection h with h
def kl (s : ByteArray) : Lit := .string s.data.toList
theorem kl_ne {s u : ByteArray} (h : s ≠ u) : kl s ≠ kl u := fun e => h (by
 unfold kl at e; injection e with e
 exact ByteArray.ext (by exact Array.toList_inj.1 e))
theorem kl_key {s : ByteArray} (h : s.size ≤ 9223372036854775807) : keyOf Tryz.prog 9 (.string s) = some (kl s) := keyOf_string_mk Tryz.underlying9 (by unfold maxLen; omega)
theorem kl_lit (s : ByteArray) : WideAt.IsKeyLit (kl s) := trivial
def eqS (a b : ByteArray) : Bool := a.data.toList == b.data.toList
theorem eqS_iff {a b : ByteArray} : eqS a b = true ↔ a = b := by
 unfold eqS; rw [beq_iff_eq]; exact ⟨fun h => ByteArray.ext (Array.toList_inj.1 h), fun h => by rw [h]⟩
def memS (s : ByteArray) (l : List ByteArray) : Bool := l.any (eqS s)
theorem memS_iff {s : ByteArray} {l : List ByteArray} : memS s l = true ↔ s ∈ l := by
 unfold memS; rw [List.any_eq_true]; exact ⟨fun ⟨x, hx, h⟩ => by rw [eqS_iff.1 h]; exact hx, fun h => ⟨s, h, eqS_iff.2 rfl⟩⟩
/-- what the map holds after i names -/
def MapD (names : List ByteArray) (ds : List DG) (i : Nat) (D : DataW Value) : Prop :=
 IsMap D ∧ (∀ s, Maps.has D (kl s) = memS s (names.take i)) ∧ (∀ j s d, j < i → names[j]? = some s → ds[j]? = some d → (∀ k, j < k → k < i → names[k]? ≠ some s) → D.atKey (kl s) (.held (.agg (cellsDG zeroDG).toArray)) = .held (.agg (cellsDG d).toArray))
theorem MapD.nil {names : List ByteArray} {ds : List DG} : MapD names ds 0 (.map []) := ⟨isMap_empty, fun s => rfl, fun j s d h => absurd h (Nat.not_lt_zero _)⟩
theorem MapD.next {names : List ByteArray} {ds : List DG} {i : Nat} {D : DataW Value} {s : ByteArray} {d : DG} (h : MapD names ds i D) (hs : names[i]? = some s) (hd : ds[i]? = some d) : MapD names ds (i + 1) (D.put (kl s) (.held (.agg (cellsDG d).toArray))) := by
 obtain ⟨h1, h2, h3⟩ := h; refine ⟨h1.put _ _, fun u => ?_, fun j u e hj hu he hno => ?_⟩
 ·rw [List.take_add_one, hs]; by_cases hus : u = s
  ·subst hus; rw [has_put_same h1 (kl_lit _)]
   symm; rw [memS_iff]; simp
  ·rw [has_put_other (kl_ne hus), h2]; rw [Bool.eq_iff_iff, memS_iff, memS_iff]; simp [hus]
 ·by_cases hus : u = s
  ·subst hus; rw [atKey_put_same h1 (kl_lit _)]
   rcases Nat.lt_or_ge j i with h | h
   ·exact absurd hs (hno i h (by omega))
   ·obtain rfl : j = i := by omega
    rw [hd] at he; injection he with he; rw [he]
  ·rw [atKey_put_other (kl_ne hus)]
   rcases Nat.lt_or_ge j i with h | h
   ·exact h3 j u e h hu he (fun k hk hki => hno k hk (by omega))
   ·obtain rfl : j = i := by omega
    rw [hs] at hu; injection hu with hu; exact absurd hu.symm hus
/-- a name stands twice -/
def twB (names : List ByteArray) (i : Nat) : Bool := match names[i]? with
 | some s => memS s (names.take i)
 | none => false
def twA (names : List ByteArray) : Bool := (List.range names.length).any (twB names)
def eqO : Option ByteArray → ByteArray → Bool
 | some a, b => eqS a b
 | none, _ => false
theorem eqO_iff {a : Option ByteArray} {b : ByteArray} : eqO a b = true ↔ a = some b := by
 cases a with
 | none => simp [eqO]
 | some a => simp [eqO, eqS_iff]
/-- where a name stands -/
def idxN (names : List ByteArray) (s : ByteArray) : Option Nat := (List.range names.length).find? (fun j => eqO (names[j]?) s)
theorem tw_apart {names : List ByteArray} (h : twA names = false) {j k : Nat} {s : ByteArray} (hj : names[j]? = some s) (hk : names[k]? = some s) (hjk : j < k) : False := by
 unfold twA at h; rw [List.any_eq_false] at h; have hl := (List.getElem?_eq_some_iff.1 hk).1; refine h k (List.mem_range.2 hl) ?_; unfold twB; rw [hk]; simp only [memS_iff]; exact List.mem_of_getElem? (i := j) (by rw [List.getElem?_take, if_pos hjk]; exact hj)
theorem idx_some {names : List ByteArray} {s : ByteArray} (h : s ∈ names) : ∃ j, idxN names s = some j ∧ names[j]? = some s := by
 obtain ⟨n, hn⟩ := List.getElem?_of_mem h; unfold idxN
 cases e : (List.range names.length).find? (fun j => eqO (names[j]?) s) with
 | none =>
  rw [List.find?_eq_none] at e; exact absurd (eqO_iff.2 hn) (e n (List.mem_range.2 (List.getElem?_eq_some_iff.1 hn).1))
 | some j => exact ⟨j, rfl, eqO_iff.1 (List.find?_some (p := fun j => eqO (names[j]?) s) e)⟩
theorem idx_none {names : List ByteArray} {s : ByteArray} (h : s ∉ names) : idxN names s = none := by
 unfold idxN; rw [List.find?_eq_none]; intro j _ hj; exact h (List.mem_of_getElem? (eqO_iff.1 hj))
/-- the promise i is active -/
def actB (tick : Int) (br : List Int) (Ev : Nat → Int) (Lf : Nat → List Nat × List Nat) (dg : Nat → List Int) (ps : List PC) (names : List ByteArray) (rd : Nat → List Int) (i : Nat) : Bool := match ps[i]? with
 | some p => (match idxN names p.test with
  | some j => decide (Ev i = 0) && (stF tick (rd j) br Ev Lf dg ps i == 0)
  | none => false)
 | none => false
def AcP (w' : World) (base kt ks : Nat) (tick : Int) (br : List Int) (Ev : Nat → Int) (Lf : Nat → List Nat × List Nat) (dg : Nat → List Int) (ps : List PC) (names : List ByteArray) (rd : Nat → List Int) (v : Value) (er : Int) : Prop :=
 (kt ≠ ks ∧ er = 1 ∧ v = .slice none 0 0) ∨ (kt = ks ∧ twA names = true ∧ er = 7 ∧ v = .slice none 0 0) ∨
 (kt = ks ∧ twA names = false ∧ er = 0 ∧ w'.ownsRow base 3 1 v ((List.range ps.length).filter (actB tick br Ev Lf dg ps names rd)).length (((List.range ps.length).filter (actB tick br Ev Lf dg ps names rd)).flatMap natC))
theorem MapD.get {names : List ByteArray} {ds : List DG} {i : Nat} {D : DataW Value} (h : MapD names ds i D) (hn : ∀ j, j < i → twB names j = false) (hl : names.length = ds.length) (s : ByteArray) :
  ∃ d, D.atKey (kl s) (.held (.agg (cellsDG zeroDG).toArray)) = .held (.agg (cellsDG d).toArray) ∧ ((Maps.has D (kl s) = true ∧ ∃ j, j < i ∧ names[j]? = some s ∧ ds[j]? = some d) ∨ (Maps.has D (kl s) = false ∧ s ∉ names.take i ∧ d = zeroDG)) := by
 by_cases hm : s ∈ names.take i
 ·obtain ⟨j, hj⟩ := List.getElem?_of_mem hm; rw [List.getElem?_take] at hj
  split at hj
  ·rename_i hji
   have hjl := (List.getElem?_eq_some_iff.1 hj).1; have hd : ds[j]? = some (ds[j]'(by omega)) := List.getElem?_eq_getElem (by omega); refine ⟨_, h.2.2 j s _ hji hj hd (fun k hk hki hks => ?_), .inl ⟨by rw [h.2.1]; exact memS_iff.2 hm, j, hji, hj, hd⟩⟩; have := hn k hki; unfold twB at this; rw [hks] at this; simp only at this; have h2 := memS_iff.2 (List.mem_of_getElem? (i := j) (l := names.take k) (by rw [List.getElem?_take, if_pos hk]; exact hj)); rw [this] at h2
   cases h2
  ·cases hj
 ·have hf : Maps.has D (kl s) = false := by
   rw [h.2.1]
   cases e : memS s (names.take i) with
   | true => exact absurd (memS_iff.1 e) hm
   | false => rfl
  exact ⟨zeroDG, atKey_of_not_has hf _, .inr ⟨hf, hm, rfl⟩⟩
theorem own_baseG {w : World} {b b' : Nat} {T : TypeId} {m : Nat} {v : Value} {n : Nat} {xs : List Value} (h : w.ownsRow b T m v n xs) (hb : b' ≤ b) : w.ownsRow b' T m v n xs := by
 refine ⟨h.1, ?_⟩
 rcases h.2 with h | ⟨g, cap, cur, h1, h2, h3⟩
 ·exact .inl h
 ·exact .inr ⟨g, cap, cur, h1, Nat.le_trans hb h2, h3⟩
theorem dg_one {d : DG} {l : List Int} (h : DgOk (cellsDG d) l) : ((cellsDG d).toArray.all (·.oneCell') = true) := all_oneCell_toArray fun v hv => bytes_one h v hv
theorem wpList_lookup_dg (w : World) {ops : Array Oper} {rest : List Oper} {o : Oper} {a : Act} {Q : Exit → Act → World → Prop} (hg : o.guard = none) (m x : Operand) (hop : o.op = Op.lookup 101 m x true) (b n : Nat) (D : DataW Value)
  (hm : a.eval m = .map (some b)) (hown : w.ownsMap Tryz.prog 9 holdE b n D) (s : ByteArray) (hx : a.eval x = .string s) (hs : s.size ≤ 9223372036854775807) (d : DG) (hd : D.atKey (kl s) (.held (.agg (cellsDG zeroDG).toArray)) = .held (.agg (cellsDG d).toArray)) (hb : Bool) (hh : Maps.has D (kl s) = hb)
  (hK : wpList Tryz.prog ops Q rest (a.put o.dst (.tuple #[.agg (cellsDG d).toArray, .bool hb])) w) : wpList Tryz.prog ops Q (o :: rest) a w :=
 wpList_lookup_own_ok w hg m x 101 hop 9 31 lawS Tryz.underlying101 holdE (zeroD _) (.held (.agg (cellsDG zeroDG).toArray)) [] rfl b n D hm hown _ _ hx (kl_key hs) (fun v ps hv => by
  rw [hd] at hv; rw [holdE_inv hv, hh]
  exact hK)
set_option maxRecDepth 100000 in
set_option maxHeartbeats 8000000 in
theorem pactive_n (Al : Option Addr) (kl_ cl : Nat) (tick : Int) (T : Option Addr) (kt ct : Nat) (S : Option Addr) (ks cs : Nat) (Ab : Option Addr) (kb cb : Nat) (ps : List PC) (names : List ByteArray) (ds : List DG) (br : List Int) (Lf : Nat → List Nat × List Nat) (Ev : Nat → Int) (dg rd : Nat → List Int) (w : World)
  (hp : RowS cellsP w Al kl_ ps) (ht : RowS strC w T kt names) (hs : RowS cellsDG w S ks ds) (hbr : RowS intC w Ab kb br) (hkl : kl_ ≤ 1048576) (hN : Hid (∀ s ∈ names, s.size ≤ 9223372036854775807))
  (HE : Hid (EscOk w ps Lf)) (HV : Hid (∀ (n : Nat) p, ps[n]? = some p → PVal p (Lf n).1 (Lf n).2 (Ev n))) (HD : Hid (∀ (n : Nat) p, ps[n]? = some p → DgOk (pdg p) (dg n))) (HR : Hid (∀ (j : Nat) d, ds[j]? = some d → DgOk (cellsDG d) (rd j))) :
  Calls Tryz.prog 31 #[.slice Al kl_ cl, .int .i64 tick, .slice T kt ct, .slice S ks cs, .slice Ab kb cb] w fun e w' => ∃ (v : Value) (er : Int), e = .returned (.tuple #[v, .int .i64 er]) ∧ Hid (AcP w' w.heap.size kt ks tick br Ev Lf dg ps names rd v er) ∧ Below w.heap.size w w' := by
 by_cases hks : kt = ks
 ·subst hks; have hkt := ht.2.1; have hkt2 := ht.2.2; have hds := hs.2.1; have HLL : Hid (names.length = ds.length ∧ kt = names.length ∧ kl_ = ps.length) := ⟨by omega, hkt, hp.2.1⟩; clear hkt hds; have hmm := @run_makeMap Tryz.prog; have hown0 := World.ownsMap_made w Tryz.prog 9 holdE; have hb0 := bA w (.map #[] 0); obtain ⟨i0, hi0, hz0, hz1, hz2⟩ := info_parts info_int
  go_enter Tryz.func31, Tryz.ntmps31
  go_wp2_with fail
  go_loopg [32] kt (fun m x wr => ∃ (i : Nat) (D : DataW Value), x = .int .i64 i ∧ i + m = kt ∧ wr.ownsMap Tryz.prog 9 holdE w.heap.size i D ∧ Hid (MapD names ds i D) ∧ Hid (∀ j, j < i → twB names j = false) ∧ w.heap.size < wr.heap.size ∧ Below w.heap.size w wr)
  case atStart => exact ⟨0, _, rfl, by omega, hown0, MapD.nil, fun j h => absurd h (Nat.not_lt_zero _), by simp, hb0⟩
  case round =>
   obtain ⟨G, hG⟩ : ∃ G, G = gk := ⟨gk, rfl⟩; subst hG; obtain ⟨i, D, rfl, him, hown, HM, HT, hlt, hbe⟩ := hrel; clear hmm hown0 hb0; by_cases hi : i < kt
   ·have t1 : decide ((i : Int) < (kt : Int)) = true := by simp; omega
    have li : (i : Int) < (kt : Int) := by omega
    obtain ⟨b, off, s, rfl, hc, HS⟩ := (ht.below hbe).str hi; have hil : i < ds.length := by have := HLL.out; omega
    obtain ⟨di, HDI⟩ : ∃ d, Hid (ds[i] = d ∧ ds[i]? = some d) := ⟨_, rfl, List.getElem?_eq_getElem hil⟩; have hsz := hN.out s (List.mem_of_getElem? HS.out); obtain ⟨dx, hdx, hcase⟩ := HM.out.get HT.out HLL.out.1 s; obtain ⟨hb, hhb⟩ : ∃ hb, hb = Maps.has D (kl s) := ⟨_, rfl⟩; have HHB := Lib.hid hhb
    have HOX : Hid ((cellsDG dx).toArray.all (·.oneCell') = true) := by
     rcases hcase with ⟨_, j, _, _, h3⟩ | ⟨_, _, h3⟩
     ·exact dg_one (HR.out j _ h3)
     ·rw [h3]; exact dg_one zeroDG_ok
    have HCA := Lib.hid hcase; have HDX := Lib.hid hdx; clear hcase hhb hdx
    go_upto_region 8 with (first | (at_lookup; go_must (refine wpList_lookup_dg _ rfl _ _ rfl w.heap.size i D rfl hown s rfl hsz dx HDX.out hb HHB.out.symm ?_; simp only [Act.put, sA, sB, sC])) | (refine wpList_store_mid rfl 31 (.tmp 15) (.tmp 41) rfl wr.heap.size 0 (cellsDG dx).toArray rfl rfl (there_new _ _ _ 16 (by simp)) infoDGs HOX.out ?_; rw [setCells_new]; rotate_left; rfl))
    refine wp_name ?_; intro v8 HV8; have hbv : Below wr.heap.size wr v8 := by rw [HV8.out]; exact bA _ _
    have hown8 : v8.ownsMap Tryz.prog 9 holdE w.heap.size i D := by rw [HV8.out]; exact hown.alloc _
    have hbe8 := Below.tr hbe hbv; have hlt8 : w.heap.size < v8.heap.size := Nat.lt_of_lt_of_le hlt hbv.size; clear HV8 hown hc HDX; generalize wr.heap.size = g15 at hlt hbv
    cases hb
    ·have HT2 : Hid (∀ j, j < i + 1 → twB names j = false) := fun j hj => by
      rcases Nat.lt_or_ge j i with h | h
      ·exact HT.out j h
      ·obtain rfl : j = i := by omega
       unfold twB; rw [HS.out]
       show memS s _ = false
       rw [← HM.out.2.1, ← HHB.out]
     obtain ⟨b2, off2, rfl, HC2⟩ := (hs.below hbe8).at_ cellsDG_len (by omega) hi hil; rw [HDI.out.1] at HC2; have HM2 := Lib.hid (HM.out.next HS.out HDI.out.2); clear HCA HOX HHB HM HT
     go_upto_region 11 with (first | (refine wpList_load_mid rfl 31 (.tmp 48) rfl b2 (off2 + i * 16) rfl (cellsDG di) _ (fun j v h => HC2.out j v h) Tryz.underlying31 rfl infoDG ?_; simp only [Act.put, sA, sB, sC]) | (at_mapUpdate; go_must (refine wpList_mapUpdate_own _ rfl _ _ _ 101 rfl 9 31 lawS Tryz.underlying101 holdE w.heap.size i D rfl hown8 (by unfold maxLen; omega) _ _ _ rfl rfl (kl_key hsz) _ [] rfl ?_; intro v11 hown11 hg11)))
     have hbe11 : Below w.heap.size w v11 := hbe8.grown hg11 hbe8.size (fun j hj => by cases hj; exact Nat.le_refl _); have hlt11 : w.heap.size < v11.heap.size := Nat.lt_of_lt_of_le hlt8 hg11.size; clear hg11 hown8 HC2; go_wp2_with fail
     go_roundg (G - 1)
     case measure => omega
     case rel => exact ⟨i + 1, _, by go_num, by omega, hown11, HM2, HT2, hlt11, hbe11⟩
    ·have HTW : Hid (twA names = true) := by
      show _ = _
      unfold twA; rw [List.any_eq_true]; refine ⟨i, List.mem_range.2 (by have := HLL.out; omega), ?_⟩; unfold twB; rw [HS.out]
      show memS s _ = true
      rw [← HM.out.2.1, ← HHB.out]
     clear HCA HOX HHB HM HT; go_wp2_with fail
     go_ret2
     exact ⟨_, 7, rfl, .inr (.inl ⟨rfl, HTW.out, rfl, rfl⟩), hbe8⟩
   ·have t1 : decide ((i : Int) < (kt : Int)) = false := by simp; omega
    have li : ¬ ((i : Int) < (kt : Int)) := by omega
    have hik : i = kt := by omega
    have HTF : Hid (twA names = false) := by
     show _ = _
     unfold twA; rw [List.any_eq_false]; intro j hj; rw [HT.out j (by have := List.mem_range.1 hj; have := HLL.out; omega)]; simp
    obtain ⟨x1, hx1⟩ : ∃ x, x = wr := ⟨_, rfl⟩; subst hx1; go_wp2_with fail
    go_loopg [17, 53] kl_ (fun m x y wr => ∃ q : Nat, y = .int .i64 q ∧ q + m = kl_ ∧ wr.ownsRow x1.heap.size 3 1 x ((List.range q).filter (actB tick br Ev Lf dg ps names rd)).length (((List.range q).filter (actB tick br Ev Lf dg ps names rd)).flatMap natC) ∧ wr.ownsMap Tryz.prog 9 holdE w.heap.size i D ∧ Below x1.heap.size x1 wr)
    case atStart => exact ⟨0, rfl, by omega, World.ownsRow_nil _ _ _ _, hown, Below.refl _ _⟩
    case round =>
     obtain ⟨G2, hG2⟩ : ∃ G, G = gk := ⟨gk, rfl⟩; subst hG2; obtain ⟨i2, rfl, him2, hrow, hmap, hbe2⟩ := hrel; have hbw := Below.tr hbe hbe2; obtain ⟨Ax, cx, rfl⟩ := own_shp hrow; by_cases hi2 : i2 < kl_
     ·have t2 : decide ((i2 : Int) < (kl_ : Int)) = true := by simp; omega
      have li2 : (i2 : Int) < (kl_ : Int) := by omega
      have hil : i2 < ps.length := by have := HLL.out; omega
      obtain ⟨p, HP⟩ : ∃ p, Hid (ps[i2] = p ∧ ps[i2]? = some p) := ⟨_, rfl, List.getElem?_eq_getElem hil⟩; obtain ⟨b, off, rfl, HC⟩ := (hp.below hbw).at_ cellsP_len (by omega) hi2 hil; rw [HP.out.1] at HC; have HEi := Lib.hid (HE.out i2 p HP.out.2); have hdpi := HD.out i2 p HP.out.2; have HONP := Lib.hid (pp_one hdpi HEi.out.1); have hsz := HEi.out.2.1; obtain ⟨dx, hdx, hcase⟩ := HM.out.get HT.out HLL.out.1 p.test; obtain ⟨hb, hhb⟩ : ∃ hb, hb = Maps.has D (kl p.test) := ⟨_, rfl⟩; have HHB := Lib.hid hhb
      obtain ⟨dm, HDM⟩ : ∃ dm, Hid (DgOk (cellsDG dx) dm ∧ (hb = true → ∃ j, idxN names p.test = some j ∧ rd j = dm) ∧ (hb = false → idxN names p.test = none)) := by
       rcases hcase with ⟨h1, j, h2, h3, h4⟩ | ⟨h1, h2, h3⟩
       ·refine ⟨rd j, HR.out j _ h4, fun _ => ?_, fun h => by rw [hhb, h1] at h; cases h⟩; obtain ⟨j', e1, e2⟩ := idx_some (List.mem_of_getElem? h3); refine ⟨j', e1, ?_⟩
        have : j' = j := by
         rcases Nat.lt_trichotomy j' j with h | h | h
         ·exact (tw_apart HTF.out e2 h3 h).elim
         ·exact h
         ·exact (tw_apart HTF.out h3 e2 h).elim
        rw [this]
       ·refine ⟨_, by rw [h3]; exact zeroDG_ok, fun h => (by rw [hhb, h1] at h; cases h), fun _ => idx_none ?_⟩
        rwa [List.take_of_length_le (by have := HLL.out; omega)] at h2
      have HOX := Lib.hid (dg_one HDM.out.1); have HDX := Lib.hid hdx; clear hcase hhb hdx
      go_upto_region 16 with (first | (refine wpList_load_mid rfl 33 (.tmp 56) rfl b (off + i2 * 24) rfl (cellsP p) _ (fun j v h => HC.out j v h) Tryz.underlying33 rfl infoP ?_; simp only [Act.put, sA, sB, sC]) | (refine wpList_store_mid rfl 33 (.tmp 19) (.tmp 57) rfl wr.heap.size 0 (cellsP p).toArray rfl rfl (there_new _ _ _ 24 (by simp)) infoPs HONP.out ?_; rw [setCells_new]; rotate_left; rfl))
      refine wp_name ?_; intro v16 HV16; have hbv : Below wr.heap.size wr v16 := by rw [HV16.out]; exact bA _ _
      have B19 : Blk v16 wr.heap.size 33 (cellsP p).toArray := by rw [HV16.out]; exact Blk.new _ _ _
      have hmap16 : v16.ownsMap Tryz.prog 9 holdE w.heap.size i D := by rw [HV16.out]; exact hmap.alloc _
      have hrow16 := own_below hrow hbv; have hbe16 := Below.tr hbe2 hbv; have q1 := B19.cell 1; simp only [cellsP, List.getElem?_toArray, List.getElem?_cons_zero, List.getElem?_cons_succ] at q1; generalize wr.heap.size = g19 at B19 q1; clear HV16 hbv hmap hrow HC HONP hbw hbe2 B19
      go_upto_region 17 with (first | (at_lookup; go_must (refine wpList_lookup_dg _ rfl _ _ rfl w.heap.size i D rfl hmap16 p.test rfl hsz dx HDX.out hb HHB.out.symm ?_; simp only [Act.put, sA, sB, sC])) | (refine wpList_store_mid rfl 31 (.tmp 20) (.tmp 63) rfl v16.heap.size 0 (cellsDG dx).toArray rfl rfl (there_new _ _ _ 16 (by simp)) infoDGs HOX.out ?_; rw [setCells_new]; rotate_left; rfl))
      refine wp_name ?_; intro v17 HV17; have hbv : Below v16.heap.size v16 v17 := by rw [HV17.out]; exact bA _ _
      have B20 : Blk v17 v16.heap.size 31 (cellsDG dx).toArray := by rw [HV17.out]; exact Blk.new _ _ _
      have hmap17 : v17.ownsMap Tryz.prog 9 holdE w.heap.size i D := by rw [HV17.out]; exact hmap16.alloc _
      have hrow17 := own_below hrow16 hbv; have hbe17 := Below.tr hbe16 hbv; have hbw17 := Below.tr hbe hbe17; generalize v16.heap.size = g20 at B20; clear HV17 hbv hmap16 hrow16 hbe16 q1 HOX HDX
      go_wp2_with (first | (refine wpList_load_mid rfl 31 (.tmp 20) rfl g20 0 rfl (cellsDG dx) _ (blk_range B20) Tryz.underlying31 rfl infoDG ?_; simp only [Act.put, sA, sB, sC]))
      refine (state_n (some ⟨b, off, none⟩) kl_ cl (i2 : Int) (mmOf tick dx Ab kb cb) ps Lf Ev dg dm br _ (hp.below hbw17) (HE.out.below hbw17) HV HD HDM.out.1 (hbr.below hbw17)).mono ?_; rintro e w18 ⟨s, er, rfl, HS, hb18⟩; have hmap18 := hmap17.kept (row := none) (only_below hb18 none) (by simp); have hrow18 := own_below hrow17 hb18; have hbe18 := Below.tr hbe17 hb18
      have HF : Hid ((Ev i2 ≠ 0 ∧ er ≠ 0) ∨ (Ev i2 = 0 ∧ er = 0 ∧ s = stF tick dm br Ev Lf dg ps i2)) := by
       rcases HS.out with ⟨h, _⟩ | ⟨n, h1, h2, h3⟩
       ·exfalso; rcases h with h | h <;> omega
       ·obtain rfl : i2 = n := by omega
        rcases h3 with ⟨h4, h5, h6⟩ | ⟨h4, h5, h6⟩
        ·exact .inl ⟨h4, by rw [h6]; exact h4⟩
        ·exact .inr ⟨h4, h5, h6⟩
      have HSK0 : actB tick br Ev Lf dg ps names rd i2 = false → Hid (w18.ownsRow x1.heap.size 3 1 (.slice Ax ((List.range i2).filter (actB tick br Ev Lf dg ps names rd)).length cx) ((List.range (i2 + 1)).filter (actB tick br Ev Lf dg ps names rd)).length (((List.range (i2 + 1)).filter (actB tick br Ev Lf dg ps names rd)).flatMap natC)) := fun h => by
       show World.ownsRow _ _ _ _ _ _ _
       rw [List.range_succ, List.filter_append, List.filter_cons_of_neg (by rw [h]; simp), List.filter_nil, List.append_nil]; exact hrow18
      have HSKH := Lib.hid HSK0; clear HSK0 HS B20 hmap17 hrow17 hbe17 hb18 hbw17
      cases hb
      ·have HSK := HSKH.out (by unfold actB; rw [HP.out.2]; simp only; rw [HDM.out.2.2 rfl]); clear HF; go_wp2_with fail
       go_roundg (G2 - 1)
       case measure => omega
       case rel => exact ⟨i2 + 1, by go_num, by omega, HSK.out, hmap18, hbe18⟩
      ·obtain ⟨j, HJ⟩ : ∃ j, Hid (idxN names p.test = some j ∧ rd j = dm) := HDM.out.2.1 rfl; by_cases hev : Ev i2 = 0
       ·have HE0 : Hid (er = 0 ∧ s = stF tick dm br Ev Lf dg ps i2) := by
         rcases HF.out with h | h
         ·exact absurd hev h.1
         ·exact h.2
        obtain rfl : er = 0 := HE0.out.1; have HEV := Lib.hid hev; clear hev HF; by_cases hs0 : s = 0
        ·have hs1 : (s == 0) = true := by simpa using hs0
         have HYES : Hid (((List.range (i2 + 1)).filter (actB tick br Ev Lf dg ps names rd)) = ((List.range i2).filter (actB tick br Ev Lf dg ps names rd)) ++ [i2]) := by
          show _ = _
          rw [List.range_succ, List.filter_append, List.filter_cons_of_pos, List.filter_nil]; unfold actB; rw [HP.out.2]; simp only; rw [HJ.out.1]; simp only; rw [HEV.out, HJ.out.2, ← HE0.out.2, hs0]; rfl
         obtain ⟨X, HX⟩ : ∃ X, Hid (X = ((List.range i2).filter (actB tick br Ev Lf dg ps names rd))) := ⟨_, rfl⟩; rw [← HX.out] at hrow18 HYES
         have hXl : X.length ≤ 1048576 := by
          rw [HX.out]; refine Nat.le_trans (List.length_filter_le _ _) ?_; rw [List.length_range]; omega
         have hax := bA w18 (.cells #[.int .i64 (i2 : Int)] 3); have hrow19 := own_below hrow18 hax; have hrd : Rd (w18.alloc (.cells #[.int .i64 (i2 : Int)] 3)) (some ⟨w18.heap.size, 0, none⟩) (natC i2) := Rd.fresh w18 3 (natC i2); have hbe19 := Below.tr hbe18 hax; have hmap19 := hmap18.alloc (.cells #[.int .i64 (i2 : Int)] 3); have hsz19 := hbe19.size; simp only [← HX.out]; clear hs0 HSKH hrow18 hmap18 hbe18 hax HE0 HEV HJ HX
         go_wp2_with (at_builtin; go_loud (refine wpList_append_any _ rfl (.tmp 83) (.tmp 85) _ rfl x1.heap.size 3 i0 _ 1 8 Tryz.underlying22 hi0 hz0 hz1 hz2 rfl (by omega) _ X.length _ rfl hrow19 _ 1 1 (natC i2) rfl rfl hrd (by simp [natC, Value.oneCell']) (by simp only [maxLen]; omega) (by omega) hsz19 ?_); intro v4 w4 hown4 hg4 hat4)
         have hbe20 : Below x1.heap.size x1 w4 := hbe19.grown hg4 hsz19 (own_block_ge hrow19); have hmap20 := hmap19.kept hg4 (fun e => by have := own_block_ge hrow19 _ e.symm; omega)
         have HROW : Hid (w4.ownsRow x1.heap.size 3 1 v4 ((List.range (i2 + 1)).filter (actB tick br Ev Lf dg ps names rd)).length (((List.range (i2 + 1)).filter (actB tick br Ev Lf dg ps names rd)).flatMap natC)) := by
          show World.ownsRow _ _ _ _ _ _ _
          rw [HYES.out, List.flatMap_append, List.length_append]
          simpa using hown4
         clear hown4 hg4 hat4 hrow19 hmap19 hbe19 hrd; go_wp2_with fail
         go_roundg (G2 - 1)
         case measure => omega
         case rel => exact ⟨i2 + 1, by go_num, by omega, HROW.out, hmap20, hbe20⟩
        ·have hs1 : (s == 0) = false := by simpa using hs0
         have HSK := HSKH.out (by unfold actB; rw [HP.out.2]; simp only; rw [HJ.out.1]; simp only; rw [HJ.out.2, ← HE0.out.2, hs1]; simp); clear hs0; go_wp2_with fail
         go_roundg (G2 - 1)
         case measure => omega
         case rel => exact ⟨i2 + 1, by go_num, by omega, HSK.out, hmap18, hbe18⟩
       ·have her : (er == 0) = false := by
         rcases HF.out with h | h
         ·simpa using h.2
         ·exact absurd h.1 hev
        have HSK := HSKH.out (by unfold actB; rw [HP.out.2]; simp only; rw [HJ.out.1]; simp [hev]); clear hev HF; go_wp2_with fail
        go_roundg (G2 - 1)
        case measure => omega
        case rel => exact ⟨i2 + 1, by go_num, by omega, HSK.out, hmap18, hbe18⟩
     ·have t2 : decide ((i2 : Int) < (kl_ : Int)) = false := by simp; omega
      have li2 : ¬ ((i2 : Int) < (kl_ : Int)) := by omega
      obtain rfl : i2 = kl_ := by omega
      have HROW : Hid (wr.ownsRow w.heap.size 3 1 (.slice Ax ((List.range i2).filter (actB tick br Ev Lf dg ps names rd)).length cx) ((List.range ps.length).filter (actB tick br Ev Lf dg ps names rd)).length (((List.range ps.length).filter (actB tick br Ev Lf dg ps names rd)).flatMap natC)) := by
       show World.ownsRow _ _ _ _ _ _ _
       rw [← HLL.out.2.2]; exact own_baseG hrow hbe.size
      clear hrow; go_wp2_with fail
      go_ret2
      exact ⟨_, 0, rfl, .inr (.inr ⟨rfl, HTF.out, rfl, HROW.out⟩), hbw⟩
 ·have hne : ((kt : Int) != (ks : Int)) = true := by simp; omega
  go_enter Tryz.func31, Tryz.ntmps31
  go_wp2_with fail
  go_ret2
  exact ⟨_, 1, rfl, .inl ⟨hks, rfl, rfl⟩, Below.refl _ _⟩
end Go.Proofs.YtijkfagkbfbpmaaGreatDoor
namespace Go.Proofs.YtijkfagkbfbpmaaGreatDoor
open Go Go.RowKit Go.Maps Go.WideMaps
/-- the text stands among the first j names -/
def seenB (names : List ByteArray) (t : ByteArray) (j : Nat) : Bool := match idxN names t with
 | some k => decide (k < j)
 | none => false
theorem idx_at {names : List ByteArray} {t : ByteArray} {k : Nat} (h : idxN names t = some k) : names[k]? = some t := by
 unfold idxN at h; exact eqO_iff.1 (List.find?_some (p := fun j => eqO (names[j]?) t) h)
theorem seen_zero {names : List ByteArray} {t : ByteArray} : seenB names t 0 = false := by
 unfold seenB
 cases idxN names t <;> simp
theorem seen_other {names : List ByteArray} {t u : ByteArray} {j : Nat} (hj : names[j]? = some u) (hu : u ≠ t) : seenB names t (j + 1) = seenB names t j := by
 unfold seenB
 cases e : idxN names t with
 | none => rfl
 | some k =>
  have h := idx_at e; have hk : k ≠ j := fun hk => by rw [hk, hj] at h; injection h with h; exact hu h
  simp only; exact decide_eq_decide.2 (by omega)
theorem idx_here {names : List ByteArray} {t : ByteArray} {j : Nat} (hT : twA names = false) (hj : names[j]? = some t) : idxN names t = some j := by
 obtain ⟨k, h1, h2⟩ := idx_some (List.mem_of_getElem? hj)
 rcases Nat.lt_trichotomy k j with h | h | h
 ·exact (tw_apart hT h2 hj h).elim
 ·rw [h1, h]
 ·exact (tw_apart hT hj h2 h).elim
/-- what the reference has gathered: X, and q too if it is active and its test was seen -/
def accL (names : List ByteArray) (X : List Nat) (act : Bool) (t : ByteArray) (q j : Nat) : List Nat := X ++ (if act && seenB names t j then [q] else [])
theorem acc_zero {names : List ByteArray} {X : List Nat} {act : Bool} {t : ByteArray} {q : Nat} : accL names X act t q 0 = X := by
 unfold accL; rw [seen_zero]; simp
theorem acc_no {names : List ByteArray} {X : List Nat} {t : ByteArray} {q j : Nat} : accL names X false t q j = X := by
 unfold accL; simp
theorem acc_other {names : List ByteArray} {X : List Nat} {act : Bool} {t u : ByteArray} {q j : Nat} (hj : names[j]? = some u) (hu : u ≠ t) : accL names X act t q (j + 1) = accL names X act t q j := by
 unfold accL; rw [seen_other hj hu]
theorem acc_before {names : List ByteArray} {X : List Nat} {act : Bool} {t : ByteArray} {q j : Nat} (hT : twA names = false) (hj : names[j]? = some t) : accL names X act t q j = X := by
 unfold accL seenB; rw [idx_here hT hj]; simp
theorem acc_here {names : List ByteArray} {X : List Nat} {t : ByteArray} {q j : Nat} (hT : twA names = false) (hj : names[j]? = some t) : accL names X true t q (j + 1) = X ++ [q] := by
 unfold accL seenB; rw [idx_here hT hj]; simp
theorem acc_end {tick : Int} {br : List Int} {Ev : Nat → Int} {Lf : Nat → List Nat × List Nat} {dg : Nat → List Int} {ps : List PC} {names : List ByteArray} {rd : Nat → List Int} {q : Nat} {p : PC} (hp : ps[q]? = some p) :
  accL names ((List.range q).filter (actB tick br Ev Lf dg ps names rd)) (actB tick br Ev Lf dg ps names rd q) p.test q names.length = (List.range (q + 1)).filter (actB tick br Ev Lf dg ps names rd) := by
 rw [List.range_succ, List.filter_append]; unfold accL; by_cases h : actB tick br Ev Lf dg ps names rd q = true
 ·have h2 : seenB names p.test names.length = true := by
   have h3 := h; unfold actB at h3; rw [hp] at h3; simp only at h3; unfold seenB
   cases e : idxN names p.test with
   | none => rw [e] at h3; cases h3
   | some k =>
    have := (List.getElem?_eq_some_iff.1 (idx_at e)).1
    simpa using this
  rw [List.filter_cons_of_pos h, h, h2]; rfl
 ·rw [List.filter_cons_of_neg h]; have h' : actB tick br Ev Lf dg ps names rd q = false := by simpa using h
  rw [h']; simp
theorem str_ne {a b : ByteArray} (h : a ≠ b) : ¬ a.toList = b.toList := fun e => h (by simpa [ByteArray.toList_eq, ByteArray.ext_iff] using e)
set_option maxRecDepth 100000 in
set_option maxHeartbeats 8000000 in
theorem ractive_n (Al : Option Addr) (kl_ cl : Nat) (tick : Int) (T : Option Addr) (kt ct : Nat) (S : Option Addr) (ks cs : Nat) (Ab : Option Addr) (kb cb : Nat) (ps : List PC) (names : List ByteArray) (ds : List DG) (br : List Int) (Lf : Nat → List Nat × List Nat) (Ev : Nat → Int) (dg rd : Nat → List Int) (w : World)
  (hp : RowS cellsP w Al kl_ ps) (ht : RowS strC w T kt names) (hs : RowS cellsDG w S ks ds) (hbr : RowS intC w Ab kb br) (hkl : kl_ ≤ 1048576) (hN : Hid (∀ s ∈ names, s.size ≤ 9223372036854775807))
  (HE : Hid (EscOk w ps Lf)) (HV : Hid (∀ (n : Nat) p, ps[n]? = some p → PVal p (Lf n).1 (Lf n).2 (Ev n))) (HD : Hid (∀ (n : Nat) p, ps[n]? = some p → DgOk (pdg p) (dg n))) (HR : Hid (∀ (j : Nat) d, ds[j]? = some d → DgOk (cellsDG d) (rd j))) :
  Calls Tryz.prog 32 #[.slice Al kl_ cl, .int .i64 tick, .slice T kt ct, .slice S ks cs, .slice Ab kb cb] w fun e w' => ∃ (v : Value) (er : Int), e = .returned (.tuple #[v, .int .i64 er]) ∧ Hid (AcP w' w.heap.size kt ks tick br Ev Lf dg ps names rd v er) ∧ Below w.heap.size w w' := by
 by_cases hks : kt = ks
 ·subst hks; have hkt := ht.2.1; have hkt2 := ht.2.2; have hds := hs.2.1; have hpl2 := hp.2.2; have HLL : Hid (names.length = ds.length ∧ kt = names.length ∧ kl_ = ps.length) := ⟨by omega, hkt, hp.2.1⟩; clear hkt hds; obtain ⟨i0, hi0, hz0, hz1, hz2⟩ := info_parts info_int
  go_enter Tryz.func32, Tryz.ntmps32
  go_wp2_with fail
  go_loopg [12] kt (fun m x wr => ∃ i : Nat, x = .int .i64 i ∧ i + m = kt ∧ Hid (∀ j, j < i → twB names j = false) ∧ Below w.heap.size w wr)
  case atStart => exact ⟨0, rfl, by omega, fun j h => absurd h (Nat.not_lt_zero _), Below.refl _ _⟩
  case round =>
   obtain ⟨G, hG⟩ : ∃ G, G = gk := ⟨gk, rfl⟩; subst hG; obtain ⟨i, rfl, him, HT, hbe⟩ := hrel; by_cases hi : i < kt
   ·have t1 : decide ((i : Int) < (kt : Int)) = true := by simp; omega
    have li : (i : Int) < (kt : Int) := by omega
    obtain ⟨b, off, s, rfl, hc, HS⟩ := (ht.below hbe).str hi; obtain ⟨x1, hx1⟩ : ∃ x, x = wr := ⟨_, rfl⟩; subst hx1; go_wp2_with fail
    go_loopg [13] i (fun m x wr => ∃ q : Nat, x = .int .i64 q ∧ q + m = i ∧ Hid (s ∉ names.take q) ∧ Below x1.heap.size x1 wr)
    case atStart => exact ⟨0, rfl, by omega, by show _ ∉ _; simp, Below.refl _ _⟩
    case round =>
     obtain ⟨G2, hG2⟩ : ∃ G, G = gk := ⟨gk, rfl⟩; subst hG2; obtain ⟨q, rfl, hqm, HQ, hbe2⟩ := hrel; have hc1 := cell_keep hbe2 hc; by_cases hq : q < i
     ·have t2 : decide ((q : Int) < (i : Int)) = true := by simp; omega
      have lq : (q : Int) < (kt : Int) := by omega
      have hqk : q < kt := by omega
      obtain ⟨b', off', u, hA', hcu, HU⟩ := (ht.below (Below.tr hbe hbe2)).str hqk; injection hA' with hA'; injection hA' with hA1 hA2; subst hA1 hA2; by_cases hus : s = u
      ·have HTW : Hid (twA names = true) := by
        show _ = _
        unfold twA; rw [List.any_eq_true]; refine ⟨i, List.mem_range.2 (List.getElem?_eq_some_iff.1 HS.out).1, ?_⟩; unfold twB; rw [HS.out]; simp only; rw [memS_iff, hus]; exact List.mem_of_getElem? (i := q) (by rw [List.getElem?_take, if_pos hq]; exact HU.out)
       clear HQ HU; subst hus; go_wp2_with fail
       go_quiet (fail)
       go_wp2_with fail
       go_ret2
       exact ⟨_, 7, rfl, .inr (.inl ⟨rfl, HTW.out, rfl, rfl⟩), Below.tr (Below.tr hbe hbe2) (below_drewN _ _)⟩
      ·have hu2 := str_ne hus; have hu3 : (s.toList == u.toList) = false := by simpa using hu2
       have HQ2 : Hid (s ∉ names.take (q + 1)) := by
        show _ ∉ _
        rw [List.take_add_one, HU.out]; simp only [Option.toList, List.mem_append, List.mem_singleton, not_or]; exact ⟨HQ.out, hus⟩
       clear HQ HU hus; go_wp2_with fail
       go_quiet (fail)
       go_wp2_with fail
       go_roundg (G2 - 1)
       case measure => omega
       case rel => exact ⟨q + 1, by go_num, by omega, HQ2, Below.tr hbe2 (below_drewN _ _)⟩
     ·have t2 : decide ((q : Int) < (i : Int)) = false := by simp; omega
      have HT2 : Hid (∀ j, j < i + 1 → twB names j = false) := fun j hj => by
       rcases Nat.lt_or_ge j i with h | h
       ·exact HT.out j h
       ·have e : q = i := by omega
        rw [show j = i by omega]; unfold twB; rw [HS.out]; simp only; have h := HQ.out; rw [e] at h
        cases em : memS s (names.take i) with
        | true => exact absurd (memS_iff.1 em) h
        | false => rfl
      go_wp2_with fail
      go_roundg (G - 1)
      case measure => omega
      case rel => exact ⟨i + 1, by go_num, by omega, HT2, Below.tr hbe hbe2⟩
   ·have t1 : decide ((i : Int) < (kt : Int)) = false := by simp; omega
    have li : ¬ ((i : Int) < (kt : Int)) := by omega
    have HTF : Hid (twA names = false) := by
     show _ = _
     unfold twA; rw [List.any_eq_false]; intro j hj; rw [HT.out j (by have := List.mem_range.1 hj; have := HLL.out; omega)]; simp
    obtain ⟨x1, hx1⟩ : ∃ x, x = wr := ⟨_, rfl⟩; subst hx1; clear HT; go_wp2_with fail
    go_loopg [14, 15] kl_ (fun m x y wr => ∃ q : Nat, y = .int .i64 q ∧ q + m = kl_ ∧ wr.ownsRow x1.heap.size 3 1 x ((List.range q).filter (actB tick br Ev Lf dg ps names rd)).length (((List.range q).filter (actB tick br Ev Lf dg ps names rd)).flatMap natC) ∧ Below x1.heap.size x1 wr)
    case atStart => exact ⟨0, rfl, by omega, World.ownsRow_nil _ _ _ _, Below.refl _ _⟩
    case round =>
     obtain ⟨G2, hG2⟩ : ∃ G, G = gk := ⟨gk, rfl⟩; subst hG2; obtain ⟨q, rfl, hqm, hrow, hbe2⟩ := hrel; obtain ⟨Ax, cx, rfl⟩ := own_shp hrow; by_cases hq : q < kl_
     ·have t2 : decide ((q : Int) < (kl_ : Int)) = true := by simp; omega
      have lq : (q : Int) < (kl_ : Int) := by omega
      have hql : q < ps.length := by have := HLL.out; omega
      obtain ⟨p, HP⟩ : ∃ p, Hid (ps[q] = p ∧ ps[q]? = some p) := ⟨_, rfl, List.getElem?_eq_getElem hql⟩; obtain ⟨X, HX⟩ : ∃ X, Hid (X = ((List.range q).filter (actB tick br Ev Lf dg ps names rd))) := ⟨_, rfl⟩; rw [← HX.out] at hrow
      have hXl : X.length ≤ 1048576 := by
       rw [HX.out]; refine Nat.le_trans (List.length_filter_le _ _) ?_; rw [List.length_range]; omega
      obtain ⟨act, HAC⟩ : ∃ act, Hid (act = actB tick br Ev Lf dg ps names rd q) := ⟨_, rfl⟩; have hrow0 : x1.heap.size ≤ x1.heap.size ∧ wr.ownsRow x1.heap.size 3 1 (.slice Ax X.length cx) (accL names X act p.test q 0).length ((accL names X act p.test q 0).flatMap natC) := ⟨Nat.le_refl _, by rw [acc_zero]; exact hrow⟩; simp only [← HX.out]; clear hrow; go_wp2_with fail
      go_loopg [14, 16] kt (fun m x y wr => ∃ j : Nat, y = .int .i64 j ∧ j + m = kt ∧ wr.ownsRow x1.heap.size 3 1 x (accL names X act p.test q j).length ((accL names X act p.test q j).flatMap natC) ∧ Below x1.heap.size x1 wr)
      case atStart => exact ⟨0, rfl, by omega, hrow0.2, hbe2⟩
      case round =>
       obtain ⟨G3, hG3⟩ : ∃ G, G = gk := ⟨gk, rfl⟩; subst hG3; obtain ⟨j, rfl, hjm, hrow, hbe3⟩ := hrel; clear hrow0 hbe2; have hbw := Below.tr hbe hbe3; obtain ⟨Ay, cy, rfl⟩ := own_shp hrow; by_cases hj : j < kt
       ·have t3 : decide ((j : Int) < (kt : Int)) = true := by simp; omega
        have lj : (j : Int) < (kt : Int) := by omega
        obtain ⟨bt, offt, u, rfl, hcu, HU⟩ := (ht.below hbw).str hj; obtain ⟨b, off, rfl, HC⟩ := (hp.below hbw).at_ cellsP_len (by omega) hq hql; rw [HP.out.1] at HC; have c1 := HC.out 1 _ rfl; obtain ⟨Y, HY⟩ : ∃ Y, Hid (Y = accL names X act p.test q j) := ⟨_, rfl⟩; rw [← HY.out] at hrow; simp only [← HY.out]; by_cases hut : u = p.test
        ·have HUT : Hid (names[j]? = some p.test) := by show _ = _; rw [HU.out, hut]
         clear HU; subst hut; have hYX : Hid (Y = X) := HY.out.trans (acc_before HTF.out HUT.out); have hjd : j < ds.length := by have := HLL.out; omega
         obtain ⟨d, HDJ⟩ : ∃ d, Hid (ds[j] = d ∧ ds[j]? = some d) := ⟨_, rfl, List.getElem?_eq_getElem hjd⟩; have hdj := HR.out j d HDJ.out.2; obtain ⟨bs, offs, rfl, HCS⟩ := (hs.below hbw).at_ cellsDG_len (by omega) hj hjd; rw [HDJ.out.1] at HCS; go_wp2_with fail
         go_quiet (fail)
         go_wp2_with (first | (refine wpList_load_mid rfl 31 (.tmp 72) rfl bs (offs + j * 16) rfl (cellsDG d) _ (fun j v h => HCS.out j v h) Tryz.underlying31 rfl infoDG ?_; simp only [Act.put, sA, sB, sC]))
         refine (rstate_n (some ⟨b, off, none⟩) kl_ cl (q : Int) (mmOf tick d Ab kb cb) ps Lf Ev dg (rd j) br _ (hp.below (Below.tr hbw (below_drewN _ _))) (HE.out.below (Below.tr hbw (below_drewN _ _))) HV HD hdj (hbr.below (Below.tr hbw (below_drewN _ _)))).mono ?_; rintro e w18 ⟨s, er, rfl, HS, hb18⟩; have hrow18 := own_below hrow (Below.tr (below_drewN _ _) hb18); have hbe18 := Below.tr hbe3 (Below.tr (below_drewN _ _) hb18)
         have HF : Hid ((Ev q ≠ 0 ∧ s = 0 ∧ er ≠ 0) ∨ (Ev q = 0 ∧ er = 0 ∧ s = stF tick (rd j) br Ev Lf dg ps q)) := by
          rcases HS.out with ⟨h, _⟩ | ⟨n, h1, h2, h3⟩
          ·exfalso; rcases h with h | h <;> omega
          ·obtain rfl : q = n := by omega
           rcases h3 with ⟨h4, h5, h6⟩ | ⟨h4, h5, h6⟩
           ·exact .inl ⟨h4, h5, by rw [h6]; exact h4⟩
           ·exact .inr ⟨h4, h5, h6⟩
         have HACT : Hid (act = (decide (Ev q = 0) && (stF tick (rd j) br Ev Lf dg ps q == 0))) := by
          show _ = _
          rw [HAC.out]; unfold actB; rw [HP.out.2]; simp only; rw [idx_here HTF.out HUT.out]
         clear hrow HS hb18 HCS HC c1 hcu; by_cases hev : Ev q = 0
         ·have HE0 : Hid (er = 0 ∧ s = stF tick (rd j) br Ev Lf dg ps q) := by
           rcases HF.out with h | h
           ·exact absurd hev h.1
           ·exact h.2
          obtain rfl : er = 0 := HE0.out.1; by_cases hs0 : s = 0
          ·have hs1 : (s == 0) = true := by simpa using hs0
           have HA1 : Hid (act = true) := by
            show _ = _
            rw [HACT.out, ← HE0.out.2, hs0, hev]; rfl
           have HYES : Hid (accL names X act p.test q (j + 1) = Y ++ [q]) := by
            show _ = _
            rw [HA1.out, acc_here HTF.out HUT.out, hYX.out]
           have hYl : Y.length ≤ 1048576 := by rw [hYX.out]; exact hXl
           have hax := bA w18 (.cells #[.int .i64 (q : Int)] 3); have hrow19 := own_below hrow18 hax; have hrd : Rd (w18.alloc (.cells #[.int .i64 (q : Int)] 3)) (some ⟨w18.heap.size, 0, none⟩) (natC q) := Rd.fresh w18 3 (natC q); have hbe19 := Below.tr hbe18 hax; have hsz19 := hbe19.size; clear hs0 hrow18 hbe18 hax HE0 hev HF HACT HA1 hYX HY
           go_wp2_with (at_builtin; go_loud (refine wpList_append_any _ rfl (.tmp 84) (.tmp 86) _ rfl x1.heap.size 3 i0 _ 1 8 Tryz.underlying22 hi0 hz0 hz1 hz2 rfl (by omega) _ Y.length _ rfl hrow19 _ 1 1 (natC q) rfl rfl hrd (by simp [natC, Value.oneCell']) (by simp only [maxLen]; omega) (by omega) hsz19 ?_); intro v4 w4 hown4 hg4 hat4)
           have hbe20 : Below x1.heap.size x1 w4 := hbe19.grown hg4 hsz19 (own_block_ge hrow19)
           have HROW : Hid (w4.ownsRow x1.heap.size 3 1 v4 (accL names X act p.test q (j + 1)).length ((accL names X act p.test q (j + 1)).flatMap natC)) := by
            show World.ownsRow _ _ _ _ _ _ _
            rw [HYES.out, List.flatMap_append, List.length_append]
            simpa using hown4
           clear hown4 hg4 hat4 hrow19 hbe19 hrd; go_wp2_with fail
           go_roundg (G3 - 1)
           case measure => omega
           case rel => exact ⟨j + 1, by go_num, by omega, HROW.out, hbe20⟩
          ·have hs1 : (s == 0) = false := by simpa using hs0
           have HA1 : Hid (act = false) := by
            show _ = _
            rw [HACT.out, ← HE0.out.2, hs1]; simp
           have HROW : Hid (w18.ownsRow x1.heap.size 3 1 (.slice Ay Y.length cy) (accL names X act p.test q (j + 1)).length ((accL names X act p.test q (j + 1)).flatMap natC)) := by
            show World.ownsRow _ _ _ _ _ _ _
            rw [HA1.out, acc_no, ← hYX.out]; exact hrow18
           clear hs0 hrow18 HE0 hev HF HACT HA1 hYX HY; go_wp2_with fail
           go_roundg (G3 - 1)
           case measure => omega
           case rel => exact ⟨j + 1, by go_num, by omega, HROW.out, hbe18⟩
         ·have HEN : Hid (s = 0 ∧ er ≠ 0) := by
           rcases HF.out with h | h
           ·exact h.2
           ·exact absurd h.1 hev
          obtain rfl : s = 0 := HEN.out.1; have her : (er == 0) = false := by simpa using HEN.out.2
          have HA1 : Hid (act = false) := by
           show _ = _
           rw [HACT.out]; simp [hev]
          have HROW : Hid (w18.ownsRow x1.heap.size 3 1 (.slice Ay Y.length cy) (accL names X act p.test q (j + 1)).length ((accL names X act p.test q (j + 1)).flatMap natC)) := by
           show World.ownsRow _ _ _ _ _ _ _
           rw [HA1.out, acc_no, ← hYX.out]; exact hrow18
          clear hrow18 hev HF HACT HA1 hYX HY HEN; go_wp2_with fail
          go_roundg (G3 - 1)
          case measure => omega
          case rel => exact ⟨j + 1, by go_num, by omega, HROW.out, hbe18⟩
        ·have hu2 := str_ne hut; have hu3 : (u.toList == p.test.toList) = false := by simpa using hu2
         have hu4 : (u.toList != p.test.toList) = true := by simpa using hu2
         have HROW : Hid (wr.ownsRow x1.heap.size 3 1 (.slice Ay Y.length cy) (accL names X act p.test q (j + 1)).length ((accL names X act p.test q (j + 1)).flatMap natC)) := by
          show World.ownsRow _ _ _ _ _ _ _
          rw [acc_other HU.out hut, ← HY.out]; exact hrow
         clear hrow HU hut HC HY; go_wp2_with fail
         go_quiet (fail)
         go_wp2_with fail
         go_roundg (G3 - 1)
         case measure => omega
         case rel => exact ⟨j + 1, by go_num, by omega, own_below HROW.out (below_drewN _ _), Below.tr hbe3 (below_drewN _ _)⟩
       ·have t3 : decide ((j : Int) < (kt : Int)) = false := by simp; omega
        have lj : ¬ ((j : Int) < (kt : Int)) := by omega
        have HEND : Hid (accL names X act p.test q j = (List.range (q + 1)).filter (actB tick br Ev Lf dg ps names rd)) := by
         show _ = _
         rw [HX.out, HAC.out, show j = names.length by have := HLL.out; omega]; exact acc_end HP.out.2
        obtain ⟨Y, HY⟩ : ∃ Y, Hid (Y = accL names X act p.test q j) := ⟨_, rfl⟩; rw [← HY.out] at hrow HEND; simp only [← HY.out]
        have HROW : Hid (wr.ownsRow x1.heap.size 3 1 (.slice Ay Y.length cy) ((List.range (q + 1)).filter (actB tick br Ev Lf dg ps names rd)).length (((List.range (q + 1)).filter (actB tick br Ev Lf dg ps names rd)).flatMap natC)) := by
         show World.ownsRow _ _ _ _ _ _ _
         rw [← HEND.out]; exact hrow
        clear hrow HEND HY HX HAC; go_wp2_with fail
        go_roundg (G2 - 1)
        case measure => omega
        case rel => exact ⟨q + 1, by go_num, by omega, HROW.out, hbe3⟩
     ·have t2 : decide ((q : Int) < (kl_ : Int)) = false := by simp; omega
      have lq : ¬ ((q : Int) < (kl_ : Int)) := by omega
      obtain rfl : q = kl_ := by omega
      have HROW : Hid (wr.ownsRow w.heap.size 3 1 (.slice Ax ((List.range q).filter (actB tick br Ev Lf dg ps names rd)).length cx) ((List.range ps.length).filter (actB tick br Ev Lf dg ps names rd)).length (((List.range ps.length).filter (actB tick br Ev Lf dg ps names rd)).flatMap natC)) := by
       show World.ownsRow _ _ _ _ _ _ _
       rw [← HLL.out.2.2]; exact own_baseG hrow hbe.size
      clear hrow; go_wp2_with fail
      go_ret2
      exact ⟨_, 0, rfl, .inr (.inr ⟨rfl, HTF.out, rfl, HROW.out⟩), Below.tr hbe hbe2⟩
 ·have hne : ((kt : Int) != (ks : Int)) = true := by simp; omega
  go_enter Tryz.func32, Tryz.ntmps32
  go_wp2_with fail
  go_ret2
  exact ⟨_, 1, rfl, .inl ⟨hks, rfl, rfl⟩, Below.refl _ _⟩
end Go.Proofs.YtijkfagkbfbpmaaGreatDoor
namespace Go.Proofs.YtijkfagkbfbpmaaGreatDoor
open Go Go.RowKit
theorem prom_goodM {p : PC} (h : PromOk p) {a b : Nat} (hab : a ≤ b) : ¬ pBad a b p := by
 obtain ⟨team, t, h, site, fr, un, d, A1, k1, c1, A2, k2, c2, rfl, h1, ht, hh, h4, h5, h6, h7, h8, _⟩ := h; have w1 : wordB t = true := by rcases ht with rfl | rfl | rfl <;> decide
 have w2 : h.toList.isEmpty = false → wordB h = true := by
  rw [ByteArray.toList_eq]
  rcases hh with rfl | rfl | rfl <;> intro e <;> first | decide | (exact absurd e (by decide))
 have w3 : h.toList.isEmpty = true → site = 0 := by
  rw [ByteArray.toList_eq]; intro e
  rcases hh with rfl | rfl | rfl
  ·exact absurd e (by decide)
  ·exact absurd e (by decide)
  ·exact h5 rfl
 unfold pBad; simp only [promV]; rintro (e | e | e | e | ⟨e1, e2⟩ | e | e | ⟨e1, e2⟩ | e | e | e)
 ·omega
 ·omega
 ·omega
 ·rw [w1] at e; cases e
 ·rw [w2 e1] at e2; cases e2
 ·omega
 ·omega
 ·exact e2 (by rw [w3 e1]; rfl)
 ·omega
 ·omega
 ·omega
def LfM (bd : Nat → Nat × Nat) (i : Nat) : List Nat × List Nat := (Nm.lb (bd i).1, Nm.lb (Nm.dn (bd i).2))
theorem psok_ls {w : World} {ps : List PC} {bd : Nat → Nat × Nat} (h : PsOk w ps bd) : LsW w ps (LfM bd) := by
 intro n p hp; obtain ⟨k1, k2, k3, k4, k5⟩ := h n p hp; exact ⟨k1.pd k2 k3, by have := k3.fits.1; unfold LfM; simp only; omega, by have := k3.fits.2; unfold LfM; simp only; omega⟩
theorem psok_pv {w : World} {ps : List PC} {bd : Nat → Nat × Nat} (h : PsOk w ps bd) : ∀ (n : Nat) p, ps[n]? = some p → PVal p (LfM bd n).1 (LfM bd n).2 0 := by
 intro n p hp; obtain ⟨k1, k2, k3, k4, k5⟩ := h n p hp; exact .inr ⟨_, _, rfl, rfl, k3, pE_ok (prom_goodM k1 k4)⟩
end Go.Proofs.YtijkfagkbfbpmaaGreatDoor
namespace Go.Proofs.YtijkfagkbfbpmaaGreatDoor
open Go Go.RowKit
/-- what State says, as a value -/
def stO (kl : Nat) (tick : Int) (dm br : List Int) (Ev : Nat → Int) (Lf : Nat → List Nat × List Nat) (dg : Nat → List Int) (ps : List PC) (k : Int) : Int × Int :=
 if k < 0 ∨ (kl : Int) ≤ k then (0, 5) else if Ev k.toNat ≠ 0 then (0, Ev k.toNat) else (stF tick dm br Ev Lf dg ps k.toNat, 0)
theorem StP.eqO {kl : Nat} {tick : Int} {dm br : List Int} {Ev : Nat → Int} {Lf : Nat → List Nat × List Nat} {dg : Nat → List Int} {ps : List PC} {k s er : Int} (h : StP kl tick dm br Ev Lf dg ps k s er) : s = (stO kl tick dm br Ev Lf dg ps k).1 ∧ er = (stO kl tick dm br Ev Lf dg ps k).2 := by
 unfold stO
 rcases h with ⟨h1, h2, h3⟩ | ⟨n, rfl, hn, h⟩
 ·rw [if_pos h1]; exact ⟨h2, h3⟩
 ·rw [if_neg (by omega), Int.toNat_natCast]
  rcases h with ⟨h1, h2, h3⟩ | ⟨h1, h2, h3⟩
  ·rw [if_pos h1]; exact ⟨h2, h3⟩
  ·rw [if_neg (by simpa using h1)]; exact ⟨h3, h2⟩
def acE (kt ks : Nat) (names : List ByteArray) : Int := if kt ≠ ks then 1 else if twA names = true then 7 else 0
def acI (kt ks : Nat) (tick : Int) (br : List Int) (Ev : Nat → Int) (Lf : Nat → List Nat × List Nat) (dg : Nat → List Int) (ps : List PC) (names : List ByteArray) (rd : Nat → List Int) : List Int :=
 if kt ≠ ks ∨ twA names = true then [] else ((List.range ps.length).filter (actB tick br Ev Lf dg ps names rd)).map fun (n : Nat) => (n : Int)
theorem flat_natC (X : List Nat) : X.flatMap natC = (X.map fun (n : Nat) => (n : Int)).flatMap intC := by
 induction X with
 | nil => rfl
 | cons x X ih => simp only [List.flatMap_cons, List.map_cons, ih]; rfl
theorem AcP.eqI {w' : World} {base kt ks : Nat} {tick : Int} {br : List Int} {Ev : Nat → Int} {Lf : Nat → List Nat × List Nat} {dg rd : Nat → List Int} {ps : List PC} {names : List ByteArray} {v : Value} {er : Int} (h : AcP w' base kt ks tick br Ev Lf dg ps names rd v er) (hl : ps.length ≤ 1000) :
  er = acE kt ks names ∧ ∃ Aa ka ca, v = .slice Aa ka ca ∧ RowS intC w' Aa ka (acI kt ks tick br Ev Lf dg ps names rd) := by
 have h0 : RowS intC w' none 0 [] := own_any intC_len (by omega) (by omega) (World.ownsRow_nil w' base 3 1); unfold acE acI
 rcases h with ⟨h1, h2, h3⟩ | ⟨h1, h2, h3, h4⟩ | ⟨h1, h2, h3, h4⟩
 ·rw [if_pos h1, if_pos (.inl h1)]; exact ⟨h2, none, 0, 0, h3, h0⟩
 ·rw [if_neg (by simpa using h1), if_pos h2, if_pos (.inr h2)]; exact ⟨h3, none, 0, 0, h4, h0⟩
 ·rw [if_neg (by simpa using h1), if_neg (by rw [h2]; simp), if_neg (by rw [h2]; simpa using h1)]; obtain ⟨A, c, rfl⟩ := own_shp h4; have hle : ((List.range ps.length).filter (actB tick br Ev Lf dg ps names rd)).length ≤ ps.length := Nat.le_trans (List.length_filter_le _ _) (by rw [List.length_range]; exact Nat.le_refl _); rw [flat_natC] at h4; refine ⟨h3, A, _, c, rfl, own_any intC_len ?_ (by omega) (by simpa using h4)⟩; omega
theorem state_o (Al : Option Addr) (kl cl : Nat) (k t : Int) (d : DG) (ps : List PC) (Lf : Nat → List Nat × List Nat) (Ev : Nat → Int) (dg : Nat → List Int) (dm br : List Int) (A : Option Addr) (kb cb : Nat) (w : World) (hp : PLs w Al kl ps Lf Ev dg) (hd : DgOk (cellsDG d) dm) (hbr : RowS intC w A kb br) :
  Calls Tryz.prog 14 #[.slice Al kl cl, .int .i64 k, .int .i64 t, .agg (cellsDG d).toArray, .slice A kb cb] w fun e w' => e = .returned (.tuple #[.int .i64 (stO kl t dm br Ev Lf dg ps k).1, .int .i64 (stO kl t dm br Ev Lf dg ps k).2]) ∧ Below w.heap.size w w' := by
 refine (state_n Al kl cl k (mmOf t d A kb cb) ps Lf Ev dg dm br w hp.row hp.esc hp.pv hp.dk hd hbr).mono ?_; rintro e w' ⟨s, er, rfl, HS, hb⟩; obtain ⟨rfl, rfl⟩ := StP.eqO HS.out; exact ⟨rfl, hb⟩
theorem rstate_o (Al : Option Addr) (kl cl : Nat) (k t : Int) (d : DG) (ps : List PC) (Lf : Nat → List Nat × List Nat) (Ev : Nat → Int) (dg : Nat → List Int) (dm br : List Int) (A : Option Addr) (kb cb : Nat) (w : World) (hp : PLs w Al kl ps Lf Ev dg) (hd : DgOk (cellsDG d) dm) (hbr : RowS intC w A kb br) :
  Calls Tryz.prog 30 #[.slice Al kl cl, .int .i64 k, .int .i64 t, .agg (cellsDG d).toArray, .slice A kb cb] w fun e w' => e = .returned (.tuple #[.int .i64 (stO kl t dm br Ev Lf dg ps k).1, .int .i64 (stO kl t dm br Ev Lf dg ps k).2]) ∧ Below w.heap.size w w' := by
 refine (rstate_n Al kl cl k (mmOf t d A kb cb) ps Lf Ev dg dm br w hp.row hp.esc hp.pv hp.dk hd hbr).mono ?_; rintro e w' ⟨s, er, rfl, HS, hb⟩; obtain ⟨rfl, rfl⟩ := StP.eqO HS.out; exact ⟨rfl, hb⟩
theorem active_o (Al : Option Addr) (kl cl : Nat) (t : Int) (T : Option Addr) (kt ct : Nat) (S : Option Addr) (ks cs : Nat) (A : Option Addr) (kb cb : Nat) (ps : List PC) (names : List ByteArray) (ds : List DG) (br : List Int) (Lf : Nat → List Nat × List Nat) (Ev : Nat → Int) (dg rd : Nat → List Int) (w : World)
  (hp : PLs w Al kl ps Lf Ev dg) (hl : kl ≤ 1000) (ht : RowS strC w T kt names) (hs : RowS cellsDG w S ks ds) (hbr : RowS intC w A kb br) (hN : Hid (∀ s ∈ names, s.size ≤ 9223372036854775807)) (HR : Hid (∀ (j : Nat) d, ds[j]? = some d → DgOk (cellsDG d) (rd j))) :
  Calls Tryz.prog 31 #[.slice Al kl cl, .int .i64 t, .slice T kt ct, .slice S ks cs, .slice A kb cb] w fun e w' => ∃ (Aa : Option Addr) (ka ca : Nat), e = .returned (.tuple #[.slice Aa ka ca, .int .i64 (acE kt ks names)]) ∧ RowS intC w' Aa ka (acI kt ks t br Ev Lf dg ps names rd) ∧ Below w.heap.size w w' := by
 refine (pactive_n Al kl cl t T kt ct S ks cs A kb cb ps names ds br Lf Ev dg rd w hp.row ht hs hbr (by omega) hN hp.esc hp.pv hp.dk HR).mono ?_; rintro e w' ⟨v, er, rfl, HA, hb⟩; obtain ⟨rfl, Aa, ka, ca, rfl, hr⟩ := AcP.eqI HA.out (by have := hp.row.2.1; omega); exact ⟨Aa, ka, ca, rfl, hr, hb⟩
theorem ractive_o (Al : Option Addr) (kl cl : Nat) (t : Int) (T : Option Addr) (kt ct : Nat) (S : Option Addr) (ks cs : Nat) (A : Option Addr) (kb cb : Nat) (ps : List PC) (names : List ByteArray) (ds : List DG) (br : List Int) (Lf : Nat → List Nat × List Nat) (Ev : Nat → Int) (dg rd : Nat → List Int) (w : World)
  (hp : PLs w Al kl ps Lf Ev dg) (hl : kl ≤ 1000) (ht : RowS strC w T kt names) (hs : RowS cellsDG w S ks ds) (hbr : RowS intC w A kb br) (hN : Hid (∀ s ∈ names, s.size ≤ 9223372036854775807)) (HR : Hid (∀ (j : Nat) d, ds[j]? = some d → DgOk (cellsDG d) (rd j))) :
  Calls Tryz.prog 32 #[.slice Al kl cl, .int .i64 t, .slice T kt ct, .slice S ks cs, .slice A kb cb] w fun e w' => ∃ (Aa : Option Addr) (ka ca : Nat), e = .returned (.tuple #[.slice Aa ka ca, .int .i64 (acE kt ks names)]) ∧ RowS intC w' Aa ka (acI kt ks t br Ev Lf dg ps names rd) ∧ Below w.heap.size w w' := by
 refine (ractive_n Al kl cl t T kt ct S ks cs A kb cb ps names ds br Lf Ev dg rd w hp.row ht hs hbr (by omega) hN hp.esc hp.pv hp.dk HR).mono ?_; rintro e w' ⟨v, er, rfl, HA, hb⟩; obtain ⟨rfl, Aa, ka, ca, rfl, hr⟩ := AcP.eqI HA.out (by have := hp.row.2.1; omega); exact ⟨Aa, ka, ca, rfl, hr, hb⟩
end Go.Proofs.YtijkfagkbfbpmaaGreatDoor
namespace Go.Proofs.YtijkfagkbfbpmaaGreatDoor
open Go Go.RowKit
end Go.Proofs.YtijkfagkbfbpmaaGreatDoor
namespace Go.Proofs.YtijkfagkbfbpmaaGreatDoor
open Go Go.RowKit
end Go.Proofs.YtijkfagkbfbpmaaGreatDoor
namespace Go.Proofs.YtijkfagkbfbpmaaGreatDoor
open Go.RowKit
/-- two rows of limbs are those of a valid ratio -/
def GoodL (l1 l2 : List Nat) (p q : Nat) : Prop := l1 = Nm.lb p ∧ l2 = Nm.lb (Nm.dn q) ∧ Nm.Good p q
theorem RtL.good {w : World} {v : Value} {l1 l2 : List Nat} (h : RtL w v l1 l2) (hv : Nm.validE l1 l2 = 0) : ∃ p q, GoodL l1 l2 p q ∧ Rat w v p q := by
 obtain ⟨A1, k1, c1, A2, k2, c2, rfl, h1, h2, h3, h4⟩ := h; obtain ⟨p, q, e1, e2, hg⟩ := Nm.validE_spec h1.2.2.2.1 h2.2.2.2.1 hv; subst e1 e2; exact ⟨p, q, ⟨rfl, rfl, hg⟩, _, _, _, _, _, _, rfl, ⟨h3, h1⟩, ⟨h4, h2⟩⟩
end Go.Proofs.YtijkfagkbfbpmaaGreatDoor
namespace Go.Proofs.YtijkfagkbfbpmaaGreatDoor
open Go.RowKit
theorem Sl.facts {w : World} {g : Nat} (h : Sl w g) : (∃ a, w.cell? ⟨g, 0, none⟩ = some a) ∧ (∃ a, w.cell? ⟨g, 1, none⟩ = some a) ∧ w.frozen? ⟨g, 0, none⟩ = false ∧ w.frozen? ⟨g, 1, none⟩ = false := by
 obtain ⟨r1, r2, r3, r4, r5, r6, hb⟩ := h; exact ⟨⟨_, hb.cell 0⟩, ⟨_, hb.cell 1⟩, hb.frozen 0, hb.frozen 1⟩
end Go.Proofs.YtijkfagkbfbpmaaGreatDoor
namespace Go.Proofs.YtijkfagkbfbpmaaGreatDoor
open Go.RowKit
/-- the limbs of a ratio, whatever they are -/
abbrev LP := List Nat × List Nat
def nilP : LP := ([], [])
def validP (x : LP) : Int := Nm.validE x.1 x.2
end Go.Proofs.YtijkfagkbfbpmaaGreatDoor
namespace Go.Proofs.YtijkfagkbfbpmaaGreatDoor
open Go Go.RowKit
end Go.Proofs.YtijkfagkbfbpmaaGreatDoor
namespace Go.Proofs.YtijkfagkbfbpmaaGreatDoor
open Go Go.RowKit
end Go.Proofs.YtijkfagkbfbpmaaGreatDoor
namespace Go.Proofs.YtijkfagkbfbpmaaGreatDoor
open Go Go.RowKit
/- the encoding of integers, in plain numbers -/
namespace Wi
/-- the number of bytes of a number -/
def nb (m : Nat) : Nat := if h : m = 0 then 0 else nb (m / 256) + 1
termination_by m
decreasing_by omega
/-- big-endian digits -/
def be : Nat → Nat → List Nat
 | 0, _ => []
 | k + 1, m => (m / 256 ^ k % 256) :: be k m
def val (l : List Nat) : Nat := l.foldl (fun a d => a * 256 + d) 0
/-- a digit, turned for negative numbers -/
def fl (neg : Bool) (d : Nat) : Nat := if neg then 255 - d else d
def kOf (h : Nat) : Nat := if h < 128 then 127 - h else h - 128
def dgs (h : Nat) (r : List Nat) : List Nat := (r.take (kOf h)).map (fl (decide (h < 128)))
def numI (h : Nat) (r : List Nat) : Int := if h < 128 then -1 - (val (dgs h r) : Int) else (val (dgs h r) : Int)
def getR (h : Nat) (r : List Nat) : Int × Nat × Int := if h < 119 ∨ 136 < h then (0, 0, 2) else if r.length < kOf h then (0, 0, 3) else if (dgs h r).head? = some 0 ∨ 9223372036854775808 ≤ val (dgs h r) then (0, 0, 2) else (numI h r, kOf h + 1, 0)
/-- what a byte sequence's first integer is: value, length, error -/
def getI : List Nat → Int × Nat × Int
 | [] => (0, 0, 3)
 | h :: r => getR h r
/-- n integers one after the other, from a position on: the integers, the position behind, the error -/
def getN (b : List Nat) : Nat → Nat → List Int → List Int × Nat × Int
 | 0, at_, acc => (acc, at_, 0)
 | n + 1, at_, acc => if (getI (b.drop at_)).2.2 ≠ 0 then ([], 0, (getI (b.drop at_)).2.2) else getN b n (at_ + (getI (b.drop at_)).2.1) (acc ++ [(getI (b.drop at_)).1])
def cntE (b : List Nat) : Int := if (getI b).2.2 ≠ 0 then (getI b).2.2 else if (getI b).1 < 0 then 2 else if ((b.length - (getI b).2.1 : Nat) : Int) < (getI b).1 then 3 else 0
def getIs (b : List Nat) : List Int × Nat × Int := if cntE b ≠ 0 then ([], 0, cntE b) else getN b (getI b).1.toNat (getI b).2.1 []
end Wi
end Go.Proofs.YtijkfagkbfbpmaaGreatDoor
namespace Go.Proofs.YtijkfagkbfbpmaaGreatDoor.Nm
end Go.Proofs.YtijkfagkbfbpmaaGreatDoor.Nm
namespace Go.Proofs.YtijkfagkbfbpmaaGreatDoor
open Go.RowKit
end Go.Proofs.YtijkfagkbfbpmaaGreatDoor
namespace Go.Proofs.YtijkfagkbfbpmaaGreatDoor
open Go.RowKit
end Go.Proofs.YtijkfagkbfbpmaaGreatDoor
namespace Go.Proofs.YtijkfagkbfbpmaaGreatDoor
open Go.RowKit
theorem good_lt {p q : Nat} (g : Nm.Good p q) : p < Nm.B ^ 64 ∧ q < Nm.B ^ 64 := by
 refine ⟨Nm.lb_length_lt.1 g.fits.1, ?_⟩; have h := g.fits.2; unfold Nm.dn at h; by_cases h1 : q = 1
 ·subst h1; exact Nat.one_lt_pow (by omega) (by unfold Nm.B; omega)
 ·rw [if_neg h1] at h; exact Nm.lb_length_lt.1 h
end Go.Proofs.YtijkfagkbfbpmaaGreatDoor
namespace Go.Proofs.YtijkfagkbfbpmaaGreatDoor
open Go Go.RowKit
end Go.Proofs.YtijkfagkbfbpmaaGreatDoor
namespace Go.Proofs.YtijkfagkbfbpmaaGreatDoor
open Go Go.RowKit
end Go.Proofs.YtijkfagkbfbpmaaGreatDoor
namespace Go.Proofs.YtijkfagkbfbpmaaGreatDoor
open Go Go.RowKit
/- A region of calls on ratios whose last value goes to the result's block g. -/
end Go.Proofs.YtijkfagkbfbpmaaGreatDoor
namespace Go.Proofs.YtijkfagkbfbpmaaGreatDoor
open Go Go.RowKit
end Go.Proofs.YtijkfagkbfbpmaaGreatDoor
namespace Go.Proofs.YtijkfagkbfbpmaaGreatDoor
open Go Go.RowKit
end Go.Proofs.YtijkfagkbfbpmaaGreatDoor
namespace Go.Proofs.YtijkfagkbfbpmaaGreatDoor
open Go Go.RowKit
end Go.Proofs.YtijkfagkbfbpmaaGreatDoor
namespace Go.Proofs.YtijkfagkbfbpmaaGreatDoor
open Go Go.RowKit
end Go.Proofs.YtijkfagkbfbpmaaGreatDoor
namespace Go.Proofs.YtijkfagkbfbpmaaGreatDoor
open Go Go.RowKit
theorem Rd.newC (w : World) (T : TypeId) (cs : List Value) : Rd (w.alloc (.cells cs.toArray T)) (some ⟨w.heap.size, 0, none⟩) cs := by
 intro _; refine ⟨_, _, rfl, fun i h => ?_⟩; rw [Nat.zero_add, (Blk.new w T cs.toArray).cell]; simp [h]
end Go.Proofs.YtijkfagkbfbpmaaGreatDoor
