import Derived.Test.YtijkfagkbfbpmaaGreatDoorKApProof19
import Derived.Maps.OwnSet
import Derived.Deep.DeepMust
import Derived.Test.YtijkfagkbfbpmaaGreatDoorKApProof22
import Derived.Test.YtijkfagkbfbpmaaGreatDoorKApProof21
import Derived.Test.YtijkfagkbfbpmaaGreatDoorKApProof16
import Derived.Laws.ResultCell
import Derived.Test.YtijkfagkbfbpmaaGreatDoorKApProof11
import Derived.Test.YtijkfagkbfbpmaaGreatDoorKApProof18
import Derived.Test.YtijkfagkbfbpmaaGreatDoorKApProof14
import Derived.Test.YtijkfagkbfbpmaaGreatDoorKApProof04
import Derived.Test.YtijkfagkbfbpmaaGreatDoorKApProof12
import Derived.Test.YtijkfagkbfbpmaaGreatDoorS0
set_option linter.unusedVariables false
set_option linter.unusedSimpArgs false
namespace Go.Proofs.YtijkfagkbfbpmaaGreatDoor
open Go Go.RowKit Go.Maps Go.WideMaps
/-- a digest -/
structure DG where
 r0 : Value
 r1 : Value
 r2 : Value
 r3 : Value
 r4 : Value
 r5 : Value
 r6 : Value
 r7 : Value
 r8 : Value
 r9 : Value
 r10 : Value
 r11 : Value
 r12 : Value
 r13 : Value
 r14 : Value
 r15 : Value
def cellsDG (d : DG) : List Value := [d.r0, d.r1, d.r2, d.r3, d.r4, d.r5, d.r6, d.r7, d.r8, d.r9, d.r10, d.r11, d.r12, d.r13, d.r14, d.r15]
theorem cellsDG_len (d : DG) : (cellsDG d).length = 16 := rfl
def zeroDG : DG := ⟨.int .u8 0, .int .u8 0, .int .u8 0, .int .u8 0, .int .u8 0, .int .u8 0, .int .u8 0, .int .u8 0, .int .u8 0, .int .u8 0, .int .u8 0, .int .u8 0, .int .u8 0, .int .u8 0, .int .u8 0, .int .u8 0⟩
theorem zeroDG_ok : DgOk (cellsDG zeroDG) (List.replicate 16 0) := ⟨rfl, rfl⟩
def mmOf (tick : Int) (d : DG) (A : Option Addr) (k c : Nat) : MM := ⟨tick, d.r0, d.r1, d.r2, d.r3, d.r4, d.r5, d.r6, d.r7, d.r8, d.r9, d.r10, d.r11, d.r12, d.r13, d.r14, d.r15, A, k, c⟩
theorem infoDG {d : DG} : (Tryz.prog.info? 31).map (·.size) = some (cellsDG d).length := by kernel_rfl
theorem infoDGs {d : DG} : (Tryz.prog.info? 31).map (·.size) = some (cellsDG d).toArray.size := by kernel_rfl
theorem lawS : Keyed Tryz.prog 9 := string_keyed Tryz.underlying9
theorem zeroD (w : World) : (zeroValue 31).run Tryz.prog w = .ok (.agg (cellsDG zeroDG).toArray) w := by kernel_rfl
/-- an element is what it is -/
def holdE (v : Value) : Option (DataW Value × List MemPlace) := some (.held v, [])
theorem holdE_inv {v u : Value} {ps : List MemPlace} (h : holdE v = some (.held u, ps)) : v = u := by
 unfold holdE at h; injection h with h; injection h with h _; injection h with h
def kl (s : ByteArray) : Lit := .string s.data.toList
theorem kl_ne {s u : ByteArray} (h : s ≠ u) : kl s ≠ kl u := fun e => h (by
 unfold kl at e; injection e with e
 exact ByteArray.ext (by exact Array.toList_inj.1 e))
theorem kl_key {s : ByteArray} (h : s.size ≤ 9223372036854775807) : keyOf Tryz.prog 9 (.string s) = some (kl s) := keyOf_string_mk Tryz.underlying9 (by unfold maxLen; omega)
theorem kl_lit (s : ByteArray) : WideAt.IsKeyLit (kl s) := trivial
def eqS (a b : ByteArray) : Bool := a.data.toList == b.data.toList
theorem eqS_iff {a b : ByteArray} : eqS a b = true ↔ a = b := by
 unfold eqS; rw [beq_iff_eq]; exact ⟨fun h => ByteArray.ext (Array.toList_inj.1 h), fun h => by rw [h]⟩
def memS (s : ByteArray) (l : List ByteArray) : Bool := l.any (eqS s)
theorem memS_iff {s : ByteArray} {l : List ByteArray} : memS s l = true ↔ s ∈ l := by
 unfold memS; rw [List.any_eq_true]; exact ⟨fun ⟨x, hx, h⟩ => by rw [eqS_iff.1 h]; exact hx, fun h => ⟨s, h, eqS_iff.2 rfl⟩⟩
/-- what the map holds after i names -/
def MapD (names : List ByteArray) (ds : List DG) (i : Nat) (D : DataW Value) : Prop :=
 IsMap D ∧ (∀ s, Maps.has D (kl s) = memS s (names.take i)) ∧ (∀ j s d, j < i → names[j]? = some s → ds[j]? = some d → (∀ k, j < k → k < i → names[k]? ≠ some s) → D.atKey (kl s) (.held (.agg (cellsDG zeroDG).toArray)) = .held (.agg (cellsDG d).toArray))
theorem MapD.nil {names : List ByteArray} {ds : List DG} : MapD names ds 0 (.map []) := ⟨isMap_empty, fun s => rfl, fun j s d h => absurd h (Nat.not_lt_zero _)⟩
theorem MapD.next {names : List ByteArray} {ds : List DG} {i : Nat} {D : DataW Value} {s : ByteArray} {d : DG} (h : MapD names ds i D) (hs : names[i]? = some s) (hd : ds[i]? = some d) : MapD names ds (i + 1) (D.put (kl s) (.held (.agg (cellsDG d).toArray))) := by
 obtain ⟨h1, h2, h3⟩ := h; refine ⟨h1.put _ _, fun u => ?_, fun j u e hj hu he hno => ?_⟩
 ·rw [List.take_add_one, hs]; by_cases hus : u = s
  ·subst hus; rw [has_put_same h1 (kl_lit _)]
   symm; rw [memS_iff]; simp
  ·rw [has_put_other (kl_ne hus), h2]; rw [Bool.eq_iff_iff, memS_iff, memS_iff]; simp [hus]
 ·by_cases hus : u = s
  ·subst hus; rw [atKey_put_same h1 (kl_lit _)]
   rcases Nat.lt_or_ge j i with h | h
   ·exact absurd hs (hno i h (by omega))
   ·obtain rfl : j = i := by omega
    rw [hd] at he; injection he with he; rw [he]
  ·rw [atKey_put_other (kl_ne hus)]
   rcases Nat.lt_or_ge j i with h | h
   ·exact h3 j u e h hu he (fun k hk hki => hno k hk (by omega))
   ·obtain rfl : j = i := by omega
    rw [hs] at hu; injection hu with hu; exact absurd hu.symm hus
/-- a name stands twice -/
def twB (names : List ByteArray) (i : Nat) : Bool := match names[i]? with
 | some s => memS s (names.take i)
 | none => false
def twA (names : List ByteArray) : Bool := (List.range names.length).any (twB names)
def eqO : Option ByteArray → ByteArray → Bool
 | some a, b => eqS a b
 | none, _ => false
theorem eqO_iff {a : Option ByteArray} {b : ByteArray} : eqO a b = true ↔ a = some b := by
 cases a with
 | none => simp [eqO]
 | some a => simp [eqO, eqS_iff]
/-- where a name stands -/
def idxN (names : List ByteArray) (s : ByteArray) : Option Nat := (List.range names.length).find? (fun j => eqO (names[j]?) s)
theorem tw_apart {names : List ByteArray} (h : twA names = false) {j k : Nat} {s : ByteArray} (hj : names[j]? = some s) (hk : names[k]? = some s) (hjk : j < k) : False := by
 unfold twA at h; rw [List.any_eq_false] at h; have hl := (List.getElem?_eq_some_iff.1 hk).1; refine h k (List.mem_range.2 hl) ?_; unfold twB; rw [hk]; simp only [memS_iff]; exact List.mem_of_getElem? (i := j) (by rw [List.getElem?_take, if_pos hjk]; exact hj)
theorem idx_some {names : List ByteArray} {s : ByteArray} (h : s ∈ names) : ∃ j, idxN names s = some j ∧ names[j]? = some s := by
 obtain ⟨n, hn⟩ := List.getElem?_of_mem h; unfold idxN
 cases e : (List.range names.length).find? (fun j => eqO (names[j]?) s) with
 | none =>
  rw [List.find?_eq_none] at e; exact absurd (eqO_iff.2 hn) (e n (List.mem_range.2 (List.getElem?_eq_some_iff.1 hn).1))
 | some j => exact ⟨j, rfl, eqO_iff.1 (List.find?_some (p := fun j => eqO (names[j]?) s) e)⟩
theorem idx_none {names : List ByteArray} {s : ByteArray} (h : s ∉ names) : idxN names s = none := by
 unfold idxN; rw [List.find?_eq_none]; intro j _ hj; exact h (List.mem_of_getElem? (eqO_iff.1 hj))
/-- the promise i is active -/
def actB (tick : Int) (br : List Int) (Ev : Nat → Int) (Lf : Nat → List Nat × List Nat) (dg : Nat → List Int) (ps : List PC) (names : List ByteArray) (rd : Nat → List Int) (i : Nat) : Bool := match ps[i]? with
 | some p => (match idxN names p.test with
  | some j => decide (Ev i = 0) && (stF tick (rd j) br Ev Lf dg ps i == 0)
  | none => false)
 | none => false
def AcP (w' : World) (base kt ks : Nat) (tick : Int) (br : List Int) (Ev : Nat → Int) (Lf : Nat → List Nat × List Nat) (dg : Nat → List Int) (ps : List PC) (names : List ByteArray) (rd : Nat → List Int) (v : Value) (er : Int) : Prop :=
 (kt ≠ ks ∧ er = 1 ∧ v = .slice none 0 0) ∨ (kt = ks ∧ twA names = true ∧ er = 7 ∧ v = .slice none 0 0) ∨
 (kt = ks ∧ twA names = false ∧ er = 0 ∧ w'.ownsRow base 3 1 v ((List.range ps.length).filter (actB tick br Ev Lf dg ps names rd)).length (((List.range ps.length).filter (actB tick br Ev Lf dg ps names rd)).flatMap natC))
theorem MapD.get {names : List ByteArray} {ds : List DG} {i : Nat} {D : DataW Value} (h : MapD names ds i D) (hn : ∀ j, j < i → twB names j = false) (hl : names.length = ds.length) (s : ByteArray) :
  ∃ d, D.atKey (kl s) (.held (.agg (cellsDG zeroDG).toArray)) = .held (.agg (cellsDG d).toArray) ∧ ((Maps.has D (kl s) = true ∧ ∃ j, j < i ∧ names[j]? = some s ∧ ds[j]? = some d) ∨ (Maps.has D (kl s) = false ∧ s ∉ names.take i ∧ d = zeroDG)) := by
 by_cases hm : s ∈ names.take i
 ·obtain ⟨j, hj⟩ := List.getElem?_of_mem hm; rw [List.getElem?_take] at hj
  split at hj
  ·rename_i hji
   have hjl := (List.getElem?_eq_some_iff.1 hj).1; have hd : ds[j]? = some (ds[j]'(by omega)) := List.getElem?_eq_getElem (by omega); refine ⟨_, h.2.2 j s _ hji hj hd (fun k hk hki hks => ?_), .inl ⟨by rw [h.2.1]; exact memS_iff.2 hm, j, hji, hj, hd⟩⟩; have := hn k hki; unfold twB at this; rw [hks] at this; simp only at this; have h2 := memS_iff.2 (List.mem_of_getElem? (i := j) (l := names.take k) (by rw [List.getElem?_take, if_pos hk]; exact hj)); rw [this] at h2
   cases h2
  ·cases hj
 ·have hf : Maps.has D (kl s) = false := by
   rw [h.2.1]
   cases e : memS s (names.take i) with
   | true => exact absurd (memS_iff.1 e) hm
   | false => rfl
  exact ⟨zeroDG, atKey_of_not_has hf _, .inr ⟨hf, hm, rfl⟩⟩
theorem own_baseG {w : World} {b b' : Nat} {T : TypeId} {m : Nat} {v : Value} {n : Nat} {xs : List Value} (h : w.ownsRow b T m v n xs) (hb : b' ≤ b) : w.ownsRow b' T m v n xs := by
 refine ⟨h.1, ?_⟩
 rcases h.2 with h | ⟨g, cap, cur, h1, h2, h3⟩
 ·exact .inl h
 ·exact .inr ⟨g, cap, cur, h1, Nat.le_trans hb h2, h3⟩
theorem dg_one {d : DG} {l : List Int} (h : DgOk (cellsDG d) l) : ((cellsDG d).toArray.all (·.oneCell') = true) := all_oneCell_toArray fun v hv => bytes_one h v hv
theorem wpList_lookup_dg (w : World) {ops : Array Oper} {rest : List Oper} {o : Oper} {a : Act} {Q : Exit → Act → World → Prop} (hg : o.guard = none) (m x : Operand) (hop : o.op = Op.lookup 101 m x true) (b n : Nat) (D : DataW Value)
  (hm : a.eval m = .map (some b)) (hown : w.ownsMap Tryz.prog 9 holdE b n D) (s : ByteArray) (hx : a.eval x = .string s) (hs : s.size ≤ 9223372036854775807) (d : DG) (hd : D.atKey (kl s) (.held (.agg (cellsDG zeroDG).toArray)) = .held (.agg (cellsDG d).toArray)) (hb : Bool) (hh : Maps.has D (kl s) = hb)
  (hK : wpList Tryz.prog ops Q rest (a.put o.dst (.tuple #[.agg (cellsDG d).toArray, .bool hb])) w) : wpList Tryz.prog ops Q (o :: rest) a w :=
 wpList_lookup_own_ok w hg m x 101 hop 9 31 lawS Tryz.underlying101 holdE (zeroD _) (.held (.agg (cellsDG zeroDG).toArray)) [] rfl b n D hm hown _ _ hx (kl_key hs) (fun v ps hv => by
  rw [hd] at hv; rw [holdE_inv hv, hh]
  exact hK)
set_option maxRecDepth 100000 in
set_option maxHeartbeats 8000000 in
theorem pactive_n (Al : Option Addr) (kl_ cl : Nat) (tick : Int) (T : Option Addr) (kt ct : Nat) (S : Option Addr) (ks cs : Nat) (Ab : Option Addr) (kb cb : Nat) (ps : List PC) (names : List ByteArray) (ds : List DG) (br : List Int) (Lf : Nat → List Nat × List Nat) (Ev : Nat → Int) (dg rd : Nat → List Int) (w : World)
  (hp : RowS cellsP w Al kl_ ps) (ht : RowS strC w T kt names) (hs : RowS cellsDG w S ks ds) (hbr : RowS intC w Ab kb br) (hkl : kl_ ≤ 1048576) (hN : Hid (∀ s ∈ names, s.size ≤ 9223372036854775807))
  (HE : Hid (EscOk w ps Lf)) (HV : Hid (∀ (n : Nat) p, ps[n]? = some p → PVal p (Lf n).1 (Lf n).2 (Ev n))) (HD : Hid (∀ (n : Nat) p, ps[n]? = some p → DgOk (pdg p) (dg n))) (HR : Hid (∀ (j : Nat) d, ds[j]? = some d → DgOk (cellsDG d) (rd j))) :
  Calls Tryz.prog 31 #[.slice Al kl_ cl, .int .i64 tick, .slice T kt ct, .slice S ks cs, .slice Ab kb cb] w fun e w' => ∃ (v : Value) (er : Int), e = .returned (.tuple #[v, .int .i64 er]) ∧ Hid (AcP w' w.heap.size kt ks tick br Ev Lf dg ps names rd v er) ∧ Below w.heap.size w w' := by
 by_cases hks : kt = ks
 ·subst hks; have hkt := ht.2.1; have hkt2 := ht.2.2; have hds := hs.2.1; have HLL : Hid (names.length = ds.length ∧ kt = names.length ∧ kl_ = ps.length) := ⟨by omega, hkt, hp.2.1⟩; clear hkt hds; have hmm := @run_makeMap Tryz.prog; have hown0 := World.ownsMap_made w Tryz.prog 9 holdE; have hb0 := bA w (.map #[] 0); obtain ⟨i0, hi0, hz0, hz1, hz2⟩ := info_parts info_int
  go_enter Tryz.func31, Tryz.ntmps31
  go_wp2_with fail
  go_loopg [32] kt (fun m x wr => ∃ (i : Nat) (D : DataW Value), x = .int .i64 i ∧ i + m = kt ∧ wr.ownsMap Tryz.prog 9 holdE w.heap.size i D ∧ Hid (MapD names ds i D) ∧ Hid (∀ j, j < i → twB names j = false) ∧ w.heap.size < wr.heap.size ∧ Below w.heap.size w wr)
  case atStart => exact ⟨0, _, rfl, by omega, hown0, MapD.nil, fun j h => absurd h (Nat.not_lt_zero _), by simp, hb0⟩
  case round =>
   obtain ⟨G, hG⟩ : ∃ G, G = gk := ⟨gk, rfl⟩; subst hG; obtain ⟨i, D, rfl, him, hown, HM, HT, hlt, hbe⟩ := hrel; clear hmm hown0 hb0; by_cases hi : i < kt
   ·have t1 : decide ((i : Int) < (kt : Int)) = true := by simp; omega
    have li : (i : Int) < (kt : Int) := by omega
    obtain ⟨b, off, s, rfl, hc, HS⟩ := (ht.below hbe).str hi; have hil : i < ds.length := by have := HLL.out; omega
    obtain ⟨di, HDI⟩ : ∃ d, Hid (ds[i] = d ∧ ds[i]? = some d) := ⟨_, rfl, List.getElem?_eq_getElem hil⟩; have hsz := hN.out s (List.mem_of_getElem? HS.out); obtain ⟨dx, hdx, hcase⟩ := HM.out.get HT.out HLL.out.1 s; obtain ⟨hb, hhb⟩ : ∃ hb, hb = Maps.has D (kl s) := ⟨_, rfl⟩; have HHB := Lib.hid hhb
    have HOX : Hid ((cellsDG dx).toArray.all (·.oneCell') = true) := by
     rcases hcase with ⟨_, j, _, _, h3⟩ | ⟨_, _, h3⟩
     ·exact dg_one (HR.out j _ h3)
     ·rw [h3]; exact dg_one zeroDG_ok
    have HCA := Lib.hid hcase; have HDX := Lib.hid hdx; clear hcase hhb hdx
    go_upto_region 8 with (first | (at_lookup; go_must (refine wpList_lookup_dg _ rfl _ _ rfl w.heap.size i D rfl hown s rfl hsz dx HDX.out hb HHB.out.symm ?_; simp only [Act.put, sA, sB, sC])) | (refine wpList_store_mid rfl 31 (.tmp 15) (.tmp 41) rfl wr.heap.size 0 (cellsDG dx).toArray rfl rfl (there_new _ _ _ 16 (by simp)) infoDGs HOX.out ?_; rw [setCells_new]; rotate_left; rfl))
    refine wp_name ?_; intro v8 HV8; have hbv : Below wr.heap.size wr v8 := by rw [HV8.out]; exact bA _ _
    have hown8 : v8.ownsMap Tryz.prog 9 holdE w.heap.size i D := by rw [HV8.out]; exact hown.alloc _
    have hbe8 := Below.tr hbe hbv; have hlt8 : w.heap.size < v8.heap.size := Nat.lt_of_lt_of_le hlt hbv.size; clear HV8 hown hc HDX; generalize wr.heap.size = g15 at hlt hbv
    cases hb
    ·have HT2 : Hid (∀ j, j < i + 1 → twB names j = false) := fun j hj => by
      rcases Nat.lt_or_ge j i with h | h
      ·exact HT.out j h
      ·obtain rfl : j = i := by omega
       unfold twB; rw [HS.out]
       show memS s _ = false
       rw [← HM.out.2.1, ← HHB.out]
     obtain ⟨b2, off2, rfl, HC2⟩ := (hs.below hbe8).at_ cellsDG_len (by omega) hi hil; rw [HDI.out.1] at HC2; have HM2 := Lib.hid (HM.out.next HS.out HDI.out.2); clear HCA HOX HHB HM HT
     go_upto_region 11 with (first | (refine wpList_load_mid rfl 31 (.tmp 48) rfl b2 (off2 + i * 16) rfl (cellsDG di) _ (fun j v h => HC2.out j v h) Tryz.underlying31 rfl infoDG ?_; simp only [Act.put, sA, sB, sC]) | (at_mapUpdate; go_must (refine wpList_mapUpdate_own _ rfl _ _ _ 101 rfl 9 31 lawS Tryz.underlying101 holdE w.heap.size i D rfl hown8 (by unfold maxLen; omega) _ _ _ rfl rfl (kl_key hsz) _ [] rfl ?_; intro v11 hown11 hg11)))
     have hbe11 : Below w.heap.size w v11 := hbe8.grown hg11 hbe8.size (fun j hj => by cases hj; exact Nat.le_refl _); have hlt11 : w.heap.size < v11.heap.size := Nat.lt_of_lt_of_le hlt8 hg11.size; clear hg11 hown8 HC2; go_wp2_with fail
     go_roundg (G - 1)
     case measure => omega
     case rel => exact ⟨i + 1, _, by go_num, by omega, hown11, HM2, HT2, hlt11, hbe11⟩
    ·have HTW : Hid (twA names = true) := by
      show _ = _
      unfold twA; rw [List.any_eq_true]; refine ⟨i, List.mem_range.2 (by have := HLL.out; omega), ?_⟩; unfold twB; rw [HS.out]
      show memS s _ = true
      rw [← HM.out.2.1, ← HHB.out]
     clear HCA HOX HHB HM HT; go_wp2_with fail
     go_ret2
     exact ⟨_, 7, rfl, .inr (.inl ⟨rfl, HTW.out, rfl, rfl⟩), hbe8⟩
   ·have t1 : decide ((i : Int) < (kt : Int)) = false := by simp; omega
    have li : ¬ ((i : Int) < (kt : Int)) := by omega
    have hik : i = kt := by omega
    have HTF : Hid (twA names = false) := by
     show _ = _
     unfold twA; rw [List.any_eq_false]; intro j hj; rw [HT.out j (by have := List.mem_range.1 hj; have := HLL.out; omega)]; simp
    obtain ⟨x1, hx1⟩ : ∃ x, x = wr := ⟨_, rfl⟩; subst hx1; go_wp2_with fail
    go_loopg [17, 53] kl_ (fun m x y wr => ∃ q : Nat, y = .int .i64 q ∧ q + m = kl_ ∧ wr.ownsRow x1.heap.size 3 1 x ((List.range q).filter (actB tick br Ev Lf dg ps names rd)).length (((List.range q).filter (actB tick br Ev Lf dg ps names rd)).flatMap natC) ∧ wr.ownsMap Tryz.prog 9 holdE w.heap.size i D ∧ Below x1.heap.size x1 wr)
    case atStart => exact ⟨0, rfl, by omega, World.ownsRow_nil _ _ _ _, hown, Below.refl _ _⟩
    case round =>
     obtain ⟨G2, hG2⟩ : ∃ G, G = gk := ⟨gk, rfl⟩; subst hG2; obtain ⟨i2, rfl, him2, hrow, hmap, hbe2⟩ := hrel; have hbw := Below.tr hbe hbe2; obtain ⟨Ax, cx, rfl⟩ := own_shp hrow; by_cases hi2 : i2 < kl_
     ·have t2 : decide ((i2 : Int) < (kl_ : Int)) = true := by simp; omega
      have li2 : (i2 : Int) < (kl_ : Int) := by omega
      have hil : i2 < ps.length := by have := HLL.out; omega
      obtain ⟨p, HP⟩ : ∃ p, Hid (ps[i2] = p ∧ ps[i2]? = some p) := ⟨_, rfl, List.getElem?_eq_getElem hil⟩; obtain ⟨b, off, rfl, HC⟩ := (hp.below hbw).at_ cellsP_len (by omega) hi2 hil; rw [HP.out.1] at HC; have HEi := Lib.hid (HE.out i2 p HP.out.2); have hdpi := HD.out i2 p HP.out.2; have HONP := Lib.hid (pp_one hdpi HEi.out.1); have hsz := HEi.out.2.1; obtain ⟨dx, hdx, hcase⟩ := HM.out.get HT.out HLL.out.1 p.test; obtain ⟨hb, hhb⟩ : ∃ hb, hb = Maps.has D (kl p.test) := ⟨_, rfl⟩; have HHB := Lib.hid hhb
      obtain ⟨dm, HDM⟩ : ∃ dm, Hid (DgOk (cellsDG dx) dm ∧ (hb = true → ∃ j, idxN names p.test = some j ∧ rd j = dm) ∧ (hb = false → idxN names p.test = none)) := by
       rcases hcase with ⟨h1, j, h2, h3, h4⟩ | ⟨h1, h2, h3⟩
       ·refine ⟨rd j, HR.out j _ h4, fun _ => ?_, fun h => by rw [hhb, h1] at h; cases h⟩; obtain ⟨j', e1, e2⟩ := idx_some (List.mem_of_getElem? h3); refine ⟨j', e1, ?_⟩
        have : j' = j := by
         rcases Nat.lt_trichotomy j' j with h | h | h
         ·exact (tw_apart HTF.out e2 h3 h).elim
         ·exact h
         ·exact (tw_apart HTF.out h3 e2 h).elim
        rw [this]
       ·refine ⟨_, by rw [h3]; exact zeroDG_ok, fun h => (by rw [hhb, h1] at h; cases h), fun _ => idx_none ?_⟩
        rwa [List.take_of_length_le (by have := HLL.out; omega)] at h2
      have HOX := Lib.hid (dg_one HDM.out.1); have HDX := Lib.hid hdx; clear hcase hhb hdx
      go_upto_region 16 with (first | (refine wpList_load_mid rfl 33 (.tmp 56) rfl b (off + i2 * 24) rfl (cellsP p) _ (fun j v h => HC.out j v h) Tryz.underlying33 rfl infoP ?_; simp only [Act.put, sA, sB, sC]) | (refine wpList_store_mid rfl 33 (.tmp 19) (.tmp 57) rfl wr.heap.size 0 (cellsP p).toArray rfl rfl (there_new _ _ _ 24 (by simp)) infoPs HONP.out ?_; rw [setCells_new]; rotate_left; rfl))
      refine wp_name ?_; intro v16 HV16; have hbv : Below wr.heap.size wr v16 := by rw [HV16.out]; exact bA _ _
      have B19 : Blk v16 wr.heap.size 33 (cellsP p).toArray := by rw [HV16.out]; exact Blk.new _ _ _
      have hmap16 : v16.ownsMap Tryz.prog 9 holdE w.heap.size i D := by rw [HV16.out]; exact hmap.alloc _
      have hrow16 := own_below hrow hbv; have hbe16 := Below.tr hbe2 hbv; have q1 := B19.cell 1; simp only [cellsP, List.getElem?_toArray, List.getElem?_cons_zero, List.getElem?_cons_succ] at q1; generalize wr.heap.size = g19 at B19 q1; clear HV16 hbv hmap hrow HC HONP hbw hbe2 B19
      go_upto_region 17 with (first | (at_lookup; go_must (refine wpList_lookup_dg _ rfl _ _ rfl w.heap.size i D rfl hmap16 p.test rfl hsz dx HDX.out hb HHB.out.symm ?_; simp only [Act.put, sA, sB, sC])) | (refine wpList_store_mid rfl 31 (.tmp 20) (.tmp 63) rfl v16.heap.size 0 (cellsDG dx).toArray rfl rfl (there_new _ _ _ 16 (by simp)) infoDGs HOX.out ?_; rw [setCells_new]; rotate_left; rfl))
      refine wp_name ?_; intro v17 HV17; have hbv : Below v16.heap.size v16 v17 := by rw [HV17.out]; exact bA _ _
      have B20 : Blk v17 v16.heap.size 31 (cellsDG dx).toArray := by rw [HV17.out]; exact Blk.new _ _ _
      have hmap17 : v17.ownsMap Tryz.prog 9 holdE w.heap.size i D := by rw [HV17.out]; exact hmap16.alloc _
      have hrow17 := own_below hrow16 hbv; have hbe17 := Below.tr hbe16 hbv; have hbw17 := Below.tr hbe hbe17; generalize v16.heap.size = g20 at B20; clear HV17 hbv hmap16 hrow16 hbe16 q1 HOX HDX
      go_wp2_with (first | (refine wpList_load_mid rfl 31 (.tmp 20) rfl g20 0 rfl (cellsDG dx) _ (blk_range B20) Tryz.underlying31 rfl infoDG ?_; simp only [Act.put, sA, sB, sC]))
      refine (state_n (some ⟨b, off, none⟩) kl_ cl (i2 : Int) (mmOf tick dx Ab kb cb) ps Lf Ev dg dm br _ (hp.below hbw17) (HE.out.below hbw17) HV HD HDM.out.1 (hbr.below hbw17)).mono ?_; rintro e w18 ⟨s, er, rfl, HS, hb18⟩; have hmap18 := hmap17.kept (row := none) (only_below hb18 none) (by simp); have hrow18 := own_below hrow17 hb18; have hbe18 := Below.tr hbe17 hb18
      have HF : Hid ((Ev i2 ≠ 0 ∧ er ≠ 0) ∨ (Ev i2 = 0 ∧ er = 0 ∧ s = stF tick dm br Ev Lf dg ps i2)) := by
       rcases HS.out with ⟨h, _⟩ | ⟨n, h1, h2, h3⟩
       ·exfalso; rcases h with h | h <;> omega
       ·obtain rfl : i2 = n := by omega
        rcases h3 with ⟨h4, h5, h6⟩ | ⟨h4, h5, h6⟩
        ·exact .inl ⟨h4, by rw [h6]; exact h4⟩
        ·exact .inr ⟨h4, h5, h6⟩
      have HSK0 : actB tick br Ev Lf dg ps names rd i2 = false → Hid (w18.ownsRow x1.heap.size 3 1 (.slice Ax ((List.range i2).filter (actB tick br Ev Lf dg ps names rd)).length cx) ((List.range (i2 + 1)).filter (actB tick br Ev Lf dg ps names rd)).length (((List.range (i2 + 1)).filter (actB tick br Ev Lf dg ps names rd)).flatMap natC)) := fun h => by
       show World.ownsRow _ _ _ _ _ _ _
       rw [List.range_succ, List.filter_append, List.filter_cons_of_neg (by rw [h]; simp), List.filter_nil, List.append_nil]; exact hrow18
      have HSKH := Lib.hid HSK0; clear HSK0 HS B20 hmap17 hrow17 hbe17 hb18 hbw17
      cases hb
      ·have HSK := HSKH.out (by unfold actB; rw [HP.out.2]; simp only; rw [HDM.out.2.2 rfl]); clear HF; go_wp2_with fail
       go_roundg (G2 - 1)
       case measure => omega
       case rel => exact ⟨i2 + 1, by go_num, by omega, HSK.out, hmap18, hbe18⟩
      ·obtain ⟨j, HJ⟩ : ∃ j, Hid (idxN names p.test = some j ∧ rd j = dm) := HDM.out.2.1 rfl; by_cases hev : Ev i2 = 0
       ·have HE0 : Hid (er = 0 ∧ s = stF tick dm br Ev Lf dg ps i2) := by
         rcases HF.out with h | h
         ·exact absurd hev h.1
         ·exact h.2
        obtain rfl : er = 0 := HE0.out.1; have HEV := Lib.hid hev; clear hev HF; by_cases hs0 : s = 0
        ·have hs1 : (s == 0) = true := by simpa using hs0
         have HYES : Hid (((List.range (i2 + 1)).filter (actB tick br Ev Lf dg ps names rd)) = ((List.range i2).filter (actB tick br Ev Lf dg ps names rd)) ++ [i2]) := by
          show _ = _
          rw [List.range_succ, List.filter_append, List.filter_cons_of_pos, List.filter_nil]; unfold actB; rw [HP.out.2]; simp only; rw [HJ.out.1]; simp only; rw [HEV.out, HJ.out.2, ← HE0.out.2, hs0]; rfl
         obtain ⟨X, HX⟩ : ∃ X, Hid (X = ((List.range i2).filter (actB tick br Ev Lf dg ps names rd))) := ⟨_, rfl⟩; rw [← HX.out] at hrow18 HYES
         have hXl : X.length ≤ 1048576 := by
          rw [HX.out]; refine Nat.le_trans (List.length_filter_le _ _) ?_; rw [List.length_range]; omega
         have hax := bA w18 (.cells #[.int .i64 (i2 : Int)] 3); have hrow19 := own_below hrow18 hax; have hrd : Rd (w18.alloc (.cells #[.int .i64 (i2 : Int)] 3)) (some ⟨w18.heap.size, 0, none⟩) (natC i2) := Rd.fresh w18 3 (natC i2); have hbe19 := Below.tr hbe18 hax; have hmap19 := hmap18.alloc (.cells #[.int .i64 (i2 : Int)] 3); have hsz19 := hbe19.size; simp only [← HX.out]; clear hs0 HSKH hrow18 hmap18 hbe18 hax HE0 HEV HJ HX
         go_wp2_with (at_builtin; go_loud (refine wpList_append_any _ rfl (.tmp 83) (.tmp 85) _ rfl x1.heap.size 3 i0 _ 1 8 Tryz.underlying22 hi0 hz0 hz1 hz2 rfl (by omega) _ X.length _ rfl hrow19 _ 1 1 (natC i2) rfl rfl hrd (by simp [natC, Value.oneCell']) (by simp only [maxLen]; omega) (by omega) hsz19 ?_); intro v4 w4 hown4 hg4 hat4)
         have hbe20 : Below x1.heap.size x1 w4 := hbe19.grown hg4 hsz19 (own_block_ge hrow19); have hmap20 := hmap19.kept hg4 (fun e => by have := own_block_ge hrow19 _ e.symm; omega)
         have HROW : Hid (w4.ownsRow x1.heap.size 3 1 v4 ((List.range (i2 + 1)).filter (actB tick br Ev Lf dg ps names rd)).length (((List.range (i2 + 1)).filter (actB tick br Ev Lf dg ps names rd)).flatMap natC)) := by
          show World.ownsRow _ _ _ _ _ _ _
          rw [HYES.out, List.flatMap_append, List.length_append]
          simpa using hown4
         clear hown4 hg4 hat4 hrow19 hmap19 hbe19 hrd; go_wp2_with fail
         go_roundg (G2 - 1)
         case measure => omega
         case rel => exact ⟨i2 + 1, by go_num, by omega, HROW.out, hmap20, hbe20⟩
        ·have hs1 : (s == 0) = false := by simpa using hs0
         have HSK := HSKH.out (by unfold actB; rw [HP.out.2]; simp only; rw [HJ.out.1]; simp only; rw [HJ.out.2, ← HE0.out.2, hs1]; simp); clear hs0; go_wp2_with fail
         go_roundg (G2 - 1)
         case measure => omega
         case rel => exact ⟨i2 + 1, by go_num, by omega, HSK.out, hmap18, hbe18⟩
       ·have her : (er == 0) = false := by
         rcases HF.out with h | h
         ·simpa using h.2
         ·exact absurd h.1 hev
        have HSK := HSKH.out (by unfold actB; rw [HP.out.2]; simp only; rw [HJ.out.1]; simp [hev]); clear hev HF; go_wp2_with fail
        go_roundg (G2 - 1)
        case measure => omega
        case rel => exact ⟨i2 + 1, by go_num, by omega, HSK.out, hmap18, hbe18⟩
     ·have t2 : decide ((i2 : Int) < (kl_ : Int)) = false := by simp; omega
      have li2 : ¬ ((i2 : Int) < (kl_ : Int)) := by omega
      obtain rfl : i2 = kl_ := by omega
      have HROW : Hid (wr.ownsRow w.heap.size 3 1 (.slice Ax ((List.range i2).filter (actB tick br Ev Lf dg ps names rd)).length cx) ((List.range ps.length).filter (actB tick br Ev Lf dg ps names rd)).length (((List.range ps.length).filter (actB tick br Ev Lf dg ps names rd)).flatMap natC)) := by
       show World.ownsRow _ _ _ _ _ _ _
       rw [← HLL.out.2.2]; exact own_baseG hrow hbe.size
      clear hrow; go_wp2_with fail
      go_ret2
      exact ⟨_, 0, rfl, .inr (.inr ⟨rfl, HTF.out, rfl, HROW.out⟩), hbw⟩
 ·have hne : ((kt : Int) != (ks : Int)) = true := by simp; omega
  go_enter Tryz.func31, Tryz.ntmps31
  go_wp2_with fail
  go_ret2
  exact ⟨_, 1, rfl, .inl ⟨hks, rfl, rfl⟩, Below.refl _ _⟩
end Go.Proofs.YtijkfagkbfbpmaaGreatDoor
namespace Go.Proofs.YtijkfagkbfbpmaaGreatDoor
open Go Go.RowKit
def actL (tick : Int) (br : List Int) (Ev : Nat → Int) (Lf : Nat → List Nat × List Nat) (dg rd : Nat → List Int) (ps : List PC) (names : List ByteArray) : List Nat := (List.range ps.length).filter (actB tick br Ev Lf dg ps names rd)
theorem act_spec {tick : Int} {br : List Int} {Ev : Nat → Int} {Lf : Nat → List Nat × List Nat} {dg rd : Nat → List Int} {ps : List PC} {names : List ByteArray} {m : Nat} (h : actB tick br Ev Lf dg ps names rd m = true) : ∃ p j, ps[m]? = some p ∧ idxN names p.test = some j ∧ Ev m = 0 ∧ (¬ tick < p.fr ∧ ¬ p.un ≤ tick ∧ rd j = dg m ∧ br.contains (m : Int) = false) ∧ ∀ i, i < ps.length → hitA tick (rd j) br Ev Lf dg ps m i = false := by
 unfold actB at h
 cases hp : ps[m]? with
 | none => rw [hp] at h; cases h
 | some p =>
  rw [hp] at h; simp only at h
  cases hj : idxN names p.test with
  | none => rw [hj] at h; cases h
  | some j =>
   rw [hj] at h; simp only [Bool.and_eq_true, decide_eq_true_iff, beq_iff_eq] at h; have h2 := stF_zero.1 h.2; exact ⟨p, j, rfl, hj, h.1, (stA_zero hp).1 h2.1, h2.2⟩
theorem actL_at {tick : Int} {br : List Int} {Ev : Nat → Int} {Lf : Nat → List Nat × List Nat} {dg rd : Nat → List Int} {ps : List PC} {names : List ByteArray} {i : Nat} (h : i < (actL tick br Ev Lf dg rd ps names).length) : actB tick br Ev Lf dg ps names rd (actL tick br Ev Lf dg rd ps names)[i] = true ∧ (actL tick br Ev Lf dg rd ps names)[i] < ps.length := by
 have hm := List.getElem_mem h; unfold actL at hm; have := List.mem_filter.1 hm; exact ⟨this.2, List.mem_range.1 this.1⟩
theorem actL_lt {tick : Int} {br : List Int} {Ev : Nat → Int} {Lf : Nat → List Nat × List Nat} {dg rd : Nat → List Int} {ps : List PC} {names : List ByteArray} {i j : Nat} (hj : j < (actL tick br Ev Lf dg rd ps names).length) (hij : i < j) : (actL tick br Ev Lf dg rd ps names)[i]'(by omega) < (actL tick br Ev Lf dg rd ps names)[j] := by
 have h : (actL tick br Ev Lf dg rd ps names).Pairwise (· < ·) := List.Pairwise.filter _ List.pairwise_lt_range; exact List.pairwise_iff_getElem.1 h i j (by omega) hj hij
theorem act_clash {tick : Int} {br : List Int} {Ev : Nat → Int} {Lf : Nat → List Nat × List Nat} {dg rd : Nat → List Int} {ps : List PC} {names : List ByteArray} {x y : Nat} (hx : actB tick br Ev Lf dg ps names rd x = true) (hy : actB tick br Ev Lf dg ps names rd y = true) (hxy : x ≠ y) : clA Ev Lf dg ps x y = false := by
 obtain ⟨p, j, hp, hj, _, _, hh⟩ := act_spec hx; obtain ⟨q, j2, hq, hj2, hE2, ha2, _⟩ := act_spec hy
 cases hc : clA Ev Lf dg ps x y with
 | false => rfl
 | true =>
  exfalso
  have hc2 := hc; unfold clA at hc2; rw [hp, hq] at hc2; simp only at hc2; unfold clB at hc2; have h3 := of_decide_eq_true hc2
  have ejj : j2 = j := by
   rw [← h3.2.2.1, hj] at hj2; exact (Option.some.inj hj2).symm
  subst ejj; have hz : stA tick (rd j2) br dg ps y = 0 := (stA_zero hq).2 ha2; have h4 := hh y (List.getElem?_eq_some_iff.1 hq).1; unfold hitA at h4; rw [hc, hz] at h4; simp at h4; exact hxy h4.symm
theorem act_cover {tick : Int} {br : List Int} {Ev : Nat → Int} {Lf : Nat → List Nat × List Nat} {dg rd : Nat → List Int} {ps : List PC} {names : List ByteArray} {x y : Nat} {p q : PC} {s : ByteArray} {r : RC0} (hp : ps[x]? = some p) (hq : ps[y]? = some q) (hx : actB tick br Ev Lf dg ps names rd x = true) (hy : actB tick br Ev Lf dg ps names rd y = true) (hxy : x ≠ y) (h1 : covB p s r = true) (h2 : covB q s r = true) : sameR (Lf x).1 (Lf x).2 (Lf y).1 (Lf y).2 = true := by
 have hcl := act_clash hx hy hxy; obtain ⟨p', j, hp', hj, hE, ha, _⟩ := act_spec hx; obtain ⟨q', j2, hq', hj2, hE2, ha2, _⟩ := act_spec hy; rw [hp] at hp'; rw [hq] at hq'; injection hp' with hp'; injection hq' with hq'; subst hp' hq'; have g1 := of_decide_eq_true h1; have g2 := of_decide_eq_true h2
 have et : p.test = q.test := by
  have := g1.1.symm.trans g2.1
  simpa [ByteArray.toList_eq, ByteArray.ext_iff] using this
 have ew : p.wh = q.wh := by
  have := g1.2.2.2.1.symm.trans g2.2.2.2.1
  simpa [ByteArray.toList_eq, ByteArray.ext_iff] using this
 have es : p.site = q.site := g1.2.2.2.2.symm.trans g2.2.2.2.2; rw [et, hj2] at hj; have ejj : j2 = j := Option.some.inj hj; subst ejj
 cases hs : sameR (Lf x).1 (Lf x).2 (Lf y).1 (Lf y).2 with
 | true => rfl
 | false =>
  exfalso
  unfold clA at hcl; rw [hp, hq] at hcl; simp only at hcl; unfold clB at hcl; have := of_decide_eq_false hcl
  apply this
  exact ⟨hE, hE2, et, ew, es, ha.2.2.1.symm.trans ha2.2.2.1, hs, by have := ha.1; have := ha.2.1; have := ha2.1; have := ha2.2.1; omega⟩
end Go.Proofs.YtijkfagkbfbpmaaGreatDoor
namespace Go.Proofs.YtijkfagkbfbpmaaGreatDoor
open Go Go.RowKit
end Go.Proofs.YtijkfagkbfbpmaaGreatDoor
namespace Go.Proofs.YtijkfagkbfbpmaaGreatDoor
open Go.RowKit
/-- two rows of limbs are those of a valid ratio -/
def GoodL (l1 l2 : List Nat) (p q : Nat) : Prop := l1 = Nm.lb p ∧ l2 = Nm.lb (Nm.dn q) ∧ Nm.Good p q
theorem RtL.good {w : World} {v : Value} {l1 l2 : List Nat} (h : RtL w v l1 l2) (hv : Nm.validE l1 l2 = 0) : ∃ p q, GoodL l1 l2 p q ∧ Rat w v p q := by
 obtain ⟨A1, k1, c1, A2, k2, c2, rfl, h1, h2, h3, h4⟩ := h; obtain ⟨p, q, e1, e2, hg⟩ := Nm.validE_spec h1.2.2.2.1 h2.2.2.2.1 hv; subst e1 e2; exact ⟨p, q, ⟨rfl, rfl, hg⟩, _, _, _, _, _, _, rfl, ⟨h3, h1⟩, ⟨h4, h2⟩⟩
end Go.Proofs.YtijkfagkbfbpmaaGreatDoor
namespace Go.Proofs.YtijkfagkbfbpmaaGreatDoor
open Go.RowKit
theorem Sl.facts {w : World} {g : Nat} (h : Sl w g) : (∃ a, w.cell? ⟨g, 0, none⟩ = some a) ∧ (∃ a, w.cell? ⟨g, 1, none⟩ = some a) ∧ w.frozen? ⟨g, 0, none⟩ = false ∧ w.frozen? ⟨g, 1, none⟩ = false := by
 obtain ⟨r1, r2, r3, r4, r5, r6, hb⟩ := h; exact ⟨⟨_, hb.cell 0⟩, ⟨_, hb.cell 1⟩, hb.frozen 0, hb.frozen 1⟩
end Go.Proofs.YtijkfagkbfbpmaaGreatDoor
namespace Go.Proofs.YtijkfagkbfbpmaaGreatDoor
open Go.RowKit
/-- the limbs of a ratio, whatever they are -/
abbrev LP := List Nat × List Nat
def nilP : LP := ([], [])
def validP (x : LP) : Int := Nm.validE x.1 x.2
end Go.Proofs.YtijkfagkbfbpmaaGreatDoor
namespace Go.Proofs.YtijkfagkbfbpmaaGreatDoor
open Go Go.RowKit
end Go.Proofs.YtijkfagkbfbpmaaGreatDoor
namespace Go.Proofs.YtijkfagkbfbpmaaGreatDoor
open Go Go.RowKit
end Go.Proofs.YtijkfagkbfbpmaaGreatDoor
namespace Go.Proofs.YtijkfagkbfbpmaaGreatDoor
open Go Go.RowKit
/- the encoding of integers, in plain numbers -/
namespace Wi
/-- the number of bytes of a number -/
def nb (m : Nat) : Nat := if h : m = 0 then 0 else nb (m / 256) + 1
termination_by m
decreasing_by omega
/-- big-endian digits -/
def be : Nat → Nat → List Nat
 | 0, _ => []
 | k + 1, m => (m / 256 ^ k % 256) :: be k m
def val (l : List Nat) : Nat := l.foldl (fun a d => a * 256 + d) 0
/-- a digit, turned for negative numbers -/
def fl (neg : Bool) (d : Nat) : Nat := if neg then 255 - d else d
def kOf (h : Nat) : Nat := if h < 128 then 127 - h else h - 128
def dgs (h : Nat) (r : List Nat) : List Nat := (r.take (kOf h)).map (fl (decide (h < 128)))
def numI (h : Nat) (r : List Nat) : Int := if h < 128 then -1 - (val (dgs h r) : Int) else (val (dgs h r) : Int)
def getR (h : Nat) (r : List Nat) : Int × Nat × Int := if h < 119 ∨ 136 < h then (0, 0, 2) else if r.length < kOf h then (0, 0, 3) else if (dgs h r).head? = some 0 ∨ 9223372036854775808 ≤ val (dgs h r) then (0, 0, 2) else (numI h r, kOf h + 1, 0)
/-- what a byte sequence's first integer is: value, length, error -/
def getI : List Nat → Int × Nat × Int
 | [] => (0, 0, 3)
 | h :: r => getR h r
/-- n integers one after the other, from a position on: the integers, the position behind, the error -/
def getN (b : List Nat) : Nat → Nat → List Int → List Int × Nat × Int
 | 0, at_, acc => (acc, at_, 0)
 | n + 1, at_, acc => if (getI (b.drop at_)).2.2 ≠ 0 then ([], 0, (getI (b.drop at_)).2.2) else getN b n (at_ + (getI (b.drop at_)).2.1) (acc ++ [(getI (b.drop at_)).1])
def cntE (b : List Nat) : Int := if (getI b).2.2 ≠ 0 then (getI b).2.2 else if (getI b).1 < 0 then 2 else if ((b.length - (getI b).2.1 : Nat) : Int) < (getI b).1 then 3 else 0
def getIs (b : List Nat) : List Int × Nat × Int := if cntE b ≠ 0 then ([], 0, cntE b) else getN b (getI b).1.toNat (getI b).2.1 []
end Wi
end Go.Proofs.YtijkfagkbfbpmaaGreatDoor
namespace Go.Proofs.YtijkfagkbfbpmaaGreatDoor.Nm
end Go.Proofs.YtijkfagkbfbpmaaGreatDoor.Nm
namespace Go.Proofs.YtijkfagkbfbpmaaGreatDoor
open Go.RowKit
end Go.Proofs.YtijkfagkbfbpmaaGreatDoor
namespace Go.Proofs.YtijkfagkbfbpmaaGreatDoor
open Go.RowKit
end Go.Proofs.YtijkfagkbfbpmaaGreatDoor
namespace Go.Proofs.YtijkfagkbfbpmaaGreatDoor
open Go.RowKit
theorem good_lt {p q : Nat} (g : Nm.Good p q) : p < Nm.B ^ 64 ∧ q < Nm.B ^ 64 := by
 refine ⟨Nm.lb_length_lt.1 g.fits.1, ?_⟩; have h := g.fits.2; unfold Nm.dn at h; by_cases h1 : q = 1
 ·subst h1; exact Nat.one_lt_pow (by omega) (by unfold Nm.B; omega)
 ·rw [if_neg h1] at h; exact Nm.lb_length_lt.1 h
end Go.Proofs.YtijkfagkbfbpmaaGreatDoor
namespace Go.Proofs.YtijkfagkbfbpmaaGreatDoor
open Go Go.RowKit
end Go.Proofs.YtijkfagkbfbpmaaGreatDoor
namespace Go.Proofs.YtijkfagkbfbpmaaGreatDoor
open Go Go.RowKit
end Go.Proofs.YtijkfagkbfbpmaaGreatDoor
namespace Go.Proofs.YtijkfagkbfbpmaaGreatDoor
open Go Go.RowKit
/- A region of calls on ratios whose last value goes to the result's block g. -/
end Go.Proofs.YtijkfagkbfbpmaaGreatDoor
namespace Go.Proofs.YtijkfagkbfbpmaaGreatDoor
open Go Go.RowKit
end Go.Proofs.YtijkfagkbfbpmaaGreatDoor
namespace Go.Proofs.YtijkfagkbfbpmaaGreatDoor
open Go Go.RowKit
end Go.Proofs.YtijkfagkbfbpmaaGreatDoor
namespace Go.Proofs.YtijkfagkbfbpmaaGreatDoor
open Go Go.RowKit
end Go.Proofs.YtijkfagkbfbpmaaGreatDoor
namespace Go.Proofs.YtijkfagkbfbpmaaGreatDoor
open Go Go.RowKit
end Go.Proofs.YtijkfagkbfbpmaaGreatDoor
namespace Go.Proofs.YtijkfagkbfbpmaaGreatDoor
open Go Go.RowKit
theorem Rd.newC (w : World) (T : TypeId) (cs : List Value) : Rd (w.alloc (.cells cs.toArray T)) (some ⟨w.heap.size, 0, none⟩) cs := by
 intro _; refine ⟨_, _, rfl, fun i h => ?_⟩; rw [Nat.zero_add, (Blk.new w T cs.toArray).cell]; simp [h]
end Go.Proofs.YtijkfagkbfbpmaaGreatDoor
