import Derived.Test.YticobffjnjbjiaaKGcProof19
import Derived.Maps.OwnSet
import Derived.Deep.DeepMust
import Derived.Test.YticobffjnjbjiaaJ13
import Derived.Test.YticobffjnjbjiaaKGcProof18
import Derived.Test.YticobffjnjbjiaaKGcProof17
import Derived.Test.YticobffjnjbjiaaJ16
import Derived.Deep.CutRange
import Derived.Deep.QuietTactic
import Derived.Test.YticobffjnjbjiaaJ15
import Derived.BigQuiet
import Derived.Test.YticobffjnjbjiaaS0
set_option linter.unusedVariables false
set_option linter.unusedSimpArgs false
namespace Go.Proofs.Yticobffjnjbjiaa
open Go Go.RowKit Go.Maps Go.WideMaps
/-- a digest -/
structure DG where
 r0 : Value
 r1 : Value
 r2 : Value
 r3 : Value
 r4 : Value
 r5 : Value
 r6 : Value
 r7 : Value
 r8 : Value
 r9 : Value
 r10 : Value
 r11 : Value
 r12 : Value
 r13 : Value
 r14 : Value
 r15 : Value
def cellsDG (d : DG) : List Value := [d.r0, d.r1, d.r2, d.r3, d.r4, d.r5, d.r6, d.r7, d.r8, d.r9, d.r10, d.r11, d.r12, d.r13, d.r14, d.r15]
theorem cellsDG_len (d : DG) : (cellsDG d).length = 16 := rfl
def zeroDG : DG := ⟨.int .u8 0, .int .u8 0, .int .u8 0, .int .u8 0, .int .u8 0, .int .u8 0, .int .u8 0, .int .u8 0, .int .u8 0, .int .u8 0, .int .u8 0, .int .u8 0, .int .u8 0, .int .u8 0, .int .u8 0, .int .u8 0⟩
theorem zeroDG_ok : DgOk (cellsDG zeroDG) (List.replicate 16 0) := ⟨rfl, rfl⟩
def mmOf (tick : Int) (d : DG) (A : Option Addr) (k c : Nat) : MM := ⟨tick, d.r0, d.r1, d.r2, d.r3, d.r4, d.r5, d.r6, d.r7, d.r8, d.r9, d.r10, d.r11, d.r12, d.r13, d.r14, d.r15, A, k, c⟩
theorem infoDG {d : DG} : (Try.prog.info? 51).map (·.size) = some (cellsDG d).length := by kernel_rfl
theorem infoDGs {d : DG} : (Try.prog.info? 51).map (·.size) = some (cellsDG d).toArray.size := by kernel_rfl
theorem lawS : Keyed Try.prog 9 := string_keyed Try.underlying9
theorem zeroD (w : World) : (zeroValue 51).run Try.prog w = .ok (.agg (cellsDG zeroDG).toArray) w := by kernel_rfl
/-- an element is what it is -/
def holdE (v : Value) : Option (DataW Value × List MemPlace) := some (.held v, [])
theorem holdE_inv {v u : Value} {ps : List MemPlace} (h : holdE v = some (.held u, ps)) : v = u := by
 unfold holdE at h; injection h with h; injection h with h _; injection h with h
def kl (s : ByteArray) : Lit := .string s.data.toList
theorem kl_ne {s u : ByteArray} (h : s ≠ u) : kl s ≠ kl u := fun e => h (by
 unfold kl at e; injection e with e
 exact ByteArray.ext (by exact Array.toList_inj.1 e))
theorem kl_key {s : ByteArray} (h : s.size ≤ 9223372036854775807) : keyOf Try.prog 9 (.string s) = some (kl s) := keyOf_string_mk Try.underlying9 (by unfold maxLen; omega)
theorem kl_lit (s : ByteArray) : WideAt.IsKeyLit (kl s) := trivial
def eqS (a b : ByteArray) : Bool := a.data.toList == b.data.toList
theorem eqS_iff {a b : ByteArray} : eqS a b = true ↔ a = b := by
 unfold eqS; rw [beq_iff_eq]; exact ⟨fun h => ByteArray.ext (Array.toList_inj.1 h), fun h => by rw [h]⟩
def memS (s : ByteArray) (l : List ByteArray) : Bool := l.any (eqS s)
theorem memS_iff {s : ByteArray} {l : List ByteArray} : memS s l = true ↔ s ∈ l := by
 unfold memS; rw [List.any_eq_true]; exact ⟨fun ⟨x, hx, h⟩ => by rw [eqS_iff.1 h]; exact hx, fun h => ⟨s, h, eqS_iff.2 rfl⟩⟩
/-- what the map holds after i names -/
def MapD (names : List ByteArray) (ds : List DG) (i : Nat) (D : DataW Value) : Prop :=
 IsMap D ∧ (∀ s, Maps.has D (kl s) = memS s (names.take i)) ∧ (∀ j s d, j < i → names[j]? = some s → ds[j]? = some d → (∀ k, j < k → k < i → names[k]? ≠ some s) → D.atKey (kl s) (.held (.agg (cellsDG zeroDG).toArray)) = .held (.agg (cellsDG d).toArray))
theorem MapD.nil {names : List ByteArray} {ds : List DG} : MapD names ds 0 (.map []) := ⟨isMap_empty, fun s => rfl, fun j s d h => absurd h (Nat.not_lt_zero _)⟩
theorem MapD.next {names : List ByteArray} {ds : List DG} {i : Nat} {D : DataW Value} {s : ByteArray} {d : DG} (h : MapD names ds i D) (hs : names[i]? = some s) (hd : ds[i]? = some d) : MapD names ds (i + 1) (D.put (kl s) (.held (.agg (cellsDG d).toArray))) := by
 obtain ⟨h1, h2, h3⟩ := h; refine ⟨h1.put _ _, fun u => ?_, fun j u e hj hu he hno => ?_⟩
 ·rw [List.take_add_one, hs]; by_cases hus : u = s
  ·subst hus; rw [has_put_same h1 (kl_lit _)]
   symm; rw [memS_iff]; simp
  ·rw [has_put_other (kl_ne hus), h2]; rw [Bool.eq_iff_iff, memS_iff, memS_iff]; simp [hus]
 ·by_cases hus : u = s
  ·subst hus; rw [atKey_put_same h1 (kl_lit _)]
   rcases Nat.lt_or_ge j i with h | h
   ·exact absurd hs (hno i h (by omega))
   ·obtain rfl : j = i := by omega
    rw [hd] at he; injection he with he; rw [he]
  ·rw [atKey_put_other (kl_ne hus)]
   rcases Nat.lt_or_ge j i with h | h
   ·exact h3 j u e h hu he (fun k hk hki => hno k hk (by omega))
   ·obtain rfl : j = i := by omega
    rw [hs] at hu; injection hu with hu; exact absurd hu.symm hus
/-- a name stands twice -/
def twB (names : List ByteArray) (i : Nat) : Bool := match names[i]? with
 | some s => memS s (names.take i)
 | none => false
def twA (names : List ByteArray) : Bool := (List.range names.length).any (twB names)
def eqO : Option ByteArray → ByteArray → Bool
 | some a, b => eqS a b
 | none, _ => false
theorem eqO_iff {a : Option ByteArray} {b : ByteArray} : eqO a b = true ↔ a = some b := by
 cases a with
 | none => simp [eqO]
 | some a => simp [eqO, eqS_iff]
/-- where a name stands -/
def idxN (names : List ByteArray) (s : ByteArray) : Option Nat := (List.range names.length).find? (fun j => eqO (names[j]?) s)
theorem tw_apart {names : List ByteArray} (h : twA names = false) {j k : Nat} {s : ByteArray} (hj : names[j]? = some s) (hk : names[k]? = some s) (hjk : j < k) : False := by
 unfold twA at h; rw [List.any_eq_false] at h; have hl := (List.getElem?_eq_some_iff.1 hk).1; refine h k (List.mem_range.2 hl) ?_; unfold twB; rw [hk]; simp only [memS_iff]; exact List.mem_of_getElem? (i := j) (by rw [List.getElem?_take, if_pos hjk]; exact hj)
theorem idx_some {names : List ByteArray} {s : ByteArray} (h : s ∈ names) : ∃ j, idxN names s = some j ∧ names[j]? = some s := by
 obtain ⟨n, hn⟩ := List.getElem?_of_mem h; unfold idxN
 cases e : (List.range names.length).find? (fun j => eqO (names[j]?) s) with
 | none =>
  rw [List.find?_eq_none] at e; exact absurd (eqO_iff.2 hn) (e n (List.mem_range.2 (List.getElem?_eq_some_iff.1 hn).1))
 | some j => exact ⟨j, rfl, eqO_iff.1 (List.find?_some (p := fun j => eqO (names[j]?) s) e)⟩
theorem idx_none {names : List ByteArray} {s : ByteArray} (h : s ∉ names) : idxN names s = none := by
 unfold idxN; rw [List.find?_eq_none]; intro j _ hj; exact h (List.mem_of_getElem? (eqO_iff.1 hj))
/-- the promise i is active -/
def actB (tick : Int) (br : List Int) (Ev : Nat → Int) (Lf : Nat → List Nat × List Nat) (dg : Nat → List Int) (ps : List PC) (names : List ByteArray) (rd : Nat → List Int) (i : Nat) : Bool := match ps[i]? with
 | some p => (match idxN names p.test with
  | some j => decide (Ev i = 0) && (stF tick (rd j) br Ev Lf dg ps i == 0)
  | none => false)
 | none => false
def AcP (w' : World) (base kt ks : Nat) (tick : Int) (br : List Int) (Ev : Nat → Int) (Lf : Nat → List Nat × List Nat) (dg : Nat → List Int) (ps : List PC) (names : List ByteArray) (rd : Nat → List Int) (v : Value) (er : Int) : Prop :=
 (kt ≠ ks ∧ er = 1 ∧ v = .slice none 0 0) ∨ (kt = ks ∧ twA names = true ∧ er = 7 ∧ v = .slice none 0 0) ∨
 (kt = ks ∧ twA names = false ∧ er = 0 ∧ w'.ownsRow base 3 1 v ((List.range ps.length).filter (actB tick br Ev Lf dg ps names rd)).length (((List.range ps.length).filter (actB tick br Ev Lf dg ps names rd)).flatMap natC))
theorem MapD.get {names : List ByteArray} {ds : List DG} {i : Nat} {D : DataW Value} (h : MapD names ds i D) (hn : ∀ j, j < i → twB names j = false) (hl : names.length = ds.length) (s : ByteArray) :
  ∃ d, D.atKey (kl s) (.held (.agg (cellsDG zeroDG).toArray)) = .held (.agg (cellsDG d).toArray) ∧ ((Maps.has D (kl s) = true ∧ ∃ j, j < i ∧ names[j]? = some s ∧ ds[j]? = some d) ∨ (Maps.has D (kl s) = false ∧ s ∉ names.take i ∧ d = zeroDG)) := by
 by_cases hm : s ∈ names.take i
 ·obtain ⟨j, hj⟩ := List.getElem?_of_mem hm; rw [List.getElem?_take] at hj
  split at hj
  ·rename_i hji
   have hjl := (List.getElem?_eq_some_iff.1 hj).1; have hd : ds[j]? = some (ds[j]'(by omega)) := List.getElem?_eq_getElem (by omega); refine ⟨_, h.2.2 j s _ hji hj hd (fun k hk hki hks => ?_), .inl ⟨by rw [h.2.1]; exact memS_iff.2 hm, j, hji, hj, hd⟩⟩; have := hn k hki; unfold twB at this; rw [hks] at this; simp only at this; have h2 := memS_iff.2 (List.mem_of_getElem? (i := j) (l := names.take k) (by rw [List.getElem?_take, if_pos hk]; exact hj)); rw [this] at h2
   cases h2
  ·cases hj
 ·have hf : Maps.has D (kl s) = false := by
   rw [h.2.1]
   cases e : memS s (names.take i) with
   | true => exact absurd (memS_iff.1 e) hm
   | false => rfl
  exact ⟨zeroDG, atKey_of_not_has hf _, .inr ⟨hf, hm, rfl⟩⟩
theorem own_baseG {w : World} {b b' : Nat} {T : TypeId} {m : Nat} {v : Value} {n : Nat} {xs : List Value} (h : w.ownsRow b T m v n xs) (hb : b' ≤ b) : w.ownsRow b' T m v n xs := by
 refine ⟨h.1, ?_⟩
 rcases h.2 with h | ⟨g, cap, cur, h1, h2, h3⟩
 ·exact .inl h
 ·exact .inr ⟨g, cap, cur, h1, Nat.le_trans hb h2, h3⟩
theorem dg_one {d : DG} {l : List Int} (h : DgOk (cellsDG d) l) : ((cellsDG d).toArray.all (·.oneCell') = true) := all_oneCell_toArray fun v hv => bytes_one h v hv
theorem wpList_lookup_dg (w : World) {ops : Array Oper} {rest : List Oper} {o : Oper} {a : Act} {Q : Exit → Act → World → Prop} (hg : o.guard = none) (m x : Operand) (hop : o.op = Op.lookup 135 m x true) (b n : Nat) (D : DataW Value)
  (hm : a.eval m = .map (some b)) (hown : w.ownsMap Try.prog 9 holdE b n D) (s : ByteArray) (hx : a.eval x = .string s) (hs : s.size ≤ 9223372036854775807) (d : DG) (hd : D.atKey (kl s) (.held (.agg (cellsDG zeroDG).toArray)) = .held (.agg (cellsDG d).toArray)) (hb : Bool) (hh : Maps.has D (kl s) = hb)
  (hK : wpList Try.prog ops Q rest (a.put o.dst (.tuple #[.agg (cellsDG d).toArray, .bool hb])) w) : wpList Try.prog ops Q (o :: rest) a w :=
 wpList_lookup_own_ok w hg m x 135 hop 9 51 lawS Try.underlying135 holdE (zeroD _) (.held (.agg (cellsDG zeroDG).toArray)) [] rfl b n D hm hown _ _ hx (kl_key hs) (fun v ps hv => by
  rw [hd] at hv; rw [holdE_inv hv, hh]
  exact hK)
set_option maxRecDepth 100000 in
set_option maxHeartbeats 8000000 in
theorem pactive_n (Al : Option Addr) (kl_ cl : Nat) (tick : Int) (T : Option Addr) (kt ct : Nat) (S : Option Addr) (ks cs : Nat) (Ab : Option Addr) (kb cb : Nat) (ps : List PC) (names : List ByteArray) (ds : List DG) (br : List Int) (Lf : Nat → List Nat × List Nat) (Ev : Nat → Int) (dg rd : Nat → List Int) (w : World)
  (hp : RowS cellsP w Al kl_ ps) (ht : RowS strC w T kt names) (hs : RowS cellsDG w S ks ds) (hbr : RowS intC w Ab kb br) (hkl : kl_ ≤ 1048576) (hN : Hid (∀ s ∈ names, s.size ≤ 9223372036854775807))
  (HE : Hid (EscOk w ps Lf)) (HV : Hid (∀ (n : Nat) p, ps[n]? = some p → PVal p (Lf n).1 (Lf n).2 (Ev n))) (HD : Hid (∀ (n : Nat) p, ps[n]? = some p → DgOk (pdg p) (dg n))) (HR : Hid (∀ (j : Nat) d, ds[j]? = some d → DgOk (cellsDG d) (rd j))) :
  Calls Try.prog 46 #[.slice Al kl_ cl, .int .i64 tick, .slice T kt ct, .slice S ks cs, .slice Ab kb cb] w fun e w' => ∃ (v : Value) (er : Int), e = .returned (.tuple #[v, .int .i64 er]) ∧ Hid (AcP w' w.heap.size kt ks tick br Ev Lf dg ps names rd v er) ∧ Below w.heap.size w w' := by
 by_cases hks : kt = ks
 ·subst hks; have hkt := ht.2.1; have hkt2 := ht.2.2; have hds := hs.2.1; have HLL : Hid (names.length = ds.length ∧ kt = names.length ∧ kl_ = ps.length) := ⟨by omega, hkt, hp.2.1⟩; clear hkt hds; have hmm := @run_makeMap Try.prog; have hown0 := World.ownsMap_made w Try.prog 9 holdE; have hb0 := bA w (.map #[] 0); obtain ⟨i0, hi0, hz0, hz1, hz2⟩ := info_parts info_int
  go_enter Try.func46, Try.ntmps46
  go_wp2_with fail
  go_loopg [32] kt (fun m x wr => ∃ (i : Nat) (D : DataW Value), x = .int .i64 i ∧ i + m = kt ∧ wr.ownsMap Try.prog 9 holdE w.heap.size i D ∧ Hid (MapD names ds i D) ∧ Hid (∀ j, j < i → twB names j = false) ∧ w.heap.size < wr.heap.size ∧ Below w.heap.size w wr)
  case atStart => exact ⟨0, _, rfl, by omega, hown0, MapD.nil, fun j h => absurd h (Nat.not_lt_zero _), by simp, hb0⟩
  case round =>
   obtain ⟨G, hG⟩ : ∃ G, G = gk := ⟨gk, rfl⟩; subst hG; obtain ⟨i, D, rfl, him, hown, HM, HT, hlt, hbe⟩ := hrel; clear hmm hown0 hb0; by_cases hi : i < kt
   ·have t1 : decide ((i : Int) < (kt : Int)) = true := by simp; omega
    have li : (i : Int) < (kt : Int) := by omega
    obtain ⟨b, off, s, rfl, hc, HS⟩ := (ht.below hbe).str hi; have hil : i < ds.length := by have := HLL.out; omega
    obtain ⟨di, HDI⟩ : ∃ d, Hid (ds[i] = d ∧ ds[i]? = some d) := ⟨_, rfl, List.getElem?_eq_getElem hil⟩; have hsz := hN.out s (List.mem_of_getElem? HS.out); obtain ⟨dx, hdx, hcase⟩ := HM.out.get HT.out HLL.out.1 s; obtain ⟨hb, hhb⟩ : ∃ hb, hb = Maps.has D (kl s) := ⟨_, rfl⟩; have HHB := Lib.hid hhb
    have HOX : Hid ((cellsDG dx).toArray.all (·.oneCell') = true) := by
     rcases hcase with ⟨_, j, _, _, h3⟩ | ⟨_, _, h3⟩
     ·exact dg_one (HR.out j _ h3)
     ·rw [h3]; exact dg_one zeroDG_ok
    have HCA := Lib.hid hcase; have HDX := Lib.hid hdx; clear hcase hhb hdx
    go_upto_region 8 with (first | (at_lookup; go_must (refine wpList_lookup_dg _ rfl _ _ rfl w.heap.size i D rfl hown s rfl hsz dx HDX.out hb HHB.out.symm ?_; simp only [Act.put, sA, sB, sC])) | (refine wpList_store_mid rfl 51 (.tmp 15) (.tmp 41) rfl wr.heap.size 0 (cellsDG dx).toArray rfl rfl (there_new _ _ _ 16 (by simp)) infoDGs HOX.out ?_; rw [setCells_new]; rotate_left; rfl))
    refine wp_name ?_; intro v8 HV8; have hbv : Below wr.heap.size wr v8 := by rw [HV8.out]; exact bA _ _
    have hown8 : v8.ownsMap Try.prog 9 holdE w.heap.size i D := by rw [HV8.out]; exact hown.alloc _
    have hbe8 := Below.tr hbe hbv; have hlt8 : w.heap.size < v8.heap.size := Nat.lt_of_lt_of_le hlt hbv.size; clear HV8 hown hc HDX; generalize wr.heap.size = g15 at hlt hbv
    cases hb
    ·have HT2 : Hid (∀ j, j < i + 1 → twB names j = false) := fun j hj => by
      rcases Nat.lt_or_ge j i with h | h
      ·exact HT.out j h
      ·obtain rfl : j = i := by omega
       unfold twB; rw [HS.out]
       show memS s _ = false
       rw [← HM.out.2.1, ← HHB.out]
     obtain ⟨b2, off2, rfl, HC2⟩ := (hs.below hbe8).at_ cellsDG_len (by omega) hi hil; rw [HDI.out.1] at HC2; have HM2 := Lib.hid (HM.out.next HS.out HDI.out.2); clear HCA HOX HHB HM HT
     go_upto_region 11 with (first | (refine wpList_load_mid rfl 51 (.tmp 48) rfl b2 (off2 + i * 16) rfl (cellsDG di) _ (fun j v h => HC2.out j v h) Try.underlying51 rfl infoDG ?_; simp only [Act.put, sA, sB, sC]) | (at_mapUpdate; go_must (refine wpList_mapUpdate_own _ rfl _ _ _ 135 rfl 9 51 lawS Try.underlying135 holdE w.heap.size i D rfl hown8 (by unfold maxLen; omega) _ _ _ rfl rfl (kl_key hsz) _ [] rfl ?_; intro v11 hown11 hg11)))
     have hbe11 : Below w.heap.size w v11 := hbe8.grown hg11 hbe8.size (fun j hj => by cases hj; exact Nat.le_refl _); have hlt11 : w.heap.size < v11.heap.size := Nat.lt_of_lt_of_le hlt8 hg11.size; clear hg11 hown8 HC2; go_wp2_with fail
     go_roundg (G - 1)
     case measure => omega
     case rel => exact ⟨i + 1, _, by go_num, by omega, hown11, HM2, HT2, hlt11, hbe11⟩
    ·have HTW : Hid (twA names = true) := by
      show _ = _
      unfold twA; rw [List.any_eq_true]; refine ⟨i, List.mem_range.2 (by have := HLL.out; omega), ?_⟩; unfold twB; rw [HS.out]
      show memS s _ = true
      rw [← HM.out.2.1, ← HHB.out]
     clear HCA HOX HHB HM HT; go_wp2_with fail
     go_ret2
     exact ⟨_, 7, rfl, .inr (.inl ⟨rfl, HTW.out, rfl, rfl⟩), hbe8⟩
   ·have t1 : decide ((i : Int) < (kt : Int)) = false := by simp; omega
    have li : ¬ ((i : Int) < (kt : Int)) := by omega
    have hik : i = kt := by omega
    have HTF : Hid (twA names = false) := by
     show _ = _
     unfold twA; rw [List.any_eq_false]; intro j hj; rw [HT.out j (by have := List.mem_range.1 hj; have := HLL.out; omega)]; simp
    obtain ⟨x1, hx1⟩ : ∃ x, x = wr := ⟨_, rfl⟩; subst hx1; go_wp2_with fail
    go_loopg [17, 53] kl_ (fun m x y wr => ∃ q : Nat, y = .int .i64 q ∧ q + m = kl_ ∧ wr.ownsRow x1.heap.size 3 1 x ((List.range q).filter (actB tick br Ev Lf dg ps names rd)).length (((List.range q).filter (actB tick br Ev Lf dg ps names rd)).flatMap natC) ∧ wr.ownsMap Try.prog 9 holdE w.heap.size i D ∧ Below x1.heap.size x1 wr)
    case atStart => exact ⟨0, rfl, by omega, World.ownsRow_nil _ _ _ _, hown, Below.refl _ _⟩
    case round =>
     obtain ⟨G2, hG2⟩ : ∃ G, G = gk := ⟨gk, rfl⟩; subst hG2; obtain ⟨i2, rfl, him2, hrow, hmap, hbe2⟩ := hrel; have hbw := Below.tr hbe hbe2; obtain ⟨Ax, cx, rfl⟩ := own_shp hrow; by_cases hi2 : i2 < kl_
     ·have t2 : decide ((i2 : Int) < (kl_ : Int)) = true := by simp; omega
      have li2 : (i2 : Int) < (kl_ : Int) := by omega
      have hil : i2 < ps.length := by have := HLL.out; omega
      obtain ⟨p, HP⟩ : ∃ p, Hid (ps[i2] = p ∧ ps[i2]? = some p) := ⟨_, rfl, List.getElem?_eq_getElem hil⟩; obtain ⟨b, off, rfl, HC⟩ := (hp.below hbw).at_ cellsP_len (by omega) hi2 hil; rw [HP.out.1] at HC; have HEi := Lib.hid (HE.out i2 p HP.out.2); have hdpi := HD.out i2 p HP.out.2; have HONP := Lib.hid (pp_one hdpi HEi.out.1); have hsz := HEi.out.2.1; obtain ⟨dx, hdx, hcase⟩ := HM.out.get HT.out HLL.out.1 p.test; obtain ⟨hb, hhb⟩ : ∃ hb, hb = Maps.has D (kl p.test) := ⟨_, rfl⟩; have HHB := Lib.hid hhb
      obtain ⟨dm, HDM⟩ : ∃ dm, Hid (DgOk (cellsDG dx) dm ∧ (hb = true → ∃ j, idxN names p.test = some j ∧ rd j = dm) ∧ (hb = false → idxN names p.test = none)) := by
       rcases hcase with ⟨h1, j, h2, h3, h4⟩ | ⟨h1, h2, h3⟩
       ·refine ⟨rd j, HR.out j _ h4, fun _ => ?_, fun h => by rw [hhb, h1] at h; cases h⟩; obtain ⟨j', e1, e2⟩ := idx_some (List.mem_of_getElem? h3); refine ⟨j', e1, ?_⟩
        have : j' = j := by
         rcases Nat.lt_trichotomy j' j with h | h | h
         ·exact (tw_apart HTF.out e2 h3 h).elim
         ·exact h
         ·exact (tw_apart HTF.out h3 e2 h).elim
        rw [this]
       ·refine ⟨_, by rw [h3]; exact zeroDG_ok, fun h => (by rw [hhb, h1] at h; cases h), fun _ => idx_none ?_⟩
        rwa [List.take_of_length_le (by have := HLL.out; omega)] at h2
      have HOX := Lib.hid (dg_one HDM.out.1); have HDX := Lib.hid hdx; clear hcase hhb hdx
      go_upto_region 16 with (first | (refine wpList_load_mid rfl 53 (.tmp 56) rfl b (off + i2 * 24) rfl (cellsP p) _ (fun j v h => HC.out j v h) Try.underlying53 rfl infoP ?_; simp only [Act.put, sA, sB, sC]) | (refine wpList_store_mid rfl 53 (.tmp 19) (.tmp 57) rfl wr.heap.size 0 (cellsP p).toArray rfl rfl (there_new _ _ _ 24 (by simp)) infoPs HONP.out ?_; rw [setCells_new]; rotate_left; rfl))
      refine wp_name ?_; intro v16 HV16; have hbv : Below wr.heap.size wr v16 := by rw [HV16.out]; exact bA _ _
      have B19 : Blk v16 wr.heap.size 53 (cellsP p).toArray := by rw [HV16.out]; exact Blk.new _ _ _
      have hmap16 : v16.ownsMap Try.prog 9 holdE w.heap.size i D := by rw [HV16.out]; exact hmap.alloc _
      have hrow16 := own_below hrow hbv; have hbe16 := Below.tr hbe2 hbv; have q1 := B19.cell 1; simp only [cellsP, List.getElem?_toArray, List.getElem?_cons_zero, List.getElem?_cons_succ] at q1; generalize wr.heap.size = g19 at B19 q1; clear HV16 hbv hmap hrow HC HONP hbw hbe2 B19
      go_upto_region 17 with (first | (at_lookup; go_must (refine wpList_lookup_dg _ rfl _ _ rfl w.heap.size i D rfl hmap16 p.test rfl hsz dx HDX.out hb HHB.out.symm ?_; simp only [Act.put, sA, sB, sC])) | (refine wpList_store_mid rfl 51 (.tmp 20) (.tmp 63) rfl v16.heap.size 0 (cellsDG dx).toArray rfl rfl (there_new _ _ _ 16 (by simp)) infoDGs HOX.out ?_; rw [setCells_new]; rotate_left; rfl))
      refine wp_name ?_; intro v17 HV17; have hbv : Below v16.heap.size v16 v17 := by rw [HV17.out]; exact bA _ _
      have B20 : Blk v17 v16.heap.size 51 (cellsDG dx).toArray := by rw [HV17.out]; exact Blk.new _ _ _
      have hmap17 : v17.ownsMap Try.prog 9 holdE w.heap.size i D := by rw [HV17.out]; exact hmap16.alloc _
      have hrow17 := own_below hrow16 hbv; have hbe17 := Below.tr hbe16 hbv; have hbw17 := Below.tr hbe hbe17; generalize v16.heap.size = g20 at B20; clear HV17 hbv hmap16 hrow16 hbe16 q1 HOX HDX
      go_wp2_with (first | (refine wpList_load_mid rfl 51 (.tmp 20) rfl g20 0 rfl (cellsDG dx) _ (blk_range B20) Try.underlying51 rfl infoDG ?_; simp only [Act.put, sA, sB, sC]))
      refine (state_n (some ⟨b, off, none⟩) kl_ cl (i2 : Int) (mmOf tick dx Ab kb cb) ps Lf Ev dg dm br _ (hp.below hbw17) (HE.out.below hbw17) HV HD HDM.out.1 (hbr.below hbw17)).mono ?_; rintro e w18 ⟨s, er, rfl, HS, hb18⟩; have hmap18 := hmap17.kept (row := none) (only_below hb18 none) (by simp); have hrow18 := own_below hrow17 hb18; have hbe18 := Below.tr hbe17 hb18
      have HF : Hid ((Ev i2 ≠ 0 ∧ er ≠ 0) ∨ (Ev i2 = 0 ∧ er = 0 ∧ s = stF tick dm br Ev Lf dg ps i2)) := by
       rcases HS.out with ⟨h, _⟩ | ⟨n, h1, h2, h3⟩
       ·exfalso; rcases h with h | h <;> omega
       ·obtain rfl : i2 = n := by omega
        rcases h3 with ⟨h4, h5, h6⟩ | ⟨h4, h5, h6⟩
        ·exact .inl ⟨h4, by rw [h6]; exact h4⟩
        ·exact .inr ⟨h4, h5, h6⟩
      have HSK0 : actB tick br Ev Lf dg ps names rd i2 = false → Hid (w18.ownsRow x1.heap.size 3 1 (.slice Ax ((List.range i2).filter (actB tick br Ev Lf dg ps names rd)).length cx) ((List.range (i2 + 1)).filter (actB tick br Ev Lf dg ps names rd)).length (((List.range (i2 + 1)).filter (actB tick br Ev Lf dg ps names rd)).flatMap natC)) := fun h => by
       show World.ownsRow _ _ _ _ _ _ _
       rw [List.range_succ, List.filter_append, List.filter_cons_of_neg (by rw [h]; simp), List.filter_nil, List.append_nil]; exact hrow18
      have HSKH := Lib.hid HSK0; clear HSK0 HS B20 hmap17 hrow17 hbe17 hb18 hbw17
      cases hb
      ·have HSK := HSKH.out (by unfold actB; rw [HP.out.2]; simp only; rw [HDM.out.2.2 rfl]); clear HF; go_wp2_with fail
       go_roundg (G2 - 1)
       case measure => omega
       case rel => exact ⟨i2 + 1, by go_num, by omega, HSK.out, hmap18, hbe18⟩
      ·obtain ⟨j, HJ⟩ : ∃ j, Hid (idxN names p.test = some j ∧ rd j = dm) := HDM.out.2.1 rfl; by_cases hev : Ev i2 = 0
       ·have HE0 : Hid (er = 0 ∧ s = stF tick dm br Ev Lf dg ps i2) := by
         rcases HF.out with h | h
         ·exact absurd hev h.1
         ·exact h.2
        obtain rfl : er = 0 := HE0.out.1; have HEV := Lib.hid hev; clear hev HF; by_cases hs0 : s = 0
        ·have hs1 : (s == 0) = true := by simpa using hs0
         have HYES : Hid (((List.range (i2 + 1)).filter (actB tick br Ev Lf dg ps names rd)) = ((List.range i2).filter (actB tick br Ev Lf dg ps names rd)) ++ [i2]) := by
          show _ = _
          rw [List.range_succ, List.filter_append, List.filter_cons_of_pos, List.filter_nil]; unfold actB; rw [HP.out.2]; simp only; rw [HJ.out.1]; simp only; rw [HEV.out, HJ.out.2, ← HE0.out.2, hs0]; rfl
         obtain ⟨X, HX⟩ : ∃ X, Hid (X = ((List.range i2).filter (actB tick br Ev Lf dg ps names rd))) := ⟨_, rfl⟩; rw [← HX.out] at hrow18 HYES
         have hXl : X.length ≤ 1048576 := by
          rw [HX.out]; refine Nat.le_trans (List.length_filter_le _ _) ?_; rw [List.length_range]; omega
         have hax := bA w18 (.cells #[.int .i64 (i2 : Int)] 3); have hrow19 := own_below hrow18 hax; have hrd : Rd (w18.alloc (.cells #[.int .i64 (i2 : Int)] 3)) (some ⟨w18.heap.size, 0, none⟩) (natC i2) := Rd.fresh w18 3 (natC i2); have hbe19 := Below.tr hbe18 hax; have hmap19 := hmap18.alloc (.cells #[.int .i64 (i2 : Int)] 3); have hsz19 := hbe19.size; simp only [← HX.out]; clear hs0 HSKH hrow18 hmap18 hbe18 hax HE0 HEV HJ HX
         go_wp2_with (at_builtin; go_loud (refine wpList_append_any _ rfl (.tmp 83) (.tmp 85) _ rfl x1.heap.size 3 i0 _ 1 8 Try.underlying35 hi0 hz0 hz1 hz2 rfl (by omega) _ X.length _ rfl hrow19 _ 1 1 (natC i2) rfl rfl hrd (by simp [natC, Value.oneCell']) (by simp only [maxLen]; omega) (by omega) hsz19 ?_); intro v4 w4 hown4 hg4 hat4)
         have hbe20 : Below x1.heap.size x1 w4 := hbe19.grown hg4 hsz19 (own_block_ge hrow19); have hmap20 := hmap19.kept hg4 (fun e => by have := own_block_ge hrow19 _ e.symm; omega)
         have HROW : Hid (w4.ownsRow x1.heap.size 3 1 v4 ((List.range (i2 + 1)).filter (actB tick br Ev Lf dg ps names rd)).length (((List.range (i2 + 1)).filter (actB tick br Ev Lf dg ps names rd)).flatMap natC)) := by
          show World.ownsRow _ _ _ _ _ _ _
          rw [HYES.out, List.flatMap_append, List.length_append]
          simpa using hown4
         clear hown4 hg4 hat4 hrow19 hmap19 hbe19 hrd; go_wp2_with fail
         go_roundg (G2 - 1)
         case measure => omega
         case rel => exact ⟨i2 + 1, by go_num, by omega, HROW.out, hmap20, hbe20⟩
        ·have hs1 : (s == 0) = false := by simpa using hs0
         have HSK := HSKH.out (by unfold actB; rw [HP.out.2]; simp only; rw [HJ.out.1]; simp only; rw [HJ.out.2, ← HE0.out.2, hs1]; simp); clear hs0; go_wp2_with fail
         go_roundg (G2 - 1)
         case measure => omega
         case rel => exact ⟨i2 + 1, by go_num, by omega, HSK.out, hmap18, hbe18⟩
       ·have her : (er == 0) = false := by
         rcases HF.out with h | h
         ·simpa using h.2
         ·exact absurd h.1 hev
        have HSK := HSKH.out (by unfold actB; rw [HP.out.2]; simp only; rw [HJ.out.1]; simp [hev]); clear hev HF; go_wp2_with fail
        go_roundg (G2 - 1)
        case measure => omega
        case rel => exact ⟨i2 + 1, by go_num, by omega, HSK.out, hmap18, hbe18⟩
     ·have t2 : decide ((i2 : Int) < (kl_ : Int)) = false := by simp; omega
      have li2 : ¬ ((i2 : Int) < (kl_ : Int)) := by omega
      obtain rfl : i2 = kl_ := by omega
      have HROW : Hid (wr.ownsRow w.heap.size 3 1 (.slice Ax ((List.range i2).filter (actB tick br Ev Lf dg ps names rd)).length cx) ((List.range ps.length).filter (actB tick br Ev Lf dg ps names rd)).length (((List.range ps.length).filter (actB tick br Ev Lf dg ps names rd)).flatMap natC)) := by
       show World.ownsRow _ _ _ _ _ _ _
       rw [← HLL.out.2.2]; exact own_baseG hrow hbe.size
      clear hrow; go_wp2_with fail
      go_ret2
      exact ⟨_, 0, rfl, .inr (.inr ⟨rfl, HTF.out, rfl, HROW.out⟩), hbw⟩
 ·have hne : ((kt : Int) != (ks : Int)) = true := by simp; omega
  go_enter Try.func46, Try.ntmps46
  go_wp2_with fail
  go_ret2
  exact ⟨_, 1, rfl, .inl ⟨hks, rfl, rfl⟩, Below.refl _ _⟩
end Go.Proofs.Yticobffjnjbjiaa
namespace Go.Proofs.Yticobffjnjbjiaa
open Go.RowKit
theorem items_len (l l' : List Nat) (ps : List PC) (xs : List (ByteArray × RC0)) : (itemsL l ps xs).length = (itemsL l' ps xs).length := by
 simp [itemsL]
theorem pas_sto_len (l : List Nat) (ps : List PC) (xs : List (ByteArray × RC0)) : (pasL l ps xs).length + (stoL l ps xs).length = (itemsL l ps xs).length := by
 unfold pasL stoL; generalize itemsL l ps xs = its
 induction its with
 | nil => rfl
 | cons x its ih =>
  by_cases h : 0 ≤ x.p
  ·rw [List.filter_cons_of_pos (by simpa using h), List.filter_cons_of_neg (by simpa using h)]; simp only [List.length_cons]; omega
  ·rw [List.filter_cons_of_neg (by simpa using h), List.filter_cons_of_pos (by simp; omega)]; simp only [List.length_cons]; omega
theorem ofN_nil (ps : List PC) (name : ByteArray) (r : RC0) : ofN [] ps name r = -1 := rfl
theorem pas_nil (ps : List PC) (xs : List (ByteArray × RC0)) : pasL [] ps xs = [] := by
 unfold pasL itemsL; rw [List.filter_eq_nil_iff]; intro it h; obtain ⟨x, _, rfl⟩ := List.mem_map.1 h; simp [ofN_nil]
theorem ofN_sub {lf la : List Nat} (h : ∀ n ∈ lf, n ∈ la) {ps : List PC} {name : ByteArray} {r : RC0} (h0 : 0 ≤ ofN lf ps name r) : 0 ≤ ofN la ps name r := by
 unfold ofN at h0 ⊢
 cases hf : lf.find? (covAt ps name r) with
 | none => rw [hf] at h0; simp at h0
 | some n =>
  have h1 := List.find?_some hf; have h2 := h n (List.mem_of_find?_eq_some hf)
  cases ha : la.find? (covAt ps name r) with
  | none => exact absurd h1 (by simpa using List.find?_eq_none.1 ha n h2)
  | some m => simp
def keyI (it : IT) : ByteArray × RC0 := (it.test, it.r)
theorem pas_keys (l : List Nat) (ps : List PC) (xs : List (ByteArray × RC0)) : (pasL l ps xs).map keyI = (xs.filter fun x => x.2.oc != 0).filter fun x => decide (0 ≤ ofN l ps x.1 x.2) := by
 unfold pasL itemsL; generalize (xs.filter fun x => x.2.oc != 0) = ys
 induction ys with
 | nil => rfl
 | cons y ys ih =>
  rw [List.map_cons]; by_cases h : 0 ≤ ofN l ps y.1 y.2
  ·rw [List.filter_cons_of_pos (by simpa using h), List.filter_cons_of_pos (by simpa using h), List.map_cons, ih]; rfl
  ·rw [List.filter_cons_of_neg (by simpa using h), List.filter_cons_of_neg (by simpa using h), ih]
theorem filter_sub {α : Type} {p q : α → Bool} (h : ∀ x, p x = true → q x = true) : ∀ l : List α, (l.filter p).Sublist (l.filter q)
 | [] => List.Sublist.slnil
 | x :: l => by
  by_cases hp : p x = true
  ·rw [List.filter_cons_of_pos hp, List.filter_cons_of_pos (h x hp)]; exact (filter_sub h l).cons_cons x
  ·rw [List.filter_cons_of_neg hp]; by_cases hq : q x = true
   ·rw [List.filter_cons_of_pos hq]; exact (filter_sub h l).cons x
   ·rw [List.filter_cons_of_neg hq]; exact filter_sub h l
theorem pas_sub {lf la : List Nat} (h : ∀ n ∈ lf, n ∈ la) (ps : List PC) (xs : List (ByteArray × RC0)) : ((pasL lf ps xs).map keyI).Sublist ((pasL la ps xs).map keyI) := by
 rw [pas_keys, pas_keys]; exact filter_sub (fun x hx => by simp at hx ⊢; exact ofN_sub h hx) _
/-- greedy: the head is not this one -/
theorem sub_skip {α : Type} {X Y : List α} {i j : Nat} {x y : α} (h : (Y.drop i).Sublist (X.drop j)) (hy : Y[i]? = some y) (hx : X[j]? = some x) (hne : x ≠ y) : (Y.drop i).Sublist (X.drop (j + 1)) := by
 obtain ⟨h1, h2⟩ := List.getElem?_eq_some_iff.1 hy; obtain ⟨h3, h4⟩ := List.getElem?_eq_some_iff.1 hx; rw [List.drop_eq_getElem_cons h1, List.drop_eq_getElem_cons h3, h2, h4] at h; rw [List.drop_eq_getElem_cons h1, h2]
 cases h with
 | cons _ h => exact h
 | cons_cons _ h => exact absurd rfl hne
theorem sub_next {α : Type} {X Y : List α} {i j : Nat} {x : α} (h : (Y.drop i).Sublist (X.drop j)) (hy : Y[i]? = some x) (hx : X[j]? = some x) : (Y.drop (i + 1)).Sublist (X.drop (j + 1)) := by
 obtain ⟨h1, h2⟩ := List.getElem?_eq_some_iff.1 hy; obtain ⟨h3, h4⟩ := List.getElem?_eq_some_iff.1 hx; rw [List.drop_eq_getElem_cons h1, List.drop_eq_getElem_cons h3, h2, h4] at h; exact List.cons_sublist_cons.1 h
theorem sub_end {α : Type} {X Y : List α} {i j : Nat} (h : (Y.drop i).Sublist (X.drop j)) (hi : i < Y.length) : j < X.length := by
 have := h.length_le; simp at this; omega
end Go.Proofs.Yticobffjnjbjiaa
namespace Go.Proofs.Yticobffjnjbjiaa
open Go Go.RowKit
theorem items_le (l : List Nat) (ps : List PC) (xs : List (ByteArray × RC0)) : (itemsL l ps xs).length ≤ xs.length := by
 unfold itemsL; rw [List.length_map]; exact List.length_filter_le _ _
theorem pas_le (l : List Nat) (ps : List PC) (xs : List (ByteArray × RC0)) : (pasL l ps xs).length ≤ xs.length := Nat.le_trans (List.length_filter_le _ _) (items_le l ps xs)
theorem sto_le (l : List Nat) (ps : List PC) (xs : List (ByteArray × RC0)) : (stoL l ps xs).length ≤ xs.length := Nat.le_trans (List.length_filter_le _ _) (items_le l ps xs)
theorem ResOk.ty {r : RC0} (h : ResOk r) : RcTy r := by
 obtain ⟨oc, a, st, c, rfl, _⟩ := h; exact ⟨c, 0, 0, 0, 0, 0, 0, 0, 0, 0, 0, 0, 0, 0, 0, 0, 0, 0, 0, rfl⟩
end Go.Proofs.Yticobffjnjbjiaa
namespace Go.Proofs.Yticobffjnjbjiaa
open Go Go.RowKit
theorem nats_back (l : List Nat) : (l.map fun n : Nat => (n : Int)).map Int.toNat = l := by
 rw [List.map_map]
 conv => rhs; rw [← List.map_id l]
 apply List.map_congr_left
 intro n _; simp
theorem fit_zero {kp : Nat} {l : List Nat} {t : Nat} {rs : List RC0} (H : ∀ n ∈ l, n < kp) (HR : ∀ r ∈ rs, ResOk r) : fitE kp (l.map fun n : Nat => (n : Int)) t t rs = 0 := by
 unfold fitE
 have h1 : (l.map fun n : Nat => (n : Int)).any (outB kp) = false := by
  rw [List.any_eq_false]; intro x hx; obtain ⟨n, hn, rfl⟩ := List.mem_map.1 hx; have := H n hn; simp [outB]; omega
 have h2 : rs.any oddO = false := by
  rw [List.any_eq_false]; intro r hr; obtain ⟨oc, a, st, c, rfl, h1, h2, _⟩ := HR r hr; have h : oddO (rcC oc a st c) = false := by unfold oddO; exact decide_eq_false (by show ¬ (oc < 0 ∨ 4 < oc); omega)
  rw [h]; decide
 rw [h1, h2]; simp
theorem pas_okz {l : List Nat} {ps : List PC} {names : List ByteArray} {rs : List RC0} (h : ∀ r ∈ rs, ResOk r) : ∀ it ∈ pasL l ps (names.zip rs), ResOk it.r := by
 intro it hit; obtain ⟨h1, _⟩ := List.mem_filter.1 hit; obtain ⟨x, h2, rfl⟩ := List.mem_map.1 h1; have h3 := (List.mem_filter.1 h2).1; exact h _ (List.of_mem_zip (a := x.1) (b := x.2) h3).2
open Classical in
theorem neq_res (w : World) (r s : RC0) (hr : RcTy r) (hs : RcTy s) {b : Bool} (hb : b = true ↔ r = s) : (binOp .neq 64 (.agg (cellsR r).toArray) (.agg (cellsR s).toArray)).run Try.prog w = .ok (.bool (!b)) w := by
 rw [run_neq_struct, show (10000 : Nat) = 9997 + 3 from rfl, res_equal w 9997 r s hr hs, show decide (r = s) = b by rw [Bool.eq_iff_iff, decide_eq_true_iff]; exact hb.symm]; rfl
theorem quiet_neqR (a : Act) (C : World → Prop) (w : World) (x y : Operand) (r s : RC0) (hr : RcTy r) (hs : RcTy s) {b : Bool} (hb : b = true ↔ r = s) (hx : a.eval x = (.agg (cellsR r).toArray)) (hy : a.eval y = .agg (cellsR s).toArray) (o : Oper) (ho : o.op = .binOp .neq 64 x y 64) : o.quietAt Try.prog a C w (.bool (!b)) := by
 have h := neq_res w r s hr hs hb; unfold Oper.quietAt execOp; rw [ho]; simp only [hx, hy, Sem.run_bind, run_eqGuard_agg (P := Try.prog) w .neq 64 x y (cellsR r).toArray (cellsR s).toArray (by kernel_rfl), h, Result.andThen_ok, Sem.run_pure]; exact ⟨rfl, rfl⟩
theorem dec_pas {w : World} {base : Nat} {l : List Nat} {ps : List PC} {xs : List (ByteArray × RC0)} {vp : Value} {np : Nat} (hx : xs.length ≤ 8) (h : w.ownsRow base 66 24 vp np ((pasL ((l.map fun n : Nat => (n : Int)).map Int.toNat) ps (if (0 : Int) = 0 then xs else [])).flatMap cellsI)) :
  ∃ A c, vp = .slice A np c ∧ RowS cellsI w A np (pasL l ps xs) := by
 rw [if_pos rfl, nats_back] at h; have h1 := h.1; rw [flat_len cellsI_len] at h1; have h2 := pas_le l ps xs; exact own_rowS cellsI_len (by omega) (by omega) h
theorem dec_sto {w : World} {base : Nat} {l : List Nat} {ps : List PC} {xs : List (ByteArray × RC0)} {vp : Value} {np : Nat} (hx : xs.length ≤ 8) (h : w.ownsRow base 66 24 vp np ((stoL ((l.map fun n : Nat => (n : Int)).map Int.toNat) ps (if (0 : Int) = 0 then xs else [])).flatMap cellsI)) :
  ∃ A c, vp = .slice A np c ∧ RowS cellsI w A np (stoL l ps xs) := by
 rw [if_pos rfl, nats_back] at h; have h1 := h.1; rw [flat_len cellsI_len] at h1; have h2 := sto_le l ps xs; exact own_rowS cellsI_len (by omega) (by omega) h
set_option maxRecDepth 100000 in
set_option maxHeartbeats 2000000 in
theorem gate_fewer_n (A1 A2 A3 : Option Addr) (k1 c1 k2 c2 k3 c3 : Nat) (l1 l2 l3 : List Int) (bits : Int) (w : World) (h1 : RowL intC w A1 k1 l1) (h2 : RowL intC w A2 k2 l2) (h3 : RowL intC w A3 k3 l3)
  (H1 : Hid (∀ x ∈ l1, -9223372036854775808 ≤ x ∧ x ≤ 9223372036854775807)) (H2 : Hid (∀ x ∈ l2, -9223372036854775808 ≤ x ∧ x ≤ 9223372036854775807)) (H3 : Hid (∀ x ∈ l3, -9223372036854775808 ≤ x ∧ x ≤ 9223372036854775807)) (hb1 : -9223372036854775808 ≤ bits) (hb2 : bits ≤ 9223372036854775807) :
  Calls Try.prog 5 #[.slice A1 k1 c1, .slice A2 k2 c2, .slice A3 k3 c3, .int .i64 bits] w fun e w' => e = .returned (.bool true) ∧ Below w.heap.size w w' := by
 obtain ⟨i0, hi0, hz0, hz1, hz2⟩ := info_parts info_int
 go_enter Try.func5, Try.ntmps5
 go_wp2_with fail; refine (made_n A1 k1 c1 l1 _ h1 H1).mono ?_; rintro e w1 ⟨Ap, kp, cp, ps, bd, rfl, _, _, hps, hkp, hok, hb1⟩; go_wp2_with fail; refine (active_n Ap kp cp A2 k2 c2 l2 _ (by omega) (h2.below hb1) H2).mono ?_; rintro e w2 ⟨la, Aa, ka, ca, rfl, _, hla, hka, HIN, hb2⟩; go_wp2_with fail
 have HPO : Hid (∀ p ∈ ps, PromOk p) := fun p hp => by
  obtain ⟨n, hn⟩ := List.getElem?_of_mem hp; exact (hok n p hn).1
 refine (tests_n Ap kp cp ps A3 k3 c3 l3 _ (hps.below hb2) HPO (by omega) (h3.below (Below.tr hb1 hb2)) H3).mono ?_; rintro e w3 ⟨names, rs, kn, An, cn, Ar, cr, rfl, hon, hor, hkn, HRS, HNS, hb3⟩; obtain ⟨An', cn', en, hnm⟩ := own_rowS strC_len (by omega) (by omega) hon; injection en with e1 e2 e3; subst e1 e3; obtain ⟨Ar', cr', er, hrs⟩ := own_rowS cellsR_len (by omega) (by omega) hor; injection er with e1 e2 e3; subst e1 e3; have hps := hps.below (Below.tr hb2 hb3); have hla := hla.below hb3; have hbw := Below.tr (Below.tr hb1 hb2) hb3; clear hb1 hb2 hb3 hok HPO HNS hon hor h1 h2 h3 H1 H2 H3; go_wp2_with fail
 go_loopg [13, 14] ka (fun j v x wr => ∃ (i : Nat) (lf : List Nat), x = .int .i64 i ∧ i + j = ka ∧ wr.ownsRow w3.heap.size 3 1 v lf.length (lf.flatMap natC) ∧ lf.length ≤ i ∧ Hid (∀ n ∈ lf, n ∈ la) ∧ Below w3.heap.size w3 wr)
 case atStart => exact ⟨0, [], rfl, by omega, World.ownsRow_nil _ _ _ _, by simp, fun n h => by simp at h, Below.refl _ _⟩
 case round =>
  obtain ⟨G, hG⟩ : ∃ G, G = gk := ⟨gk, rfl⟩; subst hG; obtain ⟨i, lf, rfl, hij, hown, hlen, HSUB, hbe⟩ := hrel; obtain ⟨Ao, co, rfl⟩ := own_shp hown; by_cases hi : i < ka
  ·have t1 : decide ((i : Int) < (ka : Int)) = true := by simp; omega
   obtain ⟨b, off, x, rfl, hcell, HX⟩ := (hla.below hbe).nat hi; go_upto_region 8 with fail; obtain ⟨wa, hwa⟩ : ∃ wa, wa = wr := ⟨_, rfl⟩; subst hwa
   go_cut [45] from 34 to 52 (fun t wx => (∃ cb, t = .bool cb) ∧ wx = wa)
   case first => as_aux_lemma =>
    clear hps hla hrs hnm hown hcell hbe HX HSUB HIN HRS hbw; go_wp2_with fail
    go_meet
    case rel => exact ⟨⟨_, rfl⟩, rfl⟩
   obtain ⟨⟨cb, rfl⟩, hx⟩ := hcut; obtain rfl := hx.symm; have hsz := hbe.size; have hmx := List.mem_of_getElem? HX.out
   cases cb
   ·clear hcell HX; go_wp2_with fail
    go_roundg (G - 1)
    case measure => omega
    case rel => exact ⟨i + 1, lf, by go_num, by omega, hown, by omega, HSUB, hbe⟩
   ·have hb3 := bA wa (.cells #[.int .i64 (x : Int)] 3); have hown3 := own_below hown hb3; have hrd : Rd (wa.alloc (.cells #[.int .i64 (x : Int)] 3)) (some ⟨wa.heap.size, 0, none⟩) (natC x) := Rd.fresh wa 3 (natC x); have hbe3 := Below.tr hbe hb3; have hsz3 := hbe3.size; clear hb3 hown HX hbe hsz
    go_wp2_with (first | (at_builtin; go_loud (refine wpList_append_any _ rfl (.tmp 46) (.tmp 51) _ rfl w3.heap.size 3 i0 _ 1 8 Try.underlying35 hi0 hz0 hz1 hz2 rfl (by omega) _ lf.length _ rfl hown3 _ 1 1 (natC x) rfl rfl hrd (by simp [natC, Value.oneCell']) (by simp only [maxLen]; omega) (by omega) hsz3 ?_); intro v4 w4 hown4 hg4 hat4))
    have hbe4 : Below w3.heap.size w3 w4 := hbe3.grown hg4 hsz3 (own_block_ge hown3); have hown5 : w4.ownsRow w3.heap.size 3 1 v4 (lf ++ [x]).length ((lf ++ [x]).flatMap natC) := by rw [List.flatMap_append, List.length_append]; simpa using hown4
    have HS5 : Hid (∀ n ∈ lf ++ [x], n ∈ la) := by
     intro n hn
     rcases List.mem_append.1 hn with h | h
     ·exact HSUB.out n h
     ·rw [List.mem_singleton.1 h]; exact hmx
    have hl5 : (lf ++ [x]).length ≤ i + 1 := by simp; omega
    clear hown4 hown3 hg4 hat4 hbe3 hsz3 hrd hmx hcell; go_wp2_with fail
    go_roundg (G - 1)
    case measure => omega
    case rel => exact ⟨i + 1, lf ++ [x], by go_num, by omega, hown5, hl5, HS5, hbe4⟩
  ·have t1 : decide ((i : Int) < (ka : Int)) = false := by simp; omega
   obtain ⟨Af', cf', ef, hlf⟩ := own_rowS natC_len (by omega) (by omega) hown; injection ef with e1 e2 e3; subst e1 e3; have hps := hps.below hbe; have hla := hla.below hbe; have hnm := hnm.below hbe; have hrs := hrs.below hbe; have hbw := Below.tr hbw hbe; have HONE : Hid (∀ x ∈ rs, ∀ v ∈ cellsR x, v.oneCell' = true) := fun x hx => (HRS.out x hx).one
   have hlai := nat_rows hla; have hlfi := nat_rows hlf; clear hown hbe hla hlf; have hxl : (names.zip rs).length ≤ 8 := by rw [List.length_zip]; have := hrs.2.1; omega
   obtain ⟨xs, hxs⟩ : ∃ xs, Hid (xs = names.zip rs) := ⟨_, rfl⟩; rw [← hxs.out] at hxl; go_wp2_with fail; refine (decide_n Ap Aa An Ar kp cp ka ca kn cn kn cr _ ps names rs _ hps hlai hnm hrs HONE (by omega)).mono ?_; rintro e w4 ⟨vp, np, vs, ns, er, rfl, HE, hop, hos, hb4⟩; obtain rfl : er = 0 := HE.out.trans (fit_zero HIN.out HRS.out); rw [← hxs.out] at hop hos; obtain ⟨P4, d4, rfl, hP4⟩ := dec_pas hxl hop; obtain ⟨S4, f4, rfl, hS4⟩ := dec_sto hxl hos; clear hop hos HE; go_upto_region 11 with fail; refine wp_name ?_; intro v4 HV4; have hbv4 : Below w4.heap.size w4 v4 := by rw [HV4.out]; exact bA _ _
   have B4 : Blk v4 w4.heap.size 58 #[.slice P4 np d4, .slice S4 ns f4] := by rw [HV4.out]; exact Blk.new _ _ _
   have hP4 := hP4.below hbv4; have hS4 := hS4.below hbv4; have hbq := Below.tr hb4 hbv4; have hps := hps.below hbq; have hlai := hlai.below hbq; have hlfi := hlfi.below hbq; have hnm := hnm.below hbq; have hrs := hrs.below hbq; have hbw := Below.tr hbw hbq; obtain ⟨np4, hnp4⟩ : ∃ n, n = np := ⟨_, rfl⟩; obtain ⟨ns4, hns4⟩ : ∃ n, n = ns := ⟨_, rfl⟩; subst hnp4 hns4; clear hb4 hbv4 HV4; go_wp2_with fail; refine (decide_n Ap Ao An Ar kp cp lf.length co kn cn kn cr _ ps names rs _ hps hlfi hnm hrs HONE (by omega)).mono ?_; rintro e w5 ⟨vp, np, vs, ns, er, rfl, HE, hop, hos, hb5⟩; obtain rfl : er = 0 := HE.out.trans (fit_zero (fun n hn => HIN.out n (HSUB.out n hn)) HRS.out); rw [← hxs.out] at hop hos; obtain ⟨P5, d5, rfl, hP5⟩ := dec_pas hxl hop; obtain ⟨S5, f5, rfl, hS5⟩ := dec_sto hxl hos; clear hop hos HE; go_upto_region 12 with fail; refine wp_name ?_; intro v5 HV5; have hbv5 : Below w5.heap.size w5 v5 := by rw [HV5.out]; exact bA _ _
   have B5 : Blk v5 w5.heap.size 58 #[.slice P5 np d5, .slice S5 ns f5] := by rw [HV5.out]; exact Blk.new _ _ _
   have hP5 := hP5.below hbv5; have hS5 := hS5.below hbv5; have hbq := Below.tr hb5 hbv5; have hps := hps.below hbq; have hlai := hlai.below hbq; have hlfi := hlfi.below hbq; have hnm := hnm.below hbq; have hrs := hrs.below hbq; have hbw := Below.tr hbw hbq; obtain ⟨np5, hnp5⟩ : ∃ n, n = np := ⟨_, rfl⟩; obtain ⟨ns5, hns5⟩ : ∃ n, n = ns := ⟨_, rfl⟩; subst hnp5 hns5; clear hb5 hbv5 HV5; have hP4 := hP4.below hbq; have hS4 := hS4.below hbq; have B4 := Blk.below B4 hbq B4.lt; clear hbq; go_wp2_with fail; refine (decide_n Ap none An Ar kp cp 0 0 kn cn kn cr _ ps names rs _ hps (show RowS intC _ none 0 (([] : List Nat).map fun n : Nat => (n : Int)) from ⟨fun h => absurd rfl h, rfl, by omega⟩) hnm hrs HONE (by omega)).mono ?_; rintro e w6 ⟨vp, np, vs, ns, er, rfl, HE, hop, hos, hb6⟩; obtain rfl : er = 0 := HE.out.trans (fit_zero (fun n hn => by simp at hn) HRS.out); rw [← hxs.out] at hop hos; obtain ⟨P6, d6, rfl, hP6⟩ := dec_pas hxl hop; obtain ⟨S6, f6, rfl, hS6⟩ := dec_sto hxl hos; clear hop hos HE; go_upto_region 13 with fail; refine wp_name ?_; intro v6 HV6; have hbv6 : Below w6.heap.size w6 v6 := by rw [HV6.out]; exact bA _ _
   have B6 : Blk v6 w6.heap.size 58 #[.slice P6 np d6, .slice S6 ns f6] := by rw [HV6.out]; exact Blk.new _ _ _
   have hP6 := hP6.below hbv6; have hS6 := hS6.below hbv6; have hbq := Below.tr hb6 hbv6; have hps := hps.below hbq; have hlai := hlai.below hbq; have hlfi := hlfi.below hbq; have hnm := hnm.below hbq; have hrs := hrs.below hbq; have hbw := Below.tr hbw hbq; obtain ⟨np6, hnp6⟩ : ∃ n, n = np := ⟨_, rfl⟩; obtain ⟨ns6, hns6⟩ : ∃ n, n = ns := ⟨_, rfl⟩; subst hnp6 hns6; clear hb6 hbv6 HV6; have hP4 := hP4.below hbq; have hS4 := hS4.below hbq; have B4 := Blk.below B4 hbq B4.lt; have hP5 := hP5.below hbq; have hS5 := hS5.below hbq; have B5 := Blk.below B5 hbq B5.lt; clear hbq; have n4 := hP4.2.1; have m4 := hS4.2.1; have n5 := hP5.2.1; have m5 := hS5.2.1; have n6 := hP6.2.1; have m6 := hS6.2.1; have e5 := pas_sto_len lf ps xs; have e4 := pas_sto_len la ps xs; have e6 := pas_sto_len [] ps xs; rw [items_len lf la] at e5; rw [items_len [] la] at e6; rw [pas_nil] at n6 e6; simp only [List.length_nil] at n6 e6; have l4 := items_le la ps xs; obtain rfl := n6; have E1 : (np5 : Int) + (ns5 : Int) = (np4 : Int) + (ns4 : Int) := by omega
   have E2 : (ns6 : Int) = (np4 : Int) + (ns4 : Int) := by omega
   have l5 : np4 + ns4 ≤ 8 := by omega
   have l6 : np5 ≤ 8 := by omega
   have hsub := pas_sub HSUB.out ps xs; obtain ⟨X, hX⟩ : ∃ X, Hid (X = pasL la ps xs) := ⟨_, rfl⟩; obtain ⟨Y, hY⟩ : ∃ Y, Hid (Y = pasL lf ps xs) := ⟨_, rfl⟩; rw [← hX.out] at hP4 hsub n4; rw [← hY.out] at hP5 hsub n5; have HXR : Hid (∀ it ∈ X, ResOk it.r) := by rw [hX.out, hxs.out]; exact pas_okz HRS.out
   have HYR : Hid (∀ it ∈ Y, ResOk it.r) := by rw [hY.out, hxs.out]; exact pas_okz HRS.out
   clear e4 e5 e6 m4 m5 m6 l4 hS4 hS5 hS6 hP6 hX hY hps hlai hlfi hnm hrs HRS HONE HIN HSUB hxs; obtain ⟨va, hva⟩ : ∃ va, va = v6 := ⟨_, rfl⟩; subst hva
   go_cut [121] from 76 to 182 (fun t wx => t = .bool false ∧ wx = va)
   case first => as_aux_lemma =>
    have q40 := B4.cell 0; have q41 := B4.cell 1; have q50 := B5.cell 0; have q51 := B5.cell 1; have q60 := B6.cell 0; have q61 := B6.cell 1; simp only [List.getElem?_toArray, List.getElem?_cons_zero, List.getElem?_cons_succ] at q40 q41 q50 q51 q60 q61; have s1 : IntKind.i64.wrap ((np4 : Int) + (ns4 : Int)) = (np4 : Int) + (ns4 : Int) := by rw [IntWalk.i64_in _ (by omega)]
    clear hP4 hP5 B4 B5 B6 hsub n4 n5; go_wp2_with fail
    go_meet
    case rel => exact ⟨rfl, rfl⟩
   obtain ⟨rfl, hx⟩ := hcut; obtain rfl := hx.symm; have HN4 := Lib.hid n4; have HN5 := Lib.hid n5; clear n4 n5; clear B6 E1 E2; obtain ⟨vb, hvb⟩ : ∃ vb, vb = va := ⟨_, rfl⟩; subst hvb; go_wp2_with fail
   go_loopg [21, 22] np5 (fun j a x wr => ∃ (i at_ : Nat), x = .int .i64 i ∧ i + j = np5 ∧ a = .int .i64 at_ ∧ Hid (((Y.map keyI).drop i).Sublist ((X.map keyI).drop at_)) ∧ Below vb.heap.size vb wr)
   case atStart => exact ⟨0, 0, rfl, by omega, rfl, hsub, Below.refl _ _⟩
   case round =>
    obtain ⟨G, hG⟩ : ∃ G, G = gk := ⟨gk, rfl⟩; subst hG; obtain ⟨i, at_, rfl, hij, rfl, HS, hbe⟩ := hrel; obtain ⟨wo, hwo⟩ : ∃ wo, wo = wr := ⟨_, rfl⟩; subst hwo; have B4 := Blk.below B4 hbe B4.lt; have B5 := Blk.below B5 hbe B5.lt; have hP4 := hP4.below hbe; have hP5 := hP5.below hbe; have q40 := B4.cell 0; have q50 := B5.cell 0; simp only [List.getElem?_toArray, List.getElem?_cons_zero] at q40 q50; by_cases hi : i < np5
    ·have t1 : decide ((i : Int) < (np5 : Int)) = true := by simp; omega
     have hiY : i < Y.length := by have := HN5.out; omega
     go_wp2_with fail
     go_loopg [21] (np4 - at_) (fun j a wy => ∃ at2 : Nat, a = .int .i64 at2 ∧ at2 + j = np4 ∧ Hid (((Y.map keyI).drop i).Sublist ((X.map keyI).drop at2)) ∧ Below wo.heap.size wo wy)
     case atStart => exact ⟨at_, rfl, by have h := sub_end HS.out (by simpa using hiY); have := HN4.out; simp at h; omega, HS, Below.refl _ _⟩
     case round =>
      obtain ⟨G2, hG2⟩ : ∃ G, G = gk := ⟨gk, rfl⟩; subst hG2; obtain ⟨at2, rfl, hat, HS2, hbe2⟩ := hrel; have B4 := Blk.below B4 hbe2 B4.lt; have B5 := Blk.below B5 hbe2 B5.lt; have hP4 := hP4.below hbe2; have hP5 := hP5.below hbe2; clear q40 q50; have q40 := B4.cell 0; have q50 := B5.cell 0; simp only [List.getElem?_toArray, List.getElem?_cons_zero] at q40 q50; have hlt : at2 < np4 := by have h := sub_end HS2.out (by simpa using hiY); have := HN4.out; simp at h; omega
      have hltX : at2 < X.length := by have := HN4.out; omega
      have t2 : decide ((at2 : Int) < (np4 : Int)) = true := by simp; omega
      obtain ⟨b4, o4, rfl, HC4⟩ := hP4.at_ cellsI_len (by omega) hlt hltX; obtain ⟨b5, o5, rfl, HC5⟩ := hP5.at_ cellsI_len (by omega) hi hiY; have rX := HXR.out _ (List.getElem_mem hltX); have rY := HYR.out _ (List.getElem_mem hiY); have gX : (X.map keyI)[at2]? = some (keyI X[at2]) := by simp [hltX]
      have gY : (Y.map keyI)[i]? = some (keyI Y[i]) := by simp [hiY]
      generalize X[at2] = x at HC4 rX gX; generalize Y[i] = y at HC5 rY gY; have x0 := HC4.out 0 _ rfl; have y0 := HC5.out 0 _ rfl; rw [Nat.add_zero] at x0 y0; have HRX : Hid (∀ (j : Nat) v, (cellsR x.r)[j]? = some v → wr.cell? ⟨b4, o4 + at2 * 24 + 1 + j, none⟩ = some v) := fun j v h => items_in (t := x.test) (p := x.p) HC4.out h
      have HRY : Hid (∀ (j : Nat) v, (cellsR y.r)[j]? = some v → wr.cell? ⟨b5, o5 + i * 24 + 1 + j, none⟩ = some v) := fun j v h => items_in (t := y.test) (p := y.p) HC5.out h
      clear HC4 HC5; have s1 : IntKind.i64.wrap ((np4 : Int) - 1) = (np4 : Int) - 1 := by rw [IntWalk.i64_in _ (by omega)]
      have m1 : min (at2 : Int) ((np4 : Int) - 1) = (at2 : Int) := by omega
      have l7 : (at2 : Int) < (np4 : Int) := by omega
      have l8 : (i : Int) < (np5 : Int) := by omega
      go_upto_region 19 with fail; have s2 : IntKind.i64.wrap ((at2 : Int) + 1) = (at2 : Int) + 1 := by rw [IntWalk.i64_in _ (by omega)]
      have t3 : decide ((at2 : Int) ≥ (np4 : Int)) = false := by simp; omega
      by_cases hnm : x.test.toList = y.test.toList
      ·have hn : (x.test.toList == y.test.toList) = true := by simpa using hnm
       obtain ⟨bq, hbq⟩ : ∃ bq : Bool, Hid (bq = true ↔ x.r = y.r) := by
        by_cases h : x.r = y.r
        ·exact ⟨true, show (true = true ↔ x.r = y.r) by simpa using h⟩
        ·exact ⟨false, show (false = true ↔ x.r = y.r) by simpa using h⟩
       have rX := rX.ty; have rY := rY.ty; refine wp_region_quiet_lit (by kernel_rfl) (by kernel_rfl) ?_
       repeat (go_big_quiet_step (fail))
       refine wpQuiet_step (fun K hK => ?_); rw [if_pos (by rfl)]; refine ⟨.agg (cellsR x.r).toArray, fun w hw => quiet_load_mid 64 (.tmp 163) rfl b4 (o4 + at2 * 24 + 1) rfl (cellsR x.r) _ (HRX.out) Try.underlying64 rfl (infoR (r := x.r)) w hw, ?_⟩; simp only [Act.put, sA, sB, sC]; refine hK _ ?_; clear hK K
       repeat (go_big_quiet_step (fail))
       refine wpQuiet_step (fun K hK => ?_); rw [if_pos (by rfl)]; refine ⟨.agg (cellsR y.r).toArray, fun w hw => quiet_load_mid 64 (.tmp 169) rfl b5 (o5 + i * 24 + 1) rfl (cellsR y.r) _ (HRY.out) Try.underlying64 rfl (infoR (r := y.r)) w hw, ?_⟩; simp only [Act.put, sA, sB, sC]; refine hK _ ?_; clear hK K; refine wpQuiet_step (fun K hK => ?_); rw [if_pos (by rfl)]; refine ⟨.bool (!bq), fun w _ => quiet_neqR _ _ w (.tmp 164) (.tmp 170) x.r y.r rX rY hbq.out rfl rfl _ rfl, ?_⟩; simp only [Act.put, sA, sB, sC]; refine hK _ ?_; clear hK K
       repeat (go_big_quiet_step (fail))
       refine wpQuiet_nil ?_; intro _ hw'; obtain ⟨nq, hw''⟩ := hw'; subst hw''; have hbz := Below.tr hbe2 (below_drewN wr nq)
       cases bq
       ·have HS3 : Hid (((Y.map keyI).drop i).Sublist ((X.map keyI).drop (at2 + 1))) := sub_skip HS2.out gY gX (fun e => by have := hbq.out.2 (congrArg Prod.snd e); cases this); clear rX rY HRX HRY gX gY HS2 hltX hbe2; go_wp2_with fail
        go_roundg (G2 - 1)
        case measure => omega
        case rel => exact ⟨at2 + 1, by go_num, by omega, HS3, hbz⟩
       ·have hkey : keyI x = keyI y := by
         have e1 : x.test = y.test := by
          rw [ByteArray.toList_eq, ByteArray.toList_eq] at hnm; exact ByteArray.ext (Array.ext' hnm)
         have e2 : x.r = y.r := hbq.out.1 rfl; unfold keyI; rw [e1, e2]
        have HS3 : Hid (((Y.map keyI).drop (i + 1)).Sublist ((X.map keyI).drop (at2 + 1))) := sub_next HS2.out (hkey ▸ gY) gX; have hbo := Below.tr hbe hbz; clear rX rY HRX HRY gX gY HS2 hltX hbe2 hbz HS hkey; go_wp2_with fail
        go_roundg (G - 1)
        case measure => omega
        case rel => exact ⟨i + 1, at2 + 1, by go_num, by omega, by go_num, HS3, hbo⟩
      ·have hn : (x.test.toList == y.test.toList) = false := by simpa using hnm
       have HS3 : Hid (((Y.map keyI).drop i).Sublist ((X.map keyI).drop (at2 + 1))) := sub_skip HS2.out gY gX (fun e => hnm (by have := congrArg Prod.fst e; simp only [keyI] at this; rw [this])); clear hnm rX rY HRX HRY gX gY HS2 hltX; refine wp_region_quiet_lit (by kernel_rfl) (by kernel_rfl) ?_
       repeat (go_big_quiet_step (fail))
       refine wpQuiet_nil ?_; intro _ hw'; obtain ⟨nq, hw''⟩ := hw'; subst hw''; go_wp2_with fail
       go_roundg (G2 - 1)
       case measure => omega
       case rel => exact ⟨at2 + 1, by go_num, by omega, HS3, Below.tr hbe2 (below_drewN _ _)⟩
    ·have t1 : decide ((i : Int) < (np5 : Int)) = false := by simp; omega
     have hz := Below.tr hbw hbe; clear B4 B5 hP4 hP5 hsub HS HXR HYR; go_wp2_with fail; refine (lives_n _).mono ?_; rintro e w8 ⟨rfl, hb8⟩; go_wp2_with fail; go_ret; exact ⟨rfl, Below.tr hz hb8⟩
end Go.Proofs.Yticobffjnjbjiaa
namespace Go.Proofs.Yticobffjnjbjiaa
open Go Go.RowKit
theorem covB_test {p : PC} {s : ByteArray} {r : RC0} (h : covB p s r = true) : p.test = s := by
 unfold covB at h; have := (of_decide_eq_true h).1; have h2 : p.test.toList = s.toList := this.symm
 simpa [ByteArray.toList_eq, ByteArray.ext_iff] using h2
section
variable {tick : Int} {br : List Int} {Ev : Nat → Int} {Lf : Nat → List Nat × List Nat} {dg : Nat → List Int} {ps : List PC} {names : List ByteArray} {rd : Nat → List Int}
/-- what the law calls holds -/
theorem hold_some {s : ByteArray} {j k : Nat} {p : PC} {r : RC0} (h : idxN names s = some j) (hp : ps[k]? = some p) :
  (decide (Ev k = 0) && (stF tick (rd j) br Ev Lf dg ps k == 0) && covB p s r) = (actB tick br Ev Lf dg ps names rd k && covB p s r) := by
 cases hc : covB p s r with
 | false => simp
 | true =>
  have ht := covB_test hc; unfold actB; rw [hp]; simp only; rw [ht, h]
theorem hold_none {s : ByteArray} {k : Nat} {p : PC} {r : RC0} (h : idxN names s = none) (hp : ps[k]? = some p) : (actB tick br Ev Lf dg ps names rd k && covB p s r) = false := by
 cases hc : covB p s r with
 | false => simp
 | true =>
  have ht := covB_test hc; unfold actB; rw [hp]; simp only; rw [ht, h]; rfl
def actL (tick : Int) (br : List Int) (Ev : Nat → Int) (Lf : Nat → List Nat × List Nat) (dg : Nat → List Int) (ps : List PC) (names : List ByteArray) (rd : Nat → List Int) : List Nat := (List.range ps.length).filter (actB tick br Ev Lf dg ps names rd)
theorem actL_lt {k : Nat} (h : k ∈ actL tick br Ev Lf dg ps names rd) : k < ps.length := List.mem_range.1 (List.mem_filter.1 h).1
/-- a promise holds and covers: up to the promise n -/
def covU (tick : Int) (br : List Int) (Ev : Nat → Int) (Lf : Nat → List Nat × List Nat) (dg : Nat → List Int) (ps : List PC) (names : List ByteArray) (rd : Nat → List Int) (s : ByteArray) (r : RC0) (n : Nat) : Bool := (List.range n).any fun k => actB tick br Ev Lf dg ps names rd k && covAt ps s r k
theorem covU_succ {s : ByteArray} {r : RC0} {n : Nat} {p : PC} (hp : ps[n]? = some p) : covU tick br Ev Lf dg ps names rd s r (n + 1) = (covU tick br Ev Lf dg ps names rd s r n || (actB tick br Ev Lf dg ps names rd n && covB p s r)) := by
 unfold covU; rw [List.range_succ, List.any_append]
 congr 1
 simp [covAt, hp]
theorem covU_all {s : ByteArray} {r : RC0} : covU tick br Ev Lf dg ps names rd s r ps.length = decide (0 ≤ ofN (actL tick br Ev Lf dg ps names rd) ps s r) := by
 unfold covU ofN actL
 cases hf : ((List.range ps.length).filter (actB tick br Ev Lf dg ps names rd)).find? (covAt ps s r) with
 | none =>
  simp only; rw [show decide ((0 : Int) ≤ -1) = false by decide, List.any_eq_false]; intro k hk; rw [Bool.and_eq_true]; rintro ⟨h1, h2⟩; exact List.find?_eq_none.1 hf k (List.mem_filter.2 ⟨hk, h1⟩) h2
 | some k =>
  simp only; rw [show decide ((0 : Int) ≤ (k : Int)) = true by simp, List.any_eq_true]; have h1 := List.mem_of_find?_eq_some hf; have h2 := List.find?_some hf; exact ⟨k, (List.mem_filter.1 h1).1, by rw [(List.mem_filter.1 h1).2, h2]; rfl⟩
/-- what passed is covered by the promise that is named -/
theorem pas_holds {xs : List (ByteArray × RC0)} {it : IT} {k : Nat} {p : PC} (h : it ∈ pasL (actL tick br Ev Lf dg ps names rd) ps xs) (hk : it.p = (k : Int)) (hp : ps[k]? = some p) : (actB tick br Ev Lf dg ps names rd k && covB p it.test it.r) = true := by
 obtain ⟨h1, h2⟩ := List.mem_filter.1 h; obtain ⟨x, h3, rfl⟩ := List.mem_map.1 h1; simp only at hk h2 ⊢; unfold ofN at hk
 cases hf : (actL tick br Ev Lf dg ps names rd).find? (covAt ps x.1 x.2) with
 | none => rw [hf] at hk; simp only at hk; omega
 | some m =>
  rw [hf] at hk; simp only at hk; obtain rfl : m = k := by omega
  have h4 := List.mem_of_find?_eq_some hf; have h5 := List.find?_some hf; unfold covAt at h5; rw [hp] at h5; rw [(List.mem_filter.1 h4).2]
  simpa using h5
end
theorem pas_app (l : List Nat) (ps : List PC) (u v : List (ByteArray × RC0)) : pasL l ps (u ++ v) = pasL l ps u ++ pasL l ps v := by
 simp [pasL, itemsL]
theorem sto_app (l : List Nat) (ps : List PC) (u v : List (ByteArray × RC0)) : stoL l ps (u ++ v) = stoL l ps u ++ stoL l ps v := by
 simp [stoL, itemsL]
theorem pas_at {l : List Nat} {ps : List PC} {xs : List (ByteArray × RC0)} {i : Nat} {x : ByteArray × RC0} (h : xs[i]? = some x) (ho : x.2.oc ≠ 0) (hp : 0 ≤ ofN l ps x.1 x.2) :
  (pasL l ps xs)[(pasL l ps (xs.take i)).length]? = some ⟨x.1, x.2, ofN l ps x.1 x.2⟩ ∧ (pasL l ps (xs.take (i + 1))).length = (pasL l ps (xs.take i)).length + 1 ∧ stoL l ps (xs.take (i + 1)) = stoL l ps (xs.take i) := by
 have e : xs = xs.take i ++ (x :: xs.drop (i + 1)) := by
  obtain ⟨hi, hx⟩ := List.getElem?_eq_some_iff.1 h; rw [← hx, ← List.drop_eq_getElem_cons hi, List.take_append_drop]
 have e1 : pasL l ps [x] = [⟨x.1, x.2, ofN l ps x.1 x.2⟩] := by simp [pasL, itemsL, ho, hp]
 have e2 : stoL l ps [x] = [] := by simp [stoL, itemsL, ho]; omega
 have e3 : xs.take (i + 1) = xs.take i ++ [x] := by rw [List.take_add_one, h]; rfl
 refine ⟨?_, ?_, ?_⟩
 ·have : pasL l ps xs = pasL l ps (xs.take i) ++ (⟨x.1, x.2, ofN l ps x.1 x.2⟩ :: pasL l ps (xs.drop (i + 1))) := by
   conv => lhs; rw [e, ← List.singleton_append, pas_app, pas_app, e1]
   rfl
  rw [this, List.getElem?_append_right (Nat.le_refl _), Nat.sub_self]; rfl
 ·rw [e3, pas_app, e1]; simp
 ·rw [e3, sto_app, e2]; simp
theorem sto_at {l : List Nat} {ps : List PC} {xs : List (ByteArray × RC0)} {i : Nat} {x : ByteArray × RC0} (h : xs[i]? = some x) (ho : x.2.oc ≠ 0) (hp : ofN l ps x.1 x.2 < 0) :
  (stoL l ps xs)[(stoL l ps (xs.take i)).length]? = some ⟨x.1, x.2, -1⟩ ∧ (stoL l ps (xs.take (i + 1))).length = (stoL l ps (xs.take i)).length + 1 ∧ pasL l ps (xs.take (i + 1)) = pasL l ps (xs.take i) := by
 have hm : ofN l ps x.1 x.2 = -1 := by
  unfold ofN at hp ⊢
  cases hf : l.find? (covAt ps x.1 x.2) with
  | none => rfl
  | some k => rw [hf] at hp; simp only at hp; omega
 have e : xs = xs.take i ++ (x :: xs.drop (i + 1)) := by
  obtain ⟨hi, hx⟩ := List.getElem?_eq_some_iff.1 h; rw [← hx, ← List.drop_eq_getElem_cons hi, List.take_append_drop]
 have e1 : stoL l ps [x] = [⟨x.1, x.2, -1⟩] := by simp [stoL, itemsL, ho, hm]
 have e2 : pasL l ps [x] = [] := by simp [pasL, itemsL, ho, hm]
 have e3 : xs.take (i + 1) = xs.take i ++ [x] := by rw [List.take_add_one, h]; rfl
 refine ⟨?_, ?_, ?_⟩
 ·have : stoL l ps xs = stoL l ps (xs.take i) ++ (⟨x.1, x.2, -1⟩ :: stoL l ps (xs.drop (i + 1))) := by
   conv => lhs; rw [e, ← List.singleton_append, sto_app, sto_app, e1]
   rfl
  rw [this, List.getElem?_append_right (Nat.le_refl _), Nat.sub_self]; rfl
 ·rw [e3, sto_app, e1]; simp
 ·rw [e3, pas_app, e2]; simp
theorem pass_at {l : List Nat} {ps : List PC} {xs : List (ByteArray × RC0)} {i : Nat} {x : ByteArray × RC0} (h : xs[i]? = some x) (ho : x.2.oc = 0) : pasL l ps (xs.take (i + 1)) = pasL l ps (xs.take i) ∧ stoL l ps (xs.take (i + 1)) = stoL l ps (xs.take i) := by
 have e3 : xs.take (i + 1) = xs.take i ++ [x] := by rw [List.take_add_one, h]; rfl
 rw [e3, pas_app, sto_app]; simp [pasL, stoL, itemsL, ho]
end Go.Proofs.Yticobffjnjbjiaa
namespace Go.Proofs.Yticobffjnjbjiaa
open Go Go.RowKit
set_option maxRecDepth 100000 in
set_option maxHeartbeats 1000000 in
theorem rcovers_n (p : PC) (name : ByteArray) (r : RC0) (w : World) :
  Calls Try.prog 105 #[.agg #[.int .i64 p.team, .string p.test, .string p.wh, .int .i64 p.site, p.b1, p.b2, .int .i64 p.fr, .int .i64 p.un, p.r0, p.r1, p.r2, p.r3, p.r4, p.r5, p.r6, p.r7, p.r8, p.r9, p.r10, p.r11, p.r12, p.r13, p.r14, p.r15], .string name, .agg #[.int .i64 r.oc, .string r.at_, .int .i64 r.st, r.v3, r.v4, r.v5, r.v6, r.v7, r.v8, r.v9, r.v10, r.v11, r.v12, r.v13, r.v14, r.v15, r.v16, r.v17, r.v18, r.v19, r.v20, r.v21]] w fun e w' => e = .returned (.bool (covB p name r)) ∧ Below w.heap.size w w' := by
 have HF : Hid (∀ b, (b = true ↔ (p.test.toList = name.toList ∧ 1 ≤ r.oc ∧ r.oc ≤ 4 ∧ r.at_.toList = p.wh.toList ∧ r.st = p.site)) → b = covB p name r) := by
  intro b h; unfold covB; rw [Bool.eq_iff_iff, h, decide_eq_true_iff]
  constructor
  ·rintro ⟨h1, h2, h3, h4, h5⟩; exact ⟨h1.symm, by omega, by omega, h4, h5⟩
  ·rintro ⟨h1, h2, h3, h4, h5⟩; exact ⟨h1.symm, by omega, by omega, h4, h5⟩
 go_enter Try.func105, Try.ntmps105
 go_wp2_with fail
 all_goals
  go_ret; exact ⟨retb (HF.out _ (by first | (simp [*]; done) | (simp [*]; intros; omega))), Below.tr (bA _ _) (bA _ _)⟩
theorem any_at {α : Type} {p : α → Bool} {l : List α} {i : Nat} {a : α} (h : l[i]? = some a) (hp : p a = true) : l.any p = true := List.any_eq_true.2 ⟨a, List.mem_of_getElem? h, hp⟩
theorem any_no {α : Type} {p : α → Bool} {l : List α} (h : ∀ (j : Nat) b, j < l.length → l[j]? = some b → p b = false) : l.any p = false := by
 rw [List.any_eq_false]; intro a ha; obtain ⟨j, hj⟩ := List.getElem?_of_mem ha; simp [h j a (List.getElem?_eq_some_iff.1 hj).1 hj]
set_option maxHeartbeats 400000 in
theorem ranged_n (Al A : Option Addr) (kl cl k c : Nat) (l : List Int) (w : World) (hr : RowS intC w A k l) (hkl : kl ≤ 281474976710656) :
  Calls Try.prog 66 #[.slice Al kl cl, .slice A k c] w fun e w' => e = .returned (.bool (!(l.any (outB kl)))) ∧ w = w' := by
 have hk := hr.2.2; have HK := Lib.hid hr.2.1
 go_enter Try.func66, Try.ntmps66
 go_wp2_with fail
 go_loopg [5] k (fun j x wr => ∃ i : Nat, x = .int .i64 i ∧ i + j = k ∧ Hid (∀ (j : Nat) b, j < i → l[j]? = some b → outB kl b = false) ∧ wr = w)
 case atStart => exact ⟨0, rfl, by omega, fun j b h => by omega, rfl⟩
 case round =>
  obtain ⟨i, rfl, hij, HP, rfl⟩ := hrel; by_cases hi : i < k
  ·obtain ⟨b, off, n, rfl, hc, HN⟩ := hr.int hi; have t1 : decide ((i : Int) < (k : Int)) = true := by simp; omega
   by_cases h1 : n < 0
   ·have HF : Hid (l.any (outB kl) = true) := any_at HN.out (by simp [outB, h1]); have t2 : decide (n < 0) = true := by simpa using h1
    go_wp2_with fail; go_ret; exact ⟨by rw [HF.out]; rfl, rfl⟩
   ·have t2 : decide (n < 0) = false := by simpa using h1
    by_cases h2 : (kl : Int) ≤ n
    ·have HF : Hid (l.any (outB kl) = true) := any_at HN.out (by simp [outB, h2]); have t3 : decide (n ≥ (kl : Int)) = true := by simpa using h2
     go_wp2_with fail; go_ret; exact ⟨by rw [HF.out]; rfl, rfl⟩
    ·have HP2 := Lib.hid (first_step HP.out HN.out (by simp [outB]; omega)); have t3 : decide (n ≥ (kl : Int)) = false := by simpa using h2
     go_wp2_with fail
     go_roundg (gk - 1)
     case measure => omega
     case rel => exact ⟨i + 1, by go_num, by omega, HP2, rfl⟩
  ·have HF : Hid (l.any (outB kl) = false) := any_no fun j b h => HP.out j b (by have := HK.out; omega)
   have t1 : decide ((i : Int) < (k : Int)) = false := by simp; omega
   go_wp2_with fail; go_ret; exact ⟨by rw [HF.out]; rfl, rfl⟩
set_option maxHeartbeats 400000 in
theorem known_n (S : Option Addr) (ks cs : Nat) (rs : List RC0) (w : World) (hs : RowS cellsR w S ks rs) :
  Calls Try.prog 67 #[.slice S ks cs] w fun e w' => e = .returned (.bool (!(rs.any oddO))) ∧ w = w' := by
 have hk := hs.2.2; have HK := Lib.hid hs.2.1
 go_enter Try.func67, Try.ntmps67
 go_wp2_with fail
 go_loopg [3] ks (fun j x wr => ∃ i : Nat, x = .int .i64 i ∧ i + j = ks ∧ Hid (∀ (j : Nat) b, j < i → rs[j]? = some b → oddO b = false) ∧ wr = w)
 case atStart => exact ⟨0, rfl, by omega, fun j b h => by omega, rfl⟩
 case round =>
  obtain ⟨i, rfl, hij, HP, rfl⟩ := hrel; by_cases hi : i < ks
  ·have hil : i < rs.length := by have := HK.out; omega
   obtain ⟨b, off, rfl, HC⟩ := hs.at_ cellsR_len (by omega) hi hil; have HN : Hid (rs[i]? = some rs[i]) := List.getElem?_eq_getElem hil; generalize rs[i] = r at HC HN; have hc := HC.out 0 _ rfl; rw [Nat.add_zero] at hc; obtain ⟨n, hn⟩ : ∃ n, n = r.oc := ⟨_, rfl⟩; rw [← hn] at hc; have HO : Hid (oddO r = decide (n < 0 ∨ 4 < n)) := by rw [hn]; rfl
   have t1 : decide ((i : Int) < (ks : Int)) = true := by simp; omega
   clear HC hn hil; by_cases h1 : n < 0
   ·have HF : Hid (rs.any oddO = true) := any_at HN.out (HO.out.trans (by simp [h1])); have t2 : decide (n < 0) = true := by simpa using h1
    go_wp2_with fail; go_ret; exact ⟨by rw [HF.out]; rfl, rfl⟩
   ·have t2 : decide (n < 0) = false := by simpa using h1
    by_cases h2 : 4 < n
    ·have HF : Hid (rs.any oddO = true) := any_at HN.out (HO.out.trans (by simp [h2])); have t3 : decide (n > 4) = true := by simpa using h2
     go_wp2_with fail; go_ret; exact ⟨by rw [HF.out]; rfl, rfl⟩
    ·have HP2 := Lib.hid (first_step HP.out HN.out (HO.out.trans (by simp; omega))); have t3 : decide (n > 4) = false := by simpa using h2
     go_wp2_with fail
     go_roundg (gk - 1)
     case measure => omega
     case rel => exact ⟨i + 1, by go_num, by omega, HP2, rfl⟩
  ·have HF : Hid (rs.any oddO = false) := any_no fun j b h => HP.out j b (by have := HK.out; omega)
   have t1 : decide ((i : Int) < (ks : Int)) = false := by simp; omega
   go_wp2_with fail; go_ret; exact ⟨by rw [HF.out]; rfl, rfl⟩
def PhiOf (Al A : Option Addr) (kl cl k c i b off n bp op : Nat) (p : PC) (name : ByteArray) (r : RC0) (j : Nat) (w : World) (x : Value) : Prop :=
 match j with
 | 0 => x = .slice Al kl cl
 | 1 => x = .slice A k c
 | 2 => x = .int .i64 (i : Nat)
 | 3 => x = .pointer (some ⟨b, off + i, none⟩)
 | 4 => x = .int .i64 (n : Nat)
 | 5 => x = .pointer (some ⟨bp, op + n * 24, none⟩)
 | 6 => x = .agg #[.int .i64 p.team, .string p.test, .string p.wh, .int .i64 p.site, p.b1, p.b2, .int .i64 p.fr, .int .i64 p.un, p.r0, p.r1, p.r2, p.r3, p.r4, p.r5, p.r6, p.r7, p.r8, p.r9, p.r10, p.r11, p.r12, p.r13, p.r14, p.r15]
 | 7 => x = .string name
 | 8 => x = .agg #[.int .i64 r.oc, .string r.at_, .int .i64 r.st, r.v3, r.v4, r.v5, r.v6, r.v7, r.v8, r.v9, r.v10, r.v11, r.v12, r.v13, r.v14, r.v15, r.v16, r.v17, r.v18, r.v19, r.v20, r.v21]
 | 9 => x = .bool (covB p name r)
 | _ => True
set_option maxRecDepth 100000 in
set_option maxHeartbeats 2000000 in
theorem ofr_n (Al A : Option Addr) (kl cl k c : Nat) (l : List Nat) (ps : List PC) (name : ByteArray) (r : RC0) (w : World) (hp : RowS cellsP w Al kl ps) (hr : RowS natC w A k l) (HIN : Hid (∀ n ∈ l, n < kl)) :
  Calls Try.prog 70 #[.slice Al kl cl, .slice A k c, .string name, .agg #[.int .i64 r.oc, .string r.at_, .int .i64 r.st, r.v3, r.v4, r.v5, r.v6, r.v7, r.v8, r.v9, r.v10, r.v11, r.v12, r.v13, r.v14, r.v15, r.v16, r.v17, r.v18, r.v19, r.v20, r.v21]] w fun e w' => e = .returned (.int .i64 (ofN l ps name r)) ∧ Below w.heap.size w w' := by
 have hk := hr.2.2; have HK := Lib.hid hr.2.1; have hkl := hp.2.2; have hb1 := bA w (.cells #[.int .i64 r.oc, .string r.at_, .int .i64 r.st, r.v3, r.v4, r.v5, r.v6, r.v7, r.v8, r.v9, r.v10, r.v11, r.v12, r.v13, r.v14, r.v15, r.v16, r.v17, r.v18, r.v19, r.v20, r.v21] 64); have HB : Hid (Blk (w.alloc (.cells #[.int .i64 r.oc, .string r.at_, .int .i64 r.st, r.v3, r.v4, r.v5, r.v6, r.v7, r.v8, r.v9, r.v10, r.v11, r.v12, r.v13, r.v14, r.v15, r.v16, r.v17, r.v18, r.v19, r.v20, r.v21] 64)) w.heap.size 64 (cellsR r).toArray) := Blk.new _ _ _
 go_enter Try.func70, Try.ntmps70
 go_wp2_with fail
 go_loopg [9] k (fun j x wr => ∃ i : Nat, x = .int .i64 i ∧ i + j = k ∧ Hid (∀ (j : Nat) n, j < i → l[j]? = some n → covAt ps name r n = false) ∧ Below (w.alloc (.cells #[.int .i64 r.oc, .string r.at_, .int .i64 r.st, r.v3, r.v4, r.v5, r.v6, r.v7, r.v8, r.v9, r.v10, r.v11, r.v12, r.v13, r.v14, r.v15, r.v16, r.v17, r.v18, r.v19, r.v20, r.v21] 64)).heap.size (w.alloc (.cells #[.int .i64 r.oc, .string r.at_, .int .i64 r.st, r.v3, r.v4, r.v5, r.v6, r.v7, r.v8, r.v9, r.v10, r.v11, r.v12, r.v13, r.v14, r.v15, r.v16, r.v17, r.v18, r.v19, r.v20, r.v21] 64)) wr)
 case atStart => exact ⟨0, rfl, by omega, fun j b h => by omega, Below.refl _ _⟩
 case round =>
  obtain ⟨i, rfl, hij, HP, hbe⟩ := hrel; have hbw := Below.tr hb1 hbe; have HR : Hid (wr.rangeAt w.heap.size 0 (cellsR r)) := Blk.range (Blk.below HB.out hbe HB.out.lt); clear HB; by_cases hi : i < k
  ·have t1 : decide ((i : Int) < (k : Int)) = true := by simp; omega
   obtain ⟨b, off, n, rfl, hc, HN⟩ := (hr.below hbw).nat hi; have hn := HIN.out n (List.mem_of_getElem? HN.out); have hnp : n < ps.length := by have := hp.2.1; omega
   obtain ⟨bp, op, rfl, HC⟩ := (hp.below hbw).at_ cellsP_len (by omega) hn hnp; have HV : Hid (covAt ps name r n = covB ps[n] name r) := covAt_eq hnp; generalize ps[n] = p at HC HV; have hni : (n : Int) < (kl : Int) := by omega
   have hii : (i : Int) < (k : Int) := by omega
   clear hnp hp hr; go_upto_region 4 with fail; obtain ⟨wo, hwo⟩ : ∃ wo, wo = wr := ⟨_, rfl⟩; subst hwo; refine region_inv (PhiOf (some ⟨bp, op, none⟩) (some ⟨b, off, none⟩) kl cl k c i b off n bp op p name r) (fun w w' => Below w.heap.size w w') (fun W => Below wo.heap.size wo W) (by kernel_rfl) (by kernel_rfl) (by kernel_rfl) (fun _ _ _ _ _ h => h) (fun _ _ hR hS => Below.tr hS hR) (bD _) ?_ ?_
   ·refine sK ?_ (sK ?_ (sK ?_ (sK ?_ (sK ?_ (sK ?_ (sK ?_ (sK ?_ (sK ?_ (sK ?_ (sZ))))))))))
    ·as_aux_lemma =>
     intro vs W hS hdep K hK; refine ⟨?_⟩; simp only [fillR, Act.put, sA, sB, sC, Nat.zero_add, Nat.reduceAdd] at hK ⊢; go_simp; with_reducible refine hK _ _ (Below.refl _ _) ?_
     exact rfl
    ·as_aux_lemma =>
     intro vs W hS hdep K hK; refine ⟨?_⟩; simp only [fillR, Act.put, sA, sB, sC, Nat.zero_add, Nat.reduceAdd] at hK ⊢; go_simp; with_reducible refine hK _ _ (Below.refl _ _) ?_
     exact rfl
    ·as_aux_lemma =>
     intro vs W hS hdep K hK; refine ⟨?_⟩; simp only [fillR, Act.put, sA, sB, sC, Nat.zero_add, Nat.reduceAdd] at hK ⊢; go_simp; with_reducible refine hK _ _ (Below.refl _ _) ?_
     exact rfl
    ·as_aux_lemma =>
     intro vs W hS hdep K hK; have d0 := hdep ⟨1, .data⟩ (by simp) rfl; simp only [PhiOf] at d0; have d1 := hdep ⟨2, .data⟩ (by simp) rfl; simp only [PhiOf] at d1; refine ⟨?_⟩; simp only [fillR, Act.put, sA, sB, sC, Nat.zero_add, Nat.reduceAdd, d0, d1] at hK ⊢; go_simp; with_reducible refine hK _ _ (Below.refl _ _) ?_
     exact rfl
    ·as_aux_lemma =>
     intro vs W hS hdep K hK; have d0 := hdep ⟨3, .data⟩ (by simp) rfl; simp only [PhiOf] at d0; have q := cell_keep hS hc; refine ⟨?_⟩; simp only [fillR, Act.put, sA, sB, sC, Nat.zero_add, Nat.reduceAdd, d0] at hK ⊢; go_simp; with_reducible refine hK _ _ (Below.refl _ _) ?_
     exact rfl
    ·as_aux_lemma =>
     intro vs W hS hdep K hK; have d0 := hdep ⟨0, .data⟩ (by simp) rfl; simp only [PhiOf] at d0; have d1 := hdep ⟨4, .data⟩ (by simp) rfl; simp only [PhiOf] at d1; refine ⟨?_⟩; simp only [fillR, Act.put, sA, sB, sC, Nat.zero_add, Nat.reduceAdd, d0, d1] at hK ⊢; go_simp; with_reducible refine hK _ _ (Below.refl _ _) ?_
     exact rfl
    ·as_aux_lemma =>
     intro vs W hS hdep K hK; have d0 := hdep ⟨5, .data⟩ (by simp) rfl; simp only [PhiOf] at d0; refine ⟨?_⟩; simp only [fillR, Act.put, sA, sB, sC, Nat.zero_add, Nat.reduceAdd, d0] at hK ⊢; rw [if_pos (by rfl)]; refine wp_load_mid 53 (.tmp 21) (by rfl) bp (op + n * 24) (by rfl) (cellsP p) _ (fun j v h => cell_keep hS (HC.out j v h)) Try.underlying53 (by rfl) infoP ?_; simp only [Act.put, sA, sB, sC]; with_reducible refine hK _ _ (Below.refl _ _) ?_
     exact rfl
    ·as_aux_lemma =>
     intro vs W hS hdep K hK; refine ⟨?_⟩; simp only [fillR, Act.put, sA, sB, sC, Nat.zero_add, Nat.reduceAdd] at hK ⊢; go_simp; with_reducible refine hK _ _ (Below.refl _ _) ?_
     exact rfl
    ·as_aux_lemma =>
     intro vs W hS hdep K hK; refine ⟨?_⟩; simp only [fillR, Act.put, sA, sB, sC, Nat.zero_add, Nat.reduceAdd] at hK ⊢; rw [if_pos (by rfl)]; refine wp_load_mid 64 (.tmp 7) (by rfl) w.heap.size (0) (by rfl) (cellsR r) _ (fun j v h => cell_keep hS (HR.out j v h)) Try.underlying64 (by rfl) infoR ?_; simp only [Act.put, sA, sB, sC]; with_reducible refine hK _ _ (Below.refl _ _) ?_
     exact rfl
    ·as_aux_lemma =>
     intro vs W hS hdep K hK; have d0 := hdep ⟨6, .data⟩ (by simp) rfl; simp only [PhiOf] at d0; have d1 := hdep ⟨7, .data⟩ (by simp) rfl; simp only [PhiOf] at d1; have d2 := hdep ⟨8, .data⟩ (by simp) rfl; simp only [PhiOf] at d2; refine ⟨?_⟩; simp only [fillR, Act.put, sA, sB, sC, Nat.zero_add, Nat.reduceAdd, d0, d1, d2] at hK ⊢; go_simp; refine (rcovers_n p name r _).mono ?_; rintro e w' ⟨rfl, hb⟩; go_wp2_with fail; with_reducible refine hK _ _ hb ?_
     exact rfl
   ·intro vs W hS hv; have v9 := hv 9 (by simp); simp only [PhiOf] at v9; simp only [fillR, Act.put, sA, sB, sC, Nat.zero_add, Nat.reduceAdd, v9]; have hc2 := cell_keep hS hc; have hbz := Below.tr hbw hS; clear hv hc HC HR v9
    cases hcv : covB p name r
    ·have HP2 := Lib.hid (first_step HP.out HN.out (HV.out.trans hcv)); go_wp2_with fail
     go_roundg (gk - 1)
     case measure => omega
     case rel => exact ⟨i + 1, by go_num, by omega, HP2, Below.tr hbe hS⟩
    ·have HF : Hid (((n : Nat) : Int) = ofN l ps name r) := (show OfP l ps name r n from .inr ⟨i, n, rfl, HN.out, HV.out.trans hcv, HP.out⟩).eq; go_wp2_with fail; go_ret; exact ⟨by rw [← HF.out]; rfl, hbz⟩
  ·have HF : Hid ((-1 : Int) = ofN l ps name r) := (show OfP l ps name r (-1) from .inl ⟨rfl, fun j n h => HP.out j n (by have h2 := (List.getElem?_eq_some_iff.1 h).1; have := HK.out; omega) h⟩).eq; have t1 : decide ((i : Int) < (k : Int)) = false := by simp; omega
   go_wp2_with fail; go_ret; exact ⟨by rw [← HF.out]; rfl, hbw⟩
end Go.Proofs.Yticobffjnjbjiaa
namespace Go.Proofs.Yticobffjnjbjiaa
open Go Go.RowKit
theorem built_ritem {it : IT} : (Try.prog).built 122 [(0, .string it.test), (1, .agg (cellsR it.r).toArray), (2, .int .i64 it.p)] = some (cellsI it).toArray := by kernel_rfl
theorem info_ritem : (Try.prog.info? 122).map (fun i => (i.zero, i.size, i.bytes)) = some (some zeroI, 24, 96) := by kernel_rfl
theorem infoRI {it : IT} : (Try.prog.info? 122).map (·.size) = some (cellsI it).toArray.size := by kernel_rfl
theorem infoRIL {it : IT} : (Try.prog.info? 122).map (·.size) = some (cellsI it).length := by kernel_rfl
theorem wp_buildW {P : Program} {o : Oper} {a : Act} {w : World} {K : Act → World → Prop} {Q : Exit → Act → World → Prop} (t : TypeId) (pl : List (Nat × Operand)) (ho : o.op = .build t pl.toArray)
  (cells : Array Value) (vals : List (Nat × Value)) (hv : (pl.map fun (i, x) => (i, a.eval x)) = vals) (hf : P.built t vals = some cells) (h : K (a.put o.dst (.agg cells)) w) : o.wp P a w K Q :=
 wp_buildTo t _ ho cells (by rw [← hv] at hf; simpa using hf) h
theorem results_rline {fn : Func} {p u : Tmp} {tmps : Array Value} {w : World} {g : Nat} {vp vs : Value} (h : fn.results = #[.cell p 72, .tmp u]) (hp : tmps.getD p undef = .pointer (some ⟨g, 0, none⟩)) (hb : Blk w g 72 #[vp, vs]) :
  (results fn tmps).run Try.prog w = .ok (.tuple #[.agg #[vp, vs], tmps.getD u undef]) w := by
 rw [results_cell_tmp h, hp]; simp only [asAddr, Result.andThen, Sem.run_pure]; rw [run_loadVar_mid w g 0 72 [vp, vs] _ (Blk.range hb) Try.underlying72 rfl (by kernel_rfl)]
def PhiQ9 (Al A : Option Addr) (kl cl k c bt offt kt ct b off ks cs i : Nat) (name : ByteArray) (r : RC0) (P0 : Int) (j : Nat) (w : World) (x : Value) : Prop :=
 match j with
 | 0 => x = .slice Al kl cl
 | 1 => x = .slice A k c
 | 2 => x = .slice (some ⟨bt, offt, none⟩) kt ct
 | 3 => x = .int .i64 (i : Nat)
 | 4 => x = .pointer (some ⟨bt, offt + i, none⟩)
 | 5 => x = .string name
 | 6 => x = .slice (some ⟨b, off, none⟩) ks cs
 | 7 => x = .int .i64 (i : Nat)
 | 8 => x = .pointer (some ⟨b, off + i * 22, none⟩)
 | 9 => x = .agg #[.int .i64 r.oc, .string r.at_, .int .i64 r.st, r.v3, r.v4, r.v5, r.v6, r.v7, r.v8, r.v9, r.v10, r.v11, r.v12, r.v13, r.v14, r.v15, r.v16, r.v17, r.v18, r.v19, r.v20, r.v21]
 | 10 => x = .int .i64 P0
 | 11 => x = .int .i64 P0
 | _ => True
def PhiQ10 (N bt offt kt ct b off ks cs i : Nat) (name : ByteArray) (r : RC0) (P0 : Int) (item : Array Value) (vs : Nat → Value) (j : Nat) (w : World) (x : Value) : Prop :=
 match j with
 | 0 => x = .slice (some ⟨bt, offt, none⟩) kt ct
 | 1 => x = .int .i64 (i : Nat)
 | 2 => x = .pointer (some ⟨bt, offt + i, none⟩)
 | 3 => x = .string name
 | 4 => x = .slice (some ⟨b, off, none⟩) ks cs
 | 5 => x = .int .i64 (i : Nat)
 | 6 => x = .pointer (some ⟨b, off + i * 22, none⟩)
 | 7 => x = .agg #[.int .i64 r.oc, .string r.at_, .int .i64 r.st, r.v3, r.v4, r.v5, r.v6, r.v7, r.v8, r.v9, r.v10, r.v11, r.v12, r.v13, r.v14, r.v15, r.v16, r.v17, r.v18, r.v19, r.v20, r.v21]
 | 8 => x = .int .i64 P0
 | 9 => x = .agg item
 | 10 => ∃ g, x = .pointer (some ⟨g, 0, none⟩) ∧ N ≤ g ∧ ∃ arr, Blk w g 122 arr ∧ arr.size = item.size
 | 11 => ∃ g, vs 10 = .pointer (some ⟨g, 0, none⟩) ∧ Blk w g 122 item
 | _ => True
theorem PhiQ10.keep {N bt offt kt ct b off ks cs i : Nat} {name : ByteArray} {r : RC0} {P0 : Int} {item : Array Value} : ∀ vs (w w' : World), RD N 122 item w w' → ∀ j x, PhiQ10 N bt offt kt ct b off ks cs i name r P0 item vs j w x → PhiQ10 N bt offt kt ct b off ks cs i name r P0 item vs j w' x := by
 intro vs w w' hb j x h; unfold PhiQ10 at h ⊢
 split <;> simp only at h ⊢ <;> first | exact h | skip
 ·obtain ⟨g, e, h1, arr, h2, h3⟩ := h; exact ⟨g, e, h1, (hb.2 g arr h2 h3).1⟩
 ·obtain ⟨g, e, h2⟩ := h; exact ⟨g, e, (hb.2 g item h2 rfl).2 rfl⟩
set_option maxRecDepth 100000 in
set_option maxHeartbeats 4000000 in
theorem rdecide_n (Al A T S : Option Addr) (kl cl k c kt ct ks cs : Nat) (l : List Int) (ps : List PC) (names : List ByteArray) (rs : List RC0) (w : World) (hp : RowS cellsP w Al kl ps) (hr : RowS intC w A k l) (ht : RowS strC w T kt names) (hs : RowS cellsR w S ks rs) (HS : Hid (∀ x ∈ rs, ∀ v ∈ cellsR x, v.oneCell' = true)) (hks : ks ≤ 1073741824) :
  Calls Try.prog 28 #[.slice Al kl cl, .slice A k c, .slice T kt ct, .slice S ks cs] w fun e w' => ∃ vp np vs ns, ∃ er : Int, e = .returned (.tuple #[.agg #[vp, vs], .int .i64 er]) ∧ Hid (er = fitE kl l kt ks rs) ∧ w'.ownsRow w.heap.size 122 24 vp np ((pasL (l.map Int.toNat) ps (if er = 0 then names.zip rs else [])).flatMap cellsI) ∧ w'.ownsRow w.heap.size 122 24 vs ns ((stoL (l.map Int.toNat) ps (if er = 0 then names.zip rs else [])).flatMap cellsI) ∧ Below w.heap.size w w' := by
 have hkl := hp.2.2; have hkt := ht.2.2; have hks := hs.2.2
 go_enter Try.func28, Try.ntmps28
 go_upto_region 1 with fail; refine wp_name ?_; intro w1 HW1; have hb1 : Below w.heap.size w w1 := by rw [HW1.out]; exact bA _ _
 have B8 : Blk w1 w.heap.size 72 #[.slice none 0 0, .slice none 0 0] := by rw [HW1.out]; exact Blk.new _ _ _
 clear HW1; go_wp2_with fail; refine (ranged_n Al A kl cl k c l _ (hr.below hb1) hkl).mono ?_; rintro e w' ⟨rfl, rfl⟩; by_cases hR : l.any (outB kl) = true
 ·rw [hR]; have HE : Hid ((5 : Int) = fitE kl l kt ks rs) := by show _ = _; unfold fitE; rw [if_pos hR]
  have q1 := B8.frozen 0; have q2 := B8.frozen 1; have q3 := B8.cell 0; have q4 := B8.cell 1; simp only [List.getElem?_toArray, List.getElem?_cons_zero, List.getElem?_cons_succ] at q3 q4; have B9 := Blk.set_ (Blk.set_ B8 0 (.slice none 0 0)) 1 (.slice none 0 0); have hbr := (hb1.setCell (p := ⟨w.heap.size, 0, none⟩) (Nat.le_refl _) (.slice none 0 0)).setCell (p := ⟨w.heap.size, 1, none⟩) (Nat.le_refl _) (.slice none 0 0); go_wp2_with fail
  (try simp only [Exit.inBlock, Exit.then])
  refine bodyPost_ret (results_rline rfl rfl B9) rfl ?_; refine ⟨_, 0, _, 0, 5, rfl, HE, ?_, ?_, hbr⟩
  ·rw [if_neg (by decide)]; exact World.ownsRow_nil _ _ _ _
  ·rw [if_neg (by decide)]; exact World.ownsRow_nil _ _ _ _
 ·have hR' : l.any (outB kl) = false := by simpa using hR
  rw [hR']; by_cases hT : kt = ks
  ·have t1 : ((kt : Int) != (ks : Int)) = false := by simp; omega
   go_wp2_with fail; refine (known_n S ks cs rs _ (hs.below hb1)).mono ?_; rintro e w' ⟨rfl, rfl⟩; by_cases hO : rs.any oddO = true
   ·rw [hO]; have HE : Hid ((1 : Int) = fitE kl l kt ks rs) := by show _ = _; unfold fitE; rw [if_neg (by simpa using hR), if_neg (by omega), if_pos hO]
    have q1 := B8.frozen 0; have q2 := B8.frozen 1; have q3 := B8.cell 0; have q4 := B8.cell 1; simp only [List.getElem?_toArray, List.getElem?_cons_zero, List.getElem?_cons_succ] at q3 q4; have B9 := Blk.set_ (Blk.set_ B8 0 (.slice none 0 0)) 1 (.slice none 0 0); have hbr := (hb1.setCell (p := ⟨w.heap.size, 0, none⟩) (Nat.le_refl _) (.slice none 0 0)).setCell (p := ⟨w.heap.size, 1, none⟩) (Nat.le_refl _) (.slice none 0 0); go_wp2_with fail
    (try simp only [Exit.inBlock, Exit.then])
    refine bodyPost_ret (results_rline rfl rfl B9) rfl ?_; refine ⟨_, 0, _, 0, 1, rfl, HE, ?_, ?_, hbr⟩
    ·rw [if_neg (by decide)]; exact World.ownsRow_nil _ _ _ _
    ·rw [if_neg (by decide)]; exact World.ownsRow_nil _ _ _ _
   ·have hO' : rs.any oddO = false := by simpa using hO
    rw [hO']; have HE : Hid ((0 : Int) = fitE kl l kt ks rs) := by show _ = _; unfold fitE; rw [if_neg (by simpa using hR), if_neg (by omega), if_neg hO]
    obtain ⟨Lz, HLz⟩ : ∃ L, Hid (L = l.map Int.toNat) := ⟨_, rfl⟩
    obtain ⟨hnat, HIN⟩ : RowS natC w A k Lz ∧ Hid (∀ n ∈ Lz, n < kl) := by
     have := nat_of hr (fun n hn => by simpa using List.any_eq_false.1 hR' n hn) HLz.out; exact ⟨this.1, fun n hn => by obtain ⟨j, hj⟩ := List.getElem?_of_mem hn; exact this.2.out j n hj⟩
    clear hR hR' hO hO' hr; go_upto_region 5 with fail; subst hT; obtain ⟨w2, hw2⟩ : ∃ w2, w2 = w1 := ⟨_, rfl⟩; subst hw2; have B10 := Blk.new w2 72 #[.slice none 0 0, .slice none 0 0]; have hb23 := bA w2 (.cells #[.slice none 0 0, .slice none 0 0] 72); obtain ⟨xs, HXS⟩ : ∃ xs, Hid (xs = names.zip rs) := ⟨_, rfl⟩; have HXL : Hid (names.length = kt ∧ rs.length = kt) := ⟨ht.2.1.symm, hs.2.1.symm⟩; obtain ⟨i0, hi0, hz0, hz1, hz2⟩ := info_parts info_ritem; go_wp2_with fail
    go_loopg [11] kt (fun j x wr => ∃ (i : Nat) (vp : Value) (np : Nat) (vs : Value) (ns : Nat), x = .int .i64 i ∧ i + j = kt ∧ Blk wr w2.heap.size 72 #[vp, vs] ∧ wr.ownsRow (w2.heap.size + 1) 122 24 vp np ((pasL Lz ps (xs.take i)).flatMap cellsI) ∧ wr.ownsRow (w2.heap.size + 1) 122 24 vs ns ((stoL Lz ps (xs.take i)).flatMap cellsI) ∧ Apt vp vs ∧ np ≤ i ∧ ns ≤ i ∧ Below w2.heap.size w2 wr)
    case atStart => exact ⟨0, _, 0, _, 0, rfl, by omega, B10, World.ownsRow_nil _ _ _ _, World.ownsRow_nil _ _ _ _, fun g h => by simp [Value.ownBlock] at h, Nat.le_refl _, Nat.le_refl _, hb23⟩
    case round =>
     clear B10 hb23; obtain ⟨i, vp, np, vs, ns, rfl, hij, B, hop, hos, hap, hnp, hns, hbe⟩ := hrel; have hbr := Below.tr hb1 hbe; by_cases hi : i < kt
     ·have t2 : decide ((i : Int) < (kt : Int)) = true := by simp; omega
      have hii : (i : Int) < (kt : Int) := by omega
      have hil : i < rs.length := by have := HXL.out; omega
      obtain ⟨bt, offt, name, rfl, hct, HNM⟩ := (ht.below hbr).str hi; obtain ⟨b, off, rfl, HC⟩ := (hs.below hbr).at_ cellsR_len (by omega) hi hil; obtain ⟨r, HR⟩ : ∃ r, Hid (rs[i]? = some r) := ⟨rs[i], List.getElem?_eq_getElem hil⟩; have hri : rs[i] = r := by have := HR.out; rw [List.getElem?_eq_getElem hil] at this; injection this
      rw [hri] at HC; clear hri; have hone : ∀ v ∈ cellsR r, v.oneCell' = true := HS.out r (List.mem_of_getElem? HR.out)
      have HX : Hid (xs[i]? = some (name, r)) := by
       show _ = _; rw [HXS.out, List.getElem?_zip_eq_some.2]; exact ⟨HNM.out, HR.out⟩
      obtain ⟨P0, HP0⟩ : ∃ P0, Hid (P0 = ofN Lz ps name r) := ⟨_, rfl⟩
      have HONL : Hid (∀ v ∈ cellsI ⟨name, r, P0⟩, v.oneCell' = true) := by
       intro v hv; simp only [cellsI, List.mem_cons, List.not_mem_nil, or_false] at hv
       rcases hv with rfl | hv
       ·rfl
       ·have h : v ∈ cellsR r ∨ v = .int .i64 P0 := by
         simp only [cellsR, List.mem_cons, List.not_mem_nil, or_false, or_assoc]; exact hv
        rcases h with h | rfl
        ·exact hone v h
        ·rfl
      have HONI : Hid (((cellsI ⟨name, r, P0⟩).toArray : Array Value).all (·.oneCell') = true) := all_oneCell_toArray HONL.out; clear hone hil; go_upto_region 9 with fail; refine region_inv (PhiQ9 Al A kl cl k c bt offt kt ct b off kt cs i name r P0) (fun w w' => Below w.heap.size w w') (fun W => Below wr.heap.size wr W) (by kernel_rfl) (by kernel_rfl) (by kernel_rfl) (fun _ _ _ _ _ h => h) (fun _ _ hR hS => Below.tr hS hR) (bD _) ?_ ?_
      ·refine sK ?_ (sK ?_ (sK ?_ (sK ?_ (sK ?_ (sK ?_ (sK ?_ (sK ?_ (sK ?_ (sK ?_ (sK ?_ (sK ?_ (sZ))))))))))))
       ·as_aux_lemma =>
        intro vs W hS hdep K hK; refine ⟨?_⟩; simp only [fillR, Act.put, sA, sB, sC, Nat.zero_add, Nat.reduceAdd] at hK ⊢; go_simp; with_reducible refine hK _ _ (Below.refl _ _) ?_
        exact rfl
       ·as_aux_lemma =>
        intro vs W hS hdep K hK; refine ⟨?_⟩; simp only [fillR, Act.put, sA, sB, sC, Nat.zero_add, Nat.reduceAdd] at hK ⊢; go_simp; with_reducible refine hK _ _ (Below.refl _ _) ?_
        exact rfl
       ·as_aux_lemma =>
        intro vs W hS hdep K hK; refine ⟨?_⟩; simp only [fillR, Act.put, sA, sB, sC, Nat.zero_add, Nat.reduceAdd] at hK ⊢; go_simp; with_reducible refine hK _ _ (Below.refl _ _) ?_
        exact rfl
       ·as_aux_lemma =>
        intro vs W hS hdep K hK; refine ⟨?_⟩; simp only [fillR, Act.put, sA, sB, sC, Nat.zero_add, Nat.reduceAdd] at hK ⊢; go_simp; with_reducible refine hK _ _ (Below.refl _ _) ?_
        exact rfl
       ·as_aux_lemma =>
        intro vs W hS hdep K hK; have d0 := hdep ⟨2, .data⟩ (by simp) rfl; simp only [PhiQ9] at d0; have d1 := hdep ⟨3, .data⟩ (by simp) rfl; simp only [PhiQ9] at d1; refine ⟨?_⟩; simp only [fillR, Act.put, sA, sB, sC, Nat.zero_add, Nat.reduceAdd, d0, d1] at hK ⊢; go_simp; with_reducible refine hK _ _ (Below.refl _ _) ?_
        exact rfl
       ·as_aux_lemma =>
        intro vs W hS hdep K hK; have d0 := hdep ⟨4, .data⟩ (by simp) rfl; simp only [PhiQ9] at d0; have ft := cell_keep hS hct; refine ⟨?_⟩; simp only [fillR, Act.put, sA, sB, sC, Nat.zero_add, Nat.reduceAdd, d0] at hK ⊢; go_simp; with_reducible refine hK _ _ (Below.refl _ _) ?_
        exact rfl
       ·as_aux_lemma =>
        intro vs W hS hdep K hK; refine ⟨?_⟩; simp only [fillR, Act.put, sA, sB, sC, Nat.zero_add, Nat.reduceAdd] at hK ⊢; go_simp; with_reducible refine hK _ _ (Below.refl _ _) ?_
        exact rfl
       ·as_aux_lemma =>
        intro vs W hS hdep K hK; refine ⟨?_⟩; simp only [fillR, Act.put, sA, sB, sC, Nat.zero_add, Nat.reduceAdd] at hK ⊢; go_simp; with_reducible refine hK _ _ (Below.refl _ _) ?_
        exact rfl
       ·as_aux_lemma =>
        intro vs W hS hdep K hK; have d0 := hdep ⟨6, .data⟩ (by simp) rfl; simp only [PhiQ9] at d0; have d1 := hdep ⟨7, .data⟩ (by simp) rfl; simp only [PhiQ9] at d1; refine ⟨?_⟩; simp only [fillR, Act.put, sA, sB, sC, Nat.zero_add, Nat.reduceAdd, d0, d1] at hK ⊢; go_simp; with_reducible refine hK _ _ (Below.refl _ _) ?_
        exact rfl
       ·as_aux_lemma =>
        intro vs W hS hdep K hK; have d0 := hdep ⟨8, .data⟩ (by simp) rfl; simp only [PhiQ9] at d0; refine ⟨?_⟩; simp only [fillR, Act.put, sA, sB, sC, Nat.zero_add, Nat.reduceAdd, d0] at hK ⊢; rw [if_pos (by rfl)]; refine wp_load_mid 64 (.tmp 44) (by rfl) b (off + i * 22) (by rfl) (cellsR r) _ (fun j v h => cell_keep hS (HC.out j v h)) Try.underlying64 (by rfl) infoR ?_; simp only [Act.put, sA, sB, sC]; with_reducible refine hK _ _ (Below.refl _ _) ?_
        exact rfl
       ·as_aux_lemma =>
        intro vs W hS hdep K hK; have d0 := hdep ⟨0, .data⟩ (by simp) rfl; simp only [PhiQ9] at d0; have d1 := hdep ⟨1, .data⟩ (by simp) rfl; simp only [PhiQ9] at d1; have d2 := hdep ⟨5, .data⟩ (by simp) rfl; simp only [PhiQ9] at d2; have d3 := hdep ⟨9, .data⟩ (by simp) rfl; simp only [PhiQ9] at d3; refine ⟨?_⟩; simp only [fillR, Act.put, sA, sB, sC, Nat.zero_add, Nat.reduceAdd, d0, d1, d2, d3] at hK ⊢; go_simp; refine (ofr_n Al A kl cl k c Lz ps name r _ (hp.below (Below.tr hbr hS)) (hnat.below (Below.tr hbr hS)) HIN).mono ?_; rintro e w' ⟨rfl, hb⟩; go_wp2_with fail; with_reducible refine hK _ _ hb ?_
        exact (by simp only [PhiQ9]; rw [HP0.out])
       ·as_aux_lemma =>
        intro vs W hS hdep K hK; have d0 := hdep ⟨10, .data⟩ (by simp) rfl; simp only [PhiQ9] at d0; refine ⟨?_⟩; simp only [fillR, Act.put, sA, sB, sC, Nat.zero_add, Nat.reduceAdd, d0] at hK ⊢; go_simp; with_reducible refine hK _ _ (Below.refl _ _) ?_
        exact rfl
      ·intro vs9 w9 hS hv; have v11 := hv 11 (by simp); simp only [PhiQ9] at v11; simp only [fillR, Act.put, sA, sB, sC, Nat.zero_add, Nat.reduceAdd, v11]; have B := Blk.below B hS B.lt; have hop := own_below hop hS; have hos := own_below hos hS; have hbe := Below.tr hbe hS; have hct := cell_keep hS hct; have HC : Hid (∀ j v, (cellsR r)[j]? = some v → w9.cell? ⟨b, off + i * 22 + j, none⟩ = some v) := fun j v h => cell_keep hS (HC.out j v h)
       clear hv v11 hS; go_upto_region 10 with fail; refine region_invd (PhiQ10 w9.heap.size bt offt kt ct b off kt cs i name r P0 (cellsI ⟨name, r, P0⟩).toArray) (RD w9.heap.size 122 (cellsI ⟨name, r, P0⟩).toArray) (fun W => Below w9.heap.size w9 W) (by kernel_rfl) (by kernel_rfl) (by kernel_rfl) PhiQ10.keep (fun _ _ hR hS => hS.trans hR.1) ?_ (bD _) ?_ ?_
       ·exact sK (fun _ _ _ _ _ h => h) (sK (fun _ _ _ _ _ h => h) (sK (fun _ _ _ _ _ h => h) (sK (fun _ _ _ _ _ h => h) (sK (fun _ _ _ _ _ h => h) (sK (fun _ _ _ _ _ h => h) (sK (fun _ _ _ _ _ h => h) (sK (fun _ _ _ _ _ h => h) (sK (fun _ _ _ _ _ h => h) (sK (fun _ _ _ _ _ h => h) (sK (fun _ _ _ _ _ h => h) (sK (by intro vs vs' w x h; have h1 := h ⟨10, .data⟩ (by simp) rfl; simp only [PhiQ10]; rw [h1]; exact id) (sZ))))))))))))
       ·refine sK ?_ (sK ?_ (sK ?_ (sK ?_ (sK ?_ (sK ?_ (sK ?_ (sK ?_ (sK ?_ (sK ?_ (sK ?_ (sK ?_ (sZ))))))))))))
        ·as_aux_lemma =>
         intro vs W hS hdep K hK; refine ⟨?_⟩; simp only [fillR, Act.put, sA, sB, sC, Nat.zero_add, Nat.reduceAdd] at hK ⊢; go_simp; with_reducible refine hK _ _ (RD.of hS (Below.refl _ _)) ?_
         exact rfl
        ·as_aux_lemma =>
         intro vs W hS hdep K hK; refine ⟨?_⟩; simp only [fillR, Act.put, sA, sB, sC, Nat.zero_add, Nat.reduceAdd] at hK ⊢; go_simp; with_reducible refine hK _ _ (RD.of hS (Below.refl _ _)) ?_
         exact rfl
        ·as_aux_lemma =>
         intro vs W hS hdep K hK; have d0 := hdep ⟨0, .data⟩ (by simp) rfl; simp only [PhiQ10] at d0; have d1 := hdep ⟨1, .data⟩ (by simp) rfl; simp only [PhiQ10] at d1; refine ⟨?_⟩; simp only [fillR, Act.put, sA, sB, sC, Nat.zero_add, Nat.reduceAdd, d0, d1] at hK ⊢; go_simp; with_reducible refine hK _ _ (RD.of hS (Below.refl _ _)) ?_
         exact rfl
        ·as_aux_lemma =>
         intro vs W hS hdep K hK; have d0 := hdep ⟨2, .data⟩ (by simp) rfl; simp only [PhiQ10] at d0; have ft := cell_keep hS hct; refine ⟨?_⟩; simp only [fillR, Act.put, sA, sB, sC, Nat.zero_add, Nat.reduceAdd, d0] at hK ⊢; go_simp; with_reducible refine hK _ _ (RD.of hS (Below.refl _ _)) ?_
         exact rfl
        ·as_aux_lemma =>
         intro vs W hS hdep K hK; refine ⟨?_⟩; simp only [fillR, Act.put, sA, sB, sC, Nat.zero_add, Nat.reduceAdd] at hK ⊢; go_simp; with_reducible refine hK _ _ (RD.of hS (Below.refl _ _)) ?_
         exact rfl
        ·as_aux_lemma =>
         intro vs W hS hdep K hK; refine ⟨?_⟩; simp only [fillR, Act.put, sA, sB, sC, Nat.zero_add, Nat.reduceAdd] at hK ⊢; go_simp; with_reducible refine hK _ _ (RD.of hS (Below.refl _ _)) ?_
         exact rfl
        ·as_aux_lemma =>
         intro vs W hS hdep K hK; have d0 := hdep ⟨4, .data⟩ (by simp) rfl; simp only [PhiQ10] at d0; have d1 := hdep ⟨5, .data⟩ (by simp) rfl; simp only [PhiQ10] at d1; refine ⟨?_⟩; simp only [fillR, Act.put, sA, sB, sC, Nat.zero_add, Nat.reduceAdd, d0, d1] at hK ⊢; go_simp; with_reducible refine hK _ _ (RD.of hS (Below.refl _ _)) ?_
         exact rfl
        ·as_aux_lemma =>
         intro vs W hS hdep K hK; have d0 := hdep ⟨6, .data⟩ (by simp) rfl; simp only [PhiQ10] at d0; refine ⟨?_⟩; simp only [fillR, Act.put, sA, sB, sC, Nat.zero_add, Nat.reduceAdd, d0] at hK ⊢; rw [if_pos (by rfl)]; refine wp_load_mid 64 (.tmp 53) (by rfl) b (off + i * 22) (by rfl) (cellsR r) _ (fun j v h => cell_keep hS (HC.out j v h)) Try.underlying64 (by rfl) infoR ?_; simp only [Act.put, sA, sB, sC]; with_reducible refine hK _ _ (RD.of hS (Below.refl _ _)) ?_
         exact rfl
        ·as_aux_lemma =>
         intro vs W hS hdep K hK; refine ⟨?_⟩; simp only [fillR, Act.put, sA, sB, sC, Nat.zero_add, Nat.reduceAdd] at hK ⊢; go_simp; with_reducible refine hK _ _ (RD.of hS (Below.refl _ _)) ?_
         exact rfl
        ·as_aux_lemma =>
         intro vs W hS hdep K hK; have d0 := hdep ⟨3, .data⟩ (by simp) rfl; simp only [PhiQ10] at d0; have d1 := hdep ⟨7, .data⟩ (by simp) rfl; simp only [PhiQ10] at d1; have d2 := hdep ⟨8, .data⟩ (by simp) rfl; simp only [PhiQ10] at d2; refine ⟨?_⟩; simp only [fillR, Act.put, sA, sB, sC, Nat.zero_add, Nat.reduceAdd, d0, d1, d2] at hK ⊢; rw [if_pos (by rfl)]; refine wp_buildW 122 [(0, .tmp 50), (1, .tmp 54), (2, .tmp 55)] (by rfl) (cellsI ⟨name, r, P0⟩).toArray [(0, .string name), (1, .agg (cellsR r).toArray), (2, .int .i64 P0)] (by rfl) (built_ritem (it := ⟨name, r, P0⟩)) ?_; simp only [Act.put, sA, sB, sC]; with_reducible refine hK _ _ (RD.of hS (Below.refl _ _)) ?_
         exact rfl
        ·as_aux_lemma =>
         intro vs W hS hdep K hK; refine ⟨?_⟩; simp only [fillR, Act.put, sA, sB, sC, Nat.zero_add, Nat.reduceAdd] at hK ⊢; go_simp; with_reducible refine hK _ _ (RD.of hS (bA _ _)) ?_
         exact ⟨_, rfl, hS.size, _, Blk.new _ _ _, rfl⟩
        ·as_aux_lemma =>
         intro vs W hS hdep K hK; have d0 := hdep ⟨10, .data⟩ (by simp) rfl; simp only [PhiQ10] at d0; refine @exE1 _ _ _ d0 ?_; clear d0; intro g0 d0; have E0 := d0.1; have LE0 := d0.2.1; have B0 := d0.2.2; clear d0; have d1 := hdep ⟨9, .data⟩ (by simp) rfl; simp only [PhiQ10] at d1; refine @exE1 _ _ _ B0 ?_; intro arr BA; have BA1 := BA.1; have BA2 := BA.2; clear BA B0; refine ⟨?_⟩; simp only [fillR, Act.put, sA, sB, sC, Nat.zero_add, Nat.reduceAdd, E0, d1] at hK ⊢; rw [if_pos (by rfl)]; refine wp_store_mid 122 (.tmp 13) (.tmp 56) (by rfl) g0 0 (cellsI ⟨name, r, P0⟩).toArray (by rfl) (by rfl) (Blk.there BA1 BA2) (infoRI (it := ⟨name, r, P0⟩)) HONI.out ?_; simp only [Act.put, sA, sB, sC]; with_reducible refine hK undef _ (RD.set hS LE0 BA1 BA2) ?_
         exact ⟨_, E0, Blk.setAll BA1 BA2⟩
       ·intro vsA W9 hS hv; have v10 := hv 10 (by simp); have v11 := hv 11 (by simp); simp only [PhiQ10] at v10 v11; obtain ⟨g, e13, hge, _⟩ := v10; obtain ⟨g', e14, BI⟩ := v11; obtain rfl : g' = g := by rw [e13] at e14; injection e14 with e; injection e with e; injection e with e; exact e.symm
        simp only [fillR, Act.put, sA, sB, sC, Nat.zero_add, Nat.reduceAdd, e13]
        have hbb : b < w2.heap.size := by
         have h0 := (hs.below hb1).at_ cellsR_len (by omega) hi (by have := HXL.out; omega); obtain ⟨b', off', e0, HC'⟩ := h0; have := cell_lt (HC'.out 0 _ rfl); injection e0 with e0; injection e0 with e0 _
         show b < _
         rw [e0]; exact this
        have B := Blk.below B hS B.lt; have hop := own_below hop hS; have hos := own_below hos hS; have hbe := Below.tr hbe hS; have hoc := cell_keep hS (HC.out 0 _ rfl); rw [Nat.add_zero] at hoc; clear hv e13 e14 hS hct HC; by_cases ho : r.oc = 0
        ·have hd : (r.oc != 0) = false := by simpa using ho
         have HST := Lib.hid (step_none (l := Lz) (ps := ps) HX.out ho); clear ho; go_wp2_with fail
         go_roundg (gk - 1)
         case measure => omega
         case rel =>
          refine ⟨i + 1, vp, np, vs, ns, by go_num, by omega, B, ?_, ?_, hap, by omega, by omega, hbe⟩
          ·rw [HST.out.1]; exact hop
          ·rw [HST.out.2]; exact hos
        ·have hd : (r.oc != 0) = true := by simpa using ho
         by_cases hneg : P0 < 0
         ·have HST := step_sto (l := Lz) (ps := ps) HX.out ho (by rw [← HP0.out]; exact hneg); rw [← HP0.out] at HST; have HST := Lib.hid HST; have hd2 : decide (P0 < 0) = true := by simpa using hneg
          have hd3 : decide (P0 ≥ 0) = false := by simp; omega
          clear ho; obtain ⟨W10, HW10⟩ : ∃ W, Hid (W = W9.alloc (.cells (cellsI ⟨name, r, P0⟩).toArray 122)) := ⟨_, rfl⟩; have hb10 : Below W9.heap.size W9 W10 := by rw [HW10.out]; exact bA _ _
          have B10 := Blk.below B hb10 B.lt; have hop10 := own_below hop hb10; have hos10 := own_below hos hb10; have hbe10 := Below.tr hbe hb10; have hrd : Rd W10 (some ⟨W9.heap.size, 0, none⟩) (cellsI ⟨name, r, P0⟩) := by rw [HW10.out]; exact Rd.fresh _ _ _
          have hsz10 : w2.heap.size + 1 ≤ W10.heap.size := B10.lt; have q0 := B.cell 1; simp only [List.getElem?_toArray, List.getElem?_cons_zero, List.getElem?_cons_succ] at q0; have q9 := cell_keep hb10 q0; have hnb : ∀ j, Value.ownBlock vs = some j → w2.heap.size ≠ j := fun j h => by have := own_block_ge hos10 j h; omega
          go_wp2_with (first | (refine wpList_load_mid rfl 122 (.tmp 13) rfl g' 0 rfl (cellsI ⟨name, r, P0⟩) _ (Blk.range BI) Try.underlying122 rfl (infoRIL (it := ⟨name, r, P0⟩)) ?_; simp only [Act.put, sA, sB, sC]) | (refine wpList_sliceN rfl 70 122 1 [(0, .tmp 85)] rfl (cellsI ⟨name, r, P0⟩).toArray i0 zeroI 24 [(0, .agg (cellsI ⟨name, r, P0⟩).toArray)] Try.underlying70 hi0 hz0 hz1 (by omega) (by omega) rfl (fill_item ⟨name, r, P0⟩) ?_; rw [← HW10.out]; simp only [Act.put, sA, sB, sC]) | (at_builtin; go_loud (refine wpList_append_any _ rfl (.tmp 84) (.tmp 86) _ rfl (w2.heap.size + 1) 122 i0 _ 24 96 Try.underlying70 hi0 hz0 hz1 hz2 zeroI_size (by omega) _ ns _ rfl hos10 _ 1 1 (cellsI ⟨name, r, P0⟩) rfl rfl hrd HONL.out (by simp only [maxLen]; omega) (by omega) hsz10 ?_); intro v1 w11 hown1 hg1 hat1; obtain ⟨A1, c1, rfl⟩ := own_shp hown1; have B11 := Blk.grown B10 hg1 hnb; have q1 := B11.frozen 1; have q2 := B11.cell 1; simp only [List.getElem?_toArray, List.getElem?_cons_zero, List.getElem?_cons_succ] at q2))
          have hoth := own_other hop10 hg1 hap.symm; have hap2 := Apt.step hop10 hap.symm hat1; have hbe11 := hbe10.grown hg1 hbe10.size (fun j h => by have := own_block_ge hos10 j h; omega)
          go_roundg (gk - 1)
          case measure => omega
          case rel =>
           refine ⟨i + 1, vp, np, _, ns + 1, by go_num, by omega, Blk.set_ B11 1 _, ?_, ?_, hap2.symm, by omega, by omega, hbe11.setCell (p := ⟨w2.heap.size, 1, none⟩) (Nat.le_refl _) _⟩
           ·rw [HST.out.1]; exact own_set hoth (p := ⟨w2.heap.size, 1, none⟩) (by show w2.heap.size < _; omega) _
           ·rw [HST.out.2, List.flatMap_append]; exact own_set hown1 (p := ⟨w2.heap.size, 1, none⟩) (by show w2.heap.size < _; omega) _

         ·have HST := step_pas (l := Lz) (ps := ps) HX.out ho (by rw [← HP0.out]; omega); rw [← HP0.out] at HST; have HST := Lib.hid HST; have hd2 : decide (P0 < 0) = false := by simpa using hneg
          have hd3 : decide (P0 ≥ 0) = true := by simp; omega
          clear ho; obtain ⟨W10, HW10⟩ : ∃ W, Hid (W = W9.alloc (.cells (cellsI ⟨name, r, P0⟩).toArray 122)) := ⟨_, rfl⟩; have hb10 : Below W9.heap.size W9 W10 := by rw [HW10.out]; exact bA _ _
          have B10 := Blk.below B hb10 B.lt; have hop10 := own_below hop hb10; have hos10 := own_below hos hb10; have hbe10 := Below.tr hbe hb10; have hrd : Rd W10 (some ⟨W9.heap.size, 0, none⟩) (cellsI ⟨name, r, P0⟩) := by rw [HW10.out]; exact Rd.fresh _ _ _
          have hsz10 : w2.heap.size + 1 ≤ W10.heap.size := B10.lt; have q0 := B.cell 0; simp only [List.getElem?_toArray, List.getElem?_cons_zero, List.getElem?_cons_succ] at q0; have q9 := cell_keep hb10 q0; have hnb : ∀ j, Value.ownBlock vp = some j → w2.heap.size ≠ j := fun j h => by have := own_block_ge hop10 j h; omega
          go_upto_region 13 with (first | (refine wpList_load_mid rfl 122 (.tmp 13) rfl g' 0 rfl (cellsI ⟨name, r, P0⟩) _ (Blk.range BI) Try.underlying122 rfl (infoRIL (it := ⟨name, r, P0⟩)) ?_; simp only [Act.put, sA, sB, sC]) | (refine wpList_sliceN rfl 70 122 1 [(0, .tmp 69)] rfl (cellsI ⟨name, r, P0⟩).toArray i0 zeroI 24 [(0, .agg (cellsI ⟨name, r, P0⟩).toArray)] Try.underlying70 hi0 hz0 hz1 (by omega) (by omega) rfl (fill_item ⟨name, r, P0⟩) ?_; rw [← HW10.out]; simp only [Act.put, sA, sB, sC]) | (at_builtin; go_loud (refine wpList_append_any _ rfl (.tmp 68) (.tmp 70) _ rfl (w2.heap.size + 1) 122 i0 _ 24 96 Try.underlying70 hi0 hz0 hz1 hz2 zeroI_size (by omega) _ np _ rfl hop10 _ 1 1 (cellsI ⟨name, r, P0⟩) rfl rfl hrd HONL.out (by simp only [maxLen]; omega) (by omega) hsz10 ?_); intro v1 w11 hown1 hg1 hat1; obtain ⟨A1, c1, rfl⟩ := own_shp hown1; have B11 := Blk.grown B10 hg1 hnb; have q1 := B11.frozen 0; have q2 := B11.cell 0; simp only [List.getElem?_toArray, List.getElem?_cons_zero, List.getElem?_cons_succ] at q2))
          have hoth := own_other hos10 hg1 hap; have hap2 := Apt.step hos10 hap hat1; have hbe11 := hbe10.grown hg1 hbe10.size (fun j h => by have := own_block_ge hop10 j h; omega); have hoc11 : w11.cell? ⟨b, off + i * 22, none⟩ = some (.int .i64 r.oc) := World.grownBy.cell hg1 (cell_keep hb10 hoc) (fun e => by have := own_block_ge hop10 b e.symm; omega); refine wp_name ?_; intro W12 HW12; have B12 : Blk W12 w2.heap.size 72 #[.slice A1 (np + 1) c1, vs] := by rw [HW12.out]; exact Blk.set_ B11 0 _
          have hoc12 : W12.cell? ⟨b, off + i * 22, none⟩ = some (.int .i64 r.oc) := by rw [HW12.out]; exact (World.cell?_of_block (Below.heap_setCell _ _ _ _ (by show b ≠ w2.heap.size; omega))).trans hoc11
          have hop12 : W12.ownsRow (w2.heap.size + 1) 122 24 (.slice A1 (np + 1) c1) (np + 1) ((pasL Lz ps (xs.take (i + 1))).flatMap cellsI) := by rw [HW12.out, HST.out.1, List.flatMap_append]; exact own_set hown1 (p := ⟨w2.heap.size, 0, none⟩) (by show w2.heap.size < _; omega) _
          have hos12 : W12.ownsRow (w2.heap.size + 1) 122 24 vs ns ((stoL Lz ps (xs.take (i + 1))).flatMap cellsI) := by rw [HW12.out, HST.out.2]; exact own_set hoth (p := ⟨w2.heap.size, 0, none⟩) (by show w2.heap.size < _; omega) _
          have hbe12 : Below w2.heap.size w2 W12 := by rw [HW12.out]; exact hbe11.setCell (p := ⟨w2.heap.size, 0, none⟩) (Nat.le_refl _) _
          clear HW12 B10 hop10 hos10 hbe10 hrd q0 q9 hoth hbe11 hoc11 B hop hos hbe BI q1 q2 B11 hown1 hg1 hb10 hoc HC hct; go_wp2_with fail
          go_roundg (gk - 1)
          case measure => omega
          case rel => exact ⟨i + 1, _, np + 1, _, ns, by go_num, by omega, B12, hop12, hos12, hap2, by omega, by omega, hbe12⟩

     ·obtain rfl : kt = i := by omega
      have t2 : decide ((kt : Int) < (kt : Int)) = false := by simp
      have HT : Hid (xs.take kt = names.zip rs) := by
       show _ = _; rw [HXS.out]; exact List.take_of_length_le (by simp [HXL.out])
      rw [HT.out] at hop hos; obtain ⟨Ap, cp, rfl⟩ := own_shp hop; obtain ⟨As, cs', rfl⟩ := own_shp hos; have B8' := Blk.below B8 hbe B8.lt; have q1 := B8'.frozen 0; have q2 := B8'.frozen 1; have q3 := B8'.cell 0; have q4 := B8'.cell 1; have q5 := B.cell 0; have q6 := B.cell 1; simp only [List.getElem?_toArray, List.getElem?_cons_zero, List.getElem?_cons_succ] at q3 q4 q5 q6; have B9 := Blk.set_ (Blk.set_ B8' 0 (.slice Ap np cp)) 1 (.slice As ns cs'); have hsz := hb1.size; have hbz := (hbr.setCell (p := ⟨w.heap.size, 0, none⟩) (Nat.le_refl _) (.slice Ap np cp)).setCell (p := ⟨w.heap.size, 1, none⟩) (Nat.le_refl _) (.slice As ns cs'); have hl8 := B8.lt; go_wp2_with fail
      (try simp only [Exit.inBlock, Exit.then])
      refine bodyPost_ret (results_rline rfl rfl B9) rfl ?_; refine ⟨_, np, _, ns, 0, rfl, HE, ?_, ?_, hbz⟩
      ·rw [if_pos rfl, ← HLz.out]; exact own_mono (own_set (own_set hop (p := ⟨w.heap.size, 0, none⟩) (by show w.heap.size < _; omega) _) (p := ⟨w.heap.size, 1, none⟩) (by show w.heap.size < _; omega) _) (by omega)
      ·rw [if_pos rfl, ← HLz.out]; exact own_mono (own_set (own_set hos (p := ⟨w.heap.size, 0, none⟩) (by show w.heap.size < _; omega) _) (p := ⟨w.heap.size, 1, none⟩) (by show w.heap.size < _; omega) _) (by omega)
  ·have t1 : ((kt : Int) != (ks : Int)) = true := by simp; omega
   have HE : Hid ((1 : Int) = fitE kl l kt ks rs) := by show _ = _; unfold fitE; rw [if_neg (by simpa using hR), if_pos (by omega)]
   have q1 := B8.frozen 0; have q2 := B8.frozen 1; have q3 := B8.cell 0; have q4 := B8.cell 1; simp only [List.getElem?_toArray, List.getElem?_cons_zero, List.getElem?_cons_succ] at q3 q4; have B9 := Blk.set_ (Blk.set_ B8 0 (.slice none 0 0)) 1 (.slice none 0 0); have hbr := (hb1.setCell (p := ⟨w.heap.size, 0, none⟩) (Nat.le_refl _) (.slice none 0 0)).setCell (p := ⟨w.heap.size, 1, none⟩) (Nat.le_refl _) (.slice none 0 0); go_wp2_with fail
   (try simp only [Exit.inBlock, Exit.then])
   refine bodyPost_ret (results_rline rfl rfl B9) rfl ?_; refine ⟨_, 0, _, 0, 1, rfl, HE, ?_, ?_, hbr⟩
   ·rw [if_neg (by decide)]; exact World.ownsRow_nil _ _ _ _
   ·rw [if_neg (by decide)]; exact World.ownsRow_nil _ _ _ _
end Go.Proofs.Yticobffjnjbjiaa
namespace Go.Proofs.Yticobffjnjbjiaa
open Go Go.RowKit
/-- an item whose result has cells of its fields' kinds -/
def ItTy (it : IT) : Prop := RcTy it.r
theorem RcTy.one {r : RC0} (h : RcTy r) : ∀ v ∈ cellsR r, v.oneCell' = true := by
 obtain ⟨c3, c4, c5, d6, d7, d8, d9, d10, d11, d12, d13, d14, d15, d16, d17, d18, d19, d20, d21, h⟩ := h; rw [h]; intro v hv; simp only [cellsR, List.mem_cons, List.not_mem_nil, or_false] at hv
 rcases hv with rfl | rfl | rfl | rfl | rfl | rfl | rfl | rfl | rfl | rfl | rfl | rfl | rfl | rfl | rfl | rfl | rfl | rfl | rfl | rfl | rfl | rfl <;> rfl
theorem cellsI_eq (it : IT) : cellsI it = .string it.test :: (cellsR it.r ++ [.int .i64 it.p]) := rfl
theorem ItTy.one {it : IT} (h : ItTy it) : ∀ v ∈ cellsI it, v.oneCell' = true := by
 intro v hv; rw [cellsI_eq] at hv; simp only [List.mem_cons, List.mem_append, List.not_mem_nil, or_false] at hv
 rcases hv with rfl | hv | rfl
 ·rfl
 ·exact RcTy.one h v hv
 ·rfl
theorem flatI_one {X : List IT} (h : ∀ it ∈ X, ItTy it) : ∀ v ∈ X.flatMap cellsI, v.oneCell' = true := by
 intro v hv; obtain ⟨it, h1, h2⟩ := List.mem_flatMap.1 hv; exact (h it h1).one v h2
theorem IT.ext' {x y : IT} (h1 : x.test = y.test) (h2 : x.r = y.r) (h3 : x.p = y.p) : x = y := by
 cases x; cases y; simp only at h1 h2 h3; rw [h1, h2, h3]
theorem take_sameG {α : Type} {l1 l2 : List α} {i : Nat} {a b : α} (h : l1.take i = l2.take i) (ha : l1[i]? = some a) (hb : l2[i]? = some b) (hab : a = b) : l1.take (i + 1) = l2.take (i + 1) := by
 obtain ⟨h1, e1⟩ := List.getElem?_eq_some_iff.1 ha; obtain ⟨h2, e2⟩ := List.getElem?_eq_some_iff.1 hb; rw [List.take_succ_eq_append_getElem h1, List.take_succ_eq_append_getElem h2, h, e1, e2, hab]
theorem str_eq {a b : ByteArray} : a.toList = b.toList ↔ a = b := by
 rw [ByteArray.toList_eq, ByteArray.toList_eq, ByteArray.ext_iff]; exact Array.toList_inj
set_option maxRecDepth 100000 in
open Classical in
theorem git_equal (w : World) (d : Nat) (x y : IT) (hx : ItTy x) (hy : ItTy y) : (Op.equalIn (d + 4) 66 (.agg (cellsI x).toArray) (.agg (cellsI y).toArray)).run Try.prog w = .ok (decide (x = y)) w := by
 obtain ⟨ir, hir⟩ : ∃ i, Try.prog.info? 64 = some i ∧ i.size = 22 := by
  have h : (Try.prog.info? 64).map (·.size) = some 22 := by kernel_rfl
  cases e : Try.prog.info? 64 with
  | none => rw [e] at h; cases h
  | some i => rw [e] at h; exact ⟨i, rfl, by simpa using h⟩
 rw [eq_struct w (d + 3) 66 _ _ [(true, 9, 0), (true, 64, 1), (true, 3, 23)] (by kernel_rfl) (by kernel_rfl) (by kernel_rfl)]; have hnil : (eqF (d + 3) (cellsI x).toArray (cellsI y).toArray []).run Try.prog w = .ok true w := by simp [eqF]
 have h : (eqF (d + 3) (cellsI x).toArray (cellsI y).toArray [(true, 9, 0), (true, 64, 1), (true, 3, 23)]).run Try.prog w = .ok ((x.test.toList == y.test.toList) && (decide (x.r = y.r) && ((x.p == y.p) && true))) w :=
  eqF_step w (run_part_plain w (by kernel_rfl) rfl) (run_part_plain w (by kernel_rfl) rfl) (run_equalIn_string w (d + 2) _ x.test y.test (by kernel_rfl))
  (eqF_step w (part_agg w hir.1 hir.2 (by kernel_rfl) (ys := (cellsR x.r).toArray) (by kernel_rfl)) (part_agg w hir.1 hir.2 (by kernel_rfl) (ys := (cellsR y.r).toArray) (by kernel_rfl)) (res_equal w d x.r y.r hx hy)
  (eqF_step w (run_part_plain w (by kernel_rfl) rfl) (run_part_plain w (by kernel_rfl) rfl) (run_equalIn_int w (d + 2) _ .i64 .i64 x.p y.p (by kernel_rfl)) hnil))
 refine h.trans ?_
 congr 1
 rw [Bool.eq_iff_iff, decide_eq_true_iff]; simp only [Bool.and_eq_true, decide_eq_true_iff, beq_iff_eq, str_eq, and_true]; exact ⟨fun h => IT.ext' h.1 h.2.1 h.2.2, fun h => by subst h; exact ⟨rfl, rfl, rfl⟩⟩
open Classical in
theorem quiet_neq_git (a : Act) (C : World → Prop) (w : World) (x y : Operand) (r s : IT) (hr : ItTy r) (hs : ItTy s) {b : Bool} (hb : b = true ↔ r = s) (hx : a.eval x = (.agg (cellsI r).toArray)) (hy : a.eval y = .agg (cellsI s).toArray) (o : Oper) (ho : o.op = .binOp .neq 66 x y 66) : o.quietAt Try.prog a C w (.bool (!b)) := by
 have h : (binOp .neq 66 (.agg (cellsI r).toArray) (.agg (cellsI s).toArray)).run Try.prog w = .ok (.bool (!b)) w := by
  rw [run_neq_struct, show (10000 : Nat) = 9996 + 4 from rfl, git_equal w 9996 r s hr hs, show decide (r = s) = b by rw [Bool.eq_iff_iff, decide_eq_true_iff]; exact hb.symm]; rfl
 unfold Oper.quietAt execOp; rw [ho]; simp only [hx, hy, Sem.run_bind, run_eqGuard_agg (P := Try.prog) w .neq 66 x y (cellsI r).toArray (cellsI s).toArray (by kernel_rfl), h, Result.andThen_ok, Sem.run_pure]; exact ⟨rfl, rfl⟩
set_option maxRecDepth 100000 in
open Classical in
theorem rit_equal (w : World) (d : Nat) (x y : IT) (hx : ItTy x) (hy : ItTy y) : (Op.equalIn (d + 4) 122 (.agg (cellsI x).toArray) (.agg (cellsI y).toArray)).run Try.prog w = .ok (decide (x = y)) w := by
 obtain ⟨ir, hir⟩ : ∃ i, Try.prog.info? 64 = some i ∧ i.size = 22 := by
  have h : (Try.prog.info? 64).map (·.size) = some 22 := by kernel_rfl
  cases e : Try.prog.info? 64 with
  | none => rw [e] at h; cases h
  | some i => rw [e] at h; exact ⟨i, rfl, by simpa using h⟩
 rw [eq_struct w (d + 3) 122 _ _ [(true, 9, 0), (true, 64, 1), (true, 3, 23)] (by kernel_rfl) (by kernel_rfl) (by kernel_rfl)]; have hnil : (eqF (d + 3) (cellsI x).toArray (cellsI y).toArray []).run Try.prog w = .ok true w := by simp [eqF]
 have h : (eqF (d + 3) (cellsI x).toArray (cellsI y).toArray [(true, 9, 0), (true, 64, 1), (true, 3, 23)]).run Try.prog w = .ok ((x.test.toList == y.test.toList) && (decide (x.r = y.r) && ((x.p == y.p) && true))) w :=
  eqF_step w (run_part_plain w (by kernel_rfl) rfl) (run_part_plain w (by kernel_rfl) rfl) (run_equalIn_string w (d + 2) _ x.test y.test (by kernel_rfl))
  (eqF_step w (part_agg w hir.1 hir.2 (by kernel_rfl) (ys := (cellsR x.r).toArray) (by kernel_rfl)) (part_agg w hir.1 hir.2 (by kernel_rfl) (ys := (cellsR y.r).toArray) (by kernel_rfl)) (res_equal w d x.r y.r hx hy)
  (eqF_step w (run_part_plain w (by kernel_rfl) rfl) (run_part_plain w (by kernel_rfl) rfl) (run_equalIn_int w (d + 2) _ .i64 .i64 x.p y.p (by kernel_rfl)) hnil))
 refine h.trans ?_
 congr 1
 rw [Bool.eq_iff_iff, decide_eq_true_iff]; simp only [Bool.and_eq_true, decide_eq_true_iff, beq_iff_eq, str_eq, and_true]; exact ⟨fun h => IT.ext' h.1 h.2.1 h.2.2, fun h => by subst h; exact ⟨rfl, rfl, rfl⟩⟩
open Classical in
theorem quiet_neq_rit (a : Act) (C : World → Prop) (w : World) (x y : Operand) (r s : IT) (hr : ItTy r) (hs : ItTy s) {b : Bool} (hb : b = true ↔ r = s) (hx : a.eval x = (.agg (cellsI r).toArray)) (hy : a.eval y = .agg (cellsI s).toArray) (o : Oper) (ho : o.op = .binOp .neq 122 x y 122) : o.quietAt Try.prog a C w (.bool (!b)) := by
 have h : (binOp .neq 122 (.agg (cellsI r).toArray) (.agg (cellsI s).toArray)).run Try.prog w = .ok (.bool (!b)) w := by
  rw [run_neq_struct, show (10000 : Nat) = 9996 + 4 from rfl, rit_equal w 9996 r s hr hs, show decide (r = s) = b by rw [Bool.eq_iff_iff, decide_eq_true_iff]; exact hb.symm]; rfl
 unfold Oper.quietAt execOp; rw [ho]; simp only [hx, hy, Sem.run_bind, run_eqGuard_agg (P := Try.prog) w .neq 122 x y (cellsI r).toArray (cellsI s).toArray (by kernel_rfl), h, Result.andThen_ok, Sem.run_pure]; exact ⟨rfl, rfl⟩
theorem retBit {a b : Bool} (h : a = b) : Ending.returned (.bool a) = .returned (.bool b) := by rw [h]
theorem bool_of {b bb : Bool} {p : Prop} [Decidable p] (h : b = true ↔ p) (hb : bb = decide p) : b = bb := by
 rw [hb, Bool.eq_iff_iff, decide_eq_true_iff]; exact h
theorem bool_t {bb : Bool} {p : Prop} [Decidable p] (h : p) (hb : bb = decide p) : true = bb := by rw [hb]; simpa using h
theorem bool_f {bb : Bool} {p : Prop} [Decidable p] (h : ¬p) (hb : bb = decide p) : false = bb := by rw [hb]; simpa using h
set_option maxRecDepth 100000 in
set_option maxHeartbeats 2000000 in
open Classical in
theorem sameitems_nd (A1 A2 : Option Addr) (k1 c1 k2 c2 : Nat) (X Y : List IT) (w : World) (h1 : RowS cellsI w A1 k1 X) (h2 : RowS cellsI w A2 k2 Y) (HX : Hid (∀ it ∈ X, ItTy it)) (HY : Hid (∀ it ∈ Y, ItTy it)) :
  Calls Try.prog 71 #[.slice A1 k1 c1, .slice A2 k2 c2] w fun e w' => e = .returned (.bool (decide (X = Y))) ∧ Below w.heap.size w w' := by
 obtain ⟨bb, HBB⟩ : ∃ b, Hid (b = decide (X = Y)) := ⟨_, rfl⟩; rw [← HBB.out]; have hkb1 : k1 ≤ 281474976710656 := h1.2.2; have E1 := Lib.hid h1.2.1; have E2 := Lib.hid h2.2.1; by_cases hk : k1 = k2
 ·subst hk
  go_enter Try.func71, Try.ntmps71
  go_wp2
  go_loopg [5] k1 (fun j x wr => ∃ i : Nat, x = .int .i64 i ∧ i + j = k1 ∧ Hid (X.take i = Y.take i) ∧ ∃ nq, wr = w.drewN nq)
  case atStart => exact ⟨0, rfl, by omega, by show _ = _; simp, 0, rfl⟩
  case round =>
   obtain ⟨i, rfl, hij, HT, nq, rfl⟩ := hrel; by_cases hi : i < k1
   ·have hiX : i < X.length := by have := E1.out; omega
    have hiY : i < Y.length := by have := E2.out; omega
    have t1 : decide ((i : Int) < (k1 : Int)) = true := by simp; omega
    obtain ⟨b1, o1, rfl, HCA⟩ := (h1.below (below_drewN w nq)).at_ cellsI_len (by omega) hi hiX; obtain ⟨b2, o2, rfl, HCB⟩ := (h2.below (below_drewN w nq)).at_ cellsI_len (by omega) hi hiY; have tx := HX.out _ (List.getElem_mem hiX); have ty := HY.out _ (List.getElem_mem hiY); have gX : X[i]? = some X[i] := List.getElem?_eq_getElem hiX; have gY : Y[i]? = some Y[i] := List.getElem?_eq_getElem hiY; generalize X[i] = x at HCA tx gX; generalize Y[i] = y at HCB ty gY; obtain ⟨bq, hbq⟩ : ∃ bq : Bool, Hid (bq = true ↔ x = y) := ⟨decide (x = y), by show _ ↔ _; simp⟩; have HGX := Lib.hid gX; have HGY := Lib.hid gY; clear gX gY; go_upto_region 6 with fail; refine wp_region_quiet_lit (by kernel_rfl) (by kernel_rfl) ?_
    repeat (go_big_quiet_step (fail))
    refine wpQuiet_step (fun K hK => ?_); rw [if_pos (by rfl)]; refine ⟨.agg (cellsI x).toArray, fun w hw => quiet_load_mid 122 (.tmp 19) rfl b1 (o1 + i * 24) rfl (cellsI x) _ HCA.out Try.underlying122 rfl (infoRIL (it := x)) w hw, ?_⟩; simp only [Act.put, sA, sB, sC]; refine hK _ ?_; clear hK K
    repeat (go_big_quiet_step (fail))
    refine wpQuiet_step (fun K hK => ?_); rw [if_pos (by rfl)]; refine ⟨.agg (cellsI y).toArray, fun w hw => quiet_load_mid 122 (.tmp 23) rfl b2 (o2 + i * 24) rfl (cellsI y) _ HCB.out Try.underlying122 rfl (infoRIL (it := y)) w hw, ?_⟩; simp only [Act.put, sA, sB, sC]; refine hK _ ?_; clear hK K; refine wpQuiet_step (fun K hK => ?_); rw [if_pos (by rfl)]; refine ⟨.bool (!bq), fun w _ => quiet_neq_rit _ _ w (.tmp 20) (.tmp 24) x y tx ty hbq.out rfl rfl _ rfl, ?_⟩; simp only [Act.put, sA, sB, sC]; refine hK _ ?_; clear hK K
    repeat (go_big_quiet_step (fail))
    refine wpQuiet_nil ?_; intro _ hw'; obtain ⟨nq2, hw''⟩ := hw'; subst hw''
    cases bq
    ·have HF : Hid (false = bb) := by
      refine bool_f (fun h => ?_) HBB.out; have e := HGX.out; rw [h, HGY.out] at e; have := hbq.out.2 (Option.some.inj e).symm
      cases this
     go_wp2_with fail; go_ret; exact ⟨retBit HF.out, by first | exact Below.tr (below_drewN w nq) (below_drewN (w.drewN nq) nq2) | exact below_drewN _ _⟩
    ·have HT2 : Hid (X.take (i + 1) = Y.take (i + 1)) := take_sameG HT.out HGX.out HGY.out (hbq.out.1 rfl); go_wp2_with fail
     go_roundg (gk - 1)
     case measure => omega
     case rel => exact ⟨i + 1, by go_num, by omega, HT2, nq + nq2, by simp [World.drewN, Nat.add_assoc, Nat.add_comm]⟩
   ·obtain rfl : k1 = i := by omega
    have t1 : decide ((k1 : Int) < (k1 : Int)) = false := by simp
    have HF : Hid (true = bb) := by
     refine bool_t ?_ HBB.out; have := HT.out
     rwa [List.take_of_length_le (by rw [← E1.out]; omega), List.take_of_length_le (by rw [← E2.out]; omega)] at this
    go_wp2_with fail; go_ret; exact ⟨retBit HF.out, below_drewN _ _⟩
 ·have HF : Hid (false = bb) := by
   refine bool_f (fun h => ?_) HBB.out; subst h; exact absurd (E1.out.trans E2.out.symm) hk
  have hd : ((k1 : Int) != (k2 : Int)) = true := by simp; omega
  clear hk
  go_enter Try.func71, Try.ntmps71
  go_wp2
  go_ret; exact ⟨retBit HF.out, Below.refl _ _⟩
theorem sameitems_n (A1 A2 : Option Addr) (k1 c1 k2 c2 : Nat) (X Y : List IT) (w : World) (h1 : RowS cellsI w A1 k1 X) (h2 : RowS cellsI w A2 k2 Y) (HX : Hid (∀ it ∈ X, ItTy it)) (HY : Hid (∀ it ∈ Y, ItTy it)) :
  Calls Try.prog 71 #[.slice A1 k1 c1, .slice A2 k2 c2] w fun e w' => ∃ b : Bool, e = .returned (.bool b) ∧ Hid (b = true ↔ X = Y) ∧ Below w.heap.size w w' :=
 (sameitems_nd A1 A2 k1 c1 k2 c2 X Y w h1 h2 HX HY).mono fun e w' h => ⟨_, h.1, by show _ ↔ _; simp, h.2⟩
set_option maxRecDepth 100000 in
set_option maxHeartbeats 2000000 in
open Classical in
theorem equalitems_nd (A1 A2 : Option Addr) (k1 c1 k2 c2 : Nat) (X Y : List IT) (w : World) (h1 : RowS cellsI w A1 k1 X) (h2 : RowS cellsI w A2 k2 Y) (HX : Hid (∀ it ∈ X, ItTy it)) (HY : Hid (∀ it ∈ Y, ItTy it)) :
  Calls Try.prog 83 #[.slice A1 k1 c1, .slice A2 k2 c2] w fun e w' => e = .returned (.bool (decide (X = Y))) ∧ Below w.heap.size w w' := by
 obtain ⟨bb, HBB⟩ : ∃ b, Hid (b = decide (X = Y)) := ⟨_, rfl⟩; rw [← HBB.out]; have hkb1 : k1 ≤ 281474976710656 := h1.2.2; have E1 := Lib.hid h1.2.1; have E2 := Lib.hid h2.2.1; by_cases hk : k1 = k2
 ·subst hk
  go_enter Try.func83, Try.ntmps83
  go_wp2
  go_loopg [13, 5] k1 (fun j x z0 wr => ∃ i : Nat, x = .int .i64 i ∧ i + j = k1 ∧ z0 = z0 ∧ Hid (X.take i = Y.take i) ∧ ∃ nq, wr = w.drewN nq)
  case atStart => exact ⟨0, rfl, by omega, (by trivial), by show _ = _; simp, 0, rfl⟩
  case round =>
   obtain ⟨i, rfl, hij, _, HT, nq, rfl⟩ := hrel; by_cases hi : i < k1
   ·have hiX : i < X.length := by have := E1.out; omega
    have hiY : i < Y.length := by have := E2.out; omega
    have t1 : decide ((i : Int) < (k1 : Int)) = true := by simp; omega
    obtain ⟨b1, o1, rfl, HCA⟩ := (h1.below (below_drewN w nq)).at_ cellsI_len (by omega) hi hiX; obtain ⟨b2, o2, rfl, HCB⟩ := (h2.below (below_drewN w nq)).at_ cellsI_len (by omega) hi hiY; have tx := HX.out _ (List.getElem_mem hiX); have ty := HY.out _ (List.getElem_mem hiY); have gX : X[i]? = some X[i] := List.getElem?_eq_getElem hiX; have gY : Y[i]? = some Y[i] := List.getElem?_eq_getElem hiY; generalize X[i] = x at HCA tx gX; generalize Y[i] = y at HCB ty gY; obtain ⟨bq, hbq⟩ : ∃ bq : Bool, Hid (bq = true ↔ x = y) := ⟨decide (x = y), by show _ ↔ _; simp⟩; have HGX := Lib.hid gX; have HGY := Lib.hid gY; clear gX gY; go_upto_region 6 with fail; refine wp_region_quiet_lit (by kernel_rfl) (by kernel_rfl) ?_
    repeat (go_big_quiet_step (fail))
    refine wpQuiet_step (fun K hK => ?_); rw [if_pos (by rfl)]; refine ⟨.agg (cellsI x).toArray, fun w hw => quiet_load_mid 66 (.tmp 18) rfl b1 (o1 + i * 24) rfl (cellsI x) _ HCA.out Try.underlying66 rfl (infoIL (it := x)) w hw, ?_⟩; simp only [Act.put, sA, sB, sC]; refine hK _ ?_; clear hK K
    repeat (go_big_quiet_step (fail))
    refine wpQuiet_step (fun K hK => ?_); rw [if_pos (by rfl)]; refine ⟨.agg (cellsI y).toArray, fun w hw => quiet_load_mid 66 (.tmp 22) rfl b2 (o2 + i * 24) rfl (cellsI y) _ HCB.out Try.underlying66 rfl (infoIL (it := y)) w hw, ?_⟩; simp only [Act.put, sA, sB, sC]; refine hK _ ?_; clear hK K; refine wpQuiet_step (fun K hK => ?_); rw [if_pos (by rfl)]; refine ⟨.bool (!bq), fun w _ => quiet_neq_git _ _ w (.tmp 19) (.tmp 23) x y tx ty hbq.out rfl rfl _ rfl, ?_⟩; simp only [Act.put, sA, sB, sC]; refine hK _ ?_; clear hK K
    repeat (go_big_quiet_step (fail))
    refine wpQuiet_nil ?_; intro _ hw'; obtain ⟨nq2, hw''⟩ := hw'; subst hw''
    cases bq
    ·have HF : Hid (false = bb) := by
      refine bool_f (fun h => ?_) HBB.out; have e := HGX.out; rw [h, HGY.out] at e; have := hbq.out.2 (Option.some.inj e).symm
      cases this
     go_wp2_with fail; go_ret; exact ⟨retBit HF.out, by first | exact Below.tr (below_drewN w nq) (below_drewN (w.drewN nq) nq2) | exact below_drewN _ _⟩
    ·have HT2 : Hid (X.take (i + 1) = Y.take (i + 1)) := take_sameG HT.out HGX.out HGY.out (hbq.out.1 rfl); go_wp2_with fail
     go_roundg (gk - 1)
     case measure => omega
     case rel => exact ⟨i + 1, by go_num, by omega, (by trivial), HT2, nq + nq2, by simp [World.drewN, Nat.add_assoc, Nat.add_comm]⟩
   ·obtain rfl : k1 = i := by omega
    have t1 : decide ((k1 : Int) < (k1 : Int)) = false := by simp
    have HF : Hid (true = bb) := by
     refine bool_t ?_ HBB.out; have := HT.out
     rwa [List.take_of_length_le (by rw [← E1.out]; omega), List.take_of_length_le (by rw [← E2.out]; omega)] at this
    go_wp2_with fail; go_ret; exact ⟨retBit HF.out, below_drewN _ _⟩
 ·have HF : Hid (false = bb) := by
   refine bool_f (fun h => ?_) HBB.out; subst h; exact absurd (E1.out.trans E2.out.symm) hk
  have hd : ((k1 : Int) != (k2 : Int)) = true := by simp; omega
  clear hk
  go_enter Try.func83, Try.ntmps83
  go_wp2
  go_ret; exact ⟨retBit HF.out, Below.refl _ _⟩
theorem equalitems_n (A1 A2 : Option Addr) (k1 c1 k2 c2 : Nat) (X Y : List IT) (w : World) (h1 : RowS cellsI w A1 k1 X) (h2 : RowS cellsI w A2 k2 Y) (HX : Hid (∀ it ∈ X, ItTy it)) (HY : Hid (∀ it ∈ Y, ItTy it)) :
  Calls Try.prog 83 #[.slice A1 k1 c1, .slice A2 k2 c2] w fun e w' => ∃ b : Bool, e = .returned (.bool b) ∧ Hid (b = true ↔ X = Y) ∧ Below w.heap.size w w' :=
 (equalitems_nd A1 A2 k1 c1 k2 c2 X Y w h1 h2 HX HY).mono fun e w' h => ⟨_, h.1, by show _ ↔ _; simp, h.2⟩
end Go.Proofs.Yticobffjnjbjiaa
namespace Go.Proofs.Yticobffjnjbjiaa
open Go
/- The same, where what holds all along may speak of the slots' values before they are written. -/
section
variable {P : Program} {ops : Array Oper} {Q : Exit → Act → World → Prop} {md : Region.Mode}
theorem wpAny_invv {Φ : Nat → World → Value → Prop} {R : World → World → Prop} (S : (Nat → Bool) → (Nat → Value) → World → Prop) (a0 : Act) (hd : apartL ops.toList = true) (hb : backC md ops = true)
  (hΦ : ∀ w w', R w w' → ∀ j x, Φ j w x → Φ j w' x)
  (hstep : ∀ i o, ops[i]? = some o → ∀ vs (L : Nat → Bool) w, S L vs w → L i = false → (∀ j o', ops[j]? = some o' → L j = true → ∀ e ∈ o'.after, Region.binds md e = true → L e.on = true) → (∀ e ∈ o.after, Region.binds md e = true → Φ e.on w (vs e.on)) →
   ∀ K : Act → World → Prop, (∀ v w', R w w' → S (updB L i) (upd vs i v) w' → Φ i w' v → K ((fillR ops.toList 0 vs a0).put o.dst v) w') →
    if Region.wanted o (yielded ops (fillR ops.toList 0 vs a0).tmps) = true then Oper.wp P o (fillR ops.toList 0 vs a0) w K Q else K ((fillR ops.toList 0 vs a0).put o.dst undef) w)
  (hend : ∀ vs L w, S L vs w → (∀ i, i < ops.size → L i = true) → (∀ i, i < ops.size → Φ i w (vs i)) → Q .normal (fillR ops.toList 0 vs a0) w) :
  ∀ (fuel : Nat) (listed : Array Bool) (vs : Nat → Value) (w : World), listed.size = ops.size → listed.toList.count false = fuel → closedB md ops listed → S (fun j => listed.getD j false) vs w → (∀ j, listed.getD j false = true → Φ j w (vs j)) →
   wpAny P md ops Q fuel listed (fillR ops.toList 0 vs a0) w := by
 intro fuel
 induction fuel with
 | zero =>
  intro listed vs w hs hc hcl hSw hl
  have hall : ∀ i, i < ops.size → listed.getD i false = true := by
   intro i hi; have h' : i < listed.size := by omega
   rw [List.count_eq_zero] at hc
   cases hx : listed.getD i false with
   | true => rfl
   | false =>
    exfalso
    apply hc
    simp [h'] at hx; rw [← hx]; exact Array.getElem_mem_toList h'
  refine ⟨?_, hend vs _ w hSw hall (fun i hi => hl i (hall i hi))⟩; rw [List.eq_nil_iff_forall_not_mem]; intro i hi; obtain ⟨h1, o, ho, _⟩ := mem_ready.1 hi; have hi' : i < ops.size := (Array.getElem?_eq_some_iff.1 ho).1; have h2 := hall i hi'; have h' : i < listed.size := by omega
  simp [h'] at h1 h2; rw [h1] at h2
  cases h2
 | succ fuel ih =>
  intro listed vs w hs hc hcl hSw hl; refine ⟨fun hr => hend vs _ w hSw (all_listedC hb hs hr) (fun i hi => hl i (all_listedC hb hs hr i hi)), fun i hi => ?_⟩; obtain ⟨h1, o, ho, hall⟩ := mem_ready.1 hi; have hi' : i < ops.size := (Array.getElem?_eq_some_iff.1 ho).1; have hil : i < listed.size := by omega
  have hun : listed.getD i false = false := by simp [hil] at h1 ⊢; exact h1
  refine wpOp_step ho fun K' hK => ?_
  refine hstep i o ho vs _ w hSw hun hcl (fun e he hbd => hl e.on (hall e he hbd)) K' fun v w' hR hS' hv => ?_
  apply hK
  rw [fillR_upd ops.toList 0 i vs a0 o v hd (by simpa using ho), Nat.zero_add]
  have hset : (fun j => (listed.setIfInBounds i true).getD j false) = updB (fun j => listed.getD j false) i := by
   funext j
   unfold updB; by_cases hji : j = i
   ·subst hji; simp [hil]
   ·rw [if_neg hji]; simp [Array.getElem?_setIfInBounds, Ne.symm hji]
  refine ih _ _ _ (by simp [hs]) ?_ ?_ (by rw [hset]; exact hS') ?_
  ·have h1' : listed.toList[i]'(by simpa using hil) = false := by simp [hil] at h1; simpa using h1
   simp only [Array.toList_setIfInBounds]; rw [List.count_set (by simpa using hil), h1', hc]; simp
  ·intro j oj hj hlj e he hbd; by_cases hei : e.on = i
   ·rw [hei]; simp [hil]
   ·have hold : listed.getD e.on false = true := by
     by_cases hji : j = i
     ·subst hji; have : oj = o := Option.some.inj (hj.symm.trans ho); subst this; exact hall e he hbd
     ·refine hcl j oj hj ?_ e he hbd; simp [Array.getElem?_setIfInBounds, Ne.symm hji] at hlj
      simpa using hlj
    simp [Array.getElem?_setIfInBounds, Ne.symm hei] at hold ⊢; exact hold
  ·intro j hj; by_cases hji : j = i
   ·subst hji; rw [show upd vs j v j = v from if_pos rfl]; exact hv
   ·rw [show upd vs i v j = vs j from if_neg hji]; refine hΦ _ _ hR j _ (hl j ?_); simp [Array.getElem?_setIfInBounds, Ne.symm hji] at hj
    simpa using hj
/-- what an operation owes; S knows what is listed, and the slots -/
def OwesV (P : Program) (Q : Exit → Act → World → Prop) (l : List Oper) (F : (Nat → Value) → Act) (Φ : Nat → World → Value → Prop) (R : World → World → Prop) (S : (Nat → Bool) → (Nat → Value) → World → Prop) (i : Nat) (o : Oper) : Prop :=
 ∀ vs (L : Nat → Bool) w, S L vs w → L i = false → (∀ j o', l[j]? = some o' → L j = true → ∀ e ∈ o'.after.toList, Region.binds .any e = true → L e.on = true) → (∀ e ∈ o.after.toList, Region.binds .any e = true → Φ e.on w (vs e.on)) → ∀ K : Act → World → Prop, (∀ v w', R w w' → S (updB L i) (upd vs i v) w' → Φ i w' v → K ((F vs).put o.dst v) w') →
  Wrap (if Region.wanted o (yielded l.toArray (F vs).tmps) = true then Oper.wp P o (F vs) w K Q else K ((F vs).put o.dst undef) w)
theorem region_invV {id : Nat} {a0 : Act} {w : World} {l : List Oper} {F : (Nat → Value) → Act} (Φ : Nat → World → Value → Prop) (R : World → World → Prop) (S : (Nat → Bool) → (Nat → Value) → World → Prop) (hm : P.follows .mixedOrders = true) (hd : apartL l = true) (hb : backC .any l.toArray = true)
  (hΦ : ∀ w w', R w w' → ∀ j x, Φ j w x → Φ j w' x) (hS0 : S (fun _ => false) (ownV l a0) w.drew) (hF : ∀ vs, fillR l 0 vs a0 = F vs)
  (hstep : StepsL (OwesV P Q l F Φ R S) 0 l)
  (hend : ∀ vs L w, S L vs w → (∀ i, i < l.length → L i = true) → (∀ i, i < l.length → Φ i w (vs i)) → Q .normal (F vs) w) : (Code.region id l.toArray true).wp P Q a0 w := by
 refine wp_region_any hm ?_; have hrep : (fun j => (Array.replicate l.toArray.size false).getD j false) = (fun _ => false) := by funext j; exact repF
 have h := wpAny_invv (P := P) (Q := Q) (md := .any) (ops := l.toArray) (Φ := Φ) (R := R) S a0 hd hb hΦ (fun i o ho vs L w hSw hL hcl hdep K hK => by
  have := hstep i o (by simpa using ho); rw [Nat.zero_add] at this; have h2 := (this vs L w hSw hL (fun j o' hj hlj e he hbd => hcl j o' (by simpa using hj) hlj e (by simpa using he) hbd) (fun e he hbd => hdep e (by simpa using he) hbd) K (by rw [← hF vs]; exact hK)).un; rw [← hF vs] at h2
  exact h2) (fun vs L w hSw hall h => by
   have h3 := hend vs L w hSw (fun i hi => hall i (by simpa using hi)) (fun i hi => h i (by simpa using hi)); rw [← hF vs] at h3
   exact h3) l.toArray.size (Array.replicate l.toArray.size false) (ownV l a0) w.drew (by simp) (by simp) (fun j o _ hj => by rw [repF] at hj; cases hj) (by rw [hrep]; exact hS0) (fun j hj => by rw [repF] at hj; cases hj)
 rw [fillR_id] at h
 ·exact h
 ·intro j o ho d hd'; rw [Nat.zero_add]; unfold ownV; rw [ho]; simp [hd']
end
end Go.Proofs.Yticobffjnjbjiaa
namespace Go.Proofs.Yticobffjnjbjiaa
open Go
/- The same, told besides that what an operation hangs on is done. -/
section
variable {P : Program} {ops : Array Oper} {Q : Exit → Act → World → Prop} {md : Region.Mode}
theorem wpAny_invw {Φ : Nat → World → Value → Prop} {R : World → World → Prop} (S : (Nat → Bool) → (Nat → Value) → World → Prop) (a0 : Act) (hd : apartL ops.toList = true) (hb : backC md ops = true)
  (hΦ : ∀ w w', R w w' → ∀ j x, Φ j w x → Φ j w' x)
  (hstep : ∀ i o, ops[i]? = some o → ∀ vs (L : Nat → Bool) w, S L vs w → L i = false → (∀ j o', ops[j]? = some o' → L j = true → ∀ e ∈ o'.after, Region.binds md e = true → L e.on = true) → (∀ e ∈ o.after, Region.binds md e = true → L e.on = true) → (∀ e ∈ o.after, Region.binds md e = true → Φ e.on w (vs e.on)) →
   ∀ K : Act → World → Prop, (∀ v w', R w w' → S (updB L i) (upd vs i v) w' → Φ i w' v → K ((fillR ops.toList 0 vs a0).put o.dst v) w') →
    if Region.wanted o (yielded ops (fillR ops.toList 0 vs a0).tmps) = true then Oper.wp P o (fillR ops.toList 0 vs a0) w K Q else K ((fillR ops.toList 0 vs a0).put o.dst undef) w)
  (hend : ∀ vs L w, S L vs w → (∀ i, i < ops.size → L i = true) → (∀ i, i < ops.size → Φ i w (vs i)) → Q .normal (fillR ops.toList 0 vs a0) w) :
  ∀ (fuel : Nat) (listed : Array Bool) (vs : Nat → Value) (w : World), listed.size = ops.size → listed.toList.count false = fuel → closedB md ops listed → S (fun j => listed.getD j false) vs w → (∀ j, listed.getD j false = true → Φ j w (vs j)) →
   wpAny P md ops Q fuel listed (fillR ops.toList 0 vs a0) w := by
 intro fuel
 induction fuel with
 | zero =>
  intro listed vs w hs hc hcl hSw hl
  have hall : ∀ i, i < ops.size → listed.getD i false = true := by
   intro i hi; have h' : i < listed.size := by omega
   rw [List.count_eq_zero] at hc
   cases hx : listed.getD i false with
   | true => rfl
   | false =>
    exfalso
    apply hc
    simp [h'] at hx; rw [← hx]; exact Array.getElem_mem_toList h'
  refine ⟨?_, hend vs _ w hSw hall (fun i hi => hl i (hall i hi))⟩; rw [List.eq_nil_iff_forall_not_mem]; intro i hi; obtain ⟨h1, o, ho, _⟩ := mem_ready.1 hi; have hi' : i < ops.size := (Array.getElem?_eq_some_iff.1 ho).1; have h2 := hall i hi'; have h' : i < listed.size := by omega
  simp [h'] at h1 h2; rw [h1] at h2
  cases h2
 | succ fuel ih =>
  intro listed vs w hs hc hcl hSw hl; refine ⟨fun hr => hend vs _ w hSw (all_listedC hb hs hr) (fun i hi => hl i (all_listedC hb hs hr i hi)), fun i hi => ?_⟩; obtain ⟨h1, o, ho, hall⟩ := mem_ready.1 hi; have hi' : i < ops.size := (Array.getElem?_eq_some_iff.1 ho).1; have hil : i < listed.size := by omega
  have hun : listed.getD i false = false := by simp [hil] at h1 ⊢; exact h1
  refine wpOp_step ho fun K' hK => ?_
  refine hstep i o ho vs _ w hSw hun hcl hall (fun e he hbd => hl e.on (hall e he hbd)) K' fun v w' hR hS' hv => ?_
  apply hK
  rw [fillR_upd ops.toList 0 i vs a0 o v hd (by simpa using ho), Nat.zero_add]
  have hset : (fun j => (listed.setIfInBounds i true).getD j false) = updB (fun j => listed.getD j false) i := by
   funext j
   unfold updB; by_cases hji : j = i
   ·subst hji; simp [hil]
   ·rw [if_neg hji]; simp [Array.getElem?_setIfInBounds, Ne.symm hji]
  refine ih _ _ _ (by simp [hs]) ?_ ?_ (by rw [hset]; exact hS') ?_
  ·have h1' : listed.toList[i]'(by simpa using hil) = false := by simp [hil] at h1; simpa using h1
   simp only [Array.toList_setIfInBounds]; rw [List.count_set (by simpa using hil), h1', hc]; simp
  ·intro j oj hj hlj e he hbd; by_cases hei : e.on = i
   ·rw [hei]; simp [hil]
   ·have hold : listed.getD e.on false = true := by
     by_cases hji : j = i
     ·subst hji; have : oj = o := Option.some.inj (hj.symm.trans ho); subst this; exact hall e he hbd
     ·refine hcl j oj hj ?_ e he hbd; simp [Array.getElem?_setIfInBounds, Ne.symm hji] at hlj
      simpa using hlj
    simp [Array.getElem?_setIfInBounds, Ne.symm hei] at hold ⊢; exact hold
  ·intro j hj; by_cases hji : j = i
   ·subst hji; rw [show upd vs j v j = v from if_pos rfl]; exact hv
   ·rw [show upd vs i v j = vs j from if_neg hji]; refine hΦ _ _ hR j _ (hl j ?_); simp [Array.getElem?_setIfInBounds, Ne.symm hji] at hj
    simpa using hj
/-- what an operation owes; S knows what is listed, and the slots -/
def OwesW (P : Program) (Q : Exit → Act → World → Prop) (l : List Oper) (F : (Nat → Value) → Act) (Φ : Nat → World → Value → Prop) (R : World → World → Prop) (S : (Nat → Bool) → (Nat → Value) → World → Prop) (i : Nat) (o : Oper) : Prop :=
 ∀ vs (L : Nat → Bool) w, S L vs w → L i = false → (∀ j o', l[j]? = some o' → L j = true → ∀ e ∈ o'.after.toList, Region.binds .any e = true → L e.on = true) → (∀ e ∈ o.after.toList, Region.binds .any e = true → L e.on = true) → (∀ e ∈ o.after.toList, Region.binds .any e = true → Φ e.on w (vs e.on)) → ∀ K : Act → World → Prop, (∀ v w', R w w' → S (updB L i) (upd vs i v) w' → Φ i w' v → K ((F vs).put o.dst v) w') →
  Wrap (if Region.wanted o (yielded l.toArray (F vs).tmps) = true then Oper.wp P o (F vs) w K Q else K ((F vs).put o.dst undef) w)
theorem region_invW {id : Nat} {a0 : Act} {w : World} {l : List Oper} {F : (Nat → Value) → Act} (Φ : Nat → World → Value → Prop) (R : World → World → Prop) (S : (Nat → Bool) → (Nat → Value) → World → Prop) (hm : P.follows .mixedOrders = true) (hd : apartL l = true) (hb : backC .any l.toArray = true)
  (hΦ : ∀ w w', R w w' → ∀ j x, Φ j w x → Φ j w' x) (hS0 : S (fun _ => false) (ownV l a0) w.drew) (hF : ∀ vs, fillR l 0 vs a0 = F vs)
  (hstep : StepsL (OwesW P Q l F Φ R S) 0 l)
  (hend : ∀ vs L w, S L vs w → (∀ i, i < l.length → L i = true) → (∀ i, i < l.length → Φ i w (vs i)) → Q .normal (F vs) w) : (Code.region id l.toArray true).wp P Q a0 w := by
 refine wp_region_any hm ?_; have hrep : (fun j => (Array.replicate l.toArray.size false).getD j false) = (fun _ => false) := by funext j; exact repF
 have h := wpAny_invw (P := P) (Q := Q) (md := .any) (ops := l.toArray) (Φ := Φ) (R := R) S a0 hd hb hΦ (fun i o ho vs L w hSw hL hcl hdl hdep K hK => by
  have := hstep i o (by simpa using ho); rw [Nat.zero_add] at this; have h2 := (this vs L w hSw hL (fun j o' hj hlj e he hbd => hcl j o' (by simpa using hj) hlj e (by simpa using he) hbd) (fun e he hbd => hdl e (by simpa using he) hbd) (fun e he hbd => hdep e (by simpa using he) hbd) K (by rw [← hF vs]; exact hK)).un; rw [← hF vs] at h2
  exact h2) (fun vs L w hSw hall h => by
   have h3 := hend vs L w hSw (fun i hi => hall i (by simpa using hi)) (fun i hi => h i (by simpa using hi)); rw [← hF vs] at h3
   exact h3) l.toArray.size (Array.replicate l.toArray.size false) (ownV l a0) w.drew (by simp) (by simp) (fun j o _ hj => by rw [repF] at hj; cases hj) (by rw [hrep]; exact hS0) (fun j hj => by rw [repF] at hj; cases hj)
 rw [fillR_id] at h
 ·exact h
 ·intro j o ho d hd'; rw [Nat.zero_add]; unfold ownV; rw [ho]; simp [hd']
end
end Go.Proofs.Yticobffjnjbjiaa
namespace Go.Proofs.Yticobffjnjbjiaa
open Go
/- A region that draws its order and ends in a chain: what leads to the chain's first operation is done in any order ('early'), some operations that need nothing of the world are done at any time ('free'), the chain's operations follow each other. -/
section
variable {P : Program} {Q : Exit → Act → World → Prop}
/-- operation i waits for j, itself or through others -/
def reachB (l : List Oper) : Nat → Nat → Nat → Bool
 | 0, _, _ => false
 | n + 1, i, j => match l[i]? with
  | some o => o.after.toList.any fun e => Region.binds .any e && (e.on == j || reachB l n e.on j)
  | none => false
theorem reach_listed {l : List Oper} {L : Nat → Bool} (hcl : ∀ j o', l[j]? = some o' → L j = true → ∀ e ∈ o'.after.toList, Region.binds .any e = true → L e.on = true) :
  ∀ (n i j : Nat) (o : Oper), l[i]? = some o → (∀ e ∈ o.after.toList, Region.binds .any e = true → L e.on = true) → reachB l n i j = true → L j = true
 | 0, _, _, _, _, _, h => by cases h
 | n + 1, i, j, o, ho, hd, h => by
  simp only [reachB, ho, List.any_eq_true, Bool.and_eq_true, Bool.or_eq_true, beq_iff_eq] at h; obtain ⟨e, he, hb, h⟩ := h; have h1 := hd e he hb
  rcases h with h | h
  ·rw [← h]; exact h1
  ·cases ho2 : l[e.on]? with
   | none => cases n <;> simp [reachB, ho2] at h
   | some o2 => exact reach_listed hcl n e.on j o2 ho2 (hcl e.on o2 ho2 h1) h
inductive Tg where
 | early | free
 | chain (k : Nat)
def tagB (l : List Oper) (cs : List Nat) (tags : List Tg) (fr dep : List Nat) : Bool :=
 (List.range l.length).all (fun i => match tags[i]? with
  | some .early => !cs.contains i && (match cs with | c :: _ => reachB l l.length c i | [] => false)
  | some .free => !cs.contains i && fr.contains i && (match l[i]? with | some o => o.after.toList.all (fun e => !Region.binds .any e || fr.contains e.on) | none => false)
  | some (.chain k) => cs[k]? == some i && !fr.contains i
  | none => false) &&
 (List.range cs.length).all (fun k => (List.range k).all fun j => match cs[k]?, cs[j]? with
  | some a, some b => reachB l l.length a b && a != b
  | _, _ => false) && !cs.isEmpty && cs.all (fun c => decide (c < l.length)) && dep.all (fun d => match tags[d]? with | some .early => true | _ => false)
def OwesK (P : Program) (Q : Exit → Act → World → Prop) (l : List Oper) (a0 : Act) (F : (Nat → Value) → Act) (cs : List Nat) (tags : List Tg) (fr : List Nat) (Φ : (Nat → Value) → Nat → World → Value → Prop) (R : World → World → Prop) (S : List Value → (Nat → Value) → World → Prop) (i : Nat) (o : Oper) : Prop :=
 match tags[i]? with
 | some .early => ∀ vs w, S [] vs w → (∀ c ∈ cs, vs c = ownV l a0 c) → (∀ e ∈ o.after.toList, Region.binds .any e = true → Φ vs e.on w (vs e.on)) → ∀ K : Act → World → Prop, (∀ v w', R w w' → Φ vs i w' v → K ((F vs).put o.dst v) w') →
  Wrap (if Region.wanted o (yielded l.toArray (F vs).tmps) = true then Oper.wp P o (F vs) w K Q else K ((F vs).put o.dst undef) w)
 | some .free => ∀ vs w, (∀ e ∈ o.after.toList, Region.binds .any e = true → Φ vs e.on w (vs e.on)) → ∀ K : Act → World → Prop, (∀ v, Φ vs i w v → K ((F vs).put o.dst v) w) →
  Wrap (if Region.wanted o (yielded l.toArray (F vs).tmps) = true then Oper.wp P o (F vs) w K Q else K ((F vs).put o.dst undef) w)
 | some (.chain k) => ∀ vs w, S ((cs.take k).map vs) vs w → (∀ e ∈ o.after.toList, Region.binds .any e = true → (k == 0 || fr.contains e.on) = true → Φ vs e.on w (vs e.on)) → ∀ K : Act → World → Prop, (∀ v w', S ((cs.take k).map vs ++ [v]) vs w' → K ((F vs).put o.dst v) w') →
  Wrap (if Region.wanted o (yielded l.toArray (F vs).tmps) = true then Oper.wp P o (F vs) w K Q else K ((F vs).put o.dst undef) w)
 | none => True
/-- how it stands, by what is listed -/
def StK (l : List Oper) (a0 : Act) (cs : List Nat) (fr : List Nat) (Φ : (Nat → Value) → Nat → World → Value → Prop) (S : List Value → (Nat → Value) → World → Prop) (L : Nat → Bool) (vs : Nat → Value) (w : World) : Prop :=
 ∃ k, k ≤ cs.length ∧ (∀ (j c : Nat), cs[j]? = some c → (L c = true ↔ j < k)) ∧ S ((cs.take k).map vs) vs w ∧ (∀ j, L j = true → j < l.length ∧ (k = 0 ∨ fr.contains j = true → Φ vs j w (vs j))) ∧ (∀ j, L j = false → vs j = ownV l a0 j)
theorem map_upd {cs : List Nat} {k i : Nat} {vs : Nat → Value} {v : Value} (h : i ∉ cs.take k) : (cs.take k).map (upd vs i v) = (cs.take k).map vs := by
 apply List.map_congr_left
 intro c hc; exact if_neg (fun e : c = i => h (e ▸ hc))
theorem region_chain {id : Nat} {a0 : Act} {w : World} {l : List Oper} {F : (Nat → Value) → Act} (cs : List Nat) (tags : List Tg) (fr dep : List Nat) (Φ : (Nat → Value) → Nat → World → Value → Prop) (R : World → World → Prop) (S : List Value → (Nat → Value) → World → Prop) (hm : P.follows .mixedOrders = true) (hd : apartL l = true) (hb : backC .any l.toArray = true) (ht : tagB l cs tags fr dep = true)
  (hC : StepsL (Hangs Φ) 0 l) (hR : ∀ vs w w', R w w' → ∀ j x, Φ vs j w x → Φ vs j w' x) (hF' : ∀ vs w w' j x, fr.contains j = true → Φ vs j w x → Φ vs j w' x) (hS : ∀ vs vs' w w', R w w' → S [] vs w → S [] vs' w') (hins : ∀ li vs vs' w, (∀ j ∈ dep, vs j = vs' j) → S li vs w → S li vs' w) (hS0 : ∀ vs, S [] vs w.drew) (hF : ∀ vs, fillR l 0 vs a0 = F vs)
  (hstep : StepsL (OwesK P Q l a0 F cs tags fr Φ R S) 0 l)
  (hend : ∀ vs w, S (cs.map vs) vs w → (∀ i, i < l.length → fr.contains i = true → Φ vs i w (vs i)) → Q .normal (F vs) w) : (Code.region id l.toArray true).wp P Q a0 w := by
 simp only [tagB, Bool.and_eq_true, Bool.not_eq_true', List.all_eq_true, List.mem_range] at ht; obtain ⟨⟨⟨⟨ht1, ht2⟩, ht3⟩, ht4⟩, ht5⟩ := ht; simp only [decide_eq_true_iff] at ht4
 have hch : ∀ (a b ca cb : Nat), cs[a]? = some ca → cs[b]? = some cb → b < a → reachB l l.length ca cb = true ∧ ca ≠ cb := by
  intro a b ca cb ha hb2 hlt; have h := ht2 a (List.getElem?_eq_some_iff.1 ha).1 b hlt; rw [ha, hb2] at h
  simpa using h
 have hinj : ∀ (a b c : Nat), cs[a]? = some c → cs[b]? = some c → a = b := by
  intro a b c ha hb2
  rcases Nat.lt_trichotomy a b with h | h | h
  ·exact absurd rfl (hch b a c c hb2 ha h).2
  ·exact h
  ·exact absurd rfl (hch a b c c ha hb2 h).2
 refine region_invW (F := F) (fun _ _ _ => True) (fun _ _ => True) (StK l a0 cs fr Φ S) hm hd hb (fun _ _ _ _ _ h => h) ?_ hF ?_ ?_
 ·refine ⟨0, Nat.zero_le _, fun j c _ => ?_, by simpa using hS0 _, (fun j h => by cases h), fun j _ => rfl⟩; simp
 ·intro i o ho vs L W hSt hL hcl hdl _ K hK; rw [Nat.zero_add] at hL hK; obtain ⟨k0, hk0, hiff, hSk, hPh, hUn⟩ := hSt; have hi : i < l.length := (List.getElem?_eq_some_iff.1 ho).1; have hown := hstep i o ho; rw [Nat.zero_add] at hown
  have hhang : ∀ (j : Nat) w2 v, L j = true → Φ vs j w2 (vs j) → Φ (upd vs i v) j w2 (vs j) := by
   intro j w2 v hj h; have hjl : j < l.length := (hPh j hj).1; refine hC j _ (List.getElem?_eq_getElem hjl) vs (upd vs i v) w2 (vs j) (fun e he hb2 => ?_) (by rw [Nat.zero_add]; exact h) |> fun h => by rwa [Nat.zero_add] at h
   symm
   refine if_neg (fun e2 => ?_); have := hcl j _ (List.getElem?_eq_getElem hjl) hj e he hb2; rw [e2, hL] at this
   cases this
  have hself : ∀ w2 v, Φ vs i w2 v → Φ (upd vs i v) i w2 v := by
   intro w2 v h; refine hC i o ho vs (upd vs i v) w2 v (fun e he hb2 => ?_) (by rw [Nat.zero_add]; exact h) |> fun h => by rwa [Nat.zero_add] at h
   symm
   refine if_neg (fun e2 => ?_); have := hdl e he hb2; rw [e2, hL] at this
   cases this
  have ht := ht1 i hi; unfold OwesK at hown
  cases htg : tags[i]? with
  | none => rw [htg] at ht; cases ht
  | some tg =>
   rw [htg] at ht hown
   have hun : ∀ (v : Value) (j : Nat), updB L i j = false → upd vs i v j = ownV l a0 j := by
    intro v j hj; by_cases hji : j = i
    ·subst hji; rw [show updB L j j = true from if_pos rfl] at hj; cases hj
    ·rw [show updB L i j = L j from if_neg hji] at hj; rw [show upd vs i v j = vs j from if_neg hji]; exact hUn j hj
   have hdep2 : ∀ (v : Value), tags[i]? ≠ some .early → ∀ j ∈ dep, vs j = upd vs i v j := by
    intro v hne j hj
    symm
    refine if_neg (fun e => ?_); have h := ht5 j hj; rw [e] at h
    cases h2 : tags[i]? with
    | none => rw [h2] at h; cases h
    | some x => cases x with
     | early => exact hne h2
     | free => rw [h2] at h; cases h
     | chain _ => rw [h2] at h; cases h
   -- an operation that is not of the chain: the stage stays
   have hkeep : ∀ v w', i ∉ cs → S ((cs.take k0).map vs) (upd vs i v) w' → (∀ j, L j = true → k0 = 0 ∨ fr.contains j = true → Φ vs j w' (vs j)) → (k0 = 0 ∨ fr.contains i = true → Φ vs i w' v) → StK l a0 cs fr Φ S (updB L i) (upd vs i v) w' := by
    intro v w' hni hS2 hP2 hv; refine ⟨k0, hk0, fun j c hc => ?_, by rw [map_upd (fun h => hni (List.mem_of_mem_take h))]; exact hS2, fun j hj => ?_, hun v⟩
    ·have : c ≠ i := fun e => hni (e ▸ List.mem_of_getElem? hc)
     rw [show updB L i c = L c from if_neg this]; exact hiff j c hc
    ·by_cases hji : j = i
     ·subst hji; refine ⟨hi, fun h => ?_⟩; rw [show upd vs j v j = v from if_pos rfl]; exact hself _ _ (hv h)
     ·rw [show updB L i j = L j from if_neg hji] at hj; refine ⟨(hPh j hj).1, fun h => ?_⟩; rw [show upd vs i v j = vs j from if_neg hji]; exact hhang j w' v hj (hP2 j hj h)
   cases tg with
   | early =>
    simp only [Bool.and_eq_true, Bool.not_eq_true'] at ht hown; obtain ⟨hni, hre⟩ := ht; have hni : i ∉ cs := by simpa using hni
    cases cs with
    | nil => cases ht3
    | cons c0 cs =>
     have hk : k0 = 0 := by
      rcases Nat.eq_zero_or_pos k0 with h | h
      ·exact h
      ·exfalso
       have h1 := (hiff 0 c0 rfl).2 h; have hc0 := (hPh c0 h1).1; have := reach_listed hcl l.length c0 i _ (List.getElem?_eq_getElem hc0) (hcl c0 _ (List.getElem?_eq_getElem hc0) h1) hre; rw [hL] at this; cases this
     subst hk; refine hown vs W (by simpa using hSk) (fun c hc => hUn c ?_) (fun e he hb2 => (hPh _ (hdl e he hb2)).2 (.inl rfl)) K (fun v w' hRw hv => hK v w' trivial (hkeep v w' hni ?_ ?_ (fun _ => hv)) trivial)
     ·cases hLc : L c with
      | false => rfl
      | true =>
       obtain ⟨j, hj⟩ := List.getElem?_of_mem hc; have := (hiff j c hj).1 hLc; omega
     ·simpa using hS _ _ _ _ hRw (by simpa using hSk)
     ·intro j hj h; exact hR vs _ _ hRw j _ ((hPh j hj).2 h)
   | free =>
    simp only [Bool.and_eq_true, Bool.not_eq_true'] at ht hown; obtain ⟨⟨hni, hfi⟩, hfa⟩ := ht; have hni : i ∉ cs := by simpa using hni
    rw [ho] at hfa; simp only [List.all_eq_true, Bool.or_eq_true, Bool.not_eq_true'] at hfa; refine hown vs W (fun e he hb2 => (hPh _ (hdl e he hb2)).2 (.inr ?_)) K (fun v hv => hK v W trivial (hkeep v W hni (hins _ _ _ _ (hdep2 v (by intro e; rw [htg] at e; cases e)) hSk) (fun j hj h => (hPh j hj).2 h) (fun _ => hv)) trivial)
    rcases hfa e he with h | h
    ·rw [hb2] at h; cases h
    ·exact h
   | chain k =>
    simp only [Bool.and_eq_true, Bool.not_eq_true', beq_iff_eq] at ht hown; obtain ⟨hck, hfi⟩ := ht; have hkl : k < cs.length := (List.getElem?_eq_some_iff.1 hck).1
    have h1 : ¬ k < k0 := fun h => by
     have := (hiff k i hck).2 h; rw [hL] at this; cases this
    have hk : k0 = k := by
     rcases Nat.lt_or_ge k0 k with h | h
     ·exfalso
      have hc0 : cs[k0]? = some (cs[k0]'(by omega)) := List.getElem?_eq_getElem (by omega); have hr := (hch k k0 i _ hck hc0 h).1; have := reach_listed hcl l.length i _ o ho hdl hr; have := (hiff k0 _ hc0).1 this; omega
     ·omega
    subst hk; refine hown vs W hSk (fun e he hb2 hf => (hPh _ (hdl e he hb2)).2 (by simpa using hf)) K (fun v w' hS2 => hK v w' trivial ⟨k0 + 1, by omega, fun j c hc => ?_, ?_, fun j hj => ?_, hun v⟩ trivial)
    ·by_cases hci : c = i
     ·subst hci; rw [show updB L c c = true from if_pos rfl]; have := hinj j k0 c hc hck; simp; omega
     ·rw [show updB L i c = L c from if_neg hci, hiff j c hc]; have : j ≠ k0 := fun e => hci (by rw [e, hck] at hc; exact (Option.some.inj hc).symm)
      omega
    ·have hni : i ∉ cs.take k0 := by
      intro h; obtain ⟨j, hj⟩ := List.getElem?_of_mem h
      have hj2 : j < k0 := by
       have := (List.getElem?_eq_some_iff.1 hj).1; simp at this; omega
      rw [List.getElem?_take_of_lt hj2] at hj; have := hinj j k0 i hj hck; omega
     rw [List.take_add_one, hck, List.map_append, map_upd hni]; have h3 := hins _ _ _ _ (hdep2 v (by intro e; rw [htg] at e; cases e)) hS2
     simpa [upd] using h3
    ·by_cases hji : j = i
     ·subst hji; refine ⟨hi, fun h => ?_⟩
      rcases h with h | h
      ·omega
      ·rw [hfi] at h; cases h
     ·rw [show updB L i j = L j from if_neg hji] at hj; refine ⟨(hPh j hj).1, fun h => ?_⟩; rw [show upd vs i v j = vs j from if_neg hji]
      have hf : fr.contains j = true := by
       rcases h with h | h
       ·omega
       ·exact h
      exact hhang j w' v hj (hF' vs _ _ j _ hf ((hPh j hj).2 (.inr hf)))
 ·intro vs L W hSt hall _; obtain ⟨k0, hk0, hiff, hSk, hPh, hUn⟩ := hSt
  have hk : k0 = cs.length := by
   rcases Nat.lt_or_ge k0 cs.length with h | h
   ·exfalso
    have hc0 : cs[k0]? = some cs[k0] := List.getElem?_eq_getElem h; have hcl : cs[k0] < l.length := ht4 _ (List.getElem_mem h); have := (hiff k0 _ hc0).1 (hall _ hcl); omega
   ·omega
  subst hk; rw [List.take_length] at hSk; exact hend vs W hSk (fun i hi hf => (hPh i (hall i hi)).2 (.inr hf))
end
end Go.Proofs.Yticobffjnjbjiaa
