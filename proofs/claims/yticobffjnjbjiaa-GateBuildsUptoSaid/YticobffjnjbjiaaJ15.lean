import Derived.Test.YticobffjnjbjiaaJ14
import Derived.Laws.ResultCell
import Derived.Test.YticobffjnjbjiaaJ13
import Derived.Test.YticobffjnjbjiaaJ11
import Derived.Test.YticobffjnjbjiaaJ12
import Derived.Deep.QuietTactic
import Derived.BigQuiet
import Derived.Test.YticobffjnjbjiaaJ10
import Derived.Test.YticobffjnjbjiaaS0
set_option linter.unusedVariables false
set_option linter.unusedSimpArgs false
namespace Go.Proofs.Yticobffjnjbjiaa
open Go.RowKit
theorem Blk.over {g : Nat} {T : TypeId} : ∀ (vs : List Value) (o : Nat) {w : World} {arr : Array Value}, Blk w g T arr → Blk (w.setCells g o vs) g T (overL arr o vs)
 | [], _, _, _, h => h
 | v :: r, o, _, _, h => Blk.over r (o + 1) (h.set_ o v)
theorem overL_full (z cs : Array Value) (h : z.size = cs.size) : overL z 0 cs.toList = cs := by
 obtain ⟨h1, h2⟩ := overL_get cs.toList 0 z (by simp; omega)
 apply Array.ext_getElem?
 intro i; rw [h2, if_neg (by omega)]; by_cases hi : i < cs.size
 ·rw [if_pos (by simpa using hi)]; simp
 ·rw [if_neg (by simpa using hi), Array.getElem?_eq_none (by omega), Array.getElem?_eq_none (by omega)]
theorem Blk.setAll {w : World} {g : Nat} {T : TypeId} {z cs : Array Value} (h : Blk w g T z) (e : z.size = cs.size) : Blk (w.setCells g 0 cs.toList) g T cs := by
 have := Blk.over cs.toList 0 h
 rwa [overL_full z cs e] at this
theorem Blk.farAll {g g' : Nat} {T : TypeId} (hne : g ≠ g') : ∀ (vs : List Value) (o : Nat) {w : World} {arr : Array Value}, Blk w g T arr → Blk (w.setCells g' o vs) g T arr
 | [], _, _, _, h => h
 | v :: r, o, _, _, h => Blk.farAll hne r (o + 1) (h.far (p := ⟨g', o, none⟩) hne v)
theorem Blk.there {w : World} {g : Nat} {T : TypeId} {z : Array Value} {n : Nat} (h : Blk w g T z) (e : z.size = n) : w.there g 0 n := by
 intro j hj; rw [Nat.zero_add]; refine ⟨?_, h.frozen j⟩; rw [h.cell, Array.getElem?_eq_getElem (by omega)]; rfl
theorem below_setAll {B g : Nat} {a : World} (hb : B ≤ g) : ∀ (vs : List Value) (o : Nat) {w : World}, Below B a w → Below B a (w.setCells g o vs)
 | [], _, _, h => h
 | v :: r, o, _, h => below_setAll hb r (o + 1) (h.setCell (p := ⟨g, o, none⟩) hb v)
theorem Blk.grown {w w' : World} {g : Nat} {T : TypeId} {z : Array Value} {row : Option Nat} (h : Blk w g T z) (k : w.grownBy w' row) (hne : ∀ j, row = some j → g ≠ j) : Blk w' g T z :=
 (k.block g h.lt (fun e => hne g e.symm rfl)).trans h
theorem own_below {w w' : World} {base : Nat} {e : TypeId} {size : Nat} {v : Value} {n : Nat} {xs : List Value} (h : w.ownsRow base e size v n xs) (hb : Below w.heap.size w w') : w'.ownsRow base e size v n xs :=
 ownsRow_keep h fun g hg => hb.block g (ownsRow_lt h g hg)
theorem own_set {w : World} {base : Nat} {e : TypeId} {size : Nat} {v : Value} {n : Nat} {xs : List Value} (h : w.ownsRow base e size v n xs) {p : Addr} (hp : p.block < base) (u : Value) : (w.setCell p u).ownsRow base e size v n xs :=
 ownsRow_keep h fun g hg => Below.heap_setCell w p u g (fun e => by have := own_block_ge h g hg; omega)
theorem own_mono {w : World} {base base' : Nat} {e : TypeId} {size : Nat} {v : Value} {n : Nat} {xs : List Value} (h : w.ownsRow base e size v n xs) (hb : base' ≤ base) : w.ownsRow base' e size v n xs := by
 refine ⟨h.1, ?_⟩
 rcases h.2 with h0 | ⟨g, cap, cur, rfl, hg, r⟩
 ·exact .inl h0
 ·exact .inr ⟨g, cap, cur, rfl, Nat.le_trans hb hg, r⟩
theorem own_shp {w : World} {base : Nat} {e : TypeId} {size : Nat} {v : Value} {n : Nat} {xs : List Value} (h : w.ownsRow base e size v n xs) : ∃ A c, v = .slice A n c := by
 rcases h.2 with ⟨rfl, rfl⟩ | ⟨g, cap, cur, rfl, _⟩
 ·exact ⟨_, _, rfl⟩
 ·exact ⟨_, _, rfl⟩
/-- apart: no block is both's -/
def Apt (v u : Value) : Prop := ∀ g, v.ownBlock = some g → u.ownBlock ≠ some g
theorem own_other {w w' : World} {base : Nat} {e : TypeId} {size : Nat} {v u : Value} {n : Nat} {xs : List Value} (h : w.ownsRow base e size u n xs) (k : w.grownBy w' v.ownBlock) (ha : Apt v u) : w'.ownsRow base e size u n xs :=
 ownsRow_keep h fun g hg => k.block g (ownsRow_lt h g hg) (fun e => ha g e.symm hg)
theorem Apt.step {w : World} {base : Nat} {e : TypeId} {size : Nat} {v v' u : Value} {n : Nat} {xs : List Value} (h : w.ownsRow base e size u n xs) (ha : Apt v u) (k : v'.ownBlock = v.ownBlock ∨ v'.ownBlock = some w.heap.size) : Apt v' u := by
 intro g hg hu
 rcases k with k | k
 ·exact ha g (k ▸ hg) hu
 ·have := ownsRow_lt h g hu; rw [k] at hg; injection hg with hg; omega
theorem Apt.symm {v u : Value} (h : Apt v u) : Apt u v := fun g hu hv => h g hv hu
theorem Rd.fresh (w : World) (T : TypeId) (cs : List Value) : Rd (w.alloc (.cells cs.toArray T)) (some ⟨w.heap.size, 0, none⟩) cs := by
 intro _; refine ⟨_, _, rfl, fun i h => ?_⟩; rw [Nat.zero_add, (Blk.new w T cs.toArray).cell]; simp [h]
/-- what a step of the item's region may do to the world -/
def RD (N : Nat) (T : TypeId) (item : Array Value) (w w' : World) : Prop :=
 Below N w w' ∧ ∀ g arr, Blk w g T arr → arr.size = item.size → (∃ arr', Blk w' g T arr' ∧ arr'.size = item.size) ∧ (arr = item → Blk w' g T item)
theorem RD.of {w8 w w' : World} {T : TypeId} {item : Array Value} (hS : Below w8.heap.size w8 w) (h : Below w.heap.size w w') : RD w8.heap.size T item w w' :=
 ⟨h.mono hS.size, fun g arr hb e => ⟨⟨arr, hb.below h hb.lt, e⟩, fun he => he ▸ hb.below h hb.lt⟩⟩
theorem RD.set {w8 w : World} {T : TypeId} {item arr : Array Value} {g : Nat} (hS : Below w8.heap.size w8 w) (hg : w8.heap.size ≤ g) (hb : Blk w g T arr) (e : arr.size = item.size) : RD w8.heap.size T item w (w.setCells g 0 item.toList) := by
 refine ⟨below_setAll hg _ _ (Below.refl _ _), fun g' arr' hb' e' => ?_⟩; by_cases h : g' = g
 ·subst h; exact ⟨⟨item, hb.setAll e, rfl⟩, fun _ => hb.setAll e⟩
 ·exact ⟨⟨arr', Blk.farAll h _ _ hb', e'⟩, fun he => he ▸ Blk.farAll h _ _ hb'⟩
def PhiD (N : Nat) (T : TypeId) (TS : Value) (i : Int) (b off : Nat) (name : ByteArray) (R : Value) (F : Value) (P0 : Int) (item : Array Value) (vs : Nat → Value) (j : Nat) (w : World) (x : Value) : Prop :=
 match j with
 | 0 => x = TS
 | 1 => x = .int .i64 i
 | 2 => x = .pointer (some ⟨b, off, none⟩)
 | 3 => x = .string name
 | 4 => x = R
 | 5 => x = F
 | 6 => x = TS
 | 7 => x = .int .i64 i
 | 8 => x = .pointer (some ⟨b, off, none⟩)
 | 9 => x = .string name
 | 10 => x = R
 | 11 => x = .int .i64 P0
 | 12 => x = .agg item
 | 13 => ∃ g, x = .pointer (some ⟨g, 0, none⟩) ∧ N ≤ g ∧ ∃ arr, Blk w g T arr ∧ arr.size = item.size
 | 14 => ∃ g, vs 13 = .pointer (some ⟨g, 0, none⟩) ∧ Blk w g T item
 | _ => True
theorem PhiD.keep {N : Nat} {T : TypeId} {TS : Value} {i : Int} {b off : Nat} {name : ByteArray} {R F : Value} {P0 : Int} {item : Array Value} : ∀ vs (w w' : World), RD N T item w w' → ∀ j x, PhiD N T TS i b off name R F P0 item vs j w x → PhiD N T TS i b off name R F P0 item vs j w' x := by
 intro vs w w' hb j x h; unfold PhiD at h ⊢
 split <;> simp only at h ⊢ <;> first | exact h | skip
 ·obtain ⟨g, e, h1, arr, h2, h3⟩ := h; exact ⟨g, e, h1, (hb.2 g arr h2 h3).1⟩
 ·obtain ⟨g, e, h2⟩ := h; exact ⟨g, e, (hb.2 g item h2 rfl).2 rfl⟩
theorem infoI {it : IT} : (Try.prog.info? 66).map (·.size) = some (cellsI it).toArray.size := by kernel_rfl
theorem results_line {fn : Func} {p u : Tmp} {tmps : Array Value} {w : World} {g : Nat} {vp vs : Value} (h : fn.results = #[.cell p 58, .tmp u]) (hp : tmps.getD p undef = .pointer (some ⟨g, 0, none⟩)) (hb : Blk w g 58 #[vp, vs]) :
  (results fn tmps).run Try.prog w = .ok (.tuple #[.agg #[vp, vs], tmps.getD u undef]) w := by
 rw [results_cell_tmp h, hp]; simp only [asAddr, Result.andThen, Sem.run_pure]; rw [run_loadVar_mid w g 0 58 [vp, vs] _ (Blk.range hb) Try.underlying58 rfl (by kernel_rfl)]
theorem infoIL {it : IT} : (Try.prog.info? 66).map (·.size) = some (cellsI it).length := by kernel_rfl
theorem covering_n (Al A : Option Addr) (kl cl k c : Nat) (w : World) (g g' : Nat) (hg : w.heap.size = g) (hg' : g + 1 = g') :
  Calls Try.prog 65 #[.slice Al kl cl, .slice A k c] w fun e w' => e = .returned (.func (.func 100) #[] #[.pointer (some ⟨g', 0, none⟩), .pointer (some ⟨g, 0, none⟩)]) ∧ Blk w' g 37 #[.slice Al kl cl] ∧ Blk w' g' 35 #[.slice A k c] ∧ Below w.heap.size w w' := by
 subst hg hg'; have h1 := (Blk.new w 37 #[.slice Al kl cl]).alloc (.cells #[.slice A k c] 35); have h2 := Blk.new (w.alloc (.cells #[.slice Al kl cl] 37)) 35 #[.slice A k c]; rw [show (w.alloc (.cells #[.slice Al kl cl] 37)).heap.size = w.heap.size + 1 by simp] at h2
 go_enter Try.func65, Try.ntmps65
 go_wp2_with fail; go_ret; exact ⟨rfl, h1, h2, Below.tr (bA _ _) (bA _ _)⟩
set_option maxRecDepth 100000 in
set_option maxHeartbeats 4000000 in
theorem decide_n (Al A T S : Option Addr) (kl cl k c kt ct ks cs : Nat) (l : List Int) (ps : List PC) (names : List ByteArray) (rs : List RC0) (w : World) (hp : RowS cellsP w Al kl ps) (hr : RowS intC w A k l) (ht : RowS strC w T kt names) (hs : RowS cellsR w S ks rs) (HS : Hid (∀ x ∈ rs, ∀ v ∈ cellsR x, v.oneCell' = true)) (hks : ks ≤ 1073741824) :
  Calls Try.prog 27 #[.slice Al kl cl, .slice A k c, .slice T kt ct, .slice S ks cs] w fun e w' => ∃ vp np vs ns, ∃ er : Int, e = .returned (.tuple #[.agg #[vp, vs], .int .i64 er]) ∧ Hid (er = fitE kl l kt ks rs) ∧ w'.ownsRow w.heap.size 66 24 vp np ((pasL (l.map Int.toNat) ps (if er = 0 then names.zip rs else [])).flatMap cellsI) ∧ w'.ownsRow w.heap.size 66 24 vs ns ((stoL (l.map Int.toNat) ps (if er = 0 then names.zip rs else [])).flatMap cellsI) ∧ Below w.heap.size w w' := by
 have hkl := hp.2.2; have hkt := ht.2.2; obtain ⟨W1, HW1⟩ : ∃ W1, Hid (W1 = (w.alloc (.cells #[.slice none 0 0, .slice none 0 0] 58)).alloc (.cells #[.slice S ks cs] 41)) := ⟨_, rfl⟩; have hbw1 : Below w.heap.size w W1 := by rw [HW1.out]; exact Below.tr (bA _ _) (bA _ _)
 have hsl : RowS slC W1 (some ⟨w.heap.size + 1, 0, none⟩) 1 [⟨S, ks, cs, rs⟩] := by
  refine ⟨fun _ => ⟨w.heap.size + 1, 0, rfl, fun i hi => ?_⟩, rfl, by omega⟩; have hi0 : i = 0 := by simpa [slC] using hi
  subst hi0; rw [HW1.out]; have hb := Blk.new (w.alloc (.cells #[.slice none 0 0, .slice none 0 0] 58)) 41 #[.slice S ks cs]; rw [show (w.alloc (.cells #[.slice none 0 0, .slice none 0 0] 58)).heap.size = w.heap.size + 1 by simp] at hb; exact hb.cell 0
 have HSS : Hid (∀ s ∈ [(⟨S, ks, cs, rs⟩ : SLR)], RowS cellsR W1 s.A s.k s.rs ∧ ∀ x ∈ s.rs, ∀ v ∈ cellsR x, v.oneCell' = true) := by
  intro s h; simp only [List.mem_cons, List.not_mem_nil, or_false] at h; subst h; exact ⟨hs.below hbw1, HS.out⟩
 go_enter Try.func27, Try.ntmps27
 go_wp2_with fail; rw [← HW1.out]; refine (fits_n Al A (some ⟨w.heap.size + 1, 0, none⟩) kl cl k c 1 1 kt ks l [⟨S, ks, cs, rs⟩] W1 hkl (hr.below hbw1) hsl HSS (by simp [sumK]; exact hks)).mono ?_; rintro e w2 ⟨er, rfl, HE, hb2⟩
 have HE2 : Hid (er = fitE kl l kt ks rs) := by
  show _ = _; rw [HE.out]; simp [allR]
 clear HE hsl HSS
 have B8 : Blk w2 w.heap.size 58 #[.slice none 0 0, .slice none 0 0] := by
  have := Blk.new w 58 #[.slice none 0 0, .slice none 0 0]; have h2 := (this.alloc (.cells #[.slice S ks cs] 41)); rw [← HW1.out] at h2; exact h2.below hb2 h2.lt
 have hbw2 := Below.tr hbw1 hb2; have hlt : w.heap.size < w2.heap.size := B8.lt; clear hb2 HW1 hbw1; by_cases he : er = 0
 ·have h0 : (er != 0) = false := by rw [he]; rfl
  have HFIT : Hid (fitE kl l kt ks rs = 0) := by show _ = _; rw [← HE2.out]; exact he
  have HKK : Hid (kt = ks ∧ ∀ n ∈ l, outB kl n = false) := by
   have h := HFIT.out; unfold fitE at h
   split at h
   ·cases h
   ·rename_i h1
    split at h
    ·cases h
    ·rename_i h2
     refine ⟨by omega, fun n hn => ?_⟩; have h3 := List.any_eq_false.1 (by simpa using h1) n hn
     simpa using h3
  obtain ⟨Lz, HLz⟩ : ∃ L, Hid (L = l.map Int.toNat) := ⟨_, rfl⟩
  have hnat : RowS natC w A k Lz := by
   have e : l = Lz.map (fun n : Nat => (n : Int)) := by
    rw [HLz.out, List.map_map]
    conv => lhs; rw [← List.map_id l]
    apply List.map_congr_left
    intro n hn; have := HKK.out.2 n hn; unfold outB at this; simp at this; simp; omega
   rw [e] at hr; refine ⟨?_, by simpa using hr.2.1, hr.2.2⟩
   have e2 : ∀ L : List Nat, (L.map fun n : Nat => (n : Int)).flatMap intC = L.flatMap natC := by
    intro L
    induction L with
    | nil => rfl
    | cons a l ih => rw [List.map_cons, List.flatMap_cons, List.flatMap_cons, ih]; rfl
   rw [← e2]; exact hr.1
  have HIN : Hid (∀ (j : Nat) n, Lz[j]? = some n → n < kl) := by
   intro j n hj; rw [HLz.out, List.getElem?_map] at hj
   cases hlj : l[j]? with
   | none => rw [hlj] at hj; cases hj
   | some m =>
    rw [hlj] at hj; have hm : m.toNat = n := by simpa using hj
    have := HKK.out.2 m (List.mem_of_getElem? hlj); unfold outB at this; simp at this; omega
  have hkk : kt = ks := HKK.out.1; subst hkk; go_wp2_with fail; refine (covering_n Al A kl cl k c _ (w2.heap.size + 1) (w2.heap.size + 2) (by simp) rfl).mono ?_; rintro e w3 ⟨rfl, Bl3, Ba3, hb3⟩; have B3 := (Blk.new w2 58 #[.slice none 0 0, .slice none 0 0]).below hb3 (by simp); have hb23 := Below.tr (bA w2 (.cells #[.slice none 0 0, .slice none 0 0] 58)) hb3; clear hb3; obtain ⟨xs, HXS⟩ : ∃ xs, Hid (xs = names.zip rs) := ⟨_, rfl⟩; have HXL : Hid (names.length = kt ∧ rs.length = kt) := ⟨ht.2.1.symm, hs.2.1.symm⟩; obtain ⟨i0, hi0, hz0, hz1, hz2⟩ := info_parts info_item; go_wp2_with fail
  go_loopg [34] kt (fun j x wr => ∃ (i : Nat) (vp : Value) (np : Nat) (vs : Value) (ns : Nat), x = .int .i64 i ∧ i + j = kt ∧ Blk wr w2.heap.size 58 #[vp, vs] ∧ Blk wr (w2.heap.size + 1) 37 #[.slice Al kl cl] ∧ Blk wr (w2.heap.size + 2) 35 #[.slice A k c] ∧ wr.ownsRow (w2.heap.size + 3) 66 24 vp np ((pasL Lz ps (xs.take i)).flatMap cellsI) ∧ wr.ownsRow (w2.heap.size + 3) 66 24 vs ns ((stoL Lz ps (xs.take i)).flatMap cellsI) ∧ Apt vp vs ∧ np ≤ i ∧ ns ≤ i ∧ Below w2.heap.size w2 wr)
  case atStart => exact ⟨0, _, 0, _, 0, rfl, by omega, B3, Bl3, Ba3, World.ownsRow_nil _ _ _ _, World.ownsRow_nil _ _ _ _, fun g h => by simp [Value.ownBlock] at h, Nat.le_refl _, Nat.le_refl _, hb23⟩
  case round =>
   clear B3 Bl3 Ba3 hb23; obtain ⟨i, vp, np, vs, ns, rfl, hij, B, Bl, Ba, hop, hos, hap, hnp, hns, hbe⟩ := hrel; by_cases hi : i < kt
   ·have hil : i < rs.length := by have := HXL.out; omega
    obtain ⟨bt, offt, name, rfl, hct, HNM⟩ := (ht.below (Below.tr hbw2 hbe)).str hi; obtain ⟨b, off, rfl, HC⟩ := (hs.below (Below.tr hbw2 hbe)).at_ cellsR_len (by omega) hi hil; obtain ⟨r, HR⟩ : ∃ r, Hid (rs[i]? = some r) := ⟨rs[i], List.getElem?_eq_getElem hil⟩; have hri : rs[i] = r := by have := HR.out; rw [List.getElem?_eq_getElem hil] at this; injection this
    rw [hri] at HC; clear hri; have hone : ∀ v ∈ cellsR r, v.oneCell' = true := HS.out r (List.mem_of_getElem? HR.out); have HALL := Lib.hid (all_oneCell_toArray hone)
    have HX : Hid (xs[i]? = some (name, r)) := by
     show _ = _; rw [HXS.out, List.getElem?_zip_eq_some.2]; exact ⟨HNM.out, HR.out⟩
    have HONE := Lib.hid hone; clear hone; by_cases ho : r.oc = 0
    ·have hd : (r.oc == 0) = true := by simpa using ho
     have hst := step_none (l := Lz) (ps := ps) HX.out ho; have HST := Lib.hid hst; clear hst ho
     go_wp2_with (first | (refine wpList_load_mid rfl 64 (.tmp 37) rfl b (off + i * 22) rfl [.int .i64 r.oc, .string r.at_, .int .i64 r.st, r.v3, r.v4, r.v5, r.v6, r.v7, r.v8, r.v9, r.v10, r.v11, r.v12, r.v13, r.v14, r.v15, r.v16, r.v17, r.v18, r.v19, r.v20, r.v21] _ (fun j v h => HC.out j v h) Try.underlying64 rfl infoR ?_) | (refine wpList_store_mid rfl 64 (.tmp 14) (.tmp 38) rfl wr.heap.size 0 #[.int .i64 r.oc, .string r.at_, .int .i64 r.st, r.v3, r.v4, r.v5, r.v6, r.v7, r.v8, r.v9, r.v10, r.v11, r.v12, r.v13, r.v14, r.v15, r.v16, r.v17, r.v18, r.v19, r.v20, r.v21] rfl rfl (there_new _ _ _ 22 (by simp)) (by kernel_rfl) HALL.out ?_; rw [setCells_new]; rotate_left; rfl))
     have hst := HST.out
     go_roundg (gk - 1)
     case measure => omega
     case rel =>
      refine ⟨i + 1, vp, np, vs, ns, by go_num, by omega, B.alloc _, Bl.alloc _, Ba.alloc _, ?_, ?_, hap, by omega, by omega, Below.tr hbe (bA _ _)⟩
      ·rw [hst.1]; exact own_below hop (bA _ _)
      ·rw [hst.2]; exact own_below hos (bA _ _)
    ·have hd : (r.oc == 0) = false := by simpa using ho
     obtain ⟨P0, HP0⟩ : ∃ P0, Hid (P0 = ofN Lz ps name r) := ⟨_, rfl⟩
     have HONL : Hid (∀ v ∈ cellsI ⟨name, r, P0⟩, v.oneCell' = true) := by
      intro v hv; simp only [cellsI, List.mem_cons, List.not_mem_nil, or_false] at hv
      rcases hv with rfl | hv
      ·rfl
      ·have h : v ∈ cellsR r ∨ v = .int .i64 P0 := by
        simp only [cellsR, List.mem_cons, List.not_mem_nil, or_false, or_assoc]; exact hv
       rcases h with h | rfl
       ·exact HONE.out v h
       ·rfl
     have HONI : Hid ((#[.string name, .int .i64 r.oc, .string r.at_, .int .i64 r.st, r.v3, r.v4, r.v5, r.v6, r.v7, r.v8, r.v9, r.v10, r.v11, r.v12, r.v13, r.v14, r.v15, r.v16, r.v17, r.v18, r.v19, r.v20, r.v21, .int .i64 P0] : Array Value).all (·.oneCell') = true) := all_oneCell_toArray HONL.out
     go_upto_region 10 with (first | (refine wpList_load_mid rfl 64 (.tmp 37) rfl b (off + i * 22) rfl [.int .i64 r.oc, .string r.at_, .int .i64 r.st, r.v3, r.v4, r.v5, r.v6, r.v7, r.v8, r.v9, r.v10, r.v11, r.v12, r.v13, r.v14, r.v15, r.v16, r.v17, r.v18, r.v19, r.v20, r.v21] _ (fun j v h => HC.out j v h) Try.underlying64 rfl infoR ?_) | (refine wpList_store_mid rfl 64 (.tmp 14) (.tmp 38) rfl wr.heap.size 0 #[.int .i64 r.oc, .string r.at_, .int .i64 r.st, r.v3, r.v4, r.v5, r.v6, r.v7, r.v8, r.v9, r.v10, r.v11, r.v12, r.v13, r.v14, r.v15, r.v16, r.v17, r.v18, r.v19, r.v20, r.v21] rfl rfl (there_new _ _ _ 22 (by simp)) (by kernel_rfl) HALL.out ?_; rw [setCells_new]; rotate_left; rfl))
     obtain ⟨w8, HW8⟩ : ∃ W, Hid (W = wr.alloc (.cells #[.int .i64 r.oc, .string r.at_, .int .i64 r.st, r.v3, r.v4, r.v5, r.v6, r.v7, r.v8, r.v9, r.v10, r.v11, r.v12, r.v13, r.v14, r.v15, r.v16, r.v17, r.v18, r.v19, r.v20, r.v21] 64)) := ⟨_, rfl⟩; rw [← HW8.out]; have hb8 : Below wr.heap.size wr w8 := by rw [HW8.out]; exact bA _ _
     have HRR : Hid (w8.rangeAt wr.heap.size 0 [.int .i64 r.oc, .string r.at_, .int .i64 r.st, r.v3, r.v4, r.v5, r.v6, r.v7, r.v8, r.v9, r.v10, r.v11, r.v12, r.v13, r.v14, r.v15, r.v16, r.v17, r.v18, r.v19, r.v20, r.v21]) := by show World.rangeAt _ _ _ _; rw [HW8.out]; exact Blk.range (Blk.new _ _ _)
     have htc := cell_keep hb8 hct; have hnat8 := (hnat.below (Below.tr hbw2 hbe)).below hb8; have hp8 := (hp.below (Below.tr hbw2 hbe)).below hb8; have ha8 := cell_keep hb8 (Ba.cell 0); have hl8 := cell_keep hb8 (Bl.cell 0); refine region_invd (PhiD w8.heap.size 66 (.slice (some ⟨bt, offt, none⟩) kt ct) i bt (offt + i) name (.agg #[.int .i64 r.oc, .string r.at_, .int .i64 r.st, r.v3, r.v4, r.v5, r.v6, r.v7, r.v8, r.v9, r.v10, r.v11, r.v12, r.v13, r.v14, r.v15, r.v16, r.v17, r.v18, r.v19, r.v20, r.v21]) (.func (.func 100) #[] #[.pointer (some ⟨w2.heap.size + 2, 0, none⟩), .pointer (some ⟨w2.heap.size + 1, 0, none⟩)]) P0 #[.string name, .int .i64 r.oc, .string r.at_, .int .i64 r.st, r.v3, r.v4, r.v5, r.v6, r.v7, r.v8, r.v9, r.v10, r.v11, r.v12, r.v13, r.v14, r.v15, r.v16, r.v17, r.v18, r.v19, r.v20, r.v21, .int .i64 P0]) (RD w8.heap.size 66 #[.string name, .int .i64 r.oc, .string r.at_, .int .i64 r.st, r.v3, r.v4, r.v5, r.v6, r.v7, r.v8, r.v9, r.v10, r.v11, r.v12, r.v13, r.v14, r.v15, r.v16, r.v17, r.v18, r.v19, r.v20, r.v21, .int .i64 P0]) (fun W => Below w8.heap.size w8 W) (by kernel_rfl) (by kernel_rfl) (by kernel_rfl) PhiD.keep (fun _ _ hR hS => hS.trans hR.1) ?_ (bD _) ?_ ?_
     ·exact sK (fun _ _ _ _ _ h => h) (sK (fun _ _ _ _ _ h => h) (sK (fun _ _ _ _ _ h => h) (sK (fun _ _ _ _ _ h => h) (sK (fun _ _ _ _ _ h => h) (sK (fun _ _ _ _ _ h => h) (sK (fun _ _ _ _ _ h => h) (sK (fun _ _ _ _ _ h => h) (sK (fun _ _ _ _ _ h => h) (sK (fun _ _ _ _ _ h => h) (sK (fun _ _ _ _ _ h => h) (sK (fun _ _ _ _ _ h => h) (sK (fun _ _ _ _ _ h => h) (sK (fun _ _ _ _ _ h => h) (sK (by intro vs vs' w x h; have h1 := h ⟨13, .data⟩ (by simp) rfl; simp only [PhiD]; rw [h1]; exact id) (sZ)))))))))))))))
     ·refine sK ?_ (sK ?_ (sK ?_ (sK ?_ (sK ?_ (sK ?_ (sK ?_ (sK ?_ (sK ?_ (sK ?_ (sK ?_ (sK ?_ (sK ?_ (sK ?_ (sK ?_ (sZ)))))))))))))))
      ·as_aux_lemma =>
       intro vs W hS hdep K hK; refine ⟨?_⟩; simp only [fillR, Act.put, sA, sB, sC, Nat.zero_add, Nat.reduceAdd] at hK ⊢; go_simp; with_reducible refine hK _ _ (RD.of hS (Below.refl _ _)) ?_
       exact rfl
      ·as_aux_lemma =>
       intro vs W hS hdep K hK; refine ⟨?_⟩; simp only [fillR, Act.put, sA, sB, sC, Nat.zero_add, Nat.reduceAdd] at hK ⊢; go_simp; with_reducible refine hK _ _ (RD.of hS (Below.refl _ _)) ?_
       exact rfl
      ·as_aux_lemma =>
       intro vs W hS hdep K hK; have d0 := hdep ⟨0, .data⟩ (by simp) rfl; simp only [PhiD] at d0; have d1 := hdep ⟨1, .data⟩ (by simp) rfl; simp only [PhiD] at d1; refine ⟨?_⟩; simp only [fillR, Act.put, sA, sB, sC, Nat.zero_add, Nat.reduceAdd, d0, d1] at hK ⊢; go_simp; with_reducible refine hK _ _ (RD.of hS (Below.refl _ _)) ?_
       exact rfl
      ·as_aux_lemma =>
       intro vs W hS hdep K hK; have d0 := hdep ⟨2, .data⟩ (by simp) rfl; simp only [PhiD] at d0; have ft := cell_keep hS htc; refine ⟨?_⟩; simp only [fillR, Act.put, sA, sB, sC, Nat.zero_add, Nat.reduceAdd, d0] at hK ⊢; go_simp; with_reducible refine hK _ _ (RD.of hS (Below.refl _ _)) ?_
       exact rfl
      ·as_aux_lemma =>
       intro vs W hS hdep K hK; refine ⟨?_⟩; simp only [fillR, Act.put, sA, sB, sC, Nat.zero_add, Nat.reduceAdd] at hK ⊢; rw [if_pos (by rfl)]; refine wp_load_mid 64 (.tmp 14) (by rfl) wr.heap.size 0 (by rfl) [.int .i64 r.oc, .string r.at_, .int .i64 r.st, r.v3, r.v4, r.v5, r.v6, r.v7, r.v8, r.v9, r.v10, r.v11, r.v12, r.v13, r.v14, r.v15, r.v16, r.v17, r.v18, r.v19, r.v20, r.v21] _ (fun j v h => cell_keep hS (HRR.out j v h)) Try.underlying64 (by rfl) infoR ?_; simp only [Act.put, sA, sB, sC]; with_reducible refine hK _ _ (RD.of hS (Below.refl _ _)) ?_
       exact rfl
      ·as_aux_lemma =>
       intro vs W hS hdep K hK; refine ⟨?_⟩; simp only [fillR, Act.put, sA, sB, sC, Nat.zero_add, Nat.reduceAdd] at hK ⊢; go_simp; with_reducible refine hK _ _ (RD.of hS (Below.refl _ _)) ?_
       exact rfl
      ·as_aux_lemma =>
       intro vs W hS hdep K hK; refine ⟨?_⟩; simp only [fillR, Act.put, sA, sB, sC, Nat.zero_add, Nat.reduceAdd] at hK ⊢; go_simp; with_reducible refine hK _ _ (RD.of hS (Below.refl _ _)) ?_
       exact rfl
      ·as_aux_lemma =>
       intro vs W hS hdep K hK; refine ⟨?_⟩; simp only [fillR, Act.put, sA, sB, sC, Nat.zero_add, Nat.reduceAdd] at hK ⊢; go_simp; with_reducible refine hK _ _ (RD.of hS (Below.refl _ _)) ?_
       exact rfl
      ·as_aux_lemma =>
       intro vs W hS hdep K hK; have d0 := hdep ⟨6, .data⟩ (by simp) rfl; simp only [PhiD] at d0; have d1 := hdep ⟨7, .data⟩ (by simp) rfl; simp only [PhiD] at d1; refine ⟨?_⟩; simp only [fillR, Act.put, sA, sB, sC, Nat.zero_add, Nat.reduceAdd, d0, d1] at hK ⊢; go_simp; with_reducible refine hK _ _ (RD.of hS (Below.refl _ _)) ?_
       exact rfl
      ·as_aux_lemma =>
       intro vs W hS hdep K hK; have d0 := hdep ⟨8, .data⟩ (by simp) rfl; simp only [PhiD] at d0; have ft := cell_keep hS htc; refine ⟨?_⟩; simp only [fillR, Act.put, sA, sB, sC, Nat.zero_add, Nat.reduceAdd, d0] at hK ⊢; go_simp; with_reducible refine hK _ _ (RD.of hS (Below.refl _ _)) ?_
       exact rfl
      ·as_aux_lemma =>
       intro vs W hS hdep K hK; refine ⟨?_⟩; simp only [fillR, Act.put, sA, sB, sC, Nat.zero_add, Nat.reduceAdd] at hK ⊢; rw [if_pos (by rfl)]; refine wp_load_mid 64 (.tmp 14) (by rfl) wr.heap.size 0 (by rfl) [.int .i64 r.oc, .string r.at_, .int .i64 r.st, r.v3, r.v4, r.v5, r.v6, r.v7, r.v8, r.v9, r.v10, r.v11, r.v12, r.v13, r.v14, r.v15, r.v16, r.v17, r.v18, r.v19, r.v20, r.v21] _ (fun j v h => cell_keep hS (HRR.out j v h)) Try.underlying64 (by rfl) infoR ?_; simp only [Act.put, sA, sB, sC]; with_reducible refine hK _ _ (RD.of hS (Below.refl _ _)) ?_
       exact rfl
      ·as_aux_lemma =>
       intro vs W hS hdep K hK; have d0 := hdep ⟨5, .data⟩ (by simp) rfl; simp only [PhiD] at d0; have d1 := hdep ⟨9, .data⟩ (by simp) rfl; simp only [PhiD] at d1; have d2 := hdep ⟨10, .data⟩ (by simp) rfl; simp only [PhiD] at d2; refine ⟨?_⟩; simp only [fillR, Act.put, sA, sB, sC, Nat.zero_add, Nat.reduceAdd, d0, d1, d2] at hK ⊢; go_simp; refine (covering1_n A Al k c (w2.heap.size + 2) (w2.heap.size + 1) kl cl Lz ps name r _ (hnat8.below hS) (cell_keep hS ha8) (cell_keep hS hl8) (hp8.below hS) HIN).mono ?_; rintro e w' ⟨x, rfl, _, HO, hb⟩; obtain rfl : x = P0 := HO.out.eq.trans HP0.out.symm; go_wp2_with fail; with_reducible refine hK _ _ (RD.of hS hb) ?_
       exact rfl
      ·as_aux_lemma =>
       intro vs W hS hdep K hK; have d0 := hdep ⟨3, .data⟩ (by simp) rfl; simp only [PhiD] at d0; have d1 := hdep ⟨4, .data⟩ (by simp) rfl; simp only [PhiD] at d1; have d2 := hdep ⟨11, .data⟩ (by simp) rfl; simp only [PhiD] at d2; refine ⟨?_⟩; simp only [fillR, Act.put, sA, sB, sC, Nat.zero_add, Nat.reduceAdd, d0, d1, d2] at hK ⊢; rw [if_pos (by rfl)]; refine wp_build3 66 (.tmp 45) (.tmp 46) (.tmp 53) (by rfl) (.string name) (.agg #[.int .i64 r.oc, .string r.at_, .int .i64 r.st, r.v3, r.v4, r.v5, r.v6, r.v7, r.v8, r.v9, r.v10, r.v11, r.v12, r.v13, r.v14, r.v15, r.v16, r.v17, r.v18, r.v19, r.v20, r.v21]) (.int .i64 P0) (by rfl) (by rfl) (by rfl) #[.string name, .int .i64 r.oc, .string r.at_, .int .i64 r.st, r.v3, r.v4, r.v5, r.v6, r.v7, r.v8, r.v9, r.v10, r.v11, r.v12, r.v13, r.v14, r.v15, r.v16, r.v17, r.v18, r.v19, r.v20, r.v21, .int .i64 P0] built_item ?_; simp only [Act.put, sA, sB, sC]; with_reducible refine hK _ _ (RD.of hS (Below.refl _ _)) ?_
       exact rfl
      ·as_aux_lemma =>
       intro vs W hS hdep K hK; refine ⟨?_⟩; simp only [fillR, Act.put, sA, sB, sC, Nat.zero_add, Nat.reduceAdd] at hK ⊢; go_simp; with_reducible refine hK _ _ (RD.of hS (bA _ _)) ?_
       exact ⟨_, rfl, hS.size, _, Blk.new _ _ _, rfl⟩
      ·as_aux_lemma =>
       intro vs W hS hdep K hK; have d0 := hdep ⟨13, .data⟩ (by simp) rfl; simp only [PhiD] at d0; refine @exE1 _ _ _ d0 ?_; clear d0; intro g0 d0; have E0 := d0.1; have LE0 := d0.2.1; have B0 := d0.2.2; clear d0; have d1 := hdep ⟨12, .data⟩ (by simp) rfl; simp only [PhiD] at d1; refine @exE1 _ _ _ B0 ?_; intro arr BA; have BA1 := BA.1; have BA2 := BA.2; clear BA B0; refine ⟨?_⟩; simp only [fillR, Act.put, sA, sB, sC, Nat.zero_add, Nat.reduceAdd, E0, d1] at hK ⊢; rw [if_pos (by rfl)]; refine wp_store_mid 66 (.tmp 15) (.tmp 54) (by rfl) g0 0 #[.string name, .int .i64 r.oc, .string r.at_, .int .i64 r.st, r.v3, r.v4, r.v5, r.v6, r.v7, r.v8, r.v9, r.v10, r.v11, r.v12, r.v13, r.v14, r.v15, r.v16, r.v17, r.v18, r.v19, r.v20, r.v21, .int .i64 P0] (by rfl) (by rfl) (Blk.there BA1 BA2) (infoI (it := ⟨name, r, P0⟩)) HONI.out ?_; simp only [Act.put, sA, sB, sC]; with_reducible refine hK undef _ (RD.set hS LE0 BA1 BA2) ?_
       exact ⟨_, E0, Blk.setAll BA1 BA2⟩
     ·intro vs W9 hS hv; have v13 := hv 13 (by simp); have v14 := hv 14 (by simp); simp only [PhiD] at v13 v14; obtain ⟨g, e13, hge, _⟩ := v13; obtain ⟨g', e14, BI⟩ := v14; obtain rfl : g' = g := by rw [e13] at e14; injection e14 with e; injection e with e; injection e with e; exact e.symm
      simp only [fillR, Act.put, sA, sB, sC, Nat.zero_add, Nat.reduceAdd, e13]; have hb9 := Below.tr hb8 hS; have hbe9 := Below.tr hbe hb9; have B9 := Blk.below B hb9 B.lt; have Bl9 := Blk.below Bl hb9 Bl.lt; have Ba9 := Blk.below Ba hb9 Ba.lt; have hop9 := own_below hop hb9; have hos9 := own_below hos hb9; clear hv e13 e14 hS hb9 HRR htc hnat8 hp8 ha8 hl8 hb8 B Bl Ba hop hos hbe HC hct; by_cases hneg : P0 < 0
      ·have hst := step_sto (l := Lz) (ps := ps) HX.out ho (by rw [← HP0.out]; exact hneg); rw [← HP0.out] at hst; have HST := Lib.hid hst; clear hst; have q23 := BI.cell 23; simp only [List.getElem?_toArray, List.getElem?_cons_zero, List.getElem?_cons_succ] at q23; have hd2 : decide (P0 < 0) = true := by simpa using hneg
       obtain ⟨W10, HW10⟩ : ∃ W, Hid (W = W9.alloc (.cells #[.string name, .int .i64 r.oc, .string r.at_, .int .i64 r.st, r.v3, r.v4, r.v5, r.v6, r.v7, r.v8, r.v9, r.v10, r.v11, r.v12, r.v13, r.v14, r.v15, r.v16, r.v17, r.v18, r.v19, r.v20, r.v21, .int .i64 P0] 66)) := ⟨_, rfl⟩; have hb10 : Below W9.heap.size W9 W10 := by rw [HW10.out]; exact bA _ _
       have B10 := Blk.below B9 hb10 B9.lt; have Bl10 := Blk.below Bl9 hb10 Bl9.lt; have Ba10 := Blk.below Ba9 hb10 Ba9.lt; have hop10 := own_below hop9 hb10; have hos10 := own_below hos9 hb10; have hbe10 := Below.tr hbe9 hb10; have hrd : Rd W10 (some ⟨W9.heap.size, 0, none⟩) ([.string name, .int .i64 r.oc, .string r.at_, .int .i64 r.st, r.v3, r.v4, r.v5, r.v6, r.v7, r.v8, r.v9, r.v10, r.v11, r.v12, r.v13, r.v14, r.v15, r.v16, r.v17, r.v18, r.v19, r.v20, r.v21, .int .i64 P0]) := by rw [HW10.out]; exact Rd.fresh _ _ _
       have hsz10 : w2.heap.size + 3 ≤ W10.heap.size := Nat.lt_of_le_of_lt (Nat.le_refl _) (Ba10.lt); have q0 := B9.cell 1; simp only [List.getElem?_toArray, List.getElem?_cons_zero, List.getElem?_cons_succ] at q0; have q9 := cell_keep hb10 q0
       go_wp2_with (first | (refine wpList_load_mid rfl 66 (.tmp 15) rfl g' 0 rfl ([.string name, .int .i64 r.oc, .string r.at_, .int .i64 r.st, r.v3, r.v4, r.v5, r.v6, r.v7, r.v8, r.v9, r.v10, r.v11, r.v12, r.v13, r.v14, r.v15, r.v16, r.v17, r.v18, r.v19, r.v20, r.v21, .int .i64 P0]) _ (Blk.range BI) Try.underlying66 rfl (infoIL (it := ⟨name, r, P0⟩)) ?_) | (refine wpList_slice1 rfl 56 66 (.tmp 60) rfl #[.string name, .int .i64 r.oc, .string r.at_, .int .i64 r.st, r.v3, r.v4, r.v5, r.v6, r.v7, r.v8, r.v9, r.v10, r.v11, r.v12, r.v13, r.v14, r.v15, r.v16, r.v17, r.v18, r.v19, r.v20, r.v21, .int .i64 P0] i0 zeroI 24 (.agg #[.string name, .int .i64 r.oc, .string r.at_, .int .i64 r.st, r.v3, r.v4, r.v5, r.v6, r.v7, r.v8, r.v9, r.v10, r.v11, r.v12, r.v13, r.v14, r.v15, r.v16, r.v17, r.v18, r.v19, r.v20, r.v21, .int .i64 P0]) Try.underlying56 hi0 hz0 hz1 (by decide) (by decide) rfl (fill_item ⟨name, r, P0⟩) ?_; rw [← HW10.out]) | (at_builtin; refine wpList_append_any _ rfl (.tmp 59) (.tmp 61) _ rfl (w2.heap.size + 3) 66 i0 _ 24 96 Try.underlying56 hi0 hz0 hz1 hz2 zeroI_size (by omega) _ ns _ rfl hos10 _ 1 1 ([.string name, .int .i64 r.oc, .string r.at_, .int .i64 r.st, r.v3, r.v4, r.v5, r.v6, r.v7, r.v8, r.v9, r.v10, r.v11, r.v12, r.v13, r.v14, r.v15, r.v16, r.v17, r.v18, r.v19, r.v20, r.v21, .int .i64 P0]) rfl rfl hrd HONL.out (by simp only [maxLen]; omega) (by omega) hsz10 ?_; intro v1 w11 hown1 hg1 hat1; obtain ⟨A1, c1, rfl⟩ := own_shp hown1; have B11 := Blk.grown B10 hg1 (fun j h => by have := own_block_ge hos10 j h; omega); have q1 := B11.frozen 1; have q2 := B11.cell 1; simp only [List.getElem?_toArray, List.getElem?_cons_zero, List.getElem?_cons_succ] at q2))
       have Bl11 := Blk.grown Bl10 hg1 (fun j h => by have := own_block_ge hos10 j h; omega); have Ba11 := Blk.grown Ba10 hg1 (fun j h => by have := own_block_ge hos10 j h; omega); have hoth := own_other hop10 hg1 hap.symm; have hap2 := Apt.step hop10 hap.symm hat1; have hbe11 := hbe10.grown hg1 hbe10.size (fun j h => by have := own_block_ge hos10 j h; omega); have hst := HST.out
       go_roundg (gk - 1)
       case measure => omega
       case rel =>
        refine ⟨i + 1, vp, np, _, ns + 1, by go_num, by omega, Blk.set_ B11 1 _, Blk.far Bl11 (p := ⟨w2.heap.size, 1, none⟩) (by simp) _, Blk.far Ba11 (p := ⟨w2.heap.size, 1, none⟩) (by simp) _, ?_, ?_, hap2.symm, by omega, by omega, hbe11.setCell (p := ⟨w2.heap.size, 1, none⟩) (Nat.le_refl _) _⟩
        ·rw [hst.1]; exact own_set hoth (p := ⟨w2.heap.size, 1, none⟩) (by show w2.heap.size < _; omega) _
        ·rw [hst.2, List.flatMap_append]; exact own_set hown1 (p := ⟨w2.heap.size, 1, none⟩) (by show w2.heap.size < _; omega) _
      ·have hst := step_pas (l := Lz) (ps := ps) HX.out ho (by rw [← HP0.out]; omega); rw [← HP0.out] at hst; have HST := Lib.hid hst; clear hst; have q23 := BI.cell 23; simp only [List.getElem?_toArray, List.getElem?_cons_zero, List.getElem?_cons_succ] at q23; have hd2 : decide (P0 < 0) = false := by simpa using hneg
       obtain ⟨W10, HW10⟩ : ∃ W, Hid (W = W9.alloc (.cells #[.string name, .int .i64 r.oc, .string r.at_, .int .i64 r.st, r.v3, r.v4, r.v5, r.v6, r.v7, r.v8, r.v9, r.v10, r.v11, r.v12, r.v13, r.v14, r.v15, r.v16, r.v17, r.v18, r.v19, r.v20, r.v21, .int .i64 P0] 66)) := ⟨_, rfl⟩; have hb10 : Below W9.heap.size W9 W10 := by rw [HW10.out]; exact bA _ _
       have B10 := Blk.below B9 hb10 B9.lt; have Bl10 := Blk.below Bl9 hb10 Bl9.lt; have Ba10 := Blk.below Ba9 hb10 Ba9.lt; have hop10 := own_below hop9 hb10; have hos10 := own_below hos9 hb10; have hbe10 := Below.tr hbe9 hb10; have hrd : Rd W10 (some ⟨W9.heap.size, 0, none⟩) ([.string name, .int .i64 r.oc, .string r.at_, .int .i64 r.st, r.v3, r.v4, r.v5, r.v6, r.v7, r.v8, r.v9, r.v10, r.v11, r.v12, r.v13, r.v14, r.v15, r.v16, r.v17, r.v18, r.v19, r.v20, r.v21, .int .i64 P0]) := by rw [HW10.out]; exact Rd.fresh _ _ _
       have hsz10 : w2.heap.size + 3 ≤ W10.heap.size := Nat.lt_of_le_of_lt (Nat.le_refl _) (Ba10.lt); have q0 := B9.cell 0; simp only [List.getElem?_toArray, List.getElem?_cons_zero, List.getElem?_cons_succ] at q0; have q9 := cell_keep hb10 q0
       go_wp2_with (first | (refine wpList_load_mid rfl 66 (.tmp 15) rfl g' 0 rfl ([.string name, .int .i64 r.oc, .string r.at_, .int .i64 r.st, r.v3, r.v4, r.v5, r.v6, r.v7, r.v8, r.v9, r.v10, r.v11, r.v12, r.v13, r.v14, r.v15, r.v16, r.v17, r.v18, r.v19, r.v20, r.v21, .int .i64 P0]) _ (Blk.range BI) Try.underlying66 rfl (infoIL (it := ⟨name, r, P0⟩)) ?_) | (refine wpList_slice1 rfl 56 66 (.tmp 66) rfl #[.string name, .int .i64 r.oc, .string r.at_, .int .i64 r.st, r.v3, r.v4, r.v5, r.v6, r.v7, r.v8, r.v9, r.v10, r.v11, r.v12, r.v13, r.v14, r.v15, r.v16, r.v17, r.v18, r.v19, r.v20, r.v21, .int .i64 P0] i0 zeroI 24 (.agg #[.string name, .int .i64 r.oc, .string r.at_, .int .i64 r.st, r.v3, r.v4, r.v5, r.v6, r.v7, r.v8, r.v9, r.v10, r.v11, r.v12, r.v13, r.v14, r.v15, r.v16, r.v17, r.v18, r.v19, r.v20, r.v21, .int .i64 P0]) Try.underlying56 hi0 hz0 hz1 (by decide) (by decide) rfl (fill_item ⟨name, r, P0⟩) ?_; rw [← HW10.out]) | (at_builtin; refine wpList_append_any _ rfl (.tmp 65) (.tmp 67) _ rfl (w2.heap.size + 3) 66 i0 _ 24 96 Try.underlying56 hi0 hz0 hz1 hz2 zeroI_size (by omega) _ np _ rfl hop10 _ 1 1 ([.string name, .int .i64 r.oc, .string r.at_, .int .i64 r.st, r.v3, r.v4, r.v5, r.v6, r.v7, r.v8, r.v9, r.v10, r.v11, r.v12, r.v13, r.v14, r.v15, r.v16, r.v17, r.v18, r.v19, r.v20, r.v21, .int .i64 P0]) rfl rfl hrd HONL.out (by simp only [maxLen]; omega) (by omega) hsz10 ?_; intro v1 w11 hown1 hg1 hat1; obtain ⟨A1, c1, rfl⟩ := own_shp hown1; have B11 := Blk.grown B10 hg1 (fun j h => by have := own_block_ge hop10 j h; omega); have q1 := B11.frozen 0; have q2 := B11.cell 0; simp only [List.getElem?_toArray, List.getElem?_cons_zero, List.getElem?_cons_succ] at q2))
       have Bl11 := Blk.grown Bl10 hg1 (fun j h => by have := own_block_ge hop10 j h; omega); have Ba11 := Blk.grown Ba10 hg1 (fun j h => by have := own_block_ge hop10 j h; omega); have hoth := own_other hos10 hg1 hap; have hap2 := Apt.step hos10 hap hat1; have hbe11 := hbe10.grown hg1 hbe10.size (fun j h => by have := own_block_ge hop10 j h; omega); have hst := HST.out
       go_roundg (gk - 1)
       case measure => omega
       case rel =>
        refine ⟨i + 1, _, np + 1, _, ns, by go_num, by omega, Blk.set_ B11 0 _, Blk.far Bl11 (p := ⟨w2.heap.size, 0, none⟩) (by simp) _, Blk.far Ba11 (p := ⟨w2.heap.size, 0, none⟩) (by simp) _, ?_, ?_, hap2, by omega, by omega, hbe11.setCell (p := ⟨w2.heap.size, 0, none⟩) (Nat.le_refl _) _⟩
        ·rw [hst.1, List.flatMap_append]; exact own_set hown1 (p := ⟨w2.heap.size, 0, none⟩) (by show w2.heap.size < _; omega) _
        ·rw [hst.2]; exact own_set hoth (p := ⟨w2.heap.size, 0, none⟩) (by show w2.heap.size < _; omega) _
   ·obtain rfl : kt = i := by omega
    have HT : Hid (xs.take kt = names.zip rs) := by
     show _ = _; rw [HXS.out]; exact List.take_of_length_le (by simp [HXL.out])
    rw [HT.out] at hop hos; obtain ⟨Ap, cp, rfl⟩ := own_shp hop; obtain ⟨As, cs', rfl⟩ := own_shp hos; have B8' := Blk.below B8 hbe B8.lt; have q1 := B8'.frozen 0; have q2 := B8'.frozen 1; have q3 := B8'.cell 0; have q4 := B8'.cell 1; have q5 := B.cell 0; have q6 := B.cell 1; simp only [List.getElem?_toArray, List.getElem?_cons_zero, List.getElem?_cons_succ] at q3 q4 q5 q6; have B9 := Blk.set_ (Blk.set_ B8' 0 (.slice Ap np cp)) 1 (.slice As ns cs'); have hbr := ((Below.tr hbw2 hbe).setCell (p := ⟨w.heap.size, 0, none⟩) (Nat.le_refl _) (.slice Ap np cp)).setCell (p := ⟨w.heap.size, 1, none⟩) (Nat.le_refl _) (.slice As ns cs'); go_wp2_with fail
    (try simp only [Exit.inBlock, Exit.then])
    refine bodyPost_ret (results_line rfl rfl B9) rfl ?_; refine ⟨_, np, _, ns, 0, rfl, (by have := HE2.out; rw [he] at this; exact this), ?_, ?_, hbr⟩
    ·rw [if_pos rfl, ← HLz.out]; exact own_mono (own_set (own_set hop (p := ⟨w.heap.size, 0, none⟩) (by show w.heap.size < _; omega) _) (p := ⟨w.heap.size, 1, none⟩) (by show w.heap.size < _; omega) _) (by omega)
    ·rw [if_pos rfl, ← HLz.out]; exact own_mono (own_set (own_set hos (p := ⟨w.heap.size, 0, none⟩) (by show w.heap.size < _; omega) _) (p := ⟨w.heap.size, 1, none⟩) (by show w.heap.size < _; omega) _) (by omega)
 ·have h0 : (er != 0) = true := by simpa using he
  have hbr := (hbw2.setCell (p := ⟨w.heap.size, 0, none⟩) (Nat.le_refl _) (.slice none 0 0)).setCell (p := ⟨w.heap.size, 1, none⟩) (Nat.le_refl _) (.slice none 0 0); have q1 := B8.frozen 0; have q2 := B8.frozen 1; have q3 := B8.cell 0; have q4 := B8.cell 1; simp only [List.getElem?_toArray, List.getElem?_cons_zero, List.getElem?_cons_succ] at q3 q4; have B9 := Blk.set_ (Blk.set_ B8 0 (.slice none 0 0)) 1 (.slice none 0 0); go_wp2_with fail
  (try simp only [Exit.inBlock, Exit.then])
  refine bodyPost_ret (results_line rfl rfl B9) rfl ?_; refine ⟨_, 0, _, 0, er, rfl, HE2, ?_, ?_, ?_⟩
  ·rw [if_neg he]; exact World.ownsRow_nil _ _ _ _
  ·rw [if_neg he]; exact World.ownsRow_nil _ _ _ _
  ·exact hbr
end Go.Proofs.Yticobffjnjbjiaa
namespace Go.Proofs.Yticobffjnjbjiaa
open Go
/- The same, where what holds all along may hang on which operations are done. -/
section
variable {P : Program} {ops : Array Oper} {Q : Exit → Act → World → Prop} {md : Region.Mode}
def updB (L : Nat → Bool) (i : Nat) : Nat → Bool := fun j => if j = i then true else L j
/-- each tie that binds leads back -/
def backC (md : Region.Mode) (ops : Array Oper) : Bool := (List.range ops.size).all fun i => ((ops[i]?).map fun o => o.after.all fun e => !Region.binds md e || decide (e.on < i)).getD true
theorem backC_spec (h : backC md ops = true) {i : Nat} {o : Oper} (ho : ops[i]? = some o) : ∀ e ∈ o.after, Region.binds md e = true → e.on < i := by
 intro e he hb; have hi : i < ops.size := (Array.getElem?_eq_some_iff.1 ho).1; have := List.all_eq_true.1 h i (List.mem_range.2 hi); rw [ho] at this; simp only [Option.map_some, Option.getD_some] at this; have := Array.all_eq_true_iff_forall_mem.1 this e he; rw [hb] at this
 simpa using this
theorem all_listedC (hb : backC md ops = true) {listed : Array Bool} (hs : listed.size = ops.size) (hr : Region.ready md ops listed = []) : ∀ i, i < ops.size → listed.getD i false = true := by
 intro i
 induction i using Nat.strongRecOn with
 | _ i ih =>
  intro hi
  cases hl : listed.getD i false with
  | true => rfl
  | false =>
   exfalso
   have : i ∈ Region.ready md ops listed := by
    rw [mem_ready]; refine ⟨?_, ops[i], Array.getElem?_eq_getElem hi, fun e he hbd => ?_⟩
    ·have h' : i < listed.size := by omega
     rw [getD_in h'] at hl ⊢; exact hl
    ·have := backC_spec hb (o := ops[i]) (Array.getElem?_eq_getElem hi) e he hbd; exact ih e.on this (by omega)
   rw [hr] at this
   cases this
theorem wpAny_invl {Φ : Nat → World → Value → Prop} {R : World → World → Prop} (S : (Nat → Bool) → World → Prop) (a0 : Act) (hd : apartL ops.toList = true) (hb : backC md ops = true)
  (hΦ : ∀ w w', R w w' → ∀ j x, Φ j w x → Φ j w' x)
  (hstep : ∀ i o, ops[i]? = some o → ∀ vs (L : Nat → Bool) w, S L w → L i = false → (∀ j o', ops[j]? = some o' → L j = true → ∀ e ∈ o'.after, Region.binds md e = true → L e.on = true) → (∀ e ∈ o.after, Region.binds md e = true → Φ e.on w (vs e.on)) →
   ∀ K : Act → World → Prop, (∀ v w', R w w' → S (updB L i) w' → Φ i w' v → K ((fillR ops.toList 0 vs a0).put o.dst v) w') →
    if Region.wanted o (yielded ops (fillR ops.toList 0 vs a0).tmps) = true then Oper.wp P o (fillR ops.toList 0 vs a0) w K Q else K ((fillR ops.toList 0 vs a0).put o.dst undef) w)
  (hend : ∀ vs L w, S L w → (∀ i, i < ops.size → L i = true) → (∀ i, i < ops.size → Φ i w (vs i)) → Q .normal (fillR ops.toList 0 vs a0) w) :
  ∀ (fuel : Nat) (listed : Array Bool) (vs : Nat → Value) (w : World), listed.size = ops.size → listed.toList.count false = fuel → closedB md ops listed → S (fun j => listed.getD j false) w → (∀ j, listed.getD j false = true → Φ j w (vs j)) →
   wpAny P md ops Q fuel listed (fillR ops.toList 0 vs a0) w := by
 intro fuel
 induction fuel with
 | zero =>
  intro listed vs w hs hc hcl hSw hl
  have hall : ∀ i, i < ops.size → listed.getD i false = true := by
   intro i hi; have h' : i < listed.size := by omega
   rw [List.count_eq_zero] at hc
   cases hx : listed.getD i false with
   | true => rfl
   | false =>
    exfalso
    apply hc
    simp [h'] at hx; rw [← hx]; exact Array.getElem_mem_toList h'
  refine ⟨?_, hend vs _ w hSw hall (fun i hi => hl i (hall i hi))⟩; rw [List.eq_nil_iff_forall_not_mem]; intro i hi; obtain ⟨h1, o, ho, _⟩ := mem_ready.1 hi; have hi' : i < ops.size := (Array.getElem?_eq_some_iff.1 ho).1; have h2 := hall i hi'; have h' : i < listed.size := by omega
  simp [h'] at h1 h2; rw [h1] at h2
  cases h2
 | succ fuel ih =>
  intro listed vs w hs hc hcl hSw hl; refine ⟨fun hr => hend vs _ w hSw (all_listedC hb hs hr) (fun i hi => hl i (all_listedC hb hs hr i hi)), fun i hi => ?_⟩; obtain ⟨h1, o, ho, hall⟩ := mem_ready.1 hi; have hi' : i < ops.size := (Array.getElem?_eq_some_iff.1 ho).1; have hil : i < listed.size := by omega
  have hun : listed.getD i false = false := by simp [hil] at h1 ⊢; exact h1
  refine wpOp_step ho fun K' hK => ?_
  refine hstep i o ho vs _ w hSw hun hcl (fun e he hbd => hl e.on (hall e he hbd)) K' fun v w' hR hS' hv => ?_
  apply hK
  rw [fillR_upd ops.toList 0 i vs a0 o v hd (by simpa using ho), Nat.zero_add]
  have hset : (fun j => (listed.setIfInBounds i true).getD j false) = updB (fun j => listed.getD j false) i := by
   funext j
   unfold updB; by_cases hji : j = i
   ·subst hji; simp [hil]
   ·rw [if_neg hji]; simp [Array.getElem?_setIfInBounds, Ne.symm hji]
  refine ih _ _ _ (by simp [hs]) ?_ ?_ (by rw [hset]; exact hS') ?_
  ·have h1' : listed.toList[i]'(by simpa using hil) = false := by simp [hil] at h1; simpa using h1
   simp only [Array.toList_setIfInBounds]; rw [List.count_set (by simpa using hil), h1', hc]; simp
  ·intro j oj hj hlj e he hbd; by_cases hei : e.on = i
   ·rw [hei]; simp [hil]
   ·have hold : listed.getD e.on false = true := by
     by_cases hji : j = i
     ·subst hji; have : oj = o := Option.some.inj (hj.symm.trans ho); subst this; exact hall e he hbd
     ·refine hcl j oj hj ?_ e he hbd; simp [Array.getElem?_setIfInBounds, Ne.symm hji] at hlj
      simpa using hlj
    simp [Array.getElem?_setIfInBounds, Ne.symm hei] at hold ⊢; exact hold
  ·intro j hj; by_cases hji : j = i
   ·subst hji; rw [show upd vs j v j = v from if_pos rfl]; exact hv
   ·rw [show upd vs i v j = vs j from if_neg hji]; refine hΦ _ _ hR j _ (hl j ?_); simp [Array.getElem?_setIfInBounds, Ne.symm hji] at hj
    simpa using hj
def OwesL (P : Program) (Q : Exit → Act → World → Prop) (l : List Oper) (a0 : Act) (Φ : Nat → World → Value → Prop) (R : World → World → Prop) (S : (Nat → Bool) → World → Prop) (i : Nat) (o : Oper) : Prop :=
 ∀ vs (L : Nat → Bool) w, S L w → L i = false → (∀ j o', l[j]? = some o' → L j = true → ∀ e ∈ o'.after.toList, Region.binds .any e = true → L e.on = true) → (∀ e ∈ o.after.toList, Region.binds .any e = true → Φ e.on w (vs e.on)) → ∀ K : Act → World → Prop, (∀ v w', R w w' → S (updB L i) w' → Φ i w' v → K ((fillR l 0 vs a0).put o.dst v) w') →
  Wrap (if Region.wanted o (yielded l.toArray (fillR l 0 vs a0).tmps) = true then Oper.wp P o (fillR l 0 vs a0) w K Q else K ((fillR l 0 vs a0).put o.dst undef) w)
theorem region_invl {id : Nat} {a0 : Act} {w : World} {l : List Oper} (Φ : Nat → World → Value → Prop) (R : World → World → Prop) (S : (Nat → Bool) → World → Prop) (hm : P.follows .mixedOrders = true) (hd : apartL l = true) (hb : backC .any l.toArray = true)
  (hΦ : ∀ w w', R w w' → ∀ j x, Φ j w x → Φ j w' x) (hS0 : S (fun _ => false) w.drew)
  (hstep : StepsL (OwesL P Q l a0 Φ R S) 0 l)
  (hend : ∀ vs L w, S L w → (∀ i, i < l.length → L i = true) → (∀ i, i < l.length → Φ i w (vs i)) → Q .normal (fillR l 0 vs a0) w) : (Code.region id l.toArray true).wp P Q a0 w := by
 refine wp_region_any hm ?_; have hrep : (fun j => (Array.replicate l.toArray.size false).getD j false) = (fun _ => false) := by funext j; exact repF
 have h := wpAny_invl (P := P) (Q := Q) (md := .any) (ops := l.toArray) (Φ := Φ) (R := R) S a0 hd hb hΦ (fun i o ho vs L w hSw hL hcl hdep K hK => by
  have := hstep i o (by simpa using ho); rw [Nat.zero_add] at this
  exact (this vs L w hSw hL (fun j o' hj hlj e he hbd => hcl j o' (by simpa using hj) hlj e (by simpa using he) hbd) (fun e he hbd => hdep e (by simpa using he) hbd) K hK).un) (fun vs L w hSw hall h => hend vs L w hSw (fun i hi => hall i (by simpa using hi)) (fun i hi => h i (by simpa using hi))) l.toArray.size (Array.replicate l.toArray.size false) (ownV l a0) w.drew (by simp) (by simp) (fun j o _ hj => by rw [repF] at hj; cases hj) (by rw [hrep]; exact hS0) (fun j hj => by rw [repF] at hj; cases hj)
 rw [fillR_id] at h
 ·exact h
 ·intro j o ho d hd'; rw [Nat.zero_add]; unfold ownV; rw [ho]; simp [hd']
/-- as 'region_inv', where ties that do not bind may lead forward -/
theorem region_invc {id : Nat} {a0 : Act} {w : World} {l : List Oper} (Φ : Nat → World → Value → Prop) (R : World → World → Prop) (S : World → Prop) (hm : P.follows .mixedOrders = true) (hd : apartL l = true) (hb : backC .any l.toArray = true)
  (hΦ : ∀ w w', R w w' → ∀ j x, Φ j w x → Φ j w' x) (hS : ∀ w w', R w w' → S w → S w') (hS0 : S w.drew)
  (hstep : StepsL (Owes P Q l a0 Φ R S) 0 l)
  (hend : ∀ vs w, S w → (∀ i, i < l.length → Φ i w (vs i)) → Q .normal (fillR l 0 vs a0) w) : (Code.region id l.toArray true).wp P Q a0 w :=
 region_invl Φ R (fun _ => S) hm hd hb hΦ hS0
  (fun i o ho vs L w hSw _ _ hdep K hK => hstep i o ho vs w hSw hdep K (fun v w' hR hv => hK v w' hR (hS _ _ hR hSw) hv))
  (fun vs L w hSw _ h => hend vs w hSw h)
/-- what an operation owes, where the frame is written out once: F -/
def OwesF (P : Program) (Q : Exit → Act → World → Prop) (l : List Oper) (F : (Nat → Value) → Act) (Φ : Nat → World → Value → Prop) (R : World → World → Prop) (S : World → Prop) (i : Nat) (o : Oper) : Prop :=
 ∀ vs w, S w → (∀ e ∈ o.after.toList, Region.binds .any e = true → Φ e.on w (vs e.on)) → ∀ K : Act → World → Prop, (∀ v w', R w w' → Φ i w' v → K ((F vs).put o.dst v) w') →
  Wrap (if Region.wanted o (yielded l.toArray (F vs).tmps) = true then Oper.wp P o (F vs) w K Q else K ((F vs).put o.dst undef) w)
theorem region_invF {id : Nat} {a0 : Act} {w : World} {l : List Oper} {F : (Nat → Value) → Act} (Φ : Nat → World → Value → Prop) (R : World → World → Prop) (S : World → Prop) (hm : P.follows .mixedOrders = true) (hd : apartL l = true) (hb : backC .any l.toArray = true)
  (hΦ : ∀ w w', R w w' → ∀ j x, Φ j w x → Φ j w' x) (hS : ∀ w w', R w w' → S w → S w') (hS0 : S w.drew) (hF : ∀ vs, fillR l 0 vs a0 = F vs)
  (hstep : StepsL (OwesF P Q l F Φ R S) 0 l)
  (hend : ∀ vs w, S w → (∀ i, i < l.length → Φ i w (vs i)) → Q .normal (F vs) w) : (Code.region id l.toArray true).wp P Q a0 w :=
 region_invc Φ R S hm hd hb hΦ hS hS0
  (fun i o ho vs w hSw hdep K hK => by
   have h := hstep i o ho vs w hSw hdep K (by rw [← hF vs]; exact hK); rw [← hF vs] at h
   exact h)
  (fun vs w hSw h => by rw [hF vs]; exact hend vs w hSw h)
end
end Go.Proofs.Yticobffjnjbjiaa
namespace Go.Proofs.Yticobffjnjbjiaa
open Go.RowKit
open Classical in
/-- what Build says of a test behind its tries, and the error -/
noncomputable def testB (L : List Nat) (ps : List PC) (bd : Nat → Nat × Nat) (a b : Nat) (name : ByteArray) : List RC0 → Nat → Nat → Int × Int
 | [], _, _ => (1, 0)
 | r :: rs, p, q =>
  if r.oc = 0 then (0, 0) else if ofN L ps name r < 0 then (2, 0) else
   if Nm.Fits (p * (bd (ofN L ps name r).toNat).1 / Nat.gcd (p * (bd (ofN L ps name r).toNat).1) (q * (bd (ofN L ps name r).toNat).2)) (q * (bd (ofN L ps name r).toNat).2 / Nat.gcd (p * (bd (ofN L ps name r).toNat).1) (q * (bd (ofN L ps name r).toNat).2)) then
    if p * (bd (ofN L ps name r).toNat).1 / Nat.gcd (p * (bd (ofN L ps name r).toNat).1) (q * (bd (ofN L ps name r).toNat).2) * b ≤ a * (q * (bd (ofN L ps name r).toNat).2 / Nat.gcd (p * (bd (ofN L ps name r).toNat).1) (q * (bd (ofN L ps name r).toNat).2)) then (2, 0)
    else testB L ps bd a b name rs (p * (bd (ofN L ps name r).toNat).1 / Nat.gcd (p * (bd (ofN L ps name r).toNat).1) (q * (bd (ofN L ps name r).toNat).2)) (q * (bd (ofN L ps name r).toNat).2 / Nat.gcd (p * (bd (ofN L ps name r).toNat).1) (q * (bd (ofN L ps name r).toNat).2))
   else (0, 4)
noncomputable def oneT (L : List Nat) (ps : List PC) (bd : Nat → Nat × Nat) (a b : Nat) (x : ByteArray × List RC0) : Int × Int := testB L ps bd a b x.1 x.2 1 1
noncomputable def buildE (L : List Nat) (ps : List PC) (bd : Nat → Nat × Nat) (a b : Nat) (xs : List (ByteArray × List RC0)) : Int :=
 match xs.find? (fun x => (oneT L ps bd a b x).2 != 0) with
 | some x => (oneT L ps bd a b x).2
 | none => 0
theorem buildE_at {L : List Nat} {ps : List PC} {bd : Nat → Nat × Nat} {a b : Nat} : ∀ {xs : List (ByteArray × List RC0)} {i : Nat} {x : ByteArray × List RC0}, xs[i]? = some x → (∀ m y, m < i → xs[m]? = some y → (oneT L ps bd a b y).2 = 0) → (oneT L ps bd a b x).2 ≠ 0 → buildE L ps bd a b xs = (oneT L ps bd a b x).2
 | [], i, x, h, _, _ => by simp at h
 | y :: xs, 0, x, h, _, hx => by
  obtain rfl : y = x := by simpa using h
  unfold buildE; rw [List.find?_cons_of_pos (by simpa using hx)]
 | y :: xs, i + 1, x, h, hz, hx => by
  have h0 := hz 0 y (by omega) rfl; unfold buildE; rw [List.find?_cons_of_neg (by simp [h0])]; exact buildE_at (xs := xs) (i := i) (by simpa using h) (fun m y hm hy => hz (m + 1) y (by omega) (by simpa using hy)) hx
theorem buildE_none {L : List Nat} {ps : List PC} {bd : Nat → Nat × Nat} {a b : Nat} {xs : List (ByteArray × List RC0)} (h : ∀ x ∈ xs, (oneT L ps bd a b x).2 = 0) : buildE L ps bd a b xs = 0 := by
 unfold buildE; rw [List.find?_eq_none.2 (fun x hx => by simp [h x hx])]
theorem info_int : (Try.prog.info? 3).map (fun i => (i.zero, i.size, i.bytes)) = some (some (.int .i64 0), 1, 8) := by kernel_rfl
theorem take_map {α : Type} {f : α → Value} {xs : List α} {i : Nat} {x : α} {v : Value} (h : xs[i]? = some x) (e : f x = v) : (xs.take i).map f ++ [v] = (xs.take (i + 1)).map f := by
 obtain ⟨hi, h2⟩ := List.getElem?_eq_some_iff.1 h; rw [List.take_succ_eq_append_getElem hi, List.map_append, h2, ← e]; rfl
theorem first_zero {TB : ByteArray × List RC0 → Int × Int} {xs : List (ByteArray × List RC0)} {i : Nat} {x : ByteArray × List RC0} (h : ∀ (m : Nat) x, m < i → xs[m]? = some x → (TB x).2 = 0) (hx : xs[i]? = some x) (e : (TB x).2 = 0) : Hid (∀ (m : Nat) x, m < i + 1 → xs[m]? = some x → (TB x).2 = 0) := by
 intro m y hm hy
 rcases Nat.lt_or_ge m i with h1 | h1
 ·exact h m y h1 hy
 ·obtain rfl : m = i := by omega
  rw [hx] at hy; injection hy with hy; rw [← hy]; exact e
/-- what holds all along while the doubt is multiplied -/
structure SB (D : Nat) (o1 o2 : Value) (p q : Nat) (v2 : Value) (pb qb : Nat) (v3 : Value) (a b : Nat) (w0 : World) (L : Nat → Bool) (W : World) : Prop where
 box : L 10 = false → Box W D o1 o2
 ra : Rat W (.agg #[o1, o2]) p q
 rb : Rat W v2 pb qb
 rl : Rat W v3 a b
 sl : Sl W D
 be : Below D w0 W
theorem SB.step {D : Nat} {o1 o2 : Value} {p q : Nat} {v2 v3 : Value} {pb qb a b : Nat} {w0 : World} {L : Nat → Bool} {W W' : World} (h : SB D o1 o2 p q v2 pb qb v3 a b w0 L W) (hb : Below W.heap.size W W') (i : Nat) (hi : ¬ (10 = i)) : SB D o1 o2 p q v2 pb qb v3 a b w0 (updB L i) W' :=
 ⟨fun hL => (h.box (by unfold updB at hL; rwa [if_neg hi] at hL)).below hb, h.ra.below hb, h.rb.below hb, h.rl.below hb, h.sl.below hb, h.be.trans (hb.mono (Nat.le_of_lt h.sl.lt))⟩
theorem SB.stored {D : Nat} {o1 o2 : Value} {p q : Nat} {v2 v3 : Value} {pb qb n d a b : Nat} {w0 : World} {L : Nat → Bool} {W W' : World} (h : SB D o1 o2 p q v2 pb qb v3 a b w0 L W) (hr : RM D D n d W W') : SB D o1 o2 p q v2 pb qb v3 a b w0 (updB L 10) W' :=
 ⟨fun hL => (by unfold updB at hL; rw [if_pos rfl] at hL; cases hL), h.ra.map hr.nb, h.rb.map hr.nb, h.rl.map hr.nb, hr.sl h.sl, h.be.trans hr.be⟩
def PhiU (D : Nat) (o1 o2 AL : Value) (n bp o : Nat) (v2 : Value) (N M : Nat) (j : Nat) (w : World) (x : Value) : Prop :=
 match j with
 | 0 => x = .agg #[o1, o2]
 | 1 => x = AL
 | 2 => x = .int .i64 (n : Int)
 | 3 => x = .pointer (some ⟨bp, o, none⟩)
 | 4 => x = .pointer (some ⟨bp, o + 4, none⟩)
 | 5 => x = v2
 | 6 => ∃ v er, x = .tuple #[v, .int .i64 er] ∧ RedP w v er N M
 | 7 => ∃ v er, x = .tuple #[v, .int .i64 er] ∧ RedP w v er N M
 | 8 => RedV w x N M
 | 9 => ∃ er, x = .int .i64 er ∧ ErrOf N M er
 | 10 => GoodR w D N M
 | 11 => ∃ er, x = .int .i64 er ∧ ErrOf N M er
 | _ => True
theorem PhiU.keep {D : Nat} {o1 o2 AL : Value} {n bp o : Nat} {v2 : Value} {N M : Nat} : ∀ (w w' : World), RM D D N M w w' → ∀ j x, PhiU D o1 o2 AL n bp o v2 N M j w x → PhiU D o1 o2 AL n bp o v2 N M j w' x := by
 intro w w' hr j x h; unfold PhiU at h ⊢
 split <;> simp only at h ⊢
 all_goals first
  | exact h
  | (obtain ⟨v, er, rfl, h⟩ := h; exact ⟨v, er, rfl, h.map hr.nb⟩)
  | (obtain ⟨A, k, c, A', k', c', er, rfl, h⟩ := h; exact ⟨A, k, c, A', k', c', er, rfl, h.map hr.nb⟩)
  | (rcases hr.good with h2 | h2; exact h2; obtain ⟨A, k, c, A', k', c', er, h3, h4⟩ := h; exact ⟨A, k, c, A', k', c', er, h2.trans h3, h4.map hr.nb⟩)
theorem testB_go {L : List Nat} {ps : List PC} {bd : Nat → Nat × Nat} {a b n p q pb qb : Nat} {name : ByteArray} {r : RC0} {rs : List RC0} (h1 : r.oc ≠ 0) (h2 : (n : Int) = ofN L ps name r) (h3 : bd n = (pb, qb)) :
  (Nm.Fits (p * pb / Nat.gcd (p * pb) (q * qb)) (q * qb / Nat.gcd (p * pb) (q * qb)) → p * pb / Nat.gcd (p * pb) (q * qb) * b ≤ a * (q * qb / Nat.gcd (p * pb) (q * qb)) → testB L ps bd a b name (r :: rs) p q = (2, 0)) ∧
  (Nm.Fits (p * pb / Nat.gcd (p * pb) (q * qb)) (q * qb / Nat.gcd (p * pb) (q * qb)) → ¬ p * pb / Nat.gcd (p * pb) (q * qb) * b ≤ a * (q * qb / Nat.gcd (p * pb) (q * qb)) → testB L ps bd a b name (r :: rs) p q = testB L ps bd a b name rs (p * pb / Nat.gcd (p * pb) (q * qb)) (q * qb / Nat.gcd (p * pb) (q * qb))) ∧
  (¬ Nm.Fits (p * pb / Nat.gcd (p * pb) (q * qb)) (q * qb / Nat.gcd (p * pb) (q * qb)) → testB L ps bd a b name (r :: rs) p q = (0, 4)) := by
 have e : (ofN L ps name r).toNat = n := by rw [← h2]; rfl
 have hneg : ¬ ofN L ps name r < 0 := by rw [← h2]; omega
 refine ⟨fun f c => ?_, fun f c => ?_, fun f => ?_⟩ <;> (rw [testB, if_neg h1, if_neg hneg, e, h3])
 ·rw [if_pos f, if_pos c]
 ·rw [if_pos f, if_neg c]
 ·rw [if_neg f]
def intV (n : Int) : Value := .int .i64 n
/-- Build's result -/
def BuildP (kl ks kt : Nat) (l : List Int) (ps : List PC) (bd : Nat → Nat × Nat) (names : List ByteArray) (rows : List SLR) (L1 L2 : List Nat) (er : Int) (codes : List Int) : Prop :=
 (fitE kl l kt ks (allR rows) ≠ 0 ∧ er = fitE kl l kt ks (allR rows) ∧ codes = []) ∨ (fitE kl l kt ks (allR rows) = 0 ∧ Nm.validE L1 L2 ≠ 0 ∧ er = Nm.validE L1 L2 ∧ codes = []) ∨
 (fitE kl l kt ks (allR rows) = 0 ∧ ∃ a b, L1 = Nm.lb a ∧ L2 = Nm.lb (Nm.dn b) ∧ Nm.Good a b ∧ er = buildE (l.map Int.toNat) ps bd a b (names.zip (rows.map (·.rs))) ∧ codes = if er = 0 then (names.zip (rows.map (·.rs))).map (fun x => (oneT (l.map Int.toNat) ps bd a b x).1) else [])
set_option maxRecDepth 100000 in
set_option maxHeartbeats 4000000 in
theorem build_n (Al A T S : Option Addr) (kl cl k c kt ct ks cs : Nat) (l : List Int) (ps : List PC) (bd : Nat → Nat × Nat) (names : List ByteArray) (rows : List SLR) (va : Value) (L1 L2 : List Nat) (w : World) (hp : RowS cellsP w Al kl ps) (hr : RowS intC w A k l) (ht : RowS strC w T kt names) (hs : RowS slC w S ks rows)
  (HS : Hid (∀ s ∈ rows, RowS cellsR w s.A s.k s.rs ∧ ∀ x ∈ s.rs, ∀ v ∈ cellsR x, v.oneCell' = true)) (hsz : sumK rows ≤ 1073741824) (hks : ks ≤ 1073741824) (HB : Hid (∀ (n : Nat) p, ps[n]? = some p → Rat w (.agg #[p.b1, p.b2]) (bd n).1 (bd n).2 ∧ Nm.Good (bd n).1 (bd n).2)) (ha : RtL w va L1 L2) :
  Calls Try.prog 23 #[.slice Al kl cl, .slice A k c, .slice T kt ct, .slice S ks cs, va] w fun e w' => ∃ v, ∃ er : Int, ∃ codes : List Int, e = .returned (.tuple #[v, .int .i64 er]) ∧ Hid (BuildP kl ks kt l ps bd names rows L1 L2 er codes) ∧ w'.ownsRow w.heap.size 3 1 v codes.length (codes.map intV) ∧ Below w.heap.size w w' := by
 have hkl := hp.2.2; have hkt := ht.2.2; obtain ⟨A1, k1, c1, A2, k2, c2, rfl⟩ := ha.shape; have hbw1 := bA w (.cells #[.slice A1 k1 c1, .slice A2 k2 c2] 24); have hx : Box (w.alloc (.cells #[.slice A1 k1 c1, .slice A2 k2 c2] 24)) w.heap.size (.slice A1 k1 c1) (.slice A2 k2 c2) := Blk.new w _ _; have HSS : Hid (∀ s ∈ rows, RowS cellsR (w.alloc (.cells #[.slice A1 k1 c1, .slice A2 k2 c2] 24)) s.A s.k s.rs ∧ ∀ x ∈ s.rs, ∀ v ∈ cellsR x, v.oneCell' = true) := fun s h => ⟨(HS.out s h).1.below hbw1, (HS.out s h).2⟩
 go_enter Try.func23, Try.ntmps23
 go_wp2_with fail
 go_step3
 go_wp2_with fail; refine (fits_n Al A S kl cl k c ks cs kt ks l rows _ hkl (hr.below hbw1) (hs.below hbw1) HSS hsz).mono ?_; rintro e w2 ⟨er, rfl, HE, hb2⟩; have hx := hx.below hb2; have hbw2 := Below.tr hbw1 hb2; have ha2 := ha.below hbw2; clear hb2 HSS hbw1; by_cases he : er = 0
 ·have h0 : (er != 0) = false := by rw [he]; rfl
  have HFIT : Hid (fitE kl l kt ks (allR rows) = 0) := by show _ = _; rw [← HE.out]; exact he
  have HKK : Hid (kt = ks ∧ ∀ n ∈ l, outB kl n = false) := by
   have h := HFIT.out; unfold fitE at h
   split at h
   ·cases h
   ·rename_i h1
    split at h
    ·cases h
    ·rename_i h2
     refine ⟨by omega, fun n hn => ?_⟩; have h3 := List.any_eq_false.1 (by simpa using h1) n hn
     simpa using h3
  obtain ⟨Lz, HLz⟩ : ∃ L, Hid (L = l.map Int.toNat) := ⟨_, rfl⟩; obtain ⟨hnat, HIN⟩ := nat_of hr HKK.out.2 HLz.out; have hkk : kt = ks := HKK.out.1; subst hkk; obtain ⟨f1, f2⟩ := hx.facts; go_wp2_with fail; refine (valid_v ha2).mono ?_; rintro e w3 ⟨E, rfl, HV, hb3⟩; have hx := hx.below hb3; have hbw3 := Below.tr hbw2 hb3; clear hb3 f1 f2 hbw2; by_cases hE : E = 0
  ·have h1 : (E != 0) = false := by rw [hE]; rfl
   have HV0 : Nm.validE L1 L2 = 0 := by rw [← HV.out]; exact hE
   obtain ⟨a, b, rfl, rfl, ga⟩ := Nm.validE_spec ha.limb.1 ha.limb.2 HV0; have hra := (ha.below hbw3).rat; clear ha2 ha HV hE HV0; go_wp2_with fail; refine (covering_n Al A kl cl k c _ w3.heap.size (w3.heap.size + 1) rfl rfl).mono ?_; rintro e w4 ⟨rfl, Bl, Ba, hb4⟩; have hx := hx.below hb4; have hra := hra.below hb4; have hbw4 := Below.tr hbw3 hb4; clear hb4 hbw3; obtain ⟨xs, HXS⟩ : ∃ xs, Hid (xs = names.zip (rows.map (·.rs))) := ⟨_, rfl⟩; have HXL : Hid (names.length = kt ∧ rows.length = kt) := ⟨ht.2.1.symm, hs.2.1.symm⟩; go_wp2_with fail
   go_step3
   go_wp2_with fail; obtain ⟨ii, hi0, hz0, hz1, hz2⟩ := info_parts info_int; obtain ⟨TB, HTB⟩ : ∃ TB, Hid (TB = fun x => (oneT Lz ps bd a b x)) := ⟨_, rfl⟩
   go_loopg [14, 44] kt (fun j u x wr => ∃ i : Nat, x = .int .i64 i ∧ i + j = kt ∧ wr.ownsRow w4.heap.size 3 1 u i ((xs.take i).map fun x => intV (TB x).1) ∧ Hid (∀ (m : Nat) x, m < i → xs[m]? = some x → (TB x).2 = 0) ∧ Below w4.heap.size w4 wr)
   case atStart => exact ⟨0, rfl, by omega, World.ownsRow_nil _ _ _ _, fun m x h => by omega, Below.refl _ _⟩
   case round =>
    obtain ⟨G, hG⟩ : ∃ G, G = gk := ⟨gk, rfl⟩; subst hG; obtain ⟨i, rfl, hij, hown, HZ, hbe⟩ := hrel; have hkt4 := hbe.size; by_cases hi : i < kt
    ·obtain ⟨bt, offt, name, rfl, hct, HNM⟩ := (ht.below (Below.tr hbw4 hbe)).str hi; obtain ⟨bs, offs, s, rfl, hcs, HSI⟩ := (hs.below (Below.tr hbw4 hbe)).sl hi
     have HX : Hid (xs[i]? = some (name, s.rs)) := by
      obtain ⟨h, e⟩ := HSI.out
      show _ = _; rw [HXS.out, List.getElem?_zip_eq_some.2]
      refine ⟨HNM.out, ?_⟩; rw [List.getElem?_map, List.getElem?_eq_getElem h, e]; rfl
     have hmem : s ∈ rows := by obtain ⟨h, e⟩ := HSI.out; rw [← e]; exact List.getElem_mem h
     have hsr := (HS.out s hmem); have HSO := Lib.hid hsr.2; have hrs := hsr.1; clear hsr hmem; go_wp2_with fail; refine (unit_n _).mono ?_; rintro e w9 ⟨v, rfl, hu, hb9⟩; obtain ⟨D1, m1, o1, D2, m2, o2, rfl⟩ := hu.shape; obtain ⟨wD, HWD⟩ : ∃ W, Hid (W = w9.alloc (.cells #[.slice D1 m1 o1, .slice D2 m2 o2] 24)) := ⟨_, rfl⟩; have hbD : Below w9.heap.size w9 wD := by rw [HWD.out]; exact bA _ _
     have hD : Box wD w9.heap.size (.slice D1 m1 o1) (.slice D2 m2 o2) := by rw [HWD.out]; exact Blk.new _ _ _
     have hu := hu.below hbD; have hbeD := Below.tr hbe (Below.tr hb9 hbD); have hownD := own_below hown (Below.tr hb9 hbD); have HOLT := Lib.hid (fun g hg => Nat.lt_of_lt_of_le (ownsRow_lt hown g hg) hb9.size); have hct := cell_keep hb9 hct; have hcs := cell_keep (bA w9 (.cells #[.slice D1 m1 o1, .slice D2 m2 o2] 24)) (cell_keep hb9 hcs); have hw9 := hb9.size; clear hown hb9; go_wp2_with fail; rw [← HWD.out]
     go_loopg [14, 55] s.k (fun j u x wx => ∃ (m p q : Nat) (A : Option Addr) (k c : Nat) (A' : Option Addr) (k' c' : Nat), x = .int .i64 m ∧ m + j = s.k ∧ Box wx w9.heap.size (.slice A k c) (.slice A' k' c') ∧ Rat wx (.agg #[.slice A k c, .slice A' k' c']) p q ∧ Nm.Good p q ∧ Hid (testB Lz ps bd a b name (s.rs.drop m) p q = TB (name, s.rs)) ∧ wx.ownsRow w4.heap.size 3 1 u i ((xs.take i).map fun x => intV (TB x).1) ∧ Hid (∀ g, u.ownBlock = some g → g < w9.heap.size) ∧ Below w9.heap.size wD wx)
     case atStart => exact ⟨0, 1, 1, _, _, _, _, _, _, rfl, by omega, hD, hu, Good_one, by show _ = _; rw [HTB.out]; rfl, hownD, HOLT, Below.refl _ _⟩
     case round =>
      clear hownD HOLT; obtain ⟨m, p, q, E1, k0, c0, E2, k0', c0', rfl, hmj, hD2, hu2, gp, HTS, hownx, HOLT, hbx⟩ := hrel; have hD9 : w4.heap.size ≤ w9.heap.size := Nat.le_trans hkt4 hw9; have hD0 : w.heap.size ≤ w9.heap.size := Nat.le_trans hbw4.size hD9; have hb4x := hbeD.trans (hbx.mono hD9); have hbwx := (Below.tr hbw4 hbeD).trans (hbx.mono hD0); by_cases hm : m < s.k
      ·have hml : m < s.rs.length := by have := hrs.2.1; omega
       have hskb := hrs.2.2; obtain ⟨bq, off, hsA, HC⟩ := (hrs.below hbwx).at_ cellsR_len (by omega) hm hml; obtain ⟨r, HR⟩ : ∃ r, Hid (s.rs.drop m = r :: s.rs.drop (m + 1) ∧ r ∈ s.rs ∧ s.rs[m] = r) := ⟨s.rs[m], List.drop_eq_getElem_cons hml, List.getElem_mem hml, rfl⟩; rw [HR.out.2.2] at HC; rw [hsA]; have HALL := Lib.hid (all_oneCell_toArray (HSO.out r HR.out.2.1)); have hownR := own_below hownx (bA wr (.cells #[.int .i64 r.oc, .string r.at_, .int .i64 r.st, r.v3, r.v4, r.v5, r.v6, r.v7, r.v8, r.v9, r.v10, r.v11, r.v12, r.v13, r.v14, r.v15, r.v16, r.v17, r.v18, r.v19, r.v20, r.v21] 64)); have hb4R := Below.tr hb4x (bA wr (.cells #[.int .i64 r.oc, .string r.at_, .int .i64 r.st, r.v3, r.v4, r.v5, r.v6, r.v7, r.v8, r.v9, r.v10, r.v11, r.v12, r.v13, r.v14, r.v15, r.v16, r.v17, r.v18, r.v19, r.v20, r.v21] 64)); have hbwR := Below.tr hbwx (bA wr (.cells #[.int .i64 r.oc, .string r.at_, .int .i64 r.st, r.v3, r.v4, r.v5, r.v6, r.v7, r.v8, r.v9, r.v10, r.v11, r.v12, r.v13, r.v14, r.v15, r.v16, r.v17, r.v18, r.v19, r.v20, r.v21] 64)); by_cases ho : r.oc = 0
       ·have hd : (r.oc == 0) = true := by simpa using ho
        have HT : Hid (TB (name, s.rs) = (0, 0)) := by
         show _ = _; rw [← HTS.out, HR.out.1]; unfold testB; rw [if_pos ho]
        clear ho; have hbA := bA (wr.alloc (.cells #[.int .i64 r.oc, .string r.at_, .int .i64 r.st, r.v3, r.v4, r.v5, r.v6, r.v7, r.v8, r.v9, r.v10, r.v11, r.v12, r.v13, r.v14, r.v15, r.v16, r.v17, r.v18, r.v19, r.v20, r.v21] 64)) (.cells #[.int .i64 0] 3); have howA := own_below hownR hbA; have hb4A := Below.tr hb4R hbA; have hszA := hb4A.size
        have hrdA : Rd ((wr.alloc (.cells #[.int .i64 r.oc, .string r.at_, .int .i64 r.st, r.v3, r.v4, r.v5, r.v6, r.v7, r.v8, r.v9, r.v10, r.v11, r.v12, r.v13, r.v14, r.v15, r.v16, r.v17, r.v18, r.v19, r.v20, r.v21] 64)).alloc (.cells #[.int .i64 0] 3)) (some ⟨wr.heap.size + 1, 0, none⟩) [.int .i64 0] := by
         have h := Rd.fresh (wr.alloc (.cells #[.int .i64 r.oc, .string r.at_, .int .i64 r.st, r.v3, r.v4, r.v5, r.v6, r.v7, r.v8, r.v9, r.v10, r.v11, r.v12, r.v13, r.v14, r.v15, r.v16, r.v17, r.v18, r.v19, r.v20, r.v21] 64)) 3 [.int .i64 0]
         rwa [show (wr.alloc (.cells #[.int .i64 r.oc, .string r.at_, .int .i64 r.st, r.v3, r.v4, r.v5, r.v6, r.v7, r.v8, r.v9, r.v10, r.v11, r.v12, r.v13, r.v14, r.v15, r.v16, r.v17, r.v18, r.v19, r.v20, r.v21] 64)).heap.size = wr.heap.size + 1 by simp] at h
        go_wp2_with (first | (refine wpList_load_mid rfl 64 (.tmp 57) rfl bq (off + m * 22) rfl [.int .i64 r.oc, .string r.at_, .int .i64 r.st, r.v3, r.v4, r.v5, r.v6, r.v7, r.v8, r.v9, r.v10, r.v11, r.v12, r.v13, r.v14, r.v15, r.v16, r.v17, r.v18, r.v19, r.v20, r.v21] _ (fun j v h => HC.out j v h) Try.underlying64 rfl infoR ?_) | (refine wpList_store_mid rfl 64 (.tmp 20) (.tmp 58) rfl wr.heap.size 0 #[.int .i64 r.oc, .string r.at_, .int .i64 r.st, r.v3, r.v4, r.v5, r.v6, r.v7, r.v8, r.v9, r.v10, r.v11, r.v12, r.v13, r.v14, r.v15, r.v16, r.v17, r.v18, r.v19, r.v20, r.v21] rfl rfl (there_new _ _ _ 22 (by simp)) (by kernel_rfl) HALL.out ?_; rw [setCells_new]; rotate_left; rfl) | (at_builtin; go_loud (refine wpList_append_any _ rfl (.tmp 62) (.tmp 63) _ rfl w4.heap.size 3 ii _ 1 8 Try.underlying35 hi0 hz0 hz1 hz2 rfl (by omega) _ i _ rfl howA _ 1 1 [.int .i64 0] rfl rfl hrdA (by simp [Value.oneCell']) (by simp only [maxLen]; omega) (by omega) hszA ?_); intro v1 w11 hown1 hg1 hat1))
        have hrow := hown1; rw [take_map (f := fun x => intV (TB x).1) HX.out (by show intV (TB (name, s.rs)).1 = Value.int .i64 0; rw [HT.out]; rfl)] at hrow; have hb4B := hb4A.grown hg1 hszA (own_block_ge howA); have HZ2 := first_zero (TB := TB) HZ.out HX.out (by rw [HT.out])
        go_roundg (G - 1)
        case measure => omega
        case rel => exact ⟨i + 1, by go_num, by omega, hrow, HZ2, hb4B⟩
       ·have hd : (r.oc == 0) = false := by simpa using ho
        have HO1 := Lib.hid ho; clear ho
        go_wp2_with (first | (refine wpList_load_mid rfl 64 (.tmp 57) rfl bq (off + m * 22) rfl [.int .i64 r.oc, .string r.at_, .int .i64 r.st, r.v3, r.v4, r.v5, r.v6, r.v7, r.v8, r.v9, r.v10, r.v11, r.v12, r.v13, r.v14, r.v15, r.v16, r.v17, r.v18, r.v19, r.v20, r.v21] _ (fun j v h => HC.out j v h) Try.underlying64 rfl infoR ?_) | (refine wpList_store_mid rfl 64 (.tmp 20) (.tmp 58) rfl wr.heap.size 0 #[.int .i64 r.oc, .string r.at_, .int .i64 r.st, r.v3, r.v4, r.v5, r.v6, r.v7, r.v8, r.v9, r.v10, r.v11, r.v12, r.v13, r.v14, r.v15, r.v16, r.v17, r.v18, r.v19, r.v20, r.v21] rfl rfl (there_new _ _ _ 22 (by simp)) (by kernel_rfl) HALL.out ?_; rw [setCells_new]; rotate_left; rfl) | (refine wpList_load_mid rfl 64 (.tmp 20) rfl wr.heap.size 0 rfl [.int .i64 r.oc, .string r.at_, .int .i64 r.st, r.v3, r.v4, r.v5, r.v6, r.v7, r.v8, r.v9, r.v10, r.v11, r.v12, r.v13, r.v14, r.v15, r.v16, r.v17, r.v18, r.v19, r.v20, r.v21] _ (Blk.range (Blk.new wr 64 #[.int .i64 r.oc, .string r.at_, .int .i64 r.st, r.v3, r.v4, r.v5, r.v6, r.v7, r.v8, r.v9, r.v10, r.v11, r.v12, r.v13, r.v14, r.v15, r.v16, r.v17, r.v18, r.v19, r.v20, r.v21])) Try.underlying64 rfl infoR ?_))
        refine (covering1_n A Al k c _ _ kl cl Lz ps name r _ ((hnat.below hbwR)) (cell_keep hb4R (Ba.cell 0)) (cell_keep hb4R (Bl.cell 0)) (hp.below hbwR) HIN).mono ?_; rintro e w12 ⟨P0, rfl, hP1, HO, hb12⟩; have HP0 : Hid (P0 = ofN Lz ps name r) := HO.out.eq; have hown12 := own_below hownR hb12; have hb412 := Below.tr hb4R hb12; have hbw12 := Below.tr hbwR hb12; by_cases hneg : P0 < 0
        ·have hd2 : decide (P0 < 0) = true := by simpa using hneg
         have HT : Hid (TB (name, s.rs) = (2, 0)) := by
          show _ = _; rw [← HTS.out, HR.out.1]; unfold testB; rw [if_neg HO1.out, if_pos (by rw [← HP0.out]; exact hneg)]
         clear hneg HO hownR hb4R hbwR; have hbA := bA w12 (.cells #[.int .i64 2] 3); have howA := own_below hown12 hbA; have hb4A := Below.tr hb412 hbA; have hszA := hb4A.size
         have hrdA : Rd (w12.alloc (.cells #[.int .i64 2] 3)) (some ⟨w12.heap.size, 0, none⟩) [.int .i64 2] := by
          have h := Rd.fresh w12 3 [.int .i64 2]
          rwa [show w12.heap.size = w12.heap.size by simp] at h
         go_wp2_with (first | (at_builtin; go_loud (refine wpList_append_any _ rfl (.tmp 71) (.tmp 72) _ rfl w4.heap.size 3 ii _ 1 8 Try.underlying35 hi0 hz0 hz1 hz2 rfl (by omega) _ i _ rfl howA _ 1 1 [.int .i64 2] rfl rfl hrdA (by simp [Value.oneCell']) (by simp only [maxLen]; omega) (by omega) hszA ?_); intro v1 w11 hown1 hg1 hat1))
         have hrow := hown1; rw [take_map (f := fun x => intV (TB x).1) HX.out (by show intV (TB (name, s.rs)).1 = Value.int .i64 2; rw [HT.out]; rfl)] at hrow; have hb4B := hb4A.grown hg1 hszA (own_block_ge howA); have HZ2 := first_zero (TB := TB) HZ.out HX.out (by rw [HT.out])
         go_roundg (G - 1)
         case measure => omega
         case rel => exact ⟨i + 1, by go_num, by omega, hrow, HZ2, hb4B⟩
        ·obtain ⟨n, hn, hnl⟩ : ∃ n : Nat, P0 = n ∧ n < kl := by
          rcases HO.out with ⟨h, _⟩ | ⟨i, n, h, h2, _, _⟩
          ·omega
          ·exact ⟨n, h, HIN.out _ _ h2⟩
         subst hn; have hd2 : decide ((n : Int) < 0) = false := by simp
         have hpl : n < ps.length := by have := hp.2.1; omega
         obtain ⟨bp, offp, rfl, HPC⟩ := hp.at_ cellsP_len (by omega) hnl hpl; obtain ⟨pn, HPN⟩ : ∃ pn, Hid (ps[n]? = some pn ∧ ps[n] = pn) := ⟨ps[n], List.getElem?_eq_getElem hpl, rfl⟩; rw [HPN.out.2] at HPC; obtain ⟨pb, qb, hbd⟩ : ∃ pb qb, bd n = (pb, qb) := ⟨_, _, rfl⟩; have hbn := HB.out n pn HPN.out.1; rw [hbd] at hbn; obtain ⟨hrb, gb⟩ := hbn; simp only at hrb gb; have hgo := testB_go (L := Lz) (ps := ps) (a := a) (b := b) (p := p) (q := q) (rs := s.rs.drop (m + 1)) HO1.out HP0.out hbd; rw [← HR.out.1, HTS.out] at hgo; have HGO := Lib.hid hgo; obtain ⟨B1, l1, d1, B2, l2, d2, hsh⟩ := hrb.shape; have q4 := HPC.out 4 _ rfl; have q5 := HPC.out 5 _ rfl; simp only [Value.agg.injEq, Array.mk.injEq, List.cons.injEq, and_true] at hsh; rw [hsh.1] at q4; rw [hsh.2] at q5; rw [hsh.1, hsh.2] at hrb; have hrb12 := hrb.below hbw12; have hD12 := hD2.below (Below.tr (bA wr (.cells #[.int .i64 r.oc, .string r.at_, .int .i64 r.st, r.v3, r.v4, r.v5, r.v6, r.v7, r.v8, r.v9, r.v10, r.v11, r.v12, r.v13, r.v14, r.v15, r.v16, r.v17, r.v18, r.v19, r.v20, r.v21] 64)) hb12); have hu12 := hu2.below (Below.tr (bA wr (.cells #[.int .i64 r.oc, .string r.at_, .int .i64 r.st, r.v3, r.v4, r.v5, r.v6, r.v7, r.v8, r.v9, r.v10, r.v11, r.v12, r.v13, r.v14, r.v15, r.v16, r.v17, r.v18, r.v19, r.v20, r.v21] 64)) hb12); have hx12 := (hx.below hb412); have hra12 := hra.below hb412; have hwD : w.heap.size < w4.heap.size := hx.lt; have hbx12 := hbx.trans ((Below.tr (bA wr (.cells #[.int .i64 r.oc, .string r.at_, .int .i64 r.st, r.v3, r.v4, r.v5, r.v6, r.v7, r.v8, r.v9, r.v10, r.v11, r.v12, r.v13, r.v14, r.v15, r.v16, r.v17, r.v18, r.v19, r.v20, r.v21] 64)) hb12).mono (Nat.le_of_lt hD2.lt))
         clear hgo hbd HPC HO hownR hb4R hbwR hneg hrb hsh hD2 hu2; go_upto_region 22 with fail; refine region_invl (PhiU w9.heap.size (.slice E1 k0 c0) (.slice E2 k0' c0') (.slice (some ⟨bp, offp, none⟩) kl cl) n bp (offp + n * 24) (.agg #[.slice B1 l1 d1, .slice B2 l2 d2]) (p * pb) (q * qb)) (RM w9.heap.size w9.heap.size (p * pb) (q * qb)) (SB w9.heap.size (.slice E1 k0 c0) (.slice E2 k0' c0') p q (.agg #[.slice B1 l1 d1, .slice B2 l2 d2]) pb qb (.agg #[.slice A1 k1 c1, .slice A2 k2 c2]) a b w12) (by kernel_rfl) (by kernel_rfl) (by kernel_rfl) PhiU.keep ⟨fun _ => hD12, hu12, hrb12, hra12, ⟨_, _, _, _, _, _, hD12⟩, (Below.refl _ _).drew⟩ ?_ ?_
         ·refine sK ?_ (sK ?_ (sK ?_ (sK ?_ (sK ?_ (sK ?_ (sK ?_ (sK ?_ (sK ?_ (sK ?_ (sK ?_ (sK ?_ (sZ))))))))))))
          ·as_aux_lemma =>
           intro vs L W hS hL cl hdep K hK
           have h10 : L 10 = false := by
            cases h : L 10 with
            | false => rfl
            | true =>
             have h8 := cl 10 _ rfl h ⟨8, .data⟩ (by simp) rfl; have h7 := cl 8 _ rfl h8 ⟨7, .data⟩ (by simp) rfl; have h6 := cl 7 _ rfl h7 ⟨6, .data⟩ (by simp) rfl; have h0 := cl 6 _ rfl h6 ⟨0, .data⟩ (by simp) rfl; rw [hL] at h0; cases h0
           have f1 := (hS.box h10).facts.1; have f2 := (hS.box h10).facts.2; refine ⟨?_⟩; simp only [fillR, Act.put, sA, sB, sC, Nat.zero_add, Nat.reduceAdd] at hK ⊢; go_simp; with_reducible refine hK _ _ (RM.refl _) (hS.step (Below.refl _ _) 0 (by decide)) ?_
           exact rfl
          ·as_aux_lemma =>
           intro vs L W hS hL cl hdep K hK; refine ⟨?_⟩; simp only [fillR, Act.put, sA, sB, sC, Nat.zero_add, Nat.reduceAdd] at hK ⊢; go_simp; with_reducible refine hK _ _ (RM.refl _) (hS.step (Below.refl _ _) 1 (by decide)) ?_
           exact rfl
          ·as_aux_lemma =>
           intro vs L W hS hL cl hdep K hK; refine ⟨?_⟩; simp only [fillR, Act.put, sA, sB, sC, Nat.zero_add, Nat.reduceAdd] at hK ⊢; go_simp; with_reducible refine hK _ _ (RM.refl _) (hS.step (Below.refl _ _) 2 (by decide)) ?_
           exact rfl
          ·as_aux_lemma =>
           intro vs L W hS hL cl hdep K hK; have d0 := hdep ⟨1, .data⟩ (by simp) rfl; simp only [PhiU] at d0; have d1 := hdep ⟨2, .data⟩ (by simp) rfl; simp only [PhiU] at d1; refine ⟨?_⟩; simp only [fillR, Act.put, sA, sB, sC, Nat.zero_add, Nat.reduceAdd, d0, d1] at hK ⊢; go_simp; with_reducible refine hK _ _ (RM.refl _) (hS.step (Below.refl _ _) 3 (by decide)) ?_
           exact rfl
          ·as_aux_lemma =>
           intro vs L W hS hL cl hdep K hK; have d0 := hdep ⟨3, .data⟩ (by simp) rfl; simp only [PhiU] at d0; refine ⟨?_⟩; simp only [fillR, Act.put, sA, sB, sC, Nat.zero_add, Nat.reduceAdd, d0] at hK ⊢; go_simp; with_reducible refine hK _ _ (RM.refl _) (hS.step (Below.refl _ _) 4 (by decide)) ?_
           exact rfl
          ·as_aux_lemma =>
           intro vs L W hS hL cl hdep K hK; have d0 := hdep ⟨4, .data⟩ (by simp) rfl; simp only [PhiU] at d0; have f4 := cell_keep (hbw12.trans (hS.be.mono hD0)) q4; have f5 := cell_keep (hbw12.trans (hS.be.mono hD0)) q5; refine ⟨?_⟩; simp only [fillR, Act.put, sA, sB, sC, Nat.zero_add, Nat.reduceAdd, d0] at hK ⊢; go_simp; with_reducible refine hK _ _ (RM.refl _) (hS.step (Below.refl _ _) 5 (by decide)) ?_
           exact rfl
          ·as_aux_lemma =>
           intro vs L W hS hL cl hdep K hK; have d0 := hdep ⟨0, .data⟩ (by simp) rfl; simp only [PhiU] at d0; have d1 := hdep ⟨5, .data⟩ (by simp) rfl; simp only [PhiU] at d1; refine ⟨?_⟩; simp only [fillR, Act.put, sA, sB, sC, Nat.zero_add, Nat.reduceAdd, d0, d1] at hK ⊢; go_simp; refine (mul_n _ _ p q pb qb _ hS.ra hS.rb gp gb).mono ?_; rintro e w' ⟨v, er, rfl, hn, hb⟩; go_wp2_with fail; with_reducible refine hK _ _ (RM.below hb (Nat.le_of_lt hS.sl.lt) hS.sl.lt) (hS.step hb 6 (by decide)) ?_
           exact ⟨v, er, rfl, hn⟩
          ·as_aux_lemma =>
           intro vs L W hS hL cl hdep K hK; have d0 := hdep ⟨6, .data⟩ (by simp) rfl; simp only [PhiU] at d0; refine @exE2 _ _ _ _ d0 ?_; clear d0; intro v0 er0 d0; have e0 := d0.1; have n0 := d0.2; clear d0; refine ⟨?_⟩; simp only [fillR, Act.put, sA, sB, sC, Nat.zero_add, Nat.reduceAdd, e0] at hK ⊢; go_simp; with_reducible refine hK _ _ (RM.refl _) (hS.step (Below.refl _ _) 7 (by decide)) ?_
           exact ⟨_, _, rfl, n0⟩
          ·as_aux_lemma =>
           intro vs L W hS hL cl hdep K hK; have d0 := hdep ⟨7, .data⟩ (by simp) rfl; simp only [PhiU] at d0; refine @exE2 _ _ _ _ d0 ?_; clear d0; intro v0 er0 d0; have e0 := d0.1; have n0 := d0.2; clear d0; refine ⟨?_⟩; simp only [fillR, Act.put, sA, sB, sC, Nat.zero_add, Nat.reduceAdd, e0] at hK ⊢; go_simp; with_reducible refine hK _ _ (RM.refl _) (hS.step (Below.refl _ _) 8 (by decide)) ?_
           exact RedV.of n0
          ·as_aux_lemma =>
           intro vs L W hS hL cl hdep K hK; have d0 := hdep ⟨7, .data⟩ (by simp) rfl; simp only [PhiU] at d0; refine @exE2 _ _ _ _ d0 ?_; clear d0; intro v0 er0 d0; have e0 := d0.1; have n0 := d0.2; clear d0; refine ⟨?_⟩; simp only [fillR, Act.put, sA, sB, sC, Nat.zero_add, Nat.reduceAdd, e0] at hK ⊢; go_simp; with_reducible refine hK _ _ (RM.refl _) (hS.step (Below.refl _ _) 9 (by decide)) ?_
           exact ⟨_, rfl, n0.err⟩
          ·as_aux_lemma =>
           intro vs L W hS hL cl hdep K hK; have d0 := hdep ⟨8, .data⟩ (by simp) rfl; simp only [PhiU] at d0; obtain ⟨A, k, c, A', k', c', er, e0, n0⟩ := d0; obtain ⟨r1, r2, r3, r4, r5, r6, hres⟩ := hS.sl; have q1 := hres.cell 0; have q2 := hres.cell 1; have q3 := hres.frozen 0; have q4 := hres.frozen 1; simp at q1 q2; have HR2 := Lib.hid (RM.store (B := w9.heap.size) hS.sl (Nat.le_refl _) n0); clear hres; refine ⟨?_⟩; simp only [fillR, Act.put, sA, sB, sC, Nat.zero_add, Nat.reduceAdd, e0] at hK ⊢; go_simp; with_reducible refine hK undef _ HR2.out.1 (hS.stored HR2.out.1) ?_
           exact HR2.out.2
          ·as_aux_lemma =>
           intro vs L W hS hL cl hdep K hK; have d0 := hdep ⟨9, .data⟩ (by simp) rfl; simp only [PhiU] at d0; refine @exE1 _ _ _ d0 ?_; clear d0; intro er0 d0; have e0 := d0.1; have n0 := d0.2; clear d0; refine ⟨?_⟩; simp only [fillR, Act.put, sA, sB, sC, Nat.zero_add, Nat.reduceAdd, e0] at hK ⊢; go_simp; with_reducible refine hK _ _ (RM.refl _) (hS.step (Below.refl _ _) 11 (by decide)) ?_
           exact ⟨_, rfl, n0⟩
         ·intro vs L W hS hall hv; have v11 := hv 11 (by simp); have v10 := hv 10 (by simp); simp only [PhiU] at v11 v10; obtain ⟨er, e11, hErr⟩ := v11; obtain ⟨A9, k9, c9, A9', k9', c9', er', hblk, hP9⟩ := v10; obtain rfl : er = er' := hErr.uniq hP9.err; have hbeW := hS.be; have hraW := hS.rl; have hbxW := hbx12.trans hbeW; have hownW := ownsRow_keep hown12 (fun g hg => hbeW.block g (HOLT.out g hg)); have hxW := Blk.below hx12 hbeW (Nat.lt_of_lt_of_le hwD hD9); have hb4W := hb412.trans (hbeW.mono hD9); have hbwW := hbw12.trans (hbeW.mono hD0); clear hv hErr hS hall q4 q5; simp only [fillR, Act.put, sA, sB, sC, Nat.zero_add, Nat.reduceAdd, e11]
          rcases hP9 with ⟨hF, rfl, hR9⟩ | ⟨hF, rfl, _⟩
          ·have GN := good_red (n := p * pb) (d := q * qb) (Nat.mul_pos gp.pos gb.pos) hF; have HGa := Lib.hid (HGO.out.1 hF); have HGb := Lib.hid (HGO.out.2.1 hF); clear HGO hF; obtain ⟨N', HN'⟩ : ∃ N, Hid (N = p * pb / Nat.gcd (p * pb) (q * qb)) := ⟨_, rfl⟩; obtain ⟨M', HM'⟩ : ∃ N, Hid (N = q * qb / Nat.gcd (p * pb) (q * qb)) := ⟨_, rfl⟩; rw [← HN'.out, ← HM'.out] at GN HGa HGb hR9; have f5 := hblk.cell 0; have f6 := hblk.cell 1; have f7 := hxW.cell 0; have f8 := hxW.cell 1; simp only [List.getElem?_toArray, List.getElem?_cons_zero, List.getElem?_cons_succ] at f5 f6 f7 f8; clear hownx hown12 hb412 hbw12 hx12 hra12 hrb12 hD12 hu12 hrs hct hcs hra; by_cases hle : N' * b ≤ a * M'
           ·have HT : Hid (TB (name, s.rs) = (2, 0)) := HGa.out hle; go_wp2_with fail; refine (most_t _ _ N' M' a b _ hR9 hraW GN ga hle).mono ?_; rintro e w13 ⟨rfl, hb13⟩; have hown13 := own_below hownW hb13; have hb413 := Below.tr hb4W hb13; clear hle hblk hxW hR9 hraW HGa HGb f5 f6 f7 f8; have hbA := bA w13 (.cells #[.int .i64 2] 3); have howA := own_below hown13 hbA; have hb4A := Below.tr hb413 hbA; have hszA := hb4A.size
            have hrdA : Rd (w13.alloc (.cells #[.int .i64 2] 3)) (some ⟨w13.heap.size, 0, none⟩) [.int .i64 2] := by
             have h := Rd.fresh w13 3 [.int .i64 2]
             rwa [show w13.heap.size = w13.heap.size by simp] at h
            go_wp2_with (first | (at_builtin; go_loud (refine wpList_append_any _ rfl (.tmp 90) (.tmp 91) _ rfl w4.heap.size 3 ii _ 1 8 Try.underlying35 hi0 hz0 hz1 hz2 rfl (by omega) _ i _ rfl howA _ 1 1 [.int .i64 2] rfl rfl hrdA (by simp [Value.oneCell']) (by simp only [maxLen]; omega) (by omega) hszA ?_); intro v1 w11 hown1 hg1 hat1))
            have hrow := hown1; rw [take_map (f := fun x => intV (TB x).1) HX.out (by show intV (TB (name, s.rs)).1 = Value.int .i64 2; rw [HT.out]; rfl)] at hrow; have hb4B := hb4A.grown hg1 hszA (own_block_ge howA); have HZ2 := first_zero (TB := TB) HZ.out HX.out (by rw [HT.out])
            go_roundg (G - 1)
            case measure => omega
            case rel => exact ⟨i + 1, by go_num, by omega, hrow, HZ2, hb4B⟩
           ·have HTS2 : Hid (testB Lz ps bd a b name (s.rs.drop (m + 1)) N' M' = TB (name, s.rs)) := (HGb.out hle).symm; have hlt : a * M' < N' * b := by omega
            go_wp2_with fail; refine (most_f _ _ N' M' a b _ hR9 hraW GN ga hlt).mono ?_; rintro e w13 ⟨rfl, hb13⟩; go_wp2_with fail; rw [← hsA]
            go_roundg (gk - 1)
            case measure => omega
            case rel => exact ⟨m + 1, N', M', _, _, _, _, _, _, by go_num, by omega, Blk.below hblk hb13 hblk.lt, hR9.below hb13, GN, HTS2, own_below hownW hb13, HOLT, hbxW.trans (hb13.mono (Nat.le_of_lt hblk.lt))⟩
          ·have HT : Hid (TB (name, s.rs) = (0, 4)) := HGO.out.2.2 hF
           have HE : Hid ((4 : Int) = buildE (l.map Int.toNat) ps bd a b (names.zip (rows.map (·.rs)))) := by
            show _ = _
            rw [← HLz.out, ← HXS.out]; have h2 : (oneT Lz ps bd a b (name, s.rs)).2 = 4 := by have := HT.out; rw [HTB.out] at this; exact congrArg Prod.snd this
            rw [buildE_at HX.out (fun m y hm hy => by have := HZ.out m y hm hy; rw [HTB.out] at this; exact this) (by rw [h2]; decide), h2]
           have HP : Hid (BuildP kl kt kt l ps bd names rows (Nm.lb a) (Nm.lb (Nm.dn b)) 4 []) := .inr (.inr ⟨HFIT.out, a, b, rfl, rfl, ga, HE.out, by rw [if_neg (by decide)]⟩); clear hownx hown12 hb412 hbw12 hx12 hra12 hrb12 hD12 hu12 hrs hct hcs hra hF HGO; go_wp2_with fail
           (try rw [Exit.noGoto_ret])
           go_ret2
           exact ⟨_, _, [], rfl, HP, World.ownsRow_nil _ _ _ _, hbwW⟩
      ·obtain rfl : m = s.k := by omega
       have HT : Hid (TB (name, s.rs) = (1, 0)) := by
        show _ = _; rw [← HTS.out, List.drop_of_length_le (by have := hrs.2.1; omega)]; rfl
       clear hm hmj; have hbA := bA wr (.cells #[.int .i64 1] 3); have howA := own_below hownx hbA; have hb4A := Below.tr hb4x hbA; have hszA := hb4A.size
       have hrdA : Rd (wr.alloc (.cells #[.int .i64 1] 3)) (some ⟨wr.heap.size, 0, none⟩) [.int .i64 1] := by
        have h := Rd.fresh wr 3 [.int .i64 1]
        rwa [show wr.heap.size = wr.heap.size by simp] at h
       go_wp2_with (first | (at_builtin; go_loud (refine wpList_append_any _ rfl (.tmp 94) (.tmp 95) _ rfl w4.heap.size 3 ii _ 1 8 Try.underlying35 hi0 hz0 hz1 hz2 rfl (by omega) _ i _ rfl howA _ 1 1 [.int .i64 1] rfl rfl hrdA (by simp [Value.oneCell']) (by simp only [maxLen]; omega) (by omega) hszA ?_); intro v1 w11 hown1 hg1 hat1))
       have hrow := hown1; rw [take_map (f := fun x => intV (TB x).1) HX.out (by show intV (TB (name, s.rs)).1 = Value.int .i64 1; rw [HT.out]; rfl)] at hrow; have hb4B := hb4A.grown hg1 hszA (own_block_ge howA); have HZ2 := first_zero (TB := TB) HZ.out HX.out (by rw [HT.out])
       go_roundg (G - 1)
       case measure => omega
       case rel => exact ⟨i + 1, by go_num, by omega, hrow, HZ2, hb4B⟩
    ·obtain rfl : kt = i := by omega
     have HT : Hid (xs.take kt = xs) := by
      show _ = _; exact List.take_of_length_le (by rw [HXS.out]; simp [HXL.out])
     have HZ2 : Hid (∀ x ∈ xs, (oneT Lz ps bd a b x).2 = 0) := by
      intro x hx; obtain ⟨j, hj⟩ := List.getElem?_of_mem hx; have hjl := (List.getElem?_eq_some_iff.1 hj).1; have hxl : xs.length ≤ kt := by rw [HXS.out]; simp [HXL.out]
      have := HZ.out j x (by omega) hj; rw [HTB.out] at this; exact this
     rw [HT.out] at hown; have HP : Hid (BuildP kl kt kt l ps bd names rows (Nm.lb a) (Nm.lb (Nm.dn b)) 0 (xs.map fun x => (TB x).1)) := .inr (.inr ⟨HFIT.out, a, b, rfl, rfl, ga, by rw [← HLz.out, ← HXS.out]; exact (buildE_none HZ2.out).symm, by rw [if_pos rfl, ← HLz.out, ← HXS.out, HTB.out]⟩); have hxl : (xs.map fun x => (TB x).1).length = kt := by rw [List.length_map, HXS.out]; simp [HXL.out]
     obtain ⟨Ap, cp, rfl⟩ := own_shp hown; go_wp2_with fail
     (try rw [Exit.noGoto_ret])
     go_ret2
     refine ⟨_, _, _, rfl, HP, ?_, Below.tr hbw4 hbe⟩; rw [hxl, List.map_map]; exact own_mono hown hbw4.size
  ·have h1 : (E != 0) = true := by simpa using hE
   have HP : Hid (BuildP kl kt kt l ps bd names rows L1 L2 E []) := .inr (.inl ⟨HFIT.out, by rw [← HV.out]; exact hE, HV.out, rfl⟩); go_wp2_with fail
   (try rw [Exit.noGoto_ret])
   go_ret2
   exact ⟨_, _, [], rfl, HP, World.ownsRow_nil _ _ _ _, hbw3⟩
 ·have h0 : (er != 0) = true := by simpa using he
  have HP : Hid (BuildP kl ks kt l ps bd names rows L1 L2 er []) := .inl ⟨by rw [← HE.out]; exact he, HE.out, rfl⟩; go_wp2_with fail
  (try rw [Exit.noGoto_ret])
  go_ret2
  exact ⟨_, _, [], rfl, HP, World.ownsRow_nil _ _ _ _, hbw2⟩
end Go.Proofs.Yticobffjnjbjiaa
namespace Go.Proofs.Yticobffjnjbjiaa
open Go.RowKit
/- gate.Escapes -/
/-- what holds all along while the bound is multiplied -/
structure SE (g : Nat) (o1 o2 : Value) (p q : Nat) (v2 : Value) (pb qb : Nat) (w0 : World) (L : Nat → Bool) (W : World) : Prop where
 box : Box W g o1 o2
 ra : Rat W (.agg #[o1, o2]) p q
 rb : Rat W v2 pb qb
 sl : Sl W w0.heap.size
 be : Below w0.heap.size w0 W
 ne : g ≠ w0.heap.size
theorem SE.step {g : Nat} {o1 o2 : Value} {p q : Nat} {v2 : Value} {pb qb : Nat} {w0 : World} {L : Nat → Bool} {W W' : World} (h : SE g o1 o2 p q v2 pb qb w0 L W) (hb : Below W.heap.size W W') (i : Nat) : SE g o1 o2 p q v2 pb qb w0 (updB L i) W' :=
 ⟨h.box.below hb, h.ra.below hb, h.rb.below hb, h.sl.below hb, Below.tr h.be hb, h.ne⟩
theorem SE.stored {g : Nat} {o1 o2 : Value} {p q : Nat} {v2 : Value} {pb qb n d : Nat} {w0 : World} {L : Nat → Bool} {W W' : World} (h : SE g o1 o2 p q v2 pb qb w0 L W) {i : Nat} (hr : RM w0.heap.size w0.heap.size n d W W') : SE g o1 o2 p q v2 pb qb w0 (updB L i) W' :=
 ⟨hr.box _ _ _ h.ne h.box, h.ra.map hr.nb, h.rb.map hr.nb, hr.sl h.sl, h.be.trans hr.be, h.ne⟩
def PhiE (g : Nat) (o1 o2 AL : Value) (n bp o : Nat) (v2 : Value) (D N M : Nat) (j : Nat) (w : World) (x : Value) : Prop :=
 match j with
 | 0 => x = .agg #[o1, o2]
 | 1 => x = AL
 | 2 => x = .int .i64 (n : Int)
 | 3 => x = .pointer (some ⟨bp, o, none⟩)
 | 4 => x = .pointer (some ⟨bp, o + 4, none⟩)
 | 5 => x = v2
 | 6 => ∃ v er, x = .tuple #[v, .int .i64 er] ∧ RedP w v er N M
 | 7 => RedV w x N M
 | 8 => ∃ er, x = .int .i64 er ∧ ErrOf N M er
 | 9 => GoodR w D N M
 | 10 => ∃ er, x = .int .i64 er ∧ ErrOf N M er
 | _ => True
theorem PhiE.keep {g : Nat} {o1 o2 AL : Value} {n bp o : Nat} {v2 : Value} {B D N M : Nat} : ∀ (w w' : World), RM B D N M w w' → ∀ j x, PhiE g o1 o2 AL n bp o v2 D N M j w x → PhiE g o1 o2 AL n bp o v2 D N M j w' x := by
 intro w w' hr j x h; unfold PhiE at h ⊢
 split <;> simp only at h ⊢
 all_goals first
  | exact h
  | (obtain ⟨v, er, rfl, h⟩ := h; exact ⟨v, er, rfl, h.map hr.nb⟩)
  | (obtain ⟨A, k, c, A', k', c', er, rfl, h⟩ := h; exact ⟨A, k, c, A', k', c', er, rfl, h.map hr.nb⟩)
  | (rcases hr.good with h2 | h2; exact h2; obtain ⟨A, k, c, A', k', c', er, h3, h4⟩ := h; exact ⟨A, k, c, A', k', c', er, h2.trans h3, h4.map hr.nb⟩)
def EscP (kl : Nat) (ps : List PC) (Lf : Nat → List Nat × List Nat) (k seen : Int) (w' : World) (v : Value) (er : Int) : Prop :=
 ((k < 0 ∨ (kl : Int) ≤ k ∨ seen < 0) ∧ er = 5 ∧ v = nilRat) ∨
 ∃ (n s : Nat) (p : PC), k = (n : Int) ∧ seen = (s : Int) ∧ ps[n]? = some p ∧ ((∃ E, E ≠ 0 ∧ PVal p (Lf n).1 (Lf n).2 E ∧ er = E ∧ v = nilRat) ∨ ∃ a b, (Lf n).1 = Nm.lb a ∧ (Lf n).2 = Nm.lb (Nm.dn b) ∧ Nm.Good a b ∧ pE a b p = 0 ∧ RedP w' v er (s * a) (1 * b))
theorem Good_int {s : Nat} (hs : s ≤ 9223372036854775807) : Nm.Good s 1 := by
 have h := good_red (n := s) (d := 1) (by omega) (by rw [Nat.gcd_one_right, Nat.div_one, Nat.div_one]; exact fits_small (b64 (by omega)) (b64 (by omega)))
 rwa [Nat.gcd_one_right, Nat.div_one, Nat.div_one] at h
set_option maxRecDepth 100000 in
set_option maxHeartbeats 2000000 in
theorem escapes_n (Al : Option Addr) (kl cl : Nat) (k seen : Int) (ps : List PC) (Lf : Nat → List Nat × List Nat) (w : World) (hp : RowS cellsP w Al kl ps) (hsn : seen ≤ 9223372036854775807)
  (HB : Hid (∀ (n : Nat) p, ps[n]? = some p → RtL w (.agg #[p.b1, p.b2]) (Lf n).1 (Lf n).2 ∧ p.test.size ≤ 9223372036854775807 ∧ p.wh.size ≤ 9223372036854775807)) :
  Calls Try.prog 43 #[.slice Al kl cl, .int .i64 k, .int .i64 seen] w fun e w' => ∃ v er, e = .returned (.tuple #[v, .int .i64 er]) ∧ Hid (EscP kl ps Lf k seen w' v er) ∧ Below w.heap.size w w' := by
 have hres := Res.new w; obtain ⟨r1, r2, r3, r4⟩ := hres.facts; by_cases hbad : k < 0 ∨ (kl : Int) ≤ k ∨ seen < 0
 ·obtain ⟨s1, s2⟩ := hres.set2 (.slice none 0 0) (.slice none 0 0); have hbw := below_set2 (bA w (.cells #[.slice none 0 0, .slice none 0 0] 24)) (Nat.le_refl _) (.slice none 0 0) (.slice none 0 0); have HBAD := Lib.hid hbad
  rcases (show k < 0 ∨ (0 ≤ k ∧ (kl : Int) ≤ k) ∨ (0 ≤ k ∧ k < (kl : Int) ∧ seen < 0) by omega) with h | ⟨h, h'⟩ | ⟨h, h', h''⟩ <;> clear hbad
  ·have d1 : decide (k < 0) = true := by simpa using h
   go_enter Try.func43, Try.ntmps43
   go_wp2_with fail; exact bodyPost_ret (v := .tuple #[nilRat, .int .i64 5]) (by simp [results, Try.results43, go_sem, s1, s2, nilRat]) rfl ⟨_, _, rfl, .inl ⟨HBAD.out, rfl, rfl⟩, bA _ _⟩
  ·have d1 : decide (k < 0) = false := by simp; omega
   have d2 : decide ((kl : Int) ≤ k) = true := by simpa using h'
   go_enter Try.func43, Try.ntmps43
   go_wp2_with fail; exact bodyPost_ret (v := .tuple #[nilRat, .int .i64 5]) (by simp [results, Try.results43, go_sem, s1, s2, nilRat]) rfl ⟨_, _, rfl, .inl ⟨HBAD.out, rfl, rfl⟩, bA _ _⟩
  ·have d1 : decide (k < 0) = false := by simp; omega
   have d2 : decide ((kl : Int) ≤ k) = false := by simp; omega
   have d3 : decide (seen < 0) = true := by simpa using h''
   go_enter Try.func43, Try.ntmps43
   go_wp2_with fail; exact bodyPost_ret (v := .tuple #[nilRat, .int .i64 5]) (by simp [results, Try.results43, go_sem, s1, s2, nilRat]) rfl ⟨_, _, rfl, .inl ⟨HBAD.out, rfl, rfl⟩, bA _ _⟩
 ·obtain ⟨n, rfl⟩ := Int.eq_ofNat_of_zero_le (show 0 ≤ k by omega); obtain ⟨s, rfl⟩ := Int.eq_ofNat_of_zero_le (show 0 ≤ seen by omega); have hnl : n < kl := by omega
  have hsl : s ≤ 9223372036854775807 := by omega
  have d1 : decide ((n : Int) < 0) = false := by simp
  have d2 : decide ((kl : Int) ≤ (n : Int)) = false := by simp; omega
  have d3 : decide ((s : Int) < 0) = false := by simp
  clear hbad hsn; have hkl := hp.2.2; have hpl : n < ps.length := by have := hp.2.1; omega
  obtain ⟨bp, offp, rfl, HPC⟩ := hp.at_ cellsP_len (by omega) hnl hpl; obtain ⟨pn, HPN⟩ : ∃ pn, Hid (ps[n]? = some pn ∧ ps[n] = pn) := ⟨ps[n], List.getElem?_eq_getElem hpl, rfl⟩; rw [HPN.out.2] at HPC; obtain ⟨hrl, z1, z2⟩ := HB.out n pn HPN.out.1; obtain ⟨L1, L2, HL⟩ : ∃ L1 L2, Hid ((Lf n).1 = L1 ∧ (Lf n).2 = L2) := ⟨_, _, rfl, rfl⟩; rw [HL.out.1, HL.out.2] at hrl; have hbw1 := bA w (.cells #[.slice none 0 0, .slice none 0 0] 24); have HPC1 : Hid (∀ (j : Nat) v, (cellsP pn)[j]? = some v → (w.alloc (.cells #[.slice none 0 0, .slice none 0 0] 24)).cell? ⟨bp, offp + n * 24 + j, none⟩ = some v) := fun j v h => cell_keep hbw1 (HPC.out j v h)
  go_enter Try.func43, Try.ntmps43
  go_wp2_with (refine wpList_load_mid rfl 53 (.tmp 26) rfl bp (offp + n * 24) rfl [.int .i64 pn.team, .string pn.test, .string pn.wh, .int .i64 pn.site, pn.b1, pn.b2, .int .i64 pn.fr, .int .i64 pn.un, pn.r0, pn.r1, pn.r2, pn.r3, pn.r4, pn.r5, pn.r6, pn.r7, pn.r8, pn.r9, pn.r10, pn.r11, pn.r12, pn.r13, pn.r14, pn.r15] _ (fun j v h => HPC1.out j v h) Try.underlying53 rfl infoP ?_)
  refine (pvalid_n pn L1 L2 _ (hrl.below hbw1) z1 z2).mono ?_; rintro e w2 ⟨E, rfl, HE, hb2⟩; have hres := hres.below hb2; have hbw2 := Below.tr hbw1 hb2; clear r1 r2 r3 r4 hbw1 hb2 HPC1; by_cases hE : E = 0
  ·have h0 : (E != 0) = false := by rw [hE]; rfl
   obtain ⟨a, b, HAB⟩ : ∃ a b, Hid (L1 = Nm.lb a ∧ L2 = Nm.lb (Nm.dn b) ∧ Nm.Good a b ∧ pE a b pn = 0) := by
    rcases HE.out with ⟨h1, h2⟩ | ⟨a, b, h1, h2, h3, h4⟩
    ·exact absurd (h2.symm.trans hE) h1
    ·exact ⟨a, b, h1, h2, h3, by rw [← h4]; exact hE⟩
   obtain ⟨rfl, rfl, ga, HPE⟩ := HAB.out; have HPE0 := Lib.hid HPE; have hra := (hrl.below hbw2).rat; clear hE HE HPE; go_wp2_with fail; refine (of_n s 1 _ hsl (by omega) (by omega)).mono ?_; rintro e w3 ⟨v, er, rfl, hR, hb3⟩; obtain ⟨rfl, hR1, _⟩ := hR.small (by omega) (b64 (by omega)) (b64 (by omega)); rw [Nat.gcd_one_right, Nat.div_one, Nat.div_one] at hR1; have gs := Good_int hsl; obtain ⟨D1, m1, o1, D2, m2, o2, rfl⟩ := hR1.shape; have hbA := bA w3 (.cells #[.slice D1 m1 o1, .slice D2 m2 o2] 24); have hx : Box (w3.alloc (.cells #[.slice D1 m1 o1, .slice D2 m2 o2] 24)) w3.heap.size (.slice D1 m1 o1) (.slice D2 m2 o2) := Blk.new _ _ _; have hres3 := (hres.below hb3); have hne : w3.heap.size ≠ w.heap.size := Nat.ne_of_gt hres3.lt; have hres := hres3.below hbA; have hbw3 := Below.tr (Below.tr hbw2 hb3) hbA; have hraA := hra.below (Below.tr hb3 hbA); have hR1A := hR1.below hbA; obtain ⟨w4, HW4⟩ : ∃ W, Hid (W = w3.alloc (.cells #[.slice D1 m1 o1, .slice D2 m2 o2] 24)) := ⟨_, rfl⟩; rw [← HW4.out] at hx hres hbw3 hraA hR1A; obtain ⟨B1, l1, d1', B2, l2, d2', hsh⟩ := hraA.shape; have q4 := HPC.out 4 _ rfl; have q5 := HPC.out 5 _ rfl; simp only [Value.agg.injEq, Array.mk.injEq, List.cons.injEq, and_true] at hsh; rw [hsh.1] at q4; rw [hsh.2] at q5; rw [hsh.1, hsh.2] at hraA; clear hR hR1 hb3 hbA hres3 hra hbw2 hsh hrl; go_wp2_with fail; rw [← HW4.out]; refine region_invl (PhiE w3.heap.size (.slice D1 m1 o1) (.slice D2 m2 o2) (.slice (some ⟨bp, offp, none⟩) kl cl) n bp (offp + n * 24) (.agg #[.slice B1 l1 d1', .slice B2 l2 d2']) w.heap.size (s * a) (1 * b)) (RM w.heap.size w.heap.size (s * a) (1 * b)) (SE w3.heap.size (.slice D1 m1 o1) (.slice D2 m2 o2) s 1 (.agg #[.slice B1 l1 d1', .slice B2 l2 d2']) a b w) (by kernel_rfl) (by kernel_rfl) (by kernel_rfl) PhiE.keep ⟨hx, hR1A, hraA, hres.sl, hbw3.drew, hne⟩ ?_ ?_
   ·refine sK ?_ (sK ?_ (sK ?_ (sK ?_ (sK ?_ (sK ?_ (sK ?_ (sK ?_ (sK ?_ (sK ?_ (sK ?_ (sZ)))))))))))
    ·as_aux_lemma =>
     intro vs L W hS hL cl hdep K hK; have f1 := hS.box.facts.1; have f2 := hS.box.facts.2; refine ⟨?_⟩; simp only [fillR, Act.put, sA, sB, sC, Nat.zero_add, Nat.reduceAdd] at hK ⊢; go_simp; with_reducible refine hK _ _ (RM.refl _) (hS.step (Below.refl _ _) 0) ?_
     exact rfl
    ·as_aux_lemma =>
     intro vs L W hS hL cl hdep K hK; refine ⟨?_⟩; simp only [fillR, Act.put, sA, sB, sC, Nat.zero_add, Nat.reduceAdd] at hK ⊢; go_simp; with_reducible refine hK _ _ (RM.refl _) (hS.step (Below.refl _ _) 1) ?_
     exact rfl
    ·as_aux_lemma =>
     intro vs L W hS hL cl hdep K hK; refine ⟨?_⟩; simp only [fillR, Act.put, sA, sB, sC, Nat.zero_add, Nat.reduceAdd] at hK ⊢; go_simp; with_reducible refine hK _ _ (RM.refl _) (hS.step (Below.refl _ _) 2) ?_
     exact rfl
    ·as_aux_lemma =>
     intro vs L W hS hL cl hdep K hK; have d0 := hdep ⟨1, .data⟩ (by simp) rfl; simp only [PhiE] at d0; have d1 := hdep ⟨2, .data⟩ (by simp) rfl; simp only [PhiE] at d1; refine ⟨?_⟩; simp only [fillR, Act.put, sA, sB, sC, Nat.zero_add, Nat.reduceAdd, d0, d1] at hK ⊢; go_simp; with_reducible refine hK _ _ (RM.refl _) (hS.step (Below.refl _ _) 3) ?_
     exact rfl
    ·as_aux_lemma =>
     intro vs L W hS hL cl hdep K hK; have d0 := hdep ⟨3, .data⟩ (by simp) rfl; simp only [PhiE] at d0; refine ⟨?_⟩; simp only [fillR, Act.put, sA, sB, sC, Nat.zero_add, Nat.reduceAdd, d0] at hK ⊢; go_simp; with_reducible refine hK _ _ (RM.refl _) (hS.step (Below.refl _ _) 4) ?_
     exact rfl
    ·as_aux_lemma =>
     intro vs L W hS hL cl hdep K hK; have d0 := hdep ⟨4, .data⟩ (by simp) rfl; simp only [PhiE] at d0; have f4 := cell_keep hS.be q4; have f5 := cell_keep hS.be q5; refine ⟨?_⟩; simp only [fillR, Act.put, sA, sB, sC, Nat.zero_add, Nat.reduceAdd, d0] at hK ⊢; go_simp; with_reducible refine hK _ _ (RM.refl _) (hS.step (Below.refl _ _) 5) ?_
     exact rfl
    ·as_aux_lemma =>
     intro vs L W hS hL cl hdep K hK; have d0 := hdep ⟨0, .data⟩ (by simp) rfl; simp only [PhiE] at d0; have d1 := hdep ⟨5, .data⟩ (by simp) rfl; simp only [PhiE] at d1; refine ⟨?_⟩; simp only [fillR, Act.put, sA, sB, sC, Nat.zero_add, Nat.reduceAdd, d0, d1] at hK ⊢; go_simp; refine (mul_n _ _ s 1 a b _ hS.ra hS.rb gs ga).mono ?_; rintro e w' ⟨v, er, rfl, hn, hb⟩; go_wp2_with fail; with_reducible refine hK _ _ (RM.below hb hS.be.size hS.sl.lt) (hS.step hb 6) ?_
     exact ⟨v, er, rfl, hn⟩
    ·as_aux_lemma =>
     intro vs L W hS hL cl hdep K hK; have d0 := hdep ⟨6, .data⟩ (by simp) rfl; simp only [PhiE] at d0; refine @exE2 _ _ _ _ d0 ?_; clear d0; intro v0 er0 d0; have e0 := d0.1; have n0 := d0.2; clear d0; refine ⟨?_⟩; simp only [fillR, Act.put, sA, sB, sC, Nat.zero_add, Nat.reduceAdd, e0] at hK ⊢; go_simp; with_reducible refine hK _ _ (RM.refl _) (hS.step (Below.refl _ _) 7) ?_
     exact RedV.of n0
    ·as_aux_lemma =>
     intro vs L W hS hL cl hdep K hK; have d0 := hdep ⟨6, .data⟩ (by simp) rfl; simp only [PhiE] at d0; refine @exE2 _ _ _ _ d0 ?_; clear d0; intro v0 er0 d0; have e0 := d0.1; have n0 := d0.2; clear d0; refine ⟨?_⟩; simp only [fillR, Act.put, sA, sB, sC, Nat.zero_add, Nat.reduceAdd, e0] at hK ⊢; go_simp; with_reducible refine hK _ _ (RM.refl _) (hS.step (Below.refl _ _) 8) ?_
     exact ⟨_, rfl, n0.err⟩
    ·as_aux_lemma =>
     intro vs L W hS hL cl hdep K hK; have d0 := hdep ⟨7, .data⟩ (by simp) rfl; simp only [PhiE] at d0; obtain ⟨A, k, c, A', k', c', er, e0, n0⟩ := d0; obtain ⟨r1, r2, r3, r4, r5, r6, hres⟩ := hS.sl; have q1 := hres.cell 0; have q2 := hres.cell 1; have q3 := hres.frozen 0; have q4 := hres.frozen 1; simp at q1 q2; have HR2 := Lib.hid (RM.store (B := w.heap.size) hS.sl (Nat.le_refl _) n0); clear hres; refine ⟨?_⟩; simp only [fillR, Act.put, sA, sB, sC, Nat.zero_add, Nat.reduceAdd, e0] at hK ⊢; go_simp; with_reducible refine hK undef _ HR2.out.1 (hS.stored HR2.out.1) ?_
     exact HR2.out.2
    ·as_aux_lemma =>
     intro vs L W hS hL cl hdep K hK; have d0 := hdep ⟨8, .data⟩ (by simp) rfl; simp only [PhiE] at d0; refine @exE1 _ _ _ d0 ?_; clear d0; intro er0 d0; have e0 := d0.1; have n0 := d0.2; clear d0; refine ⟨?_⟩; simp only [fillR, Act.put, sA, sB, sC, Nat.zero_add, Nat.reduceAdd, e0] at hK ⊢; go_simp; with_reducible refine hK _ _ (RM.refl _) (hS.step (Below.refl _ _) 10) ?_
     exact ⟨_, rfl, n0⟩
   ·intro vs L W hS hall hv; have v9 := hv 9 (by simp); have v10 := hv 10 (by simp); simp only [PhiE] at v9 v10; obtain ⟨er, e10, hErr⟩ := v10; obtain ⟨A9, k9, c9, A9', k9', c9', er', hblk, hP9⟩ := v9; obtain rfl : er = er' := hErr.uniq hP9.err; have hbeW := hS.be; have q1 := hblk.cell 0; have q2 := hblk.cell 1; simp at q1 q2; have HP := Lib.hid hP9; clear hv hErr hS hall q4 q5 hblk hP9; simp only [fillR, Act.put, sA, sB, sC, Nat.zero_add, Nat.reduceAdd, e10]; go_wp2_with fail; exact bodyPost_ret (v := .tuple #[.agg #[.slice A9 k9 c9, .slice A9' k9' c9'], .int .i64 er]) (by simp [results, Try.results43, go_sem, q1, q2]) rfl ⟨_, _, rfl, .inr ⟨n, s, pn, rfl, rfl, HPN.out.1, .inr ⟨a, b, HL.out.1, HL.out.2, ga, HPE0.out, HP.out⟩⟩, hbeW⟩
  ·have h0 : (E != 0) = true := by simpa using hE
   have HE2 := Lib.hid hE; obtain ⟨r1, r2, r3, r4⟩ := hres.facts; obtain ⟨s1, s2⟩ := hres.set2 (.slice none 0 0) (.slice none 0 0); have hbw := below_set2 hbw2 (Nat.le_refl _) (.slice none 0 0) (.slice none 0 0); clear hE; go_wp2_with fail; exact bodyPost_ret (v := .tuple #[nilRat, .int .i64 E]) (by simp [results, Try.results43, go_sem, s1, s2, nilRat]) rfl ⟨_, _, rfl, .inr ⟨n, s, pn, rfl, rfl, HPN.out.1, .inl ⟨E, HE2.out, by rw [HL.out.1, HL.out.2]; exact HE.out, rfl, rfl⟩⟩, hbw⟩
end Go.Proofs.Yticobffjnjbjiaa
namespace Go.Proofs.Yticobffjnjbjiaa
open Go.RowKit
theorem RatOf.to {w : World} {v : Value} {n d a b : Nat} (h : RatOf w v n d) (h1 : n / Nat.gcd n d = a) (h2 : d / Nat.gcd n d = b) : Rat w v a b ∧ Nm.Good a b := by
 obtain ⟨h3, h4⟩ := h; rw [h1, h2] at h3 h4; exact ⟨h3, h4⟩
def pcE (t wh : ByteArray) (site : Int) (b1 b2 : Value) : PC := ⟨0, t, wh, site, b1, b2, 0, 9, .int .u8 0, .int .u8 0, .int .u8 0, .int .u8 0, .int .u8 0, .int .u8 0, .int .u8 0, .int .u8 0, .int .u8 0, .int .u8 0, .int .u8 0, .int .u8 0, .int .u8 0, .int .u8 0, .int .u8 0, .int .u8 0⟩
/-- the promises of the examples -/
def exPs (a a' b b' c c' : Value) : List PC := [pcE ⟨#[116, 48]⟩ ⟨#[112, 48]⟩ 2 a a', pcE ⟨#[116, 48]⟩ ⟨#[112, 48]⟩ 2 b b', pcE ⟨#[116, 49]⟩ ⟨#[116, 49]⟩ 0 c c']
set_option maxRecDepth 100000 in
set_option maxHeartbeats 2000000 in
theorem example_n (w : World) :
  Calls Try.prog 61 #[] w fun e w' => ∃ g a a' b b' c c', e = .returned (.slice (some ⟨g, 0, none⟩) 3 3) ∧ RowS cellsP w' (some ⟨g, 0, none⟩) 3 (exPs a a' b b' c c') ∧ Rat w' (.agg #[a, a']) 1 8 ∧ Rat w' (.agg #[b, b']) 1 2 ∧ Rat w' (.agg #[c, c']) 1 1 ∧ Below w.heap.size w w' := by
 go_enter Try.func61, Try.ntmps61
 go_wp2_with fail; refine (part_n 1 8 _ (by omega) (by omega) (by omega)).mono ?_; rintro e w1 ⟨v1, rfl, hR1, hb1⟩; obtain ⟨A1, k1, c1, A1', k1', c1', rfl⟩ := hR1.1.shape; go_wp2_with fail; refine (part_n 1 2 _ (by omega) (by omega) (by omega)).mono ?_; rintro e w2 ⟨v2, rfl, hR2, hb2⟩; obtain ⟨A2, k2, c2, A2', k2', c2', rfl⟩ := hR2.1.shape; go_wp2_with fail; refine (part_n 1 1 _ (by omega) (by omega) (by omega)).mono ?_; rintro e w3 ⟨v3, rfl, hR3, hb3⟩; obtain ⟨A3, k3, c3, A3', k3', c3', rfl⟩ := hR3.1.shape; go_wp2_with fail; go_ret; have hbA := bA w3 (.cells ((exPs (.slice A1 k1 c1) (.slice A1' k1' c1') (.slice A2 k2 c2) (.slice A2' k2' c2') (.slice A3 k3 c3) (.slice A3' k3' c3')).flatMap cellsP).toArray 53)
 exact ⟨w3.heap.size, .slice A1 k1 c1, .slice A1' k1' c1', .slice A2 k2 c2, .slice A2' k2' c2', .slice A3 k3 c3, .slice A3' k3' c3', rfl, ⟨Rd.fresh w3 53 ((exPs (.slice A1 k1 c1) (.slice A1' k1' c1') (.slice A2 k2 c2) (.slice A2' k2' c2') (.slice A3 k3 c3) (.slice A3' k3' c3')).flatMap cellsP), rfl, by omega⟩,
  (hR1.to (by decide) (by decide)).1.below (Below.tr (Below.tr hb2 hb3) hbA), (hR2.to (by decide) (by decide)).1.below (Below.tr hb3 hbA), (hR3.to (by decide) (by decide)).1.below hbA, Below.tr (Below.tr hb1 (Below.tr hb2 hb3)) hbA⟩
end Go.Proofs.Yticobffjnjbjiaa
namespace Go.Proofs.Yticobffjnjbjiaa
open Go.RowKit
theorem retBI {a b : Bool} (h : a = b) : Ending.returned (.bool a) = .returned (.bool b) := by rw [h]
theorem take_sameI {l1 l2 : List Int} {i : Nat} {a b : Int} (h : l1.take i = l2.take i) (ha : l1[i]? = some a) (hb : l2[i]? = some b) (hab : a = b) : l1.take (i + 1) = l2.take (i + 1) := by
 obtain ⟨h1, e1⟩ := List.getElem?_eq_some_iff.1 ha; obtain ⟨h2, e2⟩ := List.getElem?_eq_some_iff.1 hb; rw [List.take_succ_eq_append_getElem h1, List.take_succ_eq_append_getElem h2, h, e1, e2, hab]
set_option maxRecDepth 10000 in
set_option maxHeartbeats 400000 in
theorem ints_n (A1 A2 : Option Addr) (k1 c1 k2 c2 : Nat) (l1 l2 : List Int) (w : World) (h1 : RowS intC w A1 k1 l1) (h2 : RowS intC w A2 k2 l2) :
  Calls Try.prog 26 #[.slice A1 k1 c1, .slice A2 k2 c2] w fun e w' => e = .returned (.bool (decide (l1 = l2))) ∧ Below w.heap.size w w' := by
 have hkb1 : k1 ≤ 281474976710656 := h1.2.2; have E1 := Lib.hid h1.2.1; have E2 := Lib.hid h2.2.1; obtain ⟨bb, HBB⟩ : ∃ b, Hid (b = decide (l1 = l2)) := ⟨decide (l1 = l2), rfl⟩; rw [← HBB.out]; by_cases hk : k1 = k2
 ·subst hk
  go_enter Try.func26, Try.ntmps26
  go_wp2
  go_loopg [5] k1 (fun j x wr => ∃ i : Nat, x = .int .i64 i ∧ i + j = k1 ∧ Hid (l1.take i = l2.take i) ∧ ∃ nq, wr = w.drewN nq)
  case atStart => exact ⟨0, rfl, by omega, by show _ = _; simp, 0, rfl⟩
  case round =>
   obtain ⟨i, rfl, hij, HT, nq, rfl⟩ := hrel; by_cases hi : i < k1
   ·obtain ⟨b1, o1, a, rfl, hca, HA⟩ := h1.int hi; obtain ⟨b2, o2, b, rfl, hcb, HB⟩ := h2.int hi; by_cases hab : a = b
    ·have HT2 : Hid (l1.take (i + 1) = l2.take (i + 1)) := take_sameI HT.out HA.out HB.out hab; have hd : (a != b) = false := by rw [hab]; simp
     clear hab; go_wp2_with fail
     go_quiet (fail)
     go_wp2_with fail
     go_roundg (gk - 1)
     case measure => omega
     case rel => exact ⟨i + 1, by go_num, by omega, HT2, _, rfl⟩
    ·have hd : (a != b) = true := by simpa using hab
     have HF : Hid (false = bb) := by
      show _ = _; rw [HBB.out]; symm; rw [decide_eq_false_iff_not]
      rintro rfl; have := HA.out; rw [HB.out] at this; injection this with this; exact hab this.symm
     clear hab; go_wp2_with fail
     go_quiet (fail)
     go_wp2_with fail; go_ret; exact ⟨retBI HF.out, Below.tr (below_drewN _ _) (below_drewN _ _)⟩
   ·obtain rfl : k1 = i := by omega
    have HF : Hid (true = bb) := by
     show _ = _; rw [HBB.out]; symm; rw [decide_eq_true_iff]
     have := HT.out
     rwa [List.take_of_length_le (by rw [← E1.out]; omega), List.take_of_length_le (by rw [← E2.out]; omega)] at this
    go_wp2_with fail; go_ret; exact ⟨retBI HF.out, below_drewN _ _⟩
 ·have HF : Hid (false = bb) := by
   show _ = _; rw [HBB.out]; symm; rw [decide_eq_false_iff_not]
   rintro rfl; exact hk (E1.out.trans E2.out.symm)
  have hd : ((k1 : Int) != (k2 : Int)) = true := by simp; omega
  clear hk
  go_enter Try.func26, Try.ntmps26
  go_wp2
  go_ret; exact ⟨retBI HF.out, Below.refl _ _⟩
end Go.Proofs.Yticobffjnjbjiaa
namespace Go.Proofs.Yticobffjnjbjiaa
open Go.RowKit
/- The documented examples: what each call says. -/
theorem pow_small {q k n : Nat} (hq : q ≤ 2 ^ k) (hk : k * n < 2048) : q ^ n < Nm.B ^ 64 := by
 have h1 : q ^ n ≤ (2 ^ k) ^ n := Nat.pow_le_pow_left hq n; rw [← Nat.pow_mul] at h1; obtain ⟨N, hN⟩ : ∃ N, N = 32 * 64 := ⟨_, rfl⟩; have h2 : Nm.B ^ 64 = 2 ^ N := by rw [hN]; exact Nm.B_pow 64
 rw [h2]; exact Nat.lt_of_le_of_lt h1 (Nat.pow_lt_pow_right (by omega) (by omega))
theorem fits_pow {p q k n : Nat} (hp : p ≤ 2 ^ k) (hq : q ≤ 2 ^ k) (hk : k * n < 2048) : Nm.Fits (p ^ n) (q ^ n) := fits_small (pow_small hp hk) (pow_small hq hk)
theorem nstop {p q a b k n : Nat} (hp : p ≤ 2 ^ k) (hq : q ≤ 2 ^ k) (hk : k * n < 2048) (h : a * q ^ n < p ^ n * b) : ¬ Nm.Stop p q a b n := by
 rintro (h1 | h1)
 ·exact h1 (fits_pow hp hq hk)
 ·omega
theorem ret_a : Nm.RetP 1 8 1 100 3 0 := by
 refine .inr (.inr (.inr ⟨by omega, by omega, by omega, 3, by omega, fun m h1 h2 => ?_, .inr ⟨fits_pow (k := 3) (by omega) (by omega) (by omega), by decide, rfl, rfl⟩⟩))
 rcases (show m = 1 ∨ m = 2 by omega) with rfl | rfl
 ·exact nstop (k := 3) (by omega) (by omega) (by omega) (by decide)
 ·exact nstop (k := 3) (by omega) (by omega) (by omega) (by decide)
theorem ret_b : Nm.RetP 1 1 1 2 0 6 := .inr (.inr (.inl ⟨by omega, by omega, .inl rfl, rfl, rfl⟩))
theorem ret_c : Nm.RetP 0 1 0 1 1 0 := .inr (.inr (.inr ⟨by omega, by omega, by omega, 1, by omega, fun m h1 h2 => by omega, .inr ⟨fits_pow (k := 0) (by omega) (by omega) (by omega), by decide, rfl, rfl⟩⟩))
theorem ret_d : Nm.RetP 1 2 1 1 0 0 := .inr (.inl ⟨by omega, by omega, rfl, rfl⟩)
theorem retries_rat (va vb : Value) (p q a b : Nat) (x er : Int) (w : World) (ha : Rat w va p q) (hb : Rat w vb a b) (ga : Nm.Good p q) (gb : Nm.Good a b) (h : Nm.RetP p q a b x er) :
  Calls Try.prog 16 #[va, vb] w fun e w' => e = .returned (.tuple #[.int .i64 x, .int .i64 er]) ∧ Below w.heap.size w w' := by
 refine (retries_any va vb _ _ _ _ w ha.rtl hb.rtl).mono ?_; rintro e w' ⟨y, fr, rfl, HR, hb⟩; obtain ⟨rfl, rfl⟩ := (Nm.RetA.uniq HR.out (.inr ⟨p, q, a, b, rfl, rfl, ga, rfl, rfl, gb, h⟩)); exact ⟨rfl, hb⟩
def rcE (oc : Int) (at_ : ByteArray) (st : Int) : RC0 := ⟨oc, at_, st, .int .i64 0, .int .i64 0, .int .i64 0, .int .u8 0, .int .u8 0, .int .u8 0, .int .u8 0, .int .u8 0, .int .u8 0, .int .u8 0, .int .u8 0, .int .u8 0, .int .u8 0, .int .u8 0, .int .u8 0, .int .u8 0, .int .u8 0, .int .u8 0, .int .u8 0⟩
def tT0 : ByteArray := ⟨#[116, 48]⟩
def tT1 : ByteArray := ⟨#[116, 49]⟩
def tP0 : ByteArray := ⟨#[112, 48]⟩
def rBad : RC0 := rcE 1 tP0 2
def rOther : RC0 := rcE 1 tP0 1
def rPass : RC0 := rcE 0 ⟨#[]⟩ 0
def rStuck : RC0 := rcE 2 tT1 0
theorem rc_one {oc st : Int} {a : ByteArray} : ∀ v ∈ cellsR (rcE oc a st), v.oneCell' = true := by
 intro v hv; simp only [cellsR, rcE, List.mem_cons, List.not_mem_nil, or_false] at hv
 rcases hv with rfl | rfl | rfl | rfl | rfl | rfl | rfl | rfl | rfl | rfl | rfl | rfl | rfl | rfl | rfl | rfl | rfl | rfl | rfl | rfl | rfl | rfl <;> rfl
section
variable {a a' b b' c c' : Value}
theorem cov_ev (n : Nat) (name : ByteArray) (r : RC0) : covAt (exPs a a' b b' c c') name r n = match n with
  | 0 => decide (name.toList = tT0.toList ∧ 0 < r.oc ∧ r.oc < 5 ∧ r.at_.toList = tP0.toList ∧ r.st = 2)
  | 1 => decide (name.toList = tT0.toList ∧ 0 < r.oc ∧ r.oc < 5 ∧ r.at_.toList = tP0.toList ∧ r.st = 2)
  | 2 => decide (name.toList = tT1.toList ∧ 0 < r.oc ∧ r.oc < 5 ∧ r.at_.toList = tT1.toList ∧ r.st = 0)
  | _ => false := by
 rcases n with _ | _ | _ | n <;> rfl
theorem bad_yes : decide (tT0.toList = tT0.toList ∧ 0 < rBad.oc ∧ rBad.oc < 5 ∧ rBad.at_.toList = tP0.toList ∧ rBad.st = 2) = true := by
 rw [decide_eq_true_iff]; exact ⟨rfl, by decide, by decide, rfl, rfl⟩
theorem bad_no : decide (tT0.toList = tT1.toList ∧ 0 < rBad.oc ∧ rBad.oc < 5 ∧ rBad.at_.toList = tT1.toList ∧ rBad.st = 0) = false := by
 rw [decide_eq_false_iff_not]; rintro ⟨_, _, _, _, h⟩; revert h; decide
theorem other_no : decide (tT0.toList = tT0.toList ∧ 0 < rOther.oc ∧ rOther.oc < 5 ∧ rOther.at_.toList = tP0.toList ∧ rOther.st = 2) = false := by
 rw [decide_eq_false_iff_not]; rintro ⟨_, _, _, _, h⟩; revert h; decide
theorem other_no2 : decide (tT0.toList = tT1.toList ∧ 0 < rOther.oc ∧ rOther.oc < 5 ∧ rOther.at_.toList = tT1.toList ∧ rOther.st = 0) = false := by
 rw [decide_eq_false_iff_not]; rintro ⟨_, _, _, _, h⟩; revert h; decide
theorem stuck_no : decide (tT1.toList = tT0.toList ∧ 0 < rStuck.oc ∧ rStuck.oc < 5 ∧ rStuck.at_.toList = tP0.toList ∧ rStuck.st = 2) = false := by
 rw [decide_eq_false_iff_not]; rintro ⟨_, _, _, _, h⟩; revert h; decide
theorem stuck_yes : decide (tT1.toList = tT1.toList ∧ 0 < rStuck.oc ∧ rStuck.oc < 5 ∧ rStuck.at_.toList = tT1.toList ∧ rStuck.st = 0) = true := by
 rw [decide_eq_true_iff]; exact ⟨rfl, by decide, by decide, rfl, rfl⟩
theorem ne_of_f {b : Bool} (h : b = false) : ¬ b = true := by rw [h]; decide
theorem of_bad : ofN [0, 1, 2] (exPs a a' b b' c c') tT0 rBad = 0 := by
 unfold ofN; rw [List.find?_cons_of_pos (by rw [cov_ev]; exact bad_yes)]; rfl
theorem of_bad2 : ofN [1, 0] (exPs a a' b b' c c') tT0 rBad = 1 := by
 unfold ofN; rw [List.find?_cons_of_pos (by rw [cov_ev]; exact bad_yes)]; rfl
theorem of_other : ofN [0, 1, 2] (exPs a a' b b' c c') tT0 rOther = -1 := by
 unfold ofN; rw [List.find?_eq_none.2 (by
  intro n hn; rw [cov_ev]; simp only [List.mem_cons, List.not_mem_nil, or_false] at hn
  rcases hn with rfl | rfl | rfl
  ·exact ne_of_f other_no
  ·exact ne_of_f other_no
  ·exact ne_of_f other_no2)]
theorem of_other2 : ofN [1, 0] (exPs a a' b b' c c') tT0 rOther = -1 := by
 unfold ofN; rw [List.find?_eq_none.2 (by
  intro n hn; rw [cov_ev]; simp only [List.mem_cons, List.not_mem_nil, or_false] at hn
  rcases hn with rfl | rfl
  ·exact ne_of_f other_no
  ·exact ne_of_f other_no)]
theorem of_stuck : ofN [0, 1, 2] (exPs a a' b b' c c') tT1 rStuck = 2 := by
 unfold ofN; rw [List.find?_cons_of_neg (by rw [cov_ev]; exact ne_of_f stuck_no), List.find?_cons_of_neg (by rw [cov_ev]; exact ne_of_f stuck_no), List.find?_cons_of_pos (by rw [cov_ev]; exact stuck_yes)]; rfl
theorem items_ex (l : List Nat) (ps : List PC) : itemsL l ps ([tT0, tT0, tT1].zip [rBad, rOther, rPass]) = [⟨tT0, rBad, ofN l ps tT0 rBad⟩, ⟨tT0, rOther, ofN l ps tT0 rOther⟩] := rfl
theorem pas_ex {l : List Nat} {ps : List PC} {x : Int} (h1 : ofN l ps tT0 rBad = x) (hx : 0 ≤ x) (h2 : ofN l ps tT0 rOther = -1) : pasL l ps ([tT0, tT0, tT1].zip [rBad, rOther, rPass]) = [⟨tT0, rBad, x⟩] ∧ stoL l ps ([tT0, tT0, tT1].zip [rBad, rOther, rPass]) = [⟨tT0, rOther, -1⟩] := by
 unfold pasL stoL; rw [items_ex, h1, h2]
 constructor
 ·rw [List.filter_cons_of_pos (by simpa using hx), List.filter_cons_of_neg (by simp)]; rfl
 ·rw [List.filter_cons_of_neg (by simpa using hx), List.filter_cons_of_pos (by simp)]; rfl
theorem decide_ex (Al A T S : Option Addr) (cl k cA ct cs : Nat) (l : List Int) (x : Int) (w : World) (hp : RowS cellsP w Al 3 (exPs a a' b b' c c')) (hr : RowS intC w A k l) (ht : RowS strC w T 3 [tT0, tT0, tT1]) (hs : RowS cellsR w S 3 [rBad, rOther, rPass])
  (hf : fitE 3 l 3 3 [rBad, rOther, rPass] = 0) (h1 : ofN (l.map Int.toNat) (exPs a a' b b' c c') tT0 rBad = x) (hx : 0 ≤ x) (h2 : ofN (l.map Int.toNat) (exPs a a' b b' c c') tT0 rOther = -1) :
  Calls Try.prog 27 #[.slice Al 3 cl, .slice A k cA, .slice T 3 ct, .slice S 3 cs] w fun e w' => ∃ Ap cp As cs', e = .returned (.tuple #[.agg #[.slice Ap 1 cp, .slice As 1 cs'], .int .i64 0]) ∧ RowS cellsI w' Ap 1 [⟨tT0, rBad, x⟩] ∧ RowS cellsI w' As 1 [⟨tT0, rOther, -1⟩] ∧ Below w.heap.size w w' := by
 have HS : Hid (∀ y ∈ [rBad, rOther, rPass], ∀ v ∈ cellsR y, v.oneCell' = true) := by
  intro y hy; simp only [List.mem_cons, List.not_mem_nil, or_false] at hy
  rcases hy with rfl | rfl | rfl <;> exact rc_one
 refine (decide_n Al A T S 3 cl k cA 3 ct 3 cs l (exPs a a' b b' c c') [tT0, tT0, tT1] [rBad, rOther, rPass] w hp hr ht hs HS (by omega)).mono ?_; rintro e w' ⟨vp, np, vs, ns, er, rfl, HE, hop, hos, hb⟩; obtain rfl : er = 0 := by rw [HE.out]; exact hf
 obtain ⟨e1, e2⟩ := pas_ex h1 hx h2; rw [if_pos rfl, e1] at hop; rw [if_pos rfl, e2] at hos; have n1 : np = 1 := by have := hop.1; simp [cellsI] at this; omega
 have n2 : ns = 1 := by have := hos.1; simp [cellsI] at this; omega
 subst n1 n2; obtain ⟨Ap, cp, rfl, h3⟩ := own_rowS cellsI_len (by omega) (by omega) hop; obtain ⟨As, cs', rfl, h4⟩ := own_rowS cellsI_len (by omega) (by omega) hos; exact ⟨_, _, _, _, rfl, h3, h4, hb⟩
end
end Go.Proofs.Yticobffjnjbjiaa
namespace Go.Proofs.Yticobffjnjbjiaa
open Go.RowKit
section
variable {L : List Nat} {ps : List PC} {bd : Nat → Nat × Nat} {a b p q : Nat} {name : ByteArray} {r : RC0} {rs : List RC0}
theorem tb_go (n pb qb N M : Nat) (h1 : r.oc ≠ 0) (h2 : (n : Int) = ofN L ps name r) (h3 : bd n = (pb, qb)) (hN : p * pb / Nat.gcd (p * pb) (q * qb) = N) (hM : q * qb / Nat.gcd (p * pb) (q * qb) = M) (sN : N < 18446744073709551616) (sM : M < 18446744073709551616)
  (hc : ¬ N * b ≤ a * M) : testB L ps bd a b name (r :: rs) p q = testB L ps bd a b name rs N M := by
 have h := (testB_go (a := a) (b := b) (p := p) (q := q) (rs := rs) h1 h2 h3).2.1; rw [hN, hM] at h; exact h (fits_small (b64 sN) (b64 sM)) hc
theorem tb_stop (n pb qb N M : Nat) (h1 : r.oc ≠ 0) (h2 : (n : Int) = ofN L ps name r) (h3 : bd n = (pb, qb)) (hN : p * pb / Nat.gcd (p * pb) (q * qb) = N) (hM : q * qb / Nat.gcd (p * pb) (q * qb) = M) (sN : N < 18446744073709551616) (sM : M < 18446744073709551616)
  (hc : N * b ≤ a * M) : testB L ps bd a b name (r :: rs) p q = (2, 0) := by
 have h := (testB_go (a := a) (b := b) (p := p) (q := q) (rs := rs) h1 h2 h3).1; rw [hN, hM] at h; exact h (fits_small (b64 sN) (b64 sM)) hc
theorem tb_pass (h : r.oc = 0) : testB L ps bd a b name (r :: rs) p q = (0, 0) := by rw [testB, if_pos h]
end
def bdE (n : Nat) : Nat × Nat := if n = 0 then (1, 8) else if n = 1 then (1, 2) else (1, 1)
section
variable {a a' b b' c c' : Value}
theorem one_1 : oneT [0, 1, 2] (exPs a a' b b' c c') bdE 1 100 (tT0, [rBad, rBad, rBad]) = (2, 0) := by
 unfold oneT
 rw [tb_go 0 1 8 1 8 (by decide) of_bad.symm rfl (by decide) (by decide) (by decide) (by decide) (by decide),
  tb_go 0 1 8 1 64 (by decide) of_bad.symm rfl (by decide) (by decide) (by decide) (by decide) (by decide),
  tb_stop 0 1 8 1 512 (by decide) of_bad.symm rfl (by decide) (by decide) (by decide) (by decide) (by decide)]
theorem one_2 : oneT [0, 1, 2] (exPs a a' b b' c c') bdE 1 100 (tT0, [rBad, rBad]) = (1, 0) := by
 unfold oneT
 rw [tb_go 0 1 8 1 8 (by decide) of_bad.symm rfl (by decide) (by decide) (by decide) (by decide) (by decide),
  tb_go 0 1 8 1 64 (by decide) of_bad.symm rfl (by decide) (by decide) (by decide) (by decide) (by decide)]
 rfl
theorem one_3 : oneT [0, 1, 2] (exPs a a' b b' c c') bdE 1 100 (tT0, [rBad, rBad, rPass]) = (0, 0) := by
 unfold oneT
 rw [tb_go 0 1 8 1 8 (by decide) of_bad.symm rfl (by decide) (by decide) (by decide) (by decide) (by decide),
  tb_go 0 1 8 1 64 (by decide) of_bad.symm rfl (by decide) (by decide) (by decide) (by decide) (by decide),
  tb_pass rfl]
theorem one_4 : oneT [0, 1, 2] (exPs a a' b b' c c') bdE 1 100 (tT1, [rStuck, rStuck, rStuck, rStuck]) = (1, 0) := by
 unfold oneT
 rw [tb_go 2 1 1 1 1 (by decide) of_stuck.symm rfl (by decide) (by decide) (by decide) (by decide) (by decide),
  tb_go 2 1 1 1 1 (by decide) of_stuck.symm rfl (by decide) (by decide) (by decide) (by decide) (by decide),
  tb_go 2 1 1 1 1 (by decide) of_stuck.symm rfl (by decide) (by decide) (by decide) (by decide) (by decide),
  tb_go 2 1 1 1 1 (by decide) of_stuck.symm rfl (by decide) (by decide) (by decide) (by decide) (by decide)]
 rfl
theorem bd_ex {w : World} (h1 : Rat w (.agg #[a, a']) 1 8) (h2 : Rat w (.agg #[b, b']) 1 2) (h3 : Rat w (.agg #[c, c']) 1 1) : Hid (∀ (n : Nat) p, (exPs a a' b b' c c')[n]? = some p → Rat w (.agg #[p.b1, p.b2]) (bdE n).1 (bdE n).2 ∧ Nm.Good (bdE n).1 (bdE n).2) := by
 have g8 : Nm.Good 1 8 := ⟨by omega, rfl, fits_small (b64 (by omega)) (b64 (by omega))⟩; have g2 : Nm.Good 1 2 := ⟨by omega, rfl, fits_small (b64 (by omega)) (b64 (by omega))⟩; intro n p hn
 rcases n with _ | _ | _ | n
 ·injection hn with hn; subst hn; exact ⟨h1, g8⟩
 ·injection hn with hn; subst hn; exact ⟨h2, g2⟩
 ·injection hn with hn; subst hn; exact ⟨h3, Good_one⟩
 ·cases hn
theorem g100 : Nm.Good 1 100 := ⟨by omega, rfl, fits_small (b64 (by omega)) (b64 (by omega))⟩
theorem build_ex (Al A T S A1 A2 A3 A4 : Option Addr) (cl cA ct cs c1 c2 c3 c4 : Nat) (va : Value) (w : World) (hp : RowS cellsP w Al 3 (exPs a a' b b' c c')) (hr : RowS intC w A 3 [0, 1, 2]) (ht : RowS strC w T 4 [tT0, tT0, tT0, tT1])
  (hs : RowS slC w S 4 [⟨A1, 3, c1, [rBad, rBad, rBad]⟩, ⟨A2, 2, c2, [rBad, rBad]⟩, ⟨A3, 3, c3, [rBad, rBad, rPass]⟩, ⟨A4, 4, c4, [rStuck, rStuck, rStuck, rStuck]⟩])
  (s1 : RowS cellsR w A1 3 [rBad, rBad, rBad]) (s2 : RowS cellsR w A2 2 [rBad, rBad]) (s3 : RowS cellsR w A3 3 [rBad, rBad, rPass]) (s4 : RowS cellsR w A4 4 [rStuck, rStuck, rStuck, rStuck])
  (h1 : Rat w (.agg #[a, a']) 1 8) (h2 : Rat w (.agg #[b, b']) 1 2) (h3 : Rat w (.agg #[c, c']) 1 1) (ha : Rat w va 1 100) :
  Calls Try.prog 23 #[.slice Al 3 cl, .slice A 3 cA, .slice T 4 ct, .slice S 4 cs, va] w fun e w' => ∃ Av cv, e = .returned (.tuple #[.slice Av 4 cv, .int .i64 0]) ∧ RowS intC w' Av 4 [2, 1, 0, 1] ∧ Below w.heap.size w w' := by
 have HS : Hid (∀ s ∈ [(⟨A1, 3, c1, [rBad, rBad, rBad]⟩ : SLR), ⟨A2, 2, c2, [rBad, rBad]⟩, ⟨A3, 3, c3, [rBad, rBad, rPass]⟩, ⟨A4, 4, c4, [rStuck, rStuck, rStuck, rStuck]⟩], RowS cellsR w s.A s.k s.rs ∧ ∀ x ∈ s.rs, ∀ v ∈ cellsR x, v.oneCell' = true) := by
  intro s hs; simp only [List.mem_cons, List.not_mem_nil, or_false] at hs
  rcases hs with rfl | rfl | rfl | rfl
  ·refine ⟨s1, fun x hx => ?_⟩; simp only [List.mem_cons, List.not_mem_nil, or_false, or_self] at hx; subst hx; exact rc_one
  ·refine ⟨s2, fun x hx => ?_⟩; simp only [List.mem_cons, List.not_mem_nil, or_false, or_self] at hx; subst hx; exact rc_one
  ·refine ⟨s3, fun x hx => ?_⟩; simp only [List.mem_cons, List.not_mem_nil, or_false] at hx
   rcases hx with rfl | rfl | rfl <;> exact rc_one
  ·refine ⟨s4, fun x hx => ?_⟩; simp only [List.mem_cons, List.not_mem_nil, or_false, or_self] at hx; subst hx; exact rc_one
 refine (build_n Al A T S 3 cl 3 cA 4 ct 4 cs [0, 1, 2] (exPs a a' b b' c c') bdE [tT0, tT0, tT0, tT1] _ va (Nm.lb 1) (Nm.lb (Nm.dn 100)) w hp hr ht hs HS (show (12 : Nat) ≤ 1073741824 by omega) (by omega) (bd_ex h1 h2 h3) ha.rtl).mono ?_; rintro e w' ⟨v, er, codes, rfl, HP, hown, hb⟩
 have hfin : er = 0 ∧ codes = [2, 1, 0, 1] := by
  rcases HP.out with ⟨h, _⟩ | ⟨_, h, _⟩ | ⟨_, x, y, e1, e2, gx, e3, e4⟩
  ·exact absurd (show fitE 3 [0, 1, 2] 4 4 [rBad, rBad, rBad, rBad, rBad, rBad, rBad, rPass, rStuck, rStuck, rStuck, rStuck] = 0 by decide) h
  ·exact absurd (Nm.validE_of g100) h
  ·obtain rfl : 1 = x := Nm.lb_inj e1; obtain rfl : 100 = y := Nm.dn_inj (by omega) gx.pos (Nm.lb_inj e2); have hl : ([0, 1, 2] : List Int).map Int.toNat = [0, 1, 2] := rfl; rw [hl] at e3 e4
   have hz : buildE [0, 1, 2] (exPs a a' b b' c c') bdE 1 100 ([tT0, tT0, tT0, tT1].zip ([(⟨A1, 3, c1, [rBad, rBad, rBad]⟩ : SLR), ⟨A2, 2, c2, [rBad, rBad]⟩, ⟨A3, 3, c3, [rBad, rBad, rPass]⟩, ⟨A4, 4, c4, [rStuck, rStuck, rStuck, rStuck]⟩].map (·.rs))) = 0 := by
    refine buildE_none fun x hx => ?_
    simp only [List.map_cons, List.map_nil, List.zip_cons_cons, List.zip_nil_right, List.mem_cons, List.not_mem_nil, or_false] at hx
    rcases hx with rfl | rfl | rfl | rfl
    ·rw [one_1]
    ·rw [one_2]
    ·rw [one_3]
    ·rw [one_4]
   rw [hz] at e3; refine ⟨e3, ?_⟩; rw [if_pos e3] at e4; rw [e4]; simp only [List.map_cons, List.map_nil, List.zip_cons_cons, List.zip_nil_right, one_1, one_2, one_3, one_4]
 obtain ⟨rfl, rfl⟩ := hfin; obtain ⟨Av, cv, rfl, h4⟩ := own_rowS (l := [2, 1, 0, 1]) intC_len (by omega) (by decide) hown; exact ⟨_, _, rfl, h4, hb⟩
theorem lf_ex {w : World} (h1 : Rat w (.agg #[a, a']) 1 8) (h2 : Rat w (.agg #[b, b']) 1 2) (h3 : Rat w (.agg #[c, c']) 1 1) : Hid (∀ (n : Nat) p, (exPs a a' b b' c c')[n]? = some p → RtL w (.agg #[p.b1, p.b2]) (Nm.lb (bdE n).1, Nm.lb (Nm.dn (bdE n).2)).1 (Nm.lb (bdE n).1, Nm.lb (Nm.dn (bdE n).2)).2 ∧ p.test.size ≤ 9223372036854775807 ∧ p.wh.size ≤ 9223372036854775807) := by
 intro n p hn
 rcases n with _ | _ | _ | n
 ·injection hn with hn; subst hn; exact ⟨h1.rtl, show (2 : Nat) ≤ _ by omega, show (2 : Nat) ≤ _ by omega⟩
 ·injection hn with hn; subst hn; exact ⟨h2.rtl, show (2 : Nat) ≤ _ by omega, show (2 : Nat) ≤ _ by omega⟩
 ·injection hn with hn; subst hn; exact ⟨h3.rtl, show (2 : Nat) ≤ _ by omega, show (2 : Nat) ≤ _ by omega⟩
 ·cases hn
theorem pe_ex : pE 1 8 (pcE tT0 tP0 2 a a') = 0 := by
 refine (pE_ok ?_).symm; have e1 : wordB tT0 = true := by decide
 have e2 : wordB tP0 = true := by decide
 have e3 : tP0.toList.isEmpty = false := by rw [ByteArray.toList_eq]; rfl
 unfold pBad; simp only [pcE, e1, e2, e3]; simp
theorem esc_ex (Al : Option Addr) (cl : Nat) (w : World) (hp : RowS cellsP w Al 3 (exPs a a' b b' c c')) (h1 : Rat w (.agg #[a, a']) 1 8) (h2 : Rat w (.agg #[b, b']) 1 2) (h3 : Rat w (.agg #[c, c']) 1 1) :
  Calls Try.prog 43 #[.slice Al 3 cl, .int .i64 0, .int .i64 20] w fun e w' => ∃ v, e = .returned (.tuple #[v, .int .i64 0]) ∧ Rat w' v 5 2 ∧ Below w.heap.size w w' := by
 refine (escapes_n Al 3 cl 0 20 (exPs a a' b b' c c') (fun n => (Nm.lb (bdE n).1, Nm.lb (Nm.dn (bdE n).2))) w hp (by omega) (lf_ex h1 h2 h3)).mono ?_; rintro e w' ⟨v, er, rfl, HE, hb⟩
 have hfin : er = 0 ∧ Rat w' v 5 2 := by
  rcases HE.out with ⟨h, _⟩ | ⟨n, s, p, e1, e2, e3, h⟩
  ·omega
  ·obtain rfl : n = 0 := by omega
   obtain rfl : s = 20 := by omega
   injection e3 with e3; subst e3
   rcases h with ⟨E, hE, hP, _⟩ | ⟨x, y, f1, f2, g, f3, hR⟩
   ·exfalso
    rcases hP with ⟨h, _⟩ | ⟨x, y, f1, f2, g, f3⟩
    ·exact h (Nm.validE_of ⟨by decide, rfl, fits_small (b64 (by decide)) (b64 (by decide))⟩)
    ·obtain rfl : 1 = x := Nm.lb_inj f1; obtain rfl : 8 = y := Nm.dn_inj (by omega) g.pos (Nm.lb_inj f2); exact hE (f3.trans pe_ex)
   ·obtain rfl : 1 = x := Nm.lb_inj f1; obtain rfl : 8 = y := Nm.dn_inj (by omega) g.pos (Nm.lb_inj f2); obtain ⟨e0, h5, _⟩ := hR.small (by omega) (b64 (by omega)) (b64 (by omega)); exact ⟨e0, h5⟩
 obtain ⟨rfl, hR⟩ := hfin; exact ⟨v, rfl, hR, hb⟩
end
end Go.Proofs.Yticobffjnjbjiaa
