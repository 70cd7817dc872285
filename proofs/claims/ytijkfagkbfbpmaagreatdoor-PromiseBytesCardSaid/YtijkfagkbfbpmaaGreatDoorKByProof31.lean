import Derived.Test.YtijkfagkbfbpmaaGreatDoorKByProof30
import Derived.Test.YtijkfagkbfbpmaaGreatDoorKByProof19
import Derived.Lib.AppendStr
import Derived.Test.YtijkfagkbfbpmaaGreatDoorS0
set_option linter.unusedVariables false
set_option linter.unusedSimpArgs false
namespace Go.Proofs.YtijkfagkbfbpmaaGreatDoor
open Go Go.RowKit
theorem txB_toList (l : List Nat) : (txB l).data.toList = l.map UInt8.ofNat := by simp [txB]
theorem strC_txB {l : List Nat} (hl : ∀ x ∈ l, x < 256) : Lib.strCells (txB l) = l.flatMap u8C := by
 unfold Lib.strCells; rw [txB_toList]
 induction l with
 | nil => rfl
 | cons x q ih =>
  rw [List.map_cons, List.map_cons, List.flatMap_cons, ih (fun y hy => hl y (by simp [hy]))]; have hx := hl x (by simp); have e : (UInt8.ofNat x).toNat = x := by simp [Nat.mod_eq_of_lt hx]
  rw [e]; rfl
/-- what Bytes says -/
def encB (l : List Nat) : List Nat := Wi.encI (l.length : Nat) ++ l
theorem encB_lt {l : List Nat} (hl : ∀ x ∈ l, x < 256) (hn : l.length ≤ 67108864) : ∀ x ∈ encB l, x < 256 := by
 intro x hx; unfold encB at hx; rw [List.mem_append] at hx
 rcases hx with hx | hx
 ·exact Wi.encI_lt (by omega) (by omega) x hx
 ·exact hl x hx
theorem encB_len {l : List Nat} (hn : l.length ≤ 67108864) : (encB l).length ≤ l.length + 9 := by
 unfold encB; rw [List.length_append]; have := Wi.encI_len (n := (l.length : Nat)) (by omega) (by omega); omega
theorem encB_pos (l : List Nat) (hn : l.length ≤ 67108864) : 0 < (encB l).length := by
 unfold encB; rw [List.length_append]; have : 0 < (Wi.encI (l.length : Nat)).length := by unfold Wi.encI Wi.encK; simp
 omega
set_option maxRecDepth 100000 in
theorem conv_str (l : List Nat) (w : World) (hl : ∀ x ∈ l, x < 256) (hn : l.length ≤ 1073741824) : ∃ c w', (convert 9 72 (.string (txB l))).run Tryz.prog w = .ok (.slice (some ⟨w.heap.size, 0, none⟩) l.length c) w' ∧ By w' (some ⟨w.heap.size, 0, none⟩) l.length c l ∧ Below w.heap.size w w' := by
 have hr := run_bytes_of_string (P := Tryz.prog) w 9 72 5 (txB l) Tryz.underlying9 Tryz.underlying72 Tryz.underlying5; rw [txB_size] at hr; have hge := grownCap_ge w l.length 0 5; have hle := grownCap_le_maxLen w l.length 0 5 (by unfold maxLen; omega); generalize grownCap w l.length 0 5 = c at hr hge hle; refine ⟨c, _, hr, ⟨⟨?_, rfl, by omega⟩, hge, by unfold maxLen at hle; omega, hl, fun _ => ⟨_, _, rfl⟩⟩, Below.tr (bD _) (bA _ _)⟩; intro _; refine ⟨_, 0, rfl, fun i hi => ?_⟩; have hi2 : i < l.length := by rw [flat_u8] at hi; exact hi
 rw [Nat.zero_add]; have hh : (w.drew.alloc (.cells (bytesRow (txB l) c) 5 ((bytesRow (txB l) c).size, (bytesRow (txB l) c).size + 1))).heap[w.heap.size]? = some (.cells (bytesRow (txB l) c) 5 ((bytesRow (txB l) c).size, (bytesRow (txB l) c).size + 1)) := heap_alloc_new w.drew _; rw [cell_of_row _ w.heap.size i _ _ _ hh, bytesRow_at _ _ _ (by have := txB_size l; rw [← ByteArray.size_data] at this; omega)]; have hg := flat_get u8C_len l i 0 hi2 (.int .u8 (l[i] : Nat)) rfl; rw [Nat.mul_one, Nat.add_zero, List.getElem?_eq_getElem hi] at hg; rw [hg]
 congr 2
 have hx := hl l[i] (List.getElem_mem _); simp [txB, Nat.mod_eq_of_lt hx]
set_option maxRecDepth 100000 in
set_option maxHeartbeats 4000000 in
theorem wbytes_n (l : List Nat) (w : World) (hl : ∀ x ∈ l, x < 256) (hn : l.length ≤ 67108864) :
  Calls Tryz.prog 69 #[.string (txB l)] w fun e w' => ∃ v, e = .returned v ∧ OwnB w' w.heap.size v (encB l) ∧ Below w.heap.size w w' := by
 obtain ⟨iR, hiR, hzR, hsR, hbR⟩ := info_parts info_u8; have hsz := txB_size l
 go_enter Tryz.func69, Tryz.ntmps69
 go_wp2_with fail; refine (wint_n (l.length : Nat) _ (by omega) (by omega)).mono ?_; rintro e w1 ⟨v, rfl, hown, hb1⟩; have hE := Wi.encI_len (n := (l.length : Nat)) (by omega) (by omega); have hbs := hb1.size; have hszL := Lib.hid hsz; clear hsz
 go_wp2_with (first | (at_builtin; go_loud (refine Lib.wpList_append_own_string w1 rfl (.tmp 5) (.tmp 6) 72 9 rfl w.heap.size 5 iR Tryz.underlying72 Tryz.underlying9 hiR hzR hsR hbR v _ _ rfl hown.1 (txB l) rfl (by rw [hszL.out]; simp only [maxLen]; omega) (by rw [hszL.out]; omega) hbs ?_); intro v4 w4 hown4 hg4 hat4))
 go_ret; refine ⟨v4, rfl, ⟨?_, encB_lt hl hn⟩, hb1.grown hg4 hbs hown.ge⟩; rw [strC_txB hl, hszL.out] at hown4; unfold encB; rw [List.length_append, List.flatMap_append]; exact hown4
set_option maxRecDepth 100000 in
set_option maxHeartbeats 4000000 in
theorem rbytes_n (l : List Nat) (w : World) (hl : ∀ x ∈ l, x < 256) (hn : l.length ≤ 67108864) :
  Calls Tryz.prog 119 #[.string (txB l)] w fun e w' => ∃ v, e = .returned v ∧ OwnB w' w.heap.size v (encB l) ∧ Below w.heap.size w w' := by
 have hsz := txB_size l
 go_enter Tryz.func119, Tryz.ntmps119
 go_wp2_with fail; refine (rint_n (l.length : Nat) _ (by omega) (by omega)).mono ?_; rintro e w1 ⟨v, rfl, hown, hb1⟩; obtain ⟨c, w2, hcv, hby, hb2⟩ := conv_str l w1 hl (by omega); have hE := Wi.encI_len (n := (l.length : Nat)) (by omega) (by omega); have hown2 := hown.below hb2; have hb12 := Below.tr hb1 hb2; have hbs := hb12.size; have hl30 : (Wi.encI (l.length : Nat)).length + l.length ≤ 1073741824 := by omega
 clear hsz
 go_wp2_with (first | (at_builtin; go_loud (refine wpList_appB rfl (.tmp 5) (.tmp 7) rfl w.heap.size v (Wi.encI (l.length : Nat)) rfl hown2 (some ⟨w1.heap.size, 0, none⟩) l.length c l rfl hby hl30 hbs ?_); intro v4 w4 hown4 hg4 hat4))
 go_ret; exact ⟨v4, rfl, hown4, hb12.grown hg4 hbs hown2.ge⟩
end Go.Proofs.YtijkfagkbfbpmaaGreatDoor
namespace Go.Proofs.YtijkfagkbfbpmaaGreatDoor
open Go Go.RowKit
/-- what Strings says -/
def encSs (X : List (List Nat)) : List Nat := Wi.encI (X.length : Nat) ++ X.flatMap encB
theorem take_succB {α : Type} {X : List α} {i : Nat} {x : α} (h : X[i]? = some x) : X.take (i + 1) = X.take i ++ [x] := by rw [List.take_add_one, h]; rfl
theorem encSs_len (X : List (List Nat)) (h : ∀ x ∈ X, x.length ≤ 100000) : (X.flatMap encB).length ≤ 100009 * X.length := by
 induction X with
 | nil => simp
 | cons x q ih =>
  rw [List.flatMap_cons, List.length_append, List.length_cons]; have h1 := encB_len (l := x) (by have := h x (by simp); omega); have h2 := ih (fun y hy => h y (by simp [hy])); have h3 := h x (by simp); omega
set_option maxRecDepth 100000 in
set_option maxHeartbeats 4000000 in
theorem rstrings_n (A : Option Addr) (k c : Nat) (X : List (List Nat)) (w : World) (h : RowS strC w A k (X.map txB)) (hr : ∀ x ∈ X, x.length ≤ 100000 ∧ ∀ y ∈ x, y < 256) (hk : k ≤ 1000) :
  Calls Tryz.prog 71 #[.slice A k c] w fun e w' => ∃ v, e = .returned v ∧ OwnB w' w.heap.size v (encSs X) ∧ Below w.heap.size w w' := by
 have HLEN : Hid (k = X.length) := by have := h.2.1; rw [List.length_map] at this; exact this
 have HR := Lib.hid hr; clear hr; have hkm : -9223372036854775808 ≤ (k : Int) := by omega
 have hkM : (k : Int) ≤ 9223372036854775807 := by omega
 go_enter Tryz.func71, Tryz.ntmps71
 go_wp2_with fail; refine (rint_n (k : Int) _ hkm hkM).mono ?_; rintro e w1 ⟨v0, rfl, ho0, hb0⟩; obtain ⟨A0, c0, rfl⟩ := ho0.shp; obtain ⟨L, HL⟩ : ∃ L, Hid (L = Wi.encI (k : Int)) := ⟨_, rfl⟩; have hL9 : L.length ≤ 9 := by rw [HL.out]; exact Wi.encI_len hkm hkM
 rw [← HL.out] at ho0 ⊢; clear hkm hkM; go_wp2_with fail
 go_loopg [3, 4] k (fun j v x wr => ∃ (i : Nat) (P : List Nat), x = .int .i64 i ∧ i + j = k ∧ Hid (P = L ++ (X.take i).flatMap encB) ∧ OwnB wr w.heap.size v P ∧ Below w.heap.size w wr)
 case atStart => exact ⟨0, L, rfl, by omega, (by show _ = _; simp), ho0, hb0⟩
 case round =>
  obtain ⟨G, hG⟩ : ∃ G, G = gk := ⟨gk, rfl⟩; subst hG; clear ho0 hb0; obtain ⟨i, P, rfl, hij, HP, hown, hbe⟩ := hrel; by_cases hi : i < k
  ·have t1 : decide ((i : Int) < (k : Int)) = true := by simp; omega
   have hik : (i : Int) < (k : Int) := by omega
   obtain ⟨b, o, s0, rfl, hc, HX0⟩ := (h.below hbe).str hi; have hiX : i < X.length := by have := HLEN.out; omega
   obtain ⟨x, Hx⟩ : ∃ x, Hid (X[i]? = some x) := ⟨X[i], List.getElem?_eq_getElem hiX⟩
   obtain rfl : s0 = txB x := by
    have h2 : (X.map txB)[i]? = some s0 := HX0; rw [List.getElem?_map, Hx.out] at h2; injection h2 with h2; exact h2.symm
   obtain ⟨x1, x2⟩ := HR.out x (List.mem_of_getElem? Hx.out); obtain ⟨Z, HZ⟩ : ∃ Z, Hid (Z = encB x) := ⟨_, rfl⟩
   have HX2 : Hid (P ++ Z = L ++ (X.take (i + 1)).flatMap encB) := by
    show _ = _
    rw [HP.out, HZ.out, take_succB Hx.out, List.flatMap_append, List.append_assoc]; simp
   have hlZ : Z.length ≤ 100009 := by rw [HZ.out]; have := encB_len (l := x) (by omega); omega
   have hlT : P.length ≤ 9 + 100009 * k := by
    rw [HP.out, List.length_append]; have := encSs_len (X.take i) fun y hy => (HR.out y (List.mem_of_mem_take hy)).1
    rw [List.length_take] at this; have : 100009 * min i X.length ≤ 100009 * k := Nat.mul_le_mul_left _ (by omega); omega
   have hlT2 : P.length ≤ 100009009 := by omega
   clear hlT; obtain ⟨A3, c3, rfl⟩ := hown.shp; go_wp2_with fail; refine (rbytes_n x _ x2 (by omega)).mono ?_; rintro e w2 ⟨v1, rfl, ho1, hb1⟩; rw [← HZ.out] at ho1; obtain ⟨A1, c1, rfl⟩ := ho1.shp; have hby := ho1.by_ (by omega); have hown2 := hown.below hb1; have hbx := Below.tr hbe hb1; have hsz := hbx.size; have hl : P.length + Z.length ≤ 1073741824 := by omega
   clear hown hbe hb1 ho1
   go_wp2_with (first | (at_builtin; go_loud (refine wpList_appB rfl (.tmp 14) (.tmp 19) rfl w.heap.size (.slice A3 P.length c3) _ rfl hown2 A1 Z.length c1 _ rfl hby hl hsz ?_); intro v7 w7 hown7 hg7 _))
   have hbz := hbx.grown hg7 hsz (fun q hq => hown2.ge q hq); clear hown2 hbx hg7
   go_roundg (G - 1)
   case measure => omega
   case rel => exact ⟨i + 1, P ++ Z, by go_num, by omega, HX2, hown7, hbz⟩
  ·have t1 : decide ((i : Int) < (k : Int)) = false := by simp; omega
   obtain ⟨A3, c3, rfl⟩ := hown.shp; go_wp2_with fail; go_ret; refine ⟨_, rfl, ?_, hbe⟩; unfold encSs; rw [HP.out, List.take_of_length_le (by have := HLEN.out; omega), HL.out] at hown; rw [← HLEN.out]; have h := hown; rw [HP.out, List.take_of_length_le (by have := HLEN.out; omega), HL.out]; exact h
set_option maxRecDepth 100000 in
set_option maxHeartbeats 4000000 in
theorem wstrings_n (A : Option Addr) (k c : Nat) (X : List (List Nat)) (w : World) (h : RowS strC w A k (X.map txB)) (hr : ∀ x ∈ X, x.length ≤ 100000 ∧ ∀ y ∈ x, y < 256) (hk : k ≤ 1000) :
  Calls Tryz.prog 37 #[.slice A k c] w fun e w' => ∃ v, e = .returned v ∧ OwnB w' w.heap.size v (encSs X) ∧ Below w.heap.size w w' := by
 have HLEN : Hid (k = X.length) := by have := h.2.1; rw [List.length_map] at this; exact this
 have HR := Lib.hid hr; clear hr; have hkm : -9223372036854775808 ≤ (k : Int) := by omega
 have hkM : (k : Int) ≤ 9223372036854775807 := by omega
 go_enter Tryz.func37, Tryz.ntmps37
 go_wp2_with fail; refine (wint_n (k : Int) _ hkm hkM).mono ?_; rintro e w1 ⟨v0, rfl, ho0, hb0⟩; obtain ⟨A0, c0, rfl⟩ := ho0.shp; obtain ⟨L, HL⟩ : ∃ L, Hid (L = Wi.encI (k : Int)) := ⟨_, rfl⟩; have hL9 : L.length ≤ 9 := by rw [HL.out]; exact Wi.encI_len hkm hkM
 rw [← HL.out] at ho0 ⊢; clear hkm hkM; go_wp2_with fail
 go_loopg [3, 11] k (fun j v x wr => ∃ (i : Nat) (P : List Nat), x = .int .i64 i ∧ i + j = k ∧ Hid (P = L ++ (X.take i).flatMap encB) ∧ OwnB wr w.heap.size v P ∧ Below w.heap.size w wr)
 case atStart => exact ⟨0, L, rfl, by omega, (by show _ = _; simp), ho0, hb0⟩
 case round =>
  obtain ⟨G, hG⟩ : ∃ G, G = gk := ⟨gk, rfl⟩; subst hG; clear ho0 hb0; obtain ⟨i, P, rfl, hij, HP, hown, hbe⟩ := hrel; by_cases hi : i < k
  ·have t1 : decide ((i : Int) < (k : Int)) = true := by simp; omega
   have hik : (i : Int) < (k : Int) := by omega
   obtain ⟨b, o, s0, rfl, hc, HX0⟩ := (h.below hbe).str hi; have hiX : i < X.length := by have := HLEN.out; omega
   obtain ⟨x, Hx⟩ : ∃ x, Hid (X[i]? = some x) := ⟨X[i], List.getElem?_eq_getElem hiX⟩
   obtain rfl : s0 = txB x := by
    have h2 : (X.map txB)[i]? = some s0 := HX0; rw [List.getElem?_map, Hx.out] at h2; injection h2 with h2; exact h2.symm
   obtain ⟨x1, x2⟩ := HR.out x (List.mem_of_getElem? Hx.out); obtain ⟨Z, HZ⟩ : ∃ Z, Hid (Z = encB x) := ⟨_, rfl⟩
   have HX2 : Hid (P ++ Z = L ++ (X.take (i + 1)).flatMap encB) := by
    show _ = _
    rw [HP.out, HZ.out, take_succB Hx.out, List.flatMap_append, List.append_assoc]; simp
   have hlZ : Z.length ≤ 100009 := by rw [HZ.out]; have := encB_len (l := x) (by omega); omega
   have hlT : P.length ≤ 9 + 100009 * k := by
    rw [HP.out, List.length_append]; have := encSs_len (X.take i) fun y hy => (HR.out y (List.mem_of_mem_take hy)).1
    rw [List.length_take] at this; have : 100009 * min i X.length ≤ 100009 * k := Nat.mul_le_mul_left _ (by omega); omega
   have hlT2 : P.length ≤ 100009009 := by omega
   clear hlT; obtain ⟨A3, c3, rfl⟩ := hown.shp; go_wp2_with fail; refine (wbytes_n x _ x2 (by omega)).mono ?_; rintro e w2 ⟨v1, rfl, ho1, hb1⟩; rw [← HZ.out] at ho1; obtain ⟨A1, c1, rfl⟩ := ho1.shp; have hby := ho1.by_ (by omega); have hown2 := hown.below hb1; have hbx := Below.tr hbe hb1; have hsz := hbx.size; have hl : P.length + Z.length ≤ 1073741824 := by omega
   clear hown hbe hb1 ho1
   go_wp2_with (first | (at_builtin; go_loud (refine wpList_appB rfl (.tmp 15) (.tmp 17) rfl w.heap.size (.slice A3 P.length c3) _ rfl hown2 A1 Z.length c1 _ rfl hby hl hsz ?_); intro v7 w7 hown7 hg7 _))
   have hbz := hbx.grown hg7 hsz (fun q hq => hown2.ge q hq); clear hown2 hbx hg7
   go_roundg (G - 1)
   case measure => omega
   case rel => exact ⟨i + 1, P ++ Z, by go_num, by omega, HX2, hown7, hbz⟩
  ·have t1 : decide ((i : Int) < (k : Int)) = false := by simp; omega
   obtain ⟨A3, c3, rfl⟩ := hown.shp; go_wp2_with fail; go_ret; refine ⟨_, rfl, ?_, hbe⟩; unfold encSs; rw [HP.out, List.take_of_length_le (by have := HLEN.out; omega), HL.out] at hown; rw [← HLEN.out]; have h := hown; rw [HP.out, List.take_of_length_le (by have := HLEN.out; omega), HL.out]; exact h
end Go.Proofs.YtijkfagkbfbpmaaGreatDoor
