import Derived.Test.YtmbfjmilhfmnkaaGreatDoorKFrmProof02
import Derived.Test.YtmbfjmilhfmnkaaGreatDoorKFrmProof03
import Derived.Test.YtmbfjmilhfmnkaaGreatDoorKRdsProof15
import Derived.Test.YtmbfjmilhfmnkaaGreatDoorKRdsProof37
import Derived.Test.YtmbfjmilhfmnkaaGreatDoorKRdsProof17
import Derived.Test.YtmbfjmilhfmnkaaGreatDoorS0
set_option linter.unusedVariables false
set_option linter.unusedSimpArgs false
namespace Go.Proofs.YtmbfjmilhfmnkaaGreatDoor
open Go Go.RowKit
/- decoding what was encoded -/
theorem getN_enc (b rest : List Nat) : ∀ (X : List Int) (at_ : Nat) (acc : List Int), (∀ x ∈ X, -9223372036854775808 ≤ x ∧ x ≤ 9223372036854775807) → b.drop at_ = X.flatMap Wi.encI ++ rest → Wi.getN b X.length at_ acc = (acc ++ X, at_ + (X.flatMap Wi.encI).length, 0)
 | [], at_, acc, _, _ => by
  rw [List.length_nil, getN_zero]; simp
 | x :: X, at_, acc, hr, hb => by
  obtain ⟨h1, h2⟩ := hr x (List.mem_cons_self ..); rw [List.flatMap_cons, List.append_assoc] at hb; have hg := Wi.getI_enc h1 h2 (X.flatMap Wi.encI ++ rest); rw [← hb] at hg; rw [List.length_cons, getN_ok hg]
  have hd : b.drop (at_ + (Wi.encI x).length) = X.flatMap Wi.encI ++ rest := by
   rw [← List.drop_drop, hb]; exact List.drop_left' rfl
  rw [getN_enc b rest X _ _ (fun y hy => hr y (List.mem_cons_of_mem _ hy)) hd, List.append_assoc, List.flatMap_cons, List.length_append]; simp only [List.cons_append, List.nil_append, Nat.add_assoc]
theorem encI_pos (x : Int) : 1 ≤ (Wi.encI x).length := by
 unfold Wi.encI Wi.encK; simp
theorem enc_len1 (X : List Int) : X.length ≤ (X.flatMap Wi.encI).length := by
 induction X with
 | nil => simp
 | cons x X ih =>
  have := encI_pos x; rw [List.flatMap_cons, List.length_append, List.length_cons]; omega
theorem getIs_enc (X : List Int) (rest : List Nat) (hr : ∀ x ∈ X, -9223372036854775808 ≤ x ∧ x ≤ 9223372036854775807) (hl : X.length ≤ 9223372036854775807) : Wi.getIs (Wi.encIs X ++ rest) = (X, (Wi.encIs X).length, 0) := by
 have hg : Wi.getI (Wi.encIs X ++ rest) = ((X.length : Int), (Wi.encI (X.length : Int)).length, 0) := by
  unfold Wi.encIs; rw [List.append_assoc]; exact Wi.getI_enc (by omega) (by omega) _
 have hc : Wi.cntE (Wi.encIs X ++ rest) = 0 := by
  unfold Wi.cntE; rw [hg]; have h1 := enc_len1 X
  have h2 : (Wi.encIs X ++ rest).length = (Wi.encI (X.length : Int)).length + (X.flatMap Wi.encI).length + rest.length := by
   unfold Wi.encIs; rw [List.length_append, List.length_append]
  simp only; rw [if_neg (by simp), if_neg (by omega), if_neg (by omega)]
 rw [getIs_ok hc, hg]
 have hd : (Wi.encIs X ++ rest).drop (Wi.encI (X.length : Int)).length = X.flatMap Wi.encI ++ rest := by
  unfold Wi.encIs; rw [List.append_assoc]; exact List.drop_left' rfl
 have := getN_enc (Wi.encIs X ++ rest) rest X (Wi.encI (X.length : Int)).length [] hr hd; simp only [Int.toNat_natCast]; rw [this, List.nil_append]; unfold Wi.encIs; rw [List.length_append]
theorem limX_cast {l : List Nat} (h : ∀ x ∈ l, x < Nm.B) : limX (castI l) = l := by
 unfold limX castI; rw [List.map_map]
 have : ∀ x ∈ l, (u32N ∘ fun x : Nat => (x : Int)) x = x := by
  intro x hx; have := h x hx; unfold Nm.B at this; simp only [Function.comp, u32N]; omega
 calc l.map _ = l.map id := List.map_congr_left this
  _ = l := List.map_id l
theorem limE_cast {l : List Nat} (h : ∀ x ∈ l, x < Nm.B) : limE (castI l) = true := by
 unfold limE castI; rw [List.all_eq_true]; intro y hy; obtain ⟨x, hx, rfl⟩ := List.mem_map.1 hy; have := h x hx; unfold Nm.B at this; unfold inR; simp only [Bool.and_eq_true, decide_eq_true_eq]; omega
theorem castI_bd {l : List Nat} (h : ∀ x ∈ l, x < Nm.B) : ∀ x ∈ castI l, -9223372036854775808 ≤ x ∧ x ≤ 9223372036854775807 := by
 intro x hx; unfold castI at hx; obtain ⟨y, hy, rfl⟩ := List.mem_map.1 hx; have := h y hy; unfold Nm.B at this; omega
/-- Decode leads Encode back -/
theorem decF_enc {l1 l2 rest : List Nat} (h1 : ∀ x ∈ l1, x < Nm.B) (h2 : ∀ x ∈ l2, x < Nm.B) (k1 : l1.length ≤ 1048576) (k2 : l2.length ≤ 1048576) (hv : validP (l1, l2) = 0) :
  decF ((Wi.encIs (castI l1) ++ Wi.encIs (castI l2)) ++ rest) = ((l1, l2), (Wi.encIs (castI l1) ++ Wi.encIs (castI l2)).length, 0) := by
 have g1 := getIs_enc (castI l1) (Wi.encIs (castI l2) ++ rest) (castI_bd h1) (by rw [castI_len]; omega); have g2 := getIs_enc (castI l2) rest (castI_bd h2) (by rw [castI_len]; omega); rw [← List.append_assoc] at g1
 have hd : ((Wi.encIs (castI l1) ++ Wi.encIs (castI l2)) ++ rest).drop (Wi.encIs (castI l1)).length = Wi.encIs (castI l2) ++ rest := by
  rw [List.append_assoc]; exact List.drop_left' rfl
 rw [← hd] at g2; have := decF_4 g1 g2 (by rw [limE_cast h1, limE_cast h2, limX_cast h1, limX_cast h2]; simp [hv]); rw [this, limX_cast h1, limX_cast h2, List.length_append]
/- parsing what was printed -/
theorem decD_all : ∀ n : Nat, (∀ d ∈ Nm.decD n, d < 10) ∧ (Nm.decD n).foldl (fun a d => a * 10 + d) 0 = n ∧ (1 < (Nm.decD n).length → (Nm.decD n).head? ≠ some 0) ∧ (0 < n → (Nm.decD n).head? ≠ some 0) ∧ 0 < (Nm.decD n).length := by
 intro n
 induction n using Nat.strongRecOn with
 | ind n ih =>
  by_cases h : n < 10
  ·rw [Nm.decD_small h]; refine ⟨fun d hd => by simp at hd; omega, by simp, fun h1 => by simp at h1, fun h1 => by simp; omega, by simp⟩
  ·obtain ⟨i1, i2, i3, i4, i5⟩ := ih (n / 10) (by omega); rw [Nm.decD_step (by omega)]; have hne : Nm.decD (n / 10) ≠ [] := by intro e; rw [e] at i5; simp at i5
   have hh : (Nm.decD (n / 10) ++ [n % 10]).head? ≠ some 0 := by
    obtain ⟨d, hd⟩ : ∃ d, (Nm.decD (n / 10)).head? = some d := ⟨(Nm.decD (n / 10))[0]'i5, by rw [List.head?_eq_getElem?, List.getElem?_eq_getElem i5]⟩; rw [List.head?_append, hd]; intro e; exact i4 (by omega) (hd.trans e)
   refine ⟨fun d hd => ?_, ?_, fun _ => hh, fun _ => hh, by simp⟩
   ·rcases List.mem_append.1 hd with hd | hd
    ·exact i1 d hd
    ·simp at hd; omega
   ·rw [List.foldl_append, i2]; simp only [List.foldl_cons, List.foldl_nil]; omega
theorem ofNat_toNat {d : Nat} (h : d < 10) : (UInt8.ofNat (48 + d)).toNat = 48 + d := by
 rw [UInt8.toNat_ofNat']; exact Nat.mod_eq_of_lt (by omega)
theorem decS_list (n : Nat) : (Nm.decS n).data.toList = (Nm.decD n).map fun d => UInt8.ofNat (48 + d) := rfl
theorem numV_map : ∀ (l : List Nat) (a : Nat), (∀ d ∈ l, d < 10) → (l.map fun d => UInt8.ofNat (48 + d)).foldl (fun a b => a * 10 + (b.toNat - 48)) a = l.foldl (fun a d => a * 10 + d) a
 | [], _, _ => rfl
 | d :: l, a, h => by
  rw [List.map_cons, List.foldl_cons, List.foldl_cons, ofNat_toNat (h d (List.mem_cons_self ..)), show 48 + d - 48 = d by omega]; exact numV_map l _ fun y hy => h y (List.mem_cons_of_mem _ hy)
theorem numV_dec (n : Nat) : numV (Nm.decS n).data.toList = n := by
 obtain ⟨h1, h2, _⟩ := decD_all n; unfold numV; rw [decS_list, numV_map _ _ h1, h2]
theorem decS_dig {n : Nat} {b : UInt8} (h : b ∈ (Nm.decS n).data.toList) : 48 ≤ b.toNat ∧ b.toNat ≤ 57 := by
 rw [decS_list] at h; obtain ⟨d, hd, rfl⟩ := List.mem_map.1 h; have := (decD_all n).1 d hd; rw [ofNat_toNat this]; omega
theorem decS_len (n : Nat) : (Nm.decS n).size = (Nm.decD n).length := by
 show (Nm.decS n).data.size = _
 rw [← Array.length_toList, decS_list, List.length_map]
theorem row_dec (n : Nat) : rowB (Nm.decS n) = true := by
 obtain ⟨h1, h2, h3, h4, h5⟩ := decD_all n; have hl := decS_len n; unfold rowB; rw [decide_eq_true_iff]; refine ⟨by omega, ?_, fun i hi => ?_⟩
 ·rintro ⟨a, h, e⟩; have hb := bytes_get h; rw [decS_list] at hb; have hd : ∃ d, (Nm.decD n).head? = some d := ⟨(Nm.decD n)[0]'(by omega), by rw [List.head?_eq_getElem?, List.getElem?_eq_getElem (by omega)]⟩; obtain ⟨d, hd⟩ := hd; rw [List.getElem?_map, ← List.head?_eq_getElem?, hd] at hb; have hb2 := Option.some.inj hb; have hd10 := h1 d (List.mem_of_head? hd); rw [← hb2, ofNat_toNat hd10] at e; have : d = 0 := by omega
  exact h3 (by omega) (by rw [hd, this])
 ·have := decS_dig (n := n) (List.mem_of_getElem? (bytes_get hi)); unfold dgN; rw [decide_eq_true_iff]; omega
theorem fit_dec {n : Nat} (h : (Nm.lb n).length ≤ 64) : fitN (Nm.decS n) = true := by
 have hB : n < Nm.B ^ 64 := Nm.lb_length_lt.1 h; obtain ⟨e, he⟩ : ∃ e : Nat, e = 617 := ⟨_, rfl⟩; have h1 := decS_le (Nat.lt_of_lt_of_le hB (Nm.lim_ten (e := e) (by omega))) (by omega); unfold fitN numP; rw [numV_dec, decide_eq_true (by omega), decide_eq_true h]; rfl
theorem num_dec (n : Nat) : numP (Nm.decS n) = Nm.lb n := by unfold numP; rw [numV_dec]
theorem cutI_dec (n : Nat) : cutI (Nm.decS n) = -1 := cut_none fun j hj e => by
 have := decS_dig (n := n) (List.mem_of_getElem? (bytes_get hj)); omega
theorem cat_list (p q : Nat) : (Nm.decS p ++ { data := #[47] } ++ Nm.decS q).data.toList = (Nm.decS p).data.toList ++ (47 :: (Nm.decS q).data.toList) := by
 simp [ByteArray.data_append]
theorem decS_ll (p : Nat) : (Nm.decS p).data.toList.length = (Nm.decS p).size := by rw [Array.length_toList]; rfl
theorem cat_size (p q : Nat) : (Nm.decS p ++ { data := #[47] } ++ Nm.decS q).size = (Nm.decS p).size + 1 + (Nm.decS q).size := by
 rw [ByteArray.size_append, ByteArray.size_append]; rfl
theorem cat_A (p q : Nat) : (Nm.decS p ++ { data := #[47] } ++ Nm.decS q).extract 0 (Nm.decS p).size = Nm.decS p := by
 apply ByteArray.ext
 apply Array.toList_inj.1
 rw [ByteArray.data_extract, Array.toList_extract, cat_list]
 show List.take ((Nm.decS p).size - 0) (List.drop 0 _) = _
 rw [List.drop_zero, Nat.sub_zero]; exact List.take_left' (decS_ll p)
theorem cat_Z (p q : Nat) : (Nm.decS p ++ { data := #[47] } ++ Nm.decS q).extract ((Nm.decS p).size + 1) (Nm.decS p ++ { data := #[47] } ++ Nm.decS q).size = Nm.decS q := by
 apply ByteArray.ext
 apply Array.toList_inj.1
 rw [ByteArray.data_extract, Array.toList_extract, cat_list, cat_size]
 show List.take ((Nm.decS p).size + 1 + (Nm.decS q).size - ((Nm.decS p).size + 1)) (List.drop ((Nm.decS p).size + 1) _) = _
 rw [show (Nm.decS p).data.toList ++ (47 :: (Nm.decS q).data.toList) = ((Nm.decS p).data.toList ++ [47]) ++ (Nm.decS q).data.toList by simp, List.drop_left' (by rw [List.length_append, decS_ll]; rfl)]; exact List.take_of_length_le (by rw [decS_ll]; omega)
theorem cutI_rat (p q : Nat) : cutI (Nm.decS p ++ { data := #[47] } ++ Nm.decS q) = ((Nm.decS p).size : Int) := by
 have hL : (Nm.decS p ++ { data := #[47] } ++ Nm.decS q).data.toList = (Nm.decS p).data.toList ++ (47 :: (Nm.decS q).data.toList) := by
  simp [ByteArray.data_append]
 have hS : (Nm.decS p).data.toList.length = (Nm.decS p).size := by rw [Array.length_toList]; rfl
 have hsz : (Nm.decS p ++ { data := #[47] } ++ Nm.decS q).size = (Nm.decS p).size + 1 + (Nm.decS q).size := by
  rw [ByteArray.size_append, ByteArray.size_append]; rfl
 have hk : (Nm.decS p).size < (Nm.decS p ++ { data := #[47] } ++ Nm.decS q).size := by omega
 refine cut_some hk ?_ ?_
 ·have h1 := bytes_get hk; rw [hL, List.getElem?_append_right (by omega), hS, Nat.sub_self] at h1; have h2 := Option.some.inj h1; rw [← h2]; rfl
 ·intro j hj hjk e; have h1 := bytes_get hj; rw [hL, List.getElem?_append_left (by omega)] at h1; have := decS_dig (n := p) (List.mem_of_getElem? h1); omega
theorem parse_print {x : LP} (hv : validP x = 0) (h1 : ∀ y ∈ x.1, y < Nm.B) (h2 : ∀ y ∈ x.2, y < Nm.B) : parseF (prS x) = (0, x) := by
 obtain ⟨x1, x2⟩ := x; obtain ⟨p, q, rfl, rfl, hg⟩ := Nm.validE_spec h1 h2 hv; have hpr := prS_good (p := p) (q := q) ⟨rfl, rfl, hg⟩; rw [hpr]; have hf := hg.fits; by_cases hq : q = 1
 ·subst hq; have e : ratS p 1 = Nm.decS p := by unfold ratS; rw [if_pos rfl]
  rw [e]; have eA : cutA (Nm.decS p) = Nm.decS p := by unfold cutA; rw [cutI_dec, if_neg (by omega)]
  have eZ : cutZ (Nm.decS p) = ⟨#[]⟩ := by unfold cutZ; rw [cutI_dec, if_neg (by omega)]
  have eY : cutY (Nm.decS p) = false := by unfold cutY; rw [cutI_dec]; rfl
  have en : Nm.lb (Nm.dn 1) = [] := by rw [Nm.dn_one, Nm.lb_zero]
  unfold parseF; rw [eA, eZ, eY, row_dec, fit_dec hf.1, fit_nil, num_dec, num_nil, if_neg (by simp), if_neg (by simp), if_neg (by rw [← en]; simp [show validP (Nm.lb p, Nm.lb (Nm.dn 1)) = 0 from hv]), en]
 ·have e : ratS p q = Nm.decS p ++ { data := #[47] } ++ Nm.decS q := by unfold ratS; rw [if_neg hq]
  rw [e]; have hdn : Nm.dn q = q := Nm.dn_ne hq; have eY : cutY (Nm.decS p ++ { data := #[47] } ++ Nm.decS q) = true := by unfold cutY; rw [cutI_rat, decide_eq_true_iff]; omega
  have eA : cutA (Nm.decS p ++ { data := #[47] } ++ Nm.decS q) = Nm.decS p := by
   unfold cutA; rw [cutI_rat, if_pos (by omega), Int.toNat_natCast]; exact cat_A p q
  have eZ : cutZ (Nm.decS p ++ { data := #[47] } ++ Nm.decS q) = Nm.decS q := by
   unfold cutZ; rw [cutI_rat, if_pos (by omega), Int.toNat_natCast]; exact cat_Z p q
  have hq0 : Nm.lb q ≠ [] := by rw [Ne, Nm.lb_nil_iff]; have := hg.pos; omega
  have hf2 : (Nm.lb q).length ≤ 64 := by rw [← hdn]; exact hf.2
  rw [hdn] at hv ⊢; unfold parseF; rw [eA, eZ, eY, row_dec, row_dec, fit_dec hf.1, fit_dec hf2, num_dec, num_dec, if_neg (by simp), if_neg (by simp), if_neg (by simp [hv, hq0])]
end Go.Proofs.YtmbfjmilhfmnkaaGreatDoor
namespace Go.Proofs.YtmbfjmilhfmnkaaGreatDoor
open Go Go.RowKit
set_option maxRecDepth 10000 in
set_option maxHeartbeats 400000 in
theorem equ32_n (A1 A2 : Option Addr) (k1 c1 k2 c2 : Nat) (l1 l2 : List Nat) (w : World) (h1 : Lim w A1 c1 l1) (h2 : Lim w A2 c2 l2) (e1 : k1 = l1.length) (e2 : k2 = l2.length) :
  Calls Tryz.prog 44 #[.slice A1 k1 c1, .slice A2 k2 c2] w fun e w' => ∃ b, e = .returned (.bool b) ∧ Hid (b = sameB l1 l2) ∧ Below w.heap.size w w' := by
 have hkb1 : k1 ≤ 9223372036854775807 := by have := h1.2.1; have := h1.2.2.1; omega
 have E1 := Lib.hid e1; have E2 := Lib.hid e2; by_cases hk : k1 = k2
 ·subst hk; clear e1 e2
  go_enter Tryz.func44, Tryz.ntmps44
  go_wp2
  go_loopg [13] k1 (fun j x wr => ∃ i : Nat, x = .int .i64 i ∧ i + j = k1 ∧ Hid (l1.take i = l2.take i) ∧ ∃ nq, wr = w.drewN nq)
  case atStart => exact ⟨0, rfl, by omega, by show _ = _; simp, 0, rfl⟩
  case round =>
   obtain ⟨i, rfl, hij, HT, nq, rfl⟩ := hrel; by_cases hi : i < k1
   ·obtain ⟨b1, o1, a, rfl, hca, ha, HA⟩ := h1.get (k := i) (by have := E1.out; omega); obtain ⟨b2, o2, b, rfl, hcb, hb, HB⟩ := h2.get (k := i) (by have := E2.out; omega); by_cases hab : a = b
    ·have HT2 : Hid (l1.take (i + 1) = l2.take (i + 1)) := take_same (by have := E1.out; omega) (by rw [← E1.out, ← E2.out]) HT.out HA.out HB.out hab; have hd : ((a : Int) != (b : Int)) = false := by rw [hab]; simp
     clear hab; go_wp2_with fail
     go_quiet (fail)
     go_wp2_with fail
     go_roundg (gk - 1)
     case measure => omega
     case rel => exact ⟨i + 1, by go_num, by omega, HT2, _, rfl⟩
    ·have hd : ((a : Int) != (b : Int)) = true := by simp; omega
     have HF : Hid (false = sameB l1 l2) := by
      show _ = _; unfold sameB; symm; rw [decide_eq_false_iff_not]
      rintro rfl; exact hab (HA.out.trans HB.out.symm)
     clear hab; go_wp2_with fail
     go_quiet (fail)
     go_wp2_with fail; go_ret; exact ⟨_, rfl, HF, Below.tr (below_drewN _ _) (below_drewN _ _)⟩
   ·obtain rfl : k1 = i := by omega
    have HF : Hid (true = sameB l1 l2) := by
     show _ = _; unfold sameB; symm; rw [decide_eq_true_iff]
     have := HT.out
     rwa [List.take_of_length_le (by rw [← E1.out]; omega), List.take_of_length_le (by rw [← E2.out]; omega)] at this
    go_wp2_with fail; go_ret; exact ⟨_, rfl, HF, below_drewN _ _⟩
 ·have HF : Hid (false = sameB l1 l2) := by
   show _ = _; unfold sameB; symm; rw [decide_eq_false_iff_not]
   rintro rfl; exact hk (e1.trans e2.symm)
  have hd : ((k1 : Int) != (k2 : Int)) = true := by simp; omega
  clear e1 e2 hk
  go_enter Tryz.func44, Tryz.ntmps44
  go_wp2
  go_ret; exact ⟨_, rfl, HF, Below.refl _ _⟩
set_option maxRecDepth 10000 in
set_option maxHeartbeats 400000 in
theorem psame_n (va vb : Value) (L1 L2 L3 L4 : List Nat) (w : World) (ha : RtL w va L1 L2) (hb : RtL w vb L3 L4) :
  Calls Tryz.prog 18 #[va, vb] w fun e w' => ∃ b, e = .returned (.bool b) ∧ Hid (b = sameR L1 L2 L3 L4) ∧ Below w.heap.size w w' := by
 obtain ⟨A1, k1, c1, A2, k2, c2, rfl, h1, h2, e1, e2⟩ := ha; obtain ⟨B1, m1, d1, B2, m2, d2, rfl, h3, h4, e3, e4⟩ := hb; have E1 := Lib.hid e1; have E2 := Lib.hid e2; have E3 := Lib.hid e3; have E4 := Lib.hid e4; clear e1 e2 e3 e4; obtain ⟨W, HW⟩ : ∃ W, Hid (W = (w.alloc (.cells #[.slice A1 k1 c1, .slice A2 k2 c2] 29)).alloc (.cells #[.slice B1 m1 d1, .slice B2 m2 d2] 29)) := ⟨_, rfl⟩; have hbw : Below w.heap.size w W := by rw [HW.out]; exact Below.tr (bA _ _) (bA _ _)
 have BA : Blk W w.heap.size 29 #[.slice A1 k1 c1, .slice A2 k2 c2] := by rw [HW.out]; exact (Blk.new _ _ _).alloc _
 have BB : Blk W (w.heap.size + 1) 29 #[.slice B1 m1 d1, .slice B2 m2 d2] := by
  rw [HW.out]; have h := Blk.new (w.alloc (.cells #[.slice A1 k1 c1, .slice A2 k2 c2] 29)) 29 #[.slice B1 m1 d1, .slice B2 m2 d2]
  simpa using h
 have h1 := h1.below hbw; have h2 := h2.below hbw; have h3 := h3.below hbw; have h4 := h4.below hbw; have q0 := BA.cell 0; have q2 := BB.cell 0; simp only [List.getElem?_toArray, List.getElem?_cons_zero, List.getElem?_cons_succ] at q0 q2
 go_enter Tryz.func18, Tryz.ntmps18
 go_wp2_with fail; rw [← HW.out]; go_wp2_with fail; refine (equ32_n A1 B1 k1 c1 m1 d1 L1 L3 _ h1 h3 E1.out E3.out).mono ?_; rintro e w2 ⟨b, rfl, HX, hb2⟩; have q1 := (Blk.below BA hb2 BA.lt).cell 1; have q3 := (Blk.below BB hb2 BB.lt).cell 1; simp only [List.getElem?_toArray, List.getElem?_cons_zero, List.getElem?_cons_succ] at q1 q3; clear q0 q2
 cases b
 ·go_wp2_with fail; go_ret; exact ⟨_, rfl, by show _ = _; unfold sameR; rw [← HX.out]; rfl, Below.tr hbw hb2⟩
 ·go_wp2_with fail; refine (equ32_n A2 B2 k2 c2 m2 d2 L2 L4 _ (h2.below hb2) (h4.below hb2) E2.out E4.out).mono ?_; rintro e w3 ⟨b, rfl, HY, hb3⟩; go_wp2_with fail; go_ret; exact ⟨_, rfl, by show _ = _; unfold sameR; rw [← HX.out, ← HY.out]; simp, Below.tr hbw (Below.tr hb2 hb3)⟩
end Go.Proofs.YtmbfjmilhfmnkaaGreatDoor
namespace Go.Proofs.YtmbfjmilhfmnkaaGreatDoor
open Go Go.RowKit
theorem encode_E (v : Value) (x : LP) (E : List Nat) (w : World) (h : RtP w v x) (s1 : x.1.length ≤ 200) (s2 : x.2.length ≤ 200) (HE : Hid (E = Wi.encIs (castI x.1) ++ Wi.encIs (castI x.2))) (hE : E.length ≤ 10000) :
  Calls Tryz.prog 17 #[v] w fun e w' => ∃ A c, e = .returned (.slice A E.length c) ∧ By w' A E.length c E ∧ Below w.heap.size w w' := by
 refine (encode_n v x w h (by omega) (by omega)).mono ?_; rintro e w' ⟨u, rfl, ho, hb⟩; rw [← HE.out] at ho; obtain ⟨A, c, rfl⟩ := ho.shp; exact ⟨A, c, rfl, ho.by_ (by omega), hb⟩
theorem rencode_E (v : Value) (x : LP) (E : List Nat) (w : World) (h : RtP w v x) (s1 : x.1.length ≤ 200) (s2 : x.2.length ≤ 200) (HE : Hid (E = Wi.encIs (castI x.1) ++ Wi.encIs (castI x.2))) (hE : E.length ≤ 10000) :
  Calls Tryz.prog 6 #[v] w fun e w' => ∃ A c, e = .returned (.slice A E.length c) ∧ By w' A E.length c E ∧ Below w.heap.size w w' := by
 refine (rencode_n v x w h (by omega) (by omega)).mono ?_; rintro e w' ⟨u, rfl, ho, hb⟩; rw [← HE.out] at ho; obtain ⟨A, c, rfl⟩ := ho.shp; exact ⟨A, c, rfl, ho.by_ (by omega), hb⟩
theorem bsame_tt (A1 A2 : Option Addr) (k1 c1 k2 c2 : Nat) (l : List Nat) (w : World) (h1 : By w A1 k1 c1 l) (h2 : By w A2 k2 c2 l) :
  Calls Tryz.prog 16 #[.slice A1 k1 c1, .slice A2 k2 c2] w fun e w' => e = .returned (.bool true) ∧ Below w.heap.size w w' := by
 refine (bsame_n A1 A2 k1 c1 k2 c2 l l w h1 h2).mono ?_; rintro e w' ⟨b, rfl, HB, hb⟩; exact ⟨by rw [HB.out]; unfold sameB; rw [decide_eq_true rfl], hb⟩
theorem psame_b (va vb : Value) (a b : LP) (bb : Bool) (w : World) (ha : RtP w va a) (hb : RtP w vb b) (HB : Hid (decide (a = b) = bb)) :
  Calls Tryz.prog 18 #[va, vb] w fun e w' => e = .returned (.bool bb) ∧ Below w.heap.size w w' := by
 refine (psame_n va vb a.1 a.2 b.1 b.2 w ha hb).mono ?_; rintro e w' ⟨b', rfl, HB', h⟩; refine ⟨?_, h⟩; rw [HB'.out, ← HB.out]
 congr 2
 unfold sameR sameB; rw [← Bool.decide_and]; exact decide_eq_decide.2 ⟨fun h => Prod.ext h.1 h.2, fun h => by rw [h]; exact ⟨rfl, rfl⟩⟩
theorem rsame_b (va vb : Value) (a b : LP) (bb : Bool) (w : World) (ha : RtP w va a) (hb : RtP w vb b) (HB : Hid (decide (a = b) = bb)) :
  Calls Tryz.prog 12 #[va, vb] w fun e w' => e = .returned (.bool bb) ∧ Below w.heap.size w w' := by
 refine (same_any va vb a.1 a.2 b.1 b.2 w ha hb).mono ?_; rintro e w' ⟨b', rfl, HB', h⟩; refine ⟨?_, h⟩; rw [HB'.out, ← HB.out]
 congr 2
 unfold sameR sameB; rw [← Bool.decide_and]; exact decide_eq_decide.2 ⟨fun h => Prod.ext h.1 h.2, fun h => by rw [h]; exact ⟨rfl, rfl⟩⟩
theorem parse_sh {fn : Nat} (hc : ∀ (s : ByteArray) (w : World), s.size ≤ 9223372036854775807 → Calls Tryz.prog fn #[.string s] w fun e w' => ∃ v, e = .returned (.tuple #[v, .int .i64 (parseF s).1]) ∧ RtP w' v (parseF s).2 ∧ Below w.heap.size w w') (s : ByteArray) (w : World) (hs : s.size ≤ 9223372036854775807) (r0 : Int) (x0 : LP) (HD : Hid (parseF s = (r0, x0))) :
  Calls Tryz.prog fn #[.string s] w fun e w' => ∃ A1 k1 c1 A2 k2 c2, e = .returned (.tuple #[.agg #[.slice A1 k1 c1, .slice A2 k2 c2], .int .i64 r0]) ∧ RtP w' (.agg #[.slice A1 k1 c1, .slice A2 k2 c2]) x0 ∧ Below w.heap.size w w' := by
 refine (hc s w hs).mono ?_; rintro e w' ⟨v, rfl, hr, hb⟩; rw [HD.out] at hr ⊢; obtain ⟨A1, k1, c1, A2, k2, c2, rfl⟩ := hr.shape; exact ⟨A1, k1, c1, A2, k2, c2, rfl, hr, hb⟩
theorem prS_size {x : LP} (hv : validP x = 0) (h1 : ∀ y ∈ x.1, y < Nm.B) (h2 : ∀ y ∈ x.2, y < Nm.B) : (prS x).size ≤ 3000 := by
 obtain ⟨x1, x2⟩ := x; obtain ⟨p, q, rfl, rfl, hg⟩ := Nm.validE_spec h1 h2 hv; rw [prS_good (p := p) (q := q) ⟨rfl, rfl, hg⟩]; have hs1 := decS_size (good_lt hg).1; have hs2 := decS_size (good_lt hg).2; unfold ratS
 split
 ·omega
 ·rw [cat_size]; omega
theorem info_str : (Tryz.prog.info? 9).map (fun i => (i.zero, i.size, i.bytes)) = some (some (.string { data := #[] }), 1, 16) := by kernel_rfl
theorem fill_s6 (s0 s1 s2 s3 s4 s5 : ByteArray) : Instr.fill (fun i => some (i * 1, 1)) ((Array.range (6 * 1)).map ((Value.string { data := #[] }).cells[· % (Value.string { data := #[] }).cells.size]!)) [(0, .string s0), (1, .string s1), (2, .string s2), (3, .string s3), (4, .string s4), (5, .string s5)] = some #[.string s0, .string s1, .string s2, .string s3, .string s4, .string s5] := by kernel_rfl

def PhiF7 (gL i : Nat) (y1 y2 : Value) (S : ByteArray) (V : Int) (E : List Nat) (j : Nat) (w : World) (x : Value) : Prop :=
 match j with
 | 0 => x = .string S
 | 1 => x = .string S
 | 2 => x = .bool false
 | 3 => x = .bool false
 | 4 => x = .int .i64 V
 | 5 => x = .int .i64 V
 | 6 => x = .bool false
 | 7 => x = .bool false
 | 8 => x = .bool false
 | 9 => x = .slice (some ⟨gL, 0, none⟩) 7 7
 | 10 => x = .int .i64 (i : Nat)
 | 11 => x = .pointer (some ⟨gL, i * 2, none⟩)
 | 12 => x = .agg #[y1, y2]
 | 13 => ∃ A c, x = .slice A E.length c ∧ By w A E.length c E
 | 14 => x = .slice (some ⟨gL, 0, none⟩) 7 7
 | 15 => x = .int .i64 (i : Nat)
 | 16 => x = .pointer (some ⟨gL, i * 2, none⟩)
 | 17 => x = .agg #[y1, y2]
 | 18 => ∃ A c, x = .slice A E.length c ∧ By w A E.length c E
 | 19 => x = .bool true
 | 20 => x = .bool false
 | 21 => x = .bool false
 | _ => True

theorem PhiF7.keep {gL i : Nat} {y1 y2 : Value} {S : ByteArray} {V : Int} {E : List Nat} : ∀ (w w' : World), Below w.heap.size w w' → ∀ j x, PhiF7 gL i y1 y2 S V E j w x → PhiF7 gL i y1 y2 S V E j w' x := by
 intro w w' hb j x h; unfold PhiF7 at h ⊢
 split <;> simp only at h ⊢
 all_goals first
  | exact h
  | (obtain ⟨A9, c9, e, h⟩ := h; exact ⟨A9, c9, e, h.below hb⟩)
def PhiF12 (gL i jj : Nat) (y1 y2 z1 z2 : Value) (B : Bool) (j : Nat) (w : World) (x : Value) : Prop :=
 match j with
 | 0 => x = .slice (some ⟨gL, 0, none⟩) 7 7
 | 1 => x = .int .i64 (i : Nat)
 | 2 => x = .pointer (some ⟨gL, i * 2, none⟩)
 | 3 => x = .agg #[y1, y2]
 | 4 => x = .slice (some ⟨gL, 0, none⟩) 7 7
 | 5 => x = .int .i64 (jj : Nat)
 | 6 => x = .pointer (some ⟨gL, jj * 2, none⟩)
 | 7 => x = .agg #[z1, z2]
 | 8 => x = .bool B
 | 9 => x = .slice (some ⟨gL, 0, none⟩) 7 7
 | 10 => x = .int .i64 (i : Nat)
 | 11 => x = .pointer (some ⟨gL, i * 2, none⟩)
 | 12 => x = .agg #[y1, y2]
 | 13 => x = .slice (some ⟨gL, 0, none⟩) 7 7
 | 14 => x = .int .i64 (jj : Nat)
 | 15 => x = .pointer (some ⟨gL, jj * 2, none⟩)
 | 16 => x = .agg #[z1, z2]
 | 17 => x = .bool B
 | 18 => x = .bool false
 | _ => True

theorem PhiF12.keep {gL i jj : Nat} {y1 y2 z1 z2 : Value} {B : Bool} : ∀ (w w' : World), Below w.heap.size w w' → ∀ j x, PhiF12 gL i jj y1 y2 z1 z2 B j w x → PhiF12 gL i jj y1 y2 z1 z2 B j w' x := by
 intro w w' hb j x h; unfold PhiF12 at h ⊢
 split <;> simp only at h ⊢
 all_goals first
  | exact h
  | (obtain ⟨A9, c9, e, h⟩ := h; exact ⟨A9, c9, e, h.below hb⟩)
def PhiF18 (gL i : Nat) (y1 y2 a1 a2 b1 b2 : Value) (A24 : Option Addr) (n24 c24 : Nat) (j : Nat) (w : World) (x : Value) : Prop :=
 match j with
 | 0 => x = .int .i64 0
 | 1 => x = .bool false
 | 2 => x = .bool false
 | 3 => x = .int .i64 0
 | 4 => x = .bool false
 | 5 => x = .bool false
 | 6 => x = .bool false
 | 7 => x = .int .i64 (n24 : Nat)
 | 8 => x = .slice A24 n24 c24
 | 9 => x = .int .i64 (n24 : Nat)
 | 10 => x = .bool false
 | 11 => x = .bool false
 | 12 => x = .bool false
 | 13 => x = .agg #[a1, a2]
 | 14 => x = .slice (some ⟨gL, 0, none⟩) 7 7
 | 15 => x = .int .i64 (i : Nat)
 | 16 => x = .pointer (some ⟨gL, i * 2, none⟩)
 | 17 => x = .agg #[y1, y2]
 | 18 => x = .bool true
 | 19 => x = .bool false
 | 20 => x = .bool false
 | 21 => x = .bool false
 | 22 => x = .agg #[b1, b2]
 | 23 => x = .slice (some ⟨gL, 0, none⟩) 7 7
 | 24 => x = .int .i64 (i : Nat)
 | 25 => x = .pointer (some ⟨gL, i * 2, none⟩)
 | 26 => x = .agg #[y1, y2]
 | 27 => x = .bool true
 | 28 => x = .bool false
 | 29 => x = .bool false
 | _ => True

theorem PhiF18.keep {gL i : Nat} {y1 y2 a1 a2 b1 b2 : Value} {A24 : Option Addr} {n24 c24 : Nat} : ∀ (w w' : World), Below w.heap.size w w' → ∀ j x, PhiF18 gL i y1 y2 a1 a2 b1 b2 A24 n24 c24 j w x → PhiF18 gL i y1 y2 a1 a2 b1 b2 A24 n24 c24 j w' x := by
 intro w w' hb j x h; unfold PhiF18 at h ⊢
 split <;> simp only at h ⊢
 all_goals first
  | exact h
  | (obtain ⟨A9, c9, e, h⟩ := h; exact ⟨A9, c9, e, h.below hb⟩)
set_option maxRecDepth 100000 in
set_option maxHeartbeats 8000000 in
theorem ratio_forms_n (A4 : Option Addr) (k4 c4 : Nat) (A5 : Option Addr) (k5 c5 : Nat) (l4 l5 : List Nat) (s : ByteArray) (A7 : Option Addr) (k7 c7 : Nat) (l7 : List Nat) (n m how by_ : Int) (w : World) (hl4 : Lim w A4 c4 l4) (hk4 : k4 = l4.length) (hl5 : Lim w A5 c5 l5) (hk5 : k5 = l5.length) (hs : s.size ≤ 1048576) (h7 : By w A7 k7 c7 l7) (hk7 : k7 ≤ 1048576) (hin : isI64 n) (him : isI64 m) (hih : isI64 how) (hib : isI64 by_) :
  Calls Tryz.prog 4 #[.int .i64 n, .int .i64 m, .int .i64 how, .int .i64 by_, .slice A4 k4 c4, .slice A5 k5 c5, .string s, .slice A7 k7 c7] w fun e w' => e = .returned (.bool true) ∧ Below w.heap.size w w' := by
 have HS := Lib.hid (some_s n m how by_ A4 k4 c4 A5 k5 c5 l4 l5 w hin him hih hib hl4 hk4 hl5 hk5); have HIN := Lib.hid hin; have HIM := Lib.hid him; obtain ⟨iS, hiS, hzS, hzS1, hzS2⟩ := info_parts info_str; clear hl4 hk4 hl5 hk5 hin him hih hib
 go_enter Tryz.func4, Tryz.ntmps4
 go_wp2_with fail; refine HS.out.mono ?_; rintro e w1 ⟨gL, xs, rfl, hL, _, HSm, hbw⟩; have h7 := h7.below hbw; clear HS; go_wp2_with fail
 go_loopg [18] 7 (fun j x wr => ∃ i : Nat, x = .int .i64 i ∧ i + j = 7 ∧ Below w1.heap.size w1 wr)
 case atStart => exact ⟨0, rfl, by omega, Below.refl _ _⟩
 case round =>
  obtain ⟨G, hG⟩ : ∃ G, G = gk := ⟨gk, rfl⟩; subst hG; obtain ⟨i, rfl, hij, hbo⟩ := hrel; obtain ⟨wo, hwo⟩ : ∃ wo, wo = wr := ⟨_, rfl⟩; subst hwo; by_cases hi : i < 7
  ·have t1 : decide ((i : Int) < 7) = true := by simp; omega
   have hi7 : (i : Int) < 7 := by omega
   obtain ⟨y1, y2, x, g1, g2, hX, hxm⟩ := seven_s (hL.below hbo) hi; obtain ⟨s1, s2⟩ := HSm.out x hxm; clear hxm; obtain ⟨V, HV⟩ : ∃ V, Hid (V = validP x) := ⟨_, rfl⟩; obtain ⟨S, HSS⟩ : ∃ S, Hid (S = prS x) := ⟨_, rfl⟩; obtain ⟨E, HE⟩ : ∃ E, Hid (E = Wi.encIs (castI x.1) ++ Wi.encIs (castI x.2)) := ⟨_, rfl⟩
   have HLM : Hid ((∀ y ∈ x.1, y < Nm.B) ∧ ∀ y ∈ x.2, y < Nm.B) := by
    obtain ⟨_, _, _, _, _, _, _, q1, q2, _, _⟩ := hX; exact ⟨q1.2.2.2.1, q2.2.2.2.1⟩
   have hE1 : E.length ≤ 10000 := by
    rw [HE.out, List.length_append]; have h1 := encIs_len (castI_bd HLM.out.1) (by rw [castI_len]; omega); have h2 := encIs_len (castI_bd HLM.out.2) (by rw [castI_len]; omega); rw [castI_len] at h1 h2; omega
   have HPA := Lib.hid (print_A _ x wo hX); rw [← HV.out, ← HSS.out] at HPA; go_wp2_with fail; refine HPA.out.mono ?_; rintro e w2 ⟨rfl, hb2⟩; have g1 := cell_keep hb2 g1; have g2 := cell_keep hb2 g2; have hX := hX.below hb2; have hbo2 := Below.tr hbo hb2; have HPB := Lib.hid (rprint_A _ x w2 hX); rw [← HV.out, ← HSS.out] at HPB; clear HPA hb2; go_wp2_with fail; refine HPB.out.mono ?_; rintro e w3 ⟨rfl, hb3⟩; have g1 := cell_keep hb3 g1; have g2 := cell_keep hb3 g2; have hX := hX.below hb3; have hbo3 := Below.tr hbo2 hb3; clear HPB hb3 hbo2; go_upto_region 7 with fail; refine region_invF (PhiF7 gL i y1 y2 S V E) (fun w w' => Below w.heap.size w w') (fun W => Below w3.heap.size w3 W) (by kernel_rfl) (by kernel_rfl) (by kernel_rfl) PhiF7.keep (fun _ _ hR hS => Below.tr hS hR) (bD _) (fun vs => by simp only [fillR, Act.put, sA, sB, sC, Nat.zero_add, Nat.reduceAdd]; rfl) ?_ ?_
   ·refine sK ?_ (sK ?_ (sK ?_ (sK ?_ (sK ?_ (sK ?_ (sK ?_ (sK ?_ (sK ?_ (sK ?_ (sK ?_ (sK ?_ (sK ?_ (sK ?_ (sK ?_ (sK ?_ (sK ?_ (sK ?_ (sK ?_ (sK ?_ (sK ?_ (sK ?_ (sZ))))))))))))))))))))))
    ·as_aux_lemma =>
     intro vs W hS hdep K hK; refine ⟨?_⟩; simp only [Act.put, sA, sB, sC, Nat.zero_add, Nat.reduceAdd] at hK ⊢; go_simp; with_reducible refine hK _ _ (Below.refl _ _) ?_
     exact rfl
    ·as_aux_lemma =>
     intro vs W hS hdep K hK; refine ⟨?_⟩; simp only [Act.put, sA, sB, sC, Nat.zero_add, Nat.reduceAdd] at hK ⊢; go_simp; with_reducible refine hK _ _ (Below.refl _ _) ?_
     exact rfl
    ·as_aux_lemma =>
     intro vs W hS hdep K hK; have d0 := hdep ⟨0, .data⟩ (by simp) rfl; simp only [PhiF7] at d0; have d1 := hdep ⟨1, .data⟩ (by simp) rfl; simp only [PhiF7] at d1; refine ⟨?_⟩; simp only [Act.put, sA, sB, sC, Nat.zero_add, Nat.reduceAdd, d0, d1] at hK ⊢; go_simp; with_reducible refine hK _ _ (Below.refl _ _) ?_
     exact rfl
    ·as_aux_lemma =>
     intro vs W hS hdep K hK; have d0 := hdep ⟨2, .data⟩ (by simp) rfl; simp only [PhiF7] at d0; refine ⟨?_⟩; simp only [Act.put, sA, sB, sC, Nat.zero_add, Nat.reduceAdd, d0] at hK ⊢; go_simp; with_reducible refine hK _ _ (Below.refl _ _) ?_
     exact rfl
    ·as_aux_lemma =>
     intro vs W hS hdep K hK; have d0 := hdep ⟨3, .guard⟩ (by simp) rfl; simp only [PhiF7] at d0; refine ⟨?_⟩; simp only [Act.put, sA, sB, sC, Nat.zero_add, Nat.reduceAdd, d0] at hK ⊢; go_simp; with_reducible refine hK _ _ (Below.refl _ _) ?_
     exact rfl
    ·as_aux_lemma =>
     intro vs W hS hdep K hK; have d0 := hdep ⟨3, .guard⟩ (by simp) rfl; simp only [PhiF7] at d0; refine ⟨?_⟩; simp only [Act.put, sA, sB, sC, Nat.zero_add, Nat.reduceAdd, d0] at hK ⊢; go_simp; with_reducible refine hK _ _ (Below.refl _ _) ?_
     exact rfl
    ·as_aux_lemma =>
     intro vs W hS hdep K hK; have d0 := hdep ⟨4, .data⟩ (by simp) rfl; simp only [PhiF7] at d0; have d1 := hdep ⟨5, .data⟩ (by simp) rfl; simp only [PhiF7] at d1; have d2 := hdep ⟨3, .guard⟩ (by simp) rfl; simp only [PhiF7] at d2; refine ⟨?_⟩; simp only [Act.put, sA, sB, sC, Nat.zero_add, Nat.reduceAdd, d0, d1, d2] at hK ⊢; go_simp; with_reducible refine hK _ _ (Below.refl _ _) ?_
     exact rfl
    ·as_aux_lemma =>
     intro vs W hS hdep K hK; have d0 := hdep ⟨3, .data⟩ (by simp) rfl; simp only [PhiF7] at d0; have d1 := hdep ⟨6, .data⟩ (by simp) rfl; simp only [PhiF7] at d1; refine ⟨?_⟩; simp only [Act.put, sA, sB, sC, Nat.zero_add, Nat.reduceAdd, d0, d1] at hK ⊢; go_simp; with_reducible refine hK _ _ (Below.refl _ _) ?_
     exact rfl
    ·as_aux_lemma =>
     intro vs W hS hdep K hK; have d0 := hdep ⟨7, .data⟩ (by simp) rfl; simp only [PhiF7] at d0; have d1 := hdep ⟨3, .chain⟩ (by simp) rfl; simp only [PhiF7] at d1; refine ⟨?_⟩; simp only [Act.put, sA, sB, sC, Nat.zero_add, Nat.reduceAdd, d0, d1] at hK ⊢; go_simp; with_reducible refine hK _ _ (Below.refl _ _) ?_
     exact rfl
    ·as_aux_lemma =>
     intro vs W hS hdep K hK; have d0 := hdep ⟨8, .guard⟩ (by simp) rfl; simp only [PhiF7] at d0; refine ⟨?_⟩; simp only [Act.put, sA, sB, sC, Nat.zero_add, Nat.reduceAdd, d0] at hK ⊢; go_simp; with_reducible refine hK _ _ (Below.refl _ _) ?_
     exact rfl
    ·as_aux_lemma =>
     intro vs W hS hdep K hK; have d0 := hdep ⟨8, .guard⟩ (by simp) rfl; simp only [PhiF7] at d0; refine ⟨?_⟩; simp only [Act.put, sA, sB, sC, Nat.zero_add, Nat.reduceAdd, d0] at hK ⊢; go_simp; with_reducible refine hK _ _ (Below.refl _ _) ?_
     exact rfl
    ·as_aux_lemma =>
     intro vs W hS hdep K hK; have d0 := hdep ⟨9, .data⟩ (by simp) rfl; simp only [PhiF7] at d0; have d1 := hdep ⟨10, .data⟩ (by simp) rfl; simp only [PhiF7] at d1; have d2 := hdep ⟨8, .guard⟩ (by simp) rfl; simp only [PhiF7] at d2; refine ⟨?_⟩; simp only [Act.put, sA, sB, sC, Nat.zero_add, Nat.reduceAdd, d0, d1, d2] at hK ⊢; go_simp; with_reducible refine hK _ _ (Below.refl _ _) ?_
     exact rfl
    ·as_aux_lemma =>
     intro vs W hS hdep K hK; have d0 := hdep ⟨11, .data⟩ (by simp) rfl; simp only [PhiF7] at d0; have d1 := hdep ⟨8, .guard⟩ (by simp) rfl; simp only [PhiF7] at d1; have f1 := cell_keep hS g1; have f2 := cell_keep hS g2; refine ⟨?_⟩; simp only [Act.put, sA, sB, sC, Nat.zero_add, Nat.reduceAdd, d0, d1] at hK ⊢; go_simp; with_reducible refine hK _ _ (Below.refl _ _) ?_
     exact rfl
    ·as_aux_lemma =>
     intro vs W hS hdep K hK; have d0 := hdep ⟨12, .data⟩ (by simp) rfl; simp only [PhiF7] at d0; have d1 := hdep ⟨8, .guard⟩ (by simp) rfl; simp only [PhiF7] at d1; refine ⟨?_⟩; simp only [Act.put, sA, sB, sC, Nat.zero_add, Nat.reduceAdd, d0, d1] at hK ⊢; go_simp; refine (encode_E _ x E _ (hX.below hS) s1 s2 HE hE1).mono ?_; rintro e w' ⟨A9, c9, rfl, hBy, hb⟩; go_wp2_with fail; with_reducible refine hK _ _ hb ?_
     exact ⟨A9, c9, rfl, hBy⟩
    ·as_aux_lemma =>
     intro vs W hS hdep K hK; have d0 := hdep ⟨8, .guard⟩ (by simp) rfl; simp only [PhiF7] at d0; refine ⟨?_⟩; simp only [Act.put, sA, sB, sC, Nat.zero_add, Nat.reduceAdd, d0] at hK ⊢; go_simp; with_reducible refine hK _ _ (Below.refl _ _) ?_
     exact rfl
    ·as_aux_lemma =>
     intro vs W hS hdep K hK; have d0 := hdep ⟨8, .guard⟩ (by simp) rfl; simp only [PhiF7] at d0; refine ⟨?_⟩; simp only [Act.put, sA, sB, sC, Nat.zero_add, Nat.reduceAdd, d0] at hK ⊢; go_simp; with_reducible refine hK _ _ (Below.refl _ _) ?_
     exact rfl
    ·as_aux_lemma =>
     intro vs W hS hdep K hK; have d0 := hdep ⟨14, .data⟩ (by simp) rfl; simp only [PhiF7] at d0; have d1 := hdep ⟨15, .data⟩ (by simp) rfl; simp only [PhiF7] at d1; have d2 := hdep ⟨8, .guard⟩ (by simp) rfl; simp only [PhiF7] at d2; refine ⟨?_⟩; simp only [Act.put, sA, sB, sC, Nat.zero_add, Nat.reduceAdd, d0, d1, d2] at hK ⊢; go_simp; with_reducible refine hK _ _ (Below.refl _ _) ?_
     exact rfl
    ·as_aux_lemma =>
     intro vs W hS hdep K hK; have d0 := hdep ⟨16, .data⟩ (by simp) rfl; simp only [PhiF7] at d0; have d1 := hdep ⟨8, .guard⟩ (by simp) rfl; simp only [PhiF7] at d1; have f1 := cell_keep hS g1; have f2 := cell_keep hS g2; refine ⟨?_⟩; simp only [Act.put, sA, sB, sC, Nat.zero_add, Nat.reduceAdd, d0, d1] at hK ⊢; go_simp; with_reducible refine hK _ _ (Below.refl _ _) ?_
     exact rfl
    ·as_aux_lemma =>
     intro vs W hS hdep K hK; have d0 := hdep ⟨17, .data⟩ (by simp) rfl; simp only [PhiF7] at d0; have d1 := hdep ⟨8, .guard⟩ (by simp) rfl; simp only [PhiF7] at d1; refine ⟨?_⟩; simp only [Act.put, sA, sB, sC, Nat.zero_add, Nat.reduceAdd, d0, d1] at hK ⊢; go_simp; refine (rencode_E _ x E _ (hX.below hS) s1 s2 HE hE1).mono ?_; rintro e w' ⟨A9, c9, rfl, hBy, hb⟩; go_wp2_with fail; with_reducible refine hK _ _ hb ?_
     exact ⟨A9, c9, rfl, hBy⟩
    ·as_aux_lemma =>
     intro vs W hS hdep K hK; have d0 := hdep ⟨13, .data⟩ (by simp) rfl; simp only [PhiF7] at d0; refine @exE2 _ _ _ _ d0 ?_; clear d0; intro A0 c0 d0; have e0 := d0.1; have r0 := d0.2; clear d0; have d1 := hdep ⟨18, .data⟩ (by simp) rfl; simp only [PhiF7] at d1; refine @exE2 _ _ _ _ d1 ?_; clear d1; intro A1 c1 d1; have e1 := d1.1; have r1 := d1.2; clear d1; have d2 := hdep ⟨8, .guard⟩ (by simp) rfl; simp only [PhiF7] at d2; refine ⟨?_⟩; simp only [Act.put, sA, sB, sC, Nat.zero_add, Nat.reduceAdd, e0, e1, d2] at hK ⊢; go_simp; refine (bsame_tt _ _ _ _ _ _ E _ r0 r1).mono ?_; rintro e w' ⟨rfl, hb⟩; go_wp2_with fail; with_reducible refine hK _ _ hb ?_
     exact rfl
    ·as_aux_lemma =>
     intro vs W hS hdep K hK; have d0 := hdep ⟨19, .data⟩ (by simp) rfl; simp only [PhiF7] at d0; have d1 := hdep ⟨8, .guard⟩ (by simp) rfl; simp only [PhiF7] at d1; refine ⟨?_⟩; simp only [Act.put, sA, sB, sC, Nat.zero_add, Nat.reduceAdd, d0, d1] at hK ⊢; go_simp; with_reducible refine hK _ _ (Below.refl _ _) ?_
     exact rfl
    ·as_aux_lemma =>
     intro vs W hS hdep K hK; have d0 := hdep ⟨8, .data⟩ (by simp) rfl; simp only [PhiF7] at d0; have d1 := hdep ⟨20, .data⟩ (by simp) rfl; simp only [PhiF7] at d1; refine ⟨?_⟩; simp only [Act.put, sA, sB, sC, Nat.zero_add, Nat.reduceAdd, d0, d1] at hK ⊢; go_simp; with_reducible refine hK _ _ (Below.refl _ _) ?_
     exact rfl
   ·intro vs w4 hb4 hv; have v21 := hv 21 (by simp); simp only [PhiF7] at v21; simp only [Act.put, sA, sB, sC, Nat.zero_add, Nat.reduceAdd, v21]; have g1 := cell_keep hb4 g1; have g2 := cell_keep hb4 g2; have hX := hX.below hb4; have hbo4 := Below.tr hbo3 hb4; clear hv v21 hb4 hbo3; go_wp2_with fail
    go_loopg [23] 7 (fun j x wr => ∃ k : Nat, x = .int .i64 k ∧ k + j = 7 ∧ Below w4.heap.size w4 wr)
    case atStart => exact ⟨0, rfl, by omega, Below.refl _ _⟩
    case round =>
     obtain ⟨G2, hG2⟩ : ∃ G, G = gk := ⟨gk, rfl⟩; subst hG2; obtain ⟨j, rfl, hjj, hbp⟩ := hrel; obtain ⟨wp, hwp⟩ : ∃ wo, wo = wr := ⟨_, rfl⟩; subst hwp; have g1 := cell_keep hbp g1; have g2 := cell_keep hbp g2; have hX := hX.below hbp; by_cases hj : j < 7
     ·have t2 : decide ((j : Int) < 7) = true := by simp; omega
      have hj7 : (j : Int) < 7 := by omega
      obtain ⟨z1, z2, xj, h1, h2, hXj, _⟩ := seven_s (hL.below (Below.tr hbo4 hbp)) hj; obtain ⟨B, HB⟩ : ∃ b, Hid (decide (x = xj) = b) := ⟨_, rfl⟩; go_upto_region 12 with fail; refine region_invF (PhiF12 gL i j y1 y2 z1 z2 B) (fun w w' => Below w.heap.size w w') (fun W => Below wp.heap.size wp W) (by kernel_rfl) (by kernel_rfl) (by kernel_rfl) PhiF12.keep (fun _ _ hR hS => Below.tr hS hR) (bD _) (fun vs => by simp only [fillR, Act.put, sA, sB, sC, Nat.zero_add, Nat.reduceAdd]; rfl) ?_ ?_
      ·refine sK ?_ (sK ?_ (sK ?_ (sK ?_ (sK ?_ (sK ?_ (sK ?_ (sK ?_ (sK ?_ (sK ?_ (sK ?_ (sK ?_ (sK ?_ (sK ?_ (sK ?_ (sK ?_ (sK ?_ (sK ?_ (sK ?_ (sZ)))))))))))))))))))
       ·as_aux_lemma =>
        intro vs W hS hdep K hK; refine ⟨?_⟩; simp only [Act.put, sA, sB, sC, Nat.zero_add, Nat.reduceAdd] at hK ⊢; go_simp; with_reducible refine hK _ _ (Below.refl _ _) ?_
        exact rfl
       ·as_aux_lemma =>
        intro vs W hS hdep K hK; refine ⟨?_⟩; simp only [Act.put, sA, sB, sC, Nat.zero_add, Nat.reduceAdd] at hK ⊢; go_simp; with_reducible refine hK _ _ (Below.refl _ _) ?_
        exact rfl
       ·as_aux_lemma =>
        intro vs W hS hdep K hK; have d0 := hdep ⟨0, .data⟩ (by simp) rfl; simp only [PhiF12] at d0; have d1 := hdep ⟨1, .data⟩ (by simp) rfl; simp only [PhiF12] at d1; refine ⟨?_⟩; simp only [Act.put, sA, sB, sC, Nat.zero_add, Nat.reduceAdd, d0, d1] at hK ⊢; go_simp; with_reducible refine hK _ _ (Below.refl _ _) ?_
        exact rfl
       ·as_aux_lemma =>
        intro vs W hS hdep K hK; have d0 := hdep ⟨2, .data⟩ (by simp) rfl; simp only [PhiF12] at d0; have f1 := cell_keep hS g1; have f2 := cell_keep hS g2; refine ⟨?_⟩; simp only [Act.put, sA, sB, sC, Nat.zero_add, Nat.reduceAdd, d0] at hK ⊢; go_simp; with_reducible refine hK _ _ (Below.refl _ _) ?_
        exact rfl
       ·as_aux_lemma =>
        intro vs W hS hdep K hK; refine ⟨?_⟩; simp only [Act.put, sA, sB, sC, Nat.zero_add, Nat.reduceAdd] at hK ⊢; go_simp; with_reducible refine hK _ _ (Below.refl _ _) ?_
        exact rfl
       ·as_aux_lemma =>
        intro vs W hS hdep K hK; refine ⟨?_⟩; simp only [Act.put, sA, sB, sC, Nat.zero_add, Nat.reduceAdd] at hK ⊢; go_simp; with_reducible refine hK _ _ (Below.refl _ _) ?_
        exact rfl
       ·as_aux_lemma =>
        intro vs W hS hdep K hK; have d0 := hdep ⟨4, .data⟩ (by simp) rfl; simp only [PhiF12] at d0; have d1 := hdep ⟨5, .data⟩ (by simp) rfl; simp only [PhiF12] at d1; refine ⟨?_⟩; simp only [Act.put, sA, sB, sC, Nat.zero_add, Nat.reduceAdd, d0, d1] at hK ⊢; go_simp; with_reducible refine hK _ _ (Below.refl _ _) ?_
        exact rfl
       ·as_aux_lemma =>
        intro vs W hS hdep K hK; have d0 := hdep ⟨6, .data⟩ (by simp) rfl; simp only [PhiF12] at d0; have f1 := cell_keep hS h1; have f2 := cell_keep hS h2; refine ⟨?_⟩; simp only [Act.put, sA, sB, sC, Nat.zero_add, Nat.reduceAdd, d0] at hK ⊢; go_simp; with_reducible refine hK _ _ (Below.refl _ _) ?_
        exact rfl
       ·as_aux_lemma =>
        intro vs W hS hdep K hK; have d0 := hdep ⟨3, .data⟩ (by simp) rfl; simp only [PhiF12] at d0; have d1 := hdep ⟨7, .data⟩ (by simp) rfl; simp only [PhiF12] at d1; refine ⟨?_⟩; simp only [Act.put, sA, sB, sC, Nat.zero_add, Nat.reduceAdd, d0, d1] at hK ⊢; go_simp; refine (psame_b _ _ x xj B _ (hX.below hS) (hXj.below hS) HB).mono ?_; rintro e w' ⟨rfl, hb⟩; go_wp2_with fail; with_reducible refine hK _ _ hb ?_
        exact rfl
       ·as_aux_lemma =>
        intro vs W hS hdep K hK; refine ⟨?_⟩; simp only [Act.put, sA, sB, sC, Nat.zero_add, Nat.reduceAdd] at hK ⊢; go_simp; with_reducible refine hK _ _ (Below.refl _ _) ?_
        exact rfl
       ·as_aux_lemma =>
        intro vs W hS hdep K hK; refine ⟨?_⟩; simp only [Act.put, sA, sB, sC, Nat.zero_add, Nat.reduceAdd] at hK ⊢; go_simp; with_reducible refine hK _ _ (Below.refl _ _) ?_
        exact rfl
       ·as_aux_lemma =>
        intro vs W hS hdep K hK; have d0 := hdep ⟨9, .data⟩ (by simp) rfl; simp only [PhiF12] at d0; have d1 := hdep ⟨10, .data⟩ (by simp) rfl; simp only [PhiF12] at d1; refine ⟨?_⟩; simp only [Act.put, sA, sB, sC, Nat.zero_add, Nat.reduceAdd, d0, d1] at hK ⊢; go_simp; with_reducible refine hK _ _ (Below.refl _ _) ?_
        exact rfl
       ·as_aux_lemma =>
        intro vs W hS hdep K hK; have d0 := hdep ⟨11, .data⟩ (by simp) rfl; simp only [PhiF12] at d0; have f1 := cell_keep hS g1; have f2 := cell_keep hS g2; refine ⟨?_⟩; simp only [Act.put, sA, sB, sC, Nat.zero_add, Nat.reduceAdd, d0] at hK ⊢; go_simp; with_reducible refine hK _ _ (Below.refl _ _) ?_
        exact rfl
       ·as_aux_lemma =>
        intro vs W hS hdep K hK; refine ⟨?_⟩; simp only [Act.put, sA, sB, sC, Nat.zero_add, Nat.reduceAdd] at hK ⊢; go_simp; with_reducible refine hK _ _ (Below.refl _ _) ?_
        exact rfl
       ·as_aux_lemma =>
        intro vs W hS hdep K hK; refine ⟨?_⟩; simp only [Act.put, sA, sB, sC, Nat.zero_add, Nat.reduceAdd] at hK ⊢; go_simp; with_reducible refine hK _ _ (Below.refl _ _) ?_
        exact rfl
       ·as_aux_lemma =>
        intro vs W hS hdep K hK; have d0 := hdep ⟨13, .data⟩ (by simp) rfl; simp only [PhiF12] at d0; have d1 := hdep ⟨14, .data⟩ (by simp) rfl; simp only [PhiF12] at d1; refine ⟨?_⟩; simp only [Act.put, sA, sB, sC, Nat.zero_add, Nat.reduceAdd, d0, d1] at hK ⊢; go_simp; with_reducible refine hK _ _ (Below.refl _ _) ?_
        exact rfl
       ·as_aux_lemma =>
        intro vs W hS hdep K hK; have d0 := hdep ⟨15, .data⟩ (by simp) rfl; simp only [PhiF12] at d0; have f1 := cell_keep hS h1; have f2 := cell_keep hS h2; refine ⟨?_⟩; simp only [Act.put, sA, sB, sC, Nat.zero_add, Nat.reduceAdd, d0] at hK ⊢; go_simp; with_reducible refine hK _ _ (Below.refl _ _) ?_
        exact rfl
       ·as_aux_lemma =>
        intro vs W hS hdep K hK; have d0 := hdep ⟨12, .data⟩ (by simp) rfl; simp only [PhiF12] at d0; have d1 := hdep ⟨16, .data⟩ (by simp) rfl; simp only [PhiF12] at d1; refine ⟨?_⟩; simp only [Act.put, sA, sB, sC, Nat.zero_add, Nat.reduceAdd, d0, d1] at hK ⊢; go_simp; refine (rsame_b _ _ x xj B _ (hX.below hS) (hXj.below hS) HB).mono ?_; rintro e w' ⟨rfl, hb⟩; go_wp2_with fail; with_reducible refine hK _ _ hb ?_
        exact rfl
       ·as_aux_lemma =>
        intro vs W hS hdep K hK; have d0 := hdep ⟨8, .data⟩ (by simp) rfl; simp only [PhiF12] at d0; have d1 := hdep ⟨17, .data⟩ (by simp) rfl; simp only [PhiF12] at d1; refine ⟨?_⟩; simp only [Act.put, sA, sB, sC, Nat.zero_add, Nat.reduceAdd, d0, d1] at hK ⊢; go_simp; with_reducible refine hK _ _ (Below.refl _ _) ?_
        exact rfl
      ·intro vs w5 hb5 hv; have v18 := hv 18 (by simp); simp only [PhiF12] at v18; simp only [Act.put, sA, sB, sC, Nat.zero_add, Nat.reduceAdd, v18]; have hbp5 := Below.tr hbp hb5; clear hv v18 hb5 g1 g2 h1 h2 hX hXj; go_wp2_with fail
       go_roundg (G2 - 1)
       case measure => omega
       case rel => exact ⟨j + 1, by go_num, by omega, hbp5⟩
     ·have t2 : decide ((j : Int) < 7) = false := by simp; omega
      have hbo5 := Below.tr hbo4 hbp; by_cases hV : V = 0
      rotate_left
      ·have t3 : (V != 0) = true := by simpa using hV
       clear hV g1 g2 hX; go_wp2_with fail
       go_roundg (G - 1)
       case measure => omega
       case rel => exact ⟨i + 1, by go_num, by omega, hbo5⟩
      subst hV; have HVV : Hid (validP x = 0) := HV.out.symm
      have hSz : S.size ≤ 9223372036854775807 := by
       have := prS_size HVV.out HLM.out.1 HLM.out.2; rw [← HSS.out] at this; omega
      have HPP : Hid (parseF S = (0, x)) := by show _ = _; rw [HSS.out]; exact parse_print HVV.out HLM.out.1 HLM.out.2
      go_wp2_with fail; refine (encode_E _ x E _ hX s1 s2 HE hE1).mono ?_; rintro e w6 ⟨A24, c24, rfl, hBy, hb6⟩; have g1 := cell_keep hb6 g1; have g2 := cell_keep hb6 g2; have hX := hX.below hb6; have hbo6 := Below.tr hbo5 hb6; clear hb6 hbo5; go_wp2_with fail; refine (parse_sh parse_F S _ hSz 0 x HPP).mono ?_; rintro e w7 ⟨P1, p1, d1, P2, p2, d2, rfl, hPa, hb7⟩; have g1 := cell_keep hb7 g1; have g2 := cell_keep hb7 g2; have hX := hX.below hb7; have hBy := hBy.below hb7; have hbo7 := Below.tr hbo6 hb7; clear hb7 hbo6 HPP; go_upto_region 17 with fail; refine wp_name ?_; intro w8 HW; have hbX : Below w7.heap.size w7 w8 := by rw [HW.out]; exact bA _ _
      have hBk : Blk w8 w7.heap.size 29 #[.slice P1 p1 d1, .slice P2 p2 d2] := by rw [HW.out]; exact Blk.new _ _ _
      obtain ⟨gP, hgX⟩ : ∃ g, Hid (g = w7.heap.size) := ⟨_, rfl⟩; rw [← hgX.out] at hBk ⊢; have F0 := hBk.cell 0; have F1 := hBk.cell 1; simp only [List.getElem?_toArray, List.getElem?_cons_zero, List.getElem?_cons_succ] at F0 F1; have g1 := cell_keep hbX g1; have g2 := cell_keep hbX g2; have hX := hX.below hbX; have hBy := hBy.below hbX; have hPa := hPa.below hbX; have hbo8 := Below.tr hbo7 hbX; clear HW hBk hgX hbX hbo7; have hbA := bA w8 (.cells #[] 5); have hown0 : OwnB (w8.alloc (.cells #[] 5)) w8.heap.size (.slice (some ⟨w8.heap.size, 0, none⟩) 0 0) [] := ⟨own_nil0 _ _ _, fun x hx => by cases hx⟩; have hBA := hBy.below hbA; have hl : ([] : List Nat).length + E.length ≤ 1073741824 := by simp; omega
      have hsz := hbA.size
      iterate 7 (try go_step)
      refine wpList_appB rfl (.tmp 125) (.tmp 126) rfl w8.heap.size (.slice (some ⟨w8.heap.size, 0, none⟩) 0 0) [] ?hh1 hown0 A24 E.length c24 E ?hh2 hBA hl hsz ?_
      case hh1 => rfl
      case hh2 => rfl
      intro v9 w9 hown9 hg9 _; have hb9 := hbA.trans ((Below.refl w8.heap.size _).grown hg9 hsz (fun q hq => hown0.ge q hq)); rw [List.nil_append] at hown9; obtain ⟨A9, c9, rfl⟩ := hown9.shp; have h79 := h7.below (Below.tr hbo8 hb9); have hk7l := h79.len; have hl2 : E.length + l7.length ≤ 1073741824 := by omega
      have hsz9 := hb9.size; clear hbA hown0 hBA hl hsz hg9 hk7l
      iterate 3 (try go_step)
      refine wpList_appB rfl (.tmp 127) (.tmp 128) rfl w8.heap.size (.slice A9 E.length c9) E ?hh3 hown9 A7 k7 c7 l7 ?hh4 h79 hl2 hsz9 ?_
      case hh3 => rfl
      case hh4 => rfl
      intro v10 w10 hown10 hg10 _; have hb10 := hb9.trans ((Below.refl w8.heap.size _).grown hg10 hsz9 (fun q hq => hown9.ge q hq)); obtain ⟨Q, HQ⟩ : ∃ Q, Hid (Q = E ++ l7) := ⟨_, rfl⟩; have hl7 : l7.length ≤ 1048576 := by have := h79.len; omega
      have hQ : Q.length ≤ 2000000 := by rw [HQ.out, List.length_append]; omega
      rw [← HQ.out] at hown10; obtain ⟨A10, c10, rfl⟩ := hown10.shp; have hBQ := hown10.by_ (by omega)
      have HDD : Hid (decF Q = (x, E.length, 0)) := by
       show _ = _
       rw [HQ.out, HE.out]; exact decF_enc HLM.out.1 HLM.out.2 (by omega) (by omega) HVV.out
      have g1 := cell_keep hb10 g1; have g2 := cell_keep hb10 g2; have F0 := cell_keep hb10 F0; have F1 := cell_keep hb10 F1; have hX := hX.below hb10; have hPa := hPa.below hb10; have hbo10 := Below.tr hbo8 hb10; clear hown9 hg10 hl2 hsz9 h79 hown10 hb9 hb10 hbo8 HQ hBy; go_wp2_with fail; refine (dec_sh decode_n5 A10 _ c10 Q _ hBQ (by omega) x E.length 0 HDD).mono ?_; rintro e w11 ⟨R1, m1, f1, R2, m2, f2, rfl, hPb, hb11⟩; have g1 := cell_keep hb11 g1; have g2 := cell_keep hb11 g2; have F0 := cell_keep hb11 F0; have F1 := cell_keep hb11 F1; have hX := hX.below hb11; have hPa := hPa.below hb11; have hbo11 := Below.tr hbo10 hb11; clear hb11 hbo10 hBQ HDD; go_upto_region 18 with fail; refine wp_name ?_; intro w12 HW; have hbX : Below w11.heap.size w11 w12 := by rw [HW.out]; exact bA _ _
      have hBk : Blk w12 w11.heap.size 29 #[.slice R1 m1 f1, .slice R2 m2 f2] := by rw [HW.out]; exact Blk.new _ _ _
      obtain ⟨gD, hgX⟩ : ∃ g, Hid (g = w11.heap.size) := ⟨_, rfl⟩; rw [← hgX.out] at hBk ⊢; have G0 := hBk.cell 0; have G1 := hBk.cell 1; simp only [List.getElem?_toArray, List.getElem?_cons_zero, List.getElem?_cons_succ] at G0 G1; have g1 := cell_keep hbX g1; have g2 := cell_keep hbX g2; have F0 := cell_keep hbX F0; have F1 := cell_keep hbX F1; have hX := hX.below hbX; have hPa := hPa.below hbX; have hPb := hPb.below hbX; have hbo12 := Below.tr hbo11 hbX; clear HW hBk hgX hbX hbo11; refine region_invF (PhiF18 gL i y1 y2 (.slice P1 p1 d1) (.slice P2 p2 d2) (.slice R1 m1 f1) (.slice R2 m2 f2) A24 E.length c24) (fun w w' => Below w.heap.size w w') (fun W => Below w12.heap.size w12 W) (by kernel_rfl) (by kernel_rfl) (by kernel_rfl) PhiF18.keep (fun _ _ hR hS => Below.tr hS hR) (bD _) (fun vs => by simp only [fillR, Act.put, sA, sB, sC, Nat.zero_add, Nat.reduceAdd]; rfl) ?_ ?_
      ·refine sK ?_ (sK ?_ (sK ?_ (sK ?_ (sK ?_ (sK ?_ (sK ?_ (sK ?_ (sK ?_ (sK ?_ (sK ?_ (sK ?_ (sK ?_ (sK ?_ (sK ?_ (sK ?_ (sK ?_ (sK ?_ (sK ?_ (sK ?_ (sK ?_ (sK ?_ (sK ?_ (sK ?_ (sK ?_ (sK ?_ (sK ?_ (sK ?_ (sK ?_ (sK ?_ (sZ))))))))))))))))))))))))))))))
       ·as_aux_lemma =>
        intro vs W hS hdep K hK; refine ⟨?_⟩; simp only [Act.put, sA, sB, sC, Nat.zero_add, Nat.reduceAdd] at hK ⊢; go_simp; with_reducible refine hK _ _ (Below.refl _ _) ?_
        exact rfl
       ·as_aux_lemma =>
        intro vs W hS hdep K hK; have d0 := hdep ⟨0, .data⟩ (by simp) rfl; simp only [PhiF18] at d0; refine ⟨?_⟩; simp only [Act.put, sA, sB, sC, Nat.zero_add, Nat.reduceAdd, d0] at hK ⊢; go_simp; with_reducible refine hK _ _ (Below.refl _ _) ?_
        exact rfl
       ·as_aux_lemma =>
        intro vs W hS hdep K hK; have d0 := hdep ⟨1, .data⟩ (by simp) rfl; simp only [PhiF18] at d0; refine ⟨?_⟩; simp only [Act.put, sA, sB, sC, Nat.zero_add, Nat.reduceAdd, d0] at hK ⊢; go_simp; with_reducible refine hK _ _ (Below.refl _ _) ?_
        exact rfl
       ·as_aux_lemma =>
        intro vs W hS hdep K hK; have d0 := hdep ⟨2, .guard⟩ (by simp) rfl; simp only [PhiF18] at d0; refine ⟨?_⟩; simp only [Act.put, sA, sB, sC, Nat.zero_add, Nat.reduceAdd, d0] at hK ⊢; go_simp; with_reducible refine hK _ _ (Below.refl _ _) ?_
        exact rfl
       ·as_aux_lemma =>
        intro vs W hS hdep K hK; have d0 := hdep ⟨3, .data⟩ (by simp) rfl; simp only [PhiF18] at d0; have d1 := hdep ⟨2, .guard⟩ (by simp) rfl; simp only [PhiF18] at d1; refine ⟨?_⟩; simp only [Act.put, sA, sB, sC, Nat.zero_add, Nat.reduceAdd, d0, d1] at hK ⊢; go_simp; with_reducible refine hK _ _ (Below.refl _ _) ?_
        exact rfl
       ·as_aux_lemma =>
        intro vs W hS hdep K hK; have d0 := hdep ⟨2, .data⟩ (by simp) rfl; simp only [PhiF18] at d0; have d1 := hdep ⟨4, .data⟩ (by simp) rfl; simp only [PhiF18] at d1; refine ⟨?_⟩; simp only [Act.put, sA, sB, sC, Nat.zero_add, Nat.reduceAdd, d0, d1] at hK ⊢; go_simp; with_reducible refine hK _ _ (Below.refl _ _) ?_
        exact rfl
       ·as_aux_lemma =>
        intro vs W hS hdep K hK; have d0 := hdep ⟨5, .data⟩ (by simp) rfl; simp only [PhiF18] at d0; have d1 := hdep ⟨2, .chain⟩ (by simp) rfl; simp only [PhiF18] at d1; refine ⟨?_⟩; simp only [Act.put, sA, sB, sC, Nat.zero_add, Nat.reduceAdd, d0, d1] at hK ⊢; go_simp; with_reducible refine hK _ _ (Below.refl _ _) ?_
        exact rfl
       ·as_aux_lemma =>
        intro vs W hS hdep K hK; have d0 := hdep ⟨6, .guard⟩ (by simp) rfl; simp only [PhiF18] at d0; refine ⟨?_⟩; simp only [Act.put, sA, sB, sC, Nat.zero_add, Nat.reduceAdd, d0] at hK ⊢; go_simp; with_reducible refine hK _ _ (Below.refl _ _) ?_
        exact rfl
       ·as_aux_lemma =>
        intro vs W hS hdep K hK; have d0 := hdep ⟨6, .guard⟩ (by simp) rfl; simp only [PhiF18] at d0; refine ⟨?_⟩; simp only [Act.put, sA, sB, sC, Nat.zero_add, Nat.reduceAdd, d0] at hK ⊢; go_simp; with_reducible refine hK _ _ (Below.refl _ _) ?_
        exact rfl
       ·as_aux_lemma =>
        intro vs W hS hdep K hK; have d0 := hdep ⟨8, .data⟩ (by simp) rfl; simp only [PhiF18] at d0; have d1 := hdep ⟨6, .guard⟩ (by simp) rfl; simp only [PhiF18] at d1; refine ⟨?_⟩; simp only [Act.put, sA, sB, sC, Nat.zero_add, Nat.reduceAdd, d0, d1] at hK ⊢; go_simp; with_reducible refine hK _ _ (Below.refl _ _) ?_
        exact rfl
       ·as_aux_lemma =>
        intro vs W hS hdep K hK; have d0 := hdep ⟨7, .data⟩ (by simp) rfl; simp only [PhiF18] at d0; have d1 := hdep ⟨9, .data⟩ (by simp) rfl; simp only [PhiF18] at d1; have d2 := hdep ⟨6, .guard⟩ (by simp) rfl; simp only [PhiF18] at d2; refine ⟨?_⟩; simp only [Act.put, sA, sB, sC, Nat.zero_add, Nat.reduceAdd, d0, d1, d2] at hK ⊢; go_simp; with_reducible refine hK _ _ (Below.refl _ _) ?_
        exact rfl
       ·as_aux_lemma =>
        intro vs W hS hdep K hK; have d0 := hdep ⟨6, .data⟩ (by simp) rfl; simp only [PhiF18] at d0; have d1 := hdep ⟨10, .data⟩ (by simp) rfl; simp only [PhiF18] at d1; refine ⟨?_⟩; simp only [Act.put, sA, sB, sC, Nat.zero_add, Nat.reduceAdd, d0, d1] at hK ⊢; go_simp; with_reducible refine hK _ _ (Below.refl _ _) ?_
        exact rfl
       ·as_aux_lemma =>
        intro vs W hS hdep K hK; have d0 := hdep ⟨11, .data⟩ (by simp) rfl; simp only [PhiF18] at d0; have d1 := hdep ⟨6, .chain⟩ (by simp) rfl; simp only [PhiF18] at d1; refine ⟨?_⟩; simp only [Act.put, sA, sB, sC, Nat.zero_add, Nat.reduceAdd, d0, d1] at hK ⊢; go_simp; with_reducible refine hK _ _ (Below.refl _ _) ?_
        exact rfl
       ·as_aux_lemma =>
        intro vs W hS hdep K hK; have d0 := hdep ⟨12, .guard⟩ (by simp) rfl; simp only [PhiF18] at d0; have f1 := cell_keep hS F0; have f2 := cell_keep hS F1; refine ⟨?_⟩; simp only [Act.put, sA, sB, sC, Nat.zero_add, Nat.reduceAdd, d0] at hK ⊢; go_simp; with_reducible refine hK _ _ (Below.refl _ _) ?_
        exact rfl
       ·as_aux_lemma =>
        intro vs W hS hdep K hK; have d0 := hdep ⟨12, .guard⟩ (by simp) rfl; simp only [PhiF18] at d0; refine ⟨?_⟩; simp only [Act.put, sA, sB, sC, Nat.zero_add, Nat.reduceAdd, d0] at hK ⊢; go_simp; with_reducible refine hK _ _ (Below.refl _ _) ?_
        exact rfl
       ·as_aux_lemma =>
        intro vs W hS hdep K hK; have d0 := hdep ⟨12, .guard⟩ (by simp) rfl; simp only [PhiF18] at d0; refine ⟨?_⟩; simp only [Act.put, sA, sB, sC, Nat.zero_add, Nat.reduceAdd, d0] at hK ⊢; go_simp; with_reducible refine hK _ _ (Below.refl _ _) ?_
        exact rfl
       ·as_aux_lemma =>
        intro vs W hS hdep K hK; have d0 := hdep ⟨14, .data⟩ (by simp) rfl; simp only [PhiF18] at d0; have d1 := hdep ⟨15, .data⟩ (by simp) rfl; simp only [PhiF18] at d1; have d2 := hdep ⟨12, .guard⟩ (by simp) rfl; simp only [PhiF18] at d2; refine ⟨?_⟩; simp only [Act.put, sA, sB, sC, Nat.zero_add, Nat.reduceAdd, d0, d1, d2] at hK ⊢; go_simp; with_reducible refine hK _ _ (Below.refl _ _) ?_
        exact rfl
       ·as_aux_lemma =>
        intro vs W hS hdep K hK; have d0 := hdep ⟨16, .data⟩ (by simp) rfl; simp only [PhiF18] at d0; have d1 := hdep ⟨12, .guard⟩ (by simp) rfl; simp only [PhiF18] at d1; have f1 := cell_keep hS g1; have f2 := cell_keep hS g2; refine ⟨?_⟩; simp only [Act.put, sA, sB, sC, Nat.zero_add, Nat.reduceAdd, d0, d1] at hK ⊢; go_simp; with_reducible refine hK _ _ (Below.refl _ _) ?_
        exact rfl
       ·as_aux_lemma =>
        intro vs W hS hdep K hK; have d0 := hdep ⟨13, .data⟩ (by simp) rfl; simp only [PhiF18] at d0; have d1 := hdep ⟨17, .data⟩ (by simp) rfl; simp only [PhiF18] at d1; have d2 := hdep ⟨12, .guard⟩ (by simp) rfl; simp only [PhiF18] at d2; refine ⟨?_⟩; simp only [Act.put, sA, sB, sC, Nat.zero_add, Nat.reduceAdd, d0, d1, d2] at hK ⊢; go_simp; refine (rsame_P _ _ x _ (hPa.below hS) (hX.below hS)).mono ?_; rintro e w' ⟨rfl, hb⟩; go_wp2_with fail; with_reducible refine hK _ _ hb ?_
        exact rfl
       ·as_aux_lemma =>
        intro vs W hS hdep K hK; have d0 := hdep ⟨18, .data⟩ (by simp) rfl; simp only [PhiF18] at d0; have d1 := hdep ⟨12, .guard⟩ (by simp) rfl; simp only [PhiF18] at d1; refine ⟨?_⟩; simp only [Act.put, sA, sB, sC, Nat.zero_add, Nat.reduceAdd, d0, d1] at hK ⊢; go_simp; with_reducible refine hK _ _ (Below.refl _ _) ?_
        exact rfl
       ·as_aux_lemma =>
        intro vs W hS hdep K hK; have d0 := hdep ⟨12, .data⟩ (by simp) rfl; simp only [PhiF18] at d0; have d1 := hdep ⟨19, .data⟩ (by simp) rfl; simp only [PhiF18] at d1; refine ⟨?_⟩; simp only [Act.put, sA, sB, sC, Nat.zero_add, Nat.reduceAdd, d0, d1] at hK ⊢; go_simp; with_reducible refine hK _ _ (Below.refl _ _) ?_
        exact rfl
       ·as_aux_lemma =>
        intro vs W hS hdep K hK; have d0 := hdep ⟨20, .data⟩ (by simp) rfl; simp only [PhiF18] at d0; have d1 := hdep ⟨18, .chain⟩ (by simp) rfl; simp only [PhiF18] at d1; refine ⟨?_⟩; simp only [Act.put, sA, sB, sC, Nat.zero_add, Nat.reduceAdd, d0, d1] at hK ⊢; go_simp; with_reducible refine hK _ _ (Below.refl _ _) ?_
        exact rfl
       ·as_aux_lemma =>
        intro vs W hS hdep K hK; have d0 := hdep ⟨21, .guard⟩ (by simp) rfl; simp only [PhiF18] at d0; have f1 := cell_keep hS G0; have f2 := cell_keep hS G1; refine ⟨?_⟩; simp only [Act.put, sA, sB, sC, Nat.zero_add, Nat.reduceAdd, d0] at hK ⊢; go_simp; with_reducible refine hK _ _ (Below.refl _ _) ?_
        exact rfl
       ·as_aux_lemma =>
        intro vs W hS hdep K hK; have d0 := hdep ⟨21, .guard⟩ (by simp) rfl; simp only [PhiF18] at d0; refine ⟨?_⟩; simp only [Act.put, sA, sB, sC, Nat.zero_add, Nat.reduceAdd, d0] at hK ⊢; go_simp; with_reducible refine hK _ _ (Below.refl _ _) ?_
        exact rfl
       ·as_aux_lemma =>
        intro vs W hS hdep K hK; have d0 := hdep ⟨21, .guard⟩ (by simp) rfl; simp only [PhiF18] at d0; refine ⟨?_⟩; simp only [Act.put, sA, sB, sC, Nat.zero_add, Nat.reduceAdd, d0] at hK ⊢; go_simp; with_reducible refine hK _ _ (Below.refl _ _) ?_
        exact rfl
       ·as_aux_lemma =>
        intro vs W hS hdep K hK; have d0 := hdep ⟨23, .data⟩ (by simp) rfl; simp only [PhiF18] at d0; have d1 := hdep ⟨24, .data⟩ (by simp) rfl; simp only [PhiF18] at d1; have d2 := hdep ⟨21, .guard⟩ (by simp) rfl; simp only [PhiF18] at d2; refine ⟨?_⟩; simp only [Act.put, sA, sB, sC, Nat.zero_add, Nat.reduceAdd, d0, d1, d2] at hK ⊢; go_simp; with_reducible refine hK _ _ (Below.refl _ _) ?_
        exact rfl
       ·as_aux_lemma =>
        intro vs W hS hdep K hK; have d0 := hdep ⟨25, .data⟩ (by simp) rfl; simp only [PhiF18] at d0; have d1 := hdep ⟨21, .guard⟩ (by simp) rfl; simp only [PhiF18] at d1; have f1 := cell_keep hS g1; have f2 := cell_keep hS g2; refine ⟨?_⟩; simp only [Act.put, sA, sB, sC, Nat.zero_add, Nat.reduceAdd, d0, d1] at hK ⊢; go_simp; with_reducible refine hK _ _ (Below.refl _ _) ?_
        exact rfl
       ·as_aux_lemma =>
        intro vs W hS hdep K hK; have d0 := hdep ⟨22, .data⟩ (by simp) rfl; simp only [PhiF18] at d0; have d1 := hdep ⟨26, .data⟩ (by simp) rfl; simp only [PhiF18] at d1; have d2 := hdep ⟨21, .guard⟩ (by simp) rfl; simp only [PhiF18] at d2; refine ⟨?_⟩; simp only [Act.put, sA, sB, sC, Nat.zero_add, Nat.reduceAdd, d0, d1, d2] at hK ⊢; go_simp; refine (rsame_P _ _ x _ (hPb.below hS) (hX.below hS)).mono ?_; rintro e w' ⟨rfl, hb⟩; go_wp2_with fail; with_reducible refine hK _ _ hb ?_
        exact rfl
       ·as_aux_lemma =>
        intro vs W hS hdep K hK; have d0 := hdep ⟨27, .data⟩ (by simp) rfl; simp only [PhiF18] at d0; have d1 := hdep ⟨21, .guard⟩ (by simp) rfl; simp only [PhiF18] at d1; refine ⟨?_⟩; simp only [Act.put, sA, sB, sC, Nat.zero_add, Nat.reduceAdd, d0, d1] at hK ⊢; go_simp; with_reducible refine hK _ _ (Below.refl _ _) ?_
        exact rfl
       ·as_aux_lemma =>
        intro vs W hS hdep K hK; have d0 := hdep ⟨21, .data⟩ (by simp) rfl; simp only [PhiF18] at d0; have d1 := hdep ⟨28, .data⟩ (by simp) rfl; simp only [PhiF18] at d1; refine ⟨?_⟩; simp only [Act.put, sA, sB, sC, Nat.zero_add, Nat.reduceAdd, d0, d1] at hK ⊢; go_simp; with_reducible refine hK _ _ (Below.refl _ _) ?_
        exact rfl
      ·intro vs w13 hb13 hv; have v29 := hv 29 (by simp); simp only [PhiF18] at v29; simp only [Act.put, sA, sB, sC, Nat.zero_add, Nat.reduceAdd, v29]; have hbo13 := Below.tr hbo12 hb13; clear hv v29 hb13 g1 g2 F0 F1 G0 G1 hX hPa hPb; go_wp2_with fail
       go_roundg (G - 1)
       case measure => omega
       case rel => exact ⟨i + 1, by go_num, by omega, hbo13⟩
  ·have t1 : decide ((i : Int) < 7) = false := by simp; omega
   have hbw := Below.tr hbw hbo; clear hL HSm; have hq1 : ¬ (9223372036854775807 < 1 + s.size) := by omega
   have hq2 : ¬ (9223372036854775807 < s.size + 1) := by omega
   have hq3 : ¬ (9223372036854775807 < s.size + 1 + s.size) := by omega
   go_wp2_with fail; refine (around_n n 100 _ HIN.out.1 HIN.out.2 (by omega) (by omega)).mono ?_; rintro e w' ⟨z1, rfl, hz1, _, rfl⟩; go_wp2_with fail; refine (rwhole_n z1 _ (by omega)).mono ?_; rintro e w2 ⟨W1, o1, u1, rfl, hN1, hb2⟩; have hbw2 := Below.tr hbw hb2; have ho1 : o1 ≤ 64 := by rw [hN1.1]; exact Nm.lb_length_lt.2 (Nat.lt_of_lt_of_le (show z1 < Nm.B by unfold Nm.B; omega) (Nat.le_self_pow (by omega) _))
   clear hb2; go_wp2_with fail; refine (rdecimal_n W1 o1 u1 z1 _ hN1 ho1).mono ?_; rintro e w3 ⟨rfl, hb3⟩; have hbw3 := Below.tr hbw2 hb3; obtain ⟨D1, HD1⟩ : ∃ S, Hid (S = Nm.decS z1) := ⟨_, rfl⟩; have hD1 : D1.size ≤ 1000 := by rw [HD1.out]; exact decS_size (Nat.lt_of_lt_of_le (show z1 < Nm.B by unfold Nm.B; omega) (Nat.le_self_pow (by omega) _))
   rw [← HD1.out]; have hq4 : ¬ (9223372036854775807 < D1.size + 1) := by omega
   clear hb3 hN1 hbw2 ho1; go_wp2_with fail; refine (around_n m 100 _ HIM.out.1 HIM.out.2 (by omega) (by omega)).mono ?_; rintro e w' ⟨z2, rfl, hz2, _, rfl⟩; go_wp2_with fail; refine (rwhole_n z2 _ (by omega)).mono ?_; rintro e w4 ⟨W2, o2, u2, rfl, hN2, hb4⟩; have hbw4 := Below.tr hbw3 hb4; have ho2 : o2 ≤ 64 := by rw [hN2.1]; exact Nm.lb_length_lt.2 (Nat.lt_of_lt_of_le (show z2 < Nm.B by unfold Nm.B; omega) (Nat.le_self_pow (by omega) _))
   clear hb4; go_wp2_with fail; refine (rdecimal_n W2 o2 u2 z2 _ hN2 ho2).mono ?_; rintro e w5 ⟨rfl, hb5⟩; have hbw5 := Below.tr hbw4 hb5; obtain ⟨D2, HD2⟩ : ∃ S, Hid (S = Nm.decS z2) := ⟨_, rfl⟩; have hD2 : D2.size ≤ 1000 := by rw [HD2.out]; exact decS_size (Nat.lt_of_lt_of_le (show z2 < Nm.B by unfold Nm.B; omega) (Nat.le_self_pow (by omega) _))
   rw [← HD2.out]; have hq5 : ¬ (9223372036854775807 < D1.size + 1 + D2.size) := by omega
   clear hb5 hN2 hbw4 ho2 hz1 hz2
   go_upto_region 21 with (refine wpList_sliceN rfl 47 9 6 [(0, .tmp 164), (1, .tmp 166), (2, .tmp 170), (3, .tmp 180), (4, .const (.string { data := #[47] })), (5, .const (.string { data := #[] }))] rfl #[.string s, .string ({ data := #[48] } ++ s), .string (s ++ { data := #[47] } ++ s), .string (D1 ++ { data := #[47] } ++ D2), .string { data := #[47] }, .string { data := #[] }] iS (.string { data := #[] }) 1 [(0, .string s), (1, .string ({ data := #[48] } ++ s)), (2, .string (s ++ { data := #[47] } ++ s)), (3, .string (D1 ++ { data := #[47] } ++ D2)), (4, .string { data := #[47] }), (5, .string { data := #[] })] Tryz.underlying47 hiS hzS hzS1 (by omega) (by omega) rfl (fill_s6 _ _ _ _ _ _) ?_; simp only [Act.put, sA, sB, sC])
   refine wp_name ?_; intro w6 HW; have hbX : Below w5.heap.size w5 w6 := by rw [HW.out]; exact bA _ _
   have hBk : Blk w6 w5.heap.size 9 #[.string s, .string ({ data := #[48] } ++ s), .string (s ++ { data := #[47] } ++ s), .string (D1 ++ { data := #[47] } ++ D2), .string { data := #[47] }, .string { data := #[] }] := by rw [HW.out]; exact Blk.new _ _ _
   obtain ⟨gT, hgX⟩ : ∃ g, Hid (g = w5.heap.size) := ⟨_, rfl⟩; rw [← hgX.out] at hBk ⊢
   have HSIX : Hid (∀ j, j < 6 → ∃ u : ByteArray, w6.cell? ⟨gT, j, none⟩ = some (.string u) ∧ u.size ≤ 9223372036854775807) := by
    intro j hj; have : j = 0 ∨ j = 1 ∨ j = 2 ∨ j = 3 ∨ j = 4 ∨ j = 5 := by omega
    rcases this with rfl | rfl | rfl | rfl | rfl | rfl
    ·exact ⟨_, by rw [hBk.cell]; rfl, by omega⟩
    ·exact ⟨_, by rw [hBk.cell]; rfl, by rw [ByteArray.size_append]; show 1 + s.size ≤ _; omega⟩
    ·exact ⟨_, by rw [hBk.cell]; rfl, by rw [ByteArray.size_append, ByteArray.size_append]; show s.size + 1 + s.size ≤ _; omega⟩
    ·exact ⟨_, by rw [hBk.cell]; rfl, by rw [ByteArray.size_append, ByteArray.size_append]; show D1.size + 1 + D2.size ≤ _; omega⟩
    ·exact ⟨_, by rw [hBk.cell]; rfl, by show 1 ≤ _; omega⟩
    ·exact ⟨_, by rw [hBk.cell]; rfl, by show 0 ≤ _; omega⟩
   have hbw6 := Below.tr hbw5 hbX; clear HW hgX hBk hbX hq1 hq2 hq3 hq4 hq5 hD1 hD2 HD1 HD2 hbw5; go_wp2_with fail
   go_loopg [31] 6 (fun j x wr => ∃ i : Nat, x = .int .i64 i ∧ i + j = 6 ∧ Below w6.heap.size w6 wr)
   case atStart => exact ⟨0, rfl, by omega, Below.refl _ _⟩
   case round =>
    obtain ⟨G2, hG2⟩ : ∃ G, G = gk := ⟨gk, rfl⟩; subst hG2; obtain ⟨j, rfl, hjj, hbp⟩ := hrel; obtain ⟨wp, hwp⟩ : ∃ wo, wo = wr := ⟨_, rfl⟩; subst hwp; by_cases hj : j < 6
    ·have t2 : decide ((j : Int) < 6) = true := by simp; omega
     have hj6 : (j : Int) < 6 := by omega
     obtain ⟨u, hcell, hu⟩ := HSIX.out j hj; have hc := cell_keep hbp hcell; obtain ⟨r0, HR0⟩ : ∃ r, Hid (r = (parseF u).1) := ⟨_, rfl⟩; obtain ⟨x0, HX0⟩ : ∃ r, Hid (r = (parseF u).2) := ⟨_, rfl⟩; have HD : Hid (parseF u = (r0, x0)) := by show _ = _; rw [HR0.out, HX0.out]
     clear HR0 HX0 hcell; go_wp2_with fail; refine (parse_sh parse_F u _ hu r0 x0 HD).mono ?_; rintro e w7 ⟨P1, p1, d1, P2, p2, d2, rfl, hra, hb7⟩; have hc := cell_keep hb7 hc; have hbp7 := Below.tr hbp hb7; clear hb7; go_upto_region 25 with fail; refine wp_name ?_; intro w8 HW; have hbX : Below w7.heap.size w7 w8 := by rw [HW.out]; exact bA _ _
     have hBk : Blk w8 w7.heap.size 29 #[.slice P1 p1 d1, .slice P2 p2 d2] := by rw [HW.out]; exact Blk.new _ _ _
     obtain ⟨g3, hgX⟩ : ∃ g, Hid (g = w7.heap.size) := ⟨_, rfl⟩; rw [← hgX.out] at hBk ⊢; have F0 := hBk.cell 0; have F1 := hBk.cell 1; simp only [List.getElem?_toArray, List.getElem?_cons_zero, List.getElem?_cons_succ] at F0 F1; have hc := cell_keep hbX hc; have hra := hra.below hbX; have hbp8 := Below.tr hbp7 hbX; clear HW hBk hgX hbX hbp7; go_wp2_with fail; refine (parse_sh rparse_F u _ hu r0 x0 HD).mono ?_; rintro e w9 ⟨R1, m1, f1, R2, m2, f2, rfl, hrb, hb9⟩; have F0 := cell_keep hb9 F0; have F1 := cell_keep hb9 F1; have hra := hra.below hb9; have hbp9 := Below.tr hbp8 hb9; clear hb9 hbp8 hc; go_upto_region 26 with fail; refine wp_name ?_; intro w10 HW; have hbX : Below w9.heap.size w9 w10 := by rw [HW.out]; exact bA _ _
     have hBk : Blk w10 w9.heap.size 29 #[.slice R1 m1 f1, .slice R2 m2 f2] := by rw [HW.out]; exact Blk.new _ _ _
     obtain ⟨g4, hgX⟩ : ∃ g, Hid (g = w9.heap.size) := ⟨_, rfl⟩; rw [← hgX.out] at hBk ⊢; have G0 := hBk.cell 0; have G1 := hBk.cell 1; simp only [List.getElem?_toArray, List.getElem?_cons_zero, List.getElem?_cons_succ] at G0 G1; have F0 := cell_keep hbX F0; have F1 := cell_keep hbX F1; have hra := hra.below hbX; have hrb := hrb.below hbX; have hbp10 := Below.tr hbp9 hbX; have tE : (r0 != r0) = false := by simp
     clear HW hBk hgX hbX hbp9; go_wp2_with fail; refine (rsame_P _ _ _ _ hra hrb).mono ?_; rintro e w11 ⟨rfl, hb11⟩; have hbp11 := Below.tr hbp10 hb11; clear hra hrb F0 F1 G0 G1 hb11; go_wp2_with fail
     go_roundg (G2 - 1)
     case measure => omega
     case rel => exact ⟨j + 1, by go_num, by omega, hbp11⟩
    ·have t2 : decide ((j : Int) < 6) = false := by simp; omega
     have hbw7 := Below.tr hbw6 hbp; go_wp2_with fail; refine (lives5_n _).mono ?_; rintro e w' ⟨rfl, hb⟩; go_wp2_with fail; go_ret; exact ⟨rfl, Below.tr hbw7 hb⟩
end Go.Proofs.YtmbfjmilhfmnkaaGreatDoor
