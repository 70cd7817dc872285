import Derived.Test.YtijkfagkbfbpmaaGreatDoorKSt34Proof21
import Derived.Test.YtijkfagkbfbpmaaGreatDoorKSt34Proof24
import Derived.Test.YtijkfagkbfbpmaaGreatDoorKSt34Proof26
import Derived.Test.YtijkfagkbfbpmaaGreatDoorKSt34Proof27
import Derived.Test.YtijkfagkbfbpmaaGreatDoorKSt34Proof16
import Derived.Test.YtijkfagkbfbpmaaGreatDoorKSt34Proof19
import Derived.Test.YtijkfagkbfbpmaaGreatDoorS0
set_option linter.unusedVariables false
set_option linter.unusedSimpArgs false
namespace Go.Proofs.YtijkfagkbfbpmaaGreatDoor
open Go Go.RowKit
/-- a hexadecimal digit -/
def hxN (n : Nat) : Nat := if n < 10 then 48 + n else 87 + n
theorem hxN_lt {n : Nat} (h : n < 16) : hxN n < 256 := by unfold hxN; split <;> omega
/-- the hexadecimal digits of bytes -/
def hexL (d : List Int) : List Nat := d.flatMap fun x => [hxN (x.toNat / 16), hxN (x.toNat % 16)]
theorem hexL_len (d : List Int) : (hexL d).length = 2 * d.length := by
 unfold hexL
 induction d with
 | nil => rfl
 | cons x l ih => rw [List.flatMap_cons, List.length_append, ih, List.length_cons]; simp; omega
theorem hexL_succ {d : List Int} {i : Nat} {y : Nat} (h : d[i]? = some (y : Int)) : hexL (d.take (i + 1)) = hexL (d.take i) ++ [hxN (y / 16), hxN (y % 16)] := by
 obtain ⟨h1, h2⟩ := List.getElem?_eq_some_iff.1 h; unfold hexL; rw [List.take_succ_eq_append_getElem h1, List.flatMap_append, h2]; simp
theorem dig_ix (n : Nat) (h : n < 16) (w : World) : (Instr.index 9 (.string { data := #[48, 49, 50, 51, 52, 53, 54, 55, 56, 57, 97, 98, 99, 100, 101, 102] }) (.int .u8 (n : Nat))).run Tryz.prog w = .ok (.int .u8 (hxN n : Nat)) w := by
 rw [run_index_string w _ _ _ _ Tryz.underlying9]; have hc : n = 0 ∨ n = 1 ∨ n = 2 ∨ n = 3 ∨ n = 4 ∨ n = 5 ∨ n = 6 ∨ n = 7 ∨ n = 8 ∨ n = 9 ∨ n = 10 ∨ n = 11 ∨ n = 12 ∨ n = 13 ∨ n = 14 ∨ n = 15 := by omega
 rcases hc with rfl | rfl | rfl | rfl | rfl | rfl | rfl | rfl | rfl | rfl | rfl | rfl | rfl | rfl | rfl | rfl <;> rfl
theorem arr_ix (l : List Value) (v : Value) (i : Nat) (hl : l.length = 16) (hi : i < 16) (h : l[i]? = some v) (h1 : v.oneCell' = true) (w : World) : (Instr.index 31 (.agg l.toArray) (.int .i64 (i : Nat))).run Tryz.prog w = .ok v w := by
 have hn : (0 : Int) ≤ (i : Int) ∧ (i : Int) < 16 := by omega
 simp [Instr.index, run_underlying Tryz.underlying31, asIntOf, hn, go_sem]; rw [if_pos hi, h]; rfl
/-- what strconv.Itoa says of a number, from now on -/
def ItoaS (w : World) (n : Int) (s : ByteArray) : Prop := s.size ≤ 100 ∧ ∀ W, Below w.heap.size w W → Calls Tryz.prog 79 #[.int .i64 n] W fun e w' => e = .returned (.string s) ∧ Below W.heap.size W w'
theorem ItoaS.below {w w' : World} {n : Int} {s : ByteArray} (h : ItoaS w n s) (hb : Below w.heap.size w w') : ItoaS w' n s := ⟨h.1, fun W hW => h.2 W (Below.tr hb hW)⟩
/-- the text of bytes -/
def txB (l : List Nat) : ByteArray := ⟨(l.map UInt8.ofNat).toArray⟩
def slB : ByteArray := ⟨#[47]⟩
/-- the place, as it is printed -/
def placeS (h s2 : ByteArray) : ByteArray := if h = ⟨#[]⟩ then ⟨#[45, 47, 48]⟩ else h ++ slB ++ s2
/-- the words of a promise's text -/
def wordsP (p : PC) (bd s1 s2 s3 s4 : ByteArray) (d : List Int) : List ByteArray :=
 [⟨#[116, 101, 97, 109]⟩, s1, ⟨#[112, 114, 111, 109, 105, 115, 101, 115, 32, 116, 104, 97, 116]⟩, p.test, ⟨#[102, 97, 105, 108, 115, 32, 97, 116]⟩, placeS p.wh s2, ⟨#[119, 105, 116, 104, 32, 97, 116, 32, 109, 111, 115, 116]⟩, bd, ⟨#[102, 114, 111, 109]⟩, s3, ⟨#[117, 110, 116, 105, 108]⟩, s4, ⟨#[119, 104, 105, 108, 101]⟩, txB (hexL d)]
def joinP (l : List ByteArray) : ByteArray := ⟨(Lib.join (l.map (·.data.toList)) [32]).toArray⟩
theorem joinTail_len (l : List (List UInt8)) (m : Nat) (h : ∀ x ∈ l, x.length ≤ m) : (Lib.joinTail [32] l).length ≤ l.length * (m + 1) := by
 unfold Lib.joinTail
 induction l with
 | nil => simp
 | cons x l ih =>
  have h1 := h x (List.mem_cons_self ..); have h2 := ih fun z hz => h z (List.mem_cons_of_mem _ hz)
  simp only [List.map_cons, List.flatten_cons, List.length_append, List.length_cons, List.length_nil] at h2 ⊢; rw [Nat.succ_mul]; omega
theorem join_len (l : List (List UInt8)) (m : Nat) (h : ∀ x ∈ l, x.length ≤ m) : (Lib.join l [32]).length ≤ l.length * (m + 1) := by
 cases l with
 | nil => simp [Lib.join_nil]
 | cons x l =>
  have h1 := h x (List.mem_cons_self ..); have h2 := joinTail_len l m fun z hz => h z (List.mem_cons_of_mem _ hz)
  rw [Lib.join_cons, List.length_append, List.length_cons, Nat.succ_mul]; omega
end Go.Proofs.YtijkfagkbfbpmaaGreatDoor
namespace Go.Proofs.YtijkfagkbfbpmaaGreatDoor
open Go Go.RowKit
def PhiPc3 (g : Nat) (h s : ByteArray) (site : Int) (j : Nat) (w : World) (x : Value) : Prop :=
 match j with
 | 0 => x = .pointer (some ⟨g, 2, none⟩)
 | 1 => x = .string h
 | 2 => x = .string (h ++ slB)
 | 3 => x = .pointer (some ⟨g, 3, none⟩)
 | 4 => x = .int .i64 site
 | 5 => x = .string s
 | 6 => x = .string (h ++ slB ++ s)
 | 7 => x = .string (h ++ slB ++ s)
 | _ => True

theorem PhiPc3.keep {g : Nat} {h s : ByteArray} {site : Int} : ∀ (w w' : World), Below w.heap.size w w' → ∀ j x, PhiPc3 g h s site j w x → PhiPc3 g h s site j w' x := by
 intro w w' hb j x h; unfold PhiPc3 at h ⊢
 split <;> simp only at h ⊢
 all_goals first
  | exact h
  | (obtain ⟨g, e, h1⟩ := h; exact ⟨g, e, Blk.below h1 hb h1.lt⟩)
set_option maxRecDepth 100000 in
set_option maxHeartbeats 1000000 in
theorem place_n (p : PC) (s2 : ByteArray) (w : World) (hs : p.wh.size ≤ 100) (hi : ItoaS w p.site s2) :
  Calls Tryz.prog 80 #[.agg (cellsP p).toArray] w fun e w' => e = .returned (.string (placeS p.wh s2)) ∧ Below w.heap.size w w' := by
 obtain ⟨W, HW⟩ : ∃ W, Hid (W = w.alloc (.cells (cellsP p).toArray 33)) := ⟨_, rfl⟩; have hbw : Below w.heap.size w W := by rw [HW.out]; exact bA _ _
 have BA : Blk W w.heap.size 33 (cellsP p).toArray := by rw [HW.out]; exact Blk.new _ _ _
 have HI := Lib.hid hi; have h2s := hi.1; clear hi; have a2 := BA.cell 2; have a3 := BA.cell 3; simp only [cellsP, List.getElem?_toArray, List.getElem?_cons_zero, List.getElem?_cons_succ] at a2 a3; have hq1 : ¬ (9223372036854775807 < p.wh.size + 1) := by omega
 have hq2 : ¬ (9223372036854775807 < p.wh.size + 1 + s2.size) := by omega
 have hq3 : (p.wh ++ slB).size = p.wh.size + 1 := by rw [ByteArray.size_append]; rfl
 go_enter Tryz.func80, Tryz.ntmps80
 go_upto_region 1 with fail; rw [← HW.out]; by_cases he : p.wh = ⟨#[]⟩
 ·have HP : Hid (placeS p.wh s2 = ⟨#[45, 47, 48]⟩) := by show _ = _; unfold placeS; rw [if_pos he]
  have hl : p.wh.toList.isEmpty = true := by rw [he, ByteArray.toList_eq]; rfl
  clear he; go_wp2_with fail; go_ret; exact ⟨by rw [HP.out]; rfl, hbw⟩
 ·have HP : Hid (placeS p.wh s2 = p.wh ++ slB ++ s2) := by show _ = _; unfold placeS; rw [if_neg he]
  have hl : p.wh.toList.isEmpty = false := by
   cases h : p.wh.toList.isEmpty with
   | false => rfl
   | true => exact absurd (ByteArray.ext (Array.toList_inj.1 (by rw [ByteArray.toList_eq, List.isEmpty_iff] at h; simpa using h))) he
  clear he; go_upto_region 3 with fail; refine region_invF (PhiPc3 w.heap.size p.wh s2 p.site) (fun w w' => Below w.heap.size w w') (fun X => Below W.heap.size W X) (by kernel_rfl) (by kernel_rfl) (by kernel_rfl) PhiPc3.keep (fun _ _ hR hS => Below.tr hS hR) (bD _) (fun vs => by simp only [fillR, Act.put, sA, sB, sC, Nat.zero_add, Nat.reduceAdd]; rfl) ?_ ?_
  ·refine sK ?_ (sK ?_ (sK ?_ (sK ?_ (sK ?_ (sK ?_ (sK ?_ (sK ?_ (sZ))))))))
   ·as_aux_lemma =>
    intro vs W hS hdep K hK; refine ⟨?_⟩; simp only [Act.put, sA, sB, sC, Nat.zero_add, Nat.reduceAdd] at hK ⊢; go_simp; with_reducible refine hK _ _ (Below.refl _ _) ?_
    exact rfl
   ·as_aux_lemma =>
    intro vs W hS hdep K hK; have d0 := hdep ⟨0, .data⟩ (by simp) rfl; simp only [PhiPc3] at d0; have f1 := cell_keep hS a2; refine ⟨?_⟩; simp only [Act.put, sA, sB, sC, Nat.zero_add, Nat.reduceAdd, d0] at hK ⊢; go_simp; with_reducible refine hK _ _ (Below.refl _ _) ?_
    exact rfl
   ·as_aux_lemma =>
    intro vs W hS hdep K hK; have d0 := hdep ⟨1, .data⟩ (by simp) rfl; simp only [PhiPc3] at d0; have q1 := hq1; have q2 := hq2; have q3 := hq3; refine ⟨?_⟩; simp only [Act.put, sA, sB, sC, Nat.zero_add, Nat.reduceAdd, d0] at hK ⊢; go_simp; with_reducible refine hK _ _ (Below.refl _ _) ?_
    exact rfl
   ·as_aux_lemma =>
    intro vs W hS hdep K hK; refine ⟨?_⟩; simp only [Act.put, sA, sB, sC, Nat.zero_add, Nat.reduceAdd] at hK ⊢; go_simp; with_reducible refine hK _ _ (Below.refl _ _) ?_
    exact rfl
   ·as_aux_lemma =>
    intro vs W hS hdep K hK; have d0 := hdep ⟨3, .data⟩ (by simp) rfl; simp only [PhiPc3] at d0; have f1 := cell_keep hS a3; refine ⟨?_⟩; simp only [Act.put, sA, sB, sC, Nat.zero_add, Nat.reduceAdd, d0] at hK ⊢; go_simp; with_reducible refine hK _ _ (Below.refl _ _) ?_
    exact rfl
   ·as_aux_lemma =>
    intro vs W hS hdep K hK; have d0 := hdep ⟨4, .data⟩ (by simp) rfl; simp only [PhiPc3] at d0; refine ⟨?_⟩; simp only [Act.put, sA, sB, sC, Nat.zero_add, Nat.reduceAdd, d0] at hK ⊢; go_simp; refine (HI.out.2 _ (Below.tr hbw hS)).mono ?_; rintro e w' ⟨rfl, hb⟩; go_wp2_with fail; with_reducible refine hK _ _ hb ?_
    exact rfl
   ·as_aux_lemma =>
    intro vs W hS hdep K hK; have d0 := hdep ⟨2, .data⟩ (by simp) rfl; simp only [PhiPc3] at d0; have d1 := hdep ⟨5, .data⟩ (by simp) rfl; simp only [PhiPc3] at d1; have q1 := hq1; have q2 := hq2; have q3 := hq3; refine ⟨?_⟩; simp only [Act.put, sA, sB, sC, Nat.zero_add, Nat.reduceAdd, d0, d1] at hK ⊢; go_simp; with_reducible refine hK _ _ (Below.refl _ _) ?_
    exact rfl
   ·as_aux_lemma =>
    intro vs W hS hdep K hK; have d0 := hdep ⟨6, .data⟩ (by simp) rfl; simp only [PhiPc3] at d0; refine ⟨?_⟩; simp only [Act.put, sA, sB, sC, Nat.zero_add, Nat.reduceAdd, d0] at hK ⊢; go_simp; with_reducible refine hK _ _ (Below.refl _ _) ?_
    exact rfl
  ·intro vs W2 hS hv; have u7 := hv 7 (by simp); simp only [PhiPc3] at u7; simp only [Act.put, sA, sB, sC, Nat.zero_add, Nat.reduceAdd, u7]; clear u7 hv; go_wp2_with fail; go_ret; exact ⟨by rw [HP.out]; rfl, Below.tr hbw hS⟩
end Go.Proofs.YtijkfagkbfbpmaaGreatDoor
namespace Go.Proofs.YtijkfagkbfbpmaaGreatDoor
open Go Go.RowKit
theorem OwnB.app2 {w : World} {base n : Nat} {v : Value} {l : List Nat} {a b : Nat} (h : w.ownsRow base 5 1 v n (l.flatMap u8C ++ [.int .u8 (a : Int), .int .u8 (b : Int)])) (hn : n = l.length + 2) (hl : ∀ x ∈ l, x < 256) (ha : a < 256) (hb : b < 256) : OwnB w base v (l ++ [a, b]) := by
 subst hn; refine ⟨by rw [List.flatMap_append, List.length_append]; exact h, fun x hx => ?_⟩
 rcases List.mem_append.1 hx with h1 | h1
 ·exact hl x h1
 ·simp only [List.mem_cons, List.not_mem_nil, or_false] at h1
  rcases h1 with rfl | rfl <;> assumption
def PhiPr9 (A : Option Addr) (n c y u v : Nat) (vs : Nat → Value) (j : Nat) (w : World) (x : Value) : Prop :=
 match j with
 | 0 => x = .slice A n c
 | 1 => x = .int .u8 (y : Nat)
 | 2 => x = .int .u8 (u : Nat)
 | 3 => x = .int .u8 (hxN u : Nat)
 | 4 => x = .int .u8 (y : Nat)
 | 5 => x = .int .u8 (v : Nat)
 | 6 => x = .int .u8 (hxN v : Nat)
 | 7 => ∃ g, x = .slice (some ⟨g, 0, none⟩) 2 2 ∧ Blk w g 5 #[.int .u8 (hxN u : Nat), .int .u8 (hxN v : Nat)]
 | _ => True

theorem PhiPr9.keepR {A : Option Addr} {n c y u v : Nat} : ∀ vs (w w' : World), Below w.heap.size w w' → ∀ j x, PhiPr9 A n c y u v vs j w x → PhiPr9 A n c y u v vs j w' x := by
 intro vs w w' hb j x h; unfold PhiPr9 at h ⊢
 split <;> simp only at h ⊢
 all_goals first
  | exact h
  | (obtain ⟨g, e, h1⟩ := h; exact ⟨g, e, Blk.below h1 hb h1.lt⟩)
theorem PhiPr9.keepF {A : Option Addr} {n c y u v : Nat} : ∀ vs (w w' : World) j x, ([] : List Nat).contains j = true → PhiPr9 A n c y u v vs j w x → PhiPr9 A n c y u v vs j w' x := by
 intro vs w w' j x hf
 cases hf
def SPr9 (B : Nat) (w0 wr : World) (l : List Nat) (u v : Nat) : List Value → (Nat → Value) → World → Prop
 | [], _, W => Below wr.heap.size wr W
 | [z], _, W => OwnB W B z (l ++ [hxN u, hxN v]) ∧ Below B w0 W
 | [z, x], _, W => x = z ∧ OwnB W B z (l ++ [hxN u, hxN v]) ∧ Below B w0 W
 | _, _, _ => True
def PhiPr11 (gp : Nat) (p : PC) (bd s1 s2 s3 s4 pl hx : ByteArray) (A : Option Addr) (n c : Nat) (cs : Array Value) (j : Nat) (w : World) (x : Value) : Prop :=
 match j with
 | 0 => x = .pointer (some ⟨gp, 0, none⟩)
 | 1 => x = .int .i64 p.team
 | 2 => x = .string s1
 | 3 => x = .pointer (some ⟨gp, 1, none⟩)
 | 4 => x = .string p.test
 | 5 => x = .agg (cellsP p).toArray
 | 6 => x = .string pl
 | 7 => x = .string bd
 | 8 => x = .pointer (some ⟨gp, 6, none⟩)
 | 9 => x = .int .i64 p.fr
 | 10 => x = .string s3
 | 11 => x = .pointer (some ⟨gp, 7, none⟩)
 | 12 => x = .int .i64 p.un
 | 13 => x = .string s4
 | 14 => x = .slice A n c
 | 15 => x = .string hx
 | 16 => ∃ g, x = .slice (some ⟨g, 0, none⟩) 14 14 ∧ Blk w g 9 cs
 | 17 => ∃ g, x = .slice (some ⟨g, 0, none⟩) 14 14 ∧ Blk w g 9 cs
 | _ => True

theorem PhiPr11.keep {gp : Nat} {p : PC} {bd s1 s2 s3 s4 pl hx : ByteArray} {A : Option Addr} {n c : Nat} {cs : Array Value} : ∀ (w w' : World), Below w.heap.size w w' → ∀ j x, PhiPr11 gp p bd s1 s2 s3 s4 pl hx A n c cs j w x → PhiPr11 gp p bd s1 s2 s3 s4 pl hx A n c cs j w' x := by
 intro w w' hb j x h; unfold PhiPr11 at h ⊢
 split <;> simp only at h ⊢
 all_goals first
  | exact h
  | (obtain ⟨g, e, h1⟩ := h; exact ⟨g, e, Blk.below h1 hb h1.lt⟩)
theorem info_str14 : (Tryz.prog.info? 9).map (fun i => (i.zero, i.size, i.bytes)) = some (some (.string { data := #[] }), 1, 16) := by kernel_rfl
theorem fill_s14 (s0 s1 s2 s3 s4 s5 s6 s7 s8 s9 s10 s11 s12 s13 : ByteArray) : Instr.fill (fun i => some (i * 1, 1)) ((Array.range (14 * 1)).map ((Value.string { data := #[] }).cells[· % (Value.string { data := #[] }).cells.size]!)) [(0, .string s0), (1, .string s1), (2, .string s2), (3, .string s3), (4, .string s4), (5, .string s5), (6, .string s6), (7, .string s7), (8, .string s8), (9, .string s9), (10, .string s10), (11, .string s11), (12, .string s12), (13, .string s13)] = some #[.string s0, .string s1, .string s2, .string s3, .string s4, .string s5, .string s6, .string s7, .string s8, .string s9, .string s10, .string s11, .string s12, .string s13] := by kernel_rfl
set_option maxRecDepth 100000 in
set_option maxHeartbeats 4000000 in
theorem print_n (p : PC) (a b : Nat) (d : List Int) (s1 s2 s3 s4 : ByteArray) (w : World) (hrp : Rat w (.agg #[p.b1, p.b2]) a b) (hg : Nm.Good a b) (hnb : ¬ pBad a b p) (ht : p.test.size ≤ 100) (hwh : p.wh.size ≤ 100) (hdg : DgOk (pdg p) d) (hby : ∀ x ∈ d, BY x) (h1 : ItoaS w p.team s1) (h2 : ItoaS w p.site s2) (h3 : ItoaS w p.fr s3) (h4 : ItoaS w p.un s4) (bd : ByteArray) (hbd : Hid (ratS a b = bd ∧ bd.size ≤ 3000)) :
  Calls Tryz.prog 47 #[.agg (cellsP p).toArray] w fun e w' => e = .returned (.tuple #[.string (joinP (wordsP p bd s1 s2 s3 s4 d)), .int .i64 0]) ∧ Below w.heap.size w w' := by
 obtain ⟨i0, hi0, hz0, hz1, hz2⟩ := info_parts info_u8; obtain ⟨iS, hiS, hzS, hzS1, hzS2⟩ := info_parts info_str14; obtain ⟨W, HW⟩ : ∃ W, Hid (W = w.alloc (.cells (cellsP p).toArray 33)) := ⟨_, rfl⟩; have hbw : Below w.heap.size w W := by rw [HW.out]; exact bA _ _
 have BA : Blk W w.heap.size 33 (cellsP p).toArray := by rw [HW.out]; exact Blk.new _ _ _
 have hrp := hrp.below hbw; have H1 := Lib.hid (h1.below hbw); have H2 := Lib.hid (h2.below hbw); have H3 := Lib.hid (h3.below hbw); have H4 := Lib.hid (h4.below hbw); have HG := Lib.hid hg; have HDG := Lib.hid hdg; have HNB := Lib.hid hnb; have HBY := Lib.hid hby; clear h1 h2 h3 h4 hg hdg hby hnb
 go_enter Tryz.func47, Tryz.ntmps47
 go_upto_region 1 with fail; rw [← HW.out]
 go_wp2_with (first | (refine wpList_load_mid rfl 33 (.tmp 1) rfl w.heap.size 0 rfl (cellsP p) _ (blk_range BA) Tryz.underlying33 rfl infoP ?_; simp only [Act.put, sA, sB, sC]))
 refine (pvalid_n p _ _ _ (rtl_rat hrp) (by omega) (by omega)).mono ?_; rintro e w2 ⟨E, rfl, HE, hb2⟩
 obtain rfl : E = 0 := by
  have hz : PVal p (Nm.lb a) (Nm.lb (Nm.dn b)) 0 := .inr ⟨a, b, rfl, rfl, HG.out, pE_ok HNB.out⟩; exact HE.out.uniq hz
 have hbw := Below.tr hbw hb2; have hrp := hrp.below hb2; have BA := Blk.below BA hb2 BA.lt; have H1 := Lib.hid (H1.out.below hb2); have H2 := Lib.hid (H2.out.below hb2); have H3 := Lib.hid (H3.out.below hb2); have H4 := Lib.hid (H4.out.below hb2); have a4 := BA.cell 4; have a5 := BA.cell 5; simp only [cellsP, List.getElem?_toArray, List.getElem?_cons_zero, List.getElem?_cons_succ] at a4 a5; clear HE hb2; go_wp2_with fail; refine (print_v _ a b _ hrp HG.out).mono ?_; rintro e w3 ⟨rfl, hb3⟩; rw [hbd.out.1]; have hbw := Below.tr hbw hb3; have BA := Blk.below BA hb3 BA.lt; have H1 := Lib.hid (H1.out.below hb3); have H2 := Lib.hid (H2.out.below hb3); have H3 := Lib.hid (H3.out.below hb3); have H4 := Lib.hid (H4.out.below hb3); clear a4 a5 hb3 hrp HG HNB
 go_upto_region 7 with (first | (refine wpList_load_mid rfl 31 (.tmp 22) rfl w.heap.size 8 rfl (pdg p) _ (digR BA) Tryz.underlying31 rfl infoPd ?_; simp only [Act.put, sA, sB, sC]))
 go_loopg [7, 24] 16 (fun mm v x wr => ∃ (i : Nat) (l : List Nat), x = .int .i64 i ∧ i + mm = 16 ∧ OwnB wr w3.heap.size v l ∧ Hid (l = hexL (d.take i)) ∧ Below w3.heap.size w3 wr)
 case atStart => exact ⟨0, [], rfl, rfl, OwnB.nil _ _, rfl, Below.refl _ _⟩
 case round =>
  obtain ⟨G, hG⟩ : ∃ G, G = gk := ⟨gk, rfl⟩; subst hG; obtain ⟨i, l, rfl, him, hown, HL, hbe⟩ := hrel; by_cases hi : i < 16
  ·have t1 : decide ((i : Int) < 16) = true := by simp; omega
   have li : (i : Int) < 16 := by omega
   have hdl : i < d.length := by have := HDG.out.2; omega
   obtain ⟨y, HY⟩ : ∃ y : Nat, Hid (d[i]? = some (y : Int) ∧ y < 256) := by
    have h1 := HBY.out d[i] (List.getElem_mem hdl); obtain ⟨h2, h3⟩ := h1; refine ⟨d[i].toNat, ?_, by omega⟩; rw [List.getElem?_eq_getElem hdl]
    congr 1
    omega
   have hdi : (pdg p)[i]? = some (.int .u8 (y : Int)) := by
    rw [HDG.out.1]; unfold bytes16; rw [List.getElem?_map, HY.out.1]; rfl
   have hy256 := HY.out.2
   have HLN : Hid (l.length = 2 * i) := by
    show _ = _
    rw [HL.out, hexL_len, List.length_take]; omega
   obtain ⟨A, c, rfl⟩ := hown.shp; obtain ⟨n, hn⟩ : ∃ n, l.length = n := ⟨_, rfl⟩; rw [hn] at hown ⊢; rw [hn] at HLN; have hn32 : n ≤ 32 := by have := HLN.out; omega
   have HLN : Hid (l.length = n) := hn
   have HL2 : Hid (l ++ [hxN (y / 16), hxN (y % 16)] = hexL (d.take (i + 1))) := by
    show _ = _
    rw [hexL_succ HY.out.1, HL.out]
   obtain ⟨u, HU16⟩ : ∃ u, Hid (y / 16 = u) := ⟨_, rfl⟩; obtain ⟨v, HV16⟩ : ∃ v, Hid (y % 16 = v) := ⟨_, rfl⟩; rw [HU16.out, HV16.out] at HL2
   have hq1 : IntKind.u8.wrap ((y : Int) / 16) = (u : Int) := by
    have : IntKind.u8.wrap ((y : Int) / 16) = ((y : Int) / 16) % 256 := by simp [IntKind.wrap, IntKind.bits, IntKind.signed]
    rw [this]; have := HU16.out; omega
   have hr1 : IntKind.u8.wrap ((y : Int) % 16) = (v : Int) := by
    have : IntKind.u8.wrap ((y : Int) % 16) = ((y : Int) % 16) % 256 := by simp [IntKind.wrap, IntKind.bits, IntKind.signed]
    rw [this]; have := HV16.out; omega
   have hr0 : (y : Int).tmod 16 = (v : Int) := by rw [Int.tmod_eq_emod_of_nonneg (by omega)]; have := HV16.out; omega
   have hq2 : u < 16 := by have := HU16.out; omega
   have hr2 : v < 16 := by have := HV16.out; omega
   have hq3 : True := trivial; have hr3 := hr0; have hq5 := fun w => dig_ix u hq2 w
   have hr5 := fun w => dig_ix v hr2 w
   have hix := fun w => arr_ix (pdg p) _ i rfl hi hdi rfl w
   clear HY hn HL hdl; go_upto_region 9 with fail; refine region_chain [8, 9] [.early, .early, .early, .early, .early, .early, .early, .early, .chain 0, .chain 1] [] [] (PhiPr9 A n c y u v) (fun w w' => Below w.heap.size w w') (SPr9 w3.heap.size w3 wr l u v) (by kernel_rfl) (by kernel_rfl) (by kernel_rfl) (by kernel_rfl) (sK (fun _ _ _ _ _ h => h) (sK (fun _ _ _ _ _ h => h) (sK (fun _ _ _ _ _ h => h) (sK (fun _ _ _ _ _ h => h) (sK (fun _ _ _ _ _ h => h) (sK (fun _ _ _ _ _ h => h) (sK (fun _ _ _ _ _ h => h) (sK (fun _ _ _ _ _ h => h) (sK (fun _ _ _ _ _ h => h) (sK (fun _ _ _ _ _ h => h) (sZ))))))))))) PhiPr9.keepR PhiPr9.keepF (fun _ _ _ _ hR hS => Below.tr hS hR) (by rintro (_ | ⟨_, _ | ⟨_, _ | _⟩⟩) vs vs' w _ h <;> exact h) (fun _ => bD _) (fun vs => by simp only [fillR, Act.put, sA, sB, sC, Nat.zero_add, Nat.reduceAdd]; rfl) ?_ ?_
   ·refine sK ?_ (sK ?_ (sK ?_ (sK ?_ (sK ?_ (sK ?_ (sK ?_ (sK ?_ (sK ?_ (sK ?_ (sZ))))))))))
    ·as_aux_lemma =>
     intro vs W hS hu hdep K hK; have HU := Lib.hid hu; clear hu; have u0 : vs 9 = .slice A n c := HU.out 9 (by simp); refine ⟨?_⟩; simp only [Act.put, sA, sB, sC, Nat.zero_add, Nat.reduceAdd, u0] at hK ⊢; go_simp; with_reducible refine hK _ _ (Below.refl _ _) ?_
     exact rfl
    ·as_aux_lemma =>
     intro vs W hS hu hdep K hK; have HU := Lib.hid hu; clear hu; refine ⟨?_⟩; simp only [Act.put, sA, sB, sC, Nat.zero_add, Nat.reduceAdd] at hK ⊢; go_simp; with_reducible refine hK _ _ (Below.refl _ _) ?_
     exact rfl
    ·as_aux_lemma =>
     intro vs W hS hu hdep K hK; have HU := Lib.hid hu; clear hu; have d0 := hdep ⟨1, .data⟩ (by simp) rfl; simp only [PhiPr9] at d0; have q1 := hq1; refine ⟨?_⟩; simp only [Act.put, sA, sB, sC, Nat.zero_add, Nat.reduceAdd, d0] at hK ⊢; go_simp; with_reducible refine hK _ _ (Below.refl _ _) ?_
     exact rfl
    ·as_aux_lemma =>
     intro vs W hS hu hdep K hK; have HU := Lib.hid hu; clear hu; have d0 := hdep ⟨2, .data⟩ (by simp) rfl; simp only [PhiPr9] at d0; have q2 := hq2; have q3 := hq3; have q5 := hq5; refine ⟨?_⟩; simp only [Act.put, sA, sB, sC, Nat.zero_add, Nat.reduceAdd, d0] at hK ⊢; go_simp; with_reducible refine hK _ _ (Below.refl _ _) ?_
     exact rfl
    ·as_aux_lemma =>
     intro vs W hS hu hdep K hK; have HU := Lib.hid hu; clear hu; refine ⟨?_⟩; simp only [Act.put, sA, sB, sC, Nat.zero_add, Nat.reduceAdd] at hK ⊢; go_simp; with_reducible refine hK _ _ (Below.refl _ _) ?_
     exact rfl
    ·as_aux_lemma =>
     intro vs W hS hu hdep K hK; have HU := Lib.hid hu; clear hu; have d0 := hdep ⟨4, .data⟩ (by simp) rfl; simp only [PhiPr9] at d0; have q1 := hr1; have q2 := hr0; refine ⟨?_⟩; simp only [Act.put, sA, sB, sC, Nat.zero_add, Nat.reduceAdd, d0] at hK ⊢; go_simp; with_reducible refine hK _ _ (Below.refl _ _) ?_
     exact rfl
    ·as_aux_lemma =>
     intro vs W hS hu hdep K hK; have HU := Lib.hid hu; clear hu; have d0 := hdep ⟨5, .data⟩ (by simp) rfl; simp only [PhiPr9] at d0; have q2 := hr2; have q3 := hr3; have q5 := hr5; refine ⟨?_⟩; simp only [Act.put, sA, sB, sC, Nat.zero_add, Nat.reduceAdd, d0] at hK ⊢; go_simp; with_reducible refine hK _ _ (Below.refl _ _) ?_
     exact rfl
    ·as_aux_lemma =>
     intro vs W hS hu hdep K hK; have HU := Lib.hid hu; clear hu; have d0 := hdep ⟨3, .data⟩ (by simp) rfl; simp only [PhiPr9] at d0; have d1 := hdep ⟨6, .data⟩ (by simp) rfl; simp only [PhiPr9] at d1; refine ⟨?_⟩; simp only [Act.put, sA, sB, sC, Nat.zero_add, Nat.reduceAdd, d0, d1] at hK ⊢; go_simp; with_reducible refine hK _ _ (bA _ _) ?_
     exact ⟨_, rfl, Blk.new _ _ _⟩
    ·as_aux_lemma =>
     intro vs W hS hdep K hK; have d0 := hdep ⟨0, .data⟩ (by simp) rfl (by rfl); simp only [PhiPr9] at d0; have d1 := hdep ⟨7, .data⟩ (by simp) rfl (by rfl); simp only [PhiPr9] at d1; have hS : Below wr.heap.size wr W := hS; refine @exE1 _ _ _ d1 ?_; clear d1; intro g d1; have e1 := d1.1; have k1 := d1.2; clear d1; have hown2 := hown.below hS; refine ⟨?_⟩; simp only [Act.put, sA, sB, sC, Nat.zero_add, Nat.reduceAdd, d0, e1] at hK ⊢; rw [if_pos (by rfl)]; refine wp_append_any W (.tmp 27) (.tmp 34) _ rfl w3.heap.size 5 i0 _ 1 1 Tryz.underlying72 hi0 hz0 hz1 hz2 rfl (by omega) (.slice A n c) n (l.flatMap u8C) rfl (HLN.out ▸ hown2.1) (some ⟨g, 0, none⟩) 2 2 [.int .u8 (hxN u : Nat), .int .u8 (hxN v : Nat)] rfl rfl (rd_blk k1) (by simp [Value.oneCell']) (by simp only [maxLen]; omega) (by omega) (Nat.le_trans hbe.size hS.size) ?_; intro v' w' h2 hg h4; simp only [Act.put, sA, sB, sC]; with_reducible refine hK v' w' ?_
     exact ⟨OwnB.app2 h2 (by rw [← HLN.out]) hown2.2 (hxN_lt hq2) (hxN_lt hr2), (Below.tr hbe hS).grown hg (Nat.le_trans hbe.size hS.size) hown2.ge⟩
    ·as_aux_lemma =>
     intro vs W hS hdep K hK; have hS : OwnB W w3.heap.size (vs 8) (l ++ [hxN u, hxN v]) ∧ Below w3.heap.size w3 W := hS; refine ⟨?_⟩; simp only [Act.put, sA, sB, sC, Nat.zero_add, Nat.reduceAdd] at hK ⊢; go_simp; with_reducible refine hK _ _ ?_
     exact ⟨rfl, hS⟩
   ·intro vs W9 hS _; have hS2 : vs 9 = vs 8 ∧ OwnB W9 w3.heap.size (vs 8) (l ++ [hxN u, hxN v]) ∧ Below w3.heap.size w3 W9 := hS; obtain ⟨e1, hown9, hb9⟩ := hS2; obtain ⟨A9, c9, e9⟩ := hown9.shp; have e3 := e1.trans e9; clear hS e1 hix hq1 hr1 hr0 hr3 hq5 hr5; simp only [e3]; rw [e9] at hown9; clear e3 e9; go_wp2_with fail
    go_roundg (G - 1)
    case measure => omega
    case rel => exact ⟨i + 1, l ++ [hxN u, hxN v], by go_num, by omega, hown9, HL2, hb9⟩
  ·have t1 : decide ((i : Int) < 16) = false := by simp; omega
   obtain ⟨wz, hwz⟩ : ∃ x, x = wr := ⟨_, rfl⟩; subst hwz; have BA := Blk.below BA hbe BA.lt; have H1 := Lib.hid (H1.out.below hbe); have H2 := Lib.hid (H2.out.below hbe); have H3 := Lib.hid (H3.out.below hbe); have H4 := Lib.hid (H4.out.below hbe); have hbw := Below.tr hbw hbe
   have HL2 : Hid (l = hexL d ∧ l.length = 32) := by
    have h1 : l = hexL d := by
     rw [HL.out, show i = 16 by omega, List.take_of_length_le (by have := HDG.out.2; omega)]
    exact ⟨h1, by rw [h1, hexL_len, HDG.out.2]⟩
   obtain ⟨A, c, rfl⟩ := hown.shp; have b0 := BA.cell 0; have b1 := BA.cell 1; have b6 := BA.cell 6; have b7 := BA.cell 7; simp only [cellsP, List.getElem?_toArray, List.getElem?_cons_zero, List.getElem?_cons_succ] at b0 b1 b6 b7; have HCP : Hid (∀ j v, (cellsP p)[j]? = some v → wz.cell? ⟨w.heap.size, 0 + j, none⟩ = some v) := fun j v h => by rw [Nat.zero_add, BA.cell]; simpa using h
   obtain ⟨hx, HHX⟩ : ∃ hx, Hid (hx = txB (hexL d)) := ⟨_, rfl⟩; have hBy := hown.by_ (by have := HL2.out.2; omega)
   have HCV : Hid (∀ W, Below wz.heap.size wz W → (convert 72 9 (.slice A l.length c)).run Tryz.prog W = .ok (.string hx) W) := by
    intro W hb; obtain ⟨b9, o9, hA9⟩ := hBy.2.2.2.2 (by have := hBy.2.1; have := HL2.out.2; omega); subst hA9; have hc := run_convert_bytes_back (P := Tryz.prog) W 72 9 5 ⟨b9, o9, none⟩ c (l.map UInt8.ofNat) Tryz.underlying72 Tryz.underlying5 Tryz.underlying9 ?_
    ·rw [List.length_map] at hc; rw [hc, HHX.out, ← HL2.out.1]; rfl
    ·intro j hj; rw [List.length_map] at hj; obtain ⟨b8, o8, n8, e8, hc8, hn8, hg8⟩ := hBy.get (by omega : j < l.length); injection e8 with e8; injection e8 with e81 e82; subst e81 e82; have e : (⟨b9, o9, none⟩ : Addr).add j = ⟨b9, o9 + j, none⟩ := by unfold Addr.add; split <;> simp_all
     rw [e, cell_keep hb hc8]
     have h9 : l[j] = n8 := by
      have h := hg8.out; rw [List.getElem?_eq_getElem hj] at h; injection h
     rw [List.getElem_map, h9]; simp [UInt8.toNat_ofNat, Nat.mod_eq_of_lt hn8]
   have hlen32 : l.length = 32 := HL2.out.2; rw [hlen32] at HCV ⊢; obtain ⟨pl, HPL⟩ : ∃ pl, Hid (placeS p.wh s2 = pl) := ⟨_, rfl⟩; obtain ⟨cs, HCS⟩ : ∃ cs : Array Value, Hid (cs = #[.string { data := #[116, 101, 97, 109] }, .string s1, .string { data := #[112, 114, 111, 109, 105, 115, 101, 115, 32, 116, 104, 97, 116] }, .string p.test, .string { data := #[102, 97, 105, 108, 115, 32, 97, 116] }, .string pl, .string { data := #[119, 105, 116, 104, 32, 97, 116, 32, 109, 111, 115, 116] }, .string bd, .string { data := #[102, 114, 111, 109] }, .string s3, .string { data := #[117, 110, 116, 105, 108] }, .string s4, .string { data := #[119, 104, 105, 108, 101] }, .string hx]) := ⟨_, rfl⟩; clear hown hBy HL HL2 hlen32; go_upto_region 11 with fail; refine region_invF (PhiPr11 w.heap.size p bd s1 s2 s3 s4 pl hx A 32 c cs) (fun w w' => Below w.heap.size w w') (fun X => Below wz.heap.size wz X) (by kernel_rfl) (by kernel_rfl) (by kernel_rfl) PhiPr11.keep (fun _ _ hR hS => Below.tr hS hR) (bD _) (fun vs => by simp only [fillR, Act.put, sA, sB, sC, Nat.zero_add, Nat.reduceAdd]; rfl) ?_ ?_
   ·refine sK ?_ (sK ?_ (sK ?_ (sK ?_ (sK ?_ (sK ?_ (sK ?_ (sK ?_ (sK ?_ (sK ?_ (sK ?_ (sK ?_ (sK ?_ (sK ?_ (sK ?_ (sK ?_ (sK ?_ (sK ?_ (sZ))))))))))))))))))
    ·as_aux_lemma =>
     intro vs W hS hdep K hK; refine ⟨?_⟩; simp only [Act.put, sA, sB, sC, Nat.zero_add, Nat.reduceAdd] at hK ⊢; go_simp; with_reducible refine hK _ _ (Below.refl _ _) ?_
     exact rfl
    ·as_aux_lemma =>
     intro vs W hS hdep K hK; have d0 := hdep ⟨0, .data⟩ (by simp) rfl; simp only [PhiPr11] at d0; have f1 := cell_keep hS b0; refine ⟨?_⟩; simp only [Act.put, sA, sB, sC, Nat.zero_add, Nat.reduceAdd, d0] at hK ⊢; go_simp; with_reducible refine hK _ _ (Below.refl _ _) ?_
     exact rfl
    ·as_aux_lemma =>
     intro vs W hS hdep K hK; have d0 := hdep ⟨1, .data⟩ (by simp) rfl; simp only [PhiPr11] at d0; refine ⟨?_⟩; simp only [Act.put, sA, sB, sC, Nat.zero_add, Nat.reduceAdd, d0] at hK ⊢; go_simp; refine (H1.out.2 _ hS).mono ?_; rintro e w' ⟨rfl, hb⟩; go_wp2_with fail; with_reducible refine hK _ _ hb ?_
     exact rfl
    ·as_aux_lemma =>
     intro vs W hS hdep K hK; refine ⟨?_⟩; simp only [Act.put, sA, sB, sC, Nat.zero_add, Nat.reduceAdd] at hK ⊢; go_simp; with_reducible refine hK _ _ (Below.refl _ _) ?_
     exact rfl
    ·as_aux_lemma =>
     intro vs W hS hdep K hK; have d0 := hdep ⟨3, .data⟩ (by simp) rfl; simp only [PhiPr11] at d0; have f1 := cell_keep hS b1; refine ⟨?_⟩; simp only [Act.put, sA, sB, sC, Nat.zero_add, Nat.reduceAdd, d0] at hK ⊢; go_simp; with_reducible refine hK _ _ (Below.refl _ _) ?_
     exact rfl
    ·as_aux_lemma =>
     intro vs W hS hdep K hK; refine ⟨?_⟩; simp only [Act.put, sA, sB, sC, Nat.zero_add, Nat.reduceAdd] at hK ⊢; rw [if_pos (by rfl)]; refine wp_load_mid 33 (.tmp 1) (by rfl) w.heap.size (0) (by rfl) (cellsP p) _ (range_keep hS HCP.out) Tryz.underlying33 (by rfl) infoP ?_; simp only [Act.put, sA, sB, sC]; with_reducible refine hK _ _ (Below.refl _ _) ?_
     exact rfl
    ·as_aux_lemma =>
     intro vs W hS hdep K hK; have d0 := hdep ⟨5, .data⟩ (by simp) rfl; simp only [PhiPr11] at d0; refine ⟨?_⟩; simp only [Act.put, sA, sB, sC, Nat.zero_add, Nat.reduceAdd, d0] at hK ⊢; go_simp; refine (place_n p s2 _ hwh (H2.out.below hS)).mono ?_; rintro e w' ⟨rfl, hb⟩; go_wp2_with fail; with_reducible refine hK _ _ hb ?_
     exact by rw [HPL.out]; exact rfl
    ·as_aux_lemma =>
     intro vs W hS hdep K hK; refine ⟨?_⟩; simp only [Act.put, sA, sB, sC, Nat.zero_add, Nat.reduceAdd] at hK ⊢; go_simp; with_reducible refine hK _ _ (Below.refl _ _) ?_
     exact rfl
    ·as_aux_lemma =>
     intro vs W hS hdep K hK; refine ⟨?_⟩; simp only [Act.put, sA, sB, sC, Nat.zero_add, Nat.reduceAdd] at hK ⊢; go_simp; with_reducible refine hK _ _ (Below.refl _ _) ?_
     exact rfl
    ·as_aux_lemma =>
     intro vs W hS hdep K hK; have d0 := hdep ⟨8, .data⟩ (by simp) rfl; simp only [PhiPr11] at d0; have f1 := cell_keep hS b6; refine ⟨?_⟩; simp only [Act.put, sA, sB, sC, Nat.zero_add, Nat.reduceAdd, d0] at hK ⊢; go_simp; with_reducible refine hK _ _ (Below.refl _ _) ?_
     exact rfl
    ·as_aux_lemma =>
     intro vs W hS hdep K hK; have d0 := hdep ⟨9, .data⟩ (by simp) rfl; simp only [PhiPr11] at d0; refine ⟨?_⟩; simp only [Act.put, sA, sB, sC, Nat.zero_add, Nat.reduceAdd, d0] at hK ⊢; go_simp; refine (H3.out.2 _ hS).mono ?_; rintro e w' ⟨rfl, hb⟩; go_wp2_with fail; with_reducible refine hK _ _ hb ?_
     exact rfl
    ·as_aux_lemma =>
     intro vs W hS hdep K hK; refine ⟨?_⟩; simp only [Act.put, sA, sB, sC, Nat.zero_add, Nat.reduceAdd] at hK ⊢; go_simp; with_reducible refine hK _ _ (Below.refl _ _) ?_
     exact rfl
    ·as_aux_lemma =>
     intro vs W hS hdep K hK; have d0 := hdep ⟨11, .data⟩ (by simp) rfl; simp only [PhiPr11] at d0; have f1 := cell_keep hS b7; refine ⟨?_⟩; simp only [Act.put, sA, sB, sC, Nat.zero_add, Nat.reduceAdd, d0] at hK ⊢; go_simp; with_reducible refine hK _ _ (Below.refl _ _) ?_
     exact rfl
    ·as_aux_lemma =>
     intro vs W hS hdep K hK; have d0 := hdep ⟨12, .data⟩ (by simp) rfl; simp only [PhiPr11] at d0; refine ⟨?_⟩; simp only [Act.put, sA, sB, sC, Nat.zero_add, Nat.reduceAdd, d0] at hK ⊢; go_simp; refine (H4.out.2 _ hS).mono ?_; rintro e w' ⟨rfl, hb⟩; go_wp2_with fail; with_reducible refine hK _ _ hb ?_
     exact rfl
    ·as_aux_lemma =>
     intro vs W hS hdep K hK; refine ⟨?_⟩; simp only [Act.put, sA, sB, sC, Nat.zero_add, Nat.reduceAdd] at hK ⊢; go_simp; with_reducible refine hK _ _ (Below.refl _ _) ?_
     exact rfl
    ·as_aux_lemma =>
     intro vs W hS hdep K hK; have d0 := hdep ⟨14, .data⟩ (by simp) rfl; simp only [PhiPr11] at d0; have q1 := HCV.out W hS; refine ⟨?_⟩; simp only [Act.put, sA, sB, sC, Nat.zero_add, Nat.reduceAdd, d0] at hK ⊢; go_simp; with_reducible refine hK _ _ (Below.refl _ _) ?_
     exact rfl
    ·as_aux_lemma =>
     intro vs W hS hdep K hK; have d0 := hdep ⟨2, .data⟩ (by simp) rfl; simp only [PhiPr11] at d0; have d1 := hdep ⟨4, .data⟩ (by simp) rfl; simp only [PhiPr11] at d1; have d2 := hdep ⟨6, .data⟩ (by simp) rfl; simp only [PhiPr11] at d2; have d3 := hdep ⟨7, .data⟩ (by simp) rfl; simp only [PhiPr11] at d3; have d4 := hdep ⟨10, .data⟩ (by simp) rfl; simp only [PhiPr11] at d4; have d5 := hdep ⟨13, .data⟩ (by simp) rfl; simp only [PhiPr11] at d5; have d6 := hdep ⟨15, .data⟩ (by simp) rfl; simp only [PhiPr11] at d6; refine ⟨?_⟩; simp only [Act.put, sA, sB, sC, Nat.zero_add, Nat.reduceAdd, d0, d1, d2, d3, d4, d5, d6] at hK ⊢; rw [if_pos (by rfl)]; refine wp_sliceN 49 9 14 [(0, .const (.string { data := #[116, 101, 97, 109] })), (1, .tmp 39), (2, .const (.string { data := #[112, 114, 111, 109, 105, 115, 101, 115, 32, 116, 104, 97, 116] })), (3, .tmp 41), (4, .const (.string { data := #[102, 97, 105, 108, 115, 32, 97, 116] })), (5, .tmp 43), (6, .const (.string { data := #[119, 105, 116, 104, 32, 97, 116, 32, 109, 111, 115, 116] })), (7, .tmp 44), (8, .const (.string { data := #[102, 114, 111, 109] })), (9, .tmp 47), (10, .const (.string { data := #[117, 110, 116, 105, 108] })), (11, .tmp 50), (12, .const (.string { data := #[119, 104, 105, 108, 101] })), (13, .tmp 52)] rfl cs iS (.string { data := #[] }) 1 [(0, .string { data := #[116, 101, 97, 109] }), (1, .string s1), (2, .string { data := #[112, 114, 111, 109, 105, 115, 101, 115, 32, 116, 104, 97, 116] }), (3, .string p.test), (4, .string { data := #[102, 97, 105, 108, 115, 32, 97, 116] }), (5, .string pl), (6, .string { data := #[119, 105, 116, 104, 32, 97, 116, 32, 109, 111, 115, 116] }), (7, .string bd), (8, .string { data := #[102, 114, 111, 109] }), (9, .string s3), (10, .string { data := #[117, 110, 116, 105, 108] }), (11, .string s4), (12, .string { data := #[119, 104, 105, 108, 101] }), (13, .string hx)] Tryz.underlying49 hiS hzS hzS1 (by omega) (by omega) rfl (HCS.out ▸ fill_s14 _ _ _ _ _ _ _ _ _ _ _ _ _ _) ?_
     simp only [Act.put, sA, sB, sC]; with_reducible refine hK _ _ (bA _ _) ?_
     exact ⟨_, rfl, Blk.new _ _ _⟩
    ·as_aux_lemma =>
     intro vs W hS hdep K hK; have d0 := hdep ⟨16, .data⟩ (by simp) rfl; simp only [PhiPr11] at d0; refine @exE1 _ _ _ d0 ?_; clear d0; intro g0 d0; have e0 := d0.1; have k0 := d0.2; clear d0; refine ⟨?_⟩; simp only [Act.put, sA, sB, sC, Nat.zero_add, Nat.reduceAdd, e0] at hK ⊢; go_simp; with_reducible refine hK _ _ (Below.refl _ _) ?_
     exact ⟨_, rfl, k0⟩
   ·intro vs W2 hS hv; have u7 := hv 17 (by simp); simp only [PhiPr11] at u7; obtain ⟨gw, u7, hBk⟩ := u7; simp only [Act.put, sA, sB, sC, Nat.zero_add, Nat.reduceAdd, u7]; clear u7 hv b0 b1 b6 b7 HCP HCV; have hbw := Below.tr hbw hS; have hbk : gw < W2.heap.size := hBk.lt
    have HXS : Hid (joinP (wordsP p bd s1 s2 s3 s4 d) = ⟨(Lib.join ([⟨#[116, 101, 97, 109]⟩, s1, ⟨#[112, 114, 111, 109, 105, 115, 101, 115, 32, 116, 104, 97, 116]⟩, p.test, ⟨#[102, 97, 105, 108, 115, 32, 97, 116]⟩, pl, ⟨#[119, 105, 116, 104, 32, 97, 116, 32, 109, 111, 115, 116]⟩, bd, ⟨#[102, 114, 111, 109]⟩, s3, ⟨#[117, 110, 116, 105, 108]⟩, s4, ⟨#[119, 104, 105, 108, 101]⟩, hx].map (fun x : ByteArray => x.data.toList)) [32]).toArray⟩) := by
     show _ = _
     rw [HHX.out, ← HPL.out]; rfl
    obtain ⟨xs, HX⟩ : ∃ xs : List ByteArray, Hid (xs = [⟨#[116, 101, 97, 109]⟩, s1, ⟨#[112, 114, 111, 109, 105, 115, 101, 115, 32, 116, 104, 97, 116]⟩, p.test, ⟨#[102, 97, 105, 108, 115, 32, 97, 116]⟩, pl, ⟨#[119, 105, 116, 104, 32, 97, 116, 32, 109, 111, 115, 116]⟩, bd, ⟨#[102, 114, 111, 109]⟩, s3, ⟨#[117, 110, 116, 105, 108]⟩, s4, ⟨#[119, 104, 105, 108, 101]⟩, hx]) := ⟨_, rfl⟩; rw [← HX.out] at HXS; have hxl : xs.length = 14 := by rw [HX.out]; rfl
    have hcells : ∀ (j : Nat) x, xs[j]? = some x → W2.cell? ⟨gw, 0 + j, none⟩ = some (.string x) := by
     intro j x hj; rw [Nat.zero_add, hBk.cell, HCS.out]; rw [HX.out] at hj; have h1 := (List.getElem?_eq_some_iff.1 hj).1
     rcases j with _ | _ | _ | _ | _ | _ | _ | _ | _ | _ | _ | _ | _ | _ | j
     all_goals first
      | (simp only [List.getElem?_cons_zero, List.getElem?_cons_succ, Option.some.injEq] at hj; subst hj; rfl)
      | (exfalso; simp at h1; omega)
    have hpls : pl.size ≤ 300 := by
     rw [← HPL.out]; unfold placeS; have := H2.out.1
     split
     ·decide
     ·rw [ByteArray.size_append, ByteArray.size_append]; have e : slB.size = 1 := rfl; omega
    have hhx : hx.size = 32 := by
     rw [HHX.out]
     show ((hexL d).map UInt8.ofNat).toArray.size = 32
     rw [List.size_toArray, List.length_map, hexL_len, HDG.out.2]
    have hjl : (Lib.join (xs.map (fun x : ByteArray => x.data.toList)) [32]).length ≤ 140737488355328 := by
     refine Nat.le_trans (join_len _ 3000 fun x hx1 => ?_) (by rw [List.length_map, hxl]; omega); obtain ⟨z, hz, rfl⟩ := List.mem_map.1 hx1
     show z.data.toList.length ≤ 3000
     have hsz : z.data.toList.length = z.size := by rw [Array.length_toList]; rfl
     rw [hsz]; rw [HX.out] at hz; have g1 := H1.out.1; have g3 := H3.out.1; have g4 := H4.out.1; have g5 := hbd.out.2; simp only [List.mem_cons, List.not_mem_nil, or_false] at hz
     rcases hz with rfl | rfl | rfl | rfl | rfl | rfl | rfl | rfl | rfl | rfl | rfl | rfl | rfl | rfl
     all_goals first | omega | (exact Nat.le_trans (by decide) (Nat.le_refl 3000))
    have HJ := Lib.hid (Tryz.strings_Join gw 0 14 xs ⟨#[32]⟩ W2 hcells hbk (by omega) (by omega) hjl); rw [hxl] at HJ; clear hcells hjl hbk hBk HCS; go_wp2_with fail; refine HJ.out.mono ?_; rintro e w6 ⟨rfl, hb6⟩; go_wp2_with fail
    go_ret2
    exact ⟨by rw [HXS.out]; rfl, Below.tr hbw hb6⟩

end Go.Proofs.YtijkfagkbfbpmaaGreatDoor
