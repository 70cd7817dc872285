import Derived.Test.YtijkfagkbfbpmaaGreatDoorKByProof14
import Derived.Test.YtijkfagkbfbpmaaGreatDoorKByProof16
import Derived.Test.YtijkfagkbfbpmaaGreatDoorKByProof17
import Derived.Test.YtijkfagkbfbpmaaGreatDoorS0
set_option linter.unusedVariables false
set_option linter.unusedSimpArgs false
namespace Go.Proofs.YtijkfagkbfbpmaaGreatDoor
open Go Go.RowKit
/-- a promise as the generators make it: but for its first byte the digest is zero -/
def promV (team : Int) (t h : ByteArray) (site : Int) (b1 b2 : Value) (fr un d : Int) : PC := ⟨team, t, h, site, b1, b2, fr, un, .int .u8 d, .int .u8 0, .int .u8 0, .int .u8 0, .int .u8 0, .int .u8 0, .int .u8 0, .int .u8 0, .int .u8 0, .int .u8 0, .int .u8 0, .int .u8 0, .int .u8 0, .int .u8 0, .int .u8 0, .int .u8 0⟩
theorem built_prom {a s : Int} {t h : ByteArray} : (Tryz.prog).built 33 [(0, .int .i64 a), (1, .string t), (2, .string h), (3, .int .i64 s)] = some (cellsP (promV a t h s (.slice none 0 0) (.slice none 0 0) 0 0 0)).toArray := by kernel_rfl
def testsA : Array Value := #[.string ⟨#[116, 48]⟩, .string ⟨#[116, 49]⟩, .string ⟨#[116, 48]⟩, .string ⟨#[117]⟩]
def whsA : Array Value := #[.string ⟨#[116, 48]⟩, .string ⟨#[112, 48]⟩, .string ⟨#[]⟩, .string ⟨#[116, 48]⟩]
theorem Rat.setsB {v : Value} {p q g : Nat} {T : TypeId} : ∀ (us : List Value) (o : Nat) {w : World} {arr : Array Value}, Rat w v p q → Blk w g T arr → NoU arr → (∀ u ∈ us, ∀ n, u ≠ .int .u32 n) → Rat (w.setCells g o us) v p q
 | [], _, _, _, h, _, _, _ => h
 | u :: us, o, _, _, h, hb, hn, hu => Rat.setsB us (o + 1) (h.setB hb hn u) (hb.set_ o u) (hn.set (hu u (List.mem_cons_self ..))) fun x hx => hu x (List.mem_cons_of_mem _ hx)
theorem promV_no {team site fr un d : Int} {t h : ByteArray} {A1 A2 : Option Addr} {k1 c1 k2 c2 : Nat} : ∀ u ∈ cellsP (promV team t h site (.slice A1 k1 c1) (.slice A2 k2 c2) fr un d), ∀ n, u ≠ .int .u32 n := by
 intro u hu n e; subst e; simp [cellsP, promV] at hu
theorem promV_noU {team site fr un d : Int} {t h : ByteArray} {A1 A2 : Option Addr} {k1 c1 k2 c2 : Nat} : NoU (cellsP (promV team t h site (.slice A1 k1 c1) (.slice A2 k2 c2) fr un d)).toArray := by
 intro i n e; exact promV_no _ (List.mem_of_getElem? (by simpa using e)) n rfl
theorem promV_one {team site fr un d : Int} {t h : ByteArray} {A1 A2 : Option Addr} {k1 c1 k2 c2 : Nat} : ∀ v ∈ cellsP (promV team t h site (.slice A1 k1 c1) (.slice A2 k2 c2) fr un d), v.oneCell' = true := by
 intro v hv; simp only [cellsP, promV, List.mem_cons, List.not_mem_nil, or_false] at hv
 rcases hv with rfl | rfl | rfl | rfl | rfl | rfl | rfl | rfl | rfl | rfl | rfl | rfl | rfl | rfl | rfl | rfl | rfl | rfl | rfl | rfl | rfl | rfl | rfl | rfl <;> rfl
/-- what a step of a region may do that makes blocks and writes but one kind of them -/
def RO (N : Nat) (T : TypeId) (item : Array Value) (w w' : World) : Prop := RD N T item w w' ∧ ∀ g T' arr, T' ≠ T → Blk w g T' arr → Blk w' g T' arr
theorem RO.of {w8 w w' : World} {T : TypeId} {item : Array Value} (hS : Below w8.heap.size w8 w) (h : Below w.heap.size w w') : RO w8.heap.size T item w w' :=
 ⟨RD.of hS h, fun _ _ _ _ hb => hb.below h hb.lt⟩
theorem RO.set {w8 w : World} {T : TypeId} {item arr : Array Value} {g : Nat} (hS : Below w8.heap.size w8 w) (hg : w8.heap.size ≤ g) (hb : Blk w g T arr) (e : arr.size = item.size) : RO w8.heap.size T item w (w.setCells g 0 item.toList) := by
 refine ⟨RD.set hS hg hb e, fun g' T' arr' hT hb' => ?_⟩; refine Blk.farAll (fun e2 => ?_) _ _ hb'; subst e2; unfold Blk at hb hb'; rw [hb] at hb'; injection hb' with h1; injection h1 with _ h2; exact hT h2.symm
def PhiOn (N x m4 q4 t4 q16 t16 q64 t64 : Nat) (t h : ByteArray) (item : Array Value) (vs : Nat → Value) (j : Nat) (w : World) (x' : Value) : Prop :=
 match j with
 | 0 => x' = .int .i64 (x : Nat)
 | 1 => x' = .int .i64 (m4 : Nat)
 | 2 => ∃ g, x' = .slice (some ⟨g, 0, none⟩) 4 4 ∧ Blk w g 9 testsA
 | 3 => x' = .int .i64 (x : Nat)
 | 4 => x' = .int .i64 (q4 : Nat)
 | 5 => x' = .int .i64 (t4 : Nat)
 | 6 => ∃ g, x' = .pointer (some ⟨g, t4, none⟩) ∧ Blk w g 9 testsA
 | 7 => x' = .string t
 | 8 => ∃ g, x' = .slice (some ⟨g, 0, none⟩) 4 4 ∧ Blk w g 9 whsA
 | 9 => x' = .int .i64 (x : Nat)
 | 10 => x' = .int .i64 (q16 : Nat)
 | 11 => x' = .int .i64 (t16 : Nat)
 | 12 => ∃ g, x' = .pointer (some ⟨g, t16, none⟩) ∧ Blk w g 9 whsA
 | 13 => x' = .string h
 | 14 => x' = .int .i64 (x : Nat)
 | 15 => x' = .int .i64 (q64 : Nat)
 | 16 => x' = .int .i64 (t64 : Nat)
 | 17 => x' = .agg item
 | 18 => ∃ g, x' = .pointer (some ⟨g, 0, none⟩) ∧ N ≤ g ∧ ∃ arr, Blk w g 33 arr ∧ arr.size = item.size
 | 19 => ∃ g, vs 18 = .pointer (some ⟨g, 0, none⟩) ∧ Blk w g 33 item
 | _ => True
theorem PhiOn.keep {N x m4 q4 t4 q16 t16 q64 t64 : Nat} {t h : ByteArray} {item : Array Value} : ∀ vs (w w' : World), RO N 33 item w w' → ∀ j x', PhiOn N x m4 q4 t4 q16 t16 q64 t64 t h item vs j w x' → PhiOn N x m4 q4 t4 q16 t16 q64 t64 t h item vs j w' x' := by
 intro vs w w' hb j x' hx; unfold PhiOn at hx ⊢
 split <;> simp only at hx ⊢ <;> first | exact hx | skip
 ·obtain ⟨g, e, h1⟩ := hx; exact ⟨g, e, hb.2 g _ _ (by decide) h1⟩
 ·obtain ⟨g, e, h1⟩ := hx; exact ⟨g, e, hb.2 g _ _ (by decide) h1⟩
 ·obtain ⟨g, e, h1⟩ := hx; exact ⟨g, e, hb.2 g _ _ (by decide) h1⟩
 ·obtain ⟨g, e, h1⟩ := hx; exact ⟨g, e, hb.2 g _ _ (by decide) h1⟩
 ·obtain ⟨g, e, h1, arr, h2, h3⟩ := hx; exact ⟨g, e, h1, (hb.1.2 g arr h2 h3).1⟩
 ·obtain ⟨g, e, h2⟩ := hx; exact ⟨g, e, (hb.1.2 g item h2 rfl).2 rfl⟩
theorem texts_at {i : Nat} (h : i < 4) : ∃ t, testsA[i]? = some (.string t) ∧ (t = tT0 ∨ t = tT1 ∨ t = ⟨#[117]⟩) := by
 rcases i with _ | _ | _ | _ | i
 ·exact ⟨_, rfl, .inl rfl⟩
 ·exact ⟨_, rfl, .inr (.inl rfl)⟩
 ·exact ⟨_, rfl, .inl rfl⟩
 ·exact ⟨_, rfl, .inr (.inr rfl)⟩
 ·omega
theorem whs_at {i : Nat} (h : i < 4) : ∃ t, whsA[i]? = some (.string t) ∧ (t = tT0 ∨ t = tP0 ∨ t = ⟨#[]⟩) := by
 rcases i with _ | _ | _ | _ | i
 ·exact ⟨_, rfl, .inl rfl⟩
 ·exact ⟨_, rfl, .inr (.inl rfl)⟩
 ·exact ⟨_, rfl, .inr (.inr rfl)⟩
 ·exact ⟨_, rfl, .inl rfl⟩
 ·omega
theorem HK24 {p q : Nat} (h : Hid (∃ a k, a ≤ k ∧ 0 < k ∧ k ≤ 24 ∧ p = a / Nat.gcd a k ∧ q = k / Nat.gcd a k)) : q ≤ 24 := by
 obtain ⟨a, k, _, _, h3, _, rfl⟩ := h.out; exact Nat.le_trans (Nat.div_le_self _ _) h3
/-- a promise as One makes it -/
def PromOk (p : PC) : Prop := ∃ (team : Nat) (t h : ByteArray) (site : Nat) (fr un d : Nat) (A1 : Option Addr) (k1 c1 : Nat) (A2 : Option Addr) (k2 c2 : Nat), p = promV team t h site (.slice A1 k1 c1) (.slice A2 k2 c2) fr un d ∧ team < 4 ∧ (t = tT0 ∨ t = tT1 ∨ t = ⟨#[117]⟩) ∧ (h = tT0 ∨ h = tP0 ∨ h = ⟨#[]⟩) ∧ site < 2 ∧ (h = ⟨#[]⟩ → site = 0) ∧ fr < 12 ∧ fr < un ∧ un ≤ fr + 12 ∧ d < 2
theorem results_prom {fn : Func} {p : Tmp} {tmps : Array Value} {w : World} {g : Nat} {cs : List Value} (h : fn.results = #[.cell p 33]) (hp : tmps.getD p undef = .pointer (some ⟨g, 0, none⟩)) (hb : Blk w g 33 cs.toArray) (hl : cs.length = 24) :
  (results fn tmps).run Tryz.prog w = .ok (.agg cs.toArray) w :=
 results_cell_row h tmps w g 33 _ (0, 0) _ hp hb Tryz.underlying33 rfl (by rw [List.size_toArray, hl]; kernel_rfl)
theorem infoP24 {p : PC} : (Tryz.prog.info? 33).map (·.size) = some (cellsP p).toArray.size := by kernel_rfl
set_option maxRecDepth 100000 in
set_option maxHeartbeats 4000000 in
theorem one_n (n m : Int) (w : World) (h1 : -9223372036854775808 ≤ n) (h2 : n ≤ 9223372036854775807) (h3 : -9223372036854775808 ≤ m) (h4 : m ≤ 9223372036854775807) :
  Calls Tryz.prog 52 #[.int .i64 n, .int .i64 m] w fun e w' => ∃ p a b, e = .returned (.agg (cellsP p).toArray) ∧ PromOk p ∧ Rat w' (.agg #[p.b1, p.b2]) a b ∧ Nm.Good a b ∧ a ≤ b ∧ b ≤ 24 ∧ Below w.heap.size w w' := by
 go_enter Tryz.func52, Tryz.ntmps52
 go_upto_region 1 with fail; refine wp_name ?_; intro w1 HW1; have hb1 : Below w.heap.size w w1 := by rw [HW1.out]; exact bA _ _
 have B4 : Blk w1 w.heap.size 33 (cellsP (promV 0 ⟨#[]⟩ ⟨#[]⟩ 0 (.slice none 0 0) (.slice none 0 0) 0 0 0)).toArray := by rw [HW1.out]; exact Blk.new _ _ _
 clear HW1; go_wp2_with fail; refine (around_n n 65536 _ h1 h2 (by omega) (by omega)).mono ?_; rintro e w' ⟨x, rfl, hx, _, rfl⟩; go_wp2_with fail; refine (around_n m 65536 _ h3 h4 (by omega) (by omega)).mono ?_; rintro e w' ⟨y, rfl, hy, _, rfl⟩; go_upto_region 3 with fail; obtain ⟨m4, h4m⟩ : ∃ z : Nat, z = x % 4 := ⟨_, rfl⟩; obtain ⟨q4, h4q⟩ : ∃ z : Nat, z = x / 4 := ⟨_, rfl⟩; obtain ⟨t4, h4t⟩ : ∃ z : Nat, z = q4 % 4 := ⟨_, rfl⟩; obtain ⟨q16, h16q⟩ : ∃ z : Nat, z = x / 16 := ⟨_, rfl⟩; obtain ⟨t16, h16t⟩ : ∃ z : Nat, z = q16 % 4 := ⟨_, rfl⟩; obtain ⟨q64, h64q⟩ : ∃ z : Nat, z = x / 64 := ⟨_, rfl⟩; obtain ⟨t64, h64t⟩ : ∃ z : Nat, z = q64 % 2 := ⟨_, rfl⟩; have s0 : (x : Int).tmod 4 = (m4 : Int) := by rw [h4m]; rfl
 have s1 : IntKind.i64.wrap ((x : Int) / 4) = (q4 : Int) := by rw [IntWalk.i64_in _ (by omega), h4q]; rfl
 have s2 : IntKind.i64.wrap ((x : Int) / 16) = (q16 : Int) := by rw [IntWalk.i64_in _ (by omega), h16q]; rfl
 have s3 : IntKind.i64.wrap ((x : Int) / 64) = (q64 : Int) := by rw [IntWalk.i64_in _ (by omega), h64q]; rfl
 have s4 : (q4 : Int).tmod 4 = (t4 : Int) := by rw [h4t]; rfl
 have s5 : (q16 : Int).tmod 4 = (t16 : Int) := by rw [h16t]; rfl
 have s6 : (q64 : Int).tmod 2 = (t64 : Int) := by rw [h64t]; rfl
 have hm4 : m4 < 4 := by omega
 have ht4 : t4 < 4 := by omega
 have ht16 : t16 < 4 := by omega
 have ht64 : t64 < 2 := by omega
 have ht4i : (t4 : Int) < 4 := by omega
 have ht16i : (t16 : Int) < 4 := by omega
 clear h4m h4q h4t h16q h16t h64q h64t; obtain ⟨t, ht, hT⟩ := texts_at ht4; obtain ⟨h, hh, hH⟩ := whs_at ht16; have HT := Lib.hid ht; have HH := Lib.hid hh; clear ht hh; refine region_invd (PhiOn w1.heap.size x m4 q4 t4 q16 t16 q64 t64 t h (cellsP (promV (m4 : Nat) t h (t64 : Nat) (.slice none 0 0) (.slice none 0 0) 0 0 0)).toArray) (RO w1.heap.size 33 (cellsP (promV (m4 : Nat) t h (t64 : Nat) (.slice none 0 0) (.slice none 0 0) 0 0 0)).toArray) (fun W => Below w1.heap.size w1 W) (by kernel_rfl) (by kernel_rfl) (by kernel_rfl) PhiOn.keep (fun _ _ hR hS => hS.trans hR.1.1) ?_ (bD _) ?_ ?_
 ·exact sK (fun _ _ _ _ _ h => h) (sK (fun _ _ _ _ _ h => h) (sK (fun _ _ _ _ _ h => h) (sK (fun _ _ _ _ _ h => h) (sK (fun _ _ _ _ _ h => h) (sK (fun _ _ _ _ _ h => h) (sK (fun _ _ _ _ _ h => h) (sK (fun _ _ _ _ _ h => h) (sK (fun _ _ _ _ _ h => h) (sK (fun _ _ _ _ _ h => h) (sK (fun _ _ _ _ _ h => h) (sK (fun _ _ _ _ _ h => h) (sK (fun _ _ _ _ _ h => h) (sK (fun _ _ _ _ _ h => h) (sK (fun _ _ _ _ _ h => h) (sK (fun _ _ _ _ _ h => h) (sK (fun _ _ _ _ _ h => h) (sK (fun _ _ _ _ _ h => h) (sK (fun _ _ _ _ _ h => h) (sK (by intro vs vs' w x h; have h1 := h ⟨18, .data⟩ (by simp) rfl; simp only [PhiOn]; rw [h1]; exact id) (sZ))))))))))))))))))))
 ·refine sK ?_ (sK ?_ (sK ?_ (sK ?_ (sK ?_ (sK ?_ (sK ?_ (sK ?_ (sK ?_ (sK ?_ (sK ?_ (sK ?_ (sK ?_ (sK ?_ (sK ?_ (sK ?_ (sK ?_ (sK ?_ (sK ?_ (sK ?_ (sZ))))))))))))))))))))
  ·as_aux_lemma =>
   intro vs W hS hdep K hK; refine ⟨?_⟩; simp only [fillR, Act.put, sA, sB, sC, Nat.zero_add, Nat.reduceAdd] at hK ⊢; go_simp; with_reducible refine hK _ _ (RO.of hS (Below.refl _ _)) ?_
   exact rfl
  ·as_aux_lemma =>
   intro vs W hS hdep K hK; have d0 := hdep ⟨0, .data⟩ (by simp) rfl; simp only [PhiOn] at d0; refine ⟨?_⟩; simp only [fillR, Act.put, sA, sB, sC, Nat.zero_add, Nat.reduceAdd, d0] at hK ⊢; go_simp; with_reducible refine hK _ _ (RO.of hS (Below.refl _ _)) ?_
   exact rfl
  ·as_aux_lemma =>
   intro vs W hS hdep K hK; refine ⟨?_⟩; simp only [fillR, Act.put, sA, sB, sC, Nat.zero_add, Nat.reduceAdd] at hK ⊢; go_simp; with_reducible refine hK _ _ (RO.of hS (bA _ _)) ?_
   exact ⟨_, rfl, Blk.new _ _ _⟩
  ·as_aux_lemma =>
   intro vs W hS hdep K hK; refine ⟨?_⟩; simp only [fillR, Act.put, sA, sB, sC, Nat.zero_add, Nat.reduceAdd] at hK ⊢; go_simp; with_reducible refine hK _ _ (RO.of hS (Below.refl _ _)) ?_
   exact rfl
  ·as_aux_lemma =>
   intro vs W hS hdep K hK; have d0 := hdep ⟨3, .data⟩ (by simp) rfl; simp only [PhiOn] at d0; refine ⟨?_⟩; simp only [fillR, Act.put, sA, sB, sC, Nat.zero_add, Nat.reduceAdd, d0] at hK ⊢; go_simp; with_reducible refine hK _ _ (RO.of hS (Below.refl _ _)) ?_
   exact rfl
  ·as_aux_lemma =>
   intro vs W hS hdep K hK; have d0 := hdep ⟨4, .data⟩ (by simp) rfl; simp only [PhiOn] at d0; refine ⟨?_⟩; simp only [fillR, Act.put, sA, sB, sC, Nat.zero_add, Nat.reduceAdd, d0] at hK ⊢; go_simp; with_reducible refine hK _ _ (RO.of hS (Below.refl _ _)) ?_
   exact rfl
  ·as_aux_lemma =>
   intro vs W hS hdep K hK; have d0 := hdep ⟨2, .data⟩ (by simp) rfl; simp only [PhiOn] at d0; refine @exE1 _ _ _ d0 ?_; clear d0; intro g0 d0; have e0 := d0.1; have b0 := d0.2; clear d0; have d1 := hdep ⟨5, .data⟩ (by simp) rfl; simp only [PhiOn] at d1; refine ⟨?_⟩; simp only [fillR, Act.put, sA, sB, sC, Nat.zero_add, Nat.reduceAdd, e0, d1] at hK ⊢; go_simp; with_reducible refine hK _ _ (RO.of hS (Below.refl _ _)) ?_
   exact ⟨_, rfl, b0⟩
  ·as_aux_lemma =>
   intro vs W hS hdep K hK; have d0 := hdep ⟨6, .data⟩ (by simp) rfl; simp only [PhiOn] at d0; refine @exE1 _ _ _ d0 ?_; clear d0; intro g0 d0; have e0 := d0.1; have b0 := d0.2; clear d0; have q := b0.cell (t4); rw [HT.out] at q; refine ⟨?_⟩; simp only [fillR, Act.put, sA, sB, sC, Nat.zero_add, Nat.reduceAdd, e0] at hK ⊢; go_simp; with_reducible refine hK _ _ (RO.of hS (Below.refl _ _)) ?_
   exact rfl
  ·as_aux_lemma =>
   intro vs W hS hdep K hK; refine ⟨?_⟩; simp only [fillR, Act.put, sA, sB, sC, Nat.zero_add, Nat.reduceAdd] at hK ⊢; go_simp; with_reducible refine hK _ _ (RO.of hS (bA _ _)) ?_
   exact ⟨_, rfl, Blk.new _ _ _⟩
  ·as_aux_lemma =>
   intro vs W hS hdep K hK; refine ⟨?_⟩; simp only [fillR, Act.put, sA, sB, sC, Nat.zero_add, Nat.reduceAdd] at hK ⊢; go_simp; with_reducible refine hK _ _ (RO.of hS (Below.refl _ _)) ?_
   exact rfl
  ·as_aux_lemma =>
   intro vs W hS hdep K hK; have d0 := hdep ⟨9, .data⟩ (by simp) rfl; simp only [PhiOn] at d0; refine ⟨?_⟩; simp only [fillR, Act.put, sA, sB, sC, Nat.zero_add, Nat.reduceAdd, d0] at hK ⊢; go_simp; with_reducible refine hK _ _ (RO.of hS (Below.refl _ _)) ?_
   exact rfl
  ·as_aux_lemma =>
   intro vs W hS hdep K hK; have d0 := hdep ⟨10, .data⟩ (by simp) rfl; simp only [PhiOn] at d0; refine ⟨?_⟩; simp only [fillR, Act.put, sA, sB, sC, Nat.zero_add, Nat.reduceAdd, d0] at hK ⊢; go_simp; with_reducible refine hK _ _ (RO.of hS (Below.refl _ _)) ?_
   exact rfl
  ·as_aux_lemma =>
   intro vs W hS hdep K hK; have d0 := hdep ⟨8, .data⟩ (by simp) rfl; simp only [PhiOn] at d0; refine @exE1 _ _ _ d0 ?_; clear d0; intro g0 d0; have e0 := d0.1; have b0 := d0.2; clear d0; have d1 := hdep ⟨11, .data⟩ (by simp) rfl; simp only [PhiOn] at d1; refine ⟨?_⟩; simp only [fillR, Act.put, sA, sB, sC, Nat.zero_add, Nat.reduceAdd, e0, d1] at hK ⊢; go_simp; with_reducible refine hK _ _ (RO.of hS (Below.refl _ _)) ?_
   exact ⟨_, rfl, b0⟩
  ·as_aux_lemma =>
   intro vs W hS hdep K hK; have d0 := hdep ⟨12, .data⟩ (by simp) rfl; simp only [PhiOn] at d0; refine @exE1 _ _ _ d0 ?_; clear d0; intro g0 d0; have e0 := d0.1; have b0 := d0.2; clear d0; have q := b0.cell (t16); rw [HH.out] at q; refine ⟨?_⟩; simp only [fillR, Act.put, sA, sB, sC, Nat.zero_add, Nat.reduceAdd, e0] at hK ⊢; go_simp; with_reducible refine hK _ _ (RO.of hS (Below.refl _ _)) ?_
   exact rfl
  ·as_aux_lemma =>
   intro vs W hS hdep K hK; refine ⟨?_⟩; simp only [fillR, Act.put, sA, sB, sC, Nat.zero_add, Nat.reduceAdd] at hK ⊢; go_simp; with_reducible refine hK _ _ (RO.of hS (Below.refl _ _)) ?_
   exact rfl
  ·as_aux_lemma =>
   intro vs W hS hdep K hK; have d0 := hdep ⟨14, .data⟩ (by simp) rfl; simp only [PhiOn] at d0; refine ⟨?_⟩; simp only [fillR, Act.put, sA, sB, sC, Nat.zero_add, Nat.reduceAdd, d0] at hK ⊢; go_simp; with_reducible refine hK _ _ (RO.of hS (Below.refl _ _)) ?_
   exact rfl
  ·as_aux_lemma =>
   intro vs W hS hdep K hK; have d0 := hdep ⟨15, .data⟩ (by simp) rfl; simp only [PhiOn] at d0; refine ⟨?_⟩; simp only [fillR, Act.put, sA, sB, sC, Nat.zero_add, Nat.reduceAdd, d0] at hK ⊢; go_simp; with_reducible refine hK _ _ (RO.of hS (Below.refl _ _)) ?_
   exact rfl
  ·as_aux_lemma =>
   intro vs W hS hdep K hK; have d0 := hdep ⟨1, .data⟩ (by simp) rfl; simp only [PhiOn] at d0; have d1 := hdep ⟨7, .data⟩ (by simp) rfl; simp only [PhiOn] at d1; have d2 := hdep ⟨13, .data⟩ (by simp) rfl; simp only [PhiOn] at d2; have d3 := hdep ⟨16, .data⟩ (by simp) rfl; simp only [PhiOn] at d3; refine ⟨?_⟩; simp only [fillR, Act.put, sA, sB, sC, Nat.zero_add, Nat.reduceAdd, d0, d1, d2, d3] at hK ⊢; rw [if_pos (by rfl)]; refine wp_buildV 33 [(0, .tmp 13), (1, .tmp 19), (2, .tmp 25), (3, .tmp 28)] (by rfl) (cellsP (promV (m4 : Nat) t h (t64 : Nat) (.slice none 0 0) (.slice none 0 0) 0 0 0)).toArray [(0, .int .i64 (m4 : Nat)), (1, .string t), (2, .string h), (3, .int .i64 (t64 : Nat))] (by rfl) built_prom ?_; simp only [Act.put, sA, sB, sC]; with_reducible refine hK _ _ (RO.of hS (Below.refl _ _)) ?_
   exact rfl
  ·as_aux_lemma =>
   intro vs W hS hdep K hK; refine ⟨?_⟩; simp only [fillR, Act.put, sA, sB, sC, Nat.zero_add, Nat.reduceAdd] at hK ⊢; go_simp; with_reducible refine hK _ _ (RO.of hS (bA _ _)) ?_
   exact ⟨_, rfl, hS.size, _, Blk.new _ _ _, rfl⟩
  ·as_aux_lemma =>
   intro vs W hS hdep K hK; have d0 := hdep ⟨18, .data⟩ (by simp) rfl; simp only [PhiOn] at d0; refine @exE1 _ _ _ d0 ?_; clear d0; intro g0 d0; have E0 := d0.1; have LE0 := d0.2.1; have B0 := d0.2.2; clear d0; have d1 := hdep ⟨17, .data⟩ (by simp) rfl; simp only [PhiOn] at d1; refine @exE1 _ _ _ B0 ?_; intro arr BA; have BA1 := BA.1; have BA2 := BA.2; clear BA B0; refine ⟨?_⟩; simp only [fillR, Act.put, sA, sB, sC, Nat.zero_add, Nat.reduceAdd, E0, d1] at hK ⊢; rw [if_pos (by rfl)]; refine wp_store_mid 33 (.tmp 7) (.tmp 29) (by rfl) g0 0 (cellsP (promV (m4 : Nat) t h (t64 : Nat) (.slice none 0 0) (.slice none 0 0) 0 0 0)).toArray (by rfl) (by rfl) (Blk.there BA1 BA2) infoP24 (all_oneCell_toArray promV_one) ?_; simp only [Act.put, sA, sB, sC]; with_reducible refine hK undef _ (RO.set hS LE0 BA1 BA2) ?_
   exact ⟨_, E0, Blk.setAll BA1 BA2⟩
 ·intro vs w3 hS hv; have v18 := hv 18 (by simp); have v19 := hv 19 (by simp); simp only [PhiOn] at v18 v19; obtain ⟨g, e18, hge, _⟩ := v18; obtain ⟨g', e19, BI⟩ := v19; obtain rfl : g' = g := by rw [e18] at e19; injection e19 with e; injection e with e; injection e with e; exact e.symm
  simp only [fillR, Act.put, sA, sB, sC, Nat.zero_add, Nat.reduceAdd, e18]; clear hv e18 e19; have hgN : w.heap.size < g' := by have := Blk.lt B4; omega
  have B4 := Blk.below B4 hS B4.lt; have hb3 := Below.tr hb1 hS; clear hS HT HH s0 s1 s2 s3 s4 s5 s6 hb1 hge; have HE0 : Hid (h = ⟨#[]⟩ → h.toList.isEmpty = true) := fun e => by rw [e, ByteArray.toList_eq]; rfl
  obtain ⟨qy, hqy⟩ : ∃ z : Nat, z = y / 24 := ⟨_, rfl⟩; obtain ⟨qu, hqu⟩ : ∃ z : Nat, z = y / 64 := ⟨_, rfl⟩; obtain ⟨tu, htu⟩ : ∃ z : Nat, z = qu % 12 := ⟨_, rfl⟩; obtain ⟨qf, hqf⟩ : ∃ z : Nat, z = x / 128 := ⟨_, rfl⟩; obtain ⟨tf, htf⟩ : ∃ z : Nat, z = qf % 12 := ⟨_, rfl⟩; obtain ⟨qd, hqd⟩ : ∃ z : Nat, z = x / 2048 := ⟨_, rfl⟩; obtain ⟨td, htd⟩ : ∃ z : Nat, z = qd % 2 := ⟨_, rfl⟩; have s1 : IntKind.i64.wrap ((y : Int) / 24) = (qy : Int) := by rw [IntWalk.i64_in _ (by omega), hqy]; rfl
  have s2 : IntKind.i64.wrap ((qy : Int) + 1) = (qy : Int) + 1 := by rw [IntWalk.i64_in _ (by omega)]
  have s3 : IntKind.i64.wrap ((x : Int) / 128) = (qf : Int) := by rw [IntWalk.i64_in _ (by omega), hqf]; rfl
  have s4 : (qf : Int).tmod 12 = (tf : Int) := by rw [htf]; rfl
  have s5 : IntKind.i64.wrap ((tf : Int) + 1) = (tf : Int) + 1 := by rw [IntWalk.i64_in _ (by omega)]
  have s6 : IntKind.i64.wrap ((y : Int) / 64) = (qu : Int) := by rw [IntWalk.i64_in _ (by omega), hqu]; rfl
  have s7 : (qu : Int).tmod 12 = (tu : Int) := by rw [htu]; rfl
  have s8 : IntKind.i64.wrap ((tf : Int) + 1 + (tu : Int)) = (tf : Int) + 1 + (tu : Int) := by rw [IntWalk.i64_in _ (by omega)]
  have s9 : IntKind.i64.wrap ((x : Int) / 2048) = (qd : Int) := by rw [IntWalk.i64_in _ (by omega), hqd]; rfl
  have s10 : (qd : Int).tmod 2 = (td : Int) := by rw [htd]; rfl
  have s11 : IntKind.u8.wrap (td : Int) = (td : Int) := by rcases (show td = 0 ∨ td = 1 by omega) with e | e <;> rw [e] <;> rfl
  have l1 : tf < 12 := by omega
  have l2 : tu < 12 := by omega
  have l3 : td < 2 := by omega
  have l4 : qy ≤ 65536 := by omega
  clear hqy hqu htu hqf htf hqd htd h1 h2 h3 h4; have q2 := BI.cell 2; have q3 := BI.cell 3; have z3 := BI.frozen 3; simp only [cellsP, promV, List.getElem?_toArray, List.getElem?_cons_zero, List.getElem?_cons_succ] at q2 q3
  rcases Bool.eq_false_or_eq_true h.toList.isEmpty with he | he
  ·as_aux_lemma =>
   go_upto_region 6 with fail; refine wp_name ?_; intro w4 HW4; have BI : Blk w4 g' 33 (cellsP (promV (m4 : Nat) t h 0 (.slice none 0 0) (.slice none 0 0) 0 0 0)).toArray := by rw [HW4.out]; exact BI.set_ 3 (.int .i64 0)
   have B4 : Blk w4 w.heap.size 33 (cellsP (promV 0 ⟨#[]⟩ ⟨#[]⟩ 0 (.slice none 0 0) (.slice none 0 0) 0 0 0)).toArray := by rw [HW4.out]; exact B4.far (by show w.heap.size ≠ g'; omega) _
   have hb3 : Below w.heap.size w w4 := by rw [HW4.out]; exact hb3.setCell (by show w.heap.size ≤ g'; omega) _
   clear HW4 q2 q3 z3; go_wp2_with fail; refine (rpart_n y ((qy : Int) + 1) _ (by omega) (by omega) (by omega) (by omega)).mono ?_; rintro e w5 ⟨v, a, b, rfl, hra, ga, hab, HK, hb5⟩; obtain ⟨A1, k1, c1, A2, k2, c2, rfl⟩ := hra.shape; have BI := Blk.below BI hb5 BI.lt; have B4 := Blk.below B4 hb5 B4.lt; have hb3 := Below.tr hb3 hb5; have q4 := BI.cell 4; have q5 := BI.cell 5; have z4 := BI.frozen 4; have z5 := BI.frozen 5; simp only [cellsP, promV, List.getElem?_toArray, List.getElem?_cons_zero, List.getElem?_cons_succ] at q4 q5; have BJ := BI.set_ 4 (.slice A1 k1 c1); have q6 := BJ.cell 5; have z6 := BJ.frozen 5; clear hb5; go_upto_region 7 with fail; refine wp_name ?_; intro w6 HW6; have hra : Rat w6 (.agg #[.slice A1 k1 c1, .slice A2 k2 c2]) a b := by rw [HW6.out]; exact (Rat.setB (Rat.setB hra BI promV_noU (.slice A1 k1 c1)) (Blk.set_ BI 4 (.slice A1 k1 c1)) (NoU.set promV_noU (i := 4) (u := (.slice A1 k1 c1)) (by intro n e; cases e)) (.slice A2 k2 c2))
   have B4 : Blk w6 w.heap.size 33 (cellsP (promV 0 ⟨#[]⟩ ⟨#[]⟩ 0 (.slice none 0 0) (.slice none 0 0) 0 0 0)).toArray := by rw [HW6.out]; exact (Blk.far (Blk.far B4 (by show w.heap.size ≠ g'; omega) (.slice A1 k1 c1)) (by show w.heap.size ≠ g'; omega) (.slice A2 k2 c2))
   have hb3 : Below w.heap.size w w6 := by rw [HW6.out]; exact (Below.setCell (Below.setCell hb3 (by show w.heap.size ≤ g'; omega) (.slice A1 k1 c1)) (by show w.heap.size ≤ g'; omega) (.slice A2 k2 c2))
   have BI : Blk w6 g' 33 (cellsP (promV (m4 : Nat) t h 0 (.slice A1 k1 c1) (.slice A2 k2 c2) 0 0 0)).toArray := by rw [HW6.out]; exact (Blk.set_ (Blk.set_ BI 4 (.slice A1 k1 c1)) 5 (.slice A2 k2 c2))
   clear HW6; clear q4 q5 z4 z5 BJ q6 z6; have q7 := BI.cell 6; have z7 := BI.frozen 6; simp only [cellsP, promV, List.getElem?_toArray, List.getElem?_cons_zero, List.getElem?_cons_succ] at q7; go_upto_region 8 with fail; refine wp_name ?_; intro w7 HW7; have hra : Rat w7 (.agg #[.slice A1 k1 c1, .slice A2 k2 c2]) a b := by rw [HW7.out]; exact (Rat.setB hra BI promV_noU (.int .i64 (tf : Nat)))
   have B4 : Blk w7 w.heap.size 33 (cellsP (promV 0 ⟨#[]⟩ ⟨#[]⟩ 0 (.slice none 0 0) (.slice none 0 0) 0 0 0)).toArray := by rw [HW7.out]; exact (Blk.far B4 (by show w.heap.size ≠ g'; omega) (.int .i64 (tf : Nat)))
   have hb3 : Below w.heap.size w w7 := by rw [HW7.out]; exact (Below.setCell hb3 (by show w.heap.size ≤ g'; omega) (.int .i64 (tf : Nat)))
   have BI : Blk w7 g' 33 (cellsP (promV (m4 : Nat) t h 0 (.slice A1 k1 c1) (.slice A2 k2 c2) (tf : Nat) 0 0)).toArray := by rw [HW7.out]; exact (Blk.set_ BI 6 (.int .i64 (tf : Nat)))
   clear HW7; clear q7 z7; have q7 := BI.cell 6; have z7 := BI.frozen 6; simp only [cellsP, promV, List.getElem?_toArray, List.getElem?_cons_zero, List.getElem?_cons_succ] at q7; have q8 := BI.cell 7; have z8 := BI.frozen 7; simp only [cellsP, promV, List.getElem?_toArray, List.getElem?_cons_zero, List.getElem?_cons_succ] at q8; go_upto_region 9 with fail; refine wp_name ?_; intro w8 HW8; have hra : Rat w8 (.agg #[.slice A1 k1 c1, .slice A2 k2 c2]) a b := by rw [HW8.out]; exact (Rat.setB hra BI promV_noU (.int .i64 ((tf : Int) + 1 + (tu : Int))))
   have B4 : Blk w8 w.heap.size 33 (cellsP (promV 0 ⟨#[]⟩ ⟨#[]⟩ 0 (.slice none 0 0) (.slice none 0 0) 0 0 0)).toArray := by rw [HW8.out]; exact (Blk.far B4 (by show w.heap.size ≠ g'; omega) (.int .i64 ((tf : Int) + 1 + (tu : Int))))
   have hb3 : Below w.heap.size w w8 := by rw [HW8.out]; exact (Below.setCell hb3 (by show w.heap.size ≤ g'; omega) (.int .i64 ((tf : Int) + 1 + (tu : Int))))
   have BI : Blk w8 g' 33 (cellsP (promV (m4 : Nat) t h 0 (.slice A1 k1 c1) (.slice A2 k2 c2) (tf : Nat) ((tf : Int) + 1 + (tu : Int)) 0)).toArray := by rw [HW8.out]; exact (Blk.set_ BI 7 (.int .i64 ((tf : Int) + 1 + (tu : Int))))
   clear HW8; clear q7 z7 q8 z8; have q9 := BI.cell 8; have z9 := BI.frozen 8; simp only [cellsP, promV, List.getElem?_toArray, List.getElem?_cons_zero, List.getElem?_cons_succ] at q9; go_upto_region 10 with fail; refine wp_name ?_; intro w9 HW9; have hra : Rat w9 (.agg #[.slice A1 k1 c1, .slice A2 k2 c2]) a b := by rw [HW9.out]; exact (Rat.setB hra BI promV_noU (.int .u8 (td : Nat)))
   have B4 : Blk w9 w.heap.size 33 (cellsP (promV 0 ⟨#[]⟩ ⟨#[]⟩ 0 (.slice none 0 0) (.slice none 0 0) 0 0 0)).toArray := by rw [HW9.out]; exact (Blk.far B4 (by show w.heap.size ≠ g'; omega) (.int .u8 (td : Nat)))
   have hb3 : Below w.heap.size w w9 := by rw [HW9.out]; exact (Below.setCell hb3 (by show w.heap.size ≤ g'; omega) (.int .u8 (td : Nat)))
   have BI : Blk w9 g' 33 (cellsP (promV (m4 : Nat) t h 0 (.slice A1 k1 c1) (.slice A2 k2 c2) (tf : Nat) ((tf : Int) + 1 + (tu : Int)) (td : Nat))).toArray := by rw [HW9.out]; exact (Blk.set_ BI 8 (.int .u8 (td : Nat)))
   clear HW9; clear q9 z9; obtain ⟨w10, hw10⟩ : ∃ w', Hid (w' = w9.setCells w.heap.size 0 (cellsP (promV (m4 : Nat) t h 0 (.slice A1 k1 c1) (.slice A2 k2 c2) (tf : Nat) ((tf : Int) + 1 + (tu : Int)) (td : Nat)))) := ⟨_, rfl⟩; have hra : Rat w10 (.agg #[.slice A1 k1 c1, .slice A2 k2 c2]) a b := by rw [hw10.out]; exact Rat.setsB _ 0 hra B4 promV_noU promV_no
   have hb3 : Below w.heap.size w w10 := by rw [hw10.out]; exact below_setAll (Nat.le_refl _) _ _ hb3
   have hF : Blk w10 w.heap.size 33 (cellsP (promV (m4 : Nat) t h 0 (.slice A1 k1 c1) (.slice A2 k2 c2) (tf : Nat) ((tf : Int) + 1 + (tu : Int)) (td : Nat))).toArray := by rw [hw10.out]; exact Blk.setAll B4 rfl
   go_wp2_with (first | (refine wpList_load_mid rfl 33 (.tmp 7) rfl g' 0 rfl (cellsP (promV (m4 : Nat) t h 0 (.slice A1 k1 c1) (.slice A2 k2 c2) (tf : Nat) ((tf : Int) + 1 + (tu : Int)) (td : Nat))) _ (Blk.range BI) Tryz.underlying33 rfl (infoP (p := promV (m4 : Nat) t h 0 (.slice A1 k1 c1) (.slice A2 k2 c2) (tf : Nat) ((tf : Int) + 1 + (tu : Int)) (td : Nat))) ?_; simp only [Act.put, sA, sB, sC]) | (refine wpList_store_mid rfl 33 (.tmp 4) (.tmp 58) rfl w.heap.size 0 (cellsP (promV (m4 : Nat) t h 0 (.slice A1 k1 c1) (.slice A2 k2 c2) (tf : Nat) ((tf : Int) + 1 + (tu : Int)) (td : Nat))).toArray rfl rfl (Blk.there B4 rfl) infoP24 (all_oneCell_toArray promV_one) ?_; rw [List.toList_toArray, ← hw10.out]))
   exact bodyPost_ret (results_prom rfl rfl hF rfl) rfl ⟨_, a, b, rfl, ⟨m4, t, h, 0, tf, tf + 1 + tu, td, A1, k1, c1, A2, k2, c2, by congr 1, hm4, hT, hH, by omega, fun _ => rfl, l1, by omega, by omega, l3⟩, hra, ga, hab, HK24 HK, hb3⟩
  ·as_aux_lemma =>
   go_upto_region 6 with fail; clear q2 q3 z3; obtain ⟨w4, hw4⟩ : ∃ w4, w4 = w3 := ⟨_, rfl⟩; subst hw4; go_wp2_with fail; refine (rpart_n y ((qy : Int) + 1) _ (by omega) (by omega) (by omega) (by omega)).mono ?_; rintro e w5 ⟨v, a, b, rfl, hra, ga, hab, HK, hb5⟩; obtain ⟨A1, k1, c1, A2, k2, c2, rfl⟩ := hra.shape; have BI := Blk.below BI hb5 BI.lt; have B4 := Blk.below B4 hb5 B4.lt; have hb3 := Below.tr hb3 hb5; have q4 := BI.cell 4; have q5 := BI.cell 5; have z4 := BI.frozen 4; have z5 := BI.frozen 5; simp only [cellsP, promV, List.getElem?_toArray, List.getElem?_cons_zero, List.getElem?_cons_succ] at q4 q5; have BJ := BI.set_ 4 (.slice A1 k1 c1); have q6 := BJ.cell 5; have z6 := BJ.frozen 5; clear hb5; go_upto_region 7 with fail; refine wp_name ?_; intro w6 HW6; have hra : Rat w6 (.agg #[.slice A1 k1 c1, .slice A2 k2 c2]) a b := by rw [HW6.out]; exact (Rat.setB (Rat.setB hra BI promV_noU (.slice A1 k1 c1)) (Blk.set_ BI 4 (.slice A1 k1 c1)) (NoU.set promV_noU (i := 4) (u := (.slice A1 k1 c1)) (by intro n e; cases e)) (.slice A2 k2 c2))
   have B4 : Blk w6 w.heap.size 33 (cellsP (promV 0 ⟨#[]⟩ ⟨#[]⟩ 0 (.slice none 0 0) (.slice none 0 0) 0 0 0)).toArray := by rw [HW6.out]; exact (Blk.far (Blk.far B4 (by show w.heap.size ≠ g'; omega) (.slice A1 k1 c1)) (by show w.heap.size ≠ g'; omega) (.slice A2 k2 c2))
   have hb3 : Below w.heap.size w w6 := by rw [HW6.out]; exact (Below.setCell (Below.setCell hb3 (by show w.heap.size ≤ g'; omega) (.slice A1 k1 c1)) (by show w.heap.size ≤ g'; omega) (.slice A2 k2 c2))
   have BI : Blk w6 g' 33 (cellsP (promV (m4 : Nat) t h (t64 : Nat) (.slice A1 k1 c1) (.slice A2 k2 c2) 0 0 0)).toArray := by rw [HW6.out]; exact (Blk.set_ (Blk.set_ BI 4 (.slice A1 k1 c1)) 5 (.slice A2 k2 c2))
   clear HW6; clear q4 q5 z4 z5 BJ q6 z6; have q7 := BI.cell 6; have z7 := BI.frozen 6; simp only [cellsP, promV, List.getElem?_toArray, List.getElem?_cons_zero, List.getElem?_cons_succ] at q7; go_upto_region 8 with fail; refine wp_name ?_; intro w7 HW7; have hra : Rat w7 (.agg #[.slice A1 k1 c1, .slice A2 k2 c2]) a b := by rw [HW7.out]; exact (Rat.setB hra BI promV_noU (.int .i64 (tf : Nat)))
   have B4 : Blk w7 w.heap.size 33 (cellsP (promV 0 ⟨#[]⟩ ⟨#[]⟩ 0 (.slice none 0 0) (.slice none 0 0) 0 0 0)).toArray := by rw [HW7.out]; exact (Blk.far B4 (by show w.heap.size ≠ g'; omega) (.int .i64 (tf : Nat)))
   have hb3 : Below w.heap.size w w7 := by rw [HW7.out]; exact (Below.setCell hb3 (by show w.heap.size ≤ g'; omega) (.int .i64 (tf : Nat)))
   have BI : Blk w7 g' 33 (cellsP (promV (m4 : Nat) t h (t64 : Nat) (.slice A1 k1 c1) (.slice A2 k2 c2) (tf : Nat) 0 0)).toArray := by rw [HW7.out]; exact (Blk.set_ BI 6 (.int .i64 (tf : Nat)))
   clear HW7; clear q7 z7; have q7 := BI.cell 6; have z7 := BI.frozen 6; simp only [cellsP, promV, List.getElem?_toArray, List.getElem?_cons_zero, List.getElem?_cons_succ] at q7; have q8 := BI.cell 7; have z8 := BI.frozen 7; simp only [cellsP, promV, List.getElem?_toArray, List.getElem?_cons_zero, List.getElem?_cons_succ] at q8; go_upto_region 9 with fail; refine wp_name ?_; intro w8 HW8; have hra : Rat w8 (.agg #[.slice A1 k1 c1, .slice A2 k2 c2]) a b := by rw [HW8.out]; exact (Rat.setB hra BI promV_noU (.int .i64 ((tf : Int) + 1 + (tu : Int))))
   have B4 : Blk w8 w.heap.size 33 (cellsP (promV 0 ⟨#[]⟩ ⟨#[]⟩ 0 (.slice none 0 0) (.slice none 0 0) 0 0 0)).toArray := by rw [HW8.out]; exact (Blk.far B4 (by show w.heap.size ≠ g'; omega) (.int .i64 ((tf : Int) + 1 + (tu : Int))))
   have hb3 : Below w.heap.size w w8 := by rw [HW8.out]; exact (Below.setCell hb3 (by show w.heap.size ≤ g'; omega) (.int .i64 ((tf : Int) + 1 + (tu : Int))))
   have BI : Blk w8 g' 33 (cellsP (promV (m4 : Nat) t h (t64 : Nat) (.slice A1 k1 c1) (.slice A2 k2 c2) (tf : Nat) ((tf : Int) + 1 + (tu : Int)) 0)).toArray := by rw [HW8.out]; exact (Blk.set_ BI 7 (.int .i64 ((tf : Int) + 1 + (tu : Int))))
   clear HW8; clear q7 z7 q8 z8; have q9 := BI.cell 8; have z9 := BI.frozen 8; simp only [cellsP, promV, List.getElem?_toArray, List.getElem?_cons_zero, List.getElem?_cons_succ] at q9; go_upto_region 10 with fail; refine wp_name ?_; intro w9 HW9; have hra : Rat w9 (.agg #[.slice A1 k1 c1, .slice A2 k2 c2]) a b := by rw [HW9.out]; exact (Rat.setB hra BI promV_noU (.int .u8 (td : Nat)))
   have B4 : Blk w9 w.heap.size 33 (cellsP (promV 0 ⟨#[]⟩ ⟨#[]⟩ 0 (.slice none 0 0) (.slice none 0 0) 0 0 0)).toArray := by rw [HW9.out]; exact (Blk.far B4 (by show w.heap.size ≠ g'; omega) (.int .u8 (td : Nat)))
   have hb3 : Below w.heap.size w w9 := by rw [HW9.out]; exact (Below.setCell hb3 (by show w.heap.size ≤ g'; omega) (.int .u8 (td : Nat)))
   have BI : Blk w9 g' 33 (cellsP (promV (m4 : Nat) t h (t64 : Nat) (.slice A1 k1 c1) (.slice A2 k2 c2) (tf : Nat) ((tf : Int) + 1 + (tu : Int)) (td : Nat))).toArray := by rw [HW9.out]; exact (Blk.set_ BI 8 (.int .u8 (td : Nat)))
   clear HW9; clear q9 z9; obtain ⟨w10, hw10⟩ : ∃ w', Hid (w' = w9.setCells w.heap.size 0 (cellsP (promV (m4 : Nat) t h (t64 : Nat) (.slice A1 k1 c1) (.slice A2 k2 c2) (tf : Nat) ((tf : Int) + 1 + (tu : Int)) (td : Nat)))) := ⟨_, rfl⟩; have hra : Rat w10 (.agg #[.slice A1 k1 c1, .slice A2 k2 c2]) a b := by rw [hw10.out]; exact Rat.setsB _ 0 hra B4 promV_noU promV_no
   have hb3 : Below w.heap.size w w10 := by rw [hw10.out]; exact below_setAll (Nat.le_refl _) _ _ hb3
   have hF : Blk w10 w.heap.size 33 (cellsP (promV (m4 : Nat) t h (t64 : Nat) (.slice A1 k1 c1) (.slice A2 k2 c2) (tf : Nat) ((tf : Int) + 1 + (tu : Int)) (td : Nat))).toArray := by rw [hw10.out]; exact Blk.setAll B4 rfl
   go_wp2_with (first | (refine wpList_load_mid rfl 33 (.tmp 7) rfl g' 0 rfl (cellsP (promV (m4 : Nat) t h (t64 : Nat) (.slice A1 k1 c1) (.slice A2 k2 c2) (tf : Nat) ((tf : Int) + 1 + (tu : Int)) (td : Nat))) _ (Blk.range BI) Tryz.underlying33 rfl (infoP (p := promV (m4 : Nat) t h (t64 : Nat) (.slice A1 k1 c1) (.slice A2 k2 c2) (tf : Nat) ((tf : Int) + 1 + (tu : Int)) (td : Nat))) ?_; simp only [Act.put, sA, sB, sC]) | (refine wpList_store_mid rfl 33 (.tmp 4) (.tmp 58) rfl w.heap.size 0 (cellsP (promV (m4 : Nat) t h (t64 : Nat) (.slice A1 k1 c1) (.slice A2 k2 c2) (tf : Nat) ((tf : Int) + 1 + (tu : Int)) (td : Nat))).toArray rfl rfl (Blk.there B4 rfl) infoP24 (all_oneCell_toArray promV_one) ?_; rw [List.toList_toArray, ← hw10.out]))
   exact bodyPost_ret (results_prom rfl rfl hF rfl) rfl ⟨_, a, b, rfl, ⟨m4, t, h, t64, tf, tf + 1 + tu, td, A1, k1, c1, A2, k2, c2, by congr 1, hm4, hT, hH, by omega, fun e => absurd (HE0.out e) (by rw [he]; decide), l1, by omega, by omega, l3⟩, hra, ga, hab, HK24 HK, hb3⟩
end Go.Proofs.YtijkfagkbfbpmaaGreatDoor
namespace Go.Proofs.YtijkfagkbfbpmaaGreatDoor
open Go Go.RowKit
section
variable {P : Program}
end
end Go.Proofs.YtijkfagkbfbpmaaGreatDoor
namespace Go.Proofs.YtijkfagkbfbpmaaGreatDoor
open Go Go.RowKit
theorem PromOk.noL {p : PC} (h : PromOk p) : ∀ u ∈ cellsP p, NoL u := by
 obtain ⟨team, t, h, site, fr, un, d, A1, k1, c1, A2, k2, c2, rfl, _⟩ := h; exact promV_no
theorem PromOk.one {p : PC} (h : PromOk p) : ∀ u ∈ cellsP p, u.oneCell' = true := by
 obtain ⟨team, t, h, site, fr, un, d, A1, k1, c1, A2, k2, c2, rfl, _⟩ := h; exact promV_one
/-- promises as the generators make them, with their bounds -/
def PsOk (w : World) (ps : List PC) (bd : Nat → Nat × Nat) : Prop := ∀ (n : Nat) p, ps[n]? = some p → PromOk p ∧ Rat w (.agg #[p.b1, p.b2]) (bd n).1 (bd n).2 ∧ Nm.Good (bd n).1 (bd n).2 ∧ (bd n).1 ≤ (bd n).2 ∧ (bd n).2 ≤ 24
theorem PsOk.below {w w' : World} {ps : List PC} {bd : Nat → Nat × Nat} (h : PsOk w ps bd) (hb : Below w.heap.size w w') : PsOk w' ps bd := fun n p hp => by
 obtain ⟨h1, h2, h3⟩ := h n p hp; exact ⟨h1, h2.below hb, h3⟩
theorem PsOk.grownBy {w w' : World} {a : Value} {ps : List PC} {bd : Nat → Nat × Nat} (h : PsOk w ps bd) (k : w.grownBy w' a.ownBlock) (hO : OwnAll NoL w a) : PsOk w' ps bd := fun n p hp => by
 obtain ⟨h1, h2, h3⟩ := h n p hp; exact ⟨h1, h2.grownBy k hO, h3⟩
theorem PsOk.more {w : World} {ps : List PC} {bd : Nat → Nat × Nat} {p : PC} {a b : Nat} (h : PsOk w ps bd) (hp : PromOk p) (hr : Rat w (.agg #[p.b1, p.b2]) a b) (g : Nm.Good a b) (h1 : a ≤ b) (h2 : b ≤ 24) : PsOk w (ps ++ [p]) (fun n => if n = ps.length then (a, b) else bd n) := by
 intro n q hq; by_cases hn : n = ps.length
 ·subst hn; rw [List.getElem?_concat_length] at hq; injection hq with hq; subst hq; simp only [if_true]; exact ⟨hp, hr, g, h1, h2⟩
 ·simp only [if_neg hn]; refine h n q ?_
  rcases Nat.lt_or_ge n ps.length with h3 | h3
  ·rwa [List.getElem?_append_left h3] at hq
  ·rw [List.getElem?_eq_none (by simp; omega)] at hq; cases hq
def zeroPV : Value := .agg #[.int .i64 0, .string ⟨#[]⟩, .string ⟨#[]⟩, .int .i64 0, .slice none 0 0, .slice none 0 0, .int .i64 0, .int .i64 0, .int .u8 0, .int .u8 0, .int .u8 0, .int .u8 0, .int .u8 0, .int .u8 0, .int .u8 0, .int .u8 0, .int .u8 0, .int .u8 0, .int .u8 0, .int .u8 0, .int .u8 0, .int .u8 0, .int .u8 0, .int .u8 0]
theorem info_promV : (Tryz.prog.info? 33).map (fun i => (i.zero, i.size, i.bytes)) = some (some zeroPV, 24, 128) := by kernel_rfl
theorem zeroPV_size : zeroPV.cells.size = 24 := by kernel_rfl
theorem zeroPV_noL : ∀ x ∈ zeroPV.cells.toList, NoL x := by
 intro x hx n e; subst e; simp [zeroPV, Value.cells] at hx
theorem fill_promV (p : PC) : Instr.fill (fun i => some (i * 24, 24)) ((Array.range (1 * 24)).map (zeroPV.cells[· % zeroPV.cells.size]!)) [(0, .agg (cellsP p).toArray)] = some (cellsP p).toArray := by kernel_rfl
theorem own_promS {w : World} {base : Nat} {v : Value} {n : Nat} {l : List PC} (hn : n ≤ 281474976710656) (h : w.ownsRow base 33 24 v n (l.flatMap cellsP)) : ∃ A c, v = .slice A n c ∧ RowS cellsP w A n l := own_rowS cellsP_len (by omega) hn h
set_option maxRecDepth 100000 in
set_option maxHeartbeats 4000000 in
theorem made_n (A : Option Addr) (k c : Nat) (l : List Int) (w : World) (hl : RowL intC w A k l) (HL : Hid (∀ x ∈ l, -9223372036854775808 ≤ x ∧ x ≤ 9223372036854775807)) :
  Calls Tryz.prog 10 #[.slice A k c] w fun e w' => ∃ Ap kp cp ps bd, e = .returned (.slice Ap kp cp) ∧ w'.ownsRow w.heap.size 33 24 (.slice Ap kp cp) kp (ps.flatMap cellsP) ∧ OwnAll NoL w' (.slice Ap kp cp) ∧ RowS cellsP w' Ap kp ps ∧ kp ≤ 6 ∧ PsOk w' ps bd ∧ Below w.heap.size w w' := by
 obtain ⟨i0, hi0, hz0, hz1, hz2⟩ := info_parts info_promV
 go_enter Tryz.func10, Tryz.ntmps10
 go_wp2_with fail
 go_loopg [3, 4] 7 (fun j v x wr => ∃ (i : Nat) (ps : List PC) (bd : Nat → Nat × Nat), x = .int .i64 i ∧ i + j = 7 ∧ wr.ownsRow w.heap.size 33 24 v i (ps.flatMap cellsP) ∧ ps.length = i ∧ i ≤ 6 ∧ OwnAll NoL wr v ∧ PsOk wr ps bd ∧ Below w.heap.size w wr)
 case atStart => exact ⟨0, [], fun _ => (0, 0), rfl, rfl, World.ownsRow_nil _ _ _ _, rfl, by omega, OwnAll.nil, fun n p h => by simp at h, Below.refl _ _⟩
 case round =>
  obtain ⟨G, hG⟩ : ∃ G, G = gk := ⟨gk, rfl⟩; subst hG; obtain ⟨i, ps, bd, rfl, hij, hown, hlen, hi6', hall, hps, hbe⟩ := hrel; have hl1 := hl.below hbe; obtain ⟨Ao, co, rfl⟩ := own_shp hown; go_wp2_with fail; refine (at_n A k c l 0 7 _ hl1 HL (by omega) (by omega)).mono ?_; rintro e w' ⟨z, rfl, hz, rfl⟩; by_cases hi : i < z
  ·have t1 : decide ((i : Int) < (z : Int)) = true := by simp; omega
   have s1 : IntKind.i64.wrap (2 * (i : Int)) = 2 * (i : Int) := by rw [IntWalk.i64_in _ (by omega)]
   have s2 : IntKind.i64.wrap (1 + 2 * (i : Int)) = 1 + 2 * (i : Int) := by rw [IntWalk.i64_in _ (by omega)]
   have s3 : IntKind.i64.wrap (2 + 2 * (i : Int)) = 2 + 2 * (i : Int) := by rw [IntWalk.i64_in _ (by omega)]
   go_wp2_with fail; refine (at_n A k c l (1 + 2 * (i : Int)) 65536 _ hl1 HL (by omega) (by omega)).mono ?_; rintro e w' ⟨x, rfl, hx, rfl⟩; go_wp2_with fail; refine (at_n A k c l (2 + 2 * (i : Int)) 65536 _ hl1 HL (by omega) (by omega)).mono ?_; rintro e w' ⟨y, rfl, hy, rfl⟩; go_wp2_with fail; refine (one_n (x : Int) (y : Int) _ (by omega) (by omega) (by omega) (by omega)).mono ?_; rintro e w2 ⟨p, a, b, rfl, hok, hra, ga, hab, hb24, hb2⟩; have hb3 := Below.tr hb2 (bA w2 (.cells (cellsP p).toArray 33)); have hown3 := own_below hown hb3; have hall3 := hall.below hb3 (fun g hg => ownsRow_lt hown g hg); have hps3 := (hps.below hb3).more hok (hra.below (bA w2 (.cells (cellsP p).toArray 33))) ga hab hb24; have hrd := Rd.fresh w2 33 (cellsP p); have hbe3 := Below.tr hbe hb3; have hsz := hbe3.size; have hone := hok.one; have hno := hok.noL; clear s1 s2 s3 hl1 hok hra ga hab hb24 hb2 hb3 hown hall hps hx hy
   go_wp2_with (first | (refine wpList_sliceN rfl 23 33 1 [(0, .tmp 22)] rfl (cellsP p).toArray i0 zeroPV 24 [(0, .agg (cellsP p).toArray)] Tryz.underlying23 hi0 hz0 hz1 (by omega) (by omega) rfl (fill_promV p) ?_; simp only [Act.put, sA, sB, sC]) | (at_builtin; go_loud (refine wpList_append_all rfl NoL (.tmp 11) (.tmp 23) _ rfl w.heap.size 33 i0 zeroPV 24 128 Tryz.underlying23 hi0 hz0 hz1 hz2 zeroPV_size (by omega) _ i _ rfl hown3 (some ⟨w2.heap.size, 0, none⟩) 1 1 (cellsP p) rfl rfl hrd hone (by simp only [maxLen]; omega) (by omega) hsz zeroPV_noL hno hall3 ?_); intro v4 w4 hown4 hg4 hat4 hall4))
   have hps4 := hps3.grownBy hg4 hall3; have hbe4 : Below w.heap.size w w4 := hbe3.grown hg4 hsz (own_block_ge hown3); have hown5 : w4.ownsRow w.heap.size 33 24 v4 (i + 1) ((ps ++ [p]).flatMap cellsP) := by rw [List.flatMap_append]; simpa using hown4
   obtain ⟨A5, c5, rfl⟩ := own_shp hown5; clear hown4 hown3 hg4 hat4 hall3 hps3 hbe3 hsz hone hno hrd; go_wp2_with fail
   go_roundg (G - 1)
   case measure => omega
   case rel => exact ⟨i + 1, ps ++ [p], _, by go_num, by omega, hown5, by simp [hlen], by omega, hall4, hps4, hbe4⟩
  ·have t1 : decide ((i : Int) < (z : Int)) = false := by simp; omega
   have hi6 : i ≤ 281474976710656 := by omega
   obtain ⟨A5, c5, e5, hrow⟩ := own_promS hi6 hown; injection e5 with e1 e2 e3; subst e1 e3; go_wp2_with fail; go_ret; exact ⟨_, _, _, ps, bd, rfl, hown, hall, hrow, hi6', hps, hbe⟩
end Go.Proofs.YtijkfagkbfbpmaaGreatDoor
namespace Go.Proofs.YtijkfagkbfbpmaaGreatDoor
open Go Go.RowKit
theorem info_str : (Tryz.prog.info? 9).map (fun i => (i.zero, i.size, i.bytes)) = some (some (.string ⟨#[]⟩), 1, 16) := by kernel_rfl
end Go.Proofs.YtijkfagkbfbpmaaGreatDoor
