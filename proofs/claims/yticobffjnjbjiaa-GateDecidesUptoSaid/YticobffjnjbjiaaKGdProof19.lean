import Derived.Test.YticobffjnjbjiaaKGdProof18
set_option linter.unusedVariables false
set_option linter.unusedSimpArgs false
namespace Go.Proofs.Yticobffjnjbjiaa
open Go Go.RowKit
/-- a line of two own rows in the block g -/
structure BSt (w W : World) (g : Nat) (A1 : Option Addr) (k1 c1 : Nat) (A2 : Option Addr) (k2 c2 : Nat) (X1 X2 : List IT) : Prop where
  bg : Blk W g 72 #[.slice A1 k1 c1, .slice A2 k2 c2]
  o1 : W.ownsRow (w.heap.size + 2) 122 24 (.slice A1 k1 c1) k1 (X1.flatMap cellsI)
  o2 : W.ownsRow (w.heap.size + 2) 122 24 (.slice A2 k2 c2) k2 (X2.flatMap cellsI)
  b6 : Blk W (w.heap.size + 1) 72 #[.slice none 0 0, .slice none 0 0]
  be : Below w.heap.size w W
  ng : w.heap.size + 2 ≤ g
  ap : 0 < k1 ∨ 0 < k2 → Apt (.slice A1 k1 c1) (.slice A2 k2 c2)
theorem BSt.below {w W W' : World} {g : Nat} {A1 : Option Addr} {k1 c1 : Nat} {A2 : Option Addr} {k2 c2 : Nat} {X1 X2 : List IT} (h : BSt w W g A1 k1 c1 A2 k2 c2 X1 X2) (hb : Below W.heap.size W W') : BSt w W' g A1 k1 c1 A2 k2 c2 X1 X2 :=
  ⟨Blk.below h.bg hb h.bg.lt, own_below h.o1 hb, own_below h.o2 hb, Blk.below h.b6 hb h.b6.lt, Below.tr h.be hb, h.ng, h.ap⟩
theorem BSt.len1 {w W : World} {g : Nat} {A1 : Option Addr} {k1 c1 : Nat} {A2 : Option Addr} {k2 c2 : Nat} {X1 X2 : List IT} (h : BSt w W g A1 k1 c1 A2 k2 c2 X1 X2) : X1.length = k1 := by
  have := h.o1.1; rw [flat_len cellsI_len] at this; omega
theorem BSt.len2 {w W : World} {g : Nat} {A1 : Option Addr} {k1 c1 : Nat} {A2 : Option Addr} {k2 c2 : Nat} {X1 X2 : List IT} (h : BSt w W g A1 k1 c1 A2 k2 c2 X1 X2) : X2.length = k2 := by
  have := h.o2.1; rw [flat_len cellsI_len] at this; omega
theorem own_at {w : World} {base : Nat} {e : TypeId} {size : Nat} {A : Option Addr} {n c : Nat} {xs : List Value} (h : w.ownsRow base e size (.slice A n c) n xs) (hn : 0 < n) : ∃ b, A = some ⟨b, 0, none⟩ ∧ base ≤ b := by
  rcases h.2 with ⟨_, h0⟩ | ⟨g, cap, cur, e, hb, _⟩
  · omega
  · injection e with e _ _; exact ⟨g, e, hb⟩
theorem own_rowR {w : World} {base : Nat} {T : TypeId} {A : Option Addr} {n c : Nat} {X : List IT} (hn : n ≤ 281474976710656) (h : w.ownsRow base T 24 (.slice A n c) n (X.flatMap cellsI)) : RowS cellsI w A n X := by
  obtain ⟨_, _, e, hr⟩ := own_rowS cellsI_len (by omega) hn h
  injection e with e1 _ _
  subst e1
  exact hr
theorem own_geA {w : World} {base : Nat} {T : TypeId} {A : Option Addr} {n c : Nat} {xs : List Value} (h : w.ownsRow base T 24 (.slice A n c) n xs) : ∀ b off, A = some ⟨b, off, none⟩ → base ≤ b := by
  intro b off e
  subst e
  exact own_block_ge h b rfl
theorem own_cap {w : World} {base : Nat} {e : TypeId} {size : Nat} {A : Option Addr} {n c : Nat} {xs : List Value} (h : w.ownsRow base e size (.slice A n c) n xs) : n ≤ c := by
  rcases h.2 with ⟨e, h0⟩ | ⟨g, cap, cur, e, _, _, hc, _⟩
  · omega
  · injection e with _ _ e; omega
theorem zero_rln : (Try.prog.info? 72).map (fun i => i.zero) = some (some (.agg #[.slice none 0 0, .slice none 0 0])) := by kernel_rfl
def PhiBe1 (N g3 : Nat) (A1 : Option Addr) (k1 c1 : Nat) (A2 : Option Addr) (k2 c2 : Nat) (X1 X2 : List IT) (vs : Nat → Value) (j : Nat) (w : World) (x : Value) : Prop :=
  match j with
  | 0 => ∃ b, x = .slice (some ⟨b, 0, none⟩) 0 0 ∧ w.ownsRow N 122 24 x 0 []
  | 1 => x = .pointer (some ⟨g3, 0, none⟩)
  | 2 => x = .slice A1 k1 c1
  | 3 => ∃ A c, x = .slice A k1 c ∧ w.ownsRow N 122 24 x k1 (X1.flatMap cellsI)
  | 4 => ∃ b, x = .slice (some ⟨b, 0, none⟩) 0 0 ∧ w.ownsRow N 122 24 x 0 []
  | 5 => x = .pointer (some ⟨g3, 1, none⟩)
  | 6 => x = .slice A2 k2 c2
  | 7 => ∃ A c, x = .slice A k2 c ∧ w.ownsRow N 122 24 x k2 (X2.flatMap cellsI) ∧ (0 < k1 ∨ 0 < k2 → Apt (vs 3) x)
  | 8 => ∃ A c A' c', x = .agg #[.slice A k1 c, .slice A' k2 c'] ∧ w.ownsRow N 122 24 (.slice A k1 c) k1 (X1.flatMap cellsI) ∧ w.ownsRow N 122 24 (.slice A' k2 c') k2 (X2.flatMap cellsI) ∧ (0 < k1 ∨ 0 < k2 → Apt (.slice A k1 c) (.slice A' k2 c'))
  | 9 => ∃ g, x = .pointer (some ⟨g, 0, none⟩) ∧ N ≤ g ∧ Blk w g 72 #[.slice none 0 0, .slice none 0 0]
  | _ => True
theorem PhiBe1.keepR {N g3 : Nat} {A1 : Option Addr} {k1 c1 : Nat} {A2 : Option Addr} {k2 c2 : Nat} {X1 X2 : List IT} : ∀ vs (w w' : World), Below w.heap.size w w' → ∀ j x, PhiBe1 N g3 A1 k1 c1 A2 k2 c2 X1 X2 vs j w x → PhiBe1 N g3 A1 k1 c1 A2 k2 c2 X1 X2 vs j w' x := by
  intro vs w w' hb j x h
  unfold PhiBe1 at h ⊢
  split <;> simp only at h ⊢ <;> first | exact h | skip
  · obtain ⟨b, e, h⟩ := h; exact ⟨b, e, own_below h hb⟩
  · obtain ⟨A, c, e, h⟩ := h; exact ⟨A, c, e, own_below h hb⟩
  · obtain ⟨b, e, h⟩ := h; exact ⟨b, e, own_below h hb⟩
  · obtain ⟨A, c, e, h, h2⟩ := h; exact ⟨A, c, e, own_below h hb, h2⟩
  · obtain ⟨A, c, A', c', e, h1, h2, h3⟩ := h; exact ⟨A, c, A', c', e, own_below h1 hb, own_below h2 hb, h3⟩
  · obtain ⟨g, e, h1, h2⟩ := h; exact ⟨g, e, h1, Blk.below h2 hb h2.lt⟩
theorem PhiBe1.keepF {N g3 : Nat} {A1 : Option Addr} {k1 c1 : Nat} {A2 : Option Addr} {k2 c2 : Nat} {X1 X2 : List IT} : ∀ vs (w w' : World) j x, ([] : List Nat).contains j = true → PhiBe1 N g3 A1 k1 c1 A2 k2 c2 X1 X2 vs j w x → PhiBe1 N g3 A1 k1 c1 A2 k2 c2 X1 X2 vs j w' x := by
  intro vs w w' j x hf
  cases hf
def SB1 (w w1 : World) (k1 k2 : Nat) (X1 X2 : List IT) : List Value → (Nat → Value) → World → Prop
  | [], _, W => Below w1.heap.size w1 W
  | _, vs, W => ∃ g A1 c1 A2 c2, vs 9 = .pointer (some ⟨g, 0, none⟩) ∧ BSt w W g A1 k1 c1 A2 k2 c2 X1 X2
theorem SB1.ins {w w1 : World} {k1 k2 : Nat} {X1 X2 : List IT} : ∀ li vs vs' W, (∀ j ∈ [9], vs j = vs' j) → SB1 w w1 k1 k2 X1 X2 li vs W → SB1 w w1 k1 k2 X1 X2 li vs' W := by
  rintro (_ | ⟨_, _⟩) vs vs' W hd h
  · exact h
  · obtain ⟨g, A1, c1, A2, c2, e, h2⟩ := h
    exact ⟨g, A1, c1, A2, c2, by rw [← hd 9 (by simp)]; exact e, h2⟩
theorem tdiv3_bd (n : Int) (h1 : -9223372036854775808 ≤ n) (h2 : n ≤ 9223372036854775807) : -9223372036854775808 ≤ n.tdiv 3 ∧ n.tdiv 3 ≤ 9223372036854775807 := by
  rcases Int.le_total 0 n with h | h
  · rw [Int.tdiv_eq_ediv_of_nonneg h]; omega
  · obtain ⟨m, rfl⟩ : ∃ m, n = -m := ⟨-n, by omega⟩
    rw [Int.neg_tdiv, Int.tdiv_eq_ediv_of_nonneg (by omega)]; omega
theorem info_rlnL {v1 v2 : Value} : (Try.prog.info? 72).map (·.size) = some ([v1, v2] : List Value).length := by kernel_rfl
theorem RowS.setAll {α : Type} {f : α → List Value} {A : Option Addr} {k g : Nat} {l : List α} (hb : ∀ b off, A = some ⟨b, off, none⟩ → b ≠ g) : ∀ (vs : List Value) (o : Nat) {w : World}, RowS f w A k l → RowS f (w.setCells g o vs) A k l
  | [], _, _, h => h
  | _ :: vs, o, _, h => RowS.setAll hb vs (o + 1) (RowS.set (p := ⟨g, o, none⟩) h hb _)
/-- the line behind a turn: where the second list is empty, nothing is asked of it -/
structure BSw (w W : World) (g : Nat) (A1 : Option Addr) (k1 c1 : Nat) (A2 : Option Addr) (k2 c2 : Nat) (X1 X2 : List IT) : Prop where
  bg : Blk W g 72 #[.slice A1 k1 c1, .slice A2 k2 c2]
  o1 : W.ownsRow (w.heap.size + 2) 122 24 (.slice A1 k1 c1) k1 (X1.flatMap cellsI)
  o2 : 0 < k2 → W.ownsRow (w.heap.size + 2) 122 24 (.slice A2 k2 c2) k2 (X2.flatMap cellsI)
  l2 : X2.length = k2
  g2 : ∀ b off, A2 = some ⟨b, off, none⟩ → w.heap.size + 2 ≤ b
  b6 : Blk W (w.heap.size + 1) 72 #[.slice none 0 0, .slice none 0 0]
  be : Below w.heap.size w W
  ng : w.heap.size + 2 ≤ g
theorem BSt.weak {w W : World} {g : Nat} {A1 : Option Addr} {k1 c1 : Nat} {A2 : Option Addr} {k2 c2 : Nat} {X1 X2 : List IT} (h : BSt w W g A1 k1 c1 A2 k2 c2 X1 X2) : BSw w W g A1 k1 c1 A2 k2 c2 X1 X2 := ⟨h.bg, h.o1, fun _ => h.o2, h.len2, own_geA h.o2, h.b6, h.be, h.ng⟩
theorem BSw.rowB {w W : World} {g : Nat} {A1 : Option Addr} {k1 c1 : Nat} {A2 : Option Addr} {k2 c2 : Nat} {X1 X2 : List IT} (h : BSw w W g A1 k1 c1 A2 k2 c2 X1 X2) (hk : k2 ≤ 281474976710656) : RowS cellsI W A2 k2 X2 := by
  rcases Nat.eq_zero_or_pos k2 with h0 | h0
  · have := h.l2
    subst h0
    obtain rfl := List.eq_nil_of_length_eq_zero this
    exact ⟨fun h => absurd rfl h, rfl, hk⟩
  · exact own_rowR hk (h.o2 h0)
theorem BSw.below {w W W' : World} {g : Nat} {A1 : Option Addr} {k1 c1 : Nat} {A2 : Option Addr} {k2 c2 : Nat} {X1 X2 : List IT} (h : BSw w W g A1 k1 c1 A2 k2 c2 X1 X2) (hb : Below W.heap.size W W') : BSw w W' g A1 k1 c1 A2 k2 c2 X1 X2 :=
  ⟨Blk.below h.bg hb h.bg.lt, own_below h.o1 hb, fun h0 => own_below (h.o2 h0) hb, h.l2, h.g2, Blk.below h.b6 hb h.b6.lt, Below.tr h.be hb, h.ng⟩
theorem BSt.apart {w W : World} {g : Nat} {A1 : Option Addr} {k1 c1 : Nat} {A2 : Option Addr} {k2 c2 : Nat} {X1 X2 : List IT} (h : BSt w W g A1 k1 c1 A2 k2 c2 X1 X2) (hk : 0 < k1 ∨ 0 < k2) : Apt (.slice A1 k1 c1) (.slice A2 k2 c2) ∧ Apt (.slice A2 k2 c2) (.slice A1 k1 c1) :=
  ⟨h.ap hk, fun j h1 h2 => h.ap hk j h2 h1⟩
/-- a cell of an item of the first list is written -/
theorem BSt.stored {w W : World} {g b : Nat} {k1 c1 : Nat} {A2 : Option Addr} {k2 c2 : Nat} {X1 X2 : List IT} (h : BSt w W g (some ⟨b, 0, none⟩) k1 c1 A2 k2 c2 X1 X2) {kk j : Nat} {it it' : IT} {u : Value} (hk : X1[kk]? = some it) (hj : j < 24) (he : cellsI it' = (cellsI it).set j u) :
    BSw w (W.setCell ⟨b, kk * 24 + j, none⟩ u) g (some ⟨b, 0, none⟩) k1 c1 A2 k2 c2 (X1.set kk it') X2 := by
  have ge := own_block_ge h.o1 b rfl
  have ne := own_ne h.o1 h.bg (by decide)
  refine ⟨h.bg.far (p := ⟨b, kk * 24 + j, none⟩) (fun e => ne (by rw [e]; rfl)) _, ?_, fun h0 => own_setn (p := ⟨b, kk * 24 + j, none⟩) h.o2 (fun e => h.ap (.inr h0) b rfl e) _, h.len2, own_geA h.o2, h.b6.far (p := ⟨b, kk * 24 + j, none⟩) (by show w.heap.size + 1 ≠ b; omega) _, h.be.setCell (p := ⟨b, kk * 24 + j, none⟩) (by show w.heap.size ≤ b; omega) _, h.ng⟩
  rw [← flat_set cellsI_len X1 kk j u it it' hk hj he]
  exact (World.ownsRow.stored h.o1 (kk * 24 + j) u).1
theorem built_t0 {n : Int} : (Try.prog).built 122 [(0, .string ⟨#[116, 48]⟩), (2, .int .i64 n)] = some (cellsI ⟨⟨#[116, 48]⟩, rPass, n⟩).toArray := by kernel_rfl
theorem rPass_ty : RcTy rPass := ⟨0, 0, 0, 0, 0, 0, 0, 0, 0, 0, 0, 0, 0, 0, 0, 0, 0, 0, 0, rfl⟩
theorem RowS.tail {w : World} {b off k : Nat} {X : List IT} (h : RowS cellsI w (some ⟨b, off, none⟩) k X) (i : Nat) (hi : i ≤ k) : RowS cellsI w (some ⟨b, off + i * 24, none⟩) (k - i) (X.drop i) := by
  refine ⟨?_, by rw [List.length_drop, ← h.2.1], by have := h.2.2; omega⟩
  rw [← flat_drop cellsI_len]
  exact h.1.drop _
def PhiBe10 (g : Nat) (A1 : Option Addr) (k1 c1 : Nat) (A2 : Option Addr) (k2 c2 : Nat) (b kk : Nat) (it : IT) (by_ q : Int) (vs : Nat → Value) (j : Nat) (w : World) (x : Value) : Prop :=
  match j with
  | 0 => x = .pointer (some ⟨g, 1, none⟩)
  | 1 => x = .slice A2 k2 c2
  | 2 => x = .pointer (some ⟨g, 0, none⟩)
  | 3 => x = .slice A1 k1 c1
  | 4 => x = .int .i64 (kk : Nat)
  | 5 => x = .pointer (some ⟨b, kk * 24, none⟩)
  | 6 => x = .agg (cellsI it).toArray
  | 7 => ∃ g' it, x = .slice (some ⟨g', 0, none⟩) 1 1 ∧ Rd w (some ⟨g', 0, none⟩) (cellsI it) ∧ ItTy it
  | _ => True
theorem PhiBe10.keepR {g : Nat} {A1 : Option Addr} {k1 c1 : Nat} {A2 : Option Addr} {k2 c2 : Nat} {b kk : Nat} {it : IT} {by_ q : Int} : ∀ vs (w w' : World), Below w.heap.size w w' → ∀ j x, PhiBe10 g A1 k1 c1 A2 k2 c2 b kk it by_ q vs j w x → PhiBe10 g A1 k1 c1 A2 k2 c2 b kk it by_ q vs j w' x := by
  intro vs w w' hb j x h
  unfold PhiBe10 at h ⊢
  split <;> simp only at h ⊢ <;> first | exact h | skip
  obtain ⟨g, it, e, h1, h2⟩ := h
  exact ⟨g, it, e, h1.below hb, h2⟩
theorem PhiBe10.keepF {g : Nat} {A1 : Option Addr} {k1 c1 : Nat} {A2 : Option Addr} {k2 c2 : Nat} {b kk : Nat} {it : IT} {by_ q : Int} : ∀ vs (w w' : World) j x, ([] : List Nat).contains j = true → PhiBe10 g A1 k1 c1 A2 k2 c2 b kk it by_ q vs j w x → PhiBe10 g A1 k1 c1 A2 k2 c2 b kk it by_ q vs j w' x := by
  intro vs w w' j x hf h
  unfold PhiBe10 at h ⊢
  split <;> simp only at h ⊢ <;> first | exact h | exact absurd hf (by decide)
def PhiBe14 (g : Nat) (A1 : Option Addr) (k1 c1 : Nat) (A2 : Option Addr) (k2 c2 : Nat) (b kk : Nat) (it : IT) (by_ q : Int) (vs : Nat → Value) (j : Nat) (w : World) (x : Value) : Prop :=
  match j with
  | 0 => x = .pointer (some ⟨g, 0, none⟩)
  | 1 => x = .slice A1 k1 c1
  | 2 => x = .pointer (some ⟨g, 1, none⟩)
  | 3 => x = .slice A2 k2 c2
  | 4 => x = .pointer (some ⟨b, 0, none⟩)
  | 5 => x = .agg (cellsI it).toArray
  | 6 => ∃ g' it, x = .slice (some ⟨g', 0, none⟩) 1 1 ∧ Rd w (some ⟨g', 0, none⟩) (cellsI it) ∧ ItTy it
  | _ => True
theorem PhiBe14.keepR {g : Nat} {A1 : Option Addr} {k1 c1 : Nat} {A2 : Option Addr} {k2 c2 : Nat} {b kk : Nat} {it : IT} {by_ q : Int} : ∀ vs (w w' : World), Below w.heap.size w w' → ∀ j x, PhiBe14 g A1 k1 c1 A2 k2 c2 b kk it by_ q vs j w x → PhiBe14 g A1 k1 c1 A2 k2 c2 b kk it by_ q vs j w' x := by
  intro vs w w' hb j x h
  unfold PhiBe14 at h ⊢
  split <;> simp only at h ⊢ <;> first | exact h | skip
  obtain ⟨g, it, e, h1, h2⟩ := h
  exact ⟨g, it, e, h1.below hb, h2⟩
theorem PhiBe14.keepF {g : Nat} {A1 : Option Addr} {k1 c1 : Nat} {A2 : Option Addr} {k2 c2 : Nat} {b kk : Nat} {it : IT} {by_ q : Int} : ∀ vs (w w' : World) j x, ([] : List Nat).contains j = true → PhiBe14 g A1 k1 c1 A2 k2 c2 b kk it by_ q vs j w x → PhiBe14 g A1 k1 c1 A2 k2 c2 b kk it by_ q vs j w' x := by
  intro vs w w' j x hf h
  unfold PhiBe14 at h ⊢
  split <;> simp only at h ⊢ <;> first | exact h | exact absurd hf (by decide)
def PhiBe4 (g : Nat) (A1 : Option Addr) (k1 c1 : Nat) (A2 : Option Addr) (k2 c2 : Nat) (b kk : Nat) (it : IT) (by_ q : Int) (vs : Nat → Value) (j : Nat) (w : World) (x : Value) : Prop :=
  match j with
  | 0 => x = .pointer (some ⟨g, 0, none⟩)
  | 1 => x = .slice A1 k1 c1
  | 2 => x = .int .i64 by_
  | 3 => ∃ z : Nat, x = .int .i64 z ∧ z < 3
  | 4 => ∃ n : Int, x = .int .i64 n
  | 5 => ∃ n : Int, x = .agg (cellsI ⟨⟨#[116, 48]⟩, rPass, n⟩).toArray
  | 6 => ∃ g' it, x = .slice (some ⟨g', 0, none⟩) 1 1 ∧ Rd w (some ⟨g', 0, none⟩) (cellsI it) ∧ ItTy it
  | _ => True
theorem PhiBe4.keepR {g : Nat} {A1 : Option Addr} {k1 c1 : Nat} {A2 : Option Addr} {k2 c2 : Nat} {b kk : Nat} {it : IT} {by_ q : Int} : ∀ vs (w w' : World), Below w.heap.size w w' → ∀ j x, PhiBe4 g A1 k1 c1 A2 k2 c2 b kk it by_ q vs j w x → PhiBe4 g A1 k1 c1 A2 k2 c2 b kk it by_ q vs j w' x := by
  intro vs w w' hb j x h
  unfold PhiBe4 at h ⊢
  split <;> simp only at h ⊢ <;> first | exact h | skip
  obtain ⟨g, it, e, h1, h2⟩ := h
  exact ⟨g, it, e, h1.below hb, h2⟩
theorem PhiBe4.keepF {g : Nat} {A1 : Option Addr} {k1 c1 : Nat} {A2 : Option Addr} {k2 c2 : Nat} {b kk : Nat} {it : IT} {by_ q : Int} : ∀ vs (w w' : World) j x, ([] : List Nat).contains j = true → PhiBe4 g A1 k1 c1 A2 k2 c2 b kk it by_ q vs j w x → PhiBe4 g A1 k1 c1 A2 k2 c2 b kk it by_ q vs j w' x := by
  intro vs w w' j x hf h
  unfold PhiBe4 at h ⊢
  split <;> simp only at h ⊢ <;> first | exact h | exact absurd hf (by decide)
def PhiBe11 (g : Nat) (A1 : Option Addr) (k1 c1 : Nat) (A2 : Option Addr) (k2 c2 : Nat) (b kk : Nat) (it : IT) (by_ q : Int) (vs : Nat → Value) (j : Nat) (w : World) (x : Value) : Prop :=
  match j with
  | 0 => x = .pointer (some ⟨g, 0, none⟩)
  | 1 => x = .slice A1 k1 c1
  | 2 => x = .int .i64 (kk : Nat)
  | 3 => x = .slice A1 kk c1
  | 4 => x = .pointer (some ⟨g, 0, none⟩)
  | 5 => x = .slice A1 k1 c1
  | 6 => x = .int .i64 (kk : Nat)
  | 7 => x = .int .i64 ((kk : Int) + 1)
  | 8 => x = .slice (if c1 = kk + 1 then some ⟨b, 0, none⟩ else some ⟨b, (kk + 1) * 24, none⟩) (k1 - (kk + 1)) (c1 - (kk + 1))
  | _ => True
theorem PhiBe11.keepR {g : Nat} {A1 : Option Addr} {k1 c1 : Nat} {A2 : Option Addr} {k2 c2 : Nat} {b kk : Nat} {it : IT} {by_ q : Int} : ∀ vs (w w' : World), Below w.heap.size w w' → ∀ j x, PhiBe11 g A1 k1 c1 A2 k2 c2 b kk it by_ q vs j w x → PhiBe11 g A1 k1 c1 A2 k2 c2 b kk it by_ q vs j w' x := by
  intro vs w w' hb j x h
  unfold PhiBe11 at h ⊢
  split <;> simp only at h ⊢ <;> first | exact h | skip
theorem PhiBe11.keepF {g : Nat} {A1 : Option Addr} {k1 c1 : Nat} {A2 : Option Addr} {k2 c2 : Nat} {b kk : Nat} {it : IT} {by_ q : Int} : ∀ vs (w w' : World) j x, ([] : List Nat).contains j = true → PhiBe11 g A1 k1 c1 A2 k2 c2 b kk it by_ q vs j w x → PhiBe11 g A1 k1 c1 A2 k2 c2 b kk it by_ q vs j w' x := by
  intro vs w w' j x hf h
  unfold PhiBe11 at h ⊢
  split <;> simp only at h ⊢ <;> first | exact h | exact absurd hf (by decide)
def PhiBe7 (g : Nat) (A1 : Option Addr) (k1 c1 : Nat) (A2 : Option Addr) (k2 c2 : Nat) (b kk : Nat) (it : IT) (by_ q : Int) (vs : Nat → Value) (j : Nat) (w : World) (x : Value) : Prop :=
  match j with
  | 0 => x = .pointer (some ⟨g, 0, none⟩)
  | 1 => x = .slice A1 k1 c1
  | 2 => x = .int .i64 (kk : Nat)
  | 3 => x = .int .i64 by_
  | 4 => x = .int .i64 q
  | 5 => ∃ z : Nat, x = .int .i64 z ∧ z < 5
  | 6 => ∃ n : Int, x = .int .i64 n
  | 7 => x = .pointer (some ⟨b, kk * 24, none⟩)
  | 8 => x = .pointer (some ⟨b, kk * 24 + 23, none⟩)
  | _ => True
theorem PhiBe7.keepR {g : Nat} {A1 : Option Addr} {k1 c1 : Nat} {A2 : Option Addr} {k2 c2 : Nat} {b kk : Nat} {it : IT} {by_ q : Int} : ∀ vs (w w' : World), Below w.heap.size w w' → ∀ j x, PhiBe7 g A1 k1 c1 A2 k2 c2 b kk it by_ q vs j w x → PhiBe7 g A1 k1 c1 A2 k2 c2 b kk it by_ q vs j w' x := by
  intro vs w w' hb j x h
  unfold PhiBe7 at h ⊢
  split <;> simp only at h ⊢ <;> first | exact h | skip
theorem PhiBe7.keepF {g : Nat} {A1 : Option Addr} {k1 c1 : Nat} {A2 : Option Addr} {k2 c2 : Nat} {b kk : Nat} {it : IT} {by_ q : Int} : ∀ vs (w w' : World) j x, ([] : List Nat).contains j = true → PhiBe7 g A1 k1 c1 A2 k2 c2 b kk it by_ q vs j w x → PhiBe7 g A1 k1 c1 A2 k2 c2 b kk it by_ q vs j w' x := by
  intro vs w w' j x hf h
  unfold PhiBe7 at h ⊢
  split <;> simp only at h ⊢ <;> first | exact h | exact absurd hf (by decide)
structure BSz (w W : World) (g : Nat) (A1 : Option Addr) (k1 c1 : Nat) (A2 : Option Addr) (k2 c2 : Nat) (X1 : List IT) : Prop where
  bg : Blk W g 72 #[.slice A1 k1 c1, .slice A2 k2 c2]
  o1 : W.ownsRow (w.heap.size + 2) 122 24 (.slice A1 k1 c1) k1 (X1.flatMap cellsI)
  b6 : Blk W (w.heap.size + 1) 72 #[.slice none 0 0, .slice none 0 0]
  be : Below w.heap.size w W
def SBe2a (w Wc : World) (g : Nat) (A1 : Option Addr) (k1 c1 : Nat) (A2 : Option Addr) (k2 c2 : Nat) (X1 X2 : List IT) (v : Value) (W : World) : Prop := ∃ A c it, v = .slice A (k2 + 1) c ∧ ItTy it ∧ Blk W g 72 #[.slice A1 k1 c1, .slice A2 k2 c2] ∧ W.ownsRow (w.heap.size + 2) 122 24 (.slice A1 k1 c1) k1 (X1.flatMap cellsI) ∧ W.ownsRow (w.heap.size + 2) 122 24 v (k2 + 1) ((X2 ++ [it]).flatMap cellsI) ∧ Blk W (w.heap.size + 1) 72 #[.slice none 0 0, .slice none 0 0] ∧ Below w.heap.size w W ∧ Apt (.slice A1 k1 c1) v
def SBe2 (w Wc : World) (g : Nat) (A1 : Option Addr) (k1 c1 : Nat) (A2 : Option Addr) (k2 c2 : Nat) (X1 X2 : List IT) : List Value → (Nat → Value) → World → Prop
  | [], _, W => Below Wc.heap.size Wc W
  | [v], _, W => SBe2a w Wc g A1 k1 c1 A2 k2 c2 X1 X2 v W
  | [v, p], _, W => p = .pointer (some ⟨g, 1, none⟩) ∧ SBe2a w Wc g A1 k1 c1 A2 k2 c2 X1 X2 v W
  | _, _, W => ∃ A c it, ItTy it ∧ BSt w W g A1 k1 c1 A (k2 + 1) c X1 (X2 ++ [it])
theorem SBe2.ins {w Wc : World} {g : Nat} {A1 : Option Addr} {k1 c1 : Nat} {A2 : Option Addr} {k2 c2 : Nat} {X1 X2 : List IT} : ∀ li vs vs' W, (∀ j ∈ ([] : List Nat), vs j = vs' j) → SBe2 w Wc g A1 k1 c1 A2 k2 c2 X1 X2 li vs W → SBe2 w Wc g A1 k1 c1 A2 k2 c2 X1 X2 li vs' W := by
  rintro (_ | ⟨_, _ | ⟨_, _ | ⟨_, _⟩⟩⟩) vs vs' W _ h <;> exact h
/-- the first list is another one, of n items -/
def SBe1a (w Wc : World) (g : Nat) (A1 : Option Addr) (k1 c1 : Nat) (A2 : Option Addr) (k2 c2 : Nat) (X1 X2 : List IT) (Y : List IT → Prop) (n : Nat) (v : Value) (W : World) : Prop := ∃ A c X, v = .slice A n c ∧ Y X ∧ Blk W g 72 #[.slice A1 k1 c1, .slice A2 k2 c2] ∧ W.ownsRow (w.heap.size + 2) 122 24 v n (X.flatMap cellsI) ∧ (0 < k2 → W.ownsRow (w.heap.size + 2) 122 24 (.slice A2 k2 c2) k2 (X2.flatMap cellsI)) ∧ Blk W (w.heap.size + 1) 72 #[.slice none 0 0, .slice none 0 0] ∧ Below w.heap.size w W
def SBe1 (w Wc : World) (g : Nat) (A1 : Option Addr) (k1 c1 : Nat) (A2 : Option Addr) (k2 c2 : Nat) (X1 X2 : List IT) (Y : List IT → Prop) (n : Nat) : List Value → (Nat → Value) → World → Prop
  | [], _, W => Below Wc.heap.size Wc W
  | [v], _, W => SBe1a w Wc g A1 k1 c1 A2 k2 c2 X1 X2 Y n v W
  | [v, p], _, W => p = .pointer (some ⟨g, 0, none⟩) ∧ SBe1a w Wc g A1 k1 c1 A2 k2 c2 X1 X2 Y n v W
  | _, _, W => ∃ A c X, Y X ∧ BSw w W g A n c A2 k2 c2 X X2
theorem SBe1.ins {w Wc : World} {g : Nat} {A1 : Option Addr} {k1 c1 : Nat} {A2 : Option Addr} {k2 c2 : Nat} {X1 X2 : List IT} {Y : List IT → Prop} {n : Nat} : ∀ li vs vs' W, (∀ j ∈ ([] : List Nat), vs j = vs' j) → SBe1 w Wc g A1 k1 c1 A2 k2 c2 X1 X2 Y n li vs W → SBe1 w Wc g A1 k1 c1 A2 k2 c2 X1 X2 Y n li vs' W := by
  rintro (_ | ⟨_, _ | ⟨_, _ | ⟨_, _⟩⟩⟩) vs vs' W _ h <;> exact h
def SBe7 (Wc : World) (b j : Nat) : List Value → (Nat → Value) → World → Prop
  | [], _, W => W = Wc.drew
  | _, _, W => ∃ n : Int, W = (Wc.setCell ⟨b, j, none⟩ (.int .i64 n)).drew
theorem SBe7.ins {Wc : World} {b j : Nat} : ∀ li vs vs' W, (∀ j ∈ ([] : List Nat), vs j = vs' j) → SBe7 Wc b j li vs W → SBe7 Wc b j li vs' W := by
  rintro (_ | ⟨_, _⟩) vs vs' W _ h <;> exact h
set_option maxRecDepth 100000 in
set_option maxHeartbeats 4000000 in
theorem bent_n (x : Ln) (how by_ : Int) (w : World) (hx : x.Ok w) (hk1 : x.k1 ≤ 1073741824) (hk2 : x.k2 ≤ 1073741824) (h1 : -9223372036854775808 ≤ how) (h2 : how ≤ 9223372036854775807) (h3 : -9223372036854775808 ≤ by_) (h4 : by_ ≤ 9223372036854775807) :
    Calls Try.prog 31 #[x.val, .int .i64 how, .int .i64 by_] w fun e w' => ∃ y : Ln, e = .returned y.val ∧ y.Ok w' ∧ y.k1 ≤ x.k1 + 1 ∧ y.k2 ≤ x.k2 + 1 ∧ Below w.heap.size w w' := by
  obtain ⟨A1, k1, c1, A2, k2, c2, X1, X2⟩ := x
  simp only [Ln.val]
  obtain ⟨hx1, hx2, tx1, tx2⟩ := hx
  simp only at hx1 hx2 tx1 tx2 hk1 hk2
  obtain ⟨i0, hi0, hz0, hz1, hz2⟩ := info_parts info_ritem
  have TX1 := Lib.hid tx1
  have TX2 := Lib.hid tx2
  clear tx1 tx2
  go_enter Try.func31, Try.ntmps31
  go_upto_region 1 with fail
  refine wp_name ?_
  intro w1 HW1
  have hb1 : Below w.heap.size w w1 := by rw [HW1.out]; exact Below.tr (below_alloc _ _) (below_alloc _ _)
  have B3 : Blk w1 w.heap.size 72 #[.slice A1 k1 c1, .slice A2 k2 c2] := by rw [HW1.out]; exact (Blk.new _ _ _).alloc _
  have B6 : Blk w1 (w.heap.size + 1) 72 #[.slice none 0 0, .slice none 0 0] := by
    rw [HW1.out]
    have h := Blk.new (w.alloc (.cells #[.slice A1 k1 c1, .slice A2 k2 c2] 72)) 72 #[.slice none 0 0, .slice none 0 0]
    simpa using h
  have hsz1 : w.heap.size + 2 ≤ w1.heap.size := B6.lt
  have q30 := B3.cell 0
  have q31 := B3.cell 1
  simp only [List.getElem?_toArray, List.getElem?_cons_zero, List.getElem?_cons_succ] at q30 q31
  clear HW1
  refine region_chain [10] [.early, .early, .early, .early, .early, .early, .early, .early, .early, .early, .chain 0] [] [9] (PhiBe1 (w.heap.size + 2) w.heap.size A1 k1 c1 A2 k2 c2 X1 X2) (fun w w' => Below w.heap.size w w') (SB1 w w1 k1 k2 X1 X2) (by kernel_rfl) (by kernel_rfl) (by kernel_rfl) (by kernel_rfl) (steps_cons (fun _ _ _ _ _ h => h) (steps_cons (fun _ _ _ _ _ h => h) (steps_cons (fun _ _ _ _ _ h => h) (steps_cons (fun _ _ _ _ _ h => h) (steps_cons (fun _ _ _ _ _ h => h) (steps_cons (fun _ _ _ _ _ h => h) (steps_cons (fun _ _ _ _ _ h => h) (steps_cons (by intro vs vs' w x h; have h3 := h ⟨3, .chain⟩ (by simp) rfl; simp only [PhiBe1]; rw [h3]; exact id) (steps_cons (fun _ _ _ _ _ h => h) (steps_cons (fun _ _ _ _ _ h => h) (steps_cons (fun _ _ _ _ _ h => h) (steps_nil)))))))))))) PhiBe1.keepR PhiBe1.keepF (fun _ _ _ _ hR hS => Below.tr hS hR) SB1.ins (fun _ => below_drew _) (fun vs => by simp only [fillR, Act.put, List.setIfInBounds_toArray, List.set_cons_zero, List.set_cons_succ, Nat.zero_add, Nat.reduceAdd]; rfl) ?_ ?_
  · refine steps_cons ?_ (steps_cons ?_ (steps_cons ?_ (steps_cons ?_ (steps_cons ?_ (steps_cons ?_ (steps_cons ?_ (steps_cons ?_ (steps_cons ?_ (steps_cons ?_ (steps_cons ?_ (steps_nil)))))))))))
    · as_aux_lemma =>
      intro vs W hS hu hdep K hK
      have HU := Lib.hid hu
      clear hu
      refine ⟨?_⟩
      simp only [Act.put, List.setIfInBounds_toArray, List.set_cons_zero, List.set_cons_succ, Nat.zero_add, Nat.reduceAdd] at hK ⊢
      go_simp
      with_reducible refine hK _ _ (below_alloc _ _) ?_
      exact ⟨_, rfl, rfl, .inr ⟨_, 0, #[], rfl, by have := hS.size; omega, heap_alloc_new W _, Nat.le_refl _, by unfold maxLen; omega, rfl, rfl⟩⟩
    · as_aux_lemma =>
      intro vs W hS hu hdep K hK
      have HU := Lib.hid hu
      clear hu
      refine ⟨?_⟩
      simp only [Act.put, List.setIfInBounds_toArray, List.set_cons_zero, List.set_cons_succ, Nat.zero_add, Nat.reduceAdd] at hK ⊢
      go_simp
      with_reducible refine hK _ _ (Below.refl _ _) ?_
      exact rfl
    · as_aux_lemma =>
      intro vs W hS hu hdep K hK
      have HU := Lib.hid hu
      clear hu
      have d0 := hdep ⟨1, .data⟩ (by simp) rfl
      simp only [PhiBe1] at d0
      have ft := cell_keep hS q30
      refine ⟨?_⟩
      simp only [Act.put, List.setIfInBounds_toArray, List.set_cons_zero, List.set_cons_succ, Nat.zero_add, Nat.reduceAdd, d0] at hK ⊢
      go_simp
      with_reducible refine hK _ _ (Below.refl _ _) ?_
      exact rfl
    · as_aux_lemma =>
      intro vs W hS hu hdep K hK
      have HU := Lib.hid hu
      clear hu
      have d0 := hdep ⟨0, .data⟩ (by simp) rfl
      simp only [PhiBe1] at d0
      refine @exE1 _ _ _ d0 ?_
      clear d0
      intro b0 d0
      have e0 := d0.1
      have o0 := d0.2
      clear d0
      have d1 := hdep ⟨2, .data⟩ (by simp) rfl
      simp only [PhiBe1] at d1
      refine ⟨?_⟩
      simp only [Act.put, List.setIfInBounds_toArray, List.set_cons_zero, List.set_cons_succ, Nat.zero_add, Nat.reduceAdd, e0, d1] at hK ⊢
      rw [if_pos (by rfl)]
      rw [e0] at o0
      refine wp_freshG rfl (.tmp 9) (.tmp 11) _ rfl 122 i0 zeroI 24 96 Try.underlying70 hi0 hz0 hz1 hz2 zeroI_size (by omega) (w.heap.size + 2) b0 rfl o0 A1 k1 c1 (X1.flatMap cellsI) rfl (by rw [flat_len cellsI_len, hx1.2.1]) ((hx1.below (Below.tr hb1 hS)).1) (flatI_one TX1.out) (by simp only [maxLen]; omega) (by omega) (by have := hS.size; omega) ?_
      intro v' w' ho hge hz hb
      obtain ⟨Av, cv, rfl⟩ := own_shp ho
      simp only [Act.put, List.setIfInBounds_toArray, List.set_cons_zero, List.set_cons_succ]
      with_reducible refine hK _ _ hb ?_
      exact ⟨_, _, rfl, ho⟩
    · as_aux_lemma =>
      intro vs W hS hu hdep K hK
      have HU := Lib.hid hu
      clear hu
      refine ⟨?_⟩
      simp only [Act.put, List.setIfInBounds_toArray, List.set_cons_zero, List.set_cons_succ, Nat.zero_add, Nat.reduceAdd] at hK ⊢
      go_simp
      with_reducible refine hK _ _ (below_alloc _ _) ?_
      exact ⟨_, rfl, rfl, .inr ⟨_, 0, #[], rfl, by have := hS.size; omega, heap_alloc_new W _, Nat.le_refl _, by unfold maxLen; omega, rfl, rfl⟩⟩
    · as_aux_lemma =>
      intro vs W hS hu hdep K hK
      have HU := Lib.hid hu
      clear hu
      refine ⟨?_⟩
      simp only [Act.put, List.setIfInBounds_toArray, List.set_cons_zero, List.set_cons_succ, Nat.zero_add, Nat.reduceAdd] at hK ⊢
      go_simp
      with_reducible refine hK _ _ (Below.refl _ _) ?_
      exact rfl
    · as_aux_lemma =>
      intro vs W hS hu hdep K hK
      have HU := Lib.hid hu
      clear hu
      have d0 := hdep ⟨5, .data⟩ (by simp) rfl
      simp only [PhiBe1] at d0
      have ft := cell_keep hS q31
      refine ⟨?_⟩
      simp only [Act.put, List.setIfInBounds_toArray, List.set_cons_zero, List.set_cons_succ, Nat.zero_add, Nat.reduceAdd, d0] at hK ⊢
      go_simp
      with_reducible refine hK _ _ (Below.refl _ _) ?_
      exact rfl
    · as_aux_lemma =>
      intro vs W hS hu hdep K hK
      have HU := Lib.hid hu
      clear hu
      have d0 := hdep ⟨4, .data⟩ (by simp) rfl
      simp only [PhiBe1] at d0
      refine @exE1 _ _ _ d0 ?_
      clear d0
      intro b0 d0
      have e0 := d0.1
      have o0 := d0.2
      clear d0
      have d1 := hdep ⟨6, .data⟩ (by simp) rfl
      simp only [PhiBe1] at d1
      have d2 := hdep ⟨3, .chain⟩ (by simp) rfl
      simp only [PhiBe1] at d2
      refine @exE2 _ _ _ _ d2 ?_
      clear d2
      intro A3 c3 d2
      have e3 := d2.1
      have o3 := d2.2
      clear d2
      refine ⟨?_⟩
      simp only [Act.put, List.setIfInBounds_toArray, List.set_cons_zero, List.set_cons_succ, Nat.zero_add, Nat.reduceAdd, e0, d1] at hK ⊢
      rw [if_pos (by rfl)]
      rw [e0] at o0
      refine wp_freshG rfl (.tmp 13) (.tmp 15) _ rfl 122 i0 zeroI 24 96 Try.underlying70 hi0 hz0 hz1 hz2 zeroI_size (by omega) (w.heap.size + 2) b0 rfl o0 A2 k2 c2 (X2.flatMap cellsI) rfl (by rw [flat_len cellsI_len, hx2.2.1]) ((hx2.below (Below.tr hb1 hS)).1) (flatI_one TX2.out) (by simp only [maxLen]; omega) (by omega) (by have := hS.size; omega) ?_
      intro v' w' ho hge hz hb
      obtain ⟨Av, cv, rfl⟩ := own_shp ho
      simp only [Act.put, List.setIfInBounds_toArray, List.set_cons_zero, List.set_cons_succ]
      with_reducible refine hK _ _ hb ?_
      refine ⟨_, _, rfl, ho, fun hk12 => ?_⟩
      rcases Nat.eq_zero_or_pos k2 with h0 | hk2
      · rw [e3] at o3 ⊢
        refine own_roomy (own_below o3 hb) ho (by omega) (by omega) (fun A c e => ?_)
        have e5 := hz h0
        rw [e] at e5
        injection e5
      · intro g h1 h2
        have l1 := ownsRow_lt o3 g h1
        have l2 := hge hk2 g h2
        omega
    · as_aux_lemma =>
      intro vs W hS hu hdep K hK
      have HU := Lib.hid hu
      clear hu
      have d0 := hdep ⟨3, .data⟩ (by simp) rfl
      simp only [PhiBe1] at d0
      refine @exE2 _ _ _ _ d0 ?_
      clear d0
      intro A c d0
      have e0 := d0.1
      have o0 := d0.2
      clear d0
      have d1 := hdep ⟨7, .data⟩ (by simp) rfl
      simp only [PhiBe1] at d1
      refine @exE2 _ _ _ _ d1 ?_
      clear d1
      intro A' c' d1
      have e1 := d1.1
      have o1 := d1.2.1
      have a1 := d1.2.2
      clear d1
      rw [e0] at o0
      rw [e1] at o1
      rw [e0, e1] at a1
      refine ⟨?_⟩
      simp only [Act.put, List.setIfInBounds_toArray, List.set_cons_zero, List.set_cons_succ, Nat.zero_add, Nat.reduceAdd, e0, e1] at hK ⊢
      rw [if_pos (by rfl)]
      refine wp_buildW 72 [(0, .tmp 12), (1, .tmp 16)] (by rfl) #[.slice A k1 c, .slice A' k2 c'] [(0, .slice A k1 c), (1, .slice A' k2 c')] (by rfl) built_rln ?_
      simp only [Act.put, List.setIfInBounds_toArray, List.set_cons_zero, List.set_cons_succ]
      with_reducible refine hK _ _ (Below.refl _ _) ?_
      exact ⟨_, _, _, _, rfl, o0, o1, a1⟩
    · as_aux_lemma =>
      intro vs W hS hu hdep K hK
      have HU := Lib.hid hu
      clear hu
      refine ⟨?_⟩
      simp only [Act.put, List.setIfInBounds_toArray, List.set_cons_zero, List.set_cons_succ, Nat.zero_add, Nat.reduceAdd] at hK ⊢
      go_simp
      with_reducible refine hK _ _ (below_alloc _ _) ?_
      exact ⟨_, rfl, by have := hS.size; omega, Blk.new _ _ _⟩
    · as_aux_lemma =>
      intro vs W hS hdep K hK
      have d0 := hdep ⟨9, .data⟩ (by simp) rfl (by rfl)
      simp only [PhiBe1] at d0
      have d1 := hdep ⟨8, .data⟩ (by simp) rfl (by rfl)
      simp only [PhiBe1] at d1
      refine @exE1 _ _ _ d0 ?_
      clear d0
      intro g d0
      have e0 := d0.1
      have ng := d0.2.1
      have bg := d0.2.2
      clear d0
      refine @exE4 _ _ _ _ _ _ d1 ?_
      clear d1
      intro A c A' c' d1
      have e1 := d1.1
      have o1 := d1.2.1
      have o2 := d1.2.2.1
      have a1 := d1.2.2.2
      clear d1
      have hS0 : Below w1.heap.size w1 W := hS
      clear hS
      have n1 := own_ne o1 bg (by decide)
      have n2 := own_ne o2 bg (by decide)
      have B6 := Blk.below B6 hS0 B6.lt
      have hbb := Below.tr hb1 hS0
      refine ⟨?_⟩
      simp only [Act.put, List.setIfInBounds_toArray, List.set_cons_zero, List.set_cons_succ, Nat.zero_add, Nat.reduceAdd, e0, e1] at hK ⊢
      rw [if_pos (by rfl)]
      refine wp_store_mid 72 (.tmp 7) (.tmp 17) (by rfl) g 0 #[.slice A k1 c, .slice A' k2 c'] (by rfl) (by rfl) (Blk.there bg rfl) info_rln (by simp [Value.oneCell']) ?_
      simp only [Act.put, List.setIfInBounds_toArray, List.set_cons_zero, List.set_cons_succ]
      with_reducible refine hK undef _ ?_
      exact ⟨g, A, c, A', c', e0, Blk.setAll bg rfl, own_setn (own_setn o1 (p := ⟨g, 0, none⟩) n1 _) (p := ⟨g, 1, none⟩) n1 _, own_setn (own_setn o2 (p := ⟨g, 0, none⟩) n2 _) (p := ⟨g, 1, none⟩) n2 _, Blk.farAll (by omega) _ _ B6, below_setAll (by omega) _ _ hbb, ng, a1⟩
  intro vs W1 hS _
  have hS2 : ∃ g A1 c1 A2 c2, vs 9 = .pointer (some ⟨g, 0, none⟩) ∧ BSt w W1 g A1 k1 c1 A2 k2 c2 X1 X2 := hS
  clear hS hx1 hx2 B3 B6 hb1 hsz1 q30 q31
  obtain ⟨g, A1', c1', A2', c2', e9, H⟩ := hS2
  obtain ⟨Wc, hWc⟩ : ∃ Wc, Wc = W1 := ⟨_, rfl⟩
  subst hWc
  have qa := H.bg.cell 0
  have qb := H.bg.cell 1
  simp only [List.getElem?_toArray, List.getElem?_cons_zero, List.getElem?_cons_succ] at qa qb
  have hng := H.ng
  have hBX := Lib.hid H
  clear H
  have hl1 := hBX.out.len1
  have hl2 := hBX.out.len2
  obtain ⟨mm, hmm⟩ : ∃ mm : Nat, Hid (mm = max k1 1) := ⟨_, rfl⟩
  have m1 : max (k1 : Int) 1 = (mm : Int) := by rw [hmm.out]; omega
  have hm0 : 0 < mm := by rw [hmm.out]; omega
  have hm1 : mm ≤ 4611686018427387904 := by rw [hmm.out]; omega
  simp only [e9]
  go_wp2_with fail
  refine (around_n by_ mm _ h3 h4 hm0 hm1).mono ?_
  rintro e w' ⟨kk, rfl, hkk, _, rfl⟩
  go_wp2_with fail
  refine (around_n how 5 _ h1 h2 (by omega) (by omega)).mono ?_
  rintro e w' ⟨z, rfl, hz, _, rfl⟩
  clear m1 hm0 hm1 hkk hmm h1 h2
  have HL1 := Lib.hid hl1
  have HL2 := Lib.hid hl2
  clear hl1 hl2
  have pick : ∀ (kk : Nat), kk < k1 → ∃ b it, A1' = some ⟨b, 0, none⟩ ∧ ItTy it ∧ Hid (X1[kk]? = some it) ∧ Hid (∀ (j : Nat) v, (cellsI it)[j]? = some v → Wc.cell? ⟨b, kk * 24 + j, none⟩ = some v) := by
    intro kk hk
    have hkl : kk < X1.length := by have := HL1.out; omega
    obtain ⟨b, hb, _⟩ := own_at hBX.out.o1 (by omega)
    obtain ⟨b', off, e, HC⟩ := (own_rowR (by omega) hBX.out.o1).at_ cellsI_len (by omega) hk hkl
    rw [hb] at e
    injection e with e
    injection e with e1 e2
    subst e1 e2
    refine ⟨b, X1[kk], hb, TX1.out _ (List.getElem_mem hkl), List.getElem?_eq_getElem hkl, fun j v h => ?_⟩
    have := HC.out j v h
    rwa [Nat.zero_add] at this
  have HPK := Lib.hid pick
  clear pick
  have pick2 : 0 < k2 → ∃ b it, A2' = some ⟨b, 0, none⟩ ∧ ItTy it ∧ Hid (∀ (j : Nat) v, (cellsI it)[j]? = some v → Wc.cell? ⟨b, 0 + j, none⟩ = some v) := by
    intro hk
    have hkl : 0 < X2.length := by have := HL2.out; omega
    obtain ⟨b, hb, _⟩ := own_at hBX.out.o2 (by omega)
    obtain ⟨b', off, e, HC⟩ := (own_rowR (by omega) hBX.out.o2).at_ cellsI_len (by omega) hk hkl
    rw [hb] at e
    injection e with e
    injection e with e1 e2
    subst e1 e2
    refine ⟨b, X2[0], hb, TX2.out _ (List.getElem_mem hkl), fun j v h => ?_⟩
    have := HC.out j v h
    rwa [Nat.zero_mul] at this
  have HPK2 := Lib.hid pick2
  clear pick2
  by_cases z0 : z = 0
  · as_aux_lemma =>
    subst z0
    by_cases hk : kk < k1
    · have l1 : (kk : Int) < (k1 : Int) := by omega
      obtain ⟨b, it, rfl, hty, HK, HC⟩ := HPK.out kk hk
      obtain ⟨q, hq⟩ : ∃ q : Int, by_.tdiv 3 = q := ⟨_, rfl⟩
      have hq1 : -9223372036854775808 ≤ q := by rw [← hq]; exact (tdiv3_bd by_ h3 h4).1
      have hq2 : q ≤ 9223372036854775807 := by rw [← hq]; exact (tdiv3_bd by_ h3 h4).2
      have hqw : IntKind.i64.wrap q = q := by rw [IntWalk.i64_in _ (by omega)]
      have HQ := Lib.hid hq
      go_upto_region 7 with fail
      refine region_chain [9] [.early, .early, .early, .early, .early, .early, .early, .early, .early, .chain 0] [] [] (PhiBe7 g (some ⟨b, 0, none⟩) k1 c1' A2' k2 c2' b kk it by_ q) (fun w w' => w' = w) (SBe7 Wc b (kk * 24 + 23)) (by kernel_rfl) (by kernel_rfl) (by kernel_rfl) (by kernel_rfl) (steps_cons (fun _ _ _ _ _ h => h) (steps_cons (fun _ _ _ _ _ h => h) (steps_cons (fun _ _ _ _ _ h => h) (steps_cons (fun _ _ _ _ _ h => h) (steps_cons (fun _ _ _ _ _ h => h) (steps_cons (fun _ _ _ _ _ h => h) (steps_cons (fun _ _ _ _ _ h => h) (steps_cons (fun _ _ _ _ _ h => h) (steps_cons (fun _ _ _ _ _ h => h) (steps_cons (fun _ _ _ _ _ h => h) (steps_nil))))))))))) (fun vs w w' h j x hx => by rw [h]; exact PhiBe7.keepR vs w w (Below.refl _ _) j x hx) PhiBe7.keepF (fun _ _ _ _ hR hS => hR.trans hS) SBe7.ins (fun _ => rfl) (fun vs => by simp only [fillR, Act.put, List.setIfInBounds_toArray, List.set_cons_zero, List.set_cons_succ, Nat.zero_add, Nat.reduceAdd]; rfl) ?_ ?_
      · refine steps_cons ?_ (steps_cons ?_ (steps_cons ?_ (steps_cons ?_ (steps_cons ?_ (steps_cons ?_ (steps_cons ?_ (steps_cons ?_ (steps_cons ?_ (steps_cons ?_ (steps_nil))))))))))
        · as_aux_lemma =>
          intro vs W hS hu hdep K hK
          have HU := Lib.hid hu
          clear hu
          refine ⟨?_⟩
          simp only [Act.put, List.setIfInBounds_toArray, List.set_cons_zero, List.set_cons_succ, Nat.zero_add, Nat.reduceAdd] at hK ⊢
          go_simp
          with_reducible refine hK _ _ rfl ?_
          exact rfl
        · as_aux_lemma =>
          intro vs W hS hu hdep K hK
          have HU := Lib.hid hu
          clear hu
          have d0 := hdep ⟨0, .data⟩ (by simp) rfl
          simp only [PhiBe7] at d0
          have ft : W.cell? ⟨g, 0, none⟩ = some (.slice (some ⟨b, 0, none⟩) k1 c1') := by rw [show W = Wc.drew from hS]; exact qa
          refine ⟨?_⟩
          simp only [Act.put, List.setIfInBounds_toArray, List.set_cons_zero, List.set_cons_succ, Nat.zero_add, Nat.reduceAdd, d0] at hK ⊢
          go_simp
          with_reducible refine hK _ _ rfl ?_
          exact rfl
        · as_aux_lemma =>
          intro vs W hS hu hdep K hK
          have HU := Lib.hid hu
          clear hu
          refine ⟨?_⟩
          simp only [Act.put, List.setIfInBounds_toArray, List.set_cons_zero, List.set_cons_succ, Nat.zero_add, Nat.reduceAdd] at hK ⊢
          go_simp
          with_reducible refine hK _ _ rfl ?_
          exact rfl
        · as_aux_lemma =>
          intro vs W hS hu hdep K hK
          have HU := Lib.hid hu
          clear hu
          refine ⟨?_⟩
          simp only [Act.put, List.setIfInBounds_toArray, List.set_cons_zero, List.set_cons_succ, Nat.zero_add, Nat.reduceAdd] at hK ⊢
          go_simp
          with_reducible refine hK _ _ rfl ?_
          exact rfl
        · as_aux_lemma =>
          intro vs W hS hu hdep K hK
          have HU := Lib.hid hu
          clear hu
          have d0 := hdep ⟨3, .data⟩ (by simp) rfl
          simp only [PhiBe7] at d0
          have hq := HQ.out
          refine ⟨?_⟩
          simp only [Act.put, List.setIfInBounds_toArray, List.set_cons_zero, List.set_cons_succ, Nat.zero_add, Nat.reduceAdd, d0] at hK ⊢
          go_simp
          with_reducible refine hK _ _ rfl ?_
          exact rfl
        · as_aux_lemma =>
          intro vs W hS hu hdep K hK
          have HU := Lib.hid hu
          clear hu
          have d0 := hdep ⟨4, .data⟩ (by simp) rfl
          simp only [PhiBe7] at d0
          refine ⟨?_⟩
          simp only [fillR, Act.put, List.setIfInBounds_toArray, List.set_cons_zero, List.set_cons_succ, Nat.zero_add, Nat.reduceAdd, d0] at hK ⊢
          go_simp
          refine (around_n q 5 _ hq1 hq2 (by omega) (by omega)).mono ?_
          rintro e w' ⟨z, rfl, hz, _, rfl⟩
          go_wp2_with fail
          with_reducible refine hK _ _ rfl ?_
          exact ⟨_, rfl, hz⟩
        · as_aux_lemma =>
          intro vs W hS hu hdep K hK
          have HU := Lib.hid hu
          clear hu
          have d0 := hdep ⟨5, .data⟩ (by simp) rfl
          simp only [PhiBe7] at d0
          refine @exE1 _ _ _ d0 ?_
          clear d0
          intro z0 d0
          have e0 := d0.1
          have lz0 := d0.2
          clear d0
          refine ⟨?_⟩
          simp only [Act.put, List.setIfInBounds_toArray, List.set_cons_zero, List.set_cons_succ, Nat.zero_add, Nat.reduceAdd, e0] at hK ⊢
          go_simp
          with_reducible refine hK _ _ rfl ?_
          exact ⟨_, rfl⟩
        · as_aux_lemma =>
          intro vs W hS hu hdep K hK
          have HU := Lib.hid hu
          clear hu
          have d0 := hdep ⟨1, .data⟩ (by simp) rfl
          simp only [PhiBe7] at d0
          have d1 := hdep ⟨2, .data⟩ (by simp) rfl
          simp only [PhiBe7] at d1
          refine ⟨?_⟩
          simp only [Act.put, List.setIfInBounds_toArray, List.set_cons_zero, List.set_cons_succ, Nat.zero_add, Nat.reduceAdd, d0, d1] at hK ⊢
          go_simp
          with_reducible refine hK _ _ rfl ?_
          exact rfl
        · as_aux_lemma =>
          intro vs W hS hu hdep K hK
          have HU := Lib.hid hu
          clear hu
          have d0 := hdep ⟨7, .data⟩ (by simp) rfl
          simp only [PhiBe7] at d0
          refine ⟨?_⟩
          simp only [Act.put, List.setIfInBounds_toArray, List.set_cons_zero, List.set_cons_succ, Nat.zero_add, Nat.reduceAdd, d0] at hK ⊢
          go_simp
          with_reducible refine hK _ _ rfl ?_
          exact rfl
        · as_aux_lemma =>
          intro vs W hS hdep K hK
          have d0 := hdep ⟨8, .data⟩ (by simp) rfl (by rfl)
          simp only [PhiBe7] at d0
          have d1 := hdep ⟨6, .data⟩ (by simp) rfl (by rfl)
          simp only [PhiBe7] at d1
          refine @exE1 _ _ _ d1 ?_
          clear d1
          intro n1 e1
          have hS7 : W = Wc.drew := hS
          clear hS
          subst hS7
          have f1 : Wc.cell? ⟨b, kk * 24 + 23, none⟩ = some (.int .i64 it.p) := HC.out 23 _ rfl
          have f2 : Wc.frozen? ⟨b, kk * 24 + 23, none⟩ = false := World.ownsRow.frozenAt hBX.out.o1 _
          refine ⟨?_⟩
          simp only [Act.put, List.setIfInBounds_toArray, List.set_cons_zero, List.set_cons_succ, Nat.zero_add, Nat.reduceAdd, d0, e1] at hK ⊢
          go_simp
          with_reducible refine hK undef _ ?_
          exact ⟨n1, rfl⟩
      · intro vs2 W2 hS2 _
        obtain ⟨n, hW2⟩ := hS2
        have H2 := (hBX.out.stored HK.out (j := 23) (it' := { it with p := n }) (u := .int .i64 n) (by omega) rfl).below (below_drew _)
        rw [← hW2] at H2
        clear hW2 hBX
        go_upto_region 19 with fail
        have BG := H2.bg
        have B6 := H2.b6
        have rA := own_rowR (by omega) H2.o1
        have nA : ∀ bb off, (some (⟨b, 0, none⟩ : Addr)) = some ⟨bb, off, none⟩ → bb ≠ w.heap.size + 1 := fun bb off e => by have := own_geA H2.o1 bb off e; omega
        have rB := H2.rowB (by omega)
        have nB : ∀ bb off, A2' = some ⟨bb, off, none⟩ → bb ≠ w.heap.size + 1 := fun bb off e => by have := H2.g2 bb off e; omega
        have be := H2.be
        go_wp2_with (first | (refine wpList_load_mid rfl 72 (.tmp 7) rfl g 0 rfl [.slice (some (⟨b, 0, none⟩ : Addr)) k1 c1', .slice A2' k2 c2'] _ (Blk.range BG) Try.underlying72 rfl info_rlnL ?_; simp only [Act.put, List.setIfInBounds_toArray, List.set_cons_zero, List.set_cons_succ]) | (refine wpList_store_mid rfl 72 (.tmp 6) (.tmp 116) rfl (w.heap.size + 1) 0 #[.slice (some (⟨b, 0, none⟩ : Addr)) k1 c1', .slice A2' k2 c2'] rfl rfl (Blk.there B6 rfl) info_rln (by simp [Value.oneCell']) ?_))
        (try simp only [Exit.inBlock, Exit.then])
        refine bodyPost_ret (results_rln rfl rfl (Blk.setAll B6 rfl)) rfl ?_
        exact ⟨⟨(some (⟨b, 0, none⟩ : Addr)), k1, c1', A2', k2, c2', (X1.set kk { it with p := n }), X2⟩, rfl, ⟨RowS.setAll nA _ _ rA, RowS.setAll nB _ _ rB, ty_set TX1.out (hty.setP n), TX2.out⟩, by show k1 ≤ k1 + 1; omega, by show k2 ≤ k2 + 1; omega, below_setAll (by omega) _ _ be⟩
    · have l1 : ¬ ((kk : Int) < (k1 : Int)) := by omega
      have H2 := hBX.out.weak
      go_upto_region 19 with fail
      have BG := H2.bg
      have B6 := H2.b6
      have rA := own_rowR (by omega) H2.o1
      have nA : ∀ bb off, A1' = some ⟨bb, off, none⟩ → bb ≠ w.heap.size + 1 := fun bb off e => by have := own_geA H2.o1 bb off e; omega
      have rB := H2.rowB (by omega)
      have nB : ∀ bb off, A2' = some ⟨bb, off, none⟩ → bb ≠ w.heap.size + 1 := fun bb off e => by have := H2.g2 bb off e; omega
      have be := H2.be
      go_wp2_with (first | (refine wpList_load_mid rfl 72 (.tmp 7) rfl g 0 rfl [.slice A1' k1 c1', .slice A2' k2 c2'] _ (Blk.range BG) Try.underlying72 rfl info_rlnL ?_; simp only [Act.put, List.setIfInBounds_toArray, List.set_cons_zero, List.set_cons_succ]) | (refine wpList_store_mid rfl 72 (.tmp 6) (.tmp 116) rfl (w.heap.size + 1) 0 #[.slice A1' k1 c1', .slice A2' k2 c2'] rfl rfl (Blk.there B6 rfl) info_rln (by simp [Value.oneCell']) ?_))
      (try simp only [Exit.inBlock, Exit.then])
      refine bodyPost_ret (results_rln rfl rfl (Blk.setAll B6 rfl)) rfl ?_
      exact ⟨⟨A1', k1, c1', A2', k2, c2', X1, X2⟩, rfl, ⟨RowS.setAll nA _ _ rA, RowS.setAll nB _ _ rB, TX1.out, TX2.out⟩, by show k1 ≤ k1 + 1; omega, by show k2 ≤ k2 + 1; omega, below_setAll (by omega) _ _ be⟩
  · by_cases z1 : z = 1
    · as_aux_lemma =>
      subst z1
      by_cases hk : kk < k1
      · have l1 : (kk : Int) < (k1 : Int) := by omega
        obtain ⟨b, it, rfl, hty, HK, HC⟩ := HPK.out kk hk
        have hapt := hBX.out.apart (.inl (by omega))
        go_upto_region 10 with fail
        refine region_chain [8, 9, 10] [.early, .early, .early, .early, .early, .early, .early, .early, .chain 0, .chain 1, .chain 2] [] [] (PhiBe10 g (some ⟨b, 0, none⟩) k1 c1' A2' k2 c2' b kk it by_ 0) (fun w w' => Below w.heap.size w w') (SBe2 w Wc g (some ⟨b, 0, none⟩) k1 c1' A2' k2 c2' X1 X2) (by kernel_rfl) (by kernel_rfl) (by kernel_rfl) (by kernel_rfl) (steps_cons (fun _ _ _ _ _ h => h) (steps_cons (fun _ _ _ _ _ h => h) (steps_cons (fun _ _ _ _ _ h => h) (steps_cons (fun _ _ _ _ _ h => h) (steps_cons (fun _ _ _ _ _ h => h) (steps_cons (fun _ _ _ _ _ h => h) (steps_cons (fun _ _ _ _ _ h => h) (steps_cons (fun _ _ _ _ _ h => h) (steps_cons (fun _ _ _ _ _ h => h) (steps_cons (fun _ _ _ _ _ h => h) (steps_cons (fun _ _ _ _ _ h => h) (steps_nil)))))))))))) PhiBe10.keepR PhiBe10.keepF (fun _ _ _ _ hR hS => Below.tr hS hR) SBe2.ins (fun _ => below_drew _) (fun vs => by simp only [fillR, Act.put, List.setIfInBounds_toArray, List.set_cons_zero, List.set_cons_succ, Nat.zero_add, Nat.reduceAdd]; rfl) ?_ ?_
        · refine steps_cons ?_ (steps_cons ?_ (steps_cons ?_ (steps_cons ?_ (steps_cons ?_ (steps_cons ?_ (steps_cons ?_ (steps_cons ?_ (steps_cons ?_ (steps_cons ?_ (steps_cons ?_ (steps_nil)))))))))))
          · as_aux_lemma =>
            intro vs W hS hu hdep K hK
            have HU := Lib.hid hu
            clear hu
            refine ⟨?_⟩
            simp only [Act.put, List.setIfInBounds_toArray, List.set_cons_zero, List.set_cons_succ, Nat.zero_add, Nat.reduceAdd] at hK ⊢
            go_simp
            with_reducible refine hK _ _ (Below.refl _ _) ?_
            exact rfl
          · as_aux_lemma =>
            intro vs W hS hu hdep K hK
            have HU := Lib.hid hu
            clear hu
            have d0 := hdep ⟨0, .data⟩ (by simp) rfl
            simp only [PhiBe10] at d0
            have ft := cell_keep hS qb
            refine ⟨?_⟩
            simp only [Act.put, List.setIfInBounds_toArray, List.set_cons_zero, List.set_cons_succ, Nat.zero_add, Nat.reduceAdd, d0] at hK ⊢
            go_simp
            with_reducible refine hK _ _ (Below.refl _ _) ?_
            exact rfl
          · as_aux_lemma =>
            intro vs W hS hu hdep K hK
            have HU := Lib.hid hu
            clear hu
            refine ⟨?_⟩
            simp only [Act.put, List.setIfInBounds_toArray, List.set_cons_zero, List.set_cons_succ, Nat.zero_add, Nat.reduceAdd] at hK ⊢
            go_simp
            with_reducible refine hK _ _ (Below.refl _ _) ?_
            exact rfl
          · as_aux_lemma =>
            intro vs W hS hu hdep K hK
            have HU := Lib.hid hu
            clear hu
            have d0 := hdep ⟨2, .data⟩ (by simp) rfl
            simp only [PhiBe10] at d0
            have ft := cell_keep hS qa
            refine ⟨?_⟩
            simp only [Act.put, List.setIfInBounds_toArray, List.set_cons_zero, List.set_cons_succ, Nat.zero_add, Nat.reduceAdd, d0] at hK ⊢
            go_simp
            with_reducible refine hK _ _ (Below.refl _ _) ?_
            exact rfl
          · as_aux_lemma =>
            intro vs W hS hu hdep K hK
            have HU := Lib.hid hu
            clear hu
            refine ⟨?_⟩
            simp only [Act.put, List.setIfInBounds_toArray, List.set_cons_zero, List.set_cons_succ, Nat.zero_add, Nat.reduceAdd] at hK ⊢
            go_simp
            with_reducible refine hK _ _ (Below.refl _ _) ?_
            exact rfl
          · as_aux_lemma =>
            intro vs W hS hu hdep K hK
            have HU := Lib.hid hu
            clear hu
            have d0 := hdep ⟨3, .data⟩ (by simp) rfl
            simp only [PhiBe10] at d0
            have d1 := hdep ⟨4, .data⟩ (by simp) rfl
            simp only [PhiBe10] at d1
            refine ⟨?_⟩
            simp only [Act.put, List.setIfInBounds_toArray, List.set_cons_zero, List.set_cons_succ, Nat.zero_add, Nat.reduceAdd, d0, d1] at hK ⊢
            go_simp
            with_reducible refine hK _ _ (Below.refl _ _) ?_
            exact rfl
          · as_aux_lemma =>
            intro vs W hS hu hdep K hK
            have HU := Lib.hid hu
            clear hu
            have d0 := hdep ⟨5, .data⟩ (by simp) rfl
            simp only [PhiBe10] at d0
            refine ⟨?_⟩
            simp only [Act.put, List.setIfInBounds_toArray, List.set_cons_zero, List.set_cons_succ, Nat.zero_add, Nat.reduceAdd, d0] at hK ⊢
            rw [if_pos (by rfl)]
            refine wp_load_mid 122 (.tmp 63) (by rfl) b (kk * 24) (by rfl) (cellsI it) _ (fun j v h => cell_keep hS (HC.out j v h)) Try.underlying122 (by rfl) (infoRIL (it := it)) ?_
            simp only [Act.put, List.setIfInBounds_toArray, List.set_cons_zero, List.set_cons_succ]
            with_reducible refine hK _ _ (Below.refl _ _) ?_
            exact rfl
          · as_aux_lemma =>
            intro vs W hS hu hdep K hK
            have HU := Lib.hid hu
            clear hu
            have d0 := hdep ⟨6, .data⟩ (by simp) rfl
            simp only [PhiBe10] at d0
            refine ⟨?_⟩
            simp only [Act.put, List.setIfInBounds_toArray, List.set_cons_zero, List.set_cons_succ, Nat.zero_add, Nat.reduceAdd, d0] at hK ⊢
            rw [if_pos (by rfl)]
            refine wp_sliceN 70 122 1 [(0, .tmp 64)] rfl (cellsI it).toArray i0 zeroI 24 [(0, .agg (cellsI it).toArray)] Try.underlying70 hi0 hz0 hz1 (by omega) (by omega) rfl (fill_item it) ?_
            simp only [Act.put, List.setIfInBounds_toArray, List.set_cons_zero, List.set_cons_succ]
            with_reducible refine hK _ _ (below_alloc _ _) ?_
            exact ⟨_, it, rfl, Rd.fresh _ _ _, hty⟩
          · as_aux_lemma =>
            intro vs W hS hdep K hK
            have d0 := hdep ⟨1, .data⟩ (by simp) rfl (by rfl)
            simp only [PhiBe10] at d0
            have d1 := hdep ⟨7, .data⟩ (by simp) rfl (by rfl)
            simp only [PhiBe10] at d1
            refine @exE2 _ _ _ _ d1 ?_
            clear d1
            intro g1 it1 d1
            have e1 := d1.1
            have hrd := d1.2.1
            have tyi := d1.2.2
            clear d1
            have hS0 : Below Wc.heap.size Wc W := hS
            clear hS
            have H := hBX.out.below hS0
            have hsz : w.heap.size + 2 ≤ W.heap.size := by have := H.b6.lt; omega
            have HON := Lib.hid tyi.one
            refine ⟨?_⟩
            simp only [Act.put, List.setIfInBounds_toArray, List.set_cons_zero, List.set_cons_succ, Nat.zero_add, Nat.reduceAdd, d0, e1] at hK ⊢
            rw [if_pos (by rfl)]
            refine wp_append_any _ (.tmp 59) (.tmp 65) _ rfl (w.heap.size + 2) 122 i0 _ 24 96 Try.underlying70 hi0 hz0 hz1 hz2 zeroI_size (by omega) _ k2 _ rfl H.o2 _ 1 1 (cellsI it1) rfl rfl hrd HON.out (by simp only [maxLen]; omega) (by omega) hsz ?_
            intro v4 w4 hown4 hg4 hat4
            replace hg4 : W.grownBy w4 (Value.ownBlock (.slice A2' k2 c2')) := hg4
            replace hat4 : v4.ownBlock = (Value.ownBlock (.slice A2' k2 c2')) ∨ v4.ownBlock = some W.heap.size := hat4
            have hown5 : w4.ownsRow (w.heap.size + 2) 122 24 v4 (k2 + 1) ((X2 ++ [it1]).flatMap cellsI) := by rw [List.flatMap_append]; simpa using hown4
            obtain ⟨A5, c5, rfl⟩ := own_shp hown5
            have bn := own_ne H.o2 H.bg (by decide)
            simp only [Act.put, List.setIfInBounds_toArray, List.set_cons_zero, List.set_cons_succ]
            with_reducible refine hK _ _ ?_
            refine ⟨A5, c5, it1, rfl, tyi, Blk.grown H.bg hg4 (fun j e1 e2 => bn (by rw [e1, e2])), own_other H.o1 hg4 hapt.2, hown5, Blk.grown H.b6 hg4 (fun j e1 e2 => by have := own_block_ge H.o2 j e1; omega), H.be.grown hg4 (by omega) (fun j e1 => by have := own_block_ge H.o2 j e1; omega), ?_⟩
            have h3 := Apt.step H.o1 hapt.2 hat4
            exact fun j e1 e2 => h3 j e2 e1
          · as_aux_lemma =>
            intro vs W hS hdep K hK
            have hS1 : SBe2 w Wc g (some ⟨b, 0, none⟩) k1 c1' A2' k2 c2' X1 X2 [vs 8] vs W := hS
            clear hS
            have HS1 := Lib.hid hS1
            clear hS1
            refine ⟨?_⟩
            simp only [Act.put, List.setIfInBounds_toArray, List.set_cons_zero, List.set_cons_succ, Nat.zero_add, Nat.reduceAdd] at hK ⊢
            go_simp
            with_reducible refine hK _ _ ?_
            exact ⟨rfl, HS1.out⟩
          · as_aux_lemma =>
            intro vs W hS hdep K hK
            have hS1 : SBe2 w Wc g (some ⟨b, 0, none⟩) k1 c1' A2' k2 c2' X1 X2 [vs 8, vs 9] vs W := hS
            clear hS
            obtain ⟨ep, A5, c5, it5, e5, ty5, bg5, o15, o25, b65, be5, ap5⟩ := hS1
            rw [e5] at o25 ap5
            have z1 := bg5.frozen 1
            have z2 := bg5.cell 1
            simp only [List.getElem?_toArray, List.getElem?_cons_zero, List.getElem?_cons_succ] at z2
            have HB5 := Lib.hid bg5
            clear bg5
            refine ⟨?_⟩
            simp only [Act.put, List.setIfInBounds_toArray, List.set_cons_zero, List.set_cons_succ, Nat.zero_add, Nat.reduceAdd, ep, e5] at hK ⊢
            go_simp
            with_reducible refine hK undef _ ?_
            have n1 := own_ne o15 HB5.out (by decide)
            have n2 := own_ne o25 HB5.out (by decide)
            exact ⟨A5, c5, it5, ty5, Blk.set_ HB5.out 1 _, own_setn (p := ⟨g, 1, none⟩) o15 n1 _, own_setn (p := ⟨g, 1, none⟩) o25 n2 _, b65.far (p := ⟨g, 1, none⟩) (by show w.heap.size + 1 ≠ g; omega) _, be5.setCell (p := ⟨g, 1, none⟩) (by show w.heap.size ≤ g; omega) _, hng, fun _ => ap5⟩
        · intro vs2 W2 hS2 _
          obtain ⟨A5, c5, it5, ty5, H5⟩ := hS2
          clear qa qb
          have qa := H5.bg.cell 0
          simp only [List.getElem?_toArray, List.getElem?_cons_zero, List.getElem?_cons_succ] at qa
          have hcc : k1 ≤ c1' := own_cap H5.o1
          have s1 : IntKind.i64.wrap ((kk : Int) + 1) = (kk : Int) + 1 := by rw [IntWalk.i64_in _ (by omega)]
          have l3 : (kk : Int) + 1 ≤ (k1 : Int) := by omega
          have l4 : kk ≤ c1' := by omega
          have l5 : (0 : Int) ≤ (kk : Int) + 1 := by omega
          have H5' := Lib.hid H5
          clear HC HK hty hBX
          go_upto_region 11 with fail
          refine region_chain [9, 10, 11] [.early, .early, .early, .early, .early, .early, .early, .early, .early, .chain 0, .chain 1, .chain 2] [] [] (PhiBe11 g (some ⟨b, 0, none⟩) k1 c1' A5 (k2 + 1) c5 b kk it by_ 0) (fun w w' => Below w.heap.size w w') (SBe1 w W2 g (some ⟨b, 0, none⟩) k1 c1' A5 (k2 + 1) c5 X1 (X2 ++ [it5]) (fun X => X = X1.take kk ++ X1.drop (kk + 1)) (kk + (k1 - (kk + 1)))) (by kernel_rfl) (by kernel_rfl) (by kernel_rfl) (by kernel_rfl) (steps_cons (fun _ _ _ _ _ h => h) (steps_cons (fun _ _ _ _ _ h => h) (steps_cons (fun _ _ _ _ _ h => h) (steps_cons (fun _ _ _ _ _ h => h) (steps_cons (fun _ _ _ _ _ h => h) (steps_cons (fun _ _ _ _ _ h => h) (steps_cons (fun _ _ _ _ _ h => h) (steps_cons (fun _ _ _ _ _ h => h) (steps_cons (fun _ _ _ _ _ h => h) (steps_cons (fun _ _ _ _ _ h => h) (steps_cons (fun _ _ _ _ _ h => h) (steps_cons (fun _ _ _ _ _ h => h) (steps_nil))))))))))))) PhiBe11.keepR PhiBe11.keepF (fun _ _ _ _ hR hS => Below.tr hS hR) SBe1.ins (fun _ => below_drew _) (fun vs => by simp only [fillR, Act.put, List.setIfInBounds_toArray, List.set_cons_zero, List.set_cons_succ, Nat.zero_add, Nat.reduceAdd]; rfl) ?_ ?_
          · refine steps_cons ?_ (steps_cons ?_ (steps_cons ?_ (steps_cons ?_ (steps_cons ?_ (steps_cons ?_ (steps_cons ?_ (steps_cons ?_ (steps_cons ?_ (steps_cons ?_ (steps_cons ?_ (steps_cons ?_ (steps_nil))))))))))))
            · as_aux_lemma =>
              intro vs W hS hu hdep K hK
              have HU := Lib.hid hu
              clear hu
              refine ⟨?_⟩
              simp only [Act.put, List.setIfInBounds_toArray, List.set_cons_zero, List.set_cons_succ, Nat.zero_add, Nat.reduceAdd] at hK ⊢
              go_simp
              with_reducible refine hK _ _ (Below.refl _ _) ?_
              exact rfl
            · as_aux_lemma =>
              intro vs W hS hu hdep K hK
              have HU := Lib.hid hu
              clear hu
              have d0 := hdep ⟨0, .data⟩ (by simp) rfl
              simp only [PhiBe11] at d0
              have ft := cell_keep hS qa
              refine ⟨?_⟩
              simp only [Act.put, List.setIfInBounds_toArray, List.set_cons_zero, List.set_cons_succ, Nat.zero_add, Nat.reduceAdd, d0] at hK ⊢
              go_simp
              with_reducible refine hK _ _ (Below.refl _ _) ?_
              exact rfl
            · as_aux_lemma =>
              intro vs W hS hu hdep K hK
              have HU := Lib.hid hu
              clear hu
              refine ⟨?_⟩
              simp only [Act.put, List.setIfInBounds_toArray, List.set_cons_zero, List.set_cons_succ, Nat.zero_add, Nat.reduceAdd] at hK ⊢
              go_simp
              with_reducible refine hK _ _ (Below.refl _ _) ?_
              exact rfl
            · as_aux_lemma =>
              intro vs W hS hu hdep K hK
              have HU := Lib.hid hu
              clear hu
              have d0 := hdep ⟨1, .data⟩ (by simp) rfl
              simp only [PhiBe11] at d0
              have d1 := hdep ⟨2, .data⟩ (by simp) rfl
              simp only [PhiBe11] at d1
              refine ⟨?_⟩
              simp only [Act.put, List.setIfInBounds_toArray, List.set_cons_zero, List.set_cons_succ, Nat.zero_add, Nat.reduceAdd, d0, d1] at hK ⊢
              go_simp
              with_reducible refine hK _ _ (Below.refl _ _) ?_
              exact rfl
            · as_aux_lemma =>
              intro vs W hS hu hdep K hK
              have HU := Lib.hid hu
              clear hu
              refine ⟨?_⟩
              simp only [Act.put, List.setIfInBounds_toArray, List.set_cons_zero, List.set_cons_succ, Nat.zero_add, Nat.reduceAdd] at hK ⊢
              go_simp
              with_reducible refine hK _ _ (Below.refl _ _) ?_
              exact rfl
            · as_aux_lemma =>
              intro vs W hS hu hdep K hK
              have HU := Lib.hid hu
              clear hu
              have d0 := hdep ⟨4, .data⟩ (by simp) rfl
              simp only [PhiBe11] at d0
              have ft := cell_keep hS qa
              refine ⟨?_⟩
              simp only [Act.put, List.setIfInBounds_toArray, List.set_cons_zero, List.set_cons_succ, Nat.zero_add, Nat.reduceAdd, d0] at hK ⊢
              go_simp
              with_reducible refine hK _ _ (Below.refl _ _) ?_
              exact rfl
            · as_aux_lemma =>
              intro vs W hS hu hdep K hK
              have HU := Lib.hid hu
              clear hu
              refine ⟨?_⟩
              simp only [Act.put, List.setIfInBounds_toArray, List.set_cons_zero, List.set_cons_succ, Nat.zero_add, Nat.reduceAdd] at hK ⊢
              go_simp
              with_reducible refine hK _ _ (Below.refl _ _) ?_
              exact rfl
            · as_aux_lemma =>
              intro vs W hS hu hdep K hK
              have HU := Lib.hid hu
              clear hu
              have d0 := hdep ⟨6, .data⟩ (by simp) rfl
              simp only [PhiBe11] at d0
              refine ⟨?_⟩
              simp only [Act.put, List.setIfInBounds_toArray, List.set_cons_zero, List.set_cons_succ, Nat.zero_add, Nat.reduceAdd, d0] at hK ⊢
              go_simp
              with_reducible refine hK _ _ (Below.refl _ _) ?_
              exact rfl
            · as_aux_lemma =>
              intro vs W hS hu hdep K hK
              have HU := Lib.hid hu
              clear hu
              have d0 := hdep ⟨5, .data⟩ (by simp) rfl
              simp only [PhiBe11] at d0
              have d1 := hdep ⟨7, .data⟩ (by simp) rfl
              simp only [PhiBe11] at d1
              refine ⟨?_⟩
              simp only [Act.put, List.setIfInBounds_toArray, List.set_cons_zero, List.set_cons_succ, Nat.zero_add, Nat.reduceAdd, d0, d1] at hK ⊢
              go_simp
              with_reducible refine hK _ _ (Below.refl _ _) ?_
              exact rfl
            · as_aux_lemma =>
              intro vs W hS hdep K hK
              have d0 := hdep ⟨3, .data⟩ (by simp) rfl (by rfl)
              simp only [PhiBe11] at d0
              have d1 := hdep ⟨8, .data⟩ (by simp) rfl (by rfl)
              simp only [PhiBe11] at d1
              have hS0 : Below W2.heap.size W2 W := hS
              clear hS
              have H := H5.below hS0
              have hsz : w.heap.size + 2 ≤ W.heap.size := by have := H.b6.lt; omega
              have ho : W.ownsRow (w.heap.size + 2) 122 24 (.slice (some ⟨b, 0, none⟩) kk c1') kk ((X1.take kk).flatMap cellsI) := by rw [← flat_take cellsI_len]; exact own_take H.o1 (by omega)
              have hrd : Rd W (if c1' = kk + 1 then some ⟨b, 0, none⟩ else some ⟨b, (kk + 1) * 24, none⟩) ((X1.drop (kk + 1)).flatMap cellsI) := by
                by_cases hce : c1' = kk + 1
                · rw [List.drop_of_length_le (by rw [HL1.out]; omega)]; exact fun h => absurd rfl h
                · rw [if_neg hce]; have h := ((own_rowR (by omega) H.o1).tail (kk + 1) (by omega)).1; rwa [Nat.zero_add] at h
              have HON := Lib.hid (flatI_one (fun it hit => TX1.out it (List.mem_of_mem_drop hit)) : ∀ v ∈ (X1.drop (kk + 1)).flatMap cellsI, v.oneCell' = true)
              have hln : ((X1.drop (kk + 1)).flatMap cellsI).length = (k1 - (kk + 1)) * 24 := by rw [flat_len cellsI_len, List.length_drop, HL1.out]
              have HLN := Lib.hid hln
              clear hln
              refine ⟨?_⟩
              simp only [Act.put, List.setIfInBounds_toArray, List.set_cons_zero, List.set_cons_succ, Nat.zero_add, Nat.reduceAdd, d0, d1] at hK ⊢
              rw [if_pos (by rfl)]
              refine wp_append_any _ (.tmp 71) (.tmp 76) _ rfl (w.heap.size + 2) 122 i0 _ 24 96 Try.underlying70 hi0 hz0 hz1 hz2 zeroI_size (by omega) _ kk _ rfl ho _ (k1 - (kk + 1)) _ ((X1.drop (kk + 1)).flatMap cellsI) rfl HLN.out hrd HON.out (by simp only [maxLen]; omega) (by omega) hsz ?_
              intro v4 w4 hown4 hg4 hat4
              replace hg4 : W.grownBy w4 (Value.ownBlock (.slice (some ⟨b, 0, none⟩) kk c1')) := hg4
              have hown5 : w4.ownsRow (w.heap.size + 2) 122 24 v4 (kk + (k1 - (kk + 1))) ((X1.take kk ++ X1.drop (kk + 1)).flatMap cellsI) := by rw [List.flatMap_append]; exact hown4
              obtain ⟨A6, c6, rfl⟩ := own_shp hown5
              have bn := own_ne H.o1 H.bg (by decide)
              simp only [Act.put, List.setIfInBounds_toArray, List.set_cons_zero, List.set_cons_succ]
              with_reducible refine hK _ _ ?_
              exact ⟨A6, c6, _, rfl, rfl, Blk.grown H.bg hg4 (fun j e1 e2 => bn (by rw [e2]; exact e1)), hown5, fun h0 => own_other H.o2 hg4 (H.ap (.inr h0)), Blk.grown H.b6 hg4 (fun j e1 e2 => by have := own_block_ge H.o1 j e1; omega), H.be.grown hg4 (by omega) (fun j e1 => by have := own_block_ge H.o1 j e1; omega)⟩
            · as_aux_lemma =>
              intro vs W hS hdep K hK
              have hS1 : SBe1 w W2 g (some ⟨b, 0, none⟩) k1 c1' A5 (k2 + 1) c5 X1 (X2 ++ [it5]) (fun X => X = X1.take kk ++ X1.drop (kk + 1)) (kk + (k1 - (kk + 1))) [vs 9] vs W := hS
              clear hS
              have HS1 := Lib.hid hS1
              clear hS1
              refine ⟨?_⟩
              simp only [Act.put, List.setIfInBounds_toArray, List.set_cons_zero, List.set_cons_succ, Nat.zero_add, Nat.reduceAdd] at hK ⊢
              go_simp
              with_reducible refine hK _ _ ?_
              exact ⟨rfl, HS1.out⟩
            · as_aux_lemma =>
              intro vs W hS hdep K hK
              have hS1 : SBe1 w W2 g (some ⟨b, 0, none⟩) k1 c1' A5 (k2 + 1) c5 X1 (X2 ++ [it5]) (fun X => X = X1.take kk ++ X1.drop (kk + 1)) (kk + (k1 - (kk + 1))) [vs 9, vs 10] vs W := hS
              clear hS
              obtain ⟨ep, A6, c6, X6, e5, ty5, bg5, o15, o25, b65, be5⟩ := hS1
              rw [e5] at o15
              have z1 := bg5.frozen 0
              have z2 := bg5.cell 0
              simp only [List.getElem?_toArray, List.getElem?_cons_zero, List.getElem?_cons_succ] at z2
              have HB5 := Lib.hid bg5
              clear bg5
              have hng5 := H5.ng
              refine ⟨?_⟩
              simp only [Act.put, List.setIfInBounds_toArray, List.set_cons_zero, List.set_cons_succ, Nat.zero_add, Nat.reduceAdd, ep, e5] at hK ⊢
              go_simp
              with_reducible refine hK undef _ ?_
              have n1 := own_ne o15 HB5.out (by decide)
              exact ⟨A6, c6, X6, ty5, Blk.set_ HB5.out 0 _, own_setn (p := ⟨g, 0, none⟩) o15 n1 _, fun h0 => own_setn (p := ⟨g, 0, none⟩) (o25 h0) (own_ne (o25 h0) HB5.out (by decide)) _, H5.len2, own_geA H5.o2, b65.far (p := ⟨g, 0, none⟩) (by show w.heap.size + 1 ≠ g; omega) _, be5.setCell (p := ⟨g, 0, none⟩) (by show w.heap.size ≤ g; omega) _, hng5⟩
          · intro vs3 W3 hS3 _
            obtain ⟨A6, c6, X6, hX6, H6⟩ := hS3
            subst hX6
            clear hcc s1 l3 l4 l5 qa H5
            go_upto_region 19 with fail
            have BG := H6.bg
            have B6 := H6.b6
            have rA := own_rowR (by omega) H6.o1
            have nA : ∀ bb off, A6 = some ⟨bb, off, none⟩ → bb ≠ w.heap.size + 1 := fun bb off e => by have := own_geA H6.o1 bb off e; omega
            have rB := H6.rowB (by omega)
            have nB : ∀ bb off, A5 = some ⟨bb, off, none⟩ → bb ≠ w.heap.size + 1 := fun bb off e => by have := H6.g2 bb off e; omega
            have be := H6.be
            go_wp2_with (first | (refine wpList_load_mid rfl 72 (.tmp 7) rfl g 0 rfl [.slice A6 (kk + (k1 - (kk + 1))) c6, .slice A5 (k2 + 1) c5] _ (Blk.range BG) Try.underlying72 rfl info_rlnL ?_; simp only [Act.put, List.setIfInBounds_toArray, List.set_cons_zero, List.set_cons_succ]) | (refine wpList_store_mid rfl 72 (.tmp 6) (.tmp 116) rfl (w.heap.size + 1) 0 #[.slice A6 (kk + (k1 - (kk + 1))) c6, .slice A5 (k2 + 1) c5] rfl rfl (Blk.there B6 rfl) info_rln (by simp [Value.oneCell']) ?_))
            (try simp only [Exit.inBlock, Exit.then])
            refine bodyPost_ret (results_rln rfl rfl (Blk.setAll B6 rfl)) rfl ?_
            exact ⟨⟨A6, (kk + (k1 - (kk + 1))), c6, A5, (k2 + 1), c5, (X1.take kk ++ X1.drop (kk + 1)), (X2 ++ [it5])⟩, rfl, ⟨RowS.setAll nA _ _ rA, RowS.setAll nB _ _ rB, ty_app (fun it h => TX1.out it (List.mem_of_mem_take h)) (fun it h => TX1.out it (List.mem_of_mem_drop h)), ty_app TX2.out (by intro it h; rw [List.mem_singleton.1 h]; exact ty5)⟩, by show (kk + (k1 - (kk + 1))) ≤ k1 + 1; omega, by show (k2 + 1) ≤ k2 + 1; omega, below_setAll (by omega) _ _ be⟩
      · have l1 : ¬ ((kk : Int) < (k1 : Int)) := by omega
        have H2 := hBX.out.weak
        go_upto_region 19 with fail
        have BG := H2.bg
        have B6 := H2.b6
        have rA := own_rowR (by omega) H2.o1
        have nA : ∀ bb off, A1' = some ⟨bb, off, none⟩ → bb ≠ w.heap.size + 1 := fun bb off e => by have := own_geA H2.o1 bb off e; omega
        have rB := H2.rowB (by omega)
        have nB : ∀ bb off, A2' = some ⟨bb, off, none⟩ → bb ≠ w.heap.size + 1 := fun bb off e => by have := H2.g2 bb off e; omega
        have be := H2.be
        go_wp2_with (first | (refine wpList_load_mid rfl 72 (.tmp 7) rfl g 0 rfl [.slice A1' k1 c1', .slice A2' k2 c2'] _ (Blk.range BG) Try.underlying72 rfl info_rlnL ?_; simp only [Act.put, List.setIfInBounds_toArray, List.set_cons_zero, List.set_cons_succ]) | (refine wpList_store_mid rfl 72 (.tmp 6) (.tmp 116) rfl (w.heap.size + 1) 0 #[.slice A1' k1 c1', .slice A2' k2 c2'] rfl rfl (Blk.there B6 rfl) info_rln (by simp [Value.oneCell']) ?_))
        (try simp only [Exit.inBlock, Exit.then])
        refine bodyPost_ret (results_rln rfl rfl (Blk.setAll B6 rfl)) rfl ?_
        exact ⟨⟨A1', k1, c1', A2', k2, c2', X1, X2⟩, rfl, ⟨RowS.setAll nA _ _ rA, RowS.setAll nB _ _ rB, TX1.out, TX2.out⟩, by show k1 ≤ k1 + 1; omega, by show k2 ≤ k2 + 1; omega, below_setAll (by omega) _ _ be⟩
    · by_cases z2 : z = 2
      · as_aux_lemma =>
        subst z2
        by_cases hk : 0 < k2
        · have l1 : (k2 : Int) > 0 := by omega
          obtain ⟨b, it, rfl, hty, HC⟩ := HPK2.out hk
          obtain ⟨Y1, hY1⟩ : ∃ Y : List IT → Prop, Y = fun X => ∃ it, ItTy it ∧ X = X1 ++ [it] := ⟨_, rfl⟩
          have HYY : ∀ it, ItTy it → Y1 (X1 ++ [it]) := by intro it h; rw [hY1]; exact ⟨it, h, rfl⟩
          have HHY := Lib.hid hY1
          clear hY1
          go_upto_region 14 with fail
          refine region_chain [7, 8, 9] [.early, .early, .early, .early, .early, .early, .early, .chain 0, .chain 1, .chain 2] [] [] (PhiBe14 g A1' k1 c1' (some ⟨b, 0, none⟩) k2 c2' b kk it by_ 0) (fun w w' => Below w.heap.size w w') (SBe1 w Wc g A1' k1 c1' (some ⟨b, 0, none⟩) k2 c2' X1 X2 Y1 (k1 + 1)) (by kernel_rfl) (by kernel_rfl) (by kernel_rfl) (by kernel_rfl) (steps_cons (fun _ _ _ _ _ h => h) (steps_cons (fun _ _ _ _ _ h => h) (steps_cons (fun _ _ _ _ _ h => h) (steps_cons (fun _ _ _ _ _ h => h) (steps_cons (fun _ _ _ _ _ h => h) (steps_cons (fun _ _ _ _ _ h => h) (steps_cons (fun _ _ _ _ _ h => h) (steps_cons (fun _ _ _ _ _ h => h) (steps_cons (fun _ _ _ _ _ h => h) (steps_cons (fun _ _ _ _ _ h => h) (steps_nil))))))))))) PhiBe14.keepR PhiBe14.keepF (fun _ _ _ _ hR hS => Below.tr hS hR) SBe1.ins (fun _ => below_drew _) (fun vs => by simp only [fillR, Act.put, List.setIfInBounds_toArray, List.set_cons_zero, List.set_cons_succ, Nat.zero_add, Nat.reduceAdd]; rfl) ?_ ?_
          · refine steps_cons ?_ (steps_cons ?_ (steps_cons ?_ (steps_cons ?_ (steps_cons ?_ (steps_cons ?_ (steps_cons ?_ (steps_cons ?_ (steps_cons ?_ (steps_cons ?_ (steps_nil))))))))))
            · as_aux_lemma =>
              intro vs W hS hu hdep K hK
              have HU := Lib.hid hu
              clear hu
              refine ⟨?_⟩
              simp only [Act.put, List.setIfInBounds_toArray, List.set_cons_zero, List.set_cons_succ, Nat.zero_add, Nat.reduceAdd] at hK ⊢
              go_simp
              with_reducible refine hK _ _ (Below.refl _ _) ?_
              exact rfl
            · as_aux_lemma =>
              intro vs W hS hu hdep K hK
              have HU := Lib.hid hu
              clear hu
              have d0 := hdep ⟨0, .data⟩ (by simp) rfl
              simp only [PhiBe14] at d0
              have ft := cell_keep hS qa
              refine ⟨?_⟩
              simp only [Act.put, List.setIfInBounds_toArray, List.set_cons_zero, List.set_cons_succ, Nat.zero_add, Nat.reduceAdd, d0] at hK ⊢
              go_simp
              with_reducible refine hK _ _ (Below.refl _ _) ?_
              exact rfl
            · as_aux_lemma =>
              intro vs W hS hu hdep K hK
              have HU := Lib.hid hu
              clear hu
              refine ⟨?_⟩
              simp only [Act.put, List.setIfInBounds_toArray, List.set_cons_zero, List.set_cons_succ, Nat.zero_add, Nat.reduceAdd] at hK ⊢
              go_simp
              with_reducible refine hK _ _ (Below.refl _ _) ?_
              exact rfl
            · as_aux_lemma =>
              intro vs W hS hu hdep K hK
              have HU := Lib.hid hu
              clear hu
              have d0 := hdep ⟨2, .data⟩ (by simp) rfl
              simp only [PhiBe14] at d0
              have ft := cell_keep hS qb
              refine ⟨?_⟩
              simp only [Act.put, List.setIfInBounds_toArray, List.set_cons_zero, List.set_cons_succ, Nat.zero_add, Nat.reduceAdd, d0] at hK ⊢
              go_simp
              with_reducible refine hK _ _ (Below.refl _ _) ?_
              exact rfl
            · as_aux_lemma =>
              intro vs W hS hu hdep K hK
              have HU := Lib.hid hu
              clear hu
              have d0 := hdep ⟨3, .data⟩ (by simp) rfl
              simp only [PhiBe14] at d0
              refine ⟨?_⟩
              simp only [Act.put, List.setIfInBounds_toArray, List.set_cons_zero, List.set_cons_succ, Nat.zero_add, Nat.reduceAdd, d0] at hK ⊢
              go_simp
              with_reducible refine hK _ _ (Below.refl _ _) ?_
              exact rfl
            · as_aux_lemma =>
              intro vs W hS hu hdep K hK
              have HU := Lib.hid hu
              clear hu
              have d0 := hdep ⟨4, .data⟩ (by simp) rfl
              simp only [PhiBe14] at d0
              refine ⟨?_⟩
              simp only [Act.put, List.setIfInBounds_toArray, List.set_cons_zero, List.set_cons_succ, Nat.zero_add, Nat.reduceAdd, d0] at hK ⊢
              rw [if_pos (by rfl)]
              refine wp_load_mid 122 (.tmp 89) (by rfl) b (0) (by rfl) (cellsI it) _ (fun j v h => cell_keep hS (HC.out j v h)) Try.underlying122 (by rfl) (infoRIL (it := it)) ?_
              simp only [Act.put, List.setIfInBounds_toArray, List.set_cons_zero, List.set_cons_succ]
              with_reducible refine hK _ _ (Below.refl _ _) ?_
              exact rfl
            · as_aux_lemma =>
              intro vs W hS hu hdep K hK
              have HU := Lib.hid hu
              clear hu
              have d0 := hdep ⟨5, .data⟩ (by simp) rfl
              simp only [PhiBe14] at d0
              refine ⟨?_⟩
              simp only [Act.put, List.setIfInBounds_toArray, List.set_cons_zero, List.set_cons_succ, Nat.zero_add, Nat.reduceAdd, d0] at hK ⊢
              rw [if_pos (by rfl)]
              refine wp_sliceN 70 122 1 [(0, .tmp 90)] rfl (cellsI it).toArray i0 zeroI 24 [(0, .agg (cellsI it).toArray)] Try.underlying70 hi0 hz0 hz1 (by omega) (by omega) rfl (fill_item it) ?_
              simp only [Act.put, List.setIfInBounds_toArray, List.set_cons_zero, List.set_cons_succ]
              with_reducible refine hK _ _ (below_alloc _ _) ?_
              exact ⟨_, it, rfl, Rd.fresh _ _ _, hty⟩
            · as_aux_lemma =>
              intro vs W hS hdep K hK
              have d0 := hdep ⟨1, .data⟩ (by simp) rfl (by rfl)
              simp only [PhiBe14] at d0
              have d1 := hdep ⟨6, .data⟩ (by simp) rfl (by rfl)
              simp only [PhiBe14] at d1
              refine @exE2 _ _ _ _ d1 ?_
              clear d1
              intro g1 it1 d1
              have e1 := d1.1
              have hrd := d1.2.1
              have tyi := d1.2.2
              clear d1
              have hS0 : Below Wc.heap.size Wc W := hS
              clear hS
              have H := hBX.out.below hS0
              have hsz : w.heap.size + 2 ≤ W.heap.size := by have := H.b6.lt; omega
              have HON := Lib.hid tyi.one
              refine ⟨?_⟩
              simp only [Act.put, List.setIfInBounds_toArray, List.set_cons_zero, List.set_cons_succ, Nat.zero_add, Nat.reduceAdd, d0, e1] at hK ⊢
              rw [if_pos (by rfl)]
              refine wp_append_any _ (.tmp 86) (.tmp 91) _ rfl (w.heap.size + 2) 122 i0 _ 24 96 Try.underlying70 hi0 hz0 hz1 hz2 zeroI_size (by omega) _ k1 _ rfl H.o1 _ 1 1 (cellsI it1) rfl rfl hrd HON.out (by simp only [maxLen]; omega) (by omega) hsz ?_
              intro v4 w4 hown4 hg4 hat4
              replace hg4 : W.grownBy w4 (Value.ownBlock (.slice A1' k1 c1')) := hg4
              replace hat4 : v4.ownBlock = (Value.ownBlock (.slice A1' k1 c1')) ∨ v4.ownBlock = some W.heap.size := hat4
              have hown5 : w4.ownsRow (w.heap.size + 2) 122 24 v4 (k1 + 1) ((X1 ++ [it1]).flatMap cellsI) := by rw [List.flatMap_append]; simpa using hown4
              obtain ⟨A5, c5, rfl⟩ := own_shp hown5
              have bn := own_ne H.o1 H.bg (by decide)
              simp only [Act.put, List.setIfInBounds_toArray, List.set_cons_zero, List.set_cons_succ]
              with_reducible refine hK _ _ ?_
              exact ⟨A5, c5, X1 ++ [it1], rfl, HYY it1 tyi, Blk.grown H.bg hg4 (fun j e1 e2 => bn (by rw [e1, e2])), hown5, fun h0 => own_other H.o2 hg4 (H.ap (.inr h0)), Blk.grown H.b6 hg4 (fun j e1 e2 => by have := own_block_ge H.o1 j e1; omega), H.be.grown hg4 (by omega) (fun j e1 => by have := own_block_ge H.o1 j e1; omega)⟩
            · as_aux_lemma =>
              intro vs W hS hdep K hK
              have hS1 : SBe1 w Wc g A1' k1 c1' (some ⟨b, 0, none⟩) k2 c2' X1 X2 Y1 (k1 + 1) [vs 7] vs W := hS
              clear hS
              have HS1 := Lib.hid hS1
              clear hS1
              refine ⟨?_⟩
              simp only [Act.put, List.setIfInBounds_toArray, List.set_cons_zero, List.set_cons_succ, Nat.zero_add, Nat.reduceAdd] at hK ⊢
              go_simp
              with_reducible refine hK _ _ ?_
              exact ⟨rfl, HS1.out⟩
            · as_aux_lemma =>
              intro vs W hS hdep K hK
              have hS1 : SBe1 w Wc g A1' k1 c1' (some ⟨b, 0, none⟩) k2 c2' X1 X2 Y1 (k1 + 1) [vs 7, vs 8] vs W := hS
              clear hS
              obtain ⟨ep, A5, c5, X5, e5, ty5, bg5, o15, o25, b65, be5⟩ := hS1
              rw [e5] at o15
              have z1 := bg5.frozen 0
              have z2 := bg5.cell 0
              simp only [List.getElem?_toArray, List.getElem?_cons_zero, List.getElem?_cons_succ] at z2
              have HB5 := Lib.hid bg5
              clear bg5
              refine ⟨?_⟩
              simp only [Act.put, List.setIfInBounds_toArray, List.set_cons_zero, List.set_cons_succ, Nat.zero_add, Nat.reduceAdd, ep, e5] at hK ⊢
              go_simp
              with_reducible refine hK undef _ ?_
              have n1 := own_ne o15 HB5.out (by decide)
              exact ⟨A5, c5, X5, ty5, Blk.set_ HB5.out 0 _, own_setn (p := ⟨g, 0, none⟩) o15 n1 _, fun h0 => own_setn (p := ⟨g, 0, none⟩) (o25 h0) (own_ne (o25 h0) HB5.out (by decide)) _, hBX.out.len2, own_geA hBX.out.o2, b65.far (p := ⟨g, 0, none⟩) (by show w.heap.size + 1 ≠ g; omega) _, be5.setCell (p := ⟨g, 0, none⟩) (by show w.heap.size ≤ g; omega) _, hng⟩
          · intro vs2 W2 hS2 _
            obtain ⟨A5, c5, X5, hX5, H5⟩ := hS2
            rw [HHY.out] at hX5
            obtain ⟨it5, ty5, rfl⟩ := hX5
            clear qa qb
            have qb := H5.bg.cell 1
            have zb := H5.bg.frozen 1
            simp only [List.getElem?_toArray, List.getElem?_cons_zero, List.getElem?_cons_succ] at qb
            have hcc : k2 ≤ c2' := own_cap (H5.o2 hk)
            have hbt := own_block_ge (H5.o2 hk) b rfl
            have RT : Hid (RowS cellsI W2 (some ⟨b, 24, none⟩) (k2 - 1) (X2.drop 1)) := by have h := (own_rowR (by omega) (H5.o2 hk)).tail 1 (by omega); rwa [Nat.zero_add, Nat.one_mul] at h
            have nb := own_ne (H5.o2 hk) H5.bg (by decide)
            have n1 := own_ne H5.o1 H5.bg (by decide)
            have hng5 := H5.ng
            have HH5 := Lib.hid H5
            clear H5 HC hty hBX
            go_upto_region 19 with fail
            refine wp_name ?_
            intro W3 HW3
            obtain ⟨Ax, hAx⟩ : ∃ Ax : Option Addr, Hid (Ax = if c2' = 1 then some ⟨b, 0, none⟩ else some ⟨b, 24, none⟩) := ⟨_, rfl⟩
            have e3 : W3 = W2.setCell ⟨g, 1, none⟩ (.slice (if c2' = 1 then some ⟨b, 0, none⟩ else some ⟨b, 24, none⟩) (k2 - 1) (c2' - 1)) := HW3.out
            obtain ⟨cx, hcx⟩ : ∃ cx : Nat, Hid (cx = c2' - 1) := ⟨_, rfl⟩
            rw [← hAx.out, ← hcx.out] at e3
            rw [← hAx.out, ← hcx.out]
            have H3 : BSz w W3 g A5 (k1 + 1) c5 Ax (k2 - 1) cx (X1 ++ [it5]) := by
              rw [e3]
              exact ⟨Blk.set_ HH5.out.bg 1 _, own_setn (p := ⟨g, 1, none⟩) HH5.out.o1 n1 _, HH5.out.b6.far (p := ⟨g, 1, none⟩) (by show w.heap.size + 1 ≠ g; omega) _, HH5.out.be.setCell (p := ⟨g, 1, none⟩) (by show w.heap.size ≤ g; omega) _⟩
            have RX : RowS cellsI W3 Ax (k2 - 1) (X2.drop 1) := by
              rw [hAx.out]
              by_cases hce : c2' = 1
              · rw [List.drop_of_length_le (by rw [HL2.out]; omega)]
                exact ⟨fun h => absurd rfl h, by show k2 - 1 = 0; omega, by omega⟩
              · rw [if_neg hce, e3]
                exact RowS.set (p := ⟨g, 1, none⟩) RT.out (fun bb off e => by injection e with e; injection e with e1 _; intro h; exact nb (by rw [← e1] at h; show some b = some g; rw [h])) _
            have gx : ∀ bb off, Ax = some ⟨bb, off, none⟩ → w.heap.size + 2 ≤ bb := by
              intro bb off e
              rw [hAx.out] at e
              split at e <;> (injection e with e; injection e with e1 _; omega)
            clear HW3 e3 hAx qb zb hcc nb n1
            have BG := H3.bg
            have B6 := H3.b6
            have rA := own_rowR (by omega) H3.o1
            have nA : ∀ bb off, A5 = some ⟨bb, off, none⟩ → bb ≠ w.heap.size + 1 := fun bb off e => by have := own_geA H3.o1 bb off e; omega
            have rB := RX
            have nB : ∀ bb off, Ax = some ⟨bb, off, none⟩ → bb ≠ w.heap.size + 1 := fun bb off e => by have := gx bb off e; omega
            have be := H3.be
            go_wp2_with (first | (refine wpList_load_mid rfl 72 (.tmp 7) rfl g 0 rfl [.slice A5 (k1 + 1) c5, .slice Ax (k2 - 1) cx] _ (Blk.range BG) Try.underlying72 rfl info_rlnL ?_; simp only [Act.put, List.setIfInBounds_toArray, List.set_cons_zero, List.set_cons_succ]) | (refine wpList_store_mid rfl 72 (.tmp 6) (.tmp 116) rfl (w.heap.size + 1) 0 #[.slice A5 (k1 + 1) c5, .slice Ax (k2 - 1) cx] rfl rfl (Blk.there B6 rfl) info_rln (by simp [Value.oneCell']) ?_))
            (try simp only [Exit.inBlock, Exit.then])
            refine bodyPost_ret (results_rln rfl rfl (Blk.setAll B6 rfl)) rfl ?_
            exact ⟨⟨A5, (k1 + 1), c5, Ax, (k2 - 1), cx, (X1 ++ [it5]), (X2.drop 1)⟩, rfl, ⟨RowS.setAll nA _ _ rA, RowS.setAll nB _ _ rB, ty_app TX1.out (by intro it h; rw [List.mem_singleton.1 h]; exact ty5), (fun it h => TX2.out it (List.mem_of_mem_drop h))⟩, by show (k1 + 1) ≤ k1 + 1; omega, by show (k2 - 1) ≤ k2 + 1; omega, below_setAll (by omega) _ _ be⟩
        · have l1 : ¬ ((k2 : Int) > 0) := by omega
          have H2 := hBX.out.weak
          go_upto_region 19 with fail
          have BG := H2.bg
          have B6 := H2.b6
          have rA := own_rowR (by omega) H2.o1
          have nA : ∀ bb off, A1' = some ⟨bb, off, none⟩ → bb ≠ w.heap.size + 1 := fun bb off e => by have := own_geA H2.o1 bb off e; omega
          have rB := H2.rowB (by omega)
          have nB : ∀ bb off, A2' = some ⟨bb, off, none⟩ → bb ≠ w.heap.size + 1 := fun bb off e => by have := H2.g2 bb off e; omega
          have be := H2.be
          go_wp2_with (first | (refine wpList_load_mid rfl 72 (.tmp 7) rfl g 0 rfl [.slice A1' k1 c1', .slice A2' k2 c2'] _ (Blk.range BG) Try.underlying72 rfl info_rlnL ?_; simp only [Act.put, List.setIfInBounds_toArray, List.set_cons_zero, List.set_cons_succ]) | (refine wpList_store_mid rfl 72 (.tmp 6) (.tmp 116) rfl (w.heap.size + 1) 0 #[.slice A1' k1 c1', .slice A2' k2 c2'] rfl rfl (Blk.there B6 rfl) info_rln (by simp [Value.oneCell']) ?_))
          (try simp only [Exit.inBlock, Exit.then])
          refine bodyPost_ret (results_rln rfl rfl (Blk.setAll B6 rfl)) rfl ?_
          exact ⟨⟨A1', k1, c1', A2', k2, c2', X1, X2⟩, rfl, ⟨RowS.setAll nA _ _ rA, RowS.setAll nB _ _ rB, TX1.out, TX2.out⟩, by show k1 ≤ k1 + 1; omega, by show k2 ≤ k2 + 1; omega, below_setAll (by omega) _ _ be⟩
      · by_cases z3 : z = 3
        · as_aux_lemma =>
          subst z3
          by_cases hk : kk < k1
          · have l1 : (kk : Int) < (k1 : Int) := by omega
            obtain ⟨b, it, rfl, hty, HK, HC⟩ := HPK.out kk hk
            obtain ⟨s, hs⟩ : ∃ s : Int, IntKind.i64.wrap (it.r.st + 1) = s := ⟨_, rfl⟩
            have f1 : Wc.cell? ⟨b, kk * 24 + 3, none⟩ = some (.int .i64 it.r.st) := HC.out 3 _ rfl
            have f2 : Wc.frozen? ⟨b, kk * 24 + 3, none⟩ = false := World.ownsRow.frozenAt hBX.out.o1 _
            go_upto_region 19 with fail
            refine wp_name ?_
            intro W3 HW3
            have e3 : W3 = Wc.setCell ⟨b, kk * 24 + 3, none⟩ (.int .i64 s) := HW3.out
            have H2 := hBX.out.stored HK.out (j := 3) (it' := { it with r := { it.r with st := s } }) (u := .int .i64 s) (by omega) rfl
            rw [← e3] at H2
            clear e3 HW3 f1 f2 hs hBX HC qa qb
            have BG := H2.bg
            have B6 := H2.b6
            have rA := own_rowR (by omega) H2.o1
            have nA : ∀ bb off, (some (⟨b, 0, none⟩ : Addr)) = some ⟨bb, off, none⟩ → bb ≠ w.heap.size + 1 := fun bb off e => by have := own_geA H2.o1 bb off e; omega
            have rB := H2.rowB (by omega)
            have nB : ∀ bb off, A2' = some ⟨bb, off, none⟩ → bb ≠ w.heap.size + 1 := fun bb off e => by have := H2.g2 bb off e; omega
            have be := H2.be
            go_wp2_with (first | (refine wpList_load_mid rfl 72 (.tmp 7) rfl g 0 rfl [.slice (some (⟨b, 0, none⟩ : Addr)) k1 c1', .slice A2' k2 c2'] _ (Blk.range BG) Try.underlying72 rfl info_rlnL ?_; simp only [Act.put, List.setIfInBounds_toArray, List.set_cons_zero, List.set_cons_succ]) | (refine wpList_store_mid rfl 72 (.tmp 6) (.tmp 116) rfl (w.heap.size + 1) 0 #[.slice (some (⟨b, 0, none⟩ : Addr)) k1 c1', .slice A2' k2 c2'] rfl rfl (Blk.there B6 rfl) info_rln (by simp [Value.oneCell']) ?_))
            (try simp only [Exit.inBlock, Exit.then])
            refine bodyPost_ret (results_rln rfl rfl (Blk.setAll B6 rfl)) rfl ?_
            exact ⟨⟨(some (⟨b, 0, none⟩ : Addr)), k1, c1', A2', k2, c2', (X1.set kk { it with r := { it.r with st := s } }), X2⟩, rfl, ⟨RowS.setAll nA _ _ rA, RowS.setAll nB _ _ rB, ty_set TX1.out (hty.setS s), TX2.out⟩, by show k1 ≤ k1 + 1; omega, by show k2 ≤ k2 + 1; omega, below_setAll (by omega) _ _ be⟩
          · have l1 : ¬ ((kk : Int) < (k1 : Int)) := by omega
            have H2 := hBX.out.weak
            go_upto_region 19 with fail
            have BG := H2.bg
            have B6 := H2.b6
            have rA := own_rowR (by omega) H2.o1
            have nA : ∀ bb off, A1' = some ⟨bb, off, none⟩ → bb ≠ w.heap.size + 1 := fun bb off e => by have := own_geA H2.o1 bb off e; omega
            have rB := H2.rowB (by omega)
            have nB : ∀ bb off, A2' = some ⟨bb, off, none⟩ → bb ≠ w.heap.size + 1 := fun bb off e => by have := H2.g2 bb off e; omega
            have be := H2.be
            go_wp2_with (first | (refine wpList_load_mid rfl 72 (.tmp 7) rfl g 0 rfl [.slice A1' k1 c1', .slice A2' k2 c2'] _ (Blk.range BG) Try.underlying72 rfl info_rlnL ?_; simp only [Act.put, List.setIfInBounds_toArray, List.set_cons_zero, List.set_cons_succ]) | (refine wpList_store_mid rfl 72 (.tmp 6) (.tmp 116) rfl (w.heap.size + 1) 0 #[.slice A1' k1 c1', .slice A2' k2 c2'] rfl rfl (Blk.there B6 rfl) info_rln (by simp [Value.oneCell']) ?_))
            (try simp only [Exit.inBlock, Exit.then])
            refine bodyPost_ret (results_rln rfl rfl (Blk.setAll B6 rfl)) rfl ?_
            exact ⟨⟨A1', k1, c1', A2', k2, c2', X1, X2⟩, rfl, ⟨RowS.setAll nA _ _ rA, RowS.setAll nB _ _ rB, TX1.out, TX2.out⟩, by show k1 ≤ k1 + 1; omega, by show k2 ≤ k2 + 1; omega, below_setAll (by omega) _ _ be⟩
        · as_aux_lemma =>
          obtain rfl : z = 4 := by omega
          obtain ⟨Y1, hY1⟩ : ∃ Y : List IT → Prop, Y = fun X => ∃ it, ItTy it ∧ X = X1 ++ [it] := ⟨_, rfl⟩
          have HYY : ∀ it, ItTy it → Y1 (X1 ++ [it]) := by intro it h; rw [hY1]; exact ⟨it, h, rfl⟩
          have HHY := Lib.hid hY1
          clear hY1 z0 z1 z2 z3
          go_upto_region 4 with fail
          refine region_chain [7, 8, 9] [.early, .early, .early, .early, .early, .early, .early, .chain 0, .chain 1, .chain 2] [] [] (PhiBe4 g A1' k1 c1' A2' k2 c2' 0 kk ⟨⟨#[116, 48]⟩, rPass, 0⟩ by_ 0) (fun w w' => Below w.heap.size w w') (SBe1 w Wc g A1' k1 c1' A2' k2 c2' X1 X2 Y1 (k1 + 1)) (by kernel_rfl) (by kernel_rfl) (by kernel_rfl) (by kernel_rfl) (steps_cons (fun _ _ _ _ _ h => h) (steps_cons (fun _ _ _ _ _ h => h) (steps_cons (fun _ _ _ _ _ h => h) (steps_cons (fun _ _ _ _ _ h => h) (steps_cons (fun _ _ _ _ _ h => h) (steps_cons (fun _ _ _ _ _ h => h) (steps_cons (fun _ _ _ _ _ h => h) (steps_cons (fun _ _ _ _ _ h => h) (steps_cons (fun _ _ _ _ _ h => h) (steps_cons (fun _ _ _ _ _ h => h) (steps_nil))))))))))) PhiBe4.keepR PhiBe4.keepF (fun _ _ _ _ hR hS => Below.tr hS hR) SBe1.ins (fun _ => below_drew _) (fun vs => by simp only [fillR, Act.put, List.setIfInBounds_toArray, List.set_cons_zero, List.set_cons_succ, Nat.zero_add, Nat.reduceAdd]; rfl) ?_ ?_
          · refine steps_cons ?_ (steps_cons ?_ (steps_cons ?_ (steps_cons ?_ (steps_cons ?_ (steps_cons ?_ (steps_cons ?_ (steps_cons ?_ (steps_cons ?_ (steps_cons ?_ (steps_nil))))))))))
            · as_aux_lemma =>
              intro vs W hS hu hdep K hK
              have HU := Lib.hid hu
              clear hu
              refine ⟨?_⟩
              simp only [Act.put, List.setIfInBounds_toArray, List.set_cons_zero, List.set_cons_succ, Nat.zero_add, Nat.reduceAdd] at hK ⊢
              go_simp
              with_reducible refine hK _ _ (Below.refl _ _) ?_
              exact rfl
            · as_aux_lemma =>
              intro vs W hS hu hdep K hK
              have HU := Lib.hid hu
              clear hu
              have d0 := hdep ⟨0, .data⟩ (by simp) rfl
              simp only [PhiBe4] at d0
              have ft := cell_keep hS qa
              refine ⟨?_⟩
              simp only [Act.put, List.setIfInBounds_toArray, List.set_cons_zero, List.set_cons_succ, Nat.zero_add, Nat.reduceAdd, d0] at hK ⊢
              go_simp
              with_reducible refine hK _ _ (Below.refl _ _) ?_
              exact rfl
            · as_aux_lemma =>
              intro vs W hS hu hdep K hK
              have HU := Lib.hid hu
              clear hu
              refine ⟨?_⟩
              simp only [Act.put, List.setIfInBounds_toArray, List.set_cons_zero, List.set_cons_succ, Nat.zero_add, Nat.reduceAdd] at hK ⊢
              go_simp
              with_reducible refine hK _ _ (Below.refl _ _) ?_
              exact rfl
            · as_aux_lemma =>
              intro vs W hS hu hdep K hK
              have HU := Lib.hid hu
              clear hu
              have d0 := hdep ⟨2, .data⟩ (by simp) rfl
              simp only [PhiBe4] at d0
              refine ⟨?_⟩
              simp only [fillR, Act.put, List.setIfInBounds_toArray, List.set_cons_zero, List.set_cons_succ, Nat.zero_add, Nat.reduceAdd, d0] at hK ⊢
              go_simp
              refine (around_n by_ 3 _ h3 h4 (by omega) (by omega)).mono ?_
              rintro e w' ⟨z, rfl, hz, _, rfl⟩
              go_wp2_with fail
              with_reducible refine hK _ _ (Below.refl _ _) ?_
              exact ⟨_, rfl, hz⟩
            · as_aux_lemma =>
              intro vs W hS hu hdep K hK
              have HU := Lib.hid hu
              clear hu
              have d0 := hdep ⟨3, .data⟩ (by simp) rfl
              simp only [PhiBe4] at d0
              refine @exE1 _ _ _ d0 ?_
              clear d0
              intro z0 d0
              have e0 := d0.1
              have lz0 := d0.2
              clear d0
              refine ⟨?_⟩
              simp only [Act.put, List.setIfInBounds_toArray, List.set_cons_zero, List.set_cons_succ, Nat.zero_add, Nat.reduceAdd, e0] at hK ⊢
              go_simp
              with_reducible refine hK _ _ (Below.refl _ _) ?_
              exact ⟨_, rfl⟩
            · as_aux_lemma =>
              intro vs W hS hu hdep K hK
              have HU := Lib.hid hu
              clear hu
              have d0 := hdep ⟨4, .data⟩ (by simp) rfl
              simp only [PhiBe4] at d0
              refine @exE1 _ _ _ d0 ?_
              clear d0
              intro n0 d0
              have e0 := d0
              clear d0
              refine ⟨?_⟩
              simp only [Act.put, List.setIfInBounds_toArray, List.set_cons_zero, List.set_cons_succ, Nat.zero_add, Nat.reduceAdd, e0] at hK ⊢
              rw [if_pos (by rfl)]
              refine wp_buildW 122 [(0, .const (.string ⟨#[116, 48]⟩)), (2, .tmp 30)] (by rfl) (cellsI ⟨⟨#[116, 48]⟩, rPass, n0⟩).toArray [(0, .string ⟨#[116, 48]⟩), (2, .int .i64 n0)] (by rfl) built_t0 ?_
              simp only [Act.put, List.setIfInBounds_toArray, List.set_cons_zero, List.set_cons_succ]
              with_reducible refine hK _ _ (Below.refl _ _) ?_
              exact ⟨_, rfl⟩
            · as_aux_lemma =>
              intro vs W hS hu hdep K hK
              have HU := Lib.hid hu
              clear hu
              have d0 := hdep ⟨5, .data⟩ (by simp) rfl
              simp only [PhiBe4] at d0
              refine @exE1 _ _ _ d0 ?_
              clear d0
              intro n0 d0
              have e0 := d0
              clear d0
              refine ⟨?_⟩
              simp only [Act.put, List.setIfInBounds_toArray, List.set_cons_zero, List.set_cons_succ, Nat.zero_add, Nat.reduceAdd, e0] at hK ⊢
              rw [if_pos (by rfl)]
              refine wp_sliceN 70 122 1 [(0, .tmp 31)] rfl (cellsI ⟨⟨#[116, 48]⟩, rPass, n0⟩).toArray i0 zeroI 24 [(0, .agg (cellsI ⟨⟨#[116, 48]⟩, rPass, n0⟩).toArray)] Try.underlying70 hi0 hz0 hz1 (by omega) (by omega) rfl (fill_item ⟨⟨#[116, 48]⟩, rPass, n0⟩) ?_
              simp only [Act.put, List.setIfInBounds_toArray, List.set_cons_zero, List.set_cons_succ]
              with_reducible refine hK _ _ (below_alloc _ _) ?_
              exact ⟨_, ⟨⟨#[116, 48]⟩, rPass, n0⟩, rfl, Rd.fresh _ _ _, rPass_ty⟩
            · as_aux_lemma =>
              intro vs W hS hdep K hK
              have d0 := hdep ⟨1, .data⟩ (by simp) rfl (by rfl)
              simp only [PhiBe4] at d0
              have d1 := hdep ⟨6, .data⟩ (by simp) rfl (by rfl)
              simp only [PhiBe4] at d1
              refine @exE2 _ _ _ _ d1 ?_
              clear d1
              intro g1 it1 d1
              have e1 := d1.1
              have hrd := d1.2.1
              have tyi := d1.2.2
              clear d1
              have hS0 : Below Wc.heap.size Wc W := hS
              clear hS
              have H := hBX.out.below hS0
              have hsz : w.heap.size + 2 ≤ W.heap.size := by have := H.b6.lt; omega
              have HON := Lib.hid tyi.one
              refine ⟨?_⟩
              simp only [Act.put, List.setIfInBounds_toArray, List.set_cons_zero, List.set_cons_succ, Nat.zero_add, Nat.reduceAdd, d0, e1] at hK ⊢
              rw [if_pos (by rfl)]
              refine wp_append_any _ (.tmp 27) (.tmp 32) _ rfl (w.heap.size + 2) 122 i0 _ 24 96 Try.underlying70 hi0 hz0 hz1 hz2 zeroI_size (by omega) _ k1 _ rfl H.o1 _ 1 1 (cellsI it1) rfl rfl hrd HON.out (by simp only [maxLen]; omega) (by omega) hsz ?_
              intro v4 w4 hown4 hg4 hat4
              replace hg4 : W.grownBy w4 (Value.ownBlock (.slice A1' k1 c1')) := hg4
              replace hat4 : v4.ownBlock = (Value.ownBlock (.slice A1' k1 c1')) ∨ v4.ownBlock = some W.heap.size := hat4
              have hown5 : w4.ownsRow (w.heap.size + 2) 122 24 v4 (k1 + 1) ((X1 ++ [it1]).flatMap cellsI) := by rw [List.flatMap_append]; simpa using hown4
              obtain ⟨A5, c5, rfl⟩ := own_shp hown5
              have bn := own_ne H.o1 H.bg (by decide)
              simp only [Act.put, List.setIfInBounds_toArray, List.set_cons_zero, List.set_cons_succ]
              with_reducible refine hK _ _ ?_
              exact ⟨A5, c5, X1 ++ [it1], rfl, HYY it1 tyi, Blk.grown H.bg hg4 (fun j e1 e2 => bn (by rw [e1, e2])), hown5, fun h0 => own_other H.o2 hg4 (H.ap (.inr h0)), Blk.grown H.b6 hg4 (fun j e1 e2 => by have := own_block_ge H.o1 j e1; omega), H.be.grown hg4 (by omega) (fun j e1 => by have := own_block_ge H.o1 j e1; omega)⟩
            · as_aux_lemma =>
              intro vs W hS hdep K hK
              have hS1 : SBe1 w Wc g A1' k1 c1' A2' k2 c2' X1 X2 Y1 (k1 + 1) [vs 7] vs W := hS
              clear hS
              have HS1 := Lib.hid hS1
              clear hS1
              refine ⟨?_⟩
              simp only [Act.put, List.setIfInBounds_toArray, List.set_cons_zero, List.set_cons_succ, Nat.zero_add, Nat.reduceAdd] at hK ⊢
              go_simp
              with_reducible refine hK _ _ ?_
              exact ⟨rfl, HS1.out⟩
            · as_aux_lemma =>
              intro vs W hS hdep K hK
              have hS1 : SBe1 w Wc g A1' k1 c1' A2' k2 c2' X1 X2 Y1 (k1 + 1) [vs 7, vs 8] vs W := hS
              clear hS
              obtain ⟨ep, A5, c5, X5, e5, ty5, bg5, o15, o25, b65, be5⟩ := hS1
              rw [e5] at o15
              have z1 := bg5.frozen 0
              have z2 := bg5.cell 0
              simp only [List.getElem?_toArray, List.getElem?_cons_zero, List.getElem?_cons_succ] at z2
              have HB5 := Lib.hid bg5
              clear bg5
              refine ⟨?_⟩
              simp only [Act.put, List.setIfInBounds_toArray, List.set_cons_zero, List.set_cons_succ, Nat.zero_add, Nat.reduceAdd, ep, e5] at hK ⊢
              go_simp
              with_reducible refine hK undef _ ?_
              have n1 := own_ne o15 HB5.out (by decide)
              exact ⟨A5, c5, X5, ty5, Blk.set_ HB5.out 0 _, own_setn (p := ⟨g, 0, none⟩) o15 n1 _, fun h0 => own_setn (p := ⟨g, 0, none⟩) (o25 h0) (own_ne (o25 h0) HB5.out (by decide)) _, hBX.out.len2, own_geA hBX.out.o2, b65.far (p := ⟨g, 0, none⟩) (by show w.heap.size + 1 ≠ g; omega) _, be5.setCell (p := ⟨g, 0, none⟩) (by show w.heap.size ≤ g; omega) _, hng⟩
          · intro vs2 W2 hS2 _
            obtain ⟨A5, c5, X5, hX5, H5⟩ := hS2
            rw [HHY.out] at hX5
            obtain ⟨it5, ty5, rfl⟩ := hX5
            clear qa qb hBX
            go_upto_region 19 with fail
            have BG := H5.bg
            have B6 := H5.b6
            have rA := own_rowR (by omega) H5.o1
            have nA : ∀ bb off, A5 = some ⟨bb, off, none⟩ → bb ≠ w.heap.size + 1 := fun bb off e => by have := own_geA H5.o1 bb off e; omega
            have rB := H5.rowB (by omega)
            have nB : ∀ bb off, A2' = some ⟨bb, off, none⟩ → bb ≠ w.heap.size + 1 := fun bb off e => by have := H5.g2 bb off e; omega
            have be := H5.be
            go_wp2_with (first | (refine wpList_load_mid rfl 72 (.tmp 7) rfl g 0 rfl [.slice A5 (k1 + 1) c5, .slice A2' k2 c2'] _ (Blk.range BG) Try.underlying72 rfl info_rlnL ?_; simp only [Act.put, List.setIfInBounds_toArray, List.set_cons_zero, List.set_cons_succ]) | (refine wpList_store_mid rfl 72 (.tmp 6) (.tmp 116) rfl (w.heap.size + 1) 0 #[.slice A5 (k1 + 1) c5, .slice A2' k2 c2'] rfl rfl (Blk.there B6 rfl) info_rln (by simp [Value.oneCell']) ?_))
            (try simp only [Exit.inBlock, Exit.then])
            refine bodyPost_ret (results_rln rfl rfl (Blk.setAll B6 rfl)) rfl ?_
            exact ⟨⟨A5, (k1 + 1), c5, A2', k2, c2', (X1 ++ [it5]), X2⟩, rfl, ⟨RowS.setAll nA _ _ rA, RowS.setAll nB _ _ rB, ty_app TX1.out (by intro it h; rw [List.mem_singleton.1 h]; exact ty5), TX2.out⟩, by show (k1 + 1) ≤ k1 + 1; omega, by show k2 ≤ k2 + 1; omega, below_setAll (by omega) _ _ be⟩
end Go.Proofs.Yticobffjnjbjiaa
namespace Go.Proofs.Yticobffjnjbjiaa
open Go Go.RowKit
theorem own_nil0 (w : World) (T : TypeId) (size : Nat) : (w.alloc (.cells #[] T)).ownsRow w.heap.size T size (.slice (some ⟨w.heap.size, 0, none⟩) 0 0) 0 [] :=
  ⟨by simp, .inr ⟨_, 0, #[], rfl, Nat.le_refl _, heap_alloc_new w _, Nat.le_refl _, by unfold maxLen; omega, by simp, by simp⟩⟩
theorem own_any {α : Type} {f : α → List Value} {m : Nat} (hf : ∀ x, (f x).length = m) {w : World} {base : Nat} {T : TypeId} {A : Option Addr} {n c : Nat} {X : List α} (hm : 0 < m) (hn : n ≤ 281474976710656) (h : w.ownsRow base T m (.slice A n c) n (X.flatMap f)) : RowS f w A n X := by
  obtain ⟨_, _, e, hr⟩ := own_rowS hf hm hn h
  injection e with e1 _ _
  subst e1
  exact hr
theorem flat_int_one (l : List Int) : ∀ v ∈ l.flatMap intC, v.oneCell' = true := by
  intro v hv
  obtain ⟨n, _, h⟩ := List.mem_flatMap.1 hv
  rw [List.mem_singleton.1 h]; rfl
theorem flat_str_one (l : List ByteArray) : ∀ v ∈ l.flatMap strC, v.oneCell' = true := by
  intro v hv
  obtain ⟨n, _, h⟩ := List.mem_flatMap.1 hv
  rw [List.mem_singleton.1 h]; rfl
set_option maxRecDepth 100000 in
set_option maxHeartbeats 2000000 in
theorem odd_n (A : Option Addr) (k c : Nat) (l : List Int) (by_ : Int) (w : World) (hl : RowS intC w A k l) (hk : k ≤ 1073741824) :
    Calls Try.prog 25 #[.slice A k c, .int .i64 by_] w fun e w' => ∃ A' c' n, e = .returned (.slice A' (k + 1) c') ∧ RowS intC w' A' (k + 1) (l ++ [n]) ∧ Below w.heap.size w w' := by
  obtain ⟨i0, hi0, hz0, hz1, hz2⟩ := info_parts info_int
  have hsz0 : (w.alloc (.cells #[] 3)).heap.size = w.heap.size + 1 := by simp
  have hrd0 := (hl.below (below_alloc w (.cells #[] 3))).1
  have hlen : (l.flatMap intC).length = k * 1 := by rw [flat_len intC_len, hl.2.1]
  have HLN := Lib.hid hlen
  clear hlen
  obtain ⟨n, hn⟩ : ∃ n, IntKind.i64.wrap (by_.tmod 5 - 1) = n := ⟨_, rfl⟩
  go_enter Try.func25, Try.ntmps25
  go_wp2_with (first | (at_builtin; (refine wpList_append_any _ rfl (.tmp 5) (.tmp 6) _ rfl w.heap.size 3 i0 _ 1 8 Try.underlying35 hi0 hz0 hz1 hz2 rfl (by omega) (.slice (some ⟨w.heap.size, 0, none⟩) 0 0) 0 [] rfl (own_nil0 w 3 1) A k c (l.flatMap intC) rfl HLN.out hrd0 (flat_int_one l) (by simp only [maxLen]; omega) (by omega) (by rw [hsz0]; omega) ?_); intro v1 x1 hown1 hg1 hat1; have hsz1 : w.heap.size ≤ x1.heap.size := Nat.le_trans (by rw [hsz0]; omega) hg1.size; have hown1' := own_below hown1 (below_alloc x1 (.cells #[.int .i64 n] 3))) | (at_builtin; (refine wpList_append_any _ rfl (.tmp 7) (.tmp 11) _ rfl w.heap.size 3 i0 _ 1 8 Try.underlying35 hi0 hz0 hz1 hz2 rfl (by omega) v1 (0 + k) _ rfl hown1' (some ⟨x1.heap.size, 0, none⟩) 1 1 (intC n) rfl rfl (Rd.fresh x1 3 (intC n)) (by simp [intC, Value.oneCell']) (by simp only [maxLen]; omega) (by omega) (Nat.le_trans hsz1 (below_alloc x1 (.cells #[.int .i64 n] 3)).size) ?_); intro v2 x2 hown2 hg2 hat2))
  have hbx1 : Below w.heap.size w x1 := (below_alloc w (.cells #[] 3)).grown hg1 (by rw [hsz0]; omega) (own_block_ge (own_nil0 w 3 1))
  have hbx2 : Below w.heap.size w x2 := (Below.tr hbx1 (below_alloc x1 (.cells #[.int .i64 n] 3))).grown hg2 (Nat.le_trans hsz1 (below_alloc x1 (.cells #[.int .i64 n] 3)).size) (own_block_ge hown1)
  have hw2 : x2.ownsRow w.heap.size 3 1 v2 (k + 1) ((l ++ [n]).flatMap intC) := by
    have h := hown2
    rw [Nat.zero_add, List.nil_append] at h
    rw [List.flatMap_append]
    exact h
  obtain ⟨A', c', rfl, hr⟩ := own_rowS intC_len (by omega) (by omega) hw2
  clear hown1 hown1' hown2 hg1 hg2 hat1 hat2 hw2 hbx1
  go_wp2_with fail
  go_ret
  exact ⟨A', c', n, rfl, hr, hbx2⟩
/-- what holds all through the loops of GateDecides -/
structure DSt (w W : World) (Ap : Option Addr) (kp : Nat) (ps : List PC) (An : Option Addr) (kn : Nat) (nm : List ByteArray) (Ar : Option Addr) (rs : List RC0) (A5 : Option Addr) (k5 : Nat) (raw : List RC0) (A6 : Option Addr) (k6 : Nat) (nms : List ByteArray) (g : Nat) (Aa : Option Addr) (ka ca : Nat) (la : List Int) (Ao : Option Addr) (co : Nat) (lo : List Int) : Prop where
  hps : RowS cellsP W Ap kp ps
  hnm : RowS strC W An kn nm
  hrs : RowS cellsR W Ar kn rs
  h5 : RowS cellsR W A5 k5 raw
  h6 : RowS strC W A6 k6 nms
  bl : Blk W g 35 #[.slice Aa ka ca, .slice Ao (ka + 1) co, .slice none 0 0]
  ra : RowS intC W Aa ka la
  ro : RowS intC W Ao (ka + 1) lo
  be : Below w.heap.size w W
theorem DSt.below {w W W' : World} {Ap : Option Addr} {kp : Nat} {ps : List PC} {An : Option Addr} {kn : Nat} {nm : List ByteArray} {Ar : Option Addr} {rs : List RC0} {A5 : Option Addr} {k5 : Nat} {raw : List RC0} {A6 : Option Addr} {k6 : Nat} {nms : List ByteArray} {g : Nat} {Aa : Option Addr} {ka ca : Nat} {la : List Int} {Ao : Option Addr} {co : Nat} {lo : List Int} (h : DSt w W Ap kp ps An kn nm Ar rs A5 k5 raw A6 k6 nms g Aa ka ca la Ao co lo) (hb : Below W.heap.size W W') : DSt w W' Ap kp ps An kn nm Ar rs A5 k5 raw A6 k6 nms g Aa ka ca la Ao co lo :=
  ⟨h.hps.below hb, h.hnm.below hb, h.hrs.below hb, h.h5.below hb, h.h6.below hb, Blk.below h.bl hb h.bl.lt, h.ra.below hb, h.ro.below hb, Below.tr h.be hb⟩
theorem DSt.pick {w W : World} {Ap : Option Addr} {kp : Nat} {ps : List PC} {An : Option Addr} {kn : Nat} {nm : List ByteArray} {Ar : Option Addr} {rs : List RC0} {A5 : Option Addr} {k5 : Nat} {raw : List RC0} {A6 : Option Addr} {k6 : Nat} {nms : List ByteArray} {g : Nat} {Aa : Option Addr} {ka ca : Nat} {la : List Int} {Ao : Option Addr} {co : Nat} {lo : List Int} (h : DSt w W Ap kp ps An kn nm Ar rs A5 k5 raw A6 k6 nms g Aa ka ca la Ao co lo) (hk : ka ≤ 9) {i : Nat} (hi : i < 3) : ∃ Ai ki ci li, W.cell? ⟨g, i, none⟩ = some (.slice Ai ki ci) ∧ RowS intC W Ai ki li := by
  rcases i with _ | _ | _ | i
  · exact ⟨_, _, _, _, by rw [h.bl.cell]; rfl, h.ra⟩
  · exact ⟨_, _, _, _, by rw [h.bl.cell]; rfl, h.ro⟩
  · exact ⟨none, 0, 0, [], by rw [h.bl.cell]; rfl, ⟨fun h => absurd rfl h, rfl, by omega⟩⟩
  · omega
def PhiGd15 (er : Int) (ya yb : Ln) (j : Nat) (w : World) (x : Value) : Prop :=
  match j with
  | 0 => x = .int .i64 er
  | 1 => x = .int .i64 er
  | 2 => x = .bool false
  | 3 => x = .bool false
  | 4 => x = .agg #[.slice ya.A1 ya.k1 ya.c1, .slice ya.A2 ya.k2 ya.c2]
  | 5 => ∃ y : Ln, x = .agg #[.slice y.A1 y.k1 y.c1, .slice y.A2 y.k2 y.c2] ∧ y.Ok w ∧ y.P = ya.P ∧ y.S = ya.S
  | 6 => x = .agg #[.slice yb.A1 yb.k1 yb.c1, .slice yb.A2 yb.k2 yb.c2]
  | 7 => x = .bool true
  | 8 => x = .bool false
  | 9 => x = .bool false
  | _ => True
theorem PhiGd15.keep {er : Int} {ya yb : Ln} : ∀ (w w' : World), Below w.heap.size w w' → ∀ j x, PhiGd15 er ya yb j w x → PhiGd15 er ya yb j w' x := by
  intro w w' hb j x h
  unfold PhiGd15 at h ⊢
  split <;> simp only at h ⊢ <;> first | exact h | skip
  · obtain ⟨y, e, h1, h2⟩ := h; exact ⟨y, e, h1.below hb, h2⟩
theorem info_rline : (Try.prog.info? 72).map (fun i => (i.zero, i.size, i.bytes)) = some (some (.agg #[.slice none 0 0, .slice none 0 0]), 2, 48) := by kernel_rfl
/-- four lines in a row -/
def LnS (w : World) (g : Nat) : Prop := ∀ j, j < 4 → ∃ y : Ln, w.cell? ⟨g, j * 2, none⟩ = some (.slice y.A1 y.k1 y.c1) ∧ w.cell? ⟨g, j * 2 + 1, none⟩ = some (.slice y.A2 y.k2 y.c2) ∧ y.Ok w ∧ y.k1 ≤ 1048600 ∧ y.k2 ≤ 1048600
theorem LnS.below {w w' : World} {g : Nat} (h : LnS w g) (hb : Below w.heap.size w w') : LnS w' g := fun j hj => by
  obtain ⟨y, h1, h2, h3, h4⟩ := h j hj
  exact ⟨y, cell_keep hb h1, cell_keep hb h2, h3.below hb, h4⟩
theorem fill_ln4 {A1 A2 B1 B2 C1 C2 D1 D2 : Option Addr} {k1 c1 k2 c2 l1 d1 l2 d2 m1 e1 m2 e2 n1 f1 n2 f2 : Nat} : Instr.fill (fun i => some (i * 2, 2)) ((Array.range (4 * 2)).map ((Value.agg #[.slice none 0 0, .slice none 0 0]).cells[· % (Value.agg #[.slice none 0 0, .slice none 0 0]).cells.size]!)) [(0, .agg #[.slice A1 k1 c1, .slice A2 k2 c2]), (1, .agg #[.slice B1 l1 d1, .slice B2 l2 d2]), (2, .agg #[.slice C1 m1 e1, .slice C2 m2 e2]), (3, .agg #[.slice D1 n1 f1, .slice D2 n2 f2])] = some #[.slice A1 k1 c1, .slice A2 k2 c2, .slice B1 l1 d1, .slice B2 l2 d2, .slice C1 m1 e1, .slice C2 m2 e2, .slice D1 n1 f1, .slice D2 n2 f2] := by kernel_rfl
theorem Ln.nil_ok (w : World) : (⟨none, 0, 0, none, 0, 0, [], []⟩ : Ln).Ok w := ⟨⟨fun h => absurd rfl h, rfl, Nat.zero_le _⟩, ⟨fun h => absurd rfl h, rfl, Nat.zero_le _⟩, (fun it h => absurd h List.not_mem_nil), (fun it h => absurd h List.not_mem_nil)⟩
def PhiGd18 (yb y1 : Ln) (how by_ : Int) (j : Nat) (w : World) (x : Value) : Prop :=
  match j with
  | 0 => x = .agg #[.slice yb.A1 yb.k1 yb.c1, .slice yb.A2 yb.k2 yb.c2]
  | 1 => x = .agg #[.slice y1.A1 y1.k1 y1.c1, .slice y1.A2 y1.k2 y1.c2]
  | 2 => x = .agg #[.slice y1.A1 y1.k1 y1.c1, .slice y1.A2 y1.k2 y1.c2]
  | 3 => x = .int .i64 by_
  | 4 => x = .int .i64 how
  | 5 => ∃ y : Ln, x = .agg #[.slice y.A1 y.k1 y.c1, .slice y.A2 y.k2 y.c2] ∧ y.Ok w ∧ y.k1 ≤ 1048600 ∧ y.k2 ≤ 1048600
  | 6 => x = .agg #[.slice none 0 0, .slice none 0 0]
  | 7 => ∃ g, x = .slice (some ⟨g, 0, none⟩) 4 4 ∧ LnS w g
  | 8 => ∃ g, x = .slice (some ⟨g, 0, none⟩) 4 4 ∧ LnS w g
  | _ => True
theorem PhiGd18.keep {yb y1 : Ln} {how by_ : Int} : ∀ (w w' : World), Below w.heap.size w w' → ∀ j x, PhiGd18 yb y1 how by_ j w x → PhiGd18 yb y1 how by_ j w' x := by
  intro w w' hb j x h
  unfold PhiGd18 at h ⊢
  split <;> simp only at h ⊢ <;> first | exact h | skip
  · obtain ⟨y, e, h1, h2⟩ := h; exact ⟨y, e, h1.below hb, h2⟩
  · obtain ⟨g, e, h1⟩ := h; exact ⟨g, e, h1.below hb⟩
  · obtain ⟨g, e, h1⟩ := h; exact ⟨g, e, h1.below hb⟩
def PhiGd22 (vl vt3 vi vt vw : Value) (g gl i n : Nat) (y : Ln) (ck : Int) (j : Nat) (w : World) (x : Value) : Prop :=
  match j with
  | 0 => x = vl
  | 1 => x = vt3
  | 2 => x = .int .i64 (i : Nat)
  | 3 => x = .pointer (some ⟨g, i, none⟩)
  | 4 => x = vi
  | 5 => x = vt
  | 6 => x = vw
  | 7 => x = .slice (some ⟨gl, 0, none⟩) 4 4
  | 8 => x = .int .i64 (n : Nat)
  | 9 => x = .pointer (some ⟨gl, n * 2, none⟩)
  | 10 => x = .agg #[.slice y.A1 y.k1 y.c1, .slice y.A2 y.k2 y.c2]
  | 11 => ∃ z : Ln, x = .agg #[.slice z.A1 z.k1 z.c1, .slice z.A2 z.k2 z.c2] ∧ z.Ok w ∧ z.P = y.P ∧ z.S = y.S
  | 12 => x = .int .i64 ck
  | 13 => x = vl
  | 14 => x = vt3
  | 15 => x = .int .i64 (i : Nat)
  | 16 => x = .pointer (some ⟨g, i, none⟩)
  | 17 => x = vi
  | 18 => x = vt
  | 19 => x = vw
  | 20 => x = .slice (some ⟨gl, 0, none⟩) 4 4
  | 21 => x = .int .i64 (n : Nat)
  | 22 => x = .pointer (some ⟨gl, n * 2, none⟩)
  | 23 => x = .agg #[.slice y.A1 y.k1 y.c1, .slice y.A2 y.k2 y.c2]
  | 24 => x = .int .i64 ck
  | 25 => x = .bool false
  | _ => True
theorem PhiGd22.keep {vl vt3 vi vt vw : Value} {g gl i n : Nat} {y : Ln} {ck : Int} : ∀ (w w' : World), Below w.heap.size w w' → ∀ j x, PhiGd22 vl vt3 vi vt vw g gl i n y ck j w x → PhiGd22 vl vt3 vi vt vw g gl i n y ck j w' x := by
  intro w w' hb j x h
  unfold PhiGd22 at h ⊢
  split <;> simp only at h ⊢ <;> first | exact h | skip
  · obtain ⟨z, e, h1, h2⟩ := h; exact ⟨z, e, h1.below hb, h2⟩
set_option maxRecDepth 100000 in
set_option maxHeartbeats 8000000 in
theorem gate_decides_n (A0 A1 A2 : Option Addr) (k0 c0 k1 c1 k2 c2 : Nat) (l0 l1 l2 : List Int) (how by_ : Int) (A5 : Option Addr) (k5 c5 : Nat) (raw : List RC0) (A6 : Option Addr) (k6 c6 : Nat) (nms : List ByteArray) (w : World)
    (h0 : RowL intC w A0 k0 l0) (h1 : RowL intC w A1 k1 l1) (h2 : RowL intC w A2 k2 l2) (H0 : Hid (∀ x ∈ l0, -9223372036854775808 ≤ x ∧ x ≤ 9223372036854775807)) (H1 : Hid (∀ x ∈ l1, -9223372036854775808 ≤ x ∧ x ≤ 9223372036854775807)) (H2 : Hid (∀ x ∈ l2, -9223372036854775808 ≤ x ∧ x ≤ 9223372036854775807))
    (ho1 : -9223372036854775808 ≤ how) (ho2 : how ≤ 9223372036854775807) (ho3 : -9223372036854775808 ≤ by_) (ho4 : by_ ≤ 9223372036854775807)
    (h5 : RowS cellsR w A5 k5 raw) (HT5 : Hid (∀ r ∈ raw, RcTy r)) (hk5 : k5 ≤ 1048576) (h6 : RowS strC w A6 k6 nms) (hk6 : k6 ≤ 1048576) :
    Calls Try.prog 6 #[.slice A0 k0 c0, .slice A1 k1 c1, .slice A2 k2 c2, .int .i64 how, .int .i64 by_, .slice A5 k5 c5, .slice A6 k6 c6] w fun e w' => e = .returned (.bool true) ∧ Below w.heap.size w w' := by
  obtain ⟨i0, hi0, hz0, hz1, hz2⟩ := info_parts info_str
  go_enter Try.func6, Try.ntmps6
  go_wp2_with fail
  refine (made_n A0 k0 c0 l0 _ h0 H0).mono ?_
  rintro e w1 ⟨Ap, kp, cp, ps, bd, rfl, _, _, hps, hkp, hok, hb1⟩
  go_wp2_with fail
  refine (active_n Ap kp cp A1 k1 c1 l1 _ (by omega) (h1.below hb1) H1).mono ?_
  rintro e w2 ⟨la, Aa, ka, ca, rfl, _, hla, hka, HIN, hb2⟩
  go_wp2_with fail
  have HPO : Hid (∀ p ∈ ps, PromOk p) := fun p hp => by
    obtain ⟨n, hn⟩ := List.getElem?_of_mem hp
    exact (hok n p hn).1
  refine (tests_n Ap kp cp ps A2 k2 c2 l2 _ (hps.below hb2) HPO (by omega) (h2.below (Below.tr hb1 hb2)) H2).mono ?_
  rintro e w3 ⟨names, rs, kn, An, cn, Ar, cr, rfl, hon, hor, hkn, HRS, HNS, hb3⟩
  obtain ⟨An', cn', en, hnm⟩ := own_rowS strC_len (by omega) (by omega) hon
  injection en with e1 e2 e3
  subst e1 e3
  obtain ⟨Ar', cr', er, hrs⟩ := own_rowS cellsR_len (by omega) (by omega) hor
  injection er with e1 e2 e3
  subst e1 e3
  have hps := hps.below (Below.tr hb2 hb3)
  have hla := hla.below hb3
  have hbw := Below.tr (Below.tr hb1 hb2) hb3
  have hlai := nat_rows hla
  have HTR : Hid (∀ r ∈ rs, RcTy r) := fun r hr => (HRS.out r hr).ty
  have h5 := h5.below hbw
  have h6 := h6.below hbw
  clear hb1 hb2 hb3 hok HPO HNS hon hor h0 h1 h2 H0 H1 H2 hla HIN HRS
  obtain ⟨lai, hlaid⟩ : ∃ l : List Int, Hid (l = la.map fun n : Nat => (n : Int)) := ⟨_, rfl⟩
  rw [← hlaid.out] at hlai
  go_wp2_with fail
  refine (odd_n Aa ka ca lai by_ _ hlai (by omega)).mono ?_
  rintro e w4 ⟨Ao, co, nn, rfl, hro, hb4⟩
  go_upto_region 5 with fail
  refine wp_name ?_
  intro v4 HV4
  have hbv4 : Below w4.heap.size w4 v4 := by rw [HV4.out]; exact below_alloc _ _
  have hbq := Below.tr hb4 hbv4
  have D4 : DSt w v4 Ap kp ps An kn names Ar rs A5 k5 raw A6 k6 nms w4.heap.size Aa ka ca lai Ao co (lai ++ [nn]) :=
    ⟨hps.below hbq, hnm.below hbq, hrs.below hbq, h5.below hbq, h6.below hbq, by rw [HV4.out]; exact Blk.new _ _ _, hlai.below hbq, hro.below hbv4, Below.tr hbw hbq⟩
  generalize w4.heap.size = g at D4
  generalize lai ++ [nn] = lo at D4
  have HD4 := Lib.hid D4
  clear D4 hps hnm hrs h5 h6 hlai hro hbw hb4 hbv4 hbq HV4 hlaid
  go_wp2_with fail
  go_loopg [20] 3 (fun j x wr => ∃ i : Nat, x = .int .i64 i ∧ i + j = 3 ∧ Hid (DSt w wr Ap kp ps An kn names Ar rs A5 k5 raw A6 k6 nms g Aa ka ca lai Ao co lo))
  case atStart => exact ⟨0, rfl, by omega, HD4⟩
  case round =>
    obtain ⟨G, hG⟩ : ∃ G, G = gk := ⟨gk, rfl⟩
    subst hG
    obtain ⟨i, rfl, hij, HD⟩ := hrel
    clear HD4
    by_cases hi : i < 3
    · have t1 : decide ((i : Int) < 3) = true := by simp; omega
      have li : (i : Int) < 3 := by omega
      go_wp2_with fail
      go_loopg [21] 3 (fun j x wx => ∃ k : Nat, x = .int .i64 k ∧ k + j = 3 ∧ Hid (DSt w wx Ap kp ps An kn names Ar rs A5 k5 raw A6 k6 nms g Aa ka ca lai Ao co lo))
      case atStart => exact ⟨0, rfl, by omega, HD⟩
      case round =>
        obtain ⟨G2, hG2⟩ : ∃ G, G = gk := ⟨gk, rfl⟩
        subst hG2
        obtain ⟨k, rfl, hkj, HDk⟩ := hrel
        clear HD
        by_cases hk : k < 3
        · have t2 : decide ((k : Int) < 3) = true := by simp; omega
          have lk : (k : Int) < 3 := by omega
          go_upto_region 11 with fail
          obtain ⟨x0, hx0⟩ : ∃ x, x = wr := ⟨_, rfl⟩
          subst hx0
          have hkn9 : kn ≤ 8 := hkn
          have hlen0 : (names.flatMap strC).length = kn * 1 := by rw [flat_len strC_len, HDk.out.hnm.2.1]
          have HLN := Lib.hid hlen0
          clear hlen0
          go_cut [22] from 57 to 67 (fun t wx => ∃ At kt ct nk, t = .slice At kt ct ∧ RowS strC wx At kt nk ∧ kt ≤ 1048586 ∧ DSt w wx Ap kp ps An kn names Ar rs A5 k5 raw A6 k6 nms g Aa ka ca lai Ao co lo)
          case first => as_aux_lemma =>
            have hsz0 : (x0.alloc (.cells #[] 9)).heap.size = x0.heap.size + 1 := by simp
            have hrd0 := (HDk.out.hnm.below (below_alloc x0 (.cells #[] 9))).1
            go_wp2_with (first | (at_builtin; (refine wpList_append_any _ rfl (.tmp 58) (.tmp 59) _ rfl x0.heap.size 9 i0 _ 1 16 Try.underlying40 hi0 hz0 hz1 hz2 rfl (by omega) (.slice (some ⟨x0.heap.size, 0, none⟩) 0 0) 0 [] rfl (own_nil0 x0 9 1) An kn cn (names.flatMap strC) rfl HLN.out hrd0 (flat_str_one names) (by simp only [maxLen]; omega) (by omega) (by rw [hsz0]; omega) ?_); intro v1 x1 hown1 hg1 hat1; have hsz1 : x0.heap.size ≤ x1.heap.size := Nat.le_trans (by rw [hsz0]; omega) hg1.size; have hown1' := own_below hown1 (below_alloc x1 (.cells #[.string ⟨#[116, 48]⟩] 9))) | (at_builtin; (refine wpList_append_any _ rfl (.tmp 60) (.tmp 61) _ rfl x0.heap.size 9 i0 _ 1 16 Try.underlying40 hi0 hz0 hz1 hz2 rfl (by omega) v1 (0 + kn) _ rfl hown1' (some ⟨x1.heap.size, 0, none⟩) 1 1 (strC ⟨#[116, 48]⟩) rfl rfl (Rd.fresh x1 9 (strC ⟨#[116, 48]⟩)) (by simp [strC, Value.oneCell']) (by simp only [maxLen]; omega) (by omega) (Nat.le_trans hsz1 (below_alloc x1 (.cells #[.string ⟨#[116, 48]⟩] 9)).size) ?_); intro v2 x2 hown2 hg2 hat2; obtain ⟨Ab, cb, rfl⟩ := own_shp hown2))
            have hbx1 : Below x0.heap.size x0 x1 := (below_alloc x0 (.cells #[] 9)).grown hg1 (by rw [hsz0]; omega) (own_block_ge (own_nil0 x0 9 1))
            have hbx2 : Below x0.heap.size x0 x2 := (Below.tr hbx1 (below_alloc x1 (.cells #[.string ⟨#[116, 48]⟩] 9))).grown hg2 (Nat.le_trans hsz1 (below_alloc x1 (.cells #[.string ⟨#[116, 48]⟩] 9)).size) (own_block_ge hown1)
            have hw2 : x2.ownsRow x0.heap.size 9 1 (.slice Ab (kn + 1) cb) (kn + 1) ((names ++ [(⟨#[116, 48]⟩ : ByteArray)]).flatMap strC) := by
              have h := hown2
              rw [Nat.zero_add, List.nil_append] at h
              rw [List.flatMap_append]
              exact h
            have hr2 := (own_any strC_len (by omega) (by omega) hw2).below (below_alloc x2 (.cells #[.slice An kn cn, .slice Ab (kn + 1) cb, .slice A6 k6 c6] 40))
            have DX := (HDk.out.below hbx2).below (below_alloc x2 (.cells #[.slice An kn cn, .slice Ab (kn + 1) cb, .slice A6 k6 c6] 40))
            go_meet
            case rel =>
              rcases k with _ | _ | _ | k
              · exact ⟨_, _, _, _, rfl, DX.hnm, by omega, DX⟩
              · exact ⟨_, _, _, _, rfl, hr2, by omega, DX⟩
              · exact ⟨_, _, _, _, rfl, DX.h6, by omega, DX⟩
              · omega
          obtain ⟨At, kt, ct, nk, rfl, hrt, hkt, Dx⟩ := hcut
          have HDx := Lib.hid Dx
          clear Dx HDk HLN
          go_upto_region 12 with fail
          obtain ⟨x1, hx1⟩ : ∃ x, x = wc := ⟨_, rfl⟩
          subst hx1
          go_cut [23] from 68 to 74 (fun t wx => ∃ Aw kw cw rw_, t = .slice Aw kw cw ∧ RowS cellsR wx Aw kw rw_ ∧ kw ≤ 1048586 ∧ (∀ r ∈ rw_, RcTy r) ∧ Below x1.heap.size x1 wx)
          case first => as_aux_lemma =>
            go_wp2_with fail
            go_meet
            case rel =>
              have hb := below_alloc x1 (.cells #[.slice Ar kn cr, .slice Ar kn cr, .slice A5 k5 c5] 41)
              have DX := HDx.out.below hb
              rcases k with _ | _ | _ | k
              · exact ⟨_, _, _, _, rfl, DX.hrs, by omega, HTR.out, hb⟩
              · exact ⟨_, _, _, _, rfl, DX.hrs, by omega, HTR.out, hb⟩
              · exact ⟨_, _, _, _, rfl, DX.h5, by omega, HT5.out, hb⟩
              · omega
          obtain ⟨Aw, kw, cw, rw_, rfl, hrw, hkw, hrty, hbc⟩ := hcut
          have HTW := Lib.hid hrty
          have HONW : Hid (∀ x ∈ rw_, ∀ v ∈ cellsR x, v.oneCell' = true) := fun x hx => (hrty x hx).one
          have hrt := hrt.below hbc
          have HD := Lib.hid (HDx.out.below hbc)
          clear hrty hbc HDx
          obtain ⟨Ai, ki, ci, lz, hci, hri⟩ := HD.out.pick (by omega) hi
          have HP := Lib.hid HD.out.hps
          go_wp2_with fail
          refine (decide_n Ap Ai At Aw kp cp ki ci kt ct kw cw lz ps nk rw_ _ HP.out hri hrt hrw HONW (by omega)).mono ?_
          rintro e w13 ⟨vp, np, vs, ns, er, rfl, HE, hop, hos, hb13⟩
          obtain ⟨ya, -, rfl, rfl, hya, -, HYA, hya1, hya2⟩ := dec_ln (by omega) hrt.2.1 HTW hop hos
          clear hop hos
          go_upto_region 14 with fail
          refine wp_name ?_
          intro v13 HV13
          have hbv : Below w13.heap.size w13 v13 := by rw [HV13.out]; exact below_alloc _ _
          have BA : Blk v13 w13.heap.size 58 #[.slice ya.A1 ya.k1 ya.c1, .slice ya.A2 ya.k2 ya.c2] := by rw [HV13.out]; exact Blk.new _ _ _
          have hbq := Below.tr hb13 hbv
          have hya := hya.below hbv
          have HD := Lib.hid (HD.out.below hbq)
          have HP := Lib.hid HD.out.hps
          have hci := cell_keep hbq hci
          have hri := hri.below hbq
          have hrt := hrt.below hbq
          have hrw := hrw.below hbq
          generalize w13.heap.size = ga at BA
          clear HV13 hbv hbq hb13
          go_wp2_with fail
          refine (rdecide_n Ap Ai At Aw kp cp ki ci kt ct kw cw lz ps nk rw_ _ HP.out hri hrt hrw HONW (by omega)).mono ?_
          rintro e w14 ⟨vp, np, vs, ns, er2, rfl, HE2, hop, hos, hb14⟩
          obtain rfl : er2 = er := HE2.out.trans HE.out.symm
          obtain ⟨yb, -, rfl, rfl, hyb, -, HYB, hyb1, hyb2⟩ := dec_ln (by omega) hrt.2.1 HTW hop hos
          clear hop hos
          have HPE : Hid (ya.P = yb.P ∧ ya.S = yb.S) := ⟨HYA.out.1.trans HYB.out.1.symm, HYA.out.2.trans HYB.out.2.symm⟩
          clear HYA HYB HE2
          go_upto_region 15 with fail
          refine wp_name ?_
          intro v14 HV14
          have hbv : Below w14.heap.size w14 v14 := by rw [HV14.out]; exact below_alloc _ _
          have BB : Blk v14 w14.heap.size 72 #[.slice yb.A1 yb.k1 yb.c1, .slice yb.A2 yb.k2 yb.c2] := by rw [HV14.out]; exact Blk.new _ _ _
          have hbq := Below.tr hb14 hbv
          have hyb := hyb.below hbv
          have hya := hya.below hbq
          have BA := Blk.below BA hbq BA.lt
          have HD := Lib.hid (HD.out.below hbq)
          have hci := cell_keep hbq hci
          have hri := hri.below hbq
          have hrt := hrt.below hbq
          have hrw := hrw.below hbq
          generalize w14.heap.size = gb at BB
          clear HV14 hbv hbq hb14 HP
          have qa0 := BA.cell 0
          have qa1 := BA.cell 1
          have qb0 := BB.cell 0
          have qb1 := BB.cell 1
          simp only [List.getElem?_toArray, List.getElem?_cons_zero, List.getElem?_cons_succ] at qa0 qa1 qb0 qb1
          have HQ : Hid (v14.cell? ⟨ga, 0, none⟩ = some (.slice ya.A1 ya.k1 ya.c1) ∧ v14.cell? ⟨ga, 1, none⟩ = some (.slice ya.A2 ya.k2 ya.c2) ∧ v14.cell? ⟨gb, 0, none⟩ = some (.slice yb.A1 yb.k1 yb.c1) ∧ v14.cell? ⟨gb, 1, none⟩ = some (.slice yb.A2 yb.k2 yb.c2)) := ⟨qa0, qa1, qb0, qb1⟩
          clear qa0 qa1 qb0 qb1 BA
          refine region_invF (PhiGd15 er2 ya yb) (fun w w' => Below w.heap.size w w') (fun W => Below v14.heap.size v14 W) (by kernel_rfl) (by kernel_rfl) (by kernel_rfl) PhiGd15.keep (fun _ _ hR hS => Below.tr hS hR) (below_drew _) (fun vs => by simp only [fillR, Act.put, List.setIfInBounds_toArray, List.set_cons_zero, List.set_cons_succ, Nat.zero_add, Nat.reduceAdd]; rfl) ?_ ?_
          · refine steps_cons ?_ (steps_cons ?_ (steps_cons ?_ (steps_cons ?_ (steps_cons ?_ (steps_cons ?_ (steps_cons ?_ (steps_cons ?_ (steps_cons ?_ (steps_cons ?_ (steps_nil))))))))))
            · as_aux_lemma =>
              intro vs W hS hdep K hK
              refine ⟨?_⟩
              simp only [Act.put, List.setIfInBounds_toArray, List.set_cons_zero, List.set_cons_succ, Nat.zero_add, Nat.reduceAdd] at hK ⊢
              go_simp
              with_reducible refine hK _ _ (Below.refl _ _) ?_
              exact rfl
            · as_aux_lemma =>
              intro vs W hS hdep K hK
              refine ⟨?_⟩
              simp only [Act.put, List.setIfInBounds_toArray, List.set_cons_zero, List.set_cons_succ, Nat.zero_add, Nat.reduceAdd] at hK ⊢
              go_simp
              with_reducible refine hK _ _ (Below.refl _ _) ?_
              exact rfl
            · as_aux_lemma =>
              intro vs W hS hdep K hK
              have d0 := hdep ⟨0, .data⟩ (by simp) rfl
              simp only [PhiGd15] at d0
              have d1 := hdep ⟨1, .data⟩ (by simp) rfl
              simp only [PhiGd15] at d1
              refine ⟨?_⟩
              simp only [Act.put, List.setIfInBounds_toArray, List.set_cons_zero, List.set_cons_succ, Nat.zero_add, Nat.reduceAdd, d0, d1] at hK ⊢
              go_simp
              with_reducible refine hK _ _ (Below.refl _ _) ?_
              exact rfl
            · as_aux_lemma =>
              intro vs W hS hdep K hK
              have d0 := hdep ⟨2, .data⟩ (by simp) rfl
              simp only [PhiGd15] at d0
              refine ⟨?_⟩
              simp only [Act.put, List.setIfInBounds_toArray, List.set_cons_zero, List.set_cons_succ, Nat.zero_add, Nat.reduceAdd, d0] at hK ⊢
              go_simp
              with_reducible refine hK _ _ (Below.refl _ _) ?_
              exact rfl
            · as_aux_lemma =>
              intro vs W hS hdep K hK
              have d0 := hdep ⟨3, .guard⟩ (by simp) rfl
              simp only [PhiGd15] at d0
              obtain ⟨z1, z2, z3, z4⟩ := HQ.out
              have f1 := cell_keep hS z1
              have f2 := cell_keep hS z2
              clear z1 z2 z3 z4
              refine ⟨?_⟩
              simp only [Act.put, List.setIfInBounds_toArray, List.set_cons_zero, List.set_cons_succ, Nat.zero_add, Nat.reduceAdd, d0] at hK ⊢
              go_simp
              with_reducible refine hK _ _ (Below.refl _ _) ?_
              exact rfl
            · as_aux_lemma =>
              intro vs W hS hdep K hK
              have d0 := hdep ⟨4, .data⟩ (by simp) rfl
              simp only [PhiGd15] at d0
              have d1 := hdep ⟨3, .guard⟩ (by simp) rfl
              simp only [PhiGd15] at d1
              refine ⟨?_⟩
              simp only [Act.put, List.setIfInBounds_toArray, List.set_cons_zero, List.set_cons_succ, Nat.zero_add, Nat.reduceAdd, d0, d1] at hK ⊢
              go_simp
              refine (model_n ya _ (hya.below hS) (by omega) (by omega)).mono ?_
              rintro e w' ⟨y, rfl, hok, hp, hs, -, -, -, -, hb⟩
              go_wp2_with fail
              with_reducible refine hK _ _ hb ?_
              exact ⟨y, rfl, hok, hp, hs⟩
            · as_aux_lemma =>
              intro vs W hS hdep K hK
              have d0 := hdep ⟨3, .guard⟩ (by simp) rfl
              simp only [PhiGd15] at d0
              obtain ⟨z1, z2, z3, z4⟩ := HQ.out
              have f1 := cell_keep hS z3
              have f2 := cell_keep hS z4
              clear z1 z2 z3 z4
              refine ⟨?_⟩
              simp only [Act.put, List.setIfInBounds_toArray, List.set_cons_zero, List.set_cons_succ, Nat.zero_add, Nat.reduceAdd, d0] at hK ⊢
              go_simp
              with_reducible refine hK _ _ (Below.refl _ _) ?_
              exact rfl
            · as_aux_lemma =>
              intro vs W hS hdep K hK
              have d0 := hdep ⟨5, .data⟩ (by simp) rfl
              simp only [PhiGd15] at d0
              refine @exE1 _ _ _ d0 ?_
              clear d0
              intro y0 d0
              have e0 := d0.1
              have ok0 := d0.2.1
              have hp0 := d0.2.2.1
              have hs0 := d0.2.2.2
              clear d0
              have d1 := hdep ⟨6, .data⟩ (by simp) rfl
              simp only [PhiGd15] at d1
              have d2 := hdep ⟨3, .guard⟩ (by simp) rfl
              simp only [PhiGd15] at d2
              refine ⟨?_⟩
              simp only [Act.put, List.setIfInBounds_toArray, List.set_cons_zero, List.set_cons_succ, Nat.zero_add, Nat.reduceAdd, e0, d1, d2] at hK ⊢
              go_simp
              refine (rsame_n y0 yb _ ok0 (hyb.below hS)).mono ?_
              rintro e w' ⟨b, rfl, HB, hb⟩
              obtain rfl : b = true := HB.out.2 ⟨hp0.trans HPE.out.1, hs0.trans HPE.out.2⟩
              go_wp2_with fail
              with_reducible refine hK _ _ hb ?_
              exact rfl
            · as_aux_lemma =>
              intro vs W hS hdep K hK
              have d0 := hdep ⟨7, .data⟩ (by simp) rfl
              simp only [PhiGd15] at d0
              have d1 := hdep ⟨3, .guard⟩ (by simp) rfl
              simp only [PhiGd15] at d1
              refine ⟨?_⟩
              simp only [Act.put, List.setIfInBounds_toArray, List.set_cons_zero, List.set_cons_succ, Nat.zero_add, Nat.reduceAdd, d0, d1] at hK ⊢
              go_simp
              with_reducible refine hK _ _ (Below.refl _ _) ?_
              exact rfl
            · as_aux_lemma =>
              intro vs W hS hdep K hK
              have d0 := hdep ⟨3, .data⟩ (by simp) rfl
              simp only [PhiGd15] at d0
              have d1 := hdep ⟨8, .data⟩ (by simp) rfl
              simp only [PhiGd15] at d1
              refine ⟨?_⟩
              simp only [Act.put, List.setIfInBounds_toArray, List.set_cons_zero, List.set_cons_succ, Nat.zero_add, Nat.reduceAdd, d0, d1] at hK ⊢
              go_simp
              with_reducible refine hK _ _ (Below.refl _ _) ?_
              exact rfl
          · intro vs15 w15 hS hv
            have v9 := hv 9 (by simp)
            simp only [PhiGd15] at v9
            simp only [Act.put, List.setIfInBounds_toArray, List.set_cons_zero, List.set_cons_succ, Nat.zero_add, Nat.reduceAdd, v9]
            clear v9 hv
            have hyb := hyb.below hS
            have BB := Blk.below BB hS BB.lt
            have HD := Lib.hid (HD.out.below hS)
            have hci := cell_keep hS hci
            have hri := hri.below hS
            have hrt := hrt.below hS
            have hrw := hrw.below hS
            clear hS HQ HPE hya
            have qb0 := BB.cell 0
            have qb1 := BB.cell 1
            simp only [List.getElem?_toArray, List.getElem?_cons_zero, List.getElem?_cons_succ] at qb0 qb1
            go_wp2_with fail
            refine (bent_n yb how by_ _ hyb (by omega) (by omega) ho1 ho2 ho3 ho4).mono ?_
            rintro e w17 ⟨y1, rfl, hy1, hn1, hn2, hb17⟩
            simp only [Ln.val]
            clear qb0 qb1
            go_upto_region 18 with fail
            refine wp_name ?_
            intro v17 HV17
            have hbv : Below w17.heap.size w17 v17 := by rw [HV17.out]; exact below_alloc _ _
            have BO : Blk v17 w17.heap.size 72 #[.slice y1.A1 y1.k1 y1.c1, .slice y1.A2 y1.k2 y1.c2] := by rw [HV17.out]; exact Blk.new _ _ _
            have hbq := Below.tr hb17 hbv
            have hyb := hyb.below hbq
            have hy1 := hy1.below hbv
            have BB := Blk.below BB hbq BB.lt
            have HD := Lib.hid (HD.out.below hbq)
            have hci := cell_keep hbq hci
            have hri := hri.below hbq
            have hrt := hrt.below hbq
            have hrw := hrw.below hbq
            generalize w17.heap.size = go at BO
            clear HV17 hbv hbq hb17
            have qb0 := BB.cell 0
            have qb1 := BB.cell 1
            have qo0 := BO.cell 0
            have qo1 := BO.cell 1
            simp only [List.getElem?_toArray, List.getElem?_cons_zero, List.getElem?_cons_succ] at qb0 qb1 qo0 qo1
            have HQ : Hid (v17.cell? ⟨gb, 0, none⟩ = some (.slice yb.A1 yb.k1 yb.c1) ∧ v17.cell? ⟨gb, 1, none⟩ = some (.slice yb.A2 yb.k2 yb.c2) ∧ v17.cell? ⟨go, 0, none⟩ = some (.slice y1.A1 y1.k1 y1.c1) ∧ v17.cell? ⟨go, 1, none⟩ = some (.slice y1.A2 y1.k2 y1.c2)) := ⟨qb0, qb1, qo0, qo1⟩
            clear qb0 qb1 qo0 qo1 BB BO
            obtain ⟨iL, hiL, hzL, hzL1, hzL2⟩ := info_parts info_rline
            refine region_invF (PhiGd18 yb y1 how by_) (fun w w' => Below w.heap.size w w') (fun W => Below v17.heap.size v17 W) (by kernel_rfl) (by kernel_rfl) (by kernel_rfl) PhiGd18.keep (fun _ _ hR hS => Below.tr hS hR) (below_drew _) (fun vs => by simp only [fillR, Act.put, List.setIfInBounds_toArray, List.set_cons_zero, List.set_cons_succ, Nat.zero_add, Nat.reduceAdd]; rfl) ?_ ?_
            · refine steps_cons ?_ (steps_cons ?_ (steps_cons ?_ (steps_cons ?_ (steps_cons ?_ (steps_cons ?_ (steps_cons ?_ (steps_cons ?_ (steps_cons ?_ (steps_nil)))))))))
              · as_aux_lemma =>
                intro vs W hS hdep K hK
                obtain ⟨z1, z2, z3, z4⟩ := HQ.out
                have f1 := cell_keep hS z1
                have f2 := cell_keep hS z2
                clear z1 z2 z3 z4
                refine ⟨?_⟩
                simp only [Act.put, List.setIfInBounds_toArray, List.set_cons_zero, List.set_cons_succ, Nat.zero_add, Nat.reduceAdd] at hK ⊢
                go_simp
                with_reducible refine hK _ _ (Below.refl _ _) ?_
                exact rfl
              · as_aux_lemma =>
                intro vs W hS hdep K hK
                obtain ⟨z1, z2, z3, z4⟩ := HQ.out
                have f1 := cell_keep hS z3
                have f2 := cell_keep hS z4
                clear z1 z2 z3 z4
                refine ⟨?_⟩
                simp only [Act.put, List.setIfInBounds_toArray, List.set_cons_zero, List.set_cons_succ, Nat.zero_add, Nat.reduceAdd] at hK ⊢
                go_simp
                with_reducible refine hK _ _ (Below.refl _ _) ?_
                exact rfl
              · as_aux_lemma =>
                intro vs W hS hdep K hK
                obtain ⟨z1, z2, z3, z4⟩ := HQ.out
                have f1 := cell_keep hS z3
                have f2 := cell_keep hS z4
                clear z1 z2 z3 z4
                refine ⟨?_⟩
                simp only [Act.put, List.setIfInBounds_toArray, List.set_cons_zero, List.set_cons_succ, Nat.zero_add, Nat.reduceAdd] at hK ⊢
                go_simp
                with_reducible refine hK _ _ (Below.refl _ _) ?_
                exact rfl
              · as_aux_lemma =>
                intro vs W hS hdep K hK
                refine ⟨?_⟩
                simp only [Act.put, List.setIfInBounds_toArray, List.set_cons_zero, List.set_cons_succ, Nat.zero_add, Nat.reduceAdd] at hK ⊢
                go_simp
                with_reducible refine hK _ _ (Below.refl _ _) ?_
                exact rfl
              · as_aux_lemma =>
                intro vs W hS hdep K hK
                refine ⟨?_⟩
                simp only [Act.put, List.setIfInBounds_toArray, List.set_cons_zero, List.set_cons_succ, Nat.zero_add, Nat.reduceAdd] at hK ⊢
                go_simp
                with_reducible refine hK _ _ (Below.refl _ _) ?_
                exact rfl
              · as_aux_lemma =>
                intro vs W hS hdep K hK
                have d0 := hdep ⟨2, .data⟩ (by simp) rfl
                simp only [PhiGd18] at d0
                have d1 := hdep ⟨3, .data⟩ (by simp) rfl
                simp only [PhiGd18] at d1
                have d2 := hdep ⟨4, .data⟩ (by simp) rfl
                simp only [PhiGd18] at d2
                refine ⟨?_⟩
                simp only [Act.put, List.setIfInBounds_toArray, List.set_cons_zero, List.set_cons_succ, Nat.zero_add, Nat.reduceAdd, d0, d1, d2] at hK ⊢
                go_simp
                refine (bent_n y1 by_ how _ (hy1.below hS) (by omega) (by omega) ho3 ho4 ho1 ho2).mono ?_
                rintro e w' ⟨y, rfl, hok, hn1', hn2', hb⟩
                simp only [Ln.val]
                go_wp2_with fail
                with_reducible refine hK _ _ hb ?_
                exact ⟨y, rfl, hok, by omega, by omega⟩
              · as_aux_lemma =>
                intro vs W hS hdep K hK
                refine ⟨?_⟩
                simp only [Act.put, List.setIfInBounds_toArray, List.set_cons_zero, List.set_cons_succ, Nat.zero_add, Nat.reduceAdd] at hK ⊢
                rw [if_pos (by rfl)]
                refine wp_buildW 72 [] (by rfl) #[.slice none 0 0, .slice none 0 0] [] (by rfl) built_rln0 ?_
                simp only [Act.put, List.setIfInBounds_toArray, List.set_cons_zero, List.set_cons_succ]
                with_reducible refine hK _ _ (Below.refl _ _) ?_
                exact rfl
              · as_aux_lemma =>
                intro vs W hS hdep K hK
                have d0 := hdep ⟨0, .data⟩ (by simp) rfl
                simp only [PhiGd18] at d0
                have d1 := hdep ⟨1, .data⟩ (by simp) rfl
                simp only [PhiGd18] at d1
                have d2 := hdep ⟨5, .data⟩ (by simp) rfl
                simp only [PhiGd18] at d2
                refine @exE1 _ _ _ d2 ?_
                clear d2
                intro y2 d2
                have e2 := d2.1
                have ok2 := d2.2.1
                have l2 := d2.2.2.1
                have m2 := d2.2.2.2
                clear d2
                have d3 := hdep ⟨6, .data⟩ (by simp) rfl
                simp only [PhiGd18] at d3
                refine ⟨?_⟩
                simp only [Act.put, List.setIfInBounds_toArray, List.set_cons_zero, List.set_cons_succ, Nat.zero_add, Nat.reduceAdd, d0, d1, e2, d3] at hK ⊢
                rw [if_pos (by rfl)]
                refine wp_sliceN 78 72 4 [(0, .tmp 111), (1, .tmp 112), (2, .tmp 116), (3, .tmp 117)] rfl _ iL _ 2 [(0, .agg #[.slice yb.A1 yb.k1 yb.c1, .slice yb.A2 yb.k2 yb.c2]), (1, .agg #[.slice y1.A1 y1.k1 y1.c1, .slice y1.A2 y1.k2 y1.c2]), (2, .agg #[.slice y2.A1 y2.k1 y2.c1, .slice y2.A2 y2.k2 y2.c2]), (3, .agg #[.slice none 0 0, .slice none 0 0])] Try.underlying78 hiL hzL hzL1 (by omega) (by omega) rfl fill_ln4 ?_
                simp only [Act.put, List.setIfInBounds_toArray, List.set_cons_zero, List.set_cons_succ]
                with_reducible refine hK _ _ (below_alloc _ _) ?_
                have hal := below_alloc W (.cells #[.slice yb.A1 yb.k1 yb.c1, .slice yb.A2 yb.k2 yb.c2, .slice y1.A1 y1.k1 y1.c1, .slice y1.A2 y1.k2 y1.c2, .slice y2.A1 y2.k1 y2.c1, .slice y2.A2 y2.k2 y2.c2, .slice none 0 0, .slice none 0 0] 72)
                have hnb := Blk.new W 72 #[.slice yb.A1 yb.k1 yb.c1, .slice yb.A2 yb.k2 yb.c2, .slice y1.A1 y1.k1 y1.c1, .slice y1.A2 y1.k2 y1.c2, .slice y2.A1 y2.k1 y2.c1, .slice y2.A2 y2.k2 y2.c2, .slice none 0 0, .slice none 0 0]
                refine ⟨_, rfl, ?_⟩
                intro j hj
                rcases j with _ | _ | _ | _ | j
                · exact ⟨yb, by rw [hnb.cell]; rfl, by rw [hnb.cell]; rfl, (hyb.below hS).below hal, by omega, by omega⟩
                · exact ⟨y1, by rw [hnb.cell]; rfl, by rw [hnb.cell]; rfl, (hy1.below hS).below hal, by omega, by omega⟩
                · exact ⟨y2, by rw [hnb.cell]; rfl, by rw [hnb.cell]; rfl, ok2.below hal, l2, m2⟩
                · exact ⟨⟨none, 0, 0, none, 0, 0, [], []⟩, by rw [hnb.cell]; rfl, by rw [hnb.cell]; rfl, Ln.nil_ok _, by show 0 ≤ _; omega, by show 0 ≤ _; omega⟩
                · omega
              · as_aux_lemma =>
                intro vs W hS hdep K hK
                have d0 := hdep ⟨7, .data⟩ (by simp) rfl
                simp only [PhiGd18] at d0
                refine @exE1 _ _ _ d0 ?_
                clear d0
                intro g0 d0
                have e0 := d0.1
                have h0 := d0.2
                clear d0
                refine ⟨?_⟩
                simp only [Act.put, List.setIfInBounds_toArray, List.set_cons_zero, List.set_cons_succ, Nat.zero_add, Nat.reduceAdd, e0] at hK ⊢
                go_simp
                with_reducible refine hK _ _ (Below.refl _ _) ?_
                exact ⟨_, rfl, h0⟩
            · intro vs18 w18 hS hv
              have v8 := hv 8 (by simp)
              simp only [PhiGd18] at v8
              obtain ⟨gl, v8, HLS⟩ := v8
              simp only [Act.put, List.setIfInBounds_toArray, List.set_cons_zero, List.set_cons_succ, Nat.zero_add, Nat.reduceAdd, v8]
              clear v8 hv
              have HD := Lib.hid (HD.out.below hS)
              have hci := cell_keep hS hci
              have hri := hri.below hS
              have hrt := hrt.below hS
              have hrw := hrw.below hS
              have HLS := Lib.hid HLS
              clear hS HQ hyb hy1 hn1 hn2
              obtain ⟨x18, hx18⟩ : ∃ x, x = w18 := ⟨_, rfl⟩
              subst hx18
              obtain ⟨CK, HCK⟩ : ∃ f : List IT → List IT → Int, Hid (f = fun P S => ckE (fitE kp lz kt kw rw_) P S (pasL (lz.map Int.toNat) ps (nk.zip rw_)) (stoL (lz.map Int.toNat) ps (nk.zip rw_))) := ⟨_, rfl⟩
              clear HE
              go_wp2_with fail
              go_loopg [30] 4 (fun j x wx => ∃ n : Nat, x = .int .i64 n ∧ n + j = 4 ∧ Below x18.heap.size x18 wx)
              case atStart => exact ⟨0, rfl, by omega, Below.refl _ _⟩
              case round =>
                obtain ⟨G3, hG3⟩ : ∃ G, G = gk := ⟨gk, rfl⟩
                subst hG3
                obtain ⟨n, rfl, hnj, hbn⟩ := hrel
                by_cases hn : n < 4
                · have t3 : decide ((n : Int) < 4) = true := by simp; omega
                  have ln : (n : Int) < 4 := by omega
                  obtain ⟨y, hc1, hc2, hyo, hyk1, hyk2⟩ := HLS.out n hn
                  have HC := Lib.hid (cell_keep hbn hc1)
                  have HC' := Lib.hid (cell_keep hbn hc2)
                  have hyo := hyo.below hbn
                  have HD := Lib.hid (HD.out.below hbn)
                  have HL := Lib.hid HD.out.bl
                  have HCI := Lib.hid (cell_keep hbn hci)
                  have hri := hri.below hbn
                  have hrt := hrt.below hbn
                  have hrw := hrw.below hbn
                  have HPP := Lib.hid HD.out.hps
                  clear hc1 hc2 hci
                  go_upto_region 22 with fail
                  obtain ⟨xr, hxr⟩ : ∃ x, x = wr := ⟨_, rfl⟩
                  subst hxr
                  refine region_invF (PhiGd22 (.slice Ap kp cp) (.slice (some ⟨g, 0, none⟩) 3 3) (.slice Ai ki ci) (.slice At kt ct) (.slice Aw kw cw) g gl i n y (CK y.P y.S)) (fun w w' => Below w.heap.size w w') (fun W => Below xr.heap.size xr W) (by kernel_rfl) (by kernel_rfl) (by kernel_rfl) PhiGd22.keep (fun _ _ hR hS => Below.tr hS hR) (below_drew _) (fun vs => by simp only [fillR, Act.put, List.setIfInBounds_toArray, List.set_cons_zero, List.set_cons_succ, Nat.zero_add, Nat.reduceAdd]; rfl) ?_ ?_
                  · refine steps_cons ?_ (steps_cons ?_ (steps_cons ?_ (steps_cons ?_ (steps_cons ?_ (steps_cons ?_ (steps_cons ?_ (steps_cons ?_ (steps_cons ?_ (steps_cons ?_ (steps_cons ?_ (steps_cons ?_ (steps_cons ?_ (steps_cons ?_ (steps_cons ?_ (steps_cons ?_ (steps_cons ?_ (steps_cons ?_ (steps_cons ?_ (steps_cons ?_ (steps_cons ?_ (steps_cons ?_ (steps_cons ?_ (steps_cons ?_ (steps_cons ?_ (steps_cons ?_ (steps_nil))))))))))))))))))))))))))
                    · as_aux_lemma =>
                      intro vs W hS hdep K hK
                      refine ⟨?_⟩
                      simp only [Act.put, List.setIfInBounds_toArray, List.set_cons_zero, List.set_cons_succ, Nat.zero_add, Nat.reduceAdd] at hK ⊢
                      go_simp
                      with_reducible refine hK _ _ (Below.refl _ _) ?_
                      exact rfl
                    · as_aux_lemma =>
                      intro vs W hS hdep K hK
                      refine ⟨?_⟩
                      simp only [Act.put, List.setIfInBounds_toArray, List.set_cons_zero, List.set_cons_succ, Nat.zero_add, Nat.reduceAdd] at hK ⊢
                      go_simp
                      with_reducible refine hK _ _ (Below.refl _ _) ?_
                      exact rfl
                    · as_aux_lemma =>
                      intro vs W hS hdep K hK
                      refine ⟨?_⟩
                      simp only [Act.put, List.setIfInBounds_toArray, List.set_cons_zero, List.set_cons_succ, Nat.zero_add, Nat.reduceAdd] at hK ⊢
                      go_simp
                      with_reducible refine hK _ _ (Below.refl _ _) ?_
                      exact rfl
                    · as_aux_lemma =>
                      intro vs W hS hdep K hK
                      have d0 := hdep ⟨1, .data⟩ (by simp) rfl
                      simp only [PhiGd22] at d0
                      have d1 := hdep ⟨2, .data⟩ (by simp) rfl
                      simp only [PhiGd22] at d1
                      refine ⟨?_⟩
                      simp only [Act.put, List.setIfInBounds_toArray, List.set_cons_zero, List.set_cons_succ, Nat.zero_add, Nat.reduceAdd, d0, d1] at hK ⊢
                      go_simp
                      with_reducible refine hK _ _ (Below.refl _ _) ?_
                      exact rfl
                    · as_aux_lemma =>
                      intro vs W hS hdep K hK
                      have d0 := hdep ⟨3, .data⟩ (by simp) rfl
                      simp only [PhiGd22] at d0
                      have f1 := cell_keep hS HCI.out
                      refine ⟨?_⟩
                      simp only [Act.put, List.setIfInBounds_toArray, List.set_cons_zero, List.set_cons_succ, Nat.zero_add, Nat.reduceAdd, d0] at hK ⊢
                      go_simp
                      with_reducible refine hK _ _ (Below.refl _ _) ?_
                      exact rfl
                    · as_aux_lemma =>
                      intro vs W hS hdep K hK
                      refine ⟨?_⟩
                      simp only [Act.put, List.setIfInBounds_toArray, List.set_cons_zero, List.set_cons_succ, Nat.zero_add, Nat.reduceAdd] at hK ⊢
                      go_simp
                      with_reducible refine hK _ _ (Below.refl _ _) ?_
                      exact rfl
                    · as_aux_lemma =>
                      intro vs W hS hdep K hK
                      refine ⟨?_⟩
                      simp only [Act.put, List.setIfInBounds_toArray, List.set_cons_zero, List.set_cons_succ, Nat.zero_add, Nat.reduceAdd] at hK ⊢
                      go_simp
                      with_reducible refine hK _ _ (Below.refl _ _) ?_
                      exact rfl
                    · as_aux_lemma =>
                      intro vs W hS hdep K hK
                      refine ⟨?_⟩
                      simp only [Act.put, List.setIfInBounds_toArray, List.set_cons_zero, List.set_cons_succ, Nat.zero_add, Nat.reduceAdd] at hK ⊢
                      go_simp
                      with_reducible refine hK _ _ (Below.refl _ _) ?_
                      exact rfl
                    · as_aux_lemma =>
                      intro vs W hS hdep K hK
                      refine ⟨?_⟩
                      simp only [Act.put, List.setIfInBounds_toArray, List.set_cons_zero, List.set_cons_succ, Nat.zero_add, Nat.reduceAdd] at hK ⊢
                      go_simp
                      with_reducible refine hK _ _ (Below.refl _ _) ?_
                      exact rfl
                    · as_aux_lemma =>
                      intro vs W hS hdep K hK
                      have d0 := hdep ⟨7, .data⟩ (by simp) rfl
                      simp only [PhiGd22] at d0
                      have d1 := hdep ⟨8, .data⟩ (by simp) rfl
                      simp only [PhiGd22] at d1
                      refine ⟨?_⟩
                      simp only [Act.put, List.setIfInBounds_toArray, List.set_cons_zero, List.set_cons_succ, Nat.zero_add, Nat.reduceAdd, d0, d1] at hK ⊢
                      go_simp
                      with_reducible refine hK _ _ (Below.refl _ _) ?_
                      exact rfl
                    · as_aux_lemma =>
                      intro vs W hS hdep K hK
                      have d0 := hdep ⟨9, .data⟩ (by simp) rfl
                      simp only [PhiGd22] at d0
                      have f1 := cell_keep hS HC.out
                      have f2 := cell_keep hS HC'.out
                      refine ⟨?_⟩
                      simp only [Act.put, List.setIfInBounds_toArray, List.set_cons_zero, List.set_cons_succ, Nat.zero_add, Nat.reduceAdd, d0] at hK ⊢
                      go_simp
                      with_reducible refine hK _ _ (Below.refl _ _) ?_
                      exact rfl
                    · as_aux_lemma =>
                      intro vs W hS hdep K hK
                      have d0 := hdep ⟨10, .data⟩ (by simp) rfl
                      simp only [PhiGd22] at d0
                      refine ⟨?_⟩
                      simp only [Act.put, List.setIfInBounds_toArray, List.set_cons_zero, List.set_cons_succ, Nat.zero_add, Nat.reduceAdd, d0] at hK ⊢
                      go_simp
                      refine (given_n y _ (hyo.below hS) (by omega) (by omega)).mono ?_
                      rintro e w' ⟨z, rfl, hok, hp, hs, -, -, -, -, hb⟩
                      simp only [Ln.val]
                      go_wp2_with fail
                      with_reducible refine hK _ _ hb ?_
                      exact ⟨z, rfl, hok, hp, hs⟩
                    · as_aux_lemma =>
                      intro vs W hS hdep K hK
                      have d0 := hdep ⟨0, .data⟩ (by simp) rfl
                      simp only [PhiGd22] at d0
                      have d1 := hdep ⟨4, .data⟩ (by simp) rfl
                      simp only [PhiGd22] at d1
                      have d2 := hdep ⟨5, .data⟩ (by simp) rfl
                      simp only [PhiGd22] at d2
                      have d3 := hdep ⟨6, .data⟩ (by simp) rfl
                      simp only [PhiGd22] at d3
                      have d4 := hdep ⟨11, .data⟩ (by simp) rfl
                      simp only [PhiGd22] at d4
                      refine @exE1 _ _ _ d4 ?_
                      clear d4
                      intro z4 d4
                      have e4 := d4.1
                      have ok4 := d4.2.1
                      have hp4 := d4.2.2.1
                      have hs4 := d4.2.2.2
                      clear d4
                      refine ⟨?_⟩
                      simp only [Act.put, List.setIfInBounds_toArray, List.set_cons_zero, List.set_cons_succ, Nat.zero_add, Nat.reduceAdd, d0, d1, d2, d3, e4] at hK ⊢
                      go_simp
                      refine (gcheck_n Ap Ai At Aw kp cp ki ci kt ct kw cw lz ps nk rw_ z4 _ (HPP.out.below hS) (hri.below hS) (hrt.below hS) (hrw.below hS) HTW ok4 (by omega) (by omega)).mono ?_
                      rintro e w' ⟨c, rfl, HZ, hb⟩
                      obtain rfl : c = CK y.P y.S := by rw [HCK.out, HZ.out, hp4, hs4]
                      go_wp2_with fail
                      with_reducible refine hK _ _ hb ?_
                      exact rfl
                    · as_aux_lemma =>
                      intro vs W hS hdep K hK
                      refine ⟨?_⟩
                      simp only [Act.put, List.setIfInBounds_toArray, List.set_cons_zero, List.set_cons_succ, Nat.zero_add, Nat.reduceAdd] at hK ⊢
                      go_simp
                      with_reducible refine hK _ _ (Below.refl _ _) ?_
                      exact rfl
                    · as_aux_lemma =>
                      intro vs W hS hdep K hK
                      refine ⟨?_⟩
                      simp only [Act.put, List.setIfInBounds_toArray, List.set_cons_zero, List.set_cons_succ, Nat.zero_add, Nat.reduceAdd] at hK ⊢
                      go_simp
                      with_reducible refine hK _ _ (Below.refl _ _) ?_
                      exact rfl
                    · as_aux_lemma =>
                      intro vs W hS hdep K hK
                      refine ⟨?_⟩
                      simp only [Act.put, List.setIfInBounds_toArray, List.set_cons_zero, List.set_cons_succ, Nat.zero_add, Nat.reduceAdd] at hK ⊢
                      go_simp
                      with_reducible refine hK _ _ (Below.refl _ _) ?_
                      exact rfl
                    · as_aux_lemma =>
                      intro vs W hS hdep K hK
                      have d0 := hdep ⟨14, .data⟩ (by simp) rfl
                      simp only [PhiGd22] at d0
                      have d1 := hdep ⟨15, .data⟩ (by simp) rfl
                      simp only [PhiGd22] at d1
                      refine ⟨?_⟩
                      simp only [Act.put, List.setIfInBounds_toArray, List.set_cons_zero, List.set_cons_succ, Nat.zero_add, Nat.reduceAdd, d0, d1] at hK ⊢
                      go_simp
                      with_reducible refine hK _ _ (Below.refl _ _) ?_
                      exact rfl
                    · as_aux_lemma =>
                      intro vs W hS hdep K hK
                      have d0 := hdep ⟨16, .data⟩ (by simp) rfl
                      simp only [PhiGd22] at d0
                      have f1 := cell_keep hS HCI.out
                      refine ⟨?_⟩
                      simp only [Act.put, List.setIfInBounds_toArray, List.set_cons_zero, List.set_cons_succ, Nat.zero_add, Nat.reduceAdd, d0] at hK ⊢
                      go_simp
                      with_reducible refine hK _ _ (Below.refl _ _) ?_
                      exact rfl
                    · as_aux_lemma =>
                      intro vs W hS hdep K hK
                      refine ⟨?_⟩
                      simp only [Act.put, List.setIfInBounds_toArray, List.set_cons_zero, List.set_cons_succ, Nat.zero_add, Nat.reduceAdd] at hK ⊢
                      go_simp
                      with_reducible refine hK _ _ (Below.refl _ _) ?_
                      exact rfl
                    · as_aux_lemma =>
                      intro vs W hS hdep K hK
                      refine ⟨?_⟩
                      simp only [Act.put, List.setIfInBounds_toArray, List.set_cons_zero, List.set_cons_succ, Nat.zero_add, Nat.reduceAdd] at hK ⊢
                      go_simp
                      with_reducible refine hK _ _ (Below.refl _ _) ?_
                      exact rfl
                    · as_aux_lemma =>
                      intro vs W hS hdep K hK
                      refine ⟨?_⟩
                      simp only [Act.put, List.setIfInBounds_toArray, List.set_cons_zero, List.set_cons_succ, Nat.zero_add, Nat.reduceAdd] at hK ⊢
                      go_simp
                      with_reducible refine hK _ _ (Below.refl _ _) ?_
                      exact rfl
                    · as_aux_lemma =>
                      intro vs W hS hdep K hK
                      refine ⟨?_⟩
                      simp only [Act.put, List.setIfInBounds_toArray, List.set_cons_zero, List.set_cons_succ, Nat.zero_add, Nat.reduceAdd] at hK ⊢
                      go_simp
                      with_reducible refine hK _ _ (Below.refl _ _) ?_
                      exact rfl
                    · as_aux_lemma =>
                      intro vs W hS hdep K hK
                      have d0 := hdep ⟨20, .data⟩ (by simp) rfl
                      simp only [PhiGd22] at d0
                      have d1 := hdep ⟨21, .data⟩ (by simp) rfl
                      simp only [PhiGd22] at d1
                      refine ⟨?_⟩
                      simp only [Act.put, List.setIfInBounds_toArray, List.set_cons_zero, List.set_cons_succ, Nat.zero_add, Nat.reduceAdd, d0, d1] at hK ⊢
                      go_simp
                      with_reducible refine hK _ _ (Below.refl _ _) ?_
                      exact rfl
                    · as_aux_lemma =>
                      intro vs W hS hdep K hK
                      have d0 := hdep ⟨22, .data⟩ (by simp) rfl
                      simp only [PhiGd22] at d0
                      have f1 := cell_keep hS HC.out
                      have f2 := cell_keep hS HC'.out
                      refine ⟨?_⟩
                      simp only [Act.put, List.setIfInBounds_toArray, List.set_cons_zero, List.set_cons_succ, Nat.zero_add, Nat.reduceAdd, d0] at hK ⊢
                      go_simp
                      with_reducible refine hK _ _ (Below.refl _ _) ?_
                      exact rfl
                    · as_aux_lemma =>
                      intro vs W hS hdep K hK
                      have d0 := hdep ⟨13, .data⟩ (by simp) rfl
                      simp only [PhiGd22] at d0
                      have d1 := hdep ⟨17, .data⟩ (by simp) rfl
                      simp only [PhiGd22] at d1
                      have d2 := hdep ⟨18, .data⟩ (by simp) rfl
                      simp only [PhiGd22] at d2
                      have d3 := hdep ⟨19, .data⟩ (by simp) rfl
                      simp only [PhiGd22] at d3
                      have d4 := hdep ⟨23, .data⟩ (by simp) rfl
                      simp only [PhiGd22] at d4
                      refine ⟨?_⟩
                      simp only [Act.put, List.setIfInBounds_toArray, List.set_cons_zero, List.set_cons_succ, Nat.zero_add, Nat.reduceAdd, d0, d1, d2, d3, d4] at hK ⊢
                      go_simp
                      refine (rcheck_n Ap Ai At Aw kp cp ki ci kt ct kw cw lz ps nk rw_ y _ (HPP.out.below hS) (hri.below hS) (hrt.below hS) (hrw.below hS) HTW (hyo.below hS) (by omega) (by omega)).mono ?_
                      rintro e w' ⟨c, rfl, HZ, hb⟩
                      obtain rfl : c = CK y.P y.S := by rw [HCK.out, HZ.out]
                      go_wp2_with fail
                      with_reducible refine hK _ _ hb ?_
                      exact rfl
                    · as_aux_lemma =>
                      intro vs W hS hdep K hK
                      have d0 := hdep ⟨12, .data⟩ (by simp) rfl
                      simp only [PhiGd22] at d0
                      have d1 := hdep ⟨24, .data⟩ (by simp) rfl
                      simp only [PhiGd22] at d1
                      refine ⟨?_⟩
                      simp only [Act.put, List.setIfInBounds_toArray, List.set_cons_zero, List.set_cons_succ, Nat.zero_add, Nat.reduceAdd, d0, d1] at hK ⊢
                      go_simp
                      with_reducible refine hK _ _ (Below.refl _ _) ?_
                      exact rfl
                  · intro vs22 w22 hS hv
                    have v25 := hv 25 (by simp)
                    simp only [PhiGd22] at v25
                    simp only [Act.put, List.setIfInBounds_toArray, List.set_cons_zero, List.set_cons_succ, Nat.zero_add, Nat.reduceAdd, v25]
                    clear v25 hv HC HC' hyo HL HCI hri hrt hrw HPP HD
                    have hbz := Below.tr hbn hS
                    go_wp2_with fail
                    go_roundg (G3 - 1)
                    case measure => omega
                    case rel => exact ⟨n + 1, by go_num, by omega, hbz⟩
                · have t3 : decide ((n : Int) < 4) = false := by simp; omega
                  have ln : ¬ ((n : Int) < 4) := by omega
                  have HDz := Lib.hid (HD.out.below hbn)
                  clear hci hri hrt hrw HLS HD
                  go_wp2_with fail
                  go_roundg (G2 - 1)
                  case measure => omega
                  case rel => exact ⟨k + 1, by go_num, by omega, HDz⟩
        · have t2 : decide ((k : Int) < 3) = false := by simp; omega
          have lk : ¬ ((k : Int) < 3) := by omega
          go_wp2_with fail
          go_roundg (G - 1)
          case measure => omega
          case rel => exact ⟨i + 1, by go_num, by omega, HDk⟩
    · have t1 : decide ((i : Int) < 3) = false := by simp; omega
      have li : ¬ ((i : Int) < 3) := by omega
      have hbz := HD.out.be
      clear HD
      go_wp2_with fail
      refine (lives_n _).mono ?_
      rintro e w8 ⟨rfl, hb8⟩
      go_wp2_with fail
      go_ret
      exact ⟨rfl, Below.tr hbz hb8⟩
end Go.Proofs.Yticobffjnjbjiaa
