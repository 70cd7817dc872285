import Derived.Test.YtmbfjmilhfmnkaaGreatDoorKRdsProof29
import Derived.Test.YtmbfjmilhfmnkaaGreatDoorS0
set_option linter.unusedVariables false
set_option linter.unusedSimpArgs false
namespace Go.Proofs.YtmbfjmilhfmnkaaGreatDoor
open Go Go.RowKit
end Go.Proofs.YtmbfjmilhfmnkaaGreatDoor
namespace Go.Proofs.YtmbfjmilhfmnkaaGreatDoor
open Go Go.RowKit
noncomputable def worstV (bd a g : LP) : LP := if atB g (mixV bd a g) then mixV bd a g else g
end Go.Proofs.YtmbfjmilhfmnkaaGreatDoor
namespace Go.Proofs.YtmbfjmilhfmnkaaGreatDoor
open Go Go.RowKit
theorem Blk.newG {w : World} {T : TypeId} {arr : Array Value} {g : Nat} (h : g = w.heap.size) : Blk (w.alloc (.cells arr T)) g T arr := h ▸ Blk.new w T arr
theorem Blk.setFar {w : World} {T : TypeId} {arr : Array Value} {g g' i : Nat} (h : Blk w g T arr) (hne : g ≠ g') (v : Value) : Blk (w.setCell ⟨g', i, none⟩ v) g T arr := (Below.heap_setCell _ ⟨g', i, none⟩ _ g hne).trans h
def SMo (B gR : Nat) (w0 wr : World) (y : LP) : List Value → (Nat → Value) → World → Prop
 | [], _, W => Below wr.heap.size wr W
 | [_], _, W => GoodX W gR y ∧ Below B w0 W
 | _, _, _ => True
end Go.Proofs.YtmbfjmilhfmnkaaGreatDoor
namespace Go.Proofs.YtmbfjmilhfmnkaaGreatDoor
open Go Go.RowKit
noncomputable def reachE (b : LP) (rows : List (List LP)) (q : LP) (n : Int) (level : LP) : Int := if planE b rows ≠ 0 then planE b rows else if partB q = false then 1 else boundE n level
noncomputable def reachX (b : LP) (rows : List (List LP)) (q : LP) (n : Int) (level : LP) : LP := if reachE b rows q n level ≠ 0 then nilP else reachV (mixV q) b rows level n.toNat 0 0 oneP
noncomputable def worstE (b : LP) (rows : List (List LP)) (n : Int) (level : LP) : Int := if planE b rows ≠ 0 then planE b rows else boundE n level
noncomputable def worstX (b : LP) (rows : List (List LP)) (n : Int) (level : LP) : LP := if worstE b rows n level ≠ 0 then nilP else reachV (worstV b) b rows level n.toNat 0 0 oneP
theorem boundE_zero {n : Int} {x : LP} (h : boundE n x = 0) : 0 ≤ n ∧ n ≤ 10 ∧ validP x = 0 := by
 unfold boundE at h
 split at h
 ·contradiction
 ·split at h
  ·cases h
  ·rename_i h1 h2
   exact ⟨by omega, by omega, by simpa using h1⟩
end Go.Proofs.YtmbfjmilhfmnkaaGreatDoor
namespace Go.Proofs.YtmbfjmilhfmnkaaGreatDoor
open Go Go.RowKit
theorem same_self (l1 l2 : List Nat) : sameR l1 l2 l1 l2 = true := by unfold sameR sameB; simp
def PhiSm (bQ9 oA bB oB k cA cB i : Nat) (a1 a2 b1 b2 : Value) (j : Nat) (w : World) (x : Value) : Prop :=
 match j with
 | 0 => x = .slice (some ⟨bQ9, oA, none⟩) k cA
 | 1 => x = .int .i64 (i : Nat)
 | 2 => x = .pointer (some ⟨bQ9, oA + i * 2, none⟩)
 | 3 => x = .agg #[a1, a2]
 | 4 => x = .slice (some ⟨bB, oB, none⟩) k cB
 | 5 => x = .int .i64 (i : Nat)
 | 6 => x = .pointer (some ⟨bB, oB + i * 2, none⟩)
 | 7 => x = .agg #[b1, b2]
 | 8 => x = .bool true
 | 9 => x = .bool false
 | _ => True
theorem PhiSm.keep {bQ9 oA bB oB k cA cB i : Nat} {a1 a2 b1 b2 : Value} : ∀ (w w' : World), Below w.heap.size w w' → ∀ j x, PhiSm bQ9 oA bB oB k cA cB i a1 a2 b1 b2 j w x → PhiSm bQ9 oA bB oB k cA cB i a1 a2 b1 b2 j w' x := by
 intro w w' hb j x h; unfold PhiSm at h ⊢
 split <;> simp only at h ⊢
 all_goals exact h
end Go.Proofs.YtmbfjmilhfmnkaaGreatDoor
