/-
  No cell of these rows narrows 'for every input' (looked for: loops, veiled, ifaces, maps, wideKeys, modest, calm, conditions, laid).
  DERIVED. THE GIVEN ROWS OF THIS SEAT. 4 by the template 'for every input the law returns true; each argument reads behind the call as it read before'; 0 by the template 'total and deterministic' (their statements: YtnjjdiilkhdbeaaTotals.lean).
  GIVEN WITH THE SEED: the statements are not yours to turn. If you find one false, say at which input.
  Laid BY PROGRAM, IN A SANDBOX (cutbox-rows.mjs): the forced cells as the released guide's own fill.sh prints them over the translation 9976a41fdf5a2acd… (all of the seat's roots in one cut). By AI agents, Wed Nov 11 2026. No macro, syntax, notation, axiom, sorry.
-/
import Derived.Test.YtnjjdiilkhdbeaaChecked
import GoSem.Claim
import GoSem.ClaimJoined
import GoSem.ClaimMapViews
import Derived.JoinedTies
import Derived.KernelRfl
namespace Go.Proofs.Ytnjjdiilkhdbeaa
/- THE CELL 'sum', in the pinned program and in every row, IS THE sha256 OF THE DUMP (.gsa) THAT YtnjjdiilkhdbeaaProg.lean LOADS. Nothing in Lean hashes anything: it is a label: what it is worth is what the hold of that sum in a sandbox is worth. -/
noncomputable def Try.pinned : Pinned := { name := "ytnjjdiilkhdbeaa", sum := "9976a41fdf5a2acd711f5d02d37e5722b772c727872c563b873c1cde61128568", checked := Try.checked }
namespace Rows
def none {H : Type} : Left H := { results := [], args := [] }

/-- 'culpritlaw17.WagerMoments': WHATEVER THE INPUT: true; the input reads as it did. -/
def wagerMomentsSpec : ChangeSpec := { name := "wagerMoments", fn := fun _ => fun
  | [d1, d2, d3, d4, d5] => { results := [.lit (.bool true)], args := [d1, d2, d3, d4, d5] }
  | _ => none }
def wagerMomentsRow : OpenClaim := { program := "ytnjjdiilkhdbeaa", sum := "9976a41fdf5a2acd711f5d02d37e5722b772c727872c563b873c1cde61128568", func := "culprit/culpritlaw17.WagerMoments", spec := "wagerMoments", unfollowed := true, recurses := true, named := ["math/bits.overflowError"], apart := false }
def WagerMomentsSaid : Prop := wagerMomentsRow.holds Try.pinned (OpenSpec.ofChange wagerMomentsSpec)

/-- ITS FALSE NEIGHBOUR: 'it returns false'. Refute it at one input. -/
def wagerMomentsWrong : ChangeSpec := { name := "wagerMoments", fn := fun _ => fun
  | [d1, d2, d3, d4, d5] => { results := [.lit (.bool false)], args := [d1, d2, d3, d4, d5] }
  | _ => none }
def WagerMomentsWrongFalsely : Prop := wagerMomentsRow.holds Try.pinned (OpenSpec.ofChange wagerMomentsWrong)

/-- 'culpritlaw17.WagerFair': WHATEVER THE INPUT: true; the input reads as it did. -/
def wagerFairSpec : ChangeSpec := { name := "wagerFair", fn := fun _ => fun
  | [d1, d2, d3, d4] => { results := [.lit (.bool true)], args := [d1, d2, d3, d4] }
  | _ => none }
def wagerFairRow : OpenClaim := { program := "ytnjjdiilkhdbeaa", sum := "9976a41fdf5a2acd711f5d02d37e5722b772c727872c563b873c1cde61128568", func := "culprit/culpritlaw17.WagerFair", spec := "wagerFair", unfollowed := true, recurses := true, named := ["math/bits.overflowError"], apart := false }
def WagerFairSaid : Prop := wagerFairRow.holds Try.pinned (OpenSpec.ofChange wagerFairSpec)

/-- ITS FALSE NEIGHBOUR: 'it returns false'. Refute it at one input. -/
def wagerFairWrong : ChangeSpec := { name := "wagerFair", fn := fun _ => fun
  | [d1, d2, d3, d4] => { results := [.lit (.bool false)], args := [d1, d2, d3, d4] }
  | _ => none }
def WagerFairWrongFalsely : Prop := wagerFairRow.holds Try.pinned (OpenSpec.ofChange wagerFairWrong)

/-- 'culpritlaw17.WagerCut': WHATEVER THE INPUT: true; the input reads as it did. -/
def wagerCutSpec : ChangeSpec := { name := "wagerCut", fn := fun _ => fun
  | [d1, d2, d3] => { results := [.lit (.bool true)], args := [d1, d2, d3] }
  | _ => none }
def wagerCutRow : OpenClaim := { program := "ytnjjdiilkhdbeaa", sum := "9976a41fdf5a2acd711f5d02d37e5722b772c727872c563b873c1cde61128568", func := "culprit/culpritlaw17.WagerCut", spec := "wagerCut", unfollowed := true, recurses := true, named := ["math/bits.overflowError"], apart := false }
def WagerCutSaid : Prop := wagerCutRow.holds Try.pinned (OpenSpec.ofChange wagerCutSpec)

/-- ITS FALSE NEIGHBOUR: 'it returns false'. Refute it at one input. -/
def wagerCutWrong : ChangeSpec := { name := "wagerCut", fn := fun _ => fun
  | [d1, d2, d3] => { results := [.lit (.bool false)], args := [d1, d2, d3] }
  | _ => none }
def WagerCutWrongFalsely : Prop := wagerCutRow.holds Try.pinned (OpenSpec.ofChange wagerCutWrong)

/-- 'culpritlaw17.WagerEven': WHATEVER THE INPUT: true; the input reads as it did. -/
def wagerEvenSpec : ChangeSpec := { name := "wagerEven", fn := fun _ => fun
  | [d1, d2, d3, d4, d5] => { results := [.lit (.bool true)], args := [d1, d2, d3, d4, d5] }
  | _ => none }
def wagerEvenRow : OpenClaim := { program := "ytnjjdiilkhdbeaa", sum := "9976a41fdf5a2acd711f5d02d37e5722b772c727872c563b873c1cde61128568", func := "culprit/culpritlaw17.WagerEven", spec := "wagerEven", unfollowed := true, recurses := true, named := ["math/bits.overflowError"], apart := false }
def WagerEvenSaid : Prop := wagerEvenRow.holds Try.pinned (OpenSpec.ofChange wagerEvenSpec)

/-- ITS FALSE NEIGHBOUR: 'it returns false'. Refute it at one input. -/
def wagerEvenWrong : ChangeSpec := { name := "wagerEven", fn := fun _ => fun
  | [d1, d2, d3, d4, d5] => { results := [.lit (.bool false)], args := [d1, d2, d3, d4, d5] }
  | _ => none }
def WagerEvenWrongFalsely : Prop := wagerEvenRow.holds Try.pinned (OpenSpec.ofChange wagerEvenWrong)

/- THE SECOND FORM. 'bulk': how many values and letters a reading holds, each counted each time it is reached (what is shared counts as often as it is met; a slice's spare places count too). A statement '..UptoSaid' is the law's where the arguments, and the package variables that the reading takes, are together of bulk at most 1048576: NARROWER than '..Said'. Prove '..Said' where nothing that the law and all that it calls make is longer than what came in: it says more and counts as full. Else prove '..UptoSaid'. A law counts once. -/
mutual
def uptoBulk {H : Type} : DataW H → Nat
  | .lit (.string bytes) => bytes.length + 1
  | .lit _ => 1
  | .nil => 1
  | .ptr d => uptoBulk d + 1
  | .slice elems spare => uptoBulkAll elems + uptoBulkAll spare + 1
  | .agg parts => uptoBulkAll parts + 1
  | .iface _ d => uptoBulk d + 1
  | .map entries => uptoBulkEntries entries + 1
  | .held _ => 1
def uptoBulkAll {H : Type} : List (DataW H) → Nat
  | [] => 0
  | d :: r => uptoBulk d + uptoBulkAll r
def uptoBulkEntries {H : Type} : List (Lit × DataW H) → Nat
  | [] => 0
  | x :: r => uptoBulkEntry x + uptoBulkEntries r
def uptoBulkEntry {H : Type} : Lit × DataW H → Nat
  | (.string bytes, d) => bytes.length + uptoBulk d + 1
  | (_, d) => uptoBulk d + 1
 end
def uptoSmall : (H : Type) → List (DataW H) → Bool := fun _ ds => decide (uptoBulkAll ds ≤ 1048576)
def OpenSpec.upto (s : _root_.Go.ChangeSpec) : _root_.Go.OpenSpec := { _root_.Go.OpenSpec.ofChange s with cond := some uptoSmall }

/-- 'culpritlaw17.WagerMoments', WHERE WHAT IT READS IS OF BULK AT MOST 1048576: true; the input reads as it did. -/
def wagerMomentsUptoRow : OpenClaim := { program := "ytnjjdiilkhdbeaa", sum := "9976a41fdf5a2acd711f5d02d37e5722b772c727872c563b873c1cde61128568", func := "culprit/culpritlaw17.WagerMoments", spec := "wagerMoments", unfollowed := true, recurses := true, named := ["math/bits.overflowError"], apart := false, narrowed := true }
def WagerMomentsUptoSaid : Prop := wagerMomentsUptoRow.holds Try.pinned (OpenSpec.upto wagerMomentsSpec)

/-- 'culpritlaw17.WagerFair', WHERE WHAT IT READS IS OF BULK AT MOST 1048576: true; the input reads as it did. -/
def wagerFairUptoRow : OpenClaim := { program := "ytnjjdiilkhdbeaa", sum := "9976a41fdf5a2acd711f5d02d37e5722b772c727872c563b873c1cde61128568", func := "culprit/culpritlaw17.WagerFair", spec := "wagerFair", unfollowed := true, recurses := true, named := ["math/bits.overflowError"], apart := false, narrowed := true }
def WagerFairUptoSaid : Prop := wagerFairUptoRow.holds Try.pinned (OpenSpec.upto wagerFairSpec)

/-- 'culpritlaw17.WagerCut', WHERE WHAT IT READS IS OF BULK AT MOST 1048576: true; the input reads as it did. -/
def wagerCutUptoRow : OpenClaim := { program := "ytnjjdiilkhdbeaa", sum := "9976a41fdf5a2acd711f5d02d37e5722b772c727872c563b873c1cde61128568", func := "culprit/culpritlaw17.WagerCut", spec := "wagerCut", unfollowed := true, recurses := true, named := ["math/bits.overflowError"], apart := false, narrowed := true }
def WagerCutUptoSaid : Prop := wagerCutUptoRow.holds Try.pinned (OpenSpec.upto wagerCutSpec)

/-- 'culpritlaw17.WagerEven', WHERE WHAT IT READS IS OF BULK AT MOST 1048576: true; the input reads as it did. -/
def wagerEvenUptoRow : OpenClaim := { program := "ytnjjdiilkhdbeaa", sum := "9976a41fdf5a2acd711f5d02d37e5722b772c727872c563b873c1cde61128568", func := "culprit/culpritlaw17.WagerEven", spec := "wagerEven", unfollowed := true, recurses := true, named := ["math/bits.overflowError"], apart := false, narrowed := true }
def WagerEvenUptoSaid : Prop := wagerEvenUptoRow.holds Try.pinned (OpenSpec.upto wagerEvenSpec)

end Rows
end Go.Proofs.Ytnjjdiilkhdbeaa
