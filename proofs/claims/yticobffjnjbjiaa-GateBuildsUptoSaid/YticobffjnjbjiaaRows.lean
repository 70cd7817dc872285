/-
  No cell of these rows narrows 'for every input' (looked for: loops, veiled, ifaces, maps, wideKeys, modest, calm, conditions, laid).
  DERIVED. THE GIVEN ROWS OF THIS SEAT. 8 by the template 'for every input the law returns true; each argument reads behind the call as it read before'; 0 by the template 'total and deterministic' (their statements: YticobffjnjbjiaaTotals.lean).
  GIVEN WITH THE SEED: the statements are not yours to turn. If you find one false, say at which input.
  Laid BY PROGRAM, IN A SANDBOX (cutbox-rows.mjs): the forced cells as the released guide's own fill.sh prints them over the translation 89deaa885a4007db… (all of the seat's roots in one cut). By AI agents, Wed Nov 11 2026. No macro, syntax, notation, axiom, sorry.
-/
import Derived.Test.YticobffjnjbjiaaChecked
import GoSem.Claim
import GoSem.ClaimJoined
import GoSem.ClaimMapViews
import Derived.JoinedTies
import Derived.KernelRfl
namespace Go.Proofs.Yticobffjnjbjiaa
/- THE CELL 'sum', in the pinned program and in every row, IS THE sha256 OF THE DUMP (.gsa) THAT YticobffjnjbjiaaProg.lean LOADS. Nothing in Lean hashes anything: it is a label: what it is worth is what the hold of that sum in a sandbox is worth. -/
noncomputable def Try.pinned : Pinned := { name := "yticobffjnjbjiaa", sum := "89deaa885a4007db12c061554b3afef3b1e491966ea7c69e0f274a0d1072a5c1", checked := Try.checked }
namespace Rows
def none {H : Type} : Left H := { results := [], args := [] }

/-- 'culpritlaw35.GateRetries': WHATEVER THE INPUT: true; the input reads as it did. -/
def gateRetriesSpec : ChangeSpec := { name := "gateRetries", fn := fun _ => fun
  | [d1, d2, d3, d4, d5, d6, d7] => { results := [.lit (.bool true)], args := [d1, d2, d3, d4, d5, d6, d7] }
  | _ => none }
def gateRetriesRow : OpenClaim := { program := "yticobffjnjbjiaa", sum := "89deaa885a4007db12c061554b3afef3b1e491966ea7c69e0f274a0d1072a5c1", func := "culprit/culpritlaw35.GateRetries", spec := "gateRetries", unfollowed := true, recurses := true, named := ["math/bits.overflowError"], apart := false }
def GateRetriesSaid : Prop := gateRetriesRow.holds Try.pinned (OpenSpec.ofChange gateRetriesSpec)

/-- ITS FALSE NEIGHBOUR: 'it returns false'. Refute it at one input. -/
def gateRetriesWrong : ChangeSpec := { name := "gateRetries", fn := fun _ => fun
  | [d1, d2, d3, d4, d5, d6, d7] => { results := [.lit (.bool false)], args := [d1, d2, d3, d4, d5, d6, d7] }
  | _ => none }
def GateRetriesWrongFalsely : Prop := gateRetriesRow.holds Try.pinned (OpenSpec.ofChange gateRetriesWrong)

/-- 'culpritlaw35.GateBuilds': WHATEVER THE INPUT: true; the input reads as it did. -/
def gateBuildsSpec : ChangeSpec := { name := "gateBuilds", fn := fun _ => fun
  | [d1, d2, d3, d4, d5, d6, d7] => { results := [.lit (.bool true)], args := [d1, d2, d3, d4, d5, d6, d7] }
  | _ => none }
def gateBuildsRow : OpenClaim := { program := "yticobffjnjbjiaa", sum := "89deaa885a4007db12c061554b3afef3b1e491966ea7c69e0f274a0d1072a5c1", func := "culprit/culpritlaw35.GateBuilds", spec := "gateBuilds", unfollowed := true, recurses := true, named := ["math/bits.overflowError"], apart := false }
def GateBuildsSaid : Prop := gateBuildsRow.holds Try.pinned (OpenSpec.ofChange gateBuildsSpec)

/-- ITS FALSE NEIGHBOUR: 'it returns false'. Refute it at one input. -/
def gateBuildsWrong : ChangeSpec := { name := "gateBuilds", fn := fun _ => fun
  | [d1, d2, d3, d4, d5, d6, d7] => { results := [.lit (.bool false)], args := [d1, d2, d3, d4, d5, d6, d7] }
  | _ => none }
def GateBuildsWrongFalsely : Prop := gateBuildsRow.holds Try.pinned (OpenSpec.ofChange gateBuildsWrong)

/-- 'culpritlaw35.GateFewer': WHATEVER THE INPUT: true; the input reads as it did. -/
def gateFewerSpec : ChangeSpec := { name := "gateFewer", fn := fun _ => fun
  | [d1, d2, d3, d4] => { results := [.lit (.bool true)], args := [d1, d2, d3, d4] }
  | _ => none }
def gateFewerRow : OpenClaim := { program := "yticobffjnjbjiaa", sum := "89deaa885a4007db12c061554b3afef3b1e491966ea7c69e0f274a0d1072a5c1", func := "culprit/culpritlaw35.GateFewer", spec := "gateFewer", unfollowed := true, recurses := true, named := ["math/bits.overflowError"], apart := false }
def GateFewerSaid : Prop := gateFewerRow.holds Try.pinned (OpenSpec.ofChange gateFewerSpec)

/-- ITS FALSE NEIGHBOUR: 'it returns false'. Refute it at one input. -/
def gateFewerWrong : ChangeSpec := { name := "gateFewer", fn := fun _ => fun
  | [d1, d2, d3, d4] => { results := [.lit (.bool false)], args := [d1, d2, d3, d4] }
  | _ => none }
def GateFewerWrongFalsely : Prop := gateFewerRow.holds Try.pinned (OpenSpec.ofChange gateFewerWrong)

/-- 'culpritlaw35.GateDecides': WHATEVER THE INPUT: true; the input reads as it did. -/
def gateDecidesSpec : ChangeSpec := { name := "gateDecides", fn := fun _ => fun
  | [d1, d2, d3, d4, d5, d6, d7] => { results := [.lit (.bool true)], args := [d1, d2, d3, d4, d5, d6, d7] }
  | _ => none }
def gateDecidesRow : OpenClaim := { program := "yticobffjnjbjiaa", sum := "89deaa885a4007db12c061554b3afef3b1e491966ea7c69e0f274a0d1072a5c1", func := "culprit/culpritlaw35.GateDecides", spec := "gateDecides", unfollowed := true, recurses := true, named := ["math/bits.overflowError"], apart := false }
def GateDecidesSaid : Prop := gateDecidesRow.holds Try.pinned (OpenSpec.ofChange gateDecidesSpec)

/-- ITS FALSE NEIGHBOUR: 'it returns false'. Refute it at one input. -/
def gateDecidesWrong : ChangeSpec := { name := "gateDecides", fn := fun _ => fun
  | [d1, d2, d3, d4, d5, d6, d7] => { results := [.lit (.bool false)], args := [d1, d2, d3, d4, d5, d6, d7] }
  | _ => none }
def GateDecidesWrongFalsely : Prop := gateDecidesRow.holds Try.pinned (OpenSpec.ofChange gateDecidesWrong)

/-- 'culpritlaw35.GateTries': WHATEVER THE INPUT: true; the input reads as it did. -/
def gateTriesSpec : ChangeSpec := { name := "gateTries", fn := fun _ => fun
  | [d1, d2, d3, d4, d5] => { results := [.lit (.bool true)], args := [d1, d2, d3, d4, d5] }
  | _ => none }
def gateTriesRow : OpenClaim := { program := "yticobffjnjbjiaa", sum := "89deaa885a4007db12c061554b3afef3b1e491966ea7c69e0f274a0d1072a5c1", func := "culprit/culpritlaw35.GateTries", spec := "gateTries", unfollowed := true, recurses := true, named := ["math/bits.overflowError"], apart := false }
def GateTriesSaid : Prop := gateTriesRow.holds Try.pinned (OpenSpec.ofChange gateTriesSpec)

/-- ITS FALSE NEIGHBOUR: 'it returns false'. Refute it at one input. -/
def gateTriesWrong : ChangeSpec := { name := "gateTries", fn := fun _ => fun
  | [d1, d2, d3, d4, d5] => { results := [.lit (.bool false)], args := [d1, d2, d3, d4, d5] }
  | _ => none }
def GateTriesWrongFalsely : Prop := gateTriesRow.holds Try.pinned (OpenSpec.ofChange gateTriesWrong)

/-- 'culpritlaw35.GatePowers': WHATEVER THE INPUT: true; the input reads as it did. -/
def gatePowersSpec : ChangeSpec := { name := "gatePowers", fn := fun _ => fun
  | [d1, d2, d3, d4, d5] => { results := [.lit (.bool true)], args := [d1, d2, d3, d4, d5] }
  | _ => none }
def gatePowersRow : OpenClaim := { program := "yticobffjnjbjiaa", sum := "89deaa885a4007db12c061554b3afef3b1e491966ea7c69e0f274a0d1072a5c1", func := "culprit/culpritlaw35.GatePowers", spec := "gatePowers", unfollowed := true, recurses := true, named := ["math/bits.overflowError"], apart := false }
def GatePowersSaid : Prop := gatePowersRow.holds Try.pinned (OpenSpec.ofChange gatePowersSpec)

/-- ITS FALSE NEIGHBOUR: 'it returns false'. Refute it at one input. -/
def gatePowersWrong : ChangeSpec := { name := "gatePowers", fn := fun _ => fun
  | [d1, d2, d3, d4, d5] => { results := [.lit (.bool false)], args := [d1, d2, d3, d4, d5] }
  | _ => none }
def GatePowersWrongFalsely : Prop := gatePowersRow.holds Try.pinned (OpenSpec.ofChange gatePowersWrong)

/-- 'culpritlaw35.GateDebts': WHATEVER THE INPUT: true; the input reads as it did. -/
def gateDebtsSpec : ChangeSpec := { name := "gateDebts", fn := fun _ => fun
  | [d1, d2, d3, d4, d5, d6, d7, d8] => { results := [.lit (.bool true)], args := [d1, d2, d3, d4, d5, d6, d7, d8] }
  | _ => none }
def gateDebtsRow : OpenClaim := { program := "yticobffjnjbjiaa", sum := "89deaa885a4007db12c061554b3afef3b1e491966ea7c69e0f274a0d1072a5c1", func := "culprit/culpritlaw35.GateDebts", spec := "gateDebts", unfollowed := true, recurses := true, named := ["math/bits.overflowError"], apart := false }
def GateDebtsSaid : Prop := gateDebtsRow.holds Try.pinned (OpenSpec.ofChange gateDebtsSpec)

/-- ITS FALSE NEIGHBOUR: 'it returns false'. Refute it at one input. -/
def gateDebtsWrong : ChangeSpec := { name := "gateDebts", fn := fun _ => fun
  | [d1, d2, d3, d4, d5, d6, d7, d8] => { results := [.lit (.bool false)], args := [d1, d2, d3, d4, d5, d6, d7, d8] }
  | _ => none }
def GateDebtsWrongFalsely : Prop := gateDebtsRow.holds Try.pinned (OpenSpec.ofChange gateDebtsWrong)

/-- 'culpritlaw35.GateCovers': WHATEVER THE INPUT: true; the input reads as it did. -/
def gateCoversSpec : ChangeSpec := { name := "gateCovers", fn := fun _ => fun
  | [d1, d2, d3, d4, d5] => { results := [.lit (.bool true)], args := [d1, d2, d3, d4, d5] }
  | _ => none }
def gateCoversRow : OpenClaim := { program := "yticobffjnjbjiaa", sum := "89deaa885a4007db12c061554b3afef3b1e491966ea7c69e0f274a0d1072a5c1", func := "culprit/culpritlaw35.GateCovers", spec := "gateCovers", unfollowed := true, recurses := true, named := ["math/bits.overflowError"], apart := false }
def GateCoversSaid : Prop := gateCoversRow.holds Try.pinned (OpenSpec.ofChange gateCoversSpec)

/-- ITS FALSE NEIGHBOUR: 'it returns false'. Refute it at one input. -/
def gateCoversWrong : ChangeSpec := { name := "gateCovers", fn := fun _ => fun
  | [d1, d2, d3, d4, d5] => { results := [.lit (.bool false)], args := [d1, d2, d3, d4, d5] }
  | _ => none }
def GateCoversWrongFalsely : Prop := gateCoversRow.holds Try.pinned (OpenSpec.ofChange gateCoversWrong)

/- THE SECOND FORM. 'bulk': how many values and letters a reading holds, each counted each time it is reached (what is shared counts as often as it is met; a slice's spare places count too). A statement '..UptoSaid' is the law's where the arguments, and the package variables that the reading takes, are together of bulk at most 1048576: NARROWER than '..Said'. Prove '..Said' where nothing that the law and all that it calls make is longer than what came in: it says more and counts as full. Else prove '..UptoSaid'. A law counts once. -/
mutual
def uptoBulk {H : Type} : DataW H → Nat
  | .lit (.string bytes) => bytes.length + 1
  | .lit _ => 1
  | .nil => 1
  | .ptr d => uptoBulk d + 1
  | .slice elems spare => uptoBulkAll elems + uptoBulkAll spare + 1
  | .agg parts => uptoBulkAll parts + 1
  | .iface _ d => uptoBulk d + 1
  | .map entries => uptoBulkEntries entries + 1
  | .held _ => 1
def uptoBulkAll {H : Type} : List (DataW H) → Nat
  | [] => 0
  | d :: r => uptoBulk d + uptoBulkAll r
def uptoBulkEntries {H : Type} : List (Lit × DataW H) → Nat
  | [] => 0
  | x :: r => uptoBulkEntry x + uptoBulkEntries r
def uptoBulkEntry {H : Type} : Lit × DataW H → Nat
  | (.string bytes, d) => bytes.length + uptoBulk d + 1
  | (_, d) => uptoBulk d + 1
 end
def uptoSmall : (H : Type) → List (DataW H) → Bool := fun _ ds => decide (uptoBulkAll ds ≤ 1048576)
def OpenSpec.upto (s : _root_.Go.ChangeSpec) : _root_.Go.OpenSpec := { _root_.Go.OpenSpec.ofChange s with cond := some uptoSmall }

/-- 'culpritlaw35.GateRetries', WHERE WHAT IT READS IS OF BULK AT MOST 1048576: true; the input reads as it did. -/
def gateRetriesUptoRow : OpenClaim := { program := "yticobffjnjbjiaa", sum := "89deaa885a4007db12c061554b3afef3b1e491966ea7c69e0f274a0d1072a5c1", func := "culprit/culpritlaw35.GateRetries", spec := "gateRetries", unfollowed := true, recurses := true, named := ["math/bits.overflowError"], apart := false, narrowed := true }
def GateRetriesUptoSaid : Prop := gateRetriesUptoRow.holds Try.pinned (OpenSpec.upto gateRetriesSpec)

/-- 'culpritlaw35.GateBuilds', WHERE WHAT IT READS IS OF BULK AT MOST 1048576: true; the input reads as it did. -/
def gateBuildsUptoRow : OpenClaim := { program := "yticobffjnjbjiaa", sum := "89deaa885a4007db12c061554b3afef3b1e491966ea7c69e0f274a0d1072a5c1", func := "culprit/culpritlaw35.GateBuilds", spec := "gateBuilds", unfollowed := true, recurses := true, named := ["math/bits.overflowError"], apart := false, narrowed := true }
def GateBuildsUptoSaid : Prop := gateBuildsUptoRow.holds Try.pinned (OpenSpec.upto gateBuildsSpec)

/-- 'culpritlaw35.GateFewer', WHERE WHAT IT READS IS OF BULK AT MOST 1048576: true; the input reads as it did. -/
def gateFewerUptoRow : OpenClaim := { program := "yticobffjnjbjiaa", sum := "89deaa885a4007db12c061554b3afef3b1e491966ea7c69e0f274a0d1072a5c1", func := "culprit/culpritlaw35.GateFewer", spec := "gateFewer", unfollowed := true, recurses := true, named := ["math/bits.overflowError"], apart := false, narrowed := true }
def GateFewerUptoSaid : Prop := gateFewerUptoRow.holds Try.pinned (OpenSpec.upto gateFewerSpec)

/-- 'culpritlaw35.GateDecides', WHERE WHAT IT READS IS OF BULK AT MOST 1048576: true; the input reads as it did. -/
def gateDecidesUptoRow : OpenClaim := { program := "yticobffjnjbjiaa", sum := "89deaa885a4007db12c061554b3afef3b1e491966ea7c69e0f274a0d1072a5c1", func := "culprit/culpritlaw35.GateDecides", spec := "gateDecides", unfollowed := true, recurses := true, named := ["math/bits.overflowError"], apart := false, narrowed := true }
def GateDecidesUptoSaid : Prop := gateDecidesUptoRow.holds Try.pinned (OpenSpec.upto gateDecidesSpec)

/-- 'culpritlaw35.GateTries', WHERE WHAT IT READS IS OF BULK AT MOST 1048576: true; the input reads as it did. -/
def gateTriesUptoRow : OpenClaim := { program := "yticobffjnjbjiaa", sum := "89deaa885a4007db12c061554b3afef3b1e491966ea7c69e0f274a0d1072a5c1", func := "culprit/culpritlaw35.GateTries", spec := "gateTries", unfollowed := true, recurses := true, named := ["math/bits.overflowError"], apart := false, narrowed := true }
def GateTriesUptoSaid : Prop := gateTriesUptoRow.holds Try.pinned (OpenSpec.upto gateTriesSpec)

/-- 'culpritlaw35.GatePowers', WHERE WHAT IT READS IS OF BULK AT MOST 1048576: true; the input reads as it did. -/
def gatePowersUptoRow : OpenClaim := { program := "yticobffjnjbjiaa", sum := "89deaa885a4007db12c061554b3afef3b1e491966ea7c69e0f274a0d1072a5c1", func := "culprit/culpritlaw35.GatePowers", spec := "gatePowers", unfollowed := true, recurses := true, named := ["math/bits.overflowError"], apart := false, narrowed := true }
def GatePowersUptoSaid : Prop := gatePowersUptoRow.holds Try.pinned (OpenSpec.upto gatePowersSpec)

/-- 'culpritlaw35.GateDebts', WHERE WHAT IT READS IS OF BULK AT MOST 1048576: true; the input reads as it did. -/
def gateDebtsUptoRow : OpenClaim := { program := "yticobffjnjbjiaa", sum := "89deaa885a4007db12c061554b3afef3b1e491966ea7c69e0f274a0d1072a5c1", func := "culprit/culpritlaw35.GateDebts", spec := "gateDebts", unfollowed := true, recurses := true, named := ["math/bits.overflowError"], apart := false, narrowed := true }
def GateDebtsUptoSaid : Prop := gateDebtsUptoRow.holds Try.pinned (OpenSpec.upto gateDebtsSpec)

/-- 'culpritlaw35.GateCovers', WHERE WHAT IT READS IS OF BULK AT MOST 1048576: true; the input reads as it did. -/
def gateCoversUptoRow : OpenClaim := { program := "yticobffjnjbjiaa", sum := "89deaa885a4007db12c061554b3afef3b1e491966ea7c69e0f274a0d1072a5c1", func := "culprit/culpritlaw35.GateCovers", spec := "gateCovers", unfollowed := true, recurses := true, named := ["math/bits.overflowError"], apart := false, narrowed := true }
def GateCoversUptoSaid : Prop := gateCoversUptoRow.holds Try.pinned (OpenSpec.upto gateCoversSpec)

end Rows
end Go.Proofs.Yticobffjnjbjiaa
