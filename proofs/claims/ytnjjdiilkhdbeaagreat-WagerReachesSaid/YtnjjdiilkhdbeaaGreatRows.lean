/-
  No cell of these rows narrows 'for every input' (looked for: loops, veiled, ifaces, maps, wideKeys, modest, calm, conditions, laid).
  DERIVED. THE GIVEN ROWS OF THIS SEAT. 3 by the template 'for every input the law returns true; each argument reads behind the call as it read before'; 0 by the template 'total and deterministic' (their statements: YtnjjdiilkhdbeaaGreatTotals.lean).
  GIVEN WITH THE SEED: the statements are not yours to turn. If you find one false, say at which input.
  Laid BY PROGRAM, IN A SANDBOX (cutbox-rows.mjs): the forced cells as the released guide's own fill.sh prints them over the translation 101e574847f93ce6… (all of the seat's roots in one cut). By AI agents, Wed Nov 11 2026. No macro, syntax, notation, axiom, sorry.
-/
import Derived.Test.YtnjjdiilkhdbeaaGreatChecked
import GoSem.Claim
import GoSem.ClaimJoined
import GoSem.ClaimMapViews
import Derived.JoinedTies
import Derived.KernelRfl
namespace Go.Proofs.YtnjjdiilkhdbeaaGreat
/- THE CELL 'sum', in the pinned program and in every row, IS THE sha256 OF THE DUMP (.gsa) THAT YtnjjdiilkhdbeaaGreatProg.lean LOADS. Nothing in Lean hashes anything: it is a label: what it is worth is what the hold of that sum in a sandbox is worth. -/
noncomputable def Tryz.pinned : Pinned := { name := "ytnjjdiilkhdbeaagreat", sum := "101e574847f93ce63295f68f2cda1564012b0fe0ae23c38e3b94e64ff0b234d1", checked := Tryz.checked }
namespace Rows
def none {H : Type} : Left H := { results := [], args := [] }

/-- 'culpritlaw17.WagerExpects': WHATEVER THE INPUT: true; the input reads as it did. -/
def wagerExpectsSpec : ChangeSpec := { name := "wagerExpects", fn := fun _ => fun
  | [d1, d2, d3, d4, d5, d6, d7] => { results := [.lit (.bool true)], args := [d1, d2, d3, d4, d5, d6, d7] }
  | _ => none }
def wagerExpectsRow : OpenClaim := { program := "ytnjjdiilkhdbeaagreat", sum := "101e574847f93ce63295f68f2cda1564012b0fe0ae23c38e3b94e64ff0b234d1", func := "culprit/culpritlaw17.WagerExpects", spec := "wagerExpects", unfollowed := true, recurses := true, named := ["math/bits.overflowError"], apart := false }
def WagerExpectsSaid : Prop := wagerExpectsRow.holds Tryz.pinned (OpenSpec.ofChange wagerExpectsSpec)

/-- ITS FALSE NEIGHBOUR: 'it returns false'. Refute it at one input. -/
def wagerExpectsWrong : ChangeSpec := { name := "wagerExpects", fn := fun _ => fun
  | [d1, d2, d3, d4, d5, d6, d7] => { results := [.lit (.bool false)], args := [d1, d2, d3, d4, d5, d6, d7] }
  | _ => none }
def WagerExpectsWrongFalsely : Prop := wagerExpectsRow.holds Tryz.pinned (OpenSpec.ofChange wagerExpectsWrong)

/-- 'culpritlaw17.WagerReaches': WHATEVER THE INPUT: true; the input reads as it did. -/
def wagerReachesSpec : ChangeSpec := { name := "wagerReaches", fn := fun _ => fun
  | [d1, d2, d3, d4, d5, d6, d7] => { results := [.lit (.bool true)], args := [d1, d2, d3, d4, d5, d6, d7] }
  | _ => none }
def wagerReachesRow : OpenClaim := { program := "ytnjjdiilkhdbeaagreat", sum := "101e574847f93ce63295f68f2cda1564012b0fe0ae23c38e3b94e64ff0b234d1", func := "culprit/culpritlaw17.WagerReaches", spec := "wagerReaches", unfollowed := true, recurses := true, named := ["math/bits.overflowError"], apart := false }
def WagerReachesSaid : Prop := wagerReachesRow.holds Tryz.pinned (OpenSpec.ofChange wagerReachesSpec)

/-- ITS FALSE NEIGHBOUR: 'it returns false'. Refute it at one input. -/
def wagerReachesWrong : ChangeSpec := { name := "wagerReaches", fn := fun _ => fun
  | [d1, d2, d3, d4, d5, d6, d7] => { results := [.lit (.bool false)], args := [d1, d2, d3, d4, d5, d6, d7] }
  | _ => none }
def WagerReachesWrongFalsely : Prop := wagerReachesRow.holds Tryz.pinned (OpenSpec.ofChange wagerReachesWrong)

/-- 'culpritlaw17.WagerCapitals': WHATEVER THE INPUT: true; the input reads as it did. -/
def wagerCapitalsSpec : ChangeSpec := { name := "wagerCapitals", fn := fun _ => fun
  | [d1, d2, d3, d4] => { results := [.lit (.bool true)], args := [d1, d2, d3, d4] }
  | _ => none }
def wagerCapitalsRow : OpenClaim := { program := "ytnjjdiilkhdbeaagreat", sum := "101e574847f93ce63295f68f2cda1564012b0fe0ae23c38e3b94e64ff0b234d1", func := "culprit/culpritlaw17.WagerCapitals", spec := "wagerCapitals", unfollowed := true, recurses := true, named := ["math/bits.overflowError"], apart := false }
def WagerCapitalsSaid : Prop := wagerCapitalsRow.holds Tryz.pinned (OpenSpec.ofChange wagerCapitalsSpec)

/-- ITS FALSE NEIGHBOUR: 'it returns false'. Refute it at one input. -/
def wagerCapitalsWrong : ChangeSpec := { name := "wagerCapitals", fn := fun _ => fun
  | [d1, d2, d3, d4] => { results := [.lit (.bool false)], args := [d1, d2, d3, d4] }
  | _ => none }
def WagerCapitalsWrongFalsely : Prop := wagerCapitalsRow.holds Tryz.pinned (OpenSpec.ofChange wagerCapitalsWrong)

/- THE SECOND FORM. 'bulk': how many values and letters a reading holds, each counted each time it is reached (what is shared counts as often as it is met; a slice's spare places count too). A statement '..UptoSaid' is the law's where the arguments, and the package variables that the reading takes, are together of bulk at most 1048576: NARROWER than '..Said'. Prove '..Said' where nothing that the law and all that it calls make is longer than what came in: it says more and counts as full. Else prove '..UptoSaid'. A law counts once. -/
mutual
def uptoBulk {H : Type} : DataW H → Nat
  | .lit (.string bytes) => bytes.length + 1
  | .lit _ => 1
  | .nil => 1
  | .ptr d => uptoBulk d + 1
  | .slice elems spare => uptoBulkAll elems + uptoBulkAll spare + 1
  | .agg parts => uptoBulkAll parts + 1
  | .iface _ d => uptoBulk d + 1
  | .map entries => uptoBulkEntries entries + 1
  | .held _ => 1
def uptoBulkAll {H : Type} : List (DataW H) → Nat
  | [] => 0
  | d :: r => uptoBulk d + uptoBulkAll r
def uptoBulkEntries {H : Type} : List (Lit × DataW H) → Nat
  | [] => 0
  | x :: r => uptoBulkEntry x + uptoBulkEntries r
def uptoBulkEntry {H : Type} : Lit × DataW H → Nat
  | (.string bytes, d) => bytes.length + uptoBulk d + 1
  | (_, d) => uptoBulk d + 1
 end
def uptoSmall : (H : Type) → List (DataW H) → Bool := fun _ ds => decide (uptoBulkAll ds ≤ 1048576)
def OpenSpec.upto (s : _root_.Go.ChangeSpec) : _root_.Go.OpenSpec := { _root_.Go.OpenSpec.ofChange s with cond := some uptoSmall }

/-- 'culpritlaw17.WagerExpects', WHERE WHAT IT READS IS OF BULK AT MOST 1048576: true; the input reads as it did. -/
def wagerExpectsUptoRow : OpenClaim := { program := "ytnjjdiilkhdbeaagreat", sum := "101e574847f93ce63295f68f2cda1564012b0fe0ae23c38e3b94e64ff0b234d1", func := "culprit/culpritlaw17.WagerExpects", spec := "wagerExpects", unfollowed := true, recurses := true, named := ["math/bits.overflowError"], apart := false, narrowed := true }
def WagerExpectsUptoSaid : Prop := wagerExpectsUptoRow.holds Tryz.pinned (OpenSpec.upto wagerExpectsSpec)

/-- 'culpritlaw17.WagerReaches', WHERE WHAT IT READS IS OF BULK AT MOST 1048576: true; the input reads as it did. -/
def wagerReachesUptoRow : OpenClaim := { program := "ytnjjdiilkhdbeaagreat", sum := "101e574847f93ce63295f68f2cda1564012b0fe0ae23c38e3b94e64ff0b234d1", func := "culprit/culpritlaw17.WagerReaches", spec := "wagerReaches", unfollowed := true, recurses := true, named := ["math/bits.overflowError"], apart := false, narrowed := true }
def WagerReachesUptoSaid : Prop := wagerReachesUptoRow.holds Tryz.pinned (OpenSpec.upto wagerReachesSpec)

/-- 'culpritlaw17.WagerCapitals', WHERE WHAT IT READS IS OF BULK AT MOST 1048576: true; the input reads as it did. -/
def wagerCapitalsUptoRow : OpenClaim := { program := "ytnjjdiilkhdbeaagreat", sum := "101e574847f93ce63295f68f2cda1564012b0fe0ae23c38e3b94e64ff0b234d1", func := "culprit/culpritlaw17.WagerCapitals", spec := "wagerCapitals", unfollowed := true, recurses := true, named := ["math/bits.overflowError"], apart := false, narrowed := true }
def WagerCapitalsUptoSaid : Prop := wagerCapitalsUptoRow.holds Tryz.pinned (OpenSpec.upto wagerCapitalsSpec)

end Rows
end Go.Proofs.YtnjjdiilkhdbeaaGreat
