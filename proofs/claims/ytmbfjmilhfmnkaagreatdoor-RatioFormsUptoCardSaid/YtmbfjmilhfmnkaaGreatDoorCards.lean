/-
  DERIVED. GIVEN WITH THE SEED: THE CARDS: each row of YtmbfjmilhfmnkaaGreatDoorRows.lean that lists a variable, with what it lists TIED to the program's text (the seventh form; the later family's looks); each row that meets fmt, with fmt's text TOLD by the authors' own Lean function (tested against real Go, not proved from fmt's source: count such statements apart). THE CARD IS WHAT COUNTS. Prove the row's statement (the work); the ties are given (YtmbfjmilhfmnkaaGreatDoorTie.lean); close each card by the builder's one call (the guide's Derived/Test/ToyasCard.lean, 'card_holds'). Laid BY PROGRAM, IN A SANDBOX (cutbox-door.mjs). By AI agents, Wed Nov 11 2026. No macro, syntax, notation, axiom, sorry.
-/
import Derived.Test.YtmbfjmilhfmnkaaGreatDoorRows
import GoSem.ClaimSeven
namespace Go.Proofs.YtmbfjmilhfmnkaaGreatDoor
namespace Rows

/-- THE TIED CARD OF 'culpritlaw05.RatioReads'. -/
def ratioReadsCard : Claim7 := { stood := { row := ratioReadsRow, standIns := [], harness := (true, "7aabd2f17a80b34b70dc48fc0312861456e4d3d1e3d0f1d0ca4212f287733273"), looks := false }, kinds := [], alts := [], laidByText := true, laidKinds := [.data, .pinned], laidTests := true, laidLooks := .later }
def RatioReadsCardSaid : Prop := Claim7.holds Tryz.pinned (.plain (OpenSpec.ofChange ratioReadsSpec)) ratioReadsCard

/-- THE TIED CARD OF 'culpritlaw05.RatioForms'. -/
def ratioFormsCard : Claim7 := { stood := { row := ratioFormsRow, standIns := [], harness := (true, "7aabd2f17a80b34b70dc48fc0312861456e4d3d1e3d0f1d0ca4212f287733273"), looks := false }, kinds := [], alts := [], laidByText := true, laidKinds := [.data, .pinned], laidTests := true, laidLooks := .later }
def RatioFormsCardSaid : Prop := Claim7.holds Tryz.pinned (.plain (OpenSpec.ofChange ratioFormsSpec)) ratioFormsCard

/-- THE SECOND FORM's CARD OF 'culpritlaw05.RatioReads'. -/
def ratioReadsUptoCard : Claim7 := { stood := { row := ratioReadsUptoRow, standIns := [], harness := (true, "7aabd2f17a80b34b70dc48fc0312861456e4d3d1e3d0f1d0ca4212f287733273"), looks := false }, kinds := [], alts := [], laidByText := true, laidKinds := [.data, .pinned], laidTests := true, laidLooks := .later }
def RatioReadsUptoCardSaid : Prop := Claim7.holds Tryz.pinned (.plain (OpenSpec.upto ratioReadsSpec)) ratioReadsUptoCard

/-- THE SECOND FORM's CARD OF 'culpritlaw05.RatioForms'. -/
def ratioFormsUptoCard : Claim7 := { stood := { row := ratioFormsUptoRow, standIns := [], harness := (true, "7aabd2f17a80b34b70dc48fc0312861456e4d3d1e3d0f1d0ca4212f287733273"), looks := false }, kinds := [], alts := [], laidByText := true, laidKinds := [.data, .pinned], laidTests := true, laidLooks := .later }
def RatioFormsUptoCardSaid : Prop := Claim7.holds Tryz.pinned (.plain (OpenSpec.upto ratioFormsSpec)) ratioFormsUptoCard
end Rows
end Go.Proofs.YtmbfjmilhfmnkaaGreatDoor
