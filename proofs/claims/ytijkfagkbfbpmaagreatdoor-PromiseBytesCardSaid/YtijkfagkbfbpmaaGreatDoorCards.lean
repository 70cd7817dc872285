/-
  DERIVED. GIVEN WITH THE SEED: THE CARDS: each row of YtijkfagkbfbpmaaGreatDoorRows.lean that lists a variable, with what it lists TIED to the program's text (the seventh form; the later family's looks); each row that meets fmt, with fmt's text TOLD by the authors' own Lean function (tested against real Go, not proved from fmt's source: count such statements apart). THE CARD IS WHAT COUNTS. Prove the row's statement (the work); the ties are given (YtijkfagkbfbpmaaGreatDoorTie.lean); close each card by the builder's one call (the guide's Derived/Test/ToyasCard.lean, 'card_holds'). Laid BY PROGRAM, IN A SANDBOX (cutbox-door.mjs). By AI agents, Wed Nov 11 2026. No macro, syntax, notation, axiom, sorry.
-/
import Derived.Test.YtijkfagkbfbpmaaGreatDoorRows
import GoSem.ClaimSeven
namespace Go.Proofs.YtijkfagkbfbpmaaGreatDoor
namespace Rows

/-- THE TIED CARD OF 'culpritlaw34.PromiseTimes'. -/
def promiseTimesCard : Claim7 := { stood := { row := promiseTimesRow, standIns := [], harness := (true, "407124de6d225d5bf92653aadee8713f618f327cb50f5c137c678e694b83870d"), looks := true }, kinds := [], alts := [], laidByText := true, laidKinds := [.data, .data, .data, .data, .pinned], laidTests := true, laidLooks := .later }
def PromiseTimesCardSaid : Prop := Claim7.holds Tryz.pinned (.plain (OpenSpec.ofChange promiseTimesSpec)) promiseTimesCard

/-- THE TIED CARD OF 'culpritlaw34.PromiseCovers'. -/
def promiseCoversCard : Claim7 := { stood := { row := promiseCoversRow, standIns := [], harness := (true, "407124de6d225d5bf92653aadee8713f618f327cb50f5c137c678e694b83870d"), looks := true }, kinds := [], alts := [], laidByText := true, laidKinds := [.data, .data, .data, .data, .pinned], laidTests := true, laidLooks := .later }
def PromiseCoversCardSaid : Prop := Claim7.holds Tryz.pinned (.plain (OpenSpec.ofChange promiseCoversSpec)) promiseCoversCard

/-- THE TIED CARD OF 'culpritlaw34.PromiseValid'. -/
def promiseValidCard : Claim7 := { stood := { row := promiseValidRow, standIns := [], harness := (true, "407124de6d225d5bf92653aadee8713f618f327cb50f5c137c678e694b83870d"), looks := true }, kinds := [], alts := [], laidByText := true, laidKinds := [.data, .data, .data, .data, .pinned], laidTests := true, laidLooks := .later }
def PromiseValidCardSaid : Prop := Claim7.holds Tryz.pinned (.plain (OpenSpec.ofChange promiseValidSpec)) promiseValidCard

/-- THE TIED CARD OF 'culpritlaw34.PromiseStates'. -/
def promiseStatesCard : Claim7 := { stood := { row := promiseStatesRow, standIns := [], harness := (true, "407124de6d225d5bf92653aadee8713f618f327cb50f5c137c678e694b83870d"), looks := true }, kinds := [], alts := [], laidByText := true, laidKinds := [.data, .data, .data, .data, .pinned], laidTests := true, laidLooks := .later }
def PromiseStatesCardSaid : Prop := Claim7.holds Tryz.pinned (.plain (OpenSpec.ofChange promiseStatesSpec)) promiseStatesCard

/-- THE TIED CARD OF 'culpritlaw34.PromiseApart'. -/
def promiseApartCard : Claim7 := { stood := { row := promiseApartRow, standIns := [], harness := (true, "407124de6d225d5bf92653aadee8713f618f327cb50f5c137c678e694b83870d"), looks := true }, kinds := [], alts := [], laidByText := true, laidKinds := [.data, .data, .data, .data, .pinned], laidTests := true, laidLooks := .later }
def PromiseApartCardSaid : Prop := Claim7.holds Tryz.pinned (.plain (OpenSpec.ofChange promiseApartSpec)) promiseApartCard

/-- THE TIED CARD OF 'culpritlaw34.PromiseBytes'. -/
def promiseBytesCard : Claim7 := { stood := { row := promiseBytesRow, standIns := [], harness := (true, "407124de6d225d5bf92653aadee8713f618f327cb50f5c137c678e694b83870d"), looks := true }, kinds := [], alts := [], laidByText := true, laidKinds := [.data, .data, .data, .data, .data, .data, .pinned], laidTests := true, laidLooks := .later }
def PromiseBytesCardSaid : Prop := Claim7.holds Tryz.pinned (.plain (OpenSpec.ofChange promiseBytesSpec)) promiseBytesCard

/-- THE TIED CARD OF 'culpritlaw34.PromisePrints'. -/
def promisePrintsCard : Claim7 := { stood := { row := promisePrintsRow, standIns := [], harness := (true, "407124de6d225d5bf92653aadee8713f618f327cb50f5c137c678e694b83870d"), looks := true }, kinds := [], alts := [], laidByText := true, laidKinds := [.data, .data, .data, .data, .sentinel, .sentinel, .pinned], laidTests := true, laidLooks := .later }
def PromisePrintsCardSaid : Prop := Claim7.holds Tryz.pinned (.plain (OpenSpec.ofChange promisePrintsSpec)) promisePrintsCard

/-- THE SECOND FORM's CARD OF 'culpritlaw34.PromiseTimes'. -/
def promiseTimesUptoCard : Claim7 := { stood := { row := promiseTimesUptoRow, standIns := [], harness := (true, "407124de6d225d5bf92653aadee8713f618f327cb50f5c137c678e694b83870d"), looks := true }, kinds := [], alts := [], laidByText := true, laidKinds := [.data, .data, .data, .data, .pinned], laidTests := true, laidLooks := .later }
def PromiseTimesUptoCardSaid : Prop := Claim7.holds Tryz.pinned (.plain (OpenSpec.upto promiseTimesSpec)) promiseTimesUptoCard

/-- THE SECOND FORM's CARD OF 'culpritlaw34.PromiseCovers'. -/
def promiseCoversUptoCard : Claim7 := { stood := { row := promiseCoversUptoRow, standIns := [], harness := (true, "407124de6d225d5bf92653aadee8713f618f327cb50f5c137c678e694b83870d"), looks := true }, kinds := [], alts := [], laidByText := true, laidKinds := [.data, .data, .data, .data, .pinned], laidTests := true, laidLooks := .later }
def PromiseCoversUptoCardSaid : Prop := Claim7.holds Tryz.pinned (.plain (OpenSpec.upto promiseCoversSpec)) promiseCoversUptoCard

/-- THE SECOND FORM's CARD OF 'culpritlaw34.PromiseValid'. -/
def promiseValidUptoCard : Claim7 := { stood := { row := promiseValidUptoRow, standIns := [], harness := (true, "407124de6d225d5bf92653aadee8713f618f327cb50f5c137c678e694b83870d"), looks := true }, kinds := [], alts := [], laidByText := true, laidKinds := [.data, .data, .data, .data, .pinned], laidTests := true, laidLooks := .later }
def PromiseValidUptoCardSaid : Prop := Claim7.holds Tryz.pinned (.plain (OpenSpec.upto promiseValidSpec)) promiseValidUptoCard

/-- THE SECOND FORM's CARD OF 'culpritlaw34.PromiseStates'. -/
def promiseStatesUptoCard : Claim7 := { stood := { row := promiseStatesUptoRow, standIns := [], harness := (true, "407124de6d225d5bf92653aadee8713f618f327cb50f5c137c678e694b83870d"), looks := true }, kinds := [], alts := [], laidByText := true, laidKinds := [.data, .data, .data, .data, .pinned], laidTests := true, laidLooks := .later }
def PromiseStatesUptoCardSaid : Prop := Claim7.holds Tryz.pinned (.plain (OpenSpec.upto promiseStatesSpec)) promiseStatesUptoCard

/-- THE SECOND FORM's CARD OF 'culpritlaw34.PromiseApart'. -/
def promiseApartUptoCard : Claim7 := { stood := { row := promiseApartUptoRow, standIns := [], harness := (true, "407124de6d225d5bf92653aadee8713f618f327cb50f5c137c678e694b83870d"), looks := true }, kinds := [], alts := [], laidByText := true, laidKinds := [.data, .data, .data, .data, .pinned], laidTests := true, laidLooks := .later }
def PromiseApartUptoCardSaid : Prop := Claim7.holds Tryz.pinned (.plain (OpenSpec.upto promiseApartSpec)) promiseApartUptoCard

/-- THE SECOND FORM's CARD OF 'culpritlaw34.PromiseBytes'. -/
def promiseBytesUptoCard : Claim7 := { stood := { row := promiseBytesUptoRow, standIns := [], harness := (true, "407124de6d225d5bf92653aadee8713f618f327cb50f5c137c678e694b83870d"), looks := true }, kinds := [], alts := [], laidByText := true, laidKinds := [.data, .data, .data, .data, .data, .data, .pinned], laidTests := true, laidLooks := .later }
def PromiseBytesUptoCardSaid : Prop := Claim7.holds Tryz.pinned (.plain (OpenSpec.upto promiseBytesSpec)) promiseBytesUptoCard

/-- THE SECOND FORM's CARD OF 'culpritlaw34.PromisePrints'. -/
def promisePrintsUptoCard : Claim7 := { stood := { row := promisePrintsUptoRow, standIns := [], harness := (true, "407124de6d225d5bf92653aadee8713f618f327cb50f5c137c678e694b83870d"), looks := true }, kinds := [], alts := [], laidByText := true, laidKinds := [.data, .data, .data, .data, .sentinel, .sentinel, .pinned], laidTests := true, laidLooks := .later }
def PromisePrintsUptoCardSaid : Prop := Claim7.holds Tryz.pinned (.plain (OpenSpec.upto promisePrintsSpec)) promisePrintsUptoCard
end Rows
end Go.Proofs.YtijkfagkbfbpmaaGreatDoor
