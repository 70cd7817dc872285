/-
  DERIVED. GIVEN WITH THE SEED: THE CARDS: each row of YtmbfjmilhfmnkaaDoorRows.lean that lists a variable, with what it lists TIED to the program's text (the seventh form; the later family's looks); each row that meets fmt, with fmt's text TOLD by the authors' own Lean function (tested against real Go, not proved from fmt's source: count such statements apart). THE CARD IS WHAT COUNTS. Prove the row's statement (the work); the ties are given (YtmbfjmilhfmnkaaDoorTie.lean); close each card by the builder's one call (the guide's Derived/Test/ToyasCard.lean, 'card_holds'). Laid BY PROGRAM, IN A SANDBOX (cutbox-door.mjs). By AI agents, Wed Nov 11 2026. No macro, syntax, notation, axiom, sorry.
-/
import Derived.Test.YtmbfjmilhfmnkaaDoorRows
import GoSem.ClaimSeven
namespace Go.Proofs.YtmbfjmilhfmnkaaDoor
namespace Rows

/-- THE TIED CARD OF 'culpritlaw05.RatioMakes'. -/
def ratioMakesCard : Claim7 := { stood := { row := ratioMakesRow, standIns := [], harness := (true, "f87632a67bd21c00ea3acaa91b4f44a53182932f177c6c683e23531f0f5c5a5c"), looks := false }, kinds := [], alts := [], laidByText := true, laidKinds := [.data, .pinned], laidTests := true, laidLooks := .later }
def RatioMakesCardSaid : Prop := Claim7.holds Tryd.pinned (.plain (OpenSpec.ofChange ratioMakesSpec)) ratioMakesCard

/-- THE TIED CARD OF 'culpritlaw05.RatioSums'. -/
def ratioSumsCard : Claim7 := { stood := { row := ratioSumsRow, standIns := [], harness := (true, "f87632a67bd21c00ea3acaa91b4f44a53182932f177c6c683e23531f0f5c5a5c"), looks := false }, kinds := [], alts := [], laidByText := true, laidKinds := [.data, .pinned], laidTests := true, laidLooks := .later }
def RatioSumsCardSaid : Prop := Claim7.holds Tryd.pinned (.plain (OpenSpec.ofChange ratioSumsSpec)) ratioSumsCard

/-- THE TIED CARD OF 'culpritlaw05.RatioCounts'. -/
def ratioCountsCard : Claim7 := { stood := { row := ratioCountsRow, standIns := [], harness := (true, "f87632a67bd21c00ea3acaa91b4f44a53182932f177c6c683e23531f0f5c5a5c"), looks := false }, kinds := [], alts := [], laidByText := true, laidKinds := [.data, .pinned], laidTests := true, laidLooks := .later }
def RatioCountsCardSaid : Prop := Claim7.holds Tryd.pinned (.plain (OpenSpec.ofChange ratioCountsSpec)) ratioCountsCard

/-- THE TIED CARD OF 'culpritlaw05.RatioFloors'. -/
def ratioFloorsCard : Claim7 := { stood := { row := ratioFloorsRow, standIns := [], harness := (true, "f87632a67bd21c00ea3acaa91b4f44a53182932f177c6c683e23531f0f5c5a5c"), looks := false }, kinds := [], alts := [], laidByText := true, laidKinds := [.data, .pinned], laidTests := true, laidLooks := .later }
def RatioFloorsCardSaid : Prop := Claim7.holds Tryd.pinned (.plain (OpenSpec.ofChange ratioFloorsSpec)) ratioFloorsCard

/-- THE TIED CARD OF 'culpritlaw05.RatioField'. -/
def ratioFieldCard : Claim7 := { stood := { row := ratioFieldRow, standIns := [], harness := (true, "f87632a67bd21c00ea3acaa91b4f44a53182932f177c6c683e23531f0f5c5a5c"), looks := false }, kinds := [], alts := [], laidByText := true, laidKinds := [.data, .pinned], laidTests := true, laidLooks := .later }
def RatioFieldCardSaid : Prop := Claim7.holds Tryd.pinned (.plain (OpenSpec.ofChange ratioFieldSpec)) ratioFieldCard

/-- THE TIED CARD OF 'culpritlaw05.RatioOrder'. -/
def ratioOrderCard : Claim7 := { stood := { row := ratioOrderRow, standIns := [], harness := (true, "f87632a67bd21c00ea3acaa91b4f44a53182932f177c6c683e23531f0f5c5a5c"), looks := false }, kinds := [], alts := [], laidByText := true, laidKinds := [.data, .pinned], laidTests := true, laidLooks := .later }
def RatioOrderCardSaid : Prop := Claim7.holds Tryd.pinned (.plain (OpenSpec.ofChange ratioOrderSpec)) ratioOrderCard

/-- THE SECOND FORM's CARD OF 'culpritlaw05.RatioMakes'. -/
def ratioMakesUptoCard : Claim7 := { stood := { row := ratioMakesUptoRow, standIns := [], harness := (true, "f87632a67bd21c00ea3acaa91b4f44a53182932f177c6c683e23531f0f5c5a5c"), looks := false }, kinds := [], alts := [], laidByText := true, laidKinds := [.data, .pinned], laidTests := true, laidLooks := .later }
def RatioMakesUptoCardSaid : Prop := Claim7.holds Tryd.pinned (.plain (OpenSpec.upto ratioMakesSpec)) ratioMakesUptoCard

/-- THE SECOND FORM's CARD OF 'culpritlaw05.RatioSums'. -/
def ratioSumsUptoCard : Claim7 := { stood := { row := ratioSumsUptoRow, standIns := [], harness := (true, "f87632a67bd21c00ea3acaa91b4f44a53182932f177c6c683e23531f0f5c5a5c"), looks := false }, kinds := [], alts := [], laidByText := true, laidKinds := [.data, .pinned], laidTests := true, laidLooks := .later }
def RatioSumsUptoCardSaid : Prop := Claim7.holds Tryd.pinned (.plain (OpenSpec.upto ratioSumsSpec)) ratioSumsUptoCard

/-- THE SECOND FORM's CARD OF 'culpritlaw05.RatioCounts'. -/
def ratioCountsUptoCard : Claim7 := { stood := { row := ratioCountsUptoRow, standIns := [], harness := (true, "f87632a67bd21c00ea3acaa91b4f44a53182932f177c6c683e23531f0f5c5a5c"), looks := false }, kinds := [], alts := [], laidByText := true, laidKinds := [.data, .pinned], laidTests := true, laidLooks := .later }
def RatioCountsUptoCardSaid : Prop := Claim7.holds Tryd.pinned (.plain (OpenSpec.upto ratioCountsSpec)) ratioCountsUptoCard

/-- THE SECOND FORM's CARD OF 'culpritlaw05.RatioFloors'. -/
def ratioFloorsUptoCard : Claim7 := { stood := { row := ratioFloorsUptoRow, standIns := [], harness := (true, "f87632a67bd21c00ea3acaa91b4f44a53182932f177c6c683e23531f0f5c5a5c"), looks := false }, kinds := [], alts := [], laidByText := true, laidKinds := [.data, .pinned], laidTests := true, laidLooks := .later }
def RatioFloorsUptoCardSaid : Prop := Claim7.holds Tryd.pinned (.plain (OpenSpec.upto ratioFloorsSpec)) ratioFloorsUptoCard

/-- THE SECOND FORM's CARD OF 'culpritlaw05.RatioField'. -/
def ratioFieldUptoCard : Claim7 := { stood := { row := ratioFieldUptoRow, standIns := [], harness := (true, "f87632a67bd21c00ea3acaa91b4f44a53182932f177c6c683e23531f0f5c5a5c"), looks := false }, kinds := [], alts := [], laidByText := true, laidKinds := [.data, .pinned], laidTests := true, laidLooks := .later }
def RatioFieldUptoCardSaid : Prop := Claim7.holds Tryd.pinned (.plain (OpenSpec.upto ratioFieldSpec)) ratioFieldUptoCard

/-- THE SECOND FORM's CARD OF 'culpritlaw05.RatioOrder'. -/
def ratioOrderUptoCard : Claim7 := { stood := { row := ratioOrderUptoRow, standIns := [], harness := (true, "f87632a67bd21c00ea3acaa91b4f44a53182932f177c6c683e23531f0f5c5a5c"), looks := false }, kinds := [], alts := [], laidByText := true, laidKinds := [.data, .pinned], laidTests := true, laidLooks := .later }
def RatioOrderUptoCardSaid : Prop := Claim7.holds Tryd.pinned (.plain (OpenSpec.upto ratioOrderSpec)) ratioOrderUptoCard
end Rows
end Go.Proofs.YtmbfjmilhfmnkaaDoor
