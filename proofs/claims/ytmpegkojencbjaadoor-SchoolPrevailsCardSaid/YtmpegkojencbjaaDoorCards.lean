/-
  DERIVED. GIVEN WITH THE SEED: THE CARDS: each row of YtmpegkojencbjaaDoorRows.lean that lists a variable, with what it lists TIED to the program's text (the seventh form; the later family's looks); each row that meets fmt, with fmt's text TOLD by the authors' own Lean function (tested against real Go, not proved from fmt's source: count such statements apart). THE CARD IS WHAT COUNTS. Prove the row's statement (the work); the ties are given (YtmpegkojencbjaaDoorTie.lean); close each card by the builder's one call (the guide's Derived/Test/ToyasCard.lean, 'card_holds'). Laid BY PROGRAM, IN A SANDBOX (cutbox-door.mjs). By AI agents, Wed Nov 11 2026. No macro, syntax, notation, axiom, sorry.
-/
import Derived.Test.YtmpegkojencbjaaDoorRows
import GoSem.ClaimSeven
namespace Go.Proofs.YtmpegkojencbjaaDoor
namespace Rows

/-- THE TIED CARD OF 'chitilaw11.SchoolAligns'. -/
def schoolAlignsCard : Claim7 := { stood := { row := schoolAlignsRow, standIns := [], harness := (true, "de0e8bac062d770159938a4787e32507ef436192cdeecd4cdeadb3815a38d22b"), looks := false }, kinds := [], alts := [], laidByText := true, laidKinds := [.data, .pinned], laidTests := true, laidLooks := .later }
def SchoolAlignsCardSaid : Prop := Claim7.holds Tryd.pinned (.plain (OpenSpec.ofChange schoolAlignsSpec)) schoolAlignsCard

/-- THE TIED CARD OF 'chitilaw11.SchoolMerges'. -/
def schoolMergesCard : Claim7 := { stood := { row := schoolMergesRow, standIns := [], harness := (true, "de0e8bac062d770159938a4787e32507ef436192cdeecd4cdeadb3815a38d22b"), looks := false }, kinds := [], alts := [], laidByText := true, laidKinds := [.data, .pinned], laidTests := true, laidLooks := .later }
def SchoolMergesCardSaid : Prop := Claim7.holds Tryd.pinned (.plain (OpenSpec.ofChange schoolMergesSpec)) schoolMergesCard

/-- THE TIED CARD OF 'chitilaw11.SchoolRestores'. -/
def schoolRestoresCard : Claim7 := { stood := { row := schoolRestoresRow, standIns := [], harness := (true, "de0e8bac062d770159938a4787e32507ef436192cdeecd4cdeadb3815a38d22b"), looks := false }, kinds := [], alts := [], laidByText := true, laidKinds := [.data, .pinned], laidTests := true, laidLooks := .later }
def SchoolRestoresCardSaid : Prop := Claim7.holds Tryd.pinned (.plain (OpenSpec.ofChange schoolRestoresSpec)) schoolRestoresCard

/-- THE TIED CARD OF 'chitilaw11.SchoolJoins'. -/
def schoolJoinsCard : Claim7 := { stood := { row := schoolJoinsRow, standIns := [], harness := (true, "de0e8bac062d770159938a4787e32507ef436192cdeecd4cdeadb3815a38d22b"), looks := false }, kinds := [], alts := [], laidByText := true, laidKinds := [.data, .pinned], laidTests := true, laidLooks := .later }
def SchoolJoinsCardSaid : Prop := Claim7.holds Tryd.pinned (.plain (OpenSpec.ofChange schoolJoinsSpec)) schoolJoinsCard

/-- THE TIED CARD OF 'chitilaw11.SchoolCopies'. -/
def schoolCopiesCard : Claim7 := { stood := { row := schoolCopiesRow, standIns := [], harness := (true, "de0e8bac062d770159938a4787e32507ef436192cdeecd4cdeadb3815a38d22b"), looks := false }, kinds := [], alts := [], laidByText := true, laidKinds := [.data, .pinned], laidTests := true, laidLooks := .later }
def SchoolCopiesCardSaid : Prop := Claim7.holds Tryd.pinned (.plain (OpenSpec.ofChange schoolCopiesSpec)) schoolCopiesCard

/-- THE TIED CARD OF 'chitilaw11.SchoolTells'. -/
def schoolTellsCard : Claim7 := { stood := { row := schoolTellsRow, standIns := [], harness := (true, "de0e8bac062d770159938a4787e32507ef436192cdeecd4cdeadb3815a38d22b"), looks := false }, kinds := [], alts := [], laidByText := true, laidKinds := [.data, .pinned], laidTests := true, laidLooks := .later }
def SchoolTellsCardSaid : Prop := Claim7.holds Tryd.pinned (.plain (OpenSpec.ofChange schoolTellsSpec)) schoolTellsCard

/-- THE TIED CARD OF 'chitilaw11.SchoolDecides'. -/
def schoolDecidesCard : Claim7 := { stood := { row := schoolDecidesRow, standIns := [], harness := (true, "de0e8bac062d770159938a4787e32507ef436192cdeecd4cdeadb3815a38d22b"), looks := false }, kinds := [], alts := [], laidByText := true, laidKinds := [.data, .pinned], laidTests := true, laidLooks := .later }
def SchoolDecidesCardSaid : Prop := Claim7.holds Tryd.pinned (.plain (OpenSpec.ofChange schoolDecidesSpec)) schoolDecidesCard

/-- THE TIED CARD OF 'chitilaw11.SchoolPrevails'. -/
def schoolPrevailsCard : Claim7 := { stood := { row := schoolPrevailsRow, standIns := [], harness := (true, "de0e8bac062d770159938a4787e32507ef436192cdeecd4cdeadb3815a38d22b"), looks := false }, kinds := [], alts := [], laidByText := true, laidKinds := [.data, .pinned], laidTests := true, laidLooks := .later }
def SchoolPrevailsCardSaid : Prop := Claim7.holds Tryd.pinned (.plain (OpenSpec.ofChange schoolPrevailsSpec)) schoolPrevailsCard

/-- THE TIED CARD OF 'chitilaw11.SchoolApart'. -/
def schoolApartCard : Claim7 := { stood := { row := schoolApartRow, standIns := [], harness := (true, "de0e8bac062d770159938a4787e32507ef436192cdeecd4cdeadb3815a38d22b"), looks := false }, kinds := [], alts := [], laidByText := true, laidKinds := [.data, .pinned], laidTests := true, laidLooks := .later }
def SchoolApartCardSaid : Prop := Claim7.holds Tryd.pinned (.plain (OpenSpec.ofChange schoolApartSpec)) schoolApartCard

/-- THE TIED CARD OF 'chitilaw11.SchoolApplies'. -/
def schoolAppliesCard : Claim7 := { stood := { row := schoolAppliesRow, standIns := [], harness := (true, "de0e8bac062d770159938a4787e32507ef436192cdeecd4cdeadb3815a38d22b"), looks := false }, kinds := [], alts := [], laidByText := true, laidKinds := [.data, .pinned], laidTests := true, laidLooks := .later }
def SchoolAppliesCardSaid : Prop := Claim7.holds Tryd.pinned (.plain (OpenSpec.ofChange schoolAppliesSpec)) schoolAppliesCard

/-- THE TIED CARD OF 'chitilaw11.SchoolEdits'. -/
def schoolEditsCard : Claim7 := { stood := { row := schoolEditsRow, standIns := [], harness := (true, "de0e8bac062d770159938a4787e32507ef436192cdeecd4cdeadb3815a38d22b"), looks := false }, kinds := [], alts := [], laidByText := true, laidKinds := [.data, .pinned], laidTests := true, laidLooks := .later }
def SchoolEditsCardSaid : Prop := Claim7.holds Tryd.pinned (.plain (OpenSpec.ofChange schoolEditsSpec)) schoolEditsCard

/-- THE SECOND FORM's CARD OF 'chitilaw11.SchoolAligns'. -/
def schoolAlignsUptoCard : Claim7 := { stood := { row := schoolAlignsUptoRow, standIns := [], harness := (true, "de0e8bac062d770159938a4787e32507ef436192cdeecd4cdeadb3815a38d22b"), looks := false }, kinds := [], alts := [], laidByText := true, laidKinds := [.data, .pinned], laidTests := true, laidLooks := .later }
def SchoolAlignsUptoCardSaid : Prop := Claim7.holds Tryd.pinned (.plain (OpenSpec.upto schoolAlignsSpec)) schoolAlignsUptoCard

/-- THE SECOND FORM's CARD OF 'chitilaw11.SchoolMerges'. -/
def schoolMergesUptoCard : Claim7 := { stood := { row := schoolMergesUptoRow, standIns := [], harness := (true, "de0e8bac062d770159938a4787e32507ef436192cdeecd4cdeadb3815a38d22b"), looks := false }, kinds := [], alts := [], laidByText := true, laidKinds := [.data, .pinned], laidTests := true, laidLooks := .later }
def SchoolMergesUptoCardSaid : Prop := Claim7.holds Tryd.pinned (.plain (OpenSpec.upto schoolMergesSpec)) schoolMergesUptoCard

/-- THE SECOND FORM's CARD OF 'chitilaw11.SchoolRestores'. -/
def schoolRestoresUptoCard : Claim7 := { stood := { row := schoolRestoresUptoRow, standIns := [], harness := (true, "de0e8bac062d770159938a4787e32507ef436192cdeecd4cdeadb3815a38d22b"), looks := false }, kinds := [], alts := [], laidByText := true, laidKinds := [.data, .pinned], laidTests := true, laidLooks := .later }
def SchoolRestoresUptoCardSaid : Prop := Claim7.holds Tryd.pinned (.plain (OpenSpec.upto schoolRestoresSpec)) schoolRestoresUptoCard

/-- THE SECOND FORM's CARD OF 'chitilaw11.SchoolJoins'. -/
def schoolJoinsUptoCard : Claim7 := { stood := { row := schoolJoinsUptoRow, standIns := [], harness := (true, "de0e8bac062d770159938a4787e32507ef436192cdeecd4cdeadb3815a38d22b"), looks := false }, kinds := [], alts := [], laidByText := true, laidKinds := [.data, .pinned], laidTests := true, laidLooks := .later }
def SchoolJoinsUptoCardSaid : Prop := Claim7.holds Tryd.pinned (.plain (OpenSpec.upto schoolJoinsSpec)) schoolJoinsUptoCard

/-- THE SECOND FORM's CARD OF 'chitilaw11.SchoolCopies'. -/
def schoolCopiesUptoCard : Claim7 := { stood := { row := schoolCopiesUptoRow, standIns := [], harness := (true, "de0e8bac062d770159938a4787e32507ef436192cdeecd4cdeadb3815a38d22b"), looks := false }, kinds := [], alts := [], laidByText := true, laidKinds := [.data, .pinned], laidTests := true, laidLooks := .later }
def SchoolCopiesUptoCardSaid : Prop := Claim7.holds Tryd.pinned (.plain (OpenSpec.upto schoolCopiesSpec)) schoolCopiesUptoCard

/-- THE SECOND FORM's CARD OF 'chitilaw11.SchoolTells'. -/
def schoolTellsUptoCard : Claim7 := { stood := { row := schoolTellsUptoRow, standIns := [], harness := (true, "de0e8bac062d770159938a4787e32507ef436192cdeecd4cdeadb3815a38d22b"), looks := false }, kinds := [], alts := [], laidByText := true, laidKinds := [.data, .pinned], laidTests := true, laidLooks := .later }
def SchoolTellsUptoCardSaid : Prop := Claim7.holds Tryd.pinned (.plain (OpenSpec.upto schoolTellsSpec)) schoolTellsUptoCard

/-- THE SECOND FORM's CARD OF 'chitilaw11.SchoolDecides'. -/
def schoolDecidesUptoCard : Claim7 := { stood := { row := schoolDecidesUptoRow, standIns := [], harness := (true, "de0e8bac062d770159938a4787e32507ef436192cdeecd4cdeadb3815a38d22b"), looks := false }, kinds := [], alts := [], laidByText := true, laidKinds := [.data, .pinned], laidTests := true, laidLooks := .later }
def SchoolDecidesUptoCardSaid : Prop := Claim7.holds Tryd.pinned (.plain (OpenSpec.upto schoolDecidesSpec)) schoolDecidesUptoCard

/-- THE SECOND FORM's CARD OF 'chitilaw11.SchoolPrevails'. -/
def schoolPrevailsUptoCard : Claim7 := { stood := { row := schoolPrevailsUptoRow, standIns := [], harness := (true, "de0e8bac062d770159938a4787e32507ef436192cdeecd4cdeadb3815a38d22b"), looks := false }, kinds := [], alts := [], laidByText := true, laidKinds := [.data, .pinned], laidTests := true, laidLooks := .later }
def SchoolPrevailsUptoCardSaid : Prop := Claim7.holds Tryd.pinned (.plain (OpenSpec.upto schoolPrevailsSpec)) schoolPrevailsUptoCard

/-- THE SECOND FORM's CARD OF 'chitilaw11.SchoolApart'. -/
def schoolApartUptoCard : Claim7 := { stood := { row := schoolApartUptoRow, standIns := [], harness := (true, "de0e8bac062d770159938a4787e32507ef436192cdeecd4cdeadb3815a38d22b"), looks := false }, kinds := [], alts := [], laidByText := true, laidKinds := [.data, .pinned], laidTests := true, laidLooks := .later }
def SchoolApartUptoCardSaid : Prop := Claim7.holds Tryd.pinned (.plain (OpenSpec.upto schoolApartSpec)) schoolApartUptoCard

/-- THE SECOND FORM's CARD OF 'chitilaw11.SchoolApplies'. -/
def schoolAppliesUptoCard : Claim7 := { stood := { row := schoolAppliesUptoRow, standIns := [], harness := (true, "de0e8bac062d770159938a4787e32507ef436192cdeecd4cdeadb3815a38d22b"), looks := false }, kinds := [], alts := [], laidByText := true, laidKinds := [.data, .pinned], laidTests := true, laidLooks := .later }
def SchoolAppliesUptoCardSaid : Prop := Claim7.holds Tryd.pinned (.plain (OpenSpec.upto schoolAppliesSpec)) schoolAppliesUptoCard

/-- THE SECOND FORM's CARD OF 'chitilaw11.SchoolEdits'. -/
def schoolEditsUptoCard : Claim7 := { stood := { row := schoolEditsUptoRow, standIns := [], harness := (true, "de0e8bac062d770159938a4787e32507ef436192cdeecd4cdeadb3815a38d22b"), looks := false }, kinds := [], alts := [], laidByText := true, laidKinds := [.data, .pinned], laidTests := true, laidLooks := .later }
def SchoolEditsUptoCardSaid : Prop := Claim7.holds Tryd.pinned (.plain (OpenSpec.upto schoolEditsSpec)) schoolEditsUptoCard
end Rows
end Go.Proofs.YtmpegkojencbjaaDoor
