/-
  DERIVED. GIVEN WITH THE SEED: THE CARDS: each row of YtcgdalabenflmaaDoorRows.lean that lists a variable, with what it lists TIED to the program's text (the seventh form; the later family's looks); each row that meets fmt, with fmt's text TOLD by the authors' own Lean function (tested against real Go, not proved from fmt's source: count such statements apart). THE CARD IS WHAT COUNTS. Prove the row's statement (the work); the ties are given (YtcgdalabenflmaaDoorTie.lean); close each card by the builder's one call (the guide's Derived/Test/ToyasCard.lean, 'card_holds'). Laid BY PROGRAM, IN A SANDBOX (cutbox-door.mjs). By AI agents, Wed Nov 11 2026. No macro, syntax, notation, axiom, sorry.
-/
import Derived.Test.YtcgdalabenflmaaDoorRows
import GoSem.ClaimSeven
namespace Go.Proofs.YtcgdalabenflmaaDoor
namespace Rows

/-- THE TIED CARD OF 'chitilaw09.RiteRepairs'. -/
def riteRepairsCard : Claim7 := { stood := { row := riteRepairsRow, standIns := [], harness := (true, "376b80f4633cca043c83d1652b79e11020b8f3081dfa86be3e3dff3f771ffefe"), looks := false }, kinds := [], alts := [], laidByText := true, laidKinds := [.data, .data, .data, .data, .pinned], laidTests := true, laidLooks := .later }
def RiteRepairsCardSaid : Prop := Claim7.holds Tryd.pinned (.plain (OpenSpec.ofChange riteRepairsSpec)) riteRepairsCard

/-- THE TIED CARD OF 'chitilaw09.RiteAsks'. -/
def riteAsksCard : Claim7 := { stood := { row := riteAsksRow, standIns := [], harness := (true, "376b80f4633cca043c83d1652b79e11020b8f3081dfa86be3e3dff3f771ffefe"), looks := false }, kinds := [], alts := [], laidByText := true, laidKinds := [.data, .data, .data, .data, .pinned], laidTests := true, laidLooks := .later }
def RiteAsksCardSaid : Prop := Claim7.holds Tryd.pinned (.plain (OpenSpec.ofChange riteAsksSpec)) riteAsksCard

/-- THE TIED CARD OF 'chitilaw09.RiteRepaired'. -/
def riteRepairedCard : Claim7 := { stood := { row := riteRepairedRow, standIns := [], harness := (true, "376b80f4633cca043c83d1652b79e11020b8f3081dfa86be3e3dff3f771ffefe"), looks := false }, kinds := [], alts := [], laidByText := true, laidKinds := [.data, .data, .data, .data, .pinned], laidTests := true, laidLooks := .later }
def RiteRepairedCardSaid : Prop := Claim7.holds Tryd.pinned (.plain (OpenSpec.ofChange riteRepairedSpec)) riteRepairedCard

/-- THE TIED CARD OF 'chitilaw09.RiteJudges'. -/
def riteJudgesCard : Claim7 := { stood := { row := riteJudgesRow, standIns := [], harness := (true, "376b80f4633cca043c83d1652b79e11020b8f3081dfa86be3e3dff3f771ffefe"), looks := false }, kinds := [], alts := [], laidByText := true, laidKinds := [.data, .data, .data, .data, .pinned], laidTests := true, laidLooks := .later }
def RiteJudgesCardSaid : Prop := Claim7.holds Tryd.pinned (.plain (OpenSpec.ofChange riteJudgesSpec)) riteJudgesCard

/-- THE TIED CARD OF 'chitilaw09.RiteSpans'. -/
def riteSpansCard : Claim7 := { stood := { row := riteSpansRow, standIns := [], harness := (true, "376b80f4633cca043c83d1652b79e11020b8f3081dfa86be3e3dff3f771ffefe"), looks := false }, kinds := [], alts := [], laidByText := true, laidKinds := [.data, .data, .data, .data, .pinned], laidTests := true, laidLooks := .later }
def RiteSpansCardSaid : Prop := Claim7.holds Tryd.pinned (.plain (OpenSpec.ofChange riteSpansSpec)) riteSpansCard

/-- THE TIED CARD OF 'chitilaw09.RiteOpens'. -/
def riteOpensCard : Claim7 := { stood := { row := riteOpensRow, standIns := [], harness := (true, "376b80f4633cca043c83d1652b79e11020b8f3081dfa86be3e3dff3f771ffefe"), looks := false }, kinds := [], alts := [], laidByText := true, laidKinds := [.data, .data, .data, .data, .pinned], laidTests := true, laidLooks := .later }
def RiteOpensCardSaid : Prop := Claim7.holds Tryd.pinned (.plain (OpenSpec.ofChange riteOpensSpec)) riteOpensCard

/-- THE SECOND FORM's CARD OF 'chitilaw09.RiteRepairs'. -/
def riteRepairsUptoCard : Claim7 := { stood := { row := riteRepairsUptoRow, standIns := [], harness := (true, "376b80f4633cca043c83d1652b79e11020b8f3081dfa86be3e3dff3f771ffefe"), looks := false }, kinds := [], alts := [], laidByText := true, laidKinds := [.data, .data, .data, .data, .pinned], laidTests := true, laidLooks := .later }
def RiteRepairsUptoCardSaid : Prop := Claim7.holds Tryd.pinned (.plain (OpenSpec.upto riteRepairsSpec)) riteRepairsUptoCard

/-- THE SECOND FORM's CARD OF 'chitilaw09.RiteAsks'. -/
def riteAsksUptoCard : Claim7 := { stood := { row := riteAsksUptoRow, standIns := [], harness := (true, "376b80f4633cca043c83d1652b79e11020b8f3081dfa86be3e3dff3f771ffefe"), looks := false }, kinds := [], alts := [], laidByText := true, laidKinds := [.data, .data, .data, .data, .pinned], laidTests := true, laidLooks := .later }
def RiteAsksUptoCardSaid : Prop := Claim7.holds Tryd.pinned (.plain (OpenSpec.upto riteAsksSpec)) riteAsksUptoCard

/-- THE SECOND FORM's CARD OF 'chitilaw09.RiteRepaired'. -/
def riteRepairedUptoCard : Claim7 := { stood := { row := riteRepairedUptoRow, standIns := [], harness := (true, "376b80f4633cca043c83d1652b79e11020b8f3081dfa86be3e3dff3f771ffefe"), looks := false }, kinds := [], alts := [], laidByText := true, laidKinds := [.data, .data, .data, .data, .pinned], laidTests := true, laidLooks := .later }
def RiteRepairedUptoCardSaid : Prop := Claim7.holds Tryd.pinned (.plain (OpenSpec.upto riteRepairedSpec)) riteRepairedUptoCard

/-- THE SECOND FORM's CARD OF 'chitilaw09.RiteJudges'. -/
def riteJudgesUptoCard : Claim7 := { stood := { row := riteJudgesUptoRow, standIns := [], harness := (true, "376b80f4633cca043c83d1652b79e11020b8f3081dfa86be3e3dff3f771ffefe"), looks := false }, kinds := [], alts := [], laidByText := true, laidKinds := [.data, .data, .data, .data, .pinned], laidTests := true, laidLooks := .later }
def RiteJudgesUptoCardSaid : Prop := Claim7.holds Tryd.pinned (.plain (OpenSpec.upto riteJudgesSpec)) riteJudgesUptoCard

/-- THE SECOND FORM's CARD OF 'chitilaw09.RiteSpans'. -/
def riteSpansUptoCard : Claim7 := { stood := { row := riteSpansUptoRow, standIns := [], harness := (true, "376b80f4633cca043c83d1652b79e11020b8f3081dfa86be3e3dff3f771ffefe"), looks := false }, kinds := [], alts := [], laidByText := true, laidKinds := [.data, .data, .data, .data, .pinned], laidTests := true, laidLooks := .later }
def RiteSpansUptoCardSaid : Prop := Claim7.holds Tryd.pinned (.plain (OpenSpec.upto riteSpansSpec)) riteSpansUptoCard

/-- THE SECOND FORM's CARD OF 'chitilaw09.RiteOpens'. -/
def riteOpensUptoCard : Claim7 := { stood := { row := riteOpensUptoRow, standIns := [], harness := (true, "376b80f4633cca043c83d1652b79e11020b8f3081dfa86be3e3dff3f771ffefe"), looks := false }, kinds := [], alts := [], laidByText := true, laidKinds := [.data, .data, .data, .data, .pinned], laidTests := true, laidLooks := .later }
def RiteOpensUptoCardSaid : Prop := Claim7.holds Tryd.pinned (.plain (OpenSpec.upto riteOpensSpec)) riteOpensUptoCard
end Rows
end Go.Proofs.YtcgdalabenflmaaDoor
