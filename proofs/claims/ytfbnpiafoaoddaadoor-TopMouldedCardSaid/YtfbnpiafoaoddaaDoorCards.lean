/-
  DERIVED. GIVEN WITH THE SEED: THE CARDS: each row of YtfbnpiafoaoddaaDoorRows.lean that lists a variable, with what it lists TIED to the program's text (the seventh form; the later family's looks); each row that meets fmt, with fmt's text TOLD by the authors' own Lean function (tested against real Go, not proved from fmt's source: count such statements apart). THE CARD IS WHAT COUNTS. Prove the row's statement (the work); the ties are given (YtfbnpiafoaoddaaDoorTie.lean); close each card by the builder's one call (the guide's Derived/Test/ToyasCard.lean, 'card_holds'). Laid BY PROGRAM, IN A SANDBOX (cutbox-door.mjs). By AI agents, Wed Nov 11 2026. No macro, syntax, notation, axiom, sorry.
-/
import Derived.Test.YtfbnpiafoaoddaaDoorRows
import GoSem.ClaimSeven
namespace Go.Proofs.YtfbnpiafoaoddaaDoor
namespace Rows

/-- THE TIED CARD OF 'chititop.TopMoulded'. -/
def topMouldedCard : Claim7 := { stood := { row := topMouldedRow, standIns := [], harness := (true, "e2e3fc1f28da0877887ed0e77fe01b05675c31b9853cc4256a6ba8e9c2e68a1f"), looks := false }, kinds := [], alts := [], laidByText := true, laidKinds := [.data, .pinned], laidTests := true, laidLooks := .later }
def TopMouldedCardSaid : Prop := Claim7.holds Tryd.pinned (.plain (OpenSpec.ofChange topMouldedSpec)) topMouldedCard

/-- THE SECOND FORM's CARD OF 'chititop.TopMoulded'. -/
def topMouldedUptoCard : Claim7 := { stood := { row := topMouldedUptoRow, standIns := [], harness := (true, "e2e3fc1f28da0877887ed0e77fe01b05675c31b9853cc4256a6ba8e9c2e68a1f"), looks := false }, kinds := [], alts := [], laidByText := true, laidKinds := [.data, .pinned], laidTests := true, laidLooks := .later }
def TopMouldedUptoCardSaid : Prop := Claim7.holds Tryd.pinned (.plain (OpenSpec.upto topMouldedSpec)) topMouldedUptoCard
end Rows
end Go.Proofs.YtfbnpiafoaoddaaDoor
