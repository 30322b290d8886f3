/-
  DERIVED. GIVEN WITH THE SEED: THE CARDS: each row of YtagjeeimglecnaaDoorRows.lean that lists a variable, with what it lists TIED to the program's text (the seventh form; the later family's looks); each row that meets fmt, with fmt's text TOLD by the authors' own Lean function (tested against real Go, not proved from fmt's source: count such statements apart). THE CARD IS WHAT COUNTS. Prove the row's statement (the work); the ties are given (YtagjeeimglecnaaDoorTie.lean); close each card by the builder's one call (the guide's Derived/Test/ToyasCard.lean, 'card_holds'). Laid BY PROGRAM, IN A SANDBOX (cutbox-door.mjs). By AI agents, Wed Nov 11 2026. No macro, syntax, notation, axiom, sorry.
-/
import Derived.Test.YtagjeeimglecnaaDoorRows
import GoSem.ClaimSeven
namespace Go.Proofs.YtagjeeimglecnaaDoor
namespace Rows

/-- THE TIED CARD OF 'chititop.TopFirings'. -/
def topFiringsCard : Claim7 := { stood := { row := topFiringsRow, standIns := [], harness := (true, "2e92dcd5f84424410bd225b108f158cfc1e25e94796026258fce9916b3d02a5e"), looks := false }, kinds := [], alts := [], laidByText := true, laidKinds := [.data, .data, .pinned], laidTests := true, laidLooks := .later }
def TopFiringsCardSaid : Prop := Claim7.holds Tryd.pinned (.plain (OpenSpec.ofChange topFiringsSpec)) topFiringsCard

/-- THE TIED CARD OF 'chititop.TopPrecepts'. -/
def topPreceptsCard : Claim7 := { stood := { row := topPreceptsRow, standIns := [], harness := (true, "2e92dcd5f84424410bd225b108f158cfc1e25e94796026258fce9916b3d02a5e"), looks := false }, kinds := [], alts := [], laidByText := true, laidKinds := [.data, .data, .pinned], laidTests := true, laidLooks := .later }
def TopPreceptsCardSaid : Prop := Claim7.holds Tryd.pinned (.plain (OpenSpec.ofChange topPreceptsSpec)) topPreceptsCard

/-- THE SECOND FORM's CARD OF 'chititop.TopFirings'. -/
def topFiringsUptoCard : Claim7 := { stood := { row := topFiringsUptoRow, standIns := [], harness := (true, "2e92dcd5f84424410bd225b108f158cfc1e25e94796026258fce9916b3d02a5e"), looks := false }, kinds := [], alts := [], laidByText := true, laidKinds := [.data, .data, .pinned], laidTests := true, laidLooks := .later }
def TopFiringsUptoCardSaid : Prop := Claim7.holds Tryd.pinned (.plain (OpenSpec.upto topFiringsSpec)) topFiringsUptoCard

/-- THE SECOND FORM's CARD OF 'chititop.TopPrecepts'. -/
def topPreceptsUptoCard : Claim7 := { stood := { row := topPreceptsUptoRow, standIns := [], harness := (true, "2e92dcd5f84424410bd225b108f158cfc1e25e94796026258fce9916b3d02a5e"), looks := false }, kinds := [], alts := [], laidByText := true, laidKinds := [.data, .data, .pinned], laidTests := true, laidLooks := .later }
def TopPreceptsUptoCardSaid : Prop := Claim7.holds Tryd.pinned (.plain (OpenSpec.upto topPreceptsSpec)) topPreceptsUptoCard
end Rows
end Go.Proofs.YtagjeeimglecnaaDoor
