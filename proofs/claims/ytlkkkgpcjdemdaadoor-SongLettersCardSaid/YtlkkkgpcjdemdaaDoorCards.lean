/-
  DERIVED. GIVEN WITH THE SEED: THE CARDS: each row of YtlkkkgpcjdemdaaDoorRows.lean that lists a variable, with what it lists TIED to the program's text (the seventh form; the later family's looks); each row that meets fmt, with fmt's text TOLD by the authors' own Lean function (tested against real Go, not proved from fmt's source: count such statements apart). THE CARD IS WHAT COUNTS. Prove the row's statement (the work); the ties are given (YtlkkkgpcjdemdaaDoorTie.lean); close each card by the builder's one call (the guide's Derived/Test/ToyasCard.lean, 'card_holds'). Laid BY PROGRAM, IN A SANDBOX (cutbox-door.mjs). By AI agents, Wed Nov 11 2026. No macro, syntax, notation, axiom, sorry.
-/
import Derived.Test.YtlkkkgpcjdemdaaDoorRows
import GoSem.ClaimSeven
namespace Go.Proofs.YtlkkkgpcjdemdaaDoor
namespace Rows

/-- THE TIED CARD OF 'chitilaw10.SongCows'. -/
def songCowsCard : Claim7 := { stood := { row := songCowsRow, standIns := [], harness := (true, "9c6a2fb55d1ffce8605a7bddf74f81652897d337daff0ed6fd4b428e7e7989a8"), looks := false }, kinds := [], alts := [], laidByText := true, laidKinds := [.data, .pinned], laidTests := true, laidLooks := .later }
def SongCowsCardSaid : Prop := Claim7.holds Tryd.pinned (.plain (OpenSpec.ofChange songCowsSpec)) songCowsCard

/-- THE TIED CARD OF 'chitilaw10.SongGifts'. -/
def songGiftsCard : Claim7 := { stood := { row := songGiftsRow, standIns := [], harness := (true, "9c6a2fb55d1ffce8605a7bddf74f81652897d337daff0ed6fd4b428e7e7989a8"), looks := false }, kinds := [], alts := [], laidByText := true, laidKinds := [.data, .pinned], laidTests := true, laidLooks := .later }
def SongGiftsCardSaid : Prop := Claim7.holds Tryd.pinned (.plain (OpenSpec.ofChange songGiftsSpec)) songGiftsCard

/-- THE TIED CARD OF 'chitilaw10.SongDays'. -/
def songDaysCard : Claim7 := { stood := { row := songDaysRow, standIns := [], harness := (true, "9c6a2fb55d1ffce8605a7bddf74f81652897d337daff0ed6fd4b428e7e7989a8"), looks := false }, kinds := [], alts := [], laidByText := true, laidKinds := [.data, .pinned], laidTests := true, laidLooks := .later }
def SongDaysCardSaid : Prop := Claim7.holds Tryd.pinned (.plain (OpenSpec.ofChange songDaysSpec)) songDaysCard

/-- THE TIED CARD OF 'chitilaw10.SongScans'. -/
def songScansCard : Claim7 := { stood := { row := songScansRow, standIns := [], harness := (true, "9c6a2fb55d1ffce8605a7bddf74f81652897d337daff0ed6fd4b428e7e7989a8"), looks := false }, kinds := [], alts := [], laidByText := true, laidKinds := [.data, .pinned], laidTests := true, laidLooks := .later }
def SongScansCardSaid : Prop := Claim7.holds Tryd.pinned (.plain (OpenSpec.ofChange songScansSpec)) songScansCard

/-- THE TIED CARD OF 'chitilaw10.SongLetters'. -/
def songLettersCard : Claim7 := { stood := { row := songLettersRow, standIns := [], harness := (true, "9c6a2fb55d1ffce8605a7bddf74f81652897d337daff0ed6fd4b428e7e7989a8"), looks := false }, kinds := [], alts := [], laidByText := true, laidKinds := [.data, .pinned], laidTests := true, laidLooks := .later }
def SongLettersCardSaid : Prop := Claim7.holds Tryd.pinned (.plain (OpenSpec.ofChange songLettersSpec)) songLettersCard

/-- THE TIED CARD OF 'chitilaw10.SongNexts'. -/
def songNextsCard : Claim7 := { stood := { row := songNextsRow, standIns := [], harness := (true, "9c6a2fb55d1ffce8605a7bddf74f81652897d337daff0ed6fd4b428e7e7989a8"), looks := false }, kinds := [], alts := [], laidByText := true, laidKinds := [.data, .pinned], laidTests := true, laidLooks := .later }
def SongNextsCardSaid : Prop := Claim7.holds Tryd.pinned (.plain (OpenSpec.ofChange songNextsSpec)) songNextsCard

/-- THE TIED CARD OF 'chitilaw10.SongWays'. -/
def songWaysCard : Claim7 := { stood := { row := songWaysRow, standIns := [], harness := (true, "9c6a2fb55d1ffce8605a7bddf74f81652897d337daff0ed6fd4b428e7e7989a8"), looks := false }, kinds := [], alts := [], laidByText := true, laidKinds := [.data, .pinned], laidTests := true, laidLooks := .later }
def SongWaysCardSaid : Prop := Claim7.holds Tryd.pinned (.plain (OpenSpec.ofChange songWaysSpec)) songWaysCard

/-- THE TIED CARD OF 'chitilaw10.SongPatterns'. -/
def songPatternsCard : Claim7 := { stood := { row := songPatternsRow, standIns := [], harness := (true, "9c6a2fb55d1ffce8605a7bddf74f81652897d337daff0ed6fd4b428e7e7989a8"), looks := false }, kinds := [], alts := [], laidByText := true, laidKinds := [.data, .pinned], laidTests := true, laidLooks := .later }
def SongPatternsCardSaid : Prop := Claim7.holds Tryd.pinned (.plain (OpenSpec.ofChange songPatternsSpec)) songPatternsCard

/-- THE TIED CARD OF 'chitilaw10.SongSunrises'. -/
def songSunrisesCard : Claim7 := { stood := { row := songSunrisesRow, standIns := [], harness := (true, "9c6a2fb55d1ffce8605a7bddf74f81652897d337daff0ed6fd4b428e7e7989a8"), looks := false }, kinds := [], alts := [], laidByText := true, laidKinds := [.data, .pinned], laidTests := true, laidLooks := .later }
def SongSunrisesCardSaid : Prop := Claim7.holds Tryd.pinned (.plain (OpenSpec.ofChange songSunrisesSpec)) songSunrisesCard

/-- THE TIED CARD OF 'chitilaw10.SongMetres'. -/
def songMetresCard : Claim7 := { stood := { row := songMetresRow, standIns := [], harness := (true, "9c6a2fb55d1ffce8605a7bddf74f81652897d337daff0ed6fd4b428e7e7989a8"), looks := false }, kinds := [], alts := [], laidByText := true, laidKinds := [.data, .pinned], laidTests := true, laidLooks := .later }
def SongMetresCardSaid : Prop := Claim7.holds Tryd.pinned (.plain (OpenSpec.ofChange songMetresSpec)) songMetresCard

/-- THE SECOND FORM's CARD OF 'chitilaw10.SongCows'. -/
def songCowsUptoCard : Claim7 := { stood := { row := songCowsUptoRow, standIns := [], harness := (true, "9c6a2fb55d1ffce8605a7bddf74f81652897d337daff0ed6fd4b428e7e7989a8"), looks := false }, kinds := [], alts := [], laidByText := true, laidKinds := [.data, .pinned], laidTests := true, laidLooks := .later }
def SongCowsUptoCardSaid : Prop := Claim7.holds Tryd.pinned (.plain (OpenSpec.upto songCowsSpec)) songCowsUptoCard

/-- THE SECOND FORM's CARD OF 'chitilaw10.SongGifts'. -/
def songGiftsUptoCard : Claim7 := { stood := { row := songGiftsUptoRow, standIns := [], harness := (true, "9c6a2fb55d1ffce8605a7bddf74f81652897d337daff0ed6fd4b428e7e7989a8"), looks := false }, kinds := [], alts := [], laidByText := true, laidKinds := [.data, .pinned], laidTests := true, laidLooks := .later }
def SongGiftsUptoCardSaid : Prop := Claim7.holds Tryd.pinned (.plain (OpenSpec.upto songGiftsSpec)) songGiftsUptoCard

/-- THE SECOND FORM's CARD OF 'chitilaw10.SongDays'. -/
def songDaysUptoCard : Claim7 := { stood := { row := songDaysUptoRow, standIns := [], harness := (true, "9c6a2fb55d1ffce8605a7bddf74f81652897d337daff0ed6fd4b428e7e7989a8"), looks := false }, kinds := [], alts := [], laidByText := true, laidKinds := [.data, .pinned], laidTests := true, laidLooks := .later }
def SongDaysUptoCardSaid : Prop := Claim7.holds Tryd.pinned (.plain (OpenSpec.upto songDaysSpec)) songDaysUptoCard

/-- THE SECOND FORM's CARD OF 'chitilaw10.SongScans'. -/
def songScansUptoCard : Claim7 := { stood := { row := songScansUptoRow, standIns := [], harness := (true, "9c6a2fb55d1ffce8605a7bddf74f81652897d337daff0ed6fd4b428e7e7989a8"), looks := false }, kinds := [], alts := [], laidByText := true, laidKinds := [.data, .pinned], laidTests := true, laidLooks := .later }
def SongScansUptoCardSaid : Prop := Claim7.holds Tryd.pinned (.plain (OpenSpec.upto songScansSpec)) songScansUptoCard

/-- THE SECOND FORM's CARD OF 'chitilaw10.SongLetters'. -/
def songLettersUptoCard : Claim7 := { stood := { row := songLettersUptoRow, standIns := [], harness := (true, "9c6a2fb55d1ffce8605a7bddf74f81652897d337daff0ed6fd4b428e7e7989a8"), looks := false }, kinds := [], alts := [], laidByText := true, laidKinds := [.data, .pinned], laidTests := true, laidLooks := .later }
def SongLettersUptoCardSaid : Prop := Claim7.holds Tryd.pinned (.plain (OpenSpec.upto songLettersSpec)) songLettersUptoCard

/-- THE SECOND FORM's CARD OF 'chitilaw10.SongNexts'. -/
def songNextsUptoCard : Claim7 := { stood := { row := songNextsUptoRow, standIns := [], harness := (true, "9c6a2fb55d1ffce8605a7bddf74f81652897d337daff0ed6fd4b428e7e7989a8"), looks := false }, kinds := [], alts := [], laidByText := true, laidKinds := [.data, .pinned], laidTests := true, laidLooks := .later }
def SongNextsUptoCardSaid : Prop := Claim7.holds Tryd.pinned (.plain (OpenSpec.upto songNextsSpec)) songNextsUptoCard

/-- THE SECOND FORM's CARD OF 'chitilaw10.SongWays'. -/
def songWaysUptoCard : Claim7 := { stood := { row := songWaysUptoRow, standIns := [], harness := (true, "9c6a2fb55d1ffce8605a7bddf74f81652897d337daff0ed6fd4b428e7e7989a8"), looks := false }, kinds := [], alts := [], laidByText := true, laidKinds := [.data, .pinned], laidTests := true, laidLooks := .later }
def SongWaysUptoCardSaid : Prop := Claim7.holds Tryd.pinned (.plain (OpenSpec.upto songWaysSpec)) songWaysUptoCard

/-- THE SECOND FORM's CARD OF 'chitilaw10.SongPatterns'. -/
def songPatternsUptoCard : Claim7 := { stood := { row := songPatternsUptoRow, standIns := [], harness := (true, "9c6a2fb55d1ffce8605a7bddf74f81652897d337daff0ed6fd4b428e7e7989a8"), looks := false }, kinds := [], alts := [], laidByText := true, laidKinds := [.data, .pinned], laidTests := true, laidLooks := .later }
def SongPatternsUptoCardSaid : Prop := Claim7.holds Tryd.pinned (.plain (OpenSpec.upto songPatternsSpec)) songPatternsUptoCard

/-- THE SECOND FORM's CARD OF 'chitilaw10.SongSunrises'. -/
def songSunrisesUptoCard : Claim7 := { stood := { row := songSunrisesUptoRow, standIns := [], harness := (true, "9c6a2fb55d1ffce8605a7bddf74f81652897d337daff0ed6fd4b428e7e7989a8"), looks := false }, kinds := [], alts := [], laidByText := true, laidKinds := [.data, .pinned], laidTests := true, laidLooks := .later }
def SongSunrisesUptoCardSaid : Prop := Claim7.holds Tryd.pinned (.plain (OpenSpec.upto songSunrisesSpec)) songSunrisesUptoCard

/-- THE SECOND FORM's CARD OF 'chitilaw10.SongMetres'. -/
def songMetresUptoCard : Claim7 := { stood := { row := songMetresUptoRow, standIns := [], harness := (true, "9c6a2fb55d1ffce8605a7bddf74f81652897d337daff0ed6fd4b428e7e7989a8"), looks := false }, kinds := [], alts := [], laidByText := true, laidKinds := [.data, .pinned], laidTests := true, laidLooks := .later }
def SongMetresUptoCardSaid : Prop := Claim7.holds Tryd.pinned (.plain (OpenSpec.upto songMetresSpec)) songMetresUptoCard
end Rows
end Go.Proofs.YtlkkkgpcjdemdaaDoor
