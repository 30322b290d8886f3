/-
  NARROWER THAN 'FOR EVERY INPUT', by the rows' own cells (each row's printed sentence says how): SongCows: laid · SongGifts: laid · SongDays: laid · SongScans: laid · SongLetters: laid · SongNexts: laid · SongWays: laid · SongPatterns: laid · SongSunrises: laid · SongMetres: laid.
  DERIVED. THE GIVEN ROWS OF THIS SEAT. 10 by the template 'for every input the law returns true; each argument reads behind the call as it read before'; 0 by the template 'total and deterministic' (their statements: YtlkkkgpcjdemdaaDoorTotals.lean).
  GIVEN WITH THE SEED: the statements are not yours to turn. If you find one false, say at which input.
  Laid BY PROGRAM, IN A SANDBOX (cutbox-rows.mjs): the forced cells as the released guide's own fill.sh prints them over the translation 3ff3bddfc345bc52… (all of the seat's roots in one cut). By AI agents, Wed Nov 11 2026. No macro, syntax, notation, axiom, sorry.
-/
import Derived.Test.YtlkkkgpcjdemdaaDoorChecked
import GoSem.PinnedTables
import GoSem.Claim
import GoSem.ClaimJoined
import GoSem.ClaimMapViews
import Derived.JoinedTies
import Derived.KernelRfl
namespace Go.Proofs.YtlkkkgpcjdemdaaDoor
/- THE CELL 'sum', in the pinned program and in every row, IS THE sha256 OF THE DUMP (.gsa) THAT YtlkkkgpcjdemdaaDoorProg.lean LOADS. Nothing in Lean hashes anything: it is a label: what it is worth is what the hold of that sum in a sandbox is worth. -/
noncomputable def Tryd.pinned : Pinned := { name := "ytlkkkgpcjdemdaadoor", sum := "3ff3bddfc345bc527a674397b25299b7535449336dfef44e098bd0ea498b5b80", checked := Tryd.checked }
namespace Rows
def none {H : Type} : Left H := { results := [], args := [] }

/- WHAT THE LISTED PACKAGE-LEVEL VARIABLES READ AS WHEN THE CALL BEGINS. Each datum BY PROGRAM (the guide's laid-datum.mjs) off the statement by which the dump's own 'gosem.cut.vars' lays the variable. In a bare row this is a premise. The card (YtlkkkgpcjdemdaaDoorCards.lean) ties it to the program's text. -/
def laid_unicode_utf8_acceptRanges {H : Type} : DataW H := .agg [.agg [.lit (.int .u8 128), .lit (.int .u8 191)], .agg [.lit (.int .u8 160), .lit (.int .u8 191)], .agg [.lit (.int .u8 128), .lit (.int .u8 159)], .agg [.lit (.int .u8 144), .lit (.int .u8 191)], .agg [.lit (.int .u8 128), .lit (.int .u8 143)], .agg [.lit (.int .u8 0), .lit (.int .u8 0)], .agg [.lit (.int .u8 0), .lit (.int .u8 0)], .agg [.lit (.int .u8 0), .lit (.int .u8 0)], .agg [.lit (.int .u8 0), .lit (.int .u8 0)], .agg [.lit (.int .u8 0), .lit (.int .u8 0)], .agg [.lit (.int .u8 0), .lit (.int .u8 0)], .agg [.lit (.int .u8 0), .lit (.int .u8 0)], .agg [.lit (.int .u8 0), .lit (.int .u8 0)], .agg [.lit (.int .u8 0), .lit (.int .u8 0)], .agg [.lit (.int .u8 0), .lit (.int .u8 0)], .agg [.lit (.int .u8 0), .lit (.int .u8 0)]]
/-- One of Go's own tables, pinned by name: the form's constant. -/
def laid_unicode_utf8_first : DataW Unit := Go.Pinned.utf8First

/-- 'chitilaw10.SongCows': WHATEVER THE INPUT: true; the input reads as it did. -/
def songCowsSpec : ChangeSpec := { name := "songCows", fn := fun _ => fun
  | [d1, d2, d3] => { results := [.lit (.bool true)], args := [d1, d2, d3] }
  | _ => none }
def songCowsRow : OpenClaim := { program := "ytlkkkgpcjdemdaadoor", sum := "3ff3bddfc345bc527a674397b25299b7535449336dfef44e098bd0ea498b5b80", func := "chiti/chitilaw10.SongCows", spec := "songCows", inPlace := ["internal/bytealg.IndexByteString", "internal/bytealg.IndexString", "internal/bytealg.CountString", "internal/abi.NoEscape", "internal/bytealg.MakeNoZero"], unfollowed := true, recurses := true, named := ["unicode/utf8.first", "unicode/utf8.acceptRanges", "internal/bytealg.MaxLen"], plainKeys := false, apart := false, laid := [("unicode/utf8.acceptRanges", laid_unicode_utf8_acceptRanges), ("unicode/utf8.first", laid_unicode_utf8_first)] }
def SongCowsSaid : Prop := songCowsRow.holds Tryd.pinned (OpenSpec.ofChange songCowsSpec)

/-- ITS FALSE NEIGHBOUR: 'it returns false'. Refute it at one input. -/
def songCowsWrong : ChangeSpec := { name := "songCows", fn := fun _ => fun
  | [d1, d2, d3] => { results := [.lit (.bool false)], args := [d1, d2, d3] }
  | _ => none }
def SongCowsWrongFalsely : Prop := songCowsRow.holds Tryd.pinned (OpenSpec.ofChange songCowsWrong)

/-- 'chitilaw10.SongGifts': WHATEVER THE INPUT: true; the input reads as it did. -/
def songGiftsSpec : ChangeSpec := { name := "songGifts", fn := fun _ => fun
  | [d1, d2, d3] => { results := [.lit (.bool true)], args := [d1, d2, d3] }
  | _ => none }
def songGiftsRow : OpenClaim := { program := "ytlkkkgpcjdemdaadoor", sum := "3ff3bddfc345bc527a674397b25299b7535449336dfef44e098bd0ea498b5b80", func := "chiti/chitilaw10.SongGifts", spec := "songGifts", inPlace := ["internal/bytealg.IndexByteString", "internal/bytealg.IndexString", "internal/bytealg.CountString", "internal/abi.NoEscape", "internal/bytealg.MakeNoZero"], unfollowed := true, recurses := true, named := ["unicode/utf8.first", "unicode/utf8.acceptRanges", "internal/bytealg.MaxLen"], plainKeys := false, apart := false, laid := [("unicode/utf8.acceptRanges", laid_unicode_utf8_acceptRanges), ("unicode/utf8.first", laid_unicode_utf8_first)] }
def SongGiftsSaid : Prop := songGiftsRow.holds Tryd.pinned (OpenSpec.ofChange songGiftsSpec)

/-- ITS FALSE NEIGHBOUR: 'it returns false'. Refute it at one input. -/
def songGiftsWrong : ChangeSpec := { name := "songGifts", fn := fun _ => fun
  | [d1, d2, d3] => { results := [.lit (.bool false)], args := [d1, d2, d3] }
  | _ => none }
def SongGiftsWrongFalsely : Prop := songGiftsRow.holds Tryd.pinned (OpenSpec.ofChange songGiftsWrong)

/-- 'chitilaw10.SongDays': WHATEVER THE INPUT: true; the input reads as it did. -/
def songDaysSpec : ChangeSpec := { name := "songDays", fn := fun _ => fun
  | [d1, d2, d3] => { results := [.lit (.bool true)], args := [d1, d2, d3] }
  | _ => none }
def songDaysRow : OpenClaim := { program := "ytlkkkgpcjdemdaadoor", sum := "3ff3bddfc345bc527a674397b25299b7535449336dfef44e098bd0ea498b5b80", func := "chiti/chitilaw10.SongDays", spec := "songDays", inPlace := ["internal/bytealg.IndexByteString", "internal/bytealg.IndexString", "internal/bytealg.CountString", "internal/abi.NoEscape", "internal/bytealg.MakeNoZero"], unfollowed := true, recurses := true, named := ["unicode/utf8.first", "unicode/utf8.acceptRanges", "internal/bytealg.MaxLen"], plainKeys := false, apart := false, laid := [("unicode/utf8.acceptRanges", laid_unicode_utf8_acceptRanges), ("unicode/utf8.first", laid_unicode_utf8_first)] }
def SongDaysSaid : Prop := songDaysRow.holds Tryd.pinned (OpenSpec.ofChange songDaysSpec)

/-- ITS FALSE NEIGHBOUR: 'it returns false'. Refute it at one input. -/
def songDaysWrong : ChangeSpec := { name := "songDays", fn := fun _ => fun
  | [d1, d2, d3] => { results := [.lit (.bool false)], args := [d1, d2, d3] }
  | _ => none }
def SongDaysWrongFalsely : Prop := songDaysRow.holds Tryd.pinned (OpenSpec.ofChange songDaysWrong)

/-- 'chitilaw10.SongScans': WHATEVER THE INPUT: true; the input reads as it did. -/
def songScansSpec : ChangeSpec := { name := "songScans", fn := fun _ => fun
  | [d] => { results := [.lit (.bool true)], args := [d] }
  | _ => none }
def songScansRow : OpenClaim := { program := "ytlkkkgpcjdemdaadoor", sum := "3ff3bddfc345bc527a674397b25299b7535449336dfef44e098bd0ea498b5b80", func := "chiti/chitilaw10.SongScans", spec := "songScans", inPlace := ["internal/bytealg.IndexByteString", "internal/bytealg.IndexString", "internal/bytealg.CountString", "internal/abi.NoEscape", "internal/bytealg.MakeNoZero"], unfollowed := true, recurses := true, named := ["unicode/utf8.first", "unicode/utf8.acceptRanges", "internal/bytealg.MaxLen"], plainKeys := false, apart := false, laid := [("unicode/utf8.acceptRanges", laid_unicode_utf8_acceptRanges), ("unicode/utf8.first", laid_unicode_utf8_first)] }
def SongScansSaid : Prop := songScansRow.holds Tryd.pinned (OpenSpec.ofChange songScansSpec)

/-- ITS FALSE NEIGHBOUR: 'it returns false'. Refute it at one input. -/
def songScansWrong : ChangeSpec := { name := "songScans", fn := fun _ => fun
  | [d] => { results := [.lit (.bool false)], args := [d] }
  | _ => none }
def SongScansWrongFalsely : Prop := songScansRow.holds Tryd.pinned (OpenSpec.ofChange songScansWrong)

/-- 'chitilaw10.SongLetters': WHATEVER THE INPUT: true; the input reads as it did. -/
def songLettersSpec : ChangeSpec := { name := "songLetters", fn := fun _ => fun
  | [d] => { results := [.lit (.bool true)], args := [d] }
  | _ => none }
def songLettersRow : OpenClaim := { program := "ytlkkkgpcjdemdaadoor", sum := "3ff3bddfc345bc527a674397b25299b7535449336dfef44e098bd0ea498b5b80", func := "chiti/chitilaw10.SongLetters", spec := "songLetters", inPlace := ["internal/bytealg.IndexByteString", "internal/bytealg.IndexString", "internal/bytealg.CountString", "internal/abi.NoEscape", "internal/bytealg.MakeNoZero"], unfollowed := true, recurses := true, named := ["unicode/utf8.first", "unicode/utf8.acceptRanges", "internal/bytealg.MaxLen"], plainKeys := false, apart := false, laid := [("unicode/utf8.acceptRanges", laid_unicode_utf8_acceptRanges), ("unicode/utf8.first", laid_unicode_utf8_first)] }
def SongLettersSaid : Prop := songLettersRow.holds Tryd.pinned (OpenSpec.ofChange songLettersSpec)

/-- ITS FALSE NEIGHBOUR: 'it returns false'. Refute it at one input. -/
def songLettersWrong : ChangeSpec := { name := "songLetters", fn := fun _ => fun
  | [d] => { results := [.lit (.bool false)], args := [d] }
  | _ => none }
def SongLettersWrongFalsely : Prop := songLettersRow.holds Tryd.pinned (OpenSpec.ofChange songLettersWrong)

/-- 'chitilaw10.SongNexts': WHATEVER THE INPUT: true; the input reads as it did. -/
def songNextsSpec : ChangeSpec := { name := "songNexts", fn := fun _ => fun
  | [d1, d2] => { results := [.lit (.bool true)], args := [d1, d2] }
  | _ => none }
def songNextsRow : OpenClaim := { program := "ytlkkkgpcjdemdaadoor", sum := "3ff3bddfc345bc527a674397b25299b7535449336dfef44e098bd0ea498b5b80", func := "chiti/chitilaw10.SongNexts", spec := "songNexts", inPlace := ["internal/bytealg.IndexByteString", "internal/bytealg.IndexString", "internal/bytealg.CountString", "internal/abi.NoEscape", "internal/bytealg.MakeNoZero"], unfollowed := true, recurses := true, named := ["unicode/utf8.first", "unicode/utf8.acceptRanges", "internal/bytealg.MaxLen"], plainKeys := false, apart := false, laid := [("unicode/utf8.acceptRanges", laid_unicode_utf8_acceptRanges), ("unicode/utf8.first", laid_unicode_utf8_first)] }
def SongNextsSaid : Prop := songNextsRow.holds Tryd.pinned (OpenSpec.ofChange songNextsSpec)

/-- ITS FALSE NEIGHBOUR: 'it returns false'. Refute it at one input. -/
def songNextsWrong : ChangeSpec := { name := "songNexts", fn := fun _ => fun
  | [d1, d2] => { results := [.lit (.bool false)], args := [d1, d2] }
  | _ => none }
def SongNextsWrongFalsely : Prop := songNextsRow.holds Tryd.pinned (OpenSpec.ofChange songNextsWrong)

/-- 'chitilaw10.SongWays': WHATEVER THE INPUT: true; the input reads as it did. -/
def songWaysSpec : ChangeSpec := { name := "songWays", fn := fun _ => fun
  | [d1, d2, d3] => { results := [.lit (.bool true)], args := [d1, d2, d3] }
  | _ => none }
def songWaysRow : OpenClaim := { program := "ytlkkkgpcjdemdaadoor", sum := "3ff3bddfc345bc527a674397b25299b7535449336dfef44e098bd0ea498b5b80", func := "chiti/chitilaw10.SongWays", spec := "songWays", inPlace := ["internal/bytealg.IndexByteString", "internal/bytealg.IndexString", "internal/bytealg.CountString", "internal/abi.NoEscape", "internal/bytealg.MakeNoZero"], unfollowed := true, recurses := true, named := ["unicode/utf8.first", "unicode/utf8.acceptRanges", "internal/bytealg.MaxLen"], plainKeys := false, apart := false, laid := [("unicode/utf8.acceptRanges", laid_unicode_utf8_acceptRanges), ("unicode/utf8.first", laid_unicode_utf8_first)] }
def SongWaysSaid : Prop := songWaysRow.holds Tryd.pinned (OpenSpec.ofChange songWaysSpec)

/-- ITS FALSE NEIGHBOUR: 'it returns false'. Refute it at one input. -/
def songWaysWrong : ChangeSpec := { name := "songWays", fn := fun _ => fun
  | [d1, d2, d3] => { results := [.lit (.bool false)], args := [d1, d2, d3] }
  | _ => none }
def SongWaysWrongFalsely : Prop := songWaysRow.holds Tryd.pinned (OpenSpec.ofChange songWaysWrong)

/-- 'chitilaw10.SongPatterns': WHATEVER THE INPUT: true; the input reads as it did. -/
def songPatternsSpec : ChangeSpec := { name := "songPatterns", fn := fun _ => fun
  | [d1, d2, d3] => { results := [.lit (.bool true)], args := [d1, d2, d3] }
  | _ => none }
def songPatternsRow : OpenClaim := { program := "ytlkkkgpcjdemdaadoor", sum := "3ff3bddfc345bc527a674397b25299b7535449336dfef44e098bd0ea498b5b80", func := "chiti/chitilaw10.SongPatterns", spec := "songPatterns", inPlace := ["internal/bytealg.IndexByteString", "internal/bytealg.IndexString", "internal/bytealg.CountString", "internal/abi.NoEscape", "internal/bytealg.MakeNoZero"], unfollowed := true, recurses := true, named := ["unicode/utf8.first", "unicode/utf8.acceptRanges", "internal/bytealg.MaxLen"], plainKeys := false, apart := false, laid := [("unicode/utf8.acceptRanges", laid_unicode_utf8_acceptRanges), ("unicode/utf8.first", laid_unicode_utf8_first)] }
def SongPatternsSaid : Prop := songPatternsRow.holds Tryd.pinned (OpenSpec.ofChange songPatternsSpec)

/-- ITS FALSE NEIGHBOUR: 'it returns false'. Refute it at one input. -/
def songPatternsWrong : ChangeSpec := { name := "songPatterns", fn := fun _ => fun
  | [d1, d2, d3] => { results := [.lit (.bool false)], args := [d1, d2, d3] }
  | _ => none }
def SongPatternsWrongFalsely : Prop := songPatternsRow.holds Tryd.pinned (OpenSpec.ofChange songPatternsWrong)

/-- 'chitilaw10.SongSunrises': WHATEVER THE INPUT: true; the input reads as it did. -/
def songSunrisesSpec : ChangeSpec := { name := "songSunrises", fn := fun _ => fun
  | [d] => { results := [.lit (.bool true)], args := [d] }
  | _ => none }
def songSunrisesRow : OpenClaim := { program := "ytlkkkgpcjdemdaadoor", sum := "3ff3bddfc345bc527a674397b25299b7535449336dfef44e098bd0ea498b5b80", func := "chiti/chitilaw10.SongSunrises", spec := "songSunrises", inPlace := ["internal/bytealg.IndexByteString", "internal/bytealg.IndexString", "internal/bytealg.CountString", "internal/abi.NoEscape", "internal/bytealg.MakeNoZero"], unfollowed := true, recurses := true, named := ["unicode/utf8.first", "unicode/utf8.acceptRanges", "internal/bytealg.MaxLen"], plainKeys := false, apart := false, laid := [("unicode/utf8.acceptRanges", laid_unicode_utf8_acceptRanges), ("unicode/utf8.first", laid_unicode_utf8_first)] }
def SongSunrisesSaid : Prop := songSunrisesRow.holds Tryd.pinned (OpenSpec.ofChange songSunrisesSpec)

/-- ITS FALSE NEIGHBOUR: 'it returns false'. Refute it at one input. -/
def songSunrisesWrong : ChangeSpec := { name := "songSunrises", fn := fun _ => fun
  | [d] => { results := [.lit (.bool false)], args := [d] }
  | _ => none }
def SongSunrisesWrongFalsely : Prop := songSunrisesRow.holds Tryd.pinned (OpenSpec.ofChange songSunrisesWrong)

/-- 'chitilaw10.SongMetres': WHATEVER THE INPUT: true; the input reads as it did. -/
def songMetresSpec : ChangeSpec := { name := "songMetres", fn := fun _ => fun
  | [d1, d2] => { results := [.lit (.bool true)], args := [d1, d2] }
  | _ => none }
def songMetresRow : OpenClaim := { program := "ytlkkkgpcjdemdaadoor", sum := "3ff3bddfc345bc527a674397b25299b7535449336dfef44e098bd0ea498b5b80", func := "chiti/chitilaw10.SongMetres", spec := "songMetres", inPlace := ["internal/bytealg.IndexByteString", "internal/bytealg.IndexString", "internal/bytealg.CountString", "internal/abi.NoEscape", "internal/bytealg.MakeNoZero"], unfollowed := true, recurses := true, named := ["unicode/utf8.first", "unicode/utf8.acceptRanges", "internal/bytealg.MaxLen"], plainKeys := false, apart := false, laid := [("unicode/utf8.acceptRanges", laid_unicode_utf8_acceptRanges), ("unicode/utf8.first", laid_unicode_utf8_first)] }
def SongMetresSaid : Prop := songMetresRow.holds Tryd.pinned (OpenSpec.ofChange songMetresSpec)

/-- ITS FALSE NEIGHBOUR: 'it returns false'. Refute it at one input. -/
def songMetresWrong : ChangeSpec := { name := "songMetres", fn := fun _ => fun
  | [d1, d2] => { results := [.lit (.bool false)], args := [d1, d2] }
  | _ => none }
def SongMetresWrongFalsely : Prop := songMetresRow.holds Tryd.pinned (OpenSpec.ofChange songMetresWrong)

/- THE SECOND FORM. 'bulk': how many values and letters a reading holds, each counted each time it is reached (what is shared counts as often as it is met; a slice's spare places count too). A statement '..UptoSaid' is the law's where the arguments, and the package variables that the reading takes, are together of bulk at most 1048576: NARROWER than '..Said'. Prove '..Said' where nothing that the law and all that it calls make is longer than what came in: it says more and counts as full. Else prove '..UptoSaid'. A law counts once. -/
mutual
def uptoBulk {H : Type} : DataW H → Nat
  | .lit (.string bytes) => bytes.length + 1
  | .lit _ => 1
  | .nil => 1
  | .ptr d => uptoBulk d + 1
  | .slice elems spare => uptoBulkAll elems + uptoBulkAll spare + 1
  | .agg parts => uptoBulkAll parts + 1
  | .iface _ d => uptoBulk d + 1
  | .map entries => uptoBulkEntries entries + 1
  | .held _ => 1
def uptoBulkAll {H : Type} : List (DataW H) → Nat
  | [] => 0
  | d :: r => uptoBulk d + uptoBulkAll r
def uptoBulkEntries {H : Type} : List (Lit × DataW H) → Nat
  | [] => 0
  | x :: r => uptoBulkEntry x + uptoBulkEntries r
def uptoBulkEntry {H : Type} : Lit × DataW H → Nat
  | (.string bytes, d) => bytes.length + uptoBulk d + 1
  | (_, d) => uptoBulk d + 1
 end
def uptoSmall : (H : Type) → List (DataW H) → Bool := fun _ ds => decide (uptoBulkAll ds ≤ 1048576)
def OpenSpec.upto (s : _root_.Go.ChangeSpec) : _root_.Go.OpenSpec := { _root_.Go.OpenSpec.ofChange s with cond := some uptoSmall }

/-- 'chitilaw10.SongCows', WHERE WHAT IT READS IS OF BULK AT MOST 1048576: true; the input reads as it did. -/
def songCowsUptoRow : OpenClaim := { program := "ytlkkkgpcjdemdaadoor", sum := "3ff3bddfc345bc527a674397b25299b7535449336dfef44e098bd0ea498b5b80", func := "chiti/chitilaw10.SongCows", spec := "songCows", inPlace := ["internal/bytealg.IndexByteString", "internal/bytealg.IndexString", "internal/bytealg.CountString", "internal/abi.NoEscape", "internal/bytealg.MakeNoZero"], unfollowed := true, recurses := true, named := ["unicode/utf8.first", "unicode/utf8.acceptRanges", "internal/bytealg.MaxLen"], plainKeys := false, apart := false, laid := [("unicode/utf8.acceptRanges", laid_unicode_utf8_acceptRanges), ("unicode/utf8.first", laid_unicode_utf8_first)], narrowed := true }
def SongCowsUptoSaid : Prop := songCowsUptoRow.holds Tryd.pinned (OpenSpec.upto songCowsSpec)

/-- 'chitilaw10.SongGifts', WHERE WHAT IT READS IS OF BULK AT MOST 1048576: true; the input reads as it did. -/
def songGiftsUptoRow : OpenClaim := { program := "ytlkkkgpcjdemdaadoor", sum := "3ff3bddfc345bc527a674397b25299b7535449336dfef44e098bd0ea498b5b80", func := "chiti/chitilaw10.SongGifts", spec := "songGifts", inPlace := ["internal/bytealg.IndexByteString", "internal/bytealg.IndexString", "internal/bytealg.CountString", "internal/abi.NoEscape", "internal/bytealg.MakeNoZero"], unfollowed := true, recurses := true, named := ["unicode/utf8.first", "unicode/utf8.acceptRanges", "internal/bytealg.MaxLen"], plainKeys := false, apart := false, laid := [("unicode/utf8.acceptRanges", laid_unicode_utf8_acceptRanges), ("unicode/utf8.first", laid_unicode_utf8_first)], narrowed := true }
def SongGiftsUptoSaid : Prop := songGiftsUptoRow.holds Tryd.pinned (OpenSpec.upto songGiftsSpec)

/-- 'chitilaw10.SongDays', WHERE WHAT IT READS IS OF BULK AT MOST 1048576: true; the input reads as it did. -/
def songDaysUptoRow : OpenClaim := { program := "ytlkkkgpcjdemdaadoor", sum := "3ff3bddfc345bc527a674397b25299b7535449336dfef44e098bd0ea498b5b80", func := "chiti/chitilaw10.SongDays", spec := "songDays", inPlace := ["internal/bytealg.IndexByteString", "internal/bytealg.IndexString", "internal/bytealg.CountString", "internal/abi.NoEscape", "internal/bytealg.MakeNoZero"], unfollowed := true, recurses := true, named := ["unicode/utf8.first", "unicode/utf8.acceptRanges", "internal/bytealg.MaxLen"], plainKeys := false, apart := false, laid := [("unicode/utf8.acceptRanges", laid_unicode_utf8_acceptRanges), ("unicode/utf8.first", laid_unicode_utf8_first)], narrowed := true }
def SongDaysUptoSaid : Prop := songDaysUptoRow.holds Tryd.pinned (OpenSpec.upto songDaysSpec)

/-- 'chitilaw10.SongScans', WHERE WHAT IT READS IS OF BULK AT MOST 1048576: true; the input reads as it did. -/
def songScansUptoRow : OpenClaim := { program := "ytlkkkgpcjdemdaadoor", sum := "3ff3bddfc345bc527a674397b25299b7535449336dfef44e098bd0ea498b5b80", func := "chiti/chitilaw10.SongScans", spec := "songScans", inPlace := ["internal/bytealg.IndexByteString", "internal/bytealg.IndexString", "internal/bytealg.CountString", "internal/abi.NoEscape", "internal/bytealg.MakeNoZero"], unfollowed := true, recurses := true, named := ["unicode/utf8.first", "unicode/utf8.acceptRanges", "internal/bytealg.MaxLen"], plainKeys := false, apart := false, laid := [("unicode/utf8.acceptRanges", laid_unicode_utf8_acceptRanges), ("unicode/utf8.first", laid_unicode_utf8_first)], narrowed := true }
def SongScansUptoSaid : Prop := songScansUptoRow.holds Tryd.pinned (OpenSpec.upto songScansSpec)

/-- 'chitilaw10.SongLetters', WHERE WHAT IT READS IS OF BULK AT MOST 1048576: true; the input reads as it did. -/
def songLettersUptoRow : OpenClaim := { program := "ytlkkkgpcjdemdaadoor", sum := "3ff3bddfc345bc527a674397b25299b7535449336dfef44e098bd0ea498b5b80", func := "chiti/chitilaw10.SongLetters", spec := "songLetters", inPlace := ["internal/bytealg.IndexByteString", "internal/bytealg.IndexString", "internal/bytealg.CountString", "internal/abi.NoEscape", "internal/bytealg.MakeNoZero"], unfollowed := true, recurses := true, named := ["unicode/utf8.first", "unicode/utf8.acceptRanges", "internal/bytealg.MaxLen"], plainKeys := false, apart := false, laid := [("unicode/utf8.acceptRanges", laid_unicode_utf8_acceptRanges), ("unicode/utf8.first", laid_unicode_utf8_first)], narrowed := true }
def SongLettersUptoSaid : Prop := songLettersUptoRow.holds Tryd.pinned (OpenSpec.upto songLettersSpec)

/-- 'chitilaw10.SongNexts', WHERE WHAT IT READS IS OF BULK AT MOST 1048576: true; the input reads as it did. -/
def songNextsUptoRow : OpenClaim := { program := "ytlkkkgpcjdemdaadoor", sum := "3ff3bddfc345bc527a674397b25299b7535449336dfef44e098bd0ea498b5b80", func := "chiti/chitilaw10.SongNexts", spec := "songNexts", inPlace := ["internal/bytealg.IndexByteString", "internal/bytealg.IndexString", "internal/bytealg.CountString", "internal/abi.NoEscape", "internal/bytealg.MakeNoZero"], unfollowed := true, recurses := true, named := ["unicode/utf8.first", "unicode/utf8.acceptRanges", "internal/bytealg.MaxLen"], plainKeys := false, apart := false, laid := [("unicode/utf8.acceptRanges", laid_unicode_utf8_acceptRanges), ("unicode/utf8.first", laid_unicode_utf8_first)], narrowed := true }
def SongNextsUptoSaid : Prop := songNextsUptoRow.holds Tryd.pinned (OpenSpec.upto songNextsSpec)

/-- 'chitilaw10.SongWays', WHERE WHAT IT READS IS OF BULK AT MOST 1048576: true; the input reads as it did. -/
def songWaysUptoRow : OpenClaim := { program := "ytlkkkgpcjdemdaadoor", sum := "3ff3bddfc345bc527a674397b25299b7535449336dfef44e098bd0ea498b5b80", func := "chiti/chitilaw10.SongWays", spec := "songWays", inPlace := ["internal/bytealg.IndexByteString", "internal/bytealg.IndexString", "internal/bytealg.CountString", "internal/abi.NoEscape", "internal/bytealg.MakeNoZero"], unfollowed := true, recurses := true, named := ["unicode/utf8.first", "unicode/utf8.acceptRanges", "internal/bytealg.MaxLen"], plainKeys := false, apart := false, laid := [("unicode/utf8.acceptRanges", laid_unicode_utf8_acceptRanges), ("unicode/utf8.first", laid_unicode_utf8_first)], narrowed := true }
def SongWaysUptoSaid : Prop := songWaysUptoRow.holds Tryd.pinned (OpenSpec.upto songWaysSpec)

/-- 'chitilaw10.SongPatterns', WHERE WHAT IT READS IS OF BULK AT MOST 1048576: true; the input reads as it did. -/
def songPatternsUptoRow : OpenClaim := { program := "ytlkkkgpcjdemdaadoor", sum := "3ff3bddfc345bc527a674397b25299b7535449336dfef44e098bd0ea498b5b80", func := "chiti/chitilaw10.SongPatterns", spec := "songPatterns", inPlace := ["internal/bytealg.IndexByteString", "internal/bytealg.IndexString", "internal/bytealg.CountString", "internal/abi.NoEscape", "internal/bytealg.MakeNoZero"], unfollowed := true, recurses := true, named := ["unicode/utf8.first", "unicode/utf8.acceptRanges", "internal/bytealg.MaxLen"], plainKeys := false, apart := false, laid := [("unicode/utf8.acceptRanges", laid_unicode_utf8_acceptRanges), ("unicode/utf8.first", laid_unicode_utf8_first)], narrowed := true }
def SongPatternsUptoSaid : Prop := songPatternsUptoRow.holds Tryd.pinned (OpenSpec.upto songPatternsSpec)

/-- 'chitilaw10.SongSunrises', WHERE WHAT IT READS IS OF BULK AT MOST 1048576: true; the input reads as it did. -/
def songSunrisesUptoRow : OpenClaim := { program := "ytlkkkgpcjdemdaadoor", sum := "3ff3bddfc345bc527a674397b25299b7535449336dfef44e098bd0ea498b5b80", func := "chiti/chitilaw10.SongSunrises", spec := "songSunrises", inPlace := ["internal/bytealg.IndexByteString", "internal/bytealg.IndexString", "internal/bytealg.CountString", "internal/abi.NoEscape", "internal/bytealg.MakeNoZero"], unfollowed := true, recurses := true, named := ["unicode/utf8.first", "unicode/utf8.acceptRanges", "internal/bytealg.MaxLen"], plainKeys := false, apart := false, laid := [("unicode/utf8.acceptRanges", laid_unicode_utf8_acceptRanges), ("unicode/utf8.first", laid_unicode_utf8_first)], narrowed := true }
def SongSunrisesUptoSaid : Prop := songSunrisesUptoRow.holds Tryd.pinned (OpenSpec.upto songSunrisesSpec)

/-- 'chitilaw10.SongMetres', WHERE WHAT IT READS IS OF BULK AT MOST 1048576: true; the input reads as it did. -/
def songMetresUptoRow : OpenClaim := { program := "ytlkkkgpcjdemdaadoor", sum := "3ff3bddfc345bc527a674397b25299b7535449336dfef44e098bd0ea498b5b80", func := "chiti/chitilaw10.SongMetres", spec := "songMetres", inPlace := ["internal/bytealg.IndexByteString", "internal/bytealg.IndexString", "internal/bytealg.CountString", "internal/abi.NoEscape", "internal/bytealg.MakeNoZero"], unfollowed := true, recurses := true, named := ["unicode/utf8.first", "unicode/utf8.acceptRanges", "internal/bytealg.MaxLen"], plainKeys := false, apart := false, laid := [("unicode/utf8.acceptRanges", laid_unicode_utf8_acceptRanges), ("unicode/utf8.first", laid_unicode_utf8_first)], narrowed := true }
def SongMetresUptoSaid : Prop := songMetresUptoRow.holds Tryd.pinned (OpenSpec.upto songMetresSpec)

end Rows
end Go.Proofs.YtlkkkgpcjdemdaaDoor
