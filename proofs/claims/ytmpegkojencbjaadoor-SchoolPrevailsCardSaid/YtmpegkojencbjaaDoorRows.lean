/-
  NARROWER THAN 'FOR EVERY INPUT', by the rows' own cells (each row's printed sentence says how): SchoolAligns: laid · SchoolMerges: laid · SchoolRestores: laid · SchoolJoins: laid · SchoolCopies: laid · SchoolTells: laid · SchoolDecides: laid · SchoolPrevails: laid · SchoolApart: laid · SchoolApplies: laid · SchoolEdits: laid.
  DERIVED. THE GIVEN ROWS OF THIS SEAT. 11 by the template 'for every input the law returns true; each argument reads behind the call as it read before'; 0 by the template 'total and deterministic' (their statements: YtmpegkojencbjaaDoorTotals.lean).
  GIVEN WITH THE SEED: the statements are not yours to turn. If you find one false, say at which input.
  Laid BY PROGRAM, IN A SANDBOX (cutbox-rows.mjs): the forced cells as the released guide's own fill.sh prints them over the translation 2a885e0ce053dd31… (all of the seat's roots in one cut). By AI agents, Wed Nov 11 2026. No macro, syntax, notation, axiom, sorry.
-/
import Derived.Test.YtmpegkojencbjaaDoorChecked
import GoSem.PinnedTables
import GoSem.Claim
import GoSem.ClaimJoined
import GoSem.ClaimMapViews
import Derived.JoinedTies
import Derived.KernelRfl
namespace Go.Proofs.YtmpegkojencbjaaDoor
/- THE CELL 'sum', in the pinned program and in every row, IS THE sha256 OF THE DUMP (.gsa) THAT YtmpegkojencbjaaDoorProg.lean LOADS. Nothing in Lean hashes anything: it is a label: what it is worth is what the hold of that sum in a sandbox is worth. -/
noncomputable def Tryd.pinned : Pinned := { name := "ytmpegkojencbjaadoor", sum := "2a885e0ce053dd31c3cb4de58a749012188dc482eb0b10f136256973799214c5", checked := Tryd.checked }
namespace Rows
def none {H : Type} : Left H := { results := [], args := [] }

/- WHAT THE LISTED PACKAGE-LEVEL VARIABLES READ AS WHEN THE CALL BEGINS. Each datum BY PROGRAM (the guide's laid-datum.mjs) off the statement by which the dump's own 'gosem.cut.vars' lays the variable. In a bare row this is a premise. The card (YtmpegkojencbjaaDoorCards.lean) ties it to the program's text. -/
def laid_unicode_utf8_acceptRanges {H : Type} : DataW H := .agg [.agg [.lit (.int .u8 128), .lit (.int .u8 191)], .agg [.lit (.int .u8 160), .lit (.int .u8 191)], .agg [.lit (.int .u8 128), .lit (.int .u8 159)], .agg [.lit (.int .u8 144), .lit (.int .u8 191)], .agg [.lit (.int .u8 128), .lit (.int .u8 143)], .agg [.lit (.int .u8 0), .lit (.int .u8 0)], .agg [.lit (.int .u8 0), .lit (.int .u8 0)], .agg [.lit (.int .u8 0), .lit (.int .u8 0)], .agg [.lit (.int .u8 0), .lit (.int .u8 0)], .agg [.lit (.int .u8 0), .lit (.int .u8 0)], .agg [.lit (.int .u8 0), .lit (.int .u8 0)], .agg [.lit (.int .u8 0), .lit (.int .u8 0)], .agg [.lit (.int .u8 0), .lit (.int .u8 0)], .agg [.lit (.int .u8 0), .lit (.int .u8 0)], .agg [.lit (.int .u8 0), .lit (.int .u8 0)], .agg [.lit (.int .u8 0), .lit (.int .u8 0)]]
/-- One of Go's own tables, pinned by name: the form's constant. -/
def laid_unicode_utf8_first : DataW Unit := Go.Pinned.utf8First

/-- 'chitilaw11.SchoolAligns': WHATEVER THE INPUT: true; the input reads as it did. -/
def schoolAlignsSpec : ChangeSpec := { name := "schoolAligns", fn := fun _ => fun
  | [d1, d2] => { results := [.lit (.bool true)], args := [d1, d2] }
  | _ => none }
def schoolAlignsRow : OpenClaim := { program := "ytmpegkojencbjaadoor", sum := "2a885e0ce053dd31c3cb4de58a749012188dc482eb0b10f136256973799214c5", func := "chiti/chitilaw11.SchoolAligns", spec := "schoolAligns", inPlace := ["internal/bytealg.IndexByteString", "internal/bytealg.IndexString"], unfollowed := true, recurses := true, named := ["unicode/utf8.first", "unicode/utf8.acceptRanges", "internal/bytealg.MaxLen"], apart := false, laid := [("unicode/utf8.acceptRanges", laid_unicode_utf8_acceptRanges), ("unicode/utf8.first", laid_unicode_utf8_first)] }
def SchoolAlignsSaid : Prop := schoolAlignsRow.holds Tryd.pinned (OpenSpec.ofChange schoolAlignsSpec)

/-- ITS FALSE NEIGHBOUR: 'it returns false'. Refute it at one input. -/
def schoolAlignsWrong : ChangeSpec := { name := "schoolAligns", fn := fun _ => fun
  | [d1, d2] => { results := [.lit (.bool false)], args := [d1, d2] }
  | _ => none }
def SchoolAlignsWrongFalsely : Prop := schoolAlignsRow.holds Tryd.pinned (OpenSpec.ofChange schoolAlignsWrong)

/-- 'chitilaw11.SchoolMerges': WHATEVER THE INPUT: true; the input reads as it did. -/
def schoolMergesSpec : ChangeSpec := { name := "schoolMerges", fn := fun _ => fun
  | [d1, d2, d3] => { results := [.lit (.bool true)], args := [d1, d2, d3] }
  | _ => none }
def schoolMergesRow : OpenClaim := { program := "ytmpegkojencbjaadoor", sum := "2a885e0ce053dd31c3cb4de58a749012188dc482eb0b10f136256973799214c5", func := "chiti/chitilaw11.SchoolMerges", spec := "schoolMerges", inPlace := ["internal/bytealg.IndexByteString", "internal/bytealg.IndexString"], unfollowed := true, recurses := true, named := ["unicode/utf8.first", "unicode/utf8.acceptRanges", "internal/bytealg.MaxLen"], apart := false, laid := [("unicode/utf8.acceptRanges", laid_unicode_utf8_acceptRanges), ("unicode/utf8.first", laid_unicode_utf8_first)] }
def SchoolMergesSaid : Prop := schoolMergesRow.holds Tryd.pinned (OpenSpec.ofChange schoolMergesSpec)

/-- ITS FALSE NEIGHBOUR: 'it returns false'. Refute it at one input. -/
def schoolMergesWrong : ChangeSpec := { name := "schoolMerges", fn := fun _ => fun
  | [d1, d2, d3] => { results := [.lit (.bool false)], args := [d1, d2, d3] }
  | _ => none }
def SchoolMergesWrongFalsely : Prop := schoolMergesRow.holds Tryd.pinned (OpenSpec.ofChange schoolMergesWrong)

/-- 'chitilaw11.SchoolRestores': WHATEVER THE INPUT: true; the input reads as it did. -/
def schoolRestoresSpec : ChangeSpec := { name := "schoolRestores", fn := fun _ => fun
  | [d1, d2] => { results := [.lit (.bool true)], args := [d1, d2] }
  | _ => none }
def schoolRestoresRow : OpenClaim := { program := "ytmpegkojencbjaadoor", sum := "2a885e0ce053dd31c3cb4de58a749012188dc482eb0b10f136256973799214c5", func := "chiti/chitilaw11.SchoolRestores", spec := "schoolRestores", inPlace := ["internal/bytealg.IndexByteString", "internal/bytealg.IndexString"], unfollowed := true, recurses := true, named := ["unicode/utf8.first", "unicode/utf8.acceptRanges", "internal/bytealg.MaxLen"], apart := false, laid := [("unicode/utf8.acceptRanges", laid_unicode_utf8_acceptRanges), ("unicode/utf8.first", laid_unicode_utf8_first)] }
def SchoolRestoresSaid : Prop := schoolRestoresRow.holds Tryd.pinned (OpenSpec.ofChange schoolRestoresSpec)

/-- ITS FALSE NEIGHBOUR: 'it returns false'. Refute it at one input. -/
def schoolRestoresWrong : ChangeSpec := { name := "schoolRestores", fn := fun _ => fun
  | [d1, d2] => { results := [.lit (.bool false)], args := [d1, d2] }
  | _ => none }
def SchoolRestoresWrongFalsely : Prop := schoolRestoresRow.holds Tryd.pinned (OpenSpec.ofChange schoolRestoresWrong)

/-- 'chitilaw11.SchoolJoins': WHATEVER THE INPUT: true; the input reads as it did. -/
def schoolJoinsSpec : ChangeSpec := { name := "schoolJoins", fn := fun _ => fun
  | [d1, d2, d3] => { results := [.lit (.bool true)], args := [d1, d2, d3] }
  | _ => none }
def schoolJoinsRow : OpenClaim := { program := "ytmpegkojencbjaadoor", sum := "2a885e0ce053dd31c3cb4de58a749012188dc482eb0b10f136256973799214c5", func := "chiti/chitilaw11.SchoolJoins", spec := "schoolJoins", inPlace := ["internal/bytealg.IndexByteString", "internal/bytealg.IndexString"], unfollowed := true, recurses := true, named := ["unicode/utf8.first", "unicode/utf8.acceptRanges", "internal/bytealg.MaxLen"], apart := false, laid := [("unicode/utf8.acceptRanges", laid_unicode_utf8_acceptRanges), ("unicode/utf8.first", laid_unicode_utf8_first)] }
def SchoolJoinsSaid : Prop := schoolJoinsRow.holds Tryd.pinned (OpenSpec.ofChange schoolJoinsSpec)

/-- ITS FALSE NEIGHBOUR: 'it returns false'. Refute it at one input. -/
def schoolJoinsWrong : ChangeSpec := { name := "schoolJoins", fn := fun _ => fun
  | [d1, d2, d3] => { results := [.lit (.bool false)], args := [d1, d2, d3] }
  | _ => none }
def SchoolJoinsWrongFalsely : Prop := schoolJoinsRow.holds Tryd.pinned (OpenSpec.ofChange schoolJoinsWrong)

/-- 'chitilaw11.SchoolCopies': WHATEVER THE INPUT: true; the input reads as it did. -/
def schoolCopiesSpec : ChangeSpec := { name := "schoolCopies", fn := fun _ => fun
  | [d1, d2] => { results := [.lit (.bool true)], args := [d1, d2] }
  | _ => none }
def schoolCopiesRow : OpenClaim := { program := "ytmpegkojencbjaadoor", sum := "2a885e0ce053dd31c3cb4de58a749012188dc482eb0b10f136256973799214c5", func := "chiti/chitilaw11.SchoolCopies", spec := "schoolCopies", inPlace := ["internal/bytealg.IndexByteString", "internal/bytealg.IndexString"], unfollowed := true, recurses := true, named := ["unicode/utf8.first", "unicode/utf8.acceptRanges", "internal/bytealg.MaxLen"], apart := false, laid := [("unicode/utf8.acceptRanges", laid_unicode_utf8_acceptRanges), ("unicode/utf8.first", laid_unicode_utf8_first)] }
def SchoolCopiesSaid : Prop := schoolCopiesRow.holds Tryd.pinned (OpenSpec.ofChange schoolCopiesSpec)

/-- ITS FALSE NEIGHBOUR: 'it returns false'. Refute it at one input. -/
def schoolCopiesWrong : ChangeSpec := { name := "schoolCopies", fn := fun _ => fun
  | [d1, d2] => { results := [.lit (.bool false)], args := [d1, d2] }
  | _ => none }
def SchoolCopiesWrongFalsely : Prop := schoolCopiesRow.holds Tryd.pinned (OpenSpec.ofChange schoolCopiesWrong)

/-- 'chitilaw11.SchoolTells': WHATEVER THE INPUT: true; the input reads as it did. -/
def schoolTellsSpec : ChangeSpec := { name := "schoolTells", fn := fun _ => fun
  | [d1, d2, d3] => { results := [.lit (.bool true)], args := [d1, d2, d3] }
  | _ => none }
def schoolTellsRow : OpenClaim := { program := "ytmpegkojencbjaadoor", sum := "2a885e0ce053dd31c3cb4de58a749012188dc482eb0b10f136256973799214c5", func := "chiti/chitilaw11.SchoolTells", spec := "schoolTells", inPlace := ["internal/bytealg.IndexByteString", "internal/bytealg.IndexString"], unfollowed := true, recurses := true, named := ["unicode/utf8.first", "unicode/utf8.acceptRanges", "internal/bytealg.MaxLen"], apart := false, laid := [("unicode/utf8.acceptRanges", laid_unicode_utf8_acceptRanges), ("unicode/utf8.first", laid_unicode_utf8_first)] }
def SchoolTellsSaid : Prop := schoolTellsRow.holds Tryd.pinned (OpenSpec.ofChange schoolTellsSpec)

/-- ITS FALSE NEIGHBOUR: 'it returns false'. Refute it at one input. -/
def schoolTellsWrong : ChangeSpec := { name := "schoolTells", fn := fun _ => fun
  | [d1, d2, d3] => { results := [.lit (.bool false)], args := [d1, d2, d3] }
  | _ => none }
def SchoolTellsWrongFalsely : Prop := schoolTellsRow.holds Tryd.pinned (OpenSpec.ofChange schoolTellsWrong)

/-- 'chitilaw11.SchoolDecides': WHATEVER THE INPUT: true; the input reads as it did. -/
def schoolDecidesSpec : ChangeSpec := { name := "schoolDecides", fn := fun _ => fun
  | [d1, d2, d3] => { results := [.lit (.bool true)], args := [d1, d2, d3] }
  | _ => none }
def schoolDecidesRow : OpenClaim := { program := "ytmpegkojencbjaadoor", sum := "2a885e0ce053dd31c3cb4de58a749012188dc482eb0b10f136256973799214c5", func := "chiti/chitilaw11.SchoolDecides", spec := "schoolDecides", inPlace := ["internal/bytealg.IndexByteString", "internal/bytealg.IndexString"], unfollowed := true, recurses := true, named := ["unicode/utf8.first", "unicode/utf8.acceptRanges", "internal/bytealg.MaxLen"], apart := false, laid := [("unicode/utf8.acceptRanges", laid_unicode_utf8_acceptRanges), ("unicode/utf8.first", laid_unicode_utf8_first)] }
def SchoolDecidesSaid : Prop := schoolDecidesRow.holds Tryd.pinned (OpenSpec.ofChange schoolDecidesSpec)

/-- ITS FALSE NEIGHBOUR: 'it returns false'. Refute it at one input. -/
def schoolDecidesWrong : ChangeSpec := { name := "schoolDecides", fn := fun _ => fun
  | [d1, d2, d3] => { results := [.lit (.bool false)], args := [d1, d2, d3] }
  | _ => none }
def SchoolDecidesWrongFalsely : Prop := schoolDecidesRow.holds Tryd.pinned (OpenSpec.ofChange schoolDecidesWrong)

/-- 'chitilaw11.SchoolPrevails': WHATEVER THE INPUT: true; the input reads as it did. -/
def schoolPrevailsSpec : ChangeSpec := { name := "schoolPrevails", fn := fun _ => fun
  | [d1, d2, d3] => { results := [.lit (.bool true)], args := [d1, d2, d3] }
  | _ => none }
def schoolPrevailsRow : OpenClaim := { program := "ytmpegkojencbjaadoor", sum := "2a885e0ce053dd31c3cb4de58a749012188dc482eb0b10f136256973799214c5", func := "chiti/chitilaw11.SchoolPrevails", spec := "schoolPrevails", inPlace := ["internal/bytealg.IndexByteString", "internal/bytealg.IndexString"], unfollowed := true, recurses := true, named := ["unicode/utf8.first", "unicode/utf8.acceptRanges", "internal/bytealg.MaxLen"], apart := false, laid := [("unicode/utf8.acceptRanges", laid_unicode_utf8_acceptRanges), ("unicode/utf8.first", laid_unicode_utf8_first)] }
def SchoolPrevailsSaid : Prop := schoolPrevailsRow.holds Tryd.pinned (OpenSpec.ofChange schoolPrevailsSpec)

/-- ITS FALSE NEIGHBOUR: 'it returns false'. Refute it at one input. -/
def schoolPrevailsWrong : ChangeSpec := { name := "schoolPrevails", fn := fun _ => fun
  | [d1, d2, d3] => { results := [.lit (.bool false)], args := [d1, d2, d3] }
  | _ => none }
def SchoolPrevailsWrongFalsely : Prop := schoolPrevailsRow.holds Tryd.pinned (OpenSpec.ofChange schoolPrevailsWrong)

/-- 'chitilaw11.SchoolApart': WHATEVER THE INPUT: true; the input reads as it did. -/
def schoolApartSpec : ChangeSpec := { name := "schoolApart", fn := fun _ => fun
  | [d1, d2, d3] => { results := [.lit (.bool true)], args := [d1, d2, d3] }
  | _ => none }
def schoolApartRow : OpenClaim := { program := "ytmpegkojencbjaadoor", sum := "2a885e0ce053dd31c3cb4de58a749012188dc482eb0b10f136256973799214c5", func := "chiti/chitilaw11.SchoolApart", spec := "schoolApart", inPlace := ["internal/bytealg.IndexByteString", "internal/bytealg.IndexString"], unfollowed := true, recurses := true, named := ["unicode/utf8.first", "unicode/utf8.acceptRanges", "internal/bytealg.MaxLen"], apart := false, laid := [("unicode/utf8.acceptRanges", laid_unicode_utf8_acceptRanges), ("unicode/utf8.first", laid_unicode_utf8_first)] }
def SchoolApartSaid : Prop := schoolApartRow.holds Tryd.pinned (OpenSpec.ofChange schoolApartSpec)

/-- ITS FALSE NEIGHBOUR: 'it returns false'. Refute it at one input. -/
def schoolApartWrong : ChangeSpec := { name := "schoolApart", fn := fun _ => fun
  | [d1, d2, d3] => { results := [.lit (.bool false)], args := [d1, d2, d3] }
  | _ => none }
def SchoolApartWrongFalsely : Prop := schoolApartRow.holds Tryd.pinned (OpenSpec.ofChange schoolApartWrong)

/-- 'chitilaw11.SchoolApplies': WHATEVER THE INPUT: true; the input reads as it did. -/
def schoolAppliesSpec : ChangeSpec := { name := "schoolApplies", fn := fun _ => fun
  | [d1, d2] => { results := [.lit (.bool true)], args := [d1, d2] }
  | _ => none }
def schoolAppliesRow : OpenClaim := { program := "ytmpegkojencbjaadoor", sum := "2a885e0ce053dd31c3cb4de58a749012188dc482eb0b10f136256973799214c5", func := "chiti/chitilaw11.SchoolApplies", spec := "schoolApplies", inPlace := ["internal/bytealg.IndexByteString", "internal/bytealg.IndexString"], unfollowed := true, recurses := true, named := ["unicode/utf8.first", "unicode/utf8.acceptRanges", "internal/bytealg.MaxLen"], apart := false, laid := [("unicode/utf8.acceptRanges", laid_unicode_utf8_acceptRanges), ("unicode/utf8.first", laid_unicode_utf8_first)] }
def SchoolAppliesSaid : Prop := schoolAppliesRow.holds Tryd.pinned (OpenSpec.ofChange schoolAppliesSpec)

/-- ITS FALSE NEIGHBOUR: 'it returns false'. Refute it at one input. -/
def schoolAppliesWrong : ChangeSpec := { name := "schoolApplies", fn := fun _ => fun
  | [d1, d2] => { results := [.lit (.bool false)], args := [d1, d2] }
  | _ => none }
def SchoolAppliesWrongFalsely : Prop := schoolAppliesRow.holds Tryd.pinned (OpenSpec.ofChange schoolAppliesWrong)

/-- 'chitilaw11.SchoolEdits': WHATEVER THE INPUT: true; the input reads as it did. -/
def schoolEditsSpec : ChangeSpec := { name := "schoolEdits", fn := fun _ => fun
  | [d1, d2, d3] => { results := [.lit (.bool true)], args := [d1, d2, d3] }
  | _ => none }
def schoolEditsRow : OpenClaim := { program := "ytmpegkojencbjaadoor", sum := "2a885e0ce053dd31c3cb4de58a749012188dc482eb0b10f136256973799214c5", func := "chiti/chitilaw11.SchoolEdits", spec := "schoolEdits", inPlace := ["internal/bytealg.IndexByteString", "internal/bytealg.IndexString"], unfollowed := true, recurses := true, named := ["unicode/utf8.first", "unicode/utf8.acceptRanges", "internal/bytealg.MaxLen"], apart := false, laid := [("unicode/utf8.acceptRanges", laid_unicode_utf8_acceptRanges), ("unicode/utf8.first", laid_unicode_utf8_first)] }
def SchoolEditsSaid : Prop := schoolEditsRow.holds Tryd.pinned (OpenSpec.ofChange schoolEditsSpec)

/-- ITS FALSE NEIGHBOUR: 'it returns false'. Refute it at one input. -/
def schoolEditsWrong : ChangeSpec := { name := "schoolEdits", fn := fun _ => fun
  | [d1, d2, d3] => { results := [.lit (.bool false)], args := [d1, d2, d3] }
  | _ => none }
def SchoolEditsWrongFalsely : Prop := schoolEditsRow.holds Tryd.pinned (OpenSpec.ofChange schoolEditsWrong)

/- THE SECOND FORM. 'bulk': how many values and letters a reading holds, each counted each time it is reached (what is shared counts as often as it is met; a slice's spare places count too). A statement '..UptoSaid' is the law's where the arguments, and the package variables that the reading takes, are together of bulk at most 1048576: NARROWER than '..Said'. Prove '..Said' where nothing that the law and all that it calls make is longer than what came in: it says more and counts as full. Else prove '..UptoSaid'. A law counts once. -/
mutual
def uptoBulk {H : Type} : DataW H → Nat
  | .lit (.string bytes) => bytes.length + 1
  | .lit _ => 1
  | .nil => 1
  | .ptr d => uptoBulk d + 1
  | .slice elems spare => uptoBulkAll elems + uptoBulkAll spare + 1
  | .agg parts => uptoBulkAll parts + 1
  | .iface _ d => uptoBulk d + 1
  | .map entries => uptoBulkEntries entries + 1
  | .held _ => 1
def uptoBulkAll {H : Type} : List (DataW H) → Nat
  | [] => 0
  | d :: r => uptoBulk d + uptoBulkAll r
def uptoBulkEntries {H : Type} : List (Lit × DataW H) → Nat
  | [] => 0
  | x :: r => uptoBulkEntry x + uptoBulkEntries r
def uptoBulkEntry {H : Type} : Lit × DataW H → Nat
  | (.string bytes, d) => bytes.length + uptoBulk d + 1
  | (_, d) => uptoBulk d + 1
 end
def uptoSmall : (H : Type) → List (DataW H) → Bool := fun _ ds => decide (uptoBulkAll ds ≤ 1048576)
def OpenSpec.upto (s : _root_.Go.ChangeSpec) : _root_.Go.OpenSpec := { _root_.Go.OpenSpec.ofChange s with cond := some uptoSmall }

/-- 'chitilaw11.SchoolAligns', WHERE WHAT IT READS IS OF BULK AT MOST 1048576: true; the input reads as it did. -/
def schoolAlignsUptoRow : OpenClaim := { program := "ytmpegkojencbjaadoor", sum := "2a885e0ce053dd31c3cb4de58a749012188dc482eb0b10f136256973799214c5", func := "chiti/chitilaw11.SchoolAligns", spec := "schoolAligns", inPlace := ["internal/bytealg.IndexByteString", "internal/bytealg.IndexString"], unfollowed := true, recurses := true, named := ["unicode/utf8.first", "unicode/utf8.acceptRanges", "internal/bytealg.MaxLen"], apart := false, laid := [("unicode/utf8.acceptRanges", laid_unicode_utf8_acceptRanges), ("unicode/utf8.first", laid_unicode_utf8_first)], narrowed := true }
def SchoolAlignsUptoSaid : Prop := schoolAlignsUptoRow.holds Tryd.pinned (OpenSpec.upto schoolAlignsSpec)

/-- 'chitilaw11.SchoolMerges', WHERE WHAT IT READS IS OF BULK AT MOST 1048576: true; the input reads as it did. -/
def schoolMergesUptoRow : OpenClaim := { program := "ytmpegkojencbjaadoor", sum := "2a885e0ce053dd31c3cb4de58a749012188dc482eb0b10f136256973799214c5", func := "chiti/chitilaw11.SchoolMerges", spec := "schoolMerges", inPlace := ["internal/bytealg.IndexByteString", "internal/bytealg.IndexString"], unfollowed := true, recurses := true, named := ["unicode/utf8.first", "unicode/utf8.acceptRanges", "internal/bytealg.MaxLen"], apart := false, laid := [("unicode/utf8.acceptRanges", laid_unicode_utf8_acceptRanges), ("unicode/utf8.first", laid_unicode_utf8_first)], narrowed := true }
def SchoolMergesUptoSaid : Prop := schoolMergesUptoRow.holds Tryd.pinned (OpenSpec.upto schoolMergesSpec)

/-- 'chitilaw11.SchoolRestores', WHERE WHAT IT READS IS OF BULK AT MOST 1048576: true; the input reads as it did. -/
def schoolRestoresUptoRow : OpenClaim := { program := "ytmpegkojencbjaadoor", sum := "2a885e0ce053dd31c3cb4de58a749012188dc482eb0b10f136256973799214c5", func := "chiti/chitilaw11.SchoolRestores", spec := "schoolRestores", inPlace := ["internal/bytealg.IndexByteString", "internal/bytealg.IndexString"], unfollowed := true, recurses := true, named := ["unicode/utf8.first", "unicode/utf8.acceptRanges", "internal/bytealg.MaxLen"], apart := false, laid := [("unicode/utf8.acceptRanges", laid_unicode_utf8_acceptRanges), ("unicode/utf8.first", laid_unicode_utf8_first)], narrowed := true }
def SchoolRestoresUptoSaid : Prop := schoolRestoresUptoRow.holds Tryd.pinned (OpenSpec.upto schoolRestoresSpec)

/-- 'chitilaw11.SchoolJoins', WHERE WHAT IT READS IS OF BULK AT MOST 1048576: true; the input reads as it did. -/
def schoolJoinsUptoRow : OpenClaim := { program := "ytmpegkojencbjaadoor", sum := "2a885e0ce053dd31c3cb4de58a749012188dc482eb0b10f136256973799214c5", func := "chiti/chitilaw11.SchoolJoins", spec := "schoolJoins", inPlace := ["internal/bytealg.IndexByteString", "internal/bytealg.IndexString"], unfollowed := true, recurses := true, named := ["unicode/utf8.first", "unicode/utf8.acceptRanges", "internal/bytealg.MaxLen"], apart := false, laid := [("unicode/utf8.acceptRanges", laid_unicode_utf8_acceptRanges), ("unicode/utf8.first", laid_unicode_utf8_first)], narrowed := true }
def SchoolJoinsUptoSaid : Prop := schoolJoinsUptoRow.holds Tryd.pinned (OpenSpec.upto schoolJoinsSpec)

/-- 'chitilaw11.SchoolCopies', WHERE WHAT IT READS IS OF BULK AT MOST 1048576: true; the input reads as it did. -/
def schoolCopiesUptoRow : OpenClaim := { program := "ytmpegkojencbjaadoor", sum := "2a885e0ce053dd31c3cb4de58a749012188dc482eb0b10f136256973799214c5", func := "chiti/chitilaw11.SchoolCopies", spec := "schoolCopies", inPlace := ["internal/bytealg.IndexByteString", "internal/bytealg.IndexString"], unfollowed := true, recurses := true, named := ["unicode/utf8.first", "unicode/utf8.acceptRanges", "internal/bytealg.MaxLen"], apart := false, laid := [("unicode/utf8.acceptRanges", laid_unicode_utf8_acceptRanges), ("unicode/utf8.first", laid_unicode_utf8_first)], narrowed := true }
def SchoolCopiesUptoSaid : Prop := schoolCopiesUptoRow.holds Tryd.pinned (OpenSpec.upto schoolCopiesSpec)

/-- 'chitilaw11.SchoolTells', WHERE WHAT IT READS IS OF BULK AT MOST 1048576: true; the input reads as it did. -/
def schoolTellsUptoRow : OpenClaim := { program := "ytmpegkojencbjaadoor", sum := "2a885e0ce053dd31c3cb4de58a749012188dc482eb0b10f136256973799214c5", func := "chiti/chitilaw11.SchoolTells", spec := "schoolTells", inPlace := ["internal/bytealg.IndexByteString", "internal/bytealg.IndexString"], unfollowed := true, recurses := true, named := ["unicode/utf8.first", "unicode/utf8.acceptRanges", "internal/bytealg.MaxLen"], apart := false, laid := [("unicode/utf8.acceptRanges", laid_unicode_utf8_acceptRanges), ("unicode/utf8.first", laid_unicode_utf8_first)], narrowed := true }
def SchoolTellsUptoSaid : Prop := schoolTellsUptoRow.holds Tryd.pinned (OpenSpec.upto schoolTellsSpec)

/-- 'chitilaw11.SchoolDecides', WHERE WHAT IT READS IS OF BULK AT MOST 1048576: true; the input reads as it did. -/
def schoolDecidesUptoRow : OpenClaim := { program := "ytmpegkojencbjaadoor", sum := "2a885e0ce053dd31c3cb4de58a749012188dc482eb0b10f136256973799214c5", func := "chiti/chitilaw11.SchoolDecides", spec := "schoolDecides", inPlace := ["internal/bytealg.IndexByteString", "internal/bytealg.IndexString"], unfollowed := true, recurses := true, named := ["unicode/utf8.first", "unicode/utf8.acceptRanges", "internal/bytealg.MaxLen"], apart := false, laid := [("unicode/utf8.acceptRanges", laid_unicode_utf8_acceptRanges), ("unicode/utf8.first", laid_unicode_utf8_first)], narrowed := true }
def SchoolDecidesUptoSaid : Prop := schoolDecidesUptoRow.holds Tryd.pinned (OpenSpec.upto schoolDecidesSpec)

/-- 'chitilaw11.SchoolPrevails', WHERE WHAT IT READS IS OF BULK AT MOST 1048576: true; the input reads as it did. -/
def schoolPrevailsUptoRow : OpenClaim := { program := "ytmpegkojencbjaadoor", sum := "2a885e0ce053dd31c3cb4de58a749012188dc482eb0b10f136256973799214c5", func := "chiti/chitilaw11.SchoolPrevails", spec := "schoolPrevails", inPlace := ["internal/bytealg.IndexByteString", "internal/bytealg.IndexString"], unfollowed := true, recurses := true, named := ["unicode/utf8.first", "unicode/utf8.acceptRanges", "internal/bytealg.MaxLen"], apart := false, laid := [("unicode/utf8.acceptRanges", laid_unicode_utf8_acceptRanges), ("unicode/utf8.first", laid_unicode_utf8_first)], narrowed := true }
def SchoolPrevailsUptoSaid : Prop := schoolPrevailsUptoRow.holds Tryd.pinned (OpenSpec.upto schoolPrevailsSpec)

/-- 'chitilaw11.SchoolApart', WHERE WHAT IT READS IS OF BULK AT MOST 1048576: true; the input reads as it did. -/
def schoolApartUptoRow : OpenClaim := { program := "ytmpegkojencbjaadoor", sum := "2a885e0ce053dd31c3cb4de58a749012188dc482eb0b10f136256973799214c5", func := "chiti/chitilaw11.SchoolApart", spec := "schoolApart", inPlace := ["internal/bytealg.IndexByteString", "internal/bytealg.IndexString"], unfollowed := true, recurses := true, named := ["unicode/utf8.first", "unicode/utf8.acceptRanges", "internal/bytealg.MaxLen"], apart := false, laid := [("unicode/utf8.acceptRanges", laid_unicode_utf8_acceptRanges), ("unicode/utf8.first", laid_unicode_utf8_first)], narrowed := true }
def SchoolApartUptoSaid : Prop := schoolApartUptoRow.holds Tryd.pinned (OpenSpec.upto schoolApartSpec)

/-- 'chitilaw11.SchoolApplies', WHERE WHAT IT READS IS OF BULK AT MOST 1048576: true; the input reads as it did. -/
def schoolAppliesUptoRow : OpenClaim := { program := "ytmpegkojencbjaadoor", sum := "2a885e0ce053dd31c3cb4de58a749012188dc482eb0b10f136256973799214c5", func := "chiti/chitilaw11.SchoolApplies", spec := "schoolApplies", inPlace := ["internal/bytealg.IndexByteString", "internal/bytealg.IndexString"], unfollowed := true, recurses := true, named := ["unicode/utf8.first", "unicode/utf8.acceptRanges", "internal/bytealg.MaxLen"], apart := false, laid := [("unicode/utf8.acceptRanges", laid_unicode_utf8_acceptRanges), ("unicode/utf8.first", laid_unicode_utf8_first)], narrowed := true }
def SchoolAppliesUptoSaid : Prop := schoolAppliesUptoRow.holds Tryd.pinned (OpenSpec.upto schoolAppliesSpec)

/-- 'chitilaw11.SchoolEdits', WHERE WHAT IT READS IS OF BULK AT MOST 1048576: true; the input reads as it did. -/
def schoolEditsUptoRow : OpenClaim := { program := "ytmpegkojencbjaadoor", sum := "2a885e0ce053dd31c3cb4de58a749012188dc482eb0b10f136256973799214c5", func := "chiti/chitilaw11.SchoolEdits", spec := "schoolEdits", inPlace := ["internal/bytealg.IndexByteString", "internal/bytealg.IndexString"], unfollowed := true, recurses := true, named := ["unicode/utf8.first", "unicode/utf8.acceptRanges", "internal/bytealg.MaxLen"], apart := false, laid := [("unicode/utf8.acceptRanges", laid_unicode_utf8_acceptRanges), ("unicode/utf8.first", laid_unicode_utf8_first)], narrowed := true }
def SchoolEditsUptoSaid : Prop := schoolEditsUptoRow.holds Tryd.pinned (OpenSpec.upto schoolEditsSpec)

end Rows
end Go.Proofs.YtmpegkojencbjaaDoor
