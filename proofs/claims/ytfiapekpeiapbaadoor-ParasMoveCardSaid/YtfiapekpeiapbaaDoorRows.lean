/-
  NARROWER THAN 'FOR EVERY INPUT', by the rows' own cells (each row's printed sentence says how): PatchBetween: laid · PatchShifts: laid · SeekStands: laid · SeekFinds: laid · ParasMove: laid · ParasEnd: laid · PairsBack: laid · PairsMates: laid · TextRows: laid · TextBack: laid.
  DERIVED. THE GIVEN ROWS OF THIS SEAT. 10 by the template 'for every input the law returns true; each argument reads behind the call as it read before'; 0 by the template 'total and deterministic' (their statements: YtfiapekpeiapbaaDoorTotals.lean).
  GIVEN WITH THE SEED: the statements are not yours to turn. If you find one false, say at which input.
  Laid BY PROGRAM, IN A SANDBOX (cutbox-rows.mjs): the forced cells as the released guide's own fill.sh prints them over the translation 1e7397f7f4f75c35… (all of the seat's roots in one cut). By AI agents, Wed Nov 11 2026. No macro, syntax, notation, axiom, sorry.
-/
import Derived.Test.YtfiapekpeiapbaaDoorChecked
import GoSem.PinnedTables
import GoSem.Claim
import GoSem.ClaimJoined
import GoSem.ClaimMapViews
import Derived.JoinedTies
import Derived.KernelRfl
namespace Go.Proofs.YtfiapekpeiapbaaDoor
/- THE CELL 'sum', in the pinned program and in every row, IS THE sha256 OF THE DUMP (.gsa) THAT YtfiapekpeiapbaaDoorProg.lean LOADS. Nothing in Lean hashes anything: it is a label: what it is worth is what the hold of that sum in a sandbox is worth. -/
noncomputable def Tryd.pinned : Pinned := { name := "ytfiapekpeiapbaadoor", sum := "1e7397f7f4f75c354e25fa0f54b93afbb3f3e82b20cccdbcb528ae75439ceea0", checked := Tryd.checked }
namespace Rows
def none {H : Type} : Left H := { results := [], args := [] }

/- WHAT THE LISTED PACKAGE-LEVEL VARIABLES READ AS WHEN THE CALL BEGINS. Each datum BY PROGRAM (the guide's laid-datum.mjs) off the statement by which the dump's own 'gosem.cut.vars' lays the variable. In a bare row this is a premise. The card (YtfiapekpeiapbaaDoorCards.lean) ties it to the program's text. -/
def laid_unicode_utf8_acceptRanges {H : Type} : DataW H := .agg [.agg [.lit (.int .u8 128), .lit (.int .u8 191)], .agg [.lit (.int .u8 160), .lit (.int .u8 191)], .agg [.lit (.int .u8 128), .lit (.int .u8 159)], .agg [.lit (.int .u8 144), .lit (.int .u8 191)], .agg [.lit (.int .u8 128), .lit (.int .u8 143)], .agg [.lit (.int .u8 0), .lit (.int .u8 0)], .agg [.lit (.int .u8 0), .lit (.int .u8 0)], .agg [.lit (.int .u8 0), .lit (.int .u8 0)], .agg [.lit (.int .u8 0), .lit (.int .u8 0)], .agg [.lit (.int .u8 0), .lit (.int .u8 0)], .agg [.lit (.int .u8 0), .lit (.int .u8 0)], .agg [.lit (.int .u8 0), .lit (.int .u8 0)], .agg [.lit (.int .u8 0), .lit (.int .u8 0)], .agg [.lit (.int .u8 0), .lit (.int .u8 0)], .agg [.lit (.int .u8 0), .lit (.int .u8 0)], .agg [.lit (.int .u8 0), .lit (.int .u8 0)]]
/-- One of Go's own tables, pinned by name: the form's constant. -/
def laid_unicode_utf8_first : DataW Unit := Go.Pinned.utf8First

/-- 'quilllaw4.PatchBetween': WHATEVER THE INPUT: true; the input reads as it did. -/
def patchBetweenSpec : ChangeSpec := { name := "patchBetween", fn := fun _ => fun
  | [d] => { results := [.lit (.bool true)], args := [d] }
  | _ => none }
def patchBetweenRow : OpenClaim := { program := "ytfiapekpeiapbaadoor", sum := "1e7397f7f4f75c354e25fa0f54b93afbb3f3e82b20cccdbcb528ae75439ceea0", func := "quill/quilllaw4.PatchBetween", spec := "patchBetween", inPlace := ["internal/bytealg.IndexByteString"], named := ["unicode/utf8.first", "unicode/utf8.acceptRanges"], apart := false, laid := [("unicode/utf8.acceptRanges", laid_unicode_utf8_acceptRanges), ("unicode/utf8.first", laid_unicode_utf8_first)] }
def PatchBetweenSaid : Prop := patchBetweenRow.holds Tryd.pinned (OpenSpec.ofChange patchBetweenSpec)

/-- ITS FALSE NEIGHBOUR: 'it returns false'. Refute it at one input. -/
def patchBetweenWrong : ChangeSpec := { name := "patchBetween", fn := fun _ => fun
  | [d] => { results := [.lit (.bool false)], args := [d] }
  | _ => none }
def PatchBetweenWrongFalsely : Prop := patchBetweenRow.holds Tryd.pinned (OpenSpec.ofChange patchBetweenWrong)

/-- 'quilllaw4.PatchShifts': WHATEVER THE INPUT: true; the input reads as it did. -/
def patchShiftsSpec : ChangeSpec := { name := "patchShifts", fn := fun _ => fun
  | [d] => { results := [.lit (.bool true)], args := [d] }
  | _ => none }
def patchShiftsRow : OpenClaim := { program := "ytfiapekpeiapbaadoor", sum := "1e7397f7f4f75c354e25fa0f54b93afbb3f3e82b20cccdbcb528ae75439ceea0", func := "quill/quilllaw4.PatchShifts", spec := "patchShifts", inPlace := ["internal/bytealg.IndexByteString"], unfollowed := true, recurses := true, named := ["unicode/utf8.first", "unicode/utf8.acceptRanges"], apart := false, laid := [("unicode/utf8.acceptRanges", laid_unicode_utf8_acceptRanges), ("unicode/utf8.first", laid_unicode_utf8_first)] }
def PatchShiftsSaid : Prop := patchShiftsRow.holds Tryd.pinned (OpenSpec.ofChange patchShiftsSpec)

/-- ITS FALSE NEIGHBOUR: 'it returns false'. Refute it at one input. -/
def patchShiftsWrong : ChangeSpec := { name := "patchShifts", fn := fun _ => fun
  | [d] => { results := [.lit (.bool false)], args := [d] }
  | _ => none }
def PatchShiftsWrongFalsely : Prop := patchShiftsRow.holds Tryd.pinned (OpenSpec.ofChange patchShiftsWrong)

/-- 'quilllaw11.SeekStands': WHATEVER THE INPUT: true; the input reads as it did. -/
def seekStandsSpec : ChangeSpec := { name := "seekStands", fn := fun _ => fun
  | [d] => { results := [.lit (.bool true)], args := [d] }
  | _ => none }
def seekStandsRow : OpenClaim := { program := "ytfiapekpeiapbaadoor", sum := "1e7397f7f4f75c354e25fa0f54b93afbb3f3e82b20cccdbcb528ae75439ceea0", func := "quill/quilllaw11.SeekStands", spec := "seekStands", inPlace := ["internal/bytealg.IndexByteString"], named := ["unicode/utf8.first", "unicode/utf8.acceptRanges"], apart := false, laid := [("unicode/utf8.acceptRanges", laid_unicode_utf8_acceptRanges), ("unicode/utf8.first", laid_unicode_utf8_first)] }
def SeekStandsSaid : Prop := seekStandsRow.holds Tryd.pinned (OpenSpec.ofChange seekStandsSpec)

/-- ITS FALSE NEIGHBOUR: 'it returns false'. Refute it at one input. -/
def seekStandsWrong : ChangeSpec := { name := "seekStands", fn := fun _ => fun
  | [d] => { results := [.lit (.bool false)], args := [d] }
  | _ => none }
def SeekStandsWrongFalsely : Prop := seekStandsRow.holds Tryd.pinned (OpenSpec.ofChange seekStandsWrong)

/-- 'quilllaw11.SeekFinds': WHATEVER THE INPUT: true; the input reads as it did. -/
def seekFindsSpec : ChangeSpec := { name := "seekFinds", fn := fun _ => fun
  | [d] => { results := [.lit (.bool true)], args := [d] }
  | _ => none }
def seekFindsRow : OpenClaim := { program := "ytfiapekpeiapbaadoor", sum := "1e7397f7f4f75c354e25fa0f54b93afbb3f3e82b20cccdbcb528ae75439ceea0", func := "quill/quilllaw11.SeekFinds", spec := "seekFinds", inPlace := ["internal/bytealg.IndexByteString"], named := ["unicode/utf8.first", "unicode/utf8.acceptRanges"], apart := false, laid := [("unicode/utf8.acceptRanges", laid_unicode_utf8_acceptRanges), ("unicode/utf8.first", laid_unicode_utf8_first)] }
def SeekFindsSaid : Prop := seekFindsRow.holds Tryd.pinned (OpenSpec.ofChange seekFindsSpec)

/-- ITS FALSE NEIGHBOUR: 'it returns false'. Refute it at one input. -/
def seekFindsWrong : ChangeSpec := { name := "seekFinds", fn := fun _ => fun
  | [d] => { results := [.lit (.bool false)], args := [d] }
  | _ => none }
def SeekFindsWrongFalsely : Prop := seekFindsRow.holds Tryd.pinned (OpenSpec.ofChange seekFindsWrong)

/-- 'quilllaw13.ParasMove': WHATEVER THE INPUT: true; the input reads as it did. -/
def parasMoveSpec : ChangeSpec := { name := "parasMove", fn := fun _ => fun
  | [d] => { results := [.lit (.bool true)], args := [d] }
  | _ => none }
def parasMoveRow : OpenClaim := { program := "ytfiapekpeiapbaadoor", sum := "1e7397f7f4f75c354e25fa0f54b93afbb3f3e82b20cccdbcb528ae75439ceea0", func := "quill/quilllaw13.ParasMove", spec := "parasMove", inPlace := ["internal/bytealg.IndexByteString"], unfollowed := true, recurses := true, named := ["unicode/utf8.first", "unicode/utf8.acceptRanges"], apart := false, laid := [("unicode/utf8.acceptRanges", laid_unicode_utf8_acceptRanges), ("unicode/utf8.first", laid_unicode_utf8_first)] }
def ParasMoveSaid : Prop := parasMoveRow.holds Tryd.pinned (OpenSpec.ofChange parasMoveSpec)

/-- ITS FALSE NEIGHBOUR: 'it returns false'. Refute it at one input. -/
def parasMoveWrong : ChangeSpec := { name := "parasMove", fn := fun _ => fun
  | [d] => { results := [.lit (.bool false)], args := [d] }
  | _ => none }
def ParasMoveWrongFalsely : Prop := parasMoveRow.holds Tryd.pinned (OpenSpec.ofChange parasMoveWrong)

/-- 'quilllaw13.ParasEnd': WHATEVER THE INPUT: true; the input reads as it did. -/
def parasEndSpec : ChangeSpec := { name := "parasEnd", fn := fun _ => fun
  | [d] => { results := [.lit (.bool true)], args := [d] }
  | _ => none }
def parasEndRow : OpenClaim := { program := "ytfiapekpeiapbaadoor", sum := "1e7397f7f4f75c354e25fa0f54b93afbb3f3e82b20cccdbcb528ae75439ceea0", func := "quill/quilllaw13.ParasEnd", spec := "parasEnd", inPlace := ["internal/bytealg.IndexByteString"], unfollowed := true, recurses := true, named := ["unicode/utf8.first", "unicode/utf8.acceptRanges"], apart := false, laid := [("unicode/utf8.acceptRanges", laid_unicode_utf8_acceptRanges), ("unicode/utf8.first", laid_unicode_utf8_first)] }
def ParasEndSaid : Prop := parasEndRow.holds Tryd.pinned (OpenSpec.ofChange parasEndSpec)

/-- ITS FALSE NEIGHBOUR: 'it returns false'. Refute it at one input. -/
def parasEndWrong : ChangeSpec := { name := "parasEnd", fn := fun _ => fun
  | [d] => { results := [.lit (.bool false)], args := [d] }
  | _ => none }
def ParasEndWrongFalsely : Prop := parasEndRow.holds Tryd.pinned (OpenSpec.ofChange parasEndWrong)

/-- 'quilllaw14.PairsBack': WHATEVER THE INPUT: true; the input reads as it did. -/
def pairsBackSpec : ChangeSpec := { name := "pairsBack", fn := fun _ => fun
  | [d] => { results := [.lit (.bool true)], args := [d] }
  | _ => none }
def pairsBackRow : OpenClaim := { program := "ytfiapekpeiapbaadoor", sum := "1e7397f7f4f75c354e25fa0f54b93afbb3f3e82b20cccdbcb528ae75439ceea0", func := "quill/quilllaw14.PairsBack", spec := "pairsBack", inPlace := ["internal/bytealg.IndexByteString", "internal/bytealg.IndexString"], named := ["unicode/utf8.first", "unicode/utf8.acceptRanges", "internal/bytealg.MaxLen"], apart := false, laid := [("unicode/utf8.acceptRanges", laid_unicode_utf8_acceptRanges), ("unicode/utf8.first", laid_unicode_utf8_first)] }
def PairsBackSaid : Prop := pairsBackRow.holds Tryd.pinned (OpenSpec.ofChange pairsBackSpec)

/-- ITS FALSE NEIGHBOUR: 'it returns false'. Refute it at one input. -/
def pairsBackWrong : ChangeSpec := { name := "pairsBack", fn := fun _ => fun
  | [d] => { results := [.lit (.bool false)], args := [d] }
  | _ => none }
def PairsBackWrongFalsely : Prop := pairsBackRow.holds Tryd.pinned (OpenSpec.ofChange pairsBackWrong)

/-- 'quilllaw14.PairsMates': WHATEVER THE INPUT: true; the input reads as it did. -/
def pairsMatesSpec : ChangeSpec := { name := "pairsMates", fn := fun _ => fun
  | [d] => { results := [.lit (.bool true)], args := [d] }
  | _ => none }
def pairsMatesRow : OpenClaim := { program := "ytfiapekpeiapbaadoor", sum := "1e7397f7f4f75c354e25fa0f54b93afbb3f3e82b20cccdbcb528ae75439ceea0", func := "quill/quilllaw14.PairsMates", spec := "pairsMates", inPlace := ["internal/bytealg.IndexByteString", "internal/bytealg.IndexString"], named := ["unicode/utf8.first", "unicode/utf8.acceptRanges", "internal/bytealg.MaxLen"], apart := false, laid := [("unicode/utf8.acceptRanges", laid_unicode_utf8_acceptRanges), ("unicode/utf8.first", laid_unicode_utf8_first)] }
def PairsMatesSaid : Prop := pairsMatesRow.holds Tryd.pinned (OpenSpec.ofChange pairsMatesSpec)

/-- ITS FALSE NEIGHBOUR: 'it returns false'. Refute it at one input. -/
def pairsMatesWrong : ChangeSpec := { name := "pairsMates", fn := fun _ => fun
  | [d] => { results := [.lit (.bool false)], args := [d] }
  | _ => none }
def PairsMatesWrongFalsely : Prop := pairsMatesRow.holds Tryd.pinned (OpenSpec.ofChange pairsMatesWrong)

/-- 'quilllaw1.TextRows': WHATEVER THE INPUT: true; the input reads as it did. -/
def textRowsSpec : ChangeSpec := { name := "textRows", fn := fun _ => fun
  | [d] => { results := [.lit (.bool true)], args := [d] }
  | _ => none }
def textRowsRow : OpenClaim := { program := "ytfiapekpeiapbaadoor", sum := "1e7397f7f4f75c354e25fa0f54b93afbb3f3e82b20cccdbcb528ae75439ceea0", func := "quill/quilllaw1.TextRows", spec := "textRows", inPlace := ["internal/bytealg.IndexByteString", "internal/bytealg.CountString", "internal/bytealg.IndexString", "internal/abi.NoEscape", "internal/bytealg.MakeNoZero"], named := ["unicode/utf8.first", "unicode/utf8.acceptRanges", "internal/bytealg.MaxLen"], apart := false, laid := [("unicode/utf8.acceptRanges", laid_unicode_utf8_acceptRanges), ("unicode/utf8.first", laid_unicode_utf8_first)] }
def TextRowsSaid : Prop := textRowsRow.holds Tryd.pinned (OpenSpec.ofChange textRowsSpec)

/-- ITS FALSE NEIGHBOUR: 'it returns false'. Refute it at one input. -/
def textRowsWrong : ChangeSpec := { name := "textRows", fn := fun _ => fun
  | [d] => { results := [.lit (.bool false)], args := [d] }
  | _ => none }
def TextRowsWrongFalsely : Prop := textRowsRow.holds Tryd.pinned (OpenSpec.ofChange textRowsWrong)

/-- 'quilllaw1.TextBack': WHATEVER THE INPUT: true; the input reads as it did. -/
def textBackSpec : ChangeSpec := { name := "textBack", fn := fun _ => fun
  | [d] => { results := [.lit (.bool true)], args := [d] }
  | _ => none }
def textBackRow : OpenClaim := { program := "ytfiapekpeiapbaadoor", sum := "1e7397f7f4f75c354e25fa0f54b93afbb3f3e82b20cccdbcb528ae75439ceea0", func := "quill/quilllaw1.TextBack", spec := "textBack", inPlace := ["internal/bytealg.IndexByteString", "internal/bytealg.CountString", "internal/bytealg.IndexString", "internal/abi.NoEscape", "internal/bytealg.MakeNoZero"], named := ["unicode/utf8.first", "unicode/utf8.acceptRanges", "internal/bytealg.MaxLen"], apart := false, laid := [("unicode/utf8.acceptRanges", laid_unicode_utf8_acceptRanges), ("unicode/utf8.first", laid_unicode_utf8_first)] }
def TextBackSaid : Prop := textBackRow.holds Tryd.pinned (OpenSpec.ofChange textBackSpec)

/-- ITS FALSE NEIGHBOUR: 'it returns false'. Refute it at one input. -/
def textBackWrong : ChangeSpec := { name := "textBack", fn := fun _ => fun
  | [d] => { results := [.lit (.bool false)], args := [d] }
  | _ => none }
def TextBackWrongFalsely : Prop := textBackRow.holds Tryd.pinned (OpenSpec.ofChange textBackWrong)

/- THE SECOND FORM. 'bulk': how many values and letters a reading holds, each counted each time it is reached (what is shared counts as often as it is met; a slice's spare places count too). A statement '..UptoSaid' is the law's where the arguments, and the package variables that the reading takes, are together of bulk at most 1048576: NARROWER than '..Said'. Prove '..Said' where nothing that the law and all that it calls make is longer than what came in: it says more and counts as full. Else prove '..UptoSaid'. A law counts once. -/
mutual
def uptoBulk {H : Type} : DataW H → Nat
  | .lit (.string bytes) => bytes.length + 1
  | .lit _ => 1
  | .nil => 1
  | .ptr d => uptoBulk d + 1
  | .slice elems spare => uptoBulkAll elems + uptoBulkAll spare + 1
  | .agg parts => uptoBulkAll parts + 1
  | .iface _ d => uptoBulk d + 1
  | .map entries => uptoBulkEntries entries + 1
  | .held _ => 1
def uptoBulkAll {H : Type} : List (DataW H) → Nat
  | [] => 0
  | d :: r => uptoBulk d + uptoBulkAll r
def uptoBulkEntries {H : Type} : List (Lit × DataW H) → Nat
  | [] => 0
  | x :: r => uptoBulkEntry x + uptoBulkEntries r
def uptoBulkEntry {H : Type} : Lit × DataW H → Nat
  | (.string bytes, d) => bytes.length + uptoBulk d + 1
  | (_, d) => uptoBulk d + 1
 end
def uptoSmall : (H : Type) → List (DataW H) → Bool := fun _ ds => decide (uptoBulkAll ds ≤ 1048576)
def OpenSpec.upto (s : _root_.Go.ChangeSpec) : _root_.Go.OpenSpec := { _root_.Go.OpenSpec.ofChange s with cond := some uptoSmall }

/-- 'quilllaw4.PatchBetween', WHERE WHAT IT READS IS OF BULK AT MOST 1048576: true; the input reads as it did. -/
def patchBetweenUptoRow : OpenClaim := { program := "ytfiapekpeiapbaadoor", sum := "1e7397f7f4f75c354e25fa0f54b93afbb3f3e82b20cccdbcb528ae75439ceea0", func := "quill/quilllaw4.PatchBetween", spec := "patchBetween", inPlace := ["internal/bytealg.IndexByteString"], named := ["unicode/utf8.first", "unicode/utf8.acceptRanges"], apart := false, laid := [("unicode/utf8.acceptRanges", laid_unicode_utf8_acceptRanges), ("unicode/utf8.first", laid_unicode_utf8_first)], narrowed := true }
def PatchBetweenUptoSaid : Prop := patchBetweenUptoRow.holds Tryd.pinned (OpenSpec.upto patchBetweenSpec)

/-- 'quilllaw4.PatchShifts', WHERE WHAT IT READS IS OF BULK AT MOST 1048576: true; the input reads as it did. -/
def patchShiftsUptoRow : OpenClaim := { program := "ytfiapekpeiapbaadoor", sum := "1e7397f7f4f75c354e25fa0f54b93afbb3f3e82b20cccdbcb528ae75439ceea0", func := "quill/quilllaw4.PatchShifts", spec := "patchShifts", inPlace := ["internal/bytealg.IndexByteString"], unfollowed := true, recurses := true, named := ["unicode/utf8.first", "unicode/utf8.acceptRanges"], apart := false, laid := [("unicode/utf8.acceptRanges", laid_unicode_utf8_acceptRanges), ("unicode/utf8.first", laid_unicode_utf8_first)], narrowed := true }
def PatchShiftsUptoSaid : Prop := patchShiftsUptoRow.holds Tryd.pinned (OpenSpec.upto patchShiftsSpec)

/-- 'quilllaw11.SeekStands', WHERE WHAT IT READS IS OF BULK AT MOST 1048576: true; the input reads as it did. -/
def seekStandsUptoRow : OpenClaim := { program := "ytfiapekpeiapbaadoor", sum := "1e7397f7f4f75c354e25fa0f54b93afbb3f3e82b20cccdbcb528ae75439ceea0", func := "quill/quilllaw11.SeekStands", spec := "seekStands", inPlace := ["internal/bytealg.IndexByteString"], named := ["unicode/utf8.first", "unicode/utf8.acceptRanges"], apart := false, laid := [("unicode/utf8.acceptRanges", laid_unicode_utf8_acceptRanges), ("unicode/utf8.first", laid_unicode_utf8_first)], narrowed := true }
def SeekStandsUptoSaid : Prop := seekStandsUptoRow.holds Tryd.pinned (OpenSpec.upto seekStandsSpec)

/-- 'quilllaw11.SeekFinds', WHERE WHAT IT READS IS OF BULK AT MOST 1048576: true; the input reads as it did. -/
def seekFindsUptoRow : OpenClaim := { program := "ytfiapekpeiapbaadoor", sum := "1e7397f7f4f75c354e25fa0f54b93afbb3f3e82b20cccdbcb528ae75439ceea0", func := "quill/quilllaw11.SeekFinds", spec := "seekFinds", inPlace := ["internal/bytealg.IndexByteString"], named := ["unicode/utf8.first", "unicode/utf8.acceptRanges"], apart := false, laid := [("unicode/utf8.acceptRanges", laid_unicode_utf8_acceptRanges), ("unicode/utf8.first", laid_unicode_utf8_first)], narrowed := true }
def SeekFindsUptoSaid : Prop := seekFindsUptoRow.holds Tryd.pinned (OpenSpec.upto seekFindsSpec)

/-- 'quilllaw13.ParasMove', WHERE WHAT IT READS IS OF BULK AT MOST 1048576: true; the input reads as it did. -/
def parasMoveUptoRow : OpenClaim := { program := "ytfiapekpeiapbaadoor", sum := "1e7397f7f4f75c354e25fa0f54b93afbb3f3e82b20cccdbcb528ae75439ceea0", func := "quill/quilllaw13.ParasMove", spec := "parasMove", inPlace := ["internal/bytealg.IndexByteString"], unfollowed := true, recurses := true, named := ["unicode/utf8.first", "unicode/utf8.acceptRanges"], apart := false, laid := [("unicode/utf8.acceptRanges", laid_unicode_utf8_acceptRanges), ("unicode/utf8.first", laid_unicode_utf8_first)], narrowed := true }
def ParasMoveUptoSaid : Prop := parasMoveUptoRow.holds Tryd.pinned (OpenSpec.upto parasMoveSpec)

/-- 'quilllaw13.ParasEnd', WHERE WHAT IT READS IS OF BULK AT MOST 1048576: true; the input reads as it did. -/
def parasEndUptoRow : OpenClaim := { program := "ytfiapekpeiapbaadoor", sum := "1e7397f7f4f75c354e25fa0f54b93afbb3f3e82b20cccdbcb528ae75439ceea0", func := "quill/quilllaw13.ParasEnd", spec := "parasEnd", inPlace := ["internal/bytealg.IndexByteString"], unfollowed := true, recurses := true, named := ["unicode/utf8.first", "unicode/utf8.acceptRanges"], apart := false, laid := [("unicode/utf8.acceptRanges", laid_unicode_utf8_acceptRanges), ("unicode/utf8.first", laid_unicode_utf8_first)], narrowed := true }
def ParasEndUptoSaid : Prop := parasEndUptoRow.holds Tryd.pinned (OpenSpec.upto parasEndSpec)

/-- 'quilllaw14.PairsBack', WHERE WHAT IT READS IS OF BULK AT MOST 1048576: true; the input reads as it did. -/
def pairsBackUptoRow : OpenClaim := { program := "ytfiapekpeiapbaadoor", sum := "1e7397f7f4f75c354e25fa0f54b93afbb3f3e82b20cccdbcb528ae75439ceea0", func := "quill/quilllaw14.PairsBack", spec := "pairsBack", inPlace := ["internal/bytealg.IndexByteString", "internal/bytealg.IndexString"], named := ["unicode/utf8.first", "unicode/utf8.acceptRanges", "internal/bytealg.MaxLen"], apart := false, laid := [("unicode/utf8.acceptRanges", laid_unicode_utf8_acceptRanges), ("unicode/utf8.first", laid_unicode_utf8_first)], narrowed := true }
def PairsBackUptoSaid : Prop := pairsBackUptoRow.holds Tryd.pinned (OpenSpec.upto pairsBackSpec)

/-- 'quilllaw14.PairsMates', WHERE WHAT IT READS IS OF BULK AT MOST 1048576: true; the input reads as it did. -/
def pairsMatesUptoRow : OpenClaim := { program := "ytfiapekpeiapbaadoor", sum := "1e7397f7f4f75c354e25fa0f54b93afbb3f3e82b20cccdbcb528ae75439ceea0", func := "quill/quilllaw14.PairsMates", spec := "pairsMates", inPlace := ["internal/bytealg.IndexByteString", "internal/bytealg.IndexString"], named := ["unicode/utf8.first", "unicode/utf8.acceptRanges", "internal/bytealg.MaxLen"], apart := false, laid := [("unicode/utf8.acceptRanges", laid_unicode_utf8_acceptRanges), ("unicode/utf8.first", laid_unicode_utf8_first)], narrowed := true }
def PairsMatesUptoSaid : Prop := pairsMatesUptoRow.holds Tryd.pinned (OpenSpec.upto pairsMatesSpec)

/-- 'quilllaw1.TextRows', WHERE WHAT IT READS IS OF BULK AT MOST 1048576: true; the input reads as it did. -/
def textRowsUptoRow : OpenClaim := { program := "ytfiapekpeiapbaadoor", sum := "1e7397f7f4f75c354e25fa0f54b93afbb3f3e82b20cccdbcb528ae75439ceea0", func := "quill/quilllaw1.TextRows", spec := "textRows", inPlace := ["internal/bytealg.IndexByteString", "internal/bytealg.CountString", "internal/bytealg.IndexString", "internal/abi.NoEscape", "internal/bytealg.MakeNoZero"], named := ["unicode/utf8.first", "unicode/utf8.acceptRanges", "internal/bytealg.MaxLen"], apart := false, laid := [("unicode/utf8.acceptRanges", laid_unicode_utf8_acceptRanges), ("unicode/utf8.first", laid_unicode_utf8_first)], narrowed := true }
def TextRowsUptoSaid : Prop := textRowsUptoRow.holds Tryd.pinned (OpenSpec.upto textRowsSpec)

/-- 'quilllaw1.TextBack', WHERE WHAT IT READS IS OF BULK AT MOST 1048576: true; the input reads as it did. -/
def textBackUptoRow : OpenClaim := { program := "ytfiapekpeiapbaadoor", sum := "1e7397f7f4f75c354e25fa0f54b93afbb3f3e82b20cccdbcb528ae75439ceea0", func := "quill/quilllaw1.TextBack", spec := "textBack", inPlace := ["internal/bytealg.IndexByteString", "internal/bytealg.CountString", "internal/bytealg.IndexString", "internal/abi.NoEscape", "internal/bytealg.MakeNoZero"], named := ["unicode/utf8.first", "unicode/utf8.acceptRanges", "internal/bytealg.MaxLen"], apart := false, laid := [("unicode/utf8.acceptRanges", laid_unicode_utf8_acceptRanges), ("unicode/utf8.first", laid_unicode_utf8_first)], narrowed := true }
def TextBackUptoSaid : Prop := textBackUptoRow.holds Tryd.pinned (OpenSpec.upto textBackSpec)

end Rows
end Go.Proofs.YtfiapekpeiapbaaDoor
