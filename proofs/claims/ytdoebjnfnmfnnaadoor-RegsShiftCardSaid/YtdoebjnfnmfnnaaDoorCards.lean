/-
  DERIVED. GIVEN WITH THE SEED: THE CARDS: each row of YtdoebjnfnmfnnaaDoorRows.lean that lists a variable, with what it lists TIED to the program's text (the seventh form; the later family's looks); each row that meets fmt, with fmt's text TOLD by the authors' own Lean function (tested against real Go, not proved from fmt's source: count such statements apart). THE CARD IS WHAT COUNTS. Prove the row's statement (the work); the ties are given (YtdoebjnfnmfnnaaDoorTie.lean); close each card by the builder's one call (the guide's Derived/Test/ToyasCard.lean, 'card_holds'). Laid BY PROGRAM, IN A SANDBOX (cutbox-door.mjs). By AI agents, Wed Nov 11 2026. No macro, syntax, notation, axiom, sorry.
-/
import Derived.Test.YtdoebjnfnmfnnaaDoorRows
import GoSem.ClaimSeven
namespace Go.Proofs.YtdoebjnfnmfnnaaDoor
namespace Rows

/-- THE TIED CARD OF 'quilllaw7.UndoBack'. -/
def undoBackCard : Claim7 := { stood := { row := undoBackRow, standIns := [], harness := (true, "3854aa3ab2b545a8d21a5fc66d04cdb3eebfd9a341d62152b9f31154ece02015"), looks := false }, kinds := [], alts := [], laidByText := true, laidKinds := [.data, .pinned], laidTests := true, laidLooks := .later }
def UndoBackCardSaid : Prop := Claim7.holds Tryd.pinned (.plain (OpenSpec.ofChange undoBackSpec)) undoBackCard

/-- THE TIED CARD OF 'quilllaw7.UndoExact'. -/
def undoExactCard : Claim7 := { stood := { row := undoExactRow, standIns := [], harness := (true, "3854aa3ab2b545a8d21a5fc66d04cdb3eebfd9a341d62152b9f31154ece02015"), looks := false }, kinds := [], alts := [], laidByText := true, laidKinds := [.data, .pinned], laidTests := true, laidLooks := .later }
def UndoExactCardSaid : Prop := Claim7.holds Tryd.pinned (.plain (OpenSpec.ofChange undoExactSpec)) undoExactCard

/-- THE TIED CARD OF 'quilllaw8.HistoryBack'. -/
def historyBackCard : Claim7 := { stood := { row := historyBackRow, standIns := [], harness := (true, "3854aa3ab2b545a8d21a5fc66d04cdb3eebfd9a341d62152b9f31154ece02015"), looks := false }, kinds := [], alts := [], laidByText := true, laidKinds := [.data, .pinned], laidTests := true, laidLooks := .later }
def HistoryBackCardSaid : Prop := Claim7.holds Tryd.pinned (.plain (OpenSpec.ofChange historyBackSpec)) historyBackCard

/-- THE TIED CARD OF 'quilllaw8.HistoryExact'. -/
def historyExactCard : Claim7 := { stood := { row := historyExactRow, standIns := [], harness := (true, "3854aa3ab2b545a8d21a5fc66d04cdb3eebfd9a341d62152b9f31154ece02015"), looks := false }, kinds := [], alts := [], laidByText := true, laidKinds := [.data, .pinned], laidTests := true, laidLooks := .later }
def HistoryExactCardSaid : Prop := Claim7.holds Tryd.pinned (.plain (OpenSpec.ofChange historyExactSpec)) historyExactCard

/-- THE TIED CARD OF 'quilllaw6.MarksExact'. -/
def marksExactCard : Claim7 := { stood := { row := marksExactRow, standIns := [], harness := (true, "3854aa3ab2b545a8d21a5fc66d04cdb3eebfd9a341d62152b9f31154ece02015"), looks := false }, kinds := [], alts := [], laidByText := true, laidKinds := [.data, .pinned], laidTests := true, laidLooks := .later }
def MarksExactCardSaid : Prop := Claim7.holds Tryd.pinned (.plain (OpenSpec.ofChange marksExactSpec)) marksExactCard

/-- THE TIED CARD OF 'quilllaw6.MarksSet'. -/
def marksSetCard : Claim7 := { stood := { row := marksSetRow, standIns := [], harness := (true, "3854aa3ab2b545a8d21a5fc66d04cdb3eebfd9a341d62152b9f31154ece02015"), looks := false }, kinds := [], alts := [], laidByText := true, laidKinds := [.data, .pinned], laidTests := true, laidLooks := .later }
def MarksSetCardSaid : Prop := Claim7.holds Tryd.pinned (.plain (OpenSpec.ofChange marksSetSpec)) marksSetCard

/-- THE TIED CARD OF 'quilllaw9.RegsShift'. -/
def regsShiftCard : Claim7 := { stood := { row := regsShiftRow, standIns := [], harness := (true, "3854aa3ab2b545a8d21a5fc66d04cdb3eebfd9a341d62152b9f31154ece02015"), looks := false }, kinds := [], alts := [], laidByText := true, laidKinds := [.data, .pinned], laidTests := true, laidLooks := .later }
def RegsShiftCardSaid : Prop := Claim7.holds Tryd.pinned (.plain (OpenSpec.ofChange regsShiftSpec)) regsShiftCard

/-- THE TIED CARD OF 'quilllaw9.RegsExact'. -/
def regsExactCard : Claim7 := { stood := { row := regsExactRow, standIns := [], harness := (true, "3854aa3ab2b545a8d21a5fc66d04cdb3eebfd9a341d62152b9f31154ece02015"), looks := false }, kinds := [], alts := [], laidByText := true, laidKinds := [.data, .pinned], laidTests := true, laidLooks := .later }
def RegsExactCardSaid : Prop := Claim7.holds Tryd.pinned (.plain (OpenSpec.ofChange regsExactSpec)) regsExactCard

/-- THE SECOND FORM's CARD OF 'quilllaw7.UndoBack'. -/
def undoBackUptoCard : Claim7 := { stood := { row := undoBackUptoRow, standIns := [], harness := (true, "3854aa3ab2b545a8d21a5fc66d04cdb3eebfd9a341d62152b9f31154ece02015"), looks := false }, kinds := [], alts := [], laidByText := true, laidKinds := [.data, .pinned], laidTests := true, laidLooks := .later }
def UndoBackUptoCardSaid : Prop := Claim7.holds Tryd.pinned (.plain (OpenSpec.upto undoBackSpec)) undoBackUptoCard

/-- THE SECOND FORM's CARD OF 'quilllaw7.UndoExact'. -/
def undoExactUptoCard : Claim7 := { stood := { row := undoExactUptoRow, standIns := [], harness := (true, "3854aa3ab2b545a8d21a5fc66d04cdb3eebfd9a341d62152b9f31154ece02015"), looks := false }, kinds := [], alts := [], laidByText := true, laidKinds := [.data, .pinned], laidTests := true, laidLooks := .later }
def UndoExactUptoCardSaid : Prop := Claim7.holds Tryd.pinned (.plain (OpenSpec.upto undoExactSpec)) undoExactUptoCard

/-- THE SECOND FORM's CARD OF 'quilllaw8.HistoryBack'. -/
def historyBackUptoCard : Claim7 := { stood := { row := historyBackUptoRow, standIns := [], harness := (true, "3854aa3ab2b545a8d21a5fc66d04cdb3eebfd9a341d62152b9f31154ece02015"), looks := false }, kinds := [], alts := [], laidByText := true, laidKinds := [.data, .pinned], laidTests := true, laidLooks := .later }
def HistoryBackUptoCardSaid : Prop := Claim7.holds Tryd.pinned (.plain (OpenSpec.upto historyBackSpec)) historyBackUptoCard

/-- THE SECOND FORM's CARD OF 'quilllaw8.HistoryExact'. -/
def historyExactUptoCard : Claim7 := { stood := { row := historyExactUptoRow, standIns := [], harness := (true, "3854aa3ab2b545a8d21a5fc66d04cdb3eebfd9a341d62152b9f31154ece02015"), looks := false }, kinds := [], alts := [], laidByText := true, laidKinds := [.data, .pinned], laidTests := true, laidLooks := .later }
def HistoryExactUptoCardSaid : Prop := Claim7.holds Tryd.pinned (.plain (OpenSpec.upto historyExactSpec)) historyExactUptoCard

/-- THE SECOND FORM's CARD OF 'quilllaw6.MarksExact'. -/
def marksExactUptoCard : Claim7 := { stood := { row := marksExactUptoRow, standIns := [], harness := (true, "3854aa3ab2b545a8d21a5fc66d04cdb3eebfd9a341d62152b9f31154ece02015"), looks := false }, kinds := [], alts := [], laidByText := true, laidKinds := [.data, .pinned], laidTests := true, laidLooks := .later }
def MarksExactUptoCardSaid : Prop := Claim7.holds Tryd.pinned (.plain (OpenSpec.upto marksExactSpec)) marksExactUptoCard

/-- THE SECOND FORM's CARD OF 'quilllaw6.MarksSet'. -/
def marksSetUptoCard : Claim7 := { stood := { row := marksSetUptoRow, standIns := [], harness := (true, "3854aa3ab2b545a8d21a5fc66d04cdb3eebfd9a341d62152b9f31154ece02015"), looks := false }, kinds := [], alts := [], laidByText := true, laidKinds := [.data, .pinned], laidTests := true, laidLooks := .later }
def MarksSetUptoCardSaid : Prop := Claim7.holds Tryd.pinned (.plain (OpenSpec.upto marksSetSpec)) marksSetUptoCard

/-- THE SECOND FORM's CARD OF 'quilllaw9.RegsShift'. -/
def regsShiftUptoCard : Claim7 := { stood := { row := regsShiftUptoRow, standIns := [], harness := (true, "3854aa3ab2b545a8d21a5fc66d04cdb3eebfd9a341d62152b9f31154ece02015"), looks := false }, kinds := [], alts := [], laidByText := true, laidKinds := [.data, .pinned], laidTests := true, laidLooks := .later }
def RegsShiftUptoCardSaid : Prop := Claim7.holds Tryd.pinned (.plain (OpenSpec.upto regsShiftSpec)) regsShiftUptoCard

/-- THE SECOND FORM's CARD OF 'quilllaw9.RegsExact'. -/
def regsExactUptoCard : Claim7 := { stood := { row := regsExactUptoRow, standIns := [], harness := (true, "3854aa3ab2b545a8d21a5fc66d04cdb3eebfd9a341d62152b9f31154ece02015"), looks := false }, kinds := [], alts := [], laidByText := true, laidKinds := [.data, .pinned], laidTests := true, laidLooks := .later }
def RegsExactUptoCardSaid : Prop := Claim7.holds Tryd.pinned (.plain (OpenSpec.upto regsExactSpec)) regsExactUptoCard
end Rows
end Go.Proofs.YtdoebjnfnmfnnaaDoor
