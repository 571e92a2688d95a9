/-
  DERIVED. GIVEN WITH THE SEED: THE CARDS: each row of YtfiapekpeiapbaaDoorRows.lean that lists a variable, with what it lists TIED to the program's text (the seventh form; the later family's looks); each row that meets fmt, with fmt's text TOLD by the authors' own Lean function (tested against real Go, not proved from fmt's source: count such statements apart). THE CARD IS WHAT COUNTS. Prove the row's statement (the work); the ties are given (YtfiapekpeiapbaaDoorTie.lean); close each card by the builder's one call (the guide's Derived/Test/ToyasCard.lean, 'card_holds'). Laid BY PROGRAM, IN A SANDBOX (cutbox-door.mjs). By AI agents, Wed Nov 11 2026. No macro, syntax, notation, axiom, sorry.
-/
import Derived.Test.YtfiapekpeiapbaaDoorRows
import GoSem.ClaimSeven
namespace Go.Proofs.YtfiapekpeiapbaaDoor
namespace Rows

/-- THE TIED CARD OF 'quilllaw4.PatchBetween'. -/
def patchBetweenCard : Claim7 := { stood := { row := patchBetweenRow, standIns := [], harness := (true, "8f145175d3268570d97b5f0d33bc6f58364941e968b0610d0d12a1d86d64863a"), looks := false }, kinds := [], alts := [], laidByText := true, laidKinds := [.data, .pinned], laidTests := true, laidLooks := .later }
def PatchBetweenCardSaid : Prop := Claim7.holds Tryd.pinned (.plain (OpenSpec.ofChange patchBetweenSpec)) patchBetweenCard

/-- THE TIED CARD OF 'quilllaw4.PatchShifts'. -/
def patchShiftsCard : Claim7 := { stood := { row := patchShiftsRow, standIns := [], harness := (true, "8f145175d3268570d97b5f0d33bc6f58364941e968b0610d0d12a1d86d64863a"), looks := false }, kinds := [], alts := [], laidByText := true, laidKinds := [.data, .pinned], laidTests := true, laidLooks := .later }
def PatchShiftsCardSaid : Prop := Claim7.holds Tryd.pinned (.plain (OpenSpec.ofChange patchShiftsSpec)) patchShiftsCard

/-- THE TIED CARD OF 'quilllaw11.SeekStands'. -/
def seekStandsCard : Claim7 := { stood := { row := seekStandsRow, standIns := [], harness := (true, "8f145175d3268570d97b5f0d33bc6f58364941e968b0610d0d12a1d86d64863a"), looks := false }, kinds := [], alts := [], laidByText := true, laidKinds := [.data, .pinned], laidTests := true, laidLooks := .later }
def SeekStandsCardSaid : Prop := Claim7.holds Tryd.pinned (.plain (OpenSpec.ofChange seekStandsSpec)) seekStandsCard

/-- THE TIED CARD OF 'quilllaw11.SeekFinds'. -/
def seekFindsCard : Claim7 := { stood := { row := seekFindsRow, standIns := [], harness := (true, "8f145175d3268570d97b5f0d33bc6f58364941e968b0610d0d12a1d86d64863a"), looks := false }, kinds := [], alts := [], laidByText := true, laidKinds := [.data, .pinned], laidTests := true, laidLooks := .later }
def SeekFindsCardSaid : Prop := Claim7.holds Tryd.pinned (.plain (OpenSpec.ofChange seekFindsSpec)) seekFindsCard

/-- THE TIED CARD OF 'quilllaw13.ParasMove'. -/
def parasMoveCard : Claim7 := { stood := { row := parasMoveRow, standIns := [], harness := (true, "8f145175d3268570d97b5f0d33bc6f58364941e968b0610d0d12a1d86d64863a"), looks := false }, kinds := [], alts := [], laidByText := true, laidKinds := [.data, .pinned], laidTests := true, laidLooks := .later }
def ParasMoveCardSaid : Prop := Claim7.holds Tryd.pinned (.plain (OpenSpec.ofChange parasMoveSpec)) parasMoveCard

/-- THE TIED CARD OF 'quilllaw13.ParasEnd'. -/
def parasEndCard : Claim7 := { stood := { row := parasEndRow, standIns := [], harness := (true, "8f145175d3268570d97b5f0d33bc6f58364941e968b0610d0d12a1d86d64863a"), looks := false }, kinds := [], alts := [], laidByText := true, laidKinds := [.data, .pinned], laidTests := true, laidLooks := .later }
def ParasEndCardSaid : Prop := Claim7.holds Tryd.pinned (.plain (OpenSpec.ofChange parasEndSpec)) parasEndCard

/-- THE TIED CARD OF 'quilllaw14.PairsBack'. -/
def pairsBackCard : Claim7 := { stood := { row := pairsBackRow, standIns := [], harness := (true, "8f145175d3268570d97b5f0d33bc6f58364941e968b0610d0d12a1d86d64863a"), looks := false }, kinds := [], alts := [], laidByText := true, laidKinds := [.data, .pinned], laidTests := true, laidLooks := .later }
def PairsBackCardSaid : Prop := Claim7.holds Tryd.pinned (.plain (OpenSpec.ofChange pairsBackSpec)) pairsBackCard

/-- THE TIED CARD OF 'quilllaw14.PairsMates'. -/
def pairsMatesCard : Claim7 := { stood := { row := pairsMatesRow, standIns := [], harness := (true, "8f145175d3268570d97b5f0d33bc6f58364941e968b0610d0d12a1d86d64863a"), looks := false }, kinds := [], alts := [], laidByText := true, laidKinds := [.data, .pinned], laidTests := true, laidLooks := .later }
def PairsMatesCardSaid : Prop := Claim7.holds Tryd.pinned (.plain (OpenSpec.ofChange pairsMatesSpec)) pairsMatesCard

/-- THE TIED CARD OF 'quilllaw1.TextRows'. -/
def textRowsCard : Claim7 := { stood := { row := textRowsRow, standIns := [], harness := (true, "8f145175d3268570d97b5f0d33bc6f58364941e968b0610d0d12a1d86d64863a"), looks := false }, kinds := [], alts := [], laidByText := true, laidKinds := [.data, .pinned], laidTests := true, laidLooks := .later }
def TextRowsCardSaid : Prop := Claim7.holds Tryd.pinned (.plain (OpenSpec.ofChange textRowsSpec)) textRowsCard

/-- THE TIED CARD OF 'quilllaw1.TextBack'. -/
def textBackCard : Claim7 := { stood := { row := textBackRow, standIns := [], harness := (true, "8f145175d3268570d97b5f0d33bc6f58364941e968b0610d0d12a1d86d64863a"), looks := false }, kinds := [], alts := [], laidByText := true, laidKinds := [.data, .pinned], laidTests := true, laidLooks := .later }
def TextBackCardSaid : Prop := Claim7.holds Tryd.pinned (.plain (OpenSpec.ofChange textBackSpec)) textBackCard

/-- THE SECOND FORM's CARD OF 'quilllaw4.PatchBetween'. -/
def patchBetweenUptoCard : Claim7 := { stood := { row := patchBetweenUptoRow, standIns := [], harness := (true, "8f145175d3268570d97b5f0d33bc6f58364941e968b0610d0d12a1d86d64863a"), looks := false }, kinds := [], alts := [], laidByText := true, laidKinds := [.data, .pinned], laidTests := true, laidLooks := .later }
def PatchBetweenUptoCardSaid : Prop := Claim7.holds Tryd.pinned (.plain (OpenSpec.upto patchBetweenSpec)) patchBetweenUptoCard

/-- THE SECOND FORM's CARD OF 'quilllaw4.PatchShifts'. -/
def patchShiftsUptoCard : Claim7 := { stood := { row := patchShiftsUptoRow, standIns := [], harness := (true, "8f145175d3268570d97b5f0d33bc6f58364941e968b0610d0d12a1d86d64863a"), looks := false }, kinds := [], alts := [], laidByText := true, laidKinds := [.data, .pinned], laidTests := true, laidLooks := .later }
def PatchShiftsUptoCardSaid : Prop := Claim7.holds Tryd.pinned (.plain (OpenSpec.upto patchShiftsSpec)) patchShiftsUptoCard

/-- THE SECOND FORM's CARD OF 'quilllaw11.SeekStands'. -/
def seekStandsUptoCard : Claim7 := { stood := { row := seekStandsUptoRow, standIns := [], harness := (true, "8f145175d3268570d97b5f0d33bc6f58364941e968b0610d0d12a1d86d64863a"), looks := false }, kinds := [], alts := [], laidByText := true, laidKinds := [.data, .pinned], laidTests := true, laidLooks := .later }
def SeekStandsUptoCardSaid : Prop := Claim7.holds Tryd.pinned (.plain (OpenSpec.upto seekStandsSpec)) seekStandsUptoCard

/-- THE SECOND FORM's CARD OF 'quilllaw11.SeekFinds'. -/
def seekFindsUptoCard : Claim7 := { stood := { row := seekFindsUptoRow, standIns := [], harness := (true, "8f145175d3268570d97b5f0d33bc6f58364941e968b0610d0d12a1d86d64863a"), looks := false }, kinds := [], alts := [], laidByText := true, laidKinds := [.data, .pinned], laidTests := true, laidLooks := .later }
def SeekFindsUptoCardSaid : Prop := Claim7.holds Tryd.pinned (.plain (OpenSpec.upto seekFindsSpec)) seekFindsUptoCard

/-- THE SECOND FORM's CARD OF 'quilllaw13.ParasMove'. -/
def parasMoveUptoCard : Claim7 := { stood := { row := parasMoveUptoRow, standIns := [], harness := (true, "8f145175d3268570d97b5f0d33bc6f58364941e968b0610d0d12a1d86d64863a"), looks := false }, kinds := [], alts := [], laidByText := true, laidKinds := [.data, .pinned], laidTests := true, laidLooks := .later }
def ParasMoveUptoCardSaid : Prop := Claim7.holds Tryd.pinned (.plain (OpenSpec.upto parasMoveSpec)) parasMoveUptoCard

/-- THE SECOND FORM's CARD OF 'quilllaw13.ParasEnd'. -/
def parasEndUptoCard : Claim7 := { stood := { row := parasEndUptoRow, standIns := [], harness := (true, "8f145175d3268570d97b5f0d33bc6f58364941e968b0610d0d12a1d86d64863a"), looks := false }, kinds := [], alts := [], laidByText := true, laidKinds := [.data, .pinned], laidTests := true, laidLooks := .later }
def ParasEndUptoCardSaid : Prop := Claim7.holds Tryd.pinned (.plain (OpenSpec.upto parasEndSpec)) parasEndUptoCard

/-- THE SECOND FORM's CARD OF 'quilllaw14.PairsBack'. -/
def pairsBackUptoCard : Claim7 := { stood := { row := pairsBackUptoRow, standIns := [], harness := (true, "8f145175d3268570d97b5f0d33bc6f58364941e968b0610d0d12a1d86d64863a"), looks := false }, kinds := [], alts := [], laidByText := true, laidKinds := [.data, .pinned], laidTests := true, laidLooks := .later }
def PairsBackUptoCardSaid : Prop := Claim7.holds Tryd.pinned (.plain (OpenSpec.upto pairsBackSpec)) pairsBackUptoCard

/-- THE SECOND FORM's CARD OF 'quilllaw14.PairsMates'. -/
def pairsMatesUptoCard : Claim7 := { stood := { row := pairsMatesUptoRow, standIns := [], harness := (true, "8f145175d3268570d97b5f0d33bc6f58364941e968b0610d0d12a1d86d64863a"), looks := false }, kinds := [], alts := [], laidByText := true, laidKinds := [.data, .pinned], laidTests := true, laidLooks := .later }
def PairsMatesUptoCardSaid : Prop := Claim7.holds Tryd.pinned (.plain (OpenSpec.upto pairsMatesSpec)) pairsMatesUptoCard

/-- THE SECOND FORM's CARD OF 'quilllaw1.TextRows'. -/
def textRowsUptoCard : Claim7 := { stood := { row := textRowsUptoRow, standIns := [], harness := (true, "8f145175d3268570d97b5f0d33bc6f58364941e968b0610d0d12a1d86d64863a"), looks := false }, kinds := [], alts := [], laidByText := true, laidKinds := [.data, .pinned], laidTests := true, laidLooks := .later }
def TextRowsUptoCardSaid : Prop := Claim7.holds Tryd.pinned (.plain (OpenSpec.upto textRowsSpec)) textRowsUptoCard

/-- THE SECOND FORM's CARD OF 'quilllaw1.TextBack'. -/
def textBackUptoCard : Claim7 := { stood := { row := textBackUptoRow, standIns := [], harness := (true, "8f145175d3268570d97b5f0d33bc6f58364941e968b0610d0d12a1d86d64863a"), looks := false }, kinds := [], alts := [], laidByText := true, laidKinds := [.data, .pinned], laidTests := true, laidLooks := .later }
def TextBackUptoCardSaid : Prop := Claim7.holds Tryd.pinned (.plain (OpenSpec.upto textBackSpec)) textBackUptoCard
end Rows
end Go.Proofs.YtfiapekpeiapbaaDoor
