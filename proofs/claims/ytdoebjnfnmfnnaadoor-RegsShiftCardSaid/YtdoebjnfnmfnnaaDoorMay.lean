/- text.May: contract. -/
import Derived.Test.YtdoebjnfnmfnnaaDoorFax1
set_option linter.unusedVariables false
set_option linter.unusedSimpArgs false
namespace Go.Proofs.YtdoebjnfnmfnnaaDoor.F
open Go.RowKit Go.Proofs.YtdoebjnfnmfnnaaDoorW.PrintWords Go.Proofs.YtdoebjnfnmfnnaaDoorW.PrintLast Go.Proofs.YtdoebjnfnmfnnaaDoorW.PrintMore Go.Proofs.YtdoebjnfnmfnnaaDoor.Q
/-- May it be a text? -/
def mayB (s : ByteArray) : Bool := decide (s.size ≤ 4000) && (Lib.validD s.data.toList && decide (Lib.indexByte s.data.toList 0 < 0))
theorem mayB_size {s : ByteArray} (h : mayB s = true) : s.size ≤ 4000 := by
  simp [mayB] at h; exact h.1
theorem May_f (s : ByteArray) : Fa.text_May.f s = some (mayB s) := by
  unfold Fa.text_May.f mayB
  by_cases c : s.size ≤ 4000
  · rw [if_pos (by omega)]
    unfold Fa.text_Whole.f utf8_ValidString.f strings_IndexByte.f
    rw [if_pos (by omega)]
    cases h : Lib.validD s.data.toList <;> simp [c]
  · rw [if_neg (by omega)]; simp [c]
theorem May_c (s : ByteArray) (w : World) (hT : TabsOk w) :
    Calls Tryd.prog 73 #[.string s] w fun e w' => e = .returned (.bool (mayB s)) ∧ Below w.heap.size w w' := Fa.text_May.calls s (mayB s) w hT (May_f s)

def rs (s : ByteArray) : List Int := runes s.data.toList
end Go.Proofs.YtdoebjnfnmfnnaaDoor.F
