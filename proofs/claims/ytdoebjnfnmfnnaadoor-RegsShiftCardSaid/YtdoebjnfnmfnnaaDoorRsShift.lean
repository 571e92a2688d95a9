/- RegsShift: the law's computation is closed (its inputs are not used). -/
import Derived.Test.YtdoebjnfnmfnnaaDoorRsx1
set_option linter.unusedVariables false
set_option linter.unusedSimpArgs false
namespace Go.Proofs.YtdoebjnfnmfnnaaDoor.Rs
open Go.RowKit Go.Proofs.YtdoebjnfnmfnnaaDoor.Q Go.Proofs.YtdoebjnfnmfnnaaDoor.F Go.Lib
open Go.Proofs.YtdoebjnfnmfnnaaDoor.Ra (S113 z113 rd_T113)
open Go.Proofs.YtdoebjnfnmfnnaaDoorW.PrintWords Go.Proofs.YtdoebjnfnmfnnaaDoorW.PrintLast Go.Proofs.YtdoebjnfnmfnnaaDoorW.PrintMore

theorem same_ (l : List S113) (acts : List S123) : ∀ k,
    (∀ x i, quilllaw9_RegsShift.l0 k x i l acts = quilllaw9_RegsShift.l0 k x i [] []) ∧
    (∀ i x b, quilllaw9_RegsShift.j1 k i x b l acts = quilllaw9_RegsShift.j1 k i x b [] []) ∧
    (∀ x i j, quilllaw9_RegsShift.l1 k x i j l acts = quilllaw9_RegsShift.l1 k x i j [] []) := by
  intro k
  induction k with
  | zero => exact ⟨fun _ _ => rfl, fun _ _ _ => rfl, fun _ _ _ => rfl⟩
  | succ k ih =>
    obtain ⟨h0, h1, h2⟩ := ih
    have e1 : ((acts.length : Int) ≥ 0) = True := eq_true (by omega)
    have e2 : ((([] : List S123).length : Int) ≥ 0) = True := eq_true (by decide)
    refine ⟨fun x i => ?_, fun i x b => ?_, fun x i j => ?_⟩
    · rw [quilllaw9_RegsShift.l0, quilllaw9_RegsShift.l0]
      simp only [h1, e1, e2]
    · rw [quilllaw9_RegsShift.j1, quilllaw9_RegsShift.j1]
      simp only [h2]
    · rw [quilllaw9_RegsShift.l1, quilllaw9_RegsShift.l1]
      simp only [h2, h0]
theorem RegsShift_pure (l : List S113) (acts : List S123) : ∃ k, quilllaw9_RegsShift.f k l acts = some true := by
  refine ⟨400, ?_⟩
  rw [quilllaw9_RegsShift.f, (same_ l acts 400).1]
  decide +kernel
end Go.Proofs.YtdoebjnfnmfnnaaDoor.Rs
