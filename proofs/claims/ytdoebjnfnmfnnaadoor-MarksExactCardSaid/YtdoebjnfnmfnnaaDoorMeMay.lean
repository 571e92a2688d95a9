/- quillref1.May, in plain Lean. -/
import Derived.Test.YtdoebjnfnmfnnaaDoorMex4
import Derived.Test.YtdoebjnfnmfnnaaDoorMay
import Derived.Test.YtdoebjnfnmfnnaaDoorEvt
import Derived.Lib.IndexLaws
set_option linter.unusedVariables false
namespace Go.Proofs.YtdoebjnfnmfnnaaDoor.Me
open Go.RowKit Go.Proofs.YtdoebjnfnmfnnaaDoor.Q Go.Proofs.YtdoebjnfnmfnnaaDoor.F Go.Lib
open Go.Proofs.YtdoebjnfnmfnnaaDoorW.PrintWords Go.Proofs.YtdoebjnfnmfnnaaDoorW.PrintLast Go.Proofs.YtdoebjnfnmfnnaaDoorW.PrintMore

theorem indexByte0 (l : List UInt8) : (Lib.indexByte l 0 < 0) ↔ ∀ j, j < l.length → l.getD j 0 ≠ 0 := by
  have hge := indexByte_ge l 0
  constructor
  · intro h j hj h0
    have hn := indexByte_none (l := l) (c := 0) (by omega) j
    rw [List.getD_eq_getElem?_getD, List.getElem?_eq_getElem hj] at h0
    rw [List.getElem?_eq_getElem hj] at hn
    exact hn (congrArg some h0)
  · intro h
    by_cases hlt : Lib.indexByte l 0 < 0
    · exact hlt
    · obtain ⟨o, ho⟩ : ∃ o : Nat, Lib.indexByte l 0 = o := ⟨(Lib.indexByte l 0).toNat, by omega⟩
      obtain ⟨h1, _⟩ := indexByte_some ho
      obtain ⟨hl, _⟩ := List.getElem?_eq_some_iff.1 h1
      exact absurd (by rw [List.getD_eq_getElem?_getD, h1]; rfl) (h o hl)
theorem refMay_loop (s : ByteArray) (h4 : s.size ≤ 4000) : ∀ (n i : Nat), s.size - i = n → i ≤ s.size → (∀ j, j < i → s.data.toList.getD j 0 ≠ 0) → Evt (fun k => quillref1_May.l0 k s i) (decide (Lib.indexByte s.data.toList 0 < 0)) := by
  intro n
  induction n with
  | zero =>
    intro i hn hi hz
    refine Evt.step (Evt.const rfl) (fun k => ?_)
    have : Lib.indexByte s.data.toList 0 < 0 := (indexByte0 _).2 (fun j hj => hz j (by simp at hj; omega))
    rw [quillref1_May.l0, if_neg (by omega), decide_eq_true this]
  | succ n ih =>
    intro i hn hi hz
    have hlt : i < s.size := by omega
    have hbt : bt s (i : Int) = ((s.data.toList.getD i 0).toNat : Int) := by
      unfold bt
      rw [dif_pos (by simpa using hlt)]
      simp [hlt]
      rfl
    by_cases hb : s.data.toList.getD i 0 = 0
    · refine Evt.step (Evt.const rfl) (fun k => ?_)
      have : ¬ Lib.indexByte s.data.toList 0 < 0 := fun h => (indexByte0 _).1 h i (by simpa using hlt) hb
      rw [quillref1_May.l0, if_pos (by omega), if_pos (by omega), hbt, hb, if_pos (by simp), decide_eq_false this]
    · refine Evt.step (ih (i + 1) (by omega) (by omega) (fun j hj => ?_)) (fun k => ?_)
      · by_cases hji : j = i
        · rw [hji]; exact hb
        · exact hz j (by omega)
      · have hne : ¬ ((s.data.toList.getD i 0).toNat : Int) = 0 := fun h => hb (UInt8.toNat_inj.1 (by simpa using h))
        rw [quillref1_May.l0, if_pos (by omega), if_pos (by omega), hbt, if_neg hne, w64 (by omega) (by omega)]
        rfl
theorem refMay (s : ByteArray) (hs : s.size ≤ 9223372036854775807) : Evt (fun k => quillref1_May.f k s) (mayB s) := by
  unfold mayB
  by_cases h4 : s.size ≤ 4000
  · have h1 : utf8_ValidString.f s = some (Lib.validD s.data.toList) := by rw [utf8_ValidString.f, if_pos hs]
    by_cases hv : Lib.validD s.data.toList = true
    · refine Evt.same (g := fun k => quillref1_May.j0 k s false) (Evt.step (refMay_loop s h4 s.size 0 rfl (by omega) (fun j hj => by omega)) (fun k => ?_)) (fun k => ?_) |>.same (fun k => rfl) |> fun h => by simpa [h4, hv] using h
      · rw [quillref1_May.j0, if_neg (by simp)]; rfl
      · rw [quillref1_May.f, if_neg (by omega), h1, hv]; rfl
    · have hv' : Lib.validD s.data.toList = false := by simpa using hv
      simp only [hv', Bool.false_and, Bool.and_false]
      refine Evt.same (g := fun k => quillref1_May.j0 k s true) (Evt.step (Evt.const rfl) (fun k => ?_)) (fun k => ?_)
      · rw [quillref1_May.j0, if_pos rfl]
      · rw [quillref1_May.f, if_neg (by omega), h1, hv']; rfl
  · simp only [h4, decide_false, Bool.false_and]
    refine Evt.same (g := fun k => quillref1_May.j0 k s true) (Evt.step (Evt.const rfl) (fun k => ?_)) (fun k => ?_)
    · rw [quillref1_May.j0, if_pos rfl]
    · rw [quillref1_May.f, if_pos (by omega)]
end Go.Proofs.YtdoebjnfnmfnnaaDoor.Me
