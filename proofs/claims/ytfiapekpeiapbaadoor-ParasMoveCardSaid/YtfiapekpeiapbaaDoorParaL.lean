import Derived.Test.YtfiapekpeiapbaaDoorParasM
import Derived.Test.YtfiapekpeiapbaaDoorLines
/-! Paragraphs' stops, in plain Lean. -/
namespace Go.Proofs.YtfiapekpeiapbaaDoor.F
open Go.RowKit Go.Proofs.YtfiapekpeiapbaaDoor.Q Go.Lib
open Go.Proofs.YtfiapekpeiapbaaDoorW.PrintWords Go.Proofs.YtfiapekpeiapbaaDoorW.PrintLast Go.Proofs.YtfiapekpeiapbaaDoorW.PrintMore

theorem begin_mem (R : List Int) (j : Nat) (hj : j < (begins R).length) : rd (begins R) (j : Int) ∈ begins R := by
  rw [rd_nat _ _ hj]
  exact List.getElem_mem hj
/-- In front of a row that isn't the first there is a 10. -/
theorem begin_10 (R : List Int) (j : Nat) (hj : j + 1 < (begins R).length) : 0 < rd (begins R) ((j : Int) + 1) ∧ rd R (rd (begins R) ((j : Int) + 1) - 1) = 10 := by
  have hm := begin_mem R (j + 1) hj
  rw [show ((j + 1 : Nat) : Int) = (j : Int) + 1 by omega] at hm
  have hlt := begins_lt (R := R) (i := 0) (j := j + 1) (by omega) hj
  rw [show ((j + 1 : Nat) : Int) = (j : Int) + 1 by omega] at hlt
  have h0 := begins_fit R 0 (begins_pos R)
  rcases (mem_begins R _).1 hm with e | ⟨i, hi, h10, e⟩
  · omega
  · exact ⟨by omega, by rw [e, show (i : Int) + 1 - 1 = i by omega]; exact h10⟩
/-- An empty row. -/
theorem bare_row (R : List Int) (j : Nat) (hj : j < (begins R).length) (h : rd (begins R) (j : Int) = endOf R (begins R) j) (hx : rd (begins R) (j : Int) < R.length) : rd R (rd (begins R) (j : Int)) = 10 := by
  unfold endOf at h
  split at h
  · rename_i c
    have := (begin_10 R j c).2
    rw [← h] at this
    exact this
  · omega
theorem downL_spec (R : List Int) (a : Int) : ∀ (n row : Nat), (begins R).length ≤ n + row → (row + 1 < (begins R).length → a < rd (begins R) ((row : Int) + 1)) →
    downL R (begins R) n row = R.length ∨ (a < downL R (begins R) n row ∧ downL R (begins R) n row ≤ R.length ∧ (downL R (begins R) n row < R.length → rd R (downL R (begins R) n row) = 10 ∧ rd R (downL R (begins R) n row - 1) = 10))
  | 0, row, _, _ => .inl rfl
  | n + 1, row, hn, ha => by
    unfold downL
    split
    · rename_i h
      have e1 : ((row + 1 : Nat) : Int) = (row : Int) + 1 := by omega
      have hf := begins_fit R (row + 1) h
      have hb := bare_row R (row + 1) h
      rw [e1] at hf hb
      split
      · rename_i hc
        exact .inr ⟨ha h, hf.2, fun hx => ⟨hb hc.1 hx, (begin_10 R row h).2⟩⟩
      · refine downL_spec R a n (row + 1) (by omega) (fun h2 => ?_)
        have := begins_lt (R := R) (i := row + 1) (j := row + 1 + 1) (by omega) h2
        have h3 := ha h
        rw [show ((row + 1 + 1 : Nat) : Int) = ((row + 1 : Nat) : Int) + 1 by omega] at this
        rw [e1] at this ⊢
        omega
    · exact .inl rfl
theorem upL_spec (R : List Int) (a : Int) : ∀ row : Nat, row < (begins R).length → rd (begins R) (row : Int) ≤ a → upL R (begins R) row = 0 ∨ upL R (begins R) row < a
  | 0, _, _ => .inl rfl
  | row + 1, h, ha => by
    have hl := begins_lt (R := R) (i := row) (j := row + 1) (by omega) h
    unfold upL
    split
    · exact .inr (by omega)
    · exact upL_spec R a row (by omega) (by omega)
theorem down_gt (R : List Int) (a : Int) (h0 : 0 ≤ a) (h1 : a < R.length) : a < downF R a ∧ downF R a ≤ R.length ∧ (downF R a < R.length → rd R (downF R a) = 10 ∧ rd R (downF R a - 1) = 10) := by
  have hz : rd (begins R) ((0 : Nat) : Int) = 0 := by simp [begins, rd]
  obtain ⟨hj, hle, hnext⟩ := rowL_spec (begins R) a ((begins R).length + 1) 0 (begins_pos R) (by omega) (by rw [hz]; exact h0)
  rcases downL_spec R a ((begins R).length + 1) (rowOf (begins R) a) (by omega) hnext with h | h
  · unfold downF; rw [h]; exact ⟨h1, by omega, fun h => by omega⟩
  · exact h
theorem down_end (R : List Int) : downF R R.length = R.length := by
  have hz : rd (begins R) ((0 : Nat) : Int) = 0 := by simp [begins, rd]
  obtain ⟨hj, hle, hnext⟩ := rowL_spec (begins R) (R.length : Int) ((begins R).length + 1) 0 (begins_pos R) (by omega) (by rw [hz]; omega)
  rcases downL_spec R R.length ((begins R).length + 1) (rowOf (begins R) R.length) (by omega) hnext with h | h
  · exact h
  · have h' : (R.length : Int) < downF R R.length := h.1
    have h2 : downF R R.length ≤ R.length := h.2.1
    omega
theorem up_lt (R : List Int) (a : Int) (h0 : 0 < a) : 0 ≤ upF R a ∧ upF R a < a := by
  have hz : rd (begins R) ((0 : Nat) : Int) = 0 := by simp [begins, rd]
  obtain ⟨hj, hle, hnext⟩ := rowL_spec (begins R) a ((begins R).length + 1) 0 (begins_pos R) (by omega) (by rw [hz]; omega)
  have hr := upL_range (begins_fit R) (rowOf (begins R) a) (Nat.le_of_lt (rowOf_lt R a))
  refine ⟨hr.1, ?_⟩
  rcases upL_spec R a (rowOf (begins R) a) hj hle with h | h
  · unfold upF; rw [h]; exact h0
  · exact h
theorem up_zero (R : List Int) : upF R 0 = 0 := by
  have hz : rd (begins R) ((0 : Nat) : Int) = 0 := by simp [begins, rd]
  obtain ⟨hj, hle, hnext⟩ := rowL_spec (begins R) 0 ((begins R).length + 1) 0 (begins_pos R) (by omega) (by rw [hz]; omega)
  have hr := upL_range (begins_fit R) (rowOf (begins R) 0) (Nat.le_of_lt (rowOf_lt R 0))
  rcases upL_spec R 0 (rowOf (begins R) 0) hj hle with h | h
  · exact h
  · have := hr.1
    omega
theorem para_one (s : ByteArray) (a k : Int) (hm : mayB s = true) (hk : k = 123 ∨ k = 125) (h0 : 0 ≤ a) (h1 : a ≤ (rs s).length) : paras_Move.f s a k 1 = some (if wayF (rs s) k a = a then (0, 6) else (wayF (rs s) k a, 0)) := by
  unfold paras_Move.f parasF
  rw [if_pos ⟨hm, hk, by decide, by decide⟩, if_pos ⟨h0, h1⟩]
  rfl
end Go.Proofs.YtfiapekpeiapbaaDoor.F
