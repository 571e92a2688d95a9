import Derived.Test.YtfiapekpeiapbaaDoorEv
/-! Rows of a text, in plain Lean: where an offset's row begins and ends. -/
namespace Go.Proofs.YtfiapekpeiapbaaDoor.F
open Go.RowKit Go.Proofs.YtfiapekpeiapbaaDoor.Q Go.Lib
open Go.Proofs.YtfiapekpeiapbaaDoorW.PrintWords Go.Proofs.YtfiapekpeiapbaaDoorW.PrintLast Go.Proofs.YtfiapekpeiapbaaDoorW.PrintMore

theorem rd_nat (R : List Int) (i : Nat) (h : i < R.length) : rd R (i : Int) = R[i] := by simp [rd, h]
theorem mem_beginsF : ∀ (R : List Int) (i : Nat) (x : Int), x ∈ beginsF R i ↔ ∃ j : Nat, j < R.length ∧ rd R (j : Int) = 10 ∧ x = ((i + j : Nat) : Int) + 1
  | [], i, x => by simp [beginsF]
  | c :: R, i, x => by
    have ih := mem_beginsF R (i + 1) x
    have e : x ∈ beginsF (c :: R) i ↔ (c = 10 ∧ x = (i : Int) + 1) ∨ x ∈ beginsF R (i + 1) := by
      show x ∈ (if c = 10 then ((i : Int) + 1) :: beginsF R (i + 1) else beginsF R (i + 1)) ↔ _
      split
      · rename_i h; simp [h]
      · rename_i h; simp [h]
    rw [e, ih]
    constructor
    · rintro (⟨h1, h2⟩ | ⟨j, h1, h2, h3⟩)
      · exact ⟨0, by simp, by simpa [rd] using h1, by simpa using h2⟩
      · refine ⟨j + 1, by simp; omega, ?_, by rw [h3]; omega⟩
        rw [rd_nat _ _ h1] at h2
        rw [rd_nat _ _ (by simp; omega)]
        simpa using h2
    · rintro ⟨j, h1, h2, h3⟩
      cases j with
      | zero => exact .inl ⟨by simpa [rd] using h2, by simpa using h3⟩
      | succ j =>
        simp only [List.length_cons] at h1
        refine .inr ⟨j, by omega, ?_, by rw [h3]; omega⟩
        rw [rd_nat _ _ (by simp; omega)] at h2
        rw [rd_nat _ _ (by omega)]
        simpa using h2
theorem mem_begins (R : List Int) (x : Int) : x ∈ begins R ↔ x = 0 ∨ ∃ j : Nat, j < R.length ∧ rd R (j : Int) = 10 ∧ x = (j : Int) + 1 := by
  unfold begins
  rw [List.mem_cons, mem_beginsF]
  simp
theorem beginsF_sorted : ∀ (R : List Int) (i : Nat), (beginsF R i).Pairwise (· < ·)
  | [], i => by simp [beginsF]
  | c :: R, i => by
    show (if c = 10 then ((i : Int) + 1) :: beginsF R (i + 1) else beginsF R (i + 1)).Pairwise (· < ·)
    split
    · refine List.Pairwise.cons (fun x hx => ?_) (beginsF_sorted R (i + 1))
      have := beginsF_range R (i + 1) x hx
      omega
    · exact beginsF_sorted R (i + 1)
theorem begins_sorted (R : List Int) : (begins R).Pairwise (· < ·) :=
  List.Pairwise.cons (fun x hx => by have := beginsF_range R 0 x hx; omega) (beginsF_sorted R 0)
theorem begins_lt {R : List Int} {i j : Nat} (h : i < j) (hj : j < (begins R).length) : rd (begins R) (i : Int) < rd (begins R) (j : Int) := by
  rw [rd_nat _ _ (by omega), rd_nat _ _ hj]
  exact List.pairwise_iff_getElem.1 (begins_sorted R) i j (by omega) hj h
theorem begins_at (R : List Int) {x : Int} (h : x ∈ begins R) : ∃ j : Nat, j < (begins R).length ∧ rd (begins R) (j : Int) = x := by
  obtain ⟨j, hj, e⟩ := List.mem_iff_getElem.1 h
  exact ⟨j, hj, by rw [rd_nat _ _ hj]; exact e⟩
theorem rowL_spec (B : List Int) (a : Int) : ∀ (n j : Nat), j < B.length → B.length ≤ n + j → rd B (j : Int) ≤ a →
    rowL B a n j < B.length ∧ rd B (rowL B a n j : Int) ≤ a ∧ (rowL B a n j + 1 < B.length → a < rd B ((rowL B a n j : Int) + 1))
  | 0, j, hj, hn, _ => by omega
  | n + 1, j, hj, hn, h => by
    unfold rowL
    split
    · rename_i c
      exact rowL_spec B a n (j + 1) (by omega) (by omega) (by have := c.2; push_cast; omega)
    · rename_i c
      exact ⟨hj, h, fun h2 => by
        by_cases h3 : rd B ((j : Int) + 1) ≤ a
        · exact absurd ⟨by omega, h3⟩ c
        · omega⟩
def begOf (R : List Int) (a : Int) : Int := rd (begins R) (rowOf (begins R) a : Int)
def finOf (R : List Int) (a : Int) : Int := endOf R (begins R) (rowOf (begins R) a)
/-- Where the row of a begins and ends. -/
theorem row_spec (R : List Int) (a : Int) (h0 : 0 ≤ a) (h1 : a ≤ R.length) :
    (0 ≤ begOf R a ∧ begOf R a ≤ a ∧ (begOf R a = 0 ∨ rd R (begOf R a - 1) = 10) ∧ ∀ i, begOf R a ≤ i → i < a → rd R i ≠ 10) ∧
    a ≤ finOf R a ∧ finOf R a ≤ R.length ∧ (finOf R a = R.length ∨ rd R (finOf R a) = 10) ∧ ∀ i, a ≤ i → i < finOf R a → rd R i ≠ 10 := by
  have hz : rd (begins R) ((0 : Nat) : Int) = 0 := by simp [begins, rd]
  obtain ⟨hj, hle, hnext⟩ := rowL_spec (begins R) a ((begins R).length + 1) 0 (begins_pos R) (by omega) (by rw [hz]; exact h0)
  unfold begOf finOf rowOf
  generalize rowL (begins R) a ((begins R).length + 1) 0 = j at *
  have hmem : rd (begins R) (j : Int) ∈ begins R := by rw [rd_nat _ _ hj]; exact List.getElem_mem hj
  have hstep : ∀ i : Nat, i < R.length → rd R (i : Int) = 10 → ∃ k : Nat, k < (begins R).length ∧ rd (begins R) (k : Int) = (i : Int) + 1 := fun i hi h10 =>
    begins_at R ((mem_begins R _).2 (.inr ⟨i, hi, h10, rfl⟩))
  refine ⟨⟨(begins_fit R j hj).1, hle, ?_, ?_⟩, ?_⟩
  · rcases (mem_begins R _).1 hmem with h | ⟨i, hi, h10, he⟩
    · exact .inl h
    · exact .inr (by rw [he, show (i : Int) + 1 - 1 = i by omega]; exact h10)
  · intro i hi1 hi2 h10
    have hb := (begins_fit R j hj).1
    obtain ⟨k, hk, hke⟩ := hstep i.toNat (by omega) (by rw [show ((i.toNat : Nat) : Int) = i by omega]; exact h10)
    have hjk : j < k := by
      by_cases h : j < k
      · exact h
      · rcases Nat.lt_or_ge k j with h2 | h2
        · have := begins_lt h2 hj; omega
        · obtain rfl : k = j := by omega
          omega
    have hn := hnext (by omega)
    rcases Nat.lt_or_ge (j + 1) k with h2 | h2
    · have := begins_lt h2 hk; push_cast at this; omega
    · obtain rfl : k = j + 1 := by omega
      push_cast at hke; omega
  · unfold endOf
    by_cases hlast : j + 1 < (begins R).length
    · rw [if_pos hlast]
      have hn := hnext hlast
      have hlt := begins_lt (Nat.lt_succ_self j) hlast
      push_cast at hlt
      have hb := (begins_fit R j hj).1
      have hf := (begins_fit R (j + 1) hlast).2
      push_cast at hf
      refine ⟨by omega, by omega, .inr ?_, ?_⟩
      · have hm : rd (begins R) ((j : Int) + 1) ∈ begins R := by
          have := rd_nat (begins R) (j + 1) hlast
          push_cast at this
          rw [this]; exact List.getElem_mem hlast
        rcases (mem_begins R _).1 hm with h | ⟨i, hi, h10, he⟩
        · omega
        · rw [he, show (i : Int) + 1 - 1 = i by omega]; exact h10
      · intro i hi1 hi2 h10
        obtain ⟨k, hk, hke⟩ := hstep i.toNat (by omega) (by rw [show ((i.toNat : Nat) : Int) = i by omega]; exact h10)
        rcases Nat.lt_or_ge k (j + 1) with h2 | h2
        · rcases Nat.lt_or_ge k j with h3 | h3
          · have := begins_lt h3 hj; omega
          · obtain rfl : k = j := by omega
            omega
        · rcases Nat.lt_or_ge (j + 1) k with h3 | h3
          · have := begins_lt h3 hk; push_cast at this; omega
          · obtain rfl : k = j + 1 := by omega
            push_cast at hke; omega
    · rw [if_neg hlast]
      refine ⟨h1, Int.le_refl _, .inl rfl, ?_⟩
      intro i hi1 hi2 h10
      obtain ⟨k, hk, hke⟩ := hstep i.toNat (by omega) (by rw [show ((i.toNat : Nat) : Int) = i by omega]; exact h10)
      rcases Nat.lt_or_ge k j with h3 | h3
      · have := begins_lt h3 hj; omega
      · obtain rfl : k = j := by omega
        omega
/-- One begin, one end. -/
theorem beg_one {R : List Int} {a x : Int} (h0 : 0 ≤ a) (h1 : a ≤ R.length) (hx0 : 0 ≤ x) (hxa : x ≤ a) (hb : x = 0 ∨ rd R (x - 1) = 10) (hn : ∀ i, x ≤ i → i < a → rd R i ≠ 10) : begOf R a = x := by
  obtain ⟨⟨g0, g1, g2, g3⟩, _⟩ := row_spec R a h0 h1
  rcases Int.lt_trichotomy (begOf R a) x with h | h | h
  · rcases hb with rfl | hb
    · omega
    · exact absurd hb (g3 (x - 1) (by omega) (by omega))
  · exact h
  · rcases g2 with h2 | h2
    · omega
    · exact absurd h2 (hn (begOf R a - 1) (by omega) (by omega))
theorem fin_one {R : List Int} {a x : Int} (h0 : 0 ≤ a) (h1 : a ≤ R.length) (hax : a ≤ x) (hxl : x ≤ R.length) (hb : x = R.length ∨ rd R x = 10) (hn : ∀ i, a ≤ i → i < x → rd R i ≠ 10) : finOf R a = x := by
  obtain ⟨_, g1, g2, g3, g4⟩ := row_spec R a h0 h1
  rcases Int.lt_trichotomy (finOf R a) x with h | h | h
  · rcases g3 with h2 | h2
    · omega
    · exact absurd h2 (hn _ g1 h)
  · exact h
  · rcases hb with h2 | h2
    · omega
    · exact absurd h2 (g4 x hax h)
end Go.Proofs.YtfiapekpeiapbaaDoor.F
