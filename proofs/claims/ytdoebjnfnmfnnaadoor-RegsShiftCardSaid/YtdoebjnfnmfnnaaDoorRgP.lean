/- Registers in plain Lean: which may be. -/
import Derived.Test.YtdoebjnfnmfnnaaDoorRax0
import Derived.Test.YtdoebjnfnmfnnaaDoorSet
import Derived.Test.YtdoebjnfnmfnnaaDoorMay
namespace Go.Proofs.YtdoebjnfnmfnnaaDoor.F
open Go.Proofs.YtdoebjnfnmfnnaaDoor.Q

abbrev SR := Ra.S113
def keptB (n : Int) : Bool := decide (n = 34) || decide (n = 45) || (decide (48 ≤ n) && decide (n ≤ 57)) || (decide (97 ≤ n) && decide (n ≤ 122))
def oneR (m : SR) : Bool := keptB m.f0 && mayB m.f1
theorem kept_bd {n : Int} (h : keptB n = true) : 34 ≤ n ∧ n ≤ 122 := by
  simp only [keptB, Bool.or_eq_true, Bool.and_eq_true, decide_eq_true_eq] at h
  omega
theorem one_bd {m : SR} (h : oneR m = true) : 34 ≤ m.f0 ∧ m.f0 ≤ 122 := by
  unfold oneR at h
  rw [Bool.and_eq_true] at h
  exact kept_bd h.1
def chR : Int → List SR → Bool
  | _, [] => true
  | p, m :: r => oneR m && decide (p < m.f0) && chR m.f0 r
def mayR : List SR → Bool
  | [] => true
  | m :: r => oneR m && chR m.f0 r
abbrev nmR (m : SR) : Int := m.f0
theorem chR_iff : ∀ (l : List SR) (p : Int), chR p l = true ↔ (∀ m ∈ l, oneR m = true) ∧ (∀ m ∈ l, p < m.f0) ∧ Sor nmR l
  | [], p => by simp [chR, Sor]
  | m :: r, p => by
    have ih := chR_iff r m.f0
    simp only [chR, Bool.and_eq_true, decide_eq_true_eq, ih, Sor, List.pairwise_cons, List.mem_cons, forall_eq_or_imp]
    constructor
    · rintro ⟨⟨h1, h2⟩, h3, h4, h5⟩
      exact ⟨⟨h1, h3⟩, ⟨h2, fun q hq => Int.lt_trans h2 (h4 q hq)⟩, h4, h5⟩
    · rintro ⟨⟨h1, h3⟩, ⟨h2, _⟩, h4, h5⟩
      exact ⟨⟨h1, h2⟩, h3, h4, h5⟩
theorem mayR_iff : ∀ (l : List SR), mayR l = true ↔ (∀ m ∈ l, oneR m = true) ∧ Sor nmR l
  | [] => by simp [mayR, Sor]
  | m :: r => by
    simp only [mayR, Bool.and_eq_true, chR_iff, Sor, List.pairwise_cons, List.mem_cons, forall_eq_or_imp]
    constructor
    · rintro ⟨h1, h2, h3, h4⟩
      exact ⟨⟨h1, h2⟩, h3, h4⟩
    · rintro ⟨⟨h1, h2⟩, h3, h4⟩
      exact ⟨h1, h2, h3, h4⟩
theorem mayR_len {l : List SR} (h : mayR l = true) : l.length ≤ 89 := by
  have h1 := (mayR_iff l).1 h
  have h2 : ∀ (l : List SR) (a : Int), (∀ m ∈ l, oneR m = true) → (∀ m ∈ l, a ≤ m.f0) → Sor nmR l → 34 ≤ a → a ≤ 123 → (l.length : Int) ≤ 123 - a := by
    intro l
    induction l with
    | nil => intro a _ _ _ _ _; simp; omega
    | cons m r ih =>
      intro a h1 h2 h3 h4 h5
      have hm := one_bd (h1 m (by simp))
      have ha := h2 m (by simp)
      have hp := List.pairwise_cons.1 h3
      have := ih (m.f0 + 1) (fun q hq => h1 q (by simp [hq])) (fun q hq => by have := hp.1 q hq; simp only [nmR] at this; omega) hp.2 (by omega) (by omega)
      simp only [List.length_cons]; omega
  have := h2 l 34 h1.1 (fun m hm => (one_bd (h1.1 m hm)).1) h1.2 (by omega) (by omega)
  omega
theorem set_memR {x : SR} : ∀ {l : List SR} {m : SR}, m ∈ setL nmR x l → m = x ∨ m ∈ l
  | [], m, h => by simp [setL] at h; exact .inl h
  | q :: r, m, h => by
    simp only [setL] at h
    split at h
    · rcases List.mem_cons.1 h with rfl | h
      · exact .inr (by simp)
      · rcases set_memR h with h | h
        · exact .inl h
        · exact .inr (by simp [h])
    · split at h
      · rcases List.mem_cons.1 h with rfl | h
        · exact .inl rfl
        · exact .inr (by simp [h])
      · rcases List.mem_cons.1 h with rfl | h
        · exact .inl rfl
        · exact .inr h
theorem set_sorR {x : SR} : ∀ {l : List SR}, Sor nmR l → Sor nmR (setL nmR x l)
  | [], _ => by simp [setL, Sor]
  | q :: r, h => by
    have hp := List.pairwise_cons.1 h
    simp only [setL]
    by_cases c : nmR q < nmR x
    · rw [if_pos c]
      refine List.pairwise_cons.2 ⟨fun m hm => ?_, set_sorR hp.2⟩
      rcases set_memR hm with rfl | hm
      · exact c
      · exact hp.1 m hm
    · rw [if_neg c]
      by_cases d : nmR q = nmR x
      · rw [if_pos d]
        exact List.pairwise_cons.2 ⟨fun m hm => by have := hp.1 m hm; omega, hp.2⟩
      · rw [if_neg d]
        refine List.pairwise_cons.2 ⟨fun m hm => ?_, h⟩
        rcases List.mem_cons.1 hm with rfl | hm
        · omega
        · have := hp.1 m hm; omega
theorem set_mayR {l : List SR} {x : SR} (h : mayR l = true) (hx : oneR x = true) : mayR (setL nmR x l) = true := by
  obtain ⟨h1, h2⟩ := (mayR_iff l).1 h
  refine (mayR_iff _).2 ⟨fun m hm => ?_, set_sorR h2⟩
  rcases set_memR hm with rfl | hm
  · exact hx
  · exact h1 m hm
end Go.Proofs.YtdoebjnfnmfnnaaDoor.F
