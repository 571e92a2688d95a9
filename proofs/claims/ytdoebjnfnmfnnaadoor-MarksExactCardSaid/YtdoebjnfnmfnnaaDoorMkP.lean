/- Marks in plain Lean: which may be, what Set and Get tell. -/
import Derived.Test.YtdoebjnfnmfnnaaDoorFax0
import Derived.Test.YtdoebjnfnmfnnaaDoorSet
namespace Go.Proofs.YtdoebjnfnmfnnaaDoor.F
open Go.Proofs.YtdoebjnfnmfnnaaDoor.Q

abbrev SM := Fa.S150
def oneM (m : SM) : Bool := decide (97 ≤ m.f0) && decide (m.f0 ≤ 122) && (decide (0 ≤ m.f1) && decide (m.f1 ≤ 4000))
def chB : Int → List SM → Bool
  | _, [] => true
  | p, m :: r => oneM m && decide (p < m.f0) && chB m.f0 r
def mayM : List SM → Bool
  | [] => true
  | m :: r => oneM m && chB m.f0 r
abbrev nmM (m : SM) : Int := m.f0
theorem chB_iff : ∀ (l : List SM) (p : Int), chB p l = true ↔ (∀ m ∈ l, oneM m = true) ∧ (∀ m ∈ l, p < m.f0) ∧ Sor nmM l
  | [], p => by simp [chB, Sor]
  | m :: r, p => by
    have ih := chB_iff r m.f0
    simp only [chB, Bool.and_eq_true, decide_eq_true_eq, ih, Sor, List.pairwise_cons, List.mem_cons, forall_eq_or_imp]
    constructor
    · rintro ⟨⟨h1, h2⟩, h3, h4, h5⟩
      exact ⟨⟨h1, h3⟩, ⟨h2, fun q hq => Int.lt_trans h2 (h4 q hq)⟩, h4, h5⟩
    · rintro ⟨⟨h1, h3⟩, ⟨h2, _⟩, h4, h5⟩
      exact ⟨⟨h1, h2⟩, h3, h4, h5⟩
theorem mayM_iff : ∀ (l : List SM), mayM l = true ↔ (∀ m ∈ l, oneM m = true) ∧ Sor nmM l
  | [] => by simp [mayM, Sor]
  | m :: r => by
    simp only [mayM, Bool.and_eq_true, chB_iff, Sor, List.pairwise_cons, List.mem_cons, forall_eq_or_imp]
    constructor
    · rintro ⟨h1, h2, h3, h4⟩
      exact ⟨⟨h1, h2⟩, h3, h4⟩
    · rintro ⟨⟨h1, h2⟩, h3, h4⟩
      exact ⟨h1, h2, h3, h4⟩
theorem chB_none : ∀ (l : List SM) (p : Int), chB p l = true → l.length ≤ 123
  | l, p => by
    intro h
    have := (chB_iff l p).1 h
    have h2 : ∀ (l : List SM) (a : Int), (∀ m ∈ l, oneM m = true) → (∀ m ∈ l, a ≤ m.f0) → Sor nmM l → 97 ≤ a → a ≤ 123 → (l.length : Int) ≤ 123 - a := by
      intro l
      induction l with
      | nil => intro a _ _ _ _ _; simp; omega
      | cons m r ih =>
        intro a h1 h2 h3 h4 h5
        have hm := h1 m (by simp)
        simp only [oneM, Bool.and_eq_true, decide_eq_true_eq] at hm
        have ha := h2 m (by simp)
        have hp := List.pairwise_cons.1 h3
        have := ih (m.f0 + 1) (fun q hq => h1 q (by simp [hq])) (fun q hq => by have := hp.1 q hq; simp only [nmM] at this; omega) hp.2 (by omega) (by omega)
        simp only [List.length_cons]; omega
    have := h2 l 97 this.1 (fun m hm => by have := this.1 m hm; simp only [oneM, Bool.and_eq_true, decide_eq_true_eq] at this; omega) this.2.2 (by omega) (by omega)
    omega
theorem mayM_len {l : List SM} (h : mayM l = true) : l.length ≤ 26 := by
  have h1 := (mayM_iff l).1 h
  have h2 : ∀ (l : List SM) (a : Int), (∀ m ∈ l, oneM m = true) → (∀ m ∈ l, a ≤ m.f0) → Sor nmM l → 97 ≤ a → a ≤ 123 → (l.length : Int) ≤ 123 - a := by
    intro l
    induction l with
    | nil => intro a _ _ _ _ _; simp; omega
    | cons m r ih =>
      intro a h1 h2 h3 h4 h5
      have hm := h1 m (by simp)
      simp only [oneM, Bool.and_eq_true, decide_eq_true_eq] at hm
      have ha := h2 m (by simp)
      have hp := List.pairwise_cons.1 h3
      have := ih (m.f0 + 1) (fun q hq => h1 q (by simp [hq])) (fun q hq => by have := hp.1 q hq; simp only [nmM] at this; omega) hp.2 (by omega) (by omega)
      simp only [List.length_cons]; omega
  have := h2 l 97 h1.1 (fun m hm => by have := h1.1 m hm; simp only [oneM, Bool.and_eq_true, decide_eq_true_eq] at this; omega) h1.2 (by omega) (by omega)
  omega
/-- What Set tells: the marks, the error. -/
def setM (l : List SM) (name at_ : Int) : List SM × Int :=
  if mayM l = true ∧ oneM ⟨name, at_⟩ = true then (insL nmM ⟨name, at_⟩ l, 0) else ([], 1)
/-- What Get tells: the offset, the error. -/
def getM (l : List SM) (name : Int) : Int × Int :=
  if mayM l = true then (match l.find? fun m => decide (m.f0 = name) with | some m => (m.f1, 0) | none => (0, 3)) else (0, 1)
theorem set_mem {x : SM} : ∀ {l : List SM} {m : SM}, m ∈ setL nmM x l → m = x ∨ m ∈ l
  | [], m, h => by simp [setL] at h; exact .inl h
  | q :: r, m, h => by
    simp only [setL] at h
    split at h
    · rcases List.mem_cons.1 h with rfl | h
      · exact .inr (by simp)
      · rcases set_mem h with h | h
        · exact .inl h
        · exact .inr (by simp [h])
    · split at h
      · rcases List.mem_cons.1 h with rfl | h
        · exact .inl rfl
        · exact .inr (by simp [h])
      · rcases List.mem_cons.1 h with rfl | h
        · exact .inl rfl
        · exact .inr h
theorem set_sor {x : SM} : ∀ {l : List SM}, Sor nmM l → Sor nmM (setL nmM x l)
  | [], _ => by simp [setL, Sor]
  | q :: r, h => by
    have hp := List.pairwise_cons.1 h
    simp only [setL]
    by_cases c : nmM q < nmM x
    · rw [if_pos c]
      refine List.pairwise_cons.2 ⟨fun m hm => ?_, set_sor hp.2⟩
      rcases set_mem hm with rfl | hm
      · exact c
      · exact hp.1 m hm
    · rw [if_neg c]
      by_cases d : nmM q = nmM x
      · rw [if_pos d]
        exact List.pairwise_cons.2 ⟨fun m hm => by have := hp.1 m hm; omega, hp.2⟩
      · rw [if_neg d]
        refine List.pairwise_cons.2 ⟨fun m hm => ?_, h⟩
        rcases List.mem_cons.1 hm with rfl | hm
        · omega
        · have := hp.1 m hm; omega
theorem set_may {l : List SM} {x : SM} (h : mayM l = true) (hx : oneM x = true) : mayM (setL nmM x l) = true := by
  obtain ⟨h1, h2⟩ := (mayM_iff l).1 h
  refine (mayM_iff _).2 ⟨fun m hm => ?_, set_sor h2⟩
  rcases set_mem hm with rfl | hm
  · exact hx
  · exact h1 m hm
theorem find_set_same {x : SM} : ∀ {l : List SM}, Sor nmM l → (setL nmM x l).find? (fun m => decide (m.f0 = x.f0)) = some x
  | [], _ => by simp [setL]
  | q :: r, h => by
    have hp := List.pairwise_cons.1 h
    simp only [setL]
    by_cases c : nmM q < nmM x
    · rw [if_pos c, List.find?_cons_of_neg (by simp only [nmM] at c; simp; omega)]
      exact find_set_same hp.2
    · rw [if_neg c]
      by_cases d : nmM q = nmM x
      · rw [if_pos d, List.find?_cons_of_pos (by simp)]
      · rw [if_neg d, List.find?_cons_of_pos (by simp)]
theorem find_set_other {x : SM} {k : Int} (hk : k ≠ x.f0) : ∀ {l : List SM}, (setL nmM x l).find? (fun m => decide (m.f0 = k)) = l.find? fun m => decide (m.f0 = k)
  | [] => by simp [setL, Ne.symm hk]
  | q :: r => by
    simp only [setL]
    by_cases c : nmM q < nmM x
    · rw [if_pos c]
      simp only [List.find?_cons, find_set_other hk]
    · rw [if_neg c]
      by_cases d : nmM q = nmM x
      · rw [if_pos d]
        simp only [nmM] at d
        rw [List.find?_cons_of_neg (by simp [Ne.symm hk]), List.find?_cons_of_neg (by simp; omega)]
      · rw [if_neg d, List.find?_cons_of_neg (by simp [Ne.symm hk])]
end Go.Proofs.YtdoebjnfnmfnnaaDoor.F
