import Derived.Test.YtfiapekpeiapbaaDoorPairs
/-! Mates of brackets, in plain Lean: pairs. -/
namespace Go.Proofs.YtfiapekpeiapbaaDoor.F
open Go.RowKit Go.Proofs.YtfiapekpeiapbaaDoor.Q Go.Lib
open Go.Proofs.YtfiapekpeiapbaaDoorW.PrintWords Go.Proofs.YtfiapekpeiapbaaDoorW.PrintLast Go.Proofs.YtfiapekpeiapbaaDoorW.PrintMore

/-- From here on more may be held of the world. -/
theorem more_ {P : Program} {md : Region.Mode} {ops : Array Oper} {Q : Exit → Act → World → Prop} {S S' : World → Prop} (hSS : ∀ w, S' w → S w) : ∀ (n : Nat) (l : Array Bool) (a : Act) (w : World), S' w → wpAnyLast P md ops Q S' [] n l a w → wpAnyLast P md ops Q S [] n l a w := by
  intro n
  induction n with
  | zero => intro l a w _ h; exact h
  | succ n ih =>
    intro l a w hS h
    exact ⟨h.1, fun i hi => wpOp_mono (fun a' w' h' => ⟨fun _ _ => hSS _ (h'.1 (by simp) hS), ih _ a' w' (h'.1 (by simp) hS) h'.2⟩) (h.2 i hi)⟩
/-- A rune's part in the depth of a kind of bracket. -/
def wy (is_ r : Int) : Int := if (kindOf r).2 ≠ 0 ∧ (kindOf r).1 = is_ then (kindOf r).2 else 0
def dp (R : List Int) (is_ : Int) : Nat → Int
  | 0 => 0
  | n + 1 => dp R is_ n + wy is_ (rd R (n : Int))
theorem dp_succ (R : List Int) (is_ : Int) (n : Nat) : dp R is_ (n + 1) = dp R is_ n + wy is_ (rd R (n : Int)) := rfl
theorem wy_one (is_ r : Int) : wy is_ r = 0 ∨ wy is_ r = 1 ∨ wy is_ r = -1 := by
  unfold wy
  split
  · exact kind_way r
  · exact .inl rfl
theorem wy_of {is_ r w : Int} (h : kindOf r = (is_, w)) (hw : w ≠ 0) : wy is_ r = w := by
  unfold wy; rw [h, if_pos ⟨hw, rfl⟩]
theorem wy_kind {is_ r w : Int} (h : wy is_ r = w) (hw : w ≠ 0) : kindOf r = (is_, w) := by
  unfold wy at h
  split at h
  · rename_i c
    rw [← h, ← c.2]
  · exact absurd h.symm hw
theorem mateL_step (R : List Int) (is_ way : Int) (n : Nat) (deep i : Int) : mateL R is_ way (n + 1) deep i =
    if 0 ≤ i ∧ i < R.length then (if deep + wy is_ (rd R i) = 0 then i else mateL R is_ way n (deep + wy is_ (rd R i)) (i + way)) else -1 := by
  rw [mateL]
  unfold wy
  by_cases h : (kindOf (rd R i)).2 ≠ 0 ∧ (kindOf (rd R i)).1 = is_
  · rw [if_pos h, if_pos h]
  · rw [if_neg h, if_neg h, Int.add_zero]
theorem mate_up (R : List Int) (is_ d : Int) : ∀ (n i : Nat) (deep : Int), deep = dp R is_ i - d → R.length - i < n → i ≤ R.length →
    (mateL R is_ 1 n deep (i : Int) = -1 ∧ ∀ j : Nat, i ≤ j → j < R.length → dp R is_ (j + 1) ≠ d) ∨
    ∃ j : Nat, mateL R is_ 1 n deep (i : Int) = j ∧ i ≤ j ∧ j < R.length ∧ dp R is_ (j + 1) = d ∧ ∀ l : Nat, i ≤ l → l < j → dp R is_ (l + 1) ≠ d := by
  intro n
  induction n with
  | zero => intro i deep _ h2; omega
  | succ n ih =>
    intro i deep h1 h2 h3
    rw [mateL_step]
    by_cases hin : i < R.length
    · have e : deep + wy is_ (rd R (i : Int)) = dp R is_ (i + 1) - d := by rw [h1, dp_succ]; omega
      rw [if_pos ⟨by omega, by omega⟩, e]
      by_cases hz : dp R is_ (i + 1) - d = 0
      · rw [if_pos hz]
        exact .inr ⟨i, rfl, Nat.le_refl _, hin, by omega, fun l _ _ => by omega⟩
      · rw [if_neg hz]
        rcases ih (i + 1) _ rfl (by omega) (by omega) with ⟨g1, g2⟩ | ⟨j, g1, g2, g3, g4, g5⟩
        · refine .inl ⟨g1, fun j hj hlt => ?_⟩
          by_cases hji : j = i
          · subst hji; omega
          · exact g2 j (by omega) hlt
        · refine .inr ⟨j, g1, by omega, g3, g4, fun l hl hlt => ?_⟩
          by_cases hli : l = i
          · subst hli; omega
          · exact g5 l (by omega) hlt
    · rw [if_neg (by omega)]
      exact .inl ⟨rfl, fun j _ _ => by omega⟩
theorem mate_down (R : List Int) (is_ e : Int) : ∀ (n p : Nat) (deep : Int), deep = e - dp R is_ p → p < n → p ≤ R.length →
    (mateL R is_ (-1) n deep ((p : Int) - 1) = -1 ∧ ∀ q : Nat, q < p → dp R is_ q ≠ e) ∨
    ∃ q : Nat, mateL R is_ (-1) n deep ((p : Int) - 1) = q ∧ q < p ∧ dp R is_ q = e ∧ ∀ l : Nat, q < l → l < p → dp R is_ l ≠ e := by
  intro n
  induction n with
  | zero => intro p deep _ h2; omega
  | succ n ih =>
    intro p deep h1 h2 h3
    rw [mateL_step]
    cases p with
    | zero =>
      rw [if_neg (by omega)]
      exact .inl ⟨rfl, fun q hq => by omega⟩
    | succ p =>
      have ep : ((p + 1 : Nat) : Int) - 1 = (p : Int) := by omega
      rw [ep]
      have ed : deep + wy is_ (rd R (p : Int)) = e - dp R is_ p := by rw [h1, dp_succ]; omega
      rw [if_pos ⟨by omega, by omega⟩, ed]
      by_cases hz : e - dp R is_ p = 0
      · rw [if_pos hz]
        exact .inr ⟨p, rfl, by omega, by omega, fun l _ _ => by omega⟩
      · rw [if_neg hz]
        rcases ih p _ rfl (by omega) (by omega) with ⟨g1, g2⟩ | ⟨q, g1, g2, g3, g4⟩
        · refine .inl ⟨g1, fun q hq => ?_⟩
          by_cases hqp : q = p
          · subst hqp; omega
          · exact g2 q (by omega)
        · refine .inr ⟨q, g1, by omega, g3, fun l hl hlt => ?_⟩
          by_cases hlp : l = p
          · subst hlp; omega
          · exact g4 l hl (by omega)
theorem stay_up (R : List Int) (is_ : Int) (i j : Nat) (h1 : wy is_ (rd R (i : Int)) = 1) (h : ∀ l : Nat, i ≤ l → l < j → dp R is_ (l + 1) ≠ dp R is_ i) : ∀ l : Nat, i ≤ l → l < j → dp R is_ i < dp R is_ (l + 1) := by
  intro l
  induction l with
  | zero =>
    intro hl hlt
    obtain rfl : i = 0 := by omega
    have e := dp_succ R is_ 0
    omega
  | succ l ih =>
    intro hl hlt
    by_cases hi : i = l + 1
    · have e := dp_succ R is_ (l + 1)
      rw [← hi] at e ⊢
      omega
    · have e := dp_succ R is_ (l + 1)
      have g := ih (by omega) (by omega)
      have n := h (l + 1) hl hlt
      rcases wy_one is_ (rd R ((l + 1 : Nat) : Int)) with w | w | w <;> omega
theorem stay_down (R : List Int) (is_ : Int) (m a : Nat) (h1 : wy is_ (rd R (a : Int)) = -1) (h : ∀ l : Nat, m < l → l < a + 1 → dp R is_ l ≠ dp R is_ (a + 1)) : ∀ (c l : Nat), l + c = a → m < l → dp R is_ (a + 1) < dp R is_ l := by
  intro c
  induction c with
  | zero =>
    intro l hl hm
    obtain rfl : l = a := by omega
    have e := dp_succ R is_ l
    omega
  | succ c ih =>
    intro l hl hm
    have e := dp_succ R is_ l
    have g := ih (l + 1) (by omega) (by omega)
    have n := h l hm (by omega)
    rcases wy_one is_ (rd R (l : Int)) with w | w | w <;> omega
/-- A pair of brackets. -/
def Pr (R : List Int) (is_ : Int) (a b : Nat) : Prop := a < b ∧ b < R.length ∧ wy is_ (rd R (a : Int)) = 1 ∧ wy is_ (rd R (b : Int)) = -1 ∧ dp R is_ (b + 1) = dp R is_ a ∧ ∀ i : Nat, a < i → i ≤ b → dp R is_ a < dp R is_ i
theorem mateF_of {R : List Int} {a : Nat} {is_ w : Int} (h : a < R.length) (hk : kindOf (rd R (a : Int)) = (is_, w)) (hw : w ≠ 0) : mateF R a = mateL R is_ w (R.length + 2) 0 a := by
  unfold mateF
  rw [if_neg (by omega), hk, if_neg hw]
theorem pair_mate {R : List Int} {is_ : Int} {a b : Nat} (h : Pr R is_ a b) : mateF R a = b ∧ mateF R b = a := by
  obtain ⟨h1, h2, h3, h4, h5, h6⟩ := h
  constructor
  · rw [mateF_of (by omega) (wy_kind h3 (by decide)) (by decide)]
    rcases mate_up R is_ (dp R is_ a) (R.length + 2) a 0 (by omega) (by omega) (by omega) with ⟨_, g2⟩ | ⟨j, g1, g2, g3, g4, g5⟩
    · exact absurd h5 (g2 b (by omega) h2)
    · rw [g1]
      by_cases c1 : j < b
      · have := h6 (j + 1) (by omega) (by omega); omega
      · by_cases c2 : b < j
        · exact absurd h5 (g5 b (by omega) c2)
        · omega
  · rw [mateF_of h2 (wy_kind h4 (by decide)) (by decide)]
    have := mate_down R is_ (dp R is_ (b + 1)) (R.length + 2) (b + 1) 0 (by omega) (by omega) (by omega)
    rw [show ((b + 1 : Nat) : Int) - 1 = (b : Int) by omega] at this
    rcases this with ⟨_, g2⟩ | ⟨q, g1, g2, g3, g4⟩
    · exact absurd h5.symm (g2 a (by omega))
    · rw [g1]
      by_cases c1 : a < q
      · have := h6 q c1 (by omega); omega
      · by_cases c2 : q < a
        · exact absurd h5.symm (g4 a c2 (by omega))
        · omega
theorem mate_pair {R : List Int} {a m : Nat} (ha : a < R.length) (h : mateF R a = m) : ∃ is_, Pr R is_ a m ∨ Pr R is_ m a := by
  obtain ⟨is_, w, hk⟩ : ∃ is_ w, kindOf (rd R (a : Int)) = (is_, w) := ⟨_, _, rfl⟩
  have hw := kind_way (rd R (a : Int))
  rw [hk] at hw
  dsimp only at hw
  refine ⟨is_, ?_⟩
  rcases hw with rfl | rfl | rfl
  · exfalso
    unfold mateF at h
    rw [if_neg (by omega), hk, if_pos rfl] at h
    omega
  · rw [mateF_of ha hk (by decide)] at h
    have w1 := wy_of hk (by decide)
    left
    rcases mate_up R is_ (dp R is_ a) (R.length + 2) a 0 (by omega) (by omega) (by omega) with ⟨g1, _⟩ | ⟨j, g1, g2, g3, g4, g5⟩
    · rw [g1] at h; omega
    · rw [g1] at h
      obtain rfl : j = m := by omega
      have st := stay_up R is_ a j w1 g5
      have e0 := dp_succ R is_ a
      have hne : a ≠ j := fun e => by subst e; omega
      have hd : dp R is_ a < dp R is_ j := by
        have := st (j - 1) (by omega) (by omega)
        rwa [show j - 1 + 1 = j by omega] at this
      have e1 := dp_succ R is_ j
      refine ⟨by omega, g3, w1, ?_, g4, fun i h1 h2 => ?_⟩
      · rcases wy_one is_ (rd R (j : Int)) with w | w | w <;> omega
      · have := st (i - 1) (by omega) (by omega)
        rwa [show i - 1 + 1 = i by omega] at this
  · rw [mateF_of ha hk (by decide)] at h
    have w1 := wy_of hk (by decide)
    right
    have := mate_down R is_ (dp R is_ (a + 1)) (R.length + 2) (a + 1) 0 (by omega) (by omega) (by omega)
    rw [show ((a + 1 : Nat) : Int) - 1 = (a : Int) by omega] at this
    rcases this with ⟨g1, _⟩ | ⟨q, g1, g2, g3, g4⟩
    · rw [g1] at h; omega
    · rw [g1] at h
      obtain rfl : q = m := by omega
      have st := stay_down R is_ q a w1 g4
      have e0 := dp_succ R is_ a
      have hne : q ≠ a := fun e => by subst e; omega
      have hd : dp R is_ (a + 1) < dp R is_ (q + 1) := st (a - (q + 1)) (q + 1) (by omega) (by omega)
      have e1 := dp_succ R is_ q
      refine ⟨by omega, ha, ?_, w1, g3.symm, fun i h1 h2 => ?_⟩
      · rcases wy_one is_ (rd R (q : Int)) with w | w | w <;> omega
      · have := st (a - i) i (by omega) h1
        omega
/-- Within a pair nothing's mate lies behind it. -/
theorem nest {R : List Int} {is_ : Int} {a b i : Nat} (h : Pr R is_ a b) (h1 : a < i) (h2 : i ≤ b) (hk : kindOf (rd R (i : Int)) = (is_, 1)) : mateF R i ≤ b := by
  obtain ⟨p1, p2, p3, p4, p5, p6⟩ := h
  have w1 := wy_of hk (by decide)
  rw [mateF_of (by omega) hk (by decide)]
  rcases mate_up R is_ (dp R is_ i) (R.length + 2) i 0 (by omega) (by omega) (by omega) with ⟨g1, _⟩ | ⟨j, g1, g2, g3, g4, g5⟩
  · rw [g1]; omega
  · rw [g1]
    by_cases hj : b < j
    · have := stay_up R is_ i j w1 g5 b h2 hj
      have := p6 i h1 h2
      omega
    · omega
theorem open_key {r is_ : Int} (h : kindOf r = (is_, 1)) : r = 40 ∨ r = 91 ∨ r = 123 := by
  unfold kindOf at h
  split at h
  · rename_i c
    unfold in3 at c
    by_cases c1 : r = 40
    · exact .inl c1
    · by_cases c2 : r = 91
      · exact .inr (.inl c2)
      · by_cases c3 : r = 123
        · exact .inr (.inr c3)
        · rw [if_neg c1, if_neg c2, if_neg c3] at c
          omega
  · split at h
    · simp only [Prod.mk.injEq] at h
      omega
    · simp only [Prod.mk.injEq] at h
      omega
/-- Around what lies within a pair there is a pair within it. -/
theorem ar_pair {R : List Int} {is_ : Int} {a b : Nat} (h : Pr R is_ a b) (mid : Int) (hm : mid < b) : ∀ (n : Nat) (i : Nat), a ≤ i → (i : Int) ≤ mid → i < n →
    ∃ x y : Int, arL R (rd R (a : Int)) mid n i 1 = (x, y, 0) ∧ (a : Int) ≤ x ∧ x ≤ mid ∧ mid ≤ y ∧ y ≤ b := by
  have hpm := pair_mate h
  intro n
  induction n with
  | zero => intro i _ _ h3; omega
  | succ n ih =>
    intro i h1 h2 h3
    rw [arL, if_pos (by omega)]
    by_cases hk : rd R (i : Int) = rd R (a : Int)
    · rw [if_pos hk]
      by_cases hmt : mid ≤ mateF R i
      · rw [if_pos hmt, if_pos (by decide)]
        refine ⟨_, _, rfl, by omega, h2, hmt, ?_⟩
        by_cases hia : i = a
        · subst hia; omega
        · exact nest h (by omega) (by omega) (by rw [hk]; exact wy_kind h.2.2.1 (by decide))
      · rw [if_neg hmt]
        have hia : i ≠ a := fun e => by subst e; omega
        rw [show (i : Int) - 1 = ((i - 1 : Nat) : Int) by omega]
        exact ih (i - 1) (by omega) (by omega) (by omega)
    · rw [if_neg hk]
      have hia : i ≠ a := fun e => by subst e; exact hk rfl
      rw [show (i : Int) - 1 = ((i - 1 : Nat) : Int) by omega]
      exact ih (i - 1) (by omega) (by omega) (by omega)
end Go.Proofs.YtfiapekpeiapbaaDoor.F
