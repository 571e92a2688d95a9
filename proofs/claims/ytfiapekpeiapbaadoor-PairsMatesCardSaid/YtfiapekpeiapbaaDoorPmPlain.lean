import Derived.Test.YtfiapekpeiapbaaDoorPmHv
/-! PairsMates, in plain Lean: the reference's mates are the program's. -/
namespace Go.Proofs.YtfiapekpeiapbaaDoor.PM
open Go.RowKit Go.Proofs.YtfiapekpeiapbaaDoor.Q Go.Proofs.YtfiapekpeiapbaaDoor.F Go.Lib
open Go.Proofs.YtfiapekpeiapbaaDoorW.PrintWords Go.Proofs.YtfiapekpeiapbaaDoorW.PrintLast Go.Proofs.YtfiapekpeiapbaaDoorW.PrintMore

def opA (k : Int) : Int := rd [40, 91, 123] k
def shA (k : Int) : Int := rd [41, 93, 125] k
def brk (r : Int) : Int × Bool := if (kindOf r).2 = 0 then (-1, false) else ((kindOf r).1, decide ((kindOf r).2 = 1))
theorem kind_op {r : Int} : (kindOf r).2 = 1 → 0 ≤ (kindOf r).1 ∧ (kindOf r).1 < 3 ∧ r = opA (kindOf r).1 := by
  intro h
  have h' : kindOf r = ((kindOf r).1, 1) := by rw [← h]
  rcases open_key h' with e | e | e <;> subst e <;> decide
theorem shut_key {r is_ : Int} (h : kindOf r = (is_, -1)) : r = 41 ∨ r = 93 ∨ r = 125 := by
  unfold kindOf at h
  split at h
  · simp only [Prod.mk.injEq] at h
    omega
  · split at h
    · rename_i c
      unfold in3 at c
      by_cases c1 : r = 41
      · exact .inl c1
      · by_cases c2 : r = 93
        · exact .inr (.inl c2)
        · by_cases c3 : r = 125
          · exact .inr (.inr c3)
          · rw [if_neg c1, if_neg c2, if_neg c3] at c
            omega
    · simp only [Prod.mk.injEq] at h
      omega
theorem kind_sh {r : Int} : (kindOf r).2 = -1 → 0 ≤ (kindOf r).1 ∧ (kindOf r).1 < 3 ∧ r = shA (kindOf r).1 := by
  intro h
  have h' : kindOf r = ((kindOf r).1, -1) := by rw [← h]
  rcases shut_key h' with e | e | e <;> subst e <;> decide
theorem wy_op (k r : Int) (h0 : 0 ≤ k) (h3 : k < 3) : wy k r = if r = opA k then 1 else if r = shA k then -1 else 0 := by
  have hk : k = 0 ∨ k = 1 ∨ k = 2 := by omega
  by_cases c1 : (kindOf r).2 = 1
  · obtain ⟨_, _, e⟩ := kind_op c1
    have h' : kindOf r = ((kindOf r).1, 1) := by rw [← c1]
    rcases open_key h' with z | z | z <;> subst z <;> rcases hk with z | z | z <;> subst z <;> decide
  · by_cases c2 : (kindOf r).2 = -1
    · have h' : kindOf r = ((kindOf r).1, -1) := by rw [← c2]
      rcases shut_key h' with z | z | z <;> subst z <;> rcases hk with z | z | z <;> subst z <;> decide
    · have c0 : (kindOf r).2 = 0 := by have := kind_way r; omega
      have e1 : r ≠ opA k := fun e => by rcases hk with z | z | z <;> subst z <;> subst e <;> revert c0 <;> decide
      have e2 : r ≠ shA k := fun e => by rcases hk with z | z | z <;> subst z <;> subst e <;> revert c0 <;> decide
      rw [if_neg e1, if_neg e2]
      unfold wy
      rw [if_neg (fun z => z.1 c0)]
theorem bracket_f (r : Int) : quillref12_bracket.f 5 r = some (brk r) := by
  unfold quillref12_bracket.f quillref12_opens.f quillref12_shuts.f
  simp only [Option.bind_some, quillref12_bracket.l0]
  unfold brk kindOf in3
  by_cases c1 : r = 40
  · subst c1; decide +kernel
  by_cases c2 : r = 41
  · subst c2; decide +kernel
  by_cases c3 : r = 91
  · subst c3; decide +kernel
  by_cases c4 : r = 93
  · subst c4; decide +kernel
  by_cases c5 : r = 123
  · subst c5; decide +kernel
  by_cases c6 : r = 125
  · subst c6; decide +kernel
  have h1 : wrap64 1 = 1 := by decide +kernel
  have h2 : wrap64 2 = 2 := by decide +kernel
  have h3 : wrap64 3 = 3 := by decide +kernel
  have q1 : ¬ 40 = r := fun e => c1 e.symm
  have q2 : ¬ 41 = r := fun e => c2 e.symm
  have q3 : ¬ 91 = r := fun e => c3 e.symm
  have q4 : ¬ 93 = r := fun e => c4 e.symm
  have q5 : ¬ 123 = r := fun e => c5 e.symm
  have q6 : ¬ 125 = r := fun e => c6 e.symm
  simp [h1, h2, h3, c1, c2, c3, c4, c5, c6, q1, q2, q3, q4, q5, q6, rd]
theorem bracket_e (r : Int) : Evt (fun k => quillref12_bracket.f k r) (brk r) :=
  ⟨5, fun k hk => by
    obtain ⟨d, rfl⟩ : ∃ d, k = d + 5 := ⟨k - 5, by omega⟩
    clear hk
    induction d with
    | zero => exact bracket_f r
    | succ d ih => exact quillref12_bracket.mono _ _ _ ih⟩
theorem rstep (R : List Int) (ks by_ deep i : Int) (hk0 : 0 ≤ ks) (hk3 : ks < 3) (hw : by_ = 1 ∨ by_ = -1) (hi0 : 0 ≤ i) (hi1 : i < R.length) (hl : R.length ≤ 4000) (hd1 : -5000 ≤ deep) (hd2 : deep ≤ 5000) (m : Nat) :
    quillref12_Mate.j2 (m + 2) R ks by_ (by_ * deep) i true = if deep + wy ks (rd R i) = 0 then some i else quillref12_Mate.l0 m R ks by_ (by_ * (deep + wy ks (rd R i))) (i + by_) := by
  have e3 : ([40, 91, 123] : List Int).length = 3 := rfl
  have e4 : ([41, 93, 125] : List Int).length = 3 := rfl
  have hwi : wrap64 (i + by_) = i + by_ := w64 (by rcases hw with h | h <;> omega) (by rcases hw with h | h <;> omega)
  have hz : ∀ d : Int, (by_ * d = 0) ↔ d = 0 := fun d => by rcases hw with h | h <;> subst h <;> omega
  rw [quillref12_Mate.j2, if_pos rfl, if_pos hi0, if_pos hi1, quillref12_opens.f, Option.bind_some, if_pos hk0, e3, if_pos (by omega)]
  rw [wy_op ks _ hk0 hk3]
  by_cases c1 : rd R i = opA ks
  · have hw1 : wrap64 (by_ * deep + by_) = by_ * (deep + 1) := by rcases hw with h | h <;> subst h <;> exact (w64 (by omega) (by omega)).trans (by omega)
    have c2 : ¬ rd R i = shA ks := fun e => by
      have : opA ks = shA ks := c1.symm.trans e
      revert this
      rcases (show ks = 0 ∨ ks = 1 ∨ ks = 2 by omega) with z | z | z <;> subst z <;> decide
    rw [if_pos (show rd R i = rd [40, 91, 123] ks from c1), if_pos c1, hw1, quillref12_Mate.j3, if_pos hi0, if_pos hi1, quillref12_shuts.f, Option.bind_some, if_pos hk0, e4, if_pos (by omega), if_neg (show ¬ rd R i = rd [41, 93, 125] ks from c2), hwi]
    by_cases c3 : deep + 1 = 0
    · rw [if_pos ((hz _).2 c3), if_pos c3]
    · rw [if_neg (fun h => c3 ((hz _).1 h)), if_neg c3]
  · rw [if_neg (show ¬ rd R i = rd [40, 91, 123] ks from c1), if_neg c1, quillref12_Mate.j3, if_pos hi0, if_pos hi1, quillref12_shuts.f, Option.bind_some, if_pos hk0, e4, if_pos (by omega)]
    by_cases c2 : rd R i = shA ks
    · have hw1 : wrap64 (by_ * deep - by_) = by_ * (deep + -1) := by rcases hw with h | h <;> subst h <;> exact (w64 (by omega) (by omega)).trans (by omega)
      rw [if_pos (show rd R i = rd [41, 93, 125] ks from c2), if_pos c2, hw1, hwi]
      by_cases c3 : deep + -1 = 0
      · rw [if_pos ((hz _).2 c3), if_pos c3]
      · rw [if_neg (fun h => c3 ((hz _).1 h)), if_neg c3]
    · rw [if_neg (show ¬ rd R i = rd [41, 93, 125] ks from c2), if_neg c2, hwi, Int.add_zero]
      by_cases c3 : deep = 0
      · rw [if_pos ((hz _).2 c3), if_pos c3]
      · rw [if_neg (fun h => c3 ((hz _).1 h)), if_neg c3]
theorem rmate_loop (R : List Int) (hl : R.length ≤ 4000) (ks by_ : Int) (hk0 : 0 ≤ ks) (hk3 : ks < 3) (hw : by_ = 1 ∨ by_ = -1) : ∀ (n : Nat) (deep i : Int), -1 ≤ i → i ≤ R.length → (by_ = 1 → R.length - i < n) → (by_ = -1 → i + 1 < n) → deep + n ≤ 4003 → -deep + n ≤ 4003 →
    Evt (fun k => quillref12_Mate.l0 k R ks by_ (by_ * deep) i) (mateL R ks by_ n deep i) := by
  intro n
  induction n with
  | zero => intro deep i _ _ h3 h4; rcases hw with h | h <;> omega
  | succ n ih =>
    intro deep i h1 h2 h3 h4 h5 h6
    rw [mateL_step]
    have hwy := wy_one ks (rd R i)
    by_cases c : 0 ≤ i ∧ i < R.length
    · rw [if_pos c]
      by_cases cz : deep + wy ks (rd R i) = 0
      · rw [if_pos cz]
        refine ⟨3, fun k hk => ?_⟩
        obtain ⟨m, rfl⟩ : ∃ m, k = m + 3 := ⟨k - 3, by omega⟩
        show quillref12_Mate.l0 (m + 3) R ks by_ (by_ * deep) i = some i
        rw [quillref12_Mate.l0, if_pos c.1, decide_eq_true c.2, rstep R ks by_ deep i hk0 hk3 hw c.1 c.2 hl (by omega) (by omega), if_pos cz]
      · rw [if_neg cz]
        obtain ⟨k0, h0⟩ := ih (deep + wy ks (rd R i)) (i + by_) (by rcases hw with h | h <;> omega) (by rcases hw with h | h <;> omega) (by intro h; omega) (by intro h; omega) (by omega) (by omega)
        refine ⟨k0 + 3, fun k hk => ?_⟩
        obtain ⟨m, rfl⟩ : ∃ m, k = m + 3 := ⟨k - 3, by omega⟩
        have n0 := h0 m (by omega)
        show quillref12_Mate.l0 (m + 3) R ks by_ (by_ * deep) i = _
        rw [quillref12_Mate.l0, if_pos c.1, decide_eq_true c.2, rstep R ks by_ deep i hk0 hk3 hw c.1 c.2 hl (by omega) (by omega), if_neg cz]
        exact n0
    · rw [if_neg c]
      refine ⟨2, fun k hk => ?_⟩
      obtain ⟨m, rfl⟩ : ∃ m, k = m + 2 := ⟨k - 2, by omega⟩
      show quillref12_Mate.l0 (m + 2) R ks by_ (by_ * deep) i = some (-1)
      rw [quillref12_Mate.l0]
      by_cases c1 : 0 ≤ i
      · rw [if_pos c1, decide_eq_false (fun h => c ⟨c1, h⟩), quillref12_Mate.j2, if_neg (by decide)]
      · rw [if_neg c1, quillref12_Mate.j2, if_neg (by decide)]
theorem rmate (R : List Int) (hl : R.length ≤ 4000) (a : Int) (h0 : 0 ≤ a) : Evt (fun k => quillref12_Mate.f k R a) (mateF R a) := by
  by_cases h1 : a ≥ R.length
  · have e : mateF R a = -1 := by unfold mateF; rw [if_pos h1]
    rw [e]
    exact Evt.same (Evt.const rfl) (fun k => by rw [quillref12_Mate.f, if_pos h1])
  · obtain ⟨k1, hb⟩ := bracket_e (rd R a)
    dsimp only at hb
    by_cases h2 : (kindOf (rd R a)).2 = 0
    · have e : mateF R a = -1 := by unfold mateF; rw [if_neg h1, if_pos h2]
      rw [e]
      refine ⟨k1, fun k hk => ?_⟩
      show quillref12_Mate.f k R a = some (-1)
      rw [quillref12_Mate.f, if_neg h1, if_pos h0, if_pos (by omega), hb k hk, Option.bind_some, brk, if_pos h2, if_pos (by decide)]
    · have e : mateF R a = mateL R (kindOf (rd R a)).1 (kindOf (rd R a)).2 (R.length + 2) 0 a := by unfold mateF; rw [if_neg h1, if_neg h2]
      have hw : (kindOf (rd R a)).2 = 1 ∨ (kindOf (rd R a)).2 = -1 := (kind_way (rd R a)).resolve_left h2
      have hk : 0 ≤ (kindOf (rd R a)).1 ∧ (kindOf (rd R a)).1 < 3 := by
        rcases hw with h | h
        · exact ⟨(kind_op h).1, (kind_op h).2.1⟩
        · exact ⟨(kind_sh h).1, (kind_sh h).2.1⟩
      obtain ⟨k0, hr⟩ := rmate_loop R hl (kindOf (rd R a)).1 (kindOf (rd R a)).2 hk.1 hk.2 hw (R.length + 2) 0 a (by omega) (by omega) (by intro _; omega) (by intro _; omega) (by omega) (by omega)
      rw [e]
      refine ⟨k0 + k1 + 1, fun k hkk => ?_⟩
      obtain ⟨m, rfl⟩ : ∃ m, k = m + 1 := ⟨k - 1, by omega⟩
      have n0 := hr m (by omega)
      have n1 := hb (m + 1) (by omega)
      dsimp only at n0
      rw [Int.mul_zero] at n0
      show quillref12_Mate.f (m + 1) R a = _
      rw [quillref12_Mate.f, if_neg h1, if_pos h0, if_pos (by omega), n1, Option.bind_some, brk, if_neg h2, if_neg (by dsimp only; omega)]
      dsimp only
      rcases hw with h | h
      · rw [h, if_pos (by decide), quillref12_Mate.j0]
        rw [h] at n0
        exact n0
      · rw [h, if_neg (by decide), quillref12_Mate.j0]
        rw [h] at n0
        exact n0
/-- The next bracket's mate. -/
theorem pair_loop (R : List Int) (hl : R.length ≤ 4000) (E : Int) (hE : E ≤ R.length) (hend : E = R.length ∨ rd R E = 10) : ∀ (n : Nat) (i : Int), 0 ≤ i → i ≤ E → E - i < n → (∀ j, i ≤ j → j < E → rd R j ≠ 10) →
    ∃ p, Evt (fun k => quillref12_Pair.l0 k R i) p ∧ goL R E n i = if p ≥ 0 then (p, 0) else (0, 6) := by
  intro n
  induction n with
  | zero => intro i _ _ h3; omega
  | succ n ih =>
    intro i h1 h2 h3 h4
    by_cases c : i < E
    · have hne : (rd R i != 10) = true := bne_iff_ne.2 (h4 i (by omega) c)
      obtain ⟨k1, hb⟩ := bracket_e (rd R i)
      dsimp only at hb
      rw [goL, if_pos c]
      by_cases ck : (kindOf (rd R i)).2 = 0
      · rw [if_pos ck]
        obtain ⟨p, ⟨k0, h0⟩, hp⟩ := ih (i + 1) (by omega) (by omega) (by omega) (fun j hj => h4 j (by omega))
        refine ⟨p, ⟨k0 + k1 + 2, fun k hk => ?_⟩, hp⟩
        obtain ⟨m, rfl⟩ : ∃ m, k = m + 2 := ⟨k - 2, by omega⟩
        have n0 := h0 m (by omega)
        have n1 := hb m (by omega)
        show quillref12_Pair.l0 (m + 2) R i = some p
        rw [quillref12_Pair.l0, if_pos (by omega), if_pos h1, hne, quillref12_Pair.j1, if_pos rfl, if_pos h1, if_pos (by omega), n1, Option.bind_some, brk, if_pos ck, if_neg (by decide), w64 (by omega) (by omega)]
        exact n0
      · rw [if_neg ck]
        obtain ⟨k0, h0⟩ := rmate R hl i h1
        have hk : (brk (rd R i)).1 ≥ 0 := by
          rw [brk, if_neg ck]
          rcases (kind_way (rd R i)).resolve_left ck with h | h
          · exact (kind_op h).1
          · exact (kind_sh h).1
        refine ⟨mateF R i, ⟨k0 + k1 + 2, fun k hkk => ?_⟩, rfl⟩
        obtain ⟨m, rfl⟩ : ∃ m, k = m + 2 := ⟨k - 2, by omega⟩
        have n0 := h0 m (by omega)
        have n1 := hb m (by omega)
        dsimp only at n0
        show quillref12_Pair.l0 (m + 2) R i = some (mateF R i)
        rw [quillref12_Pair.l0, if_pos (by omega), if_pos h1, hne, quillref12_Pair.j1, if_pos rfl, if_pos h1, if_pos (by omega), n1, Option.bind_some, if_pos hk, n0, Option.bind_some]
    · refine ⟨-1, ⟨2, fun k hk => ?_⟩, by rw [goL, if_neg c, if_neg (by decide)]⟩
      obtain ⟨m, rfl⟩ : ∃ m, k = m + 2 := ⟨k - 2, by omega⟩
      obtain rfl : i = E := by omega
      show quillref12_Pair.l0 (m + 2) R i = some (-1)
      rw [quillref12_Pair.l0]
      by_cases cl : i < (R.length : Int)
      · have h10 := hend.resolve_left (by omega)
        rw [if_pos cl, if_pos h1, show (rd R i != 10) = false by rw [h10]; rfl, quillref12_Pair.j1, if_neg (by decide)]
      · rw [if_neg cl, quillref12_Pair.j1, if_neg (by decide)]
theorem around_loop (R : List Int) (hl : R.length ≤ 4000) (hv : ∀ j : Nat, j < R.length → 0 ≤ rd R (j : Int) ∧ rd R (j : Int) ≤ 1114111) (key a : Int) : ∀ (n : Nat) (i c : Int), -1 ≤ i → i < R.length → i + 1 < n → 1 ≤ c → c ≤ 999 →
    ∃ u v, Evt (fun k => quillref12_Around.l0 k R a key c i) (u, v) ∧ arL R key a n i c = if u ≥ 0 then (u, v, 0) else (0, 0, 6) := by
  intro n
  induction n with
  | zero => intro i c _ _ h3; omega
  | succ n ih =>
    intro i c h1 h2 h3 h4 h5
    rw [arL]
    by_cases c0 : 0 ≤ i
    · rw [if_pos c0]
      have hwi : wrap64 (i - 1) = i - 1 := w64 (by omega) (by omega)
      have hwr : wrap64 (rd R i) = rd R i := by
        obtain ⟨j, rfl⟩ : ∃ j : Nat, i = j := Int.eq_ofNat_of_zero_le c0
        have := hv j (by omega)
        exact w64 (by omega) (by omega)
      by_cases ck : rd R i = key
      · rw [if_pos ck]
        obtain ⟨k0, h0⟩ := rmate R hl i c0
        dsimp only at h0
        by_cases cm : a ≤ mateF R i
        · rw [if_pos cm]
          have hwc : wrap64 (c - 1) = c - 1 := w64 (by omega) (by omega)
          by_cases cc : c - 1 = 0
          · rw [if_pos cc]
            refine ⟨i, mateF R i, ⟨k0 + 1, fun k hk => ?_⟩, by rw [if_pos c0]⟩
            obtain ⟨m, rfl⟩ : ∃ m, k = m + 1 := ⟨k - 1, by omega⟩
            have n0 := h0 m (by omega)
            show quillref12_Around.l0 (m + 1) R a key c i = some (i, mateF R i)
            rw [quillref12_Around.l0, if_pos c0, if_pos c0, if_pos h2, hwr, if_pos ck, n0, Option.bind_some, if_pos cm, hwc, if_pos cc]
          · rw [if_neg cc]
            obtain ⟨u, v, ⟨k1, hi⟩, he⟩ := ih (i - 1) (c - 1) (by omega) (by omega) (by omega) (by omega) (by omega)
            refine ⟨u, v, ⟨k0 + k1 + 1, fun k hk => ?_⟩, he⟩
            obtain ⟨m, rfl⟩ : ∃ m, k = m + 1 := ⟨k - 1, by omega⟩
            have n0 := h0 m (by omega)
            have n1 := hi m (by omega)
            show quillref12_Around.l0 (m + 1) R a key c i = some (u, v)
            rw [quillref12_Around.l0, if_pos c0, if_pos c0, if_pos h2, hwr, if_pos ck, n0, Option.bind_some, if_pos cm, hwc, if_neg cc, hwi]
            exact n1
        · rw [if_neg cm]
          obtain ⟨u, v, ⟨k1, hi⟩, he⟩ := ih (i - 1) c (by omega) (by omega) (by omega) (by omega) (by omega)
          refine ⟨u, v, ⟨k0 + k1 + 1, fun k hk => ?_⟩, he⟩
          obtain ⟨m, rfl⟩ : ∃ m, k = m + 1 := ⟨k - 1, by omega⟩
          have n0 := h0 m (by omega)
          have n1 := hi m (by omega)
          show quillref12_Around.l0 (m + 1) R a key c i = some (u, v)
          rw [quillref12_Around.l0, if_pos c0, if_pos c0, if_pos h2, hwr, if_pos ck, n0, Option.bind_some, if_neg cm, hwi]
          exact n1
      · rw [if_neg ck]
        obtain ⟨u, v, ⟨k1, hi⟩, he⟩ := ih (i - 1) c (by omega) (by omega) (by omega) (by omega) (by omega)
        refine ⟨u, v, ⟨k1 + 1, fun k hk => ?_⟩, he⟩
        obtain ⟨m, rfl⟩ : ∃ m, k = m + 1 := ⟨k - 1, by omega⟩
        have n1 := hi m (by omega)
        show quillref12_Around.l0 (m + 1) R a key c i = some (u, v)
        rw [quillref12_Around.l0, if_pos c0, if_pos c0, if_pos h2, hwr, if_neg ck, hwi]
        exact n1
    · rw [if_neg c0]
      refine ⟨-1, -1, ⟨1, fun k hk => ?_⟩, by rw [if_neg (by decide)]⟩
      obtain ⟨m, rfl⟩ : ∃ m, k = m + 1 := ⟨k - 1, by omega⟩
      show quillref12_Around.l0 (m + 1) R a key c i = some (-1, -1)
      rw [quillref12_Around.l0, if_neg c0]
end Go.Proofs.YtfiapekpeiapbaaDoor.PM
