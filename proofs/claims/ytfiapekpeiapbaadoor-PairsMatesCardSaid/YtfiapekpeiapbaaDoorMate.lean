import Derived.Test.YtfiapekpeiapbaaDoorLines
/-! pairs.mate, in plain Lean; pairs.Mate. -/
namespace Go.Proofs.YtfiapekpeiapbaaDoor.F
open Go.RowKit Go.Proofs.YtfiapekpeiapbaaDoor.Q Go.Lib
open Go.Proofs.YtfiapekpeiapbaaDoorW.PrintWords Go.Proofs.YtfiapekpeiapbaaDoorW.PrintLast Go.Proofs.YtfiapekpeiapbaaDoorW.PrintMore

def mateL (R : List Int) (is_ way : Int) : Nat → Int → Int → Int
  | 0, _, _ => -1
  | n + 1, deep, i =>
    if 0 ≤ i ∧ i < R.length then
      (if (kindOf (rd R i)).2 ≠ 0 ∧ (kindOf (rd R i)).1 = is_ then (if deep + (kindOf (rd R i)).2 = 0 then i else mateL R is_ way n (deep + (kindOf (rd R i)).2) (i + way))
      else (if deep = 0 then i else mateL R is_ way n deep (i + way)))
    else -1
def mateF (R : List Int) (at_ : Int) : Int :=
  if at_ ≥ R.length then -1 else if (kindOf (rd R at_)).2 = 0 then -1 else mateL R (kindOf (rd R at_)).1 (kindOf (rd R at_)).2 (R.length + 2) 0 at_
theorem kind_way (r : Int) : (kindOf r).2 = 0 ∨ (kindOf r).2 = 1 ∨ (kindOf r).2 = -1 := by
  unfold kindOf
  split
  · simp
  · split <;> simp
theorem mate_loop (R : List Int) (hR : R.length ≤ 4000) (is_ way : Int) (hw : way = 1 ∨ way = -1) : ∀ (n : Nat) (deep i : Int), -1 ≤ i → i ≤ R.length → (way = 1 → R.length - i < n) → (way = -1 → i + 1 < n) → deep ≤ 4003 - n → -(4003 - n) ≤ deep → n ≤ 4002 →
    Evt (fun k => Fa.pairs_mate.l0 k R is_ way deep i) (mateL R is_ way n deep i) := by
  intro n
  induction n with
  | zero => intro deep i _ _ h3 h4; rcases hw with h | h <;> omega
  | succ n ih =>
    intro deep i h1 h2 h3 h4 h5 h6 h7
    unfold mateL
    by_cases hin : 0 ≤ i ∧ i < R.length
    · rw [if_pos hin]
      have ew : wrap64 (i + way) = i + way := w64 (by rcases hw with h | h <;> omega) (by rcases hw with h | h <;> omega)
      have hstep : ∀ d : Int, d ≤ 4003 - n → -(4003 - n) ≤ d → d ≠ 0 → Evt (fun k => Fa.pairs_mate.l0 k R is_ way d (i + way)) (mateL R is_ way n d (i + way)) := fun d hd1 hd2 _ =>
        ih d (i + way) (by rcases hw with h | h <;> omega) (by rcases hw with h | h <;> omega) (by intro h; omega) (by intro h; omega) hd1 hd2 (by omega)
      have hkw := kind_way (rd R i)
      have ed : wrap64 (deep + (kindOf (rd R i)).2) = deep + (kindOf (rd R i)).2 := w64 (by omega) (by omega)
      by_cases hm : (kindOf (rd R i)).2 ≠ 0 ∧ (kindOf (rd R i)).1 = is_
      · rw [if_pos hm]
        by_cases hz : deep + (kindOf (rd R i)).2 = 0
        · rw [if_pos hz]
          refine ⟨3, fun k hk => ?_⟩
          obtain ⟨m, rfl⟩ : ∃ m, k = m + 3 := ⟨k - 3, by omega⟩
          show Fa.pairs_mate.l0 (m + 3) R is_ way deep i = some i
          rw [Fa.pairs_mate.l0, if_pos hin.1, decide_eq_true hin.2, Fa.pairs_mate.j1, if_pos rfl, if_pos hin.1, if_pos hin.2, pairs_kind.f, Option.bind_some, if_neg hm.1, beq_iff_eq.2 hm.2, Fa.pairs_mate.j2, if_pos rfl, ed, if_pos hz]
        · rw [if_neg hz]
          obtain ⟨k0, h0⟩ := hstep (deep + (kindOf (rd R i)).2) (by omega) (by omega) hz
          dsimp only at h0
          refine ⟨k0 + 3, fun k hk => ?_⟩
          obtain ⟨m, rfl⟩ : ∃ m, k = m + 3 := ⟨k - 3, by omega⟩
          have n0 : k0 ≤ m := by omega
          show Fa.pairs_mate.l0 (m + 3) R is_ way deep i = _
          rw [Fa.pairs_mate.l0, if_pos hin.1, decide_eq_true hin.2, Fa.pairs_mate.j1, if_pos rfl, if_pos hin.1, if_pos hin.2, pairs_kind.f, Option.bind_some, if_neg hm.1, beq_iff_eq.2 hm.2, Fa.pairs_mate.j2, if_pos rfl, ed, if_neg hz, ew]
          exact h0 m n0
      · rw [if_neg hm]
        have hj : ∀ m : Nat, Fa.pairs_mate.j1 (m + 1) R is_ way deep i true = Fa.pairs_mate.j2 m R is_ way deep i (kindOf (rd R i)).2 false := fun m => by
          rw [Fa.pairs_mate.j1, if_pos rfl, if_pos hin.1, if_pos hin.2, pairs_kind.f, Option.bind_some]
          by_cases h0 : (kindOf (rd R i)).2 = 0
          · rw [if_pos h0]
          · rw [if_neg h0, beq_eq_false_iff_ne.2 (fun e => hm ⟨h0, e⟩)]
        by_cases hz : deep = 0
        · rw [if_pos hz]
          refine ⟨3, fun k hk => ?_⟩
          obtain ⟨m, rfl⟩ : ∃ m, k = m + 3 := ⟨k - 3, by omega⟩
          show Fa.pairs_mate.l0 (m + 3) R is_ way deep i = some i
          rw [Fa.pairs_mate.l0, if_pos hin.1, decide_eq_true hin.2, hj, Fa.pairs_mate.j2, if_neg Bool.false_ne_true, if_pos hz]
        · rw [if_neg hz]
          obtain ⟨k0, h0⟩ := hstep deep (by omega) (by omega) hz
          dsimp only at h0
          refine ⟨k0 + 3, fun k hk => ?_⟩
          obtain ⟨m, rfl⟩ : ∃ m, k = m + 3 := ⟨k - 3, by omega⟩
          have n0 : k0 ≤ m := by omega
          show Fa.pairs_mate.l0 (m + 3) R is_ way deep i = _
          rw [Fa.pairs_mate.l0, if_pos hin.1, decide_eq_true hin.2, hj, Fa.pairs_mate.j2, if_neg Bool.false_ne_true, if_neg hz, ew]
          exact h0 m n0
    · rw [if_neg hin]
      refine ⟨2, fun k hk => ?_⟩
      obtain ⟨m, rfl⟩ : ∃ m, k = m + 2 := ⟨k - 2, by omega⟩
      show Fa.pairs_mate.l0 (m + 2) R is_ way deep i = some (-1)
      rw [Fa.pairs_mate.l0]
      by_cases h : i ≥ 0
      · rw [if_pos h, decide_eq_false (by omega), Fa.pairs_mate.j1, if_neg Bool.false_ne_true]
      · rw [if_neg h, Fa.pairs_mate.j1, if_neg Bool.false_ne_true]
theorem mate_f (R : List Int) (hR : R.length ≤ 4000) (a : Int) (h0 : 0 ≤ a) : Evt (fun k => Fa.pairs_mate.f k R a) (mateF R a) := by
  unfold mateF
  by_cases h1 : a ≥ R.length
  · rw [if_pos h1]
    exact Evt.same (Evt.const rfl) (fun k => by rw [Fa.pairs_mate.f, if_pos h1])
  · rw [if_neg h1]
    by_cases h2 : (kindOf (rd R a)).2 = 0
    · rw [if_pos h2]
      exact Evt.same (Evt.const rfl) (fun k => by rw [Fa.pairs_mate.f, if_neg h1, if_pos h0, if_pos (by omega), pairs_kind.f, Option.bind_some, if_pos h2])
    · rw [if_neg h2]
      have hw : (kindOf (rd R a)).2 = 1 ∨ (kindOf (rd R a)).2 = -1 := (kind_way (rd R a)).resolve_left h2
      refine (mate_loop R hR (kindOf (rd R a)).1 (kindOf (rd R a)).2 hw (R.length + 2) 0 a (by omega) (by omega) (by intro h; omega) (by intro h; omega) (by omega) (by omega) (by omega)).same (fun k => ?_)
      rw [Fa.pairs_mate.f, if_neg h1, if_pos h0, if_pos (by omega), pairs_kind.f, Option.bind_some, if_neg h2]
theorem mate_range (R : List Int) (is_ way : Int) : ∀ (n : Nat) (deep i : Int), mateL R is_ way n deep i = -1 ∨ (0 ≤ mateL R is_ way n deep i ∧ mateL R is_ way n deep i < R.length) := by
  intro n
  induction n with
  | zero => intro d i; exact .inl rfl
  | succ n ih =>
    intro d i
    unfold mateL
    split
    · rename_i h
      split
      · split
        · exact .inr h
        · exact ih _ _
      · split
        · exact .inr h
        · exact ih _ _
    · exact .inl rfl
theorem mateF_range (R : List Int) (a : Int) : mateF R a = -1 ∨ (0 ≤ mateF R a ∧ mateF R a < R.length) := by
  unfold mateF
  split
  · exact .inl rfl
  · split
    · exact .inl rfl
    · exact mate_range R _ _ _ _ _
/-- The call. -/
theorem mate_c (R : List Int) (hR : R.length ≤ 4000) (a : Int) (h0 : 0 ≤ a) (A0 : Option Addr) (c0 : Nat) (w : World) (hr : Kd.C (Kd.int .i32) w A0 R.length R) (hc : R.length ≤ c0) :
    Calls Tryd.prog 85 #[.slice A0 R.length c0, .int .i64 a] w fun e w' => e = .returned (.int .i64 (mateF R a)) ∧ Below w.heap.size w w' := by
  obtain ⟨k, hk⟩ := (mate_f R hR a h0).ex
  exact Fa.pairs_mate.calls k A0 c0 R a _ w hr hc hk
def mateOf (s : ByteArray) (a : Int) : Int × Int :=
  if mayB s = true then (if 0 ≤ a ∧ a ≤ (rs s).length then (if mateF (rs s) a ≥ 0 then (mateF (rs s) a, 0) else (0, 6)) else (0, 1)) else (0, 1)
def pairs_Mate.f (a0 : ByteArray) (a1 : Int) : Option (Int × Int) := some (mateOf a0 a1)
end Go.Proofs.YtfiapekpeiapbaaDoor.F
