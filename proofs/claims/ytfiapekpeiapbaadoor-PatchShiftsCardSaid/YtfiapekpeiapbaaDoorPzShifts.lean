import Derived.Test.YtfiapekpeiapbaaDoorPzPure
import Derived.Test.YtfiapekpeiapbaaDoorPzx4
/-! PatchShifts, in plain Lean. -/
namespace Go.Proofs.YtfiapekpeiapbaaDoor.Pz
open Go.RowKit Go.Proofs.YtfiapekpeiapbaaDoor.Q Go.Proofs.YtfiapekpeiapbaaDoor.F Go.Lib
open Go.Proofs.YtfiapekpeiapbaaDoorW.PrintWords Go.Proofs.YtfiapekpeiapbaaDoorW.PrintLast Go.Proofs.YtfiapekpeiapbaaDoorW.PrintMore

theorem num0_f (a b : Int) : quillref0_Num.f a b = some (decide (0 ≤ a) && decide (a ≤ b)) := by
  rw [quillref0_Num.f]
  by_cases h : a ≥ 0
  · rw [if_pos h, decide_eq_true h, Bool.true_and]
  · rw [if_neg h, decide_eq_false h, Bool.false_and]
theorem shift_both (a d v : Int) (s : ByteArray) (hs : s.size ≤ 6000) : ∃ r, patch_Moved.f a d s v = some r ∧ quillref4_Shift.f a d s v = some r := by
  have hc := cv_rs (s := s) (by omega)
  have hr : utf8_RuneCountInString.f s = some ((runes s.data.toList).length : Int) := by rw [utf8_RuneCountInString.f, if_pos (by omega)]
  by_cases h1 : v ≤ a
  · exact ⟨v, by rw [patch_Moved.f, if_pos h1], by rw [quillref4_Shift.f, if_pos h1]⟩
  · by_cases h2 : v < wrap64 (a + d)
    · exact ⟨a, by rw [patch_Moved.f, if_neg h1, if_pos h2], by rw [quillref4_Shift.f, if_neg h1, if_pos h2]⟩
    · exact ⟨_, by rw [patch_Moved.f, if_neg h1, if_neg h2, hr, Option.bind_some], by rw [quillref4_Shift.f, if_neg h1, if_neg h2, quillref1_Len.f, hc, Option.bind_some, Option.bind_some]; rfl⟩
theorem moves_f (a d : Int) (s : ByteArray) (hs : s.size ≤ 6000) : Evt (fun k => quillref4_Moves.f k a d s) (takesB a d s) := by
  obtain ⟨k0, h0⟩ := refMay s (by omega)
  dsimp only at h0
  refine ⟨k0, fun k hk => ?_⟩
  show quillref4_Moves.f k a d s = _
  rw [quillref4_Moves.f, num0_f, num0_f, h0 k hk]
  unfold takesB near
  by_cases h1 : (decide (0 ≤ a) && decide (a ≤ 4000)) = true
  · rw [h1, Option.bind_some, if_pos rfl, Bool.true_and]
    by_cases h2 : (decide (0 ≤ d) && decide (d ≤ 4000)) = true
    · rw [h2, Option.bind_some, if_pos rfl, Bool.true_and]; rfl
    · rw [Bool.not_eq_true] at h2
      rw [h2, Option.bind_some, if_neg (by simp), Bool.false_and]
  · rw [Bool.not_eq_true] at h1
    rw [h1, Option.bind_some, if_neg (by simp), Bool.false_and]
/-- Shift's answer beside its model's. -/
theorem shift_f (a d v : Int) (s : ByteArray) (hs : s.size ≤ 6000) : ∃ r, quillref4_Shift.f a d s v = some r ∧
    patch_Shift.f a d s v = some (if (decide (0 ≤ v) && decide (v ≤ 4000)) = true ∧ takesB a d s = true then (r, 0) else (0, 1)) := by
  obtain ⟨r, h1, h2⟩ := shift_both a d v s hs
  refine ⟨r, h2, ?_⟩
  rw [patch_Shift.f, patch_Takes.f, h1]
  by_cases h3 : v < 0
  · rw [if_pos h3, if_neg (by simp; omega)]
  · by_cases h4 : v > 4000
    · rw [if_neg h3, if_pos h4, if_neg (by simp; omega)]
    · rw [if_neg h3, if_neg h4, Option.bind_some]
      by_cases h5 : takesB a d s = true
      · rw [if_pos h5, if_pos ⟨by simp; omega, h5⟩]; rfl
      · rw [if_neg h5, if_neg (fun h => h5 h.2)]
theorem ps_j3a (m : Nat) (l5 : List S32) (l : List ByteArray) (a1 a2 a3 a4 a6 : Int) (i j : Int) (xs : List Int) (r : Int) (p : S32) (q0 : 0 ≤ i) (q1 : i < l5.length) (q2 : 0 ≤ j) (q3 : j < xs.length) (e1 : rd_T32 l5 i = p)
    (hr : quillref4_Shift.f p.f0 p.f1 p.f2 (rd xs j) = some r) :
    quilllaw4_PatchShifts.j3 (m + 1) i xs j r 0 1 0 true l a1 a2 a3 a4 l5 a6 = quilllaw4_PatchShifts.l1 m i xs (wrap64 (j + 1)) l a1 a2 a3 a4 l5 a6 := by
  rw [quilllaw4_PatchShifts.j3, if_pos rfl, if_pos q0, if_pos q1, if_pos q2, if_pos q3, e1, hr, Option.bind_some, num_f, Option.bind_some, if_pos (Eq.refl (0 : Int)), if_pos (Eq.refl r)]
theorem ps_j3b (m : Nat) (l5 : List S32) (l : List ByteArray) (a1 a2 a3 a4 a6 : Int) (i j : Int) (xs : List Int) :
    quilllaw4_PatchShifts.j3 (m + 1) i xs j 0 1 1 0 false l a1 a2 a3 a4 l5 a6 = quilllaw4_PatchShifts.l1 m i xs (wrap64 (j + 1)) l a1 a2 a3 a4 l5 a6 := by
  rw [quilllaw4_PatchShifts.j3, if_neg Bool.false_ne_true, num_f, Option.bind_some, if_pos (Eq.refl (1 : Int)), if_pos (Eq.refl (0 : Int))]
theorem ps_l1 (m : Nat) (l5 : List S32) (l : List ByteArray) (a1 a2 a3 a4 a6 : Int) (i j : Int) (xs : List Int) (p : S32) (r : Int) (q0 : 0 ≤ i) (q1 : i < l5.length) (q2 : 0 ≤ j) (q3 : j < xs.length) (e1 : rd_T32 l5 i = p)
    (hr : quillref4_Shift.f p.f0 p.f1 p.f2 (rd xs j) = some r) (h1 : quillref4_Moves.f (m + 1) p.f0 p.f1 p.f2 = some (takesB p.f0 p.f1 p.f2))
    (hs : patch_Shift.f p.f0 p.f1 p.f2 (rd xs j) = some (if (decide (0 ≤ rd xs j) && decide (rd xs j ≤ 4000)) = true ∧ takesB p.f0 p.f1 p.f2 = true then (r, 0) else (0, 1))) :
    quilllaw4_PatchShifts.l1 (m + 2) i xs j l a1 a2 a3 a4 l5 a6 = quilllaw4_PatchShifts.l1 m i xs (wrap64 (j + 1)) l a1 a2 a3 a4 l5 a6 := by
  rw [quilllaw4_PatchShifts.l1, if_pos q3, if_pos q0, if_pos q1, if_pos q2, e1, hs, Option.bind_some, num0_f, Option.bind_some]
  by_cases c1 : (decide (0 ≤ rd xs j) && decide (rd xs j ≤ 4000)) = true
  · rw [if_pos c1, h1, Option.bind_some]
    by_cases c2 : takesB p.f0 p.f1 p.f2 = true
    · rw [if_pos ⟨c1, c2⟩, c2]
      exact ps_j3a m l5 l a1 a2 a3 a4 a6 i j xs r p q0 q1 q2 q3 e1 hr
    · rw [Bool.not_eq_true] at c2
      rw [if_neg (fun h => by rw [c2] at h; exact Bool.false_ne_true h.2), c2]
      exact ps_j3b m l5 l a1 a2 a3 a4 a6 i j xs
  · rw [if_neg c1, if_neg (fun h => c1 h.1)]
    exact ps_j3b m l5 l a1 a2 a3 a4 a6 i j xs
theorem ps_step (l5 : List S32) (l : List ByteArray) (a1 a2 a3 a4 a6 : Int) (i j : Nat) (hi : i < l5.length) (xs : List Int) (hj : j < xs.length) (hxs : xs.length ≤ 7) (p : S32) (hp : p.f2.size ≤ 6000)
    (e1 : rd_T32 l5 (i : Int) = p) (hnext : Evt (fun k => quilllaw4_PatchShifts.l1 k i xs ((j + 1 : Nat) : Int) l a1 a2 a3 a4 l5 a6) true) :
    Evt (fun k => quilllaw4_PatchShifts.l1 k i xs j l a1 a2 a3 a4 l5 a6) true := by
  obtain ⟨k0, h0⟩ := hnext
  obtain ⟨k1, h1⟩ := moves_f p.f0 p.f1 p.f2 hp
  dsimp only at h0 h1
  obtain ⟨r, hr, hs⟩ := shift_f p.f0 p.f1 (rd xs j) p.f2 hp
  refine ⟨k0 + k1 + 2, fun k hk => ?_⟩
  obtain ⟨m, rfl⟩ : ∃ m, k = m + 2 := ⟨k - 2, by omega⟩
  have hw : wrap64 ((j : Int) + 1) = ((j + 1 : Nat) : Int) := by
    clear hk h0 h1
    rw [w64] <;> omega
  exact (ps_l1 m l5 l a1 a2 a3 a4 a6 i j xs p r (Int.natCast_nonneg i) (Int.ofNat_lt.2 hi) (Int.natCast_nonneg j) (Int.ofNat_lt.2 hj) e1 hr (h1 _ (by clear hw; omega)) hs).trans (hw ▸ h0 m (by clear hw; omega))
set_option maxHeartbeats 8000000 in
theorem ps_inner (l5 : List S32) (l : List ByteArray) (a1 a2 a3 a4 a6 : Int) (i : Nat) (hi : i < l5.length) (hl5 : l5.length ≤ 6000) (xs : List Int) (hxs : xs.length ≤ 7) (p : S32) (hp : p.f2.size ≤ 6000)
    (e1 : rd_T32 l5 (i : Int) = p) (hout : Evt (fun k => quilllaw4_PatchShifts.l0 k ((i + 1 : Nat) : Int) l a1 a2 a3 a4 l5 a6) true) : ∀ (d j : Nat), xs.length - j = d → j ≤ xs.length →
    Evt (fun k => quilllaw4_PatchShifts.l1 k i xs j l a1 a2 a3 a4 l5 a6) true := by
  intro d
  induction d with
  | zero =>
    intro j hd hj
    refine Evt.step hout (fun k => ?_)
    rw [quilllaw4_PatchShifts.l1, if_neg (by omega), show wrap64 ((i : Int) + 1) = ((i + 1 : Nat) : Int) from by rw [w64] <;> omega]
  | succ d ih =>
    intro j hd hj
    exact ps_step l5 l a1 a2 a3 a4 a6 i j hi xs (by omega) hxs p hp e1 (ih (j + 1) (by omega) (by omega))
set_option maxHeartbeats 8000000 in
theorem ps_outer (l5 : List S32) (hsz : ∀ s ∈ l5, s.f2.size ≤ 6000) (hl5 : l5.length ≤ 6000) (l : List ByteArray) (a1 a2 a3 a4 a6 : Int) : ∀ (d i : Nat), l5.length - i = d → i ≤ l5.length → Evt (fun k => quilllaw4_PatchShifts.l0 k i l a1 a2 a3 a4 l5 a6) true := by
  have hdone : ∀ i : Nat, ¬ (i < l5.length ∧ i < 5) → Evt (fun k => quilllaw4_PatchShifts.l0 k i l a1 a2 a3 a4 l5 a6) true := by
    intro i hi
    obtain ⟨k0, h0⟩ := wakes_f
    dsimp only at h0
    refine ⟨k0 + 2, fun k hk => ?_⟩
    obtain ⟨m, rfl⟩ : ∃ m, k = m + 2 := ⟨k - 2, by omega⟩
    show quilllaw4_PatchShifts.l0 (m + 2) i l a1 a2 a3 a4 l5 a6 = some true
    rw [quilllaw4_PatchShifts.l0]
    by_cases hil : i < l5.length
    · rw [if_pos (by omega), decide_eq_false (by omega), quilllaw4_PatchShifts.j1, if_neg (by simp), h0 m (by omega)]
      rfl
    · rw [if_neg (by omega), quilllaw4_PatchShifts.j1, if_neg (by simp), h0 m (by omega)]
      rfl
  intro d
  induction d with
  | zero => intro i hd hi; exact hdone i (by omega)
  | succ d ih =>
    intro i hd hi
    by_cases hi5 : i < 5
    · have hil : i < l5.length := by omega
      have e1 : rd_T32 l5 (i : Int) = l5[i] := by simp [rd_T32, hil]
      have hw : ∃ t, quilllaw0_Within.f a6 30 = some t := ⟨_, by rw [quilllaw0_Within.f, if_neg (by decide)]⟩
      obtain ⟨t, hw⟩ := hw
      obtain ⟨k0, h0⟩ := ps_inner l5 l a1 a2 a3 a4 a6 i hil hl5 ([a6, t, l5[i].f0, wrap64 (l5[i].f0 - 1), 0, 4000, 4001] : List Int) (by simp) l5[i] (hsz _ (List.getElem_mem _)) e1 (ih (i + 1) (by omega) (by omega)) 7 0 rfl (by simp)
      dsimp only at h0
      refine ⟨k0 + 2, fun k hk => ?_⟩
      obtain ⟨m, rfl⟩ : ∃ m, k = m + 2 := ⟨k - 2, by omega⟩
      show quilllaw4_PatchShifts.l0 (m + 2) i l a1 a2 a3 a4 l5 a6 = some true
      rw [quilllaw4_PatchShifts.l0, if_pos (Int.ofNat_lt.2 hil), decide_eq_true (show (i : Int) < 5 from by omega), quilllaw4_PatchShifts.j1, if_pos rfl, hw, Option.bind_some, if_pos (Int.natCast_nonneg i), if_pos (Int.ofNat_lt.2 hil), e1]
      exact h0 m (Nat.le_of_add_le_add_right hk)
    · exact hdone i (by omega)
theorem PatchShifts_pure (l : List ByteArray) (hsz : ∀ s ∈ l, s.size ≤ 140737488355327) (hl : l.length ≤ 140737488355327) (a1 a2 a3 a4 a6 : Int) (l5 : List S32) (hsz5 : ∀ s ∈ l5, s.f2.size ≤ 140737488355327) (hl5 : l5.length ≤ 140737488355327) :
    ∃ k, quilllaw4_PatchShifts.f k l a1 a2 a3 a4 l5 a6 = some true := by
  obtain ⟨t, ⟨k0, h0⟩, ht⟩ := heavy4 l hsz hl a1 a2 a3 a4 a6 l5 hsz5 hl5
  cases t with
  | true => exact ⟨k0, by rw [quilllaw4_PatchShifts.f, show quilllaw4_Heavy.f k0 l a1 a2 a3 a4 l5 a6 = some true from h0 k0 (Nat.le_refl _)]; rfl⟩
  | false =>
    obtain ⟨h1, h2, h3, h4⟩ := ht rfl
    obtain ⟨k1, h1⟩ := ps_outer l5 h1 h2 l a1 a2 a3 a4 a6 l5.length 0 rfl (by omega)
    refine ⟨k0 + k1, ?_⟩
    rw [quilllaw4_PatchShifts.f, show quilllaw4_Heavy.f (k0 + k1) l a1 a2 a3 a4 l5 a6 = some false from h0 _ (by omega), Option.bind_some, if_neg (by simp)]
    exact h1 _ (by omega)
end Go.Proofs.YtfiapekpeiapbaaDoor.Pz
