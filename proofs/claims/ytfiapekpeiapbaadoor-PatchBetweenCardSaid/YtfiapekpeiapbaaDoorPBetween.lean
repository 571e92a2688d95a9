import Derived.Test.YtfiapekpeiapbaaDoorPPure
/-! PatchBetween, in plain Lean. -/
namespace Go.Proofs.YtfiapekpeiapbaaDoor.Pp
open Go.RowKit Go.Proofs.YtfiapekpeiapbaaDoor.Q Go.Proofs.YtfiapekpeiapbaaDoor.F Go.Lib
open Go.Proofs.YtfiapekpeiapbaaDoorW.PrintWords Go.Proofs.YtfiapekpeiapbaaDoorW.PrintLast Go.Proofs.YtfiapekpeiapbaaDoorW.PrintMore
set_option maxHeartbeats 8000000 in
theorem pb_pair (l : List ByteArray) (a1 a2 a3 a4 a6 : Int) (l5 : List S32) (i j : Nat) (hi : i < l.length) (hjl : j < l.length) (hj5 : j < 5) (s t : ByteArray) (z1 : s.size ≤ 6000) (z2 : t.size ≤ 6000)
    (e1 : rdOf ByteArray.empty l (i : Int) = s) (e2 : rdOf ByteArray.empty l (j : Int) = t) (hnext : Evt (fun k => quilllaw4_PatchBetween.l1 k i ((j + 1 : Nat) : Int) l a1 a2 a3 a4 l5 a6) true) :
    Evt (fun k => quilllaw4_PatchBetween.l1 k i j l a1 a2 a3 a4 l5 a6) true := by
  obtain ⟨k0, h0⟩ := hnext
  obtain ⟨k1, h1⟩ := between_f (a := s) (b := t) (by omega) (by omega)
  obtain ⟨k2, h2⟩ := refMay s (by omega)
  obtain ⟨k3, h3⟩ := refMay t (by omega)
  obtain ⟨k4, h4⟩ := ref_f (a := s) (b := t) (by omega) (by omega)
  dsimp only at h0 h1 h2 h3 h4
  refine ⟨k0 + k1 + k2 + k3 + k4 + 6, fun k hk => ?_⟩
  obtain ⟨m, rfl⟩ : ∃ m, k = m + 6 := ⟨k - 6, by omega⟩
  show quilllaw4_PatchBetween.l1 (m + 6) i j l a1 a2 a3 a4 l5 a6 = some true
  rw [quilllaw4_PatchBetween.l1, if_pos (by omega), decide_eq_true (by omega), quilllaw4_PatchBetween.j3, if_pos rfl, if_pos (by omega), if_pos (by omega), if_pos (by omega), if_pos (by omega), e1, e2,
    h1 _ (by omega), Option.bind_some, h2 _ (by omega), Option.bind_some]
  by_cases m1 : mayB s = true
  · rw [if_pos m1, h3 _ (by omega), Option.bind_some]
    by_cases m2 : mayB t = true
    · have hb : betwF s t = ((btw (rs s) (rs t)).1, (btw (rs s) (rs t)).2.1, (btw (rs s) (rs t)).2.2, 0) := by unfold betwF; rw [if_pos ⟨m1, m2⟩]
      rw [hb, quilllaw4_PatchBetween.j4, if_pos m2, h4 _ (by omega), Option.bind_some, quilllaw4_PatchBetween.j5, num_f, Option.bind_some, if_pos rfl, quilllaw4_PatchBetween.j6,
        if_neg (by simp), if_pos rfl, apply_f m1 m2]
      simp only [Option.bind_some, num_f, ↓reduceIte]
      rw [show wrap64 ((j : Int) + 1) = ((j + 1 : Nat) : Int) from by rw [w64] <;> omega]
      exact h0 _ (by omega)
    · have m2' : mayB t = false := by simpa using m2
      have hb : betwF s t = (0, 0, ⟨#[]⟩, 1) := by unfold betwF; rw [if_neg (fun h => m2 h.2)]
      rw [hb, m2', quilllaw4_PatchBetween.j4, if_neg (by simp), quilllaw4_PatchBetween.j5, num_f, Option.bind_some, if_pos rfl, quilllaw4_PatchBetween.j6, if_neg (by simp), if_neg (by simp), show wrap64 ((j : Int) + 1) = ((j + 1 : Nat) : Int) from by rw [w64] <;> omega]
      exact h0 _ (by omega)
  · have m1' : mayB s = false := by simpa using m1
    have hb : betwF s t = (0, 0, ⟨#[]⟩, 1) := by unfold betwF; rw [if_neg (fun h => m1 h.1)]
    rw [if_neg m1, hb, quilllaw4_PatchBetween.j4, if_neg (by simp), quilllaw4_PatchBetween.j5, num_f, Option.bind_some, if_pos rfl, quilllaw4_PatchBetween.j6, if_neg (by simp), if_neg (by simp), show wrap64 ((j : Int) + 1) = ((j + 1 : Nat) : Int) from by rw [w64] <;> omega]
    exact h0 _ (by omega)
set_option maxHeartbeats 8000000 in
theorem pb_inner (l : List ByteArray) (hsz : ∀ s ∈ l, s.size ≤ 6000) (hl : l.length ≤ 6000) (a1 a2 a3 a4 a6 : Int) (l5 : List S32) (i : Nat) (hi : i < l.length) (hi5 : i < 5)
    (hout : Evt (fun k => quilllaw4_PatchBetween.l0 k ((i + 1 : Nat) : Int) l a1 a2 a3 a4 l5 a6) true) : ∀ (d j : Nat), l.length - j = d → j ≤ l.length → Evt (fun k => quilllaw4_PatchBetween.l1 k i j l a1 a2 a3 a4 l5 a6) true := by
  have hdone : ∀ j : Nat, ¬ (j < l.length ∧ j < 5) → Evt (fun k => quilllaw4_PatchBetween.l1 k i j l a1 a2 a3 a4 l5 a6) true := by
    intro j hj
    obtain ⟨k0, h0⟩ := hout
    dsimp only at h0
    refine ⟨k0 + 2, fun k hk => ?_⟩
    obtain ⟨m, rfl⟩ : ∃ m, k = m + 2 := ⟨k - 2, by omega⟩
    show quilllaw4_PatchBetween.l1 (m + 2) i j l a1 a2 a3 a4 l5 a6 = some true
    rw [quilllaw4_PatchBetween.l1]
    by_cases hjl : j < l.length
    · rw [if_pos (by omega), decide_eq_false (by omega), quilllaw4_PatchBetween.j3, if_neg (by simp), show wrap64 ((i : Int) + 1) = ((i + 1 : Nat) : Int) from by rw [w64] <;> omega]
      exact h0 m (by omega)
    · rw [if_neg (by omega), quilllaw4_PatchBetween.j3, if_neg (by simp), show wrap64 ((i : Int) + 1) = ((i + 1 : Nat) : Int) from by rw [w64] <;> omega]
      exact h0 m (by omega)
  intro d
  induction d with
  | zero => intro j hd hj; exact hdone j (by omega)
  | succ d ih =>
    intro j hd hj
    by_cases hj5 : j < 5
    · have hjl : j < l.length := by omega
      have e1 : rdOf ByteArray.empty l (i : Int) = l[i] := by simp [rdOf, hi]
      have e2 : rdOf ByteArray.empty l (j : Int) = l[j] := by simp [rdOf, hjl]
      have z1 := hsz l[i] (List.getElem_mem _)
      have z2 := hsz l[j] (List.getElem_mem _)
      exact pb_pair l a1 a2 a3 a4 a6 l5 i j hi hjl hj5 l[i] l[j] z1 z2 e1 e2 (ih (j + 1) (by omega) (by omega))
    · exact hdone j (by omega)
set_option maxHeartbeats 8000000 in
theorem pb_outer (l : List ByteArray) (hsz : ∀ s ∈ l, s.size ≤ 6000) (hl : l.length ≤ 6000) (a1 a2 a3 a4 a6 : Int) (l5 : List S32) : ∀ (d i : Nat), l.length - i = d → i ≤ l.length → Evt (fun k => quilllaw4_PatchBetween.l0 k i l a1 a2 a3 a4 l5 a6) true := by
  have hdone : ∀ i : Nat, ¬ (i < l.length ∧ i < 5) → Evt (fun k => quilllaw4_PatchBetween.l0 k i l a1 a2 a3 a4 l5 a6) true := by
    intro i hi
    obtain ⟨k0, h0⟩ := wakes_f
    dsimp only at h0
    refine ⟨k0 + 2, fun k hk => ?_⟩
    obtain ⟨m, rfl⟩ : ∃ m, k = m + 2 := ⟨k - 2, by omega⟩
    show quilllaw4_PatchBetween.l0 (m + 2) i l a1 a2 a3 a4 l5 a6 = some true
    rw [quilllaw4_PatchBetween.l0]
    by_cases hil : i < l.length
    · rw [if_pos (by omega), decide_eq_false (by omega), quilllaw4_PatchBetween.j1, if_neg (by simp), h0 m (by omega)]
      rfl
    · rw [if_neg (by omega), quilllaw4_PatchBetween.j1, if_neg (by simp), h0 m (by omega)]
      rfl
  intro d
  induction d with
  | zero => intro i hd hi; exact hdone i (by omega)
  | succ d ih =>
    intro i hd hi
    by_cases hi5 : i < 5
    · obtain ⟨k0, h0⟩ := pb_inner l hsz hl a1 a2 a3 a4 a6 l5 i (by omega) hi5 (ih (i + 1) (by omega) (by omega)) l.length 0 rfl (by omega)
      refine ⟨k0 + 2, fun k hk => ?_⟩
      obtain ⟨m, rfl⟩ : ∃ m, k = m + 2 := ⟨k - 2, by omega⟩
      show quilllaw4_PatchBetween.l0 (m + 2) i l a1 a2 a3 a4 l5 a6 = some true
      rw [quilllaw4_PatchBetween.l0, if_pos (by omega), decide_eq_true (by omega), quilllaw4_PatchBetween.j1, if_pos rfl]
      exact h0 m (by omega)
    · exact hdone i (by omega)
theorem PatchBetween_pure (l : List ByteArray) (hsz : ∀ s ∈ l, s.size ≤ 140737488355327) (hl : l.length ≤ 140737488355327) (a1 a2 a3 a4 a6 : Int) (l5 : List S32) (hsz5 : ∀ s ∈ l5, s.f2.size ≤ 140737488355327) (hl5 : l5.length ≤ 140737488355327) :
    ∃ k, quilllaw4_PatchBetween.f k l a1 a2 a3 a4 l5 a6 = some true := by
  obtain ⟨t, ⟨k0, h0⟩, ht⟩ := heavy4 l hsz hl a1 a2 a3 a4 a6 l5 hsz5 hl5
  cases t with
  | true => exact ⟨k0, by rw [quilllaw4_PatchBetween.f, show quilllaw4_Heavy.f k0 l a1 a2 a3 a4 l5 a6 = some true from h0 k0 (Nat.le_refl _)]; rfl⟩
  | false =>
    obtain ⟨_, _, h3, h4⟩ := ht rfl
    obtain ⟨k1, h1⟩ := pb_outer l h3 h4 a1 a2 a3 a4 a6 l5 l.length 0 rfl (by omega)
    refine ⟨k0 + k1, ?_⟩
    rw [quilllaw4_PatchBetween.f, show quilllaw4_Heavy.f (k0 + k1) l a1 a2 a3 a4 l5 a6 = some false from h0 _ (by omega), Option.bind_some, if_neg (by simp)]
    exact h1 _ (by omega)
end Go.Proofs.YtfiapekpeiapbaaDoor.Pp
