import Derived.Test.YtfiapekpeiapbaaDoorPeHv
import Derived.Test.YtfiapekpeiapbaaDoorParaL
import Derived.Test.YtfiapekpeiapbaaDoorPex2
/-! ParasEnd, in plain Lean. -/
namespace Go.Proofs.YtfiapekpeiapbaaDoor.Pe
open Go.RowKit Go.Proofs.YtfiapekpeiapbaaDoor.Q Go.Proofs.YtfiapekpeiapbaaDoor.F Go.Lib
open Go.Proofs.YtfiapekpeiapbaaDoorW.PrintWords Go.Proofs.YtfiapekpeiapbaaDoorW.PrintLast Go.Proofs.YtfiapekpeiapbaaDoorW.PrintMore

theorem heavy10 (xs : List ByteArray) (hsz : ∀ s ∈ xs, s.size ≤ 140737488355327) (hl : xs.length ≤ 140737488355327) (a b c d e f g : Int) :
    ∃ t, Evt (fun k => quilllaw10_Heavy.f k xs a b c d e f g) t ∧ (t = false → (∀ s ∈ xs, s.size ≤ 6000) ∧ xs.length ≤ 6000) := by
  obtain ⟨t, he, ht⟩ := heavy1 xs hsz hl a b c d
  exact ⟨t, Evt.same (Evt.bind (g := fun _ t => some t) he (Evt.const rfl)) (fun k => rfl), ht⟩
theorem wakes_f : quilllaw13_wakes.f = some true := by decide +kernel
section
variable (l : List ByteArray) (b1 b2 b3 b4 b5 b6 b7 : Int)
theorem pe_up (i : Nat) (hi : i ≤ 5) (hil : i < l.length) (s : ByteArray) (hs : rdOf ByteArray.empty l (i : Int) = s) (hm : mayB s = true) (hl : (rs s).length ≤ 600) (hout : Evt (fun k => quilllaw13_ParasEnd.l0 k ((i + 1 : Nat) : Int) l b1 b2 b3 b4 b5 b6 b7) true) :
    ∀ (d : Nat) (a n : Int), a = d → 0 ≤ n → a + n ≤ (rs s).length → Evt (fun k => quilllaw13_ParasEnd.l2 k i (rs s) a n l b1 b2 b3 b4 b5 b6 b7) true := by
  have hw : wrap64 ((i : Int) + 1) = ((i + 1 : Nat) : Int) := (w64 (by omega) (by omega)).trans (by omega)
  intro d
  induction d using Nat.strongRecOn with
  | _ d ih =>
    intro a n ha hn han
    have hwn : wrap64 (n + 1) = n + 1 := w64 (by omega) (by omega)
    have hmv := para_one s a 123 hm (.inl rfl) (by omega) (by omega)
    rw [show wayF (rs s) 123 a = upF (rs s) a from rfl] at hmv
    by_cases hz : a = 0
    · subst hz
      rw [up_zero, if_pos rfl] at hmv
      exact Evt.step hout (fun k => by rw [quilllaw13_ParasEnd.l2, if_pos (by omega), if_pos (by omega), if_pos (by omega), hs, hmv, Option.bind_some, quilllaw13_num.f, Option.bind_some, if_pos rfl, if_pos rfl, hw])
    · obtain ⟨u0, u1⟩ := up_lt (rs s) a (by omega)
      generalize upF (rs s) a = x at *
      rw [if_neg (by omega)] at hmv
      obtain ⟨x', rfl⟩ : ∃ x' : Nat, x = x' := Int.eq_ofNat_of_zero_le u0
      exact Evt.step (ih x' (by omega) x' (n + 1) rfl (by omega) (by omega)) (fun k => by rw [quilllaw13_ParasEnd.l2, if_pos (by omega), if_pos (by omega), if_pos (by omega), hs, hmv, Option.bind_some, quilllaw13_num.f, Option.bind_some, if_neg (show ¬ (0 : Int) = 6 by decide), Option.bind_some, if_pos rfl, if_neg (by dsimp only; omega), hwn])
theorem pe_down (i : Nat) (hi : i ≤ 5) (hil : i < l.length) (s : ByteArray) (hs : rdOf ByteArray.empty l (i : Int) = s) (hm : mayB s = true) (hl : (rs s).length ≤ 600) (hout : Evt (fun k => quilllaw13_ParasEnd.l0 k ((i + 1 : Nat) : Int) l b1 b2 b3 b4 b5 b6 b7) true) :
    ∀ (d : Nat) (a n : Int), (rs s).length - a = d → 0 ≤ n → n ≤ a → a ≤ (rs s).length → Evt (fun k => quilllaw13_ParasEnd.l1 k i (rs s) a n l b1 b2 b3 b4 b5 b6 b7) true := by
  intro d
  induction d using Nat.strongRecOn with
  | _ d ih =>
    intro a n ha hn han hal
    have hwn : wrap64 (n + 1) = n + 1 := w64 (by omega) (by omega)
    have hmv := para_one s a 125 hm (.inr rfl) (by omega) (by omega)
    rw [show wayF (rs s) 125 a = downF (rs s) a from rfl] at hmv
    by_cases hz : a = (rs s).length
    · subst hz
      rw [down_end, if_pos rfl] at hmv
      have h2 := pe_up l b1 b2 b3 b4 b5 b6 b7 i hi hil s hs hm hl hout (rs s).length (rs s).length 0 rfl (by omega) (by omega)
      refine Evt.step (Evt.step h2 (fun k => ?_) : Evt (fun k => quilllaw13_ParasEnd.j4 k i (rs s) (rs s).length l b1 b2 b3 b4 b5 b6 b7) true) (fun k => ?_)
      · rw [quilllaw13_ParasEnd.j4, if_pos rfl]
      · rw [quilllaw13_ParasEnd.l1, if_pos (by omega), if_pos (by omega), if_pos (by omega), hs, hmv, Option.bind_some, quilllaw13_num.f, Option.bind_some, if_pos rfl]
    · obtain ⟨u0, u1, u2⟩ := down_gt (rs s) a (by omega) (by omega)
      generalize downF (rs s) a = x at *
      rw [if_neg (by omega)] at hmv
      refine Evt.step (ih ((rs s).length - x).toNat (by omega) x (n + 1) (by omega) (by omega) (by omega) u1) (fun k => ?_)
      rw [quilllaw13_ParasEnd.l1, if_pos (by omega), if_pos (by omega), if_pos (by omega), hs, hmv, Option.bind_some, quilllaw13_num.f, Option.bind_some, if_neg (show ¬ (0 : Int) = 6 by decide), Option.bind_some, if_pos rfl]
      dsimp only
      rw [if_neg (by omega)]
      have hwx : wrap64 (x - 1) = x - 1 := w64 (by omega) (by omega)
      by_cases hx : x < (rs s).length
      · obtain ⟨e1, e2⟩ := u2 hx
        rw [if_pos hx, if_pos (by omega), if_pos e1, hwx, if_pos (by omega), if_pos (by omega), if_pos e2, hwn]
      · rw [if_neg hx, hwn]
theorem pe_outer (hsz : ∀ s ∈ l, s.size ≤ 6000) (hl : l.length ≤ 6000) : ∀ (d i : Nat), l.length - i = d → i ≤ 5 → Evt (fun k => quilllaw13_ParasEnd.l0 k i l b1 b2 b3 b4 b5 b6 b7) true := by
  have hdone : ∀ i : Nat, i ≤ 5 → ¬ (i < l.length ∧ i < 5) → Evt (fun k => quilllaw13_ParasEnd.l0 k i l b1 b2 b3 b4 b5 b6 b7) true := by
    intro i _ hi
    refine ⟨2, fun k hk => ?_⟩
    obtain ⟨m, rfl⟩ : ∃ m, k = m + 2 := ⟨k - 2, by omega⟩
    show quilllaw13_ParasEnd.l0 (m + 2) i l b1 b2 b3 b4 b5 b6 b7 = some true
    rw [quilllaw13_ParasEnd.l0]
    by_cases hil : i < l.length
    · rw [if_pos (by omega), decide_eq_false (by omega), quilllaw13_ParasEnd.j1, if_neg (by decide), wakes_f]
      rfl
    · rw [if_neg (by omega), quilllaw13_ParasEnd.j1, if_neg (by decide), wakes_f]
      rfl
  intro d
  induction d with
  | zero => intro i hd hi; exact hdone i hi (by omega)
  | succ d ih =>
    intro i hd hi
    by_cases hi5 : i < 5
    · have hil : i < l.length := by omega
      have hz := hsz l[i] (List.getElem_mem _)
      have e1 : rdOf ByteArray.empty l (i : Int) = l[i] := by simp [rdOf, hil]
      generalize l[i] = s at hz e1
      have hout := ih (i + 1) (by omega) (by omega)
      have hw : wrap64 ((i : Int) + 1) = ((i + 1 : Nat) : Int) := (w64 (by omega) (by omega)).trans (by omega)
      obtain ⟨k1, h1⟩ := refMay s (by omega)
      dsimp only at h1
      have hcv := cv_rs (s := s) (by omega)
      by_cases hgo : mayB s = true ∧ (rs s).length ≤ 600
      · obtain ⟨k0, h0⟩ := pe_down l b1 b2 b3 b4 b5 b6 b7 i (by omega) hil s e1 hgo.1 hgo.2 hout (rs s).length 0 0 (by omega) (by omega) (by omega) (by omega)
        dsimp only at h0
        refine ⟨k0 + k1 + 3, fun k hk => ?_⟩
        obtain ⟨m, rfl⟩ : ∃ m, k = m + 3 := ⟨k - 3, by omega⟩
        have n0 := h0 m (by omega)
        have n1 := h1 (m + 1) (by omega)
        show quilllaw13_ParasEnd.l0 (m + 3) i l b1 b2 b3 b4 b5 b6 b7 = some true
        rw [quilllaw13_ParasEnd.l0, if_pos (by omega), decide_eq_true (by omega), quilllaw13_ParasEnd.j1, if_pos rfl, if_pos (by omega), if_pos (by omega), e1, hcv, Option.bind_some, n1, Option.bind_some, if_pos hgo.1, decide_eq_false (by omega), quilllaw13_ParasEnd.j2, if_neg (by decide)]
        exact n0
      · obtain ⟨k0, h0⟩ := hout
        dsimp only at h0
        refine ⟨k0 + k1 + 3, fun k hk => ?_⟩
        obtain ⟨m, rfl⟩ : ∃ m, k = m + 3 := ⟨k - 3, by omega⟩
        have n0 := h0 m (by omega)
        have n1 := h1 (m + 1) (by omega)
        show quilllaw13_ParasEnd.l0 (m + 3) i l b1 b2 b3 b4 b5 b6 b7 = some true
        rw [quilllaw13_ParasEnd.l0, if_pos (by omega), decide_eq_true (by omega), quilllaw13_ParasEnd.j1, if_pos rfl, if_pos (by omega), if_pos (by omega), e1, hcv, Option.bind_some, n1, Option.bind_some]
        by_cases hmay : mayB s = true
        · have hn : ¬ (rs s).length ≤ 600 := fun h => hgo ⟨hmay, h⟩
          have hbig : ((rs s).length : Int) > 600 := by omega
          rw [if_pos hmay, decide_eq_true hbig, quilllaw13_ParasEnd.j2, if_pos rfl, hw]
          exact n0
        · rw [if_neg hmay, quilllaw13_ParasEnd.j2, if_pos rfl, hw]
          exact n0
    · exact hdone i hi (by omega)
end
theorem ParasEnd_pure (l : List ByteArray) (hsz : ∀ s ∈ l, s.size ≤ 140737488355327) (hl : l.length ≤ 140737488355327) (b1 b2 b3 b4 b5 b6 b7 : Int) : ∃ k, quilllaw13_ParasEnd.f k l b1 b2 b3 b4 b5 b6 b7 = some true := by
  obtain ⟨t, ⟨k0, h0⟩, ht⟩ := heavy10 l hsz hl b1 b2 b3 b4 b5 b6 b7
  cases t with
  | true => exact ⟨k0, by rw [quilllaw13_ParasEnd.f, show quilllaw10_Heavy.f k0 l b1 b2 b3 b4 b5 b6 b7 = some true from h0 k0 (Nat.le_refl _)]; rfl⟩
  | false =>
    obtain ⟨h3, h4⟩ := ht rfl
    obtain ⟨k1, h1⟩ := pe_outer l b1 b2 b3 b4 b5 b6 b7 h3 h4 l.length 0 rfl (by omega)
    refine ⟨k0 + k1, ?_⟩
    rw [quilllaw13_ParasEnd.f, show quilllaw10_Heavy.f (k0 + k1) l b1 b2 b3 b4 b5 b6 b7 = some false from h0 _ (by omega), Option.bind_some, if_neg (by decide)]
    exact h1 _ (by omega)
end Go.Proofs.YtfiapekpeiapbaaDoor.Pe
