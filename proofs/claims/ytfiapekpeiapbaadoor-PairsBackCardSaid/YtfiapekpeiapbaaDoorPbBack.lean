import Derived.Test.YtfiapekpeiapbaaDoorPbHv
import Derived.Test.YtfiapekpeiapbaaDoorMates
/-! PairsBack, in plain Lean. -/
namespace Go.Proofs.YtfiapekpeiapbaaDoor.PB
open Go.RowKit Go.Proofs.YtfiapekpeiapbaaDoor.Q Go.Proofs.YtfiapekpeiapbaaDoor.F Go.Lib
open Go.Proofs.YtfiapekpeiapbaaDoorW.PrintWords Go.Proofs.YtfiapekpeiapbaaDoorW.PrintLast Go.Proofs.YtfiapekpeiapbaaDoorW.PrintMore

theorem heavy10 (xs : List ByteArray) (hsz : ∀ s ∈ xs, s.size ≤ 140737488355327) (hl : xs.length ≤ 140737488355327) (a b c d e f g : Int) :
    ∃ t, Evt (fun k => quilllaw10_Heavy.f k xs a b c d e f g) t ∧ (t = false → (∀ s ∈ xs, s.size ≤ 6000) ∧ xs.length ≤ 6000) := by
  obtain ⟨t, he, ht⟩ := heavy1 xs hsz hl a b c d
  exact ⟨t, Evt.same (Evt.bind (g := fun _ t => some t) he (Evt.const rfl)) (fun k => rfl), ht⟩
theorem wakes_f : quilllaw14_wakes.f = some true := by decide +kernel
section
variable (l : List ByteArray) (b1 b2 b3 b4 b5 b6 b7 : Int)
theorem pb_inner (i : Nat) (hi : i ≤ 5) (s : ByteArray) (hmay : mayB s = true) (hlen : (rs s).length ≤ 300) (hout : Evt (fun k => quilllaw14_PairsBack.l0 k ((i + 1 : Nat) : Int) l b1 b2 b3 b4 b5 b6 b7) true) :
    ∀ (d j : Nat), (rs s).length - j = d → j ≤ (rs s).length → Evt (fun k => quilllaw14_PairsBack.l1 k i s (rs s) j l b1 b2 b3 b4 b5 b6 b7) true := by
  intro d
  induction d with
  | zero =>
    intro j hd hj
    have hw : wrap64 ((i : Int) + 1) = ((i + 1 : Nat) : Int) := (w64 (by omega) (by omega)).trans (by omega)
    exact Evt.step hout (fun k => by rw [quilllaw14_PairsBack.l1, if_neg (by omega), hw])
  | succ d ih =>
    intro j hd hj
    have hlt : j < (rs s).length := by omega
    have hw : wrap64 ((j : Int) + 1) = ((j + 1 : Nat) : Int) := (w64 (by omega) (by omega)).trans (by omega)
    have hnext := ih (j + 1) (by omega) (by omega)
    have hr := mateF_range (rs s) (j : Int)
    have hmo : ∀ a : Nat, a < (rs s).length → pairs_Mate.f s a = some (if mateF (rs s) a ≥ 0 then (mateF (rs s) a, 0) else (0, 6)) := fun a ha => by
      unfold pairs_Mate.f mateOf
      rw [if_pos hmay, if_pos ⟨by omega, by omega⟩]
    have hmj := hmo j hlt
    rcases hr with hr | hr
    · rw [hr, if_neg (by decide)] at hmj
      exact Evt.step hnext (fun k => by rw [quilllaw14_PairsBack.l1, if_pos (by omega), hmj, Option.bind_some, quilllaw14_num.f, Option.bind_some, if_neg (by decide), hw])
    · obtain ⟨m, hm⟩ : ∃ m : Nat, mateF (rs s) j = m := ⟨(mateF (rs s) j).toNat, by omega⟩
      rw [hm] at hr
      have hml : m < (rs s).length := by omega
      rw [hm, if_pos (by omega)] at hmj
      have hmm := hmo m hml
      have hmid : wrap64 (Int.tdiv (wrap64 ((j : Int) + (m : Int))) 2) = (((j + m) / 2 : Nat) : Int) := by
        rw [w64 (n := (j : Int) + (m : Int)) (by omega) (by omega), Int.tdiv_eq_ediv_of_nonneg (by omega)]
        exact (w64 (by omega) (by omega)).trans (by omega)
      obtain ⟨is_, hp⟩ := mate_pair hlt hm
      obtain ⟨lo, hi', hpr, hlo, hne, hback⟩ : ∃ lo hi' : Nat, Pr (rs s) is_ lo hi' ∧ ((lo = j ∧ hi' = m) ∨ (lo = m ∧ hi' = j)) ∧ m ≠ j ∧ mateF (rs s) m = j := by
        rcases hp with hp | hp
        · exact ⟨j, m, hp, .inl ⟨rfl, rfl⟩, fun e => by have := hp.1; omega, (pair_mate hp).2⟩
        · exact ⟨m, j, hp, .inr ⟨rfl, rfl⟩, fun e => by have := hp.1; omega, (pair_mate hp).1⟩
      rw [hback, if_pos (by omega)] at hmm
      have hlh := hpr.1
      have hhl := hpr.2.1
      have hmn : mn (j : Int) (m : Int) = (lo : Int) := by unfold mn; split <;> omega
      have hmx : mx (j : Int) (m : Int) = (hi' : Int) := by unfold mx; split <;> omega
      obtain ⟨x, y, hxy, x1, x2, y1, y2⟩ := ar_pair hpr (((j + m) / 2 : Nat) : Int) (by omega) ((rs s).length + 2) ((j + m) / 2) (by omega) (by omega) (by omega)
      have hkey := open_key (wy_kind hpr.2.2.1 (by decide))
      have hwk : wrap64 (rd (rs s) (lo : Int)) = rd (rs s) (lo : Int) := w64 (by omega) (by omega)
      have har : pairs_Around.f s (((j + m) / 2 : Nat) : Int) (rd (rs s) (lo : Int)) 1 = some (x, y, 0) := by
        unfold pairs_Around.f arOf
        rw [if_pos ⟨hmay, hkey, by decide, by decide⟩, if_pos ⟨by omega, by omega⟩, arR, show min (((j + m) / 2 : Nat) : Int) (((rs s).length : Int) - 1) = (((j + m) / 2 : Nat) : Int) by omega, hxy]
      refine Evt.step (Evt.step hnext (fun k => ?_) : Evt (fun k => quilllaw14_PairsBack.j4 k i s (rs s) j m false l b1 b2 b3 b4 b5 b6 b7) true) (fun k => ?_)
      · rw [quilllaw14_PairsBack.j4, if_neg (by decide), hmn, if_pos (by omega), if_pos (by omega), hmid, hwk, har, Option.bind_some, quilllaw14_num.f, Option.bind_some, if_pos rfl, if_neg (by dsimp only; omega), if_neg (by dsimp only; omega), if_neg (by dsimp only; omega), if_neg (by dsimp only; omega), hw]
      · rw [quilllaw14_PairsBack.l1, if_pos (by omega), hmj, Option.bind_some, quilllaw14_num.f, Option.bind_some, if_pos rfl]
        dsimp only
        rw [hmm, Option.bind_some, quilllaw14_num.f, Option.bind_some, if_pos rfl, if_pos rfl, show ((m : Int) == (j : Int)) = false from beq_eq_false_iff_ne.2 (by omega)]
theorem pb_outer (hsz : ∀ s ∈ l, s.size ≤ 6000) (hl : l.length ≤ 6000) : ∀ (d i : Nat), l.length - i = d → i ≤ 5 → Evt (fun k => quilllaw14_PairsBack.l0 k i l b1 b2 b3 b4 b5 b6 b7) true := by
  have hdone : ∀ i : Nat, i ≤ 5 → ¬ (i < l.length ∧ i < 5) → Evt (fun k => quilllaw14_PairsBack.l0 k i l b1 b2 b3 b4 b5 b6 b7) true := by
    intro i _ hi
    refine ⟨2, fun k hk => ?_⟩
    obtain ⟨m, rfl⟩ : ∃ m, k = m + 2 := ⟨k - 2, by omega⟩
    show quilllaw14_PairsBack.l0 (m + 2) i l b1 b2 b3 b4 b5 b6 b7 = some true
    rw [quilllaw14_PairsBack.l0]
    by_cases hil : i < l.length
    · rw [if_pos (by omega), decide_eq_false (by omega), quilllaw14_PairsBack.j1, if_neg (by decide), wakes_f]
      rfl
    · rw [if_neg (by omega), quilllaw14_PairsBack.j1, if_neg (by decide), wakes_f]
      rfl
  intro d
  induction d with
  | zero => intro i hd hi; exact hdone i hi (by omega)
  | succ d ih =>
    intro i hd hi
    by_cases hi5 : i < 5
    · have hil : i < l.length := by omega
      have hz := hsz l[i] (List.getElem_mem _)
      have e1 : rdOf ByteArray.empty l (i : Int) = l[i] := by simp [rdOf, hil]
      generalize l[i] = s at hz e1
      have hout := ih (i + 1) (by omega) (by omega)
      have hw : wrap64 ((i : Int) + 1) = ((i + 1 : Nat) : Int) := (w64 (by omega) (by omega)).trans (by omega)
      obtain ⟨k1, h1⟩ := refMay s (by omega)
      dsimp only at h1
      have hcv := cv_rs (s := s) (by omega)
      by_cases hgo : mayB s = true ∧ (rs s).length ≤ 300
      · obtain ⟨k0, h0⟩ := pb_inner l b1 b2 b3 b4 b5 b6 b7 i (by omega) s hgo.1 hgo.2 hout (rs s).length 0 rfl (by omega)
        dsimp only at h0
        refine ⟨k0 + k1 + 3, fun k hk => ?_⟩
        obtain ⟨m, rfl⟩ : ∃ m, k = m + 3 := ⟨k - 3, by omega⟩
        have n0 := h0 m (by omega)
        have n1 := h1 (m + 1) (by omega)
        show quilllaw14_PairsBack.l0 (m + 3) i l b1 b2 b3 b4 b5 b6 b7 = some true
        rw [quilllaw14_PairsBack.l0, if_pos (by omega), decide_eq_true (by omega), quilllaw14_PairsBack.j1, if_pos rfl, if_pos (by omega), if_pos (by omega), e1, hcv, Option.bind_some, n1, Option.bind_some, if_pos hgo.1, decide_eq_false (by omega), quilllaw14_PairsBack.j2, if_neg (by decide)]
        exact n0
      · obtain ⟨k0, h0⟩ := hout
        dsimp only at h0
        refine ⟨k0 + k1 + 3, fun k hk => ?_⟩
        obtain ⟨m, rfl⟩ : ∃ m, k = m + 3 := ⟨k - 3, by omega⟩
        have n0 := h0 m (by omega)
        have n1 := h1 (m + 1) (by omega)
        show quilllaw14_PairsBack.l0 (m + 3) i l b1 b2 b3 b4 b5 b6 b7 = some true
        rw [quilllaw14_PairsBack.l0, if_pos (by omega), decide_eq_true (by omega), quilllaw14_PairsBack.j1, if_pos rfl, if_pos (by omega), if_pos (by omega), e1, hcv, Option.bind_some, n1, Option.bind_some]
        by_cases hmay : mayB s = true
        · have hn : ¬ (rs s).length ≤ 300 := fun h => hgo ⟨hmay, h⟩
          have hbig : ((rs s).length : Int) > 300 := by omega
          rw [if_pos hmay, decide_eq_true hbig, quilllaw14_PairsBack.j2, if_pos rfl, hw]
          exact n0
        · rw [if_neg hmay, quilllaw14_PairsBack.j2, if_pos rfl, hw]
          exact n0
    · exact hdone i hi (by omega)
end
theorem PairsBack_pure (l : List ByteArray) (hsz : ∀ s ∈ l, s.size ≤ 140737488355327) (hl : l.length ≤ 140737488355327) (b1 b2 b3 b4 b5 b6 b7 : Int) : ∃ k, quilllaw14_PairsBack.f k l b1 b2 b3 b4 b5 b6 b7 = some true := by
  obtain ⟨t, ⟨k0, h0⟩, ht⟩ := heavy10 l hsz hl b1 b2 b3 b4 b5 b6 b7
  cases t with
  | true => exact ⟨k0, by rw [quilllaw14_PairsBack.f, show quilllaw10_Heavy.f k0 l b1 b2 b3 b4 b5 b6 b7 = some true from h0 k0 (Nat.le_refl _)]; rfl⟩
  | false =>
    obtain ⟨h3, h4⟩ := ht rfl
    obtain ⟨k1, h1⟩ := pb_outer l b1 b2 b3 b4 b5 b6 b7 h3 h4 l.length 0 rfl (by omega)
    refine ⟨k0 + k1, ?_⟩
    rw [quilllaw14_PairsBack.f, show quilllaw10_Heavy.f (k0 + k1) l b1 b2 b3 b4 b5 b6 b7 = some false from h0 _ (by omega), Option.bind_some, if_neg (by decide)]
    exact h1 _ (by omega)
end Go.Proofs.YtfiapekpeiapbaaDoor.PB
