import Derived.Test.YtfiapekpeiapbaaDoorPmPlain
import Derived.Test.YtfiapekpeiapbaaDoorPMx3
/-! PairsMates, in plain Lean: the law. -/
namespace Go.Proofs.YtfiapekpeiapbaaDoor.PM
open Go.RowKit Go.Proofs.YtfiapekpeiapbaaDoor.Q Go.Proofs.YtfiapekpeiapbaaDoor.F Go.Lib
open Go.Proofs.YtfiapekpeiapbaaDoorW.PrintWords Go.Proofs.YtfiapekpeiapbaaDoorW.PrintLast Go.Proofs.YtfiapekpeiapbaaDoorW.PrintMore

theorem heavy10 (xs : List ByteArray) (hsz : ∀ s ∈ xs, s.size ≤ 140737488355327) (hl : xs.length ≤ 140737488355327) (a b c d e f g : Int) :
    ∃ t, Evt (fun k => quilllaw10_Heavy.f k xs a b c d e f g) t ∧ (t = false → (∀ s ∈ xs, s.size ≤ 6000) ∧ xs.length ≤ 6000) := by
  obtain ⟨t, he, ht⟩ := heavy1 xs hsz hl a b c d
  exact ⟨t, Evt.same (Evt.bind (g := fun _ t => some t) he (Evt.const rfl)) (fun k => rfl), ht⟩
theorem wakes_f : quilllaw14_wakes.f = some true := by decide +kernel
section
variable (l : List ByteArray) (b1 b2 b3 b4 b5 b6 b7 : Int)
theorem kinds_loop (i : Int) (s : ByteArray) (a : Int) (ha : -1 ≤ a) (hl : (rs s).length ≤ 4000) (ha2 : a ≤ 4002) (may : Bool) (hmay : may = decide (mayB s = true ∧ 0 ≤ a ∧ a ≤ (rs s).length)) (K : List Int) (hK : K.length = 4)
    (hnext : Evt (fun k => quilllaw14_PairsMates.l1 k i s (rs s) (a + 1) l b1 b2 b3 b4 b5 b6 b7) true) : ∀ (d j : Nat), 4 - j = d → j ≤ 4 →
    Evt (fun k => quilllaw14_PairsMates.l2 k i s (rs s) a may K j l b1 b2 b3 b4 b5 b6 b7) true := by
  have hwa : wrap64 (a + 1) = a + 1 := w64 (by omega) (by omega)
  intro d
  induction d with
  | zero =>
    intro j hd hj
    exact Evt.step hnext (fun k => by rw [quilllaw14_PairsMates.l2, if_neg (by omega), hwa])
  | succ d ih =>
    intro j hd hj
    obtain ⟨kn, hn⟩ := ih (j + 1) (by omega) (by omega)
    dsimp only at hn
    have hwj : wrap64 ((j : Int) + 1) = ((j + 1 : Nat) : Int) := (w64 (by omega) (by omega)).trans (by omega)
    obtain ⟨c, hc, hc1, hc2⟩ : ∃ c : Int, wrap64 (1 + Int.tmod (wrap64 (wrap64 (a + (j : Int)) + 2)) 2) = c ∧ 1 ≤ c ∧ c ≤ 2 := by
      have t1 : 0 ≤ Int.tmod (a + (j : Int) + 2) 2 := Int.tmod_nonneg _ (by omega)
      have t2 : Int.tmod (a + (j : Int) + 2) 2 < 2 := Int.tmod_lt_of_pos _ (by omega)
      refine ⟨1 + Int.tmod (a + (j : Int) + 2) 2, ?_, by omega, by omega⟩
      rw [w64 (n := a + (j : Int)) (by omega) (by omega), w64 (n := a + (j : Int) + 2) (by omega) (by omega)]
      exact w64 (by omega) (by omega)
    obtain ⟨key, hkey⟩ : ∃ key, rd K (j : Int) = key := ⟨_, rfl⟩
    have q0 : (0 : Int) ≤ (j : Int) := by omega
    have q1 : (j : Int) < (K.length : Int) := by omega
    by_cases hm : (mayB s = true ∧ 0 ≤ a ∧ a ≤ (rs s).length) ∧ (key = 40 ∨ key = 91 ∨ key = 123)
    · obtain ⟨hm1, hm2⟩ := hm
      have hmt : may = true := by rw [hmay]; exact decide_eq_true hm1
      obtain ⟨u, v, ⟨k0, h0⟩, he⟩ := around_loop (rs s) hl (fun j hj => pr_rd s hj) key a ((rs s).length + 2) (min a (((rs s).length : Int) - 1)) c (by omega) (by omega) (by omega) (by omega) (by omega)
      dsimp only at h0
      have hmn : mn a (wrap64 (((rs s).length : Int) - 1)) = min a (((rs s).length : Int) - 1) := by
        rw [w64 (by omega) (by omega)]
        unfold mn; split <;> omega
      have har : pairs_Around.f s a key c = some (if u ≥ 0 then (u, v, 0) else (0, 0, 6)) := by
        unfold pairs_Around.f arOf
        rw [if_pos ⟨hm1.1, hm2, by omega, by omega⟩, if_pos hm1.2, arR, he]
      refine ⟨kn + k0 + 2, fun k hk => ?_⟩
      obtain ⟨m, rfl⟩ : ∃ m, k = m + 2 := ⟨k - 2, by omega⟩
      have n0 : quillref12_Around.f m (rs s) a key c = some (u, v) := by rw [quillref12_Around.f, hmn]; exact h0 m (by omega)
      have n1 := hn m (by omega)
      have hj7 : ∀ (A B G : Int), (A, B, G) = (if u ≥ 0 then (u, v, 0) else (0, 0, 6)) → quilllaw14_PairsMates.j7 (m + 1) i s (rs s) a true 1 K j c A B G 0 0 true l b1 b2 b3 b4 b5 b6 b7 = some true := fun A B G hABG => by
        rw [quilllaw14_PairsMates.j7, if_pos rfl, if_pos q0, if_pos q1, hkey, n0, Option.bind_some]
        dsimp only
        by_cases hu : u ≥ 0
        · rw [if_pos hu] at hABG ⊢
          cases hABG
          rw [quilllaw14_num.f, Option.bind_some, if_pos rfl, if_pos rfl, if_pos rfl, hwj]
          exact hmt ▸ n1
        · rw [if_neg hu] at hABG ⊢
          cases hABG
          rw [quilllaw14_num.f, Option.bind_some, if_pos rfl, if_pos rfl, if_pos rfl, hwj]
          exact hmt ▸ n1
      show quilllaw14_PairsMates.l2 (m + 2) i s (rs s) a may K j l b1 b2 b3 b4 b5 b6 b7 = some true
      rw [quilllaw14_PairsMates.l2, if_pos q1, if_pos q0, hc, hkey, har, Option.bind_some, if_pos hmt, hmt]
      rcases hm2 with e | e | e
      · rw [if_pos e]
        exact hj7 _ _ _ rfl
      · rw [if_neg (by omega), if_pos e]
        exact hj7 _ _ _ rfl
      · rw [if_neg (by omega), if_neg (by omega), show (key == 123) = true from beq_iff_eq.2 e]
        exact hj7 _ _ _ rfl
    · have har : pairs_Around.f s a key c = some (0, 0, 1) := by
        unfold pairs_Around.f arOf
        by_cases h1 : mayB s = true ∧ (key = 40 ∨ key = 91 ∨ key = 123) ∧ 1 ≤ c ∧ c ≤ 999
        · rw [if_pos h1, if_neg (fun h2 => hm ⟨⟨h1.1, h2⟩, h1.2.1⟩)]
        · rw [if_neg h1]
      refine ⟨kn + 2, fun k hk => ?_⟩
      obtain ⟨m, rfl⟩ : ∃ m, k = m + 2 := ⟨k - 2, by omega⟩
      have n1 := hn m (by omega)
      have hj7 : quilllaw14_PairsMates.j7 (m + 1) i s (rs s) a may 1 K j c 0 0 1 0 0 false l b1 b2 b3 b4 b5 b6 b7 = some true := by
        rw [quilllaw14_PairsMates.j7, if_neg (by decide), quilllaw14_num.f, Option.bind_some, if_pos rfl, if_pos rfl, if_pos rfl, hwj]
        exact n1
      show quilllaw14_PairsMates.l2 (m + 2) i s (rs s) a may K j l b1 b2 b3 b4 b5 b6 b7 = some true
      rw [quilllaw14_PairsMates.l2, if_pos q1, if_pos q0, hc, hkey, har, Option.bind_some]
      by_cases hmt : may = true
      · have hm1 : mayB s = true ∧ 0 ≤ a ∧ a ≤ (rs s).length := by rw [hmay] at hmt; exact of_decide_eq_true hmt
        rw [if_pos hmt, if_neg (fun e => hm ⟨hm1, .inl e⟩), if_neg (fun e => hm ⟨hm1, .inr (.inl e)⟩), show (key == 123) = false from beq_eq_false_iff_ne.2 (fun e => hm ⟨hm1, .inr (.inr e)⟩)]
        exact hj7
      · rw [if_neg hmt]
        exact hj7
theorem at_loop (i : Nat) (hi : i ≤ 5) (s : ByteArray) (hsz : s.size ≤ 6000) (hl : (rs s).length ≤ 120) (hout : Evt (fun k => quilllaw14_PairsMates.l0 k ((i + 1 : Nat) : Int) l b1 b2 b3 b4 b5 b6 b7) true) :
    ∀ (d p : Nat), (rs s).length + 3 - p = d → p ≤ (rs s).length + 3 → Evt (fun k => quilllaw14_PairsMates.l1 k i s (rs s) ((p : Int) - 1) l b1 b2 b3 b4 b5 b6 b7) true := by
  have hwl : wrap64 (((rs s).length : Int) + 1) = ((rs s).length : Int) + 1 := w64 (by omega) (by omega)
  intro d
  induction d with
  | zero =>
    intro p hd hp
    have hw : wrap64 ((i : Int) + 1) = ((i + 1 : Nat) : Int) := (w64 (by omega) (by omega)).trans (by omega)
    exact Evt.step hout (fun k => by rw [quilllaw14_PairsMates.l1, if_neg (by omega), hw])
  | succ d ih =>
    intro p hd hp
    have hnext := ih (p + 1) (by omega) (by omega)
    rw [show ((p + 1 : Nat) : Int) - 1 = ((p : Int) - 1) + 1 by omega] at hnext
    obtain ⟨a, ha⟩ : ∃ a : Int, (p : Int) - 1 = a := ⟨_, rfl⟩
    rw [ha] at hnext ⊢
    obtain ⟨may, hmay⟩ : ∃ may, may = decide (mayB s = true ∧ 0 ≤ a ∧ a ≤ (rs s).length) := ⟨_, rfl⟩
    obtain ⟨k2, h2⟩ := kinds_loop l b1 b2 b3 b4 b5 b6 b7 i s a (by omega) (by omega) (by omega) may hmay [40, 91, 123, b5] rfl hnext 4 0 rfl (by omega)
    obtain ⟨k1, h1⟩ := refMay s (by omega)
    dsimp only at h1 h2
    -- from j3 on
    have hj4 : ∀ (m : Nat) (x e y f : Int), k2 ≤ m → quilllaw14_PairsMates.j4 (m + 2) i s (rs s) a may x e y f e f x y l b1 b2 b3 b4 b5 b6 b7 = some true := fun m x e y f hm => by
      rw [quilllaw14_PairsMates.j4, quilllaw14_num.f, Option.bind_some, if_pos rfl, quilllaw14_num.f, Option.bind_some, if_pos rfl, if_pos rfl, show (y != y) = false by simp, quilllaw14_PairsMates.j5, if_neg (by decide)]
      exact h2 m hm
    obtain ⟨k3, h3⟩ : Evt (fun k => quilllaw14_PairsMates.j3 k i s (rs s) a may l b1 b2 b3 b4 b5 b6 b7) true := by
      by_cases hm : mayB s = true ∧ 0 ≤ a ∧ a ≤ (rs s).length
      · have hmt : may = true := by rw [hmay]; exact decide_eq_true hm
        obtain ⟨ka, h4⟩ := rmate (rs s) (by omega) a hm.2.1
        obtain ⟨_, hf1, hf2, hf3, hf4⟩ := row_spec (rs s) a hm.2.1 hm.2.2
        obtain ⟨pp, ⟨kb, h5⟩, he⟩ := pair_loop (rs s) (by omega) (finOf (rs s) a) hf2 hf3 ((rs s).length + 2) a hm.2.1 hf1 (by omega) hf4
        dsimp only at h4 h5
        have e1 : pairs_Mate.f s a = some (if mateF (rs s) a ≥ 0 then (mateF (rs s) a, 0) else (0, 6)) := by
          unfold pairs_Mate.f mateOf
          rw [if_pos hm.1, if_pos hm.2]
        have e2 : pairs_Move.f s a = some (if pp ≥ 0 then (pp, 0) else (0, 6)) := by
          unfold pairs_Move.f goOf
          rw [if_pos hm.1, if_pos hm.2, ← he]
          rfl
        refine ⟨k2 + ka + kb + 3, fun k hk => ?_⟩
        obtain ⟨m, rfl⟩ : ∃ m, k = m + 3 := ⟨k - 3, by omega⟩
        have n4 := h4 (m + 2) (by omega)
        have n5 : quillref12_Pair.f (m + 2) (rs s) a = some pp := h5 (m + 2) (by omega)
        have hg := fun x e y f => hj4 m x e y f (by omega)
        show quilllaw14_PairsMates.j3 (m + 3) i s (rs s) a may l b1 b2 b3 b4 b5 b6 b7 = some true
        rw [quilllaw14_PairsMates.j3, e1, Option.bind_some, e2, Option.bind_some, if_pos hmt, n4, Option.bind_some]
        by_cases c1 : mateF (rs s) a ≥ 0
        · rw [if_pos c1, if_pos c1, n5, Option.bind_some]
          by_cases c2 : pp ≥ 0
          · rw [if_pos c2, if_pos c2]; exact hg _ _ _ _
          · rw [if_neg c2, if_neg c2]; exact hg _ _ _ _
        · rw [if_neg c1, if_neg c1, n5, Option.bind_some]
          by_cases c2 : pp ≥ 0
          · rw [if_pos c2, if_pos c2]; exact hg _ _ _ _
          · rw [if_neg c2, if_neg c2]; exact hg _ _ _ _
      · have hmf : may = false := by rw [hmay]; exact decide_eq_false hm
        have e1 : pairs_Mate.f s a = some (0, 1) := by
          unfold pairs_Mate.f mateOf
          by_cases h : mayB s = true
          · rw [if_pos h, if_neg (fun z => hm ⟨h, z⟩)]
          · rw [if_neg h]
        have e2 : pairs_Move.f s a = some (0, 1) := by
          unfold pairs_Move.f goOf
          by_cases h : mayB s = true
          · rw [if_pos h, if_neg (fun z => hm ⟨h, z⟩)]
          · rw [if_neg h]
        refine ⟨k2 + 3, fun k hk => ?_⟩
        obtain ⟨m, rfl⟩ : ∃ m, k = m + 3 := ⟨k - 3, by omega⟩
        have hg := hj4 m 0 1 0 1 (by omega)
        show quilllaw14_PairsMates.j3 (m + 3) i s (rs s) a may l b1 b2 b3 b4 b5 b6 b7 = some true
        rw [quilllaw14_PairsMates.j3, e1, Option.bind_some, e2, Option.bind_some, if_neg (by rw [hmf]; decide)]
        exact hg
    dsimp only at h3
    refine ⟨k1 + k3 + 1, fun k hk => ?_⟩
    obtain ⟨m, rfl⟩ : ∃ m, k = m + 1 := ⟨k - 1, by omega⟩
    have n1 := h1 m (by omega)
    have n3 := h3 m (by omega)
    show quilllaw14_PairsMates.l1 (m + 1) i s (rs s) a l b1 b2 b3 b4 b5 b6 b7 = some true
    rw [quilllaw14_PairsMates.l1, hwl, if_pos (by omega), n1, Option.bind_some]
    by_cases h : mayB s = true
    · rw [if_pos h]
      have hnum : quillref0_Num.f a ((rs s).length : Int) = some may := by
        rw [quillref0_Num.f, hmay]
        by_cases c : a ≥ 0
        · rw [if_pos c]
          simp [h, c]
        · rw [if_neg c, decide_eq_false (fun z => c z.2.1)]
      rw [hnum, Option.bind_some]
      exact n3
    · rw [if_neg h]
      have : may = false := by rw [hmay]; exact decide_eq_false (fun z => h z.1)
      rw [← this]
      exact n3
theorem pm_outer (hsz : ∀ s ∈ l, s.size ≤ 6000) (hl : l.length ≤ 6000) : ∀ (d i : Nat), l.length - i = d → i ≤ 5 → Evt (fun k => quilllaw14_PairsMates.l0 k i l b1 b2 b3 b4 b5 b6 b7) true := by
  have hdone : ∀ i : Nat, i ≤ 5 → ¬ (i < l.length ∧ i < 5) → Evt (fun k => quilllaw14_PairsMates.l0 k i l b1 b2 b3 b4 b5 b6 b7) true := by
    intro i _ hi
    refine ⟨2, fun k hk => ?_⟩
    obtain ⟨m, rfl⟩ : ∃ m, k = m + 2 := ⟨k - 2, by omega⟩
    show quilllaw14_PairsMates.l0 (m + 2) i l b1 b2 b3 b4 b5 b6 b7 = some true
    rw [quilllaw14_PairsMates.l0]
    by_cases hil : i < l.length
    · rw [if_pos (by omega), decide_eq_false (by omega), quilllaw14_PairsMates.j1, if_neg (by decide), wakes_f]
      rfl
    · rw [if_neg (by omega), quilllaw14_PairsMates.j1, if_neg (by decide), wakes_f]
      rfl
  intro d
  induction d with
  | zero => intro i hd hi; exact hdone i hi (by omega)
  | succ d ih =>
    intro i hd hi
    by_cases hi5 : i < 5
    · have hil : i < l.length := by omega
      have hz := hsz l[i] (List.getElem_mem _)
      have e1 : rdOf ByteArray.empty l (i : Int) = l[i] := by simp [rdOf, hil]
      generalize l[i] = s at hz e1
      have hout := ih (i + 1) (by omega) (by omega)
      have hw : wrap64 ((i : Int) + 1) = ((i + 1 : Nat) : Int) := (w64 (by omega) (by omega)).trans (by omega)
      have hcv := cv_rs (s := s) (by omega)
      by_cases hgo : (rs s).length ≤ 120
      · obtain ⟨k0, h0⟩ := at_loop l b1 b2 b3 b4 b5 b6 b7 i (by omega) s hz hgo hout ((rs s).length + 3) 0 (by omega) (by omega)
        dsimp only at h0
        refine ⟨k0 + 2, fun k hk => ?_⟩
        obtain ⟨m, rfl⟩ : ∃ m, k = m + 2 := ⟨k - 2, by omega⟩
        have n0 := h0 m (by omega)
        show quilllaw14_PairsMates.l0 (m + 2) i l b1 b2 b3 b4 b5 b6 b7 = some true
        rw [quilllaw14_PairsMates.l0, if_pos (by omega), decide_eq_true (by omega), quilllaw14_PairsMates.j1, if_pos rfl, if_pos (by omega), if_pos (by omega), e1, hcv, Option.bind_some, if_neg (by omega)]
        exact n0
      · obtain ⟨k0, h0⟩ := hout
        dsimp only at h0
        refine ⟨k0 + 2, fun k hk => ?_⟩
        obtain ⟨m, rfl⟩ : ∃ m, k = m + 2 := ⟨k - 2, by omega⟩
        have n0 := h0 m (by omega)
        show quilllaw14_PairsMates.l0 (m + 2) i l b1 b2 b3 b4 b5 b6 b7 = some true
        rw [quilllaw14_PairsMates.l0, if_pos (by omega), decide_eq_true (by omega), quilllaw14_PairsMates.j1, if_pos rfl, if_pos (by omega), if_pos (by omega), e1, hcv, Option.bind_some, if_pos (by omega), hw]
        exact n0
    · exact hdone i hi (by omega)
end
theorem PairsMates_pure (l : List ByteArray) (hsz : ∀ s ∈ l, s.size ≤ 140737488355327) (hl : l.length ≤ 140737488355327) (b1 b2 b3 b4 b5 b6 b7 : Int) : ∃ k, quilllaw14_PairsMates.f k l b1 b2 b3 b4 b5 b6 b7 = some true := by
  obtain ⟨t, ⟨k0, h0⟩, ht⟩ := heavy10 l hsz hl b1 b2 b3 b4 b5 b6 b7
  cases t with
  | true => exact ⟨k0, by rw [quilllaw14_PairsMates.f, show quilllaw10_Heavy.f k0 l b1 b2 b3 b4 b5 b6 b7 = some true from h0 k0 (Nat.le_refl _)]; rfl⟩
  | false =>
    obtain ⟨h3, h4⟩ := ht rfl
    obtain ⟨k1, h1⟩ := pm_outer l b1 b2 b3 b4 b5 b6 b7 h3 h4 l.length 0 rfl (by omega)
    refine ⟨k0 + k1, ?_⟩
    rw [quilllaw14_PairsMates.f, show quilllaw10_Heavy.f (k0 + k1) l b1 b2 b3 b4 b5 b6 b7 = some false from h0 _ (by omega), Option.bind_some, if_neg (by decide)]
    exact h1 _ (by omega)
end Go.Proofs.YtfiapekpeiapbaaDoor.PM
