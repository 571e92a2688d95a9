import Derived.Test.YtfiapekpeiapbaaDoorPvMove
/-! ParasMove, in plain Lean: the law's loops. -/
namespace Go.Proofs.YtfiapekpeiapbaaDoor.Pv
open Go.RowKit Go.Proofs.YtfiapekpeiapbaaDoor.Q Go.Proofs.YtfiapekpeiapbaaDoor.F Go.Lib
open Go.Proofs.YtfiapekpeiapbaaDoorW.PrintWords Go.Proofs.YtfiapekpeiapbaaDoorW.PrintLast Go.Proofs.YtfiapekpeiapbaaDoorW.PrintMore

theorem heavy10 (xs : List ByteArray) (hsz : ∀ s ∈ xs, s.size ≤ 140737488355327) (hl : xs.length ≤ 140737488355327) (a b c d e f g : Int) :
    ∃ t, Evt (fun k => quilllaw10_Heavy.f k xs a b c d e f g) t ∧ (t = false → (∀ s ∈ xs, s.size ≤ 6000) ∧ xs.length ≤ 6000) := by
  obtain ⟨t, he, ht⟩ := heavy1 xs hsz hl a b c d
  exact ⟨t, Evt.same (Evt.bind (g := fun _ t => some t) he (Evt.const rfl)) (fun k => rfl), ht⟩
theorem wakes_f : quilllaw13_wakes.f = some true := by decide +kernel
section
variable (l : List ByteArray) (b1 b2 b3 b4 b5 b6 b7 : Int)
theorem l3_loop (i : Nat) (hil : i < l.length) (s : ByteArray) (hs : rdOf ByteArray.empty l (i : Int) = s) (hz : s.size ≤ 6000) (ts keys cs : List Int) (q j : Nat) (hq : q < keys.length) (hj : j < ts.length) (hj2 : j ≤ 1000) (hcs : cs.length = 3)
    (hnext : Evt (fun k => quilllaw13_ParasMove.l2 k i (rs s) ts keys q ((j + 1 : Nat) : Int) l b1 b2 b3 b4 b5 b6 b7) true) : ∀ (d n : Nat), 3 - n = d → n ≤ 3 →
    Evt (fun k => quilllaw13_ParasMove.l3 k i (rs s) ts keys q j cs n l b1 b2 b3 b4 b5 b6 b7) true := by
  have HWJ := Aside0.mk (show wrap64 ((j : Int) + 1) = ((j + 1 : Nat) : Int) from (w64 (by omega) (by omega)).trans (by omega))
  intro d
  induction d with
  | zero =>
    intro n hn hn3
    exact Evt.step hnext (fun k => by rw [quilllaw13_ParasMove.l3, if_neg (by omega), HWJ.out])
  | succ d ih =>
    intro n hn hn3
    obtain ⟨k0, h0⟩ := ih (n + 1) (by omega) (by omega)
    obtain ⟨k1, h1⟩ := refMay s (by omega)
    dsimp only at h0 h1
    have p1 : (n : Int) < 3 := by omega
    have p2 : (0 : Int) ≤ (i : Int) := by omega
    have p3 : (i : Int) < (l.length : Int) := by omega
    have p4 : (0 : Int) ≤ (j : Int) := by omega
    have p5 : (j : Int) < (ts.length : Int) := by omega
    have p6 : (0 : Int) ≤ (q : Int) := by omega
    have p7 : (q : Int) < (keys.length : Int) := by omega
    have p8 : (0 : Int) ≤ (n : Int) := by omega
    have p9 : (n : Int) < (cs.length : Int) := by omega
    have HW := Aside0.mk (show wrap64 ((n : Int) + 1) = ((n + 1 : Nat) : Int) from (w64 (by omega) (by omega)).trans (by omega))
    obtain ⟨a, ha⟩ : ∃ a, rd ts (j : Int) = a := ⟨_, rfl⟩
    obtain ⟨key, hkey⟩ : ∃ a, rd keys (q : Int) = a := ⟨_, rfl⟩
    obtain ⟨c, hc⟩ : ∃ a, rd cs (n : Int) = a := ⟨_, rfl⟩
    by_cases hcond : mayB s = true ∧ (key = 123 ∨ key = 125) ∧ (1 ≤ c ∧ c ≤ 999) ∧ 0 ≤ a ∧ a ≤ (rs s).length
    · obtain ⟨c1, c2, c3, c4⟩ := hcond
      have hmv : paras_Move.f s a key c = some (parasR (rs s) a key c) := by
        unfold paras_Move.f parasF
        rw [if_pos ⟨c1, c2, c3.1, c3.2⟩, if_pos c4]
      obtain ⟨k2, h2⟩ := paras_ref (rs s) (rs_len (mayB_size c1)) a key c c4.1 c4.2 c3.1 c3.2
      dsimp only at h2
      have hnum : quillref0_Num.f a ((rs s).length : Int) = some true := by rw [quillref0_Num.f, if_pos c4.1, decide_eq_true c4.2]
      have hbt : quillref0_Between.f c 1 999 = some true := by rw [quillref0_Between.f, if_pos c3.1, decide_eq_true c3.2]
      refine ⟨k0 + k1 + k2 + 2, fun k hk => ?_⟩
      obtain ⟨m, rfl⟩ : ∃ m, k = m + 2 := ⟨k - 2, by omega⟩
      have n0 := h0 m (by omega)
      have n1 := h1 (m + 1) (by omega)
      have n2 := h2 m (by omega)
      have hj5 : quilllaw13_ParasMove.j5 (m + 1) i (rs s) ts keys q j cs n (parasR (rs s) a key c).1 (parasR (rs s) a key c).2 1 0 true l b1 b2 b3 b4 b5 b6 b7 = some true := by
        rw [quilllaw13_ParasMove.j5, if_pos rfl, if_pos p4, if_pos p5, if_pos p6, if_pos p7, if_pos p8, if_pos p9, ha, hkey, hc, n2, Option.bind_some, quilllaw13_num.f, Option.bind_some, if_pos rfl, if_pos rfl, HW.out]
        exact n0
      show quilllaw13_ParasMove.l3 (m + 2) i (rs s) ts keys q j cs n l b1 b2 b3 b4 b5 b6 b7 = some true
      rw [quilllaw13_ParasMove.l3, if_pos p1, if_pos p2, if_pos p3, if_pos p4, if_pos p5, if_pos p6, if_pos p7, if_pos p8, if_pos p9, ha, hkey, hc, hs, hmv, Option.bind_some, n1, Option.bind_some, if_pos c1, hnum, Option.bind_some, if_pos rfl, hbt]
      rcases c2 with e | e
      · rw [if_pos e, Option.bind_some]
        exact hj5
      · rw [if_neg (by omega), if_pos e, Option.bind_some]
        exact hj5
    · have hmv : paras_Move.f s a key c = some (0, 1) := by
        unfold paras_Move.f parasF
        by_cases g : mayB s = true ∧ (key = 123 ∨ key = 125) ∧ 1 ≤ c ∧ c ≤ 999
        · rw [if_pos g, if_neg (fun z => hcond ⟨g.1, g.2.1, g.2.2, z⟩)]
        · rw [if_neg g]
      refine ⟨k0 + k1 + 2, fun k hk => ?_⟩
      obtain ⟨m, rfl⟩ : ∃ m, k = m + 2 := ⟨k - 2, by omega⟩
      have n0 := h0 m (by omega)
      have n1 := h1 (m + 1) (by omega)
      have hj5 : quilllaw13_ParasMove.j5 (m + 1) i (rs s) ts keys q j cs n 0 1 1 0 false l b1 b2 b3 b4 b5 b6 b7 = some true := by
        rw [quilllaw13_ParasMove.j5, if_neg (by decide), quilllaw13_num.f, Option.bind_some, if_pos rfl, if_pos rfl, HW.out]
        exact n0
      show quilllaw13_ParasMove.l3 (m + 2) i (rs s) ts keys q j cs n l b1 b2 b3 b4 b5 b6 b7 = some true
      rw [quilllaw13_ParasMove.l3, if_pos p1, if_pos p2, if_pos p3, if_pos p4, if_pos p5, if_pos p6, if_pos p7, if_pos p8, if_pos p9, ha, hkey, hc, hs, hmv, Option.bind_some, n1, Option.bind_some]
      by_cases c1 : mayB s = true
      · rw [if_pos c1]
        by_cases c4 : 0 ≤ a ∧ a ≤ (rs s).length
        · have hnum : quillref0_Num.f a ((rs s).length : Int) = some true := by rw [quillref0_Num.f, if_pos c4.1, decide_eq_true c4.2]
          rw [hnum, Option.bind_some, if_pos rfl]
          have hbt : (key = 123 ∨ key = 125) → quillref0_Between.f c 1 999 = some false := fun c2 => by
            rw [quillref0_Between.f]
            by_cases g : c ≥ 1
            · rw [if_pos g, decide_eq_false (fun z => hcond ⟨c1, c2, ⟨g, z⟩, c4⟩)]
            · rw [if_neg g]
          by_cases e : key = 123
          · rw [if_pos e, hbt (.inl e), Option.bind_some]
            exact hj5
          · by_cases e2 : key = 125
            · rw [if_neg e, if_pos e2, hbt (.inr e2), Option.bind_some]
              exact hj5
            · rw [if_neg e, if_neg e2]
              exact hj5
        · have hnum : quillref0_Num.f a ((rs s).length : Int) = some false := by
            rw [quillref0_Num.f]
            by_cases g : a ≥ 0
            · rw [if_pos g, decide_eq_false (fun z => c4 ⟨g, z⟩)]
            · rw [if_neg g]
          rw [hnum, Option.bind_some, if_neg (by decide)]
          exact hj5
      · rw [if_neg c1]
        exact hj5
theorem l2_loop (i : Nat) (hil : i < l.length) (s : ByteArray) (hs : rdOf ByteArray.empty l (i : Int) = s) (hz : s.size ≤ 6000) (ts keys : List Int) (hts : ts.length ≤ 20) (q : Nat) (hq : q < keys.length) (hq2 : q ≤ 3)
    (hnext : Evt (fun k => quilllaw13_ParasMove.l1 k i (rs s) ts keys ((q + 1 : Nat) : Int) l b1 b2 b3 b4 b5 b6 b7) true) : ∀ (d j : Nat), ts.length - j = d → j ≤ ts.length →
    Evt (fun k => quilllaw13_ParasMove.l2 k i (rs s) ts keys q j l b1 b2 b3 b4 b5 b6 b7) true := by
  have hwq : wrap64 ((q : Int) + 1) = ((q + 1 : Nat) : Int) := (w64 (by omega) (by omega)).trans (by omega)
  intro d
  induction d with
  | zero =>
    intro j hd hj
    exact Evt.step hnext (fun k => by rw [quilllaw13_ParasMove.l2, if_neg (by omega), hwq])
  | succ d ih =>
    intro j hd hj
    exact Evt.step (l3_loop l b1 b2 b3 b4 b5 b6 b7 i hil s hs hz ts keys [1, wrap64 (1 + Int.tmod (j : Int) 3), b6] q j hq (by omega) (by omega) rfl (ih (j + 1) (by omega) (by omega)) 3 0 rfl (by omega)) (fun k => by rw [quilllaw13_ParasMove.l2, if_pos (by omega)]; rfl)
theorem l1_loop (i : Nat) (hi : i ≤ 5) (hil : i < l.length) (s : ByteArray) (hs : rdOf ByteArray.empty l (i : Int) = s) (hz : s.size ≤ 6000) (ts keys : List Int) (hts : ts.length ≤ 20) (hks : keys.length = 3)
    (hout : Evt (fun k => quilllaw13_ParasMove.l0 k ((i + 1 : Nat) : Int) l b1 b2 b3 b4 b5 b6 b7) true) : ∀ (d q : Nat), keys.length - q = d → q ≤ keys.length →
    Evt (fun k => quilllaw13_ParasMove.l1 k i (rs s) ts keys q l b1 b2 b3 b4 b5 b6 b7) true := by
  have hw : wrap64 ((i : Int) + 1) = ((i + 1 : Nat) : Int) := (w64 (by omega) (by omega)).trans (by omega)
  intro d
  induction d with
  | zero =>
    intro q hd hq
    exact Evt.step hout (fun k => by rw [quilllaw13_ParasMove.l1, if_neg (by omega), hw])
  | succ d ih =>
    intro q hd hq
    exact Evt.step (l2_loop l b1 b2 b3 b4 b5 b6 b7 i hil s hs hz ts keys hts q (by omega) (by omega) (ih (q + 1) (by omega) (by omega)) ts.length 0 rfl (by omega)) (fun k => by rw [quilllaw13_ParasMove.l1, if_pos (by omega)]; rfl)
theorem pv_outer (hsz : ∀ s ∈ l, s.size ≤ 6000) (hl : l.length ≤ 6000) : ∀ (d i : Nat), l.length - i = d → i ≤ 5 → Evt (fun k => quilllaw13_ParasMove.l0 k i l b1 b2 b3 b4 b5 b6 b7) true := by
  have hdone : ∀ i : Nat, i ≤ 5 → ¬ (i < l.length ∧ i < 5) → Evt (fun k => quilllaw13_ParasMove.l0 k i l b1 b2 b3 b4 b5 b6 b7) true := by
    intro i _ hi
    refine ⟨2, fun k hk => ?_⟩
    obtain ⟨m, rfl⟩ : ∃ m, k = m + 2 := ⟨k - 2, by omega⟩
    show quilllaw13_ParasMove.l0 (m + 2) i l b1 b2 b3 b4 b5 b6 b7 = some true
    rw [quilllaw13_ParasMove.l0]
    by_cases hil : i < l.length
    · rw [if_pos (by omega), decide_eq_false (by omega), quilllaw13_ParasMove.j1, if_neg (by decide), wakes_f]
      rfl
    · rw [if_neg (by omega), quilllaw13_ParasMove.j1, if_neg (by decide), wakes_f]
      rfl
  intro d
  induction d with
  | zero => intro i hd hi; exact hdone i hi (by omega)
  | succ d ih =>
    intro i hd hi
    by_cases hi5 : i < 5
    · have hil : i < l.length := by omega
      have hz := hsz l[i] (List.getElem_mem _)
      have e1 : rdOf ByteArray.empty l (i : Int) = l[i] := by simp [rdOf, hil]
      generalize l[i] = s at hz e1
      have hout := ih (i + 1) (by omega) (by omega)
      have hcv := cv_rs (s := s) (by omega)
      have hln := runes_length_le s.data.toList
      have hln2 : (rs s).length ≤ 6000 := by
        unfold rs
        simp at hln
        omega
      obtain ⟨ts, ⟨k1, h1⟩, hts⟩ := offs_loop l b1 b2 b3 b4 b5 b6 b7 (rs s) (by omega) 13 0 [b1, -1, wrap64 (((rs s).length : Int) + 1)] rfl (by omega) (by simp)
      dsimp only at h1
      obtain ⟨k0, h0⟩ := l1_loop l b1 b2 b3 b4 b5 b6 b7 i hi hil s e1 hz ts [123, 125, b5] hts rfl hout 3 0 rfl (by omega)
      dsimp only at h0
      refine ⟨k0 + k1 + 2, fun k hk => ?_⟩
      obtain ⟨m, rfl⟩ : ∃ m, k = m + 2 := ⟨k - 2, by omega⟩
      have n0 := h0 m (by omega)
      have n1 : quilllaw10_Offsets.f m l b1 b2 b3 b4 b5 b6 b7 (rs s) = some ts := h1 m (by omega)
      show quilllaw13_ParasMove.l0 (m + 2) i l b1 b2 b3 b4 b5 b6 b7 = some true
      rw [quilllaw13_ParasMove.l0, if_pos (by omega), decide_eq_true (by omega), quilllaw13_ParasMove.j1, if_pos rfl, if_pos (by omega), if_pos (by omega), e1, hcv, Option.bind_some, n1, Option.bind_some]
      exact n0
    · exact hdone i hi (by omega)
end
theorem ParasMove_pure (l : List ByteArray) (hsz : ∀ s ∈ l, s.size ≤ 140737488355327) (hl : l.length ≤ 140737488355327) (b1 b2 b3 b4 b5 b6 b7 : Int) : ∃ k, quilllaw13_ParasMove.f k l b1 b2 b3 b4 b5 b6 b7 = some true := by
  obtain ⟨t, ⟨k0, h0⟩, ht⟩ := heavy10 l hsz hl b1 b2 b3 b4 b5 b6 b7
  cases t with
  | true => exact ⟨k0, by rw [quilllaw13_ParasMove.f, show quilllaw10_Heavy.f k0 l b1 b2 b3 b4 b5 b6 b7 = some true from h0 k0 (Nat.le_refl _)]; rfl⟩
  | false =>
    obtain ⟨h3, h4⟩ := ht rfl
    obtain ⟨k1, h1⟩ := pv_outer l b1 b2 b3 b4 b5 b6 b7 h3 h4 l.length 0 rfl (by omega)
    refine ⟨k0 + k1, ?_⟩
    rw [quilllaw13_ParasMove.f, show quilllaw10_Heavy.f (k0 + k1) l b1 b2 b3 b4 b5 b6 b7 = some false from h0 _ (by omega), Option.bind_some, if_neg (by decide)]
    exact h1 _ (by omega)
end Go.Proofs.YtfiapekpeiapbaaDoor.Pv
