import Derived.Test.YtfiapekpeiapbaaDoorSsHv
import Derived.Test.YtfiapekpeiapbaaDoorSsx2
/-! SeekStands, in plain Lean. -/
namespace Go.Proofs.YtfiapekpeiapbaaDoor.Ss
open Go.RowKit Go.Proofs.YtfiapekpeiapbaaDoor.Q Go.Proofs.YtfiapekpeiapbaaDoor.F Go.Lib
open Go.Proofs.YtfiapekpeiapbaaDoorW.PrintWords Go.Proofs.YtfiapekpeiapbaaDoorW.PrintLast Go.Proofs.YtfiapekpeiapbaaDoorW.PrintMore

theorem findR_eq (R : List Int) (a k r c : Int) : findR R a k r c = findL R (begOf R a) (finOf R a) (stepOf k) (shortOf k) r (R.length + 2) (a + stepOf k) c := rfl
theorem findL_in {R : List Int} {lo hi st sh r i : Int} {n : Nat} (h0 : lo ≤ i) (h1 : i < hi) (h2 : rd R i = r) : findL R lo hi st sh r (n + 1) i 1 = (i - sh, 0) := by
  unfold findL
  rw [if_pos ⟨h0, h1⟩, if_pos h2, if_pos (by omega)]
theorem findL_out {R : List Int} {lo hi st sh r i c : Int} {n : Nat} (h : ¬ (lo ≤ i ∧ i < hi)) : findL R lo hi st sh r (n + 1) i c = (0, 6) := by
  unfold findL
  rw [if_neg h]
/-- Seek's answers at a rune's neighbour. -/
theorem find_next {s : ByteArray} (hm : mayB s = true) {a : Nat} (ha : a + 1 < (rs s).length) (k : Int) (hk : k = 102 ∨ k = 116) :
    findF s a k (rd (rs s) ((a : Int) + 1)) 1 = (if rd (rs s) (a : Int) = 10 ∨ rd (rs s) ((a : Int) + 1) = 10 then (0, 6) else ((a : Int) + 1 - shortOf k, 0)) := by
  have hk2 : isKey k = true := by rcases hk with rfl | rfl <;> rfl
  have hst : stepOf k = 1 := by rcases hk with rfl | rfl <;> rfl
  unfold findF
  rw [if_pos ⟨hm, hk2, by omega, by omega⟩, if_pos ⟨by omega, by omega⟩, findR_eq, hst]
  obtain ⟨⟨g0, g1, g2, g3⟩, f0, f1, f2, f3⟩ := row_spec (rs s) a (by omega) (by omega)
  by_cases c : rd (rs s) (a : Int) = 10 ∨ rd (rs s) ((a : Int) + 1) = 10
  · rw [if_pos c]
    refine findL_out (fun h => ?_)
    rcases c with c | c
    · exact f3 a (by omega) (by omega) c
    · exact f3 (a + 1) (by omega) (by omega) c
  · rw [if_neg c]
    refine findL_in (by omega) ?_ rfl
    rcases f2 with f2 | f2
    · omega
    · by_cases e1 : finOf (rs s) a = a
      · rw [e1] at f2; exact absurd (.inl f2) c
      · by_cases e2 : finOf (rs s) a = a + 1
        · rw [e2] at f2; exact absurd (.inr f2) c
        · omega
theorem find_back {s : ByteArray} (hm : mayB s = true) {a : Nat} (ha : a + 1 < (rs s).length) (h1 : rd (rs s) (a : Int) ≠ 10) (h2 : rd (rs s) ((a : Int) + 1) ≠ 10) :
    findF s ((a : Int) + 1) 70 (rd (rs s) (a : Int)) 1 = ((a : Int), 0) := by
  unfold findF
  rw [if_pos ⟨hm, rfl, by omega, by omega⟩, if_pos ⟨by omega, by omega⟩, findR_eq, show stepOf 70 = -1 from rfl, show shortOf 70 = 0 from rfl, show ((a : Int) + 1 + -1) = a by omega]
  obtain ⟨⟨g0, g1, g2, g3⟩, f0, f1, f2, f3⟩ := row_spec (rs s) ((a : Int) + 1) (by omega) (by omega)
  rw [findL_in ?_ (by omega) rfl, Int.sub_zero]
  rcases g2 with g2 | g2
  · omega
  · by_cases e : begOf (rs s) ((a : Int) + 1) = a + 1
    · rw [e, show (a : Int) + 1 - 1 = a by omega] at g2
      exact absurd g2 h1
    · omega
theorem num_f (a : Int) : quilllaw11_num.f a = some a := rfl
theorem wakes_f : quilllaw11_wakes.f = some true := by
  have h : findF (⟨#[97, 98, 99, 98]⟩ : ByteArray) 0 102 98 2 = (3, 0) := by kernel_rfl
  rw [quilllaw11_wakes.f, seek_Find.f, h]
  rfl
theorem heavy10 (xs : List ByteArray) (hsz : ∀ s ∈ xs, s.size ≤ 140737488355327) (hl : xs.length ≤ 140737488355327) (a b c d e f g : Int) :
    ∃ t, Evt (fun k => quilllaw10_Heavy.f k xs a b c d e f g) t ∧ (t = false → (∀ s ∈ xs, s.size ≤ 6000) ∧ xs.length ≤ 6000) := by
  obtain ⟨t, he, ht⟩ := heavy1 xs hsz hl a b c d
  exact ⟨t, Evt.same (Evt.bind (g := fun _ t => some t) he (Evt.const rfl)) (fun k => rfl), ht⟩
theorem heavy_nil : Evt (fun k => quilllaw1_Heavy.f k [] 0 0 0 0) false :=
  ⟨1, fun k hk => by
    obtain ⟨m, rfl⟩ : ∃ m, k = m + 1 := ⟨k - 1, by omega⟩
    rfl⟩
theorem rune_small {R : List Int} (hv : ∀ x ∈ R, vr x) (i : Int) : wrap64 (rd R i) = rd R i := by
  have : 0 ≤ rd R i ∧ rd R i ≤ 1114111 := by
    unfold rd
    rw [List.getD_eq_getElem?_getD]
    by_cases h : i.toNat < R.length
    · rw [List.getElem?_eq_getElem h]
      have := hv _ (List.getElem_mem h)
      unfold vr at this
      simp only [Option.getD_some]; omega
    · rw [List.getElem?_eq_none (by omega)]; simp
  exact w64 (by omega) (by omega)
theorem ss_j4n (m : Nat) (l : List ByteArray) (b1 b2 b3 b4 b5 b6 b7 i a : Int) (R : List Int) :
    quilllaw11_SeekStands.j4 (m + 1) i R a 0 6 0 6 true l b1 b2 b3 b4 b5 b6 b7 = quilllaw11_SeekStands.l1 m i R (wrap64 (a + 1)) l b1 b2 b3 b4 b5 b6 b7 := by
  rw [quilllaw11_SeekStands.j4, if_pos rfl, num_f, Option.bind_some, if_pos (Eq.refl (6 : Int)), Option.bind_some, if_pos (Eq.refl (6 : Int))]
theorem ss_j4y (m : Nat) (l : List ByteArray) (b1 b2 b3 b4 b5 b6 b7 i a : Int) (R : List Int) (s : ByteArray) (q0 : 0 ≤ i) (q1 : i < l.length) (q2 : 0 ≤ a) (q3 : a < R.length) (e1 : rdOf ByteArray.empty l i = s)
    (hf : findF s (wrap64 (a + 1)) 70 (wrap64 (rd R a)) 1 = (a, 0)) :
    quilllaw11_SeekStands.j4 (m + 2) i R a (wrap64 (a + 1)) 0 a 0 false l b1 b2 b3 b4 b5 b6 b7 = quilllaw11_SeekStands.l1 m i R (wrap64 (a + 1)) l b1 b2 b3 b4 b5 b6 b7 := by
  rw [quilllaw11_SeekStands.j4, if_neg Bool.false_ne_true, num_f, Option.bind_some, if_pos (Eq.refl (0 : Int)), Option.bind_some, if_pos (Eq.refl (0 : Int)), if_pos (Eq.refl (wrap64 (a + 1))), show (a != a) = false from by simp,
    quilllaw11_SeekStands.j5, if_neg Bool.false_ne_true, if_pos q0, if_pos q1, if_pos q2, if_pos q3, e1, seek_Find.f, hf, Option.bind_some]
  show ((quilllaw11_num.f 0).bind fun t150 => if t150 = 0 then (if a = a then quilllaw11_SeekStands.l1 m i R (wrap64 (a + 1)) l b1 b2 b3 b4 b5 b6 b7 else some false) else some false) = _
  rw [num_f, Option.bind_some, if_pos (Eq.refl (0 : Int)), if_pos (Eq.refl a)]
theorem ss_l1 (m : Nat) (l : List ByteArray) (b1 b2 b3 b4 b5 b6 b7 i a : Int) (R : List Int) (s : ByteArray) (q0 : 0 ≤ i) (q1 : i < l.length) (q2 : 0 ≤ a) (q3 : a < R.length) (q4 : 0 ≤ wrap64 (a + 1)) (q5 : wrap64 (a + 1) < R.length) (e1 : rdOf ByteArray.empty l i = s) (x y : Int × Int) (b : Bool)
    (hx : findF s a 102 (wrap64 (rd R (wrap64 (a + 1)))) 1 = x) (hy : findF s a 116 (wrap64 (rd R (wrap64 (a + 1)))) 1 = y) (hb : (rd R a = 10 ∨ rd R (wrap64 (a + 1)) = 10) ↔ b = true) :
    quilllaw11_SeekStands.l1 (m + 1) i R a l b1 b2 b3 b4 b5 b6 b7 = quilllaw11_SeekStands.j4 m i R a x.1 x.2 y.1 y.2 b l b1 b2 b3 b4 b5 b6 b7 := by
  rw [quilllaw11_SeekStands.l1, if_pos q5, if_pos q4, if_pos q0, if_pos q1, e1, seek_Find.f, seek_Find.f, hx, hy, Option.bind_some, Option.bind_some, if_pos q2, if_pos q3]
  by_cases c1 : rd R a = 10
  · rw [if_pos c1, hb.1 (.inl c1)]
  · rw [if_neg c1]
    by_cases c2 : rd R (wrap64 (a + 1)) = 10
    · rw [hb.1 (.inr c2), show (rd R (wrap64 (a + 1)) == 10) = true from beq_iff_eq.2 c2]
    · have : b = false := by
        cases b with
        | false => rfl
        | true => exact absurd (hb.2 rfl) (fun h => h.elim c1 c2)
      rw [this, show (rd R (wrap64 (a + 1)) == 10) = false from beq_eq_false_iff_ne.2 c2]
theorem ss_step (l : List ByteArray) (b1 b2 b3 b4 b5 b6 b7 : Int) (i : Nat) (hi : i < l.length) (s : ByteArray) (hm : mayB s = true) (e1 : rdOf ByteArray.empty l (i : Int) = s) (a : Nat) (ha : a + 1 < (rs s).length) (h200 : (rs s).length ≤ 4000)
    (hnext : Evt (fun k => quilllaw11_SeekStands.l1 k i (rs s) ((a + 1 : Nat) : Int) l b1 b2 b3 b4 b5 b6 b7) true) :
    Evt (fun k => quilllaw11_SeekStands.l1 k i (rs s) a l b1 b2 b3 b4 b5 b6 b7) true := by
  obtain ⟨k0, h0⟩ := hnext
  dsimp only at h0
  refine ⟨k0 + 3, fun k hk => ?_⟩
  obtain ⟨m, rfl⟩ : ∃ m, k = m + 3 := ⟨k - 3, by omega⟩
  have hn : k0 ≤ m := by omega
  clear hk
  have q1 : ((a : Int) + 1) < ((rs s).length : Int) := by omega
  have q2 : (0 : Int) ≤ (a : Int) + 1 := by omega
  have q3 : (0 : Int) ≤ (i : Int) := by omega
  have q4 : (i : Int) < (l.length : Int) := by omega
  have q5 : (0 : Int) ≤ (a : Int) := by omega
  have q6 : (a : Int) < ((rs s).length : Int) := by omega
  have q7 : k0 ≤ m + 1 := by omega
  have ew : wrap64 ((a : Int) + 1) = (a : Int) + 1 := w64 (by omega) (by omega)
  have er := rune_small (runes_vr s.data.toList)
  have er1 : wrap64 (rd (rs s) ((a : Int) + 1)) = rd (rs s) ((a : Int) + 1) := er _
  have er2 : wrap64 (rd (rs s) (a : Int)) = rd (rs s) (a : Int) := er _
  have f1 := find_next hm ha 102 (.inl rfl)
  have f2 := find_next hm ha 116 (.inr rfl)
  by_cases hc : rd (rs s) (a : Int) = 10 ∨ rd (rs s) ((a : Int) + 1) = 10
  · rw [if_pos hc] at f1 f2
    refine (ss_l1 (m + 2) l b1 b2 b3 b4 b5 b6 b7 i a (rs s) s q3 q4 q5 q6 (by rw [ew]; exact q2) (by rw [ew]; exact q1) e1 (0, 6) (0, 6) true (by rw [ew, er1]; exact f1) (by rw [ew, er1]; exact f2) (by rw [ew]; exact ⟨fun _ => rfl, fun _ => hc⟩)).trans ?_
    refine (ss_j4n (m + 1) l b1 b2 b3 b4 b5 b6 b7 i a (rs s)).trans ?_
    rw [ew]
    exact h0 _ q7
  · rw [if_neg hc] at f1 f2
    have g1 : rd (rs s) (a : Int) ≠ 10 := fun h => hc (.inl h)
    have g2 : rd (rs s) ((a : Int) + 1) ≠ 10 := fun h => hc (.inr h)
    rw [show shortOf 102 = 0 from rfl, Int.sub_zero] at f1
    rw [show shortOf 116 = 1 from rfl, show (a : Int) + 1 - 1 = a from Int.add_sub_cancel _ _] at f2
    refine (ss_l1 (m + 2) l b1 b2 b3 b4 b5 b6 b7 i a (rs s) s q3 q4 q5 q6 (by rw [ew]; exact q2) (by rw [ew]; exact q1) e1 (wrap64 ((a : Int) + 1), 0) ((a : Int), 0) false (by rw [ew, er1]; exact f1) (by rw [ew, er1]; exact f2) (by rw [ew]; exact ⟨fun h => absurd h hc, fun h => by cases h⟩)).trans ?_
    refine (ss_j4y m l b1 b2 b3 b4 b5 b6 b7 i a (rs s) s q3 q4 q5 q6 e1 (by rw [ew, er2]; exact find_back hm ha g1 g2)).trans ?_
    rw [ew]
    exact h0 _ hn
set_option maxHeartbeats 8000000 in
theorem ss_inner (l : List ByteArray) (hl : l.length ≤ 6000) (b1 b2 b3 b4 b5 b6 b7 : Int) (i : Nat) (hi : i < l.length) (s : ByteArray) (hm : mayB s = true) (e1 : rdOf ByteArray.empty l (i : Int) = s) (h200 : (rs s).length ≤ 4000)
    (hout : Evt (fun k => quilllaw11_SeekStands.l0 k ((i + 1 : Nat) : Int) l b1 b2 b3 b4 b5 b6 b7) true) : ∀ (d a : Nat), (rs s).length - a = d → a ≤ (rs s).length → Evt (fun k => quilllaw11_SeekStands.l1 k i (rs s) a l b1 b2 b3 b4 b5 b6 b7) true := by
  intro d
  induction d with
  | zero =>
    intro a hd hal
    refine Evt.step hout (fun k => ?_)
    rw [quilllaw11_SeekStands.l1, if_neg (by rw [w64] <;> omega), show wrap64 ((i : Int) + 1) = ((i + 1 : Nat) : Int) from by rw [w64] <;> omega]
  | succ d ih =>
    intro a hd hal
    by_cases ha : a + 1 < (rs s).length
    · exact ss_step l b1 b2 b3 b4 b5 b6 b7 i hi s hm e1 a ha h200 (ih (a + 1) (by omega) (by omega))
    · refine Evt.step hout (fun k => ?_)
      rw [quilllaw11_SeekStands.l1, if_neg (by rw [w64] <;> omega), show wrap64 ((i : Int) + 1) = ((i + 1 : Nat) : Int) from by rw [w64] <;> omega]
set_option maxHeartbeats 8000000 in
theorem ss_outer (l : List ByteArray) (hsz : ∀ s ∈ l, s.size ≤ 6000) (hl : l.length ≤ 6000) (b1 b2 b3 b4 b5 b6 b7 : Int) : ∀ (d i : Nat), l.length - i = d → i ≤ l.length → Evt (fun k => quilllaw11_SeekStands.l0 k i l b1 b2 b3 b4 b5 b6 b7) true := by
  have hdone : ∀ i : Nat, ¬ (i < l.length ∧ i < 4) → Evt (fun k => quilllaw11_SeekStands.l0 k i l b1 b2 b3 b4 b5 b6 b7) true := by
    intro i hi
    obtain ⟨k0, h0⟩ := heavy_nil
    dsimp only at h0
    refine ⟨k0 + 2, fun k hk => ?_⟩
    obtain ⟨m, rfl⟩ : ∃ m, k = m + 2 := ⟨k - 2, by omega⟩
    show quilllaw11_SeekStands.l0 (m + 2) i l b1 b2 b3 b4 b5 b6 b7 = some true
    rw [quilllaw11_SeekStands.l0]
    by_cases hil : i < l.length
    · rw [if_pos (by omega), decide_eq_false (by omega), quilllaw11_SeekStands.j1, if_neg (by simp), h0 m (by omega), wakes_f]
      rfl
    · rw [if_neg (by omega), quilllaw11_SeekStands.j1, if_neg (by simp), h0 m (by omega), wakes_f]
      rfl
  intro d
  induction d with
  | zero => intro i hd hi; exact hdone i (by omega)
  | succ d ih =>
    intro i hd hi
    by_cases hi5 : i < 4
    · have hil : i < l.length := by omega
      have hz := hsz l[i] (List.getElem_mem _)
      have e1 : rdOf ByteArray.empty l (i : Int) = l[i] := by simp [rdOf, hil]
      generalize l[i] = s at hz e1
      have hout := ih (i + 1) (by omega) (by omega)
      obtain ⟨k1, h1⟩ := refMay s (by omega)
      dsimp only at h1
      have q4 : (i : Int) < (l.length : Int) := by omega
      have q7 : (i : Int) < 4 := by omega
      by_cases hm : mayB s = true
      · by_cases h200 : ((rs s).length : Int) > 200
        · obtain ⟨k0, h0⟩ := hout
          dsimp only at h0
          refine ⟨k0 + k1 + 3, fun k hk => ?_⟩
          obtain ⟨m, rfl⟩ : ∃ m, k = m + 3 := ⟨k - 3, by omega⟩
          have hn0 : k0 ≤ m := by omega
          have hn1 : k1 ≤ m + 1 := by omega
          clear hk
          show quilllaw11_SeekStands.l0 (m + 3) i l b1 b2 b3 b4 b5 b6 b7 = some true
          rw [quilllaw11_SeekStands.l0, if_pos q4, decide_eq_true q7, quilllaw11_SeekStands.j1, if_pos rfl, if_pos (Int.natCast_nonneg i), if_pos q4, e1, cv_rs (by omega), Option.bind_some, h1 _ hn1, Option.bind_some, if_pos hm,
            decide_eq_true h200, quilllaw11_SeekStands.j2, if_pos rfl, show wrap64 ((i : Int) + 1) = ((i + 1 : Nat) : Int) from by rw [w64] <;> omega]
          exact h0 _ hn0
        · obtain ⟨k0, h0⟩ := ss_inner l hl b1 b2 b3 b4 b5 b6 b7 i hil s hm e1 (by omega) hout (rs s).length 0 rfl (by omega)
          dsimp only at h0
          refine ⟨k0 + k1 + 3, fun k hk => ?_⟩
          obtain ⟨m, rfl⟩ : ∃ m, k = m + 3 := ⟨k - 3, by omega⟩
          have hn0 : k0 ≤ m := by omega
          have hn1 : k1 ≤ m + 1 := by omega
          clear hk
          show quilllaw11_SeekStands.l0 (m + 3) i l b1 b2 b3 b4 b5 b6 b7 = some true
          rw [quilllaw11_SeekStands.l0, if_pos q4, decide_eq_true q7, quilllaw11_SeekStands.j1, if_pos rfl, if_pos (Int.natCast_nonneg i), if_pos q4, e1, cv_rs (by omega), Option.bind_some, h1 _ hn1, Option.bind_some, if_pos hm,
            decide_eq_false h200, quilllaw11_SeekStands.j2, if_neg (by simp)]
          exact h0 _ hn0
      · obtain ⟨k0, h0⟩ := hout
        dsimp only at h0
        refine ⟨k0 + k1 + 3, fun k hk => ?_⟩
        obtain ⟨m, rfl⟩ : ∃ m, k = m + 3 := ⟨k - 3, by omega⟩
        have hn0 : k0 ≤ m := by omega
        have hn1 : k1 ≤ m + 1 := by omega
        clear hk
        show quilllaw11_SeekStands.l0 (m + 3) i l b1 b2 b3 b4 b5 b6 b7 = some true
        rw [quilllaw11_SeekStands.l0, if_pos q4, decide_eq_true q7, quilllaw11_SeekStands.j1, if_pos rfl, if_pos (Int.natCast_nonneg i), if_pos q4, e1, cv_rs (by omega), Option.bind_some, h1 _ hn1, Option.bind_some, if_neg hm,
          quilllaw11_SeekStands.j2, if_pos rfl, show wrap64 ((i : Int) + 1) = ((i + 1 : Nat) : Int) from by rw [w64] <;> omega]
        exact h0 _ hn0
    · exact hdone i (by omega)
theorem SeekStands_pure (l : List ByteArray) (hsz : ∀ s ∈ l, s.size ≤ 140737488355327) (hl : l.length ≤ 140737488355327) (b1 b2 b3 b4 b5 b6 b7 : Int) : ∃ k, quilllaw11_SeekStands.f k l b1 b2 b3 b4 b5 b6 b7 = some true := by
  obtain ⟨t, ⟨k0, h0⟩, ht⟩ := heavy10 l hsz hl b1 b2 b3 b4 b5 b6 b7
  cases t with
  | true => exact ⟨k0, by rw [quilllaw11_SeekStands.f, show quilllaw10_Heavy.f k0 l b1 b2 b3 b4 b5 b6 b7 = some true from h0 k0 (Nat.le_refl _)]; rfl⟩
  | false =>
    obtain ⟨h3, h4⟩ := ht rfl
    obtain ⟨k1, h1⟩ := ss_outer l h3 h4 b1 b2 b3 b4 b5 b6 b7 l.length 0 rfl (by omega)
    refine ⟨k0 + k1, ?_⟩
    rw [quilllaw11_SeekStands.f, show quilllaw10_Heavy.f (k0 + k1) l b1 b2 b3 b4 b5 b6 b7 = some false from h0 _ (by omega), Option.bind_some, if_neg (by simp)]
    exact h1 _ (by omega)
end Go.Proofs.YtfiapekpeiapbaaDoor.Ss
