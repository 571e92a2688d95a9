import Derived.Test.YtfiapekpeiapbaaDoorSfHv
import Derived.Test.YtfiapekpeiapbaaDoorSfx2
/-! SeekFinds, in plain Lean. -/
namespace Go.Proofs.YtfiapekpeiapbaaDoor.Sf
open Go.RowKit Go.Proofs.YtfiapekpeiapbaaDoor.Q Go.Proofs.YtfiapekpeiapbaaDoor.F Go.Lib
open Go.Proofs.YtfiapekpeiapbaaDoorW.PrintWords Go.Proofs.YtfiapekpeiapbaaDoorW.PrintLast Go.Proofs.YtfiapekpeiapbaaDoorW.PrintMore

theorem findR_eq (R : List Int) (a k r c : Int) : findR R a k r c = findL R (begOf R a) (finOf R a) (stepOf k) (shortOf k) r (R.length + 2) (a + stepOf k) c := rfl
theorem num_f (a : Int) : quilllaw11_num.f a = some a := rfl
theorem rune_small {R : List Int} (hv : ∀ x ∈ R, vr x) (i : Int) : wrap64 (rd R i) = rd R i := by
  have : 0 ≤ rd R i ∧ rd R i ≤ 1114111 := by
    unfold rd
    rw [List.getD_eq_getElem?_getD]
    by_cases h : i.toNat < R.length
    · rw [List.getElem?_eq_getElem h]
      have := hv _ (List.getElem_mem h)
      unfold vr at this
      simp only [Option.getD_some]; omega
    · rw [List.getElem?_eq_none (by omega)]; simp
  exact w64 (by omega) (by omega)
theorem begin_loop (R : List Int) (hR : R.length ≤ 4000) : ∀ (d : Nat), d ≤ R.length → ∃ y : Int, Evt (fun k => quillref1_Begin.l0 k R d) y ∧ 0 ≤ y ∧ y ≤ d ∧ (y = 0 ∨ rd R (y - 1) = 10) ∧ ∀ i, y ≤ i → i < d → rd R i ≠ 10
  | 0, _ => ⟨0, Evt.step (Evt.const rfl) (fun k => by rw [quillref1_Begin.l0, if_neg (by omega)]; rfl), by omega, by omega, .inl rfl, fun i h1 h2 => by omega⟩
  | d + 1, hd => by
    have hw : wrap64 (((d + 1 : Nat) : Int) - 1) = (d : Int) := by rw [w64] <;> omega
    by_cases h : rd R (d : Int) = 10
    · refine ⟨((d + 1 : Nat) : Int), Evt.step (Evt.const rfl) (fun k => ?_), by omega, by omega, .inr (by rw [show ((d + 1 : Nat) : Int) - 1 = d by omega]; exact h), fun i h1 h2 => by omega⟩
      rw [quillref1_Begin.l0, if_pos (by omega), hw, if_pos (by omega), if_pos (by omega), if_pos h]
    · obtain ⟨y, he, h0, h1, h2, h3⟩ := begin_loop R hR d (by omega)
      refine ⟨y, Evt.step he (fun k => ?_), h0, by omega, h2, fun i hi1 hi2 => ?_⟩
      · rw [quillref1_Begin.l0, if_pos (by omega), hw, if_pos (by omega), if_pos (by omega), if_neg h]
      · by_cases hi : i = d
        · rw [hi]; exact h
        · exact h3 i hi1 (by omega)
theorem begin_f (R : List Int) (hR : R.length ≤ 4000) (a : Int) (h0 : 0 ≤ a) (h1 : a ≤ R.length) : Evt (fun k => quillref1_Begin.f k R a) (begOf R a) := by
  obtain ⟨d, rfl⟩ : ∃ d : Nat, a = d := ⟨a.toNat, by omega⟩
  obtain ⟨y, he, g0, g1, g2, g3⟩ := begin_loop R hR d (by omega)
  rw [beg_one (x := y) h0 h1 g0 g1 g2 g3]
  exact he.same (fun k => rfl)
theorem end_loop (R : List Int) (hR : R.length ≤ 4000) : ∀ (n d : Nat), R.length - d = n → d ≤ R.length → ∃ y : Int, Evt (fun k => quillref1_End.l0 k R d) y ∧ (d : Int) ≤ y ∧ y ≤ R.length ∧ (y = R.length ∨ rd R y = 10) ∧ ∀ i, (d : Int) ≤ i → i < y → rd R i ≠ 10
  | 0, d, hn, hd => ⟨d, Evt.step (Evt.const rfl) (fun k => by rw [quillref1_End.l0, if_neg (by omega)]), by omega, by omega, .inl (by omega), fun i h1 h2 => by omega⟩
  | n + 1, d, hn, hd => by
    by_cases h : rd R (d : Int) = 10
    · refine ⟨d, Evt.step (Evt.const rfl) (fun k => ?_), by omega, by omega, .inr h, fun i h1 h2 => by omega⟩
      rw [quillref1_End.l0, if_pos (by omega), if_pos (by omega), if_pos h]
    · obtain ⟨y, he, h0, h1, h2, h3⟩ := end_loop R hR n (d + 1) (by omega) (by omega)
      have hw : wrap64 ((d : Int) + 1) = ((d + 1 : Nat) : Int) := by rw [w64] <;> omega
      refine ⟨y, Evt.step he (fun k => ?_), by omega, h1, h2, fun i hi1 hi2 => ?_⟩
      · rw [quillref1_End.l0, if_pos (by omega), if_pos (by omega), if_neg h, hw]
      · by_cases hi : i = d
        · rw [hi]; exact h
        · exact h3 i (by omega) hi2
theorem end_f (R : List Int) (hR : R.length ≤ 4000) (a : Int) (h0 : 0 ≤ a) (h1 : a ≤ R.length) : Evt (fun k => quillref1_End.f k R a) (finOf R a) := by
  obtain ⟨d, rfl⟩ : ∃ d : Nat, a = d := ⟨a.toNat, by omega⟩
  obtain ⟨y, he, g0, g1, g2, g3⟩ := end_loop R hR (R.length - d) d rfl (by omega)
  rw [fin_one (x := y) h0 h1 g0 g1 g2 g3]
  exact he.same (fun k => rfl)
/-- The model's loop tells what Seek's tells. -/
theorem find_loop (R : List Int) (hv : ∀ x ∈ R, vr x) (hR : R.length ≤ 4000) (key r lo hi st : Int) (hlo : 0 ≤ lo) (hhi : hi ≤ R.length) (hst : st = 1 ∨ st = -1) : ∀ (n : Nat) (i c : Int), -1 ≤ i → i ≤ R.length + 1 → 1 ≤ c → c ≤ 999 → (st = 1 → hi - i < n) → (st = -1 → i - lo + 1 < n) → 0 < n →
    Evt (fun k => quillref10_Find.l0 k R key r c st lo hi i) (findL R lo hi st (if key = 116 ∨ key = 84 then st else 0) r n i c) := by
  intro n
  induction n with
  | zero => intro i c _ _ _ _ _ _ h; omega
  | succ n ih =>
    intro i c h1 h2 h3 h4 h5 h6 _
    have hout : ¬ (lo ≤ i ∧ i < hi) → Evt (fun k => quillref10_Find.l0 k R key r c st lo hi i) (findL R lo hi st (if key = 116 ∨ key = 84 then st else 0) r (n + 1) i c) := by
      intro h
      rw [show findL R lo hi st (if key = 116 ∨ key = 84 then st else 0) r (n + 1) i c = (0, 6) by unfold findL; rw [if_neg h]]
      refine ⟨2, fun k hk => ?_⟩
      obtain ⟨m, rfl⟩ : ∃ m, k = m + 2 := ⟨k - 2, by omega⟩
      show quillref10_Find.l0 (m + 2) R key r c st lo hi i = some (0, 6)
      rw [quillref10_Find.l0]
      by_cases h7 : i ≥ lo
      · rw [if_pos h7, quillref10_Find.j2, decide_eq_false (by omega), if_neg Bool.false_ne_true]
      · rw [if_neg h7, quillref10_Find.j2, if_neg Bool.false_ne_true]
    by_cases h : lo ≤ i ∧ i < hi
    · have q0 : (0 : Int) ≤ i := by omega
      have q1 : i < (R.length : Int) := by omega
      have ew : wrap64 (i + st) = i + st := w64 (by omega) (by omega)
      have ew2 : wrap64 (i - st) = i - st := w64 (by omega) (by omega)
      have ec : wrap64 (c - 1) = c - 1 := w64 (by omega) (by omega)
      have er := rune_small hv i
      unfold findL
      rw [if_pos h]
      by_cases hr : rd R i = r
      · rw [if_pos hr]
        by_cases hc : c - 1 = 0
        · rw [if_pos hc]
          refine ⟨2, fun k hk => ?_⟩
          obtain ⟨m, rfl⟩ : ∃ m, k = m + 2 := ⟨k - 2, by omega⟩
          show quillref10_Find.l0 (m + 2) R key r c st lo hi i = _
          rw [quillref10_Find.l0, if_pos h.1, decide_eq_true h.2, quillref10_Find.j2, if_pos rfl, if_pos q0, if_pos q1, er, if_pos hr, ec, if_pos hc, ew2]
          by_cases k1 : key = 116
          · rw [if_pos k1, if_pos (.inl k1)]
          · rw [if_neg k1]
            by_cases k2 : key = 84
            · rw [if_pos k2, if_pos (.inr k2)]
            · rw [if_neg k2, if_neg (fun h => h.elim k1 k2), Int.sub_zero]
        · rw [if_neg hc]
          obtain ⟨k0, h0⟩ := ih (i + st) (c - 1) (by omega) (by omega) (by omega) (by omega) (by omega) (by omega) (by omega)
          dsimp only at h0
          refine ⟨k0 + 2, fun k hk => ?_⟩
          obtain ⟨m, rfl⟩ : ∃ m, k = m + 2 := ⟨k - 2, by omega⟩
          have hn : k0 ≤ m := by omega
          show quillref10_Find.l0 (m + 2) R key r c st lo hi i = _
          rw [quillref10_Find.l0, if_pos h.1, decide_eq_true h.2, quillref10_Find.j2, if_pos rfl, if_pos q0, if_pos q1, er, if_pos hr, ec, if_neg hc, ew]
          exact h0 m hn
      · rw [if_neg hr, if_neg (show ¬ c = 0 by omega)]
        obtain ⟨k0, h0⟩ := ih (i + st) c (by omega) (by omega) h3 h4 (by omega) (by omega) (by omega)
        dsimp only at h0
        refine ⟨k0 + 2, fun k hk => ?_⟩
        obtain ⟨m, rfl⟩ : ∃ m, k = m + 2 := ⟨k - 2, by omega⟩
        have hn : k0 ≤ m := by omega
        show quillref10_Find.l0 (m + 2) R key r c st lo hi i = _
        rw [quillref10_Find.l0, if_pos h.1, decide_eq_true h.2, quillref10_Find.j2, if_pos rfl, if_pos q0, if_pos q1, er, if_neg hr, ew]
        exact h0 m hn
    · exact hout h
theorem isKey_four {k : Int} (h : isKey k = true) : k = 102 ∨ k = 70 ∨ k = 116 ∨ k = 84 := by
  unfold isKey at h
  simp only [Bool.or_eq_true, beq_iff_eq] at h
  omega
theorem find_f (R : List Int) (hv : ∀ x ∈ R, vr x) (hR : R.length ≤ 4000) (a key r c : Int) (h0 : 0 ≤ a) (h1 : a ≤ R.length) (hk : isKey key = true) (hc : 1 ≤ c) (hc2 : c ≤ 999) : Evt (fun k => quillref10_Find.f k R a key r c) (findR R a key r c) := by
  obtain ⟨⟨g0, g1, _, _⟩, f0, f1, _, _⟩ := row_spec R a h0 h1
  obtain ⟨k1, b1⟩ := begin_f R hR a h0 h1
  obtain ⟨k2, b2⟩ := end_f R hR a h0 h1
  have hst : stepOf key = (if key < 97 then -1 else 1) ∧ (stepOf key = 1 ∨ stepOf key = -1) := by
    rcases isKey_four hk with rfl | rfl | rfl | rfl <;> decide
  have ew : wrap64 (a + stepOf key) = a + stepOf key := w64 (by rcases hst.2 with h | h <;> omega) (by rcases hst.2 with h | h <;> omega)
  obtain ⟨k3, b3⟩ := find_loop R hv hR key r (begOf R a) (finOf R a) (stepOf key) g0 f1 hst.2 (R.length + 2) (a + stepOf key) c (by rcases hst.2 with h | h <;> omega) (by rcases hst.2 with h | h <;> omega) hc hc2 (by intro h; omega) (by intro h; omega) (by omega)
  dsimp only at b1 b2 b3
  rw [findR_eq, show shortOf key = (if key = 116 ∨ key = 84 then stepOf key else 0) from rfl]
  refine ⟨k1 + k2 + k3 + 1, fun k hk => ?_⟩
  obtain ⟨m, rfl⟩ : ∃ m, k = m + 1 := ⟨k - 1, by omega⟩
  have n1 : k1 ≤ m := by omega
  have n2 : k2 ≤ m := by omega
  have n3 : k3 ≤ m := by omega
  show quillref10_Find.f (m + 1) R a key r c = _
  rw [quillref10_Find.f]
  by_cases hlt : key < 97
  · rw [if_pos hlt] at hst
    rw [if_pos hlt, quillref10_Find.j0, b1 m n1, Option.bind_some, b2 m n2, Option.bind_some]
    have := b3 m n3
    rw [hst.1] at this ew ⊢
    rw [ew]
    exact this
  · rw [if_neg hlt] at hst
    rw [if_neg hlt, quillref10_Find.j0, b1 m n1, Option.bind_some, b2 m n2, Option.bind_some]
    have := b3 m n3
    rw [hst.1] at this ew ⊢
    rw [ew]
    exact this
theorem in_loop (xs : List Int) (hx : xs.length ≤ 4000) (a : Int) : ∀ (n i : Nat), xs.length - i = n → i ≤ xs.length → ∃ t, Evt (fun k => quillref0_In.l0 k xs a i) t ∧ (t ≥ 0 ↔ a ∈ xs.drop i)
  | 0, i, hn, hi => ⟨-1, Evt.step (Evt.const rfl) (fun k => by rw [quillref0_In.l0, if_neg (by omega)]), by rw [List.drop_eq_nil_of_le (by omega)]; simp⟩
  | n + 1, i, hn, hi => by
    have hil : i < xs.length := by omega
    rw [List.drop_eq_getElem_cons hil]
    have hrd : rd xs (i : Int) = xs[i] := rd_nat xs i hil
    by_cases h : xs[i] = a
    · refine ⟨i, Evt.step (Evt.const rfl) (fun k => ?_), by simp [h]⟩
      rw [quillref0_In.l0, if_pos (Int.ofNat_lt.2 hil), if_pos (Int.natCast_nonneg i), hrd, if_pos h]
    · obtain ⟨t, he, ht⟩ := in_loop xs hx a n (i + 1) (by omega) (by omega)
      refine ⟨t, Evt.step he (fun k => ?_), by rw [ht, List.mem_cons]; exact ⟨.inr, fun q => q.elim (fun e => absurd e.symm h) id⟩⟩
      rw [quillref0_In.l0, if_pos (Int.ofNat_lt.2 hil), if_pos (Int.natCast_nonneg i), hrd, if_neg h, show wrap64 ((i : Int) + 1) = ((i + 1 : Nat) : Int) from by rw [w64] <;> omega]
theorem seek_ref (key : Int) : Evt (fun k => quillref10_Seek.f k key) (isKey key) := by
  obtain ⟨t, he, ht⟩ := in_loop [102, 70, 116, 84] (by simp) key 4 0 rfl (by simp)
  have e : decide (t ≥ 0) = isKey key := by
    unfold isKey
    by_cases h : t ≥ 0
    · rw [decide_eq_true h]
      have := ht.1 h
      simp at this
      rcases this with h | h | h | h <;> simp [h]
    · rw [decide_eq_false h]
      have := fun q => h (ht.2 q)
      simp at this
      simp [this]
  refine Evt.same (Evt.bind (f := fun k => quillref0_In.f k [102, 70, 116, 84] key) (g := fun _ t163 => some (decide (t163 ≥ 0))) he (Evt.const (by rw [e]))) (fun k => rfl)
theorem num0_f (a b : Int) : quillref0_Num.f a b = some (decide (0 ≤ a) && decide (a ≤ b)) := by
  rw [quillref0_Num.f]
  by_cases h : a ≥ 0
  · rw [if_pos h, decide_eq_true h, Bool.true_and]
  · rw [if_neg h, decide_eq_false h, Bool.false_and]
section
variable (l : List ByteArray) (b1 b2 b3 b4 b5 b6 b7 : Int)
theorem sf_l3 (m : Nat) (keys : List Int) (x4 : Int) (s : ByteArray) (R ats rns : List Int) (j k r : Int) (q1 : 0 ≤ j) (q2 : j < ats.length) (q3 : 0 ≤ k) (q4 : k < keys.length) (q5 : 0 ≤ r) (q6 : r < rns.length) (x e : Int)
    (hf : findF s (rd ats j) (rd keys k) (rd rns r) (wrap64 (1 + (Int.tmod (wrap64 (j + r)) 3))) = (x, e)) (hm : quillref1_May.f m s = some (mayB s)) (hs : quillref10_Seek.f m (rd keys k) = some (isKey (rd keys k))) (b : Bool)
    (hb : b = (mayB s && ((decide (0 ≤ rd ats j) && decide (rd ats j ≤ R.length)) && isKey (rd keys k)))) :
    quilllaw11_SeekFinds.l3 (m + 1) keys x4 s R ats rns j k r l b1 b2 b3 b4 b5 b6 b7 = quilllaw11_SeekFinds.j6 m keys x4 s R ats rns j k r (wrap64 (1 + (Int.tmod (wrap64 (j + r)) 3))) x e 1 0 b l b1 b2 b3 b4 b5 b6 b7 := by
  rw [quilllaw11_SeekFinds.l3, if_pos q6, if_pos q1, if_pos q2, if_pos q3, if_pos q4, if_pos q5, seek_Find.f, hf, Option.bind_some, hm, Option.bind_some]
  by_cases c1 : mayB s = true
  · rw [if_pos c1, num0_f, Option.bind_some]
    by_cases c2 : (decide (0 ≤ rd ats j) && decide (rd ats j ≤ (R.length : Int))) = true
    · rw [if_pos c2, hs, Option.bind_some, hb, c1, c2, Bool.true_and, Bool.true_and]
    · rw [if_neg c2, hb, c1]
      rw [Bool.not_eq_true] at c2
      rw [c2, Bool.false_and, Bool.and_false]
  · rw [if_neg c1, hb]
    rw [Bool.not_eq_true] at c1
    rw [c1, Bool.false_and]
theorem sf_j6t (m : Nat) (keys : List Int) (x4 : Int) (s : ByteArray) (R ats rns : List Int) (j k r n : Int) (q1 : 0 ≤ j) (q2 : j < ats.length) (q3 : 0 ≤ k) (q4 : k < keys.length) (q5 : 0 ≤ r) (q6 : r < rns.length) (x e : Int)
    (hr : quillref10_Find.f m R (rd ats j) (rd keys k) (rd rns r) n = some (x, e)) :
    quilllaw11_SeekFinds.j6 (m + 1) keys x4 s R ats rns j k r n x e 1 0 true l b1 b2 b3 b4 b5 b6 b7 = quilllaw11_SeekFinds.l3 m keys x4 s R ats rns j k (wrap64 (r + 1)) l b1 b2 b3 b4 b5 b6 b7 := by
  rw [quilllaw11_SeekFinds.j6, if_pos rfl, if_pos q1, if_pos q2, if_pos q3, if_pos q4, if_pos q5, if_pos q6, hr, Option.bind_some, num_f, Option.bind_some, if_pos (Eq.refl e), if_pos (Eq.refl x)]
theorem sf_j6f (m : Nat) (keys : List Int) (x4 : Int) (s : ByteArray) (R ats rns : List Int) (j k r n : Int) :
    quilllaw11_SeekFinds.j6 (m + 1) keys x4 s R ats rns j k r n 0 1 1 0 false l b1 b2 b3 b4 b5 b6 b7 = quilllaw11_SeekFinds.l3 m keys x4 s R ats rns j k (wrap64 (r + 1)) l b1 b2 b3 b4 b5 b6 b7 := by
  rw [quilllaw11_SeekFinds.j6, if_neg Bool.false_ne_true, num_f, Option.bind_some, if_pos (Eq.refl (1 : Int)), if_pos (Eq.refl (0 : Int))]
theorem sf_l3e (m : Nat) (keys : List Int) (x4 : Int) (s : ByteArray) (R ats rns : List Int) (j k r : Int) (q : ¬ r < rns.length) :
    quilllaw11_SeekFinds.l3 (m + 1) keys x4 s R ats rns j k r l b1 b2 b3 b4 b5 b6 b7 = quilllaw11_SeekFinds.l2 m keys x4 s R ats rns j (wrap64 (k + 1)) l b1 b2 b3 b4 b5 b6 b7 := by
  rw [quilllaw11_SeekFinds.l3, if_neg q]
theorem sf_l2e (m : Nat) (keys : List Int) (x4 : Int) (s : ByteArray) (R ats rns : List Int) (j k : Int) (q : ¬ k < keys.length) :
    quilllaw11_SeekFinds.l2 (m + 1) keys x4 s R ats rns j k l b1 b2 b3 b4 b5 b6 b7 = quilllaw11_SeekFinds.l1 m keys x4 s R ats rns (wrap64 (j + 1)) l b1 b2 b3 b4 b5 b6 b7 := by
  rw [quilllaw11_SeekFinds.l2, if_neg q]
theorem sf_l2 (m : Nat) (keys : List Int) (x4 : Int) (s : ByteArray) (R ats rns : List Int) (j k : Int) (q : k < keys.length) :
    quilllaw11_SeekFinds.l2 (m + 1) keys x4 s R ats rns j k l b1 b2 b3 b4 b5 b6 b7 = quilllaw11_SeekFinds.l3 m keys x4 s R ats rns j k 0 l b1 b2 b3 b4 b5 b6 b7 := by
  rw [quilllaw11_SeekFinds.l2, if_pos q]
theorem sf_l1 (m : Nat) (keys : List Int) (x4 : Int) (s : ByteArray) (R ats rns : List Int) (j : Int) (q : j < ats.length) :
    quilllaw11_SeekFinds.l1 (m + 1) keys x4 s R ats rns j l b1 b2 b3 b4 b5 b6 b7 = quilllaw11_SeekFinds.l2 m keys x4 s R ats rns j 0 l b1 b2 b3 b4 b5 b6 b7 := by
  rw [quilllaw11_SeekFinds.l1, if_pos q]
theorem sf_l1e (m : Nat) (keys : List Int) (x4 : Int) (s : ByteArray) (R ats rns : List Int) (j : Int) (q : ¬ j < ats.length) (hf : findF s 0 102 97 0 = (0, 1)) :
    quilllaw11_SeekFinds.l1 (m + 1) keys x4 s R ats rns j l b1 b2 b3 b4 b5 b6 b7 = quilllaw11_SeekFinds.l0 m keys (wrap64 (x4 + 1)) l b1 b2 b3 b4 b5 b6 b7 := by
  rw [quilllaw11_SeekFinds.l1, if_neg q, seek_Find.f, hf, Option.bind_some, num_f, Option.bind_some, if_pos (Eq.refl (1 : Int))]
/-- One text's checks. -/
theorem sf_runes (keys : List Int) (hkl : keys.length ≤ 10) (x4 : Int) (s : ByteArray) (hs : s.size ≤ 6000) (ats rns : List Int) (hal : ats.length ≤ 100) (hrl : rns.length ≤ 10) (j k : Nat) (hj : j < ats.length) (hk : k < keys.length)
    (hout : Evt (fun q => quilllaw11_SeekFinds.l2 q keys x4 s (rs s) ats rns j ((k + 1 : Nat) : Int) l b1 b2 b3 b4 b5 b6 b7) true) :
    ∀ (d r : Nat), rns.length - r = d → r ≤ rns.length → Evt (fun q => quilllaw11_SeekFinds.l3 q keys x4 s (rs s) ats rns j k r l b1 b2 b3 b4 b5 b6 b7) true := by
  intro d
  induction d with
  | zero =>
    intro r hd hr
    refine Evt.step hout (fun q => ?_)
    rw [sf_l3e _ _ _ _ _ _ _ _ _ _ _ _ _ _ _ _ _ _ (by omega), show wrap64 ((k : Int) + 1) = ((k + 1 : Nat) : Int) from by rw [w64] <;> omega]
  | succ d ih =>
    intro r hd hr
    have hrl2 : r < rns.length := by omega
    obtain ⟨k0, h0⟩ := ih (r + 1) (by omega) (by omega)
    obtain ⟨k1, h1⟩ := refMay s (by omega)
    obtain ⟨k2, h2⟩ := seek_ref (rd keys k)
    have hc : ∃ c : Int, wrap64 (1 + (Int.tmod (wrap64 ((j : Int) + r)) 3)) = c ∧ 1 ≤ c ∧ c ≤ 999 := by
      have e1 : wrap64 ((j : Int) + r) = (j : Int) + r := w64 (by omega) (by omega)
      rw [e1]
      have t0 : 0 ≤ Int.tmod ((j : Int) + r) 3 := Int.tmod_nonneg _ (by omega)
      have t1 : Int.tmod ((j : Int) + r) 3 < 3 := Int.tmod_lt_of_pos _ (by omega)
      exact ⟨_, w64 (by omega) (by omega), by omega, by omega⟩
    obtain ⟨c, hce, hc1, hc2⟩ := hc
    have ew : wrap64 ((r : Int) + 1) = ((r + 1 : Nat) : Int) := w64 (by omega) (by omega)
    dsimp only at h0 h1 h2
    have a1 : (0 : Int) ≤ j := Int.natCast_nonneg j
    have a2 : (j : Int) < ats.length := Int.ofNat_lt.2 hj
    have a3 : (0 : Int) ≤ k := Int.natCast_nonneg k
    have a4 : (k : Int) < keys.length := Int.ofNat_lt.2 hk
    have a5 : (0 : Int) ≤ r := Int.natCast_nonneg r
    have a6 : (r : Int) < rns.length := Int.ofNat_lt.2 hrl2
    by_cases hb : (mayB s && ((decide (0 ≤ rd ats j) && decide (rd ats j ≤ ((rs s).length : Int))) && isKey (rd keys k))) = true
    · have hb2 := hb
      simp only [Bool.and_eq_true, decide_eq_true_eq] at hb2
      obtain ⟨m1, ⟨m2, m3⟩, m4⟩ := hb2
      obtain ⟨k3, h3⟩ := find_f (rs s) (runes_vr s.data.toList) (rs_len (mayB_size m1)) (rd ats j) (rd keys k) (rd rns r) c m2 m3 m4 hc1 hc2
      dsimp only at h3
      have hf : findF s (rd ats j) (rd keys k) (rd rns r) c = findR (rs s) (rd ats j) (rd keys k) (rd rns r) c := by
        unfold findF; rw [if_pos ⟨m1, m4, hc1, hc2⟩, if_pos ⟨m2, m3⟩]
      refine ⟨k0 + k1 + k2 + k3 + 2, fun q hq => ?_⟩
      obtain ⟨m, rfl⟩ : ∃ m, q = m + 2 := ⟨q - 2, by omega⟩
      have n0 : k0 ≤ m := by omega
      have n1 : k1 ≤ m + 1 := by omega
      have n2 : k2 ≤ m + 1 := by omega
      have n3 : k3 ≤ m := by omega
      clear hq
      rw [← hce] at hf h3
      refine (sf_l3 l b1 b2 b3 b4 b5 b6 b7 (m + 1) keys x4 s (rs s) ats rns j k r a1 a2 a3 a4 a5 a6 _ _ (hf.trans rfl) (h1 _ n1) (h2 _ n2) true hb.symm).trans ?_
      refine (sf_j6t l b1 b2 b3 b4 b5 b6 b7 m keys x4 s (rs s) ats rns j k r _ a1 a2 a3 a4 a5 a6 _ _ (h3 m n3)).trans ?_
      rw [ew]
      exact h0 m n0
    · have hf : findF s (rd ats j) (rd keys k) (rd rns r) c = (0, 1) := by
        unfold findF
        by_cases m1 : mayB s = true ∧ isKey (rd keys k) = true ∧ 1 ≤ c ∧ c ≤ 999
        · rw [if_pos m1, if_neg (fun m2 => hb (by simp [m1.1, m1.2.1, m2.1, m2.2]))]
        · rw [if_neg m1]
      rw [Bool.not_eq_true] at hb
      refine ⟨k0 + k1 + k2 + 2, fun q hq => ?_⟩
      obtain ⟨m, rfl⟩ : ∃ m, q = m + 2 := ⟨q - 2, by omega⟩
      have n0 : k0 ≤ m := by omega
      have n1 : k1 ≤ m + 1 := by omega
      have n2 : k2 ≤ m + 1 := by omega
      clear hq
      rw [← hce] at hf
      refine (sf_l3 l b1 b2 b3 b4 b5 b6 b7 (m + 1) keys x4 s (rs s) ats rns j k r a1 a2 a3 a4 a5 a6 _ _ hf (h1 _ n1) (h2 _ n2) false hb.symm).trans ?_
      refine (sf_j6f l b1 b2 b3 b4 b5 b6 b7 m keys x4 s (rs s) ats rns j k r _).trans ?_
      rw [ew]
      exact h0 m n0
theorem sf_keys (keys : List Int) (hkl : keys.length ≤ 10) (x4 : Int) (s : ByteArray) (hs : s.size ≤ 6000) (ats rns : List Int) (hal : ats.length ≤ 100) (hrl : rns.length ≤ 10) (j : Nat) (hj : j < ats.length)
    (hout : Evt (fun q => quilllaw11_SeekFinds.l1 q keys x4 s (rs s) ats rns ((j + 1 : Nat) : Int) l b1 b2 b3 b4 b5 b6 b7) true) :
    ∀ (d k : Nat), keys.length - k = d → k ≤ keys.length → Evt (fun q => quilllaw11_SeekFinds.l2 q keys x4 s (rs s) ats rns j k l b1 b2 b3 b4 b5 b6 b7) true := by
  intro d
  induction d with
  | zero =>
    intro k hd hk
    refine Evt.step hout (fun q => ?_)
    rw [sf_l2e _ _ _ _ _ _ _ _ _ _ _ _ _ _ _ _ _ (by omega), show wrap64 ((j : Int) + 1) = ((j + 1 : Nat) : Int) from by rw [w64] <;> omega]
  | succ d ih =>
    intro k hd hk
    have hk2 : k < keys.length := by omega
    exact Evt.step (sf_runes l b1 b2 b3 b4 b5 b6 b7 keys hkl x4 s hs ats rns hal hrl j k hj hk2 (ih (k + 1) (by omega) (by omega)) rns.length 0 rfl (by omega))
      (fun q => sf_l2 l b1 b2 b3 b4 b5 b6 b7 q keys x4 s (rs s) ats rns j k (Int.ofNat_lt.2 hk2))
theorem sf_ats (keys : List Int) (hkl : keys.length ≤ 10) (i : Nat) (hi : i ≤ 10000) (s : ByteArray) (hs : s.size ≤ 6000) (ats rns : List Int) (hal : ats.length ≤ 100) (hrl : rns.length ≤ 10)
    (hout : Evt (fun q => quilllaw11_SeekFinds.l0 q keys ((i + 1 : Nat) : Int) l b1 b2 b3 b4 b5 b6 b7) true) :
    ∀ (d j : Nat), ats.length - j = d → j ≤ ats.length → Evt (fun q => quilllaw11_SeekFinds.l1 q keys i s (rs s) ats rns j l b1 b2 b3 b4 b5 b6 b7) true := by
  intro d
  induction d with
  | zero =>
    intro j hd hj
    refine Evt.step hout (fun q => ?_)
    rw [sf_l1e l b1 b2 b3 b4 b5 b6 b7 q keys i s (rs s) ats rns j (by omega) (by unfold findF; rw [if_neg (by omega)]), show wrap64 ((i : Int) + 1) = ((i + 1 : Nat) : Int) from by rw [w64] <;> omega]
  | succ d ih =>
    intro j hd hj
    have hj2 : j < ats.length := by omega
    exact Evt.step (sf_keys l b1 b2 b3 b4 b5 b6 b7 keys hkl i s hs ats rns hal hrl j hj2 (ih (j + 1) (by omega) (by omega)) keys.length 0 rfl (by omega))
      (fun q => sf_l1 l b1 b2 b3 b4 b5 b6 b7 q keys i s (rs s) ats rns j (Int.ofNat_lt.2 hj2))
theorem offs_loop (R : List Int) (hR : R.length ≤ 100000) : ∀ (n i : Nat) (acc : List Int), 13 - i = n → i ≤ 13 → acc.length ≤ 3 + i → ∃ ts, Evt (fun k => quilllaw10_Offsets.l0 k R acc i l b1 b2 b3 b4 b5 b6 b7) ts ∧ ts.length ≤ 20
  | 0, i, acc, hn, hi, ha => ⟨acc, Evt.step (Evt.const rfl) (fun k => by
      rw [quilllaw10_Offsets.l0]
      by_cases h : (i : Int) ≤ R.length
      · rw [if_pos h, if_neg (by omega)]
      · rw [if_neg h]), by omega⟩
  | n + 1, i, acc, hn, hi, ha => by
    by_cases h : (i : Int) ≤ R.length
    · by_cases h12 : (i : Int) < 12
      · have hw : ∃ t, quilllaw0_Within.f (wrap64 (b1 + (wrap64 ((i : Int) * (wrap64 (1 + (wrap64 ((R.length : Int) / 12)))))))) (wrap64 ((R.length : Int) + 1)) = some t := by
          have e : wrap64 ((R.length : Int) + 1) = (R.length : Int) + 1 := w64 (by omega) (by omega)
          rw [e, quilllaw0_Within.f, if_neg]
          · exact ⟨_, rfl⟩
          · rw [show IntKind.u64.wrap ((R.length : Int) + 1) = (R.length : Int) + 1 from by unfold IntKind.wrap; simp [IntKind.bits, IntKind.signed]; omega]
            omega
        obtain ⟨t, hw⟩ := hw
        obtain ⟨ts, he, hl⟩ := offs_loop R hR n (i + 1) (acc ++ [t]) (by omega) (by omega) (by simp; omega)
        refine ⟨ts, Evt.step he (fun k => ?_), hl⟩
        rw [quilllaw10_Offsets.l0, if_pos h, if_pos h12, hw, Option.bind_some, if_pos (by omega), show wrap64 ((i : Int) + 1) = ((i + 1 : Nat) : Int) from w64 (by omega) (by omega)]
      · exact ⟨acc, Evt.step (Evt.const rfl) (fun k => by rw [quilllaw10_Offsets.l0, if_pos h, if_neg h12]), by omega⟩
    · exact ⟨acc, Evt.step (Evt.const rfl) (fun k => by rw [quilllaw10_Offsets.l0, if_neg h]), by omega⟩
theorem turned_four : (∀ k : Int, k = 102 ∨ k = 70 ∨ k = 116 ∨ k = 84 → ∃ x, seek_Turned.f k = some (x, 0) ∧ quillref10_Turned.f k = some x) ∧ ∀ k : Int, isKey k = false → seek_Turned.f k = some (0, 1) := by
  have hIs : ∀ k : Int, Fa.seek_Is.f k = some (isKey k) := fun k => by
    unfold Fa.seek_Is.f isKey
    by_cases c1 : k = 102
    · simp [c1]
    · by_cases c2 : k = 70
      · simp [c2]
      · by_cases c3 : k = 116
        · simp [c3]
        · simp [c1, c2, c3]
  constructor
  · rintro k (rfl | rfl | rfl | rfl)
    · exact ⟨70, by rw [seek_Turned.f, hIs]; kernel_rfl, by kernel_rfl⟩
    · exact ⟨102, by rw [seek_Turned.f, hIs]; kernel_rfl, by kernel_rfl⟩
    · exact ⟨84, by rw [seek_Turned.f, hIs]; kernel_rfl, by kernel_rfl⟩
    · exact ⟨116, by rw [seek_Turned.f, hIs]; kernel_rfl, by kernel_rfl⟩
  · intro k hk
    rw [seek_Turned.f, hIs, Option.bind_some, hk, if_neg Bool.false_ne_true]
theorem wakes_f : quilllaw11_wakes.f = some true := by
  have h : findF (⟨#[97, 98, 99, 98]⟩ : ByteArray) 0 102 98 2 = (3, 0) := by kernel_rfl
  rw [quilllaw11_wakes.f, seek_Find.f, h]
  rfl
theorem sf_l4t (m : Nat) (keys : List Int) (i x : Int) (q0 : 0 ≤ i) (q1 : i < keys.length) (h1 : seek_Turned.f (rd keys i) = some (x, 0)) (h2 : quillref10_Turned.f (rd keys i) = some x) (h3 : quillref10_Seek.f m (rd keys i) = some true) :
    quilllaw11_SeekFinds.l4 (m + 1) keys i = quilllaw11_SeekFinds.l4 m keys (wrap64 (i + 1)) := by
  rw [quilllaw11_SeekFinds.l4, if_pos q1, if_pos q0, h1, Option.bind_some, h3, Option.bind_some, num_f, Option.bind_some, if_neg (by simp), Option.bind_some, if_pos (Eq.refl (0 : Int)), h2, Option.bind_some, if_pos (Eq.refl x)]
theorem sf_l4f (m : Nat) (keys : List Int) (i : Int) (q0 : 0 ≤ i) (q1 : i < keys.length) (h1 : seek_Turned.f (rd keys i) = some (0, 1)) (h3 : quillref10_Seek.f m (rd keys i) = some false) :
    quilllaw11_SeekFinds.l4 (m + 1) keys i = quilllaw11_SeekFinds.l4 m keys (wrap64 (i + 1)) := by
  rw [quilllaw11_SeekFinds.l4, if_pos q1, if_pos q0, h1, Option.bind_some, h3, Option.bind_some, num_f, Option.bind_some, if_neg (by decide), Option.bind_some, if_neg (by decide)]
theorem sf_turns (keys : List Int) (hkl : keys.length ≤ 10) : ∀ (d i : Nat), keys.length - i = d → i ≤ keys.length → Evt (fun k => quilllaw11_SeekFinds.l4 k keys i) true := by
  intro d
  induction d with
  | zero =>
    intro i hd hi
    refine Evt.step (Evt.const rfl) (fun k => ?_)
    rw [quilllaw11_SeekFinds.l4, if_neg (by omega), wakes_f]
    rfl
  | succ d ih =>
    intro i hd hi
    have hil : i < keys.length := by omega
    obtain ⟨k0, h0⟩ := ih (i + 1) (by omega) (by omega)
    obtain ⟨k2, h2⟩ := seek_ref (rd keys i)
    dsimp only at h0 h2
    refine ⟨k0 + k2 + 1, fun k hk => ?_⟩
    obtain ⟨m, rfl⟩ : ∃ m, k = m + 1 := ⟨k - 1, by omega⟩
    have n0 : k0 ≤ m := by omega
    have n2 : k2 ≤ m := by omega
    clear hk
    have ew : wrap64 ((i : Int) + 1) = ((i + 1 : Nat) : Int) := w64 (by omega) (by omega)
    by_cases hk : isKey (rd keys i) = true
    · obtain ⟨x, t1, t2⟩ := turned_four.1 (rd keys i) (isKey_four hk)
      refine (sf_l4t m keys i x (Int.natCast_nonneg i) (Int.ofNat_lt.2 hil) t1 t2 (by rw [h2 m n2, hk])).trans ?_
      rw [ew]
      exact h0 m n0
    · rw [Bool.not_eq_true] at hk
      refine (sf_l4f m keys i (Int.natCast_nonneg i) (Int.ofNat_lt.2 hil) (turned_four.2 _ hk) (by rw [h2 m n2, hk])).trans ?_
      rw [ew]
      exact h0 m n0
theorem sf_j1 (m : Nat) (keys : List Int) (i : Int) (s : ByteArray) (ts rns : List Int) (q0 : 0 ≤ i) (q1 : i < l.length) (e1 : rdOf ByteArray.empty l i = s) (hs : s.size ≤ 6000) (hts : quilllaw10_Offsets.f (m + 1) l b1 b2 b3 b4 b5 b6 b7 (rs s) = some ts)
    (hr : rns = (if 0 < (rs s).length then [b7, 97, 32, 10, wrap64 (rd (rs s) (wrap64 (((rs s).length : Int) / 2)))] else [b7, 97, 32, 10])) :
    quilllaw11_SeekFinds.j1 (m + 2) keys i true l b1 b2 b3 b4 b5 b6 b7 = quilllaw11_SeekFinds.l1 m keys i s (rs s) ts rns 0 l b1 b2 b3 b4 b5 b6 b7 := by
  have hln := runes_length_le s.data.toList
  have hln2 : (rs s).length ≤ 6000 := by
    unfold rs
    simp at hln
    omega
  rw [quilllaw11_SeekFinds.j1, if_pos rfl, if_pos q0, if_pos q1, e1, cv_rs (by omega), Option.bind_some, hts, Option.bind_some, Option.bind_some]
  by_cases h : 0 < (rs s).length
  · have ew : wrap64 (((rs s).length : Int) / 2) = ((rs s).length : Int) / 2 := w64 (by omega) (by omega)
    rw [if_pos h] at hr
    rw [if_pos (show ((rs s).length : Int) > 0 by omega), ew, if_pos (by omega), if_pos (by omega), if_pos (by simp), quilllaw11_SeekFinds.j2, hr, ew]
    rfl
  · rw [if_neg h] at hr
    rw [if_neg (show ¬ ((rs s).length : Int) > 0 by omega), quilllaw11_SeekFinds.j2, hr]
theorem sf_outer (hsz : ∀ s ∈ l, s.size ≤ 6000) (hl : l.length ≤ 6000) (keys : List Int) (hkl : keys.length ≤ 10) : ∀ (d i : Nat), l.length - i = d → i ≤ l.length → Evt (fun k => quilllaw11_SeekFinds.l0 k keys i l b1 b2 b3 b4 b5 b6 b7) true := by
  have hdone : ∀ i : Nat, ¬ (i < l.length ∧ i < 4) → Evt (fun k => quilllaw11_SeekFinds.l0 k keys i l b1 b2 b3 b4 b5 b6 b7) true := by
    intro i hi
    obtain ⟨k0, h0⟩ := sf_turns keys hkl keys.length 0 rfl (by omega)
    dsimp only at h0
    refine ⟨k0 + 2, fun k hk => ?_⟩
    obtain ⟨m, rfl⟩ : ∃ m, k = m + 2 := ⟨k - 2, by omega⟩
    have n0 : k0 ≤ m := by omega
    show quilllaw11_SeekFinds.l0 (m + 2) keys i l b1 b2 b3 b4 b5 b6 b7 = some true
    rw [quilllaw11_SeekFinds.l0]
    by_cases hil : i < l.length
    · rw [if_pos (by omega), decide_eq_false (by omega), quilllaw11_SeekFinds.j1, if_neg (by simp)]
      exact h0 m n0
    · rw [if_neg (by omega), quilllaw11_SeekFinds.j1, if_neg (by simp)]
      exact h0 m n0
  intro d
  induction d with
  | zero => intro i hd hi; exact hdone i (by omega)
  | succ d ih =>
    intro i hd hi
    by_cases hi5 : i < 4
    · have hil : i < l.length := by omega
      have hz := hsz l[i] (List.getElem_mem _)
      have e1 : rdOf ByteArray.empty l (i : Int) = l[i] := by simp [rdOf, hil]
      generalize l[i] = s at hz e1
      have hout := ih (i + 1) (by omega) (by omega)
      have hln := runes_length_le s.data.toList
      have hln2 : (rs s).length ≤ 6000 := by
        unfold rs
        simp at hln
        omega
      obtain ⟨ts, ⟨k1, h1⟩, hts⟩ := offs_loop l b1 b2 b3 b4 b5 b6 b7 (rs s) (by omega) 13 0 [b1, -1, wrap64 (((rs s).length : Int) + 1)] rfl (by omega) (by simp)
      dsimp only at h1
      obtain ⟨rns, hrns⟩ : ∃ rns, rns = (if 0 < (rs s).length then [b7, 97, 32, 10, wrap64 (rd (rs s) (wrap64 (((rs s).length : Int) / 2)))] else [b7, 97, 32, 10]) := ⟨_, rfl⟩
      obtain ⟨k0, h0⟩ := sf_ats l b1 b2 b3 b4 b5 b6 b7 keys hkl i (by omega) s hz ts rns (by omega) (by rw [hrns]; split <;> simp) hout ts.length 0 rfl (by omega)
      dsimp only at h0
      refine ⟨k0 + k1 + 3, fun k hk => ?_⟩
      obtain ⟨m, rfl⟩ : ∃ m, k = m + 3 := ⟨k - 3, by omega⟩
      have n0 : k0 ≤ m := by omega
      have n1 : k1 ≤ m + 1 := by omega
      clear hk
      have q4 : (i : Int) < (l.length : Int) := by omega
      have q7 : (i : Int) < 4 := by omega
      show quilllaw11_SeekFinds.l0 (m + 3) keys i l b1 b2 b3 b4 b5 b6 b7 = some true
      rw [quilllaw11_SeekFinds.l0, if_pos q4, decide_eq_true q7, sf_j1 l b1 b2 b3 b4 b5 b6 b7 m keys i s ts rns (Int.natCast_nonneg i) q4 e1 hz (h1 (m + 1) n1) hrns]
      exact h0 m n0
    · exact hdone i (by omega)
end
theorem heavy10 (xs : List ByteArray) (hsz : ∀ s ∈ xs, s.size ≤ 140737488355327) (hl : xs.length ≤ 140737488355327) (a b c d e f g : Int) :
    ∃ t, Evt (fun k => quilllaw10_Heavy.f k xs a b c d e f g) t ∧ (t = false → (∀ s ∈ xs, s.size ≤ 6000) ∧ xs.length ≤ 6000) := by
  obtain ⟨t, he, ht⟩ := heavy1 xs hsz hl a b c d
  exact ⟨t, Evt.same (Evt.bind (g := fun _ t => some t) he (Evt.const rfl)) (fun k => rfl), ht⟩
theorem SeekFinds_pure (l : List ByteArray) (hsz : ∀ s ∈ l, s.size ≤ 140737488355327) (hl : l.length ≤ 140737488355327) (b1 b2 b3 b4 b5 b6 b7 : Int) : ∃ k, quilllaw11_SeekFinds.f k l b1 b2 b3 b4 b5 b6 b7 = some true := by
  obtain ⟨t, ⟨k0, h0⟩, ht⟩ := heavy10 l hsz hl b1 b2 b3 b4 b5 b6 b7
  cases t with
  | true => exact ⟨k0, by rw [quilllaw11_SeekFinds.f, show quilllaw10_Heavy.f k0 l b1 b2 b3 b4 b5 b6 b7 = some true from h0 k0 (Nat.le_refl _)]; rfl⟩
  | false =>
    obtain ⟨h3, h4⟩ := ht rfl
    obtain ⟨k1, h1⟩ := sf_outer l b1 b2 b3 b4 b5 b6 b7 h3 h4 [102, 70, 116, 84, b5] (by simp) l.length 0 rfl (by omega)
    refine ⟨k0 + k1, ?_⟩
    rw [quilllaw11_SeekFinds.f, show quilllaw10_Heavy.f (k0 + k1) l b1 b2 b3 b4 b5 b6 b7 = some false from h0 _ (by omega), Option.bind_some, if_neg (by simp)]
    exact h1 _ (by omega)
end Go.Proofs.YtfiapekpeiapbaaDoor.Sf
