import Derived.Test.YtfiapekpeiapbaaDoorPvHv
import Derived.Test.YtfiapekpeiapbaaDoorParaL
/-! ParasMove, in plain Lean: the reference's stops are the program's. -/
namespace Go.Proofs.YtfiapekpeiapbaaDoor.Pv
open Go.RowKit Go.Proofs.YtfiapekpeiapbaaDoor.Q Go.Proofs.YtfiapekpeiapbaaDoor.F Go.Lib
open Go.Proofs.YtfiapekpeiapbaaDoorW.PrintWords Go.Proofs.YtfiapekpeiapbaaDoorW.PrintLast Go.Proofs.YtfiapekpeiapbaaDoorW.PrintMore

theorem begin_loop (R : List Int) (hR : R.length ≤ 4000) : ∀ (d : Nat), d ≤ R.length → ∃ y : Int, Evt (fun k => quillref1_Begin.l0 k R d) y ∧ 0 ≤ y ∧ y ≤ d ∧ (y = 0 ∨ rd R (y - 1) = 10) ∧ ∀ i, y ≤ i → i < d → rd R i ≠ 10
  | 0, _ => ⟨0, Evt.step (Evt.const rfl) (fun k => by rw [quillref1_Begin.l0, if_neg (by omega)]; rfl), by omega, by omega, .inl rfl, fun i h1 h2 => by omega⟩
  | d + 1, hd => by
    have hw : wrap64 (((d + 1 : Nat) : Int) - 1) = (d : Int) := by rw [w64] <;> omega
    by_cases h : rd R (d : Int) = 10
    · refine ⟨((d + 1 : Nat) : Int), Evt.step (Evt.const rfl) (fun k => ?_), by omega, by omega, .inr (by rw [show ((d + 1 : Nat) : Int) - 1 = d by omega]; exact h), fun i h1 h2 => by omega⟩
      rw [quillref1_Begin.l0, if_pos (by omega), hw, if_pos (by omega), if_pos (by omega), if_pos h]
    · obtain ⟨y, he, h0, h1, h2, h3⟩ := begin_loop R hR d (by omega)
      refine ⟨y, Evt.step he (fun k => ?_), h0, by omega, h2, fun i hi1 hi2 => ?_⟩
      · rw [quillref1_Begin.l0, if_pos (by omega), hw, if_pos (by omega), if_pos (by omega), if_neg h]
      · by_cases hi : i = d
        · rw [hi]; exact h
        · exact h3 i hi1 (by omega)
theorem begin_f (R : List Int) (hR : R.length ≤ 4000) (a : Int) (h0 : 0 ≤ a) (h1 : a ≤ R.length) : Evt (fun k => quillref1_Begin.f k R a) (begOf R a) := by
  obtain ⟨d, rfl⟩ : ∃ d : Nat, a = d := ⟨a.toNat, by omega⟩
  obtain ⟨y, he, g0, g1, g2, g3⟩ := begin_loop R hR d (by omega)
  rw [beg_one (x := y) h0 h1 g0 g1 g2 g3]
  exact he.same (fun k => rfl)
theorem end_loop (R : List Int) (hR : R.length ≤ 4000) : ∀ (n d : Nat), R.length - d = n → d ≤ R.length → ∃ y : Int, Evt (fun k => quillref1_End.l0 k R d) y ∧ (d : Int) ≤ y ∧ y ≤ R.length ∧ (y = R.length ∨ rd R y = 10) ∧ ∀ i, (d : Int) ≤ i → i < y → rd R i ≠ 10
  | 0, d, hn, hd => ⟨d, Evt.step (Evt.const rfl) (fun k => by rw [quillref1_End.l0, if_neg (by omega)]), by omega, by omega, .inl (by omega), fun i h1 h2 => by omega⟩
  | n + 1, d, hn, hd => by
    by_cases h : rd R (d : Int) = 10
    · refine ⟨d, Evt.step (Evt.const rfl) (fun k => ?_), by omega, by omega, .inr h, fun i h1 h2 => by omega⟩
      rw [quillref1_End.l0, if_pos (by omega), if_pos (by omega), if_pos h]
    · obtain ⟨y, he, h0, h1, h2, h3⟩ := end_loop R hR n (d + 1) (by omega) (by omega)
      have hw : wrap64 ((d : Int) + 1) = ((d + 1 : Nat) : Int) := by rw [w64] <;> omega
      refine ⟨y, Evt.step he (fun k => ?_), by omega, h1, h2, fun i hi1 hi2 => ?_⟩
      · rw [quillref1_End.l0, if_pos (by omega), if_pos (by omega), if_neg h, hw]
      · by_cases hi : i = d
        · rw [hi]; exact h
        · exact h3 i (by omega) hi2
theorem end_f (R : List Int) (hR : R.length ≤ 4000) (a : Int) (h0 : 0 ≤ a) (h1 : a ≤ R.length) : Evt (fun k => quillref1_End.f k R a) (finOf R a) := by
  obtain ⟨d, rfl⟩ : ∃ d : Nat, a = d := ⟨a.toNat, by omega⟩
  obtain ⟨y, he, g0, g1, g2, g3⟩ := end_loop R hR (R.length - d) d rfl (by omega)
  rw [fin_one (x := y) h0 h1 g0 g1 g2 g3]
  exact he.same (fun k => rfl)
section
variable (l : List ByteArray) (b1 b2 b3 b4 b5 b6 b7 : Int)
theorem offs_loop (R : List Int) (hR : R.length ≤ 100000) : ∀ (n i : Nat) (acc : List Int), 13 - i = n → i ≤ 13 → acc.length ≤ 3 + i → ∃ ts, Evt (fun k => quilllaw10_Offsets.l0 k R acc i l b1 b2 b3 b4 b5 b6 b7) ts ∧ ts.length ≤ 20
  | 0, i, acc, hn, hi, ha => ⟨acc, Evt.step (Evt.const rfl) (fun k => by
      rw [quilllaw10_Offsets.l0]
      by_cases h : (i : Int) ≤ R.length
      · rw [if_pos h, if_neg (by omega)]
      · rw [if_neg h]), by omega⟩
  | n + 1, i, acc, hn, hi, ha => by
    by_cases h : (i : Int) ≤ R.length
    · by_cases h12 : (i : Int) < 12
      · have hw : ∃ t, quilllaw0_Within.f (wrap64 (b1 + (wrap64 ((i : Int) * (wrap64 (1 + (wrap64 ((R.length : Int) / 12)))))))) (wrap64 ((R.length : Int) + 1)) = some t := by
          have e : wrap64 ((R.length : Int) + 1) = (R.length : Int) + 1 := w64 (by omega) (by omega)
          rw [e, quilllaw0_Within.f, if_neg]
          · exact ⟨_, rfl⟩
          · rw [show IntKind.u64.wrap ((R.length : Int) + 1) = (R.length : Int) + 1 from by unfold IntKind.wrap; simp [IntKind.bits, IntKind.signed]; omega]
            omega
        obtain ⟨t, hw⟩ := hw
        obtain ⟨ts, he, hl⟩ := offs_loop R hR n (i + 1) (acc ++ [t]) (by omega) (by omega) (by simp; omega)
        refine ⟨ts, Evt.step he (fun k => ?_), hl⟩
        rw [quilllaw10_Offsets.l0, if_pos h, if_pos h12, hw, Option.bind_some, if_pos (by omega), show wrap64 ((i : Int) + 1) = ((i + 1 : Nat) : Int) from w64 (by omega) (by omega)]
      · exact ⟨acc, Evt.step (Evt.const rfl) (fun k => by rw [quilllaw10_Offsets.l0, if_pos h, if_neg h12]), by omega⟩
    · exact ⟨acc, Evt.step (Evt.const rfl) (fun k => by rw [quilllaw10_Offsets.l0, if_neg h]), by omega⟩
end
theorem rowOf_eq (R : List Int) (x : Int) (h0 : 0 ≤ x) (r : Nat) (hr : r < (begins R).length) (h1 : rd (begins R) (r : Int) ≤ x) (h2 : r + 1 < (begins R).length → x < rd (begins R) ((r : Int) + 1)) : rowOf (begins R) x = r := by
  have hz : rd (begins R) ((0 : Nat) : Int) = 0 := by simp [begins, rd]
  obtain ⟨hj, hle, hnext⟩ := rowL_spec (begins R) x ((begins R).length + 1) 0 (begins_pos R) (by omega) (by rw [hz]; exact h0)
  have e : rowOf (begins R) x = rowL (begins R) x ((begins R).length + 1) 0 := rfl
  rw [← e] at hj hle hnext
  generalize rowOf (begins R) x = q at *
  rcases Nat.lt_trichotomy q r with h | h | h
  · exfalso
    have h3 := hnext (by omega)
    rcases Nat.lt_or_ge (q + 1) r with g | g
    · have := begins_lt (R := R) g hr
      rw [show ((q + 1 : Nat) : Int) = (q : Int) + 1 by omega] at this
      omega
    · obtain rfl : r = q + 1 := by omega
      rw [show ((q + 1 : Nat) : Int) = (q : Int) + 1 by omega] at h1
      omega
  · exact h
  · exfalso
    have h3 := h2 (by omega)
    rcases Nat.lt_or_ge (r + 1) q with g | g
    · have := begins_lt (R := R) g hj
      rw [show ((r + 1 : Nat) : Int) = (r : Int) + 1 by omega] at this
      omega
    · obtain rfl : q = r + 1 := by omega
      rw [show ((r + 1 : Nat) : Int) = (r : Int) + 1 by omega] at hle
      omega
theorem next_lt (R : List Int) (r : Nat) (h : r + 1 < (begins R).length) : rd (begins R) (r : Int) < rd (begins R) ((r : Int) + 1) := by
  have := begins_lt (R := R) (i := r) (j := r + 1) (by omega) h
  rwa [show ((r + 1 : Nat) : Int) = (r : Int) + 1 by omega] at this
theorem beg_at (R : List Int) (r : Nat) (hr : r < (begins R).length) : begOf R (rd (begins R) (r : Int)) = rd (begins R) (r : Int) ∧ finOf R (rd (begins R) (r : Int)) = endOf R (begins R) r := by
  have hf := begins_fit R r hr
  have e := rowOf_eq R (rd (begins R) (r : Int)) hf.1 r hr (Int.le_refl _) (next_lt R r)
  unfold begOf finOf
  rw [e]
  exact ⟨rfl, rfl⟩
theorem beg_before (R : List Int) (r : Nat) (hr : r + 1 < (begins R).length) : begOf R (rd (begins R) ((r : Int) + 1) - 1) = rd (begins R) (r : Int) := by
  have hf := begins_fit R r (by omega)
  have hl := next_lt R r hr
  have e := rowOf_eq R (rd (begins R) ((r : Int) + 1) - 1) (by omega) r (by omega) (by omega) (fun _ => by omega)
  unfold begOf
  rw [e]
theorem end_ge (R : List Int) (r : Nat) (hr : r < (begins R).length) : rd (begins R) (r : Int) ≤ endOf R (begins R) r ∧ (r + 1 < (begins R).length → endOf R (begins R) r = rd (begins R) ((r : Int) + 1) - 1 ∧ endOf R (begins R) r < R.length) ∧ (¬ r + 1 < (begins R).length → endOf R (begins R) r = R.length) := by
  have hf := begins_fit R r hr
  unfold endOf
  by_cases h : r + 1 < (begins R).length
  · have hl := next_lt R r h
    have hf2 := begins_fit R (r + 1) h
    rw [show ((r + 1 : Nat) : Int) = (r : Int) + 1 by omega] at hf2
    rw [if_pos h]
    exact ⟨by omega, fun _ => ⟨rfl, by omega⟩, fun h' => absurd h h'⟩
  · rw [if_neg h]
    exact ⟨hf.2, fun h' => absurd h' h, fun _ => rfl⟩
theorem row_down (R : List Int) (hR : R.length ≤ 4000) (r : Nat) (hr : r < (begins R).length) : Evt (fun k => quillref12_row.f k R (rd (begins R) (r : Int)) 1) (if r + 1 < (begins R).length then rd (begins R) ((r : Int) + 1) else -1) := by
  have hf := begins_fit R r hr
  obtain ⟨k1, h1⟩ := end_f R hR (rd (begins R) (r : Int)) hf.1 hf.2
  dsimp only at h1
  rw [(beg_at R r hr).2] at h1
  obtain ⟨g1, g2, g3⟩ := end_ge R r hr
  by_cases h : r + 1 < (begins R).length
  · obtain ⟨g4, g5⟩ := g2 h
    have hf2 := begins_fit R (r + 1) h
    have hb2 := (beg_at R (r + 1) h).1
    rw [show ((r + 1 : Nat) : Int) = (r : Int) + 1 by omega] at hf2 hb2
    obtain ⟨k2, h2⟩ := begin_f R hR (rd (begins R) ((r : Int) + 1)) hf2.1 hf2.2
    dsimp only at h2
    rw [hb2] at h2
    rw [if_pos h]
    refine ⟨k1 + k2 + 3, fun k hk => ?_⟩
    obtain ⟨m, rfl⟩ : ∃ m, k = m + 3 := ⟨k - 3, by omega⟩
    have n1 := h1 (m + 2) (by omega)
    have n2 := h2 (m + 1) (by omega)
    have hw : wrap64 (endOf R (begins R) r + 1) = rd (begins R) ((r : Int) + 1) := (w64 (by omega) (by omega)).trans (by omega)
    have hw0 : wrap64 (1 - 1) = 0 := by decide +kernel
    show quillref12_row.f (m + 3) R (rd (begins R) (r : Int)) 1 = _
    rw [quillref12_row.f, quillref12_row.l0, if_pos (by decide), n1, Option.bind_some, if_neg (by omega), hw, hw0, quillref12_row.l0, if_neg (by decide), n2, Option.bind_some, quillref12_row.l1, if_neg (by decide)]
  · rw [if_neg h]
    refine ⟨k1 + 1, fun k hk => ?_⟩
    obtain ⟨m, rfl⟩ : ∃ m, k = m + 1 := ⟨k - 1, by omega⟩
    have n1 := h1 m (by omega)
    show quillref12_row.f (m + 1) R (rd (begins R) (r : Int)) 1 = _
    rw [quillref12_row.f, quillref12_row.l0, if_pos (by decide), n1, Option.bind_some, if_pos (g3 h)]
theorem row_up (R : List Int) (hR : R.length ≤ 4000) (r : Nat) (hr : r < (begins R).length) : Evt (fun k => quillref12_row.f k R (rd (begins R) (r : Int)) (-1)) (if r = 0 then -1 else rd (begins R) ((r : Int) - 1)) := by
  have hf := begins_fit R r hr
  have hz : rd (begins R) ((0 : Nat) : Int) = 0 := by simp [begins, rd]
  obtain ⟨k1, h1⟩ := begin_f R hR (rd (begins R) (r : Int)) hf.1 hf.2
  dsimp only at h1
  rw [(beg_at R r hr).1] at h1
  cases r with
  | zero =>
    rw [if_pos rfl]
    refine ⟨k1 + 2, fun k hk => ?_⟩
    obtain ⟨m, rfl⟩ : ∃ m, k = m + 2 := ⟨k - 2, by omega⟩
    have n1 := h1 (m + 1) (by omega)
    show quillref12_row.f (m + 2) R (rd (begins R) ((0 : Nat) : Int)) (-1) = _
    rw [quillref12_row.f, quillref12_row.l0, if_neg (by decide), n1, Option.bind_some, quillref12_row.l1, if_pos (by decide), if_pos hz]
  | succ q =>
    have hq := beg_before R q hr
    have hl := next_lt R q hr
    have hfq := begins_fit R q (by omega)
    have e1 : ((q + 1 : Nat) : Int) = (q : Int) + 1 := by omega
    rw [e1] at h1 hf ⊢
    obtain ⟨k2, h2⟩ := begin_f R hR (rd (begins R) ((q : Int) + 1) - 1) (by omega) (by omega)
    dsimp only at h2
    rw [hq] at h2
    rw [if_neg (by omega), show (q : Int) + 1 - 1 = q by omega]
    refine ⟨k1 + k2 + 3, fun k hk => ?_⟩
    obtain ⟨m, rfl⟩ : ∃ m, k = m + 3 := ⟨k - 3, by omega⟩
    have n1 := h1 (m + 2) (by omega)
    have n2 := h2 (m + 1) (by omega)
    have hw : wrap64 (rd (begins R) ((q : Int) + 1) - 1) = rd (begins R) ((q : Int) + 1) - 1 := w64 (by omega) (by omega)
    have hw0 : wrap64 (-1 + 1) = 0 := by decide +kernel
    show quillref12_row.f (m + 3) R (rd (begins R) ((q : Int) + 1)) (-1) = _
    rw [quillref12_row.f, quillref12_row.l0, if_neg (by decide), n1, Option.bind_some, quillref12_row.l1, if_pos (by decide), if_neg (by omega), hw, n2, Option.bind_some, hw0, quillref12_row.l1, if_neg (by decide)]
theorem bare_f (R : List Int) (hR : R.length ≤ 4000) (r : Nat) (hr : r < (begins R).length) : Evt (fun k => quillref12_bare.f k R (rd (begins R) (r : Int))) (rd (begins R) (r : Int) == endOf R (begins R) r) := by
  have hf := begins_fit R r hr
  obtain ⟨k1, h1⟩ := begin_f R hR (rd (begins R) (r : Int)) hf.1 hf.2
  obtain ⟨k2, h2⟩ := end_f R hR (rd (begins R) (r : Int)) hf.1 hf.2
  dsimp only at h1 h2
  rw [(beg_at R r hr).1] at h1
  rw [(beg_at R r hr).2] at h2
  refine ⟨k1 + k2, fun k hk => ?_⟩
  show quillref12_bare.f k R (rd (begins R) (r : Int)) = _
  rw [quillref12_bare.f, h1 k (by omega), Option.bind_some, h2 k (by omega), Option.bind_some]
end Go.Proofs.YtfiapekpeiapbaaDoor.Pv
