import Derived.Test.YtfiapekpeiapbaaDoorPvRow
import Derived.Test.YtfiapekpeiapbaaDoorPvx2
/-! ParasMove, in plain Lean: the law. -/
namespace Go.Proofs.YtfiapekpeiapbaaDoor.Pv
open Go.RowKit Go.Proofs.YtfiapekpeiapbaaDoor.Q Go.Proofs.YtfiapekpeiapbaaDoor.F Go.Lib
open Go.Proofs.YtfiapekpeiapbaaDoorW.PrintWords Go.Proofs.YtfiapekpeiapbaaDoorW.PrintLast Go.Proofs.YtfiapekpeiapbaaDoorW.PrintMore

/-- What follows a stop. -/
def aft (R : List Int) (a key c n edge t : Int) (k : Nat) : Option (Int × Int) := if t = edge then (if t = a then some (0, 6) else some (t, 0)) else quillref12_Paras.l0 k R a key c t (wrap64 (n + 1))
theorem stop_down (R : List Int) (hR : R.length ≤ 4000) (a key c n : Int) (V : Int × Int) : ∀ (m r : Nat), r < (begins R).length → (begins R).length ≤ m + r → Evt (fun k => aft R a key c n R.length (downL R (begins R) m r) k) V →
    Evt (fun k => quillref12_Paras.l1 k R a key c n 1 R.length R.length (rd (begins R) (r : Int))) V := by
  intro m
  induction m with
  | zero => intro r h1 h2; omega
  | succ m ih =>
    intro r h1 h2 h3
    obtain ⟨k1, r1⟩ := row_down R hR r h1
    dsimp only at r1
    unfold downL at h3
    have hf := begins_fit R r h1
    by_cases h : r + 1 < (begins R).length
    · rw [if_pos h] at r1
      have e1 : ((r + 1 : Nat) : Int) = (r : Int) + 1 := by omega
      have hf2 := begins_fit R (r + 1) h
      obtain ⟨k2, r2⟩ := bare_f R hR (r + 1) h
      obtain ⟨k3, r3⟩ := bare_f R hR r h1
      dsimp only at r2 r3
      rw [e1] at r2 hf2
      have hge := (end_ge R r h1).1
      have hih := ih (r + 1) h (by omega)
      rw [e1] at hih
      by_cases hc : rd (begins R) ((r : Int) + 1) = endOf R (begins R) (r + 1) ∧ rd (begins R) (r : Int) < endOf R (begins R) r
      · rw [if_pos h, if_pos hc] at h3
        obtain ⟨k4, r4⟩ := h3
        refine ⟨k1 + k2 + k3 + k4 + 1, fun k hk => ?_⟩
        obtain ⟨m', rfl⟩ : ∃ m', k = m' + 1 := ⟨k - 1, by omega⟩
        have n1 := r1 m' (by omega)
        have n2 := r2 m' (by omega)
        have n3 := r3 m' (by omega)
        have n4 := r4 m' (by omega)
        show quillref12_Paras.l1 (m' + 1) R a key c n 1 R.length R.length (rd (begins R) (r : Int)) = some V
        rw [quillref12_Paras.l1, n1, Option.bind_some, if_neg (by omega), n2, Option.bind_some, if_pos (beq_iff_eq.2 hc.1), n3, Option.bind_some, if_neg (fun z => by have := beq_iff_eq.1 z; omega)]
        exact n4
      · rw [if_pos h, if_neg hc] at h3
        obtain ⟨k4, r4⟩ := hih h3
        refine ⟨k1 + k2 + k3 + k4 + 1, fun k hk => ?_⟩
        obtain ⟨m', rfl⟩ : ∃ m', k = m' + 1 := ⟨k - 1, by omega⟩
        have n1 := r1 m' (by omega)
        have n2 := r2 m' (by omega)
        have n3 := r3 m' (by omega)
        have n4 := r4 m' (by omega)
        show quillref12_Paras.l1 (m' + 1) R a key c n 1 R.length R.length (rd (begins R) (r : Int)) = some V
        rw [quillref12_Paras.l1, n1, Option.bind_some, if_neg (by omega), n2, Option.bind_some]
        by_cases hb : rd (begins R) ((r : Int) + 1) = endOf R (begins R) (r + 1)
        · rw [if_pos (beq_iff_eq.2 hb), n3, Option.bind_some, if_pos (beq_iff_eq.2 (by have := fun z => hc ⟨hb, z⟩; omega))]
          exact n4
        · rw [if_neg (fun z => hb (beq_iff_eq.1 z))]
          exact n4
    · rw [if_neg h] at r1
      rw [if_neg h] at h3
      obtain ⟨k4, r4⟩ := h3
      refine ⟨k1 + k4 + 1, fun k hk => ?_⟩
      obtain ⟨m', rfl⟩ : ∃ m', k = m' + 1 := ⟨k - 1, by omega⟩
      have n1 := r1 m' (by omega)
      have n4 := r4 m' (by omega)
      show quillref12_Paras.l1 (m' + 1) R a key c n 1 R.length R.length (rd (begins R) (r : Int)) = some V
      rw [quillref12_Paras.l1, n1, Option.bind_some, if_pos (by decide)]
      exact n4
theorem stop_up (R : List Int) (hR : R.length ≤ 4000) (a key c n : Int) (V : Int × Int) : ∀ (r : Nat), r < (begins R).length → Evt (fun k => aft R a key c n 0 (upL R (begins R) r) k) V →
    Evt (fun k => quillref12_Paras.l1 k R a key c n (-1) 0 0 (rd (begins R) (r : Int))) V := by
  intro r
  induction r with
  | zero =>
    intro h1 h3
    obtain ⟨k1, r1⟩ := row_up R hR 0 h1
    dsimp only at r1
    rw [if_pos rfl] at r1
    obtain ⟨k4, r4⟩ := h3
    refine ⟨k1 + k4 + 1, fun k hk => ?_⟩
    obtain ⟨m', rfl⟩ : ∃ m', k = m' + 1 := ⟨k - 1, by omega⟩
    have n1 := r1 m' (by omega)
    have n4 := r4 m' (by omega)
    show quillref12_Paras.l1 (m' + 1) R a key c n (-1) 0 0 (rd (begins R) ((0 : Nat) : Int)) = some V
    rw [quillref12_Paras.l1, n1, Option.bind_some, if_pos (by decide)]
    exact n4
  | succ r ih =>
    intro h1 h3
    have e1 : ((r + 1 : Nat) : Int) = (r : Int) + 1 := by omega
    obtain ⟨k1, r1⟩ := row_up R hR (r + 1) h1
    dsimp only at r1
    rw [if_neg (by omega), e1, show (r : Int) + 1 - 1 = r by omega] at r1
    obtain ⟨k2, r2⟩ := bare_f R hR r (by omega)
    obtain ⟨k3, r3⟩ := bare_f R hR (r + 1) h1
    dsimp only at r2 r3
    rw [e1] at r3
    have hge := (end_ge R (r + 1) h1).1
    have hf := begins_fit R r (by omega)
    rw [e1] at hge ⊢
    unfold upL at h3
    by_cases hc : rd (begins R) (r : Int) = endOf R (begins R) r ∧ rd (begins R) ((r : Int) + 1) < endOf R (begins R) (r + 1)
    · rw [if_pos hc] at h3
      obtain ⟨k4, r4⟩ := h3
      refine ⟨k1 + k2 + k3 + k4 + 1, fun k hk => ?_⟩
      obtain ⟨m', rfl⟩ : ∃ m', k = m' + 1 := ⟨k - 1, by omega⟩
      have n1 := r1 m' (by omega)
      have n2 := r2 m' (by omega)
      have n3 := r3 m' (by omega)
      have n4 := r4 m' (by omega)
      show quillref12_Paras.l1 (m' + 1) R a key c n (-1) 0 0 (rd (begins R) ((r : Int) + 1)) = some V
      rw [quillref12_Paras.l1, n1, Option.bind_some, if_neg (by omega), n2, Option.bind_some, if_pos (beq_iff_eq.2 hc.1), n3, Option.bind_some, if_neg (fun z => by have := beq_iff_eq.1 z; omega)]
      exact n4
    · rw [if_neg hc] at h3
      obtain ⟨k4, r4⟩ := ih (by omega) h3
      refine ⟨k1 + k2 + k3 + k4 + 1, fun k hk => ?_⟩
      obtain ⟨m', rfl⟩ : ∃ m', k = m' + 1 := ⟨k - 1, by omega⟩
      have n1 := r1 m' (by omega)
      have n2 := r2 m' (by omega)
      have n3 := r3 m' (by omega)
      have n4 := r4 m' (by omega)
      show quillref12_Paras.l1 (m' + 1) R a key c n (-1) 0 0 (rd (begins R) ((r : Int) + 1)) = some V
      rw [quillref12_Paras.l1, n1, Option.bind_some, if_neg (by omega), n2, Option.bind_some]
      by_cases hb : rd (begins R) (r : Int) = endOf R (begins R) r
      · rw [if_pos (beq_iff_eq.2 hb), n3, Option.bind_some, if_pos (beq_iff_eq.2 (by have := fun z => hc ⟨hb, z⟩; omega))]
        exact n4
      · rw [if_neg (fun z => hb (beq_iff_eq.1 z))]
        exact n4
theorem iter_fix (R : List Int) (key t : Int) (h : wayF R key t = t) : ∀ n, iterF R key n t = t
  | 0 => rfl
  | n + 1 => by rw [iterF, h]; exact iter_fix R key t h n
theorem paras_loop (R : List Int) (hR : R.length ≤ 4000) (a key : Int) (c : Nat) (hc : c ≤ 999) : ∀ (d n : Nat), n + d = c → ∀ t : Int, 0 ≤ t → t ≤ R.length →
    Evt (fun k => quillref12_Paras.l0 k R a key c t n) (if iterF R key d t = a then (0, 6) else (iterF R key d t, 0)) := by
  intro d
  induction d with
  | zero =>
    intro n hn t h0 h1
    refine ⟨1, fun k hk => ?_⟩
    obtain ⟨m, rfl⟩ : ∃ m, k = m + 1 := ⟨k - 1, by omega⟩
    show quillref12_Paras.l0 (m + 1) R a key c t n = some (if t = a then (0, 6) else (t, 0))
    rw [quillref12_Paras.l0, if_neg (by omega)]
    split <;> rfl
  | succ d ih =>
    intro n hn t h0 h1
    have hw : wrap64 ((n : Int) + 1) = ((n + 1 : Nat) : Int) := (w64 (by omega) (by omega)).trans (by omega)
    obtain ⟨kb, hb⟩ := begin_f R hR t h0 h1
    dsimp only at hb
    have hbe : begOf R t = rd (begins R) (rowOf (begins R) t : Int) := rfl
    rw [hbe] at hb
    have hlt := rowOf_lt R t
    have hrg := wayF_range R key t
    -- what follows the stop
    have haft : ∀ edge : Int, (wayF R key t = edge → wayF R key edge = edge) → Evt (fun k => aft R a key c n edge (wayF R key t) k) (if iterF R key (d + 1) t = a then (0, 6) else (iterF R key (d + 1) t, 0)) := fun edge hfix => by
      by_cases he : wayF R key t = edge
      · have e2 : iterF R key (d + 1) t = wayF R key t := by
          rw [iterF, he]
          exact iter_fix R key edge (hfix he) d
        rw [e2]
        refine ⟨0, fun k _ => ?_⟩
        show aft R a key c n edge (wayF R key t) k = _
        unfold aft
        rw [if_pos he]
        split <;> rfl
      · obtain ⟨k0, h⟩ := ih (n + 1) (by omega) (wayF R key t) hrg.1 hrg.2
        refine ⟨k0, fun k hk => ?_⟩
        have := h k hk
        show aft R a key c n edge (wayF R key t) k = _
        unfold aft
        rw [if_neg he, hw]
        exact this
    by_cases hk : key = 123
    · have hz := haft 0 (fun h => by rw [hk]; exact up_zero R)
      have e3 : wayF R key t = upL R (begins R) (rowOf (begins R) t) := by unfold wayF; rw [if_pos hk]; rfl
      rw [e3] at hz
      obtain ⟨k1, h1'⟩ := stop_up R hR a key c n _ (rowOf (begins R) t) hlt hz
      refine ⟨kb + k1 + 2, fun k hkk => ?_⟩
      obtain ⟨m, rfl⟩ : ∃ m, k = m + 2 := ⟨k - 2, by omega⟩
      have n0 := hb m (by omega)
      have n1 := h1' m (by omega)
      show quillref12_Paras.l0 (m + 2) R a key c t n = _
      rw [quillref12_Paras.l0, if_pos (by omega), if_pos hk, quillref12_Paras.j1, n0, Option.bind_some]
      exact n1
    · have hz := haft R.length (fun h => by unfold wayF; rw [if_neg hk]; exact down_end R)
      have e3 : wayF R key t = downL R (begins R) ((begins R).length + 1) (rowOf (begins R) t) := by unfold wayF; rw [if_neg hk]; rfl
      rw [e3] at hz
      obtain ⟨k1, h1'⟩ := stop_down R hR a key c n _ ((begins R).length + 1) (rowOf (begins R) t) hlt (by omega) hz
      refine ⟨kb + k1 + 2, fun k hkk => ?_⟩
      obtain ⟨m, rfl⟩ : ∃ m, k = m + 2 := ⟨k - 2, by omega⟩
      have n0 := hb m (by omega)
      have n1 := h1' m (by omega)
      show quillref12_Paras.l0 (m + 2) R a key c t n = _
      rw [quillref12_Paras.l0, if_pos (by omega), if_neg hk, quillref12_Paras.j1, n0, Option.bind_some]
      exact n1
theorem paras_ref (R : List Int) (hR : R.length ≤ 4000) (a key c : Int) (h0 : 0 ≤ a) (h1 : a ≤ R.length) (hc0 : 1 ≤ c) (hc1 : c ≤ 999) : Evt (fun k => quillref12_Paras.f k R a key c) (parasR R a key c) := by
  obtain ⟨n, rfl⟩ : ∃ n : Nat, c = n := ⟨c.toNat, by omega⟩
  have := paras_loop R hR a key n (by omega) n 0 (by omega) a h0 h1
  unfold parasR
  rw [Int.toNat_natCast]
  exact this.same (fun k => rfl)
end Go.Proofs.YtfiapekpeiapbaaDoor.Pv
