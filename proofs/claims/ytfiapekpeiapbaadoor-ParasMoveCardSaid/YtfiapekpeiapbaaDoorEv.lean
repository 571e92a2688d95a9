import Derived.Test.YtfiapekpeiapbaaDoorText
/-! Told with enough rounds. -/
namespace Go.Proofs.YtfiapekpeiapbaaDoor.F
open Go.RowKit Go.Proofs.YtfiapekpeiapbaaDoor.Q Go.Lib
open Go.Proofs.YtfiapekpeiapbaaDoorW.PrintWords Go.Proofs.YtfiapekpeiapbaaDoorW.PrintLast Go.Proofs.YtfiapekpeiapbaaDoorW.PrintMore

/-- From some number of rounds on, f tells r. -/
def Evt {α : Type} (f : Nat → Option α) (r : α) : Prop := ∃ k0, ∀ k, k0 ≤ k → f k = some r
theorem Evt.const {α : Type} {x : Option α} {r : α} (h : x = some r) : Evt (fun _ => x) r := ⟨0, fun _ _ => h⟩
theorem Evt.step {α : Type} {f g : Nat → Option α} {r : α} (hg : Evt g r) (h : ∀ k, f (k + 1) = g k) : Evt f r := by
  obtain ⟨k0, h0⟩ := hg
  refine ⟨k0 + 1, fun k hk => ?_⟩
  obtain ⟨k', rfl⟩ : ∃ k', k = k' + 1 := ⟨k - 1, by omega⟩
  rw [h, h0 k' (by omega)]
theorem Evt.same {α : Type} {f g : Nat → Option α} {r : α} (hg : Evt g r) (h : ∀ k, f k = g k) : Evt f r := by
  obtain ⟨k0, h0⟩ := hg
  exact ⟨k0, fun k hk => by rw [h, h0 k hk]⟩
theorem Evt.bind {α β : Type} {f : Nat → Option α} {g : Nat → α → Option β} {a : α} {r : β} (hf : Evt f a) (hg : Evt (fun k => g k a) r) : Evt (fun k => (f k).bind (g k)) r := by
  obtain ⟨k0, h0⟩ := hf
  obtain ⟨k1, h1⟩ := hg
  refine ⟨max k0 k1, fun k hk => ?_⟩
  show (f k).bind (g k) = some r
  rw [h0 k (by omega), Option.bind_some]
  exact h1 k (by omega)
theorem Evt.ex {α : Type} {f : Nat → Option α} {r : α} (h : Evt f r) : ∃ k, f k = some r := by
  obtain ⟨k0, h0⟩ := h
  exact ⟨k0, h0 k0 (Nat.le_refl _)⟩
theorem w64 {n : Int} (h0 : -9223372036854775808 ≤ n) (h1 : n ≤ 9223372036854775807) : wrap64 n = n := by unfold wrap64; omega

/-- The common beginning's length. -/
def pfx : List Int → List Int → Nat
  | a :: us, b :: vs => if a = b then pfx us vs + 1 else 0
  | _, _ => 0
theorem pfx_le : ∀ us vs : List Int, pfx us vs ≤ us.length ∧ pfx us vs ≤ vs.length
  | [], _ => by simp [pfx]
  | _ :: _, [] => by simp [pfx]
  | a :: us, b :: vs => by
    have := pfx_le us vs
    unfold pfx
    split <;> simp <;> omega
theorem pfx_lt : ∀ (us vs : List Int) (i : Nat), i < pfx us vs → us.getD i 0 = vs.getD i 0
  | [], _, _, h => by simp [pfx] at h
  | _ :: _, [], _, h => by simp [pfx] at h
  | a :: us, b :: vs, i, h => by
    unfold pfx at h
    split at h
    · rename_i e
      cases i with
      | zero => simpa using e
      | succ i => simpa using pfx_lt us vs i (by omega)
    · omega
theorem pfx_end : ∀ (us vs : List Int), pfx us vs < us.length → pfx us vs < vs.length → us.getD (pfx us vs) 0 ≠ vs.getD (pfx us vs) 0
  | [], _, h, _ => by simp [pfx] at h
  | _ :: _, [], _, h => by simp [pfx] at h
  | a :: us, b :: vs, h, h2 => by
    unfold pfx at h h2 ⊢
    split
    · rename_i e
      rw [if_pos e] at h h2
      simpa using pfx_end us vs (by simpa using h) (by simpa using h2)
    · rename_i e
      simpa using e
theorem pfx_take : ∀ (us vs : List Int), us.take (pfx us vs) = vs.take (pfx us vs)
  | [], _ => by simp [pfx]
  | _ :: _, [] => by simp [pfx]
  | a :: us, b :: vs => by
    unfold pfx
    split
    · rename_i e
      subst e
      simp [pfx_take us vs]
    · simp
/-- The common end's length, behind the first p. -/
def sfx (p : Nat) (xs ys : List Int) : Nat := pfx (xs.drop p).reverse (ys.drop p).reverse
theorem getD_drop_rev {xs : List Int} {p i : Nat} (h : i < xs.length - p) : (xs.drop p).reverse.getD i 0 = xs.getD (xs.length - 1 - i) 0 := by
  simp only [List.getD_eq_getElem?_getD]
  rw [List.getElem?_reverse (by simp; omega), List.getElem?_drop, List.length_drop]
  congr 2
  omega
theorem sfx_le (p : Nat) (xs ys : List Int) : sfx p xs ys ≤ xs.length - p ∧ sfx p xs ys ≤ ys.length - p := by
  have := pfx_le (xs.drop p).reverse (ys.drop p).reverse
  simpa [sfx] using this
theorem sfx_lt {p : Nat} {xs ys : List Int} {i : Nat} (h : i < sfx p xs ys) : xs.getD (xs.length - 1 - i) 0 = ys.getD (ys.length - 1 - i) 0 := by
  have h2 := sfx_le p xs ys
  have := pfx_lt _ _ i h
  rwa [getD_drop_rev (by omega), getD_drop_rev (by omega)] at this
theorem sfx_end {p : Nat} {xs ys : List Int} (h1 : sfx p xs ys < xs.length - p) (h2 : sfx p xs ys < ys.length - p) : xs.getD (xs.length - 1 - sfx p xs ys) 0 ≠ ys.getD (ys.length - 1 - sfx p xs ys) 0 := by
  have := pfx_end (xs.drop p).reverse (ys.drop p).reverse (by unfold sfx at h1; simpa using h1) (by unfold sfx at h2; simpa using h2)
  rwa [show pfx (xs.drop p).reverse (ys.drop p).reverse = sfx p xs ys from rfl, getD_drop_rev h1, getD_drop_rev h2] at this
theorem sfx_tail (p : Nat) (xs ys : List Int) : xs.drop (xs.length - sfx p xs ys) = ys.drop (ys.length - sfx p xs ys) := by
  have h := pfx_take (xs.drop p).reverse (ys.drop p).reverse
  rw [show pfx (xs.drop p).reverse (ys.drop p).reverse = sfx p xs ys from rfl, List.take_reverse, List.take_reverse, List.drop_drop, List.drop_drop] at h
  have h2 := sfx_le p xs ys
  have h3 := congrArg List.reverse h
  simp only [List.reverse_reverse, List.length_drop] at h3
  by_cases hz : sfx p xs ys = 0
  · rw [hz]; simp
  · rwa [show p + (xs.length - p - sfx p xs ys) = xs.length - sfx p xs ys by omega, show p + (ys.length - p - sfx p xs ys) = ys.length - sfx p xs ys by omega] at h3
end Go.Proofs.YtfiapekpeiapbaaDoor.F
