import Derived.Test.YtdoebjnfnmfnnaaDoorProg
import Derived.Test.YtdoebjnfnmfnnaaDoorWMore
/-! Told with enough rounds. -/
namespace Go.Proofs.YtdoebjnfnmfnnaaDoor.F
open Go.RowKit
open Go.Proofs.YtdoebjnfnmfnnaaDoorW.PrintWords Go.Proofs.YtdoebjnfnmfnnaaDoorW.PrintLast Go.Proofs.YtdoebjnfnmfnnaaDoorW.PrintMore

/-- From some number of rounds on, f tells r. -/
def Evt {α : Type} (f : Nat → Option α) (r : α) : Prop := ∃ k0, ∀ k, k0 ≤ k → f k = some r
theorem Evt.const {α : Type} {x : Option α} {r : α} (h : x = some r) : Evt (fun _ => x) r := ⟨0, fun _ _ => h⟩
theorem Evt.step {α : Type} {f g : Nat → Option α} {r : α} (hg : Evt g r) (h : ∀ k, f (k + 1) = g k) : Evt f r := by
  obtain ⟨k0, h0⟩ := hg
  refine ⟨k0 + 1, fun k hk => ?_⟩
  obtain ⟨k', rfl⟩ : ∃ k', k = k' + 1 := ⟨k - 1, by omega⟩
  rw [h, h0 k' (by omega)]
theorem Evt.same {α : Type} {f g : Nat → Option α} {r : α} (hg : Evt g r) (h : ∀ k, f k = g k) : Evt f r := by
  obtain ⟨k0, h0⟩ := hg
  exact ⟨k0, fun k hk => by rw [h, h0 k hk]⟩
theorem Evt.bind {α β : Type} {f : Nat → Option α} {g : Nat → α → Option β} {a : α} {r : β} (hf : Evt f a) (hg : Evt (fun k => g k a) r) : Evt (fun k => (f k).bind (g k)) r := by
  obtain ⟨k0, h0⟩ := hf
  obtain ⟨k1, h1⟩ := hg
  refine ⟨max k0 k1, fun k hk => ?_⟩
  show (f k).bind (g k) = some r
  rw [h0 k (by omega), Option.bind_some]
  exact h1 k (by omega)
theorem Evt.ex {α : Type} {f : Nat → Option α} {r : α} (h : Evt f r) : ∃ k, f k = some r := by
  obtain ⟨k0, h0⟩ := h
  exact ⟨k0, h0 k0 (Nat.le_refl _)⟩
theorem w64 {n : Int} (h0 : -9223372036854775808 ≤ n) (h1 : n ≤ 9223372036854775807) : wrap64 n = n := by unfold wrap64; omega

/-- Rounds told one by one. -/
theorem Evt.stepN {α : Type} {f g : Nat → Option α} {r : α} (n : Nat) (hg : Evt g r) (h : ∀ k, f (k + n) = g k) : Evt f r := by
  obtain ⟨k0, h0⟩ := hg
  refine ⟨k0 + n, fun k hk => ?_⟩
  obtain ⟨k', rfl⟩ : ∃ k', k = k' + n := ⟨k - n, by omega⟩
  rw [h, h0 k' (by omega)]
theorem Evt.shift {α : Type} {f : Nat → Option α} {r : α} (n : Nat) (h : Evt f r) : Evt (fun k => f (k + n)) r := by
  obtain ⟨k0, h0⟩ := h
  exact ⟨k0, fun k hk => h0 (k + n) (by omega)⟩
theorem inc64 {i : Nat} (h : i ≤ 9223372036854775806) : wrap64 ((i : Int) + 1) = ((i + 1 : Nat) : Int) := by
  rw [w64] <;> omega
end Go.Proofs.YtdoebjnfnmfnnaaDoor.F
