/- order.Vector: contract. -/
import Derived.Test.YtimecfelcjgpiaaProg
import Derived.WalkKit
import Derived.Shelf.Abstract
import Derived.Deep.LoopGhost
import Derived.Test.YtimecfelcjgpiaaWMore
import Derived.Test.YtimecfelcjgpiaaWN
import Derived.Test.YtimecfelcjgpiaaWInvWords
import Derived.Test.YtimecfelcjgpiaaWGuard
import Derived.Test.YtimecfelcjgpiaaWAt
import Derived.Test.YtimecfelcjgpiaaWNEv
set_option linter.unusedVariables false
set_option linter.unusedSimpArgs false
namespace Go.Proofs.Ytimecfelcjgpiaa.Q
/-- A rune's number. -/
abbrev RuneNo := Int
end Go.Proofs.Ytimecfelcjgpiaa.Q
namespace Go.Proofs.Ytimecfelcjgpiaa.F
open Go.RowKit Go.Proofs.YtimecfelcjgpiaaW.PrintWords Go.Proofs.YtimecfelcjgpiaaW.PrintLast Go.Proofs.YtimecfelcjgpiaaW.PrintMore Go.Proofs.Ytimecfelcjgpiaa.Q

/-- Where the first one is at which p holds; -1: nowhere. -/
def idxI {α : Type} (p : α → Bool) (xs : List α) : Int := if xs.any p then (xs.findIdx p : Int) else -1
theorem idxI_hit {α : Type} (p : α → Bool) : ∀ (xs : List α) (k : Nat) (h : k < xs.length), (∀ j (hj : j < k), p (xs[j]'(by omega)) = false) → p xs[k] = true → idxI p xs = k := by
  intro xs k h h1 h2
  have ha : xs.any p = true := List.any_eq_true.2 ⟨_, List.getElem_mem h, h2⟩
  have hf : xs.findIdx p = k := by
    refine (List.findIdx_eq h).2 ⟨h2, fun j hj => h1 j hj⟩
  unfold idxI
  rw [if_pos ha, hf]
theorem idxI_miss {α : Type} (p : α → Bool) (xs : List α) (h1 : ∀ j (hj : j < xs.length), p xs[j] = false) : idxI p xs = -1 := by
  have ha : ¬ (xs.any p = true) := by
    intro h
    obtain ⟨x, hx, hp⟩ := List.any_eq_true.1 h
    obtain ⟨j, hj, rfl⟩ := List.mem_iff_getElem.1 hx
    rw [h1 j hj] at hp; cases hp
  unfold idxI
  rw [if_neg ha]
theorem idxI_any {α : Type} (p : α → Bool) (xs : List α) : decide (0 ≤ idxI p xs) = xs.any p := by
  unfold idxI
  cases h : xs.any p <;> simp
theorem ret_i {k : IntKind} {a b : Int} (h : a = b) : Ending.returned (.int k a) = .returned (.int k b) := by rw [h]
theorem ret_b {a b : Bool} (h : a = b) : Ending.returned (.bool a) = .returned (.bool b) := by rw [h]

/-- A read slice of whole numbers that is not empty: where its cells lie. -/
theorem reads_nat {w : World} {k : IntKind} {A : Option Addr} {xs : List Int} (h : Kd.C (Kd.int k) w A xs.length xs) (h0 : 0 < xs.length) : ∃ b off, A = some ⟨b, off, none⟩ ∧ ∀ j, j < xs.length → w.cell? ⟨b, off + j, none⟩ = some (.int k (rd xs (j : Int))) := by
  have hr : ReadsInt w k A xs.length xs := Kd.reads_of_C (enc := Value.int k) (d := (0 : Int)) (h1 := fun _ => rfl) h
  obtain ⟨ad, e, hc⟩ := hr.2.2 h0
  obtain ⟨b, off, sp⟩ := ad
  cases sp with
  | none => exact ⟨b, off, e, fun j hj => by
      have := hc j hj
      have ha : (⟨b, off, none⟩ : Addr).add j = ⟨b, off + j, none⟩ := by unfold Addr.add; split <;> simp_all
      rw [ha] at this
      simpa [rd] using this⟩
  | some s =>
    exfalso
    have := hc 0 h0
    unfold World.cell? at this
    have ha : ((⟨b, off, some s⟩ : Addr).add 0).spot.isSome = true := by unfold Addr.add; split <;> simp_all
    split at this
    · rw [if_pos ha] at this; cases this
    · cases this
theorem rd_get {xs : List Int} {j : Nat} (h : j < xs.length) : rd xs (j : Int) = xs[j] := by simp [rd, List.getD_eq_getElem?_getD, h]
theorem len_le {w : World} {k : IntKind} {A : Option Addr} {xs : List Int} (h : Kd.C (Kd.int k) w A xs.length xs) : xs.length ≤ 9223372036854775807 := by
  have hr : ReadsInt w k A xs.length xs := Kd.reads_of_C (enc := Value.int k) (d := (0 : Int)) (h1 := fun _ => rfl) h
  exact hr.2.1

set_option maxHeartbeats 2000000 in
set_option maxRecDepth 100000 in
/-- slices.IndexFunc of whole numbers, at a predicate that lays nothing. -/
theorem ints_IndexFunc (g : Nat) (lb : Array Value) (p : Int → Bool) (A : Option Addr) (c : Nat) (xs : List Int) (w : World) (hC : Kd.C (Kd.int .i64) w A xs.length xs)
    (eg : ∀ args w, (callFunc g args).run Try.prog w = .ok (.enter g args) w) (hp : ∀ x W, Calls Try.prog g (#[.int .i64 x] ++ lb) W fun e w' => e = .returned (.bool (p x)) ∧ w' = W) :
    Calls Try.prog 113 #[.slice A xs.length c, .func (.func g) #[] lb] w fun e w' => e = .returned (.int .i64 (idxI p xs)) ∧ w' = w := by
  have hl := len_le hC
  have HC := Aside0.mk hC
  have HP := Aside0.mk hp
  clear hC hp
  go_enter Try.func113, Try.ntmps113
  go_wp2
  go_loop [5, 8] (fun _ v => ∃ k : Nat, k ≤ xs.length ∧ v = .int .i64 (k : Int) ∧ Aside0 (∀ j (hj : j < xs.length), j < k → p xs[j] = false)) (fun _ v => xs.length - (intOf v).toNat)
  case atStart => exact ⟨0, by omega, rfl, ⟨fun j _ hj => by omega⟩⟩
  case round =>
    obtain ⟨k, hk, rfl, HA⟩ := hrel
    by_cases hlt : k < xs.length
    · obtain ⟨b, off, rfl, hcs⟩ := reads_nat HC.out (by omega)
      have hx := hcs k hlt
      clear hcs
      have HX := Aside0.mk (rd_get hlt)
      generalize rd xs (k : Int) = x at *
      have hcall := HP.out x
      have d1 : decide (k < xs.length) = true := decide_eq_true hlt
      cases hq : p x with
      | true =>
        rw [hq] at hcall
        have HQ := Aside0.mk hq
        clear hq
        go_wp2_with (go_at_fn g; refine (hcall _).mono ?_; rintro e w' ⟨rfl, rfl⟩)
        go_ret
        exact ⟨ret_i (idxI_hit p xs k hlt (fun j hj => HA.out j (by omega) hj) (by rw [← HX.out]; exact HQ.out)).symm, rfl⟩
      | false =>
        rw [hq] at hcall
        have HQ := Aside0.mk hq
        clear hq
        go_wp2_with (go_at_fn g; refine (hcall _).mono ?_; rintro e w' ⟨rfl, rfl⟩)
        go_round
        case rel =>
          refine ⟨k + 1, by omega, by go_num, ⟨fun j hj hlt2 => ?_⟩⟩
          by_cases e : j = k
          · subst e; rw [← HX.out]; exact HQ.out
          · exact HA.out j hj (by omega)
        case measure => simp [intOf]; omega
    · have d1 : decide (k < xs.length) = false := decide_eq_false hlt
      go_wp2
      go_ret
      exact ⟨ret_i (idxI_miss p xs (fun j hj => HA.out j hj (by omega))).symm, rfl⟩

set_option maxHeartbeats 2000000 in
set_option maxRecDepth 100000 in
theorem ints_ContainsFunc (g : Nat) (lb : Array Value) (p : Int → Bool) (A : Option Addr) (c : Nat) (xs : List Int) (w : World) (hC : Kd.C (Kd.int .i64) w A xs.length xs)
    (eg : ∀ args w, (callFunc g args).run Try.prog w = .ok (.enter g args) w) (hp : ∀ x W, Calls Try.prog g (#[.int .i64 x] ++ lb) W fun e w' => e = .returned (.bool (p x)) ∧ w' = W) :
    Calls Try.prog 95 #[.slice A xs.length c, .func (.func g) #[] lb] w fun e w' => e = .returned (.bool (xs.any p)) ∧ w' = w := by
  have HI := Aside0.mk (fun W (z : Kd.C (Kd.int .i64) W A xs.length xs) => ints_IndexFunc g lb p A c xs W z eg hp)
  have HC := Aside0.mk hC
  have HE := Aside0.mk (idxI_any p xs)
  clear hC hp eg
  generalize idxI p xs = i at *
  go_enter Try.func95, Try.ntmps95
  go_wp2_with (go_at_call 113; refine (HI.out _ HC.out).mono ?_; rintro e w' ⟨rfl, rfl⟩)
  go_ret
  exact ⟨ret_b HE.out, rfl⟩

theorem between_c (a b c : Int) (w : World) : Calls Try.prog 86 #[.int .i64 a, .int .i64 b, .int .i64 c] w fun e w' => e = .returned (.bool (decide (b ≤ a) && decide (a ≤ c))) ∧ w' = w := by
  by_cases h : b ≤ a
  · have d : decide (b ≤ a) = true := decide_eq_true h
    go_enter Try.func86, Try.ntmps86
    go_wp2
    go_ret
    exact ⟨by simp [d], rfl⟩
  · have d : decide (b ≤ a) = false := decide_eq_false h
    go_enter Try.func86, Try.ntmps86
    go_wp2
    go_ret
    exact ⟨by simp [d], rfl⟩
/-- A vector's number. -/
def vnB (n : Int) : Bool := decide (0 ≤ n) && decide (n ≤ 2000)
theorem vn_c (n : Int) (w : World) : Calls Try.prog 96 #[.int .i64 n] w fun e w' => e = .returned (.bool (!vnB n)) ∧ w' = w := by
  have H := Aside0.mk (fun W => between_c n 0 2000 W)
  have E := Aside0.mk (show vnB n = (decide (0 ≤ n) && decide (n ≤ 2000)) from rfl)
  generalize (decide (0 ≤ n) && decide (n ≤ 2000)) = b at *
  go_enter Try.func96, Try.ntmps96
  go_wp2_with (go_at_call 86; refine (H.out _).mono ?_; rintro e w' ⟨rfl, rfl⟩)
  go_ret
  exact ⟨by rw [E.out]; rfl, rfl⟩
/-- May it be a vector? -/
def vecB (v : List Int) : Bool := (v.length == 4) && !(v.any fun n => !vnB n)
def order_Vector.f (l0 : List Int) : Option Bool := some (vecB l0)
set_option maxHeartbeats 2000000 in
set_option maxRecDepth 100000 in
theorem order_Vector.calls (A0 : Option Addr) (c0 : Nat) (l0 : List Int) (r : Bool) (w : World) (hr0 : Kd.C (Kd.int .i64) w A0 l0.length l0) (hc0 : l0.length ≤ c0) (h : order_Vector.f l0 = some r) :
    Calls Try.prog 70 #[.slice A0 l0.length c0] w fun e w' => e = .returned (.bool r) ∧ Drawn0 w w' := by
  obtain rfl := Option.some.inj h
  have hl := len_le hr0
  have HA := Aside0.mk (ints_ContainsFunc 96 #[] (fun n => !vnB n) A0 c0 l0 w hr0 (fun _ _ => by rfl) (fun x W => vn_c x W))
  have E := Aside0.mk (show vecB l0 = ((l0.length == 4) && !(l0.any fun n => !vnB n)) from rfl)
  generalize (l0.any fun n => !vnB n) = b at *
  clear hr0
  by_cases c : l0.length = 4
  · have HL := Aside0.mk c
    have d1 : ((l0.length : Int) == 4) = true := beq_iff_eq.mpr (by omega)
    clear c
    go_enter Try.func70, Try.ntmps70
    go_wp2_with (go_at_call 95; refine HA.out.mono ?_; rintro e w' ⟨rfl, rfl⟩)
    go_ret
    exact ⟨ret_b (by rw [E.out, HL.out]; simp), Drawn0.refl _⟩
  · have HL := Aside0.mk (show (l0.length == 4) = false from beq_eq_false_iff_ne.mpr c)
    have d1 : ((l0.length : Int) == 4) = false := beq_eq_false_iff_ne.mpr (by omega)
    clear c
    go_enter Try.func70, Try.ntmps70
    go_wp2
    go_ret
    exact ⟨ret_b (by rw [E.out, HL.out]; simp), Drawn0.refl _⟩
end Go.Proofs.Ytimecfelcjgpiaa.F
