/- marks.Get and marks.Set: contracts. -/
import Derived.Test.YtdoebjnfnmfnnaaDoorMk
set_option linter.unusedVariables false
set_option linter.unusedSimpArgs false
namespace Go.Proofs.YtdoebjnfnmfnnaaDoor.F
open Go.RowKit Go.Lib Go.Shelf Go.Proofs.YtdoebjnfnmfnnaaDoorW.PrintWords Go.Proofs.YtdoebjnfnmfnnaaDoorW.PrintLast Go.Proofs.YtdoebjnfnmfnnaaDoorW.PrintMore Go.Proofs.YtdoebjnfnmfnnaaDoor.Q

/-- Where the first one is at which p holds; -1: nowhere. -/
def idxI {α : Type} (p : α → Bool) (xs : List α) : Int := if xs.any p then (xs.findIdx p : Int) else -1
theorem idxI_hit {α : Type} (p : α → Bool) : ∀ (xs : List α) (k : Nat) (h : k < xs.length), (∀ j (hj : j < k), p (xs[j]'(by omega)) = false) → p xs[k] = true → idxI p xs = k := by
  intro xs k h h1 h2
  have ha : xs.any p = true := List.any_eq_true.2 ⟨_, List.getElem_mem h, h2⟩
  have hf : xs.findIdx p = k := by
    refine (List.findIdx_eq h).2 ⟨h2, fun j hj => h1 j hj⟩
  unfold idxI
  rw [if_pos ha, hf]
theorem idxI_miss {α : Type} (p : α → Bool) (xs : List α) (h1 : ∀ j (hj : j < xs.length), p xs[j] = false) : idxI p xs = -1 := by
  have ha : ¬ (xs.any p = true) := by
    intro h
    obtain ⟨x, hx, hp⟩ := List.any_eq_true.1 h
    obtain ⟨j, hj, rfl⟩ := List.mem_iff_getElem.1 hx
    rw [h1 j hj] at hp; cases hp
  unfold idxI
  rw [if_neg ha]
theorem ret_i {k : IntKind} {a b : Int} (h : a = b) : Ending.returned (.int k a) = .returned (.int k b) := by rw [h]

set_option maxRecDepth 100000 in
theorem get1_c (a b name : Int) (B : Nat) (W : World) (hc : W.cell? ⟨B, 0, none⟩ = some (.int .i64 name)) (hB : B < W.heap.size) :
    Calls Tryd.prog 101 #[.agg #[.int .i64 a, .int .i64 b], .pointer (some ⟨B, 0, none⟩)] W fun e w' => e = .returned (.bool (decide (a = name))) ∧ Below W.heap.size W w' := by
  have hne : B ≠ W.heap.size := by omega
  go_enter Tryd.func101, Tryd.ntmps101
  go_wp2
  go_ret
  exact ⟨rfl, below_alloc (Below.refl _ _) _⟩

set_option maxHeartbeats 2000000 in
set_option maxRecDepth 100000 in
/-- slices.IndexFunc of marks, by name. -/
theorem ix_c (A : Option Addr) (c : Nat) (xs : List SM) (name : Int) (B : Nat) (w : World) (hC : Kd.C Fa.k150 w A xs.length xs) (hl : xs.length ≤ 100000) (hcell : w.cell? ⟨B, 0, none⟩ = some (.int .i64 name)) (hB : B < w.heap.size) :
    Calls Tryd.prog 100 #[.slice A xs.length c, .func (.func 101) #[] #[.pointer (some ⟨B, 0, none⟩)]] w fun e w' =>
      e = .returned (.int .i64 (idxI (fun m => decide (m.f0 = name)) xs)) ∧ Below w.heap.size w w' := by
  have eg : ∀ args w, (callFunc 101 args).run Tryd.prog w = .ok (.enter 101 args) w := fun _ _ => by rfl
  have HC := Aside0.mk hC
  have HP := Aside0.mk (fun W (hb : Below w.heap.size w W) (a b : Int) => get1_c a b name B W ((hb.cell (p := ⟨B, 0, none⟩) hB).trans hcell) (Nat.lt_of_lt_of_le hB hb.size))
  clear hC hcell hB
  go_enter Tryd.func100, Tryd.ntmps100
  go_wp2
  go_loopg [5, 8] xs.length (fun gg _ s8 wr => ∃ (kk : Nat) (W0 : World), kk ≤ xs.length ∧ xs.length - kk ≤ gg ∧ s8 = .int .i64 kk ∧ W0 = wr ∧ Aside0 (Below w.heap.size w wr) ∧ Aside0 (∀ j (hj : j < xs.length), j < kk → decide (xs[j].f0 = name) = false))
  case atStart => exact ⟨0, _, Nat.zero_le _, by omega, rfl, rfl, ⟨Below.refl _ _⟩, ⟨fun j _ hj => absurd hj (Nat.not_lt_zero _)⟩⟩
  case round =>
    obtain ⟨kk, W0, hkk, hg, rfl, rfl, HB, HA⟩ := hrel
    by_cases hlt : kk < xs.length
    · obtain ⟨b, off, rfl, hb, hcs⟩ := readsM HC.out (by omega)
      obtain ⟨l2, l3⟩ := cellsM hb HB.out hcs kk hlt
      have HX := Aside0.mk (rdM_get hlt)
      generalize rdM xs kk = y at *
      have Hcall := Aside0.mk (HP.out W0 HB.out y.f0 y.f1)
      have d1 : decide (kk < xs.length) = true := decide_eq_true hlt
      clear hcs hb
      cases hq : decide (y.f0 = name) with
      | true =>
        rw [hq] at Hcall
        have HQ := Aside0.mk hq
        clear hq
        go_wp2_with (go_at_fn 101; refine Hcall.out.mono ?_; rintro e w' ⟨rfl, hb'⟩; have HB2 := Aside0.mk hb'; clear hb')
        go_ret
        exact ⟨ret_i (idxI_hit _ xs kk hlt (fun j hj => HA.out j (by omega) hj) (by rw [← HX.out]; exact HQ.out)).symm, below_then HB.out HB.out.size HB2.out⟩
      | false =>
        rw [hq] at Hcall
        have HQ := Aside0.mk hq
        clear hq
        go_wp2_with (go_at_fn 101; refine Hcall.out.mono ?_; rintro e w' ⟨rfl, hb'⟩; have HB2 := Aside0.mk hb'; clear hb')
        go_roundg (xs.length - (kk + 1))
        case measure => omega
        case rel =>
          refine ⟨kk + 1, _, by omega, by omega, by go_num, rfl, ⟨below_then HB.out HB.out.size HB2.out⟩, ⟨fun j hj h2 => ?_⟩⟩
          by_cases e : j = kk
          · subst e; rw [← HX.out]; exact HQ.out
          · exact HA.out j hj (by omega)
    · have d1 : decide (kk < xs.length) = false := decide_eq_false hlt
      go_wp2
      go_ret
      exact ⟨ret_i (idxI_miss _ xs (fun j hj => HA.out j hj (by omega))).symm, HB.out⟩

def marks_Get.f (l0 : List SM) (a1 : Int) : Option (Int × Int) := some (getM l0 a1)
set_option maxHeartbeats 2000000 in
set_option maxRecDepth 100000 in
theorem marks_Get.calls (A0 : Option Addr) (c0 : Nat) (l0 : List SM) (a1 r1 r2 : Int) (w : World) (hr0 : Kd.C Fa.k150 w A0 l0.length l0) (hc0 : l0.length ≤ c0) (h : marks_Get.f l0 a1 = some (r1, r2)) :
    Calls Tryd.prog 53 #[.slice A0 l0.length c0, .int .i64 a1] w fun e w' => e = .returned (.tuple #[.int .i64 r1, .int .i64 r2]) ∧ Below w.heap.size w w' := by
  have H0 := Aside0.mk (Option.some.inj h)
  clear h
  have HC := Aside0.mk hr0
  have HM := Aside0.mk (Mays_c A0 c0 l0 (w.alloc (.cells #[.int .i64 a1] 3)) (Kd.C_alloc hr0 _) hc0)
  cases hm : mayM l0 with
  | false =>
    rw [hm] at HM
    have HE := Aside0.mk (show getM l0 a1 = (0, 1) by simp [getM, hm])
    clear hr0
    go_enter Tryd.func53, Tryd.ntmps53
    go_wp2_with (go_at_call 95; refine HM.out.mono ?_; rintro e w1 ⟨rfl, hb⟩; have HB1 := Aside0.mk hb; clear hb)
    go_ret2
    have e1 := HE.out.symm.trans H0.out
    simp only [Prod.mk.injEq] at e1
    obtain ⟨rfl, rfl⟩ := e1
    exact ⟨rfl, below_then (below_alloc (Below.refl _ _) _) (by simp) HB1.out⟩
  | true =>
    rw [hm] at HM
    have hlen := mayM_len hm
    have HIX := Aside0.mk (fun W (hb : Below (w.alloc (.cells #[.int .i64 a1] 3)).heap.size (w.alloc (.cells #[.int .i64 a1] 3)) W) => ix_c A0 c0 l0 a1 w.heap.size W (Kd.C_below (Kd.C_alloc hr0 _) hb) (by omega) ((hb.cell (p := ⟨w.heap.size, 0, none⟩) (by simp)).trans (by simp)) (Nat.lt_of_lt_of_le (by simp) hb.size))
    cases hf : l0.find? (fun m => decide (m.f0 = a1)) with
    | none =>
      have HE := Aside0.mk (show getM l0 a1 = (0, 3) by simp only [getM, hm, if_true, hf])
      have hix : idxI (fun m : SM => decide (m.f0 = a1)) l0 = -1 := idxI_miss _ _ (fun j hj => by
        have := List.find?_eq_none.1 hf _ (List.getElem_mem hj)
        simpa using this)
      rw [hix] at HIX
      clear hr0 hix hf
      go_enter Tryd.func53, Tryd.ntmps53
      go_wp2_with (first
        | (go_at_call 95; refine HM.out.mono ?_; rintro e w1 ⟨rfl, hb⟩; have HB1 := Aside0.mk hb; clear hb)
        | (go_at_call 100; refine (HIX.out _ HB1.out).mono ?_; rintro e w2 ⟨rfl, hb⟩; have HB2 := Aside0.mk hb; clear hb))
      go_ret2
      have e1 := HE.out.symm.trans H0.out
      simp only [Prod.mk.injEq] at e1
      obtain ⟨rfl, rfl⟩ := e1
      exact ⟨rfl, below_then (below_then (below_alloc (Below.refl _ _) _) (by simp) HB1.out) (Nat.le_trans (by simp) HB1.out.size) HB2.out⟩
    | some m =>
      have HE := Aside0.mk (show getM l0 a1 = (m.f1, 0) by simp only [getM, hm, if_true, hf])
      obtain ⟨hp, k, hk, hkm, hbe⟩ := List.find?_eq_some_iff_getElem.1 hf
      have hix : idxI (fun m : SM => decide (m.f0 = a1)) l0 = (k : Int) := idxI_hit _ _ k hk (fun j hj => by simpa using hbe j hj) (by rw [hkm]; exact hp)
      rw [hix] at HIX
      obtain ⟨b, off, rfl, hb, hcs⟩ := readsM hr0 (by omega)
      have HQ := Aside0.mk (hcs k hk).2
      have hkm' := rdM_get hk
      rw [hkm'.trans hkm] at HQ
      have HBW := Aside0.mk hb
      have HK := Aside0.mk hk
      have dk : (k : Int) < (l0.length : Int) := by omega
      clear hr0 hix hf hp hkm hbe hcs hb hkm'
      go_enter Tryd.func53, Tryd.ntmps53
      go_wp2_with (first
        | (go_at_call 95; refine HM.out.mono ?_; rintro e w1 ⟨rfl, hb⟩; have HB1 := Aside0.mk hb; clear hb)
        | (go_at_call 100; refine (HIX.out _ HB1.out).mono ?_; rintro e w2 ⟨rfl, hb⟩; have HB2 := Aside0.mk (below_then (below_then (below_alloc (Below.refl w.heap.size w) (.cells #[.int .i64 a1] 3)) (by simp) HB1.out) (Nat.le_trans (by simp) HB1.out.size) hb); clear hb; have hq : w2.cell? ⟨b, off + k * 2 + 1, none⟩ = some (.int .i64 m.f1) := (HB2.out.cell (p := ⟨b, off + k * 2 + 1, none⟩) HBW.out).trans HQ.out))
      go_ret2
      have e1 := HE.out.symm.trans H0.out
      simp only [Prod.mk.injEq] at e1
      obtain ⟨rfl, rfl⟩ := e1
      exact ⟨rfl, HB2.out⟩
end Go.Proofs.YtdoebjnfnmfnnaaDoor.F
