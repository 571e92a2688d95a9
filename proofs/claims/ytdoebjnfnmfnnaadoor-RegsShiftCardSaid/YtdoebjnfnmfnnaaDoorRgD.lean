/- slices.Delete of one register; regs.pushed: contracts. -/
import Derived.Test.YtdoebjnfnmfnnaaDoorRgT
import Derived.Test.YtdoebjnfnmfnnaaDoorGen
set_option linter.unusedVariables false
set_option linter.unusedSimpArgs false
namespace Go.Proofs.YtdoebjnfnmfnnaaDoor.F
open Go.RowKit Go.Lib Go.Shelf Go.Proofs.YtdoebjnfnmfnnaaDoorW.PrintWords Go.Proofs.YtdoebjnfnmfnnaaDoorW.PrintLast Go.Proofs.YtdoebjnfnmfnnaaDoorW.PrintMore Go.Proofs.YtdoebjnfnmfnnaaDoor.Q

theorem reps_fl : ∀ (xs : List SR) (cs : List Value), cs.length = xs.length * 3 → (∀ j p, xs[j]? = some p → (cs.drop (j * 3)).take 3 = cR p) → cs = flR xs
  | [], cs, h, _ => by
    have : cs = [] := List.eq_nil_of_length_eq_zero (by simpa using h)
    rw [this]; rfl
  | m :: r, cs, h, hc => by
    have h0 := hc 0 m rfl
    rw [Nat.zero_mul, List.drop_zero] at h0
    have ih := reps_fl r (cs.drop 3) (by rw [List.length_drop, h, List.length_cons]; omega) (fun j p hj => by
      have := hc (j + 1) p hj
      rw [List.drop_drop]
      rwa [show (j + 1) * 3 = 3 + j * 3 by omega] at this)
    rw [← List.take_append_drop 3 cs, h0, ih]
    rfl
theorem R_fl {w : World} {base : Nat} {ok : Nat → Prop} {v : Value} {xs : List SR} (h : Kd.R Ra.k113 113 w base ok v xs) : w.ownsRow base 113 3 v xs.length (flR xs) := by
  obtain ⟨_, inner, ho, hr⟩ := h
  have e : inner = flR xs := reps_fl xs inner hr.1 (fun j p hj => Ra.k113_openM (hr.2 j p hj))
  rw [← e]
  exact ho
theorem step_append_k {P : Program} {ops : Array Oper} {o : Oper} {a : Act} {w : World} {K : Act → World → Prop} {Q : Exit → Act → World → Prop} {E : Prop}
    (hg : o.guard = none) (d x : Operand) (dT sT : TypeId) (hop : o.op = Op.call { callee := Callee.builtin Builtin.append, args := #[d, x], argTypes := #[dT, sT] })
    (v u : Value) (hd : a.eval d = v) (hx : a.eval x = u) {v' : Value} {w' : World} (hr : (Builtin.append_ #[dT, sT] o.type #[v, u]).run P w = .ok v' w') (hK : K (a.put o.dst v') w') :
    if Region.wanted o (yielded ops a.tmps) = true then Oper.wp P o a w K Q else E := by
  have hw : Region.wanted o (yielded ops a.tmps) = true := by simp [Region.wanted, hg]
  rw [if_pos hw]
  unfold Oper.wp
  simp [execOp, hop, resolve, invoke, builtin, hd, hx, hr, Result.andThen]
  exact hK

set_option maxHeartbeats 4000000 in
set_option maxRecDepth 100000 in
theorem del_cR (g c m i : Nat) (xs : List SR) (hlen : xs.length = m + 1) (w : World) (base : Nat) (hown : w.ownsRow base 113 3 (.slice (some ⟨g, 0, none⟩) (m + 1) c) (m + 1) (flR xs)) (hi : i ≤ m) (hm : m ≤ 1000) :
    Calls Tryd.prog 158 #[.slice (some ⟨g, 0, none⟩) (m + 1) c, .int .i64 i, .int .i64 (i + 1)] w fun e w' => e = .returned (.slice (some ⟨g, 0, none⟩) m c) ∧
      w'.ownsRow base 113 3 (.slice (some ⟨g, 0, none⟩) m c) m (flR (xs.eraseIdx i)) ∧ w.grownBy w' (some g) := by
  obtain ⟨i0, hi0, hz0, hzs, hzb⟩ := info_parts (show (Tryd.prog.info? 113).map (fun i => (i.zero, i.size, i.bytes)) = some (some (.agg #[.int .i64 0, .string ⟨#[]⟩, .bool false]), 3, 32) by kernel_rfl)
  have hel : (xs.eraseIdx i).length = m := by rw [List.length_eraseIdx]; split <;> omega
  have hR0 : Kd.R Ra.k113 113 w.drew base (fun _ => True) (.slice (some ⟨g, 0, none⟩) (m + 1) c) xs := Kd.R_drew (flR_R (by rw [hlen]; exact hown))
  obtain ⟨A, hA⟩ : ∃ A : Option Addr, A = if c = i + 1 then some ⟨g, 0, none⟩ else (some (⟨g, 0, none⟩ : Addr)).map (·.add ((i + 1) * Ra.k113.sz)) := ⟨_, rfl⟩
  obtain ⟨w1, hrun, hR1, hg1⟩ := Kd.R_delete_run (P := Tryd.prog) Ra.k113 (W := w.drew) base 105 105 113 i0 Tryd.underlying105 hi0 hzs (k := i) hR0 (by omega) hA (c - (i + 1))
  rw [show m + 1 - (i + 1) = m - i by omega, show m + 1 - 1 = m by omega] at hrun
  rw [show m + 1 - 1 = m by omega] at hR1
  have ho1 := R_fl hR1
  rw [hel] at ho1
  have hnc : m + 1 ≤ c := by
    rcases hown.2 with ⟨hv, _⟩ | ⟨g', cap', cur, hv, _, _, h1, _⟩
    · cases hv
    · injection hv with _ _ e3
      omega
  have hcm : c ≤ maxLen := by
    rcases hown.2 with ⟨hv, _⟩ | ⟨g', cap', cur, hv, _, _, _, h1, _⟩
    · cases hv
    · injection hv with _ _ e3
      omega
  have hc63 : c ≤ 9223372036854775807 := by unfold maxLen at hcm; omega
  obtain ⟨cur, hbg, hh1, hcs, htake⟩ : ∃ cur, base ≤ g ∧ w1.heap[g]? = some (.cells cur 113 (0, 0)) ∧ cur.size = c * 3 ∧ cur.toList.take (m * 3) = flR (xs.eraseIdx i) := by
    rcases ho1.2 with ⟨hv, _⟩ | ⟨g', cap', cur, hv, hbg, hg, h2, h3, h4, h5⟩
    · cases hv
    · injection hv with e1 _ e3
      injection e1 with e1
      injection e1 with e1
      subst e1; subst e3
      exact ⟨cur, hbg, hg, h4, h5⟩
  obtain ⟨C2, hC2⟩ : ∃ C2 : Array Value, C2 = (cur.toList.take (m * 3) ++ [Value.int .i64 0, .string ⟨#[]⟩, .bool false] ++ cur.toList.drop (m * 3 + 3)).toArray := ⟨_, rfl⟩
  have hst := run_storeCells_at Tryd.prog g (m * 3) 113 [Value.int .i64 0, .string ⟨#[]⟩, .bool false] 0 cur w1 hh1 (by simp; omega) (by simp [Value.oneCell'])
  simp only [Nat.add_zero, List.length_cons, List.length_nil] at hst
  rw [← hC2] at hst
  have hcl : ∀ ty, (Builtin.clear_ #[105] ty #[.slice (some ⟨g, m * 3, none⟩) 1 (c - m)]).run Tryd.prog w1 = .ok (.tuple #[]) (w1.setRow g C2) := fun ty => by
    have hz : ∀ w, (zeroValue 113).run Tryd.prog w = .ok (.agg #[.int .i64 0, .string ⟨#[]⟩, .bool false]) w := fun w => by
      simp [zeroValue, typeInfo, hi0, hz0]
    have hzc : (Builtin.zeroCells (Value.cells (.agg #[.int .i64 0, .string ⟨#[]⟩, .bool false])) 1).toList = [Value.int .i64 0, .string ⟨#[]⟩, .bool false] := by kernel_rfl
    simp [Builtin.clear_, run_underlying Tryd.underlying105, hz, hzc, hst]
  have hC2s : C2.size = c * 3 := by rw [hC2]; simp only [List.size_toArray, List.length_append, List.length_take, List.length_drop, Array.length_toList, List.length_cons, List.length_nil]; omega
  have HEND := Aside0.mk (show (w1.setRow g C2).ownsRow base 113 3 (.slice (some ⟨g, 0, none⟩) m c) m (flR (xs.eraseIdx i)) ∧ w.grownBy (w1.setRow g C2) (some g) by
    refine ⟨⟨by rw [flR_len, hel], .inr ⟨g, c, C2, rfl, hbg, setRow_heap _ g cur C2 _ _ hh1, by omega, hcm, hC2s, ?_⟩⟩, ⟨hg1.os, hg1.tape, hg1.output, Nat.le_trans hg1.size (by simp), fun k hk hne => ?_⟩⟩
    · rw [hC2, ← htake]
      simp only [List.append_assoc]
      exact List.take_left' (by rw [List.length_take]; simp; omega)
    · rw [setRow_other _ g k C2 (fun e => hne (by rw [e]))]
      exact hg1.block k hk hne)
  have mixed : Tryd.prog.follows .mixedOrders = true := by kernel_rfl
  have hw1 : IntKind.i64.wrap ((i : Int) + 1) = (i : Int) + 1 := by rw [IntKind.wrap_i64]; omega
  have e1 : (i : Int) + 1 ≤ (m : Int) + 1 := by omega
  have e2 : ¬ ((i : Int) = (i : Int) + 1) := by omega
  have e3 : (0 : Int) ≤ (i : Int) + 1 := by omega
  have e4 : ((i : Int) + 1).toNat = i + 1 := by omega
  have e5 : (i : Int) ≤ (i : Int) + 1 := by omega
  have e6 : (i : Int) ≤ (c : Int) := by omega
  have e7 : (m : Int) + 1 ≤ (c : Int) := by omega
  have e8 : ¬ (c = m) := by omega
  have e9 : (i : Int) ≤ (m : Int) + 1 := by omega
  have ea : ¬ (m + 1 = i) := by omega
  clear hst hC2 hC2s htake hcs hh1 hbg ho1 hR1 hR0 hg1 hown hel hlen
  by_cases hc : c = i + 1
  · rw [if_pos hc] at hA
    subst hA
    subst hc
    obtain rfl : i = m := by omega
    simp only [Nat.sub_self] at hrun
    simp only [show i + 1 - i = 1 by omega] at hcl
    go_enter Tryd.func158, Tryd.ntmps158
    go_wp2
    go_region_law_o (refine step_append_k rfl _ _ 105 105 rfl _ _ (by simp [Act.eval, Act.put]) (by simp [Act.eval, Act.put]) hrun ?_)
    go_wp2
    go_ret
    exact ⟨rfl, HEND.out⟩
  · rw [if_neg hc] at hA
    have hA2 : A = some ⟨g, (i + 1) * 3, none⟩ := by
      rw [hA]
      show some ((⟨g, 0, none⟩ : Addr).add ((i + 1) * 3)) = _
      rw [Addr.add_lit, Nat.zero_add]
    clear hA
    subst hA2
    go_enter Tryd.func158, Tryd.ntmps158
    go_wp2
    go_region_law_o (refine step_append_k rfl _ _ 105 105 rfl _ _ (by simp [Act.eval, Act.put]) (by simp [Act.eval, Act.put]) hrun ?_)
    go_wp2
    go_ret
    exact ⟨rfl, HEND.out⟩
end Go.Proofs.YtdoebjnfnmfnnaaDoor.F
