/- regs.set: contract. -/
import Derived.Test.YtdoebjnfnmfnnaaDoorRg
set_option linter.unusedVariables false
set_option linter.unusedSimpArgs false
namespace Go.Proofs.YtdoebjnfnmfnnaaDoor.F
open Go.RowKit Go.Lib Go.Shelf Go.Proofs.YtdoebjnfnmfnnaaDoorW.PrintWords Go.Proofs.YtdoebjnfnmfnnaaDoorW.PrintLast Go.Proofs.YtdoebjnfnmfnnaaDoorW.PrintMore Go.Proofs.YtdoebjnfnmfnnaaDoor.Q

/-- Three cells of a row of one's own are written. -/
theorem own_set3 {w : World} {base : Nat} {e : TypeId} {g n cap i : Nat} {cs : List Value} (h : w.ownsRow base e 3 (.slice (some ⟨g, 0, none⟩) n cap) n cs) (hi : i < n) (a b c : Value) :
    (((w.setCell ⟨g, i * 3, none⟩ a).setCell ⟨g, i * 3 + 1, none⟩ b).setCell ⟨g, i * 3 + 2, none⟩ c).ownsRow base e 3 (.slice (some ⟨g, 0, none⟩) n cap) n (((cs.set (i * 3) a).set (i * 3 + 1) b).set (i * 3 + 2) c) := by
  obtain ⟨h1, h2⟩ := h
  rcases h2 with ⟨h2, _⟩ | ⟨g', cap', cur, he, hbg, hg, hnc, hcm, hcs, htake⟩
  · cases h2
  · injection he with e1 e2 e3
    injection e1 with e1
    injection e1 with e1
    subst e1; subst e3
    rw [setCell_eq_setRow w g (i * 3) cur e (0, 0) a hg]
    have hg1 := setRow_heap w g cur (cur.setIfInBounds (i * 3) a) e _ hg
    rw [setCell_eq_setRow _ g (i * 3 + 1) _ e (0, 0) b hg1]
    have hg2 := setRow_heap _ g _ ((cur.setIfInBounds (i * 3) a).setIfInBounds (i * 3 + 1) b) e _ hg1
    rw [setCell_eq_setRow _ g (i * 3 + 2) _ e (0, 0) c hg2]
    have hg3 := setRow_heap _ g _ (((cur.setIfInBounds (i * 3) a).setIfInBounds (i * 3 + 1) b).setIfInBounds (i * 3 + 2) c) e _ hg2
    refine ⟨by simp [h1], .inr ⟨g, cap, _, rfl, hbg, hg3, hnc, hcm, by simp [hcs], ?_⟩⟩
    rw [← htake]
    simp only [Array.toList_setIfInBounds, List.take_set]
theorem own_cells3 {w : World} {base : Nat} {e : TypeId} {g n cap i : Nat} {cs : List Value} (h : w.ownsRow base e 3 (.slice (some ⟨g, 0, none⟩) n cap) n cs) (hi : i < n) :
    (∃ u, w.cell? ⟨g, i * 3, none⟩ = some u) ∧ (∃ u, w.cell? ⟨g, i * 3 + 1, none⟩ = some u) ∧ (∃ u, w.cell? ⟨g, i * 3 + 2, none⟩ = some u) ∧ w.frozen? ⟨g, i * 3, none⟩ = false ∧ w.frozen? ⟨g, i * 3 + 1, none⟩ = false ∧ w.frozen? ⟨g, i * 3 + 2, none⟩ = false ∧ base ≤ g ∧ g < w.heap.size := by
  obtain ⟨h1, h2⟩ := h
  rcases h2 with ⟨h2, _⟩ | ⟨g', cap', cur, he, hbg, hg, hnc, hcm, hcs, htake⟩
  · cases h2
  · injection he with e1 e2 e3
    injection e1 with e1
    injection e1 with e1
    subst e1; subst e3
    have hs : i * 3 + 2 < cur.size := by omega
    refine ⟨⟨_, by rw [cell_row hg, Array.getElem?_eq_getElem (by omega)]⟩, ⟨_, by rw [cell_row hg, Array.getElem?_eq_getElem (by omega)]⟩, ⟨_, by rw [cell_row hg, Array.getElem?_eq_getElem hs]⟩, by simp [World.frozen?, hg], by simp [World.frozen?, hg], by simp [World.frozen?, hg], hbg, (Array.getElem?_eq_some_iff.1 hg).1⟩
theorem grown_of_below {w w' : World} (h : Below w.heap.size w w') (row : Option Nat) : w.grownBy w' row := ⟨h.os, h.tape, h.output, h.size, fun k hk _ => h.block k hk⟩
theorem grown_set {w w' : World} {g : Nat} (h : w.grownBy w' (some g)) (j : Nat) (u : Value) : w.grownBy (w'.setCell ⟨g, j, none⟩ u) (some g) :=
  ⟨h.os, h.tape, h.output, Nat.le_trans h.size (by simp [World.setCell]), fun k hk hne => (Below.heap_setCell w' ⟨g, j, none⟩ u k (fun e => hne (by rw [e]))).trans (h.block k hk hne)⟩
theorem grown_trans {a b c : World} {row : Option Nat} (h1 : a.grownBy b row) (h2 : b.grownBy c row) : a.grownBy c row :=
  ⟨h2.os.trans h1.os, h2.tape.trans h1.tape, h2.output.trans h1.output, Nat.le_trans h1.size h2.size, fun k hk hne => (h2.block k (Nat.lt_of_lt_of_le hk h1.size) hne).trans (h1.block k hk hne)⟩

/-- From world w, where the row is v, to w', where it is v': of what lay in w v's block alone may have turned. -/
def Step (w : World) (v : Value) (w' : World) (v' : Value) : Prop := w.grownBy w' v.ownBlock ∧ (v'.ownBlock = v.ownBlock ∨ ∃ k, v'.ownBlock = some k ∧ w.heap.size ≤ k)
theorem Step.trans {a b c : World} {u v z : Value} (h1 : Step a u b v) (h2 : Step b v c z) : Step a u c z := by
  obtain ⟨g1, o1⟩ := h1
  obtain ⟨g2, o2⟩ := h2
  refine ⟨⟨g2.os.trans g1.os, g2.tape.trans g1.tape, g2.output.trans g1.output, Nat.le_trans g1.size g2.size, fun k hk hne => ?_⟩, ?_⟩
  · refine (g2.block k (Nat.lt_of_lt_of_le hk g1.size) (fun e => ?_)).trans (g1.block k hk hne)
    rcases o1 with o1 | ⟨k', o1, hk'⟩
    · exact hne (e.trans o1)
    · rw [o1] at e
      injection e with e
      omega
  · rcases o2 with o2 | ⟨k', o2, hk'⟩
    · rcases o1 with o1 | ⟨k', o1, hk'⟩
      · exact .inl (o2.trans o1)
      · exact .inr ⟨k', o2.trans o1, hk'⟩
    · exact .inr ⟨k', o2, Nat.le_trans g1.size hk'⟩
theorem Step.of_below {w w' : World} (h : Below w.heap.size w w') (v : Value) : Step w v w' v := ⟨grown_of_below h _, .inl rfl⟩
theorem Step.of_alloc (w : World) (o : Obj) (v : Value) : Step w v (w.alloc o) v := ⟨World.grownBy_alloc w _ _, .inl rfl⟩
theorem Step.below {w w' : World} {v v' : Value} {base : Nat} (h : Step w v w' v') (hb : base ≤ w.heap.size) (hv : ∀ k, v.ownBlock = some k → base ≤ k) : Below base w w' := (Below.refl base w).grown h.1 hb hv

set_option maxHeartbeats 4000000 in
set_option maxRecDepth 100000 in
/-- regs.set at a row of one's own. -/
theorem set_cR (v : Value) (xs : List SR) (a : Int) (s : ByteArray) (q : Bool) (w : World) (base : Nat) (hown : w.ownsRow base 113 3 v xs.length (flR xs)) (hs : Sor nmR xs) (hm : ∀ m ∈ xs, 0 ≤ m.f0 ∧ m.f0 ≤ 1000) (ha : 0 ≤ a ∧ a ≤ 1000) (hl : xs.length ≤ 1000) (hb : base ≤ w.heap.size) :
    Calls Tryd.prog 110 #[v, .agg #[.int .i64 a, .string s, .bool q]] w fun e w' => ∃ v', e = .returned v' ∧ w'.ownsRow base 113 3 v' (setL nmR ⟨a, s, q⟩ xs).length (flR (setL nmR ⟨a, s, q⟩ xs)) ∧ Step w v w' v' := by
  rw [← ins_eq nmR ⟨a, s, q⟩ xs hs]
  obtain ⟨A, c, rfl, hle⟩ := own_formR hown
  obtain ⟨wb, hwb⟩ : ∃ wb, wb = w.alloc (.cells #[.int .i64 a, .string s, .bool q] 113) := ⟨_, rfl⟩
  have hWb : wb.ownsRow base 113 3 (.slice A xs.length c) xs.length (flR xs) := by rw [hwb]; exact hown.alloc _
  have HF := Aside0.mk (find_cR A c xs a wb (Kd.R_reads' (flR_R hWb)).2.2 hs hm ha hl)
  have hx0 : wb.cell? ⟨w.heap.size, 0, none⟩ = some (.int .i64 a) := by rw [hwb]; simp
  have hx1 : wb.cell? ⟨w.heap.size, 1, none⟩ = some (.string s) := by rw [hwb]; simp
  have hx2 : wb.cell? ⟨w.heap.size, 2, none⟩ = some (.bool q) := by rw [hwb]; simp
  have HX0 := Aside0.mk hx0
  have HX1 := Aside0.mk hx1
  have HX2 := Aside0.mk hx2
  have HWB := Aside0.mk hwb
  have HWO := Aside0.mk hWb
  have HB := Aside0.mk hb
  have HL := Aside0.mk hl
  have HGR := Aside0.mk (show w.grownBy wb (Value.slice A xs.length c).ownBlock by rw [hwb]; exact World.grownBy_alloc w _ _)
  have HSZ := Aside0.mk (show wb.heap.size = w.heap.size + 1 by rw [hwb]; simp)
  have HOW := Aside0.mk (own_lt hown)
  have hcl := cnt_le nmR a xs
  obtain ⟨i, hi⟩ : ∃ i, cntL nmR a xs = i := ⟨_, rfl⟩
  rw [hi] at hcl HF
  have HICL := Aside0.mk hcl
  have hn1 : ((i : Int)) ≤ (xs.length : Int) := by omega
  rw [HWB.out] at HF HX0 HX1 HX2 HWO HSZ HGR
  clear hx0 hx1 hx2 hwb hWb hown hb hm
  cases hh : hasL nmR a xs with
  | true =>
    rw [hh] at HF
    have hil : i < xs.length := by
      rcases Nat.lt_or_ge i xs.length with c | c
      · exact c
      · rw [has_out nmR a xs (by rw [hi]; omega)] at hh; cases hh
    have HIL := Aside0.mk hil
    have HR := Aside0.mk (show insL nmR ⟨a, s, q⟩ xs = xs.set i ⟨a, s, q⟩ by unfold insL; rw [show nmR ⟨a, s, q⟩ = a from rfl, if_pos hh, hi])
    have hil2 : (i : Int) < (xs.length : Int) := by omega
    obtain ⟨g, c', hv, _, _⟩ := HWO.out.form (by omega)
    injection hv with e1 _ e3
    subst e1; subst e3
    clear hi hh
    go_enter Tryd.func110, Tryd.ntmps110
    go_wp2_with (go_at_call 115; refine HF.out.mono ?_; rintro e w4 ⟨rfl, hb⟩; have HB4 := Aside0.mk hb; have HW4 := Aside0.mk (pw_own_below HWO.out hb); have hr0 : w4.cell? ⟨w.heap.size, 0, none⟩ = some (.int .i64 a) := (HB4.out.cell (p := ⟨w.heap.size, 0, none⟩) (by simp)).trans HX0.out; have hr1 : w4.cell? ⟨w.heap.size, 1, none⟩ = some (.string s) := (HB4.out.cell (p := ⟨w.heap.size, 1, none⟩) (by simp)).trans HX1.out; have hr2 : w4.cell? ⟨w.heap.size, 2, none⟩ = some (.bool q) := (HB4.out.cell (p := ⟨w.heap.size, 2, none⟩) (by simp)).trans HX2.out; obtain ⟨⟨u0, hu0⟩, ⟨u1, hu1⟩, ⟨u2, hu2⟩, hz0, hz1, hz2, hbg, hgl⟩ := own_cells3 HW4.out HIL.out; have hgne : g ≠ w.heap.size := (by have := HOW.out g rfl; omega); clear hb)
    go_ret
    refine ⟨_, rfl, ?_, ?_⟩
    · rw [HR.out]
      have h1 := own_set3 HW4.out HIL.out (.int .i64 a) (.string s) (.bool q)
      rw [flR_set xs i ⟨a, s, q⟩ HIL.out] at h1
      rw [List.length_set]
      exact h1
    · exact ⟨grown_set (grown_set (grown_set (grown_trans HGR.out (grown_of_below HB4.out _)) _ _) _ _) _ _, .inl rfl⟩
  | false =>
    rw [hh] at HF
    have HR := Aside0.mk (show insL nmR ⟨a, s, q⟩ xs = xs.take i ++ [⟨a, s, q⟩] ++ xs.drop i by unfold insL; rw [show nmR ⟨a, s, q⟩ = a from rfl, hh, if_neg (by simp), hi])
    clear hi hh
    go_enter Tryd.func110, Tryd.ntmps110
    go_wp2_with (first
      | (go_at_call 115; refine HF.out.mono ?_; rintro e w4 ⟨rfl, hb⟩; have HB4 := Aside0.mk hb; have HW4 := Aside0.mk (pw_own_below HWO.out hb); have HGW4 := Aside0.mk (own_lt HW4.out); have hr0 : w4.cell? ⟨w.heap.size, 0, none⟩ = some (.int .i64 a) := (HB4.out.cell (p := ⟨w.heap.size, 0, none⟩) (by simp)).trans HX0.out; have hr1 : w4.cell? ⟨w.heap.size, 1, none⟩ = some (.string s) := (HB4.out.cell (p := ⟨w.heap.size, 1, none⟩) (by simp)).trans HX1.out; have hr2 : w4.cell? ⟨w.heap.size, 2, none⟩ = some (.bool q) := (HB4.out.cell (p := ⟨w.heap.size, 2, none⟩) (by simp)).trans HX2.out; clear hb)
      | (go_at_call 159; refine (rgIns _ xs.length i (flR xs) [.int .i64 a, .string s, .bool q] w4.heap.size _ base (HW4.out.alloc _) HICL.out (by have := HL.out; omega) (Nat.le_trans (Nat.le_trans HB.out (Nat.le_trans (by simp) HB4.out.size)) (by simp)) (heap_alloc_new w4 _) rfl (by simp [Value.oneCell']) (flR_one xs) (fun e => Nat.lt_irrefl _ (HGW4.out _ e))).mono ?_; rintro e w6 ⟨v6, rfl, hown, hg⟩; have HW6 := Aside0.mk hown; have HG6 : Aside0 (Step _ _ _ _) := Aside0.mk hg; clear hown hg))
    go_ret
    refine ⟨_, rfl, ?_, ?_⟩
    · rw [HR.out]
      have h1 := HW6.out
      rw [flR_take, flR_drop, show [Value.int .i64 a, .string s, .bool q] = flR [⟨a, s, q⟩] from rfl, ← flR_append, ← flR_append] at h1
      have hl6 : (xs.take i ++ [(⟨a, s, q⟩ : SR)] ++ xs.drop i).length = xs.length + 1 := by
        have := HICL.out
        simp only [List.length_append, List.length_take, List.length_drop, List.length_singleton]; omega
      rw [hl6]
      exact h1
    · exact (Step.trans (Step.trans ⟨HGR.out, .inl rfl⟩ (Step.of_below HB4.out _)) (Step.of_alloc w4 _ _)).trans HG6.out
end Go.Proofs.YtdoebjnfnmfnnaaDoor.F
