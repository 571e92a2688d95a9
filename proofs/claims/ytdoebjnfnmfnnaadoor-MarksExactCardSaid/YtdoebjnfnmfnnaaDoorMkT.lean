/- marks.Set: contract. -/
import Derived.Test.YtdoebjnfnmfnnaaDoorMkG
set_option linter.unusedVariables false
set_option linter.unusedSimpArgs false
namespace Go.Proofs.YtdoebjnfnmfnnaaDoor.F
open Go.RowKit Go.Lib Go.Shelf Go.Proofs.YtdoebjnfnmfnnaaDoorW.PrintWords Go.Proofs.YtdoebjnfnmfnnaaDoorW.PrintLast Go.Proofs.YtdoebjnfnmfnnaaDoorW.PrintMore Go.Proofs.YtdoebjnfnmfnnaaDoor.Q

/-- Two cells of a row of one's own are written. -/
theorem own_set2 {w : World} {base : Nat} {e : TypeId} {g n cap i : Nat} {cs : List Value} (h : w.ownsRow base e 2 (.slice (some ⟨g, 0, none⟩) n cap) n cs) (hi : i < n) (a b : Value) :
    ((w.setCell ⟨g, i * 2, none⟩ a).setCell ⟨g, i * 2 + 1, none⟩ b).ownsRow base e 2 (.slice (some ⟨g, 0, none⟩) n cap) n ((cs.set (i * 2) a).set (i * 2 + 1) b) := by
  obtain ⟨h1, h2⟩ := h
  rcases h2 with ⟨h2, _⟩ | ⟨g', cap', cur, he, hbg, hg, hnc, hcm, hcs, htake⟩
  · cases h2
  · injection he with e1 e2 e3
    injection e1 with e1
    injection e1 with e1
    subst e1; subst e3
    rw [setCell_eq_setRow w g (i * 2) cur e (0, 0) a hg]
    have hg1 := setRow_heap w g cur (cur.setIfInBounds (i * 2) a) e _ hg
    rw [setCell_eq_setRow _ g (i * 2 + 1) _ e (0, 0) b hg1]
    have hg2 := setRow_heap _ g _ ((cur.setIfInBounds (i * 2) a).setIfInBounds (i * 2 + 1) b) e _ hg1
    refine ⟨by simp [h1], .inr ⟨g, cap, _, rfl, hbg, hg2, hnc, hcm, by simp [hcs], ?_⟩⟩
    rw [← htake]
    simp only [Array.toList_setIfInBounds, List.take_set]
theorem own_cells2 {w : World} {base : Nat} {e : TypeId} {g n cap i : Nat} {cs : List Value} (h : w.ownsRow base e 2 (.slice (some ⟨g, 0, none⟩) n cap) n cs) (hi : i < n) :
    (∃ u, w.cell? ⟨g, i * 2, none⟩ = some u) ∧ (∃ u, w.cell? ⟨g, i * 2 + 1, none⟩ = some u) ∧ w.frozen? ⟨g, i * 2, none⟩ = false ∧ w.frozen? ⟨g, i * 2 + 1, none⟩ = false ∧ base ≤ g ∧ g < w.heap.size := by
  obtain ⟨h1, h2⟩ := h
  rcases h2 with ⟨h2, _⟩ | ⟨g', cap', cur, he, hbg, hg, hnc, hcm, hcs, htake⟩
  · cases h2
  · injection he with e1 e2 e3
    injection e1 with e1
    injection e1 with e1
    subst e1; subst e3
    have hs : i * 2 + 1 < cur.size := by omega
    refine ⟨⟨_, by rw [cell_row hg, Array.getElem?_eq_getElem (by omega)]⟩, ⟨_, by rw [cell_row hg, Array.getElem?_eq_getElem hs]⟩, by simp [World.frozen?, hg], by simp [World.frozen?, hg], hbg, (Array.getElem?_eq_some_iff.1 hg).1⟩

def marks_Set.f (l0 : List SM) (a1 a2 : Int) : Option (List SM × Int) := some (setM l0 a1 a2)
set_option maxHeartbeats 4000000 in
set_option maxRecDepth 100000 in
theorem marks_Set.calls (A0 : Option Addr) (c0 : Nat) (l0 : List SM) (a1 a2 : Int) (r1 : List SM) (r2 : Int) (w : World) (hr0 : Kd.C Fa.k150 w A0 l0.length l0) (hc0 : l0.length ≤ c0) (h : marks_Set.f l0 a1 a2 = some (r1, r2)) :
    Calls Tryd.prog 50 #[.slice A0 l0.length c0, .int .i64 a1, .int .i64 a2] w fun e w' => ∃ v0_ : Value, e = .returned (.tuple #[v0_, .int .i64 r2]) ∧ Kd.R Fa.k150 150 w' w.heap.size (fun _ => True) v0_ r1 ∧ Below w.heap.size w w' := by
  have H0 := Aside0.mk (Option.some.inj h)
  clear h
  obtain ⟨wb, hwb⟩ : ∃ wb, wb = w.alloc (.cells #[.int .i64 a1, .int .i64 a2] 150) := ⟨_, rfl⟩
  have hBb : Below w.heap.size w wb := by rw [hwb]; exact below_alloc (Below.refl _ _) _
  have hsz : wb.heap.size = w.heap.size + 1 := by rw [hwb]; simp
  have hx0 : wb.cell? ⟨w.heap.size, 0, none⟩ = some (.int .i64 a1) := by rw [hwb]; simp
  have hx1 : wb.cell? ⟨w.heap.size, 1, none⟩ = some (.int .i64 a2) := by rw [hwb]; simp
  have HM := Aside0.mk (Mays_c A0 c0 l0 wb (Kd.C_below hr0 (by rw [hwb]; exact below_alloc (Below.refl _ _) _)) hc0)
  have HBB := Aside0.mk hBb
  have HSZ := Aside0.mk hsz
  have HX0 := Aside0.mk hx0
  have HX1 := Aside0.mk hx1
  have HWB := Aside0.mk hwb
  have hC : Kd.C Fa.k150 wb A0 l0.length l0 := Kd.C_below hr0 hBb
  clear hr0 hBb hsz hx0 hx1 hwb
  cases hm : mayM l0 with
  | false =>
    rw [hm] at HM
    have HE := Aside0.mk (show setM l0 a1 a2 = ([], 1) by simp [setM, hm])
    clear hC
    rw [HWB.out] at HM
    go_enter Tryd.func50, Tryd.ntmps50
    go_wp2_with (go_at_call 95; refine HM.out.mono ?_; rintro e w1 ⟨rfl, hb⟩; have HB1 := Aside0.mk hb; clear hb)
    go_ret2
    have e1 := HE.out.symm.trans H0.out
    simp only [Prod.mk.injEq] at e1
    obtain ⟨rfl, rfl⟩ := e1
    exact ⟨_, rfl, Kd.R_nil _ _ _ _ _, below_then (by rw [← HWB.out]; exact HBB.out) (by simp) HB1.out⟩
  | true =>
    rw [hm] at HM
    have HO := Aside0.mk (fun W (q : Int × Int) => Fa.marks_one.calls q.1 q.2 (oneM ⟨q.1, q.2⟩) W (one_f ⟨q.1, q.2⟩))
    cases ho : oneM ⟨a1, a2⟩ with
    | false =>
      have HE := Aside0.mk (show setM l0 a1 a2 = ([], 1) by simp [setM, hm, ho])
      have HO2 := Aside0.mk (fun W => HO.out W (a1, a2))
      dsimp only at HO2
      rw [ho] at HO2
      clear hC HO
      rw [HWB.out] at HM HX0 HX1 HSZ
      go_enter Tryd.func50, Tryd.ntmps50
      go_wp2_with (first
        | (go_at_call 95; refine HM.out.mono ?_; rintro e w1 ⟨rfl, hb⟩; have HB1 := Aside0.mk hb; have hq0 : w1.cell? ⟨w.heap.size, 0, none⟩ = some (.int .i64 a1) := (hb.cell (p := ⟨w.heap.size, 0, none⟩) (by simp)).trans HX0.out; have hq1 : w1.cell? ⟨w.heap.size, 1, none⟩ = some (.int .i64 a2) := (hb.cell (p := ⟨w.heap.size, 1, none⟩) (by simp)).trans HX1.out; clear hb)
        | (go_at_call 96; refine (HO2.out _).mono ?_; rintro e w2 ⟨rfl, hb⟩; have HB2 := Aside0.mk hb; clear hb))
      have e1 := HE.out.symm.trans H0.out
      simp only [Prod.mk.injEq] at e1
      go_ret2
      obtain ⟨rfl, rfl⟩ := e1
      exact ⟨_, rfl, Kd.R_nil _ _ _ _ _, below_then (by rw [← HWB.out]; exact HBB.out) (by simp) (below_then HB1.out HB1.out.size HB2.out)⟩
    | true =>
      have HO2 := Aside0.mk (fun W => HO.out W (a1, a2))
      dsimp only at HO2
      rw [ho] at HO2
      have hlen := mayM_len hm
      have hmi := (mayM_iff l0).1 hm
      have hbnd : ∀ m ∈ l0, 97 ≤ m.f0 ∧ m.f0 ≤ 122 := fun m hmm => by
        have := hmi.1 m hmm
        simp only [oneM, Bool.and_eq_true, decide_eq_true_eq] at this
        exact this.1
      have hna : 97 ≤ a1 ∧ a1 ≤ 122 := by
        simp only [oneM, Bool.and_eq_true, decide_eq_true_eq] at ho
        exact ho.1
      have HE := Aside0.mk (show setM l0 a1 a2 = (insL nmM ⟨a1, a2⟩ l0, 0) by simp [setM, hm, ho])
      have HCL := Aside0.mk (fun W (hb : Below wb.heap.size wb W) => cl_c A0 c0 l0 W (Kd.C_below hC hb) (by omega))
      have HSO := Aside0.mk hmi.2
      have HMO := Aside0.mk hbnd
      have HNA := Aside0.mk hna
      have HLN := Aside0.mk hlen
      have hcl := cnt_le nmM a1 l0
      obtain ⟨i, hi⟩ : ∃ i, cntL nmM a1 l0 = i := ⟨_, rfl⟩
      have HI := Aside0.mk hi
      rw [hi] at hcl
      have HICL := Aside0.mk hcl
      have hn1 : ((i : Int)) ≤ (l0.length : Int) := by omega
      rw [HWB.out] at HM HX0 HX1 HSZ HCL
      clear hC HO hmi hbnd hna hm
      cases hh : hasL nmM a1 l0 with
      | true =>
        have hil : i < l0.length := by
          rcases Nat.lt_or_ge i l0.length with c | c
          · exact c
          · rw [has_out nmM a1 l0 (by rw [hi]; omega)] at hh; cases hh
        have HIL := Aside0.mk hil
        have HR := Aside0.mk (show insL nmM ⟨a1, a2⟩ l0 = l0.set i ⟨a1, a2⟩ by unfold insL; rw [show nmM ⟨a1, a2⟩ = a1 from rfl, if_pos hh, hi])
        have hil2 : (i : Int) < (l0.length : Int) := by omega
        have hh' := hh
        have hi' := hi
        clear hi hh
        go_enter Tryd.func50, Tryd.ntmps50
        go_wp2_with (first
          | (go_at_call 95; refine HM.out.mono ?_; rintro e w1 ⟨rfl, hb⟩; have HB1 := Aside0.mk hb; have hq0 : w1.cell? ⟨w.heap.size, 0, none⟩ = some (.int .i64 a1) := (hb.cell (p := ⟨w.heap.size, 0, none⟩) (by simp)).trans HX0.out; have hq1 : w1.cell? ⟨w.heap.size, 1, none⟩ = some (.int .i64 a2) := (hb.cell (p := ⟨w.heap.size, 1, none⟩) (by simp)).trans HX1.out; clear hb)
          | (go_at_call 96; refine (HO2.out _).mono ?_; rintro e w2 ⟨rfl, hb⟩; have HB2 := Aside0.mk (below_then HB1.out HB1.out.size hb); clear hb)
          | (go_at_call 97; refine (HCL.out _ HB2.out).mono ?_; rintro e w3 ⟨v', rfl, hown, hb⟩; obtain ⟨g, c', rfl, _, _⟩ := hown.form (by have := HIL.out; omega); have HB3 := Aside0.mk (below_then HB2.out HB2.out.size hb); have HS3 := Aside0.mk HB2.out.size; have HW3 := Aside0.mk hown; clear hb hown)
          | (go_at_call 98; refine (find_c _ _ l0 a1 _ (Kd.R_reads' (fl_R HW3.out)).2.2 HSO.out HMO.out HNA.out HLN.out).mono ?_; rintro e w4 ⟨rfl, hb⟩; have HB4 := Aside0.mk (below_then HB3.out HB3.out.size hb); have HW4 := Aside0.mk (pw_own_below HW3.out hb); have HGW4 := Aside0.mk (own_lt HW4.out); have hr0 : w4.cell? ⟨w.heap.size, 0, none⟩ = some (.int .i64 a1) := (HB4.out.cell (p := ⟨w.heap.size, 0, none⟩) (by simp)).trans HX0.out; have hr1 : w4.cell? ⟨w.heap.size, 1, none⟩ = some (.int .i64 a2) := (HB4.out.cell (p := ⟨w.heap.size, 1, none⟩) (by simp)).trans HX1.out; obtain ⟨⟨u0, hu0⟩, ⟨u1, hu1⟩, hz0, hz1, hbg, hgl⟩ := own_cells2 HW4.out HIL.out; have HBG := Aside0.mk hbg; have hgne : g ≠ w.heap.size := (by have h1 := HB2.out.size; simp at h1; omega)))
        go_ret2
        have e1 := HE.out.symm.trans H0.out
        simp only [Prod.mk.injEq] at e1
        obtain ⟨rfl, rfl⟩ := e1
        have hlow : w.heap.size ≤ w2.heap.size := Nat.le_trans (by simp) HB2.out.size
        refine ⟨_, rfl, ?_, ?_⟩
        · rw [HR.out]
          have h1 := own_set2 HW4.out HIL.out (.int .i64 a1) (.int .i64 a2)
          rw [fl_set l0 i ⟨a1, a2⟩ HIL.out] at h1
          exact Kd.R_lower (fl_R (by rw [List.length_set]; exact h1)) hlow
        · exact Below.setCell (Below.setCell (below_then (below_alloc (Below.refl _ _) _) (by simp) HB4.out) (Nat.le_trans hlow HBG.out) _) (Nat.le_trans hlow HBG.out) _
      | false =>
        have HR := Aside0.mk (show insL nmM ⟨a1, a2⟩ l0 = l0.take i ++ [⟨a1, a2⟩] ++ l0.drop i by unfold insL; rw [show nmM ⟨a1, a2⟩ = a1 from rfl, hh, if_neg (by simp), hi])
        have hh' := hh
        have hi' := hi
        clear hi hh
        go_enter Tryd.func50, Tryd.ntmps50
        go_wp2_with (first
          | (go_at_call 95; refine HM.out.mono ?_; rintro e w1 ⟨rfl, hb⟩; have HB1 := Aside0.mk hb; have hq0 : w1.cell? ⟨w.heap.size, 0, none⟩ = some (.int .i64 a1) := (hb.cell (p := ⟨w.heap.size, 0, none⟩) (by simp)).trans HX0.out; have hq1 : w1.cell? ⟨w.heap.size, 1, none⟩ = some (.int .i64 a2) := (hb.cell (p := ⟨w.heap.size, 1, none⟩) (by simp)).trans HX1.out; clear hb)
          | (go_at_call 96; refine (HO2.out _).mono ?_; rintro e w2 ⟨rfl, hb⟩; have HB2 := Aside0.mk (below_then HB1.out HB1.out.size hb); clear hb)
          | (go_at_call 97; refine (HCL.out _ HB2.out).mono ?_; rintro e w3 ⟨v', rfl, hown, hb⟩; obtain ⟨A', c', rfl, hle⟩ := own_form hown; have HB3 := Aside0.mk (below_then HB2.out HB2.out.size hb); have HS23 := Aside0.mk hb.size; have HS3 := Aside0.mk HB2.out.size; have HW3 := Aside0.mk hown; clear hb hown)
          | (go_at_call 98; refine (find_c _ _ l0 a1 _ (Kd.R_reads' (fl_R HW3.out)).2.2 HSO.out HMO.out HNA.out HLN.out).mono ?_; rintro e w4 ⟨rfl, hb⟩; have HB4 := Aside0.mk (below_then HB3.out HB3.out.size hb); have HW4 := Aside0.mk (pw_own_below HW3.out hb); have HS43 := Aside0.mk (Nat.le_trans HS23.out hb.size); have HGW4 := Aside0.mk (own_lt HW4.out); have hr0 : w4.cell? ⟨w.heap.size, 0, none⟩ = some (.int .i64 a1) := (HB4.out.cell (p := ⟨w.heap.size, 0, none⟩) (by simp)).trans HX0.out; have hr1 : w4.cell? ⟨w.heap.size, 1, none⟩ = some (.int .i64 a2) := (HB4.out.cell (p := ⟨w.heap.size, 1, none⟩) (by simp)).trans HX1.out)
          | (go_at_call 99; refine (mkIns _ l0.length i (fl l0) [.int .i64 a1, .int .i64 a2] w4.heap.size _ w2.heap.size (HW4.out.alloc _) HICL.out (by have := HLN.out; omega) (Nat.le_trans HS43.out (by simp)) (heap_alloc_new w4 _) rfl (by simp [Value.oneCell']) (fl_one l0) (fun e => Nat.lt_irrefl _ (HGW4.out _ e))).mono ?_; rintro e w6 ⟨v6, rfl, hown, hg⟩; have HW6 := Aside0.mk hown; have HG6 := Aside0.mk hg; clear hown hg))
        go_ret2
        have e1 := HE.out.symm.trans H0.out
        simp only [Prod.mk.injEq] at e1
        obtain ⟨rfl, rfl⟩ := e1
        have hlow : w.heap.size ≤ w2.heap.size := Nat.le_trans (by simp) HB2.out.size
        refine ⟨_, rfl, ?_, ?_⟩
        · rw [HR.out]
          have h1 := HW6.out
          rw [fl_take, fl_drop, show [Value.int .i64 a1, .int .i64 a2] = fl [⟨a1, a2⟩] from rfl, ← fl_append, ← fl_append] at h1
          refine Kd.R_lower (fl_R ?_) hlow
          have hl6 : (l0.take i ++ [(⟨a1, a2⟩ : SM)] ++ l0.drop i).length = l0.length + 1 := by
            have := HICL.out
            simp only [List.length_append, List.length_take, List.length_drop, List.length_singleton]; omega
          rw [hl6]
          exact h1
        · exact Below.grown (Below.alloc (below_then (below_alloc (Below.refl _ _) _) (by simp) HB4.out) (Nat.le_trans hlow HS43.out) _) HG6.out (Nat.le_trans (Nat.le_trans hlow HS43.out) (by simp)) (fun k hk => Nat.le_trans hlow (own_base HW4.out k hk))
end Go.Proofs.YtdoebjnfnmfnnaaDoor.F
