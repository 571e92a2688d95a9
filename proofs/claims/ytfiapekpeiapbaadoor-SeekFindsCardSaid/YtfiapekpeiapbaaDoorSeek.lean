/- seek.Find: contract. -/
import Derived.Test.YtfiapekpeiapbaaDoorText
set_option linter.unusedVariables false
set_option linter.unusedSimpArgs false
namespace Go.Proofs.YtfiapekpeiapbaaDoor.F
open Go.RowKit Go.Proofs.YtfiapekpeiapbaaDoorW.PrintWords Go.Proofs.YtfiapekpeiapbaaDoorW.PrintLast Go.Proofs.YtfiapekpeiapbaaDoorW.PrintMore Go.Proofs.YtfiapekpeiapbaaDoor.Q

theorem rs_rd (s : ByteArray) {j : Nat} (h : j < (rs s).length) : 0 ≤ rd (rs s) (j : Int) ∧ rd (rs s) (j : Int) ≤ 1114111 := by
  have hm : rd (rs s) (j : Int) ∈ rs s := by
    unfold rd
    simp only [Int.toNat_natCast, List.getD_eq_getElem?_getD, List.getElem?_eq_getElem h, Option.getD_some]
    exact List.getElem_mem h
  have := runes_vr _ _ hm
  unfold vr at this; omega
def isKey (k : Int) : Bool := k == 102 || k == 70 || k == 116 || k == 84
theorem Is_c (k : Int) (w : World) : Calls Tryd.prog 72 #[.int .i64 k] w fun e w' => e = .returned (.bool (isKey k)) ∧ Drawn0 w w' := by
  refine Fa.seek_Is.calls k (isKey k) w ?_
  unfold Fa.seek_Is.f isKey
  by_cases c1 : k = 102
  · simp [c1]
  · by_cases c2 : k = 70
    · simp [c2]
    · by_cases c3 : k = 116
      · simp [c3]
      · simp [c1, c2, c3]
def stepOf (k : Int) : Int := if k = 70 ∨ k = 84 then -1 else 1
def shortOf (k : Int) : Int := if k = 116 ∨ k = 84 then stepOf k else 0
def findL (R : List Int) (lo hi step short r : Int) : Nat → Int → Int → Int × Int
  | 0, _, _ => (0, 6)
  | n + 1, i, c => if lo ≤ i ∧ i < hi then (if rd R i = r then (if c - 1 = 0 then (i - short, 0) else findL R lo hi step short r n (i + step) (c - 1)) else (if c = 0 then (i - short, 0) else findL R lo hi step short r n (i + step) c)) else (0, 6)
def findR (R : List Int) (a k r c : Int) : Int × Int :=
  findL R (rd (begins R) (rowOf (begins R) a : Int)) (endOf R (begins R) (rowOf (begins R) a)) (stepOf k) (shortOf k) r (R.length + 2) (a + stepOf k) c
def findF (s : ByteArray) (a k r c : Int) : Int × Int :=
  if mayB s = true ∧ isKey k = true ∧ 1 ≤ c ∧ c ≤ 999 then (if 0 ≤ a ∧ a ≤ (rs s).length then findR (rs s) a k r c else (0, 1)) else (0, 1)
def seek_Find.f (a0 : ByteArray) (a1 a2 a3 a4 : Int) : Option (Int × Int) := some (findF a0 a1 a2 a3 a4)
set_option maxHeartbeats 4000000 in
set_option maxRecDepth 100000 in
theorem seek_no (a0 : ByteArray) (a1 a2 a3 a4 : Int) (w : World) (hT : TabsOk w) (c : ¬ (mayB a0 = true ∧ isKey a2 = true ∧ 1 ≤ a4 ∧ a4 ≤ 999)) :
    Calls Tryd.prog 26 #[.string a0, .int .i64 a1, .int .i64 a2, .int .i64 a3, .int .i64 a4] w fun e w' => e = .returned (.tuple #[.int .i64 0, .int .i64 1]) ∧ Below w.heap.size w w' := by
  have HT := Aside0.mk hT
  clear hT
  cases hm : mayB a0 with
  | false =>
    clear c
    go_enter Tryd.func26, Tryd.ntmps26
    go_wp2_with fail
    refine (May_c a0 _ HT.out).mono ?_
    rintro e w1 ⟨rfl, hb⟩
    have HB_w1 := Aside0.mk hb
    clear hb
    go_wp2_with fail
    go_ret2
    exact ⟨rfl, HB_w1.out⟩
  | true =>
    cases hk : isKey a2 with
    | false =>
      clear c
      go_enter Tryd.func26, Tryd.ntmps26
      go_wp2_with fail
      refine (May_c a0 _ HT.out).mono ?_
      rintro e w1 ⟨rfl, hb⟩
      have HB_w1 := Aside0.mk hb
      clear hb
      go_wp2_with fail
      refine (Is_c a2 _).mono ?_
      rintro e w' ⟨rfl, ⟨nd, rfl⟩⟩
      go_wp2_with fail
      go_ret2
      exact ⟨rfl, pw_below_drewN HB_w1.out _⟩
    | true =>
      by_cases c1 : a4 < 1
      · have d1 : decide (a4 < 1) = true := decide_eq_true c1
        clear c c1
        go_enter Tryd.func26, Tryd.ntmps26
        go_wp2_with fail
        refine (May_c a0 _ HT.out).mono ?_
        rintro e w1 ⟨rfl, hb⟩
        have HB_w1 := Aside0.mk hb
        clear hb
        go_wp2_with fail
        refine (Is_c a2 _).mono ?_
        rintro e w' ⟨rfl, ⟨nd, rfl⟩⟩
        go_wp2_with fail
        go_ret2
        exact ⟨rfl, pw_below_drewN HB_w1.out _⟩
      · have c2 : 999 < a4 := by
          rcases Classical.em (999 < a4) with h | h
          · exact h
          · exact absurd ⟨hm, hk, by omega, by omega⟩ c
        have d1 : decide (a4 < 1) = false := decide_eq_false c1
        have d2 : decide (999 < a4) = true := decide_eq_true c2
        clear c c1 c2
        go_enter Tryd.func26, Tryd.ntmps26
        go_wp2_with fail
        refine (May_c a0 _ HT.out).mono ?_
        rintro e w1 ⟨rfl, hb⟩
        have HB_w1 := Aside0.mk hb
        clear hb
        go_wp2_with fail
        refine (Is_c a2 _).mono ?_
        rintro e w' ⟨rfl, ⟨nd, rfl⟩⟩
        go_wp2_with fail
        go_ret2
        exact ⟨rfl, pw_below_drewN HB_w1.out _⟩

set_option maxHeartbeats 4000000 in
set_option maxRecDepth 100000 in
theorem seek_out (a0 : ByteArray) (a1 a2 a3 a4 : Int) (w : World) (hT : TabsOk w) (hm : mayB a0 = true) (hk : isKey a2 = true) (h1 : 1 ≤ a4) (h2 : a4 ≤ 999) (c : ¬ (0 ≤ a1 ∧ a1 ≤ (rs a0).length)) :
    Calls Tryd.prog 26 #[.string a0, .int .i64 a1, .int .i64 a2, .int .i64 a3, .int .i64 a4] w fun e w' => e = .returned (.tuple #[.int .i64 0, .int .i64 1]) ∧ Below w.heap.size w w' := by
  have HT := Aside0.mk hT
  have HS := Aside0.mk (mayB_size hm)
  have HD := Aside0.mk (decide_eq_false c)
  clear hT c
  go_enter Tryd.func26, Tryd.ntmps26
  go_wp2_with fail
  refine (May_c a0 _ HT.out).mono ?_
  rintro e w1 ⟨rfl, hb⟩
  have HB_w1 := Aside0.mk hb
  clear hb
  go_wp2_with fail
  refine (Is_c a2 _).mono ?_
  rintro e w' ⟨rfl, ⟨nd, rfl⟩⟩
  go_wp2_with fail
  refine (Of_c a0 _ HS.out).mono ?_
  rintro e w2 ⟨g, rfl, hm, hb⟩
  have HB_w2 := Aside0.mk hb
  have HM := Aside0.mk hm
  clear hb hm
  go_wp2_with fail
  refine (Map_Is.calls _ g _ _ a1 HM.out).mono ?_
  rintro e w'' ⟨rfl, hw⟩
  rw [hw, HD.out]
  clear hw w''
  go_wp2_with fail
  go_ret2
  exact ⟨rfl, below_then (pw_below_drewN HB_w1.out _) (below_size (pw_below_drewN HB_w1.out nd)) HB_w2.out⟩

set_option maxHeartbeats 4000000 in
set_option maxRecDepth 100000 in
theorem seek_go (a0 : ByteArray) (a1 a2 a3 a4 : Int) (w : World) (hT : TabsOk w) (hm : mayB a0 = true) (hk : a2 = 102 ∨ a2 = 70 ∨ a2 = 116 ∨ a2 = 84) (h1 : 1 ≤ a4) (h2 : a4 ≤ 999) (c : 0 ≤ a1 ∧ a1 ≤ (rs a0).length) (r1 r2 : Int) (hE : findR (rs a0) a1 a2 a3 a4 = (r1, r2)) :
    Calls Tryd.prog 26 #[.string a0, .int .i64 a1, .int .i64 a2, .int .i64 a3, .int .i64 a4] w fun e w' => e = .returned (.tuple #[.int .i64 r1, .int .i64 r2]) ∧ Below w.heap.size w w' := by
  have HT := Aside0.mk hT
  have HS := Aside0.mk (mayB_size hm)
  have HD := Aside0.mk (decide_eq_true c)
  have hc1 := c.1
  have hc2 := c.2
  have hrs := rs_len HS.out
  have hlt := rowOf_lt (rs a0) a1
  have hf := begins_fit (rs a0)
  have hp := begins_pos (rs a0)
  clear hT c
  unfold findR at hE
  have HRow := Aside0.mk (fun W g (z : IsMap W g (rs a0) (begins (rs a0))) => Map_Row.calls W g (rs a0) (begins (rs a0)) a1 z)
  generalize rowOf (begins (rs a0)) a1 = row at *
  obtain ⟨x, hx⟩ : ∃ x, rd (begins (rs a0)) (row : Int) = x := ⟨_, rfl⟩
  have hfx := hf row hlt
  rw [hx] at hfx hE
  have HX := Aside0.mk hx
  have hx1 := hfx.1
  have hx2 := hfx.2
  obtain ⟨E, hEE⟩ : ∃ E, endOf (rs a0) (begins (rs a0)) row = E := ⟨_, rfl⟩
  have hEr := endOf_range hf row
  rw [hEE] at hEr hE
  have he1 := hEr.1
  have he2 := hEr.2
  have HEnd := Aside0.mk (fun W g (z : IsMap W g (rs a0) (begins (rs a0))) => hEE ▸ Map_End.calls W g (rs a0) (begins (rs a0)) row z hf hlt)
  clear hf hfx hx hEE hEr
  have hik : isKey a2 = true := by rcases hk with rfl | rfl | rfl | rfl <;> rfl
  have HIK := Aside0.mk (fun W => Is_c a2 W)
  obtain ⟨k, hkk⟩ : ∃ k, k = a2 := ⟨_, rfl⟩
  rw [← hkk] at hE
  have HK := Aside0.mk hkk
  have HST := Aside0.mk (show stepOf k = 1 ∨ stepOf k = -1 by unfold stepOf; split <;> simp)
  clear hkk
  rcases hk with rfl | rfl | rfl | rfl
  all_goals
    have HE := Aside0.mk hE
    clear hE
    go_enter Tryd.func26, Tryd.ntmps26
    go_wp2_with fail
    refine (May_c a0 _ HT.out).mono ?_
    rintro e w1 ⟨rfl, hb⟩
    have HB_w1 := Aside0.mk hb
    clear hb
    go_wp2_with fail
    refine (HIK.out _).mono ?_
    rintro e w' ⟨rfl, ⟨nd, rfl⟩⟩
    rw [hik]
    go_wp2_with fail
    refine (Of_c a0 _ HS.out).mono ?_
    rintro e w2 ⟨g, rfl, hm, hb⟩
    have HB_w2 := Aside0.mk hb
    have HM := Aside0.mk hm
    clear hb hm
    go_wp2_with fail
    refine (Map_Is.calls _ g _ _ a1 HM.out).mono ?_
    rintro e w'' ⟨rfl, hw⟩
    rw [hw, HD.out]
    clear hw w''
    go_wp2_with fail
    refine (HRow.out _ g HM.out).mono ?_
    rintro e w' ⟨rfl, ⟨nd2, rfl⟩⟩
    go_wp2_with fail
    go_loopg [4, 16] ((rs a0).length + 2) (fun gk v4 v16 W => ∃ i c : Int, v4 = .int .i64 c ∧ v16 = .int .i64 i ∧ Aside0 (findL (rs a0) x E (stepOf k) (shortOf k) a3 gk i c = (r1, r2)) ∧ Aside0 (-1 ≤ i ∧ i ≤ ((rs a0).length : Int) + 1 ∧ (stepOf k = 1 → ((rs a0).length : Int) + 2 - i ≤ gk) ∧ (stepOf k = -1 → i + 2 ≤ gk)) ∧ Aside0 (1 ≤ c ∧ c ≤ 999) ∧ Aside0 (Drawn0 w2 W))
    case atStart =>
      have hk2 := HK.out
      subst hk2
      exact ⟨_, _, rfl, rfl, ⟨by simpa [stepOf, Int.sub_eq_add_neg] using HE.out⟩, ⟨by simp [stepOf] <;> omega⟩, ⟨h1, h2⟩, ⟨by repeat (first | exact Drawn0.refl _ | apply Drawn0.step)⟩⟩
    case round =>
      obtain ⟨i, c, rfl, rfl, HA, HI, HCc, HDr⟩ := hrel
      obtain ⟨nd3, rfl⟩ := HDr.out.out
      obtain ⟨_, hbl, A0, c0, A1, c1, hg, hc0, hc1, hR, hB⟩ := HM.out.drewN nd3
      have hcB : (w2.drewN nd3).cell? ⟨g, 1, none⟩ = some (.slice A1 (begins (rs a0)).length c1) := (blk_cell hg 1).trans rfl
      have hcR : (w2.drewN nd3).cell? ⟨g, 0, none⟩ = some (.slice A0 (rs a0).length c0) := (blk_cell hg 0).trans rfl
      obtain ⟨bb, off, rfl, hcs⟩ := reads_nat hB hp
      have hcx := hcs row hlt
      rw [HX.out] at hcx
      have HRR := Aside0.mk hR
      clear hg hR hB hcs
      cases gk with
      | zero =>
        exfalso
        have := HI.out
        rcases HST.out with e | e
        · have := this.2.2.1 e; omega
        · have := this.2.2.2 e; omega
      | succ k1 =>
        have H := HA.out
        unfold findL at H
        have hi1 := HI.out.1
        have hi2 := HI.out.2.1
        have hci1 := HCc.out.1
        have hci2 := HCc.out.2
        clear HA
        by_cases cx : x ≤ i
        · by_cases ce : i < E
          · rw [if_pos ⟨cx, ce⟩] at H
            obtain ⟨j, rfl⟩ : ∃ j : Nat, i = j := Int.eq_ofNat_of_zero_le (by omega)
            have hj : j < (rs a0).length := by omega
            obtain ⟨bR, oR, rfl, hcr⟩ := reads_nat HRR.out (by omega)
            have hcj := hcr j hj
            have hv := rs_rd a0 hj
            have hv1 := hv.1
            have hv2 := hv.2
            clear hcr hv
            have dx : decide (x ≤ (j : Int)) = true := decide_eq_true cx
            have de : decide ((j : Int) < E) = true := decide_eq_true ce
            by_cases cr : rd (rs a0) (j : Int) = a3
            · rw [if_pos cr] at H
              have dr : (rd (rs a0) (j : Int) == a3) = true := beq_iff_eq.mpr cr
              by_cases cc : c - 1 = 0
              · rw [if_pos cc] at H
                have dc : (c - 1 == 0) = true := beq_iff_eq.mpr cc
                have H' := Aside0.mk H
                clear H cr cc
                go_wp2_with fail
                refine (HEnd.out _ g (HM.out.drewN nd3)).mono ?_
                rintro e w'' ⟨rfl, hw⟩
                rw [hw]
                clear hw w''
                go_wp2_with fail
                go_ret2
                have hk2 := HK.out
                subst hk2
                have H2 := H'.out
                simp only [Prod.mk.injEq] at H2
                obtain ⟨rfl, rfl⟩ := H2
                refine ⟨by first | rfl | (simp [stepOf, shortOf]; done) | (simp [stepOf, shortOf, Int.sub_eq_add_neg]), ?_⟩
                exact pw_below_drewN (below_then (pw_below_drewN HB_w1.out _) (below_size (pw_below_drewN HB_w1.out nd)) HB_w2.out) _
              · rw [if_neg cc] at H
                have dc : (c - 1 == 0) = false := beq_eq_false_iff_ne.mpr cc
                have H' := Aside0.mk H
                have hc3 : 2 ≤ c := by omega
                clear H cr cc
                go_wp2_with fail
                refine (HEnd.out _ g (HM.out.drewN nd3)).mono ?_
                rintro e w'' ⟨rfl, hw⟩
                rw [hw]
                clear hw w''
                go_wp2_with fail
                go_roundg k1
                case measure => omega
                case rel =>
                  have hk2 := HK.out
                  subst hk2
                  exact ⟨_, _, rfl, rfl, ⟨by simpa [stepOf, shortOf, Int.sub_eq_add_neg] using H'.out⟩, ⟨by have := HI.out; simp [stepOf] at this ⊢; omega⟩, ⟨by omega⟩, ⟨by repeat (first | exact Drawn0.refl _ | exact HDr.out | apply Drawn0.step)⟩⟩
            · rw [if_neg cr, if_neg (by omega)] at H
              have dr : (rd (rs a0) (j : Int) == a3) = false := beq_eq_false_iff_ne.mpr cr
              have dc : (c == 0) = false := beq_eq_false_iff_ne.mpr (by omega)
              have H' := Aside0.mk H
              clear H cr
              go_wp2_with fail
              refine (HEnd.out _ g (HM.out.drewN nd3)).mono ?_
              rintro e w'' ⟨rfl, hw⟩
              rw [hw]
              clear hw w''
              go_wp2_with fail
              go_roundg k1
              case measure => omega
              case rel =>
                have hk2 := HK.out
                subst hk2
                exact ⟨_, _, rfl, rfl, ⟨by simpa [stepOf, shortOf, Int.sub_eq_add_neg] using H'.out⟩, ⟨by have := HI.out; simp [stepOf] at this ⊢; omega⟩, ⟨by omega⟩, ⟨by repeat (first | exact Drawn0.refl _ | exact HDr.out | apply Drawn0.step)⟩⟩
          · rw [if_neg (fun z => ce z.2)] at H
            have dx : decide (x ≤ i) = true := decide_eq_true cx
            have de : decide (i < E) = false := decide_eq_false ce
            have H' := Aside0.mk H
            clear H
            go_wp2_with fail
            refine (HEnd.out _ g (HM.out.drewN nd3)).mono ?_
            rintro e w'' ⟨rfl, hw⟩
            rw [hw]
            clear hw w''
            go_wp2_with fail
            go_ret2
            have H2 := H'.out
            simp only [Prod.mk.injEq] at H2
            obtain ⟨rfl, rfl⟩ := H2
            refine ⟨rfl, ?_⟩
            exact pw_below_drewN (below_then (pw_below_drewN HB_w1.out _) (below_size (pw_below_drewN HB_w1.out nd)) HB_w2.out) _
        · rw [if_neg (fun z => cx z.1)] at H
          have dx : decide (x ≤ i) = false := decide_eq_false cx
          have H' := Aside0.mk H
          clear H
          go_wp2_with fail
          go_ret2
          have H2 := H'.out
          simp only [Prod.mk.injEq] at H2
          obtain ⟨rfl, rfl⟩ := H2
          refine ⟨rfl, ?_⟩
          exact pw_below_drewN (below_then (pw_below_drewN HB_w1.out _) (below_size (pw_below_drewN HB_w1.out nd)) HB_w2.out) _
theorem seek_Find.calls (a0 : ByteArray) (a1 a2 a3 a4 : Int) (r1 r2 : Int) (w : World) (hT : TabsOk w) (h : seek_Find.f a0 a1 a2 a3 a4 = some (r1, r2)) :
    Calls Tryd.prog 26 #[.string a0, .int .i64 a1, .int .i64 a2, .int .i64 a3, .int .i64 a4] w fun e w' => e = .returned (.tuple #[.int .i64 r1, .int .i64 r2]) ∧ Below w.heap.size w w' := by
  have h0 := Option.some.inj h
  unfold findF at h0
  by_cases c : mayB a0 = true ∧ isKey a2 = true ∧ 1 ≤ a4 ∧ a4 ≤ 999
  · rw [if_pos c] at h0
    by_cases c2 : 0 ≤ a1 ∧ a1 ≤ (rs a0).length
    · rw [if_pos c2] at h0
      exact seek_go a0 a1 a2 a3 a4 w hT c.1 (by have := c.2.1; simp [isKey] at this; omega) c.2.2.1 c.2.2.2 c2 r1 r2 h0
    · rw [if_neg c2] at h0
      simp only [Prod.mk.injEq] at h0
      obtain ⟨rfl, rfl⟩ := h0
      exact seek_out a0 a1 a2 a3 a4 w hT c.1 c.2.1 c.2.2.1 c.2.2.2 c2
  · rw [if_neg c] at h0
    simp only [Prod.mk.injEq] at h0
    obtain ⟨rfl, rfl⟩ := h0
    exact seek_no a0 a1 a2 a3 a4 w hT c
end Go.Proofs.YtfiapekpeiapbaaDoor.F
