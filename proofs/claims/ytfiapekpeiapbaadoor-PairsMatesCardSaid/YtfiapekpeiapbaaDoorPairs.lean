/- pairs.Mate, pairs.Move, pairs.Around: contracts. -/
import Derived.Test.YtfiapekpeiapbaaDoorMate
import Derived.Test.YtfiapekpeiapbaaDoorText
set_option linter.unusedVariables false
set_option linter.unusedSimpArgs false
namespace Go.Proofs.YtfiapekpeiapbaaDoor.F
open Go.RowKit Go.Proofs.YtfiapekpeiapbaaDoorW.PrintWords Go.Proofs.YtfiapekpeiapbaaDoorW.PrintLast Go.Proofs.YtfiapekpeiapbaaDoorW.PrintMore Go.Proofs.YtfiapekpeiapbaaDoor.Q


theorem pr_rd (s : ByteArray) {j : Nat} (h : j < (rs s).length) : 0 ≤ rd (rs s) (j : Int) ∧ rd (rs s) (j : Int) ≤ 1114111 := by
  have hm : rd (rs s) (j : Int) ∈ rs s := by
    unfold rd
    simp only [Int.toNat_natCast, List.getD_eq_getElem?_getD, List.getElem?_eq_getElem h, Option.getD_some]
    exact List.getElem_mem h
  have := runes_vr _ _ hm
  unfold vr at this; omega
set_option maxHeartbeats 2000000 in
set_option maxRecDepth 100000 in
theorem pairs_Mate.calls (a0 : ByteArray) (a1 r1 r2 : Int) (w : World) (hT : TabsOk w) (h : pairs_Mate.f a0 a1 = some (r1, r2)) :
    Calls Tryd.prog 40 #[.string a0, .int .i64 a1] w fun e w' => e = .returned (.tuple #[.int .i64 r1, .int .i64 r2]) ∧ Below w.heap.size w w' := by
  have HT := Aside0.mk hT
  have H0 := Aside0.mk (Option.some.inj h)
  clear hT h
  cases hm : mayB a0 with
  | false =>
    have HE := Aside0.mk (show mateOf a0 a1 = (0, 1) by simp [mateOf, hm])
    go_enter Tryd.func40, Tryd.ntmps40
    go_wp2_with fail
    refine (May_c a0 _ HT.out).mono ?_
    rintro e w1 ⟨rfl, hb⟩
    have HB_w1 := Aside0.mk hb
    clear hb
    go_wp2_with fail
    go_ret2
    have e1 := HE.out.symm.trans H0.out
    simp only [Prod.mk.injEq] at e1
    obtain ⟨rfl, rfl⟩ := e1
    exact ⟨rfl, HB_w1.out⟩
  | true =>
    have HS := Aside0.mk (mayB_size hm)
    have hrs := rs_len HS.out
    by_cases c : 0 ≤ a1 ∧ a1 ≤ (rs a0).length
    · have HD := Aside0.mk (decide_eq_true c)
      have HC := Aside0.mk c
      have HMT := Aside0.mk (fun A0 c0 W hr hc => mate_c (rs a0) hrs a1 c.1 A0 c0 W hr hc)
      have hE : mateOf a0 a1 = if mateF (rs a0) a1 ≥ 0 then (mateF (rs a0) a1, 0) else (0, 6) := by simp only [mateOf, hm, if_true]; rw [if_pos c]
      have hrange := mateF_range (rs a0) a1
      clear c
      generalize mateF (rs a0) a1 = m at *
      by_cases c0 : 0 ≤ m
      · have HE := Aside0.mk (hE.trans (if_pos c0))
        have d0 : decide (0 ≤ m) = true := decide_eq_true c0
        clear hE hrange
        go_enter Tryd.func40, Tryd.ntmps40
        go_wp2_with fail
        refine (May_c a0 _ HT.out).mono ?_
        rintro e w1 ⟨rfl, hb⟩
        have HB_w1 := Aside0.mk hb
        clear hb
        go_wp2_with fail
        refine (Of_c a0 _ HS.out).mono ?_
        rintro e w2 ⟨g, rfl, hm, hb⟩
        have HB_w2 := Aside0.mk hb
        have HM := Aside0.mk hm
        clear hb hm
        go_wp2_with fail
        refine (Map_Is.calls _ g _ _ a1 HM.out).mono ?_
        rintro e w'' ⟨rfl, hw⟩
        rw [hw, HD.out]
        clear hw w''
        obtain ⟨_, _, A0, c1, A1, c2, hg, hc0, hc1, hR, hB⟩ := HM.out
        have hcR : w2.cell? ⟨g, 0, none⟩ = some (.slice A0 (rs a0).length c1) := (blk_cell hg 0).trans rfl
        have HRR := Aside0.mk hR
        clear hg hR hB
        go_wp2_with fail
        refine (HMT.out A0 c1 _ HRR.out hc0).mono ?_
        rintro e w' ⟨rfl, hb⟩
        have HB := Aside0.mk hb
        clear hb
        go_wp2_with fail
        go_ret2
        have e1 := HE.out.symm.trans H0.out
        simp only [Prod.mk.injEq] at e1
        obtain ⟨rfl, rfl⟩ := e1
        exact ⟨rfl, below_then (below_then HB_w1.out HB_w1.out.size HB_w2.out) (below_then HB_w1.out HB_w1.out.size HB_w2.out).size HB.out⟩
      · have HE := Aside0.mk (hE.trans (if_neg c0))
        have d0 : decide (0 ≤ m) = false := decide_eq_false c0
        clear hE hrange
        go_enter Tryd.func40, Tryd.ntmps40
        go_wp2_with fail
        refine (May_c a0 _ HT.out).mono ?_
        rintro e w1 ⟨rfl, hb⟩
        have HB_w1 := Aside0.mk hb
        clear hb
        go_wp2_with fail
        refine (Of_c a0 _ HS.out).mono ?_
        rintro e w2 ⟨g, rfl, hm, hb⟩
        have HB_w2 := Aside0.mk hb
        have HM := Aside0.mk hm
        clear hb hm
        go_wp2_with fail
        refine (Map_Is.calls _ g _ _ a1 HM.out).mono ?_
        rintro e w'' ⟨rfl, hw⟩
        rw [hw, HD.out]
        clear hw w''
        obtain ⟨_, _, A0, c1, A1, c2, hg, hc0, hc1, hR, hB⟩ := HM.out
        have hcR : w2.cell? ⟨g, 0, none⟩ = some (.slice A0 (rs a0).length c1) := (blk_cell hg 0).trans rfl
        have HRR := Aside0.mk hR
        clear hg hR hB
        go_wp2_with fail
        refine (HMT.out A0 c1 _ HRR.out hc0).mono ?_
        rintro e w' ⟨rfl, hb⟩
        have HB := Aside0.mk hb
        clear hb
        go_wp2_with fail
        go_ret2
        have e1 := HE.out.symm.trans H0.out
        simp only [Prod.mk.injEq] at e1
        obtain ⟨rfl, rfl⟩ := e1
        exact ⟨rfl, below_then (below_then HB_w1.out HB_w1.out.size HB_w2.out) (below_then HB_w1.out HB_w1.out.size HB_w2.out).size HB.out⟩
    · have HE := Aside0.mk (show mateOf a0 a1 = (0, 1) by simp [mateOf, hm, c])
      have HD := Aside0.mk (decide_eq_false c)
      clear c
      go_enter Tryd.func40, Tryd.ntmps40
      go_wp2_with fail
      refine (May_c a0 _ HT.out).mono ?_
      rintro e w1 ⟨rfl, hb⟩
      have HB_w1 := Aside0.mk hb
      clear hb
      go_wp2_with fail
      refine (Of_c a0 _ HS.out).mono ?_
      rintro e w2 ⟨g, rfl, hm, hb⟩
      have HB_w2 := Aside0.mk hb
      have HM := Aside0.mk hm
      clear hb hm
      go_wp2_with fail
      refine (Map_Is.calls _ g _ _ a1 HM.out).mono ?_
      rintro e w'' ⟨rfl, hw⟩
      rw [hw, HD.out]
      clear hw w''
      go_wp2_with fail
      go_ret2
      have e1 := HE.out.symm.trans H0.out
      simp only [Prod.mk.injEq] at e1
      obtain ⟨rfl, rfl⟩ := e1
      exact ⟨rfl, below_then HB_w1.out HB_w1.out.size HB_w2.out⟩

/-! pairs.Move. -/
def goL (R : List Int) (E : Int) : Nat → Int → Int × Int
  | 0, _ => (0, 6)
  | n + 1, i => if i < E then (if (kindOf (rd R i)).2 = 0 then goL R E n (i + 1) else (if mateF R i ≥ 0 then (mateF R i, 0) else (0, 6))) else (0, 6)
def goOf (s : ByteArray) (a : Int) : Int × Int :=
  if mayB s = true then (if 0 ≤ a ∧ a ≤ (rs s).length then goL (rs s) (endOf (rs s) (begins (rs s)) (rowOf (begins (rs s)) a)) ((rs s).length + 2) a else (0, 1)) else (0, 1)
def pairs_Move.f (a0 : ByteArray) (a1 : Int) : Option (Int × Int) := some (goOf a0 a1)
set_option maxHeartbeats 4000000 in
set_option maxRecDepth 100000 in
theorem pairs_Move.calls (a0 : ByteArray) (a1 r1 r2 : Int) (w : World) (hT : TabsOk w) (h : pairs_Move.f a0 a1 = some (r1, r2)) :
    Calls Tryd.prog 44 #[.string a0, .int .i64 a1] w fun e w' => e = .returned (.tuple #[.int .i64 r1, .int .i64 r2]) ∧ Below w.heap.size w w' := by
  have HT := Aside0.mk hT
  have H0 := Aside0.mk (Option.some.inj h)
  clear hT h
  cases hm : mayB a0 with
  | false =>
    have HE := Aside0.mk (show goOf a0 a1 = (0, 1) by simp [goOf, hm])
    go_enter Tryd.func44, Tryd.ntmps44
    go_wp2_with fail
    refine (May_c a0 _ HT.out).mono ?_
    rintro e w1 ⟨rfl, hb⟩
    have HB_w1 := Aside0.mk hb
    clear hb
    go_wp2_with fail
    go_ret2
    have e1 := HE.out.symm.trans H0.out
    simp only [Prod.mk.injEq] at e1
    obtain ⟨rfl, rfl⟩ := e1
    exact ⟨rfl, HB_w1.out⟩
  | true =>
    have HS := Aside0.mk (mayB_size hm)
    have hrs := rs_len HS.out
    by_cases c : 0 ≤ a1 ∧ a1 ≤ (rs a0).length
    · have HD := Aside0.mk (decide_eq_true c)
      have hc1 := c.1
      have hc2 := c.2
      have hlt := rowOf_lt (rs a0) a1
      have hf := begins_fit (rs a0)
      have hE : goL (rs a0) (endOf (rs a0) (begins (rs a0)) (rowOf (begins (rs a0)) a1)) ((rs a0).length + 2) a1 = (r1, r2) := by
        have := H0.out
        simp only [goOf, hm, if_true] at this
        rwa [if_pos c] at this
      have HRow := Aside0.mk (fun W g (z : IsMap W g (rs a0) (begins (rs a0))) => Map_Row.calls W g (rs a0) (begins (rs a0)) a1 z)
      generalize rowOf (begins (rs a0)) a1 = row at *
      obtain ⟨E, hEE⟩ : ∃ E, endOf (rs a0) (begins (rs a0)) row = E := ⟨_, rfl⟩
      have hEr := endOf_range hf row
      rw [hEE] at hEr hE
      have he1 := hEr.1
      have he2 := hEr.2
      have HEnd := Aside0.mk (fun W g (z : IsMap W g (rs a0) (begins (rs a0))) => hEE ▸ Map_End.calls W g (rs a0) (begins (rs a0)) row z hf hlt)
      have HM0 := Aside0.mk hm
      have HE := Aside0.mk hE
      clear hf hEE hEr c H0 hE
      go_enter Tryd.func44, Tryd.ntmps44
      go_wp2_with fail
      refine (May_c a0 _ HT.out).mono ?_
      rintro e w1 ⟨rfl, hb⟩
      have HB_w1 := Aside0.mk hb
      clear hb
      go_wp2_with fail
      refine (Of_c a0 _ HS.out).mono ?_
      rintro e w2 ⟨g, rfl, hm, hb⟩
      have HB_w2 := Aside0.mk hb
      have HM := Aside0.mk hm
      clear hb hm
      go_wp2_with fail
      refine (Map_Is.calls _ g _ _ a1 HM.out).mono ?_
      rintro e w'' ⟨rfl, hw⟩
      rw [hw, HD.out]
      clear hw w''
      go_wp2_with fail
      refine (HRow.out _ g HM.out).mono ?_
      rintro e w' ⟨rfl, ⟨nd2, rfl⟩⟩
      go_wp2_with fail
      refine (HEnd.out _ g (HM.out.drewN nd2)).mono ?_
      rintro e w'' ⟨rfl, hw⟩
      rw [hw]
      clear hw w''
      go_wp2_with fail
      have HBA := Aside0.mk (below_then HB_w1.out HB_w1.out.size HB_w2.out)
      go_loopg [1] ((rs a0).length + 2) (fun gk v1 W => ∃ (i : Int) (W0 : World), v1 = .int .i64 i ∧ W0 = W ∧ Aside0 (goL (rs a0) E gk i = (r1, r2)) ∧ Aside0 (0 ≤ i ∧ i ≤ ((rs a0).length : Int) ∧ ((rs a0).length : Int) + 2 - i ≤ gk) ∧ Aside0 (Below w2.heap.size w2 W))
      case atStart => exact ⟨_, _, rfl, rfl, HE, ⟨by omega⟩, ⟨pw_below_drewN (Below.refl _ _) _⟩⟩
      case round =>
        obtain ⟨i, W0, rfl, rfl, HA, HI, HBW⟩ := hrel
        obtain ⟨_, _, A0, c0, A1, c1, hg, hc0, hc1', hR, hB⟩ := HM.out.below HBW.out
        have hcR : W0.cell? ⟨g, 0, none⟩ = some (.slice A0 (rs a0).length c0) := (blk_cell hg 0).trans rfl
        have HRR := Aside0.mk hR
        clear hg hR hB
        cases gk with
        | zero => exfalso; have := HI.out; omega
        | succ k1 =>
          have H := HA.out
          unfold goL at H
          clear HA
          have hi1 := HI.out.1
          have hi2 := HI.out.2.1
          by_cases ce : i < E
          · rw [if_pos ce] at H
            have de : decide (i < E) = true := decide_eq_true ce
            obtain ⟨j, rfl⟩ : ∃ j : Nat, i = j := Int.eq_ofNat_of_zero_le hi1
            have hj : j < (rs a0).length := by omega
            obtain ⟨bR, oR, rfl, hcr⟩ := reads_nat HRR.out (by omega)
            have hcj := hcr j hj
            have hv := pr_rd a0 hj
            have hv1 := hv.1
            have hv2 := hv.2
            clear hcr hv
            obtain ⟨kk, ww, hkk⟩ : ∃ kk ww, kindOf (rd (rs a0) (j : Int)) = (kk, ww) := ⟨_, _, rfl⟩
            have HK := Aside0.mk (fun W => pairs_kind.calls (rd (rs a0) (j : Int)) kk ww W (by rw [pairs_kind.f, hkk]))
            rw [hkk] at H
            dsimp only at H
            clear hkk
            by_cases ck : ww = 0
            · rw [if_pos ck] at H
              have H' := Aside0.mk H
              clear H
              have dk : (ww != 0) = false := by simp [ck]
              go_wp2_with fail
              refine (HK.out _).mono ?_
              rintro e w3 ⟨rfl, hb⟩
              have HB3 := Aside0.mk hb
              clear hb
              go_wp2_with fail
              go_roundg k1
              case measure => omega
              case rel => exact ⟨_, _, rfl, rfl, H', ⟨by have := HI.out; omega⟩, ⟨below_then HBW.out HBW.out.size HB3.out⟩⟩
            · rw [if_neg ck] at H
              have H' := Aside0.mk (show pairs_Mate.f a0 (j : Int) = some (r1, r2) by
                unfold pairs_Mate.f mateOf
                rw [if_pos HM0.out, if_pos ⟨by omega, by omega⟩, H])
              clear H
              have dk : (ww != 0) = true := by simp [ck]
              go_wp2_with fail
              refine (HK.out _).mono ?_
              rintro e w3 ⟨rfl, hb⟩
              have HB3 := Aside0.mk hb
              clear hb
              have HBB := Aside0.mk (below_then HBA.out HBA.out.size (below_then HBW.out HBW.out.size HB3.out))
              go_wp2_with fail
              refine (pairs_Mate.calls a0 _ _ _ _ (T_below HT.out HBB.out) H'.out).mono ?_
              rintro e w4 ⟨rfl, hb⟩
              have HB4 := Aside0.mk hb
              clear hb
              go_wp2_with fail
              go_ret2
              exact ⟨rfl, below_then HBB.out HBB.out.size HB4.out⟩
          · rw [if_neg ce] at H
            have de : decide (i < E) = false := decide_eq_false ce
            have H' := Aside0.mk H
            clear H
            go_wp2_with fail
            go_ret2
            have H2 := H'.out
            simp only [Prod.mk.injEq] at H2
            obtain ⟨rfl, rfl⟩ := H2
            exact ⟨rfl, below_then HBA.out HBA.out.size HBW.out⟩
    · have HE := Aside0.mk (show goOf a0 a1 = (0, 1) by simp [goOf, hm, c])
      have HD := Aside0.mk (decide_eq_false c)
      clear c
      go_enter Tryd.func44, Tryd.ntmps44
      go_wp2_with fail
      refine (May_c a0 _ HT.out).mono ?_
      rintro e w1 ⟨rfl, hb⟩
      have HB_w1 := Aside0.mk hb
      clear hb
      go_wp2_with fail
      refine (Of_c a0 _ HS.out).mono ?_
      rintro e w2 ⟨g, rfl, hm, hb⟩
      have HB_w2 := Aside0.mk hb
      have HM := Aside0.mk hm
      clear hb hm
      go_wp2_with fail
      refine (Map_Is.calls _ g _ _ a1 HM.out).mono ?_
      rintro e w'' ⟨rfl, hw⟩
      rw [hw, HD.out]
      clear hw w''
      go_wp2_with fail
      go_ret2
      have e1 := HE.out.symm.trans H0.out
      simp only [Prod.mk.injEq] at e1
      obtain ⟨rfl, rfl⟩ := e1
      exact ⟨rfl, below_then HB_w1.out HB_w1.out.size HB_w2.out⟩

/-! pairs.Around. -/
def arL (R : List Int) (key at_ : Int) : Nat → Int → Int → Int × Int × Int
  | 0, _, _ => (0, 0, 6)
  | n + 1, i, c => if 0 ≤ i then (if rd R i = key then (if at_ ≤ mateF R i then (if c - 1 = 0 then (i, mateF R i, 0) else arL R key at_ n (i - 1) (c - 1)) else arL R key at_ n (i - 1) c) else arL R key at_ n (i - 1) c) else (0, 0, 6)
def arR (R : List Int) (a k c : Int) : Int × Int × Int := arL R k a (R.length + 2) (min a ((R.length : Int) - 1)) c
def arOf (s : ByteArray) (a k c : Int) : Int × Int × Int :=
  if mayB s = true ∧ (k = 40 ∨ k = 91 ∨ k = 123) ∧ 1 ≤ c ∧ c ≤ 999 then (if 0 ≤ a ∧ a ≤ (rs s).length then arR (rs s) a k c else (0, 0, 1)) else (0, 0, 1)
def pairs_Around.f (a0 : ByteArray) (a1 a2 a3 : Int) : Option (Int × Int × Int) := some (arOf a0 a1 a2 a3)
set_option maxHeartbeats 4000000 in
set_option maxRecDepth 100000 in
theorem ar_no (a0 : ByteArray) (a1 a2 a3 : Int) (w : World) (hT : TabsOk w) (c : ¬ (mayB a0 = true ∧ (a2 = 40 ∨ a2 = 91 ∨ a2 = 123) ∧ 1 ≤ a3 ∧ a3 ≤ 999)) :
    Calls Tryd.prog 42 #[.string a0, .int .i64 a1, .int .i64 a2, .int .i64 a3] w fun e w' => e = .returned (.tuple #[.int .i64 0, .int .i64 0, .int .i64 1]) ∧ Below w.heap.size w w' := by
  have HT := Aside0.mk hT
  clear hT
  cases hm : mayB a0 with
  | false =>
    clear c
    go_enter Tryd.func42, Tryd.ntmps42
    go_wp2_with fail
    refine (May_c a0 _ HT.out).mono ?_
    rintro e w1 ⟨rfl, hb⟩
    have HB_w1 := Aside0.mk hb
    clear hb
    go_wp2_with fail
    go_ret3
    exact ⟨rfl, HB_w1.out⟩
  | true =>
    by_cases hk : a2 = 40 ∨ a2 = 91 ∨ a2 = 123
    · have hc : a3 < 1 ∨ 999 < a3 := by
        rcases Classical.em (a3 < 1) with h | h
        · exact .inl h
        · rcases Classical.em (999 < a3) with h2 | h2
          · exact .inr h2
          · exact absurd ⟨hm, hk, by omega, by omega⟩ c
      clear c
      rcases hk with rfl | rfl | rfl
      all_goals
        rcases hc with c1 | c1
        · have d1 : decide (a3 < 1) = true := decide_eq_true c1
          go_enter Tryd.func42, Tryd.ntmps42
          go_wp2_with fail
          refine (May_c a0 _ HT.out).mono ?_
          rintro e w1 ⟨rfl, hb⟩
          have HB_w1 := Aside0.mk hb
          clear hb
          go_wp2_with fail
          go_ret3
          exact ⟨rfl, by repeat (first | exact HB_w1.out | apply pw_below_drewN | refine below_drew ?_)⟩
        · have d1 : decide (a3 < 1) = false := decide_eq_false (by omega)
          have d2 : decide (999 < a3) = true := decide_eq_true c1
          go_enter Tryd.func42, Tryd.ntmps42
          go_wp2_with fail
          refine (May_c a0 _ HT.out).mono ?_
          rintro e w1 ⟨rfl, hb⟩
          have HB_w1 := Aside0.mk hb
          clear hb
          go_wp2_with fail
          go_ret3
          exact ⟨rfl, by repeat (first | exact HB_w1.out | apply pw_below_drewN | refine below_drew ?_)⟩
    · have d1 : (a2 != 40) = true := bne_iff_ne.2 (fun e => hk (.inl e))
      have d2 : (a2 != 91) = true := bne_iff_ne.2 (fun e => hk (.inr (.inl e)))
      have d3 : (a2 != 123) = true := bne_iff_ne.2 (fun e => hk (.inr (.inr e)))
      clear c hk
      go_enter Tryd.func42, Tryd.ntmps42
      go_wp2_with fail
      refine (May_c a0 _ HT.out).mono ?_
      rintro e w1 ⟨rfl, hb⟩
      have HB_w1 := Aside0.mk hb
      clear hb
      go_wp2_with fail
      go_ret3
      exact ⟨rfl, by repeat (first | exact HB_w1.out | apply pw_below_drewN | refine below_drew ?_)⟩
set_option maxHeartbeats 4000000 in
set_option maxRecDepth 100000 in
theorem ar_out (a0 : ByteArray) (a1 a2 a3 : Int) (w : World) (hT : TabsOk w) (hm : mayB a0 = true) (hk : a2 = 40 ∨ a2 = 91 ∨ a2 = 123) (h1 : 1 ≤ a3) (h2 : a3 ≤ 999) (c : ¬ (0 ≤ a1 ∧ a1 ≤ (rs a0).length)) :
    Calls Tryd.prog 42 #[.string a0, .int .i64 a1, .int .i64 a2, .int .i64 a3] w fun e w' => e = .returned (.tuple #[.int .i64 0, .int .i64 0, .int .i64 1]) ∧ Below w.heap.size w w' := by
  have HT := Aside0.mk hT
  have HS := Aside0.mk (mayB_size hm)
  have HD := Aside0.mk (decide_eq_false c)
  have d1 : decide (a3 < 1) = false := decide_eq_false (by omega)
  have d2 : decide (999 < a3) = false := decide_eq_false (by omega)
  clear hT c
  rcases hk with rfl | rfl | rfl
  all_goals
    go_enter Tryd.func42, Tryd.ntmps42
    go_wp2_with fail
    refine (May_c a0 _ HT.out).mono ?_
    rintro e w1 ⟨rfl, hb⟩
    have HB_w1 := Aside0.mk hb
    clear hb
    go_wp2_with fail
    refine (Of_c a0 _ HS.out).mono ?_
    rintro e w2 ⟨g, rfl, hm, hb⟩
    have HB_w2 := Aside0.mk hb
    have HM := Aside0.mk hm
    clear hb hm
    go_wp2_with fail
    refine (Map_Is.calls _ g _ _ a1 HM.out).mono ?_
    rintro e w'' ⟨rfl, hw⟩
    rw [hw, HD.out]
    clear hw w''
    go_wp2_with fail
    go_ret3
    exact ⟨rfl, by repeat (first | exact below_then HB_w1.out HB_w1.out.size HB_w2.out | exact below_then (pw_below_drewN HB_w1.out _) (pw_below_drewN HB_w1.out _).size HB_w2.out | apply pw_below_drewN)⟩
set_option maxHeartbeats 4000000 in
set_option maxRecDepth 100000 in
theorem ar_go40 (a0 : ByteArray) (a1 a2 a3 : Int) (w : World) (hT : TabsOk w) (hm : mayB a0 = true) (hk : a2 = 40) (h1 : 1 ≤ a3) (h2 : a3 ≤ 999) (c : 0 ≤ a1 ∧ a1 ≤ (rs a0).length) (r1 r2 r3 : Int) (hE : arR (rs a0) a1 a2 a3 = (r1, r2, r3)) :
    Calls Tryd.prog 42 #[.string a0, .int .i64 a1, .int .i64 a2, .int .i64 a3] w fun e w' => e = .returned (.tuple #[.int .i64 r1, .int .i64 r2, .int .i64 r3]) ∧ Below w.heap.size w w' := by
  have HT := Aside0.mk hT
  have HS := Aside0.mk (mayB_size hm)
  have HD := Aside0.mk (decide_eq_true c)
  have hc1 := c.1
  have hc2 := c.2
  have hrs := rs_len HS.out
  have d1 : decide (a3 < 1) = false := decide_eq_false (by omega)
  have d2 : decide (999 < a3) = false := decide_eq_false (by omega)
  unfold arR at hE
  obtain ⟨i0, hi0⟩ : ∃ i0, min a1 (((rs a0).length : Int) - 1) = i0 := ⟨_, rfl⟩
  have hi1 : -1 ≤ i0 ∧ i0 ≤ ((rs a0).length : Int) - 1 := by omega
  rw [hi0] at hE
  have HI0 := Aside0.mk hi0
  have HI1 := Aside0.mk hi1
  clear hT c hi0 hi1
  subst hk
  have HE := Aside0.mk hE
  clear hE
  go_enter Tryd.func42, Tryd.ntmps42
  go_wp2_with fail
  refine (May_c a0 _ HT.out).mono ?_
  rintro e w1 ⟨rfl, hb⟩
  have HB_w1 := Aside0.mk hb
  clear hb
  go_wp2_with fail
  refine (Of_c a0 _ HS.out).mono ?_
  rintro e w2 ⟨g, rfl, hm, hb⟩
  have HB_w2 := Aside0.mk hb
  have HM := Aside0.mk hm
  clear hb hm
  have HBA := Aside0.mk (show Below w.heap.size w w2 from by first | exact below_then HB_w1.out HB_w1.out.size HB_w2.out | exact below_then (pw_below_drewN HB_w1.out _) (pw_below_drewN HB_w1.out _).size HB_w2.out)
  go_wp2_with fail
  refine (Map_Is.calls _ g _ _ a1 HM.out).mono ?_
  rintro e w'' ⟨rfl, hw⟩
  rw [hw, HD.out]
  clear hw w''
  obtain ⟨_, _, A0, c0, A1, c1, hg, hc0, hc1', hR, hB⟩ := HM.out
  have hcR0 : w2.cell? ⟨g, 0, none⟩ = some (.slice A0 (rs a0).length c0) := (blk_cell hg 0).trans rfl
  clear hg hR hB
  go_wp2_with fail
  go_loopg [3, 12] ((rs a0).length + 2) (fun gk v3 v12 W => ∃ (i c : Int) (W0 : World), v3 = .int .i64 c ∧ v12 = .int .i64 i ∧ W0 = W ∧ Aside0 (arL (rs a0) 40 a1 gk i c = (r1, r2, r3)) ∧ Aside0 (-1 ≤ i ∧ i ≤ ((rs a0).length : Int) - 1 ∧ i + 2 ≤ gk) ∧ Aside0 (1 ≤ c ∧ c ≤ 999) ∧ Aside0 (Below w2.heap.size w2 W))
  case atStart => exact ⟨i0, a3, _, rfl, (by rw [← HI0.out]), rfl, HE, ⟨by have := HI1.out; omega⟩, ⟨h1, h2⟩, ⟨by repeat (first | exact Below.refl _ _ | apply pw_below_drewN)⟩⟩
  case round =>
    obtain ⟨i, c, W0, rfl, rfl, rfl, HA, HI, HCc, HBW⟩ := hrel
    obtain ⟨_, _, A0, c0, A1, c1, hg, hc0, hc1', hR, hB⟩ := HM.out.below HBW.out
    have hcR : W0.cell? ⟨g, 0, none⟩ = some (.slice A0 (rs a0).length c0) := (blk_cell hg 0).trans rfl
    have HRR := Aside0.mk hR
    clear hg hR hB
    cases gk with
    | zero => exfalso; have := HI.out; omega
    | succ k1 =>
      have H := HA.out
      unfold arL at H
      clear HA
      have hi1 := HI.out.1
      have hi2 := HI.out.2.1
      have hci1 := HCc.out.1
      have hci2 := HCc.out.2
      by_cases ce : 0 ≤ i
      · rw [if_pos ce] at H
        have de : decide (0 ≤ i) = true := decide_eq_true ce
        obtain ⟨j, rfl⟩ : ∃ j : Nat, i = j := Int.eq_ofNat_of_zero_le ce
        have hj : j < (rs a0).length := by omega
        obtain ⟨bR, oR, rfl, hcr⟩ := reads_nat HRR.out (by omega)
        have hcj := hcr j hj
        have hv := pr_rd a0 hj
        have hv1 := hv.1
        have hv2 := hv.2
        clear hcr hv
        by_cases ck : rd (rs a0) (j : Int) = 40
        · rw [if_pos ck] at H
          have dk : (rd (rs a0) (j : Int) != 40) = false := by simp [ck]
          have HMT := Aside0.mk (fun A0 c0 W hr hc => mate_c (rs a0) hrs (j : Int) ce A0 c0 W hr hc)
          have hmr := mateF_range (rs a0) (j : Int)
          generalize mateF (rs a0) (j : Int) = m at *
          have hm1 : -1 ≤ m := by omega
          have hm2 : m ≤ 4000 := by omega
          clear ck hmr
          by_cases cm : a1 ≤ m
          · rw [if_pos cm] at H
            have dm : decide (a1 ≤ m) = true := decide_eq_true cm
            by_cases cc : c - 1 = 0
            · rw [if_pos cc] at H
              have dc : (c - 1 == 0) = true := beq_iff_eq.mpr cc
              have H' := Aside0.mk H
              clear H cc
              go_wp2_with fail
              refine (HMT.out _ c0 _ HRR.out hc0).mono ?_
              rintro e w3 ⟨rfl, hb⟩
              have HB3 := Aside0.mk hb
              clear hb
              go_wp2_with fail
              go_ret3
              have H2 := H'.out
              simp only [Prod.mk.injEq] at H2
              obtain ⟨rfl, rfl, rfl⟩ := H2
              exact ⟨rfl, below_then HBA.out HBA.out.size (below_then HBW.out HBW.out.size HB3.out)⟩
            · rw [if_neg cc] at H
              have dc : (c - 1 == 0) = false := beq_eq_false_iff_ne.mpr cc
              have H' := Aside0.mk H
              have hc3 : 2 ≤ c := by omega
              clear H cc
              go_wp2_with fail
              refine (HMT.out _ c0 _ HRR.out hc0).mono ?_
              rintro e w3 ⟨rfl, hb⟩
              have HB3 := Aside0.mk hb
              clear hb
              go_wp2_with fail
              go_roundg k1
              case measure => omega
              case rel => exact ⟨_, _, _, rfl, rfl, rfl, H', ⟨by have := HI.out; omega⟩, ⟨by omega⟩, ⟨below_then HBW.out HBW.out.size HB3.out⟩⟩
          · rw [if_neg cm] at H
            have dm : decide (a1 ≤ m) = false := decide_eq_false cm
            have H' := Aside0.mk H
            clear H
            go_wp2_with fail
            refine (HMT.out _ c0 _ HRR.out hc0).mono ?_
            rintro e w3 ⟨rfl, hb⟩
            have HB3 := Aside0.mk hb
            clear hb
            go_wp2_with fail
            go_roundg k1
            case measure => omega
            case rel => exact ⟨_, _, _, rfl, rfl, rfl, H', ⟨by have := HI.out; omega⟩, ⟨by omega⟩, ⟨below_then HBW.out HBW.out.size HB3.out⟩⟩
        · rw [if_neg ck] at H
          have dk : (rd (rs a0) (j : Int) != 40) = true := by simp [ck]
          have HB3 := Aside0.mk (Below.refl W0.heap.size W0)
          have H' := Aside0.mk H
          clear H ck
          go_wp2_with fail
          go_roundg k1
          case measure => omega
          case rel => exact ⟨_, _, _, rfl, rfl, rfl, H', ⟨by have := HI.out; omega⟩, ⟨by omega⟩, ⟨below_then HBW.out HBW.out.size HB3.out⟩⟩
      · rw [if_neg ce] at H
        have de : decide (0 ≤ i) = false := decide_eq_false ce
        have H' := Aside0.mk H
        clear H
        go_wp2_with fail
        go_ret3
        have H2 := H'.out
        simp only [Prod.mk.injEq] at H2
        obtain ⟨rfl, rfl, rfl⟩ := H2
        exact ⟨rfl, below_then HBA.out HBA.out.size HBW.out⟩
set_option maxHeartbeats 4000000 in
set_option maxRecDepth 100000 in
theorem ar_go91 (a0 : ByteArray) (a1 a2 a3 : Int) (w : World) (hT : TabsOk w) (hm : mayB a0 = true) (hk : a2 = 91) (h1 : 1 ≤ a3) (h2 : a3 ≤ 999) (c : 0 ≤ a1 ∧ a1 ≤ (rs a0).length) (r1 r2 r3 : Int) (hE : arR (rs a0) a1 a2 a3 = (r1, r2, r3)) :
    Calls Tryd.prog 42 #[.string a0, .int .i64 a1, .int .i64 a2, .int .i64 a3] w fun e w' => e = .returned (.tuple #[.int .i64 r1, .int .i64 r2, .int .i64 r3]) ∧ Below w.heap.size w w' := by
  have HT := Aside0.mk hT
  have HS := Aside0.mk (mayB_size hm)
  have HD := Aside0.mk (decide_eq_true c)
  have hc1 := c.1
  have hc2 := c.2
  have hrs := rs_len HS.out
  have d1 : decide (a3 < 1) = false := decide_eq_false (by omega)
  have d2 : decide (999 < a3) = false := decide_eq_false (by omega)
  unfold arR at hE
  obtain ⟨i0, hi0⟩ : ∃ i0, min a1 (((rs a0).length : Int) - 1) = i0 := ⟨_, rfl⟩
  have hi1 : -1 ≤ i0 ∧ i0 ≤ ((rs a0).length : Int) - 1 := by omega
  rw [hi0] at hE
  have HI0 := Aside0.mk hi0
  have HI1 := Aside0.mk hi1
  clear hT c hi0 hi1
  subst hk
  have HE := Aside0.mk hE
  clear hE
  go_enter Tryd.func42, Tryd.ntmps42
  go_wp2_with fail
  refine (May_c a0 _ HT.out).mono ?_
  rintro e w1 ⟨rfl, hb⟩
  have HB_w1 := Aside0.mk hb
  clear hb
  go_wp2_with fail
  refine (Of_c a0 _ HS.out).mono ?_
  rintro e w2 ⟨g, rfl, hm, hb⟩
  have HB_w2 := Aside0.mk hb
  have HM := Aside0.mk hm
  clear hb hm
  have HBA := Aside0.mk (show Below w.heap.size w w2 from by first | exact below_then HB_w1.out HB_w1.out.size HB_w2.out | exact below_then (pw_below_drewN HB_w1.out _) (pw_below_drewN HB_w1.out _).size HB_w2.out)
  go_wp2_with fail
  refine (Map_Is.calls _ g _ _ a1 HM.out).mono ?_
  rintro e w'' ⟨rfl, hw⟩
  rw [hw, HD.out]
  clear hw w''
  obtain ⟨_, _, A0, c0, A1, c1, hg, hc0, hc1', hR, hB⟩ := HM.out
  have hcR0 : w2.cell? ⟨g, 0, none⟩ = some (.slice A0 (rs a0).length c0) := (blk_cell hg 0).trans rfl
  clear hg hR hB
  go_wp2_with fail
  go_loopg [3, 12] ((rs a0).length + 2) (fun gk v3 v12 W => ∃ (i c : Int) (W0 : World), v3 = .int .i64 c ∧ v12 = .int .i64 i ∧ W0 = W ∧ Aside0 (arL (rs a0) 91 a1 gk i c = (r1, r2, r3)) ∧ Aside0 (-1 ≤ i ∧ i ≤ ((rs a0).length : Int) - 1 ∧ i + 2 ≤ gk) ∧ Aside0 (1 ≤ c ∧ c ≤ 999) ∧ Aside0 (Below w2.heap.size w2 W))
  case atStart => exact ⟨i0, a3, _, rfl, (by rw [← HI0.out]), rfl, HE, ⟨by have := HI1.out; omega⟩, ⟨h1, h2⟩, ⟨by repeat (first | exact Below.refl _ _ | apply pw_below_drewN)⟩⟩
  case round =>
    obtain ⟨i, c, W0, rfl, rfl, rfl, HA, HI, HCc, HBW⟩ := hrel
    obtain ⟨_, _, A0, c0, A1, c1, hg, hc0, hc1', hR, hB⟩ := HM.out.below HBW.out
    have hcR : W0.cell? ⟨g, 0, none⟩ = some (.slice A0 (rs a0).length c0) := (blk_cell hg 0).trans rfl
    have HRR := Aside0.mk hR
    clear hg hR hB
    cases gk with
    | zero => exfalso; have := HI.out; omega
    | succ k1 =>
      have H := HA.out
      unfold arL at H
      clear HA
      have hi1 := HI.out.1
      have hi2 := HI.out.2.1
      have hci1 := HCc.out.1
      have hci2 := HCc.out.2
      by_cases ce : 0 ≤ i
      · rw [if_pos ce] at H
        have de : decide (0 ≤ i) = true := decide_eq_true ce
        obtain ⟨j, rfl⟩ : ∃ j : Nat, i = j := Int.eq_ofNat_of_zero_le ce
        have hj : j < (rs a0).length := by omega
        obtain ⟨bR, oR, rfl, hcr⟩ := reads_nat HRR.out (by omega)
        have hcj := hcr j hj
        have hv := pr_rd a0 hj
        have hv1 := hv.1
        have hv2 := hv.2
        clear hcr hv
        by_cases ck : rd (rs a0) (j : Int) = 91
        · rw [if_pos ck] at H
          have dk : (rd (rs a0) (j : Int) != 91) = false := by simp [ck]
          have HMT := Aside0.mk (fun A0 c0 W hr hc => mate_c (rs a0) hrs (j : Int) ce A0 c0 W hr hc)
          have hmr := mateF_range (rs a0) (j : Int)
          generalize mateF (rs a0) (j : Int) = m at *
          have hm1 : -1 ≤ m := by omega
          have hm2 : m ≤ 4000 := by omega
          clear ck hmr
          by_cases cm : a1 ≤ m
          · rw [if_pos cm] at H
            have dm : decide (a1 ≤ m) = true := decide_eq_true cm
            by_cases cc : c - 1 = 0
            · rw [if_pos cc] at H
              have dc : (c - 1 == 0) = true := beq_iff_eq.mpr cc
              have H' := Aside0.mk H
              clear H cc
              go_wp2_with fail
              refine (HMT.out _ c0 _ HRR.out hc0).mono ?_
              rintro e w3 ⟨rfl, hb⟩
              have HB3 := Aside0.mk hb
              clear hb
              go_wp2_with fail
              go_ret3
              have H2 := H'.out
              simp only [Prod.mk.injEq] at H2
              obtain ⟨rfl, rfl, rfl⟩ := H2
              exact ⟨rfl, below_then HBA.out HBA.out.size (below_then HBW.out HBW.out.size HB3.out)⟩
            · rw [if_neg cc] at H
              have dc : (c - 1 == 0) = false := beq_eq_false_iff_ne.mpr cc
              have H' := Aside0.mk H
              have hc3 : 2 ≤ c := by omega
              clear H cc
              go_wp2_with fail
              refine (HMT.out _ c0 _ HRR.out hc0).mono ?_
              rintro e w3 ⟨rfl, hb⟩
              have HB3 := Aside0.mk hb
              clear hb
              go_wp2_with fail
              go_roundg k1
              case measure => omega
              case rel => exact ⟨_, _, _, rfl, rfl, rfl, H', ⟨by have := HI.out; omega⟩, ⟨by omega⟩, ⟨below_then HBW.out HBW.out.size HB3.out⟩⟩
          · rw [if_neg cm] at H
            have dm : decide (a1 ≤ m) = false := decide_eq_false cm
            have H' := Aside0.mk H
            clear H
            go_wp2_with fail
            refine (HMT.out _ c0 _ HRR.out hc0).mono ?_
            rintro e w3 ⟨rfl, hb⟩
            have HB3 := Aside0.mk hb
            clear hb
            go_wp2_with fail
            go_roundg k1
            case measure => omega
            case rel => exact ⟨_, _, _, rfl, rfl, rfl, H', ⟨by have := HI.out; omega⟩, ⟨by omega⟩, ⟨below_then HBW.out HBW.out.size HB3.out⟩⟩
        · rw [if_neg ck] at H
          have dk : (rd (rs a0) (j : Int) != 91) = true := by simp [ck]
          have HB3 := Aside0.mk (Below.refl W0.heap.size W0)
          have H' := Aside0.mk H
          clear H ck
          go_wp2_with fail
          go_roundg k1
          case measure => omega
          case rel => exact ⟨_, _, _, rfl, rfl, rfl, H', ⟨by have := HI.out; omega⟩, ⟨by omega⟩, ⟨below_then HBW.out HBW.out.size HB3.out⟩⟩
      · rw [if_neg ce] at H
        have de : decide (0 ≤ i) = false := decide_eq_false ce
        have H' := Aside0.mk H
        clear H
        go_wp2_with fail
        go_ret3
        have H2 := H'.out
        simp only [Prod.mk.injEq] at H2
        obtain ⟨rfl, rfl, rfl⟩ := H2
        exact ⟨rfl, below_then HBA.out HBA.out.size HBW.out⟩
set_option maxHeartbeats 4000000 in
set_option maxRecDepth 100000 in
theorem ar_go123 (a0 : ByteArray) (a1 a2 a3 : Int) (w : World) (hT : TabsOk w) (hm : mayB a0 = true) (hk : a2 = 123) (h1 : 1 ≤ a3) (h2 : a3 ≤ 999) (c : 0 ≤ a1 ∧ a1 ≤ (rs a0).length) (r1 r2 r3 : Int) (hE : arR (rs a0) a1 a2 a3 = (r1, r2, r3)) :
    Calls Tryd.prog 42 #[.string a0, .int .i64 a1, .int .i64 a2, .int .i64 a3] w fun e w' => e = .returned (.tuple #[.int .i64 r1, .int .i64 r2, .int .i64 r3]) ∧ Below w.heap.size w w' := by
  have HT := Aside0.mk hT
  have HS := Aside0.mk (mayB_size hm)
  have HD := Aside0.mk (decide_eq_true c)
  have hc1 := c.1
  have hc2 := c.2
  have hrs := rs_len HS.out
  have d1 : decide (a3 < 1) = false := decide_eq_false (by omega)
  have d2 : decide (999 < a3) = false := decide_eq_false (by omega)
  unfold arR at hE
  obtain ⟨i0, hi0⟩ : ∃ i0, min a1 (((rs a0).length : Int) - 1) = i0 := ⟨_, rfl⟩
  have hi1 : -1 ≤ i0 ∧ i0 ≤ ((rs a0).length : Int) - 1 := by omega
  rw [hi0] at hE
  have HI0 := Aside0.mk hi0
  have HI1 := Aside0.mk hi1
  clear hT c hi0 hi1
  subst hk
  have HE := Aside0.mk hE
  clear hE
  go_enter Tryd.func42, Tryd.ntmps42
  go_wp2_with fail
  refine (May_c a0 _ HT.out).mono ?_
  rintro e w1 ⟨rfl, hb⟩
  have HB_w1 := Aside0.mk hb
  clear hb
  go_wp2_with fail
  refine (Of_c a0 _ HS.out).mono ?_
  rintro e w2 ⟨g, rfl, hm, hb⟩
  have HB_w2 := Aside0.mk hb
  have HM := Aside0.mk hm
  clear hb hm
  have HBA := Aside0.mk (show Below w.heap.size w w2 from by first | exact below_then HB_w1.out HB_w1.out.size HB_w2.out | exact below_then (pw_below_drewN HB_w1.out _) (pw_below_drewN HB_w1.out _).size HB_w2.out)
  go_wp2_with fail
  refine (Map_Is.calls _ g _ _ a1 HM.out).mono ?_
  rintro e w'' ⟨rfl, hw⟩
  rw [hw, HD.out]
  clear hw w''
  obtain ⟨_, _, A0, c0, A1, c1, hg, hc0, hc1', hR, hB⟩ := HM.out
  have hcR0 : w2.cell? ⟨g, 0, none⟩ = some (.slice A0 (rs a0).length c0) := (blk_cell hg 0).trans rfl
  clear hg hR hB
  go_wp2_with fail
  go_loopg [3, 12] ((rs a0).length + 2) (fun gk v3 v12 W => ∃ (i c : Int) (W0 : World), v3 = .int .i64 c ∧ v12 = .int .i64 i ∧ W0 = W ∧ Aside0 (arL (rs a0) 123 a1 gk i c = (r1, r2, r3)) ∧ Aside0 (-1 ≤ i ∧ i ≤ ((rs a0).length : Int) - 1 ∧ i + 2 ≤ gk) ∧ Aside0 (1 ≤ c ∧ c ≤ 999) ∧ Aside0 (Below w2.heap.size w2 W))
  case atStart => exact ⟨i0, a3, _, rfl, (by rw [← HI0.out]), rfl, HE, ⟨by have := HI1.out; omega⟩, ⟨h1, h2⟩, ⟨by repeat (first | exact Below.refl _ _ | apply pw_below_drewN)⟩⟩
  case round =>
    obtain ⟨i, c, W0, rfl, rfl, rfl, HA, HI, HCc, HBW⟩ := hrel
    obtain ⟨_, _, A0, c0, A1, c1, hg, hc0, hc1', hR, hB⟩ := HM.out.below HBW.out
    have hcR : W0.cell? ⟨g, 0, none⟩ = some (.slice A0 (rs a0).length c0) := (blk_cell hg 0).trans rfl
    have HRR := Aside0.mk hR
    clear hg hR hB
    cases gk with
    | zero => exfalso; have := HI.out; omega
    | succ k1 =>
      have H := HA.out
      unfold arL at H
      clear HA
      have hi1 := HI.out.1
      have hi2 := HI.out.2.1
      have hci1 := HCc.out.1
      have hci2 := HCc.out.2
      by_cases ce : 0 ≤ i
      · rw [if_pos ce] at H
        have de : decide (0 ≤ i) = true := decide_eq_true ce
        obtain ⟨j, rfl⟩ : ∃ j : Nat, i = j := Int.eq_ofNat_of_zero_le ce
        have hj : j < (rs a0).length := by omega
        obtain ⟨bR, oR, rfl, hcr⟩ := reads_nat HRR.out (by omega)
        have hcj := hcr j hj
        have hv := pr_rd a0 hj
        have hv1 := hv.1
        have hv2 := hv.2
        clear hcr hv
        by_cases ck : rd (rs a0) (j : Int) = 123
        · rw [if_pos ck] at H
          have dk : (rd (rs a0) (j : Int) != 123) = false := by simp [ck]
          have HMT := Aside0.mk (fun A0 c0 W hr hc => mate_c (rs a0) hrs (j : Int) ce A0 c0 W hr hc)
          have hmr := mateF_range (rs a0) (j : Int)
          generalize mateF (rs a0) (j : Int) = m at *
          have hm1 : -1 ≤ m := by omega
          have hm2 : m ≤ 4000 := by omega
          clear ck hmr
          by_cases cm : a1 ≤ m
          · rw [if_pos cm] at H
            have dm : decide (a1 ≤ m) = true := decide_eq_true cm
            by_cases cc : c - 1 = 0
            · rw [if_pos cc] at H
              have dc : (c - 1 == 0) = true := beq_iff_eq.mpr cc
              have H' := Aside0.mk H
              clear H cc
              go_wp2_with fail
              refine (HMT.out _ c0 _ HRR.out hc0).mono ?_
              rintro e w3 ⟨rfl, hb⟩
              have HB3 := Aside0.mk hb
              clear hb
              go_wp2_with fail
              go_ret3
              have H2 := H'.out
              simp only [Prod.mk.injEq] at H2
              obtain ⟨rfl, rfl, rfl⟩ := H2
              exact ⟨rfl, below_then HBA.out HBA.out.size (below_then HBW.out HBW.out.size HB3.out)⟩
            · rw [if_neg cc] at H
              have dc : (c - 1 == 0) = false := beq_eq_false_iff_ne.mpr cc
              have H' := Aside0.mk H
              have hc3 : 2 ≤ c := by omega
              clear H cc
              go_wp2_with fail
              refine (HMT.out _ c0 _ HRR.out hc0).mono ?_
              rintro e w3 ⟨rfl, hb⟩
              have HB3 := Aside0.mk hb
              clear hb
              go_wp2_with fail
              go_roundg k1
              case measure => omega
              case rel => exact ⟨_, _, _, rfl, rfl, rfl, H', ⟨by have := HI.out; omega⟩, ⟨by omega⟩, ⟨below_then HBW.out HBW.out.size HB3.out⟩⟩
          · rw [if_neg cm] at H
            have dm : decide (a1 ≤ m) = false := decide_eq_false cm
            have H' := Aside0.mk H
            clear H
            go_wp2_with fail
            refine (HMT.out _ c0 _ HRR.out hc0).mono ?_
            rintro e w3 ⟨rfl, hb⟩
            have HB3 := Aside0.mk hb
            clear hb
            go_wp2_with fail
            go_roundg k1
            case measure => omega
            case rel => exact ⟨_, _, _, rfl, rfl, rfl, H', ⟨by have := HI.out; omega⟩, ⟨by omega⟩, ⟨below_then HBW.out HBW.out.size HB3.out⟩⟩
        · rw [if_neg ck] at H
          have dk : (rd (rs a0) (j : Int) != 123) = true := by simp [ck]
          have HB3 := Aside0.mk (Below.refl W0.heap.size W0)
          have H' := Aside0.mk H
          clear H ck
          go_wp2_with fail
          go_roundg k1
          case measure => omega
          case rel => exact ⟨_, _, _, rfl, rfl, rfl, H', ⟨by have := HI.out; omega⟩, ⟨by omega⟩, ⟨below_then HBW.out HBW.out.size HB3.out⟩⟩
      · rw [if_neg ce] at H
        have de : decide (0 ≤ i) = false := decide_eq_false ce
        have H' := Aside0.mk H
        clear H
        go_wp2_with fail
        go_ret3
        have H2 := H'.out
        simp only [Prod.mk.injEq] at H2
        obtain ⟨rfl, rfl, rfl⟩ := H2
        exact ⟨rfl, below_then HBA.out HBA.out.size HBW.out⟩
theorem pairs_Around.calls (a0 : ByteArray) (a1 a2 a3 : Int) (r1 r2 r3 : Int) (w : World) (hT : TabsOk w) (h : pairs_Around.f a0 a1 a2 a3 = some (r1, r2, r3)) :
    Calls Tryd.prog 42 #[.string a0, .int .i64 a1, .int .i64 a2, .int .i64 a3] w fun e w' => e = .returned (.tuple #[.int .i64 r1, .int .i64 r2, .int .i64 r3]) ∧ Below w.heap.size w w' := by
  have h0 := Option.some.inj h
  unfold arOf at h0
  by_cases c : mayB a0 = true ∧ (a2 = 40 ∨ a2 = 91 ∨ a2 = 123) ∧ 1 ≤ a3 ∧ a3 ≤ 999
  · rw [if_pos c] at h0
    by_cases c2 : 0 ≤ a1 ∧ a1 ≤ (rs a0).length
    · rw [if_pos c2] at h0
      rcases c.2.1 with e | e | e
      · exact ar_go40 a0 a1 a2 a3 w hT c.1 e c.2.2.1 c.2.2.2 c2 r1 r2 r3 h0
      · exact ar_go91 a0 a1 a2 a3 w hT c.1 e c.2.2.1 c.2.2.2 c2 r1 r2 r3 h0
      · exact ar_go123 a0 a1 a2 a3 w hT c.1 e c.2.2.1 c.2.2.2 c2 r1 r2 r3 h0
    · rw [if_neg c2] at h0
      simp only [Prod.mk.injEq] at h0
      obtain ⟨rfl, rfl, rfl⟩ := h0
      exact ar_out a0 a1 a2 a3 w hT c.1 c.2.1 c.2.2.1 c.2.2.2 c2
  · rw [if_neg c] at h0
    simp only [Prod.mk.injEq] at h0
    obtain ⟨rfl, rfl, rfl⟩ := h0
    exact ar_no a0 a1 a2 a3 w hT c
end Go.Proofs.YtfiapekpeiapbaaDoor.F
