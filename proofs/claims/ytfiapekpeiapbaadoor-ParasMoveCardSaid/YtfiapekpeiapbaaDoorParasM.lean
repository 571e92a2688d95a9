/- paras.down, paras.up, paras.Move: contracts. -/
import Derived.Test.YtfiapekpeiapbaaDoorParas
import Derived.Test.YtfiapekpeiapbaaDoorWInv
import Derived.IntWalk
set_option linter.unusedVariables false
set_option linter.unusedSimpArgs false
namespace Go.Proofs.YtfiapekpeiapbaaDoor.F
open Go.RowKit Go.Proofs.YtfiapekpeiapbaaDoorW.PrintWords Go.Proofs.YtfiapekpeiapbaaDoorW.PrintLast Go.Proofs.YtfiapekpeiapbaaDoorW.PrintMore Go.Proofs.YtfiapekpeiapbaaDoor.Q

theorem drawn2 (w : World) (a b : Nat) : Drawn0 w ((w.drewN a).drewN b) := ⟨a + b, by rw [World.drewN_drewN]⟩
theorem downL_range {R B : List Int} (hf : Fit R B) : ∀ (n row : Nat), 0 ≤ downL R B n row ∧ downL R B n row ≤ R.length
  | 0, row => by unfold downL; omega
  | n + 1, row => by
    unfold downL
    split
    · rename_i h
      split
      · have := hf (row + 1) h
        rwa [show ((row + 1 : Nat) : Int) = (row : Int) + 1 by omega] at this
      · exact downL_range hf n (row + 1)
    · omega
theorem upL_range {R B : List Int} (hf : Fit R B) : ∀ row : Nat, row ≤ B.length → 0 ≤ upL R B row ∧ upL R B row ≤ R.length
  | 0, _ => by unfold upL; omega
  | row + 1, h => by
    unfold upL
    split
    · exact hf row (by omega)
    · exact upL_range hf row (by omega)
def wayF (R : List Int) (k a : Int) : Int := if k = 123 then upF R a else downF R a
theorem wayF_range (R : List Int) (k a : Int) : 0 ≤ wayF R k a ∧ wayF R k a ≤ R.length := by
  unfold wayF
  split
  · exact upL_range (begins_fit R) _ (Nat.le_of_lt (rowOf_lt R a))
  · exact downL_range (begins_fit R) _ _
def iterF (R : List Int) (k : Int) : Nat → Int → Int
  | 0, a => a
  | n + 1, a => iterF R k n (wayF R k a)
def parasR (R : List Int) (a k c : Int) : Int × Int := if iterF R k c.toNat a = a then (0, 6) else (iterF R k c.toNat a, 0)
def parasF (s : ByteArray) (a k c : Int) : Int × Int :=
  if mayB s = true ∧ (k = 123 ∨ k = 125) ∧ 1 ≤ c ∧ c ≤ 999 then (if 0 ≤ a ∧ a ≤ (rs s).length then parasR (rs s) a k c else (0, 1)) else (0, 1)
def paras_Move.f (a0 : ByteArray) (a1 a2 a3 : Int) : Option (Int × Int) := some (parasF a0 a1 a2 a3)
theorem way_down (w : World) (g : Nat) (R : List Int) (a : Int) (h : IsMap w g R (begins R)) :
    Calls Tryd.prog 81 #[.pointer (some ⟨g, 0, none⟩), .int .i64 a] w fun e w' => e = .returned (.int .i64 (wayF R 125 a)) ∧ Drawn0 w w' :=
  down_c w g R (begins R) a _ _ rfl rfl (rowOf_lt R a) h (begins_fit R)
theorem way_up (w : World) (g : Nat) (R : List Int) (a : Int) (h : IsMap w g R (begins R)) :
    Calls Tryd.prog 82 #[.pointer (some ⟨g, 0, none⟩), .int .i64 a] w fun e w' => e = .returned (.int .i64 (wayF R 123 a)) ∧ Drawn0 w w' :=
  up_c w g R (begins R) a _ _ rfl rfl (rowOf_lt R a) h (begins_fit R)
set_option maxHeartbeats 4000000 in
set_option maxRecDepth 100000 in
theorem pm_no (a0 : ByteArray) (a1 a2 a3 : Int) (w : World) (hT : TabsOk w) (c : ¬ (mayB a0 = true ∧ (a2 = 123 ∨ a2 = 125) ∧ 1 ≤ a3 ∧ a3 ≤ 999)) :
    Calls Tryd.prog 35 #[.string a0, .int .i64 a1, .int .i64 a2, .int .i64 a3] w fun e w' => e = .returned (.tuple #[.int .i64 0, .int .i64 1]) ∧ Below w.heap.size w w' := by
  have HT := Aside0.mk hT
  clear hT
  cases hm : mayB a0 with
  | false =>
    clear c
    go_enter Tryd.func35, Tryd.ntmps35
    go_wp2_with fail
    refine (May_c a0 _ HT.out).mono ?_
    rintro e w1 ⟨rfl, hb⟩
    have HB_w1 := Aside0.mk hb
    clear hb
    go_wp2_with fail
    go_ret2
    exact ⟨rfl, HB_w1.out⟩
  | true =>
    by_cases hk : a2 = 123 ∨ a2 = 125
    · have hc : a3 < 1 ∨ 999 < a3 := by
        rcases Classical.em (a3 < 1) with h | h
        · exact .inl h
        · rcases Classical.em (999 < a3) with h2 | h2
          · exact .inr h2
          · exact absurd ⟨hm, hk, by omega, by omega⟩ c
      clear c
      rcases hk with rfl | rfl
      all_goals
        rcases hc with c1 | c1
        · have d1 : decide (a3 < 1) = true := decide_eq_true c1
          go_enter Tryd.func35, Tryd.ntmps35
          go_wp2_with fail
          refine (May_c a0 _ HT.out).mono ?_
          rintro e w1 ⟨rfl, hb⟩
          have HB_w1 := Aside0.mk hb
          clear hb
          go_wp2_with fail
          go_ret2
          exact ⟨rfl, by repeat (first | exact HB_w1.out | apply pw_below_drewN | refine below_drew ?_)⟩
        · have d1 : decide (a3 < 1) = false := decide_eq_false (by omega)
          have d2 : decide (999 < a3) = true := decide_eq_true c1
          go_enter Tryd.func35, Tryd.ntmps35
          go_wp2_with fail
          refine (May_c a0 _ HT.out).mono ?_
          rintro e w1 ⟨rfl, hb⟩
          have HB_w1 := Aside0.mk hb
          clear hb
          go_wp2_with fail
          go_ret2
          exact ⟨rfl, by repeat (first | exact HB_w1.out | apply pw_below_drewN | refine below_drew ?_)⟩
    · have d1 : (a2 != 123) = true := bne_iff_ne.2 (fun e => hk (.inl e))
      have d2 : (a2 != 125) = true := bne_iff_ne.2 (fun e => hk (.inr e))
      clear c hk
      go_enter Tryd.func35, Tryd.ntmps35
      go_wp2_with fail
      refine (May_c a0 _ HT.out).mono ?_
      rintro e w1 ⟨rfl, hb⟩
      have HB_w1 := Aside0.mk hb
      clear hb
      go_wp2_with fail
      go_ret2
      exact ⟨rfl, by repeat (first | exact HB_w1.out | apply pw_below_drewN | refine below_drew ?_)⟩
set_option maxHeartbeats 4000000 in
set_option maxRecDepth 100000 in
theorem pm_out (a0 : ByteArray) (a1 a2 a3 : Int) (w : World) (hT : TabsOk w) (hm : mayB a0 = true) (hk : a2 = 123 ∨ a2 = 125) (h1 : 1 ≤ a3) (h2 : a3 ≤ 999) (c : ¬ (0 ≤ a1 ∧ a1 ≤ (rs a0).length)) :
    Calls Tryd.prog 35 #[.string a0, .int .i64 a1, .int .i64 a2, .int .i64 a3] w fun e w' => e = .returned (.tuple #[.int .i64 0, .int .i64 1]) ∧ Below w.heap.size w w' := by
  have HT := Aside0.mk hT
  have HS := Aside0.mk (mayB_size hm)
  have HD := Aside0.mk (decide_eq_false c)
  have d1 : decide (a3 < 1) = false := decide_eq_false (by omega)
  have d2 : decide (999 < a3) = false := decide_eq_false (by omega)
  clear hT c
  rcases hk with rfl | rfl
  all_goals
    go_enter Tryd.func35, Tryd.ntmps35
    go_wp2_with fail
    refine (May_c a0 _ HT.out).mono ?_
    rintro e w1 ⟨rfl, hb⟩
    have HB_w1 := Aside0.mk hb
    clear hb
    go_wp2_with fail
    refine (Of_c a0 _ HS.out).mono ?_
    rintro e w2 ⟨g, rfl, hm, hb⟩
    have HB_w2 := Aside0.mk hb
    have HM := Aside0.mk hm
    clear hb hm
    go_wp2_with fail
    refine (Map_Is.calls _ g _ _ a1 HM.out).mono ?_
    rintro e w'' ⟨rfl, hw⟩
    rw [hw, HD.out]
    clear hw w''
    go_wp2_with fail
    go_ret2
    exact ⟨rfl, by repeat (first | exact below_then HB_w1.out HB_w1.out.size HB_w2.out | exact below_then (pw_below_drewN HB_w1.out _) (pw_below_drewN HB_w1.out _).size HB_w2.out | apply pw_below_drewN)⟩
set_option maxHeartbeats 4000000 in
set_option maxRecDepth 100000 in
theorem pm_go123 (a0 : ByteArray) (a1 a2 a3 : Int) (w : World) (hT : TabsOk w) (hm : mayB a0 = true) (hk : a2 = 123) (h1 : 1 ≤ a3) (h2 : a3 ≤ 999) (c : 0 ≤ a1 ∧ a1 ≤ (rs a0).length) (r1 r2 : Int) (hE : parasR (rs a0) a1 a2 a3 = (r1, r2)) :
    Calls Tryd.prog 35 #[.string a0, .int .i64 a1, .int .i64 a2, .int .i64 a3] w fun e w' => e = .returned (.tuple #[.int .i64 r1, .int .i64 r2]) ∧ Below w.heap.size w w' := by
  subst hk
  have HT := Aside0.mk hT
  have HS := Aside0.mk (mayB_size hm)
  have HD := Aside0.mk (decide_eq_true c)
  have hc1 := c.1
  have hc2 := c.2
  have hrs := rs_len HS.out
  have d1 : decide (a3 < 1) = false := decide_eq_false (by omega)
  have d2 : decide (999 < a3) = false := decide_eq_false (by omega)
  unfold parasR at hE
  obtain ⟨n, hn⟩ : ∃ n : Nat, a3 = n := ⟨a3.toNat, by omega⟩
  subst hn
  rw [Int.toNat_natCast] at hE
  obtain ⟨fin, hfin⟩ : ∃ fin, iterF (rs a0) 123 n a1 = fin := ⟨_, rfl⟩
  rw [hfin] at hE
  have HE := Aside0.mk hE
  have HF := Aside0.mk hfin
  clear hT c hE hfin
  go_enter Tryd.func35, Tryd.ntmps35
  go_wp2_with fail
  refine (May_c a0 _ HT.out).mono ?_
  rintro e w1 ⟨rfl, hb⟩
  have HB_w1 := Aside0.mk hb
  clear hb
  go_wp2_with fail
  refine (Of_c a0 _ HS.out).mono ?_
  rintro e w2 ⟨g, rfl, hm, hb⟩
  have HB_w2 := Aside0.mk hb
  have HM := Aside0.mk hm
  clear hb hm
  have HBA := Aside0.mk (show Below w.heap.size w w2 from by first | exact below_then HB_w1.out HB_w1.out.size HB_w2.out | exact below_then (pw_below_drewN HB_w1.out _) (pw_below_drewN HB_w1.out _).size HB_w2.out)
  go_wp2_with fail
  refine (Map_Is.calls _ g _ _ a1 HM.out).mono ?_
  rintro e w'' ⟨rfl, hw⟩
  rw [hw, HD.out]
  clear hw w''
  go_wp2_with fail
  go_loopg [12, 42] n (fun gk v12 v42 W => ∃ t : Int, v12 = .int .i64 t ∧ v42 = .int .i64 ((n : Int) - gk) ∧ Aside0 (iterF (rs a0) 123 gk t = fin) ∧ Aside0 (0 ≤ t ∧ t ≤ (rs a0).length) ∧ Aside0 (gk ≤ n) ∧ Aside0 (Drawn0 w2 W))
  case atStart => exact ⟨a1, rfl, by first | rfl | (congr 1; omega), HF, ⟨hc1, hc2⟩, ⟨Nat.le_refl _⟩, ⟨by repeat (first | exact Drawn0.refl _ | apply Drawn0.step)⟩⟩
  case round =>
    obtain ⟨t, rfl, rfl, HA, HI, HG, HDr⟩ := hrel
    obtain ⟨nd3, rfl⟩ := HDr.out.out
    have hi1 := HI.out.1
    have hi2 := HI.out.2
    have hg := HG.out
    cases gk with
    | zero =>
      have hf : t = fin := HA.out
      subst hf
      have dz : decide (((n : Int) - ((0 : Nat) : Int)) < (n : Int)) = false := decide_eq_false (by omega)
      have H := HE.out
      by_cases ce : t = a1
      · rw [if_pos ce] at H
        have de : (t == a1) = true := beq_iff_eq.mpr ce
        clear ce
        go_wp2_with fail
        go_ret2
        simp only [Prod.mk.injEq] at H
        obtain ⟨rfl, rfl⟩ := H
        exact ⟨rfl, pw_below_drewN HBA.out _⟩
      · rw [if_neg ce] at H
        have de : (t == a1) = false := beq_eq_false_iff_ne.mpr ce
        clear ce
        go_wp2_with fail
        go_ret2
        simp only [Prod.mk.injEq] at H
        obtain ⟨rfl, rfl⟩ := H
        exact ⟨rfl, pw_below_drewN HBA.out _⟩
    | succ k1 =>
      have H := HA.out
      unfold iterF at H
      have HC := Aside0.mk (way_up (w2.drewN nd3) g (rs a0) t (HM.out.drewN nd3))
      have hwr := wayF_range (rs a0) 123 t
      generalize wayF (rs a0) 123 t = t2 at *
      have H' := Aside0.mk H
      clear H HA
      have dz : decide (((n : Int) - ((k1 + 1 : Nat) : Int)) < (n : Int)) = true := decide_eq_true (by omega)
      go_wp2_with fail
      refine HC.out.mono ?_
      rintro e w' ⟨rfl, ⟨nd4, rfl⟩⟩
      go_wp2_with fail
      go_roundg k1
      case measure => omega
      case rel => exact ⟨t2, rfl, congrArg (Value.int .i64) (by first | rfl | omega), H', ⟨hwr⟩, ⟨by omega⟩, ⟨by repeat (first | exact Drawn0.refl _ | exact HDr.out | apply Drawn0.step | exact drawn2 _ _ _)⟩⟩
set_option maxHeartbeats 4000000 in
set_option maxRecDepth 100000 in
theorem pm_go125 (a0 : ByteArray) (a1 a2 a3 : Int) (w : World) (hT : TabsOk w) (hm : mayB a0 = true) (hk : a2 = 125) (h1 : 1 ≤ a3) (h2 : a3 ≤ 999) (c : 0 ≤ a1 ∧ a1 ≤ (rs a0).length) (r1 r2 : Int) (hE : parasR (rs a0) a1 a2 a3 = (r1, r2)) :
    Calls Tryd.prog 35 #[.string a0, .int .i64 a1, .int .i64 a2, .int .i64 a3] w fun e w' => e = .returned (.tuple #[.int .i64 r1, .int .i64 r2]) ∧ Below w.heap.size w w' := by
  subst hk
  have HT := Aside0.mk hT
  have HS := Aside0.mk (mayB_size hm)
  have HD := Aside0.mk (decide_eq_true c)
  have hc1 := c.1
  have hc2 := c.2
  have hrs := rs_len HS.out
  have d1 : decide (a3 < 1) = false := decide_eq_false (by omega)
  have d2 : decide (999 < a3) = false := decide_eq_false (by omega)
  unfold parasR at hE
  obtain ⟨n, hn⟩ : ∃ n : Nat, a3 = n := ⟨a3.toNat, by omega⟩
  subst hn
  rw [Int.toNat_natCast] at hE
  obtain ⟨fin, hfin⟩ : ∃ fin, iterF (rs a0) 125 n a1 = fin := ⟨_, rfl⟩
  rw [hfin] at hE
  have HE := Aside0.mk hE
  have HF := Aside0.mk hfin
  clear hT c hE hfin
  go_enter Tryd.func35, Tryd.ntmps35
  go_wp2_with fail
  refine (May_c a0 _ HT.out).mono ?_
  rintro e w1 ⟨rfl, hb⟩
  have HB_w1 := Aside0.mk hb
  clear hb
  go_wp2_with fail
  refine (Of_c a0 _ HS.out).mono ?_
  rintro e w2 ⟨g, rfl, hm, hb⟩
  have HB_w2 := Aside0.mk hb
  have HM := Aside0.mk hm
  clear hb hm
  have HBA := Aside0.mk (show Below w.heap.size w w2 from by first | exact below_then HB_w1.out HB_w1.out.size HB_w2.out | exact below_then (pw_below_drewN HB_w1.out _) (pw_below_drewN HB_w1.out _).size HB_w2.out)
  go_wp2_with fail
  refine (Map_Is.calls _ g _ _ a1 HM.out).mono ?_
  rintro e w'' ⟨rfl, hw⟩
  rw [hw, HD.out]
  clear hw w''
  go_wp2_with fail
  go_loopg [12, 42] n (fun gk v12 v42 W => ∃ t : Int, v12 = .int .i64 t ∧ v42 = .int .i64 ((n : Int) - gk) ∧ Aside0 (iterF (rs a0) 125 gk t = fin) ∧ Aside0 (0 ≤ t ∧ t ≤ (rs a0).length) ∧ Aside0 (gk ≤ n) ∧ Aside0 (Drawn0 w2 W))
  case atStart => exact ⟨a1, rfl, by first | rfl | (congr 1; omega), HF, ⟨hc1, hc2⟩, ⟨Nat.le_refl _⟩, ⟨by repeat (first | exact Drawn0.refl _ | apply Drawn0.step)⟩⟩
  case round =>
    obtain ⟨t, rfl, rfl, HA, HI, HG, HDr⟩ := hrel
    obtain ⟨nd3, rfl⟩ := HDr.out.out
    have hi1 := HI.out.1
    have hi2 := HI.out.2
    have hg := HG.out
    cases gk with
    | zero =>
      have hf : t = fin := HA.out
      subst hf
      have dz : decide (((n : Int) - ((0 : Nat) : Int)) < (n : Int)) = false := decide_eq_false (by omega)
      have H := HE.out
      by_cases ce : t = a1
      · rw [if_pos ce] at H
        have de : (t == a1) = true := beq_iff_eq.mpr ce
        clear ce
        go_wp2_with fail
        go_ret2
        simp only [Prod.mk.injEq] at H
        obtain ⟨rfl, rfl⟩ := H
        exact ⟨rfl, pw_below_drewN HBA.out _⟩
      · rw [if_neg ce] at H
        have de : (t == a1) = false := beq_eq_false_iff_ne.mpr ce
        clear ce
        go_wp2_with fail
        go_ret2
        simp only [Prod.mk.injEq] at H
        obtain ⟨rfl, rfl⟩ := H
        exact ⟨rfl, pw_below_drewN HBA.out _⟩
    | succ k1 =>
      have H := HA.out
      unfold iterF at H
      have HC := Aside0.mk (way_down (w2.drewN nd3) g (rs a0) t (HM.out.drewN nd3))
      have hwr := wayF_range (rs a0) 125 t
      generalize wayF (rs a0) 125 t = t2 at *
      have H' := Aside0.mk H
      clear H HA
      have dz : decide (((n : Int) - ((k1 + 1 : Nat) : Int)) < (n : Int)) = true := decide_eq_true (by omega)
      go_wp2_with fail
      refine HC.out.mono ?_
      rintro e w' ⟨rfl, ⟨nd4, rfl⟩⟩
      go_wp2_with fail
      go_roundg k1
      case measure => omega
      case rel => exact ⟨t2, rfl, congrArg (Value.int .i64) (by first | rfl | omega), H', ⟨hwr⟩, ⟨by omega⟩, ⟨by repeat (first | exact Drawn0.refl _ | exact HDr.out | apply Drawn0.step | exact drawn2 _ _ _)⟩⟩
theorem paras_Move.calls (a0 : ByteArray) (a1 a2 a3 : Int) (r1 r2 : Int) (w : World) (hT : TabsOk w) (h : paras_Move.f a0 a1 a2 a3 = some (r1, r2)) :
    Calls Tryd.prog 35 #[.string a0, .int .i64 a1, .int .i64 a2, .int .i64 a3] w fun e w' => e = .returned (.tuple #[.int .i64 r1, .int .i64 r2]) ∧ Below w.heap.size w w' := by
  have h0 := Option.some.inj h
  unfold parasF at h0
  by_cases c : mayB a0 = true ∧ (a2 = 123 ∨ a2 = 125) ∧ 1 ≤ a3 ∧ a3 ≤ 999
  · rw [if_pos c] at h0
    by_cases c2 : 0 ≤ a1 ∧ a1 ≤ (rs a0).length
    · rw [if_pos c2] at h0
      rcases c.2.1 with e | e
      · exact pm_go123 a0 a1 a2 a3 w hT c.1 e c.2.2.1 c.2.2.2 c2 r1 r2 h0
      · exact pm_go125 a0 a1 a2 a3 w hT c.1 e c.2.2.1 c.2.2.2 c2 r1 r2 h0
    · rw [if_neg c2] at h0
      simp only [Prod.mk.injEq] at h0
      obtain ⟨rfl, rfl⟩ := h0
      exact pm_out a0 a1 a2 a3 w hT c.1 c.2.1 c.2.2.1 c.2.2.2 c2
  · rw [if_neg c] at h0
    simp only [Prod.mk.injEq] at h0
    obtain ⟨rfl, rfl⟩ := h0
    exact pm_no a0 a1 a2 a3 w hT c
end Go.Proofs.YtfiapekpeiapbaaDoor.F
