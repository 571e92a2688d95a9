/- text.Place, Offset, Cut, Rest: contracts. -/
import Derived.Test.YtfiapekpeiapbaaDoorFax1
import Derived.IntWalk
set_option linter.unusedVariables false
set_option linter.unusedSimpArgs false
namespace Go.Proofs.YtfiapekpeiapbaaDoor.F
open Go.RowKit Go.Proofs.YtfiapekpeiapbaaDoorW.PrintWords Go.Proofs.YtfiapekpeiapbaaDoorW.PrintLast Go.Proofs.YtfiapekpeiapbaaDoorW.PrintMore Go.Proofs.YtfiapekpeiapbaaDoor.Q

/-- May it be a text? -/
def mayB (s : ByteArray) : Bool := decide (s.size ≤ 4000) && (Lib.validD s.data.toList && decide (Lib.indexByte s.data.toList 0 < 0))
theorem mayB_size {s : ByteArray} (h : mayB s = true) : s.size ≤ 4000 := by
  simp [mayB] at h; exact h.1
theorem May_f (s : ByteArray) : Fa.text_May.f s = some (mayB s) := by
  unfold Fa.text_May.f mayB
  by_cases c : s.size ≤ 4000
  · rw [if_pos (by omega)]
    unfold Fa.text_Whole.f utf8_ValidString.f strings_IndexByte.f
    rw [if_pos (by omega)]
    cases h : Lib.validD s.data.toList <;> simp [c]
  · rw [if_neg (by omega)]; simp [c]
theorem May_c (s : ByteArray) (w : World) (hT : TabsOk w) :
    Calls Tryd.prog 65 #[.string s] w fun e w' => e = .returned (.bool (mayB s)) ∧ Below w.heap.size w w' := Fa.text_May.calls s (mayB s) w hT (May_f s)

def rs (s : ByteArray) : List Int := runes s.data.toList
def bg (s : ByteArray) : List Int := begins (rs s)

theorem Of_c (a0 : ByteArray) (w : World) (hs : a0.size ≤ 4000) :
    Calls Tryd.prog 73 #[.string a0] w fun e w' => ∃ g : Nat, e = .returned (.pointer (some ⟨g, 0, none⟩)) ∧ IsMap w' g (rs a0) (begins (rs a0)) ∧ Below w.heap.size w w' := text_Of.calls a0 w hs
theorem beginsF_range : ∀ (R : List Int) (i : Nat), ∀ x ∈ beginsF R i, (i : Int) < x ∧ x ≤ i + R.length
  | [], i, x, h => by simp [beginsF] at h
  | c :: R, i, x, h => by
    have ih := beginsF_range R (i + 1)
    unfold beginsF at h
    simp only [List.length_cons]
    split at h
    · rcases List.mem_cons.1 h with rfl | h
      · omega
      · have := ih x h; omega
    · have := ih x h; omega
theorem begins_fit (R : List Int) : Fit R (begins R) := by
  intro j hj
  have hm : rd (begins R) (j : Int) ∈ begins R := by
    unfold rd
    simp only [Int.toNat_natCast, List.getD_eq_getElem?_getD, List.getElem?_eq_getElem hj, Option.getD_some]
    exact List.getElem_mem hj
  rcases List.mem_cons.1 hm with h | h
  · rw [h]; omega
  · have := beginsF_range R 0 _ h; omega
theorem begins_pos (R : List Int) : 0 < (begins R).length := by simp [begins]
theorem rowOf_lt (R : List Int) (a : Int) : rowOf (begins R) a < (begins R).length := by
  have := rowL_le (begins R) a ((begins R).length + 1) 0 (by omega)
  have := begins_pos R
  unfold rowOf; omega

/-- Where normal mode's cursor stands. -/
def restOf (R : List Int) (a : Int) : Int := let row := rowOf (begins R) a; if a = endOf R (begins R) row ∧ a > rd (begins R) (row : Int) then a - 1 else a
set_option maxHeartbeats 2000000 in
set_option maxRecDepth 100000 in
theorem Map_Rest.calls (w : World) (g : Nat) (R : List Int) (a : Int) (h : IsMap w g R (begins R)) (h0 : 0 ≤ a) (h1 : a ≤ R.length) :
    Calls Tryd.prog 96 #[.pointer (some ⟨g, 0, none⟩), .int .i64 a] w fun e w' => e = .returned (.int .i64 (restOf R a)) ∧ Drawn0 w w' := by
  have HM := Aside0.mk h
  have hl := h.1
  clear h
  obtain ⟨row, hrow⟩ : ∃ row, rowOf (begins R) a = row := ⟨_, rfl⟩
  have hlt : row < (begins R).length := hrow ▸ rowOf_lt R a
  have hf := begins_fit R
  have hp := begins_pos R
  have hE : restOf R a = if a = endOf R (begins R) row ∧ a > rd (begins R) (row : Int) then a - 1 else a := by unfold restOf; rw [hrow]
  have HE := Aside0.mk hE
  have HR := Aside0.mk (hrow ▸ fun W => Map_Row.calls W g R (begins R) a)
  have HN := Aside0.mk (fun W (z : IsMap W g R (begins R)) => Map_End.calls W g R (begins R) row z hf hlt)
  have HF := Aside0.mk (hf row hlt)
  clear hE hrow hf
  generalize begins R = B at *
  obtain ⟨E, hEE⟩ : ∃ E, endOf R B row = E := ⟨_, rfl⟩
  have HEE := Aside0.mk hEE
  clear hEE
  obtain ⟨x, hx⟩ : ∃ x, rd B (row : Int) = x := ⟨_, rfl⟩
  have HX := Aside0.mk hx
  clear hx
  have hbl := HM.out.2.1
  by_cases c : a = E
  · have d1 : (a == E) = true := beq_iff_eq.mpr c
    by_cases c2 : a > x
    · have d2 : decide (x < a) = true := decide_eq_true c2
      have HZ := Aside0.mk (show restOf R a = a - 1 by rw [HE.out, HEE.out, HX.out, if_pos ⟨c, c2⟩])
      clear c
      go_enter Tryd.func96, Tryd.ntmps96
      go_wp2_with fail
      refine (HR.out _ HM.out).mono ?_
      rintro e w' ⟨rfl, ⟨nd, rfl⟩⟩
      obtain ⟨_, _, A0, c0, A1, c1, hg, hc0, hc1, hR, hB⟩ := HM.out.drewN nd
      have hcB : (w.drewN nd).cell? ⟨g, 1, none⟩ = some (.slice A1 B.length c1) := (blk_cell hg 1).trans rfl
      obtain ⟨bb, off, rfl, hcs⟩ := reads_nat hB hp
      have hcx := hcs row hlt
      rw [HX.out] at hcx
      clear hg hR hB hcs
      go_wp2_with fail
      refine (HN.out _ (HM.out.drewN nd)).mono ?_
      rintro e w' ⟨rfl, rfl⟩
      rw [HEE.out]
      go_wp2_with fail
      go_ret
      exact ⟨ret_i HZ.out.symm, by repeat (first | exact Drawn0.refl _ | apply Drawn0.step)⟩
    · have d2 : decide (x < a) = false := decide_eq_false c2
      have HZ := Aside0.mk (show restOf R a = a by rw [HE.out, HEE.out, HX.out, if_neg (fun z => c2 z.2)])
      clear c
      go_enter Tryd.func96, Tryd.ntmps96
      go_wp2_with fail
      refine (HR.out _ HM.out).mono ?_
      rintro e w' ⟨rfl, ⟨nd, rfl⟩⟩
      obtain ⟨_, _, A0, c0, A1, c1, hg, hc0, hc1, hR, hB⟩ := HM.out.drewN nd
      have hcB : (w.drewN nd).cell? ⟨g, 1, none⟩ = some (.slice A1 B.length c1) := (blk_cell hg 1).trans rfl
      obtain ⟨bb, off, rfl, hcs⟩ := reads_nat hB hp
      have hcx := hcs row hlt
      rw [HX.out] at hcx
      clear hg hR hB hcs
      go_wp2_with fail
      refine (HN.out _ (HM.out.drewN nd)).mono ?_
      rintro e w' ⟨rfl, rfl⟩
      rw [HEE.out]
      go_wp2_with fail
      go_ret
      exact ⟨ret_i HZ.out.symm, by repeat (first | exact Drawn0.refl _ | apply Drawn0.step)⟩
  · have d1 : (a == E) = false := beq_eq_false_iff_ne.mpr c
    have HZ := Aside0.mk (show restOf R a = a by rw [HE.out, HEE.out, if_neg (fun z => c z.1)])
    clear c
    go_enter Tryd.func96, Tryd.ntmps96
    go_wp2_with fail
    refine (HR.out _ HM.out).mono ?_
    rintro e w' ⟨rfl, ⟨nd, rfl⟩⟩
    go_wp2_with fail
    refine (HN.out _ (HM.out.drewN nd)).mono ?_
    rintro e w' ⟨rfl, rfl⟩
    rw [HEE.out]
    go_wp2_with fail
    go_ret
    exact ⟨ret_i HZ.out.symm, by repeat (first | exact Drawn0.refl _ | apply Drawn0.step)⟩
def restF (s : ByteArray) (a : Int) : Int × Int := if mayB s = true then (if 0 ≤ a ∧ a ≤ (rs s).length then (restOf (rs s) a, 0) else (0, 3)) else (0, 1)
def text_Rest.f (a0 : ByteArray) (a1 : Int) : Option (Int × Int) := some (restF a0 a1)
set_option maxHeartbeats 2000000 in
set_option maxRecDepth 100000 in
theorem text_Rest.calls (a0 : ByteArray) (a1 : Int) (r1 r2 : Int) (w : World) (hT : TabsOk w) (h : text_Rest.f a0 a1 = some (r1, r2)) :
    Calls Tryd.prog 64 #[.string a0, .int .i64 a1] w fun e w' => e = .returned (.tuple #[.int .i64 r1, .int .i64 r2]) ∧ Below w.heap.size w w' := by
  have HT := Aside0.mk hT
  have H0 := Aside0.mk (Option.some.inj h)
  clear hT h
  cases hm : mayB a0 with
  | false =>
    have HE := Aside0.mk (show restF a0 a1 = (0, 1) by simp [restF, hm])
    go_enter Tryd.func64, Tryd.ntmps64
    go_wp2_with fail
    refine (May_c a0 _ HT.out).mono ?_
    rintro e w1 ⟨rfl, hb⟩
    have HB_w1 := Aside0.mk hb
    clear hb
    go_wp2_with fail
    go_ret2
    have e1 := HE.out.symm.trans H0.out
    simp only [Prod.mk.injEq] at e1
    obtain ⟨rfl, rfl⟩ := e1
    exact ⟨rfl, HB_w1.out⟩
  | true =>
    have HS := Aside0.mk (mayB_size hm)
    by_cases c : 0 ≤ a1 ∧ a1 ≤ (rs a0).length
    · have HE := Aside0.mk (show restF a0 a1 = (restOf (rs a0) a1, 0) by simp [restF, hm, c])
      have HD := Aside0.mk (decide_eq_true c)
      have HC := Aside0.mk c
      clear c
      go_enter Tryd.func64, Tryd.ntmps64
      go_wp2_with fail
      refine (May_c a0 _ HT.out).mono ?_
      rintro e w1 ⟨rfl, hb⟩
      have HB_w1 := Aside0.mk hb
      clear hb
      go_wp2_with fail
      refine (Of_c a0 _ HS.out).mono ?_
      rintro e w2 ⟨g, rfl, hm, hb⟩
      have HB_w2 := Aside0.mk hb
      have HM := Aside0.mk hm
      clear hb hm
      go_wp2_with fail
      refine (Map_Is.calls _ g _ _ a1 HM.out).mono ?_
      rintro e w' ⟨rfl, rfl⟩
      rw [HD.out]
      go_wp2_with fail
      refine (Map_Rest.calls _ g _ a1 HM.out HC.out.1 HC.out.2).mono ?_
      rintro e w' ⟨rfl, ⟨nd, rfl⟩⟩
      go_wp2_with fail
      go_ret2
      have e1 := HE.out.symm.trans H0.out
      simp only [Prod.mk.injEq] at e1
      obtain ⟨rfl, rfl⟩ := e1
      exact ⟨rfl, pw_below_drewN (below_then HB_w1.out HB_w1.out.size HB_w2.out) _⟩
    · have HE := Aside0.mk (show restF a0 a1 = (0, 3) by simp [restF, hm, c])
      have HD := Aside0.mk (decide_eq_false c)
      clear c
      go_enter Tryd.func64, Tryd.ntmps64
      go_wp2_with fail
      refine (May_c a0 _ HT.out).mono ?_
      rintro e w1 ⟨rfl, hb⟩
      have HB_w1 := Aside0.mk hb
      clear hb
      go_wp2_with fail
      refine (Of_c a0 _ HS.out).mono ?_
      rintro e w2 ⟨g, rfl, hm, hb⟩
      have HB_w2 := Aside0.mk hb
      have HM := Aside0.mk hm
      clear hb hm
      go_wp2_with fail
      refine (Map_Is.calls _ g _ _ a1 HM.out).mono ?_
      rintro e w' ⟨rfl, rfl⟩
      rw [HD.out]
      go_wp2_with fail
      go_ret2
      have e1 := HE.out.symm.trans H0.out
      simp only [Prod.mk.injEq] at e1
      obtain ⟨rfl, rfl⟩ := e1
      exact ⟨rfl, below_then HB_w1.out HB_w1.out.size HB_w2.out⟩

def cutF (s : ByteArray) (a b : Int) : ByteArray × Int := if mayB s = true then (if (0 ≤ a ∧ a ≤ (rs s).length) ∧ (0 ≤ b ∧ b ≤ (rs s).length) ∧ a ≤ b then (runesBytes (((rs s).drop a.toNat).take (b.toNat - a.toNat)), 0) else (⟨#[]⟩, 3)) else (⟨#[]⟩, 1)
def text_Cut.f (a0 : ByteArray) (a1 a2 : Int) : Option (ByteArray × Int) := some (cutF a0 a1 a2)
set_option maxHeartbeats 2000000 in
set_option maxRecDepth 100000 in
theorem text_Cut.calls (a0 : ByteArray) (a1 a2 : Int) (r1 : ByteArray) (r2 : Int) (w : World) (hT : TabsOk w) (h : text_Cut.f a0 a1 a2 = some (r1, r2)) :
    Calls Tryd.prog 63 #[.string a0, .int .i64 a1, .int .i64 a2] w fun e w' => e = .returned (.tuple #[.string r1, .int .i64 r2]) ∧ Below w.heap.size w w' := by
  have HT := Aside0.mk hT
  have H0 := Aside0.mk (Option.some.inj h)
  clear hT h
  cases hm : mayB a0 with
  | false =>
    have HE := Aside0.mk (show cutF a0 a1 a2 = (⟨#[]⟩, 1) by simp [cutF, hm])
    go_enter Tryd.func63, Tryd.ntmps63
    go_wp2_with fail
    refine (May_c a0 _ HT.out).mono ?_
    rintro e w1 ⟨rfl, hb⟩
    have HB_w1 := Aside0.mk hb
    clear hb
    go_wp2_with fail
    go_ret2
    have e1 := HE.out.symm.trans H0.out
    simp only [Prod.mk.injEq] at e1
    obtain ⟨rfl, rfl⟩ := e1
    exact ⟨rfl, HB_w1.out⟩
  | true =>
    have HS := Aside0.mk (mayB_size hm)
    by_cases c1 : 0 ≤ a1 ∧ a1 ≤ (rs a0).length
    · by_cases c2 : 0 ≤ a2 ∧ a2 ≤ (rs a0).length
      · by_cases c3 : a1 ≤ a2
        · have HE := Aside0.mk (show cutF a0 a1 a2 = (runesBytes (((rs a0).drop a1.toNat).take (a2.toNat - a1.toNat)), 0) by simp [cutF, hm, c1, c2, c3])
          have HD := Aside0.mk (decide_eq_true c1)
          have HD2 := Aside0.mk (decide_eq_true c2)
          obtain ⟨lo, rfl⟩ := Int.eq_ofNat_of_zero_le c1.1
          obtain ⟨hi, rfl⟩ := Int.eq_ofNat_of_zero_le c2.1
          have HC := Aside0.mk (show hi ≤ (rs a0).length by have := c2.2; omega)
          have hlh : lo ≤ hi := by omega
          clear c1 c2 c3
          go_enter Tryd.func63, Tryd.ntmps63
          go_wp2_with fail
          refine (May_c a0 _ HT.out).mono ?_
          rintro e w1 ⟨rfl, hb⟩
          have HB_w1 := Aside0.mk hb
          clear hb
          go_wp2_with fail
          refine (Of_c a0 _ HS.out).mono ?_
          rintro e w2 ⟨g, rfl, hm, hb⟩
          have HB_w2 := Aside0.mk hb
          have HM := Aside0.mk hm
          clear hb hm
          go_wp2_with fail
          refine (Map_Is.calls _ g _ _ lo HM.out).mono ?_
          rintro e w'' ⟨rfl, hw⟩
          rw [hw, HD.out]
          clear hw w''
          go_wp2_with fail
          refine (Map_Is.calls _ g _ _ hi HM.out).mono ?_
          rintro e w'' ⟨rfl, hw⟩
          rw [hw, HD2.out]
          clear hw w''
          go_wp2_with fail
          refine (Map_Cut.calls _ g _ _ lo hi HM.out hlh HC.out).mono ?_
          rintro e w' ⟨rfl, rfl⟩
          go_wp2_with fail
          go_ret2
          have e1 := HE.out.symm.trans H0.out
          simp only [Prod.mk.injEq] at e1
          obtain ⟨rfl, rfl⟩ := e1
          exact ⟨rfl, below_then HB_w1.out HB_w1.out.size HB_w2.out⟩
        · have HE := Aside0.mk (show cutF a0 a1 a2 = (⟨#[]⟩, 3) by simp [cutF, hm, c3])
          have HD := Aside0.mk (decide_eq_true c1)
          have HD2 := Aside0.mk (decide_eq_true c2)
          have d : decide (a2 < a1) = true := decide_eq_true (by omega)
          clear c1 c2 c3
          go_enter Tryd.func63, Tryd.ntmps63
          go_wp2_with fail
          refine (May_c a0 _ HT.out).mono ?_
          rintro e w1 ⟨rfl, hb⟩
          have HB_w1 := Aside0.mk hb
          clear hb
          go_wp2_with fail
          refine (Of_c a0 _ HS.out).mono ?_
          rintro e w2 ⟨g, rfl, hm, hb⟩
          have HB_w2 := Aside0.mk hb
          have HM := Aside0.mk hm
          clear hb hm
          go_wp2_with fail
          refine (Map_Is.calls _ g _ _ a1 HM.out).mono ?_
          rintro e w'' ⟨rfl, hw⟩
          rw [hw, HD.out]
          clear hw w''
          go_wp2_with fail
          refine (Map_Is.calls _ g _ _ a2 HM.out).mono ?_
          rintro e w'' ⟨rfl, hw⟩
          rw [hw, HD2.out]
          clear hw w''
          go_wp2_with fail
          go_ret2
          have e1 := HE.out.symm.trans H0.out
          simp only [Prod.mk.injEq] at e1
          obtain ⟨rfl, rfl⟩ := e1
          exact ⟨rfl, below_then HB_w1.out HB_w1.out.size HB_w2.out⟩
      · have HE := Aside0.mk (show cutF a0 a1 a2 = (⟨#[]⟩, 3) by simp [cutF, hm, c2])
        have HD := Aside0.mk (decide_eq_true c1)
        have HD2 := Aside0.mk (decide_eq_false c2)
        clear c1 c2
        go_enter Tryd.func63, Tryd.ntmps63
        go_wp2_with fail
        refine (May_c a0 _ HT.out).mono ?_
        rintro e w1 ⟨rfl, hb⟩
        have HB_w1 := Aside0.mk hb
        clear hb
        go_wp2_with fail
        refine (Of_c a0 _ HS.out).mono ?_
        rintro e w2 ⟨g, rfl, hm, hb⟩
        have HB_w2 := Aside0.mk hb
        have HM := Aside0.mk hm
        clear hb hm
        go_wp2_with fail
        refine (Map_Is.calls _ g _ _ a1 HM.out).mono ?_
        rintro e w'' ⟨rfl, hw⟩
        rw [hw, HD.out]
        clear hw w''
        go_wp2_with fail
        refine (Map_Is.calls _ g _ _ a2 HM.out).mono ?_
        rintro e w'' ⟨rfl, hw⟩
        rw [hw, HD2.out]
        clear hw w''
        go_wp2_with fail
        go_ret2
        have e1 := HE.out.symm.trans H0.out
        simp only [Prod.mk.injEq] at e1
        obtain ⟨rfl, rfl⟩ := e1
        exact ⟨rfl, below_then HB_w1.out HB_w1.out.size HB_w2.out⟩
    · have HE := Aside0.mk (show cutF a0 a1 a2 = (⟨#[]⟩, 3) by simp [cutF, hm, c1])
      have HD := Aside0.mk (decide_eq_false c1)
      clear c1
      go_enter Tryd.func63, Tryd.ntmps63
      go_wp2_with fail
      refine (May_c a0 _ HT.out).mono ?_
      rintro e w1 ⟨rfl, hb⟩
      have HB_w1 := Aside0.mk hb
      clear hb
      go_wp2_with fail
      refine (Of_c a0 _ HS.out).mono ?_
      rintro e w2 ⟨g, rfl, hm, hb⟩
      have HB_w2 := Aside0.mk hb
      have HM := Aside0.mk hm
      clear hb hm
      go_wp2_with fail
      refine (Map_Is.calls _ g _ _ a1 HM.out).mono ?_
      rintro e w'' ⟨rfl, hw⟩
      rw [hw, HD.out]
      clear hw w''
      go_wp2_with fail
      go_ret2
      have e1 := HE.out.symm.trans H0.out
      simp only [Prod.mk.injEq] at e1
      obtain ⟨rfl, rfl⟩ := e1
      exact ⟨rfl, below_then HB_w1.out HB_w1.out.size HB_w2.out⟩

def placeF (s : ByteArray) (a : Int) : Int × Int × Int := if mayB s = true then (if 0 ≤ a ∧ a ≤ (rs s).length then ((rowOf (begins (rs s)) a : Int), a - rd (begins (rs s)) (rowOf (begins (rs s)) a : Int), 0) else (0, 0, 3)) else (0, 0, 1)
def text_Place.f (a0 : ByteArray) (a1 : Int) : Option (Int × Int × Int) := some (placeF a0 a1)
set_option maxHeartbeats 2000000 in
set_option maxRecDepth 100000 in
theorem text_Place.calls (a0 : ByteArray) (a1 : Int) (r1 r2 r3 : Int) (w : World) (hT : TabsOk w) (h : text_Place.f a0 a1 = some (r1, r2, r3)) :
    Calls Tryd.prog 61 #[.string a0, .int .i64 a1] w fun e w' => e = .returned (.tuple #[.agg #[.int .i64 r1, .int .i64 r2], .int .i64 r3]) ∧ Below w.heap.size w w' := by
  have HT := Aside0.mk hT
  have H0 := Aside0.mk (Option.some.inj h)
  clear hT h
  have hu := Tryd.underlying24
  cases hm : mayB a0 with
  | false =>
    have HE := Aside0.mk (show placeF a0 a1 = (0, 0, 1) by simp [placeF, hm])
    go_enter Tryd.func61, Tryd.ntmps61
    go_wp2_with (first | ((with_reducible refine gate_dst (N := 4) rfl ?_); refine box_event ?hg (N := 4) ?hd (cs := #[.int .i64 0, .int .i64 0]) (t := 24) ?hr ?_; (case hd => rfl); (case hg => rfl); (case hr => first | (go_simp; done) | (go_simp; rfl)); intro gb hg w0 hbox hb; have BK := Aside0.mk hbox; have GE := Aside0.mk (show w.heap.size ≤ gb by rw [hg]; exact Nat.le_refl _); have HB0 := Aside0.mk hb; clear hbox hb hg))
    refine (May_c a0 _ (T_below HT.out HB0.out)).mono ?_
    rintro e w1 ⟨rfl, hb⟩
    have HB_w1 := Aside0.mk hb
    clear hb
    have HBK2 := Aside0.mk (blk_below BK.out HB_w1.out)
    have hq0 : w1.cell? ⟨gb, 0, none⟩ = some (.int .i64 0) := (blk_cell HBK2.out 0).trans rfl
    have hq1 : w1.cell? ⟨gb, 1, none⟩ = some (.int .i64 0) := (blk_cell HBK2.out 1).trans rfl
    have hfz0 := blk_frozen HBK2.out 0
    have hfz1 := blk_frozen HBK2.out 1
    go_wp2_with fail
    refine bodyPost_ret (results_ct rfl _ _ gb 24 #[.int .i64 0, .int .i64 0] (0, 0) _ rfl (by refine blk_put (cs := #[.int .i64 0, .int .i64 0]) ?_ 1 _ rfl; refine blk_put (cs := #[.int .i64 0, .int .i64 0]) ?_ 0 _ rfl; exact HBK2.out) Tryd.underlying24 rfl (by kernel_rfl)) rfl ?_
    have e1 := HE.out.symm.trans H0.out
    simp only [Prod.mk.injEq] at e1
    obtain ⟨rfl, rfl, rfl⟩ := e1
    exact ⟨rfl, below_set (below_set (below_then HB0.out HB0.out.size HB_w1.out) GE.out) GE.out⟩
  | true =>
    have HS := Aside0.mk (mayB_size hm)
    by_cases c : 0 ≤ a1 ∧ a1 ≤ (rs a0).length
    · have HE := Aside0.mk (show placeF a0 a1 = ((rowOf (begins (rs a0)) a1 : Int), a1 - rd (begins (rs a0)) (rowOf (begins (rs a0)) a1 : Int), 0) by simp [placeF, hm, c])
      have HD := Aside0.mk (decide_eq_true c)
      have hlt := rowOf_lt (rs a0) a1
      have hf := begins_fit (rs a0)
      have hp := begins_pos (rs a0)
      have hn := runes_length_le a0.data.toList
      have hsz : a0.data.toList.length = a0.size := by simp
      have hrs : (rs a0).length ≤ 4000 := by have := HS.out; unfold rs; omega
      clear hn hsz
      have c1 := c.1
      have c2 := c.2
      clear c
      have HRow := Aside0.mk (fun W g (z : IsMap W g (rs a0) (begins (rs a0))) => Map_Row.calls W g (rs a0) (begins (rs a0)) a1 z)
      generalize rowOf (begins (rs a0)) a1 = row at *
      obtain ⟨x, hx⟩ : ∃ x, rd (begins (rs a0)) (row : Int) = x := ⟨_, rfl⟩
      have hfx := hf row hlt
      rw [hx] at hfx
      have HX := Aside0.mk hx
      have hx1 := hfx.1
      have hx2 := hfx.2
      clear hf hfx hx
      go_enter Tryd.func61, Tryd.ntmps61
      go_wp2_with (first | ((with_reducible refine gate_dst (N := 4) rfl ?_); refine box_event ?hg (N := 4) ?hd (cs := #[.int .i64 0, .int .i64 0]) (t := 24) ?hr ?_; (case hd => rfl); (case hg => rfl); (case hr => first | (go_simp; done) | (go_simp; rfl)); intro gb hg w0 hbox hb; have BK := Aside0.mk hbox; have GE := Aside0.mk (show w.heap.size ≤ gb by rw [hg]; exact Nat.le_refl _); have HB0 := Aside0.mk hb; clear hbox hb hg))
      refine (May_c a0 _ (T_below HT.out HB0.out)).mono ?_
      rintro e w1 ⟨rfl, hb⟩
      have HB_w1 := Aside0.mk hb
      clear hb
      go_wp2_with fail
      refine (Of_c a0 _ HS.out).mono ?_
      rintro e w2 ⟨g, rfl, hm, hb⟩
      have HB_w2 := Aside0.mk hb
      have HM := Aside0.mk hm
      clear hb hm
      go_wp2_with fail
      refine (Map_Is.calls _ g _ _ a1 HM.out).mono ?_
      rintro e w'' ⟨rfl, hw⟩
      rw [hw, HD.out]
      clear hw w''
      go_wp2_with fail
      refine (HRow.out _ g HM.out).mono ?_
      rintro e w' ⟨rfl, ⟨nd, rfl⟩⟩
      obtain ⟨_, hbl, A0, c0, A1, c1, hg, hc0, hc1, hR, hB⟩ := HM.out.drewN nd
      have hcB : (w2.drewN nd).cell? ⟨g, 1, none⟩ = some (.slice A1 (begins (rs a0)).length c1) := (blk_cell hg 1).trans rfl
      obtain ⟨bb, off, rfl, hcs⟩ := reads_nat hB hp
      have hcx := hcs row hlt
      rw [HX.out] at hcx
      clear hg hR hB hcs
      have HBK2 := Aside0.mk (blk_drewN (blk_below (blk_below BK.out HB_w1.out) HB_w2.out) nd)
      have hq0 : (w2.drewN nd).cell? ⟨gb, 0, none⟩ = some (.int .i64 0) := (blk_cell HBK2.out 0).trans rfl
      have hq1 : (w2.drewN nd).cell? ⟨gb, 1, none⟩ = some (.int .i64 0) := (blk_cell HBK2.out 1).trans rfl
      have hfz0 := blk_frozen HBK2.out 0
      have hfz1 := blk_frozen HBK2.out 1
      go_wp2_with fail
      refine bodyPost_ret (results_ct rfl _ _ gb 24 #[.int .i64 row, .int .i64 (a1 - x)] (0, 0) _ rfl (by refine blk_put (cs := #[.int .i64 row, .int .i64 0]) ?_ 1 _ rfl; refine blk_put (cs := #[.int .i64 0, .int .i64 0]) ?_ 0 _ rfl; exact HBK2.out) Tryd.underlying24 rfl (by kernel_rfl)) rfl ?_
      have HE2 := HE.out
      rw [HX.out] at HE2
      have e1 := HE2.symm.trans H0.out
      simp only [Prod.mk.injEq] at e1
      obtain ⟨rfl, rfl, rfl⟩ := e1
      exact ⟨rfl, below_set (below_set (pw_below_drewN (below_then (below_then HB0.out HB0.out.size HB_w1.out) (below_size (below_then HB0.out HB0.out.size HB_w1.out)) HB_w2.out) nd) GE.out) GE.out⟩
    · have HE := Aside0.mk (show placeF a0 a1 = (0, 0, 3) by simp [placeF, hm, c])
      have HD := Aside0.mk (decide_eq_false c)
      clear c
      go_enter Tryd.func61, Tryd.ntmps61
      go_wp2_with (first | ((with_reducible refine gate_dst (N := 4) rfl ?_); refine box_event ?hg (N := 4) ?hd (cs := #[.int .i64 0, .int .i64 0]) (t := 24) ?hr ?_; (case hd => rfl); (case hg => rfl); (case hr => first | (go_simp; done) | (go_simp; rfl)); intro gb hg w0 hbox hb; have BK := Aside0.mk hbox; have GE := Aside0.mk (show w.heap.size ≤ gb by rw [hg]; exact Nat.le_refl _); have HB0 := Aside0.mk hb; clear hbox hb hg))
      refine (May_c a0 _ (T_below HT.out HB0.out)).mono ?_
      rintro e w1 ⟨rfl, hb⟩
      have HB_w1 := Aside0.mk hb
      clear hb
      go_wp2_with fail
      refine (Of_c a0 _ HS.out).mono ?_
      rintro e w2 ⟨g, rfl, hm, hb⟩
      have HB_w2 := Aside0.mk hb
      have HM := Aside0.mk hm
      clear hb hm
      go_wp2_with fail
      refine (Map_Is.calls _ g _ _ a1 HM.out).mono ?_
      rintro e w'' ⟨rfl, hw⟩
      rw [hw, HD.out]
      clear hw w''
      have HBK2 := Aside0.mk (blk_below (blk_below BK.out HB_w1.out) HB_w2.out)
      have hq0 : w2.cell? ⟨gb, 0, none⟩ = some (.int .i64 0) := (blk_cell HBK2.out 0).trans rfl
      have hq1 : w2.cell? ⟨gb, 1, none⟩ = some (.int .i64 0) := (blk_cell HBK2.out 1).trans rfl
      have hfz0 := blk_frozen HBK2.out 0
      have hfz1 := blk_frozen HBK2.out 1
      go_wp2_with fail
      refine bodyPost_ret (results_ct rfl _ _ gb 24 #[.int .i64 0, .int .i64 0] (0, 0) _ rfl (by refine blk_put (cs := #[.int .i64 0, .int .i64 0]) ?_ 1 _ rfl; refine blk_put (cs := #[.int .i64 0, .int .i64 0]) ?_ 0 _ rfl; exact HBK2.out) Tryd.underlying24 rfl (by kernel_rfl)) rfl ?_
      have e1 := HE.out.symm.trans H0.out
      simp only [Prod.mk.injEq] at e1
      obtain ⟨rfl, rfl, rfl⟩ := e1
      exact ⟨rfl, below_set (below_set (below_then (below_then HB0.out HB0.out.size HB_w1.out) (below_size (below_then HB0.out HB0.out.size HB_w1.out)) HB_w2.out) GE.out) GE.out⟩

/-- Offset, of a place that there is. -/
def text_Offset.f (a0 : ByteArray) (r c : Int) : Option (Int × Int) :=
  if mayB a0 = true ∧ 0 ≤ r ∧ r < (begins (rs a0)).length ∧ 0 ≤ c ∧ c ≤ endOf (rs a0) (begins (rs a0)) r.toNat - rd (begins (rs a0)) r then some (rd (begins (rs a0)) r + c, 0) else none
theorem rs_len {s : ByteArray} (h : s.size ≤ 4000) : (rs s).length ≤ 4000 := by
  have hn := runes_length_le s.data.toList
  have hsz : s.data.toList.length = s.size := by simp
  unfold rs; omega
theorem endOf_range {R B : List Int} (hf : Fit R B) (row : Nat) : -1 ≤ endOf R B row ∧ endOf R B row ≤ R.length := by
  unfold endOf
  split
  · rename_i h; have := hf (row + 1) h
    rw [show (((row + 1 : Nat) : Int)) = (row : Int) + 1 by omega] at this
    omega
  · omega
set_option maxHeartbeats 2000000 in
set_option maxRecDepth 100000 in
theorem text_Offset.calls (a0 : ByteArray) (a1 a2 : Int) (r1 r2 : Int) (w : World) (hT : TabsOk w) (h : text_Offset.f a0 a1 a2 = some (r1, r2)) :
    Calls Tryd.prog 62 #[.string a0, .agg #[.int .i64 a1, .int .i64 a2]] w fun e w' => e = .returned (.tuple #[.int .i64 r1, .int .i64 r2]) ∧ Below w.heap.size w w' := by
  unfold text_Offset.f at h
  by_cases c : mayB a0 = true ∧ 0 ≤ a1 ∧ a1 < (begins (rs a0)).length ∧ 0 ≤ a2 ∧ a2 ≤ endOf (rs a0) (begins (rs a0)) a1.toNat - rd (begins (rs a0)) a1
  · rw [if_pos c] at h
    have e1 := Option.some.inj h
    simp only [Prod.mk.injEq] at e1
    have HE := Aside0.mk e1.1
    obtain rfl := e1.2
    clear h e1
    obtain ⟨hm, h1, h2, h3, h4⟩ := c
    have hu := Tryd.underlying24
    have HT := Aside0.mk hT
    have HS := Aside0.mk (mayB_size hm)
    have HMY := Aside0.mk hm
    clear hT hm
    obtain ⟨row, rfl⟩ := Int.eq_ofNat_of_zero_le h1
    simp only [Int.toNat_natCast] at h4
    have hlt : row < (begins (rs a0)).length := by omega
    have hf := begins_fit (rs a0)
    have hp := begins_pos (rs a0)
    have hrs := rs_len HS.out
    obtain ⟨x, hx⟩ : ∃ x, rd (begins (rs a0)) (row : Int) = x := ⟨_, rfl⟩
    have hfx := hf row hlt
    rw [hx] at hfx h4
    have HX := Aside0.mk hx
    have hx1 := hfx.1
    have hx2 := hfx.2
    obtain ⟨E, hE⟩ : ∃ E, endOf (rs a0) (begins (rs a0)) row = E := ⟨_, rfl⟩
    have hEr := endOf_range hf row
    rw [hE] at h4 hEr
    have he1 := hEr.1
    have he2 := hEr.2
    have HEnd := Aside0.mk (fun W g (z : IsMap W g (rs a0) (begins (rs a0))) => hE ▸ Map_End.calls W g (rs a0) (begins (rs a0)) row z hf hlt)
    have HRows := Aside0.mk (fun W g (z : IsMap W g (rs a0) (begins (rs a0))) => Map_Rows.calls W g (rs a0) (begins (rs a0)) z)
    clear hf hfx hx hE hEr
    go_enter Tryd.func62, Tryd.ntmps62
    go_wp2_with (first | ((with_reducible refine gate_dst (N := 3) rfl ?_); refine box_event ?hg (N := 3) ?hd (cs := #[.int .i64 row, .int .i64 a2]) (t := 24) ?hr ?_; (case hd => rfl); (case hg => rfl); (case hr => first | (go_simp; done) | (go_simp; rfl)); intro gb hg w0 hbox hb; have BK := Aside0.mk hbox; have HB0 := Aside0.mk hb; clear hbox hb hg))
    refine (May_c a0 _ (T_below HT.out HB0.out)).mono ?_
    rintro e w1 ⟨rfl, hb⟩
    rw [HMY.out]
    have HB_w1 := Aside0.mk hb
    clear hb
    go_wp2_with fail
    refine (Of_c a0 _ HS.out).mono ?_
    rintro e w2 ⟨g, rfl, hm, hb⟩
    have HB_w2 := Aside0.mk hb
    have HM := Aside0.mk hm
    clear hb hm
    obtain ⟨_, hbl, A0, c0, A1, c1, hg, hc0, hc1, hR, hB⟩ := HM.out
    have hcB : w2.cell? ⟨g, 1, none⟩ = some (.slice A1 (begins (rs a0)).length c1) := (blk_cell hg 1).trans rfl
    obtain ⟨bb, off, rfl, hcs⟩ := reads_nat hB hp
    have hcx := hcs row hlt
    rw [HX.out] at hcx
    clear hg hR hB hcs
    have HBK2 := Aside0.mk (blk_below (blk_below BK.out HB_w1.out) HB_w2.out)
    have hq0 : w2.cell? ⟨gb, 0, none⟩ = some (.int .i64 row) := (blk_cell HBK2.out 0).trans rfl
    have hq1 : w2.cell? ⟨gb, 1, none⟩ = some (.int .i64 a2) := (blk_cell HBK2.out 1).trans rfl
    have d1 : decide ((row : Int) < 0) = false := decide_eq_false (by omega)
    have d2 : decide (((begins (rs a0)).length : Int) ≤ (row : Int)) = false := decide_eq_false (by omega)
    have d2' : decide ((begins (rs a0)).length ≤ row) = false := decide_eq_false (by omega)
    have d3 : decide (a2 < 0) = false := decide_eq_false (by omega)
    have d4 : decide (E - x < a2) = false := decide_eq_false (by omega)
    have s1 : IntKind.i64.wrap (E - x) = E - x := IntWalk.i64_in _ (by omega)
    have p1 : (row : Int) < ((begins (rs a0)).length : Int) := by omega
    go_wp2_with fail
    go_quiet (first | (go_at_call 94; exact Calls.quiet_of_same (HRows.out _ _ (HM.out.drewN _))) | (go_at_call 76; exact Calls.quiet_of_same (HEnd.out _ _ (HM.out.drewN _))))
    go_wp2_with fail
    have s2 : IntKind.i64.wrap (x + a2) = x + a2 := IntWalk.i64_in _ (by omega)
    go_quiet (fail)
    go_wp2_with fail
    go_ret2
    refine ⟨by rw [← HE.out, HX.out] <;> rfl, ?_⟩
    exact pw_below_drewN (pw_below_drewN (below_then (below_then HB0.out HB0.out.size HB_w1.out) (below_size (below_then HB0.out HB0.out.size HB_w1.out)) HB_w2.out) _) _
  · rw [if_neg c] at h; cases h

end Go.Proofs.YtfiapekpeiapbaaDoor.F
