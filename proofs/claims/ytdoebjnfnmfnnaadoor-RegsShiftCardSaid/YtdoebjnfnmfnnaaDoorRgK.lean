/- regs: []byte(s) and its newline; named, keep, Yank, Delete at what may be: contracts. -/
import Derived.Test.YtdoebjnfnmfnnaaDoorRgU
import Derived.Test.YtdoebjnfnmfnnaaDoorRcx1
import Derived.Test.YtdoebjnfnmfnnaaDoorWInv
import Derived.Lib.ConvBytes
import Derived.Laws.BytesArg
set_option linter.unusedVariables false
set_option linter.unusedSimpArgs false
namespace Go.Proofs.YtdoebjnfnmfnnaaDoor.F
open Go.RowKit Go.Lib Go.Shelf Go.Proofs.YtdoebjnfnmfnnaaDoorW.PrintWords Go.Proofs.YtdoebjnfnmfnnaaDoorW.PrintLast Go.Proofs.YtdoebjnfnmfnnaaDoorW.PrintMore Go.Proofs.YtdoebjnfnmfnnaaDoor.Q

theorem kept_f (n : Int) : Ra.regs_kept.f n = some (keptB n) := by
  unfold Ra.regs_kept.f keptB
  by_cases c1 : n = 34
  · rw [if_pos c1]; simp [c1]
  · rw [if_neg c1]
    by_cases c2 : n = 45
    · rw [if_pos c2]; simp [c2]
    · rw [if_neg c2]
      have hd : Ra.regs_digit.f n = some (decide (48 ≤ n) && decide (n ≤ 57)) := by
        unfold Ra.regs_digit.f
        by_cases c : 48 ≤ n
        · rw [if_pos c]; simp [c]
        · rw [if_neg c]; simp [c]
      have hs : Ra.regs_small.f n = some (decide (97 ≤ n) && decide (n ≤ 122)) := by
        unfold Ra.regs_small.f
        by_cases c : 97 ≤ n
        · rw [if_pos c]; simp [c]
        · rw [if_neg c]; simp [c]
      rw [hd, Option.bind_some, hs, Option.bind_some]
      simp only [decide_eq_false c1, decide_eq_false c2, Bool.false_or]
      cases (decide (48 ≤ n) && decide (n ≤ 57)) <;> simp
theorem may_loopR (l : List SR) (hl : l.length ≤ 9223372036854775807) : ∀ (d i : Nat) (p : Int), l.length - i = d → i ≤ l.length → 0 < i → (rdR l (i - 1)).f0 = p →
    Evt (fun k => Ra.regs_May.l0 k l l (l.length : Int) i) (chR p (l.drop i)) := by
  intro d
  induction d with
  | zero =>
    intro i p hd hi h0 hp
    refine Evt.step (Evt.const rfl) (fun k => ?_)
    rw [Ra.regs_May.l0, if_neg (by omega), List.drop_eq_nil_of_le (by omega)]
    rfl
  | succ d ih =>
    intro i p hd hi h0 hp
    have hlt : i < l.length := by omega
    have hr : Ra.rd_T113 l (i : Int) = l[i] := by
      unfold Ra.rd_T113
      rw [Int.toNat_natCast, List.getD_eq_getElem?_getD, List.getElem?_eq_getElem hlt, Option.getD_some]
    have hr2 : Ra.rd_T113 l ((i - 1 : Nat) : Int) = rdR l (i - 1) := by
      unfold Ra.rd_T113 rdR
      rw [Int.toNat_natCast]
      rfl
    have hw : wrap64 ((i : Int) - 1) = ((i - 1 : Nat) : Int) := by rw [w64 (by omega) (by omega)]; omega
    have e0 : l.drop i = l[i] :: l.drop (i + 1) := List.drop_eq_getElem_cons hlt
    have p1 : (i : Int) < (l.length : Int) := by omega
    have p2 : (0 : Int) ≤ (i : Int) := by omega
    have p3 : (i : Int) > 0 := by omega
    have p4 : (0 : Int) ≤ ((i - 1 : Nat) : Int) := by omega
    have p5 : ((i - 1 : Nat) : Int) < (l.length : Int) := by omega
    rw [e0, chR, show oneR l[i] = (keptB l[i].f0 && mayB l[i].f1) from rfl]
    cases c1 : keptB l[i].f0 with
    | false => exact Evt.step (Evt.const rfl) (fun k => by rw [Ra.regs_May.l0, if_pos p1, if_pos p2, if_pos p1, hr, kept_f, Option.bind_some, c1, if_neg (by simp)]; rfl)
    | true =>
      cases c2 : mayB l[i].f1 with
      | false => exact Evt.step (Evt.const rfl) (fun k => by rw [Ra.regs_May.l0, if_pos p1, if_pos p2, if_pos p1, hr, kept_f, Option.bind_some, c1, if_pos rfl, May_f, Option.bind_some, c2, if_neg (by simp)]; rfl)
      | true =>
        by_cases d2 : p < l[i].f0
        · rw [decide_eq_true d2]
          refine Evt.step (ih (i + 1) l[i].f0 (by omega) (by omega) (by omega) (by rw [Nat.add_sub_cancel, rdR_get hlt])) (fun k => ?_)
          rw [Ra.regs_May.l0, if_pos p1, if_pos p2, if_pos p1, hr, kept_f, Option.bind_some, c1, if_pos rfl, May_f, Option.bind_some, c2, if_pos rfl, if_pos p3, hw, if_pos p4, if_pos p5, hr2, hp, if_neg (by omega), inc64 (by omega)]
        · rw [decide_eq_false d2]
          exact Evt.step (Evt.const rfl) (fun k => by rw [Ra.regs_May.l0, if_pos p1, if_pos p2, if_pos p1, hr, kept_f, Option.bind_some, c1, if_pos rfl, May_f, Option.bind_some, c2, if_pos rfl, if_pos p3, hw, if_pos p4, if_pos p5, hr2, hp, if_pos (by omega)]; rfl)
theorem may_evR (l : List SR) (hl : l.length ≤ 9223372036854775807) : Evt (fun k => Ra.regs_May.f k l) (mayR l) := by
  refine Evt.same (g := fun k => Ra.regs_May.l0 k l l (l.length : Int) 0) ?_ (fun k => rfl)
  cases l with
  | nil => exact Evt.step (Evt.const rfl) (fun k => by rw [Ra.regs_May.l0, if_neg (by simp)]; rfl)
  | cons m r =>
    have hr : Ra.rd_T113 (m :: r) 0 = m := rfl
    have p1 : (0 : Int) < ((m :: r).length : Int) := by simp only [List.length_cons]; omega
    rw [mayR, show oneR m = (keptB m.f0 && mayB m.f1) from rfl]
    cases c1 : keptB m.f0 with
    | false => exact Evt.step (Evt.const rfl) (fun k => by rw [Ra.regs_May.l0, if_pos p1, if_pos (by omega), if_pos p1, hr, kept_f, Option.bind_some, c1, if_neg (by simp)]; rfl)
    | true =>
      cases c2 : mayB m.f1 with
      | false => exact Evt.step (Evt.const rfl) (fun k => by rw [Ra.regs_May.l0, if_pos p1, if_pos (by omega), if_pos p1, hr, kept_f, Option.bind_some, c1, if_pos rfl, May_f, Option.bind_some, c2, if_neg (by simp)]; rfl)
      | true =>
        have := may_loopR (m :: r) hl r.length 1 m.f0 (by simp) (by simp) (by omega) rfl
        refine Evt.step (g := fun k => Ra.regs_May.l0 k (m :: r) (m :: r) ((m :: r).length : Int) ((1 : Nat) : Int)) this (fun k => ?_)
        rw [Ra.regs_May.l0, if_pos p1, if_pos (by omega), if_pos p1, hr, kept_f, Option.bind_some, c1, if_pos rfl, May_f, Option.bind_some, c2, if_pos rfl, if_neg (by omega), show wrap64 (0 + 1) = ((1 : Nat) : Int) from inc64 (i := 0) (by omega)]
theorem Mays_cR (A : Option Addr) (c : Nat) (l : List SR) (w : World) (hC : Kd.C Ra.k113 w A l.length l) (hc : l.length ≤ c) (hT : TabsOk w) :
    Calls Tryd.prog 112 #[.slice A l.length c] w fun e w' => e = .returned (.bool (mayR l)) ∧ Below w.heap.size w w' := by
  obtain ⟨k, hk⟩ := (may_evR l (lenR hC)).ex
  exact Ra.regs_May.calls k A c l (mayR l) w hC hc hT hk
theorem great_c (a : Int) (W : World) (h : a < 65 ∨ 90 < a) : Calls Tryd.prog 114 #[.int .i64 a] W fun e w' => e = .returned (.bool false) ∧ Drawn0 W w' := by
  refine Ra.regs_great.calls a false W ?_
  unfold Ra.regs_great.f
  by_cases c : 65 ≤ a
  · rw [if_pos c, decide_eq_false (by omega)]
  · rw [if_neg c]
theorem small_c (a : Int) (W : World) : Calls Tryd.prog 155 #[.int .i64 a] W fun e w' => e = .returned (.bool (decide (97 ≤ a) && decide (a ≤ 122))) ∧ Drawn0 W w' := by
  refine Ra.regs_small.calls a _ W ?_
  unfold Ra.regs_small.f
  by_cases c : 97 ≤ a
  · rw [if_pos c]; simp [c]
  · rw [if_neg c]; simp [c]

/-- A register in block g. -/
def XAt (g : Nat) (a : Int) (s : ByteArray) (q : Bool) (W : World) : Prop := W.cell? ⟨g, 0, none⟩ = some (.int .i64 a) ∧ W.cell? ⟨g, 1, none⟩ = some (.string s) ∧ W.cell? ⟨g, 2, none⟩ = some (.bool q) ∧ W.heap[g]? = some (.cells #[.int .i64 a, .string s, .bool q] 113 (0, 0))
theorem XAt.of {g : Nat} {a : Int} {s : ByteArray} {q : Bool} {W : World} (h : W.heap[g]? = some (.cells #[.int .i64 a, .string s, .bool q] 113 (0, 0))) : XAt g a s q W :=
  ⟨by rw [cell_row h]; rfl, by rw [cell_row h]; rfl, by rw [cell_row h]; rfl, h⟩
theorem XAt.below {g : Nat} {a : Int} {s : ByteArray} {q : Bool} {W W' : World} (h : XAt g a s q W) (hb : Below W.heap.size W W') : XAt g a s q W' := .of ((hb.block g (Array.getElem?_eq_some_iff.1 h.2.2.2).1).trans h.2.2.2)
theorem XAt.grown {g : Nat} {a : Int} {s : ByteArray} {q : Bool} {W W' : World} {row : Option Nat} (h : XAt g a s q W) (hb : W.grownBy W' row) (hne : some g ≠ row) : XAt g a s q W' := .of ((hb.block g (Array.getElem?_eq_some_iff.1 h.2.2.2).1 hne).trans h.2.2.2)
/-- What named tells, at a small letter. -/
def namedL (l : List SR) (a : Int) (s : ByteArray) (q : Bool) : List SR := setL nmR ⟨34, s, q⟩ (setL nmR ⟨a, s, q⟩ l)
theorem ok_of {l : List SR} (h : mayR l = true) : OkR 89 l := by
  have h1 := (mayR_iff l).1 h
  exact ⟨h1.2, fun m hm => by have := one_bd (h1.1 m hm); omega, mayR_len h⟩
set_option maxHeartbeats 8000000 in
set_option maxRecDepth 100000 in
theorem named_cR (A0 : Option Addr) (c0 : Nat) (l : List SR) (a : Int) (s : ByteArray) (q : Bool) (w : World) (hC : Kd.C Ra.k113 w A0 l.length l) (hm : OkR 89 l) (ha : 97 ≤ a ∧ a ≤ 122) (hs : mayB s = true) (hT : TabsOk w) :
    Calls Tryd.prog 156 #[.slice A0 l.length c0, .int .i64 a, .string s, .bool q] w fun e w' => ∃ v', e = .returned (.tuple #[v', .int .i64 0]) ∧
      w'.ownsRow w.heap.size 113 3 v' (namedL l a s q).length (flR (namedL l a s q)) ∧ Below w.heap.size w w' := by
  have mixed : Tryd.prog.follows .mixedOrders = true := by kernel_rfl
  have HC := Aside0.mk hC
  have HM := Aside0.mk hm
  have HA := Aside0.mk ha
  have HT := Aside0.mk hT
  have HG := Aside0.mk (fun W => great_c a W (by omega))
  have HMY := Aside0.mk (fun W (h : TabsOk W) => hs ▸ May_c s W h)
  clear hC hm ha hT hs
  go_enter Tryd.func156, Tryd.ntmps156
  go_wp2_with (first
    | (go_at_call 114; refine (HG.out _).mono ?_; rintro e w1 ⟨rfl, nd, rfl⟩)
    | (go_at_call 73; refine (HMY.out _ (T_drewN (T_alloc HT.out _) _)).mono ?_; rintro e w3 ⟨rfl, hb⟩; have HB3 := Aside0.mk (below_then (pw_below_drewN (below_alloc (Below.refl w.heap.size w) (.cells #[.int .i64 a, .string s, .bool q] 113)) nd) (by simp) hb); have HX3 := Aside0.mk (show w3.heap[w.heap.size]? = some (.cells #[.int .i64 a, .string s, .bool q] 113 (0, 0)) from (hb.block _ (by simp)).trans (heap_alloc_new w _)); clear hb))
  refine start_ (n := 5) (S := XAt w.heap.size a s q) (ds := []) #[false, false, false, false, false] mixed rfl rfl (.of HX3.out) (fun hHeld => ?_)
  refine pure_ (i := 0) (N := some 41) (v := ?_) (a' := ?_) #[true, false, false, false, false] rfl rfl (by kernel_rfl) (fun _ _ _ h => h) (Or.inl ⟨by rfl, ?_⟩) ?_ ?_
  rotate_left
  · intro w'
    go_simp
    with_reducible rfl
  rotate_left
  · simp only [Act.put, List.setIfInBounds_toArray, List.set_cons_zero, List.set_cons_succ, i64_w, i32_w]
    rfl
  refine take_ (i := 2) (N := some 43) (v := ?_) (a' := ?_) #[true, false, true, false, false] rfl rfl (by kernel_rfl) (fun _ _ _ h => h) (Or.inl ⟨by rfl, ?_⟩) hHeld ?_ ?_
  rotate_left
  · rintro w' ⟨s0, s1, s2, s3⟩
    go_simp
    with_reducible rfl
  rotate_left
  · simp only [Act.put, List.setIfInBounds_toArray, List.set_cons_zero, List.set_cons_succ, i64_w, i32_w]
    rfl
  refine one_ (i := 1) (N := some 42) #[true, true, true, false, false] rfl rfl (by kernel_rfl) (by decide) (fun K hK => ?_)
  refine goes_ Tryd.func154 (by kernel_rfl) rfl #[.slice A0 l.length c0] (by rfl) rfl rfl (by (try simp only [List.map_toArray, List.map_cons, List.map_nil]); first | done | rfl) ?_
  refine (cl_cR A0 c0 l _ (Kd.C_below HC.out HB3.out.drew) (by have := HM.out.2.2; omega)).mono ?_
  rintro e w5 ⟨v5, rfl, hown, hb⟩
  obtain ⟨A5, c5, rfl, _⟩ := own_formR hown
  have HW5 := Aside0.mk hown
  have HB5 := Aside0.mk (below_then HB3.out.drew HB3.out.size hb)
  have HS5 := Aside0.mk (show w.heap.size + 1 ≤ w3.drew.heap.size from (Array.getElem?_eq_some_iff.1 HX3.out).1)
  have HBW5 := Aside0.mk hb.size
  have hHeld5 := hHeld.below hb
  clear hown hb
  refine ⟨_, rfl, ?_⟩
  refine hK.out _ _ hHeld5 (fun hHeld => ?_)
  clear hK K
  refine norm_ (a' := ?_) ?_ ?_
  rotate_left
  · show Act.put _ (some 42) _ = _
    simp only [Act.put, List.setIfInBounds_toArray, List.set_cons_zero, List.set_cons_succ, i64_w, i32_w]
    rfl
  refine one_ (i := 3) (N := some 44) #[true, true, true, true, false] rfl rfl (by kernel_rfl) (by decide) (fun K hK => ?_)
  refine goes_ Tryd.func110 (by kernel_rfl) rfl #[.slice A5 l.length c5, .agg #[.int .i64 a, .string s, .bool q]] (by rfl) rfl rfl (by (try simp only [List.map_toArray, List.map_cons, List.map_nil]); first | done | rfl) ?_
  refine (set_cR _ l a s q _ (w.heap.size + 1) (own_weaken HW5.out HS5.out) HM.out.1 HM.out.2.1 (by have := HA.out; omega) (by have := HM.out.2.2; omega) (Nat.le_trans HS5.out HBW5.out)).mono ?_
  rintro e w6 ⟨v6, rfl, hown, hg⟩
  obtain ⟨A6, c6, rfl, _⟩ := own_formR hown
  have HW6 := Aside0.mk hown
  have HNE5 := Aside0.mk (show ∀ k, (Value.slice A5 l.length c5).ownBlock = some k → w.heap.size < k from fun k hk => Nat.lt_of_lt_of_le (Nat.lt_succ_self _) (Nat.le_trans HS5.out (own_base HW5.out k hk)))
  have HB6 := Aside0.mk (HB5.out.grown hg.1 HB5.out.size (fun k hk => Nat.le_of_lt (HNE5.out k hk)))
  have HS6 := Aside0.mk (Nat.le_trans HBW5.out hg.1.size)
  have hHeld6 := hHeld.grown hg.1 (fun e => Nat.lt_irrefl _ (HNE5.out _ e.symm))
  clear hown hg
  refine ⟨_, rfl, ?_⟩
  refine hK.out _ _ hHeld6 (fun hHeld => ?_)
  clear hK K
  refine norm_ (a' := ?_) ?_ ?_
  rotate_left
  · show Act.put _ (some 44) _ = _
    simp only [Act.put, List.setIfInBounds_toArray, List.set_cons_zero, List.set_cons_succ, i64_w, i32_w]
    rfl
  refine pure_ (i := 4) (N := some 0) (v := ?_) (a' := ?_) #[true, true, true, true, true] rfl rfl (by kernel_rfl) (fun _ _ _ h => h) (Or.inl ⟨by rfl, ?_⟩) ?_ ?_
  rotate_left
  · intro w'
    go_simp
    with_reducible rfl
  rotate_left
  · simp only [Act.put, List.setIfInBounds_toArray, List.set_cons_zero, List.set_cons_succ, i64_w, i32_w]
    rfl
  refine done_ (by kernel_rfl) ?_
  obtain ⟨x0, x1, x2, xh⟩ := hHeld
  have HX6 := Aside0.mk xh
  have hz0 : w6.frozen? ⟨w.heap.size, 0, none⟩ = false := by simp [World.frozen?, xh]
  clear xh
  have HSET := Aside0.mk (fun W (ho : W.ownsRow (w.heap.size + 1) 113 3 (.slice A6 (setL nmR ⟨a, s, q⟩ l).length c6) (setL nmR ⟨a, s, q⟩ l).length (flR (setL nmR ⟨a, s, q⟩ l))) (hw : w.heap.size + 1 ≤ W.heap.size) => set_cR _ (setL nmR ⟨a, s, q⟩ l) 34 s q W (w.heap.size + 1) ho (HM.out.set ⟨a, s, q⟩ (by have := HA.out; dsimp only; omega)).1 (HM.out.set ⟨a, s, q⟩ (by have := HA.out; dsimp only; omega)).2.1 (by omega) (by have := (HM.out.set ⟨a, s, q⟩ (by have := HA.out; dsimp only; omega)).2.2; omega) hw)
  have HMV := Aside0.mk (show (w6.setCell ⟨w.heap.size, 0, none⟩ (.int .i64 34)).ownsRow (w.heap.size + 1) 113 3 (.slice A6 (setL nmR ⟨a, s, q⟩ l).length c6) (setL nmR ⟨a, s, q⟩ l).length (flR (setL nmR ⟨a, s, q⟩ l)) from own_move HW6.out (fun k hk => Below.heap_setCell _ _ _ _ (by have := own_base HW6.out k hk; simp only; omega)))
  go_wp2_with (go_at_call 110; refine (HSET.out _ HMV.out (Nat.le_trans HS5.out (Nat.le_trans HS6.out (by simp [World.setCell])))).mono ?_; rintro e w8 ⟨v8, rfl, hown, hg⟩; have HW8 := Aside0.mk hown; have HG8 := Aside0.mk hg.1; clear hown hg)
  go_ret2
  refine ⟨_, rfl, own_weaken HW8.out (by omega), ?_⟩
  have h3 : (w6.setCell ⟨w.heap.size, 0, none⟩ (.int .i64 34)).heap.size = w6.heap.size := by simp [World.setCell]
  exact (HB6.out.setCell (p := ⟨w.heap.size, 0, none⟩) (Nat.le_refl _) _).grown HG8.out (by have h1 := HS5.out; have h2 := HS6.out; omega) (fun k hk => by have := own_base HW6.out k hk; omega)
end Go.Proofs.YtdoebjnfnmfnnaaDoor.F
