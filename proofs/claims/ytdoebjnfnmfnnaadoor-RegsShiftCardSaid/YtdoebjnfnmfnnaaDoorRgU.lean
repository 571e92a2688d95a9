/- regs.pushed: contract. -/
import Derived.Test.YtdoebjnfnmfnnaaDoorRgD
set_option linter.unusedVariables false
set_option linter.unusedSimpArgs false
namespace Go.Proofs.YtdoebjnfnmfnnaaDoor.F
open Go.RowKit Go.Lib Go.Shelf Go.Proofs.YtdoebjnfnmfnnaaDoorW.PrintWords Go.Proofs.YtdoebjnfnmfnnaaDoorW.PrintLast Go.Proofs.YtdoebjnfnmfnnaaDoorW.PrintMore Go.Proofs.YtdoebjnfnmfnnaaDoor.Q

def delN (n : Int) (l : List SR) : List SR := if hasL nmR n l = true then l.eraseIdx (cntL nmR n l) else l
def movN (n : Int) (l : List SR) : List SR := match l[cntL nmR (n - 1) l]? with | some r => if hasL nmR (n - 1) l = true then setL nmR ⟨n, r.f1, r.f2⟩ l else l | none => l
def pushL : Nat → Int → List SR → List SR
  | 0, _, l => l
  | k + 1, n, l => if 49 < n then pushL k (n - 1) (movN n (delN n l)) else l
/-- What a row must be for find and set. -/
def OkR (k : Nat) (l : List SR) : Prop := Sor nmR l ∧ (∀ m ∈ l, 0 ≤ m.f0 ∧ m.f0 ≤ 1000) ∧ l.length ≤ k
theorem OkR.del {k : Nat} {l : List SR} (h : OkR k l) (n : Int) : OkR k (delN n l) := by
  unfold delN
  split
  · exact ⟨List.Pairwise.sublist (List.eraseIdx_sublist _ _) h.1, fun m hm => h.2.1 m (List.mem_of_mem_eraseIdx hm), Nat.le_trans (List.length_eraseIdx_le _ _) h.2.2⟩
  · exact h
theorem setL_len {x : SR} : ∀ l : List SR, (setL nmR x l).length ≤ l.length + 1
  | [] => by simp [setL]
  | m :: r => by
    have := setL_len (x := x) r
    simp only [setL]
    split
    · simp; omega
    · split <;> simp
theorem OkR.set {k : Nat} {l : List SR} (h : OkR k l) (x : SR) (hx : 0 ≤ x.f0 ∧ x.f0 ≤ 1000) : OkR (k + 1) (setL nmR x l) := by
  refine ⟨set_sorR h.1, fun m hm => ?_, Nat.le_trans (setL_len l) (by have := h.2.2; omega)⟩
  rcases set_memR hm with rfl | hm
  · exact hx
  · exact h.2.1 m hm
theorem OkR.more {k k' : Nat} {l : List SR} (h : OkR k l) (hk : k ≤ k') : OkR k' l := ⟨h.1, h.2.1, Nat.le_trans h.2.2 hk⟩
theorem OkR.mov {k : Nat} {l : List SR} (h : OkR k l) (n : Int) (hn : 0 ≤ n ∧ n ≤ 1000) : OkR (k + 1) (movN n l) := by
  unfold movN
  split
  · split
    · exact h.set _ hn
    · exact h.more (by omega)
  · exact h.more (by omega)

/-- Delete where that name is there. -/
theorem delN_c (A : Option Addr) (c : Nat) (n : Int) (l : List SR) (w : World) (base k : Nat) (hown : w.ownsRow base 113 3 (.slice A l.length c) l.length (flR l)) (hk : OkR k l) (hk2 : k ≤ 1000) (hh : hasL nmR n l = true) :
    Calls Tryd.prog 158 #[.slice A l.length c, .int .i64 (cntL nmR n l : Nat), .int .i64 ((cntL nmR n l : Nat) + 1)] w fun e w' =>
      ∃ A', e = .returned (.slice A' (delN n l).length c) ∧ w'.ownsRow base 113 3 (.slice A' (delN n l).length c) (delN n l).length (flR (delN n l)) ∧ Step w (.slice A l.length c) w' (.slice A' (delN n l).length c) := by
  have hil : cntL nmR n l < l.length := by
    rcases Nat.lt_or_ge (cntL nmR n l) l.length with c | c
    · exact c
    · rw [has_out nmR n l (by omega)] at hh; cases hh
  obtain ⟨m, hm⟩ : ∃ m, l.length = m + 1 := ⟨l.length - 1, by omega⟩
  have hkl := hk.2.2
  have hd : delN n l = l.eraseIdx (cntL nmR n l) := by unfold delN; rw [if_pos hh]
  have hdl : (delN n l).length = m := by rw [hd, List.length_eraseIdx]; split <;> omega
  obtain ⟨g, c', hv, _, _⟩ := hown.form (by omega)
  injection hv with e1 _ e3
  subst e1; subst e3
  rw [hm] at hown ⊢
  refine (del_cR g c m (cntL nmR n l) l hm w base hown (by omega) (by omega)).mono ?_
  rintro e w' ⟨rfl, h1, h2⟩
  refine ⟨_, by rw [hdl], ?_, ⟨h2, .inl rfl⟩⟩
  rw [hdl, hd]
  exact h1
theorem flR_get (xs : List SR) (j r : Nat) (hj : j < xs.length) (hr : r < 3) : (flR xs)[j * 3 + r]? = (cR xs[j])[r]? := by
  rw [← List.getElem?_drop, flR_drop, List.drop_eq_getElem_cons hj]
  show (cR xs[j] ++ flR _)[r]? = _
  rw [List.getElem?_append_left (by exact hr)]
theorem own_read3 {w : World} {base g n cap j : Nat} {xs : List SR} (hn : xs.length = n) (h : w.ownsRow base 113 3 (.slice (some ⟨g, 0, none⟩) n cap) n (flR xs)) (hj : j < xs.length) :
    w.cell? ⟨g, j * 3, none⟩ = some (.int .i64 (rdR xs j).f0) ∧ w.cell? ⟨g, j * 3 + 1, none⟩ = some (.string (rdR xs j).f1) ∧ w.cell? ⟨g, j * 3 + 2, none⟩ = some (.bool (rdR xs j).f2) := by
  subst hn
  have hC := flR_C (Kd.R_reads' (flR_R h)).2.2
  rw [rdR_get hj]
  have h0 := hC (j * 3 + 0) _ ((flR_get xs j 0 hj (by omega)).trans rfl)
  have h1 := hC (j * 3 + 1) _ ((flR_get xs j 1 hj (by omega)).trans rfl)
  have h2 := hC (j * 3 + 2) _ ((flR_get xs j 2 hj (by omega)).trans rfl)
  rw [Addr.add_lit, Nat.zero_add] at h0 h1 h2
  exact ⟨h0, h1, h2⟩
theorem movN_hit {n : Int} {l : List SR} {j : Nat} (hh : hasL nmR (n - 1) l = true) (hj : cntL nmR (n - 1) l = j) (hl : j < l.length) : movN n l = setL nmR ⟨n, (rdR l j).f1, (rdR l j).f2⟩ l := by
  unfold movN
  rw [hj, List.getElem?_eq_getElem hl]
  dsimp only
  rw [if_pos hh, rdR_get hl]
theorem movN_miss {n : Int} {l : List SR} (hh : hasL nmR (n - 1) l = false) : movN n l = l := by
  unfold movN
  split
  · rw [if_neg (by rw [hh]; simp)]
  · rfl
theorem has_lt {n : Int} {l : List SR} (hh : hasL nmR n l = true) : cntL nmR n l < l.length := by
  rcases Nat.lt_or_ge (cntL nmR n l) l.length with c | c
  · exact c
  · rw [has_out nmR n l (by omega)] at hh; cases hh
set_option maxHeartbeats 8000000 in
set_option maxRecDepth 100000 in
theorem pushed_cR (v : Value) (l0 : List SR) (w : World) (base : Nat) (hown : w.ownsRow base 113 3 v l0.length (flR l0)) (hk : OkR 100 l0) (hb : base ≤ w.heap.size) :
    Calls Tryd.prog 109 #[v] w fun e w' => ∃ v', e = .returned v' ∧ w'.ownsRow base 113 3 v' (pushL 9 57 l0).length (flR (pushL 9 57 l0)) ∧ Step w v w' v' := by
  obtain ⟨res, hres⟩ : ∃ res, pushL 9 57 l0 = res := ⟨_, rfl⟩
  rw [hres]
  have HRES := Aside0.mk hres
  have HO := Aside0.mk hown
  have HK := Aside0.mk hk
  have HBS := Aside0.mk hb
  clear hres hown hk hb
  go_enter Tryd.func109, Tryd.ntmps109
  go_wp2
  go_loopg [0, 3] 9 (fun gk v0 v3 W => ∃ (n : Int) (l : List SR) (A : Option Addr) (c : Nat) (W0 : World), v0 = .slice A l.length c ∧ v3 = .int .i64 n ∧ W0 = W ∧ Aside0 (pushL gk n l = res) ∧ Aside0 (49 ≤ n ∧ n ≤ 57 ∧ n - 48 ≤ gk ∧ gk ≤ 9) ∧ Aside0 (W.ownsRow base 113 3 (.slice A l.length c) l.length (flR l)) ∧ Aside0 (OkR (200 - gk) l) ∧ Aside0 (Step w v W (.slice A l.length c)))
  case atStart =>
    obtain ⟨A, c, rfl, _⟩ := own_formR HO.out
    exact ⟨57, l0, A, c, _, rfl, rfl, rfl, HRES, ⟨by omega⟩, HO, ⟨HK.out.more (by omega)⟩, ⟨Step.of_below (Below.refl _ _) _⟩⟩
  case round =>
    obtain ⟨n, l, A, c, W0, rfl, rfl, rfl, HP, HN, HW, HOK, HB⟩ := hrel
    cases gk with
    | zero => exfalso; have := HN.out; omega
    | succ k1 =>
      have H := HP.out
      unfold pushL at H
      clear HP
      have hn1 := HN.out.1
      have hn2 := HN.out.2.1
      have hn3 := HN.out.2.2.1
      have hn4 := HN.out.2.2.2
      by_cases cn : 49 < n
      · rw [if_pos cn] at H
        have HP := Aside0.mk H
        clear H
        have dn : decide (49 < n) = true := decide_eq_true cn
        have hw1 : IntKind.i64.wrap (n - 1) = n - 1 := by rw [IntKind.wrap_i64]; omega
        have HD := Aside0.mk (HOK.out.del n)
        have HF1 := Aside0.mk (find_cR A c l n W0 (Kd.R_reads' (flR_R HW.out)).2.2 HOK.out.1 HOK.out.2.1 (by omega) (by have := HOK.out.2.2; omega))
        obtain ⟨i, hi⟩ : ∃ i, cntL nmR n l = i := ⟨_, rfl⟩
        obtain ⟨l1, hl1⟩ : ∃ l1, delN n l = l1 := ⟨_, rfl⟩
        cases hh : hasL nmR n l with
        | true =>
          have HDEL := Aside0.mk (fun (W : World) (ho : W.ownsRow base 113 3 (.slice A l.length c) l.length (flR l)) => delN_c A c n l W base (200 - (k1 + 1)) ho HOK.out (by omega) hh)
          have hil := has_lt hh
          rw [hh, hi] at HF1
          rw [hi, hl1] at HDEL
          rw [hl1] at HP HD
          rw [hi] at hil
          have hlo := HOK.out.2.2
          have hwi : IntKind.i64.wrap ((i : Int) + 1) = (i : Int) + 1 := by rw [IntKind.wrap_i64]; omega
          clear hh hi hl1
          have HL1 := Aside0.mk (show l1.length ≤ 1000 by have := HD.out.2.2; omega)
          have HN0 := Aside0.mk (show 0 ≤ n ∧ n ≤ 1000 by omega)
          have HF2 := Aside0.mk (fun (W : World) (Ax : Option Addr) (ho : W.ownsRow base 113 3 (.slice Ax l1.length c) l1.length (flR l1)) => find_cR Ax c l1 (n - 1) W (Kd.R_reads' (flR_R ho)).2.2 HD.out.1 HD.out.2.1 (by omega) HL1.out)
          obtain ⟨j, hj⟩ : ∃ j, cntL nmR (n - 1) l1 = j := ⟨_, rfl⟩
          cases h2 : hasL nmR (n - 1) l1 with
          | true =>
            have hjl := has_lt h2
            rw [hj] at hjl
            have HJL := Aside0.mk hjl
            have HM := Aside0.mk (movN_hit h2 hj hjl)
            rw [h2, hj] at HF2
            have pj : (j : Int) < (l1.length : Int) := by omega
            clear h2 hj hjl
            go_wp2_with fail
            refine HF1.out.mono ?_
            rintro e w1 ⟨rfl, hb⟩
            have HB1 := Aside0.mk (HB.out.trans (Step.of_below hb _))
            have HW1 := Aside0.mk (pw_own_below HW.out hb)
            clear hb
            go_wp2_with fail
            refine (HDEL.out _ HW1.out).mono ?_
            rintro e w2 ⟨Ax, rfl, hown, hg⟩
            have HB2 := Aside0.mk (HB1.out.trans hg)
            have HW2 := Aside0.mk hown
            clear hown hg
            go_wp2_with fail
            refine (HF2.out _ Ax HW2.out).mono ?_
            rintro e w3 ⟨rfl, hb⟩
            have HB3 := Aside0.mk (HB2.out.trans (Step.of_below hb _))
            have HW3 := Aside0.mk (pw_own_below HW2.out hb)
            clear hb
            obtain ⟨g, c', hv, _, hgl⟩ := HW3.out.form (by have := HJL.out; omega)
            injection hv with e1 _ e3
            subst e1
            subst e3
            obtain ⟨m0, m1, m2⟩ := own_read3 rfl HW3.out HJL.out
            have HGL := Aside0.mk hgl
            go_wp2_with fail
            refine (set_cR _ l1 n (rdR l1 j).f1 (rdR l1 j).f2 _ base (HW3.out.alloc _) HD.out.1 HD.out.2.1 HN0.out HL1.out (Nat.le_trans (Nat.le_trans HBS.out HB3.out.1.size) (by simp))).mono ?_
            rintro e w5 ⟨v5, rfl, hown, hg⟩
            obtain ⟨A5, c5, rfl, _⟩ := own_formR hown
            have HB5 := Aside0.mk ((HB3.out.trans (Step.of_alloc w3 _ _)).trans hg)
            have HW5 := Aside0.mk hown
            clear hown hg
            go_wp2_with fail
            go_roundg k1
            case measure => omega
            case rel => exact ⟨n - 1, setL nmR ⟨n, (rdR l1 j).f1, (rdR l1 j).f2⟩ l1, A5, c5, _, rfl, rfl, rfl, ⟨by rw [← HM.out]; exact HP.out⟩, ⟨by omega⟩, HW5, ⟨(HD.out.set ⟨n, (rdR l1 j).f1, (rdR l1 j).f2⟩ HN0.out).more (by omega)⟩, HB5⟩
          | false =>
            have HM := Aside0.mk (movN_miss h2)
            rw [h2, hj] at HF2
            clear h2 hj
            go_wp2_with fail
            refine HF1.out.mono ?_
            rintro e w1 ⟨rfl, hb⟩
            have HB1 := Aside0.mk (HB.out.trans (Step.of_below hb _))
            have HW1 := Aside0.mk (pw_own_below HW.out hb)
            clear hb
            go_wp2_with fail
            refine (HDEL.out _ HW1.out).mono ?_
            rintro e w2 ⟨Ax, rfl, hown, hg⟩
            have HB2 := Aside0.mk (HB1.out.trans hg)
            have HW2 := Aside0.mk hown
            clear hown hg
            go_wp2_with fail
            refine (HF2.out _ Ax HW2.out).mono ?_
            rintro e w3 ⟨rfl, hb⟩
            have HB3 := Aside0.mk (HB2.out.trans (Step.of_below hb _))
            have HW3 := Aside0.mk (pw_own_below HW2.out hb)
            clear hb
            go_wp2_with fail
            go_roundg k1
            case measure => omega
            case rel => exact ⟨n - 1, l1, Ax, c, _, rfl, rfl, rfl, ⟨by have := HP.out; rw [HM.out] at this; exact this⟩, ⟨by omega⟩, HW3, ⟨HD.out.more (by omega)⟩, HB3⟩
        | false =>
          have hl2 : delN n l = l := by unfold delN; rw [if_neg (by rw [hh]; simp)]
          obtain rfl : l1 = l := hl1.symm.trans hl2
          rw [hh, hi] at HF1
          rw [hl2] at HP HD
          clear hh hi hl1 hl2
          have HL1 := Aside0.mk (show l1.length ≤ 1000 by have := HD.out.2.2; omega)
          have HN0 := Aside0.mk (show 0 ≤ n ∧ n ≤ 1000 by omega)
          have HF2 := Aside0.mk (fun (W : World) (Ax : Option Addr) (ho : W.ownsRow base 113 3 (.slice Ax l1.length c) l1.length (flR l1)) => find_cR Ax c l1 (n - 1) W (Kd.R_reads' (flR_R ho)).2.2 HD.out.1 HD.out.2.1 (by omega) HL1.out)
          obtain ⟨j, hj⟩ : ∃ j, cntL nmR (n - 1) l1 = j := ⟨_, rfl⟩
          cases h2 : hasL nmR (n - 1) l1 with
          | true =>
            have hjl := has_lt h2
            rw [hj] at hjl
            have HJL := Aside0.mk hjl
            have HM := Aside0.mk (movN_hit h2 hj hjl)
            rw [h2, hj] at HF2
            have pj : (j : Int) < (l1.length : Int) := by omega
            clear h2 hj hjl
            go_wp2_with fail
            refine HF1.out.mono ?_
            rintro e w1 ⟨rfl, hb⟩
            have HB1 := Aside0.mk (HB.out.trans (Step.of_below hb _))
            have HW1 := Aside0.mk (pw_own_below HW.out hb)
            clear hb
            go_wp2_with fail
            refine (HF2.out _ A HW1.out).mono ?_
            rintro e w3 ⟨rfl, hb⟩
            have HB3 := Aside0.mk (HB1.out.trans (Step.of_below hb _))
            have HW3 := Aside0.mk (pw_own_below HW1.out hb)
            clear hb
            obtain ⟨g, c', hv, _, hgl⟩ := HW3.out.form (by have := HJL.out; omega)
            injection hv with e1 _ e3
            subst e1
            subst e3
            obtain ⟨m0, m1, m2⟩ := own_read3 rfl HW3.out HJL.out
            have HGL := Aside0.mk hgl
            go_wp2_with fail
            refine (set_cR _ l1 n (rdR l1 j).f1 (rdR l1 j).f2 _ base (HW3.out.alloc _) HD.out.1 HD.out.2.1 HN0.out HL1.out (Nat.le_trans (Nat.le_trans HBS.out HB3.out.1.size) (by simp))).mono ?_
            rintro e w5 ⟨v5, rfl, hown, hg⟩
            obtain ⟨A5, c5, rfl, _⟩ := own_formR hown
            have HB5 := Aside0.mk ((HB3.out.trans (Step.of_alloc w3 _ _)).trans hg)
            have HW5 := Aside0.mk hown
            clear hown hg
            go_wp2_with fail
            go_roundg k1
            case measure => omega
            case rel => exact ⟨n - 1, setL nmR ⟨n, (rdR l1 j).f1, (rdR l1 j).f2⟩ l1, A5, c5, _, rfl, rfl, rfl, ⟨by rw [← HM.out]; exact HP.out⟩, ⟨by omega⟩, HW5, ⟨(HD.out.set ⟨n, (rdR l1 j).f1, (rdR l1 j).f2⟩ HN0.out).more (by omega)⟩, HB5⟩
          | false =>
            have HM := Aside0.mk (movN_miss h2)
            rw [h2, hj] at HF2
            clear h2 hj
            go_wp2_with fail
            refine HF1.out.mono ?_
            rintro e w1 ⟨rfl, hb⟩
            have HB1 := Aside0.mk (HB.out.trans (Step.of_below hb _))
            have HW1 := Aside0.mk (pw_own_below HW.out hb)
            clear hb
            go_wp2_with fail
            refine (HF2.out _ A HW1.out).mono ?_
            rintro e w3 ⟨rfl, hb⟩
            have HB3 := Aside0.mk (HB1.out.trans (Step.of_below hb _))
            have HW3 := Aside0.mk (pw_own_below HW1.out hb)
            clear hb
            go_wp2_with fail
            go_roundg k1
            case measure => omega
            case rel => exact ⟨n - 1, l1, A, c, _, rfl, rfl, rfl, ⟨by have := HP.out; rw [HM.out] at this; exact this⟩, ⟨by omega⟩, HW3, ⟨HD.out.more (by omega)⟩, HB3⟩
      · rw [if_neg cn] at H
        have dn : decide (49 < n) = false := decide_eq_false cn
        have HR := Aside0.mk H
        clear H
        go_wp2
        go_ret
        refine ⟨_, rfl, ?_, HB.out⟩
        rw [← HR.out]
        exact HW.out
end Go.Proofs.YtdoebjnfnmfnnaaDoor.F
