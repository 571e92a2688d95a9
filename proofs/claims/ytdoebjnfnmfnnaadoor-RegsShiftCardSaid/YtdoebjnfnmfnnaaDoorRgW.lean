/- regs.Yank$1, regs.Delete$1: contracts. -/
import Derived.Test.YtdoebjnfnmfnnaaDoorRgK
set_option linter.unusedVariables false
set_option linter.unusedSimpArgs false
namespace Go.Proofs.YtdoebjnfnmfnnaaDoor.F
open Go.RowKit Go.Lib Go.Shelf Go.Proofs.YtdoebjnfnmfnnaaDoorW.PrintWords Go.Proofs.YtdoebjnfnmfnnaaDoorW.PrintLast Go.Proofs.YtdoebjnfnmfnnaaDoorW.PrintMore Go.Proofs.YtdoebjnfnmfnnaaDoor.Q

theorem Step.far {w w' : World} {v v' : Value} {g : Nat} (h : Step w v w' v') (hg : w.heap.size ≤ g) (j : Nat) (u : Value) : Step w v (w'.setCell ⟨g, j, none⟩ u) v' :=
  ⟨⟨h.1.os, h.1.tape, h.1.output, Nat.le_trans h.1.size (by simp [World.setCell]), fun k hk hne => (Below.heap_setCell w' ⟨g, j, none⟩ u k (by simp only; omega)).trans (h.1.block k hk hne)⟩, h.2⟩
theorem pushL_ok : ∀ (f : Nat) (n : Int) (l : List SR) (k : Nat), n ≤ 57 → OkR k l → OkR (k + f) (pushL f n l)
  | 0, n, l, k, _, h => h
  | f + 1, n, l, k, hn, h => by
    unfold pushL
    split
    · have := pushL_ok f (n - 1) _ (k + 1) (by omega) ((h.del n).mov n (by omega))
      rwa [show k + 1 + f = k + (f + 1) by omega] at this
    · exact h.more (by omega)

set_option maxHeartbeats 4000000 in
set_option maxRecDepth 100000 in
theorem wayY_c (v : Value) (xs : List SR) (a : Int) (s : ByteArray) (q : Bool) (W : World) (base : Nat) (hown : W.ownsRow base 113 3 v xs.length (flR xs)) (hk : OkR 200 xs) (hb : base ≤ W.heap.size) :
    Calls Tryd.prog 111 #[v, .agg #[.int .i64 a, .string s, .bool q]] W fun e w' => ∃ v', e = .returned v' ∧ w'.ownsRow base 113 3 v' (setL nmR ⟨48, s, q⟩ xs).length (flR (setL nmR ⟨48, s, q⟩ xs)) ∧ Step W v w' v' := by
  have HS := Aside0.mk (set_cR v xs 48 s q (W.alloc (.cells #[.int .i64 48, .string s, .bool q] 113)) base (hown.alloc _) hk.1 hk.2.1 (by omega) (by have := hk.2.2; omega) (Nat.le_trans hb (by simp)))
  clear hown hk hb
  go_enter Tryd.func111, Tryd.ntmps111
  go_wp2_with fail
  refine HS.out.mono ?_
  rintro e w5 ⟨v5, rfl, hown, hst⟩
  have HW := Aside0.mk hown
  have HT := Aside0.mk hst
  clear hown hst
  go_wp2_with fail
  go_ret
  exact ⟨_, rfl, HW.out, (Step.of_alloc W _ _).trans HT.out⟩

/-- Has a text a newline? -/
def nlB (s : ByteArray) : Bool := (bytesOf s).any fun b => decide (b = 10)
theorem idx_loop (l : List Int) (hl : l.length ≤ 1000000) : ∀ (d i : Nat), l.length - i = d → i ≤ l.length → ∃ t, Evt (fun k => Rc.slices_Index_byte_byte.l0 k l 10 (l.length : Int) i) t ∧ decide (t ≥ 0) = (l.drop i).any fun b => decide (b = 10) := by
  intro d
  induction d with
  | zero =>
    intro i hd hi
    refine ⟨-1, Evt.step (Evt.const rfl) (fun k => by rw [Rc.slices_Index_byte_byte.l0, if_neg (by omega)]), ?_⟩
    rw [List.drop_eq_nil_of_le (by omega)]
    rfl
  | succ d ih =>
    intro i hd hi
    have hlt : i < l.length := by omega
    have hr : rd l (i : Int) = l[i] := by
      unfold rd
      rw [Int.toNat_natCast, List.getD_eq_getElem?_getD, List.getElem?_eq_getElem hlt, Option.getD_some]
    rw [List.drop_eq_getElem_cons hlt, List.any_cons]
    by_cases c : l[i] = 10
    · refine ⟨i, Evt.step (Evt.const rfl) (fun k => by rw [Rc.slices_Index_byte_byte.l0, if_pos (by omega), if_pos (by omega), if_pos (by omega), hr, if_pos c.symm]), ?_⟩
      rw [decide_eq_true c, decide_eq_true (by omega)]
      rfl
    · obtain ⟨t, h1, h2⟩ := ih (i + 1) (by omega) (by omega)
      refine ⟨t, Evt.step h1 (fun k => by rw [Rc.slices_Index_byte_byte.l0, if_pos (by omega), if_pos (by omega), if_pos (by omega), hr, if_neg (fun e => c e.symm), inc64 (by omega)]), ?_⟩
      rw [h2, decide_eq_false c, Bool.false_or]
theorem contains_c (s : ByteArray) (hs : s.size ≤ 4000) (W : World) (c : Nat) (hc : s.size ≤ c) :
    Calls Tryd.prog 108 #[.slice (some ⟨W.heap.size, 0, none⟩) s.size c, .int .u8 10] (Lib.bytesWorld W 5 s) fun e w' => e = .returned (.bool (nlB s)) ∧ Drawn0 (Lib.bytesWorld W 5 s) w' := by
  have hl := bytesOf_length s
  obtain ⟨t, ⟨k, h1⟩, h2⟩ := idx_loop (bytesOf s) (by omega) (bytesOf s).length 0 (by omega) (by omega)
  have h3 := h1 k (Nat.le_refl _)
  have hf : Rc.slices_Contains_byte_byte.f k (bytesOf s) 10 = some (nlB s) := by
    rw [Rc.slices_Contains_byte_byte.f, Rc.slices_Index_byte_byte.f]
    dsimp only at h3
    rw [show ((0 : Nat) : Int) = 0 from rfl] at h3
    rw [h3, Option.bind_some, h2, List.drop_zero]
    rfl
  have hr := bytes_reads W 5 s (by omega)
  rw [← hl] at hr hc ⊢
  exact Rc.slices_Contains_byte_byte.calls k _ c (bytesOf s) 10 (nlB s) _ (Kd.C_of_reads (d := (0 : Int)) (h1 := fun _ => rfl) hr) hc hf

/-- What Delete's way makes of registers. -/
def delW (xs : List SR) (s : ByteArray) (q : Bool) : List SR := if q || nlB s then setL nmR ⟨49, s, q⟩ (pushL 9 57 xs) else setL nmR ⟨45, s, q⟩ xs
section
variable (v : Value) (xs : List SR) (a : Int) (s : ByteArray) (W : World) (base b1 b2 : Nat)
set_option maxHeartbeats 8000000 in
set_option maxRecDepth 100000 in
theorem wayD_true (hown : W.ownsRow base 113 3 v xs.length (flR xs)) (hk : OkR 100 xs) (hb : base ≤ W.heap.size) (h1 : b1 < W.heap.size) (hc1 : W.cell? ⟨b1, 0, none⟩ = some (.bool true)) :
    Calls Tryd.prog 107 #[v, .agg #[.int .i64 a, .string s, .bool true], .pointer (some ⟨b1, 0, none⟩), .pointer (some ⟨b2, 0, none⟩)] W fun e w' => ∃ v', e = .returned v' ∧ w'.ownsRow base 113 3 v' (delW xs s true).length (flR (delW xs s true)) ∧ Step W v w' v' := by
  obtain ⟨ys, hy⟩ : ∃ ys, pushL 9 57 xs = ys := ⟨_, rfl⟩
  have hdw : delW xs s true = setL nmR ⟨49, s, true⟩ ys := by
    unfold delW
    rw [Bool.true_or, if_pos rfl, hy]
  rw [hdw]
  have HP := Aside0.mk (pushed_cR v xs (W.alloc (.cells #[.int .i64 45, .string s, .bool true] 113)) base (hown.alloc _) hk (Nat.le_trans hb (by simp)))
  have HOW := Aside0.mk (own_lt hown)
  have HK := Aside0.mk (pushL_ok 9 57 xs 100 (by omega) hk)
  rw [hy] at HP HK
  have HB := Aside0.mk hb
  clear hy hdw
  have hne : b1 ≠ W.heap.size := by omega
  clear hown hk hb
  go_enter Tryd.func107, Tryd.ntmps107
  go_wp2_with fail
  refine HP.out.mono ?_
  rintro e w5 ⟨v5, rfl, hown, hst⟩
  have HX : XAt W.heap.size 45 s true w5 := .of ((hst.1.block W.heap.size (by simp) (fun e => Nat.lt_irrefl _ (HOW.out _ e.symm))).trans (heap_alloc_new W _))
  obtain ⟨x0, x1, x2, xh⟩ := HX
  have hz0 : w5.frozen? ⟨W.heap.size, 0, none⟩ = false := by simp [World.frozen?, xh]
  have HW := Aside0.mk hown
  have HT := Aside0.mk ((Step.of_alloc W _ v).trans hst)
  have HNE := Aside0.mk (show ∀ k, v5.ownBlock = some k → k ≠ W.heap.size from fun k hk e => by
    rcases hst.2 with h | ⟨k', h, hk'⟩
    · have := HOW.out k (h ▸ hk); omega
    · rw [h] at hk
      injection hk with hk
      have : (W.alloc (.cells #[.int .i64 45, .string s, .bool true] 113)).heap.size = W.heap.size + 1 := by simp
      omega)
  clear hown hst xh
  have HS := Aside0.mk (set_cR v5 ys 49 s true (w5.setCell ⟨W.heap.size, 0, none⟩ (.int .i64 49)) base (own_move HW.out (fun k hk => Below.heap_setCell _ _ _ _ (HNE.out k hk))) HK.out.1 HK.out.2.1 (by omega) (by have := HK.out.2.2; omega) (Nat.le_trans HB.out (Nat.le_trans HT.out.1.size (by simp [World.setCell]))))
  go_wp2_with fail
  refine HS.out.mono ?_
  rintro e w8 ⟨v8, rfl, hown, hst⟩
  have HW8 := Aside0.mk hown
  have HT8 := Aside0.mk hst
  clear hown hst
  go_wp2_with fail
  go_ret
  refine ⟨_, rfl, ?_, (HT.out.far (Nat.le_refl _) 0 _).trans HT8.out⟩
  exact HW8.out
set_option maxHeartbeats 8000000 in
set_option maxRecDepth 100000 in
theorem wayD_false (hown : W.ownsRow base 113 3 v xs.length (flR xs)) (hk : OkR 100 xs) (hb : base ≤ W.heap.size) (h1 : b1 < W.heap.size) (h2 : b2 < W.heap.size) (hc1 : W.cell? ⟨b1, 0, none⟩ = some (.bool false)) (hc2 : W.cell? ⟨b2, 0, none⟩ = some (.string s)) (hs : s.size ≤ 4000) :
    Calls Tryd.prog 107 #[v, .agg #[.int .i64 a, .string s, .bool false], .pointer (some ⟨b1, 0, none⟩), .pointer (some ⟨b2, 0, none⟩)] W fun e w' => ∃ v', e = .returned v' ∧ w'.ownsRow base 113 3 v' (delW xs s false).length (flR (delW xs s false)) ∧ Step W v w' v' := by
  have hcv := print_bytes (P := Tryd.prog) 9 111 5 Tryd.underlying9 Tryd.underlying111 Tryd.underlying5 s (W.alloc (.cells #[.int .i64 45, .string s, .bool false] 113))
  have hcg := grownCap_ge (W.alloc (.cells #[.int .i64 45, .string s, .bool false] 113)) s.size 0 5
  have hbw : Below (W.alloc (.cells #[.int .i64 45, .string s, .bool false] 113)).heap.size (W.alloc (.cells #[.int .i64 45, .string s, .bool false] 113)) (Lib.bytesWorld (W.alloc (.cells #[.int .i64 45, .string s, .bool false] 113)) 5 s) := bytes_below (Below.refl _ _) (Nat.le_refl _) _ _
  have hct := contains_c s hs (W.alloc (.cells #[.int .i64 45, .string s, .bool false] 113)) _ hcg
  obtain ⟨cc, hcc⟩ : ∃ cc, grownCap (W.alloc (.cells #[.int .i64 45, .string s, .bool false] 113)) s.size 0 5 = cc := ⟨_, rfl⟩
  obtain ⟨WB, hWB⟩ : ∃ WB, Lib.bytesWorld (W.alloc (.cells #[.int .i64 45, .string s, .bool false] 113)) 5 s = WB := ⟨_, rfl⟩
  rw [hcc, hWB] at hcv hct
  rw [hWB] at hbw
  have hes : (W.alloc (.cells #[.int .i64 45, .string s, .bool false] 113)).heap.size = W.heap.size + 1 := by simp
  rw [hes] at hct
  have HCT := Aside0.mk hct
  have HBW := Aside0.mk hbw
  have HST := Aside0.mk ((Step.of_alloc W (.cells #[.int .i64 45, .string s, .bool false] 113) v).trans (Step.of_below hbw v))
  have HXB := Aside0.mk (show WB.heap[W.heap.size]? = some (.cells #[.int .i64 45, .string s, .bool false] 113 (0, 0)) from (hbw.block _ (by simp)).trans (heap_alloc_new W _))
  have HO := Aside0.mk (pw_own_below (hown.alloc (.cells #[.int .i64 45, .string s, .bool false] 113)) hbw)
  have HOW := Aside0.mk (own_lt hown)
  have HK := Aside0.mk hk
  have HB := Aside0.mk hb
  have HSB := Aside0.mk (show W.heap.size + 1 ≤ WB.heap.size from Nat.le_trans (by simp) hbw.size)
  have hne : b1 ≠ W.heap.size := by omega
  have hne2 : b2 ≠ W.heap.size := by omega
  clear hct hbw hcg hcc hWB hown hk hb hs hes
  cases hn : nlB s with
  | true =>
    obtain ⟨ys, hy⟩ : ∃ ys, pushL 9 57 xs = ys := ⟨_, rfl⟩
    have hdw : delW xs s false = setL nmR ⟨49, s, false⟩ ys := by
      unfold delW
      rw [hn, Bool.or_true, if_pos rfl, hy]
    rw [hdw]
    rw [hn] at HCT
    have HP := Aside0.mk (fun nd => pushed_cR v xs (WB.drewN nd) base (own_move HO.out (fun _ _ => rfl)) HK.out (Nat.le_trans HB.out (Nat.le_trans (Nat.le_succ _) HSB.out)))
    have HK2 := Aside0.mk (pushL_ok 9 57 xs 100 (by omega) HK.out)
    rw [hy] at HP HK2
    clear hy hdw hn
    go_enter Tryd.func107, Tryd.ntmps107
    go_wp2_with fail
    refine HCT.out.mono ?_
    rintro e w1 ⟨rfl, ⟨nd, rfl⟩⟩
    go_wp2_with fail
    refine (HP.out nd).mono ?_
    rintro e w5 ⟨v5, rfl, hown, hst⟩
    have HX : XAt W.heap.size 45 s false w5 := .of ((hst.1.block W.heap.size (by have := HSB.out; show W.heap.size < WB.heap.size; omega) (fun e => Nat.lt_irrefl _ (HOW.out _ e.symm))).trans HXB.out)
    obtain ⟨x0, x1, x2, xh⟩ := HX
    have hz0 : w5.frozen? ⟨W.heap.size, 0, none⟩ = false := by simp [World.frozen?, xh]
    have HW := Aside0.mk hown
    have HT := Aside0.mk ((HST.out.trans (Step.of_below (pw_below_drewN (Below.refl _ _) nd) v)).trans hst)
    have HNE := Aside0.mk (show ∀ k, v5.ownBlock = some k → k ≠ W.heap.size from fun k hk e => by
      rcases hst.2 with h | ⟨k', h, hk'⟩
      · have := HOW.out k (h ▸ hk); omega
      · rw [h] at hk
        injection hk with hk
        have h5 : WB.heap.size ≤ k' := hk'
        have := HSB.out
        omega)
    clear hown hst xh
    have HS := Aside0.mk (set_cR v5 ys 49 s false (w5.setCell ⟨W.heap.size, 0, none⟩ (.int .i64 49)) base (own_move HW.out (fun k hk => Below.heap_setCell _ _ _ _ (HNE.out k hk))) HK2.out.1 HK2.out.2.1 (by omega) (by have := HK2.out.2.2; omega) (Nat.le_trans HB.out (Nat.le_trans HT.out.1.size (by simp [World.setCell]))))
    go_wp2_with fail
    refine HS.out.mono ?_
    rintro e w8 ⟨v8, rfl, hown, hst⟩
    have HW8 := Aside0.mk hown
    have HT8 := Aside0.mk hst
    clear hown hst
    go_wp2_with fail
    go_ret
    exact ⟨_, rfl, HW8.out, (HT.out.far (Nat.le_refl _) 0 _).trans HT8.out⟩
  | false =>
    have hdw : delW xs s false = setL nmR ⟨45, s, false⟩ xs := by
      unfold delW
      rw [hn, Bool.or_false, if_neg (by simp)]
    rw [hdw]
    rw [hn] at HCT
    have HS := Aside0.mk (fun nd => set_cR v xs 45 s false (WB.drewN nd) base (own_move HO.out (fun _ _ => rfl)) HK.out.1 HK.out.2.1 (by omega) (by have := HK.out.2.2; omega) (Nat.le_trans HB.out (Nat.le_trans (Nat.le_succ _) HSB.out)))
    have HX : XAt W.heap.size 45 s false WB := .of HXB.out
    obtain ⟨x0, x1, x2, xh⟩ := HX
    clear hdw hn xh
    go_enter Tryd.func107, Tryd.ntmps107
    go_wp2_with fail
    refine HCT.out.mono ?_
    rintro e w1 ⟨rfl, ⟨nd, rfl⟩⟩
    go_wp2_with fail
    refine (HS.out nd).mono ?_
    rintro e w8 ⟨v8, rfl, hown, hst⟩
    have HW8 := Aside0.mk hown
    have HT8 := Aside0.mk ((HST.out.trans (Step.of_below (pw_below_drewN (Below.refl _ _) nd) v)).trans hst)
    clear hown hst
    go_wp2_with fail
    go_ret
    exact ⟨_, rfl, HW8.out, HT8.out⟩
end
end Go.Proofs.YtdoebjnfnmfnnaaDoor.F
