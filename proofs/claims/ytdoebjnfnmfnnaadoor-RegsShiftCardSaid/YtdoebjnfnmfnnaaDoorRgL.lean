/- regs.keep, Yank, Delete, Get at what may be: contracts. -/
import Derived.Test.YtdoebjnfnmfnnaaDoorRgW
set_option linter.unusedVariables false
set_option linter.unusedSimpArgs false
namespace Go.Proofs.YtdoebjnfnmfnnaaDoor.F
open Go.RowKit Go.Lib Go.Shelf Go.Proofs.YtdoebjnfnmfnnaaDoorW.PrintWords Go.Proofs.YtdoebjnfnmfnnaaDoorW.PrintLast Go.Proofs.YtdoebjnfnmfnnaaDoorW.PrintMore Go.Proofs.YtdoebjnfnmfnnaaDoor.Q

section
variable (A0 : Option Addr) (c0 : Nat) (l : List SR) (s : ByteArray) (q : Bool) (w : World) (g : Nat) (lb : Array Value)
set_option maxHeartbeats 8000000 in
set_option maxRecDepth 100000 in
/-- keep at no name: by a way of its own. -/
theorem keep0_c (way : List SR → List SR) (hC : Kd.C Ra.k113 w A0 l.length l) (hc0 : l.length ≤ c0) (hm : mayR l = true) (hs : mayB s = true) (hT : TabsOk w)
    (eg : ∀ args w, (callFunc g args).run Tryd.prog w = .ok (.enter g args) w)
    (hway : ∀ (W : World) (v : Value) (xs : List SR), W.ownsRow (w.heap.size + 1) 113 3 v xs.length (flR xs) → OkR 90 xs → w.heap.size + 1 ≤ W.heap.size → Below w.heap.size w W →
      Calls Tryd.prog g (#[v, .agg #[.int .i64 34, .string s, .bool q]] ++ lb) W fun e w' => ∃ v', e = .returned v' ∧ w'.ownsRow (w.heap.size + 1) 113 3 v' (way xs).length (flR (way xs)) ∧ Step W v w' v') :
    Calls Tryd.prog 106 #[.slice A0 l.length c0, .int .i64 0, .string s, .bool q, .func (.func g) #[] lb] w fun e w' => ∃ v', e = .returned (.tuple #[v', .int .i64 0]) ∧
      w'.ownsRow w.heap.size 113 3 v' (way (setL nmR ⟨34, s, q⟩ l)).length (flR (way (setL nmR ⟨34, s, q⟩ l))) ∧ Below w.heap.size w w' := by
  have mixed : Tryd.prog.follows .mixedOrders = true := by kernel_rfl
  have HC := Aside0.mk hC
  have HT := Aside0.mk hT
  have HOK := Aside0.mk (ok_of hm)
  have HM := Aside0.mk (hm ▸ Mays_cR A0 c0 l w hC hc0 hT)
  have HMY := Aside0.mk (fun W (h : TabsOk W) => hs ▸ May_c s W h)
  have HSM := Aside0.mk (fun W => (show Calls Tryd.prog 155 #[.int .i64 0] W fun e w' => e = .returned (.bool false) ∧ Drawn0 W w' from small_c 0 W))
  have HGR := Aside0.mk (fun W => great_c 0 W (by omega))
  have HWY := Aside0.mk hway
  have HEG := Aside0.mk eg
  clear hC hT hm hs hway
  go_enter Tryd.func106, Tryd.ntmps106
  go_wp2_with fail
  refine HM.out.mono ?_
  rintro e w1 ⟨rfl, hb⟩
  have HB1 := Aside0.mk hb
  clear hb
  go_wp2_with fail
  refine (HMY.out _ (T_below HT.out HB1.out)).mono ?_
  rintro e w2 ⟨rfl, hb⟩
  have HB2 := Aside0.mk (below_then HB1.out HB1.out.size hb)
  clear hb
  go_wp2_with fail
  refine (HSM.out _).mono ?_
  rintro e w3 ⟨rfl, hdr⟩
  have HB3 := Aside0.mk (show Below w.heap.size w w3 by obtain ⟨nd, rfl⟩ := hdr.out; exact pw_below_drewN HB2.out nd)
  clear hdr
  go_wp2_with fail
  refine (HGR.out _).mono ?_
  rintro e w4 ⟨rfl, hdr⟩
  have HB4 := Aside0.mk (show Below w.heap.size w w4 by obtain ⟨nd, rfl⟩ := hdr.out; exact pw_below_drewN HB3.out nd)
  clear hdr
  go_wp2_with fail
  have HX4 := Aside0.mk (show (w4.alloc (.cells #[.int .i64 34, .string s, .bool q] 113)).heap[w4.heap.size]? = some (.cells #[.int .i64 34, .string s, .bool q] 113 (0, 0)) from heap_alloc_new w4 _)
  have HB5 := Aside0.mk (below_alloc HB4.out (.cells #[.int .i64 34, .string s, .bool q] 113))
  have HSZ := Aside0.mk (show w.heap.size + 1 ≤ (w4.alloc (.cells #[.int .i64 34, .string s, .bool q] 113)).heap.size by have := HB4.out.size; simp; omega)
  have HSG := Aside0.mk HB4.out.size
  obtain ⟨gx, hgx⟩ : ∃ gx, w4.heap.size = gx := ⟨_, rfl⟩
  obtain ⟨w5, hw5⟩ : ∃ w5, w4.alloc (.cells #[.int .i64 34, .string s, .bool q] 113) = w5 := ⟨_, rfl⟩
  rw [hgx, hw5] at HX4
  rw [hw5] at HB5 HSZ
  rw [hgx] at HSG
  rw [hgx, hw5]
  refine start_ (n := 9) (S := XAt gx 34 s q) (ds := []) #[false, false, false, false, false, false, false, false, false] mixed rfl rfl (.of HX4.out) (fun hHeld => ?_)
  refine pure_ (i := 0) (N := some 53) (v := ?_) (a' := ?_) #[true, false, false, false, false, false, false, false, false] rfl rfl (by kernel_rfl) (fun _ _ _ h => h) (Or.inl ⟨by rfl, ?_⟩) ?_ ?_
  rotate_left
  · intro w'
    go_simp
    with_reducible rfl
  rotate_left
  · simp only [Act.put, List.setIfInBounds_toArray, List.set_cons_zero, List.set_cons_succ, i64_w, i32_w]
    rfl
  refine pure_ (i := 1) (N := some 54) (v := ?_) (a' := ?_) #[true, true, false, false, false, false, false, false, false] rfl rfl (by kernel_rfl) (fun _ _ _ h => h) (Or.inl ⟨by rfl, ?_⟩) ?_ ?_
  rotate_left
  · intro w'
    go_simp
    with_reducible rfl
  rotate_left
  · simp only [Act.put, List.setIfInBounds_toArray, List.set_cons_zero, List.set_cons_succ, i64_w, i32_w]
    rfl
  refine take_ (i := 3) (N := some 56) (v := ?_) (a' := ?_) #[true, true, false, true, false, false, false, false, false] rfl rfl (by kernel_rfl) (fun _ _ _ h => h) (Or.inl ⟨by rfl, ?_⟩) hHeld ?_ ?_
  rotate_left
  · rintro w' ⟨s0, s1, s2, s3⟩
    go_simp
    with_reducible rfl
  rotate_left
  · simp only [Act.put, List.setIfInBounds_toArray, List.set_cons_zero, List.set_cons_succ, i64_w, i32_w]
    rfl
  refine take_ (i := 5) (N := some 58) (v := ?_) (a' := ?_) #[true, true, false, true, false, true, false, false, false] rfl rfl (by kernel_rfl) (fun _ _ _ h => h) (Or.inl ⟨by rfl, ?_⟩) hHeld ?_ ?_
  rotate_left
  · rintro w' ⟨s0, s1, s2, s3⟩
    go_simp
    with_reducible rfl
  rotate_left
  · simp only [Act.put, List.setIfInBounds_toArray, List.set_cons_zero, List.set_cons_succ, i64_w, i32_w]
    rfl
  clear hw5 hgx
  refine one_ (i := 2) (N := some 55) #[true, true, true, true, false, true, false, false, false] rfl rfl (by kernel_rfl) (by decide) (fun K hK => ?_)
  refine goes_ Tryd.func154 (by kernel_rfl) rfl #[.slice A0 l.length c0] (by rfl) rfl rfl (by (try simp only [List.map_toArray, List.map_cons, List.map_nil]); first | done | rfl) ?_
  refine (cl_cR A0 c0 l _ (Kd.C_below HC.out HB5.out.drew) (by have := HOK.out.2.2; omega)).mono ?_
  rintro e w6 ⟨v6, rfl, hown, hb⟩
  obtain ⟨A6, c6, rfl, _⟩ := own_formR hown
  have HW6 := Aside0.mk (own_weaken hown (show w.heap.size + 1 ≤ w5.drew.heap.size from HSZ.out))
  have HNE6 := Aside0.mk (show ∀ k, (Value.slice A6 l.length c6).ownBlock = some k → gx ≠ k from fun k hk e => by
    have h1 := own_base hown k hk
    have h2 := (Array.getElem?_eq_some_iff.1 HX4.out).1
    have h3 : w5.drew.heap.size = w5.heap.size := rfl
    omega)
  have HB6 := Aside0.mk (below_then HB5.out.drew HB5.out.size hb)
  have HS6 := Aside0.mk (Nat.le_trans HSZ.out hb.size)
  have hHeld6 := hHeld.below hb
  clear hown hb
  refine ⟨_, rfl, ?_⟩
  refine hK.out _ _ hHeld6 (fun hHeld => ?_)
  clear hK K
  refine norm_ (a' := ?_) ?_ ?_
  rotate_left
  · show Act.put _ (some 55) _ = _
    simp only [Act.put, List.setIfInBounds_toArray, List.set_cons_zero, List.set_cons_succ, i64_w, i32_w]
    rfl
  refine one_ (i := 4) (N := some 57) #[true, true, true, true, true, true, false, false, false] rfl rfl (by kernel_rfl) (by decide) (fun K hK => ?_)
  refine goes_ Tryd.func110 (by kernel_rfl) rfl #[.slice A6 l.length c6, .agg #[.int .i64 34, .string s, .bool q]] (by rfl) rfl rfl (by (try simp only [List.map_toArray, List.map_cons, List.map_nil]); first | done | rfl) ?_
  refine (set_cR _ l 34 s q _ (w.heap.size + 1) HW6.out HOK.out.1 HOK.out.2.1 (by omega) (by have := HOK.out.2.2; omega) HS6.out).mono ?_
  rintro e w7 ⟨v7, rfl, hown, hst⟩
  obtain ⟨A7, c7, rfl, _⟩ := own_formR hown
  have HW7 := Aside0.mk hown
  have HB7 := Aside0.mk (HB6.out.grown hst.1 HB6.out.size (fun k hk => Nat.le_of_lt (Nat.lt_of_lt_of_le (Nat.lt_succ_self _) (own_base HW6.out k hk))))
  have HS7 := Aside0.mk (Nat.le_trans HS6.out hst.1.size)
  have hHeld7 := hHeld.grown hst.1 (fun e => HNE6.out _ e.symm rfl)
  have HNE7 := Aside0.mk (show ∀ k, (Value.slice A7 (setL nmR ⟨34, s, q⟩ l).length c7).ownBlock = some k → gx ≠ k from fun k hk e => by
    rcases hst.2 with h | ⟨k', h, hk'⟩
    · exact HNE6.out k (h ▸ hk) e
    · rw [h] at hk
      injection hk with hk
      have := (Array.getElem?_eq_some_iff.1 hHeld.2.2.2).1
      omega)
  clear hown hst
  refine ⟨_, rfl, ?_⟩
  refine hK.out _ _ hHeld7 (fun hHeld => ?_)
  clear hK K
  refine norm_ (a' := ?_) ?_ ?_
  rotate_left
  · show Act.put _ (some 57) _ = _
    simp only [Act.put, List.setIfInBounds_toArray, List.set_cons_zero, List.set_cons_succ, i64_w, i32_w]
    rfl
  refine one_ (i := 6) (N := some 59) #[true, true, true, true, true, true, true, false, false] rfl rfl (by kernel_rfl) (by decide) (fun K hK => ?_)
  refine call_ g (#[.slice A7 (setL nmR ⟨34, s, q⟩ l).length c7, .agg #[.int .i64 34, .string s, .bool q]] ++ lb) (by rfl) rfl (by unfold execOp; simp [resolve, Deferred.ofValue, invoke, Act.eval, HEG.out]) ?_
  refine (HWY.out _ _ _ HW7.out ((HOK.out.set ⟨34, s, q⟩ (by dsimp only; omega)).more (by omega)) HS7.out HB7.out).mono ?_
  rintro e w8 ⟨v8, rfl, hown, hst⟩
  have HW8 := Aside0.mk hown
  have HB8 := Aside0.mk (HB7.out.grown hst.1 HB7.out.size (fun k hk => Nat.le_of_lt (Nat.lt_of_lt_of_le (Nat.lt_succ_self _) (own_base HW7.out k hk))))
  have hHeld8 : XAt gx 34 s q w8 := hHeld.grown hst.1 (fun e => HNE7.out _ e.symm rfl)
  clear hown hst
  refine ⟨_, rfl, ?_⟩
  refine hK.out _ _ hHeld8 (fun hHeld => ?_)
  clear hK K
  refine norm_ (a' := ?_) ?_ ?_
  rotate_left
  · show Act.put _ (some 59) _ = _
    simp only [Act.put, List.setIfInBounds_toArray, List.set_cons_zero, List.set_cons_succ, i64_w, i32_w]
    rfl
  refine pure_ (i := 7) (N := some 10) (v := ?_) (a' := ?_) #[true, true, true, true, true, true, true, true, false] rfl rfl (by kernel_rfl) (fun _ _ _ h => h) (Or.inl ⟨by rfl, ?_⟩) ?_ ?_
  rotate_left
  · intro w'
    go_simp
    with_reducible rfl
  rotate_left
  · simp only [Act.put, List.setIfInBounds_toArray, List.set_cons_zero, List.set_cons_succ, i64_w, i32_w]
    rfl
  refine pure_ (i := 8) (N := some 11) (v := ?_) (a' := ?_) #[true, true, true, true, true, true, true, true, true] rfl rfl (by kernel_rfl) (fun _ _ _ h => h) (Or.inl ⟨by rfl, ?_⟩) ?_ ?_
  rotate_left
  · intro w'
    go_simp
    with_reducible rfl
  rotate_left
  · simp only [Act.put, List.setIfInBounds_toArray, List.set_cons_zero, List.set_cons_succ, i64_w, i32_w]
    rfl
  refine done_ (by kernel_rfl) ?_
  go_wp2_with fail
  go_ret2
  exact ⟨_, rfl, own_weaken HW8.out (by omega), HB8.out⟩

set_option maxHeartbeats 8000000 in
set_option maxRecDepth 100000 in
/-- keep at a small letter. -/
theorem keepS_c (a : Int) (ha : 97 ≤ a ∧ a ≤ 122) (hC : Kd.C Ra.k113 w A0 l.length l) (hc0 : l.length ≤ c0) (hm : mayR l = true) (hs : mayB s = true) (hT : TabsOk w) :
    Calls Tryd.prog 106 #[.slice A0 l.length c0, .int .i64 a, .string s, .bool q, .func (.func g) #[] lb] w fun e w' => ∃ v', e = .returned (.tuple #[v', .int .i64 0]) ∧
      w'.ownsRow w.heap.size 113 3 v' (namedL l a s q).length (flR (namedL l a s q)) ∧ Below w.heap.size w w' := by
  have HC := Aside0.mk hC
  have HT := Aside0.mk hT
  have HOK := Aside0.mk (ok_of hm)
  have HM := Aside0.mk (hm ▸ Mays_cR A0 c0 l w hC hc0 hT)
  have HMY := Aside0.mk (fun W (h : TabsOk W) => hs ▸ May_c s W h)
  have hsm : (decide (97 ≤ a) && decide (a ≤ 122)) = true := by simp [ha.1, ha.2]
  have HSM := Aside0.mk (fun W => hsm ▸ small_c a W)
  have HNM := Aside0.mk (fun W => (show Calls Tryd.prog 113 #[.int .i64 a] W fun e w' => e = .returned (.bool true) ∧ Drawn0 W w' from Ra.regs_Named.calls a true W (by
    unfold Ra.regs_Named.f
    rw [kept_f, Option.bind_some, if_pos]
    simp [keptB, ha.1, ha.2])))
  have HND := Aside0.mk (fun W (hb : Below w.heap.size w W) => named_cR A0 c0 l a s q W (Kd.C_below hC hb) (ok_of hm) ha hs (T_below hT hb))
  have d0 : (a != 0) = true := bne_iff_ne.2 (by omega)
  have d1 : (a == 95) = false := beq_eq_false_iff_ne.2 (by omega)
  clear hC hT hm hs ha hsm
  go_enter Tryd.func106, Tryd.ntmps106
  go_wp2_with fail
  refine HM.out.mono ?_
  rintro e w1 ⟨rfl, hb⟩
  have HB1 := Aside0.mk hb
  clear hb
  go_wp2_with fail
  refine (HNM.out _).mono ?_
  rintro e w3 ⟨rfl, hdr⟩
  have HB2 := Aside0.mk (show Below w.heap.size w w3 by obtain ⟨nd, rfl⟩ := hdr.out; exact pw_below_drewN HB1.out nd)
  clear hdr
  go_wp2_with fail
  refine (HMY.out _ (T_below HT.out HB2.out)).mono ?_
  rintro e w4 ⟨rfl, hb⟩
  have HB3 := Aside0.mk (below_then HB2.out HB2.out.size hb)
  clear hb
  go_wp2_with fail
  refine (HSM.out _).mono ?_
  rintro e w5 ⟨rfl, hdr⟩
  have HB4 := Aside0.mk (show Below w.heap.size w w5 by obtain ⟨nd, rfl⟩ := hdr.out; exact pw_below_drewN HB3.out nd)
  clear hdr
  go_wp2_with fail
  refine (HND.out _ HB4.out).mono ?_
  rintro e w6 ⟨v6, rfl, hown, hb⟩
  have HW := Aside0.mk (own_weaken hown HB4.out.size)
  have HB5 := Aside0.mk (below_then HB4.out HB4.out.size hb)
  clear hown hb
  go_wp2_with fail
  go_ret2
  exact ⟨_, rfl, HW.out, HB5.out⟩
set_option maxHeartbeats 8000000 in
set_option maxRecDepth 100000 in
/-- keep at '_'. -/
theorem keepN_c (hC : Kd.C Ra.k113 w A0 l.length l) (hc0 : l.length ≤ c0) (hm : mayR l = true) (hs : mayB s = true) (hT : TabsOk w) :
    Calls Tryd.prog 106 #[.slice A0 l.length c0, .int .i64 95, .string s, .bool q, .func (.func g) #[] lb] w fun e w' => ∃ v', e = .returned (.tuple #[v', .int .i64 0]) ∧
      w'.ownsRow w.heap.size 113 3 v' l.length (flR l) ∧ Below w.heap.size w w' := by
  have HC := Aside0.mk hC
  have HT := Aside0.mk hT
  have HOK := Aside0.mk (ok_of hm)
  have HM := Aside0.mk (hm ▸ Mays_cR A0 c0 l w hC hc0 hT)
  have HMY := Aside0.mk (fun W (h : TabsOk W) => hs ▸ May_c s W h)
  have HNM := Aside0.mk (fun W => (show Calls Tryd.prog 113 #[.int .i64 95] W fun e w' => e = .returned (.bool true) ∧ Drawn0 W w' from Ra.regs_Named.calls 95 true W (by decide +kernel)))
  clear hC hT hm hs
  go_enter Tryd.func106, Tryd.ntmps106
  go_wp2_with fail
  refine HM.out.mono ?_
  rintro e w1 ⟨rfl, hb⟩
  have HB1 := Aside0.mk hb
  clear hb
  go_wp2_with fail
  refine (HNM.out _).mono ?_
  rintro e w3 ⟨rfl, hdr⟩
  have HB2 := Aside0.mk (show Below w.heap.size w w3 by obtain ⟨nd, rfl⟩ := hdr.out; exact pw_below_drewN HB1.out nd)
  clear hdr
  go_wp2_with fail
  refine (HMY.out _ (T_below HT.out HB2.out)).mono ?_
  rintro e w4 ⟨rfl, hb⟩
  have HB3 := Aside0.mk (below_then HB2.out HB2.out.size hb)
  clear hb
  go_wp2_with fail
  refine (cl_cR A0 c0 l _ (Kd.C_below HC.out HB3.out) (by have := HOK.out.2.2; omega)).mono ?_
  rintro e w6 ⟨v6, rfl, hown, hb⟩
  have HW := Aside0.mk (own_weaken hown HB3.out.size)
  have HB5 := Aside0.mk (below_then HB3.out HB3.out.size hb)
  clear hown hb
  go_wp2_with fail
  go_ret2
  exact ⟨_, rfl, HW.out, HB5.out⟩
end
end Go.Proofs.YtdoebjnfnmfnnaaDoor.F
