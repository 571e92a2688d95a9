import Derived.Test.YtdoebjnfnmfnnaaDoorRsOpen
import Derived.Test.YtdoebjnfnmfnnaaDoorRsShift
/-! The law RegsShift: its row and its card. -/
namespace Go.Proofs.YtdoebjnfnmfnnaaDoor.regsShift
open Go.ChangeShapes Go.WideShapes Go.ChangeAt Go.RowKit Go.Proofs.YtdoebjnfnmfnnaaDoor.F
open Go.ChangeMaps (open_string shut_string)
set_option maxRecDepth 100000
theorem lifted (os : Os) (started : os.Started) (H : Type) (enc : TypeId × Value → H) :
    ReturnsInHanded {} Tryd.checked os 9 .any (fun w args => (Rows.regsShiftSpec.pre enc Tryd.prog Tryd.f9 Rows.regsShiftRow.domain false w args ∧ laidMetH Tryd.prog laidL w) ∧ sizedMet enc Tryd.prog Tryd.f9 (OpenSpec.ofChange Rows.regsShiftSpec) false w args)
      (Rows.regsShiftSpec.post enc Tryd.prog Tryd.f9 false true false false) := by
  refine lift_shaped (C := Tryd.checked) (X := fun w _ => laidMetH Tryd.prog laidL w) (fun _ _ _ hh h => h.of_heap hh) own started (by kernel_rfl) Tryd.func9
    (ChangeSpec.witness_shaped (enc := enc) (C := Tryd.checked) (os := os) (X := fun w _ => laidMetH Tryd.prog laidL w) false (laidWorld os) #[.agg #[.slice none 0 0, .slice none 0 0]] 8 rfl (World.shaped_of_RefB (by kernel_rfl) (by kernel_rfl)) (by kernel_rfl) (by kernel_rfl) (by kernel_rfl) (laid_met os _)) ?_
  intro W base args ds gs before hsh hval0 hW hsz0 hL
  have hsz : (DataW.weightsEach Tryd.prog (Tryd.f9.params.toList ++ Rows.regsShiftSpec.plain.varTypes Tryd.prog) (ds ++ gs)).all (· ≤ reachBytes) = true := hsz0
  have hval : ∀ (j : Nat) t v, Tryd.f9.params[j]? = some t → args[j]? = some v → Value.okWide Tryd.prog W .any base t v := hval0
  have hW' := hW
  obtain ⟨p, q, hA0, hV, rfl, _, _⟩ := hW
  have hA : DataW.TrodAll enc Tryd.prog W 0 (fun _ => true) true Tryd.f9.params.toList args.toList ds p := hA0
  rw [Tryd.params9] at hA hval hsz
  obtain ⟨v0, vs0, d0, ds0, p0, q0, hargs, rfl, rfl, h0, r0⟩ := trodAll_cons hA
  obtain ⟨rfl, rfl, rfl⟩ := trodAll_nil r0
  obtain rfl : args = #[v0] := by cases args; simp_all
  obtain ⟨rfl, rfl⟩ := trodVars_none hV
  have k0 := h0
  have lt0 : ∀ x ∈ p0, x.block < W.heap.size := by obtain ⟨m, hm⟩ := k0; exact DataW.trod_lt m _ _ _ hm
  obtain ⟨cs, rfl, _⟩ := okWide_struct Tryd.underlying108 (hval 0 108 v0 rfl rfl)
  obtain ⟨fuel, hf⟩ := h0
  obtain ⟨x, hx, hok⟩ := Rs_open H enc W true fuel cs.toList _ hf (fun n hn => of_decide_eq_true (List.all_eq_true.1 hsz n (DataW.weights_mem_each (j := 0) (t := 108) (d := d0) rfl rfl n hn)))
  obtain ⟨A0, c0, A1, c1, hcs, ⟨hc0, hr0⟩, hc1, hr1⟩ := hx
  obtain ⟨l0, l1⟩ := x
  obtain ⟨hm0, ha0⟩ := hok
  dsimp only at hcs hc0 hr0 hc1 hr1 hm0 ha0
  obtain rfl : cs = #[.slice A0 l0.length c0, .slice A1 l1.length c1] := by cases cs; simp_all
  obtain ⟨k, hp⟩ := Rs.RegsShift_pure l0 l1
  clear hA0 hval0 hsz0 hsz hf
  refine (Rs.quilllaw9_RegsShift.calls k A0 c0 l0 A1 c1 l1 true W hr0 hc0 hr1 hc1 (tabs_of hsh hL) rfl hp).mono fun e W' ⟨he, bel⟩ => ?_
  subst he
  exact ⟨_, rfl, _, _, _, [], _, [], hW', trodAll_mk1 (shut_bool Tryd.underlying4 _), trodAll_cons_mk (Below.trod laidOut (by kernel_rfl) (of_decide_eq_true (by kernel_rfl)) k0 bel lt0) trodAll_mk0, rfl, bel.frame _, fun h => by cases h⟩
theorem over : Rows.regsShiftRow.holds Tryd.pinned (OpenSpec.ofChange Rows.regsShiftSpec) :=
  OpenClaim.holds_of_wide 9 Tryd.f9 rfl rfl rfl rfl rfl rfl rfl ⟨rfl, rfl, rfl, rfl, rfl⟩ rfl rfl rfl rfl rfl (by kernel_rfl) Tryd.func9 (by kernel_rfl)
    (of_decide_eq_true (by kernel_rfl)) (by unfold Func.isWrapper; first | (rw [if_pos (by decide +kernel)]; kernel_rfl) | (rw [if_neg (by decide +kernel)]; exact ⟨rfl, rfl⟩))
    (fun os started H enc _ => lifted os started H enc)
theorem card : Rows.RegsShiftCardSaid :=
  Claim7.holds_tied_plain_at .later [] [.data, .pinned] true (true, "3854aa3ab2b545a8d21a5fc66d04cdb3eebfd9a341d62152b9f31154ece02015") false
    over (fun _ h => by cases h) (by kernel_rfl) (fun _ h => by cases h) regsShift_row_tie rfl ⟨rfl, rfl⟩ (by kernel_rfl) rfl
    (fun f fn hf hfn => by
      obtain rfl : f = 9 := Option.some.inj ((show Tryd.prog.funcNamed "quill/quilllaw9.RegsShift" = some 9 by kernel_rfl).symm.trans hf) |>.symm
      obtain rfl : fn = Tryd.f9 := (Option.some.inj (Tryd.func9.symm.trans hfn)).symm
      exact ⟨by kernel_rfl, fun j t ht => by
        rw [Tryd.params9] at ht
        have hm : t ∈ [108] := by simpa using Array.mem_of_getElem? ht
        have hall : ([108].all fun u => !Tryd.prog.wantsStandIn u) = true := by kernel_rfl
        exact (show Tryd.prog.wantsStandIn t = false by simpa using List.all_eq_true.1 hall t hm)⟩)
    (by kernel_rfl)
#print axioms card
end Go.Proofs.YtdoebjnfnmfnnaaDoor.regsShift
