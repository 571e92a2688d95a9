/- patch.Takes: contract. -/
import Derived.Test.YtdoebjnfnmfnnaaDoorMay
set_option linter.unusedVariables false
set_option linter.unusedSimpArgs false
namespace Go.Proofs.YtdoebjnfnmfnnaaDoor.F
open Go.RowKit Go.Proofs.YtdoebjnfnmfnnaaDoorW.PrintWords Go.Proofs.YtdoebjnfnmfnnaaDoorW.PrintLast Go.Proofs.YtdoebjnfnmfnnaaDoorW.PrintMore Go.Proofs.YtdoebjnfnmfnnaaDoor.Q

def near (n : Int) : Bool := decide (0 ≤ n) && decide (n ≤ 4000)
set_option maxRecDepth 100000 in
theorem near_c (n : Int) (w : World) : Calls Tryd.prog 150 #[.int .i64 n] w fun e w' => e = .returned (.bool (near n)) ∧ w' = w := by
  by_cases c : 0 ≤ n
  · have d : decide (0 ≤ n) = true := decide_eq_true c
    have E := Aside0.mk (show near n = decide (n ≤ 4000) by unfold near; rw [d]; rfl)
    go_enter Tryd.func150, Tryd.ntmps150
    go_wp2
    go_ret
    exact ⟨by rw [E.out] <;> rfl, rfl⟩
  · have d : decide (0 ≤ n) = false := decide_eq_false c
    have E := Aside0.mk (show near n = false by unfold near; rw [d]; rfl)
    go_enter Tryd.func150, Tryd.ntmps150
    go_wp2
    go_ret
    exact ⟨by rw [E.out] <;> rfl, rfl⟩
def takesB (a d : Int) (s : ByteArray) : Bool := near a && (near d && mayB s)
def patch_Takes.f (a0 a1 : Int) (a2 : ByteArray) : Option Bool := some (takesB a0 a1 a2)
set_option maxHeartbeats 2000000 in
set_option maxRecDepth 100000 in
theorem patch_Takes.calls (a0 a1 : Int) (a2 : ByteArray) (r : Bool) (w : World) (hT : TabsOk w) (h : patch_Takes.f a0 a1 a2 = some r) :
    Calls Tryd.prog 102 #[.agg #[.int .i64 a0, .int .i64 a1, .string a2]] w fun e w' => e = .returned (.bool r) ∧ Below w.heap.size w w' := by
  obtain rfl := Option.some.inj h
  clear h
  have HT := Aside0.mk hT
  have hu := Tryd.underlying80
  clear hT
  cases h1 : near a0 with
  | false =>
    have E := Aside0.mk (show takesB a0 a1 a2 = false by unfold takesB; rw [h1]; rfl)
    go_enter Tryd.func102, Tryd.ntmps102
    go_wp2_with (first | ((with_reducible refine gate_dst (N := 1) rfl ?_); refine box_event ?hg (N := 1) ?hd (cs := #[.int .i64 a0, .int .i64 a1, .string a2]) (t := 80) ?hr ?_; (case hd => rfl); (case hg => rfl); (case hr => first | (go_simp; done) | (go_simp; rfl)); intro gb hg w0 hbox hb; have BK := Aside0.mk hbox; have HB0 := Aside0.mk hb; clear hbox hb hg; have hq0 : w0.cell? ⟨gb, 0, none⟩ = some (.int .i64 a0) := (blk_cell BK.out 0).trans rfl; have hq1 : w0.cell? ⟨gb, 1, none⟩ = some (.int .i64 a1) := (blk_cell BK.out 1).trans rfl; have hq2 : w0.cell? ⟨gb, 2, none⟩ = some (.string a2) := (blk_cell BK.out 2).trans rfl))
    refine (near_c a0 _).mono ?_
    rintro e w'' ⟨rfl, hw⟩
    rw [hw]
    clear hw w''
    go_wp2_with fail
    go_ret
    exact ⟨by rw [E.out] <;> rfl, HB0.out⟩
  | true =>
    cases h2 : near a1 with
    | false =>
      have E := Aside0.mk (show takesB a0 a1 a2 = false by unfold takesB; rw [h1, h2]; rfl)
      go_enter Tryd.func102, Tryd.ntmps102
      go_wp2_with (first | ((with_reducible refine gate_dst (N := 1) rfl ?_); refine box_event ?hg (N := 1) ?hd (cs := #[.int .i64 a0, .int .i64 a1, .string a2]) (t := 80) ?hr ?_; (case hd => rfl); (case hg => rfl); (case hr => first | (go_simp; done) | (go_simp; rfl)); intro gb hg w0 hbox hb; have BK := Aside0.mk hbox; have HB0 := Aside0.mk hb; clear hbox hb hg; have hq0 : w0.cell? ⟨gb, 0, none⟩ = some (.int .i64 a0) := (blk_cell BK.out 0).trans rfl; have hq1 : w0.cell? ⟨gb, 1, none⟩ = some (.int .i64 a1) := (blk_cell BK.out 1).trans rfl; have hq2 : w0.cell? ⟨gb, 2, none⟩ = some (.string a2) := (blk_cell BK.out 2).trans rfl))
      refine (near_c a0 _).mono ?_
      rintro e w'' ⟨rfl, hw⟩
      rw [hw]
      clear hw w''
      go_wp2_with fail
      refine (near_c a1 _).mono ?_
      rintro e w'' ⟨rfl, hw⟩
      rw [hw]
      clear hw w''
      go_wp2_with fail
      go_ret
      exact ⟨by rw [E.out] <;> rfl, HB0.out⟩
    | true =>
      have E := Aside0.mk (show takesB a0 a1 a2 = mayB a2 by unfold takesB; rw [h1, h2]; rfl)
      go_enter Tryd.func102, Tryd.ntmps102
      go_wp2_with (first | ((with_reducible refine gate_dst (N := 1) rfl ?_); refine box_event ?hg (N := 1) ?hd (cs := #[.int .i64 a0, .int .i64 a1, .string a2]) (t := 80) ?hr ?_; (case hd => rfl); (case hg => rfl); (case hr => first | (go_simp; done) | (go_simp; rfl)); intro gb hg w0 hbox hb; have BK := Aside0.mk hbox; have HB0 := Aside0.mk hb; clear hbox hb hg; have hq0 : w0.cell? ⟨gb, 0, none⟩ = some (.int .i64 a0) := (blk_cell BK.out 0).trans rfl; have hq1 : w0.cell? ⟨gb, 1, none⟩ = some (.int .i64 a1) := (blk_cell BK.out 1).trans rfl; have hq2 : w0.cell? ⟨gb, 2, none⟩ = some (.string a2) := (blk_cell BK.out 2).trans rfl))
      refine (near_c a0 _).mono ?_
      rintro e w'' ⟨rfl, hw⟩
      rw [hw]
      clear hw w''
      go_wp2_with fail
      refine (near_c a1 _).mono ?_
      rintro e w'' ⟨rfl, hw⟩
      rw [hw]
      clear hw w''
      go_wp2_with fail
      refine (May_c a2 _ (T_below HT.out HB0.out)).mono ?_
      rintro e w1 ⟨rfl, hb⟩
      have HB1 := Aside0.mk hb
      clear hb
      go_wp2_with fail
      go_ret
      exact ⟨by rw [E.out] <;> rfl, below_then HB0.out HB0.out.size HB1.out⟩
end Go.Proofs.YtdoebjnfnmfnnaaDoor.F
