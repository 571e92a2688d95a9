/- MarksSet, in plain Lean. -/
import Derived.Test.YtdoebjnfnmfnnaaDoorMsHv
set_option linter.unusedVariables false
set_option linter.unusedSimpArgs false
namespace Go.Proofs.YtdoebjnfnmfnnaaDoor.Ms
open Go.RowKit Go.Proofs.YtdoebjnfnmfnnaaDoor.Q Go.Proofs.YtdoebjnfnmfnnaaDoor.F Go.Lib
open Go.Proofs.YtdoebjnfnmfnnaaDoor.Fa (S150 z150 rd_T150)
open Go.Proofs.YtdoebjnfnmfnnaaDoorW.PrintWords Go.Proofs.YtdoebjnfnmfnnaaDoorW.PrintLast Go.Proofs.YtdoebjnfnmfnnaaDoorW.PrintMore

theorem num_f (n : Int) : quilllaw6_num.f n = some n := rfl
section
variable (l : List SM) (acts : List S82) (hm : mayM l = true)
include hm
theorem set_get {name at_ : Int} (hx : oneM ⟨name, at_⟩ = true) (k : Int) :
    getM (setL nmM ⟨name, at_⟩ l) k = if k = name then (at_, 0) else getM l k := by
  have hs := ((mayM_iff l).1 hm).2
  have hm2 := set_may hm hx
  by_cases c : k = name
  · subst c
    rw [if_pos rfl, getM, if_pos hm2, find_set_same (x := ⟨k, at_⟩) hs]
  · rw [if_neg c, getM, getM, if_pos hm2, if_pos hm, find_set_other (x := ⟨name, at_⟩) c]
theorem l1_loop (i : Nat) (name at_ : Int) (hx : oneM ⟨name, at_⟩ = true) (hi : i + 1 ≤ 9223372036854775806)
    (hnext : Evt (fun k => quilllaw6_MarksSet.l0 k ((i + 1 : Nat) : Int) l acts) true) : ∀ (d : Nat) (q : Int), 123 - q = d → 97 ≤ q → q ≤ 123 →
    Evt (fun k => quilllaw6_MarksSet.l1 k i name at_ (setL nmM ⟨name, at_⟩ l) q l acts) true := by
  have hone := hx
  simp only [oneM, Bool.and_eq_true, decide_eq_true_eq] at hone
  have hinc := inc64 (i := i) (by omega)
  have HI := Aside0.mk hinc
  clear hinc
  intro d
  induction d with
  | zero =>
    intro q hd h1 h2
    have hmv := move_ev at_ hone.2.1 hone.2.2 (setL nmM ⟨name, at_⟩ l) (set_may hm hx)
    have hf := mv_find (name := name) hone.2.2 (find_set_same (x := ⟨name, at_⟩) ((mayM_iff l).1 hm).2)
    have hy := mv_may hone.2.1 (set_may hm hx)
    have hg : marks_Get.f ((setL nmM ⟨name, at_⟩ l).map (mvM at_)) name = some (at_, 0) := by
      rw [marks_Get.f, getM, if_pos hy, hf]
    obtain ⟨k0, h0⟩ := hmv
    obtain ⟨k1, h3⟩ := hnext
    dsimp only at h0 h3
    refine ⟨k0 + k1 + 1, fun k hk => ?_⟩
    obtain ⟨m, rfl⟩ : ∃ m, k = m + 1 := ⟨k - 1, by omega⟩
    have n0 := h0 m (by omega)
    have n1 := h3 m (by omega)
    show quilllaw6_MarksSet.l1 (m + 1) i name at_ (setL nmM ⟨name, at_⟩ l) q l acts = some true
    rw [quilllaw6_MarksSet.l1, if_neg (by omega)]
    show (marks_Move.f m (setL nmM ⟨name, at_⟩ l) at_ 0 xyz).bind _ = some true
    rw [n0, Option.bind_some, hg, Option.bind_some, num_f, Option.bind_some, if_pos rfl, Option.bind_some, if_pos rfl, if_pos rfl, HI.out]
    exact n1
  | succ d ih =>
    intro q hd h1 h2
    have hih := ih (q + 1) (by omega) (by omega) (by omega)
    have hw : wrap64 (q + 1) = q + 1 := w64 (by omega) (by omega)
    have HW := Aside0.mk hw
    clear hw
    have hg := set_get l hm hx q
    refine Evt.step hih (fun k => ?_)
    rw [quilllaw6_MarksSet.l1, if_pos (by omega), marks_Get.f, marks_Get.f, Option.bind_some, Option.bind_some, hg]
    by_cases c : q = name
    · rw [if_pos c, if_pos c, num_f, Option.bind_some, if_pos rfl, if_pos rfl, HW.out]
    · rw [if_neg c, if_neg c, num_f, Option.bind_some, Option.bind_some, if_pos rfl, if_pos rfl, HW.out]
theorem l0_loop (ha : ActsOk acts) : ∀ (d i : Nat), acts.length - i = d → i ≤ acts.length → Evt (fun k => quilllaw6_MarksSet.l0 k i l acts) true := by
  have hend : ∀ i : Int, Evt (fun k => quilllaw6_MarksSet.j2 k i false l acts) true := fun i => by
    obtain ⟨k0, h0⟩ := heavy4
    dsimp only at h0
    refine ⟨k0 + 1, fun k hk => ?_⟩
    obtain ⟨m, rfl⟩ : ∃ m, k = m + 1 := ⟨k - 1, by omega⟩
    show quilllaw6_MarksSet.j2 (m + 1) i false l acts = some true
    rw [quilllaw6_MarksSet.j2, if_neg (by simp), h0 m (by omega), Option.bind_some, if_neg (by simp), wakes_f, Option.bind_some]
  intro d
  induction d with
  | zero =>
    intro i hd hi
    exact Evt.step (hend i) (fun k => by rw [quilllaw6_MarksSet.l0, if_neg (by omega)])
  | succ d ih =>
    intro i hd hi
    have hlt : i < acts.length := by omega
    have hal := ha.2
    by_cases c : (i : Int) < 10
    · obtain ⟨t1, e1, b1, b2⟩ := within_f (rd_T82 acts (i : Int)).f1 26 (by omega) (by omega)
      obtain ⟨t2, e2, b3, b4⟩ := within_f (rd_T82 acts (i : Int)).f2 4000 (by omega) (by omega)
      obtain ⟨name, hn⟩ : ∃ n, 97 + t1 = n := ⟨_, rfl⟩
      have hw : wrap64 (97 + t1) = name := by rw [w64 (by omega) (by omega)]; exact hn
      have HW := Aside0.mk hw
      clear hw
      have hx : oneM ⟨name, t2⟩ = true := by
        simp only [oneM, Bool.and_eq_true, decide_eq_true_eq]
        omega
      have hset : marks_Set.f l name t2 = some (setL nmM ⟨name, t2⟩ l, 0) := by
        rw [marks_Set.f, setM, if_pos ⟨hm, hx⟩, ins_eq nmM ⟨name, t2⟩ l ((mayM_iff l).1 hm).2]
      have h1 := l1_loop l acts hm i name t2 hx (by omega) (ih (i + 1) (by omega) (by omega)) 26 97 (by omega) (by omega) (by omega)
      refine Evt.stepN 2 h1 (fun k => ?_)
      show quilllaw6_MarksSet.l0 (k + 1 + 1) i l acts = _
      rw [quilllaw6_MarksSet.l0, if_pos (by omega), decide_eq_true c, quilllaw6_MarksSet.j2, if_pos rfl, if_pos (by omega), if_pos (by omega), e1, Option.bind_some, e2, Option.bind_some, HW.out, hset, Option.bind_some, num_f, Option.bind_some, if_pos rfl]
    · refine Evt.step (hend i) (fun k => ?_)
      rw [quilllaw6_MarksSet.l0, if_pos (by omega), decide_eq_false c]
end
theorem MarksSet_pure (l : List SM) (acts : List S82) (hl : l.length ≤ 140737488355327) (ha : ActsOk acts) : ∃ k, quilllaw6_MarksSet.f k l acts = some true := by
  obtain ⟨t, ht⟩ := heavy_ev l acts ha hl
  have hj : Evt (fun k => quilllaw6_MarksSet.j0 k true l acts) true := Evt.step (Evt.const rfl) (fun k => by rw [quilllaw6_MarksSet.j0, if_pos rfl])
  refine Evt.ex (r := true) (Evt.same (Evt.bind (g := fun k t126 => if t126 = true then (quilllaw6_MarksSet.j0 k true l acts) else ((marks_Check.f k l).bind fun t127 => ((quilllaw6_num.f t127).bind fun t128 => (quilllaw6_MarksSet.j0 k (t128 != 0) l acts)))) ht ?_) (fun k => rfl))
  cases t with
  | true => exact Evt.same hj (fun k => if_pos rfl)
  | false =>
    have h4 := may_ev l (by omega)
    have hc : Evt (fun k => marks_Check.f k l) (if mayM l = true then 0 else 1) := by
      refine Evt.same (Evt.bind (g := fun _ t103 => if t103 = true then some 0 else some 1) h4 ?_) (fun k => rfl)
      cases mayM l
      · exact Evt.const rfl
      · exact Evt.const rfl
    refine Evt.same (Evt.bind (g := fun k t127 => (quilllaw6_num.f t127).bind fun t128 => quilllaw6_MarksSet.j0 k (t128 != 0) l acts) hc ?_) (fun k => if_neg (by simp))
    cases hm : mayM l with
    | false => exact Evt.same hj (fun k => rfl)
    | true =>
      refine Evt.same (g := fun k => quilllaw6_MarksSet.j0 k false l acts) ?_ (fun k => rfl)
      exact Evt.step (l0_loop l acts hm ha acts.length 0 (by omega) (by omega)) (fun k => by rw [quilllaw6_MarksSet.j0, if_neg (by simp)]; rfl)
end Go.Proofs.YtdoebjnfnmfnnaaDoor.Ms
