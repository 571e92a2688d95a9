/- MarksExact, in plain Lean. -/
import Derived.Test.YtdoebjnfnmfnnaaDoorMex6
import Derived.Test.YtdoebjnfnmfnnaaDoorMeHv
import Derived.Test.YtdoebjnfnmfnnaaDoorMeMay
set_option linter.unusedVariables false
set_option linter.unusedSimpArgs false
namespace Go.Proofs.YtdoebjnfnmfnnaaDoor.Me
open Go.RowKit Go.Proofs.YtdoebjnfnmfnnaaDoor.Q Go.Proofs.YtdoebjnfnmfnnaaDoor.F Go.Lib
open Go.Proofs.YtdoebjnfnmfnnaaDoor.Fa (S150 z150 rd_T150)
open Go.Proofs.YtdoebjnfnmfnnaaDoorW.PrintWords Go.Proofs.YtdoebjnfnmfnnaaDoorW.PrintLast Go.Proofs.YtdoebjnfnmfnnaaDoorW.PrintMore

theorem moves_ev (a d : Int) (s : ByteArray) (hs : s.size ≤ 9223372036854775807) : Evt (fun k => quillref4_Moves.f k a d s) (takesB a d s) := by
  unfold takesB near
  cases c1 : (decide (0 ≤ a) && decide (a ≤ 4000)) with
  | false => exact ⟨0, fun k _ => by dsimp only; rw [quillref4_Moves.f, numb_f, Option.bind_some, c1, if_neg (by simp)]; rfl⟩
  | true =>
    cases c2 : (decide (0 ≤ d) && decide (d ≤ 4000)) with
    | false => exact ⟨0, fun k _ => by dsimp only; rw [quillref4_Moves.f, numb_f, Option.bind_some, c1, if_pos rfl, numb_f, Option.bind_some, c2, if_neg (by simp)]; rfl⟩
    | true =>
      obtain ⟨k0, h0⟩ := refMay s hs
      dsimp only at h0
      refine ⟨k0, fun k hk => ?_⟩
      dsimp only
      rw [quillref4_Moves.f, numb_f, Option.bind_some, c1, if_pos rfl, numb_f, Option.bind_some, c2, if_pos rfl, h0 k hk, Option.bind_some]
      rfl
section
variable (ms : List SM) (acts : List S82) (i : Nat) (hi : i ≤ 9223372036854775806) (hnext : ∀ m : List SM, m.length ≤ 100000 → Evt (fun k => quilllaw6_MarksExact.l0 k m ((i + 1 : Nat) : Int) ms acts) true)
include hi hnext
theorem j4_ev (m : List SM) (hm : m.length ≤ 100000) (bad : Int) (y : List SM) (hy : y.length ≤ 100000) : Evt (fun k => quilllaw6_MarksExact.j4 k m i m bad y y bad ms acts) true := by
  have HI := Aside0.mk (inc64 (i := i) (by omega))
  obtain ⟨k0, h0⟩ := eq_ev y hy
  obtain ⟨k1, h1⟩ := eq_ev m hm
  obtain ⟨r, k2, h2⟩ := spoil_ev y hy
  obtain ⟨k3, h3⟩ := copy_ev y hy
  obtain ⟨k4, h4⟩ := hnext y hy
  obtain ⟨k5, h5⟩ := hnext m hm
  dsimp only at h0 h1 h2 h3 h4 h5
  refine ⟨k0 + k1 + k2 + k3 + k4 + k5 + 2, fun k hk => ?_⟩
  obtain ⟨q, rfl⟩ : ∃ q, k = q + 2 := ⟨k - 2, by omega⟩
  have n0 := h0 (q + 1) (by omega)
  have n1 := h1 (q + 1) (by omega)
  have n1' := h1 q (by omega)
  have n2 := h2 q (by omega)
  have n3 := h3 q (by omega)
  have n4 := h4 q (by omega)
  have n5 := h5 q (by omega)
  show quilllaw6_MarksExact.j4 (q + 1 + 1) m i m bad y y bad ms acts = some true
  rw [quilllaw6_MarksExact.j4, num_f, Option.bind_some, if_pos rfl, n0, Option.bind_some, if_pos rfl, n1, Option.bind_some, quilllaw6_MarksExact.j5, if_neg (by simp), n2, Option.bind_some, n1', Option.bind_some, if_pos rfl]
  by_cases c : bad = 0
  · rw [if_pos c, n3, Option.bind_some, HI.out]
    exact n4
  · rw [if_neg c, HI.out]
    exact n5
theorem j3_ev (m : List SM) (hm : m.length ≤ 100000) (bad at_ : Int) : Evt (fun k => quilllaw6_MarksExact.j3 k m i m bad at_ bad at_ ms acts) true := by
  have HI := Aside0.mk (inc64 (i := i) (by omega))
  obtain ⟨k1, h1⟩ := eq_ev m hm
  obtain ⟨k5, h5⟩ := hnext m hm
  dsimp only at h1 h5
  refine ⟨k1 + k5 + 1, fun k hk => ?_⟩
  obtain ⟨q, rfl⟩ : ∃ q, k = q + 1 := ⟨k - 1, by omega⟩
  show quilllaw6_MarksExact.j3 (q + 1) m i m bad at_ bad at_ ms acts = some true
  rw [quilllaw6_MarksExact.j3, num_f, Option.bind_some, if_pos rfl, if_pos rfl, h1 q (by omega), Option.bind_some, if_pos rfl, HI.out]
  exact h5 q (by omega)
theorem j2_ev (m : List SM) (hm : m.length ≤ 100000) (act x66 : Int) (b66 : Bool) (v0 name at_ a d : Int) (s : ByteArray) (hs : s.size ≤ 9223372036854775807) :
    Evt (fun k => quilllaw6_MarksExact.j2 k m i m (mayM m) 1 ([] : List SM) x66 b66 ms acts v0 name at_ a d s) true := by
  have hbad := j4_ev ms acts i hi hnext m hm 1 [] (by simp)
  have hsor : mayM m = true → Sor nmM m := fun h => ((mayM_iff m).1 h).2
  cases b66 with
  | true =>
    cases hmay : mayM m with
    | false =>
      refine Evt.step hbad (fun k => ?_)
      rw [quilllaw6_MarksExact.j2, if_pos rfl, marks_Set.f, Option.bind_some, if_neg (by simp), setM, if_neg (by simp [hmay])]
    | true =>
      have ho := oneM_eq ⟨name, at_⟩
      dsimp only at ho
      cases c1 : (decide (97 ≤ name) && decide (name ≤ 122)) with
      | false =>
        rw [c1, Bool.false_and] at ho
        refine Evt.step hbad (fun k => ?_)
        rw [quilllaw6_MarksExact.j2, if_pos rfl, marks_Set.f, Option.bind_some, if_pos rfl, between_f, c1, Option.bind_some, if_neg (by simp), setM, if_neg (by simp [ho])]
      | true =>
        cases c2 : (decide (0 ≤ at_) && decide (at_ ≤ 4000)) with
        | false =>
          rw [c2, Bool.and_false] at ho
          refine Evt.step hbad (fun k => ?_)
          rw [quilllaw6_MarksExact.j2, if_pos rfl, marks_Set.f, Option.bind_some, if_pos rfl, between_f, c1, Option.bind_some, if_pos rfl, numb_f, c2, Option.bind_some, if_neg (by simp), setM, if_neg (by simp [ho])]
        | true =>
          rw [c1, c2] at ho
          have hset : marks_Set.f m name at_ = some (setL nmM ⟨name, at_⟩ m, 0) := by
            rw [marks_Set.f, setM, if_pos ⟨hmay, ho⟩, ins_eq nmM ⟨name, at_⟩ m (hsor hmay)]
          have hlen : (setL nmM ⟨name, at_⟩ m).length ≤ 100000 := by
            have := mayM_len (set_may hmay ho)
            omega
          obtain ⟨k0, h0⟩ := j4_ev ms acts i hi hnext m hm 0 (setL nmM ⟨name, at_⟩ m) hlen
          obtain ⟨k1, h1⟩ := set_ev m hm (hsor hmay) name at_
          dsimp only at h0 h1
          refine ⟨k0 + k1 + 1, fun k hk => ?_⟩
          obtain ⟨q, rfl⟩ : ∃ q, k = q + 1 := ⟨k - 1, by omega⟩
          show quilllaw6_MarksExact.j2 (q + 1) m i m true 1 ([] : List SM) x66 true ms acts v0 name at_ a d s = some true
          rw [quilllaw6_MarksExact.j2, if_pos rfl, hset, Option.bind_some, if_pos rfl, between_f, c1, Option.bind_some, if_pos rfl, numb_f, c2, Option.bind_some, if_pos rfl, h1 q (by omega), Option.bind_some]
          exact h0 q (by omega)
  | false =>
    by_cases e2 : x66 = 2
    · cases hmay : mayM m with
      | false =>
        refine Evt.step (j3_ev ms acts i hi hnext m hm 1 0) (fun k => ?_)
        rw [quilllaw6_MarksExact.j2, if_neg (by simp), if_pos e2, marks_Get.f, Option.bind_some, if_neg (by simp), getM, if_neg (by simp [hmay])]
      | true =>
        have hg := get_ev m hm name
        cases hf : m.find? (fun q => decide (q.f0 = name)) with
        | none =>
          rw [hf] at hg
          obtain ⟨k1, h1⟩ := hg
          obtain ⟨k0, h0⟩ := j3_ev ms acts i hi hnext m hm 3 0
          dsimp only at h0 h1
          refine ⟨k0 + k1 + 1, fun k hk => ?_⟩
          obtain ⟨q, rfl⟩ : ∃ q, k = q + 1 := ⟨k - 1, by omega⟩
          show quilllaw6_MarksExact.j2 (q + 1) m i m true 1 ([] : List SM) x66 false ms acts v0 name at_ a d s = some true
          rw [quilllaw6_MarksExact.j2, if_neg (by simp), if_pos e2, marks_Get.f, Option.bind_some, if_pos rfl, h1 q (by omega), Option.bind_some, if_neg (by omega), getM, if_pos hmay, hf]
          exact h0 q (by omega)
        | some y =>
          rw [hf] at hg
          have hy : 0 ≤ y.f1 := by
            have := ((mayM_iff m).1 hmay).1 y (List.mem_of_find?_eq_some hf)
            simp only [oneM, Bool.and_eq_true, decide_eq_true_eq] at this
            exact this.2.1
          obtain ⟨k1, h1⟩ := hg
          obtain ⟨k0, h0⟩ := j3_ev ms acts i hi hnext m hm 0 y.f1
          dsimp only at h0 h1
          refine ⟨k0 + k1 + 1, fun k hk => ?_⟩
          obtain ⟨q, rfl⟩ : ∃ q, k = q + 1 := ⟨k - 1, by omega⟩
          show quilllaw6_MarksExact.j2 (q + 1) m i m true 1 ([] : List SM) x66 false ms acts v0 name at_ a d s = some true
          rw [quilllaw6_MarksExact.j2, if_neg (by simp), if_pos e2, marks_Get.f, Option.bind_some, if_pos rfl, h1 q (by omega), Option.bind_some, if_pos hy, Option.bind_some, getM, if_pos hmay, hf]
          exact h0 q (by omega)
    · have hme := may_ev m (by omega)
      cases hmay : mayM m with
      | false =>
        rw [hmay] at hme
        obtain ⟨k1, h1⟩ := hme
        obtain ⟨k0, h0⟩ := hbad
        dsimp only at h0 h1
        refine ⟨k0 + k1 + 1, fun k hk => ?_⟩
        obtain ⟨q, rfl⟩ : ∃ q, k = q + 1 := ⟨k - 1, by omega⟩
        show quilllaw6_MarksExact.j2 (q + 1) m i m false 1 ([] : List SM) x66 false ms acts v0 name at_ a d s = some true
        have hmv : marks_Move.f q m a d s = some ([], 1) := by rw [marks_Move.f, h1 q (by omega), Option.bind_some, if_neg (by simp)]
        rw [quilllaw6_MarksExact.j2, if_neg (by simp), if_neg e2, hmv, Option.bind_some, if_neg (by simp)]
        exact h0 q (by omega)
      | true =>
        rw [hmay] at hme
        obtain ⟨k1, h1⟩ := hme
        obtain ⟨k2, h2⟩ := moves_ev a d s hs
        dsimp only at h1 h2
        cases ht : takesB a d s with
        | false =>
          obtain ⟨k0, h0⟩ := hbad
          dsimp only at h0
          refine ⟨k0 + k1 + k2 + 1, fun k hk => ?_⟩
          obtain ⟨q, rfl⟩ : ∃ q, k = q + 1 := ⟨k - 1, by omega⟩
          have n2 := h2 q (by omega)
          rw [ht] at n2
          show quilllaw6_MarksExact.j2 (q + 1) m i m true 1 ([] : List SM) x66 false ms acts v0 name at_ a d s = some true
          have hmv : marks_Move.f q m a d s = some ([], 1) := by rw [marks_Move.f, h1 q (by omega), Option.bind_some, if_pos rfl, patch_Takes.f, ht, Option.bind_some, if_neg (by simp)]
          rw [quilllaw6_MarksExact.j2, if_neg (by simp), if_neg e2, hmv, Option.bind_some, if_pos rfl, n2, Option.bind_some, if_neg (by simp)]
          exact h0 q (by omega)
        | true =>
          have ht2 := ht
          simp only [takesB, near, Bool.and_eq_true, decide_eq_true_eq] at ht2
          obtain ⟨⟨a1, a2⟩, ⟨d1, d2⟩, hsm⟩ := ht2
          have hs4 := mayB_size hsm
          have hone := ((mayM_iff m).1 hmay).1
          obtain ⟨k3, h3⟩ := movL_ev a d s _ ⟨a1, a2⟩ ⟨d1, d2⟩ hs4 rfl m hm hone
          obtain ⟨k4, h4⟩ := movR_ev a d s _ ⟨a1, a2⟩ ⟨d1, d2⟩ hs4 rfl m hm hone
          obtain ⟨y, hy⟩ : ∃ y, mvL a d ((runes s.data.toList).length : Int) m = y := ⟨_, rfl⟩
          have hyl : y.length ≤ 100000 := by
            have := mvL_len a d ((runes s.data.toList).length : Int) m
            rw [hy] at this
            omega
          rw [hy] at h3 h4
          obtain ⟨k0, h0⟩ := j4_ev ms acts i hi hnext m hm 0 y hyl
          dsimp only at h0 h3 h4
          refine ⟨k0 + k1 + k2 + k3 + k4 + 1, fun k hk => ?_⟩
          obtain ⟨q, rfl⟩ : ∃ q, k = q + 1 := ⟨k - 1, by omega⟩
          have n2 := h2 q (by omega)
          rw [ht] at n2
          show quilllaw6_MarksExact.j2 (q + 1) m i m true 1 ([] : List SM) x66 false ms acts v0 name at_ a d s = some true
          have hmv : marks_Move.f q m a d s = some (y, 0) := by rw [marks_Move.f, h1 q (by omega), Option.bind_some, if_pos rfl, patch_Takes.f, ht, Option.bind_some, if_pos rfl, h3 q (by omega), Option.bind_some]
          rw [quilllaw6_MarksExact.j2, if_neg (by simp), if_neg e2, hmv, Option.bind_some, if_pos rfl, n2, Option.bind_some, if_pos rfl, h4 q (by omega), Option.bind_some]
          exact h0 q (by omega)
end
theorem l0_ev (ms : List SM) (acts : List S82) (ha : ActsOk acts) : ∀ (d i : Nat), acts.length - i = d → i ≤ acts.length → ∀ m : List SM, m.length ≤ 100000 → Evt (fun k => quilllaw6_MarksExact.l0 k m i ms acts) true := by
  have hend : ∀ (m : List SM) (i : Int), Evt (fun k => quilllaw6_MarksExact.j1 k m i false ms acts) true := fun m i =>
    Evt.step (Evt.const rfl) (fun k => by rw [quilllaw6_MarksExact.j1, if_neg (by simp), wakes_f, Option.bind_some])
  have hal := ha.2
  intro d
  induction d with
  | zero =>
    intro i hd hi m hm
    exact Evt.step (hend m i) (fun k => by rw [quilllaw6_MarksExact.l0, if_neg (by omega)])
  | succ d ih =>
    intro i hd hi m hm
    have hlt : i < acts.length := by omega
    by_cases c : (i : Int) < 10
    · have hnext := ih (i + 1) (by omega) (by omega)
      have hr : rd_T82 acts (i : Int) = acts[i] := by
        unfold rd_T82
        rw [Int.toNat_natCast, List.getD_eq_getElem?_getD, List.getElem?_eq_getElem hlt, Option.getD_some]
      have hz := ha.1 acts[i] (List.getElem_mem hlt)
      obtain ⟨A, hA⟩ : ∃ A, acts[i] = A := ⟨_, rfl⟩
      rw [hA] at hz hr
      obtain ⟨t1, e1, b1, b2⟩ := within_f A.f0 5 (by omega) (by omega)
      obtain ⟨k0, h0⟩ := copy_ev m hm
      obtain ⟨k1, h1⟩ := ref_ev m hm
      obtain ⟨k2, h2⟩ := may_ev m (by omega)
      obtain ⟨k3, h3⟩ := j2_ev ms acts i (by omega) hnext m hm t1 t1 (t1 == 0) A.f0 A.f1 A.f2 A.f3.f0 A.f3.f1 A.f3.f2 (by omega)
      obtain ⟨k4, h4⟩ := j2_ev ms acts i (by omega) hnext m hm t1 t1 (t1 == 1) A.f0 A.f1 A.f2 A.f3.f0 A.f3.f1 A.f3.f2 (by omega)
      dsimp only at h0 h1 h2 h3 h4
      refine ⟨k0 + k1 + k2 + k3 + k4 + 2, fun k hk => ?_⟩
      obtain ⟨q, rfl⟩ : ∃ q, k = q + 2 := ⟨k - 2, by omega⟩
      have hck : marks_Check.f q m = some (if mayM m = true then 0 else 1) := by
        rw [marks_Check.f, h2 q (by omega), Option.bind_some]
        cases mayM m <;> rfl
      show quilllaw6_MarksExact.l0 (q + 1 + 1) m i ms acts = some true
      rw [quilllaw6_MarksExact.l0, if_pos (by omega), decide_eq_true c, quilllaw6_MarksExact.j1, if_pos rfl, if_pos (by omega), if_pos (by omega), h0 q (by omega), Option.bind_some, h1 q (by omega), Option.bind_some, hck, Option.bind_some, num_f, Option.bind_some, if_neg (by cases mayM m <;> simp), hr, e1, Option.bind_some]
      by_cases e : t1 = 0
      · rw [if_pos e]; exact h3 q (by omega)
      · rw [if_neg e]; exact h4 q (by omega)
    · refine Evt.step (hend m i) (fun k => ?_)
      rw [quilllaw6_MarksExact.l0, if_pos (by omega), decide_eq_false c]
theorem MarksExact_pure (l : List SM) (acts : List S82) (hl : l.length ≤ 140737488355327) (ha : ActsOk acts) : ∃ k, quilllaw6_MarksExact.f k l acts = some true := by
  obtain ⟨t, ht, hb⟩ := heavy_ev l acts ha hl
  refine Evt.ex (r := true) (Evt.same (Evt.bind (g := fun k t176 => if t176 = true then (some true) else ((quillref0_CopyMarks.f k l).bind fun t177 => (quilllaw6_MarksExact.l0 k t177 0 l acts))) ht ?_) (fun k => rfl))
  cases t with
  | true => exact Evt.same (Evt.const rfl) (fun k => if_pos rfl)
  | false =>
    have hl4 := hb rfl
    refine Evt.same (Evt.bind (g := fun k t177 => quilllaw6_MarksExact.l0 k t177 0 l acts) (copy_ev l (by omega)) ?_) (fun k => if_neg (by simp))
    exact l0_ev l acts ha acts.length 0 (by omega) (by omega) l (by omega)
end Go.Proofs.YtdoebjnfnmfnnaaDoor.Me
