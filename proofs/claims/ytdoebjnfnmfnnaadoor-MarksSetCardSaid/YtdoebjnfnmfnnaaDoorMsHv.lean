/- Marks: weights, steps of the page's acts, in plain Lean. -/
import Derived.Test.YtdoebjnfnmfnnaaDoorMsx1
import Derived.Test.YtdoebjnfnmfnnaaDoorMkT
set_option linter.unusedVariables false
set_option linter.unusedSimpArgs false
namespace Go.Proofs.YtdoebjnfnmfnnaaDoor.Ms
open Go.RowKit Go.Proofs.YtdoebjnfnmfnnaaDoor.Q Go.Proofs.YtdoebjnfnmfnnaaDoor.F Go.Lib
open Go.Proofs.YtdoebjnfnmfnnaaDoor.Fa (S150 z150 rd_T150)
open Go.Proofs.YtdoebjnfnmfnnaaDoorW.PrintWords Go.Proofs.YtdoebjnfnmfnnaaDoorW.PrintLast Go.Proofs.YtdoebjnfnmfnnaaDoorW.PrintMore

theorem within_f (a m : Int) (h0 : 1 ≤ m) (h1 : m ≤ 1000000) : ∃ t, quilllaw0_Within.f a m = some t ∧ 0 ≤ t ∧ t < m := by
  have hm : IntKind.u64.wrap m = m := by
    have : IntKind.u64.wrap m = m % 18446744073709551616 := rfl
    rw [this]; omega
  obtain ⟨b, hb⟩ : ∃ b, IntKind.u64.wrap a = b := ⟨_, rfl⟩
  have hb0 : 0 ≤ b := by
    have : IntKind.u64.wrap a = a % 18446744073709551616 := rfl
    rw [this] at hb; omega
  have e1 : Int.tmod b m = b % m := Int.tmod_eq_emod_of_nonneg hb0
  have e2 := Int.emod_nonneg b (show m ≠ 0 by omega)
  have e3 := Int.emod_lt_of_pos b (show 0 < m by omega)
  refine ⟨b % m, ?_, e2, e3⟩
  rw [quilllaw0_Within.f, hm, hb, if_neg (by omega), e1, w64 (by omega) (by omega)]
def ActsOk (l : List S82) : Prop := (∀ x ∈ l, x.f3.f2.size ≤ 140737488355327) ∧ l.length ≤ 140737488355327
theorem heavy_loop (ms : List SM) (l : List S82) (hl : ActsOk l) : ∀ (d i : Nat) (acc : Int), l.length - i = d → i ≤ l.length → 0 ≤ acc → acc ≤ 140737489403904 →
    ∃ t, Evt (fun k => quilllaw6_Heavy.l0 k acc i ms l) t := by
  intro d
  induction d with
  | zero =>
    intro i acc hd hi h0 h1
    exact ⟨_, Evt.step (Evt.const rfl) (fun k => by rw [quilllaw6_Heavy.l0, if_neg (by omega)])⟩
  | succ d ih =>
    intro i acc hd hi h0 h1
    have hlt : i < l.length := by omega
    by_cases c : acc < 1048576
    · have hr : rd_T82 l (i : Int) = l[i] := by
        unfold rd_T82
        rw [Int.toNat_natCast, List.getD_eq_getElem?_getD, List.getElem?_eq_getElem hlt, Option.getD_some]
      have hz := hl.1 l[i] (List.getElem_mem hlt)
      have hll := hl.2
      obtain ⟨t, ht⟩ := ih (i + 1) (acc + 1 + (l[i].f3.f2.size : Int)) (by omega) (by omega) (by omega) (by omega)
      refine ⟨t, Evt.step ht (fun k => ?_)⟩
      rw [quilllaw6_Heavy.l0, if_pos (by omega), if_pos c, if_pos (by omega), hr, w64 (n := acc + 1) (by omega) (by omega), w64 (by omega) (by omega), inc64 (by omega)]
    · exact ⟨_, Evt.step (Evt.const rfl) (fun k => by rw [quilllaw6_Heavy.l0, if_pos (by omega), if_neg c])⟩
theorem heavy_ev (ms : List SM) (l : List S82) (hl : ActsOk l) (hm : ms.length ≤ 140737488355327) : ∃ t, Evt (fun k => quilllaw6_Heavy.f k ms l) t := by
  obtain ⟨t, ht⟩ := heavy_loop ms l hl l.length 0 ms.length (by omega) (by omega) (by omega) (by omega)
  exact ⟨t, Evt.same ht (fun k => rfl)⟩
theorem heavy4 : Evt (fun k => quilllaw4_Heavy.f k ([] : List ByteArray) 0 0 0 0 ([] : List S80) 0) false :=
  ⟨3, fun k hk => by
    obtain ⟨m, rfl⟩ : ∃ m, k = m + 2 := ⟨k - 2, by omega⟩
    rfl⟩
theorem wakes_f : quilllaw6_wakes.f = some true := by decide +kernel

/-! A patch of three runes at an offset. -/
def xyz : ByteArray := ⟨#[120, 121, 122]⟩
theorem xyz_len : utf8_RuneCountInString.f xyz = some 3 := by decide +kernel
theorem xyz_may : mayB xyz = true := by decide +kernel
def mvA (at_ a : Int) : Int := mn (if a ≤ at_ then a else a + 3) 4000
def mvM (at_ : Int) (m : SM) : SM := ⟨m.f0, mvA at_ m.f1⟩
theorem moved_f (at_ a : Int) (h0 : 0 ≤ at_) (h1 : at_ ≤ 4000) (h2 : 0 ≤ a) (h3 : a ≤ 4000) : Fa.patch_Moved.f at_ 0 xyz a = some (if a ≤ at_ then a else a + 3) := by
  unfold Fa.patch_Moved.f
  by_cases c : a ≤ at_
  · rw [if_pos c, if_pos c]
  · rw [if_neg c, if_neg c, w64 (n := at_ + 0) (by omega) (by omega), if_neg (by omega), xyz_len, Option.bind_some, w64 (n := a + 3) (by omega) (by omega), w64 (by omega) (by omega)]
    congr 1; omega
theorem moved_loop (at_ : Int) (h0 : 0 ≤ at_) (h1 : at_ ≤ 4000) (l : List SM) (hl : l.length ≤ 1000) (ho : ∀ m ∈ l, oneM m = true) : ∀ (d i : Nat) (acc : List SM), l.length - i = d → i ≤ l.length → acc.length = i →
    Evt (fun k => Fa.marks_Moved.l0 k acc l (l.length : Int) i at_ 0 xyz) (acc ++ (l.drop i).map (mvM at_)) := by
  intro d
  induction d with
  | zero =>
    intro i acc hd hi ha
    rw [List.drop_eq_nil_of_le (by omega), List.map_nil, List.append_nil]
    exact Evt.step (Evt.const rfl) (fun k => by rw [Fa.marks_Moved.l0, if_neg (by omega)])
  | succ d ih =>
    intro i acc hd hi ha
    have hlt : i < l.length := by omega
    have hr : rd_T150 l (i : Int) = l[i] := by
      unfold rd_T150
      rw [Int.toNat_natCast, List.getD_eq_getElem?_getD, List.getElem?_eq_getElem hlt, Option.getD_some]
    have hone := ho l[i] (List.getElem_mem hlt)
    simp only [oneM, Bool.and_eq_true, decide_eq_true_eq] at hone
    have e0 : l.drop i = l[i] :: l.drop (i + 1) := List.drop_eq_getElem_cons hlt
    have hih := ih (i + 1) (acc ++ [mvM at_ l[i]]) (by omega) (by omega) (by simp [ha])
    rw [List.append_assoc] at hih
    rw [e0, List.map_cons]
    refine Evt.step hih (fun k => ?_)
    have hm := moved_f at_ l[i].f1 h0 h1 hone.2.1 hone.2.2
    rw [Fa.marks_Moved.l0, if_pos (by omega), if_pos (by omega), if_pos (by omega), hr, w64 (n := at_ + 0) (by omega) (by omega), inc64 (by omega)]
    by_cases c : l[i].f1 > at_
    · rw [if_pos c, if_neg (by omega), hm, Option.bind_some, if_pos (by omega)]
      rfl
    · rw [if_neg c, hm, Option.bind_some, if_pos (by omega)]
      rfl
theorem mv_may {at_ : Int} (h0 : 0 ≤ at_) {l : List SM} (h : mayM l = true) : mayM (l.map (mvM at_)) = true := by
  obtain ⟨h1, h2⟩ := (mayM_iff l).1 h
  refine (mayM_iff _).2 ⟨fun m hm => ?_, ?_⟩
  · obtain ⟨q, hq, rfl⟩ := List.mem_map.1 hm
    have := h1 q hq
    simp only [oneM, Bool.and_eq_true, decide_eq_true_eq] at this
    have hv : 0 ≤ mvA at_ q.f1 ∧ mvA at_ q.f1 ≤ 4000 := by
      unfold mvA mn
      split <;> split <;> omega
    show oneM ⟨q.f0, mvA at_ q.f1⟩ = true
    simp only [oneM, Bool.and_eq_true, decide_eq_true_eq]
    exact ⟨this.1, hv⟩
  · unfold Sor
    rw [List.pairwise_map]
    exact h2
theorem mv_find {at_ name : Int} (h1 : at_ ≤ 4000) {l : List SM} (h : l.find? (fun m => decide (m.f0 = name)) = some ⟨name, at_⟩) : (l.map (mvM at_)).find? (fun m => decide (m.f0 = name)) = some ⟨name, at_⟩ := by
  rw [List.find?_map]
  rw [show ((fun m : SM => decide (m.f0 = name)) ∘ mvM at_) = fun m => decide (m.f0 = name) from rfl, h]
  simp only [Option.map_some, mvM, mvA, if_pos (Int.le_refl at_), mn]
  rw [if_neg (by omega)]
theorem move_ev (at_ : Int) (h0 : 0 ≤ at_) (h1 : at_ ≤ 4000) (l : List SM) (h : mayM l = true) : Evt (fun k => marks_Move.f k l at_ 0 xyz) (l.map (mvM at_), 0) := by
  have hlen := mayM_len h
  have ht : patch_Takes.f at_ 0 xyz = some true := by
    unfold patch_Takes.f takesB near
    rw [xyz_may]
    simp [h0, h1]
  have h2 := moved_loop at_ h0 h1 l (by omega) ((mayM_iff l).1 h).1 l.length 0 [] (by omega) (by omega) rfl
  rw [List.nil_append, List.drop_zero] at h2
  have h3 : Evt (fun k => Fa.marks_Moved.f k l at_ 0 xyz) (l.map (mvM at_)) := Evt.same h2 (fun k => rfl)
  have h4 := may_ev l (by omega)
  rw [h] at h4
  refine Evt.same (Evt.bind (g := fun k t105 => if t105 = true then ((patch_Takes.f at_ 0 xyz).bind fun t106 => (if t106 = true then ((Fa.marks_Moved.f k l at_ 0 xyz).bind fun t107 => (some (t107, 0))) else (some (([] : List SM), 1)))) else (some (([] : List SM), 1))) h4 ?_) (fun k => rfl)
  refine Evt.same (Evt.bind (g := fun _ t107 => some (t107, (0 : Int))) h3 (Evt.const rfl)) (fun k => ?_)
  rw [if_pos rfl, ht, Option.bind_some, if_pos rfl]
end Go.Proofs.YtdoebjnfnmfnnaaDoor.Ms
