/- Marks: the page's own answers, in plain Lean. -/
import Derived.Test.YtdoebjnfnmfnnaaDoorMex5
import Derived.Test.YtdoebjnfnmfnnaaDoorMkT
set_option linter.unusedVariables false
set_option linter.unusedSimpArgs false
namespace Go.Proofs.YtdoebjnfnmfnnaaDoor.Me
open Go.RowKit Go.Proofs.YtdoebjnfnmfnnaaDoor.Q Go.Proofs.YtdoebjnfnmfnnaaDoor.F Go.Lib
open Go.Proofs.YtdoebjnfnmfnnaaDoor.Fa (S150 z150 rd_T150)
open Go.Proofs.YtdoebjnfnmfnnaaDoorW.PrintWords Go.Proofs.YtdoebjnfnmfnnaaDoorW.PrintLast Go.Proofs.YtdoebjnfnmfnnaaDoorW.PrintMore

theorem within_f (a m : Int) (h0 : 1 ≤ m) (h1 : m ≤ 1000000) : ∃ t, quilllaw0_Within.f a m = some t ∧ 0 ≤ t ∧ t < m := by
  have hm : IntKind.u64.wrap m = m := by
    have : IntKind.u64.wrap m = m % 18446744073709551616 := rfl
    rw [this]; omega
  obtain ⟨b, hb⟩ : ∃ b, IntKind.u64.wrap a = b := ⟨_, rfl⟩
  have hb0 : 0 ≤ b := by
    have : IntKind.u64.wrap a = a % 18446744073709551616 := rfl
    rw [this] at hb; omega
  have e1 : Int.tmod b m = b % m := Int.tmod_eq_emod_of_nonneg hb0
  have e2 := Int.emod_nonneg b (show m ≠ 0 by omega)
  have e3 := Int.emod_lt_of_pos b (show 0 < m by omega)
  refine ⟨b % m, ?_, e2, e3⟩
  rw [quilllaw0_Within.f, hm, hb, if_neg (by omega), e1, w64 (by omega) (by omega)]
def ActsOk (l : List S82) : Prop := (∀ x ∈ l, x.f3.f2.size ≤ 140737488355327) ∧ l.length ≤ 140737488355327
theorem heavy_loop (ms : List SM) (l : List S82) (hl : ActsOk l) : ∀ (d i : Nat) (acc : Int), l.length - i = d → i ≤ l.length → 0 ≤ acc → acc ≤ 140737489403904 →
    ∃ t, Evt (fun k => quilllaw6_Heavy.l0 k acc i ms l) t ∧ (t = false → acc ≤ 4000) := by
  intro d
  induction d with
  | zero =>
    intro i acc hd hi h0 h1
    exact ⟨_, Evt.step (Evt.const rfl) (fun k => by rw [quilllaw6_Heavy.l0, if_neg (by omega)]), fun h => by simpa using h⟩
  | succ d ih =>
    intro i acc hd hi h0 h1
    have hlt : i < l.length := by omega
    by_cases c : acc < 1048576
    · have hr : rd_T82 l (i : Int) = l[i] := by
        unfold rd_T82
        rw [Int.toNat_natCast, List.getD_eq_getElem?_getD, List.getElem?_eq_getElem hlt, Option.getD_some]
      have hz := hl.1 l[i] (List.getElem_mem hlt)
      have hll := hl.2
      obtain ⟨t, ht, hb⟩ := ih (i + 1) (acc + 1 + (l[i].f3.f2.size : Int)) (by omega) (by omega) (by omega) (by omega)
      refine ⟨t, Evt.step ht (fun k => ?_), fun h => by have := hb h; omega⟩
      rw [quilllaw6_Heavy.l0, if_pos (by omega), if_pos c, if_pos (by omega), hr, w64 (n := acc + 1) (by omega) (by omega), w64 (by omega) (by omega), inc64 (by omega)]
    · exact ⟨_, Evt.step (Evt.const rfl) (fun k => by rw [quilllaw6_Heavy.l0, if_pos (by omega), if_neg c]), fun h => by simpa using h⟩
theorem heavy_ev (ms : List SM) (l : List S82) (hl : ActsOk l) (hm : ms.length ≤ 140737488355327) : ∃ t, Evt (fun k => quilllaw6_Heavy.f k ms l) t ∧ (t = false → ms.length ≤ 4000) := by
  obtain ⟨t, ht, hb⟩ := heavy_loop ms l hl l.length 0 ms.length (by omega) (by omega) (by omega) (by omega)
  exact ⟨t, Evt.same ht (fun k => rfl), fun h => by have := hb h; omega⟩
theorem wakes_f : quilllaw6_wakes.f = some true := by decide +kernel
theorem num_f (n : Int) : quilllaw6_num.f n = some n := rfl
theorem rdT {l : List SM} {i : Nat} (h : i < l.length) : rd_T150 l (i : Int) = l[i] := by
  unfold Fa.rd_T150
  rw [Int.toNat_natCast, List.getD_eq_getElem?_getD, List.getElem?_eq_getElem h, Option.getD_some]

theorem copy_loop (l : List SM) (hl : l.length ≤ 100000) : ∀ (d i : Nat) (acc : List SM), l.length - i = d → i ≤ l.length → acc.length = i →
    Evt (fun k => quillref0_CopyMarks.l0 k l acc i) (acc ++ l.drop i) := by
  intro d
  induction d with
  | zero =>
    intro i acc hd hi ha
    rw [List.drop_eq_nil_of_le (by omega), List.append_nil]
    exact Evt.step (Evt.const rfl) (fun k => by rw [quillref0_CopyMarks.l0, if_neg (by omega)])
  | succ d ih =>
    intro i acc hd hi ha
    have hlt : i < l.length := by omega
    have hih := ih (i + 1) (acc ++ [l[i]]) (by omega) (by omega) (by simp [ha])
    rw [List.append_assoc] at hih
    rw [List.drop_eq_getElem_cons hlt]
    refine Evt.step hih (fun k => ?_)
    rw [quillref0_CopyMarks.l0, if_pos (by omega), if_pos (by omega), if_pos (by omega), rdT hlt, inc64 (by omega)]
theorem copy_ev (l : List SM) (hl : l.length ≤ 100000) : Evt (fun k => quillref0_CopyMarks.f k l) l := by
  have := copy_loop l hl l.length 0 [] (by omega) (by omega) rfl
  rw [List.nil_append, List.drop_zero] at this
  exact Evt.same this (fun k => rfl)
theorem eq_loop (l : List SM) (hl : l.length ≤ 100000) : ∀ (d i : Nat), l.length - i = d → i ≤ l.length → Evt (fun k => quillref0_EqMarks.l0 k l l i) true := by
  intro d
  induction d with
  | zero =>
    intro i hd hi
    exact Evt.step (Evt.const rfl) (fun k => by rw [quillref0_EqMarks.l0, if_neg (by omega)])
  | succ d ih =>
    intro i hd hi
    refine Evt.step (ih (i + 1) (by omega) (by omega)) (fun k => ?_)
    rw [quillref0_EqMarks.l0, if_pos (by omega), if_pos (by omega), if_pos (by omega), if_neg (by simp), inc64 (by omega)]
theorem eq_ev (l : List SM) (hl : l.length ≤ 100000) : Evt (fun k => quillref0_EqMarks.f k l l) true :=
  Evt.same (eq_loop l hl l.length 0 (by omega) (by omega)) (fun k => by rw [quillref0_EqMarks.f, if_pos rfl]; rfl)
theorem spoil_loop : ∀ (d : Nat) (l : List SM) (i : Nat), l.length ≤ 100000 → l.length - i = d → i ≤ l.length → ∃ r, Evt (fun k => quilllaw6_spoil.l0 k l i) r := by
  intro d
  induction d with
  | zero =>
    intro l i hl hd hi
    exact ⟨l, Evt.step (Evt.const rfl) (fun k => by rw [quilllaw6_spoil.l0, if_neg (by omega)])⟩
  | succ d ih =>
    intro l i hl hd hi
    obtain ⟨r, hr⟩ := ih (l.set ((i : Int).toNat) ⟨-9, 0⟩) (i + 1) (by simpa using hl) (by simp; omega) (by simp; omega)
    refine ⟨r, Evt.step hr (fun k => ?_)⟩
    rw [quilllaw6_spoil.l0, if_pos (by omega), if_pos (by omega), inc64 (by omega)]
theorem spoil_ev (l : List SM) (hl : l.length ≤ 100000) : ∃ r, Evt (fun k => quilllaw6_spoil.f k l) r := by
  obtain ⟨r, hr⟩ := spoil_loop l.length l 0 hl (by omega) (by omega)
  exact ⟨r, Evt.same hr (fun k => rfl)⟩
theorem between_f (a b c : Int) : quillref0_Between.f a b c = some (decide (b ≤ a) && decide (a ≤ c)) := by
  unfold quillref0_Between.f
  by_cases h : b ≤ a
  · rw [if_pos h]; simp [h]
  · rw [if_neg h]; simp [h]
theorem numb_f (a c : Int) : quillref0_Num.f a c = some (decide (0 ≤ a) && decide (a ≤ c)) := by
  unfold quillref0_Num.f
  by_cases h : 0 ≤ a
  · rw [if_pos h]; simp [h]
  · rw [if_neg h]; simp [h]
theorem oneM_eq (m : SM) : oneM m = ((decide (97 ≤ m.f0) && decide (m.f0 ≤ 122)) && (decide (0 ≤ m.f1) && decide (m.f1 ≤ 4000))) := rfl
theorem ref_loop (l : List SM) (hl : l.length ≤ 100000) : ∀ (d i : Nat) (p : Int), l.length - i = d → i ≤ l.length → 0 < i → (rdM l (i - 1)).f0 = p →
    Evt (fun k => quillref6_Marks.l0 k l i) (chB p (l.drop i)) := by
  intro d
  induction d with
  | zero =>
    intro i p hd hi h0 hp
    rw [List.drop_eq_nil_of_le (by omega)]
    exact Evt.step (Evt.const rfl) (fun k => by rw [quillref6_Marks.l0, if_neg (by omega)]; rfl)
  | succ d ih =>
    intro i p hd hi h0 hp
    have hlt : i < l.length := by omega
    have hr2 : rd_T150 l ((i - 1 : Nat) : Int) = rdM l (i - 1) := by
      unfold Fa.rd_T150 rdM
      rw [Int.toNat_natCast]
      rfl
    have hw : wrap64 ((i : Int) - 1) = ((i - 1 : Nat) : Int) := by rw [w64 (by omega) (by omega)]; omega
    have e0 : l.drop i = l[i] :: l.drop (i + 1) := List.drop_eq_getElem_cons hlt
    have p1 : (i : Int) < (l.length : Int) := by omega
    have p2 : (0 : Int) ≤ (i : Int) := by omega
    have p3 : (i : Int) > 0 := by omega
    have p4 : (0 : Int) ≤ ((i - 1 : Nat) : Int) := by omega
    have p5 : ((i - 1 : Nat) : Int) < (l.length : Int) := by omega
    have ho := oneM_eq l[i]
    rw [e0, chB, ho]
    cases c1 : (decide (97 ≤ l[i].f0) && decide (l[i].f0 ≤ 122)) with
    | false =>
      exact Evt.step (Evt.const rfl) (fun k => by rw [quillref6_Marks.l0, if_pos p1, if_pos p2, rdT hlt, between_f, Option.bind_some, c1, if_neg (by simp)]; rfl)
    | true =>
      cases c2 : (decide (0 ≤ l[i].f1) && decide (l[i].f1 ≤ 4000)) with
      | false =>
        exact Evt.step (Evt.const rfl) (fun k => by rw [quillref6_Marks.l0, if_pos p1, if_pos p2, rdT hlt, between_f, Option.bind_some, c1, if_pos rfl, numb_f, Option.bind_some, c2, if_neg (by simp)]; rfl)
      | true =>
        by_cases d2 : p < l[i].f0
        · rw [decide_eq_true d2]
          refine Evt.step (ih (i + 1) l[i].f0 (by omega) (by omega) (by omega) (by rw [Nat.add_sub_cancel, rdM_get hlt])) (fun k => ?_)
          rw [quillref6_Marks.l0, if_pos p1, if_pos p2, rdT hlt, between_f, Option.bind_some, c1, if_pos rfl, numb_f, Option.bind_some, c2, if_pos rfl, if_pos p3, hw, if_pos p4, if_pos p5, hr2, hp, if_neg (by omega), inc64 (by omega)]
        · rw [decide_eq_false d2]
          exact Evt.step (Evt.const rfl) (fun k => by rw [quillref6_Marks.l0, if_pos p1, if_pos p2, rdT hlt, between_f, Option.bind_some, c1, if_pos rfl, numb_f, Option.bind_some, c2, if_pos rfl, if_pos p3, hw, if_pos p4, if_pos p5, hr2, hp, if_pos (by omega)]; rfl)
theorem ref_ev (l : List SM) (hl : l.length ≤ 100000) : Evt (fun k => quillref6_Marks.f k l) (mayM l) := by
  refine Evt.same (g := fun k => quillref6_Marks.l0 k l 0) ?_ (fun k => rfl)
  cases l with
  | nil => exact Evt.step (Evt.const rfl) (fun k => by rw [quillref6_Marks.l0, if_neg (by simp)]; rfl)
  | cons m r =>
    have hr : rd_T150 (m :: r) 0 = m := rfl
    have p1 : (0 : Int) < ((m :: r).length : Int) := by simp only [List.length_cons]; omega
    rw [mayM, oneM_eq m]
    cases c1 : (decide (97 ≤ m.f0) && decide (m.f0 ≤ 122)) with
    | false => exact Evt.step (Evt.const rfl) (fun k => by rw [quillref6_Marks.l0, if_pos p1, if_pos (by omega), hr, between_f, Option.bind_some, c1, if_neg (by simp)]; rfl)
    | true =>
      cases c2 : (decide (0 ≤ m.f1) && decide (m.f1 ≤ 4000)) with
      | false => exact Evt.step (Evt.const rfl) (fun k => by rw [quillref6_Marks.l0, if_pos p1, if_pos (by omega), hr, between_f, Option.bind_some, c1, if_pos rfl, numb_f, Option.bind_some, c2, if_neg (by simp)]; rfl)
      | true =>
        have := ref_loop (m :: r) hl r.length 1 m.f0 (by simp) (by simp) (by omega) rfl
        refine Evt.step (g := fun k => quillref6_Marks.l0 k (m :: r) ((1 : Nat) : Int)) this (fun k => ?_)
        rw [quillref6_Marks.l0, if_pos p1, if_pos (by omega), hr, between_f, Option.bind_some, c1, if_pos rfl, numb_f, Option.bind_some, c2, if_pos rfl, if_neg (by omega), show wrap64 (0 + 1) = ((1 : Nat) : Int) from inc64 (i := 0) (by omega)]
theorem get_loop (l : List SM) (hl : l.length ≤ 100000) (name : Int) : ∀ (d i : Nat), l.length - i = d → i ≤ l.length →
    Evt (fun k => quillref6_Get.l0 k l name i) (match (l.drop i).find? (fun m => decide (m.f0 = name)) with | some m => m.f1 | none => -1) := by
  intro d
  induction d with
  | zero =>
    intro i hd hi
    rw [List.drop_eq_nil_of_le (by omega)]
    exact Evt.step (Evt.const rfl) (fun k => by rw [quillref6_Get.l0, if_neg (by omega)]; rfl)
  | succ d ih =>
    intro i hd hi
    have hlt : i < l.length := by omega
    rw [List.drop_eq_getElem_cons hlt]
    by_cases c : l[i].f0 = name
    · rw [List.find?_cons_of_pos (by simpa using c)]
      exact Evt.step (Evt.const rfl) (fun k => by rw [quillref6_Get.l0, if_pos (by omega), if_pos (by omega), rdT hlt, if_pos c])
    · rw [List.find?_cons_of_neg (by simpa using c)]
      exact Evt.step (ih (i + 1) (by omega) (by omega)) (fun k => by rw [quillref6_Get.l0, if_pos (by omega), if_pos (by omega), rdT hlt, if_neg c, inc64 (by omega)])
theorem get_ev (l : List SM) (hl : l.length ≤ 100000) (name : Int) : Evt (fun k => quillref6_Get.f k l name) (match l.find? (fun m => decide (m.f0 = name)) with | some m => m.f1 | none => -1) := by
  have := get_loop l hl name l.length 0 (by omega) (by omega)
  rw [List.drop_zero] at this
  exact Evt.same this (fun k => rfl)
/-! Set. -/
theorem set_done (l : List SM) (hl : l.length ≤ 100000) (name at_ : Int) : ∀ (d i : Nat) (acc : List SM), l.length - i = d → i ≤ l.length → acc.length ≤ i + 1 → (∀ m ∈ l.drop i, m.f0 ≠ name) →
    Evt (fun k => quillref6_Set.l0 k l name at_ acc true i) (acc ++ l.drop i) := by
  intro d
  induction d with
  | zero =>
    intro i acc hd hi ha hn
    rw [List.drop_eq_nil_of_le (by omega), List.append_nil]
    exact Evt.step (Evt.const rfl) (fun k => by rw [quillref6_Set.l0, if_neg (by omega), if_pos rfl])
  | succ d ih =>
    intro i acc hd hi ha hn
    have hlt : i < l.length := by omega
    rw [List.drop_eq_getElem_cons hlt] at hn ⊢
    have hih := ih (i + 1) (acc ++ [l[i]]) (by omega) (by omega) (by simp; omega) (fun m hm => hn m (List.mem_cons_of_mem _ hm))
    rw [List.append_assoc] at hih
    refine Evt.stepN 2 hih (fun k => ?_)
    show quillref6_Set.l0 (k + 1 + 1) l name at_ acc true i = _
    rw [quillref6_Set.l0, if_pos (by omega), if_pos rfl, quillref6_Set.j1, if_neg (by simp), if_pos (by omega), if_pos (by omega), rdT hlt, if_neg (hn l[i] List.mem_cons_self), if_pos (by omega), inc64 (by omega)]
theorem set_loop (l : List SM) (hl : l.length ≤ 100000) (hs : Sor nmM l) (name at_ : Int) : ∀ (d i : Nat) (acc : List SM), l.length - i = d → i ≤ l.length → acc.length ≤ i →
    Evt (fun k => quillref6_Set.l0 k l name at_ acc false i) (acc ++ setL nmM ⟨name, at_⟩ (l.drop i)) := by
  intro d
  induction d with
  | zero =>
    intro i acc hd hi ha
    rw [List.drop_eq_nil_of_le (by omega)]
    exact Evt.step (Evt.const rfl) (fun k => by rw [quillref6_Set.l0, if_neg (by omega), if_neg (by simp), if_pos (by omega)]; rfl)
  | succ d ih =>
    intro i acc hd hi ha
    have hlt : i < l.length := by omega
    have e0 : l.drop i = l[i] :: l.drop (i + 1) := List.drop_eq_getElem_cons hlt
    have hpd : Sor nmM (l.drop i) := List.Pairwise.sublist (List.drop_sublist i l) hs
    rw [e0] at hpd ⊢
    have hp := List.pairwise_cons.1 hpd
    simp only [setL]
    by_cases c : l[i].f0 < name
    · rw [if_pos (show nmM l[i] < nmM ⟨name, at_⟩ from c)]
      have hih := ih (i + 1) (acc ++ [l[i]]) (by omega) (by omega) (by simp; omega)
      rw [List.append_assoc] at hih
      refine Evt.stepN 2 hih (fun k => ?_)
      show quillref6_Set.l0 (k + 1 + 1) l name at_ acc false i = _
      rw [quillref6_Set.l0, if_pos (by omega), if_neg (by simp), if_pos (by omega), rdT hlt, decide_eq_false (by omega), quillref6_Set.j1, if_neg (by simp), if_pos (by omega), if_pos (by omega), rdT hlt, if_neg (by omega), if_pos (by omega), inc64 (by omega)]
    · rw [if_neg (show ¬ nmM l[i] < nmM ⟨name, at_⟩ from c)]
      by_cases e : l[i].f0 = name
      · rw [if_pos (show nmM l[i] = nmM ⟨name, at_⟩ from e)]
        have hih := set_done l hl name at_ d (i + 1) (acc ++ [⟨name, at_⟩]) (by omega) (by omega) (by simp; omega) (fun m hm => by have := hp.1 m hm; simp only [nmM] at this; omega)
        rw [List.append_assoc] at hih
        refine Evt.stepN 2 hih (fun k => ?_)
        show quillref6_Set.l0 (k + 1 + 1) l name at_ acc false i = _
        rw [quillref6_Set.l0, if_pos (by omega), if_neg (by simp), if_pos (by omega), rdT hlt, decide_eq_true (by omega), quillref6_Set.j1, if_pos rfl, if_pos (by omega), Option.bind_some, if_pos (by omega), if_pos (by omega), rdT hlt, if_pos e, inc64 (by omega)]
      · rw [if_neg (show ¬ nmM l[i] = nmM ⟨name, at_⟩ from e)]
        have hih := set_done l hl name at_ d (i + 1) (acc ++ [⟨name, at_⟩] ++ [l[i]]) (by omega) (by omega) (by simp; omega) (fun m hm => by have := hp.1 m hm; simp only [nmM] at this; omega)
        rw [List.append_assoc, List.append_assoc] at hih
        refine Evt.stepN 2 hih (fun k => ?_)
        show quillref6_Set.l0 (k + 1 + 1) l name at_ acc false i = _
        rw [quillref6_Set.l0, if_pos (by omega), if_neg (by simp), if_pos (by omega), rdT hlt, decide_eq_true (by omega), quillref6_Set.j1, if_pos rfl, if_pos (by omega), Option.bind_some, if_pos (by omega), if_pos (by omega), rdT hlt, if_neg e, if_pos (by simp; omega), inc64 (by omega), List.append_assoc]
theorem set_ev (l : List SM) (hl : l.length ≤ 100000) (hs : Sor nmM l) (name at_ : Int) : Evt (fun k => quillref6_Set.f k l name at_) (setL nmM ⟨name, at_⟩ l) := by
  have := set_loop l hl hs name at_ l.length 0 [] (by omega) (by omega) (by simp)
  rw [List.nil_append, List.drop_zero] at this
  exact Evt.same this (fun k => rfl)
/-! Move. -/
def shA (a d n x : Int) : Int := if x ≤ a then x else if x < a + d then a else x + n - d
def mvL (a d n : Int) : List SM → List SM
  | [] => []
  | m :: r => if m.f1 > a ∧ m.f1 < a + d then mvL a d n r else ⟨m.f0, mn (shA a d n m.f1) 4000⟩ :: mvL a d n r
theorem mvL_len (a d n : Int) : ∀ l, (mvL a d n l).length ≤ l.length
  | [] => Nat.le_refl _
  | m :: r => by
    have := mvL_len a d n r
    unfold mvL
    split <;> simp <;> omega
section
variable (a d : Int) (s : ByteArray) (n : Int) (ha : 0 ≤ a ∧ a ≤ 4000) (hd : 0 ≤ d ∧ d ≤ 4000) (hs : s.size ≤ 4000) (hn : ((runes s.data.toList).length : Int) = n)
include hs hn
theorem n_le : 0 ≤ n ∧ n ≤ 4000 := by
  have := runes_length_le s.data.toList
  simp at this
  omega
include ha hd
theorem movedG (x : Int) (h2 : 0 ≤ x) (h3 : x ≤ 4000) : Fa.patch_Moved.f a d s x = some (shA a d n x) := by
  have hb := n_le s n hs hn
  unfold Fa.patch_Moved.f shA
  by_cases c : x ≤ a
  · rw [if_pos c, if_pos c]
  · rw [if_neg c, if_neg c, w64 (n := a + d) (by omega) (by omega)]
    by_cases e : x < a + d
    · rw [if_pos e, if_pos e]
    · rw [if_neg e, if_neg e, utf8_RuneCountInString.f, if_pos (by omega), Option.bind_some, hn, w64 (n := x + n) (by omega) (by omega), w64 (by omega) (by omega)]
theorem shiftG (x : Int) (h2 : 0 ≤ x) (h3 : x ≤ 4000) : quillref4_Shift.f a d s x = some (shA a d n x) := by
  have hb := n_le s n hs hn
  unfold quillref4_Shift.f shA
  by_cases c : x ≤ a
  · rw [if_pos c, if_pos c]
  · rw [if_neg c, if_neg c, w64 (n := a + d) (by omega) (by omega)]
    by_cases e : x < a + d
    · rw [if_pos e, if_pos e]
    · rw [if_neg e, if_neg e, quillref1_Len.f, cv_9_178.f, if_pos (by omega), Option.bind_some, Option.bind_some, hn, w64 (n := x + n) (by omega) (by omega), w64 (by omega) (by omega)]
theorem movL_loop (l : List SM) (hl : l.length ≤ 100000) (ho : ∀ m ∈ l, oneM m = true) : ∀ (q i : Nat) (acc : List SM), l.length - i = q → i ≤ l.length → acc.length ≤ i →
    Evt (fun k => Fa.marks_Moved.l0 k acc l (l.length : Int) i a d s) (acc ++ mvL a d n (l.drop i)) := by
  intro q
  induction q with
  | zero =>
    intro i acc hq hi hacc
    rw [List.drop_eq_nil_of_le (by omega), mvL, List.append_nil]
    exact Evt.step (Evt.const rfl) (fun k => by rw [Fa.marks_Moved.l0, if_neg (by omega)])
  | succ q ih =>
    intro i acc hq hi hacc
    have hlt : i < l.length := by omega
    have hone := ho l[i] (List.getElem_mem hlt)
    simp only [oneM, Bool.and_eq_true, decide_eq_true_eq] at hone
    rw [List.drop_eq_getElem_cons hlt, mvL]
    have hm := movedG a d s n ha hd hs hn l[i].f1 hone.2.1 hone.2.2
    have hw : wrap64 (a + d) = a + d := w64 (by omega) (by omega)
    by_cases c : l[i].f1 > a ∧ l[i].f1 < a + d
    · rw [if_pos c]
      refine Evt.step (ih (i + 1) acc (by omega) (by omega) (by omega)) (fun k => ?_)
      rw [Fa.marks_Moved.l0, if_pos (by omega), if_pos (by omega), if_pos (by omega), rdT hlt, if_pos c.1, hw, if_pos c.2, inc64 (by omega)]
    · rw [if_neg c]
      have hih := ih (i + 1) (acc ++ [⟨l[i].f0, mn (shA a d n l[i].f1) 4000⟩]) (by omega) (by omega) (by simp; omega)
      rw [List.append_assoc] at hih
      refine Evt.step hih (fun k => ?_)
      by_cases e : l[i].f1 > a
      · rw [Fa.marks_Moved.l0, if_pos (by omega), if_pos (by omega), if_pos (by omega), rdT hlt, if_pos e, hw, if_neg (fun h => c ⟨e, h⟩), hm, Option.bind_some, if_pos (by omega), inc64 (by omega)]
      · rw [Fa.marks_Moved.l0, if_pos (by omega), if_pos (by omega), if_pos (by omega), rdT hlt, if_neg e, hm, Option.bind_some, if_pos (by omega), inc64 (by omega)]
theorem movR_loop (l : List SM) (hl : l.length ≤ 100000) (ho : ∀ m ∈ l, oneM m = true) : ∀ (q i : Nat) (acc : List SM), l.length - i = q → i ≤ l.length → acc.length ≤ i →
    Evt (fun k => quillref6_Move.l0 k l acc i a d s) (acc ++ mvL a d n (l.drop i)) := by
  intro q
  induction q with
  | zero =>
    intro i acc hq hi hacc
    rw [List.drop_eq_nil_of_le (by omega), mvL, List.append_nil]
    exact Evt.step (Evt.const rfl) (fun k => by rw [quillref6_Move.l0, if_neg (by omega)])
  | succ q ih =>
    intro i acc hq hi hacc
    have hlt : i < l.length := by omega
    have hone := ho l[i] (List.getElem_mem hlt)
    simp only [oneM, Bool.and_eq_true, decide_eq_true_eq] at hone
    rw [List.drop_eq_getElem_cons hlt, mvL]
    have hm := shiftG a d s n ha hd hs hn l[i].f1 hone.2.1 hone.2.2
    have hw : wrap64 (a + d) = a + d := w64 (by omega) (by omega)
    by_cases c : l[i].f1 > a ∧ l[i].f1 < a + d
    · rw [if_pos c]
      refine Evt.step (ih (i + 1) acc (by omega) (by omega) (by omega)) (fun k => ?_)
      rw [quillref6_Move.l0, if_pos (by omega), if_pos (by omega), rdT hlt, if_pos c.1, hw, if_pos c.2, inc64 (by omega)]
    · rw [if_neg c]
      have hmn : mn 4000 (shA a d n l[i].f1) = mn (shA a d n l[i].f1) 4000 := by unfold mn; split <;> split <;> omega
      have hih := ih (i + 1) (acc ++ [⟨l[i].f0, mn (shA a d n l[i].f1) 4000⟩]) (by omega) (by omega) (by simp; omega)
      rw [List.append_assoc] at hih
      refine Evt.step hih (fun k => ?_)
      by_cases e : l[i].f1 > a
      · rw [quillref6_Move.l0, if_pos (by omega), if_pos (by omega), rdT hlt, if_pos e, hw, if_neg (fun h => c ⟨e, h⟩), hm, Option.bind_some, if_pos (by omega), inc64 (by omega), hmn]
      · rw [quillref6_Move.l0, if_pos (by omega), if_pos (by omega), rdT hlt, if_neg e, hm, Option.bind_some, if_pos (by omega), inc64 (by omega), hmn]
theorem movL_ev (l : List SM) (hl : l.length ≤ 100000) (ho : ∀ m ∈ l, oneM m = true) : Evt (fun k => Fa.marks_Moved.f k l a d s) (mvL a d n l) := by
  have := movL_loop a d s n ha hd hs hn l hl ho l.length 0 [] (by omega) (by omega) (by simp)
  rw [List.nil_append, List.drop_zero] at this
  exact Evt.same this (fun k => rfl)
theorem movR_ev (l : List SM) (hl : l.length ≤ 100000) (ho : ∀ m ∈ l, oneM m = true) : Evt (fun k => quillref6_Move.f k l a d s) (mvL a d n l) := by
  have := movR_loop a d s n ha hd hs hn l hl ho l.length 0 [] (by omega) (by omega) (by simp)
  rw [List.nil_append, List.drop_zero] at this
  exact Evt.same this (fun k => rfl)
end
end Go.Proofs.YtdoebjnfnmfnnaaDoor.Me
