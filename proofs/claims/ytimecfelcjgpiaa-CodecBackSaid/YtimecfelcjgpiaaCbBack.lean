import Derived.Test.YtimecfelcjgpiaaBytes
import Derived.Test.YtimecfelcjgpiaaEvt
import Derived.Test.YtimecfelcjgpiaaCbx3
/-! CodecBack, in plain Lean. -/
namespace Go.Proofs.Ytimecfelcjgpiaa.Cb
open Go.RowKit Go.Proofs.Ytimecfelcjgpiaa.Q Go.Proofs.Ytimecfelcjgpiaa.F
open Go.Proofs.YtimecfelcjgpiaaW.PrintWords Go.Proofs.YtimecfelcjgpiaaW.PrintLast Go.Proofs.YtimecfelcjgpiaaW.PrintMore

/-- An op's numbers. -/
def opn (x : S32) : OpN := ⟨x.f0, x.f1.f0, x.f1.f1, x.f2.f0, x.f2.f1, x.f3, x.f4, x.f5⟩
theorem num_f (a : Int) : quilllaw25_num.f a = some a := rfl
theorem eqn_l0 (l : List Int) (hl : l.length ≤ 140737488355328) : ∀ (d i : Nat), l.length - i = d → i ≤ l.length → Evt (fun k => quillref0_EqNumbers.l0 k l l i) true := by
  intro d
  induction d with
  | zero =>
    intro i hd hi
    refine Evt.stepN 1 (Evt.const rfl) (fun k => ?_)
    rw [quillref0_EqNumbers.l0, if_neg (by omega)]
  | succ d ih =>
    intro i hd hi
    have hlt : (i : Int) < (l.length : Int) := by omega
    have hw := inc64 (i := i) (by omega)
    refine Evt.stepN 1 (ih (i + 1) (by omega) (by omega)) (fun k => ?_)
    rw [quillref0_EqNumbers.l0, if_pos hlt, if_pos (by omega), if_pos hlt, if_pos (Eq.refl (rd l (i : Int))), hw]
theorem eqn_self (l : List Int) (hl : l.length ≤ 140737488355328) : Evt (fun k => quillref0_EqNumbers.f k l l) true := by
  refine (eqn_l0 l hl l.length 0 rfl (by omega)).same (fun k => ?_)
  rw [quillref0_EqNumbers.f, if_pos (Eq.refl (l.length : Int))]
  rfl
theorem eqo_self (o : OpN) (v : List Int) (hl : v.length ≤ 140737488355328) : Evt (fun k => quillref0_EqOp.f k o.kind o.time o.site_ o.atime o.asite o.rune o.site o.n v o.kind o.time o.site_ o.atime o.asite o.rune o.site o.n v) true := by
  refine (eqn_self v hl).same (fun k => ?_)
  unfold quillref0_EqOp.f
  simp
theorem wakes_f : Evt (fun k => quilllaw25_wakes.f k) true := by
  have hb : opB ⟨2, 5, 1, 0, 0, 0, 2, 3⟩ [4, 2, 0, 0] = true := by decide
  obtain ⟨k0, h0⟩ := eqo_self ⟨2, 5, 1, 0, 0, 0, 2, 3⟩ [4, 2, 0, 0] (by simp)
  refine ⟨k0, fun k hk => ?_⟩
  have h : quillref0_EqOp.f k 2 5 1 0 0 0 2 3 [4, 2, 0, 0] 2 5 1 0 0 0 2 3 [4, 2, 0, 0] = some true := h0 k hk
  have e1 : codec_Bytes.f 2 5 1 0 0 0 2 3 [4, 2, 0, 0] = some (strOfNums (opBytes ⟨2, 5, 1, 0, 0, 0, 2, 3⟩ [4, 2, 0, 0]), 0) := by
    unfold codec_Bytes.f bytesF
    rw [if_pos hb]
  have e2 : codec_Take.f (strOfNums (opBytes ⟨2, 5, 1, 0, 0, 0, 2, 3⟩ [4, 2, 0, 0])) = some (2, 5, 1, 0, 0, 0, 2, 3, [4, 2, 0, 0], 0) := by
    unfold codec_Take.f
    rw [take_bytes hb]
  have e3 := size_str hb
  show quilllaw25_wakes.f k = some true
  unfold quilllaw25_wakes.f
  simp only [Option.bind_some, e1, e2, num_f, h, e3, if_true]
  rfl
theorem take_short (s : ByteArray) (h : s.size ≠ 21) : codec_Take.f s = some (0, 0, 0, 0, 0, 0, 0, 0, [], 9) := by
  unfold codec_Take.f
  rw [takeF_size h]
  rfl
theorem cut_loop (X : List S32) (T : List ByteArray) (i : Nat) (hi : i ≤ 100) (s : ByteArray) (hs : s.size = 21) (hnext : Evt (fun k => quilllaw25_CodecBack.l0 k ((i + 1 : Nat) : Int) X T) true) : ∀ (d j : Nat), 21 - j = d → j ≤ 21 → Evt (fun k => quilllaw25_CodecBack.l1 k i s j X T) true := by
  intro d
  induction d with
  | zero =>
    intro j hd hj
    refine Evt.stepN 1 hnext (fun k => ?_)
    rw [quilllaw25_CodecBack.l1, if_neg (by omega), inc64 (by omega)]
  | succ d ih =>
    intro j hd hj
    have hw := inc64 (i := j) (by omega)
    have hsz : (s.extract 0 ((j : Int)).toNat).size ≠ 21 := by simp; omega
    refine Evt.stepN 1 (ih (j + 1) (by omega) (by omega)) (fun k => ?_)
    rw [quilllaw25_CodecBack.l1, if_pos (by omega), if_pos (by omega), if_pos (by omega), take_short _ hsz, Option.bind_some, num_f, Option.bind_some, if_pos (Eq.refl (9 : Int)), hw]
theorem bytes_op (x : S32) : codec_Bytes.f x.f0 x.f1.f0 x.f1.f1 x.f2.f0 x.f2.f1 x.f3 x.f4 x.f5 x.f6 = some (bytesF (opn x) x.f6) := rfl
theorem take_of (s : ByteArray) : codec_Take.f s = some ((takeF s).1.kind, (takeF s).1.time, (takeF s).1.site_, (takeF s).1.atime, (takeF s).1.asite, (takeF s).1.rune, (takeF s).1.site, (takeF s).1.n, (takeF s).2.1, (takeF s).2.2) := rfl
theorem texts_loop (X : List S32) (T : List ByteArray) (hT : T.length ≤ 140737488355327) : ∀ (d i : Nat), T.length - i = d → i ≤ T.length → Evt (fun k => quilllaw25_CodecBack.l2 k i X T) true := by
  have hdone : ∀ i : Nat, ¬ (i < T.length ∧ i < 8) → Evt (fun k => quilllaw25_CodecBack.l2 k i X T) true := by
    intro i hi
    obtain ⟨k0, h0⟩ := wakes_f
    refine ⟨k0 + 2, fun k hk => ?_⟩
    obtain ⟨m, rfl⟩ : ∃ m, k = m + 2 := ⟨k - 2, by omega⟩
    have h : quilllaw25_wakes.f m = some true := h0 m (by omega)
    show quilllaw25_CodecBack.l2 (m + 2) i X T = some true
    rw [quilllaw25_CodecBack.l2]
    by_cases hil : i < T.length
    · rw [if_pos (by omega), decide_eq_false (by omega), quilllaw25_CodecBack.j5, if_neg (by simp), h]
      rfl
    · rw [if_neg (by omega), quilllaw25_CodecBack.j5, if_neg (by simp), h]
      rfl
  intro d
  induction d with
  | zero => intro i hd hi; exact hdone i (by omega)
  | succ d ih =>
    intro i hd hi
    by_cases hi8 : i < 8
    · have hlt : (i : Int) < (T.length : Int) := by omega
      have hw := inc64 (i := i) (by omega)
      have hnext := ih (i + 1) (by omega) (by omega)
      refine Evt.stepN 2 hnext (fun k => ?_)
      rw [quilllaw25_CodecBack.l2, if_pos hlt, decide_eq_true (show (i : Int) < 8 by omega), quilllaw25_CodecBack.j5, if_pos rfl, if_pos (by omega), if_pos hlt, take_of, Option.bind_some, num_f, Option.bind_some]
      generalize rdOf ByteArray.empty T (i : Int) = s
      by_cases he : (takeF s).2.2 = 0
      · rw [if_pos he]
        obtain ⟨o, v, hov⟩ : ∃ o v, takeF s = (o, v, 0) := ⟨(takeF s).1, (takeF s).2.1, by rw [← he]⟩
        have hb := bytes_take hov
        rw [hov, codec_Bytes.f]
        show ((some (bytesF o v)).bind _) = _
        rw [hb, Option.bind_some, num_f, Option.bind_some, if_pos (Eq.refl (0 : Int)), if_pos rfl, hw]
      · rw [if_neg he, hw]
    · exact hdone i (by omega)
theorem ops_loop (X : List S32) (hX : X.length ≤ 140737488355327) (T : List ByteArray) (hT : T.length ≤ 140737488355327) : ∀ (d i : Nat), X.length - i = d → i ≤ X.length → Evt (fun k => quilllaw25_CodecBack.l0 k i X T) true := by
  have hdone : ∀ i : Nat, ¬ (i < X.length ∧ i < 8) → Evt (fun k => quilllaw25_CodecBack.l0 k i X T) true := by
    intro i hi
    refine Evt.stepN 2 (texts_loop X T hT T.length 0 rfl (by omega)) (fun k => ?_)
    rw [quilllaw25_CodecBack.l0]
    by_cases hil : i < X.length
    · rw [if_pos (by omega), decide_eq_false (by omega), quilllaw25_CodecBack.j1, if_neg (by simp)]
      rfl
    · rw [if_neg (by omega), quilllaw25_CodecBack.j1, if_neg (by simp)]
      rfl
  intro d
  induction d with
  | zero => intro i hd hi; exact hdone i (by omega)
  | succ d ih =>
    intro i hd hi
    by_cases hi8 : i < 8
    · have hlt : (i : Int) < (X.length : Int) := by omega
      have hw := inc64 (i := i) (by omega)
      have hnext := ih (i + 1) (by omega) (by omega)
      obtain ⟨x, hx⟩ : ∃ x, x = rd_T32 X (i : Int) := ⟨_, rfl⟩
      cases hb : opB (opn x) x.f6 with
      | false =>
        have e1 : codec_Bytes.f x.f0 x.f1.f0 x.f1.f1 x.f2.f0 x.f2.f1 x.f3 x.f4 x.f5 x.f6 = some (⟨#[]⟩, 1) := by rw [bytes_op, bytesF, hb, if_neg (by simp)]
        refine Evt.stepN 2 hnext (fun k => ?_)
        rw [quilllaw25_CodecBack.l0, if_pos hlt, decide_eq_true (show (i : Int) < 8 by omega), quilllaw25_CodecBack.j1, if_pos rfl, if_pos (by omega), if_pos hlt, ← hx, e1, Option.bind_some, num_f, Option.bind_some, if_neg (by decide), hw]
      | true =>
        have e1 : codec_Bytes.f x.f0 x.f1.f0 x.f1.f1 x.f2.f0 x.f2.f1 x.f3 x.f4 x.f5 x.f6 = some (strOfNums (opBytes (opn x) x.f6), 0) := by rw [bytes_op, bytesF, hb, if_pos rfl]
        have e2 := take_bytes hb
        have hsz := size_str hb
        generalize strOfNums (opBytes (opn x) x.f6) = s at *
        obtain ⟨k0, h0⟩ := eqo_self (opn x) x.f6 (by rw [opB_len hb]; omega)
        obtain ⟨k1, h1⟩ := cut_loop X T i (by omega) s hsz hnext 21 0 rfl (by omega)
        refine ⟨k0 + k1 + 3, fun k hk => ?_⟩
        obtain ⟨m, rfl⟩ : ∃ m, k = m + 3 := ⟨k - 3, by omega⟩
        have g0 := h0 (m + 1) (by omega)
        have g1 := h1 m (by omega)
        show quilllaw25_CodecBack.l0 (m + 3) i X T = some true
        rw [quilllaw25_CodecBack.l0, if_pos hlt, decide_eq_true (show (i : Int) < 8 by omega), quilllaw25_CodecBack.j1, if_pos rfl, if_pos (by omega), if_pos hlt, ← hx, e1, Option.bind_some, num_f, Option.bind_some, if_pos (Eq.refl (0 : Int)), take_of, e2, Option.bind_some, num_f, Option.bind_some, if_pos (Eq.refl (0 : Int))]
        refine (congrArg (fun z => Option.bind z _) g0).trans ?_
        rw [Option.bind_some, Bool.not_true, quilllaw25_CodecBack.j2, if_neg (by simp)]
        exact g1
    · exact hdone i (by omega)
theorem texts_w (T : List ByteArray) (hT : T.length ≤ 140737488355327) : ∀ (d i : Nat) (n : Int), T.length - i = d → i ≤ T.length → ∃ r, Evt (fun k => quilllaw0_Texts.l0 k T n i) r := by
  intro d
  induction d with
  | zero =>
    intro i n hd hi
    exact ⟨n, Evt.stepN 1 (Evt.const rfl) (fun k => by rw [quilllaw0_Texts.l0, if_neg (by omega)])⟩
  | succ d ih =>
    intro i n hd hi
    have hw := inc64 (i := i) (by omega)
    by_cases h : n < 1048576
    · obtain ⟨r, hr⟩ := ih (i + 1) (wrap64 (n + ((rdOf ByteArray.empty T i).size : Int))) (by omega) (by omega)
      exact ⟨r, Evt.stepN 1 hr (fun k => by rw [quilllaw0_Texts.l0, if_pos (by omega), if_pos h, if_pos (by omega), hw])⟩
    · exact ⟨n, Evt.stepN 1 (Evt.const rfl) (fun k => by rw [quilllaw0_Texts.l0, if_pos (by omega), if_neg h])⟩
theorem ops_w (X : List S32) (hX : X.length ≤ 140737488355327) : ∀ (d i : Nat) (n : Int), X.length - i = d → i ≤ X.length → ∃ r, Evt (fun k => quilllaw0_OpsWeight.l0 k X n i) r := by
  intro d
  induction d with
  | zero =>
    intro i n hd hi
    exact ⟨n, Evt.stepN 1 (Evt.const rfl) (fun k => by rw [quilllaw0_OpsWeight.l0, if_neg (by omega)])⟩
  | succ d ih =>
    intro i n hd hi
    have hw := inc64 (i := i) (by omega)
    by_cases h : n < 1048576
    · obtain ⟨r, hr⟩ := ih (i + 1) (wrap64 (n + (((rd_T32 X i).f6).length : Int))) (by omega) (by omega)
      exact ⟨r, Evt.stepN 1 hr (fun k => by rw [quilllaw0_OpsWeight.l0, if_pos (by omega), if_pos h, if_pos (by omega), hw])⟩
    · exact ⟨n, Evt.stepN 1 (Evt.const rfl) (fun k => by rw [quilllaw0_OpsWeight.l0, if_pos (by omega), if_neg h])⟩
theorem heavy_f (X : List S32) (hX : X.length ≤ 140737488355327) (T : List ByteArray) (hT : T.length ≤ 140737488355327) : ∃ b, Evt (fun k => quilllaw25_Heavy.f k X T) b := by
  obtain ⟨r, k0, h0⟩ := ops_w X hX X.length 0 X.length rfl (by omega)
  obtain ⟨t, k1, h1⟩ := texts_w T hT T.length 0 T.length rfl (by omega)
  by_cases h : r > 2000
  · refine ⟨true, k0, fun k hk => ?_⟩
    show quilllaw25_Heavy.f k X T = some true
    rw [quilllaw25_Heavy.f, quilllaw0_OpsWeight.f, show quilllaw0_OpsWeight.l0 k X X.length 0 = some r from h0 k hk, Option.bind_some, if_pos h]
  · refine ⟨decide (t > 3000), k0 + k1, fun k hk => ?_⟩
    show quilllaw25_Heavy.f k X T = _
    rw [quilllaw25_Heavy.f, quilllaw0_OpsWeight.f, show quilllaw0_OpsWeight.l0 k X X.length 0 = some r from h0 k (by omega), Option.bind_some, if_neg h, quilllaw0_Texts.f, show quilllaw0_Texts.l0 k T T.length 0 = some t from h1 k (by omega), Option.bind_some]
theorem CodecBack_pure (X : List S32) (hX : X.length ≤ 140737488355327) (T : List ByteArray) (hT : T.length ≤ 140737488355327) : ∃ k, quilllaw25_CodecBack.f k X T = some true := by
  obtain ⟨b, k0, h0⟩ := heavy_f X hX T hT
  cases b with
  | true => exact ⟨k0, by rw [quilllaw25_CodecBack.f, show quilllaw25_Heavy.f k0 X T = some true from h0 k0 (Nat.le_refl _)]; rfl⟩
  | false =>
    obtain ⟨k1, h1⟩ := ops_loop X hX T hT X.length 0 rfl (by omega)
    refine ⟨k0 + k1, ?_⟩
    rw [quilllaw25_CodecBack.f, show quilllaw25_Heavy.f (k0 + k1) X T = some false from h0 _ (by omega), Option.bind_some, if_neg (by simp)]
    exact h1 _ (by omega)
end Go.Proofs.Ytimecfelcjgpiaa.Cb
