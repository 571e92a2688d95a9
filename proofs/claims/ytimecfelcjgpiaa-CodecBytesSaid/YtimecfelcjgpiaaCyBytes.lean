import Derived.Test.YtimecfelcjgpiaaCyPure
import Derived.Test.YtimecfelcjgpiaaCyx5
/-! CodecBytes, in plain Lean. -/
namespace Go.Proofs.Ytimecfelcjgpiaa.Cy
open Go.RowKit Go.Proofs.Ytimecfelcjgpiaa.Q Go.Proofs.Ytimecfelcjgpiaa.F
open Go.Proofs.YtimecfelcjgpiaaW.PrintWords Go.Proofs.YtimecfelcjgpiaaW.PrintLast Go.Proofs.YtimecfelcjgpiaaW.PrintMore

def opn (x : S32) : OpN := ⟨x.f0, x.f1.f0, x.f1.f1, x.f2.f0, x.f2.f1, x.f3, x.f4, x.f5⟩
theorem eqn_l0 (l : List Int) (hl : l.length ≤ 140737488355328) : ∀ (d i : Nat), l.length - i = d → i ≤ l.length → Evt (fun k => quillref0_EqNumbers.l0 k l l i) true := by
  intro d
  induction d with
  | zero =>
    intro i hd hi
    refine Evt.stepN 1 (Evt.const rfl) (fun k => ?_)
    rw [quillref0_EqNumbers.l0, if_neg (by omega)]
  | succ d ih =>
    intro i hd hi
    have hlt : (i : Int) < (l.length : Int) := by omega
    have hw := inc64 (i := i) (by omega)
    refine Evt.stepN 1 (ih (i + 1) (by omega) (by omega)) (fun k => ?_)
    rw [quillref0_EqNumbers.l0, if_pos hlt, if_pos (by omega), if_pos hlt, if_pos (Eq.refl (rd l (i : Int))), hw]
theorem eqn_self (l : List Int) (hl : l.length ≤ 140737488355328) : Evt (fun k => quillref0_EqNumbers.f k l l) true := by
  refine (eqn_l0 l hl l.length 0 rfl (by omega)).same (fun k => ?_)
  rw [quillref0_EqNumbers.f, if_pos (Eq.refl (l.length : Int))]
  rfl
theorem eqo_self (o : OpN) (v : List Int) (hl : v.length ≤ 140737488355328) : Evt (fun k => quillref0_EqOp.f k o.kind o.time o.site_ o.atime o.asite o.rune o.site o.n v o.kind o.time o.site_ o.atime o.asite o.rune o.site o.n v) true := by
  refine (eqn_self v hl).same (fun k => ?_)
  unfold quillref0_EqOp.f
  simp
theorem copyn_l0 (l : List Int) (hl : l.length ≤ 100000) : ∀ (d i : Nat), l.length - i = d → i ≤ l.length → Evt (fun k => quillref0_CopyNumbers.l0 k l (l.take i) i) l := by
  intro d
  induction d with
  | zero =>
    intro i hd hi
    refine Evt.stepN 1 (Evt.const rfl) (fun k => ?_)
    rw [quillref0_CopyNumbers.l0, if_neg (by omega), List.take_of_length_le (by omega)]
  | succ d ih =>
    intro i hd hi
    have hw := inc64 (i := i) (by omega)
    have hlt : i < l.length := by omega
    have e : l.take i ++ [rd l (i : Int)] = l.take (i + 1) := by rw [List.take_succ_eq_append_getElem hlt, rd_get hlt]
    refine Evt.stepN 1 (ih (i + 1) (by omega) (by omega)) (fun k => ?_)
    rw [quillref0_CopyNumbers.l0, if_pos (by omega), if_pos (by omega), if_pos (by rw [List.length_take]; omega), hw, e]
theorem copyo_f (o : OpN) (v : List Int) (hl : v.length ≤ 100000) : Evt (fun k => quillref0_CopyOp.f k o.kind o.time o.site_ o.atime o.asite o.rune o.site o.n v) (o.kind, o.time, o.site_, o.atime, o.asite, o.rune, o.site, o.n, v) := by
  obtain ⟨k0, h0⟩ := copyn_l0 v hl v.length 0 rfl (by omega)
  refine ⟨k0, fun k hk => ?_⟩
  have g : quillref0_CopyNumbers.f k v = some v := h0 k hk
  show quillref0_CopyOp.f k o.kind o.time o.site_ o.atime o.asite o.rune o.site o.n v = _
  rw [quillref0_CopyOp.f, g, Option.bind_some]
theorem copys_l0 (l : List ByteArray) (hl : l.length ≤ 100000) : ∀ (d i : Nat), l.length - i = d → i ≤ l.length → Evt (fun k => quillref0_CopyStrings.l0 k l (l.take i) i) l := by
  intro d
  induction d with
  | zero =>
    intro i hd hi
    refine Evt.stepN 1 (Evt.const rfl) (fun k => ?_)
    rw [quillref0_CopyStrings.l0, if_neg (by omega), List.take_of_length_le (by omega)]
  | succ d ih =>
    intro i hd hi
    have hw := inc64 (i := i) (by omega)
    have hlt : i < l.length := by omega
    have e : l.take i ++ [rdOf ByteArray.empty l (i : Int)] = l.take (i + 1) := by
      rw [List.take_succ_eq_append_getElem hlt]; simp [rdOf, hlt]
    refine Evt.stepN 1 (ih (i + 1) (by omega) (by omega)) (fun k => ?_)
    rw [quillref0_CopyStrings.l0, if_pos (by omega), if_pos (by omega), if_pos (by rw [List.length_take]; omega), hw, e]
theorem copys_f (l : List ByteArray) (hl : l.length ≤ 100000) : Evt (fun k => quillref0_CopyStrings.f k l) l := by
  have h := copys_l0 l hl l.length 0 rfl (by omega)
  rw [List.take_zero] at h
  exact h
theorem wakes_f : Evt (fun k => quilllaw25_wakes.f k) true := by
  have hb : opB ⟨2, 5, 1, 0, 0, 0, 2, 3⟩ [4, 2, 0, 0] = true := by decide
  obtain ⟨k0, h0⟩ := eqo_self ⟨2, 5, 1, 0, 0, 0, 2, 3⟩ [4, 2, 0, 0] (by simp)
  refine ⟨k0, fun k hk => ?_⟩
  have h : quillref0_EqOp.f k 2 5 1 0 0 0 2 3 [4, 2, 0, 0] 2 5 1 0 0 0 2 3 [4, 2, 0, 0] = some true := h0 k hk
  have e1 : codec_Bytes.f 2 5 1 0 0 0 2 3 [4, 2, 0, 0] = some (strOfNums (opBytes ⟨2, 5, 1, 0, 0, 0, 2, 3⟩ [4, 2, 0, 0]), 0) := by
    unfold codec_Bytes.f bytesF
    rw [if_pos hb]
  have e2 : codec_Take.f (strOfNums (opBytes ⟨2, 5, 1, 0, 0, 0, 2, 3⟩ [4, 2, 0, 0])) = some (2, 5, 1, 0, 0, 0, 2, 3, [4, 2, 0, 0], 0) := by
    unfold codec_Take.f
    rw [take_bytes hb]
  have e3 := size_str hb
  show quilllaw25_wakes.f k = some true
  unfold quilllaw25_wakes.f
  simp only [Option.bind_some, e1, e2, num_f, h, e3, if_true]
  rfl
theorem texts_w (T : List ByteArray) (hs : ∀ s ∈ T, s.size ≤ 140737488355327) (hT : T.length ≤ 140737488355327) : ∀ (d i : Nat) (n : Int), T.length - i = d → i ≤ T.length → 0 ≤ n → n ≤ 140737489403903 → ∃ r, Evt (fun k => quilllaw0_Texts.l0 k T n i) r ∧ n ≤ r := by
  intro d
  induction d with
  | zero =>
    intro i n hd hi h0 h1
    exact ⟨n, Evt.stepN 1 (Evt.const rfl) (fun k => by rw [quilllaw0_Texts.l0, if_neg (by omega)]), Int.le_refl _⟩
  | succ d ih =>
    intro i n hd hi h0 h1
    have hw := inc64 (i := i) (by omega)
    have hlt : i < T.length := by omega
    by_cases h : n < 1048576
    · have hrd : rdOf ByteArray.empty T (i : Int) = T[i] := by simp [rdOf, hlt]
      have hz := hs T[i] (List.getElem_mem _)
      have hw2 : wrap64 (n + (T[i].size : Int)) = n + (T[i].size : Int) := by rw [w64] <;> omega
      obtain ⟨r, hr, hle⟩ := ih (i + 1) (n + (T[i].size : Int)) (by omega) (by omega) (by omega) (by omega)
      exact ⟨r, Evt.stepN 1 hr (fun k => by rw [quilllaw0_Texts.l0, if_pos (by omega), if_pos h, if_pos (by omega), hrd, hw2, hw]), by omega⟩
    · exact ⟨n, Evt.stepN 1 (Evt.const rfl) (fun k => by rw [quilllaw0_Texts.l0, if_pos (by omega), if_neg h]), Int.le_refl _⟩
theorem ops_w (X : List S32) (hs : ∀ x ∈ X, x.f6.length ≤ 140737488355327) (hX : X.length ≤ 140737488355327) : ∀ (d i : Nat) (n : Int), X.length - i = d → i ≤ X.length → 0 ≤ n → n ≤ 140737489403903 → ∃ r, Evt (fun k => quilllaw0_OpsWeight.l0 k X n i) r ∧ n ≤ r ∧ (r ≤ 2000 → ∀ x ∈ X.drop i, (x.f6.length : Int) ≤ 2000) := by
  intro d
  induction d with
  | zero =>
    intro i n hd hi h0 h1
    exact ⟨n, Evt.stepN 1 (Evt.const rfl) (fun k => by rw [quilllaw0_OpsWeight.l0, if_neg (by omega)]), Int.le_refl _, fun _ x hx => by rw [List.drop_eq_nil_of_le (by omega)] at hx; cases hx⟩
  | succ d ih =>
    intro i n hd hi h0 h1
    have hw := inc64 (i := i) (by omega)
    have hlt : i < X.length := by omega
    by_cases h : n < 1048576
    · have hrd : rd_T32 X (i : Int) = X[i] := by simp [rd_T32, hlt]
      have hz := hs X[i] (List.getElem_mem _)
      have hw2 : wrap64 (n + (X[i].f6.length : Int)) = n + (X[i].f6.length : Int) := by rw [w64] <;> omega
      obtain ⟨r, hr, hle, ha⟩ := ih (i + 1) (n + (X[i].f6.length : Int)) (by omega) (by omega) (by omega) (by omega)
      refine ⟨r, Evt.stepN 1 hr (fun k => by rw [quilllaw0_OpsWeight.l0, if_pos (by omega), if_pos h, if_pos (by omega), hrd, hw2, hw]), by omega, fun h2 x hx => ?_⟩
      rw [List.drop_eq_getElem_cons hlt] at hx
      rcases List.mem_cons.1 hx with rfl | hx
      · omega
      · exact ha h2 x hx
    · exact ⟨n, Evt.stepN 1 (Evt.const rfl) (fun k => by rw [quilllaw0_OpsWeight.l0, if_pos (by omega), if_neg h]), Int.le_refl _, fun h2 => by omega⟩
theorem heavy_f (X : List S32) (hs : ∀ x ∈ X, x.f6.length ≤ 140737488355327) (hX : X.length ≤ 140737488355327) (T : List ByteArray) (ht : ∀ s ∈ T, s.size ≤ 140737488355327) (hT : T.length ≤ 140737488355327) :
    ∃ b, Evt (fun k => quilllaw25_Heavy.f k X T) b ∧ (b = false → X.length ≤ 2000 ∧ (∀ x ∈ X, x.f6.length ≤ 2000) ∧ T.length ≤ 3000) := by
  obtain ⟨r, ⟨k0, h0⟩, hr, ha⟩ := ops_w X hs hX X.length 0 X.length rfl (by omega) (by omega) (by omega)
  obtain ⟨t, ⟨k1, h1⟩, htl⟩ := texts_w T ht hT T.length 0 T.length rfl (by omega) (by omega) (by omega)
  by_cases h : r > 2000
  · refine ⟨true, ⟨k0, fun k hk => ?_⟩, fun h => by cases h⟩
    show quilllaw25_Heavy.f k X T = some true
    rw [quilllaw25_Heavy.f, quilllaw0_OpsWeight.f, show quilllaw0_OpsWeight.l0 k X X.length 0 = some r from h0 k hk, Option.bind_some, if_pos h]
  · refine ⟨decide (t > 3000), ⟨k0 + k1, fun k hk => ?_⟩, fun hb => ?_⟩
    · show quilllaw25_Heavy.f k X T = _
      rw [quilllaw25_Heavy.f, quilllaw0_OpsWeight.f, show quilllaw0_OpsWeight.l0 k X X.length 0 = some r from h0 k (by omega), Option.bind_some, if_neg h, quilllaw0_Texts.f, show quilllaw0_Texts.l0 k T T.length 0 = some t from h1 k (by omega), Option.bind_some]
    · have h3 : ¬ t > 3000 := of_decide_eq_false hb
      refine ⟨by omega, fun x hx => ?_, by omega⟩
      have := ha (by omega) x (by simpa using hx)
      omega
theorem take_two (s : ByteArray) : (takeF s).2.2 = 0 ∨ ((takeF s).2.2 = 9 ∧ (takeF s).2.1 = []) := by
  unfold takeF
  split
  · split
    · exact .inl rfl
    · exact .inr ⟨rfl, rfl⟩
  · exact .inr ⟨rfl, rfl⟩
theorem take_len (s : ByteArray) : (takeF s).2.1.length ≤ 4 := by
  unfold takeF
  split
  · split
    · simp [takeV]
    · simp
  · simp
theorem take_of (s : ByteArray) : codec_Take.f s = some ((takeF s).1.kind, (takeF s).1.time, (takeF s).1.site_, (takeF s).1.atime, (takeF s).1.asite, (takeF s).1.rune, (takeF s).1.site, (takeF s).1.n, (takeF s).2.1, (takeF s).2.2) := rfl
theorem l2_loop (T : List ByteArray) (hT : T.length ≤ 100000) : ∀ (d i : Nat), T.length - i = d → i ≤ T.length → Evt (fun k => quilllaw25_CodecBytes.l2 k T i) true := by
  intro d
  induction d with
  | zero =>
    intro i hd hi
    obtain ⟨k0, h0⟩ := wakes_f
    refine ⟨k0 + 1, fun k hk => ?_⟩
    obtain ⟨m, rfl⟩ : ∃ m, k = m + 1 := ⟨k - 1, by omega⟩
    have h : quilllaw25_wakes.f m = some true := h0 m (by omega)
    show quilllaw25_CodecBytes.l2 (m + 1) T i = some true
    rw [quilllaw25_CodecBytes.l2, if_neg (by omega), h]
    rfl
  | succ d ih =>
    intro i hd hi
    have hw := inc64 (i := i) (by omega)
    obtain ⟨k0, h0⟩ := ih (i + 1) (by omega) (by omega)
    obtain ⟨s, hs⟩ : ∃ s, s = rdOf ByteArray.empty T (i : Int) := ⟨_, rfl⟩
    obtain ⟨k1, h1⟩ := take_f s
    obtain ⟨k2, h2⟩ := eqo_self (takeF s).1 (takeF s).2.1 (by have := take_len s; omega)
    refine ⟨k0 + k1 + k2 + 1, fun k hk => ?_⟩
    obtain ⟨m, rfl⟩ : ∃ m, k = m + 1 := ⟨k - 1, by omega⟩
    have g0 : quilllaw25_CodecBytes.l2 m T ((i + 1 : Nat) : Int) = some true := h0 m (by omega)
    have g1 : quillref24_Take.f m s = some ((takeF s).1.kind, (takeF s).1.time, (takeF s).1.site_, (takeF s).1.atime, (takeF s).1.asite, (takeF s).1.rune, (takeF s).1.site, (takeF s).1.n, (takeF s).2.1, decide ((takeF s).2.2 = 0)) := h1 m (by omega)
    have g2 : quillref0_EqOp.f m (takeF s).1.kind (takeF s).1.time (takeF s).1.site_ (takeF s).1.atime (takeF s).1.asite (takeF s).1.rune (takeF s).1.site (takeF s).1.n (takeF s).2.1 (takeF s).1.kind (takeF s).1.time (takeF s).1.site_ (takeF s).1.atime (takeF s).1.asite (takeF s).1.rune (takeF s).1.site (takeF s).1.n (takeF s).2.1 = some true := h2 m (by omega)
    show quilllaw25_CodecBytes.l2 (m + 1) T i = some true
    rw [quilllaw25_CodecBytes.l2, if_pos (by omega), if_pos (by omega), ← hs, take_of, g1]
    rcases take_two s with e | ⟨e, _⟩
    · rw [e]
      simp only [Option.bind_some, num_f, g2, hw, g0, decide_true, beq_self_eq_true, bne_self_eq_false, if_true, Bool.false_eq_true, if_false]
    · rw [e]
      have d9 : decide ((9 : Int) = 0) = false := by decide
      have b9 : ((9 : Int) == 0) = false := by decide
      simp only [Option.bind_some, num_f, g2, hw, g0, d9, b9, bne_self_eq_false, if_true, Bool.false_eq_true, if_false]
theorem j3_f (X : List S32) (T0 : List ByteArray) (i : Nat) (hi : i < X.length) (hi8 : i ≤ 100) (x : S32) (hx : rd_T32 X (i : Int) = x) (hl : x.f6.length ≤ 2000) (T : List ByteArray) (s : ByteArray) (e : Int) (hnext : Evt (fun k => quilllaw25_CodecBytes.l0 k T ((i + 1 : Nat) : Int) X T0) true) :
    Evt (fun k => quilllaw25_CodecBytes.j3 k T i s e e s X T0 x.f0 x.f1.f0 x.f1.f1 x.f2.f0 x.f2.f1 x.f3 x.f4 x.f5 x.f6) true := by
  obtain ⟨k0, h0⟩ := hnext
  obtain ⟨k1, h1⟩ := eqo_self (opn x) x.f6 (by omega)
  have hw := inc64 (i := i) (by omega)
  refine ⟨k0 + k1 + 1, fun k hk => ?_⟩
  obtain ⟨m, rfl⟩ : ∃ m, k = m + 1 := ⟨k - 1, by omega⟩
  have g0 : quilllaw25_CodecBytes.l0 m T ((i + 1 : Nat) : Int) X T0 = some true := h0 m (by omega)
  have g1 : quillref0_EqOp.f m x.f0 x.f1.f0 x.f1.f1 x.f2.f0 x.f2.f1 x.f3 x.f4 x.f5 x.f6 x.f0 x.f1.f0 x.f1.f1 x.f2.f0 x.f2.f1 x.f3 x.f4 x.f5 x.f6 = some true := h1 m (by omega)
  show quilllaw25_CodecBytes.j3 (m + 1) T i s e e s X T0 x.f0 x.f1.f0 x.f1.f1 x.f2.f0 x.f2.f1 x.f3 x.f4 x.f5 x.f6 = some true
  rw [quilllaw25_CodecBytes.j3, num_f, Option.bind_some, if_pos (Eq.refl e), if_pos rfl, if_pos (by omega), if_pos (by omega), hx, g1, Option.bind_some, if_pos rfl, hw, g0]
theorem l1_loop (X : List S32) (T0 : List ByteArray) (i : Nat) (hi : i < X.length) (hi8 : i ≤ 100) (x : S32) (hx : rd_T32 X (i : Int) = x) (hl : x.f6.length ≤ 2000) (s : ByteArray) (hs : s.size = 21) (e : Int)
    (hnext : ∀ T : List ByteArray, T.length ≤ 3000 + 24 * (i + 1) → Evt (fun k => quilllaw25_CodecBytes.l0 k T ((i + 1 : Nat) : Int) X T0) true) : ∀ (d j : Nat) (T : List ByteArray), 21 - j = d → j ≤ 21 → T.length + d ≤ 3000 + 24 * (i + 1) →
    Evt (fun k => quilllaw25_CodecBytes.l1 k T i s e e s j X T0 x.f0 x.f1.f0 x.f1.f1 x.f2.f0 x.f2.f1 x.f3 x.f4 x.f5 x.f6) true := by
  intro d
  induction d with
  | zero =>
    intro j T hd hj hT
    refine Evt.stepN 1 (j3_f X T0 i hi hi8 x hx hl T s e (hnext T (by omega))) (fun k => ?_)
    rw [quilllaw25_CodecBytes.l1, if_neg (by omega)]
  | succ d ih =>
    intro j T hd hj hT
    have hw := inc64 (i := j) (by omega)
    have hw2 : wrap64 ((i : Int) + (j : Int)) = (i : Int) + j := by rw [w64] <;> omega
    have hcv : cv_9_39.f s = some (bts s) := by rw [cv_9_39.f, if_pos (by omega)]
    have htm : 0 ≤ Int.tmod ((i : Int) + j) 8 := Int.tmod_nonneg _ (by omega)
    have hb := bts_len s
    refine Evt.stepN 1 (ih (j + 1) (T ++ [strOfNums ((bts s).set ((j : Nat) : Int).toNat (Go.bits .xor .u8 (rd (bts s) j) (shl .u8 1 (Int.tmod ((i : Int) + j) 8))))]) (by omega) (by omega) (by rw [List.length_append, List.length_singleton]; omega)) (fun k => ?_)
    rw [quilllaw25_CodecBytes.l1, if_pos (by omega), hcv, Option.bind_some, if_pos (by omega), if_pos (by omega), hw2, if_pos htm, if_pos (by omega), hw]
theorem ops_loop (X : List S32) (hX : X.length ≤ 2000) (hs : ∀ x ∈ X, x.f6.length ≤ 2000) (T0 : List ByteArray) : ∀ (d i : Nat), X.length - i = d → i ≤ X.length → ∀ T : List ByteArray, T.length ≤ 3000 + 24 * i → i ≤ 8 → Evt (fun k => quilllaw25_CodecBytes.l0 k T i X T0) true := by
  have hdone : ∀ (i : Nat) (T : List ByteArray), T.length ≤ 3000 + 24 * i → i ≤ 8 → ¬ (i < X.length ∧ i < 8) → Evt (fun k => quilllaw25_CodecBytes.l0 k T i X T0) true := by
    intro i T hT h8 hi
    refine Evt.stepN 2 (l2_loop T (by omega) T.length 0 rfl (by omega)) (fun k => ?_)
    rw [quilllaw25_CodecBytes.l0]
    by_cases hil : i < X.length
    · rw [if_pos (by omega), decide_eq_false (by omega), quilllaw25_CodecBytes.j1, if_neg (by simp)]
      rfl
    · rw [if_neg (by omega), quilllaw25_CodecBytes.j1, if_neg (by simp)]
      rfl
  intro d
  induction d with
  | zero => intro i hd hi T hT h8; exact hdone i T hT h8 (by omega)
  | succ d ih =>
    intro i hd hi T hT h8
    by_cases hi8 : i < 8
    · have hlt : i < X.length := by omega
      obtain ⟨x, hx⟩ : ∃ x, rd_T32 X (i : Int) = x := ⟨_, rfl⟩
      have hxe : x = X[i] := by rw [← hx]; simp [rd_T32, hlt]
      have hl : x.f6.length ≤ 2000 := by rw [hxe]; exact hs _ (List.getElem_mem _)
      obtain ⟨k1, h1⟩ := copyo_f (opn x) x.f6 (by omega)
      obtain ⟨k2, h2⟩ := op_f (opn x) x.f6 (by omega)
      cases hb : opB (opn x) x.f6 with
      | true =>
        have hsz := size_str hb
        obtain ⟨k3, h3⟩ := bytes_f (opn x) x.f6 (opB_len hb)
        have e1 : codec_Bytes.f x.f0 x.f1.f0 x.f1.f1 x.f2.f0 x.f2.f1 x.f3 x.f4 x.f5 x.f6 = some (strOfNums (opBytes (opn x) x.f6), 0) := by
          show some (bytesF (opn x) x.f6) = _
          rw [bytesF, if_pos hb]
        generalize strOfNums (opBytes (opn x) x.f6) = s at *
        obtain ⟨k0, h0⟩ := l1_loop X T0 i hlt (by omega) x hx hl s hsz 0 (fun T' hT' => ih (i + 1) (by omega) (by omega) T' hT' (by omega)) 21 0 (T ++ [s, s ++ (⟨#[120]⟩ : ByteArray), s.extract 0 20]) rfl (by omega) (by rw [List.length_append]; simp only [List.length_cons, List.length_nil]; omega)
        refine ⟨k0 + k1 + k2 + k3 + 2, fun k hk => ?_⟩
        obtain ⟨m, rfl⟩ : ∃ m, k = m + 2 := ⟨k - 2, by omega⟩
        have g1 : quillref0_CopyOp.f m x.f0 x.f1.f0 x.f1.f1 x.f2.f0 x.f2.f1 x.f3 x.f4 x.f5 x.f6 = some (x.f0, x.f1.f0, x.f1.f1, x.f2.f0, x.f2.f1, x.f3, x.f4, x.f5, x.f6) := h1 m (by omega)
        have g2 : quillref24_Op.f m x.f0 x.f1.f0 x.f1.f1 x.f2.f0 x.f2.f1 x.f3 x.f4 x.f5 x.f6 = some true := hb ▸ h2 m (by omega)
        have g3 : quillref24_Bytes.f m x.f0 x.f1.f0 x.f1.f1 x.f2.f0 x.f2.f1 x.f3 x.f4 x.f5 x.f6 = some s := h3 m (by omega)
        show quilllaw25_CodecBytes.l0 (m + 2) T i X T0 = some true
        rw [quilllaw25_CodecBytes.l0, if_pos (by omega), decide_eq_true (show (i : Int) < 8 by omega), quilllaw25_CodecBytes.j1, if_pos rfl, if_pos (by omega), if_pos (by omega), hx, g1, Option.bind_some, e1, Option.bind_some, g2, Option.bind_some, if_pos rfl, g3, Option.bind_some, if_pos (by omega), if_pos (by decide), if_pos (by omega), Option.bind_some, if_pos (by simp only [List.length_cons, List.length_nil]; omega)]
        exact h0 m (by omega)
      | false =>
        have e1 : codec_Bytes.f x.f0 x.f1.f0 x.f1.f1 x.f2.f0 x.f2.f1 x.f3 x.f4 x.f5 x.f6 = some (⟨#[]⟩, 1) := by
          show some (bytesF (opn x) x.f6) = _
          rw [bytesF, hb, if_neg (by simp)]
        obtain ⟨k0, h0⟩ := j3_f X T0 i hlt (by omega) x hx hl T ⟨#[]⟩ 1 (ih (i + 1) (by omega) (by omega) T (by omega) (by omega))
        refine ⟨k0 + k1 + k2 + 2, fun k hk => ?_⟩
        obtain ⟨m, rfl⟩ : ∃ m, k = m + 2 := ⟨k - 2, by omega⟩
        have g1 : quillref0_CopyOp.f m x.f0 x.f1.f0 x.f1.f1 x.f2.f0 x.f2.f1 x.f3 x.f4 x.f5 x.f6 = some (x.f0, x.f1.f0, x.f1.f1, x.f2.f0, x.f2.f1, x.f3, x.f4, x.f5, x.f6) := h1 m (by omega)
        have g2 : quillref24_Op.f m x.f0 x.f1.f0 x.f1.f1 x.f2.f0 x.f2.f1 x.f3 x.f4 x.f5 x.f6 = some false := hb ▸ h2 m (by omega)
        show quilllaw25_CodecBytes.l0 (m + 2) T i X T0 = some true
        rw [quilllaw25_CodecBytes.l0, if_pos (by omega), decide_eq_true (show (i : Int) < 8 by omega), quilllaw25_CodecBytes.j1, if_pos rfl, if_pos (by omega), if_pos (by omega), hx, g1, Option.bind_some, e1, Option.bind_some, g2, Option.bind_some, if_neg (by simp)]
        exact h0 m (by omega)
    · exact hdone i T hT h8 (by omega)
theorem CodecBytes_pure (X : List S32) (hs : ∀ x ∈ X, x.f6.length ≤ 140737488355327) (hX : X.length ≤ 140737488355327) (T : List ByteArray) (ht : ∀ s ∈ T, s.size ≤ 140737488355327) (hT : T.length ≤ 140737488355327) : ∃ k, quilllaw25_CodecBytes.f k X T = some true := by
  obtain ⟨b, ⟨k0, h0⟩, hb⟩ := heavy_f X hs hX T ht hT
  cases b with
  | true => exact ⟨k0, by rw [quilllaw25_CodecBytes.f, show quilllaw25_Heavy.f k0 X T = some true from h0 k0 (Nat.le_refl _)]; rfl⟩
  | false =>
    obtain ⟨b1, b2, b3⟩ := hb rfl
    obtain ⟨k1, h1⟩ := copys_f T (by omega)
    obtain ⟨k2, h2⟩ := ops_loop X b1 b2 T X.length 0 rfl (by omega) T (by omega) (by omega)
    refine ⟨k0 + k1 + k2, ?_⟩
    rw [quilllaw25_CodecBytes.f, show quilllaw25_Heavy.f (k0 + k1 + k2) X T = some false from h0 _ (by omega), Option.bind_some, if_neg (by simp), show quillref0_CopyStrings.f (k0 + k1 + k2) T = some T from h1 _ (by omega), Option.bind_some]
    exact h2 _ (by omega)
end Go.Proofs.Ytimecfelcjgpiaa.Cy
