import Derived.Test.YtimecfelcjgpiaaBytes
import Derived.Test.YtimecfelcjgpiaaEvt
import Derived.Test.YtimecfelcjgpiaaCyx4
/-! The page's ops and bytes, in plain Lean. -/
namespace Go.Proofs.Ytimecfelcjgpiaa.Cy
open Go.RowKit Go.Proofs.Ytimecfelcjgpiaa.Q Go.Proofs.Ytimecfelcjgpiaa.F
open Go.Proofs.YtimecfelcjgpiaaW.PrintWords Go.Proofs.YtimecfelcjgpiaaW.PrintLast Go.Proofs.YtimecfelcjgpiaaW.PrintMore

theorem num_f (a : Int) : quilllaw25_num.f a = some a := rfl
theorem rnum_f (a b : Int) : quillref0_Num.f a b = some (decide (0 ≤ a) && decide (a ≤ b)) := by
  rw [quillref0_Num.f]
  by_cases h : a ≥ 0
  · rw [if_pos h, decide_eq_true (show 0 ≤ a from h), Bool.true_and]
  · rw [if_neg h, decide_eq_false (show ¬ 0 ≤ a from h), Bool.false_and]
theorem between_f (a b c : Int) : quillref0_Between.f a b c = some (decide (b ≤ a) && decide (a ≤ c)) := by
  rw [quillref0_Between.f]
  by_cases h : a ≥ b
  · rw [if_pos h, decide_eq_true (show b ≤ a from h), Bool.true_and]
  · rw [if_neg h, decide_eq_false (show ¬ b ≤ a from h), Bool.false_and]
theorem id_f (t s : Int) : quillref24_ID.f t s = some (idB t s) := by
  unfold quillref24_ID.f idB
  rw [between_f, rnum_f, Option.bind_some, Option.bind_some]
  cases (decide (1 ≤ t) && decide (t ≤ 10000)) with
  | true => rw [if_pos rfl, Bool.true_and]
  | false => rw [if_neg (by simp), Bool.false_and]
theorem less_f (t s t2 s2 : Int) : quillref24_Less.f t s t2 s2 = some (lessB t s t2 s2) := by
  unfold quillref24_Less.f lessB
  by_cases h : t < t2
  · rw [if_pos h, decide_eq_true h, Bool.true_or]
  · rw [if_neg h, decide_eq_false h, Bool.false_or]
    by_cases h2 : t = t2
    · rw [if_pos h2, decide_eq_true h2, Bool.true_and]
    · rw [if_neg h2, decide_eq_false h2, Bool.false_and]
theorem rune_f (r : Int) : quillref1_Rune.f r = some (runeB r) := by
  unfold quillref1_Rune.f runeB
  by_cases h1 : r ≥ 1
  · rw [if_pos h1, decide_eq_true (show 1 ≤ r from h1), Bool.true_and]
    by_cases h2 : r ≤ 1114111
    · rw [if_pos h2, decide_eq_true h2, Bool.true_and]
      by_cases h3 : r ≥ 55296
      · rw [if_pos h3, decide_eq_true (show 55296 ≤ r from h3), Bool.true_and]
      · rw [if_neg h3, decide_eq_false (show ¬ 55296 ≤ r from h3), Bool.false_and]
    · rw [if_neg h2, decide_eq_false h2, Bool.false_and]
  · rw [if_neg h1, decide_eq_false (show ¬ 1 ≤ r from h1)]; simp
theorem vec_l0 (v : List Int) (hv : v.length ≤ 140737488355328) : ∀ (d i : Nat), v.length - i = d → i ≤ v.length → Evt (fun k => quillref24_Vector.l0 k v i) ((v.drop i).all vnB && (v.length == 4)) := by
  intro d
  induction d with
  | zero =>
    intro i hd hi
    refine Evt.stepN 1 (Evt.const rfl) (fun k => ?_)
    rw [quillref24_Vector.l0, if_neg (by omega), List.drop_eq_nil_of_le (by omega), List.all_nil, Bool.true_and]
    congr 1
    rw [Bool.eq_iff_iff, beq_iff_eq, beq_iff_eq]
    omega
  | succ d ih =>
    intro i hd hi
    have hlt : i < v.length := by omega
    have hw := inc64 (i := i) (by omega)
    rw [List.drop_eq_getElem_cons hlt, List.all_cons]
    cases h : vnB v[i] with
    | true =>
      rw [Bool.true_and]
      refine Evt.stepN 1 (ih (i + 1) (by omega) (by omega)) (fun k => ?_)
      rw [quillref24_Vector.l0, if_pos (by omega), if_pos (by omega), rd_get hlt, rnum_f, Option.bind_some, show (decide (0 ≤ v[i]) && decide (v[i] ≤ 2000)) = vnB v[i] from rfl, h, if_pos rfl, hw]
    | false =>
      rw [Bool.false_and, Bool.false_and]
      refine Evt.stepN 1 (Evt.const rfl) (fun k => ?_)
      rw [quillref24_Vector.l0, if_pos (by omega), if_pos (by omega), rd_get hlt, rnum_f, Option.bind_some, show (decide (0 ≤ v[i]) && decide (v[i] ≤ 2000)) = vnB v[i] from rfl, h, if_neg (by simp)]
theorem vecB_eq (v : List Int) : vecB v = (v.all vnB && (v.length == 4)) := by
  unfold vecB
  rw [Bool.and_comm]
  congr 1
  rw [Bool.eq_iff_iff]
  simp
theorem vec_f (v : List Int) (hv : v.length ≤ 140737488355328) : Evt (fun k => quillref24_Vector.f k v) (vecB v) := by
  have h := vec_l0 v hv v.length 0 rfl (by omega)
  rw [List.drop_zero, ← vecB_eq] at h
  exact h
theorem j0_true (k : Nat) (a b c d e f g h : Int) (v : List Int) : quillref24_Op.j0 (k + 1) true a b c d e f g h v = some false := by rw [quillref24_Op.j0, if_pos rfl]
theorem op_f (o : OpN) (v : List Int) (hv : v.length ≤ 140737488355328) : Evt (fun k => quillref24_Op.f k o.kind o.time o.site_ o.atime o.asite o.rune o.site o.n v) (opB o v) := by
  obtain ⟨k0, h0⟩ := vec_f v hv
  refine ⟨k0 + 1, fun k hk => ?_⟩
  obtain ⟨m, rfl⟩ : ∃ m, k = m + 1 := ⟨k - 1, by omega⟩
  have g0 : quillref24_Vector.f (m + 1) v = some (vecB v) := h0 (m + 1) (by omega)
  show quillref24_Op.f (m + 1) o.kind o.time o.site_ o.atime o.asite o.rune o.site o.n v = some (opB o v)
  unfold quillref24_Op.f opB
  rw [id_f, Option.bind_some]
  cases h1 : idB o.time o.site_ with
  | false => rw [if_neg (by simp), j0_true]; simp
  | true =>
    rw [if_pos rfl, between_f, Option.bind_some]
    cases h2 : (decide (1 ≤ o.site) && decide (o.site ≤ 4)) with
    | false => rw [if_neg (by simp), j0_true]; simp
    | true =>
      rw [if_pos rfl, between_f, Option.bind_some]
      cases h3 : (decide (1 ≤ o.n) && decide (o.n ≤ 2000)) with
      | false => rw [if_neg (by simp), j0_true]; simp
      | true =>
        rw [if_pos rfl, g0, Option.bind_some]
        cases h4 : vecB v with
        | false => rw [Bool.not_false, j0_true]; simp
        | true =>
          rw [Bool.not_true, quillref24_Op.j0, if_neg (by simp)]
          simp only [Bool.true_and]
          by_cases k2 : o.kind = 2
          · rw [if_pos k2, if_neg (show ¬ o.kind = 1 by omega), if_pos k2]
            cases h5 : (o.atime == 0 && (o.asite == 0)) with
            | true => rw [if_pos rfl, Bool.true_and]
            | false => rw [if_neg (by simp), Bool.false_and]
          · rw [if_neg k2]
            by_cases k1 : o.kind = 1
            · rw [if_pos k1, if_pos k1]
              cases h5 : (o.atime == 0 && (o.asite == 0)) with
              | true => rw [if_pos rfl, rune_f, Option.bind_some, Bool.true_or, Bool.true_and]
              | false =>
                rw [if_neg (by simp), id_f, Option.bind_some, Bool.false_or]
                cases h6 : idB o.atime o.asite with
                | false => rw [if_neg (by simp)]; simp
                | true =>
                  rw [if_pos rfl, less_f, Option.bind_some, Bool.true_and]
                  cases h7 : lessB o.atime o.asite o.time o.site_ with
                  | false => rw [if_neg (by simp)]; simp
                  | true => rw [if_pos rfl, rune_f, Option.bind_some, Bool.true_and]
            · rw [if_neg k1, if_neg k1, if_neg k2]
theorem number1 (k : Nat) (n : Int) : quillref24_number.f (k + 2) n 1 = some (strOfNums (nbytes n 1)) := by
  rw [nb1, quillref24_number.f, if_pos (by decide), if_pos (by decide), show wrap64 (1 - 1) = 0 from (w64 (by omega) (by omega)).trans rfl, quillref24_number.l0, if_pos (by decide), if_pos (by decide), if_pos (by decide), show wrap64 (0 - 1) = -1 from (w64 (by omega) (by omega)).trans rfl, quillref24_number.l0, if_neg (by decide)]
  rfl
theorem number2 (k : Nat) (n : Int) : quillref24_number.f (k + 3) n 2 = some (strOfNums (nbytes n 2)) := by
  rw [nb2, quillref24_number.f, if_pos (by decide), if_pos (by decide), show wrap64 (2 - 1) = 1 from (w64 (by omega) (by omega)).trans rfl, quillref24_number.l0, if_pos (by decide), if_pos (by decide), if_pos (by decide), show wrap64 (1 - 1) = 0 from (w64 (by omega) (by omega)).trans rfl, quillref24_number.l0, if_pos (by decide), if_pos (by decide), if_pos (by simp), show wrap64 (0 - 1) = -1 from (w64 (by omega) (by omega)).trans rfl, quillref24_number.l0, if_neg (by decide)]
  rfl
theorem number3 (k : Nat) (n : Int) : quillref24_number.f (k + 4) n 3 = some (strOfNums (nbytes n 3)) := by
  rw [nb3, quillref24_number.f, if_pos (by decide), if_pos (by decide), show wrap64 (3 - 1) = 2 from (w64 (by omega) (by omega)).trans rfl, quillref24_number.l0, if_pos (by decide), if_pos (by decide), if_pos (by decide), show wrap64 (2 - 1) = 1 from (w64 (by omega) (by omega)).trans rfl, quillref24_number.l0, if_pos (by decide), if_pos (by decide), if_pos (by simp), show wrap64 (1 - 1) = 0 from (w64 (by omega) (by omega)).trans rfl, quillref24_number.l0, if_pos (by decide), if_pos (by decide), if_pos (by simp), show wrap64 (0 - 1) = -1 from (w64 (by omega) (by omega)).trans rfl, quillref24_number.l0, if_neg (by decide), show n / 256 / 256 = n / 65536 by omega]
  rfl
theorem str_app (a b : List Int) : strOfNums a ++ strOfNums b = strOfNums (a ++ b) := by
  apply ByteArray.ext
  apply Array.ext'
  simp [strOfNums]
theorem bytes_l0 (o : OpN) (v : List Int) (hv : v.length = 4) : ∀ (d i : Nat) (x : List Int), v.length - i = d → i ≤ v.length → x.length + 2 * d ≤ 100 → Evt (fun k => quillref24_Bytes.l0 k (strOfNums x) i o.kind o.time o.site_ o.atime o.asite o.rune o.site o.n v) (strOfNums (x ++ seenBytes (v.drop i))) := by
  intro d
  induction d with
  | zero =>
    intro i x hd hi hx
    refine Evt.stepN 1 (Evt.const rfl) (fun k => ?_)
    rw [quillref24_Bytes.l0, if_neg (by omega), List.drop_eq_nil_of_le (by omega), seenBytes, List.append_nil]
  | succ d ih =>
    intro i x hd hi hx
    have hlt : i < v.length := by omega
    have hw := inc64 (i := i) (by omega)
    obtain ⟨k0, h0⟩ := ih (i + 1) (x ++ nbytes v[i] 2) (by omega) (by omega) (by rw [List.length_append, nbytes_len]; omega)
    refine ⟨k0 + 4, fun k hk => ?_⟩
    obtain ⟨m, rfl⟩ : ∃ m, k = m + 4 := ⟨k - 4, by omega⟩
    show quillref24_Bytes.l0 (m + 4) (strOfNums x) i o.kind o.time o.site_ o.atime o.asite o.rune o.site o.n v = _
    rw [quillref24_Bytes.l0, if_pos (by omega), if_pos (by omega), rd_get hlt, number2, Option.bind_some, if_pos (by rw [strOfNums_size, strOfNums_size, nbytes_len]; omega), str_app, hw, List.drop_eq_getElem_cons hlt, seenBytes, ← List.append_assoc]
    exact h0 (m + 3) (by omega)
theorem bytes_f (o : OpN) (v : List Int) (hv : v.length = 4) : Evt (fun k => quillref24_Bytes.f k o.kind o.time o.site_ o.atime o.asite o.rune o.site o.n v) (strOfNums (opBytes o v)) := by
  obtain ⟨k0, h0⟩ := bytes_l0 o v hv 4 0 (headBytes o) (by omega) (by omega) (by simp [headBytes, nbytes_len])
  rw [List.drop_zero] at h0
  refine ⟨k0 + 4, fun k hk => ?_⟩
  obtain ⟨m, rfl⟩ : ∃ m, k = m + 4 := ⟨k - 4, by omega⟩
  have g0 : quillref24_Bytes.l0 (m + 4) (strOfNums (headBytes o)) 0 o.kind o.time o.site_ o.atime o.asite o.rune o.site o.n v = some (strOfNums (opBytes o v)) := h0 (m + 4) (by omega)
  show quillref24_Bytes.f (m + 4) o.kind o.time o.site_ o.atime o.asite o.rune o.site o.n v = _
  unfold quillref24_Bytes.f
  have sz : ∀ (l : List Int), l.length ≤ 50 → ∀ n, n ≤ 3 → ∀ z, (strOfNums l).size + (strOfNums (nbytes z n)).size ≤ 9223372036854775807 := fun l hl n hn z => by rw [strOfNums_size, strOfNums_size, nbytes_len]; omega
  rw [show m + 4 = (m + 2) + 2 from rfl, number1, Option.bind_some, show (m + 2) + 2 = (m + 1) + 3 from rfl, number2, Option.bind_some, if_pos (sz _ (by rw [nbytes_len]; omega) 2 (by omega) _), str_app,
    show (m + 1) + 3 = (m + 2) + 2 from rfl, number1, Option.bind_some, if_pos (sz _ (by simp only [List.length_append, nbytes_len]; omega) 1 (by omega) _), str_app,
    show (m + 2) + 2 = (m + 1) + 3 from rfl, number2, Option.bind_some, if_pos (sz _ (by simp only [List.length_append, nbytes_len]; omega) 2 (by omega) _), str_app,
    show (m + 1) + 3 = (m + 2) + 2 from rfl, number1, Option.bind_some, if_pos (sz _ (by simp only [List.length_append, nbytes_len]; omega) 1 (by omega) _), str_app,
    show (m + 2) + 2 = m + 4 from rfl, number3, Option.bind_some, if_pos (sz _ (by simp only [List.length_append, nbytes_len]; omega) 3 (by omega) _), str_app,
    show m + 4 = (m + 2) + 2 from rfl, number1, Option.bind_some, if_pos (sz _ (by simp only [List.length_append, nbytes_len]; omega) 1 (by omega) _), str_app,
    show (m + 2) + 2 = (m + 1) + 3 from rfl, number2, Option.bind_some, if_pos (sz _ (by simp only [List.length_append, nbytes_len]; omega) 2 (by omega) _), str_app]
  exact g0
theorem bt_bts (s : ByteArray) (i : Nat) (h : i < s.size) : bt s (i : Int) = (bts s)[i]'(by rw [bts_len]; exact h) := by
  rw [bts_get s i h]
  unfold bt
  rw [dif_pos (by simpa using h)]
  simp
theorem part_l0 (s : ByteArray) (p m : Nat) (hs : s.size ≤ 1000) (hp : p + m ≤ s.size) : ∀ (d j : Nat), m - j = d → j ≤ m → Evt (fun k => quillref24_part.l0 k s p m (numB (((bts s).drop p).take j)) j) (prt (bts s) p m) := by
  intro d
  induction d with
  | zero =>
    intro j hd hj
    obtain rfl : j = m := by omega
    refine Evt.stepN 1 (Evt.const rfl) (fun k => ?_)
    rw [quillref24_part.l0, if_neg (by omega)]
    rfl
  | succ d ih =>
    intro j hd hj
    have hw := inc64 (i := j) (by omega)
    have hw2 : wrap64 ((p : Int) + (j : Int)) = ((p + j : Nat) : Int) := by rw [w64] <;> omega
    have hlt : p + j < s.size := by omega
    have e : numB (((bts s).drop p).take (j + 1)) = numF (numB (((bts s).drop p).take j)) (bt s ((p + j : Nat) : Int)) := by
      rw [List.take_succ_eq_append_getElem (by rw [List.length_drop, bts_len]; omega), numB_snoc, bt_bts s (p + j) hlt, List.getElem_drop]
    have h := ih (j + 1) (by omega) (by omega)
    rw [e] at h
    refine Evt.stepN 1 h (fun k => ?_)
    rw [quillref24_part.l0, if_pos (by omega), hw2, if_pos (by omega), if_pos (by omega), hw]
    rfl
theorem part_f (s : ByteArray) (p m : Nat) (hs : s.size ≤ 1000) (hp : p + m ≤ s.size) : Evt (fun k => quillref24_part.f k s p m) (prt (bts s) p m) := by
  have h := part_l0 s p m hs hp m 0 rfl (by omega)
  rw [List.take_zero] at h
  exact h
theorem take_l0 (s : ByteArray) (hs : s.size = 21) : ∀ (d i : Nat), 4 - i = d → i ≤ 4 → Evt (fun k => quillref24_Take.l0 k s i (takeO (bts s)).kind (takeO (bts s)).time (takeO (bts s)).site_ (takeO (bts s)).atime (takeO (bts s)).asite (takeO (bts s)).rune (takeO (bts s)).site (takeO (bts s)).n (takeV (bts s) i))
    (if opB (takeO (bts s)) (takeV (bts s) 4) = true then ((takeO (bts s)).kind, (takeO (bts s)).time, (takeO (bts s)).site_, (takeO (bts s)).atime, (takeO (bts s)).asite, (takeO (bts s)).rune, (takeO (bts s)).site, (takeO (bts s)).n, takeV (bts s) 4, true) else (0, 0, 0, 0, 0, 0, 0, 0, [], false)) := by
  have hl : ∀ i, (takeV (bts s) i).length = i := fun i => by simp [takeV]
  intro d
  induction d with
  | zero =>
    intro i hd hi
    obtain rfl : i = 4 := by omega
    obtain ⟨k0, h0⟩ := op_f (takeO (bts s)) (takeV (bts s) 4) (by rw [hl]; omega)
    refine ⟨k0 + 1, fun k hk => ?_⟩
    obtain ⟨m, rfl⟩ : ∃ m, k = m + 1 := ⟨k - 1, by omega⟩
    show quillref24_Take.l0 (m + 1) s _ _ _ _ _ _ _ _ _ _ = _
    rw [quillref24_Take.l0, if_neg (by decide)]
    refine (congrArg (fun z => Option.bind z _) (h0 m (by omega))).trans ?_
    rw [Option.bind_some]
    cases opB (takeO (bts s)) (takeV (bts s) 4) with
    | true => rw [if_pos rfl, if_pos rfl]
    | false => rw [if_neg (by simp), if_neg (by simp)]
  | succ d ih =>
    intro i hd hi
    have hw := inc64 (i := i) (by omega)
    have hw1 : wrap64 (2 * (i : Int)) = 2 * (i : Int) := by rw [w64] <;> omega
    have hw2 : wrap64 (13 + 2 * (i : Int)) = ((13 + 2 * i : Nat) : Int) := by rw [w64] <;> omega
    obtain ⟨k0, h0⟩ := ih (i + 1) (by omega) (by omega)
    obtain ⟨k1, h1⟩ := part_f s (13 + 2 * i) 2 (by omega) (by omega)
    rw [takeV_snoc] at h0
    refine ⟨k0 + k1 + 1, fun k hk => ?_⟩
    obtain ⟨m, rfl⟩ : ∃ m, k = m + 1 := ⟨k - 1, by omega⟩
    have g1 : quillref24_part.f m s ((13 + 2 * i : Nat) : Int) 2 = some (prt (bts s) (13 + 2 * i) 2) := h1 m (by omega)
    show quillref24_Take.l0 (m + 1) s _ _ _ _ _ _ _ _ _ _ = _
    rw [quillref24_Take.l0, if_pos (by omega), hw1, hw2, g1, Option.bind_some, if_pos (by rw [hl]; omega), hw]
    exact h0 m (by omega)
theorem take_f (s : ByteArray) : Evt (fun k => quillref24_Take.f k s) ((takeF s).1.kind, (takeF s).1.time, (takeF s).1.site_, (takeF s).1.atime, (takeF s).1.asite, (takeF s).1.rune, (takeF s).1.site, (takeF s).1.n, (takeF s).2.1, decide ((takeF s).2.2 = 0)) := by
  by_cases hs : s.size = 21
  · have h := take_l0 s hs 4 0 rfl (by omega)
    have e : ((takeF s).1.kind, (takeF s).1.time, (takeF s).1.site_, (takeF s).1.atime, (takeF s).1.asite, (takeF s).1.rune, (takeF s).1.site, (takeF s).1.n, (takeF s).2.1, decide ((takeF s).2.2 = 0)) = (if opB (takeO (bts s)) (takeV (bts s) 4) = true then ((takeO (bts s)).kind, (takeO (bts s)).time, (takeO (bts s)).site_, (takeO (bts s)).atime, (takeO (bts s)).asite, (takeO (bts s)).rune, (takeO (bts s)).site, (takeO (bts s)).n, takeV (bts s) 4, true) else (0, 0, 0, 0, 0, 0, 0, 0, [], false)) := by
      unfold takeF
      rw [if_pos hs]
      cases opB (takeO (bts s)) (takeV (bts s) 4) with
      | true => rw [if_pos rfl, if_pos rfl]; rfl
      | false => rw [if_neg (by simp), if_neg (by simp)]; rfl
    rw [e]
    obtain ⟨k0, h0⟩ := h
    obtain ⟨k1, h1⟩ := part_f s 0 1 (by omega) (by omega)
    obtain ⟨k2, h2⟩ := part_f s 1 2 (by omega) (by omega)
    obtain ⟨k3, h3⟩ := part_f s 3 1 (by omega) (by omega)
    obtain ⟨k4, h4⟩ := part_f s 4 2 (by omega) (by omega)
    obtain ⟨k5, h5⟩ := part_f s 6 1 (by omega) (by omega)
    obtain ⟨k6, h6⟩ := part_f s 7 3 (by omega) (by omega)
    obtain ⟨k7, h7⟩ := part_f s 10 1 (by omega) (by omega)
    obtain ⟨k8, h8⟩ := part_f s 11 2 (by omega) (by omega)
    refine ⟨k0 + k1 + k2 + k3 + k4 + k5 + k6 + k7 + k8, fun k hk => ?_⟩
    have g1 : quillref24_part.f k s 0 1 = some (prt (bts s) 0 1) := h1 k (by omega)
    have g2 : quillref24_part.f k s 1 2 = some (prt (bts s) 1 2) := h2 k (by omega)
    have g3 : quillref24_part.f k s 3 1 = some (prt (bts s) 3 1) := h3 k (by omega)
    have g4 : quillref24_part.f k s 4 2 = some (prt (bts s) 4 2) := h4 k (by omega)
    have g5 : quillref24_part.f k s 6 1 = some (prt (bts s) 6 1) := h5 k (by omega)
    have g6 : quillref24_part.f k s 7 3 = some (prt (bts s) 7 3) := h6 k (by omega)
    have g7 : quillref24_part.f k s 10 1 = some (prt (bts s) 10 1) := h7 k (by omega)
    have g8 : quillref24_part.f k s 11 2 = some (prt (bts s) 11 2) := h8 k (by omega)
    show quillref24_Take.f k s = _
    rw [quillref24_Take.f, if_pos (by omega), g1, Option.bind_some, g2, Option.bind_some, g3, Option.bind_some, g4, Option.bind_some, g5, Option.bind_some, g6, Option.bind_some, g7, Option.bind_some, g8, Option.bind_some]
    exact h0 k (by omega)
  · rw [takeF_size hs]
    refine (Evt.const rfl).same (fun k => ?_)
    rw [quillref24_Take.f, if_neg (by omega)]
    rfl
end Go.Proofs.Ytimecfelcjgpiaa.Cy
